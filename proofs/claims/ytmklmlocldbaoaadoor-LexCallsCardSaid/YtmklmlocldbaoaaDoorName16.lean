/-
  lex.Name.
-/
import Derived.Test.YtmklmlocldbaoaaDoorPlaces
namespace Go.Proofs.YtmklmlocldbaoaaDoor
open Go Go.RowKit Own

set_option maxHeartbeats 4000000 in
theorem name_any (s : ByteArray) (w : World) (htab : TabS w) :
    Calls Tryd.prog 14 #[.string s] w fun e w' => e = .returned (.bool (nameB s.data.toList)) ∧ KeepBut (fun _ => False) w w' := by
  have hsl : s.data.toList.length = s.size := by simp
  obtain ⟨m, hm⟩ : ∃ m, (s.data.toList.takeWhile wordB).length = m := ⟨_, rfl⟩
  obtain ⟨r, hr⟩ : ∃ r, reservedB s.data.toList = r := ⟨_, rfl⟩
  have HR := Lib.hid (show ∀ W : World, TabS W → Calls Tryd.prog 15 #[.string s] W fun e w' => e = .returned (.bool r) ∧ KeepBut (fun _ => False) W w' from fun W h => by
    have := isReserved_any s W h
    rw [hr] at this
    exact this)
  have HS := Lib.hid (show ∀ W : World, Calls Tryd.prog 27 #[.string s, .func (.func 28) #[] #[]] W fun e w' => e = .returned (.int .i64 (m : Nat)) ∧ KeepBut (fun _ => False) W w' from fun W => by
    have := span_any wordB word_small 28 (enters_of Tryd.func28 (by kernel_rfl) rfl) inWord_any s W
    rw [hm] at this
    exact this)
  have HT := Lib.hid htab
  clear htab
  by_cases h0 : 0 < s.size
  · have h0i : (0 : Int) < (s.size : Int) := by omega
    by_cases h16 : s.size ≤ 16
    · have h16i : (s.size : Int) ≤ 16 := by omega
      obtain ⟨c, t, hL⟩ : ∃ c t, s.data.toList = c :: t := by
        cases h : s.data.toList with
        | nil => rw [h] at hsl; simp at hsl; omega
        | cons c t => exact ⟨c, t, rfl⟩
      have hz := byte_at (at_ := 0) hL rfl h0
      obtain ⟨k, hk⟩ : ∃ k : Int, kindI (c.toNat : Int) = k := ⟨_, rfl⟩
      have hO := Lib.hid (fun w => of_int (c.toNat : Int) w)
      rw [hk] at hO
      have HE := Lib.hid (show nameB s.data.toList = ((k == 3) && (((m : Int) == (s.size : Int)) && !r)) by
        unfold nameB
        rw [hr, hm, hsl]
        have e1 : (s.data.toList.headD 0) = c := by rw [hL]; rfl
        have e2 : decide (m = s.size) = ((m : Int) == (s.size : Int)) := by
          rw [Bool.eq_iff_iff]; simp; omega
        rw [e1, e2, ← kind_letter, hk]
        simp [h0, h16])
      clear hm hr hL hk hsl h16
      cases h3 : (k == 3) with
      | false =>
        go_enter Tryd.func14, Tryd.ntmps14
        go_wp2_with (go_at_call 26; refine (hO.out _).mono ?_; rintro e w' ⟨rfl, rfl⟩)
        go_ret
        exact ⟨ret_bool (by rw [HE.out, h3]; rfl), KeepBut.refl _ _⟩
      | true =>
        cases h4 : ((m : Int) == (s.size : Int)) with
        | false =>
          go_enter Tryd.func14, Tryd.ntmps14
          go_wp2_with (first
            | (go_at_call 26; refine (hO.out _).mono ?_; rintro e w' ⟨rfl, rfl⟩)
            | (go_at_call 27; refine (HS.out _).mono ?_; rintro e w2 ⟨rfl, hk2⟩; have HK2 := Lib.hid hk2; clear hk2))
          go_ret
          exact ⟨ret_bool (by rw [HE.out, h3, h4]; rfl), HK2.out⟩
        | true =>
          have HEE := Lib.hid (show nameB s.data.toList = !r by rw [HE.out, h3, h4]; rfl)
          go_enter Tryd.func14, Tryd.ntmps14
          go_wp2_with (first
            | (go_at_call 26; refine (hO.out _).mono ?_; rintro e w' ⟨rfl, rfl⟩)
            | (go_at_call 27; refine (HS.out _).mono ?_; rintro e w2 ⟨rfl, hk2⟩; have HK2 := Lib.hid hk2; clear hk2)
            | (go_at_call 15; refine (HR.out _ (HK2.out.tabS HT.out)).mono ?_; rintro e w3 ⟨rfl, hk3⟩; have HK3 := Lib.hid (HK2.out.trans hk3); clear hk3))
          go_ret
          exact ⟨ret_bool HEE.out.symm, HK3.out⟩
    · have h16i : ¬ (s.size : Int) ≤ 16 := by omega
      have HE := Lib.hid (show nameB s.data.toList = false by unfold nameB; rw [hsl]; simp [h16])
      clear hm hr hsl h0 h16
      go_enter Tryd.func14, Tryd.ntmps14
      go_wp2_with fail
      go_ret
      exact ⟨ret_bool HE.out.symm, KeepBut.refl _ _⟩
  · have h0i : ¬ (0 : Int) < (s.size : Int) := by omega
    have HE := Lib.hid (show nameB s.data.toList = false by unfold nameB; rw [hsl]; simp [h0])
    clear hm hr hsl h0
    go_enter Tryd.func14, Tryd.ntmps14
    go_wp2_with fail
    go_ret
    exact ⟨ret_bool HE.out.symm, KeepBut.refl _ _⟩

end Go.Proofs.YtmklmlocldbaoaaDoor
