/-
  package fencepostref16: letter, digit, words, Reserved, word, digits, Name.
-/
import Derived.Test.YtmklmlocldbaoaaDoorName16
namespace Go.Proofs.YtmklmlocldbaoaaDoor
open Go Go.RowKit Own

theorem rletter_any (c : UInt8) (w : World) :
    Calls Tryd.prog 35 #[byteV c] w fun e w' => e = .returned (.bool (letterB c)) ∧ w' = w := by
  unfold byteV letterB
  by_cases h1 : 97 ≤ c.toNat
  · by_cases h2 : c.toNat ≤ 122
    · have i1 : (97 : Int) ≤ (c.toNat : Int) := by omega
      have i2 : (c.toNat : Int) ≤ 122 := by omega
      have HE := Lib.hid (show (decide (97 ≤ c.toNat) && decide (c.toNat ≤ 122)) = true by simp [h1, h2])
      clear h1 h2
      go_enter Tryd.func35, Tryd.ntmps35
      go_wp2
      go_ret
      exact ⟨ret_bool HE.out.symm, rfl⟩
    · have i1 : (97 : Int) ≤ (c.toNat : Int) := by omega
      have i2 : ¬ (c.toNat : Int) ≤ 122 := by omega
      have HE := Lib.hid (show (decide (97 ≤ c.toNat) && decide (c.toNat ≤ 122)) = false by simp [h2])
      clear h1 h2
      go_enter Tryd.func35, Tryd.ntmps35
      go_wp2
      go_ret
      exact ⟨ret_bool HE.out.symm, rfl⟩
  · have i1 : ¬ (97 : Int) ≤ (c.toNat : Int) := by omega
    have HE := Lib.hid (show (decide (97 ≤ c.toNat) && decide (c.toNat ≤ 122)) = false by simp [h1])
    clear h1
    go_enter Tryd.func35, Tryd.ntmps35
    go_wp2
    go_ret
    exact ⟨ret_bool HE.out.symm, rfl⟩

theorem rdigit_any (c : UInt8) (w : World) :
    Calls Tryd.prog 51 #[byteV c] w fun e w' => e = .returned (.bool (digitB c)) ∧ w' = w := by
  unfold byteV digitB
  by_cases h1 : 48 ≤ c.toNat
  · by_cases h2 : c.toNat ≤ 57
    · have i1 : (48 : Int) ≤ (c.toNat : Int) := by omega
      have i2 : (c.toNat : Int) ≤ 57 := by omega
      have HE := Lib.hid (show (decide (48 ≤ c.toNat) && decide (c.toNat ≤ 57)) = true by simp [h1, h2])
      clear h1 h2
      go_enter Tryd.func51, Tryd.ntmps51
      go_wp2
      go_ret
      exact ⟨ret_bool HE.out.symm, rfl⟩
    · have i1 : (48 : Int) ≤ (c.toNat : Int) := by omega
      have i2 : ¬ (c.toNat : Int) ≤ 57 := by omega
      have HE := Lib.hid (show (decide (48 ≤ c.toNat) && decide (c.toNat ≤ 57)) = false by simp [h2])
      clear h1 h2
      go_enter Tryd.func51, Tryd.ntmps51
      go_wp2
      go_ret
      exact ⟨ret_bool HE.out.symm, rfl⟩
  · have i1 : ¬ (48 : Int) ≤ (c.toNat : Int) := by omega
    have HE := Lib.hid (show (decide (48 ≤ c.toNat) && decide (c.toNat ≤ 57)) = false by simp [h1])
    clear h1
    go_enter Tryd.func51, Tryd.ntmps51
    go_wp2
    go_ret
    exact ⟨ret_bool HE.out.symm, rfl⟩

theorem rwords_any (w : World) :
    Calls Tryd.prog 36 #[] w fun e w' => e = .returned (.slice (some ⟨w.heap.size, 0, none⟩) 19 19) ∧ w' = w.alloc (.cells (wordsL.map fun l => Value.string ⟨l.toArray⟩).toArray 9) := by
  go_enter Tryd.func36, Tryd.ntmps36
  go_wp2
  go_ret
  exact ⟨rfl, rfl⟩

theorem str_beq (a b : ByteArray) : (a.toList == b.toList) = decide (a.data.toList = b.data.toList) := by
  rw [ByteArray.toList_eq, ByteArray.toList_eq, Bool.eq_iff_iff]; simp

set_option maxHeartbeats 2000000 in
theorem rReserved_any (s : ByteArray) (w : World) :
    Calls Tryd.prog 19 #[.string s] w fun e w' => e = .returned (.bool (reservedB s.data.toList)) ∧ KeepBut (fun _ => False) w w' := by
  have hR := Lib.hid (rwords_any w)
  obtain ⟨W, hW⟩ : ∃ W, w.alloc (.cells (wordsL.map fun l => Value.string ⟨l.toArray⟩).toArray 9) = W := ⟨_, rfl⟩
  have HK := Lib.hid (show KeepBut (fun _ => False) w W by rw [← hW]; exact KeepBut.alloc _ _ _)
  have HC := Lib.hid (show ∀ j (h : j < 19), W.cell? ⟨w.heap.size, j, none⟩ = some (.string ⟨(wordsL[j]'h).toArray⟩) from fun j h => by
    have := words_cells w j (by rw [List.length_map]; exact h)
    rw [hW, Nat.zero_add] at this
    rw [this]
    simp [List.getD, show j < wordsL.length from h]
    rfl)
  rw [hW] at hR
  obtain ⟨L, hL⟩ : ∃ L, s.data.toList = L := ⟨_, rfl⟩
  have HL := Lib.hid hL
  clear hW hL
  go_enter Tryd.func19, Tryd.ntmps19
  go_wp2_with (go_at_call 36; refine hR.out.mono ?_; rintro e w' ⟨rfl, hw⟩; have hw := hw.symm; subst hw)
  go_loopw [4] (fun v4 wr => ∃ i : Nat, v4 = .int .i64 i ∧ i ≤ 19 ∧ (∀ j (h : j < 19), j < i → (wordsL[j]'h) ≠ L) ∧ wr = W) (fun v4 _ => 19 - (intOf v4).toNat)
  case atStart => exact ⟨0, rfl, by decide, fun j _ h => absurd h (Nat.not_lt_zero _), rfl⟩
  case round =>
    obtain ⟨i, rfl, hi, hno, hwr⟩ := hrel
    have hwr := hwr.symm
    subst hwr
    have HNO := Lib.hid hno
    clear hno
    by_cases hlt : i < 19
    · have hlti : (i : Int) < 19 := by omega
      have hi0 : (0 : Int) ≤ i := by omega
      have hc := HC.out i hlt
      obtain ⟨X, hX⟩ : ∃ X : ByteArray, (⟨(wordsL[i]'hlt).toArray⟩ : ByteArray) = X := ⟨_, rfl⟩
      have hXd : X.data.toList = wordsL[i]'hlt := by rw [← hX]
      rw [hX] at hc
      have hb := str_beq X s
      rw [hXd, HL.out] at hb
      clear hX hXd
      by_cases he : (wordsL[i]'hlt) = L
      · rw [decide_eq_true he] at hb
        have HE := Lib.hid (show reservedB s.data.toList = true by
          rw [HL.out, ← he]; unfold reservedB
          exact List.contains_iff_mem.2 (List.getElem_mem hlt))
        clear he
        go_wp2_with fail
        go_ret
        exact ⟨ret_bool HE.out.symm, HK.out⟩
      · rw [decide_eq_false he] at hb
        have HE := Lib.hid he
        clear he
        go_wp2_with fail
        exact ⟨⟨i + 1, by simp, by omega, fun j h hj => by
          by_cases e : j = i
          · subst e; exact HE.out
          · exact HNO.out j h (by omega), by trivial⟩, by simp only [intOf]; omega⟩
    · have hnl : ¬ (i : Int) < 19 := by omega
      have HE := Lib.hid (show reservedB s.data.toList = false by
        rw [HL.out]; unfold reservedB
        rw [← Bool.not_eq_true]
        intro h
        obtain ⟨j, hj, e⟩ := List.getElem_of_mem (List.contains_iff_mem.1 h)
        exact HNO.out j hj (by have : wordsL.length = 19 := rfl
                               omega) e)
      go_wp2_with fail
      go_ret
      exact ⟨ret_bool HE.out.symm, HK.out⟩

theorem tw_step {p : UInt8 → Bool} : ∀ (l : List UInt8) (n : Nat) (c : UInt8), l[n]? = some c → n ≤ (l.takeWhile p).length → (p c = true → n + 1 ≤ (l.takeWhile p).length) ∧ (p c = false → n = (l.takeWhile p).length)
  | [], n, c, h, _ => by simp at h
  | a :: l, 0, c, h, _ => by
    cases h
    refine ⟨fun hp => by simp [List.takeWhile, hp], fun hp => by simp [List.takeWhile, hp]⟩
  | a :: l, n + 1, c, h, hn => by
    cases hp : p a with
    | false => simp [List.takeWhile, hp] at hn
    | true =>
      have ih := tw_step l n c (by simpa using h) (by simpa [List.takeWhile, hp] using hn)
      simpa [List.takeWhile, hp] using ih

/-- the byte at a place within -/
theorem byte_in {s : ByteArray} {n : Nat} (h : n < s.size) : ∃ c : UInt8, s.data.toList[n]? = some c ∧ ∀ h : n < s.size, (s[n]'h).toNat = c.toNat := by
  have hl : n < s.data.toList.length := by simpa using h
  exact ⟨_, List.getElem?_eq_getElem hl, byte_at (r := s.data.toList.drop (n + 1)) rfl (List.drop_eq_getElem_cons hl)⟩

def rwordN (l : List UInt8) : Nat := if letterB (l.headD 0) = true then (l.takeWhile wordB).length else 0

theorem tw_le (p : UInt8 → Bool) (l : List UInt8) : (l.takeWhile p).length ≤ l.length := takeWhile_le p l

set_option maxHeartbeats 4000000 in
theorem rword_any (s : ByteArray) (w : World) (hbig : s.size ≤ 1099511627776) :
    Calls Tryd.prog 37 #[.string s] w fun e w' => e = .returned (.int .i64 (rwordN s.data.toList : Nat)) ∧ w' = w := by
  have hsl : s.data.toList.length = s.size := by simp
  have HLT := Lib.hid rletter_any; have HDG := Lib.hid rdigit_any
  by_cases h0 : s.size = 0
  · have h0i : ((s.size : Int) == 0) = true := by simp [h0]
    have HE := Lib.hid (show rwordN s.data.toList = 0 by
      have : s.data.toList = [] := List.eq_nil_of_length_eq_zero (by omega)
      rw [this]; rfl)
    clear hsl
    go_enter Tryd.func37, Tryd.ntmps37
    go_wp2_with fail
    go_ret
    exact ⟨ret_int (by rw [HE.out]; rfl), rfl⟩
  · have h0i : ((s.size : Int) == 0) = false := by simp [h0]
    have hsz : 0 < s.size := by omega
    obtain ⟨c, hc, hz⟩ := byte_in hsz
    have hhd : s.data.toList.headD 0 = c := by
      cases hl : s.data.toList with
      | nil => rw [hl] at hc; cases hc
      | cons a t => rw [hl] at hc; cases hc; rfl
    cases hlc : letterB c with
    | false =>
      have HE := Lib.hid (show rwordN s.data.toList = 0 by unfold rwordN; rw [hhd, hlc]; rfl)
      have HLC := Lib.hid hlc
      clear hsl hc hhd hlc
      go_enter Tryd.func37, Tryd.ntmps37
      go_wp2_with (go_at_call 35; refine (HLT.out c _).mono ?_; rintro e w' ⟨rfl, hw⟩; have hw := hw.symm; subst hw; rw [HLC.out])
      go_ret
      exact ⟨ret_int (by rw [HE.out]; rfl), rfl⟩
    | true =>
      obtain ⟨m, hm⟩ : ∃ m, (s.data.toList.takeWhile wordB).length = m := ⟨_, rfl⟩
      have HE := Lib.hid (show rwordN s.data.toList = m by unfold rwordN; rw [hhd, hlc, if_pos rfl, hm])
      have hms : m ≤ s.size := by rw [← hm, ← hsl]; exact takeWhile_le _ _
      have hwc : wordB c = true := by unfold wordB; rw [hlc]; rfl
      have h1m : 1 ≤ m := by
        have := (tw_step (p := wordB) s.data.toList 0 c hc (Nat.zero_le _)).1 hwc
        omega
      have HM := Lib.hid hm
      have HLC := Lib.hid hlc
      clear hsl hc hhd hlc hm hwc
      go_enter Tryd.func37, Tryd.ntmps37
      go_upto_block 0 with (go_at_call 35; refine (HLT.out c _).mono ?_; rintro e w' ⟨rfl, hw⟩; have hw := hw.symm; subst hw; rw [HLC.out])
      go_wp2_with fail
      clear hz
      go_loopw [3] (fun v3 wr => ∃ n : Nat, v3 = .int .i64 n ∧ 1 ≤ n ∧ n ≤ m ∧ wr = w) (fun v3 _ => m - (intOf v3).toNat)
      case atStart => exact ⟨1, rfl, Nat.le_refl _, h1m, rfl⟩
      case round =>
        obtain ⟨n, rfl, hn1, hn, hwr⟩ := hrel
        have hwr := hwr.symm
        subst hwr
        have hn0 : (0 : Int) ≤ n := by omega
        have hWi : IntKind.i64.wrap ((n : Int) + 1) = (n : Int) + 1 := IntWalk.i64_in _ (by omega)
        by_cases hns : n < s.size
        · have hnsi : (n : Int) < (s.size : Int) := by omega
          obtain ⟨d, hd, hz⟩ := byte_in hns
          obtain ⟨q1, q2⟩ := tw_step (p := wordB) s.data.toList n d hd (by rw [HM.out]; exact hn)
          rw [HM.out] at q1 q2
          have HQ1 := Lib.hid q1; have HQ2 := Lib.hid q2
          have h95 := byte_beq d 95 (by decide)
          clear hd q1 q2
          cases hld : letterB d with
          | true =>
            have hnm := HQ1.out (by unfold wordB; rw [hld]; rfl)
            have HLD := Lib.hid hld
            clear hld h95
            go_wp2_with (go_at_call 35; refine (HLT.out d _).mono ?_; rintro e w' ⟨rfl, hw⟩; have hw := hw.symm; subst hw; rw [HLD.out])
            exact ⟨⟨n + 1, by simp, by omega, hnm, by trivial⟩, by simp only [intOf]; omega⟩
          | false =>
            cases hdd : digitB d with
            | true =>
              have hnm := HQ1.out (by unfold wordB; rw [hld, hdd]; rfl)
              have HLD := Lib.hid hld; have HDD := Lib.hid hdd
              clear hld hdd h95
              go_wp2_with (first
                | (go_at_call 35; refine (HLT.out d _).mono ?_; rintro e w' ⟨rfl, hw⟩; have hw := hw.symm; subst hw; rw [HLD.out])
                | (go_at_call 51; refine (HDG.out d _).mono ?_; rintro e w' ⟨rfl, hw⟩; have hw := hw.symm; subst hw; rw [HDD.out]))
              exact ⟨⟨n + 1, by simp, by omega, hnm, by trivial⟩, by simp only [intOf]; omega⟩
            | false =>
              cases hud : (d.toNat == 95) with
              | true =>
                have hnm := HQ1.out (by unfold wordB; rw [hld, hdd, hud]; rfl)
                rw [hud] at h95
                have h95' : ((d.toNat : Int) == 95) = true := h95
                have HLD := Lib.hid hld; have HDD := Lib.hid hdd
                clear hld hdd h95 hud
                go_wp2_with (first
                  | (go_at_call 35; refine (HLT.out d _).mono ?_; rintro e w' ⟨rfl, hw⟩; have hw := hw.symm; subst hw; rw [HLD.out])
                  | (go_at_call 51; refine (HDG.out d _).mono ?_; rintro e w' ⟨rfl, hw⟩; have hw := hw.symm; subst hw; rw [HDD.out]))
                exact ⟨⟨n + 1, by simp, by omega, hnm, by trivial⟩, by simp only [intOf]; omega⟩
              | false =>
                have hnm := HQ2.out (by unfold wordB; rw [hld, hdd, hud]; rfl)
                rw [hud] at h95
                have h95' : ((d.toNat : Int) == 95) = false := h95
                have HLD := Lib.hid hld; have HDD := Lib.hid hdd
                have HNM := Lib.hid hnm
                clear hld hdd h95 hud hnm
                go_wp2_with (first
                  | (go_at_call 35; refine (HLT.out d _).mono ?_; rintro e w' ⟨rfl, hw⟩; have hw := hw.symm; subst hw; rw [HLD.out])
                  | (go_at_call 51; refine (HDG.out d _).mono ?_; rintro e w' ⟨rfl, hw⟩; have hw := hw.symm; subst hw; rw [HDD.out]))
                go_ret
                exact ⟨ret_int (by rw [HE.out, HNM.out]), rfl⟩
        · have hnsi : ¬ (n : Int) < (s.size : Int) := by omega
          have HNM := Lib.hid (show n = m by omega)
          go_wp2_with fail
          go_ret
          exact ⟨ret_int (by rw [HE.out, HNM.out]), rfl⟩

set_option maxHeartbeats 4000000 in
theorem rdigits_any (s : ByteArray) (w : World) (hbig : s.size ≤ 1099511627776) :
    Calls Tryd.prog 48 #[.string s] w fun e w' => e = .returned (.int .i64 ((s.data.toList.takeWhile digitB).length : Nat)) ∧ w' = w := by
  have hsl : s.data.toList.length = s.size := by simp
  have HDG := Lib.hid rdigit_any
  obtain ⟨m, hm⟩ : ∃ m, (s.data.toList.takeWhile digitB).length = m := ⟨_, rfl⟩
  have hms : m ≤ s.size := by rw [← hm, ← hsl]; exact takeWhile_le _ _
  have HM := Lib.hid hm
  rw [hm]
  clear hsl hm
  go_enter Tryd.func48, Tryd.ntmps48
  go_upto_block 0 with fail
  go_wp2_with fail
  go_loopw [3] (fun v3 wr => ∃ n : Nat, v3 = .int .i64 n ∧ n ≤ m ∧ wr = w) (fun v3 _ => m - (intOf v3).toNat)
  case atStart => exact ⟨0, rfl, Nat.zero_le _, rfl⟩
  case round =>
    obtain ⟨n, rfl, hn, hwr⟩ := hrel
    have hwr := hwr.symm
    subst hwr
    have hn0 : (0 : Int) ≤ n := by omega
    have hWi : IntKind.i64.wrap ((n : Int) + 1) = (n : Int) + 1 := IntWalk.i64_in _ (by omega)
    by_cases hns : n < s.size
    · have hnsi : (n : Int) < (s.size : Int) := by omega
      obtain ⟨d, hd, hz⟩ := byte_in hns
      obtain ⟨q1, q2⟩ := tw_step (p := digitB) s.data.toList n d hd (by rw [HM.out]; exact hn)
      rw [HM.out] at q1 q2
      clear hd
      cases hdd : digitB d with
      | true =>
        have hnm := q1 hdd
        have HDD := Lib.hid hdd
        clear hdd q1 q2
        go_wp2_with (go_at_call 51; refine (HDG.out d _).mono ?_; rintro e w' ⟨rfl, hw⟩; have hw := hw.symm; subst hw; rw [HDD.out])
        exact ⟨⟨n + 1, by simp, hnm, by trivial⟩, by simp only [intOf]; omega⟩
      | false =>
        have HNM := Lib.hid (q2 hdd)
        have HDD := Lib.hid hdd
        clear hdd q1 q2
        go_wp2_with (go_at_call 51; refine (HDG.out d _).mono ?_; rintro e w' ⟨rfl, hw⟩; have hw := hw.symm; subst hw; rw [HDD.out])
        go_ret
        exact ⟨ret_int (by rw [HNM.out]), rfl⟩
    · have hnsi : ¬ (n : Int) < (s.size : Int) := by omega
      have HNM := Lib.hid (show n = m by omega)
      go_wp2_with fail
      go_ret
      exact ⟨ret_int (by rw [HNM.out]), rfl⟩

end Go.Proofs.YtmklmlocldbaoaaDoor
