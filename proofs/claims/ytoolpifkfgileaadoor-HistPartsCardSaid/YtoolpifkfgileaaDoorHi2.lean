/-
  Package hist: which kinds may be.
-/
import Derived.Test.YtoolpifkfgileaaDoorHi1
namespace Go.Proofs.YtoolpifkfgileaaDoor
open Go Go.RowKit Own

theorem badKind_any (k : Int) (w : World) : Calls Tryd.prog 50 #[.int .i64 k] w fun e w' => e = .returned (.bool (!kindB k)) ∧ w' = w := by
  by_cases h1 : k < 1
  · have HE := Lib.hid (show (!kindB k) = true by unfold kindB; simp; omega)
    go_enter Tryd.func50, Tryd.ntmps50
    go_wp2
    go_ret
    exact ⟨ret_bool HE.out.symm, rfl⟩
  · by_cases h2 : 3 < k
    · have HE := Lib.hid (show (!kindB k) = true by unfold kindB; simp; omega)
      go_enter Tryd.func50, Tryd.ntmps50
      go_wp2
      go_ret
      exact ⟨ret_bool HE.out.symm, rfl⟩
    · have HE := Lib.hid (show (!kindB k) = false by unfold kindB; simp; omega)
      go_enter Tryd.func50, Tryd.ntmps50
      go_wp2
      go_ret
      exact ⟨ret_bool HE.out.symm, rfl⟩

def kindsB (ks : List Int) : Bool := ks.all kindB

set_option maxHeartbeats 4000000 in
theorem idxKind_any (w : World) (p : Option Addr) (c : Nat) (ks : List Int) (hrd : Rd w p (ints ks)) (hl : ks.length ≤ 1099511627776) :
    Calls Tryd.prog 57 #[.slice p ks.length c, .func (.func 50) #[] #[]] w fun e w' => ∃ v : Int, e = .returned (.int .i64 v) ∧ decide (0 ≤ v) = !kindsB ks ∧ w' = w := by
  have HR := Lib.hid hrd
  have HB := Lib.hid badKind_any
  clear hrd
  go_enter Tryd.func57, Tryd.ntmps57
  go_wp2_with fail
  go_loopw [8] (fun v8 wr => ∃ i : Nat, v8 = .int .i64 i ∧ i ≤ ks.length ∧ (∀ j, j < i → kindB (nth ks j) = true) ∧ wr = w) (fun v _ => ks.length - (intOf v).toNat)
  case atStart => exact ⟨0, rfl, Nat.zero_le _, fun j h => absurd h (Nat.not_lt_zero _), rfl⟩
  case round =>
    obtain ⟨i, rfl, hi, hno, hwr⟩ := hrel
    have hwr := hwr.symm
    subst hwr
    have HNO := Lib.hid hno
    clear hno
    by_cases hlt : i < ks.length
    · have hlti : (i : Int) < ks.length := by omega
      have hi0 : (0 : Int) ≤ i := by omega
      have hWi : IntKind.i64.wrap ((i : Int) + 1) = (i : Int) + 1 := IntWalk.i64_in _ (by omega)
      obtain ⟨b, o, hp, -⟩ := HR.out.ptr (by rw [ints_length]; omega)
      subst hp
      have hc := HR.out.int i hlt
      cases hk : kindB (nth ks i) with
      | true =>
        have HK := Lib.hid hk
        clear hk
        go_wp2_with (go_at_call 50; refine (HB.out _ _).mono ?_; rintro e w' ⟨rfl, hw⟩; have hw := hw.symm; subst hw; rw [HK.out])
        exact ⟨⟨i + 1, by simp, by omega, fun j hj => by
          by_cases e : j = i
          · subst e; exact HK.out
          · exact HNO.out j (by omega), by trivial⟩, by simp only [intOf]; omega⟩
      | false =>
        have HK := Lib.hid hk
        clear hk
        go_wp2_with (go_at_call 50; refine (HB.out _ _).mono ?_; rintro e w' ⟨rfl, hw⟩; have hw := hw.symm; subst hw; rw [HK.out])
        go_ret
        refine ⟨i, rfl, ?_, rfl⟩
        have : kindsB ks = false := by
          unfold kindsB
          rw [← Bool.not_eq_true, List.all_eq_true]
          intro h
          have := h _ (List.getElem_mem hlt)
          rw [← nth_eq hlt, HK.out] at this
          cases this
        rw [this]; simp
    · have hnl : ¬ (i : Int) < ks.length := by omega
      go_wp2_with fail
      go_ret
      refine ⟨-1, rfl, ?_, rfl⟩
      have : kindsB ks = true := by
        unfold kindsB
        rw [List.all_eq_true]
        intro x hx
        obtain ⟨j, hj, e⟩ := List.getElem_of_mem hx
        rw [← e, ← nth_eq hj]
        exact HNO.out j (by omega)
      rw [this]; rfl

theorem hasBad_any (w : World) (p : Option Addr) (c : Nat) (ks : List Int) (hrd : Rd w p (ints ks)) (hl : ks.length ≤ 1099511627776) :
    Calls Tryd.prog 49 #[.slice p ks.length c, .func (.func 50) #[] #[]] w fun e w' => e = .returned (.bool (!kindsB ks)) ∧ w' = w := by
  have H := Lib.hid (idxKind_any w p c ks hrd hl)
  clear hrd
  go_enter Tryd.func49, Tryd.ntmps49
  go_wp2_with (go_at_call 57; refine H.out.mono ?_; rintro e w' ⟨v, rfl, hv, hw⟩; have hw := hw.symm; subst hw)
  go_ret
  exact ⟨rfl, rfl⟩

end Go.Proofs.YtoolpifkfgileaaDoor
