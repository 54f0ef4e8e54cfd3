/-
  Helpers of the statements: fencepostkit.
-/
import Derived.Test.YtoolpifkfgileaaDoorDo
namespace Go.Proofs.YtoolpifkfgileaaDoor
open Go Go.RowKit Own

/-- the first k of both are the same -/
def agree (xs ys : List Int) (k : Nat) : Prop := ∀ j, j < k → nth xs j = nth ys j
theorem agree_all {xs ys : List Int} (hl : xs.length = ys.length) (h : agree xs ys xs.length) : xs = ys := by
  apply List.ext_getElem hl
  intro i h1 h2
  have := h i h1
  rwa [nth_eq h1, nth_eq h2] at this
theorem agree_not {xs ys : List Int} {k : Nat} (h : nth xs k ≠ nth ys k) : xs ≠ ys := fun e => h (by rw [e])

set_option maxHeartbeats 2000000 in
/-- fencepostkit.Same -/
theorem kitSame_any (w : World) (p q : Option Addr) (c d : Nat) (xs ys : List Int) (hx : Rd w p (ints xs)) (hy : Rd w q (ints ys)) (hlx : xs.length ≤ 1099511627776) (hly : ys.length ≤ 1099511627776) :
    Calls Tryd.prog 43 #[.slice p xs.length c, .slice q ys.length d] w fun e w' => e = .returned (.bool (decide (xs = ys))) ∧ KeepBut (fun _ => False) w w' := by
  by_cases hl : xs.length = ys.length
  · by_cases h0 : xs.length = 0
    · have h1 : xs = [] := List.eq_nil_of_length_eq_zero h0
      have h2 : ys = [] := List.eq_nil_of_length_eq_zero (by omega)
      subst h1 h2
      clear hx hy hl h0 hlx hly
      go_enter Tryd.func43, Tryd.ntmps43
      go_wp2_with fail
      go_loopw [5] (fun i wr => i = .int .i64 0 ∧ KeepBut (fun _ => False) w wr) (fun _ _ => 0)
      case atStart => exact ⟨rfl, KeepBut.refl _ w⟩
      case round =>
        obtain ⟨rfl, hd⟩ := hrel
        go_wp2_with fail
        go_ret
        exact ⟨rfl, hd⟩
    · obtain ⟨b, o, rfl, _⟩ := hx.ptr (by rw [ints_length]; omega)
      obtain ⟨b', o', rfl, _⟩ := hy.ptr (by rw [ints_length]; omega)
      have HX := Lib.hid hx; have HY := Lib.hid hy
      have hlI : (ys.length : Int) = xs.length := by omega
      have HL := Lib.hid hl
      clear hx hy hl h0
      go_enter Tryd.func43, Tryd.ntmps43
      go_wp2_with fail
      go_loopw [5] (fun i wr => ∃ k : Nat, k ≤ xs.length ∧ i = .int .i64 k ∧ agree xs ys k ∧ KeepBut (fun _ => False) w wr) (fun i _ => xs.length - (intOf i).toNat)
      case atStart => exact ⟨0, Nat.zero_le _, rfl, fun j hj => by omega, KeepBut.refl _ w⟩
      case round =>
        obtain ⟨k, hk, rfl, hag, hd⟩ := hrel
        have HA := Lib.hid hag; have HD := Lib.hid hd
        clear hag hd
        by_cases hlt : k < xs.length
        · have hltI : (k : Int) < (xs.length : Int) := by omega
          have c1 : ∀ w', KeepBut (fun _ => False) wr.drew w' → w'.cell? ⟨b, o + k, none⟩ = some (.int .i64 (nth xs k)) := fun w' h => (HX.out.stay ((HD.out.trans (KeepBut.drew _ wr)).trans h)).int k hlt
          have c2 : ∀ w', KeepBut (fun _ => False) wr.drew w' → w'.cell? ⟨b', o' + k, none⟩ = some (.int .i64 (nth ys k)) := fun w' h => (HY.out.stay ((HD.out.trans (KeepBut.drew _ wr)).trans h)).int k (by have := HL.out; omega)
          have h0k : (0 : Int) ≤ k := by omega
          have hW : IntKind.i64.wrap ((k : Int) + 1) = k + 1 := IntWalk.i64_in _ (by omega)
          by_cases heq : nth xs k = nth ys k
          · have hag' := Lib.hid (show agree xs ys (k + 1) from fun j hj => by
              rcases Nat.lt_or_ge j k with h | h
              · exact HA.out j h
              · rw [show j = k by omega]; exact heq)
            have hb : (nth xs k != nth ys k) = false := by simp [heq]
            clear heq
            go_upto_region 6 with fail
            refine wp_own0 (by kernel_rfl) (fun i => [[], [], [0, 1], [0, 1, 2], [], [], [4, 5], [4, 5, 6], [0, 1, 2, 3, 4, 5, 6, 7]].getD i []) (fun _ => []) (fun _ => []) [] (by kernel_rfl) (fun _ => none) ?_
            repeat
              apply lex_quiet rfl rfl
              · intro w' hk; go_simp; with_reducible rfl
              simp only [Act.put, List.setIfInBounds_toArray, List.set_cons_zero, List.set_cons_succ]
            refine lex_nil ?_
            intro w1 hk1 _ _
            have HD1 : Hid (KeepBut (fun _ => False) w w1) := (HD.out.trans (KeepBut.drew _ wr)).trans hk1
            clear c1 c2 hk1
            go_wp2_with fail
            refine ⟨⟨k + 1, by omega, by simp, hag'.out, HD1.out⟩, ?_⟩
            simp only [intOf]
            omega
          · have hne := Lib.hid (show decide (xs = ys) = false by simpa using agree_not heq)
            have hb : (nth xs k != nth ys k) = true := by simp [heq]
            clear heq
            go_upto_region 6 with fail
            refine wp_own0 (by kernel_rfl) (fun i => [[], [], [0, 1], [0, 1, 2], [], [], [4, 5], [4, 5, 6], [0, 1, 2, 3, 4, 5, 6, 7]].getD i []) (fun _ => []) (fun _ => []) [] (by kernel_rfl) (fun _ => none) ?_
            repeat
              apply lex_quiet rfl rfl
              · intro w' hk; go_simp; with_reducible rfl
              simp only [Act.put, List.setIfInBounds_toArray, List.set_cons_zero, List.set_cons_succ]
            refine lex_nil ?_
            intro w1 hk1 _ _
            have HD1 : Hid (KeepBut (fun _ => False) w w1) := (HD.out.trans (KeepBut.drew _ wr)).trans hk1
            clear c1 c2 hk1
            go_wp2_with fail
            go_ret
            exact ⟨ret_bool hne.out.symm, HD1.out⟩
        · have he := Lib.hid (show decide (xs = ys) = true by simpa using agree_all HL.out (by rw [show xs.length = k by omega]; exact HA.out))
          have hge : ¬ (k : Int) < (xs.length : Int) := by omega
          go_wp2_with fail
          go_ret
          exact ⟨ret_bool he.out.symm, HD.out⟩
  · have he := Lib.hid (show decide (xs = ys) = false by simpa using fun e => hl (by rw [e]))
    have hb : ((xs.length : Int) != (ys.length : Int)) = true := by simp; omega
    clear hx hy hl
    go_enter Tryd.func43, Tryd.ntmps43
    go_wp2_with fail
    go_ret
    exact ⟨ret_bool he.out.symm, KeepBut.refl _ _⟩

end Go.Proofs.YtoolpifkfgileaaDoor
