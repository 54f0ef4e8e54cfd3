/-
  The reference of chapter 19: New, Inserts, Takes, Kind, Check, Same, place.
-/
import Derived.Test.YtopodipjapiaoaaDoorMayLaw
import Derived.BigQuiet
import Derived.Deep.QuietTactic
namespace Go.Proofs.YtopodipjapiaoaaDoor
open Go Go.RowKit Own

theorem refInserts_any (w : World) (op : Int) :
    Calls Tryd.prog 22 #[.int .i64 op] w fun e w' => e = .returned (.bool (insB op)) ∧ w' = w := by
  unfold insB
  cases h1 : (op == 1) <;> cases h3 : (op == 3) <;> cases h5 : (op == 5) <;>
    (go_enter Tryd.func22, Tryd.ntmps22
     go_wp2
     go_ret
     exact ⟨rfl, rfl⟩)

theorem refTakes_any (w : World) (op : Int) :
    Calls Tryd.prog 23 #[.int .i64 op] w fun e w' => e = .returned (.bool (takesB op)) ∧ w' = w := by
  unfold takesB
  cases h1 : (op == 2) <;> cases h3 : (op == 4) <;>
    (go_enter Tryd.func23, Tryd.ntmps23
     go_wp2
     go_ret
     exact ⟨rfl, rfl⟩)

theorem refKind_any (w : World) (op : Int) :
    Calls Tryd.prog 24 #[.int .i64 op] w fun e w' => e = .returned (.int .i64 (kindOf op)) ∧ w' = w := by
  by_cases h1 : op = 1
  · subst h1
    go_enter Tryd.func24, Tryd.ntmps24
    go_wp2
    go_ret
    exact ⟨rfl, rfl⟩
  by_cases h2 : op = 2
  · subst h2
    go_enter Tryd.func24, Tryd.ntmps24
    go_wp2
    go_ret
    exact ⟨rfl, rfl⟩
  by_cases h3 : op = 3
  · subst h3
    go_enter Tryd.func24, Tryd.ntmps24
    go_wp2
    go_ret
    exact ⟨rfl, rfl⟩
  by_cases h4 : op = 4
  · subst h4
    go_enter Tryd.func24, Tryd.ntmps24
    go_wp2
    go_ret
    exact ⟨rfl, rfl⟩
  by_cases h5 : op = 5
  · subst h5
    go_enter Tryd.func24, Tryd.ntmps24
    go_wp2
    go_ret
    exact ⟨rfl, rfl⟩
  by_cases h6 : op = 6
  · subst h6
    go_enter Tryd.func24, Tryd.ntmps24
    go_wp2
    go_ret
    exact ⟨rfl, rfl⟩
  by_cases h7 : op = 7
  · subst h7
    go_enter Tryd.func24, Tryd.ntmps24
    go_wp2
    go_ret
    exact ⟨rfl, rfl⟩
  have e0 := Lib.hid (show kindOf op = 0 by unfold kindOf; rw [if_neg (by omega), if_neg (by omega), if_neg (by omega)])
  have b1 : (op == 1) = false := by simpa using h1
  have b2 : (op == 2) = false := by simpa using h2
  have b3 : (op == 3) = false := by simpa using h3
  have b4 : (op == 4) = false := by simpa using h4
  have b5 : (op == 5) = false := by simpa using h5
  have b6 : (op == 6) = false := by simpa using h6
  have b7 : (op == 7) = false := by simpa using h7
  clear h1 h2 h3 h4 h5 h6 h7
  go_enter Tryd.func24, Tryd.ntmps24
  go_wp2
  go_ret
  exact ⟨ret_int e0.out.symm, rfl⟩

theorem refNew_any (k : Int) (w : World) :
    Calls Tryd.prog 20 #[.int .i64 k] w fun e w' => e = .returned (.tuple #[.agg #[.int .i64 (if kindB k = true then k else 0), .slice none 0 0], .int .i64 (if kindB k = true then 0 else 2)]) ∧ KeepBut (fun _ => False) w w' := by
  by_cases h1 : k < 1
  · have hk : ¬ kindB k = true := fun h => by have := of_decide_eq_true h; omega
    rw [if_neg hk, if_neg hk]
    clear hk
    go_enter Tryd.func20, Tryd.ntmps20
    go_wp2
    refine bodyPost_ret (v := .tuple #[.agg #[.int .i64 0, .slice none 0 0], .int .i64 2]) (by simp [results, Tryd.results20, go_sem]) rfl ⟨rfl, ?_⟩
    exact KeepBut.alloc _ _ _
  · by_cases h3 : 3 < k
    · have hk : ¬ kindB k = true := fun h => by have := of_decide_eq_true h; omega
      rw [if_neg hk, if_neg hk]
      clear hk
      go_enter Tryd.func20, Tryd.ntmps20
      go_wp2
      refine bodyPost_ret (v := .tuple #[.agg #[.int .i64 0, .slice none 0 0], .int .i64 2]) (by simp [results, Tryd.results20, go_sem]) rfl ⟨rfl, ?_⟩
      exact KeepBut.alloc _ _ _
    · have hk : kindB k = true := decide_eq_true (by omega)
      rw [if_pos hk, if_pos hk]
      clear hk
      go_enter Tryd.func20, Tryd.ntmps20
      go_wp2
      refine bodyPost_ret (v := .tuple #[.agg #[.int .i64 k, .slice none 0 0], .int .i64 0]) (by simp [results, Tryd.results20, go_sem]) rfl ⟨rfl, ?_⟩
      exact KeepBut.alloc _ _ _

def thereB (xs : List Int) (i : Nat) (x : Int) : Bool := decide (i < xs.length ∧ nth xs i = x)

set_option maxHeartbeats 4000000 in
theorem place_any (w : World) (p : Option Addr) (c : Nat) (xs : List Int) (x : Int) (hrd : Rd w p (ints xs)) (hl : xs.length ≤ 1099511627776) :
    Calls Tryd.prog 38 #[.slice p xs.length c, .int .i64 x] w fun e w' => (∃ i : Nat, i ≤ xs.length ∧ (∀ j, j < i → nth xs j < x) ∧ (i < xs.length → x ≤ nth xs i) ∧ e = .returned (.tuple #[.int .i64 i, .bool (thereB xs i x)])) ∧ KeepBut (fun _ => False) w w' := by
  have HR := Lib.hid hrd
  clear hrd
  go_enter Tryd.func38, Tryd.ntmps38
  go_wp2_with fail
  go_loopw [6] (fun v6 wr => wr = w ∧ ∃ i : Nat, i ≤ xs.length ∧ v6 = .int .i64 i ∧ ∀ j, j < i → nth xs j < x) (fun i _ => xs.length - (intOf i).toNat)
  case atStart => exact ⟨rfl, 0, Nat.zero_le _, rfl, fun j h => absurd h (Nat.not_lt_zero j)⟩
  case round =>
    obtain ⟨hw, i, hi, rfl, hb⟩ := hrel
    subst hw
    have HB := Lib.hid hb
    clear hb
    have hi0 : (0 : Int) ≤ i := by omega
    have hWi : IntKind.i64.wrap ((i : Int) + 1) = i + 1 := IntWalk.i64_in _ (by omega)
    by_cases hlt : i < xs.length
    · have hltI : (i : Int) < xs.length := by omega
      obtain ⟨b, o, rfl, _⟩ := HR.out.ptr (by rw [ints_length]; omega)
      have c1 : wr.cell? ⟨b, o + i, none⟩ = some (.int .i64 (nth xs i)) := HR.out.int i hlt
      by_cases hx : nth xs i < x
      · go_wp2_with fail
        refine ⟨⟨by first | rfl | trivial, i + 1, by omega, by simp, fun j hj => ?_⟩, ?_⟩
        · rcases Nat.lt_or_ge j i with h | h
          · exact HB.out j h
          · have : j = i := by omega
            subst this; exact hx
        · simp only [intOf]
          omega
      · have hge : x ≤ nth xs i := by omega
        have HG := Lib.hid hge
        have hdec : ∀ r, (nth xs i == x) = r → thereB xs i x = r := fun r h => by
          rw [← h]
          unfold thereB
          by_cases e : nth xs i = x
          · rw [decide_eq_true ⟨hlt, e⟩, e]; exact (beq_self_eq_true _).symm
          · rw [decide_eq_false fun h => e h.2]; exact (beq_eq_false_iff_ne.2 e).symm
        have HDE := Lib.hid hdec
        clear hdec hge
        go_upto_region 4 with fail
        go_quiet (fail)
        go_wp2_with fail
        go_ret2
        exact ⟨⟨i, hi, HB.out, fun _ => HG.out, congrArg (fun r => Ending.returned (.tuple #[.int .i64 (i : Int), .bool r])) (HDE.out (nth xs i == x) rfl).symm⟩, KeepBut.drewN _ _ _⟩
    · have hge : ¬ (i : Int) < (xs.length : Int) := by omega
      have HDE := Lib.hid (show thereB xs i x = false from decide_eq_false fun h => hlt h.1)
      go_upto_region 4 with fail
      go_quiet (fail)
      go_wp2_with fail
      go_ret2
      exact ⟨⟨i, hi, HB.out, fun h => absurd h hlt, congrArg (fun r => Ending.returned (.tuple #[.int .i64 (i : Int), .bool r])) HDE.out.symm⟩, KeepBut.drewN _ _ _⟩

end Go.Proofs.YtopodipjapiaoaaDoor
