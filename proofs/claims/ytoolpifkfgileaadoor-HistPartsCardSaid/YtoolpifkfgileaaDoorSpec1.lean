/-
  Package spec: the small functions: what each returns.
-/
import Derived.Test.YtoolpifkfgileaaDoorIns
import Derived.Test.YtoolpifkfgileaaDoorLoud
namespace Go.Proofs.YtoolpifkfgileaaDoor
open Go Go.RowKit Own

/-- whose an operation is -/
def kindOf (op : Int) : Int := if op = 1 ∨ op = 2 then 1 else if op = 3 ∨ op = 4 then 2 else if op = 5 ∨ op = 6 ∨ op = 7 then 3 else 0
/-- the numbers rise -/
def strictB (xs : List Int) : Bool := decide (∀ j, j < xs.length → j + 1 < xs.length → nth xs j < nth xs (j + 1))
def kindB (k : Int) : Bool := decide (1 ≤ k ∧ k ≤ 3)
/-- may a content be: the code of an error -/
def chk (k : Int) (xs : List Int) : Int := if kindB k = true ∧ xs.length ≤ 64 ∧ (k = 3 → strictB xs = true) then 0 else 2

theorem ret_int {k : IntKind} {a b : Int} (h : a = b) : Ending.returned (.int k a) = .returned (.int k b) := by rw [h]
theorem ret_bool {a b : Bool} (h : a = b) : Ending.returned (.bool a) = .returned (.bool b) := by rw [h]

set_option maxHeartbeats 400000 in
theorem isKind_any (k : Int) (w : World) :
    Calls Tryd.prog 71 #[.int .i64 k] w fun e w' => e = .returned (.bool (kindB k)) ∧ w' = w := by
  by_cases h : 1 ≤ k
  · by_cases h2 : k ≤ 3
    · go_enter Tryd.func71, Tryd.ntmps71
      go_wp2
      go_ret
      exact ⟨ret_bool (decide_eq_true (by omega)).symm, rfl⟩
    · go_enter Tryd.func71, Tryd.ntmps71
      go_wp2
      go_ret
      exact ⟨ret_bool (decide_eq_false (by omega)).symm, rfl⟩
  · go_enter Tryd.func71, Tryd.ntmps71
    go_wp2
    go_ret
    exact ⟨ret_bool (decide_eq_false (by omega)).symm, rfl⟩

theorem kindOf_out {op : Int} (h : op < 1 ∨ 7 < op) : kindOf op = 0 := by
  rw [kindOf, if_neg (by omega), if_neg (by omega), if_neg (by omega)]

set_option maxHeartbeats 1000000 in
theorem kind_any (op : Int) (w : World) :
    Calls Tryd.prog 52 #[.int .i64 op] w fun e w' => e = .returned (.int .i64 (kindOf op)) ∧ w' = w := by
  by_cases h : op < 1
  · go_enter Tryd.func52, Tryd.ntmps52
    go_wp2
    go_ret
    exact ⟨ret_int (kindOf_out (.inl h)).symm, rfl⟩
  · by_cases h2 : 7 < op
    · go_enter Tryd.func52, Tryd.ntmps52
      go_wp2
      go_ret
      exact ⟨ret_int (kindOf_out (.inr h2)).symm, rfl⟩
    · have H : ∀ k : Nat, 1 ≤ k → k ≤ 7 → (∀ w, (Instr.index 101 (.agg #[.int .i64 0, .int .i64 1, .int .i64 1, .int .i64 2, .int .i64 2, .int .i64 3, .int .i64 3, .int .i64 3]) (.int .i64 (k : Int))).run Tryd.prog w = .ok (.int .i64 (kindOf k)) w) →
          Calls Tryd.prog 52 #[.int .i64 (k : Int)] w fun e w' => e = .returned (.int .i64 (kindOf k)) ∧ w' = w := by
        intro k h1 h2 hk
        generalize kindOf (k : Int) = K at *
        go_enter Tryd.func52, Tryd.ntmps52
        go_wp2
        go_ret
        exact ⟨rfl, rfl⟩
      have : op = (1 : Nat) ∨ op = (2 : Nat) ∨ op = (3 : Nat) ∨ op = (4 : Nat) ∨ op = (5 : Nat) ∨ op = (6 : Nat) ∨ op = (7 : Nat) := by omega
      rcases this with rfl | rfl | rfl | rfl | rfl | rfl | rfl
      · exact H 1 (by omega) (by omega) fun w => by kernel_rfl
      · exact H 2 (by omega) (by omega) fun w => by kernel_rfl
      · exact H 3 (by omega) (by omega) fun w => by kernel_rfl
      · exact H 4 (by omega) (by omega) fun w => by kernel_rfl
      · exact H 5 (by omega) (by omega) fun w => by kernel_rfl
      · exact H 6 (by omega) (by omega) fun w => by kernel_rfl
      · exact H 7 (by omega) (by omega) fun w => by kernel_rfl

theorem nat_beq (a b : Nat) : ((a : Int) == (b : Int)) = decide (a = b) := by
  by_cases h : a = b
  · subst h; simp
  · rw [decide_eq_false h, beq_eq_false_iff_ne]; omega

theorem blk_cell {w : World} {b k : Nat} {cs : Array Value} {T : TypeId} {v : Value} (h : w.heap[b]? = some (.cells cs T (0, 0))) (hk : cs[k]? = some v) : w.cell? ⟨b, k, none⟩ = some v := by
  simp [World.cell?, h, hk]

theorem strict_of {xs : List Int} (h : AscFrom xs 0) : strictB xs = decide (runs xs = xs.length) := by
  unfold strictB
  have e : (∀ j, j < xs.length → j + 1 < xs.length → nth xs j < nth xs (j + 1)) ↔ runs xs = xs.length := by
    have hk : runs xs = xs.length ↔ ∀ j ∈ List.range xs.length, Lib.keeps xs.toArray j = true := by
      unfold runs Lib.compactUpTo
      rw [List.length_map]
      have := List.length_filter_eq_length_iff (p := Lib.keeps xs.toArray) (l := List.range xs.length)
      rw [List.length_range] at this
      exact this
    rw [hk]
    have hg : ∀ j, j < xs.length → xs.toArray[j]! = nth xs j := fun j hj => by simp [nth, hj]
    constructor
    · intro hs j hj
      have hj' := List.mem_range.1 hj
      rcases Nat.eq_zero_or_pos j with rfl | hp
      · simp [Lib.keeps]
      · refine Lib.keeps_pos ?_
        rw [hg j hj', hg (j - 1) (by omega)]
        have := hs (j - 1) (by omega) (by omega)
        rw [show j - 1 + 1 = j by omega] at this
        omega
    · intro hs j hj hj1
      have := hs (j + 1) (List.mem_range.2 hj1)
      simp only [Lib.keeps, decide_eq_true_eq] at this
      rw [show j + 1 - 1 = j by omega, hg (j + 1) hj1, hg j hj] at this
      have h2 := h j (Nat.zero_le _) hj1
      omega
  exact decide_eq_decide.2 e

set_option maxHeartbeats 1000000 in
/-- spec.Check$1: do the items rise? -/
theorem rises_any (w : World) (b : Nat) (k : Int) (p : Option Addr) (c : Nat) (xs : List Int) (hb : w.heap[b]? = some (.cells #[.int .i64 k, .slice p xs.length c] 47 (0, 0)))
    (hrd : Rd w p (ints xs)) (hl : xs.length ≤ 1099511627776) (hp : ∀ a, p = some a → a.spot = none) :
    Calls Tryd.prog 68 #[.pointer (some ⟨b, 0, none⟩)] w fun e w' => e = .returned (.bool (strictB xs)) ∧ KeepBut (fun _ => False) w w' := by
  have hc := blk_cell (k := 1) hb rfl
  have hbl : b < w.heap.size := World.block_lt_of_cell? w _ hc
  by_cases hs : AscFrom xs 0
  · have hd : ascB xs = true := decide_eq_true hs
    have HS := Lib.hid hs; have HR := Lib.hid hrd; have HP := Lib.hid hp; have HB := Lib.hid hb; have HC := Lib.hid hc
    clear hs hrd hp hb hc
    have hC : ∀ w', KeepBut (fun _ => False) w.drew w' → w'.cell? ⟨b, 1, none⟩ = some (.slice p xs.length c) := fun w' hk => hk.cell (show w.drew.cell? _ = _ from HC.out) (fun e => e)
    have hR : Hid (∀ w', KeepBut (fun _ => False) w.drew w' → Rd w' p (ints xs)) := fun w' hk => Rd.keep (w := w.drew) HR.out hk (fun _ _ e => e)
    go_enter Tryd.func68, Tryd.ntmps68
    go_wp2_with fail
    refine wp_own0 (by kernel_rfl) (fun i => [[], [0], [0, 1], [0, 1, 2], [0, 1, 2, 3], [0, 1, 2, 3, 4], [0, 1, 2, 3, 4, 5], [0, 1, 2, 3, 4, 5, 6], [0, 1, 2, 3, 4, 5, 6, 7], [0, 1, 2, 3], [0, 1, 2, 3, 9], [0, 1, 2, 3, 9, 10], [0, 1, 2, 3, 4, 5, 6, 7, 8, 9, 10, 11], [0, 1, 2, 3, 4, 5, 6, 7, 8, 9, 10, 11, 12], [0, 1, 2, 3, 4, 5, 6, 7, 8, 9, 10, 11, 12, 13]].getD i [])
      (fun i => if i = 7 then [6] else []) (fun i => if i = 7 then [6] else []) [] (by kernel_rfl)
      (fun i => if i = 2 then some (sConst (.bool true)) else if i = 6 then some (sOwnI 2 xs) else if i = 7 then some { val := fun _ g => .slice g.p (runs xs) g.c } else none) ?_
    repeat
      apply lex_quiet rfl rfl
      · intro w' hk; go_simp; with_reducible rfl
      simp only [Act.put, List.setIfInBounds_toArray, List.set_cons_zero, List.set_cons_succ]
    refine lex_loud rfl rfl (loud_call 69 #[.slice p xs.length c] (fun w => by kernel_rfl) ⟨default, trivial⟩ (fun g _ => stable_true _) fun w' hk _ _ => (isSorted_any w' p xs c (hR.out w' hk) hl).mono ?_) fun g _ => ?_
    · rintro e w'' ⟨rfl, hq⟩
      exact ⟨default, trivial, by rw [hd]; rfl, hq.keep _, fun b h => h.elim, trivial⟩
    simp only [sConst, Act.put, List.setIfInBounds_toArray, List.set_cons_zero, List.set_cons_succ]
    repeat
      apply lex_quiet rfl rfl
      · intro w' hk; go_simp; with_reducible rfl
      simp only [Act.put, List.setIfInBounds_toArray, List.set_cons_zero, List.set_cons_succ]
    refine lex_loud rfl rfl (loud_call 44 #[.slice p xs.length c] (fun w => by kernel_rfl) ⟨default, trivial⟩ (fun g _ => stable_ownI _ _ _ _ _) fun w' hk _ _ => (clone_any w' p xs c (hR.out w' hk) hl HP.out).mono ?_) fun g _ => ?_
    · rintro e w'' ⟨p', c', rfl, ho, hq⟩
      exact ⟨{ p := p', c := c' }, trivial, rfl, hq.mono fun _ e => e.elim, fun b ⟨a, h1, h2⟩ => by have := ho.lt a h1; exact ⟨.inl (by omega), by omega⟩, ho.base fun _ _ => Nat.zero_le _⟩
    simp only [sOwnI, Act.put, List.setIfInBounds_toArray, List.set_cons_zero, List.set_cons_succ]
    refine lex_loud rfl rfl (loud_call 70 #[.slice g.p xs.length g.c] (fun w => by kernel_rfl) ⟨default, trivial⟩ (fun g _ => stable_true _) fun w' hk hF _ => (compact_any 0 w' g.p xs g.c (hF 6 (by decide)).1 hl).mono ?_) fun g' _ => ?_
    · rintro e w'' ⟨rfl, hq⟩
      exact ⟨{ p := g.p, c := g.c }, trivial, rfl, hq.mono fun b hb => ⟨6, by decide, hb⟩, fun b h => h.elim, trivial⟩
    repeat
      apply lex_quiet rfl rfl
      · intro w' hk; go_simp; with_reducible rfl
      simp only [Act.put, List.setIfInBounds_toArray, List.set_cons_zero, List.set_cons_succ]
    refine lex_nil ?_
    intro w1 hk1 _ _
    go_wp2_with fail
    go_ret
    exact ⟨ret_bool (by rw [strict_of HS.out]; exact nat_beq _ _), (KeepBut.drew _ w).trans hk1⟩
  · have hd : ascB xs = false := decide_eq_false hs
    have HR := Lib.hid hrd; have HP := Lib.hid hp; have HB := Lib.hid hb; have HS := Lib.hid hs
    clear hs hrd hp hb
    go_enter Tryd.func68, Tryd.ntmps68
    go_wp2_with fail
    have hcon : ∀ W, Rd W p (ints xs) → Calls Tryd.prog 69 #[.slice p xs.length c] W fun e w' => e = .returned (.bool false) ∧ ∃ n, w' = W.drewN n := fun W h => by
      rw [← hd]; exact isSorted_any W p xs c h hl
    clear hd
    go_quiet ((go_at_call 69; exact Calls.quiet_of (hcon _ (Rd.drewN HR.out _))))
    go_wp2_with fail
    go_ret
    refine ⟨ret_bool (decide_eq_false fun h => HS.out fun j _ hj => ?_).symm, KeepBut.drewN _ _ _⟩
    have := h j (by omega) hj
    omega

theorem chk_ok {k : Int} {xs : List Int} (h : kindB k = true) (hl : xs.length ≤ 64) (h3 : k = 3 → strictB xs = true) : chk k xs = 0 := if_pos ⟨h, hl, h3⟩
theorem chk_no {k : Int} {xs : List Int} (h : ¬ (kindB k = true ∧ xs.length ≤ 64 ∧ (k = 3 → strictB xs = true))) : chk k xs = 2 := if_neg h

set_option maxHeartbeats 1000000 in
/-- spec.Check -/
theorem check_any (w : World) (k : Int) (p : Option Addr) (c : Nat) (xs : List Int) (hrd : Rd w p (ints xs)) (hl : xs.length ≤ 1099511627776) (hp : ∀ a, p = some a → a.spot = none) :
    Calls Tryd.prog 63 #[.agg #[.int .i64 k, .slice p xs.length c]] w fun e w' => e = .returned (.int .i64 (chk k xs)) ∧ KeepBut (fun _ => False) w w' := by
  have HR := Lib.hid hrd; have HP := Lib.hid hp
  clear hrd hp
  have halloc := KeepBut.alloc (fun _ => False) w (.cells #[.int .i64 k, .slice p xs.length c] 47)
  have HA := Lib.hid halloc
  clear halloc
  have hrise : ∀ W, W = w.alloc (.cells #[.int .i64 k, .slice p xs.length c] 47) → Calls Tryd.prog 68 #[.pointer (some ⟨w.heap.size, 0, none⟩)] W fun e w' => e = .returned (.bool (strictB xs)) ∧ KeepBut (fun _ => False) W w' := fun W hW => by
    subst hW
    exact rises_any _ w.heap.size k p c xs (heap_alloc_new w _) (Rd.keep HR.out HA.out (fun _ _ e => e)) hl HP.out
  have HRI := Lib.hid hrise
  clear hrise
  rcases Bool.eq_false_or_eq_true (kindB k) with hk | hk
  · by_cases h64 : xs.length ≤ 64
    · have hi : (xs.length : Int) ≤ 64 := by omega
      by_cases h3 : k = 3
      · have h3' : (k == 3) = true := by simpa using h3
        rcases Bool.eq_false_or_eq_true (strictB xs) with hs | hs
        · have hfin := Lib.hid (chk_ok hk h64 fun _ => hs)
          clear h3
          go_enter Tryd.func63, Tryd.ntmps63
          go_wp2_with (first | (go_at_call 71; refine (isKind_any _ _).mono ?_; rintro e w' ⟨rfl, rfl⟩) | (go_at_call 68; refine (HRI.out _ rfl).mono ?_; rintro e w' ⟨rfl, hk2⟩))
          go_ret
          exact ⟨ret_int hfin.out.symm, HA.out.trans hk2⟩
        · have hfin := Lib.hid (chk_no (k := k) (xs := xs) fun h => by rw [h.2.2 h3] at hs; cases hs)
          clear h3
          go_enter Tryd.func63, Tryd.ntmps63
          go_wp2_with (first | (go_at_call 71; refine (isKind_any _ _).mono ?_; rintro e w' ⟨rfl, rfl⟩) | (go_at_call 68; refine (HRI.out _ rfl).mono ?_; rintro e w' ⟨rfl, hk2⟩))
          go_ret
          exact ⟨ret_int hfin.out.symm, HA.out.trans hk2⟩
      · have h3' : (k == 3) = false := by simpa using h3
        have hfin := Lib.hid (chk_ok hk h64 fun h => (h3 h).elim)
        clear h3
        go_enter Tryd.func63, Tryd.ntmps63
        go_wp2_with (first | (go_at_call 71; refine (isKind_any _ _).mono ?_; rintro e w' ⟨rfl, rfl⟩) | (go_at_call 68; refine (HRI.out _ rfl).mono ?_; rintro e w' ⟨rfl, hk2⟩))
        go_ret
        exact ⟨ret_int hfin.out.symm, HA.out⟩
    · have hi : (64 : Int) < (xs.length : Int) := by omega
      have hfin := Lib.hid (chk_no (k := k) (xs := xs) fun h => h64 h.2.1)
      clear h64
      go_enter Tryd.func63, Tryd.ntmps63
      go_wp2_with (first | (go_at_call 71; refine (isKind_any _ _).mono ?_; rintro e w' ⟨rfl, rfl⟩) | (go_at_call 68; refine (HRI.out _ rfl).mono ?_; rintro e w' ⟨rfl, hk2⟩))
      go_ret
      exact ⟨ret_int hfin.out.symm, HA.out⟩
  · have hfin := Lib.hid (chk_no (k := k) (xs := xs) fun h => by rw [h.1] at hk; cases hk)
    go_enter Tryd.func63, Tryd.ntmps63
    go_wp2_with (first | (go_at_call 71; refine (isKind_any _ _).mono ?_; rintro e w' ⟨rfl, rfl⟩) | (go_at_call 68; refine (HRI.out _ rfl).mono ?_; rintro e w' ⟨rfl, hk2⟩))
    go_ret
    exact ⟨ret_int hfin.out.symm, HA.out⟩

end Go.Proofs.YtoolpifkfgileaaDoor
