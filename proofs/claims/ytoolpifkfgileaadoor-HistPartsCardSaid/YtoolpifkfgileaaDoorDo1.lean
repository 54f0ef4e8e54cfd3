/-
  Package spec: Do where it rejects.
-/
import Derived.Test.YtoolpifkfgileaaDoorDeeds
namespace Go.Proofs.YtoolpifkfgileaaDoor
open Go Go.RowKit Own

/-- a store of a whole value into a block the region made itself -/
def sPutA (T : TypeId) : Loud := { val := fun _ _ => undef, fp := fun args _ k => args.getD 0 undef = .pointer (some ⟨k, 0, none⟩), post := fun args _ w => ∀ b vs, args.getD 0 undef = .pointer (some ⟨b, 0, none⟩) → args.getD 1 undef = .agg vs → w.heap[b]? = some (.cells vs T (0, 0)) }

theorem put_args0 {o : Oper} {a : Act} {ty : TypeId} {x y : Operand} {v : Value} (ho : o.op = .store ty x y) (hy : a.eval x = v) : (argsOf o a).getD 0 undef = v := by simp [argsOf, ho, Op.operands, hy]

theorem loud_putA {P : Program} {w0 : World} {M : Nat → Prop} {o : Oper} {a : Act} {av ea : List Nat} {F : Nat → World → Prop} {Fp : Nat → Nat → Prop} (b : Nat) (T ty : TypeId) (vs cs0 : Array Value) (x y : Operand) (ho : o.op = .store ty x y) (hx : a.eval x = .pointer (some ⟨b, 0, none⟩)) (hy : a.eval y = .agg vs)
    (j : Nat) (hja : j ∈ av) (hje : j ∈ ea) (hF : ∀ w, F j w → w.heap[b]? = some (.cells cs0 T (0, 0))) (hfp : Fp j b) (hs : cs0.size = vs.size) (hi : (P.info? ty).map (·.size) = some vs.size) (h1 : vs.all (·.oneCell') = true) :
    LoudOk P w0 M o a (sPutA T) av ea F Fp := by
  have harg : (argsOf o a).getD 1 undef = .agg vs := put_args ho hy
  have harg0 : (argsOf o a).getD 0 undef = .pointer (some ⟨b, 0, none⟩) := put_args0 ho hx
  refine loud_run ⟨default, trivial⟩ (fun g _ w w' _ _ _ h k b' vs' hb hv => (h b' hb).trans (k b' vs' hb hv)) fun w _ hav _ => ?_
  obtain ⟨hj, hb⟩ := hav j hja
  obtain ⟨w', h2, h3, h4⟩ := yields_put (P := P) (o := o) (ρ := a.eval) (w := w) x y ho hx hy (hF w hj) hs hi h1
  refine ⟨w', default, trivial, h2, h3.mono fun k hk => ⟨j, hje, by rw [hk]; exact hfp⟩, fun k hk => ?_, fun b' vs' hb' hv => by rw [harg] at hv; cases hv; rw [harg0] at hb'; cases hb'; exact h4⟩
  have hkb : k = b := by
    have : (argsOf o a).getD 0 undef = .pointer (some ⟨k, 0, none⟩) := hk
    rw [harg0] at this; cases this; rfl
  subst hkb
  exact ⟨.inr ⟨j, hje, hfp⟩, Nat.lt_of_lt_of_le (hb k hfp).1 h3.size⟩

/-- numbers that nobody turns, behind p, from block base on -/
def Lies (base : Nat) (w : World) (p : Option Addr) (xs : List Int) : Prop := Rd w p (ints xs) ∧ ∀ a, p = some a → base ≤ a.block ∧ a.block < w.heap.size ∧ a.spot = none
theorem OwnI.lies {E : TypeId} {base : Nat} {w : World} {p : Option Addr} {c : Nat} {xs : List Int} (h : OwnI E base w p c xs) : Lies base w p xs :=
  ⟨h.rd, fun a ha => ⟨(h.lt a ha).1, (h.lt a ha).2, by
    rcases h.parts with ⟨h1, _⟩ | ⟨g, cur, h1, _⟩
    · rw [h1] at ha; cases ha
    · rw [h1] at ha; cases ha; rfl⟩⟩
theorem Lies.empty {base : Nat} {w : World} : Lies base w none [] := ⟨Rd.empty _ _, fun a h => by cases h⟩
theorem Lies.keep {base : Nat} {E : Nat → Prop} {w w' : World} {p : Option Addr} {xs : List Int} (h : Lies base w p xs) (hk : KeepBut E w w') (hE : ∀ a, p = some a → ¬ E a.block) : Lies base w' p xs :=
  ⟨h.1.keep hk hE, fun a ha => ⟨(h.2 a ha).1, Nat.lt_of_lt_of_le (h.2 a ha).2.1 hk.size, (h.2 a ha).2.2⟩⟩
theorem Lies.stay {base : Nat} {w w' : World} {p : Option Addr} {xs : List Int} (h : Lies base w p xs) (hk : KeepBut (fun _ => False) w w') : Lies base w' p xs := h.keep hk fun _ _ e => e
theorem Lies.base {base base' : Nat} {w : World} {p : Option Addr} {xs : List Int} (h : Lies base w p xs) (hb : ∀ a, p = some a → base' ≤ a.block) : Lies base' w p xs := ⟨h.1, fun a ha => ⟨hb a ha, (h.2 a ha).2⟩⟩

/-- what Do returns -/
def Done4 (w : World) (e : Ending) (w' : World) (k : Int) (xs : List Int) (v c r : Int) : Prop :=
  ∃ p cap, e = .returned (.tuple #[.agg #[.int .i64 k, .slice p xs.length cap], .int .i64 v, .int .i64 c, .int .i64 r]) ∧ Lies w.heap.size w' p xs ∧ KeepBut (fun _ => False) w w'

theorem chk_two {k : Int} {xs : List Int} (h : chk k xs ≠ 0) : chk k xs = 2 := by
  unfold chk at h ⊢
  split
  · rename_i h2; rw [if_pos h2] at h; exact absurd rfl h
  · rfl

set_option maxHeartbeats 2000000 in
/-- spec.Do on what may not be -/
theorem do_bad (w : World) (k : Int) (p : Option Addr) (c : Nat) (xs : List Int) (hrd : Rd w p (ints xs)) (hl : xs.length ≤ 1099511627776) (hp : ∀ a, p = some a → a.spot = none) (op x : Int) (hbad : chk k xs = 2) :
    Calls Tryd.prog 59 #[.agg #[.int .i64 k, .slice p xs.length c], .int .i64 op, .int .i64 x] w fun e w' => Done4 w e w' 0 [] 0 0 2 := by
  obtain ⟨W1, B, hW1, hB, hB1, hk1, hs1⟩ := fresh_block w (.cells #[.int .i64 k, .slice p xs.length c] 47)
  obtain ⟨W, N, hWd, hN, hWn, hkW, hWs⟩ := fresh_block W1 (.cells #[.int .i64 0, .slice none 0 0] 47)
  have hk0 : KeepBut (fun _ => False) w W := hk1.trans hkW
  have hB2 := hkW.blk hB1
  have cB0 : ∀ w', KeepBut (fun _ => False) W.drew w' → w'.cell? ⟨B, 0, none⟩ = some (.int .i64 k) := fun w' h => ((KeepBut.drew (fun _ => False) W).trans h).stay (blk_cell (k := 0) hB2 rfl)
  have cB1 : ∀ w', KeepBut (fun _ => False) W.drew w' → w'.cell? ⟨B, 1, none⟩ = some (.slice p xs.length c) := fun w' h => ((KeepBut.drew (fun _ => False) W).trans h).stay (blk_cell (k := 1) hB2 rfl)
  have hR : Hid (∀ w', KeepBut (fun _ => False) W.drew w' → Calls Tryd.prog 63 #[.agg #[.int .i64 k, .slice p xs.length c]] w' fun e w'' => e = .returned (.int .i64 2) ∧ KeepBut (fun _ => False) w' w'') := fun w' h => by
    have := check_any w' k p c xs (hrd.stay (hk0.trans ((KeepBut.drew (fun _ => False) W).trans h))) hl hp
    rw [hbad] at this; exact this
  have HWN := Lib.hid hWn; have HKW := Lib.hid hk0
  have hNw : w.heap.size ≤ N := by omega
  have HN := Lib.hid hNw
  have hNB : B + 1 = N := by omega
  clear hrd hB1 hB2 hWn hkW hk0 hWs hk1 hs1 hNw
  go_enter Tryd.func59, Tryd.ntmps59
  go_upto_region 1 with fail
  rw [← hW1, ← hB, ← hWd, hNB]
  clear hWd hN hW1 hB
  refine wp_own0 (by kernel_rfl) (fun i => [[], [0], [0, 1], [0, 1, 2], [0, 1, 2, 3], [0, 1, 2, 3, 4], [0, 1, 2, 3], [0, 1, 2, 3, 6], [0, 1, 2, 3, 4, 5, 6, 7], [0, 1, 2, 3, 4, 5, 6, 7, 8]].getD i [])
    (fun i => []) (fun i => []) [] (by kernel_rfl)
    (fun i => if i = 1 then some (sConst (.int .i64 2)) else none) ?_
  repeat
    apply lex_quiet rfl rfl
    · intro w' hk; go_simp; with_reducible rfl
    simp only [Act.put, List.setIfInBounds_toArray, List.set_cons_zero, List.set_cons_succ]
  refine lex_loud rfl rfl (loud_call 63 #[.agg #[.int .i64 k, .slice p xs.length c]] (fun w => by kernel_rfl) ⟨default, trivial⟩ (fun g _ => stable_true _) fun w' hk _ _ => (hR.out w' hk).mono ?_) fun g _ => ?_
  · rintro e w'' ⟨rfl, hq⟩
    exact ⟨default, trivial, rfl, hq.mono fun _ e => e.elim, fun b h => h.elim, trivial⟩
  simp only [sConst, Act.put, List.setIfInBounds_toArray, List.set_cons_zero, List.set_cons_succ]
  repeat
    apply lex_quiet rfl rfl
    · intro w' hk; go_simp; with_reducible rfl
    simp only [Act.put, List.setIfInBounds_toArray, List.set_cons_zero, List.set_cons_succ]
  repeat
    refine lex_skip rfl ?_
    simp only [Act.put, List.setIfInBounds_toArray, List.set_cons_zero, List.set_cons_succ]
  repeat
    apply lex_quiet rfl rfl
    · intro w' hk; go_simp; with_reducible rfl
    simp only [Act.put, List.setIfInBounds_toArray, List.set_cons_zero, List.set_cons_succ]
  refine lex_nil ?_
  intro w1 hk1 _ _
  have hN1 : Hid (w1.heap[N]? = some (.cells #[.int .i64 0, .slice none 0 0] 47 (0, 0))) := ((KeepBut.drew (fun _ => False) W).trans hk1).blk HWN.out
  have hkk : Hid (KeepBut (fun _ => False) w w1) := HKW.out.trans ((KeepBut.drew (fun _ => False) W).trans hk1)
  go_upto_region 2 with fail
  refine wp_own1_plain N _ hN1.out (fun i => if i = 1 then [5] else []) (fun i => if i = 1 then [5] else []) [1] (by kernel_rfl) (fun i => if i = 1 then some (sPut N 47) else none) ?_
  repeat
    apply lex_quiet rfl rfl
    · intro w' hk; go_simp; with_reducible rfl
    simp only [Act.put, List.setIfInBounds_toArray, List.set_cons_zero, List.set_cons_succ]
  refine lex_loud rfl rfl (loud_put N 47 47 #[.int .i64 0, .slice none 0 0] _ (.tmp 6) (.tmp 22) rfl rfl rfl 5 (by decide) (by decide) (fun w h => h) ⟨rfl, rfl⟩ rfl (by kernel_rfl) (by simp [Value.oneCell'])) fun g2 _ => ?_
  simp only [sPut, Act.put, List.setIfInBounds_toArray, List.set_cons_zero, List.set_cons_succ]
  repeat
    apply lex_quiet rfl rfl
    · intro w' hk; go_simp; with_reducible rfl
    simp only [Act.put, List.setIfInBounds_toArray, List.set_cons_zero, List.set_cons_succ]
  refine lex_nil ?_
  intro w2 hk2 hF _
  have f1 : w2.heap[N]? = some (.cells #[.int .i64 0, .slice none 0 0] 47 (0, 0)) := (hF 1 (by decide)).1 _ (put_args rfl rfl)
  have c0 := blk_cell (k := 0) f1 rfl
  have c1 := blk_cell (k := 1) f1 rfl
  have hfin : Done4 w (.returned (.tuple #[.agg #[.int .i64 0, .slice none 0 0], .int .i64 0, .int .i64 0, .int .i64 2])) w2 0 [] 0 0 2 :=
    ⟨none, 0, rfl, Lies.empty, hkk.out.new hk2 fun b hb => by have := HN.out; have h2 : b = N := hb; omega⟩
  have HF := Lib.hid hfin
  clear hF f1 hfin
  go_wp2_with fail
  exact bodyPost_ret (v := .tuple #[.agg #[.int .i64 0, .slice none 0 0], .int .i64 0, .int .i64 0, .int .i64 2]) (by simp [results, Tryd.results59, go_sem, c0, c1]) rfl HF.out
end Go.Proofs.YtoolpifkfgileaaDoor
