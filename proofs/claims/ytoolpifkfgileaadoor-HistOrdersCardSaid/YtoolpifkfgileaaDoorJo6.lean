/- Joined texts of this work: Do2, Do. -/
import Derived.Test.YtoolpifkfgileaaDoorJo5

/-
  Package spec: Do. Printed by a program (gen_do.py).
-/
namespace Go.Proofs.YtoolpifkfgileaaDoor
open Go Go.RowKit Own

theorem zero_runs {P : Program} {t : TypeId} (h : ((P.info? t).bind (·.zero)).isSome = true) : ∃ z, ∀ w, (zeroValue t).run P w = .ok z w := by
  cases hi : P.info? t with
  | none => rw [hi] at h; cases h
  | some i =>
    cases hz : i.zero with
    | none => rw [hi, Option.bind_some, hz] at h; cases h
    | some z => exact ⟨z, fun w => by simp [zeroValue, typeInfo, Result.andThen, hi, hz]⟩

/-- a look into a map that an operation promises -/
theorem loud_look {P : Program} {w0 : World} {M : Nat → Prop} {o : Oper} {a : Act} {av ea : List Nat} {F : Nat → World → Prop} {Fp : Nat → Nat → Prop} (q : IntKind) (mt kt et : TypeId) (b : Nat) (l : List (Int × Value)) (k : Int) (v : Value) (m x : Operand) (ho : o.op = .lookup mt m x false) (hm : a.eval m = .map (some b)) (hx : a.eval x = .int q k)
    (ht : P.underlying mt = some (.map kt et)) (hk : P.underlying kt = some (.int q)) (hz : ∃ z, ∀ w, (zeroValue et).run P w = .ok z w) (hget : mget l k = some v) (j : Nat) (hja : j ∈ av) (hF : ∀ w, F j w → MapI q w b l) :
    LoudOk P w0 M o a (sConst v) av ea F Fp := by
  obtain ⟨z, hz⟩ := hz
  refine loud_run ⟨default, trivial⟩ (fun g _ => stable_true _) fun w _ hav _ => ?_
  have hr := (hF w (hav j hja).1).look ht hk k z (hz w)
  rw [hget, Option.getD_some] at hr
  refine ⟨w, default, trivial, .inl ?_, KeepBut.refl _ _, fun b h => h.elim, trivial⟩
  simp [execOp, ho, hm, hx, hr, Result.andThen, sConst]

set_option maxHeartbeats 4000000 in
/-- spec.Do of another kind -/
theorem do_kind (w : World) (k : Int) (p : Option Addr) (c : Nat) (xs : List Int) (hrd : Rd w p (ints xs)) (hl : xs.length ≤ 1099511627776) (hp : ∀ a, p = some a → a.spot = none) (op x : Int) (hchk : chk k xs = 0) (hko : kindOf op ≠ k) :
    Calls Tryd.prog 59 #[.agg #[.int .i64 k, .slice p xs.length c], .int .i64 op, .int .i64 x] w fun e w' => Done4 w e w' 0 [] 0 0 2 := by
  obtain ⟨W1, B, hW1, hB, hB1, hk1, hs1⟩ := fresh_block w (.cells #[.int .i64 k, .slice p xs.length c] 47)
  obtain ⟨W, N, hWd, hN, hWn, hkW, hWs⟩ := fresh_block W1 (.cells #[.int .i64 0, .slice none 0 0] 47)
  have hk0 : KeepBut (fun _ => False) w W := hk1.trans hkW
  have hB2 := hkW.blk hB1
  have HB2 := Lib.hid hB2
  have cB0 : ∀ w', KeepBut (fun _ => False) W.drew w' → w'.cell? ⟨B, 0, none⟩ = some (.int .i64 k) := fun w' h => ((KeepBut.drew (fun _ => False) W).trans h).stay (blk_cell (k := 0) hB2 rfl)
  have cB1 : ∀ w', KeepBut (fun _ => False) W.drew w' → w'.cell? ⟨B, 1, none⟩ = some (.slice p xs.length c) := fun w' h => ((KeepBut.drew (fun _ => False) W).trans h).stay (blk_cell (k := 1) hB2 rfl)
  have hR : Hid (∀ w', KeepBut (fun _ => False) W.drew w' → Calls Tryd.prog 63 #[.agg #[.int .i64 k, .slice p xs.length c]] w' fun e w'' => e = .returned (.int .i64 0) ∧ KeepBut (fun _ => False) w' w'') := fun w' h => by
    have := check_any w' k p c xs (hrd.stay (hk0.trans ((KeepBut.drew (fun _ => False) W).trans h))) hl hp
    rw [hchk] at this; exact this
  have HWN := Lib.hid hWn; have HKW := Lib.hid hk0
  have hNw : w.heap.size ≤ N := by omega
  have HN := Lib.hid hNw
  have HBw := Lib.hid (show w.heap.size ≤ B by omega)
  have hNB : B + 1 = N := by omega
  have HNB := Lib.hid hNB
  have hkb : (kindOf op == k) = false := by simpa using hko
  clear hko
  clear hrd hB1 hB2 hWn hkW hk0 hWs hk1 hs1 hNw
  go_enter Tryd.func59, Tryd.ntmps59
  go_upto_region 1 with fail
  rw [← hW1, ← hB, ← hWd, hNB]
  clear hWd hN hW1 hB hNB
  refine wp_own0 (by kernel_rfl) (fun i => [[], [0], [0, 1], [0, 1, 2], [0, 1, 2, 3], [0, 1, 2, 3, 4], [0, 1, 2, 3], [0, 1, 2, 3, 6], [0, 1, 2, 3, 4, 5, 6, 7], [0, 1, 2, 3, 4, 5, 6, 7, 8]].getD i [])
    (fun i => []) (fun i => []) [] (by kernel_rfl)
    (fun i => if i = 1 then some (sConst (.int .i64 0)) else if i = 5 then some (sConst (.int .i64 (kindOf op))) else none) ?_
  repeat
    apply lex_quiet rfl rfl
    · intro w' hk; go_simp; with_reducible rfl
    simp only [Act.put, List.setIfInBounds_toArray, List.set_cons_zero, List.set_cons_succ]
  refine lex_loud rfl rfl (loud_call 63 #[.agg #[.int .i64 k, .slice p xs.length c]] (fun w => by kernel_rfl) ⟨default, trivial⟩ (fun g _ => stable_true _) fun w' hk _ _ => (hR.out w' hk).mono ?_) fun g _ => ?_
  · rintro e w'' ⟨rfl, hq⟩
    exact ⟨default, trivial, rfl, hq.mono fun _ e => e.elim, fun b h => h.elim, trivial⟩
  simp only [sConst, Act.put, List.setIfInBounds_toArray, List.set_cons_zero, List.set_cons_succ]
  repeat
    apply lex_quiet rfl rfl
    · intro w' hk; go_simp; with_reducible rfl
    simp only [Act.put, List.setIfInBounds_toArray, List.set_cons_zero, List.set_cons_succ]
  refine lex_loud rfl rfl (loud_call 52 #[.int .i64 op] (fun w => by kernel_rfl) ⟨default, trivial⟩ (fun g _ => stable_true _) fun w' hk _ _ => (kind_any op w').mono ?_) fun g _ => ?_
  · rintro e w'' ⟨rfl, rfl⟩
    exact ⟨default, trivial, rfl, KeepBut.refl _ _, fun b h => h.elim, trivial⟩
  simp only [Act.put, List.setIfInBounds_toArray, List.set_cons_zero, List.set_cons_succ]
  repeat
    apply lex_quiet rfl rfl
    · intro w' hk; go_simp; with_reducible rfl
    simp only [Act.put, List.setIfInBounds_toArray, List.set_cons_zero, List.set_cons_succ]
  refine lex_nil ?_
  intro w1 hk1 _ _
  have hN1 : Hid (w1.heap[N]? = some (.cells #[.int .i64 0, .slice none 0 0] 47 (0, 0))) := ((KeepBut.drew (fun _ => False) W).trans hk1).blk HWN.out
  have hkk : Hid (KeepBut (fun _ => False) w w1) := HKW.out.trans ((KeepBut.drew (fun _ => False) W).trans hk1)
  have hB1 : Hid (w1.heap[B]? = some (.cells #[.int .i64 k, .slice p xs.length c] 47 (0, 0))) := ((KeepBut.drew (fun _ => False) W).trans hk1).blk HB2.out
  clear cB0 cB1
  go_upto_region 2 with fail
  refine wp_own1_plain N _ hN1.out (fun i => if i = 1 then [5] else []) (fun i => if i = 1 then [5] else []) [1] (by kernel_rfl) (fun i => if i = 1 then some (sPut N 47) else none) ?_
  repeat
    apply lex_quiet rfl rfl
    · intro w' hk; go_simp; with_reducible rfl
    simp only [Act.put, List.setIfInBounds_toArray, List.set_cons_zero, List.set_cons_succ]
  refine lex_loud rfl rfl (loud_put N 47 47 #[.int .i64 0, .slice none 0 0] _ (.tmp 6) (.tmp 22) rfl rfl rfl 5 (by decide) (by decide) (fun w h => h) ⟨rfl, rfl⟩ rfl (by kernel_rfl) (by simp [Value.oneCell'])) fun g2 _ => ?_
  simp only [sPut, Act.put]
  repeat
    apply lex_quiet rfl rfl
    · intro w' hk; go_simp; with_reducible rfl
    simp only [Act.put, List.setIfInBounds_toArray, List.set_cons_zero, List.set_cons_succ]
  refine lex_nil ?_
  intro w2 hk2 hF _
  have f1 : w2.heap[N]? = some (.cells #[.int .i64 0, .slice none 0 0] 47 (0, 0)) := (hF 1 (by decide)).1 _ (put_args rfl rfl)
  have c0 := blk_cell (k := 0) f1 rfl
  have c1 := blk_cell (k := 1) f1 rfl
  have hfin : Done4 w (.returned (.tuple #[.agg #[.int .i64 0, .slice none 0 0], .int .i64 0, .int .i64 0, .int .i64 2])) w2 0 [] 0 0 2 :=
    ⟨none, 0, rfl, Lies.empty, hkk.out.new hk2 fun b hb => by have := HN.out; have h2 : b = N := hb; omega⟩
  have HF := Lib.hid hfin
  clear hF f1 hfin
  go_wp2_with fail
  exact bodyPost_ret (v := .tuple #[.agg #[.int .i64 0, .slice none 0 0], .int .i64 0, .int .i64 0, .int .i64 2]) (by simp [results, Tryd.results59, go_sem, c0, c1]) rfl HF.out

set_option maxHeartbeats 4000000 in
/-- spec.Do where there is no room -/
theorem do_full (w : World) (k : Int) (p : Option Addr) (c : Nat) (xs : List Int) (hrd : Rd w p (ints xs)) (hl : xs.length ≤ 1099511627776) (hp : ∀ a, p = some a → a.spot = none) (op x : Int) (hchk : chk k xs = 0) (hko : kindOf op = k) (f : FuncId) (hcall : ∀ a0 a1 w, (callFunc f #[a0, a1]).run Tryd.prog w = .ok (.enter f #[a0, a1]) w) (ys : List Int) (v : Int) (b : Bool) (htab : mget deedTable op = some (fnv f)) (hdeed : ∀ w, Rd w p (ints xs) → Calls Tryd.prog f #[.slice p xs.length c, .int .i64 x] w fun e w' => Did w e w' ys v b) (hyl : 64 < ys.length) :
    Calls Tryd.prog 59 #[.agg #[.int .i64 k, .slice p xs.length c], .int .i64 op, .int .i64 x] w fun e w' => Done4 w e w' 0 [] 0 0 7 := by
  obtain ⟨W1, B, hW1, hB, hB1, hk1, hs1⟩ := fresh_block w (.cells #[.int .i64 k, .slice p xs.length c] 47)
  obtain ⟨W, N, hWd, hN, hWn, hkW, hWs⟩ := fresh_block W1 (.cells #[.int .i64 0, .slice none 0 0] 47)
  have hk0 : KeepBut (fun _ => False) w W := hk1.trans hkW
  have hB2 := hkW.blk hB1
  have HB2 := Lib.hid hB2
  have cB0 : ∀ w', KeepBut (fun _ => False) W.drew w' → w'.cell? ⟨B, 0, none⟩ = some (.int .i64 k) := fun w' h => ((KeepBut.drew (fun _ => False) W).trans h).stay (blk_cell (k := 0) hB2 rfl)
  have cB1 : ∀ w', KeepBut (fun _ => False) W.drew w' → w'.cell? ⟨B, 1, none⟩ = some (.slice p xs.length c) := fun w' h => ((KeepBut.drew (fun _ => False) W).trans h).stay (blk_cell (k := 1) hB2 rfl)
  have hR : Hid (∀ w', KeepBut (fun _ => False) W.drew w' → Calls Tryd.prog 63 #[.agg #[.int .i64 k, .slice p xs.length c]] w' fun e w'' => e = .returned (.int .i64 0) ∧ KeepBut (fun _ => False) w' w'') := fun w' h => by
    have := check_any w' k p c xs (hrd.stay (hk0.trans ((KeepBut.drew (fun _ => False) W).trans h))) hl hp
    rw [hchk] at this; exact this
  have HWN := Lib.hid hWn; have HKW := Lib.hid hk0
  have hNw : w.heap.size ≤ N := by omega
  have HN := Lib.hid hNw
  have HBw := Lib.hid (show w.heap.size ≤ B by omega)
  have hNB : B + 1 = N := by omega
  have HNB := Lib.hid hNB
  have hkb : (kindOf op == k) = true := by simpa using hko
  clear hko
  have hD : Hid (∀ w', KeepBut (fun _ => False) w w' → Calls Tryd.prog f #[.slice p xs.length c, .int .i64 x] w' fun e w'' => Did w' e w'' ys v b) := fun w' h => hdeed w' (hrd.stay h)
  have HT := Lib.hid htab; have HC := Lib.hid hcall
  have HYL := Lib.hid hyl
  clear hdeed htab hcall
  clear hrd hB1 hB2 hWn hkW hk0 hWs hk1 hs1 hNw
  go_enter Tryd.func59, Tryd.ntmps59
  go_upto_region 1 with fail
  rw [← hW1, ← hB, ← hWd, hNB]
  clear hWd hN hW1 hB hNB
  refine wp_own0 (by kernel_rfl) (fun i => [[], [0], [0, 1], [0, 1, 2], [0, 1, 2, 3], [0, 1, 2, 3, 4], [0, 1, 2, 3], [0, 1, 2, 3, 6], [0, 1, 2, 3, 4, 5, 6, 7], [0, 1, 2, 3, 4, 5, 6, 7, 8]].getD i [])
    (fun i => []) (fun i => []) [] (by kernel_rfl)
    (fun i => if i = 1 then some (sConst (.int .i64 0)) else if i = 5 then some (sConst (.int .i64 (kindOf op))) else none) ?_
  repeat
    apply lex_quiet rfl rfl
    · intro w' hk; go_simp; with_reducible rfl
    simp only [Act.put, List.setIfInBounds_toArray, List.set_cons_zero, List.set_cons_succ]
  refine lex_loud rfl rfl (loud_call 63 #[.agg #[.int .i64 k, .slice p xs.length c]] (fun w => by kernel_rfl) ⟨default, trivial⟩ (fun g _ => stable_true _) fun w' hk _ _ => (hR.out w' hk).mono ?_) fun g _ => ?_
  · rintro e w'' ⟨rfl, hq⟩
    exact ⟨default, trivial, rfl, hq.mono fun _ e => e.elim, fun b h => h.elim, trivial⟩
  simp only [sConst, Act.put, List.setIfInBounds_toArray, List.set_cons_zero, List.set_cons_succ]
  repeat
    apply lex_quiet rfl rfl
    · intro w' hk; go_simp; with_reducible rfl
    simp only [Act.put, List.setIfInBounds_toArray, List.set_cons_zero, List.set_cons_succ]
  refine lex_loud rfl rfl (loud_call 52 #[.int .i64 op] (fun w => by kernel_rfl) ⟨default, trivial⟩ (fun g _ => stable_true _) fun w' hk _ _ => (kind_any op w').mono ?_) fun g _ => ?_
  · rintro e w'' ⟨rfl, rfl⟩
    exact ⟨default, trivial, rfl, KeepBut.refl _ _, fun b h => h.elim, trivial⟩
  simp only [Act.put, List.setIfInBounds_toArray, List.set_cons_zero, List.set_cons_succ]
  repeat
    apply lex_quiet rfl rfl
    · intro w' hk; go_simp; with_reducible rfl
    simp only [Act.put, List.setIfInBounds_toArray, List.set_cons_zero, List.set_cons_succ]
  refine lex_nil ?_
  intro w1 hk1 _ _
  have hN1 : Hid (w1.heap[N]? = some (.cells #[.int .i64 0, .slice none 0 0] 47 (0, 0))) := ((KeepBut.drew (fun _ => False) W).trans hk1).blk HWN.out
  have hkk : Hid (KeepBut (fun _ => False) w w1) := HKW.out.trans ((KeepBut.drew (fun _ => False) W).trans hk1)
  have hB1 : Hid (w1.heap[B]? = some (.cells #[.int .i64 k, .slice p xs.length c] 47 (0, 0))) := ((KeepBut.drew (fun _ => False) W).trans hk1).blk HB2.out
  clear cB0 cB1
  have cB1 : ∀ w', KeepBut (fun _ => False) w1.drew w' → w'.cell? ⟨B, 1, none⟩ = some (.slice p xs.length c) := fun w' h => ((KeepBut.drew (fun _ => False) w1).trans h).stay (blk_cell (k := 1) hB1.out rfl)
  go_upto_region 3 with fail
  refine wp_own0 (by kernel_rfl) (fun i => [[], [], [0, 1], [], [3], [], [0, 1, 2, 3, 4, 5], [], [0, 1, 2, 3, 4, 5, 6, 7]].getD i [])
    (fun i => if i = 2 then [0] else if i = 8 then [7] else []) (fun i => if i = 8 then [7] else []) [6, 8] (by kernel_rfl)
    (fun i => if i = 0 then some { val := fun _ g => .map (some g.b), fp := fun _ g k => k = g.b, post := fun _ g w => MapI .i64 w g.b deedTable } else if i = 2 then some (sConst (fnv f))
      else if i = 6 then some { val := fun _ g => .agg #[.slice g.p ys.length g.c, .int .i64 v, .bool b], fp := fun _ g => Of g.p, post := fun _ g w => OwnI 2 0 w g.p g.c ys }
      else if i = 7 then some (sNew (.cells #[.slice none 0 0, .int .i64 0, .bool false] 109)) else if i = 8 then some (sPutA 109) else none) ?_
  refine lex_loud rfl rfl (loud_call 64 #[] (fun w => by kernel_rfl) ⟨default, trivial⟩ (fun g _ => stable_map _ _) fun w' hk _ _ => (deeds_any w').mono ?_) fun g _ => ?_
  · rintro e w'' ⟨bm, rfl, hb, hq, hm⟩
    exact ⟨{ b := bm }, trivial, rfl, hq.mono fun _ e => e.elim, fun b h => by have : b = bm := h; subst this; exact ⟨.inl hb, hm.lt⟩, hm⟩
  simp only [sConst, sNew, Act.put, List.setIfInBounds_toArray, List.set_cons_zero, List.set_cons_succ]
  repeat
    apply lex_quiet rfl rfl
    · intro w' hk; go_simp; with_reducible rfl
    simp only [Act.put, List.setIfInBounds_toArray, List.set_cons_zero, List.set_cons_succ]
  refine lex_loud rfl rfl (loud_look .i64 112 3 111 g.b deedTable op (fnv f) (.tmp 23) (.tmp 24) rfl rfl rfl Tryd.underlying112 Tryd.underlying3 (zero_runs (by kernel_rfl)) HT.out 0 (by decide) (fun w h => h)) fun g1 _ => ?_
  simp only [Act.put, List.setIfInBounds_toArray, List.set_cons_zero, List.set_cons_succ]
  repeat
    apply lex_quiet rfl rfl
    · intro w' hk; go_simp; with_reducible rfl
    simp only [Act.put, List.setIfInBounds_toArray, List.set_cons_zero, List.set_cons_succ]
  refine lex_loud rfl rfl (loud_call f #[.slice p xs.length c, .int .i64 x] (fun w => Eq.trans (by kernel_rfl) (HC.out (.slice p xs.length c) (.int .i64 x) w)) ⟨default, trivial⟩ (fun g _ => stable_ownI _ _ _ _ _) fun w' hk _ _ => (hD.out w' (hkk.out.trans ((KeepBut.drew (fun _ => False) w1).trans hk))).mono ?_) fun g2 _ => ?_
  · rintro e w'' ⟨p', c', rfl, ho, hq⟩
    exact ⟨{ p := p', c := c' }, trivial, rfl, hq.mono fun _ e => e.elim, fun b ⟨a, h1, h2⟩ => by have := ho.lt a h1; exact ⟨.inl (by omega), by omega⟩, ho.base fun _ _ => Nat.zero_le _⟩
  simp only [Act.put, List.setIfInBounds_toArray, List.set_cons_zero, List.set_cons_succ]
  refine lex_loud rfl rfl (loud_alloc _ fun w => by go_simp) fun g3 _ => ?_
  simp only [Act.put, List.setIfInBounds_toArray, List.set_cons_zero, List.set_cons_succ]
  refine lex_loud rfl rfl (loud_putA g3.b 109 109 #[.slice g2.p ys.length g2.c, .int .i64 v, .bool b] _ (.tmp 10) (.tmp 29) rfl rfl rfl 7 (by decide) (by decide) (fun w h => h) rfl rfl (by kernel_rfl) (by simp [Value.oneCell'])) fun g4 _ => ?_
  refine lex_nil ?_
  intro w2 hk2 hF hd
  have f6 : OwnI 2 0 w2 g2.p g2.c ys := (hF 6 (by decide)).1
  have b6 : ∀ b, Of g2.p b → b < w2.heap.size ∧ (w1.heap.size ≤ b ∨ False) := (hF 6 (by decide)).2
  have f8 : w2.heap[g3.b]? = some (.cells #[.slice g2.p ys.length g2.c, .int .i64 v, .bool b] 109 (0, 0)) := (hF 8 (by decide)).1 _ _ (put_args0 rfl rfl) (put_args rfl rfl)
  have e0 := blk_cell (k := 0) f8 rfl
  have b8 : w1.heap.size ≤ g3.b := ((hF 8 (by decide)).2 g3.b (put_args0 rfl rfl)).2.resolve_right fun h => h
  have hk2' : KeepBut (fun _ => False) w1 w2 := (KeepBut.drew (fun _ => False) w1).trans hk2
  have hN2 : Hid (w2.heap[N]? = some (.cells #[.int .i64 0, .slice none 0 0] 47 (0, 0))) := hk2'.blk hN1.out
  have hB2 : Hid (w2.heap[B]? = some (.cells #[.int .i64 k, .slice p xs.length c] 47 (0, 0))) := hk2'.blk hB1.out
  have hkk2 : Hid (KeepBut (fun _ => False) w w2) := hkk.out.trans hk2'
  have hg3 : Hid (w2.heap[g3.b]? = some (.cells #[.slice g2.p ys.length g2.c, .int .i64 v, .bool b] 109 (0, 0))) := f8
  have hw1 : Hid (w.heap.size ≤ w1.heap.size) := hkk.out.size
  have ho6 : Hid (OwnI 2 w1.heap.size w2 g2.p g2.c ys) := f6.base fun a ha => by
    rcases (b6 a.block ⟨a, ha, rfl⟩).2 with h | h
    · exact h
    · exact h.elim
  clear hF hd f6 b6 f8 cB1 hk2'
  have hyl1 : (64 : Int) < (ys.length : Int) := by omega
  clear hyl
  go_upto_region 5 with fail
  refine wp_own1_plain N _ hN2.out (fun i => if i = 1 then [5] else []) (fun i => if i = 1 then [5] else []) [1] (by kernel_rfl) (fun i => if i = 1 then some (sPut N 47) else none) ?_
  repeat
    apply lex_quiet rfl rfl
    · intro w' hk; go_simp; with_reducible rfl
    simp only [Act.put, List.setIfInBounds_toArray, List.set_cons_zero, List.set_cons_succ]
  refine lex_loud rfl rfl (loud_put N 47 47 #[.int .i64 0, .slice none 0 0] _ (.tmp 6) (.tmp 34) rfl rfl rfl 5 (by decide) (by decide) (fun w h => h) ⟨rfl, rfl⟩ rfl (by kernel_rfl) (by simp [Value.oneCell'])) fun g2 _ => ?_
  simp only [sPut, Act.put]
  repeat
    apply lex_quiet rfl rfl
    · intro w' hk; go_simp; with_reducible rfl
    simp only [Act.put, List.setIfInBounds_toArray, List.set_cons_zero, List.set_cons_succ]
  refine lex_nil ?_
  intro w3 hk3 hF _
  have f1 : w3.heap[N]? = some (.cells #[.int .i64 0, .slice none 0 0] 47 (0, 0)) := (hF 1 (by decide)).1 _ (put_args rfl rfl)
  have c0 := blk_cell (k := 0) f1 rfl
  have c1 := blk_cell (k := 1) f1 rfl
  have hfin : Done4 w (.returned (.tuple #[.agg #[.int .i64 0, .slice none 0 0], .int .i64 0, .int .i64 0, .int .i64 7])) w3 0 [] 0 0 7 :=
    ⟨none, 0, rfl, Lies.empty, hkk2.out.new hk3 fun b hb => by have := HN.out; have h2 : b = N := hb; omega⟩
  have HF := Lib.hid hfin
  clear hF f1 hfin
  go_wp2_with fail
  exact bodyPost_ret (v := .tuple #[.agg #[.int .i64 0, .slice none 0 0], .int .i64 0, .int .i64 0, .int .i64 7]) (by simp [results, Tryd.results59, go_sem, c0, c1]) rfl HF.out

set_option maxHeartbeats 4000000 in
/-- spec.Do  -/
theorem do_ok (w : World) (k : Int) (p : Option Addr) (c : Nat) (xs : List Int) (hrd : Rd w p (ints xs)) (hl : xs.length ≤ 1099511627776) (hp : ∀ a, p = some a → a.spot = none) (op x : Int) (hchk : chk k xs = 0) (hko : kindOf op = k) (f : FuncId) (hcall : ∀ a0 a1 w, (callFunc f #[a0, a1]).run Tryd.prog w = .ok (.enter f #[a0, a1]) w) (ys : List Int) (v : Int) (b : Bool) (htab : mget deedTable op = some (fnv f)) (hdeed : ∀ w, Rd w p (ints xs) → Calls Tryd.prog f #[.slice p xs.length c, .int .i64 x] w fun e w' => Did w e w' ys v b) (hyl : ys.length ≤ 64) :
    Calls Tryd.prog 59 #[.agg #[.int .i64 k, .slice p xs.length c], .int .i64 op, .int .i64 x] w fun e w' => Done4 w e w' k ys v (if b = true then 1 else 0) 0 := by
  obtain ⟨W1, B, hW1, hB, hB1, hk1, hs1⟩ := fresh_block w (.cells #[.int .i64 k, .slice p xs.length c] 47)
  obtain ⟨W, N, hWd, hN, hWn, hkW, hWs⟩ := fresh_block W1 (.cells #[.int .i64 0, .slice none 0 0] 47)
  have hk0 : KeepBut (fun _ => False) w W := hk1.trans hkW
  have hB2 := hkW.blk hB1
  have HB2 := Lib.hid hB2
  have cB0 : ∀ w', KeepBut (fun _ => False) W.drew w' → w'.cell? ⟨B, 0, none⟩ = some (.int .i64 k) := fun w' h => ((KeepBut.drew (fun _ => False) W).trans h).stay (blk_cell (k := 0) hB2 rfl)
  have cB1 : ∀ w', KeepBut (fun _ => False) W.drew w' → w'.cell? ⟨B, 1, none⟩ = some (.slice p xs.length c) := fun w' h => ((KeepBut.drew (fun _ => False) W).trans h).stay (blk_cell (k := 1) hB2 rfl)
  have hR : Hid (∀ w', KeepBut (fun _ => False) W.drew w' → Calls Tryd.prog 63 #[.agg #[.int .i64 k, .slice p xs.length c]] w' fun e w'' => e = .returned (.int .i64 0) ∧ KeepBut (fun _ => False) w' w'') := fun w' h => by
    have := check_any w' k p c xs (hrd.stay (hk0.trans ((KeepBut.drew (fun _ => False) W).trans h))) hl hp
    rw [hchk] at this; exact this
  have HWN := Lib.hid hWn; have HKW := Lib.hid hk0
  have hNw : w.heap.size ≤ N := by omega
  have HN := Lib.hid hNw
  have HBw := Lib.hid (show w.heap.size ≤ B by omega)
  have hNB : B + 1 = N := by omega
  have HNB := Lib.hid hNB
  have hkb : (kindOf op == k) = true := by simpa using hko
  clear hko
  have hD : Hid (∀ w', KeepBut (fun _ => False) w w' → Calls Tryd.prog f #[.slice p xs.length c, .int .i64 x] w' fun e w'' => Did w' e w'' ys v b) := fun w' h => hdeed w' (hrd.stay h)
  have HT := Lib.hid htab; have HC := Lib.hid hcall
  have HYL := Lib.hid hyl
  clear hdeed htab hcall
  clear hrd hB1 hB2 hWn hkW hk0 hWs hk1 hs1 hNw
  go_enter Tryd.func59, Tryd.ntmps59
  go_upto_region 1 with fail
  rw [← hW1, ← hB, ← hWd, hNB]
  clear hWd hN hW1 hB hNB
  refine wp_own0 (by kernel_rfl) (fun i => [[], [0], [0, 1], [0, 1, 2], [0, 1, 2, 3], [0, 1, 2, 3, 4], [0, 1, 2, 3], [0, 1, 2, 3, 6], [0, 1, 2, 3, 4, 5, 6, 7], [0, 1, 2, 3, 4, 5, 6, 7, 8]].getD i [])
    (fun i => []) (fun i => []) [] (by kernel_rfl)
    (fun i => if i = 1 then some (sConst (.int .i64 0)) else if i = 5 then some (sConst (.int .i64 (kindOf op))) else none) ?_
  repeat
    apply lex_quiet rfl rfl
    · intro w' hk; go_simp; with_reducible rfl
    simp only [Act.put, List.setIfInBounds_toArray, List.set_cons_zero, List.set_cons_succ]
  refine lex_loud rfl rfl (loud_call 63 #[.agg #[.int .i64 k, .slice p xs.length c]] (fun w => by kernel_rfl) ⟨default, trivial⟩ (fun g _ => stable_true _) fun w' hk _ _ => (hR.out w' hk).mono ?_) fun g _ => ?_
  · rintro e w'' ⟨rfl, hq⟩
    exact ⟨default, trivial, rfl, hq.mono fun _ e => e.elim, fun b h => h.elim, trivial⟩
  simp only [sConst, Act.put, List.setIfInBounds_toArray, List.set_cons_zero, List.set_cons_succ]
  repeat
    apply lex_quiet rfl rfl
    · intro w' hk; go_simp; with_reducible rfl
    simp only [Act.put, List.setIfInBounds_toArray, List.set_cons_zero, List.set_cons_succ]
  refine lex_loud rfl rfl (loud_call 52 #[.int .i64 op] (fun w => by kernel_rfl) ⟨default, trivial⟩ (fun g _ => stable_true _) fun w' hk _ _ => (kind_any op w').mono ?_) fun g _ => ?_
  · rintro e w'' ⟨rfl, rfl⟩
    exact ⟨default, trivial, rfl, KeepBut.refl _ _, fun b h => h.elim, trivial⟩
  simp only [Act.put, List.setIfInBounds_toArray, List.set_cons_zero, List.set_cons_succ]
  repeat
    apply lex_quiet rfl rfl
    · intro w' hk; go_simp; with_reducible rfl
    simp only [Act.put, List.setIfInBounds_toArray, List.set_cons_zero, List.set_cons_succ]
  refine lex_nil ?_
  intro w1 hk1 _ _
  have hN1 : Hid (w1.heap[N]? = some (.cells #[.int .i64 0, .slice none 0 0] 47 (0, 0))) := ((KeepBut.drew (fun _ => False) W).trans hk1).blk HWN.out
  have hkk : Hid (KeepBut (fun _ => False) w w1) := HKW.out.trans ((KeepBut.drew (fun _ => False) W).trans hk1)
  have hB1 : Hid (w1.heap[B]? = some (.cells #[.int .i64 k, .slice p xs.length c] 47 (0, 0))) := ((KeepBut.drew (fun _ => False) W).trans hk1).blk HB2.out
  clear cB0 cB1
  have cB1 : ∀ w', KeepBut (fun _ => False) w1.drew w' → w'.cell? ⟨B, 1, none⟩ = some (.slice p xs.length c) := fun w' h => ((KeepBut.drew (fun _ => False) w1).trans h).stay (blk_cell (k := 1) hB1.out rfl)
  go_upto_region 3 with fail
  refine wp_own0 (by kernel_rfl) (fun i => [[], [], [0, 1], [], [3], [], [0, 1, 2, 3, 4, 5], [], [0, 1, 2, 3, 4, 5, 6, 7]].getD i [])
    (fun i => if i = 2 then [0] else if i = 8 then [7] else []) (fun i => if i = 8 then [7] else []) [6, 8] (by kernel_rfl)
    (fun i => if i = 0 then some { val := fun _ g => .map (some g.b), fp := fun _ g k => k = g.b, post := fun _ g w => MapI .i64 w g.b deedTable } else if i = 2 then some (sConst (fnv f))
      else if i = 6 then some { val := fun _ g => .agg #[.slice g.p ys.length g.c, .int .i64 v, .bool b], fp := fun _ g => Of g.p, post := fun _ g w => OwnI 2 0 w g.p g.c ys }
      else if i = 7 then some (sNew (.cells #[.slice none 0 0, .int .i64 0, .bool false] 109)) else if i = 8 then some (sPutA 109) else none) ?_
  refine lex_loud rfl rfl (loud_call 64 #[] (fun w => by kernel_rfl) ⟨default, trivial⟩ (fun g _ => stable_map _ _) fun w' hk _ _ => (deeds_any w').mono ?_) fun g _ => ?_
  · rintro e w'' ⟨bm, rfl, hb, hq, hm⟩
    exact ⟨{ b := bm }, trivial, rfl, hq.mono fun _ e => e.elim, fun b h => by have : b = bm := h; subst this; exact ⟨.inl hb, hm.lt⟩, hm⟩
  simp only [sConst, sNew, Act.put, List.setIfInBounds_toArray, List.set_cons_zero, List.set_cons_succ]
  repeat
    apply lex_quiet rfl rfl
    · intro w' hk; go_simp; with_reducible rfl
    simp only [Act.put, List.setIfInBounds_toArray, List.set_cons_zero, List.set_cons_succ]
  refine lex_loud rfl rfl (loud_look .i64 112 3 111 g.b deedTable op (fnv f) (.tmp 23) (.tmp 24) rfl rfl rfl Tryd.underlying112 Tryd.underlying3 (zero_runs (by kernel_rfl)) HT.out 0 (by decide) (fun w h => h)) fun g1 _ => ?_
  simp only [Act.put, List.setIfInBounds_toArray, List.set_cons_zero, List.set_cons_succ]
  repeat
    apply lex_quiet rfl rfl
    · intro w' hk; go_simp; with_reducible rfl
    simp only [Act.put, List.setIfInBounds_toArray, List.set_cons_zero, List.set_cons_succ]
  refine lex_loud rfl rfl (loud_call f #[.slice p xs.length c, .int .i64 x] (fun w => Eq.trans (by kernel_rfl) (HC.out (.slice p xs.length c) (.int .i64 x) w)) ⟨default, trivial⟩ (fun g _ => stable_ownI _ _ _ _ _) fun w' hk _ _ => (hD.out w' (hkk.out.trans ((KeepBut.drew (fun _ => False) w1).trans hk))).mono ?_) fun g2 _ => ?_
  · rintro e w'' ⟨p', c', rfl, ho, hq⟩
    exact ⟨{ p := p', c := c' }, trivial, rfl, hq.mono fun _ e => e.elim, fun b ⟨a, h1, h2⟩ => by have := ho.lt a h1; exact ⟨.inl (by omega), by omega⟩, ho.base fun _ _ => Nat.zero_le _⟩
  simp only [Act.put, List.setIfInBounds_toArray, List.set_cons_zero, List.set_cons_succ]
  refine lex_loud rfl rfl (loud_alloc _ fun w => by go_simp) fun g3 _ => ?_
  simp only [Act.put, List.setIfInBounds_toArray, List.set_cons_zero, List.set_cons_succ]
  refine lex_loud rfl rfl (loud_putA g3.b 109 109 #[.slice g2.p ys.length g2.c, .int .i64 v, .bool b] _ (.tmp 10) (.tmp 29) rfl rfl rfl 7 (by decide) (by decide) (fun w h => h) rfl rfl (by kernel_rfl) (by simp [Value.oneCell'])) fun g4 _ => ?_
  refine lex_nil ?_
  intro w2 hk2 hF hd
  have f6 : OwnI 2 0 w2 g2.p g2.c ys := (hF 6 (by decide)).1
  have b6 : ∀ b, Of g2.p b → b < w2.heap.size ∧ (w1.heap.size ≤ b ∨ False) := (hF 6 (by decide)).2
  have f8 : w2.heap[g3.b]? = some (.cells #[.slice g2.p ys.length g2.c, .int .i64 v, .bool b] 109 (0, 0)) := (hF 8 (by decide)).1 _ _ (put_args0 rfl rfl) (put_args rfl rfl)
  have e0 := blk_cell (k := 0) f8 rfl
  have b8 : w1.heap.size ≤ g3.b := ((hF 8 (by decide)).2 g3.b (put_args0 rfl rfl)).2.resolve_right fun h => h
  have hk2' : KeepBut (fun _ => False) w1 w2 := (KeepBut.drew (fun _ => False) w1).trans hk2
  have hN2 : Hid (w2.heap[N]? = some (.cells #[.int .i64 0, .slice none 0 0] 47 (0, 0))) := hk2'.blk hN1.out
  have hB2 : Hid (w2.heap[B]? = some (.cells #[.int .i64 k, .slice p xs.length c] 47 (0, 0))) := hk2'.blk hB1.out
  have hkk2 : Hid (KeepBut (fun _ => False) w w2) := hkk.out.trans hk2'
  have hg3 : Hid (w2.heap[g3.b]? = some (.cells #[.slice g2.p ys.length g2.c, .int .i64 v, .bool b] 109 (0, 0))) := f8
  have hw1 : Hid (w.heap.size ≤ w1.heap.size) := hkk.out.size
  have ho6 : Hid (OwnI 2 w1.heap.size w2 g2.p g2.c ys) := f6.base fun a ha => by
    rcases (b6 a.block ⟨a, ha, rfl⟩).2 with h | h
    · exact h
    · exact h.elim
  clear hF hd f6 b6 f8 cB1 hk2'
  have hyl1 : ¬ (64 : Int) < (ys.length : Int) := by omega
  have e2 := blk_cell (k := 2) hg3.out rfl
  have hNl : N < w1.heap.size := by
    rcases Nat.lt_or_ge N w1.heap.size with h' | h'
    · exact h'
    · have := hN1.out; rw [Array.getElem?_eq_none h'] at this; cases this
  have hgN : ¬ g3.b = N := by have := b8; omega
  have hBN : ¬ B = N := by have := HNB.out; omega
  have x0 : ∀ w', KeepBut (fun x => x = N) w2.drew w' → w'.cell? ⟨B, 0, none⟩ = some (.int .i64 k) := fun w' h => ((KeepBut.drew _ w2).trans h).cell (blk_cell (k := 0) hB2.out rfl) hBN
  have x1 : ∀ w', KeepBut (fun x => x = N) w2.drew w' → w'.cell? ⟨g3.b, 0, none⟩ = some (.slice g2.p ys.length g2.c) := fun w' h => ((KeepBut.drew _ w2).trans h).cell (blk_cell (k := 0) hg3.out rfl) hgN
  have x2 : ∀ w', KeepBut (fun x => x = N) w2.drew w' → w'.cell? ⟨g3.b, 1, none⟩ = some (.int .i64 v) := fun w' h => ((KeepBut.drew _ w2).trans h).cell (blk_cell (k := 1) hg3.out rfl) hgN
  have hclip : ∀ w', KeepBut (fun x => x = N) w2 w' → Lies w.heap.size w' g2.p ys := fun w' h =>
    ((ho6.out.keep h fun a ha e => by have := (ho6.out.lt a ha).1; omega).base fun a ha => by have := (ho6.out.lt a ha).1; have := hw1.out; omega).lies
  have hle : Hid (ys.length ≤ g2.c ∧ g2.c ≤ 9223372036854775807) := ho6.out.le
  clear hyl b8 hNl hgN hBN
  cases b with
  | true =>
    go_upto_region 9 with fail
    refine wp_own1 (by kernel_rfl) N _ hN2.out (fun i => [[], [0], [], [2], [2, 3], [0, 1, 2, 3, 4], [], [6], [], [0, 1, 2, 3, 4, 5], [0, 1, 2, 3, 4, 5, 6, 7, 9], [0, 1, 2, 3, 4, 5, 6, 7, 8, 9, 10], [0, 1, 2, 3, 4, 5, 6, 7, 8, 9, 10, 11]].getD i [])
      (fun i => if i = 9 then [13] else []) (fun i => if i = 9 then [13] else []) [9] (by kernel_rfl)
      (fun i => if i = 4 then some (sConst (.slice g2.p ys.length ys.length)) else if i = 9 then some (sPut N 47) else none) ?_
    repeat
      apply lex_quiet rfl rfl
      · intro w' hk; go_simp; with_reducible rfl
      simp only [Act.put, List.setIfInBounds_toArray, List.set_cons_zero, List.set_cons_succ]
    refine lex_loud rfl rfl (loud_call 65 #[.slice g2.p ys.length g2.c] (fun w => by kernel_rfl) ⟨default, trivial⟩ (fun g _ => stable_true _) fun w' hk _ _ => (clip_any w' g2.p ys.length g2.c hle.out.1 hle.out.2).mono ?_) fun g5 _ => ?_
    · rintro e w'' ⟨rfl, rfl⟩
      exact ⟨default, trivial, rfl, KeepBut.refl _ _, fun b h => h.elim, trivial⟩
    simp only [sConst, Act.put, List.setIfInBounds_toArray, List.set_cons_zero, List.set_cons_succ]
    repeat
      apply lex_quiet rfl rfl
      · intro w' hk; go_simp; with_reducible rfl
      simp only [Act.put, List.setIfInBounds_toArray, List.set_cons_zero, List.set_cons_succ]
    refine lex_loud rfl rfl (loud_put N 47 47 #[.int .i64 k, .slice g2.p ys.length ys.length] _ (.tmp 6) (.tmp 42) rfl rfl rfl 13 (by decide) (by decide) (fun w h => h) ⟨rfl, rfl⟩ rfl (by kernel_rfl) (by simp [Value.oneCell'])) fun g6 _ => ?_
    simp only [sPut, Act.put]
    repeat
      apply lex_quiet rfl rfl
      · intro w' hk; go_simp; with_reducible rfl
      simp only [Act.put, List.setIfInBounds_toArray, List.set_cons_zero, List.set_cons_succ]
    refine lex_nil ?_
    intro w3 hk3 hF _
    have f9 : w3.heap[N]? = some (.cells #[.int .i64 k, .slice g2.p ys.length ys.length] 47 (0, 0)) := (hF 9 (by decide)).1 _ (put_args rfl rfl)
    have c0 := blk_cell (k := 0) f9 rfl
    have c1 := blk_cell (k := 1) f9 rfl
    have hfin : Done4 w (.returned (.tuple #[.agg #[.int .i64 k, .slice g2.p ys.length ys.length], .int .i64 v, .int .i64 1, .int .i64 0])) w3 k ys v (if true = true then 1 else 0) 0 :=
      ⟨g2.p, ys.length, rfl, hclip w3 ((KeepBut.drew _ w2).trans hk3), hkk2.out.new ((KeepBut.drew _ w2).trans hk3) fun b hb => by have := HN.out; have h2 : b = N := hb; omega⟩
    have HF := Lib.hid hfin
    clear hF f9 hfin
    go_wp2_with fail
    exact bodyPost_ret (v := .tuple #[.agg #[.int .i64 k, .slice g2.p ys.length ys.length], .int .i64 v, .int .i64 1, .int .i64 0]) (by simp [results, Tryd.results59, go_sem, c0, c1]) rfl HF.out
  | false =>
    go_upto_region 9 with fail
    refine wp_own1 (by kernel_rfl) N _ hN2.out (fun i => [[], [0], [], [2], [2, 3], [0, 1, 2, 3, 4], [], [6], [], [0, 1, 2, 3, 4, 5], [0, 1, 2, 3, 4, 5, 6, 7, 9], [0, 1, 2, 3, 4, 5, 6, 7, 8, 9, 10], [0, 1, 2, 3, 4, 5, 6, 7, 8, 9, 10, 11]].getD i [])
      (fun i => if i = 9 then [13] else []) (fun i => if i = 9 then [13] else []) [9] (by kernel_rfl)
      (fun i => if i = 4 then some (sConst (.slice g2.p ys.length ys.length)) else if i = 9 then some (sPut N 47) else none) ?_
    repeat
      apply lex_quiet rfl rfl
      · intro w' hk; go_simp; with_reducible rfl
      simp only [Act.put, List.setIfInBounds_toArray, List.set_cons_zero, List.set_cons_succ]
    refine lex_loud rfl rfl (loud_call 65 #[.slice g2.p ys.length g2.c] (fun w => by kernel_rfl) ⟨default, trivial⟩ (fun g _ => stable_true _) fun w' hk _ _ => (clip_any w' g2.p ys.length g2.c hle.out.1 hle.out.2).mono ?_) fun g5 _ => ?_
    · rintro e w'' ⟨rfl, rfl⟩
      exact ⟨default, trivial, rfl, KeepBut.refl _ _, fun b h => h.elim, trivial⟩
    simp only [sConst, Act.put, List.setIfInBounds_toArray, List.set_cons_zero, List.set_cons_succ]
    repeat
      apply lex_quiet rfl rfl
      · intro w' hk; go_simp; with_reducible rfl
      simp only [Act.put, List.setIfInBounds_toArray, List.set_cons_zero, List.set_cons_succ]
    refine lex_loud rfl rfl (loud_put N 47 47 #[.int .i64 k, .slice g2.p ys.length ys.length] _ (.tmp 6) (.tmp 42) rfl rfl rfl 13 (by decide) (by decide) (fun w h => h) ⟨rfl, rfl⟩ rfl (by kernel_rfl) (by simp [Value.oneCell'])) fun g6 _ => ?_
    simp only [sPut, Act.put]
    repeat
      apply lex_quiet rfl rfl
      · intro w' hk; go_simp; with_reducible rfl
      simp only [Act.put, List.setIfInBounds_toArray, List.set_cons_zero, List.set_cons_succ]
    refine lex_nil ?_
    intro w3 hk3 hF _
    have f9 : w3.heap[N]? = some (.cells #[.int .i64 k, .slice g2.p ys.length ys.length] 47 (0, 0)) := (hF 9 (by decide)).1 _ (put_args rfl rfl)
    have c0 := blk_cell (k := 0) f9 rfl
    have c1 := blk_cell (k := 1) f9 rfl
    have hfin : Done4 w (.returned (.tuple #[.agg #[.int .i64 k, .slice g2.p ys.length ys.length], .int .i64 v, .int .i64 0, .int .i64 0])) w3 k ys v (if false = true then 1 else 0) 0 :=
      ⟨g2.p, ys.length, rfl, hclip w3 ((KeepBut.drew _ w2).trans hk3), hkk2.out.new ((KeepBut.drew _ w2).trans hk3) fun b hb => by have := HN.out; have h2 : b = N := hb; omega⟩
    have HF := Lib.hid hfin
    clear hF f9 hfin
    go_wp2_with fail
    exact bodyPost_ret (v := .tuple #[.agg #[.int .i64 k, .slice g2.p ys.length ys.length], .int .i64 v, .int .i64 0, .int .i64 0]) (by simp [results, Tryd.results59, go_sem, c0, c1]) rfl HF.out

end Go.Proofs.YtoolpifkfgileaaDoor

/-
  Package spec: Do, told as a function of its arguments.
-/
namespace Go.Proofs.YtoolpifkfgileaaDoor
open Go Go.RowKit Own

/-- what a deed comes to: the items behind it, its value, whether it was done -/
def deedR (op : Int) (xs : List Int) (x : Int) : List Int × Int × Bool :=
  if op = 1 ∨ op = 3 then (xs ++ [x], 0, true)
  else if op = 2 then if xs = [] then ([], 0, false) else (cutAt xs (xs.length - 1), nth xs (xs.length - 1), true)
  else if op = 4 then if xs = [] then ([], 0, false) else (cutAt xs 0, nth xs 0, true)
  else if op = 5 then if xs.contains x = true then (xs, 0, false) else (putAt xs (xs.countP (· < x)) x, 0, true)
  else if op = 6 then if xs.contains x = true then (cutAt xs (xs.countP (· < x)), 0, true) else (xs, 0, false)
  else (xs, 0, xs.contains x)

structure DoOut where
  kind : Int
  items : List Int
  val : Int
  code : Int
  err : Int

def doR (k op : Int) (xs : List Int) (x : Int) : DoOut :=
  if chk k xs = 0 ∧ kindOf op = k then
    if (deedR op xs x).1.length ≤ 64 then ⟨k, (deedR op xs x).1, (deedR op xs x).2.1, if (deedR op xs x).2.2 = true then 1 else 0, 0⟩ else ⟨0, [], 0, 0, 7⟩
  else ⟨0, [], 0, 0, 2⟩

theorem nth_eq {xs : List Int} {j : Nat} (h : j < xs.length) : nth xs j = xs[j] := by simp [nth, h]

theorem strict_pairwise {xs : List Int} (h : strictB xs = true) : xs.Pairwise (· < ·) := by
  unfold strictB at h
  have h := of_decide_eq_true h
  rw [List.pairwise_iff_getElem]
  intro i j hi hj hij
  have key : ∀ d, ∀ i j, j = i + 1 + d → j < xs.length → nth xs i < nth xs j := by
    intro d
    induction d with
    | zero => intro i j hj hl; have := h i (by omega) (by omega); rw [show j = i + 1 by omega]; exact this
    | succ d ih =>
      intro i j hj hl
      have h1 := ih i (j - 1) (by omega) (by omega)
      have h2 := h (j - 1) (by omega) (by omega)
      rw [show j - 1 + 1 = j by omega] at h2
      omega
  have := key (j - i - 1) i j (by omega) hj
  rwa [nth_eq hi, nth_eq hj] at this

theorem strict_le {xs : List Int} (h : strictB xs = true) : xs.Pairwise (· ≤ ·) := (strict_pairwise h).imp fun h => Int.le_of_lt h

theorem count_lt {xs : List Int} {x : Int} (h : xs.contains x = true) : xs.countP (· < x) < xs.length := by
  have hm : x ∈ xs := by simpa using h
  rcases Nat.lt_or_ge (xs.countP (· < x)) xs.length with h1 | h1
  · exact h1
  · have := List.countP_eq_length.1 (Nat.le_antisymm List.countP_le_length h1) x hm
    simp at this

theorem kindOf_range {op k : Int} (h : kindOf op = k) (hk : kindB k = true) : op = 1 ∨ op = 2 ∨ op = 3 ∨ op = 4 ∨ op = 5 ∨ op = 6 ∨ op = 7 := by
  unfold kindOf at h
  unfold kindB at hk
  have hk := of_decide_eq_true hk
  split at h
  · omega
  · split at h
    · omega
    · split at h <;> omega

theorem chk_zero {k : Int} {xs : List Int} (h : chk k xs = 0) : kindB k = true ∧ xs.length ≤ 64 ∧ (k = 3 → strictB xs = true) := by
  unfold chk at h
  split at h
  · assumption
  · omega

theorem nil_of_length {xs : List Int} (h : xs ≠ []) : 0 < xs.length := List.length_pos_iff.2 h

theorem deed_any (w : World) (p : Option Addr) (c : Nat) (op : Int) (xs : List Int) (x : Int) (hl : xs.length ≤ 1099511627776) (hp : ∀ a, p = some a → a.spot = none) (hc : chk (kindOf op) xs = 0) :
    ∃ f, (∀ a0 a1 w, (callFunc f #[a0, a1]).run Tryd.prog w = .ok (.enter f #[a0, a1]) w) ∧ mget deedTable op = some (fnv f) ∧
      ∀ w, Rd w p (ints xs) → Calls Tryd.prog f #[.slice p xs.length c, .int .i64 x] w fun e w' => Did w e w' (deedR op xs x).1 (deedR op xs x).2.1 (deedR op xs x).2.2 := by
  obtain ⟨hk, _, hs⟩ := chk_zero hc
  have h3 : ∀ n : Int, op = n → kindOf n = 3 → xs.Pairwise (· ≤ ·) := fun n h1 h2 => strict_le (hs (by rw [h1, h2]))
  rcases kindOf_range rfl hk with rfl | rfl | rfl | rfl | rfl | rfl | rfl
  · exact ⟨72, fun a0 a1 w => by kernel_rfl, by kernel_rfl, fun w hr => deed1_any w p c xs hr hl hp x⟩
  · refine ⟨73, fun a0 a1 w => by kernel_rfl, by kernel_rfl, fun w hr => ?_⟩
    by_cases h : xs = []
    · subst h; exact deed2_none w p c x
    · have e : deedR 2 xs x = (cutAt xs (xs.length - 1), nth xs (xs.length - 1), true) := by simp [deedR, h]
      rw [e]; exact deed2_some w p c xs hr hl hp x (nil_of_length h)
  · exact ⟨72, fun a0 a1 w => by kernel_rfl, by kernel_rfl, fun w hr => deed1_any w p c xs hr hl hp x⟩
  · refine ⟨75, fun a0 a1 w => by kernel_rfl, by kernel_rfl, fun w hr => ?_⟩
    by_cases h : xs = []
    · subst h; exact deed3_none w p c x
    · have e : deedR 4 xs x = (cutAt xs 0, nth xs 0, true) := by simp [deedR, h]
      rw [e]; exact deed3_some w p c xs hr hl hp x (nil_of_length h)
  · refine ⟨76, fun a0 a1 w => by kernel_rfl, by kernel_rfl, fun w hr => ?_⟩
    have hs' := h3 5 rfl (by decide)
    by_cases h : xs.contains x = true
    · have e : deedR 5 xs x = (xs, 0, false) := by unfold deedR; simp only [h]; rfl
      rw [e]; exact add_there w p c xs hr hl hp x hs' h
    · have e : deedR 5 xs x = (putAt xs (xs.countP (· < x)) x, 0, true) := by unfold deedR; simp only [h]; rfl
      rw [e]; exact add_new w p c xs hr hl hp x hs' (by simpa using h)
  · refine ⟨77, fun a0 a1 w => by kernel_rfl, by kernel_rfl, fun w hr => ?_⟩
    have hs' := h3 6 rfl (by decide)
    by_cases h : xs.contains x = true
    · have e : deedR 6 xs x = (cutAt xs (xs.countP (· < x)), 0, true) := by unfold deedR; simp only [h]; rfl
      rw [e]; exact remove_there w p c xs hr hl hp x hs' h (count_lt h)
    · have e : deedR 6 xs x = (xs, 0, false) := by unfold deedR; simp only [h]; rfl
      rw [e]; exact remove_none w p c xs hr hl hp x hs' (by simpa using h)
  · exact ⟨78, fun a0 a1 w => by kernel_rfl, by kernel_rfl, fun w hr => has_any w p c xs hr hl hp x (h3 7 rfl (by decide)) _ rfl⟩

/-- spec.Do, for every argument -/
theorem do_any (w : World) (k : Int) (p : Option Addr) (c : Nat) (xs : List Int) (hrd : Rd w p (ints xs)) (hl : xs.length ≤ 1099511627776) (hp : ∀ a, p = some a → a.spot = none) (op x : Int) :
    Calls Tryd.prog 59 #[.agg #[.int .i64 k, .slice p xs.length c], .int .i64 op, .int .i64 x] w fun e w' =>
      Done4 w e w' (doR k op xs x).kind (doR k op xs x).items (doR k op xs x).val (doR k op xs x).code (doR k op xs x).err := by
  by_cases hc : chk k xs = 0
  · by_cases hk : kindOf op = k
    · obtain ⟨f, h1, h2, h3⟩ := deed_any w p c op xs x hl hp (by rw [hk]; exact hc)
      by_cases hy : (deedR op xs x).1.length ≤ 64
      · have e : doR k op xs x = ⟨k, (deedR op xs x).1, (deedR op xs x).2.1, if (deedR op xs x).2.2 = true then 1 else 0, 0⟩ := by unfold doR; rw [if_pos ⟨hc, hk⟩, if_pos hy]
        rw [e]; exact do_ok w k p c xs hrd hl hp op x hc hk f h1 _ _ _ h2 h3 hy
      · have e : doR k op xs x = ⟨0, [], 0, 0, 7⟩ := by unfold doR; rw [if_pos ⟨hc, hk⟩, if_neg hy]
        rw [e]; exact do_full w k p c xs hrd hl hp op x hc hk f h1 _ _ _ h2 h3 (by omega)
    · have e : doR k op xs x = ⟨0, [], 0, 0, 2⟩ := by unfold doR; rw [if_neg fun h => hk h.2]
      rw [e]; exact do_kind w k p c xs hrd hl hp op x hc hk
  · have e : doR k op xs x = ⟨0, [], 0, 0, 2⟩ := by unfold doR; rw [if_neg fun h => hc h.1]
    rw [e]; exact do_bad w k p c xs hrd hl hp op x (chk_two hc)

end Go.Proofs.YtoolpifkfgileaaDoor
