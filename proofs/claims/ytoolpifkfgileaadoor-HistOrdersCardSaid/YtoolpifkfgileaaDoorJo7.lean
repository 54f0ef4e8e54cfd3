/- Joined texts of this work: May. -/
import Derived.Test.YtoolpifkfgileaaDoorJo6

/-
  Package spec: Inserts, Takes, May, told as functions of their arguments.
-/
namespace Go.Proofs.YtoolpifkfgileaaDoor
open Go Go.RowKit Own

def insB (op : Int) : Bool := op == 1 || op == 3 || op == 5
def takesB (op : Int) : Bool := op == 2 || op == 4

theorem inserts_any (w : World) (op : Int) :
    Calls Tryd.prog 66 #[.int .i64 op] w fun e w' => e = .returned (.bool (insB op)) ∧ w' = w := by
  unfold insB
  cases h1 : (op == 1) <;> cases h3 : (op == 3) <;> cases h5 : (op == 5) <;>
    (go_enter Tryd.func66, Tryd.ntmps66
     go_wp2
     go_ret
     exact ⟨rfl, rfl⟩)

structure MayOut where
  kind : Int
  items : List Int
  ok : Bool

def mayR (k op : Int) (xs : List Int) (x v cd : Int) : MayOut :=
  if cd = 2 then ⟨k, xs, v == 0 && insB op && ((doR k op xs x).err == 7 || ((doR k op xs x).err == 0 && (doR k op xs x).code == 1))⟩
  else if (doR k op xs x).err = 0 ∧ cd = (doR k op xs x).code ∧ v = (doR k op xs x).val then ⟨(doR k op xs x).kind, (doR k op xs x).items, true⟩ else ⟨k, xs, false⟩

def DoneM (w : World) (e : Ending) (w' : World) (r : MayOut) : Prop :=
  ∃ p cap, e = .returned (.tuple #[.agg #[.int .i64 r.kind, .slice p r.items.length cap], .bool r.ok]) ∧ Lies w.heap.size w' p r.items ∧ KeepBut (fun _ => False) w w'

def clipV : Value → Value
  | .slice p n _ => .slice p n n
  | v => v
def sClip : Loud := { val := fun args _ => clipV (args.getD 1 undef) }

theorem clip_args {o : Oper} {a : Act} {fn arg : Operand} {ts : Array TypeId} {p : Option Addr} {n c : Nat} (ho : o.op = .call { callee := .value fn, args := #[arg], argTypes := ts }) (hv : a.eval arg = .slice p n c) :
    clipV ((argsOf o a).getD 1 undef) = .slice p n n := by
  simp [argsOf, ho, Op.operands, Call.operands, hv, clipV]

set_option maxHeartbeats 40000000 in
theorem may_any (w : World) (k : Int) (p : Option Addr) (c : Nat) (xs : List Int) (hrd : Rd w p (ints xs)) (hl : xs.length ≤ 1099511627776) (hp : ∀ a, p = some a → a.spot = none) (op x v cd : Int) :
    Calls Tryd.prog 60 #[.agg #[.int .i64 k, .slice p xs.length c], .int .i64 op, .int .i64 x, .int .i64 v, .int .i64 cd] w fun e w' => DoneM w e w' (mayR k op xs x v cd) := by
  obtain ⟨W1, B, hW1, hB, hB1, hk1, hs1⟩ := fresh_block w (.cells #[.int .i64 k, .slice p xs.length c] 47)
  obtain ⟨W, N, hWd, hN, hWn, hkW, hWs⟩ := fresh_block W1 (.cells #[.int .i64 0, .slice none 0 0] 47)
  have hk0 : KeepBut (fun _ => False) w W := hk1.trans hkW
  have hB2 := hkW.blk hB1
  have HB0 := Lib.hid hB2
  have cB0 : ∀ w', KeepBut (fun _ => False) W.drew w' → w'.cell? ⟨B, 0, none⟩ = some (.int .i64 k) := fun w' h => ((KeepBut.drew (fun _ => False) W).trans h).stay (blk_cell (k := 0) hB2 rfl)
  have cB1 : ∀ w', KeepBut (fun _ => False) W.drew w' → w'.cell? ⟨B, 1, none⟩ = some (.slice p xs.length c) := fun w' h => ((KeepBut.drew (fun _ => False) W).trans h).stay (blk_cell (k := 1) hB2 rfl)
  have HWN := Lib.hid hWn; have HKW := Lib.hid hk0
  have hNw : w.heap.size ≤ N := by omega
  have HN := Lib.hid hNw
  have HNl := Lib.hid (show N < W.heap.size by omega)
  have hNB : B + 1 = N := by omega
  have HR := Lib.hid hrd; have HP := Lib.hid hp; have HL := Lib.hid hl
  clear hrd hB1 hB2 hWn hkW hk0 hWs hk1 hs1 hNw hp
  obtain ⟨dk, ys, dv, dc, de, hdo⟩ : ∃ dk ys dv dc de, doR k op xs x = ⟨dk, ys, dv, dc, de⟩ := ⟨_, _, _, _, _, rfl⟩
  have HD := Lib.hid hdo
  clear hdo
  go_enter Tryd.func60, Tryd.ntmps60
  go_upto_region 1 with fail
  rw [← hW1, ← hB, ← hWd, hNB]
  clear hWd hN hW1 hB hNB
  refine wp_own0 (by kernel_rfl) (fun i => [[], [0], [], [2], [2, 3], [2, 3, 4], [0, 1, 2, 3, 4, 5], [], [0, 1, 2, 3, 4, 5, 6, 7]].getD i []) (fun i => if i = 5 then [4] else if i = 8 then [7] else []) (fun i => if i = 8 then [7] else []) [4, 8] (by kernel_rfl)
    (fun i => if i = 4 then some (sOwnI 2 xs) else if i = 5 then some sClip else if i = 7 then some (sNew (.cells #[.int .i64 0, .slice none 0 0] 47)) else if i = 8 then some (sPutA 47) else none) ?_
  repeat
    apply lex_quiet rfl rfl
    · intro w' hk; go_simp; with_reducible rfl
    simp only [Act.put, List.setIfInBounds_toArray, List.set_cons_zero, List.set_cons_succ]
  refine lex_loud rfl rfl (loud_call 44 #[.slice p xs.length c] (fun w => by kernel_rfl) ⟨default, trivial⟩ (fun g _ => stable_ownI _ _ _ _ _) fun w' hk _ _ => (clone_any w' p xs c (HR.out.stay (HKW.out.trans ((KeepBut.drew _ W).trans hk))) HL.out HP.out).mono ?_) fun g4 _ => ?_
  · rintro e w'' ⟨p', c', rfl, ho, hq⟩
    exact ⟨{ p := p', c := c' }, trivial, rfl, hq.mono fun _ e => e.elim, fun b ⟨a, h1, h2⟩ => by have := ho.lt a h1; exact ⟨.inl (by omega), by omega⟩, ho.base fun _ _ => Nat.zero_le _⟩
  simp only [sOwnI, Act.put, List.setIfInBounds_toArray, List.set_cons_zero, List.set_cons_succ]
  repeat
    apply lex_quiet rfl rfl
    · intro w' hk; go_simp; with_reducible rfl
    simp only [Act.put, List.setIfInBounds_toArray, List.set_cons_zero, List.set_cons_succ]
  refine lex_loud rfl rfl (loud_call 65 #[.slice g4.p xs.length g4.c] (fun w => by kernel_rfl) ⟨default, trivial⟩ (fun g _ => stable_true _) fun w' hk hav _ => ?_) fun g5 _ => ?_
  · have ho : OwnI 2 0 w' g4.p g4.c xs := (hav 4 (by decide)).1
    refine (clip_any w' g4.p xs.length g4.c ho.le.1 ho.le.2).mono ?_
    rintro e w'' ⟨rfl, rfl⟩
    exact ⟨default, trivial, (by simp only [sClip]; rw [clip_args (p := g4.p) (n := xs.length) (c := g4.c) rfl rfl]), KeepBut.refl _ _, fun b h => h.elim, trivial⟩
  simp only [sClip]
  rw [clip_args (p := g4.p) (n := xs.length) (c := g4.c) rfl rfl]
  simp only [Act.put, List.setIfInBounds_toArray, List.set_cons_zero, List.set_cons_succ]
  repeat
    apply lex_quiet rfl rfl
    · intro w' hk; go_simp; with_reducible rfl
    simp only [Act.put, List.setIfInBounds_toArray, List.set_cons_zero, List.set_cons_succ]
  refine lex_loud rfl rfl (loud_alloc _ fun w => by go_simp) fun g7 _ => ?_
  simp only [sNew, Act.put, List.setIfInBounds_toArray, List.set_cons_zero, List.set_cons_succ]
  refine lex_loud rfl rfl (loud_putA g7.b 47 47 #[.int .i64 k, .slice g4.p xs.length xs.length] _ (.tmp 12) (.tmp 23) rfl rfl rfl 7 (by decide) (by decide) (fun w h => h) rfl rfl (by kernel_rfl) (by simp [Value.oneCell'])) fun g8 _ => ?_
  simp only [sPutA, Act.put]
  refine lex_nil ?_
  intro w1 hk1 hF _
  have f4 : OwnI 2 0 w1 g4.p g4.c xs := (hF 4 (by decide)).1
  have b4 : ∀ b, Of g4.p b → b < w1.heap.size ∧ (W.heap.size ≤ b ∨ False) := (hF 4 (by decide)).2
  have f8 : w1.heap[g7.b]? = some (.cells #[.int .i64 k, .slice g4.p xs.length xs.length] 47 (0, 0)) := (hF 8 (by decide)).1 _ _ (put_args0 rfl rfl) (put_args rfl rfl)
  have b8 : W.heap.size ≤ g7.b := ((hF 8 (by decide)).2 g7.b (put_args0 rfl rfl)).2.resolve_right fun h => h
  have hk1' : KeepBut (fun _ => False) W w1 := (KeepBut.drew _ W).trans hk1
  have HK1 := Lib.hid hk1'
  have HO4 := Lib.hid (show OwnI 2 W.heap.size w1 g4.p g4.c xs from f4.base fun a ha => (b4 a.block ⟨a, ha, rfl⟩).2.resolve_right fun h => h)
  have HG7 := Lib.hid f8
  have HB7 := Lib.hid b8
  have x0 := blk_cell (k := 0) (hk1'.blk HB0.out) rfl
  have x1 := blk_cell (k := 1) (hk1'.blk HB0.out) rfl
  have hd : Hid (Calls Tryd.prog 59 #[.agg #[.int .i64 k, .slice p xs.length c], .int .i64 op, .int .i64 x] w1 fun e w' => Done4 w1 e w' dk ys dv dc de) := by
    have := do_any w1 k p c xs (HR.out.stay (HKW.out.trans hk1')) HL.out HP.out op x
    rw [HD.out] at this
    exact this
  clear hk1 hF f4 b4 f8 b8 hk1' cB0 cB1
  go_upto_region 3 with (go_at_call 59; refine hd.out.mono ?_; rintro e w2 ⟨pd, cap, rfl, hL2, hk2⟩)
  obtain ⟨V, NV, hV, hNV, hbV, hkV, -⟩ := fresh_block w2 (.cells #[.int .i64 dk, .slice pd ys.length cap] 47)
  rw [← hV, ← hNV]
  have hkk := hk2.trans hkV
  have HKV := Lib.hid ((HKW.out.trans HK1.out).trans hkk)
  have HNV := Lib.hid (hkk.blk (HK1.out.blk HWN.out))
  have HGV := Lib.hid (hkk.blk HG7.out)
  have HOV := Lib.hid (HO4.out.stay hkk)
  have HLV := Lib.hid (hL2.stay hkV)
  have HBV := Lib.hid hbV
  have HNVl := Lib.hid (show w1.heap.size ≤ NV by rw [hNV]; exact hk2.size)
  have HW1 := Lib.hid (show W.heap.size ≤ w1.heap.size from HK1.out.size)
  have HWW := Lib.hid (show w.heap.size ≤ W.heap.size from HKW.out.size)
  clear x0 x1 hV hNV hbV hkV hkk hk2 hL2 hd HO4 HG7 HK1
  have hgN : ¬ g7.b = N := by have := HB7.out; have := HNl.out; omega
  have hVN : ¬ NV = N := by have := HNVl.out; have := HW1.out; have := HNl.out; omega
  by_cases hcd2 : cd = 2
  · subst hcd2
    rcases Bool.eq_false_or_eq_true (v == 0) with hv0 | hv0
    · rcases Bool.eq_false_or_eq_true (insB op) with hins | hins
      · rcases Bool.eq_false_or_eq_true (de == 7) with h7 | h7
        · have hm := Lib.hid (show mayR k op xs x v 2 = ⟨k, xs, true⟩ by
            unfold mayR
            rw [HD.out, if_pos rfl]
            simp [hv0, hins, h7])
          have y0 : ∀ w', KeepBut (fun x => x = N) V.drew w' → w'.cell? ⟨g7.b, 0, none⟩ = some (.int .i64 k) := fun w' h => ((KeepBut.drew _ V).trans h).cell (blk_cell (k := 0) HGV.out rfl) hgN
          have y1 : ∀ w', KeepBut (fun x => x = N) V.drew w' → w'.cell? ⟨g7.b, 1, none⟩ = some (.slice g4.p xs.length xs.length) := fun w' h => ((KeepBut.drew _ V).trans h).cell (blk_cell (k := 1) HGV.out rfl) hgN
          go_upto_region 4 with fail
          refine wp_own1 (by kernel_rfl) N _ HNV.out (fun i => [[], [], [1], [1, 2], [1, 2, 3], [1, 2, 3, 4], [1, 2, 3, 4, 5], [1, 2, 3, 4, 5, 6], [1, 2, 3, 4, 5, 6, 7], [1, 2, 3, 4, 5, 6, 7, 8], [1, 2, 3, 4, 5, 6, 7, 8, 9], [1, 2, 3, 4, 5, 6, 7, 8, 9, 10], [1, 2, 3, 4, 5, 6, 7, 8, 9, 10, 11], [1, 2, 3, 4, 5, 6, 7, 8, 9, 10, 11, 12], [1, 2, 3, 4, 5, 6, 7, 8, 9, 10, 11, 12, 13], [1, 2, 3, 4, 5, 6, 7, 8, 9, 10, 11, 12, 13, 14], [1, 2, 3, 4, 5, 6, 7, 8, 9, 10, 11, 12, 13, 14, 15], [1, 2, 3, 4, 5, 6, 7, 8, 9, 10, 11, 12, 13, 14, 15, 16], [1, 2, 3, 4, 5, 6, 7, 8, 9, 10, 11, 12, 13, 14, 15, 16, 17], [0, 1, 2, 3, 4, 5, 6, 7, 8, 9, 10, 11, 12, 13], [0, 1, 2, 3, 4, 5, 6, 7, 8, 9, 10, 11, 12, 13, 14, 15, 16, 17, 18, 19]].getD i []) (fun i => if i = 19 then [21] else []) (fun i => if i = 19 then [21] else []) [19] (by kernel_rfl)
            (fun i => if i = 5 then some (sConst (.bool (insB op))) else if i = 19 then some (sPut N 47) else none) ?_
          apply lex_quiet (by kernel_rfl) rfl
          · intro w' hk; go_simp; with_reducible rfl
          simp only [Act.put, List.setIfInBounds_toArray, List.set_cons_zero, List.set_cons_succ]
          apply lex_quiet (by kernel_rfl) rfl
          · intro w' hk; go_simp; with_reducible rfl
          simp only [Act.put, List.setIfInBounds_toArray, List.set_cons_zero, List.set_cons_succ]
          apply lex_quiet (by kernel_rfl) rfl
          · intro w' hk; go_simp; with_reducible rfl
          simp only [Act.put, List.setIfInBounds_toArray, List.set_cons_zero, List.set_cons_succ]
          apply lex_quiet (by kernel_rfl) rfl
          · intro w' hk; go_simp; with_reducible rfl
          simp only [Act.put, List.setIfInBounds_toArray, List.set_cons_zero, List.set_cons_succ]
          apply lex_quiet (by kernel_rfl) rfl
          · intro w' hk; go_simp; with_reducible rfl
          simp only [Act.put, List.setIfInBounds_toArray, List.set_cons_zero, List.set_cons_succ]
          refine lex_loud (by kernel_rfl) rfl (loud_call 66 #[.int .i64 op] (fun w => by kernel_rfl) ⟨default, trivial⟩ (fun g _ => stable_true _) fun w' hk _ _ => (inserts_any w' op).mono ?_) fun g5 _ => ?_
          · rintro e w'' ⟨rfl, rfl⟩
            exact ⟨default, trivial, rfl, KeepBut.refl _ _, fun b h => h.elim, trivial⟩
          simp only [sConst, Act.put, List.setIfInBounds_toArray, List.set_cons_zero, List.set_cons_succ]
          rw [hins]
          apply lex_quiet (by kernel_rfl) rfl
          · intro w' hk; go_simp; with_reducible rfl
          simp only [Act.put, List.setIfInBounds_toArray, List.set_cons_zero, List.set_cons_succ]
          apply lex_quiet (by kernel_rfl) rfl
          · intro w' hk; go_simp; with_reducible rfl
          simp only [Act.put, List.setIfInBounds_toArray, List.set_cons_zero, List.set_cons_succ]
          apply lex_quiet (by kernel_rfl) rfl
          · intro w' hk; go_simp; with_reducible rfl
          simp only [Act.put, List.setIfInBounds_toArray, List.set_cons_zero, List.set_cons_succ]
          apply lex_quiet (by kernel_rfl) rfl
          · intro w' hk; go_simp; with_reducible rfl
          simp only [Act.put, List.setIfInBounds_toArray, List.set_cons_zero, List.set_cons_succ]
          apply lex_quiet (by kernel_rfl) rfl
          · intro w' hk; go_simp; with_reducible rfl
          simp only [Act.put, List.setIfInBounds_toArray, List.set_cons_zero, List.set_cons_succ]
          refine lex_skip ?_ ?_
          · kernel_rfl
          simp only [Act.put, List.setIfInBounds_toArray, List.set_cons_zero, List.set_cons_succ]
          refine lex_skip ?_ ?_
          · kernel_rfl
          simp only [Act.put, List.setIfInBounds_toArray, List.set_cons_zero, List.set_cons_succ]
          refine lex_skip ?_ ?_
          · kernel_rfl
          simp only [Act.put, List.setIfInBounds_toArray, List.set_cons_zero, List.set_cons_succ]
          refine lex_skip ?_ ?_
          · kernel_rfl
          simp only [Act.put, List.setIfInBounds_toArray, List.set_cons_zero, List.set_cons_succ]
          refine lex_skip ?_ ?_
          · kernel_rfl
          simp only [Act.put, List.setIfInBounds_toArray, List.set_cons_zero, List.set_cons_succ]
          refine lex_skip ?_ ?_
          · kernel_rfl
          simp only [Act.put, List.setIfInBounds_toArray, List.set_cons_zero, List.set_cons_succ]
          apply lex_quiet (by kernel_rfl) rfl
          · intro w' hk; go_simp; with_reducible rfl
          simp only [Act.put, List.setIfInBounds_toArray, List.set_cons_zero, List.set_cons_succ]
          apply lex_quiet (by kernel_rfl) rfl
          · intro w' hk; go_simp; with_reducible rfl
          simp only [Act.put, List.setIfInBounds_toArray, List.set_cons_zero, List.set_cons_succ]
          refine lex_loud (by kernel_rfl) rfl (loud_put N 47 47 #[.int .i64 k, .slice g4.p xs.length xs.length] _ (.tmp 10) (.tmp 36) rfl rfl rfl 21 (by decide) (by decide) (fun w h => h) ⟨rfl, rfl⟩ rfl (by kernel_rfl) (by simp [Value.oneCell'])) fun g6 _ => ?_
          simp only [sPut, Act.put]
          apply lex_quiet (by kernel_rfl) rfl
          · intro w' hk; go_simp; with_reducible rfl
          simp only [Act.put, List.setIfInBounds_toArray, List.set_cons_zero, List.set_cons_succ]
          refine lex_nil ?_
          intro w9 hk hF _
          have f0 : w9.heap[N]? = some (.cells #[.int .i64 k, .slice g4.p xs.length xs.length] 47 (0, 0)) := (hF 19 (by decide)).1 _ (put_args rfl rfl)
          have hk9 : KeepBut (fun x => x = N) V w9 := (KeepBut.drew _ V).trans hk
          clear hk hF y0 y1
          have c0 := blk_cell (k := 0) f0 rfl
          have c1 := blk_cell (k := 1) f0 rfl
          have hfin : DoneM w (.returned (.tuple #[.agg #[.int .i64 k, .slice g4.p xs.length xs.length], .bool true])) w9 (mayR k op xs x v 2) := by
            rw [hm.out]
            exact ⟨g4.p, xs.length, rfl, ((HOV.out.keep hk9 fun a ha e => by have := (HOV.out.lt a ha).1; have := HNl.out; omega).base fun a ha => by have := (HOV.out.lt a ha).1; have := HWW.out; omega).lies, HKV.out.new hk9 fun b hb => by have := HN.out; have h2 : b = N := hb; omega⟩
          have HF := Lib.hid hfin
          clear hfin hk9 f0
          go_wp2_with fail
          exact bodyPost_ret (v := .tuple #[.agg #[.int .i64 k, .slice g4.p xs.length xs.length], .bool true]) (by simp [results, Tryd.results60, go_sem, c0, c1]) rfl HF.out
        · rcases Bool.eq_false_or_eq_true (de == 0) with h0 | h0
          · rcases Bool.eq_false_or_eq_true (dc == 1) with h1 | h1
            · have hm := Lib.hid (show mayR k op xs x v 2 = ⟨k, xs, true⟩ by
                unfold mayR
                rw [HD.out, if_pos rfl]
                simp [hv0, hins, h7, h0, h1])
              have y0 : ∀ w', KeepBut (fun x => x = N) V.drew w' → w'.cell? ⟨g7.b, 0, none⟩ = some (.int .i64 k) := fun w' h => ((KeepBut.drew _ V).trans h).cell (blk_cell (k := 0) HGV.out rfl) hgN
              have y1 : ∀ w', KeepBut (fun x => x = N) V.drew w' → w'.cell? ⟨g7.b, 1, none⟩ = some (.slice g4.p xs.length xs.length) := fun w' h => ((KeepBut.drew _ V).trans h).cell (blk_cell (k := 1) HGV.out rfl) hgN
              go_upto_region 4 with fail
              refine wp_own1 (by kernel_rfl) N _ HNV.out (fun i => [[], [], [1], [1, 2], [1, 2, 3], [1, 2, 3, 4], [1, 2, 3, 4, 5], [1, 2, 3, 4, 5, 6], [1, 2, 3, 4, 5, 6, 7], [1, 2, 3, 4, 5, 6, 7, 8], [1, 2, 3, 4, 5, 6, 7, 8, 9], [1, 2, 3, 4, 5, 6, 7, 8, 9, 10], [1, 2, 3, 4, 5, 6, 7, 8, 9, 10, 11], [1, 2, 3, 4, 5, 6, 7, 8, 9, 10, 11, 12], [1, 2, 3, 4, 5, 6, 7, 8, 9, 10, 11, 12, 13], [1, 2, 3, 4, 5, 6, 7, 8, 9, 10, 11, 12, 13, 14], [1, 2, 3, 4, 5, 6, 7, 8, 9, 10, 11, 12, 13, 14, 15], [1, 2, 3, 4, 5, 6, 7, 8, 9, 10, 11, 12, 13, 14, 15, 16], [1, 2, 3, 4, 5, 6, 7, 8, 9, 10, 11, 12, 13, 14, 15, 16, 17], [0, 1, 2, 3, 4, 5, 6, 7, 8, 9, 10, 11, 12, 13], [0, 1, 2, 3, 4, 5, 6, 7, 8, 9, 10, 11, 12, 13, 14, 15, 16, 17, 18, 19]].getD i []) (fun i => if i = 19 then [21] else []) (fun i => if i = 19 then [21] else []) [19] (by kernel_rfl)
                (fun i => if i = 5 then some (sConst (.bool (insB op))) else if i = 19 then some (sPut N 47) else none) ?_
              apply lex_quiet (by kernel_rfl) rfl
              · intro w' hk; go_simp; with_reducible rfl
              simp only [Act.put, List.setIfInBounds_toArray, List.set_cons_zero, List.set_cons_succ]
              apply lex_quiet (by kernel_rfl) rfl
              · intro w' hk; go_simp; with_reducible rfl
              simp only [Act.put, List.setIfInBounds_toArray, List.set_cons_zero, List.set_cons_succ]
              apply lex_quiet (by kernel_rfl) rfl
              · intro w' hk; go_simp; with_reducible rfl
              simp only [Act.put, List.setIfInBounds_toArray, List.set_cons_zero, List.set_cons_succ]
              apply lex_quiet (by kernel_rfl) rfl
              · intro w' hk; go_simp; with_reducible rfl
              simp only [Act.put, List.setIfInBounds_toArray, List.set_cons_zero, List.set_cons_succ]
              apply lex_quiet (by kernel_rfl) rfl
              · intro w' hk; go_simp; with_reducible rfl
              simp only [Act.put, List.setIfInBounds_toArray, List.set_cons_zero, List.set_cons_succ]
              refine lex_loud (by kernel_rfl) rfl (loud_call 66 #[.int .i64 op] (fun w => by kernel_rfl) ⟨default, trivial⟩ (fun g _ => stable_true _) fun w' hk _ _ => (inserts_any w' op).mono ?_) fun g5 _ => ?_
              · rintro e w'' ⟨rfl, rfl⟩
                exact ⟨default, trivial, rfl, KeepBut.refl _ _, fun b h => h.elim, trivial⟩
              simp only [sConst, Act.put, List.setIfInBounds_toArray, List.set_cons_zero, List.set_cons_succ]
              rw [hins]
              apply lex_quiet (by kernel_rfl) rfl
              · intro w' hk; go_simp; with_reducible rfl
              simp only [Act.put, List.setIfInBounds_toArray, List.set_cons_zero, List.set_cons_succ]
              apply lex_quiet (by kernel_rfl) rfl
              · intro w' hk; go_simp; with_reducible rfl
              simp only [Act.put, List.setIfInBounds_toArray, List.set_cons_zero, List.set_cons_succ]
              apply lex_quiet (by kernel_rfl) rfl
              · intro w' hk; go_simp; with_reducible rfl
              simp only [Act.put, List.setIfInBounds_toArray, List.set_cons_zero, List.set_cons_succ]
              apply lex_quiet (by kernel_rfl) rfl
              · intro w' hk; go_simp; with_reducible rfl
              simp only [Act.put, List.setIfInBounds_toArray, List.set_cons_zero, List.set_cons_succ]
              apply lex_quiet (by kernel_rfl) rfl
              · intro w' hk; go_simp; with_reducible rfl
              simp only [Act.put, List.setIfInBounds_toArray, List.set_cons_zero, List.set_cons_succ]
              apply lex_quiet (by kernel_rfl) rfl
              · intro w' hk; go_simp; with_reducible rfl
              simp only [Act.put, List.setIfInBounds_toArray, List.set_cons_zero, List.set_cons_succ]
              apply lex_quiet (by kernel_rfl) rfl
              · intro w' hk; go_simp; with_reducible rfl
              simp only [Act.put, List.setIfInBounds_toArray, List.set_cons_zero, List.set_cons_succ]
              apply lex_quiet (by kernel_rfl) rfl
              · intro w' hk; go_simp; with_reducible rfl
              simp only [Act.put, List.setIfInBounds_toArray, List.set_cons_zero, List.set_cons_succ]
              apply lex_quiet (by kernel_rfl) rfl
              · intro w' hk; go_simp; with_reducible rfl
              simp only [Act.put, List.setIfInBounds_toArray, List.set_cons_zero, List.set_cons_succ]
              apply lex_quiet (by kernel_rfl) rfl
              · intro w' hk; go_simp; with_reducible rfl
              simp only [Act.put, List.setIfInBounds_toArray, List.set_cons_zero, List.set_cons_succ]
              apply lex_quiet (by kernel_rfl) rfl
              · intro w' hk; go_simp; with_reducible rfl
              simp only [Act.put, List.setIfInBounds_toArray, List.set_cons_zero, List.set_cons_succ]
              apply lex_quiet (by kernel_rfl) rfl
              · intro w' hk; go_simp; with_reducible rfl
              simp only [Act.put, List.setIfInBounds_toArray, List.set_cons_zero, List.set_cons_succ]
              apply lex_quiet (by kernel_rfl) rfl
              · intro w' hk; go_simp; with_reducible rfl
              simp only [Act.put, List.setIfInBounds_toArray, List.set_cons_zero, List.set_cons_succ]
              refine lex_loud (by kernel_rfl) rfl (loud_put N 47 47 #[.int .i64 k, .slice g4.p xs.length xs.length] _ (.tmp 10) (.tmp 36) rfl rfl rfl 21 (by decide) (by decide) (fun w h => h) ⟨rfl, rfl⟩ rfl (by kernel_rfl) (by simp [Value.oneCell'])) fun g6 _ => ?_
              simp only [sPut, Act.put]
              apply lex_quiet (by kernel_rfl) rfl
              · intro w' hk; go_simp; with_reducible rfl
              simp only [Act.put, List.setIfInBounds_toArray, List.set_cons_zero, List.set_cons_succ]
              refine lex_nil ?_
              intro w9 hk hF _
              have f0 : w9.heap[N]? = some (.cells #[.int .i64 k, .slice g4.p xs.length xs.length] 47 (0, 0)) := (hF 19 (by decide)).1 _ (put_args rfl rfl)
              have hk9 : KeepBut (fun x => x = N) V w9 := (KeepBut.drew _ V).trans hk
              clear hk hF y0 y1
              have c0 := blk_cell (k := 0) f0 rfl
              have c1 := blk_cell (k := 1) f0 rfl
              have hfin : DoneM w (.returned (.tuple #[.agg #[.int .i64 k, .slice g4.p xs.length xs.length], .bool true])) w9 (mayR k op xs x v 2) := by
                rw [hm.out]
                exact ⟨g4.p, xs.length, rfl, ((HOV.out.keep hk9 fun a ha e => by have := (HOV.out.lt a ha).1; have := HNl.out; omega).base fun a ha => by have := (HOV.out.lt a ha).1; have := HWW.out; omega).lies, HKV.out.new hk9 fun b hb => by have := HN.out; have h2 : b = N := hb; omega⟩
              have HF := Lib.hid hfin
              clear hfin hk9 f0
              go_wp2_with fail
              exact bodyPost_ret (v := .tuple #[.agg #[.int .i64 k, .slice g4.p xs.length xs.length], .bool true]) (by simp [results, Tryd.results60, go_sem, c0, c1]) rfl HF.out
            · have hm := Lib.hid (show mayR k op xs x v 2 = ⟨k, xs, false⟩ by
                unfold mayR
                rw [HD.out, if_pos rfl]
                simp [hv0, hins, h7, h0, h1])
              have y0 : ∀ w', KeepBut (fun x => x = N) V.drew w' → w'.cell? ⟨g7.b, 0, none⟩ = some (.int .i64 k) := fun w' h => ((KeepBut.drew _ V).trans h).cell (blk_cell (k := 0) HGV.out rfl) hgN
              have y1 : ∀ w', KeepBut (fun x => x = N) V.drew w' → w'.cell? ⟨g7.b, 1, none⟩ = some (.slice g4.p xs.length xs.length) := fun w' h => ((KeepBut.drew _ V).trans h).cell (blk_cell (k := 1) HGV.out rfl) hgN
              go_upto_region 4 with fail
              refine wp_own1 (by kernel_rfl) N _ HNV.out (fun i => [[], [], [1], [1, 2], [1, 2, 3], [1, 2, 3, 4], [1, 2, 3, 4, 5], [1, 2, 3, 4, 5, 6], [1, 2, 3, 4, 5, 6, 7], [1, 2, 3, 4, 5, 6, 7, 8], [1, 2, 3, 4, 5, 6, 7, 8, 9], [1, 2, 3, 4, 5, 6, 7, 8, 9, 10], [1, 2, 3, 4, 5, 6, 7, 8, 9, 10, 11], [1, 2, 3, 4, 5, 6, 7, 8, 9, 10, 11, 12], [1, 2, 3, 4, 5, 6, 7, 8, 9, 10, 11, 12, 13], [1, 2, 3, 4, 5, 6, 7, 8, 9, 10, 11, 12, 13, 14], [1, 2, 3, 4, 5, 6, 7, 8, 9, 10, 11, 12, 13, 14, 15], [1, 2, 3, 4, 5, 6, 7, 8, 9, 10, 11, 12, 13, 14, 15, 16], [1, 2, 3, 4, 5, 6, 7, 8, 9, 10, 11, 12, 13, 14, 15, 16, 17], [0, 1, 2, 3, 4, 5, 6, 7, 8, 9, 10, 11, 12, 13], [0, 1, 2, 3, 4, 5, 6, 7, 8, 9, 10, 11, 12, 13, 14, 15, 16, 17, 18, 19]].getD i []) (fun i => if i = 19 then [21] else []) (fun i => if i = 19 then [21] else []) [19] (by kernel_rfl)
                (fun i => if i = 5 then some (sConst (.bool (insB op))) else if i = 19 then some (sPut N 47) else none) ?_
              apply lex_quiet (by kernel_rfl) rfl
              · intro w' hk; go_simp; with_reducible rfl
              simp only [Act.put, List.setIfInBounds_toArray, List.set_cons_zero, List.set_cons_succ]
              apply lex_quiet (by kernel_rfl) rfl
              · intro w' hk; go_simp; with_reducible rfl
              simp only [Act.put, List.setIfInBounds_toArray, List.set_cons_zero, List.set_cons_succ]
              apply lex_quiet (by kernel_rfl) rfl
              · intro w' hk; go_simp; with_reducible rfl
              simp only [Act.put, List.setIfInBounds_toArray, List.set_cons_zero, List.set_cons_succ]
              apply lex_quiet (by kernel_rfl) rfl
              · intro w' hk; go_simp; with_reducible rfl
              simp only [Act.put, List.setIfInBounds_toArray, List.set_cons_zero, List.set_cons_succ]
              apply lex_quiet (by kernel_rfl) rfl
              · intro w' hk; go_simp; with_reducible rfl
              simp only [Act.put, List.setIfInBounds_toArray, List.set_cons_zero, List.set_cons_succ]
              refine lex_loud (by kernel_rfl) rfl (loud_call 66 #[.int .i64 op] (fun w => by kernel_rfl) ⟨default, trivial⟩ (fun g _ => stable_true _) fun w' hk _ _ => (inserts_any w' op).mono ?_) fun g5 _ => ?_
              · rintro e w'' ⟨rfl, rfl⟩
                exact ⟨default, trivial, rfl, KeepBut.refl _ _, fun b h => h.elim, trivial⟩
              simp only [sConst, Act.put, List.setIfInBounds_toArray, List.set_cons_zero, List.set_cons_succ]
              rw [hins]
              apply lex_quiet (by kernel_rfl) rfl
              · intro w' hk; go_simp; with_reducible rfl
              simp only [Act.put, List.setIfInBounds_toArray, List.set_cons_zero, List.set_cons_succ]
              apply lex_quiet (by kernel_rfl) rfl
              · intro w' hk; go_simp; with_reducible rfl
              simp only [Act.put, List.setIfInBounds_toArray, List.set_cons_zero, List.set_cons_succ]
              apply lex_quiet (by kernel_rfl) rfl
              · intro w' hk; go_simp; with_reducible rfl
              simp only [Act.put, List.setIfInBounds_toArray, List.set_cons_zero, List.set_cons_succ]
              apply lex_quiet (by kernel_rfl) rfl
              · intro w' hk; go_simp; with_reducible rfl
              simp only [Act.put, List.setIfInBounds_toArray, List.set_cons_zero, List.set_cons_succ]
              apply lex_quiet (by kernel_rfl) rfl
              · intro w' hk; go_simp; with_reducible rfl
              simp only [Act.put, List.setIfInBounds_toArray, List.set_cons_zero, List.set_cons_succ]
              apply lex_quiet (by kernel_rfl) rfl
              · intro w' hk; go_simp; with_reducible rfl
              simp only [Act.put, List.setIfInBounds_toArray, List.set_cons_zero, List.set_cons_succ]
              apply lex_quiet (by kernel_rfl) rfl
              · intro w' hk; go_simp; with_reducible rfl
              simp only [Act.put, List.setIfInBounds_toArray, List.set_cons_zero, List.set_cons_succ]
              apply lex_quiet (by kernel_rfl) rfl
              · intro w' hk; go_simp; with_reducible rfl
              simp only [Act.put, List.setIfInBounds_toArray, List.set_cons_zero, List.set_cons_succ]
              apply lex_quiet (by kernel_rfl) rfl
              · intro w' hk; go_simp; with_reducible rfl
              simp only [Act.put, List.setIfInBounds_toArray, List.set_cons_zero, List.set_cons_succ]
              apply lex_quiet (by kernel_rfl) rfl
              · intro w' hk; go_simp; with_reducible rfl
              simp only [Act.put, List.setIfInBounds_toArray, List.set_cons_zero, List.set_cons_succ]
              apply lex_quiet (by kernel_rfl) rfl
              · intro w' hk; go_simp; with_reducible rfl
              simp only [Act.put, List.setIfInBounds_toArray, List.set_cons_zero, List.set_cons_succ]
              apply lex_quiet (by kernel_rfl) rfl
              · intro w' hk; go_simp; with_reducible rfl
              simp only [Act.put, List.setIfInBounds_toArray, List.set_cons_zero, List.set_cons_succ]
              apply lex_quiet (by kernel_rfl) rfl
              · intro w' hk; go_simp; with_reducible rfl
              simp only [Act.put, List.setIfInBounds_toArray, List.set_cons_zero, List.set_cons_succ]
              refine lex_loud (by kernel_rfl) rfl (loud_put N 47 47 #[.int .i64 k, .slice g4.p xs.length xs.length] _ (.tmp 10) (.tmp 36) rfl rfl rfl 21 (by decide) (by decide) (fun w h => h) ⟨rfl, rfl⟩ rfl (by kernel_rfl) (by simp [Value.oneCell'])) fun g6 _ => ?_
              simp only [sPut, Act.put]
              apply lex_quiet (by kernel_rfl) rfl
              · intro w' hk; go_simp; with_reducible rfl
              simp only [Act.put, List.setIfInBounds_toArray, List.set_cons_zero, List.set_cons_succ]
              refine lex_nil ?_
              intro w9 hk hF _
              have f0 : w9.heap[N]? = some (.cells #[.int .i64 k, .slice g4.p xs.length xs.length] 47 (0, 0)) := (hF 19 (by decide)).1 _ (put_args rfl rfl)
              have hk9 : KeepBut (fun x => x = N) V w9 := (KeepBut.drew _ V).trans hk
              clear hk hF y0 y1
              have c0 := blk_cell (k := 0) f0 rfl
              have c1 := blk_cell (k := 1) f0 rfl
              have hfin : DoneM w (.returned (.tuple #[.agg #[.int .i64 k, .slice g4.p xs.length xs.length], .bool false])) w9 (mayR k op xs x v 2) := by
                rw [hm.out]
                exact ⟨g4.p, xs.length, rfl, ((HOV.out.keep hk9 fun a ha e => by have := (HOV.out.lt a ha).1; have := HNl.out; omega).base fun a ha => by have := (HOV.out.lt a ha).1; have := HWW.out; omega).lies, HKV.out.new hk9 fun b hb => by have := HN.out; have h2 : b = N := hb; omega⟩
              have HF := Lib.hid hfin
              clear hfin hk9 f0
              go_wp2_with fail
              exact bodyPost_ret (v := .tuple #[.agg #[.int .i64 k, .slice g4.p xs.length xs.length], .bool false]) (by simp [results, Tryd.results60, go_sem, c0, c1]) rfl HF.out
          · have hm := Lib.hid (show mayR k op xs x v 2 = ⟨k, xs, false⟩ by
              unfold mayR
              rw [HD.out, if_pos rfl]
              simp [hv0, hins, h7, h0])
            have y0 : ∀ w', KeepBut (fun x => x = N) V.drew w' → w'.cell? ⟨g7.b, 0, none⟩ = some (.int .i64 k) := fun w' h => ((KeepBut.drew _ V).trans h).cell (blk_cell (k := 0) HGV.out rfl) hgN
            have y1 : ∀ w', KeepBut (fun x => x = N) V.drew w' → w'.cell? ⟨g7.b, 1, none⟩ = some (.slice g4.p xs.length xs.length) := fun w' h => ((KeepBut.drew _ V).trans h).cell (blk_cell (k := 1) HGV.out rfl) hgN
            go_upto_region 4 with fail
            refine wp_own1 (by kernel_rfl) N _ HNV.out (fun i => [[], [], [1], [1, 2], [1, 2, 3], [1, 2, 3, 4], [1, 2, 3, 4, 5], [1, 2, 3, 4, 5, 6], [1, 2, 3, 4, 5, 6, 7], [1, 2, 3, 4, 5, 6, 7, 8], [1, 2, 3, 4, 5, 6, 7, 8, 9], [1, 2, 3, 4, 5, 6, 7, 8, 9, 10], [1, 2, 3, 4, 5, 6, 7, 8, 9, 10, 11], [1, 2, 3, 4, 5, 6, 7, 8, 9, 10, 11, 12], [1, 2, 3, 4, 5, 6, 7, 8, 9, 10, 11, 12, 13], [1, 2, 3, 4, 5, 6, 7, 8, 9, 10, 11, 12, 13, 14], [1, 2, 3, 4, 5, 6, 7, 8, 9, 10, 11, 12, 13, 14, 15], [1, 2, 3, 4, 5, 6, 7, 8, 9, 10, 11, 12, 13, 14, 15, 16], [1, 2, 3, 4, 5, 6, 7, 8, 9, 10, 11, 12, 13, 14, 15, 16, 17], [0, 1, 2, 3, 4, 5, 6, 7, 8, 9, 10, 11, 12, 13], [0, 1, 2, 3, 4, 5, 6, 7, 8, 9, 10, 11, 12, 13, 14, 15, 16, 17, 18, 19]].getD i []) (fun i => if i = 19 then [21] else []) (fun i => if i = 19 then [21] else []) [19] (by kernel_rfl)
              (fun i => if i = 5 then some (sConst (.bool (insB op))) else if i = 19 then some (sPut N 47) else none) ?_
            apply lex_quiet (by kernel_rfl) rfl
            · intro w' hk; go_simp; with_reducible rfl
            simp only [Act.put, List.setIfInBounds_toArray, List.set_cons_zero, List.set_cons_succ]
            apply lex_quiet (by kernel_rfl) rfl
            · intro w' hk; go_simp; with_reducible rfl
            simp only [Act.put, List.setIfInBounds_toArray, List.set_cons_zero, List.set_cons_succ]
            apply lex_quiet (by kernel_rfl) rfl
            · intro w' hk; go_simp; with_reducible rfl
            simp only [Act.put, List.setIfInBounds_toArray, List.set_cons_zero, List.set_cons_succ]
            apply lex_quiet (by kernel_rfl) rfl
            · intro w' hk; go_simp; with_reducible rfl
            simp only [Act.put, List.setIfInBounds_toArray, List.set_cons_zero, List.set_cons_succ]
            apply lex_quiet (by kernel_rfl) rfl
            · intro w' hk; go_simp; with_reducible rfl
            simp only [Act.put, List.setIfInBounds_toArray, List.set_cons_zero, List.set_cons_succ]
            refine lex_loud (by kernel_rfl) rfl (loud_call 66 #[.int .i64 op] (fun w => by kernel_rfl) ⟨default, trivial⟩ (fun g _ => stable_true _) fun w' hk _ _ => (inserts_any w' op).mono ?_) fun g5 _ => ?_
            · rintro e w'' ⟨rfl, rfl⟩
              exact ⟨default, trivial, rfl, KeepBut.refl _ _, fun b h => h.elim, trivial⟩
            simp only [sConst, Act.put, List.setIfInBounds_toArray, List.set_cons_zero, List.set_cons_succ]
            rw [hins]
            apply lex_quiet (by kernel_rfl) rfl
            · intro w' hk; go_simp; with_reducible rfl
            simp only [Act.put, List.setIfInBounds_toArray, List.set_cons_zero, List.set_cons_succ]
            apply lex_quiet (by kernel_rfl) rfl
            · intro w' hk; go_simp; with_reducible rfl
            simp only [Act.put, List.setIfInBounds_toArray, List.set_cons_zero, List.set_cons_succ]
            apply lex_quiet (by kernel_rfl) rfl
            · intro w' hk; go_simp; with_reducible rfl
            simp only [Act.put, List.setIfInBounds_toArray, List.set_cons_zero, List.set_cons_succ]
            apply lex_quiet (by kernel_rfl) rfl
            · intro w' hk; go_simp; with_reducible rfl
            simp only [Act.put, List.setIfInBounds_toArray, List.set_cons_zero, List.set_cons_succ]
            apply lex_quiet (by kernel_rfl) rfl
            · intro w' hk; go_simp; with_reducible rfl
            simp only [Act.put, List.setIfInBounds_toArray, List.set_cons_zero, List.set_cons_succ]
            apply lex_quiet (by kernel_rfl) rfl
            · intro w' hk; go_simp; with_reducible rfl
            simp only [Act.put, List.setIfInBounds_toArray, List.set_cons_zero, List.set_cons_succ]
            apply lex_quiet (by kernel_rfl) rfl
            · intro w' hk; go_simp; with_reducible rfl
            simp only [Act.put, List.setIfInBounds_toArray, List.set_cons_zero, List.set_cons_succ]
            apply lex_quiet (by kernel_rfl) rfl
            · intro w' hk; go_simp; with_reducible rfl
            simp only [Act.put, List.setIfInBounds_toArray, List.set_cons_zero, List.set_cons_succ]
            refine lex_skip ?_ ?_
            · kernel_rfl
            simp only [Act.put, List.setIfInBounds_toArray, List.set_cons_zero, List.set_cons_succ]
            refine lex_skip ?_ ?_
            · kernel_rfl
            simp only [Act.put, List.setIfInBounds_toArray, List.set_cons_zero, List.set_cons_succ]
            apply lex_quiet (by kernel_rfl) rfl
            · intro w' hk; go_simp; with_reducible rfl
            simp only [Act.put, List.setIfInBounds_toArray, List.set_cons_zero, List.set_cons_succ]
            apply lex_quiet (by kernel_rfl) rfl
            · intro w' hk; go_simp; with_reducible rfl
            simp only [Act.put, List.setIfInBounds_toArray, List.set_cons_zero, List.set_cons_succ]
            apply lex_quiet (by kernel_rfl) rfl
            · intro w' hk; go_simp; with_reducible rfl
            simp only [Act.put, List.setIfInBounds_toArray, List.set_cons_zero, List.set_cons_succ]
            refine lex_loud (by kernel_rfl) rfl (loud_put N 47 47 #[.int .i64 k, .slice g4.p xs.length xs.length] _ (.tmp 10) (.tmp 36) rfl rfl rfl 21 (by decide) (by decide) (fun w h => h) ⟨rfl, rfl⟩ rfl (by kernel_rfl) (by simp [Value.oneCell'])) fun g6 _ => ?_
            simp only [sPut, Act.put]
            apply lex_quiet (by kernel_rfl) rfl
            · intro w' hk; go_simp; with_reducible rfl
            simp only [Act.put, List.setIfInBounds_toArray, List.set_cons_zero, List.set_cons_succ]
            refine lex_nil ?_
            intro w9 hk hF _
            have f0 : w9.heap[N]? = some (.cells #[.int .i64 k, .slice g4.p xs.length xs.length] 47 (0, 0)) := (hF 19 (by decide)).1 _ (put_args rfl rfl)
            have hk9 : KeepBut (fun x => x = N) V w9 := (KeepBut.drew _ V).trans hk
            clear hk hF y0 y1
            have c0 := blk_cell (k := 0) f0 rfl
            have c1 := blk_cell (k := 1) f0 rfl
            have hfin : DoneM w (.returned (.tuple #[.agg #[.int .i64 k, .slice g4.p xs.length xs.length], .bool false])) w9 (mayR k op xs x v 2) := by
              rw [hm.out]
              exact ⟨g4.p, xs.length, rfl, ((HOV.out.keep hk9 fun a ha e => by have := (HOV.out.lt a ha).1; have := HNl.out; omega).base fun a ha => by have := (HOV.out.lt a ha).1; have := HWW.out; omega).lies, HKV.out.new hk9 fun b hb => by have := HN.out; have h2 : b = N := hb; omega⟩
            have HF := Lib.hid hfin
            clear hfin hk9 f0
            go_wp2_with fail
            exact bodyPost_ret (v := .tuple #[.agg #[.int .i64 k, .slice g4.p xs.length xs.length], .bool false]) (by simp [results, Tryd.results60, go_sem, c0, c1]) rfl HF.out
      · have hm := Lib.hid (show mayR k op xs x v 2 = ⟨k, xs, false⟩ by
          unfold mayR
          rw [HD.out, if_pos rfl]
          simp [hv0, hins])
        have y0 : ∀ w', KeepBut (fun x => x = N) V.drew w' → w'.cell? ⟨g7.b, 0, none⟩ = some (.int .i64 k) := fun w' h => ((KeepBut.drew _ V).trans h).cell (blk_cell (k := 0) HGV.out rfl) hgN
        have y1 : ∀ w', KeepBut (fun x => x = N) V.drew w' → w'.cell? ⟨g7.b, 1, none⟩ = some (.slice g4.p xs.length xs.length) := fun w' h => ((KeepBut.drew _ V).trans h).cell (blk_cell (k := 1) HGV.out rfl) hgN
        go_upto_region 4 with fail
        refine wp_own1 (by kernel_rfl) N _ HNV.out (fun i => [[], [], [1], [1, 2], [1, 2, 3], [1, 2, 3, 4], [1, 2, 3, 4, 5], [1, 2, 3, 4, 5, 6], [1, 2, 3, 4, 5, 6, 7], [1, 2, 3, 4, 5, 6, 7, 8], [1, 2, 3, 4, 5, 6, 7, 8, 9], [1, 2, 3, 4, 5, 6, 7, 8, 9, 10], [1, 2, 3, 4, 5, 6, 7, 8, 9, 10, 11], [1, 2, 3, 4, 5, 6, 7, 8, 9, 10, 11, 12], [1, 2, 3, 4, 5, 6, 7, 8, 9, 10, 11, 12, 13], [1, 2, 3, 4, 5, 6, 7, 8, 9, 10, 11, 12, 13, 14], [1, 2, 3, 4, 5, 6, 7, 8, 9, 10, 11, 12, 13, 14, 15], [1, 2, 3, 4, 5, 6, 7, 8, 9, 10, 11, 12, 13, 14, 15, 16], [1, 2, 3, 4, 5, 6, 7, 8, 9, 10, 11, 12, 13, 14, 15, 16, 17], [0, 1, 2, 3, 4, 5, 6, 7, 8, 9, 10, 11, 12, 13], [0, 1, 2, 3, 4, 5, 6, 7, 8, 9, 10, 11, 12, 13, 14, 15, 16, 17, 18, 19]].getD i []) (fun i => if i = 19 then [21] else []) (fun i => if i = 19 then [21] else []) [19] (by kernel_rfl)
          (fun i => if i = 5 then some (sConst (.bool (insB op))) else if i = 19 then some (sPut N 47) else none) ?_
        apply lex_quiet (by kernel_rfl) rfl
        · intro w' hk; go_simp; with_reducible rfl
        simp only [Act.put, List.setIfInBounds_toArray, List.set_cons_zero, List.set_cons_succ]
        apply lex_quiet (by kernel_rfl) rfl
        · intro w' hk; go_simp; with_reducible rfl
        simp only [Act.put, List.setIfInBounds_toArray, List.set_cons_zero, List.set_cons_succ]
        apply lex_quiet (by kernel_rfl) rfl
        · intro w' hk; go_simp; with_reducible rfl
        simp only [Act.put, List.setIfInBounds_toArray, List.set_cons_zero, List.set_cons_succ]
        apply lex_quiet (by kernel_rfl) rfl
        · intro w' hk; go_simp; with_reducible rfl
        simp only [Act.put, List.setIfInBounds_toArray, List.set_cons_zero, List.set_cons_succ]
        apply lex_quiet (by kernel_rfl) rfl
        · intro w' hk; go_simp; with_reducible rfl
        simp only [Act.put, List.setIfInBounds_toArray, List.set_cons_zero, List.set_cons_succ]
        refine lex_loud (by kernel_rfl) rfl (loud_call 66 #[.int .i64 op] (fun w => by kernel_rfl) ⟨default, trivial⟩ (fun g _ => stable_true _) fun w' hk _ _ => (inserts_any w' op).mono ?_) fun g5 _ => ?_
        · rintro e w'' ⟨rfl, rfl⟩
          exact ⟨default, trivial, rfl, KeepBut.refl _ _, fun b h => h.elim, trivial⟩
        simp only [sConst, Act.put, List.setIfInBounds_toArray, List.set_cons_zero, List.set_cons_succ]
        rw [hins]
        apply lex_quiet (by kernel_rfl) rfl
        · intro w' hk; go_simp; with_reducible rfl
        simp only [Act.put, List.setIfInBounds_toArray, List.set_cons_zero, List.set_cons_succ]
        apply lex_quiet (by kernel_rfl) rfl
        · intro w' hk; go_simp; with_reducible rfl
        simp only [Act.put, List.setIfInBounds_toArray, List.set_cons_zero, List.set_cons_succ]
        refine lex_skip ?_ ?_
        · kernel_rfl
        simp only [Act.put, List.setIfInBounds_toArray, List.set_cons_zero, List.set_cons_succ]
        refine lex_skip ?_ ?_
        · kernel_rfl
        simp only [Act.put, List.setIfInBounds_toArray, List.set_cons_zero, List.set_cons_succ]
        refine lex_skip ?_ ?_
        · kernel_rfl
        simp only [Act.put, List.setIfInBounds_toArray, List.set_cons_zero, List.set_cons_succ]
        refine lex_skip ?_ ?_
        · kernel_rfl
        simp only [Act.put, List.setIfInBounds_toArray, List.set_cons_zero, List.set_cons_succ]
        refine lex_skip ?_ ?_
        · kernel_rfl
        simp only [Act.put, List.setIfInBounds_toArray, List.set_cons_zero, List.set_cons_succ]
        refine lex_skip ?_ ?_
        · kernel_rfl
        simp only [Act.put, List.setIfInBounds_toArray, List.set_cons_zero, List.set_cons_succ]
        refine lex_skip ?_ ?_
        · kernel_rfl
        simp only [Act.put, List.setIfInBounds_toArray, List.set_cons_zero, List.set_cons_succ]
        refine lex_skip ?_ ?_
        · kernel_rfl
        simp only [Act.put, List.setIfInBounds_toArray, List.set_cons_zero, List.set_cons_succ]
        refine lex_skip ?_ ?_
        · kernel_rfl
        simp only [Act.put, List.setIfInBounds_toArray, List.set_cons_zero, List.set_cons_succ]
        refine lex_skip ?_ ?_
        · kernel_rfl
        simp only [Act.put, List.setIfInBounds_toArray, List.set_cons_zero, List.set_cons_succ]
        apply lex_quiet (by kernel_rfl) rfl
        · intro w' hk; go_simp; with_reducible rfl
        simp only [Act.put, List.setIfInBounds_toArray, List.set_cons_zero, List.set_cons_succ]
        refine lex_loud (by kernel_rfl) rfl (loud_put N 47 47 #[.int .i64 k, .slice g4.p xs.length xs.length] _ (.tmp 10) (.tmp 36) rfl rfl rfl 21 (by decide) (by decide) (fun w h => h) ⟨rfl, rfl⟩ rfl (by kernel_rfl) (by simp [Value.oneCell'])) fun g6 _ => ?_
        simp only [sPut, Act.put]
        apply lex_quiet (by kernel_rfl) rfl
        · intro w' hk; go_simp; with_reducible rfl
        simp only [Act.put, List.setIfInBounds_toArray, List.set_cons_zero, List.set_cons_succ]
        refine lex_nil ?_
        intro w9 hk hF _
        have f0 : w9.heap[N]? = some (.cells #[.int .i64 k, .slice g4.p xs.length xs.length] 47 (0, 0)) := (hF 19 (by decide)).1 _ (put_args rfl rfl)
        have hk9 : KeepBut (fun x => x = N) V w9 := (KeepBut.drew _ V).trans hk
        clear hk hF y0 y1
        have c0 := blk_cell (k := 0) f0 rfl
        have c1 := blk_cell (k := 1) f0 rfl
        have hfin : DoneM w (.returned (.tuple #[.agg #[.int .i64 k, .slice g4.p xs.length xs.length], .bool false])) w9 (mayR k op xs x v 2) := by
          rw [hm.out]
          exact ⟨g4.p, xs.length, rfl, ((HOV.out.keep hk9 fun a ha e => by have := (HOV.out.lt a ha).1; have := HNl.out; omega).base fun a ha => by have := (HOV.out.lt a ha).1; have := HWW.out; omega).lies, HKV.out.new hk9 fun b hb => by have := HN.out; have h2 : b = N := hb; omega⟩
        have HF := Lib.hid hfin
        clear hfin hk9 f0
        go_wp2_with fail
        exact bodyPost_ret (v := .tuple #[.agg #[.int .i64 k, .slice g4.p xs.length xs.length], .bool false]) (by simp [results, Tryd.results60, go_sem, c0, c1]) rfl HF.out
    · have hm := Lib.hid (show mayR k op xs x v 2 = ⟨k, xs, false⟩ by
        unfold mayR
        rw [HD.out, if_pos rfl]
        simp [hv0])
      have y0 : ∀ w', KeepBut (fun x => x = N) V.drew w' → w'.cell? ⟨g7.b, 0, none⟩ = some (.int .i64 k) := fun w' h => ((KeepBut.drew _ V).trans h).cell (blk_cell (k := 0) HGV.out rfl) hgN
      have y1 : ∀ w', KeepBut (fun x => x = N) V.drew w' → w'.cell? ⟨g7.b, 1, none⟩ = some (.slice g4.p xs.length xs.length) := fun w' h => ((KeepBut.drew _ V).trans h).cell (blk_cell (k := 1) HGV.out rfl) hgN
      go_upto_region 4 with fail
      refine wp_own1 (by kernel_rfl) N _ HNV.out (fun i => [[], [], [1], [1, 2], [1, 2, 3], [1, 2, 3, 4], [1, 2, 3, 4, 5], [1, 2, 3, 4, 5, 6], [1, 2, 3, 4, 5, 6, 7], [1, 2, 3, 4, 5, 6, 7, 8], [1, 2, 3, 4, 5, 6, 7, 8, 9], [1, 2, 3, 4, 5, 6, 7, 8, 9, 10], [1, 2, 3, 4, 5, 6, 7, 8, 9, 10, 11], [1, 2, 3, 4, 5, 6, 7, 8, 9, 10, 11, 12], [1, 2, 3, 4, 5, 6, 7, 8, 9, 10, 11, 12, 13], [1, 2, 3, 4, 5, 6, 7, 8, 9, 10, 11, 12, 13, 14], [1, 2, 3, 4, 5, 6, 7, 8, 9, 10, 11, 12, 13, 14, 15], [1, 2, 3, 4, 5, 6, 7, 8, 9, 10, 11, 12, 13, 14, 15, 16], [1, 2, 3, 4, 5, 6, 7, 8, 9, 10, 11, 12, 13, 14, 15, 16, 17], [0, 1, 2, 3, 4, 5, 6, 7, 8, 9, 10, 11, 12, 13], [0, 1, 2, 3, 4, 5, 6, 7, 8, 9, 10, 11, 12, 13, 14, 15, 16, 17, 18, 19]].getD i []) (fun i => if i = 19 then [21] else []) (fun i => if i = 19 then [21] else []) [19] (by kernel_rfl)
        (fun i => if i = 5 then some (sConst (.bool (insB op))) else if i = 19 then some (sPut N 47) else none) ?_
      apply lex_quiet (by kernel_rfl) rfl
      · intro w' hk; go_simp; with_reducible rfl
      simp only [Act.put, List.setIfInBounds_toArray, List.set_cons_zero, List.set_cons_succ]
      apply lex_quiet (by kernel_rfl) rfl
      · intro w' hk; go_simp; with_reducible rfl
      simp only [Act.put, List.setIfInBounds_toArray, List.set_cons_zero, List.set_cons_succ]
      apply lex_quiet (by kernel_rfl) rfl
      · intro w' hk; go_simp; with_reducible rfl
      simp only [Act.put, List.setIfInBounds_toArray, List.set_cons_zero, List.set_cons_succ]
      apply lex_quiet (by kernel_rfl) rfl
      · intro w' hk; go_simp; with_reducible rfl
      simp only [Act.put, List.setIfInBounds_toArray, List.set_cons_zero, List.set_cons_succ]
      refine lex_skip ?_ ?_
      · kernel_rfl
      simp only [Act.put, List.setIfInBounds_toArray, List.set_cons_zero, List.set_cons_succ]
      refine lex_skip ?_ ?_
      · kernel_rfl
      simp only [Act.put, List.setIfInBounds_toArray, List.set_cons_zero, List.set_cons_succ]
      apply lex_quiet (by kernel_rfl) rfl
      · intro w' hk; go_simp; with_reducible rfl
      simp only [Act.put, List.setIfInBounds_toArray, List.set_cons_zero, List.set_cons_succ]
      apply lex_quiet (by kernel_rfl) rfl
      · intro w' hk; go_simp; with_reducible rfl
      simp only [Act.put, List.setIfInBounds_toArray, List.set_cons_zero, List.set_cons_succ]
      refine lex_skip ?_ ?_
      · kernel_rfl
      simp only [Act.put, List.setIfInBounds_toArray, List.set_cons_zero, List.set_cons_succ]
      refine lex_skip ?_ ?_
      · kernel_rfl
      simp only [Act.put, List.setIfInBounds_toArray, List.set_cons_zero, List.set_cons_succ]
      refine lex_skip ?_ ?_
      · kernel_rfl
      simp only [Act.put, List.setIfInBounds_toArray, List.set_cons_zero, List.set_cons_succ]
      refine lex_skip ?_ ?_
      · kernel_rfl
      simp only [Act.put, List.setIfInBounds_toArray, List.set_cons_zero, List.set_cons_succ]
      refine lex_skip ?_ ?_
      · kernel_rfl
      simp only [Act.put, List.setIfInBounds_toArray, List.set_cons_zero, List.set_cons_succ]
      refine lex_skip ?_ ?_
      · kernel_rfl
      simp only [Act.put, List.setIfInBounds_toArray, List.set_cons_zero, List.set_cons_succ]
      refine lex_skip ?_ ?_
      · kernel_rfl
      simp only [Act.put, List.setIfInBounds_toArray, List.set_cons_zero, List.set_cons_succ]
      refine lex_skip ?_ ?_
      · kernel_rfl
      simp only [Act.put, List.setIfInBounds_toArray, List.set_cons_zero, List.set_cons_succ]
      refine lex_skip ?_ ?_
      · kernel_rfl
      simp only [Act.put, List.setIfInBounds_toArray, List.set_cons_zero, List.set_cons_succ]
      refine lex_skip ?_ ?_
      · kernel_rfl
      simp only [Act.put, List.setIfInBounds_toArray, List.set_cons_zero, List.set_cons_succ]
      apply lex_quiet (by kernel_rfl) rfl
      · intro w' hk; go_simp; with_reducible rfl
      simp only [Act.put, List.setIfInBounds_toArray, List.set_cons_zero, List.set_cons_succ]
      refine lex_loud (by kernel_rfl) rfl (loud_put N 47 47 #[.int .i64 k, .slice g4.p xs.length xs.length] _ (.tmp 10) (.tmp 36) rfl rfl rfl 21 (by decide) (by decide) (fun w h => h) ⟨rfl, rfl⟩ rfl (by kernel_rfl) (by simp [Value.oneCell'])) fun g6 _ => ?_
      simp only [sPut, Act.put]
      apply lex_quiet (by kernel_rfl) rfl
      · intro w' hk; go_simp; with_reducible rfl
      simp only [Act.put, List.setIfInBounds_toArray, List.set_cons_zero, List.set_cons_succ]
      refine lex_nil ?_
      intro w9 hk hF _
      have f0 : w9.heap[N]? = some (.cells #[.int .i64 k, .slice g4.p xs.length xs.length] 47 (0, 0)) := (hF 19 (by decide)).1 _ (put_args rfl rfl)
      have hk9 : KeepBut (fun x => x = N) V w9 := (KeepBut.drew _ V).trans hk
      clear hk hF y0 y1
      have c0 := blk_cell (k := 0) f0 rfl
      have c1 := blk_cell (k := 1) f0 rfl
      have hfin : DoneM w (.returned (.tuple #[.agg #[.int .i64 k, .slice g4.p xs.length xs.length], .bool false])) w9 (mayR k op xs x v 2) := by
        rw [hm.out]
        exact ⟨g4.p, xs.length, rfl, ((HOV.out.keep hk9 fun a ha e => by have := (HOV.out.lt a ha).1; have := HNl.out; omega).base fun a ha => by have := (HOV.out.lt a ha).1; have := HWW.out; omega).lies, HKV.out.new hk9 fun b hb => by have := HN.out; have h2 : b = N := hb; omega⟩
      have HF := Lib.hid hfin
      clear hfin hk9 f0
      go_wp2_with fail
      exact bodyPost_ret (v := .tuple #[.agg #[.int .i64 k, .slice g4.p xs.length xs.length], .bool false]) (by simp [results, Tryd.results60, go_sem, c0, c1]) rfl HF.out
  · have hb2 : (cd == 2) = false := by simpa using hcd2
    by_cases he0 : de = 0
    · by_cases hcc : cd = dc
      · by_cases hvv : v = dv
        · have b0 : (de != 0) = false := by simpa using he0
          have b1 : (cd != dc) = false := by simpa using hcc
          have b2 : (v != dv) = false := by simpa using hvv
          have hm := Lib.hid (show mayR k op xs x v cd = ⟨dk, ys, true⟩ by
            unfold mayR
            rw [HD.out, if_neg hcd2, if_pos ⟨he0, hcc, hvv⟩])
          clear hcd2 he0 hcc hvv
          have y0 := blk_cell (k := 0) HBV.out rfl
          have y1 := blk_cell (k := 1) HBV.out rfl
          go_upto_region 7 with fail
          have z0 : ∀ w', KeepBut (fun x => x = N) V w' → w'.cell? ⟨NV, 0, none⟩ = some (.int .i64 dk) := fun w' h => h.cell y0 hVN
          have z1 : ∀ w', KeepBut (fun x => x = N) V w' → w'.cell? ⟨NV, 1, none⟩ = some (.slice pd ys.length cap) := fun w' h => h.cell y1 hVN
          clear y0 y1
          refine wp_own1_plain N _ HNV.out (fun i => if i = 1 then [3] else []) (fun i => if i = 1 then [3] else []) [1] (by kernel_rfl) (fun i => if i = 1 then some (sPut N 47) else none) ?_
          repeat
            apply lex_quiet rfl rfl
            · intro w' hk; go_simp; with_reducible rfl
            simp only [Act.put, List.setIfInBounds_toArray, List.set_cons_zero, List.set_cons_succ]
          refine lex_loud rfl rfl (loud_put N 47 47 #[.int .i64 dk, .slice pd ys.length cap] _ (.tmp 10) (.tmp 69) rfl rfl rfl 3 (by decide) (by decide) (fun w h => h) ⟨rfl, rfl⟩ rfl (by kernel_rfl) (by simp [Value.oneCell'])) fun g6 _ => ?_
          simp only [sPut, Act.put]
          repeat
            apply lex_quiet rfl rfl
            · intro w' hk; go_simp; with_reducible rfl
            simp only [Act.put, List.setIfInBounds_toArray, List.set_cons_zero, List.set_cons_succ]
          refine lex_nil ?_
          intro w9 hk9 hF _
          have f0 : w9.heap[N]? = some (.cells #[.int .i64 dk, .slice pd ys.length cap] 47 (0, 0)) := (hF 1 (by decide)).1 _ (put_args rfl rfl)
          clear hF z0 z1
          have c0 := blk_cell (k := 0) f0 rfl
          have c1 := blk_cell (k := 1) f0 rfl
          have hfin : DoneM w (.returned (.tuple #[.agg #[.int .i64 dk, .slice pd ys.length cap], .bool true])) w9 (mayR k op xs x v cd) := by
            rw [hm.out]
            exact ⟨pd, cap, rfl, (HLV.out.keep hk9 fun a ha e => by have := (HLV.out.2 a ha).1; have := HNl.out; have := HW1.out; have : a.block = N := e; omega).base fun a ha => by have := (HLV.out.2 a ha).1; have := HW1.out; have := HWW.out; omega, HKV.out.new hk9 fun b hb => by have := HN.out; have h2 : b = N := hb; omega⟩
          have HF := Lib.hid hfin
          clear hfin hk9 f0
          go_wp2_with fail
          exact bodyPost_ret (v := .tuple #[.agg #[.int .i64 dk, .slice pd ys.length cap], .bool true]) (by simp [results, Tryd.results60, go_sem, c0, c1]) rfl HF.out
        · have hno : ¬ (de = 0 ∧ cd = dc ∧ v = dv) := fun h => hvv h.2.2
          have b0 : (de != 0) = false := by simpa using he0
          have b1 : (cd != dc) = false := by simpa using hcc
          have b2 : (v != dv) = true := by simpa using hvv
          have hm := Lib.hid (show mayR k op xs x v cd = ⟨k, xs, false⟩ by
            unfold mayR
            rw [HD.out, if_neg hcd2, if_neg hno])
          clear hno hcd2 he0 hcc hvv
          have y0 := blk_cell (k := 0) HGV.out rfl
          have y1 := blk_cell (k := 1) HGV.out rfl
          go_upto_region 6 with fail
          have z0 : ∀ w', KeepBut (fun x => x = N) V w' → w'.cell? ⟨g7.b, 0, none⟩ = some (.int .i64 k) := fun w' h => h.cell y0 hgN
          have z1 : ∀ w', KeepBut (fun x => x = N) V w' → w'.cell? ⟨g7.b, 1, none⟩ = some (.slice g4.p xs.length xs.length) := fun w' h => h.cell y1 hgN
          clear y0 y1
          refine wp_own1_plain N _ HNV.out (fun i => if i = 1 then [3] else []) (fun i => if i = 1 then [3] else []) [1] (by kernel_rfl) (fun i => if i = 1 then some (sPut N 47) else none) ?_
          repeat
            apply lex_quiet rfl rfl
            · intro w' hk; go_simp; with_reducible rfl
            simp only [Act.put, List.setIfInBounds_toArray, List.set_cons_zero, List.set_cons_succ]
          refine lex_loud rfl rfl (loud_put N 47 47 #[.int .i64 k, .slice g4.p xs.length xs.length] _ (.tmp 10) (.tmp 68) rfl rfl rfl 3 (by decide) (by decide) (fun w h => h) ⟨rfl, rfl⟩ rfl (by kernel_rfl) (by simp [Value.oneCell'])) fun g6 _ => ?_
          simp only [sPut, Act.put]
          repeat
            apply lex_quiet rfl rfl
            · intro w' hk; go_simp; with_reducible rfl
            simp only [Act.put, List.setIfInBounds_toArray, List.set_cons_zero, List.set_cons_succ]
          refine lex_nil ?_
          intro w9 hk9 hF _
          have f0 : w9.heap[N]? = some (.cells #[.int .i64 k, .slice g4.p xs.length xs.length] 47 (0, 0)) := (hF 1 (by decide)).1 _ (put_args rfl rfl)
          clear hF z0 z1
          have c0 := blk_cell (k := 0) f0 rfl
          have c1 := blk_cell (k := 1) f0 rfl
          have hfin : DoneM w (.returned (.tuple #[.agg #[.int .i64 k, .slice g4.p xs.length xs.length], .bool false])) w9 (mayR k op xs x v cd) := by
            rw [hm.out]
            exact ⟨g4.p, xs.length, rfl, ((HOV.out.keep hk9 fun a ha e => by have := (HOV.out.lt a ha).1; have := HNl.out; omega).base fun a ha => by have := (HOV.out.lt a ha).1; have := HWW.out; omega).lies, HKV.out.new hk9 fun b hb => by have := HN.out; have h2 : b = N := hb; omega⟩
          have HF := Lib.hid hfin
          clear hfin hk9 f0
          go_wp2_with fail
          exact bodyPost_ret (v := .tuple #[.agg #[.int .i64 k, .slice g4.p xs.length xs.length], .bool false]) (by simp [results, Tryd.results60, go_sem, c0, c1]) rfl HF.out
      · have hno : ¬ (de = 0 ∧ cd = dc ∧ v = dv) := fun h => hcc h.2.1
        have b0 : (de != 0) = false := by simpa using he0
        have b1 : (cd != dc) = true := by simpa using hcc
        have hm := Lib.hid (show mayR k op xs x v cd = ⟨k, xs, false⟩ by
          unfold mayR
          rw [HD.out, if_neg hcd2, if_neg hno])
        clear hno hcd2 he0 hcc
        have y0 := blk_cell (k := 0) HGV.out rfl
        have y1 := blk_cell (k := 1) HGV.out rfl
        go_upto_region 6 with fail
        have z0 : ∀ w', KeepBut (fun x => x = N) V w' → w'.cell? ⟨g7.b, 0, none⟩ = some (.int .i64 k) := fun w' h => h.cell y0 hgN
        have z1 : ∀ w', KeepBut (fun x => x = N) V w' → w'.cell? ⟨g7.b, 1, none⟩ = some (.slice g4.p xs.length xs.length) := fun w' h => h.cell y1 hgN
        clear y0 y1
        refine wp_own1_plain N _ HNV.out (fun i => if i = 1 then [3] else []) (fun i => if i = 1 then [3] else []) [1] (by kernel_rfl) (fun i => if i = 1 then some (sPut N 47) else none) ?_
        repeat
          apply lex_quiet rfl rfl
          · intro w' hk; go_simp; with_reducible rfl
          simp only [Act.put, List.setIfInBounds_toArray, List.set_cons_zero, List.set_cons_succ]
        refine lex_loud rfl rfl (loud_put N 47 47 #[.int .i64 k, .slice g4.p xs.length xs.length] _ (.tmp 10) (.tmp 68) rfl rfl rfl 3 (by decide) (by decide) (fun w h => h) ⟨rfl, rfl⟩ rfl (by kernel_rfl) (by simp [Value.oneCell'])) fun g6 _ => ?_
        simp only [sPut, Act.put]
        repeat
          apply lex_quiet rfl rfl
          · intro w' hk; go_simp; with_reducible rfl
          simp only [Act.put, List.setIfInBounds_toArray, List.set_cons_zero, List.set_cons_succ]
        refine lex_nil ?_
        intro w9 hk9 hF _
        have f0 : w9.heap[N]? = some (.cells #[.int .i64 k, .slice g4.p xs.length xs.length] 47 (0, 0)) := (hF 1 (by decide)).1 _ (put_args rfl rfl)
        clear hF z0 z1
        have c0 := blk_cell (k := 0) f0 rfl
        have c1 := blk_cell (k := 1) f0 rfl
        have hfin : DoneM w (.returned (.tuple #[.agg #[.int .i64 k, .slice g4.p xs.length xs.length], .bool false])) w9 (mayR k op xs x v cd) := by
          rw [hm.out]
          exact ⟨g4.p, xs.length, rfl, ((HOV.out.keep hk9 fun a ha e => by have := (HOV.out.lt a ha).1; have := HNl.out; omega).base fun a ha => by have := (HOV.out.lt a ha).1; have := HWW.out; omega).lies, HKV.out.new hk9 fun b hb => by have := HN.out; have h2 : b = N := hb; omega⟩
        have HF := Lib.hid hfin
        clear hfin hk9 f0
        go_wp2_with fail
        exact bodyPost_ret (v := .tuple #[.agg #[.int .i64 k, .slice g4.p xs.length xs.length], .bool false]) (by simp [results, Tryd.results60, go_sem, c0, c1]) rfl HF.out
    · have hno : ¬ (de = 0 ∧ cd = dc ∧ v = dv) := fun h => he0 h.1
      have b0 : (de != 0) = true := by simpa using he0
      have hm := Lib.hid (show mayR k op xs x v cd = ⟨k, xs, false⟩ by
        unfold mayR
        rw [HD.out, if_neg hcd2, if_neg hno])
      clear hno hcd2 he0
      have y0 := blk_cell (k := 0) HGV.out rfl
      have y1 := blk_cell (k := 1) HGV.out rfl
      go_upto_region 6 with fail
      have z0 : ∀ w', KeepBut (fun x => x = N) V w' → w'.cell? ⟨g7.b, 0, none⟩ = some (.int .i64 k) := fun w' h => h.cell y0 hgN
      have z1 : ∀ w', KeepBut (fun x => x = N) V w' → w'.cell? ⟨g7.b, 1, none⟩ = some (.slice g4.p xs.length xs.length) := fun w' h => h.cell y1 hgN
      clear y0 y1
      refine wp_own1_plain N _ HNV.out (fun i => if i = 1 then [3] else []) (fun i => if i = 1 then [3] else []) [1] (by kernel_rfl) (fun i => if i = 1 then some (sPut N 47) else none) ?_
      repeat
        apply lex_quiet rfl rfl
        · intro w' hk; go_simp; with_reducible rfl
        simp only [Act.put, List.setIfInBounds_toArray, List.set_cons_zero, List.set_cons_succ]
      refine lex_loud rfl rfl (loud_put N 47 47 #[.int .i64 k, .slice g4.p xs.length xs.length] _ (.tmp 10) (.tmp 68) rfl rfl rfl 3 (by decide) (by decide) (fun w h => h) ⟨rfl, rfl⟩ rfl (by kernel_rfl) (by simp [Value.oneCell'])) fun g6 _ => ?_
      simp only [sPut, Act.put]
      repeat
        apply lex_quiet rfl rfl
        · intro w' hk; go_simp; with_reducible rfl
        simp only [Act.put, List.setIfInBounds_toArray, List.set_cons_zero, List.set_cons_succ]
      refine lex_nil ?_
      intro w9 hk9 hF _
      have f0 : w9.heap[N]? = some (.cells #[.int .i64 k, .slice g4.p xs.length xs.length] 47 (0, 0)) := (hF 1 (by decide)).1 _ (put_args rfl rfl)
      clear hF z0 z1
      have c0 := blk_cell (k := 0) f0 rfl
      have c1 := blk_cell (k := 1) f0 rfl
      have hfin : DoneM w (.returned (.tuple #[.agg #[.int .i64 k, .slice g4.p xs.length xs.length], .bool false])) w9 (mayR k op xs x v cd) := by
        rw [hm.out]
        exact ⟨g4.p, xs.length, rfl, ((HOV.out.keep hk9 fun a ha e => by have := (HOV.out.lt a ha).1; have := HNl.out; omega).base fun a ha => by have := (HOV.out.lt a ha).1; have := HWW.out; omega).lies, HKV.out.new hk9 fun b hb => by have := HN.out; have h2 : b = N := hb; omega⟩
      have HF := Lib.hid hfin
      clear hfin hk9 f0
      go_wp2_with fail
      exact bodyPost_ret (v := .tuple #[.agg #[.int .i64 k, .slice g4.p xs.length xs.length], .bool false]) (by simp [results, Tryd.results60, go_sem, c0, c1]) rfl HF.out

end Go.Proofs.YtoolpifkfgileaaDoor
