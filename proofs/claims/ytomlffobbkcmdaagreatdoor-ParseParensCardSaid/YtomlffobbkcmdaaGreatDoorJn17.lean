/- Joined texts of this work: Pb8, Pf1, Pf2, Pf3, Pf4, Pf5. -/
import Derived.Test.YtomlffobbkcmdaaGreatDoorJn16
import Derived.Test.YtomlffobbkcmdaaGreatDoorJn13
import Derived.WalkSmall

/-
  Package parse: reading an expression; Expr.
-/
namespace Go.Proofs.YtomlffobbkcmdaaGreatDoor
open Go Go.RowKit Own

theorem RowT.rowI {w : World} {p : Option Addr} {its : List Item} (h : RowT w p its) : RowI w p its := fun i hi => by
  obtain ⟨g, h1, h2, h3, h4, h5, h6⟩ := h i hi
  refine ⟨g, 0, h1, ?_⟩
  simp only [Nat.zero_add]
  exact ⟨h2, h3, h4, h5, h6⟩

abbrev TFa : TypeId := 30
theorem blk3f {w : World} {B : Nat} {a b c : Value} {T : TypeId} (h : w.heap[B]? = some (.cells #[a, b, c] T (0, 0))) :
    w.cell? ⟨B, 0, none⟩ = some a ∧ w.cell? ⟨B, 1, none⟩ = some b ∧ w.cell? ⟨B, 2, none⟩ = some c ∧ w.frozen? ⟨B, 0, none⟩ = false ∧ w.frozen? ⟨B, 1, none⟩ = false ∧ w.frozen? ⟨B, 2, none⟩ = false := by
  simp [World.cell?, World.frozen?, h]

/-- the tokens of a text, and the room behind them -/
theorem all_room {s : ByteArray} {its : List Item} (h : allT s.data.toList = (its, ⟨0, 0, 0⟩)) (hne : its ≠ []) (w : World) (hT : TabS w) :
    Calls Tryz.prog 64 #[.string s] w fun e w' => ∃ g cap, e = .returned (.tuple #[.slice (some ⟨g, 0, none⟩) its.length cap, .agg #[.int .i64 0, .int .i64 0, .int .i64 0]]) ∧ RowI w' (some ⟨g, 0, none⟩) its ∧ its.length ≤ cap ∧ cap ≤ 9223372036854775807 ∧ (g < w'.heap.size ∧ w.heap.size ≤ g) ∧ KeepBut (fun _ => False) w w' := by
  refine (all_any s w hT).mono ?_
  rintro e w' ⟨v, rfl, hrow, hk⟩
  rw [h] at hrow ⊢
  obtain ⟨p, cap', hv, hrt, hlt⟩ := RowT.of_owns hrow
  obtain ⟨h0, ⟨h1, h2⟩ | ⟨g, cap2, cur, hv2, hbs, hg, h2, h3, h4, h5⟩⟩ := hrow
  · exact absurd (List.eq_nil_of_length_eq_zero h2) hne
  · rw [hv2] at hv
    cases hv
    subst hv2
    exact ⟨g, _, rfl, hrt.rowI, h2, by unfold maxLen at h3; omega, ⟨(Array.getElem?_eq_some_iff.1 hg).1, hbs⟩, hk⟩

set_option maxRecDepth 100000 in
set_option maxHeartbeats 32000000 in
theorem readingE_any (f : Nat) (s : ByteArray) (its : List Item) (x : Ex) (w : World) (hT : TabS w) (hall : allT s.data.toList = (its, ⟨0, 0, 0⟩)) (hss : s.size ≤ 1000000) (hx : exP f its = some (x, [])) (hne : its ≠ []) (hsz : exSize x ≤ 600) (hdp : exDeep x ≤ 24) :
    Calls Tryz.prog 30 #[.string s, .func (.func 31) #[] #[], .func (.func 34) #[] #[]] w fun e w' => ∃ vs, e = .returned (.tuple #[.agg vs.toArray, .agg #[.int .i64 0, .int .i64 0, .int .i64 0]]) ∧ ExAt w' (fun b => w.heap.size ≤ b) vs x ∧ KeepBut (fun _ => False) w w' := by
  obtain ⟨V1, B6, hV1, hB6, hb6, hk1, hs1⟩ := fresh_block w (.cells #[.int .i64 0, .int .i64 0, .int .i64 0, .string ⟨#[]⟩, .slice none 0 0, .int .i64 0, .int .i64 0] TEx)
  obtain ⟨V, B7, hV, hB7, hb7, hk2, hs2⟩ := fresh_block V1 (.cells #[.int .i64 0, .int .i64 0, .int .i64 0] TFa)
  have hk := hk1.trans hk2
  have hALL := all_room hall hne V (hk.tabS hT)
  have HALL := Lib.hid hALL
  have HBE := Lib.hid fun W => behind_any s hss W
  have h67 : B6 + 1 = B7 := by omega
  have HK := Lib.hid hk; have HB6 := Lib.hid (hk2.blk hb6); have HB7 := Lib.hid hb7; have HX := Lib.hid hx; have HSZ := Lib.hid hsz; have HDP := Lib.hid hdp
  have HN := Lib.hid (show w.heap.size ≤ B6 ∧ B6 < B7 ∧ B7 < V.heap.size by omega)
  clear hT hall hss hx hne hsz hdp hb6 hb7 hk1 hk2 hs1 hs2 hk hALL
  go_enter_defers Tryz.func30, Tryz.ntmps30
  go_upto_region 1 with fail
  rw [← hV1, ← hB6, ← hV, h67]
  clear hV1 hB6 hV hB7 h67
  go_wp2_with fail
  go_at_call 64
  refine HALL.out.mono ?_
  rintro e w1 ⟨g, cap, rfl, hrow, hc1, hc2, hg, hk⟩
  have HK1 := Lib.hid hk; have HROW := Lib.hid hrow; have HCAP := Lib.hid (And.intro hc1 hc2); have HG := Lib.hid hg
  have hb71 := hk.blk HB7.out
  have HB71 := Lib.hid hb71
  obtain ⟨n0, n1, n2, f0, f1, f2⟩ := blk3f hb71
  clear hk hrow hc1 hc2 hg hb71
  go_upto_region 2 with fail
  obtain ⟨w2, hw2, hb2, hk2⟩ := put3 HB71.out (.int .i64 0) (.int .i64 0) (.int .i64 0)
  rw [← hw2]
  have hn := HN.out
  have HB72 := Lib.hid hb2
  have HB62 := Lib.hid (hk2.blkE (HK1.out.blk HB6.out) fun e => by have e : B6 = B7 := e; omega)
  have HROW2 := Lib.hid (show RowI w2 (some ⟨g, 0, none⟩) its ∧ g < w2.heap.size ∧ g ≠ B7 ∧ g ≠ B6 from by
    have hg := HG.out
    have h7 : g ≠ B7 := by omega
    exact ⟨HROW.out.keep hk2 (fun a ha e => by cases ha; exact h7 e), Nat.lt_of_lt_of_le hg.1 hk2.size, h7, by omega⟩)
  have HK2 := Lib.hid (show KeepBut (fun b => b = B7) w w2 from ((HK.out.trans HK1.out).mono fun _ e => e.elim).trans hk2)
  clear hw2 hb2 hk2 hn n0 n1 n2 f0 f1 f2
  obtain ⟨n0, n1, n2, -⟩ := blk3f HB72.out
  go_upto_region 5 with fail
  clear n0 n1 n2
  go_wp2_with fail
  go_at_call 66
  refine (HBE.out w2).mono ?_
  rintro e w3 ⟨el, ec, rfl, hk3⟩
  obtain ⟨W4, R, hW4, hR, hbr, hk4, hs4⟩ := fresh_block w3 (.cells #[.slice (some ⟨g, 0, none⟩) its.length cap, .int .i64 0, .string ⟨#[]⟩, .int .i64 0, .int .i64 el, .int .i64 ec] TRd)
  have hk34 := hk3.trans hk4
  have HR4 := Lib.hid (show ReaderAt W4 R its el ec from ⟨some ⟨g, 0, none⟩, cap, hbr, HROW2.out.1.keep hk34 (fun _ _ e => e), fun a ha => by cases ha; have := HROW2.out.2.1; have := hk3.size; show g < R; omega, HCAP.out⟩)
  have HRE := Lib.hid (readE_any f W4 R el ec its x HR4.out HX.out)
  have HB64 := Lib.hid (hk34.blk HB62.out); have HB74 := Lib.hid (hk34.blk HB72.out)
  have HK4 := Lib.hid (HK2.out.newM hk34 fun _ e => e.elim)
  have HN4 := Lib.hid (show B7 < R ∧ R < W4.heap.size ∧ w2.heap.size ≤ R by
    have h1 := (Array.getElem?_eq_some_iff.1 HB72.out).1
    have h2 := hk3.size
    omega)
  clear hk3 hk4 hk34 hbr hs4
  go_wp2_with fail
  rw [← hW4, ← hR]
  clear hW4 hR
  go_at_call 31
  refine HRE.out.mono ?_
  rintro e w5 ⟨vs, rfl, hex, hk5⟩
  obtain ⟨xk, xo, xn, xS, xp, xm, xc, xl, xcl, rfl⟩ := ex_form hex
  have hn := HN.out; have hn4 := HN4.out
  have hb65 := hk5.blkE HB64.out fun e => by have e : B6 = R := e; omega
  have HB65 := Lib.hid hb65
  have HB75 := Lib.hid (hk5.blkE HB74.out fun e => by have e : B7 = R := e; omega)
  have HEX := Lib.hid hex; have HK5 := Lib.hid hk5
  obtain ⟨m0, m1, m2, m3, m4, m5, m6, f0, f1, f2, f3, f4, f5, f6⟩ := blk7 hb65
  clear hex hk5 hb65 hn hn4
  go_upto_region 6 with fail
  obtain ⟨w6, hw6, hb6, hk6⟩ := put7 HB65.out (.int .i64 xk) (.int .i64 xo) (.int .i64 xn) (.string xS) (.slice xp xm xc) (.int .i64 xl) (.int .i64 xcl)
  rw [← hw6]
  have hn := HN.out; have hn4 := HN4.out
  have HB66 := Lib.hid hb6
  have HB76 := Lib.hid (hk6.blkE HB75.out fun e => by have e : B7 = B6 := e; omega)
  have HEX6 := Lib.hid (HEX.out.keep hk6 fun b hb e => by have e : b = B6 := e; have hb : W4.heap.size ≤ b := hb; omega)
  have HKW6 := Lib.hid (show KeepBut (fun _ => False) w w6 from ⟨hk6.os.trans (HK5.out.os.trans HK4.out.os), hk6.tape.trans (HK5.out.tape.trans HK4.out.tape), hk6.output.trans (HK5.out.output.trans HK4.out.output), Nat.le_trans HK4.out.size (Nat.le_trans HK5.out.size hk6.size), fun b hb _ => by
    have h1 := HK4.out.size
    rw [hk6.block b (Nat.lt_of_lt_of_le hb (Nat.le_trans HK4.out.size HK5.out.size)) (show ¬ b = B6 by omega), HK5.out.block b (by omega) (show ¬ b = R by omega), HK4.out.block b hb (show ¬ b = B7 by omega)]⟩)
  have HWG := Lib.hid (weigh_any 600 x HSZ.out (by decide) w6 _ _ HEX6.out)
  obtain ⟨c0, c1, c2, c3, c4, c5, c6, -⟩ := blk7 hb6
  clear hw6 hb6 hk6 hn hn4 m0 m1 m2 m3 m4 m5 m6 f0 f1 f2 f3 f4 f5 f6
  go_wp2_with fail
  go_at_call 34
  refine HWG.out.mono ?_
  rintro e w7 ⟨rfl, hk7⟩
  have HKW7 := Lib.hid (HKW6.out.trans hk7)
  have HB67 := Lib.hid (hk7.blk HB66.out); have HB77 := Lib.hid (hk7.blk HB76.out); have HEX7 := Lib.hid (HEX6.out.keep hk7 fun _ _ e => e)
  have h600 : decide ((600 : Int) < (exSize x : Int)) = false := decide_eq_false (by have := HSZ.out; omega)
  have h24 : decide ((24 : Int) < (exDeep x : Int)) = false := decide_eq_false (by have := HDP.out; omega)
  clear hk7 c0 c1 c2 c3 c4 c5 c6
  go_upto_region 9 with fail
  refine wp_ownB (by kernel_rfl) B6 B7 _ _ HB67.out HB77.out (by have := HN.out; omega) (fun i => [[], [], [0], [0, 1, 2]].getD i []) (fun i => if i = 0 then [4] else if i = 1 then [5] else if i = 2 then [4] else if i = 3 then [5] else []) (fun i => if i = 2 then [4] else if i = 3 then [5] else []) [2, 3] (by kernel_rfl)
    (fun i => if i = 0 then some (sConst (.agg #[.int .i64 xk, .int .i64 xo, .int .i64 xn, .string xS, .slice xp xm xc, .int .i64 xl, .int .i64 xcl])) else if i = 1 then some (sConst (.agg #[.int .i64 0, .int .i64 0, .int .i64 0])) else if i = 2 then some (sPut B6 TEx) else if i = 3 then some (sPut B7 TFa) else none) ?_
  refine lex_loud rfl rfl (loud_run ⟨default, trivial⟩ (fun g _ w w' _ _ _ _ _ => trivial) fun w' hk hav _ => by
    obtain ⟨x0, x1, x2, x3, x4, x5, x6, -⟩ := blk7 (show w'.heap[B6]? = some (.cells #[.int .i64 xk, .int .i64 xo, .int .i64 xn, .string xS, .slice xp xm xc, .int .i64 xl, .int .i64 xcl] TEx (0, 0)) from (hav 4 (by decide)).1)
    exact ⟨w', default, trivial, .inl (by go_simp <;> rfl), KeepBut.refl _ _, fun b h => h.elim, trivial⟩) fun _ _ => ?_
  simp only [sConst, Act.put, List.setIfInBounds_toArray, List.set_cons_zero, List.set_cons_succ]
  refine lex_loud rfl rfl (loud_run ⟨default, trivial⟩ (fun g _ w w' _ _ _ _ _ => trivial) fun w' hk hav _ => by
    obtain ⟨x0, x1, x2, -⟩ := blk3f (show w'.heap[B7]? = some (.cells #[.int .i64 0, .int .i64 0, .int .i64 0] TFa (0, 0)) from (hav 5 (by decide)).1)
    exact ⟨w', default, trivial, .inl (by go_simp <;> rfl), KeepBut.refl _ _, fun b h => h.elim, trivial⟩) fun _ _ => ?_
  simp only [Act.put, List.setIfInBounds_toArray, List.set_cons_zero, List.set_cons_succ]
  refine lex_loud rfl rfl (loud_put B6 TEx TEx #[.int .i64 xk, .int .i64 xo, .int .i64 xn, .string xS, .slice xp xm xc, .int .i64 xl, .int .i64 xcl] _ (.tmp 6) (.tmp 44) rfl rfl rfl 4 (by decide) (by decide) (fun w h => h) (.inl ⟨rfl, rfl⟩) rfl (by kernel_rfl) (by simp [Value.oneCell'])) fun g2 _ => ?_
  simp only [sPut, Act.put]
  refine lex_loud rfl rfl (loud_put B7 TFa TFa #[.int .i64 0, .int .i64 0, .int .i64 0] _ (.tmp 7) (.tmp 45) rfl rfl rfl 5 (by decide) (by decide) (fun w h => h) (.inr ⟨rfl, rfl⟩) rfl (by kernel_rfl) (by simp [Value.oneCell'])) fun g3 _ => ?_
  simp only [Act.put]
  refine lex_nil ?_
  intro w9 hk9 hF _
  have f2 : w9.heap[B6]? = some (.cells #[.int .i64 xk, .int .i64 xo, .int .i64 xn, .string xS, .slice xp xm xc, .int .i64 xl, .int .i64 xcl] TEx (0, 0)) := (hF 2 (by decide)).1 _ (put_args rfl rfl)
  have f3 : w9.heap[B7]? = some (.cells #[.int .i64 0, .int .i64 0, .int .i64 0] TFa (0, 0)) := (hF 3 (by decide)).1 _ (put_args rfl rfl)
  have hkM := (KeepBut.drew (fun b => b = B6 ∨ b = B7) w7).trans hk9
  have hn := HN.out; have hn4 := HN4.out
  have HEX9 := Lib.hid ((HEX7.out.keep hkM fun b hb e => by have hb : W4.heap.size ≤ b := hb; omega).mono (S' := fun b => w.heap.size ≤ b) fun b hb => by have hb : W4.heap.size ≤ b := hb; omega)
  have HK9 := Lib.hid (HKW7.out.new hkM fun b hb => by omega)
  obtain ⟨c0, c1, c2, c3, c4, c5, c6, -⟩ := blk7 f2
  obtain ⟨d0, d1, d2, -⟩ := blk3f f3
  clear hk9 hF f2 f3 hkM hn hn4
  go_wp2_with fail
  refine leaves_cons (f := 65) (args := #[.pointer (some ⟨B6, 0, none⟩), .pointer (some ⟨B7, 0, none⟩)]) (by simp) (by simp [go_sem]) ?_
  refine (catch_idle ⟨B6, 0, none⟩ ⟨B7, 0, none⟩ _).mono ?_
  rintro e u' w'' ⟨rfl, rfl, rfl⟩
  exact ⟨.tuple #[.agg #[.int .i64 xk, .int .i64 xo, .int .i64 xn, .string xS, .slice xp xm xc, .int .i64 xl, .int .i64 xcl], .agg #[.int .i64 0, .int .i64 0, .int .i64 0]], by simp [results, Tryz.results30, go_sem, c0, c1, c2, c3, c4, c5, c6, d0, d1, d2], _, rfl, HEX9.out, HK9.out⟩

set_option maxHeartbeats 8000000 in
/-- Expr, of a text that is an expression -/
theorem expr_any (f : Nat) (s : ByteArray) (its : List Item) (x : Ex) (w : World) (hT : TabS w) (hall : allT s.data.toList = (its, ⟨0, 0, 0⟩)) (hss : s.size ≤ 1000000) (hx : exP f its = some (x, [])) (hne : its ≠ []) (hsz : exSize x ≤ 600) (hdp : exDeep x ≤ 24) :
    Calls Tryz.prog 11 #[.string s] w fun e w' => ∃ vs, e = .returned (.tuple #[.agg vs.toArray, .agg #[.int .i64 0, .int .i64 0, .int .i64 0]]) ∧ ExAt w' (fun b => w.heap.size ≤ b) vs x ∧ KeepBut (fun _ => False) w w' := by
  obtain ⟨V1, B2, hV1, hB2, hb2, hk1, hs1⟩ := fresh_block w (.cells #[.int .i64 0, .int .i64 0, .int .i64 0, .string ⟨#[]⟩, .slice none 0 0, .int .i64 0, .int .i64 0] TEx)
  obtain ⟨V, B3, hV, hB3, hb3, hk2, hs2⟩ := fresh_block V1 (.cells #[.int .i64 0, .int .i64 0, .int .i64 0] TFa)
  have hk := hk1.trans hk2
  have HRE := Lib.hid (readingE_any f s its x V (hk.tabS hT) hall hss hx hne hsz hdp)
  have h23 : B2 + 1 = B3 := by omega
  have HK := Lib.hid hk; have HB2 := Lib.hid (hk2.blk hb2); have HB3 := Lib.hid hb3
  have HN := Lib.hid (show w.heap.size ≤ B2 ∧ B2 < B3 ∧ B3 < V.heap.size by omega)
  clear hT hall hss hx hne hsz hdp hb2 hb3 hk1 hk2 hs1 hs2 hk
  go_enter Tryz.func11, Tryz.ntmps11
  go_upto_region 1 with fail
  rw [← hV1, ← hB2, ← hV, h23]
  clear hV1 hB2 hV hB3 h23
  go_wp2_with fail
  go_at_call 30
  refine HRE.out.mono ?_
  rintro e w1 ⟨vs, rfl, hex, hk1⟩
  obtain ⟨xk, xo, xn, xS, xp, xm, xc, xl, xcl, rfl⟩ := ex_form hex
  have HEX := Lib.hid hex; have HK1 := Lib.hid hk1
  have hb2 := hk1.blk HB2.out; have hb3 := hk1.blk HB3.out
  have HB2 := Lib.hid hb2; have HB3 := Lib.hid hb3
  obtain ⟨m0, m1, m2, m3, m4, m5, m6, f0, f1, f2, f3, f4, f5, f6⟩ := blk7 hb2
  obtain ⟨q0, q1, q2, g0, g1, g2⟩ := blk3f hb3
  have hne23 : B2 ≠ B3 := by have := HN.out; omega
  have hne32 : B3 ≠ B2 := by have := HN.out; omega
  clear hex hk1 hb2 hb3
  go_wp2_with fail
  obtain ⟨wa, hwa, hba, hka⟩ := put7 HB2.out (.int .i64 xk) (.int .i64 xo) (.int .i64 xn) (.string xS) (.slice xp xm xc) (.int .i64 xl) (.int .i64 xcl)
  rw [← hwa]
  have hn := HN.out
  obtain ⟨wf, hwf, hbf, hkf⟩ := put3 (hka.blkE HB3.out fun e => by have e : B3 = B2 := e; omega) (.int .i64 0) (.int .i64 0) (.int .i64 0)
  rw [← hwf]
  obtain ⟨c0, c1, c2, c3, c4, c5, c6, -⟩ := blk7 (hkf.blkE hba fun e => by have e : B2 = B3 := e; omega)
  obtain ⟨d0, d1, d2, -⟩ := blk3f hbf
  clear hwa hwf
  exact bodyPost_ret (v := .tuple #[.agg #[.int .i64 xk, .int .i64 xo, .int .i64 xn, .string xS, .slice xp xm xc, .int .i64 xl, .int .i64 xcl], .agg #[.int .i64 0, .int .i64 0, .int .i64 0]]) (by simp [results, Tryz.results11, go_sem, c0, c1, c2, c3, c4, c5, c6, d0, d1, d2]) rfl ⟨_, rfl, ((HEX.out.keep hka fun b hb e => by have e : b = B2 := e; have hb : V.heap.size ≤ b := hb; omega).keep hkf fun b hb e => by have e : b = B3 := e; have hb : V.heap.size ≤ b := hb; omega).mono fun b hb => by have hb : V.heap.size ≤ b := hb; omega, ((HK.out.trans HK1.out).new hka fun b e => by have e : b = B2 := e; omega).new hkf fun b e => by have e : b = B3 := e; omega⟩

end Go.Proofs.YtomlffobbkcmdaaGreatDoor

/-
  Package parse: the closure that reading defers, where a fault has been raised.
-/
namespace Go.Proofs.YtomlffobbkcmdaaGreatDoor
open Go Go.RowKit Own

abbrev TFt : TypeId := 118
/-- the value that bad and reading raise -/
abbrev fltV (er li co : Int) : Value := .iface TFt (.agg #[.int .i64 er, .int .i64 li, .int .i64 co])

theorem assert_fault (W : World) (v : Value) (xT : TypeId) : (Instr.typeAssert (.iface 118 v) xT 118 true).run Tryz.prog W = .ok (.tuple #[v, .bool true]) W := by kernel_rfl

set_option maxRecDepth 4000 in
set_option maxHeartbeats 8000000 in
theorem catch_fault (B6 B7 : Nat) (xk xo xn xl xcl : Int) (xS : ByteArray) (xp : Option Addr) (xm xc : Nat) (z0 z1 z2 er li co : Int) (older : List PanicEntry) (w : World)
    (h6 : w.heap[B6]? = some (.cells #[.int .i64 xk, .int .i64 xo, .int .i64 xn, .string xS, .slice xp xm xc, .int .i64 xl, .int .i64 xcl] TEx (0, 0)))
    (h7 : w.heap[B7]? = some (.cells #[.int .i64 z0, .int .i64 z1, .int .i64 z2] TFa (0, 0))) (hne : B6 ≠ B7) :
    CallsD Tryz.prog 65 #[.pointer (some ⟨B6, 0, none⟩), .pointer (some ⟨B7, 0, none⟩)] (.panicking ({ v := fltV er li co, recovered := false } :: older)) w fun e u' w' => e = .returned (.tuple #[]) ∧ u' = .panicking ({ v := fltV er li co, recovered := true } :: older) ∧
      w'.heap[B6]? = some (.cells #[.int .i64 0, .int .i64 0, .int .i64 0, .string ⟨#[]⟩, .slice none 0 0, .int .i64 0, .int .i64 0] TEx (0, 0)) ∧ w'.heap[B7]? = some (.cells #[.int .i64 er, .int .i64 li, .int .i64 co] TFa (0, 0)) ∧ KeepBut (fun b => b = B6 ∨ b = B7) w w' := by
  obtain ⟨V1, B3, hV1, hB3, hb3, hk1, hs1⟩ := fresh_block w (.cells #[.int .i64 er, .int .i64 li, .int .i64 co] TFt)
  obtain ⟨V, B4, hV, hB4, hb4, hk2, hs2⟩ := fresh_block V1 (.cells #[.int .i64 0, .int .i64 0, .int .i64 0, .string ⟨#[]⟩, .slice none 0 0, .int .i64 0, .int .i64 0] TEx)
  have hk := hk1.trans hk2
  have HK := Lib.hid hk; have HB3 := Lib.hid (hk2.blk hb3); have HB4 := Lib.hid hb4; have HB6 := Lib.hid (hk.blk h6); have HB7 := Lib.hid (hk.blk h7); have HNE := Lib.hid hne
  have HN := Lib.hid (show B6 < B3 ∧ B7 < B3 ∧ B3 < B4 by
    have a1 := (Array.getElem?_eq_some_iff.1 h6).1
    have a2 := (Array.getElem?_eq_some_iff.1 h7).1
    omega)
  have h34 : B3 + 1 = B4 := by omega
  clear h6 h7 hne hb3 hb4 hk1 hk2 hk hs1 hs2
  refine callsD_of_wpS Tryz.func65 rfl fun c₀ cs hu => ?_
  apply wpS_seq
  apply wpS_region
  simp [wpOpsS, go_sem, recoverD, hu, Tryz.ntmps65, Exit.thenS]
  refine wpS_of_wp ?_
  simp only [Array.setIfInBounds, Array.replicate]
  simp only [fltV, TFt, TFa, TEx] at hu ⊢
  have hta := assert_fault
  go_upto_region 8 with fail
  rw [← hV1, ← hB3, ← hV, h34]
  clear hV1 hB3 hV hB4 h34 hta
  refine wp_ownB (by kernel_rfl) B6 B7 _ _ HB6.out HB7.out HNE.out (fun i => [[], [], [1], [0], [0, 1, 2, 3]].getD i []) (fun i => if i = 3 then [5] else if i = 4 then [6] else []) (fun i => if i = 3 then [5] else if i = 4 then [6] else []) [3, 4] (by kernel_rfl)
    (fun i => if i = 3 then some (sPut B6 TEx) else if i = 4 then some (sPut B7 TFa) else none) ?_
  refine lex_quiet rfl rfl (v := .agg #[.int .i64 0, .int .i64 0, .int .i64 0, .string ⟨#[]⟩, .slice none 0 0, .int .i64 0, .int .i64 0]) (fun w' hk => by
    have hb := ((KeepBut.drew (fun b => b = B6 ∨ b = B7) V).trans hk).blkE HB4.out (fun e => by have := HN.out; omega)
    obtain ⟨x0, x1, x2, x3, x4, x5, x6, -⟩ := blk7 hb
    go_simp <;> rfl) ?_
  refine lex_quiet rfl rfl (v := .pointer (some ⟨B3, 0, none⟩)) (fun w' hk => by
    have hb := ((KeepBut.drew (fun b => b = B6 ∨ b = B7) V).trans hk).blkE HB3.out (fun e => by have := HN.out; omega)
    obtain ⟨x0, x1, x2, -⟩ := blk3f hb
    go_simp <;> rfl) ?_
  refine lex_quiet rfl rfl (v := .agg #[.int .i64 er, .int .i64 li, .int .i64 co]) (fun w' hk => by
    have hb := ((KeepBut.drew (fun b => b = B6 ∨ b = B7) V).trans hk).blkE HB3.out (fun e => by have := HN.out; omega)
    obtain ⟨x0, x1, x2, -⟩ := blk3f hb
    go_simp <;> rfl) ?_
  simp only [Act.put, List.setIfInBounds_toArray, List.set_cons_zero, List.set_cons_succ]
  refine lex_loud rfl rfl (loud_put B6 TEx TEx #[.int .i64 0, .int .i64 0, .int .i64 0, .string ⟨#[]⟩, .slice none 0 0, .int .i64 0, .int .i64 0] _ (.tmp 0) (.tmp 12) rfl rfl rfl 5 (by decide) (by decide) (fun w h => h) (.inl ⟨rfl, rfl⟩) rfl (by kernel_rfl) (by simp [Value.oneCell'])) fun g2 _ => ?_
  simp only [Act.put]
  refine lex_loud rfl rfl (loud_put B7 TFa TFa #[.int .i64 er, .int .i64 li, .int .i64 co] _ (.tmp 1) (.tmp 14) rfl rfl rfl 6 (by decide) (by decide) (fun w h => h) (.inr ⟨rfl, rfl⟩) rfl (by kernel_rfl) (by simp [Value.oneCell'])) fun g3 _ => ?_
  simp only [Act.put]
  refine lex_nil ?_
  intro w9 hk9 hF _
  have f2 : w9.heap[B6]? = some (.cells #[.int .i64 0, .int .i64 0, .int .i64 0, .string ⟨#[]⟩, .slice none 0 0, .int .i64 0, .int .i64 0] TEx (0, 0)) := (hF 3 (by decide)).1 _ (put_args rfl rfl)
  have f3 : w9.heap[B7]? = some (.cells #[.int .i64 er, .int .i64 li, .int .i64 co] TFa (0, 0)) := (hF 4 (by decide)).1 _ (put_args rfl rfl)
  have hkM := (KeepBut.drew (fun b => b = B6 ∨ b = B7) V).trans hk9
  have hkW := (HK.out.mono (E' := fun b => b = B6 ∨ b = B7) fun _ e => e.elim).trans hkM
  clear hk9 hF hkM
  go_wp2_with fail
  exact ⟨rfl, _, rfl, .tuple #[], by simp [results, Tryz.results65, go_sem], rfl, rfl, f2, f3, hkW⟩

end Go.Proofs.YtomlffobbkcmdaaGreatDoor

/-
  Package parse: reading of a text whose tree is too large or too deep; Expr of it.
-/
namespace Go.Proofs.YtomlffobbkcmdaaGreatDoor
open Go Go.RowKit Own

set_option maxRecDepth 100000 in
set_option maxHeartbeats 32000000 in
theorem readingE_long (f : Nat) (s : ByteArray) (its : List Item) (x : Ex) (w : World) (hT : TabS w) (hall : allT s.data.toList = (its, ⟨0, 0, 0⟩)) (hss : s.size ≤ 1000000) (hx : exP f its = some (x, [])) (hne : its ≠ []) (hsz : exSize x ≤ 1000000) (hdp : 600 < exSize x ∨ 24 < exDeep x) :
    Calls Tryz.prog 30 #[.string s, .func (.func 31) #[] #[], .func (.func 34) #[] #[]] w fun e w' => e = .returned (.tuple #[.agg #[.int .i64 0, .int .i64 0, .int .i64 0, .string ⟨#[]⟩, .slice none 0 0, .int .i64 0, .int .i64 0], .agg #[.int .i64 3, .int .i64 0, .int .i64 0]]) ∧ KeepBut (fun _ => False) w w' := by
  obtain ⟨V1, B6, hV1, hB6, hb6, hk1, hs1⟩ := fresh_block w (.cells #[.int .i64 0, .int .i64 0, .int .i64 0, .string ⟨#[]⟩, .slice none 0 0, .int .i64 0, .int .i64 0] TEx)
  obtain ⟨V, B7, hV, hB7, hb7, hk2, hs2⟩ := fresh_block V1 (.cells #[.int .i64 0, .int .i64 0, .int .i64 0] TFa)
  have hk := hk1.trans hk2
  have hALL := all_room hall hne V (hk.tabS hT)
  have HALL := Lib.hid hALL
  have HBE := Lib.hid fun W => behind_any s hss W
  have h67 : B6 + 1 = B7 := by omega
  have HK := Lib.hid hk; have HB6 := Lib.hid (hk2.blk hb6); have HB7 := Lib.hid hb7; have HX := Lib.hid hx; have HSZ := Lib.hid hsz; have HDP := Lib.hid hdp
  have HN := Lib.hid (show w.heap.size ≤ B6 ∧ B6 < B7 ∧ B7 < V.heap.size by omega)
  clear hT hall hss hx hne hsz hdp hb6 hb7 hk1 hk2 hs1 hs2 hk hALL
  go_enter_defers Tryz.func30, Tryz.ntmps30
  go_upto_region 1 with fail
  rw [← hV1, ← hB6, ← hV, h67]
  clear hV1 hB6 hV hB7 h67
  go_wp2_with fail
  go_at_call 64
  refine HALL.out.mono ?_
  rintro e w1 ⟨g, cap, rfl, hrow, hc1, hc2, hg, hk⟩
  have HK1 := Lib.hid hk; have HROW := Lib.hid hrow; have HCAP := Lib.hid (And.intro hc1 hc2); have HG := Lib.hid hg
  have hb71 := hk.blk HB7.out
  have HB71 := Lib.hid hb71
  obtain ⟨n0, n1, n2, f0, f1, f2⟩ := blk3f hb71
  clear hk hrow hc1 hc2 hg hb71
  go_upto_region 2 with fail
  obtain ⟨w2, hw2, hb2, hk2⟩ := put3 HB71.out (.int .i64 0) (.int .i64 0) (.int .i64 0)
  rw [← hw2]
  have hn := HN.out
  have HB72 := Lib.hid hb2
  have HB62 := Lib.hid (hk2.blkE (HK1.out.blk HB6.out) fun e => by have e : B6 = B7 := e; omega)
  have HROW2 := Lib.hid (show RowI w2 (some ⟨g, 0, none⟩) its ∧ g < w2.heap.size ∧ g ≠ B7 ∧ g ≠ B6 from by
    have hg := HG.out
    have h7 : g ≠ B7 := by omega
    exact ⟨HROW.out.keep hk2 (fun a ha e => by cases ha; exact h7 e), Nat.lt_of_lt_of_le hg.1 hk2.size, h7, by omega⟩)
  have HK2 := Lib.hid (show KeepBut (fun b => b = B7) w w2 from ((HK.out.trans HK1.out).mono fun _ e => e.elim).trans hk2)
  clear hw2 hb2 hk2 hn n0 n1 n2 f0 f1 f2
  obtain ⟨n0, n1, n2, -⟩ := blk3f HB72.out
  go_upto_region 5 with fail
  clear n0 n1 n2
  go_wp2_with fail
  go_at_call 66
  refine (HBE.out w2).mono ?_
  rintro e w3 ⟨el, ec, rfl, hk3⟩
  obtain ⟨W4, R, hW4, hR, hbr, hk4, hs4⟩ := fresh_block w3 (.cells #[.slice (some ⟨g, 0, none⟩) its.length cap, .int .i64 0, .string ⟨#[]⟩, .int .i64 0, .int .i64 el, .int .i64 ec] TRd)
  have hk34 := hk3.trans hk4
  have HR4 := Lib.hid (show ReaderAt W4 R its el ec from ⟨some ⟨g, 0, none⟩, cap, hbr, HROW2.out.1.keep hk34 (fun _ _ e => e), fun a ha => by cases ha; have := HROW2.out.2.1; have := hk3.size; show g < R; omega, HCAP.out⟩)
  have HRE := Lib.hid (readE_any f W4 R el ec its x HR4.out HX.out)
  have HB64 := Lib.hid (hk34.blk HB62.out); have HB74 := Lib.hid (hk34.blk HB72.out)
  have HK4 := Lib.hid (HK2.out.newM hk34 fun _ e => e.elim)
  have HN4 := Lib.hid (show B7 < R ∧ R < W4.heap.size ∧ w2.heap.size ≤ R by
    have h1 := (Array.getElem?_eq_some_iff.1 HB72.out).1
    have h2 := hk3.size
    omega)
  clear hk3 hk4 hk34 hbr hs4
  go_wp2_with fail
  rw [← hW4, ← hR]
  clear hW4 hR
  go_at_call 31
  refine HRE.out.mono ?_
  rintro e w5 ⟨vs, rfl, hex, hk5⟩
  obtain ⟨xk, xo, xn, xS, xp, xm, xc, xl, xcl, rfl⟩ := ex_form hex
  have hn := HN.out; have hn4 := HN4.out
  have hb65 := hk5.blkE HB64.out fun e => by have e : B6 = R := e; omega
  have HB65 := Lib.hid hb65
  have HB75 := Lib.hid (hk5.blkE HB74.out fun e => by have e : B7 = R := e; omega)
  have HEX := Lib.hid hex; have HK5 := Lib.hid hk5
  obtain ⟨m0, m1, m2, m3, m4, m5, m6, f0, f1, f2, f3, f4, f5, f6⟩ := blk7 hb65
  clear hex hk5 hb65 hn hn4
  go_upto_region 6 with fail
  obtain ⟨w6, hw6, hb6, hk6⟩ := put7 HB65.out (.int .i64 xk) (.int .i64 xo) (.int .i64 xn) (.string xS) (.slice xp xm xc) (.int .i64 xl) (.int .i64 xcl)
  rw [← hw6]
  have hn := HN.out; have hn4 := HN4.out
  have HB66 := Lib.hid hb6
  have HB76 := Lib.hid (hk6.blkE HB75.out fun e => by have e : B7 = B6 := e; omega)
  have HEX6 := Lib.hid (HEX.out.keep hk6 fun b hb e => by have e : b = B6 := e; have hb : W4.heap.size ≤ b := hb; omega)
  have HKW6 := Lib.hid (show KeepBut (fun _ => False) w w6 from ⟨hk6.os.trans (HK5.out.os.trans HK4.out.os), hk6.tape.trans (HK5.out.tape.trans HK4.out.tape), hk6.output.trans (HK5.out.output.trans HK4.out.output), Nat.le_trans HK4.out.size (Nat.le_trans HK5.out.size hk6.size), fun b hb _ => by
    have h1 := HK4.out.size
    rw [hk6.block b (Nat.lt_of_lt_of_le hb (Nat.le_trans HK4.out.size HK5.out.size)) (show ¬ b = B6 by omega), HK5.out.block b (by omega) (show ¬ b = R by omega), HK4.out.block b hb (show ¬ b = B7 by omega)]⟩)
  have HWG := Lib.hid (weigh_any 1000000 x HSZ.out (by decide) w6 _ _ HEX6.out)
  obtain ⟨c0, c1, c2, c3, c4, c5, c6, -⟩ := blk7 hb6
  clear hw6 hb6 hk6 hn hn4 m0 m1 m2 m3 m4 m5 m6 f0 f1 f2 f3 f4 f5 f6
  go_wp2_with fail
  go_at_call 34
  refine HWG.out.mono ?_
  rintro e w7 ⟨rfl, hk7⟩
  have HKW7 := Lib.hid (HKW6.out.trans hk7)
  have HB67 := Lib.hid (hk7.blk HB66.out); have HB77 := Lib.hid (hk7.blk HB76.out); have HEX7 := Lib.hid (HEX6.out.keep hk7 fun _ _ e => e)
  clear hk7 c0 c1 c2 c3 c4 c5 c6
  by_cases h6 : 600 < exSize x
  · have h600 : decide ((600 : Int) < (exSize x : Int)) = true := decide_eq_true (by omega)
    go_wp2_with fail
    refine leaves_cons (f := 65) (args := #[.pointer (some ⟨B6, 0, none⟩), .pointer (some ⟨B7, 0, none⟩)]) (by simp) (by simp [go_sem]) ?_
    refine (catch_fault B6 B7 xk xo xn xl xcl xS xp xm xc 0 0 0 3 0 0 [] w7 HB67.out HB77.out (by have := HN.out; omega)).mono ?_
    rintro e u' w'' ⟨rfl, rfl, g6, g7, hkf⟩
    obtain ⟨c0, c1, c2, c3, c4, c5, c6, -⟩ := blk7 g6
    obtain ⟨d0, d1, d2, -⟩ := blk3f g7
    have hkE : KeepBut (fun _ => False) w w'' := HKW7.out.new hkf fun b hb => by have := HN.out; omega
    exact ⟨.tuple #[.agg #[.int .i64 0, .int .i64 0, .int .i64 0, .string ⟨#[]⟩, .slice none 0 0, .int .i64 0, .int .i64 0], .agg #[.int .i64 3, .int .i64 0, .int .i64 0]], by simp [results, Tryz.results30, go_sem, c0, c1, c2, c3, c4, c5, c6, d0, d1, d2], rfl, hkE⟩
  · have h600 : decide ((600 : Int) < (exSize x : Int)) = false := decide_eq_false (by omega)
    have h24 : decide ((24 : Int) < (exDeep x : Int)) = true := decide_eq_true (by have := HDP.out; omega)
    go_wp2_with fail
    refine leaves_cons (f := 65) (args := #[.pointer (some ⟨B6, 0, none⟩), .pointer (some ⟨B7, 0, none⟩)]) (by simp) (by simp [go_sem]) ?_
    refine (catch_fault B6 B7 xk xo xn xl xcl xS xp xm xc 0 0 0 3 0 0 [] w7 HB67.out HB77.out (by have := HN.out; omega)).mono ?_
    rintro e u' w'' ⟨rfl, rfl, g6, g7, hkf⟩
    obtain ⟨c0, c1, c2, c3, c4, c5, c6, -⟩ := blk7 g6
    obtain ⟨d0, d1, d2, -⟩ := blk3f g7
    have hkE : KeepBut (fun _ => False) w w'' := HKW7.out.new hkf fun b hb => by have := HN.out; omega
    exact ⟨.tuple #[.agg #[.int .i64 0, .int .i64 0, .int .i64 0, .string ⟨#[]⟩, .slice none 0 0, .int .i64 0, .int .i64 0], .agg #[.int .i64 3, .int .i64 0, .int .i64 0]], by simp [results, Tryz.results30, go_sem, c0, c1, c2, c3, c4, c5, c6, d0, d1, d2], rfl, hkE⟩

set_option maxHeartbeats 8000000 in
/-- Expr, of a text whose reading gives up -/
theorem expr_flt (s : ByteArray) (er li co : Int) (w : World) (hT : TabS w) (hR : ∀ w, TabS w → Calls Tryz.prog 30 #[.string s, .func (.func 31) #[] #[], .func (.func 34) #[] #[]] w fun e w' => e = .returned (.tuple #[.agg #[.int .i64 0, .int .i64 0, .int .i64 0, .string ⟨#[]⟩, .slice none 0 0, .int .i64 0, .int .i64 0], .agg #[.int .i64 er, .int .i64 li, .int .i64 co]]) ∧ KeepBut (fun _ => False) w w') :
    Calls Tryz.prog 11 #[.string s] w fun e w' => e = .returned (.tuple #[.agg #[.int .i64 0, .int .i64 0, .int .i64 0, .string ⟨#[]⟩, .slice none 0 0, .int .i64 0, .int .i64 0], .agg #[.int .i64 er, .int .i64 li, .int .i64 co]]) ∧ KeepBut (fun _ => False) w w' := by
  obtain ⟨V1, B2, hV1, hB2, hb2, hk1, hs1⟩ := fresh_block w (.cells #[.int .i64 0, .int .i64 0, .int .i64 0, .string ⟨#[]⟩, .slice none 0 0, .int .i64 0, .int .i64 0] TEx)
  obtain ⟨V, B3, hV, hB3, hb3, hk2, hs2⟩ := fresh_block V1 (.cells #[.int .i64 0, .int .i64 0, .int .i64 0] TFa)
  have hk := hk1.trans hk2
  have HRE := Lib.hid (hR V (hk.tabS hT))
  have h23 : B2 + 1 = B3 := by omega
  have HK := Lib.hid hk; have HB2 := Lib.hid (hk2.blk hb2); have HB3 := Lib.hid hb3
  have HN := Lib.hid (show w.heap.size ≤ B2 ∧ B2 < B3 ∧ B3 < V.heap.size by omega)
  clear hT hR hb2 hb3 hk1 hk2 hs1 hs2 hk
  go_enter Tryz.func11, Tryz.ntmps11
  go_upto_region 1 with fail
  rw [← hV1, ← hB2, ← hV, h23]
  clear hV1 hB2 hV hB3 h23
  go_wp2_with fail
  go_at_call 30
  refine HRE.out.mono ?_
  rintro e w1 ⟨rfl, hk1⟩
  have HK1 := Lib.hid hk1
  have hb2 := hk1.blk HB2.out; have hb3 := hk1.blk HB3.out
  have HB2 := Lib.hid hb2; have HB3 := Lib.hid hb3
  obtain ⟨m0, m1, m2, m3, m4, m5, m6, f0, f1, f2, f3, f4, f5, f6⟩ := blk7 hb2
  obtain ⟨q0, q1, q2, g0, g1, g2⟩ := blk3f hb3
  have hne23 : B2 ≠ B3 := by have := HN.out; omega
  have hne32 : B3 ≠ B2 := by have := HN.out; omega
  clear hk1 hb2 hb3
  go_wp2_with fail
  obtain ⟨wa, hwa, hba, hka⟩ := put7 HB2.out (.int .i64 0) (.int .i64 0) (.int .i64 0) (.string ⟨#[]⟩) (.slice none 0 0) (.int .i64 0) (.int .i64 0)
  rw [← hwa]
  have hn := HN.out
  obtain ⟨wf, hwf, hbf, hkf⟩ := put3 (hka.blkE HB3.out fun e => by have e : B3 = B2 := e; omega) (.int .i64 er) (.int .i64 li) (.int .i64 co)
  rw [← hwf]
  obtain ⟨c0, c1, c2, c3, c4, c5, c6, -⟩ := blk7 (hkf.blkE hba fun e => by have e : B2 = B3 := e; omega)
  obtain ⟨d0, d1, d2, -⟩ := blk3f hbf
  clear hwa hwf
  exact bodyPost_ret (v := .tuple #[.agg #[.int .i64 0, .int .i64 0, .int .i64 0, .string ⟨#[]⟩, .slice none 0 0, .int .i64 0, .int .i64 0], .agg #[.int .i64 er, .int .i64 li, .int .i64 co]]) (by simp [results, Tryz.results11, go_sem, c0, c1, c2, c3, c4, c5, c6, d0, d1, d2]) rfl ⟨rfl, ((HK.out.trans HK1.out).new hka fun b e => by have e : b = B2 := e; omega).new hkf fun b e => by have e : b = B3 := e; omega⟩

/-- Expr, of a text whose tree is too large or too deep -/
theorem expr_long (f : Nat) (s : ByteArray) (its : List Item) (x : Ex) (w : World) (hT : TabS w) (hall : allT s.data.toList = (its, ⟨0, 0, 0⟩)) (hss : s.size ≤ 1000000) (hx : exP f its = some (x, [])) (hne : its ≠ []) (hsz : exSize x ≤ 1000000) (hdp : 600 < exSize x ∨ 24 < exDeep x) :
    Calls Tryz.prog 11 #[.string s] w fun e w' => e = .returned (.tuple #[.agg #[.int .i64 0, .int .i64 0, .int .i64 0, .string ⟨#[]⟩, .slice none 0 0, .int .i64 0, .int .i64 0], .agg #[.int .i64 3, .int .i64 0, .int .i64 0]]) ∧ KeepBut (fun _ => False) w w' :=
  expr_flt s 3 0 0 w hT fun w hT => readingE_long f s its x w hT hall hss hx hne hsz hdp

end Go.Proofs.YtomlffobbkcmdaaGreatDoor

/-
  Package parse: readers that give up.
-/
namespace Go.Proofs.YtomlffobbkcmdaaGreatDoor
open Go Go.RowKit Own

/-- what a reader that gives up leaves -/
abbrev fltC (er li co : Int) : List PanicEntry := [{ v := fltV er li co, recovered := false }]

set_option maxHeartbeats 8000000 in
theorem bad_any (w : World) (R : Nat) (its : List Item) (el ec : Nat) (h : ReaderAt w R its el ec) (k n l c : Int) (S : ByteArray) (hp : peekV its el ec = .agg #[.int .i64 k, .string S, .int .i64 n, .int .i64 l, .int .i64 c]) :
    Calls Tryz.prog 33 #[rdV R] w fun e w' => e = .panicked (fltC 9 l c) ∧ KeepBut (fun _ => False) w w' := by
  have HP := Lib.hid (peek_any w R its el ec h)
  rw [hp] at HP
  clear h hp
  simp only [fltC, fltV, TFt]
  go_enter Tryz.func33, Tryz.ntmps33
  go_wp2_with fail
  go_at_call 74
  refine HP.out.mono ?_
  rintro e w1 ⟨rfl, hk⟩
  obtain ⟨V, B, hV, hB, hb, hk1, hs⟩ := fresh_block w1 (.cells #[.int .i64 k, .string S, .int .i64 n, .int .i64 l, .int .i64 c] TTk)
  have HK := Lib.hid (hk.trans hk1)
  obtain ⟨n0, n1, n2, n3, n4, -⟩ := blk5 hb
  clear hk hk1 hb hs HP
  go_upto_region 1 with fail
  rw [← hV, ← hB]
  clear hV hB
  go_wp2_with fail
  exact ⟨rfl, rfl, HK.out⟩

set_option maxHeartbeats 8000000 in
theorem want_bad (w : World) (R : Nat) (its : List Item) (el ec : Nat) (h : ReaderAt w R its el ec) (k n l c : Int) (S : ByteArray) (hp : peekV its el ec = .agg #[.int .i64 k, .string S, .int .i64 n, .int .i64 l, .int .i64 c]) (q : Int) (hq : k ≠ q) :
    Calls Tryz.prog 77 #[rdV R, .int .i64 q] w fun e w' => e = .panicked (fltC 9 l c) ∧ KeepBut (fun _ => False) w w' := by
  obtain ⟨V, B, hV, hB, hb, hk0, hs⟩ := fresh_block w (.cells #[.int .i64 0, .string ⟨#[]⟩, .int .i64 0, .int .i64 0, .int .i64 0] TTk)
  have hR := h.keep hk0 fun _ _ e => e
  have HP := Lib.hid (peek_any V R its el ec hR)
  have HBD := Lib.hid fun W (hk : KeepBut (fun _ => False) V W) => bad_any W R its el ec (hR.keep hk fun _ _ e => e) k n l c S hp
  rw [hp] at HP
  have HK0 := Lib.hid hk0
  have hqb : (k == q) = false := by rw [beq_eq_false_iff_ne]; exact hq
  clear h hp hR hk0 hb hs
  go_enter Tryz.func77, Tryz.ntmps77
  go_upto_region 1 with fail
  rw [← hV]
  clear hV hB
  go_wp2_with fail
  go_at_call 74
  refine HP.out.mono ?_
  rintro e w1 ⟨rfl, hk⟩
  obtain ⟨W, C, hW, hC, hc, hk1, hs⟩ := fresh_block w1 (.cells #[.int .i64 k, .string S, .int .i64 n, .int .i64 l, .int .i64 c] TTk)
  have HK := Lib.hid (hk.trans hk1)
  have HBD1 := Lib.hid (HBD.out W (hk.trans hk1))
  obtain ⟨n0, n1, n2, n3, n4, -⟩ := blk5 hc
  clear hk hk1 hc hs HP
  go_upto_region 2 with fail
  rw [← hW, ← hC]
  clear hW hC
  go_wp2_with fail
  go_at_call 33
  refine HBD1.out.mono ?_
  rintro e w2 ⟨rfl, hk2⟩
  have HK2 := Lib.hid ((HK0.out.trans HK.out).trans hk2)
  clear hk2
  go_wp2_with fail
  exact ⟨rfl, rfl, HK2.out⟩

set_option maxHeartbeats 8000000 in
theorem name_bad (w : World) (R : Nat) (its : List Item) (el ec : Nat) (h : ReaderAt w R its el ec) (k n l c : Int) (S : ByteArray) (hp : peekV its el ec = .agg #[.int .i64 k, .string S, .int .i64 n, .int .i64 l, .int .i64 c]) (hq : k ≠ 2) :
    Calls Tryz.prog 79 #[rdV R] w fun e w' => e = .panicked (fltC 9 l c) ∧ KeepBut (fun _ => False) w w' := by
  have HW := Lib.hid (want_bad w R its el ec h k n l c S hp 2 hq)
  clear h hp hq
  go_enter Tryz.func79, Tryz.ntmps79
  go_wp2_with fail
  go_at_call 77
  refine HW.out.mono ?_
  rintro e w1 ⟨rfl, hk⟩
  have HK := Lib.hid hk
  clear hk
  go_wp2_with fail
  exact ⟨rfl, rfl, HK.out⟩

end Go.Proofs.YtomlffobbkcmdaaGreatDoor

/-
  Package parse: one, row, the closures of expr and expr, where what binds most gives up.
-/
namespace Go.Proofs.YtomlffobbkcmdaaGreatDoor
open Go Go.RowKit Own

/-- a reader of an expression that gives up -/
def Gives (g : Nat) (args : Array Value) (R : Nat) (its : List Item) (el ec : Nat) (ch : List PanicEntry) (w0 : World) : Prop :=
  ∀ w, KeepBut (fun b => b = R) w0 w → ReaderAt w R its el ec → Calls Tryz.prog g args w fun e w' => e = .panicked ch ∧ KeepBut (fun b => b = R) w w'
theorem Gives.from {g : Nat} {args : Array Value} {R : Nat} {its : List Item} {el ec : Nat} {ch : List PanicEntry} {w0 w1 : World} (h : Gives g args R its el ec ch w0) (k : KeepBut (fun b => b = R) w0 w1) : Gives g args R its el ec ch w1 :=
  fun w hk => h w (k.trans hk)

set_option maxHeartbeats 16000000 in
theorem one_gives (R el ec : Nat) (its : List Item) (tk tn tl tc : Int) (S9 : ByteArray) (hpv : peekV its el ec = .agg #[.int .i64 tk, .string S9, .int .i64 tn, .int .i64 tl, .int .i64 tc])
    (h1 : headIs its [45] = false) (h2 : headIs its [33] = false) (h3 : headIs its [40] = false) (h4 : tk ≠ 3) (h5 : tk ≠ 2) (w0 : World) : Gives 69 #[rdV R] R its el ec (fltC 9 tl tc) w0 := by
  intro w _ hr
  obtain ⟨V1, B2, hV1, hB2, hb2, hk1, hs1⟩ := fresh_block w (.cells #[.int .i64 0, .int .i64 0, .int .i64 0, .string ⟨#[]⟩, .slice none 0 0, .int .i64 0, .int .i64 0] TEx)
  have HPK := Lib.hid (peek_any V1 R its el ec (hr.keep hk1 fun _ _ e => e))
  have HPV := Lib.hid hpv
  rw [hpv] at HPK
  have HR0 := Lib.hid hr; have HK1 := Lib.hid hk1
  have HN1 := Lib.hid (show w.heap.size ≤ B2 ∧ B2 < V1.heap.size ∧ R < w.heap.size from ⟨by omega, by omega, hr.lt⟩)
  have hkk : (tk == 3) = false := by rw [beq_eq_false_iff_ne]; exact h4
  have HNB := Lib.hid fun W (h : ReaderAt W R its el ec) => name_bad W R its el ec h tk tn tl tc S9 hpv h5
  clear hr hb2 hk1 hs1 hpv h4 h5
  simp only [fltC, fltV, TFt] at HNB ⊢
  go_enter Tryz.func69, Tryz.ntmps69
  go_upto_region 1 with fail
  rw [← hV1, ← hB2]
  clear hV1 hB2
  go_wp2_with fail
  go_at_call 74
  refine HPK.out.mono ?_
  rintro e w1 ⟨rfl, hkp⟩
  obtain ⟨V2, B3, hV2, hB3, hb3, hk2, hs2⟩ := fresh_block w1 (.cells #[.int .i64 tk, .string S9, .int .i64 tn, .int .i64 tl, .int .i64 tc] TTk)
  obtain ⟨V, B4, hV, hB4, hb4, hk3, hs3⟩ := fresh_block V2 (.cells #[.int .i64 0, .int .i64 0, .int .i64 0, .string ⟨#[]⟩, .slice none 0 0, .int .i64 tl, .int .i64 tc] TEx)
  have hkV := (hkp.trans hk2).trans hk3
  have HB3 := Lib.hid (hk3.blk hb3)
  have HKV := Lib.hid (show KeepBut (fun b => b = R) w V from (HK1.out.trans hkV).mono fun _ e => e.elim)
  have HRV := Lib.hid (HR0.out.keep (HK1.out.trans hkV) fun _ _ e => e)
  have HNN := Lib.hid (show w.heap.size ≤ B2 ∧ B2 < B3 ∧ B3 < B4 ∧ B4 < V.heap.size ∧ R < w.heap.size by have h1 := HN1.out; have h2 := hkp.size; omega)
  obtain ⟨n0, n1, n2, n3, n4, -⟩ := blk5 hb3
  clear hkp hk2 hk3 hkV hb3 hb4 hs2 hs3
  go_upto_region 2 with fail
  rw [← hV2, ← hB3]
  clear hV2 hB3
  go_upto_region 7 with fail
  rw [← hV, ← hB4]
  clear hV hB4 n0 n1 n2 n3 n4
  have HM1 := Lib.hid (may_any V R its el ec HRV.out [45])
  rw [h1] at HM1
  go_upto_region 10 with (go_at_call 101; refine HM1.out.mono ?_; rintro e wq1 ⟨rfl, hry, hky⟩)
  have HRV := Lib.hid (show ReaderAt wq1 R its el ec from hry); have HKV := Lib.hid (HKV.out.trans hky)
  have hnY := HNN.out
  have HB3 := Lib.hid (hky.blkE HB3.out fun e => by have e : B3 = R := e; omega)
  clear hry hky hnY h1
  have HM2 := Lib.hid (may_any wq1 R its el ec HRV.out [33])
  rw [h2] at HM2
  go_upto_region 13 with (go_at_call 101; refine HM2.out.mono ?_; rintro e wq2 ⟨rfl, hry, hky⟩)
  have HRV := Lib.hid (show ReaderAt wq2 R its el ec from hry); have HKV := Lib.hid (HKV.out.trans hky)
  have hnY := HNN.out
  have HB3 := Lib.hid (hky.blkE HB3.out fun e => by have e : B3 = R := e; omega)
  clear hry hky hnY h2
  have HM3 := Lib.hid (may_any wq2 R its el ec HRV.out [40])
  rw [h3] at HM3
  go_upto_region 16 with (go_at_call 101; refine HM3.out.mono ?_; rintro e wq3 ⟨rfl, hry, hky⟩)
  have HRV := Lib.hid (show ReaderAt wq3 R its el ec from hry); have HKV := Lib.hid (HKV.out.trans hky)
  have hnY := HNN.out
  have HB3 := Lib.hid (hky.blkE HB3.out fun e => by have e : B3 = R := e; omega)
  clear hry hky hnY h3
  have HNA := Lib.hid (HNB.out wq3 HRV.out)
  obtain ⟨b0, b1, b2, b3, b4, -⟩ := blk5 HB3.out
  go_upto_region 3 with fail
  clear b0 b1 b2 b3 b4 hkk
  go_wp2_with fail
  go_at_call 79
  refine HNA.out.mono ?_
  rintro e wn ⟨rfl, hk3⟩
  have HKE := Lib.hid (HKV.out.newM hk3 fun _ e => e.elim)
  clear hk3
  go_wp2_with fail
  exact ⟨rfl, rfl, HKE.out⟩

set_option maxHeartbeats 16000000 in
theorem row_gives (g : Nat) (fst cap args : Array Value) (eg : ∀ args w, (callFunc g args).run Tryz.prog w = .ok (.enter g args) w) (R el ec : Nat) (its : List Item) (ch : List PanicEntry) (ops : Value) (w : World) (hN : Gives g args R its el ec ch w) (ha : fst ++ cap = args) (h : ReaderAt w R its el ec) :
    Calls Tryz.prog 68 #[rdV R, .func (.func g) fst cap, ops] w fun e w' => e = .panicked ch ∧ KeepBut (fun b => b = R) w w' := by
  obtain ⟨V1, B3, hV1, hB3, hb3, hk1, hs1⟩ := fresh_block w (.cells #[rdV R] 72)
  obtain ⟨V2, B6, hV2, hB6, hb6, hk2, hs2⟩ := fresh_block V1 (.cells #[.int .i64 0, .int .i64 0, .int .i64 0, .string ⟨#[]⟩, .slice none 0 0, .int .i64 0, .int .i64 0] TEx)
  have HK12 := Lib.hid (hk1.trans hk2)
  have HSG := Lib.hid (signs_any V2)
  have HR := Lib.hid h; have HNX := Lib.hid hN
  have h36 : B3 + 1 = B6 := by omega
  clear h hN hb3 hb6 hk1 hk2 hs1 hs2
  go_enter Tryz.func68, Tryz.ntmps68
  go_upto_region 1 with fail
  rw [← hV1, ← hB3, ← hV2, h36]
  clear hV1 hB3 hV2 hB6 h36
  unfold signsV at HSG
  go_wp2_with fail
  go_at_call 62
  refine HSG.out.mono ?_
  rintro e w3 ⟨rfl, hk3⟩
  obtain ⟨V4, B7, hV4, hB7, hb7, hk4, hs4⟩ := fresh_block w3 (.cells signsV TSg)
  unfold signsV at hV4
  have hk := (HK12.out.trans hk3).trans hk4
  have HK := Lib.hid hk
  have HNG := Lib.hid (HNX.out V4 (hk.mono fun _ e => e.elim) (HR.out.keep hk fun _ _ e => e))
  clear hk hk3 hk4 hb7 hs4
  go_upto_region 2 with fail
  rw [← hV4]
  clear hV4 hB7
  go_wp2_with fail
  refine HNG.out.mono ?_
  rintro e w5 ⟨rfl, hk5⟩
  have HKE := Lib.hid ((HK.out.mono (E' := fun b => b = R) fun _ e => e.elim).trans hk5)
  clear hk5
  go_wp2_with fail
  exact ⟨rfl, rfl, HKE.out⟩

end Go.Proofs.YtomlffobbkcmdaaGreatDoor

/-
  Package parse: expr gives up where what binds most does; Expr of the empty text.
-/
namespace Go.Proofs.YtomlffobbkcmdaaGreatDoor
open Go Go.RowKit Own

set_option maxHeartbeats 8000000 in
theorem expr1_gives (w0 : World) (R el ec : Nat) (its : List Item) (ch : List PanicEntry) (T1 : Nat) (hb1 : w0.heap[T1]? = some (.cells #[rdV R] 72 (0, 0))) (hT1 : T1 ≠ R) (hN : Gives 69 #[rdV R] R its el ec ch w0) : Gives 67 #[.pointer (some ⟨T1, 0, none⟩)] R its el ec ch w0 := by
  intro w hk hr
  have x1 := blk_cell (k := 0) (hk.blkE hb1 hT1) rfl
  obtain ⟨V, B, hV, hB, hb, hk0, hs⟩ := fresh_block w (.cells #[.int .i64 0, .int .i64 0, .int .i64 0, .string ⟨#[]⟩, .slice none 0 0, .int .i64 0, .int .i64 0] TEx)
  obtain ⟨W, G, hW, hG, hg, hkg, hsg⟩ := fresh_block V (.cells #[.int .i64 1, .int .i64 2, .int .i64 3] 3)
  have HKW := Lib.hid (hk0.trans hkg)
  have HROW := Lib.hid (row_gives 69 #[rdV R] #[] #[rdV R] (enters_of Tryz.func69 (by kernel_rfl) rfl) R el ec its ch (.slice (some ⟨G, 0, none⟩) 3 3) W (hN.from (hk.trans ((hk0.trans hkg).mono fun _ e => e.elim))) (by simp) (hr.keep (hk0.trans hkg) fun _ _ e => e))
  have x1 := hk0.stay x1
  have hBG : B + 1 = G := by omega
  clear hk hr hb1 hT1 hN hb hk0 hs hg hkg hsg
  go_enter Tryz.func67, Tryz.ntmps67
  go_upto_region 1 with fail
  rw [← hV, ← hB]
  clear hV hB
  go_wp2_with fail
  rw [← hW, ← hG]
  clear hW hG x1
  go_at_call 68
  refine HROW.out.mono ?_
  rintro e w2 ⟨rfl, hk⟩
  have HKE := Lib.hid ((HKW.out.mono (E' := fun b => b = R) fun _ e => e.elim).trans hk)
  clear hk
  go_wp2_with fail
  exact ⟨rfl, rfl, HKE.out⟩

set_option maxHeartbeats 8000000 in
theorem expr2_gives (w0 : World) (R el ec : Nat) (its : List Item) (ch : List PanicEntry) (T1 T2 : Nat) (hb1 : w0.heap[T1]? = some (.cells #[rdV R] 72 (0, 0))) (hT1 : T1 ≠ R) (gp : Nat) (cp : Array Value) (eg : ∀ args w, (callFunc gp args).run Tryz.prog w = .ok (.enter gp args) w) (hb2 : w0.heap[T2]? = some (.cells #[.func (.func gp) #[] cp] TFn (0, 0))) (hT2 : T2 ≠ R) (hN : Gives gp cp R its el ec ch w0) : Gives 70 #[.pointer (some ⟨T1, 0, none⟩), .pointer (some ⟨T2, 0, none⟩)] R its el ec ch w0 := by
  intro w hk hr
  have x1 := blk_cell (k := 0) (hk.blkE hb1 hT1) rfl
  have x2 := blk_cell (k := 0) (hk.blkE hb2 hT2) rfl
  obtain ⟨V, B, hV, hB, hb, hk0, hs⟩ := fresh_block w (.cells #[.int .i64 0, .int .i64 0, .int .i64 0, .string ⟨#[]⟩, .slice none 0 0, .int .i64 0, .int .i64 0] TEx)
  obtain ⟨W, G, hW, hG, hg, hkg, hsg⟩ := fresh_block V (.cells #[.int .i64 4, .int .i64 5] 3)
  have HKW := Lib.hid (hk0.trans hkg)
  have HROW := Lib.hid (row_gives gp #[] cp cp eg R el ec its ch (.slice (some ⟨G, 0, none⟩) 2 2) W (hN.from (hk.trans ((hk0.trans hkg).mono fun _ e => e.elim))) (by simp) (hr.keep (hk0.trans hkg) fun _ _ e => e))
  have x1 := hk0.stay x1
  have x2 := hk0.stay x2
  have hBG : B + 1 = G := by omega
  clear hk hr hb1 hT1 hN hb hk0 hs hg hkg hsg hb2 hT2
  go_enter Tryz.func70, Tryz.ntmps70
  go_upto_region 1 with fail
  rw [← hV, ← hB]
  clear hV hB
  go_wp2_with fail
  rw [← hW, ← hG]
  clear hW hG x1 x2
  go_at_call 68
  refine HROW.out.mono ?_
  rintro e w2 ⟨rfl, hk⟩
  have HKE := Lib.hid ((HKW.out.mono (E' := fun b => b = R) fun _ e => e.elim).trans hk)
  clear hk
  go_wp2_with fail
  exact ⟨rfl, rfl, HKE.out⟩

set_option maxHeartbeats 8000000 in
theorem expr3_gives (w0 : World) (R el ec : Nat) (its : List Item) (ch : List PanicEntry) (T1 T2 : Nat) (hb1 : w0.heap[T1]? = some (.cells #[rdV R] 72 (0, 0))) (hT1 : T1 ≠ R) (gp : Nat) (cp : Array Value) (eg : ∀ args w, (callFunc gp args).run Tryz.prog w = .ok (.enter gp args) w) (hb2 : w0.heap[T2]? = some (.cells #[.func (.func gp) #[] cp] TFn (0, 0))) (hT2 : T2 ≠ R) (hN : Gives gp cp R its el ec ch w0) : Gives 71 #[.pointer (some ⟨T1, 0, none⟩), .pointer (some ⟨T2, 0, none⟩)] R its el ec ch w0 := by
  intro w hk hr
  have x1 := blk_cell (k := 0) (hk.blkE hb1 hT1) rfl
  have x2 := blk_cell (k := 0) (hk.blkE hb2 hT2) rfl
  obtain ⟨V, B, hV, hB, hb, hk0, hs⟩ := fresh_block w (.cells #[.int .i64 0, .int .i64 0, .int .i64 0, .string ⟨#[]⟩, .slice none 0 0, .int .i64 0, .int .i64 0] TEx)
  obtain ⟨W, G, hW, hG, hg, hkg, hsg⟩ := fresh_block V (.cells #[.int .i64 6, .int .i64 7, .int .i64 8, .int .i64 9] 3)
  have HKW := Lib.hid (hk0.trans hkg)
  have HROW := Lib.hid (row_gives gp #[] cp cp eg R el ec its ch (.slice (some ⟨G, 0, none⟩) 4 4) W (hN.from (hk.trans ((hk0.trans hkg).mono fun _ e => e.elim))) (by simp) (hr.keep (hk0.trans hkg) fun _ _ e => e))
  have x1 := hk0.stay x1
  have x2 := hk0.stay x2
  have hBG : B + 1 = G := by omega
  clear hk hr hb1 hT1 hN hb hk0 hs hg hkg hsg hb2 hT2
  go_enter Tryz.func71, Tryz.ntmps71
  go_upto_region 1 with fail
  rw [← hV, ← hB]
  clear hV hB
  go_wp2_with fail
  rw [← hW, ← hG]
  clear hW hG x1 x2
  go_at_call 68
  refine HROW.out.mono ?_
  rintro e w2 ⟨rfl, hk⟩
  have HKE := Lib.hid ((HKW.out.mono (E' := fun b => b = R) fun _ e => e.elim).trans hk)
  clear hk
  go_wp2_with fail
  exact ⟨rfl, rfl, HKE.out⟩

set_option maxHeartbeats 8000000 in
theorem expr4_gives (w0 : World) (R el ec : Nat) (its : List Item) (ch : List PanicEntry) (T1 T2 : Nat) (hb1 : w0.heap[T1]? = some (.cells #[rdV R] 72 (0, 0))) (hT1 : T1 ≠ R) (gp : Nat) (cp : Array Value) (eg : ∀ args w, (callFunc gp args).run Tryz.prog w = .ok (.enter gp args) w) (hb2 : w0.heap[T2]? = some (.cells #[.func (.func gp) #[] cp] TFn (0, 0))) (hT2 : T2 ≠ R) (hN : Gives gp cp R its el ec ch w0) : Gives 72 #[.pointer (some ⟨T1, 0, none⟩), .pointer (some ⟨T2, 0, none⟩)] R its el ec ch w0 := by
  intro w hk hr
  have x1 := blk_cell (k := 0) (hk.blkE hb1 hT1) rfl
  have x2 := blk_cell (k := 0) (hk.blkE hb2 hT2) rfl
  obtain ⟨V, B, hV, hB, hb, hk0, hs⟩ := fresh_block w (.cells #[.int .i64 0, .int .i64 0, .int .i64 0, .string ⟨#[]⟩, .slice none 0 0, .int .i64 0, .int .i64 0] TEx)
  obtain ⟨W, G, hW, hG, hg, hkg, hsg⟩ := fresh_block V (.cells #[.int .i64 10, .int .i64 11] 3)
  have HKW := Lib.hid (hk0.trans hkg)
  have HROW := Lib.hid (row_gives gp #[] cp cp eg R el ec its ch (.slice (some ⟨G, 0, none⟩) 2 2) W (hN.from (hk.trans ((hk0.trans hkg).mono fun _ e => e.elim))) (by simp) (hr.keep (hk0.trans hkg) fun _ _ e => e))
  have x1 := hk0.stay x1
  have x2 := hk0.stay x2
  have hBG : B + 1 = G := by omega
  clear hk hr hb1 hT1 hN hb hk0 hs hg hkg hsg hb2 hT2
  go_enter Tryz.func72, Tryz.ntmps72
  go_upto_region 1 with fail
  rw [← hV, ← hB]
  clear hV hB
  go_wp2_with fail
  rw [← hW, ← hG]
  clear hW hG x1 x2
  go_at_call 68
  refine HROW.out.mono ?_
  rintro e w2 ⟨rfl, hk⟩
  have HKE := Lib.hid ((HKW.out.mono (E' := fun b => b = R) fun _ e => e.elim).trans hk)
  clear hk
  go_wp2_with fail
  exact ⟨rfl, rfl, HKE.out⟩

set_option maxHeartbeats 8000000 in
theorem expr5_gives (w0 : World) (R el ec : Nat) (its : List Item) (ch : List PanicEntry) (T1 T2 : Nat) (hb1 : w0.heap[T1]? = some (.cells #[rdV R] 72 (0, 0))) (hT1 : T1 ≠ R) (gp : Nat) (cp : Array Value) (eg : ∀ args w, (callFunc gp args).run Tryz.prog w = .ok (.enter gp args) w) (hb2 : w0.heap[T2]? = some (.cells #[.func (.func gp) #[] cp] TFn (0, 0))) (hT2 : T2 ≠ R) (hN : Gives gp cp R its el ec ch w0) : Gives 73 #[.pointer (some ⟨T1, 0, none⟩), .pointer (some ⟨T2, 0, none⟩)] R its el ec ch w0 := by
  intro w hk hr
  have x1 := blk_cell (k := 0) (hk.blkE hb1 hT1) rfl
  have x2 := blk_cell (k := 0) (hk.blkE hb2 hT2) rfl
  obtain ⟨V, B, hV, hB, hb, hk0, hs⟩ := fresh_block w (.cells #[.int .i64 0, .int .i64 0, .int .i64 0, .string ⟨#[]⟩, .slice none 0 0, .int .i64 0, .int .i64 0] TEx)
  obtain ⟨W, G, hW, hG, hg, hkg, hsg⟩ := fresh_block V (.cells #[.int .i64 12] 3)
  have HKW := Lib.hid (hk0.trans hkg)
  have HROW := Lib.hid (row_gives gp #[] cp cp eg R el ec its ch (.slice (some ⟨G, 0, none⟩) 1 1) W (hN.from (hk.trans ((hk0.trans hkg).mono fun _ e => e.elim))) (by simp) (hr.keep (hk0.trans hkg) fun _ _ e => e))
  have x1 := hk0.stay x1
  have x2 := hk0.stay x2
  have hBG : B + 1 = G := by omega
  clear hk hr hb1 hT1 hN hb hk0 hs hg hkg hsg hb2 hT2
  go_enter Tryz.func73, Tryz.ntmps73
  go_upto_region 1 with fail
  rw [← hV, ← hB]
  clear hV hB
  go_wp2_with fail
  rw [← hW, ← hG]
  clear hW hG x1 x2
  go_at_call 68
  refine HROW.out.mono ?_
  rintro e w2 ⟨rfl, hk⟩
  have HKE := Lib.hid ((HKW.out.mono (E' := fun b => b = R) fun _ e => e.elim).trans hk)
  clear hk
  go_wp2_with fail
  exact ⟨rfl, rfl, HKE.out⟩

set_option maxHeartbeats 16000000 in
theorem expr_gives (w0 : World) (R el ec : Nat) (its : List Item) (ch : List PanicEntry) (hN : Gives 69 #[rdV R] R its el ec ch w0) : Gives 32 #[rdV R] R its el ec ch w0 := by
  intro w hk hr
  obtain ⟨V1, B1, hV1, hB1, hb1, hk1, hs1⟩ := fresh_block w (.cells #[rdV R] 72)
  obtain ⟨V2, B2, hV2, hB2, hb2, hk2, hs2⟩ := fresh_block V1 (.cells #[.int .i64 0, .int .i64 0, .int .i64 0, .string ⟨#[]⟩, .slice none 0 0, .int .i64 0, .int .i64 0] TEx)
  obtain ⟨V3, B3, hV3, hB3, hb3, hk3, hs3⟩ := fresh_block V2 (.cells #[.func (.func 67) #[] #[.pointer (some ⟨B1, 0, none⟩)]] TFn)
  obtain ⟨V4, B4, hV4, hB4, hb4, hk4, hs4⟩ := fresh_block V3 (.cells #[.func (.func 70) #[] #[.pointer (some ⟨B1, 0, none⟩), .pointer (some ⟨B3, 0, none⟩)]] TFn)
  obtain ⟨V5, B5, hV5, hB5, hb5, hk5, hs5⟩ := fresh_block V4 (.cells #[.func (.func 71) #[] #[.pointer (some ⟨B1, 0, none⟩), .pointer (some ⟨B4, 0, none⟩)]] TFn)
  obtain ⟨V6, B6, hV6, hB6, hb6, hk6, hs6⟩ := fresh_block V5 (.cells #[.func (.func 72) #[] #[.pointer (some ⟨B1, 0, none⟩), .pointer (some ⟨B5, 0, none⟩)]] TFn)
  obtain ⟨W, G, hW, hG, hg, hkg, hsg⟩ := fresh_block V6 (.cells #[.int .i64 13] 3)
  have k6 := hk6.trans hkg; have k5 := hk5.trans k6; have k4 := hk4.trans k5; have k3 := hk3.trans k4; have k2 := hk2.trans k3; have k1 := hk1.trans k2
  have hRl := hr.lt
  have HKW := Lib.hid k1; have HB2 := Lib.hid (k3.blk hb2)
  have HNN := Lib.hid (show w.heap.size ≤ B2 ∧ B2 < W.heap.size ∧ R < w.heap.size ∧ G ≠ R from ⟨by omega, by omega, hRl, by omega⟩)
  have hN' := hN.from (hk.trans (k1.mono fun _ e => e.elim))
  have hbx := k2.blk hb1
  have r1 := expr1_gives W R el ec its ch B1 hbx (by omega) hN'
  have r2 := expr2_gives W R el ec its ch B1 B3 hbx (by omega) 67 _ (enters_of Tryz.func67 (by kernel_rfl) rfl) (k4.blk hb3) (by omega) r1
  have r3 := expr3_gives W R el ec its ch B1 B4 hbx (by omega) 70 _ (enters_of Tryz.func70 (by kernel_rfl) rfl) (k5.blk hb4) (by omega) r2
  have r4 := expr4_gives W R el ec its ch B1 B5 hbx (by omega) 71 _ (enters_of Tryz.func71 (by kernel_rfl) rfl) (k6.blk hb5) (by omega) r3
  have r5 := expr5_gives W R el ec its ch B1 B6 hbx (by omega) 72 _ (enters_of Tryz.func72 (by kernel_rfl) rfl) (hkg.blk hb6) (by omega) r4
  have HROW := Lib.hid (row_gives 73 #[] #[.pointer (some ⟨B1, 0, none⟩), .pointer (some ⟨B6, 0, none⟩)] #[.pointer (some ⟨B1, 0, none⟩), .pointer (some ⟨B6, 0, none⟩)] (enters_of Tryz.func73 (by kernel_rfl) rfl) R el ec its ch (.slice (some ⟨G, 0, none⟩) 1 1) W r5 (by simp) (hr.keep k1 fun _ _ e => e))
  have q12 : B1 + 1 = B2 := by omega
  have x1 := blk_cell (k := 0) ((hk3.trans (hk4.trans (hk5.trans hk6))).blk (hk2.blk hb1)) rfl
  clear hN' hbx r1 r2 r3 r4 r5 hN hr hk k6 k5 k4 k3 k2 k1 hRl
  go_enter Tryz.func32, Tryz.ntmps32
  go_upto_region 1 with fail
  rw [← hV1, ← hB1, ← hV2, q12]
  clear hV1 hB1 hV2 hB2 q12 hs1 hs2
  go_upto_region 2 with fail
  rw [← hV3, ← hB3]
  clear hV3 hB3 hs3
  go_upto_region 3 with fail
  rw [← hV4, ← hB4]
  clear hV4 hB4 hs4
  go_upto_region 4 with fail
  rw [← hV5, ← hB5]
  clear hV5 hB5 hs5
  go_upto_region 5 with fail
  rw [← hV6, ← hB6]
  clear hV6 hB6 hs6
  go_wp2_with fail
  rw [← hW, ← hG]
  clear hW hG x1
  go_at_call 68
  refine HROW.out.mono ?_
  rintro e w2 ⟨rfl, hk⟩
  have HKE := Lib.hid ((HKW.out.mono (E' := fun b => b = R) fun _ e => e.elim).trans hk)
  clear hk
  go_wp2_with fail
  exact ⟨rfl, rfl, HKE.out⟩

end Go.Proofs.YtomlffobbkcmdaaGreatDoor
