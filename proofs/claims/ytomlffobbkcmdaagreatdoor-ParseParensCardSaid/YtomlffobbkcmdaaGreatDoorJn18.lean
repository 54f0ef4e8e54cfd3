/- Joined texts of this work: Pf6, Pf7, Pq5, Pick16, Pp1, Pq6, PbC. -/
import Derived.Test.YtomlffobbkcmdaaGreatDoorJn17
import Derived.Test.YtomlffobbkcmdaaGreatDoorJn16
import Derived.Test.YtomlffobbkcmdaaGreatDoorJn6
import Derived.Test.YtomlffobbkcmdaaGreatDoorJn12

/-
  Package parse: Expr of a text of which what binds most gives up; of the empty text.
-/
namespace Go.Proofs.YtomlffobbkcmdaaGreatDoor
open Go Go.RowKit Own

/-- the tokens of any text without a fault, and the room behind them -/
theorem all_rows {s : ByteArray} {its : List Item} (h : allT s.data.toList = (its, ⟨0, 0, 0⟩)) (w : World) (hT : TabS w) :
    Calls Tryz.prog 64 #[.string s] w fun e w' => ∃ p cap, e = .returned (.tuple #[.slice p its.length cap, .agg #[.int .i64 0, .int .i64 0, .int .i64 0]]) ∧ RowI w' p its ∧ its.length ≤ cap ∧ cap ≤ 9223372036854775807 ∧ (∀ a, p = some a → a.block < w'.heap.size ∧ w.heap.size ≤ a.block) ∧ KeepBut (fun _ => False) w w' := by
  refine (all_any s w hT).mono ?_
  rintro e w' ⟨v, rfl, hrow, hk⟩
  rw [h] at hrow ⊢
  obtain ⟨p, cap', hv, hrt, hlt⟩ := RowT.of_owns hrow
  obtain ⟨h0, ⟨h1, h2⟩ | ⟨g, cap2, cur, hv2, hbs, hg, h2, h3, h4, h5⟩⟩ := hrow
  · rw [h1] at hv
    have e1 : p = none := by injection hv with e1 _ _; exact e1.symm
    have e2 : its.length = 0 := h2
    subst h1; subst e1
    exact ⟨none, 0, by rw [e2]; rfl, hrt.rowI, by omega, by omega, (fun a e => nomatch e), hk⟩
  · rw [hv2] at hv
    cases hv
    subst hv2
    exact ⟨some ⟨g, 0, none⟩, _, rfl, hrt.rowI, h2, by unfold maxLen at h3; omega, fun a e => by cases e; exact ⟨(Array.getElem?_eq_some_iff.1 hg).1, hbs⟩, hk⟩

set_option maxHeartbeats 8000000 in
theorem readE_gives (w : World) (R el ec : Nat) (its : List Item) (ch : List PanicEntry) (hr : ReaderAt w R its el ec) (hG : Gives 69 #[rdV R] R its el ec ch w) :
    Calls Tryz.prog 31 #[rdV R] w fun e w' => e = .panicked ch ∧ KeepBut (fun b => b = R) w w' := by
  obtain ⟨V, B2, hV, hB2, hb2, hk, hs⟩ := fresh_block w (.cells #[.int .i64 0, .int .i64 0, .int .i64 0, .string ⟨#[]⟩, .slice none 0 0, .int .i64 0, .int .i64 0] TEx)
  have HE := Lib.hid (expr_gives V R el ec its ch (hG.from (hk.mono fun _ e => e.elim)) V (KeepBut.refl _ _) (hr.keep hk fun _ _ e => e))
  have HK := Lib.hid hk
  clear hr hG hb2 hk hs
  go_enter Tryz.func31, Tryz.ntmps31
  go_upto_region 1 with fail
  rw [← hV]
  clear hV hB2
  go_wp2_with fail
  go_at_call 32
  refine HE.out.mono ?_
  rintro e w1 ⟨rfl, hk1⟩
  have HKE := Lib.hid ((HK.out.mono (E' := fun b => b = R) fun _ e => e.elim).trans hk1)
  clear hk1
  go_wp2_with fail
  exact ⟨rfl, rfl, HKE.out⟩

set_option maxRecDepth 100000 in
set_option maxHeartbeats 32000000 in
theorem readingE_gives (s : ByteArray) (its : List Item) (w : World) (hT : TabS w) (hall : allT s.data.toList = (its, ⟨0, 0, 0⟩)) (hss : s.size ≤ 1000000) (hG : ∀ (R el ec : Nat) (W : World), ∃ li co : Int, Gives 69 #[rdV R] R its el ec (fltC 9 li co) W) :
    Calls Tryz.prog 30 #[.string s, .func (.func 31) #[] #[], .func (.func 34) #[] #[]] w fun e w' => (∃ li co : Int, e = .returned (.tuple #[.agg #[.int .i64 0, .int .i64 0, .int .i64 0, .string ⟨#[]⟩, .slice none 0 0, .int .i64 0, .int .i64 0], .agg #[.int .i64 9, .int .i64 li, .int .i64 co]])) ∧ KeepBut (fun _ => False) w w' := by
  obtain ⟨V1, B6, hV1, hB6, hb6, hk1, hs1⟩ := fresh_block w (.cells #[.int .i64 0, .int .i64 0, .int .i64 0, .string ⟨#[]⟩, .slice none 0 0, .int .i64 0, .int .i64 0] TEx)
  obtain ⟨V, B7, hV, hB7, hb7, hk2, hs2⟩ := fresh_block V1 (.cells #[.int .i64 0, .int .i64 0, .int .i64 0] TFa)
  have hk := hk1.trans hk2
  have hALL := all_rows hall V (hk.tabS hT)
  have HALL := Lib.hid hALL
  have HBE := Lib.hid fun W => behind_any s hss W
  have h67 : B6 + 1 = B7 := by omega
  have HK := Lib.hid hk; have HB6 := Lib.hid (hk2.blk hb6); have HB7 := Lib.hid hb7; have HGG := Lib.hid hG
  have HN := Lib.hid (show w.heap.size ≤ B6 ∧ B6 < B7 ∧ B7 < V.heap.size by omega)
  clear hT hall hss hG hb6 hb7 hk1 hk2 hs1 hs2 hk hALL
  go_enter_defers Tryz.func30, Tryz.ntmps30
  go_upto_region 1 with fail
  rw [← hV1, ← hB6, ← hV, h67]
  clear hV1 hB6 hV hB7 h67
  go_wp2_with fail
  go_at_call 64
  refine HALL.out.mono ?_
  rintro e w1 ⟨p, cap, rfl, hrow, hc1, hc2, hg, hk⟩
  have HK1 := Lib.hid hk; have HROW := Lib.hid hrow; have HCAP := Lib.hid (And.intro hc1 hc2); have HG := Lib.hid hg
  have hb71 := hk.blk HB7.out
  have HB71 := Lib.hid hb71
  obtain ⟨n0, n1, n2, f0, f1, f2⟩ := blk3f hb71
  clear hk hrow hc1 hc2 hg hb71
  go_upto_region 2 with fail
  obtain ⟨w2, hw2, hb2, hk2⟩ := put3 HB71.out (.int .i64 0) (.int .i64 0) (.int .i64 0)
  rw [← hw2]
  have hn := HN.out
  have HB72 := Lib.hid hb2
  have HB62 := Lib.hid (hk2.blkE (HK1.out.blk HB6.out) fun e => by have e : B6 = B7 := e; omega)
  have HROW2 := Lib.hid (show RowI w2 p its ∧ ∀ a, p = some a → a.block < w2.heap.size from
    ⟨HROW.out.keep hk2 (fun a ha e => by have h1 := (HG.out a ha).2; have e : a.block = B7 := e; omega), fun a ha => Nat.lt_of_lt_of_le (HG.out a ha).1 hk2.size⟩)
  have HK2 := Lib.hid (show KeepBut (fun b => b = B7) w w2 from ((HK.out.trans HK1.out).mono fun _ e => e.elim).trans hk2)
  clear hw2 hb2 hk2 hn n0 n1 n2 f0 f1 f2
  obtain ⟨n0, n1, n2, -⟩ := blk3f HB72.out
  go_upto_region 5 with fail
  clear n0 n1 n2
  go_wp2_with fail
  go_at_call 66
  refine (HBE.out w2).mono ?_
  rintro e w3 ⟨el, ec, rfl, hk3⟩
  obtain ⟨W4, R, hW4, hR, hbr, hk4, hs4⟩ := fresh_block w3 (.cells #[.slice p its.length cap, .int .i64 0, .string ⟨#[]⟩, .int .i64 0, .int .i64 el, .int .i64 ec] TRd)
  have hk34 := hk3.trans hk4
  have HR4 := Lib.hid (show ReaderAt W4 R its el ec from ⟨p, cap, hbr, HROW2.out.1.keep hk34 (fun _ _ e => e), fun a ha => by have := HROW2.out.2 a ha; have := hk3.size; omega, HCAP.out⟩)
  obtain ⟨li, co, hgv⟩ := HGG.out R el ec W4
  have HRE := Lib.hid (readE_gives W4 R el ec its (fltC 9 li co) HR4.out hgv)
  simp only [fltC, fltV, TFt] at HRE
  have HB64 := Lib.hid (hk34.blk HB62.out); have HB74 := Lib.hid (hk34.blk HB72.out)
  have HK4 := Lib.hid (HK2.out.newM hk34 fun _ e => e.elim)
  have HN4 := Lib.hid (show B7 < R ∧ R < W4.heap.size ∧ w2.heap.size ≤ R by
    have h1 := (Array.getElem?_eq_some_iff.1 HB72.out).1
    have h2 := hk3.size
    omega)
  clear hk3 hk4 hk34 hbr hs4 hgv
  go_wp2_with fail
  rw [← hW4, ← hR]
  clear hW4 hR
  go_at_call 31
  refine HRE.out.mono ?_
  rintro e w5 ⟨rfl, hk5⟩
  have hn := HN.out; have hn4 := HN4.out
  have HB65 := Lib.hid (hk5.blkE HB64.out fun e => by have e : B6 = R := e; omega)
  have HB75 := Lib.hid (hk5.blkE HB74.out fun e => by have e : B7 = R := e; omega)
  have HKW5 := Lib.hid (show KeepBut (fun b => b = B7 ∨ b = R) w w5 from (HK4.out.mono fun _ e => .inl e).trans (hk5.mono fun _ e => .inr e))
  clear hk5 hn hn4
  go_wp2_with fail
  refine leaves_cons (f := 65) (args := #[.pointer (some ⟨B6, 0, none⟩), .pointer (some ⟨B7, 0, none⟩)]) (by simp) (by simp [go_sem]) ?_
  refine (catch_fault B6 B7 0 0 0 0 0 ⟨#[]⟩ none 0 0 0 0 0 9 li co [] w5 HB65.out HB75.out (by have := HN.out; omega)).mono ?_
  rintro e u' w'' ⟨rfl, rfl, g6, g7, hkf⟩
  obtain ⟨c0, c1, c2, c3, c4, c5, c6, -⟩ := blk7 g6
  obtain ⟨d0, d1, d2, -⟩ := blk3f g7
  have hkE : KeepBut (fun _ => False) w w'' := (KeepBut.refl (fun _ => False) w).newE ((HKW5.out.mono (E' := fun b => b = B6 ∨ b = B7 ∨ b = R) fun _ e => .inr e).trans (hkf.mono fun b e => e.elim .inl fun e => .inr (.inl e))) fun b hb => by have := HN.out; have := HN4.out; omega
  exact ⟨.tuple #[.agg #[.int .i64 0, .int .i64 0, .int .i64 0, .string ⟨#[]⟩, .slice none 0 0, .int .i64 0, .int .i64 0], .agg #[.int .i64 9, .int .i64 li, .int .i64 co]], by simp [results, Tryz.results30, go_sem, c0, c1, c2, c3, c4, c5, c6, d0, d1, d2], ⟨li, co, rfl⟩, hkE⟩

set_option maxHeartbeats 8000000 in
/-- Expr, of a text whose reading gives up -/
theorem expr_fltE (s : ByteArray) (w : World) (hT : TabS w) (hR : ∀ w, TabS w → Calls Tryz.prog 30 #[.string s, .func (.func 31) #[] #[], .func (.func 34) #[] #[]] w fun e w' => (∃ li co : Int, e = .returned (.tuple #[.agg #[.int .i64 0, .int .i64 0, .int .i64 0, .string ⟨#[]⟩, .slice none 0 0, .int .i64 0, .int .i64 0], .agg #[.int .i64 9, .int .i64 li, .int .i64 co]])) ∧ KeepBut (fun _ => False) w w') :
    Calls Tryz.prog 11 #[.string s] w fun e w' => (∃ li co : Int, e = .returned (.tuple #[.agg #[.int .i64 0, .int .i64 0, .int .i64 0, .string ⟨#[]⟩, .slice none 0 0, .int .i64 0, .int .i64 0], .agg #[.int .i64 9, .int .i64 li, .int .i64 co]])) ∧ KeepBut (fun _ => False) w w' := by
  obtain ⟨V1, B2, hV1, hB2, hb2, hk1, hs1⟩ := fresh_block w (.cells #[.int .i64 0, .int .i64 0, .int .i64 0, .string ⟨#[]⟩, .slice none 0 0, .int .i64 0, .int .i64 0] TEx)
  obtain ⟨V, B3, hV, hB3, hb3, hk2, hs2⟩ := fresh_block V1 (.cells #[.int .i64 0, .int .i64 0, .int .i64 0] TFa)
  have hk := hk1.trans hk2
  have HRE := Lib.hid (hR V (hk.tabS hT))
  have h23 : B2 + 1 = B3 := by omega
  have HK := Lib.hid hk; have HB2 := Lib.hid (hk2.blk hb2); have HB3 := Lib.hid hb3
  have HN := Lib.hid (show w.heap.size ≤ B2 ∧ B2 < B3 ∧ B3 < V.heap.size by omega)
  clear hT hR hb2 hb3 hk1 hk2 hs1 hs2 hk
  go_enter Tryz.func11, Tryz.ntmps11
  go_upto_region 1 with fail
  rw [← hV1, ← hB2, ← hV, h23]
  clear hV1 hB2 hV hB3 h23
  go_wp2_with fail
  go_at_call 30
  refine HRE.out.mono ?_
  rintro e w1 ⟨⟨li, co, rfl⟩, hk1⟩
  have HK1 := Lib.hid hk1
  have hb2 := hk1.blk HB2.out; have hb3 := hk1.blk HB3.out
  have HB2 := Lib.hid hb2; have HB3 := Lib.hid hb3
  obtain ⟨m0, m1, m2, m3, m4, m5, m6, f0, f1, f2, f3, f4, f5, f6⟩ := blk7 hb2
  obtain ⟨q0, q1, q2, g0, g1, g2⟩ := blk3f hb3
  have hne23 : B2 ≠ B3 := by have := HN.out; omega
  have hne32 : B3 ≠ B2 := by have := HN.out; omega
  clear hk1 hb2 hb3
  go_wp2_with fail
  obtain ⟨wa, hwa, hba, hka⟩ := put7 HB2.out (.int .i64 0) (.int .i64 0) (.int .i64 0) (.string ⟨#[]⟩) (.slice none 0 0) (.int .i64 0) (.int .i64 0)
  rw [← hwa]
  have hn := HN.out
  obtain ⟨wf, hwf, hbf, hkf⟩ := put3 (hka.blkE HB3.out fun e => by have e : B3 = B2 := e; omega) (.int .i64 9) (.int .i64 li) (.int .i64 co)
  rw [← hwf]
  obtain ⟨c0, c1, c2, c3, c4, c5, c6, -⟩ := blk7 (hkf.blkE hba fun e => by have e : B2 = B3 := e; omega)
  obtain ⟨d0, d1, d2, -⟩ := blk3f hbf
  clear hwa hwf
  exact bodyPost_ret (v := .tuple #[.agg #[.int .i64 0, .int .i64 0, .int .i64 0, .string ⟨#[]⟩, .slice none 0 0, .int .i64 0, .int .i64 0], .agg #[.int .i64 9, .int .i64 li, .int .i64 co]]) (by simp [results, Tryz.results11, go_sem, c0, c1, c2, c3, c4, c5, c6, d0, d1, d2]) rfl ⟨⟨li, co, rfl⟩, ((HK.out.trans HK1.out).new hka fun b e => by have e : b = B2 := e; omega).new hkf fun b e => by have e : b = B3 := e; omega⟩


/-- Expr of the empty text -/
theorem expr_empty (w : World) (hT : TabS w) : Calls Tryz.prog 11 #[.string ⟨#[]⟩] w fun e w' => (∃ li co : Int, e = .returned (.tuple #[.agg #[.int .i64 0, .int .i64 0, .int .i64 0, .string ⟨#[]⟩, .slice none 0 0, .int .i64 0, .int .i64 0], .agg #[.int .i64 9, .int .i64 li, .int .i64 co]])) ∧ KeepBut (fun _ => False) w w' :=
  expr_fltE ⟨#[]⟩ w hT fun w hT => readingE_gives ⟨#[]⟩ [] w hT (by rfl) (by decide) fun R el ec W =>
    ⟨el, ec, one_gives R el ec [] 0 0 el ec ⟨#[]⟩ rfl rfl rfl rfl (by decide) (by decide) W⟩

end Go.Proofs.YtomlffobbkcmdaaGreatDoor

/-
  Package parse: reading and Expr of a text that has a lexical fault.
-/
namespace Go.Proofs.YtomlffobbkcmdaaGreatDoor
open Go Go.RowKit Own

/-- the tokens of any text -/
theorem all_rowsF {s : ByteArray} {its : List Item} {er li co : Nat} (h : allT s.data.toList = (its, ⟨er, li, co⟩)) (w : World) (hT : TabS w) :
    Calls Tryz.prog 64 #[.string s] w fun e w' => ∃ p cap, e = .returned (.tuple #[.slice p its.length cap, .agg #[.int .i64 er, .int .i64 li, .int .i64 co]]) ∧ KeepBut (fun _ => False) w w' := by
  refine (all_any s w hT).mono ?_
  rintro e w' ⟨v, rfl, hrow, hk⟩
  rw [h] at hrow ⊢
  obtain ⟨p, cap', rfl, hrt, hlt⟩ := RowT.of_owns hrow
  exact ⟨p, cap', rfl, hk⟩

set_option maxRecDepth 100000 in
set_option maxHeartbeats 32000000 in
theorem readingE_lex (s : ByteArray) (er li co : Nat) (her : er ≠ 0) (w : World) (hT : TabS w) (hall : allT s.data.toList = ([], ⟨er, li, co⟩)) :
    Calls Tryz.prog 30 #[.string s, .func (.func 31) #[] #[], .func (.func 34) #[] #[]] w fun e w' => e = .returned (.tuple #[.agg #[.int .i64 0, .int .i64 0, .int .i64 0, .string ⟨#[]⟩, .slice none 0 0, .int .i64 0, .int .i64 0], .agg #[.int .i64 er, .int .i64 li, .int .i64 co]]) ∧ KeepBut (fun _ => False) w w' := by
  obtain ⟨V1, B6, hV1, hB6, hb6, hk1, hs1⟩ := fresh_block w (.cells #[.int .i64 0, .int .i64 0, .int .i64 0, .string ⟨#[]⟩, .slice none 0 0, .int .i64 0, .int .i64 0] TEx)
  obtain ⟨V, B7, hV, hB7, hb7, hk2, hs2⟩ := fresh_block V1 (.cells #[.int .i64 0, .int .i64 0, .int .i64 0] TFa)
  have hk := hk1.trans hk2
  have hALL := all_rowsF hall V (hk.tabS hT)
  have HALL := Lib.hid hALL
  have herb : ((er : Int) == 0) = false := by rw [beq_eq_false_iff_ne]; omega
  have h67 : B6 + 1 = B7 := by omega
  have HK := Lib.hid hk; have HB6 := Lib.hid (hk2.blk hb6); have HB7 := Lib.hid hb7; have HER := Lib.hid her
  have HN := Lib.hid (show w.heap.size ≤ B6 ∧ B6 < B7 ∧ B7 < V.heap.size by omega)
  clear hT hall her hb6 hb7 hk1 hk2 hs1 hs2 hk hALL
  go_enter_defers Tryz.func30, Tryz.ntmps30
  go_upto_region 1 with fail
  rw [← hV1, ← hB6, ← hV, h67]
  clear hV1 hB6 hV hB7 h67
  go_wp2_with fail
  go_at_call 64
  refine HALL.out.mono ?_
  rintro e w1 ⟨p, cap, rfl, hk⟩
  have HK1 := Lib.hid hk
  have hb71 := hk.blk HB7.out
  have HB71 := Lib.hid hb71
  obtain ⟨n0, n1, n2, f0, f1, f2⟩ := blk3f hb71
  clear hk hb71
  go_upto_region 2 with fail
  obtain ⟨w2, hw2, hb2, hk2⟩ := put3 HB71.out (.int .i64 er) (.int .i64 li) (.int .i64 co)
  rw [← hw2]
  have hn := HN.out
  have HB72 := Lib.hid hb2
  have HB62 := Lib.hid (hk2.blkE (HK1.out.blk HB6.out) fun e => by have e : B6 = B7 := e; omega)
  have HKW := Lib.hid (((HK.out.trans HK1.out).mono (E' := fun b => b = B7) fun _ e => e.elim).trans hk2)
  clear hw2 hb2 hk2 hn n0 n1 n2 f0 f1 f2
  obtain ⟨n0, n1, n2, -⟩ := blk3f HB72.out
  go_upto_region 3 with fail
  clear n0 n1 n2
  refine wp_ownB (by kernel_rfl) B6 B7 _ _ HB62.out HB72.out (by have := HN.out; omega) (fun i => [[], [], [0], [0, 1, 2]].getD i []) (fun i => if i = 0 then [4] else if i = 1 then [5] else if i = 2 then [4] else if i = 3 then [5] else []) (fun i => if i = 2 then [4] else if i = 3 then [5] else []) [2, 3] (by kernel_rfl)
    (fun i => if i = 0 then some (sConst (.agg #[.int .i64 0, .int .i64 0, .int .i64 0, .string ⟨#[]⟩, .slice none 0 0, .int .i64 0, .int .i64 0])) else if i = 1 then some (sConst (.agg #[.int .i64 er, .int .i64 li, .int .i64 co])) else if i = 2 then some (sPut B6 TEx) else if i = 3 then some (sPut B7 TFa) else none) ?_
  refine lex_loud rfl rfl (loud_run ⟨default, trivial⟩ (fun g _ w w' _ _ _ _ _ => trivial) fun w' hk hav _ => by
    obtain ⟨x0, x1, x2, x3, x4, x5, x6, -⟩ := blk7 (show w'.heap[B6]? = some (.cells #[.int .i64 0, .int .i64 0, .int .i64 0, .string ⟨#[]⟩, .slice none 0 0, .int .i64 0, .int .i64 0] TEx (0, 0)) from (hav 4 (by decide)).1)
    exact ⟨w', default, trivial, .inl (by go_simp <;> rfl), KeepBut.refl _ _, fun b h => h.elim, trivial⟩) fun _ _ => ?_
  simp only [sConst, Act.put, List.setIfInBounds_toArray, List.set_cons_zero, List.set_cons_succ]
  refine lex_loud rfl rfl (loud_run ⟨default, trivial⟩ (fun g _ w w' _ _ _ _ _ => trivial) fun w' hk hav _ => by
    obtain ⟨x0, x1, x2, -⟩ := blk3f (show w'.heap[B7]? = some (.cells #[.int .i64 er, .int .i64 li, .int .i64 co] TFa (0, 0)) from (hav 5 (by decide)).1)
    exact ⟨w', default, trivial, .inl (by go_simp <;> rfl), KeepBut.refl _ _, fun b h => h.elim, trivial⟩) fun _ _ => ?_
  simp only [Act.put, List.setIfInBounds_toArray, List.set_cons_zero, List.set_cons_succ]
  refine lex_loud rfl rfl (loud_put B6 TEx TEx #[.int .i64 0, .int .i64 0, .int .i64 0, .string ⟨#[]⟩, .slice none 0 0, .int .i64 0, .int .i64 0] _ (.tmp 6) (.tmp 19) rfl rfl rfl 4 (by decide) (by decide) (fun w h => h) (.inl ⟨rfl, rfl⟩) rfl (by kernel_rfl) (by simp [Value.oneCell'])) fun g2 _ => ?_
  simp only [sPut, Act.put]
  refine lex_loud rfl rfl (loud_put B7 TFa TFa #[.int .i64 er, .int .i64 li, .int .i64 co] _ (.tmp 7) (.tmp 20) rfl rfl rfl 5 (by decide) (by decide) (fun w h => h) (.inr ⟨rfl, rfl⟩) rfl (by kernel_rfl) (by simp [Value.oneCell'])) fun g3 _ => ?_
  simp only [Act.put]
  refine lex_nil ?_
  intro w9 hk9 hF _
  have f2 : w9.heap[B6]? = some (.cells #[.int .i64 0, .int .i64 0, .int .i64 0, .string ⟨#[]⟩, .slice none 0 0, .int .i64 0, .int .i64 0] TEx (0, 0)) := (hF 2 (by decide)).1 _ (put_args rfl rfl)
  have f3 : w9.heap[B7]? = some (.cells #[.int .i64 er, .int .i64 li, .int .i64 co] TFa (0, 0)) := (hF 3 (by decide)).1 _ (put_args rfl rfl)
  have hkM := (KeepBut.drew (fun b => b = B6 ∨ b = B7) w2).trans hk9
  have HKE := Lib.hid (show KeepBut (fun _ => False) w w9 from (KeepBut.refl (fun _ => False) w).newE ((HKW.out.mono (E' := fun b => b = B6 ∨ b = B7) fun _ e => .inr e).trans hkM) fun b hb => by have := HN.out; omega)
  obtain ⟨c0, c1, c2, c3, c4, c5, c6, -⟩ := blk7 f2
  obtain ⟨d0, d1, d2, -⟩ := blk3f f3
  clear hk9 hF f2 f3 hkM
  go_wp2_with fail
  exact ⟨.tuple #[.agg #[.int .i64 0, .int .i64 0, .int .i64 0, .string ⟨#[]⟩, .slice none 0 0, .int .i64 0, .int .i64 0], .agg #[.int .i64 er, .int .i64 li, .int .i64 co]], by simp [results, Tryz.results30, go_sem, c0, c1, c2, c3, c4, c5, c6, d0, d1, d2], rfl, HKE.out⟩

/-- Expr of a text that has a lexical fault -/
theorem expr_lex (s : ByteArray) (er li co : Nat) (her : er ≠ 0) (w : World) (hT : TabS w) (hall : allT s.data.toList = ([], ⟨er, li, co⟩)) :
    Calls Tryz.prog 11 #[.string s] w fun e w' => e = .returned (.tuple #[.agg #[.int .i64 0, .int .i64 0, .int .i64 0, .string ⟨#[]⟩, .slice none 0 0, .int .i64 0, .int .i64 0], .agg #[.int .i64 er, .int .i64 li, .int .i64 co]]) ∧ KeepBut (fun _ => False) w w' :=
  expr_flt s er li co w hT fun w hT => readingE_lex s er li co her w hT hall

end Go.Proofs.YtomlffobbkcmdaaGreatDoor

/-
  parse.Expr of an expression's own text, in parentheses, too.
-/
namespace Go.Proofs.YtomlffobbkcmdaaGreatDoor
open Go Go.RowKit Own

theorem putL_one (s : List UInt8) : (putL [s]).length = s.length + 1 := by simp [putL]
theorem putL_wrap (k : Int) (ts : List (List UInt8)) : (putL (wrapK k ts)).length ≤ (putL ts).length + 4 := by
  unfold wrapK
  split
  · rw [show [40] :: (ts ++ [[41]]) = [[40]] ++ (ts ++ [[41]]) from rfl, putL_app, putL_app]
    simp only [List.length_append, putL_one, List.length_cons, List.length_nil]
    omega
  · omega
theorem sign_len {q : Nat} (h1 : 1 ≤ q) (h2 : q ≤ 13) : (signL.getD q []).length ≤ 2 := by
  have key : ∀ q : Nat, q < 14 → (signL.getD q []).length ≤ 2 := by decide
  exact key q (by omega)
/-- how long an expression's text is -/
theorem text_len : ∀ (m : Nat) (x : Gx), gSize x ≤ m → mayG x = true → fitG x → (putL (tokG x)).length + 4 ≤ 40 * gSize x
  | 0, x, h, _, _ => by cases x; unfold gSize at h; omega
  | f + 1, .mk k o n nm l c ks, h, hm, hf => by
    unfold fitG at hf
    unfold gSize at h ⊢
    rcases may_kinds hm with ⟨rfl, h1, rfl, rfl, rfl⟩ | ⟨rfl, h1, rfl, rfl, rfl⟩ | ⟨rfl, h1, rfl, rfl, a, rfl, ha⟩ | ⟨rfl, h1, rfl, rfl, a, rfl, ha⟩ | ⟨rfl, h1, h2, rfl, rfl, a, b, rfl, ha, hb⟩
    · unfold tokG
      rw [if_pos rfl, putL_one]
      obtain ⟨m, rfl⟩ : ∃ m : Nat, n = m := ⟨n.toNat, by omega⟩
      rw [itoa_dig]
      have := digL_len 18 m (by have := hf.1; omega)
      unfold gSizeL
      omega
    · unfold tokG
      rw [if_neg (by decide), if_pos rfl, putL_one]
      have : nm.length ≤ 16 := by unfold nameB at h1; simp only [Bool.and_eq_true, decide_eq_true_eq] at h1; exact h1.2.1
      unfold gSizeL
      omega
    · have hfa : fitG a := by have := hf.2; unfold fitGL at this; exact this.1
      unfold gSizeL gSizeL at h ⊢
      have ih := text_len f a (by omega) ha hfa
      have : nm.length ≤ 16 := by unfold nameB at h1; simp only [Bool.and_eq_true, decide_eq_true_eq] at h1; exact h1.2.1
      unfold tokG tokA
      rw [if_neg (by decide), if_neg (by decide), if_pos rfl, putL_app, putL_app, show [nm, [91]] = [nm] ++ [[91]] from rfl, putL_app]
      simp only [List.length_append, putL_one, List.length_cons, List.length_nil]
      omega
    · have hfa : fitG a := by have := hf.2; unfold fitGL at this; exact this.1
      unfold gSizeL gSizeL at h ⊢
      have ih := text_len f a (by omega) ha hfa
      have hw := putL_wrap (kindG a) (tokG a)
      have hu : (unL o).length = 1 := by unfold unL; split <;> rfl
      unfold tokG kidA
      rw [if_neg (by decide), if_neg (by decide), if_neg (by decide), if_pos rfl, putL_app]
      simp only [List.length_append, putL_one, hu]
      omega
    · have hfa : fitG a ∧ fitG b := by have := hf.2; unfold fitGL fitGL at this; exact ⟨this.1, this.2.1⟩
      unfold gSizeL gSizeL gSizeL at h ⊢
      have iha := text_len f a (by omega) ha hfa.1
      have ihb := text_len f b (by omega) hb hfa.2
      have hwa := putL_wrap (kindG a) (tokG a)
      have hwb := putL_wrap (kindG b) (tokG b)
      have hs : (signG o).length ≤ 2 := by unfold signG; exact sign_len (by omega) (by omega)
      unfold tokG kidA kidB kidA
      rw [if_neg (by decide), if_neg (by decide), if_neg (by decide), if_neg (by decide), putL_app, putL_app]
      simp only [List.length_append, putL_one]
      omega

theorem trim_len (l : List UInt8) : (trimL l).length ≤ l.length := by
  unfold trimL
  split
  · simp
  · exact Nat.le_refl _
theorem par_len (t : List UInt8) : ∀ m, (parT m t).length = t.length + 3 * m
  | 0 => rfl
  | m + 1 => by
    have := par_len t m
    simp only [parT, List.length_cons, List.length_append, List.length_nil, this]
    omega

/-- what Expr says of it -/
def ExprOf (x : Gx) (w : World) (e : Ending) (w' : World) : Prop :=
  (∃ vs er, e = .returned (.tuple #[.agg vs.toArray, .agg #[.int .i64 er, .int .i64 0, .int .i64 0]]) ∧ (∃ y, ExAt w' (fun b => w.heap.size ≤ b) vs y ∧ (er = 3 ∨ er = 0 ∧ LikeX y x))) ∧ KeepBut (fun _ => False) w w'

theorem expr_of (x : Gx) (hm : mayG x = true) (hf : fitG x) (hs : gSize x ≤ 2000) (m : Nat) (_hmm : m ≤ 100) (w : World) (hT : TabS w) :
    Calls Tryz.prog 11 #[.string ⟨(parT m (trimL (putL (tokG x)))).toArray⟩] w fun e w' => ExprOf x w e w' := by
  have hl := text_len (gSize x) x (Nat.le_refl _) hm hf
  have ht := trim_len (putL (tokG x))
  have hp := par_len (trimL (putL (tokG x))) m
  have hz : ∀ W : World, ExAt W (fun b => w.heap.size ≤ b) [.int .i64 0, .int .i64 0, .int .i64 0, .string ⟨#[]⟩, .slice none 0 0, .int .i64 0, .int .i64 0] (.mk 0 0 0 [] 0 0 []) := fun W => by
    unfold ExAt
    exact ⟨none, 0, rfl, by unfold KidsAt; trivial⟩
  by_cases h8 : 8192 < (parT m (trimL (putL (tokG x)))).length
  · refine (expr_lex _ 3 0 0 (by decide) w hT (by simpa using parens_long _ h8)).mono ?_
    rintro e w' ⟨rfl, hk⟩
    exact ⟨⟨_, 3, rfl, _, hz w', .inl rfl⟩, hk⟩
  · obtain ⟨its, y, h1, h2, h3, h4⟩ := parens_read x hm hf m (by omega)
    have hss : (⟨(parT m (trimL (putL (tokG x)))).toArray⟩ : ByteArray).size ≤ 1000000 := by simp [ByteArray.size]; omega
    by_cases hb : 600 < exSize y ∨ 24 < exDeep y
    · refine (expr_long _ _ its y w hT (by simpa using h1) hss h3 h2 (by have := h4.2.1; omega) hb).mono ?_
      rintro e w' ⟨rfl, hk⟩
      exact ⟨⟨_, 3, rfl, _, hz w', .inl rfl⟩, hk⟩
    · refine (expr_any _ _ its y w hT (by simpa using h1) hss h3 h2 (by omega) (by omega)).mono ?_
      rintro e w' ⟨vs, rfl, hex, hk⟩
      exact ⟨⟨vs, 0, rfl, y, hex, .inr ⟨rfl, h4⟩⟩, hk⟩

end Go.Proofs.YtomlffobbkcmdaaGreatDoor

/-
  fencepostkit.Pick.
-/
namespace Go.Proofs.YtomlffobbkcmdaaGreatDoor
open Go Go.RowKit Own

/-- fencepostkit.Pick -/
def pick (k n : Int) : Int := if k.tmod n < 0 then k.tmod n + n else k.tmod n
theorem pick_range {k n : Int} (hn : 0 < n) : 0 ≤ pick k n ∧ pick k n < n := by
  have h1 := Int.tmod_lt_of_pos k hn
  have h2 := Int.lt_tmod_of_pos k hn
  unfold pick
  split <;> omega

set_option maxHeartbeats 1000000 in
theorem pick_any (w : World) (k n : Int) (hn : 0 < n) (hn2 : n ≤ 9223372036854775807) :
    Calls Tryz.prog 12 #[.int .i64 k, .int .i64 n] w fun e w' => e = .returned (.int .i64 (pick k n)) ∧ w' = w := by
  have h1 := Int.tmod_lt_of_pos k hn
  have h2 := Int.lt_tmod_of_pos k hn
  have hW : IntKind.i64.wrap (k.tmod n) = k.tmod n := IntWalk.i64_in _ (by omega)
  have hn0 : ¬ n = 0 := by omega
  have hn1 : ¬ n < 1 := by omega
  by_cases h : k.tmod n < 0
  · have hW2 : IntKind.i64.wrap (k.tmod n + n) = k.tmod n + n := IntWalk.i64_in _ (by omega)
    have HF := Lib.hid (show pick k n = k.tmod n + n from if_pos h)
    go_enter Tryz.func12, Tryz.ntmps12
    go_wp2_with fail
    go_ret
    exact ⟨ret_int HF.out.symm, rfl⟩
  · have HF := Lib.hid (show pick k n = k.tmod n from if_neg h)
    go_enter Tryz.func12, Tryz.ntmps12
    go_wp2_with fail
    go_ret
    exact ⟨ret_int HF.out.symm, rfl⟩

end Go.Proofs.YtomlffobbkcmdaaGreatDoor

/-
  LightExpr: how great an expression is (weighExpr), whatever its fields hold.
-/
namespace Go.Proofs.YtomlffobbkcmdaaGreatDoor
open Go Go.RowKit Own

mutual
def wgt : Nat → Gx → Nat
  | d, .mk _ _ _ nm _ _ kids => if 60 < d ∨ 60 < nm.length then 1048576 else wgtL d 1 kids
def wgtL : Nat → Nat → List Gx → Nat
  | _, n, [] => n
  | d, n, x :: l => if n < 65536 then wgtL d (n + wgt (d + 1) x) l else n
end
mutual
theorem wgt_le : ∀ (x : Gx) (d : Nat), wgt d x ≤ 1048576 + 65536 * (61 - d)
  | .mk _ _ _ nm _ _ kids, d => by
    unfold wgt
    split
    · omega
    · exact wgtL_le kids d 1 (by omega) (by omega)
theorem wgtL_le : ∀ (l : List Gx) (d n : Nat), d ≤ 60 → n ≤ 1048576 + 65536 * (61 - d) → wgtL d n l ≤ 1048576 + 65536 * (61 - d)
  | [], d, n, _, hn => by unfold wgtL; exact hn
  | x :: l, d, n, hd, hn => by
    unfold wgtL
    split
    · have := wgt_le x (d + 1)
      exact wgtL_le l d _ hd (by omega)
    · exact hn
end
theorem wgt_pos (x : Gx) (d : Nat) : 1 ≤ wgt d x := by
  have key : ∀ (l : List Gx) (n : Nat), 1 ≤ n → 1 ≤ wgtL d n l := by
    intro l
    induction l with
    | nil => intro n hn; unfold wgtL; exact hn
    | cons x l ih =>
      intro n hn
      unfold wgtL
      split
      · exact ih _ (by omega)
      · exact hn
  cases x
  unfold wgt
  split
  · omega
  · exact key _ _ (by omega)
theorem wgtL_end {d n : Nat} (l : List Gx) (h : 65536 ≤ n) : wgtL d n l = n := by
  cases l with
  | nil => rfl
  | cons x l => unfold wgtL; rw [if_neg (by omega)]

mutual
/-- the names are short -/
def shortG : Gx → Prop
  | .mk _ _ _ nm _ _ kids => nm.length ≤ 60 ∧ shortL kids
def shortL : List Gx → Prop
  | [] => True
  | x :: l => shortG x ∧ shortL l
end
mutual
/-- what is light -/
theorem light_of : ∀ (x : Gx) (d : Nat), wgt d x < 65536 → gSize x ≤ wgt d x ∧ d + gDeep x ≤ 61 ∧ shortG x
  | .mk k o n nm l c kids, d, h => by
    unfold wgt at h ⊢
    split at h
    · omega
    · rename_i hc
      rw [if_neg hc]
      unfold gSize gDeep shortG
      have h2 := lightL_of kids d 1 h
      exact ⟨by omega, by have := h2.2.1 (by omega); omega, by omega, h2.2.2⟩
theorem lightL_of : ∀ (l : List Gx) (d n : Nat), wgtL d n l < 65536 → gSizeL l + n ≤ wgtL d n l ∧ (d ≤ 60 → d + 1 + gDeepL l ≤ 61) ∧ shortL l
  | [], d, n, h => by
    unfold wgtL gSizeL gDeepL shortL
    exact ⟨by omega, fun _ => by omega, trivial⟩
  | x :: l, d, n, h => by
    unfold wgtL at h ⊢
    split at h
    · rename_i hc
      rw [if_pos hc]
      have h2 := lightL_of l d _ h
      have h1 := light_of x (d + 1) (by omega)
      unfold gSizeL gDeepL shortL
      refine ⟨by omega, fun hd => ?_, h1.2.2, h2.2.2⟩
      have := h2.2.1 hd
      have := h1.2.1
      omega
    · omega
end

/-- what the loop of weighExpr leaves -/
def WgR (V : World) (kids : List Gx) (d m : Nat) (v5 v6 : Value) (wr : World) : Prop :=
  ∃ i q : Nat, v5 = .int .i64 q ∧ v6 = .int .i64 i ∧ i ≤ kids.length ∧ i + 1 ≤ q ∧ wgtL d q (kids.drop i) = m ∧ KeepBut (fun _ => False) V wr

set_option maxRecDepth 4000 in
set_option maxHeartbeats 8000000 in
/-- weighExpr -/
theorem wgt_any : ∀ (n : Nat) (x : Gx), gSize x ≤ n → ∀ (d : Nat), d ≤ 61 → ∀ (w : World) (S : Nat → Prop) (vs : List Value), GAt w S vs x →
    Calls Tryz.prog 25 #[.agg vs.toArray, .int .i64 d] w fun e w' => e = .returned (.int .i64 (wgt d x)) ∧ KeepBut (fun _ => False) w w' := by
  intro n
  induction n with
  | zero => intro x hx; cases x; unfold gSize at hx; omega
  | succ n ih =>
    intro x hx d hd w S vs hex
    have HIH := Lib.hid ih
    obtain ⟨xk, xo, xn, xm, xl, xc, kids⟩ := x
    have hu := hex
    unfold GAt at hu
    obtain ⟨p, cap, rfl, hk⟩ := hu
    have hsz : gSizeL kids ≤ n := by unfold gSize at hx; omega
    obtain ⟨S0, hS0, hs0⟩ : ∃ S : ByteArray, strV xm = .string S ∧ S.size = xm.length := ⟨_, rfl, by simp [ByteArray.size]⟩
    obtain ⟨m, hm⟩ : ∃ m : Nat, m = wgt d (.mk xk xo xn xm xl xc kids) := ⟨_, rfl⟩
    rw [hS0, ← hm]
    obtain ⟨V, B, hV, hB, hb, hk0, hsz0⟩ := fresh_block w (.cells #[.int .i64 xk, .int .i64 xo, .int .i64 xn, .string S0, .slice p kids.length cap, .int .i64 xl, .int .i64 xc] TEx)
    obtain ⟨n0, n1, n2, n3, n4, n5, n6, -⟩ := blk7 hb
    have HKI := Lib.hid (hk.keep hk0 fun _ _ e => e); have HK0 := Lib.hid hk0; have HSZ := Lib.hid hsz; have HM := Lib.hid hm; have HS0 := Lib.hid hs0; have HD := Lib.hid hd; have HB := Lib.hid hb
    clear hk hx hex hk0 hsz0 hb ih hsz hm hd
    go_enter Tryz.func25, Tryz.ntmps25
    by_cases hd : 60 < d
    · have hdi : (60 : Int) < d := by omega
      clear hs0
      go_upto_region 1 with fail
      rw [← hV, ← hB]
      clear hV hB hS0
      go_wp2_with fail
      go_ret
      refine ⟨?_, HK0.out⟩
      rw [HM.out]
      unfold wgt
      rw [if_pos (Or.inl hd)]
      rfl
    · have hdi : ¬ (60 : Int) < d := by omega
      by_cases hl : 60 < xm.length
      · have hli : (60 : Int) < S0.size := by rw [hs0]; omega
        clear hs0
        go_upto_region 1 with fail
        rw [← hV, ← hB]
        clear hV hB hS0
        go_wp2_with fail
        go_ret
        refine ⟨?_, HK0.out⟩
        rw [HM.out]
        unfold wgt
        rw [if_pos (Or.inr hl)]
        rfl
      · have hli : ¬ (60 : Int) < S0.size := by rw [hs0]; omega
        clear hs0
        have hmw : m = wgtL d 1 kids := by
          rw [HM.out]
          unfold wgt
          rw [if_neg (by omega)]
        have HMW := Lib.hid hmw
        clear hmw
        go_upto_region 1 with fail
        rw [← hV, ← hB]
        clear hV hB hS0
        go_wp2_with fail
        go_loopw [5, 6] (fun v5 v6 wr => WgR V kids d m v5 v6 wr) (fun _ v _ => kids.length - (intOf v).toNat)
        case atStart => exact ⟨0, 1, rfl, rfl, Nat.zero_le _, by omega, HMW.out.symm, KeepBut.refl _ _⟩
        case round =>
          obtain ⟨i, q, rfl, rfl, hi, hiq, hw, hk⟩ := hrel
          have HK := Lib.hid hk
          have HW := Lib.hid hw
          clear hw
          obtain ⟨a0, a1, a2, a3, a4, a5, a6, -⟩ := blk7 (hk.blk HB.out)
          by_cases hlt : i < kids.length
          · have hlti : (i : Int) < kids.length := by omega
            by_cases hq6 : q < 65536
            · have hqi : (q : Int) < 65536 := by omega
              have hi0 : (0 : Int) ≤ i := by omega
              have hWi : IntKind.i64.wrap ((i : Int) + 1) = (i : Int) + 1 := IntWalk.i64_in _ (by omega)
              have hWd : IntKind.i64.wrap ((d : Int) + 1) = (d : Int) + 1 := IntWalk.i64_in _ (by omega)
              obtain ⟨g, o, vs, hp, hc, hex⟩ := gkids_get (HKI.out.keep hk fun _ _ e => e) i hlt
              subst hp
              rw [Nat.zero_add] at hc
              obtain ⟨yk, yo, yn, yS, yp, ym, yc, yl, ycl, rfl⟩ := g_form hex
              have x0 : wr.cell? ⟨g, o + i * 7, none⟩ = some (.int .i64 yk) := hc 0 _ rfl; have x1 := hc 1 _ rfl; have x2 := hc 2 _ rfl; have x3 := hc 3 _ rfl; have x4 := hc 4 _ rfl; have x5 := hc 5 _ rfl; have x6 := hc 6 _ rfl
              have hme := gsize_mem hlt
              have hca := HIH.out kids[i] (by have := HSZ.out; omega) (d + 1) (by omega) wr S _ hex
              have hd1 : ((d + 1 : Nat) : Int) = (d : Int) + 1 := by omega
              rw [hd1] at hca
              have hle := wgt_le kids[i] (d + 1)
              have hge := wgt_pos kids[i] (d + 1)
              have hst : wgtL d (q + wgt (d + 1) kids[i]) (kids.drop (i + 1)) = m := by
                have h := HW.out
                rw [List.drop_eq_getElem_cons hlt] at h
                unfold wgtL at h
                rwa [if_pos hq6] at h
              obtain ⟨s1, hs1⟩ : ∃ s, wgt (d + 1) kids[i] = s := ⟨_, rfl⟩
              rw [hs1] at hca hle hst hge
              have hWs : IntKind.i64.wrap ((q : Int) + s1) = (q : Int) + s1 := IntWalk.i64_in _ (by omega)
              have HCA := Lib.hid hca; have HST := Lib.hid hst
              have HLE := Lib.hid (And.intro hle hge)
              clear hc hex hk hme hst hle hs1 hca hd1 hge
              go_wp2_with fail
              go_at_call 25
              refine HCA.out.mono ?_
              rintro e w5 ⟨rfl, hk5⟩
              have HK5 := Lib.hid hk5
              clear hk5
              have HQ := Lib.hid (And.intro hi (And.intro hiq (And.intro hq6 (And.intro hlt hd))))
              clear hi hiq hq6 hlt hqi hlti x0 x1 x2 x3 x4 x5 x6 a0 a1 a2 a3 a4 a5 a6 n0 n1 n2 n3 n4 n5 n6 hd hl hdi hli hWd hi0
              go_wp2_with fail
              have hle := HLE.out
              obtain ⟨hi, hiq, hq6, hlt, hd⟩ := HQ.out
              refine ⟨⟨i + 1, q + s1, by simp, by simp, by omega, by omega, HST.out, HK.out.trans HK5.out⟩, by simp only [intOf]; omega⟩
            · have hqi : ¬ (q : Int) < 65536 := by omega
              have HE := Lib.hid (show q = m by rw [← HW.out]; exact (wgtL_end _ (by omega)).symm)
              clear hk hiq hq6 hi hlt
              go_wp2_with fail
              go_ret
              exact ⟨by rw [HE.out]; rfl, HK0.out.trans HK.out⟩
          · have hnl : ¬ (i : Int) < kids.length := by omega
            have HE := Lib.hid (show q = m by
              rw [← HW.out, List.drop_eq_nil_of_le (by omega)]
              rfl)
            clear hk hiq hi hlt
            go_wp2_with fail
            go_ret
            exact ⟨by rw [HE.out]; rfl, HK0.out.trans HK.out⟩

/-- LightExpr -/
theorem light_any (x : Gx) (w : World) (S : Nat → Prop) (vs : List Value) (hex : GAt w S vs x) :
    Calls Tryz.prog 9 #[.agg vs.toArray] w fun e w' => e = .returned (.bool (decide (wgt 0 x ≤ 2000))) ∧ KeepBut (fun _ => False) w w' := by
  obtain ⟨k, o, n, Sm, p, m, c, l, cl, rfl⟩ := g_form hex
  obtain ⟨V, B1, hV, hB1, hb1, hk1, hs1⟩ := fresh_block w (.cells #[.int .i64 k, .int .i64 o, .int .i64 n, .string Sm, .slice p m c, .int .i64 l, .int .i64 cl] TEx)
  have hm0 := wgt_any (gSize x) x (Nat.le_refl _) 0 (by omega) V S _ (hex.keep hk1 fun _ _ e => e)
  rw [show ((0 : Nat) : Int) = 0 from rfl] at hm0
  have HM := Lib.hid hm0
  have HK := Lib.hid hk1
  obtain ⟨n0, n1, n2, n3, n4, n5, n6, -⟩ := blk7 hb1
  obtain ⟨q, hq⟩ : ∃ q, wgt 0 x = q := ⟨_, rfl⟩
  rw [hq] at HM ⊢
  clear hex hb1 hk1 hs1 hq hm0
  go_enter Tryz.func9, Tryz.ntmps9
  go_upto_region 1 with fail
  rw [← hV, ← hB1]
  clear hV hB1
  by_cases hle : q ≤ 2000
  · have hi : (q : Int) ≤ 2000 := by omega
    go_wp2_with (go_at_call 25; refine HM.out.mono ?_; rintro e w5 ⟨rfl, hk5⟩; have HK5 := Lib.hid hk5; clear hk5)
    go_ret
    exact ⟨by first | (simp [hle]; done) | (simp [hle]; omega), HK.out.trans HK5.out⟩
  · have hi : ¬ (q : Int) ≤ 2000 := by omega
    go_wp2_with (go_at_call 25; refine HM.out.mono ?_; rintro e w5 ⟨rfl, hk5⟩; have HK5 := Lib.hid hk5; clear hk5)
    go_ret
    exact ⟨by first | (simp [hle]; done) | (simp [hle]; omega), HK.out.trans HK5.out⟩

end Go.Proofs.YtomlffobbkcmdaaGreatDoor

/-
  ParseParens: its own walk.
-/
namespace Go.Proofs.YtomlffobbkcmdaaGreatDoor
open Go Go.RowKit Own

theorem cat_par (t : List UInt8) (i : Nat) : (⟨#[40]⟩ : ByteArray) ++ ⟨(parT i t).toArray⟩ ++ ⟨#[32, 41]⟩ = ⟨(parT (i + 1) t).toArray⟩ := by
  apply ByteArray.ext
  simp [parT]

/-- what the loop of ParseParens leaves -/
def ParR (Z : Nat → ByteArray) (q : Nat) (W : World) (v5 v8 : Value) (wr : World) : Prop := ∃ i : Nat, v5 = .string (Z i) ∧ v8 = .int .i64 ((q : Int) - i) ∧ i ≤ q + 1 ∧ KeepBut (fun _ => False) W wr

set_option maxRecDepth 4000 in
set_option maxHeartbeats 32000000 in
theorem parens_walk (hL : ∀ w, TabS w → TabP w → Calls Tryz.prog 8 #[] w fun e w' => e = .returned (.bool true) ∧ KeepBut (fun _ => False) w w') (w : World) (hT : TabS w) (hP : TabP w) (x : Gx) (S : Nat → Prop) (vs : List Value) (hex : GAt w S vs x) (hfit : fitG x) (n : Int) :
    Calls Tryz.prog 3 #[.agg vs.toArray, .int .i64 n] w fun e w' => e = .returned (.bool true) ∧ KeepBut (fun _ => False) w w' := by
  obtain ⟨k, o, nn, Sm, p, m, c, l, cl, rfl⟩ := g_form hex
  obtain ⟨V, B2, hV, hB2, hb2, hk2, hs2⟩ := fresh_block w (.cells #[.int .i64 k, .int .i64 o, .int .i64 nn, .string Sm, .slice p m c, .int .i64 l, .int .i64 cl] TEx)
  have HLV := Lib.hid (hL V (hk2.tabS hT) (hk2.tabP hP))
  have HTS := Lib.hid (hk2.tabS hT); have HTP := Lib.hid (hk2.tabP hP); have HB2 := Lib.hid hb2; have HKW := Lib.hid hk2
  have HEX := Lib.hid ((hex.keep hk2 fun _ _ e => e).mono (S' := fun _ => True) fun _ _ => trivial); have HF := Lib.hid hfit
  clear hL hT hP hex hfit hb2 hk2 hs2
  go_enter Tryz.func3, Tryz.ntmps3
  go_upto_region 1 with fail
  rw [← hV, ← hB2]
  clear hV hB2
  go_wp2_with fail
  go_at_call 8
  refine HLV.out.mono ?_
  rintro e w1 ⟨rfl, hk1⟩
  have HK1 := Lib.hid hk1
  have HLI := Lib.hid (light_any x w1 _ _ (HEX.out.keep hk1 fun _ _ e => e))
  obtain ⟨n0, n1, n2, n3, n4, n5, n6, -⟩ := blk7 (hk1.blk HB2.out)
  clear hk1
  by_cases hl : wgt 0 x ≤ 2000
  case neg =>
    rw [decide_eq_false hl] at HLI
    clear hl
    go_wp2_with fail
    go_at_call 9
    refine HLI.out.mono ?_
    rintro e w2 ⟨rfl, hk2⟩
    have HKE := Lib.hid ((HKW.out.trans HK1.out).trans hk2)
    clear hk2
    go_wp2_with fail
    go_ret
    exact ⟨rfl, HKE.out⟩
  rw [decide_eq_true hl] at HLI
  have hlo := light_of x 0 (by omega)
  have HSZ := Lib.hid (show gSize x ≤ 2000 by omega)
  clear hl hlo
  go_wp2_with fail
  go_at_call 9
  refine HLI.out.mono ?_
  rintro e w2 ⟨rfl, hk2⟩
  have hk12 := HK1.out.trans hk2
  have HK2 := Lib.hid (HKW.out.trans hk12)
  have HT2 := Lib.hid (hk12.tabS HTS.out); have HB22 := Lib.hid (hk12.blk HB2.out); have HEX2 := Lib.hid (HEX.out.keep hk12 fun _ _ e => e)
  have HTX := Lib.hid (exprText_any x _ _ w2 HEX2.out HT2.out (hk12.tabP HTP.out) HF.out (by have := HSZ.out; omega) fun hm => by
    have h1 := text_len (gSize x) x (Nat.le_refl _) hm HF.out
    obtain ⟨e1, e2, e3⟩ := tks_all (gSize x) x (Nat.le_refl _) hm HF.out
    refine ⟨by have := HSZ.out; omega, ?_⟩
    rw [← e1, put_join _ e2 e3]
    simp)
  clear n0 n1 n2 n3 n4 n5 n6 hk2 hk12 HLI HLV HK1
  obtain ⟨n0, n1, n2, n3, n4, n5, n6, -⟩ := blk7 HB22.out
  by_cases hm : mayG x = true
  case neg =>
    rw [if_neg hm] at HTX
    clear hm
    go_wp2_with fail
    go_at_call 10
    refine HTX.out.mono ?_
    rintro e w3 ⟨rfl, hk3⟩
    have HXE := Lib.hid (expr_empty w3 (hk3.tabS HT2.out))
    have HK3 := Lib.hid (HK2.out.trans hk3)
    clear hk3 n0 n1 n2 n3 n4 n5 n6
    go_wp2_with fail
    go_at_call 11
    refine HXE.out.mono ?_
    rintro e w4 ⟨⟨li, co, rfl⟩, hk4⟩
    obtain ⟨V5, B6, hV5, hB6, hb6, hk5, hs5⟩ := fresh_block w4 (.cells #[.int .i64 0, .int .i64 0, .int .i64 0, .string ⟨#[]⟩, .slice none 0 0, .int .i64 0, .int .i64 0] TEx)
    obtain ⟨V6, B7, hV6, hB7, hb7, hk6, hs6⟩ := fresh_block V5 (.cells #[.int .i64 9, .int .i64 li, .int .i64 co] TFa)
    have HKE := Lib.hid (((HK3.out.trans hk4).trans hk5).trans hk6)
    obtain ⟨c0, c1, c2, -⟩ := blk3f hb7
    have h67 : B6 + 1 = B7 := by omega
    clear hk4 hb6 hk5 hs5 hk6 hs6 hb7
    go_upto_region 7 with fail
    rw [← hV5, ← hB6, ← hV6, h67]
    clear hV5 hB6 hV6 hB7 h67
    go_wp2_with fail
    go_ret
    exact ⟨rfl, HKE.out⟩
  rw [if_pos hm] at HTX
  obtain ⟨T, hTT⟩ : ∃ T, trimL (putL (tokG x)) = T := ⟨_, rfl⟩
  have hxp := fun (i : Nat) (hi : i ≤ 100) (W : World) (hW : TabS W) => expr_of x hm HF.out HSZ.out i hi W hW
  have hne : T ≠ [] := by
    obtain ⟨e1, e2, e3⟩ := tks_all (gSize x) x (Nat.le_refl _) hm HF.out
    rw [← hTT, text_join hm HF.out]
    match tksG x, e2, e3 with
    | [t], e2, _ => exact fun e => by obtain ⟨c, r, h, -⟩ := (e2 t (by simp)).1.ne; rw [show t.text = [] from e] at h; cases h
    | t :: u :: ts, _, _ => exact fun e => by simp [joinT] at e
  rw [hTT] at HTX hxp
  obtain ⟨Z, hZ⟩ : ∃ Z : Nat → ByteArray, ∀ i, (⟨(parT i T).toArray⟩ : ByteArray) = Z i := ⟨_, fun _ => rfl⟩
  have hcat : ∀ i, (⟨#[40]⟩ : ByteArray) ++ Z i ++ ⟨#[32, 41]⟩ = Z (i + 1) := fun i => by rw [← hZ, ← hZ]; exact cat_par T i
  have hz0 : Z 0 ≠ ⟨#[]⟩ := by
    rw [← hZ]
    intro e
    have := congrArg (fun b : ByteArray => b.data.toList) e
    exact hne (by simpa [parT] using this)
  have hz1 : ((Z 0).toList == ([] : List UInt8)) = false := by
    rw [beq_eq_false_iff_ne, ← hZ]
    intro e
    exact hne (by simpa [parT] using e)
  have hzs : ∀ i, i ≤ 100 → (Z i).size ≤ 100000 := fun i hi => by
    rw [← hZ]
    have h1 := text_len (gSize x) x (Nat.le_refl _) hm HF.out
    have h2 := trim_len (putL (tokG x))
    rw [hTT] at h2
    have h3 := par_len T i
    have h4 := HSZ.out
    simp [ByteArray.size]
    omega
  simp only [hZ] at hxp
  rw [show (⟨T.toArray⟩ : ByteArray) = Z 0 from hZ 0] at HTX
  have HXP := Lib.hid hxp; have HCAT := Lib.hid hcat; have HZS := Lib.hid hzs
  clear hxp hcat hzs hTT hne hZ hm
  go_wp2_with fail
  go_at_call 10
  refine HTX.out.mono ?_
  rintro e w3 ⟨rfl, hk3⟩
  have HXE := Lib.hid (HXP.out 0 (by decide) w3 (hk3.tabS HT2.out))
  have HK3 := Lib.hid (HK2.out.trans hk3); have HT3 := Lib.hid (hk3.tabS HT2.out); have HB23 := Lib.hid (hk3.blk HB22.out); have HEX3 := Lib.hid (HEX2.out.keep hk3 fun _ _ e => e)
  clear hk3 n0 n1 n2 n3 n4 n5 n6
  go_wp2_with fail
  go_at_call 11
  refine HXE.out.mono ?_
  rintro e w4 ⟨⟨vs, er, rfl, y, hey, her⟩, hk4⟩
  obtain ⟨xk, xo, xn, xS, xp, xm, xc, xl, xcl, rfl⟩ := ex_form hey
  obtain ⟨V5, B6, hV5, hB6, hb6, hk5, hs5⟩ := fresh_block w4 (.cells #[.int .i64 xk, .int .i64 xo, .int .i64 xn, .string xS, .slice xp xm xc, .int .i64 xl, .int .i64 xcl] TEx)
  obtain ⟨V6, B7, hV6, hB7, hb7, hk6, hs6⟩ := fresh_block V5 (.cells #[.int .i64 er, .int .i64 0, .int .i64 0] TFa)
  have hk46 := (hk4.trans hk5).trans hk6
  have HK6 := Lib.hid (HK3.out.trans hk46); have HT6 := Lib.hid (hk46.tabS HT3.out); have HB26 := Lib.hid (hk46.blk HB23.out); have HEX6 := Lib.hid (HEX3.out.keep hk46 fun _ _ e => e)
  have HB6 := Lib.hid (hk6.blk hb6); have HB7 := Lib.hid hb7
  have HY6 := Lib.hid (((hey.keep (hk5.trans hk6) fun _ _ e => e).toG).mono (S' := fun _ => True) fun _ _ => trivial)
  obtain ⟨c0, c1, c2, -⟩ := blk3f hb7
  have h67 : B6 + 1 = B7 := by omega
  clear hk4 hb6 hk5 hs5 hk6 hs6 hb7 hey hk46
  rcases her with rfl | ⟨rfl, hly⟩
  · go_upto_region 7 with fail
    rw [← hV5, ← hB6, ← hV6, h67]
    clear hV5 hB6 hV6 hB7 h67
    go_wp2_with fail
    go_ret
    exact ⟨rfl, HK6.out⟩
  have HLY := Lib.hid hly.1; have HYS := Lib.hid (show gSize (toG y) ≤ 2000 by rw [toG_size, hly.2.1]; exact HSZ.out)
  clear hly
  go_upto_region 7 with fail
  rw [← hV5, ← hB6, ← hV6, h67]
  clear hV5 hB6 hV6 hB7 h67
  obtain ⟨rp1, rp2⟩ := pick_range (k := n) (n := 20) (by decide)
  obtain ⟨q, hq⟩ : ∃ q : Nat, (q : Int) = pick n 20 := ⟨(pick n 20).toNat, by omega⟩
  have HPK := Lib.hid (pick_any V6 n 20 (by decide) (by decide))
  rw [← hq] at rp1 rp2 HPK
  clear hq
  go_wp2_with fail
  go_at_call 12
  refine HPK.out.mono ?_
  rintro e w7 ⟨rfl, rfl⟩
  clear HPK hz0 hz1
  clear c0 c1 c2
  have HQ := Lib.hid (And.intro rp1 rp2)
  clear rp1 rp2
  go_wp2_with fail
  go_loopw [5, 8] (fun v5 v8 wr => ParR Z q w7 v5 v8 wr) (fun _ v8 _ => (intOf v8 + 1).toNat)
  case atStart => exact ⟨0, rfl, by simp, by omega, KeepBut.refl _ _⟩
  case round =>
    obtain ⟨i, rfl, rfl, hi, hk⟩ := hrel
    have HK := Lib.hid hk; have HI := Lib.hid hi
    clear hk hi
    by_cases hge : (0 : Int) ≤ (q : Int) - i
    · have hW : IntKind.i64.wrap ((q : Int) - i - 1) = (q : Int) - i - 1 := IntWalk.i64_in _ (by have := HQ.out; omega)
      have hzi := HZS.out i (by have := HQ.out; omega)
      have hz1 : ((⟨#[40]⟩ : ByteArray) ++ Z i).size = (Z i).size + 1 := by rw [ByteArray.size_append, show (⟨#[40]⟩ : ByteArray).size = 1 from rfl]; exact Nat.add_comm _ _
      go_wp2_with fail
      refine ⟨⟨i + 1, ?_, ?_, ?_, HK.out⟩, ?_⟩
      · rw [← HCAT.out i]
      · congr 1; omega
      · omega
      · simp only [intOf]; omega
    · have hi := HI.out
      have HXE := Lib.hid (HXP.out i (by have := HQ.out; omega) wr (HK.out.tabS HT6.out))
      clear hi
      go_wp2_with fail
      go_at_call 11
      refine HXE.out.mono ?_
      rintro e w8 ⟨⟨us, er, rfl, z, hez, her⟩, hk8⟩
      obtain ⟨uk, uo, un, uS, up, um, uc, ul, ucl, rfl⟩ := ex_form hez
      obtain ⟨V9, B9, hV9, hB9, hb9, hk9, hs9⟩ := fresh_block w8 (.cells #[.int .i64 uk, .int .i64 uo, .int .i64 un, .string uS, .slice up um uc, .int .i64 ul, .int .i64 ucl] TEx)
      obtain ⟨VA, BA, hVA, hBA, hba, hka, hsa⟩ := fresh_block V9 (.cells #[.int .i64 er, .int .i64 0, .int .i64 0] TFa)
      have hkz := HK.out.trans ((hk8.trans hk9).trans hka)
      have HKA := Lib.hid (HK6.out.trans hkz); have HB2A := Lib.hid (hkz.blk HB26.out); have HEXA := Lib.hid (HEX6.out.keep hkz fun _ _ e => e)
      have HB6A := Lib.hid (hkz.blk HB6.out); have HYA := Lib.hid (HY6.out.keep hkz fun _ _ e => e)
      have HB9A := Lib.hid (hka.blk hb9)
      have HZA := Lib.hid (((hez.keep (hk9.trans hka) fun _ _ e => e).toG).mono (S' := fun _ => True) fun _ _ => trivial)
      obtain ⟨c0, c1, c2, -⟩ := blk3f hba
      have h9A : B9 + 1 = BA := by omega
      clear hk8 hb9 hk9 hs9 hka hsa hba hez hkz
      rcases her with rfl | ⟨rfl, hlz⟩
      · go_upto_region 14 with fail
        rw [← hV9, ← hB9, ← hVA, h9A]
        clear hV9 hB9 hVA hBA h9A
        go_wp2_with fail
        go_ret
        exact ⟨rfl, HKA.out⟩
      have HLZ := Lib.hid hlz.1; have HZZ := Lib.hid (show gSize (toG z) ≤ 2000 by rw [toG_size, hlz.2.1]; exact HSZ.out)
      clear hlz
      go_upto_region 14 with fail
      rw [← hV9, ← hB9, ← hVA, h9A]
      clear hV9 hB9 hVA hBA h9A
      have HSX := Lib.hid (saysG_any 2000 (toG y) HYS.out (by decide) x VA _ _ _ _ HYA.out HEXA.out)
      rw [HLY.out] at HSX
      obtain ⟨a0, a1, a2, a3, a4, a5, a6, -⟩ := blk7 HB2A.out
      obtain ⟨b0, b1, b2, b3, b4, b5, b6, -⟩ := blk7 HB6A.out
      go_wp2_with fail
      go_at_call 13
      refine HSX.out.mono ?_
      rintro e wB ⟨rfl, hkB⟩
      have HKB := Lib.hid (HKA.out.trans hkB)
      have HSZZ := Lib.hid (saysG_any 2000 (toG z) HZZ.out (by decide) x wB _ _ _ _ (HZA.out.keep hkB fun _ _ e => e) (HEXA.out.keep hkB fun _ _ e => e))
      rw [HLZ.out] at HSZZ
      have hb2 := hkB.blk HB2A.out; have hb9 := hkB.blk HB9A.out
      clear a0 a1 a2 a3 a4 a5 a6 b0 b1 b2 b3 b4 b5 b6 c0 c1 c2
      obtain ⟨a0, a1, a2, a3, a4, a5, a6, -⟩ := blk7 hb2
      obtain ⟨b0, b1, b2, b3, b4, b5, b6, -⟩ := blk7 hb9
      clear hkB hb2 hb9
      go_wp2_with fail
      go_at_call 13
      refine HSZZ.out.mono ?_
      rintro e wC ⟨rfl, hkC⟩
      have HKC := Lib.hid (HKB.out.trans hkC)
      clear hkC
      go_wp2_with fail
      go_ret
      exact ⟨rfl, HKC.out⟩

end Go.Proofs.YtomlffobbkcmdaaGreatDoor

/-
  Package parse: takes, words, kinds, of.
-/
namespace Go.Proofs.YtomlffobbkcmdaaGreatDoor
open Go Go.RowKit Own

set_option maxHeartbeats 4000000 in
theorem takes_any (op : Int) (w : World) : Calls Tryz.prog 113 #[.int .i64 op] w fun e w' => e = .returned (.bool (op == 2 || op == 4)) ∧ w' = w := by
  by_cases h2 : op = 2
  · subst h2
    go_enter Tryz.func113, Tryz.ntmps113
    go_wp2_with fail
    go_ret
    exact ⟨rfl, rfl⟩
  · have h2b : (op == 2) = false := by simpa using h2
    rw [h2b, Bool.false_or]
    go_enter Tryz.func113, Tryz.ntmps113
    go_wp2_with fail
    go_ret
    exact ⟨rfl, rfl⟩

def opsV : Array Value := #[.string ⟨#[]⟩, .string ⟨#[112, 117, 115, 104]⟩, .string ⟨#[112, 111, 112]⟩, .string ⟨#[101, 110, 113]⟩, .string ⟨#[100, 101, 113]⟩, .string ⟨#[97, 100, 100]⟩, .string ⟨#[114, 101, 109, 111, 118, 101]⟩, .string ⟨#[104, 97, 115]⟩]
set_option maxHeartbeats 4000000 in
theorem words_any (w : World) : Calls Tryz.prog 126 #[] w fun e w' => e = .returned (.agg opsV) ∧ KeepBut (fun _ => False) w w' := by
  obtain ⟨V, B, hV, hB, hb, hk, hs⟩ := fresh_block w (.cells opsV 173)
  have HK := Lib.hid hk
  unfold opsV at hV hb ⊢
  clear hk hs
  go_enter Tryz.func126, Tryz.ntmps126
  go_wp2_with fail
  rw [← hV, ← hB]
  refine bodyPost_ret (v := .agg opsV) ?_ rfl ⟨rfl, HK.out⟩
  unfold opsV
  simp [results, Tryz.results126, go_sem, World.cell?, hb]
def kindsV : Array Value := #[.string ⟨#[]⟩, .string ⟨#[115, 116, 97, 99, 107]⟩, .string ⟨#[113, 117, 101, 117, 101]⟩, .string ⟨#[115, 101, 116]⟩]
set_option maxHeartbeats 4000000 in
theorem kinds_any (w : World) : Calls Tryz.prog 41 #[] w fun e w' => e = .returned (.agg kindsV) ∧ KeepBut (fun _ => False) w w' := by
  obtain ⟨V, B, hV, hB, hb, hk, hs⟩ := fresh_block w (.cells kindsV 91)
  have HK := Lib.hid hk
  unfold kindsV at hV hb ⊢
  clear hk hs
  go_enter Tryz.func41, Tryz.ntmps41
  go_wp2_with fail
  rw [← hV, ← hB]
  refine bodyPost_ret (v := .agg kindsV) ?_ rfl ⟨rfl, HK.out⟩
  unfold kindsV
  simp [results, Tryz.results41, go_sem, World.cell?, hb]

theorem ba_inj {a b : List UInt8} (h : (⟨a.toArray⟩ : ByteArray) = ⟨b.toArray⟩) : a = b := by
  have := congrArg (fun x : ByteArray => x.data.toList) h
  simpa using this
theorem idxFrom_list (s : List UInt8) : ∀ (L : List (List UInt8)) (i : Nat), Lib.idxFromS (L.map fun l => (⟨l.toArray⟩ : ByteArray)) ⟨s.toArray⟩ i = if L.contains s = true then ((i + L.idxOf s : Nat) : Int) else -1
  | [], i => by simp [Lib.idxFromS]
  | l :: L, i => by
    rw [List.map_cons]
    unfold Lib.idxFromS
    by_cases h : l = s
    · subst h
      simp
    · have h1 : ¬ (⟨l.toArray⟩ : ByteArray) = ⟨s.toArray⟩ := fun e => h (ba_inj e)
      have h2 : ¬ s = l := fun e => h e.symm
      rw [if_neg h1, idxFrom_list s L (i + 1)]
      simp only [List.contains_cons, List.idxOf_cons, Bool.or_eq_true, beq_iff_eq]
      by_cases hc : L.contains s = true
      · rw [if_pos hc, if_pos (.inr hc), show (l == s) = false by simpa using h]
        simp only [cond_false]
        omega
      · rw [if_neg hc, if_neg (fun e => e.elim h2 hc)]

/-- a text's number in a table -/
theorem of_any (L : List (List UInt8)) (hlen : L.length ≤ 1000) (g o c : Nat) (w : World) (hc : ∀ j (h : j < L.length), w.cell? ⟨g, o + j, none⟩ = some (.string ⟨L[j].toArray⟩)) (s : List UInt8) :
    Calls Tryz.prog 78 #[.slice (some ⟨g, o, none⟩) L.length c, .string ⟨s.toArray⟩] w fun e w' => e = .returned (.int .i64 (ofL L s)) ∧ w' = w := by
  have hI := Tryz.slices_Index_string g o L.length c (L.map fun l => (⟨l.toArray⟩ : ByteArray)) ⟨s.toArray⟩ w (by simp) (by omega) (fun j hj => by
    have hj' : j < L.length := by simpa using hj
    rw [hc j hj']
    simp [List.getD, hj'])
  rw [List.take_of_length_le (by simp), show Lib.idxOfS (L.map fun l => (⟨l.toArray⟩ : ByteArray)) ⟨s.toArray⟩ = _ from idxFrom_list s L 0, Nat.zero_add] at hI
  clear hc
  unfold ofL
  by_cases h0 : s = []
  · subst h0
    rw [if_pos rfl]
    obtain ⟨k, hk⟩ : ∃ k : Int, (if L.contains [] = true then ((L.idxOf ([] : List UInt8) : Nat) : Int) else -1) = k := ⟨_, rfl⟩
    rw [hk] at hI
    have HI := Lib.hid hI
    clear hI hk
    by_cases hp : 0 < k
    · go_enter Tryz.func78, Tryz.ntmps78
      go_wp2_with (go_at_call 102; refine HI.out.mono ?_; rintro e w' ⟨rfl, rfl⟩)
      go_ret
      exact ⟨rfl, rfl⟩
    · go_enter Tryz.func78, Tryz.ntmps78
      go_wp2_with (go_at_call 102; refine HI.out.mono ?_; rintro e w' ⟨rfl, rfl⟩)
      go_ret
      exact ⟨rfl, rfl⟩
  · rw [if_neg h0]
    by_cases hh : L.contains s = true
    · rw [if_pos hh] at hI ⊢
      obtain ⟨k, hk⟩ : ∃ k, L.idxOf s = k := ⟨_, rfl⟩
      rw [hk] at hI ⊢
      have HI := Lib.hid hI
      clear hI hk hh
      by_cases hp : 0 < k
      · have hpi : (0 : Int) < k := by omega
        have he : s.isEmpty = false := by
          cases s with
          | nil => exact absurd rfl h0
          | cons _ _ => rfl
        go_enter Tryz.func78, Tryz.ntmps78
        go_wp2_with (go_at_call 102; refine HI.out.mono ?_; rintro e w' ⟨rfl, rfl⟩)
        go_ret
        exact ⟨rfl, rfl⟩
      · have hpi : k = 0 := by omega
        subst hpi
        go_enter Tryz.func78, Tryz.ntmps78
        go_wp2_with (go_at_call 102; refine HI.out.mono ?_; rintro e w' ⟨rfl, rfl⟩)
        go_ret
        exact ⟨rfl, rfl⟩
    · rw [if_neg hh] at hI ⊢
      have HI := Lib.hid hI
      clear hI hh
      go_enter Tryz.func78, Tryz.ntmps78
      go_wp2_with (go_at_call 102; refine HI.out.mono ?_; rintro e w' ⟨rfl, rfl⟩)
      go_ret
      exact ⟨rfl, rfl⟩

end Go.Proofs.YtomlffobbkcmdaaGreatDoor
