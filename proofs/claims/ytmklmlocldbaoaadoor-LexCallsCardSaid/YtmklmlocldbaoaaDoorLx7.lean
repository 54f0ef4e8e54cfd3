/-
  lex: All, whole; rows of tokens; the examples.
-/
import Derived.Test.YtmklmlocldbaoaaDoorLx6
import Derived.Laws.StructEq
import Derived.BigQuiet
import Derived.Deep.QuietTactic
namespace Go.Proofs.YtmklmlocldbaoaaDoor
open Go Go.RowKit Own

theorem cellsT_at : ∀ (l : List Item) (i k : Nat) (h : i < l.length), k < 5 → (cellsT l)[i * 5 + k]? = (tokC l[i])[k]?
  | x :: l, 0, k, _, hk => by
    show (tokC x ++ cellsT l)[0 * 5 + k]? = _
    rw [Nat.zero_mul, Nat.zero_add, List.getElem?_append_left (by simpa [tokC] using hk)]
    rfl
  | x :: l, i + 1, k, h, hk => by
    show (tokC x ++ cellsT l)[(i + 1) * 5 + k]? = _
    rw [List.getElem?_append_right (by simp [tokC]; omega)]
    have e : (i + 1) * 5 + k - (tokC x).length = i * 5 + k := by simp [tokC]; omega
    rw [e, cellsT_at l i k (by simpa using h) hk]
    rfl

/-- tokens are read at p -/
def RowT (w : World) (p : Option Addr) (its : List Item) : Prop := ∀ i (h : i < its.length), ∃ g, p = some ⟨g, 0, none⟩ ∧
  w.cell? ⟨g, i * 5, none⟩ = some (.int .i64 (its[i].tok.kind : Nat)) ∧ w.cell? ⟨g, i * 5 + 1, none⟩ = some (strV its[i].tok.text) ∧ w.cell? ⟨g, i * 5 + 2, none⟩ = some (.int .i64 (its[i].tok.num : Nat)) ∧
  w.cell? ⟨g, i * 5 + 3, none⟩ = some (.int .i64 (its[i].line : Nat)) ∧ w.cell? ⟨g, i * 5 + 4, none⟩ = some (.int .i64 (its[i].col : Nat))

theorem RowT.stay {w w' : World} {p : Option Addr} {its : List Item} (h : RowT w p its) (k : KeepBut (fun _ => False) w w') : RowT w' p its := fun i hi => by
  obtain ⟨g, h1, h2, h3, h4, h5, h6⟩ := h i hi
  exact ⟨g, h1, k.stay h2, k.stay h3, k.stay h4, k.stay h5, k.stay h6⟩

theorem RowT.of_owns {w : World} {base : Nat} {v : Value} {its : List Item} (h : w.ownsRow base 30 5 v its.length (cellsT its)) :
    ∃ p cap, v = .slice p its.length cap ∧ RowT w p its ∧ ∀ a, p = some a → base ≤ a.block ∧ a.block < w.heap.size := by
  rcases h.2 with ⟨rfl, h0⟩ | ⟨g, cap, cur, rfl, hb, hg, h1, h2, h3, h4⟩
  · exact ⟨none, 0, by rw [h0], fun i hi => absurd hi (by omega), fun a e => by cases e⟩
  · refine ⟨some ⟨g, 0, none⟩, cap, rfl, fun i hi => ⟨g, rfl, ?_⟩, fun a e => by cases e; exact ⟨hb, heap_lt hg⟩⟩
    have hc : ∀ k u, k < 5 → (tokC its[i])[k]? = some u → w.cell? ⟨g, i * 5 + k, none⟩ = some u := fun k u hk hu => by
      refine blk_cell hg ?_
      have e := cellsT_at its i k hi hk
      rw [hu, ← h4, List.getElem?_take] at e
      split at e
      · simpa using e
      · cases e
    exact ⟨hc 0 _ (by decide) rfl, hc 1 _ (by decide) rfl, hc 2 _ (by decide) rfl, hc 3 _ (by decide) rfl, hc 4 _ (by decide) rfl⟩

theorem blk3 {w : World} {B : Nat} {a b c : Value} {T : TypeId} (h : w.heap[B]? = some (.cells #[a, b, c] T (0, 0))) :
    w.cell? ⟨B, 0, none⟩ = some a ∧ w.cell? ⟨B, 1, none⟩ = some b ∧ w.cell? ⟨B, 2, none⟩ = some c ∧ w.frozen? ⟨B, 0, none⟩ = false ∧ w.frozen? ⟨B, 1, none⟩ = false ∧ w.frozen? ⟨B, 2, none⟩ = false := by
  simp [World.cell?, World.frozen?, h]

set_option maxHeartbeats 4000000 in
theorem all_any (s : ByteArray) (w : World) (hT : TabS w) : Calls Tryd.prog 10 #[.string s] w fun e w' => AllDone w e w' (allT s.data.toList).1 (allT s.data.toList).2 := by
  by_cases h : s.size ≤ 8192
  · exact (callsIn_wide (n := 6)).1 (all_in s w hT h)
  · have hi : (8192 : Int) < (s.size : Int) := by omega
    have hl : s.data.toList.length = s.size := by simp
    have HAL := Lib.hid (show allT s.data.toList = ([], ⟨3, 0, 0⟩) by unfold allT; rw [if_pos (by omega)])
    obtain ⟨W1, b2, hW1, hb2, hB2, hk1, hs1⟩ := fresh_block w (.cells #[.slice none 0 0] 23)
    obtain ⟨W2, b3, hW2, hb3, hB3, hk2, hs2⟩ := fresh_block W1 (.cells #[.int .i64 0, .int .i64 0, .int .i64 0] 26)
    have x2 : Boxed W2 b2 23 (.slice none 0 0) := hk2.blk hB2
    have e2 := x2.cell; have f2 := x2.frozen
    have hN : b2 + 1 = b3 := by omega
    have HN := Lib.hid (show w.heap.size = b2 ∧ b2 + 1 = b3 by omega)
    have HK := Lib.hid (hk1.trans hk2)
    have hA := setCell_same x2
    obtain ⟨e30, e31, e32, e3f0, e3f1, e3f2⟩ := blk3 hB3
    have h23 : b3 ≠ b2 := by omega
    obtain ⟨Wb, hWb, hb3', hBK⟩ := put3 hB3 (.int .i64 3) (.int .i64 0) (.int .i64 0)
    have c2 := (show Boxed Wb b2 _ _ from KeepBut.blkE hBK x2 (by omega)).cell
    obtain ⟨c30, c31, c32, -⟩ := blk3 hb3'
    have HBK := Lib.hid hBK
    have HA := Lib.hid hA; have HWb := Lib.hid hWb
    clear hB2 hB3 hk1 hk2 hs1 hs2 h hb3' hBK x2 hl hA hWb
    go_enter Tryd.func10, Tryd.ntmps10
    go_upto_region 2 with fail
    rw [← hW1, ← hb2, ← hW2, hN]
    clear hW1 hb2 hW2 hb3 hN
    go_wp2
    rw [HA.out, ← HWb.out]
    refine bodyPost_ret (v := .tuple #[.slice none 0 0, .agg #[.int .i64 3, .int .i64 0, .int .i64 0]]) (by simp [results, Tryd.results10, go_sem, c2, c30, c31, c32]) rfl ?_
    rw [HAL.out]
    exact ⟨_, rfl, World.ownsRow_nil _ _ _ _, HK.out.new HBK.out fun k e => by have h2 : k = b3 := e; have := HN.out; omega⟩

/-- All at a text that is known -/
theorem all_known {s : ByteArray} {its : List Item} {f : Fault} (h : allT s.data.toList = (its, f)) (w : World) (hT : TabS w) :
    Calls Tryd.prog 10 #[.string s] w fun e w' => ∃ p cap, e = .returned (.tuple #[.slice p its.length cap, .agg #[.int .i64 f.err, .int .i64 f.line, .int .i64 f.col]]) ∧ RowT w' p its ∧ (∀ a, p = some a → w.heap.size ≤ a.block ∧ a.block < w'.heap.size) ∧ KeepBut (fun _ => False) w w' := by
  refine (all_any s w hT).mono ?_
  rintro e w' ⟨v, rfl, hrow, hk⟩
  rw [h] at hrow ⊢
  obtain ⟨p, cap, rfl, h1, h2⟩ := RowT.of_owns hrow
  exact ⟨p, cap, rfl, h1, h2, hk⟩

theorem eqF (a b c x y z : Int) (w : World) : (Op.equalIn 10000 26 (.agg #[.int .i64 a, .int .i64 b, .int .i64 c]) (.agg #[.int .i64 x, .int .i64 y, .int .i64 z])).run Tryd.prog w = .ok (a == x && (b == y && c == z)) w := by
  have u3 := Tryd.underlying3; have a3 := Tryd.isAgg3; have z3 := Tryd.sizeOf3
  have u4 := Tryd.underlying24; have a4 := Tryd.isAgg24; have z4 := Tryd.sizeOf24
  have hS : Tryd.prog.underlying 26 = some (.struct (Tryd.prog.fieldsOf 26)) := by kernel_rfl
  rw [show (10000 : Nat) = 9999 + 1 from rfl, run_equalIn_agg w 9999 26 _ _ hS (by kernel_rfl)]
  simp only [Program.fieldsOf, Tryd.underlying26]
  go_simp
  by_cases h1 : a = x <;> by_cases h2 : b = y <;> by_cases h3 : c = z <;> simp [h1, h2, h3]
theorem eqT (k n l c k' n' l' c' : Int) (s s' : ByteArray) (w : World) : (Op.equalIn 10000 30 (.agg #[.int .i64 k, .string s, .int .i64 n, .int .i64 l, .int .i64 c]) (.agg #[.int .i64 k', .string s', .int .i64 n', .int .i64 l', .int .i64 c'])).run Tryd.prog w = .ok (k == k' && (s.toList == s'.toList && (n == n' && (l == l' && c == c')))) w := by
  have u3 := Tryd.underlying3; have a3 := Tryd.isAgg3; have z3 := Tryd.sizeOf3
  have u2 := Tryd.underlying2; have a2 := Tryd.isAgg2; have z2 := Tryd.sizeOf2
  have u9 := Tryd.underlying9; have a9 := Tryd.isAgg9; have z9 := Tryd.sizeOf9
  have hS : Tryd.prog.underlying 30 = some (.struct (Tryd.prog.fieldsOf 30)) := by kernel_rfl
  rw [show (10000 : Nat) = 9999 + 1 from rfl, run_equalIn_agg w 9999 30 _ _ hS (by kernel_rfl)]
  simp only [Program.fieldsOf, Tryd.underlying30]
  go_simp
  by_cases h1 : k = k' <;> by_cases h2 : s.toList = s'.toList <;> by_cases h3 : n = n' <;> by_cases h4 : l = l' <;> by_cases h5 : c = c' <;> simp [h1, h2, h3, h4, h5]
theorem guardF : Tryd.prog.eqGuardType Tryd.prog.depth 26 = false := by kernel_rfl
theorem guardT : Tryd.prog.eqGuardType Tryd.prog.depth 30 = false := by kernel_rfl

def itsLives : List Item := [⟨⟨2, [97, 49], 0⟩, 1, 1, 0⟩, ⟨⟨4, [60, 61], 0⟩, 1, 4, 0⟩, ⟨⟨3, [50], 2⟩, 1, 6, 0⟩]

set_option maxRecDepth 100000 in
set_option maxHeartbeats 8000000 in
theorem lives_any (w : World) (hT : TabS w) : Calls Tryd.prog 9 #[] w fun e w' => e = .returned (.bool true) ∧ KeepBut (fun _ => False) w w' := by
  have hA1 := Lib.hid (all_known (s := ⟨#[97, 49, 32, 60, 61, 50]⟩) (its := itsLives) (f := ⟨0, 0, 0⟩) (by kernel_rfl))
  have hA2 := Lib.hid (all_known (s := ⟨#[48, 48, 55]⟩) (its := []) (f := ⟨9, 1, 1⟩) (by kernel_rfl))
  have hA3 := Lib.hid (all_known (s := ⟨#[57, 50, 50, 51, 51, 55, 50, 48, 51, 54, 56, 53, 52, 55, 55, 53, 56, 48, 56]⟩) (its := []) (f := ⟨3, 1, 1⟩) (by kernel_rfl))
  have hA4 := Lib.hid (all_known (s := ⟨#[51, 120]⟩) (its := []) (f := ⟨9, 1, 2⟩) (by kernel_rfl))
  have HT := Lib.hid hT
  clear hT
  go_enter Tryd.func9, Tryd.ntmps9
  go_upto_region 2 with (go_at_call 10; refine (hA1.out _ HT.out).mono ?_; rintro e w1 ⟨p1, cap1, rfl, hr1, -, hk1⟩)
  obtain ⟨V1, B1, hV1, hB1, hb1, hkb1, -⟩ := fresh_block w1 (.cells #[.int .i64 0, .int .i64 0, .int .i64 0] 26)
  rw [← hV1, ← hB1]
  have HK1 := Lib.hid ((hk1.trans hkb1))
  have HT1 := Lib.hid (HK1.out.tabS HT.out)
  have HB1 := Lib.hid hb1
  have hst := hk1.trans hkb1
  have HR := Lib.hid (hr1.stay hkb1)
  clear hV1 hB1 hb1 hkb1 hk1 hr1 hst
  go_upto_region 3 with (go_at_call 10; refine (hA2.out _ HT1.out).mono ?_; rintro e w2 ⟨p2, cap2, rfl, hr2, -, hk2⟩)
  obtain ⟨V2, B2, hV2, hB2, hb2, hkb2, -⟩ := fresh_block w2 (.cells #[.int .i64 9, .int .i64 1, .int .i64 1] 26)
  rw [← hV2, ← hB2]
  have HK2 := Lib.hid (HK1.out.trans (hk2.trans hkb2))
  have HT2 := Lib.hid (HK2.out.tabS HT.out)
  have HB2 := Lib.hid hb2
  have hst := hk2.trans hkb2
  have HB1 := Lib.hid (hst.blk HB1.out)
  have HR := Lib.hid (HR.out.stay hst)
  clear hV2 hB2 hb2 hkb2 hk2 hr2 hst
  go_upto_region 4 with (go_at_call 10; refine (hA3.out _ HT2.out).mono ?_; rintro e w3 ⟨p3, cap3, rfl, hr3, -, hk3⟩)
  obtain ⟨V3, B3, hV3, hB3, hb3, hkb3, -⟩ := fresh_block w3 (.cells #[.int .i64 3, .int .i64 1, .int .i64 1] 26)
  rw [← hV3, ← hB3]
  have HK3 := Lib.hid (HK2.out.trans (hk3.trans hkb3))
  have HT3 := Lib.hid (HK3.out.tabS HT.out)
  have HB3 := Lib.hid hb3
  have hst := hk3.trans hkb3
  have HB1 := Lib.hid (hst.blk HB1.out)
  have HB2 := Lib.hid (hst.blk HB2.out)
  have HR := Lib.hid (HR.out.stay hst)
  clear hV3 hB3 hb3 hkb3 hk3 hr3 hst
  go_upto_region 5 with (go_at_call 10; refine (hA4.out _ HT3.out).mono ?_; rintro e w4 ⟨p4, cap4, rfl, hr4, -, hk4⟩)
  obtain ⟨V4, B4, hV4, hB4, hb4, hkb4, -⟩ := fresh_block w4 (.cells #[.int .i64 9, .int .i64 1, .int .i64 2] 26)
  rw [← hV4, ← hB4]
  have HK4 := Lib.hid (HK3.out.trans (hk4.trans hkb4))
  have HT4 := Lib.hid (HK4.out.tabS HT.out)
  have HB4 := Lib.hid hb4
  have hst := hk4.trans hkb4
  have HB1 := Lib.hid (hst.blk HB1.out)
  have HB2 := Lib.hid (hst.blk HB2.out)
  have HB3 := Lib.hid (hst.blk HB3.out)
  have HR := Lib.hid (HR.out.stay hst)
  clear hV4 hB4 hb4 hkb4 hk4 hr4 hst
  obtain ⟨a0, a1, a2, -⟩ := blk3 HB1.out
  obtain ⟨d0, d1, d2, -⟩ := blk3 HB2.out
  obtain ⟨f0, f1, f2, -⟩ := blk3 HB3.out
  obtain ⟨h0, h1, h2, -⟩ := blk3 HB4.out
  obtain ⟨g, hg, x0, x1, x2, x3, x4⟩ := HR.out 0 (by decide)
  obtain ⟨g', hg', y0, y1, y2, y3, y4⟩ := HR.out 1 (by decide)
  obtain ⟨g'', hg'', z0, z1, z2, z3, z4⟩ := HR.out 2 (by decide)
  rw [hg] at hg' hg''
  cases hg'
  cases hg''
  subst hg
  have u0 := eqF; have u1 := eqT; have u2 := guardF; have u3 := guardT
  dsimp only [itsLives, strV, List.getElem_cons_zero, List.getElem_cons_succ, List.length_cons, List.length_nil, Nat.reduceAdd, Nat.reduceMul] at *
  go_wp2
  go_ret
  exact ⟨rfl, HK4.out⟩

end Go.Proofs.YtmklmlocldbaoaaDoor
