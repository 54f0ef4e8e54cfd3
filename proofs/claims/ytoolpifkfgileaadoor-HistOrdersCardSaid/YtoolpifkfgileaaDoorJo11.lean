/- Joined texts of this work: HiA, HiB, HiC. -/
import Derived.Test.YtoolpifkfgileaaDoorJo10
import Derived.Deep.OwnRows
import Derived.Laws.AppendOwnNone
import Derived.StillTailTactics

/-
  Package hist: begin.
-/
namespace Go.Proofs.YtoolpifkfgileaaDoor
open Go Go.RowKit Own

section
variable {P : Program} {w0 : World} {M : Nat → Prop} {o : Oper} {a : Act} {av ea : List Nat} {F : Nat → World → Prop} {Fp : Nat → Nat → Prop}
/-- a store of one cell into block b -/
def sCell (b i : Nat) (T : TypeId) (cs0 : Array Value) (v : Value) : Loud := { val := fun _ _ => undef, fp := fun _ _ k => k = b, post := fun _ _ w => w.heap[b]? = some (.cells (cs0.setIfInBounds i v) T (0, 0)) }
theorem loud_cell (b i : Nat) (T : TypeId) (cs0 : Array Value) (v : Value) (hrun : ∀ w u, w.cell? ⟨b, i, none⟩ = some u → w.frozen? ⟨b, i, none⟩ = false → (execOp a.eval o).run P w = .ok .skip (w.setCell ⟨b, i, none⟩ v))
    (j : Nat) (hja : j ∈ av) (hje : j ∈ ea) (hF : ∀ w, F j w → w.heap[b]? = some (.cells cs0 T (0, 0))) (hfp : Fp j b) (hi : i < cs0.size) : LoudOk P w0 M o a (sCell b i T cs0 v) av ea F Fp := by
  refine loud_run ⟨default, trivial⟩ (fun g _ w w' _ _ _ h k => (h b rfl).trans k) fun w _ hav _ => ?_
  obtain ⟨hj, hb⟩ := hav j hja
  have hh := hF w hj
  refine ⟨w.setCell ⟨b, i, none⟩ v, default, trivial, .inr ⟨hrun w _ (blk_cell hh (Array.getElem?_eq_getElem hi)) (by simp [World.frozen?, hh]), rfl⟩, KeepBut.setCell _ _ _ ⟨j, hje, hfp⟩, fun k hk => ⟨.inr ⟨j, hje, by rw [show k = b from hk]; exact hfp⟩, ?_⟩, put1 hh v⟩
  rw [show k = b from hk]
  exact Nat.lt_of_lt_of_le (hb b hfp).1 (by simp [World.setCell])
end

theorem box_args {o : Oper} {a : Act} {ty : TypeId} {x : Operand} {v : Value} (ho : o.op = .box ty x) (hx : a.eval x = v) : (argsOf o a).getD 0 undef = v := by simp [argsOf, ho, Op.operands, hx]

/-- a row of words -/
def rowF (f : Nat → Nat) (n : Nat) : Array Value := ((List.range n).map fun j => Value.int .u32 (f j : Nat)).toArray
theorem rowF_size (f : Nat → Nat) (n : Nat) : (rowF f n).size = n := by simp [rowF]
theorem rowF_get (f : Nat → Nat) (n j : Nat) (h : j < n) : (rowF f n)[j]? = some (.int .u32 (f j : Nat)) := by simp [rowF, h]
theorem rowF_set (f : Nat → Nat) (n i v : Nat) : (rowF f n).setIfInBounds i (.int .u32 (v : Nat)) = rowF (fun j => if j = i then v else f j) n := by
  apply Array.ext_getElem?
  intro j
  rw [Array.getElem?_setIfInBounds, rowF_size]
  by_cases hj : j < n
  · rw [rowF_get _ _ _ hj, rowF_get _ _ _ hj]
    by_cases h : i = j
    · subst h; simp [hj]
    · have : ¬ j = i := fun e => h e.symm
      simp [h, this]
  · rw [Array.getElem?_eq_none (by rw [rowF_size]; omega), Array.getElem?_eq_none (by rw [rowF_size]; omega)]
    split
    · split
      · omega
      · rfl
    · rfl
theorem rowF_congr {f g : Nat → Nat} {n : Nat} (h : ∀ j, j < n → f j = g j) : rowF f n = rowF g n := by
  unfold rowF
  congr 1
  exact List.map_congr_left fun j hj => by rw [h j (List.mem_range.1 hj)]
theorem made_row (n : Nat) : madeCells #[Value.int .u32 0] n = rowF (fun _ => 0) n := by
  apply Array.ext_getElem?
  intro j
  by_cases hj : j < n
  · rw [rowF_get _ _ _ hj]
    simp [madeCells, hj, Nat.mod_one]
  · rw [Array.getElem?_eq_none (by simp [madeCells]; omega), Array.getElem?_eq_none (by rw [rowF_size]; omega)]

theorem info_u32 : (Tryd.prog.info? 76).map (fun i => (i.zero, i.size, i.bytes)) = some (some (.int .u32 0), 1, 4) := by kernel_rfl

def sBlk (pk pc : Option Addr) (ck cc A D x : Nat) (ks : List Int) (cs : List Cl) : Array Value := #[.slice pk ks.length ck, .slice pc cs.length cc, .int .u32 (x : Nat), .slice (some ⟨A, 0, none⟩) cs.length cs.length, .map (some D)]

/-- where begin is, between two rounds: calls below i are looked at; of call i those below k -/
structure BegAt (pk pc : Option Addr) (ck cc : Nat) (ks : List Int) (cs : List Cl) (w wr : World) (B1 S A D x : Nat) (f : Nat → Nat) : Prop where
  box : wr.heap[B1]? = some (.cells #[.slice pk ks.length ck, .slice pc cs.length cc] 25 (0, 0))
  blk : wr.heap[S]? = some (.cells (sBlk pk pc ck cc A D x ks cs) 94 (0, 0))
  row : wr.heap[A]? = some (.cells (rowF f cs.length) 76 (0, 0))
  map : PMap wr D []
  keep : KeepBut (fun _ => False) w wr
  ne : (w.heap.size ≤ B1 ∧ w.heap.size ≤ S ∧ w.heap.size ≤ A ∧ w.heap.size ≤ D) ∧ B1 ≠ S ∧ B1 ≠ A ∧ S ≠ A ∧ D ≠ S ∧ D ≠ A ∧ B1 ≠ D

def BegDone (pk pc : Option Addr) (ck cc : Nat) (ks : List Int) (cs : List Cl) (w : World) (e : Ending) (w' : World) : Prop :=
  ∃ S A D, e = .returned (.pointer (some ⟨S, 0, none⟩)) ∧ SAt w' S A D pk pc ck cc ks cs ∧ PMap w' D [] ∧ w.heap.size ≤ D ∧ D ≠ S ∧ D ≠ A ∧ KeepBut (fun _ => False) w w'

set_option maxRecDepth 100000 in
set_option maxHeartbeats 32000000 in
theorem begin_any (w : World) (pk pc : Option Addr) (ck cc : Nat) (ks : List Int) (cs : List Cl) (hc : RowC w pc cs) (hcl : cs.length ≤ 24) :
    Calls Tryd.prog 36 #[histV pk pc ck cc ks cs] w fun e w' => BegDone pk pc ck cc ks cs w e w' := by
  obtain ⟨V1, B1, hV1, hB1, hb1, hk1, hs1⟩ := fresh_block w (.cells #[.slice pk ks.length ck, .slice pc cs.length cc] 25)
  obtain ⟨b0, b1, -⟩ := blk2 hb1
  have HC := Lib.hid hc
  have HB1 := Lib.hid hb1; have HK1 := Lib.hid hk1
  have HN := Lib.hid (show w.heap.size = B1 ∧ V1.heap.size = B1 + 1 by omega)
  have hmk : ∀ W, (Instr.makeSlice 91 (.int .i64 (cs.length : Int)) (.int .i64 (cs.length : Int))).run Tryd.prog W = .ok (.slice (some ⟨W.heap.size, 0, none⟩) cs.length cs.length) (W.alloc (.cells (rowF (fun _ => 0) cs.length) 76)) := fun W => by
    rw [← made_row]
    exact run_make_row' 91 76 (.int .u32 0) 4 Tryd.underlying91 info_u32 rfl .i64 .i64 cs.length (by omega) (by omega) W
  have hmm : ∀ W, (Instr.makeMap 92 none).run Tryd.prog W = .ok (.map (some W.heap.size)) (W.alloc (.map #[] 0)) := fun W => run_makeMap _ W
  unfold histV
  clear hc hb1 hk1 hs1
  go_enter Tryd.func36, Tryd.ntmps36
  go_upto_region 1 with fail
  rw [← hV1, ← hB1]
  clear hV1 hB1
  have z0 : ∀ w', KeepBut (fun _ => False) V1.drew w' → w'.cell? ⟨B1, 0, none⟩ = some (.slice pk ks.length ck) := fun w' h => ((KeepBut.drew _ V1).trans h).stay b0
  have z1 : ∀ w', KeepBut (fun _ => False) V1.drew w' → w'.cell? ⟨B1, 1, none⟩ = some (.slice pc cs.length cc) := fun w' h => ((KeepBut.drew _ V1).trans h).stay b1
  clear b0 b1
  refine wp_own0 (by kernel_rfl) (fun i => [[], [], [1], [1, 2], [1, 2, 3], [], [0, 1, 2, 3, 4, 5], [0, 1, 2, 3, 4, 5, 6], [0, 1, 2, 3, 4, 5, 6, 7]].getD i []) (fun _ => []) (fun _ => []) [4, 5, 7] (by kernel_rfl)
    (fun i => if i = 4 then some { val := fun _ g => .slice (some ⟨g.b, 0, none⟩) cs.length cs.length, fp := fun _ g k => k = g.b, post := fun _ g w => w.heap[g.b]? = some (.cells (rowF (fun _ => 0) cs.length) 76 (0, 0)) }
      else if i = 5 then some { val := fun _ g => .map (some g.b), fp := fun _ g k => k = g.b, post := fun _ g w => w.heap[g.b]? = some (.map #[] 0) }
      else if i = 7 then some { val := fun _ g => .pointer (some ⟨g.b, 0, none⟩), fp := fun _ g k => k = g.b, post := fun args g w => ∃ vs, args.getD 0 undef = .agg vs ∧ w.heap[g.b]? = some (.cells vs 94 (0, 0)) } else none) ?_
  apply lex_quiet rfl rfl
  · intro w' hk; go_simp; with_reducible rfl
  simp only [Act.put, List.setIfInBounds_toArray, List.set_cons_zero, List.set_cons_succ]
  apply lex_quiet rfl rfl
  · intro w' hk; go_simp; with_reducible rfl
  simp only [Act.put, List.setIfInBounds_toArray, List.set_cons_zero, List.set_cons_succ]
  apply lex_quiet rfl rfl
  · intro w' hk; go_simp; with_reducible rfl
  simp only [Act.put, List.setIfInBounds_toArray, List.set_cons_zero, List.set_cons_succ]
  apply lex_quiet rfl rfl
  · intro w' hk; go_simp; with_reducible rfl
  simp only [Act.put, List.setIfInBounds_toArray, List.set_cons_zero, List.set_cons_succ]
  refine lex_loud rfl rfl (loud_new (fun b => .slice (some ⟨b, 0, none⟩) cs.length cs.length) (.cells (rowF (fun _ => 0) cs.length) 76) rfl (fun _ _ => rfl) (fun _ _ _ => Iff.rfl) (fun _ _ _ => Iff.rfl) (fun w => by go_simp)) fun g4 _ => ?_
  simp only [Act.put, List.setIfInBounds_toArray, List.set_cons_zero, List.set_cons_succ]
  refine lex_loud rfl rfl (loud_new (fun b => .map (some b)) (.map #[] 0) rfl (fun _ _ => rfl) (fun _ _ _ => Iff.rfl) (fun _ _ _ => Iff.rfl) (fun w => by go_simp)) fun g5 _ => ?_
  simp only [Act.put, List.setIfInBounds_toArray, List.set_cons_zero, List.set_cons_succ]
  apply lex_quiet rfl rfl
  · intro w' hk; go_simp; with_reducible rfl
  simp only [Act.put, List.setIfInBounds_toArray, List.set_cons_zero, List.set_cons_succ]
  refine lex_loud rfl rfl (loud_run ⟨default, trivial⟩ (fun g _ w w' _ _ _ h k => by obtain ⟨vs, h1, h2⟩ := k; exact ⟨vs, h1, (h g.b rfl).trans h2⟩) fun w' _ _ _ => ⟨w'.alloc (.cells (sBlk pk pc ck cc g4.b g5.b 0 ks cs) 94), { b := w'.heap.size }, trivial, .inl (by go_simp; rfl), KeepBut.alloc _ _ _, fun b hb => ⟨.inl (by have h9 : b = w'.heap.size := hb; omega), by have h9 : b = w'.heap.size := hb; simp; omega⟩, ⟨_, box_args rfl rfl, heap_alloc_new w' _⟩⟩) fun g7 _ => ?_
  simp only [Act.put, List.setIfInBounds_toArray, List.set_cons_zero, List.set_cons_succ]
  apply lex_quiet rfl rfl
  · intro w' hk; go_simp; with_reducible rfl
  simp only [Act.put, List.setIfInBounds_toArray, List.set_cons_zero, List.set_cons_succ]
  refine lex_nil ?_
  intro w9 hk9 hF hdis
  have f4 : w9.heap[g4.b]? = some (.cells (rowF (fun _ => 0) cs.length) 76 (0, 0)) := (hF 4 (by decide)).1
  have f5 : w9.heap[g5.b]? = some (.map #[] 0) := (hF 5 (by decide)).1
  have f7 : w9.heap[g7.b]? = some (.cells (sBlk pk pc ck cc g4.b g5.b 0 ks cs) 94 (0, 0)) := by
    obtain ⟨vs, h1, h2⟩ := (hF 7 (by decide)).1
    have h3 := h1.symm.trans (box_args rfl rfl)
    cases h3
    exact h2
  have n4 : V1.heap.size ≤ g4.b := ((hF 4 (by decide)).2 g4.b rfl).2.resolve_right fun e => e
  have n5 : V1.heap.size ≤ g5.b := ((hF 5 (by decide)).2 g5.b rfl).2.resolve_right fun e => e
  have n7 : V1.heap.size ≤ g7.b := ((hF 7 (by decide)).2 g7.b rfl).2.resolve_right fun e => e
  have n45 : ¬ g4.b = g5.b := hdis 4 (by decide) 5 (by decide) (by decide) g4.b rfl
  have n47 : ¬ g4.b = g7.b := hdis 4 (by decide) 7 (by decide) (by decide) g4.b rfl
  have n57 : ¬ g5.b = g7.b := hdis 5 (by decide) 7 (by decide) (by decide) g5.b rfl
  obtain ⟨A, hA⟩ : ∃ A, g4.b = A := ⟨_, rfl⟩
  obtain ⟨D, hD⟩ : ∃ D, g5.b = D := ⟨_, rfl⟩
  obtain ⟨S, hS⟩ : ∃ S, g7.b = S := ⟨_, rfl⟩
  rw [hA, hD, hS] at f7
  rw [hA] at f4 n4 n45 n47
  rw [hD] at f5 n5 n45 n57
  rw [hS] at n7 n47 n57
  rw [hA, hD, hS]
  have hkV : KeepBut (fun _ => False) V1 w9 := (KeepBut.drew _ V1).trans hk9
  have HBEG := Lib.hid (show BegAt pk pc ck cc ks cs w w9 B1 S A D 0 (fun _ => 0) from ⟨hkV.blk HB1.out, f7, f4, ⟨#[], 0, f5, rfl⟩, HK1.out.trans hkV, by have := HN.out; omega, by have := HN.out; omega, by have := HN.out; omega, by omega, by omega, by omega, by have := HN.out; omega⟩)
  obtain ⟨b0, b1, -⟩ := blk2 (hkV.blk HB1.out)
  clear hk9 hF hdis f4 f5 f7 n4 n5 n7 n45 n47 n57 hA hD hS hkV z0 z1 hmk hmm
  go_upto_block 0 with fail
  clear b0
  go_wp2_with fail
  clear b1
  go_loopw [18] (fun v18 wr => ∃ i : Nat, v18 = .int .i64 i ∧ i ≤ cs.length ∧ BegAt pk pc ck cc ks cs w wr B1 S A D (bitsOf (fun k => (nthC cs k).till != -1) i) (fun j => if j < i then aheadM cs j else 0)) (fun v _ => cs.length - (intOf v).toNat)
  case atStart => exact ⟨0, rfl, Nat.zero_le _, HBEG.out⟩
  case round =>
    obtain ⟨i, rfl, hi, hat⟩ := hrel
    by_cases hlt : i < cs.length
    · have hlti : (i : Int) < cs.length := by omega
      have hi0 : (0 : Int) ≤ i := by omega
      have hWi : IntKind.i64.wrap ((i : Int) + 1) = (i : Int) + 1 := IntWalk.i64_in _ (by omega)
      obtain ⟨g, o, hg, x0, x1, x2, x3, x4, x5, x6, x7⟩ := (HC.out.stay hat.keep) i hlt
      subst hg
      obtain ⟨V5, B5, hV5, hB5, hb5, hk5, hs5⟩ := fresh_block wr (.cells (nthC cs i).vals.toArray 33)
      have hv5 : (nthC cs i).vals.toArray = #[.int .i64 (nthC cs i).hart, .int .i64 (nthC cs i).cont, .int .i64 (nthC cs i).op, .int .i64 (nthC cs i).arg, .int .i64 (nthC cs i).beg, .int .i64 (nthC cs i).till, .int .i64 (nthC cs i).value, .int .i64 (nthC cs i).code] := rfl
      rw [hv5] at hV5
      have HAT := Lib.hid (show BegAt pk (some ⟨g, o, none⟩) ck cc ks cs w V5 B1 S A D (bitsOf (fun k => (nthC cs k).till != -1) i) (fun j => if j < i then aheadM cs j else 0) from ⟨hk5.blk hat.box, hk5.blk hat.blk, hk5.blk hat.row, hat.map.keep hk5 (fun e => e), hat.keep.trans hk5, hat.ne⟩)
      have HN5 := Lib.hid (show S < B5 by
        have h9 : S < wr.heap.size := (Array.getElem?_eq_some_iff.1 hat.blk).1
        omega)
      have HB5 := Lib.hid hb5
      clear hat hk5 hs5 hv5
      go_upto_region 5 with fail
      rw [← hV5, ← hB5]
      clear hV5 hB5 x0 x1 x2 x3 x4 x5 x6 x7
      obtain ⟨c0, c1, c2, c3, c4, c5, c6, c7⟩ := blk8 HB5.out
      obtain ⟨q, hq⟩ : ∃ q, ((nthC cs i).till != -1) = q := ⟨_, rfl⟩
      have HQ := Lib.hid hq
      go_upto_if 25 with fail
      clear c0 c1 c2 c3 c4 c5 c6 c7 hb5 hq
      go_cut [26] from 26 to 34 (fun v26 wx => BegAt pk (some ⟨g, o, none⟩) ck cc ks cs w wx B1 S A D (bitsOf (fun k => (nthC cs k).till != -1) (i + 1)) (fun j => if j < i then aheadM cs j else 0))
      case first =>
        cases q with
        | false =>
          have HR := Lib.hid (show bitsOf (fun k => (nthC cs k).till != -1) (i + 1) = bitsOf (fun k => (nthC cs k).till != -1) i by
            conv => lhs; unfold bitsOf
            rw [HQ.out]; rfl)
          go_wp2_with fail
          go_meet
          case rel => rw [HR.out]; exact HAT.out
        | true =>
          have HR := Lib.hid (show bitsOf (fun k => (nthC cs k).till != -1) (i + 1) = bitsOf (fun k => (nthC cs k).till != -1) i ||| 2 ^ i by
            conv => lhs; unfold bitsOf
            rw [HQ.out]; rfl)
          obtain ⟨x, hx⟩ : ∃ x, bitsOf (fun k => (nthC cs k).till != -1) i = x := ⟨_, rfl⟩
          have hxl : x < 4294967296 := by rw [← hx]; exact Nat.lt_trans (bitsOf_lt _ i) (pow_lt (by omega))
          have hp2 : 2 ^ i < 4294967296 := pow_lt (by omega)
          have hsh : IntKind.u32.wrap ((2 : Int) ^ i) = (2 : Int) ^ i := by
            have h9 := wrap32 hp2
            simpa using h9
          have hor : bits .or .u32 (x : Int) ((2 : Int) ^ i) = ((x ||| 2 ^ i : Nat) : Int) := by
            have h9 := bits_or x (2 ^ i) hxl hp2
            simpa using h9
          have HAT' := Lib.hid (show BegAt pk (some ⟨g, o, none⟩) ck cc ks cs w V5 B1 S A D x (fun j => if j < i then aheadM cs j else 0) by rw [← hx]; exact HAT.out)
          rw [hx] at HR
          go_upto_region 6 with fail
          refine wp_own1 (by kernel_rfl) S _ HAT'.out.blk (fun i => [[], [0], [0, 1], [0, 1, 2], [], [4], [0, 1, 2, 3, 4, 5], [0, 1, 2, 3, 4, 5, 6], [0, 1, 2, 3, 4, 5, 6, 7], [0, 1, 2, 3, 4, 5, 6, 7, 8]].getD i []) (fun i => if i = 3 then [10] else if i = 9 then [10] else []) (fun i => if i = 9 then [10] else []) [9] (by kernel_rfl)
            (fun j => if j = 3 then some (sConst (.int .u32 (x : Nat))) else if j = 9 then some (sCell S 2 94 (sBlk pk (some ⟨g, o, none⟩) ck cc A D x ks cs) (.int .u32 ((x ||| 2 ^ i : Nat) : Int))) else none) ?_
          apply lex_quiet rfl rfl
          · intro w' hk; go_simp; with_reducible rfl
          simp only [Act.put, List.setIfInBounds_toArray, List.set_cons_zero, List.set_cons_succ]
          apply lex_quiet rfl rfl
          · intro w' hk; go_simp; with_reducible rfl
          simp only [Act.put, List.setIfInBounds_toArray, List.set_cons_zero, List.set_cons_succ]
          apply lex_quiet rfl rfl
          · intro w' hk; go_simp; with_reducible rfl
          simp only [Act.put, List.setIfInBounds_toArray, List.set_cons_zero, List.set_cons_succ]
          refine lex_loud rfl rfl (loud_run ⟨default, trivial⟩ (fun g _ => stable_true _) fun w' _ hav _ => ⟨w', default, trivial, .inl (by
            have h9 := (hav 10 (by decide)).1
            have c2 : w'.cell? ⟨S, 2, none⟩ = some (.int .u32 (x : Nat)) := blk_cell (k := 2) h9 rfl
            clear h9
            go_simp; rfl), KeepBut.refl _ _, fun b h => h.elim, trivial⟩) fun _ _ => ?_
          simp only [sConst, Act.put, List.setIfInBounds_toArray, List.set_cons_zero, List.set_cons_succ]
          apply lex_quiet rfl rfl
          · intro w' hk; go_simp; with_reducible rfl
          simp only [Act.put, List.setIfInBounds_toArray, List.set_cons_zero, List.set_cons_succ]
          apply lex_quiet rfl rfl
          · intro w' hk; go_simp; with_reducible rfl
          simp only [Act.put, List.setIfInBounds_toArray, List.set_cons_zero, List.set_cons_succ]
          apply lex_quiet rfl rfl
          · intro w' hk; go_simp; with_reducible rfl
          simp only [Act.put, List.setIfInBounds_toArray, List.set_cons_zero, List.set_cons_succ]
          apply lex_quiet rfl rfl
          · intro w' hk; go_simp; with_reducible rfl
          simp only [Act.put, List.setIfInBounds_toArray, List.set_cons_zero, List.set_cons_succ]
          apply lex_quiet rfl rfl
          · intro w' hk; go_simp; with_reducible rfl
          simp only [Act.put, List.setIfInBounds_toArray, List.set_cons_zero, List.set_cons_succ]
          refine lex_loud rfl rfl (loud_cell S 2 94 (sBlk pk (some ⟨g, o, none⟩) ck cc A D x ks cs) (.int .u32 ((x ||| 2 ^ i : Nat) : Int)) (fun w' u hc hf => by go_simp) 10 (by decide) (by decide) (fun w h => h) ⟨rfl, rfl⟩ (show 2 < 5 by decide)) fun _ _ => ?_
          simp only [sCell]
          refine lex_nil ?_
          intro w9 hk9 hF _
          have f9 : w9.heap[S]? = some (.cells (sBlk pk (some ⟨g, o, none⟩) ck cc A D (x ||| 2 ^ i) ks cs) 94 (0, 0)) := (hF 9 (by decide)).1
          have hkV : KeepBut (fun k => k = S) V5 w9 := (KeepBut.drew _ V5).trans hk9
          have HB9 := Lib.hid (show BegAt pk (some ⟨g, o, none⟩) ck cc ks cs w w9 B1 S A D (x ||| 2 ^ i) (fun j => if j < i then aheadM cs j else 0) from by
            have ha := HAT'.out
            obtain ⟨⟨n1, n2, n3, n4⟩, m1, m2, m3, m4, m5, m6⟩ := ha.ne
            exact ⟨keep_blk hkV ha.box m1, f9, keep_blk hkV ha.row (fun e => m3 e.symm), ha.map.keep hkV m4, ha.keep.new hkV fun k e => by have h9 : k = S := e; omega, ⟨n1, n2, n3, n4⟩, m1, m2, m3, m4, m5, m6⟩)
          clear hk9 hF f9 hkV
          go_wp2_with fail
          go_meet
          case rel => rw [HR.out]; exact HB9.out
      case rest =>
        obtain ⟨x, hx⟩ : ∃ x, bitsOf (fun k => (nthC cs k).till != -1) (i + 1) = x := ⟨_, rfl⟩
        rw [hx] at hcut
        have HX := Lib.hid hx
        have HCUT := Lib.hid hcut
        obtain ⟨b0, b1, -⟩ := blk2 hcut.box
        clear hcut hx
        go_upto_block 2 with fail
        clear b0
        go_wp2_with fail
        clear b1
        go_loopw [38] (fun v38 wx => ∃ k : Nat, v38 = .int .i64 k ∧ k ≤ cs.length ∧ BegAt pk (some ⟨g, o, none⟩) ck cc ks cs w wx B1 S A D x (fun j => if j < i then aheadM cs j else if j = i then bitsOf (fun k => aheadB cs k i) k else 0)) (fun v _ => cs.length - (intOf v).toNat)
        case atStart =>
          refine ⟨0, rfl, Nat.zero_le _, ?_⟩
          have e : (fun j => if j < i then aheadM cs j else if j = i then bitsOf (fun k => aheadB cs k i) 0 else 0) = (fun j => if j < i then aheadM cs j else 0) := by
            funext j
            split
            · rfl
            · split
              · rfl
              · rfl
          rw [e]; exact HCUT.out
        case round =>
          obtain ⟨k, rfl, hk, hat⟩ := hrel
          by_cases hkt : k < cs.length
          · have hkti : (k : Int) < cs.length := by omega
            have hk0 : (0 : Int) ≤ k := by omega
            have hWk : IntKind.i64.wrap ((k : Int) + 1) = (k : Int) + 1 := IntWalk.i64_in _ (by omega)
            obtain ⟨b0, b1, -⟩ := blk2 hat.box
            have HAH := Lib.hid (ahead_in wr pk (some ⟨g, o, none⟩) ck cc ks cs (HC.out.stay hat.keep) k i hkt hlt)
            obtain ⟨q, hq⟩ : ∃ q, aheadB cs k i = q := ⟨_, rfl⟩
            rw [hq] at HAH
            unfold histV at HAH
            have HAT2 := Lib.hid hat
            have HBO := Lib.hid (show bitsOf (fun k => aheadB cs k i) (k + 1) = if q = true then bitsOf (fun k => aheadB cs k i) k ||| 2 ^ k else bitsOf (fun k => aheadB cs k i) k by
              conv => lhs; unfold bitsOf
              rw [hq])
            clear hat hq
            cases q with
            | false =>
              go_wp2_with (go_at_call 26; refine HAH.out.mono ?_; rintro e w2 ⟨rfl, hk2⟩; have HK2 := Lib.hid hk2; clear hk2)
              refine ⟨⟨k + 1, by simp, by omega, ?_⟩, by simp only [intOf]; omega⟩
              rw [HBO.out, if_neg Bool.false_ne_true]
              have ha := HAT2.out
              exact ⟨HK2.out.blk ha.box, HK2.out.blk ha.blk, HK2.out.blk ha.row, ha.map.keep HK2.out (fun e => e), ha.keep.trans HK2.out, ha.ne⟩
            | true =>
              go_upto_region 11 with (go_at_call 26; refine HAH.out.mono ?_; rintro e w2 ⟨rfl, hk2⟩; have HK2 := Lib.hid hk2; clear hk2)
              clear b0 b1
              obtain ⟨y, hy⟩ : ∃ y, bitsOf (fun k => aheadB cs k i) k = y := ⟨_, rfl⟩
              have hyl : y < 4294967296 := by rw [← hy]; exact Nat.lt_trans (bitsOf_lt _ k) (pow_lt (by omega))
              obtain ⟨f, hf⟩ : ∃ f : Nat → Nat, (fun j => if j < i then aheadM cs j else if j = i then bitsOf (fun k => aheadB cs k i) k else 0) = f := ⟨_, rfl⟩
              have hfi : f i = y := by rw [← hf, ← hy]; simp
              have HF := Lib.hid (show (fun j => if j < i then aheadM cs j else if j = i then bitsOf (fun k => aheadB cs k i) (k + 1) else 0) = fun j => if j = i then y ||| 2 ^ k else f j by
                rw [HBO.out, if_pos trivial, hy, ← hf]
                funext j
                by_cases h1 : j = i
                · subst h1; simp
                · simp [h1])
              have HAT3 := Lib.hid (show BegAt pk (some ⟨g, o, none⟩) ck cc ks cs w w2 B1 S A D x f from by
                have ha := HAT2.out
                rw [hf] at ha
                exact ⟨HK2.out.blk ha.box, HK2.out.blk ha.blk, HK2.out.blk ha.row, ha.map.keep HK2.out (fun e => e), ha.keep.trans HK2.out, ha.ne⟩)
              have hp2 : 2 ^ k < 4294967296 := pow_lt (by omega)
              have hsh : IntKind.u32.wrap ((2 : Int) ^ k) = (2 : Int) ^ k := by
                have h9 := wrap32 hp2
                simpa using h9
              have hor : bits .or .u32 (y : Int) ((2 : Int) ^ k) = ((y ||| 2 ^ k : Nat) : Int) := by
                have h9 := bits_or y (2 ^ k) hyl hp2
                simpa using h9
              have hSA : ¬ S = A := HAT3.out.ne.2.2.2.1
              have s3 : ∀ w', KeepBut (fun j => j = A) w2.drew w' → w'.cell? ⟨S, 3, none⟩ = some (.slice (some ⟨A, 0, none⟩) cs.length cs.length) := fun w' h => keep_cell ((KeepBut.drew (fun j => j = A) w2).trans h) (blk_cell (k := 3) HAT3.out.blk rfl) hSA
              have HFI := Lib.hid hfi
              clear hy hf hfi
              refine wp_own1 (by kernel_rfl) A _ HAT3.out.row (fun i => [[], [0], [0, 1], [0, 1, 2], [], [0, 1, 2, 3, 4], [0, 1, 2, 3, 4, 5], [], [7], [0, 1, 2, 3, 4, 5, 6, 7, 8], [0, 1, 2, 3, 4, 5, 6, 7, 8, 9], [0, 1, 2, 3, 4, 5, 6, 7, 8, 9, 10]].getD i []) (fun i => if i = 6 then [12] else if i = 11 then [12] else []) (fun i => if i = 11 then [12] else []) [11] (by kernel_rfl)
                (fun j => if j = 6 then some (sConst (.int .u32 (y : Nat))) else if j = 11 then some (sCell A i 76 (rowF f cs.length) (.int .u32 ((y ||| 2 ^ k : Nat) : Int))) else none) ?_
              apply lex_quiet rfl rfl
              · intro w' hk; go_simp; with_reducible rfl
              simp only [Act.put, List.setIfInBounds_toArray, List.set_cons_zero, List.set_cons_succ]
              apply lex_quiet rfl rfl
              · intro w' hk; go_simp; with_reducible rfl
              simp only [Act.put, List.setIfInBounds_toArray, List.set_cons_zero, List.set_cons_succ]
              apply lex_quiet rfl rfl
              · intro w' hk; go_simp; with_reducible rfl
              simp only [Act.put, List.setIfInBounds_toArray, List.set_cons_zero, List.set_cons_succ]
              apply lex_quiet rfl rfl
              · intro w' hk; go_simp; with_reducible rfl
              simp only [Act.put, List.setIfInBounds_toArray, List.set_cons_zero, List.set_cons_succ]
              apply lex_quiet rfl rfl
              · intro w' hk; go_simp; with_reducible rfl
              simp only [Act.put, List.setIfInBounds_toArray, List.set_cons_zero, List.set_cons_succ]
              apply lex_quiet rfl rfl
              · intro w' hk; go_simp; with_reducible rfl
              simp only [Act.put, List.setIfInBounds_toArray, List.set_cons_zero, List.set_cons_succ]
              refine lex_loud rfl rfl (loud_run ⟨default, trivial⟩ (fun g _ => stable_true _) fun w' _ hav _ => ⟨w', default, trivial, .inl (by
                have h9 := (hav 12 (by decide)).1
                have c2 : w'.cell? ⟨A, i, none⟩ = some (.int .u32 (y : Nat)) := by
                  have h8 := blk_cell h9 (rowF_get f _ i hlt)
                  rw [HFI.out] at h8
                  exact h8
                clear h9
                go_simp; rfl), KeepBut.refl _ _, fun b h => h.elim, trivial⟩) fun _ _ => ?_
              simp only [sConst, Act.put, List.setIfInBounds_toArray, List.set_cons_zero, List.set_cons_succ]
              apply lex_quiet rfl rfl
              · intro w' hk; go_simp; with_reducible rfl
              simp only [Act.put, List.setIfInBounds_toArray, List.set_cons_zero, List.set_cons_succ]
              apply lex_quiet rfl rfl
              · intro w' hk; go_simp; with_reducible rfl
              simp only [Act.put, List.setIfInBounds_toArray, List.set_cons_zero, List.set_cons_succ]
              apply lex_quiet rfl rfl
              · intro w' hk; go_simp; with_reducible rfl
              simp only [Act.put, List.setIfInBounds_toArray, List.set_cons_zero, List.set_cons_succ]
              apply lex_quiet rfl rfl
              · intro w' hk; go_simp; with_reducible rfl
              simp only [Act.put, List.setIfInBounds_toArray, List.set_cons_zero, List.set_cons_succ]
              refine lex_loud rfl rfl (loud_cell A i 76 (rowF f cs.length) (.int .u32 ((y ||| 2 ^ k : Nat) : Int)) (fun w' u hc hf => by go_simp) 12 (by decide) (by decide) (fun w h => h) ⟨rfl, rfl⟩ (by rw [rowF_size]; exact hlt)) fun _ _ => ?_
              simp only [sCell]
              refine lex_nil ?_
              intro w9 hk9 hF _
              have f9 : w9.heap[A]? = some (.cells (rowF (fun j => if j = i then y ||| 2 ^ k else f j) cs.length) 76 (0, 0)) := by
                have h8 := (hF 11 (by decide)).1
                rw [← rowF_set]; exact h8
              have hkV : KeepBut (fun j => j = A) w2 w9 := (KeepBut.drew _ w2).trans hk9
              have HB9 := Lib.hid (show BegAt pk (some ⟨g, o, none⟩) ck cc ks cs w w9 B1 S A D x (fun j => if j = i then y ||| 2 ^ k else f j) from by
                have ha := HAT3.out
                obtain ⟨⟨n1, n2, n3, n4⟩, m1, m2, m3, m4, m5, m6⟩ := ha.ne
                exact ⟨keep_blk hkV ha.box m2, keep_blk hkV ha.blk m3, f9, ha.map.keep hkV m5, ha.keep.new hkV fun k e => by have h9 : k = A := e; omega, ⟨n1, n2, n3, n4⟩, m1, m2, m3, m4, m5, m6⟩)
              clear hk9 hF f9 hkV s3
              go_wp2_with fail
              refine ⟨⟨k + 1, by simp, by omega, ?_⟩, by simp only [intOf]; omega⟩
              rw [HF.out]
              exact HB9.out
          · have hnl : ¬ (k : Int) < cs.length := by omega
            have e : k = cs.length := by omega
            subst e
            have HAT2 := Lib.hid hat
            clear hat
            go_wp2_with fail
            refine ⟨⟨i + 1, by simp, by omega, ?_⟩, by simp only [intOf]; omega⟩
            rw [HX.out]
            have e2 : (fun j => if j < i + 1 then aheadM cs j else 0) = (fun j => if j < i then aheadM cs j else if j = i then bitsOf (fun k => aheadB cs k i) cs.length else 0) := by
              funext j
              by_cases h1 : j = i
              · subst h1; simp [aheadM]
              · have : (j < i + 1) ↔ j < i := by omega
                simp [h1, this]
            rw [e2]
            exact HAT2.out
    · have hnl : ¬ (i : Int) < cs.length := by omega
      have e : i = cs.length := by omega
      subst e
      have HAT := Lib.hid hat
      clear hat
      go_wp2_with fail
      go_ret
      refine ⟨S, A, D, rfl, ⟨HAT.out.blk, fun j hj => ?_, HC.out.stay HAT.out.keep⟩, HAT.out.map, HAT.out.ne.1.2.2.2, HAT.out.ne.2.2.2.2.1, HAT.out.ne.2.2.2.2.2.1, HAT.out.keep⟩
      have := blk_cell HAT.out.row (rowF_get _ _ j hj)
      rw [if_pos hj] at this
      exact this

end Go.Proofs.YtoolpifkfgileaaDoor

/-
  Package hist: orders; what the search keeps.
-/
namespace Go.Proofs.YtoolpifkfgileaaDoor
open Go Go.RowKit Own

def overB (cs : List Cl) (d : Nat) : Bool := without (endedM cs) d == 0
/-- may the calls end so, in this order, from here on -/
def ordB (cs : List Cl) : Nat → List (Int × List Int) → List Nat → Bool
  | d, _, [] => overB cs d
  | d, h, n :: o => decide (n < cs.length) && match nextP cs d h n with | some h' => ordB cs (d ||| 2 ^ n) h' o | none => false

theorem mem_deed {op : Int} {xs : List Int} {x y : Int} (h : y ∈ (deedR op xs x).1) : y ∈ xs ∨ y = x := by
  unfold deedR at h
  split at h
  · rcases List.mem_append.1 h with h | h
    · exact .inl h
    · exact .inr (by simpa using h)
  · split at h
    · split at h
      · cases h
      · exact .inl (List.mem_of_mem_eraseIdx h)
    · split at h
      · split at h
        · cases h
        · exact .inl (List.mem_of_mem_eraseIdx h)
      · split at h
        · split at h
          · exact .inl h
          · rcases (List.mem_insertIdx List.countP_le_length).1 h with h | h
            · exact .inr h
            · exact .inl h
        · split at h
          · split at h
            · exact .inl (List.mem_of_mem_eraseIdx h)
            · exact .inl h
          · exact .inl h

theorem doR_small {k op : Int} {xs : List Int} {x : Int} (hk : In64 k) (hx : ∀ y ∈ xs, In64 y) (hx1 : In64 x) : In64 (doR k op xs x).kind ∧ (doR k op xs x).items.length ≤ 64 ∧ ∀ y ∈ (doR k op xs x).items, In64 y := by
  unfold doR
  split
  · split
    · rename_i h
      refine ⟨hk, h, fun y hy => ?_⟩
      rcases mem_deed hy with h | h
      · exact hx y h
      · rw [h]; exact hx1
    · exact ⟨by unfold In64; decide, by simp, fun y hy => by cases hy⟩
  · exact ⟨by unfold In64; decide, by simp, fun y hy => by cases hy⟩

theorem mayR_small {k op : Int} {xs : List Int} {x v cd : Int} (hk : In64 k) (hl : xs.length ≤ 64) (hx : ∀ y ∈ xs, In64 y) (hx1 : In64 x) : In64 (mayR k op xs x v cd).kind ∧ (mayR k op xs x v cd).items.length ≤ 64 ∧ ∀ y ∈ (mayR k op xs x v cd).items, In64 y := by
  unfold mayR
  split
  · exact ⟨hk, hl, hx⟩
  · split
    · exact doR_small hk hx hx1
    · exact ⟨hk, hl, hx⟩

theorem small_set {h : List (Int × List Int)} (hs : Small h) (m : Nat) {e : Int × List Int} (he : In64 e.1 ∧ e.2.length ≤ 64 ∧ ∀ y ∈ e.2, In64 y) : Small (h.set m e) := fun x hx => by
  rcases List.mem_or_eq_of_mem_set hx with h | h
  · exact hs x h
  · rw [h]; exact he

theorem small_nth {h : List (Int × List Int)} (hs : Small h) (m : Nat) : In64 (nthK h m).1 ∧ (nthK h m).2.length ≤ 64 ∧ ∀ y ∈ (nthK h m).2, In64 y := by
  unfold nthK
  rw [List.getD_eq_getElem?_getD]
  cases e : h[m]? with
  | none => exact ⟨by unfold In64; decide, by simp, fun y hy => by cases hy⟩
  | some x => exact hs x (List.mem_of_getElem? e)

/-- the numbers of the calls are those of a machine -/
def ArgsIn (cs : List Cl) : Prop := ∀ c ∈ cs, In64 c.arg
theorem argsIn_nth {cs : List Cl} (h : ArgsIn cs) (n : Nat) : In64 (nthC cs n).arg := by
  unfold nthC
  rw [List.getD_eq_getElem?_getD]
  cases e : cs[n]? with
  | none => unfold In64; decide
  | some x => exact h x (List.mem_of_getElem? e)

theorem step_small {cs : List Cl} {h h' : List (Int × List Int)} {n : Nat} (ha : ArgsIn cs) (hs : Small h) (he : stepP cs h n = some h') : Small h' ∧ h'.length = h.length := by
  have hn := small_nth hs (nthC cs n).cont.toNat
  unfold stepP at he
  dsimp only at he
  split at he
  · split at he
    · cases he
      exact ⟨small_set hs _ (doR_small hn.1 hn.2.2 (argsIn_nth ha n)), List.length_set⟩
    · cases he
  · split at he
    · cases he
      exact ⟨small_set hs _ (mayR_small hn.1 hn.2.1 hn.2.2 (argsIn_nth ha n)), List.length_set⟩
    · cases he

/-- points from which there is no order -/
def Dead (cs : List Cl) (K : Nat) (L : List (Nat × ByteArray)) : Prop := ∀ q ∈ L, ∀ h, Small h → h.length = K → keyL h = q.2.data.toList → ∀ o, ordB cs q.1 h o = false

def Sup (d e : Nat) : Prop := ∀ j, d.testBit j = true → e.testBit j = true

theorem hasP_true {L : List (Nat × ByteArray)} {d : Nat} {s : ByteArray} (h : hasP L d s = true) : ∃ q ∈ L, d = q.1 ∧ s.data.toList = q.2.data.toList := by
  unfold hasP at h
  obtain ⟨q, hq, h⟩ := List.any_eq_true.1 h
  exact ⟨q, hq, sameP_iff.1 h⟩
theorem hasP_false {L : List (Nat × ByteArray)} {d : Nat} {s : ByteArray} (h : ∀ q ∈ L, ¬ (d = q.1 ∧ s.data.toList = q.2.data.toList)) : hasP L d s = false := by
  rw [← Bool.not_eq_true]
  intro hh
  obtain ⟨q, hq, h'⟩ := hasP_true hh
  exact h q hq h'

/-- what is read is no map -/
theorem cell_keepD {w w' : World} {D : Nat} {L : List (Nat × ByteArray)} (hm : PMap w D L) (k : KeepBut (fun j => j = D) w w') {b o : Nat} {v : Value} (hc : w.cell? ⟨b, o, none⟩ = some v) : w'.cell? ⟨b, o, none⟩ = some v := by
  refine keep_cell k hc fun e => ?_
  have e : b = D := e
  obtain ⟨es, c, h2, _⟩ := hm
  subst e
  simp [World.cell?, h2] at hc
theorem rd_keepD {w w' : World} {D : Nat} {L : List (Nat × ByteArray)} (hm : PMap w D L) (k : KeepBut (fun j => j = D) w w') {p : Option Addr} {cs : List Value} (h : Rd w p cs) : Rd w' p cs := fun j v hj => by
  obtain ⟨b, o, hp, hc⟩ := h j v hj
  exact ⟨b, o, hp, cell_keepD hm k hc⟩
theorem has_keepD {w w' : World} {D : Nat} {L : List (Nat × ByteArray)} (hm : PMap w D L) (k : KeepBut (fun j => j = D) w w') {p : Option Addr} {l : List Kc} (h : HasAt w p l) : HasAt w' p l :=
  ⟨rd_keepD hm k h.rd, fun e he => ⟨rd_keepD hm k (h.live e he).1, (h.live e he).2⟩⟩
theorem sat_keepD {w w' : World} {S A D : Nat} {pk pc : Option Addr} {ck cc : Nat} {ks : List Int} {cs : List Cl} {L : List (Nat × ByteArray)} (hm : PMap w D L) (k : KeepBut (fun j => j = D) w w') (h : SAt w S A D pk pc ck cc ks cs) (hne : D ≠ S) : SAt w' S A D pk pc ck cc ks cs :=
  ⟨keep_blk k h.blk (fun e => hne e.symm), fun i hi => cell_keepD hm k (h.ahead i hi), fun i hi => by
    obtain ⟨g, o, h0, h1, h2, h3, h4, h5, h6, h7, h8⟩ := h.calls i hi
    exact ⟨g, o, h0, cell_keepD hm k h1, cell_keepD hm k h2, cell_keepD hm k h3, cell_keepD hm k h4, cell_keepD hm k h5, cell_keepD hm k h6, cell_keepD hm k h7, cell_keepD hm k h8⟩⟩

theorem ord_taken {cs : List Cl} {d n : Nat} {h : List (Int × List Int)} {o : List Nat} (hb : d.testBit n = true) : ordB cs d h (n :: o) = false := by
  unfold ordB nextP freeB
  rw [hb]; simp
theorem ord_out {cs : List Cl} {d n : Nat} {h : List (Int × List Int)} {o : List Nat} (hb : cs.length ≤ n) : ordB cs d h (n :: o) = false := by
  unfold ordB
  rw [decide_eq_false (by omega)]; rfl
theorem ord_next {cs : List Cl} {d n : Nat} {h : List (Int × List Int)} {o : List Nat} (hn : n < cs.length) : ordB cs d h (n :: o) = match nextP cs d h n with | some h' => ordB cs (d ||| 2 ^ n) h' o | none => false := by
  conv => lhs; unfold ordB
  rw [decide_eq_true hn]; rfl

theorem or_grows {d n N : Nat} (hb : d.testBit n = false) (hn : n < N) (hd : d < 2 ^ N) : d < d ||| 2 ^ n ∧ d ||| 2 ^ n < 2 ^ N := by
  have h1 : d ≤ d ||| 2 ^ n := Nat.left_le_or
  have h2 : d ≠ d ||| 2 ^ n := fun e => by
    have h3 := or_bit d n n
    rw [← e, hb] at h3
    simp at h3
  have h4 : 2 ^ n < 2 ^ N := Nat.pow_lt_pow_right (by decide) hn
  exact ⟨by omega, Nat.or_lt_two_pow hd h4⟩

end Go.Proofs.YtoolpifkfgileaaDoor

/-
  Package hist: find.
-/
namespace Go.Proofs.YtoolpifkfgileaaDoor
open Go Go.RowKit Own

/-- what stays the same during a search -/
structure Ctx (wB : World) (S D : Nat) (cs : List Cl) (K : Nat) : Prop where
  len : cs.length ≤ 24
  k8 : K ≤ 8
  conts : ∀ i, i < cs.length → 0 ≤ (nthC cs i).cont ∧ (nthC cs i).cont.toNat < K
  args : ArgsIn cs
  tab : TabP wB
  bit : BitTab wB
  new : wB.heap.size ≤ D
  ne : D ≠ S

def natI (o : List Nat) : List Int := o.map fun (n : Nat) => (n : Int)
theorem natI_length (o : List Nat) : (natI o).length = o.length := by simp [natI]

theorem next_say {cs : List Cl} {d : Nat} {l : List Kc} {n : Nat} {w : World} {e : Ending} {w' : World} (h : NextDone cs d l n w e w') :
    ∃ ok p c l', e = .returned (.tuple #[.slice p (List.length l') c, .bool ok]) ∧ HasAt w' p l' ∧ KeepBut (fun _ => False) w w' ∧ nextP cs d (l.map Kc.plain) n = if ok = true then some (l'.map Kc.plain) else none := by
  rcases h with ⟨h1, h2, h3⟩ | ⟨p, c, l', h1, h2, h3, h4⟩
  · exact ⟨false, none, 0, [], h2, ⟨fun j v hj => by simp [cellsK] at hj, fun e he => by cases he⟩, h3, h1⟩
  · exact ⟨true, p, c, l', h2, h3, h4, h1⟩

def FindDone (cs : List Cl) (K D d : Nat) (h : List (Int × List Int)) (L : List (Nat × ByteArray)) (w : World) (e : Ending) (w' : World) : Prop :=
  ∃ ok q c o L', e = .returned (.tuple #[.slice q (List.length o) c, .bool ok]) ∧ (if ok = true then ordB cs d h o = true else ∀ o, ordB cs d h o = false) ∧ Rd w' q (ints (natI o)) ∧ (q = none → c = 0 ∧ o = []) ∧ (d < 2 ^ cs.length → o.length ≤ 2 ^ cs.length - d) ∧
    PMap w' D L' ∧ Dead cs K L' ∧ (∀ q ∈ L', q ∈ L ∨ Sup d q.1) ∧ KeepBut (fun k => k = D) w w'

/-- find, between two rounds: x has the calls that are not tried -/
structure FindAt (wB : World) (S A D : Nat) (pk pc : Option Addr) (ck cc : Nat) (ks : List Int) (cs : List Cl) (K d B8 : Nat) (X : ByteArray) (p : Option Addr) (l : List Kc) (L : List (Nat × ByteArray)) (w wr : World) (x : Nat) : Prop where
  map : ∃ L', PMap wr D L' ∧ Dead cs K L' ∧ ∀ q ∈ L', q ∈ L ∨ (Sup d q.1 ∧ q.1 ≠ d)
  base : KeepBut (fun _ => False) wB wr
  keep : KeepBut (fun k => k = D) w wr
  box : wr.heap[B8]? = some (.cells #[.int .u32 d, .string X] TP (0, 0))
  sat : SAt wr S A D pk pc ck cc ks cs
  has : HasAt wr p l
  lt : x < 4294967296
  undone : ∀ j, x.testBit j = true → d.testBit j = false ∧ j < cs.length
  tried : ∀ j, j < cs.length → d.testBit j = false → x.testBit j = true ∨ ∀ o, ordB cs d (l.map Kc.plain) (j :: o) = false

theorem over_false {cs : List Cl} {d : Nat} (h : overB cs d = false) : 0 < cs.length := by
  rcases Nat.eq_zero_or_pos cs.length with h0 | h0
  · exfalso
    have e : endedM cs = 0 := by unfold endedM; rw [h0]; rfl
    have h1 : without (endedM cs) d = 0 := by
      rw [e]
      exact (without_zero (by decide)).2 fun j hj => by rw [Nat.zero_testBit] at hj; cases hj
    unfold overB at h
    rw [h1] at h
    cases h
  · exact h0

theorem all_bits {N : Nat} (j : Nat) : (2 ^ N - 1).testBit j = decide (j < N) := Nat.testBit_two_pow_sub_one N j

theorem ord_none {cs : List Cl} {d : Nat} {h : List (Int × List Int)} (h0 : overB cs d = false) (ht : ∀ j, j < cs.length → d.testBit j = false → ∀ o, ordB cs d h (j :: o) = false) : ∀ o, ordB cs d h o = false
  | [] => by unfold ordB; exact h0
  | j :: o => by
    rcases Nat.lt_or_ge j cs.length with h1 | h1
    · cases h2 : d.testBit j with
      | true => exact ord_taken h2
      | false => exact ht j h1 h2 o
    · exact ord_out h1

theorem sup_or {d n e : Nat} (hn : d.testBit n = false) (h : Sup (d ||| 2 ^ n) e) : Sup d e ∧ e ≠ d := by
  refine ⟨fun j hj => h j (by rw [or_bit, hj]; rfl), fun e2 => ?_⟩
  have := h n (by rw [or_bit]; simp)
  rw [e2, hn] at this
  cases this

theorem info_int3 : (Tryd.prog.info? 3).map (fun i => (i.zero, i.size, i.bytes)) = some (some (.int .i64 0), 1, 8) := by kernel_rfl
theorem one_row (w : World) (B n : Nat) (hB : B ≤ w.heap.size) : (w.alloc (.cells #[.int .i64 n] 3)).ownsRow B 3 1 (.slice (some ⟨w.heap.size, 0, none⟩) 1 1) 1 [.int .i64 n] :=
  ⟨rfl, .inr ⟨w.heap.size, 1, #[.int .i64 n], rfl, hB, heap_alloc_new w _, Nat.le_refl _, by unfold maxLen; omega, rfl, rfl⟩⟩

set_option maxRecDepth 100000 in
set_option maxHeartbeats 64000000 in
theorem find_any (wB : World) (S A D : Nat) (pk pc : Option Addr) (ck cc : Nat) (ks : List Int) (cs : List Cl) (K : Nat) (hX : Ctx wB S D cs K) :
    ∀ (m : Nat) (w : World) (d : Nat) (p : Option Addr) (c : Nat) (l : List Kc) (L : List (Nat × ByteArray)), 2 ^ cs.length - d ≤ m → d < 2 ^ cs.length → SAt w S A D pk pc ck cc ks cs → HasAt w p l → l.length = K → Small (l.map Kc.plain) →
      PMap w D L → Dead cs K L → KeepBut (fun _ => False) wB w →
      Calls Tryd.prog 37 #[.pointer (some ⟨S, 0, none⟩), .int .u32 d, .slice p l.length c] w fun e w' => FindDone cs K D d (l.map Kc.plain) L w e w' := by
  intro m
  induction m with
  | zero => intro w d p c l L h1 h2; omega
  | succ m ih =>
  intro w d p c l L hm hd hS hH hl hsm hM hDead hB
  have HIH0 := Lib.hid ih
  have HL := Lib.hid hl
  obtain ⟨s0, s1, s2, s3, s4⟩ := blk5S hS.blk
  have hp24 := pow_lt hX.len
  have hd32 : d < 4294967296 := by omega
  have HD := Lib.hid hd; have HMM := Lib.hid hm
  have hwo := bits_without (endedM cs) d
  have HX := Lib.hid hX; have HS := Lib.hid hS; have HH := Lib.hid hH; have HSM := Lib.hid hsm; have HM := Lib.hid hM; have HDD := Lib.hid hDead; have HB := Lib.hid hB
  clear hS hH hsm hM hDead hB ih
  cases h2 : (((without (endedM cs) d : Nat) : Int) == 0) with
  | true =>
    have HF := Lib.hid (show overB cs d = true by unfold overB; simpa using h2)
    clear hX
    go_enter Tryd.func37, Tryd.ntmps37
    go_wp2_with fail
    go_ret2
    exact ⟨true, none, 0, [], L, rfl, by rw [if_pos rfl]; unfold ordB; exact HF.out, fun j v hj => by simp [natI, ints] at hj, fun _ => ⟨rfl, rfl⟩, fun _ => Nat.zero_le _, HM.out, HDD.out, fun q hq => .inl hq, KeepBut.refl _ _⟩
  | false =>
    have HF := Lib.hid (show overB cs d = false by unfold overB; simpa using h2)
    have hcl0 := over_false HF.out
    have hne : l ≠ [] := fun e => by
      have := (hX.conts 0 hcl0).2
      rw [e] at hl
      simp at hl
      omega
    have hk8 := hX.k8
    have HKEY := Lib.hid (keyed_any w p c l HH.out HSM.out (by omega) hne (HB.out.tabP hX.tab))
    obtain ⟨X, hXe⟩ : ∃ X : ByteArray, (⟨(keyL (l.map Kc.plain)).toArray⟩ : ByteArray) = X := ⟨_, rfl⟩
    rw [hXe] at HKEY
    have HXE := Lib.hid hXe
    clear hX hXe hne hl hm
    go_enter Tryd.func37, Tryd.ntmps37
    go_upto_region 4 with (go_at_call 54; refine HKEY.out.mono ?_; rintro e w2 ⟨rfl, hk2⟩; have HK2 := Lib.hid hk2; clear hk2)
    obtain ⟨V, B8, hV, hB8, hb8, hkV, hsV⟩ := fresh_block w2 (.cells #[.int .u32 d, .string X] TP)
    rw [← hV, ← hB8]
    have HK3 := Lib.hid (HK2.out.trans hkV)
    have HNB := Lib.hid (show D < B8 by
      have h3 := HM.out.lt
      have h4 := HK2.out.size
      omega)
    have y4 : V.cell? ⟨S, 4, none⟩ = some (.map (some D)) := HK3.out.stay s4
    obtain ⟨b0, b1, -⟩ := blk2 hb8
    have HB8 := Lib.hid hb8
    have HMV := Lib.hid (HM.out.keep HK3.out fun e => e)
    clear s0 s1 s2 s3 s4 hV hB8 hkV hsV hb8 h2 hwo
    cases hh : hasP L d X with
    | true =>
      have hlk : ∀ n, (Instr.lookup 92 (.map (some D)) (.agg #[.int .u32 d, .string X]) false).run Tryd.prog (V.drewN n) = .ok (.int .i64 1) (V.drewN n) := fun n => by
        have h3 := (HMV.out.keep (KeepBut.drewN (fun _ => False) V n) fun e => e).look d X
        rw [hh] at h3
        exact h3
      have HFIN := Lib.hid (show ∀ o, ordB cs d (l.map Kc.plain) o = false by
        obtain ⟨q, hq, h3, h4⟩ := hasP_true hh
        rw [h3]
        exact HDD.out q hq _ HSM.out (by rw [List.length_map]; exact HL.out) (by rw [← h4, ← HXE.out]))
      go_quiet (fail)
      go_wp2_with fail
      go_ret2
      exact ⟨false, none, 0, [], L, rfl, by rw [if_neg Bool.false_ne_true]; exact HFIN.out, fun j v hj => by simp [natI, ints] at hj, fun _ => ⟨rfl, rfl⟩, fun _ => Nat.zero_le _, HMV.out.keep (KeepBut.drewN (fun _ => False) _ _) fun e => e, HDD.out, fun q hq => .inl hq, (HK3.out.mono fun _ e => e.elim).trans (KeepBut.drewN _ _ _)⟩
    | false =>
      have hlk : ∀ n, (Instr.lookup 92 (.map (some D)) (.agg #[.int .u32 d, .string X]) false).run Tryd.prog (V.drewN n) = .ok (.int .i64 0) (V.drewN n) := fun n => by
        have h3 := (HMV.out.keep (KeepBut.drewN (fun _ => False) V n) fun e => e).look d X
        rw [hh] at h3
        exact h3
      have HHP := Lib.hid hh
      clear hh
      go_quiet (fail)
      clear hlk y4 b0 b1
      obtain ⟨s0, s1, s2, s3, s4⟩ := blk5S (HS.out.stay (HK3.out.trans (KeepBut.drewN _ _ nq))).blk
      have hp2 : 1 ≤ 2 ^ cs.length := Nat.one_le_two_pow
      have hlen := HX.out.len
      have hsh : IntKind.u32.wrap ((2 : Int) ^ cs.length) = (2 : Int) ^ cs.length := by
        have h9 := wrap32 hp24
        simpa using h9
      have hsub : IntKind.u32.wrap ((2 : Int) ^ cs.length - 1) = ((2 ^ cs.length - 1 : Nat) : Int) := by
        have h9 := wrap32 (x := 2 ^ cs.length - 1) (by omega)
        have e : ((2 ^ cs.length - 1 : Nat) : Int) = (2 : Int) ^ cs.length - 1 := by
          have : ((2 ^ cs.length : Nat) : Int) = (2 : Int) ^ cs.length := by simp
          omega
        rw [e] at h9 ⊢
        exact h9
      have hwo := bits_without (2 ^ cs.length - 1) d
      have HAT := Lib.hid (show FindAt wB S A D pk pc ck cc ks cs K d B8 X p l L w (V.drewN nq) (without (2 ^ cs.length - 1) d) from ⟨⟨L, HMV.out.keep (KeepBut.drewN (fun _ => False) _ _) fun e => e, HDD.out, fun q hq => .inl hq⟩, HB.out.trans (HK3.out.trans (KeepBut.drewN _ _ _)), (HK3.out.mono fun _ e => e.elim).trans (KeepBut.drewN _ _ _), (KeepBut.drewN (fun _ => False) V nq).blk HB8.out, HS.out.stay (HK3.out.trans (KeepBut.drewN _ _ _)), HH.out.stay (HK3.out.trans (KeepBut.drewN _ _ _)), without_lt _ _, fun j hj => by
          rw [without_bit (by omega), all_bits, Bool.and_eq_true, Bool.not_eq_true', decide_eq_true_eq] at hj
          exact ⟨hj.2, hj.1⟩, fun j h3 h4 => .inl (by rw [without_bit (by omega), all_bits, h4]; simp [h3])⟩)
      go_upto_block 0 with fail
      go_wp2_with fail
      clear s0 s1 s2 s3 s4 hsh hsub hwo
      go_loopw [10] (fun v10 wr => ∃ x : Nat, v10 = .int .u32 x ∧ FindAt wB S A D pk pc ck cc ks cs K d B8 X p l L w wr x) (fun v _ => (intOf v).toNat)
      case atStart => exact ⟨_, rfl, HAT.out⟩
      case round =>
        clear HAT
        obtain ⟨x, rfl, hat⟩ := hrel
        by_cases hx0 : x = 0
        · subst hx0
          obtain ⟨L', hm', hd', hl'⟩ := hat.map
          obtain ⟨s0, s1, s2, s3, s4⟩ := blk5S hat.sat.blk
          obtain ⟨b0, b1, -⟩ := blk2 hat.box
          have hnone : hasP L' d X = false := hasP_false fun q hq ⟨e1, e2⟩ => by
            rcases hl' q hq with h | h
            · have h9 := HHP.out
              unfold hasP at h9
              rw [List.any_eq_false] at h9
              exact h9 q h (sameP_iff.2 ⟨e1, e2⟩)
            · exact h.2 e1.symm
          obtain ⟨w9, hrun, hp9, hk9⟩ := (hm'.keep (KeepBut.drew (fun _ => False) wr) fun e => e).update d X hnone
          unfold keyV at hrun
          have HNO := Lib.hid (show ∀ o, ordB cs d (l.map Kc.plain) o = false from ord_none HF.out fun j h3 h4 => (hat.tried j h3 h4).resolve_left fun e => by rw [Nat.zero_testBit] at e; cases e)
          have HFIN := Lib.hid (show FindDone cs K D d (l.map Kc.plain) L w (.returned (.tuple #[.slice none 0 0, .bool false])) w9 from ⟨false, none, 0, [], L' ++ [(d, X)], rfl, by rw [if_neg Bool.false_ne_true]; exact HNO.out, fun j v hj => by simp [natI, ints] at hj, fun _ => ⟨rfl, rfl⟩, fun _ => Nat.zero_le _, hp9, fun q hq h h1 h2 h3 => by
            rcases List.mem_append.1 hq with hq | hq
            · exact hd' q hq h h1 h2 h3
            · rw [List.mem_singleton] at hq
              subst hq
              have e : h = l.map Kc.plain := keyL_inj _ _ (by rw [h2, List.length_map, HL.out]) (by rw [h3, ← HXE.out])
              rw [e]; exact HNO.out, fun q hq => by
            rcases List.mem_append.1 hq with hq | hq
            · exact (hl' q hq).imp id fun h => h.1
            · rw [List.mem_singleton] at hq
              subst hq
              exact .inr fun j hj => hj, (hat.keep.trans (KeepBut.drew _ wr)).trans hk9⟩)
          clear hat hm' hd' hl' hnone hp9 hk9
          go_upto_region 16 with fail
          go_still_tail 5, (by kernel_rfl)
          go_wp2_with fail
          go_ret2
          exact HFIN.out
        · have hxi : ((x : Int) != 0) = true := by
            rw [bne_iff_ne]; omega
          obtain ⟨hb1, hb2, hb3⟩ := low_bit hx0 hat.lt
          have HTZ := Lib.hid (tz_any x hat.lt hx0 wr (hat.base.bitTab HX.out.bit))
          obtain ⟨n, hn⟩ : ∃ n, Lib.ctz 32 x = n := ⟨_, rfl⟩
          rw [hn] at hb1 hb2 HTZ
          obtain ⟨hun, hnl⟩ := hat.undone n hb1
          have HNX := Lib.hid (next_any wr S A D pk pc ck cc ks cs hat.sat HX.out.len p c l hat.has (fun i hi => by rw [HL.out]; exact HX.out.conts i hi) HSM.out (by rw [HL.out]; exact HX.out.k8) d n hd32 hnl)
          have HAT := Lib.hid hat
          have HB1 := Lib.hid hb1; have HB2 := Lib.hid hb2; have HB3 := Lib.hid hb3; have HUN := Lib.hid hun
          have hxl := hat.lt
          have hsub : IntKind.u32.wrap ((x : Int) - 1) = ((x - 1 : Nat) : Int) := by
            have h9 := wrap32 (x := x - 1) (by omega)
            have e : ((x - 1 : Nat) : Int) = (x : Int) - 1 := by omega
            rw [e] at h9 ⊢
            exact h9
          have hand := bits_and_u32_nat x (x - 1) hxl (by omega)
          have hnn : (0 : Int) ≤ n := by omega
          clear hat hb1 hb2 hb3 hun hn
          go_upto_region 12 with (first
            | (go_at_call 55; refine HTZ.out.mono ?_; rintro e w' ⟨rfl, rfl⟩)
            | (go_at_call 56; refine HNX.out.mono ?_; rintro e w3 h3; obtain ⟨ok, p3, c3, l3, rfl, hh3, hk3, hno⟩ := next_say h3; have HH3 := Lib.hid hh3; have HK4 := Lib.hid hk3; have HNO := Lib.hid hno; clear hh3 hk3 hno h3))
          obtain ⟨L', hm', hd', hl'⟩ := HAT.out.map
          have HM1 := Lib.hid hm'; have HD1 := Lib.hid hd'; have HL1 := Lib.hid hl'
          clear hm' hd' hl' hxi
          cases ok with
          | false =>
            have HREL := Lib.hid (show FindAt wB S A D pk pc ck cc ks cs K d B8 X p l L w w3 (x &&& (x - 1)) from ⟨⟨L', HM1.out.keep HK4.out (fun e => e), HD1.out, HL1.out⟩, HAT.out.base.trans HK4.out, HAT.out.keep.trans (HK4.out.mono fun _ e => e.elim), HK4.out.blk HAT.out.box, HAT.out.sat.stay HK4.out, HAT.out.has.stay HK4.out, Nat.lt_trans HB3.out hxl, fun j hj => by
              rw [HB2.out j, Bool.and_eq_true] at hj
              exact HAT.out.undone j hj.1, fun j h3 h4 => by
              rcases HAT.out.tried j h3 h4 with h5 | h5
              · by_cases e : j = n
                · right
                  intro o
                  rw [e, ord_next hnl, HNO.out]
                  rfl
                · left
                  rw [HB2.out j, h5]; simp [e]
              · exact .inr h5⟩)
            have HMS := HB3
            obtain ⟨x2, hx2⟩ : ∃ x2, x &&& (x - 1) = x2 := ⟨_, rfl⟩
            rw [hx2] at HREL HMS hand
            clear hx2
            go_wp2_with fail
            exact ⟨⟨_, rfl, HREL.out⟩, by simp only [intOf]; have := HMS.out; omega⟩
          | true =>
            have hnx : nextP cs d (l.map Kc.plain) n = some (l3.map Kc.plain) := HNO.out
            have hstep : stepP cs (l.map Kc.plain) n = some (l3.map Kc.plain) := by
              unfold nextP at hnx
              split at hnx
              · exact hnx
              · cases hnx
            obtain ⟨hsm3, hlen3⟩ := step_small HX.out.args HSM.out hstep
            obtain ⟨hg1, hg2⟩ := or_grows HUN.out hnl HD.out
            have hl3 : l3.length = K := by rw [List.length_map, List.length_map, HL.out] at hlen3; exact hlen3
            have hp2 : 2 ^ n < 4294967296 := pow_lt (by omega)
            have hsh : IntKind.u32.wrap ((2 : Int) ^ n) = (2 : Int) ^ n := by
              have h9 := wrap32 hp2
              simpa using h9
            have hor : bits .or .u32 (d : Int) ((2 : Int) ^ n) = ((d ||| 2 ^ n : Nat) : Int) := by
              have h9 := bits_or d (2 ^ n) hd32 hp2
              simpa using h9
            obtain ⟨dn, hdn⟩ : ∃ dn, d ||| 2 ^ n = dn := ⟨_, rfl⟩
            have HDN := Lib.hid hdn
            rw [hdn] at hg1 hg2 hor
            have HIH := Lib.hid (HIH0.out w3 dn p3 c3 l3 L' (by have := HMM.out; omega) hg2 (HAT.out.sat.stay HK4.out) HH3.out hl3 hsm3 (HM1.out.keep HK4.out fun e => e) HD1.out (HAT.out.base.trans HK4.out))
            have HG1 := Lib.hid hg1; have HG2 := Lib.hid hg2; have HNX := Lib.hid hnx
            clear hnx hstep hsm3 hlen3 hl3 hp2 hg1 hg2 hdn
            go_upto_region 14 with (go_at_call 37; refine HIH.out.mono ?_; rintro e w4 ⟨ok4, q4, c4, o4, L4, rfl, h1, h2, h3, h3b, h4, h5, h6, h7⟩; have HF1 := Lib.hid h1; have HF2 := Lib.hid h2; have HF3 := Lib.hid h3; have HF3b := Lib.hid h3b; have HF4 := Lib.hid h4; have HF5 := Lib.hid h5; have HF6 := Lib.hid h6; have HF7 := Lib.hid h7; clear h1 h2 h3 h3b h4 h5 h6 h7)
            cases ok4 with
            | false =>
              have hnw : ¬ D < wB.heap.size := by have := HX.out.new; omega
              have hno : ∀ o, ordB cs dn (l3.map Kc.plain) o = false := HF1.out
              have HREL := Lib.hid (show FindAt wB S A D pk pc ck cc ks cs K d B8 X p l L w w4 (x &&& (x - 1)) from ⟨⟨L4, HF4.out, HF5.out, fun q hq => by
                rcases HF6.out q hq with h | h
                · exact HL1.out q h
                · rw [← HDN.out] at h; exact .inr (sup_or HUN.out h)⟩, (HAT.out.base.trans HK4.out).new HF7.out (fun b e => by have e : b = D := e; omega), (HAT.out.keep.trans (HK4.out.mono fun _ e => e.elim)).trans HF7.out, keep_blk HF7.out (HK4.out.blk HAT.out.box) (fun e => by have e : B8 = D := e; have := HNB.out; omega), sat_keepD (HM1.out.keep HK4.out fun e => e) HF7.out (HAT.out.sat.stay HK4.out) HX.out.ne, has_keepD (HM1.out.keep HK4.out fun e => e) HF7.out (HAT.out.has.stay HK4.out), Nat.lt_trans HB3.out hxl, fun j hj => by
                rw [HB2.out j, Bool.and_eq_true] at hj
                exact HAT.out.undone j hj.1, fun j h3 h4 => by
                rcases HAT.out.tried j h3 h4 with h5 | h5
                · by_cases e : j = n
                  · right
                    intro o
                    rw [e, ord_next hnl, HNX.out]
                    dsimp only
                    rw [HDN.out]
                    exact hno o
                  · left
                    rw [HB2.out j, h5]; simp [e]
                · exact .inr h5⟩)
              have HMS := HB3
              obtain ⟨x2, hx2⟩ : ∃ x2, x &&& (x - 1) = x2 := ⟨_, rfl⟩
              rw [hx2] at HREL HMS hand
              clear hx2 hno
              go_wp2_with fail
              exact ⟨⟨_, rfl, HREL.out⟩, by simp only [intOf]; have := HMS.out; omega⟩
            | true =>
              have hyes : ordB cs dn (l3.map Kc.plain) o4 = true := HF1.out
              have HY := Lib.hid (show ordB cs d (l.map Kc.plain) (n :: o4) = true by
                rw [ord_next hnl, HNX.out]
                dsimp only
                rw [HDN.out]
                exact hyes)
              have HOL := Lib.hid (show o4.length ≤ 16777216 ∧ (n :: o4).length ≤ 2 ^ cs.length - d by
                have h9 := HF3b.out HG2.out
                have h8 := HG1.out
                have h7 : 2 ^ cs.length ≤ 2 ^ 24 := Nat.pow_le_pow_right (by decide) hlen
                have h6 : (2 : Nat) ^ 24 = 16777216 := by decide
                rw [List.length_cons]
                omega)
              clear hyes
              obtain ⟨i0, hi, hz0, hz1, hz2⟩ := info_parts info_int3
              have HI := Lib.hid hi; have HZ0 := Lib.hid hz0; have HZ1 := Lib.hid hz1; have HZ2 := Lib.hid hz2
              have HOWN := Lib.hid (one_row w4 w4.heap.size n (Nat.le_refl _))
              have HSUP := Lib.hid (show ∀ q ∈ L4, q ∈ L ∨ Sup d q.1 from fun q hq => by
                rcases HF6.out q hq with h | h
                · exact (HL1.out q h).imp id fun h => h.1
                · rw [← HDN.out] at h; exact .inr (sup_or HUN.out h).1)
              have HKD := Lib.hid ((HAT.out.keep.trans (HK4.out.mono fun _ e => e.elim)).trans HF7.out)
              clear hi hz0 hz1 hz2
              cases q4 with
              | none =>
                obtain ⟨rfl, rfl⟩ := HF3.out rfl
                go_wp2_with (at_builtin; refine wpList_append_own_none rfl (.tmp 75) (.tmp 76) 22 rfl w4.heap.size 3 i0 1 (by kernel_rfl) HI.out _ 1 _ rfl HOWN.out rfl ?_)
                go_ret2
                have k4 := KeepBut.alloc (fun _ => False) w4 (.cells #[.int .i64 n] 3)
                exact ⟨true, some ⟨w4.heap.size, 0, none⟩, 1, [n], L4, rfl, by rw [if_pos rfl]; exact HY.out, (by
                  obtain ⟨p, c, h1, h2⟩ := OwnI.of_row (xs := [(n : Int)]) HOWN.out
                  cases h1
                  exact h2.rd), (fun e => by cases e), fun _ => HOL.out.2, HF4.out.keep k4 fun e => e, HF5.out, HSUP.out, HKD.out.trans (k4.mono fun _ e => e.elim)⟩
              | some a =>
                have hlen4 : (natI o4).length = o4.length := natI_length o4
                go_wp2_with (at_builtin; go_loud (refine wpList_append_own _ rfl (.tmp 75) (.tmp 76) 22 rfl w4.heap.size 3 i0 (.int .i64 0) 1 8 (by kernel_rfl) HI.out HZ0.out HZ1.out HZ2.out rfl (by decide) _ 1 _ rfl HOWN.out a o4.length c4 (ints (natI o4)) rfl (by rw [ints_length, natI_length]; omega) ((HF2.out.stay (KeepBut.alloc (fun _ => False) w4 _)).adds) (fun u hu => by obtain ⟨z, _, rfl⟩ := List.mem_map.1 hu; rfl) (by have := HOL.out.1; unfold maxLen; omega) (by have := HOL.out.1; omega) (by rw [World.size_alloc]; omega) ?_)
                             intro v5 w5 h1 h2 _
                             have H1 := Lib.hid h1; have H2 := Lib.hid h2
                             clear h1 h2)
                go_ret2
                have hrow : w5.ownsRow w4.heap.size 3 1 v5 (natI (n :: o4)).length (ints (natI (n :: o4))) := by
                  have h9 := H1.out
                  have e : (natI (n :: o4)).length = 1 + o4.length := by rw [natI_length, List.length_cons]; omega
                  rw [e]
                  exact h9
                obtain ⟨p5, c5, rfl, hown5⟩ := OwnI.of_row hrow
                have k5 : KeepBut (fun _ => False) w4 w5 := (KeepBut.alloc (fun _ => False) w4 (.cells #[.int .i64 n] 3)).new (KeepBut.grown (E := fun j => j = w4.heap.size) H2.out fun j e => by cases e; rfl) fun j e => by have e : j = w4.heap.size := e; omega
                exact ⟨true, p5, c5, n :: o4, L4, (by rw [natI_length]; rfl), by rw [if_pos rfl]; exact HY.out, hown5.rd, (fun e => by
                  subst e
                  have h9 := hown5.rd 0 (.int .i64 n) rfl
                  obtain ⟨b, o, h9, -⟩ := h9
                  cases h9), fun _ => HOL.out.2, HF4.out.keep k5 fun e => e, HF5.out, HSUP.out, HKD.out.trans (k5.mono fun _ e => e.elim)⟩

end Go.Proofs.YtoolpifkfgileaaDoor
