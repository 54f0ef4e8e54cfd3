/-
  Package hist: begin.
-/
import Derived.Test.YtoolpifkfgileaaDoorHi9
import Derived.Deep.OwnRows
namespace Go.Proofs.YtoolpifkfgileaaDoor
open Go Go.RowKit Own

section
variable {P : Program} {w0 : World} {M : Nat → Prop} {o : Oper} {a : Act} {av ea : List Nat} {F : Nat → World → Prop} {Fp : Nat → Nat → Prop}
/-- a store of one cell into block b -/
def sCell (b i : Nat) (T : TypeId) (cs0 : Array Value) (v : Value) : Loud := { val := fun _ _ => undef, fp := fun _ _ k => k = b, post := fun _ _ w => w.heap[b]? = some (.cells (cs0.setIfInBounds i v) T (0, 0)) }
theorem loud_cell (b i : Nat) (T : TypeId) (cs0 : Array Value) (v : Value) (hrun : ∀ w u, w.cell? ⟨b, i, none⟩ = some u → w.frozen? ⟨b, i, none⟩ = false → (execOp a.eval o).run P w = .ok .skip (w.setCell ⟨b, i, none⟩ v))
    (j : Nat) (hja : j ∈ av) (hje : j ∈ ea) (hF : ∀ w, F j w → w.heap[b]? = some (.cells cs0 T (0, 0))) (hfp : Fp j b) (hi : i < cs0.size) : LoudOk P w0 M o a (sCell b i T cs0 v) av ea F Fp := by
  refine loud_run ⟨default, trivial⟩ (fun g _ w w' _ _ _ h k => (h b rfl).trans k) fun w _ hav _ => ?_
  obtain ⟨hj, hb⟩ := hav j hja
  have hh := hF w hj
  refine ⟨w.setCell ⟨b, i, none⟩ v, default, trivial, .inr ⟨hrun w _ (blk_cell hh (Array.getElem?_eq_getElem hi)) (by simp [World.frozen?, hh]), rfl⟩, KeepBut.setCell _ _ _ ⟨j, hje, hfp⟩, fun k hk => ⟨.inr ⟨j, hje, by rw [show k = b from hk]; exact hfp⟩, ?_⟩, put1 hh v⟩
  rw [show k = b from hk]
  exact Nat.lt_of_lt_of_le (hb b hfp).1 (by simp [World.setCell])
end

theorem box_args {o : Oper} {a : Act} {ty : TypeId} {x : Operand} {v : Value} (ho : o.op = .box ty x) (hx : a.eval x = v) : (argsOf o a).getD 0 undef = v := by simp [argsOf, ho, Op.operands, hx]

/-- a row of words -/
def rowF (f : Nat → Nat) (n : Nat) : Array Value := ((List.range n).map fun j => Value.int .u32 (f j : Nat)).toArray
theorem rowF_size (f : Nat → Nat) (n : Nat) : (rowF f n).size = n := by simp [rowF]
theorem rowF_get (f : Nat → Nat) (n j : Nat) (h : j < n) : (rowF f n)[j]? = some (.int .u32 (f j : Nat)) := by simp [rowF, h]
theorem rowF_set (f : Nat → Nat) (n i v : Nat) : (rowF f n).setIfInBounds i (.int .u32 (v : Nat)) = rowF (fun j => if j = i then v else f j) n := by
  apply Array.ext_getElem?
  intro j
  rw [Array.getElem?_setIfInBounds, rowF_size]
  by_cases hj : j < n
  · rw [rowF_get _ _ _ hj, rowF_get _ _ _ hj]
    by_cases h : i = j
    · subst h; simp [hj]
    · have : ¬ j = i := fun e => h e.symm
      simp [h, this]
  · rw [Array.getElem?_eq_none (by rw [rowF_size]; omega), Array.getElem?_eq_none (by rw [rowF_size]; omega)]
    split
    · split
      · omega
      · rfl
    · rfl
theorem rowF_congr {f g : Nat → Nat} {n : Nat} (h : ∀ j, j < n → f j = g j) : rowF f n = rowF g n := by
  unfold rowF
  congr 1
  exact List.map_congr_left fun j hj => by rw [h j (List.mem_range.1 hj)]
theorem made_row (n : Nat) : madeCells #[Value.int .u32 0] n = rowF (fun _ => 0) n := by
  apply Array.ext_getElem?
  intro j
  by_cases hj : j < n
  · rw [rowF_get _ _ _ hj]
    simp [madeCells, hj, Nat.mod_one]
  · rw [Array.getElem?_eq_none (by simp [madeCells]; omega), Array.getElem?_eq_none (by rw [rowF_size]; omega)]

theorem info_u32 : (Tryd.prog.info? 76).map (fun i => (i.zero, i.size, i.bytes)) = some (some (.int .u32 0), 1, 4) := by kernel_rfl

def sBlk (pk pc : Option Addr) (ck cc A D x : Nat) (ks : List Int) (cs : List Cl) : Array Value := #[.slice pk ks.length ck, .slice pc cs.length cc, .int .u32 (x : Nat), .slice (some ⟨A, 0, none⟩) cs.length cs.length, .map (some D)]

/-- where begin is, between two rounds: calls below i are looked at; of call i those below k -/
structure BegAt (pk pc : Option Addr) (ck cc : Nat) (ks : List Int) (cs : List Cl) (w wr : World) (B1 S A D x : Nat) (f : Nat → Nat) : Prop where
  box : wr.heap[B1]? = some (.cells #[.slice pk ks.length ck, .slice pc cs.length cc] 25 (0, 0))
  blk : wr.heap[S]? = some (.cells (sBlk pk pc ck cc A D x ks cs) 94 (0, 0))
  row : wr.heap[A]? = some (.cells (rowF f cs.length) 76 (0, 0))
  map : PMap wr D []
  keep : KeepBut (fun _ => False) w wr
  ne : (w.heap.size ≤ B1 ∧ w.heap.size ≤ S ∧ w.heap.size ≤ A ∧ w.heap.size ≤ D) ∧ B1 ≠ S ∧ B1 ≠ A ∧ S ≠ A ∧ D ≠ S ∧ D ≠ A ∧ B1 ≠ D

def BegDone (pk pc : Option Addr) (ck cc : Nat) (ks : List Int) (cs : List Cl) (w : World) (e : Ending) (w' : World) : Prop :=
  ∃ S A D, e = .returned (.pointer (some ⟨S, 0, none⟩)) ∧ SAt w' S A D pk pc ck cc ks cs ∧ PMap w' D [] ∧ w.heap.size ≤ D ∧ D ≠ S ∧ D ≠ A ∧ KeepBut (fun _ => False) w w'

set_option maxRecDepth 100000 in
set_option maxHeartbeats 32000000 in
theorem begin_any (w : World) (pk pc : Option Addr) (ck cc : Nat) (ks : List Int) (cs : List Cl) (hc : RowC w pc cs) (hcl : cs.length ≤ 24) :
    Calls Tryd.prog 36 #[histV pk pc ck cc ks cs] w fun e w' => BegDone pk pc ck cc ks cs w e w' := by
  obtain ⟨V1, B1, hV1, hB1, hb1, hk1, hs1⟩ := fresh_block w (.cells #[.slice pk ks.length ck, .slice pc cs.length cc] 25)
  obtain ⟨b0, b1, -⟩ := blk2 hb1
  have HC := Lib.hid hc
  have HB1 := Lib.hid hb1; have HK1 := Lib.hid hk1
  have HN := Lib.hid (show w.heap.size = B1 ∧ V1.heap.size = B1 + 1 by omega)
  have hmk : ∀ W, (Instr.makeSlice 91 (.int .i64 (cs.length : Int)) (.int .i64 (cs.length : Int))).run Tryd.prog W = .ok (.slice (some ⟨W.heap.size, 0, none⟩) cs.length cs.length) (W.alloc (.cells (rowF (fun _ => 0) cs.length) 76)) := fun W => by
    rw [← made_row]
    exact run_make_row' 91 76 (.int .u32 0) 4 Tryd.underlying91 info_u32 rfl .i64 .i64 cs.length (by omega) (by omega) W
  have hmm : ∀ W, (Instr.makeMap 92 none).run Tryd.prog W = .ok (.map (some W.heap.size)) (W.alloc (.map #[] 0)) := fun W => run_makeMap _ W
  unfold histV
  clear hc hb1 hk1 hs1
  go_enter Tryd.func36, Tryd.ntmps36
  go_upto_region 1 with fail
  rw [← hV1, ← hB1]
  clear hV1 hB1
  have z0 : ∀ w', KeepBut (fun _ => False) V1.drew w' → w'.cell? ⟨B1, 0, none⟩ = some (.slice pk ks.length ck) := fun w' h => ((KeepBut.drew _ V1).trans h).stay b0
  have z1 : ∀ w', KeepBut (fun _ => False) V1.drew w' → w'.cell? ⟨B1, 1, none⟩ = some (.slice pc cs.length cc) := fun w' h => ((KeepBut.drew _ V1).trans h).stay b1
  clear b0 b1
  refine wp_own0 (by kernel_rfl) (fun i => [[], [], [1], [1, 2], [1, 2, 3], [], [0, 1, 2, 3, 4, 5], [0, 1, 2, 3, 4, 5, 6], [0, 1, 2, 3, 4, 5, 6, 7]].getD i []) (fun _ => []) (fun _ => []) [4, 5, 7] (by kernel_rfl)
    (fun i => if i = 4 then some { val := fun _ g => .slice (some ⟨g.b, 0, none⟩) cs.length cs.length, fp := fun _ g k => k = g.b, post := fun _ g w => w.heap[g.b]? = some (.cells (rowF (fun _ => 0) cs.length) 76 (0, 0)) }
      else if i = 5 then some { val := fun _ g => .map (some g.b), fp := fun _ g k => k = g.b, post := fun _ g w => w.heap[g.b]? = some (.map #[] 0) }
      else if i = 7 then some { val := fun _ g => .pointer (some ⟨g.b, 0, none⟩), fp := fun _ g k => k = g.b, post := fun args g w => ∃ vs, args.getD 0 undef = .agg vs ∧ w.heap[g.b]? = some (.cells vs 94 (0, 0)) } else none) ?_
  apply lex_quiet rfl rfl
  · intro w' hk; go_simp; with_reducible rfl
  simp only [Act.put, List.setIfInBounds_toArray, List.set_cons_zero, List.set_cons_succ]
  apply lex_quiet rfl rfl
  · intro w' hk; go_simp; with_reducible rfl
  simp only [Act.put, List.setIfInBounds_toArray, List.set_cons_zero, List.set_cons_succ]
  apply lex_quiet rfl rfl
  · intro w' hk; go_simp; with_reducible rfl
  simp only [Act.put, List.setIfInBounds_toArray, List.set_cons_zero, List.set_cons_succ]
  apply lex_quiet rfl rfl
  · intro w' hk; go_simp; with_reducible rfl
  simp only [Act.put, List.setIfInBounds_toArray, List.set_cons_zero, List.set_cons_succ]
  refine lex_loud rfl rfl (loud_new (fun b => .slice (some ⟨b, 0, none⟩) cs.length cs.length) (.cells (rowF (fun _ => 0) cs.length) 76) rfl (fun _ _ => rfl) (fun _ _ _ => Iff.rfl) (fun _ _ _ => Iff.rfl) (fun w => by go_simp)) fun g4 _ => ?_
  simp only [Act.put, List.setIfInBounds_toArray, List.set_cons_zero, List.set_cons_succ]
  refine lex_loud rfl rfl (loud_new (fun b => .map (some b)) (.map #[] 0) rfl (fun _ _ => rfl) (fun _ _ _ => Iff.rfl) (fun _ _ _ => Iff.rfl) (fun w => by go_simp)) fun g5 _ => ?_
  simp only [Act.put, List.setIfInBounds_toArray, List.set_cons_zero, List.set_cons_succ]
  apply lex_quiet rfl rfl
  · intro w' hk; go_simp; with_reducible rfl
  simp only [Act.put, List.setIfInBounds_toArray, List.set_cons_zero, List.set_cons_succ]
  refine lex_loud rfl rfl (loud_run ⟨default, trivial⟩ (fun g _ w w' _ _ _ h k => by obtain ⟨vs, h1, h2⟩ := k; exact ⟨vs, h1, (h g.b rfl).trans h2⟩) fun w' _ _ _ => ⟨w'.alloc (.cells (sBlk pk pc ck cc g4.b g5.b 0 ks cs) 94), { b := w'.heap.size }, trivial, .inl (by go_simp; rfl), KeepBut.alloc _ _ _, fun b hb => ⟨.inl (by have h9 : b = w'.heap.size := hb; omega), by have h9 : b = w'.heap.size := hb; simp; omega⟩, ⟨_, box_args rfl rfl, heap_alloc_new w' _⟩⟩) fun g7 _ => ?_
  simp only [Act.put, List.setIfInBounds_toArray, List.set_cons_zero, List.set_cons_succ]
  apply lex_quiet rfl rfl
  · intro w' hk; go_simp; with_reducible rfl
  simp only [Act.put, List.setIfInBounds_toArray, List.set_cons_zero, List.set_cons_succ]
  refine lex_nil ?_
  intro w9 hk9 hF hdis
  have f4 : w9.heap[g4.b]? = some (.cells (rowF (fun _ => 0) cs.length) 76 (0, 0)) := (hF 4 (by decide)).1
  have f5 : w9.heap[g5.b]? = some (.map #[] 0) := (hF 5 (by decide)).1
  have f7 : w9.heap[g7.b]? = some (.cells (sBlk pk pc ck cc g4.b g5.b 0 ks cs) 94 (0, 0)) := by
    obtain ⟨vs, h1, h2⟩ := (hF 7 (by decide)).1
    have h3 := h1.symm.trans (box_args rfl rfl)
    cases h3
    exact h2
  have n4 : V1.heap.size ≤ g4.b := ((hF 4 (by decide)).2 g4.b rfl).2.resolve_right fun e => e
  have n5 : V1.heap.size ≤ g5.b := ((hF 5 (by decide)).2 g5.b rfl).2.resolve_right fun e => e
  have n7 : V1.heap.size ≤ g7.b := ((hF 7 (by decide)).2 g7.b rfl).2.resolve_right fun e => e
  have n45 : ¬ g4.b = g5.b := hdis 4 (by decide) 5 (by decide) (by decide) g4.b rfl
  have n47 : ¬ g4.b = g7.b := hdis 4 (by decide) 7 (by decide) (by decide) g4.b rfl
  have n57 : ¬ g5.b = g7.b := hdis 5 (by decide) 7 (by decide) (by decide) g5.b rfl
  obtain ⟨A, hA⟩ : ∃ A, g4.b = A := ⟨_, rfl⟩
  obtain ⟨D, hD⟩ : ∃ D, g5.b = D := ⟨_, rfl⟩
  obtain ⟨S, hS⟩ : ∃ S, g7.b = S := ⟨_, rfl⟩
  rw [hA, hD, hS] at f7
  rw [hA] at f4 n4 n45 n47
  rw [hD] at f5 n5 n45 n57
  rw [hS] at n7 n47 n57
  rw [hA, hD, hS]
  have hkV : KeepBut (fun _ => False) V1 w9 := (KeepBut.drew _ V1).trans hk9
  have HBEG := Lib.hid (show BegAt pk pc ck cc ks cs w w9 B1 S A D 0 (fun _ => 0) from ⟨hkV.blk HB1.out, f7, f4, ⟨#[], 0, f5, rfl⟩, HK1.out.trans hkV, by have := HN.out; omega, by have := HN.out; omega, by have := HN.out; omega, by omega, by omega, by omega, by have := HN.out; omega⟩)
  obtain ⟨b0, b1, -⟩ := blk2 (hkV.blk HB1.out)
  clear hk9 hF hdis f4 f5 f7 n4 n5 n7 n45 n47 n57 hA hD hS hkV z0 z1 hmk hmm
  go_upto_block 0 with fail
  clear b0
  go_wp2_with fail
  clear b1
  go_loopw [18] (fun v18 wr => ∃ i : Nat, v18 = .int .i64 i ∧ i ≤ cs.length ∧ BegAt pk pc ck cc ks cs w wr B1 S A D (bitsOf (fun k => (nthC cs k).till != -1) i) (fun j => if j < i then aheadM cs j else 0)) (fun v _ => cs.length - (intOf v).toNat)
  case atStart => exact ⟨0, rfl, Nat.zero_le _, HBEG.out⟩
  case round =>
    obtain ⟨i, rfl, hi, hat⟩ := hrel
    by_cases hlt : i < cs.length
    · have hlti : (i : Int) < cs.length := by omega
      have hi0 : (0 : Int) ≤ i := by omega
      have hWi : IntKind.i64.wrap ((i : Int) + 1) = (i : Int) + 1 := IntWalk.i64_in _ (by omega)
      obtain ⟨g, o, hg, x0, x1, x2, x3, x4, x5, x6, x7⟩ := (HC.out.stay hat.keep) i hlt
      subst hg
      obtain ⟨V5, B5, hV5, hB5, hb5, hk5, hs5⟩ := fresh_block wr (.cells (nthC cs i).vals.toArray 33)
      have hv5 : (nthC cs i).vals.toArray = #[.int .i64 (nthC cs i).hart, .int .i64 (nthC cs i).cont, .int .i64 (nthC cs i).op, .int .i64 (nthC cs i).arg, .int .i64 (nthC cs i).beg, .int .i64 (nthC cs i).till, .int .i64 (nthC cs i).value, .int .i64 (nthC cs i).code] := rfl
      rw [hv5] at hV5
      have HAT := Lib.hid (show BegAt pk (some ⟨g, o, none⟩) ck cc ks cs w V5 B1 S A D (bitsOf (fun k => (nthC cs k).till != -1) i) (fun j => if j < i then aheadM cs j else 0) from ⟨hk5.blk hat.box, hk5.blk hat.blk, hk5.blk hat.row, hat.map.keep hk5 (fun e => e), hat.keep.trans hk5, hat.ne⟩)
      have HN5 := Lib.hid (show S < B5 by
        have h9 : S < wr.heap.size := (Array.getElem?_eq_some_iff.1 hat.blk).1
        omega)
      have HB5 := Lib.hid hb5
      clear hat hk5 hs5 hv5
      go_upto_region 5 with fail
      rw [← hV5, ← hB5]
      clear hV5 hB5 x0 x1 x2 x3 x4 x5 x6 x7
      obtain ⟨c0, c1, c2, c3, c4, c5, c6, c7⟩ := blk8 HB5.out
      obtain ⟨q, hq⟩ : ∃ q, ((nthC cs i).till != -1) = q := ⟨_, rfl⟩
      have HQ := Lib.hid hq
      go_upto_if 25 with fail
      clear c0 c1 c2 c3 c4 c5 c6 c7 hb5 hq
      go_cut [26] from 26 to 34 (fun v26 wx => BegAt pk (some ⟨g, o, none⟩) ck cc ks cs w wx B1 S A D (bitsOf (fun k => (nthC cs k).till != -1) (i + 1)) (fun j => if j < i then aheadM cs j else 0))
      case first =>
        cases q with
        | false =>
          have HR := Lib.hid (show bitsOf (fun k => (nthC cs k).till != -1) (i + 1) = bitsOf (fun k => (nthC cs k).till != -1) i by
            conv => lhs; unfold bitsOf
            rw [HQ.out]; rfl)
          go_wp2_with fail
          go_meet
          case rel => rw [HR.out]; exact HAT.out
        | true =>
          have HR := Lib.hid (show bitsOf (fun k => (nthC cs k).till != -1) (i + 1) = bitsOf (fun k => (nthC cs k).till != -1) i ||| 2 ^ i by
            conv => lhs; unfold bitsOf
            rw [HQ.out]; rfl)
          obtain ⟨x, hx⟩ : ∃ x, bitsOf (fun k => (nthC cs k).till != -1) i = x := ⟨_, rfl⟩
          have hxl : x < 4294967296 := by rw [← hx]; exact Nat.lt_trans (bitsOf_lt _ i) (pow_lt (by omega))
          have hp2 : 2 ^ i < 4294967296 := pow_lt (by omega)
          have hsh : IntKind.u32.wrap ((2 : Int) ^ i) = (2 : Int) ^ i := by
            have h9 := wrap32 hp2
            simpa using h9
          have hor : bits .or .u32 (x : Int) ((2 : Int) ^ i) = ((x ||| 2 ^ i : Nat) : Int) := by
            have h9 := bits_or x (2 ^ i) hxl hp2
            simpa using h9
          have HAT' := Lib.hid (show BegAt pk (some ⟨g, o, none⟩) ck cc ks cs w V5 B1 S A D x (fun j => if j < i then aheadM cs j else 0) by rw [← hx]; exact HAT.out)
          rw [hx] at HR
          go_upto_region 6 with fail
          refine wp_own1 (by kernel_rfl) S _ HAT'.out.blk (fun i => [[], [0], [0, 1], [0, 1, 2], [], [4], [0, 1, 2, 3, 4, 5], [0, 1, 2, 3, 4, 5, 6], [0, 1, 2, 3, 4, 5, 6, 7], [0, 1, 2, 3, 4, 5, 6, 7, 8]].getD i []) (fun i => if i = 3 then [10] else if i = 9 then [10] else []) (fun i => if i = 9 then [10] else []) [9] (by kernel_rfl)
            (fun j => if j = 3 then some (sConst (.int .u32 (x : Nat))) else if j = 9 then some (sCell S 2 94 (sBlk pk (some ⟨g, o, none⟩) ck cc A D x ks cs) (.int .u32 ((x ||| 2 ^ i : Nat) : Int))) else none) ?_
          apply lex_quiet rfl rfl
          · intro w' hk; go_simp; with_reducible rfl
          simp only [Act.put, List.setIfInBounds_toArray, List.set_cons_zero, List.set_cons_succ]
          apply lex_quiet rfl rfl
          · intro w' hk; go_simp; with_reducible rfl
          simp only [Act.put, List.setIfInBounds_toArray, List.set_cons_zero, List.set_cons_succ]
          apply lex_quiet rfl rfl
          · intro w' hk; go_simp; with_reducible rfl
          simp only [Act.put, List.setIfInBounds_toArray, List.set_cons_zero, List.set_cons_succ]
          refine lex_loud rfl rfl (loud_run ⟨default, trivial⟩ (fun g _ => stable_true _) fun w' _ hav _ => ⟨w', default, trivial, .inl (by
            have h9 := (hav 10 (by decide)).1
            have c2 : w'.cell? ⟨S, 2, none⟩ = some (.int .u32 (x : Nat)) := blk_cell (k := 2) h9 rfl
            clear h9
            go_simp; rfl), KeepBut.refl _ _, fun b h => h.elim, trivial⟩) fun _ _ => ?_
          simp only [sConst, Act.put, List.setIfInBounds_toArray, List.set_cons_zero, List.set_cons_succ]
          apply lex_quiet rfl rfl
          · intro w' hk; go_simp; with_reducible rfl
          simp only [Act.put, List.setIfInBounds_toArray, List.set_cons_zero, List.set_cons_succ]
          apply lex_quiet rfl rfl
          · intro w' hk; go_simp; with_reducible rfl
          simp only [Act.put, List.setIfInBounds_toArray, List.set_cons_zero, List.set_cons_succ]
          apply lex_quiet rfl rfl
          · intro w' hk; go_simp; with_reducible rfl
          simp only [Act.put, List.setIfInBounds_toArray, List.set_cons_zero, List.set_cons_succ]
          apply lex_quiet rfl rfl
          · intro w' hk; go_simp; with_reducible rfl
          simp only [Act.put, List.setIfInBounds_toArray, List.set_cons_zero, List.set_cons_succ]
          apply lex_quiet rfl rfl
          · intro w' hk; go_simp; with_reducible rfl
          simp only [Act.put, List.setIfInBounds_toArray, List.set_cons_zero, List.set_cons_succ]
          refine lex_loud rfl rfl (loud_cell S 2 94 (sBlk pk (some ⟨g, o, none⟩) ck cc A D x ks cs) (.int .u32 ((x ||| 2 ^ i : Nat) : Int)) (fun w' u hc hf => by go_simp) 10 (by decide) (by decide) (fun w h => h) ⟨rfl, rfl⟩ (show 2 < 5 by decide)) fun _ _ => ?_
          simp only [sCell]
          refine lex_nil ?_
          intro w9 hk9 hF _
          have f9 : w9.heap[S]? = some (.cells (sBlk pk (some ⟨g, o, none⟩) ck cc A D (x ||| 2 ^ i) ks cs) 94 (0, 0)) := (hF 9 (by decide)).1
          have hkV : KeepBut (fun k => k = S) V5 w9 := (KeepBut.drew _ V5).trans hk9
          have HB9 := Lib.hid (show BegAt pk (some ⟨g, o, none⟩) ck cc ks cs w w9 B1 S A D (x ||| 2 ^ i) (fun j => if j < i then aheadM cs j else 0) from by
            have ha := HAT'.out
            obtain ⟨⟨n1, n2, n3, n4⟩, m1, m2, m3, m4, m5, m6⟩ := ha.ne
            exact ⟨keep_blk hkV ha.box m1, f9, keep_blk hkV ha.row (fun e => m3 e.symm), ha.map.keep hkV m4, ha.keep.new hkV fun k e => by have h9 : k = S := e; omega, ⟨n1, n2, n3, n4⟩, m1, m2, m3, m4, m5, m6⟩)
          clear hk9 hF f9 hkV
          go_wp2_with fail
          go_meet
          case rel => rw [HR.out]; exact HB9.out
      case rest =>
        obtain ⟨x, hx⟩ : ∃ x, bitsOf (fun k => (nthC cs k).till != -1) (i + 1) = x := ⟨_, rfl⟩
        rw [hx] at hcut
        have HX := Lib.hid hx
        have HCUT := Lib.hid hcut
        obtain ⟨b0, b1, -⟩ := blk2 hcut.box
        clear hcut hx
        go_upto_block 2 with fail
        clear b0
        go_wp2_with fail
        clear b1
        go_loopw [38] (fun v38 wx => ∃ k : Nat, v38 = .int .i64 k ∧ k ≤ cs.length ∧ BegAt pk (some ⟨g, o, none⟩) ck cc ks cs w wx B1 S A D x (fun j => if j < i then aheadM cs j else if j = i then bitsOf (fun k => aheadB cs k i) k else 0)) (fun v _ => cs.length - (intOf v).toNat)
        case atStart =>
          refine ⟨0, rfl, Nat.zero_le _, ?_⟩
          have e : (fun j => if j < i then aheadM cs j else if j = i then bitsOf (fun k => aheadB cs k i) 0 else 0) = (fun j => if j < i then aheadM cs j else 0) := by
            funext j
            split
            · rfl
            · split
              · rfl
              · rfl
          rw [e]; exact HCUT.out
        case round =>
          obtain ⟨k, rfl, hk, hat⟩ := hrel
          by_cases hkt : k < cs.length
          · have hkti : (k : Int) < cs.length := by omega
            have hk0 : (0 : Int) ≤ k := by omega
            have hWk : IntKind.i64.wrap ((k : Int) + 1) = (k : Int) + 1 := IntWalk.i64_in _ (by omega)
            obtain ⟨b0, b1, -⟩ := blk2 hat.box
            have HAH := Lib.hid (ahead_in wr pk (some ⟨g, o, none⟩) ck cc ks cs (HC.out.stay hat.keep) k i hkt hlt)
            obtain ⟨q, hq⟩ : ∃ q, aheadB cs k i = q := ⟨_, rfl⟩
            rw [hq] at HAH
            unfold histV at HAH
            have HAT2 := Lib.hid hat
            have HBO := Lib.hid (show bitsOf (fun k => aheadB cs k i) (k + 1) = if q = true then bitsOf (fun k => aheadB cs k i) k ||| 2 ^ k else bitsOf (fun k => aheadB cs k i) k by
              conv => lhs; unfold bitsOf
              rw [hq])
            clear hat hq
            cases q with
            | false =>
              go_wp2_with (go_at_call 26; refine HAH.out.mono ?_; rintro e w2 ⟨rfl, hk2⟩; have HK2 := Lib.hid hk2; clear hk2)
              refine ⟨⟨k + 1, by simp, by omega, ?_⟩, by simp only [intOf]; omega⟩
              rw [HBO.out, if_neg Bool.false_ne_true]
              have ha := HAT2.out
              exact ⟨HK2.out.blk ha.box, HK2.out.blk ha.blk, HK2.out.blk ha.row, ha.map.keep HK2.out (fun e => e), ha.keep.trans HK2.out, ha.ne⟩
            | true =>
              go_upto_region 11 with (go_at_call 26; refine HAH.out.mono ?_; rintro e w2 ⟨rfl, hk2⟩; have HK2 := Lib.hid hk2; clear hk2)
              clear b0 b1
              obtain ⟨y, hy⟩ : ∃ y, bitsOf (fun k => aheadB cs k i) k = y := ⟨_, rfl⟩
              have hyl : y < 4294967296 := by rw [← hy]; exact Nat.lt_trans (bitsOf_lt _ k) (pow_lt (by omega))
              obtain ⟨f, hf⟩ : ∃ f : Nat → Nat, (fun j => if j < i then aheadM cs j else if j = i then bitsOf (fun k => aheadB cs k i) k else 0) = f := ⟨_, rfl⟩
              have hfi : f i = y := by rw [← hf, ← hy]; simp
              have HF := Lib.hid (show (fun j => if j < i then aheadM cs j else if j = i then bitsOf (fun k => aheadB cs k i) (k + 1) else 0) = fun j => if j = i then y ||| 2 ^ k else f j by
                rw [HBO.out, if_pos trivial, hy, ← hf]
                funext j
                by_cases h1 : j = i
                · subst h1; simp
                · simp [h1])
              have HAT3 := Lib.hid (show BegAt pk (some ⟨g, o, none⟩) ck cc ks cs w w2 B1 S A D x f from by
                have ha := HAT2.out
                rw [hf] at ha
                exact ⟨HK2.out.blk ha.box, HK2.out.blk ha.blk, HK2.out.blk ha.row, ha.map.keep HK2.out (fun e => e), ha.keep.trans HK2.out, ha.ne⟩)
              have hp2 : 2 ^ k < 4294967296 := pow_lt (by omega)
              have hsh : IntKind.u32.wrap ((2 : Int) ^ k) = (2 : Int) ^ k := by
                have h9 := wrap32 hp2
                simpa using h9
              have hor : bits .or .u32 (y : Int) ((2 : Int) ^ k) = ((y ||| 2 ^ k : Nat) : Int) := by
                have h9 := bits_or y (2 ^ k) hyl hp2
                simpa using h9
              have hSA : ¬ S = A := HAT3.out.ne.2.2.2.1
              have s3 : ∀ w', KeepBut (fun j => j = A) w2.drew w' → w'.cell? ⟨S, 3, none⟩ = some (.slice (some ⟨A, 0, none⟩) cs.length cs.length) := fun w' h => keep_cell ((KeepBut.drew (fun j => j = A) w2).trans h) (blk_cell (k := 3) HAT3.out.blk rfl) hSA
              have HFI := Lib.hid hfi
              clear hy hf hfi
              refine wp_own1 (by kernel_rfl) A _ HAT3.out.row (fun i => [[], [0], [0, 1], [0, 1, 2], [], [0, 1, 2, 3, 4], [0, 1, 2, 3, 4, 5], [], [7], [0, 1, 2, 3, 4, 5, 6, 7, 8], [0, 1, 2, 3, 4, 5, 6, 7, 8, 9], [0, 1, 2, 3, 4, 5, 6, 7, 8, 9, 10]].getD i []) (fun i => if i = 6 then [12] else if i = 11 then [12] else []) (fun i => if i = 11 then [12] else []) [11] (by kernel_rfl)
                (fun j => if j = 6 then some (sConst (.int .u32 (y : Nat))) else if j = 11 then some (sCell A i 76 (rowF f cs.length) (.int .u32 ((y ||| 2 ^ k : Nat) : Int))) else none) ?_
              apply lex_quiet rfl rfl
              · intro w' hk; go_simp; with_reducible rfl
              simp only [Act.put, List.setIfInBounds_toArray, List.set_cons_zero, List.set_cons_succ]
              apply lex_quiet rfl rfl
              · intro w' hk; go_simp; with_reducible rfl
              simp only [Act.put, List.setIfInBounds_toArray, List.set_cons_zero, List.set_cons_succ]
              apply lex_quiet rfl rfl
              · intro w' hk; go_simp; with_reducible rfl
              simp only [Act.put, List.setIfInBounds_toArray, List.set_cons_zero, List.set_cons_succ]
              apply lex_quiet rfl rfl
              · intro w' hk; go_simp; with_reducible rfl
              simp only [Act.put, List.setIfInBounds_toArray, List.set_cons_zero, List.set_cons_succ]
              apply lex_quiet rfl rfl
              · intro w' hk; go_simp; with_reducible rfl
              simp only [Act.put, List.setIfInBounds_toArray, List.set_cons_zero, List.set_cons_succ]
              apply lex_quiet rfl rfl
              · intro w' hk; go_simp; with_reducible rfl
              simp only [Act.put, List.setIfInBounds_toArray, List.set_cons_zero, List.set_cons_succ]
              refine lex_loud rfl rfl (loud_run ⟨default, trivial⟩ (fun g _ => stable_true _) fun w' _ hav _ => ⟨w', default, trivial, .inl (by
                have h9 := (hav 12 (by decide)).1
                have c2 : w'.cell? ⟨A, i, none⟩ = some (.int .u32 (y : Nat)) := by
                  have h8 := blk_cell h9 (rowF_get f _ i hlt)
                  rw [HFI.out] at h8
                  exact h8
                clear h9
                go_simp; rfl), KeepBut.refl _ _, fun b h => h.elim, trivial⟩) fun _ _ => ?_
              simp only [sConst, Act.put, List.setIfInBounds_toArray, List.set_cons_zero, List.set_cons_succ]
              apply lex_quiet rfl rfl
              · intro w' hk; go_simp; with_reducible rfl
              simp only [Act.put, List.setIfInBounds_toArray, List.set_cons_zero, List.set_cons_succ]
              apply lex_quiet rfl rfl
              · intro w' hk; go_simp; with_reducible rfl
              simp only [Act.put, List.setIfInBounds_toArray, List.set_cons_zero, List.set_cons_succ]
              apply lex_quiet rfl rfl
              · intro w' hk; go_simp; with_reducible rfl
              simp only [Act.put, List.setIfInBounds_toArray, List.set_cons_zero, List.set_cons_succ]
              apply lex_quiet rfl rfl
              · intro w' hk; go_simp; with_reducible rfl
              simp only [Act.put, List.setIfInBounds_toArray, List.set_cons_zero, List.set_cons_succ]
              refine lex_loud rfl rfl (loud_cell A i 76 (rowF f cs.length) (.int .u32 ((y ||| 2 ^ k : Nat) : Int)) (fun w' u hc hf => by go_simp) 12 (by decide) (by decide) (fun w h => h) ⟨rfl, rfl⟩ (by rw [rowF_size]; exact hlt)) fun _ _ => ?_
              simp only [sCell]
              refine lex_nil ?_
              intro w9 hk9 hF _
              have f9 : w9.heap[A]? = some (.cells (rowF (fun j => if j = i then y ||| 2 ^ k else f j) cs.length) 76 (0, 0)) := by
                have h8 := (hF 11 (by decide)).1
                rw [← rowF_set]; exact h8
              have hkV : KeepBut (fun j => j = A) w2 w9 := (KeepBut.drew _ w2).trans hk9
              have HB9 := Lib.hid (show BegAt pk (some ⟨g, o, none⟩) ck cc ks cs w w9 B1 S A D x (fun j => if j = i then y ||| 2 ^ k else f j) from by
                have ha := HAT3.out
                obtain ⟨⟨n1, n2, n3, n4⟩, m1, m2, m3, m4, m5, m6⟩ := ha.ne
                exact ⟨keep_blk hkV ha.box m2, keep_blk hkV ha.blk m3, f9, ha.map.keep hkV m5, ha.keep.new hkV fun k e => by have h9 : k = A := e; omega, ⟨n1, n2, n3, n4⟩, m1, m2, m3, m4, m5, m6⟩)
              clear hk9 hF f9 hkV s3
              go_wp2_with fail
              refine ⟨⟨k + 1, by simp, by omega, ?_⟩, by simp only [intOf]; omega⟩
              rw [HF.out]
              exact HB9.out
          · have hnl : ¬ (k : Int) < cs.length := by omega
            have e : k = cs.length := by omega
            subst e
            have HAT2 := Lib.hid hat
            clear hat
            go_wp2_with fail
            refine ⟨⟨i + 1, by simp, by omega, ?_⟩, by simp only [intOf]; omega⟩
            rw [HX.out]
            have e2 : (fun j => if j < i + 1 then aheadM cs j else 0) = (fun j => if j < i then aheadM cs j else if j = i then bitsOf (fun k => aheadB cs k i) cs.length else 0) := by
              funext j
              by_cases h1 : j = i
              · subst h1; simp [aheadM]
              · have : (j < i + 1) ↔ j < i := by omega
                simp [h1, this]
            rw [e2]
            exact HAT2.out
    · have hnl : ¬ (i : Int) < cs.length := by omega
      have e : i = cs.length := by omega
      subst e
      have HAT := Lib.hid hat
      clear hat
      go_wp2_with fail
      go_ret
      refine ⟨S, A, D, rfl, ⟨HAT.out.blk, fun j hj => ?_, HC.out.stay HAT.out.keep⟩, HAT.out.map, HAT.out.ne.1.2.2.2, HAT.out.ne.2.2.2.2.1, HAT.out.ne.2.2.2.2.2.1, HAT.out.keep⟩
      have := blk_cell HAT.out.row (rowF_get _ _ j hj)
      rw [if_pos hj] at this
      exact this

end Go.Proofs.YtoolpifkfgileaaDoor
