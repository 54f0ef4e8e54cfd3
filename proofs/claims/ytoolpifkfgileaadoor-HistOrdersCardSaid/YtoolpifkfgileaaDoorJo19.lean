/- Joined texts of this work: Tab29. -/
import Derived.Test.YtoolpifkfgileaaDoorRows
import Derived.Test.YtoolpifkfgileaaDoorJo12
import Derived.Lib.LaidTab
import Derived.Lib.ItoaNum
import Derived.Lib.SmallJoins
import Derived.ProofKit
import Derived.OpenShut
import Derived.LaidMore
import Derived.Lay
import Derived.Stop.Joined
import Derived.Deep.Slices

/-
  What the rows' condition gives the walks: the table of powers of ten, the table of the lowest bit. Lists of arguments behind a call that only makes memory.
-/
namespace Go.Proofs.YtoolpifkfgileaaDoor
open Go Go.ChangeShapes Go.WideShapes Go.ChangeAt Go.RowKit Own

theorem Tryd.own : ownKnob Tryd.prog.godebug = none := by kernel_rfl
theorem Tryd.laidOut : laidOutB Tryd.prog = true := by kernel_rfl

theorem tab_of_laid {W : World} (h : laidMetH Tryd.prog Rows.histNamesRow.laid W) : TabP W ∧ BitTab W := by
  rw [MakeChecks.laidMetH_plain _ _ _ (by kernel_rfl)] at h
  obtain ⟨ps, ⟨g0, t0, cs0, f0, p0, q0, hg0, ht0, hv0, hd0, ⟨g1, t1, cs1, f1, p1, q1, hg1, ht1, hv1, hd1, ⟨g2, t2, cs2, f2, p2, q2, hg2, ht2, hv2, hd2, _, _⟩, _⟩, _⟩, _, _⟩ := h
  constructor
  · obtain rfl := Option.some.inj ((show Tryd.prog.globalNamed "internal/strconv.uint64pow10" = some 1 by kernel_rfl).symm.trans hg2)
    obtain rfl := Option.some.inj ((show (Tryd.prog.globals[1]?).map (·.type) = some 130 by kernel_rfl).symm.trans ht2)
    show Lib.TabIs Tryd.prog W "internal/strconv.uint64pow10" .u64 Lib.pow10Tab
    unfold Lib.TabIs
    have e : (Rows.laid_internal_strconv_uint64pow10 : DataW Unit) = Lib.tabData .u64 Lib.pow10Tab := by kernel_rfl
    rw [e] at hd2
    rw [hv2, ← Lib.cells_of_tab Tryd.underlying130 Tryd.underlying116 (by kernel_rfl) (by kernel_rfl) hd2]
  · have hgn : Tryd.prog.globalNamed "math/bits.deBruijn32tab" = some 0 := by kernel_rfl
    obtain rfl := Option.some.inj (hgn.symm.trans hg0)
    obtain rfl := Option.some.inj ((show (Tryd.prog.globals[0]?).map (·.type) = some 104 by kernel_rfl).symm.trans ht0)
    have hT : Lib.TabIs Tryd.prog W "math/bits.deBruijn32tab" .u8 (Lib.deBruijn32tab.map fun (n : Nat) => (n : Int)) := by
      unfold Lib.TabIs
      have e : (Rows.laid_math_bits_deBruijn32tab : DataW Unit) = Lib.tabData .u8 (Lib.deBruijn32tab.map fun (n : Nat) => (n : Int)) := by kernel_rfl
      rw [e] at hd0
      rw [hv0, ← Lib.cells_of_tab Tryd.underlying104 Tryd.underlying5 (by kernel_rfl) (by kernel_rfl) hd0]
    intro j hj
    have h9 := hT.cell hgn j (by rw [List.length_map]; exact hj)
    rw [h9]
    congr 2
    simp [List.getD, hj]

theorem in64_of {n : Int} (h : (Lit.int .i64 n).wf = true) : In64 n := by
  simp only [Lit.wf, Bool.and_eq_true, decide_eq_true_eq] at h
  exact ⟨h.1, h.2⟩

theorem trodAll_below {H : Type} {enc : TypeId × Value → H} {P : Program} {W W' : World} (hl : laidOutB P = true) (hb : Below W.heap.size W W') : ∀ (ts : List TypeId) (vs : List Value) (ds : List (DataW H)) (ps : List MemPlace),
    (ts.all fun t => P.readableRec t && decide (t < P.types.size)) = true → DataW.TrodAll enc P W 0 (fun _ => true) true ts vs ds ps → (∀ x ∈ ps, x.block < W.heap.size) → DataW.TrodAll enc P W' 0 (fun b => decide (b < W.heap.size)) true ts vs ds ps
  | [], [], [], _, _, h, _ => h
  | t :: ts, v :: vs, d :: ds, ps, hr, h, hlt => by
    obtain ⟨p, q, h1, h2, e⟩ := h
    simp only [List.all_cons, Bool.and_eq_true, decide_eq_true_eq] at hr
    exact ⟨p, q, Below.trod hl hr.1.1 hr.1.2 h1 hb (fun x hx => hlt x (by rw [e]; exact List.mem_append_left _ hx)), trodAll_below hl hb ts vs ds q hr.2 h2 (fun x hx => hlt x (by rw [e]; exact List.mem_append_right _ hx)), e⟩
  | [], _ :: _, _, _, _, h, _ => h.elim
  | [], [], _ :: _, _, _, h, _ => h.elim
  | _ :: _, [], _, _, _, h, _ => h.elim
  | _ :: _, _ :: _, [], _, _, h, _ => h.elim

/-- the head of a list of arguments -/
theorem trodAll_head {H : Type} {enc : TypeId × Value → H} {P : Program} {W : World} {sp : Nat → Bool} {t : TypeId} {ts : List TypeId} {vs : List Value} {ds : List (DataW H)} {ps : List MemPlace}
    (h : DataW.TrodAll enc P W 0 sp true (t :: ts) vs ds ps) : ∃ v vs' d ds' p q, vs = v :: vs' ∧ ds = d :: ds' ∧ DataW.Trod enc P W 0 sp true t v d p ∧ DataW.TrodAll enc P W 0 sp true ts vs' ds' q := by
  match vs, ds, h with
  | v :: vs', d :: ds', ⟨p, q, h1, h2, _⟩ => exact ⟨v, vs', d, ds', p, q, rfl, rfl, h1, h2⟩
  | [], [], h => exact h.elim
  | [], _ :: _, h => exact h.elim
  | _ :: _, [], h => exact h.elim

theorem trodAll_end {H : Type} {enc : TypeId × Value → H} {P : Program} {W : World} {sp : Nat → Bool} {vs : List Value} {ds : List (DataW H)} {ps : List MemPlace}
    (h : DataW.TrodAll enc P W 0 sp true [] vs ds ps) : vs = [] ∧ ds = [] := by
  match vs, ds, h with
  | [], [], _ => exact ⟨rfl, rfl⟩
  | [], _ :: _, h => exact h.elim
  | _ :: _, _, h => exact h.elim

theorem call_cells : Tryd.prog.cellsOf TCl = 8 := by kernel_rfl
theorem cells1 : Tryd.prog.cellsOf 3 = 1 := by kernel_rfl
theorem cells2 : Tryd.prog.cellsOf 2 = 1 := by kernel_rfl
instance : Inhabited Cl := ⟨Cl.zero⟩

set_option maxRecDepth 100000 in
theorem call_open {H : Type} {enc : TypeId × Value → H} {W : World} {base : Nat} {sp : Nat → Bool} {held : Bool} {fuel : Nat} {cs : List Value} {x : DataW H × List MemPlace} (h : DataW.trod enc Tryd.prog W base sp held fuel TCl cs = some x) :
    ∃ c : Cl, cs = c.vals ∧ In64 c.arg := by
  obtain ⟨xs, n, _, rfl, hlen, hxl, hf⟩ := DataW.trod_struct Tryd.underlying33 h
  rw [call_cells] at hlen
  match cs, hlen, xs, hxl with
  | [v0, v1, v2, v3, v4, v5, v6, v7], _, [y0, y1, y2, y3, y4, y5, y6, y7], _ =>
    have g0 := hf 0 _ rfl
    have g1 := hf 1 _ rfl
    have g2 := hf 2 _ rfl
    have g3 := hf 3 _ rfl
    have g4 := hf 4 _ rfl
    have g5 := hf 5 _ rfl
    have g6 := hf 6 _ rfl
    have g7 := hf 7 _ rfl
    simp only [List.getElem?_cons_zero, List.getElem?_cons_succ] at g0 g1 g2 g3 g4 g5 g6 g7
    obtain ⟨a0, e0, _, _⟩ := DataW.trod_int Tryd.underlying3 g0
    obtain ⟨a1, e1, _, _⟩ := DataW.trod_int Tryd.underlying3 g1
    obtain ⟨a2, e2, _, _⟩ := DataW.trod_int Tryd.underlying3 g2
    obtain ⟨a3, e3, _, w3⟩ := DataW.trod_int Tryd.underlying2 g3
    obtain ⟨a4, e4, _, _⟩ := DataW.trod_int Tryd.underlying3 g4
    obtain ⟨a5, e5, _, _⟩ := DataW.trod_int Tryd.underlying3 g5
    obtain ⟨a6, e6, _, _⟩ := DataW.trod_int Tryd.underlying2 g6
    obtain ⟨a7, e7, _, _⟩ := DataW.trod_int Tryd.underlying3 g7
    cases e0; cases e1; cases e2; cases e3; cases e4; cases e5; cases e6; cases e7
    exact ⟨⟨a0, a1, a2, a3, a4, a5, a6, a7⟩, rfl, in64_of w3⟩

/-- a row of calls, opened -/
theorem calls_open {H : Type} {enc : TypeId × Value → H} {W : World} {fuel : Nat} {cv : List Value} {x : DataW H × List MemPlace}
    (hf : DataW.trod enc Tryd.prog W 0 (fun _ => true) true fuel 23 cv = some x) :
    ∃ (a0 : Option Addr) (cap : Nat) (l : List Cl), cv = [.slice a0 l.length cap] ∧ RowC W a0 l ∧ ArgsIn l := by
  rcases Deep.open_slice calls_ty hf with ⟨hcs, _⟩ | ⟨a, len, cap, m, n, D, Pl, hcs, hb, hl, hm, hmm, hx, hel⟩
  · exact ⟨none, 0, [], hcs, fun i h => absurd h (by simp), fun c h => by cases h⟩
  · simp only [if_true] at hmm
    subst hmm
    have each : ∀ i, i < len → ∃ t : Cl, (∀ j v, t.vals[j]? = some v → W.cell? ((a.add (i * 8)).add j) = some v) ∧ In64 t.arg := fun i hi => by
      obtain ⟨cs', h1, h2⟩ := hel i (by omega)
      rw [call_cells] at h1
      obtain ⟨_, hlen, hcell⟩ := World.cells?_some h1
      obtain ⟨t, rfl, hd⟩ := call_open h2
      exact ⟨t, fun j v hj => by rw [hcell j (by have := (List.getElem?_eq_some_iff.1 hj).1; rw [vals_length] at this; exact this), hj], hd⟩
    obtain ⟨T, hT⟩ := Deep.choose_lt each
    obtain ⟨b, o, s⟩ := a
    refine ⟨some ⟨b, o, s⟩, m, (List.range len).map T, by rw [hcs]; simp, fun i hi => ?_, fun c hc => ?_⟩
    · have hi' : i < len := by simpa using hi
      have hc := (hT i hi').1
      have hs : s = none := by
        have h0 := hc 0 _ rfl
        have h1 := World.cell?_spot h0
        by_cases hz : i = 0
        · subst hz; simpa [Addr.add] using h1
        · have h2 := hT 0 (by omega)
          have h3 := World.cell?_spot (h2.1 0 _ rfl)
          simpa [Addr.add] using h3
      subst hs
      refine ⟨b, o, rfl, ?_⟩
      have e : ∀ j, ((⟨b, o, none⟩ : Addr).add (i * 8)).add j = ⟨b, o + i * 8 + j, none⟩ := fun j => by rw [add_off, add_off]
      have hn : nthC ((List.range len).map T) i = T i := by
        rw [nthC_eq hi, List.getElem_map, List.getElem_range]
      rw [hn]
      have h0 := hc 0 _ rfl; have h1 := hc 1 _ rfl; have h2 := hc 2 _ rfl; have h3 := hc 3 _ rfl; have h4 := hc 4 _ rfl; have h5 := hc 5 _ rfl; have h6 := hc 6 _ rfl; have h7 := hc 7 _ rfl
      rw [e] at h0 h1 h2 h3 h4 h5 h6 h7
      exact ⟨h0, h1, h2, h3, h4, h5, h6, h7⟩
    · obtain ⟨i, hi, rfl⟩ := List.mem_map.1 hc
      exact (hT i (List.mem_range.1 hi)).2

set_option maxRecDepth 100000 in
theorem hist_spot {W : World} {r : Reach} {base : Nat} {k : Value} {q : Option Addr} {n c : Nat} (hv : Value.okWide Tryd.prog W r base THi (.agg #[.slice q n c, k])) : ∀ a, q = some a → a.spot = none := by
  intro a ha
  subst ha
  simp only [Value.okWide, Tryd.underlying25] at hv
  obtain ⟨cs, h1, _, ts, h2, _, h3⟩ := hv
  cases h1
  have ht : ts = [22, 23] := Option.some.inj (h2.symm.trans (by kernel_rfl))
  subst ht
  obtain ⟨u, hu, hc⟩ := h3 0 _ rfl
  simp at hu
  subst hu
  simp only [Cell.okWide, Cell.ok, Tryd.underlying22] at hc
  exact hc.2.2.2.1

set_option maxRecDepth 100000 in
/-- a history, opened -/
theorem open_hist {H : Type} {enc : TypeId × Value → H} {W : World} {r : Reach} {base : Nat} {v : Value} {d : DataW H} {p : List MemPlace} (hv : Value.okWide Tryd.prog W r base THi v)
    (h : DataW.Trod enc Tryd.prog W 0 (fun _ => true) true THi v d p) (hT : TabP W) (hB : BitTab W) :
    ∃ (pk pc : Option Addr) (ck cc : Nat) (ks : List Int) (cs : List Cl), v = histV pk pc ck cc ks cs ∧ (ks.length ≤ 8 → cs.length ≤ 60 → HistIn W pk pc ks cs) := by
  obtain ⟨v0, v1, y0, y1, n, rfl, _, _, h0, h1⟩ := Go.Joins.open_agg2 Tryd.underlying25 (by kernel_rfl) (by kernel_rfl) hv h
  obtain ⟨pc, cc, cs, e1, hc, ha⟩ := calls_open h1
  simp only [List.cons.injEq, and_true] at e1
  subst e1
  rcases open_ints Tryd.underlying22 Tryd.underlying3 cells1 h0 with ⟨hcs, _⟩ | ⟨a, len, cap, zs, hcs, _, hl, _, hz, _, hcell, hwz⟩
  · simp only [List.cons.injEq, and_true] at hcs
    subst hcs
    exact ⟨none, pc, 0, cc, [], cs, rfl, fun h8 h60 => ⟨Rd.empty _ _, hc, h8, h60, (fun k h => by cases h), ha, hT, hB⟩⟩
  · simp only [List.cons.injEq, and_true] at hcs
    subst hcs
    simp only [if_true] at hz
    have hlen : (zs.take len).length = len := by rw [List.length_take]; omega
    refine ⟨some a, pc, cap, cc, zs.take len, cs, by unfold histV; rw [hlen], fun h8 h60 => ⟨fun j u hj => ?_, hc, h8, h60, fun z hm => in64_of (hwz z (List.mem_of_mem_take hm)), ha, hT, hB⟩⟩
    have hs := hist_spot hv a rfl
    obtain ⟨b, o, s⟩ := a
    have hs : s = none := hs
    subst hs
    refine ⟨b, o, rfl, ?_⟩
    have hjl : j < len := by
      rcases Nat.lt_or_ge j len with h | h
      · exact h
      · rw [List.getElem?_eq_none (by rw [ints_length, hlen]; exact h)] at hj; cases hj
    have hcl := hcell j (by omega)
    rw [add_off] at hcl
    rw [hcl]
    have : (ints (zs.take len))[j]? = some (.int .i64 (zs.getD j 0)) := by
      simp [ints, hjl, List.getD, List.getElem?_eq_getElem (show j < zs.length by omega)]
    rw [this] at hj
    exact hj

end Go.Proofs.YtoolpifkfgileaaDoor
