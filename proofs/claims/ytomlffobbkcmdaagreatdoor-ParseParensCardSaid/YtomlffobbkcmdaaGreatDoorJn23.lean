/- Joined texts of this work: Tab17, Argx, Trod. -/
import Derived.Test.YtomlffobbkcmdaaGreatDoorRows
import Derived.Test.YtomlffobbkcmdaaGreatDoorJn15
import Derived.Lib.LaidTab
import Derived.Lib.Fields
import Derived.ProofKit
import Derived.OpenShut
import Derived.LaidMore
import Derived.Lay
import Derived.Stop.Joined
import Derived.Test.YtomlffobbkcmdaaGreatDoorJn18
import Derived.Deep.Slices
import Derived.Lib.SmallJoins

/-
  What the rows' condition gives the walks: the table of blanks and the powers of ten.
-/
namespace Go.Proofs.YtomlffobbkcmdaaGreatDoor
open Go Go.ChangeShapes Go.WideShapes Go.ChangeAt Go.RowKit

theorem Tryz.own : ownKnob Tryz.prog.godebug = none := by kernel_rfl
theorem Tryz.laidOut : laidOutB Tryz.prog = true := by kernel_rfl

theorem tabs_of_laid {W : World} (h : laidMetH Tryz.prog Rows.parseRowsRow.laid W) : TabS W ∧ TabP W := by
  rw [MakeChecks.laidMetH_plain _ _ _ (by kernel_rfl)] at h
  obtain ⟨ps, ⟨g0, t0, cs0, f0, p0, q0, hg0, ht0, hv0, hd0, ⟨g1, t1, cs1, f1, p1, q1, hg1, ht1, hv1, hd1, ⟨g2, t2, cs2, f2, p2, q2, hg2, ht2, hv2, hd2, ⟨g3, t3, cs3, f3, p3, q3, hg3, ht3, hv3, hd3, ⟨g4, t4, cs4, f4, p4, q4, hg4, ht4, hv4, hd4, _, _⟩, _⟩, _⟩, _⟩, _⟩, _, _⟩ := h
  constructor
  · obtain rfl := Option.some.inj ((show Tryz.prog.globalNamed "strings.asciiSpace" = some 1 by kernel_rfl).symm.trans hg4)
    obtain rfl := Option.some.inj ((show (Tryz.prog.globals[1]?).map (·.type) = some 182 by kernel_rfl).symm.trans ht4)
    unfold TabS Lib.TabIs
    have e : (Rows.laid_strings_asciiSpace : DataW Unit) = Lib.tabData .u8 Lib.asciiSpaceTab := by kernel_rfl
    rw [e] at hd4
    rw [hv4, ← Lib.cells_of_tab Tryz.underlying182 Tryz.underlying5 (by kernel_rfl) (by kernel_rfl) hd4]
  · obtain rfl := Option.some.inj ((show Tryz.prog.globalNamed "internal/strconv.uint64pow10" = some 0 by kernel_rfl).symm.trans hg2)
    obtain rfl := Option.some.inj ((show (Tryz.prog.globals[0]?).map (·.type) = some 179 by kernel_rfl).symm.trans ht2)
    unfold TabP Lib.TabIs
    have e : (Rows.laid_internal_strconv_uint64pow10 : DataW Unit) = Lib.tabData .u64 Lib.pow10Tab := by kernel_rfl
    rw [e] at hd2
    rw [hv2, ← Lib.cells_of_tab Tryz.underlying179 Tryz.underlying168 (by kernel_rfl) (by kernel_rfl) hd2]

end Go.Proofs.YtomlffobbkcmdaaGreatDoor

/-
  An expression that comes as an argument, opened.
-/
namespace Go.Proofs.YtomlffobbkcmdaaGreatDoor
open Go Go.ChangeShapes Go.WideShapes Go.ChangeAt Go.RowKit Own

theorem ex_cells : Tryz.prog.cellsOf 24 = 7 := by kernel_rfl
theorem exs_ty : Tryz.prog.underlying 22 = some (.slice 24) := by kernel_rfl

/-- kids from what stands in each place -/
theorem gkids_of {w : World} {S : Nat → Prop} {p : Option Addr} : ∀ (l : List Gx) (j : Nat), (∀ i (h : i < l.length), ∃ g o vs, p = some ⟨g, o, none⟩ ∧ S g ∧ (∀ k v, vs[k]? = some v → w.cell? ⟨g, o + (j + i) * 7 + k, none⟩ = some v) ∧ GAt w S vs l[i]) → GKids w S p j l
  | [], _, _ => by unfold GKids; trivial
  | x :: l, j, h => by
    unfold GKids
    refine ⟨?_, gkids_of l (j + 1) fun i hi => ?_⟩
    · obtain ⟨g, o, vs, h1, h2, h3, h4⟩ := h 0 (by simp)
      exact ⟨g, o, vs, h1, h2, h3, h4⟩
    · obtain ⟨g, o, vs, h1, h2, h3, h4⟩ := h (i + 1) (by simpa using hi)
      refine ⟨g, o, vs, h1, h2, fun k v hk => ?_, by simpa using h4⟩
      rw [show j + 1 + i = j + (i + 1) by omega]
      exact h3 k v hk
theorem fitGL_of : ∀ l : List Gx, (∀ x ∈ l, fitG x) → fitGL l
  | [], _ => by unfold fitGL; trivial
  | x :: l, h => by
    unfold fitGL
    exact ⟨h x (by simp), fitGL_of l fun y hy => h y (by simp [hy])⟩

instance : Inhabited Gx := ⟨.mk 0 0 0 [] 0 0 []⟩

set_option maxRecDepth 10000 in
/-- an expression, opened -/
theorem ex_open {H : Type} {enc : TypeId × Value → H} {W : World} {base : Nat} {sp : Nat → Bool} {held : Bool} : ∀ (fuel : Nat) {cs : List Value} {x : DataW H × List MemPlace}, DataW.trod enc Tryz.prog W base sp held fuel 24 cs = some x →
    ∃ g : Gx, GAt W (fun _ => True) cs g ∧ fitG g := by
  intro fuel
  induction fuel using Nat.strongRecOn with
  | _ fuel ih =>
  intro cs x h
  obtain ⟨xs, n, rfl, rfl, hlen, hxl, hf⟩ := DataW.trod_struct Tryz.underlying24 h
  rw [ex_cells] at hlen
  have c3 : Tryz.prog.cellsOf 3 = 1 := by kernel_rfl
  have c9 : Tryz.prog.cellsOf 9 = 1 := by kernel_rfl
  have c6 : Tryz.prog.cellsOf 2 = 1 := by kernel_rfl
  have c2 : Tryz.prog.cellsOf 22 = 1 := by kernel_rfl
  match cs, hlen, xs, hxl with
  | [v0, v1, v2, v3, v4, v5, v6], _, [y0, y1, y2, y3, y4, y5, y6], _ =>
    have g0 := hf 0 _ rfl
    have g1 := hf 1 _ rfl
    have g2 := hf 2 _ rfl
    have g3 := hf 3 _ rfl
    have g4 := hf 4 _ rfl
    have g5 := hf 5 _ rfl
    have g6 := hf 6 _ rfl
    simp only [List.getElem?_cons_zero, List.getElem?_cons_succ] at g0 g1 g2 g3 g4 g5 g6
    obtain ⟨k, e0, -, _⟩ := DataW.trod_int Tryz.underlying3 g0
    obtain ⟨o, e1, -, _⟩ := DataW.trod_int Tryz.underlying3 g1
    obtain ⟨m, e2, -, hm⟩ := DataW.trod_int Tryz.underlying2 g2
    obtain ⟨s, e3, -, _⟩ := DataW.trod_string Tryz.underlying9 g3
    obtain ⟨l, e5, -, _⟩ := DataW.trod_int Tryz.underlying3 g5
    obtain ⟨c, e6, -, _⟩ := DataW.trod_int Tryz.underlying3 g6
    cases e0; cases e1; cases e2; cases e3; cases e5; cases e6
    have hmx : m ≤ 9223372036854775807 := by
      simp only [Lit.wf, Bool.and_eq_true, decide_eq_true_eq] at hm
      exact hm.2
    have hstr : (Value.string s) = strV s.data.toList := by
      unfold strV
      cases s
      simp
    rcases DataW.trod_slice exs_ty g4 with ⟨e4, -⟩ | ⟨a, len, cap, elems, rest, q, hq, e4, -, hb, hl, hmax, hel, hee, -, -⟩
    · cases e4
      refine ⟨.mk k o m s.data.toList l c [], ?_, ?_⟩
      · unfold GAt
        exact ⟨none, 0, by rw [hstr]; rfl, by unfold GKids; trivial⟩
      · unfold fitG
        exact ⟨hmx, by unfold fitGL; trivial⟩
    · cases e4
      have each : ∀ i, i < len → ∃ t : Gx, ∃ vs, (∀ j v, vs[j]? = some v → W.cell? ((a.add (i * 7)).add j) = some v) ∧ vs.length = 7 ∧ GAt W (fun _ => True) vs t ∧ fitG t := fun i hi => by
        have h1 := hee i (by omega)
        obtain ⟨cs', h2, h3⟩ := Option.bind_eq_some_iff.1 (h1.trans (List.getElem?_eq_getElem (by omega)))
        rw [ex_cells] at h2
        obtain ⟨_, hlen', hcell⟩ := World.cells?_some h2
        obtain ⟨t, ht, hft⟩ := ih q (by omega) h3
        exact ⟨t, cs', fun j v hj => by rw [hcell j (by have := (List.getElem?_eq_some_iff.1 hj).1; omega), hj], hlen', ht, hft⟩
      obtain ⟨T, hT⟩ := Deep.choose_lt each
      obtain ⟨b, off, sp'⟩ := a
      refine ⟨.mk k o m s.data.toList l c ((List.range len).map T), ?_, ?_⟩
      · unfold GAt
        refine ⟨some ⟨b, off, sp'⟩, cap, by rw [hstr]; simp, gkids_of _ 0 fun i hi => ?_⟩
        have hi' : i < len := by simpa using hi
        obtain ⟨vs, h1, h2, h3, -⟩ := hT i hi'
        have hs : sp' = none := by
          obtain ⟨vs0, h10, h20, -⟩ := hT 0 (by omega)
          have h4 := World.cell?_spot (h10 0 vs0[0] (by simp))
          simpa [Addr.add] using h4
        subst hs
        refine ⟨b, off, vs, rfl, trivial, fun j v hj => ?_, by simpa using h3⟩
        have h5 := h1 j v hj
        rw [add_off, add_off] at h5
        rw [Nat.zero_add]
        exact h5
      · unfold fitG
        refine ⟨hmx, fitGL_of _ fun y hy => ?_⟩
        obtain ⟨i, hi, rfl⟩ := List.mem_map.1 hy
        obtain ⟨_, _, _, _, h⟩ := hT i (List.mem_range.1 hi)
        exact h

end Go.Proofs.YtomlffobbkcmdaaGreatDoor

/-
  Arguments of the statements: lists of arguments behind a call that only makes memory.
-/
namespace Go.Proofs.YtomlffobbkcmdaaGreatDoor
open Go Go.ChangeShapes Go.WideShapes Go.ChangeAt Go.RowKit

theorem trodAll_below {H : Type} {enc : TypeId × Value → H} {P : Program} {W W' : World} (hl : laidOutB P = true) (hb : Below W.heap.size W W') : ∀ (ts : List TypeId) (vs : List Value) (ds : List (DataW H)) (ps : List MemPlace),
    (ts.all fun t => P.readableRec t && decide (t < P.types.size)) = true → DataW.TrodAll enc P W 0 (fun _ => true) true ts vs ds ps → (∀ x ∈ ps, x.block < W.heap.size) → DataW.TrodAll enc P W' 0 (fun b => decide (b < W.heap.size)) true ts vs ds ps
  | [], [], [], _, _, h, _ => h
  | t :: ts, v :: vs, d :: ds, ps, hr, h, hlt => by
    obtain ⟨p, q, h1, h2, e⟩ := h
    simp only [List.all_cons, Bool.and_eq_true, decide_eq_true_eq] at hr
    exact ⟨p, q, Below.trod hl hr.1.1 hr.1.2 h1 hb (fun x hx => hlt x (by rw [e]; exact List.mem_append_left _ hx)), trodAll_below hl hb ts vs ds q hr.2 h2 (fun x hx => hlt x (by rw [e]; exact List.mem_append_right _ hx)), e⟩
  | [], _ :: _, _, _, _, h, _ => h.elim
  | [], [], _ :: _, _, _, h, _ => h.elim
  | _ :: _, [], _, _, _, h, _ => h.elim
  | _ :: _, _ :: _, [], _, _, h, _ => h.elim

/-- the head of a list of arguments -/
theorem trodAll_head {H : Type} {enc : TypeId × Value → H} {P : Program} {W : World} {sp : Nat → Bool} {t : TypeId} {ts : List TypeId} {vs : List Value} {ds : List (DataW H)} {ps : List MemPlace}
    (h : DataW.TrodAll enc P W 0 sp true (t :: ts) vs ds ps) : ∃ v vs' d ds' p q, vs = v :: vs' ∧ ds = d :: ds' ∧ DataW.Trod enc P W 0 sp true t v d p ∧ DataW.TrodAll enc P W 0 sp true ts vs' ds' q := by
  match vs, ds, h with
  | v :: vs', d :: ds', ⟨p, q, h1, h2, _⟩ => exact ⟨v, vs', d, ds', p, q, rfl, rfl, h1, h2⟩
  | [], [], h => exact h.elim
  | [], _ :: _, h => exact h.elim
  | _ :: _, [], h => exact h.elim

theorem trodAll_end {H : Type} {enc : TypeId × Value → H} {P : Program} {W : World} {sp : Nat → Bool} {vs : List Value} {ds : List (DataW H)} {ps : List MemPlace}
    (h : DataW.TrodAll enc P W 0 sp true [] vs ds ps) : vs = [] ∧ ds = [] := by
  match vs, ds, h with
  | [], [], _ => exact ⟨rfl, rfl⟩
  | [], _ :: _, h => exact h.elim
  | _ :: _, _, h => exact h.elim

end Go.Proofs.YtomlffobbkcmdaaGreatDoor
