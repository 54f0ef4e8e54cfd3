/-
  Arguments of the statements, opened: rows of tokens.
-/
import Derived.Test.YtmklmlocldbaoaaDoorLike
import Derived.Test.YtmklmlocldbaoaaDoorTrod
import Derived.Deep.Slices
import Derived.SizedLaws
namespace Go.Proofs.YtmklmlocldbaoaaDoor
open Go Go.ChangeShapes Go.WideShapes Go.ChangeAt Go.RowKit Own

theorem tok_cells : Tryd.prog.cellsOf 30 = 5 := by kernel_rfl
theorem toks_ty : Tryd.prog.underlying 23 = some (.slice 30) := by kernel_rfl

instance : Inhabited G := ⟨⟨0, ⟨#[]⟩, 0, 0, 0⟩⟩

def G.datum {H : Type} (t : G) : DataW H := .agg [.lit (.int .i64 t.k), .lit (.string t.s.data.toList), .lit (.int .i64 t.n), .lit (.int .i64 t.l), .lit (.int .i64 t.c)]

theorem tok_open {H : Type} {enc : TypeId × Value → H} {W : World} {base : Nat} {sp : Nat → Bool} {held : Bool} {fuel : Nat} {cs : List Value} {x : DataW H × List MemPlace} (h : DataW.trod enc Tryd.prog W base sp held fuel 30 cs = some x) :
    ∃ t : G, cs = [.int .i64 t.k, .string t.s, .int .i64 t.n, .int .i64 t.l, .int .i64 t.c] ∧ x.1 = t.datum := by
  obtain ⟨xs, n, _, rfl, hlen, hxl, hf⟩ := DataW.trod_struct Tryd.underlying30 h
  rw [tok_cells] at hlen
  have c3 : Tryd.prog.cellsOf 3 = 1 := by kernel_rfl
  have c9 : Tryd.prog.cellsOf 9 = 1 := by kernel_rfl
  have c6 : Tryd.prog.cellsOf 2 = 1 := by kernel_rfl
  match cs, hlen, xs, hxl with
  | [v0, v1, v2, v3, v4], _, [y0, y1, y2, y3, y4], _ =>
    have g0 := hf 0 _ rfl
    have g1 := hf 1 _ rfl
    have g2 := hf 2 _ rfl
    have g3 := hf 3 _ rfl
    have g4 := hf 4 _ rfl
    simp only [c3, c9, c6, List.drop_zero, List.drop_succ_cons, List.take_succ_cons, List.take_zero, List.getElem?_cons_zero, List.getElem?_cons_succ] at g0 g1 g2 g3 g4
    obtain ⟨k, e0, r0, _⟩ := DataW.trod_int Tryd.underlying3 g0
    obtain ⟨s, e1, r1, _⟩ := DataW.trod_string Tryd.underlying9 g1
    obtain ⟨m, e2, r2, _⟩ := DataW.trod_int Tryd.underlying2 g2
    obtain ⟨l, e3, r3, _⟩ := DataW.trod_int Tryd.underlying3 g3
    obtain ⟨c, e4, r4, _⟩ := DataW.trod_int Tryd.underlying3 g4
    cases e0; cases e1; cases e2; cases e3; cases e4
    subst r0; subst r1; subst r2; subst r3; subst r4
    exact ⟨⟨k, s, m, l, c⟩, rfl, rfl⟩

theorem weightsAll_mem {H : Type} {P : Program} {e : TypeId} : ∀ {l : List (DataW H)} {d : DataW H} {n : Nat}, d ∈ l → n ∈ d.weights P e → n ∈ DataW.weightsAll P e l
  | d' :: l, d, n, h, hn => by
    rw [DataW.weightsAll]
    rcases List.mem_cons.1 h with rfl | h
    · exact List.mem_append_left _ hn
    · exact List.mem_append_right _ (weightsAll_mem h hn)

theorem datum_weight {H : Type} (t : G) : t.s.size ∈ (t.datum (H := H)).weights Tryd.prog 30 := by
  unfold G.datum DataW.weights
  rw [Tryd.underlying30]
  simp [DataW.weightsEach, DataW.weights]

/-- a row of tokens, opened -/
theorem toks_open {H : Type} {enc : TypeId × Value → H} {W : World} {fuel : Nat} {a0 : Option Addr} {len cap : Nat} {d : DataW H} {p : List MemPlace}
    (hf : DataW.trod enc Tryd.prog W 0 (fun _ => true) true fuel 23 (Value.slice a0 len cap).cells.toList = some (d, p)) :
    ∃ l : List G, l.length = len ∧ RowG W a0 l ∧ ∀ x ∈ l, x.s.size ∈ d.weights Tryd.prog 23 := by
  rcases Deep.open_slice toks_ty hf with ⟨hcs, _⟩ | ⟨a, len', cap', m, n, D, Pl, hcs, hb, hl, hm, hmm, hx, hel⟩
  · simp [Value.cells] at hcs
    obtain ⟨rfl, rfl, rfl⟩ := hcs
    exact ⟨[], rfl, fun i h => absurd h (by simp), fun x h => by cases h⟩
  · simp [Value.cells] at hcs
    obtain ⟨rfl, rfl, rfl⟩ := hcs
    simp only [if_true] at hmm
    subst hmm
    have each : ∀ i, i < len → ∃ t : G, (∀ j v, [Value.int .i64 t.k, .string t.s, .int .i64 t.n, .int .i64 t.l, .int .i64 t.c][j]? = some v → W.cell? ((a.add (i * 5)).add j) = some v) ∧ D i = t.datum := fun i hi => by
      obtain ⟨cs', h1, h2⟩ := hel i (by omega)
      rw [tok_cells] at h1
      obtain ⟨_, hlen, hcell⟩ := World.cells?_some h1
      obtain ⟨t, rfl, hd⟩ := tok_open h2
      exact ⟨t, fun j v hj => by rw [hcell j (by have := (List.getElem?_eq_some_iff.1 hj).1; simpa using this), hj], hd⟩
    obtain ⟨T, hT⟩ := Deep.choose_lt each
    obtain ⟨b, o, s⟩ := a
    refine ⟨(List.range len).map T, by simp, fun i hi => ?_, fun x hx' => ?_⟩
    · have hi' : i < len := by simpa using hi
      have hc := (hT i hi').1
      have hs : s = none := by
        have h0 := hc 0 _ rfl
        have h1 := World.cell?_spot h0
        by_cases hz : i = 0
        · subst hz; simpa [Addr.add] using h1
        · have h2 := hT 0 (by omega)
          have h3 := World.cell?_spot (h2.1 0 _ rfl)
          simpa [Addr.add] using h3
      subst hs
      refine ⟨b, o, rfl, ?_⟩
      rw [List.getElem_map, List.getElem_range]
      have e : ∀ j, ((⟨b, o, none⟩ : Addr).add (i * 5)).add j = ⟨b, o + i * 5 + j, none⟩ := fun j => by rw [add_off, add_off]
      have h0 := hc 0 _ rfl; have h1 := hc 1 _ rfl; have h2 := hc 2 _ rfl; have h3 := hc 3 _ rfl; have h4 := hc 4 _ rfl
      rw [e] at h0 h1 h2 h3 h4
      exact ⟨h0, h1, h2, h3, h4⟩
    · obtain ⟨i, hi, rfl⟩ := List.mem_map.1 hx'
      have hi' := List.mem_range.1 hi
      have hd : d = _ := congrArg Prod.fst hx
      rw [hd]
      simp only [DataW.weights]
      rw [toks_ty]
      simp only
      refine List.mem_cons_of_mem _ (List.mem_append_left _ ?_)
      refine weightsAll_mem (List.mem_map.2 ⟨i, hi, rfl⟩) ?_
      rw [(hT i hi').2]
      exact datum_weight _

end Go.Proofs.YtmklmlocldbaoaaDoor
