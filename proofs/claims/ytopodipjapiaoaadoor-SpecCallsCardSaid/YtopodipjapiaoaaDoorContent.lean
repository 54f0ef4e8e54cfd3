/-
  Arguments of the statements, opened: contents; lists of arguments behind a call that only makes memory.
-/
import Derived.Test.YtopodipjapiaoaaDoorTab
import Derived.Test.YtopodipjapiaoaaDoorKey
import Derived.Lib.SmallJoins
namespace Go.Proofs.YtopodipjapiaoaaDoor
open Go Go.ChangeShapes Go.WideShapes Go.ChangeAt Go.RowKit Own

theorem Tryd.cells64 : Tryd.prog.cellsOf 2 = 1 := by kernel_rfl

theorem in64_of {n : Int} (h : (Lit.int .i64 n).wf = true) : In64 n := by
  simp only [Lit.wf, Bool.and_eq_true, decide_eq_true_eq] at h
  exact ⟨h.1, h.2⟩

theorem trodAll_below {H : Type} {enc : TypeId × Value → H} {P : Program} {W W' : World} (hl : laidOutB P = true) (hb : Below W.heap.size W W') : ∀ (ts : List TypeId) (vs : List Value) (ds : List (DataW H)) (ps : List MemPlace),
    (ts.all fun t => P.readableRec t && decide (t < P.types.size)) = true → DataW.TrodAll enc P W 0 (fun _ => true) true ts vs ds ps → (∀ x ∈ ps, x.block < W.heap.size) → DataW.TrodAll enc P W' 0 (fun b => decide (b < W.heap.size)) true ts vs ds ps
  | [], [], [], _, _, h, _ => h
  | t :: ts, v :: vs, d :: ds, ps, hr, h, hlt => by
    obtain ⟨p, q, h1, h2, e⟩ := h
    simp only [List.all_cons, Bool.and_eq_true, decide_eq_true_eq] at hr
    exact ⟨p, q, Below.trod hl hr.1.1 hr.1.2 h1 hb (fun x hx => hlt x (by rw [e]; exact List.mem_append_left _ hx)), trodAll_below hl hb ts vs ds q hr.2 h2 (fun x hx => hlt x (by rw [e]; exact List.mem_append_right _ hx)), e⟩
  | [], _ :: _, _, _, _, h, _ => h.elim
  | [], [], _ :: _, _, _, h, _ => h.elim
  | _ :: _, [], _, _, _, h, _ => h.elim
  | _ :: _, _ :: _, [], _, _, h, _ => h.elim

/-- the head of a list of arguments -/
theorem trodAll_head {H : Type} {enc : TypeId × Value → H} {P : Program} {W : World} {sp : Nat → Bool} {t : TypeId} {ts : List TypeId} {vs : List Value} {ds : List (DataW H)} {ps : List MemPlace}
    (h : DataW.TrodAll enc P W 0 sp true (t :: ts) vs ds ps) : ∃ v vs' d ds' p q, vs = v :: vs' ∧ ds = d :: ds' ∧ DataW.Trod enc P W 0 sp true t v d p ∧ DataW.TrodAll enc P W 0 sp true ts vs' ds' q := by
  match vs, ds, h with
  | v :: vs', d :: ds', ⟨p, q, h1, h2, _⟩ => exact ⟨v, vs', d, ds', p, q, rfl, rfl, h1, h2⟩
  | [], [], h => exact h.elim
  | [], _ :: _, h => exact h.elim
  | _ :: _, [], h => exact h.elim

theorem trodAll_end {H : Type} {enc : TypeId × Value → H} {P : Program} {W : World} {sp : Nat → Bool} {vs : List Value} {ds : List (DataW H)} {ps : List MemPlace}
    (h : DataW.TrodAll enc P W 0 sp true [] vs ds ps) : vs = [] ∧ ds = [] := by
  match vs, ds, h with
  | [], [], _ => exact ⟨rfl, rfl⟩
  | [], _ :: _, h => exact h.elim
  | _ :: _, _, h => exact h.elim

theorem content_spot {W : World} {r : Reach} {base : Nat} {k : Value} {q : Option Addr} {n c : Nat} (hv : Value.okWide Tryd.prog W r base 24 (.agg #[k, .slice q n c])) : ∀ a, q = some a → a.spot = none := by
  intro a ha
  subst ha
  simp only [Value.okWide, Tryd.underlying24] at hv
  obtain ⟨cs, h1, _, ts, h2, _, h3⟩ := hv
  cases h1
  have ht : ts = [3, 22] := Option.some.inj (h2.symm.trans (by kernel_rfl))
  subst ht
  obtain ⟨u, hu, hc⟩ := h3 1 _ rfl
  simp at hu
  subst hu
  simp only [Cell.okWide, Cell.ok, Tryd.underlying22] at hc
  exact hc.2.2.2.1

/-- a content, opened -/
theorem open_content {H : Type} {enc : TypeId × Value → H} {W : World} {r : Reach} {base : Nat} {v : Value} {d : DataW H} {p : List MemPlace} (hv : Value.okWide Tryd.prog W r base 24 v)
    (h : DataW.Trod enc Tryd.prog W 0 (fun _ => true) true 24 v d p) :
    ∃ (k : Int) (q : Option Addr) (c : Nat) (xs : List Int), v = .agg #[.int .i64 k, .slice q xs.length c] ∧ Rd W q (ints xs) ∧ (∀ a, q = some a → a.spot = none) ∧ In64 k ∧ ∀ z ∈ xs, In64 z := by
  obtain ⟨v0, v1, y0, y1, n, rfl, _, _, h0, h1⟩ := Go.Joins.open_agg2 Tryd.underlying24 (by kernel_rfl) (by kernel_rfl) hv h
  obtain ⟨k, e0, _, hk⟩ := DataW.trod_int Tryd.underlying3 h0
  simp only [List.cons.injEq, and_true] at e0
  subst e0
  rcases open_ints Tryd.underlying22 Tryd.underlying2 Tryd.cells64 h1 with ⟨hcs, _⟩ | ⟨a, len, cap, zs, hcs, _, hl, _, hz, _, hcell, hwz⟩
  · simp only [List.cons.injEq, and_true] at hcs
    subst hcs
    exact ⟨k, none, 0, [], rfl, Rd.empty _ _, (fun a h => by cases h), in64_of hk, (fun z h => by cases h)⟩
  · simp only [List.cons.injEq, and_true] at hcs
    subst hcs
    simp only [if_true] at hz
    have hlen : (zs.take len).length = len := by rw [List.length_take]; omega
    refine ⟨k, some a, cap, zs.take len, by rw [hlen], fun j u hj => ?_, content_spot hv, in64_of hk, fun z hm => in64_of (hwz z (List.mem_of_mem_take hm))⟩
    have hs := content_spot hv a rfl
    obtain ⟨b, o, s⟩ := a
    have hs : s = none := hs
    subst hs
    refine ⟨b, o, rfl, ?_⟩
    have hjl : j < len := by
      rcases Nat.lt_or_ge j len with h | h
      · exact h
      · rw [List.getElem?_eq_none (by rw [ints_length, hlen]; exact h)] at hj; cases hj
    have hc := hcell j (by omega)
    have e : (⟨b, o, none⟩ : Addr).add j = ⟨b, o + j, none⟩ := by
      unfold Addr.add
      split
      · rename_i h; subst h; rfl
      · rfl
    rw [e] at hc
    rw [hc]
    have : (ints (zs.take len))[j]? = some (.int .i64 (zs.getD j 0)) := by
      simp [ints, hjl, List.getD, List.getElem?_eq_getElem (show j < zs.length by omega)]
    rw [this] at hj
    exact hj

end Go.Proofs.YtopodipjapiaoaaDoor
