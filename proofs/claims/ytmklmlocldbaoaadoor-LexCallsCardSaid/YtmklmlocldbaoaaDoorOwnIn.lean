/-
  The law for regions that draw, inside a round of a loop over an iterator (at the wide fence). No program in sight.
-/
import Derived.Test.YtmklmlocldbaoaaDoorLoud
import Derived.RangeFuncNested
import Derived.OwnWalkIn
namespace Go.Proofs.YtmklmlocldbaoaaDoor
open Go Go.RowKit Own

theorem upon_in {l n : Nat} {P : Program} {o : Oper} {a : Act} {K : Act → World → Prop} {Q : Exit → Act → World → Prop} : ∀ (r : Result Next), o.upon P a K Q r → o.uponIn (Fence.wide.inRound l) n P a K Q r
  | .ok (.value _) _, h => h
  | .ok .skip _, h => h
  | .ok (.defer _) _, h => h
  | .ok (.enter f args) _, h => ⟨fun e => (by cases e), CallsIn.inRound l (callsIn_wide.2 h)⟩
  | .ok (.row row args) _, h => ⟨fun e => (by cases e), fun c cs _ => by
      obtain ⟨v, w', r, s⟩ := h c cs
      exact ⟨v, w', r, stepsIn_wide.2 s⟩⟩
  | .ok (.round _ _ _ _ _) _, h => h.elim
  | .halt x _, h => by cases x <;> first | exact h | exact h.elim

theorem wpOp_in {l n : Nat} {P : Program} {ops : Array Oper} {Q : Exit → Act → World → Prop} (hd : ∀ o ∈ ops.toList, ∀ c, o.op ≠ .defer c) (hq : ¬ LetsOut Q) (i : Nat) {K K' : Act → World → Prop} (hK : ∀ a w, K a w → K' a w) (a : Act) (w : World)
    (h : wpOp P ops Q i K a w) : wpOpIn (Fence.wide.inRound l) n P ops Q i K' a w := by
  unfold wpOp at h
  unfold wpOpIn
  cases ho : ops[i]? with
  | none => rw [ho] at h; exact hK _ _ h
  | some o =>
    rw [ho] at h
    simp only at h ⊢
    by_cases hw : Region.wanted o (yielded ops a.tmps) = true
    · rw [if_pos hw] at h ⊢
      rcases h with h | h
      · refine Oper.wpIn_mono hK (K := K) ?_
        refine ⟨fun _ _ => trivial, ?_⟩
        rw [Oper.semAt_plain _ _ _ (hd o (List.mem_of_getElem? (by rw [Array.getElem?_toList]; exact ho)))]
        exact upon_in _ h
      · exact absurd h.2 hq
    · rw [if_neg hw] at h ⊢
      exact ⟨fun _ _ => trivial, hK _ _ h⟩

theorem wpAny_in {l n : Nat} {P : Program} {md : Region.Mode} {ops : Array Oper} {Q : Exit → Act → World → Prop} (hd : ∀ o ∈ ops.toList, ∀ c, o.op ≠ .defer c) (hq : ¬ LetsOut Q) : ∀ (fuel : Nat) (listed : Array Bool) (a : Act) (w : World),
    wpAny P md ops Q fuel listed a w → wpAnyIn (Fence.wide.inRound l) n P md ops Q fuel listed a w
  | 0, _, _, _, h => h
  | fuel + 1, listed, a, w, ⟨h0, h1⟩ => ⟨h0, fun i hi => wpOp_in hd hq i (fun a w h => wpAny_in hd hq fuel _ a w h) a w (h1 i hi)⟩

def noDefer : Op → Bool
  | .defer _ => false
  | _ => true

theorem wpIn_own1 {l n : Nat} {P : Program} {L : List Oper} {Q : Exit → Act → World → Prop} {id : Nat} {a : Act} {w : World} (hm : P.follows .mixedOrders = true) (hd : (L.all fun o => noDefer o.op) = true) (hq : ¬ LetsOut Q)
    (m : Nat) (x : Obj) (hx : w.heap[m]? = some x)
    (D av ea : Nat → List Nat) (keep : List Nat) (hok : okB L.toArray D av ea keep = true) (sp : Nat → Option Loud)
    (hlex : Lex P L.toArray w.drew (fun k => k = m) sp av ea (fun a F Fp => Done w.drew (fun k => k = m) Q keep a F Fp) L 0 a (aside L.length m x) (asideFp L.length m)) : (Code.region id L.toArray true).wpIn (Fence.wide.inRound l) n P Q a w := by
  refine wpIn_region_any hm (wpAny_in (fun o ho c e => by have := List.all_eq_true.1 hd o ho; rw [e] at this; cases this) hq _ _ _ _ ?_)
  refine any_own (w := w) D av ea keep hok sp (fun k => k = m) (aside L.length m x) (asideFp L.length m) ?_ ?_ (fun j _ => aside_paid L.length m x w w.drew rfl hx j) ?_ hlex.out
  · intro j hj
    have hj' : j < L.length := by simpa using hj
    funext w'; unfold aside; rw [if_neg (by omega)]
  · intro j hj
    have hj' : j < L.length := by simpa using hj
    funext w'; unfold asideFp
    exact propext ⟨fun h => by have := h.1; omega, fun h => h.elim⟩
  · intro j k _ _ hjk b h1 h2
    exact hjk (h1.1.trans h2.1.symm)

theorem lex_still {P : Program} {ops : Array Oper} {w0 : World} {M : Nat → Prop} {sp : Nat → Option Loud} {av ea : Nat → List Nat} {Fin : Act → (Nat → World → Prop) → (Nat → Nat → Prop) → Prop}
    {o : Oper} {rest : List Oper} {i : Nat} {a : Act} {F : Nat → World → Prop} {Fp : Nat → Nat → Prop} (hw : Region.wanted o (yielded ops a.tmps) = true) (hs : sp i = none) (hv : ∀ w, KeepBut M w0 w → (execOp a.eval o).run P w = .ok .skip w)
    (h : Lex P ops w0 M sp av ea Fin rest (i + 1) (a.put o.dst undef) F Fp) : Lex P ops w0 M sp av ea Fin (o :: rest) i a F Fp := by
  refine ⟨?_⟩; rw [LexD, if_pos hw, hs]; exact ⟨undef, fun w hk => .inr ⟨hv w hk, rfl⟩, h.out⟩

theorem Own.KeepBut.below_one {b n₀ : Nat} {W W' : World} (h : KeepBut (fun k => k = b) W W') (h1 : n₀ ≤ b) (h2 : n₀ ≤ W.heap.size) : Below n₀ W W' :=
  ⟨h.os, h.tape, h.output, h.size, fun k hk => h.block k (by omega) (fun e => by have e2 : k = b := e; omega)⟩
theorem Own.KeepBut.from_one {b B : Nat} {W W' : World} {cs : Array Value} {e : TypeId} {z : Nat × Nat} (h : KeepBut (fun k => k = b) W W') (hb : W.heap[b]? = some (.cells cs e z)) : KeepsFrom B W W' :=
  ⟨h.size, fun k o _ hk ho => (h.block k (Array.getElem?_eq_some_iff.1 hk).1 (fun e2 => by have e3 : k = b := e2; subst e3; rw [hb] at hk; cases hk; cases ho)).trans hk⟩

/-- a store of what is there already -/
theorem setCell_same {w : World} {b : Nat} {v : Value} {t : TypeId} {z : Nat × Nat} (h : w.heap[b]? = some (.cells #[v] t z)) : w.setCell ⟨b, 0, none⟩ v = w := by
  have e : (w.setCell ⟨b, 0, none⟩ v).heap = w.heap := by
    apply Array.ext_getElem?
    intro k
    by_cases hk : k = b
    · subst hk
      obtain ⟨hlt, he⟩ := Array.getElem?_eq_some_iff.1 h
      show (w.heap.modify k _)[k]? = _
      rw [Array.getElem?_eq_getElem (by rw [Array.size_modify]; exact hlt), Array.getElem_modify_self, he, h]
      rfl
    · exact Below.heap_setCell _ _ _ k hk
  show ({ w with heap := (w.setCell ⟨b, 0, none⟩ v).heap } : World) = w
  rw [e]

end Go.Proofs.YtmklmlocldbaoaaDoor
