/-
  What a round of a loop over an iterator keeps, where its body collects into a variable: every block but the variable's and the row's that it names. No program in sight.
-/
import Derived.Test.YtmklmlocldbaoaaDoorOwn
import Derived.RangeFuncBox
import Derived.RangeFuncNested
import Derived.OwnWalkIn
import Derived.Maps.AppendAt
namespace Go.Proofs.YtmklmlocldbaoaaDoor
open Go Go.RowKit Own

/-- the block of the row that the variable in block B names -/
def ptrAt (B : Nat) (W : World) : Option Nat := (W.cell? ⟨B, 0, none⟩).bind Value.ownBlock

structure OutKp (B : Nat) (W W' : World) : Prop where
  size : W.heap.size ≤ W'.heap.size
  kept : ∀ (k : Nat) cs e z, W.heap[k]? = some (.cells cs e z) → k ≠ B → ptrAt B W ≠ some k → W'.heap[k]? = some (.cells cs e z)
  ptr : ptrAt B W' = ptrAt B W ∨ ∃ g, ptrAt B W' = some g ∧ W.heap.size ≤ g
  lt : (∀ g, ptrAt B W = some g → g < W.heap.size) → ∀ g, ptrAt B W' = some g → g < W'.heap.size

theorem heap_lt {W : World} {k : Nat} {o : Obj} (h : W.heap[k]? = some o) : k < W.heap.size := (Array.getElem?_eq_some_iff.1 h).1

theorem OutKp.trans {B : Nat} {X Y Z : World} (h : OutKp B X Y) (k : OutKp B Y Z) : OutKp B X Z where
  size := Nat.le_trans h.size k.size
  kept := fun j cs e z hj hB hp => k.kept j cs e z (h.kept j cs e z hj hB hp) hB (by
    rcases h.ptr with e1 | ⟨g, e1, hg⟩
    · rw [e1]; exact hp
    · rw [e1]; intro e2; have := heap_lt hj; cases e2; omega)
  ptr := by
    rcases k.ptr with e1 | ⟨g, e1, hg⟩
    · rcases h.ptr with e2 | ⟨g, e2, hg⟩
      · exact .inl (e1.trans e2)
      · exact .inr ⟨g, e1.trans e2, hg⟩
    · exact .inr ⟨g, e1, Nat.le_trans h.size hg⟩
  lt := fun hl => k.lt (h.lt hl)

theorem ptrAt_same {B : Nat} {W W' : World} (h : W'.heap[B]? = W.heap[B]?) : ptrAt B W' = ptrAt B W := by
  unfold ptrAt World.cell?
  simp only [h]

theorem OutKp.of_blocks {B : Nat} {W W' : World} (hs : W.heap.size ≤ W'.heap.size) (hB : ∃ o, W.heap[B]? = some o) (h : ∀ k < W.heap.size, W'.heap[k]? = W.heap[k]?) : OutKp B W W' := by
  obtain ⟨o, ho⟩ := hB
  have e := ptrAt_same (h B (heap_lt ho))
  exact ⟨hs, fun k cs e z hk _ _ => (h k (heap_lt hk)).trans hk, .inl e, fun hl g hg => Nat.lt_of_lt_of_le (hl g (by rw [← e]; exact hg)) hs⟩
theorem OutKp.refl {B : Nat} {W : World} (hB : ∃ o, W.heap[B]? = some o) : OutKp B W W := OutKp.of_blocks (Nat.le_refl _) hB fun _ _ => rfl
theorem OutKp.put {B : Nat} {W : World} {l : Nat} {o : Obj} (o' : Obj) (hl : W.heap[l]? = some o) (ho : o.isCells = false) (hB : l ≠ B) : OutKp B W (W.putObj l o') := by
  have e : ptrAt B (W.putObj l o') = ptrAt B W := ptrAt_same (World.putObj_heap_other (by omega))
  refine ⟨by simp, fun k cs t z hk _ _ => ?_, .inl e, fun h g hg => Nat.lt_of_lt_of_le (h g (by rw [← e]; exact hg)) (by simp)⟩
  rw [World.putObj_heap_other (fun e2 => ?_)]
  · exact hk
  · subst e2; rw [hl] at hk; cases hk; cases ho

theorem ptrAt_box {W : World} {B : Nat} {t : TypeId} {v : Value} (h : Boxed W B t v) : ptrAt B W = v.ownBlock := by unfold ptrAt; rw [h.cell]; rfl
theorem setCell_other {W : World} {B k : Nat} (v : Value) (h : k ≠ B) : (W.setCell ⟨B, 0, none⟩ v).heap[k]? = W.heap[k]? := Below.heap_setCell _ _ _ k h

theorem OutKp.appended {W w1 : World} {n₀ B : Nat} {t e : TypeId} {size : Nat} {v v' : Value} {k m : Nat} {xs ys : List Value} {tmp : Obj}
    (hv : Boxed W B t v) (hte : t ≠ e) (hrow : W.ownsRow n₀ e size v k xs) (hown' : w1.ownsRow n₀ e size v' m ys) (hgrow : (W.alloc tmp).grownBy w1 v.ownBlock)
    (hat : v'.ownBlock = v.ownBlock ∨ v'.ownBlock = some (W.alloc tmp).heap.size) : OutKp B W (w1.setCell ⟨B, 0, none⟩ v') := by
  have hv1 : Boxed w1 B t v := (hv.alloc tmp).kept hgrow (hv.not_row hte hrow)
  have hv2 := hv1.set v'
  have hp := ptrAt_box hv
  have hp2 := ptrAt_box hv2
  have hsz : W.heap.size ≤ w1.heap.size := by have := hgrow.size; rw [World.size_alloc] at this; omega
  refine ⟨by rw [World.size_setCell]; exact hsz, fun j cs et z hj hB hne => ?_, ?_, fun _ g hg => ?_⟩
  · rw [setCell_other _ hB, hgrow.block j (by rw [World.size_alloc]; exact Nat.lt_succ_of_lt (heap_lt hj)) (by rw [← hp]; exact fun e => hne e.symm)]
    exact (Below.heap_alloc W tmp j (heap_lt hj)).trans hj
  · rw [hp, hp2]
    rcases hat with h | h
    · exact .inl h
    · exact .inr ⟨_, h, by rw [World.size_alloc]; omega⟩
  · rw [hp2] at hg
    rw [World.size_setCell]
    rcases hown'.2 with ⟨rfl, _⟩ | ⟨g', cap, cur, rfl, _, hgb, _⟩
    · cases hg
    · simp only [Value.ownBlock, Option.some.injEq] at hg
      subst hg
      exact heap_lt hgb

theorem wpListIn_append_own' {F : Fence} {n : Nat} {P : Program} (w : World) {ops : Array Oper} {rest : List Oper} {o : Oper} {a : Act} {Q : Exit → Act → World → Prop}
    (hg : o.guard = none) (s x : Operand) (t : TypeId) (hop : o.op = Op.call { callee := Callee.builtin Builtin.append, args := #[s, x], argTypes := #[t, t] })
    (base : Nat) (e : TypeId) (i : TypeInfo) (z : Value) (size bytes : Nat) (h1 : P.underlying t = some (.slice e)) (h2 : P.info? e = some i) (h3 : i.zero = some z) (h4 : i.size = size) (h5 : i.bytes = bytes) (h6 : z.cells.size = size) (h7 : 0 < size)
    (v : Value) (k : Nat) (xs : List Value) (hs : a.eval s = v) (hown : w.ownsRow base e size v k xs) (ad : Addr) (m c : Nat) (news : List Value) (hx : a.eval x = .slice (some ad) m c) (hn : news.length = m * size)
    (hc : ∀ j u, news[j]? = some u → w.cell? (ad.add j) = some u) (h1c : ∀ u ∈ news, u.oneCell' = true) (b1 : k + m ≤ maxLen) (b2 : (k + m) * bytes ≤ 140737488355328) (b3 : base ≤ w.heap.size)
    (hK : ∀ v' w', w'.ownsRow base e size v' (k + m) (xs ++ news) → w.grownBy w' v.ownBlock → (v' = .slice none 0 0 ↔ v = .slice none 0 0 ∧ m = 0) → (v'.ownBlock = v.ownBlock ∨ v'.ownBlock = some w.heap.size) → wpListIn F n P ops Q rest (a.put o.dst v') w') :
    wpListIn F n P ops Q (o :: rest) a w := by
  refine wpListIn_plain hg fun K hK' => ?_
  obtain ⟨v', w', hrun, r1, r2, r3, r4⟩ := run_append_own_at (P := P) w base t o.type e i z size bytes h1 h2 h3 h4 h5 h6 h7 v k xs hown ad m c news hn hc h1c b1 b2 b3
  unfold Oper.wpIn
  refine ⟨?_, ?_⟩
  · simp [Oper.about, hop, resolve, Target.leads, Sem.run_pure]
  · rw [Oper.semAt_plain F _ _ (by rw [hop]; intro c hc'; cases hc')]
    simp [execOp, hop, resolve, invoke, builtin, hs, hx, hrun, Result.andThen]
    exact hK' _ _ (hK v' w' r1 r2 r3 r4)

end Go.Proofs.YtmklmlocldbaoaaDoor
