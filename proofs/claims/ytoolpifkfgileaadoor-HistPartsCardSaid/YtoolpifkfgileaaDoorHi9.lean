/-
  Package hist: the map of dead points.
-/
import Derived.Test.YtoolpifkfgileaaDoorHi8
import Derived.WideKeyRuns
import Derived.Laws.StructEq
namespace Go.Proofs.YtoolpifkfgileaaDoor
open Go Go.RowKit Own

abbrev TP : TypeId := 97
def keyV (d : Nat) (s : ByteArray) : Value := .agg #[.int .u32 d, .string s]
def sameP (d : Nat) (s : ByteArray) (p : Nat × ByteArray) : Bool := (d : Int) == (p.1 : Int) && s.toList == p.2.toList
def hasP (L : List (Nat × ByteArray)) (d : Nat) (s : ByteArray) : Bool := L.any (sameP d s)

theorem sameP_iff {d : Nat} {s : ByteArray} {p : Nat × ByteArray} : sameP d s p = true ↔ d = p.1 ∧ s.data.toList = p.2.data.toList := by
  unfold sameP
  rw [Bool.and_eq_true, beq_iff_eq, beq_iff_eq, ByteArray.toList_eq, ByteArray.toList_eq]
  constructor
  · rintro ⟨h1, h2⟩; exact ⟨by omega, h2⟩
  · rintro ⟨h1, h2⟩; exact ⟨by omega, h2⟩

theorem eqP (a x : Int) (s t : ByteArray) (w : World) : (Op.equalIn 10000 TP (.agg #[.int .u32 a, .string s]) (.agg #[.int .u32 x, .string t])).run Tryd.prog w = .ok (a == x && s.toList == t.toList) w := by
  have u3 := Tryd.underlying76; have a3 := Tryd.isAgg76; have z3 := Tryd.sizeOf76
  have u9 := Tryd.underlying9; have a9 := Tryd.isAgg9; have z9 := Tryd.sizeOf9
  have hS : Tryd.prog.underlying TP = some (.struct (Tryd.prog.fieldsOf TP)) := by kernel_rfl
  rw [show (10000 : Nat) = 9999 + 1 from rfl, run_equalIn_agg w 9999 TP _ _ hS (by kernel_rfl)]
  simp only [Program.fieldsOf, Tryd.underlying97]
  go_simp
  by_cases h1 : a = x <;> by_cases h2 : s.toList = t.toList <;> simp [h1, h2]

def PMap (w : World) (b : Nat) (L : List (Nat × ByteArray)) : Prop :=
  ∃ es clock, w.heap[b]? = some (.map es clock) ∧ es.toList.map (fun e => (e.key, e.val)) = L.map (fun p => (keyV p.1 p.2, Value.int .i64 1))
theorem PMap.of_same {w w' : World} {b : Nat} {L : List (Nat × ByteArray)} (h : PMap w b L) (hb : w'.heap[b]? = w.heap[b]?) : PMap w' b L := by
  obtain ⟨es, c, h2, h3⟩ := h
  exact ⟨es, c, hb.trans h2, h3⟩
theorem PMap.lt {w : World} {b : Nat} {L : List (Nat × ByteArray)} (h : PMap w b L) : b < w.heap.size := by
  obtain ⟨es, c, h2, _⟩ := h
  exact (Array.getElem?_eq_some_iff.1 h2).1
theorem PMap.keep {w w' : World} {b : Nat} {L : List (Nat × ByteArray)} {E : Nat → Prop} (h : PMap w b L) (hk : KeepBut E w w') (hE : ¬ E b) : PMap w' b L := h.of_same (hk.block b h.lt hE)
theorem PMap.made (w : World) : PMap (w.alloc (.map #[] 0)) w.heap.size [] := ⟨#[], 0, heap_alloc_new w _, rfl⟩

def pix (d : Nat) (s : ByteArray) : List (Nat × ByteArray) → Nat → Option (Nat × Value)
  | [], _ => none
  | p :: L, i => if sameP d s p = true then some (i, .int .i64 1) else pix d s L (i + 1)
theorem pix_some (d : Nat) (s : ByteArray) : ∀ (L : List (Nat × ByteArray)) (i : Nat), hasP L d s = true → ∃ j, pix d s L i = some (j, .int .i64 1)
  | p :: L, i, h => by
    unfold pix
    by_cases hp : sameP d s p = true
    · exact ⟨i, by rw [if_pos hp]⟩
    · rw [if_neg hp]
      refine pix_some d s L (i + 1) ?_
      unfold hasP at h ⊢
      rw [List.any_cons] at h
      simpa [hp] using h
theorem pix_none (d : Nat) (s : ByteArray) : ∀ (L : List (Nat × ByteArray)) (i : Nat), hasP L d s = false → pix d s L i = none
  | [], _, _ => rfl
  | p :: L, i, h => by
    unfold hasP at h
    rw [List.any_cons, Bool.or_eq_false_iff] at h
    unfold pix
    rw [if_neg (by rw [h.1]; exact Bool.false_ne_true)]
    exact pix_none d s L (i + 1) h.2

theorem asking (d : Nat) (s : ByteArray) (w : World) : ∀ (es : List MapEntry) (L : List (Nat × ByteArray)) (i : Nat), es.map (fun e => (e.key, e.val)) = L.map (fun p => (keyV p.1 p.2, Value.int .i64 1)) →
    (Instr.findAsking TP (keyV d s) es i).run Tryd.prog w = .ok (pix d s L i) w
  | [], [], i, _ => by simp [Instr.findAsking, pix]
  | [], p :: L, _, h => by simp at h
  | e :: es, [], _, h => by simp at h
  | e :: es, p :: L, i, h => by
    simp only [List.map_cons, List.cons.injEq, Prod.mk.injEq] at h
    obtain ⟨⟨h1, h2⟩, h3⟩ := h
    unfold Instr.findAsking pix
    have he : (Op.equal TP (keyV d s) e.key).run Tryd.prog w = .ok (sameP d s p) w := by
      rw [h1]
      unfold keyV
      simp only [Op.equal, Op.maxDepth]
      exact eqP _ _ _ _ w
    simp only [Sem.run_bind, he, Result.andThen_ok]
    by_cases hp : sameP d s p = true
    · simp [hp, h2]
    · simp only [hp, if_false]
      exact asking d s w es L (i + 1) h3

set_option maxRecDepth 100000 in
theorem run_checkP0 (n d : Nat) (s : ByteArray) (em : Bool) (w : World) : (Instr.checkKey em (n + 1 + 1) TP (keyV d s)).run Tryd.prog w = .ok () w := by
  have u3 := Tryd.underlying76; have a3 := Tryd.isAgg76; have z3 := Tryd.sizeOf76
  have u9 := Tryd.underlying9; have a9 := Tryd.isAgg9; have z9 := Tryd.sizeOf9
  unfold keyV
  simp [Instr.checkKey, run_underlying Tryd.underlying97, run_underlying Tryd.underlying76, run_underlying Tryd.underlying9, Result.andThen, part]
theorem run_checkP (d : Nat) (s : ByteArray) (em : Bool) (w : World) : (Instr.checkKey em 10000 TP (keyV d s)).run Tryd.prog w = .ok () w := run_checkP0 9998 d s em w

theorem pm_ty : Tryd.prog.underlying 92 = some (.map TP 3) := by kernel_rfl

theorem PMap.look {w : World} {b : Nat} {L : List (Nat × ByteArray)} (h : PMap w b L) (d : Nat) (s : ByteArray) :
    (Instr.lookup 92 (.map (some b)) (keyV d s) false).run Tryd.prog w = .ok (.int .i64 (if hasP L d s = true then 1 else 0)) w := by
  obtain ⟨es, c, h2, h3⟩ := h
  have hf : (Instr.findKey TP (keyV d s) es.toList).run Tryd.prog w = .ok (pix d s L 0) w := by
    rw [run_findKey_eq w (by kernel_rfl)]
    exact asking d s w es.toList L 0 h3
  have hc := run_checkP d s es.isEmpty w
  have hz : (zeroValue 3).run Tryd.prog w = .ok (.int .i64 0) w := by kernel_rfl
  cases hm : hasP L d s with
  | true =>
    obtain ⟨j, hj⟩ := pix_some d s L 0 hm
    rw [hj] at hf
    simp [Instr.lookup, run_underlying pm_ty, MapKept.run_getObj_map h2, Result.andThen, hc, hf]
  | false =>
    rw [pix_none d s L 0 hm] at hf
    simp [Instr.lookup, run_underlying pm_ty, MapKept.run_getObj_map h2, Result.andThen, hc, hf, hz]

theorem PMap.update {w : World} {b : Nat} {L : List (Nat × ByteArray)} (h : PMap w b L) (d : Nat) (s : ByteArray) (hn : hasP L d s = false) :
    ∃ w', (Instr.mapUpdate 92 (.map (some b)) (keyV d s) (.int .i64 1)).run Tryd.prog w = .ok () w' ∧ PMap w' b (L ++ [(d, s)]) ∧ KeepBut (fun j => j = b) w w' := by
  obtain ⟨es, c, h2, h3⟩ := h
  have hf : (Instr.findKey TP (keyV d s) es.toList).run Tryd.prog w = .ok none w := by
    rw [run_findKey_eq w (by kernel_rfl), ← pix_none d s L 0 hn]
    exact asking d s w es.toList L 0 h3
  have hc := run_checkP d s false w
  refine ⟨{ w with heap := w.heap.setIfInBounds b (.map (es.push { key := keyV d s, val := .int .i64 1, born := c }) (c + 1)) }, ?_, ⟨_, _, (MapKept.heap_set h2).1, ?_⟩, heap_put _ _ _⟩
  · simp [Instr.mapUpdate, run_underlying pm_ty, MapKept.run_getObj_map h2, Result.andThen, hc, hf, MapKept.run_setObj_map _ h2]
  · simp [h3]

end Go.Proofs.YtoolpifkfgileaaDoor
