/- Joined texts of this work: Map, Deeds, Do1. -/
import Derived.Test.YtoolpifkfgileaaDoorJo3
import Derived.MapKept
import Derived.Test.YtoolpifkfgileaaDoorJo4

/-
  Maps whose keys are whole numbers: what a block holds, and what each operation on it does. No program in sight.
-/
namespace Go.Proofs.YtoolpifkfgileaaDoor
open Go Go.RowKit Own

def mix (k : Int) : List (Int × Value) → Nat → Option (Nat × Value)
  | [], _ => none
  | p :: l, i => if p.1 = k then some (i, p.2) else mix k l (i + 1)
/-- what lies behind a key -/
def mget (l : List (Int × Value)) (k : Int) : Option Value := (mix k l 0).map (·.2)
def mset (l : List (Int × Value)) (k : Int) (v : Value) : List (Int × Value) := match mix k l 0 with
  | some (i, _) => l.set i (k, v)
  | none => l ++ [(k, v)]
def mdel (l : List (Int × Value)) (k : Int) : List (Int × Value) := match mix k l 0 with
  | some (i, _) => l.eraseIdx i
  | none => l

theorem mix_shift (k : Int) : ∀ (l : List (Int × Value)) (i : Nat), mix k l i = (mix k l 0).map fun p => (p.1 + i, p.2)
  | [], _ => rfl
  | p :: l, i => by
    unfold mix
    split
    · simp
    · rw [mix_shift k l (i + 1), mix_shift k l (0 + 1)]
      cases mix k l 0 <;> simp
      omega

theorem mix_none {k : Int} {l : List (Int × Value)} {i : Nat} : mix k l i = none ↔ ∀ p ∈ l, p.1 ≠ k := by
  induction l generalizing i with
  | nil => simp [mix]
  | cons p l ih =>
    unfold mix
    split
    · rename_i h; simp [h]
    · rename_i h; simp [ih, h]

theorem mix_some {k : Int} {l : List (Int × Value)} {i : Nat} {v : Value} (h : mix k l 0 = some (i, v)) : l[i]? = some (k, v) := by
  induction l generalizing i with
  | nil => simp [mix] at h
  | cons p l ih =>
    unfold mix at h
    split at h
    · rename_i hp
      simp only [Option.some.injEq, Prod.mk.injEq] at h
      obtain ⟨rfl, rfl⟩ := h
      simp [← hp]
    · rw [mix_shift] at h
      cases hm : mix k l 0 with
      | none => simp [hm] at h
      | some q =>
        obtain ⟨j, u⟩ := q
        simp only [hm, Option.map_some, Option.some.injEq, Prod.mk.injEq] at h
        obtain ⟨rfl, rfl⟩ := h
        simpa using ih hm

theorem mget_cons (p : Int × Value) (l : List (Int × Value)) (k : Int) : mget (p :: l) k = if p.1 = k then some p.2 else mget l k := by
  show (if p.1 = k then some (0, p.2) else mix k l (0 + 1)).map (·.2) = if p.1 = k then some p.2 else (mix k l 0).map (·.2)
  split
  · rfl
  · rw [mix_shift]
    cases mix k l 0 <;> simp

theorem mget_none {l : List (Int × Value)} {k : Int} : mget l k = none ↔ ∀ p ∈ l, p.1 ≠ k := by
  unfold mget
  rw [Option.map_eq_none_iff, mix_none]

theorem mget_append (l m : List (Int × Value)) (k : Int) : mget (l ++ m) k = (mget l k).or (mget m k) := by
  induction l with
  | nil => simp [mget, mix]
  | cons p l ih => rw [List.cons_append, mget_cons, mget_cons, ih]; split <;> simp

theorem mget_set {l : List (Int × Value)} {i : Nat} {k : Int} {u v : Value} (h : l[i]? = some (k, u)) (hd : (l.map (·.1)).Nodup) (j : Int) : mget (l.set i (k, v)) j = if j = k then some v else mget l j := by
  induction l generalizing i with
  | nil => simp at h
  | cons p l ih =>
    rw [List.map_cons, List.nodup_cons] at hd
    cases i with
    | zero =>
      simp only [List.getElem?_cons_zero, Option.some.injEq] at h
      subst h
      rw [List.set_cons_zero, mget_cons, mget_cons]
      by_cases hj : j = k
      · subst hj; simp
      · rw [if_neg (show ¬ k = j from fun e => hj e.symm), if_neg (show ¬ k = j from fun e => hj e.symm), if_neg hj]
    | succ i =>
      rw [List.getElem?_cons_succ] at h
      have hp : p.1 ≠ k := fun e => hd.1 (by rw [e]; exact List.mem_map.2 ⟨(k, u), List.mem_of_getElem? h, rfl⟩)
      rw [List.set_cons_succ, mget_cons, mget_cons, ih h hd.2]
      by_cases hj : j = k
      · subst hj; simp [hp]
      · rw [if_neg hj, if_neg hj]

theorem mget_mset {l : List (Int × Value)} (hd : (l.map (·.1)).Nodup) (k : Int) (v : Value) (j : Int) : mget (mset l k v) j = if j = k then some v else mget l j := by
  unfold mset
  cases hm : mix k l 0 with
  | some p =>
    obtain ⟨i, u⟩ := p
    exact mget_set (mix_some hm) hd j
  | none =>
    simp only
    rw [mget_append, mget_cons]
    by_cases hj : j = k
    · subst hj
      have : mget l j = none := by simp [mget, hm]
      simp [this]
    · rw [if_neg (show ¬ k = j from fun e => hj e.symm), if_neg hj]
      simp [mget, mix]

theorem mset_nodup {l : List (Int × Value)} (hd : (l.map (·.1)).Nodup) (k : Int) (v : Value) : ((mset l k v).map (·.1)).Nodup := by
  unfold mset
  cases hm : mix k l 0 with
  | some p =>
    obtain ⟨i, u⟩ := p
    have h := mix_some hm
    have : (l.set i (k, v)).map (·.1) = l.map (·.1) := by
      apply List.ext_getElem?
      intro n
      rw [List.getElem?_map, List.getElem?_set, List.getElem?_map]
      split
      · rename_i hn
        subst hn
        rw [h]
        split <;> simp_all
      · rfl
    simp only
    rw [this]; exact hd
  | none =>
    simp only [List.map_append, List.map_cons, List.map_nil]
    rw [List.nodup_append]
    refine ⟨hd, by simp, ?_⟩
    intro a ha b hb
    simp only [List.mem_singleton] at hb
    subst hb
    obtain ⟨p, hp, rfl⟩ := List.mem_map.1 ha
    exact mix_none.1 hm p hp

theorem mset_length {l : List (Int × Value)} (k : Int) (v : Value) : (mset l k v).length = if (mget l k).isSome then l.length else l.length + 1 := by
  unfold mset mget
  cases hm : mix k l 0 with
  | some p => simp
  | none => simp

theorem mget_erase {l : List (Int × Value)} {i : Nat} {k : Int} {u : Value} (h : l[i]? = some (k, u)) (hd : (l.map (·.1)).Nodup) (j : Int) : mget (l.eraseIdx i) j = if j = k then none else mget l j := by
  induction l generalizing i with
  | nil => simp at h
  | cons p l ih =>
    rw [List.map_cons, List.nodup_cons] at hd
    cases i with
    | zero =>
      simp only [List.getElem?_cons_zero, Option.some.injEq] at h
      subst h
      rw [List.eraseIdx_cons_zero, mget_cons]
      by_cases hj : j = k
      · subst hj
        rw [if_pos rfl]
        exact mget_none.2 fun q hq e => hd.1 (List.mem_map.2 ⟨q, hq, e⟩)
      · rw [if_neg (show ¬ k = j from fun e => hj e.symm), if_neg hj]
    | succ i =>
      rw [List.getElem?_cons_succ] at h
      have hp : p.1 ≠ k := fun e => hd.1 (by rw [e]; exact List.mem_map.2 ⟨(k, u), List.mem_of_getElem? h, rfl⟩)
      rw [List.eraseIdx_cons_succ, mget_cons, mget_cons, ih h hd.2]
      by_cases hj : j = k
      · subst hj; simp [hp]
      · rw [if_neg hj, if_neg hj]

theorem mget_mdel {l : List (Int × Value)} (hd : (l.map (·.1)).Nodup) (k : Int) (j : Int) : mget (mdel l k) j = if j = k then none else mget l j := by
  unfold mdel
  cases hm : mix k l 0 with
  | some p =>
    obtain ⟨i, u⟩ := p
    exact mget_erase (mix_some hm) hd j
  | none =>
    simp only
    by_cases hj : j = k
    · subst hj; rw [if_pos rfl]; simp [mget, hm]
    · rw [if_neg hj]

theorem mdel_nodup {l : List (Int × Value)} (hd : (l.map (·.1)).Nodup) (k : Int) : ((mdel l k).map (·.1)).Nodup := by
  unfold mdel
  cases hm : mix k l 0 with
  | some p =>
    simp only
    exact List.Sublist.nodup (List.Sublist.map _ (List.eraseIdx_sublist _ _)) hd
  | none => exact hd

theorem mdel_length {l : List (Int × Value)} (k : Int) : (mdel l k).length = if (mget l k).isSome then l.length - 1 else l.length := by
  unfold mdel mget
  cases hm : mix k l 0 with
  | some p =>
    obtain ⟨i, u⟩ := p
    have := mix_some hm
    have hi : i < l.length := by
      rcases Nat.lt_or_ge i l.length with h | h
      · exact h
      · rw [List.getElem?_eq_none h] at this; cases this
    simp [List.length_eraseIdx_of_lt hi]
  | none => simp

theorem eraseIdx_map' {α β : Type} (f : α → β) : ∀ (l : List α) (i : Nat), (l.eraseIdx i).map f = (l.map f).eraseIdx i
  | [], _ => rfl
  | _ :: _, 0 => rfl
  | _ :: l, i + 1 => by simp [eraseIdx_map' f l i]

/-- The block b is a map, and holds exactly l. -/
def MapI (q : IntKind) (w : World) (b : Nat) (l : List (Int × Value)) : Prop :=
  (l.map (·.1)).Nodup ∧ ∃ es clock, w.heap[b]? = some (.map es clock) ∧ es.toList.map (fun e => (e.key, e.val)) = l.map (fun p => (.int q p.1, p.2))

section
variable {P : Program} {q : IntKind} {w : World} {b : Nat} {l : List (Int × Value)}

theorem MapI.nodup (h : MapI q w b l) : (l.map (·.1)).Nodup := h.1
theorem MapI.of_same {w' : World} (h : MapI q w b l) (hb : w'.heap[b]? = w.heap[b]?) : MapI q w' b l := by
  obtain ⟨h1, es, c, h2, h3⟩ := h
  exact ⟨h1, es, c, hb.trans h2, h3⟩
theorem MapI.lt (h : MapI q w b l) : b < w.heap.size := by
  obtain ⟨h1, es, c, h2, h3⟩ := h
  rcases Nat.lt_or_ge b w.heap.size with h' | h'
  · exact h'
  · rw [Array.getElem?_eq_none h'] at h2; cases h2
theorem MapI.keep {E : Nat → Prop} {w' : World} (h : MapI q w b l) (hk : KeepBut E w w') (hE : ¬ E b) : MapI q w' b l := h.of_same (hk.block b h.lt hE)
theorem MapI.stay {w' : World} (h : MapI q w b l) (hk : KeepBut (fun _ => False) w w') : MapI q w' b l := h.keep hk fun e => e
theorem stable_map {w0 : World} {M : Nat → Prop} (b : Nat) (l : List (Int × Value)) : Stable w0 M (fun k => k = b) (fun w => MapI q w b l) := fun _ _ _ _ _ h k => k.of_same (h b rfl)

theorem findNow_mix (q q' : IntKind) (k : Int) : ∀ (es : List MapEntry) (l : List (Int × Value)) (i : Nat), es.map (fun e => (e.key, e.val)) = l.map (fun p => (.int q p.1, p.2)) → Instr.findNow (.int q') (.int q k) es i = some (mix k l i)
  | [], [], _, _ => rfl
  | [], p :: l, _, h => by simp at h
  | e :: es, [], _, h => by simp at h
  | e :: es, p :: l, i, h => by
    simp only [List.map_cons, List.cons.injEq, Prod.mk.injEq] at h
    obtain ⟨⟨h1, h2⟩, h3⟩ := h
    unfold Instr.findNow mix
    simp only [h1, Instr.sameNow, if_pos]
    by_cases hk : p.1 = k
    · subst hk; simp [h2]
    · have : (k == p.1) = false := by rw [beq_eq_false_iff_ne]; exact fun e => hk e.symm
      simp only [this, if_neg hk]
      exact findNow_mix q q' k es l (i + 1) h3

theorem run_makeMap (t : TypeId) (w : World) : (Instr.makeMap t none).run P w = .ok (.map (some w.heap.size)) (w.alloc (.map #[] 0)) := by
  simp [Instr.makeMap, Result.andThen]
theorem MapI.made (q : IntKind) (w : World) : MapI q (w.alloc (.map #[] 0)) w.heap.size [] := ⟨by simp, #[], 0, heap_alloc_new w _, rfl⟩

theorem MapI.len (h : MapI q w b l) {mt k e : TypeId} (ty : TypeId) (ht : P.underlying mt = some (.map k e)) : (Builtin.len_ #[mt] ty #[.map (some b)]).run P w = .ok (.int .i64 l.length) w := by
  obtain ⟨h1, es, c, h2, h3⟩ := h
  have : es.size = l.length := by simpa using congrArg List.length h3
  simp [Builtin.len_, run_underlying ht, MapKept.run_getObj_map h2, Result.andThen, goInt, this]

theorem MapI.look (h : MapI q w b l) {mt kt e : TypeId} (ht : P.underlying mt = some (.map kt e)) (hk : P.underlying kt = some (.int q)) (k : Int) (z : Value) (hz : (zeroValue e).run P w = .ok z w) :
    (Instr.lookup mt (.map (some b)) (.int q k) false).run P w = .ok ((mget l k).getD z) w := by
  obtain ⟨h1, es, c, h2, h3⟩ := h
  have hf := findNow_mix q q k es.toList l 0 h3
  have hr := MapKept.run_findKey (w := w) hk hf
  have hc := MapKept.run_checkKey (w := w) (k := .int q k) hk (by simp [MapKept.IsKey]) es.isEmpty 9999
  cases hm : mix k l 0 with
  | some p =>
    rw [hm] at hr
    simp [Instr.lookup, run_underlying ht, MapKept.run_getObj_map h2, Result.andThen, hc, hr, mget, hm]
  | none =>
    rw [hm] at hr
    simp [Instr.lookup, run_underlying ht, MapKept.run_getObj_map h2, Result.andThen, hc, hr, mget, hm, hz]

theorem heap_put (w : World) (b : Nat) (o : Obj) : KeepBut (fun k => k = b) w { w with heap := w.heap.setIfInBounds b o } :=
  ⟨rfl, rfl, rfl, by simp, fun k _ hn => by simp [Array.getElem?_setIfInBounds_ne (fun e => hn e.symm)]⟩

theorem MapI.update (h : MapI q w b l) {mt kt e : TypeId} (ht : P.underlying mt = some (.map kt e)) (hk : P.underlying kt = some (.int q)) (k : Int) (v : Value) :
    ∃ w', (Instr.mapUpdate mt (.map (some b)) (.int q k) v).run P w = .ok () w' ∧ MapI q w' b (mset l k v) ∧ KeepBut (fun j => j = b) w w' := by
  have hnd := mset_nodup h.nodup k v
  obtain ⟨h1, es, c, h2, h3⟩ := h
  have hf := findNow_mix q q k es.toList l 0 h3
  have hr := MapKept.run_findKey (w := w) hk hf
  have hc := MapKept.run_checkKey (w := w) (k := .int q k) hk (by simp [MapKept.IsKey]) false 9999
  have hlen : es.size = l.length := by simpa using congrArg List.length h3
  unfold mset at hnd ⊢
  cases hm : mix k l 0 with
  | some p =>
    obtain ⟨i, u⟩ := p
    have hi := mix_some hm
    have hget : ∃ e0, es[i]? = some e0 ∧ e0.key = .int q k := by
      have := congrArg (fun x : List (Value × Value) => x[i]?) h3
      simp only [List.getElem?_map, hi, Option.map_some] at this
      cases he : es.toList[i]? with
      | none => rw [he] at this; simp at this
      | some e0 =>
        rw [he] at this
        simp only [Option.map_some, Option.some.injEq, Prod.mk.injEq] at this
        exact ⟨e0, by simpa using he, this.1⟩
    obtain ⟨e0, he0, hk0⟩ := hget
    rw [hm] at hr
    have hstay := MapKept.run_keyThatStays (P := P) (w := w) (d := .int q) (k := .int q k) (by simp [MapKept.IsKey])
    refine ⟨{ w with heap := w.heap.setIfInBounds b (.map (es.modify i fun e => { e with key := .int q k, val := v }) c) }, ?_, ⟨?_, _, _, (MapKept.heap_set h2).1, ?_⟩, heap_put _ _ _⟩
    · simp [Instr.mapUpdate, run_underlying ht, MapKept.run_getObj_map h2, Result.andThen, hc, hr, he0, hk0, hstay, MapKept.run_setObj_map _ h2]
    · rw [hm] at hnd; exact hnd
    · apply List.ext_getElem?
      intro n
      have h4 := congrArg (fun x : List (Value × Value) => x[n]?) h3
      simp only [List.getElem?_map] at h4 ⊢
      rw [List.getElem?_set]
      by_cases hn : i = n
      · subst hn
        have hlt : i < l.length := by
          rcases Nat.lt_or_ge i l.length with h | h
          · exact h
          · rw [List.getElem?_eq_none h] at hi; cases hi
        rw [if_pos rfl, if_pos hlt]
        simp [he0]
      · rw [if_neg hn]
        simpa [Array.getElem?_modify, hn] using h4
  | none =>
    rw [hm] at hr
    refine ⟨{ w with heap := w.heap.setIfInBounds b (.map (es.push { key := .int q k, val := v, born := c }) (c + 1)) }, ?_, ⟨?_, _, _, (MapKept.heap_set h2).1, ?_⟩, heap_put _ _ _⟩
    · simp [Instr.mapUpdate, run_underlying ht, MapKept.run_getObj_map h2, Result.andThen, hc, hr, MapKept.run_setObj_map _ h2]
    · rw [hm] at hnd; exact hnd
    · simp [h3]

theorem MapI.delete (h : MapI q w b l) {mt kt e : TypeId} (ty at1 : TypeId) (ht : P.underlying mt = some (.map kt e)) (hk : P.underlying kt = some (.int q)) (k : Int) :
    ∃ w', (Builtin.delete_ #[mt, at1] ty #[.map (some b), .int q k]).run P w = .ok (.tuple #[]) w' ∧ MapI q w' b (mdel l k) ∧ KeepBut (fun j => j = b) w w' := by
  have hnd := mdel_nodup h.nodup k
  obtain ⟨h1, es, c, h2, h3⟩ := h
  have hf := findNow_mix q q k es.toList l 0 h3
  have hr := MapKept.run_findKey (w := w) hk hf
  have hc := MapKept.run_checkKey (w := w) (k := .int q k) hk (by simp [MapKept.IsKey]) es.isEmpty 9999
  unfold mdel at hnd ⊢
  cases hm : mix k l 0 with
  | some p =>
    obtain ⟨i, u⟩ := p
    have hi := mix_some hm
    rw [hm] at hr
    have hil : i < es.size := by
      have hlen : es.size = l.length := by simpa using congrArg List.length h3
      rw [hlen]
      rcases Nat.lt_or_ge i l.length with h | h
      · exact h
      · rw [List.getElem?_eq_none h] at hi; cases hi
    refine ⟨{ w with heap := w.heap.setIfInBounds b (.map (es.eraseIdxIfInBounds i) c) }, ?_, ⟨?_, _, _, (MapKept.heap_set h2).1, ?_⟩, heap_put _ _ _⟩
    · simp [Builtin.delete_, run_underlying ht, MapKept.run_getObj_map h2, Result.andThen, hc, hr, MapKept.run_setObj_map _ h2]
    · rw [hm] at hnd; exact hnd
    · simp only [Array.eraseIdxIfInBounds, hil, dif_pos, Array.toList_eraseIdx]
      rw [eraseIdx_map', h3, ← eraseIdx_map']
  | none =>
    rw [hm] at hr
    refine ⟨{ w with heap := w.heap.setIfInBounds b (.map es c) }, ?_, ⟨h1, _, _, (MapKept.heap_set h2).1, h3⟩, heap_put _ _ _⟩
    simp [Builtin.delete_, run_underlying ht, MapKept.run_getObj_map h2, Result.andThen, hc, hr, MapKept.run_setObj_map _ h2]

theorem wpList_put_map {ops : Array Oper} {rest : List Oper} {o : Oper} {a : Act} {Q : Exit → Act → World → Prop} (m x v : Operand) (mt kt e : TypeId) (k : Int) (hg : o.guard = none) (hop : o.op = .insert mt m x v ∨ o.op = .mapUpdate mt m x v) (hm : a.eval m = .map (some b))
    (hx : a.eval x = .int q k) (ht : P.underlying mt = some (.map kt e)) (hk : P.underlying kt = some (.int q)) (h : MapI q w b l)
    (hK : ∀ w', MapI q w' b (mset l k (a.eval v)) → KeepBut (fun j => j = b) w w' → wpList P ops Q rest (a.put o.dst undef) w') : wpList P ops Q (o :: rest) a w := by
  refine wpList_plain hg fun K' hK' => ?_
  obtain ⟨w', hrun, r1, r2⟩ := h.update ht hk k (a.eval v)
  unfold Oper.wp
  rcases hop with hop | hop <;> (simp [execOp, hop, hm, hx, hrun, Result.andThen]; exact hK' _ _ (hK w' r1 r2))
end

end Go.Proofs.YtoolpifkfgileaaDoor

/-
  Package spec: the table of the deeds.
-/
namespace Go.Proofs.YtoolpifkfgileaaDoor
open Go Go.RowKit Own

def fnv (f : FuncId) : Value := .func (Fn.func f) #[] #[]
def deedTable : List (Int × Value) := [(1, fnv 72), (3, fnv 72), (2, fnv 73), (4, fnv 75),
  (5, fnv 76), (6, fnv 77), (7, fnv 78)]

set_option maxHeartbeats 1000000 in
theorem deeds_any (w : World) :
    Calls Tryd.prog 64 #[] w fun e w' => ∃ b, e = .returned (.map (some b)) ∧ w.heap.size ≤ b ∧ KeepBut (fun _ => False) w w' ∧ MapI .i64 w' b deedTable := by
  obtain ⟨W, N, hWd, hN, hWn, hkW, hWs⟩ := fresh_block w (.map #[] 0)
  have hm : MapI .i64 W N [] := by rw [hWd, hN]; exact MapI.made _ w
  have hNl := Lib.hid (Nat.le_of_eq hN.symm)
  have hrun : (Instr.makeMap 112 none).run Tryd.prog w = .ok (.map (some N)) W := by rw [hWd, hN]; exact run_makeMap _ w
  clear hWd hN hWn hWs
  obtain ⟨w1, h1, m1, k1⟩ := hm.update (mt := 112) Tryd.underlying112 Tryd.underlying3 1 (fnv 72)
  obtain ⟨w2, h2, m2, k2⟩ := m1.update (mt := 112) Tryd.underlying112 Tryd.underlying3 3 (fnv 72)
  obtain ⟨w3, h3, m3, k3⟩ := m2.update (mt := 112) Tryd.underlying112 Tryd.underlying3 2 (fnv 73)
  obtain ⟨w4, h4, m4, k4⟩ := m3.update (mt := 112) Tryd.underlying112 Tryd.underlying3 4 (fnv 75)
  obtain ⟨w5, h5, m5, k5⟩ := m4.update (mt := 112) Tryd.underlying112 Tryd.underlying3 5 (fnv 76)
  obtain ⟨w6, h6, m6, k6⟩ := m5.update (mt := 112) Tryd.underlying112 Tryd.underlying3 6 (fnv 77)
  obtain ⟨w7, h7, m7, k7⟩ := m6.update (mt := 112) Tryd.underlying112 Tryd.underlying3 7 (fnv 78)
  have hfin := Lib.hid (show KeepBut (fun _ => False) w w7 from hkW.new (((((((k1.trans k2).trans k3).trans k4).trans k5).trans k6).trans k7)) fun b hb => by have := hNl.out; have : b = N := hb; omega)
  have hmap : MapI .i64 w7 N deedTable := m7
  have HM := Lib.hid hmap
  clear hm m1 m2 m3 m4 m5 m6 m7 k1 k2 k3 k4 k5 k6 k7 hkW hmap
  unfold fnv at h1 h2 h3 h4 h5 h6 h7
  go_enter Tryd.func64, Tryd.ntmps64
  go_wp2_with fail
  exact bodyPost_ret (v := .map (some N)) (by simp [results, Tryd.results64, go_sem]) rfl ⟨N, rfl, hNl.out, hfin.out, HM.out⟩
end Go.Proofs.YtoolpifkfgileaaDoor

/-
  Package spec: Do where it rejects.
-/
namespace Go.Proofs.YtoolpifkfgileaaDoor
open Go Go.RowKit Own

/-- a store of a whole value into a block the region made itself -/
def sPutA (T : TypeId) : Loud := { val := fun _ _ => undef, fp := fun args _ k => args.getD 0 undef = .pointer (some ⟨k, 0, none⟩), post := fun args _ w => ∀ b vs, args.getD 0 undef = .pointer (some ⟨b, 0, none⟩) → args.getD 1 undef = .agg vs → w.heap[b]? = some (.cells vs T (0, 0)) }

theorem put_args0 {o : Oper} {a : Act} {ty : TypeId} {x y : Operand} {v : Value} (ho : o.op = .store ty x y) (hy : a.eval x = v) : (argsOf o a).getD 0 undef = v := by simp [argsOf, ho, Op.operands, hy]

theorem loud_putA {P : Program} {w0 : World} {M : Nat → Prop} {o : Oper} {a : Act} {av ea : List Nat} {F : Nat → World → Prop} {Fp : Nat → Nat → Prop} (b : Nat) (T ty : TypeId) (vs cs0 : Array Value) (x y : Operand) (ho : o.op = .store ty x y) (hx : a.eval x = .pointer (some ⟨b, 0, none⟩)) (hy : a.eval y = .agg vs)
    (j : Nat) (hja : j ∈ av) (hje : j ∈ ea) (hF : ∀ w, F j w → w.heap[b]? = some (.cells cs0 T (0, 0))) (hfp : Fp j b) (hs : cs0.size = vs.size) (hi : (P.info? ty).map (·.size) = some vs.size) (h1 : vs.all (·.oneCell') = true) :
    LoudOk P w0 M o a (sPutA T) av ea F Fp := by
  have harg : (argsOf o a).getD 1 undef = .agg vs := put_args ho hy
  have harg0 : (argsOf o a).getD 0 undef = .pointer (some ⟨b, 0, none⟩) := put_args0 ho hx
  refine loud_run ⟨default, trivial⟩ (fun g _ w w' _ _ _ h k b' vs' hb hv => (h b' hb).trans (k b' vs' hb hv)) fun w _ hav _ => ?_
  obtain ⟨hj, hb⟩ := hav j hja
  obtain ⟨w', h2, h3, h4⟩ := yields_put (P := P) (o := o) (ρ := a.eval) (w := w) x y ho hx hy (hF w hj) hs hi h1
  refine ⟨w', default, trivial, h2, h3.mono fun k hk => ⟨j, hje, by rw [hk]; exact hfp⟩, fun k hk => ?_, fun b' vs' hb' hv => by rw [harg] at hv; cases hv; rw [harg0] at hb'; cases hb'; exact h4⟩
  have hkb : k = b := by
    have : (argsOf o a).getD 0 undef = .pointer (some ⟨k, 0, none⟩) := hk
    rw [harg0] at this; cases this; rfl
  subst hkb
  exact ⟨.inr ⟨j, hje, hfp⟩, Nat.lt_of_lt_of_le (hb k hfp).1 h3.size⟩

/-- numbers that nobody turns, behind p, from block base on -/
def Lies (base : Nat) (w : World) (p : Option Addr) (xs : List Int) : Prop := Rd w p (ints xs) ∧ ∀ a, p = some a → base ≤ a.block ∧ a.block < w.heap.size ∧ a.spot = none
theorem OwnI.lies {E : TypeId} {base : Nat} {w : World} {p : Option Addr} {c : Nat} {xs : List Int} (h : OwnI E base w p c xs) : Lies base w p xs :=
  ⟨h.rd, fun a ha => ⟨(h.lt a ha).1, (h.lt a ha).2, by
    rcases h.parts with ⟨h1, _⟩ | ⟨g, cur, h1, _⟩
    · rw [h1] at ha; cases ha
    · rw [h1] at ha; cases ha; rfl⟩⟩
theorem Lies.empty {base : Nat} {w : World} : Lies base w none [] := ⟨Rd.empty _ _, fun a h => by cases h⟩
theorem Lies.keep {base : Nat} {E : Nat → Prop} {w w' : World} {p : Option Addr} {xs : List Int} (h : Lies base w p xs) (hk : KeepBut E w w') (hE : ∀ a, p = some a → ¬ E a.block) : Lies base w' p xs :=
  ⟨h.1.keep hk hE, fun a ha => ⟨(h.2 a ha).1, Nat.lt_of_lt_of_le (h.2 a ha).2.1 hk.size, (h.2 a ha).2.2⟩⟩
theorem Lies.stay {base : Nat} {w w' : World} {p : Option Addr} {xs : List Int} (h : Lies base w p xs) (hk : KeepBut (fun _ => False) w w') : Lies base w' p xs := h.keep hk fun _ _ e => e
theorem Lies.base {base base' : Nat} {w : World} {p : Option Addr} {xs : List Int} (h : Lies base w p xs) (hb : ∀ a, p = some a → base' ≤ a.block) : Lies base' w p xs := ⟨h.1, fun a ha => ⟨hb a ha, (h.2 a ha).2⟩⟩

/-- what Do returns -/
def Done4 (w : World) (e : Ending) (w' : World) (k : Int) (xs : List Int) (v c r : Int) : Prop :=
  ∃ p cap, e = .returned (.tuple #[.agg #[.int .i64 k, .slice p xs.length cap], .int .i64 v, .int .i64 c, .int .i64 r]) ∧ Lies w.heap.size w' p xs ∧ KeepBut (fun _ => False) w w'

theorem chk_two {k : Int} {xs : List Int} (h : chk k xs ≠ 0) : chk k xs = 2 := by
  unfold chk at h ⊢
  split
  · rename_i h2; rw [if_pos h2] at h; exact absurd rfl h
  · rfl

set_option maxHeartbeats 2000000 in
/-- spec.Do on what may not be -/
theorem do_bad (w : World) (k : Int) (p : Option Addr) (c : Nat) (xs : List Int) (hrd : Rd w p (ints xs)) (hl : xs.length ≤ 1099511627776) (hp : ∀ a, p = some a → a.spot = none) (op x : Int) (hbad : chk k xs = 2) :
    Calls Tryd.prog 59 #[.agg #[.int .i64 k, .slice p xs.length c], .int .i64 op, .int .i64 x] w fun e w' => Done4 w e w' 0 [] 0 0 2 := by
  obtain ⟨W1, B, hW1, hB, hB1, hk1, hs1⟩ := fresh_block w (.cells #[.int .i64 k, .slice p xs.length c] 47)
  obtain ⟨W, N, hWd, hN, hWn, hkW, hWs⟩ := fresh_block W1 (.cells #[.int .i64 0, .slice none 0 0] 47)
  have hk0 : KeepBut (fun _ => False) w W := hk1.trans hkW
  have hB2 := hkW.blk hB1
  have cB0 : ∀ w', KeepBut (fun _ => False) W.drew w' → w'.cell? ⟨B, 0, none⟩ = some (.int .i64 k) := fun w' h => ((KeepBut.drew (fun _ => False) W).trans h).stay (blk_cell (k := 0) hB2 rfl)
  have cB1 : ∀ w', KeepBut (fun _ => False) W.drew w' → w'.cell? ⟨B, 1, none⟩ = some (.slice p xs.length c) := fun w' h => ((KeepBut.drew (fun _ => False) W).trans h).stay (blk_cell (k := 1) hB2 rfl)
  have hR : Hid (∀ w', KeepBut (fun _ => False) W.drew w' → Calls Tryd.prog 63 #[.agg #[.int .i64 k, .slice p xs.length c]] w' fun e w'' => e = .returned (.int .i64 2) ∧ KeepBut (fun _ => False) w' w'') := fun w' h => by
    have := check_any w' k p c xs (hrd.stay (hk0.trans ((KeepBut.drew (fun _ => False) W).trans h))) hl hp
    rw [hbad] at this; exact this
  have HWN := Lib.hid hWn; have HKW := Lib.hid hk0
  have hNw : w.heap.size ≤ N := by omega
  have HN := Lib.hid hNw
  have hNB : B + 1 = N := by omega
  clear hrd hB1 hB2 hWn hkW hk0 hWs hk1 hs1 hNw
  go_enter Tryd.func59, Tryd.ntmps59
  go_upto_region 1 with fail
  rw [← hW1, ← hB, ← hWd, hNB]
  clear hWd hN hW1 hB
  refine wp_own0 (by kernel_rfl) (fun i => [[], [0], [0, 1], [0, 1, 2], [0, 1, 2, 3], [0, 1, 2, 3, 4], [0, 1, 2, 3], [0, 1, 2, 3, 6], [0, 1, 2, 3, 4, 5, 6, 7], [0, 1, 2, 3, 4, 5, 6, 7, 8]].getD i [])
    (fun i => []) (fun i => []) [] (by kernel_rfl)
    (fun i => if i = 1 then some (sConst (.int .i64 2)) else none) ?_
  repeat
    apply lex_quiet rfl rfl
    · intro w' hk; go_simp; with_reducible rfl
    simp only [Act.put, List.setIfInBounds_toArray, List.set_cons_zero, List.set_cons_succ]
  refine lex_loud rfl rfl (loud_call 63 #[.agg #[.int .i64 k, .slice p xs.length c]] (fun w => by kernel_rfl) ⟨default, trivial⟩ (fun g _ => stable_true _) fun w' hk _ _ => (hR.out w' hk).mono ?_) fun g _ => ?_
  · rintro e w'' ⟨rfl, hq⟩
    exact ⟨default, trivial, rfl, hq.mono fun _ e => e.elim, fun b h => h.elim, trivial⟩
  simp only [sConst, Act.put, List.setIfInBounds_toArray, List.set_cons_zero, List.set_cons_succ]
  repeat
    apply lex_quiet rfl rfl
    · intro w' hk; go_simp; with_reducible rfl
    simp only [Act.put, List.setIfInBounds_toArray, List.set_cons_zero, List.set_cons_succ]
  repeat
    refine lex_skip rfl ?_
    simp only [Act.put, List.setIfInBounds_toArray, List.set_cons_zero, List.set_cons_succ]
  repeat
    apply lex_quiet rfl rfl
    · intro w' hk; go_simp; with_reducible rfl
    simp only [Act.put, List.setIfInBounds_toArray, List.set_cons_zero, List.set_cons_succ]
  refine lex_nil ?_
  intro w1 hk1 _ _
  have hN1 : Hid (w1.heap[N]? = some (.cells #[.int .i64 0, .slice none 0 0] 47 (0, 0))) := ((KeepBut.drew (fun _ => False) W).trans hk1).blk HWN.out
  have hkk : Hid (KeepBut (fun _ => False) w w1) := HKW.out.trans ((KeepBut.drew (fun _ => False) W).trans hk1)
  go_upto_region 2 with fail
  refine wp_own1_plain N _ hN1.out (fun i => if i = 1 then [5] else []) (fun i => if i = 1 then [5] else []) [1] (by kernel_rfl) (fun i => if i = 1 then some (sPut N 47) else none) ?_
  repeat
    apply lex_quiet rfl rfl
    · intro w' hk; go_simp; with_reducible rfl
    simp only [Act.put, List.setIfInBounds_toArray, List.set_cons_zero, List.set_cons_succ]
  refine lex_loud rfl rfl (loud_put N 47 47 #[.int .i64 0, .slice none 0 0] _ (.tmp 6) (.tmp 22) rfl rfl rfl 5 (by decide) (by decide) (fun w h => h) ⟨rfl, rfl⟩ rfl (by kernel_rfl) (by simp [Value.oneCell'])) fun g2 _ => ?_
  simp only [sPut, Act.put]
  repeat
    apply lex_quiet rfl rfl
    · intro w' hk; go_simp; with_reducible rfl
    simp only [Act.put, List.setIfInBounds_toArray, List.set_cons_zero, List.set_cons_succ]
  refine lex_nil ?_
  intro w2 hk2 hF _
  have f1 : w2.heap[N]? = some (.cells #[.int .i64 0, .slice none 0 0] 47 (0, 0)) := (hF 1 (by decide)).1 _ (put_args rfl rfl)
  have c0 := blk_cell (k := 0) f1 rfl
  have c1 := blk_cell (k := 1) f1 rfl
  have hfin : Done4 w (.returned (.tuple #[.agg #[.int .i64 0, .slice none 0 0], .int .i64 0, .int .i64 0, .int .i64 2])) w2 0 [] 0 0 2 :=
    ⟨none, 0, rfl, Lies.empty, hkk.out.new hk2 fun b hb => by have := HN.out; have h2 : b = N := hb; omega⟩
  have HF := Lib.hid hfin
  clear hF f1 hfin
  go_wp2_with fail
  exact bodyPost_ret (v := .tuple #[.agg #[.int .i64 0, .slice none 0 0], .int .i64 0, .int .i64 0, .int .i64 2]) (by simp [results, Tryd.results59, go_sem, c0, c1]) rfl HF.out
end Go.Proofs.YtoolpifkfgileaaDoor
