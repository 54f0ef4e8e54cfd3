/-
  Promises of the usual operations, and how each is paid. No program in sight.
-/
import Derived.Test.YtoolpifkfgileaaDoorMem
import Derived.KernelRfl
import Derived.Deep.MidRow
import Derived.Maps.AppendAt
namespace Go.Proofs.YtoolpifkfgileaaDoor
open Go Go.RowKit Own

def sConst (v : Value) : Loud := { val := fun _ _ => v }
def sOwnI (E : TypeId) (xs : List Int) : Loud := { val := fun _ g => .slice g.p xs.length g.c, fp := fun _ g => Of g.p, post := fun _ g w => OwnI E 0 w g.p g.c xs }
/-- a new block -/
def sNew (o : Obj) : Loud := { val := fun _ g => .pointer (some ⟨g.b, 0, none⟩), fp := fun _ g k => k = g.b, post := fun _ g w => w.heap[g.b]? = some o }
/-- a store of a whole value into block b -/
def sPut (b : Nat) (T : TypeId) : Loud := { val := fun _ _ => undef, fp := fun _ _ k => k = b, post := fun args _ w => ∀ vs, args.getD 1 undef = .agg vs → w.heap[b]? = some (.cells vs T (0, 0)) }

/-- a new slice of one number -/
def sOne (E : TypeId) (z : Int) : Loud := { val := fun _ g => .slice (some ⟨g.b, 0, none⟩) 1 1, fp := fun _ g k => k = g.b, post := fun _ g w => w.heap[g.b]? = some (.cells #[.int .i64 z] E (0, 0)) }

section
variable {P : Program} {w0 : World} {M : Nat → Prop} {o : Oper} {a : Act} {s : Loud} {av ea : List Nat} {F : Nat → World → Prop} {Fp : Nat → Nat → Prop}

theorem stable_true (fp : Nat → Prop) : Stable w0 M fp (fun _ => True) := fun _ _ _ _ _ _ _ => trivial
theorem stable_ownI (E : TypeId) (base : Nat) (p : Option Addr) (c : Nat) (xs : List Int) : Stable w0 M (Of p) (fun w => OwnI E base w p c xs) := fun _ _ _ _ _ h k => k.of_same fun a ha => h _ ⟨a, ha, rfl⟩
theorem stable_blk (b : Nat) (x : Obj) : Stable w0 M (fun k => k = b) (fun w => w.heap[b]? = some x) := fun _ _ _ _ _ h k => (h b rfl).trans k

theorem loud_call (f : FuncId) (args : Array Value) (hrun : ∀ w, (execOp a.eval o).run P w = .ok (.enter f args) w) (hsome : ∃ g, s.ok (argsOf o a) g)
    (hst : ∀ g, s.ok (argsOf o a) g → Stable w0 M (s.fp (argsOf o a) g) (s.post (argsOf o a) g))
    (hc : ∀ w, KeepBut M w0 w → (∀ j ∈ av, F j w ∧ ∀ b, Fp j b → b < w.heap.size ∧ (w0.heap.size ≤ b ∨ M b)) → (∀ j ∈ av, ∀ k ∈ av, j ≠ k → ∀ b, Fp j b → ¬ Fp k b) →
      Calls P f args w fun e w' => ∃ g, s.ok (argsOf o a) g ∧ e = .returned (s.val (argsOf o a) g) ∧ KeepBut (fun b => ∃ j ∈ ea, Fp j b) w w' ∧
        (∀ b, s.fp (argsOf o a) g b → (w.heap.size ≤ b ∨ ∃ j ∈ ea, Fp j b) ∧ b < w'.heap.size) ∧ s.post (argsOf o a) g w') : LoudOk P w0 M o a s av ea F Fp :=
  ⟨hsome, hst, fun w h1 h2 h3 => by
    unfold Oper.wp
    rw [hrun w]
    refine (hc w h1 h2 h3).mono ?_
    rintro e w' ⟨g, h4, rfl, h5, h6, h7⟩
    exact ⟨g, h4, rfl, h5, h6, h7⟩⟩

/-- an operation that is run at once -/
theorem loud_run (hsome : ∃ g, s.ok (argsOf o a) g)
    (hst : ∀ g, s.ok (argsOf o a) g → Stable w0 M (s.fp (argsOf o a) g) (s.post (argsOf o a) g))
    (hc : ∀ w, KeepBut M w0 w → (∀ j ∈ av, F j w ∧ ∀ b, Fp j b → b < w.heap.size ∧ (w0.heap.size ≤ b ∨ M b)) → (∀ j ∈ av, ∀ k ∈ av, j ≠ k → ∀ b, Fp j b → ¬ Fp k b) →
      ∃ w' g, s.ok (argsOf o a) g ∧ Yields2 P (execOp a.eval o) w (s.val (argsOf o a) g) w' ∧ KeepBut (fun b => ∃ j ∈ ea, Fp j b) w w' ∧
        (∀ b, s.fp (argsOf o a) g b → (w.heap.size ≤ b ∨ ∃ j ∈ ea, Fp j b) ∧ b < w'.heap.size) ∧ s.post (argsOf o a) g w') : LoudOk P w0 M o a s av ea F Fp :=
  ⟨hsome, hst, fun w h1 h2 h3 => by
    obtain ⟨w', g, h4, h5, h6, h7, h8⟩ := hc w h1 h2 h3
    unfold Oper.wp
    rcases h5 with h5 | ⟨h5, h9⟩
    · rw [h5]; exact ⟨g, h4, rfl, h6, h7, h8⟩
    · rw [h5]; exact ⟨g, h4, by rw [h9], h6, h7, h8⟩⟩

/-- a whole value is stored into a block that is known -/
theorem yields_put {ρ : Operand → Value} {w : World} {b : Nat} {T ty : TypeId} {vs cs0 : Array Value} (x y : Operand) (ho : o.op = .store ty x y) (hx : ρ x = .pointer (some ⟨b, 0, none⟩)) (hy : ρ y = .agg vs)
    (h : w.heap[b]? = some (.cells cs0 T (0, 0))) (hs : cs0.size = vs.size) (hi : (P.info? ty).map (·.size) = some vs.size) (h1 : vs.all (·.oneCell') = true) :
    ∃ w', Yields2 P (execOp ρ o) w undef w' ∧ KeepBut (fun k => k = b) w w' ∧ w'.heap[b]? = some (.cells vs T (0, 0)) := by
  obtain ⟨cur', h2, h3, h4⟩ := heap_setCells b vs.toList 0 w cs0 T (0, 0) h
  have he : cur' = vs := by
    apply Array.ext_getElem?
    intro k
    by_cases hk : k < cs0.size
    · rw [h4 k hk, if_pos ⟨Nat.zero_le _, by simpa using (by omega : k < vs.size)⟩]
      simp
    · rw [Array.getElem?_eq_none (by omega), Array.getElem?_eq_none (by omega)]
  subst he
  refine ⟨_, .inr ⟨?_, rfl⟩, keep_setCells (E := fun k => k = b) b rfl cur'.toList 0 w, h2⟩
  unfold execOp
  simp only [ho, hx, hy]
  have := run_storeAt_mid (P := P) w b 0 ty cur' (fun j hj => ⟨by simp [World.cell?, h]; omega, by simp [World.frozen?, h]⟩) hi h1
  simp only [Sem.run_bind, this, Result.andThen_ok, Sem.run_pure]

theorem put_args {ty : TypeId} {x y : Operand} {v : Value} (ho : o.op = .store ty x y) (hy : a.eval y = v) : (argsOf o a).getD 1 undef = v := by simp [argsOf, ho, Op.operands, hy]

/-- .. as an operation of a region, the block being promised by operation j -/
theorem loud_put (b : Nat) (T ty : TypeId) (vs cs0 : Array Value) (x y : Operand) (ho : o.op = .store ty x y) (hx : a.eval x = .pointer (some ⟨b, 0, none⟩)) (hy : a.eval y = .agg vs)
    (j : Nat) (hja : j ∈ av) (hje : j ∈ ea) (hF : ∀ w, F j w → w.heap[b]? = some (.cells cs0 T (0, 0))) (hfp : Fp j b) (hs : cs0.size = vs.size) (hi : (P.info? ty).map (·.size) = some vs.size) (h1 : vs.all (·.oneCell') = true) :
    LoudOk P w0 M o a (sPut b T) av ea F Fp := by
  have harg : (argsOf o a).getD 1 undef = .agg vs := by simp [argsOf, ho, Op.operands, hy]
  refine loud_run ⟨default, trivial⟩ (fun g _ w w' _ _ _ h k vs' hv => (h b rfl).trans (k vs' hv)) fun w _ hav _ => ?_
  obtain ⟨hj, hb⟩ := hav j hja
  obtain ⟨w', h2, h3, h4⟩ := yields_put (P := P) (o := o) (ρ := a.eval) (w := w) x y ho hx hy (hF w hj) hs hi h1
  refine ⟨w', default, trivial, h2, h3.mono fun k hk => ⟨j, hje, by rw [hk]; exact hfp⟩, fun k hk => ⟨.inr ⟨j, hje, by rw [show k = b from hk]; exact hfp⟩, ?_⟩, fun vs' hv => by rw [harg] at hv; cases hv; exact h4⟩
  rw [show k = b from hk]
  exact Nat.lt_of_lt_of_le (hb b hfp).1 h3.size


/-- an operation that lays one new block and tells where -/
theorem loud_new (mk : Nat → Value) (x : Obj) (hs : s.ok = fun _ _ => True) (hm : ∀ args g, s.val args g = mk g.b) (hfp : ∀ args g k, s.fp args g k ↔ k = g.b) (hp : ∀ args g w, s.post args g w ↔ w.heap[g.b]? = some x)
    (hrun : ∀ w, (execOp a.eval o).run P w = .ok (.value (mk w.heap.size)) (w.alloc x)) : LoudOk P w0 M o a s av ea F Fp := by
  refine loud_run ⟨default, by rw [hs]; trivial⟩ (fun g _ w w' _ _ _ h k => ?_) fun w _ _ _ => ?_
  · rw [hp] at k ⊢
    rw [h g.b ((hfp _ _ _).2 rfl)]; exact k
  · refine ⟨w.alloc x, { b := w.heap.size }, by rw [hs]; trivial, .inl (by rw [hm]; exact hrun w), KeepBut.alloc _ _ _, fun b hb => ?_, (hp _ _ _).2 (heap_alloc_new w x)⟩
    have : b = w.heap.size := (hfp _ _ _).1 hb
    subst this
    exact ⟨.inl (Nat.le_refl _), by simp⟩

theorem loud_one (E : TypeId) (z : Int) (hrun : ∀ w, (execOp a.eval o).run P w = .ok (.value (.slice (some ⟨w.heap.size, 0, none⟩) 1 1)) (w.alloc (.cells #[.int .i64 z] E))) : LoudOk P w0 M o a (sOne E z) av ea F Fp :=
  loud_new (fun b => .slice (some ⟨b, 0, none⟩) 1 1) _ rfl (fun _ _ => rfl) (fun _ _ _ => Iff.rfl) (fun _ _ _ => Iff.rfl) hrun

theorem loud_alloc (x : Obj) (hrun : ∀ w, (execOp a.eval o).run P w = .ok (.value (.pointer (some ⟨w.heap.size, 0, none⟩))) (w.alloc x)) : LoudOk P w0 M o a (sNew x) av ea F Fp :=
  loud_new (fun b => .pointer (some ⟨b, 0, none⟩)) _ rfl (fun _ _ => rfl) (fun _ _ _ => Iff.rfl) (fun _ _ _ => Iff.rfl) hrun

/-- append of one number to a row of the region's own -/
theorem append_own1 (E t ty : TypeId) (w : World) (p : Option Addr) (c : Nat) (xs : List Int) (vb : Nat) (z : Int) (ht : P.underlying t = some (.slice E))
    (hinfo : (P.info? E).map (fun i => (i.zero, i.size, i.bytes)) = some (some (.int .i64 0), 1, 8)) (ho : OwnI E 0 w p c xs) (hv : w.heap[vb]? = some (.cells #[.int .i64 z] E (0, 0))) (hl : xs.length ≤ 1099511627776) :
    ∃ p' c' w', (Builtin.append_ #[t, t] ty #[.slice p xs.length c, .slice (some ⟨vb, 0, none⟩) 1 1]).run P w = .ok (.slice p' (xs.length + 1) c') w' ∧ OwnI E 0 w' p' c' (xs ++ [z]) ∧ KeepBut (Of p) w w' ∧ ∀ b, Of p' b → Of p b ∨ w.heap.size ≤ b := by
  obtain ⟨i0, hi, hz0, hz1, hz2⟩ := info_parts hinfo
  obtain ⟨v', w', h1, h2, h3, h4, h5⟩ := run_append_own_at (P := P) w 0 t ty E i0 (.int .i64 0) 1 8 ht hi hz0 hz1 hz2 rfl (by decide) _ xs.length (ints xs) ho ⟨vb, 0, none⟩ 1 1 [.int .i64 z] rfl
    (fun j u hj => by
      have h0 : j = 0 := by
        rcases j with _ | j
        · rfl
        · simp at hj
      subst h0
      simpa [World.cell?, Addr.add, hv] using hj)
    (fun u hu => by simp only [List.mem_singleton] at hu; subst hu; rfl) (by unfold maxLen; omega) (by omega) (Nat.zero_le _)
  have hrow : w'.ownsRow 0 E 1 v' (xs ++ [z]).length (ints (xs ++ [z])) := by simpa [ints] using h2
  obtain ⟨p', c', rfl, ho'⟩ := OwnI.of_row hrow
  refine ⟨p', c', w', by rw [h1]; simp, ho', KeepBut.grown h3 fun k hk => ?_, fun b hb => ?_⟩
  · cases p with
    | none => simp [Value.ownBlock] at hk
    | some a => simp only [Value.ownBlock, Option.some.injEq] at hk; exact ⟨a, rfl, hk.symm⟩
  · obtain ⟨a, rfl, rfl⟩ := hb
    simp only [Value.ownBlock] at h5
    rcases h5 with h5 | h5
    · cases p with
      | none => simp at h5
      | some a' => simp only [Option.some.injEq] at h5; exact .inl ⟨a', rfl, h5⟩
    · simp only [Option.some.injEq] at h5; exact .inr (by omega)

/-- .. as an operation of a region: operation j promises the row, operation k the number -/
theorem loud_append1 (E t : TypeId) (p : Option Addr) (c : Nat) (xs : List Int) (vb : Nat) (z : Int) (x y : Operand) (ho : o.op = .call { callee := .builtin .append, args := #[x, y], argTypes := #[t, t] })
    (hx : a.eval x = .slice p xs.length c) (hy : a.eval y = .slice (some ⟨vb, 0, none⟩) 1 1) (ht : P.underlying t = some (.slice E))
    (hinfo : (P.info? E).map (fun i => (i.zero, i.size, i.bytes)) = some (some (.int .i64 0), 1, 8)) (hl : xs.length ≤ 1099511627776)
    (j k : Nat) (hja : j ∈ av) (hje : j ∈ ea) (hka : k ∈ av) (hF : ∀ w, F j w → OwnI E 0 w p c xs) (hG : ∀ w, F k w → w.heap[vb]? = some (.cells #[.int .i64 z] E (0, 0))) (hfp : Fp j = Of p) :
    LoudOk P w0 M o a { val := fun _ g => .slice g.p (xs.length + 1) g.c, fp := fun _ g => Of g.p, post := fun _ g w => OwnI E 0 w g.p g.c (xs ++ [z]) } av ea F Fp := by
  refine loud_run ⟨default, trivial⟩ (fun g _ => stable_ownI _ _ _ _ _) fun w _ hav _ => ?_
  obtain ⟨p', c', w', h1, h2, h3, h4⟩ := append_own1 (P := P) E t o.type w p c xs vb z ht hinfo (hF w (hav j hja).1) (hG w (hav k hka).1) hl
  refine ⟨w', { p := p', c := c' }, trivial, .inl ?_, h3.mono fun b hb => ⟨j, hje, by rw [hfp]; exact hb⟩, fun b hb => ⟨?_, ?_⟩, h2⟩
  · unfold execOp
    simp only [ho, resolve, invoke, builtin, Sem.run_bind, Sem.run_pure, Result.andThen_ok, List.map_toArray, List.map_cons, List.map_nil, hx, hy, h1]
  · rcases h4 b hb with h | h
    · exact .inr ⟨j, hje, by rw [hfp]; exact h⟩
    · exact .inl h
  · obtain ⟨a', h5, rfl⟩ := hb
    exact (h2.lt a' h5).2

end

end Go.Proofs.YtoolpifkfgileaaDoor
