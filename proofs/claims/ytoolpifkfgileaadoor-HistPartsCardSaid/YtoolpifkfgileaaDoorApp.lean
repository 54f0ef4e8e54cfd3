/-
  append of a row that is read to a row of one's own. No program in sight.
-/
import Derived.Test.YtoolpifkfgileaaDoorLoud
import Derived.Maps.AppendAt
namespace Go.Proofs.YtoolpifkfgileaaDoor
open Go Go.RowKit Own

theorem append_ownN {P : Program} (E t ty : TypeId) (w : World) (p : Option Addr) (c : Nat) (xs zs : List Int) (a : Addr) (cc : Nat) (ht : P.underlying t = some (.slice E))
    (hinfo : (P.info? E).map (fun i => (i.zero, i.size, i.bytes)) = some (some (.int .i64 0), 1, 8)) (ho : OwnI E 0 w p c xs) (hz : ∀ j, j < zs.length → w.cell? (a.add j) = some (.int .i64 (nth zs j))) (hl : xs.length + zs.length ≤ 1099511627776) :
    ∃ p' c' w', (Builtin.append_ #[t, t] ty #[.slice p xs.length c, .slice (some a) zs.length cc]).run P w = .ok (.slice p' (xs.length + zs.length) c') w' ∧ OwnI E 0 w' p' c' (xs ++ zs) ∧ KeepBut (Of p) w w' ∧ ∀ b, Of p' b → Of p b ∨ w.heap.size ≤ b := by
  obtain ⟨i0, hi, hz0, hz1, hz2⟩ := info_parts hinfo
  obtain ⟨v', w', h1, h2, h3, h4, h5⟩ := run_append_own_at (P := P) w 0 t ty E i0 (.int .i64 0) 1 8 ht hi hz0 hz1 hz2 rfl (by decide) _ xs.length (ints xs) ho a zs.length cc (ints zs) (by rw [ints_length]; omega)
    (fun j u hj => by
      have hlt : j < zs.length := by
        rcases Nat.lt_or_ge j zs.length with h | h
        · exact h
        · rw [List.getElem?_eq_none (by rw [ints_length]; exact h)] at hj; cases hj
      rw [hz j hlt]
      have : (ints zs)[j]? = some (.int .i64 (nth zs j)) := by simp [ints, nth, List.getElem?_map, List.getElem?_eq_getElem hlt]
      rw [this] at hj; exact hj)
    (fun u hu => by
      obtain ⟨z, _, rfl⟩ := List.mem_map.1 hu; rfl) (by unfold maxLen; omega) (by omega) (Nat.zero_le _)
  have hrow : w'.ownsRow 0 E 1 v' (xs ++ zs).length (ints (xs ++ zs)) := by simpa [ints] using h2
  obtain ⟨p', c', rfl, ho'⟩ := OwnI.of_row hrow
  refine ⟨p', c', w', by rw [h1]; simp, ho', KeepBut.grown h3 fun k hk => ?_, fun b hb => ?_⟩
  · cases p with
    | none => simp [Value.ownBlock] at hk
    | some a => simp only [Value.ownBlock, Option.some.injEq] at hk; exact ⟨a, rfl, hk.symm⟩
  · obtain ⟨a, rfl, rfl⟩ := hb
    simp only [Value.ownBlock] at h5
    rcases h5 with h5 | h5
    · cases p with
      | none => simp at h5
      | some a' => simp only [Option.some.injEq] at h5; exact .inl ⟨a', rfl, h5⟩
    · simp only [Option.some.injEq] at h5; exact .inr (by omega)

def sAppN (E : TypeId) (xs zs : List Int) : Loud := { val := fun _ g => .slice g.p (xs.length + zs.length) g.c, fp := fun _ g => Of g.p, post := fun _ g w => OwnI E 0 w g.p g.c (xs ++ zs) }

/-- .. as an operation of a region: operation j promises the row; the other row lies in memory that stays -/
theorem loud_appendN {P : Program} {w0 : World} {M : Nat → Prop} {o : Oper} {a : Act} {av ea : List Nat} {F : Nat → World → Prop} {Fp : Nat → Nat → Prop} (E t : TypeId) (p : Option Addr) (c n cc m : Nat) (xs zs : List Int) (ad : Addr) (x y : Operand) (ho : o.op = .call { callee := .builtin .append, args := #[x, y], argTypes := #[t, t] })
    (hx : a.eval x = .slice p n c) (hn : n = xs.length) (hy : a.eval y = .slice (some ad) m cc) (hm : m = zs.length) (ht : P.underlying t = some (.slice E))
    (hinfo : (P.info? E).map (fun i => (i.zero, i.size, i.bytes)) = some (some (.int .i64 0), 1, 8)) (hl : xs.length + zs.length ≤ 1099511627776) (hz : ∀ w, KeepBut M w0 w → ∀ j, j < zs.length → w.cell? (ad.add j) = some (.int .i64 (nth zs j)))
    (j : Nat) (hja : j ∈ av) (hje : j ∈ ea) (hF : ∀ w, F j w → OwnI E 0 w p c xs) (hfp : ∀ b, Of p b → Fp j b) (hpf : ∀ b, Fp j b → Of p b) :
    LoudOk P w0 M o a (sAppN E xs zs) av ea F Fp := by
  subst hn hm
  refine loud_run ⟨default, trivial⟩ (fun g _ => stable_ownI _ _ _ _ _) fun w hw hav _ => ?_
  obtain ⟨p', c', w', h1, h2, h3, h4⟩ := append_ownN (P := P) E t o.type w p c xs zs ad cc ht hinfo (hF w (hav j hja).1) (hz w hw) hl
  refine ⟨w', { p := p', c := c' }, trivial, .inl ?_, h3.mono fun b hb => ⟨j, hje, hfp b hb⟩, fun b hb => ⟨?_, ?_⟩, h2⟩
  · unfold execOp
    simp only [ho, resolve, invoke, builtin, Sem.run_bind, Sem.run_pure, Result.andThen_ok, List.map_toArray, List.map_cons, List.map_nil, hx, hy, h1, sAppN]
  · rcases h4 b hb with h | h
    · exact .inr ⟨j, hje, hfp b h⟩
    · exact .inl h
  · obtain ⟨a', h5, rfl⟩ := hb
    exact (h2.lt a' h5).2

theorem run_cut_to {P : Program} {t E : TypeId} (ht : P.underlying t = some (.slice E)) (hsz : (P.info? E).map (·.size) = some 1) (g n c at_ : Nat) (h : at_ ≤ c) (w : World) :
    (Instr.sliceAt t (.slice (some ⟨g, 0, none⟩) n c) none (some (.int .i64 at_)) none).run P w = .ok (.slice (some ⟨g, 0, none⟩) at_ c) w := by
  obtain ⟨i0, hi, hz⟩ : ∃ i0, P.info? E = some i0 ∧ i0.size = 1 := by
    cases hi : P.info? E with
    | none => rw [hi] at hsz; cases hsz
    | some i0 => rw [hi] at hsz; exact ⟨i0, rfl, by simpa using hsz⟩
  simp [Instr.sliceAt, Instr.slice, Instr.sliceBounds, Instr.sliceBound, asIntOf, run_underlying ht, Result.andThen, sizeOf, typeInfo, hi, h, Addr.add]

theorem run_cut_from {P : Program} {t E : TypeId} (ht : P.underlying t = some (.slice E)) (hsz : (P.info? E).map (·.size) = some 1) (g n c l : Nat) (h : l ≤ n) :
    ∃ ad : Addr, (∀ w, (Instr.sliceAt t (.slice (some ⟨g, 0, none⟩) n c) (some (.int .i64 l)) none none).run P w = .ok (.slice (some ad) (n - l) (c - l)) w) ∧ (c ≠ l → ad = ⟨g, l, none⟩) := by
  obtain ⟨i0, hi, hz⟩ : ∃ i0, P.info? E = some i0 ∧ i0.size = 1 := by
    cases hi : P.info? E with
    | none => rw [hi] at hsz; cases hsz
    | some i0 => rw [hi] at hsz; exact ⟨i0, rfl, by simpa using hsz⟩
  by_cases hc : c = l
  · refine ⟨⟨g, 0, none⟩, fun w => ?_, fun e => absurd hc e⟩
    simp [Instr.sliceAt, Instr.slice, Instr.sliceBounds, Instr.sliceBound, asIntOf, run_underlying ht, Result.andThen, sizeOf, typeInfo, hi, h, hc]
  · refine ⟨⟨g, l, none⟩, fun w => ?_, fun _ => rfl⟩
    simp [Instr.sliceAt, Instr.slice, Instr.sliceBounds, Instr.sliceBound, asIntOf, run_underlying ht, Result.andThen, sizeOf, typeInfo, hi, h, hc, hz, Addr.add]
    intro e; exact e.symm

theorem slice_exec {P : Program} {o : Oper} {a : Act} {t : TypeId} {x : Operand} {lo hi : Option Operand} (ho : o.op = .slice t x lo hi none) (w : World) (v : Value) (h : (Instr.sliceAt t (a.eval x) (lo.map a.eval) (hi.map a.eval) none).run P w = .ok v w) :
    (execOp a.eval o).run P w = .ok (.value v) w := by
  unfold execOp
  simp [ho, h, Result.andThen]

theorem add_off (g o j : Nat) : (⟨g, o, none⟩ : Addr).add j = ⟨g, o + j, none⟩ := by
  unfold Addr.add
  split
  · rename_i h; subst h; rfl
  · rfl

/-- append of one number to a row of one's own, at the operation -/
theorem wpList_append1 {P : Program} {w : World} {ops : Array Oper} {rest : List Oper} {o : Oper} {a : Act} {Q : Exit → Act → World → Prop} (hgd : o.guard = none) (s x : Operand) (t : TypeId)
    (ho : o.op = .call { callee := .builtin .append, args := #[s, x], argTypes := #[t, t] }) (E : TypeId) (p : Option Addr) (c n : Nat) (xs : List Int) (hn : n = xs.length) (vb : Nat) (z : Int)
    (hs : a.eval s = .slice p n c) (hx : a.eval x = .slice (some ⟨vb, 0, none⟩) 1 1) (ht : P.underlying t = some (.slice E))
    (hinfo : (P.info? E).map (fun i => (i.zero, i.size, i.bytes)) = some (some (.int .i64 0), 1, 8)) (hown : OwnI E 0 w p c xs) (hv : w.heap[vb]? = some (.cells #[.int .i64 z] E (0, 0))) (hl : xs.length ≤ 1099511627776)
    (h : ∀ p' c' w', OwnI E 0 w' p' c' (xs ++ [z]) → KeepBut (Of p) w w' → (∀ b, Of p' b → Of p b ∨ w.heap.size ≤ b) → wpList P ops Q rest (a.put o.dst (.slice p' (xs.length + 1) c')) w') :
    wpList P ops Q (o :: rest) a w := by
  subst hn
  refine wpList_plain hgd fun K hK => ?_
  obtain ⟨p', c', w', h1, h2, h3, h4⟩ := append_own1 (P := P) E t o.type w p c xs vb z ht hinfo hown hv hl
  unfold Oper.wp execOp
  simp only [ho, resolve, invoke, builtin, Sem.run_bind, Sem.run_pure, Result.andThen_ok, List.map_toArray, List.map_cons, List.map_nil, hs, hx, h1]
  exact hK _ _ (h p' c' w' h2 h3 h4)

end Go.Proofs.YtoolpifkfgileaaDoor
