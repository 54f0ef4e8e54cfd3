/- Joined texts of this work: App, PbE, Sa1, Sa2. -/
import Derived.Test.YtomlffobbkcmdaaGreatDoorJn9
import Derived.Maps.AppendAt
import Derived.Test.YtomlffobbkcmdaaGreatDoorJn6
import Derived.Test.YtomlffobbkcmdaaGreatDoorJn17
import Derived.Test.YtomlffobbkcmdaaGreatDoorJn18
import Derived.Test.YtomlffobbkcmdaaGreatDoorJn10

/-
  append of a row that is read to a row of one's own. No program in sight.
-/
namespace Go.Proofs.YtomlffobbkcmdaaGreatDoor
open Go Go.RowKit Own

theorem append_ownN {P : Program} (E t ty : TypeId) (w : World) (p : Option Addr) (c : Nat) (xs zs : List Int) (a : Addr) (cc : Nat) (ht : P.underlying t = some (.slice E))
    (hinfo : (P.info? E).map (fun i => (i.zero, i.size, i.bytes)) = some (some (.int .i64 0), 1, 8)) (ho : OwnI E 0 w p c xs) (hz : ∀ j, j < zs.length → w.cell? (a.add j) = some (.int .i64 (nth zs j))) (hl : xs.length + zs.length ≤ 1099511627776) :
    ∃ p' c' w', (Builtin.append_ #[t, t] ty #[.slice p xs.length c, .slice (some a) zs.length cc]).run P w = .ok (.slice p' (xs.length + zs.length) c') w' ∧ OwnI E 0 w' p' c' (xs ++ zs) ∧ KeepBut (Of p) w w' ∧ ∀ b, Of p' b → Of p b ∨ w.heap.size ≤ b := by
  obtain ⟨i0, hi, hz0, hz1, hz2⟩ := info_parts hinfo
  obtain ⟨v', w', h1, h2, h3, h4, h5⟩ := run_append_own_at (P := P) w 0 t ty E i0 (.int .i64 0) 1 8 ht hi hz0 hz1 hz2 rfl (by decide) _ xs.length (ints xs) ho a zs.length cc (ints zs) (by rw [ints_length]; omega)
    (fun j u hj => by
      have hlt : j < zs.length := by
        rcases Nat.lt_or_ge j zs.length with h | h
        · exact h
        · rw [List.getElem?_eq_none (by rw [ints_length]; exact h)] at hj; cases hj
      rw [hz j hlt]
      have : (ints zs)[j]? = some (.int .i64 (nth zs j)) := by simp [ints, nth, List.getElem?_map, List.getElem?_eq_getElem hlt]
      rw [this] at hj; exact hj)
    (fun u hu => by
      obtain ⟨z, _, rfl⟩ := List.mem_map.1 hu; rfl) (by unfold maxLen; omega) (by omega) (Nat.zero_le _)
  have hrow : w'.ownsRow 0 E 1 v' (xs ++ zs).length (ints (xs ++ zs)) := by simpa [ints] using h2
  obtain ⟨p', c', rfl, ho'⟩ := OwnI.of_row hrow
  refine ⟨p', c', w', by rw [h1]; simp, ho', KeepBut.grown h3 fun k hk => ?_, fun b hb => ?_⟩
  · cases p with
    | none => simp [Value.ownBlock] at hk
    | some a => simp only [Value.ownBlock, Option.some.injEq] at hk; exact ⟨a, rfl, hk.symm⟩
  · obtain ⟨a, rfl, rfl⟩ := hb
    simp only [Value.ownBlock] at h5
    rcases h5 with h5 | h5
    · cases p with
      | none => simp at h5
      | some a' => simp only [Option.some.injEq] at h5; exact .inl ⟨a', rfl, h5⟩
    · simp only [Option.some.injEq] at h5; exact .inr (by omega)

def sAppN (E : TypeId) (xs zs : List Int) : Loud := { val := fun _ g => .slice g.p (xs.length + zs.length) g.c, fp := fun _ g => Of g.p, post := fun _ g w => OwnI E 0 w g.p g.c (xs ++ zs) }

/-- .. as an operation of a region: operation j promises the row; the other row lies in memory that stays -/
theorem loud_appendN {P : Program} {w0 : World} {M : Nat → Prop} {o : Oper} {a : Act} {av ea : List Nat} {F : Nat → World → Prop} {Fp : Nat → Nat → Prop} (E t : TypeId) (p : Option Addr) (c n cc m : Nat) (xs zs : List Int) (ad : Addr) (x y : Operand) (ho : o.op = .call { callee := .builtin .append, args := #[x, y], argTypes := #[t, t] })
    (hx : a.eval x = .slice p n c) (hn : n = xs.length) (hy : a.eval y = .slice (some ad) m cc) (hm : m = zs.length) (ht : P.underlying t = some (.slice E))
    (hinfo : (P.info? E).map (fun i => (i.zero, i.size, i.bytes)) = some (some (.int .i64 0), 1, 8)) (hl : xs.length + zs.length ≤ 1099511627776) (hz : ∀ w, KeepBut M w0 w → ∀ j, j < zs.length → w.cell? (ad.add j) = some (.int .i64 (nth zs j)))
    (j : Nat) (hja : j ∈ av) (hje : j ∈ ea) (hF : ∀ w, F j w → OwnI E 0 w p c xs) (hfp : ∀ b, Of p b → Fp j b) (hpf : ∀ b, Fp j b → Of p b) :
    LoudOk P w0 M o a (sAppN E xs zs) av ea F Fp := by
  subst hn hm
  refine loud_run ⟨default, trivial⟩ (fun g _ => stable_ownI _ _ _ _ _) fun w hw hav _ => ?_
  obtain ⟨p', c', w', h1, h2, h3, h4⟩ := append_ownN (P := P) E t o.type w p c xs zs ad cc ht hinfo (hF w (hav j hja).1) (hz w hw) hl
  refine ⟨w', { p := p', c := c' }, trivial, .inl ?_, h3.mono fun b hb => ⟨j, hje, hfp b hb⟩, fun b hb => ⟨?_, ?_⟩, h2⟩
  · unfold execOp
    simp only [ho, resolve, invoke, builtin, Sem.run_bind, Sem.run_pure, Result.andThen_ok, List.map_toArray, List.map_cons, List.map_nil, hx, hy, h1, sAppN]
  · rcases h4 b hb with h | h
    · exact .inr ⟨j, hje, hfp b h⟩
    · exact .inl h
  · obtain ⟨a', h5, rfl⟩ := hb
    exact (h2.lt a' h5).2

theorem run_cut_to {P : Program} {t E : TypeId} (ht : P.underlying t = some (.slice E)) (hsz : (P.info? E).map (·.size) = some 1) (g n c at_ : Nat) (h : at_ ≤ c) (w : World) :
    (Instr.sliceAt t (.slice (some ⟨g, 0, none⟩) n c) none (some (.int .i64 at_)) none).run P w = .ok (.slice (some ⟨g, 0, none⟩) at_ c) w := by
  obtain ⟨i0, hi, hz⟩ : ∃ i0, P.info? E = some i0 ∧ i0.size = 1 := by
    cases hi : P.info? E with
    | none => rw [hi] at hsz; cases hsz
    | some i0 => rw [hi] at hsz; exact ⟨i0, rfl, by simpa using hsz⟩
  simp [Instr.sliceAt, Instr.slice, Instr.sliceBounds, Instr.sliceBound, asIntOf, run_underlying ht, Result.andThen, sizeOf, typeInfo, hi, h, Addr.add]

theorem run_cut_from {P : Program} {t E : TypeId} (ht : P.underlying t = some (.slice E)) (hsz : (P.info? E).map (·.size) = some 1) (g n c l : Nat) (h : l ≤ n) :
    ∃ ad : Addr, (∀ w, (Instr.sliceAt t (.slice (some ⟨g, 0, none⟩) n c) (some (.int .i64 l)) none none).run P w = .ok (.slice (some ad) (n - l) (c - l)) w) ∧ (c ≠ l → ad = ⟨g, l, none⟩) := by
  obtain ⟨i0, hi, hz⟩ : ∃ i0, P.info? E = some i0 ∧ i0.size = 1 := by
    cases hi : P.info? E with
    | none => rw [hi] at hsz; cases hsz
    | some i0 => rw [hi] at hsz; exact ⟨i0, rfl, by simpa using hsz⟩
  by_cases hc : c = l
  · refine ⟨⟨g, 0, none⟩, fun w => ?_, fun e => absurd hc e⟩
    simp [Instr.sliceAt, Instr.slice, Instr.sliceBounds, Instr.sliceBound, asIntOf, run_underlying ht, Result.andThen, sizeOf, typeInfo, hi, h, hc]
  · refine ⟨⟨g, l, none⟩, fun w => ?_, fun _ => rfl⟩
    simp [Instr.sliceAt, Instr.slice, Instr.sliceBounds, Instr.sliceBound, asIntOf, run_underlying ht, Result.andThen, sizeOf, typeInfo, hi, h, hc, hz, Addr.add]
    intro e; exact e.symm

theorem slice_exec {P : Program} {o : Oper} {a : Act} {t : TypeId} {x : Operand} {lo hi : Option Operand} (ho : o.op = .slice t x lo hi none) (w : World) (v : Value) (h : (Instr.sliceAt t (a.eval x) (lo.map a.eval) (hi.map a.eval) none).run P w = .ok v w) :
    (execOp a.eval o).run P w = .ok (.value v) w := by
  unfold execOp
  simp [ho, h, Result.andThen]

theorem add_offA (g o j : Nat) : (⟨g, o, none⟩ : Addr).add j = ⟨g, o + j, none⟩ := by
  unfold Addr.add
  split
  · rename_i h; subst h; rfl
  · rfl

/-- append of one number to a row of one's own, at the operation -/
theorem wpList_append1 {P : Program} {w : World} {ops : Array Oper} {rest : List Oper} {o : Oper} {a : Act} {Q : Exit → Act → World → Prop} (hgd : o.guard = none) (s x : Operand) (t : TypeId)
    (ho : o.op = .call { callee := .builtin .append, args := #[s, x], argTypes := #[t, t] }) (E : TypeId) (p : Option Addr) (c n : Nat) (xs : List Int) (hn : n = xs.length) (vb : Nat) (z : Int)
    (hs : a.eval s = .slice p n c) (hx : a.eval x = .slice (some ⟨vb, 0, none⟩) 1 1) (ht : P.underlying t = some (.slice E))
    (hinfo : (P.info? E).map (fun i => (i.zero, i.size, i.bytes)) = some (some (.int .i64 0), 1, 8)) (hown : OwnI E 0 w p c xs) (hv : w.heap[vb]? = some (.cells #[.int .i64 z] E (0, 0))) (hl : xs.length ≤ 1099511627776)
    (h : ∀ p' c' w', OwnI E 0 w' p' c' (xs ++ [z]) → KeepBut (Of p) w w' → (∀ b, Of p' b → Of p b ∨ w.heap.size ≤ b) → wpList P ops Q rest (a.put o.dst (.slice p' (xs.length + 1) c')) w') :
    wpList P ops Q (o :: rest) a w := by
  subst hn
  refine wpList_plain hgd fun K hK => ?_
  obtain ⟨p', c', w', h1, h2, h3, h4⟩ := append_own1 (P := P) E t o.type w p c xs vb z ht hinfo hown hv hl
  unfold Oper.wp execOp
  simp only [ho, resolve, invoke, builtin, Sem.run_bind, Sem.run_pure, Result.andThen_ok, List.map_toArray, List.map_cons, List.map_nil, hs, hx, h1]
  exact hK _ _ (h p' c' w' h2 h3 h4)

end Go.Proofs.YtomlffobbkcmdaaGreatDoor

/-
  append of one thing, of any size, to a row of one's own. No program in sight.
-/
namespace Go.Proofs.YtomlffobbkcmdaaGreatDoor
open Go Go.RowKit Own

/-- append of one thing of several cells to a row of one's own, at the operation -/
theorem wpList_appendV {P : Program} {w : World} {ops : Array Oper} {rest : List Oper} {o : Oper} {a : Act} {Q : Exit → Act → World → Prop} (hgd : o.guard = none) (s x : Operand) (t : TypeId)
    (ho : o.op = .call { callee := .builtin .append, args := #[s, x], argTypes := #[t, t] }) (E : TypeId) (z : Value) (size bytes : Nat) (ht : P.underlying t = some (.slice E))
    (hinfo : (P.info? E).map (fun i => (i.zero, i.size, i.bytes)) = some (some z, size, bytes)) (hzs : z.cells.size = size) (hsz : 0 < size)
    (v : Value) (n : Nat) (xs : List Value) (hown : w.ownsRow 0 E size v n xs) (vb c : Nat) (news : List Value) (hl : news.length = size) (hv : w.heap[vb]? = some (.cells news.toArray E (0, 0))) (h1 : ∀ u ∈ news, u.oneCell' = true)
    (h63 : n + 1 ≤ maxLen) (hbytes : (n + 1) * bytes ≤ 140737488355328) (hs : a.eval s = v) (hx : a.eval x = .slice (some ⟨vb, 0, none⟩) 1 c)
    (h : ∀ v' w', w'.ownsRow 0 E size v' (n + 1) (xs ++ news) → KeepBut (fun b => v.ownBlock = some b) w w' → (v'.ownBlock = v.ownBlock ∨ v'.ownBlock = some w.heap.size) → wpList P ops Q rest (a.put o.dst v') w') :
    wpList P ops Q (o :: rest) a w := by
  obtain ⟨i0, hi, hz0, hz1, hz2⟩ : ∃ i0, P.info? E = some i0 ∧ i0.zero = some z ∧ i0.size = size ∧ i0.bytes = bytes := by
    cases hi : P.info? E with
    | none => rw [hi] at hinfo; cases hinfo
    | some i0 =>
      rw [hi] at hinfo
      simp only [Option.map_some, Option.some.injEq, Prod.mk.injEq] at hinfo
      exact ⟨i0, rfl, hinfo.1, hinfo.2.1, hinfo.2.2⟩
  obtain ⟨v', w', e1, e2, e3, e4, e5⟩ := run_append_own_at (P := P) w 0 t o.type E i0 z size bytes ht hi hz0 hz1 hz2 hzs hsz v n xs hown ⟨vb, 0, none⟩ 1 c news (by rw [hl, Nat.one_mul])
    (fun j u hj => by
      rw [add_off]
      exact blk_cell hv (by simpa using hj)) h1 h63 hbytes (Nat.zero_le _)
  refine wpList_plain hgd fun K hK => ?_
  unfold Oper.wp execOp
  simp only [ho, resolve, invoke, builtin, Sem.run_bind, Sem.run_pure, Result.andThen_ok, List.map_toArray, List.map_cons, List.map_nil, hs, hx, e1]
  exact hK _ _ (h v' w' e2 (KeepBut.grown e3 fun k hk => hk) e5)

end Go.Proofs.YtomlffobbkcmdaaGreatDoor

/-
  Statements in memory; steps of a reader.
-/
namespace Go.Proofs.YtomlffobbkcmdaaGreatDoor
open Go Go.RowKit Own

abbrev TSm : TypeId := 58
abbrev TStg : TypeId := 9

mutual
/-- the cells of a statement; what it holds lies in blocks of S -/
def StAt (w : World) (S : Nat → Prop) : List Value → St → Prop
  | vs, .mk k nm sz op val into cont xs thn els l c => ∃ p1 c1 p2 c2 p3 c3, vs = [.int .i64 k, strV nm, .int .i64 sz, .int .i64 op, strV val, strV into, strV cont, .slice p1 xs.length c1, .slice p2 thn.length c2, .slice p3 els.length c3, .int .i64 l, .int .i64 c] ∧ KidsAt w S p1 0 xs ∧ StsAt w S p2 0 thn ∧ StsAt w S p3 0 els
def StsAt (w : World) (S : Nat → Prop) (p : Option Addr) : Nat → List St → Prop
  | _, [] => True
  | i, x :: l => (∃ g o vs, p = some ⟨g, o, none⟩ ∧ S g ∧ (∀ j v, vs[j]? = some v → w.cell? ⟨g, o + i * 12 + j, none⟩ = some v) ∧ StAt w S vs x) ∧ StsAt w S p (i + 1) l
end

mutual
theorem StAt.keepS {w w' : World} {S S' : Nat → Prop} (hk : ∀ b o v, S b → w.cell? ⟨b, o, none⟩ = some v → w'.cell? ⟨b, o, none⟩ = some v ∧ S' b) : ∀ {vs : List Value} {e : St}, StAt w S vs e → StAt w' S' vs e
  | vs, .mk k nm sz op val into cont xs thn els l c, h => by
    unfold StAt at h ⊢
    obtain ⟨p1, c1, p2, c2, p3, c3, h1, h2, h3, h4⟩ := h
    exact ⟨p1, c1, p2, c2, p3, c3, h1, KidsAt.keepS hk h2, StsAt.keepS hk h3, StsAt.keepS hk h4⟩
theorem StsAt.keepS {w w' : World} {S S' : Nat → Prop} (hk : ∀ b o v, S b → w.cell? ⟨b, o, none⟩ = some v → w'.cell? ⟨b, o, none⟩ = some v ∧ S' b) : ∀ {p : Option Addr} {i : Nat} {l : List St}, StsAt w S p i l → StsAt w' S' p i l
  | p, i, [], _ => by unfold StsAt; trivial
  | p, i, x :: l, h => by
    unfold StsAt at h ⊢
    obtain ⟨⟨g, o, vs, h1, h2, h3, h4⟩, h5⟩ := h
    have hv : ∃ v, vs[0]? = some v := by
      cases x with
      | mk k nm sz op val into cont xs thn els l c =>
        unfold StAt at h4
        obtain ⟨p1, c1, p2, c2, p3, c3, h6, -⟩ := h4
        exact ⟨_, by rw [h6]; rfl⟩
    obtain ⟨v0, hv0⟩ := hv
    exact ⟨⟨g, o, vs, h1, (hk g _ _ h2 (h3 0 v0 hv0)).2, fun j v hj => (hk g _ _ h2 (h3 j v hj)).1, StAt.keepS hk h4⟩, StsAt.keepS hk h5⟩
end
theorem StAt.keep {E : Nat → Prop} {w w' : World} {S : Nat → Prop} (k : KeepBut E w w') (hE : ∀ b, S b → ¬ E b) {vs : List Value} {e : St} (h : StAt w S vs e) : StAt w' S vs e :=
  h.keepS fun b _ _ hb hc => ⟨k.cell hc (hE b hb), hb⟩
theorem StAt.inHeap {w : World} {S : Nat → Prop} {vs : List Value} {e : St} (h : StAt w S vs e) : StAt w (fun b => S b ∧ b < w.heap.size) vs e :=
  h.keepS fun _ _ _ hb hc => ⟨hc, hb, World.block_lt_of_cell? w _ hc⟩
theorem StAt.mono {w : World} {S S' : Nat → Prop} (hS : ∀ b, S b → S' b) {vs : List Value} {e : St} (h : StAt w S vs e) : StAt w S' vs e :=
  h.keepS fun _ _ _ hb hc => ⟨hc, hS _ hb⟩
theorem StsAt.keep {E : Nat → Prop} {w w' : World} {S : Nat → Prop} (k : KeepBut E w w') (hE : ∀ b, S b → ¬ E b) {p : Option Addr} {i : Nat} {l : List St} (h : StsAt w S p i l) : StsAt w' S p i l :=
  h.keepS fun b _ _ hb hc => ⟨k.cell hc (hE b hb), hb⟩
theorem StsAt.mono {w : World} {S S' : Nat → Prop} (hS : ∀ b, S b → S' b) {p : Option Addr} {i : Nat} {l : List St} (h : StsAt w S p i l) : StsAt w S' p i l :=
  h.keepS fun _ _ _ hb hc => ⟨hc, hS _ hb⟩
theorem st_form {w : World} {S : Nat → Prop} {vs : List Value} {x : St} (h : StAt w S vs x) : ∃ a n b c s1 s2 s3 p1 m1 c1 p2 m2 c2 p3 m3 c3 l cl, vs = [.int .i64 a, .string n, .int .i64 b, .int .i64 c, .string s1, .string s2, .string s3, .slice p1 m1 c1, .slice p2 m2 c2, .slice p3 m3 c3, .int .i64 l, .int .i64 cl] := by
  cases x with
  | mk k nm sz op val into cont xs thn els l c =>
    unfold StAt at h
    obtain ⟨p1, c1, p2, c2, p3, c3, h1, -⟩ := h
    exact ⟨_, _, _, _, _, _, _, _, _, _, _, _, _, _, _, _, _, _, h1⟩

section
variable {w : World} {B : Nat} {a b c d e f g h i j k l : Value} {T : TypeId}
theorem blk12 (hh : w.heap[B]? = some (.cells #[a, b, c, d, e, f, g, h, i, j, k, l] T (0, 0))) :
    w.cell? ⟨B, 0, none⟩ = some a ∧ w.cell? ⟨B, 1, none⟩ = some b ∧ w.cell? ⟨B, 2, none⟩ = some c ∧ w.cell? ⟨B, 3, none⟩ = some d ∧ w.cell? ⟨B, 4, none⟩ = some e ∧ w.cell? ⟨B, 5, none⟩ = some f ∧ w.cell? ⟨B, 6, none⟩ = some g ∧ w.cell? ⟨B, 7, none⟩ = some h ∧ w.cell? ⟨B, 8, none⟩ = some i ∧ w.cell? ⟨B, 9, none⟩ = some j ∧ w.cell? ⟨B, 10, none⟩ = some k ∧ w.cell? ⟨B, 11, none⟩ = some l := by
  simp [World.cell?, hh]
theorem frz12 (hh : w.heap[B]? = some (.cells #[a, b, c, d, e, f, g, h, i, j, k, l] T (0, 0))) (n : Nat) : w.frozen? ⟨B, n, none⟩ = false := by simp [World.frozen?, hh]
theorem s_put0 (hh : w.heap[B]? = some (.cells #[a, b, c, d, e, f, g, h, i, j, k, l] T (0, 0))) (v : Value) : ∃ w', w' = w.setCell ⟨B, 0, none⟩ v ∧ w'.heap[B]? = some (.cells #[v, b, c, d, e, f, g, h, i, j, k, l] T (0, 0)) ∧ KeepBut (fun k => k = B) w w' := by
  have h0 := put1 (i := 0) hh v
  simp only [List.setIfInBounds_toArray, List.set_cons_zero] at h0
  exact ⟨_, rfl, h0, KeepBut.setCell _ _ _ rfl⟩
theorem s_put1 (hh : w.heap[B]? = some (.cells #[a, b, c, d, e, f, g, h, i, j, k, l] T (0, 0))) (v : Value) : ∃ w', w' = w.setCell ⟨B, 1, none⟩ v ∧ w'.heap[B]? = some (.cells #[a, v, c, d, e, f, g, h, i, j, k, l] T (0, 0)) ∧ KeepBut (fun k => k = B) w w' := by
  have h0 := put1 (i := 1) hh v
  simp only [List.setIfInBounds_toArray, List.set_cons_zero, List.set_cons_succ] at h0
  exact ⟨_, rfl, h0, KeepBut.setCell _ _ _ rfl⟩
theorem s_put2 (hh : w.heap[B]? = some (.cells #[a, b, c, d, e, f, g, h, i, j, k, l] T (0, 0))) (v : Value) : ∃ w', w' = w.setCell ⟨B, 2, none⟩ v ∧ w'.heap[B]? = some (.cells #[a, b, v, d, e, f, g, h, i, j, k, l] T (0, 0)) ∧ KeepBut (fun k => k = B) w w' := by
  have h0 := put1 (i := 2) hh v
  simp only [List.setIfInBounds_toArray, List.set_cons_zero, List.set_cons_succ] at h0
  exact ⟨_, rfl, h0, KeepBut.setCell _ _ _ rfl⟩
theorem s_put3 (hh : w.heap[B]? = some (.cells #[a, b, c, d, e, f, g, h, i, j, k, l] T (0, 0))) (v : Value) : ∃ w', w' = w.setCell ⟨B, 3, none⟩ v ∧ w'.heap[B]? = some (.cells #[a, b, c, v, e, f, g, h, i, j, k, l] T (0, 0)) ∧ KeepBut (fun k => k = B) w w' := by
  have h0 := put1 (i := 3) hh v
  simp only [List.setIfInBounds_toArray, List.set_cons_zero, List.set_cons_succ] at h0
  exact ⟨_, rfl, h0, KeepBut.setCell _ _ _ rfl⟩
theorem s_put4 (hh : w.heap[B]? = some (.cells #[a, b, c, d, e, f, g, h, i, j, k, l] T (0, 0))) (v : Value) : ∃ w', w' = w.setCell ⟨B, 4, none⟩ v ∧ w'.heap[B]? = some (.cells #[a, b, c, d, v, f, g, h, i, j, k, l] T (0, 0)) ∧ KeepBut (fun k => k = B) w w' := by
  have h0 := put1 (i := 4) hh v
  simp only [List.setIfInBounds_toArray, List.set_cons_zero, List.set_cons_succ] at h0
  exact ⟨_, rfl, h0, KeepBut.setCell _ _ _ rfl⟩
theorem s_put5 (hh : w.heap[B]? = some (.cells #[a, b, c, d, e, f, g, h, i, j, k, l] T (0, 0))) (v : Value) : ∃ w', w' = w.setCell ⟨B, 5, none⟩ v ∧ w'.heap[B]? = some (.cells #[a, b, c, d, e, v, g, h, i, j, k, l] T (0, 0)) ∧ KeepBut (fun k => k = B) w w' := by
  have h0 := put1 (i := 5) hh v
  simp only [List.setIfInBounds_toArray, List.set_cons_zero, List.set_cons_succ] at h0
  exact ⟨_, rfl, h0, KeepBut.setCell _ _ _ rfl⟩
theorem s_put6 (hh : w.heap[B]? = some (.cells #[a, b, c, d, e, f, g, h, i, j, k, l] T (0, 0))) (v : Value) : ∃ w', w' = w.setCell ⟨B, 6, none⟩ v ∧ w'.heap[B]? = some (.cells #[a, b, c, d, e, f, v, h, i, j, k, l] T (0, 0)) ∧ KeepBut (fun k => k = B) w w' := by
  have h0 := put1 (i := 6) hh v
  simp only [List.setIfInBounds_toArray, List.set_cons_zero, List.set_cons_succ] at h0
  exact ⟨_, rfl, h0, KeepBut.setCell _ _ _ rfl⟩
theorem s_put7 (hh : w.heap[B]? = some (.cells #[a, b, c, d, e, f, g, h, i, j, k, l] T (0, 0))) (v : Value) : ∃ w', w' = w.setCell ⟨B, 7, none⟩ v ∧ w'.heap[B]? = some (.cells #[a, b, c, d, e, f, g, v, i, j, k, l] T (0, 0)) ∧ KeepBut (fun k => k = B) w w' := by
  have h0 := put1 (i := 7) hh v
  simp only [List.setIfInBounds_toArray, List.set_cons_zero, List.set_cons_succ] at h0
  exact ⟨_, rfl, h0, KeepBut.setCell _ _ _ rfl⟩
theorem s_put8 (hh : w.heap[B]? = some (.cells #[a, b, c, d, e, f, g, h, i, j, k, l] T (0, 0))) (v : Value) : ∃ w', w' = w.setCell ⟨B, 8, none⟩ v ∧ w'.heap[B]? = some (.cells #[a, b, c, d, e, f, g, h, v, j, k, l] T (0, 0)) ∧ KeepBut (fun k => k = B) w w' := by
  have h0 := put1 (i := 8) hh v
  simp only [List.setIfInBounds_toArray, List.set_cons_zero, List.set_cons_succ] at h0
  exact ⟨_, rfl, h0, KeepBut.setCell _ _ _ rfl⟩
theorem s_put9 (hh : w.heap[B]? = some (.cells #[a, b, c, d, e, f, g, h, i, j, k, l] T (0, 0))) (v : Value) : ∃ w', w' = w.setCell ⟨B, 9, none⟩ v ∧ w'.heap[B]? = some (.cells #[a, b, c, d, e, f, g, h, i, v, k, l] T (0, 0)) ∧ KeepBut (fun k => k = B) w w' := by
  have h0 := put1 (i := 9) hh v
  simp only [List.setIfInBounds_toArray, List.set_cons_zero, List.set_cons_succ] at h0
  exact ⟨_, rfl, h0, KeepBut.setCell _ _ _ rfl⟩
theorem s_put10 (hh : w.heap[B]? = some (.cells #[a, b, c, d, e, f, g, h, i, j, k, l] T (0, 0))) (v : Value) : ∃ w', w' = w.setCell ⟨B, 10, none⟩ v ∧ w'.heap[B]? = some (.cells #[a, b, c, d, e, f, g, h, i, j, v, l] T (0, 0)) ∧ KeepBut (fun k => k = B) w w' := by
  have h0 := put1 (i := 10) hh v
  simp only [List.setIfInBounds_toArray, List.set_cons_zero, List.set_cons_succ] at h0
  exact ⟨_, rfl, h0, KeepBut.setCell _ _ _ rfl⟩
theorem s_put11 (hh : w.heap[B]? = some (.cells #[a, b, c, d, e, f, g, h, i, j, k, l] T (0, 0))) (v : Value) : ∃ w', w' = w.setCell ⟨B, 11, none⟩ v ∧ w'.heap[B]? = some (.cells #[a, b, c, d, e, f, g, h, i, j, k, v] T (0, 0)) ∧ KeepBut (fun k => k = B) w w' := by
  have h0 := put1 (i := 11) hh v
  simp only [List.setIfInBounds_toArray, List.set_cons_zero, List.set_cons_succ] at h0
  exact ⟨_, rfl, h0, KeepBut.setCell _ _ _ rfl⟩
end

theorem must_new {w : World} {R : Nat} {its : List Item} {el ec : Nat} (h : ReaderAt w R its el ec) (L : List (List UInt8)) (hl : L.length ≤ 1000) (r : List Item) (hm : mustT L its = some r) :
    Calls Tryz.prog 76 #[rdV R, .slice (some ⟨w.heap.size, 0, none⟩) L.length L.length] (w.alloc (.cells (L.map strV).toArray TStg)) fun e w' => e = .returned (.tuple #[]) ∧ ReaderAt w' R r el ec ∧ KeepBut (fun b => b = R) w w' := by
  have hk := KeepBut.alloc (fun _ => False) w (.cells (L.map strV).toArray TStg)
  have hR := h.lt
  refine (must_any (w.alloc (.cells (L.map strV).toArray TStg)) R its el ec (h.keep hk fun _ _ e => e) (some ⟨w.heap.size, 0, none⟩) L.length L (fun i hi => ⟨w.heap.size, 0, rfl, ?_⟩) (fun a ha => by cases ha; show w.heap.size ≠ R; omega) hl r hm).mono ?_
  · rw [Nat.zero_add]
    exact blk_cell (heap_alloc_new w _) (by simp [strV, hi])
  · rintro e w' ⟨rfl, h1, h2⟩
    exact ⟨rfl, h1, (hk.mono fun _ e => e.elim).trans h2⟩
theorem must1 {w : World} {R : Nat} {its : List Item} {el ec : Nat} (h : ReaderAt w R its el ec) (s : List UInt8) (r : List Item) (hm : mustT [s] its = some r) :
    Calls Tryz.prog 76 #[rdV R, .slice (some ⟨w.heap.size, 0, none⟩) 1 1] (w.alloc (.cells #[.string ⟨s.toArray⟩] TStg)) fun e w' => e = .returned (.tuple #[]) ∧ ReaderAt w' R r el ec ∧ KeepBut (fun b => b = R) w w' := must_new h [s] (by simp) r hm
theorem must2 {w : World} {R : Nat} {its : List Item} {el ec : Nat} (h : ReaderAt w R its el ec) (s t : List UInt8) (r : List Item) (hm : mustT [s, t] its = some r) :
    Calls Tryz.prog 76 #[rdV R, .slice (some ⟨w.heap.size, 0, none⟩) 2 2] (w.alloc (.cells #[.string ⟨s.toArray⟩, .string ⟨t.toArray⟩] TStg)) fun e w' => e = .returned (.tuple #[]) ∧ ReaderAt w' R r el ec ∧ KeepBut (fun b => b = R) w w' := must_new h [s, t] (by simp) r hm

theorem name_str {w : World} {R : Nat} {t : Item} {r : List Item} {el ec : Nat} (h : ReaderAt w R (t :: r) el ec) (hk : t.tok.kind = 2) :
    Calls Tryz.prog 79 #[rdV R] w fun e w' => e = .returned (.string ⟨t.tok.text.toArray⟩) ∧ ReaderAt w' R r el ec ∧ KeepBut (fun b => b = R) w w' := name_any w R t r el ec h hk
theorem peek_cons {w : World} {R : Nat} {t : Item} {r : List Item} {el ec : Nat} (h : ReaderAt w R (t :: r) el ec) :
    Calls Tryz.prog 74 #[rdV R] w fun e w' => e = .returned (.agg #[.int .i64 t.tok.kind, .string ⟨t.tok.text.toArray⟩, .int .i64 t.tok.num, .int .i64 t.line, .int .i64 t.col]) ∧ KeepBut (fun _ => False) w w' := peek_any w R (t :: r) el ec h
theorem want_cons {w : World} {R : Nat} {t : Item} {r : List Item} {el ec : Nat} (h : ReaderAt w R (t :: r) el ec) (k : Int) (hk : (t.tok.kind : Int) = k) :
    Calls Tryz.prog 77 #[rdV R, .int .i64 k] w fun e w' => e = .returned (.agg #[.int .i64 t.tok.kind, .string ⟨t.tok.text.toArray⟩, .int .i64 t.tok.num, .int .i64 t.line, .int .i64 t.col]) ∧ ReaderAt w' R r el ec ∧ KeepBut (fun b => b = R) w w' := want_any w R t r el ec h k hk

end Go.Proofs.YtomlffobbkcmdaaGreatDoor

/-
  Package parse: a call, from its operation on.
-/
namespace Go.Proofs.YtomlffobbkcmdaaGreatDoor
open Go Go.RowKit Own

/-- a statement's cells, the slices apart -/
def stC (k sz op : Int) (nm val into cont : List UInt8) (ex : Value) (l cl : Int) : Array Value := #[.int .i64 k, .string ⟨nm.toArray⟩, .int .i64 sz, .int .i64 op, .string ⟨val.toArray⟩, .string ⟨into.toArray⟩, .string ⟨cont.toArray⟩, ex, .slice none 0 0, .slice none 0 0, .int .i64 l, .int .i64 cl]

theorem callP_some {f : Nat} {value : List UInt8} {ts : List Item} {op : Nat} {c : List UInt8} {xs : List Ex} {r : List Item} (h : callP f value ts = some ((op, c, xs), r)) :
    ∃ t r0 r1 tc r2, ts = t :: r0 ∧ ofL opL t.tok.text = op ∧ op ≠ 0 ∧ t.tok.kind = 1 ∧ ((op = 2 ∨ op = 4) ↔ value ≠ []) ∧ mustT [[40]] r0 = some r1 ∧ r1 = tc :: r2 ∧ tc.tok.kind = 2 ∧ tc.tok.text = c ∧
      (((op = 2 ∨ op = 4) ∧ mustT [[41], [59]] r2 = some r ∧ xs = []) ∨ (¬ (op = 2 ∨ op = 4) ∧ ∃ r3 x r4, mustT [[44]] r2 = some r3 ∧ exP f r3 = some (x, r4) ∧ mustT [[41], [59]] r4 = some r ∧ xs = [x])) := by
  unfold callP at h
  cases ts with
  | nil => cases h
  | cons t r0 =>
    dsimp only at h
    split at h
    · cases h
    · rename_i hc
      have hc1 : ofL opL t.tok.text ≠ 0 := fun e => hc (.inl e)
      have hc2 : t.tok.kind = 1 := Classical.byContradiction fun e => hc (.inr (.inl e))
      have hc3 : ((ofL opL t.tok.text = 2 ∨ ofL opL t.tok.text = 4) = (value ≠ [])) := Classical.byContradiction fun e => hc (.inr (.inr e))
      split at h
      · cases h
      · rename_i r1 hm
        cases r1 with
        | nil => cases h
        | cons tc r2 =>
          unfold wantT at h
          dsimp only at h
          by_cases hk : tc.tok.kind = 2
          · rw [if_pos hk] at h
            dsimp only at h
            by_cases ht : ofL opL t.tok.text = 2 ∨ ofL opL t.tok.text = 4
            · rw [if_pos ht] at h
              split at h
              · cases h
              · rename_i hm2
                cases h
                exact ⟨t, r0, _, tc, r2, rfl, rfl, hc1, hc2, by rw [← hc3], hm, rfl, hk, rfl, .inl ⟨ht, hm2, rfl⟩⟩
            · rw [if_neg ht] at h
              split at h
              · cases h
              · rename_i r3 hm2
                split at h
                · cases h
                · rename_i x r4 hx
                  split at h
                  · cases h
                  · rename_i hm3
                    cases h
                    exact ⟨t, r0, _, tc, r2, rfl, rfl, hc1, hc2, by rw [← hc3], hm, rfl, hk, rfl, .inr ⟨ht, r3, x, r4, hm2, hx, hm3, rfl⟩⟩
          · rw [if_neg hk] at h
            cases h

theorem opL_len : opL.length = 8 := rfl
theorem ofL_lt (s : List UInt8) : ofL opL s < 8 := by
  unfold ofL
  split
  · decide
  · split
    · rename_i h
      exact List.idxOf_lt_length_iff.2 (by simpa using h)
    · decide

set_option maxRecDepth 4000 in
set_option maxHeartbeats 32000000 in
theorem call_reads (w : World) (R el ec f Bs : Nat) (its r : List Item) (value into nm c : List UInt8) (op : Nat) (xs : List Ex) (k0 sz op0 l cl : Int) (cont0 : List UInt8) (hr : ReaderAt w R its el ec) (hB : w.heap[Bs]? = some (.cells (stC k0 sz op0 nm value into cont0 (.slice none 0 0) l cl) TSm (0, 0))) (hRB : R < Bs) (hx : callP f value its = some ((op, c, xs), r)) :
    Calls Tryz.prog 131 #[rdV R, .pointer (some ⟨Bs, 0, none⟩)] w fun e w' => e = .returned (.tuple #[]) ∧ ReaderAt w' R r el ec ∧ KeepBut (fun b => b = R ∨ b = Bs) w w' ∧ ∃ p cap, w'.heap[Bs]? = some (.cells (stC 9 sz op nm value into c (.slice p xs.length cap) l cl) TSm (0, 0)) ∧ KidsAt w' (fun b => w.heap.size ≤ b) p 0 xs := by
  obtain ⟨t, r0, r1, tc, r2, rfl, hop, hop0, hkd, htk, hm1, rfl, hkc, rfl, hrest⟩ := callP_some hx
  have hop8 : op < 8 := by rw [← hop]; exact ofL_lt _
  clear hx
  have HRB := Lib.hid hRB; have HR0 := Lib.hid hr
  unfold stC at hB ⊢
  have HB0 := Lib.hid hB
  have HN0 := Lib.hid (show Bs < w.heap.size from (Array.getElem?_eq_some_iff.1 hB).1)
  obtain ⟨T, hT⟩ : ∃ T, t.tok.text = T := ⟨_, rfl⟩
  obtain ⟨tn, htn⟩ : ∃ n : Int, (t.tok.num : Int) = n := ⟨_, rfl⟩
  obtain ⟨tl, htl⟩ : ∃ n : Int, (t.line : Int) = n := ⟨_, rfl⟩
  obtain ⟨tcl, htcl⟩ : ∃ n : Int, (t.col : Int) = n := ⟨_, rfl⟩
  obtain ⟨C, hC⟩ : ∃ C, tc.tok.text = C := ⟨_, rfl⟩
  rw [hC]
  rw [hT] at hop
  have HOP := Lib.hid hop; have HM1 := Lib.hid hm1; have HKC := Lib.hid hkc; have HCC := Lib.hid hC; have HREST := Lib.hid hrest; have HTK := Lib.hid htk
  have HWD := Lib.hid (words_any w)
  have HPK := Lib.hid (fun W (h : ReaderAt W R (t :: r0) el ec) => by have h := peek_cons h; rw [hkd, hT, htn, htl, htcl] at h; exact h)
  clear hr hB hRB hop hm1 hkc hC hrest htk hT htn htl htcl hkd
  unfold opsV at HWD
  go_enter Tryz.func131, Tryz.ntmps131
  go_wp2_with fail
  go_at_call 126
  refine HWD.out.mono ?_
  rintro e w1 ⟨rfl, hk1⟩
  obtain ⟨W1, B4, hW1, hB4, hb4, hk4, hs4⟩ := fresh_block w1 (.cells opsV 173)
  have hkw := hk1.trans hk4
  have HK1 := Lib.hid hkw; have HB4 := Lib.hid hb4; have HR1 := Lib.hid (HR0.out.keep hkw fun _ _ e => e); have HB1 := Lib.hid (hkw.blk HB0.out)
  have HN4 := Lib.hid (show Bs < B4 by have := HN0.out; have := hk1.size; omega)
  unfold opsV at hW1 HB4
  clear hk1 hk4 hkw hb4 hs4
  go_upto_region 1 with fail
  rw [← hW1, ← hB4]
  clear hW1 hB4
  have HPK1 := Lib.hid (HPK.out W1 HR1.out)
  go_wp2_with fail
  go_at_call 74
  refine HPK1.out.mono ?_
  rintro e w2 ⟨rfl, hk2⟩
  obtain ⟨W2, B5, hW2, hB5, hb5, hk5, hs5⟩ := fresh_block w2 (.cells #[.int .i64 1, .string ⟨T.toArray⟩, .int .i64 tn, .int .i64 tl, .int .i64 tcl] TTk)
  have hkw := hk2.trans hk5
  have HK2 := Lib.hid (HK1.out.trans hkw); have HB5 := Lib.hid hb5; have HB42 := Lib.hid (hkw.blk HB4.out); have HR2 := Lib.hid (HR1.out.keep hkw fun _ _ e => e); have HB2 := Lib.hid (hkw.blk HB1.out)
  have HN5 := Lib.hid (show Bs < B5 by have := (Array.getElem?_eq_some_iff.1 (hk2.blk HB1.out)).1; omega)
  clear hk2 hk5 hkw hb5 hs5
  go_upto_region 2 with fail
  rw [← hW2, ← hB5]
  clear hW2 hB5
  obtain ⟨y1, y2, y3, y4, y5, -⟩ := blk5 HB5.out
  have cc := fun w' (h : KeepBut (fun b => b = Bs) W2.drew w') => ((KeepBut.drew _ W2).trans h).cell y2 (by have := HN5.out; show ¬ B5 = Bs; omega)
  have HOF := Lib.hid (fun w' (h : KeepBut (fun b => b = Bs) W2.drew w') => of_any opL (by decide) B4 0 8 w' (fun j hj => by
    have hb := ((KeepBut.drew (fun b => b = Bs) W2).trans h).blkE HB42.out (by have := HN4.out; show ¬ B4 = Bs; omega)
    rw [Nat.zero_add]
    refine blk_cell hb ?_
    have hj8 : j < 8 := hj
    have key : j = 0 ∨ j = 1 ∨ j = 2 ∨ j = 3 ∨ j = 4 ∨ j = 5 ∨ j = 6 ∨ j = 7 := by omega
    rcases key with rfl | rfl | rfl | rfl | rfl | rfl | rfl | rfl <;> rfl) T)
  rw [HOP.out] at HOF
  refine wp_own1 (by kernel_rfl) Bs _ HB2.out (fun i => [[], [], [], [], [3], [2, 3, 4], [0, 2, 3, 4, 5], [0, 2, 3, 4, 5, 6], [0, 2, 3, 4, 5, 6, 7], [0, 1, 2, 3, 4, 5, 6, 7, 8], [0, 1, 2, 3, 4, 5, 6, 7, 8, 9], [0, 1, 2, 3, 4, 5, 6, 7, 8, 9, 10]].getD i []) (fun i => if i = 8 then [12] else if i = 11 then [8] else []) (fun i => if i = 8 then [12] else if i = 11 then [8] else []) [11] (by kernel_rfl)
    (fun i => if i = 5 then some (sConst (.int .i64 op)) else if i = 8 then some (sCell Bs 0 TSm (stC k0 sz op0 nm value into cont0 (.slice none 0 0) l cl) (.int .i64 9)) else if i = 11 then some (sCell Bs 3 TSm (stC 9 sz op0 nm value into cont0 (.slice none 0 0) l cl) (.int .i64 op)) else none) ?_
  apply lex_quiet rfl rfl
  · intro w' hk; go_simp; with_reducible rfl
  simp only [Act.put, List.setIfInBounds_toArray, List.set_cons_zero, List.set_cons_succ]
  apply lex_quiet rfl rfl
  · intro w' hk; go_simp; with_reducible rfl
  simp only [Act.put, List.setIfInBounds_toArray, List.set_cons_zero, List.set_cons_succ]
  apply lex_quiet rfl rfl
  · intro w' hk; go_simp; with_reducible rfl
  simp only [Act.put, List.setIfInBounds_toArray, List.set_cons_zero, List.set_cons_succ]
  apply lex_quiet rfl rfl
  · intro w' hk; go_simp; with_reducible rfl
  simp only [Act.put, List.setIfInBounds_toArray, List.set_cons_zero, List.set_cons_succ]
  apply lex_quiet rfl rfl
  · intro w' hk; have e2 := cc w' hk; go_simp; with_reducible rfl
  simp only [Act.put, List.setIfInBounds_toArray, List.set_cons_zero, List.set_cons_succ]
  refine lex_loud rfl rfl (loud_call 78 #[.slice (some ⟨B4, 0, none⟩) 8 8, .string ⟨T.toArray⟩] (fun w => by kernel_rfl) ⟨default, trivial⟩ (fun g _ => stable_true _) fun w' hk _ _ => (HOF.out w' hk).mono ?_) fun gs _ => ?_
  · rintro e w'' ⟨rfl, rfl⟩
    exact ⟨default, trivial, rfl, KeepBut.refl _ _, fun b h => h.elim, trivial⟩
  simp only [sConst, Act.put, List.setIfInBounds_toArray, List.set_cons_zero, List.set_cons_succ]
  apply lex_quiet rfl rfl
  · intro w' hk; go_simp; with_reducible rfl
  simp only [Act.put, List.setIfInBounds_toArray, List.set_cons_zero, List.set_cons_succ]
  apply lex_quiet rfl rfl
  · intro w' hk; go_simp; with_reducible rfl
  simp only [Act.put, List.setIfInBounds_toArray, List.set_cons_zero, List.set_cons_succ]
  refine lex_loud rfl rfl (loud_cell Bs 0 TSm _ _ (fun w u hc hf => by go_simp <;> rfl) 12 (by decide) (by decide) (fun w h => h) ⟨rfl, rfl⟩ (by show 0 < 12; decide)) fun g8 _ => ?_
  simp only [Act.put]
  apply lex_quiet rfl rfl
  · intro w' hk; go_simp; with_reducible rfl
  simp only [Act.put, List.setIfInBounds_toArray, List.set_cons_zero, List.set_cons_succ]
  apply lex_quiet rfl rfl
  · intro w' hk; go_simp; with_reducible rfl
  simp only [Act.put, List.setIfInBounds_toArray, List.set_cons_zero, List.set_cons_succ]
  refine lex_loud rfl rfl (loud_cell Bs 3 TSm _ _ (fun w u hc hf => by go_simp <;> rfl) 8 (by decide) (by decide) (fun w h => h) rfl (by show 3 < 12; decide)) fun g11 _ => ?_
  simp only [Act.put]
  refine lex_nil ?_
  intro W3 hk9 hF _
  have hb3 : W3.heap[Bs]? = some (.cells (stC 9 sz op nm value into cont0 (.slice none 0 0) l cl) TSm (0, 0)) := (hF 11 (by decide)).1
  unfold stC at hb3
  have hk := (KeepBut.drew (fun b => b = Bs) W2).trans hk9
  have HB3 := Lib.hid hb3; have HR3 := Lib.hid (HR2.out.keep hk fun b hb e => by have e : b = Bs := e; have := HRB.out; omega)
  have HK3 := Lib.hid (show KeepBut (fun b => b = R ∨ b = Bs) w W3 from (HK2.out.mono fun _ e => e.elim).trans (hk.mono fun _ e => .inr e))
  have HB53 := Lib.hid (hk.blkE HB5.out (by have := HN5.out; show ¬ B5 = Bs; omega))
  clear hF hk hk9 cc hb3 y1 y2 y3 y4 y5
  go_upto_region 3 with fail
  have hop0b : ((op : Int) == 0) = false := by rw [beq_eq_false_iff_ne]; omega
  obtain ⟨n0, n1, n2, n3, n4, n5, n6, n7, n8, n9, n10, n11⟩ := blk12 HB3.out
  obtain ⟨y1, -⟩ := blk5 HB53.out
  have d3 := fun w' (h : KeepBut (fun _ => False) W3.drew w') => ((KeepBut.drew _ W3).trans h).stay n3
  have d4 := fun w' (h : KeepBut (fun _ => False) W3.drew w') => ((KeepBut.drew _ W3).trans h).stay n4
  have dk := fun w' (h : KeepBut (fun _ => False) W3.drew w') => ((KeepBut.drew _ W3).trans h).stay y1
  clear n0 n1 n2 n3 n4 n5 n6 n7 n8 n9 n10 n11 y1
  by_cases htake : op = 2 ∨ op = 4
  · have hval := HTK.out.1 htake
    have hvb : (value == []) = false := beq_eq_false_iff_ne.2 hval
    have hvn : (value != []) = true := by rw [bne_iff_ne]; exact hval
    have hve : value.isEmpty = false := by simpa using hval
    have htb : (((op : Int) == 2) || ((op : Int) == 4)) = true := by rcases htake with rfl | rfl <;> rfl
    have HTB := Lib.hid (fun w' => takes_any (op : Int) w')
    rw [htb] at HTB
    clear hval
    refine wp_own0 (by kernel_rfl) (fun i => [[], [0], [0, 1], [0, 1, 2], [0, 1, 2, 3], [0, 1, 2, 3, 4], [0, 1, 2, 3, 4, 5], [0, 1, 2, 3, 4, 5, 6], [0, 1, 2, 3, 4, 5, 6, 7], [0, 1, 2, 3, 4, 5, 6, 7, 8], [0, 1, 2, 3, 4, 5, 6, 7, 8, 9], [0, 1, 2, 3, 4, 5, 6, 7, 8, 9, 10], [0, 1, 2, 3, 4, 5, 6, 7, 8, 9, 10, 11], [0, 1, 2, 3, 4, 5, 6, 7, 8, 9, 10, 11, 12], [0, 1, 2, 3, 4, 5, 6, 7, 8, 9, 10, 11, 12, 13], [0, 1, 2, 3, 4, 5, 6, 7, 8, 9, 10, 11, 12, 13, 14], [0, 1, 2, 3, 4, 5, 6, 7, 8, 9, 10], [0, 1, 2, 3, 4, 5, 6, 7, 8, 9, 10, 16], [0, 1, 2, 3, 4, 5, 6, 7, 8, 9, 10, 16, 17], [0, 1, 2, 3, 4, 5, 6, 7, 8, 9, 10, 16, 17, 18], [0, 1, 2, 3, 4, 5, 6, 7, 8, 9, 10, 16, 17, 18, 19], [0, 1, 2, 3, 4, 5, 6, 7, 8, 9, 10, 11, 12, 13, 14, 15, 16, 17, 18, 19, 20], [0, 1, 2, 3, 4, 5, 6, 7, 8, 9, 10, 11, 12, 13, 14, 15, 16, 17, 18, 19, 20, 21]].getD i []) (fun _ => []) (fun _ => []) [] (by kernel_rfl) (fun i => if i = 15 then some (sConst (.bool true)) else none) ?_
    apply lex_quiet rfl rfl
    · intro w' hk; go_simp; with_reducible rfl
    simp only [Act.put, List.setIfInBounds_toArray, List.set_cons_zero, List.set_cons_succ]
    apply lex_quiet rfl rfl
    · intro w' hk; go_simp; with_reducible rfl
    simp only [Act.put, List.setIfInBounds_toArray, List.set_cons_zero, List.set_cons_succ]
    apply lex_quiet rfl rfl
    · intro w' hk; go_simp; with_reducible rfl
    simp only [Act.put, List.setIfInBounds_toArray, List.set_cons_zero, List.set_cons_succ]
    apply lex_quiet rfl rfl
    · intro w' hk; have e3 := d3 w' hk; go_simp; with_reducible rfl
    simp only [Act.put, List.setIfInBounds_toArray, List.set_cons_zero, List.set_cons_succ]
    apply lex_quiet rfl rfl
    · intro w' hk; go_simp; with_reducible rfl
    simp only [Act.put, List.setIfInBounds_toArray, List.set_cons_zero, List.set_cons_succ]
    apply lex_quiet rfl rfl
    · intro w' hk; go_simp; with_reducible rfl
    simp only [Act.put, List.setIfInBounds_toArray, List.set_cons_zero, List.set_cons_succ]
    apply lex_quiet rfl rfl
    · intro w' hk; go_simp; with_reducible rfl
    simp only [Act.put, List.setIfInBounds_toArray, List.set_cons_zero, List.set_cons_succ]
    apply lex_quiet rfl rfl
    · intro w' hk; have e5 := dk w' hk; go_simp; with_reducible rfl
    simp only [Act.put, List.setIfInBounds_toArray, List.set_cons_zero, List.set_cons_succ]
    apply lex_quiet rfl rfl
    · intro w' hk; go_simp; with_reducible rfl
    simp only [Act.put, List.setIfInBounds_toArray, List.set_cons_zero, List.set_cons_succ]
    apply lex_quiet rfl rfl
    · intro w' hk; go_simp; with_reducible rfl
    simp only [Act.put, List.setIfInBounds_toArray, List.set_cons_zero, List.set_cons_succ]
    apply lex_quiet rfl rfl
    · intro w' hk; go_simp; with_reducible rfl
    simp only [Act.put, List.setIfInBounds_toArray, List.set_cons_zero, List.set_cons_succ]
    apply lex_quiet rfl rfl
    · intro w' hk; go_simp; with_reducible rfl
    simp only [Act.put, List.setIfInBounds_toArray, List.set_cons_zero, List.set_cons_succ]
    apply lex_quiet rfl rfl
    · intro w' hk; go_simp; with_reducible rfl
    simp only [Act.put, List.setIfInBounds_toArray, List.set_cons_zero, List.set_cons_succ]
    apply lex_quiet rfl rfl
    · intro w' hk; go_simp; with_reducible rfl
    simp only [Act.put, List.setIfInBounds_toArray, List.set_cons_zero, List.set_cons_succ]
    apply lex_quiet rfl rfl
    · intro w' hk; have e3 := d3 w' hk; go_simp; with_reducible rfl
    simp only [Act.put, List.setIfInBounds_toArray, List.set_cons_zero, List.set_cons_succ]
    refine lex_loud rfl rfl (loud_call 113 #[.int .i64 op] (fun w => by kernel_rfl) ⟨default, trivial⟩ (fun g _ => stable_true _) fun w' hk _ _ => (HTB.out w').mono ?_) fun gs _ => ?_
    · rintro e w'' ⟨rfl, rfl⟩
      exact ⟨default, trivial, rfl, KeepBut.refl _ _, fun b h => h.elim, trivial⟩
    simp only [sConst, Act.put, List.setIfInBounds_toArray, List.set_cons_zero, List.set_cons_succ]
    apply lex_quiet rfl rfl
    · intro w' hk; go_simp; with_reducible rfl
    simp only [Act.put, List.setIfInBounds_toArray, List.set_cons_zero, List.set_cons_succ]
    apply lex_quiet rfl rfl
    · intro w' hk; go_simp; with_reducible rfl
    simp only [Act.put, List.setIfInBounds_toArray, List.set_cons_zero, List.set_cons_succ]
    apply lex_quiet rfl rfl
    · intro w' hk; go_simp; with_reducible rfl
    simp only [Act.put, List.setIfInBounds_toArray, List.set_cons_zero, List.set_cons_succ]
    apply lex_quiet rfl rfl
    · intro w' hk; have e4 := d4 w' hk; go_simp; with_reducible rfl
    simp only [Act.put, List.setIfInBounds_toArray, List.set_cons_zero, List.set_cons_succ]
    apply lex_quiet rfl rfl
    · intro w' hk; go_simp; with_reducible rfl
    simp only [Act.put, List.setIfInBounds_toArray, List.set_cons_zero, List.set_cons_succ]
    apply lex_quiet rfl rfl
    · intro w' hk; go_simp; with_reducible rfl
    simp only [Act.put, List.setIfInBounds_toArray, List.set_cons_zero, List.set_cons_succ]
    apply lex_quiet rfl rfl
    · intro w' hk; go_simp; with_reducible rfl
    simp only [Act.put, List.setIfInBounds_toArray, List.set_cons_zero, List.set_cons_succ]
    refine lex_nil ?_
    intro W4 hk9 _ _
    have hk := (KeepBut.drew (fun _ => False) W3).trans hk9
    have HB4 := Lib.hid (hk.blk HB3.out); have HR4 := Lib.hid (HR3.out.keep hk fun _ _ e => e); have HK4 := Lib.hid (HK3.out.trans (hk.mono fun _ e => e.elim))
    clear hk hk9 d3 d4 dk
    go_upto_region 5 with fail
    have hne : r0.length ≠ 0 := fun e => by
      have h := HM1.out
      rw [List.eq_nil_of_length_eq_zero e] at h
      cases h
    obtain ⟨g, o, cR, h1, h2, ⟨h3, hg⟩, -, htk⟩ := HR4.out.took
    have HTK2 := Lib.hid htk; have HG := Lib.hid hg; have H23 := Lib.hid (And.intro h2 h3)
    obtain ⟨b0, -, -, -, -, -, f0⟩ := blk6 h1
    have hc : ¬ cR = 1 := by omega
    clear h1 htk hg h3
    go_upto_region 6 with fail
    obtain ⟨W5, hW, hk⟩ : ∃ W5, W5 = W4.setCell ⟨R, 0, none⟩ (.slice (some ⟨g, o + 5, none⟩) r0.length (cR - 1)) ∧ KeepBut (fun b => b = R) W4 W5 := ⟨_, rfl, KeepBut.setCell _ _ _ rfl⟩
    rw [← hW]
    have hr : ReaderAt W5 R r0 el ec := by rw [hW]; exact HTK2.out (some ⟨g, o + 5, none⟩) (cR - 1) (.inr rfl) (fun a ha => by cases ha; exact HG.out) (by have := H23.out; omega) (by have := H23.out; omega)
    have HB5 := Lib.hid (hk.blkE HB4.out fun e => by have e : Bs = R := e; have := HRB.out; omega); have HR5 := Lib.hid hr; have HK5 := Lib.hid (HK4.out.trans (hk.mono fun _ e => .inl e))
    clear hr hk
    clear hW b0 f0 hc hne h2
    have HQ := Lib.hid (must1 HR5.out [40] _ HM1.out)
    go_wp2_with fail
    go_at_call 76
    refine HQ.out.mono ?_
    rintro e W6 ⟨rfl, hr, hk⟩
    have HB6 := Lib.hid (hk.blkE HB5.out fun e => by have e : Bs = R := e; have := HRB.out; omega); have HR6 := Lib.hid hr; have HK6 := Lib.hid (HK5.out.trans (hk.mono fun _ e => .inl e))
    clear hr hk
    have HNM := Lib.hid (by have h := name_str HR6.out HKC.out; rw [HCC.out] at h; exact h)
    obtain ⟨n0, n1, n2, n3, n4, n5, n6, n7, n8, n9, n10, n11⟩ := blk12 HB6.out
    have f6 := frz12 HB6.out 6
    clear n0 n1 n2 n3 n4 n5 n6 n7 n8 n9 n10 n11 f6
    go_wp2_with fail
    go_at_call 79
    refine HNM.out.mono ?_
    rintro e W7 ⟨rfl, hr, hk⟩
    have HB7 := Lib.hid (hk.blkE HB6.out fun e => by have e : Bs = R := e; have := HRB.out; omega); have HR7 := Lib.hid hr; have HK7 := Lib.hid (HK6.out.trans (hk.mono fun _ e => .inl e))
    clear hr hk
    obtain ⟨n0, n1, n2, n3, n4, n5, n6, n7, n8, n9, n10, n11⟩ := blk12 HB7.out
    have f6 := frz12 HB7.out 6
    go_upto_region 8 with fail
    clear n0 n1 n2 n3 n4 n5 n6 n7 n8 n9 n10 n11 f6
    obtain ⟨W8, hW, hb, hk⟩ := s_put6 HB7.out (.string ⟨C.toArray⟩)
    rw [← hW]
    have HB8 := Lib.hid hb; have HR8 := Lib.hid (HR7.out.keep hk fun b hb e => by have e : b = Bs := e; have := HRB.out; omega); have HK8 := Lib.hid (HK7.out.trans (hk.mono fun _ e => .inr e))
    clear hW hb hk
    obtain ⟨n0, n1, n2, n3, n4, n5, n6, n7, n8, n9, n10, n11⟩ := blk12 HB8.out
    go_wp2_with fail
    go_at_call 113
    refine (HTB.out W8).mono ?_
    rintro e W9 ⟨rfl, rfl⟩
    clear n0 n1 n2 n3 n4 n5 n6 n7 n8 n9 n10 n11
    obtain ⟨-, hm2, rfl⟩ := HREST.out.resolve_right (fun h => h.1 htake)
    have HM2 := Lib.hid hm2
    clear hm2
    have HQ := Lib.hid (must2 HR8.out [41] [59] _ HM2.out)
    go_wp2_with fail
    go_at_call 76
    refine HQ.out.mono ?_
    rintro e W10 ⟨rfl, hr, hk⟩
    have HB10 := Lib.hid (hk.blkE HB8.out fun e => by have e : Bs = R := e; have := HRB.out; omega); have HR10 := Lib.hid hr; have HK10 := Lib.hid (HK8.out.trans (hk.mono fun _ e => .inl e))
    clear hr hk
    go_wp2_with fail
    go_end0
    exact ⟨rfl, HR10.out, HK10.out, none, 0, HB10.out, by unfold KidsAt; trivial⟩
  · have hval : value = [] := Classical.byContradiction fun e => htake (HTK.out.2 e)
    subst hval
    have htb : (((op : Int) == 2) || ((op : Int) == 4)) = false := by
      rw [Bool.or_eq_false_iff, beq_eq_false_iff_ne, beq_eq_false_iff_ne]
      omega
    have HTB := Lib.hid (fun w' => takes_any (op : Int) w')
    rw [htb] at HTB
    refine wp_own0 (by kernel_rfl) (fun i => [[], [0], [0, 1], [0, 1, 2], [0, 1, 2, 3], [0, 1, 2, 3, 4], [0, 1, 2, 3, 4, 5], [0, 1, 2, 3, 4, 5, 6], [0, 1, 2, 3, 4, 5, 6, 7], [0, 1, 2, 3, 4, 5, 6, 7, 8], [0, 1, 2, 3, 4, 5, 6, 7, 8, 9], [0, 1, 2, 3, 4, 5, 6, 7, 8, 9, 10], [0, 1, 2, 3, 4, 5, 6, 7, 8, 9, 10, 11], [0, 1, 2, 3, 4, 5, 6, 7, 8, 9, 10, 11, 12], [0, 1, 2, 3, 4, 5, 6, 7, 8, 9, 10, 11, 12, 13], [0, 1, 2, 3, 4, 5, 6, 7, 8, 9, 10, 11, 12, 13, 14], [0, 1, 2, 3, 4, 5, 6, 7, 8, 9, 10], [0, 1, 2, 3, 4, 5, 6, 7, 8, 9, 10, 16], [0, 1, 2, 3, 4, 5, 6, 7, 8, 9, 10, 16, 17], [0, 1, 2, 3, 4, 5, 6, 7, 8, 9, 10, 16, 17, 18], [0, 1, 2, 3, 4, 5, 6, 7, 8, 9, 10, 16, 17, 18, 19], [0, 1, 2, 3, 4, 5, 6, 7, 8, 9, 10, 11, 12, 13, 14, 15, 16, 17, 18, 19, 20], [0, 1, 2, 3, 4, 5, 6, 7, 8, 9, 10, 11, 12, 13, 14, 15, 16, 17, 18, 19, 20, 21]].getD i []) (fun _ => []) (fun _ => []) [] (by kernel_rfl) (fun i => if i = 15 then some (sConst (.bool false)) else none) ?_
    apply lex_quiet rfl rfl
    · intro w' hk; go_simp; with_reducible rfl
    simp only [Act.put, List.setIfInBounds_toArray, List.set_cons_zero, List.set_cons_succ]
    apply lex_quiet rfl rfl
    · intro w' hk; go_simp; with_reducible rfl
    simp only [Act.put, List.setIfInBounds_toArray, List.set_cons_zero, List.set_cons_succ]
    apply lex_quiet rfl rfl
    · intro w' hk; go_simp; with_reducible rfl
    simp only [Act.put, List.setIfInBounds_toArray, List.set_cons_zero, List.set_cons_succ]
    apply lex_quiet rfl rfl
    · intro w' hk; have e3 := d3 w' hk; go_simp; with_reducible rfl
    simp only [Act.put, List.setIfInBounds_toArray, List.set_cons_zero, List.set_cons_succ]
    apply lex_quiet rfl rfl
    · intro w' hk; go_simp; with_reducible rfl
    simp only [Act.put, List.setIfInBounds_toArray, List.set_cons_zero, List.set_cons_succ]
    apply lex_quiet rfl rfl
    · intro w' hk; go_simp; with_reducible rfl
    simp only [Act.put, List.setIfInBounds_toArray, List.set_cons_zero, List.set_cons_succ]
    apply lex_quiet rfl rfl
    · intro w' hk; go_simp; with_reducible rfl
    simp only [Act.put, List.setIfInBounds_toArray, List.set_cons_zero, List.set_cons_succ]
    apply lex_quiet rfl rfl
    · intro w' hk; have e5 := dk w' hk; go_simp; with_reducible rfl
    simp only [Act.put, List.setIfInBounds_toArray, List.set_cons_zero, List.set_cons_succ]
    apply lex_quiet rfl rfl
    · intro w' hk; go_simp; with_reducible rfl
    simp only [Act.put, List.setIfInBounds_toArray, List.set_cons_zero, List.set_cons_succ]
    apply lex_quiet rfl rfl
    · intro w' hk; go_simp; with_reducible rfl
    simp only [Act.put, List.setIfInBounds_toArray, List.set_cons_zero, List.set_cons_succ]
    apply lex_quiet rfl rfl
    · intro w' hk; go_simp; with_reducible rfl
    simp only [Act.put, List.setIfInBounds_toArray, List.set_cons_zero, List.set_cons_succ]
    apply lex_quiet rfl rfl
    · intro w' hk; go_simp; with_reducible rfl
    simp only [Act.put, List.setIfInBounds_toArray, List.set_cons_zero, List.set_cons_succ]
    apply lex_quiet rfl rfl
    · intro w' hk; go_simp; with_reducible rfl
    simp only [Act.put, List.setIfInBounds_toArray, List.set_cons_zero, List.set_cons_succ]
    apply lex_quiet rfl rfl
    · intro w' hk; go_simp; with_reducible rfl
    simp only [Act.put, List.setIfInBounds_toArray, List.set_cons_zero, List.set_cons_succ]
    apply lex_quiet rfl rfl
    · intro w' hk; have e3 := d3 w' hk; go_simp; with_reducible rfl
    simp only [Act.put, List.setIfInBounds_toArray, List.set_cons_zero, List.set_cons_succ]
    refine lex_loud rfl rfl (loud_call 113 #[.int .i64 op] (fun w => by kernel_rfl) ⟨default, trivial⟩ (fun g _ => stable_true _) fun w' hk _ _ => (HTB.out w').mono ?_) fun gs _ => ?_
    · rintro e w'' ⟨rfl, rfl⟩
      exact ⟨default, trivial, rfl, KeepBut.refl _ _, fun b h => h.elim, trivial⟩
    simp only [sConst, Act.put, List.setIfInBounds_toArray, List.set_cons_zero, List.set_cons_succ]
    apply lex_quiet rfl rfl
    · intro w' hk; go_simp; with_reducible rfl
    simp only [Act.put, List.setIfInBounds_toArray, List.set_cons_zero, List.set_cons_succ]
    apply lex_quiet rfl rfl
    · intro w' hk; go_simp; with_reducible rfl
    simp only [Act.put, List.setIfInBounds_toArray, List.set_cons_zero, List.set_cons_succ]
    apply lex_quiet rfl rfl
    · intro w' hk; go_simp; with_reducible rfl
    simp only [Act.put, List.setIfInBounds_toArray, List.set_cons_zero, List.set_cons_succ]
    apply lex_quiet rfl rfl
    · intro w' hk; have e4 := d4 w' hk; go_simp; with_reducible rfl
    simp only [Act.put, List.setIfInBounds_toArray, List.set_cons_zero, List.set_cons_succ]
    apply lex_quiet rfl rfl
    · intro w' hk; go_simp; with_reducible rfl
    simp only [Act.put, List.setIfInBounds_toArray, List.set_cons_zero, List.set_cons_succ]
    apply lex_quiet rfl rfl
    · intro w' hk; go_simp; with_reducible rfl
    simp only [Act.put, List.setIfInBounds_toArray, List.set_cons_zero, List.set_cons_succ]
    apply lex_quiet rfl rfl
    · intro w' hk; go_simp; with_reducible rfl
    simp only [Act.put, List.setIfInBounds_toArray, List.set_cons_zero, List.set_cons_succ]
    refine lex_nil ?_
    intro W4 hk9 _ _
    have hk := (KeepBut.drew (fun _ => False) W3).trans hk9
    have HB4 := Lib.hid (hk.blk HB3.out); have HR4 := Lib.hid (HR3.out.keep hk fun _ _ e => e); have HK4 := Lib.hid (HK3.out.trans (hk.mono fun _ e => e.elim))
    clear hk hk9 d3 d4 dk
    go_upto_region 5 with fail
    have hne : r0.length ≠ 0 := fun e => by
      have h := HM1.out
      rw [List.eq_nil_of_length_eq_zero e] at h
      cases h
    obtain ⟨g, o, cR, h1, h2, ⟨h3, hg⟩, -, htk⟩ := HR4.out.took
    have HTK2 := Lib.hid htk; have HG := Lib.hid hg; have H23 := Lib.hid (And.intro h2 h3)
    obtain ⟨b0, -, -, -, -, -, f0⟩ := blk6 h1
    have hc : ¬ cR = 1 := by omega
    clear h1 htk hg h3
    go_upto_region 6 with fail
    obtain ⟨W5, hW, hk⟩ : ∃ W5, W5 = W4.setCell ⟨R, 0, none⟩ (.slice (some ⟨g, o + 5, none⟩) r0.length (cR - 1)) ∧ KeepBut (fun b => b = R) W4 W5 := ⟨_, rfl, KeepBut.setCell _ _ _ rfl⟩
    rw [← hW]
    have hr : ReaderAt W5 R r0 el ec := by rw [hW]; exact HTK2.out (some ⟨g, o + 5, none⟩) (cR - 1) (.inr rfl) (fun a ha => by cases ha; exact HG.out) (by have := H23.out; omega) (by have := H23.out; omega)
    have HB5 := Lib.hid (hk.blkE HB4.out fun e => by have e : Bs = R := e; have := HRB.out; omega); have HR5 := Lib.hid hr; have HK5 := Lib.hid (HK4.out.trans (hk.mono fun _ e => .inl e))
    clear hr hk
    clear hW b0 f0 hc hne h2
    have HQ := Lib.hid (must1 HR5.out [40] _ HM1.out)
    go_wp2_with fail
    go_at_call 76
    refine HQ.out.mono ?_
    rintro e W6 ⟨rfl, hr, hk⟩
    have HB6 := Lib.hid (hk.blkE HB5.out fun e => by have e : Bs = R := e; have := HRB.out; omega); have HR6 := Lib.hid hr; have HK6 := Lib.hid (HK5.out.trans (hk.mono fun _ e => .inl e))
    clear hr hk
    have HNM := Lib.hid (by have h := name_str HR6.out HKC.out; rw [HCC.out] at h; exact h)
    obtain ⟨n0, n1, n2, n3, n4, n5, n6, n7, n8, n9, n10, n11⟩ := blk12 HB6.out
    have f6 := frz12 HB6.out 6
    clear n0 n1 n2 n3 n4 n5 n6 n7 n8 n9 n10 n11 f6
    go_wp2_with fail
    go_at_call 79
    refine HNM.out.mono ?_
    rintro e W7 ⟨rfl, hr, hk⟩
    have HB7 := Lib.hid (hk.blkE HB6.out fun e => by have e : Bs = R := e; have := HRB.out; omega); have HR7 := Lib.hid hr; have HK7 := Lib.hid (HK6.out.trans (hk.mono fun _ e => .inl e))
    clear hr hk
    obtain ⟨n0, n1, n2, n3, n4, n5, n6, n7, n8, n9, n10, n11⟩ := blk12 HB7.out
    have f6 := frz12 HB7.out 6
    go_upto_region 8 with fail
    clear n0 n1 n2 n3 n4 n5 n6 n7 n8 n9 n10 n11 f6
    obtain ⟨W8, hW, hb, hk⟩ := s_put6 HB7.out (.string ⟨C.toArray⟩)
    rw [← hW]
    have HB8 := Lib.hid hb; have HR8 := Lib.hid (HR7.out.keep hk fun b hb e => by have e : b = Bs := e; have := HRB.out; omega); have HK8 := Lib.hid (HK7.out.trans (hk.mono fun _ e => .inr e))
    clear hW hb hk
    obtain ⟨n0, n1, n2, n3, n4, n5, n6, n7, n8, n9, n10, n11⟩ := blk12 HB8.out
    go_wp2_with fail
    go_at_call 113
    refine (HTB.out W8).mono ?_
    rintro e W9 ⟨rfl, rfl⟩
    clear n0 n1 n2 n3 n4 n5 n6 n7 n8 n9 n10 n11
    obtain ⟨-, r3, x, r4, hm2, hx, hm3, rfl⟩ := HREST.out.resolve_left (fun h => htake h.1)
    have HM2 := Lib.hid hm2; have HXX := Lib.hid hx; have HM3 := Lib.hid hm3
    clear hm2 hx hm3
    have HQ := Lib.hid (must1 HR8.out [44] _ HM2.out)
    go_wp2_with fail
    go_at_call 76
    refine HQ.out.mono ?_
    rintro e W10 ⟨rfl, hr, hk⟩
    have HB10 := Lib.hid (hk.blkE HB8.out fun e => by have e : Bs = R := e; have := HRB.out; omega); have HR10 := Lib.hid hr; have HK10 := Lib.hid (HK8.out.trans (hk.mono fun _ e => .inl e))
    clear hr hk
    have HEX := Lib.hid (exP_reads R el ec f W10 W10 r3 x r4 (KeepBut.refl _ _) HR10.out HXX.out)
    go_wp2_with fail
    go_at_call 32
    refine HEX.out.mono ?_
    rintro e W11 ⟨vs, rfl, hex, hr, hk⟩
    obtain ⟨xk, xo, xn, xS, xp, xm, xc, xl, xcl, rfl⟩ := ex_form hex
    have HX11 := Lib.hid hex
    clear hex
    have HB11 := Lib.hid (hk.blkE HB10.out fun e => by have e : Bs = R := e; have := HRB.out; omega); have HR11 := Lib.hid hr; have HK11 := Lib.hid (HK10.out.trans (hk.mono fun _ e => .inl e))
    clear hr hk
    obtain ⟨W12, G, hW12, hG, hbG, hkG, hsG⟩ := fresh_block W11 (.cells #[.int .i64 xk, .int .i64 xo, .int .i64 xn, .string xS, .slice xp xm xc, .int .i64 xl, .int .i64 xcl] TEx)
    have HBG := Lib.hid hbG; have HR12 := Lib.hid (HR11.out.keep hkG fun _ _ e => e); have HK12 := Lib.hid (HK11.out.trans (hkG.mono fun _ e => e.elim)); have HB12 := Lib.hid (hkG.blk HB11.out); have HX12 := Lib.hid (HX11.out.keep hkG fun _ _ e => e)
    have HNG := Lib.hid (show Bs < G ∧ W11.heap.size ≤ G by have := (Array.getElem?_eq_some_iff.1 HB11.out).1; omega)
    clear hbG hkG hsG
    have HBL := (KeepBut.alloc (fun _ => False) W11 (.cells #[.int .i64 xk, .int .i64 xo, .int .i64 xn, .string xS, .slice xp xm xc, .int .i64 xl, .int .i64 xcl] TEx)).blk HB11.out
    obtain ⟨n0, n1, n2, n3, n4, n5, n6, n7, n8, n9, n10, n11⟩ := blk12 HBL
    have f7 := frz12 HBL 7
    clear HBL
    go_upto_region 11 with fail
    rw [← hW12, ← hG]
    clear hW12 hG n0 n1 n2 n3 n4 n5 n6 n7 n8 n9 n10 n11 f7
    obtain ⟨W13, hW, hb, hk⟩ := s_put7 HB12.out (.slice (some ⟨G, 0, none⟩) 1 1)
    rw [← hW]
    have HB13 := Lib.hid hb; have HR13 := Lib.hid (HR12.out.keep hk fun b hb e => by have e : b = Bs := e; have := HRB.out; omega); have HK13 := Lib.hid (HK12.out.trans (hk.mono fun _ e => .inr e))
    have HSZ := Lib.hid (show w.heap.size ≤ W10.heap.size from HK10.out.size)
    have HKD := Lib.hid (show KidsAt W13 (fun b => w.heap.size ≤ b) (some ⟨G, 0, none⟩) 0 [x] from kids_one (hk.blkE HBG.out fun e => by have e : G = Bs := e; have := HNG.out; omega) (by show w.heap.size ≤ G; have := HNG.out; have := HK11.out.size; omega) ((HX12.out.keep hk fun b hb e => by have e : b = Bs := e; have hb : W10.heap.size ≤ b := hb; have := HN0.out; have := HSZ.out; omega).mono fun b hb => by have hb : W10.heap.size ≤ b := hb; have := HSZ.out; omega))
    clear hW hb hk
    have HQ := Lib.hid (must2 HR13.out [41] [59] _ HM3.out)
    go_wp2_with fail
    go_at_call 76
    refine HQ.out.mono ?_
    rintro e W14 ⟨rfl, hr, hk⟩
    have HKE := Lib.hid (KidsAt.keep hk (fun b hb e => by have e : b = R := e; have hb : w.heap.size ≤ b := hb; have := HRB.out; have := HN0.out; omega) HKD.out)
    have HB14 := Lib.hid (hk.blkE HB13.out fun e => by have e : Bs = R := e; have := HRB.out; omega); have HR14 := Lib.hid hr; have HK14 := Lib.hid (HK13.out.trans (hk.mono fun _ e => .inl e))
    clear hr hk
    go_wp2_with fail
    go_end0
    exact ⟨rfl, HR14.out, HK14.out, _, 1, HB14.out, HKE.out⟩

end Go.Proofs.YtomlffobbkcmdaaGreatDoor
