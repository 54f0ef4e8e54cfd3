/-
  SpecSets, in plain: keys added one after the other, and what memory holds of two such sets. No code in sight.
-/
import Derived.Test.YtopodipjapiaoaaHeld
import Derived.Test.YtopodipjapiaoaaApp
namespace Go.Proofs.Ytopodipjapiaoaa
open Go Go.RowKit Own

theorem strict_ext_aux : ∀ (xs ys : List Int), xs.Pairwise (· < ·) → ys.Pairwise (· < ·) → (∀ z, z ∈ xs ↔ z ∈ ys) → xs = ys
  | [], [], _, _, _ => rfl
  | [], y :: ys, _, _, h => by have := (h y).2 List.mem_cons_self; simp at this
  | x :: xs, [], _, _, h => by have := (h x).1 List.mem_cons_self; simp at this
  | x :: xs, y :: ys, h1, h2, h => by
    have h1' := List.pairwise_cons.1 h1
    have h2' := List.pairwise_cons.1 h2
    have e : x = y := by
      rcases List.mem_cons.1 ((h x).1 List.mem_cons_self) with e | e
      · exact e
      · rcases List.mem_cons.1 ((h y).2 List.mem_cons_self) with e' | e'
        · exact e'.symm
        · have := h1'.1 y e'; have := h2'.1 x e; omega
    subst e
    rw [strict_ext_aux xs ys h1'.2 h2'.2 fun z => ?_]
    constructor
    · intro hz
      rcases List.mem_cons.1 ((h z).1 (List.mem_cons_of_mem _ hz)) with e | e
      · have := h1'.1 z hz; omega
      · exact e
    · intro hz
      rcases List.mem_cons.1 ((h z).2 (List.mem_cons_of_mem _ hz)) with e | e
      · have := h2'.1 z hz; omega
      · exact e

theorem strict_ext {xs ys : List Int} (h1 : strictB xs = true) (h2 : strictB ys = true) (h : ∀ z, z ∈ xs ↔ z ∈ ys) : xs = ys :=
  strict_ext_aux _ _ (strict_pairwise h1) (strict_pairwise h2) h

/-- a set behind an addition -/
def addR (xs : List Int) (x : Int) : List Int := if xs.contains x = true then xs else putAt xs (xs.countP (· < x)) x

theorem chk3 {xs : List Int} (h : strictB xs = true) (hl : xs.length ≤ 64) : chk 3 xs = 0 := chk_ok (by decide) hl fun _ => h

theorem add_law {xs : List Int} {x : Int} (h : strictB xs = true) : strictB (addR xs x) = true ∧ (∀ z, z ∈ addR xs x ↔ z = x ∨ z ∈ xs) ∧ xs.length ≤ (addR xs x).length ∧ (addR xs x).length ≤ xs.length + 1 := by
  unfold addR
  by_cases hc : xs.contains x = true
  · rw [if_pos hc]
    refine ⟨h, fun z => ⟨.inr, ?_⟩, Nat.le_refl _, by omega⟩
    rintro (e | e)
    · subst e; exact contains_iff.1 hc
    · exact e
  · rw [if_neg hc]
    obtain ⟨h1, h2, h3⟩ := put_model h (by simpa using hc)
    exact ⟨h1, h2, by omega, by omega⟩

theorem doR_add {xs : List Int} {x : Int} (h : strictB xs = true) (hl : xs.length < 64) : doR 3 5 xs x = ⟨3, addR xs x, 0, if xs.contains x = true then 0 else 1, 0⟩ := by
  have h4 := (add_law (x := x) h).2.2.2
  unfold doR
  rw [if_pos ⟨chk3 h (by omega), by decide⟩]
  by_cases hc : xs.contains x = true
  · have hd : deedR 5 xs x = (xs, 0, false) := by unfold deedR; simp only [hc]; rfl
    have ha : addR xs x = xs := by unfold addR; rw [if_pos hc]
    rw [hd, if_pos (show xs.length ≤ 64 by omega), ha, if_pos hc]; rfl
  · have hd : deedR 5 xs x = (addR xs x, 0, true) := by
      have hc' : xs.contains x = false := by simpa using hc
      unfold deedR addR; simp only [hc']; rfl
    rw [hd, if_pos (show (addR xs x).length ≤ 64 by omega), if_neg hc]; rfl

/-- the keys of a set, taken from the front and from the back -/
def fromFront (L : Nat → Int) : Nat → List Int
  | 0 => []
  | i + 1 => addR (fromFront L i) (L i)
def fromBack (L : Nat → Int) (n : Nat) : Nat → List Int
  | 0 => []
  | i + 1 => addR (fromBack L n i) (L (n - 1 - i))

theorem front_law (L : Nat → Int) : ∀ i, strictB (fromFront L i) = true ∧ (∀ z, z ∈ fromFront L i ↔ ∃ j, j < i ∧ L j = z) ∧ (fromFront L i).length ≤ i
  | 0 => ⟨(by decide : strictB [] = true), fun z => ⟨fun h => by simp [fromFront] at h, fun ⟨j, h, _⟩ => by omega⟩, by simp [fromFront]⟩
  | i + 1 => by
    obtain ⟨h1, h2, h3⟩ := front_law L i
    obtain ⟨a1, a2, _, a4⟩ := add_law (x := L i) h1
    refine ⟨a1, fun z => ?_, by show (addR _ _).length ≤ _; omega⟩
    show z ∈ addR _ _ ↔ _
    rw [a2, h2]
    constructor
    · rintro (e | ⟨j, h, e⟩)
      · exact ⟨i, by omega, e.symm⟩
      · exact ⟨j, by omega, e⟩
    · rintro ⟨j, h, e⟩
      by_cases hj : j = i
      · subst hj; exact .inl e.symm
      · exact .inr ⟨j, by omega, e⟩

theorem back_law (L : Nat → Int) (n : Nat) : ∀ i, strictB (fromBack L n i) = true ∧ (∀ z, z ∈ fromBack L n i ↔ ∃ j, j < i ∧ L (n - 1 - j) = z) ∧ (fromBack L n i).length ≤ i
  | 0 => ⟨(by decide : strictB [] = true), fun z => ⟨fun h => by simp [fromBack] at h, fun ⟨j, h, _⟩ => by omega⟩, by simp [fromBack]⟩
  | i + 1 => by
    obtain ⟨h1, h2, h3⟩ := back_law L n i
    obtain ⟨a1, a2, _, a4⟩ := add_law (x := L (n - 1 - i)) h1
    refine ⟨a1, fun z => ?_, by show (addR _ _).length ≤ _; omega⟩
    show z ∈ addR _ _ ↔ _
    rw [a2, h2]
    constructor
    · rintro (e | ⟨j, h, e⟩)
      · exact ⟨i, by omega, e.symm⟩
      · exact ⟨j, by omega, e⟩
    · rintro ⟨j, h, e⟩
      by_cases hj : j = i
      · subst hj; exact .inl e.symm
      · exact .inr ⟨j, by omega, e⟩

theorem front_back (L : Nat → Int) (n : Nat) : fromFront L n = fromBack L n n :=
  strict_ext (front_law L n).1 (back_law L n n).1 fun z => by
    rw [(front_law L n).2.1, (back_law L n n).2.1]
    constructor
    · rintro ⟨j, h, e⟩
      exact ⟨n - 1 - j, by omega, by rw [show n - 1 - (n - 1 - j) = j by omega]; exact e⟩
    · rintro ⟨j, h, e⟩
      exact ⟨n - 1 - j, by omega, e⟩

/-- what the map holds beside a set -/
def MapOf (xs : List Int) (m : List (Int × Value)) : Prop := (∀ z, mget m z = if xs.contains z = true then some (.int .i64 1) else none) ∧ m.length = xs.length

theorem MapOf.nil : MapOf [] [] := ⟨fun z => rfl, rfl⟩

theorem MapOf.add {xs : List Int} {m : List (Int × Value)} {x : Int} (h : MapOf xs m) (hs : strictB xs = true) (hd : (m.map (·.1)).Nodup) : MapOf (addR xs x) (mset m x (.int .i64 1)) := by
  obtain ⟨a1, a2, a3, a4⟩ := add_law (x := x) hs
  refine ⟨fun z => ?_, ?_⟩
  · rw [mget_mset hd, h.1 z]
    by_cases hz : z = x
    · subst hz; rw [if_pos rfl, if_pos (contains_iff.2 ((a2 z).2 (.inl rfl)))]
    · rw [if_neg hz]
      by_cases hx : z ∈ xs
      · rw [if_pos (contains_iff.2 hx), if_pos (contains_iff.2 ((a2 z).2 (.inr hx)))]
      · rw [if_neg fun e => hx (contains_iff.1 e), if_neg fun e => by
          rcases (a2 z).1 (contains_iff.1 e) with e | e
          · exact hz e
          · exact hx e]
  · rw [mset_length, h.1 x]
    by_cases hc : xs.contains x = true
    · rw [if_pos hc]
      have : addR xs x = xs := by unfold addR; rw [if_pos hc]
      rw [this]; exact h.2
    · rw [if_neg hc]
      have : addR xs x = putAt xs (xs.countP (· < x)) x := by unfold addR; rw [if_neg hc]
      rw [this, (put_model hs (by simpa using hc)).2.2, h.2]; rfl

/-- the four calls behind the loop -/
theorem sets_end {xs : List Int} {x : Int} (h : strictB xs = true) (hl : xs.length ≤ 64) (hx : x ∈ xs) :
    doR 3 6 xs x = ⟨3, cutAt xs (xs.countP (· < x)), 0, 1, 0⟩ ∧
    doR 3 7 (cutAt xs (xs.countP (· < x))) x = ⟨3, cutAt xs (xs.countP (· < x)), 0, 0, 0⟩ ∧
    doR 3 6 (cutAt xs (xs.countP (· < x))) x = ⟨3, cutAt xs (xs.countP (· < x)), 0, 0, 0⟩ ∧
    doR 3 5 (cutAt xs (xs.countP (· < x))) x = ⟨3, xs, 0, 1, 0⟩ ∧ (cutAt xs (xs.countP (· < x))).length = xs.length - 1 ∧ 0 < xs.length := by
  have hc := contains_iff.2 hx
  have hpos : 0 < xs.length := List.length_pos_of_mem hx
  obtain ⟨p1, p2, p3⟩ := cut_model (x := x) h hc
  have hn : (cutAt xs (xs.countP (· < x))).contains x = false := by
    rcases Bool.eq_false_or_eq_true ((cutAt xs (xs.countP (· < x))).contains x) with e | e
    · exact absurd rfl ((p2 x).1 (contains_iff.1 e)).1
    · exact e
  have d6 : deedR 6 xs x = (cutAt xs (xs.countP (· < x)), 0, true) := by unfold deedR; simp only [hc]; rfl
  generalize cutAt xs (xs.countP (· < x)) = ys at *
  have hck := chk3 p1 (by omega)
  have d7 : deedR 7 ys x = (ys, 0, false) := by unfold deedR; rw [hn]; rfl
  have d6' : deedR 6 ys x = (ys, 0, false) := by unfold deedR; simp only [hn]; rfl
  refine ⟨?_, ?_, ?_, ?_, p3, hpos⟩
  · unfold doR; rw [if_pos ⟨chk3 h hl, by decide⟩, d6, if_pos (show ys.length ≤ 64 by omega)]; rfl
  · unfold doR; rw [if_pos ⟨hck, by decide⟩, d7, if_pos (show ys.length ≤ 64 by omega)]; rfl
  · unfold doR; rw [if_pos ⟨hck, by decide⟩, d6', if_pos (show ys.length ≤ 64 by omega)]; rfl
  · rw [doR_add p1 (by omega), hn]
    have e : addR ys x = xs := strict_ext (add_law p1).1 h fun z => by
      rw [(add_law p1).2.1, p2]
      constructor
      · rintro (e | e)
        · subst e; exact hx
        · exact e.2
      · intro hz
        by_cases e : z = x
        · exact .inl e
        · exact .inr ⟨e, hz⟩
    rw [e]; rfl

/-! Memory. -/

/-- Two contents in blocks N5 and N7, and the map in N9, each block of the call's own. -/
structure SHeld (N5 N7 N9 : Nat) (w0 wr : World) (pa : Option Addr) (ca : Nat) (xs : List Int) (pb : Option Addr) (cb : Nat) (ys : List Int) (m : List (Int × Value)) : Prop where
  keep : KeepBut (fun _ => False) w0 wr
  map : MapI .i64 wr N9 m
  blkA : wr.heap[N5]? = some (.cells #[.int .i64 3, .slice pa xs.length ca] 27 (0, 0))
  blkB : wr.heap[N7]? = some (.cells #[.int .i64 3, .slice pb ys.length cb] 27 (0, 0))
  liesA : Lies (N9 + 1) wr pa xs
  liesB : Lies (N9 + 1) wr pb ys
  h5 : w0.heap.size ≤ N5
  h57 : N5 < N7
  h79 : N7 < N9

section
variable {N5 N7 N9 : Nat} {w0 wr : World} {pa pb : Option Addr} {ca cb : Nat} {xs ys : List Int} {m : List (Int × Value)}

theorem SHeld.stay {w' : World} (h : SHeld N5 N7 N9 w0 wr pa ca xs pb cb ys m) (hk : KeepBut (fun _ => False) wr w') : SHeld N5 N7 N9 w0 w' pa ca xs pb cb ys m :=
  ⟨h.keep.trans hk, h.map.stay hk, hk.blk h.blkA, hk.blk h.blkB, h.liesA.stay hk, h.liesB.stay hk, h.h5, h.h57, h.h79⟩

theorem SHeld.newMap {w' : World} (h : SHeld N5 N7 N9 w0 wr pa ca xs pb cb ys m) {m' : List (Int × Value)} (hk : KeepBut (fun b => b = N9) wr w') (hm : MapI .i64 w' N9 m') : SHeld N5 N7 N9 w0 w' pa ca xs pb cb ys m' := by
  have h5 := h.h5; have h57 := h.h57; have h79 := h.h79
  refine ⟨h.keep.new hk fun b hb => by rw [show b = N9 from hb]; omega, hm, KeepBut.blkE hk h.blkA (by omega), KeepBut.blkE hk h.blkB (by omega),
    h.liesA.keep hk fun a ha e => ?_, h.liesB.keep hk fun a ha e => ?_, h.h5, h.h57, h.h79⟩
  · have := (h.liesA.2 a ha).1; have : a.block = N9 := e; omega
  · have := (h.liesB.2 a ha).1; have : a.block = N9 := e; omega

theorem SHeld.newAB {w' : World} (h : SHeld N5 N7 N9 w0 wr pa ca xs pb cb ys m) {pa' pb' : Option Addr} {ca' cb' : Nat} {xs' ys' : List Int} (hk : KeepBut (fun b => b = N5 ∨ b = N7) wr w')
    (h1 : w'.heap[N5]? = some (.cells #[.int .i64 3, .slice pa' xs'.length ca'] 27 (0, 0))) (h2 : w'.heap[N7]? = some (.cells #[.int .i64 3, .slice pb' ys'.length cb'] 27 (0, 0)))
    (l1 : Lies (N9 + 1) wr pa' xs') (l2 : Lies (N9 + 1) wr pb' ys') : SHeld N5 N7 N9 w0 w' pa' ca' xs' pb' cb' ys' m := by
  have h5 := h.h5; have h57 := h.h57; have h79 := h.h79
  refine ⟨h.keep.new hk fun b hb => ?_, h.map.keep hk (by omega), h1, h2, l1.keep hk fun a ha e => ?_, l2.keep hk fun a ha e => ?_, h.h5, h.h57, h.h79⟩
  · rcases hb with hb | hb
    · rw [hb]; omega
    · rw [hb]; omega
  · have := (l1.2 a ha).1; rcases e with e | e <;> omega
  · have := (l2.2 a ha).1; rcases e with e | e <;> omega

theorem SHeld.lt9 (h : SHeld N5 N7 N9 w0 wr pa ca xs pb cb ys m) : N9 < wr.heap.size := h.map.lt
end

/-! A call of Do as an operation of a region. -/
def sDo (B : Nat) (k : Int) (ys : List Int) (v c r : Int) : Loud :=
  { val := fun _ g => .tuple #[.agg #[.int .i64 k, .slice g.p ys.length g.c], .int .i64 v, .int .i64 c, .int .i64 r], fp := fun _ g => Of g.p, post := fun _ g w => Lies B w g.p ys }

theorem stable_lies {w0 : World} {M : Nat → Prop} (B : Nat) (p : Option Addr) (xs : List Int) : Stable w0 M (Of p) (fun w => Lies B w p xs) := fun w w' _ _ hs h k => by
  refine ⟨fun j v hj => ?_, fun a ha => ⟨(k.2 a ha).1, Nat.lt_of_lt_of_le (k.2 a ha).2.1 hs, (k.2 a ha).2.2⟩⟩
  obtain ⟨b, o, h1, h2⟩ := k.1 j v hj
  exact ⟨b, o, h1, (World.cell?_of_block (h b ⟨_, h1, rfl⟩)).trans h2⟩

theorem loud_do {w0 : World} {o : Oper} {a : Act} {av ea : List Nat} {F : Nat → World → Prop} {Fp : Nat → Nat → Prop} (B : Nat) (hB : B ≤ w0.heap.size) (k : Int) (p : Option Addr) (c : Nat) (xs : List Int) (op x : Int) (ys : List Int) (v cd r : Int)
    (hdo : doR k op xs x = ⟨k, ys, v, cd, r⟩) (hl : xs.length ≤ 1099511627776) (hx : ∀ w, KeepBut (fun _ => False) w0 w → Lies 0 w p xs)
    (hrun : ∀ w, (execOp a.eval o).run Try.prog w = .ok (.enter 8 #[.agg #[.int .i64 k, .slice p xs.length c], .int .i64 op, .int .i64 x]) w) :
    LoudOk Try.prog w0 (fun _ => False) o a (sDo B k ys v cd r) av ea F Fp := by
  refine loud_call _ _ hrun ⟨default, trivial⟩ (fun g _ => stable_lies _ _ _) fun w hk _ _ => ?_
  have h1 := do_any w k p c xs (hx w hk).1 hl (fun a ha => ((hx w hk).2 a ha).2.2) op x
  rw [hdo] at h1
  refine h1.mono ?_
  rintro e w' ⟨p', c', rfl, hL, hk'⟩
  have hs := hk.size
  exact ⟨{ p := p', c := c' }, trivial, rfl, hk'.mono fun _ h => h.elim, fun b ⟨a, h1, h2⟩ => by subst h2; exact ⟨.inl (hL.2 a h1).1, (hL.2 a h1).2.1⟩, hL.base fun a ha => by have := (hL.2 a ha).1; omega⟩

/-! Two blocks set aside, for the two operations of a region that write them. -/
def aside2 (n : Nat) (m1 : Nat) (x1 : Obj) (m2 : Nat) (x2 : Obj) (j : Nat) (w : World) : Prop := if j = n then w.heap[m1]? = some x1 else if j = n + 1 then w.heap[m2]? = some x2 else True
def aside2Fp (n : Nat) (m1 m2 : Nat) (j k : Nat) : Prop := (j = n ∧ k = m1) ∨ (j = n + 1 ∧ k = m2)

theorem wp_own2 {P : Program} {l : List Oper} {Q : Exit → Act → World → Prop} {id : Nat} {a : Act} {w : World} (hm : P.follows .mixedOrders = true)
    (m1 : Nat) (x1 : Obj) (hx1 : w.heap[m1]? = some x1) (m2 : Nat) (x2 : Obj) (hx2 : w.heap[m2]? = some x2) (hne : m1 ≠ m2)
    (D av ea : Nat → List Nat) (keep : List Nat) (hok : okB l.toArray D av ea keep = true) (sp : Nat → Option Loud)
    (hlex : Lex P l.toArray w.drew (fun k => k = m1 ∨ k = m2) sp av ea (fun a F Fp => Done w.drew (fun k => k = m1 ∨ k = m2) Q keep a F Fp) l 0 a (aside2 l.length m1 x1 m2 x2) (aside2Fp l.length m1 m2)) : (Code.region id l.toArray true).wp P Q a w := by
  have lt : ∀ {m x}, w.heap[m]? = some x → m < w.heap.size := fun {m x} hx => by
    rcases Nat.lt_or_ge m w.heap.size with h' | h'
    · exact h'
    · rw [Array.getElem?_eq_none h'] at hx; cases hx
  refine wp_own_lit hm D av ea keep hok sp _ _ _ ?_ ?_ ?_ ?_ hlex
  · intro j hj
    have hj' : j < l.length := by simpa using hj
    funext w'; unfold aside2; rw [if_neg (by omega), if_neg (by omega)]
  · intro j hj
    have hj' : j < l.length := by simpa using hj
    funext w'; unfold aside2Fp
    exact propext ⟨fun h => by rcases h with h | h <;> have := h.1 <;> omega, fun h => h.elim⟩
  · intro j _
    refine ⟨?_, ?_, fun b hb => ?_⟩
    · intro w1 w2 _ _ _ h k
      unfold aside2 at k ⊢
      by_cases hj : j = l.length
      · rw [if_pos hj] at k ⊢
        rw [← k]; exact h m1 (.inl ⟨hj, rfl⟩)
      · rw [if_neg hj] at k ⊢
        by_cases hj2 : j = l.length + 1
        · rw [if_pos hj2] at k ⊢
          rw [← k]; exact h m2 (.inr ⟨hj2, rfl⟩)
        · rw [if_neg hj2]; trivial
    · unfold aside2
      by_cases hj : j = l.length
      · rw [if_pos hj]; exact hx1
      · rw [if_neg hj]
        by_cases hj2 : j = l.length + 1
        · rw [if_pos hj2]; exact hx2
        · rw [if_neg hj2]; trivial
    · rcases hb with ⟨_, hb⟩ | ⟨_, hb⟩
      · exact ⟨by rw [hb]; exact lt hx1, .inl hb⟩
      · exact ⟨by rw [hb]; exact lt hx2, .inr hb⟩
  · intro j k _ _ hjk b h1 h2
    rcases h1 with ⟨a1, a2⟩ | ⟨a1, a2⟩ <;> rcases h2 with ⟨b1, b2⟩ | ⟨b1, b2⟩
    · omega
    · exact hne (a2.symm.trans b2)
    · exact hne (b2.symm.trans a2)
    · omega

end Go.Proofs.Ytopodipjapiaoaa
