/- Joined texts of this work: Hp1, HiD, Hp2, HiE, HiF, Pick, HiG, Hp3. -/
import Derived.Test.YtoolpifkfgileaaDoorJo11
import Derived.Test.YtoolpifkfgileaaDoorJo8

/-
  In plain: which histories may be, and which orders there are, told by calls and not by their numbers. No code in sight.
-/
namespace Go.Proofs.YtoolpifkfgileaaDoor
open Go Go.RowKit Own

def aheadC (a b : Cl) : Bool := decide (0 ≤ a.till) && decide (a.till < b.beg)
def step1 (e : Int × List Int) (c : Cl) : Option (Int × List Int) :=
  if c.till = -1 then (if (doR e.1 c.op e.2 c.arg).err = 0 then some ((doR e.1 c.op e.2 c.arg).kind, (doR e.1 c.op e.2 c.arg).items) else none)
  else (if (mayR e.1 c.op e.2 c.arg c.value c.code).ok = true then some ((mayR e.1 c.op e.2 c.arg c.value c.code).kind, (mayR e.1 c.op e.2 c.arg c.value c.code).items) else none)
def stepC (h : List (Int × List Int)) (c : Cl) : Option (List (Int × List Int)) := (step1 (nthK h c.cont.toNat) c).map fun e => h.set c.cont.toNat e
theorem stepP_eq (cs : List Cl) (h : List (Int × List Int)) (n : Nat) : stepP cs h n = stepC h (nthC cs n) := by
  unfold stepP stepC step1
  dsimp only
  split
  · split <;> rfl
  · split <;> rfl
def foldC : List (Int × List Int) → List Cl → Option (List (Int × List Int))
  | h, [] => some h
  | h, c :: o => match stepC h c with | some h' => foldC h' o | none => none

theorem nthC_eq {cs : List Cl} {n : Nat} (h : n < cs.length) : nthC cs n = cs[n] := by simp [nthC, List.getD, h]
theorem nthC_mem {cs : List Cl} {n : Nat} (h : n < cs.length) : nthC cs n ∈ cs := by rw [nthC_eq h]; exact List.getElem_mem h
theorem mem_nthC {cs : List Cl} {c : Cl} (h : c ∈ cs) : ∃ n, n < cs.length ∧ nthC cs n = c := by
  obtain ⟨n, hn, e⟩ := List.getElem_of_mem h
  exact ⟨n, hn, by rw [nthC_eq hn, e]⟩

/-- an order by numbers -/
structure OrdI (cs : List Cl) (d : Nat) (h : List (Int × List Int)) (o : List Nat) : Prop where
  lt : ∀ n ∈ o, n < cs.length
  nodup : o.Nodup
  new : ∀ n ∈ o, d.testBit n = false
  pair : o.Pairwise fun a b => aheadB cs b a = false
  ended : ∀ k, k < cs.length → (nthC cs k).till ≠ -1 → d.testBit k = true ∨ k ∈ o
  run : (foldC h (o.map (nthC cs))).isSome = true

theorem bits_lt24 {f : Nat → Bool} {N : Nat} (h : N ≤ 24) : bitsOf f N < 4294967296 := Nat.lt_trans (bitsOf_lt f N) (pow_lt h)

theorem over_iff {cs : List Cl} {d : Nat} (h : cs.length ≤ 24) : overB cs d = true ↔ ∀ k, k < cs.length → (nthC cs k).till ≠ -1 → d.testBit k = true := by
  unfold overB endedM
  rw [beq_iff_eq, without_zero (bits_lt24 h)]
  constructor
  · intro h1 k hk ht
    exact h1 k (by rw [bitsOf_bit, decide_eq_true hk]; simpa using ht)
  · intro h1 k hk
    rw [bitsOf_bit, Bool.and_eq_true, decide_eq_true_eq] at hk
    exact h1 k hk.1 (by simpa using hk.2)

theorem free_iff {cs : List Cl} {d n : Nat} (h : cs.length ≤ 24) : freeB cs d n = true ↔ d.testBit n = false ∧ ∀ k, k < cs.length → aheadB cs k n = true → d.testBit k = true := by
  unfold freeB aheadM
  rw [Bool.and_eq_true, Bool.not_eq_true', beq_iff_eq, without_zero (bits_lt24 h)]
  refine and_congr_right fun _ => ?_
  constructor
  · intro h1 k hk ht
    exact h1 k (by rw [bitsOf_bit, decide_eq_true hk, ht]; rfl)
  · intro h1 k hk
    rw [bitsOf_bit, Bool.and_eq_true, decide_eq_true_eq] at hk
    exact h1 k hk.1 hk.2

theorem ahead_ended {cs : List Cl} {k n : Nat} (h : aheadB cs k n = true) : (nthC cs k).till ≠ -1 := by
  unfold aheadB at h
  rw [Bool.and_eq_true, decide_eq_true_eq, decide_eq_true_eq] at h
  omega

theorem ord_of : ∀ (o : List Nat) {cs : List Cl} {d : Nat} {h : List (Int × List Int)}, cs.length ≤ 24 → ordB cs d h o = true → OrdI cs d h o
  | [], cs, d, h, hl, ho => by
    unfold ordB at ho
    exact ⟨fun n hn => (by cases hn), List.nodup_nil, fun n hn => (by cases hn), List.Pairwise.nil, fun k hk ht => .inl ((over_iff hl).1 ho k hk ht), rfl⟩
  | n :: o, cs, d, h, hl, ho => by
    unfold ordB at ho
    rw [Bool.and_eq_true, decide_eq_true_eq] at ho
    obtain ⟨hn, ho⟩ := ho
    cases hx : nextP cs d h n with
    | none => rw [hx] at ho; cases ho
    | some h' =>
      rw [hx] at ho
      dsimp only at ho
      have ih := ord_of o hl ho
      unfold nextP at hx
      split at hx
      · rename_i hf
        obtain ⟨f1, f2⟩ := (free_iff hl).1 hf
        have nb : ∀ m ∈ o, m ≠ n ∧ d.testBit m = false := fun m hm => by
          have := ih.new m hm
          rw [or_bit, Bool.or_eq_false_iff, decide_eq_false_iff_not] at this
          exact ⟨this.2, this.1⟩
        refine ⟨fun m hm => ?_, List.nodup_cons.2 ⟨fun hm => (nb n hm).1 rfl, ih.nodup⟩, fun m hm => ?_, List.pairwise_cons.2 ⟨fun m hm => ?_, ih.pair⟩, fun k hk ht => ?_, ?_⟩
        · rcases List.mem_cons.1 hm with e | hm
          · rw [e]; exact hn
          · exact ih.lt m hm
        · rcases List.mem_cons.1 hm with e | hm
          · rw [e]; exact f1
          · exact (nb m hm).2
        · cases ha : aheadB cs m n with
          | false => rfl
          | true =>
            have := f2 m (ih.lt m hm) ha
            rw [(nb m hm).2] at this
            cases this
        · rcases ih.ended k hk ht with h1 | h1
          · rw [or_bit, Bool.or_eq_true, decide_eq_true_eq] at h1
            rcases h1 with h1 | h1
            · exact .inl h1
            · exact .inr (by rw [h1]; exact List.mem_cons_self)
          · exact .inr (List.mem_cons_of_mem _ h1)
        · rw [stepP_eq] at hx
          rw [List.map_cons]
          unfold foldC
          rw [hx]
          exact ih.run
      · cases hx

theorem of_ord : ∀ (o : List Nat) {cs : List Cl} {d : Nat} {h : List (Int × List Int)}, cs.length ≤ 24 → (∀ k, k < cs.length → aheadB cs k k = false) → OrdI cs d h o → ordB cs d h o = true
  | [], cs, d, h, hl, hs, ho => by
    unfold ordB
    exact (over_iff hl).2 fun k hk ht => (ho.ended k hk ht).resolve_right fun e => by cases e
  | n :: o, cs, d, h, hl, hs, ho => by
    have hn := ho.lt n List.mem_cons_self
    have hrun := ho.run
    rw [List.map_cons] at hrun
    unfold foldC at hrun
    cases hx : stepC h (nthC cs n) with
    | none => rw [hx] at hrun; cases hrun
    | some h' =>
      rw [hx] at hrun
      dsimp only at hrun
      obtain ⟨hp1, hp2⟩ := List.pairwise_cons.1 ho.pair
      obtain ⟨hd1, hd2⟩ := List.nodup_cons.1 ho.nodup
      have hf : freeB cs d n = true := (free_iff hl).2 ⟨ho.new n List.mem_cons_self, fun k hk ha => by
        rcases ho.ended k hk (ahead_ended ha) with h1 | h1
        · exact h1
        · exfalso
          rcases List.mem_cons.1 h1 with e | h1
          · rw [e, hs n hn] at ha; cases ha
          · rw [hp1 k h1] at ha; cases ha⟩
      have ih := of_ord o (d := d ||| 2 ^ n) (h := h') hl hs ⟨fun m hm => ho.lt m (List.mem_cons_of_mem _ hm), hd2, fun m hm => by
          rw [or_bit, ho.new m (List.mem_cons_of_mem _ hm), Bool.false_or, decide_eq_false_iff_not]
          intro e
          rw [e] at hm
          exact hd1 hm, hp2, fun k hk ht => by
          rw [or_bit]
          rcases ho.ended k hk ht with h1 | h1
          · left; rw [h1]; rfl
          · rcases List.mem_cons.1 h1 with e | h1
            · left; rw [e]; simp
            · exact .inr h1, hrun⟩
      unfold ordB nextP
      rw [decide_eq_true hn, hf, if_pos rfl, stepP_eq, hx]
      exact ih

/-- what two calls of a history must be to each other -/
def Apart (a b : Cl) : Prop := a.beg ≠ b.beg ∧ (a.till ≠ -1 → a.till ≠ b.beg) ∧ (b.till ≠ -1 → a.beg ≠ b.till) ∧ (a.till ≠ -1 → b.till ≠ -1 → a.till ≠ b.till) ∧ (a.hart = b.hart → a.till ≠ -1 ∧ a.till < b.beg)
def EachC (ks : List Int) (c : Cl) : Prop := goodC ks c = true ∧ (c.till = -1 → c.value = 0 ∧ c.code = 0) ∧ (c.till ≠ -1 → c.beg < c.till)
def ClearT (T : Int → Bool) (c : Cl) : Prop := T c.beg = false ∧ (c.till ≠ -1 → T c.till = false)

theorem updT_false {T : Int → Bool} {t x : Int} : updT T t x = false ↔ x ≠ t ∧ T x = false := by
  unfold updT
  by_cases h : x = t <;> simp [h]

theorem lastOk_upd (E : Int → Option Int) (c x : Cl) (hc : lastOk (E c.hart) c.beg = true) (hb : c.till ≠ -1 → c.beg < c.till) :
    lastOk (updE E c.hart c.till x.hart) x.beg = true ↔ (c.hart = x.hart → c.till ≠ -1 ∧ c.till < x.beg) ∧ lastOk (E x.hart) x.beg = true := by
  unfold updE
  by_cases h : x.hart = c.hart
  · rw [if_pos h, h]
    show decide _ = true ↔ _
    rw [decide_eq_true_eq]
    constructor
    · intro h1
      refine ⟨fun _ => h1, ?_⟩
      unfold lastOk at hc ⊢
      cases he : E c.hart with
      | none => rfl
      | some y =>
        rw [he] at hc
        have hc := of_decide_eq_true hc
        have := hb h1.1
        exact decide_eq_true ⟨hc.1, by omega⟩
    · intro h1; exact h1.1 rfl
  · rw [if_neg h]
    constructor
    · intro h1; exact ⟨fun e => absurd e.symm h, h1⟩
    · intro h1; exact h1.2

theorem clear_one {T : Int → Bool} {c x : Cl} (ht : c.till = -1) : ClearT (updT T c.beg) x ↔ (c.beg ≠ x.beg ∧ (x.till ≠ -1 → c.beg ≠ x.till)) ∧ ClearT T x := by
  unfold ClearT
  rw [updT_false]
  constructor
  · rintro ⟨⟨h1, h2⟩, h3⟩
    exact ⟨⟨fun e => h1 e.symm, fun h e => (updT_false.1 (h3 h)).1 e.symm⟩, h2, fun h => (updT_false.1 (h3 h)).2⟩
  · rintro ⟨⟨h1, h2⟩, h3, h4⟩
    exact ⟨⟨fun e => h1 e.symm, h3⟩, fun h => updT_false.2 ⟨fun e => h2 h e.symm, h4 h⟩⟩

theorem clear_two {T : Int → Bool} {c x : Cl} : ClearT (updT (updT T c.beg) c.till) x ↔ (c.beg ≠ x.beg ∧ c.till ≠ x.beg ∧ (x.till ≠ -1 → c.beg ≠ x.till) ∧ (x.till ≠ -1 → c.till ≠ x.till)) ∧ ClearT T x := by
  unfold ClearT
  rw [updT_false, updT_false]
  constructor
  · rintro ⟨⟨h1, h2, h3⟩, h4⟩
    refine ⟨⟨fun e => h2 e.symm, fun e => h1 e.symm, fun h e => ?_, fun h e => ?_⟩, h3, fun h => ?_⟩
    · exact (updT_false.1 (updT_false.1 (h4 h)).2).1 e.symm
    · exact (updT_false.1 (h4 h)).1 e.symm
    · exact (updT_false.1 (updT_false.1 (h4 h)).2).2
  · rintro ⟨⟨h1, h2, h3, h4⟩, h5, h6⟩
    exact ⟨⟨fun e => h2 e.symm, fun e => h1 e.symm, h5⟩, fun h => updT_false.2 ⟨fun e => h4 h e.symm, updT_false.2 ⟨fun e => h3 h e.symm, h6 h⟩⟩⟩

theorem callsF_iff (ks : List Int) : ∀ (cs : List Cl) (T : Int → Bool) (E : Int → Option Int), callsF ks cs T E = true ↔ (∀ c ∈ cs, EachC ks c) ∧ cs.Pairwise Apart ∧ ∀ c ∈ cs, ClearT T c ∧ lastOk (E c.hart) c.beg = true
  | [], T, E => by simp [callsF]
  | c :: r, T, E => by
    unfold callsF
    rw [List.forall_mem_cons, List.pairwise_cons, List.forall_mem_cons, Bool.and_eq_true, Bool.and_eq_true, Bool.and_eq_true, Bool.not_eq_true']
    by_cases ht : c.till = -1
    · rw [if_pos ht, Bool.and_eq_true, decide_eq_true_eq, callsF_iff ks r]
      constructor
      · rintro ⟨h1, h2, h3, h4, h5, h6, h7⟩
        have hx : ∀ x ∈ r, Apart c x ∧ ClearT T x ∧ lastOk (E x.hart) x.beg = true := fun x hx => by
          obtain ⟨a1, a2⟩ := h7 x hx
          obtain ⟨⟨b1, b2⟩, b3⟩ := (clear_one ht).1 a1
          obtain ⟨b4, b5⟩ := (lastOk_upd E c x h3 fun h => absurd ht h).1 a2
          exact ⟨⟨b1, fun h => absurd ht h, b2, fun h => absurd ht h, b4⟩, b3, b5⟩
        exact ⟨⟨⟨h1, fun _ => h4, fun h => absurd ht h⟩, h5⟩, ⟨fun x h => (hx x h).1, h6⟩, ⟨⟨h2, fun h => absurd ht h⟩, h3⟩, fun x h => (hx x h).2⟩
      · rintro ⟨⟨⟨h1, h4, -⟩, h5⟩, ⟨h6, h7⟩, ⟨⟨h2, -⟩, h3⟩, h8⟩
        exact ⟨h1, h2, h3, h4 ht, h5, h7, fun x hx => by
          obtain ⟨a1, a2, a3, a4, a5⟩ := h6 x hx
          exact ⟨(clear_one ht).2 ⟨⟨a1, a3⟩, (h8 x hx).1⟩, (lastOk_upd E c x h3 fun h => absurd ht h).2 ⟨a5, (h8 x hx).2⟩⟩⟩
    · rw [if_neg ht, Bool.and_eq_true, Bool.and_eq_true, Bool.not_eq_true', decide_eq_true_eq, callsF_iff ks r]
      constructor
      · rintro ⟨h1, h2, h3, h4, h9, h5, h6, h7⟩
        have hx : ∀ x ∈ r, Apart c x ∧ ClearT T x ∧ lastOk (E x.hart) x.beg = true := fun x hx => by
          obtain ⟨a1, a2⟩ := h7 x hx
          obtain ⟨⟨b1, b2, b6, b7⟩, b3⟩ := clear_two.1 a1
          obtain ⟨b4, b5⟩ := (lastOk_upd E c x h3 fun _ => h4).1 a2
          exact ⟨⟨b1, fun _ => b2, b6, fun _ => b7, b4⟩, b3, b5⟩
        exact ⟨⟨⟨h1, fun h => absurd h ht, fun _ => h4⟩, h5⟩, ⟨fun x h => (hx x h).1, h6⟩, ⟨⟨h2, fun _ => (updT_false.1 h9).2⟩, h3⟩, fun x h => (hx x h).2⟩
      · rintro ⟨⟨⟨h1, -, h4⟩, h5⟩, ⟨h6, h7⟩, ⟨⟨h2, h9⟩, h3⟩, h8⟩
        have h4 := h4 ht
        exact ⟨h1, h2, h3, h4, updT_false.2 ⟨by omega, h9 ht⟩, h5, h7, fun x hx => by
          obtain ⟨a1, a2, a3, a4, a5⟩ := h6 x hx
          exact ⟨clear_two.2 ⟨⟨a1, a2 ht, a3, a4 ht⟩, (h8 x hx).1⟩, (lastOk_upd E c x h3 fun _ => h4).2 ⟨a5, (h8 x hx).2⟩⟩⟩

structure GoodH (ks : List Int) (cs : List Cl) : Prop where
  kinds : kindsB ks = true
  each : ∀ c ∈ cs, EachC ks c
  pair : cs.Pairwise Apart
theorem mayH_iff {ks : List Int} {cs : List Cl} : mayH ks cs = true ↔ GoodH ks cs := by
  unfold mayH
  rw [Bool.and_eq_true, callsF_iff]
  constructor
  · rintro ⟨h1, h2, h3, -⟩; exact ⟨h1, h2, h3⟩
  · rintro ⟨h1, h2, h3⟩; exact ⟨h1, h2, h3, fun c _ => ⟨⟨rfl, fun _ => rfl⟩, rfl⟩⟩

theorem GoodH.sub {ks : List Int} {cs cs' : List Cl} (h : GoodH ks cs) (hs : cs'.Sublist cs) : GoodH ks cs' := ⟨h.kinds, fun c hc => h.each c (hs.mem hc), h.pair.sublist hs⟩
theorem chkH_ok {ks : List Int} {cs : List Cl} : chkH ks cs = 0 ↔ GoodH ks cs ∧ cs.length ≤ 24 := by
  constructor
  · intro h; have := chkH_zero h; exact ⟨mayH_iff.1 this.1, this.2⟩
  · rintro ⟨h1, h2⟩; unfold chkH; rw [if_pos (mayH_iff.2 h1), if_neg (by omega)]

theorem good_beg {c : Cl} {ks : List Int} (h : EachC ks c) : 0 ≤ c.hart ∧ c.hart < 4 ∧ 0 ≤ c.cont ∧ c.cont < ks.length ∧ kindOf c.op = nth ks c.cont.toNat ∧ 0 ≤ c.beg := of_decide_eq_true h.1
theorem GoodH.self {ks : List Int} {cs : List Cl} (h : GoodH ks cs) : ∀ k, k < cs.length → aheadB cs k k = false := fun k hk => by
  have h1 := h.each _ (nthC_mem hk)
  cases e : aheadB cs k k with
  | false => rfl
  | true =>
    have h2 := ahead_ended e
    have h3 := h1.2.2 h2
    unfold aheadB at e
    rw [Bool.and_eq_true, decide_eq_true_eq, decide_eq_true_eq] at e
    omega
theorem GoodH.begs {ks : List Int} {cs : List Cl} (h : GoodH ks cs) {i j : Nat} (hi : i < cs.length) (hj : j < cs.length) (e : (nthC cs i).beg = (nthC cs j).beg) : i = j := by
  have hp := List.pairwise_iff_getElem.1 h.pair
  rw [nthC_eq hi, nthC_eq hj] at e
  rcases Nat.lt_trichotomy i j with h1 | h1 | h1
  · exact absurd e (hp i j hi hj h1).1
  · exact h1
  · exact absurd e.symm (hp j i hj hi h1).1

/-- an order by calls -/
structure OrdC (h0 : List (Int × List Int)) (cs o : List Cl) : Prop where
  sub : ∀ c ∈ o, c ∈ cs
  ended : ∀ c ∈ cs, c.till ≠ -1 → c ∈ o
  pair : o.Pairwise fun a b => a.beg ≠ b.beg ∧ aheadC b a = false
  run : (foldC h0 o).isSome = true

theorem map_pair {α β : Type} {R : β → β → Prop} {f : α → β} {l : List α} : (l.map f).Pairwise R ↔ l.Pairwise fun a b => R (f a) (f b) := List.pairwise_map

theorem OrdI.calls {ks : List Int} {cs : List Cl} {h0 : List (Int × List Int)} {o : List Nat} (hg : GoodH ks cs) (h : OrdI cs 0 h0 o) : OrdC h0 cs (o.map (nthC cs)) := by
  refine ⟨fun c hc => ?_, fun c hc ht => ?_, ?_, h.run⟩
  · obtain ⟨n, hn, e⟩ := List.mem_map.1 hc
    rw [← e]; exact nthC_mem (h.lt n hn)
  · obtain ⟨k, hk, e⟩ := mem_nthC hc
    rw [← e] at ht ⊢
    rcases h.ended k hk ht with h1 | h1
    · rw [Nat.zero_testBit] at h1; cases h1
    · exact List.mem_map.2 ⟨k, h1, rfl⟩
  · rw [map_pair]
    refine (h.nodup.and h.pair).imp_of_mem fun {a b} ha hb hab => ⟨fun e => ?_, hab.2⟩
    exact hab.1 (hg.begs (h.lt a ha) (h.lt b hb) e)

theorem OrdC.nums {ks : List Int} {cs : List Cl} {h0 : List (Int × List Int)} {oc : List Cl} (hg : GoodH ks cs) (h : OrdC h0 cs oc) : ∃ o, OrdI cs 0 h0 o ∧ o.map (nthC cs) = oc := by
  have hx : ∀ oc : List Cl, (∀ c ∈ oc, c ∈ cs) → ∃ o : List Nat, (∀ n ∈ o, n < cs.length) ∧ o.map (nthC cs) = oc := by
    intro oc
    induction oc with
    | nil => intro _; exact ⟨[], fun n hn => (by cases hn), rfl⟩
    | cons c oc ih =>
      intro hs
      obtain ⟨o, h1, h2⟩ := ih fun c hc => hs c (List.mem_cons_of_mem _ hc)
      obtain ⟨n, hn, e⟩ := mem_nthC (hs c List.mem_cons_self)
      exact ⟨n :: o, fun m hm => by
        rcases List.mem_cons.1 hm with e | hm
        · rw [e]; exact hn
        · exact h1 m hm, by rw [List.map_cons, e, h2]⟩
  obtain ⟨o, hlt, rfl⟩ := hx oc h.sub
  have hp := map_pair.1 h.pair
  refine ⟨o, ⟨hlt, ?_, fun n _ => Nat.zero_testBit n, hp.imp fun hab => hab.2, fun k hk ht => .inr ?_, h.run⟩, rfl⟩
  · exact hp.imp fun {a b} hab e => hab.1 (by rw [e])
  · obtain ⟨m, hm, e⟩ := List.mem_map.1 (h.ended _ (nthC_mem hk) ht)
    have : m = k := hg.begs (hlt m hm) hk (by rw [e])
    rw [← this]; exact hm

/-- linear -/
def LinH (ks : List Int) (cs : List Cl) : Prop := (GoodH ks cs ∧ cs.length ≤ 24) ∧ ∃ o, OrdC (ks.map fun k => (k, [])) cs o

theorem lin_of {ks : List Int} {cs : List Cl} {o : List Nat} (hg : GoodH ks cs) (hl : cs.length ≤ 24) (h : ordB cs 0 (ks.map fun k => (k, [])) o = true) : LinH ks cs := ⟨⟨hg, hl⟩, _, (ord_of o hl h).calls hg⟩
theorem not_lin {ks : List Int} {cs : List Cl} (h : ∀ o, ordB cs 0 (ks.map fun k => (k, [])) o = false) : ¬ LinH ks cs := by
  rintro ⟨⟨hg, hl⟩, oc, ho⟩
  obtain ⟨o, h1, -⟩ := ho.nums hg
  have := of_ord o hl hg.self h1
  rw [h o] at this
  cases this

end Go.Proofs.YtoolpifkfgileaaDoor

/-
  Package hist: Order; Linear.
-/
namespace Go.Proofs.YtoolpifkfgileaaDoor
open Go Go.RowKit Own

def startP (ks : List Int) : List (Int × List Int) := ks.map fun k => (k, [])

/-- a history as it is handed in -/
structure HistIn (w : World) (pk pc : Option Addr) (ks : List Int) (cs : List Cl) : Prop where
  rd : Rd w pk (ints ks)
  calls : RowC w pc cs
  k8 : ks.length ≤ 8
  c60 : cs.length ≤ 60
  kin : ∀ k ∈ ks, In64 k
  args : ArgsIn cs
  tab : TabP w
  bit : BitTab w
theorem HistIn.stay {w w' : World} {pk pc : Option Addr} {ks : List Int} {cs : List Cl} (h : HistIn w pk pc ks cs) (k : KeepBut (fun _ => False) w w') : HistIn w' pk pc ks cs :=
  ⟨h.rd.stay k, h.calls.stay k, h.k8, h.c60, h.kin, h.args, k.tabP h.tab, k.bitTab h.bit⟩

theorem start_small {ks : List Int} (h : ∀ k ∈ ks, In64 k) : Small (startP ks) := fun e he => by
  obtain ⟨k, hk, rfl⟩ := List.mem_map.1 he
  exact ⟨h k hk, by simp, fun x hx => by cases hx⟩

theorem find_zero (wB : World) (S A D : Nat) (pk pc : Option Addr) (ck cc : Nat) (ks : List Int) (cs : List Cl) (K : Nat) (hX : Ctx wB S D cs K) (w : World) (p : Option Addr) (c : Nat) (l : List Kc)
    (hS : SAt w S A D pk pc ck cc ks cs) (hH : HasAt w p l) (hl : l.length = K) (hs : Small (l.map Kc.plain)) (hM : PMap w D []) (hk : KeepBut (fun _ => False) wB w) :
    Calls Tryd.prog 37 #[.pointer (some ⟨S, 0, none⟩), .int .u32 0, .slice p l.length c] w fun e w' => FindDone cs K D 0 (l.map Kc.plain) [] w e w' :=
  find_any wB S A D pk pc ck cc ks cs K hX _ w 0 p c l [] (Nat.le_refl _) (Nat.two_pow_pos _) hS hH hl hs hM (fun q hq => by cases hq) hk

def OrderDone (ks : List Int) (cs : List Cl) (w : World) (e : Ending) (w' : World) : Prop :=
  ∃ q c o er, e = .returned (.tuple #[.slice q (List.length o) c, .int .i64 er]) ∧ (er = 0 → chkH ks cs = 0 ∧ ordB cs 0 (startP ks) o = true) ∧ (er ≠ 0 → ¬ LinH ks cs ∧ o = [] ∧ (chkH ks cs = 0 → er = 6)) ∧ Rd w' q (ints (natI o)) ∧ KeepBut (fun _ => False) w w'

set_option maxRecDepth 100000 in
set_option maxHeartbeats 16000000 in
theorem order_any (w : World) (pk pc : Option Addr) (ck cc : Nat) (ks : List Int) (cs : List Cl) (hI : HistIn w pk pc ks cs) :
    Calls Tryd.prog 17 #[histV pk pc ck cc ks cs] w fun e w' => OrderDone ks cs w e w' := by
  obtain ⟨V, B, hV, hB, hb, hkV, hsV⟩ := fresh_block w (.cells #[.slice pk ks.length ck, .slice pc cs.length cc] 25)
  obtain ⟨b0, b1, -⟩ := blk2 hb
  have HI := Lib.hid hI
  have hIV := hI.stay hkV
  have HIV := Lib.hid hIV
  have HCH := Lib.hid (chkH_any V pk pc ck cc ks cs hIV.rd hIV.calls (by have := hI.k8; omega) (by have := hI.c60; omega))
  have HK := Lib.hid hkV; have HB := Lib.hid hb
  obtain ⟨ch, hch⟩ : ∃ ch, chkH ks cs = ch := ⟨_, rfl⟩
  rw [hch] at HCH
  have HE := Lib.hid hch
  unfold histV at HCH ⊢
  clear hI hIV hb hkV hsV hch
  go_enter Tryd.func17, Tryd.ntmps17
  go_upto_region 1 with fail
  rw [← hV, ← hB]
  clear hV hB
  by_cases h0 : ch = 0
  · have H0 := Lib.hid h0
    have h1 : (ch != 0) = false := by simp [h0]
    clear h0
    go_upto_region 4 with (go_at_call 11; refine HCH.out.mono ?_; rintro e w2 ⟨rfl, hk⟩; obtain ⟨e0, e1, -⟩ := blk2 (hk.blk HB.out); have HK2 := Lib.hid hk; clear hk)
    have HCK := Lib.hid (chkH_ok.1 (HE.out.trans H0.out))
    have HBG := Lib.hid (begin_any w2 pk pc ck cc ks cs ((HIV.out.stay HK2.out).calls) HCK.out.2)
    unfold histV at HBG
    clear b0 b1
    go_upto_region 5 with (go_at_call 36; refine HBG.out.mono ?_; rintro e w3 ⟨S, A, D, rfl, hS, hM, h1, h2, -, hk⟩; have HS := Lib.hid hS; have HM := Lib.hid hM; have HD1 := Lib.hid h1; have HD2 := Lib.hid h2; have HK3 := Lib.hid hk; clear hS hM h1 h2 hk)
    have HCONT := Lib.hid (show ∀ i, i < cs.length → 0 ≤ (nthC cs i).cont ∧ (nthC cs i).cont.toNat < ks.length from fun i hi => by
      have h9 := good_beg (HCK.out.1.each _ (nthC_mem hi))
      omega)
    have HIW := Lib.hid (HIV.out.stay (HK2.out.trans HK3.out))
    have HEM := Lib.hid (empty_any w3 S ks pk ck (blk5S HS.out.blk).1 HIW.out.rd (by have := HI.out.k8; omega))
    obtain ⟨l, hl⟩ : ∃ l, startK ks = l := ⟨_, rfl⟩
    rw [hl] at HEM
    have HL := Lib.hid hl
    clear e0 e1 hl
    go_upto_region 6 with (first
      | (go_at_call 38; refine HEM.out.mono ?_; rintro e w4 ⟨p4, c4, rfl, hH, hk⟩; have HH := Lib.hid hH; have HK4 := Lib.hid hk; clear hH hk)
      | (go_at_call 37; refine (find_zero w2 S A D pk pc ck cc ks cs ks.length ⟨HCK.out.2, HI.out.k8, HCONT.out, HI.out.args, (HIV.out.stay HK2.out).tab, (HIV.out.stay HK2.out).bit, HD1.out, HD2.out⟩ w4 p4 c4 l (HS.out.stay HK4.out) HH.out (by rw [← HL.out]; simp [startK]) (by rw [← HL.out, startK_plain]; exact start_small HI.out.kin) (HM.out.keep HK4.out fun e => e) (HK3.out.trans HK4.out)).mono ?_; rintro e w5 ⟨ok, q, c, o, L', rfl, f1, f2, -, -, -, -, -, f3⟩; have HF1 := Lib.hid f1; have HF2 := Lib.hid f2; have HF3 := Lib.hid f3; clear f1 f2 f3))
    have hpl : l.map Kc.plain = startP ks := by rw [← HL.out]; exact startK_plain ks
    have HPL := Lib.hid hpl
    have HKK := Lib.hid (((HK.out.trans HK2.out).trans (HK3.out.trans HK4.out)).new HF3.out fun b e => by have e : b = D := e; have := HD1.out; have := (HK.out.trans HK2.out).size; omega)
    clear hpl
    cases ok with
    | false =>
      have HF4 := Lib.hid (show ∀ o, ordB cs 0 (startP ks) o = false by rw [← HPL.out]; exact HF1.out)
      go_wp2_with fail
      go_ret2
      exact ⟨none, 0, [], 6, rfl, fun e => absurd e (by decide), fun _ => ⟨not_lin HF4.out, rfl, fun _ => rfl⟩, fun j v hj => by simp [natI, ints] at hj, HKK.out⟩
    | true =>
      have HF4 := Lib.hid (show ordB cs 0 (startP ks) o = true by rw [← HPL.out]; exact HF1.out)
      go_wp2_with fail
      go_ret2
      exact ⟨q, c, o, 0, rfl, fun _ => ⟨HE.out.trans H0.out, HF4.out⟩, fun e => absurd rfl e, HF2.out, HKK.out⟩
  · have H0 := Lib.hid h0
    have h1 : (ch != 0) = true := by simpa using h0
    clear h0
    go_wp2_with (go_at_call 11; refine HCH.out.mono ?_; rintro e w2 ⟨rfl, hk⟩; have HK2 := Lib.hid hk; clear hk)
    go_ret2
    exact ⟨none, 0, [], ch, rfl, fun e => absurd e H0.out, fun _ => ⟨fun h => H0.out (HE.out.symm.trans (chkH_ok.2 h.1)), rfl, fun e => absurd (HE.out.symm.trans e) H0.out⟩, fun j v hj => by simp [natI, ints] at hj, HK.out.trans HK2.out⟩

def LinDone (ks : List Int) (cs : List Cl) (w : World) (e : Ending) (w' : World) : Prop := ∃ v, e = .returned (.bool v) ∧ (v = true ↔ LinH ks cs) ∧ KeepBut (fun _ => False) w w'

theorem order_lin {ks : List Int} {cs : List Cl} {w : World} {e : Ending} {w' : World} (h : OrderDone ks cs w e w') :
    ∃ q c o er, e = .returned (.tuple #[.slice q (List.length o) c, .int .i64 er]) ∧ ((er == 0) = true ↔ LinH ks cs) ∧ (er = 0 → chkH ks cs = 0 ∧ ordB cs 0 (startP ks) o = true) ∧ (er ≠ 0 → o = []) ∧ (chkH ks cs = 0 → er ≠ 0 → er = 6) ∧ Rd w' q (ints (natI o)) ∧ KeepBut (fun _ => False) w w' := by
  obtain ⟨q, c, o, er, rfl, h1, h2, h3, h4⟩ := h
  refine ⟨q, c, o, er, rfl, ?_, h1, fun e => (h2 e).2.1, fun e1 e2 => (h2 e2).2.2 e1, h3, h4⟩
  rw [beq_iff_eq]
  constructor
  · intro e
    have := chkH_ok.1 (h1 e).1
    exact lin_of this.1 this.2 (h1 e).2
  · intro e
    rcases Decidable.em (er = 0) with h | h
    · exact h
    · exact absurd e (h2 h).1

theorem linear_any (w : World) (pk pc : Option Addr) (ck cc : Nat) (ks : List Int) (cs : List Cl) (hI : HistIn w pk pc ks cs) :
    Calls Tryd.prog 13 #[histV pk pc ck cc ks cs] w fun e w' => LinDone ks cs w e w' := by
  obtain ⟨V, B, hV, hB, hb, hkV, hsV⟩ := fresh_block w (.cells #[.slice pk ks.length ck, .slice pc cs.length cc] 25)
  obtain ⟨b0, b1, -⟩ := blk2 hb
  have HO := Lib.hid (order_any V pk pc ck cc ks cs (hI.stay hkV))
  have HK := Lib.hid hkV
  unfold histV at HO ⊢
  clear hI hb hkV hsV
  go_enter Tryd.func13, Tryd.ntmps13
  go_upto_region 1 with fail
  rw [← hV, ← hB]
  clear hV hB
  go_wp2_with (go_at_call 17; refine HO.out.mono ?_; rintro e w2 h; obtain ⟨q, c, o, er, rfl, h1, -, -, -, -, hk⟩ := order_lin h; have H1 := Lib.hid h1; have HK2 := Lib.hid hk; clear hk h1 h)
  go_ret
  exact ⟨er == 0, rfl, H1.out, HK.out.trans HK2.out⟩

end Go.Proofs.YtoolpifkfgileaaDoor

/-
  In plain: all orders of a short history; the chapter's examples.
-/
namespace Go.Proofs.YtoolpifkfgileaaDoor
open Go Go.RowKit Own

/-- all orders of at most f calls -/
def ords (cs : List Cl) : Nat → Nat → List (Int × List Int) → List (List Nat)
  | 0, d, _ => if overB cs d = true then [[]] else []
  | f + 1, d, h => (if overB cs d = true then [[]] else []) ++ (List.range cs.length).flatMap fun n => match nextP cs d h n with | some h' => (ords cs f (d ||| 2 ^ n) h').map (n :: ·) | none => []

theorem mem_ords {cs : List Cl} : ∀ (o : List Nat) (f d : Nat) (h : List (Int × List Int)), o.length ≤ f → ordB cs d h o = true → o ∈ ords cs f d h
  | [], f, d, h, _, ho => by
    unfold ordB at ho
    cases f with
    | zero => unfold ords; rw [if_pos ho]; exact List.mem_cons_self
    | succ f => unfold ords; rw [if_pos ho]; exact List.mem_append_left _ List.mem_cons_self
  | n :: o, 0, d, h, hl, _ => by simp at hl
  | n :: o, f + 1, d, h, hl, ho => by
    unfold ordB at ho
    rw [Bool.and_eq_true, decide_eq_true_eq] at ho
    unfold ords
    refine List.mem_append_right _ (List.mem_flatMap.2 ⟨n, List.mem_range.2 ho.1, ?_⟩)
    cases hx : nextP cs d h n with
    | none => rw [hx] at ho; exact absurd ho.2 Bool.false_ne_true
    | some h' =>
      rw [hx] at ho
      exact List.mem_map.2 ⟨o, mem_ords o f _ h' (by simpa using hl) ho.2, rfl⟩

theorem nodup_le : ∀ (N : Nat) (o : List Nat), o.Nodup → (∀ n ∈ o, n < N) → o.length ≤ N
  | 0, o, _, h => by
    cases o with
    | nil => exact Nat.le_refl _
    | cons a o => exact absurd (h a List.mem_cons_self) (Nat.not_lt_zero _)
  | N + 1, o, hn, h => by
    have h1 := nodup_le N (o.erase N) (hn.erase N) fun n hm => by
      rw [hn.mem_erase_iff] at hm
      have := h n hm.2
      omega
    rw [List.length_erase] at h1
    split at h1 <;> omega

theorem ord_all {cs : List Cl} {h : List (Int × List Int)} {o : List Nat} (hl : cs.length ≤ 24) (ho : ordB cs 0 h o = true) : o ∈ ords cs cs.length 0 h :=
  mem_ords o _ 0 h (nodup_le _ o (ord_of o hl ho).nodup (ord_of o hl ho).lt) ho

theorem lin_ords {ks : List Int} {cs : List Cl} : LinH ks cs → ords cs cs.length 0 (startP ks) ≠ [] := by
  rintro ⟨⟨hg, hl⟩, oc, hoc⟩
  obtain ⟨o, h1, -⟩ := hoc.nums hg
  have := ord_all hl (of_ord o hl hg.self h1)
  intro e
  have h2 : startP ks = ks.map fun k => (k, []) := rfl
  rw [← h2, e] at this
  cases this

/-- the chapter's history: a push of 1, and a pop -/
def threeC (tt fr en v cd : Int) : List Cl := [⟨0, 0, 1, 1, 0, tt, 0, 1⟩, ⟨1, 0, 2, 0, fr, en, v, cd⟩]

theorem lin_1 : LinH [1] (threeC 1 2 3 1 1) := lin_of (o := [0, 1]) (mayH_iff.1 (by decide +kernel)) (by decide) (by decide +kernel)
theorem lin_2 : ¬ LinH [1] (threeC 1 2 3 0 0) := fun h => lin_ords h (by decide +kernel)
theorem lin_3 : LinH [1] (threeC 3 1 2 0 0) := lin_of (o := [1, 0]) (mayH_iff.1 (by decide +kernel)) (by decide) (by decide +kernel)
theorem lin_4 : LinH [1] (threeC 3 1 2 1 1) := lin_of (o := [0, 1]) (mayH_iff.1 (by decide +kernel)) (by decide) (by decide +kernel)
theorem lin_5 : ¬ LinH [1] (threeC 3 1 2 2 1) := fun h => lin_ords h (by decide +kernel)

end Go.Proofs.YtoolpifkfgileaaDoor

/-
  Chapter 29: LightHist; wide; the chapter's examples live.
-/
namespace Go.Proofs.YtoolpifkfgileaaDoor
open Go Go.RowKit Own

theorem light_any (w : World) (pk pc : Option Addr) (ck cc : Nat) (ks : List Int) (cs : List Cl) :
    Calls Tryd.prog 10 #[histV pk pc ck cc ks cs, .int .i64 26] w fun e w' => e = .returned (.bool (decide (cs.length ≤ 26) && decide (ks.length ≤ 8))) ∧ KeepBut (fun _ => False) w w' := by
  obtain ⟨V, B, hV, hB, hb, hkV, hsV⟩ := fresh_block w (.cells #[.slice pk ks.length ck, .slice pc cs.length cc] 25)
  obtain ⟨b0, b1, -⟩ := blk2 hb
  have HK := Lib.hid hkV
  unfold histV
  clear hb hkV hsV
  by_cases h1 : cs.length ≤ 26
  · by_cases h2 : ks.length ≤ 8
    · have q1 : decide ((cs.length : Int) ≤ 26) = true := decide_eq_true (by omega)
      have q2 : decide ((ks.length : Int) ≤ 8) = true := decide_eq_true (by omega)
      have HE := Lib.hid (show (decide (cs.length ≤ 26) && decide (ks.length ≤ 8)) = true by simp [h1, h2])
      clear h1 h2
      go_enter Tryd.func10, Tryd.ntmps10
      go_upto_region 1 with fail
      rw [← hV, ← hB]
      clear hV hB
      go_wp2_with fail
      go_ret
      exact ⟨ret_bool HE.out.symm, HK.out⟩
    · have q1 : decide ((cs.length : Int) ≤ 26) = true := decide_eq_true (by omega)
      have q2 : decide ((ks.length : Int) ≤ 8) = false := decide_eq_false (by omega)
      have HE := Lib.hid (show (decide (cs.length ≤ 26) && decide (ks.length ≤ 8)) = false by simp [h2])
      clear h1 h2
      go_enter Tryd.func10, Tryd.ntmps10
      go_upto_region 1 with fail
      rw [← hV, ← hB]
      clear hV hB
      go_wp2_with fail
      go_ret
      exact ⟨ret_bool HE.out.symm, HK.out⟩
  · have q1 : decide ((cs.length : Int) ≤ 26) = false := decide_eq_false (by omega)
    have HE := Lib.hid (show (decide (cs.length ≤ 26) && decide (ks.length ≤ 8)) = false by simp [h1])
    clear h1
    go_enter Tryd.func10, Tryd.ntmps10
    go_upto_region 1 with fail
    rw [← hV, ← hB]
    clear hV hB
    go_wp2_with fail
    go_ret
    exact ⟨ret_bool HE.out.symm, HK.out⟩

def SomeInt (w : World) (e : Ending) (w' : World) : Prop := ∃ z : Int, e = .returned (.int .i64 z) ∧ KeepBut (fun _ => False) w w'
def WRel (N : Nat) (w : World) (v3 v4 : Value) (wr : World) : Prop := ∃ (z : Int) (i : Nat), v3 = .int .i64 z ∧ 0 ≤ z ∧ z ≤ 60 ∧ v4 = .int .i64 i ∧ i ≤ N ∧ KeepBut (fun _ => False) w wr

set_option maxHeartbeats 16000000 in
theorem wide_any (w : World) (pk pc : Option Addr) (ck cc : Nat) (ks : List Int) (cs : List Cl) (hc : RowC w pc cs) (hl : cs.length ≤ 60) :
    Calls Tryd.prog 12 #[histV pk pc ck cc ks cs] w fun e w' => SomeInt w e w' := by
  obtain ⟨V, B, hV, hB, hb, hkV, hsV⟩ := fresh_block w (.cells #[.slice pk ks.length ck, .slice pc cs.length cc] 25)
  have HK := Lib.hid hkV; have HB := Lib.hid hb; have HC := Lib.hid (hc.stay hkV)
  unfold histV
  clear hb hkV hsV hc
  go_enter Tryd.func12, Tryd.ntmps12
  go_upto_region 1 with fail
  rw [← hV, ← hB]
  clear hV hB
  go_wp2_with fail
  go_loopw [3, 4] (fun v3 v4 wr => WRel cs.length V v3 v4 wr) (fun _ v _ => cs.length - (intOf v).toNat)
  case atStart => exact ⟨0, 0, rfl, by decide, by decide, rfl, Nat.zero_le _, KeepBut.refl _ _⟩
  case round =>
    obtain ⟨z, i, rfl, hz0, hz1, rfl, hi, hk⟩ := hrel
    obtain ⟨wo, rfl⟩ : ∃ wo : World, wo = wr := ⟨_, rfl⟩
    obtain ⟨b0, b1, -⟩ := blk2 (hk.blk HB.out)
    have HK1 := Lib.hid hk
    clear hk
    by_cases hlt : i < cs.length
    · have hlti : (i : Int) < cs.length := by omega
      have hi0 : (0 : Int) ≤ i := by omega
      have hWi : IntKind.i64.wrap ((i : Int) + 1) = (i : Int) + 1 := IntWalk.i64_in _ (by omega)
      go_wp2_with fail
      clear b0 b1
      go_loopw [5, 6] (fun v5 v6 wr => WRel cs.length V v5 v6 wr ∧ (intOf v5) ≤ (intOf v6)) (fun _ v _ => cs.length - (intOf v).toNat)
      case atStart => exact ⟨⟨0, 0, rfl, by decide, by decide, rfl, Nat.zero_le _, HK1.out⟩, by decide⟩
      case round =>
        obtain ⟨⟨a, k, rfl, ha0, ha1, rfl, hk, hkk⟩, hak⟩ := hrel
        have hak : a ≤ k := hak
        obtain ⟨b0, b1, -⟩ := blk2 (hkk.blk HB.out)
        have HK2 := Lib.hid hkk
        by_cases hlk : k < cs.length
        · have hlki : (k : Int) < cs.length := by omega
          have hk0 : (0 : Int) ≤ k := by omega
          have hWk : IntKind.i64.wrap ((k : Int) + 1) = (k : Int) + 1 := IntWalk.i64_in _ (by omega)
          have hWa : IntKind.i64.wrap (a + 1) = a + 1 := IntWalk.i64_in _ (by omega)
          obtain ⟨g, o, hg, -, -, -, -, x4, x5, -⟩ := (HC.out.stay hkk) k hlk
          obtain ⟨g', o', hg', -, -, -, -, y4, -⟩ := (HC.out.stay hkk) i hlt
          rw [hg] at hg'
          cases hg'
          subst hg
          clear hkk
          have fin : ∀ n, KeepBut (fun _ => False) V (wr.drewN n) := fun n => HK2.out.trans (KeepBut.drewN _ _ _)
          have FIN := Lib.hid fin
          clear fin
          go_upto_region 9 with fail
          by_cases h1 : (nthC cs k).beg ≤ (nthC cs i).beg
          · by_cases h2 : (nthC cs k).till < 0
            · go_quiet (fail)
              go_wp2_with fail
              exact ⟨⟨⟨a + 1, k + 1, rfl, by omega, by omega, by simp, by omega, FIN.out _⟩, by simp only [intOf]; omega⟩, by simp only [intOf]; omega⟩
            · by_cases h3 : (nthC cs i).beg ≤ (nthC cs k).till
              · have d2 : decide ((nthC cs k).till < 0) = false := decide_eq_false h2
                go_quiet (fail)
                go_wp2_with fail
                exact ⟨⟨⟨a + 1, k + 1, rfl, by omega, by omega, by simp, by omega, FIN.out _⟩, by simp only [intOf]; omega⟩, by simp only [intOf]; omega⟩
              · have d2 : decide ((nthC cs k).till < 0) = false := decide_eq_false h2
                have d3 : decide ((nthC cs i).beg ≤ (nthC cs k).till) = false := decide_eq_false h3
                go_quiet (fail)
                go_wp2_with fail
                exact ⟨⟨⟨a, k + 1, rfl, by omega, by omega, by simp, by omega, FIN.out _⟩, by simp only [intOf]; omega⟩, by simp only [intOf]; omega⟩
          · have d1 : decide ((nthC cs k).beg ≤ (nthC cs i).beg) = false := decide_eq_false h1
            go_quiet (fail)
            go_wp2_with fail
            exact ⟨⟨⟨a, k + 1, rfl, by omega, by omega, by simp, by omega, FIN.out _⟩, by simp only [intOf]; omega⟩, by simp only [intOf]; omega⟩
        · have hnl : ¬ (k : Int) < cs.length := by omega
          clear hkk
          go_wp2_with fail
          exact ⟨⟨max z a, i + 1, rfl, by omega, by omega, by simp, by omega, HK2.out⟩, by simp only [intOf]; omega⟩
    · have hnl : ¬ (i : Int) < cs.length := by omega
      go_wp2_with fail
      go_ret
      exact ⟨z, rfl, HK.out.trans HK1.out⟩

end Go.Proofs.YtoolpifkfgileaaDoor

/-
  Chapter 29: three; lives.
-/
namespace Go.Proofs.YtoolpifkfgileaaDoor
open Go Go.RowKit Own

def ThreeDone (cs : List Cl) (w : World) (e : Ending) (w' : World) : Prop :=
  ∃ pk pc, e = .returned (.agg #[.slice pk 1 1, .slice pc 2 2]) ∧ HistIn w' pk pc [1] cs ∧ (∀ a, pk = some a → w.heap.size ≤ a.block) ∧ (∀ a, pc = some a → w.heap.size ≤ a.block ∧ a.spot = none) ∧ KeepBut (fun _ => False) w w'

theorem in64_ok {x : Int} (h : -9223372036854775808 ≤ x ∧ x ≤ 9223372036854775807) : In64 x := by unfold In64; exact h

theorem three_world (w : World) (X : Obj) (tt fr en v cd : Int) (hT : TabP w) (hB : BitTab w) :
    let W := ((w.alloc X).alloc (.cells #[.int .i64 1] 3)).alloc (.cells #[.int .i64 0, .int .i64 0, .int .i64 1, .int .i64 1, .int .i64 0, .int .i64 tt, .int .i64 0, .int .i64 1, .int .i64 1, .int .i64 0, .int .i64 2, .int .i64 0, .int .i64 fr, .int .i64 en, .int .i64 v, .int .i64 cd] 33)
    HistIn W (some ⟨w.heap.size + 1, 0, none⟩) (some ⟨w.heap.size + 1 + 1, 0, none⟩) [1] (threeC tt fr en v cd) ∧ KeepBut (fun _ => False) w W := by
  intro W
  have k1 := KeepBut.alloc (fun _ => False) w X
  have k2 := KeepBut.alloc (fun _ => False) (w.alloc X) (.cells #[.int .i64 1] 3)
  have k3 : KeepBut (fun _ => False) ((w.alloc X).alloc (.cells #[.int .i64 1] 3)) W := KeepBut.alloc _ _ _
  have hk : KeepBut (fun _ => False) w W := (k1.trans k2).trans k3
  have h1 := heap_alloc_new (w.alloc X) (.cells #[.int .i64 1] 3)
  rw [World.size_alloc] at h1
  have h1 := k3.blk h1
  have h2 := by
    have h := heap_alloc_new ((w.alloc X).alloc (.cells #[.int .i64 1] 3)) (.cells #[.int .i64 0, .int .i64 0, .int .i64 1, .int .i64 1, .int .i64 0, .int .i64 tt, .int .i64 0, .int .i64 1, .int .i64 1, .int .i64 0, .int .i64 2, .int .i64 0, .int .i64 fr, .int .i64 en, .int .i64 v, .int .i64 cd] 33)
    rw [World.size_alloc, World.size_alloc] at h
    exact (show W.heap[w.heap.size + 1 + 1]? = _ from h)
  refine ⟨⟨fun j u hj => ⟨_, _, rfl, ?_⟩, fun i hi => ⟨_, _, rfl, ?_⟩, by decide, (by show 2 ≤ 60; decide), fun k hk => ?_, fun c hc => ?_, hk.tabP hT, hk.bitTab hB⟩, hk⟩
  · match j, hj with
    | 0, hj => cases hj; exact blk_cell h1 rfl
    | j + 1, hj => simp [ints] at hj
  · have hi : i < 2 := hi
    match i, hi with
    | 0, _ => exact ⟨blk_cell h2 rfl, blk_cell h2 rfl, blk_cell h2 rfl, blk_cell h2 rfl, blk_cell h2 rfl, blk_cell h2 rfl, blk_cell h2 rfl, blk_cell h2 rfl⟩
    | 1, _ => exact ⟨blk_cell h2 rfl, blk_cell h2 rfl, blk_cell h2 rfl, blk_cell h2 rfl, blk_cell h2 rfl, blk_cell h2 rfl, blk_cell h2 rfl, blk_cell h2 rfl⟩
  · rw [List.mem_singleton] at hk; rw [hk]; exact in64_ok (by omega)
  · simp only [threeC, List.mem_cons, List.not_mem_nil, or_false] at hc
    rcases hc with rfl | rfl
    · exact in64_ok (show (-9223372036854775808 : Int) ≤ 1 ∧ (1 : Int) ≤ 9223372036854775807 by decide)
    · exact in64_ok (show (-9223372036854775808 : Int) ≤ 0 ∧ (0 : Int) ≤ 9223372036854775807 by decide)

set_option maxHeartbeats 4000000 in
theorem three_any (w : World) (tt fr en v cd : Int) (hT : TabP w) (hB : BitTab w) :
    Calls Tryd.prog 24 #[.int .i64 tt, .int .i64 fr, .int .i64 en, .int .i64 v, .int .i64 cd] w fun e w' => ThreeDone (threeC tt fr en v cd) w e w' := by
  have HT := Lib.hid hT; have HB := Lib.hid hB
  clear hT hB
  go_enter Tryd.func24, Tryd.ntmps24
  go_wp2_with fail
  refine bodyPost_ret (v := .agg #[.slice (some ⟨w.heap.size + 1, 0, none⟩) 1 1, .slice (some ⟨w.heap.size + 1 + 1, 0, none⟩) 2 2]) (by simp [results, Tryd.results24, go_sem]) rfl ?_
  have h := three_world w (.cells #[.slice (some ⟨w.heap.size + 1, 0, none⟩) 1 1, .slice (some ⟨w.heap.size + 1 + 1, 0, none⟩) 2 2] 25) tt fr en v cd HT.out HB.out
  exact ⟨_, _, rfl, h.1, fun a ha => by cases ha; exact Nat.le_succ _, fun a ha => by cases ha; exact ⟨by show w.heap.size ≤ w.heap.size + 1 + 1; omega, rfl⟩, h.2⟩

set_option maxHeartbeats 8000000 in
theorem lives_any (w : World) (hT : TabP w) (hB : BitTab w) :
    Calls Tryd.prog 9 #[] w fun e w' => e = .returned (.bool true) ∧ KeepBut (fun _ => False) w w' := by
  have HT := Lib.hid hT; have HB := Lib.hid hB
  have HK0 := Lib.hid (KeepBut.refl (fun _ => False) w)
  clear hT hB
  go_enter Tryd.func9, Tryd.ntmps9
  go_wp2_with fail
  go_at_call 24
  refine (three_any w 1 2 3 1 1 (HK0.out.tabP HT.out) (HK0.out.bitTab HB.out)).mono ?_
  rintro e w1a ⟨pk1, pc1, rfl, hi, -, -, hk⟩
  have HK1a := Lib.hid (HK0.out.trans hk); have HL1 := Lib.hid (linear_any w1a pk1 pc1 1 2 [1] (threeC 1 2 3 1 1) hi)
  clear hi hk
  go_wp2_with fail
  go_at_call 13
  refine HL1.out.mono ?_
  rintro e w1b ⟨v1, rfl, hv, hk⟩
  have hv : v1 = true := by exact hv.2 lin_1
  subst hv
  have HK1 := Lib.hid (HK1a.out.trans hk)
  clear hk
  go_wp2_with fail
  go_at_call 24
  refine (three_any w1b 1 2 3 0 0 (HK1.out.tabP HT.out) (HK1.out.bitTab HB.out)).mono ?_
  rintro e w2a ⟨pk2, pc2, rfl, hi, -, -, hk⟩
  have HK2a := Lib.hid (HK1.out.trans hk); have HL2 := Lib.hid (linear_any w2a pk2 pc2 1 2 [1] (threeC 1 2 3 0 0) hi)
  clear hi hk
  go_wp2_with fail
  go_at_call 13
  refine HL2.out.mono ?_
  rintro e w2b ⟨v2, rfl, hv, hk⟩
  have hv : v2 = false := by rw [← Bool.not_eq_true]; exact fun e => lin_2 (hv.1 e)
  subst hv
  have HK2 := Lib.hid (HK2a.out.trans hk)
  clear hk
  go_wp2_with fail
  go_at_call 24
  refine (three_any w2b 3 1 2 0 0 (HK2.out.tabP HT.out) (HK2.out.bitTab HB.out)).mono ?_
  rintro e w3a ⟨pk3, pc3, rfl, hi, -, -, hk⟩
  have HK3a := Lib.hid (HK2.out.trans hk); have HL3 := Lib.hid (linear_any w3a pk3 pc3 1 2 [1] (threeC 3 1 2 0 0) hi)
  clear hi hk
  go_wp2_with fail
  go_at_call 13
  refine HL3.out.mono ?_
  rintro e w3b ⟨v3, rfl, hv, hk⟩
  have hv : v3 = true := by exact hv.2 lin_3
  subst hv
  have HK3 := Lib.hid (HK3a.out.trans hk)
  clear hk
  go_wp2_with fail
  go_at_call 24
  refine (three_any w3b 3 1 2 1 1 (HK3.out.tabP HT.out) (HK3.out.bitTab HB.out)).mono ?_
  rintro e w4a ⟨pk4, pc4, rfl, hi, -, -, hk⟩
  have HK4a := Lib.hid (HK3.out.trans hk); have HL4 := Lib.hid (linear_any w4a pk4 pc4 1 2 [1] (threeC 3 1 2 1 1) hi)
  clear hi hk
  go_wp2_with fail
  go_at_call 13
  refine HL4.out.mono ?_
  rintro e w4b ⟨v4, rfl, hv, hk⟩
  have hv : v4 = true := by exact hv.2 lin_4
  subst hv
  have HK4 := Lib.hid (HK4a.out.trans hk)
  clear hk
  go_wp2_with fail
  go_at_call 24
  refine (three_any w4b 3 1 2 2 1 (HK4.out.tabP HT.out) (HK4.out.bitTab HB.out)).mono ?_
  rintro e w5a ⟨pk5, pc5, rfl, hi, -, -, hk⟩
  have HK5a := Lib.hid (HK4.out.trans hk); have HL5 := Lib.hid (linear_any w5a pk5 pc5 1 2 [1] (threeC 3 1 2 2 1) hi)
  clear hi hk
  go_wp2_with fail
  go_at_call 13
  refine HL5.out.mono ?_
  rintro e w5b ⟨v5, rfl, hv, hk⟩
  have hv : v5 = false := by rw [← Bool.not_eq_true]; exact fun e => lin_5 (hv.1 e)
  subst hv
  have HK5 := Lib.hid (HK5a.out.trans hk)
  clear hk
  go_wp2_with fail
  go_ret
  exact ⟨rfl, HK5.out⟩

end Go.Proofs.YtoolpifkfgileaaDoor

/-
  fencepostkit.Pick.
-/
namespace Go.Proofs.YtoolpifkfgileaaDoor
open Go Go.RowKit Own

/-- fencepostkit.Pick -/
def pick (k n : Int) : Int := if k.tmod n < 0 then k.tmod n + n else k.tmod n
theorem pick_range {k n : Int} (hn : 0 < n) : 0 ≤ pick k n ∧ pick k n < n := by
  have h1 := Int.tmod_lt_of_pos k hn
  have h2 := Int.lt_tmod_of_pos k hn
  unfold pick
  split <;> omega

set_option maxHeartbeats 1000000 in
theorem pick_any (w : World) (k n : Int) (hn : 0 < n) (hn2 : n ≤ 9223372036854775807) :
    Calls Tryd.prog 14 #[.int .i64 k, .int .i64 n] w fun e w' => e = .returned (.int .i64 (pick k n)) ∧ w' = w := by
  have h1 := Int.tmod_lt_of_pos k hn
  have h2 := Int.lt_tmod_of_pos k hn
  have hW : IntKind.i64.wrap (k.tmod n) = k.tmod n := IntWalk.i64_in _ (by omega)
  have hn0 : ¬ n = 0 := by omega
  have hn1 : ¬ n < 1 := by omega
  by_cases h : k.tmod n < 0
  · have hW2 : IntKind.i64.wrap (k.tmod n + n) = k.tmod n + n := IntWalk.i64_in _ (by omega)
    have HF := Lib.hid (show pick k n = k.tmod n + n from if_pos h)
    go_enter Tryd.func14, Tryd.ntmps14
    go_wp2_with fail
    go_ret
    exact ⟨ret_int HF.out.symm, rfl⟩
  · have HF := Lib.hid (show pick k n = k.tmod n from if_neg h)
    go_enter Tryd.func14, Tryd.ntmps14
    go_wp2_with fail
    go_ret
    exact ⟨ret_int HF.out.symm, rfl⟩

end Go.Proofs.YtoolpifkfgileaaDoor

/-
  Chapter 29: rows of calls; Own[int].
-/
namespace Go.Proofs.YtoolpifkfgileaaDoor
open Go Go.RowKit Own

abbrev TCl : TypeId := 33
abbrev THi : TypeId := 25
theorem info_call : (Tryd.prog.info? TCl).map (fun i => (i.zero, i.size, i.bytes)) = some (some (.agg #[.int .i64 0, .int .i64 0, .int .i64 0, .int .i64 0, .int .i64 0, .int .i64 0, .int .i64 0, .int .i64 0]), 8, 64) := by kernel_rfl
theorem calls_ty : Tryd.prog.underlying 23 = some (.slice TCl) := by kernel_rfl

def cellsC (l : List Cl) : List Value := l.flatMap Cl.vals
theorem vals_length (c : Cl) : c.vals.length = 8 := rfl
theorem cellsC_length (l : List Cl) : (cellsC l).length = l.length * 8 := by
  unfold cellsC
  induction l with
  | nil => rfl
  | cons x l ih => rw [List.flatMap_cons, List.length_append, ih, List.length_cons, vals_length]; omega
theorem cellsC_snoc (l : List Cl) (x : Cl) : cellsC (l ++ [x]) = cellsC l ++ x.vals := by simp [cellsC]
theorem cellsC_at : ∀ (l : List Cl) (i k : Nat), i < l.length → k < 8 → (cellsC l)[i * 8 + k]? = ((nthC l i).vals)[k]?
  | x :: l, 0, k, _, hk => by
    show (x.vals ++ cellsC l)[0 * 8 + k]? = _
    rw [Nat.zero_mul, Nat.zero_add, List.getElem?_append_left (by rw [vals_length]; exact hk)]
    rfl
  | x :: l, i + 1, k, h, hk => by
    show (x.vals ++ cellsC l)[(i + 1) * 8 + k]? = _
    rw [List.getElem?_append_right (by rw [vals_length]; omega)]
    have e : (i + 1) * 8 + k - x.vals.length = i * 8 + k := by rw [vals_length]; omega
    rw [e, cellsC_at l i k (by simpa using h) hk]
    rfl
theorem cellsC_one (l : List Cl) : ∀ u ∈ cellsC l, u.oneCell' = true := fun u hu => by
  obtain ⟨t, _, h⟩ := List.mem_flatMap.1 hu
  simp only [Cl.vals, List.mem_cons, List.not_mem_nil, or_false] at h
  rcases h with rfl | rfl | rfl | rfl | rfl | rfl | rfl | rfl <;> rfl

theorem rowC_of_rd {w : World} {p : Option Addr} {l : List Cl} (h : Rd w p (cellsC l)) : RowC w p l := fun i hi => by
  obtain ⟨g, o, hp, h0⟩ := h (i * 8 + 0) _ (cellsC_at l i 0 hi (by decide))
  subst hp
  have hc : ∀ k v, k < 8 → ((nthC l i).vals)[k]? = some v → w.cell? ⟨g, o + i * 8 + k, none⟩ = some v := fun k v hk hv => by
    have := h.cell (i * 8 + k) v ((cellsC_at l i k hi hk).trans hv)
    rwa [← Nat.add_assoc] at this
  exact ⟨g, o, rfl, hc 0 _ (by decide) rfl, hc 1 _ (by decide) rfl, hc 2 _ (by decide) rfl, hc 3 _ (by decide) rfl, hc 4 _ (by decide) rfl, hc 5 _ (by decide) rfl, hc 6 _ (by decide) rfl, hc 7 _ (by decide) rfl⟩
theorem rd_of_rowC {w : World} {p : Option Addr} {l : List Cl} (h : RowC w p l) : Rd w p (cellsC l) := fun j v hj => by
  have hlt := (List.getElem?_eq_some_iff.1 hj).1
  rw [cellsC_length] at hlt
  have hi : j / 8 < l.length := by omega
  obtain ⟨g, o, hp, h0, h1, h2, h3, h4, h5, h6, h7⟩ := h (j / 8) hi
  refine ⟨g, o, hp, ?_⟩
  have hd : j / 8 * 8 + j % 8 = j := by omega
  have hk : j % 8 < 8 := Nat.mod_lt _ (by decide)
  have hv := cellsC_at l (j / 8) (j % 8) hi hk
  rw [hd, hj] at hv
  have e : o + j = o + j / 8 * 8 + j % 8 := by omega
  rw [e]
  match hm : j % 8, hk with
  | 0, _ => rw [hm] at hv; cases hv; exact h0
  | 1, _ => rw [hm] at hv; cases hv; exact h1
  | 2, _ => rw [hm] at hv; cases hv; exact h2
  | 3, _ => rw [hm] at hv; cases hv; exact h3
  | 4, _ => rw [hm] at hv; cases hv; exact h4
  | 5, _ => rw [hm] at hv; cases hv; exact h5
  | 6, _ => rw [hm] at hv; cases hv; exact h6
  | 7, _ => rw [hm] at hv; cases hv; exact h7

theorem drop_nth {cs : List Cl} {i : Nat} (h : i < cs.length) : cs.take (i + 1) = cs.take i ++ [nthC cs i] := by
  rw [List.take_succ_eq_append_getElem h, nthC_eq h]

theorem ownInt_any (w : World) (p : Option Addr) (c : Nat) (xs : List Int) (hrd : Rd w p (ints xs)) (hl : xs.length ≤ 1099511627776) :
    Calls Tryd.prog 15 #[.slice p xs.length c] w fun e w' => ∃ p' c', e = .returned (.slice p' xs.length c') ∧ OwnI 3 w.heap.size w' p' c' xs ∧ KeepBut (fun _ => False) w w' := by
  cases p with
  | none =>
    have : xs = [] := by
      apply Classical.byContradiction; intro h
      obtain ⟨b, o, h1, _⟩ := hrd.ptr (by rw [ints_length]; exact nil_of_length h)
      cases h1
    subst this
    go_enter Tryd.func15, Tryd.ntmps15
    go_wp2_with fail
    go_ret
    exact ⟨some ⟨w.heap.size, 0, none⟩, 0, rfl, OwnI.mk (xs := []) (Nat.le_refl _) (heap_alloc_new w _) (by decide) (by decide) rfl, KeepBut.alloc _ _ _⟩
  | some a =>
    have hA := KeepBut.alloc (fun _ => False) w (.cells #[] 3)
    have hz := Lib.hid (rd_adds (hrd.stay hA))
    have ho := Lib.hid (show OwnI 3 0 (w.alloc (.cells #[] 3)) (some ⟨w.heap.size, 0, none⟩) 0 [] from OwnI.mk (xs := []) (Nat.zero_le _) (heap_alloc_new w _) (by decide) (by decide) rfl)
    clear hrd
    go_enter Tryd.func15, Tryd.ntmps15
    go_wp2_with (at_builtin; refine wpList_appendN rfl (.tmp 3) (.tmp 4) 22 rfl 3 (some ⟨w.heap.size, 0, none⟩) 0 0 [] xs rfl a _ c rfl rfl rfl Tryd.underlying22 info_int3 ho.out hz.out (by simp; omega) ?_
                 intro p' c' w' h1 h2 h3
                 have HQ := Lib.hid (And.intro h1 (And.intro h2 h3))
                 clear h1 h2 h3)
    go_ret
    obtain ⟨h1, h2, h3⟩ := HQ.out
    refine ⟨p', c', by simp, (by simpa using h1 : OwnI 3 0 w' p' c' xs).base fun a' ha => ?_, (hA.new h2 fun b hb => ?_)⟩
    · rcases h3 a'.block ⟨a', ha, rfl⟩ with hb | hb
      · rw [Of.some_iff.1 hb]
        exact Nat.le_refl _
      · simp at hb; omega
    · rw [Of.some_iff.1 hb]
      exact Nat.le_refl _

end Go.Proofs.YtoolpifkfgileaaDoor

/-
  In plain: what was seen up to some time is linear if the whole is.
-/
namespace Go.Proofs.YtoolpifkfgileaaDoor
open Go Go.RowKit Own

/-- a call as it was seen up to a time -/
def truncC (t : Int) (c : Cl) : Cl := if t ≤ c.till then { c with till := -1, value := 0, code := 0 } else c
def cutH (t : Int) (cs : List Cl) : List Cl := (cs.filter fun c => decide (c.beg < t)).map (truncC t)
def keepC (t : Int) (c : Cl) : Bool := !(decide (t ≤ c.till) && decide (c.code = 2))

theorem trunc_beg (t : Int) (c : Cl) : (truncC t c).beg = c.beg := by unfold truncC; split <;> rfl
theorem trunc_hart (t : Int) (c : Cl) : (truncC t c).hart = c.hart := by unfold truncC; split <;> rfl
theorem trunc_good (ks : List Int) (t : Int) (c : Cl) : goodC ks (truncC t c) = goodC ks c := by unfold truncC; split <;> rfl
theorem trunc_till (t : Int) (c : Cl) : (truncC t c).till = -1 ∨ ((truncC t c).till = c.till ∧ truncC t c = c ∧ c.till < t) := by
  unfold truncC
  split
  · exact .inl rfl
  · exact .inr ⟨rfl, rfl, by omega⟩

theorem set_self (h : List (Int × List Int)) (m : Nat) : h.set m (nthK h m) = h := by
  unfold nthK
  rcases Nat.lt_or_ge m h.length with hm | hm
  · have e : h.getD m (0, []) = h[m] := by simp [List.getD, hm]
    rw [e]; exact List.set_getElem_self hm
  · exact List.set_eq_of_length_le hm

theorem may_full {k op : Int} {xs : List Int} {x v : Int} : (mayR k op xs x v 2).kind = k ∧ (mayR k op xs x v 2).items = xs := by
  unfold mayR
  rw [if_pos rfl]
  exact ⟨rfl, rfl⟩
theorem may_does {k op : Int} {xs : List Int} {x v cd : Int} (hc : cd ≠ 2) (h : (mayR k op xs x v cd).ok = true) : (doR k op xs x).err = 0 ∧ (mayR k op xs x v cd).kind = (doR k op xs x).kind ∧ (mayR k op xs x v cd).items = (doR k op xs x).items := by
  unfold mayR at h ⊢
  rw [if_neg hc] at h ⊢
  split at h
  · rename_i h1
    rw [if_pos h1]
    exact ⟨h1.1, rfl, rfl⟩
  · cases h

theorem step_cut {t : Int} (ht : 0 ≤ t) {h h' : List (Int × List Int)} {c : Cl} (hs : stepC h c = some h') : if keepC t c = true then stepC h (truncC t c) = some h' else h' = h := by
  by_cases h1 : t ≤ c.till
  · have hne : c.till ≠ -1 := by omega
    by_cases h2 : c.code = 2
    · have hk : keepC t c = false := by simp [keepC, h1, h2]
      rw [hk, if_neg Bool.false_ne_true]
      unfold stepC step1 at hs
      rw [if_neg hne, h2] at hs
      split at hs
      · rw [may_full.1, may_full.2] at hs
        have := Option.some.inj hs
        rw [← this]
        exact set_self h _
      · cases hs
    · have hk : keepC t c = true := by simp [keepC, h2]
      rw [hk, if_pos rfl]
      have e : truncC t c = { c with till := -1, value := 0, code := 0 } := by unfold truncC; rw [if_pos h1]
      rw [e]
      unfold stepC step1 at hs ⊢
      rw [if_neg hne] at hs
      dsimp only
      rw [if_pos rfl]
      split at hs
      · rename_i h3
        obtain ⟨e1, e2, e3⟩ := may_does h2 h3
        rw [if_pos e1, ← e2, ← e3]
        exact hs
      · cases hs
  · have hk : keepC t c = true := by simp [keepC, h1]
    have e : truncC t c = c := by unfold truncC; rw [if_neg h1]
    rw [hk, if_pos rfl, e]
    exact hs

theorem fold_cut {t : Int} (ht : 0 ≤ t) : ∀ (o : List Cl) (h h' : List (Int × List Int)), foldC h o = some h' → foldC h ((o.filter (keepC t)).map (truncC t)) = some h'
  | [], _, _, hs => hs
  | c :: o, h, h', hs => by
    unfold foldC at hs
    cases hx : stepC h c with
    | none => rw [hx] at hs; cases hs
    | some h1 =>
      rw [hx] at hs
      have ih := fold_cut ht o h1 h' hs
      have hc := step_cut ht hx
      rw [List.filter_cons]
      split at hc
      · rename_i hk
        rw [if_pos hk, List.map_cons]
        unfold foldC
        rw [hc]
        exact ih
      · rename_i hk
        rw [if_neg hk, ← hc]
        exact ih

theorem fold_append : ∀ (p q : List Cl) (h : List (Int × List Int)), (foldC h (p ++ q)).isSome = true → (foldC h p).isSome = true
  | [], _, _, _ => rfl
  | c :: p, q, h, hs => by
    rw [List.cons_append] at hs
    unfold foldC at hs ⊢
    cases hx : stepC h c with
    | none => rw [hx] at hs; cases hs
    | some h1 =>
      rw [hx] at hs
      exact fold_append p q h1 hs

theorem good_cut {ks : List Int} {cs : List Cl} {t : Int} (ht : 0 ≤ t) (h : GoodH ks cs) : GoodH ks (cutH t cs) := by
  refine ⟨h.kinds, fun c hc => ?_, ?_⟩
  · obtain ⟨c, hc0, rfl⟩ := List.mem_map.1 hc
    have h1 := h.each c (List.mem_filter.1 hc0).1
    refine ⟨by rw [trunc_good]; exact h1.1, fun e => ?_, fun e => ?_⟩
    · unfold truncC at e ⊢
      split
      · exact ⟨rfl, rfl⟩
      · rename_i h2
        rw [if_neg h2] at e
        exact h1.2.1 e
    · rcases trunc_till t c with h2 | ⟨h2, h3, -⟩
      · exact absurd h2 e
      · rw [h3] at e ⊢
        exact h1.2.2 e
  · unfold cutH
    rw [map_pair]
    refine (h.pair.filter (fun c => decide (c.beg < t))).imp_of_mem fun {a b} ha hb hab => ?_
    have hbt : b.beg < t := of_decide_eq_true (List.mem_filter.1 hb).2
    obtain ⟨a1, a2, a3, a4, a5⟩ := hab
    unfold Apart
    rw [trunc_beg, trunc_beg, trunc_hart, trunc_hart]
    refine ⟨a1, fun e => ?_, fun e => ?_, fun e e' => ?_, fun e => ?_⟩
    · rcases trunc_till t a with h2 | ⟨h2, -, -⟩
      · exact absurd h2 e
      · rw [h2] at e ⊢; exact a2 e
    · rcases trunc_till t b with h2 | ⟨h2, -, -⟩
      · exact absurd h2 e
      · rw [h2] at e ⊢; exact a3 e
    · rcases trunc_till t a with h2 | ⟨h2, -, -⟩
      · exact absurd h2 e
      · rcases trunc_till t b with h3 | ⟨h3, -, -⟩
        · exact absurd h3 e'
        · rw [h2] at e ⊢; rw [h3] at e' ⊢; exact a4 e e'
    · obtain ⟨h2, h3⟩ := a5 e
      have e2 : truncC t a = a := by unfold truncC; rw [if_neg (by omega)]
      rw [e2]
      exact ⟨h2, h3⟩

theorem ahead_cut {t : Int} {a b : Cl} (h : aheadC b a = false) : aheadC (truncC t b) (truncC t a) = false := by
  unfold aheadC at h ⊢
  rw [trunc_beg]
  rcases trunc_till t b with h2 | ⟨h2, -, -⟩
  · rw [h2]; rfl
  · rw [h2]; exact h

theorem drop_head {p : Cl → Bool} : ∀ {o : List Cl} {d : Cl} {q : List Cl}, o.dropWhile p = d :: q → p d = false
  | [], d, q, h => by simp at h
  | x :: o, d, q, h => by
    rw [List.dropWhile_cons] at h
    split at h
    · exact drop_head h
    · rename_i h1
      cases h
      simpa using h1

theorem ord_cut {ks : List Int} {cs o : List Cl} {h0 : List (Int × List Int)} {t : Int} (ht : 0 ≤ t) (hg : GoodH ks cs) (h : OrdC h0 cs o) :
    OrdC h0 (cutH t cs) (((o.takeWhile fun c => decide (c.beg < t)).filter (keepC t)).map (truncC t)) := by
  have hsub : (o.takeWhile fun c => decide (c.beg < t)).Sublist o := List.takeWhile_sublist _
  have hsplit : o.takeWhile (fun c => decide (c.beg < t)) ++ o.dropWhile (fun c => decide (c.beg < t)) = o := List.takeWhile_append_dropWhile
  refine ⟨fun c hc => ?_, fun c hc hne => ?_, ?_, ?_⟩
  · obtain ⟨c, hc0, rfl⟩ := List.mem_map.1 hc
    have h1 := (List.mem_filter.1 hc0).1
    exact List.mem_map.2 ⟨c, List.mem_filter.2 ⟨h.sub c (hsub.mem h1), (List.all_eq_true.1 (List.all_takeWhile (p := fun c : Cl => decide (c.beg < t)) (l := o))) c h1⟩, rfl⟩
  · obtain ⟨c, hc0, rfl⟩ := List.mem_map.1 hc
    obtain ⟨hc1, hc2⟩ := List.mem_filter.1 hc0
    have hc2 : c.beg < t := of_decide_eq_true hc2
    rcases trunc_till t c with h2 | ⟨h2, h3, h4⟩
    · exact absurd h2 hne
    · rw [h3] at hne ⊢
      have hin := h.ended c hc1 hne
      rw [← hsplit] at hin
      rcases List.mem_append.1 hin with h5 | h5
      · exact List.mem_map.2 ⟨c, List.mem_filter.2 ⟨h5, by simp [keepC]; omega⟩, h3⟩
      · exfalso
        have hp := h.pair
        rw [← hsplit] at hp
        have hp := (List.pairwise_append.1 hp).2.1
        cases hd : o.dropWhile (fun c => decide (c.beg < t)) with
        | nil => rw [hd] at h5; cases h5
        | cons d q =>
          have hdf := drop_head hd
          have hdf : ¬ d.beg < t := of_decide_eq_false hdf
          rw [hd] at h5 hp
          rcases List.mem_cons.1 h5 with e | h6
          · rw [e] at hc2; exact hdf hc2
          · have h7 := ((List.pairwise_cons.1 hp).1 c h6).2
            have h8 := (hg.each c hc1).2.2 hne
            have h9 := good_beg (hg.each c hc1)
            have : aheadC c d = true := by
              unfold aheadC
              rw [decide_eq_true (by omega), decide_eq_true (by omega)]
              rfl
            rw [this] at h7
            cases h7
  · rw [map_pair]
    refine ((h.pair.sublist hsub).filter (keepC t)).imp fun {a b} hab => ?_
    rw [trunc_beg, trunc_beg]
    exact ⟨hab.1, ahead_cut hab.2⟩
  · have h1 := h.run
    rw [← hsplit] at h1
    have h2 := fold_append _ _ _ h1
    obtain ⟨h', h3⟩ := Option.isSome_iff_exists.1 h2
    rw [fold_cut ht _ _ _ h3]
    rfl

theorem lin_cut {ks : List Int} {cs : List Cl} {t : Int} (ht : 0 ≤ t) (h : LinH ks cs) : LinH ks (cutH t cs) := by
  obtain ⟨⟨hg, hl⟩, o, ho⟩ := h
  refine ⟨⟨good_cut ht hg, ?_⟩, _, ord_cut ht hg ho⟩
  unfold cutH
  rw [List.length_map]
  exact Nat.le_trans (List.length_filter_le _ _) hl

end Go.Proofs.YtoolpifkfgileaaDoor
