/-
  In plain: which histories may be, and which orders there are, told by calls and not by their numbers. No code in sight.
-/
import Derived.Test.YtoolpifkfgileaaDoorHiB
namespace Go.Proofs.YtoolpifkfgileaaDoor
open Go Go.RowKit Own

def aheadC (a b : Cl) : Bool := decide (0 ≤ a.till) && decide (a.till < b.beg)
def step1 (e : Int × List Int) (c : Cl) : Option (Int × List Int) :=
  if c.till = -1 then (if (doR e.1 c.op e.2 c.arg).err = 0 then some ((doR e.1 c.op e.2 c.arg).kind, (doR e.1 c.op e.2 c.arg).items) else none)
  else (if (mayR e.1 c.op e.2 c.arg c.value c.code).ok = true then some ((mayR e.1 c.op e.2 c.arg c.value c.code).kind, (mayR e.1 c.op e.2 c.arg c.value c.code).items) else none)
def stepC (h : List (Int × List Int)) (c : Cl) : Option (List (Int × List Int)) := (step1 (nthK h c.cont.toNat) c).map fun e => h.set c.cont.toNat e
theorem stepP_eq (cs : List Cl) (h : List (Int × List Int)) (n : Nat) : stepP cs h n = stepC h (nthC cs n) := by
  unfold stepP stepC step1
  dsimp only
  split
  · split <;> rfl
  · split <;> rfl
def foldC : List (Int × List Int) → List Cl → Option (List (Int × List Int))
  | h, [] => some h
  | h, c :: o => match stepC h c with | some h' => foldC h' o | none => none

theorem nthC_eq {cs : List Cl} {n : Nat} (h : n < cs.length) : nthC cs n = cs[n] := by simp [nthC, List.getD, h]
theorem nthC_mem {cs : List Cl} {n : Nat} (h : n < cs.length) : nthC cs n ∈ cs := by rw [nthC_eq h]; exact List.getElem_mem h
theorem mem_nthC {cs : List Cl} {c : Cl} (h : c ∈ cs) : ∃ n, n < cs.length ∧ nthC cs n = c := by
  obtain ⟨n, hn, e⟩ := List.getElem_of_mem h
  exact ⟨n, hn, by rw [nthC_eq hn, e]⟩

/-- an order by numbers -/
structure OrdI (cs : List Cl) (d : Nat) (h : List (Int × List Int)) (o : List Nat) : Prop where
  lt : ∀ n ∈ o, n < cs.length
  nodup : o.Nodup
  new : ∀ n ∈ o, d.testBit n = false
  pair : o.Pairwise fun a b => aheadB cs b a = false
  ended : ∀ k, k < cs.length → (nthC cs k).till ≠ -1 → d.testBit k = true ∨ k ∈ o
  run : (foldC h (o.map (nthC cs))).isSome = true

theorem bits_lt24 {f : Nat → Bool} {N : Nat} (h : N ≤ 24) : bitsOf f N < 4294967296 := Nat.lt_trans (bitsOf_lt f N) (pow_lt h)

theorem over_iff {cs : List Cl} {d : Nat} (h : cs.length ≤ 24) : overB cs d = true ↔ ∀ k, k < cs.length → (nthC cs k).till ≠ -1 → d.testBit k = true := by
  unfold overB endedM
  rw [beq_iff_eq, without_zero (bits_lt24 h)]
  constructor
  · intro h1 k hk ht
    exact h1 k (by rw [bitsOf_bit, decide_eq_true hk]; simpa using ht)
  · intro h1 k hk
    rw [bitsOf_bit, Bool.and_eq_true, decide_eq_true_eq] at hk
    exact h1 k hk.1 (by simpa using hk.2)

theorem free_iff {cs : List Cl} {d n : Nat} (h : cs.length ≤ 24) : freeB cs d n = true ↔ d.testBit n = false ∧ ∀ k, k < cs.length → aheadB cs k n = true → d.testBit k = true := by
  unfold freeB aheadM
  rw [Bool.and_eq_true, Bool.not_eq_true', beq_iff_eq, without_zero (bits_lt24 h)]
  refine and_congr_right fun _ => ?_
  constructor
  · intro h1 k hk ht
    exact h1 k (by rw [bitsOf_bit, decide_eq_true hk, ht]; rfl)
  · intro h1 k hk
    rw [bitsOf_bit, Bool.and_eq_true, decide_eq_true_eq] at hk
    exact h1 k hk.1 hk.2

theorem ahead_ended {cs : List Cl} {k n : Nat} (h : aheadB cs k n = true) : (nthC cs k).till ≠ -1 := by
  unfold aheadB at h
  rw [Bool.and_eq_true, decide_eq_true_eq, decide_eq_true_eq] at h
  omega

theorem ord_of : ∀ (o : List Nat) {cs : List Cl} {d : Nat} {h : List (Int × List Int)}, cs.length ≤ 24 → ordB cs d h o = true → OrdI cs d h o
  | [], cs, d, h, hl, ho => by
    unfold ordB at ho
    exact ⟨fun n hn => (by cases hn), List.nodup_nil, fun n hn => (by cases hn), List.Pairwise.nil, fun k hk ht => .inl ((over_iff hl).1 ho k hk ht), rfl⟩
  | n :: o, cs, d, h, hl, ho => by
    unfold ordB at ho
    rw [Bool.and_eq_true, decide_eq_true_eq] at ho
    obtain ⟨hn, ho⟩ := ho
    cases hx : nextP cs d h n with
    | none => rw [hx] at ho; cases ho
    | some h' =>
      rw [hx] at ho
      dsimp only at ho
      have ih := ord_of o hl ho
      unfold nextP at hx
      split at hx
      · rename_i hf
        obtain ⟨f1, f2⟩ := (free_iff hl).1 hf
        have nb : ∀ m ∈ o, m ≠ n ∧ d.testBit m = false := fun m hm => by
          have := ih.new m hm
          rw [or_bit, Bool.or_eq_false_iff, decide_eq_false_iff_not] at this
          exact ⟨this.2, this.1⟩
        refine ⟨fun m hm => ?_, List.nodup_cons.2 ⟨fun hm => (nb n hm).1 rfl, ih.nodup⟩, fun m hm => ?_, List.pairwise_cons.2 ⟨fun m hm => ?_, ih.pair⟩, fun k hk ht => ?_, ?_⟩
        · rcases List.mem_cons.1 hm with e | hm
          · rw [e]; exact hn
          · exact ih.lt m hm
        · rcases List.mem_cons.1 hm with e | hm
          · rw [e]; exact f1
          · exact (nb m hm).2
        · cases ha : aheadB cs m n with
          | false => rfl
          | true =>
            have := f2 m (ih.lt m hm) ha
            rw [(nb m hm).2] at this
            cases this
        · rcases ih.ended k hk ht with h1 | h1
          · rw [or_bit, Bool.or_eq_true, decide_eq_true_eq] at h1
            rcases h1 with h1 | h1
            · exact .inl h1
            · exact .inr (by rw [h1]; exact List.mem_cons_self)
          · exact .inr (List.mem_cons_of_mem _ h1)
        · rw [stepP_eq] at hx
          rw [List.map_cons]
          unfold foldC
          rw [hx]
          exact ih.run
      · cases hx

theorem of_ord : ∀ (o : List Nat) {cs : List Cl} {d : Nat} {h : List (Int × List Int)}, cs.length ≤ 24 → (∀ k, k < cs.length → aheadB cs k k = false) → OrdI cs d h o → ordB cs d h o = true
  | [], cs, d, h, hl, hs, ho => by
    unfold ordB
    exact (over_iff hl).2 fun k hk ht => (ho.ended k hk ht).resolve_right fun e => by cases e
  | n :: o, cs, d, h, hl, hs, ho => by
    have hn := ho.lt n List.mem_cons_self
    have hrun := ho.run
    rw [List.map_cons] at hrun
    unfold foldC at hrun
    cases hx : stepC h (nthC cs n) with
    | none => rw [hx] at hrun; cases hrun
    | some h' =>
      rw [hx] at hrun
      dsimp only at hrun
      obtain ⟨hp1, hp2⟩ := List.pairwise_cons.1 ho.pair
      obtain ⟨hd1, hd2⟩ := List.nodup_cons.1 ho.nodup
      have hf : freeB cs d n = true := (free_iff hl).2 ⟨ho.new n List.mem_cons_self, fun k hk ha => by
        rcases ho.ended k hk (ahead_ended ha) with h1 | h1
        · exact h1
        · exfalso
          rcases List.mem_cons.1 h1 with e | h1
          · rw [e, hs n hn] at ha; cases ha
          · rw [hp1 k h1] at ha; cases ha⟩
      have ih := of_ord o (d := d ||| 2 ^ n) (h := h') hl hs ⟨fun m hm => ho.lt m (List.mem_cons_of_mem _ hm), hd2, fun m hm => by
          rw [or_bit, ho.new m (List.mem_cons_of_mem _ hm), Bool.false_or, decide_eq_false_iff_not]
          intro e
          rw [e] at hm
          exact hd1 hm, hp2, fun k hk ht => by
          rw [or_bit]
          rcases ho.ended k hk ht with h1 | h1
          · left; rw [h1]; rfl
          · rcases List.mem_cons.1 h1 with e | h1
            · left; rw [e]; simp
            · exact .inr h1, hrun⟩
      unfold ordB nextP
      rw [decide_eq_true hn, hf, if_pos rfl, stepP_eq, hx]
      exact ih

/-- what two calls of a history must be to each other -/
def Apart (a b : Cl) : Prop := a.beg ≠ b.beg ∧ (a.till ≠ -1 → a.till ≠ b.beg) ∧ (b.till ≠ -1 → a.beg ≠ b.till) ∧ (a.till ≠ -1 → b.till ≠ -1 → a.till ≠ b.till) ∧ (a.hart = b.hart → a.till ≠ -1 ∧ a.till < b.beg)
def EachC (ks : List Int) (c : Cl) : Prop := goodC ks c = true ∧ (c.till = -1 → c.value = 0 ∧ c.code = 0) ∧ (c.till ≠ -1 → c.beg < c.till)
def ClearT (T : Int → Bool) (c : Cl) : Prop := T c.beg = false ∧ (c.till ≠ -1 → T c.till = false)

theorem updT_false {T : Int → Bool} {t x : Int} : updT T t x = false ↔ x ≠ t ∧ T x = false := by
  unfold updT
  by_cases h : x = t <;> simp [h]

theorem lastOk_upd (E : Int → Option Int) (c x : Cl) (hc : lastOk (E c.hart) c.beg = true) (hb : c.till ≠ -1 → c.beg < c.till) :
    lastOk (updE E c.hart c.till x.hart) x.beg = true ↔ (c.hart = x.hart → c.till ≠ -1 ∧ c.till < x.beg) ∧ lastOk (E x.hart) x.beg = true := by
  unfold updE
  by_cases h : x.hart = c.hart
  · rw [if_pos h, h]
    show decide _ = true ↔ _
    rw [decide_eq_true_eq]
    constructor
    · intro h1
      refine ⟨fun _ => h1, ?_⟩
      unfold lastOk at hc ⊢
      cases he : E c.hart with
      | none => rfl
      | some y =>
        rw [he] at hc
        have hc := of_decide_eq_true hc
        have := hb h1.1
        exact decide_eq_true ⟨hc.1, by omega⟩
    · intro h1; exact h1.1 rfl
  · rw [if_neg h]
    constructor
    · intro h1; exact ⟨fun e => absurd e.symm h, h1⟩
    · intro h1; exact h1.2

theorem clear_one {T : Int → Bool} {c x : Cl} (ht : c.till = -1) : ClearT (updT T c.beg) x ↔ (c.beg ≠ x.beg ∧ (x.till ≠ -1 → c.beg ≠ x.till)) ∧ ClearT T x := by
  unfold ClearT
  rw [updT_false]
  constructor
  · rintro ⟨⟨h1, h2⟩, h3⟩
    exact ⟨⟨fun e => h1 e.symm, fun h e => (updT_false.1 (h3 h)).1 e.symm⟩, h2, fun h => (updT_false.1 (h3 h)).2⟩
  · rintro ⟨⟨h1, h2⟩, h3, h4⟩
    exact ⟨⟨fun e => h1 e.symm, h3⟩, fun h => updT_false.2 ⟨fun e => h2 h e.symm, h4 h⟩⟩

theorem clear_two {T : Int → Bool} {c x : Cl} : ClearT (updT (updT T c.beg) c.till) x ↔ (c.beg ≠ x.beg ∧ c.till ≠ x.beg ∧ (x.till ≠ -1 → c.beg ≠ x.till) ∧ (x.till ≠ -1 → c.till ≠ x.till)) ∧ ClearT T x := by
  unfold ClearT
  rw [updT_false, updT_false]
  constructor
  · rintro ⟨⟨h1, h2, h3⟩, h4⟩
    refine ⟨⟨fun e => h2 e.symm, fun e => h1 e.symm, fun h e => ?_, fun h e => ?_⟩, h3, fun h => ?_⟩
    · exact (updT_false.1 (updT_false.1 (h4 h)).2).1 e.symm
    · exact (updT_false.1 (h4 h)).1 e.symm
    · exact (updT_false.1 (updT_false.1 (h4 h)).2).2
  · rintro ⟨⟨h1, h2, h3, h4⟩, h5, h6⟩
    exact ⟨⟨fun e => h2 e.symm, fun e => h1 e.symm, h5⟩, fun h => updT_false.2 ⟨fun e => h4 h e.symm, updT_false.2 ⟨fun e => h3 h e.symm, h6 h⟩⟩⟩

theorem callsF_iff (ks : List Int) : ∀ (cs : List Cl) (T : Int → Bool) (E : Int → Option Int), callsF ks cs T E = true ↔ (∀ c ∈ cs, EachC ks c) ∧ cs.Pairwise Apart ∧ ∀ c ∈ cs, ClearT T c ∧ lastOk (E c.hart) c.beg = true
  | [], T, E => by simp [callsF]
  | c :: r, T, E => by
    unfold callsF
    rw [List.forall_mem_cons, List.pairwise_cons, List.forall_mem_cons, Bool.and_eq_true, Bool.and_eq_true, Bool.and_eq_true, Bool.not_eq_true']
    by_cases ht : c.till = -1
    · rw [if_pos ht, Bool.and_eq_true, decide_eq_true_eq, callsF_iff ks r]
      constructor
      · rintro ⟨h1, h2, h3, h4, h5, h6, h7⟩
        have hx : ∀ x ∈ r, Apart c x ∧ ClearT T x ∧ lastOk (E x.hart) x.beg = true := fun x hx => by
          obtain ⟨a1, a2⟩ := h7 x hx
          obtain ⟨⟨b1, b2⟩, b3⟩ := (clear_one ht).1 a1
          obtain ⟨b4, b5⟩ := (lastOk_upd E c x h3 fun h => absurd ht h).1 a2
          exact ⟨⟨b1, fun h => absurd ht h, b2, fun h => absurd ht h, b4⟩, b3, b5⟩
        exact ⟨⟨⟨h1, fun _ => h4, fun h => absurd ht h⟩, h5⟩, ⟨fun x h => (hx x h).1, h6⟩, ⟨⟨h2, fun h => absurd ht h⟩, h3⟩, fun x h => (hx x h).2⟩
      · rintro ⟨⟨⟨h1, h4, -⟩, h5⟩, ⟨h6, h7⟩, ⟨⟨h2, -⟩, h3⟩, h8⟩
        exact ⟨h1, h2, h3, h4 ht, h5, h7, fun x hx => by
          obtain ⟨a1, a2, a3, a4, a5⟩ := h6 x hx
          exact ⟨(clear_one ht).2 ⟨⟨a1, a3⟩, (h8 x hx).1⟩, (lastOk_upd E c x h3 fun h => absurd ht h).2 ⟨a5, (h8 x hx).2⟩⟩⟩
    · rw [if_neg ht, Bool.and_eq_true, Bool.and_eq_true, Bool.not_eq_true', decide_eq_true_eq, callsF_iff ks r]
      constructor
      · rintro ⟨h1, h2, h3, h4, h9, h5, h6, h7⟩
        have hx : ∀ x ∈ r, Apart c x ∧ ClearT T x ∧ lastOk (E x.hart) x.beg = true := fun x hx => by
          obtain ⟨a1, a2⟩ := h7 x hx
          obtain ⟨⟨b1, b2, b6, b7⟩, b3⟩ := clear_two.1 a1
          obtain ⟨b4, b5⟩ := (lastOk_upd E c x h3 fun _ => h4).1 a2
          exact ⟨⟨b1, fun _ => b2, b6, fun _ => b7, b4⟩, b3, b5⟩
        exact ⟨⟨⟨h1, fun h => absurd h ht, fun _ => h4⟩, h5⟩, ⟨fun x h => (hx x h).1, h6⟩, ⟨⟨h2, fun _ => (updT_false.1 h9).2⟩, h3⟩, fun x h => (hx x h).2⟩
      · rintro ⟨⟨⟨h1, -, h4⟩, h5⟩, ⟨h6, h7⟩, ⟨⟨h2, h9⟩, h3⟩, h8⟩
        have h4 := h4 ht
        exact ⟨h1, h2, h3, h4, updT_false.2 ⟨by omega, h9 ht⟩, h5, h7, fun x hx => by
          obtain ⟨a1, a2, a3, a4, a5⟩ := h6 x hx
          exact ⟨clear_two.2 ⟨⟨a1, a2 ht, a3, a4 ht⟩, (h8 x hx).1⟩, (lastOk_upd E c x h3 fun _ => h4).2 ⟨a5, (h8 x hx).2⟩⟩⟩

structure GoodH (ks : List Int) (cs : List Cl) : Prop where
  kinds : kindsB ks = true
  each : ∀ c ∈ cs, EachC ks c
  pair : cs.Pairwise Apart
theorem mayH_iff {ks : List Int} {cs : List Cl} : mayH ks cs = true ↔ GoodH ks cs := by
  unfold mayH
  rw [Bool.and_eq_true, callsF_iff]
  constructor
  · rintro ⟨h1, h2, h3, -⟩; exact ⟨h1, h2, h3⟩
  · rintro ⟨h1, h2, h3⟩; exact ⟨h1, h2, h3, fun c _ => ⟨⟨rfl, fun _ => rfl⟩, rfl⟩⟩

theorem GoodH.sub {ks : List Int} {cs cs' : List Cl} (h : GoodH ks cs) (hs : cs'.Sublist cs) : GoodH ks cs' := ⟨h.kinds, fun c hc => h.each c (hs.mem hc), h.pair.sublist hs⟩
theorem chkH_ok {ks : List Int} {cs : List Cl} : chkH ks cs = 0 ↔ GoodH ks cs ∧ cs.length ≤ 24 := by
  constructor
  · intro h; have := chkH_zero h; exact ⟨mayH_iff.1 this.1, this.2⟩
  · rintro ⟨h1, h2⟩; unfold chkH; rw [if_pos (mayH_iff.2 h1), if_neg (by omega)]

theorem good_beg {c : Cl} {ks : List Int} (h : EachC ks c) : 0 ≤ c.hart ∧ c.hart < 4 ∧ 0 ≤ c.cont ∧ c.cont < ks.length ∧ kindOf c.op = nth ks c.cont.toNat ∧ 0 ≤ c.beg := of_decide_eq_true h.1
theorem GoodH.self {ks : List Int} {cs : List Cl} (h : GoodH ks cs) : ∀ k, k < cs.length → aheadB cs k k = false := fun k hk => by
  have h1 := h.each _ (nthC_mem hk)
  cases e : aheadB cs k k with
  | false => rfl
  | true =>
    have h2 := ahead_ended e
    have h3 := h1.2.2 h2
    unfold aheadB at e
    rw [Bool.and_eq_true, decide_eq_true_eq, decide_eq_true_eq] at e
    omega
theorem GoodH.begs {ks : List Int} {cs : List Cl} (h : GoodH ks cs) {i j : Nat} (hi : i < cs.length) (hj : j < cs.length) (e : (nthC cs i).beg = (nthC cs j).beg) : i = j := by
  have hp := List.pairwise_iff_getElem.1 h.pair
  rw [nthC_eq hi, nthC_eq hj] at e
  rcases Nat.lt_trichotomy i j with h1 | h1 | h1
  · exact absurd e (hp i j hi hj h1).1
  · exact h1
  · exact absurd e.symm (hp j i hj hi h1).1

/-- an order by calls -/
structure OrdC (h0 : List (Int × List Int)) (cs o : List Cl) : Prop where
  sub : ∀ c ∈ o, c ∈ cs
  ended : ∀ c ∈ cs, c.till ≠ -1 → c ∈ o
  pair : o.Pairwise fun a b => a.beg ≠ b.beg ∧ aheadC b a = false
  run : (foldC h0 o).isSome = true

theorem map_pair {α β : Type} {R : β → β → Prop} {f : α → β} {l : List α} : (l.map f).Pairwise R ↔ l.Pairwise fun a b => R (f a) (f b) := List.pairwise_map

theorem OrdI.calls {ks : List Int} {cs : List Cl} {h0 : List (Int × List Int)} {o : List Nat} (hg : GoodH ks cs) (h : OrdI cs 0 h0 o) : OrdC h0 cs (o.map (nthC cs)) := by
  refine ⟨fun c hc => ?_, fun c hc ht => ?_, ?_, h.run⟩
  · obtain ⟨n, hn, e⟩ := List.mem_map.1 hc
    rw [← e]; exact nthC_mem (h.lt n hn)
  · obtain ⟨k, hk, e⟩ := mem_nthC hc
    rw [← e] at ht ⊢
    rcases h.ended k hk ht with h1 | h1
    · rw [Nat.zero_testBit] at h1; cases h1
    · exact List.mem_map.2 ⟨k, h1, rfl⟩
  · rw [map_pair]
    refine (h.nodup.and h.pair).imp_of_mem fun {a b} ha hb hab => ⟨fun e => ?_, hab.2⟩
    exact hab.1 (hg.begs (h.lt a ha) (h.lt b hb) e)

theorem OrdC.nums {ks : List Int} {cs : List Cl} {h0 : List (Int × List Int)} {oc : List Cl} (hg : GoodH ks cs) (h : OrdC h0 cs oc) : ∃ o, OrdI cs 0 h0 o ∧ o.map (nthC cs) = oc := by
  have hx : ∀ oc : List Cl, (∀ c ∈ oc, c ∈ cs) → ∃ o : List Nat, (∀ n ∈ o, n < cs.length) ∧ o.map (nthC cs) = oc := by
    intro oc
    induction oc with
    | nil => intro _; exact ⟨[], fun n hn => (by cases hn), rfl⟩
    | cons c oc ih =>
      intro hs
      obtain ⟨o, h1, h2⟩ := ih fun c hc => hs c (List.mem_cons_of_mem _ hc)
      obtain ⟨n, hn, e⟩ := mem_nthC (hs c List.mem_cons_self)
      exact ⟨n :: o, fun m hm => by
        rcases List.mem_cons.1 hm with e | hm
        · rw [e]; exact hn
        · exact h1 m hm, by rw [List.map_cons, e, h2]⟩
  obtain ⟨o, hlt, rfl⟩ := hx oc h.sub
  have hp := map_pair.1 h.pair
  refine ⟨o, ⟨hlt, ?_, fun n _ => Nat.zero_testBit n, hp.imp fun hab => hab.2, fun k hk ht => .inr ?_, h.run⟩, rfl⟩
  · exact hp.imp fun {a b} hab e => hab.1 (by rw [e])
  · obtain ⟨m, hm, e⟩ := List.mem_map.1 (h.ended _ (nthC_mem hk) ht)
    have : m = k := hg.begs (hlt m hm) hk (by rw [e])
    rw [← this]; exact hm

/-- linear -/
def LinH (ks : List Int) (cs : List Cl) : Prop := (GoodH ks cs ∧ cs.length ≤ 24) ∧ ∃ o, OrdC (ks.map fun k => (k, [])) cs o

theorem lin_of {ks : List Int} {cs : List Cl} {o : List Nat} (hg : GoodH ks cs) (hl : cs.length ≤ 24) (h : ordB cs 0 (ks.map fun k => (k, [])) o = true) : LinH ks cs := ⟨⟨hg, hl⟩, _, (ord_of o hl h).calls hg⟩
theorem not_lin {ks : List Int} {cs : List Cl} (h : ∀ o, ordB cs 0 (ks.map fun k => (k, [])) o = false) : ¬ LinH ks cs := by
  rintro ⟨⟨hg, hl⟩, oc, ho⟩
  obtain ⟨o, h1, -⟩ := ho.nums hg
  have := of_ord o hl hg.self h1
  rw [h o] at this
  cases this

end Go.Proofs.YtoolpifkfgileaaDoor
