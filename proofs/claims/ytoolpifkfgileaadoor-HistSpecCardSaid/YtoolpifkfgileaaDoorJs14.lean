/- Joined texts of this work: Hp4, Hp5, OwnR, Ref1, Ref2, Ref3, Ref4, Lives. -/
import Derived.Test.YtoolpifkfgileaaDoorJs12
import Derived.Test.YtoolpifkfgileaaDoorJs8
import Derived.BigQuiet
import Derived.Deep.QuietTactic
import Derived.Laws.Concat

/-
  In plain: a history is linear exactly if each of its parts is.
-/
namespace Go.Proofs.YtoolpifkfgileaaDoor
open Go Go.RowKit Own

def run1 : Int × List Int → List Cl → Option (Int × List Int)
  | e, [] => some e
  | e, c :: o => match step1 e c with | some e' => run1 e' o | none => none
def atC (i : Nat) (c : Cl) : Bool := decide (c.cont = (i : Int))
def partC (i : Nat) (cs : List Cl) : List Cl := cs.filter (atC i)

theorem nthK_set {h : List (Int × List Int)} {m i : Nat} {e : Int × List Int} (hm : m < h.length) : nthK (h.set m e) i = if i = m then e else nthK h i := by
  unfold nthK
  rw [List.getD_eq_getElem?_getD, List.getD_eq_getElem?_getD, List.getElem?_set]
  by_cases h1 : m = i
  · subst h1; simp [hm]
  · have : ¬ i = m := fun e => h1 e.symm
    simp [h1, this]

theorem fold_parts : ∀ (o : List Cl) (h : List (Int × List Int)), (∀ c ∈ o, 0 ≤ c.cont ∧ c.cont.toNat < h.length) →
    ((foldC h o).isSome = true ↔ ∀ i, i < h.length → (run1 (nthK h i) (partC i o)).isSome = true)
  | [], h, _ => by simp [foldC, partC, run1]
  | c :: o, h, hc => by
    obtain ⟨hc0, hc1⟩ := hc c List.mem_cons_self
    obtain ⟨m, hm⟩ : ∃ m : Nat, c.cont = m := ⟨c.cont.toNat, by omega⟩
    have hmt : c.cont.toNat = m := by omega
    have hml : m < h.length := by omega
    have hpart : ∀ i, partC i (c :: o) = if i = m then c :: partC i o else partC i o := fun i => by
      unfold partC
      rw [List.filter_cons]
      by_cases e : i = m
      · have : atC i c = true := decide_eq_true (by omega)
        rw [if_pos e, if_pos this]
      · have : ¬ atC i c = true := by unfold atC; rw [decide_eq_true_eq]; omega
        rw [if_neg e, if_neg this]
    unfold foldC stepC
    rw [hmt]
    cases hs : step1 (nthK h m) c with
    | none =>
      constructor
      · intro hx; cases hx
      · intro hx
        have := hx m hml
        rw [hpart, if_pos rfl] at this
        unfold run1 at this
        rw [hs] at this
        cases this
    | some e =>
      have ih := fold_parts o (h.set m e) fun x hx => by rw [List.length_set]; exact hc x (List.mem_cons_of_mem _ hx)
      show (foldC (h.set m e) o).isSome = true ↔ _
      rw [ih, List.length_set]
      refine forall_congr' fun i => imp_congr_right fun hi => ?_
      rw [hpart, nthK_set hml]
      by_cases e1 : i = m
      · rw [if_pos e1, if_pos e1, e1]
        conv => rhs; unfold run1
        rw [hs]
      · rw [if_neg e1, if_neg e1]

theorem nth_start {ks : List Int} {i : Nat} (hi : i < ks.length) : nthK (startP ks) i = (ks[i], []) := by
  unfold nthK startP
  rw [List.getD_eq_getElem?_getD, List.getElem?_map, List.getElem?_eq_getElem hi]
  rfl

theorem good_part {ks : List Int} {cs : List Cl} (h : GoodH ks cs) (i : Nat) : GoodH ks (partC i cs) := h.sub List.filter_sublist
theorem cont_of {ks : List Int} {cs : List Cl} (h : GoodH ks cs) {c : Cl} (hc : c ∈ cs) : 0 ≤ c.cont ∧ c.cont.toNat < (startP ks).length := by
  have h9 := good_beg (h.each c hc)
  have : (startP ks).length = ks.length := by simp [startP]
  omega

theorem part_twice (i j : Nat) (o : List Cl) : partC j (partC i o) = if j = i then partC i o else [] := by
  unfold partC
  rw [List.filter_filter]
  by_cases e : j = i
  · subst e
    rw [if_pos rfl]
    congr 1
    funext c
    exact Bool.and_self _
  · rw [if_neg e]
    refine List.filter_eq_nil_iff.2 fun c _ h => ?_
    rw [Bool.and_eq_true] at h
    have h1 := of_decide_eq_true h.1
    have h2 := of_decide_eq_true h.2
    omega

theorem lin_part {ks : List Int} {cs : List Cl} (h : LinH ks cs) (i : Nat) : LinH ks (partC i cs) := by
  obtain ⟨⟨hg, hl⟩, o, ho⟩ := h
  have hfp := (fold_parts o (startP ks) fun c hc => cont_of hg (ho.sub c hc)).1 ho.run
  refine ⟨⟨good_part hg i, Nat.le_trans (List.length_filter_le _ _) hl⟩, partC i o, fun c hc => ?_, fun c hc ht => ?_, ho.pair.filter _, ?_⟩
  · have := List.mem_filter.1 hc
    exact List.mem_filter.2 ⟨ho.sub c this.1, this.2⟩
  · have := List.mem_filter.1 hc
    exact List.mem_filter.2 ⟨ho.ended c this.1 ht, this.2⟩
  · refine (fold_parts _ (startP ks) fun c hc => cont_of hg (ho.sub c (List.mem_filter.1 hc).1)).2 fun j hj => ?_
    show (run1 (nthK (startP ks) j) (partC j (partC i o))).isSome = true
    rw [part_twice]
    split
    · rename_i e; subst e; exact hfp j hj
    · rfl

/-- an order, each call with a time at which it may be done -/
def annot : Int → List Cl → List (Int × Cl)
  | _, [] => []
  | m, c :: o => (max m c.beg, c) :: annot (max m c.beg) o
theorem annot_snd : ∀ (o : List Cl) (m : Int), (annot m o).map (·.2) = o
  | [], _ => rfl
  | c :: o, m => by unfold annot; rw [List.map_cons, annot_snd o]
theorem annot_ge : ∀ (o : List Cl) (m : Int), ∀ x ∈ annot m o, m ≤ x.1
  | [], _, x, hx => by cases hx
  | c :: o, m, x, hx => by
    unfold annot at hx
    rcases List.mem_cons.1 hx with e | hx
    · rw [e]; exact Int.le_max_left _ _
    · have := annot_ge o _ x hx
      have h1 := Int.le_max_left m c.beg
      omega
theorem annot_sorted : ∀ (o : List Cl) (m : Int), (annot m o).Pairwise fun a b => a.1 ≤ b.1
  | [], _ => List.Pairwise.nil
  | c :: o, m => by
    unfold annot
    exact List.pairwise_cons.2 ⟨fun x hx => annot_ge o _ x hx, annot_sorted o _⟩
theorem annot_in : ∀ (o : List Cl) (m : Int), (∀ c ∈ o, c.till ≠ -1 → 0 ≤ c.till ∧ c.beg ≤ c.till ∧ m ≤ c.till) → (o.Pairwise fun a b => a.beg ≠ b.beg ∧ aheadC b a = false) →
    ∀ x ∈ annot m o, x.2.beg ≤ x.1 ∧ (x.2.till ≠ -1 → x.1 ≤ x.2.till)
  | [], _, _, _, x, hx => by cases hx
  | c :: o, m, h, hp, x, hx => by
    obtain ⟨hp1, hp2⟩ := List.pairwise_cons.1 hp
    unfold annot at hx
    rcases List.mem_cons.1 hx with e | hx
    · rw [e]
      refine ⟨Int.le_max_right _ _, fun ht => ?_⟩
      have := h c List.mem_cons_self ht
      exact Int.max_le.2 ⟨this.2.2, this.2.1⟩
    · refine annot_in o _ (fun b hb ht => ?_) hp2 x hx
      obtain ⟨h1, h2, h3⟩ := h b (List.mem_cons_of_mem _ hb) ht
      refine ⟨h1, h2, Int.max_le.2 ⟨h3, ?_⟩⟩
      have h4 := (hp1 b hb).2
      unfold aheadC at h4
      rw [decide_eq_true h1, Bool.true_and, decide_eq_false_iff_not] at h4
      omega

theorem flat_sub {α : Type} {f : Nat → List α} {i : Nat} : ∀ {l : List Nat}, i ∈ l → (f i).Sublist (l.flatMap f)
  | j :: l, h => by
    rw [List.flatMap_cons]
    rcases List.mem_cons.1 h with e | h
    · rw [e]; exact List.sublist_append_left _ _
    · exact (flat_sub h).trans (List.sublist_append_right _ _)
theorem flat_congr {α : Type} {f g : Nat → List α} : ∀ {l : List Nat}, (∀ i ∈ l, f i = g i) → l.flatMap f = l.flatMap g
  | [], _ => rfl
  | j :: l, h => by rw [List.flatMap_cons, List.flatMap_cons, h j List.mem_cons_self, flat_congr fun i hi => h i (List.mem_cons_of_mem _ hi)]

theorem pick_flat {α : Type} (f : Nat → List α) (i : Nat) : ∀ K, ((List.range K).flatMap fun j => if j = i then f j else []) = if i < K then f i else []
  | 0 => by simp
  | K + 1 => by
    rw [List.range_succ, List.flatMap_append, pick_flat f i K, List.flatMap_cons, List.flatMap_nil, List.append_nil]
    by_cases h1 : i < K
    · rw [if_pos h1, if_neg (by omega), if_pos (by omega), List.append_nil]
    · rw [if_neg h1, List.nil_append]
      by_cases h2 : K = i
      · rw [if_pos h2, if_pos (by omega), h2]
      · rw [if_neg h2, if_neg (by omega)]

theorem GoodH.begC {ks : List Int} {cs : List Cl} (h : GoodH ks cs) {a b : Cl} (ha : a ∈ cs) (hb : b ∈ cs) (e : a.beg = b.beg) : a = b := by
  obtain ⟨i, hi, rfl⟩ := mem_nthC ha
  obtain ⟨j, hj, rfl⟩ := mem_nthC hb
  rw [h.begs hi hj e]

theorem lin_whole {ks : List Int} {cs : List Cl} (hg : GoodH ks cs) (hl : cs.length ≤ 24) (h : ∀ i, i < ks.length → LinH ks (partC i cs)) : LinH ks cs := by
  refine ⟨⟨hg, hl⟩, ?_⟩
  have hx : ∀ i, ∃ o, i < ks.length → OrdC (startP ks) (partC i cs) o := fun i => by
    by_cases hi : i < ks.length
    · obtain ⟨-, o, ho⟩ := h i hi
      exact ⟨o, fun _ => ho⟩
    · exact ⟨[], fun e => absurd e hi⟩
  obtain ⟨oc, hoc⟩ := Classical.axiomOfChoice hx
  obtain ⟨L, hL⟩ : ∃ L, ((List.range ks.length).flatMap fun i => annot 0 (oc i)) = L := ⟨_, rfl⟩
  obtain ⟨M, hM⟩ : ∃ M, L.mergeSort (fun a b => decide (a.1 ≤ b.1)) = M := ⟨_, rfl⟩
  have tr : ∀ a b c : Int × Cl, decide (a.1 ≤ b.1) = true → decide (b.1 ≤ c.1) = true → decide (a.1 ≤ c.1) = true := fun a b c h1 h2 => by
    rw [decide_eq_true_eq] at h1 h2 ⊢; omega
  have tt : ∀ a b : Int × Cl, (decide (a.1 ≤ b.1) || decide (b.1 ≤ a.1)) = true := fun a b => by
    rw [Bool.or_eq_true, decide_eq_true_eq, decide_eq_true_eq]; omega
  have hperm : M.Perm L := by rw [← hM]; exact List.mergeSort_perm L _
  have hsort : M.Pairwise fun a b => a.1 ≤ b.1 := by
    rw [← hM]
    exact (List.pairwise_mergeSort tr tt L).imp fun {a b} h => of_decide_eq_true h
  have hpm : ∀ i, i < ks.length → ∀ c ∈ oc i, c ∈ cs ∧ c.cont = (i : Int) := fun i hi c hc => by
    have := List.mem_filter.1 ((hoc i hi).sub c hc)
    exact ⟨this.1, of_decide_eq_true this.2⟩
  have hmemL : ∀ x ∈ L, ∃ i, i < ks.length ∧ x ∈ annot 0 (oc i) ∧ x.2 ∈ oc i := fun x hx => by
    rw [← hL] at hx
    obtain ⟨i, hi, hx⟩ := List.mem_flatMap.1 hx
    refine ⟨i, List.mem_range.1 hi, hx, ?_⟩
    have := List.mem_map_of_mem (f := (·.2)) hx
    rwa [annot_snd] at this
  have hin : ∀ x ∈ L, x.2.beg ≤ x.1 ∧ (x.2.till ≠ -1 → x.1 ≤ x.2.till) := fun x hx => by
    obtain ⟨i, hi, h1, h2⟩ := hmemL x hx
    refine annot_in (oc i) 0 (fun c hc ht => ?_) (hoc i hi).pair x h1
    have h3 := hg.each c (hpm i hi c hc).1
    have h4 := good_beg h3
    have h5 := h3.2.2 ht
    omega
  have hneq : L.Pairwise fun a b => a.2.beg ≠ b.2.beg := by
    rw [← hL]
    refine List.pairwise_flatMap.2 ⟨fun i hi => ?_, ?_⟩
    · have h1 := (hoc i (List.mem_range.1 hi)).pair
      rw [← annot_snd (oc i) 0, map_pair] at h1
      exact h1.imp fun h => h.1
    · refine List.nodup_range.imp_of_mem fun {i j} hi hj hne x hx y hy e => ?_
      have h1 : x.2 ∈ oc i := by
        have := List.mem_map_of_mem (f := (·.2)) hx
        rwa [annot_snd] at this
      have h2 : y.2 ∈ oc j := by
        have := List.mem_map_of_mem (f := (·.2)) hy
        rwa [annot_snd] at this
      obtain ⟨a1, a2⟩ := hpm i (List.mem_range.1 hi) _ h1
      obtain ⟨b1, b2⟩ := hpm j (List.mem_range.1 hj) _ h2
      have := hg.begC a1 b1 e
      rw [this, b2] at a2
      exact hne (by omega)
  have hneM : M.Pairwise fun a b => a.2.beg ≠ b.2.beg := (hperm.pairwise_iff fun {a b} h e => h e.symm).2 hneq
  have hLs : L.map (·.2) = (List.range ks.length).flatMap oc := by
    rw [← hL, List.map_flatMap]
    congr 1
    funext i
    exact annot_snd _ _
  refine ⟨M.map (·.2), fun c hc => ?_, fun c hc ht => ?_, ?_, ?_⟩
  · obtain ⟨x, hx, rfl⟩ := List.mem_map.1 hc
    obtain ⟨i, hi, -, h2⟩ := hmemL x (hperm.mem_iff.1 hx)
    exact (hpm i hi _ h2).1
  · have h9 := good_beg (hg.each c hc)
    have hi : c.cont.toNat < ks.length := by omega
    have h1 : c ∈ oc c.cont.toNat := (hoc _ hi).ended c (List.mem_filter.2 ⟨hc, decide_eq_true (by omega)⟩) ht
    have h2 : c ∈ L.map (·.2) := by rw [hLs]; exact List.mem_flatMap.2 ⟨_, List.mem_range.2 hi, h1⟩
    exact (hperm.map (·.2)).mem_iff.2 h2
  · rw [map_pair]
    refine (hsort.and hneM).imp_of_mem fun {a b} ha hb hab => ⟨hab.2, ?_⟩
    cases hh : aheadC b.2 a.2 with
    | false => rfl
    | true =>
      exfalso
      unfold aheadC at hh
      rw [Bool.and_eq_true, decide_eq_true_eq, decide_eq_true_eq] at hh
      have h1 := (hin a (hperm.mem_iff.1 ha)).1
      have h2 := (hin b (hperm.mem_iff.1 hb)).2 (by omega)
      have := hab.1
      omega
  · have hsl : (startP ks).length = ks.length := by simp [startP]
    refine (fold_parts _ (startP ks) fun c hc => ?_).2 fun i hi => ?_
    · obtain ⟨x, hx, rfl⟩ := List.mem_map.1 hc
      obtain ⟨i, hi, -, h2⟩ := hmemL x (hperm.mem_iff.1 hx)
      exact cont_of hg (hpm i hi _ h2).1
    · rw [hsl] at hi
      have hself : partC i (oc i) = oc i := by
        unfold partC
        exact List.filter_eq_self.2 fun c hc => decide_eq_true (hpm i hi c hc).2
      have hsub : (oc i).Sublist (M.map (·.2)) := by
        have h1 : (annot 0 (oc i)).Sublist L := by
          rw [← hL]
          exact flat_sub (f := fun i => annot 0 (oc i)) (List.mem_range.2 hi)
        have h2 : (annot 0 (oc i)).Sublist M := by
          rw [← hM]
          exact List.sublist_mergeSort tr tt ((annot_sorted (oc i) 0).imp fun {a b} h => decide_eq_true h) h1
        have h3 := h2.map (·.2)
        rwa [annot_snd] at h3
      have hsub2 : (oc i).Sublist (partC i (M.map (·.2))) := by
        have := hsub.filter (atC i)
        rwa [show (oc i).filter (atC i) = oc i from hself] at this
      have hlen : (partC i (M.map (·.2))).length = (oc i).length := by
        have h1 : (partC i (M.map (·.2))).Perm (partC i (L.map (·.2))) := (hperm.map fun x : Int × Cl => x.2).filter (atC i)
        rw [h1.length_eq, hLs]
        unfold partC
        rw [List.filter_flatMap]
        have h2 : ((List.range ks.length).flatMap fun j => (oc j).filter (atC i)) = (List.range ks.length).flatMap fun j => if j = i then oc j else [] := by
          refine flat_congr fun j hj => ?_
          by_cases e : j = i
          · rw [if_pos e, e]; exact hself
          · rw [if_neg e]
            refine List.filter_eq_nil_iff.2 fun c hc h3 => ?_
            have h4 := (hpm j (List.mem_range.1 hj) c hc).2
            have h5 := of_decide_eq_true h3
            omega
        rw [h2, pick_flat, if_pos hi]
      have heq : oc i = partC i (M.map (·.2)) := hsub2.eq_of_length (by omega)
      rw [← heq]
      have h6 := (fold_parts (oc i) (startP ks) fun c hc => cont_of hg (hpm i hi c hc).1).1 (hoc i hi).run i (by rw [hsl]; exact hi)
      rwa [hself] at h6

end Go.Proofs.YtoolpifkfgileaaDoor

/-
  In plain: calls one after the other.
-/
namespace Go.Proofs.YtoolpifkfgileaaDoor
open Go Go.RowKit Own

/-- calls one after the other, one container -/
structure InRow (k : Int) (cs : List Cl) : Prop where
  kind : kindB k = true
  each : ∀ i, i < cs.length → (nthC cs i).hart = (i : Int) % 3 ∧ (nthC cs i).cont = 0 ∧ kindOf (nthC cs i).op = k ∧ (nthC cs i).beg = 2 * (i : Int) ∧ (nthC cs i).till = 2 * (i : Int) + 1

theorem InRow.good {k : Int} {cs : List Cl} (h : InRow k cs) : GoodH [k] cs := by
  refine ⟨by unfold kindsB; simp [h.kind], fun c hc => ?_, ?_⟩
  · obtain ⟨i, hi, rfl⟩ := mem_nthC hc
    obtain ⟨h1, h2, h3, h4, h5⟩ := h.each i hi
    refine ⟨decide_eq_true ⟨by omega, by omega, by omega, by rw [h2]; show (0 : Int) < ((1 : Nat) : Int); decide, by rw [h2, h3]; rfl, by omega⟩, fun e => by omega, fun _ => by omega⟩
  · rw [List.pairwise_iff_getElem]
    intro i j hi hj hij
    have hi' := h.each i hi
    have hj' := h.each j hj
    rw [nthC_eq hi] at hi'
    rw [nthC_eq hj] at hj'
    obtain ⟨a1, a2, a3, a4, a5⟩ := hi'
    obtain ⟨b1, b2, b3, b4, b5⟩ := hj'
    exact ⟨by omega, fun _ => by omega, fun _ => by omega, fun _ _ => by omega, fun _ => ⟨by omega, by omega⟩⟩

theorem range_of : ∀ (N s : Nat) (o : List Nat), o.Pairwise (· < ·) → (∀ n ∈ o, s ≤ n ∧ n < s + N) → (∀ k, s ≤ k → k < s + N → k ∈ o) → o = List.range' s N
  | 0, s, [], _, _, _ => rfl
  | 0, s, a :: o, _, h, _ => absurd (h a List.mem_cons_self) (by omega)
  | N + 1, s, [], _, _, h => absurd (h s (Nat.le_refl _) (by omega)) (by simp)
  | N + 1, s, a :: o, hp, h1, h2 => by
    obtain ⟨p1, p2⟩ := List.pairwise_cons.1 hp
    have ha := h1 a List.mem_cons_self
    have e : a = s := by
      rcases List.mem_cons.1 (h2 s (Nat.le_refl _) (by omega)) with e | e
      · exact e.symm
      · have := p1 s e; omega
    subst e
    rw [List.range'_succ, range_of N (a + 1) o p2 (fun n hn => by
      have := p1 n hn
      have := h1 n (List.mem_cons_of_mem _ hn)
      omega) fun k hk hk2 => by
      rcases List.mem_cons.1 (h2 k (by omega) (by omega)) with e | e
      · omega
      · exact e]

theorem row_order {k : Int} {cs : List Cl} {h0 : List (Int × List Int)} {o : List Nat} (h : InRow k cs) (ho : OrdI cs 0 h0 o) : o = List.range cs.length := by
  rw [List.range_eq_range']
  refine range_of _ _ o ?_ (fun n hn => ⟨Nat.zero_le _, by have := ho.lt n hn; omega⟩) fun j _ hj => ?_
  · refine (ho.nodup.and ho.pair).imp_of_mem fun {a b} ha hb hab => ?_
    have h1 := h.each a (ho.lt a ha)
    have h2 := h.each b (ho.lt b hb)
    have h3 := hab.2
    unfold aheadB at h3
    rw [decide_eq_true (by omega), Bool.true_and, decide_eq_false_iff_not] at h3
    have h4 : a ≠ b := hab.1
    omega
  · rcases ho.ended j (by omega) (by have := h.each j (by omega); omega) with h1 | h1
    · rw [Nat.zero_testBit] at h1; cases h1
    · exact h1

theorem map_range (cs : List Cl) : (List.range cs.length).map (nthC cs) = cs := by
  apply List.ext_getElem
  · simp
  · intro i h1 h2
    rw [List.getElem_map, List.getElem_range, nthC_eq h2]

theorem row_ord {k : Int} {cs : List Cl} {h0 : List (Int × List Int)} (h : InRow k cs) (hr : (foldC h0 cs).isSome = true) : OrdI cs 0 h0 (List.range cs.length) := by
  refine ⟨fun n hn => List.mem_range.1 hn, List.nodup_range, fun n _ => Nat.zero_testBit n, ?_, fun j hj _ => .inr (List.mem_range.2 hj), by rw [map_range]; exact hr⟩
  refine List.pairwise_lt_range.imp_of_mem fun {a b} ha hb hab => ?_
  have h1 := h.each a (List.mem_range.1 ha)
  have h2 := h.each b (List.mem_range.1 hb)
  unfold aheadB
  rw [decide_eq_false (p := (nthC cs b).till < (nthC cs a).beg) (by omega), Bool.and_false]

/-- what the statement reckons: the content, and whether each call may end so -/
def stS (s : (Int × List Int) × Bool) (c : Cl) : (Int × List Int) × Bool :=
  (((mayR s.1.1 c.op s.1.2 c.arg c.value c.code).kind, (mayR s.1.1 c.op s.1.2 c.arg c.value c.code).items), s.2 && (mayR s.1.1 c.op s.1.2 c.arg c.value c.code).ok)
def stAll (k : Int) (cs : List Cl) : (Int × List Int) × Bool := cs.foldl stS ((k, []), true)

theorem foldl_false : ∀ (cs : List Cl) (e : Int × List Int), (cs.foldl stS (e, false)).2 = false
  | [], _ => rfl
  | c :: cs, e => by
    rw [List.foldl_cons]
    exact foldl_false cs _
theorem fold_st : ∀ (cs : List Cl) (e : Int × List Int), (∀ c ∈ cs, c.cont = 0 ∧ c.till ≠ -1) → foldC [e] cs = if (cs.foldl stS (e, true)).2 = true then some [(cs.foldl stS (e, true)).1] else none
  | [], e, _ => rfl
  | c :: cs, e, h => by
    obtain ⟨h1, h2⟩ := h c List.mem_cons_self
    rw [List.foldl_cons]
    unfold foldC stepC step1
    rw [if_neg h2, h1]
    have e1 : nthK [e] (0 : Int).toNat = e := rfl
    rw [e1]
    unfold stS
    dsimp only
    cases hok : (mayR e.1 c.op e.2 c.arg c.value c.code).ok with
    | true =>
      rw [if_pos rfl, Bool.true_and]
      exact fold_st cs _ fun x hx => h x (List.mem_cons_of_mem _ hx)
    | false =>
      rw [if_neg Bool.false_ne_true, Bool.true_and]
      show none = _
      have := foldl_false cs ((mayR e.1 c.op e.2 c.arg c.value c.code).kind, (mayR e.1 c.op e.2 c.arg c.value c.code).items)
      unfold stS at this
      rw [this, if_neg Bool.false_ne_true]

theorem row_fold {k : Int} {cs : List Cl} (h : InRow k cs) : foldC (startP [k]) cs = if (stAll k cs).2 = true then some [(stAll k cs).1] else none :=
  fold_st cs (k, []) fun c hc => by
    obtain ⟨i, hi, rfl⟩ := mem_nthC hc
    have := h.each i hi
    exact ⟨this.2.1, by omega⟩

theorem row_lin {k : Int} {cs : List Cl} (h : InRow k cs) (hl : cs.length ≤ 24) : LinH [k] cs ↔ (stAll k cs).2 = true := by
  have hf := row_fold h
  constructor
  · rintro ⟨-, oc, ho⟩
    obtain ⟨o, h1, -⟩ := ho.nums h.good
    have h2 := h1.run
    rw [row_order h h1, map_range] at h2
    have h3 : startP [k] = [k].map fun k => (k, []) := rfl
    rw [← h3, hf] at h2
    by_cases e : (stAll k cs).2 = true
    · exact e
    · rw [if_neg e] at h2; cases h2
  · intro e
    rw [if_pos e] at hf
    exact ⟨⟨h.good, hl⟩, _, (row_ord h (h0 := [k].map fun k => (k, [])) (by
      have h3 : startP [k] = [k].map fun k => (k, []) := rfl
      rw [← h3, hf]; rfl)).calls h.good⟩

/-- the next call -/
theorem InRow.snoc {k : Int} {cs : List Cl} {c : Cl} (h : InRow k cs) (hc : c.hart = (cs.length : Int) % 3 ∧ c.cont = 0 ∧ kindOf c.op = k ∧ c.beg = 2 * (cs.length : Int) ∧ c.till = 2 * (cs.length : Int) + 1) : InRow k (cs ++ [c]) := by
  refine ⟨h.kind, fun i hi => ?_⟩
  rw [List.length_append] at hi
  by_cases e : i < cs.length
  · have : nthC (cs ++ [c]) i = nthC cs i := by
      unfold nthC
      rw [List.getD_eq_getElem?_getD, List.getD_eq_getElem?_getD, List.getElem?_append_left e]
    rw [this]
    exact h.each i e
  · have e2 : i = cs.length := by simp at hi; omega
    subst e2
    have : nthC (cs ++ [c]) cs.length = c := by
      unfold nthC
      rw [List.getD_eq_getElem?_getD, List.getElem?_append_right (Nat.le_refl _)]
      simp
    rw [this]
    exact hc
theorem stAll_snoc (k : Int) (cs : List Cl) (c : Cl) : stAll k (cs ++ [c]) = stS (stAll k cs) c := by
  unfold stAll
  rw [List.foldl_append]
  rfl

end Go.Proofs.YtoolpifkfgileaaDoor

/-
  A region that draws its order and puts something at the end of a row that is its caller's own: one block and one row are set aside. No program in sight.
-/
namespace Go.Proofs.YtoolpifkfgileaaDoor
open Go Go.RowKit Own

theorem row_same {w w' : World} {base size : Nat} {T : TypeId} {v : Value} {n : Nat} {xs : List Value} (h : w.ownsRow base T size v n xs) (hb : ∀ b, v.ownBlock = some b → w'.heap[b]? = w.heap[b]?) : w'.ownsRow base T size v n xs := by
  obtain ⟨h0, h1 | ⟨g, cap, cur, h1, h2, h3, h4⟩⟩ := h
  · exact ⟨h0, .inl h1⟩
  · exact ⟨h0, .inr ⟨g, cap, cur, h1, h2, (hb g (by rw [h1]; rfl)).trans h3, h4⟩⟩

def aside2 (n m : Nat) (x : Obj) (base : Nat) (T : TypeId) (size : Nat) (v : Value) (k : Nat) (xs : List Value) (j : Nat) (w : World) : Prop :=
  if j = n then w.heap[m]? = some x else if j = n + 1 then w.ownsRow base T size v k xs else True
def aside2Fp (n m : Nat) (v : Value) (j b : Nat) : Prop := (j = n ∧ b = m) ∨ (j = n + 1 ∧ v.ownBlock = some b)

theorem wp_own2 {P : Program} {l : List Oper} {Q : Exit → Act → World → Prop} {id : Nat} {a : Act} {w : World} (hm : P.follows .mixedOrders = true)
    (m : Nat) (x : Obj) (hx : w.heap[m]? = some x) (base : Nat) (T : TypeId) (size : Nat) (v : Value) (k : Nat) (xs : List Value) (hrow : w.ownsRow base T size v k xs) (hlt : m < base)
    (D av ea : Nat → List Nat) (keep : List Nat) (hok : okB l.toArray D av ea keep = true) (sp : Nat → Option Loud)
    (hlex : Lex P l.toArray w.drew (fun b => b = m ∨ v.ownBlock = some b) sp av ea (fun a F Fp => Done w.drew (fun b => b = m ∨ v.ownBlock = some b) Q keep a F Fp) l 0 a (aside2 l.length m x base T size v k xs) (aside2Fp l.length m v)) : (Code.region id l.toArray true).wp P Q a w := by
  refine wp_own_lit hm D av ea keep hok sp _ _ _ ?_ ?_ ?_ ?_ hlex
  · intro j hj
    have hj' : j < l.length := by simpa using hj
    funext w'; unfold aside2; rw [if_neg (by omega), if_neg (by omega)]
  · intro j hj
    have hj' : j < l.length := by simpa using hj
    funext b; unfold aside2Fp
    exact propext ⟨fun h => by rcases h with h | h <;> omega, fun h => h.elim⟩
  · intro j hj
    refine ⟨fun w1 w2 _ _ _ h hk => ?_, ?_, fun b hb => ?_⟩
    · unfold aside2 at hk ⊢
      by_cases h1 : j = l.length
      · rw [if_pos h1] at hk ⊢
        rw [← hk]; exact h m (.inl ⟨h1, rfl⟩)
      · rw [if_neg h1] at hk ⊢
        by_cases h2 : j = l.length + 1
        · rw [if_pos h2] at hk ⊢
          exact row_same hk fun b hb => h b (.inr ⟨h2, hb⟩)
        · rw [if_neg h2]; trivial
    · unfold aside2
      by_cases h1 : j = l.length
      · rw [if_pos h1]; exact hx
      · rw [if_neg h1]
        by_cases h2 : j = l.length + 1
        · rw [if_pos h2]; exact hrow
        · rw [if_neg h2]; trivial
    · rcases hb with ⟨_, hb⟩ | ⟨_, hb⟩
      · refine ⟨?_, .inl hb⟩
        rw [hb]
        rcases Nat.lt_or_ge m w.heap.size with h' | h'
        · exact h'
        · rw [Array.getElem?_eq_none h'] at hx; cases hx
      · exact ⟨(hrow.lt b hb).2, .inr hb⟩
  · intro i j _ _ hij b h1 h2
    rcases h1 with ⟨a1, a2⟩ | ⟨a1, a2⟩ <;> rcases h2 with ⟨b1, b2⟩ | ⟨b1, b2⟩
    · omega
    · have := (hrow.lt b b2).1; omega
    · have := (hrow.lt b a2).1; omega
    · omega

/-- a row of one's own, behind an append -/
def sRow (base : Nat) (T : TypeId) (size n : Nat) (xs : List Value) : Loud := { val := fun _ g => .slice g.p n g.c, fp := fun _ g => Of g.p, post := fun _ g w => w.ownsRow base T size (.slice g.p n g.c) n xs }
theorem own_of {p : Option Addr} {n c b : Nat} : (Value.slice p n c).ownBlock = some b ↔ Of p b := by
  cases p with
  | none => exact ⟨fun h => by simp [Value.ownBlock] at h, fun ⟨a, h, _⟩ => by cases h⟩
  | some a => exact ⟨fun h => ⟨a, rfl, by simpa [Value.ownBlock] using h.symm⟩, fun ⟨a', h1, h2⟩ => by cases h1; rw [h2]; rfl⟩

theorem loud_appendR {P : Program} {w0 : World} {M : Nat → Prop} {o : Oper} {a : Act} {av ea : List Nat} {F : Nat → World → Prop} {Fp : Nat → Nat → Prop} (base : Nat) (T t : TypeId) (i0 : TypeInfo) (z : Value) (size bytes : Nat)
    (ht : P.underlying t = some (.slice T)) (hi : P.info? T = some i0) (hz : i0.zero = some z) (hsize : i0.size = size) (hby : i0.bytes = bytes) (hzs : z.cells.size = size) (hsz : 0 < size)
    (x y : Operand) (ho : o.op = .call { callee := .builtin .append, args := #[x, y], argTypes := #[t, t] }) (v : Value) (n : Nat) (xs : List Value) (b2 : Nat) (news : List Value)
    (hx : a.eval x = v) (hy : a.eval y = .slice (some ⟨b2, 0, none⟩) 1 1) (hl : news.length = size) (h1 : ∀ u ∈ news, u.oneCell' = true) (hn : n + 1 ≤ maxLen) (hb : (n + 1) * bytes ≤ 140737488355328) (hbase : base ≤ w0.heap.size)
    (j1 : Nat) (hj1a : j1 ∈ av) (hj1e : j1 ∈ ea) (hF1 : ∀ w, F j1 w → w.ownsRow base T size v n xs) (hp1 : ∀ b, v.ownBlock = some b → Fp j1 b)
    (j2 : Nat) (hj2a : j2 ∈ av) (hF2 : ∀ w, F j2 w → w.heap[b2]? = some (.cells news.toArray T (0, 0))) : LoudOk P w0 M o a (sRow base T size (n + 1) (xs ++ news)) av ea F Fp := by
  refine loud_run ⟨default, trivial⟩ (fun g _ w w' _ _ _ h k => row_same k fun b hb => h b (own_of.1 hb)) fun w hw hav _ => ?_
  have hrow := hF1 w (hav j1 hj1a).1
  have hsrc := hF2 w (hav j2 hj2a).1
  obtain ⟨v', w', r1, r2, r3, -, r5⟩ := run_append_own_at (P := P) (w := w) base t o.type T i0 z size bytes ht hi hz hsize hby hzs hsz v n xs hrow ⟨b2, 0, none⟩ 1 1 news (by rw [hl]; omega)
    (fun j u hj => by
      have e : (⟨b2, 0, none⟩ : Addr).add j = ⟨b2, 0 + j, none⟩ := by
        unfold Addr.add
        split
        · rename_i h; subst h; rfl
        · rfl
      rw [e, Nat.zero_add]
      simp [World.cell?, hsrc, hj]) h1 hn hb (Nat.le_trans hbase hw.size)
  obtain ⟨p, c, rfl⟩ : ∃ p c, v' = .slice p (n + 1) c := by
    rcases r2.2 with ⟨rfl, h0⟩ | ⟨g, cap, cur, rfl, -⟩
    · exact absurd h0 (by omega)
    · exact ⟨_, _, rfl⟩
  refine ⟨w', { p := p, c := c }, trivial, .inl ?_, KeepBut.grown r3 fun b hb => ⟨j1, hj1e, hp1 b hb⟩, fun b hb => ⟨?_, (r2.lt b (own_of.2 hb)).2⟩, r2⟩
  · unfold execOp
    simp only [ho, resolve, invoke, builtin, Sem.run_bind, Sem.run_pure, Result.andThen_ok, List.map_toArray, List.map_cons, List.map_nil, hx, hy, r1, sRow]
  · have hb' := own_of (n := n + 1) (c := c).2 hb
    rcases r5 with r5 | r5
    · rw [r5] at hb'; exact .inr ⟨j1, hj1e, hp1 b hb'⟩
    · rw [r5] at hb'
      have : w.heap.size = b := Option.some.inj hb'
      exact .inl (by omega)

end Go.Proofs.YtoolpifkfgileaaDoor

/-
  The reference of chapter 19: New, Inserts, Takes, Kind, Check, Same, place.
-/
namespace Go.Proofs.YtoolpifkfgileaaDoor
open Go Go.RowKit Own

theorem refInserts_any (w : World) (op : Int) :
    Calls Tryd.prog 41 #[.int .i64 op] w fun e w' => e = .returned (.bool (insB op)) ∧ w' = w := by
  unfold insB
  cases h1 : (op == 1) <;> cases h3 : (op == 3) <;> cases h5 : (op == 5) <;>
    (go_enter Tryd.func41, Tryd.ntmps41
     go_wp2
     go_ret
     exact ⟨rfl, rfl⟩)

theorem refKind_any (w : World) (op : Int) :
    Calls Tryd.prog 46 #[.int .i64 op] w fun e w' => e = .returned (.int .i64 (kindOf op)) ∧ w' = w := by
  by_cases h1 : op = 1
  · subst h1
    go_enter Tryd.func46, Tryd.ntmps46
    go_wp2
    go_ret
    exact ⟨rfl, rfl⟩
  by_cases h2 : op = 2
  · subst h2
    go_enter Tryd.func46, Tryd.ntmps46
    go_wp2
    go_ret
    exact ⟨rfl, rfl⟩
  by_cases h3 : op = 3
  · subst h3
    go_enter Tryd.func46, Tryd.ntmps46
    go_wp2
    go_ret
    exact ⟨rfl, rfl⟩
  by_cases h4 : op = 4
  · subst h4
    go_enter Tryd.func46, Tryd.ntmps46
    go_wp2
    go_ret
    exact ⟨rfl, rfl⟩
  by_cases h5 : op = 5
  · subst h5
    go_enter Tryd.func46, Tryd.ntmps46
    go_wp2
    go_ret
    exact ⟨rfl, rfl⟩
  by_cases h6 : op = 6
  · subst h6
    go_enter Tryd.func46, Tryd.ntmps46
    go_wp2
    go_ret
    exact ⟨rfl, rfl⟩
  by_cases h7 : op = 7
  · subst h7
    go_enter Tryd.func46, Tryd.ntmps46
    go_wp2
    go_ret
    exact ⟨rfl, rfl⟩
  have e0 := Lib.hid (show kindOf op = 0 by unfold kindOf; rw [if_neg (by omega), if_neg (by omega), if_neg (by omega)])
  have b1 : (op == 1) = false := by simpa using h1
  have b2 : (op == 2) = false := by simpa using h2
  have b3 : (op == 3) = false := by simpa using h3
  have b4 : (op == 4) = false := by simpa using h4
  have b5 : (op == 5) = false := by simpa using h5
  have b6 : (op == 6) = false := by simpa using h6
  have b7 : (op == 7) = false := by simpa using h7
  clear h1 h2 h3 h4 h5 h6 h7
  go_enter Tryd.func46, Tryd.ntmps46
  go_wp2
  go_ret
  exact ⟨ret_int e0.out.symm, rfl⟩

theorem refNew_any (k : Int) (w : World) :
    Calls Tryd.prog 20 #[.int .i64 k] w fun e w' => e = .returned (.tuple #[.agg #[.int .i64 (if kindB k = true then k else 0), .slice none 0 0], .int .i64 (if kindB k = true then 0 else 2)]) ∧ KeepBut (fun _ => False) w w' := by
  by_cases h1 : k < 1
  · have hk : ¬ kindB k = true := fun h => by have := of_decide_eq_true h; omega
    rw [if_neg hk, if_neg hk]
    clear hk
    go_enter Tryd.func20, Tryd.ntmps20
    go_wp2
    refine bodyPost_ret (v := .tuple #[.agg #[.int .i64 0, .slice none 0 0], .int .i64 2]) (by simp [results, Tryd.results20, go_sem]) rfl ⟨rfl, ?_⟩
    exact KeepBut.alloc _ _ _
  · by_cases h3 : 3 < k
    · have hk : ¬ kindB k = true := fun h => by have := of_decide_eq_true h; omega
      rw [if_neg hk, if_neg hk]
      clear hk
      go_enter Tryd.func20, Tryd.ntmps20
      go_wp2
      refine bodyPost_ret (v := .tuple #[.agg #[.int .i64 0, .slice none 0 0], .int .i64 2]) (by simp [results, Tryd.results20, go_sem]) rfl ⟨rfl, ?_⟩
      exact KeepBut.alloc _ _ _
    · have hk : kindB k = true := decide_eq_true (by omega)
      rw [if_pos hk, if_pos hk]
      clear hk
      go_enter Tryd.func20, Tryd.ntmps20
      go_wp2
      refine bodyPost_ret (v := .tuple #[.agg #[.int .i64 k, .slice none 0 0], .int .i64 0]) (by simp [results, Tryd.results20, go_sem]) rfl ⟨rfl, ?_⟩
      exact KeepBut.alloc _ _ _

def thereB (xs : List Int) (i : Nat) (x : Int) : Bool := decide (i < xs.length ∧ nth xs i = x)

set_option maxHeartbeats 4000000 in
theorem place_any (w : World) (p : Option Addr) (c : Nat) (xs : List Int) (x : Int) (hrd : Rd w p (ints xs)) (hl : xs.length ≤ 1099511627776) :
    Calls Tryd.prog 47 #[.slice p xs.length c, .int .i64 x] w fun e w' => (∃ i : Nat, i ≤ xs.length ∧ (∀ j, j < i → nth xs j < x) ∧ (i < xs.length → x ≤ nth xs i) ∧ e = .returned (.tuple #[.int .i64 i, .bool (thereB xs i x)])) ∧ KeepBut (fun _ => False) w w' := by
  have HR := Lib.hid hrd
  clear hrd
  go_enter Tryd.func47, Tryd.ntmps47
  go_wp2_with fail
  go_loopw [6] (fun v6 wr => wr = w ∧ ∃ i : Nat, i ≤ xs.length ∧ v6 = .int .i64 i ∧ ∀ j, j < i → nth xs j < x) (fun i _ => xs.length - (intOf i).toNat)
  case atStart => exact ⟨rfl, 0, Nat.zero_le _, rfl, fun j h => absurd h (Nat.not_lt_zero j)⟩
  case round =>
    obtain ⟨hw, i, hi, rfl, hb⟩ := hrel
    subst hw
    have HB := Lib.hid hb
    clear hb
    have hi0 : (0 : Int) ≤ i := by omega
    have hWi : IntKind.i64.wrap ((i : Int) + 1) = i + 1 := IntWalk.i64_in _ (by omega)
    by_cases hlt : i < xs.length
    · have hltI : (i : Int) < xs.length := by omega
      obtain ⟨b, o, rfl, _⟩ := HR.out.ptr (by rw [ints_length]; omega)
      have c1 : wr.cell? ⟨b, o + i, none⟩ = some (.int .i64 (nth xs i)) := HR.out.int i hlt
      by_cases hx : nth xs i < x
      · go_wp2_with fail
        refine ⟨⟨by first | rfl | trivial, i + 1, by omega, by simp, fun j hj => ?_⟩, ?_⟩
        · rcases Nat.lt_or_ge j i with h | h
          · exact HB.out j h
          · have : j = i := by omega
            subst this; exact hx
        · simp only [intOf]
          omega
      · have hge : x ≤ nth xs i := by omega
        have HG := Lib.hid hge
        have hdec : ∀ r, (nth xs i == x) = r → thereB xs i x = r := fun r h => by
          rw [← h]
          unfold thereB
          by_cases e : nth xs i = x
          · rw [decide_eq_true ⟨hlt, e⟩, e]; exact (beq_self_eq_true _).symm
          · rw [decide_eq_false fun h => e h.2]; exact (beq_eq_false_iff_ne.2 e).symm
        have HDE := Lib.hid hdec
        clear hdec hge
        go_upto_region 4 with fail
        go_quiet (fail)
        go_wp2_with fail
        go_ret2
        exact ⟨⟨i, hi, HB.out, fun _ => HG.out, congrArg (fun r => Ending.returned (.tuple #[.int .i64 (i : Int), .bool r])) (HDE.out (nth xs i == x) rfl).symm⟩, KeepBut.drewN _ _ _⟩
    · have hge : ¬ (i : Int) < (xs.length : Int) := by omega
      have HDE := Lib.hid (show thereB xs i x = false from decide_eq_false fun h => hlt h.1)
      go_upto_region 4 with fail
      go_quiet (fail)
      go_wp2_with fail
      go_ret2
      exact ⟨⟨i, hi, HB.out, fun h => absurd h hlt, congrArg (fun r => Ending.returned (.tuple #[.int .i64 (i : Int), .bool r])) HDE.out.symm⟩, KeepBut.drewN _ _ _⟩

end Go.Proofs.YtoolpifkfgileaaDoor

/-
  The reference of chapter 19: Check, Same.
-/
namespace Go.Proofs.YtoolpifkfgileaaDoor
open Go Go.RowKit Own

set_option maxHeartbeats 8000000 in
theorem refCheck_any (w : World) (k : Int) (p : Option Addr) (c : Nat) (xs : List Int) (hrd : Rd w p (ints xs)) (hl : xs.length ≤ 1099511627776) :
    Calls Tryd.prog 45 #[.agg #[.int .i64 k, .slice p xs.length c]] w fun e w' => e = .returned (.int .i64 (chk k xs)) ∧ KeepBut (fun _ => False) w w' := by
  obtain ⟨V, B, hV, hB, hb, hkV, -⟩ := fresh_block w (.cells #[.int .i64 k, .slice p xs.length c] 47)
  have HR := Lib.hid (hrd.stay hkV)
  have HK := Lib.hid hkV
  have HB := Lib.hid hb
  have x0 := blk_cell (k := 0) hb rfl
  have x1 := blk_cell (k := 1) hb rfl
  clear hrd hkV hb
  by_cases h1 : k < 1
  · have hc := Lib.hid (chk_no (k := k) (xs := xs) fun h => by have := of_decide_eq_true h.1; omega)
    go_enter Tryd.func45, Tryd.ntmps45
    go_upto_region 1 with fail
    rw [← hV, ← hB]
    clear hV hB
    go_wp2_with fail
    go_ret
    exact ⟨ret_int hc.out.symm, HK.out⟩
  by_cases h3 : 3 < k
  · have hc := Lib.hid (chk_no (k := k) (xs := xs) fun h => by have := of_decide_eq_true h.1; omega)
    go_enter Tryd.func45, Tryd.ntmps45
    go_upto_region 1 with fail
    rw [← hV, ← hB]
    clear hV hB
    go_wp2_with fail
    go_ret
    exact ⟨ret_int hc.out.symm, HK.out⟩
  by_cases h6 : 64 < xs.length
  · have hc := Lib.hid (chk_no (k := k) (xs := xs) fun h => by have := h.2.1; omega)
    have h6i : (64 : Int) < xs.length := by omega
    clear h6
    go_enter Tryd.func45, Tryd.ntmps45
    go_upto_region 1 with fail
    rw [← hV, ← hB]
    clear hV hB
    go_wp2_with fail
    go_ret
    exact ⟨ret_int hc.out.symm, HK.out⟩
  have h6i : ¬ (64 : Int) < xs.length := by omega
  have hkb := Lib.hid (show kindB k = true from decide_eq_true (by omega))
  go_enter Tryd.func45, Tryd.ntmps45
  go_upto_region 1 with fail
  rw [← hV, ← hB]
  clear hV hB
  go_wp2_with fail
  clear x0 x1
  go_loopw [3] (fun v3 wr => KeepBut (fun _ => False) V wr ∧ ∃ i : Nat, 1 ≤ i ∧ (i ≤ xs.length ∨ i = 1) ∧ v3 = .int .i64 i ∧ (k = 3 → ∀ j, j + 1 < i → nth xs j < nth xs (j + 1))) (fun i _ => xs.length - (intOf i).toNat)
  case atStart => exact ⟨KeepBut.refl _ _, 1, Nat.le_refl _, .inr rfl, rfl, fun _ j h => by omega⟩
  case round =>
    obtain ⟨hk, i, hi1, hi2, rfl, hm⟩ := hrel
    have HKr := Lib.hid hk; have HM := Lib.hid hm
    have x0 := blk_cell (k := 0) (hk.blk HB.out) rfl
    have x1 := blk_cell (k := 1) (hk.blk HB.out) rfl
    clear hk hm
    have hi0 : (0 : Int) ≤ i := by omega
    have hWi : IntKind.i64.wrap ((i : Int) + 1) = i + 1 := IntWalk.i64_in _ (by omega)
    by_cases hlt : i < xs.length
    · have hltI : (i : Int) < xs.length := by omega
      by_cases hk3 : k = 3
      · have hrd := HR.out.stay HKr.out
        obtain ⟨b, o, rfl, _⟩ := hrd.ptr (by rw [ints_length]; omega)
        have c1 : wr.cell? ⟨b, o + i, none⟩ = some (.int .i64 (nth xs i)) := hrd.int i hlt
        obtain ⟨j, hj⟩ : ∃ j, i = j + 1 := ⟨i - 1, by omega⟩
        have c2 : wr.cell? ⟨b, o + j, none⟩ = some (.int .i64 (nth xs j)) := hrd.int j (by omega)
        have hWj : IntKind.i64.wrap ((i : Int) - 1) = (j : Int) := by rw [IntWalk.i64_in _ (by omega)]; omega
        have hjlt : (j : Int) < xs.length := by omega
        have hj0 : (0 : Int) ≤ j := by omega
        have hb3 : (k == 3) = true := by simpa using hk3
        have HJ := Lib.hid hj
        have HK3 := Lib.hid hk3
        clear hrd hj hk3
        by_cases hge : nth xs i ≤ nth xs j
        · have hc := Lib.hid (chk_no (k := k) (xs := xs) fun h => by
            have h' := of_decide_eq_true (h.2.2 HK3.out) j (by have := HJ.out; omega) (by have := HJ.out; omega)
            rw [← HJ.out] at h'
            omega)
          go_upto_region 6 with fail
          go_quiet (fail)
          go_wp2_with fail
          go_ret
          exact ⟨ret_int hc.out.symm, (HK.out.trans HKr.out).trans (KeepBut.drewN _ _ _)⟩
        · have HG := Lib.hid hge
          go_upto_region 6 with fail
          go_quiet (fail)
          go_wp2_with fail
          refine ⟨⟨HKr.out.trans (KeepBut.drewN _ _ _), i + 1, by omega, .inl (by omega), by simp, fun h j' hj' => ?_⟩, ?_⟩
          · rcases Nat.lt_or_ge (j' + 1) i with h' | h'
            · exact HM.out h j' h'
            · have e : j' = j := by have := HJ.out; omega
              subst e
              rw [← HJ.out]
              have := HG.out
              omega
          · simp only [intOf]
            omega
      · have hb3 : (k == 3) = false := by simpa using hk3
        have HK3 := Lib.hid hk3
        clear hk3
        go_upto_region 6 with fail
        go_quiet (fail)
        go_wp2_with fail
        refine ⟨⟨HKr.out.trans (KeepBut.drewN _ _ _), i + 1, by omega, .inl (by omega), by simp, fun h => absurd h HK3.out⟩, ?_⟩
        simp only [intOf]
        omega
    · have hge : ¬ (i : Int) < (xs.length : Int) := by omega
      have hc := Lib.hid (chk_ok (k := k) (xs := xs) hkb.out (by omega) fun h => decide_eq_true fun j _ h2 => HM.out h j (by omega))
      go_wp2_with fail
      go_ret
      exact ⟨ret_int hc.out.symm, HK.out.trans HKr.out⟩

theorem list_ne {xs ys : List Int} {i : Nat} (h : nth xs i ≠ nth ys i) : xs ≠ ys := fun e => h (by rw [e])
theorem list_eq {xs ys : List Int} (hl : xs.length = ys.length) (h : ∀ j, j < xs.length → nth xs j = nth ys j) : xs = ys := by
  apply List.ext_getElem hl
  intro j h1 h2
  have := h j h1
  rwa [nth_eq h1, nth_eq h2] at this

end Go.Proofs.YtoolpifkfgileaaDoor

/-
  The reference of chapter 19: digits, Key.
-/
namespace Go.Proofs.YtoolpifkfgileaaDoor
open Go Go.RowKit Own

/-- a number's text -/
def istr (v : Int) : ByteArray := ⟨(Lib.itoa v).toArray⟩

theorem istr_size (v : Int) (h : In64 v) : (istr v).size ≤ 21 := by
  have := Lib.itoa_length_le v h.1 h.2
  simpa [istr, ByteArray.size] using this

theorem itoa_nn (u : Nat) : Lib.itoa (u : Int) = Lib.decDigits u := Lib.itoa_nonneg u

theorem mk_app (a b : List UInt8) : (⟨a.toArray⟩ : ByteArray) ++ ⟨b.toArray⟩ = ⟨(a ++ b).toArray⟩ := ByteArray.mk_append_mk a b

theorem istr_step (u : Nat) (h : ¬ u < 10) : istr ((u / 10 : Nat) : Int) ++ istr ((u % 10 : Nat) : Int) = istr (u : Int) := by
  unfold istr
  rw [mk_app, itoa_nn, itoa_nn, itoa_nn, Lib.decDigits_one (Nat.mod_lt u (by decide))]
  conv => rhs; rw [Lib.decDigits, dif_neg h]

theorem istr_neg (u : Nat) (h : 1 ≤ u) : (⟨#[45]⟩ : ByteArray) ++ istr (u : Int) = istr (-(u : Int)) := by
  unfold istr
  rw [Lib.itoa_neg u h, itoa_nn]
  exact mk_app [45] _

theorem istr_step_neg (u : Nat) (h : ¬ u < 10) : istr (-((u / 10 : Nat) : Int)) ++ istr ((u % 10 : Nat) : Int) = istr (-(u : Int)) := by
  have h1 : 1 ≤ u / 10 := by omega
  rw [← istr_neg (u / 10) h1, ← istr_neg u (by omega), ← istr_step u h]
  unfold istr
  rw [show (⟨#[45]⟩ : ByteArray) = ⟨[45].toArray⟩ from rfl, mk_app, mk_app, mk_app, mk_app, List.append_assoc]

end Go.Proofs.YtoolpifkfgileaaDoor

/-
  The reference of chapter 19: Key, cut, copied.
-/
namespace Go.Proofs.YtoolpifkfgileaaDoor
open Go Go.RowKit Own

/-- the text of a content's first items -/
def kstr (k : Int) (xs : List Int) (i : Nat) : ByteArray := ⟨(keyB k (xs.take i)).toArray⟩

theorem kstr_size (k : Int) (xs : List Int) (i : Nat) (hk : In64 k) (hx : ∀ z ∈ xs, In64 z) (hl : xs.length ≤ 1000000) : (kstr k xs i).size ≤ 22000021 := by
  have := keyB_length_le k (xs.take i) hk fun z h => hx z (List.mem_of_mem_take h)
  rw [List.length_take] at this
  have e : (kstr k xs i).size = (keyB k (xs.take i)).length := by simp [kstr, ByteArray.size]
  omega

theorem kstr_zero (k : Int) (xs : List Int) : kstr k xs 0 = istr k := by simp [kstr, istr, keyB]

theorem kstr_step (k : Int) (xs : List Int) (i : Nat) (h : i < xs.length) : (kstr k xs i ++ (⟨#[32]⟩ : ByteArray)) ++ istr (nth xs i) = kstr k xs (i + 1) := by
  unfold kstr istr
  rw [keyB_snoc k xs i h, show (⟨#[32]⟩ : ByteArray) = ⟨[32].toArray⟩ from rfl, mk_app, mk_app]

end Go.Proofs.YtoolpifkfgileaaDoor

/-
  The chapter's examples.
-/
namespace Go.Proofs.YtoolpifkfgileaaDoor
open Go Go.RowKit Own

end Go.Proofs.YtoolpifkfgileaaDoor
