/-
  In plain: a history is linear exactly if each of its parts is.
-/
import Derived.Test.YtoolpifkfgileaaDoorHp3
namespace Go.Proofs.YtoolpifkfgileaaDoor
open Go Go.RowKit Own

def run1 : Int × List Int → List Cl → Option (Int × List Int)
  | e, [] => some e
  | e, c :: o => match step1 e c with | some e' => run1 e' o | none => none
def atC (i : Nat) (c : Cl) : Bool := decide (c.cont = (i : Int))
def partC (i : Nat) (cs : List Cl) : List Cl := cs.filter (atC i)

theorem nthK_set {h : List (Int × List Int)} {m i : Nat} {e : Int × List Int} (hm : m < h.length) : nthK (h.set m e) i = if i = m then e else nthK h i := by
  unfold nthK
  rw [List.getD_eq_getElem?_getD, List.getD_eq_getElem?_getD, List.getElem?_set]
  by_cases h1 : m = i
  · subst h1; simp [hm]
  · have : ¬ i = m := fun e => h1 e.symm
    simp [h1, this]

theorem fold_parts : ∀ (o : List Cl) (h : List (Int × List Int)), (∀ c ∈ o, 0 ≤ c.cont ∧ c.cont.toNat < h.length) →
    ((foldC h o).isSome = true ↔ ∀ i, i < h.length → (run1 (nthK h i) (partC i o)).isSome = true)
  | [], h, _ => by simp [foldC, partC, run1]
  | c :: o, h, hc => by
    obtain ⟨hc0, hc1⟩ := hc c List.mem_cons_self
    obtain ⟨m, hm⟩ : ∃ m : Nat, c.cont = m := ⟨c.cont.toNat, by omega⟩
    have hmt : c.cont.toNat = m := by omega
    have hml : m < h.length := by omega
    have hpart : ∀ i, partC i (c :: o) = if i = m then c :: partC i o else partC i o := fun i => by
      unfold partC
      rw [List.filter_cons]
      by_cases e : i = m
      · have : atC i c = true := decide_eq_true (by omega)
        rw [if_pos e, if_pos this]
      · have : ¬ atC i c = true := by unfold atC; rw [decide_eq_true_eq]; omega
        rw [if_neg e, if_neg this]
    unfold foldC stepC
    rw [hmt]
    cases hs : step1 (nthK h m) c with
    | none =>
      constructor
      · intro hx; cases hx
      · intro hx
        have := hx m hml
        rw [hpart, if_pos rfl] at this
        unfold run1 at this
        rw [hs] at this
        cases this
    | some e =>
      have ih := fold_parts o (h.set m e) fun x hx => by rw [List.length_set]; exact hc x (List.mem_cons_of_mem _ hx)
      show (foldC (h.set m e) o).isSome = true ↔ _
      rw [ih, List.length_set]
      refine forall_congr' fun i => imp_congr_right fun hi => ?_
      rw [hpart, nthK_set hml]
      by_cases e1 : i = m
      · rw [if_pos e1, if_pos e1, e1]
        conv => rhs; unfold run1
        rw [hs]
      · rw [if_neg e1, if_neg e1]

theorem nth_start {ks : List Int} {i : Nat} (hi : i < ks.length) : nthK (startP ks) i = (ks[i], []) := by
  unfold nthK startP
  rw [List.getD_eq_getElem?_getD, List.getElem?_map, List.getElem?_eq_getElem hi]
  rfl

theorem good_part {ks : List Int} {cs : List Cl} (h : GoodH ks cs) (i : Nat) : GoodH ks (partC i cs) := h.sub List.filter_sublist
theorem cont_of {ks : List Int} {cs : List Cl} (h : GoodH ks cs) {c : Cl} (hc : c ∈ cs) : 0 ≤ c.cont ∧ c.cont.toNat < (startP ks).length := by
  have h9 := good_beg (h.each c hc)
  have : (startP ks).length = ks.length := by simp [startP]
  omega

theorem part_twice (i j : Nat) (o : List Cl) : partC j (partC i o) = if j = i then partC i o else [] := by
  unfold partC
  rw [List.filter_filter]
  by_cases e : j = i
  · subst e
    rw [if_pos rfl]
    congr 1
    funext c
    exact Bool.and_self _
  · rw [if_neg e]
    refine List.filter_eq_nil_iff.2 fun c _ h => ?_
    rw [Bool.and_eq_true] at h
    have h1 := of_decide_eq_true h.1
    have h2 := of_decide_eq_true h.2
    omega

theorem lin_part {ks : List Int} {cs : List Cl} (h : LinH ks cs) (i : Nat) : LinH ks (partC i cs) := by
  obtain ⟨⟨hg, hl⟩, o, ho⟩ := h
  have hfp := (fold_parts o (startP ks) fun c hc => cont_of hg (ho.sub c hc)).1 ho.run
  refine ⟨⟨good_part hg i, Nat.le_trans (List.length_filter_le _ _) hl⟩, partC i o, fun c hc => ?_, fun c hc ht => ?_, ho.pair.filter _, ?_⟩
  · have := List.mem_filter.1 hc
    exact List.mem_filter.2 ⟨ho.sub c this.1, this.2⟩
  · have := List.mem_filter.1 hc
    exact List.mem_filter.2 ⟨ho.ended c this.1 ht, this.2⟩
  · refine (fold_parts _ (startP ks) fun c hc => cont_of hg (ho.sub c (List.mem_filter.1 hc).1)).2 fun j hj => ?_
    show (run1 (nthK (startP ks) j) (partC j (partC i o))).isSome = true
    rw [part_twice]
    split
    · rename_i e; subst e; exact hfp j hj
    · rfl

/-- an order, each call with a time at which it may be done -/
def annot : Int → List Cl → List (Int × Cl)
  | _, [] => []
  | m, c :: o => (max m c.beg, c) :: annot (max m c.beg) o
theorem annot_snd : ∀ (o : List Cl) (m : Int), (annot m o).map (·.2) = o
  | [], _ => rfl
  | c :: o, m => by unfold annot; rw [List.map_cons, annot_snd o]
theorem annot_ge : ∀ (o : List Cl) (m : Int), ∀ x ∈ annot m o, m ≤ x.1
  | [], _, x, hx => by cases hx
  | c :: o, m, x, hx => by
    unfold annot at hx
    rcases List.mem_cons.1 hx with e | hx
    · rw [e]; exact Int.le_max_left _ _
    · have := annot_ge o _ x hx
      have h1 := Int.le_max_left m c.beg
      omega
theorem annot_sorted : ∀ (o : List Cl) (m : Int), (annot m o).Pairwise fun a b => a.1 ≤ b.1
  | [], _ => List.Pairwise.nil
  | c :: o, m => by
    unfold annot
    exact List.pairwise_cons.2 ⟨fun x hx => annot_ge o _ x hx, annot_sorted o _⟩
theorem annot_in : ∀ (o : List Cl) (m : Int), (∀ c ∈ o, c.till ≠ -1 → 0 ≤ c.till ∧ c.beg ≤ c.till ∧ m ≤ c.till) → (o.Pairwise fun a b => a.beg ≠ b.beg ∧ aheadC b a = false) →
    ∀ x ∈ annot m o, x.2.beg ≤ x.1 ∧ (x.2.till ≠ -1 → x.1 ≤ x.2.till)
  | [], _, _, _, x, hx => by cases hx
  | c :: o, m, h, hp, x, hx => by
    obtain ⟨hp1, hp2⟩ := List.pairwise_cons.1 hp
    unfold annot at hx
    rcases List.mem_cons.1 hx with e | hx
    · rw [e]
      refine ⟨Int.le_max_right _ _, fun ht => ?_⟩
      have := h c List.mem_cons_self ht
      exact Int.max_le.2 ⟨this.2.2, this.2.1⟩
    · refine annot_in o _ (fun b hb ht => ?_) hp2 x hx
      obtain ⟨h1, h2, h3⟩ := h b (List.mem_cons_of_mem _ hb) ht
      refine ⟨h1, h2, Int.max_le.2 ⟨h3, ?_⟩⟩
      have h4 := (hp1 b hb).2
      unfold aheadC at h4
      rw [decide_eq_true h1, Bool.true_and, decide_eq_false_iff_not] at h4
      omega

theorem flat_sub {α : Type} {f : Nat → List α} {i : Nat} : ∀ {l : List Nat}, i ∈ l → (f i).Sublist (l.flatMap f)
  | j :: l, h => by
    rw [List.flatMap_cons]
    rcases List.mem_cons.1 h with e | h
    · rw [e]; exact List.sublist_append_left _ _
    · exact (flat_sub h).trans (List.sublist_append_right _ _)
theorem flat_congr {α : Type} {f g : Nat → List α} : ∀ {l : List Nat}, (∀ i ∈ l, f i = g i) → l.flatMap f = l.flatMap g
  | [], _ => rfl
  | j :: l, h => by rw [List.flatMap_cons, List.flatMap_cons, h j List.mem_cons_self, flat_congr fun i hi => h i (List.mem_cons_of_mem _ hi)]

theorem pick_flat {α : Type} (f : Nat → List α) (i : Nat) : ∀ K, ((List.range K).flatMap fun j => if j = i then f j else []) = if i < K then f i else []
  | 0 => by simp
  | K + 1 => by
    rw [List.range_succ, List.flatMap_append, pick_flat f i K, List.flatMap_cons, List.flatMap_nil, List.append_nil]
    by_cases h1 : i < K
    · rw [if_pos h1, if_neg (by omega), if_pos (by omega), List.append_nil]
    · rw [if_neg h1, List.nil_append]
      by_cases h2 : K = i
      · rw [if_pos h2, if_pos (by omega), h2]
      · rw [if_neg h2, if_neg (by omega)]

theorem GoodH.begC {ks : List Int} {cs : List Cl} (h : GoodH ks cs) {a b : Cl} (ha : a ∈ cs) (hb : b ∈ cs) (e : a.beg = b.beg) : a = b := by
  obtain ⟨i, hi, rfl⟩ := mem_nthC ha
  obtain ⟨j, hj, rfl⟩ := mem_nthC hb
  rw [h.begs hi hj e]

theorem lin_whole {ks : List Int} {cs : List Cl} (hg : GoodH ks cs) (hl : cs.length ≤ 24) (h : ∀ i, i < ks.length → LinH ks (partC i cs)) : LinH ks cs := by
  refine ⟨⟨hg, hl⟩, ?_⟩
  have hx : ∀ i, ∃ o, i < ks.length → OrdC (startP ks) (partC i cs) o := fun i => by
    by_cases hi : i < ks.length
    · obtain ⟨-, o, ho⟩ := h i hi
      exact ⟨o, fun _ => ho⟩
    · exact ⟨[], fun e => absurd e hi⟩
  obtain ⟨oc, hoc⟩ := Classical.axiomOfChoice hx
  obtain ⟨L, hL⟩ : ∃ L, ((List.range ks.length).flatMap fun i => annot 0 (oc i)) = L := ⟨_, rfl⟩
  obtain ⟨M, hM⟩ : ∃ M, L.mergeSort (fun a b => decide (a.1 ≤ b.1)) = M := ⟨_, rfl⟩
  have tr : ∀ a b c : Int × Cl, decide (a.1 ≤ b.1) = true → decide (b.1 ≤ c.1) = true → decide (a.1 ≤ c.1) = true := fun a b c h1 h2 => by
    rw [decide_eq_true_eq] at h1 h2 ⊢; omega
  have tt : ∀ a b : Int × Cl, (decide (a.1 ≤ b.1) || decide (b.1 ≤ a.1)) = true := fun a b => by
    rw [Bool.or_eq_true, decide_eq_true_eq, decide_eq_true_eq]; omega
  have hperm : M.Perm L := by rw [← hM]; exact List.mergeSort_perm L _
  have hsort : M.Pairwise fun a b => a.1 ≤ b.1 := by
    rw [← hM]
    exact (List.pairwise_mergeSort tr tt L).imp fun {a b} h => of_decide_eq_true h
  have hpm : ∀ i, i < ks.length → ∀ c ∈ oc i, c ∈ cs ∧ c.cont = (i : Int) := fun i hi c hc => by
    have := List.mem_filter.1 ((hoc i hi).sub c hc)
    exact ⟨this.1, of_decide_eq_true this.2⟩
  have hmemL : ∀ x ∈ L, ∃ i, i < ks.length ∧ x ∈ annot 0 (oc i) ∧ x.2 ∈ oc i := fun x hx => by
    rw [← hL] at hx
    obtain ⟨i, hi, hx⟩ := List.mem_flatMap.1 hx
    refine ⟨i, List.mem_range.1 hi, hx, ?_⟩
    have := List.mem_map_of_mem (f := (·.2)) hx
    rwa [annot_snd] at this
  have hin : ∀ x ∈ L, x.2.beg ≤ x.1 ∧ (x.2.till ≠ -1 → x.1 ≤ x.2.till) := fun x hx => by
    obtain ⟨i, hi, h1, h2⟩ := hmemL x hx
    refine annot_in (oc i) 0 (fun c hc ht => ?_) (hoc i hi).pair x h1
    have h3 := hg.each c (hpm i hi c hc).1
    have h4 := good_beg h3
    have h5 := h3.2.2 ht
    omega
  have hneq : L.Pairwise fun a b => a.2.beg ≠ b.2.beg := by
    rw [← hL]
    refine List.pairwise_flatMap.2 ⟨fun i hi => ?_, ?_⟩
    · have h1 := (hoc i (List.mem_range.1 hi)).pair
      rw [← annot_snd (oc i) 0, map_pair] at h1
      exact h1.imp fun h => h.1
    · refine List.nodup_range.imp_of_mem fun {i j} hi hj hne x hx y hy e => ?_
      have h1 : x.2 ∈ oc i := by
        have := List.mem_map_of_mem (f := (·.2)) hx
        rwa [annot_snd] at this
      have h2 : y.2 ∈ oc j := by
        have := List.mem_map_of_mem (f := (·.2)) hy
        rwa [annot_snd] at this
      obtain ⟨a1, a2⟩ := hpm i (List.mem_range.1 hi) _ h1
      obtain ⟨b1, b2⟩ := hpm j (List.mem_range.1 hj) _ h2
      have := hg.begC a1 b1 e
      rw [this, b2] at a2
      exact hne (by omega)
  have hneM : M.Pairwise fun a b => a.2.beg ≠ b.2.beg := (hperm.pairwise_iff fun {a b} h e => h e.symm).2 hneq
  have hLs : L.map (·.2) = (List.range ks.length).flatMap oc := by
    rw [← hL, List.map_flatMap]
    congr 1
    funext i
    exact annot_snd _ _
  refine ⟨M.map (·.2), fun c hc => ?_, fun c hc ht => ?_, ?_, ?_⟩
  · obtain ⟨x, hx, rfl⟩ := List.mem_map.1 hc
    obtain ⟨i, hi, -, h2⟩ := hmemL x (hperm.mem_iff.1 hx)
    exact (hpm i hi _ h2).1
  · have h9 := good_beg (hg.each c hc)
    have hi : c.cont.toNat < ks.length := by omega
    have h1 : c ∈ oc c.cont.toNat := (hoc _ hi).ended c (List.mem_filter.2 ⟨hc, decide_eq_true (by omega)⟩) ht
    have h2 : c ∈ L.map (·.2) := by rw [hLs]; exact List.mem_flatMap.2 ⟨_, List.mem_range.2 hi, h1⟩
    exact (hperm.map (·.2)).mem_iff.2 h2
  · rw [map_pair]
    refine (hsort.and hneM).imp_of_mem fun {a b} ha hb hab => ⟨hab.2, ?_⟩
    cases hh : aheadC b.2 a.2 with
    | false => rfl
    | true =>
      exfalso
      unfold aheadC at hh
      rw [Bool.and_eq_true, decide_eq_true_eq, decide_eq_true_eq] at hh
      have h1 := (hin a (hperm.mem_iff.1 ha)).1
      have h2 := (hin b (hperm.mem_iff.1 hb)).2 (by omega)
      have := hab.1
      omega
  · have hsl : (startP ks).length = ks.length := by simp [startP]
    refine (fold_parts _ (startP ks) fun c hc => ?_).2 fun i hi => ?_
    · obtain ⟨x, hx, rfl⟩ := List.mem_map.1 hc
      obtain ⟨i, hi, -, h2⟩ := hmemL x (hperm.mem_iff.1 hx)
      exact cont_of hg (hpm i hi _ h2).1
    · rw [hsl] at hi
      have hself : partC i (oc i) = oc i := by
        unfold partC
        exact List.filter_eq_self.2 fun c hc => decide_eq_true (hpm i hi c hc).2
      have hsub : (oc i).Sublist (M.map (·.2)) := by
        have h1 : (annot 0 (oc i)).Sublist L := by
          rw [← hL]
          exact flat_sub (f := fun i => annot 0 (oc i)) (List.mem_range.2 hi)
        have h2 : (annot 0 (oc i)).Sublist M := by
          rw [← hM]
          exact List.sublist_mergeSort tr tt ((annot_sorted (oc i) 0).imp fun {a b} h => decide_eq_true h) h1
        have h3 := h2.map (·.2)
        rwa [annot_snd] at h3
      have hsub2 : (oc i).Sublist (partC i (M.map (·.2))) := by
        have := hsub.filter (atC i)
        rwa [show (oc i).filter (atC i) = oc i from hself] at this
      have hlen : (partC i (M.map (·.2))).length = (oc i).length := by
        have h1 : (partC i (M.map (·.2))).Perm (partC i (L.map (·.2))) := (hperm.map fun x : Int × Cl => x.2).filter (atC i)
        rw [h1.length_eq, hLs]
        unfold partC
        rw [List.filter_flatMap]
        have h2 : ((List.range ks.length).flatMap fun j => (oc j).filter (atC i)) = (List.range ks.length).flatMap fun j => if j = i then oc j else [] := by
          refine flat_congr fun j hj => ?_
          by_cases e : j = i
          · rw [if_pos e, e]; exact hself
          · rw [if_neg e]
            refine List.filter_eq_nil_iff.2 fun c hc h3 => ?_
            have h4 := (hpm j (List.mem_range.1 hj) c hc).2
            have h5 := of_decide_eq_true h3
            omega
        rw [h2, pick_flat, if_pos hi]
      have heq : oc i = partC i (M.map (·.2)) := hsub2.eq_of_length (by omega)
      rw [← heq]
      have h6 := (fold_parts (oc i) (startP ks) fun c hc => cont_of hg (hpm i hi c hc).1).1 (hoc i hi).run i (by rw [hsl]; exact hi)
      rwa [hself] at h6

end Go.Proofs.YtoolpifkfgileaaDoor
