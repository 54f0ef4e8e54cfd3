/- Joined texts of this work: Hp4, Hp6, HiK, HiL, HiM. -/
import Derived.Test.YtoolpifkfgileaaDoorJo12
import Derived.Test.YtoolpifkfgileaaDoorJo13
import Derived.Laws.StructEq

/-
  In plain: a history is linear exactly if each of its parts is.
-/
namespace Go.Proofs.YtoolpifkfgileaaDoor
open Go Go.RowKit Own

def run1 : Int × List Int → List Cl → Option (Int × List Int)
  | e, [] => some e
  | e, c :: o => match step1 e c with | some e' => run1 e' o | none => none
def atC (i : Nat) (c : Cl) : Bool := decide (c.cont = (i : Int))
def partC (i : Nat) (cs : List Cl) : List Cl := cs.filter (atC i)

theorem nthK_set {h : List (Int × List Int)} {m i : Nat} {e : Int × List Int} (hm : m < h.length) : nthK (h.set m e) i = if i = m then e else nthK h i := by
  unfold nthK
  rw [List.getD_eq_getElem?_getD, List.getD_eq_getElem?_getD, List.getElem?_set]
  by_cases h1 : m = i
  · subst h1; simp [hm]
  · have : ¬ i = m := fun e => h1 e.symm
    simp [h1, this]

theorem fold_parts : ∀ (o : List Cl) (h : List (Int × List Int)), (∀ c ∈ o, 0 ≤ c.cont ∧ c.cont.toNat < h.length) →
    ((foldC h o).isSome = true ↔ ∀ i, i < h.length → (run1 (nthK h i) (partC i o)).isSome = true)
  | [], h, _ => by simp [foldC, partC, run1]
  | c :: o, h, hc => by
    obtain ⟨hc0, hc1⟩ := hc c List.mem_cons_self
    obtain ⟨m, hm⟩ : ∃ m : Nat, c.cont = m := ⟨c.cont.toNat, by omega⟩
    have hmt : c.cont.toNat = m := by omega
    have hml : m < h.length := by omega
    have hpart : ∀ i, partC i (c :: o) = if i = m then c :: partC i o else partC i o := fun i => by
      unfold partC
      rw [List.filter_cons]
      by_cases e : i = m
      · have : atC i c = true := decide_eq_true (by omega)
        rw [if_pos e, if_pos this]
      · have : ¬ atC i c = true := by unfold atC; rw [decide_eq_true_eq]; omega
        rw [if_neg e, if_neg this]
    unfold foldC stepC
    rw [hmt]
    cases hs : step1 (nthK h m) c with
    | none =>
      constructor
      · intro hx; cases hx
      · intro hx
        have := hx m hml
        rw [hpart, if_pos rfl] at this
        unfold run1 at this
        rw [hs] at this
        cases this
    | some e =>
      have ih := fold_parts o (h.set m e) fun x hx => by rw [List.length_set]; exact hc x (List.mem_cons_of_mem _ hx)
      show (foldC (h.set m e) o).isSome = true ↔ _
      rw [ih, List.length_set]
      refine forall_congr' fun i => imp_congr_right fun hi => ?_
      rw [hpart, nthK_set hml]
      by_cases e1 : i = m
      · rw [if_pos e1, if_pos e1, e1]
        conv => rhs; unfold run1
        rw [hs]
      · rw [if_neg e1, if_neg e1]

theorem nth_start {ks : List Int} {i : Nat} (hi : i < ks.length) : nthK (startP ks) i = (ks[i], []) := by
  unfold nthK startP
  rw [List.getD_eq_getElem?_getD, List.getElem?_map, List.getElem?_eq_getElem hi]
  rfl

theorem good_part {ks : List Int} {cs : List Cl} (h : GoodH ks cs) (i : Nat) : GoodH ks (partC i cs) := h.sub List.filter_sublist
theorem cont_of {ks : List Int} {cs : List Cl} (h : GoodH ks cs) {c : Cl} (hc : c ∈ cs) : 0 ≤ c.cont ∧ c.cont.toNat < (startP ks).length := by
  have h9 := good_beg (h.each c hc)
  have : (startP ks).length = ks.length := by simp [startP]
  omega

theorem part_twice (i j : Nat) (o : List Cl) : partC j (partC i o) = if j = i then partC i o else [] := by
  unfold partC
  rw [List.filter_filter]
  by_cases e : j = i
  · subst e
    rw [if_pos rfl]
    congr 1
    funext c
    exact Bool.and_self _
  · rw [if_neg e]
    refine List.filter_eq_nil_iff.2 fun c _ h => ?_
    rw [Bool.and_eq_true] at h
    have h1 := of_decide_eq_true h.1
    have h2 := of_decide_eq_true h.2
    omega

theorem lin_part {ks : List Int} {cs : List Cl} (h : LinH ks cs) (i : Nat) : LinH ks (partC i cs) := by
  obtain ⟨⟨hg, hl⟩, o, ho⟩ := h
  have hfp := (fold_parts o (startP ks) fun c hc => cont_of hg (ho.sub c hc)).1 ho.run
  refine ⟨⟨good_part hg i, Nat.le_trans (List.length_filter_le _ _) hl⟩, partC i o, fun c hc => ?_, fun c hc ht => ?_, ho.pair.filter _, ?_⟩
  · have := List.mem_filter.1 hc
    exact List.mem_filter.2 ⟨ho.sub c this.1, this.2⟩
  · have := List.mem_filter.1 hc
    exact List.mem_filter.2 ⟨ho.ended c this.1 ht, this.2⟩
  · refine (fold_parts _ (startP ks) fun c hc => cont_of hg (ho.sub c (List.mem_filter.1 hc).1)).2 fun j hj => ?_
    show (run1 (nthK (startP ks) j) (partC j (partC i o))).isSome = true
    rw [part_twice]
    split
    · rename_i e; subst e; exact hfp j hj
    · rfl

/-- an order, each call with a time at which it may be done -/
def annot : Int → List Cl → List (Int × Cl)
  | _, [] => []
  | m, c :: o => (max m c.beg, c) :: annot (max m c.beg) o
theorem annot_snd : ∀ (o : List Cl) (m : Int), (annot m o).map (·.2) = o
  | [], _ => rfl
  | c :: o, m => by unfold annot; rw [List.map_cons, annot_snd o]
theorem annot_ge : ∀ (o : List Cl) (m : Int), ∀ x ∈ annot m o, m ≤ x.1
  | [], _, x, hx => by cases hx
  | c :: o, m, x, hx => by
    unfold annot at hx
    rcases List.mem_cons.1 hx with e | hx
    · rw [e]; exact Int.le_max_left _ _
    · have := annot_ge o _ x hx
      have h1 := Int.le_max_left m c.beg
      omega
theorem annot_sorted : ∀ (o : List Cl) (m : Int), (annot m o).Pairwise fun a b => a.1 ≤ b.1
  | [], _ => List.Pairwise.nil
  | c :: o, m => by
    unfold annot
    exact List.pairwise_cons.2 ⟨fun x hx => annot_ge o _ x hx, annot_sorted o _⟩
theorem annot_in : ∀ (o : List Cl) (m : Int), (∀ c ∈ o, c.till ≠ -1 → 0 ≤ c.till ∧ c.beg ≤ c.till ∧ m ≤ c.till) → (o.Pairwise fun a b => a.beg ≠ b.beg ∧ aheadC b a = false) →
    ∀ x ∈ annot m o, x.2.beg ≤ x.1 ∧ (x.2.till ≠ -1 → x.1 ≤ x.2.till)
  | [], _, _, _, x, hx => by cases hx
  | c :: o, m, h, hp, x, hx => by
    obtain ⟨hp1, hp2⟩ := List.pairwise_cons.1 hp
    unfold annot at hx
    rcases List.mem_cons.1 hx with e | hx
    · rw [e]
      refine ⟨Int.le_max_right _ _, fun ht => ?_⟩
      have := h c List.mem_cons_self ht
      exact Int.max_le.2 ⟨this.2.2, this.2.1⟩
    · refine annot_in o _ (fun b hb ht => ?_) hp2 x hx
      obtain ⟨h1, h2, h3⟩ := h b (List.mem_cons_of_mem _ hb) ht
      refine ⟨h1, h2, Int.max_le.2 ⟨h3, ?_⟩⟩
      have h4 := (hp1 b hb).2
      unfold aheadC at h4
      rw [decide_eq_true h1, Bool.true_and, decide_eq_false_iff_not] at h4
      omega

theorem flat_sub {α : Type} {f : Nat → List α} {i : Nat} : ∀ {l : List Nat}, i ∈ l → (f i).Sublist (l.flatMap f)
  | j :: l, h => by
    rw [List.flatMap_cons]
    rcases List.mem_cons.1 h with e | h
    · rw [e]; exact List.sublist_append_left _ _
    · exact (flat_sub h).trans (List.sublist_append_right _ _)
theorem flat_congr {α : Type} {f g : Nat → List α} : ∀ {l : List Nat}, (∀ i ∈ l, f i = g i) → l.flatMap f = l.flatMap g
  | [], _ => rfl
  | j :: l, h => by rw [List.flatMap_cons, List.flatMap_cons, h j List.mem_cons_self, flat_congr fun i hi => h i (List.mem_cons_of_mem _ hi)]

theorem pick_flat {α : Type} (f : Nat → List α) (i : Nat) : ∀ K, ((List.range K).flatMap fun j => if j = i then f j else []) = if i < K then f i else []
  | 0 => by simp
  | K + 1 => by
    rw [List.range_succ, List.flatMap_append, pick_flat f i K, List.flatMap_cons, List.flatMap_nil, List.append_nil]
    by_cases h1 : i < K
    · rw [if_pos h1, if_neg (by omega), if_pos (by omega), List.append_nil]
    · rw [if_neg h1, List.nil_append]
      by_cases h2 : K = i
      · rw [if_pos h2, if_pos (by omega), h2]
      · rw [if_neg h2, if_neg (by omega)]

theorem GoodH.begC {ks : List Int} {cs : List Cl} (h : GoodH ks cs) {a b : Cl} (ha : a ∈ cs) (hb : b ∈ cs) (e : a.beg = b.beg) : a = b := by
  obtain ⟨i, hi, rfl⟩ := mem_nthC ha
  obtain ⟨j, hj, rfl⟩ := mem_nthC hb
  rw [h.begs hi hj e]

theorem lin_whole {ks : List Int} {cs : List Cl} (hg : GoodH ks cs) (hl : cs.length ≤ 24) (h : ∀ i, i < ks.length → LinH ks (partC i cs)) : LinH ks cs := by
  refine ⟨⟨hg, hl⟩, ?_⟩
  have hx : ∀ i, ∃ o, i < ks.length → OrdC (startP ks) (partC i cs) o := fun i => by
    by_cases hi : i < ks.length
    · obtain ⟨-, o, ho⟩ := h i hi
      exact ⟨o, fun _ => ho⟩
    · exact ⟨[], fun e => absurd e hi⟩
  obtain ⟨oc, hoc⟩ := Classical.axiomOfChoice hx
  obtain ⟨L, hL⟩ : ∃ L, ((List.range ks.length).flatMap fun i => annot 0 (oc i)) = L := ⟨_, rfl⟩
  obtain ⟨M, hM⟩ : ∃ M, L.mergeSort (fun a b => decide (a.1 ≤ b.1)) = M := ⟨_, rfl⟩
  have tr : ∀ a b c : Int × Cl, decide (a.1 ≤ b.1) = true → decide (b.1 ≤ c.1) = true → decide (a.1 ≤ c.1) = true := fun a b c h1 h2 => by
    rw [decide_eq_true_eq] at h1 h2 ⊢; omega
  have tt : ∀ a b : Int × Cl, (decide (a.1 ≤ b.1) || decide (b.1 ≤ a.1)) = true := fun a b => by
    rw [Bool.or_eq_true, decide_eq_true_eq, decide_eq_true_eq]; omega
  have hperm : M.Perm L := by rw [← hM]; exact List.mergeSort_perm L _
  have hsort : M.Pairwise fun a b => a.1 ≤ b.1 := by
    rw [← hM]
    exact (List.pairwise_mergeSort tr tt L).imp fun {a b} h => of_decide_eq_true h
  have hpm : ∀ i, i < ks.length → ∀ c ∈ oc i, c ∈ cs ∧ c.cont = (i : Int) := fun i hi c hc => by
    have := List.mem_filter.1 ((hoc i hi).sub c hc)
    exact ⟨this.1, of_decide_eq_true this.2⟩
  have hmemL : ∀ x ∈ L, ∃ i, i < ks.length ∧ x ∈ annot 0 (oc i) ∧ x.2 ∈ oc i := fun x hx => by
    rw [← hL] at hx
    obtain ⟨i, hi, hx⟩ := List.mem_flatMap.1 hx
    refine ⟨i, List.mem_range.1 hi, hx, ?_⟩
    have := List.mem_map_of_mem (f := (·.2)) hx
    rwa [annot_snd] at this
  have hin : ∀ x ∈ L, x.2.beg ≤ x.1 ∧ (x.2.till ≠ -1 → x.1 ≤ x.2.till) := fun x hx => by
    obtain ⟨i, hi, h1, h2⟩ := hmemL x hx
    refine annot_in (oc i) 0 (fun c hc ht => ?_) (hoc i hi).pair x h1
    have h3 := hg.each c (hpm i hi c hc).1
    have h4 := good_beg h3
    have h5 := h3.2.2 ht
    omega
  have hneq : L.Pairwise fun a b => a.2.beg ≠ b.2.beg := by
    rw [← hL]
    refine List.pairwise_flatMap.2 ⟨fun i hi => ?_, ?_⟩
    · have h1 := (hoc i (List.mem_range.1 hi)).pair
      rw [← annot_snd (oc i) 0, map_pair] at h1
      exact h1.imp fun h => h.1
    · refine List.nodup_range.imp_of_mem fun {i j} hi hj hne x hx y hy e => ?_
      have h1 : x.2 ∈ oc i := by
        have := List.mem_map_of_mem (f := (·.2)) hx
        rwa [annot_snd] at this
      have h2 : y.2 ∈ oc j := by
        have := List.mem_map_of_mem (f := (·.2)) hy
        rwa [annot_snd] at this
      obtain ⟨a1, a2⟩ := hpm i (List.mem_range.1 hi) _ h1
      obtain ⟨b1, b2⟩ := hpm j (List.mem_range.1 hj) _ h2
      have := hg.begC a1 b1 e
      rw [this, b2] at a2
      exact hne (by omega)
  have hneM : M.Pairwise fun a b => a.2.beg ≠ b.2.beg := (hperm.pairwise_iff fun {a b} h e => h e.symm).2 hneq
  have hLs : L.map (·.2) = (List.range ks.length).flatMap oc := by
    rw [← hL, List.map_flatMap]
    congr 1
    funext i
    exact annot_snd _ _
  refine ⟨M.map (·.2), fun c hc => ?_, fun c hc ht => ?_, ?_, ?_⟩
  · obtain ⟨x, hx, rfl⟩ := List.mem_map.1 hc
    obtain ⟨i, hi, -, h2⟩ := hmemL x (hperm.mem_iff.1 hx)
    exact (hpm i hi _ h2).1
  · have h9 := good_beg (hg.each c hc)
    have hi : c.cont.toNat < ks.length := by omega
    have h1 : c ∈ oc c.cont.toNat := (hoc _ hi).ended c (List.mem_filter.2 ⟨hc, decide_eq_true (by omega)⟩) ht
    have h2 : c ∈ L.map (·.2) := by rw [hLs]; exact List.mem_flatMap.2 ⟨_, List.mem_range.2 hi, h1⟩
    exact (hperm.map (·.2)).mem_iff.2 h2
  · rw [map_pair]
    refine (hsort.and hneM).imp_of_mem fun {a b} ha hb hab => ⟨hab.2, ?_⟩
    cases hh : aheadC b.2 a.2 with
    | false => rfl
    | true =>
      exfalso
      unfold aheadC at hh
      rw [Bool.and_eq_true, decide_eq_true_eq, decide_eq_true_eq] at hh
      have h1 := (hin a (hperm.mem_iff.1 ha)).1
      have h2 := (hin b (hperm.mem_iff.1 hb)).2 (by omega)
      have := hab.1
      omega
  · have hsl : (startP ks).length = ks.length := by simp [startP]
    refine (fold_parts _ (startP ks) fun c hc => ?_).2 fun i hi => ?_
    · obtain ⟨x, hx, rfl⟩ := List.mem_map.1 hc
      obtain ⟨i, hi, -, h2⟩ := hmemL x (hperm.mem_iff.1 hx)
      exact cont_of hg (hpm i hi _ h2).1
    · rw [hsl] at hi
      have hself : partC i (oc i) = oc i := by
        unfold partC
        exact List.filter_eq_self.2 fun c hc => decide_eq_true (hpm i hi c hc).2
      have hsub : (oc i).Sublist (M.map (·.2)) := by
        have h1 : (annot 0 (oc i)).Sublist L := by
          rw [← hL]
          exact flat_sub (f := fun i => annot 0 (oc i)) (List.mem_range.2 hi)
        have h2 : (annot 0 (oc i)).Sublist M := by
          rw [← hM]
          exact List.sublist_mergeSort tr tt ((annot_sorted (oc i) 0).imp fun {a b} h => decide_eq_true h) h1
        have h3 := h2.map (·.2)
        rwa [annot_snd] at h3
      have hsub2 : (oc i).Sublist (partC i (M.map (·.2))) := by
        have := hsub.filter (atC i)
        rwa [show (oc i).filter (atC i) = oc i from hself] at this
      have hlen : (partC i (M.map (·.2))).length = (oc i).length := by
        have h1 : (partC i (M.map (·.2))).Perm (partC i (L.map (·.2))) := (hperm.map fun x : Int × Cl => x.2).filter (atC i)
        rw [h1.length_eq, hLs]
        unfold partC
        rw [List.filter_flatMap]
        have h2 : ((List.range ks.length).flatMap fun j => (oc j).filter (atC i)) = (List.range ks.length).flatMap fun j => if j = i then oc j else [] := by
          refine flat_congr fun j hj => ?_
          by_cases e : j = i
          · rw [if_pos e, e]; exact hself
          · rw [if_neg e]
            refine List.filter_eq_nil_iff.2 fun c hc h3 => ?_
            have h4 := (hpm j (List.mem_range.1 hj) c hc).2
            have h5 := of_decide_eq_true h3
            omega
        rw [h2, pick_flat, if_pos hi]
      have heq : oc i = partC i (M.map (·.2)) := hsub2.eq_of_length (by omega)
      rw [← heq]
      have h6 := (fold_parts (oc i) (startP ks) fun c hc => cont_of hg (hpm i hi c hc).1).1 (hoc i hi).run i (by rw [hsl]; exact hi)
      rwa [hself] at h6

end Go.Proofs.YtoolpifkfgileaaDoor

/-
  In plain: what is linear stays so if a call begins earlier, or ends later; if a pending call is removed that is not in its order.
-/
namespace Go.Proofs.YtoolpifkfgileaaDoor
open Go Go.RowKit Own

/-- a call that begins earlier and ends later; everything is 64 times as far apart -/
def wideC (n : Nat) (p1 p2 : Int) (k : Nat) (c : Cl) : Cl :=
  { c with beg := if k = n then max 0 (64 * c.beg - p1) else 64 * c.beg, till := if 0 ≤ c.till then (if k = n then 64 * c.till + p2 else 64 * c.till) else c.till }
def wideH (n : Nat) (p1 p2 : Int) (cs : List Cl) : List Cl := (List.range cs.length).map fun k => wideC n p1 p2 k (nthC cs k)
theorem wideH_len (n : Nat) (p1 p2 : Int) (cs : List Cl) : (wideH n p1 p2 cs).length = cs.length := by simp [wideH]
theorem wideH_nth {n : Nat} {p1 p2 : Int} {cs : List Cl} {k : Nat} (hk : k < cs.length) : nthC (wideH n p1 p2 cs) k = wideC n p1 p2 k (nthC cs k) := by
  rw [nthC_eq (by rw [wideH_len]; exact hk)]
  unfold wideH
  rw [List.getElem_map, List.getElem_range]

theorem wide_beg {n k : Nat} {p1 p2 : Int} {c : Cl} (h1 : 0 ≤ p1) : (wideC n p1 p2 k c).beg ≤ max 0 (64 * c.beg) := by
  show (if k = n then max 0 (64 * c.beg - p1) else 64 * c.beg) ≤ _
  split <;> omega
theorem wide_till {n k : Nat} {p1 p2 : Int} {c : Cl} (h2 : 0 ≤ p2) : (0 ≤ c.till → 64 * c.till ≤ (wideC n p1 p2 k c).till) ∧ (¬ 0 ≤ c.till → (wideC n p1 p2 k c).till = c.till) := by
  constructor
  · intro h
    show _ ≤ (if 0 ≤ c.till then (if k = n then 64 * c.till + p2 else 64 * c.till) else c.till)
    rw [if_pos h]
    split <;> omega
  · intro h
    show (if 0 ≤ c.till then (if k = n then 64 * c.till + p2 else 64 * c.till) else c.till) = _
    rw [if_neg h]

theorem wide_ahead {n : Nat} {p1 p2 : Int} {cs : List Cl} (h1 : 0 ≤ p1) (h2 : 0 ≤ p2) {a b : Nat} (ha : a < cs.length) (hb : b < cs.length) (h : aheadB cs a b = false) : aheadB (wideH n p1 p2 cs) a b = false := by
  unfold aheadB at h ⊢
  rw [wideH_nth ha, wideH_nth hb]
  have h3 := wide_beg (n := n) (k := b) (p2 := p2) (c := nthC cs b) h1
  have h4 := wide_till (n := n) (k := a) (p1 := p1) (c := nthC cs a) h2
  rw [Bool.and_eq_false_iff, decide_eq_false_iff_not, decide_eq_false_iff_not] at h ⊢
  by_cases ht : 0 ≤ (nthC cs a).till
  · have h5 := h4.1 ht
    rcases h with h | h
    · exact absurd ht h
    · right; omega
  · left
    rw [h4.2 ht]; exact ht

theorem wide_step {n k : Nat} {p1 p2 : Int} {c : Cl} (h2 : 0 ≤ p2) (hc : c.till = -1 ∨ 0 ≤ c.till) (h : List (Int × List Int)) : stepC h (wideC n p1 p2 k c) = stepC h c := by
  have h4 := wide_till (n := n) (k := k) (p1 := p1) (c := c) h2
  unfold stepC step1
  have e : (wideC n p1 p2 k c).till = -1 ↔ c.till = -1 := by
    rcases hc with h5 | h5
    · rw [h4.2 (by omega)]
    · have := h4.1 h5
      constructor <;> intro _ <;> omega
  by_cases ht : c.till = -1
  · rw [if_pos ht, if_pos (e.2 ht)]; rfl
  · rw [if_neg ht, if_neg (fun h => ht (e.1 h))]; rfl

theorem wide_fold {n : Nat} {p1 p2 : Int} {cs : List Cl} (h2 : 0 ≤ p2) (hc : ∀ k, k < cs.length → (nthC cs k).till = -1 ∨ 0 ≤ (nthC cs k).till) : ∀ (o : List Nat) (h : List (Int × List Int)), (∀ m ∈ o, m < cs.length) → foldC h (o.map (nthC (wideH n p1 p2 cs))) = foldC h (o.map (nthC cs))
  | [], _, _ => rfl
  | m :: o, h, hm => by
    rw [List.map_cons, List.map_cons]
    unfold foldC
    rw [wideH_nth (hm m List.mem_cons_self), wide_step h2 (hc m (hm m List.mem_cons_self))]
    cases stepC h (nthC cs m) with
    | none => rfl
    | some h' => exact wide_fold h2 hc o h' fun x hx => hm x (List.mem_cons_of_mem _ hx)

theorem till_or {ks : List Int} {cs : List Cl} (hg : GoodH ks cs) : ∀ k, k < cs.length → (nthC cs k).till = -1 ∨ 0 ≤ (nthC cs k).till := fun k hk => by
  have h1 := hg.each _ (nthC_mem hk)
  by_cases e : (nthC cs k).till = -1
  · exact .inl e
  · have := h1.2.2 e
    have := good_beg h1
    exact .inr (by omega)

theorem wide_ord {ks : List Int} {cs : List Cl} {h0 : List (Int × List Int)} {o : List Nat} {n : Nat} {p1 p2 : Int} (h1 : 0 ≤ p1) (h2 : 0 ≤ p2) (hg : GoodH ks cs) (hl : cs.length ≤ 24) (h : ordB cs 0 h0 o = true) : ordB (wideH n p1 p2 cs) 0 h0 o = true := by
  have ho := ord_of o hl h
  have hlen := wideH_len n p1 p2 cs
  refine of_ord o (by omega) (fun k hk => wide_ahead h1 h2 (by omega) (by omega) (hg.self k (by omega))) ⟨fun m hm => by rw [hlen]; exact ho.lt m hm, ho.nodup, ho.new, ?_, fun k hk ht => ?_, ?_⟩
  · exact ho.pair.imp_of_mem fun {a b} ha hb hab => wide_ahead h1 h2 (ho.lt b hb) (ho.lt a ha) hab
  · rw [hlen] at hk
    refine ho.ended k hk fun e => ht ?_
    rw [wideH_nth hk, (wide_till h2).2 (by omega)]
    exact e
  · rw [wide_fold h2 (till_or hg) o h0 ho.lt]
    exact ho.run

theorem wide_all {ks : List Int} {cs : List Cl} {o : List Nat} {n : Nat} {p1 p2 : Int} (h1 : 0 ≤ p1) (h2 : 0 ≤ p2) (hg : GoodH ks cs) (hl : cs.length ≤ 24) (h : ordB cs 0 (startP ks) o = true) (hw : chkH ks (wideH n p1 p2 cs) = 0) :
    LinH ks (wideH n p1 p2 cs) ∧ ordB (wideH n p1 p2 cs) 0 (startP ks) o = true := by
  have h3 := wide_ord (n := n) h1 h2 hg hl h
  have h4 := chkH_ok.1 hw
  exact ⟨lin_of h4.1 h4.2 h3, h3⟩

/-- the calls that ended, and those of an order -/
def lessB (cs : List Cl) (o : List Nat) (k : Nat) : Bool := decide (0 ≤ (nthC cs k).till) || o.contains k
def lessN (cs : List Cl) (o : List Nat) (i : Nat) : List Cl := ((List.range i).filter (lessB cs o)).map (nthC cs)
theorem lessN_succ (cs : List Cl) (o : List Nat) (i : Nat) : lessN cs o (i + 1) = if lessB cs o i = true then lessN cs o i ++ [nthC cs i] else lessN cs o i := by
  unfold lessN
  rw [List.range_succ, List.filter_append, List.map_append]
  by_cases h : lessB cs o i = true
  · rw [if_pos h]; simp [h]
  · rw [if_neg h]; simp [h]
theorem range_map (cs : List Cl) : (List.range cs.length).map (nthC cs) = cs := by
  apply List.ext_getElem
  · simp
  · intro i h1 h2
    rw [List.getElem_map, List.getElem_range, nthC_eq h2]
theorem less_sub (cs : List Cl) (o : List Nat) : (lessN cs o cs.length).Sublist cs := by
  have h : (lessN cs o cs.length).Sublist ((List.range cs.length).map (nthC cs)) := (List.filter_sublist (l := List.range cs.length) (p := lessB cs o)).map (nthC cs)
  rwa [range_map] at h
theorem less_lin {ks : List Int} {cs : List Cl} {o : List Nat} (hg : GoodH ks cs) (hl : cs.length ≤ 24) (h : ordB cs 0 (startP ks) o = true) : LinH ks (lessN cs o cs.length) := by
  have hi := ord_of o hl h
  have ho := hi.calls hg
  refine ⟨⟨hg.sub (less_sub cs o), Nat.le_trans (less_sub cs o).length_le hl⟩, _, fun c hc => ?_, fun c hc ht => ho.ended c ((less_sub cs o).mem hc) ht, ho.pair, ho.run⟩
  obtain ⟨k, hk, rfl⟩ := List.mem_map.1 hc
  refine List.mem_map.2 ⟨k, List.mem_filter.2 ⟨List.mem_range.2 (hi.lt k hk), ?_⟩, rfl⟩
  unfold lessB
  rw [Bool.or_eq_true]
  right
  simpa using hk

/-- calls, 64 times as far apart: the first i of them -/
def scaleC (c : Cl) : Cl := { c with beg := 64 * c.beg, till := if 0 ≤ c.till then 64 * c.till else c.till }
def scaleN (i : Nat) (cs : List Cl) : List Cl := (List.range cs.length).map fun k => if k < i then scaleC (nthC cs k) else nthC cs k
theorem scaleN_len (i : Nat) (cs : List Cl) : (scaleN i cs).length = cs.length := by simp [scaleN]
theorem scaleN_nth {i k : Nat} {cs : List Cl} (hk : k < cs.length) : nthC (scaleN i cs) k = if k < i then scaleC (nthC cs k) else nthC cs k := by
  rw [nthC_eq (by rw [scaleN_len]; exact hk)]
  unfold scaleN
  rw [List.getElem_map, List.getElem_range]
theorem ext_nthC {a b : List Cl} (hl : a.length = b.length) (h : ∀ k, k < a.length → nthC a k = nthC b k) : a = b := by
  apply List.ext_getElem hl
  intro k h1 h2
  have := h k h1
  rwa [nthC_eq h1, nthC_eq h2] at this
theorem scaleN_zero (cs : List Cl) : scaleN 0 cs = cs := ext_nthC (scaleN_len 0 cs) fun k hk => by
  rw [scaleN_nth (by rw [scaleN_len] at hk; exact hk), if_neg (Nat.not_lt_zero _)]
theorem nthC_put {l : List Cl} {i j : Nat} {c : Cl} (hi : i < l.length) : nthC (l.set i c) j = if j = i then c else nthC l j := by
  unfold nthC
  rw [List.getD_eq_getElem?_getD, List.getD_eq_getElem?_getD, List.getElem?_set]
  by_cases h1 : i = j
  · subst h1; simp [hi]
  · have : ¬ j = i := fun e => h1 e.symm
    simp [h1, this]
theorem scaleN_succ {i : Nat} {cs : List Cl} (hi : i < cs.length) : (scaleN i cs).set i (scaleC (nthC cs i)) = scaleN (i + 1) cs := ext_nthC (by rw [List.length_set, scaleN_len, scaleN_len]) fun k hk => by
  rw [List.length_set, scaleN_len] at hk
  rw [nthC_put (by rw [scaleN_len]; exact hi), scaleN_nth hk, scaleN_nth hk]
  by_cases e : k = i
  · rw [if_pos e, if_pos (by omega), e]
  · by_cases h1 : k < i
    · rw [if_neg e, if_pos h1, if_pos (by omega)]
    · rw [if_neg e, if_neg h1, if_neg (by omega)]
theorem wide_eq {n : Nat} {p1 p2 : Int} {cs : List Cl} (hn : n < cs.length) : (scaleN cs.length cs).set n (wideC n p1 p2 n (nthC cs n)) = wideH n p1 p2 cs := ext_nthC (by rw [List.length_set, scaleN_len, wideH_len]) fun k hk => by
  rw [List.length_set, scaleN_len] at hk
  rw [nthC_put (by rw [scaleN_len]; exact hn), scaleN_nth hk, wideH_nth hk, if_pos hk]
  by_cases e : k = n
  · rw [if_pos e, e]
  · rw [if_neg e]
    unfold scaleC wideC
    rw [if_neg e, if_neg e]

end Go.Proofs.YtoolpifkfgileaaDoor

/-
  Package hist: Allowed; Ends.
-/
namespace Go.Proofs.YtoolpifkfgileaaDoor
open Go Go.RowKit Own

def AllowDone (ks : List Int) (cs : List Cl) (ol : List Int) (w : World) (e : Ending) (w' : World) : Prop := ∃ v, e = .returned (.bool v) ∧ (v = true ↔ AllowedP ks cs ol) ∧ KeepBut (fun _ => False) w w'

theorem allowed_any (w : World) (pk pc : Option Addr) (ck cc : Nat) (ks : List Int) (cs : List Cl) (hI : HistIn w pk pc ks cs) (po : Option Addr) (co : Nat) (ol : List Int) (hO : Rd w po (ints ol)) (hol : ol.length ≤ 1099511627776) :
    Calls Tryd.prog 19 #[histV pk pc ck cc ks cs, .slice po ol.length co] w fun e w' => AllowDone ks cs ol w e w' := by
  obtain ⟨V, B, hV, hB, hb, hkV, hsV⟩ := fresh_block w (.cells #[.slice pk ks.length ck, .slice pc cs.length cc] THi)
  obtain ⟨b0, b1, -⟩ := blk2 hb
  have HT := Lib.hid (through_any V pk pc ck cc ks cs (hI.stay hkV) po co ol (hO.stay hkV) hol)
  have HK := Lib.hid hkV
  unfold histV at HT ⊢
  clear hI hb hkV hsV hO
  go_enter Tryd.func19, Tryd.ntmps19
  go_upto_region 1 with fail
  rw [← hV, ← hB]
  clear hV hB
  go_wp2_with (go_at_call 40; refine HT.out.mono ?_; rintro e w2 ⟨p, c, l, ok, rfl, h1, -, -, hk⟩; have H1 := Lib.hid h1; have HK2 := Lib.hid hk; clear hk h1)
  go_ret
  exact ⟨ok, rfl, H1.out, HK.out.trans HK2.out⟩

theorem keep_back {w w' : World} {N : Nat} {x : Obj} (h : KeepBut (fun k => k = N) w.drew w') (h1 : w'.heap[N]? = some x) (h2 : w.heap[N]? = some x) : KeepBut (fun _ => False) w w' :=
  ⟨h.os, h.tape, h.output, h.size, fun k hk _ => by
    by_cases e : k = N
    · rw [e, h1, h2]
    · exact h.block k hk e⟩

def EndsDone (ks : List Int) (cs : List Cl) (ol : List Int) (i : Nat) (w : World) (e : Ending) (w' : World) : Prop :=
  ∃ q c xs k h o, e = .returned (.agg #[.int .i64 k, .slice q (List.length xs) c]) ∧ natI o = ol ∧ foldC (startP ks) (o.map (nthC cs)) = some h ∧ nthK h i = (k, xs) ∧ Rd w' q (ints xs) ∧ List.length xs ≤ 64 ∧ KeepBut (fun _ => False) w w'

def EndsNew (ks : List Int) (cs : List Cl) (ol : List Int) (i : Nat) (w : World) (e : Ending) (w' : World) : Prop :=
  ∃ q c xs k h o, e = .returned (.agg #[.int .i64 k, .slice q (List.length xs) c]) ∧ natI o = ol ∧ foldC (startP ks) (o.map (nthC cs)) = some h ∧ nthK h i = (k, xs) ∧ Rd w' q (ints xs) ∧ List.length xs ≤ 64 ∧ KeepBut (fun _ => False) w w' ∧ ∀ b, Of q b → w.heap.size ≤ b ∧ b < w'.heap.size

set_option maxHeartbeats 8000000 in
theorem ends_new (w : World) (pk pc : Option Addr) (ck cc : Nat) (ks : List Int) (cs : List Cl) (hI : HistIn w pk pc ks cs) (po : Option Addr) (co : Nat) (ol : List Int) (hO : Rd w po (ints ol)) (hol : ol.length ≤ 1099511627776) (i : Nat) (hi : i < ks.length) (hA : AllowedP ks cs ol) :
    Calls Tryd.prog 23 #[histV pk pc ck cc ks cs, .slice po ol.length co, .int .i64 i] w fun e w' => EndsNew ks cs ol i w e w' := by
  obtain ⟨V1, B3, hV1, hB3, hb3, hk1, hs1⟩ := fresh_block w (.cells #[.slice pk ks.length ck, .slice pc cs.length cc] THi)
  obtain ⟨V, N, hV, hN, hbN, hk2, hs2⟩ := fresh_block V1 (.cells #[.int .i64 0, .slice none 0 0] TC)
  obtain ⟨b0, b1, -⟩ := blk2 (hk2.blk hb3)
  have hK := hk1.trans hk2
  have HT := Lib.hid (through_any V pk pc ck cc ks cs (hI.stay hK) po co ol (hO.stay hK) hol)
  have HK := Lib.hid hK; have HBN := Lib.hid hbN
  have hNB : B3 + 1 = N := by omega
  have HNW := Lib.hid (show w.heap.size ≤ N ∧ N < V.heap.size by omega)
  have HAL := Lib.hid hA
  have HIK := Lib.hid hi
  have HK8 := Lib.hid hI.k8
  unfold histV at HT ⊢
  clear hI hb3 hbN hk1 hk2 hs1 hs2 hO hA hK
  go_enter Tryd.func23, Tryd.ntmps23
  go_upto_region 1 with fail
  rw [← hV1, ← hB3, ← hV, hNB]
  clear hV1 hB3 hV hN hNB
  go_upto_region 2 with (go_at_call 40; refine HT.out.mono ?_; rintro e w2 ⟨p, c, l, ok, rfl, h1, h2, h3, hk⟩; have H1 := Lib.hid h1; have H2 := Lib.hid h2; have H3 := Lib.hid h3; have HK2 := Lib.hid hk; clear hk h1 h2 h3)
  have hok : ok = true := H1.out.2 HAL.out
  subst hok
  obtain ⟨o1, ho1, hf1, hl1, hsm⟩ := H2.out rfl
  have HF1 := Lib.hid hf1; have HO1 := Lib.hid ho1
  have hil : i < l.length := by omega
  have hili : (i : Int) < l.length := by omega
  have hi0 : (0 : Int) ≤ i := by omega
  have hilf : ¬ (l.length : Int) ≤ i := by omega
  have hmem : l[i] ∈ l := List.getElem_mem hil
  obtain ⟨g, o, hp, x0, x1⟩ := H3.out.cells i hil
  have hlv := H3.out.live _ hmem
  have hse := hsm _ (List.mem_map.2 ⟨l[i], hmem, rfl⟩)
  have hnk : nthK (l.map Kc.plain) i = l[i].plain := by unfold nthK; simp [List.getD, hil]
  obtain ⟨⟨ek, eq, ex, ec⟩, he⟩ : ∃ e, l[i] = e := ⟨_, rfl⟩
  rw [he] at x0 x1 hlv hse hnk
  dsimp only [Kc.plain] at x0 x1 hlv hse hnk
  subst hp
  have HLV := Lib.hid hlv; have HSE := Lib.hid hse; have HNK := Lib.hid hnk
  have HN2 := Lib.hid (HK2.out.blk HBN.out)
  have x0' := x0; have x1' := x1
  clear x0 x1 hlv hse hnk he hmem hsm hf1 ho1
  go_upto_region 4 with fail
  refine wp_own1 (by kernel_rfl) N _ HN2.out (fun i => [[], [], [0, 1], [0, 1, 2], [0, 1, 2, 3], [], [], [5, 6], [5, 6, 7], [5, 6, 7, 8], [5, 6, 7, 8, 9], [0, 1, 2, 3, 4, 5, 6, 7, 8, 9, 10], [0, 1, 2, 3, 4, 5, 6, 7, 8, 9, 10, 11]].getD i []) (fun i => if i = 4 ∨ i = 9 ∨ i = 10 ∨ i = 12 then [13] else []) (fun i => if i = 12 then [13] else []) [10, 12] (by kernel_rfl)
    (fun i => if i = 4 then some (sConst (.int .i64 ek)) else if i = 9 then some (sConst (.slice eq ex.length ec)) else if i = 10 then some (sOwnI 2 ex) else if i = 12 then some (sPut N TC) else none) ?_
  apply lex_quiet rfl rfl
  · intro w' hk; go_simp; with_reducible rfl
  simp only [Act.put, List.setIfInBounds_toArray, List.set_cons_zero, List.set_cons_succ]
  apply lex_quiet rfl rfl
  · intro w' hk; go_simp; with_reducible rfl
  simp only [Act.put, List.setIfInBounds_toArray, List.set_cons_zero, List.set_cons_succ]
  apply lex_quiet rfl rfl
  · intro w' hk; go_simp; with_reducible rfl
  simp only [Act.put, List.setIfInBounds_toArray, List.set_cons_zero, List.set_cons_succ]
  apply lex_quiet rfl rfl
  · intro w' hk; go_simp; with_reducible rfl
  simp only [Act.put, List.setIfInBounds_toArray, List.set_cons_zero, List.set_cons_succ]
  refine lex_loud rfl rfl (loud_run ⟨default, trivial⟩ (fun g _ w w' _ _ _ _ _ => trivial) fun w' hk hav _ => by
    have hkk := keep_back hk (hav 13 (by decide)).1 HN2.out
    have x := hkk.stay x0'
    exact ⟨w', default, trivial, .inl (by go_simp <;> rfl), KeepBut.refl _ _, fun b h => h.elim, trivial⟩) fun _ _ => ?_
  simp only [sConst, Act.put, List.setIfInBounds_toArray, List.set_cons_zero, List.set_cons_succ]
  apply lex_quiet rfl rfl
  · intro w' hk; go_simp; with_reducible rfl
  simp only [Act.put, List.setIfInBounds_toArray, List.set_cons_zero, List.set_cons_succ]
  apply lex_quiet rfl rfl
  · intro w' hk; go_simp; with_reducible rfl
  simp only [Act.put, List.setIfInBounds_toArray, List.set_cons_zero, List.set_cons_succ]
  apply lex_quiet rfl rfl
  · intro w' hk; go_simp; with_reducible rfl
  simp only [Act.put, List.setIfInBounds_toArray, List.set_cons_zero, List.set_cons_succ]
  apply lex_quiet rfl rfl
  · intro w' hk; go_simp; with_reducible rfl
  simp only [Act.put, List.setIfInBounds_toArray, List.set_cons_zero, List.set_cons_succ]
  refine lex_loud rfl rfl (loud_run ⟨default, trivial⟩ (fun g _ w w' _ _ _ _ _ => trivial) fun w' hk hav _ => by
    have hkk := keep_back hk (hav 13 (by decide)).1 HN2.out
    have x := hkk.stay x1'
    exact ⟨w', default, trivial, .inl (by go_simp <;> rfl), KeepBut.refl _ _, fun b h => h.elim, trivial⟩) fun _ _ => ?_
  simp only [Act.put, List.setIfInBounds_toArray, List.set_cons_zero, List.set_cons_succ]
  refine lex_loud rfl rfl (loud_call 44 #[.slice eq ex.length ec] (fun w => by kernel_rfl) ⟨default, trivial⟩ (fun g _ => stable_ownI _ _ _ _ _) fun w' hk hav _ => (clone_any w' eq ex ec (HLV.out.1.stay (keep_back hk (hav 13 (by decide)).1 HN2.out)) (by have := HSE.out.2.1; omega) HLV.out.2).mono ?_) fun g4 _ => ?_
  · rintro e w'' ⟨p', c', rfl, ho, hq⟩
    exact ⟨{ p := p', c := c' }, trivial, rfl, hq.mono fun _ e => e.elim, fun b ⟨a, h1, h2⟩ => by have := ho.lt a h1; exact ⟨.inl (by omega), by omega⟩, ho.base fun _ _ => Nat.zero_le _⟩
  simp only [sOwnI, sPut, Act.put, List.setIfInBounds_toArray, List.set_cons_zero, List.set_cons_succ]
  apply lex_quiet rfl rfl
  · intro w' hk; go_simp; with_reducible rfl
  simp only [Act.put, List.setIfInBounds_toArray, List.set_cons_zero, List.set_cons_succ]
  refine lex_loud rfl rfl (loud_put N TC TC #[.int .i64 ek, .slice g4.p ex.length g4.c] _ (.tmp 6) (.tmp 39) rfl rfl rfl 13 (by decide) (by decide) (fun w h => h) ⟨rfl, rfl⟩ rfl (by kernel_rfl) (by simp [Value.oneCell'])) fun g6 _ => ?_
  simp only [Act.put]
  refine lex_nil ?_
  intro w9 hk hF _
  have f4 : OwnI 2 0 w9 g4.p g4.c ex := (hF 10 (by decide)).1
  have b4 : ∀ b, Of g4.p b → b < w9.heap.size ∧ (w2.drew.heap.size ≤ b ∨ b = N) := (hF 10 (by decide)).2
  have f6 : w9.heap[N]? = some (.cells #[.int .i64 ek, .slice g4.p ex.length g4.c] TC (0, 0)) := (hF 12 (by decide)).1 _ (put_args rfl rfl)
  have c0 := blk_cell (k := 0) f6 rfl
  have c1 := blk_cell (k := 1) f6 rfl
  have HFIN := Lib.hid (show EndsNew ks cs ol i w (.returned (.agg #[.int .i64 ek, .slice g4.p ex.length g4.c])) w9 from
    ⟨g4.p, g4.c, ex, ek, _, o1, rfl, HO1.out, HF1.out, HNK.out, f4.rd, HSE.out.2.1, (HK.out.trans HK2.out).new ((KeepBut.drew _ w2).trans hk) fun b hb => (by have := HNW.out; have h2 : b = N := hb; omega), fun b hb => by
      obtain ⟨h1, h2⟩ := b4 b hb
      have h3 := (HK.out.trans HK2.out).size
      have h4 := HNW.out
      rcases h2 with h2 | h2
      · exact ⟨by simp at h2; omega, h1⟩
      · exact ⟨by omega, h1⟩⟩)
  clear hF f4 f6 hk b4
  go_wp2_with fail
  exact bodyPost_ret (v := .agg #[.int .i64 ek, .slice g4.p ex.length g4.c]) (by simp [results, Tryd.results23, go_sem, c0, c1]) rfl HFIN.out

theorem ends_any (w : World) (pk pc : Option Addr) (ck cc : Nat) (ks : List Int) (cs : List Cl) (hI : HistIn w pk pc ks cs) (po : Option Addr) (co : Nat) (ol : List Int) (hO : Rd w po (ints ol)) (hol : ol.length ≤ 1099511627776) (i : Nat) (hi : i < ks.length) (hA : AllowedP ks cs ol) :
    Calls Tryd.prog 23 #[histV pk pc ck cc ks cs, .slice po ol.length co, .int .i64 i] w fun e w' => EndsDone ks cs ol i w e w' :=
  (ends_new w pk pc ck cc ks cs hI po co ol hO hol i hi hA).mono fun _ _ ⟨q, c, xs, k, h, o, h1, h2, h3, h4, h5, h6, h7, _⟩ => ⟨q, c, xs, k, h, o, h1, h2, h3, h4, h5, h6, h7⟩

end Go.Proofs.YtoolpifkfgileaaDoor

/-
  Package hist: Turns.
-/
namespace Go.Proofs.YtoolpifkfgileaaDoor
open Go Go.RowKit Own

abbrev TTu : TypeId := 62
theorem info_turn : (Tryd.prog.info? TTu).map (fun i => (i.zero, i.size, i.bytes)) = some (some (.agg #[.int .i64 0, .bool false]), 2, 16) := by kernel_rfl
theorem turns_ty : Tryd.prog.underlying 63 = some (.slice TTu) := by kernel_rfl

def turnOf (c : Cl) : Int × Bool := (c.hart, c.till != -1 && c.code == 2)
def cellsT (l : List (Int × Bool)) : List Value := l.flatMap fun t => [.int .i64 t.1, .bool t.2]
theorem cellsT_length (l : List (Int × Bool)) : (cellsT l).length = l.length * 2 := by
  unfold cellsT
  induction l with
  | nil => rfl
  | cons x l ih => rw [List.flatMap_cons, List.length_append, ih, List.length_cons, List.length_cons, List.length_cons, List.length_nil]; omega
theorem cellsT_snoc (l : List (Int × Bool)) (x : Int × Bool) : cellsT (l ++ [x]) = cellsT l ++ [.int .i64 x.1, .bool x.2] := by simp [cellsT]
def turnsOf (cs : List Cl) (ol : List Int) : List (Int × Bool) := ol.map fun x => turnOf (nthC cs x.toNat)
theorem turnsOf_snoc {cs : List Cl} {ol : List Int} {i : Nat} (hi : i < ol.length) : turnsOf cs (ol.take (i + 1)) = turnsOf cs (ol.take i) ++ [turnOf (nthC cs (nth ol i).toNat)] := by
  unfold turnsOf
  rw [List.take_succ_eq_append_getElem hi, List.map_append, nth_eq hi]
  rfl

def TurnsDone (cs : List Cl) (ol : List Int) (w : World) (e : Ending) (w' : World) : Prop := ∃ p c, e = .returned (.slice p (List.length ol) c) ∧ Rd w' p (cellsT (turnsOf cs ol)) ∧ KeepBut (fun _ => False) w w'

set_option maxRecDepth 100000 in
set_option maxHeartbeats 16000000 in
theorem turns_any (w : World) (pk pc : Option Addr) (ck cc : Nat) (ks : List Int) (cs : List Cl) (hI : HistIn w pk pc ks cs) (po : Option Addr) (co : Nat) (ol : List Int) (hO : Rd w po (ints ol)) (hol : ol.length ≤ 16777216) (hA : AllowedP ks cs ol) :
    Calls Tryd.prog 28 #[histV pk pc ck cc ks cs, .slice po ol.length co] w fun e w' => TurnsDone cs ol w e w' := by
  obtain ⟨V, B, hV, hB, hb, hkV, hsV⟩ := fresh_block w (.cells #[.slice pk ks.length ck, .slice pc cs.length cc] THi)
  obtain ⟨b0, b1, -⟩ := blk2 hb
  have HT := Lib.hid (allowed_any V pk pc ck cc ks cs (hI.stay hkV) po co ol (hO.stay hkV) (by omega))
  have HK := Lib.hid hkV; have HB := Lib.hid hb; have HA := Lib.hid hA
  have HI := Lib.hid (hI.stay hkV); have HO := Lib.hid (hO.stay hkV)
  have HIX := Lib.hid (show ∀ i, i < ol.length → ∃ n : Nat, nth ol i = n ∧ n < cs.length by
    obtain ⟨h0, o, h1, h2⟩ := hA
    have h3 := ord_of o (chkH_ok.1 h0).2 h2
    intro i hi
    rw [← h1] at hi ⊢
    rw [natI_length] at hi
    refine ⟨o[i], ?_, h3.lt _ (List.getElem_mem hi)⟩
    rw [nth_eq (by rw [natI_length]; exact hi)]
    simp [natI])
  obtain ⟨i0, hi, hz0, hz1, hz2⟩ := info_parts info_turn
  have HI0 := Lib.hid hi; have HZ0 := Lib.hid hz0; have HZ1 := Lib.hid hz1; have HZ2 := Lib.hid hz2
  have hc60 := hI.c60
  unfold histV at HT ⊢
  clear hI hb hkV hsV hO hA hi hz0 hz1 hz2
  go_enter Tryd.func28, Tryd.ntmps28
  go_upto_region 1 with fail
  rw [← hV, ← hB]
  clear hV hB
  go_upto_region 3 with (go_at_call 19; refine HT.out.mono ?_; rintro e w2 ⟨v, rfl, hv, hk⟩; have hv2 := hv.2 HA.out; clear hv; subst hv2; have HK2 := Lib.hid hk; clear hk)
  clear b0 b1
  go_wp2_with fail
  go_loopw [5, 15] (fun v5 v15 wr => ∃ i : Nat, v15 = .int .i64 i ∧ i ≤ ol.length ∧ wr.ownsRow w2.heap.size TTu 2 v5 i (cellsT (turnsOf cs (ol.take i))) ∧ KeepBut (fun _ => False) w2 wr) (fun _ v _ => ol.length - (intOf v).toNat)
  case atStart => exact ⟨0, rfl, Nat.zero_le _, World.ownsRow_nil _ _ _ _, KeepBut.refl _ _⟩
  case round =>
    obtain ⟨i, rfl, hi, hrow, hk⟩ := hrel
    have HROW := Lib.hid hrow; have HKR := Lib.hid hk
    have hws := hk.size
    obtain ⟨b0, b1, -⟩ := blk2 ((HK2.out.trans hk).blk HB.out)
    by_cases hlt : i < ol.length
    · have hlti : (i : Int) < ol.length := by omega
      have hi0 : (0 : Int) ≤ i := by omega
      have hWi : IntKind.i64.wrap ((i : Int) + 1) = (i : Int) + 1 := IntWalk.i64_in _ (by omega)
      obtain ⟨n, hn, hnc⟩ := HIX.out i hlt
      have HN := Lib.hid hn
      obtain ⟨b, o, hp, -⟩ := HO.out.ptr (by rw [ints_length]; omega)
      subst hp
      have hc := (HO.out.stay (HK2.out.trans hk)).int i hlt
      rw [hn] at hc
      have hn0 : (0 : Int) ≤ n := by omega
      have hnci : (n : Int) < cs.length := by omega
      obtain ⟨g, o', hg, x0, x1, x2, x3, x4, x5, x6, x7⟩ := (HI.out.stay (HK2.out.trans hk)).calls n hnc
      subst hg
      obtain ⟨V9, B9, hV9, hB9, hb9, hk9, hs9⟩ := fresh_block wr (.cells (nthC cs n).vals.toArray TCl)
      have hv9 : (nthC cs n).vals.toArray = #[.int .i64 (nthC cs n).hart, .int .i64 (nthC cs n).cont, .int .i64 (nthC cs n).op, .int .i64 (nthC cs n).arg, .int .i64 (nthC cs n).beg, .int .i64 (nthC cs n).till, .int .i64 (nthC cs n).value, .int .i64 (nthC cs n).code] := rfl
      rw [hv9] at hV9 hb9
      have HK9 := Lib.hid hk9; have HB9 := Lib.hid hb9
      have HSN := Lib.hid (show turnsOf cs (ol.take (i + 1)) = turnsOf cs (ol.take i) ++ [turnOf (nthC cs n)] by rw [turnsOf_snoc hlt, HN.out]; rfl)
      have hVS : w2.heap.size ≤ V9.heap.size := by have := hk9.size; omega
      clear hrow hk hn hv9 hk9 hb9
      go_upto_region 8 with fail
      rw [← hV9, ← hB9]
      clear hV9 hB9 x0 x1 x2 x3 x4 x5 x6 x7 b0 b1 hc hs9
      obtain ⟨c0, c1, c2, c3, c4, c5, c6, c7⟩ := blk8 HB9.out
      by_cases ht : (nthC cs n).till = -1
      · have q1 : ((nthC cs n).till != -1) = false := by simp [ht]
        clear c1 c2 c3 c4 c6
        have HT1 := Lib.hid ht
        clear ht
        have HTF := Lib.hid (show turnOf (nthC cs n) = ((nthC cs n).hart, false) by unfold turnOf; simp [HT1.out])
        go_wp2_with (at_builtin; go_loud (refine wpList_append_own _ rfl (.tmp 24) (.tmp 36) 63 rfl w2.heap.size TTu i0 _ 2 16 turns_ty HI0.out HZ0.out HZ1.out HZ2.out rfl (by decide) u5 i (cellsT (turnsOf cs (ol.take i))) rfl ((row_keep HROW.out HK9.out).alloc _) ⟨V9.heap.size, 0, none⟩ 1 1 [.int .i64 (nthC cs n).hart, .bool false] rfl rfl (cellsAt (heap_alloc_new V9 _)) (by simp [Value.oneCell']) (by unfold maxLen; omega) (by omega) (by rw [World.size_alloc]; omega) ?_)
                     intro v' w' h1 h2 _
                     have H1 := Lib.hid h1; have H2 := Lib.hid h2
                     clear h1 h2)
        refine ⟨⟨i + 1, by simp, by omega, ?_, ?_⟩, by simp only [intOf]; omega⟩
        · rw [HSN.out, cellsT_snoc, HTF.out]; exact H1.out
        · exact ((HKR.out.trans HK9.out).trans (KeepBut.alloc (fun _ => False) V9 (.cells #[.int .i64 (nthC cs n).hart, .bool false] TTu))).new (KeepBut.grown (E := fun j => u5.ownBlock = some j) H2.out fun _ e => e) fun j hj => (HROW.out.lt j hj).1
      · have q1 : ((nthC cs n).till != -1) = true := by simpa using ht
        have HT1 := Lib.hid q1
        clear c1 c2 c3 c4 c6
        by_cases hd : (nthC cs n).code = 2
        · have q2 : ((nthC cs n).code == 2) = true := by simpa using hd
          have HT2 := Lib.hid q2
          clear hd
          have HTF := Lib.hid (show turnOf (nthC cs n) = ((nthC cs n).hart, true) by unfold turnOf; rw [HT1.out, HT2.out]; rfl)
          go_wp2_with (at_builtin; go_loud (refine wpList_append_own _ rfl (.tmp 24) (.tmp 36) 63 rfl w2.heap.size TTu i0 _ 2 16 turns_ty HI0.out HZ0.out HZ1.out HZ2.out rfl (by decide) u5 i (cellsT (turnsOf cs (ol.take i))) rfl ((row_keep HROW.out HK9.out).alloc _) ⟨V9.heap.size, 0, none⟩ 1 1 [.int .i64 (nthC cs n).hart, .bool true] rfl rfl (cellsAt (heap_alloc_new V9 _)) (by simp [Value.oneCell']) (by unfold maxLen; omega) (by omega) (by rw [World.size_alloc]; omega) ?_)
                       intro v' w' h1 h2 _
                       have H1 := Lib.hid h1; have H2 := Lib.hid h2
                       clear h1 h2)
          refine ⟨⟨i + 1, by simp, by omega, ?_, ?_⟩, by simp only [intOf]; omega⟩
          · rw [HSN.out, cellsT_snoc, HTF.out]; exact H1.out
          · exact ((HKR.out.trans HK9.out).trans (KeepBut.alloc (fun _ => False) V9 (.cells #[.int .i64 (nthC cs n).hart, .bool true] TTu))).new (KeepBut.grown (E := fun j => u5.ownBlock = some j) H2.out fun _ e => e) fun j hj => (HROW.out.lt j hj).1
        · have q2 : ((nthC cs n).code == 2) = false := by simpa using hd
          have HT2 := Lib.hid q2
          clear hd
          have HTF := Lib.hid (show turnOf (nthC cs n) = ((nthC cs n).hart, false) by unfold turnOf; rw [HT1.out, HT2.out]; rfl)
          go_wp2_with (at_builtin; go_loud (refine wpList_append_own _ rfl (.tmp 24) (.tmp 36) 63 rfl w2.heap.size TTu i0 _ 2 16 turns_ty HI0.out HZ0.out HZ1.out HZ2.out rfl (by decide) u5 i (cellsT (turnsOf cs (ol.take i))) rfl ((row_keep HROW.out HK9.out).alloc _) ⟨V9.heap.size, 0, none⟩ 1 1 [.int .i64 (nthC cs n).hart, .bool false] rfl rfl (cellsAt (heap_alloc_new V9 _)) (by simp [Value.oneCell']) (by unfold maxLen; omega) (by omega) (by rw [World.size_alloc]; omega) ?_)
                       intro v' w' h1 h2 _
                       have H1 := Lib.hid h1; have H2 := Lib.hid h2
                       clear h1 h2)
          refine ⟨⟨i + 1, by simp, by omega, ?_, ?_⟩, by simp only [intOf]; omega⟩
          · rw [HSN.out, cellsT_snoc, HTF.out]; exact H1.out
          · exact ((HKR.out.trans HK9.out).trans (KeepBut.alloc (fun _ => False) V9 (.cells #[.int .i64 (nthC cs n).hart, .bool false] TTu))).new (KeepBut.grown (E := fun j => u5.ownBlock = some j) H2.out fun _ e => e) fun j hj => (HROW.out.lt j hj).1
    · have hnl : ¬ (i : Int) < ol.length := by omega
      have e : i = ol.length := by omega
      subst e
      rw [List.take_length] at hrow
      obtain ⟨p, c, rfl, hrd, -⟩ := Rd.of_owns hrow
      have HRD := Lib.hid hrd
      clear hrow hrd hk
      go_wp2_with fail
      go_ret
      exact ⟨p, c, rfl, HRD.out, HK.out.trans (HK2.out.trans HKR.out)⟩

end Go.Proofs.YtoolpifkfgileaaDoor

/-
  Helpers of the statements: Same[int], Same[Turn].
-/
namespace Go.Proofs.YtoolpifkfgileaaDoor
open Go Go.RowKit Own

set_option maxHeartbeats 2000000 in
/-- fencepostkit.Same -/
theorem sameInt_any (w : World) (p q : Option Addr) (c d : Nat) (xs ys : List Int) (hx : Rd w p (ints xs)) (hy : Rd w q (ints ys)) (hlx : xs.length ≤ 1099511627776) (hly : ys.length ≤ 1099511627776) :
    Calls Tryd.prog 25 #[.slice p xs.length c, .slice q ys.length d] w fun e w' => e = .returned (.bool (decide (xs = ys))) ∧ KeepBut (fun _ => False) w w' := by
  by_cases hl : xs.length = ys.length
  · by_cases h0 : xs.length = 0
    · have h1 : xs = [] := List.eq_nil_of_length_eq_zero h0
      have h2 : ys = [] := List.eq_nil_of_length_eq_zero (by omega)
      subst h1 h2
      clear hx hy hl h0 hlx hly
      go_enter Tryd.func25, Tryd.ntmps25
      go_wp2_with fail
      go_loopw [5] (fun i wr => i = .int .i64 0 ∧ KeepBut (fun _ => False) w wr) (fun _ _ => 0)
      case atStart => exact ⟨rfl, KeepBut.refl _ w⟩
      case round =>
        obtain ⟨rfl, hd⟩ := hrel
        go_wp2_with fail
        go_ret
        exact ⟨rfl, hd⟩
    · obtain ⟨b, o, rfl, _⟩ := hx.ptr (by rw [ints_length]; omega)
      obtain ⟨b', o', rfl, _⟩ := hy.ptr (by rw [ints_length]; omega)
      have HX := Lib.hid hx; have HY := Lib.hid hy
      have hlI : (ys.length : Int) = xs.length := by omega
      have HL := Lib.hid hl
      clear hx hy hl h0
      go_enter Tryd.func25, Tryd.ntmps25
      go_wp2_with fail
      go_loopw [5] (fun i wr => ∃ k : Nat, k ≤ xs.length ∧ i = .int .i64 k ∧ agree xs ys k ∧ KeepBut (fun _ => False) w wr) (fun i _ => xs.length - (intOf i).toNat)
      case atStart => exact ⟨0, Nat.zero_le _, rfl, fun j hj => by omega, KeepBut.refl _ w⟩
      case round =>
        obtain ⟨k, hk, rfl, hag, hd⟩ := hrel
        have HA := Lib.hid hag; have HD := Lib.hid hd
        clear hag hd
        by_cases hlt : k < xs.length
        · have hltI : (k : Int) < (xs.length : Int) := by omega
          have c1 : ∀ w', KeepBut (fun _ => False) wr.drew w' → w'.cell? ⟨b, o + k, none⟩ = some (.int .i64 (nth xs k)) := fun w' h => (HX.out.stay ((HD.out.trans (KeepBut.drew _ wr)).trans h)).int k hlt
          have c2 : ∀ w', KeepBut (fun _ => False) wr.drew w' → w'.cell? ⟨b', o' + k, none⟩ = some (.int .i64 (nth ys k)) := fun w' h => (HY.out.stay ((HD.out.trans (KeepBut.drew _ wr)).trans h)).int k (by have := HL.out; omega)
          have h0k : (0 : Int) ≤ k := by omega
          have hW : IntKind.i64.wrap ((k : Int) + 1) = k + 1 := IntWalk.i64_in _ (by omega)
          by_cases heq : nth xs k = nth ys k
          · have hag' := Lib.hid (show agree xs ys (k + 1) from fun j hj => by
              rcases Nat.lt_or_ge j k with h | h
              · exact HA.out j h
              · rw [show j = k by omega]; exact heq)
            have hb : (nth xs k != nth ys k) = false := by simp [heq]
            clear heq
            go_upto_region 6 with fail
            refine wp_own0 (by kernel_rfl) (fun i => [[], [], [0, 1], [0, 1, 2], [], [], [4, 5], [4, 5, 6], [0, 1, 2, 3, 4, 5, 6, 7]].getD i []) (fun _ => []) (fun _ => []) [] (by kernel_rfl) (fun _ => none) ?_
            repeat
              apply lex_quiet rfl rfl
              · intro w' hk; go_simp; with_reducible rfl
              simp only [Act.put, List.setIfInBounds_toArray, List.set_cons_zero, List.set_cons_succ]
            refine lex_nil ?_
            intro w1 hk1 _ _
            have HD1 : Hid (KeepBut (fun _ => False) w w1) := (HD.out.trans (KeepBut.drew _ wr)).trans hk1
            clear c1 c2 hk1
            go_wp2_with fail
            refine ⟨⟨k + 1, by omega, by simp, hag'.out, HD1.out⟩, ?_⟩
            simp only [intOf]
            omega
          · have hne := Lib.hid (show decide (xs = ys) = false by simpa using agree_not heq)
            have hb : (nth xs k != nth ys k) = true := by simp [heq]
            clear heq
            go_upto_region 6 with fail
            refine wp_own0 (by kernel_rfl) (fun i => [[], [], [0, 1], [0, 1, 2], [], [], [4, 5], [4, 5, 6], [0, 1, 2, 3, 4, 5, 6, 7]].getD i []) (fun _ => []) (fun _ => []) [] (by kernel_rfl) (fun _ => none) ?_
            repeat
              apply lex_quiet rfl rfl
              · intro w' hk; go_simp; with_reducible rfl
              simp only [Act.put, List.setIfInBounds_toArray, List.set_cons_zero, List.set_cons_succ]
            refine lex_nil ?_
            intro w1 hk1 _ _
            have HD1 : Hid (KeepBut (fun _ => False) w w1) := (HD.out.trans (KeepBut.drew _ wr)).trans hk1
            clear c1 c2 hk1
            go_wp2_with fail
            go_ret
            exact ⟨ret_bool hne.out.symm, HD1.out⟩
        · have he := Lib.hid (show decide (xs = ys) = true by simpa using agree_all HL.out (by rw [show xs.length = k by omega]; exact HA.out))
          have hge : ¬ (k : Int) < (xs.length : Int) := by omega
          go_wp2_with fail
          go_ret
          exact ⟨ret_bool he.out.symm, HD.out⟩
  · have he := Lib.hid (show decide (xs = ys) = false by simpa using fun e => hl (by rw [e]))
    have hb : ((xs.length : Int) != (ys.length : Int)) = true := by simp; omega
    clear hx hy hl
    go_enter Tryd.func25, Tryd.ntmps25
    go_wp2_with fail
    go_ret
    exact ⟨ret_bool he.out.symm, KeepBut.refl _ _⟩

theorem cellsT_at : ∀ (l : List (Int × Bool)) (i k : Nat) (h : i < l.length), k < 2 → (cellsT l)[i * 2 + k]? = ([Value.int .i64 l[i].1, .bool l[i].2])[k]?
  | x :: l, 0, k, _, hk => by
    show (([Value.int .i64 x.1, .bool x.2]) ++ cellsT l)[0 * 2 + k]? = _
    rw [Nat.zero_mul, Nat.zero_add, List.getElem?_append_left (by simpa using hk)]
    rfl
  | x :: l, i + 1, k, h, hk => by
    show (([Value.int .i64 x.1, .bool x.2]) ++ cellsT l)[(i + 1) * 2 + k]? = _
    rw [List.getElem?_append_right (by simp; omega)]
    have e : (i + 1) * 2 + k - ([Value.int .i64 x.1, .bool x.2]).length = i * 2 + k := by simp; omega
    rw [e, cellsT_at l i k (by simpa using h) hk]
    rfl
theorem rdT_cells {w : World} {p : Option Addr} {l : List (Int × Bool)} (h : Rd w p (cellsT l)) (i : Nat) (hi : i < l.length) :
    ∃ g o, p = some ⟨g, o, none⟩ ∧ w.cell? ⟨g, o + i * 2, none⟩ = some (.int .i64 l[i].1) ∧ w.cell? ⟨g, o + i * 2 + 1, none⟩ = some (.bool l[i].2) := by
  obtain ⟨b, o, hp, h0⟩ := h (i * 2 + 0) _ (cellsT_at l i 0 hi (by decide))
  obtain ⟨b', o', hp', h1⟩ := h (i * 2 + 1) _ (cellsT_at l i 1 hi (by decide))
  rw [hp] at hp'
  cases hp'
  exact ⟨b, o, hp, h0, by rw [Nat.add_assoc]; exact h1⟩

theorem eqT (a : Int) (b : Bool) (w : World) : (Op.equalIn 10000 TTu (.agg #[.int .i64 a, .bool b]) (.agg #[.int .i64 a, .bool b])).run Tryd.prog w = .ok true w := by
  have u3 := Tryd.underlying3; have a3 := Tryd.isAgg3; have z3 := Tryd.sizeOf3
  have u9 := Tryd.underlying4; have a9 := Tryd.isAgg4; have z9 := Tryd.sizeOf4
  have hS : Tryd.prog.underlying TTu = some (.struct (Tryd.prog.fieldsOf TTu)) := by kernel_rfl
  rw [show (10000 : Nat) = 9999 + 1 from rfl, run_equalIn_agg w 9999 TTu _ _ hS (by kernel_rfl)]
  simp only [Program.fieldsOf, Tryd.underlying62]
  go_simp

set_option maxHeartbeats 4000000 in
theorem sameTurn_any (w : World) (p q : Option Addr) (c d : Nat) (l : List (Int × Bool)) (hx : Rd w p (cellsT l)) (hy : Rd w q (cellsT l)) (hl : l.length ≤ 1099511627776) :
    Calls Tryd.prog 27 #[.slice p l.length c, .slice q l.length d] w fun e w' => e = .returned (.bool true) ∧ KeepBut (fun _ => False) w w' := by
  have HX := Lib.hid hx; have HY := Lib.hid hy
  clear hx hy
  go_enter Tryd.func27, Tryd.ntmps27
  go_wp2_with fail
  go_loopw [5] (fun i wr => ∃ k : Nat, k ≤ l.length ∧ i = .int .i64 k ∧ KeepBut (fun _ => False) w wr) (fun i _ => l.length - (intOf i).toNat)
  case atStart => exact ⟨0, Nat.zero_le _, rfl, KeepBut.refl _ w⟩
  case round =>
    obtain ⟨k, hk, rfl, hd⟩ := hrel
    have HD := Lib.hid hd
    by_cases hlt : k < l.length
    · have hltI : (k : Int) < (l.length : Int) := by omega
      have h0k : (0 : Int) ≤ k := by omega
      have hW : IntKind.i64.wrap ((k : Int) + 1) = k + 1 := IntWalk.i64_in _ (by omega)
      obtain ⟨g, o, hp, x0, x1⟩ := rdT_cells (HX.out.stay hd) k hlt
      obtain ⟨g', o', hq, y0, y1⟩ := rdT_cells (HY.out.stay hd) k hlt
      subst hp; subst hq
      obtain ⟨⟨ta, tb⟩, ht⟩ : ∃ t, l[k] = t := ⟨_, rfl⟩
      rw [ht] at x0 x1 y0 y1
      dsimp only at x0 x1 y0 y1
      have heq : ∀ n, (binOp .neq TTu (.agg #[.int .i64 ta, .bool tb]) (.agg #[.int .i64 ta, .bool tb])).run Tryd.prog (wr.drewN n) = .ok (.bool false) (wr.drewN n) := fun n => by
        have h9 := eqT ta tb (wr.drewN n)
        simp only [binOp, Op.equal, Op.maxDepth, Sem.run_bind, h9, Result.andThen_ok]
        rfl
      clear ht hd
      go_upto_region 6 with fail
      go_quiet (fail)
      go_wp2_with fail
      exact ⟨⟨k + 1, by omega, by simp, HD.out.trans (KeepBut.drewN _ _ _)⟩, by simp only [intOf]; omega⟩
    · have hnl : ¬ (k : Int) < (l.length : Int) := by omega
      go_wp2_with fail
      go_ret
      exact ⟨rfl, HD.out⟩

end Go.Proofs.YtoolpifkfgileaaDoor
