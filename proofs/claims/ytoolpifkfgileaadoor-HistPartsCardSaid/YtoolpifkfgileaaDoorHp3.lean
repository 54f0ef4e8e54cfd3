/-
  In plain: what was seen up to some time is linear if the whole is.
-/
import Derived.Test.YtoolpifkfgileaaDoorHp2
namespace Go.Proofs.YtoolpifkfgileaaDoor
open Go Go.RowKit Own

/-- a call as it was seen up to a time -/
def truncC (t : Int) (c : Cl) : Cl := if t ≤ c.till then { c with till := -1, value := 0, code := 0 } else c
def cutH (t : Int) (cs : List Cl) : List Cl := (cs.filter fun c => decide (c.beg < t)).map (truncC t)
def keepC (t : Int) (c : Cl) : Bool := !(decide (t ≤ c.till) && decide (c.code = 2))

theorem trunc_beg (t : Int) (c : Cl) : (truncC t c).beg = c.beg := by unfold truncC; split <;> rfl
theorem trunc_hart (t : Int) (c : Cl) : (truncC t c).hart = c.hart := by unfold truncC; split <;> rfl
theorem trunc_good (ks : List Int) (t : Int) (c : Cl) : goodC ks (truncC t c) = goodC ks c := by unfold truncC; split <;> rfl
theorem trunc_till (t : Int) (c : Cl) : (truncC t c).till = -1 ∨ ((truncC t c).till = c.till ∧ truncC t c = c ∧ c.till < t) := by
  unfold truncC
  split
  · exact .inl rfl
  · exact .inr ⟨rfl, rfl, by omega⟩

theorem set_self (h : List (Int × List Int)) (m : Nat) : h.set m (nthK h m) = h := by
  unfold nthK
  rcases Nat.lt_or_ge m h.length with hm | hm
  · have e : h.getD m (0, []) = h[m] := by simp [List.getD, hm]
    rw [e]; exact List.set_getElem_self hm
  · exact List.set_eq_of_length_le hm

theorem may_full {k op : Int} {xs : List Int} {x v : Int} : (mayR k op xs x v 2).kind = k ∧ (mayR k op xs x v 2).items = xs := by
  unfold mayR
  rw [if_pos rfl]
  exact ⟨rfl, rfl⟩
theorem may_does {k op : Int} {xs : List Int} {x v cd : Int} (hc : cd ≠ 2) (h : (mayR k op xs x v cd).ok = true) : (doR k op xs x).err = 0 ∧ (mayR k op xs x v cd).kind = (doR k op xs x).kind ∧ (mayR k op xs x v cd).items = (doR k op xs x).items := by
  unfold mayR at h ⊢
  rw [if_neg hc] at h ⊢
  split at h
  · rename_i h1
    rw [if_pos h1]
    exact ⟨h1.1, rfl, rfl⟩
  · cases h

theorem step_cut {t : Int} (ht : 0 ≤ t) {h h' : List (Int × List Int)} {c : Cl} (hs : stepC h c = some h') : if keepC t c = true then stepC h (truncC t c) = some h' else h' = h := by
  by_cases h1 : t ≤ c.till
  · have hne : c.till ≠ -1 := by omega
    by_cases h2 : c.code = 2
    · have hk : keepC t c = false := by simp [keepC, h1, h2]
      rw [hk, if_neg Bool.false_ne_true]
      unfold stepC step1 at hs
      rw [if_neg hne, h2] at hs
      split at hs
      · rw [may_full.1, may_full.2] at hs
        have := Option.some.inj hs
        rw [← this]
        exact set_self h _
      · cases hs
    · have hk : keepC t c = true := by simp [keepC, h2]
      rw [hk, if_pos rfl]
      have e : truncC t c = { c with till := -1, value := 0, code := 0 } := by unfold truncC; rw [if_pos h1]
      rw [e]
      unfold stepC step1 at hs ⊢
      rw [if_neg hne] at hs
      dsimp only
      rw [if_pos rfl]
      split at hs
      · rename_i h3
        obtain ⟨e1, e2, e3⟩ := may_does h2 h3
        rw [if_pos e1, ← e2, ← e3]
        exact hs
      · cases hs
  · have hk : keepC t c = true := by simp [keepC, h1]
    have e : truncC t c = c := by unfold truncC; rw [if_neg h1]
    rw [hk, if_pos rfl, e]
    exact hs

theorem fold_cut {t : Int} (ht : 0 ≤ t) : ∀ (o : List Cl) (h h' : List (Int × List Int)), foldC h o = some h' → foldC h ((o.filter (keepC t)).map (truncC t)) = some h'
  | [], _, _, hs => hs
  | c :: o, h, h', hs => by
    unfold foldC at hs
    cases hx : stepC h c with
    | none => rw [hx] at hs; cases hs
    | some h1 =>
      rw [hx] at hs
      have ih := fold_cut ht o h1 h' hs
      have hc := step_cut ht hx
      rw [List.filter_cons]
      split at hc
      · rename_i hk
        rw [if_pos hk, List.map_cons]
        unfold foldC
        rw [hc]
        exact ih
      · rename_i hk
        rw [if_neg hk, ← hc]
        exact ih

theorem fold_append : ∀ (p q : List Cl) (h : List (Int × List Int)), (foldC h (p ++ q)).isSome = true → (foldC h p).isSome = true
  | [], _, _, _ => rfl
  | c :: p, q, h, hs => by
    rw [List.cons_append] at hs
    unfold foldC at hs ⊢
    cases hx : stepC h c with
    | none => rw [hx] at hs; cases hs
    | some h1 =>
      rw [hx] at hs
      exact fold_append p q h1 hs

theorem good_cut {ks : List Int} {cs : List Cl} {t : Int} (ht : 0 ≤ t) (h : GoodH ks cs) : GoodH ks (cutH t cs) := by
  refine ⟨h.kinds, fun c hc => ?_, ?_⟩
  · obtain ⟨c, hc0, rfl⟩ := List.mem_map.1 hc
    have h1 := h.each c (List.mem_filter.1 hc0).1
    refine ⟨by rw [trunc_good]; exact h1.1, fun e => ?_, fun e => ?_⟩
    · unfold truncC at e ⊢
      split
      · exact ⟨rfl, rfl⟩
      · rename_i h2
        rw [if_neg h2] at e
        exact h1.2.1 e
    · rcases trunc_till t c with h2 | ⟨h2, h3, -⟩
      · exact absurd h2 e
      · rw [h3] at e ⊢
        exact h1.2.2 e
  · unfold cutH
    rw [map_pair]
    refine (h.pair.filter (fun c => decide (c.beg < t))).imp_of_mem fun {a b} ha hb hab => ?_
    have hbt : b.beg < t := of_decide_eq_true (List.mem_filter.1 hb).2
    obtain ⟨a1, a2, a3, a4, a5⟩ := hab
    unfold Apart
    rw [trunc_beg, trunc_beg, trunc_hart, trunc_hart]
    refine ⟨a1, fun e => ?_, fun e => ?_, fun e e' => ?_, fun e => ?_⟩
    · rcases trunc_till t a with h2 | ⟨h2, -, -⟩
      · exact absurd h2 e
      · rw [h2] at e ⊢; exact a2 e
    · rcases trunc_till t b with h2 | ⟨h2, -, -⟩
      · exact absurd h2 e
      · rw [h2] at e ⊢; exact a3 e
    · rcases trunc_till t a with h2 | ⟨h2, -, -⟩
      · exact absurd h2 e
      · rcases trunc_till t b with h3 | ⟨h3, -, -⟩
        · exact absurd h3 e'
        · rw [h2] at e ⊢; rw [h3] at e' ⊢; exact a4 e e'
    · obtain ⟨h2, h3⟩ := a5 e
      have e2 : truncC t a = a := by unfold truncC; rw [if_neg (by omega)]
      rw [e2]
      exact ⟨h2, h3⟩

theorem ahead_cut {t : Int} {a b : Cl} (h : aheadC b a = false) : aheadC (truncC t b) (truncC t a) = false := by
  unfold aheadC at h ⊢
  rw [trunc_beg]
  rcases trunc_till t b with h2 | ⟨h2, -, -⟩
  · rw [h2]; rfl
  · rw [h2]; exact h

theorem drop_head {p : Cl → Bool} : ∀ {o : List Cl} {d : Cl} {q : List Cl}, o.dropWhile p = d :: q → p d = false
  | [], d, q, h => by simp at h
  | x :: o, d, q, h => by
    rw [List.dropWhile_cons] at h
    split at h
    · exact drop_head h
    · rename_i h1
      cases h
      simpa using h1

theorem ord_cut {ks : List Int} {cs o : List Cl} {h0 : List (Int × List Int)} {t : Int} (ht : 0 ≤ t) (hg : GoodH ks cs) (h : OrdC h0 cs o) :
    OrdC h0 (cutH t cs) (((o.takeWhile fun c => decide (c.beg < t)).filter (keepC t)).map (truncC t)) := by
  have hsub : (o.takeWhile fun c => decide (c.beg < t)).Sublist o := List.takeWhile_sublist _
  have hsplit : o.takeWhile (fun c => decide (c.beg < t)) ++ o.dropWhile (fun c => decide (c.beg < t)) = o := List.takeWhile_append_dropWhile
  refine ⟨fun c hc => ?_, fun c hc hne => ?_, ?_, ?_⟩
  · obtain ⟨c, hc0, rfl⟩ := List.mem_map.1 hc
    have h1 := (List.mem_filter.1 hc0).1
    exact List.mem_map.2 ⟨c, List.mem_filter.2 ⟨h.sub c (hsub.mem h1), (List.all_eq_true.1 (List.all_takeWhile (p := fun c : Cl => decide (c.beg < t)) (l := o))) c h1⟩, rfl⟩
  · obtain ⟨c, hc0, rfl⟩ := List.mem_map.1 hc
    obtain ⟨hc1, hc2⟩ := List.mem_filter.1 hc0
    have hc2 : c.beg < t := of_decide_eq_true hc2
    rcases trunc_till t c with h2 | ⟨h2, h3, h4⟩
    · exact absurd h2 hne
    · rw [h3] at hne ⊢
      have hin := h.ended c hc1 hne
      rw [← hsplit] at hin
      rcases List.mem_append.1 hin with h5 | h5
      · exact List.mem_map.2 ⟨c, List.mem_filter.2 ⟨h5, by simp [keepC]; omega⟩, h3⟩
      · exfalso
        have hp := h.pair
        rw [← hsplit] at hp
        have hp := (List.pairwise_append.1 hp).2.1
        cases hd : o.dropWhile (fun c => decide (c.beg < t)) with
        | nil => rw [hd] at h5; cases h5
        | cons d q =>
          have hdf := drop_head hd
          have hdf : ¬ d.beg < t := of_decide_eq_false hdf
          rw [hd] at h5 hp
          rcases List.mem_cons.1 h5 with e | h6
          · rw [e] at hc2; exact hdf hc2
          · have h7 := ((List.pairwise_cons.1 hp).1 c h6).2
            have h8 := (hg.each c hc1).2.2 hne
            have h9 := good_beg (hg.each c hc1)
            have : aheadC c d = true := by
              unfold aheadC
              rw [decide_eq_true (by omega), decide_eq_true (by omega)]
              rfl
            rw [this] at h7
            cases h7
  · rw [map_pair]
    refine ((h.pair.sublist hsub).filter (keepC t)).imp fun {a b} hab => ?_
    rw [trunc_beg, trunc_beg]
    exact ⟨hab.1, ahead_cut hab.2⟩
  · have h1 := h.run
    rw [← hsplit] at h1
    have h2 := fold_append _ _ _ h1
    obtain ⟨h', h3⟩ := Option.isSome_iff_exists.1 h2
    rw [fold_cut ht _ _ _ h3]
    rfl

theorem lin_cut {ks : List Int} {cs : List Cl} {t : Int} (ht : 0 ≤ t) (h : LinH ks cs) : LinH ks (cutH t cs) := by
  obtain ⟨⟨hg, hl⟩, o, ho⟩ := h
  refine ⟨⟨good_cut ht hg, ?_⟩, _, ord_cut ht hg ho⟩
  unfold cutH
  rw [List.length_map]
  exact Nat.le_trans (List.length_filter_le _ _) hl

end Go.Proofs.YtoolpifkfgileaaDoor
