/-
  Chapter 29: rows of calls; Own[int].
-/
import Derived.Test.YtoolpifkfgileaaDoorHiF
import Derived.Test.YtoolpifkfgileaaDoorPick
import Derived.Test.YtoolpifkfgileaaDoorOwnC
namespace Go.Proofs.YtoolpifkfgileaaDoor
open Go Go.RowKit Own

abbrev TCl : TypeId := 33
abbrev THi : TypeId := 25
theorem info_call : (Tryd.prog.info? TCl).map (fun i => (i.zero, i.size, i.bytes)) = some (some (.agg #[.int .i64 0, .int .i64 0, .int .i64 0, .int .i64 0, .int .i64 0, .int .i64 0, .int .i64 0, .int .i64 0]), 8, 64) := by kernel_rfl
theorem calls_ty : Tryd.prog.underlying 23 = some (.slice TCl) := by kernel_rfl

def cellsC (l : List Cl) : List Value := l.flatMap Cl.vals
theorem vals_length (c : Cl) : c.vals.length = 8 := rfl
theorem cellsC_length (l : List Cl) : (cellsC l).length = l.length * 8 := by
  unfold cellsC
  induction l with
  | nil => rfl
  | cons x l ih => rw [List.flatMap_cons, List.length_append, ih, List.length_cons, vals_length]; omega
theorem cellsC_snoc (l : List Cl) (x : Cl) : cellsC (l ++ [x]) = cellsC l ++ x.vals := by simp [cellsC]
theorem cellsC_at : ∀ (l : List Cl) (i k : Nat), i < l.length → k < 8 → (cellsC l)[i * 8 + k]? = ((nthC l i).vals)[k]?
  | x :: l, 0, k, _, hk => by
    show (x.vals ++ cellsC l)[0 * 8 + k]? = _
    rw [Nat.zero_mul, Nat.zero_add, List.getElem?_append_left (by rw [vals_length]; exact hk)]
    rfl
  | x :: l, i + 1, k, h, hk => by
    show (x.vals ++ cellsC l)[(i + 1) * 8 + k]? = _
    rw [List.getElem?_append_right (by rw [vals_length]; omega)]
    have e : (i + 1) * 8 + k - x.vals.length = i * 8 + k := by rw [vals_length]; omega
    rw [e, cellsC_at l i k (by simpa using h) hk]
    rfl
theorem cellsC_one (l : List Cl) : ∀ u ∈ cellsC l, u.oneCell' = true := fun u hu => by
  obtain ⟨t, _, h⟩ := List.mem_flatMap.1 hu
  simp only [Cl.vals, List.mem_cons, List.not_mem_nil, or_false] at h
  rcases h with rfl | rfl | rfl | rfl | rfl | rfl | rfl | rfl <;> rfl

theorem rowC_of_rd {w : World} {p : Option Addr} {l : List Cl} (h : Rd w p (cellsC l)) : RowC w p l := fun i hi => by
  obtain ⟨g, o, hp, h0⟩ := h (i * 8 + 0) _ (cellsC_at l i 0 hi (by decide))
  subst hp
  have hc : ∀ k v, k < 8 → ((nthC l i).vals)[k]? = some v → w.cell? ⟨g, o + i * 8 + k, none⟩ = some v := fun k v hk hv => by
    have := h.cell (i * 8 + k) v ((cellsC_at l i k hi hk).trans hv)
    rwa [← Nat.add_assoc] at this
  exact ⟨g, o, rfl, hc 0 _ (by decide) rfl, hc 1 _ (by decide) rfl, hc 2 _ (by decide) rfl, hc 3 _ (by decide) rfl, hc 4 _ (by decide) rfl, hc 5 _ (by decide) rfl, hc 6 _ (by decide) rfl, hc 7 _ (by decide) rfl⟩
theorem rd_of_rowC {w : World} {p : Option Addr} {l : List Cl} (h : RowC w p l) : Rd w p (cellsC l) := fun j v hj => by
  have hlt := (List.getElem?_eq_some_iff.1 hj).1
  rw [cellsC_length] at hlt
  have hi : j / 8 < l.length := by omega
  obtain ⟨g, o, hp, h0, h1, h2, h3, h4, h5, h6, h7⟩ := h (j / 8) hi
  refine ⟨g, o, hp, ?_⟩
  have hd : j / 8 * 8 + j % 8 = j := by omega
  have hk : j % 8 < 8 := Nat.mod_lt _ (by decide)
  have hv := cellsC_at l (j / 8) (j % 8) hi hk
  rw [hd, hj] at hv
  have e : o + j = o + j / 8 * 8 + j % 8 := by omega
  rw [e]
  match hm : j % 8, hk with
  | 0, _ => rw [hm] at hv; cases hv; exact h0
  | 1, _ => rw [hm] at hv; cases hv; exact h1
  | 2, _ => rw [hm] at hv; cases hv; exact h2
  | 3, _ => rw [hm] at hv; cases hv; exact h3
  | 4, _ => rw [hm] at hv; cases hv; exact h4
  | 5, _ => rw [hm] at hv; cases hv; exact h5
  | 6, _ => rw [hm] at hv; cases hv; exact h6
  | 7, _ => rw [hm] at hv; cases hv; exact h7

theorem drop_nth {cs : List Cl} {i : Nat} (h : i < cs.length) : cs.take (i + 1) = cs.take i ++ [nthC cs i] := by
  rw [List.take_succ_eq_append_getElem h, nthC_eq h]

theorem ownInt_any (w : World) (p : Option Addr) (c : Nat) (xs : List Int) (hrd : Rd w p (ints xs)) (hl : xs.length ≤ 1099511627776) :
    Calls Tryd.prog 15 #[.slice p xs.length c] w fun e w' => ∃ p' c', e = .returned (.slice p' xs.length c') ∧ OwnI 3 w.heap.size w' p' c' xs ∧ KeepBut (fun _ => False) w w' := by
  cases p with
  | none =>
    have : xs = [] := by
      apply Classical.byContradiction; intro h
      obtain ⟨b, o, h1, _⟩ := hrd.ptr (by rw [ints_length]; exact nil_of_length h)
      cases h1
    subst this
    go_enter Tryd.func15, Tryd.ntmps15
    go_wp2_with fail
    go_ret
    exact ⟨some ⟨w.heap.size, 0, none⟩, 0, rfl, OwnI.mk (xs := []) (Nat.le_refl _) (heap_alloc_new w _) (by decide) (by decide) rfl, KeepBut.alloc _ _ _⟩
  | some a =>
    have hA := KeepBut.alloc (fun _ => False) w (.cells #[] 3)
    have hz := Lib.hid (rd_adds (hrd.stay hA))
    have ho := Lib.hid (show OwnI 3 0 (w.alloc (.cells #[] 3)) (some ⟨w.heap.size, 0, none⟩) 0 [] from OwnI.mk (xs := []) (Nat.zero_le _) (heap_alloc_new w _) (by decide) (by decide) rfl)
    clear hrd
    go_enter Tryd.func15, Tryd.ntmps15
    go_wp2_with (at_builtin; refine wpList_appendN rfl (.tmp 3) (.tmp 4) 22 rfl 3 (some ⟨w.heap.size, 0, none⟩) 0 0 [] xs rfl a _ c rfl rfl rfl Tryd.underlying22 info_int3 ho.out hz.out (by simp; omega) ?_
                 intro p' c' w' h1 h2 h3
                 have HQ := Lib.hid (And.intro h1 (And.intro h2 h3))
                 clear h1 h2 h3)
    go_ret
    obtain ⟨h1, h2, h3⟩ := HQ.out
    refine ⟨p', c', by simp, (by simpa using h1 : OwnI 3 0 w' p' c' xs).base fun a' ha => ?_, (hA.new h2 fun b hb => ?_)⟩
    · rcases h3 a'.block ⟨a', ha, rfl⟩ with hb | hb
      · rw [Of.some_iff.1 hb]
        exact Nat.le_refl _
      · simp at hb; omega
    · rw [Of.some_iff.1 hb]
      exact Nat.le_refl _

end Go.Proofs.YtoolpifkfgileaaDoor
