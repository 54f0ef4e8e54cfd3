/-
  rows of tokens of one's own: fencepostkit.Own of tokens; append.
-/
import Derived.Test.YtmklmlocldbaoaaDoorLike
import Derived.OwnWalk
namespace Go.Proofs.YtmklmlocldbaoaaDoor
open Go Go.RowKit Own

abbrev TT : TypeId := 30
def gC (t : G) : List Value := [.int .i64 t.k, .string t.s, .int .i64 t.n, .int .i64 t.l, .int .i64 t.c]
def cellsG (l : List G) : List Value := l.flatMap gC
theorem cellsG_append (a b : List G) : cellsG (a ++ b) = cellsG a ++ cellsG b := by simp [cellsG]
theorem cellsG_length (l : List G) : (cellsG l).length = l.length * 5 := by
  unfold cellsG
  induction l with
  | nil => rfl
  | cons x l ih => rw [List.flatMap_cons, List.length_append, ih, List.length_cons]; simp only [gC, List.length_cons, List.length_nil]; omega
theorem cellsG_at : ∀ (l : List G) (i k : Nat) (h : i < l.length), k < 5 → (cellsG l)[i * 5 + k]? = (gC l[i])[k]?
  | x :: l, 0, k, _, hk => by
    show (gC x ++ cellsG l)[0 * 5 + k]? = _
    rw [Nat.zero_mul, Nat.zero_add, List.getElem?_append_left (by simpa [gC] using hk)]
    rfl
  | x :: l, i + 1, k, h, hk => by
    show (gC x ++ cellsG l)[(i + 1) * 5 + k]? = _
    rw [List.getElem?_append_right (by simp [gC]; omega)]
    have e : (i + 1) * 5 + k - (gC x).length = i * 5 + k := by simp [gC]; omega
    rw [e, cellsG_at l i k (by simpa using h) hk]
    rfl
theorem cellsG_one (l : List G) : ∀ u ∈ cellsG l, u.oneCell' = true := fun u hu => by
  obtain ⟨t, _, h⟩ := List.mem_flatMap.1 hu
  simp only [gC, List.mem_cons, List.not_mem_nil, or_false] at h
  rcases h with rfl | rfl | rfl | rfl | rfl <;> rfl

theorem RowG.of_owns {w : World} {base : Nat} {v : Value} {l : List G} (h : w.ownsRow base TT 5 v l.length (cellsG l)) :
    ∃ p cap, v = .slice p l.length cap ∧ RowG w p l := by
  rcases h.2 with ⟨rfl, h0⟩ | ⟨g, cap, cur, rfl, hb, hg, h1, h2, h3, h4⟩
  · exact ⟨none, 0, by rw [h0], fun i hi => absurd hi (by omega)⟩
  · refine ⟨some ⟨g, 0, none⟩, cap, rfl, fun i hi => ⟨g, 0, rfl, ?_⟩⟩
    have hc : ∀ k u, k < 5 → (gC l[i])[k]? = some u → w.cell? ⟨g, i * 5 + k, none⟩ = some u := fun k u hk hu => by
      refine blk_cell hg ?_
      have e := cellsG_at l i k hi hk
      rw [hu, ← h4, List.getElem?_take] at e
      split at e
      · simpa using e
      · cases e
    simp only [Nat.zero_add]
    exact ⟨hc 0 _ (by decide) rfl, hc 1 _ (by decide) rfl, hc 2 _ (by decide) rfl, hc 3 _ (by decide) rfl, hc 4 _ (by decide) rfl⟩

theorem RowG.adds {w : World} {a : Addr} {l : List G} (h : RowG w (some a) l) : ∀ j u, (cellsG l)[j]? = some u → w.cell? (a.add j) = some u := fun j u hu => by
  have hj : j < l.length * 5 := by rw [← cellsG_length]; exact (List.getElem?_eq_some_iff.1 hu).1
  have hi : j / 5 < l.length := by omega
  obtain ⟨g, o, e, x0, x1, x2, x3, x4⟩ := h (j / 5) hi
  cases e
  have hd : j / 5 * 5 + j % 5 = j := by omega
  have hk : j % 5 < 5 := Nat.mod_lt _ (by decide)
  have e := cellsG_at l (j / 5) (j % 5) hi hk
  rw [hd, hu] at e
  rw [add_off, ← hd]
  obtain ⟨k, hk'⟩ : ∃ k, j % 5 = k := ⟨_, rfl⟩
  rw [hk'] at e hk ⊢
  match k, hk with
  | 0, _ => cases e; exact x0
  | 1, _ => cases e; rw [← Nat.add_assoc]; exact x1
  | 2, _ => cases e; rw [← Nat.add_assoc]; exact x2
  | 3, _ => cases e; rw [← Nat.add_assoc]; exact x3
  | 4, _ => cases e; rw [← Nat.add_assoc]; exact x4

theorem RowG.nil {w : World} {l : List G} (h : RowG w none l) : l = [] := by
  cases l with
  | nil => rfl
  | cons x l =>
    obtain ⟨g, o, e, _⟩ := h 0 (by simp)
    cases e

theorem tt_slice : Tryd.prog.underlying 23 = some (.slice TT) := by kernel_rfl

/-- append of tokens that are read, to a row of one's own, at the operation -/
theorem wpList_appendT {w : World} {ops : Array Oper} {rest : List Oper} {o : Oper} {a : Act} {Q : Exit → Act → World → Prop} (hgd : Region.wanted o (yielded ops a.tmps) = true) (s x : Operand)
    (ho : o.op = .call { callee := .builtin .append, args := #[s, x], argTypes := #[23, 23] }) (B : Nat) (v : Value) (n : Nat) (xs ys : List G) (hn : n = xs.length)
    (hs : a.eval s = v) (hown : w.ownsRow B TT 5 v n (cellsG xs)) (ad : Addr) (c : Nat) (hx : a.eval x = .slice (some ad) ys.length c) (hr : RowG w (some ad) ys) (hl : xs.length + ys.length ≤ 1099511627776) (hB : B ≤ w.heap.size)
    (h : ∀ v' w', w'.ownsRow B TT 5 v' (xs ++ ys).length (cellsG (xs ++ ys)) → w.grownBy w' v.ownBlock → wpList Tryd.prog ops Q rest (a.put o.dst v') w') : wpList Tryd.prog ops Q (o :: rest) a w := by
  subst hn
  obtain ⟨i0, hi, hz0, hz1, hz2⟩ := info_parts info_token
  refine BigFrame.wpList_want hgd fun K hK => wp_append_own w s x _ ho B TT i0 _ 5 48 tt_slice hi hz0 hz1 hz2 rfl (by decide) v xs.length (cellsG xs) hs hown ad ys.length c (cellsG ys) hx (cellsG_length ys) hr.adds (cellsG_one ys) (by unfold maxLen; omega) (by omega) hB ?_
  intro v' w' h1 h2 _
  refine hK _ _ (h v' w' ?_ h2)
  rw [List.length_append, cellsG_append]
  exact h1

theorem own_tok (w : World) (p : Option Addr) (c : Nat) (l : List G) (hrd : RowG w p l) (hl : l.length ≤ 1099511627776) :
    Calls Tryd.prog 13 #[.slice p l.length c] w fun e w' => ∃ v', e = .returned v' ∧ w'.ownsRow w.heap.size TT 5 v' l.length (cellsG l) ∧ Below w.heap.size w w' := by
  cases p with
  | none =>
    have := hrd.nil
    subst this
    go_enter Tryd.func13, Tryd.ntmps13
    go_wp2_with fail
    go_ret
    exact ⟨_, rfl, ⟨rfl, .inr ⟨w.heap.size, 0, #[], rfl, Nat.le_refl _, heap_alloc_new w _, Nat.le_refl _, Nat.zero_le _, rfl, rfl⟩⟩, (Below.refl _ _).alloc (Nat.le_refl _) _⟩
  | some a =>
    have hA := KeepBut.alloc (fun _ => False) w (.cells #[] TT)
    have hr := Lib.hid (hrd.stay hA)
    have ho := Lib.hid (show (w.alloc (.cells #[] TT)).ownsRow w.heap.size TT 5 (.slice (some ⟨w.heap.size, 0, none⟩) 0 0) 0 (cellsG []) from ⟨rfl, .inr ⟨w.heap.size, 0, #[], rfl, Nat.le_refl _, heap_alloc_new w _, Nat.le_refl _, Nat.zero_le _, rfl, rfl⟩⟩)
    clear hrd
    go_enter Tryd.func13, Tryd.ntmps13
    go_wp2_with (at_builtin; refine wpList_appendT rfl (.tmp 3) (.tmp 4) rfl w.heap.size (.slice (some ⟨w.heap.size, 0, none⟩) 0 0) 0 [] l rfl rfl ho.out a c rfl hr.out (by simp; omega) (by simp) ?_
                 intro v' w' h1 h2
                 have H1 := Lib.hid h1; have H2 := Lib.hid h2
                 clear h1 h2)
    go_ret
    exact ⟨v', rfl, by simpa using H1.out, ((Below.refl w.heap.size w).alloc (Nat.le_refl _) _).grown H2.out (by simp) (fun k hk => by cases hk; exact Nat.le_refl _)⟩

end Go.Proofs.YtmklmlocldbaoaaDoor
