/- Joined texts of this work: Sl, Ins, Loud, Spec1. -/
import Derived.Test.YtoolpifkfgileaaDoorJo2
import Derived.Test.YtoolpifkfgileaaDoorRows
import Derived.WalkSpells
import Derived.WalkLawsBesides
import Derived.Deep.QuietTactic
import Derived.BigQuiet
import Derived.Lib.Hide
import Derived.Shelf.Spec.SlicesInsert
import Derived.Lib.AppendZerosOnto
import Derived.Lib.Overlaps
import Derived.Maps.AppendAt
import Derived.KernelRfl
import Derived.Deep.MidRow

/-
  The library's functions on []int64 that the program calls: what each returns and what it does to memory.
-/
namespace Go.Proofs.YtoolpifkfgileaaDoor
open Go Go.RowKit Own

/-- no element is smaller than the one before it, from place k on -/
def AscFrom (xs : List Int) (k : Nat) : Prop := ∀ j, k ≤ j → j + 1 < xs.length → nth xs j ≤ nth xs (j+1)
instance (xs : List Int) (k : Nat) : Decidable (AscFrom xs k) := decidable_of_iff (∀ j, j < xs.length → (k ≤ j → j + 1 < xs.length → nth xs j ≤ nth xs (j+1))) ⟨fun h j a b => h j (by omega) a b, fun h j _ a b => h j a b⟩
/-- the numbers rise, or stay -/
def ascB (xs : List Int) : Bool := decide (AscFrom xs 0)

theorem less_any (a b : Int) (w : World) :
    Calls Tryd.prog 81 #[.int .i64 a, .int .i64 b] w fun e w' => e = .returned (.bool (decide (a < b))) ∧ w' = w := Tryd.cmp_Less_int2 a b w

set_option maxHeartbeats 1000000 in
theorem sorted_cons (w : World) (b off : Nat) (xs : List Int) (cap : Nat) (hrd : Rd w (some ⟨b, off, none⟩) (ints xs)) (hl : xs.length ≤ 1099511627776) (hpos : 0 < xs.length) :
    Calls Tryd.prog 69 #[.slice (some ⟨b, off, none⟩) xs.length cap] w fun e w' => e = .returned (.bool (ascB xs)) ∧ Drew w w' := by
  have HR := Lib.hid hrd
  clear hrd
  go_enter Tryd.func69, Tryd.ntmps69
  go_wp2_with fail
  go_loopw [3] (fun i wr => ∃ k : Nat, k < xs.length ∧ i = .int .i64 k ∧ AscFrom xs k ∧ Drew w wr) (fun i _ => (intOf i).toNat)
  case atStart => exact ⟨xs.length - 1, by omega, by congr 1; omega, fun j a b => by omega, Drew.refl w⟩
  case round =>
    obtain ⟨k, hk, rfl, hs, hd⟩ := hrel
    have HS := Lib.hid hs
    have HD := Lib.hid hd
    clear hs hd
    rcases Nat.eq_zero_or_pos k with rfl | hkp
    · go_wp2_with fail
      go_ret
      exact ⟨by simp [ascB, HS.out], HD.out⟩
    · obtain ⟨m, rfl⟩ : ∃ m, k = m + 1 := ⟨k-1, by omega⟩
      have h1 := (HD.out.rd HR.out).int (m+1) hk
      have h2 := (HD.out.rd HR.out).int m (by omega)
      have i1 : (0:Int) ≤ (m:Int) := by omega
      have i0 : (0:Int) ≤ (m:Int) + 1 := by omega
      have i2 : (m:Int) + 1 < (xs.length:Int) := by omega
      have i3 : (m:Int) < (xs.length:Int) := by omega
      have hW : IntKind.i64.wrap (m:Int) = m := IntWalk.i64_in _ (by omega)
      go_wp2_with fail
      go_quiet ((go_at_call 81; exact Calls.quiet_of_same (less_any _ _ _)))
      by_cases hlt : nth xs (m+1) < nth xs m
      · have hd : decide (nth xs (m+1) < nth xs m) = true := by simpa using hlt
        go_wp2_with fail
        go_ret
        refine ⟨?_, HD.out.drewN _⟩
        have : ¬ AscFrom xs 0 := fun h => by have := h m (by omega) (by omega); omega
        simp [ascB, this]
      · have hd : decide (nth xs (m+1) < nth xs m) = false := by simpa using hlt
        go_wp2_with fail
        go_roundw
        case rel =>
          refine ⟨m, by omega, by go_num, ?_, HD.out.drewN _⟩
          intro j a b
          rcases Nat.lt_or_ge m j with h | h
          · exact HS.out j (by omega) b
          · obtain rfl : j = m := by omega
            omega
        case measure => simp [intOf]

set_option maxHeartbeats 1000000 in
theorem sorted_none (w : World) (p : Option Addr) (cap : Nat) :
    Calls Tryd.prog 69 #[.slice p 0 cap] w fun e w' => e = .returned (.bool true) ∧ Drew w w' := by
  go_enter Tryd.func69, Tryd.ntmps69
  go_wp2_with fail
  refine wp_loop_rounds 1 ?_
  rw [rounds_succ]
  go_wp2_with fail
  go_ret
  exact ⟨rfl, Drew.refl w⟩

theorem isSorted_any (w : World) (p : Option Addr) (xs : List Int) (cap : Nat) (hrd : Rd w p (ints xs)) (hl : xs.length ≤ 1099511627776) :
    Calls Tryd.prog 69 #[.slice p xs.length cap] w fun e w' => e = .returned (.bool (ascB xs)) ∧ Drew w w' := by
  rcases Nat.eq_zero_or_pos xs.length with h | h
  · have : xs = [] := List.eq_nil_of_length_eq_zero h
    subst this
    exact sorted_none w p cap
  · obtain ⟨b, o, rfl, _⟩ := hrd.ptr (by rw [ints_length]; exact h)
    exact sorted_cons w b o xs cap hrd hl h

theorem info_int64 : (Tryd.prog.info? 2).map (fun i => (i.zero, i.size, i.bytes)) = some (some (.int .i64 0), 1, 8) := by kernel_rfl

theorem ints_oneCell' (xs : List Int) : ∀ u ∈ ints xs, u.oneCell' = true := by
  intro u hu
  obtain ⟨x, _, rfl⟩ := List.mem_map.1 hu
  rfl

/-- slices.Clone -/
theorem clone_any (w : World) (p : Option Addr) (xs : List Int) (cap : Nat) (hrd : Rd w p (ints xs)) (hl : xs.length ≤ 1099511627776) (hp : ∀ a, p = some a → a.spot = none) :
    Calls Tryd.prog 44 #[.slice p xs.length cap] w fun e w' => ∃ p' c', e = .returned (.slice p' xs.length c') ∧ OwnI 2 w.heap.size w' p' c' xs ∧ KeepBut (fun _ => False) w w' := by
  cases p with
  | none =>
    have : xs = [] := by
      apply Classical.byContradiction; intro h
      obtain ⟨b, o, h1, _⟩ := hrd.ptr (by rw [ints_length]; exact List.length_pos_iff.2 h)
      cases h1
    subst this
    refine (Tryd.slices_Clone_nil_f44 0 cap w).mono ?_
    rintro e w' ⟨rfl, rfl⟩
    exact ⟨none, 0, rfl, OwnI.empty, KeepBut.refl _ _⟩
  | some a =>
    obtain ⟨b, o, sp⟩ := a
    obtain rfl : sp = none := hp _ rfl
    obtain ⟨i0, hi, hz0, hz1, hz2⟩ := info_parts info_int64
    refine (Tryd.slices_Clone_f44 i0 (.int .i64 0) 1 8 hi hz0 hz1 hz2 rfl (by decide) Tryd.sizeOf2 b o xs.length cap (ints xs) w (by rw [ints_length]; omega) (by unfold maxLen; omega) (by omega) (fun j u hj => hrd.cell j u hj) (ints_oneCell' xs)).mono ?_
    rintro e w' ⟨v', rfl, hown, _, hb⟩
    obtain ⟨p', c', rfl, ho⟩ := OwnI.of_row hown
    exact ⟨p', c', rfl, ho, KeepBut.of_below hb⟩

theorem allEq_ints (xs : List Int) : ∀ ys, Lib.allEq (fun x y => x == y) xs ys = decide (xs = ys) := by
  induction xs with
  | nil => intro ys; cases ys <;> rfl
  | cons x xs ih =>
    intro ys
    cases ys with
    | nil => rfl
    | cons y ys =>
      simp only [Lib.allEq, ih, List.cons.injEq]
      by_cases h1 : x = y <;> by_cases h2 : xs = ys <;> simp [h1, h2]

theorem nth_get (xs : List Int) (j : Nat) (h : j < xs.length) : xs[j]! = nth xs j := by
  simp [nth, h]

set_option maxHeartbeats 1000000 in
theorem search_empty (w : World) (p : Option Addr) (x : Int) (c : Nat) :
    Calls Tryd.prog 79 #[.slice p 0 c, .int .i64 x] w fun e w' => e = .returned (.tuple #[.int .i64 0, .bool false]) ∧ Drew w w' := by
  go_enter Tryd.func79, Tryd.ntmps79
  go_wp2_with fail
  refine wp_loop_rounds 1 ?_
  rw [rounds_succ]
  go_wp2_with fail
  go_ret2
  exact ⟨rfl, Drew.refl w⟩

/-- slices.BinarySearch, of a list that rises -/
theorem search_any (w : World) (p : Option Addr) (xs : List Int) (x : Int) (c : Nat) (hx : Rd w p (ints xs)) (hlx : xs.length ≤ 1099511627776) (hs : xs.Pairwise (· ≤ ·)) :
    Calls Tryd.prog 79 #[.slice p xs.length c, .int .i64 x] w fun e w' => e = .returned (.tuple #[.int .i64 (xs.countP (· < x) : Nat), .bool (xs.contains x)]) ∧ Drew w w' := by
  rcases Nat.eq_zero_or_pos xs.length with h | h
  · have e1 : xs = [] := List.eq_nil_of_length_eq_zero h
    subst e1
    exact search_empty w p x c
  · obtain ⟨b, o, rfl, _⟩ := hx.ptr (by rw [ints_length]; exact h)
    refine (Tryd.slices_BinarySearch_int b o xs.length c xs x w (Nat.le_refl _) (by omega) (fun j hj => by rw [hx.int j hj]; rfl) (by rw [List.take_length]; exact hs)).mono ?_
    rintro e w' ⟨rfl, hq⟩
    exact ⟨by rw [List.take_length], hq⟩

/-- slices.Delete of one element, out of a row of the call's own -/
theorem delete_any (base : Nat) (w : World) (p : Option Addr) (xs : List Int) (c k : Nat) (a b : Int) (ho : OwnI 2 base w p c xs) (hk : k < xs.length) (ha : a = k) (hb : b = k + 1) :
    Calls Tryd.prog 82 #[.slice p xs.length c, .int .i64 a, .int .i64 b] w fun e w' => e = .returned (.slice p (xs.length - 1) c) ∧ OwnI 2 base w' p c (xs.eraseIdx k) ∧ KeepBut (Of p) w w' := by
  obtain ⟨g, o, rfl, _⟩ := ho.rd.ptr (by rw [ints_length]; omega)
  obtain ⟨i0, hi, hz0, hz1, hz2⟩ := info_parts info_int64
  rcases ho.parts with ⟨h1, _, _⟩ | ⟨g', cur, h1, h2, h3, h4, h5, h6, h7⟩
  · cases h1
  · cases h1
    subst ha
    have hb' : b = ((k + 1 : Nat) : Int) := by omega
    subst hb'
    have H := Tryd.slices_Delete (Value.int .i64) (fun _ => rfl) 0 Tryd.zeroValue2 i0 hi hz1 g 0 c k (k + 1) xs.toArray w ho.holds (by simpa using h4) (by unfold maxLen at h5; omega) (by omega) (by simp; omega)
    simp only [List.size_toArray, Nat.add_sub_cancel_left] at H
    refine H.mono ?_
    rintro e w' ⟨rfl, q, rfl⟩
    have hl : (xs.take k ++ xs.drop (k + 1) ++ List.replicate 1 0).length = xs.length := by
      simp; omega
    have hput := ho.put (xs.take k ++ xs.drop (k + 1) ++ List.replicate 1 0) hl q
    have hcut := hput.1.cut (xs.length - 1)
    have he : (xs.take k ++ xs.drop (k + 1) ++ List.replicate 1 0).take (xs.length - 1) = xs.eraseIdx k := by
      rw [List.eraseIdx_eq_take_drop_succ]
      rw [List.take_append_of_le_length (by simp; omega), List.take_of_length_le (by simp; omega)]
    rw [he] at hcut
    exact ⟨rfl, hcut, hput.2.mono fun x hx => Of.some_iff.2 hx⟩

/-- how many are left where neighbours that are the same count once -/
def runs (xs : List Int) : Nat := (Lib.compactUpTo xs.toArray xs.length).length

theorem runs_le (xs : List Int) : runs xs ≤ xs.length := by
  unfold runs Lib.compactUpTo
  rw [List.length_map]
  exact Nat.le_trans (List.length_filter_le _ _) (by simp)

set_option maxHeartbeats 400000 in
theorem compact_empty (w : World) (p : Option Addr) (c : Nat) :
    Calls Tryd.prog 70 #[.slice p 0 c] w fun e w' => e = .returned (.slice p 0 c) ∧ w' = w := by
  go_enter Tryd.func70, Tryd.ntmps70
  go_wp2
  go_ret
  exact ⟨rfl, rfl⟩

/-- slices.Compact of a row of the call's own: its length -/
theorem compact_any (base : Nat) (w : World) (p : Option Addr) (xs : List Int) (c : Nat) (ho : OwnI 2 base w p c xs) (hl : xs.length ≤ 1099511627776) :
    Calls Tryd.prog 70 #[.slice p xs.length c] w fun e w' => e = .returned (.slice p (runs xs) c) ∧ KeepBut (Of p) w w' := by
  rcases Nat.eq_zero_or_pos xs.length with h | h
  · have : xs = [] := List.eq_nil_of_length_eq_zero h
    subst this
    refine (compact_empty w p c).mono ?_
    rintro e w' ⟨rfl, rfl⟩
    exact ⟨rfl, KeepBut.refl _ _⟩
  · obtain ⟨g, o, rfl, _⟩ := ho.rd.ptr (by rw [ints_length]; omega)
    rcases ho.parts with ⟨h1, _, _⟩ | ⟨g', cur, h1, h2, h3, h4, h5, h6, h7⟩
    · cases h1
    · cases h1
      have H := Tryd.slices_Compact (Value.int .i64) (fun _ => rfl) (EqlAt.intD _ _ _) (NeqAt.intD _ _ _) 0 Tryd.zeroValue2 g 0 c xs.toArray w ho.holds (by simp; omega) (by simpa using h4)
      simp only [List.size_toArray] at H
      refine H.mono ?_
      rintro e w' ⟨rfl, q, rfl⟩
      refine ⟨rfl, ?_⟩
      have hput := (ho.put (Lib.compactUpTo xs.toArray xs.length ++ List.replicate (xs.length - (Lib.compactUpTo xs.toArray xs.length).length) 0) (by
        have := runs_le xs; unfold runs at this; simp; omega) q).2
      exact hput.mono fun x hx => Of.some_iff.2 hx

set_option maxHeartbeats 400000 in
/-- slices.Clip -/
theorem clip_any (w : World) (p : Option Addr) (n c : Nat) (hn : n ≤ c) (hc : c ≤ 9223372036854775807) :
    Calls Tryd.prog 65 #[.slice p n c] w fun e w' => e = .returned (.slice p n n) ∧ w' = w := by
  have : n ≤ 9223372036854775807 := by omega
  go_enter Tryd.func65, Tryd.ntmps65
  go_wp2
  go_ret
  exact ⟨rfl, rfl⟩

end Go.Proofs.YtoolpifkfgileaaDoor

/-
  slices.Insert of one number into a row of the call's own.
-/
namespace Go.Proofs.YtoolpifkfgileaaDoor
open Go Go.RowKit Own

/-- Of a row that is known cell by cell. -/
theorem OwnI.of_cells {E : TypeId} {base : Nat} {w : World} {g : Nat} {cur : Array Value} {xs : List Int} (hb : base ≤ g) (hg : w.heap[g]? = some (.cells cur E (0, 0))) (hm : cur.size ≤ maxLen) (hl : xs.length ≤ cur.size)
    (h : ∀ j, j < xs.length → cur[j]? = some (.int .i64 (nth xs j))) : OwnI E base w (some ⟨g, 0, none⟩) cur.size xs := by
  refine OwnI.mk hb hg hm hl (List.ext_getElem? fun j => ?_)
  rw [List.getElem?_take]
  by_cases hj : j < xs.length
  · rw [if_pos hj, Array.getElem?_toList, h j hj]
    simp [ints, nth, hj]
  · rw [if_neg hj]; simp [ints, Nat.le_of_not_lt hj]

theorem nth_insert (xs : List Int) (i j : Nat) (x : Int) (hi : i ≤ xs.length) : nth (xs.insertIdx i x) j = if j < i then nth xs j else if j = i then x else nth xs (j - 1) := by
  unfold nth
  rw [List.getD_eq_getElem?_getD, List.getElem?_insertIdx]
  by_cases h1 : j < i
  · rw [if_pos h1, if_pos h1]; rfl
  · rw [if_neg h1, if_neg h1]
    by_cases h2 : j = i
    · rw [if_pos h2, if_pos h2, if_pos (by omega)]; rfl
    · rw [if_neg h2, if_neg h2]; rfl

set_option maxHeartbeats 1000000 in
set_option maxRecDepth 100000 in
/-- there is room, and it is not the end -/
theorem insert_shift (base : Nat) (w : World) (g c i vb : Nat) (xs : List Int) (x : Int) (ho : OwnI 2 base w (some ⟨g, 0, none⟩) c xs) (hl : xs.length ≤ 1099511627776) (hi : i < xs.length) (hc : xs.length + 1 ≤ c)
    (hv : w.heap[vb]? = some (.cells #[.int .i64 x] 2 (0, 0))) (hne : vb ≠ g) :
    Calls Tryd.prog 83 #[.slice (some ⟨g, 0, none⟩) xs.length c, .int .i64 i, .slice (some ⟨vb, 0, none⟩) 1 1] w fun e w' =>
      e = .returned (.slice (some ⟨g, 0, none⟩) (xs.length + 1) c) ∧ OwnI 2 base w' (some ⟨g, 0, none⟩) c (xs.insertIdx i x) ∧ KeepBut (fun b => b = g) w w' := by
  rcases ho.parts with ⟨h1, _, _⟩ | ⟨g', cur, h1, h2, h3, h4, h5, h6, h7⟩
  · cases h1
  · cases h1
    subst h6
    obtain ⟨i0, hi0, hz0, hz1, hz2⟩ := info_parts info_int64
    have hsz : (Tryd.prog.info? 2).map (·.size) = some 1 := by rw [hi0]; simp [hz1]
    have hrd := ho.rd
    unfold maxLen at h5
    -- what the two copies do
    have hdl : (ints (xs.drop i)).length = xs.length - i := by rw [ints_length, List.length_drop]
    have hcur : ∀ j, j < cur.size → (w.cell? ⟨g, j, none⟩).isSome = true := fun j hj => by simp [World.cell?, h3, hj]
    have hfz : ∀ j, w.frozen? ⟨g, j, none⟩ = false := fun j => by simp [World.frozen?, h3]
    have hcp1 : ∀ ty dc sc, (Builtin.copy_ #[45, 45] ty #[.slice (some ⟨g, i + 1, none⟩) (xs.length - i) dc, .slice (some ⟨g, i, none⟩) (xs.length + 1 - i) sc]).run Tryd.prog w.drew = .ok (goInt (ints (xs.drop i)).length) (w.drew.setCells g (i + 1) (ints (xs.drop i))) := fun ty dc sc => by
      have := run_copy_cells (P := Tryd.prog) w.drew 45 45 ty 2 g (i + 1) (xs.length - i) dc ⟨g, i, none⟩ (xs.length + 1 - i) sc (ints (xs.drop i)) Tryd.underlying45 hsz (by rw [hdl]; simp only [Nat.min_def]; split <;> omega)
        (fun j v hj => by
          rw [Addr.add_lit]
          have : (ints xs)[i + j]? = some v := by rw [ints, ← List.getElem?_drop, ← List.map_drop]; exact hj
          simpa using hrd.cell (i + j) v this)
        (fun j hj => hcur _ (by omega)) (fun j hj => hfz _) (ints_oneCell' _)
      exact this
    obtain ⟨W1, hW1⟩ : ∃ W1, W1 = w.drew.setCells g (i + 1) (ints (xs.drop i)) := ⟨_, rfl⟩
    obtain ⟨cur1, hc1, hs1, hr1⟩ := heap_setCells g (ints (xs.drop i)) (i + 1) w.drew cur _ _ (show w.drew.heap[g]? = _ from h3)
    rw [← hW1] at hc1
    have hk1 : KeepBut (fun b => b = g) w W1 := by rw [hW1]; exact (KeepBut.drew _ w).trans (keep_setCells (E := fun b => b = g) g rfl _ _ _)
    have hv1 : W1.heap[vb]? = some (.cells #[.int .i64 x] 2 (0, 0)) := by
      rw [hk1.block vb (by
        rcases Nat.lt_or_ge vb w.heap.size with h' | h'
        · exact h'
        · rw [Array.getElem?_eq_none h'] at hv; cases hv) hne]
      exact hv
    have hcp2 : ∀ (W : World), W.heap = W1.heap → ∀ ty dc, (Builtin.copy_ #[45, 45] ty #[.slice (some ⟨g, i, none⟩) (xs.length + 1 - i) dc, .slice (some ⟨vb, 0, none⟩) 1 1]).run Tryd.prog W = .ok (goInt 1) (W.setCells g i [.int .i64 x]) := fun W hW ty dc => by
      have := run_copy_cells (P := Tryd.prog) W 45 45 ty 2 g i (xs.length + 1 - i) dc ⟨vb, 0, none⟩ 1 1 [.int .i64 x] Tryd.underlying45 hsz (by simp only [Nat.min_def]; split <;> simp <;> omega)
        (fun j v hj => by
          have h0 : j = 0 := by
            rcases j with _ | j
            · rfl
            · simp at hj
          subst h0
          simpa [World.cell?, Addr.add, hW, hv1] using hj)
        (fun j hj => by simp only [List.length_cons, List.length_nil, Nat.zero_add, Nat.lt_one_iff] at hj; subst hj; simp [World.cell?, hW, hc1]; omega)
        (fun j hj => by simp [World.frozen?, hW, hc1]) (fun v hv => by simp only [List.mem_singleton] at hv; subst hv; rfl)
      exact this
    have hov : ∀ lb cb, (callFunc 90 #[.slice (some ⟨vb, 0, none⟩) 1 1, .slice (some ⟨g, i + 1, none⟩) lb cb]).run Tryd.prog w = .ok (.value (.bool false)) w := fun lb cb => by
      rw [run_callFunc_extern Tryd.func90 (by kernel_rfl) (by kernel_rfl) (by kernel_rfl) (e := Extern.SlicesOverlaps.overlaps #[45, 45] #[4]) (by kernel_rfl),
        Lib.run_overlaps_apart w 45 4 2 Tryd.underlying45 1 Tryd.sizeOf2 ⟨vb, 0, none⟩ ⟨g, i + 1, none⟩ 1 1 lb cb hne 2 2 1 cur.size (by simp [World.shape?, hv]) (by simp [World.shape?, h3]) (by omega) (by simp [World.frozen?, hv]) (by simp [World.frozen?, hv])]
      rfl
    rw [← hW1] at hcp1
    have hz2 : ¬ ((i : Int) = (xs.length : Int)) := by omega
    have hw1 : IntKind.i64.wrap ((i : Int) + 1) = (i : Int) + 1 := IntWalk.i64_in _ (by omega)
    have hb0 : (0 : Int) ≤ (i : Int) := by omega
    have hb1 : (0 : Int) ≤ (i : Int) + 1 := by omega
    have htn : ((i : Int) + 1).toNat = i + 1 := by omega
    have hb3 : (i : Int) ≤ (xs.length : Int) + 1 := by omega
    have hb4 : ¬ (cur.size = i) := by omega
    have hb2 : ¬ (cur.size = i + 1) := by omega
    have hb5 : (i : Int) ≤ (xs.length : Int) := by omega
    have HR := Lib.hid hrd; have HW := Lib.hid hW1; have HK := Lib.hid hk1; have H3 := Lib.hid h3; have H7 := Lib.hid h7; have HV := Lib.hid hv; have HV1 := Lib.hid hv1; have HC1 := Lib.hid hc1; have HS1 := Lib.hid hs1; have HR1 := Lib.hid hr1; have HCUR := Lib.hid hcur
    clear hrd hW1 hk1 h3 h7 hv hv1 hc1 hs1 hr1 hcur hfz hdl ho hsz hi0 hz0 hz1
    go_enter Tryd.func83, Tryd.ntmps83
    go_wp2_with (simp only [hov])
    go_region_law (refine step_copy_runI rfl _ _ 45 45 rfl _ _ (by simp [Act.eval, Act.put]) (by simp [Act.eval, Act.put]) (hcp1 _ _ _) ?_)
    go_wp2_with (at_builtin; refine wpList_copy_runI _ rfl _ _ 45 45 rfl _ _ rfl rfl (hcp2 _ rfl _ _) ?_)
    go_ret
    obtain ⟨cur2, hc2, hs2, hr2⟩ := heap_setCells g [.int .i64 x] i W1 cur1 _ _ HC1.out
    have hl1 : (xs.insertIdx i x).length = xs.length + 1 := List.length_insertIdx_of_le_length (by omega) _
    refine ⟨rfl, ?_, HK.out.trans (keep_setCells (E := fun b => b = g) g rfl _ _ _)⟩
    have hsz2 : cur2.size = cur.size := by rw [hs2, HS1.out]
    rw [← hsz2]
    refine OwnI.of_cells h2 hc2 (by unfold maxLen; omega) (by omega) fun j hj => ?_
    rw [hr2 j (by rw [HS1.out]; omega), HR1.out j (by omega), nth_insert xs i j x (by omega)]
    simp only [List.length_cons, List.length_nil, ints_length, List.length_drop]
    by_cases h1 : j < i
    · rw [if_neg (by omega), if_neg (by omega), if_pos h1]
      have := HR.out.int j (by omega)
      rw [World.cell?, H3.out] at this
      simpa using this
    · by_cases h2 : j = i
      · subst h2
        rw [if_pos (by omega), if_neg h1, if_pos rfl]
        simp
      · rw [if_neg (by omega), if_pos (by omega), if_neg h1, if_neg h2]
        simp [ints, nth, show i + (j - (i + 1)) = j - 1 by omega, show j - 1 < xs.length by omega]

set_option maxHeartbeats 1000000 in
set_option maxRecDepth 100000 in
/-- at the end -/
theorem insert_end (base : Nat) (w : World) (p : Option Addr) (c vb : Nat) (xs : List Int) (x i : Int) (ho : OwnI 2 base w p c xs) (hl : xs.length ≤ 1099511627776) (hi : i = xs.length)
    (hv : w.heap[vb]? = some (.cells #[.int .i64 x] 2 (0, 0))) (hb : base ≤ w.heap.size) :
    Calls Tryd.prog 83 #[.slice p xs.length c, .int .i64 i, .slice (some ⟨vb, 0, none⟩) 1 1] w fun e w' =>
      ∃ p' c', e = .returned (.slice p' (xs.length + 1) c') ∧ OwnI 2 base w' p' c' (xs ++ [x]) ∧ KeepBut (Of p) w w' ∧ ∀ b, Of p' b → Of p b ∨ w.heap.size ≤ b := by
  obtain ⟨i0, hi0, hz0, hz1, hz2⟩ := info_parts info_int64
  have hle := ho.le
  have hn : ∀ j u, [Value.int .i64 x][j]? = some u → w.cell? ((⟨vb, 0, none⟩ : Addr).add j) = some u := fun j u hj => by
    have h0 : j = 0 := by
      rcases j with _ | j
      · rfl
      · simp at hj
    subst h0
    simpa [World.cell?, Addr.add, hv] using hj
  have hin : (i == (xs.length : Int)) = true := by rw [hi]; simp
  have h0 : (0 : Int) ≤ i := by omega
  have h1 : i ≤ (xs.length : Int) := by omega
  have h2 : (xs.length : Int) ≤ (c : Int) := by omega
  obtain ⟨hle1, hle2⟩ := hle
  have HO := Lib.hid ho; have HN := Lib.hid hn; have HI := Lib.hid hi
  clear ho hn hv hi
  go_enter Tryd.func83, Tryd.ntmps83
  go_wp2_with (at_builtin; refine wpList_append_own_at _ rfl _ _ 45 rfl base 2 i0 (.int .i64 0) 1 8 Tryd.underlying45 hi0 hz0 hz1 hz2 rfl (by decide) _ _ _ rfl HO.out ⟨vb, 0, none⟩ 1 1 [.int .i64 x] rfl rfl HN.out (fun u hu => by simp only [List.mem_singleton] at hu; subst hu; rfl) (by unfold maxLen; omega) (by omega) hb ?_; intro v' w1 hown hgrow hnil hat)
  all_goals
    have hg2 : w.grownBy w1 ((Value.slice p xs.length c).ownBlock) := hgrow
    have ha2 : v'.ownBlock = (Value.slice p xs.length c).ownBlock ∨ v'.ownBlock = some w.heap.size := hat
    clear hgrow hnil hat
    go_ret
    have hrow : w1.ownsRow base 2 1 v' (xs ++ [x]).length (ints (xs ++ [x])) := by simpa [ints] using hown
    obtain ⟨p', c', rfl, ho'⟩ := OwnI.of_row hrow
    refine ⟨p', c', by simp, ho', KeepBut.grown hg2 fun k hk => ?_, fun b hb => ?_⟩
    · cases p with
      | none => simp [Value.ownBlock] at hk
      | some a => simp [Value.ownBlock] at hk; exact ⟨a, rfl, hk.symm⟩
    · obtain ⟨a, rfl, rfl⟩ := hb
      simp only [Value.ownBlock] at ha2
      rcases ha2 with h5 | h5
      · cases p with
        | none => simp at h5
        | some a' => simp only [Option.some.injEq] at h5; exact .inl ⟨a', rfl, h5⟩
      · simp only [Option.some.injEq] at h5; exact .inr (by omega)

/-- an append whose run is known -/
theorem wpList_append_run {P : Program} (w : World) {ops : Array Oper} {rest : List Oper} {o : Oper} {a : Act} {Q : Exit → Act → World → Prop} (hgd : o.guard = none) (d s : Operand) (t t' : TypeId)
    (ho : o.op = .call { callee := .builtin .append, args := #[d, s], argTypes := #[t, t'] }) (v u : Value) (hd : a.eval d = v) (hs : a.eval s = u) {v' : Value} {w' : World}
    (hr : (Builtin.append_ #[t, t'] o.type #[v, u]).run P w = .ok v' w') (h : wpList P ops Q rest (a.put o.dst v') w') : wpList P ops Q (o :: rest) a w := by
  refine wpList_plain hgd fun K hK => ?_
  unfold Oper.wp execOp
  simp only [ho, resolve, invoke, builtin, Sem.run_bind, Sem.run_pure, Result.andThen_ok, List.map_toArray, List.map_cons, List.map_nil, hd, hs, hr]
  exact hK _ _ h

set_option maxHeartbeats 1000000 in
set_option maxRecDepth 100000 in
/-- there is no room, and it is not the end -/
theorem insert_grow (base : Nat) (w : World) (g i vb : Nat) (xs : List Int) (x : Int) (ho : OwnI 2 base w (some ⟨g, 0, none⟩) xs.length xs) (hl : xs.length ≤ 1099511627776) (hi : i < xs.length)
    (hv : w.heap[vb]? = some (.cells #[.int .i64 x] 2 (0, 0))) (hb : base ≤ w.heap.size) :
    Calls Tryd.prog 83 #[.slice (some ⟨g, 0, none⟩) xs.length xs.length, .int .i64 i, .slice (some ⟨vb, 0, none⟩) 1 1] w fun e w' =>
      ∃ p' c', e = .returned (.slice p' (xs.length + 1) c') ∧ OwnI 2 base w' p' c' (xs.insertIdx i x) ∧ KeepBut (fun _ => False) w w' ∧ ∀ b, Of p' b → w.heap.size ≤ b := by
  obtain ⟨i0, hi0, hz0, hz1, hz2⟩ := info_parts info_int64
  have hsz : (Tryd.prog.info? 2).map (·.size) = some 1 := by rw [hi0]; simp [hz1]
  have hrd := ho.rd
  have hgl : g < w.heap.size := (ho.lt _ rfl).2
  have hvl : vb < w.heap.size := by
    rcases Nat.lt_or_ge vb w.heap.size with h' | h'
    · exact h'
    · rw [Array.getElem?_eq_none h'] at hv; cases hv
  have htl : (ints (xs.take i)).length = i := by rw [ints_length, List.length_take]; omega
  have hdl : (ints (xs.drop i)).length = xs.length - i := by rw [ints_length, List.length_drop]
  have hold : (Builtin.firstCells i0.size i (.slice (some ⟨g, 0, none⟩) i xs.length)).run Tryd.prog w.drew = .ok (ints (xs.take i)).toArray w.drew := by
    rw [hz1]
    exact run_firstCells_some w.drew 1 i ⟨g, 0, none⟩ i xs.length (ints (xs.take i)) (by rw [htl]; omega) (fun j v hj => by
      rw [Addr.add_lit]
      rw [ints, List.map_take, ← ints, List.getElem?_take] at hj
      split at hj
      · exact hrd.cell j v hj
      · cases hj)
  obtain ⟨G, hG⟩ : ∃ G, G = grownCap w (xs.length + 1) xs.length 2 := ⟨_, rfl⟩
  obtain ⟨ROW, hROW⟩ : ∃ ROW : Array Value, ROW = (ints (xs.take i)).toArray ++ Builtin.zeroCells (Value.int .i64 0).cells (xs.length + 1 - i) ++ Builtin.zeroCells (Value.int .i64 0).cells (G - (xs.length + 1)) := ⟨_, rfl⟩
  have hGn : xs.length + 1 ≤ G := by rw [hG]; exact grownCap_ge w _ _ _
  have hG63 : G ≤ 9223372036854775807 := by
    have := grownCap_le_maxLen w (xs.length + 1) xs.length 2 (by unfold maxLen; omega)
    rw [← hG] at this; unfold maxLen at this; omega
  have hRs : ROW.size = G := by
    rw [hROW]; simp [Builtin.zeroCells, Value.cells, ints_length, List.length_take]; omega
  have hRl : ∀ j, j < i → ROW[j]? = some (.int .i64 (nth xs j)) := fun j hj => by
    rw [hROW, Array.append_assoc, Array.getElem?_append_left (by simp [ints_length, List.length_take]; omega)]
    simp [ints, nth, hj, show j < xs.length by omega]
  have hrz : ∀ ty, (Builtin.append_ #[45, 3] ty #[.slice (some ⟨g, 0, none⟩) i xs.length, .int .i64 ((xs.length : Int) + 1 - (i : Int))]).run Tryd.prog w = .ok (.slice (some ⟨w.heap.size, 0, none⟩) (xs.length + 1) G) (w.drew.alloc (.cells ROW 2)) := fun ty => by
    have h := Lib.run_append_grow_zeros w 45 3 ty 2 i0 (.int .i64 0) .i64 .i64 Tryd.underlying45 Tryd.underlying3 hi0 hz0 (some ⟨g, 0, none⟩) i xs.length (ints (xs.take i)) hold (xs.length + 1 - i) (by omega) (by omega) (by omega) (by omega) (by rw [hz2]; omega)
      (by rw [hz2, show i + (xs.length + 1 - i) = xs.length + 1 by omega]; exact growslice_fits (by omega) (by omega))
    rw [show i + (xs.length + 1 - i) = xs.length + 1 by omega, ← hG, ← hROW] at h
    rw [show (xs.length : Int) + 1 - (i : Int) = ((xs.length + 1 - i : Nat) : Int) by omega]
    exact h
  obtain ⟨W1, hW1⟩ : ∃ W1, W1 = w.drew.alloc (.cells ROW 2) := ⟨_, rfl⟩
  obtain ⟨N, hN⟩ : ∃ N, N = w.heap.size := ⟨_, rfl⟩
  have hc1 : W1.heap[N]? = some (.cells ROW 2 (0, 0)) := by rw [hW1, hN]; exact heap_alloc_new w.drew _
  have hk1 : KeepBut (fun _ => False) w W1 := by rw [hW1]; exact (KeepBut.drew _ w).trans (KeepBut.alloc _ _ _)
  have hs1 : W1.heap.size = N + 1 := by rw [hW1, hN]; simp
  rw [← hW1, ← hN] at hrz
  have hv1 : W1.heap[vb]? = some (.cells #[.int .i64 x] 2 (0, 0)) := by rw [hk1.block vb hvl (fun e => e)]; exact hv
  have hrd1 := hrd.keep hk1 (fun _ _ e => e)
  obtain ⟨cur1, hc2, hs2, hr2⟩ := heap_setCells N [.int .i64 x] i W1 ROW _ _ hc1
  obtain ⟨W2, hW2⟩ : ∃ W2, W2 = W1.setCells N i [.int .i64 x] := ⟨_, rfl⟩
  have hcpA : ∀ ty dc, (Builtin.copy_ #[45, 45] ty #[.slice (some ⟨N, i, none⟩) (xs.length + 1 - i) dc, .slice (some ⟨vb, 0, none⟩) 1 1]).run Tryd.prog W1 = .ok (goInt 1) W2 := fun ty dc => by
    have := run_copy_cells (P := Tryd.prog) W1 45 45 ty 2 N i (xs.length + 1 - i) dc ⟨vb, 0, none⟩ 1 1 [.int .i64 x] Tryd.underlying45 hsz (by simp only [Nat.min_def]; split <;> simp <;> omega)
      (fun j v hj => by
        have h0 : j = 0 := by
          rcases j with _ | j
          · rfl
          · simp at hj
        subst h0
        simpa [World.cell?, Addr.add, hv1] using hj)
      (fun j hj => by simp only [List.length_cons, List.length_nil, Nat.zero_add, Nat.lt_one_iff] at hj; subst hj; simp [World.cell?, hc1]; omega)
      (fun j hj => by simp [World.frozen?, hc1]) (fun v hv => by simp only [List.mem_singleton] at hv; subst hv; rfl)
    rw [hW2]; exact this
  rw [← hW2] at hc2
  have hk2 : KeepBut (fun b => b = N) W1 W2 := by rw [hW2]; exact keep_setCells (E := fun b => b = N) N rfl _ _ _
  have hrd2 := hrd1.keep hk2 (fun a ha e => by cases ha; simp only at e; omega)
  obtain ⟨cur2, hc3, hs3, hr3⟩ := heap_setCells N (ints (xs.drop i)) (i + 1) W2.drew cur1 _ _ (show W2.drew.heap[N]? = _ from hc2)
  obtain ⟨W3, hW3⟩ : ∃ W3, W3 = W2.drew.setCells N (i + 1) (ints (xs.drop i)) := ⟨_, rfl⟩
  have hcpB : ∀ ty dc sc, (Builtin.copy_ #[45, 45] ty #[.slice (some ⟨N, i + 1, none⟩) (xs.length - i) dc, .slice (some ⟨g, i, none⟩) (xs.length - i) sc]).run Tryd.prog W2.drew = .ok (goInt (ints (xs.drop i)).length) W3 := fun ty dc sc => by
    have := run_copy_cells (P := Tryd.prog) W2.drew 45 45 ty 2 N (i + 1) (xs.length - i) dc ⟨g, i, none⟩ (xs.length - i) sc (ints (xs.drop i)) Tryd.underlying45 hsz (by rw [hdl]; simp only [Nat.min_def]; split <;> omega)
      (fun j v hj => by
        rw [Addr.add_lit]
        have : (ints xs)[i + j]? = some v := by rw [ints, ← List.getElem?_drop, ← List.map_drop]; exact hj
        simpa using hrd2.cell (i + j) v this)
      (fun j hj => by
        have h9 : i + 1 + j < cur1.size := by omega
        show (W2.cell? _).isSome = true
        simp [World.cell?, hc2, h9]) (fun j hj => by show W2.frozen? _ = false; simp [World.frozen?, hc2]) (ints_oneCell' _)
    rw [hW3]; exact this
  rw [← hW3] at hc3
  have hk3 : KeepBut (fun b => b = N) W2 W3 := by rw [hW3]; exact (KeepBut.drew _ W2).trans (keep_setCells (E := fun b => b = N) N rfl _ _ _)
  have hkAll : KeepBut (fun _ => False) w W3 := hk1.new (hk2.trans hk3) (fun b hb => by omega)
  have hl1 : (xs.insertIdx i x).length = xs.length + 1 := List.length_insertIdx_of_le_length (by omega) _
  have hsz3 : cur2.size = G := by rw [hs3, hs2, hRs]
  have hfin : OwnI 2 base W3 (some ⟨N, 0, none⟩) G (xs.insertIdx i x) := by
    rw [← hsz3]
    refine OwnI.of_cells (by omega) hc3 (by unfold maxLen; omega) (by omega) fun j hj => ?_
    rw [hr3 j (by omega), hr2 j (by omega), nth_insert xs i j x (by omega)]
    simp only [List.length_cons, List.length_nil, ints_length, List.length_drop]
    by_cases h1 : j < i
    · rw [if_neg (by omega), if_neg (by omega), if_pos h1]; exact hRl j h1
    · by_cases h2 : j = i
      · subst h2
        rw [if_neg (by omega), if_pos (by omega), if_neg h1, if_pos rfl]
        simp
      · rw [if_pos (by omega), if_neg h1, if_neg h2]
        simp [ints, nth, show i + (j - (i + 1)) = j - 1 by omega, show j - 1 < xs.length by omega]
  have HK := Lib.hid hkAll; have HF := Lib.hid hfin; have HL := Lib.hid hl1; have HN := Lib.hid hN
  have hz3 : ¬ ((i : Int) = (xs.length : Int)) := by omega
  have hz4 : ((i : Int) == (xs.length : Int)) = false := by rw [beq_eq_false_iff_ne]; exact hz3
  have hw1 : IntKind.i64.wrap ((i : Int) + 1) = (i : Int) + 1 := IntWalk.i64_in _ (by omega)
  have hb0 : (0 : Int) ≤ (i : Int) := by omega
  have hb1 : (0 : Int) ≤ (i : Int) + 1 := by omega
  have htn : ((i : Int) + 1).toNat = i + 1 := by omega
  have hb3 : (i : Int) ≤ (xs.length : Int) + 1 := by omega
  have hb5 : (i : Int) ≤ (xs.length : Int) := by omega
  have hb6 : (xs.length : Int) < (xs.length : Int) + 1 := by omega
  have hg1 : (xs.length : Int) + 1 ≤ (G : Int) := by omega
  have hg2 : ¬ (G = i) := by omega
  have hg3 : ¬ (G = i + 1) := by omega
  have hg4 : ¬ (xs.length = i) := by omega
  clear ho hsz hi0 hz0 hz1 hz2 hrd htl hdl hold hG hROW hRs hRl hW1 hc1 hk1 hs1 hv1 hrd1 hc2 hs2 hr2 hW2 hk2 hrd2 hc3 hs3 hr3 hW3 hk3 hkAll hl1 hsz3 hfin hz3 hv hN
  go_enter Tryd.func83, Tryd.ntmps83
  go_wp2_with (at_builtin; refine wpList_append_run _ rfl _ _ 45 3 rfl _ _ rfl rfl (hrz _) ?_)
  go_region_law (refine step_copy_runI rfl _ _ 45 45 rfl _ _ (by simp [Act.eval, Act.put]) (by simp [Act.eval, Act.put]) (hcpB _ _ _) ?_)
  go_wp2_with fail
  go_ret
  exact ⟨_, _, rfl, HF.out, HK.out, fun b hb => by rw [Of.some_iff] at hb; have := HN.out; simp only at hb; omega⟩

/-- slices.Insert of one number into a row of the call's own -/
theorem insert_any (base : Nat) (w : World) (p : Option Addr) (c i vb : Nat) (xs : List Int) (x k : Int) (ho : OwnI 2 base w p c xs) (hl : xs.length ≤ 1099511627776) (hi : i ≤ xs.length) (hk : k = i)
    (hv : w.heap[vb]? = some (.cells #[.int .i64 x] 2 (0, 0))) (hne : ∀ a, p = some a → vb ≠ a.block) (hb : base ≤ w.heap.size) :
    Calls Tryd.prog 83 #[.slice p xs.length c, .int .i64 k, .slice (some ⟨vb, 0, none⟩) 1 1] w fun e w' =>
      ∃ p' c', e = .returned (.slice p' (xs.length + 1) c') ∧ OwnI 2 base w' p' c' (xs.insertIdx i x) ∧ KeepBut (Of p) w w' ∧ ∀ b, Of p' b → Of p b ∨ w.heap.size ≤ b := by
  subst hk
  by_cases hin : i = xs.length
  · subst hin
    rw [List.insertIdx_length_self]
    exact insert_end base w p c vb xs x _ ho hl rfl hv hb
  · have hi' : i < xs.length := by omega
    obtain ⟨g, o, rfl, _⟩ := ho.rd.ptr (by rw [ints_length]; omega)
    rcases ho.parts with ⟨h1, _, _⟩ | ⟨g', cur, h1, h2, h3, h4, h5, h6, h7⟩
    · cases h1
    · cases h1
      by_cases hc : xs.length + 1 ≤ c
      · refine (insert_shift base w g c i vb xs x ho hl hi' hc hv (hne _ rfl)).mono ?_
        rintro e w' ⟨rfl, h8, h9⟩
        exact ⟨_, _, rfl, h8, h9.mono fun b hb => Of.some_iff.2 hb, fun b hb => .inl hb⟩
      · have hcc : c = xs.length := by omega
        subst hcc
        refine (insert_grow base w g i vb xs x ho hl hi' hv hb).mono ?_
        rintro e w' ⟨p', c', rfl, h8, h9, h10⟩
        exact ⟨_, _, rfl, h8, h9.mono fun b hb => hb.elim, fun b hb => .inr (h10 b hb)⟩

end Go.Proofs.YtoolpifkfgileaaDoor

/-
  Promises of the usual operations, and how each is paid. No program in sight.
-/
namespace Go.Proofs.YtoolpifkfgileaaDoor
open Go Go.RowKit Own

def sConst (v : Value) : Loud := { val := fun _ _ => v }
def sOwnI (E : TypeId) (xs : List Int) : Loud := { val := fun _ g => .slice g.p xs.length g.c, fp := fun _ g => Of g.p, post := fun _ g w => OwnI E 0 w g.p g.c xs }
/-- a new block -/
def sNew (o : Obj) : Loud := { val := fun _ g => .pointer (some ⟨g.b, 0, none⟩), fp := fun _ g k => k = g.b, post := fun _ g w => w.heap[g.b]? = some o }
/-- a store of a whole value into block b -/
def sPut (b : Nat) (T : TypeId) : Loud := { val := fun _ _ => undef, fp := fun _ _ k => k = b, post := fun args _ w => ∀ vs, args.getD 1 undef = .agg vs → w.heap[b]? = some (.cells vs T (0, 0)) }

/-- a new slice of one number -/
def sOne (E : TypeId) (z : Int) : Loud := { val := fun _ g => .slice (some ⟨g.b, 0, none⟩) 1 1, fp := fun _ g k => k = g.b, post := fun _ g w => w.heap[g.b]? = some (.cells #[.int .i64 z] E (0, 0)) }

section
variable {P : Program} {w0 : World} {M : Nat → Prop} {o : Oper} {a : Act} {s : Loud} {av ea : List Nat} {F : Nat → World → Prop} {Fp : Nat → Nat → Prop}

theorem stable_true (fp : Nat → Prop) : Stable w0 M fp (fun _ => True) := fun _ _ _ _ _ _ _ => trivial
theorem stable_ownI (E : TypeId) (base : Nat) (p : Option Addr) (c : Nat) (xs : List Int) : Stable w0 M (Of p) (fun w => OwnI E base w p c xs) := fun _ _ _ _ _ h k => k.of_same fun a ha => h _ ⟨a, ha, rfl⟩
theorem stable_blk (b : Nat) (x : Obj) : Stable w0 M (fun k => k = b) (fun w => w.heap[b]? = some x) := fun _ _ _ _ _ h k => (h b rfl).trans k

theorem loud_call (f : FuncId) (args : Array Value) (hrun : ∀ w, (execOp a.eval o).run P w = .ok (.enter f args) w) (hsome : ∃ g, s.ok (argsOf o a) g)
    (hst : ∀ g, s.ok (argsOf o a) g → Stable w0 M (s.fp (argsOf o a) g) (s.post (argsOf o a) g))
    (hc : ∀ w, KeepBut M w0 w → (∀ j ∈ av, F j w ∧ ∀ b, Fp j b → b < w.heap.size ∧ (w0.heap.size ≤ b ∨ M b)) → (∀ j ∈ av, ∀ k ∈ av, j ≠ k → ∀ b, Fp j b → ¬ Fp k b) →
      Calls P f args w fun e w' => ∃ g, s.ok (argsOf o a) g ∧ e = .returned (s.val (argsOf o a) g) ∧ KeepBut (fun b => ∃ j ∈ ea, Fp j b) w w' ∧
        (∀ b, s.fp (argsOf o a) g b → (w.heap.size ≤ b ∨ ∃ j ∈ ea, Fp j b) ∧ b < w'.heap.size) ∧ s.post (argsOf o a) g w') : LoudOk P w0 M o a s av ea F Fp :=
  ⟨hsome, hst, fun w h1 h2 h3 => by
    unfold Oper.wp
    rw [hrun w]
    refine (hc w h1 h2 h3).mono ?_
    rintro e w' ⟨g, h4, rfl, h5, h6, h7⟩
    exact ⟨g, h4, rfl, h5, h6, h7⟩⟩

/-- an operation that is run at once -/
theorem loud_run (hsome : ∃ g, s.ok (argsOf o a) g)
    (hst : ∀ g, s.ok (argsOf o a) g → Stable w0 M (s.fp (argsOf o a) g) (s.post (argsOf o a) g))
    (hc : ∀ w, KeepBut M w0 w → (∀ j ∈ av, F j w ∧ ∀ b, Fp j b → b < w.heap.size ∧ (w0.heap.size ≤ b ∨ M b)) → (∀ j ∈ av, ∀ k ∈ av, j ≠ k → ∀ b, Fp j b → ¬ Fp k b) →
      ∃ w' g, s.ok (argsOf o a) g ∧ Yields2 P (execOp a.eval o) w (s.val (argsOf o a) g) w' ∧ KeepBut (fun b => ∃ j ∈ ea, Fp j b) w w' ∧
        (∀ b, s.fp (argsOf o a) g b → (w.heap.size ≤ b ∨ ∃ j ∈ ea, Fp j b) ∧ b < w'.heap.size) ∧ s.post (argsOf o a) g w') : LoudOk P w0 M o a s av ea F Fp :=
  ⟨hsome, hst, fun w h1 h2 h3 => by
    obtain ⟨w', g, h4, h5, h6, h7, h8⟩ := hc w h1 h2 h3
    unfold Oper.wp
    rcases h5 with h5 | ⟨h5, h9⟩
    · rw [h5]; exact ⟨g, h4, rfl, h6, h7, h8⟩
    · rw [h5]; exact ⟨g, h4, by rw [h9], h6, h7, h8⟩⟩

/-- a whole value is stored into a block that is known -/
theorem yields_put {ρ : Operand → Value} {w : World} {b : Nat} {T ty : TypeId} {vs cs0 : Array Value} (x y : Operand) (ho : o.op = .store ty x y) (hx : ρ x = .pointer (some ⟨b, 0, none⟩)) (hy : ρ y = .agg vs)
    (h : w.heap[b]? = some (.cells cs0 T (0, 0))) (hs : cs0.size = vs.size) (hi : (P.info? ty).map (·.size) = some vs.size) (h1 : vs.all (·.oneCell') = true) :
    ∃ w', Yields2 P (execOp ρ o) w undef w' ∧ KeepBut (fun k => k = b) w w' ∧ w'.heap[b]? = some (.cells vs T (0, 0)) := by
  obtain ⟨cur', h2, h3, h4⟩ := heap_setCells b vs.toList 0 w cs0 T (0, 0) h
  have he : cur' = vs := by
    apply Array.ext_getElem?
    intro k
    by_cases hk : k < cs0.size
    · rw [h4 k hk, if_pos ⟨Nat.zero_le _, by simpa using (by omega : k < vs.size)⟩]
      simp
    · rw [Array.getElem?_eq_none (by omega), Array.getElem?_eq_none (by omega)]
  subst he
  refine ⟨_, .inr ⟨?_, rfl⟩, keep_setCells (E := fun k => k = b) b rfl cur'.toList 0 w, h2⟩
  unfold execOp
  simp only [ho, hx, hy]
  have := run_storeAt_mid (P := P) w b 0 ty cur' (fun j hj => ⟨by simp [World.cell?, h]; omega, by simp [World.frozen?, h]⟩) hi h1
  simp only [Sem.run_bind, this, Result.andThen_ok, Sem.run_pure]

theorem put_args {ty : TypeId} {x y : Operand} {v : Value} (ho : o.op = .store ty x y) (hy : a.eval y = v) : (argsOf o a).getD 1 undef = v := by simp [argsOf, ho, Op.operands, hy]

/-- .. as an operation of a region, the block being promised by operation j -/
theorem loud_put (b : Nat) (T ty : TypeId) (vs cs0 : Array Value) (x y : Operand) (ho : o.op = .store ty x y) (hx : a.eval x = .pointer (some ⟨b, 0, none⟩)) (hy : a.eval y = .agg vs)
    (j : Nat) (hja : j ∈ av) (hje : j ∈ ea) (hF : ∀ w, F j w → w.heap[b]? = some (.cells cs0 T (0, 0))) (hfp : Fp j b) (hs : cs0.size = vs.size) (hi : (P.info? ty).map (·.size) = some vs.size) (h1 : vs.all (·.oneCell') = true) :
    LoudOk P w0 M o a (sPut b T) av ea F Fp := by
  have harg : (argsOf o a).getD 1 undef = .agg vs := by simp [argsOf, ho, Op.operands, hy]
  refine loud_run ⟨default, trivial⟩ (fun g _ w w' _ _ _ h k vs' hv => (h b rfl).trans (k vs' hv)) fun w _ hav _ => ?_
  obtain ⟨hj, hb⟩ := hav j hja
  obtain ⟨w', h2, h3, h4⟩ := yields_put (P := P) (o := o) (ρ := a.eval) (w := w) x y ho hx hy (hF w hj) hs hi h1
  refine ⟨w', default, trivial, h2, h3.mono fun k hk => ⟨j, hje, by rw [hk]; exact hfp⟩, fun k hk => ⟨.inr ⟨j, hje, by rw [show k = b from hk]; exact hfp⟩, ?_⟩, fun vs' hv => by rw [harg] at hv; cases hv; exact h4⟩
  rw [show k = b from hk]
  exact Nat.lt_of_lt_of_le (hb b hfp).1 h3.size


/-- an operation that lays one new block and tells where -/
theorem loud_new (mk : Nat → Value) (x : Obj) (hs : s.ok = fun _ _ => True) (hm : ∀ args g, s.val args g = mk g.b) (hfp : ∀ args g k, s.fp args g k ↔ k = g.b) (hp : ∀ args g w, s.post args g w ↔ w.heap[g.b]? = some x)
    (hrun : ∀ w, (execOp a.eval o).run P w = .ok (.value (mk w.heap.size)) (w.alloc x)) : LoudOk P w0 M o a s av ea F Fp := by
  refine loud_run ⟨default, by rw [hs]; trivial⟩ (fun g _ w w' _ _ _ h k => ?_) fun w _ _ _ => ?_
  · rw [hp] at k ⊢
    rw [h g.b ((hfp _ _ _).2 rfl)]; exact k
  · refine ⟨w.alloc x, { b := w.heap.size }, by rw [hs]; trivial, .inl (by rw [hm]; exact hrun w), KeepBut.alloc _ _ _, fun b hb => ?_, (hp _ _ _).2 (heap_alloc_new w x)⟩
    have : b = w.heap.size := (hfp _ _ _).1 hb
    subst this
    exact ⟨.inl (Nat.le_refl _), by simp⟩

theorem loud_one (E : TypeId) (z : Int) (hrun : ∀ w, (execOp a.eval o).run P w = .ok (.value (.slice (some ⟨w.heap.size, 0, none⟩) 1 1)) (w.alloc (.cells #[.int .i64 z] E))) : LoudOk P w0 M o a (sOne E z) av ea F Fp :=
  loud_new (fun b => .slice (some ⟨b, 0, none⟩) 1 1) _ rfl (fun _ _ => rfl) (fun _ _ _ => Iff.rfl) (fun _ _ _ => Iff.rfl) hrun

theorem loud_alloc (x : Obj) (hrun : ∀ w, (execOp a.eval o).run P w = .ok (.value (.pointer (some ⟨w.heap.size, 0, none⟩))) (w.alloc x)) : LoudOk P w0 M o a (sNew x) av ea F Fp :=
  loud_new (fun b => .pointer (some ⟨b, 0, none⟩)) _ rfl (fun _ _ => rfl) (fun _ _ _ => Iff.rfl) (fun _ _ _ => Iff.rfl) hrun

/-- append of one number to a row of the region's own -/
theorem append_own1 (E t ty : TypeId) (w : World) (p : Option Addr) (c : Nat) (xs : List Int) (vb : Nat) (z : Int) (ht : P.underlying t = some (.slice E))
    (hinfo : (P.info? E).map (fun i => (i.zero, i.size, i.bytes)) = some (some (.int .i64 0), 1, 8)) (ho : OwnI E 0 w p c xs) (hv : w.heap[vb]? = some (.cells #[.int .i64 z] E (0, 0))) (hl : xs.length ≤ 1099511627776) :
    ∃ p' c' w', (Builtin.append_ #[t, t] ty #[.slice p xs.length c, .slice (some ⟨vb, 0, none⟩) 1 1]).run P w = .ok (.slice p' (xs.length + 1) c') w' ∧ OwnI E 0 w' p' c' (xs ++ [z]) ∧ KeepBut (Of p) w w' ∧ ∀ b, Of p' b → Of p b ∨ w.heap.size ≤ b := by
  obtain ⟨i0, hi, hz0, hz1, hz2⟩ := info_parts hinfo
  obtain ⟨v', w', h1, h2, h3, h4, h5⟩ := run_append_own_at (P := P) w 0 t ty E i0 (.int .i64 0) 1 8 ht hi hz0 hz1 hz2 rfl (by decide) _ xs.length (ints xs) ho ⟨vb, 0, none⟩ 1 1 [.int .i64 z] rfl
    (fun j u hj => by
      have h0 : j = 0 := by
        rcases j with _ | j
        · rfl
        · simp at hj
      subst h0
      simpa [World.cell?, Addr.add, hv] using hj)
    (fun u hu => by simp only [List.mem_singleton] at hu; subst hu; rfl) (by unfold maxLen; omega) (by omega) (Nat.zero_le _)
  have hrow : w'.ownsRow 0 E 1 v' (xs ++ [z]).length (ints (xs ++ [z])) := by simpa [ints] using h2
  obtain ⟨p', c', rfl, ho'⟩ := OwnI.of_row hrow
  refine ⟨p', c', w', by rw [h1]; simp, ho', KeepBut.grown h3 fun k hk => ?_, fun b hb => ?_⟩
  · cases p with
    | none => simp [Value.ownBlock] at hk
    | some a => simp only [Value.ownBlock, Option.some.injEq] at hk; exact ⟨a, rfl, hk.symm⟩
  · obtain ⟨a, rfl, rfl⟩ := hb
    simp only [Value.ownBlock] at h5
    rcases h5 with h5 | h5
    · cases p with
      | none => simp at h5
      | some a' => simp only [Option.some.injEq] at h5; exact .inl ⟨a', rfl, h5⟩
    · simp only [Option.some.injEq] at h5; exact .inr (by omega)

/-- .. as an operation of a region: operation j promises the row, operation k the number -/
theorem loud_append1 (E t : TypeId) (p : Option Addr) (c : Nat) (xs : List Int) (vb : Nat) (z : Int) (x y : Operand) (ho : o.op = .call { callee := .builtin .append, args := #[x, y], argTypes := #[t, t] })
    (hx : a.eval x = .slice p xs.length c) (hy : a.eval y = .slice (some ⟨vb, 0, none⟩) 1 1) (ht : P.underlying t = some (.slice E))
    (hinfo : (P.info? E).map (fun i => (i.zero, i.size, i.bytes)) = some (some (.int .i64 0), 1, 8)) (hl : xs.length ≤ 1099511627776)
    (j k : Nat) (hja : j ∈ av) (hje : j ∈ ea) (hka : k ∈ av) (hF : ∀ w, F j w → OwnI E 0 w p c xs) (hG : ∀ w, F k w → w.heap[vb]? = some (.cells #[.int .i64 z] E (0, 0))) (hfp : Fp j = Of p) :
    LoudOk P w0 M o a { val := fun _ g => .slice g.p (xs.length + 1) g.c, fp := fun _ g => Of g.p, post := fun _ g w => OwnI E 0 w g.p g.c (xs ++ [z]) } av ea F Fp := by
  refine loud_run ⟨default, trivial⟩ (fun g _ => stable_ownI _ _ _ _ _) fun w _ hav _ => ?_
  obtain ⟨p', c', w', h1, h2, h3, h4⟩ := append_own1 (P := P) E t o.type w p c xs vb z ht hinfo (hF w (hav j hja).1) (hG w (hav k hka).1) hl
  refine ⟨w', { p := p', c := c' }, trivial, .inl ?_, h3.mono fun b hb => ⟨j, hje, by rw [hfp]; exact hb⟩, fun b hb => ⟨?_, ?_⟩, h2⟩
  · unfold execOp
    simp only [ho, resolve, invoke, builtin, Sem.run_bind, Sem.run_pure, Result.andThen_ok, List.map_toArray, List.map_cons, List.map_nil, hx, hy, h1]
  · rcases h4 b hb with h | h
    · exact .inr ⟨j, hje, by rw [hfp]; exact h⟩
    · exact .inl h
  · obtain ⟨a', h5, rfl⟩ := hb
    exact (h2.lt a' h5).2

end

end Go.Proofs.YtoolpifkfgileaaDoor

/-
  Package spec: the small functions: what each returns.
-/
namespace Go.Proofs.YtoolpifkfgileaaDoor
open Go Go.RowKit Own

/-- whose an operation is -/
def kindOf (op : Int) : Int := if op = 1 ∨ op = 2 then 1 else if op = 3 ∨ op = 4 then 2 else if op = 5 ∨ op = 6 ∨ op = 7 then 3 else 0
/-- the numbers rise -/
def strictB (xs : List Int) : Bool := decide (∀ j, j < xs.length → j + 1 < xs.length → nth xs j < nth xs (j + 1))
def kindB (k : Int) : Bool := decide (1 ≤ k ∧ k ≤ 3)
/-- may a content be: the code of an error -/
def chk (k : Int) (xs : List Int) : Int := if kindB k = true ∧ xs.length ≤ 64 ∧ (k = 3 → strictB xs = true) then 0 else 2

theorem ret_int {k : IntKind} {a b : Int} (h : a = b) : Ending.returned (.int k a) = .returned (.int k b) := by rw [h]
theorem ret_bool {a b : Bool} (h : a = b) : Ending.returned (.bool a) = .returned (.bool b) := by rw [h]

set_option maxHeartbeats 400000 in
theorem isKind_any (k : Int) (w : World) :
    Calls Tryd.prog 71 #[.int .i64 k] w fun e w' => e = .returned (.bool (kindB k)) ∧ w' = w := by
  by_cases h : 1 ≤ k
  · by_cases h2 : k ≤ 3
    · go_enter Tryd.func71, Tryd.ntmps71
      go_wp2
      go_ret
      exact ⟨ret_bool (decide_eq_true (by omega)).symm, rfl⟩
    · go_enter Tryd.func71, Tryd.ntmps71
      go_wp2
      go_ret
      exact ⟨ret_bool (decide_eq_false (by omega)).symm, rfl⟩
  · go_enter Tryd.func71, Tryd.ntmps71
    go_wp2
    go_ret
    exact ⟨ret_bool (decide_eq_false (by omega)).symm, rfl⟩

theorem kindOf_out {op : Int} (h : op < 1 ∨ 7 < op) : kindOf op = 0 := by
  rw [kindOf, if_neg (by omega), if_neg (by omega), if_neg (by omega)]

set_option maxHeartbeats 1000000 in
theorem kind_any (op : Int) (w : World) :
    Calls Tryd.prog 52 #[.int .i64 op] w fun e w' => e = .returned (.int .i64 (kindOf op)) ∧ w' = w := by
  by_cases h : op < 1
  · go_enter Tryd.func52, Tryd.ntmps52
    go_wp2
    go_ret
    exact ⟨ret_int (kindOf_out (.inl h)).symm, rfl⟩
  · by_cases h2 : 7 < op
    · go_enter Tryd.func52, Tryd.ntmps52
      go_wp2
      go_ret
      exact ⟨ret_int (kindOf_out (.inr h2)).symm, rfl⟩
    · have H : ∀ k : Nat, 1 ≤ k → k ≤ 7 → (∀ w, (Instr.index 101 (.agg #[.int .i64 0, .int .i64 1, .int .i64 1, .int .i64 2, .int .i64 2, .int .i64 3, .int .i64 3, .int .i64 3]) (.int .i64 (k : Int))).run Tryd.prog w = .ok (.int .i64 (kindOf k)) w) →
          Calls Tryd.prog 52 #[.int .i64 (k : Int)] w fun e w' => e = .returned (.int .i64 (kindOf k)) ∧ w' = w := by
        intro k h1 h2 hk
        generalize kindOf (k : Int) = K at *
        go_enter Tryd.func52, Tryd.ntmps52
        go_wp2
        go_ret
        exact ⟨rfl, rfl⟩
      have : op = (1 : Nat) ∨ op = (2 : Nat) ∨ op = (3 : Nat) ∨ op = (4 : Nat) ∨ op = (5 : Nat) ∨ op = (6 : Nat) ∨ op = (7 : Nat) := by omega
      rcases this with rfl | rfl | rfl | rfl | rfl | rfl | rfl
      · exact H 1 (by omega) (by omega) fun w => by kernel_rfl
      · exact H 2 (by omega) (by omega) fun w => by kernel_rfl
      · exact H 3 (by omega) (by omega) fun w => by kernel_rfl
      · exact H 4 (by omega) (by omega) fun w => by kernel_rfl
      · exact H 5 (by omega) (by omega) fun w => by kernel_rfl
      · exact H 6 (by omega) (by omega) fun w => by kernel_rfl
      · exact H 7 (by omega) (by omega) fun w => by kernel_rfl

theorem nat_beq (a b : Nat) : ((a : Int) == (b : Int)) = decide (a = b) := by
  by_cases h : a = b
  · subst h; simp
  · rw [decide_eq_false h, beq_eq_false_iff_ne]; omega

theorem blk_cell {w : World} {b k : Nat} {cs : Array Value} {T : TypeId} {v : Value} (h : w.heap[b]? = some (.cells cs T (0, 0))) (hk : cs[k]? = some v) : w.cell? ⟨b, k, none⟩ = some v := by
  simp [World.cell?, h, hk]

theorem strict_of {xs : List Int} (h : AscFrom xs 0) : strictB xs = decide (runs xs = xs.length) := by
  unfold strictB
  have e : (∀ j, j < xs.length → j + 1 < xs.length → nth xs j < nth xs (j + 1)) ↔ runs xs = xs.length := by
    have hk : runs xs = xs.length ↔ ∀ j ∈ List.range xs.length, Lib.keeps xs.toArray j = true := by
      unfold runs Lib.compactUpTo
      rw [List.length_map]
      have := List.length_filter_eq_length_iff (p := Lib.keeps xs.toArray) (l := List.range xs.length)
      rw [List.length_range] at this
      exact this
    rw [hk]
    have hg : ∀ j, j < xs.length → xs.toArray[j]! = nth xs j := fun j hj => by simp [nth, hj]
    constructor
    · intro hs j hj
      have hj' := List.mem_range.1 hj
      rcases Nat.eq_zero_or_pos j with rfl | hp
      · simp [Lib.keeps]
      · refine Lib.keeps_pos ?_
        rw [hg j hj', hg (j - 1) (by omega)]
        have := hs (j - 1) (by omega) (by omega)
        rw [show j - 1 + 1 = j by omega] at this
        omega
    · intro hs j hj hj1
      have := hs (j + 1) (List.mem_range.2 hj1)
      simp only [Lib.keeps, decide_eq_true_eq] at this
      rw [show j + 1 - 1 = j by omega, hg (j + 1) hj1, hg j hj] at this
      have h2 := h j (Nat.zero_le _) hj1
      omega
  exact decide_eq_decide.2 e

set_option maxHeartbeats 1000000 in
/-- spec.Check$1: do the items rise? -/
theorem rises_any (w : World) (b : Nat) (k : Int) (p : Option Addr) (c : Nat) (xs : List Int) (hb : w.heap[b]? = some (.cells #[.int .i64 k, .slice p xs.length c] 47 (0, 0)))
    (hrd : Rd w p (ints xs)) (hl : xs.length ≤ 1099511627776) (hp : ∀ a, p = some a → a.spot = none) :
    Calls Tryd.prog 68 #[.pointer (some ⟨b, 0, none⟩)] w fun e w' => e = .returned (.bool (strictB xs)) ∧ KeepBut (fun _ => False) w w' := by
  have hc := blk_cell (k := 1) hb rfl
  have hbl : b < w.heap.size := World.block_lt_of_cell? w _ hc
  by_cases hs : AscFrom xs 0
  · have hd : ascB xs = true := decide_eq_true hs
    have HS := Lib.hid hs; have HR := Lib.hid hrd; have HP := Lib.hid hp; have HB := Lib.hid hb; have HC := Lib.hid hc
    clear hs hrd hp hb hc
    have hC : ∀ w', KeepBut (fun _ => False) w.drew w' → w'.cell? ⟨b, 1, none⟩ = some (.slice p xs.length c) := fun w' hk => hk.cell (show w.drew.cell? _ = _ from HC.out) (fun e => e)
    have hR : Hid (∀ w', KeepBut (fun _ => False) w.drew w' → Rd w' p (ints xs)) := fun w' hk => Rd.keep (w := w.drew) HR.out hk (fun _ _ e => e)
    go_enter Tryd.func68, Tryd.ntmps68
    go_wp2_with fail
    refine wp_own0 (by kernel_rfl) (fun i => [[], [0], [0, 1], [0, 1, 2], [0, 1, 2, 3], [0, 1, 2, 3, 4], [0, 1, 2, 3, 4, 5], [0, 1, 2, 3, 4, 5, 6], [0, 1, 2, 3, 4, 5, 6, 7], [0, 1, 2, 3], [0, 1, 2, 3, 9], [0, 1, 2, 3, 9, 10], [0, 1, 2, 3, 4, 5, 6, 7, 8, 9, 10, 11], [0, 1, 2, 3, 4, 5, 6, 7, 8, 9, 10, 11, 12], [0, 1, 2, 3, 4, 5, 6, 7, 8, 9, 10, 11, 12, 13]].getD i [])
      (fun i => if i = 7 then [6] else []) (fun i => if i = 7 then [6] else []) [] (by kernel_rfl)
      (fun i => if i = 2 then some (sConst (.bool true)) else if i = 6 then some (sOwnI 2 xs) else if i = 7 then some { val := fun _ g => .slice g.p (runs xs) g.c } else none) ?_
    repeat
      apply lex_quiet rfl rfl
      · intro w' hk; go_simp; with_reducible rfl
      simp only [Act.put, List.setIfInBounds_toArray, List.set_cons_zero, List.set_cons_succ]
    refine lex_loud rfl rfl (loud_call 69 #[.slice p xs.length c] (fun w => by kernel_rfl) ⟨default, trivial⟩ (fun g _ => stable_true _) fun w' hk _ _ => (isSorted_any w' p xs c (hR.out w' hk) hl).mono ?_) fun g _ => ?_
    · rintro e w'' ⟨rfl, hq⟩
      exact ⟨default, trivial, by rw [hd]; rfl, hq.keep _, fun b h => h.elim, trivial⟩
    simp only [sConst, Act.put, List.setIfInBounds_toArray, List.set_cons_zero, List.set_cons_succ]
    repeat
      apply lex_quiet rfl rfl
      · intro w' hk; go_simp; with_reducible rfl
      simp only [Act.put, List.setIfInBounds_toArray, List.set_cons_zero, List.set_cons_succ]
    refine lex_loud rfl rfl (loud_call 44 #[.slice p xs.length c] (fun w => by kernel_rfl) ⟨default, trivial⟩ (fun g _ => stable_ownI _ _ _ _ _) fun w' hk _ _ => (clone_any w' p xs c (hR.out w' hk) hl HP.out).mono ?_) fun g _ => ?_
    · rintro e w'' ⟨p', c', rfl, ho, hq⟩
      exact ⟨{ p := p', c := c' }, trivial, rfl, hq.mono fun _ e => e.elim, fun b ⟨a, h1, h2⟩ => by have := ho.lt a h1; exact ⟨.inl (by omega), by omega⟩, ho.base fun _ _ => Nat.zero_le _⟩
    simp only [sOwnI, Act.put, List.setIfInBounds_toArray, List.set_cons_zero, List.set_cons_succ]
    refine lex_loud rfl rfl (loud_call 70 #[.slice g.p xs.length g.c] (fun w => by kernel_rfl) ⟨default, trivial⟩ (fun g _ => stable_true _) fun w' hk hF _ => (compact_any 0 w' g.p xs g.c (hF 6 (by decide)).1 hl).mono ?_) fun g' _ => ?_
    · rintro e w'' ⟨rfl, hq⟩
      exact ⟨{ p := g.p, c := g.c }, trivial, rfl, hq.mono fun b hb => ⟨6, by decide, hb⟩, fun b h => h.elim, trivial⟩
    repeat
      apply lex_quiet rfl rfl
      · intro w' hk; go_simp; with_reducible rfl
      simp only [Act.put, List.setIfInBounds_toArray, List.set_cons_zero, List.set_cons_succ]
    refine lex_nil ?_
    intro w1 hk1 _ _
    go_wp2_with fail
    go_ret
    exact ⟨ret_bool (by rw [strict_of HS.out]; exact nat_beq _ _), (KeepBut.drew _ w).trans hk1⟩
  · have hd : ascB xs = false := decide_eq_false hs
    have HR := Lib.hid hrd; have HP := Lib.hid hp; have HB := Lib.hid hb; have HS := Lib.hid hs
    clear hs hrd hp hb
    go_enter Tryd.func68, Tryd.ntmps68
    go_wp2_with fail
    have hcon : ∀ W, Rd W p (ints xs) → Calls Tryd.prog 69 #[.slice p xs.length c] W fun e w' => e = .returned (.bool false) ∧ ∃ n, w' = W.drewN n := fun W h => by
      rw [← hd]; exact isSorted_any W p xs c h hl
    clear hd
    go_quiet ((go_at_call 69; exact Calls.quiet_of (hcon _ (Rd.drewN HR.out _))))
    go_wp2_with fail
    go_ret
    refine ⟨ret_bool (decide_eq_false fun h => HS.out fun j _ hj => ?_).symm, KeepBut.drewN _ _ _⟩
    have := h j (by omega) hj
    omega

theorem chk_ok {k : Int} {xs : List Int} (h : kindB k = true) (hl : xs.length ≤ 64) (h3 : k = 3 → strictB xs = true) : chk k xs = 0 := if_pos ⟨h, hl, h3⟩
theorem chk_no {k : Int} {xs : List Int} (h : ¬ (kindB k = true ∧ xs.length ≤ 64 ∧ (k = 3 → strictB xs = true))) : chk k xs = 2 := if_neg h

set_option maxHeartbeats 1000000 in
/-- spec.Check -/
theorem check_any (w : World) (k : Int) (p : Option Addr) (c : Nat) (xs : List Int) (hrd : Rd w p (ints xs)) (hl : xs.length ≤ 1099511627776) (hp : ∀ a, p = some a → a.spot = none) :
    Calls Tryd.prog 63 #[.agg #[.int .i64 k, .slice p xs.length c]] w fun e w' => e = .returned (.int .i64 (chk k xs)) ∧ KeepBut (fun _ => False) w w' := by
  have HR := Lib.hid hrd; have HP := Lib.hid hp
  clear hrd hp
  have halloc := KeepBut.alloc (fun _ => False) w (.cells #[.int .i64 k, .slice p xs.length c] 47)
  have HA := Lib.hid halloc
  clear halloc
  have hrise : ∀ W, W = w.alloc (.cells #[.int .i64 k, .slice p xs.length c] 47) → Calls Tryd.prog 68 #[.pointer (some ⟨w.heap.size, 0, none⟩)] W fun e w' => e = .returned (.bool (strictB xs)) ∧ KeepBut (fun _ => False) W w' := fun W hW => by
    subst hW
    exact rises_any _ w.heap.size k p c xs (heap_alloc_new w _) (Rd.keep HR.out HA.out (fun _ _ e => e)) hl HP.out
  have HRI := Lib.hid hrise
  clear hrise
  rcases Bool.eq_false_or_eq_true (kindB k) with hk | hk
  · by_cases h64 : xs.length ≤ 64
    · have hi : (xs.length : Int) ≤ 64 := by omega
      by_cases h3 : k = 3
      · have h3' : (k == 3) = true := by simpa using h3
        rcases Bool.eq_false_or_eq_true (strictB xs) with hs | hs
        · have hfin := Lib.hid (chk_ok hk h64 fun _ => hs)
          clear h3
          go_enter Tryd.func63, Tryd.ntmps63
          go_wp2_with (first | (go_at_call 71; refine (isKind_any _ _).mono ?_; rintro e w' ⟨rfl, rfl⟩) | (go_at_call 68; refine (HRI.out _ rfl).mono ?_; rintro e w' ⟨rfl, hk2⟩))
          go_ret
          exact ⟨ret_int hfin.out.symm, HA.out.trans hk2⟩
        · have hfin := Lib.hid (chk_no (k := k) (xs := xs) fun h => by rw [h.2.2 h3] at hs; cases hs)
          clear h3
          go_enter Tryd.func63, Tryd.ntmps63
          go_wp2_with (first | (go_at_call 71; refine (isKind_any _ _).mono ?_; rintro e w' ⟨rfl, rfl⟩) | (go_at_call 68; refine (HRI.out _ rfl).mono ?_; rintro e w' ⟨rfl, hk2⟩))
          go_ret
          exact ⟨ret_int hfin.out.symm, HA.out.trans hk2⟩
      · have h3' : (k == 3) = false := by simpa using h3
        have hfin := Lib.hid (chk_ok hk h64 fun h => (h3 h).elim)
        clear h3
        go_enter Tryd.func63, Tryd.ntmps63
        go_wp2_with (first | (go_at_call 71; refine (isKind_any _ _).mono ?_; rintro e w' ⟨rfl, rfl⟩) | (go_at_call 68; refine (HRI.out _ rfl).mono ?_; rintro e w' ⟨rfl, hk2⟩))
        go_ret
        exact ⟨ret_int hfin.out.symm, HA.out⟩
    · have hi : (64 : Int) < (xs.length : Int) := by omega
      have hfin := Lib.hid (chk_no (k := k) (xs := xs) fun h => h64 h.2.1)
      clear h64
      go_enter Tryd.func63, Tryd.ntmps63
      go_wp2_with (first | (go_at_call 71; refine (isKind_any _ _).mono ?_; rintro e w' ⟨rfl, rfl⟩) | (go_at_call 68; refine (HRI.out _ rfl).mono ?_; rintro e w' ⟨rfl, hk2⟩))
      go_ret
      exact ⟨ret_int hfin.out.symm, HA.out⟩
  · have hfin := Lib.hid (chk_no (k := k) (xs := xs) fun h => by rw [h.1] at hk; cases hk)
    go_enter Tryd.func63, Tryd.ntmps63
    go_wp2_with (first | (go_at_call 71; refine (isKind_any _ _).mono ?_; rintro e w' ⟨rfl, rfl⟩) | (go_at_call 68; refine (HRI.out _ rfl).mono ?_; rintro e w' ⟨rfl, hk2⟩))
    go_ret
    exact ⟨ret_int hfin.out.symm, HA.out⟩

end Go.Proofs.YtoolpifkfgileaaDoor
