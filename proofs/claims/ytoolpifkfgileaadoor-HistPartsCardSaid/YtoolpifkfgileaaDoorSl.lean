/-
  The library's functions on []int64 that the program calls: what each returns and what it does to memory.
-/
import Derived.Test.YtoolpifkfgileaaDoorMem
import Derived.Test.YtoolpifkfgileaaDoorShelf
import Derived.Test.YtoolpifkfgileaaDoorRows
import Derived.WalkSpells
import Derived.WalkLawsBesides
import Derived.Deep.QuietTactic
import Derived.BigQuiet
import Derived.Lib.Hide
namespace Go.Proofs.YtoolpifkfgileaaDoor
open Go Go.RowKit Own

/-- no element is smaller than the one before it, from place k on -/
def AscFrom (xs : List Int) (k : Nat) : Prop := ∀ j, k ≤ j → j + 1 < xs.length → nth xs j ≤ nth xs (j+1)
instance (xs : List Int) (k : Nat) : Decidable (AscFrom xs k) := decidable_of_iff (∀ j, j < xs.length → (k ≤ j → j + 1 < xs.length → nth xs j ≤ nth xs (j+1))) ⟨fun h j a b => h j (by omega) a b, fun h j _ a b => h j a b⟩
/-- the numbers rise, or stay -/
def ascB (xs : List Int) : Bool := decide (AscFrom xs 0)

theorem less_any (a b : Int) (w : World) :
    Calls Tryd.prog 81 #[.int .i64 a, .int .i64 b] w fun e w' => e = .returned (.bool (decide (a < b))) ∧ w' = w := Tryd.cmp_Less_int2 a b w

set_option maxHeartbeats 1000000 in
theorem sorted_cons (w : World) (b off : Nat) (xs : List Int) (cap : Nat) (hrd : Rd w (some ⟨b, off, none⟩) (ints xs)) (hl : xs.length ≤ 1099511627776) (hpos : 0 < xs.length) :
    Calls Tryd.prog 69 #[.slice (some ⟨b, off, none⟩) xs.length cap] w fun e w' => e = .returned (.bool (ascB xs)) ∧ Drew w w' := by
  have HR := Lib.hid hrd
  clear hrd
  go_enter Tryd.func69, Tryd.ntmps69
  go_wp2_with fail
  go_loopw [3] (fun i wr => ∃ k : Nat, k < xs.length ∧ i = .int .i64 k ∧ AscFrom xs k ∧ Drew w wr) (fun i _ => (intOf i).toNat)
  case atStart => exact ⟨xs.length - 1, by omega, by congr 1; omega, fun j a b => by omega, Drew.refl w⟩
  case round =>
    obtain ⟨k, hk, rfl, hs, hd⟩ := hrel
    have HS := Lib.hid hs
    have HD := Lib.hid hd
    clear hs hd
    rcases Nat.eq_zero_or_pos k with rfl | hkp
    · go_wp2_with fail
      go_ret
      exact ⟨by simp [ascB, HS.out], HD.out⟩
    · obtain ⟨m, rfl⟩ : ∃ m, k = m + 1 := ⟨k-1, by omega⟩
      have h1 := (HD.out.rd HR.out).int (m+1) hk
      have h2 := (HD.out.rd HR.out).int m (by omega)
      have i1 : (0:Int) ≤ (m:Int) := by omega
      have i0 : (0:Int) ≤ (m:Int) + 1 := by omega
      have i2 : (m:Int) + 1 < (xs.length:Int) := by omega
      have i3 : (m:Int) < (xs.length:Int) := by omega
      have hW : IntKind.i64.wrap (m:Int) = m := IntWalk.i64_in _ (by omega)
      go_wp2_with fail
      go_quiet ((go_at_call 81; exact Calls.quiet_of_same (less_any _ _ _)))
      by_cases hlt : nth xs (m+1) < nth xs m
      · have hd : decide (nth xs (m+1) < nth xs m) = true := by simpa using hlt
        go_wp2_with fail
        go_ret
        refine ⟨?_, HD.out.drewN _⟩
        have : ¬ AscFrom xs 0 := fun h => by have := h m (by omega) (by omega); omega
        simp [ascB, this]
      · have hd : decide (nth xs (m+1) < nth xs m) = false := by simpa using hlt
        go_wp2_with fail
        go_roundw
        case rel =>
          refine ⟨m, by omega, by go_num, ?_, HD.out.drewN _⟩
          intro j a b
          rcases Nat.lt_or_ge m j with h | h
          · exact HS.out j (by omega) b
          · obtain rfl : j = m := by omega
            omega
        case measure => simp [intOf]

set_option maxHeartbeats 1000000 in
theorem sorted_none (w : World) (p : Option Addr) (cap : Nat) :
    Calls Tryd.prog 69 #[.slice p 0 cap] w fun e w' => e = .returned (.bool true) ∧ Drew w w' := by
  go_enter Tryd.func69, Tryd.ntmps69
  go_wp2_with fail
  refine wp_loop_rounds 1 ?_
  rw [rounds_succ]
  go_wp2_with fail
  go_ret
  exact ⟨rfl, Drew.refl w⟩

theorem isSorted_any (w : World) (p : Option Addr) (xs : List Int) (cap : Nat) (hrd : Rd w p (ints xs)) (hl : xs.length ≤ 1099511627776) :
    Calls Tryd.prog 69 #[.slice p xs.length cap] w fun e w' => e = .returned (.bool (ascB xs)) ∧ Drew w w' := by
  rcases Nat.eq_zero_or_pos xs.length with h | h
  · have : xs = [] := List.eq_nil_of_length_eq_zero h
    subst this
    exact sorted_none w p cap
  · obtain ⟨b, o, rfl, _⟩ := hrd.ptr (by rw [ints_length]; exact h)
    exact sorted_cons w b o xs cap hrd hl h

theorem info_int64 : (Tryd.prog.info? 2).map (fun i => (i.zero, i.size, i.bytes)) = some (some (.int .i64 0), 1, 8) := by kernel_rfl

theorem ints_oneCell' (xs : List Int) : ∀ u ∈ ints xs, u.oneCell' = true := by
  intro u hu
  obtain ⟨x, _, rfl⟩ := List.mem_map.1 hu
  rfl

/-- slices.Clone -/
theorem clone_any (w : World) (p : Option Addr) (xs : List Int) (cap : Nat) (hrd : Rd w p (ints xs)) (hl : xs.length ≤ 1099511627776) (hp : ∀ a, p = some a → a.spot = none) :
    Calls Tryd.prog 44 #[.slice p xs.length cap] w fun e w' => ∃ p' c', e = .returned (.slice p' xs.length c') ∧ OwnI 2 w.heap.size w' p' c' xs ∧ KeepBut (fun _ => False) w w' := by
  cases p with
  | none =>
    have : xs = [] := by
      apply Classical.byContradiction; intro h
      obtain ⟨b, o, h1, _⟩ := hrd.ptr (by rw [ints_length]; exact List.length_pos_iff.2 h)
      cases h1
    subst this
    refine (Tryd.slices_Clone_nil_f44 0 cap w).mono ?_
    rintro e w' ⟨rfl, rfl⟩
    exact ⟨none, 0, rfl, OwnI.empty, KeepBut.refl _ _⟩
  | some a =>
    obtain ⟨b, o, sp⟩ := a
    obtain rfl : sp = none := hp _ rfl
    obtain ⟨i0, hi, hz0, hz1, hz2⟩ := info_parts info_int64
    refine (Tryd.slices_Clone_f44 i0 (.int .i64 0) 1 8 hi hz0 hz1 hz2 rfl (by decide) Tryd.sizeOf2 b o xs.length cap (ints xs) w (by rw [ints_length]; omega) (by unfold maxLen; omega) (by omega) (fun j u hj => hrd.cell j u hj) (ints_oneCell' xs)).mono ?_
    rintro e w' ⟨v', rfl, hown, _, hb⟩
    obtain ⟨p', c', rfl, ho⟩ := OwnI.of_row hown
    exact ⟨p', c', rfl, ho, KeepBut.of_below hb⟩

theorem allEq_ints (xs : List Int) : ∀ ys, Lib.allEq (fun x y => x == y) xs ys = decide (xs = ys) := by
  induction xs with
  | nil => intro ys; cases ys <;> rfl
  | cons x xs ih =>
    intro ys
    cases ys with
    | nil => rfl
    | cons y ys =>
      simp only [Lib.allEq, ih, List.cons.injEq]
      by_cases h1 : x = y <;> by_cases h2 : xs = ys <;> simp [h1, h2]

theorem nth_get (xs : List Int) (j : Nat) (h : j < xs.length) : xs[j]! = nth xs j := by
  simp [nth, h]

set_option maxHeartbeats 1000000 in
theorem search_empty (w : World) (p : Option Addr) (x : Int) (c : Nat) :
    Calls Tryd.prog 79 #[.slice p 0 c, .int .i64 x] w fun e w' => e = .returned (.tuple #[.int .i64 0, .bool false]) ∧ Drew w w' := by
  go_enter Tryd.func79, Tryd.ntmps79
  go_wp2_with fail
  refine wp_loop_rounds 1 ?_
  rw [rounds_succ]
  go_wp2_with fail
  go_ret2
  exact ⟨rfl, Drew.refl w⟩

/-- slices.BinarySearch, of a list that rises -/
theorem search_any (w : World) (p : Option Addr) (xs : List Int) (x : Int) (c : Nat) (hx : Rd w p (ints xs)) (hlx : xs.length ≤ 1099511627776) (hs : xs.Pairwise (· ≤ ·)) :
    Calls Tryd.prog 79 #[.slice p xs.length c, .int .i64 x] w fun e w' => e = .returned (.tuple #[.int .i64 (xs.countP (· < x) : Nat), .bool (xs.contains x)]) ∧ Drew w w' := by
  rcases Nat.eq_zero_or_pos xs.length with h | h
  · have e1 : xs = [] := List.eq_nil_of_length_eq_zero h
    subst e1
    exact search_empty w p x c
  · obtain ⟨b, o, rfl, _⟩ := hx.ptr (by rw [ints_length]; exact h)
    refine (Tryd.slices_BinarySearch_int b o xs.length c xs x w (Nat.le_refl _) (by omega) (fun j hj => by rw [hx.int j hj]; rfl) (by rw [List.take_length]; exact hs)).mono ?_
    rintro e w' ⟨rfl, hq⟩
    exact ⟨by rw [List.take_length], hq⟩

/-- slices.Delete of one element, out of a row of the call's own -/
theorem delete_any (base : Nat) (w : World) (p : Option Addr) (xs : List Int) (c k : Nat) (a b : Int) (ho : OwnI 2 base w p c xs) (hk : k < xs.length) (ha : a = k) (hb : b = k + 1) :
    Calls Tryd.prog 82 #[.slice p xs.length c, .int .i64 a, .int .i64 b] w fun e w' => e = .returned (.slice p (xs.length - 1) c) ∧ OwnI 2 base w' p c (xs.eraseIdx k) ∧ KeepBut (Of p) w w' := by
  obtain ⟨g, o, rfl, _⟩ := ho.rd.ptr (by rw [ints_length]; omega)
  obtain ⟨i0, hi, hz0, hz1, hz2⟩ := info_parts info_int64
  rcases ho.parts with ⟨h1, _, _⟩ | ⟨g', cur, h1, h2, h3, h4, h5, h6, h7⟩
  · cases h1
  · cases h1
    subst ha
    have hb' : b = ((k + 1 : Nat) : Int) := by omega
    subst hb'
    have H := Tryd.slices_Delete (Value.int .i64) (fun _ => rfl) 0 Tryd.zeroValue2 i0 hi hz1 g 0 c k (k + 1) xs.toArray w ho.holds (by simpa using h4) (by unfold maxLen at h5; omega) (by omega) (by simp; omega)
    simp only [List.size_toArray, Nat.add_sub_cancel_left] at H
    refine H.mono ?_
    rintro e w' ⟨rfl, q, rfl⟩
    have hl : (xs.take k ++ xs.drop (k + 1) ++ List.replicate 1 0).length = xs.length := by
      simp; omega
    have hput := ho.put (xs.take k ++ xs.drop (k + 1) ++ List.replicate 1 0) hl q
    have hcut := hput.1.cut (xs.length - 1)
    have he : (xs.take k ++ xs.drop (k + 1) ++ List.replicate 1 0).take (xs.length - 1) = xs.eraseIdx k := by
      rw [List.eraseIdx_eq_take_drop_succ]
      rw [List.take_append_of_le_length (by simp; omega), List.take_of_length_le (by simp; omega)]
    rw [he] at hcut
    exact ⟨rfl, hcut, hput.2.mono fun x hx => Of.some_iff.2 hx⟩

/-- how many are left where neighbours that are the same count once -/
def runs (xs : List Int) : Nat := (Lib.compactUpTo xs.toArray xs.length).length

theorem runs_le (xs : List Int) : runs xs ≤ xs.length := by
  unfold runs Lib.compactUpTo
  rw [List.length_map]
  exact Nat.le_trans (List.length_filter_le _ _) (by simp)

set_option maxHeartbeats 400000 in
theorem compact_empty (w : World) (p : Option Addr) (c : Nat) :
    Calls Tryd.prog 70 #[.slice p 0 c] w fun e w' => e = .returned (.slice p 0 c) ∧ w' = w := by
  go_enter Tryd.func70, Tryd.ntmps70
  go_wp2
  go_ret
  exact ⟨rfl, rfl⟩

/-- slices.Compact of a row of the call's own: its length -/
theorem compact_any (base : Nat) (w : World) (p : Option Addr) (xs : List Int) (c : Nat) (ho : OwnI 2 base w p c xs) (hl : xs.length ≤ 1099511627776) :
    Calls Tryd.prog 70 #[.slice p xs.length c] w fun e w' => e = .returned (.slice p (runs xs) c) ∧ KeepBut (Of p) w w' := by
  rcases Nat.eq_zero_or_pos xs.length with h | h
  · have : xs = [] := List.eq_nil_of_length_eq_zero h
    subst this
    refine (compact_empty w p c).mono ?_
    rintro e w' ⟨rfl, rfl⟩
    exact ⟨rfl, KeepBut.refl _ _⟩
  · obtain ⟨g, o, rfl, _⟩ := ho.rd.ptr (by rw [ints_length]; omega)
    rcases ho.parts with ⟨h1, _, _⟩ | ⟨g', cur, h1, h2, h3, h4, h5, h6, h7⟩
    · cases h1
    · cases h1
      have H := Tryd.slices_Compact (Value.int .i64) (fun _ => rfl) (EqlAt.intD _ _ _) (NeqAt.intD _ _ _) 0 Tryd.zeroValue2 g 0 c xs.toArray w ho.holds (by simp; omega) (by simpa using h4)
      simp only [List.size_toArray] at H
      refine H.mono ?_
      rintro e w' ⟨rfl, q, rfl⟩
      refine ⟨rfl, ?_⟩
      have hput := (ho.put (Lib.compactUpTo xs.toArray xs.length ++ List.replicate (xs.length - (Lib.compactUpTo xs.toArray xs.length).length) 0) (by
        have := runs_le xs; unfold runs at this; simp; omega) q).2
      exact hput.mono fun x hx => Of.some_iff.2 hx

set_option maxHeartbeats 400000 in
/-- slices.Clip -/
theorem clip_any (w : World) (p : Option Addr) (n c : Nat) (hn : n ≤ c) (hc : c ≤ 9223372036854775807) :
    Calls Tryd.prog 65 #[.slice p n c] w fun e w' => e = .returned (.slice p n n) ∧ w' = w := by
  have : n ≤ 9223372036854775807 := by omega
  go_enter Tryd.func65, Tryd.ntmps65
  go_wp2
  go_ret
  exact ⟨rfl, rfl⟩

end Go.Proofs.YtoolpifkfgileaaDoor
