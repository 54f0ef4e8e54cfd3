/-
  The reference of chapter 19: Check, Same.
-/
import Derived.Test.YtopodipjapiaoaaDoorRef1
namespace Go.Proofs.YtopodipjapiaoaaDoor
open Go Go.RowKit Own

set_option maxHeartbeats 8000000 in
theorem refCheck_any (w : World) (k : Int) (p : Option Addr) (c : Nat) (xs : List Int) (hrd : Rd w p (ints xs)) (hl : xs.length ≤ 1099511627776) :
    Calls Tryd.prog 21 #[.agg #[.int .i64 k, .slice p xs.length c]] w fun e w' => e = .returned (.int .i64 (chk k xs)) ∧ KeepBut (fun _ => False) w w' := by
  obtain ⟨V, B, hV, hB, hb, hkV, -⟩ := fresh_block w (.cells #[.int .i64 k, .slice p xs.length c] 24)
  have HR := Lib.hid (hrd.stay hkV)
  have HK := Lib.hid hkV
  have HB := Lib.hid hb
  have x0 := blk_cell (k := 0) hb rfl
  have x1 := blk_cell (k := 1) hb rfl
  clear hrd hkV hb
  by_cases h1 : k < 1
  · have hc := Lib.hid (chk_no (k := k) (xs := xs) fun h => by have := of_decide_eq_true h.1; omega)
    go_enter Tryd.func21, Tryd.ntmps21
    go_upto_region 1 with fail
    rw [← hV, ← hB]
    clear hV hB
    go_wp2_with fail
    go_ret
    exact ⟨ret_int hc.out.symm, HK.out⟩
  by_cases h3 : 3 < k
  · have hc := Lib.hid (chk_no (k := k) (xs := xs) fun h => by have := of_decide_eq_true h.1; omega)
    go_enter Tryd.func21, Tryd.ntmps21
    go_upto_region 1 with fail
    rw [← hV, ← hB]
    clear hV hB
    go_wp2_with fail
    go_ret
    exact ⟨ret_int hc.out.symm, HK.out⟩
  by_cases h6 : 64 < xs.length
  · have hc := Lib.hid (chk_no (k := k) (xs := xs) fun h => by have := h.2.1; omega)
    have h6i : (64 : Int) < xs.length := by omega
    clear h6
    go_enter Tryd.func21, Tryd.ntmps21
    go_upto_region 1 with fail
    rw [← hV, ← hB]
    clear hV hB
    go_wp2_with fail
    go_ret
    exact ⟨ret_int hc.out.symm, HK.out⟩
  have h6i : ¬ (64 : Int) < xs.length := by omega
  have hkb := Lib.hid (show kindB k = true from decide_eq_true (by omega))
  go_enter Tryd.func21, Tryd.ntmps21
  go_upto_region 1 with fail
  rw [← hV, ← hB]
  clear hV hB
  go_wp2_with fail
  clear x0 x1
  go_loopw [3] (fun v3 wr => KeepBut (fun _ => False) V wr ∧ ∃ i : Nat, 1 ≤ i ∧ (i ≤ xs.length ∨ i = 1) ∧ v3 = .int .i64 i ∧ (k = 3 → ∀ j, j + 1 < i → nth xs j < nth xs (j + 1))) (fun i _ => xs.length - (intOf i).toNat)
  case atStart => exact ⟨KeepBut.refl _ _, 1, Nat.le_refl _, .inr rfl, rfl, fun _ j h => by omega⟩
  case round =>
    obtain ⟨hk, i, hi1, hi2, rfl, hm⟩ := hrel
    have HKr := Lib.hid hk; have HM := Lib.hid hm
    have x0 := blk_cell (k := 0) (hk.blk HB.out) rfl
    have x1 := blk_cell (k := 1) (hk.blk HB.out) rfl
    clear hk hm
    have hi0 : (0 : Int) ≤ i := by omega
    have hWi : IntKind.i64.wrap ((i : Int) + 1) = i + 1 := IntWalk.i64_in _ (by omega)
    by_cases hlt : i < xs.length
    · have hltI : (i : Int) < xs.length := by omega
      by_cases hk3 : k = 3
      · have hrd := HR.out.stay HKr.out
        obtain ⟨b, o, rfl, _⟩ := hrd.ptr (by rw [ints_length]; omega)
        have c1 : wr.cell? ⟨b, o + i, none⟩ = some (.int .i64 (nth xs i)) := hrd.int i hlt
        obtain ⟨j, hj⟩ : ∃ j, i = j + 1 := ⟨i - 1, by omega⟩
        have c2 : wr.cell? ⟨b, o + j, none⟩ = some (.int .i64 (nth xs j)) := hrd.int j (by omega)
        have hWj : IntKind.i64.wrap ((i : Int) - 1) = (j : Int) := by rw [IntWalk.i64_in _ (by omega)]; omega
        have hjlt : (j : Int) < xs.length := by omega
        have hj0 : (0 : Int) ≤ j := by omega
        have hb3 : (k == 3) = true := by simpa using hk3
        have HJ := Lib.hid hj
        have HK3 := Lib.hid hk3
        clear hrd hj hk3
        by_cases hge : nth xs i ≤ nth xs j
        · have hc := Lib.hid (chk_no (k := k) (xs := xs) fun h => by
            have h' := of_decide_eq_true (h.2.2 HK3.out) j (by have := HJ.out; omega) (by have := HJ.out; omega)
            rw [← HJ.out] at h'
            omega)
          go_upto_region 6 with fail
          go_quiet (fail)
          go_wp2_with fail
          go_ret
          exact ⟨ret_int hc.out.symm, (HK.out.trans HKr.out).trans (KeepBut.drewN _ _ _)⟩
        · have HG := Lib.hid hge
          go_upto_region 6 with fail
          go_quiet (fail)
          go_wp2_with fail
          refine ⟨⟨HKr.out.trans (KeepBut.drewN _ _ _), i + 1, by omega, .inl (by omega), by simp, fun h j' hj' => ?_⟩, ?_⟩
          · rcases Nat.lt_or_ge (j' + 1) i with h' | h'
            · exact HM.out h j' h'
            · have e : j' = j := by have := HJ.out; omega
              subst e
              rw [← HJ.out]
              have := HG.out
              omega
          · simp only [intOf]
            omega
      · have hb3 : (k == 3) = false := by simpa using hk3
        have HK3 := Lib.hid hk3
        clear hk3
        go_upto_region 6 with fail
        go_quiet (fail)
        go_wp2_with fail
        refine ⟨⟨HKr.out.trans (KeepBut.drewN _ _ _), i + 1, by omega, .inl (by omega), by simp, fun h => absurd h HK3.out⟩, ?_⟩
        simp only [intOf]
        omega
    · have hge : ¬ (i : Int) < (xs.length : Int) := by omega
      have hc := Lib.hid (chk_ok (k := k) (xs := xs) hkb.out (by omega) fun h => decide_eq_true fun j _ h2 => HM.out h j (by omega))
      go_wp2_with fail
      go_ret
      exact ⟨ret_int hc.out.symm, HK.out.trans HKr.out⟩

theorem list_ne {xs ys : List Int} {i : Nat} (h : nth xs i ≠ nth ys i) : xs ≠ ys := fun e => h (by rw [e])
theorem list_eq {xs ys : List Int} (hl : xs.length = ys.length) (h : ∀ j, j < xs.length → nth xs j = nth ys j) : xs = ys := by
  apply List.ext_getElem hl
  intro j h1 h2
  have := h j h1
  rwa [nth_eq h1, nth_eq h2] at this

set_option maxHeartbeats 8000000 in
theorem refSame_any (w : World) (k l : Int) (p q : Option Addr) (c d : Nat) (xs ys : List Int) (hx : Rd w p (ints xs)) (hy : Rd w q (ints ys)) (hlx : xs.length ≤ 1099511627776) (hly : ys.length ≤ 1099511627776) :
    Calls Tryd.prog 25 #[.agg #[.int .i64 k, .slice p xs.length c], .agg #[.int .i64 l, .slice q ys.length d]] w fun e w' => e = .returned (.bool (decide (k = l ∧ xs = ys))) ∧ KeepBut (fun _ => False) w w' := by
  obtain ⟨W1, B2, hW1, hB2, hb2, hk1, hs1⟩ := fresh_block w (.cells #[.int .i64 k, .slice p xs.length c] 24)
  obtain ⟨V, B3, hV, hB3, hb3, hkW, hs2⟩ := fresh_block W1 (.cells #[.int .i64 l, .slice q ys.length d] 24)
  have hk0 := hk1.trans hkW
  have HK := Lib.hid hk0
  have HX := Lib.hid (hx.stay hk0); have HY := Lib.hid (hy.stay hk0)
  have HB2 := Lib.hid (hkW.blk hb2); have HB3 := Lib.hid hb3
  have hN : B2 + 1 = B3 := by omega
  have x0 := blk_cell (k := 0) HB2.out rfl
  have x1 := blk_cell (k := 1) HB2.out rfl
  have y0 := blk_cell (k := 0) HB3.out rfl
  have y1 := blk_cell (k := 1) HB3.out rfl
  clear hx hy hb2 hb3 hkW hk1 hs1 hs2 hk0
  by_cases hkl : k = l
  · by_cases hll : xs.length = ys.length
    · have b1 : (k != l) = false := by simpa using hkl
      have b2 : ((xs.length : Int) != (ys.length : Int)) = false := by simp [hll]
      have HKL := Lib.hid hkl; have HLL := Lib.hid hll
      have hll' : (ys.length : Int) = xs.length := by omega
      clear hkl hll
      go_enter Tryd.func25, Tryd.ntmps25
      go_upto_region 1 with fail
      rw [← hW1, ← hB2, ← hV, hN]
      clear hV hB2 hW1 hB3 hN
      go_wp2_with fail
      clear x0 x1 y0 y1 b2
      go_loopw [5] (fun v5 wr => KeepBut (fun _ => False) V wr ∧ ∃ i : Nat, i ≤ xs.length ∧ v5 = .int .i64 i ∧ ∀ j, j < i → nth xs j = nth ys j) (fun i _ => xs.length - (intOf i).toNat)
      case atStart => exact ⟨KeepBut.refl _ _, 0, Nat.zero_le _, rfl, fun j h => absurd h (Nat.not_lt_zero j)⟩
      case round =>
        obtain ⟨hk, i, hi, rfl, hm⟩ := hrel
        have HKr := Lib.hid hk; have HM := Lib.hid hm
        have x1 := blk_cell (k := 1) (hk.blk HB2.out) rfl
        have y1 := blk_cell (k := 1) (hk.blk HB3.out) rfl
        clear hk hm
        have hi0 : (0 : Int) ≤ i := by omega
        have hWi : IntKind.i64.wrap ((i : Int) + 1) = i + 1 := IntWalk.i64_in _ (by omega)
        by_cases hlt : i < xs.length
        · have hltI : (i : Int) < xs.length := by omega
          have hltJ : (i : Int) < ys.length := by omega
          have hrx := HX.out.stay HKr.out
          have hry := HY.out.stay HKr.out
          obtain ⟨b, o, rfl, _⟩ := hrx.ptr (by rw [ints_length]; omega)
          obtain ⟨b', o', rfl, _⟩ := hry.ptr (by rw [ints_length]; omega)
          have c1 : wr.cell? ⟨b, o + i, none⟩ = some (.int .i64 (nth xs i)) := hrx.int i hlt
          have c2 : wr.cell? ⟨b', o' + i, none⟩ = some (.int .i64 (nth ys i)) := hry.int i (by omega)
          clear hrx hry
          by_cases hne : nth xs i = nth ys i
          · have be : (nth xs i != nth ys i) = false := by simpa using hne
            have HN := Lib.hid hne
            clear hne
            go_upto_region 6 with fail
            go_quiet (fail)
            go_wp2_with fail
            refine ⟨⟨HKr.out.trans (KeepBut.drewN _ _ _), i + 1, by omega, by simp, fun j hj => ?_⟩, ?_⟩
            · rcases Nat.lt_or_ge j i with h | h
              · exact HM.out j h
              · have : j = i := by omega
                subst this; exact HN.out
            · simp only [intOf]
              omega
          · have be : (nth xs i != nth ys i) = true := by simpa using hne
            have hc := Lib.hid (show decide (k = l ∧ xs = ys) = false from decide_eq_false fun h => list_ne hne h.2)
            clear hne
            go_upto_region 6 with fail
            go_quiet (fail)
            go_wp2_with fail
            go_ret
            exact ⟨ret_bool hc.out.symm, (HK.out.trans HKr.out).trans (KeepBut.drewN _ _ _)⟩
        · have hge : ¬ (i : Int) < (xs.length : Int) := by omega
          have hc := Lib.hid (show decide (k = l ∧ xs = ys) = true from decide_eq_true ⟨HKL.out, list_eq HLL.out fun j hj => HM.out j (by omega)⟩)
          go_wp2_with fail
          go_ret
          exact ⟨ret_bool (by have h := hc.out; rw [Bool.decide_and] at h; exact h.symm), HK.out.trans HKr.out⟩
    · have b1 : (k != l) = false := by simpa using hkl
      have b2 : ((xs.length : Int) != (ys.length : Int)) = true := by simp; omega
      have hc := Lib.hid (show decide (k = l ∧ xs = ys) = false from decide_eq_false fun h => hll (by rw [h.2]))
      clear hkl hll
      go_enter Tryd.func25, Tryd.ntmps25
      go_upto_region 1 with fail
      rw [← hW1, ← hB2, ← hV, hN]
      clear hV hB2 hW1 hB3 hN
      go_wp2_with fail
      go_ret
      exact ⟨ret_bool hc.out.symm, HK.out⟩
  · have b1 : (k != l) = true := by simpa using hkl
    have hc := Lib.hid (show decide (k = l ∧ xs = ys) = false from decide_eq_false fun h => hkl h.1)
    clear hkl
    go_enter Tryd.func25, Tryd.ntmps25
    go_upto_region 1 with fail
    rw [← hW1, ← hB2, ← hV, hN]
    clear hV hB2 hW1 hB3 hN
    go_wp2_with fail
    go_ret
    exact ⟨ret_bool hc.out.symm, HK.out⟩

end Go.Proofs.YtopodipjapiaoaaDoor
