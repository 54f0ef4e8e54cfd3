/-
  Package hist: DeleteFunc over calls.
-/
import Derived.Test.YtoolpifkfgileaaDoorHiP
namespace Go.Proofs.YtoolpifkfgileaaDoor
open Go Go.RowKit Own

theorem cellsC_append (a b : List Cl) : cellsC (a ++ b) = cellsC a ++ cellsC b := by simp [cellsC]

/-- where DeleteFunc is: k calls kept of the first j -/
structure DelAt (i : Nat) (cs : List Cl) (w wr : World) (g cap k j : Nat) : Prop where
  blk : ∃ cur, wr.heap[g]? = some (.cells cur TCl (0, 0)) ∧ cur.size = cap * 8 ∧ cur.toList.take (k * 8) = cellsC (partC i (cs.take j)) ∧ ∀ t, j * 8 ≤ t → t < cs.length * 8 → cur[t]? = (cellsC cs)[t]?
  len : (partC i (cs.take j)).length = k
  keep : KeepBut (fun b => b = g) w wr

theorem part_take {i j : Nat} {cs : List Cl} (hj : j < cs.length) : partC i (cs.take (j + 1)) = if atC i (nthC cs j) = true then partC i (cs.take j) ++ [nthC cs j] else partC i (cs.take j) := by
  rw [drop_nth hj]
  unfold partC
  rw [List.filter_append]
  by_cases h : atC i (nthC cs j) = true
  · rw [if_pos h]; simp [h]
  · rw [if_neg h]; simp [h]
theorem part_all {i j : Nat} {cs : List Cl} (hj : j ≤ cs.length) (h : ∀ t, t < j → atC i (nthC cs t) = true) : partC i (cs.take j) = cs.take j := by
  induction j with
  | zero => rfl
  | succ j ih =>
    rw [part_take (by omega), if_pos (h j (by omega)), ih (by omega) fun t ht => h t (by omega), drop_nth (by omega)]

theorem DelAt.stay {i : Nat} {cs : List Cl} {w wr wr' : World} {g cap k j : Nat} (h : DelAt i cs w wr g cap k j) (hk : KeepBut (fun _ => False) wr wr') : DelAt i cs w wr' g cap k j := by
  obtain ⟨cur, h1, h2, h3, h4⟩ := h.blk
  exact ⟨⟨cur, hk.blk h1, h2, h3, h4⟩, h.len, h.keep.trans (hk.mono fun _ e => e.elim)⟩
theorem DelAt.skip {i : Nat} {cs : List Cl} {w wr : World} {g cap k j : Nat} (h : DelAt i cs w wr g cap k j) (hj : j < cs.length) (hn : atC i (nthC cs j) = false) : DelAt i cs w wr g cap k (j + 1) := by
  obtain ⟨cur, h1, h2, h3, h4⟩ := h.blk
  have e : partC i (cs.take (j + 1)) = partC i (cs.take j) := by rw [part_take hj, if_neg (by rw [hn]; exact Bool.false_ne_true)]
  exact ⟨⟨cur, h1, h2, by rw [e]; exact h3, fun t h5 h6 => h4 t (by omega) h6⟩, by rw [e]; exact h.len, h.keep⟩
theorem DelAt.step {i : Nat} {cs : List Cl} {w wr : World} {g cap k j : Nat} (h : DelAt i cs w wr g cap k j) (hj : j < cs.length) (hk : k < j) (hc : cs.length ≤ cap) (hn : atC i (nthC cs j) = true) : DelAt i cs w (wr.setCells g (k * 8) (nthC cs j).vals) g cap (k + 1) (j + 1) := by
  obtain ⟨cur, h1, h2, h3, h4⟩ := h.blk
  obtain ⟨cur', g1, g2, g3⟩ := heap_setCells g (nthC cs j).vals (k * 8) wr cur TCl (0, 0) h1
  have e : partC i (cs.take (j + 1)) = partC i (cs.take j) ++ [nthC cs j] := by rw [part_take hj, if_pos hn]
  rw [vals_length] at g3
  refine ⟨⟨cur', g1, by rw [g2, h2], ?_, fun t h5 h6 => ?_⟩, by rw [e, List.length_append, h.len]; rfl, h.keep.trans (keep_setCells (E := fun b => b = g) g rfl _ _ _)⟩
  · rw [e, cellsC_snoc, ← h3]
    apply List.ext_getElem?
    intro t
    rw [List.getElem?_take]
    by_cases ht : t < (k + 1) * 8
    · rw [if_pos ht]
      have g4 := g3 t (by omega)
      rw [← Array.getElem?_toList] at g4
      rw [g4]
      have hl : (cur.toList.take (k * 8)).length = k * 8 := by rw [List.length_take, Array.length_toList]; omega
      by_cases h9 : t < k * 8
      · rw [if_neg (by omega), List.getElem?_append_left (by omega), List.getElem?_take, if_pos h9]
        simp
      · rw [if_pos (by omega), List.getElem?_append_right (by omega), hl]
    · rw [if_neg ht, List.getElem?_eq_none]
      rw [List.length_append, List.length_take, Array.length_toList, vals_length]
      omega
  · have g4 := g3 t (by omega)
    rw [g4, if_neg (by omega)]
    exact h4 t (by omega) h6
theorem DelAt.cells {i : Nat} {cs : List Cl} {w wr : World} {g cap k j : Nat} (h : DelAt i cs w wr g cap k j) (hj : j < cs.length) : ∀ t v, t < 8 → ((nthC cs j).vals)[t]? = some v → wr.cell? ⟨g, j * 8 + t, none⟩ = some v := fun t v ht hv => by
  obtain ⟨cur, h1, h2, h3, h4⟩ := h.blk
  refine blk_cell h1 ?_
  rw [h4 _ (by omega) (by omega), cellsC_at cs j t hj ht]
  exact hv
theorem DelAt.room {i : Nat} {cs : List Cl} {w wr : World} {g cap k j : Nat} (h : DelAt i cs w wr g cap k j) : ∀ t, t < cap * 8 → (∃ u, wr.cell? ⟨g, t, none⟩ = some u) ∧ wr.frozen? ⟨g, t, none⟩ = false := fun t ht => by
  obtain ⟨cur, h1, h2, h3, h4⟩ := h.blk
  exact ⟨⟨_, blk_cell h1 (Array.getElem?_eq_getElem (by omega))⟩, by simp [World.frozen?, h1]⟩

def DelDone (i : Nat) (cs : List Cl) (g cap : Nat) (w : World) (e : Ending) (w' : World) : Prop :=
  e = .returned (.slice (some ⟨g, 0, none⟩) (partC i cs).length cap) ∧ Rd w' (some ⟨g, 0, none⟩) (cellsC (partC i cs)) ∧ KeepBut (fun b => b = g) w w'

theorem rd_of_take {W : World} {g n : Nat} {cur : Array Value} {xs : List Value} (h : W.heap[g]? = some (.cells cur TCl (0, 0))) (ht : cur.toList.take n = xs) : Rd W (some ⟨g, 0, none⟩) xs := fun j v hj => ⟨g, 0, rfl, by
  rw [Nat.zero_add]
  refine blk_cell h ?_
  rw [← ht, List.getElem?_take] at hj
  split at hj
  · simpa using hj
  · cases hj⟩

set_option maxRecDepth 100000 in
set_option maxHeartbeats 32000000 in
theorem del_any (w : World) (B3 i : Nat) (hb : w.cell? ⟨B3, 0, none⟩ = some (.int .i64 i)) (g cap : Nat) (cs : List Cl) (hne : B3 ≠ g) (hcap : cs.length ≤ cap) (hcap2 : cap ≤ 9223372036854775807) (hl : cs.length ≤ 60)
    (cur : Array Value) (hg : w.heap[g]? = some (.cells cur TCl (0, 0))) (hsz : cur.size = cap * 8) (htk : cur.toList.take (cs.length * 8) = cellsC cs) :
    Calls Tryd.prog 31 #[.slice (some ⟨g, 0, none⟩) cs.length cap, delV B3] w fun e w' => DelDone i cs g cap w e w' := by
  have HB := Lib.hid hb
  have hrc : RowC w (some ⟨g, 0, none⟩) cs := rowC_of_rd (rd_of_take hg htk)
  have HIX := Lib.hid (idxC_any w B3 i hb (some ⟨g, 0, none⟩) cap cs hrc hl)
  have HG := Lib.hid hg; have HSZ := Lib.hid hsz; have HTK := Lib.hid htk; have HNE := Lib.hid hne
  unfold delV at HIX ⊢
  clear hb hrc hg hsz htk hne
  go_enter Tryd.func31, Tryd.ntmps31
  go_wp2_with fail
  go_at_call 53
  refine HIX.out.mono ?_
  rintro e w2 ⟨hor, hk2⟩
  have HK2 := Lib.hid hk2
  clear hk2
  rcases hor with ⟨k0, hk0, rfl, hno, hall⟩ | ⟨rfl, hall⟩
  · have HAT := Lib.hid (show DelAt i cs w w2 g cap k0 (k0 + 1) by
      have e : partC i (cs.take (k0 + 1)) = cs.take k0 := by
        rw [part_take hk0, if_neg (by rw [hno]; exact Bool.false_ne_true), part_all (by omega) hall]
      refine ⟨⟨cur, HK2.out.blk HG.out, HSZ.out, ?_, fun t h1 h2 => ?_⟩, by rw [e, List.length_take]; omega, HK2.out.mono fun _ e => e.elim⟩
      · rw [e]
        have h1 : cellsC cs = cellsC (cs.take k0) ++ cellsC (cs.drop k0) := by rw [← cellsC_append, List.take_append_drop]
        have h2 : (cellsC (cs.take k0)).length = k0 * 8 := by rw [cellsC_length, List.length_take]; omega
        have h3 : cur.toList.take (k0 * 8) = (cur.toList.take (cs.length * 8)).take (k0 * 8) := by rw [List.take_take]; congr 1; omega
        rw [h3, HTK.out, h1, List.take_append_of_le_length (by omega), ← h2, List.take_length]
      · rw [← HTK.out, List.getElem?_take, if_pos h2]
        simp)
    have hk1 : ((k0 : Int) == -1) = false := by rw [beq_eq_false_iff_ne]; omega
    have hk0i : (0 : Int) ≤ k0 := by omega
    have hW0 : IntKind.i64.wrap ((k0 : Int) + 1) = (k0 : Int) + 1 := IntWalk.i64_in _ (by omega)
    clear hno hall
    go_wp2_with fail
    go_loopw [5, 6] (fun v5 v6 wr => ∃ k j : Nat, v5 = .int .i64 k ∧ v6 = .int .i64 j ∧ k < j ∧ j ≤ cs.length ∧ DelAt i cs w wr g cap k j) (fun _ v _ => cs.length - (intOf v).toNat)
    case atStart => exact ⟨k0, k0 + 1, rfl, by simp, by omega, by omega, HAT.out⟩
    case round =>
      clear HAT hk1 hk0i hW0
      obtain ⟨k, j, rfl, rfl, hkj, hj, hat⟩ := hrel
      have HAT := Lib.hid hat
      by_cases hlt : j < cs.length
      · have hlti : (j : Int) < cs.length := by omega
        have hj0 : (0 : Int) ≤ j := by omega
        have hk0' : (0 : Int) ≤ k := by omega
        have hki : (k : Int) < cs.length := by omega
        have hWj : IntKind.i64.wrap ((j : Int) + 1) = (j : Int) + 1 := IntWalk.i64_in _ (by omega)
        have hWk : IntKind.i64.wrap ((k : Int) + 1) = (k : Int) + 1 := IntWalk.i64_in _ (by omega)
        have x0 := hat.cells hlt 0 _ (by decide) rfl; have x1 := hat.cells hlt 1 _ (by decide) rfl; have x2 := hat.cells hlt 2 _ (by decide) rfl; have x3 := hat.cells hlt 3 _ (by decide) rfl
        have x4 := hat.cells hlt 4 _ (by decide) rfl; have x5 := hat.cells hlt 5 _ (by decide) rfl; have x6 := hat.cells hlt 6 _ (by decide) rfl; have x7 := hat.cells hlt 7 _ (by decide) rfl
        rw [Nat.add_zero] at x0
        clear hat
        obtain ⟨V9, B9, hV9, hB9, hb9, hk9, hs9⟩ := fresh_block wr (.cells (nthC cs j).vals.toArray TCl)
        have hv9 : (nthC cs j).vals.toArray = #[.int .i64 (nthC cs j).hart, .int .i64 (nthC cs j).cont, .int .i64 (nthC cs j).op, .int .i64 (nthC cs j).arg, .int .i64 (nthC cs j).beg, .int .i64 (nthC cs j).till, .int .i64 (nthC cs j).value, .int .i64 (nthC cs j).code] := rfl
        rw [hv9] at hV9 hb9
        have HK9 := Lib.hid hk9; have HB9 := Lib.hid hb9
        have HFN := Lib.hid (partFn_any V9 B3 i (hk9.stay (keep_cell HAT.out.keep HB.out HNE.out)) (nthC cs j))
        obtain ⟨a, ha⟩ : ∃ a, atC i (nthC cs j) = a := ⟨_, rfl⟩
        rw [ha] at HFN
        have HA := Lib.hid ha
        clear ha hv9 hk9 hb9 hs9
        go_upto_region 8 with fail
        rw [← hV9, ← hB9]
        clear hV9 hB9 x0 x1 x2 x3 x4 x5 x6 x7
        obtain ⟨c0, c1, c2, c3, c4, c5, c6, c7⟩ := blk8 HB9.out
        cases a with
        | true =>
          go_wp2_with fail
          go_at_call 33
          refine HFN.out.mono ?_
          rintro e w5 ⟨rfl, hk5⟩
          have HAT5 := Lib.hid (HAT.out.stay (HK9.out.trans hk5))
          obtain ⟨d0, d1, d2, d3, d4, d5, d6, d7⟩ := blk8 (c := nthC cs j) (hk5.blk HB9.out)
          clear hk5 c0 c1 c2 c3 c4 c5 c6 c7
          obtain ⟨⟨u0, r0⟩, f0⟩ := HAT5.out.room (k * 8 + 0) (by omega)
          obtain ⟨⟨u1, r1⟩, f1⟩ := HAT5.out.room (k * 8 + 1) (by omega)
          obtain ⟨⟨u2, r2⟩, f2⟩ := HAT5.out.room (k * 8 + 2) (by omega)
          obtain ⟨⟨u3, r3⟩, f3⟩ := HAT5.out.room (k * 8 + 3) (by omega)
          obtain ⟨⟨u4, r4⟩, f4⟩ := HAT5.out.room (k * 8 + 4) (by omega)
          obtain ⟨⟨u5, r5⟩, f5⟩ := HAT5.out.room (k * 8 + 5) (by omega)
          obtain ⟨⟨u6, r6⟩, f6⟩ := HAT5.out.room (k * 8 + 6) (by omega)
          obtain ⟨⟨u7, r7⟩, f7⟩ := HAT5.out.room (k * 8 + 7) (by omega)
          rw [Nat.add_zero] at r0 f0
          go_upto_region 10 with fail
          have hW : ((((((((w5.setCell ⟨g, k * 8, none⟩ (.int .i64 (nthC cs j).hart)).setCell ⟨g, k * 8 + 1, none⟩ (.int .i64 (nthC cs j).cont)).setCell ⟨g, k * 8 + 2, none⟩ (.int .i64 (nthC cs j).op)).setCell ⟨g, k * 8 + 3, none⟩ (.int .i64 (nthC cs j).arg)).setCell ⟨g, k * 8 + 4, none⟩ (.int .i64 (nthC cs j).beg)).setCell ⟨g, k * 8 + 5, none⟩ (.int .i64 (nthC cs j).till)).setCell ⟨g, k * 8 + 6, none⟩ (.int .i64 (nthC cs j).value)).setCell ⟨g, k * 8 + 7, none⟩ (.int .i64 (nthC cs j).code)) = w5.setCells g (k * 8) (nthC cs j).vals := rfl
          rw [hW]
          clear hW r0 r1 r2 r3 r4 r5 r6 r7 f0 f1 f2 f3 f4 f5 f6 f7 d0 d1 d2 d3 d4 d5 d6 d7
          go_wp2_with fail
          exact ⟨⟨k + 1, j + 1, by simp, by simp, by omega, by omega, HAT5.out.step hlt hkj hcap HA.out⟩, by simp only [intOf]; omega⟩
        | false =>
          go_wp2_with fail
          go_at_call 33
          refine HFN.out.mono ?_
          rintro e w5 ⟨rfl, hk5⟩
          have HAT5 := Lib.hid (HAT.out.stay (HK9.out.trans hk5))
          clear hk5 c0 c1 c2 c3 c4 c5 c6 c7
          go_wp2_with fail
          exact ⟨⟨k, j + 1, rfl, by simp, by omega, by omega, HAT5.out.skip hlt HA.out⟩, by simp only [intOf]; omega⟩
      · have hnl : ¬ (j : Int) < cs.length := by omega
        have e : cs.take j = cs := List.take_of_length_le (by omega)
        have hklen := hat.len
        rw [e] at hklen
        obtain ⟨cu, h1, h2, h3, -⟩ := hat.blk
        rw [e] at h3
        obtain ⟨W', cu', hcl, g1, g2, g3, g4⟩ := run_clear_calls wr g (k * 8) (cs.length - k) (cap - k) cu h1 (by omega) (by omega)
        have HFIN := Lib.hid (show DelDone i cs g cap w (.returned (.slice (some ⟨g, 0, none⟩) k cap)) W' from ⟨by rw [hklen], rd_of_take (n := k * 8) g1 (by
          rw [← h3]
          apply List.ext_getElem?
          intro t
          rw [List.getElem?_take, List.getElem?_take]
          split
          · rename_i h9
            rw [Array.getElem?_toList, Array.getElem?_toList, g3 t h9]
          · rfl), hat.keep.trans g4⟩)
        have hk0' : (0 : Int) ≤ k := by omega
        have hki : (k : Int) ≤ cs.length := by omega
        have hkc : (k : Int) ≤ cap := by omega
        have hkcn : ¬ cap = k := by omega
        clear hat h1 h2 h3 g1 g2 g3 g4 hklen e
        go_wp2_with fail
        go_ret
        exact HFIN.out
  · have HFIN := Lib.hid (show DelDone i cs g cap w (.returned (.slice (some ⟨g, 0, none⟩) cs.length cap)) w2 by
      have e : partC i cs = cs := by
        have := part_all (Nat.le_refl _) hall
        rwa [List.take_length] at this
      exact ⟨by rw [e], by rw [e]; exact (rd_of_take HG.out HTK.out).stay HK2.out, HK2.out.mono fun _ e => e.elim⟩)
    clear hall
    go_wp2_with fail
    go_ret
    exact HFIN.out

end Go.Proofs.YtoolpifkfgileaaDoor
