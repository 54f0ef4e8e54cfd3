/- Joined texts of this work: HiQ, HiI, HiK, Hp6, OwnR. -/
import Derived.Test.YtoolpifkfgileaaDoorJw13
import Derived.Test.YtoolpifkfgileaaDoorJw8

/-
  Package hist: DeleteFunc over calls.
-/
namespace Go.Proofs.YtoolpifkfgileaaDoor
open Go Go.RowKit Own

theorem cellsC_append (a b : List Cl) : cellsC (a ++ b) = cellsC a ++ cellsC b := by simp [cellsC]

/-- where DeleteFunc is: k calls kept of the first j -/
structure DelAt (i : Nat) (cs : List Cl) (w wr : World) (g cap k j : Nat) : Prop where
  blk : ∃ cur, wr.heap[g]? = some (.cells cur TCl (0, 0)) ∧ cur.size = cap * 8 ∧ cur.toList.take (k * 8) = cellsC (partC i (cs.take j)) ∧ ∀ t, j * 8 ≤ t → t < cs.length * 8 → cur[t]? = (cellsC cs)[t]?
  len : (partC i (cs.take j)).length = k
  keep : KeepBut (fun b => b = g) w wr

theorem part_take {i j : Nat} {cs : List Cl} (hj : j < cs.length) : partC i (cs.take (j + 1)) = if atC i (nthC cs j) = true then partC i (cs.take j) ++ [nthC cs j] else partC i (cs.take j) := by
  rw [drop_nth hj]
  unfold partC
  rw [List.filter_append]
  by_cases h : atC i (nthC cs j) = true
  · rw [if_pos h]; simp [h]
  · rw [if_neg h]; simp [h]
theorem part_all {i j : Nat} {cs : List Cl} (hj : j ≤ cs.length) (h : ∀ t, t < j → atC i (nthC cs t) = true) : partC i (cs.take j) = cs.take j := by
  induction j with
  | zero => rfl
  | succ j ih =>
    rw [part_take (by omega), if_pos (h j (by omega)), ih (by omega) fun t ht => h t (by omega), drop_nth (by omega)]

theorem DelAt.stay {i : Nat} {cs : List Cl} {w wr wr' : World} {g cap k j : Nat} (h : DelAt i cs w wr g cap k j) (hk : KeepBut (fun _ => False) wr wr') : DelAt i cs w wr' g cap k j := by
  obtain ⟨cur, h1, h2, h3, h4⟩ := h.blk
  exact ⟨⟨cur, hk.blk h1, h2, h3, h4⟩, h.len, h.keep.trans (hk.mono fun _ e => e.elim)⟩
theorem DelAt.skip {i : Nat} {cs : List Cl} {w wr : World} {g cap k j : Nat} (h : DelAt i cs w wr g cap k j) (hj : j < cs.length) (hn : atC i (nthC cs j) = false) : DelAt i cs w wr g cap k (j + 1) := by
  obtain ⟨cur, h1, h2, h3, h4⟩ := h.blk
  have e : partC i (cs.take (j + 1)) = partC i (cs.take j) := by rw [part_take hj, if_neg (by rw [hn]; exact Bool.false_ne_true)]
  exact ⟨⟨cur, h1, h2, by rw [e]; exact h3, fun t h5 h6 => h4 t (by omega) h6⟩, by rw [e]; exact h.len, h.keep⟩
theorem DelAt.step {i : Nat} {cs : List Cl} {w wr : World} {g cap k j : Nat} (h : DelAt i cs w wr g cap k j) (hj : j < cs.length) (hk : k < j) (hc : cs.length ≤ cap) (hn : atC i (nthC cs j) = true) : DelAt i cs w (wr.setCells g (k * 8) (nthC cs j).vals) g cap (k + 1) (j + 1) := by
  obtain ⟨cur, h1, h2, h3, h4⟩ := h.blk
  obtain ⟨cur', g1, g2, g3⟩ := heap_setCells g (nthC cs j).vals (k * 8) wr cur TCl (0, 0) h1
  have e : partC i (cs.take (j + 1)) = partC i (cs.take j) ++ [nthC cs j] := by rw [part_take hj, if_pos hn]
  rw [vals_length] at g3
  refine ⟨⟨cur', g1, by rw [g2, h2], ?_, fun t h5 h6 => ?_⟩, by rw [e, List.length_append, h.len]; rfl, h.keep.trans (keep_setCells (E := fun b => b = g) g rfl _ _ _)⟩
  · rw [e, cellsC_snoc, ← h3]
    apply List.ext_getElem?
    intro t
    rw [List.getElem?_take]
    by_cases ht : t < (k + 1) * 8
    · rw [if_pos ht]
      have g4 := g3 t (by omega)
      rw [← Array.getElem?_toList] at g4
      rw [g4]
      have hl : (cur.toList.take (k * 8)).length = k * 8 := by rw [List.length_take, Array.length_toList]; omega
      by_cases h9 : t < k * 8
      · rw [if_neg (by omega), List.getElem?_append_left (by omega), List.getElem?_take, if_pos h9]
        simp
      · rw [if_pos (by omega), List.getElem?_append_right (by omega), hl]
    · rw [if_neg ht, List.getElem?_eq_none]
      rw [List.length_append, List.length_take, Array.length_toList, vals_length]
      omega
  · have g4 := g3 t (by omega)
    rw [g4, if_neg (by omega)]
    exact h4 t (by omega) h6
theorem DelAt.cells {i : Nat} {cs : List Cl} {w wr : World} {g cap k j : Nat} (h : DelAt i cs w wr g cap k j) (hj : j < cs.length) : ∀ t v, t < 8 → ((nthC cs j).vals)[t]? = some v → wr.cell? ⟨g, j * 8 + t, none⟩ = some v := fun t v ht hv => by
  obtain ⟨cur, h1, h2, h3, h4⟩ := h.blk
  refine blk_cell h1 ?_
  rw [h4 _ (by omega) (by omega), cellsC_at cs j t hj ht]
  exact hv
theorem DelAt.room {i : Nat} {cs : List Cl} {w wr : World} {g cap k j : Nat} (h : DelAt i cs w wr g cap k j) : ∀ t, t < cap * 8 → (∃ u, wr.cell? ⟨g, t, none⟩ = some u) ∧ wr.frozen? ⟨g, t, none⟩ = false := fun t ht => by
  obtain ⟨cur, h1, h2, h3, h4⟩ := h.blk
  exact ⟨⟨_, blk_cell h1 (Array.getElem?_eq_getElem (by omega))⟩, by simp [World.frozen?, h1]⟩

def DelDone (i : Nat) (cs : List Cl) (g cap : Nat) (w : World) (e : Ending) (w' : World) : Prop :=
  e = .returned (.slice (some ⟨g, 0, none⟩) (partC i cs).length cap) ∧ Rd w' (some ⟨g, 0, none⟩) (cellsC (partC i cs)) ∧ KeepBut (fun b => b = g) w w'

theorem rd_of_take {W : World} {g n : Nat} {cur : Array Value} {xs : List Value} (h : W.heap[g]? = some (.cells cur TCl (0, 0))) (ht : cur.toList.take n = xs) : Rd W (some ⟨g, 0, none⟩) xs := fun j v hj => ⟨g, 0, rfl, by
  rw [Nat.zero_add]
  refine blk_cell h ?_
  rw [← ht, List.getElem?_take] at hj
  split at hj
  · simpa using hj
  · cases hj⟩

set_option maxRecDepth 100000 in
set_option maxHeartbeats 32000000 in
theorem del_any (w : World) (B3 i : Nat) (hb : w.cell? ⟨B3, 0, none⟩ = some (.int .i64 i)) (g cap : Nat) (cs : List Cl) (hne : B3 ≠ g) (hcap : cs.length ≤ cap) (hcap2 : cap ≤ 9223372036854775807) (hl : cs.length ≤ 60)
    (cur : Array Value) (hg : w.heap[g]? = some (.cells cur TCl (0, 0))) (hsz : cur.size = cap * 8) (htk : cur.toList.take (cs.length * 8) = cellsC cs) :
    Calls Tryd.prog 31 #[.slice (some ⟨g, 0, none⟩) cs.length cap, delV B3] w fun e w' => DelDone i cs g cap w e w' := by
  have HB := Lib.hid hb
  have hrc : RowC w (some ⟨g, 0, none⟩) cs := rowC_of_rd (rd_of_take hg htk)
  have HIX := Lib.hid (idxC_any w B3 i hb (some ⟨g, 0, none⟩) cap cs hrc hl)
  have HG := Lib.hid hg; have HSZ := Lib.hid hsz; have HTK := Lib.hid htk; have HNE := Lib.hid hne
  unfold delV at HIX ⊢
  clear hb hrc hg hsz htk hne
  go_enter Tryd.func31, Tryd.ntmps31
  go_wp2_with fail
  go_at_call 53
  refine HIX.out.mono ?_
  rintro e w2 ⟨hor, hk2⟩
  have HK2 := Lib.hid hk2
  clear hk2
  rcases hor with ⟨k0, hk0, rfl, hno, hall⟩ | ⟨rfl, hall⟩
  · have HAT := Lib.hid (show DelAt i cs w w2 g cap k0 (k0 + 1) by
      have e : partC i (cs.take (k0 + 1)) = cs.take k0 := by
        rw [part_take hk0, if_neg (by rw [hno]; exact Bool.false_ne_true), part_all (by omega) hall]
      refine ⟨⟨cur, HK2.out.blk HG.out, HSZ.out, ?_, fun t h1 h2 => ?_⟩, by rw [e, List.length_take]; omega, HK2.out.mono fun _ e => e.elim⟩
      · rw [e]
        have h1 : cellsC cs = cellsC (cs.take k0) ++ cellsC (cs.drop k0) := by rw [← cellsC_append, List.take_append_drop]
        have h2 : (cellsC (cs.take k0)).length = k0 * 8 := by rw [cellsC_length, List.length_take]; omega
        have h3 : cur.toList.take (k0 * 8) = (cur.toList.take (cs.length * 8)).take (k0 * 8) := by rw [List.take_take]; congr 1; omega
        rw [h3, HTK.out, h1, List.take_append_of_le_length (by omega), ← h2, List.take_length]
      · rw [← HTK.out, List.getElem?_take, if_pos h2]
        simp)
    have hk1 : ((k0 : Int) == -1) = false := by rw [beq_eq_false_iff_ne]; omega
    have hk0i : (0 : Int) ≤ k0 := by omega
    have hW0 : IntKind.i64.wrap ((k0 : Int) + 1) = (k0 : Int) + 1 := IntWalk.i64_in _ (by omega)
    clear hno hall
    go_wp2_with fail
    go_loopw [5, 6] (fun v5 v6 wr => ∃ k j : Nat, v5 = .int .i64 k ∧ v6 = .int .i64 j ∧ k < j ∧ j ≤ cs.length ∧ DelAt i cs w wr g cap k j) (fun _ v _ => cs.length - (intOf v).toNat)
    case atStart => exact ⟨k0, k0 + 1, rfl, by simp, by omega, by omega, HAT.out⟩
    case round =>
      clear HAT hk1 hk0i hW0
      obtain ⟨k, j, rfl, rfl, hkj, hj, hat⟩ := hrel
      have HAT := Lib.hid hat
      by_cases hlt : j < cs.length
      · have hlti : (j : Int) < cs.length := by omega
        have hj0 : (0 : Int) ≤ j := by omega
        have hk0' : (0 : Int) ≤ k := by omega
        have hki : (k : Int) < cs.length := by omega
        have hWj : IntKind.i64.wrap ((j : Int) + 1) = (j : Int) + 1 := IntWalk.i64_in _ (by omega)
        have hWk : IntKind.i64.wrap ((k : Int) + 1) = (k : Int) + 1 := IntWalk.i64_in _ (by omega)
        have x0 := hat.cells hlt 0 _ (by decide) rfl; have x1 := hat.cells hlt 1 _ (by decide) rfl; have x2 := hat.cells hlt 2 _ (by decide) rfl; have x3 := hat.cells hlt 3 _ (by decide) rfl
        have x4 := hat.cells hlt 4 _ (by decide) rfl; have x5 := hat.cells hlt 5 _ (by decide) rfl; have x6 := hat.cells hlt 6 _ (by decide) rfl; have x7 := hat.cells hlt 7 _ (by decide) rfl
        rw [Nat.add_zero] at x0
        clear hat
        obtain ⟨V9, B9, hV9, hB9, hb9, hk9, hs9⟩ := fresh_block wr (.cells (nthC cs j).vals.toArray TCl)
        have hv9 : (nthC cs j).vals.toArray = #[.int .i64 (nthC cs j).hart, .int .i64 (nthC cs j).cont, .int .i64 (nthC cs j).op, .int .i64 (nthC cs j).arg, .int .i64 (nthC cs j).beg, .int .i64 (nthC cs j).till, .int .i64 (nthC cs j).value, .int .i64 (nthC cs j).code] := rfl
        rw [hv9] at hV9 hb9
        have HK9 := Lib.hid hk9; have HB9 := Lib.hid hb9
        have HFN := Lib.hid (partFn_any V9 B3 i (hk9.stay (keep_cell HAT.out.keep HB.out HNE.out)) (nthC cs j))
        obtain ⟨a, ha⟩ : ∃ a, atC i (nthC cs j) = a := ⟨_, rfl⟩
        rw [ha] at HFN
        have HA := Lib.hid ha
        clear ha hv9 hk9 hb9 hs9
        go_upto_region 8 with fail
        rw [← hV9, ← hB9]
        clear hV9 hB9 x0 x1 x2 x3 x4 x5 x6 x7
        obtain ⟨c0, c1, c2, c3, c4, c5, c6, c7⟩ := blk8 HB9.out
        cases a with
        | true =>
          go_wp2_with fail
          go_at_call 33
          refine HFN.out.mono ?_
          rintro e w5 ⟨rfl, hk5⟩
          have HAT5 := Lib.hid (HAT.out.stay (HK9.out.trans hk5))
          obtain ⟨d0, d1, d2, d3, d4, d5, d6, d7⟩ := blk8 (c := nthC cs j) (hk5.blk HB9.out)
          clear hk5 c0 c1 c2 c3 c4 c5 c6 c7
          obtain ⟨⟨u0, r0⟩, f0⟩ := HAT5.out.room (k * 8 + 0) (by omega)
          obtain ⟨⟨u1, r1⟩, f1⟩ := HAT5.out.room (k * 8 + 1) (by omega)
          obtain ⟨⟨u2, r2⟩, f2⟩ := HAT5.out.room (k * 8 + 2) (by omega)
          obtain ⟨⟨u3, r3⟩, f3⟩ := HAT5.out.room (k * 8 + 3) (by omega)
          obtain ⟨⟨u4, r4⟩, f4⟩ := HAT5.out.room (k * 8 + 4) (by omega)
          obtain ⟨⟨u5, r5⟩, f5⟩ := HAT5.out.room (k * 8 + 5) (by omega)
          obtain ⟨⟨u6, r6⟩, f6⟩ := HAT5.out.room (k * 8 + 6) (by omega)
          obtain ⟨⟨u7, r7⟩, f7⟩ := HAT5.out.room (k * 8 + 7) (by omega)
          rw [Nat.add_zero] at r0 f0
          go_upto_region 10 with fail
          have hW : ((((((((w5.setCell ⟨g, k * 8, none⟩ (.int .i64 (nthC cs j).hart)).setCell ⟨g, k * 8 + 1, none⟩ (.int .i64 (nthC cs j).cont)).setCell ⟨g, k * 8 + 2, none⟩ (.int .i64 (nthC cs j).op)).setCell ⟨g, k * 8 + 3, none⟩ (.int .i64 (nthC cs j).arg)).setCell ⟨g, k * 8 + 4, none⟩ (.int .i64 (nthC cs j).beg)).setCell ⟨g, k * 8 + 5, none⟩ (.int .i64 (nthC cs j).till)).setCell ⟨g, k * 8 + 6, none⟩ (.int .i64 (nthC cs j).value)).setCell ⟨g, k * 8 + 7, none⟩ (.int .i64 (nthC cs j).code)) = w5.setCells g (k * 8) (nthC cs j).vals := rfl
          rw [hW]
          clear hW r0 r1 r2 r3 r4 r5 r6 r7 f0 f1 f2 f3 f4 f5 f6 f7 d0 d1 d2 d3 d4 d5 d6 d7
          go_wp2_with fail
          exact ⟨⟨k + 1, j + 1, by simp, by simp, by omega, by omega, HAT5.out.step hlt hkj hcap HA.out⟩, by simp only [intOf]; omega⟩
        | false =>
          go_wp2_with fail
          go_at_call 33
          refine HFN.out.mono ?_
          rintro e w5 ⟨rfl, hk5⟩
          have HAT5 := Lib.hid (HAT.out.stay (HK9.out.trans hk5))
          clear hk5 c0 c1 c2 c3 c4 c5 c6 c7
          go_wp2_with fail
          exact ⟨⟨k, j + 1, rfl, by simp, by omega, by omega, HAT5.out.skip hlt HA.out⟩, by simp only [intOf]; omega⟩
      · have hnl : ¬ (j : Int) < cs.length := by omega
        have e : cs.take j = cs := List.take_of_length_le (by omega)
        have hklen := hat.len
        rw [e] at hklen
        obtain ⟨cu, h1, h2, h3, -⟩ := hat.blk
        rw [e] at h3
        obtain ⟨W', cu', hcl, g1, g2, g3, g4⟩ := run_clear_calls wr g (k * 8) (cs.length - k) (cap - k) cu h1 (by omega) (by omega)
        have HFIN := Lib.hid (show DelDone i cs g cap w (.returned (.slice (some ⟨g, 0, none⟩) k cap)) W' from ⟨by rw [hklen], rd_of_take (n := k * 8) g1 (by
          rw [← h3]
          apply List.ext_getElem?
          intro t
          rw [List.getElem?_take, List.getElem?_take]
          split
          · rename_i h9
            rw [Array.getElem?_toList, Array.getElem?_toList, g3 t h9]
          · rfl), hat.keep.trans g4⟩)
        have hk0' : (0 : Int) ≤ k := by omega
        have hki : (k : Int) ≤ cs.length := by omega
        have hkc : (k : Int) ≤ cap := by omega
        have hkcn : ¬ cap = k := by omega
        clear hat h1 h2 h3 g1 g2 g3 g4 hklen e
        go_wp2_with fail
        go_ret
        exact HFIN.out
  · have HFIN := Lib.hid (show DelDone i cs g cap w (.returned (.slice (some ⟨g, 0, none⟩) cs.length cap)) w2 by
      have e : partC i cs = cs := by
        have := part_all (Nat.le_refl _) hall
        rwa [List.take_length] at this
      exact ⟨by rw [e], by rw [e]; exact (rd_of_take HG.out HTK.out).stay HK2.out, HK2.out.mono fun _ e => e.elim⟩)
    clear hall
    go_wp2_with fail
    go_ret
    exact HFIN.out

end Go.Proofs.YtoolpifkfgileaaDoor

/-
  Package hist: through; Allowed.
-/
namespace Go.Proofs.YtoolpifkfgileaaDoor
open Go Go.RowKit Own

theorem natI_inj : ∀ {a b : List Nat}, natI a = natI b → a = b
  | [], [], _ => rfl
  | [], _ :: _, h => by simp [natI] at h
  | _ :: _, [], h => by simp [natI] at h
  | x :: a, y :: b, h => by
    simp only [natI, List.map_cons, List.cons.injEq] at h
    rw [natI_inj (a := a) (b := b) h.2]
    congr 1
    omega
theorem natI_append (a b : List Nat) : natI (a ++ b) = natI a ++ natI b := by simp [natI]
theorem natI_snoc {o1 : List Nat} {ol : List Int} {i n : Nat} (h : natI o1 = ol.take i) (hi : i < ol.length) (hn : nth ol i = n) : natI (o1 ++ [n]) = ol.take (i + 1) := by
  rw [natI_append, h, List.take_succ_eq_append_getElem hi, ← nth_eq hi, hn]
  rfl

/-- how far an order came -/
structure Came (ks : List Int) (cs : List Cl) (ol : List Int) (i d : Nat) (h : List (Int × List Int)) : Prop where
  ex : ∃ o1, natI o1 = ol.take i ∧ (∀ o2, ordB cs 0 (startP ks) (o1 ++ o2) = ordB cs d h o2) ∧ foldC (startP ks) (o1.map (nthC cs)) = some h
  lt : d < 2 ^ cs.length
  small : Small h
  len : h.length = ks.length
theorem came_start {ks : List Int} {cs : List Cl} {ol : List Int} (hk : ∀ k ∈ ks, In64 k) : Came ks cs ol 0 0 (startP ks) :=
  ⟨⟨[], rfl, fun _ => rfl, rfl⟩, Nat.two_pow_pos _, start_small hk, by simp [startP]⟩

theorem foldC_snoc {h h1 h2 : List (Int × List Int)} {c : Cl} {o : List Cl} : foldC h o = some h1 → stepC h1 c = some h2 → foldC h (o ++ [c]) = some h2 := by
  induction o generalizing h with
  | nil =>
    intro e1 e2
    cases e1
    show foldC _ [c] = _
    unfold foldC
    rw [e2]; rfl
  | cons x o ih =>
    intro e1 e2
    rw [List.cons_append]
    unfold foldC at e1 ⊢
    cases hx : stepC h x with
    | none => rw [hx] at e1; cases e1
    | some h' => rw [hx] at e1; exact ih e1 e2

theorem came_step {ks : List Int} {cs : List Cl} {ol : List Int} {i d n : Nat} {h h' : List (Int × List Int)} (hc : Came ks cs ol i d h) (ha : ArgsIn cs) (hl : cs.length ≤ 24) (hi : i < ol.length) (hn : nth ol i = n) (hlt : n < cs.length) (hx : nextP cs d h n = some h') :
    Came ks cs ol (i + 1) (d ||| 2 ^ n) h' := by
  obtain ⟨⟨o1, h1, h2, h3⟩, h4, h5, h6⟩ := hc
  have hx0 := hx
  unfold nextP at hx
  split at hx
  · rename_i hf
    obtain ⟨q1, q2⟩ := step_small ha h5 hx
    refine ⟨⟨o1 ++ [n], natI_snoc h1 hi hn, fun o2 => ?_, ?_⟩, (or_grows ((free_iff hl).1 hf).1 hlt h4).2, q1, by rw [q2, h6]⟩
    · rw [List.append_assoc, h2, List.singleton_append, ord_next hlt, hx0]
    · rw [List.map_append]
      rw [stepP_eq] at hx
      exact foldC_snoc h3 hx
  · cases hx

def AllowedP (ks : List Int) (cs : List Cl) (ol : List Int) : Prop := chkH ks cs = 0 ∧ ∃ o, natI o = ol ∧ ordB cs 0 (startP ks) o = true

theorem came_split {ks : List Int} {cs : List Cl} {ol : List Int} {i d : Nat} {h : List (Int × List Int)} (hc : Came ks cs ol i d h) {o : List Nat} (ho : natI o = ol) : ∃ o2, natI o2 = ol.drop i ∧ ordB cs 0 (startP ks) o = ordB cs d h o2 := by
  obtain ⟨o1, h1, h2, -⟩ := hc.ex
  have e1 : natI (o.take i) = ol.take i := by rw [← ho]; simp [natI, List.map_take]
  have e2 : o.take i = o1 := natI_inj (by rw [e1, h1])
  refine ⟨o.drop i, by rw [← ho]; simp [natI, List.map_drop], ?_⟩
  rw [← h2, ← e2, List.take_append_drop]

theorem came_bad {ks : List Int} {cs : List Cl} {ol : List Int} {i d : Nat} {h : List (Int × List Int)} (hc : Came ks cs ol i d h) (hi : i < ol.length) (hb : ∀ n : Nat, nth ol i = n → ∀ o, ordB cs d h (n :: o) = false) : ¬ AllowedP ks cs ol := by
  rintro ⟨-, o, ho, hy⟩
  obtain ⟨o2, h1, h2⟩ := came_split hc ho
  rw [List.drop_eq_getElem_cons hi] at h1
  cases o2 with
  | nil => simp [natI] at h1; omega
  | cons n o2 =>
    simp only [natI, List.map_cons, List.cons.injEq] at h1
    rw [h2, hb n (by rw [nth_eq hi]; exact h1.1.symm)] at hy
    cases hy

theorem came_end {ks : List Int} {cs : List Cl} {ol : List Int} {d : Nat} {h : List (Int × List Int)} (hc : Came ks cs ol ol.length d h) (h0 : chkH ks cs = 0) : overB cs d = true ↔ AllowedP ks cs ol := by
  constructor
  · intro hy
    obtain ⟨o1, h1, h2, -⟩ := hc.ex
    rw [List.take_length] at h1
    refine ⟨h0, o1, h1, ?_⟩
    have := h2 []
    rw [List.append_nil] at this
    rw [this]
    unfold ordB
    exact hy
  · rintro ⟨-, o, ho, hy⟩
    obtain ⟨o2, h1, h2⟩ := came_split hc ho
    rw [List.drop_length] at h1
    cases o2 with
    | cons n o2 => simp [natI] at h1
    | nil =>
      rw [h2] at hy
      unfold ordB at hy
      exact hy

def ThroughDone (ks : List Int) (cs : List Cl) (ol : List Int) (w : World) (e : Ending) (w' : World) : Prop :=
  ∃ p c l ok, e = .returned (.tuple #[.slice p (List.length l) c, .bool ok]) ∧ (ok = true ↔ AllowedP ks cs ol) ∧ (ok = true → ∃ o, natI o = ol ∧ foldC (startP ks) (o.map (nthC cs)) = some (l.map Kc.plain) ∧ l.length = ks.length ∧ Small (l.map Kc.plain)) ∧ HasAt w' p l ∧ KeepBut (fun _ => False) w w'

theorem has_nil (w : World) : HasAt w none [] := ⟨fun j v hj => by simp [cellsK] at hj, fun e he => by cases he⟩
theorem through_not {ks : List Int} {cs : List Cl} {ol : List Int} {w w' : World} (h : ¬ AllowedP ks cs ol) (hk : KeepBut (fun _ => False) w w') : ThroughDone ks cs ol w (.returned (.tuple #[.slice none 0 0, .bool false])) w' :=
  ⟨none, 0, [], false, rfl, ⟨(fun e => by cases e), fun e => absurd e h⟩, (fun e => by cases e), has_nil _, hk⟩

set_option maxRecDepth 100000 in
set_option maxHeartbeats 32000000 in
theorem through_any (w : World) (pk pc : Option Addr) (ck cc : Nat) (ks : List Int) (cs : List Cl) (hI : HistIn w pk pc ks cs) (po : Option Addr) (co : Nat) (ol : List Int) (hO : Rd w po (ints ol)) (hol : ol.length ≤ 1099511627776) :
    Calls Tryd.prog 40 #[histV pk pc ck cc ks cs, .slice po ol.length co] w fun e w' => ThroughDone ks cs ol w e w' := by
  obtain ⟨V, B, hV, hB, hb, hkV, hsV⟩ := fresh_block w (.cells #[.slice pk ks.length ck, .slice pc cs.length cc] THi)
  obtain ⟨b0, b1, -⟩ := blk2 hb
  have HI := Lib.hid hI
  have hIV := hI.stay hkV
  have HIV := Lib.hid hIV
  have HO := Lib.hid (hO.stay hkV)
  have HCH := Lib.hid (chkH_any V pk pc ck cc ks cs hIV.rd hIV.calls (by have := hI.k8; omega) (by have := hI.c60; omega))
  have HK := Lib.hid hkV; have HB := Lib.hid hb
  obtain ⟨ch, hch⟩ : ∃ ch, chkH ks cs = ch := ⟨_, rfl⟩
  rw [hch] at HCH
  have HE := Lib.hid hch
  unfold histV at HCH ⊢
  clear hI hIV hb hkV hsV hch hO
  go_enter Tryd.func40, Tryd.ntmps40
  go_upto_region 1 with fail
  rw [← hV, ← hB]
  clear hV hB
  by_cases h0 : ch = 0
  · have H0 := Lib.hid (HE.out.trans h0)
    have h1 : (ch != 0) = false := by simp [h0]
    clear h0
    go_upto_region 3 with (go_at_call 11; refine HCH.out.mono ?_; rintro e w2 ⟨rfl, hk⟩; obtain ⟨e0, e1, -⟩ := blk2 (hk.blk HB.out); have HK2 := Lib.hid hk; clear hk)
    have HCK := Lib.hid (chkH_ok.1 H0.out)
    have HBG := Lib.hid (begin_any w2 pk pc ck cc ks cs ((HIV.out.stay HK2.out).calls) HCK.out.2)
    unfold histV at HBG
    clear b0 b1
    go_upto_region 4 with (go_at_call 36; refine HBG.out.mono ?_; rintro e w3 ⟨S, A, D, rfl, hS, hM, -, -, -, hk⟩; have HS := Lib.hid hS; have HK3 := Lib.hid hk; clear hS hM hk)
    have HCONT := Lib.hid (show ∀ i, i < cs.length → 0 ≤ (nthC cs i).cont ∧ (nthC cs i).cont.toNat < ks.length from fun i hi => by
      have h9 := good_beg (HCK.out.1.each _ (nthC_mem hi))
      omega)
    have HIW := Lib.hid (HIV.out.stay (HK2.out.trans HK3.out))
    have HEM := Lib.hid (empty_any w3 S ks pk ck (blk5S HS.out.blk).1 HIW.out.rd (by have := HI.out.k8; omega))
    obtain ⟨l, hl⟩ : ∃ l, startK ks = l := ⟨_, rfl⟩
    rw [hl] at HEM
    have HL := Lib.hid (show l.map Kc.plain = startP ks by rw [← hl]; exact startK_plain ks)
    clear e0 e1 hl h1
    go_upto_region 5 with (go_at_call 38; refine HEM.out.mono ?_; rintro e w4 ⟨p4, c4, rfl, hH, hk⟩; have HH := Lib.hid hH; have HK4 := Lib.hid hk; clear hH hk)
    have HNEXT := Lib.hid fun W (hS : SAt W S A D pk pc ck cc ks cs) p c l (hH : HasAt W p l) (hk : l.length = ks.length) (hs : Small (l.map Kc.plain)) d n (hd : d < 4294967296) (hn : n < cs.length) => next_any W S A D pk pc ck cc ks cs hS HCK.out.2 p c l hH (fun i hi => by rw [hk]; exact HCONT.out i hi) hs (by rw [hk]; exact HI.out.k8) d n hd hn
    have HK0 := Lib.hid ((HK2.out.trans HK3.out).trans HK4.out)
    have HS4 := Lib.hid (HS.out.stay HK4.out)
    have HC0 := Lib.hid (came_start (cs := cs) (ol := ol) HI.out.kin)
    have hcl := HCK.out.2
    have hp24 := pow_lt hcl
    have HP24 := Lib.hid hp24
    clear hp24 HCH HBG HEM
    go_wp2_with fail
    go_loopw [7, 8, 22] (fun v7 v8 v22 wr => ∃ (d : Nat) (p : Option Addr) (c : Nat) (l : List Kc) (i : Nat), v7 = .int .u32 d ∧ v8 = .slice p l.length c ∧ v22 = .int .i64 i ∧ i ≤ ol.length ∧ Came ks cs ol i d (l.map Kc.plain) ∧ HasAt wr p l ∧ KeepBut (fun _ => False) w4 wr) (fun _ _ v _ => ol.length - (intOf v).toNat)
    case atStart => exact ⟨0, p4, c4, l, 0, rfl, rfl, rfl, Nat.zero_le _, by rw [HL.out]; exact HC0.out, HH.out, KeepBut.refl _ _⟩
    case round =>
      obtain ⟨d, p, c, l, i, rfl, rfl, rfl, hi, hcame, hhas, hk⟩ := hrel
      have HKR := Lib.hid hk; have HCM := Lib.hid hcame; have HHS := Lib.hid hhas
      have HLK := Lib.hid (show l.length = ks.length by have := hcame.len; rwa [List.length_map] at this)
      have HSR := Lib.hid (HS4.out.stay hk)
      have hd32 : d < 4294967296 := Nat.lt_trans hcame.lt HP24.out
      obtain ⟨s0, s1, s2, s3, s4⟩ := blk5S HSR.out.blk
      obtain ⟨b0, b1, -⟩ := blk2 ((HK0.out.trans hk).blk HB.out)
      clear hk hcame hhas
      by_cases hlt : i < ol.length
      · have hlti : (i : Int) < ol.length := by omega
        have hi0 : (0 : Int) ≤ i := by omega
        have hWi : IntKind.i64.wrap ((i : Int) + 1) = (i : Int) + 1 := IntWalk.i64_in _ (by omega)
        obtain ⟨b, o, hp, -⟩ := HO.out.ptr (by rw [ints_length]; omega)
        subst hp
        have hc := (HO.out.stay (HK0.out.trans HKR.out)).int i hlt
        by_cases hn0 : nth ol i < 0
        · have HNO := Lib.hid (came_bad HCM.out hlt fun n hn => by omega)
          go_wp2_with fail
          go_ret2
          exact through_not HNO.out (HK.out.trans (HK0.out.trans HKR.out))
        · obtain ⟨n, hn⟩ : ∃ n : Nat, nth ol i = n := ⟨(nth ol i).toNat, by omega⟩
          have HN := Lib.hid hn
          rw [hn] at hc hn0
          by_cases hnl : cs.length ≤ n
          · have hnli : (cs.length : Int) ≤ n := by omega
            have HNO := Lib.hid (came_bad HCM.out hlt fun m hm => by
              have : m = n := by omega
              subst this
              intro o
              exact ord_out hnl)
            clear hn
            go_wp2_with fail
            go_ret2
            exact through_not HNO.out (HK.out.trans (HK0.out.trans HKR.out))
          · have hnli : ¬ (cs.length : Int) ≤ n := by omega
            have hnlt : n < cs.length := by omega
            have hn0' : (0 : Int) ≤ n := by omega
            have HNX := Lib.hid (HNEXT.out wr HSR.out p c l HHS.out HLK.out HCM.out.small d n hd32 hnlt)
            have hp2 : 2 ^ n < 4294967296 := pow_lt (by omega)
            have hsh : IntKind.u32.wrap ((2 : Int) ^ n) = (2 : Int) ^ n := by
              have h9 := wrap32 hp2
              simpa using h9
            have hor : bits .or .u32 (d : Int) ((2 : Int) ^ n) = ((d ||| 2 ^ n : Nat) : Int) := by
              have h9 := bits_or d (2 ^ n) hd32 hp2
              simpa using h9
            obtain ⟨dn, hdn⟩ : ∃ dn, d ||| 2 ^ n = dn := ⟨_, rfl⟩
            have HDN := Lib.hid hdn
            rw [hdn] at hor
            clear hdn hp2 hn
            go_upto_region 11 with (go_at_call 56; refine HNX.out.mono ?_; rintro e w5 h3; obtain ⟨ok, p3, c3, l3, rfl, hh3, hk3, hno⟩ := next_say h3; have HH3 := Lib.hid hh3; have HK5 := Lib.hid hk3; have HNO := Lib.hid hno; clear hh3 hk3 hno h3)
            cases ok with
            | false =>
              have HBAD := Lib.hid (came_bad HCM.out hlt fun m hm => by
                have h9 : m = n := by have := HN.out; omega
                subst h9
                intro o
                rw [ord_next hnlt, HNO.out]
                rfl)
              go_wp2_with fail
              go_ret2
              exact through_not HBAD.out (HK.out.trans ((HK0.out.trans HKR.out).trans HK5.out))
            | true =>
              have HC2 := Lib.hid (show Came ks cs ol (i + 1) dn (l3.map Kc.plain) by
                rw [← HDN.out]
                exact came_step HCM.out HI.out.args HCK.out.2 hlt HN.out hnlt HNO.out)
              go_wp2_with fail
              exact ⟨⟨dn, p3, c3, l3, i + 1, rfl, rfl, by simp, by omega, HC2.out, HH3.out, HKR.out.trans HK5.out⟩, by simp only [intOf]; omega⟩
      · have hnl : ¬ (i : Int) < ol.length := by omega
        have e : i = ol.length := by omega
        subst e
        have hwo := bits_without (endedM cs) d
        have HEND := Lib.hid (came_end HCM.out H0.out)
        obtain ⟨ov, hov⟩ : ∃ ov, overB cs d = ov := ⟨_, rfl⟩
        rw [hov] at HEND
        have HOV := Lib.hid (show (((without (endedM cs) d : Nat) : Int) == 0) = ov by
          rw [← hov]
          unfold overB
          by_cases hz : without (endedM cs) d = 0
          · rw [hz]; rfl
          · rw [beq_eq_false_iff_ne.2 (by omega), beq_eq_false_iff_ne.2 hz])
        have hov2 := HOV.out
        clear hov
        go_upto_region 15 with fail
        go_quiet (fail)
        go_wp2_with fail
        go_ret2
        refine ⟨p, c, l, ov, ?_, HEND.out, fun e => ?_, HHS.out.stay (KeepBut.drewN _ _ _), (HK.out.trans (HK0.out.trans HKR.out)).trans (KeepBut.drewN _ _ _)⟩
        · rfl
        · obtain ⟨o1, h1, -, h3⟩ := HCM.out.ex
          rw [List.take_length] at h1
          exact ⟨o1, h1, h3, HLK.out, HCM.out.small⟩
  · have H0 := Lib.hid (show ¬ AllowedP ks cs ol from fun h => h0 (HE.out.symm.trans h.1))
    have h1 : (ch != 0) = true := by simpa using h0
    clear h0
    go_wp2_with (go_at_call 11; refine HCH.out.mono ?_; rintro e w2 ⟨rfl, hk⟩; have HK2 := Lib.hid hk; clear hk)
    go_ret2
    exact through_not H0.out (HK.out.trans HK2.out)

end Go.Proofs.YtoolpifkfgileaaDoor

/-
  Package hist: Allowed; Ends.
-/
namespace Go.Proofs.YtoolpifkfgileaaDoor
open Go Go.RowKit Own

def AllowDone (ks : List Int) (cs : List Cl) (ol : List Int) (w : World) (e : Ending) (w' : World) : Prop := ∃ v, e = .returned (.bool v) ∧ (v = true ↔ AllowedP ks cs ol) ∧ KeepBut (fun _ => False) w w'

theorem allowed_any (w : World) (pk pc : Option Addr) (ck cc : Nat) (ks : List Int) (cs : List Cl) (hI : HistIn w pk pc ks cs) (po : Option Addr) (co : Nat) (ol : List Int) (hO : Rd w po (ints ol)) (hol : ol.length ≤ 1099511627776) :
    Calls Tryd.prog 19 #[histV pk pc ck cc ks cs, .slice po ol.length co] w fun e w' => AllowDone ks cs ol w e w' := by
  obtain ⟨V, B, hV, hB, hb, hkV, hsV⟩ := fresh_block w (.cells #[.slice pk ks.length ck, .slice pc cs.length cc] THi)
  obtain ⟨b0, b1, -⟩ := blk2 hb
  have HT := Lib.hid (through_any V pk pc ck cc ks cs (hI.stay hkV) po co ol (hO.stay hkV) hol)
  have HK := Lib.hid hkV
  unfold histV at HT ⊢
  clear hI hb hkV hsV hO
  go_enter Tryd.func19, Tryd.ntmps19
  go_upto_region 1 with fail
  rw [← hV, ← hB]
  clear hV hB
  go_wp2_with (go_at_call 40; refine HT.out.mono ?_; rintro e w2 ⟨p, c, l, ok, rfl, h1, -, -, hk⟩; have H1 := Lib.hid h1; have HK2 := Lib.hid hk; clear hk h1)
  go_ret
  exact ⟨ok, rfl, H1.out, HK.out.trans HK2.out⟩

theorem keep_back {w w' : World} {N : Nat} {x : Obj} (h : KeepBut (fun k => k = N) w.drew w') (h1 : w'.heap[N]? = some x) (h2 : w.heap[N]? = some x) : KeepBut (fun _ => False) w w' :=
  ⟨h.os, h.tape, h.output, h.size, fun k hk _ => by
    by_cases e : k = N
    · rw [e, h1, h2]
    · exact h.block k hk e⟩

def EndsDone (ks : List Int) (cs : List Cl) (ol : List Int) (i : Nat) (w : World) (e : Ending) (w' : World) : Prop :=
  ∃ q c xs k h o, e = .returned (.agg #[.int .i64 k, .slice q (List.length xs) c]) ∧ natI o = ol ∧ foldC (startP ks) (o.map (nthC cs)) = some h ∧ nthK h i = (k, xs) ∧ Rd w' q (ints xs) ∧ List.length xs ≤ 64 ∧ KeepBut (fun _ => False) w w'

set_option maxHeartbeats 8000000 in
theorem ends_any (w : World) (pk pc : Option Addr) (ck cc : Nat) (ks : List Int) (cs : List Cl) (hI : HistIn w pk pc ks cs) (po : Option Addr) (co : Nat) (ol : List Int) (hO : Rd w po (ints ol)) (hol : ol.length ≤ 1099511627776) (i : Nat) (hi : i < ks.length) (hA : AllowedP ks cs ol) :
    Calls Tryd.prog 23 #[histV pk pc ck cc ks cs, .slice po ol.length co, .int .i64 i] w fun e w' => EndsDone ks cs ol i w e w' := by
  obtain ⟨V1, B3, hV1, hB3, hb3, hk1, hs1⟩ := fresh_block w (.cells #[.slice pk ks.length ck, .slice pc cs.length cc] THi)
  obtain ⟨V, N, hV, hN, hbN, hk2, hs2⟩ := fresh_block V1 (.cells #[.int .i64 0, .slice none 0 0] TC)
  obtain ⟨b0, b1, -⟩ := blk2 (hk2.blk hb3)
  have hK := hk1.trans hk2
  have HT := Lib.hid (through_any V pk pc ck cc ks cs (hI.stay hK) po co ol (hO.stay hK) hol)
  have HK := Lib.hid hK; have HBN := Lib.hid hbN
  have hNB : B3 + 1 = N := by omega
  have HNW := Lib.hid (show w.heap.size ≤ N ∧ N < V.heap.size by omega)
  have HAL := Lib.hid hA
  have HIK := Lib.hid hi
  have HK8 := Lib.hid hI.k8
  unfold histV at HT ⊢
  clear hI hb3 hbN hk1 hk2 hs1 hs2 hO hA hK
  go_enter Tryd.func23, Tryd.ntmps23
  go_upto_region 1 with fail
  rw [← hV1, ← hB3, ← hV, hNB]
  clear hV1 hB3 hV hN hNB
  go_upto_region 2 with (go_at_call 40; refine HT.out.mono ?_; rintro e w2 ⟨p, c, l, ok, rfl, h1, h2, h3, hk⟩; have H1 := Lib.hid h1; have H2 := Lib.hid h2; have H3 := Lib.hid h3; have HK2 := Lib.hid hk; clear hk h1 h2 h3)
  have hok : ok = true := H1.out.2 HAL.out
  subst hok
  obtain ⟨o1, ho1, hf1, hl1, hsm⟩ := H2.out rfl
  have HF1 := Lib.hid hf1; have HO1 := Lib.hid ho1
  have hil : i < l.length := by omega
  have hili : (i : Int) < l.length := by omega
  have hi0 : (0 : Int) ≤ i := by omega
  have hilf : ¬ (l.length : Int) ≤ i := by omega
  have hmem : l[i] ∈ l := List.getElem_mem hil
  obtain ⟨g, o, hp, x0, x1⟩ := H3.out.cells i hil
  have hlv := H3.out.live _ hmem
  have hse := hsm _ (List.mem_map.2 ⟨l[i], hmem, rfl⟩)
  have hnk : nthK (l.map Kc.plain) i = l[i].plain := by unfold nthK; simp [List.getD, hil]
  obtain ⟨⟨ek, eq, ex, ec⟩, he⟩ : ∃ e, l[i] = e := ⟨_, rfl⟩
  rw [he] at x0 x1 hlv hse hnk
  dsimp only [Kc.plain] at x0 x1 hlv hse hnk
  subst hp
  have HLV := Lib.hid hlv; have HSE := Lib.hid hse; have HNK := Lib.hid hnk
  have HN2 := Lib.hid (HK2.out.blk HBN.out)
  have x0' := x0; have x1' := x1
  clear x0 x1 hlv hse hnk he hmem hsm hf1 ho1
  go_upto_region 4 with fail
  refine wp_own1 (by kernel_rfl) N _ HN2.out (fun i => [[], [], [0, 1], [0, 1, 2], [0, 1, 2, 3], [], [], [5, 6], [5, 6, 7], [5, 6, 7, 8], [5, 6, 7, 8, 9], [0, 1, 2, 3, 4, 5, 6, 7, 8, 9, 10], [0, 1, 2, 3, 4, 5, 6, 7, 8, 9, 10, 11]].getD i []) (fun i => if i = 4 ∨ i = 9 ∨ i = 10 ∨ i = 12 then [13] else []) (fun i => if i = 12 then [13] else []) [10, 12] (by kernel_rfl)
    (fun i => if i = 4 then some (sConst (.int .i64 ek)) else if i = 9 then some (sConst (.slice eq ex.length ec)) else if i = 10 then some (sOwnI 2 ex) else if i = 12 then some (sPut N TC) else none) ?_
  apply lex_quiet rfl rfl
  · intro w' hk; go_simp; with_reducible rfl
  simp only [Act.put, List.setIfInBounds_toArray, List.set_cons_zero, List.set_cons_succ]
  apply lex_quiet rfl rfl
  · intro w' hk; go_simp; with_reducible rfl
  simp only [Act.put, List.setIfInBounds_toArray, List.set_cons_zero, List.set_cons_succ]
  apply lex_quiet rfl rfl
  · intro w' hk; go_simp; with_reducible rfl
  simp only [Act.put, List.setIfInBounds_toArray, List.set_cons_zero, List.set_cons_succ]
  apply lex_quiet rfl rfl
  · intro w' hk; go_simp; with_reducible rfl
  simp only [Act.put, List.setIfInBounds_toArray, List.set_cons_zero, List.set_cons_succ]
  refine lex_loud rfl rfl (loud_run ⟨default, trivial⟩ (fun g _ w w' _ _ _ _ _ => trivial) fun w' hk hav _ => by
    have hkk := keep_back hk (hav 13 (by decide)).1 HN2.out
    have x := hkk.stay x0'
    exact ⟨w', default, trivial, .inl (by go_simp <;> rfl), KeepBut.refl _ _, fun b h => h.elim, trivial⟩) fun _ _ => ?_
  simp only [sConst, Act.put, List.setIfInBounds_toArray, List.set_cons_zero, List.set_cons_succ]
  apply lex_quiet rfl rfl
  · intro w' hk; go_simp; with_reducible rfl
  simp only [Act.put, List.setIfInBounds_toArray, List.set_cons_zero, List.set_cons_succ]
  apply lex_quiet rfl rfl
  · intro w' hk; go_simp; with_reducible rfl
  simp only [Act.put, List.setIfInBounds_toArray, List.set_cons_zero, List.set_cons_succ]
  apply lex_quiet rfl rfl
  · intro w' hk; go_simp; with_reducible rfl
  simp only [Act.put, List.setIfInBounds_toArray, List.set_cons_zero, List.set_cons_succ]
  apply lex_quiet rfl rfl
  · intro w' hk; go_simp; with_reducible rfl
  simp only [Act.put, List.setIfInBounds_toArray, List.set_cons_zero, List.set_cons_succ]
  refine lex_loud rfl rfl (loud_run ⟨default, trivial⟩ (fun g _ w w' _ _ _ _ _ => trivial) fun w' hk hav _ => by
    have hkk := keep_back hk (hav 13 (by decide)).1 HN2.out
    have x := hkk.stay x1'
    exact ⟨w', default, trivial, .inl (by go_simp <;> rfl), KeepBut.refl _ _, fun b h => h.elim, trivial⟩) fun _ _ => ?_
  simp only [sConst, Act.put, List.setIfInBounds_toArray, List.set_cons_zero, List.set_cons_succ]
  refine lex_loud rfl rfl (loud_call 44 #[.slice eq ex.length ec] (fun w => by kernel_rfl) ⟨default, trivial⟩ (fun g _ => stable_ownI _ _ _ _ _) fun w' hk hav _ => (clone_any w' eq ex ec (HLV.out.1.stay (keep_back hk (hav 13 (by decide)).1 HN2.out)) (by have := HSE.out.2.1; omega) HLV.out.2).mono ?_) fun g4 _ => ?_
  · rintro e w'' ⟨p', c', rfl, ho, hq⟩
    exact ⟨{ p := p', c := c' }, trivial, rfl, hq.mono fun _ e => e.elim, fun b ⟨a, h1, h2⟩ => by have := ho.lt a h1; exact ⟨.inl (by omega), by omega⟩, ho.base fun _ _ => Nat.zero_le _⟩
  simp only [sOwnI, sPut, Act.put, List.setIfInBounds_toArray, List.set_cons_zero, List.set_cons_succ]
  apply lex_quiet rfl rfl
  · intro w' hk; go_simp; with_reducible rfl
  simp only [Act.put, List.setIfInBounds_toArray, List.set_cons_zero, List.set_cons_succ]
  refine lex_loud rfl rfl (loud_put N TC TC #[.int .i64 ek, .slice g4.p ex.length g4.c] _ (.tmp 6) (.tmp 39) rfl rfl rfl 13 (by decide) (by decide) (fun w h => h) ⟨rfl, rfl⟩ rfl (by kernel_rfl) (by simp [Value.oneCell'])) fun g6 _ => ?_
  simp only [sOwnI, sPut, Act.put, List.setIfInBounds_toArray, List.set_cons_zero, List.set_cons_succ]
  refine lex_nil ?_
  intro w9 hk hF _
  have f4 : OwnI 2 0 w9 g4.p g4.c ex := (hF 10 (by decide)).1
  have f6 : w9.heap[N]? = some (.cells #[.int .i64 ek, .slice g4.p ex.length g4.c] TC (0, 0)) := (hF 12 (by decide)).1 _ (put_args rfl rfl)
  have c0 := blk_cell (k := 0) f6 rfl
  have c1 := blk_cell (k := 1) f6 rfl
  have HFIN := Lib.hid (show EndsDone ks cs ol i w (.returned (.agg #[.int .i64 ek, .slice g4.p ex.length g4.c])) w9 from
    ⟨g4.p, g4.c, ex, ek, _, o1, rfl, HO1.out, HF1.out, HNK.out, f4.rd, HSE.out.2.1, (HK.out.trans HK2.out).new ((KeepBut.drew _ w2).trans hk) fun b hb => by have := HNW.out; have h2 : b = N := hb; omega⟩)
  clear hF f4 f6 hk
  go_wp2_with fail
  exact bodyPost_ret (v := .agg #[.int .i64 ek, .slice g4.p ex.length g4.c]) (by simp [results, Tryd.results23, go_sem, c0, c1]) rfl HFIN.out

end Go.Proofs.YtoolpifkfgileaaDoor

/-
  In plain: what is linear stays so if a call begins earlier, or ends later; if a pending call is removed that is not in its order.
-/
namespace Go.Proofs.YtoolpifkfgileaaDoor
open Go Go.RowKit Own

/-- a call that begins earlier and ends later; everything is 64 times as far apart -/
def wideC (n : Nat) (p1 p2 : Int) (k : Nat) (c : Cl) : Cl :=
  { c with beg := if k = n then max 0 (64 * c.beg - p1) else 64 * c.beg, till := if 0 ≤ c.till then (if k = n then 64 * c.till + p2 else 64 * c.till) else c.till }
def wideH (n : Nat) (p1 p2 : Int) (cs : List Cl) : List Cl := (List.range cs.length).map fun k => wideC n p1 p2 k (nthC cs k)
theorem wideH_len (n : Nat) (p1 p2 : Int) (cs : List Cl) : (wideH n p1 p2 cs).length = cs.length := by simp [wideH]
theorem wideH_nth {n : Nat} {p1 p2 : Int} {cs : List Cl} {k : Nat} (hk : k < cs.length) : nthC (wideH n p1 p2 cs) k = wideC n p1 p2 k (nthC cs k) := by
  rw [nthC_eq (by rw [wideH_len]; exact hk)]
  unfold wideH
  rw [List.getElem_map, List.getElem_range]

theorem wide_beg {n k : Nat} {p1 p2 : Int} {c : Cl} (h1 : 0 ≤ p1) : (wideC n p1 p2 k c).beg ≤ max 0 (64 * c.beg) := by
  show (if k = n then max 0 (64 * c.beg - p1) else 64 * c.beg) ≤ _
  split <;> omega
theorem wide_till {n k : Nat} {p1 p2 : Int} {c : Cl} (h2 : 0 ≤ p2) : (0 ≤ c.till → 64 * c.till ≤ (wideC n p1 p2 k c).till) ∧ (¬ 0 ≤ c.till → (wideC n p1 p2 k c).till = c.till) := by
  constructor
  · intro h
    show _ ≤ (if 0 ≤ c.till then (if k = n then 64 * c.till + p2 else 64 * c.till) else c.till)
    rw [if_pos h]
    split <;> omega
  · intro h
    show (if 0 ≤ c.till then (if k = n then 64 * c.till + p2 else 64 * c.till) else c.till) = _
    rw [if_neg h]

theorem wide_ahead {n : Nat} {p1 p2 : Int} {cs : List Cl} (h1 : 0 ≤ p1) (h2 : 0 ≤ p2) {a b : Nat} (ha : a < cs.length) (hb : b < cs.length) (h : aheadB cs a b = false) : aheadB (wideH n p1 p2 cs) a b = false := by
  unfold aheadB at h ⊢
  rw [wideH_nth ha, wideH_nth hb]
  have h3 := wide_beg (n := n) (k := b) (p2 := p2) (c := nthC cs b) h1
  have h4 := wide_till (n := n) (k := a) (p1 := p1) (c := nthC cs a) h2
  rw [Bool.and_eq_false_iff, decide_eq_false_iff_not, decide_eq_false_iff_not] at h ⊢
  by_cases ht : 0 ≤ (nthC cs a).till
  · have h5 := h4.1 ht
    rcases h with h | h
    · exact absurd ht h
    · right; omega
  · left
    rw [h4.2 ht]; exact ht

theorem wide_step {n k : Nat} {p1 p2 : Int} {c : Cl} (h2 : 0 ≤ p2) (hc : c.till = -1 ∨ 0 ≤ c.till) (h : List (Int × List Int)) : stepC h (wideC n p1 p2 k c) = stepC h c := by
  have h4 := wide_till (n := n) (k := k) (p1 := p1) (c := c) h2
  unfold stepC step1
  have e : (wideC n p1 p2 k c).till = -1 ↔ c.till = -1 := by
    rcases hc with h5 | h5
    · rw [h4.2 (by omega)]
    · have := h4.1 h5
      constructor <;> intro _ <;> omega
  by_cases ht : c.till = -1
  · rw [if_pos ht, if_pos (e.2 ht)]; rfl
  · rw [if_neg ht, if_neg (fun h => ht (e.1 h))]; rfl

theorem wide_fold {n : Nat} {p1 p2 : Int} {cs : List Cl} (h2 : 0 ≤ p2) (hc : ∀ k, k < cs.length → (nthC cs k).till = -1 ∨ 0 ≤ (nthC cs k).till) : ∀ (o : List Nat) (h : List (Int × List Int)), (∀ m ∈ o, m < cs.length) → foldC h (o.map (nthC (wideH n p1 p2 cs))) = foldC h (o.map (nthC cs))
  | [], _, _ => rfl
  | m :: o, h, hm => by
    rw [List.map_cons, List.map_cons]
    unfold foldC
    rw [wideH_nth (hm m List.mem_cons_self), wide_step h2 (hc m (hm m List.mem_cons_self))]
    cases stepC h (nthC cs m) with
    | none => rfl
    | some h' => exact wide_fold h2 hc o h' fun x hx => hm x (List.mem_cons_of_mem _ hx)

theorem till_or {ks : List Int} {cs : List Cl} (hg : GoodH ks cs) : ∀ k, k < cs.length → (nthC cs k).till = -1 ∨ 0 ≤ (nthC cs k).till := fun k hk => by
  have h1 := hg.each _ (nthC_mem hk)
  by_cases e : (nthC cs k).till = -1
  · exact .inl e
  · have := h1.2.2 e
    have := good_beg h1
    exact .inr (by omega)

theorem wide_ord {ks : List Int} {cs : List Cl} {h0 : List (Int × List Int)} {o : List Nat} {n : Nat} {p1 p2 : Int} (h1 : 0 ≤ p1) (h2 : 0 ≤ p2) (hg : GoodH ks cs) (hl : cs.length ≤ 24) (h : ordB cs 0 h0 o = true) : ordB (wideH n p1 p2 cs) 0 h0 o = true := by
  have ho := ord_of o hl h
  have hlen := wideH_len n p1 p2 cs
  refine of_ord o (by omega) (fun k hk => wide_ahead h1 h2 (by omega) (by omega) (hg.self k (by omega))) ⟨fun m hm => by rw [hlen]; exact ho.lt m hm, ho.nodup, ho.new, ?_, fun k hk ht => ?_, ?_⟩
  · exact ho.pair.imp_of_mem fun {a b} ha hb hab => wide_ahead h1 h2 (ho.lt b hb) (ho.lt a ha) hab
  · rw [hlen] at hk
    refine ho.ended k hk fun e => ht ?_
    rw [wideH_nth hk, (wide_till h2).2 (by omega)]
    exact e
  · rw [wide_fold h2 (till_or hg) o h0 ho.lt]
    exact ho.run

theorem wide_all {ks : List Int} {cs : List Cl} {o : List Nat} {n : Nat} {p1 p2 : Int} (h1 : 0 ≤ p1) (h2 : 0 ≤ p2) (hg : GoodH ks cs) (hl : cs.length ≤ 24) (h : ordB cs 0 (startP ks) o = true) (hw : chkH ks (wideH n p1 p2 cs) = 0) :
    LinH ks (wideH n p1 p2 cs) ∧ ordB (wideH n p1 p2 cs) 0 (startP ks) o = true := by
  have h3 := wide_ord (n := n) h1 h2 hg hl h
  have h4 := chkH_ok.1 hw
  exact ⟨lin_of h4.1 h4.2 h3, h3⟩

/-- the calls that ended, and those of an order -/
def lessB (cs : List Cl) (o : List Nat) (k : Nat) : Bool := decide (0 ≤ (nthC cs k).till) || o.contains k
def lessN (cs : List Cl) (o : List Nat) (i : Nat) : List Cl := ((List.range i).filter (lessB cs o)).map (nthC cs)
theorem lessN_succ (cs : List Cl) (o : List Nat) (i : Nat) : lessN cs o (i + 1) = if lessB cs o i = true then lessN cs o i ++ [nthC cs i] else lessN cs o i := by
  unfold lessN
  rw [List.range_succ, List.filter_append, List.map_append]
  by_cases h : lessB cs o i = true
  · rw [if_pos h]; simp [h]
  · rw [if_neg h]; simp [h]
theorem range_map (cs : List Cl) : (List.range cs.length).map (nthC cs) = cs := by
  apply List.ext_getElem
  · simp
  · intro i h1 h2
    rw [List.getElem_map, List.getElem_range, nthC_eq h2]
theorem less_sub (cs : List Cl) (o : List Nat) : (lessN cs o cs.length).Sublist cs := by
  have h : (lessN cs o cs.length).Sublist ((List.range cs.length).map (nthC cs)) := (List.filter_sublist (l := List.range cs.length) (p := lessB cs o)).map (nthC cs)
  rwa [range_map] at h
theorem less_lin {ks : List Int} {cs : List Cl} {o : List Nat} (hg : GoodH ks cs) (hl : cs.length ≤ 24) (h : ordB cs 0 (startP ks) o = true) : LinH ks (lessN cs o cs.length) := by
  have hi := ord_of o hl h
  have ho := hi.calls hg
  refine ⟨⟨hg.sub (less_sub cs o), Nat.le_trans (less_sub cs o).length_le hl⟩, _, fun c hc => ?_, fun c hc ht => ho.ended c ((less_sub cs o).mem hc) ht, ho.pair, ho.run⟩
  obtain ⟨k, hk, rfl⟩ := List.mem_map.1 hc
  refine List.mem_map.2 ⟨k, List.mem_filter.2 ⟨List.mem_range.2 (hi.lt k hk), ?_⟩, rfl⟩
  unfold lessB
  rw [Bool.or_eq_true]
  right
  simpa using hk

/-- calls, 64 times as far apart: the first i of them -/
def scaleC (c : Cl) : Cl := { c with beg := 64 * c.beg, till := if 0 ≤ c.till then 64 * c.till else c.till }
def scaleN (i : Nat) (cs : List Cl) : List Cl := (List.range cs.length).map fun k => if k < i then scaleC (nthC cs k) else nthC cs k
theorem scaleN_len (i : Nat) (cs : List Cl) : (scaleN i cs).length = cs.length := by simp [scaleN]
theorem scaleN_nth {i k : Nat} {cs : List Cl} (hk : k < cs.length) : nthC (scaleN i cs) k = if k < i then scaleC (nthC cs k) else nthC cs k := by
  rw [nthC_eq (by rw [scaleN_len]; exact hk)]
  unfold scaleN
  rw [List.getElem_map, List.getElem_range]
theorem ext_nthC {a b : List Cl} (hl : a.length = b.length) (h : ∀ k, k < a.length → nthC a k = nthC b k) : a = b := by
  apply List.ext_getElem hl
  intro k h1 h2
  have := h k h1
  rwa [nthC_eq h1, nthC_eq h2] at this
theorem scaleN_zero (cs : List Cl) : scaleN 0 cs = cs := ext_nthC (scaleN_len 0 cs) fun k hk => by
  rw [scaleN_nth (by rw [scaleN_len] at hk; exact hk), if_neg (Nat.not_lt_zero _)]
theorem nthC_put {l : List Cl} {i j : Nat} {c : Cl} (hi : i < l.length) : nthC (l.set i c) j = if j = i then c else nthC l j := by
  unfold nthC
  rw [List.getD_eq_getElem?_getD, List.getD_eq_getElem?_getD, List.getElem?_set]
  by_cases h1 : i = j
  · subst h1; simp [hi]
  · have : ¬ j = i := fun e => h1 e.symm
    simp [h1, this]
theorem scaleN_succ {i : Nat} {cs : List Cl} (hi : i < cs.length) : (scaleN i cs).set i (scaleC (nthC cs i)) = scaleN (i + 1) cs := ext_nthC (by rw [List.length_set, scaleN_len, scaleN_len]) fun k hk => by
  rw [List.length_set, scaleN_len] at hk
  rw [nthC_put (by rw [scaleN_len]; exact hi), scaleN_nth hk, scaleN_nth hk]
  by_cases e : k = i
  · rw [if_pos e, if_pos (by omega), e]
  · by_cases h1 : k < i
    · rw [if_neg e, if_pos h1, if_pos (by omega)]
    · rw [if_neg e, if_neg h1, if_neg (by omega)]
theorem wide_eq {n : Nat} {p1 p2 : Int} {cs : List Cl} (hn : n < cs.length) : (scaleN cs.length cs).set n (wideC n p1 p2 n (nthC cs n)) = wideH n p1 p2 cs := ext_nthC (by rw [List.length_set, scaleN_len, wideH_len]) fun k hk => by
  rw [List.length_set, scaleN_len] at hk
  rw [nthC_put (by rw [scaleN_len]; exact hn), scaleN_nth hk, wideH_nth hk, if_pos hk]
  by_cases e : k = n
  · rw [if_pos e, e]
  · rw [if_neg e]
    unfold scaleC wideC
    rw [if_neg e, if_neg e]

end Go.Proofs.YtoolpifkfgileaaDoor

/-
  A region that draws its order and puts something at the end of a row that is its caller's own: one block and one row are set aside. No program in sight.
-/
namespace Go.Proofs.YtoolpifkfgileaaDoor
open Go Go.RowKit Own

theorem row_same {w w' : World} {base size : Nat} {T : TypeId} {v : Value} {n : Nat} {xs : List Value} (h : w.ownsRow base T size v n xs) (hb : ∀ b, v.ownBlock = some b → w'.heap[b]? = w.heap[b]?) : w'.ownsRow base T size v n xs := by
  obtain ⟨h0, h1 | ⟨g, cap, cur, h1, h2, h3, h4⟩⟩ := h
  · exact ⟨h0, .inl h1⟩
  · exact ⟨h0, .inr ⟨g, cap, cur, h1, h2, (hb g (by rw [h1]; rfl)).trans h3, h4⟩⟩

def aside2 (n m : Nat) (x : Obj) (base : Nat) (T : TypeId) (size : Nat) (v : Value) (k : Nat) (xs : List Value) (j : Nat) (w : World) : Prop :=
  if j = n then w.heap[m]? = some x else if j = n + 1 then w.ownsRow base T size v k xs else True
def aside2Fp (n m : Nat) (v : Value) (j b : Nat) : Prop := (j = n ∧ b = m) ∨ (j = n + 1 ∧ v.ownBlock = some b)

theorem wp_own2 {P : Program} {l : List Oper} {Q : Exit → Act → World → Prop} {id : Nat} {a : Act} {w : World} (hm : P.follows .mixedOrders = true)
    (m : Nat) (x : Obj) (hx : w.heap[m]? = some x) (base : Nat) (T : TypeId) (size : Nat) (v : Value) (k : Nat) (xs : List Value) (hrow : w.ownsRow base T size v k xs) (hlt : m < base)
    (D av ea : Nat → List Nat) (keep : List Nat) (hok : okB l.toArray D av ea keep = true) (sp : Nat → Option Loud)
    (hlex : Lex P l.toArray w.drew (fun b => b = m ∨ v.ownBlock = some b) sp av ea (fun a F Fp => Done w.drew (fun b => b = m ∨ v.ownBlock = some b) Q keep a F Fp) l 0 a (aside2 l.length m x base T size v k xs) (aside2Fp l.length m v)) : (Code.region id l.toArray true).wp P Q a w := by
  refine wp_own_lit hm D av ea keep hok sp _ _ _ ?_ ?_ ?_ ?_ hlex
  · intro j hj
    have hj' : j < l.length := by simpa using hj
    funext w'; unfold aside2; rw [if_neg (by omega), if_neg (by omega)]
  · intro j hj
    have hj' : j < l.length := by simpa using hj
    funext b; unfold aside2Fp
    exact propext ⟨fun h => by rcases h with h | h <;> omega, fun h => h.elim⟩
  · intro j hj
    refine ⟨fun w1 w2 _ _ _ h hk => ?_, ?_, fun b hb => ?_⟩
    · unfold aside2 at hk ⊢
      by_cases h1 : j = l.length
      · rw [if_pos h1] at hk ⊢
        rw [← hk]; exact h m (.inl ⟨h1, rfl⟩)
      · rw [if_neg h1] at hk ⊢
        by_cases h2 : j = l.length + 1
        · rw [if_pos h2] at hk ⊢
          exact row_same hk fun b hb => h b (.inr ⟨h2, hb⟩)
        · rw [if_neg h2]; trivial
    · unfold aside2
      by_cases h1 : j = l.length
      · rw [if_pos h1]; exact hx
      · rw [if_neg h1]
        by_cases h2 : j = l.length + 1
        · rw [if_pos h2]; exact hrow
        · rw [if_neg h2]; trivial
    · rcases hb with ⟨_, hb⟩ | ⟨_, hb⟩
      · refine ⟨?_, .inl hb⟩
        rw [hb]
        rcases Nat.lt_or_ge m w.heap.size with h' | h'
        · exact h'
        · rw [Array.getElem?_eq_none h'] at hx; cases hx
      · exact ⟨(hrow.lt b hb).2, .inr hb⟩
  · intro i j _ _ hij b h1 h2
    rcases h1 with ⟨a1, a2⟩ | ⟨a1, a2⟩ <;> rcases h2 with ⟨b1, b2⟩ | ⟨b1, b2⟩
    · omega
    · have := (hrow.lt b b2).1; omega
    · have := (hrow.lt b a2).1; omega
    · omega

/-- a row of one's own, behind an append -/
def sRow (base : Nat) (T : TypeId) (size n : Nat) (xs : List Value) : Loud := { val := fun _ g => .slice g.p n g.c, fp := fun _ g => Of g.p, post := fun _ g w => w.ownsRow base T size (.slice g.p n g.c) n xs }
theorem own_of {p : Option Addr} {n c b : Nat} : (Value.slice p n c).ownBlock = some b ↔ Of p b := by
  cases p with
  | none => exact ⟨fun h => by simp [Value.ownBlock] at h, fun ⟨a, h, _⟩ => by cases h⟩
  | some a => exact ⟨fun h => ⟨a, rfl, by simpa [Value.ownBlock] using h.symm⟩, fun ⟨a', h1, h2⟩ => by cases h1; rw [h2]; rfl⟩

theorem loud_appendR {P : Program} {w0 : World} {M : Nat → Prop} {o : Oper} {a : Act} {av ea : List Nat} {F : Nat → World → Prop} {Fp : Nat → Nat → Prop} (base : Nat) (T t : TypeId) (i0 : TypeInfo) (z : Value) (size bytes : Nat)
    (ht : P.underlying t = some (.slice T)) (hi : P.info? T = some i0) (hz : i0.zero = some z) (hsize : i0.size = size) (hby : i0.bytes = bytes) (hzs : z.cells.size = size) (hsz : 0 < size)
    (x y : Operand) (ho : o.op = .call { callee := .builtin .append, args := #[x, y], argTypes := #[t, t] }) (v : Value) (n : Nat) (xs : List Value) (b2 : Nat) (news : List Value)
    (hx : a.eval x = v) (hy : a.eval y = .slice (some ⟨b2, 0, none⟩) 1 1) (hl : news.length = size) (h1 : ∀ u ∈ news, u.oneCell' = true) (hn : n + 1 ≤ maxLen) (hb : (n + 1) * bytes ≤ 140737488355328) (hbase : base ≤ w0.heap.size)
    (j1 : Nat) (hj1a : j1 ∈ av) (hj1e : j1 ∈ ea) (hF1 : ∀ w, F j1 w → w.ownsRow base T size v n xs) (hp1 : ∀ b, v.ownBlock = some b → Fp j1 b)
    (j2 : Nat) (hj2a : j2 ∈ av) (hF2 : ∀ w, F j2 w → w.heap[b2]? = some (.cells news.toArray T (0, 0))) : LoudOk P w0 M o a (sRow base T size (n + 1) (xs ++ news)) av ea F Fp := by
  refine loud_run ⟨default, trivial⟩ (fun g _ w w' _ _ _ h k => row_same k fun b hb => h b (own_of.1 hb)) fun w hw hav _ => ?_
  have hrow := hF1 w (hav j1 hj1a).1
  have hsrc := hF2 w (hav j2 hj2a).1
  obtain ⟨v', w', r1, r2, r3, -, r5⟩ := run_append_own_at (P := P) (w := w) base t o.type T i0 z size bytes ht hi hz hsize hby hzs hsz v n xs hrow ⟨b2, 0, none⟩ 1 1 news (by rw [hl]; omega)
    (fun j u hj => by
      have e : (⟨b2, 0, none⟩ : Addr).add j = ⟨b2, 0 + j, none⟩ := by
        unfold Addr.add
        split
        · rename_i h; subst h; rfl
        · rfl
      rw [e, Nat.zero_add]
      simp [World.cell?, hsrc, hj]) h1 hn hb (Nat.le_trans hbase hw.size)
  obtain ⟨p, c, rfl⟩ : ∃ p c, v' = .slice p (n + 1) c := by
    rcases r2.2 with ⟨rfl, h0⟩ | ⟨g, cap, cur, rfl, -⟩
    · exact absurd h0 (by omega)
    · exact ⟨_, _, rfl⟩
  refine ⟨w', { p := p, c := c }, trivial, .inl ?_, KeepBut.grown r3 fun b hb => ⟨j1, hj1e, hp1 b hb⟩, fun b hb => ⟨?_, (r2.lt b (own_of.2 hb)).2⟩, r2⟩
  · unfold execOp
    simp only [ho, resolve, invoke, builtin, Sem.run_bind, Sem.run_pure, Result.andThen_ok, List.map_toArray, List.map_cons, List.map_nil, hx, hy, r1, sRow]
  · have hb' := own_of (n := n + 1) (c := c).2 hb
    rcases r5 with r5 | r5
    · rw [r5] at hb'; exact .inr ⟨j1, hj1e, hp1 b hb'⟩
    · rw [r5] at hb'
      have : w.heap.size = b := Option.some.inj hb'
      exact .inl (by omega)

end Go.Proofs.YtoolpifkfgileaaDoor
