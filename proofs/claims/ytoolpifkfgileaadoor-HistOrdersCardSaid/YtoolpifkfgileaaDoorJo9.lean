/- Joined texts of this work: Hi4, Hi5, Hi6. -/
import Derived.Test.YtoolpifkfgileaaDoorJo8
import Derived.Deep.CutBlock
import Derived.Shelf.Spec.TrailingZeros
import Derived.Deep.CutRange
import Derived.Lib.SliceRun

/-
  Package hist: may.
-/
namespace Go.Proofs.YtoolpifkfgileaaDoor
open Go Go.RowKit Own

theorem blk8 {w : World} {B : Nat} {c : Cl} {T : TypeId} (h : w.heap[B]? = some (.cells c.vals.toArray T (0, 0))) :
    w.cell? ⟨B, 0, none⟩ = some (.int .i64 c.hart) ∧ w.cell? ⟨B, 1, none⟩ = some (.int .i64 c.cont) ∧ w.cell? ⟨B, 2, none⟩ = some (.int .i64 c.op) ∧ w.cell? ⟨B, 3, none⟩ = some (.int .i64 c.arg) ∧
    w.cell? ⟨B, 4, none⟩ = some (.int .i64 c.beg) ∧ w.cell? ⟨B, 5, none⟩ = some (.int .i64 c.till) ∧ w.cell? ⟨B, 6, none⟩ = some (.int .i64 c.value) ∧ w.cell? ⟨B, 7, none⟩ = some (.int .i64 c.code) := by
  simp [World.cell?, h, Cl.vals]

/-- where may is, between two rounds -/
structure MayAt (ks : List Int) (cs : List Cl) (pk pc : Option Addr) (ck cc B1 : Nat) (w wr : World) (m1 m2 : List (Int × Value)) (T : Int → Bool) (E : Int → Option Int) : Prop where
  map1 : MapI .i64 wr (B1 + 1) m1
  map2 : MapI .i64 wr (B1 + 2) m2
  times : Times m1 T
  lasts : Lasts m2 E
  box : wr.heap[B1]? = some (.cells #[.slice pk ks.length ck, .slice pc cs.length cc] 25 (0, 0))
  cap : wr.heap[B1 + 3]? = some (.cells #[.map (some (B1 + 1))] 42 (0, 0))
  keep : KeepBut (fun _ => False) w wr

theorem MapI.obj {q : IntKind} {w : World} {b : Nat} {l : List (Int × Value)} (h : MapI q w b l) : ∃ x, w.heap[b]? = some x ∧ ∀ w' : World, w'.heap[b]? = some x → MapI q w' b l := by
  obtain ⟨h1, es, c, h2, h3⟩ := h
  exact ⟨_, h2, fun w' h => ⟨h1, es, c, h, h3⟩⟩

def MayRel (ks : List Int) (cs : List Cl) (pk pc : Option Addr) (ck cc B1 : Nat) (w : World) (v19 : Value) (wr : World) : Prop :=
  ∃ (i : Nat) (m1 m2 : List (Int × Value)) (T : Int → Bool) (E : Int → Option Int), v19 = .int .i64 i ∧ i ≤ cs.length ∧ MayAt ks cs pk pc ck cc B1 w wr m1 m2 T E ∧ callsF ks (cs.drop i) T E = callsF ks cs (fun _ => false) (fun _ => none)

theorem keep_blk {E : Nat → Prop} {w w' : World} (h : KeepBut E w w') {b : Nat} {x : Obj} (hc : w.heap[b]? = some x) (hE : ¬ E b) : w'.heap[b]? = some x := by
  rw [h.block b (Array.getElem?_eq_some_iff.1 hc).1 hE]
  exact hc
theorem keep_cell {E : Nat → Prop} {w w' : World} (h : KeepBut E w w') {g o : Nat} {v : Value} (hc : w.cell? ⟨g, o, none⟩ = some v) (hE : ¬ E g) : w'.cell? ⟨g, o, none⟩ = some v := h.cell hc hE

set_option maxRecDepth 100000 in
set_option maxHeartbeats 64000000 in
theorem mayH_any (w : World) (pk pc : Option Addr) (ck cc : Nat) (ks : List Int) (cs : List Cl) (hr : Rd w pk (ints ks)) (hc : RowC w pc cs) (hkl : ks.length ≤ 1099511627776) (hcl : cs.length ≤ 1099511627776) :
    Calls Tryd.prog 30 #[histV pk pc ck cc ks cs] w fun e w' => e = .returned (.bool (mayH ks cs)) ∧ KeepBut (fun _ => False) w w' := by
  obtain ⟨V1, B1, hV1, hB1, hb1, hk1, hs1⟩ := fresh_block w (.cells #[.slice pk ks.length ck, .slice pc cs.length cc] 25)
  obtain ⟨b0, b1, -⟩ := blk2 hb1
  have HKB := Lib.hid (hasBad_any V1 pk ck ks (hr.stay hk1) hkl)
  have HR := Lib.hid hr; have HC := Lib.hid hc
  have HN := Lib.hid (show w.heap.size = B1 ∧ V1.heap.size = B1 + 1 by omega)
  unfold histV
  clear hr hc
  cases hkb : kindsB ks with
  | false =>
    rw [hkb] at HKB
    have HE := Lib.hid (show mayH ks cs = false by unfold mayH; rw [hkb]; rfl)
    have HK := Lib.hid hk1
    clear hkb hk1 hs1 hb1
    go_enter Tryd.func30, Tryd.ntmps30
    go_upto_region 1 with fail
    rw [← hV1, ← hB1]
    clear hV1 hB1
    go_wp2_with (go_at_call 49; refine HKB.out.mono ?_; rintro e w' ⟨rfl, hw⟩; have hw := hw.symm; subst hw)
    go_ret
    exact ⟨ret_bool HE.out.symm, HK.out⟩
  | true =>
    rw [hkb] at HKB
    have HE := Lib.hid (show mayH ks cs = callsF ks cs (fun _ => false) (fun _ => none) by unfold mayH; rw [hkb]; rfl)
    obtain ⟨V2, N1, hV2, hN1, hn1, hk2, hs2⟩ := fresh_block V1 (.map #[] 0)
    obtain ⟨V3, N2, hV3, hN2, hn2, hk3, hs3⟩ := fresh_block V2 (.map #[] 0)
    have hm1 : MapI .i64 V2 N1 [] := by rw [hV2, hN1]; exact MapI.made _ V1
    have hm2 : MapI .i64 V3 N2 [] := by rw [hV3, hN2]; exact MapI.made _ V2
    obtain ⟨V, Bx, hV, hBx, hbx, hk4, hs4⟩ := fresh_block V3 (.cells #[.map (some N1)] 42)
    obtain rfl : N1 = B1 + 1 := by omega
    obtain rfl : N2 = B1 + 2 := by omega
    obtain rfl : Bx = B1 + 3 := by omega
    have HAT := Lib.hid (show MayAt ks cs pk pc ck cc B1 w V [] [] (fun _ => false) (fun _ => none) from
      ⟨(hm1.stay hk3).stay hk4, hm2.stay hk4, fun t => rfl, fun t => rfl, hk4.blk (hk3.blk (hk2.blk hb1)), hbx, ((hk1.trans hk2).trans hk3).trans hk4⟩)
    have hmk1 : (Instr.makeMap 42 none).run Tryd.prog V1 = .ok (.map (some (B1 + 1))) V2 := by rw [hV2, hN1]; exact run_makeMap _ V1
    have hmk2 : (Instr.makeMap 42 none).run Tryd.prog V2 = .ok (.map (some (B1 + 2))) V3 := by rw [hV3, hN2]; exact run_makeMap _ V2
    obtain ⟨d0, d1, -⟩ := blk2 (hk4.blk (hk3.blk (hk2.blk hb1)))
    clear hV2 hV3 hN1 hN2 hkb hk1 hs1 hb1 hm1 hm2 hn1 hn2 hk2 hk3 hk4 hs2 hs3 hs4 hbx
    go_enter Tryd.func30, Tryd.ntmps30
    go_upto_region 1 with fail
    rw [← hV1, ← hB1]
    clear hV1 hB1
    go_upto_region 3 with (go_at_call 49; refine HKB.out.mono ?_; rintro e w' ⟨rfl, hw⟩; have hw := hw.symm; subst hw)
    go_upto_region 4 with fail
    rw [← hV, ← hBx]
    clear hV hBx hmk1 hmk2
    go_upto_block 0 with fail
    clear d0
    go_wp2_with fail
    clear d1
    go_loopw [19] (fun v19 wr => MayRel ks cs pk pc ck cc B1 w v19 wr) (fun v _ => cs.length - (intOf v).toNat)
    case atStart => exact ⟨0, [], [], _, _, rfl, Nat.zero_le _, HAT.out, rfl⟩
    case round =>
      obtain ⟨i, m1, m2, T, E, rfl, hi, hat, hrem⟩ := hrel
      by_cases hlt : i < cs.length
      · have hlti : (i : Int) < cs.length := by omega
        have hi0 : (0 : Int) ≤ i := by omega
        have hWi : IntKind.i64.wrap ((i : Int) + 1) = (i : Int) + 1 := IntWalk.i64_in _ (by omega)
        have hd : cs.drop i = nthC cs i :: cs.drop (i + 1) := by rw [List.drop_eq_getElem_cons hlt]; simp [nthC, List.getD, hlt]
        obtain ⟨⟨ha, co, op, ar, be, ti, va, cd⟩, hcl⟩ : ∃ c, nthC cs i = c := ⟨_, rfl⟩
        rw [hd, hcl] at hrem
        obtain ⟨g, o, hg, x0, x1, x2, x3, x4, x5, x6, x7⟩ := (HC.out.stay hat.keep) i hlt
        rw [hcl] at x0 x1 x2 x3 x4 x5 x6 x7
        dsimp only at x0 x1 x2 x3 x4 x5 x6 x7
        subst hg
        have hbad : ¬ (0 ≤ ha ∧ ha < 4 ∧ 0 ≤ co ∧ co < ks.length ∧ kindOf op = nth ks co.toNat ∧ 0 ≤ be) → mayH ks cs = false := fun h => by
          have h' : goodC ks ⟨ha, co, op, ar, be, ti, va, cd⟩ = false := decide_eq_false h
          rw [HE.out, ← hrem]; unfold callsF; rw [h']; rfl
        obtain ⟨V7, B7, hV7, hB7, hb7, hkV7, hsV7⟩ := fresh_block wr (.cells #[.int .i64 ha, .int .i64 co, .int .i64 op, .int .i64 ar, .int .i64 be, .int .i64 ti, .int .i64 va, .int .i64 cd] 33)
        have HAT2 := Lib.hid hat; have HREM := Lib.hid hrem
        have HKV := Lib.hid (hat.keep.trans hkV7)
        have HK7 := Lib.hid hkV7
        have HN7 := Lib.hid (show B7 = wr.heap.size ∧ B1 + 3 < B7 ∧ B7 < V7.heap.size by have h9 : B1 + 3 < wr.heap.size := World.block_lt_of_cell? wr _ (blk_cell (k := 0) hat.cap rfl); omega)
        have HB7 := Lib.hid hb7
        obtain ⟨d0, d1, -⟩ := blk2 (hkV7.blk hat.box)
        clear hat hrem hd hkV7 hsV7 hb7
        go_upto_region 8 with fail
        rw [← hV7, ← hB7]
        clear hV7 hB7 x0 x1 x2 x3 x4 x5 x6 x7
        obtain ⟨c0, c1, c2, c3, c4, c5, c6, c7⟩ := blk8 (c := ⟨ha, co, op, ar, be, ti, va, cd⟩) HB7.out
        dsimp only at c0 c1 c2 c3 c4 c5 c6 c7
        by_cases h1 : ha < 0
        · have q1 : decide (ha < 0) = true := decide_eq_true h1
          have HF := Lib.hid (hbad fun h => by omega)
          clear hbad
          go_quiet ((go_at_call 52; exact Calls.quiet_of_same (kind_any _ _)))
          go_wp2_with fail
          go_ret
          exact ⟨ret_bool HF.out.symm, HKV.out.trans (KeepBut.drewN _ _ _)⟩
        · have q1 : decide (ha < 0) = false := decide_eq_false h1
          by_cases h2 : 4 ≤ ha
          · have q2 : decide (4 ≤ ha) = true := decide_eq_true h2
            have HF := Lib.hid (hbad fun h => by omega)
            clear hbad
            go_quiet ((go_at_call 52; exact Calls.quiet_of_same (kind_any _ _)))
            go_wp2_with fail
            go_ret
            exact ⟨ret_bool HF.out.symm, HKV.out.trans (KeepBut.drewN _ _ _)⟩
          · have q2 : decide (4 ≤ ha) = false := decide_eq_false h2
            by_cases h3 : co < 0
            · have q3 : decide (co < 0) = true := decide_eq_true h3
              have HF := Lib.hid (hbad fun h => by omega)
              clear hbad
              go_quiet ((go_at_call 52; exact Calls.quiet_of_same (kind_any _ _)))
              go_wp2_with fail
              go_ret
              exact ⟨ret_bool HF.out.symm, HKV.out.trans (KeepBut.drewN _ _ _)⟩
            · have q3 : decide (co < 0) = false := decide_eq_false h3
              obtain ⟨n, rfl⟩ : ∃ n : Nat, co = n := ⟨co.toNat, by omega⟩
              by_cases h4 : ks.length ≤ n
              · have q4 : decide ((ks.length : Int) ≤ (n : Int)) = true := decide_eq_true (by omega)
                have HF := Lib.hid (hbad fun h => by omega)
                clear hbad
                go_quiet ((go_at_call 52; exact Calls.quiet_of_same (kind_any _ _)))
                go_wp2_with fail
                go_ret
                exact ⟨ret_bool HF.out.symm, HKV.out.trans (KeepBut.drewN _ _ _)⟩
              · have q4 : decide ((ks.length : Int) ≤ (n : Int)) = false := decide_eq_false (by omega)
                have hn : n < ks.length := by omega
                have hni : (n : Int) < ks.length := by omega
                have hn0 : (0 : Int) ≤ n := by omega
                obtain ⟨b, o', hp, hbl⟩ := HR.out.ptr (by rw [ints_length]; omega)
                subst hp
                have hkc := (HR.out.stay HKV.out).int n hn
                by_cases h5 : kindOf op = nth ks n
                · have q5 : (kindOf op != nth ks n) = false := by simp [h5]
                  by_cases h6 : be < 0
                  · have q6 : decide (be < 0) = true := decide_eq_true h6
                    have HF := Lib.hid (hbad fun h => by omega)
                    clear hbad
                    go_quiet ((go_at_call 52; exact Calls.quiet_of_same (kind_any _ _)))
                    go_wp2_with fail
                    go_ret
                    exact ⟨ret_bool HF.out.symm, HKV.out.trans (KeepBut.drewN _ _ _)⟩
                  · have q6 : decide (be < 0) = false := decide_eq_false h6
                    have hgood : goodC ks ⟨ha, n, op, ar, be, ti, va, cd⟩ = true := decide_eq_true (p := 0 ≤ ha ∧ ha < 4 ∧ (0 : Int) ≤ n ∧ (n : Int) < ks.length ∧ kindOf op = nth ks (n : Int).toNat ∧ 0 ≤ be) ⟨by omega, by omega, by omega, by omega, by simpa using h5, by omega⟩
                    have HG := Lib.hid hgood
                    obtain ⟨tb, htb⟩ : ∃ tb, T be = tb := ⟨_, rfl⟩
                    have HTB := Lib.hid htb
                    obtain ⟨xo, hxo, hxm⟩ := (HAT2.out.map1.stay HK7.out).obj
                    have HXM := Lib.hid hxm
                    have hne7 : ¬ B7 = B1 + 1 := by have := HN7.out; omega
                    have hneb : ¬ b = B1 + 1 := by have := HN.out; omega
                    have ST := fun (gg oo : Nat) (v : Value) (hc : V7.cell? ⟨gg, oo, none⟩ = some v) (hne : ¬ gg = B1 + 1) (w' : World) (hk : KeepBut (fun k => k = B1 + 1) V7.drew w') => keep_cell ((KeepBut.drew (fun k => k = B1 + 1) V7).trans hk) hc hne
                    have z0 := ST _ _ _ c0 hne7; have z1 := ST _ _ _ c1 hne7; have z2 := ST _ _ _ c2 hne7; have z4 := ST _ _ _ c4 hne7
                    have y0 := ST _ _ _ d0 (by omega); have yk := ST _ _ _ hkc hneb
                    have HCAP := Lib.hid (HK7.out.blk HAT2.out.cap)
                    clear ST c0 c1 c2 c3 c4 c5 c6 c7 d0 d1 hkc hbad htb hgood hxm
                    refine wp_own1 (by kernel_rfl) (B1 + 1) xo hxo (fun i => [[], [0], [0, 1], [0, 1, 2], [0, 1, 2, 3], [0, 1, 2, 3, 4], [0, 1, 2, 3, 4, 5], [0, 1, 2, 3, 4, 5, 6], [0, 1, 2, 3, 4, 5, 6, 7], [0, 1, 2, 3, 4, 5, 6, 7, 8], [0, 1, 2, 3, 4, 5, 6, 7, 8, 9], [0, 1, 2, 3, 4, 5, 6, 7, 8, 9, 10], [0, 1, 2, 3, 4, 5, 6, 7, 8, 9, 10, 11], [0, 1, 2, 3, 4, 5, 6, 7, 8, 9, 10, 11, 12], [0, 1, 2, 3, 4, 5, 6, 7, 8, 9, 10, 11, 12, 13], [0, 1, 2, 3, 4, 5, 6, 7, 8, 9, 10, 11, 12, 13, 14], [0, 1, 2, 3, 4, 5, 6, 7, 8, 9, 10, 11, 12, 13], [0, 1, 2, 3, 4, 5, 6, 7, 8, 9, 10, 11, 12, 13, 16], [0, 1, 2, 3, 4, 5, 6, 7, 8, 9, 10, 11, 12, 13, 16, 17], [0, 1, 2, 3, 4, 5, 6, 7, 8, 9, 10, 11, 12, 13, 14, 15, 16, 17, 18], [0, 1, 2, 3, 4, 5, 6, 7, 8, 9, 10, 11, 12, 13, 14, 15, 16, 17, 18, 19], [0, 1, 2, 3, 4, 5, 6, 7, 8, 9, 10, 11, 12, 13, 14, 15, 16, 17, 18, 19, 20], [0, 1, 2, 3, 4, 5, 6, 7, 8, 9, 10, 11, 12, 13, 14, 15, 16, 17, 18, 19, 20, 21], [0, 1, 2, 3, 4, 5, 6, 7, 8, 9, 10, 11, 12, 13, 14, 15, 16, 17, 18, 19, 20, 21, 22], [0, 1, 2, 3, 4, 5, 6, 7, 8, 9, 10, 11, 12, 13, 14, 15, 16, 17, 18, 19, 20, 21, 22, 23], [0, 1, 2, 3, 4, 5, 6, 7, 8, 9, 10, 11, 12, 13, 14, 15, 16, 17, 18, 19, 20, 21], [0, 1, 2, 3, 4, 5, 6, 7, 8, 9, 10, 11, 12, 13, 14, 15, 16, 17, 18, 19, 20, 21, 25], [0, 1, 2, 3, 4, 5, 6, 7, 8, 9, 10, 11, 12, 13, 14, 15, 16, 17, 18, 19, 20, 21], [0, 1, 2, 3, 4, 5, 6, 7, 8, 9, 10, 11, 12, 13, 14, 15, 16, 17, 18, 19, 20, 21, 27], [0, 1, 2, 3, 4, 5, 6, 7, 8, 9, 10, 11, 12, 13, 14, 15, 16, 17, 18, 19, 20, 21, 25, 26, 27, 28], [0, 1, 2, 3, 4, 5, 6, 7, 8, 9, 10, 11, 12, 13, 14, 15, 16, 17, 18, 19, 20, 21, 25, 26, 27, 28, 29], [0, 1, 2, 3, 4, 5, 6, 7, 8, 9, 10, 11, 12, 13, 14, 15, 16, 17, 18, 19, 20, 21, 22, 23, 24, 25, 26, 27, 28, 29, 30], [0, 1, 2, 3, 4, 5, 6, 7, 8, 9, 10, 11, 12, 13, 14, 15, 16, 17, 18, 19, 20, 21, 22, 23, 24, 25, 26, 27, 28, 29, 30, 31], [0, 1, 2, 3, 4, 5, 6, 7, 8, 9, 10, 11, 12, 13, 14, 15, 16, 17, 18, 19, 20, 21, 22, 23, 24, 25, 26, 27, 28, 29, 30, 31, 32], [0, 1, 2, 3, 4, 5, 6, 7, 8, 9, 10, 11, 12, 13, 14, 15, 16, 17, 18, 19, 20, 21, 22, 23, 24, 25, 26, 27, 28, 29, 30, 31, 32, 33], [0, 1, 2, 3, 4, 5, 6, 7, 8, 9, 10, 11, 12, 13, 14, 15, 16, 17, 18, 19, 20, 21, 22, 23, 24, 25, 26, 27, 28, 29, 30, 31, 32, 33, 34], [0, 1, 2, 3, 4, 5, 6, 7, 8, 9, 10, 11, 12, 13, 14, 15, 16, 17, 18, 19, 20, 21, 22, 23, 24, 25, 26, 27, 28, 29, 30, 31, 32, 33, 34, 35], [0, 1, 2, 3, 4, 5, 6, 7, 8, 9, 10, 11, 12, 13, 14, 15, 16, 17, 18, 19, 20, 21, 22, 23, 24, 25, 26, 27, 28, 29, 30, 31, 32, 33, 34, 35, 36], [0, 1, 2, 3, 4, 5, 6, 7, 8, 9, 10, 11, 12, 13, 14, 15, 16, 17, 18, 19, 20, 21, 22, 23, 24, 25, 26, 27, 28, 29, 30, 31, 32, 33, 34, 35, 36, 37], [0, 1, 2, 3, 4, 5, 6, 7, 8, 9, 10, 11, 12, 13, 14, 15, 16, 17, 18, 19, 20, 21, 22, 23, 24, 25, 26, 27, 28, 29, 30, 31, 32, 33, 34, 35, 36, 37, 38], [0, 1, 2, 3, 4, 5, 6, 7, 8, 9, 10, 11, 12, 13, 14, 15, 16, 17, 18, 19, 20, 21, 22, 23, 24, 25, 26, 27, 28, 29, 30, 31, 32, 33, 34, 35, 36, 37, 38], [0, 1, 2, 3, 4, 5, 6, 7, 8, 9, 10, 11, 12, 13, 14, 15, 16, 17, 18, 19, 20, 21, 22, 23, 24, 25, 26, 27, 28, 29, 30, 31, 32, 33, 34, 35, 36, 37, 38, 40], [0, 1, 2, 3, 4, 5, 6, 7, 8, 9, 10, 11, 12, 13, 14, 15, 16, 17, 18, 19, 20, 21, 22, 23, 24, 25, 26, 27, 28, 29, 30, 31, 32, 33, 34, 35, 36, 37, 38, 39, 40, 41], [0, 1, 2, 3, 4, 5, 6, 7, 8, 9, 10, 11, 12, 13, 14, 15, 16, 17, 18, 19, 20, 21, 22, 23, 24, 25, 26, 27, 28, 29, 30, 31, 32, 33, 34, 35, 36, 37, 38, 39, 40, 41, 42], [0, 1, 2, 3, 4, 5, 6, 7, 8, 9, 10, 11, 12, 13, 14, 15, 16, 17, 18, 19, 20, 21, 22, 23, 24, 25, 26, 27, 28, 29, 30, 31, 32, 33, 34, 35, 36, 37, 38, 39, 40, 41, 42, 43]].getD i []) (fun i => if i = 42 then [45] else []) (fun i => if i = 42 then [45] else []) [42] (by kernel_rfl)
                      (fun i => if i = 24 then some (sConst (.int .i64 (kindOf op))) else if i = 42 then some { val := fun _ _ => .bool (!tb), fp := fun _ _ k => k = B1 + 1, post := fun _ _ w => MapI .i64 w (B1 + 1) (mset m1 be (.int .i64 1)) } else none) ?_
                    apply lex_quiet rfl rfl
                    · intro w' hk; go_simp; with_reducible rfl
                    simp only [Act.put, List.setIfInBounds_toArray, List.set_cons_zero, List.set_cons_succ]
                    apply lex_quiet rfl rfl
                    · intro w' hk; go_simp; with_reducible rfl
                    simp only [Act.put, List.setIfInBounds_toArray, List.set_cons_zero, List.set_cons_succ]
                    apply lex_quiet rfl rfl
                    · intro w' hk; go_simp; with_reducible rfl
                    simp only [Act.put, List.setIfInBounds_toArray, List.set_cons_zero, List.set_cons_succ]
                    apply lex_quiet rfl rfl
                    · intro w' hk; go_simp; with_reducible rfl
                    simp only [Act.put, List.setIfInBounds_toArray, List.set_cons_zero, List.set_cons_succ]
                    apply lex_quiet rfl rfl
                    · intro w' hk; go_simp; with_reducible rfl
                    simp only [Act.put, List.setIfInBounds_toArray, List.set_cons_zero, List.set_cons_succ]
                    apply lex_quiet rfl rfl
                    · intro w' hk; go_simp; with_reducible rfl
                    simp only [Act.put, List.setIfInBounds_toArray, List.set_cons_zero, List.set_cons_succ]
                    apply lex_quiet rfl rfl
                    · intro w' hk; go_simp; with_reducible rfl
                    simp only [Act.put, List.setIfInBounds_toArray, List.set_cons_zero, List.set_cons_succ]
                    apply lex_quiet rfl rfl
                    · intro w' hk; go_simp; with_reducible rfl
                    simp only [Act.put, List.setIfInBounds_toArray, List.set_cons_zero, List.set_cons_succ]
                    apply lex_quiet rfl rfl
                    · intro w' hk; go_simp; with_reducible rfl
                    simp only [Act.put, List.setIfInBounds_toArray, List.set_cons_zero, List.set_cons_succ]
                    apply lex_quiet rfl rfl
                    · intro w' hk; go_simp; with_reducible rfl
                    simp only [Act.put, List.setIfInBounds_toArray, List.set_cons_zero, List.set_cons_succ]
                    apply lex_quiet rfl rfl
                    · intro w' hk; go_simp; with_reducible rfl
                    simp only [Act.put, List.setIfInBounds_toArray, List.set_cons_zero, List.set_cons_succ]
                    apply lex_quiet rfl rfl
                    · intro w' hk; go_simp; with_reducible rfl
                    simp only [Act.put, List.setIfInBounds_toArray, List.set_cons_zero, List.set_cons_succ]
                    apply lex_quiet rfl rfl
                    · intro w' hk; go_simp; with_reducible rfl
                    simp only [Act.put, List.setIfInBounds_toArray, List.set_cons_zero, List.set_cons_succ]
                    apply lex_quiet rfl rfl
                    · intro w' hk; go_simp; with_reducible rfl
                    simp only [Act.put, List.setIfInBounds_toArray, List.set_cons_zero, List.set_cons_succ]
                    apply lex_quiet rfl rfl
                    · intro w' hk; go_simp; with_reducible rfl
                    simp only [Act.put, List.setIfInBounds_toArray, List.set_cons_zero, List.set_cons_succ]
                    apply lex_quiet rfl rfl
                    · intro w' hk; go_simp; with_reducible rfl
                    simp only [Act.put, List.setIfInBounds_toArray, List.set_cons_zero, List.set_cons_succ]
                    apply lex_quiet rfl rfl
                    · intro w' hk; go_simp; with_reducible rfl
                    simp only [Act.put, List.setIfInBounds_toArray, List.set_cons_zero, List.set_cons_succ]
                    apply lex_quiet rfl rfl
                    · intro w' hk; go_simp; with_reducible rfl
                    simp only [Act.put, List.setIfInBounds_toArray, List.set_cons_zero, List.set_cons_succ]
                    apply lex_quiet rfl rfl
                    · intro w' hk; go_simp; with_reducible rfl
                    simp only [Act.put, List.setIfInBounds_toArray, List.set_cons_zero, List.set_cons_succ]
                    apply lex_quiet rfl rfl
                    · intro w' hk; go_simp; with_reducible rfl
                    simp only [Act.put, List.setIfInBounds_toArray, List.set_cons_zero, List.set_cons_succ]
                    apply lex_quiet rfl rfl
                    · intro w' hk; go_simp; with_reducible rfl
                    simp only [Act.put, List.setIfInBounds_toArray, List.set_cons_zero, List.set_cons_succ]
                    apply lex_quiet rfl rfl
                    · intro w' hk; go_simp; with_reducible rfl
                    simp only [Act.put, List.setIfInBounds_toArray, List.set_cons_zero, List.set_cons_succ]
                    apply lex_quiet rfl rfl
                    · intro w' hk; go_simp; with_reducible rfl
                    simp only [Act.put, List.setIfInBounds_toArray, List.set_cons_zero, List.set_cons_succ]
                    apply lex_quiet rfl rfl
                    · intro w' hk; go_simp; with_reducible rfl
                    simp only [Act.put, List.setIfInBounds_toArray, List.set_cons_zero, List.set_cons_succ]
                    refine lex_loud rfl rfl (loud_call 52 #[.int .i64 op] (fun w => by kernel_rfl) ⟨default, trivial⟩ (fun g _ => stable_true _) fun w' _ _ _ => (kind_any op w').mono ?_) fun _ _ => ?_
                    · rintro e w'' ⟨rfl, rfl⟩
                      exact ⟨default, trivial, rfl, KeepBut.refl _ _, fun b h => h.elim, trivial⟩
                    simp only [sConst, Act.put, List.setIfInBounds_toArray, List.set_cons_zero, List.set_cons_succ]
                    apply lex_quiet rfl rfl
                    · intro w' hk; go_simp; with_reducible rfl
                    simp only [Act.put, List.setIfInBounds_toArray, List.set_cons_zero, List.set_cons_succ]
                    apply lex_quiet rfl rfl
                    · intro w' hk; go_simp; with_reducible rfl
                    simp only [Act.put, List.setIfInBounds_toArray, List.set_cons_zero, List.set_cons_succ]
                    apply lex_quiet rfl rfl
                    · intro w' hk; go_simp; with_reducible rfl
                    simp only [Act.put, List.setIfInBounds_toArray, List.set_cons_zero, List.set_cons_succ]
                    apply lex_quiet rfl rfl
                    · intro w' hk; go_simp; with_reducible rfl
                    simp only [Act.put, List.setIfInBounds_toArray, List.set_cons_zero, List.set_cons_succ]
                    apply lex_quiet rfl rfl
                    · intro w' hk; go_simp; with_reducible rfl
                    simp only [Act.put, List.setIfInBounds_toArray, List.set_cons_zero, List.set_cons_succ]
                    apply lex_quiet rfl rfl
                    · intro w' hk; go_simp; with_reducible rfl
                    simp only [Act.put, List.setIfInBounds_toArray, List.set_cons_zero, List.set_cons_succ]
                    apply lex_quiet rfl rfl
                    · intro w' hk; go_simp; with_reducible rfl
                    simp only [Act.put, List.setIfInBounds_toArray, List.set_cons_zero, List.set_cons_succ]
                    apply lex_quiet rfl rfl
                    · intro w' hk; go_simp; with_reducible rfl
                    simp only [Act.put, List.setIfInBounds_toArray, List.set_cons_zero, List.set_cons_succ]
                    apply lex_quiet rfl rfl
                    · intro w' hk; go_simp; with_reducible rfl
                    simp only [Act.put, List.setIfInBounds_toArray, List.set_cons_zero, List.set_cons_succ]
                    apply lex_quiet rfl rfl
                    · intro w' hk; go_simp; with_reducible rfl
                    simp only [Act.put, List.setIfInBounds_toArray, List.set_cons_zero, List.set_cons_succ]
                    apply lex_quiet rfl rfl
                    · intro w' hk; go_simp; with_reducible rfl
                    simp only [Act.put, List.setIfInBounds_toArray, List.set_cons_zero, List.set_cons_succ]
                    apply lex_quiet rfl rfl
                    · intro w' hk; go_simp; with_reducible rfl
                    simp only [Act.put, List.setIfInBounds_toArray, List.set_cons_zero, List.set_cons_succ]
                    apply lex_quiet rfl rfl
                    · intro w' hk; go_simp; with_reducible rfl
                    simp only [Act.put, List.setIfInBounds_toArray, List.set_cons_zero, List.set_cons_succ]
                    apply lex_quiet rfl rfl
                    · intro w' hk; go_simp; with_reducible rfl
                    simp only [Act.put, List.setIfInBounds_toArray, List.set_cons_zero, List.set_cons_succ]
                    apply lex_quiet rfl rfl
                    · intro w' hk; go_simp; with_reducible rfl
                    simp only [Act.put, List.setIfInBounds_toArray, List.set_cons_zero, List.set_cons_succ]
                    apply lex_quiet rfl rfl
                    · intro w' hk; go_simp; with_reducible rfl
                    simp only [Act.put, List.setIfInBounds_toArray, List.set_cons_zero, List.set_cons_succ]
                    apply lex_quiet rfl rfl
                    · intro w' hk; go_simp; with_reducible rfl
                    simp only [Act.put, List.setIfInBounds_toArray, List.set_cons_zero, List.set_cons_succ]
                    refine lex_loud rfl rfl (loud_call 51 #[.int .i64 be, .pointer (some ⟨B1 + 3, 0, none⟩)] (fun w => by kernel_rfl) ⟨default, trivial⟩ (fun g _ => stable_map (B1 + 1) _) fun w' hk hav _ => (take_any w' (B1 + 3) (B1 + 1) m1 T (keep_blk ((KeepBut.drew (fun k => k = B1 + 1) V7).trans hk) HCAP.out (by omega)) (HXM.out w' (hav 45 (by decide)).1) HAT2.out.times be).mono ?_) fun _ _ => ?_
                    · rintro e w'' ⟨rfl, hm, hq⟩
                      rw [HTB.out]
                      exact ⟨default, trivial, rfl, hq.mono fun k e => ⟨45, by decide, rfl, e⟩, fun k e => ⟨.inr ⟨45, by decide, rfl, e⟩, by rw [show k = B1 + 1 from e]; exact hm.lt⟩, hm⟩
                    simp only [Act.put, List.setIfInBounds_toArray, List.set_cons_zero, List.set_cons_succ]
                    apply lex_quiet rfl rfl
                    · intro w' hk; go_simp; with_reducible rfl
                    simp only [Act.put, List.setIfInBounds_toArray, List.set_cons_zero, List.set_cons_succ]
                    apply lex_quiet rfl rfl
                    · intro w' hk; go_simp; with_reducible rfl
                    simp only [Act.put, List.setIfInBounds_toArray, List.set_cons_zero, List.set_cons_succ]
                    refine lex_nil ?_
                    intro w9 hk9 hF _
                    have HM9 := Lib.hid (show MapI .i64 w9 (B1 + 1) (mset m1 be (.int .i64 1)) from (hF 42 (by decide)).1)
                    have HK9 := Lib.hid (show KeepBut (fun k => k = B1 + 1) V7 w9 from (KeepBut.drew _ V7).trans hk9)
                    clear z0 z1 z2 z4 y0 yk hk9 hF hxo h5 q5 q6 q1 q2 q3 q4
                    have hB7 := keep_blk HK9.out HB7.out hne7
                    obtain ⟨c0, c1, c2, c3, c4, c5, c6, c7⟩ := blk8 (c := ⟨ha, n, op, ar, be, ti, va, cd⟩) hB7
                    dsimp only at c0 c1 c2 c3 c4 c5 c6 c7
                    have HB9 := Lib.hid hB7
                    clear hB7
                    cases tb with
                    | true =>
                      have HF := Lib.hid (show mayH ks cs = false by
                        rw [HE.out, ← HREM.out]; unfold callsF; rw [HG.out]
                        dsimp only
                        rw [HTB.out]; rfl)
                      go_wp2_with fail
                      go_ret
                      exact ⟨ret_bool HF.out.symm, HKV.out.new HK9.out fun k e => by have h9 : k = B1 + 1 := e; have := HN.out; omega⟩
                    | false =>
                      have HM2 := Lib.hid ((HAT2.out.map2.stay HK7.out).keep HK9.out (fun e => by omega))
                      obtain ⟨ev, es, hev, hlo⟩ : ∃ (ev : Int) (es : Bool), ((mget m2 ha).getD (.int .i64 0) = .int .i64 ev ∧ (mget m2 ha).isSome = es) ∧ lastOk (E ha) be = !(es && (ev == -1 || decide (be ≤ ev))) := by
                        rw [HAT2.out.lasts ha]
                        cases E ha with
                        | none => exact ⟨0, false, ⟨rfl, rfl⟩, rfl⟩
                        | some x =>
                          refine ⟨x, true, ⟨rfl, rfl⟩, ?_⟩
                          unfold lastOk
                          by_cases e1 : x = -1
                          · simp [e1]
                          · by_cases e2 : x < be
                            · simp [e1, e2]
                            · simp [e1, e2]; omega
                      have hlk := HM2.out.look2 (P := Tryd.prog) (mt := 42) (kt := 3) (e := 3) Tryd.underlying42 Tryd.underlying3 ha (.int .i64 0) (by kernel_rfl)
                      rw [hev.1, hev.2] at hlk
                      obtain ⟨lo, hlo2⟩ : ∃ lo, lastOk (E ha) be = lo := ⟨_, rfl⟩
                      have HLO := Lib.hid hlo2
                      rw [hlo2] at hlo
                      clear hev hlo2
                      go_upto_region 11 with fail
                      clear hlk
                      go_cut [85] from 75 to 85 (fun v85 wx => v85 = .bool (!lo) ∧ wx = w9)
                      case first =>
                        cases es with
                        | false =>
                          have hl : lo = true := by rw [hlo]; rfl
                          clear hlo
                          go_wp2_with fail
                          go_meet
                          case rel => exact ⟨by rw [hl]; rfl, by trivial⟩
                        | true =>
                          cases e1 : (ev == -1) with
                          | true =>
                            have hl : lo = false := by rw [hlo, e1]; rfl
                            clear hlo
                            go_wp2_with fail
                            go_meet
                            case rel => exact ⟨by rw [hl]; rfl, by trivial⟩
                          | false =>
                            by_cases e2 : be ≤ ev
                            · have hl : lo = false := by rw [hlo, e1]; simp [e2]
                              clear hlo
                              go_wp2_with fail
                              go_meet
                              case rel => exact ⟨by rw [hl]; rfl, by trivial⟩
                            · have hl : lo = true := by rw [hlo, e1]; simp [e2]
                              clear hlo
                              go_wp2_with fail
                              go_meet
                              case rel => exact ⟨by rw [hl]; rfl, by trivial⟩
                      case rest =>
                        obtain ⟨rfl, hww⟩ := hcut
                        have hww := hww.symm
                        subst hww
                        clear hlo
                        cases lo with
                        | false =>
                          have HF := Lib.hid (show mayH ks cs = false by
                            rw [HE.out, ← HREM.out]; unfold callsF; rw [HG.out]
                            dsimp only
                            rw [HTB.out, HLO.out]; rfl)
                          go_wp2_with fail
                          go_ret
                          exact ⟨ret_bool HF.out.symm, HKV.out.new HK9.out fun k e => by have h9 : k = B1 + 1 := e; have := HN.out; omega⟩
                        | true =>
                          go_upto_region 13 with fail
                          go_upto_region 14 with (refine wpList_put_map _ _ _ 42 3 3 ha rfl (.inr rfl) rfl rfl Tryd.underlying42 Tryd.underlying3 HM2.out ?_; intro w10 hm10 hk10; have HM10 := Lib.hid (show MapI .i64 w10 (B1 + 2) (mset m2 ha (.int .i64 ti)) from hm10); have HK10 := Lib.hid hk10; clear hm10 hk10)
                          have hKK := (HKV.out.new HK9.out fun k e => by have h9 : k = B1 + 1 := e; have := HN.out; omega).new HK10.out fun k e => by have h9 : k = B1 + 2 := e; have := HN.out; omega
                          have HKK := Lib.hid hKK
                          have hne2 : ¬ B7 = B1 + 2 := by have := HN7.out; omega
                          have hB10 := keep_blk HK10.out HB9.out hne2
                          clear c0 c1 c2 c3 c4 c5 c6 c7
                          obtain ⟨c0, c1, c2, c3, c4, c5, c6, c7⟩ := blk8 (c := ⟨ha, n, op, ar, be, ti, va, cd⟩) hB10
                          dsimp only at c0 c1 c2 c3 c4 c5 c6 c7
                          have HM1 := Lib.hid (HM9.out.keep HK10.out (fun e => by omega))
                          have HBX := Lib.hid (keep_blk HK10.out (keep_blk HK9.out (HK7.out.blk HAT2.out.box) (fun e => by omega)) (fun e => by omega))
                          have HCX := Lib.hid (keep_blk HK10.out (keep_blk HK9.out HCAP.out (fun e => by omega)) (fun e => by omega))
                          have HTS := Lib.hid (HAT2.out.times.set HAT2.out.map1.nodup be)
                          have HLS := Lib.hid (HAT2.out.lasts.set HAT2.out.map2.nodup ha ti)
                          have HRM := Lib.hid (show (if ti = -1 then decide (va = 0 ∧ cd = 0) && callsF ks (cs.drop (i + 1)) (updT T be) (updE E ha ti)
                              else decide (be < ti) && (!updT T be ti && callsF ks (cs.drop (i + 1)) (updT (updT T be) ti) (updE E ha ti))) = mayH ks cs by
                            rw [HE.out, ← HREM.out]
                            conv => rhs; unfold callsF
                            rw [HG.out]
                            dsimp only
                            rw [HTB.out, HLO.out]; rfl)
                          clear hB10 hKK
                          by_cases e1 : ti = -1
                          · have e1b : (ti == -1) = true := by simp [e1]
                            have hrm := HRM.out
                            rw [if_pos e1] at hrm
                            by_cases e2 : va = 0
                            · have e2b : (va != 0) = false := by simp [e2]
                              by_cases e3 : cd = 0
                              · have e3b : (cd != 0) = false := by simp [e3]
                                have HRN := Lib.hid (show callsF ks (cs.drop (i + 1)) (updT T be) (updE E ha ti) = callsF ks cs (fun _ => false) (fun _ => none) by
                                  rw [← HE.out, ← hrm]; simp [e2, e3])
                                clear e1 e2 e3 hrm
                                go_wp2_with fail
                                exact ⟨⟨i + 1, _, _, _, _, by simp, by omega, ⟨HM1.out, HM10.out, HTS.out, HLS.out, HBX.out, HCX.out, HKK.out⟩, HRN.out⟩, by simp only [intOf]; omega⟩
                              · have e3b : (cd != 0) = true := by simp [e3]
                                have HF := Lib.hid (show mayH ks cs = false by rw [← hrm]; simp [e3])
                                clear e1 e2 e3 hrm
                                go_wp2_with fail
                                go_ret
                                exact ⟨ret_bool HF.out.symm, HKK.out⟩
                            · have e2b : (va != 0) = true := by simp [e2]
                              have HF := Lib.hid (show mayH ks cs = false by rw [← hrm]; simp [e2])
                              clear e1 e2 hrm
                              go_wp2_with fail
                              go_ret
                              exact ⟨ret_bool HF.out.symm, HKK.out⟩
                          · have e1b : (ti == -1) = false := by simp [e1]
                            have hrm := HRM.out
                            rw [if_neg e1] at hrm
                            by_cases e2 : ti ≤ be
                            · have e2b : decide (ti ≤ be) = true := decide_eq_true e2
                              have HF := Lib.hid (show mayH ks cs = false by rw [← hrm, decide_eq_false (show ¬ be < ti by omega)]; rfl)
                              clear e1 hrm
                              go_wp2_with fail
                              go_ret
                              exact ⟨ret_bool HF.out.symm, HKK.out⟩
                            · have e2b : decide (ti ≤ be) = false := decide_eq_false e2
                              have htk := take_any w10 (B1 + 3) (B1 + 1) _ _ HCX.out HM1.out HTS.out ti
                              have HTK := Lib.hid htk
                              rw [decide_eq_true (show be < ti by omega)] at hrm
                              cases hu : updT T be ti with
                              | true =>
                                have HF := Lib.hid (show mayH ks cs = false by rw [← hrm, hu]; rfl)
                                have HU := Lib.hid hu
                                clear e1 hrm hu htk
                                go_wp2_with (go_at_call 51; refine HTK.out.mono ?_; rintro e w11 ⟨rfl, hm11, hk11⟩; rw [HU.out]; have HK11 := Lib.hid hk11; clear hm11 hk11)
                                go_ret
                                exact ⟨ret_bool HF.out.symm, HKK.out.new HK11.out fun k e => by have h9 : k = B1 + 1 := e; have := HN.out; omega⟩
                              | false =>
                                have HRN := Lib.hid (show callsF ks (cs.drop (i + 1)) (updT (updT T be) ti) (updE E ha ti) = callsF ks cs (fun _ => false) (fun _ => none) by
                                  rw [← HE.out, ← hrm, hu]; rfl)
                                have HU := Lib.hid hu
                                clear e1 hrm hu htk
                                go_wp2_with (go_at_call 51; refine HTK.out.mono ?_; rintro e w11 ⟨rfl, hm11, hk11⟩; rw [HU.out]; have HM11 := Lib.hid hm11; have HK11 := Lib.hid hk11; clear hm11 hk11)
                                exact ⟨⟨i + 1, _, _, _, _, by simp, by omega, ⟨HM11.out, HM10.out.keep HK11.out (fun e => by omega), HTS.out.set HM1.out.nodup ti, HLS.out, keep_blk HK11.out HBX.out (fun e => by omega), keep_blk HK11.out HCX.out (fun e => by omega), HKK.out.new HK11.out fun k e => by have h9 : k = B1 + 1 := e; have := HN.out; omega⟩, HRN.out⟩, by simp only [intOf]; omega⟩
                · have q5 : (kindOf op != nth ks n) = true := by simp [h5]
                  have HF := Lib.hid (hbad fun h => h5 (by have := h.2.2.2.2.1; simpa using this))
                  clear hbad
                  go_quiet ((go_at_call 52; exact Calls.quiet_of_same (kind_any _ _)))
                  go_wp2_with fail
                  go_ret
                  exact ⟨ret_bool HF.out.symm, HKV.out.trans (KeepBut.drewN _ _ _)⟩
      · have hnl : ¬ (i : Int) < cs.length := by omega
        have hend : callsF ks (cs.drop i) T E = true := by rw [List.drop_eq_nil_of_le (by omega)]; rfl
        have HF := Lib.hid (show mayH ks cs = true by rw [HE.out, ← hrem, hend])
        have HK := Lib.hid hat.keep
        clear hat hrem hend
        go_wp2_with fail
        go_ret
        exact ⟨ret_bool HF.out.symm, HK.out⟩

end Go.Proofs.YtoolpifkfgileaaDoor

/-
  Package hist: Check; LightHist; bits of uint32.
-/
namespace Go.Proofs.YtoolpifkfgileaaDoor
open Go Go.RowKit Own

def chkH (ks : List Int) (cs : List Cl) : Int := if mayH ks cs = true then (if 24 < cs.length then 3 else 0) else 2
theorem chkH_zero {ks : List Int} {cs : List Cl} (h : chkH ks cs = 0) : mayH ks cs = true ∧ cs.length ≤ 24 := by
  unfold chkH at h
  split at h
  · split at h
    · cases h
    · exact ⟨by assumption, by omega⟩
  · cases h

set_option maxHeartbeats 4000000 in
theorem chkH_any (w : World) (pk pc : Option Addr) (ck cc : Nat) (ks : List Int) (cs : List Cl) (hr : Rd w pk (ints ks)) (hc : RowC w pc cs) (hkl : ks.length ≤ 1099511627776) (hcl : cs.length ≤ 1099511627776) :
    Calls Tryd.prog 11 #[histV pk pc ck cc ks cs] w fun e w' => e = .returned (.int .i64 (chkH ks cs)) ∧ KeepBut (fun _ => False) w w' := by
  obtain ⟨V, B, hV, hB, hb, hkV, -⟩ := fresh_block w (.cells #[.slice pk ks.length ck, .slice pc cs.length cc] 25)
  obtain ⟨b0, b1, -⟩ := blk2 hb
  have HM := Lib.hid (mayH_any V pk pc ck cc ks cs (hr.stay hkV) (hc.stay hkV) hkl hcl)
  have HK := Lib.hid hkV; have HB := Lib.hid hb
  obtain ⟨m, hm⟩ : ∃ m, mayH ks cs = m := ⟨_, rfl⟩
  have HE := Lib.hid (show chkH ks cs = if m = true then (if 24 < cs.length then 3 else 0) else 2 by unfold chkH; rw [hm])
  rw [hm] at HM
  unfold histV at HM ⊢
  clear hr hc hb hkV hm
  go_enter Tryd.func11, Tryd.ntmps11
  go_upto_block 0 with fail
  rw [← hV, ← hB]
  clear hV hB
  cases m with
  | false =>
    go_wp2_with (go_at_call 30; refine HM.out.mono ?_; rintro e w2 ⟨rfl, hk⟩; have HK2 := Lib.hid hk; clear hk)
    go_ret
    exact ⟨ret_int (by rw [HE.out]; rfl), HK.out.trans HK2.out⟩
  | true =>
    by_cases h : 24 < cs.length
    · have hi : (24 : Int) < cs.length := by omega
      have HH := Lib.hid h
      go_wp2_with (go_at_call 30; refine HM.out.mono ?_; rintro e w2 ⟨rfl, hk⟩; obtain ⟨e0, e1, -⟩ := blk2 (hk.blk HB.out); have HK2 := Lib.hid hk; clear hk)
      go_ret
      exact ⟨ret_int (by rw [HE.out, if_pos trivial, if_pos HH.out]), HK.out.trans HK2.out⟩
    · have hi : ¬ (24 : Int) < cs.length := by omega
      have HH := Lib.hid h
      go_wp2_with (go_at_call 30; refine HM.out.mono ?_; rintro e w2 ⟨rfl, hk⟩; obtain ⟨e0, e1, -⟩ := blk2 (hk.blk HB.out); have HK2 := Lib.hid hk; clear hk)
      go_ret
      exact ⟨ret_int (by rw [HE.out, if_pos trivial, if_neg HH.out]), HK.out.trans HK2.out⟩

/-! bits -/
theorem wrap32 {x : Nat} (h : x < 4294967296) : IntKind.u32.wrap (x : Int) = x := by rw [wrap_u32']; omega

set_option maxHeartbeats 1000000 in
theorem tz_core (x k idx : Nat) (w : World) (hx0 : ((x : Int) == 0) = false)
    (key : bits BinOp.and IntKind.u32 (x : Int) (-(x : Int) % 4294967296) * 125613361 % 4294967296 / 134217728 = (idx : Int))
    (hi : idx < 32) (hk : k < 32) (hcell : w.cell? ⟨0, idx, none⟩ = some (.int .u8 k)) :
    Calls Tryd.prog 55 #[.int .u32 x] w fun e w' => e = .returned (.int .i64 k) ∧ w' = w := by
  go_enter Tryd.func55, Tryd.ntmps55
  go_wp2_with (simp only [key])
  go_ret
  exact ⟨rfl, rfl⟩

def BitTab (w : World) : Prop := TabAt 0 Lib.deBruijn32tab w

theorem tz_any (x : Nat) (hx : x < 4294967296) (h0 : x ≠ 0) (w : World) (hT : BitTab w) :
    Calls Tryd.prog 55 #[.int .u32 x] w fun e w' => e = .returned (.int .i64 (Lib.ctz 32 x : Nat)) ∧ w' = w := by
  obtain ⟨hlow, hk⟩ := Lib.lowest_bit 32 x h0 hx
  obtain ⟨hi, htab⟩ := Lib.deBruijn32_at _ hk
  have hcell := hT _ hi
  rw [htab] at hcell
  exact tz_core x _ _ w (by simp; omega) (tz32_key x _ hx h0 hlow) hi hk hcell

theorem Own.KeepBut.bitTab {w w' : World} (h : KeepBut (fun _ => False) w w') (t : BitTab w) : BitTab w' := fun j hj => h.stay (t j hj)

/-- the lowest bit, and what is left without it -/
theorem low_bit {x : Nat} (h0 : x ≠ 0) (hx : x < 4294967296) : x.testBit (Lib.ctz 32 x) = true ∧ (∀ j, (x &&& (x - 1)).testBit j = (x.testBit j && !decide (j = Lib.ctz 32 x))) ∧ (x &&& (x - 1)) < x := by
  obtain ⟨m, hm, hk⟩ := Lib.ctzFrom_spec 32 x (by omega) hx
  have e : Lib.ctz 32 x = Lib.ctzFrom 32 x := by simp [Lib.ctz, h0]
  rw [e]
  obtain ⟨k, hk'⟩ : ∃ k, Lib.ctzFrom 32 x = k := ⟨_, rfl⟩
  rw [hk'] at hm ⊢
  have hp : 0 < 2 ^ k := Nat.two_pow_pos k
  have h1 : x = 2 ^ (k + 1) * m + 2 ^ k := by rw [hm, Nat.mul_add, Nat.mul_one, ← Nat.mul_assoc, ← Nat.pow_succ]
  have h2 : x - 1 = 2 ^ (k + 1) * m + (2 ^ k - 1) := by omega
  have hlt : 2 ^ k < 2 ^ (k + 1) := by rw [Nat.pow_succ]; omega
  have b1 : ∀ j, x.testBit j = if j < k + 1 then decide (k = j) else m.testBit (j - (k + 1)) := fun j => by
    rw [h1, Nat.testBit_two_pow_mul_add m hlt, Nat.testBit_two_pow]
  have b2 : ∀ j, (x - 1).testBit j = if j < k + 1 then decide (j < k) else m.testBit (j - (k + 1)) := fun j => by
    rw [h2, Nat.testBit_two_pow_mul_add m (by omega), Nat.testBit_two_pow_sub_one]
  refine ⟨by rw [b1]; simp, fun j => ?_, ?_⟩
  · rw [Nat.testBit_and, b1, b2]
    by_cases hj : j < k + 1
    · simp only [hj, if_true]
      by_cases h3 : k = j
      · subst h3; simp
      · simp [h3]
    · simp only [hj, if_false]
      have : j ≠ k := by omega
      simp [this]
  · have : (x &&& (x - 1)) ≤ x - 1 := Nat.and_le_right
    omega

theorem bits_or (a b : Nat) (ha : a < 4294967296) (hb : b < 4294967296) : bits .or .u32 (a : Int) (b : Int) = ((a ||| b : Nat) : Int) := by
  have hx : a ||| b < 2 ^ 32 := Nat.or_lt_two_pow (by omega) (by omega)
  have h1 : (BitVec.ofInt 32 (a : Int)).toNat = a := by
    rw [BitVec.ofInt_natCast, BitVec.toNat_ofNat]; exact Nat.mod_eq_of_lt (by omega)
  have h2 : (BitVec.ofInt 32 (b : Int)).toNat = b := by
    rw [BitVec.ofInt_natCast, BitVec.toNat_ofNat]; exact Nat.mod_eq_of_lt (by omega)
  show IntKind.u32.wrap ((BitVec.ofInt 32 (a : Int) ||| BitVec.ofInt 32 (b : Int)).toNat : Int) = _
  rw [BitVec.toNat_or, h1, h2, wrap_u32']
  omega

/-- a without b -/
def without (a b : Nat) : Nat := (BitVec.ofNat 32 a &&& ~~~ BitVec.ofNat 32 b).toNat
theorem without_lt (a b : Nat) : without a b < 4294967296 := (BitVec.ofNat 32 a &&& ~~~ BitVec.ofNat 32 b).isLt
theorem without_bit {a b : Nat} (ha : a < 4294967296) (j : Nat) : (without a b).testBit j = (a.testBit j && !b.testBit j) := by
  unfold without
  rw [← BitVec.getLsbD, BitVec.getLsbD_and, BitVec.getLsbD_not, BitVec.getLsbD_ofNat, BitVec.getLsbD_ofNat]
  by_cases hj : j < 32
  · simp only [hj, decide_true, Bool.true_and]
  · have h2 : 2 ^ 32 ≤ 2 ^ j := Nat.pow_le_pow_right (by decide) (by omega)
    have : a.testBit j = false := Nat.testBit_lt_two_pow (Nat.lt_of_lt_of_le ha h2)
    simp only [hj, decide_false, Bool.false_and, this]
theorem without_zero {a b : Nat} (ha : a < 4294967296) : without a b = 0 ↔ ∀ j, a.testBit j = true → b.testBit j = true := by
  constructor
  · intro h j hj
    have := without_bit (b := b) ha j
    rw [h, hj] at this
    simpa using this.symm
  · intro h
    apply Nat.eq_of_testBit_eq
    intro j
    rw [without_bit ha, Nat.zero_testBit]
    cases hj : a.testBit j with
    | false => rfl
    | true => rw [h j hj]; rfl
theorem bits_without (a b : Nat) : bits .andNot .u32 (a : Int) (b : Int) = (without a b : Int) := by
  have h1 : BitVec.ofInt 32 (a : Int) = BitVec.ofNat 32 a := BitVec.ofInt_natCast _ _
  have h2 : BitVec.ofInt 32 (b : Int) = BitVec.ofNat 32 b := BitVec.ofInt_natCast _ _
  show IntKind.u32.wrap ((BitVec.ofInt 32 (a : Int) &&& ~~~ BitVec.ofInt 32 (b : Int)).toNat : Int) = _
  rw [h1, h2]
  exact wrap32 (without_lt a b)

theorem or_bit (a n j : Nat) : (a ||| 2 ^ n).testBit j = (a.testBit j || decide (j = n)) := by
  rw [Nat.testBit_or, Nat.testBit_two_pow]
  by_cases h : j = n
  · subst h; simp
  · have : ¬ n = j := fun e => h e.symm
    simp [h, this]
theorem pow_lt {n : Nat} (h : n ≤ 24) : 2 ^ n < 4294967296 := by
  have : 2 ^ n ≤ 2 ^ 24 := Nat.pow_le_pow_right (by decide) h
  have e : (2 : Nat) ^ 24 = 16777216 := by decide
  omega

end Go.Proofs.YtoolpifkfgileaaDoor

/-
  Package hist: rows of contents; Clone; empty.
-/
namespace Go.Proofs.YtoolpifkfgileaaDoor
open Go Go.RowKit Own

theorem Rd.of_owns {w : World} {base n size : Nat} {T : TypeId} {v : Value} {cs : List Value} (h : w.ownsRow base T size v n cs) :
    ∃ p c, v = .slice p n c ∧ Rd w p cs ∧ (∀ a, p = some a → a.spot = none ∧ base ≤ a.block ∧ a.block < w.heap.size) ∧ (p = none → n = 0) := by
  obtain ⟨h0, ⟨rfl, rfl⟩ | ⟨g, cap, cur, rfl, hb, hg, h1, h2, h3, h4⟩⟩ := h
  · have : cs = [] := List.eq_nil_of_length_eq_zero (by omega)
    subst this
    exact ⟨none, 0, rfl, Rd.empty _ _, (fun a e => by cases e), fun _ => rfl⟩
  · refine ⟨some ⟨g, 0, none⟩, cap, rfl, fun j u hj => ⟨g, 0, rfl, ?_⟩, fun a e => by cases e; exact ⟨rfl, hb, (Array.getElem?_eq_some_iff.1 hg).1⟩, (fun e => by cases e)⟩
    rw [Nat.zero_add]
    refine blk_cell hg ?_
    rw [← h4, List.getElem?_take] at hj
    split at hj
    · simpa using hj
    · cases hj

theorem Rd.adds {w : World} {a : Addr} {cs : List Value} (h : Rd w (some a) cs) : ∀ j u, cs[j]? = some u → w.cell? (a.add j) = some u := fun j u hj => by
  obtain ⟨b, o, e, hc⟩ := h j u hj
  cases e
  have e : (⟨b, o, none⟩ : Addr).add j = ⟨b, o + j, none⟩ := by
    unfold Addr.add
    split
    · rename_i h; subst h; rfl
    · rfl
  rw [e]; exact hc

/-- a content as it lies in a row -/
structure Kc where
  k : Int
  q : Option Addr
  xs : List Int
  c : Nat
def Kc.vals (e : Kc) : List Value := [.int .i64 e.k, .slice e.q e.xs.length e.c]
def Kc.plain (e : Kc) : Int × List Int := (e.k, e.xs)
def cellsK (l : List Kc) : List Value := l.flatMap Kc.vals
theorem cellsK_length (l : List Kc) : (cellsK l).length = l.length * 2 := by
  unfold cellsK
  induction l with
  | nil => rfl
  | cons x l ih => rw [List.flatMap_cons, List.length_append, ih, List.length_cons]; simp only [Kc.vals, List.length_cons, List.length_nil]; omega
theorem cellsK_snoc (l : List Kc) (x : Kc) : cellsK (l ++ [x]) = cellsK l ++ x.vals := by simp [cellsK]
theorem cellsK_at : ∀ (l : List Kc) (i k : Nat) (h : i < l.length), k < 2 → (cellsK l)[i * 2 + k]? = (l[i].vals)[k]?
  | x :: l, 0, k, _, hk => by
    show (x.vals ++ cellsK l)[0 * 2 + k]? = _
    rw [Nat.zero_mul, Nat.zero_add, List.getElem?_append_left (by simpa [Kc.vals] using hk)]
    rfl
  | x :: l, i + 1, k, h, hk => by
    show (x.vals ++ cellsK l)[(i + 1) * 2 + k]? = _
    rw [List.getElem?_append_right (by simp [Kc.vals]; omega)]
    have e : (i + 1) * 2 + k - x.vals.length = i * 2 + k := by simp [Kc.vals]; omega
    rw [e, cellsK_at l i k (by simpa using h) hk]
    rfl
theorem cellsK_one (l : List Kc) : ∀ u ∈ cellsK l, u.oneCell' = true := fun u hu => by
  obtain ⟨t, _, h⟩ := List.mem_flatMap.1 hu
  simp only [Kc.vals, List.mem_cons, List.not_mem_nil, or_false] at h
  rcases h with rfl | rfl <;> rfl

/-- contents are read from p on -/
structure HasAt (w : World) (p : Option Addr) (l : List Kc) : Prop where
  rd : Rd w p (cellsK l)
  live : ∀ e ∈ l, Rd w e.q (ints e.xs) ∧ ∀ a, e.q = some a → a.spot = none
theorem HasAt.stay {w w' : World} {p : Option Addr} {l : List Kc} (h : HasAt w p l) (k : KeepBut (fun _ => False) w w') : HasAt w' p l :=
  ⟨h.rd.stay k, fun e he => ⟨(h.live e he).1.stay k, (h.live e he).2⟩⟩
theorem HasAt.cells {w : World} {p : Option Addr} {l : List Kc} (h : HasAt w p l) (i : Nat) (hi : i < l.length) :
    ∃ g o, p = some ⟨g, o, none⟩ ∧ w.cell? ⟨g, o + i * 2, none⟩ = some (.int .i64 l[i].k) ∧ w.cell? ⟨g, o + i * 2 + 1, none⟩ = some (.slice l[i].q l[i].xs.length l[i].c) := by
  obtain ⟨b, o, hp, h0⟩ := h.rd (i * 2 + 0) _ (cellsK_at l i 0 hi (by decide))
  obtain ⟨b', o', hp', h1⟩ := h.rd (i * 2 + 1) _ (cellsK_at l i 1 hi (by decide))
  rw [hp] at hp'
  cases hp'
  exact ⟨b, o, hp, h0, by rw [Nat.add_assoc]; exact h1⟩

theorem cellsAt {w : World} {b : Nat} {cs : Array Value} {T : TypeId} (h : w.heap[b]? = some (.cells cs T (0, 0))) (j : Nat) (u : Value) (hu : cs.toList[j]? = some u) : w.cell? ((⟨b, 0, none⟩ : Addr).add j) = some u := by
  have e : (⟨b, 0, none⟩ : Addr).add j = ⟨b, 0 + j, none⟩ := by
    unfold Addr.add
    split
    · rename_i h; subst h; rfl
    · rfl
  rw [e, Nat.zero_add]
  exact blk_cell h (by simpa using hu)

abbrev TC : TypeId := 47
theorem info_content : (Tryd.prog.info? TC).map (fun i => (i.zero, i.size, i.bytes)) = some (some (.agg #[.int .i64 0, .slice none 0 0]), 2, 32) := by kernel_rfl
theorem tc_slice : Tryd.prog.underlying 65 = some (.slice TC) := by kernel_rfl

set_option maxRecDepth 100000 in
set_option maxHeartbeats 4000000 in
theorem cloneK_any (w : World) (p : Option Addr) (c : Nat) (l : List Kc) (h : HasAt w p l) (hl : l.length ≤ 1099511627776) :
    Calls Tryd.prog 61 #[.slice p l.length c] w fun e w' => ∃ v', e = .returned v' ∧ w'.ownsRow w.heap.size TC 2 v' l.length (cellsK l) ∧ KeepBut (fun _ => False) w w' := by
  have q22 : ∀ (w : World) (a : Option Addr) (n c n' c' : Nat), (binOp .eql 65 (.slice a n c) (.slice none n' c')).run Tryd.prog w = .ok (.bool a.isNone) w := fun w a n c n' c' => Lib.run_eql_slice_nil w _ _ a n c n' c' tc_slice
  cases p with
  | none =>
    have hl0 : l = [] := by
      cases l with
      | nil => rfl
      | cons x l =>
        obtain ⟨g, o, e, _⟩ := h.cells 0 (by simp)
        cases e
    subst hl0
    go_enter Tryd.func61, Tryd.ntmps61
    go_wp2_with fail
    go_ret
    exact ⟨_, rfl, World.ownsRow_nil _ _ _ _, KeepBut.refl _ _⟩
  | some a =>
    have hA := KeepBut.alloc (fun _ => False) w (.cells #[] TC)
    have hr := Lib.hid (h.rd.stay hA).adds
    have ho := Lib.hid (show (w.alloc (.cells #[] TC)).ownsRow w.heap.size TC 2 (.slice (some ⟨w.heap.size, 0, none⟩) 0 0) 0 (cellsK []) from ⟨rfl, .inr ⟨w.heap.size, 0, #[], rfl, Nat.le_refl _, heap_alloc_new w _, Nat.le_refl _, Nat.zero_le _, rfl, rfl⟩⟩)
    obtain ⟨i0, hi, hz0, hz1, hz2⟩ := info_parts info_content
    have HI := Lib.hid hi; have HZ0 := Lib.hid hz0; have HZ1 := Lib.hid hz1; have HZ2 := Lib.hid hz2
    clear h hi hz0 hz1 hz2
    go_enter Tryd.func61, Tryd.ntmps61
    go_wp2_with (at_builtin; go_loud (refine wpList_append_own _ rfl (.tmp 5) (.tmp 6) 65 rfl w.heap.size TC i0 _ 2 32 tc_slice HI.out HZ0.out HZ1.out HZ2.out rfl (by decide) (.slice (some ⟨w.heap.size, 0, none⟩) 0 0) 0 (cellsK []) rfl ho.out a l.length c (cellsK l) rfl (cellsK_length l) hr.out (cellsK_one l) (by unfold maxLen; omega) (by omega) (by simp) ?_)
                 intro v' w' h1 h2 _
                 have H1 := Lib.hid h1; have H2 := Lib.hid h2
                 clear h1 h2)
    go_ret
    exact ⟨v', rfl, by have h := H1.out; rw [Nat.zero_add] at h; exact h, KeepBut.of_below (((Below.refl w.heap.size w).alloc (Nat.le_refl _) _).grown H2.out (by simp) (fun k hk => by cases hk; exact Nat.le_refl _))⟩

/-- a row of contents is returned -/
def DoneK (w : World) (e : Ending) (w' : World) (l : List Kc) : Prop := ∃ p c, e = .returned (.slice p l.length c) ∧ HasAt w' p l ∧ KeepBut (fun _ => False) w w'

def startK (ks : List Int) : List Kc := ks.map fun k => ⟨k, none, [], 0⟩
theorem startK_plain (ks : List Int) : (startK ks).map Kc.plain = ks.map fun k => (k, []) := by simp [startK, Kc.plain]

set_option maxHeartbeats 8000000 in
theorem empty_any (w : World) (S : Nat) (ks : List Int) (pk : Option Addr) (ck : Nat) (hS : w.cell? ⟨S, 0, none⟩ = some (.slice pk ks.length ck)) (hr : Rd w pk (ints ks)) (hl : ks.length ≤ 1099511627776) :
    Calls Tryd.prog 38 #[.pointer (some ⟨S, 0, none⟩)] w fun e w' => DoneK w e w' (startK ks) := by
  have HR := Lib.hid hr
  obtain ⟨i0, hi, hz0, hz1, hz2⟩ := info_parts info_content
  have HI := Lib.hid hi; have HZ0 := Lib.hid hz0; have HZ1 := Lib.hid hz1; have HZ2 := Lib.hid hz2
  clear hr hi hz0 hz1 hz2
  go_enter Tryd.func38, Tryd.ntmps38
  go_upto_block 0 with fail
  go_wp2_with fail
  clear hS
  go_loopw [3, 12] (fun v3 v12 wr => ∃ i : Nat, v12 = .int .i64 i ∧ i ≤ ks.length ∧ wr.ownsRow w.heap.size TC 2 v3 i (cellsK (startK (ks.take i))) ∧ KeepBut (fun _ => False) w wr) (fun _ v _ => ks.length - (intOf v).toNat)
  case atStart => exact ⟨0, rfl, Nat.zero_le _, World.ownsRow_nil _ _ _ _, KeepBut.refl _ _⟩
  case round =>
    obtain ⟨i, rfl, hi, hrow, hk⟩ := hrel
    by_cases hlt : i < ks.length
    · have hlti : (i : Int) < ks.length := by omega
      have hi0 : (0 : Int) ≤ i := by omega
      have hWi : IntKind.i64.wrap ((i : Int) + 1) = (i : Int) + 1 := IntWalk.i64_in _ (by omega)
      obtain ⟨b, o, hp, -⟩ := HR.out.ptr (by rw [ints_length]; omega)
      subst hp
      have hc := (HR.out.stay hk).int i hlt
      have HROW := Lib.hid hrow; have HK := Lib.hid hk
      have hws := hk.size
      clear hrow hk
      go_upto_region 5 with fail
      go_wp2_with (at_builtin; go_loud (refine wpList_append_own _ rfl (.tmp 16) (.tmp 19) 65 rfl w.heap.size TC i0 _ 2 32 tc_slice HI.out HZ0.out HZ1.out HZ2.out rfl (by decide) u3 i (cellsK (startK (ks.take i))) rfl (HROW.out.alloc _) ⟨wr.heap.size, 0, none⟩ 1 1 [.int .i64 (nth ks i), .slice none 0 0] rfl rfl (cellsAt (heap_alloc_new wr _)) (by simp [Value.oneCell']) (by unfold maxLen; omega) (by omega) (by rw [World.size_alloc]; omega) ?_)
                   intro v' w' h1 h2 _
                   have H1 := Lib.hid h1; have H2 := Lib.hid h2
                   clear h1 h2)
      have hk5 : KeepBut (fun _ => False) w w' := by
        have hx : KeepBut (fun _ => False) w (wr.alloc (.cells #[.int .i64 (nth ks i), .slice none 0 0] TC)) := HK.out.trans (KeepBut.alloc _ _ _)
        refine hx.new (KeepBut.grown (E := fun j => u3.ownBlock = some j) H2.out fun _ e => e) fun j hj => ?_
        exact (HROW.out.lt j hj).1
      exact ⟨⟨i + 1, by simp, by omega, by
        have := H1.out
        have e : startK (ks.take (i + 1)) = startK (ks.take i) ++ [⟨nth ks i, none, [], 0⟩] := by
          rw [nth_eq hlt]; unfold startK; rw [List.map_take, List.map_take, List.take_succ_eq_append_getElem (by simpa using hlt)]; simp
        rw [e, cellsK_snoc]; exact this, hk5⟩, by simp only [intOf]; omega⟩
    · have hnl : ¬ (i : Int) < ks.length := by omega
      have e : i = ks.length := by omega
      subst e
      rw [List.take_length] at hrow
      obtain ⟨p, c, rfl, h1, h2, h3⟩ := Rd.of_owns hrow
      have HQ := Lib.hid (show HasAt wr p (startK ks) ∧ KeepBut (fun _ => False) w wr from ⟨⟨h1, fun e he => by
        obtain ⟨k, _, rfl⟩ := List.mem_map.1 he
        exact ⟨Rd.empty _ _, fun a h => by cases h⟩⟩, hk⟩)
      clear hrow hk h1 h2 h3
      go_wp2_with fail
      go_ret
      exact ⟨p, c, by simp [startK], HQ.out.1, HQ.out.2⟩

end Go.Proofs.YtoolpifkfgileaaDoor
