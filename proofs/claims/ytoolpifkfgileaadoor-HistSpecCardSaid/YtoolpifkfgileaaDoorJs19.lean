/- Joined texts of this work: Hs23. -/
import Derived.Test.YtoolpifkfgileaaDoorJs16
import Derived.WalkLawsBesides

/-
  Chapter 29: HistSpec: the walk, for kind 3.
-/
namespace Go.Proofs.YtoolpifkfgileaaDoor
open Go Go.RowKit Own

set_option maxRecDepth 100000 in
set_option maxHeartbeats 64000000 in
theorem spec_3 (w : World) (x : Int) (hp : pick x 3 = 2) (pd : Option Addr) (cd : Nat) (ls : List Cd) (hd : RowD w pd ls) (hl : ls.length ≤ 24) (ha : ArgsD ls) (hT : TabP w) (hB : BitTab w) :
    Calls Tryd.prog 6 #[.int .i64 x, .slice pd ls.length cd] w fun e w' => TrueOf w e w' := by
  have HLV := Lib.hid (lives_any w hT hB)
  have HPK := fun W => pick_any W x 3 (by decide) (by decide)
  rw [hp] at HPK
  have HPK := Lib.hid HPK
  have HTB := Lib.hid (show ∀ W, KeepBut (fun _ => False) w W → TabP W ∧ BitTab W from fun W h => ⟨h.tabP hT, h.bitTab hB⟩)
  have HD := Lib.hid hd; have HA := Lib.hid ha
  have HKB := Lib.hid (show kindB 3 = true by decide)
  have HIN := Lib.hid (show In64 3 from in64_ok (by decide))
  have hl24 : ¬ (24 : Int) < ls.length := by omega
  clear hT hB hp hd ha
  go_enter Tryd.func6, Tryd.ntmps6
  go_upto_region 3 with (go_at_call 9; refine HLV.out.mono ?_; rintro e w1 ⟨rfl, hk⟩; have HK1 := Lib.hid hk; clear hk)
  go_upto_region 6 with (go_at_call 14; refine (HPK.out _).mono ?_; rintro e w' ⟨rfl, hw⟩; have hw := hw.symm; subst hw)
  obtain ⟨VK, K, hVK, hK, hbK, hkK, hsK⟩ := fresh_block w1 (.cells #[.int .i64 3] 3)
  obtain ⟨V5, B5, hV5, hB5, hb5, hk5, hs5⟩ := fresh_block VK (.cells #[.slice (some ⟨K, 0, none⟩) 1 1, .slice none 0 0] THi)
  have hKB : K + 1 = B5 := by omega
  have HNEW := refNew_any 3 V5
  rw [if_pos (by decide), if_pos (by decide)] at HNEW
  have HNEW := Lib.hid HNEW
  have HK5 := Lib.hid (hkK.trans hk5); have HBK := Lib.hid (hk5.blk hbK); have HB5 := Lib.hid hb5
  have HNK := Lib.hid (show w1.heap.size ≤ K ∧ K + 1 = B5 ∧ V5.heap.size = B5 + 1 by omega)
  clear hbK hb5 hkK hk5 hsK hs5
  go_upto_region 7 with fail
  rw [← hVK, ← hK, ← hV5, hKB]
  clear hVK hK hV5 hB5 hKB
  go_wp2_with fail
  go_at_call 20
  refine HNEW.out.mono ?_
  rintro e w2 ⟨rfl, hk⟩
  obtain ⟨V6, B6, hV6, hB6, hb6, hk6, hs6⟩ := fresh_block w2 (.cells #[.int .i64 3, .slice none 0 0] TC)
  have HAT := Lib.hid (show SpecAt 3 ls w1 V6 K B5 B6 (.slice none 0 0) 0 from ⟨World.ownsRow_nil _ _ _ _, hk6.blk (hk.blk HB5.out), ⟨none, 0, hb6, Rd.empty _ _⟩, hk6.blk (hk.blk HBK.out), (HK5.out.trans hk).trans hk6, by
    have h1 := HNK.out
    have h2 := hk.size
    omega⟩)
  clear hk hb6 hk6 hs6
  go_upto_region 8 with fail
  rw [← hV6, ← hB6]
  clear hV6 hB6
  go_wp2_with fail
  go_loopw [8, 9] (fun v8 v9 wr => ∃ (g : Bool) (i : Nat) (v : Value), v8 = .bool g ∧ v9 = .int .i64 i ∧ g = goodS 3 ls i ∧ i ≤ ls.length ∧ SpecAt 3 ls w1 wr K B5 B6 v i) (fun _ v _ => ls.length - (intOf v).toNat)
  case atStart => exact ⟨true, 0, _, rfl, rfl, rfl, Nat.zero_le _, HAT.out⟩
  case round =>
    obtain ⟨g, i, v, rfl, rfl, hg, hi, hat⟩ := hrel
    have HG := Lib.hid hg; have HAT := Lib.hid hat
    clear hg
    by_cases hlt : i < ls.length
    · have hlti : (i : Int) < ls.length := by omega
      have hi0 : (0 : Int) ≤ i := by omega
      have hWi : IntKind.i64.wrap ((i : Int) + 1) = (i : Int) + 1 := IntWalk.i64_in _ (by omega)
      clear hat
      go_upto_region 13 with fail
      obtain ⟨A1, N1, hA1, hN1, hb1, hk1, hs1⟩ := fresh_block wr (.cells #[.int .i64 1, .int .i64 2] 3)
      obtain ⟨A2, N2, hA2, hN2, hb2, hk2, hs2⟩ := fresh_block A1 (.cells #[.int .i64 3, .int .i64 4] 3)
      obtain ⟨A3, N3, hA3, hN3, hb3, hk3, hs3⟩ := fresh_block A2 (.cells #[.int .i64 5, .int .i64 6, .int .i64 7] 3)
      obtain ⟨A4, N4, hA4, hN4, hb4, hk4, hs4⟩ := fresh_block A3 (.cells #[.slice (some ⟨wr.heap.size, 0, none⟩) 2 2, .slice (some ⟨wr.heap.size + 1, 0, none⟩) 2 2, .slice (some ⟨wr.heap.size + 1 + 1, 0, none⟩) 3 3] 22)
      rw [← hA1, ← hA2, ← hA3, ← hA4]
      obtain ⟨S, hS⟩ : ∃ S, wr.heap.size + 1 + 1 = S := ⟨_, rfl⟩
      have hops : A4.heap[S]? = some (.cells (ints (opsOf 3)).toArray 3 (0, 0)) := by
        rw [← hS]
        have h9 := hk4.blk hb3
        rw [show N3 = wr.heap.size + 1 + 1 by omega] at h9
        exact h9
      rw [hS]
      have HKA := Lib.hid (((hk1.trans hk2).trans hk3).trans hk4)
      obtain ⟨dg, dof, hpd, y0, y1, y2, y3, y4⟩ := (HD.out.stay (HK1.out.trans (HAT.out.keep.trans HKA.out))) i hlt
      subst hpd
      have hpr := pick_range (k := (nthD ls i).op) (n := 3) (by decide)
      have HPI := fun W => pick_any W (nthD ls i).op 3 (by decide) (by decide)
      obtain ⟨pn, hpn⟩ : ∃ pn : Nat, pick (nthD ls i).op 3 = pn := ⟨(pick (nthD ls i).op 3).toNat, by omega⟩
      rw [hpn] at hpr HPI
      have HPI := Lib.hid HPI
      obtain ⟨op, hop⟩ : ∃ op, opS 3 (nthD ls i).op = op := ⟨_, rfl⟩
      have HOP := Lib.hid hop
      have hcop : A4.cell? ⟨S, pn, none⟩ = some (.int .i64 op) := by
        refine blk_cell hops ?_
        rw [← hop]
        unfold opS
        rw [show ((opsOf 3).length : Int) = 3 by decide, hpn]
        have hol : (opsOf 3).length = 3 := by decide
        have h9 : pn < (opsOf 3).length := by omega
        simp [ints, nth, List.getD, h9]
      have hpn0 : (0 : Int) ≤ pn := by omega
      have hpn1 : (pn : Int) < 3 := by omega
      clear hA1 hA2 hA3 hA4 hN1 hN2 hN3 hN4 hb1 hb2 hb3 hb4 hk1 hk2 hk3 hk4 hs1 hs2 hs3 hs4 hS hops hop hpn hpr
      go_upto_region 14 with (go_at_call 14; refine (HPI.out _).mono ?_; rintro e w' ⟨rfl, hw⟩; have hw := hw.symm; subst hw)
      have hHATA := HAT.out
      obtain ⟨eq, ec, hb6, hrd6⟩ := hHATA.b6
      have hsm := con_small HIN.out HA.out i
      obtain ⟨⟨ek, ex⟩, he⟩ : ∃ e, conS 3 ls i = e := ⟨_, rfl⟩
      rw [he] at hb6 hrd6 hsm
      have HE := Lib.hid he
      dsimp only at hb6 hrd6 hsm
      have HSM := Lib.hid hsm
      have HRD6 := Lib.hid (hrd6.stay HKA.out)
      have HB6 := Lib.hid (HKA.out.blk hb6)
      obtain ⟨q0, q1, -⟩ := blk2 HB6.out
      obtain ⟨⟨rk, ry, rb⟩, hr⟩ : ∃ r, mayR ek op ex (nthD ls i).arg (nthD ls i).value (nthD ls i).code = r := ⟨_, rfl⟩
      have HMY := Lib.hid hr
      have ST := fun (gg oo : Nat) (u : Value) (hc : A4.cell? ⟨gg, oo, none⟩ = some u) (w' : World) (hk : KeepBut (fun _ => False) A4.drew w') => ((KeepBut.drew (fun _ => False) A4).trans hk).stay hc
      have z0 := ST _ _ _ q0; have z1 := ST _ _ _ q1; have z2 := ST _ _ _ y2; have z3 := ST _ _ _ y3; have z4 := ST _ _ _ y4
      obtain ⟨xa, hxa⟩ : ∃ t, (nthD ls i).arg = t := ⟨_, rfl⟩
      obtain ⟨xv, hxv⟩ : ∃ t, (nthD ls i).value = t := ⟨_, rfl⟩
      obtain ⟨xc, hxc⟩ : ∃ t, (nthD ls i).code = t := ⟨_, rfl⟩
      rw [hxa, hxv, hxc] at HMY
      rw [hxa] at z2; rw [hxv] at z3; rw [hxc] at z4
      have HXA := Lib.hid hxa; have HXV := Lib.hid hxv; have HXC := Lib.hid hxc
      clear hHATA he hb6 hrd6 hsm q0 q1 hr ST y0 y1 y2 y3 y4 hcop hpn0 hpn1 hxa hxv hxc
      refine wp_own0 (by kernel_rfl) (fun i => [[], [], [], [], [2, 3], [2, 3, 4], [2, 3, 4, 5], [], [], [7, 8], [7, 8, 9], [7, 8, 9, 10], [], [], [12, 13], [12, 13, 14], [12, 13, 14, 15], [0, 1, 2, 3, 4, 5, 6, 7, 8, 9, 10, 11, 12, 13, 14, 15, 16], [0, 1, 2, 3, 4, 5, 6, 7, 8, 9, 10, 11, 12, 13, 14, 15, 16, 17], [0, 1, 2, 3, 4, 5, 6, 7, 8, 9, 10, 11, 12, 13, 14, 15, 16, 17, 18], [0, 1, 2, 3, 4, 5, 6, 7, 8, 9, 10, 11, 12, 13, 14, 15, 16, 17, 18], [], [0, 1, 2, 3, 4, 5, 6, 7, 8, 9, 10, 11, 12, 13, 14, 15, 16, 17, 18, 19, 21], [0, 1, 2, 3, 4, 5, 6, 7, 8, 9, 10, 11, 12, 13, 14, 15, 16, 17, 18, 19, 20, 21, 22]].getD i []) (fun i => if i = 22 then [21] else []) (fun i => if i = 22 then [21] else []) [17, 22] (by kernel_rfl)
        (fun i => if i = 17 then some (sLies (fun p c => .tuple #[.agg #[.int .i64 rk, .slice p ry.length c], .bool rb]) ry) else if i = 21 then some (sNew (.cells #[.int .i64 0, .slice none 0 0] TC)) else if i = 22 then some (sPutA TC) else none) ?_
      apply lex_quiet rfl rfl
      · intro w' hk; go_simp; with_reducible rfl
      simp only [Act.put, List.setIfInBounds_toArray, List.set_cons_zero, List.set_cons_succ]
      apply lex_quiet rfl rfl
      · intro w' hk; go_simp; with_reducible rfl
      simp only [Act.put, List.setIfInBounds_toArray, List.set_cons_zero, List.set_cons_succ]
      apply lex_quiet rfl rfl
      · intro w' hk; go_simp; with_reducible rfl
      simp only [Act.put, List.setIfInBounds_toArray, List.set_cons_zero, List.set_cons_succ]
      apply lex_quiet rfl rfl
      · intro w' hk; go_simp; with_reducible rfl
      simp only [Act.put, List.setIfInBounds_toArray, List.set_cons_zero, List.set_cons_succ]
      apply lex_quiet rfl rfl
      · intro w' hk; go_simp; with_reducible rfl
      simp only [Act.put, List.setIfInBounds_toArray, List.set_cons_zero, List.set_cons_succ]
      apply lex_quiet rfl rfl
      · intro w' hk; go_simp; with_reducible rfl
      simp only [Act.put, List.setIfInBounds_toArray, List.set_cons_zero, List.set_cons_succ]
      apply lex_quiet rfl rfl
      · intro w' hk; go_simp; with_reducible rfl
      simp only [Act.put, List.setIfInBounds_toArray, List.set_cons_zero, List.set_cons_succ]
      apply lex_quiet rfl rfl
      · intro w' hk; go_simp; with_reducible rfl
      simp only [Act.put, List.setIfInBounds_toArray, List.set_cons_zero, List.set_cons_succ]
      apply lex_quiet rfl rfl
      · intro w' hk; go_simp; with_reducible rfl
      simp only [Act.put, List.setIfInBounds_toArray, List.set_cons_zero, List.set_cons_succ]
      apply lex_quiet rfl rfl
      · intro w' hk; go_simp; with_reducible rfl
      simp only [Act.put, List.setIfInBounds_toArray, List.set_cons_zero, List.set_cons_succ]
      apply lex_quiet rfl rfl
      · intro w' hk; go_simp; with_reducible rfl
      simp only [Act.put, List.setIfInBounds_toArray, List.set_cons_zero, List.set_cons_succ]
      apply lex_quiet rfl rfl
      · intro w' hk; go_simp; with_reducible rfl
      simp only [Act.put, List.setIfInBounds_toArray, List.set_cons_zero, List.set_cons_succ]
      apply lex_quiet rfl rfl
      · intro w' hk; go_simp; with_reducible rfl
      simp only [Act.put, List.setIfInBounds_toArray, List.set_cons_zero, List.set_cons_succ]
      apply lex_quiet rfl rfl
      · intro w' hk; go_simp; with_reducible rfl
      simp only [Act.put, List.setIfInBounds_toArray, List.set_cons_zero, List.set_cons_succ]
      apply lex_quiet rfl rfl
      · intro w' hk; go_simp; with_reducible rfl
      simp only [Act.put, List.setIfInBounds_toArray, List.set_cons_zero, List.set_cons_succ]
      apply lex_quiet rfl rfl
      · intro w' hk; go_simp; with_reducible rfl
      simp only [Act.put, List.setIfInBounds_toArray, List.set_cons_zero, List.set_cons_succ]
      apply lex_quiet rfl rfl
      · intro w' hk; go_simp; with_reducible rfl
      simp only [Act.put, List.setIfInBounds_toArray, List.set_cons_zero, List.set_cons_succ]
      refine lex_loud rfl rfl (loud_call 21 #[.agg #[.int .i64 ek, .slice eq ex.length ec], .int .i64 op, .int .i64 xa, .int .i64 xv, .int .i64 xc] (fun w => by kernel_rfl) ⟨default, trivial⟩ (fun g _ => stable_lies g.p ry) fun w' hk _ _ => (refMay_any w' ek eq ec ex (HRD6.out.stay ((KeepBut.drew (fun _ => False) A4).trans hk)) (by have := HSM.out.2.1; omega) op xa xv xc).mono ?_) fun g17 _ => ?_
      · rintro e w'' ⟨pd, cap, rfl, hL, hq⟩
        rw [HMY.out] at hL ⊢
        exact ⟨{ p := pd, c := cap }, trivial, rfl, hq.mono fun _ e => e.elim, fun b ⟨a, h1, h2⟩ => by have := hL.2 a h1; exact ⟨.inl (by omega), by omega⟩, hL.1, fun a ha => (hL.2 a ha).2.2⟩
      simp only [sLies, Act.put, List.setIfInBounds_toArray, List.set_cons_zero, List.set_cons_succ]
      apply lex_quiet rfl rfl
      · intro w' hk; go_simp; with_reducible rfl
      simp only [Act.put, List.setIfInBounds_toArray, List.set_cons_zero, List.set_cons_succ]
      apply lex_quiet rfl rfl
      · intro w' hk; go_simp; with_reducible rfl
      simp only [Act.put, List.setIfInBounds_toArray, List.set_cons_zero, List.set_cons_succ]
      apply lex_quiet rfl rfl
      · intro w' hk; go_simp; with_reducible rfl
      simp only [Act.put, List.setIfInBounds_toArray, List.set_cons_zero, List.set_cons_succ]
      refine lex_loud rfl rfl (loud_alloc _ fun w => by go_simp) fun g21 _ => ?_
      simp only [sNew, Act.put, List.setIfInBounds_toArray, List.set_cons_zero, List.set_cons_succ]
      refine lex_loud rfl rfl (loud_putA g21.b TC TC #[.int .i64 rk, .slice g17.p ry.length g17.c] _ (.tmp 12) (.tmp 77) rfl rfl rfl 21 (by decide) (by decide) (fun w h => h) rfl rfl (by kernel_rfl) (by simp [Value.oneCell'])) fun g22 _ => ?_
      simp only [sPutA, Act.put]
      apply lex_quiet rfl rfl
      · intro w' hk; go_simp; with_reducible rfl
      simp only [Act.put, List.setIfInBounds_toArray, List.set_cons_zero, List.set_cons_succ]
      refine lex_nil ?_
      intro w9 hk9 hF _
      have f17 : Rd w9 g17.p (ints ry) ∧ ∀ a, g17.p = some a → a.spot = none := (hF 17 (by decide)).1
      have f22 : w9.heap[g21.b]? = some (.cells #[.int .i64 rk, .slice g17.p ry.length g17.c] TC (0, 0)) := (hF 22 (by decide)).1 _ _ (put_args0 rfl rfl) (put_args rfl rfl)
      have HKW := Lib.hid (show KeepBut (fun _ => False) wr w9 from HKA.out.trans ((KeepBut.drew _ A4).trans hk9))
      have HF17 := Lib.hid f17; have HF22 := Lib.hid f22
      have HNF := Lib.hid (show ∀ a, g17.p = some a → A4.heap.size ≤ a.block from fun a ha => ((hF 17 (by decide)).2 a.block ⟨a, ha, rfl⟩).2.resolve_right fun h => h)
      obtain ⟨D9, hD9⟩ : ∃ b, g21.b = b := ⟨_, rfl⟩
      rw [hD9] at HF22 ⊢
      have b22 : A4.heap.size ≤ g21.b := ((hF 22 (by decide)).2 g21.b (put_args0 rfl rfl)).2.resolve_right fun h => h
      have HD9 := Lib.hid (show wr.heap.size ≤ D9 by have := HKA.out.size; omega)
      clear z0 z1 z2 z3 z4 hk9 hF f17 f22 hD9 b22
      obtain ⟨c0, c1, -⟩ := blk2 HF22.out
      obtain ⟨p0, p1, r0, r1⟩ := blk2 (HKW.out.blk (HAT.out.b6.choose_spec.choose_spec.1))
      cases g with
      | true =>
        go_upto_region 17 with fail
        have hb6w := HKW.out.blk (HAT.out.b6.choose_spec.choose_spec.1)
        have hset := put1 (i := 1) (put1 (i := 0) hb6w (.int .i64 rk)) (.slice g17.p ry.length g17.c)
        have ks : KeepBut (fun k => k = B6) w9 ((w9.setCell ⟨B6, 0, none⟩ (.int .i64 rk)).setCell ⟨B6, 1, none⟩ (.slice g17.p ry.length g17.c)) := (KeepBut.setCell (E := fun k => k = B6) _ _ _ rfl).trans (KeepBut.setCell (E := fun k => k = B6) _ _ _ rfl)
        obtain ⟨W16, hW16⟩ : ∃ W, (w9.setCell ⟨B6, 0, none⟩ (.int .i64 rk)).setCell ⟨B6, 1, none⟩ (.slice g17.p ry.length g17.c) = W := ⟨_, rfl⟩
        rw [hW16] at hset ks ⊢
        have HB6n := Lib.hid (show W16.heap[B6]? = some (.cells #[.int .i64 rk, .slice g17.p ry.length g17.c] TC (0, 0)) from hset)
        have hne := HAT.out.ne
        have HKn := Lib.hid (show KeepBut (fun _ => False) w1 W16 from (HAT.out.keep.trans HKW.out).new ks fun b e => by have e : b = B6 := e; omega)
        have HROWn := Lib.hid (row_keepE (row_keep HAT.out.row HKW.out) ks fun g hg e => by have e : g = B6 := e; omega)
        have HB5n := Lib.hid (keep_blk ks (HKW.out.blk HAT.out.b5) (fun e => by have e : B5 = B6 := e; omega))
        have HBKn := Lib.hid (keep_blk ks (HKW.out.blk HAT.out.bk) (fun e => by have e : K = B6 := e; omega))
        have HRDn := Lib.hid (HF17.out.1.keep ks fun a ha e => by
          have h1 := HNF.out a ha
          have h2 := HKA.out.size
          have h3 := (Array.getElem?_eq_some_iff.1 (HAT.out.b6.choose_spec.choose_spec.1)).1
          have e : a.block = B6 := e
          omega)
        obtain ⟨dg', dof', hpd, y0, y1, y2, y3, y4⟩ := HD.out i hlt
        cases hpd
        have STM := fun (oo : Nat) (u : Value) (hc : w.cell? ⟨dg, oo, none⟩ = some u) (w' : World) (hk : KeepBut (fun b => b = B5 ∨ v.ownBlock = some b) W16.drew w') => keep_cell (((KeepBut.drew _ W16)).trans hk) ((HK1.out.trans HKn.out).stay hc) (fun e => by
          have h9 : dg < w.heap.size := World.block_lt_of_cell? w _ y0
          have h8 := HK1.out.size
          rcases e with e | e
          · have e : dg = B5 := e
            omega
          · have := (HROWn.out.lt dg e).1
            omega)
        rw [HXA.out] at y2; rw [HXV.out] at y3; rw [HXC.out] at y4
        have z2 := STM _ _ y2; have z3 := STM _ _ y3; have z4 := STM _ _ y4
        have hmod : (i : Int).tmod 3 = (i : Int) % 3 := Int.tmod_eq_emod_of_nonneg hi0
        have hm3 : 0 ≤ (i : Int) % 3 ∧ (i : Int) % 3 < 3 := ⟨Int.emod_nonneg _ (by decide), Int.emod_lt_of_pos _ (by decide)⟩
        have hmw : IntKind.i64.wrap ((i : Int) % 3) = (i : Int) % 3 := IntWalk.i64_in _ (by omega)
        have hmul : IntKind.i64.wrap (2 * (i : Int)) = 2 * (i : Int) := IntWalk.i64_in _ (by omega)
        have hadd : IntKind.i64.wrap (2 * (i : Int) + 1) = 2 * (i : Int) + 1 := IntWalk.i64_in _ (by omega)
        obtain ⟨i0, hi0', hz0, hz1, hz2⟩ := info_parts info_call
        have HI0 := Lib.hid hi0'; have HZ0 := Lib.hid hz0; have HZ1 := Lib.hid hz1; have HZ2 := Lib.hid hz2
        have HBS := Lib.hid (show B6 + 1 ≤ W16.heap.size from (Array.getElem?_eq_some_iff.1 HB6n.out).1)
        clear hi0' hz0 hz1 hz2 hset ks hW16 STM y0 y1 y2 y3 y4 c0 c1 p0 p1 r0 r1 hb6w hm3
        refine wp_own2 (by kernel_rfl) B5 _ HB5n.out (B6 + 1) TCl 8 v i _ HROWn.out (by omega) (fun i => [[], [0], [], [2], [], [], [], [5, 6], [5, 6, 7], [5, 6, 7, 8], [], [10], [], [12], [12, 13], [], [], [15, 16], [15, 16, 17], [15, 16, 17, 18], [], [], [20, 21], [20, 21, 22], [20, 21, 22, 23], [2, 3, 4, 5, 6, 7, 8, 9, 10, 11, 12, 13, 14, 15, 16, 17, 18, 19, 20, 21, 22, 23, 24], [2, 3, 4, 5, 6, 7, 8, 9, 10, 11, 12, 13, 14, 15, 16, 17, 18, 19, 20, 21, 22, 23, 24, 25], [0, 1, 2, 3, 4, 5, 6, 7, 8, 9, 10, 11, 12, 13, 14, 15, 16, 17, 18, 19, 20, 21, 22, 23, 24, 25, 26], [0, 1, 2, 3, 4, 5, 6, 7, 8, 9, 10, 11, 12, 13, 14, 15, 16, 17, 18, 19, 20, 21, 22, 23, 24, 25, 26, 27], [0, 1, 2, 3, 4, 5, 6, 7, 8, 9, 10, 11, 12, 13, 14, 15, 16, 17, 18, 19, 20, 21, 22, 23, 24, 25, 26, 27, 28]].getD i []) (fun i => if i = 1 then [30] else if i = 27 then [31, 26] else if i = 29 then [30] else []) (fun i => if i = 27 then [31] else if i = 29 then [30] else []) [27, 29] (by kernel_rfl)
          (fun j => if j = 1 then some (sConst v) else if j = 26 then some { val := fun _ g => .slice (some ⟨g.b, 0, none⟩) 1 1, fp := fun _ g k => k = g.b, post := fun _ g w => w.heap[g.b]? = some (.cells #[.int .i64 ((i : Int) % 3), .int .i64 0, .int .i64 op, .int .i64 xa, .int .i64 (2 * (i : Int)), .int .i64 (2 * (i : Int) + 1), .int .i64 xv, .int .i64 xc] TCl (0, 0)) }
            else if j = 27 then some (sRow (B6 + 1) TCl 8 (i + 1) (cellsC (csS 3 ls i) ++ [.int .i64 ((i : Int) % 3), .int .i64 0, .int .i64 op, .int .i64 xa, .int .i64 (2 * (i : Int)), .int .i64 (2 * (i : Int) + 1), .int .i64 xv, .int .i64 xc]))
            else if j = 29 then some (sCellA B5 1 THi #[.slice (some ⟨K, 0, none⟩) 1 1, v]) else none) ?_
        apply lex_quiet rfl rfl
        · intro w' hk; go_simp; with_reducible rfl
        simp only [Act.put, List.setIfInBounds_toArray, List.set_cons_zero, List.set_cons_succ]
        refine lex_loud rfl rfl (loud_run ⟨default, trivial⟩ (fun g _ w w' _ _ _ _ _ => trivial) fun w' hk hav _ => by
          have hx : w'.cell? ⟨B5, 1, none⟩ = some v := blk_cell (show w'.heap[B5]? = some (.cells #[.slice (some ⟨K, 0, none⟩) 1 1, v] THi (0, 0)) from (hav 30 (by decide)).1) rfl
          exact ⟨w', default, trivial, .inl (by go_simp <;> rfl), KeepBut.refl _ _, fun b h => h.elim, trivial⟩) fun _ _ => ?_
        simp only [sConst, Act.put, List.setIfInBounds_toArray, List.set_cons_zero, List.set_cons_succ]
        apply lex_quiet rfl rfl
        · intro w' hk; go_simp; with_reducible rfl
        simp only [Act.put, List.setIfInBounds_toArray, List.set_cons_zero, List.set_cons_succ]
        apply lex_quiet rfl rfl
        · intro w' hk; go_simp; with_reducible rfl
        simp only [Act.put, List.setIfInBounds_toArray, List.set_cons_zero, List.set_cons_succ]
        apply lex_quiet rfl rfl
        · intro w' hk; go_simp; with_reducible rfl
        simp only [Act.put, List.setIfInBounds_toArray, List.set_cons_zero, List.set_cons_succ]
        apply lex_quiet rfl rfl
        · intro w' hk; go_simp; with_reducible rfl
        simp only [Act.put, List.setIfInBounds_toArray, List.set_cons_zero, List.set_cons_succ]
        apply lex_quiet rfl rfl
        · intro w' hk; go_simp; with_reducible rfl
        simp only [Act.put, List.setIfInBounds_toArray, List.set_cons_zero, List.set_cons_succ]
        apply lex_quiet rfl rfl
        · intro w' hk; go_simp; with_reducible rfl
        simp only [Act.put, List.setIfInBounds_toArray, List.set_cons_zero, List.set_cons_succ]
        apply lex_quiet rfl rfl
        · intro w' hk; go_simp; with_reducible rfl
        simp only [Act.put, List.setIfInBounds_toArray, List.set_cons_zero, List.set_cons_succ]
        apply lex_quiet rfl rfl
        · intro w' hk; go_simp; with_reducible rfl
        simp only [Act.put, List.setIfInBounds_toArray, List.set_cons_zero, List.set_cons_succ]
        apply lex_quiet rfl rfl
        · intro w' hk; go_simp; with_reducible rfl
        simp only [Act.put, List.setIfInBounds_toArray, List.set_cons_zero, List.set_cons_succ]
        apply lex_quiet rfl rfl
        · intro w' hk; go_simp; with_reducible rfl
        simp only [Act.put, List.setIfInBounds_toArray, List.set_cons_zero, List.set_cons_succ]
        apply lex_quiet rfl rfl
        · intro w' hk; go_simp; with_reducible rfl
        simp only [Act.put, List.setIfInBounds_toArray, List.set_cons_zero, List.set_cons_succ]
        apply lex_quiet rfl rfl
        · intro w' hk; go_simp; with_reducible rfl
        simp only [Act.put, List.setIfInBounds_toArray, List.set_cons_zero, List.set_cons_succ]
        apply lex_quiet rfl rfl
        · intro w' hk; go_simp; with_reducible rfl
        simp only [Act.put, List.setIfInBounds_toArray, List.set_cons_zero, List.set_cons_succ]
        apply lex_quiet rfl rfl
        · intro w' hk; go_simp; with_reducible rfl
        simp only [Act.put, List.setIfInBounds_toArray, List.set_cons_zero, List.set_cons_succ]
        apply lex_quiet rfl rfl
        · intro w' hk; go_simp; with_reducible rfl
        simp only [Act.put, List.setIfInBounds_toArray, List.set_cons_zero, List.set_cons_succ]
        apply lex_quiet rfl rfl
        · intro w' hk; go_simp; with_reducible rfl
        simp only [Act.put, List.setIfInBounds_toArray, List.set_cons_zero, List.set_cons_succ]
        apply lex_quiet rfl rfl
        · intro w' hk; go_simp; with_reducible rfl
        simp only [Act.put, List.setIfInBounds_toArray, List.set_cons_zero, List.set_cons_succ]
        apply lex_quiet rfl rfl
        · intro w' hk; go_simp; with_reducible rfl
        simp only [Act.put, List.setIfInBounds_toArray, List.set_cons_zero, List.set_cons_succ]
        apply lex_quiet rfl rfl
        · intro w' hk; go_simp; with_reducible rfl
        simp only [Act.put, List.setIfInBounds_toArray, List.set_cons_zero, List.set_cons_succ]
        apply lex_quiet rfl rfl
        · intro w' hk; go_simp; with_reducible rfl
        simp only [Act.put, List.setIfInBounds_toArray, List.set_cons_zero, List.set_cons_succ]
        apply lex_quiet rfl rfl
        · intro w' hk; go_simp; with_reducible rfl
        simp only [Act.put, List.setIfInBounds_toArray, List.set_cons_zero, List.set_cons_succ]
        apply lex_quiet rfl rfl
        · intro w' hk; go_simp; with_reducible rfl
        simp only [Act.put, List.setIfInBounds_toArray, List.set_cons_zero, List.set_cons_succ]
        apply lex_quiet rfl rfl
        · intro w' hk; go_simp; with_reducible rfl
        simp only [Act.put, List.setIfInBounds_toArray, List.set_cons_zero, List.set_cons_succ]
        apply lex_quiet rfl rfl
        · intro w' hk; go_simp; with_reducible rfl
        simp only [Act.put, List.setIfInBounds_toArray, List.set_cons_zero, List.set_cons_succ]
        refine lex_loud rfl rfl (loud_new (fun b => .slice (some ⟨b, 0, none⟩) 1 1) (.cells #[.int .i64 ((i : Int) % 3), .int .i64 0, .int .i64 op, .int .i64 xa, .int .i64 (2 * (i : Int)), .int .i64 (2 * (i : Int) + 1), .int .i64 xv, .int .i64 xc] TCl) rfl (fun _ _ => rfl) (fun _ _ _ => Iff.rfl) (fun _ _ _ => Iff.rfl) (fun w => by go_simp)) fun g26 _ => ?_
        simp only [Act.put, List.setIfInBounds_toArray, List.set_cons_zero, List.set_cons_succ]
        refine lex_loud rfl rfl (loud_appendR (B6 + 1) TCl 23 i0 _ 8 64 calls_ty HI0.out HZ0.out HZ1.out HZ2.out rfl (by decide) (.tmp 85) (.tmp 110) rfl v i (cellsC (csS 3 ls i)) g26.b [.int .i64 ((i : Int) % 3), .int .i64 0, .int .i64 op, .int .i64 xa, .int .i64 (2 * (i : Int)), .int .i64 (2 * (i : Int) + 1), .int .i64 xv, .int .i64 xc] rfl rfl rfl (fun u hu => by
          simp only [List.mem_cons, List.not_mem_nil, or_false] at hu
          rcases hu with rfl | rfl | rfl | rfl | rfl | rfl | rfl | rfl <;> rfl) (by unfold maxLen; omega) (by omega) HBS.out 31 (by decide) (by decide) (fun w h => h) (fun b hb => .inr ⟨rfl, hb⟩) 26 (by decide) (fun w h => h)) fun g27 _ => ?_
        simp only [sRow, Act.put, List.setIfInBounds_toArray, List.set_cons_zero, List.set_cons_succ]
        apply lex_quiet rfl rfl
        · intro w' hk; go_simp; with_reducible rfl
        simp only [Act.put, List.setIfInBounds_toArray, List.set_cons_zero, List.set_cons_succ]
        refine lex_loud rfl rfl (loud_cellA B5 1 THi #[.slice (some ⟨K, 0, none⟩) 1 1, v] (.slice g27.p (i + 1) g27.c) (put_args rfl rfl) (fun w u hc hf => by go_simp <;> rfl) 30 (by decide) (by decide) (fun w h => h) (.inl ⟨rfl, rfl⟩) (by show 1 < 2; decide)) fun g29 _ => ?_
        simp only [sCellA, Act.put]
        refine lex_nil ?_
        intro w17 hk17 hF _
        have f27 : w17.ownsRow (B6 + 1) TCl 8 (.slice g27.p (i + 1) g27.c) (i + 1) _ := (hF 27 (by decide)).1
        have f29 : w17.heap[B5]? = some (.cells #[.slice (some ⟨K, 0, none⟩) 1 1, .slice g27.p (i + 1) g27.c] THi (0, 0)) := (hF 29 (by decide)).1.trans (by rw [put_args rfl rfl]; rfl)
        have hkM := (KeepBut.drew (fun b => b = B5 ∨ v.ownBlock = some b) W16).trans hk17
        have hcs : callS 3 ls i = ⟨(i : Int) % 3, 0, op, xa, 2 * (i : Int), 2 * (i : Int) + 1, xv, xc⟩ := by unfold callS; rw [HOP.out, HXA.out, HXV.out, HXC.out]
        have hcon : conS 3 ls (i + 1) = (rk, ry) := by rw [conS_succ, HE.out, HOP.out, HXA.out, HXV.out, HXC.out, HMY.out]
        have hgood : rb = goodS 3 ls (i + 1) := by rw [goodS_succ, HE.out, HOP.out, HXA.out, HXV.out, HXC.out, HMY.out, ← HG.out]; rfl
        have HGD := Lib.hid hgood
        have HSP := Lib.hid (show SpecAt 3 ls w1 w17 K B5 B6 (.slice g27.p (i + 1) g27.c) (i + 1) from ⟨by
            rw [csS_succ, cellsC_snoc, hcs]; exact f27, f29, ⟨g17.p, g17.c, by
            rw [hcon]
            exact keep_blk hkM HB6n.out fun e => by
              rcases e with e | e
              · have e : B6 = B5 := e
                omega
              · have := (HROWn.out.lt B6 e).1
                omega, by
            rw [hcon]
            exact HRDn.out.keep hkM fun a ha e => by
              have h1 := HNF.out a ha
              have h2 := HKA.out.size
              rcases e with e | e
              · have h3 := (Array.getElem?_eq_some_iff.1 (HAT.out.b6.choose_spec.choose_spec.1)).1
                have e : a.block = B5 := e
                omega
              · have h3 := (HAT.out.row.lt a.block e).2
                omega⟩, keep_blk hkM HBKn.out fun e => by
              rcases e with e | e
              · have e : K = B5 := e
                omega
              · have := (HROWn.out.lt K e).1
                omega, HKn.out.new hkM fun b e => by
              rcases e with e | e
              · have e : b = B5 := e
                omega
              · have := (HROWn.out.lt b e).1
                omega, hne⟩)
        clear z2 z3 z4 hk17 hF f27 f29 hkM hcs hcon hgood hmod hmw hmul hadd
        go_wp2_with fail
        exact ⟨⟨rb, i + 1, _, rfl, by simp, HGD.out, by omega, HSP.out⟩, by simp only [intOf]; omega⟩
      | false =>
        go_upto_region 17 with fail
        have hb6w := HKW.out.blk (HAT.out.b6.choose_spec.choose_spec.1)
        have hset := put1 (i := 1) (put1 (i := 0) hb6w (.int .i64 rk)) (.slice g17.p ry.length g17.c)
        have ks : KeepBut (fun k => k = B6) w9 ((w9.setCell ⟨B6, 0, none⟩ (.int .i64 rk)).setCell ⟨B6, 1, none⟩ (.slice g17.p ry.length g17.c)) := (KeepBut.setCell (E := fun k => k = B6) _ _ _ rfl).trans (KeepBut.setCell (E := fun k => k = B6) _ _ _ rfl)
        obtain ⟨W16, hW16⟩ : ∃ W, (w9.setCell ⟨B6, 0, none⟩ (.int .i64 rk)).setCell ⟨B6, 1, none⟩ (.slice g17.p ry.length g17.c) = W := ⟨_, rfl⟩
        rw [hW16] at hset ks ⊢
        have HB6n := Lib.hid (show W16.heap[B6]? = some (.cells #[.int .i64 rk, .slice g17.p ry.length g17.c] TC (0, 0)) from hset)
        have hne := HAT.out.ne
        have HKn := Lib.hid (show KeepBut (fun _ => False) w1 W16 from (HAT.out.keep.trans HKW.out).new ks fun b e => by have e : b = B6 := e; omega)
        have HROWn := Lib.hid (row_keepE (row_keep HAT.out.row HKW.out) ks fun g hg e => by have e : g = B6 := e; omega)
        have HB5n := Lib.hid (keep_blk ks (HKW.out.blk HAT.out.b5) (fun e => by have e : B5 = B6 := e; omega))
        have HBKn := Lib.hid (keep_blk ks (HKW.out.blk HAT.out.bk) (fun e => by have e : K = B6 := e; omega))
        have HRDn := Lib.hid (HF17.out.1.keep ks fun a ha e => by
          have h1 := HNF.out a ha
          have h2 := HKA.out.size
          have h3 := (Array.getElem?_eq_some_iff.1 (HAT.out.b6.choose_spec.choose_spec.1)).1
          have e : a.block = B6 := e
          omega)
        obtain ⟨dg', dof', hpd, y0, y1, y2, y3, y4⟩ := HD.out i hlt
        cases hpd
        have STM := fun (oo : Nat) (u : Value) (hc : w.cell? ⟨dg, oo, none⟩ = some u) (w' : World) (hk : KeepBut (fun b => b = B5 ∨ v.ownBlock = some b) W16.drew w') => keep_cell (((KeepBut.drew _ W16)).trans hk) ((HK1.out.trans HKn.out).stay hc) (fun e => by
          have h9 : dg < w.heap.size := World.block_lt_of_cell? w _ y0
          have h8 := HK1.out.size
          rcases e with e | e
          · have e : dg = B5 := e
            omega
          · have := (HROWn.out.lt dg e).1
            omega)
        rw [HXA.out] at y2; rw [HXV.out] at y3; rw [HXC.out] at y4
        have z2 := STM _ _ y2; have z3 := STM _ _ y3; have z4 := STM _ _ y4
        have hmod : (i : Int).tmod 3 = (i : Int) % 3 := Int.tmod_eq_emod_of_nonneg hi0
        have hm3 : 0 ≤ (i : Int) % 3 ∧ (i : Int) % 3 < 3 := ⟨Int.emod_nonneg _ (by decide), Int.emod_lt_of_pos _ (by decide)⟩
        have hmw : IntKind.i64.wrap ((i : Int) % 3) = (i : Int) % 3 := IntWalk.i64_in _ (by omega)
        have hmul : IntKind.i64.wrap (2 * (i : Int)) = 2 * (i : Int) := IntWalk.i64_in _ (by omega)
        have hadd : IntKind.i64.wrap (2 * (i : Int) + 1) = 2 * (i : Int) + 1 := IntWalk.i64_in _ (by omega)
        obtain ⟨i0, hi0', hz0, hz1, hz2⟩ := info_parts info_call
        have HI0 := Lib.hid hi0'; have HZ0 := Lib.hid hz0; have HZ1 := Lib.hid hz1; have HZ2 := Lib.hid hz2
        have HBS := Lib.hid (show B6 + 1 ≤ W16.heap.size from (Array.getElem?_eq_some_iff.1 HB6n.out).1)
        clear hi0' hz0 hz1 hz2 hset ks hW16 STM y0 y1 y2 y3 y4 c0 c1 p0 p1 r0 r1 hb6w hm3
        refine wp_own2 (by kernel_rfl) B5 _ HB5n.out (B6 + 1) TCl 8 v i _ HROWn.out (by omega) (fun i => [[], [0], [], [2], [], [], [], [5, 6], [5, 6, 7], [5, 6, 7, 8], [], [10], [], [12], [12, 13], [], [], [15, 16], [15, 16, 17], [15, 16, 17, 18], [], [], [20, 21], [20, 21, 22], [20, 21, 22, 23], [2, 3, 4, 5, 6, 7, 8, 9, 10, 11, 12, 13, 14, 15, 16, 17, 18, 19, 20, 21, 22, 23, 24], [2, 3, 4, 5, 6, 7, 8, 9, 10, 11, 12, 13, 14, 15, 16, 17, 18, 19, 20, 21, 22, 23, 24, 25], [0, 1, 2, 3, 4, 5, 6, 7, 8, 9, 10, 11, 12, 13, 14, 15, 16, 17, 18, 19, 20, 21, 22, 23, 24, 25, 26], [0, 1, 2, 3, 4, 5, 6, 7, 8, 9, 10, 11, 12, 13, 14, 15, 16, 17, 18, 19, 20, 21, 22, 23, 24, 25, 26, 27], [0, 1, 2, 3, 4, 5, 6, 7, 8, 9, 10, 11, 12, 13, 14, 15, 16, 17, 18, 19, 20, 21, 22, 23, 24, 25, 26, 27, 28]].getD i []) (fun i => if i = 1 then [30] else if i = 27 then [31, 26] else if i = 29 then [30] else []) (fun i => if i = 27 then [31] else if i = 29 then [30] else []) [27, 29] (by kernel_rfl)
          (fun j => if j = 1 then some (sConst v) else if j = 26 then some { val := fun _ g => .slice (some ⟨g.b, 0, none⟩) 1 1, fp := fun _ g k => k = g.b, post := fun _ g w => w.heap[g.b]? = some (.cells #[.int .i64 ((i : Int) % 3), .int .i64 0, .int .i64 op, .int .i64 xa, .int .i64 (2 * (i : Int)), .int .i64 (2 * (i : Int) + 1), .int .i64 xv, .int .i64 xc] TCl (0, 0)) }
            else if j = 27 then some (sRow (B6 + 1) TCl 8 (i + 1) (cellsC (csS 3 ls i) ++ [.int .i64 ((i : Int) % 3), .int .i64 0, .int .i64 op, .int .i64 xa, .int .i64 (2 * (i : Int)), .int .i64 (2 * (i : Int) + 1), .int .i64 xv, .int .i64 xc]))
            else if j = 29 then some (sCellA B5 1 THi #[.slice (some ⟨K, 0, none⟩) 1 1, v]) else none) ?_
        apply lex_quiet rfl rfl
        · intro w' hk; go_simp; with_reducible rfl
        simp only [Act.put, List.setIfInBounds_toArray, List.set_cons_zero, List.set_cons_succ]
        refine lex_loud rfl rfl (loud_run ⟨default, trivial⟩ (fun g _ w w' _ _ _ _ _ => trivial) fun w' hk hav _ => by
          have hx : w'.cell? ⟨B5, 1, none⟩ = some v := blk_cell (show w'.heap[B5]? = some (.cells #[.slice (some ⟨K, 0, none⟩) 1 1, v] THi (0, 0)) from (hav 30 (by decide)).1) rfl
          exact ⟨w', default, trivial, .inl (by go_simp <;> rfl), KeepBut.refl _ _, fun b h => h.elim, trivial⟩) fun _ _ => ?_
        simp only [sConst, Act.put, List.setIfInBounds_toArray, List.set_cons_zero, List.set_cons_succ]
        apply lex_quiet rfl rfl
        · intro w' hk; go_simp; with_reducible rfl
        simp only [Act.put, List.setIfInBounds_toArray, List.set_cons_zero, List.set_cons_succ]
        apply lex_quiet rfl rfl
        · intro w' hk; go_simp; with_reducible rfl
        simp only [Act.put, List.setIfInBounds_toArray, List.set_cons_zero, List.set_cons_succ]
        apply lex_quiet rfl rfl
        · intro w' hk; go_simp; with_reducible rfl
        simp only [Act.put, List.setIfInBounds_toArray, List.set_cons_zero, List.set_cons_succ]
        apply lex_quiet rfl rfl
        · intro w' hk; go_simp; with_reducible rfl
        simp only [Act.put, List.setIfInBounds_toArray, List.set_cons_zero, List.set_cons_succ]
        apply lex_quiet rfl rfl
        · intro w' hk; go_simp; with_reducible rfl
        simp only [Act.put, List.setIfInBounds_toArray, List.set_cons_zero, List.set_cons_succ]
        apply lex_quiet rfl rfl
        · intro w' hk; go_simp; with_reducible rfl
        simp only [Act.put, List.setIfInBounds_toArray, List.set_cons_zero, List.set_cons_succ]
        apply lex_quiet rfl rfl
        · intro w' hk; go_simp; with_reducible rfl
        simp only [Act.put, List.setIfInBounds_toArray, List.set_cons_zero, List.set_cons_succ]
        apply lex_quiet rfl rfl
        · intro w' hk; go_simp; with_reducible rfl
        simp only [Act.put, List.setIfInBounds_toArray, List.set_cons_zero, List.set_cons_succ]
        apply lex_quiet rfl rfl
        · intro w' hk; go_simp; with_reducible rfl
        simp only [Act.put, List.setIfInBounds_toArray, List.set_cons_zero, List.set_cons_succ]
        apply lex_quiet rfl rfl
        · intro w' hk; go_simp; with_reducible rfl
        simp only [Act.put, List.setIfInBounds_toArray, List.set_cons_zero, List.set_cons_succ]
        apply lex_quiet rfl rfl
        · intro w' hk; go_simp; with_reducible rfl
        simp only [Act.put, List.setIfInBounds_toArray, List.set_cons_zero, List.set_cons_succ]
        apply lex_quiet rfl rfl
        · intro w' hk; go_simp; with_reducible rfl
        simp only [Act.put, List.setIfInBounds_toArray, List.set_cons_zero, List.set_cons_succ]
        apply lex_quiet rfl rfl
        · intro w' hk; go_simp; with_reducible rfl
        simp only [Act.put, List.setIfInBounds_toArray, List.set_cons_zero, List.set_cons_succ]
        apply lex_quiet rfl rfl
        · intro w' hk; go_simp; with_reducible rfl
        simp only [Act.put, List.setIfInBounds_toArray, List.set_cons_zero, List.set_cons_succ]
        apply lex_quiet rfl rfl
        · intro w' hk; go_simp; with_reducible rfl
        simp only [Act.put, List.setIfInBounds_toArray, List.set_cons_zero, List.set_cons_succ]
        apply lex_quiet rfl rfl
        · intro w' hk; go_simp; with_reducible rfl
        simp only [Act.put, List.setIfInBounds_toArray, List.set_cons_zero, List.set_cons_succ]
        apply lex_quiet rfl rfl
        · intro w' hk; go_simp; with_reducible rfl
        simp only [Act.put, List.setIfInBounds_toArray, List.set_cons_zero, List.set_cons_succ]
        apply lex_quiet rfl rfl
        · intro w' hk; go_simp; with_reducible rfl
        simp only [Act.put, List.setIfInBounds_toArray, List.set_cons_zero, List.set_cons_succ]
        apply lex_quiet rfl rfl
        · intro w' hk; go_simp; with_reducible rfl
        simp only [Act.put, List.setIfInBounds_toArray, List.set_cons_zero, List.set_cons_succ]
        apply lex_quiet rfl rfl
        · intro w' hk; go_simp; with_reducible rfl
        simp only [Act.put, List.setIfInBounds_toArray, List.set_cons_zero, List.set_cons_succ]
        apply lex_quiet rfl rfl
        · intro w' hk; go_simp; with_reducible rfl
        simp only [Act.put, List.setIfInBounds_toArray, List.set_cons_zero, List.set_cons_succ]
        apply lex_quiet rfl rfl
        · intro w' hk; go_simp; with_reducible rfl
        simp only [Act.put, List.setIfInBounds_toArray, List.set_cons_zero, List.set_cons_succ]
        apply lex_quiet rfl rfl
        · intro w' hk; go_simp; with_reducible rfl
        simp only [Act.put, List.setIfInBounds_toArray, List.set_cons_zero, List.set_cons_succ]
        apply lex_quiet rfl rfl
        · intro w' hk; go_simp; with_reducible rfl
        simp only [Act.put, List.setIfInBounds_toArray, List.set_cons_zero, List.set_cons_succ]
        refine lex_loud rfl rfl (loud_new (fun b => .slice (some ⟨b, 0, none⟩) 1 1) (.cells #[.int .i64 ((i : Int) % 3), .int .i64 0, .int .i64 op, .int .i64 xa, .int .i64 (2 * (i : Int)), .int .i64 (2 * (i : Int) + 1), .int .i64 xv, .int .i64 xc] TCl) rfl (fun _ _ => rfl) (fun _ _ _ => Iff.rfl) (fun _ _ _ => Iff.rfl) (fun w => by go_simp)) fun g26 _ => ?_
        simp only [Act.put, List.setIfInBounds_toArray, List.set_cons_zero, List.set_cons_succ]
        refine lex_loud rfl rfl (loud_appendR (B6 + 1) TCl 23 i0 _ 8 64 calls_ty HI0.out HZ0.out HZ1.out HZ2.out rfl (by decide) (.tmp 85) (.tmp 110) rfl v i (cellsC (csS 3 ls i)) g26.b [.int .i64 ((i : Int) % 3), .int .i64 0, .int .i64 op, .int .i64 xa, .int .i64 (2 * (i : Int)), .int .i64 (2 * (i : Int) + 1), .int .i64 xv, .int .i64 xc] rfl rfl rfl (fun u hu => by
          simp only [List.mem_cons, List.not_mem_nil, or_false] at hu
          rcases hu with rfl | rfl | rfl | rfl | rfl | rfl | rfl | rfl <;> rfl) (by unfold maxLen; omega) (by omega) HBS.out 31 (by decide) (by decide) (fun w h => h) (fun b hb => .inr ⟨rfl, hb⟩) 26 (by decide) (fun w h => h)) fun g27 _ => ?_
        simp only [sRow, Act.put, List.setIfInBounds_toArray, List.set_cons_zero, List.set_cons_succ]
        apply lex_quiet rfl rfl
        · intro w' hk; go_simp; with_reducible rfl
        simp only [Act.put, List.setIfInBounds_toArray, List.set_cons_zero, List.set_cons_succ]
        refine lex_loud rfl rfl (loud_cellA B5 1 THi #[.slice (some ⟨K, 0, none⟩) 1 1, v] (.slice g27.p (i + 1) g27.c) (put_args rfl rfl) (fun w u hc hf => by go_simp <;> rfl) 30 (by decide) (by decide) (fun w h => h) (.inl ⟨rfl, rfl⟩) (by show 1 < 2; decide)) fun g29 _ => ?_
        simp only [sCellA, Act.put]
        refine lex_nil ?_
        intro w17 hk17 hF _
        have f27 : w17.ownsRow (B6 + 1) TCl 8 (.slice g27.p (i + 1) g27.c) (i + 1) _ := (hF 27 (by decide)).1
        have f29 : w17.heap[B5]? = some (.cells #[.slice (some ⟨K, 0, none⟩) 1 1, .slice g27.p (i + 1) g27.c] THi (0, 0)) := (hF 29 (by decide)).1.trans (by rw [put_args rfl rfl]; rfl)
        have hkM := (KeepBut.drew (fun b => b = B5 ∨ v.ownBlock = some b) W16).trans hk17
        have hcs : callS 3 ls i = ⟨(i : Int) % 3, 0, op, xa, 2 * (i : Int), 2 * (i : Int) + 1, xv, xc⟩ := by unfold callS; rw [HOP.out, HXA.out, HXV.out, HXC.out]
        have hcon : conS 3 ls (i + 1) = (rk, ry) := by rw [conS_succ, HE.out, HOP.out, HXA.out, HXV.out, HXC.out, HMY.out]
        have hgood : false = goodS 3 ls (i + 1) := by rw [goodS_succ, HE.out, HOP.out, HXA.out, HXV.out, HXC.out, HMY.out, ← HG.out]; rfl
        have HGD := Lib.hid hgood
        have HSP := Lib.hid (show SpecAt 3 ls w1 w17 K B5 B6 (.slice g27.p (i + 1) g27.c) (i + 1) from ⟨by
            rw [csS_succ, cellsC_snoc, hcs]; exact f27, f29, ⟨g17.p, g17.c, by
            rw [hcon]
            exact keep_blk hkM HB6n.out fun e => by
              rcases e with e | e
              · have e : B6 = B5 := e
                omega
              · have := (HROWn.out.lt B6 e).1
                omega, by
            rw [hcon]
            exact HRDn.out.keep hkM fun a ha e => by
              have h1 := HNF.out a ha
              have h2 := HKA.out.size
              rcases e with e | e
              · have h3 := (Array.getElem?_eq_some_iff.1 (HAT.out.b6.choose_spec.choose_spec.1)).1
                have e : a.block = B5 := e
                omega
              · have h3 := (HAT.out.row.lt a.block e).2
                omega⟩, keep_blk hkM HBKn.out fun e => by
              rcases e with e | e
              · have e : K = B5 := e
                omega
              · have := (HROWn.out.lt K e).1
                omega, HKn.out.new hkM fun b e => by
              rcases e with e | e
              · have e : b = B5 := e
                omega
              · have := (HROWn.out.lt b e).1
                omega, hne⟩)
        clear z2 z3 z4 hk17 hF f27 f29 hkM hcs hcon hgood hmod hmw hmul hadd
        go_wp2_with fail
        exact ⟨⟨false, i + 1, _, rfl, by simp, HGD.out, by omega, HSP.out⟩, by simp only [intOf]; omega⟩
    · have hnl : ¬ (i : Int) < ls.length := by omega
      obtain ⟨wo, hwo⟩ : ∃ wo : World, wo = wr := ⟨_, rfl⟩
      subst hwo
      have e : i = ls.length := by omega
      subst e
      clear hlt
      obtain ⟨csn, hcsn⟩ : ∃ c, csS 3 ls ls.length = c := ⟨_, rfl⟩
      have HIR := Lib.hid (show InRow 3 csn by rw [← hcsn]; exact csS_row HKB.out ls ls.length)
      have HCL := Lib.hid (show csn.length = ls.length by rw [← hcsn]; exact csS_len _ _ _)
      have HGS := Lib.hid (show g = (stAll 3 csn).2 by rw [← hcsn]; exact HG.out)
      have hrow := hat.row
      rw [hcsn] at hrow
      obtain ⟨pv, cv, hv, hrd, -⟩ := Rd.of_owns hrow
      subst hv
      have hcl := HCL.out
      have HIH := Lib.hid (show HistIn wo (some ⟨K, 0, none⟩) pv [3] csn from ⟨fun j u hj => ⟨K, 0, rfl, by
        rw [Nat.zero_add]
        exact blk_cell hat.bk (by simpa [ints] using hj)⟩, rowC_of_rd hrd, by decide, by omega, fun k hk => by rw [List.mem_singleton] at hk; rw [hk]; exact HIN.out, fun c hc => by
          rw [← hcsn] at hc
          obtain ⟨j, _, rfl⟩ := List.mem_map.1 hc
          exact argsD_nth HA.out j, (HTB.out wo (HK1.out.trans hat.keep)).1, (HTB.out wo (HK1.out.trans hat.keep)).2⟩)
      have HLIN := Lib.hid (row_lin HIR.out (by omega))
      have HCON := Lib.hid (show conS 3 ls ls.length = (stAll 3 csn).1 by rw [← hcsn]; rfl)
      have HSMC := Lib.hid (con_small HIN.out HA.out ls.length)
      have hO0 : Hid (Calls Tryd.prog 17 #[.agg #[.slice (some ⟨K, 0, none⟩) 1 1, .slice pv ls.length cv]] wo fun e w' => OrderDone [3] csn wo e w') := Lib.hid (by
        have h := order_any wo (some ⟨K, 0, none⟩) pv 1 cv [3] csn HIH.out
        unfold histV at h
        rw [hcl] at h
        exact h)
      have HLN := fun W (h : KeepBut (fun _ => False) wo W) => linear_any W (some ⟨K, 0, none⟩) pv 1 cv [3] csn (HIH.out.stay h)
      have HCH := fun W (h : KeepBut (fun _ => False) wo W) => chkH_any W (some ⟨K, 0, none⟩) pv 1 cv [3] csn (HIH.out.stay h).rd (HIH.out.stay h).calls (by decide) (by omega)
      rw [show chkH [3] csn = 0 from chkH_ok.2 ⟨HIR.out.good, by omega⟩] at HCH
      unfold histV at HLN HCH
      rw [hcl] at HLN HCH
      have HLN := Lib.hid HLN; have HCH := Lib.hid HCH
      have hb5 := hat.b5
      have HB5E := Lib.hid hb5
      obtain ⟨b0, b1, -⟩ := blk2 hb5
      have HKR := Lib.hid hat.keep
      clear hrow hcsn hrd hat hb5
      go_wp2_with fail
      go_at_call 17
      refine hO0.out.mono ?_
      intro e w3 h
      obtain ⟨q, c, o, er, rfl, h1, h2, h3, h4, h5, hk⟩ := order_lin h
      have HRD := Lib.hid h5; have HK3 := Lib.hid hk
      have HER := Lib.hid (show (er == 0) = g by
        rw [Bool.eq_iff_iff, h1, HLIN.out, ← HGS.out])
      have HOR := Lib.hid (show er = 0 → o = List.range csn.length ∧ ordB csn 0 (startP [3]) o = true from fun e => ⟨row_order HIR.out (ord_of o (by omega) (h2 e).2), (h2 e).2⟩)
      have HON := Lib.hid (show ∀ j, j < o.length → nth (natI o) j = j by
        intro j hj
        by_cases e : er = 0
        · have h9 := (HOR.out e).1
          rw [nth_eq (by rw [natI_length]; exact hj)]
          simp only [h9, natI, List.getElem_map, List.getElem_range]
        · rw [h3 e] at hj
          exact absurd hj (by simp))
      have HOL := Lib.hid (show o.length ≤ 24 by
        by_cases e : er = 0
        · rw [(HOR.out e).1, List.length_range]; omega
        · rw [h3 e]; simp)
      clear h h1 h2 h3 h4 h5 hk b0 b1
      obtain ⟨b0, b1, -⟩ := blk2 (HK3.out.blk HB5E.out)
      have herg : (er == 0) = g := HER.out
      go_wp2_with fail
      go_at_call 11
      refine (HCH.out w3 HK3.out).mono ?_
      rintro e w4 ⟨rfl, hk⟩
      have HK4 := Lib.hid (HK3.out.trans hk); have HK34 := Lib.hid hk
      clear hk b0 b1
      obtain ⟨b0, b1, -⟩ := blk2 (HK4.out.blk HB5E.out)
      go_wp2_with fail
      go_at_call 13
      refine (HLN.out w4 HK4.out).mono ?_
      rintro e w5 ⟨lv, rfl, hlv, hk⟩
      have hlg : lv = g := by rw [Bool.eq_iff_iff, hlv, HLIN.out, ← HGS.out]
      have HK5 := Lib.hid (HK4.out.trans hk)
      have HKA5 := Lib.hid (show KeepBut (fun _ => False) w3 w5 from HK34.out.trans hk)
      clear hk b0 b1 hlv
      subst hlg
      have hgg : (lv != lv) = false := by cases lv <;> rfl
      have hol24 := HOL.out
      go_wp2_with fail
      clear hgg herg
      go_loopw [16] (fun v16 wx => ∃ j : Nat, v16 = .int .i64 j ∧ j ≤ o.length ∧ KeepBut (fun _ => False) w5 wx) (fun v _ => o.length - (intOf v).toNat)
      case atStart => exact ⟨0, rfl, Nat.zero_le _, KeepBut.refl _ _⟩
      case round =>
        obtain ⟨j, rfl, hj, hkx⟩ := hrel
        have HKX := Lib.hid hkx
        by_cases hjl : j < o.length
        · have hjli : (j : Int) < o.length := by omega
          have hj0 : (0 : Int) ≤ j := by omega
          have hWj : IntKind.i64.wrap ((j : Int) + 1) = (j : Int) + 1 := IntWalk.i64_in _ (by omega)
          have hrj := HRD.out.stay ((HKA5.out).trans hkx)
          obtain ⟨b, oo, hp, -⟩ := hrj.ptr (by rw [ints_length, natI_length]; omega)
          subst hp
          have hc := hrj.int j (by rw [natI_length]; exact hjl)
          rw [HON.out j hjl] at hc
          have hjj : ((j : Int) != (j : Int)) = false := by simp
          clear hrj hkx
          go_wp2_with fail
          exact ⟨⟨j + 1, by simp, by omega, HKX.out⟩, by simp only [intOf]; omega⟩
        · have hjn : ¬ (j : Int) < o.length := by omega
          have HKF := Lib.hid (HK5.out.trans hkx)
          clear hkx
          cases lv with
          | false =>
            go_upto_region 26 with fail
            go_quiet (fail)
            go_wp2_with fail
            go_ret
            exact ⟨rfl, ((HK1.out.trans HKR.out).trans HKF.out).trans (KeepBut.drewN _ _ _)⟩
          | true =>
            have her0 : er = 0 := by have := HER.out; simpa using this
            obtain ⟨hor, hob⟩ := HOR.out her0
            have hle : ((o.length : Int) == (ls.length : Int)) = true := by rw [hor, List.length_range, hcl]; simp
            obtain ⟨⟨ek, ex⟩, hee⟩ : ∃ e, conS 3 ls ls.length = e := ⟨_, rfl⟩
            obtain ⟨eq, ec, hb6, hrd6⟩ := HAT.out.b6
            have hsm := HSMC.out
            rw [hee] at hb6 hrd6 hsm
            dsimp only at hb6 hrd6 hsm
            have HB6 := Lib.hid (HKF.out.blk hb6); have HRD6 := Lib.hid (hrd6.stay HKF.out); have HSM := Lib.hid hsm
            have HFO := Lib.hid (show foldC (startP [3]) (o.map (nthC csn)) = some [(ek, ex)] by
              rw [hor, map_range, row_fold HIR.out, if_pos HGS.out.symm, ← HCON.out, hee])
            have HAL := Lib.hid (show AllowedP [3] csn (natI o) from ⟨chkH_ok.2 ⟨HIR.out.good, by omega⟩, o, rfl, hob⟩)
            have HEN := Lib.hid (fun W (h : KeepBut (fun _ => False) wo W) (hr : Rd W q (ints (natI o))) => show Calls Tryd.prog 23 #[.agg #[.slice (some ⟨K, 0, none⟩) 1 1, .slice pv ls.length cv], .slice q o.length c, .int .i64 0] W (fun e w' => ∃ q' c', e = .returned (.agg #[.int .i64 ek, .slice q' ex.length c']) ∧ Rd w' q' (ints ex) ∧ KeepBut (fun _ => False) W w' ∧ ∀ b, Of q' b → W.heap.size ≤ b ∧ b < w'.heap.size) by
              have h := ends_new W (some ⟨K, 0, none⟩) pv 1 cv [3] csn (HIH.out.stay h) q c (natI o) hr (by rw [natI_length]; omega) 0 (by decide) HAL.out
              unfold histV at h
              rw [hcl, natI_length] at h
              refine h.mono ?_
              rintro e w' ⟨q', c', xs, k, hh, o', rfl, g1, g2, g3, g4, -, g6, g7⟩
              have g8 : o' = o := natI_inj g1
              subst g8
              have g9 : hh = [(ek, ex)] := Option.some.inj (g2.symm.trans HFO.out)
              subst g9
              have g10 : (ek, ex) = (k, xs) := g3
              cases g10
              exact ⟨q', c', rfl, g4, g6, g7⟩)
            obtain ⟨u0, u1, -⟩ := blk2 (HKF.out.blk HB5E.out)
            obtain ⟨q0, q1, -⟩ := blk2 HB6.out
            have ST := fun (gg oo : Nat) (u : Value) (hc : wr.cell? ⟨gg, oo, none⟩ = some u) (w' : World) (hk : KeepBut (fun _ => False) wr.drew w') => ((KeepBut.drew (fun _ => False) wr).trans hk).stay hc
            have z0 := ST _ _ _ u0; have z1 := ST _ _ _ u1; have z2 := ST _ _ _ q0; have z3 := ST _ _ _ q1
            clear her0 hor hob hee hb6 hrd6 hsm u0 u1 q0 q1 ST
            go_upto_region 26 with fail
            refine wp_own0 (by kernel_rfl) (fun i => [[], [0], [0, 1], [0, 1, 2], [0, 1, 2, 3], [0, 1, 2], [0, 1, 2, 5], [0, 1, 2, 3, 4, 5, 6], [0, 1, 2, 3, 4, 5, 6, 7], [0, 1, 2, 3, 4, 5, 6, 7, 8], [0, 1, 2, 3, 4, 5, 6, 7, 8], [0, 1, 2, 3, 4, 5, 6, 7, 8, 9, 10], [0, 1, 2, 3, 4, 5, 6, 7, 8], [0, 1, 2, 3, 4, 5, 6, 7, 8, 9, 10, 11, 12], [0, 1, 2, 3, 4, 5, 6, 7, 8, 9, 10, 11, 12, 13], [0, 1, 2, 3, 4, 5, 6, 7, 8, 9, 10, 11, 12, 13, 14], [0, 1, 2, 3, 4, 5, 6, 7, 8, 9, 10, 11, 12, 13, 14, 15]].getD i []) (fun i => if i = 13 then [11] else []) (fun _ => []) [] (by kernel_rfl)
              (fun i => if i = 11 then some (sRdI (fun p c => .agg #[.int .i64 ek, .slice p ex.length c]) ex) else if i = 13 then some (sConst (.bool true)) else none) ?_
            apply lex_quiet rfl rfl
            · intro w' hk; go_simp; with_reducible rfl
            simp only [Act.put, List.setIfInBounds_toArray, List.set_cons_zero, List.set_cons_succ]
            apply lex_quiet rfl rfl
            · intro w' hk; go_simp; with_reducible rfl
            simp only [Act.put, List.setIfInBounds_toArray, List.set_cons_zero, List.set_cons_succ]
            apply lex_quiet rfl rfl
            · intro w' hk; go_simp; with_reducible rfl
            simp only [Act.put, List.setIfInBounds_toArray, List.set_cons_zero, List.set_cons_succ]
            apply lex_quiet rfl rfl
            · intro w' hk; go_simp; with_reducible rfl
            simp only [Act.put, List.setIfInBounds_toArray, List.set_cons_zero, List.set_cons_succ]
            apply lex_quiet rfl rfl
            · intro w' hk; go_simp; with_reducible rfl
            simp only [Act.put, List.setIfInBounds_toArray, List.set_cons_zero, List.set_cons_succ]
            apply lex_quiet rfl rfl
            · intro w' hk; go_simp; with_reducible rfl
            simp only [Act.put, List.setIfInBounds_toArray, List.set_cons_zero, List.set_cons_succ]
            apply lex_quiet rfl rfl
            · intro w' hk; go_simp; with_reducible rfl
            simp only [Act.put, List.setIfInBounds_toArray, List.set_cons_zero, List.set_cons_succ]
            apply lex_quiet rfl rfl
            · intro w' hk; go_simp; with_reducible rfl
            simp only [Act.put, List.setIfInBounds_toArray, List.set_cons_zero, List.set_cons_succ]
            apply lex_quiet rfl rfl
            · intro w' hk; go_simp; with_reducible rfl
            simp only [Act.put, List.setIfInBounds_toArray, List.set_cons_zero, List.set_cons_succ]
            apply lex_quiet rfl rfl
            · intro w' hk; go_simp; with_reducible rfl
            simp only [Act.put, List.setIfInBounds_toArray, List.set_cons_zero, List.set_cons_succ]
            apply lex_quiet rfl rfl
            · intro w' hk; go_simp; with_reducible rfl
            simp only [Act.put, List.setIfInBounds_toArray, List.set_cons_zero, List.set_cons_succ]
            refine lex_loud rfl rfl (loud_call 23 #[.agg #[.slice (some ⟨K, 0, none⟩) 1 1, .slice pv ls.length cv], .slice q o.length c, .int .i64 0] (fun w => by kernel_rfl) ⟨default, trivial⟩ (fun g _ => stable_rdI g.p ex) fun w' hk _ _ => (HEN.out w' (HKF.out.trans ((KeepBut.drew _ _).trans hk)) (HRD.out.stay ((HKA5.out.trans HKX.out).trans ((KeepBut.drew _ _).trans hk)))).mono ?_) fun g11 _ => ?_
            · rintro e w'' ⟨q', c', rfl, g4, g6, g7⟩
              exact ⟨{ p := q', c := c' }, trivial, rfl, g6.mono fun _ e => e.elim, fun b hb => ⟨.inl (g7 b hb).1, (g7 b hb).2⟩, g4⟩
            simp only [sRdI, Act.put, List.setIfInBounds_toArray, List.set_cons_zero, List.set_cons_succ]
            apply lex_quiet rfl rfl
            · intro w' hk; go_simp; with_reducible rfl
            simp only [Act.put, List.setIfInBounds_toArray, List.set_cons_zero, List.set_cons_succ]
            refine lex_loud rfl rfl (loud_call 22 #[.agg #[.int .i64 ek, .slice g11.p ex.length g11.c], .agg #[.int .i64 ek, .slice eq ex.length ec]] (fun w => by kernel_rfl) ⟨default, trivial⟩ (fun g _ => stable_true _) fun w' hk hav _ => (content_any w' ek ek g11.p eq g11.c ec ex ex (hav 11 (by decide)).1 (HRD6.out.stay ((KeepBut.drew _ _).trans hk)) (by have := HSM.out.2.1; omega) (by have := HSM.out.2.1; omega)).mono ?_) fun g13 _ => ?_
            · rintro e w'' ⟨rfl, hq⟩
              exact ⟨default, trivial, by simp [sConst], hq.mono fun _ e => e.elim, fun b h => h.elim, trivial⟩
            simp only [sConst, Act.put, List.setIfInBounds_toArray, List.set_cons_zero, List.set_cons_succ]
            apply lex_quiet rfl rfl
            · intro w' hk; go_simp; with_reducible rfl
            simp only [Act.put, List.setIfInBounds_toArray, List.set_cons_zero, List.set_cons_succ]
            apply lex_quiet rfl rfl
            · intro w' hk; go_simp; with_reducible rfl
            simp only [Act.put, List.setIfInBounds_toArray, List.set_cons_zero, List.set_cons_succ]
            apply lex_quiet rfl rfl
            · intro w' hk; go_simp; with_reducible rfl
            simp only [Act.put, List.setIfInBounds_toArray, List.set_cons_zero, List.set_cons_succ]
            refine lex_nil ?_
            intro w9 hk9 _ _
            have HFIN := Lib.hid (show TrueOf w (.returned (.bool true)) w9 from ⟨rfl, ((HK1.out.trans HKR.out).trans HKF.out).trans ((KeepBut.drew _ _).trans hk9)⟩)
            clear z0 z1 z2 z3 hk9
            go_wp2_with fail
            go_ret
            exact HFIN.out

end Go.Proofs.YtoolpifkfgileaaDoor
