/- Joined texts of this work: Tel3, Tel4, Lv17, Lw17, Tab17, Arr3, Trod. -/
import Derived.Test.YtomlffobbkcmdaaGreatDoorJp21
import Derived.Laws.Strings
import Derived.Laws.Strings2
import Derived.Test.YtomlffobbkcmdaaGreatDoorRows
import Derived.Test.YtomlffobbkcmdaaGreatDoorJp16
import Derived.Lib.LaidTab
import Derived.Lib.Fields
import Derived.ProofKit
import Derived.OpenShut
import Derived.LaidMore
import Derived.Lay
import Derived.Stop.Joined
import Derived.WideKeyArr2
import Derived.Lib.SmallJoins

/-
  A teller: expr, over any tree that may be a text's.
-/
namespace Go.Proofs.YtomlffobbkcmdaaGreatDoor
open Go Go.RowKit Own

theorem mayK_1 {o n : Int} {nm : List UInt8} {m : Nat} (h : mayK 1 o n nm m = true) : 0 ≤ n := by
  unfold mayK at h
  rw [if_pos rfl] at h
  simp only [Bool.and_eq_true, decide_eq_true_eq] at h
  exact h.1
theorem mayK_3 {o n : Int} {nm : List UInt8} {m : Nat} (h : mayK 3 o n nm m = true) : m = 1 := by
  unfold mayK at h
  rw [if_neg (by decide), if_pos (.inr rfl)] at h
  simp only [Bool.and_eq_true, decide_eq_true_eq] at h
  omega
theorem mayK_4 {o n : Int} {nm : List UInt8} {m : Nat} (h : mayK 4 o n nm m = true) : (o = 1 ∨ o = 2) ∧ m = 1 := by
  unfold mayK at h
  rw [if_neg (by decide), if_neg (by decide), if_pos rfl] at h
  simp only [Bool.and_eq_true, Bool.or_eq_true, decide_eq_true_eq] at h
  exact ⟨h.1, h.2.2.2⟩
theorem mayK_5 {k o n : Int} {nm : List UInt8} {m : Nat} (h1 : k ≠ 1) (h2 : k ≠ 2) (h3 : k ≠ 3) (h4 : k ≠ 4) (h : mayK k o n nm m = true) : k = 5 ∧ (1 ≤ o ∧ o ≤ 13) ∧ m = 2 := by
  unfold mayK at h
  rw [if_neg h1, if_neg (fun e => e.elim h2 h3), if_neg h4] at h
  split at h
  · simp only [Bool.and_eq_true, decide_eq_true_eq] at h
    exact ⟨by assumption, h.1, h.2.2.2⟩
  · cases h
theorem gkids_one {w : World} {S : Nat → Prop} {p : Option Addr} {y : Gx} {l : List Gx} (h : GKids w S p 0 (y :: l)) : ∃ g o vs, p = some ⟨g, o, none⟩ ∧ (∀ j v, vs[j]? = some v → w.cell? ⟨g, o + j, none⟩ = some v) ∧ GAt w S vs y := by
  unfold GKids at h
  obtain ⟨⟨g, o, vs, h1, -, h3, h4⟩, -⟩ := h
  exact ⟨g, o, vs, h1, fun j v hj => by have := h3 j v hj; rwa [Nat.zero_mul, Nat.add_zero] at this, h4⟩
theorem gkids_two {w : World} {S : Nat → Prop} {p : Option Addr} {y z : Gx} (h : GKids w S p 0 [y, z]) : ∃ g o vs us, p = some ⟨g, o, none⟩ ∧ (∀ j v, vs[j]? = some v → w.cell? ⟨g, o + j, none⟩ = some v) ∧ GAt w S vs y ∧ (∀ j v, us[j]? = some v → w.cell? ⟨g, o + 7 + j, none⟩ = some v) ∧ GAt w S us z := by
  unfold GKids at h
  obtain ⟨⟨g, o, vs, h1, -, h3, h4⟩, h5⟩ := h
  unfold GKids at h5
  obtain ⟨⟨g2, o2, us, h6, -, h8, h9⟩, -⟩ := h5
  rw [h1] at h6
  cases h6
  exact ⟨g, o, vs, us, h1, fun j v hj => by have := h3 j v hj; rwa [Nat.zero_mul, Nat.add_zero] at this, h4, fun j v hj => by have := h8 j v hj; rwa [Nat.zero_add, Nat.one_mul] at this, h9⟩

theorem run_index_arr {P : Program} {t e : TypeId} {n : Nat} {cs : Array Value} {i : Nat} {v : Value} (h : P.underlying t = some (.array n e)) (hs : ∀ w, (sizeOf e).run P w = .ok 1 w) (ha : ∀ w, (isAgg e).run P w = .ok false w) (hin : i < n) (hv : cs[i]? = some v) (w : World) : (Instr.index t (.agg cs) (.int .i64 i)).run P w = .ok v w := by
  simp [Instr.index, run_underlying h, asIntOf, hin, go_sem, hs, ha, hv]
theorem run_index_signs {op : Nat} (h : op < 14) (w : World) : (Instr.index TSg (.agg signsV) (.int .i64 op)).run Tryz.prog w = .ok (.string ⟨(signL.getD op []).toArray⟩) w :=
  run_index_arr Tryz.underlying112 Tryz.sizeOf9 Tryz.isAgg9 h (signs_at h) w
theorem run_index_un1 (w : World) : (Instr.index 111 (.agg #[.string ⟨#[]⟩, .string ⟨#[45]⟩, .string ⟨#[33]⟩]) (.int .i64 1)).run Tryz.prog w = .ok (.string ⟨#[45]⟩) w :=
  run_index_arr (i := 1) Tryz.underlying111 Tryz.sizeOf9 Tryz.isAgg9 (by decide) rfl w
theorem run_index_un2 (w : World) : (Instr.index 111 (.agg #[.string ⟨#[]⟩, .string ⟨#[45]⟩, .string ⟨#[33]⟩]) (.int .i64 2)).run Tryz.prog w = .ok (.string ⟨#[33]⟩) w :=
  run_index_arr (i := 2) Tryz.underlying111 Tryz.sizeOf9 Tryz.isAgg9 (by decide) rfl w

theorem tokA_cons (y : Gx) (l : List Gx) : tokA (y :: l) = tokG y := by conv => lhs; unfold tokA
theorem kidA_cons (y : Gx) (l : List Gx) : kidA (y :: l) = wrapK (kindG y) (tokG y) := by conv => lhs; unfold kidA
theorem kidB_cons (y : Gx) (l : List Gx) : kidB (y :: l) = kidA l := by conv => lhs; unfold kidB
theorem tok_1 (o n : Int) (nm : List UInt8) (a b : Int) (ks : List Gx) : tokG (.mk 1 o n nm a b ks) = [Lib.itoa n] := by
  conv => lhs; unfold tokG
  rw [if_pos rfl]
theorem tok_2 (o n : Int) (nm : List UInt8) (a b : Int) (ks : List Gx) : tokG (.mk 2 o n nm a b ks) = [nm] := by
  conv => lhs; unfold tokG
  rw [if_neg (by decide), if_pos rfl]
theorem tok_3 (o n : Int) (nm : List UInt8) (a b : Int) (y : Gx) : tokG (.mk 3 o n nm a b [y]) = [nm, [91]] ++ (tokG y ++ [[93]]) := by
  conv => lhs; unfold tokG
  rw [if_neg (by decide), if_neg (by decide), if_pos rfl, tokA_cons]
theorem tok_4 (o n : Int) (nm : List UInt8) (a b : Int) (y : Gx) : tokG (.mk 4 o n nm a b [y]) = [unL o] ++ wrapK (kindG y) (tokG y) := by
  conv => lhs; unfold tokG
  rw [if_neg (by decide), if_neg (by decide), if_neg (by decide), if_pos rfl, kidA_cons]
theorem tok_5 (o n : Int) (nm : List UInt8) (a b : Int) (y z : Gx) : tokG (.mk 5 o n nm a b [y, z]) = wrapK (kindG y) (tokG y) ++ ([signG o] ++ wrapK (kindG z) (tokG z)) := by
  conv => lhs; unfold tokG
  rw [if_neg (by decide), if_neg (by decide), if_neg (by decide), if_neg (by decide), kidA_cons, kidB_cons, kidA_cons]

set_option maxRecDepth 4000 in
set_option maxHeartbeats 32000000 in
theorem tells_step (w0 : World) (hP : TabP w0) (x : Gx) (ih : ∀ y, gSize y < gSize x → mayG y = true → fitG y → Tells w0 y) (hmay : mayG x = true) (hfit : fitG x) : Tells w0 x := by
  intro S vs hex b l w ht hlen
  obtain ⟨k, o, n, nm, lc, cl, ks⟩ := x
  unfold GAt at hex
  obtain ⟨p, c, rfl, hkids⟩ := hex
  unfold mayG at hmay
  rw [Bool.and_eq_true] at hmay
  obtain ⟨hm1, hm2⟩ := hmay
  unfold fitG at hfit
  obtain ⟨hf1, hf2⟩ := hfit
  have HP := Lib.hid hP
  obtain ⟨LT, hLT⟩ : ∃ L, putL (tokG (.mk k o n nm lc cl ks)) = L := ⟨_, rfl⟩
  rw [hLT] at hlen ⊢
  have HLT := Lib.hid hLT; have HLEN0 := Lib.hid hlen
  clear hLT hlen hP
  unfold strV
  obtain ⟨W0, B3, hW, hB, hb3, hk3, hs3⟩ := fresh_block w (.cells #[.int .i64 k, .int .i64 o, .int .i64 n, .string ⟨nm.toArray⟩, .slice p ks.length c, .int .i64 lc, .int .i64 cl] TEx)
  have HTW0 := Lib.hid (ht.on hk3); have HKW0 := Lib.hid (ht.onK hk3); have HBW0 := Lib.hid hb3
  have HNE := Lib.hid (show B3 ≠ b by have := ht.tel.le; omega)
  clear ht hk3 hs3
  by_cases k1 : k = 1
  · subst k1
    have hn := mayK_1 hm1
    have HNUM := Lib.hid (fun W (h : TS w0 b l W) (hl : l.length + (putL [Lib.itoa n]).length ≤ 100000000) => h.number HP.out n (by omega) hf1 hl)
    clear ih hm1 hm2 hf1 hf2 hkids hn
    have HE := Lib.hid (show LT = putL [Lib.itoa n] by rw [← HLT.out]; rw [tok_1])
    have HLEN := Lib.hid (by have h := HLEN0.out; rw [HE.out] at h; exact h)
    obtain ⟨c0, c1, c2, c3, c4, c5, c6, -⟩ := blk7 hb3
    clear hb3
    go_enter Tryz.func27, Tryz.ntmps27
    go_upto_region 1 with fail
    rw [← hW, ← hB]
    clear hW hB
    have HPw1 := Lib.hid (HNUM.out _ HTW0.out (by have := HLEN.out; (try simp only [List.length_append] at this ⊢); omega))
    go_wp2_with fail
    go_at_call 40
    refine HPw1.out.mono ?_
    rintro e w1 ⟨rfl, ht, hk⟩
    have hb := hk.boxed HTW0.out HNE.out HBW0.out
    have HBw1 := Lib.hid hb; have HTw1 := Lib.hid ht; have HKw1 := Lib.hid (HKW0.out.trans hk)
    clear ht hk
    obtain ⟨c0, c1, c2, c3, c4, c5, c6, -⟩ := blk7 hb
    clear hb
    go_wp2_with fail
    go_end0
    exact ⟨rfl, by have h := HTw1.out; rw [HE.out]; simpa only [List.append_assoc] using h, HKw1.out⟩
  · by_cases k2 : k = 2
    · subst k2
      clear ih hm1 hm2 hf1 hf2 hkids k1
      have HE := Lib.hid (show LT = putL [nm] by rw [← HLT.out]; rw [tok_2])
      have HLEN := Lib.hid (by have h := HLEN0.out; rw [HE.out] at h; exact h)
      obtain ⟨c0, c1, c2, c3, c4, c5, c6, -⟩ := blk7 hb3
      clear hb3
      go_enter Tryz.func27, Tryz.ntmps27
      go_upto_region 1 with fail
      rw [← hW, ← hB]
      clear hW hB
      have HPw2 := Lib.hid (HTW0.out.put1 nm (by have := HLEN.out; (try simp only [List.length_append] at this ⊢); omega))
      go_wp2_with fail
      go_at_call 39
      refine HPw2.out.mono ?_
      rintro e w2 ⟨rfl, ht, hk⟩
      have hb := hk.boxed HTW0.out HNE.out HBW0.out
      have HBw2 := Lib.hid hb; have HTw2 := Lib.hid ht; have HKw2 := Lib.hid (HKW0.out.trans hk)
      clear ht hk
      obtain ⟨c0, c1, c2, c3, c4, c5, c6, -⟩ := blk7 hb
      clear hb
      go_wp2_with fail
      go_end0
      exact ⟨rfl, by have h := HTw2.out; rw [HE.out]; simpa only [List.append_assoc] using h, HKw2.out⟩
    · by_cases k3 : k = 3
      · subst k3
        have hm := mayK_3 hm1
        obtain ⟨y, rfl⟩ : ∃ y, ks = [y] := by
          match ks, hm with
          | [y], _ => exact ⟨y, rfl⟩
        obtain ⟨g, go, vs, rfl, hx, hy⟩ := gkids_one hkids
        have hmy : mayG y = true := by unfold mayGL at hm2; rw [Bool.and_eq_true] at hm2; exact hm2.1
        have hfy : fitG y := by unfold fitGL at hf2; exact hf2.1
        have HY := Lib.hid (ih y (by simp only [gSize, gSizeL]; omega) hmy hfy)
        have HYA := Lib.hid hy
        obtain ⟨yk, yo, yn, yS, yp, ym, yc, yl, ycl, rfl⟩ := g_form hy
        have HX := Lib.hid hx
        clear ih hm1 hm2 hf1 hf2 hkids hx hmy hfy hy hm
        rw [show [y].length = 1 from rfl] at hW hb3 HBW0
        clear k1 k2
        have HE := Lib.hid (show LT = putL [nm, [91]] ++ (putL (tokG y) ++ putL [[93]]) by rw [← HLT.out]; rw [tok_3, putL_app, putL_app])
        have HLEN := Lib.hid (by have h := HLEN0.out; rw [HE.out] at h; exact h)
        obtain ⟨c0, c1, c2, c3, c4, c5, c6, -⟩ := blk7 hb3
        clear hb3
        go_enter Tryz.func27, Tryz.ntmps27
        go_upto_region 1 with fail
        rw [← hW, ← hB]
        clear hW hB
        have HPw3 := Lib.hid (HTW0.out.put2 nm [91] (by have := HLEN.out; (try simp only [List.length_append] at this ⊢); omega))
        go_wp2_with fail
        go_at_call 39
        refine HPw3.out.mono ?_
        rintro e w3 ⟨rfl, ht, hk⟩
        have hb := hk.boxed HTW0.out HNE.out HBW0.out
        have HBw3 := Lib.hid hb; have HTw3 := Lib.hid ht; have HKw3 := Lib.hid (HKW0.out.trans hk)
        clear ht hk
        obtain ⟨c0, c1, c2, c3, c4, c5, c6, -⟩ := blk7 hb
        clear hb
        have x0 := HTw3.out.keep.stay (show w0.cell? ⟨g, go, none⟩ = some _ from HX.out 0 _ rfl)
        have x1 := HTw3.out.keep.stay (show w0.cell? ⟨g, go + 1, none⟩ = some _ from HX.out 1 _ rfl)
        have x2 := HTw3.out.keep.stay (show w0.cell? ⟨g, go + 2, none⟩ = some _ from HX.out 2 _ rfl)
        have x3 := HTw3.out.keep.stay (show w0.cell? ⟨g, go + 3, none⟩ = some _ from HX.out 3 _ rfl)
        have x4 := HTw3.out.keep.stay (show w0.cell? ⟨g, go + 4, none⟩ = some _ from HX.out 4 _ rfl)
        have x5 := HTw3.out.keep.stay (show w0.cell? ⟨g, go + 5, none⟩ = some _ from HX.out 5 _ rfl)
        have x6 := HTw3.out.keep.stay (show w0.cell? ⟨g, go + 6, none⟩ = some _ from HX.out 6 _ rfl)
        have HPw4 := Lib.hid (HY.out _ _ HYA.out _ _ _ HTw3.out (by have := HLEN.out; (try simp only [List.length_append] at this ⊢); omega))
        go_wp2_with fail
        go_at_call 27
        refine HPw4.out.mono ?_
        rintro e w4 ⟨rfl, ht, hk⟩
        have hb := hk.boxed HTw3.out HNE.out HBw3.out
        have HBw4 := Lib.hid hb; have HTw4 := Lib.hid ht; have HKw4 := Lib.hid (HKw3.out.trans hk)
        clear ht hk
        obtain ⟨c0, c1, c2, c3, c4, c5, c6, -⟩ := blk7 hb
        clear hb
        clear x0 x1 x2 x3 x4 x5 x6
        have HPw5 := Lib.hid (HTw4.out.put1 [93] (by have := HLEN.out; (try simp only [List.length_append] at this ⊢); omega))
        go_wp2_with fail
        go_at_call 39
        refine HPw5.out.mono ?_
        rintro e w5 ⟨rfl, ht, hk⟩
        have hb := hk.boxed HTw4.out HNE.out HBw4.out
        have HBw5 := Lib.hid hb; have HTw5 := Lib.hid ht; have HKw5 := Lib.hid (HKw4.out.trans hk)
        clear ht hk
        obtain ⟨c0, c1, c2, c3, c4, c5, c6, -⟩ := blk7 hb
        clear hb
        go_wp2_with fail
        go_end0
        exact ⟨rfl, by have h := HTw5.out; rw [HE.out]; simpa only [List.append_assoc] using h, HKw5.out⟩
      · by_cases k4 : k = 4
        · subst k4
          obtain ⟨ho, hm⟩ := mayK_4 hm1
          obtain ⟨y, rfl⟩ : ∃ y, ks = [y] := by
            match ks, hm with
            | [y], _ => exact ⟨y, rfl⟩
          obtain ⟨g, go, vs, rfl, hx, hy⟩ := gkids_one hkids
          have hmy : mayG y = true := by unfold mayGL at hm2; rw [Bool.and_eq_true] at hm2; exact hm2.1
          have hfy : fitG y := by unfold fitGL at hf2; exact hf2.1
          have HY := Lib.hid (ih y (by simp only [gSize, gSizeL]; omega) hmy hfy)
          have HYA := Lib.hid hy
          obtain ⟨yk, yo, yn, yS, yp, ym, yc, yl, ycl, rfl⟩ := g_form hy
          have HX := Lib.hid hx
          clear ih hm1 hm2 hf1 hf2 hkids hx hmy hfy hy hm
          rw [show [y].length = 1 from rfl] at hW hb3 HBW0
          clear k1 k2 k3
          rcases ho with rfl | rfl
          · have HE := Lib.hid (show LT = putL [[45]] ++ putL (wrapK (kindG y) (tokG y)) by rw [← HLT.out]; rw [tok_4, putL_app]; rfl)
            have HLEN := Lib.hid (by have h := HLEN0.out; rw [HE.out] at h; exact h)
            obtain ⟨c0, c1, c2, c3, c4, c5, c6, -⟩ := blk7 hb3
            clear hb3
            go_enter Tryz.func27, Tryz.ntmps27
            go_upto_region 1 with fail
            rw [← hW, ← hB]
            clear hW hB
            have hix := run_index_un1
            have HPw6 := Lib.hid (HTW0.out.put1 [45] (by have := HLEN.out; (try simp only [List.length_append] at this ⊢); omega))
            go_wp2_with fail
            go_at_call 39
            refine HPw6.out.mono ?_
            rintro e w6 ⟨rfl, ht, hk⟩
            have hb := hk.boxed HTW0.out HNE.out HBW0.out
            have HBw6 := Lib.hid hb; have HTw6 := Lib.hid ht; have HKw6 := Lib.hid (HKW0.out.trans hk)
            clear ht hk
            obtain ⟨c0, c1, c2, c3, c4, c5, c6, -⟩ := blk7 hb
            clear hb
            clear hix
            have x0 := HTw6.out.keep.stay (show w0.cell? ⟨g, go, none⟩ = some _ from HX.out 0 _ rfl)
            have x1 := HTw6.out.keep.stay (show w0.cell? ⟨g, go + 1, none⟩ = some _ from HX.out 1 _ rfl)
            have x2 := HTw6.out.keep.stay (show w0.cell? ⟨g, go + 2, none⟩ = some _ from HX.out 2 _ rfl)
            have x3 := HTw6.out.keep.stay (show w0.cell? ⟨g, go + 3, none⟩ = some _ from HX.out 3 _ rfl)
            have x4 := HTw6.out.keep.stay (show w0.cell? ⟨g, go + 4, none⟩ = some _ from HX.out 4 _ rfl)
            have x5 := HTw6.out.keep.stay (show w0.cell? ⟨g, go + 5, none⟩ = some _ from HX.out 5 _ rfl)
            have x6 := HTw6.out.keep.stay (show w0.cell? ⟨g, go + 6, none⟩ = some _ from HX.out 6 _ rfl)
            have HPw7 := Lib.hid (kid_of w0 y HY.out _ _ HYA.out _ _ _ HTw6.out (by have := HLEN.out; (try simp only [List.length_append] at this ⊢); omega))
            go_wp2_with fail
            go_at_call 61
            refine HPw7.out.mono ?_
            rintro e w7 ⟨rfl, ht, hk⟩
            have hb := hk.boxed HTw6.out HNE.out HBw6.out
            have HBw7 := Lib.hid hb; have HTw7 := Lib.hid ht; have HKw7 := Lib.hid (HKw6.out.trans hk)
            clear ht hk
            obtain ⟨c0, c1, c2, c3, c4, c5, c6, -⟩ := blk7 hb
            clear hb
            go_wp2_with fail
            go_end0
            exact ⟨rfl, by have h := HTw7.out; rw [HE.out]; simpa only [List.append_assoc] using h, HKw7.out⟩
          · have HE := Lib.hid (show LT = putL [[33]] ++ putL (wrapK (kindG y) (tokG y)) by rw [← HLT.out]; rw [tok_4, putL_app]; rfl)
            have HLEN := Lib.hid (by have h := HLEN0.out; rw [HE.out] at h; exact h)
            obtain ⟨c0, c1, c2, c3, c4, c5, c6, -⟩ := blk7 hb3
            clear hb3
            go_enter Tryz.func27, Tryz.ntmps27
            go_upto_region 1 with fail
            rw [← hW, ← hB]
            clear hW hB
            have hix := run_index_un2
            have HPw8 := Lib.hid (HTW0.out.put1 [33] (by have := HLEN.out; (try simp only [List.length_append] at this ⊢); omega))
            go_wp2_with fail
            go_at_call 39
            refine HPw8.out.mono ?_
            rintro e w8 ⟨rfl, ht, hk⟩
            have hb := hk.boxed HTW0.out HNE.out HBW0.out
            have HBw8 := Lib.hid hb; have HTw8 := Lib.hid ht; have HKw8 := Lib.hid (HKW0.out.trans hk)
            clear ht hk
            obtain ⟨c0, c1, c2, c3, c4, c5, c6, -⟩ := blk7 hb
            clear hb
            clear hix
            have x0 := HTw8.out.keep.stay (show w0.cell? ⟨g, go, none⟩ = some _ from HX.out 0 _ rfl)
            have x1 := HTw8.out.keep.stay (show w0.cell? ⟨g, go + 1, none⟩ = some _ from HX.out 1 _ rfl)
            have x2 := HTw8.out.keep.stay (show w0.cell? ⟨g, go + 2, none⟩ = some _ from HX.out 2 _ rfl)
            have x3 := HTw8.out.keep.stay (show w0.cell? ⟨g, go + 3, none⟩ = some _ from HX.out 3 _ rfl)
            have x4 := HTw8.out.keep.stay (show w0.cell? ⟨g, go + 4, none⟩ = some _ from HX.out 4 _ rfl)
            have x5 := HTw8.out.keep.stay (show w0.cell? ⟨g, go + 5, none⟩ = some _ from HX.out 5 _ rfl)
            have x6 := HTw8.out.keep.stay (show w0.cell? ⟨g, go + 6, none⟩ = some _ from HX.out 6 _ rfl)
            have HPw9 := Lib.hid (kid_of w0 y HY.out _ _ HYA.out _ _ _ HTw8.out (by have := HLEN.out; (try simp only [List.length_append] at this ⊢); omega))
            go_wp2_with fail
            go_at_call 61
            refine HPw9.out.mono ?_
            rintro e w9 ⟨rfl, ht, hk⟩
            have hb := hk.boxed HTw8.out HNE.out HBw8.out
            have HBw9 := Lib.hid hb; have HTw9 := Lib.hid ht; have HKw9 := Lib.hid (HKw8.out.trans hk)
            clear ht hk
            obtain ⟨c0, c1, c2, c3, c4, c5, c6, -⟩ := blk7 hb
            clear hb
            go_wp2_with fail
            go_end0
            exact ⟨rfl, by have h := HTw9.out; rw [HE.out]; simpa only [List.append_assoc] using h, HKw9.out⟩
        · obtain ⟨rfl, ho, hm⟩ := mayK_5 k1 k2 k3 k4 hm1
          obtain ⟨y, z, rfl⟩ : ∃ y z, ks = [y, z] := by
            match ks, hm with
            | [y, z], _ => exact ⟨y, z, rfl⟩
          obtain ⟨g, go, vs, us, rfl, hx, hy, hu, hz⟩ := gkids_two hkids
          have hmy : mayG y = true := by unfold mayGL at hm2; rw [Bool.and_eq_true] at hm2; exact hm2.1
          have hmz : mayG z = true := by unfold mayGL mayGL at hm2; rw [Bool.and_eq_true, Bool.and_eq_true] at hm2; exact hm2.2.1
          have hfy : fitG y := by unfold fitGL at hf2; exact hf2.1
          have hfz : fitG z := by unfold fitGL fitGL at hf2; exact hf2.2.1
          have HY := Lib.hid (ih y (by simp only [gSize, gSizeL]; omega) hmy hfy)
          have HZ := Lib.hid (ih z (by simp only [gSize, gSizeL]; omega) hmz hfz)
          have HYA := Lib.hid hy; have HZA := Lib.hid hz
          obtain ⟨yk, yo, yn, yS, yp, ym, yc, yl, ycl, rfl⟩ := g_form hy
          obtain ⟨zk, zo, zn, zS, zp, zm, zc, zl, zcl, rfl⟩ := g_form hz
          have HX := Lib.hid hx; have HU := Lib.hid hu
          clear ih hm1 hm2 hf1 hf2 hkids hx hmy hfy hy hu hmz hfz hz hm k1 k2 k3 k4
          rw [show [y, z].length = 2 from rfl] at hW hb3 HBW0
          obtain ⟨ho1, ho2⟩ := ho
          obtain ⟨op, rfl⟩ : ∃ op : Nat, o = op := ⟨o.toNat, by omega⟩
          have hop : op < 14 := by omega
          have HE := Lib.hid (show LT = putL (wrapK (kindG y) (tokG y)) ++ (putL [signL.getD op []] ++ putL (wrapK (kindG z) (tokG z))) by rw [← HLT.out]; rw [tok_5, putL_app, putL_app]; rfl)
          have HLEN := Lib.hid (by have h := HLEN0.out; rw [HE.out] at h; exact h)
          obtain ⟨c0, c1, c2, c3, c4, c5, c6, -⟩ := blk7 hb3
          clear hb3
          go_enter Tryz.func27, Tryz.ntmps27
          go_upto_region 1 with fail
          rw [← hW, ← hB]
          clear hW hB
          have HPw10 := Lib.hid (kid_of w0 y HY.out _ _ HYA.out _ _ _ HTW0.out (by have := HLEN.out; (try simp only [List.length_append] at this ⊢); omega))
          have x0 := HTW0.out.keep.stay (show w0.cell? ⟨g, go, none⟩ = some _ from HX.out 0 _ rfl)
          have x1 := HTW0.out.keep.stay (show w0.cell? ⟨g, go + 1, none⟩ = some _ from HX.out 1 _ rfl)
          have x2 := HTW0.out.keep.stay (show w0.cell? ⟨g, go + 2, none⟩ = some _ from HX.out 2 _ rfl)
          have x3 := HTW0.out.keep.stay (show w0.cell? ⟨g, go + 3, none⟩ = some _ from HX.out 3 _ rfl)
          have x4 := HTW0.out.keep.stay (show w0.cell? ⟨g, go + 4, none⟩ = some _ from HX.out 4 _ rfl)
          have x5 := HTW0.out.keep.stay (show w0.cell? ⟨g, go + 5, none⟩ = some _ from HX.out 5 _ rfl)
          have x6 := HTW0.out.keep.stay (show w0.cell? ⟨g, go + 6, none⟩ = some _ from HX.out 6 _ rfl)
          go_wp2_with fail
          go_at_call 61
          refine HPw10.out.mono ?_
          rintro e w10 ⟨rfl, ht, hk⟩
          have hb := hk.boxed HTW0.out HNE.out HBW0.out
          have HBw10 := Lib.hid hb; have HTw10 := Lib.hid ht; have HKw10 := Lib.hid (HKW0.out.trans hk)
          clear ht hk
          obtain ⟨c0, c1, c2, c3, c4, c5, c6, -⟩ := blk7 hb
          clear hb
          clear x0 x1 x2 x3 x4 x5 x6
          go_upto_region 3 with fail
          obtain ⟨s, hs⟩ : ∃ s, signL.getD op [] = s := ⟨_, rfl⟩
          have HIX := Lib.hid (fun W => run_index_signs hop W)
          rw [hs] at HIX HLEN HE
          clear hs hop
          have d1 := fun W (h : KeepBut (fun k => k = b ∨ bufOf w10 b = some k) w10.drew W) => ((KeepBut.drew _ w10).trans h).cell c1 (fun e => e.elim (fun e => HNE.out e) fun e => by obtain ⟨-, -, cs, fz, hc⟩ := HTw10.out.tel.buf e; have h2 := HBw10.out; rw [hc] at h2; cases h2)
          refine wp_ownA (by kernel_rfl) (fun k => k = b ∨ bufOf w10 b = some k) (fun k hk => hk.elim (fun e => by rw [e]; exact HTw10.out.tel.le.2) fun e => by obtain ⟨-, -, cs, fz, hc⟩ := HTw10.out.tel.buf e; exact (Array.getElem?_eq_some_iff.1 hc).1) (fun i => [[], [], [], [2], [1, 2, 3], [1, 2, 3, 4], [0, 1, 2, 3, 4, 5]].getD i []) (fun i => if i = 6 then [5, 7] else []) (fun i => if i = 6 then [7] else []) [6] (by kernel_rfl) (fun i => if i = 1 then some (sConst (.agg signsV)) else if i = 5 then some (sStr1 s) else if i = 6 then some (sTel w0.heap.size b ((l ++ putL (wrapK (kindG y) (tokG y))) ++ putL [s])) else none) ?_
          apply lex_quiet rfl rfl
          · intro w' hk; go_simp; with_reducible rfl
          simp only [Act.put, List.setIfInBounds_toArray, List.set_cons_zero, List.set_cons_succ]
          refine lex_loud rfl rfl (loud_call 62 #[] (fun w => by kernel_rfl) ⟨default, trivial⟩ (fun g _ => stable_true _) fun w' hk _ _ => (signs_any w').mono ?_) fun gs _ => ?_
          · rintro e w'' ⟨rfl, hq⟩
            exact ⟨default, trivial, rfl, hq.mono fun _ e => e.elim, fun b h => h.elim, trivial⟩
          simp only [sConst, Act.put, List.setIfInBounds_toArray, List.set_cons_zero, List.set_cons_succ]
          apply lex_quiet rfl rfl
          · intro w' hk; go_simp; with_reducible rfl
          simp only [Act.put, List.setIfInBounds_toArray, List.set_cons_zero, List.set_cons_succ]
          apply lex_quiet rfl rfl
          · intro w' hk; have e1 := d1 w' hk; go_simp; with_reducible rfl
          simp only [Act.put, List.setIfInBounds_toArray, List.set_cons_zero, List.set_cons_succ]
          apply lex_quiet rfl rfl
          · intro w' hk; have e2 := HIX.out w'; go_simp; with_reducible rfl
          simp only [Act.put, List.setIfInBounds_toArray, List.set_cons_zero, List.set_cons_succ]
          refine lex_loud rfl rfl (loud_str1 s (fun w => by go_simp)) fun g5 _ => ?_
          simp only [sStr1, Act.put, List.setIfInBounds_toArray, List.set_cons_zero, List.set_cons_succ]
          refine lex_loud rfl rfl (loud_tel HTw10.out.tel [s] (by have := HLEN.out; (try simp only [List.length_append] at this ⊢); omega) g5.b 1 (fun W => by kernel_rfl) 5 7 (by decide) (by decide) (by decide) (by decide) (fun W h => h) rfl (fun W h => h rfl) (fun k => ⟨fun h => h.2, fun h => ⟨rfl, h⟩⟩)) fun g6 _ => ?_
          simp only [sTel, Act.put, List.setIfInBounds_toArray, List.set_cons_zero, List.set_cons_succ]
          refine lex_nil ?_
          intro WR hkr hF _
          obtain ⟨htr, hkr2⟩ := HTw10.out.region (args := #[]) hkr (hF 6 (by decide)).1 (hF 6 (by decide)).2
          have hb := hkr2.boxed HTw10.out HNE.out HBw10.out
          have HBWR := Lib.hid hb; have HTWR := Lib.hid htr; have HKWR := Lib.hid (HKw10.out.trans hkr2)
          clear hkr hF htr hkr2 d1 c0 c1 c2 c3 c4 c5 c6
          obtain ⟨c0, c1, c2, c3, c4, c5, c6, -⟩ := blk7 hb
          clear hb
          have HPw11 := Lib.hid (kid_of w0 z HZ.out _ _ HZA.out _ _ _ HTWR.out (by have := HLEN.out; (try simp only [List.length_append] at this ⊢); omega))
          have u0 := HTWR.out.keep.stay (show w0.cell? ⟨g, go + 7, none⟩ = some _ from HU.out 0 _ rfl)
          have u1 := HTWR.out.keep.stay (show w0.cell? ⟨g, go + 8, none⟩ = some _ from HU.out 1 _ rfl)
          have u2 := HTWR.out.keep.stay (show w0.cell? ⟨g, go + 9, none⟩ = some _ from HU.out 2 _ rfl)
          have u3 := HTWR.out.keep.stay (show w0.cell? ⟨g, go + 10, none⟩ = some _ from HU.out 3 _ rfl)
          have u4 := HTWR.out.keep.stay (show w0.cell? ⟨g, go + 11, none⟩ = some _ from HU.out 4 _ rfl)
          have u5 := HTWR.out.keep.stay (show w0.cell? ⟨g, go + 12, none⟩ = some _ from HU.out 5 _ rfl)
          have u6 := HTWR.out.keep.stay (show w0.cell? ⟨g, go + 13, none⟩ = some _ from HU.out 6 _ rfl)
          go_wp2_with fail
          go_at_call 61
          refine HPw11.out.mono ?_
          rintro e w11 ⟨rfl, ht, hk⟩
          have hb := hk.boxed HTWR.out HNE.out HBWR.out
          have HBw11 := Lib.hid hb; have HTw11 := Lib.hid ht; have HKw11 := Lib.hid (HKWR.out.trans hk)
          clear ht hk
          obtain ⟨c0, c1, c2, c3, c4, c5, c6, -⟩ := blk7 hb
          clear hb
          go_wp2_with fail
          go_end0
          exact ⟨rfl, by have h := HTw11.out; rw [HE.out]; simpa only [List.append_assoc] using h, HKw11.out⟩

theorem tells_any (w0 : World) (hP : TabP w0) : ∀ (f : Nat) (x : Gx), gSize x ≤ f → mayG x = true → fitG x → Tells w0 x
  | 0, x, hx, _, _ => by cases x; unfold gSize at hx; omega
  | f + 1, x, hx, hm, hf => tells_step w0 hP x (fun y hy h1 h2 => tells_any w0 hP f y (by omega) h1 h2) hm hf

end Go.Proofs.YtomlffobbkcmdaaGreatDoor

/-
  A teller's string; TrimSuffix; ExprText.
-/
namespace Go.Proofs.YtomlffobbkcmdaaGreatDoor
open Go Go.RowKit Own

set_option maxHeartbeats 4000000 in
theorem tel_string {B b : Nat} {l : List UInt8} {w : World} (h : Tel B b l w) (h0 : l ≠ []) :
    Calls Tryz.prog 29 #[.pointer (some ⟨b, 0, none⟩)] w fun e w' => e = .returned (.string ⟨l.toArray⟩) ∧ KeepBut (fun k => B ≤ k) w w' := by
  obtain ⟨p, hB, v, hbk, hown, hne⟩ : ∃ p, Lib.BuilderAtF TT B8 B b p (Lib.byteCells l) w := h.elim (fun h => ⟨_, h⟩) fun h => ⟨_, h⟩
  have hl0 : l.length ≠ 0 := by simpa using h0
  rw [Lib.byteCells_length] at hown
  obtain ⟨g, cap, cur, fz, rfl, hbg, hg, hfz, hnc, hcm, hcs, htake⟩ : ∃ g cap cur fz, v = .slice (some ⟨g, 0, none⟩) l.length cap ∧ B ≤ g ∧ w.heap[g]? = some (.cells cur B8 fz) ∧ fz.2 ≤ l.length * 1 ∧ l.length ≤ cap ∧ cap ≤ maxLen ∧ cur.size = cap * 1 ∧ cur.toList.take (l.length * 1) = Lib.byteCells l := by
    rcases hown.2 with ⟨_, hz⟩ | ⟨g, cap, cur, fz, hv, r⟩
    · exact absurd hz hl0
    · exact ⟨g, cap, cur, fz, hv, r⟩
  have c1 : w.drew.cell? ⟨b, 1, none⟩ = some (.slice (some ⟨g, 0, none⟩) l.length cap) := blk_cell (w := w) hbk rfl
  have hSD : (Builtin.unsafeSliceData_ #[63] 114 #[.slice (some ⟨g, 0, none⟩) l.length cap]).run Tryz.prog w.drew = .ok (.pointer (some ⟨g, 0, none⟩)) w.drew :=
    Lib.run_unsafeSliceData_row _ _ _ _ _ _ (by omega)
  have hUS : (Builtin.unsafeString_ #[114, 3] 9 #[.pointer (some ⟨g, 0, none⟩), .int .i64 l.length]).run Tryz.prog w.drew = .ok (.string ⟨l.toArray⟩) (w.drew.freeze ⟨g, 0, none⟩ l.length) := by
    refine Lib.run_unsafeString_row w.drew 114 3 9 B8 (by kernel_rfl) (by kernel_rfl) g cur.size (by have hg' : w.drew.heap[g]? = some (.cells cur B8 fz) := hg; simp [World.shape?, hg']) l h0 (by omega) (by unfold maxLen at hcm; omega) ?_
    intro j x hx
    have := hown.cells (g := g) rfl j (.int .u8 x.toNat) (by simp [Lib.byteCells, hx])
    exact this
  have HK := Lib.hid (show KeepBut (fun k => B ≤ k) w (w.drew.freeze ⟨g, 0, none⟩ l.length) from by
    have hb := Lib.below_freeze (Below.drew (Below.refl B w)) (p := ⟨g, 0, none⟩) hbg l.length
    exact ⟨hb.os, hb.tape, hb.output, hb.size, fun k _ hk => hb.block k (by omega)⟩)
  have mixed : Tryz.prog.follows .mixedOrders = true := by kernel_rfl
  clear hown htake hcs hcm hnc hfz hg hbk hne h h0
  go_enter Tryz.func29, Tryz.ntmps29
  go_wp2
  go_region_o
  all_goals (go_wp2; go_ret; exact ⟨rfl, HK.out⟩)

def trimL (l : List UInt8) : List UInt8 := if l.getLast? = some 32 then l.dropLast else l

set_option maxHeartbeats 4000000 in
theorem hasSuffix_snoc (S : ByteArray) (n : Nat) (c : UInt8) (hn : S.size = n + 1) (hx : S.extract n (n + 1) = ⟨#[c]⟩) (hl : n ≤ 1000000000) (w : World) :
    Calls Tryz.prog 96 #[.string S, .string ⟨#[32]⟩] w fun e w' => e = .returned (.bool (decide (c = 32))) ∧ w' = w := by
  have hW : IntKind.i64.wrap (n : Int) = n := IntWalk.i64_in _ (by omega)
  have hW1 : IntKind.i64.wrap ((n : Int) + 1 - 1) = n := by rw [IntWalk.i64_in _ (by omega)]; omega
  have hn0 : (0 : Int) ≤ n := by omega
  go_enter Tryz.func96, Tryz.ntmps96
  have h1 : (1 : Int) ≤ n + 1 := by omega
  go_wp2
  go_ret
  exact ⟨by rw [show decide (c = 32) = (c == 32) from rfl]; rfl, rfl⟩

set_option maxHeartbeats 4000000 in
theorem trim_snoc (S : ByteArray) (n : Nat) (c : UInt8) (hn : S.size = n + 1) (hx : S.extract n (n + 1) = ⟨#[c]⟩) (hl : n ≤ 1000000000) (w : World) :
    Calls Tryz.prog 28 #[.string S, .string ⟨#[32]⟩] w fun e w' => e = .returned (.string (if c = 32 then S.extract 0 n else S)) ∧ w' = w := by
  have HH := Lib.hid (hasSuffix_snoc S n c hn hx hl w)
  have hW1 : IntKind.i64.wrap ((n : Int) + 1 - 1) = n := by rw [IntWalk.i64_in _ (by omega)]; omega
  have hn0 : (0 : Int) ≤ n := by omega
  have HIN := Lib.hid (show Calls Tryz.prog 63 #[.string S, .string ⟨#[32]⟩] w fun e w' => e = .returned (.string (if c = 32 then S.extract 0 n else S)) ∧ w' = w by
    by_cases h : c = 32
    · rw [if_pos h]
      rw [decide_eq_true h] at HH
      clear h hx
      go_enter Tryz.func63, Tryz.ntmps63
      go_wp2_with (go_at_call 96; refine HH.out.mono ?_; rintro e w1 ⟨rfl, rfl⟩)
      go_ret
      exact ⟨rfl, rfl⟩
    · rw [if_neg h]
      rw [decide_eq_false h] at HH
      clear h hx hn hW1
      go_enter Tryz.func63, Tryz.ntmps63
      go_wp2_with (go_at_call 96; refine HH.out.mono ?_; rintro e w1 ⟨rfl, rfl⟩)
      go_ret
      exact ⟨rfl, rfl⟩)
  obtain ⟨T, hT⟩ : ∃ T, (if c = 32 then S.extract 0 n else S) = T := ⟨_, rfl⟩
  rw [hT] at HIN ⊢
  clear hn hx hl hW1 hT HH
  go_enter Tryz.func28, Tryz.ntmps28
  go_wp2_with (go_at_call 63; refine HIN.out.mono ?_; rintro e w1 ⟨rfl, rfl⟩)
  go_ret
  exact ⟨rfl, rfl⟩

theorem trim_any (l : List UInt8) (h0 : l ≠ []) (hl : l.length ≤ 1000000000) (w : World) :
    Calls Tryz.prog 28 #[.string ⟨l.toArray⟩, .string ⟨#[32]⟩] w fun e w' => e = .returned (.string ⟨(trimL l).toArray⟩) ∧ w' = w := by
  obtain ⟨r, c, rfl⟩ : ∃ r c, l = r ++ [c] := ⟨l.dropLast, l.getLast h0, (List.dropLast_concat_getLast h0).symm⟩
  have hsz : (⟨(r ++ [c]).toArray⟩ : ByteArray).size = r.length + 1 := by show (r ++ [c]).toArray.size = _; simp
  have hx1 : (⟨(r ++ [c]).toArray⟩ : ByteArray).extract r.length (r.length + 1) = ⟨#[c]⟩ := by
    apply ByteArray.ext
    simp [ByteArray.data_extract]
  have hx2 : (⟨(r ++ [c]).toArray⟩ : ByteArray).extract 0 r.length = ⟨r.toArray⟩ := by
    apply ByteArray.ext
    simp [ByteArray.data_extract]
  refine (trim_snoc _ r.length c hsz hx1 (by simp at hl; omega) w).mono ?_
  rintro e w' ⟨rfl, rfl⟩
  refine ⟨?_, rfl⟩
  rw [hx2]
  unfold trimL
  rw [List.getLast?_concat, List.dropLast_concat]
  by_cases h : c = 32
  · rw [if_pos h, if_pos (by rw [h])]
  · rw [if_neg h, if_neg (fun e => h (Option.some.inj e))]

set_option maxHeartbeats 8000000 in
/-- ExprText of any expression -/
theorem exprText_any (x : Gx) (S : Nat → Prop) (vs : List Value) (w : World) (hex : GAt w S vs x) (hT : TabS w) (hP : TabP w) (hfit : fitG x) (hsz : gSize x ≤ 1099511627776) (hlen : mayG x = true → (putL (tokG x)).length ≤ 100000000 ∧ putL (tokG x) ≠ []) :
    Calls Tryz.prog 10 #[.agg vs.toArray] w fun e w' => e = .returned (.string ⟨(if mayG x = true then trimL (putL (tokG x)) else []).toArray⟩) ∧ KeepBut (fun _ => False) w w' := by
  obtain ⟨k, o, n, Sm, p, m, c, l, cl, rfl⟩ := g_form hex
  obtain ⟨V, B1, hV, hB1, hb1, hk1, hs1⟩ := fresh_block w (.cells #[.int .i64 k, .int .i64 o, .int .i64 n, .string Sm, .slice p m c, .int .i64 l, .int .i64 cl] TEx)
  have HM := Lib.hid (mayG_any 1099511627776 x hsz (Nat.le_refl _) V S _ (hk1.tabS hT) (hex.keep hk1 fun _ _ e => e))
  have HK := Lib.hid hk1
  obtain ⟨n0, n1, n2, n3, n4, n5, n6, -⟩ := blk7 hb1
  have HB1 := Lib.hid hb1
  by_cases hm : mayG x = true
  · obtain ⟨hl1, hl2⟩ := hlen hm
    rw [if_pos hm]
    rw [hm] at HM
    have HX := Lib.hid (fun (W : World) (hk : KeepBut (fun _ => False) w W) => tells_any W (hk.tabP hP) 1099511627776 x hsz hm hfit S _ (hex.keep hk fun _ _ e => e))
    obtain ⟨T, hTT⟩ : ∃ T, putL (tokG x) = T := ⟨_, rfl⟩
    have HX := Lib.hid (show ∀ (W : World), KeepBut (fun _ => False) w W → ∀ (b : Nat) (w1 : World), TS W b [] w1 → Calls Tryz.prog 27 #[.pointer (some ⟨b, 0, none⟩), .agg #[.int .i64 k, .int .i64 o, .int .i64 n, .string Sm, .slice p m c, .int .i64 l, .int .i64 cl]] w1 fun e w' => e = .returned (.tuple #[]) ∧ TS W b T w' ∧ TelK b w1 w' from fun W hk b w1 ht => by
      have := HX.out W hk b [] w1 ht (by simpa using hl1)
      rw [hTT] at this
      simpa using this)
    rw [hTT] at hl1 hl2 ⊢
    have HL1 := Lib.hid hl1; have HL2 := Lib.hid hl2
    clear hex hT hP hfit hsz hlen hm hl1 hl2 hTT hb1 hk1 hs1
    go_enter Tryz.func10, Tryz.ntmps10
    go_upto_region 1 with fail
    rw [← hV, ← hB1]
    clear hV hB1
    go_wp2_with fail
    go_at_call 26
    refine HM.out.mono ?_
    rintro e w1 ⟨rfl, hk2⟩
    obtain ⟨W, b, hW, hb, hbb, hkW, hsW⟩ := fresh_block w1 (.cells #[.pointer none, .slice none 0 0] TT)
    have HK1 := Lib.hid (HK.out.trans hk2)
    have HT0 := Lib.hid (show TS w1 b [] W from ⟨hkW, Lib.IsBuilderF.of (.inl ⟨by omega, _, hbb, World.ownsRow_nil _ _ _ _, by simp [Value.ownBlock]⟩)⟩)
    have HBW := Lib.hid ((hk2.trans hkW).blk HB1.out)
    have HNE := Lib.hid (show B1 ≠ b by
      have h1 := (Array.getElem?_eq_some_iff.1 (hk2.blk HB1.out)).1
      omega)
    obtain ⟨n0, n1, n2, n3, n4, n5, n6, -⟩ := blk7 HBW.out
    clear hk2 hbb hkW hsW
    go_upto_region 4 with fail
    rw [← hW, ← hb]
    clear hW hb
    go_wp2_with fail
    go_at_call 27
    refine (HX.out w1 HK1.out b W HT0.out).mono ?_
    rintro e w2 ⟨rfl, ht2, hk2⟩
    have HT2 := Lib.hid ht2
    have HST := Lib.hid (tel_string ht2.tel HL2.out)
    clear ht2 hk2
    go_wp2_with fail
    go_at_call 29
    refine HST.out.mono ?_
    rintro e w3 ⟨rfl, hk3⟩
    have HK3 := Lib.hid (HK1.out.trans (HT2.out.keep.new hk3 fun _ e => e))
    have HTR := Lib.hid (trim_any T HL2.out (by have := HL1.out; omega) w3)
    clear hk3
    go_wp2_with fail
    go_at_call 28
    refine HTR.out.mono ?_
    rintro e w4 ⟨rfl, rfl⟩
    go_wp2_with fail
    go_ret
    exact ⟨rfl, HK3.out⟩
  · rw [if_neg hm]
    rw [Bool.not_eq_true] at hm
    rw [hm] at HM
    clear hex hT hP hfit hsz hlen hm hb1 hk1 hs1
    go_enter Tryz.func10, Tryz.ntmps10
    go_upto_region 1 with fail
    rw [← hV, ← hB1]
    clear hV hB1
    go_wp2_with (go_at_call 26; refine HM.out.mono ?_; rintro e w1 ⟨rfl, hk2⟩; have HK2 := Lib.hid hk2; clear hk2)
    go_ret
    exact ⟨rfl, HK.out.trans HK2.out⟩

end Go.Proofs.YtomlffobbkcmdaaGreatDoor

/-
  The chapter's examples: what is read out of them, what their texts are.
-/
namespace Go.Proofs.YtomlffobbkcmdaaGreatDoor
open Go Go.RowKit Own

def tA : List UInt8 := [49, 32, 45, 32, 50, 32, 45, 32, 51]
def tB : List UInt8 := [49, 32, 43, 32, 50, 32, 42, 32, 51]
def tP : List UInt8 := [112, 111, 111, 108, 32, 52, 32, 59, 32, 115, 116, 97, 99, 107, 32, 115, 32, 59, 32, 116, 104, 114, 101, 97, 100, 32, 123, 32, 97, 32, 44, 32, 98, 32, 61, 32, 112, 111, 112, 32, 40, 32, 115, 32, 41, 32, 59, 32, 125]
def iA : List Item := [⟨⟨3, [49], 1⟩, 1, 1, 0⟩, ⟨⟨4, [45], 0⟩, 1, 3, 0⟩, ⟨⟨3, [50], 2⟩, 1, 5, 0⟩, ⟨⟨4, [45], 0⟩, 1, 7, 0⟩, ⟨⟨3, [51], 3⟩, 1, 9, 0⟩]
def iB : List Item := [⟨⟨3, [49], 1⟩, 1, 1, 0⟩, ⟨⟨4, [43], 0⟩, 1, 3, 0⟩, ⟨⟨3, [50], 2⟩, 1, 5, 0⟩, ⟨⟨4, [42], 0⟩, 1, 7, 0⟩, ⟨⟨3, [51], 3⟩, 1, 9, 0⟩]
def nX (n l c : Nat) : Ex := .mk 1 0 n [] l c []
def xA : Ex := .mk 5 5 0 [] 1 7 [.mk 5 5 0 [] 1 3 [nX 1 1 1, nX 2 1 5], nX 3 1 9]
def xB : Ex := .mk 5 4 0 [] 1 3 [nX 1 1 1, .mk 5 1 0 [] 1 7 [nX 2 1 5, nX 3 1 9]]
theorem allA : allT tA = (iA, ⟨0, 0, 0⟩) := by kernel_rfl
theorem allB : allT tB = (iB, ⟨0, 0, 0⟩) := by kernel_rfl
theorem exA : exP 3 iA = some (xA, []) := by kernel_rfl
theorem exB : exP 3 iB = some (xB, []) := by kernel_rfl

def iP2 : List Item := [⟨⟨1, [116, 104, 114, 101, 97, 100], 0⟩, 1, 20, 0⟩, ⟨⟨4, [123], 0⟩, 1, 27, 0⟩, ⟨⟨2, [97], 0⟩, 1, 29, 0⟩, ⟨⟨4, [44], 0⟩, 1, 31, 0⟩, ⟨⟨2, [98], 0⟩, 1, 33, 0⟩, ⟨⟨4, [61], 0⟩, 1, 35, 0⟩, ⟨⟨1, [112, 111, 112], 0⟩, 1, 37, 0⟩, ⟨⟨4, [40], 0⟩, 1, 41, 0⟩, ⟨⟨2, [115], 0⟩, 1, 43, 0⟩, ⟨⟨4, [41], 0⟩, 1, 45, 0⟩, ⟨⟨4, [59], 0⟩, 1, 47, 0⟩, ⟨⟨4, [125], 0⟩, 1, 49, 0⟩]
def iP1 : List Item := ⟨⟨1, [115, 116, 97, 99, 107], 0⟩, 1, 10, 0⟩ :: ⟨⟨2, [115], 0⟩, 1, 16, 0⟩ :: ⟨⟨4, [59], 0⟩, 1, 18, 0⟩ :: iP2
def iP : List Item := ⟨⟨1, [112, 111, 111, 108], 0⟩, 1, 1, 0⟩ :: ⟨⟨3, [52], 4⟩, 1, 6, 0⟩ :: ⟨⟨4, [59], 0⟩, 1, 8, 0⟩ :: iP1
theorem allP : allT tP = (iP, ⟨0, 0, 0⟩) := by kernel_rfl
def sP : St := .mk 9 [] 0 2 [97] [98] [115] [] [] [] 1 29
def pP : Pr := ⟨4, [⟨1, [115], 1, 10⟩], [[sP]]⟩

theorem noWord {t : Item} {r : List Item} (h : t.tok.kind = 2) (k : List UInt8) : headIs (t :: r) k = false := by
  unfold headIs isT
  simp [h]

theorem readsPP (R el ec : Nat) : ReadsP R el ec iP pP := by
  have hS : ReadsS R el ec (iP2.drop 2) [⟨⟨4, [125], 0⟩, 1, 49, 0⟩] sP := by
    refine stmt_plain R el ec ⟨⟨2, [97], 0⟩, 1, 29, 0⟩ (iP2.drop 3) [⟨⟨4, [125], 0⟩, 1, 49, 0⟩] sP (fun k => noWord rfl k) fun w Bs hr hB hRB => ?_
    exact plain_two w R el ec 1 Bs ⟨⟨2, [97], 0⟩, 1, 29, 0⟩ ⟨⟨2, [98], 0⟩, 1, 33, 0⟩ (iP2.drop 3) (iP2.drop 5) (iP2.drop 6) [⟨⟨4, [125], 0⟩, 1, 49, 0⟩] 2 1 29 [115] [] hr hB hRB rfl (by kernel_rfl) (by kernel_rfl) (by kernel_rfl) rfl (by kernel_rfl) (by kernel_rfl)
  have hB : ReadsB R el ec (iP2.drop 1) [] [sP] := fun w hr =>
    block_reads R el ec (iP2.drop 1) [] [sP] (fun ts s m => ReadsS R el ec ts m s) (fun _ _ _ h => h) (by kernel_rfl) ⟨by kernel_rfl, [⟨⟨4, [125], 0⟩, 1, 49, 0⟩], hS, by decide, by kernel_rfl, rfl⟩ (by decide) w hr
  intro w hr
  refine (program_reads R el ec iP (⟨⟨4, [59], 0⟩, 1, 8, 0⟩ :: iP1) iP1 iP2 [] ⟨⟨3, [52], 4⟩, 1, 6, 0⟩ pP.conts pP.threads (fun ts b m => ReadsB R el ec ts m b) (fun _ _ _ h => h) (by kernel_rfl) rfl (by kernel_rfl)
    ⟨⟨⟨1, [115, 116, 97, 99, 107], 0⟩, 1, 10, 0⟩, ⟨⟨2, [115], 0⟩, 1, 16, 0⟩, ⟨⟨4, [59], 0⟩, 1, 18, 0⟩ :: iP2, iP2, rfl, rfl, by decide +kernel, rfl, by kernel_rfl, rfl, rfl, fun t r0 h => by cases h; decide +kernel⟩
    ⟨iP2.drop 1, [], by kernel_rfl, hB, by decide, rfl⟩ (by decide) (by decide) w hr).mono ?_
  rintro e w' ⟨p, c, q, d, rfl, h1, h2, -, h3⟩
  exact ⟨_, rfl, ⟨p, c, q, d, rfl, h1, h2⟩, h3⟩

theorem itoa_small {n : Nat} (h : n < 10) : Lib.itoa n = [UInt8.ofNat (48 + n)] := by
  unfold Lib.itoa
  rw [if_neg (by omega)]
  unfold Lib.decDigits
  rw [dif_pos (by simpa using h)]
  simp
theorem textA : mayG (toG xA) = true ∧ tokG (toG xA) = [[40], [49], [45], [50], [41], [45], [51]] := by
  refine ⟨by decide +kernel, ?_⟩
  have h1 := itoa_small (n := 1) (by decide)
  have h2 := itoa_small (n := 2) (by decide)
  have h3 := itoa_small (n := 3) (by decide)
  simp only [xA, nX, toG, toGL]
  show tokG (.mk 5 5 _ _ _ _ [.mk 5 5 _ _ _ _ [.mk 1 _ 1 _ _ _ [], .mk 1 _ 2 _ _ _ []], .mk 1 _ 3 _ _ _ []]) = _
  rw [tok_5, tok_5, tok_1, tok_1, tok_1]
  rw [show Lib.itoa 1 = _ from h1, show Lib.itoa 2 = _ from h2, show Lib.itoa 3 = _ from h3]
  rfl
theorem textB : mayG (toG xB) = true ∧ tokG (toG xB) = [[49], [43], [40], [50], [42], [51], [41]] := by
  refine ⟨by decide +kernel, ?_⟩
  have h1 := itoa_small (n := 1) (by decide)
  have h2 := itoa_small (n := 2) (by decide)
  have h3 := itoa_small (n := 3) (by decide)
  simp only [xB, nX, toG, toGL]
  show tokG (.mk 5 4 _ _ _ _ [.mk 1 _ 1 _ _ _ [], .mk 5 1 _ _ _ _ [.mk 1 _ 2 _ _ _ [], .mk 1 _ 3 _ _ _ []]]) = _
  rw [tok_5, tok_5, tok_1, tok_1, tok_1]
  rw [show Lib.itoa 1 = _ from h1, show Lib.itoa 2 = _ from h2, show Lib.itoa 3 = _ from h3]
  rfl

theorem exprTextA (w : World) (S : Nat → Prop) (vs : List Value) (hex : ExAt w S vs xA) (hT : TabS w) (hP : TabP w) :
    Calls Tryz.prog 10 #[.agg vs.toArray] w fun e w' => e = .returned (.string ⟨#[40, 32, 49, 32, 45, 32, 50, 32, 41, 32, 45, 32, 51]⟩) ∧ KeepBut (fun _ => False) w w' := by
  have h := exprText_any (toG xA) S vs w hex.toG hT hP (by simp [xA, nX, toG, toGL, fitG, fitGL]) (by decide +kernel) (fun _ => by rw [textA.2]; exact ⟨by decide, by decide⟩)
  rw [if_pos textA.1, textA.2] at h
  exact h
theorem exprTextB (w : World) (S : Nat → Prop) (vs : List Value) (hex : ExAt w S vs xB) (hT : TabS w) (hP : TabP w) :
    Calls Tryz.prog 10 #[.agg vs.toArray] w fun e w' => e = .returned (.string ⟨#[49, 32, 43, 32, 40, 32, 50, 32, 42, 32, 51, 32, 41]⟩) ∧ KeepBut (fun _ => False) w w' := by
  have h := exprText_any (toG xB) S vs w hex.toG hT hP (by simp [xB, nX, toG, toGL, fitG, fitGL]) (by decide +kernel) (fun _ => by rw [textB.2]; exact ⟨by decide, by decide⟩)
  rw [if_pos textB.1, textB.2] at h
  exact h
theorem exprA (w : World) (hT : TabS w) : Calls Tryz.prog 11 #[.string ⟨#[49, 32, 45, 32, 50, 32, 45, 32, 51]⟩] w fun e w' => ∃ vs, e = .returned (.tuple #[.agg vs.toArray, .agg #[.int .i64 0, .int .i64 0, .int .i64 0]]) ∧ ExAt w' (fun b => w.heap.size ≤ b) vs xA ∧ KeepBut (fun _ => False) w w' :=
  expr_any 3 ⟨tA.toArray⟩ iA xA w hT allA (by decide) exA (by decide) (by decide +kernel) (by decide +kernel)
theorem exprB (w : World) (hT : TabS w) : Calls Tryz.prog 11 #[.string ⟨#[49, 32, 43, 32, 50, 32, 42, 32, 51]⟩] w fun e w' => ∃ vs, e = .returned (.tuple #[.agg vs.toArray, .agg #[.int .i64 0, .int .i64 0, .int .i64 0]]) ∧ ExAt w' (fun b => w.heap.size ≤ b) vs xB ∧ KeepBut (fun _ => False) w w' :=
  expr_any 3 ⟨tB.toArray⟩ iB xB w hT allB (by decide) exB (by decide) (by decide +kernel) (by decide +kernel)
theorem progP_any (w : World) (hT : TabS w) : Calls Tryz.prog 16 #[.string ⟨tP.toArray⟩] w fun e w' => ∃ vs, e = .returned (.tuple #[.agg vs.toArray, .agg #[.int .i64 0, .int .i64 0, .int .i64 0]]) ∧ PrgAt w' (fun b => w.heap.size ≤ b) vs pP ∧ KeepBut (fun _ => False) w w' :=
  prog_any ⟨tP.toArray⟩ iP pP w hT allP (by decide) (fun R el ec => readsPP R el ec) (by decide) (by decide) (by decide +kernel) (by decide +kernel)

end Go.Proofs.YtomlffobbkcmdaaGreatDoor

/-
  The chapter's examples: lives.
-/
namespace Go.Proofs.YtomlffobbkcmdaaGreatDoor
open Go Go.RowKit Own

theorem progP2 (w : World) (hT : TabS w) : Calls Tryz.prog 16 #[.string ⟨tP.toArray⟩] w fun e w' => ∃ p c q d, e = .returned (.tuple #[.agg #[.int .i64 4, .slice p 1 c, .slice q 1 d], .agg #[.int .i64 0, .int .i64 0, .int .i64 0]]) ∧ ThsAt w' (fun b => w.heap.size ≤ b) q [[sP]] ∧ KeepBut (fun _ => False) w w' := by
  refine (progP_any w hT).mono ?_
  rintro e w' ⟨vs, rfl, ⟨p, c, q, d, rfl, -, h⟩, hk⟩
  exact ⟨p, c, q, d, rfl, h, hk⟩

set_option maxRecDepth 4000 in
set_option maxHeartbeats 32000000 in
theorem lives17 (w : World) (hT : TabS w) (hP : TabP w) : Calls Tryz.prog 8 #[] w fun e w' => e = .returned (.bool true) ∧ KeepBut (fun _ => False) w w' := by
  have HT := Lib.hid hT; have HP := Lib.hid hP
  have HA := Lib.hid (exprA w hT)
  clear hT hP
  go_enter Tryz.func8, Tryz.ntmps8
  go_wp2_with fail
  go_at_call 11
  refine HA.out.mono ?_
  rintro e w1 ⟨vs, rfl, hex, hk⟩
  obtain ⟨ak, ao, an, aS, ap, am, ac, al, acl, rfl⟩ := ex_form hex
  obtain ⟨X, E1, hX, hE, hbe, hkx, hsx⟩ := fresh_block w1 (.cells #[.int .i64 ak, .int .i64 ao, .int .i64 an, .string aS, .slice ap am ac, .int .i64 al, .int .i64 acl] TEx)
  obtain ⟨W1, F1, hW, hF, hbf, hky, hsy⟩ := fresh_block X (.cells #[.int .i64 0, .int .i64 0, .int .i64 0] TFa)
  have hkk := hkx.trans hky
  have h12 : E1 + 1 = F1 := by omega
  have HK1 := Lib.hid (hk.trans hkk); have HE11 := Lib.hid (hky.blk hbe); have HF11 := Lib.hid hbf; have HXA1 := Lib.hid (hex.keep hkk fun _ _ e => e)
  clear hex
  clear hk hkk hbe hbf hkx hky hsx hsy
  go_upto_region 2 with fail
  rw [← hX, ← hW, ← hE, h12]
  clear hX hW hE hF h12
  have HB := Lib.hid (exprB W1 (HK1.out.tabS HT.out))
  go_wp2_with fail
  go_at_call 11
  refine HB.out.mono ?_
  rintro e w2 ⟨vs, rfl, hey, hk⟩
  obtain ⟨bk, bo, bn, bS, bp, bm, bc, bl, bcl, rfl⟩ := ex_form hey
  obtain ⟨X, E2, hX, hE, hbe, hkx, hsx⟩ := fresh_block w2 (.cells #[.int .i64 bk, .int .i64 bo, .int .i64 bn, .string bS, .slice bp bm bc, .int .i64 bl, .int .i64 bcl] TEx)
  obtain ⟨W2, F2, hW, hF, hbf, hky, hsy⟩ := fresh_block X (.cells #[.int .i64 0, .int .i64 0, .int .i64 0] TFa)
  have hkk := hkx.trans hky
  have h12 : E2 + 1 = F2 := by omega
  have hk2 := hk.trans hkk
  have HK2 := Lib.hid (HK1.out.trans hk2); have HE12 := Lib.hid (hk2.blk HE11.out); have HF12 := Lib.hid (hk2.blk HF11.out); have HE22 := Lib.hid (hky.blk hbe); have HF22 := Lib.hid hbf; have HXA2 := Lib.hid (HXA1.out.keep hk2 fun _ _ e => e); have HXB2 := Lib.hid (hey.keep hkk fun _ _ e => e)
  clear hey hk2
  clear hk hkk hbe hbf hkx hky hsx hsy
  go_upto_region 3 with fail
  rw [← hX, ← hW, ← hE, h12]
  clear hX hW hE hF h12
  have HC := Lib.hid (by have h := progP2 W2 (HK2.out.tabS HT.out); unfold tP at h; exact h)
  go_wp2_with fail
  go_at_call 16
  refine HC.out.mono ?_
  rintro e w3 ⟨p, c, q, d, rfl, hth, hk⟩
  obtain ⟨X, E3, hX, hE, hbe, hkx, hsx⟩ := fresh_block w3 (.cells #[.int .i64 4, .slice p 1 c, .slice q 1 d] TPr)
  obtain ⟨W3, F3, hW, hF, hbf, hky, hsy⟩ := fresh_block X (.cells #[.int .i64 0, .int .i64 0, .int .i64 0] TFa)
  have hkk := hkx.trans hky
  have h12 : E3 + 1 = F3 := by omega
  have hk2 := hk.trans hkk
  have HK3 := Lib.hid (HK2.out.trans hk2); have HE13 := Lib.hid (hk2.blk HE12.out); have HF13 := Lib.hid (hk2.blk HF12.out); have HE23 := Lib.hid (hk2.blk HE22.out); have HF23 := Lib.hid (hk2.blk HF22.out); have HE33 := Lib.hid (hky.blk hbe); have HF33 := Lib.hid hbf; have HXA3 := Lib.hid (HXA2.out.keep hk2 fun _ _ e => e); have HXB3 := Lib.hid (HXB2.out.keep hk2 fun _ _ e => e); have HTH := Lib.hid (hth.keepS (w' := W3) (S' := fun b => W2.heap.size ≤ b) (fun b o v _ hc => hkk.stay hc) fun b hb => hb)
  clear hth hk2
  clear hk hkk hbe hbf hkx hky hsx hsy
  go_upto_region 4 with fail
  rw [← hX, ← hW, ← hE, h12]
  clear hX hW hE hF h12
  obtain ⟨g, p1, c1, rfl, hc1, hst⟩ := ths_get HTH.out 0 (by decide)
  obtain ⟨g2, o2, vs, rfl, hc2, hs2⟩ := sts_get hst 0 (by decide)
  obtain ⟨s1, d1, s2, d2, s3, d3, rfl, -⟩ := (by unfold sP at hs2; simp only [List.getElem_cons_zero] at hs2; unfold StAt at hs2; exact hs2)
  have e0 : W3.cell? ⟨g, 0, none⟩ = some (.slice (some ⟨g2, o2, none⟩) 1 c1) := hc1
  have y0 : W3.cell? ⟨g2, o2, none⟩ = some (.int .i64 9) := hc2 0 _ rfl
  have y1 : W3.cell? ⟨g2, o2 + 1, none⟩ = some (.string ⟨#[]⟩) := hc2 1 _ rfl
  have y2 : W3.cell? ⟨g2, o2 + 2, none⟩ = some (.int .i64 0) := hc2 2 _ rfl
  have y3 : W3.cell? ⟨g2, o2 + 3, none⟩ = some (.int .i64 2) := hc2 3 _ rfl
  have y4 : W3.cell? ⟨g2, o2 + 4, none⟩ = some (.string ⟨#[97]⟩) := hc2 4 _ rfl
  have y5 : W3.cell? ⟨g2, o2 + 5, none⟩ = some (.string ⟨#[98]⟩) := hc2 5 _ rfl
  have y6 : W3.cell? ⟨g2, o2 + 6, none⟩ = some (.string ⟨#[115]⟩) := hc2 6 _ rfl
  have y7 : W3.cell? ⟨g2, o2 + 7, none⟩ = some (.slice s1 0 d1) := hc2 7 _ rfl
  have y8 : W3.cell? ⟨g2, o2 + 8, none⟩ = some (.slice s2 0 d2) := hc2 8 _ rfl
  have y9 : W3.cell? ⟨g2, o2 + 9, none⟩ = some (.slice s3 0 d3) := hc2 9 _ rfl
  have y10 : W3.cell? ⟨g2, o2 + 10, none⟩ = some (.int .i64 1) := hc2 10 _ rfl
  have y11 : W3.cell? ⟨g2, o2 + 11, none⟩ = some (.int .i64 29) := hc2 11 _ rfl
  obtain ⟨m0, m1, m2, -⟩ := blk3f HF13.out
  obtain ⟨k0, k1, k2, -⟩ := blk3f HF23.out
  obtain ⟨l0, l1, l2, -⟩ := blk3f HF33.out
  obtain ⟨r0, r1, r2, -⟩ := blk3f HE33.out
  clear hc1 hc2 hst
  obtain ⟨W4, G4, hW4, hG4, hbg, hkg, hsg⟩ := fresh_block W3 (.cells #[.int .i64 9, .string ⟨#[]⟩, .int .i64 0, .int .i64 2, .string ⟨#[97]⟩, .string ⟨#[98]⟩, .string ⟨#[115]⟩, .slice s1 0 d1, .slice s2 0 d2, .slice s3 0 d3, .int .i64 1, .int .i64 29] TSm)
  have HK4 := Lib.hid (HK3.out.trans hkg); have HG4 := Lib.hid hbg; have HE14 := Lib.hid (hkg.blk HE13.out); have HE24 := Lib.hid (hkg.blk HE23.out); have HE34 := Lib.hid (hkg.blk HE33.out)
  have HXA4 := Lib.hid (HXA3.out.keep hkg fun _ _ e => e); have HXB4 := Lib.hid (HXB3.out.keep hkg fun _ _ e => e)
  clear hbg hkg hsg
  go_upto_region 7 with fail
  rw [← hW4, ← hG4]
  clear hW4 hG4 e0 y0 y1 y2 y3 y4 y5 y6 y7 y8 y9 y10 y11 m0 m1 m2 k0 k1 k2 l0 l1 l2 r0 r1 r2
  have HTA := Lib.hid (exprTextA W4 _ _ HXA4.out (HK4.out.tabS HT.out) (HK4.out.tabP HP.out))
  obtain ⟨a0, a1, a2, a3, a4, a5, a6, -⟩ := blk7 HE14.out
  go_wp2_with fail
  go_at_call 10
  refine HTA.out.mono ?_
  rintro e W5 ⟨rfl, hk5⟩
  have HTB := Lib.hid (exprTextB W5 _ _ (HXB4.out.keep hk5 fun _ _ e => e) ((HK4.out.trans hk5).tabS HT.out) ((HK4.out.trans hk5).tabP HP.out))
  have HE25 := Lib.hid (hk5.blk HE24.out); have HK5 := Lib.hid (HK4.out.trans hk5); have HG5 := Lib.hid (hk5.blk HG4.out); have HE35 := Lib.hid (hk5.blk HE34.out)
  clear hk5 a0 a1 a2 a3 a4 a5 a6
  obtain ⟨a0, a1, a2, a3, a4, a5, a6, -⟩ := blk7 HE25.out
  go_wp2_with fail
  go_at_call 10
  refine HTB.out.mono ?_
  rintro e W6 ⟨rfl, hk6⟩
  have hg6 := hk6.blk HG5.out; have he6 := hk6.blk HE35.out
  have HK6 := Lib.hid (HK5.out.trans hk6)
  obtain ⟨y0, y1, y2, y3, y4, y5, y6, y7, y8, y9, y10, y11⟩ := blk12 hg6
  obtain ⟨r0, r1, r2, -⟩ := blk3f he6
  clear hk6 hg6 he6 a0 a1 a2 a3 a4 a5 a6
  go_wp2_with fail
  go_ret
  exact ⟨rfl, HK6.out⟩

end Go.Proofs.YtomlffobbkcmdaaGreatDoor

/-
  What the rows' condition gives the walks: the table of blanks and the powers of ten.
-/
namespace Go.Proofs.YtomlffobbkcmdaaGreatDoor
open Go Go.ChangeShapes Go.WideShapes Go.ChangeAt Go.RowKit

theorem Tryz.own : ownKnob Tryz.prog.godebug = none := by kernel_rfl
theorem Tryz.laidOut : laidOutB Tryz.prog = true := by kernel_rfl

theorem tabs_of_laid {W : World} (h : laidMetH Tryz.prog Rows.parseRowsRow.laid W) : TabS W ∧ TabP W := by
  rw [MakeChecks.laidMetH_plain _ _ _ (by kernel_rfl)] at h
  obtain ⟨ps, ⟨g0, t0, cs0, f0, p0, q0, hg0, ht0, hv0, hd0, ⟨g1, t1, cs1, f1, p1, q1, hg1, ht1, hv1, hd1, ⟨g2, t2, cs2, f2, p2, q2, hg2, ht2, hv2, hd2, ⟨g3, t3, cs3, f3, p3, q3, hg3, ht3, hv3, hd3, ⟨g4, t4, cs4, f4, p4, q4, hg4, ht4, hv4, hd4, _, _⟩, _⟩, _⟩, _⟩, _⟩, _, _⟩ := h
  constructor
  · obtain rfl := Option.some.inj ((show Tryz.prog.globalNamed "strings.asciiSpace" = some 1 by kernel_rfl).symm.trans hg4)
    obtain rfl := Option.some.inj ((show (Tryz.prog.globals[1]?).map (·.type) = some 182 by kernel_rfl).symm.trans ht4)
    unfold TabS Lib.TabIs
    have e : (Rows.laid_strings_asciiSpace : DataW Unit) = Lib.tabData .u8 Lib.asciiSpaceTab := by kernel_rfl
    rw [e] at hd4
    rw [hv4, ← Lib.cells_of_tab Tryz.underlying182 Tryz.underlying5 (by kernel_rfl) (by kernel_rfl) hd4]
  · obtain rfl := Option.some.inj ((show Tryz.prog.globalNamed "internal/strconv.uint64pow10" = some 0 by kernel_rfl).symm.trans hg2)
    obtain rfl := Option.some.inj ((show (Tryz.prog.globals[0]?).map (·.type) = some 179 by kernel_rfl).symm.trans ht2)
    unfold TabP Lib.TabIs
    have e : (Rows.laid_internal_strconv_uint64pow10 : DataW Unit) = Lib.tabData .u64 Lib.pow10Tab := by kernel_rfl
    rw [e] at hd2
    rw [hv2, ← Lib.cells_of_tab Tryz.underlying179 Tryz.underlying168 (by kernel_rfl) (by kernel_rfl) hd2]

end Go.Proofs.YtomlffobbkcmdaaGreatDoor

/-
  An argument of three numbers of 32 bits, opened.
-/
namespace Go.Proofs.YtomlffobbkcmdaaGreatDoor
open Go Go.ChangeShapes Go.WideShapes Go.ChangeAt Go.RowKit

theorem u32_range {z : Int} (h : (Lit.int IntKind.u32 z).wf = true) : 0 ≤ z ∧ z < 4294967296 := by
  simp only [Lit.wf, Bool.and_eq_true, decide_eq_true_eq] at h
  have h1 : IntKind.u32.min = 0 := rfl
  have h2 : IntKind.u32.max = 4294967295 := rfl
  omega

set_option maxRecDepth 10000 in
theorem open_three {H : Type} {enc : TypeId × Value → H} {W : World} {base b0 : Nat} {r : Reach} {sp : Nat → Bool} {held : Bool} {v : Value} {d : DataW H} {ps : List MemPlace}
    (hv : Value.okWide Tryz.prog W r b0 37 v) (hd : DataW.Trod enc Tryz.prog W base sp held 37 v d ps) :
    ∃ n0 n1 n2 : Nat, n0 < 4294967296 ∧ n1 < 4294967296 ∧ n2 < 4294967296 ∧ v = .agg #[.int .u32 n0, .int .u32 n1, .int .u32 n2] := by
  simp only [Value.okWide, Tryz.underlying37] at hv
  obtain ⟨cs, rfl, hs, -⟩ := hv
  have hs3 : cs.size = 3 := by rw [hs]; kernel_rfl
  obtain ⟨fuel, hf⟩ := hd
  cases fuel with
  | zero => simp [DataW.trod] at hf
  | succ m =>
    have hce : Tryz.prog.cellsOf 36 = 1 := by kernel_rfl
    rw [DataW.trod_step] at hf
    unfold DataW.trodStep at hf
    simp only [Tryz.underlying37, Value.cells, hce, Nat.mul_one] at hf
    split at hf
    · simp only [Option.map_eq_some_iff] at hf
      obtain ⟨ys, hy, -⟩ := hf
      obtain ⟨l⟩ := cs
      match l, hs3 with
      | [x0, x1, x2], _ =>
        have at_ : ∀ i, i < 3 → ∀ x, [x0, x1, x2][i]? = some x → ∃ n : Nat, n < 4294967296 ∧ x = .int .u32 n := by
          intro i hi x hx
          obtain ⟨b, -, hb⟩ := Lib.mapM_at hy i i (by simp [hi])
          obtain ⟨z, hc, -, hw⟩ := DataW.trod_int Tryz.underlying36 hb
          have h1 : x = .int .u32 z := by
            have := congrArg (·[0]?) hc
            simp [List.getElem?_drop, hx] at this
            exact this
          have h2 := u32_range hw
          exact ⟨z.toNat, by omega, by rw [h1]; congr 1; omega⟩
        obtain ⟨n0, h0, rfl⟩ := at_ 0 (by decide) _ rfl
        obtain ⟨n1, h1, rfl⟩ := at_ 1 (by decide) _ rfl
        obtain ⟨n2, h2, rfl⟩ := at_ 2 (by decide) _ rfl
        exact ⟨n0, n1, n2, h0, h1, h2, rfl⟩
    · cases hf

end Go.Proofs.YtomlffobbkcmdaaGreatDoor

/-
  Arguments of the statements: lists of arguments behind a call that only makes memory.
-/
namespace Go.Proofs.YtomlffobbkcmdaaGreatDoor
open Go Go.ChangeShapes Go.WideShapes Go.ChangeAt Go.RowKit

theorem trodAll_below {H : Type} {enc : TypeId × Value → H} {P : Program} {W W' : World} (hl : laidOutB P = true) (hb : Below W.heap.size W W') : ∀ (ts : List TypeId) (vs : List Value) (ds : List (DataW H)) (ps : List MemPlace),
    (ts.all fun t => P.readableRec t && decide (t < P.types.size)) = true → DataW.TrodAll enc P W 0 (fun _ => true) true ts vs ds ps → (∀ x ∈ ps, x.block < W.heap.size) → DataW.TrodAll enc P W' 0 (fun b => decide (b < W.heap.size)) true ts vs ds ps
  | [], [], [], _, _, h, _ => h
  | t :: ts, v :: vs, d :: ds, ps, hr, h, hlt => by
    obtain ⟨p, q, h1, h2, e⟩ := h
    simp only [List.all_cons, Bool.and_eq_true, decide_eq_true_eq] at hr
    exact ⟨p, q, Below.trod hl hr.1.1 hr.1.2 h1 hb (fun x hx => hlt x (by rw [e]; exact List.mem_append_left _ hx)), trodAll_below hl hb ts vs ds q hr.2 h2 (fun x hx => hlt x (by rw [e]; exact List.mem_append_right _ hx)), e⟩
  | [], _ :: _, _, _, _, h, _ => h.elim
  | [], [], _ :: _, _, _, h, _ => h.elim
  | _ :: _, [], _, _, _, h, _ => h.elim
  | _ :: _, _ :: _, [], _, _, h, _ => h.elim

/-- the head of a list of arguments -/
theorem trodAll_head {H : Type} {enc : TypeId × Value → H} {P : Program} {W : World} {sp : Nat → Bool} {t : TypeId} {ts : List TypeId} {vs : List Value} {ds : List (DataW H)} {ps : List MemPlace}
    (h : DataW.TrodAll enc P W 0 sp true (t :: ts) vs ds ps) : ∃ v vs' d ds' p q, vs = v :: vs' ∧ ds = d :: ds' ∧ DataW.Trod enc P W 0 sp true t v d p ∧ DataW.TrodAll enc P W 0 sp true ts vs' ds' q := by
  match vs, ds, h with
  | v :: vs', d :: ds', ⟨p, q, h1, h2, _⟩ => exact ⟨v, vs', d, ds', p, q, rfl, rfl, h1, h2⟩
  | [], [], h => exact h.elim
  | [], _ :: _, h => exact h.elim
  | _ :: _, [], h => exact h.elim

theorem trodAll_end {H : Type} {enc : TypeId × Value → H} {P : Program} {W : World} {sp : Nat → Bool} {vs : List Value} {ds : List (DataW H)} {ps : List MemPlace}
    (h : DataW.TrodAll enc P W 0 sp true [] vs ds ps) : vs = [] ∧ ds = [] := by
  match vs, ds, h with
  | [], [], _ => exact ⟨rfl, rfl⟩
  | [], _ :: _, h => exact h.elim
  | _ :: _, _, h => exact h.elim

end Go.Proofs.YtomlffobbkcmdaaGreatDoor
