/-
  SpecMay, walked.
-/
import Derived.Test.YtopodipjapiaoaaDoorMayLaw
import Derived.Test.YtopodipjapiaoaaDoorOwnC
import Derived.Test.YtopodipjapiaoaaDoorLives
import Derived.Deep.CutRange
import Derived.Deep.CutBlock
namespace Go.Proofs.YtopodipjapiaoaaDoor
open Go Go.RowKit Own

theorem Own.KeepBut.tab {w w' : World} {n : String} {k : IntKind} {zs : List Int} (h : KeepBut (fun _ => False) w w') (t : Lib.TabIs Tryd.prog w n k zs) : Lib.TabIs Tryd.prog w' n k zs :=
  Lib.tabBelow_of_tabIs t w' ⟨h.os, h.tape, h.output, h.size, fun j hj => h.block j hj fun e => e⟩

theorem do_short {k op : Int} {xs : List Int} {x dk dv dc de : Int} {ys : List Int} (h : doR k op xs x = ⟨dk, ys, dv, dc, de⟩) (_hl : xs.length ≤ 1099511627776) : ys.length ≤ 1099511627776 := by
  have e : (doR k op xs x).items.length ≤ 64 := by
    unfold doR
    split
    · split
      · assumption
      · exact Nat.zero_le _
    · exact Nat.zero_le _
  rw [h] at e
  show ys.length ≤ _
  have e' : ys.length ≤ 64 := e
  omega

set_option maxRecDepth 100000 in
set_option maxHeartbeats 16000000 in
theorem may_walk (w : World) (k l : Int) (p q : Option Addr) (cp cq : Nat) (xs ys : List Int) (hx : Rd w p (ints xs)) (hy : Rd w q (ints ys)) (hlx : xs.length ≤ 100) (hly : ys.length ≤ 100)
    (hp : ∀ a, p = some a → a.spot = none) (op x v cd : Int) (hk : In64 k) (hl : In64 l) (hxx : ∀ z ∈ xs, In64 z) (hyy : ∀ z ∈ ys, In64 z)
    (htab : Lib.TabIs Tryd.prog w "internal/strconv.uint64pow10" .u64 Lib.pow10Tab) :
    Calls Tryd.prog 4 #[.agg #[.int .i64 k, .slice p xs.length cp], .agg #[.int .i64 l, .slice q ys.length cq], .int .i64 op, .int .i64 x, .int .i64 v, .int .i64 cd] w fun e w' => e = .returned (.bool true) ∧ KeepBut (fun _ => False) w w' := by
  obtain ⟨W1, B6, hW1, hB6, hb6, hk1, hs1⟩ := fresh_block w (.cells #[.int .i64 k, .slice p xs.length cp] 24)
  obtain ⟨W, B7, hWd, hB7, hb7, hkW, hs2⟩ := fresh_block W1 (.cells #[.int .i64 l, .slice q ys.length cq] 24)
  have hk0 := hk1.trans hkW
  have HK := Lib.hid hk0
  have HX := Lib.hid (hx.stay hk0); have HY := Lib.hid (hy.stay hk0)
  have HB6 := Lib.hid (hkW.blk hb6); have HB7 := Lib.hid hb7
  have hN : B6 + 1 = B7 := by omega
  have HT := Lib.hid (hk0.tab htab)
  have HL := Lib.hid (show xs.length ≤ 1099511627776 ∧ ys.length ≤ 1099511627776 ∧ xs.length ≤ 1000000 ∧ ys.length ≤ 1000000 by omega)
  have hli : (xs.length : Int) ≤ 100 := by omega
  have hlj : (ys.length : Int) ≤ 100 := by omega
  obtain ⟨dk, zs, dv, dc, de, hdo⟩ : ∃ dk zs dv dc de, doR k op xs x = ⟨dk, zs, dv, dc, de⟩ := ⟨_, _, _, _, _, rfl⟩
  obtain ⟨mk, ms, mo, hmo⟩ : ∃ mk ms mo, mayR k op xs x v cd = ⟨mk, ms, mo⟩ := ⟨_, _, _, rfl⟩
  have HD := Lib.hid hdo; have HM := Lib.hid hmo
  have hOwn : Hid (∀ W', KeepBut (fun _ => False) W W' → Calls Tryd.prog 15 #[.agg #[.int .i64 k, .slice p xs.length cp]] W' fun e w' => DoneC W' e w' k xs) := fun W' h =>
    ownContent_any W' k p cp xs (HX.out.stay h) HL.out.1
  have hMay : Hid (∀ W', KeepBut (fun _ => False) W W' → Calls Tryd.prog 8 #[.agg #[.int .i64 k, .slice p xs.length cp], .int .i64 op, .int .i64 x, .int .i64 v, .int .i64 cd] W' fun e w' => DoneM W' e w' ⟨mk, ms, mo⟩) := fun W' h => by
    have := may_any W' k p cp xs (HX.out.stay h) HL.out.1 hp op x v cd
    rw [HM.out] at this; exact this
  have hDo : Hid (∀ W', KeepBut (fun _ => False) W W' → Calls Tryd.prog 7 #[.agg #[.int .i64 k, .slice p xs.length cp], .int .i64 op, .int .i64 x] W' fun e w' => Done4 W' e w' dk zs dv dc de) := fun W' h => by
    have := do_any W' k p cp xs (HX.out.stay h) HL.out.1 hp op x
    rw [HD.out] at this; exact this
  obtain ⟨s1, hs1'⟩ : ∃ s1 : ByteArray, ⟨(keyB k xs).toArray⟩ = s1 := ⟨_, rfl⟩
  obtain ⟨s2, hs2'⟩ : ∃ s2 : ByteArray, ⟨(keyB l ys).toArray⟩ = s2 := ⟨_, rfl⟩
  have hKey1 : Hid (∀ W', KeepBut (fun _ => False) W W' → Calls Tryd.prog 13 #[.agg #[.int .i64 k, .slice p xs.length cp]] W' fun e w' => e = .returned (.string s1) ∧ KeepBut (fun _ => False) W' w') := fun W' h => by
    have := key_any W' k p cp xs (HX.out.stay h) HL.out.2.2.1 hk hxx (h.tab HT.out)
    rw [hs1'] at this; exact this
  have hKey2 : Hid (∀ W', KeepBut (fun _ => False) W W' → Calls Tryd.prog 13 #[.agg #[.int .i64 l, .slice q ys.length cq]] W' fun e w' => e = .returned (.string s2) ∧ KeepBut (fun _ => False) W' w') := fun W' h => by
    have := key_any W' l q cq ys (HY.out.stay h) HL.out.2.2.2 hl hyy (h.tab HT.out)
    rw [hs2'] at this; exact this
  obtain ⟨r, hr⟩ : ∃ r, decide (k = l ∧ xs = ys) = r := ⟨_, rfl⟩
  have HS := Lib.hid (show (s1.toList == s2.toList) = r by rw [← hs1', ← hs2', key_same, hr])
  have hSame : Hid (∀ W', KeepBut (fun _ => False) W W' → Calls Tryd.prog 17 #[.agg #[.int .i64 k, .slice p xs.length cp], .agg #[.int .i64 l, .slice q ys.length cq]] W' fun e w' => e = .returned (.bool r) ∧ KeepBut (fun _ => False) W' w') := fun W' h => by
    have := same_any W' k l p q cp cq xs ys (HX.out.stay h) (HY.out.stay h) HL.out.1 HL.out.2.1
    rw [hr] at this; exact this
  have x0 := blk_cell (k := 0) HB6.out rfl
  have x1 := blk_cell (k := 1) HB6.out rfl
  have y1 := blk_cell (k := 1) HB7.out rfl
  clear hx hy hlx hly hp hk hl hxx hyy htab hb6 hb7 hkW hk1 hs1 hs2 hk0 hdo hmo hr hs1' hs2'
  go_enter Tryd.func4, Tryd.ntmps4
  go_upto_region 1 with fail
  rw [← hW1, ← hB6, ← hWd, hN]
  clear hWd hB6 hW1 hB7 hN
  go_upto_region 5 with (go_at_call 9; refine (lives_any _).mono ?_; rintro e w1 ⟨rfl, hk1⟩; have x0 := hk1.stay x0; have x1 := hk1.stay x1; have y1 := hk1.stay y1; have HK1 := Lib.hid hk1; clear hk1)
  clear y1
  go_upto_region 6 with (go_at_call 15; refine (hOwn.out _ HK1.out).mono ?_; rintro e w2 ⟨p2, c2, rfl, hL2, hk2⟩)
  obtain ⟨V2, B13, hV2, hB13, hb13, hkb2, -⟩ := fresh_block w2 (.cells #[.int .i64 k, .slice p2 xs.length c2] 24)
  rw [← hV2, ← hB13]
  have HK2 := Lib.hid (HK1.out.trans (hk2.trans hkb2))
  have HL2 := Lib.hid ((hL2.base (base' := 0) fun _ _ => Nat.zero_le _).stay hkb2)
  have HB13 := Lib.hid hb13
  have x0 := (hk2.trans hkb2).stay x0
  have x1 := (hk2.trans hkb2).stay x1
  clear hV2 hB13 hb13 hkb2 hk2 hL2 hOwn HK1
  go_upto_region 7 with (go_at_call 8; refine (hMay.out _ HK2.out).mono ?_; rintro e w3 ⟨p3, c3, rfl, hL3, hk3⟩)
  obtain ⟨V3, B14, hV3, hB14, hb14, hkb3, -⟩ := fresh_block w3 (.cells #[.int .i64 mk, .slice p3 ms.length c3] 24)
  rw [← hV3, ← hB14]
  have HK3 := Lib.hid (hk3.trans hkb3)
  have HL3 := Lib.hid ((hL3.base (base' := 0) fun _ _ => Nat.zero_le _).stay hkb3)
  have HB14 := Lib.hid hb14
  have x0 := (hk3.trans hkb3).stay x0
  have x1 := (hk3.trans hkb3).stay x1
  clear hV3 hB14 hb14 hkb3 hk3 hL3 hMay
  go_upto_region 8 with (go_at_call 7; refine (hDo.out _ (HK2.out.trans HK3.out)).mono ?_; rintro e w4 ⟨p4, c4, rfl, hL4, hk4⟩)
  obtain ⟨V4, B16, hV4, hB16, hb16, hkb4, -⟩ := fresh_block w4 (.cells #[.int .i64 dk, .slice p4 zs.length c4] 24)
  rw [← hV4, ← hB16]
  have h34 := hk4.trans hkb4
  have h24 := HK3.out.trans h34
  have HK4 := Lib.hid (HK2.out.trans h24)
  have HL2 := Lib.hid (HL2.out.stay h24)
  have HL3 := Lib.hid (HL3.out.stay h34)
  have HL4 := Lib.hid ((hL4.base (base' := 0) fun _ _ => Nat.zero_le _).stay hkb4)
  have HB13 := Lib.hid (h24.blk HB13.out)
  have HB14 := Lib.hid (h34.blk HB14.out)
  have HB16 := Lib.hid hb16
  clear hV4 hB16 hb16 hkb4 hk4 hL4 hDo HK3 HK2 x0 x1 h34 h24
  obtain ⟨full, hfu⟩ : ∃ full, (cd == 2 && (v == 0 && (insB op && (de == 7 || (de == 0 && dc == 1))))) = full := ⟨_, rfl⟩
  obtain ⟨does, hde⟩ : ∃ does, (de == 0 && (v == dv && cd == dc)) = does := ⟨_, rfl⟩
  have HLaw := Lib.hid (may_law HD.out full does hfu hde)
  have HF := Lib.hid hfu; have HE := Lib.hid hde
  clear hfu hde
  go_cut [20] from 22 to 133 (fun v20 wx => v20 = .bool full ∧ wx = V4)
  case first =>
    rcases Bool.eq_false_or_eq_true (cd == 2) with h1 | h1
    · rcases Bool.eq_false_or_eq_true (v == 0) with h2 | h2
      · rcases Bool.eq_false_or_eq_true (insB op) with h3 | h3
        · rcases Bool.eq_false_or_eq_true (de == 7) with h4 | h4
          · go_wp2_with (go_at_call 10; refine (inserts_any _ _).mono ?_; rintro e w' ⟨rfl, hww⟩; have hww := hww.symm; subst hww)
            go_meet
            case rel => exact ⟨by have h := HF.out; rw [h1, h2, h3, h4] at h; rw [← h]; rfl, rfl⟩
          · rcases Bool.eq_false_or_eq_true (de == 0) with h5 | h5
            · rcases Bool.eq_false_or_eq_true (dc == 1) with h6 | h6
              · go_wp2_with (go_at_call 10; refine (inserts_any _ _).mono ?_; rintro e w' ⟨rfl, hww⟩; have hww := hww.symm; subst hww)
                go_meet
                case rel => exact ⟨by have h := HF.out; rw [h1, h2, h3, h4, h5, h6] at h; rw [← h]; rfl, rfl⟩
              · go_wp2_with (go_at_call 10; refine (inserts_any _ _).mono ?_; rintro e w' ⟨rfl, hww⟩; have hww := hww.symm; subst hww)
                go_meet
                case rel => exact ⟨by have h := HF.out; rw [h1, h2, h3, h4, h5, h6] at h; rw [← h]; rfl, rfl⟩
            · go_wp2_with (go_at_call 10; refine (inserts_any _ _).mono ?_; rintro e w' ⟨rfl, hww⟩; have hww := hww.symm; subst hww)
              go_meet
              case rel => exact ⟨by have h := HF.out; rw [h1, h2, h3, h4, h5] at h; rw [← h]; rfl, rfl⟩
        · go_wp2_with (go_at_call 10; refine (inserts_any _ _).mono ?_; rintro e w' ⟨rfl, hww⟩; have hww := hww.symm; subst hww)
          go_meet
          case rel => exact ⟨by have h := HF.out; rw [h1, h2, h3] at h; rw [← h]; rfl, rfl⟩
      · go_wp2_with (go_at_call 10; refine (inserts_any _ _).mono ?_; rintro e w' ⟨rfl, hww⟩; have hww := hww.symm; subst hww)
        go_meet
        case rel => exact ⟨by have h := HF.out; rw [h1, h2] at h; rw [← h]; rfl, rfl⟩
    · go_wp2_with (go_at_call 10; refine (inserts_any _ _).mono ?_; rintro e w' ⟨rfl, hww⟩; have hww := hww.symm; subst hww)
      go_meet
      case rel => exact ⟨by have h := HF.out; rw [h1] at h; rw [← h]; rfl, rfl⟩
  case rest =>
    obtain ⟨rfl, hww⟩ := hcut
    have hww := hww.symm
    subst hww
    go_upto_region 9 with fail
    go_cut [21] from 22 to 133 (fun v21 wx => v21 = .bool does ∧ wx = V4)
    case first =>
      rcases Bool.eq_false_or_eq_true (de == 0) with h1 | h1
      · rcases Bool.eq_false_or_eq_true (v == dv) with h2 | h2
        · rcases Bool.eq_false_or_eq_true (cd == dc) with h3 | h3
          · go_wp2_with fail
            go_meet
            case rel => exact ⟨by have h := HE.out; rw [h1, h2, h3] at h; rw [← h]; rfl, rfl⟩
          · go_wp2_with fail
            go_meet
            case rel => exact ⟨by have h := HE.out; rw [h1, h2, h3] at h; rw [← h]; rfl, rfl⟩
        · go_wp2_with fail
          go_meet
          case rel => exact ⟨by have h := HE.out; rw [h1, h2] at h; rw [← h]; rfl, rfl⟩
      · go_wp2_with fail
        go_meet
        case rel => exact ⟨by have h := HE.out; rw [h1] at h; rw [← h]; rfl, rfl⟩
    case rest =>
      obtain ⟨rfl, hww⟩ := hcut
      have hww := hww.symm
      subst hww
      have x0 := (HK4.out.blk HB6.out); have x0 := blk_cell (k := 0) x0 rfl
      have x1 := (HK4.out.blk HB6.out); have x1 := blk_cell (k := 1) x1 rfl
      have u0 := blk_cell (k := 0) HB13.out rfl
      have u1 := blk_cell (k := 1) HB13.out rfl
      have v0 := blk_cell (k := 0) HB14.out rfl
      have v1 := blk_cell (k := 1) HB14.out rfl
      have s0 := blk_cell (k := 0) HB16.out rfl
      have s1' := blk_cell (k := 1) HB16.out rfl
      have hCon : Hid (Calls Tryd.prog 16 #[.agg #[.int .i64 k, .slice p2 xs.length c2], .agg #[.int .i64 k, .slice p xs.length cp]] V4 fun e w' => e = .returned (.bool true) ∧ KeepBut (fun _ => False) V4 w') := by
        have := content_any V4 k k p2 p c2 cp xs xs HL2.out.1 (HX.out.stay HK4.out) HL.out.1 HL.out.1
        rw [show decide (k = k ∧ xs = xs) = true by simp] at this; exact this
      rcases HLaw.out with ⟨he, hd⟩ | ⟨he, hf, hd⟩
      · rw [HM.out] at he
        simp only [MayOut.mk.injEq] at he
        obtain ⟨e1, e2, e3⟩ := he
        have e1 := e1.symm; have e2 := e2.symm; have e3 := e3.symm
        subst e1 e2 e3 hd
        cases full
        · as_aux_lemma =>
          have hSm : Hid (∀ W', KeepBut (fun _ => False) V4 W' → Calls Tryd.prog 17 #[.agg #[.int .i64 k, .slice p3 xs.length c3], .agg #[.int .i64 k, .slice p xs.length cp]] W' fun e w' => e = .returned (.bool true) ∧ KeepBut (fun _ => False) W' w') := fun W' h => by
            have := same_any W' k k p3 p c3 cp xs xs (HL3.out.stay h).1 (HX.out.stay (HK4.out.trans h)) HL.out.1 HL.out.1
            rw [show decide (k = k ∧ xs = xs) = true by simp] at this; exact this
          go_upto_region 12 with (first
            | (go_at_call 16; refine hCon.out.mono ?_; rintro e w5 ⟨rfl, hk5⟩
               have x0 := hk5.stay x0; have x1 := hk5.stay x1; have v0 := hk5.stay v0; have v1 := hk5.stay v1; have s0 := hk5.stay s0; have s1' := hk5.stay s1'; clear u0 u1)
            | (go_at_call 17; refine (hSm.out _ hk5).mono ?_; rintro e w6 ⟨rfl, hk6⟩))
          clear v0 v1 s0 s1' hSm hCon
          have HK6 := Lib.hid (HK4.out.trans (hk5.trans hk6))
          clear hk5 hk6 x0 x1
          have x0 : ∀ w', KeepBut (fun _ => False) w6.drew w' → w'.cell? ⟨B6, 0, none⟩ = some (.int .i64 k) := fun w' h => (HK6.out.trans ((KeepBut.drew _ w6).trans h)).stay (blk_cell (k := 0) HB6.out rfl)
          have x1 : ∀ w', KeepBut (fun _ => False) w6.drew w' → w'.cell? ⟨B6, 1, none⟩ = some (.slice p xs.length cp) := fun w' h => (HK6.out.trans ((KeepBut.drew _ w6).trans h)).stay (blk_cell (k := 1) HB6.out rfl)
          have y0 : ∀ w', KeepBut (fun _ => False) w6.drew w' → w'.cell? ⟨B7, 0, none⟩ = some (.int .i64 l) := fun w' h => (HK6.out.trans ((KeepBut.drew _ w6).trans h)).stay (blk_cell (k := 0) HB7.out rfl)
          have y1 : ∀ w', KeepBut (fun _ => False) w6.drew w' → w'.cell? ⟨B7, 1, none⟩ = some (.slice q ys.length cq) := fun w' h => (HK6.out.trans ((KeepBut.drew _ w6).trans h)).stay (blk_cell (k := 1) HB7.out rfl)
          have hks := HS.out
          go_upto_region 12 with fail
          refine wp_own0 (by kernel_rfl) (fun i => [[], [0], [], [0, 1, 2], [0, 1, 2, 3], [], [], [0, 1, 2, 3, 5, 6], [0, 1, 2, 3, 4, 5, 6, 7], [0, 1, 2, 3, 4, 5, 6, 7, 8]].getD i []) (fun _ => []) (fun _ => []) [] (by kernel_rfl)
            (fun i => if i = 1 then some (sConst (.string s1)) else if i = 3 then some (sConst (.string s2)) else if i = 7 then some (sConst (.bool r)) else none) ?_
          repeat
            apply lex_quiet rfl rfl
            · intro w' hk; go_simp; with_reducible rfl
            simp only [Act.put, List.setIfInBounds_toArray, List.set_cons_zero, List.set_cons_succ]
          refine lex_loud rfl rfl (loud_call 13 #[.agg #[.int .i64 k, .slice p xs.length cp]] (fun w => by kernel_rfl) ⟨default, trivial⟩ (fun g _ => stable_true _) fun w' hk _ _ => (hKey1.out w' (HK6.out.trans ((KeepBut.drew _ w6).trans hk))).mono ?_) fun g1 _ => ?_
          · rintro e w'' ⟨rfl, hq⟩
            exact ⟨default, trivial, rfl, hq.mono fun _ e => e.elim, fun b h => h.elim, trivial⟩
          simp only [sConst, Act.put, List.setIfInBounds_toArray, List.set_cons_zero, List.set_cons_succ]
          repeat
            apply lex_quiet rfl rfl
            · intro w' hk; go_simp; with_reducible rfl
            simp only [Act.put, List.setIfInBounds_toArray, List.set_cons_zero, List.set_cons_succ]
          refine lex_loud rfl rfl (loud_call 13 #[.agg #[.int .i64 l, .slice q ys.length cq]] (fun w => by kernel_rfl) ⟨default, trivial⟩ (fun g _ => stable_true _) fun w' hk _ _ => (hKey2.out w' (HK6.out.trans ((KeepBut.drew _ w6).trans hk))).mono ?_) fun g3 _ => ?_
          · rintro e w'' ⟨rfl, hq⟩
            exact ⟨default, trivial, rfl, hq.mono fun _ e => e.elim, fun b h => h.elim, trivial⟩
          simp only [sConst, Act.put, List.setIfInBounds_toArray, List.set_cons_zero, List.set_cons_succ]
          repeat
            apply lex_quiet rfl rfl
            · intro w' hk; go_simp; with_reducible rfl
            simp only [Act.put, List.setIfInBounds_toArray, List.set_cons_zero, List.set_cons_succ]
          refine lex_loud rfl rfl (loud_call 17 #[.agg #[.int .i64 k, .slice p xs.length cp], .agg #[.int .i64 l, .slice q ys.length cq]] (fun w => by kernel_rfl) ⟨default, trivial⟩ (fun g _ => stable_true _) fun w' hk _ _ => (hSame.out w' (HK6.out.trans ((KeepBut.drew _ w6).trans hk))).mono ?_) fun g7 _ => ?_
          · rintro e w'' ⟨rfl, hq⟩
            exact ⟨default, trivial, rfl, hq.mono fun _ e => e.elim, fun b h => h.elim, trivial⟩
          simp only [sConst, Act.put, List.setIfInBounds_toArray, List.set_cons_zero, List.set_cons_succ]
          repeat
            apply lex_quiet rfl rfl
            · intro w' hk; go_simp; with_reducible rfl
            simp only [Act.put, List.setIfInBounds_toArray, List.set_cons_zero, List.set_cons_succ]
          refine lex_nil ?_
          intro w9 hk _ _
          have HK9 := Lib.hid (HK.out.trans (HK6.out.trans ((KeepBut.drew _ w6).trans hk)))
          clear hk x0 x1 y0 y1 hks
          go_wp2_with fail
          go_ret
          exact ⟨rfl, HK9.out⟩
        · as_aux_lemma =>
          have hSm : Hid (∀ W', KeepBut (fun _ => False) V4 W' → Calls Tryd.prog 17 #[.agg #[.int .i64 k, .slice p3 xs.length c3], .agg #[.int .i64 k, .slice p xs.length cp]] W' fun e w' => e = .returned (.bool true) ∧ KeepBut (fun _ => False) W' w') := fun W' h => by
            have := same_any W' k k p3 p c3 cp xs xs (HL3.out.stay h).1 (HX.out.stay (HK4.out.trans h)) HL.out.1 HL.out.1
            rw [show decide (k = k ∧ xs = xs) = true by simp] at this; exact this
          go_upto_region 12 with (first
            | (go_at_call 16; refine hCon.out.mono ?_; rintro e w5 ⟨rfl, hk5⟩
               have x0 := hk5.stay x0; have x1 := hk5.stay x1; have v0 := hk5.stay v0; have v1 := hk5.stay v1; have s0 := hk5.stay s0; have s1' := hk5.stay s1'; clear u0 u1)
            | (go_at_call 17; refine (hSm.out _ hk5).mono ?_; rintro e w6 ⟨rfl, hk6⟩))
          clear v0 v1 s0 s1' hSm hCon
          have HK6 := Lib.hid (HK4.out.trans (hk5.trans hk6))
          clear hk5 hk6 x0 x1
          have x0 : ∀ w', KeepBut (fun _ => False) w6.drew w' → w'.cell? ⟨B6, 0, none⟩ = some (.int .i64 k) := fun w' h => (HK6.out.trans ((KeepBut.drew _ w6).trans h)).stay (blk_cell (k := 0) HB6.out rfl)
          have x1 : ∀ w', KeepBut (fun _ => False) w6.drew w' → w'.cell? ⟨B6, 1, none⟩ = some (.slice p xs.length cp) := fun w' h => (HK6.out.trans ((KeepBut.drew _ w6).trans h)).stay (blk_cell (k := 1) HB6.out rfl)
          have y0 : ∀ w', KeepBut (fun _ => False) w6.drew w' → w'.cell? ⟨B7, 0, none⟩ = some (.int .i64 l) := fun w' h => (HK6.out.trans ((KeepBut.drew _ w6).trans h)).stay (blk_cell (k := 0) HB7.out rfl)
          have y1 : ∀ w', KeepBut (fun _ => False) w6.drew w' → w'.cell? ⟨B7, 1, none⟩ = some (.slice q ys.length cq) := fun w' h => (HK6.out.trans ((KeepBut.drew _ w6).trans h)).stay (blk_cell (k := 1) HB7.out rfl)
          have hks := HS.out
          go_upto_region 12 with fail
          refine wp_own0 (by kernel_rfl) (fun i => [[], [0], [], [0, 1, 2], [0, 1, 2, 3], [], [], [0, 1, 2, 3, 5, 6], [0, 1, 2, 3, 4, 5, 6, 7], [0, 1, 2, 3, 4, 5, 6, 7, 8]].getD i []) (fun _ => []) (fun _ => []) [] (by kernel_rfl)
            (fun i => if i = 1 then some (sConst (.string s1)) else if i = 3 then some (sConst (.string s2)) else if i = 7 then some (sConst (.bool r)) else none) ?_
          repeat
            apply lex_quiet rfl rfl
            · intro w' hk; go_simp; with_reducible rfl
            simp only [Act.put, List.setIfInBounds_toArray, List.set_cons_zero, List.set_cons_succ]
          refine lex_loud rfl rfl (loud_call 13 #[.agg #[.int .i64 k, .slice p xs.length cp]] (fun w => by kernel_rfl) ⟨default, trivial⟩ (fun g _ => stable_true _) fun w' hk _ _ => (hKey1.out w' (HK6.out.trans ((KeepBut.drew _ w6).trans hk))).mono ?_) fun g1 _ => ?_
          · rintro e w'' ⟨rfl, hq⟩
            exact ⟨default, trivial, rfl, hq.mono fun _ e => e.elim, fun b h => h.elim, trivial⟩
          simp only [sConst, Act.put, List.setIfInBounds_toArray, List.set_cons_zero, List.set_cons_succ]
          repeat
            apply lex_quiet rfl rfl
            · intro w' hk; go_simp; with_reducible rfl
            simp only [Act.put, List.setIfInBounds_toArray, List.set_cons_zero, List.set_cons_succ]
          refine lex_loud rfl rfl (loud_call 13 #[.agg #[.int .i64 l, .slice q ys.length cq]] (fun w => by kernel_rfl) ⟨default, trivial⟩ (fun g _ => stable_true _) fun w' hk _ _ => (hKey2.out w' (HK6.out.trans ((KeepBut.drew _ w6).trans hk))).mono ?_) fun g3 _ => ?_
          · rintro e w'' ⟨rfl, hq⟩
            exact ⟨default, trivial, rfl, hq.mono fun _ e => e.elim, fun b h => h.elim, trivial⟩
          simp only [sConst, Act.put, List.setIfInBounds_toArray, List.set_cons_zero, List.set_cons_succ]
          repeat
            apply lex_quiet rfl rfl
            · intro w' hk; go_simp; with_reducible rfl
            simp only [Act.put, List.setIfInBounds_toArray, List.set_cons_zero, List.set_cons_succ]
          refine lex_loud rfl rfl (loud_call 17 #[.agg #[.int .i64 k, .slice p xs.length cp], .agg #[.int .i64 l, .slice q ys.length cq]] (fun w => by kernel_rfl) ⟨default, trivial⟩ (fun g _ => stable_true _) fun w' hk _ _ => (hSame.out w' (HK6.out.trans ((KeepBut.drew _ w6).trans hk))).mono ?_) fun g7 _ => ?_
          · rintro e w'' ⟨rfl, hq⟩
            exact ⟨default, trivial, rfl, hq.mono fun _ e => e.elim, fun b h => h.elim, trivial⟩
          simp only [sConst, Act.put, List.setIfInBounds_toArray, List.set_cons_zero, List.set_cons_succ]
          repeat
            apply lex_quiet rfl rfl
            · intro w' hk; go_simp; with_reducible rfl
            simp only [Act.put, List.setIfInBounds_toArray, List.set_cons_zero, List.set_cons_succ]
          refine lex_nil ?_
          intro w9 hk _ _
          have HK9 := Lib.hid (HK.out.trans (HK6.out.trans ((KeepBut.drew _ w6).trans hk)))
          clear hk x0 x1 y0 y1 hks
          go_wp2_with fail
          go_ret
          exact ⟨rfl, HK9.out⟩
      · rw [HM.out] at he
        simp only [MayOut.mk.injEq] at he
        obtain ⟨e1, e2, e3⟩ := he
        have e1 := e1.symm; have e2 := e2.symm
        subst e1 e2 e3 hd hf
        have HZ := Lib.hid (do_short HD.out HL.out.1)
        as_aux_lemma =>
        have hSm : Hid (∀ W', KeepBut (fun _ => False) V4 W' → Calls Tryd.prog 17 #[.agg #[.int .i64 dk, .slice p3 zs.length c3], .agg #[.int .i64 dk, .slice p4 zs.length c4]] W' fun e w' => e = .returned (.bool true) ∧ KeepBut (fun _ => False) W' w') := fun W' h => by
          have := same_any W' dk dk p3 p4 c3 c4 zs zs (HL3.out.stay h).1 (HL4.out.stay h).1 HZ.out HZ.out
          rw [show decide (dk = dk ∧ zs = zs) = true by simp] at this; exact this
        go_upto_region 12 with (first
          | (go_at_call 16; refine hCon.out.mono ?_; rintro e w5 ⟨rfl, hk5⟩
             have x0 := hk5.stay x0; have x1 := hk5.stay x1; have v0 := hk5.stay v0; have v1 := hk5.stay v1; have s0 := hk5.stay s0; have s1' := hk5.stay s1'; clear u0 u1)
          | (go_at_call 17; refine (hSm.out _ hk5).mono ?_; rintro e w6 ⟨rfl, hk6⟩))
        clear v0 v1 s0 s1' hSm hCon
        have HK6 := Lib.hid (HK4.out.trans (hk5.trans hk6))
        clear hk5 hk6 x0 x1
        have x0 : ∀ w', KeepBut (fun _ => False) w6.drew w' → w'.cell? ⟨B6, 0, none⟩ = some (.int .i64 k) := fun w' h => (HK6.out.trans ((KeepBut.drew _ w6).trans h)).stay (blk_cell (k := 0) HB6.out rfl)
        have x1 : ∀ w', KeepBut (fun _ => False) w6.drew w' → w'.cell? ⟨B6, 1, none⟩ = some (.slice p xs.length cp) := fun w' h => (HK6.out.trans ((KeepBut.drew _ w6).trans h)).stay (blk_cell (k := 1) HB6.out rfl)
        have y0 : ∀ w', KeepBut (fun _ => False) w6.drew w' → w'.cell? ⟨B7, 0, none⟩ = some (.int .i64 l) := fun w' h => (HK6.out.trans ((KeepBut.drew _ w6).trans h)).stay (blk_cell (k := 0) HB7.out rfl)
        have y1 : ∀ w', KeepBut (fun _ => False) w6.drew w' → w'.cell? ⟨B7, 1, none⟩ = some (.slice q ys.length cq) := fun w' h => (HK6.out.trans ((KeepBut.drew _ w6).trans h)).stay (blk_cell (k := 1) HB7.out rfl)
        have hks := HS.out
        go_upto_region 12 with fail
        refine wp_own0 (by kernel_rfl) (fun i => [[], [0], [], [0, 1, 2], [0, 1, 2, 3], [], [], [0, 1, 2, 3, 5, 6], [0, 1, 2, 3, 4, 5, 6, 7], [0, 1, 2, 3, 4, 5, 6, 7, 8]].getD i []) (fun _ => []) (fun _ => []) [] (by kernel_rfl)
          (fun i => if i = 1 then some (sConst (.string s1)) else if i = 3 then some (sConst (.string s2)) else if i = 7 then some (sConst (.bool r)) else none) ?_
        repeat
          apply lex_quiet rfl rfl
          · intro w' hk; go_simp; with_reducible rfl
          simp only [Act.put, List.setIfInBounds_toArray, List.set_cons_zero, List.set_cons_succ]
        refine lex_loud rfl rfl (loud_call 13 #[.agg #[.int .i64 k, .slice p xs.length cp]] (fun w => by kernel_rfl) ⟨default, trivial⟩ (fun g _ => stable_true _) fun w' hk _ _ => (hKey1.out w' (HK6.out.trans ((KeepBut.drew _ w6).trans hk))).mono ?_) fun g1 _ => ?_
        · rintro e w'' ⟨rfl, hq⟩
          exact ⟨default, trivial, rfl, hq.mono fun _ e => e.elim, fun b h => h.elim, trivial⟩
        simp only [sConst, Act.put, List.setIfInBounds_toArray, List.set_cons_zero, List.set_cons_succ]
        repeat
          apply lex_quiet rfl rfl
          · intro w' hk; go_simp; with_reducible rfl
          simp only [Act.put, List.setIfInBounds_toArray, List.set_cons_zero, List.set_cons_succ]
        refine lex_loud rfl rfl (loud_call 13 #[.agg #[.int .i64 l, .slice q ys.length cq]] (fun w => by kernel_rfl) ⟨default, trivial⟩ (fun g _ => stable_true _) fun w' hk _ _ => (hKey2.out w' (HK6.out.trans ((KeepBut.drew _ w6).trans hk))).mono ?_) fun g3 _ => ?_
        · rintro e w'' ⟨rfl, hq⟩
          exact ⟨default, trivial, rfl, hq.mono fun _ e => e.elim, fun b h => h.elim, trivial⟩
        simp only [sConst, Act.put, List.setIfInBounds_toArray, List.set_cons_zero, List.set_cons_succ]
        repeat
          apply lex_quiet rfl rfl
          · intro w' hk; go_simp; with_reducible rfl
          simp only [Act.put, List.setIfInBounds_toArray, List.set_cons_zero, List.set_cons_succ]
        refine lex_loud rfl rfl (loud_call 17 #[.agg #[.int .i64 k, .slice p xs.length cp], .agg #[.int .i64 l, .slice q ys.length cq]] (fun w => by kernel_rfl) ⟨default, trivial⟩ (fun g _ => stable_true _) fun w' hk _ _ => (hSame.out w' (HK6.out.trans ((KeepBut.drew _ w6).trans hk))).mono ?_) fun g7 _ => ?_
        · rintro e w'' ⟨rfl, hq⟩
          exact ⟨default, trivial, rfl, hq.mono fun _ e => e.elim, fun b h => h.elim, trivial⟩
        simp only [sConst, Act.put, List.setIfInBounds_toArray, List.set_cons_zero, List.set_cons_succ]
        repeat
          apply lex_quiet rfl rfl
          · intro w' hk; go_simp; with_reducible rfl
          simp only [Act.put, List.setIfInBounds_toArray, List.set_cons_zero, List.set_cons_succ]
        refine lex_nil ?_
        intro w9 hk _ _
        have HK9 := Lib.hid (HK.out.trans (HK6.out.trans ((KeepBut.drew _ w6).trans hk)))
        clear hk x0 x1 y0 y1 hks
        go_wp2_with fail
        go_ret
        exact ⟨rfl, HK9.out⟩

end Go.Proofs.YtopodipjapiaoaaDoor
