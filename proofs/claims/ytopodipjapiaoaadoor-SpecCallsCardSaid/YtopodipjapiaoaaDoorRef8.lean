/-
  The reference of chapter 19: Do, May.
-/
import Derived.Test.YtopodipjapiaoaaDoorRef7
import Derived.Deep.CutRange
import Derived.Deep.CutBlock
namespace Go.Proofs.YtopodipjapiaoaaDoor
open Go Go.RowKit Own

theorem refDo_any (w : World) (k : Int) (p : Option Addr) (c : Nat) (xs : List Int) (hrd : Rd w p (ints xs)) (hl : xs.length ≤ 1099511627776) (op x : Int) :
    Calls Tryd.prog 18 #[.agg #[.int .i64 k, .slice p xs.length c], .int .i64 op, .int .i64 x] w fun e w' => Done4 w e w' (doR k op xs x).kind (doR k op xs x).items (doR k op xs x).val (doR k op xs x).code (doR k op xs x).err := by
  by_cases hc : chk k xs = 0
  · by_cases hk : kindOf op = k
    · refine (refDo_ok w k p c xs hrd hl op x hc hk).mono ?_
      intro e w' h
      unfold RDo at h
      unfold doR
      rw [if_pos ⟨hc, hk⟩]
      by_cases h64 : (deedR op xs x).1.length ≤ 64
      · rw [if_pos h64] at h ⊢; exact h
      · rw [if_neg h64] at h ⊢; exact h
    · have e : doR k op xs x = ⟨0, [], 0, 0, 2⟩ := by unfold doR; rw [if_neg fun h => hk h.2]
      rw [e]
      by_cases h0 : kindOf op = 0
      · exact refDo_bad2 w k p c xs hrd hl op x hc h0
      · exact refDo_bad3 w k p c xs hrd hl op x hc _ rfl h0 hk
  · have e : doR k op xs x = ⟨0, [], 0, 0, 2⟩ := by unfold doR; rw [if_neg fun h => hc h.1]
    rw [e]
    exact refDo_bad1 w k p c xs hrd hl op x (chk_two hc)

set_option maxHeartbeats 16000000 in
theorem refMay_any (w : World) (k : Int) (p : Option Addr) (c : Nat) (xs : List Int) (hrd : Rd w p (ints xs)) (hl : xs.length ≤ 1099511627776) (op x v cd : Int) :
    Calls Tryd.prog 19 #[.agg #[.int .i64 k, .slice p xs.length c], .int .i64 op, .int .i64 x, .int .i64 v, .int .i64 cd] w fun e w' => DoneM w e w' (mayR k op xs x v cd) := by
  obtain ⟨W1, B, hW1, hB, hB1, hk1, hs1⟩ := fresh_block w (.cells #[.int .i64 k, .slice p xs.length c] 24)
  obtain ⟨W, N, hWd, hN, hWn, hkW, hWs⟩ := fresh_block W1 (.cells #[.int .i64 0, .slice none 0 0] 24)
  have hk0 : KeepBut (fun _ => False) w W := hk1.trans hkW
  have HKW := Lib.hid hk0
  have HB := Lib.hid (hkW.blk hB1); have HN := Lib.hid hWn
  have HR := Lib.hid (hrd.stay hk0)
  have hNB : B + 1 = N := by omega
  have HS := Lib.hid (show w.heap.size = B ∧ W.heap.size = N + 1 ∧ B + 1 = N by omega)
  obtain ⟨dk, ys, dv, dc, de, hdo⟩ : ∃ dk ys dv dc de, doR k op xs x = ⟨dk, ys, dv, dc, de⟩ := ⟨_, _, _, _, _, rfl⟩
  have HD := Lib.hid hdo
  obtain ⟨mk, ms, mo, hmo⟩ : ∃ mk ms mo, mayR k op xs x v cd = ⟨mk, ms, mo⟩ := ⟨_, _, _, rfl⟩
  rw [hmo]
  have HM := Lib.hid hmo
  have hDo : Hid (Calls Tryd.prog 18 #[.agg #[.int .i64 k, .slice p xs.length c], .int .i64 op, .int .i64 x] W fun e w' => Done4 W e w' dk ys dv dc de) := by
    have := refDo_any W k p c xs HR.out hl op x
    rw [hdo] at this; exact this
  have x0 := blk_cell (k := 0) HB.out rfl
  have x1 := blk_cell (k := 1) HB.out rfl
  clear hrd hB1 hWn hkW hk0 hWs hk1 hs1 hdo hmo
  go_enter Tryd.func19, Tryd.ntmps19
  go_upto_region 1 with fail
  rw [← hW1, ← hB, ← hWd, hNB]
  clear hWd hN hW1 hB hNB
  go_upto_region 2 with (go_at_call 18; refine hDo.out.mono ?_; rintro e w1 ⟨pd, cap, rfl, hL, hk⟩)
  obtain ⟨V, NV, hV, hNV, hbV, hkV, -⟩ := fresh_block w1 (.cells #[.int .i64 dk, .slice pd ys.length cap] 24)
  rw [← hV, ← hNV]
  have HLV := Lib.hid (hL.stay hkV)
  have HKV := Lib.hid (hk.trans hkV)
  have HBV := Lib.hid (HKV.out.blk HB.out)
  have HNN := Lib.hid (HKV.out.blk HN.out)
  have HNV := Lib.hid hbV
  clear x0 x1 hV hNV hbV hkV hk hL hDo
  obtain ⟨full, hfu⟩ : ∃ full, (cd == 2 && (v == 0 && (insB op && (de == 7 || (de == 0 && dc == 1))))) = full := ⟨_, rfl⟩
  obtain ⟨does, hde⟩ : ∃ does, (de == 0 && (v == dv && cd == dc)) = does := ⟨_, rfl⟩
  have HLaw := Lib.hid (may_law HD.out full does hfu hde)
  have HF := Lib.hid hfu; have HE := Lib.hid hde
  clear hfu hde
  go_cut [46] from 16 to 63 (fun v46 wx => v46 = .bool full ∧ wx = V)
  case first =>
    rcases Bool.eq_false_or_eq_true (cd == 2) with h1 | h1
    · rcases Bool.eq_false_or_eq_true (v == 0) with h2 | h2
      · rcases Bool.eq_false_or_eq_true (insB op) with h3 | h3
        · rcases Bool.eq_false_or_eq_true (de == 7) with h4 | h4
          · go_wp2_with (go_at_call 22; refine (refInserts_any _ _).mono ?_; rintro e w' ⟨rfl, hww⟩; have hww := hww.symm; subst hww)
            go_meet
            case rel => exact ⟨by have h := HF.out; rw [h1, h2, h3, h4] at h; rw [← h]; rfl, rfl⟩
          · rcases Bool.eq_false_or_eq_true (de == 0) with h5 | h5
            · rcases Bool.eq_false_or_eq_true (dc == 1) with h6 | h6
              · go_wp2_with (go_at_call 22; refine (refInserts_any _ _).mono ?_; rintro e w' ⟨rfl, hww⟩; have hww := hww.symm; subst hww)
                go_meet
                case rel => exact ⟨by have h := HF.out; rw [h1, h2, h3, h4, h5, h6] at h; rw [← h]; rfl, rfl⟩
              · go_wp2_with (go_at_call 22; refine (refInserts_any _ _).mono ?_; rintro e w' ⟨rfl, hww⟩; have hww := hww.symm; subst hww)
                go_meet
                case rel => exact ⟨by have h := HF.out; rw [h1, h2, h3, h4, h5, h6] at h; rw [← h]; rfl, rfl⟩
            · go_wp2_with (go_at_call 22; refine (refInserts_any _ _).mono ?_; rintro e w' ⟨rfl, hww⟩; have hww := hww.symm; subst hww)
              go_meet
              case rel => exact ⟨by have h := HF.out; rw [h1, h2, h3, h4, h5] at h; rw [← h]; rfl, rfl⟩
        · go_wp2_with (go_at_call 22; refine (refInserts_any _ _).mono ?_; rintro e w' ⟨rfl, hww⟩; have hww := hww.symm; subst hww)
          go_meet
          case rel => exact ⟨by have h := HF.out; rw [h1, h2, h3] at h; rw [← h]; rfl, rfl⟩
      · go_wp2_with (go_at_call 22; refine (refInserts_any _ _).mono ?_; rintro e w' ⟨rfl, hww⟩; have hww := hww.symm; subst hww)
        go_meet
        case rel => exact ⟨by have h := HF.out; rw [h1, h2] at h; rw [← h]; rfl, rfl⟩
    · go_wp2_with (go_at_call 22; refine (refInserts_any _ _).mono ?_; rintro e w' ⟨rfl, hww⟩; have hww := hww.symm; subst hww)
      go_meet
      case rel => exact ⟨by have h := HF.out; rw [h1] at h; rw [← h]; rfl, rfl⟩
  case rest =>
    obtain ⟨rfl, hww⟩ := hcut
    have hww := hww.symm
    subst hww
    have hCp : Hid (Calls Tryd.prog 40 #[.agg #[.int .i64 k, .slice p xs.length c]] V fun e w' => DoneC V e w' k xs) := copied_any V k p c xs (HR.out.stay HKV.out) hl
    by_cases hfull : full = true
    · have hm : k = mk ∧ xs = ms ∧ true = mo := by
        rcases HLaw.out with ⟨he, _⟩ | ⟨_, hf, _⟩
        · rw [HM.out] at he
          simp only [MayOut.mk.injEq] at he
          exact ⟨he.1.symm, he.2.1.symm, by rw [he.2.2, hfull]⟩
        · rw [hf] at hfull; cases hfull
      obtain ⟨rfl, rfl, rfl⟩ := hm
      subst hfull
      as_aux_lemma =>
        have x0 := blk_cell (k := 0) HBV.out rfl
        have x1 := blk_cell (k := 1) HBV.out rfl
        go_wp2_with (go_at_call 40; refine hCp.out.mono ?_; rintro e w5 ⟨p5, c5, rfl, hL5, hk5⟩
                     have HL5 := Lib.hid hL5; have HK5 := Lib.hid hk5
                     have n0 := hk5.stay (blk_cell (k := 0) HNN.out rfl); have n1 := hk5.stay (blk_cell (k := 1) HNN.out rfl)
                     have f0 : w5.frozen? ⟨N, 0, none⟩ = false := by simp [World.frozen?, hk5.blk HNN.out]
                     have f1 : w5.frozen? ⟨N, 1, none⟩ = false := by simp [World.frozen?, hk5.blk HNN.out]
                     clear hL5 hk5 x0 x1)
        have hf : KeepBut (fun b => b = N) w5 ((w5.setCell ⟨N, 0, none⟩ (.int .i64 k)).setCell ⟨N, 1, none⟩ (.slice p5 xs.length c5)) := (show KeepBut (fun b => b = N) _ _ from KeepBut.setCell _ ⟨N, 0, none⟩ _ rfl).trans (KeepBut.setCell _ ⟨N, 1, none⟩ _ rfl)
        refine bodyPost_ret (v := .tuple #[.agg #[.int .i64 k, .slice p5 xs.length c5], .bool true]) (by simp [results, Tryd.results19, go_sem, n0, n1]) rfl ⟨p5, c5, rfl, ?_, ?_⟩
        · exact (HL5.out.keep hf fun a ha e => by have := (HL5.out.2 a ha).1; have := HS.out; have := HKV.out.size; have h2 : a.block = N := e; omega).base fun a ha => by have := (HL5.out.2 a ha).1; have := HS.out; have := HKV.out.size; omega
        · exact ((HKW.out.trans HKV.out).trans HK5.out).new hf fun b hb => by have := HS.out; have h2 : b = N := hb; omega
    · have hfull : full = false := by simpa using hfull
      subst hfull
      go_upto_region 4 with fail
      go_cut [60] from 16 to 63 (fun v60 wx => v60 = .bool (!does) ∧ wx = V)
      case first =>
        rcases Bool.eq_false_or_eq_true (de == 0) with h1 | h1
        · rcases Bool.eq_false_or_eq_true (cd == dc) with h2 | h2
          · rcases Bool.eq_false_or_eq_true (v == dv) with h3 | h3
            · have h1' : (de != 0) = (!((de == 0))) := rfl
              rw [h1] at h1'
              simp only [Bool.not_true, Bool.not_false] at h1'
              have h2' : (cd != dc) = (!((cd == dc))) := rfl
              rw [h2] at h2'
              simp only [Bool.not_true, Bool.not_false] at h2'
              have h3' : (v != dv) = (!((v == dv))) := rfl
              rw [h3] at h3'
              simp only [Bool.not_true, Bool.not_false] at h3'
              go_wp2_with fail
              go_meet
              case rel => exact ⟨by have h := HE.out; rw [h1, h2, h3] at h; rw [← h]; simp, rfl⟩
            · have h1' : (de != 0) = (!((de == 0))) := rfl
              rw [h1] at h1'
              simp only [Bool.not_true, Bool.not_false] at h1'
              have h2' : (cd != dc) = (!((cd == dc))) := rfl
              rw [h2] at h2'
              simp only [Bool.not_true, Bool.not_false] at h2'
              have h3' : (v != dv) = (!((v == dv))) := rfl
              rw [h3] at h3'
              simp only [Bool.not_true, Bool.not_false] at h3'
              go_wp2_with fail
              go_meet
              case rel => exact ⟨by have h := HE.out; rw [h1, h2, h3] at h; rw [← h]; simp, rfl⟩
          · have h1' : (de != 0) = (!((de == 0))) := rfl
            rw [h1] at h1'
            simp only [Bool.not_true, Bool.not_false] at h1'
            have h2' : (cd != dc) = (!((cd == dc))) := rfl
            rw [h2] at h2'
            simp only [Bool.not_true, Bool.not_false] at h2'
            go_wp2_with fail
            go_meet
            case rel => exact ⟨by have h := HE.out; rw [h1, h2] at h; rw [← h]; simp, rfl⟩
        · have h1' : (de != 0) = (!((de == 0))) := rfl
          rw [h1] at h1'
          simp only [Bool.not_true, Bool.not_false] at h1'
          go_wp2_with fail
          go_meet
          case rel => exact ⟨by have h := HE.out; rw [h1] at h; rw [← h]; simp, rfl⟩
      case rest =>
        obtain ⟨rfl, hww⟩ := hcut
        have hww := hww.symm
        subst hww
        by_cases hdoes : does = true
        · have hm : dk = mk ∧ ys = ms ∧ true = mo := by
            rcases HLaw.out with ⟨_, hd⟩ | ⟨he, _, _⟩
            · rw [hd] at hdoes; cases hdoes
            · rw [HM.out] at he
              simp only [MayOut.mk.injEq] at he
              exact ⟨he.1.symm, he.2.1.symm, he.2.2.symm⟩
          obtain ⟨rfl, rfl, rfl⟩ := hm
          subst hdoes
          have v0 := blk_cell (k := 0) HNV.out rfl
          have v1 := blk_cell (k := 1) HNV.out rfl
          have n0 := blk_cell (k := 0) HNN.out rfl
          have n1 := blk_cell (k := 1) HNN.out rfl
          have f0 : V.frozen? ⟨N, 0, none⟩ = false := by simp [World.frozen?, HNN.out]
          have f1 : V.frozen? ⟨N, 1, none⟩ = false := by simp [World.frozen?, HNN.out]
          as_aux_lemma =>
            go_wp2_with fail
            have hf : KeepBut (fun b => b = N) V ((V.setCell ⟨N, 0, none⟩ (.int .i64 dk)).setCell ⟨N, 1, none⟩ (.slice pd ys.length cap)) := (show KeepBut (fun b => b = N) _ _ from KeepBut.setCell _ ⟨N, 0, none⟩ _ rfl).trans (KeepBut.setCell _ ⟨N, 1, none⟩ _ rfl)
            refine bodyPost_ret (v := .tuple #[.agg #[.int .i64 dk, .slice pd ys.length cap], .bool true]) (by simp [results, Tryd.results19, go_sem, n0, n1]) rfl ⟨pd, cap, rfl, ?_, ?_⟩
            · exact (HLV.out.keep hf fun a ha e => by have := (HLV.out.2 a ha).1; have := HS.out; have h2 : a.block = N := e; omega).base fun a ha => by have := (HLV.out.2 a ha).1; have := HS.out; omega
            · exact (HKW.out.trans HKV.out).new hf fun b hb => by have := HS.out; have h2 : b = N := hb; omega
        · have hdoes : does = false := by simpa using hdoes
          have hm : k = mk ∧ xs = ms ∧ false = mo := by
            rcases HLaw.out with ⟨he, _⟩ | ⟨_, _, hd⟩
            · rw [HM.out] at he
              simp only [MayOut.mk.injEq] at he
              exact ⟨he.1.symm, he.2.1.symm, he.2.2.symm⟩
            · rw [hd] at hdoes; cases hdoes
          obtain ⟨rfl, rfl, rfl⟩ := hm
          subst hdoes
          as_aux_lemma =>
            have x0 := blk_cell (k := 0) HBV.out rfl
            have x1 := blk_cell (k := 1) HBV.out rfl
            go_wp2_with (go_at_call 40; refine hCp.out.mono ?_; rintro e w5 ⟨p5, c5, rfl, hL5, hk5⟩
                         have HL5 := Lib.hid hL5; have HK5 := Lib.hid hk5
                         have n0 := hk5.stay (blk_cell (k := 0) HNN.out rfl); have n1 := hk5.stay (blk_cell (k := 1) HNN.out rfl)
                         have f0 : w5.frozen? ⟨N, 0, none⟩ = false := by simp [World.frozen?, hk5.blk HNN.out]
                         have f1 : w5.frozen? ⟨N, 1, none⟩ = false := by simp [World.frozen?, hk5.blk HNN.out]
                         clear hL5 hk5 x0 x1)
            have hf : KeepBut (fun b => b = N) w5 ((w5.setCell ⟨N, 0, none⟩ (.int .i64 k)).setCell ⟨N, 1, none⟩ (.slice p5 xs.length c5)) := (show KeepBut (fun b => b = N) _ _ from KeepBut.setCell _ ⟨N, 0, none⟩ _ rfl).trans (KeepBut.setCell _ ⟨N, 1, none⟩ _ rfl)
            refine bodyPost_ret (v := .tuple #[.agg #[.int .i64 k, .slice p5 xs.length c5], .bool false]) (by simp [results, Tryd.results19, go_sem, n0, n1]) rfl ⟨p5, c5, rfl, ?_, ?_⟩
            · exact (HL5.out.keep hf fun a ha e => by have := (HL5.out.2 a ha).1; have := HS.out; have := HKV.out.size; have h2 : a.block = N := e; omega).base fun a ha => by have := (HL5.out.2 a ha).1; have := HS.out; have := HKV.out.size; omega
            · exact ((HKW.out.trans HKV.out).trans HK5.out).new hf fun b hb => by have := HS.out; have h2 : b = N := hb; omega

end Go.Proofs.YtopodipjapiaoaaDoor
