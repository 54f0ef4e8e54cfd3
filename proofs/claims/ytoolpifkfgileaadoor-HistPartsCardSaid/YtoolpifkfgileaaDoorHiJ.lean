/-
  Chapter 29: HistParts: the walk.
-/
import Derived.Test.YtoolpifkfgileaaDoorHiR
namespace Go.Proofs.YtoolpifkfgileaaDoor
open Go Go.RowKit Own

set_option maxHeartbeats 8000000 in
theorem parts_many (w : World) (pk pc : Option Addr) (ck cc : Nat) (ks : List Int) (cs : List Cl) (hT : TabP w) (hB : BitTab w) (hs : 26 < cs.length ∨ 8 < ks.length) :
    Calls Tryd.prog 4 #[histV pk pc ck cc ks cs] w fun e w' => TrueOf w e w' := by
  obtain ⟨V, B, hV, hB0, hb, hkV, hsV⟩ := fresh_block w (.cells #[.slice pk ks.length ck, .slice pc cs.length cc] THi)
  have HK := Lib.hid hkV; have HBB := Lib.hid hb
  have HLV := Lib.hid (lives_any V (hkV.tabP hT) (hkV.bitTab hB))
  have HE := Lib.hid (show (decide (cs.length ≤ 26) && decide (ks.length ≤ 8)) = false by
    rcases hs with h | h
    · rw [decide_eq_false (by omega)]; rfl
    · rw [decide_eq_false (p := ks.length ≤ 8) (by omega), Bool.and_false])
  have HLT := fun W => light_any W pk pc ck cc ks cs
  rw [HE.out] at HLT
  have HLT := Lib.hid HLT
  unfold histV at HLT ⊢
  clear hb hkV hsV hT hB hs
  go_enter Tryd.func4, Tryd.ntmps4
  go_upto_region 1 with fail
  rw [← hV, ← hB0]
  clear hV hB0
  go_upto_region 3 with (go_at_call 9; refine HLV.out.mono ?_; rintro e w2 ⟨rfl, hk⟩; obtain ⟨e0, e1, -⟩ := blk2 (hk.blk HBB.out); have HK2 := Lib.hid hk; clear hk)
  go_wp2_with (go_at_call 10; refine (HLT.out _).mono ?_; rintro e w3 ⟨rfl, hk⟩; have HK3 := Lib.hid hk; clear hk)
  go_ret
  exact ⟨rfl, (HK.out.trans HK2.out).trans HK3.out⟩

set_option maxRecDepth 100000 in
set_option maxHeartbeats 32000000 in
theorem parts_walk (w : World) (pk pc : Option Addr) (ck cc : Nat) (ks : List Int) (cs : List Cl) (hI : HistIn w pk pc ks cs) (hl26 : cs.length ≤ 26) :
    Calls Tryd.prog 4 #[histV pk pc ck cc ks cs] w fun e w' => TrueOf w e w' := by
  obtain ⟨V, B, hV, hB0, hb, hkV, hsV⟩ := fresh_block w (.cells #[.slice pk ks.length ck, .slice pc cs.length cc] THi)
  have HI := Lib.hid (hI.stay hkV)
  have HK := Lib.hid hkV; have HBB := Lib.hid hb
  have HLV := Lib.hid (lives_any V HI.out.tab HI.out.bit)
  have HE := Lib.hid (show (decide (cs.length ≤ 26) && decide (ks.length ≤ 8)) = true by
    rw [decide_eq_true hl26, decide_eq_true hI.k8]; rfl)
  have HLT := fun W => light_any W pk pc ck cc ks cs
  rw [HE.out] at HLT
  have HLT := Lib.hid HLT
  have HCH := Lib.hid fun W (h : HistIn W pk pc ks cs) => chkH_any W pk pc ck cc ks cs h.rd h.calls (by have := hI.k8; omega) (by omega)
  have HWD := Lib.hid fun W (h : HistIn W pk pc ks cs) => wide_any W pk pc ck cc ks cs h.calls h.c60
  have HLN := Lib.hid fun W (h : HistIn W pk pc ks cs) => linear_any W pk pc ck cc ks cs h
  obtain ⟨ch, hch⟩ : ∃ ch, chkH ks cs = ch := ⟨_, rfl⟩
  rw [hch] at HCH
  have HCHE := Lib.hid hch
  unfold histV at HLT HCH HWD HLN ⊢
  have HKS8 := Lib.hid hI.k8
  clear hb hkV hsV hch hI
  go_enter Tryd.func4, Tryd.ntmps4
  go_upto_region 1 with fail
  rw [← hV, ← hB0]
  clear hV hB0
  go_upto_region 3 with (go_at_call 9; refine HLV.out.mono ?_; rintro e w2 ⟨rfl, hk⟩; obtain ⟨e0, e1, -⟩ := blk2 (hk.blk HBB.out); have HK2 := Lib.hid hk; clear hk)
  go_wp2_with fail
  go_at_call 10
  refine (HLT.out _).mono ?_
  rintro e w3 ⟨rfl, hk⟩
  have HK3 := Lib.hid (HK2.out.trans hk)
  clear hk e0 e1
  obtain ⟨e0, e1, -⟩ := blk2 (HK3.out.blk HBB.out)
  have HCH := Lib.hid (HCH.out w3 (HI.out.stay HK3.out))
  by_cases h0 : ch = 0
  · have h0b : (ch != 0) = false := by simp [h0]
    have H0 := Lib.hid h0
    clear h0
    go_wp2_with fail
    go_at_call 11
    refine HCH.out.mono ?_
    rintro e w4 ⟨rfl, hk⟩
    have HK4 := Lib.hid (HK3.out.trans hk)
    clear hk e0 e1
    obtain ⟨e0, e1, -⟩ := blk2 (HK4.out.blk HBB.out)
    have HWD := Lib.hid (HWD.out w4 (HI.out.stay HK4.out))
    go_wp2_with fail
    go_at_call 12
    refine HWD.out.mono ?_
    rintro e w5 ⟨z, rfl, hk⟩
    have HK5 := Lib.hid (HK4.out.trans hk)
    clear hk e0 e1
    obtain ⟨e0, e1, -⟩ := blk2 (HK5.out.blk HBB.out)
    by_cases hz : 6 < z
    · have hzb : decide (6 < z) = true := decide_eq_true hz
      go_wp2_with fail
      go_ret
      exact ⟨rfl, HK.out.trans HK5.out⟩
    · have hzb : decide (6 < z) = false := decide_eq_false hz
      have HGD := Lib.hid (chkH_ok.1 (HCHE.out.trans H0.out))
      clear HLV HLT HCH HWD
      have HCOR := Lib.hid (show LinH ks cs ↔ ∀ j, j < ks.length → LinH ks (partC j cs) from ⟨fun h j _ => lin_part h j, fun h => lin_whole HGD.out.1 HGD.out.2 h⟩)
      have hks8 := HKS8.out
      go_wp2_with fail
      clear e0 e1 h0b hz hzb
      go_loopw [3, 4] (fun v3 v4 wr => ∃ (a : Bool) (i : Nat), v3 = .bool a ∧ v4 = .int .i64 i ∧ i ≤ ks.length ∧ (a = true ↔ ∀ j, j < i → LinH ks (partC j cs)) ∧ KeepBut (fun _ => False) V wr) (fun _ v _ => ks.length - (intOf v).toNat)
      case atStart => exact ⟨true, 0, rfl, rfl, Nat.zero_le _, ⟨fun _ j h => absurd h (Nat.not_lt_zero _), fun _ => rfl⟩, HK5.out⟩
      case round =>
        obtain ⟨a, i, rfl, rfl, hi, hal, hk⟩ := hrel
        have HAL := Lib.hid hal; have HKR := Lib.hid hk
        obtain ⟨b0, b1, -⟩ := blk2 (hk.blk HBB.out)
        clear hal hk
        by_cases hlt : i < ks.length
        · have hlti : (i : Int) < ks.length := by omega
          have hi0 : (0 : Int) ≤ i := by omega
          have hWi : IntKind.i64.wrap ((i : Int) + 1) = (i : Int) + 1 := IntWalk.i64_in _ (by omega)
          have HPT := Lib.hid (part_any wr pk pc ck cc ks cs (HI.out.stay HKR.out) HGD.out.1 i hlt)
          unfold histV at HPT
          go_wp2_with fail
          go_at_call 16
          refine HPT.out.mono ?_
          rintro e w6 ⟨pk6, ck6, pc6, cc6, rfl, hr6, hc6, hk⟩
          obtain ⟨W6, B6, hW6, hB6, hb6, hk6, -⟩ := fresh_block w6 (.cells #[.slice pk6 ks.length ck6, .slice pc6 (partC i cs).length cc6] THi)
          have HPI := Lib.hid (show HistIn W6 pk6 pc6 ks (partC i cs) from ⟨hr6.stay hk6, hc6.stay hk6, hks8, Nat.le_trans (List.length_filter_le _ _) (by omega), HI.out.kin, fun c hc => HI.out.args c (List.mem_filter.1 hc).1, (HI.out.stay ((HKR.out.trans hk).trans hk6)).tab, (HI.out.stay ((HKR.out.trans hk).trans hk6)).bit⟩)
          have HPG := Lib.hid (show GoodH ks (partC i cs) ∧ (partC i cs).length ≤ 24 from ⟨good_part HGD.out.1 i, Nat.le_trans (List.length_filter_le _ _) HGD.out.2⟩)
          obtain ⟨gs, hgs⟩ : ∃ gs, partC i cs = gs := ⟨_, rfl⟩
          rw [hgs] at hb6 hW6 HPI HPG ⊢
          have HGS := Lib.hid hgs
          have HCG := Lib.hid (chkH_any W6 pk6 pc6 ck6 cc6 ks gs HPI.out.rd HPI.out.calls (by omega) (by have := HPG.out.2; omega))
          rw [show chkH ks gs = 0 from chkH_ok.2 HPG.out] at HCG
          have HLG := Lib.hid fun W (h : KeepBut (fun _ => False) W6 W) => linear_any W pk6 pc6 ck6 cc6 ks gs (HPI.out.stay h)
          have HB6 := Lib.hid hb6
          have HK6 := Lib.hid ((HKR.out.trans hk).trans hk6)
          obtain ⟨d0, d1, -⟩ := blk2 hb6
          unfold histV at HCG HLG
          clear hr6 hc6 hk hk6 hb6 hgs b0 b1
          go_upto_region 10 with fail
          rw [← hW6, ← hB6]
          clear hW6 hB6
          go_wp2_with fail
          go_at_call 11
          refine HCG.out.mono ?_
          rintro e w7 ⟨rfl, hk⟩
          have HK7 := Lib.hid (HK6.out.trans hk)
          have HLG := Lib.hid (HLG.out w7 hk)
          clear d0 d1
          obtain ⟨d0, d1, -⟩ := blk2 (hk.blk HB6.out)
          clear hk
          cases a with
          | true =>
            go_wp2_with fail
            go_at_call 13
            refine HLG.out.mono ?_
            rintro e w8 ⟨lv, rfl, hlv, hk⟩
            have HLV8 := Lib.hid hlv; have HK8 := Lib.hid (HK7.out.trans hk)
            clear hlv hk d0 d1
            go_wp2_with fail
            exact ⟨⟨lv, i + 1, rfl, by simp, by omega, ⟨fun h j hj => by
              by_cases e : j = i
              · rw [e, HGS.out]; exact HLV8.out.1 h
              · exact HAL.out.1 trivial j (by omega), fun h => HLV8.out.2 (by rw [← HGS.out]; exact h i (by omega))⟩, HK8.out⟩, by simp only [intOf]; omega⟩
          | false =>
            go_wp2_with fail
            exact ⟨⟨false, i + 1, rfl, by simp, by omega, ⟨(fun h => by cases h), fun h => by
              have h9 := HAL.out.2 fun j hj => h j (by omega)
              first | exact h9 | exact h9.elim⟩, HK7.out⟩, by simp only [intOf]; omega⟩
        · have hnl : ¬ (i : Int) < ks.length := by omega
          have HLX := Lib.hid (HLN.out wr (HI.out.stay HKR.out))
          have HEQ := Lib.hid (show a = true ↔ LinH ks cs by
            rw [HAL.out, HCOR.out]
            have e : i = ks.length := by omega
            rw [e])
          go_wp2_with fail
          go_at_call 13
          refine HLX.out.mono ?_
          rintro e w6 ⟨lv, rfl, hlv, hk⟩
          have hla : lv = a := by
            rw [Bool.eq_iff_iff, hlv, HEQ.out]
          have HK6 := Lib.hid (HKR.out.trans hk)
          clear hlv hk b0 b1
          subst hla
          cases lv with
          | true =>
            go_wp2_with fail
            go_ret
            exact ⟨rfl, HK.out.trans HK6.out⟩
          | false =>
            go_wp2_with fail
            go_ret
            exact ⟨rfl, HK.out.trans HK6.out⟩
  · have h0b : (ch != 0) = true := by simpa using h0
    go_wp2_with (go_at_call 11; refine HCH.out.mono ?_; rintro e w4 ⟨rfl, hk⟩; have HK4 := Lib.hid (HK3.out.trans hk); clear hk)
    go_ret
    exact ⟨rfl, HK.out.trans HK4.out⟩

end Go.Proofs.YtoolpifkfgileaaDoor
