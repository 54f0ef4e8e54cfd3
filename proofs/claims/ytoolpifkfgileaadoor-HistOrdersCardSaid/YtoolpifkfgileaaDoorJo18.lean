/- Joined texts of this work: HiO. -/
import Derived.Test.YtoolpifkfgileaaDoorJo13
import Derived.Test.YtoolpifkfgileaaDoorJo14
import Derived.Test.YtoolpifkfgileaaDoorJo8
import Derived.Test.YtoolpifkfgileaaDoorJo15
import Derived.Test.YtoolpifkfgileaaDoorJo17
import Derived.Test.YtoolpifkfgileaaDoorJo5
import Derived.Deep.CutRange
import Derived.Deep.CutBlock
import Derived.StillTailTactics

/-
  Chapter 29: HistOrders: the walk.
-/
namespace Go.Proofs.YtoolpifkfgileaaDoor
open Go Go.RowKit Own

set_option maxRecDepth 100000 in
set_option maxHeartbeats 8000000 in
theorem orders_many (w : World) (pk pc : Option Addr) (ck cc : Nat) (ks : List Int) (cs : List Cl) (hT : TabP w) (hB : BitTab w) (hs : 26 < cs.length ∨ 8 < ks.length) :
    Calls Tryd.prog 8 #[histV pk pc ck cc ks cs] w fun e w' => TrueOf w e w' := by
  obtain ⟨V, B, hV, hB0, hb, hkV, hsV⟩ := fresh_block w (.cells #[.slice pk ks.length ck, .slice pc cs.length cc] THi)
  have HK := Lib.hid hkV; have HBB := Lib.hid hb
  have HLV := Lib.hid (lives_any V (hkV.tabP hT) (hkV.bitTab hB))
  have HE := Lib.hid (show (decide (cs.length ≤ 26) && decide (ks.length ≤ 8)) = false by
    rcases hs with h | h
    · rw [decide_eq_false (by omega)]; rfl
    · rw [decide_eq_false (p := ks.length ≤ 8) (by omega), Bool.and_false])
  have HLT := fun W => light_any W pk pc ck cc ks cs
  rw [HE.out] at HLT
  have HLT := Lib.hid HLT
  unfold histV at HLT ⊢
  clear hb hkV hsV hT hB hs
  go_enter Tryd.func8, Tryd.ntmps8
  go_upto_region 1 with fail
  rw [← hV, ← hB0]
  clear hV hB0
  go_upto_region 3 with (go_at_call 9; refine HLV.out.mono ?_; rintro e w2 ⟨rfl, hk⟩; obtain ⟨e0, e1, -⟩ := blk2 (hk.blk HBB.out); have HK2 := Lib.hid hk; clear hk)
  go_wp2_with (go_at_call 10; refine (HLT.out _).mono ?_; rintro e w3 ⟨rfl, hk⟩; have HK3 := Lib.hid hk; clear hk)
  go_ret
  exact ⟨rfl, (HK.out.trans HK2.out).trans HK3.out⟩

set_option maxRecDepth 100000 in
set_option maxHeartbeats 128000000 in
theorem orders_walk (w : World) (pk pc : Option Addr) (ck cc : Nat) (ks : List Int) (cs : List Cl) (hI : HistIn w pk pc ks cs) (hl26 : cs.length ≤ 26) :
    Calls Tryd.prog 8 #[histV pk pc ck cc ks cs] w fun e w' => TrueOf w e w' := by
  obtain ⟨V, B, hV, hB0, hb, hkV, hsV⟩ := fresh_block w (.cells #[.slice pk ks.length ck, .slice pc cs.length cc] THi)
  have HI := Lib.hid (hI.stay hkV)
  have HK := Lib.hid hkV; have HBB := Lib.hid hb
  have HLV := Lib.hid (lives_any V HI.out.tab HI.out.bit)
  have HE := Lib.hid (show (decide (cs.length ≤ 26) && decide (ks.length ≤ 8)) = true by
    rw [decide_eq_true hl26, decide_eq_true hI.k8]; rfl)
  have HLT := fun W => light_any W pk pc ck cc ks cs
  rw [HE.out] at HLT
  have HLT := Lib.hid HLT
  have HCH := Lib.hid fun W (h : HistIn W pk pc ks cs) => chkH_any W pk pc ck cc ks cs h.rd h.calls (by have := hI.k8; omega) (by omega)
  have HWD := Lib.hid fun W (h : HistIn W pk pc ks cs) => wide_any W pk pc ck cc ks cs h.calls h.c60
  obtain ⟨ch, hch⟩ : ∃ ch, chkH ks cs = ch := ⟨_, rfl⟩
  rw [hch] at HCH
  have HCHE := Lib.hid hch
  unfold histV at HLT HCH HWD ⊢
  have HKS8 := Lib.hid hI.k8
  clear hb hkV hsV hch hI
  go_enter Tryd.func8, Tryd.ntmps8
  go_upto_region 1 with fail
  rw [← hV, ← hB0]
  clear hV hB0
  go_upto_region 3 with (go_at_call 9; refine HLV.out.mono ?_; rintro e w2 ⟨rfl, hk⟩; obtain ⟨e0, e1, -⟩ := blk2 (hk.blk HBB.out); have HK2 := Lib.hid hk; clear hk)
  go_wp2_with fail
  go_at_call 10
  refine (HLT.out _).mono ?_
  rintro e w3 ⟨rfl, hk⟩
  have HK3 := Lib.hid (HK2.out.trans hk)
  clear hk e0 e1
  obtain ⟨e0, e1, -⟩ := blk2 (HK3.out.blk HBB.out)
  have HCH := Lib.hid (HCH.out w3 (HI.out.stay HK3.out))
  by_cases h0 : ch = 0
  · have h0b : (ch != 0) = false := by simp [h0]
    have H0 := Lib.hid h0
    clear h0
    go_wp2_with fail
    go_at_call 11
    refine HCH.out.mono ?_
    rintro e w4 ⟨rfl, hk⟩
    have HK4 := Lib.hid (HK3.out.trans hk)
    clear hk e0 e1
    obtain ⟨e0, e1, -⟩ := blk2 (HK4.out.blk HBB.out)
    have HWD := Lib.hid (HWD.out w4 (HI.out.stay HK4.out))
    go_wp2_with fail
    go_at_call 12
    refine HWD.out.mono ?_
    rintro e w5 ⟨z, rfl, hk⟩
    have HK5 := Lib.hid (HK4.out.trans hk)
    clear hk e0 e1
    obtain ⟨e0, e1, -⟩ := blk2 (HK5.out.blk HBB.out)
    by_cases hz : 6 < z
    · have hzb : decide (6 < z) = true := decide_eq_true hz
      go_wp2_with fail
      go_ret
      exact ⟨rfl, HK.out.trans HK5.out⟩
    · have hzb : decide (6 < z) = false := decide_eq_false hz
      clear HLV HLT HCH HWD
      have HGD := Lib.hid (chkH_ok.1 (HCHE.out.trans H0.out))
      have HORD := fun W (h : KeepBut (fun _ => False) V W) => order_any W pk pc ck cc ks cs (HI.out.stay h)
      unfold histV at HORD
      have HORD := Lib.hid HORD
      go_wp2_with fail
      go_at_call 17
      refine (HORD.out w5 HK5.out).mono ?_
      intro e w6 h
      obtain ⟨q, c, o, er, rfl, h1, h2, h3, h4, h5, hk⟩ := order_lin h
      have HOK := Lib.hid h2; have HNIL := Lib.hid h3; have HSIX := Lib.hid h4; have HRD := Lib.hid h5; have HK6 := Lib.hid (HK5.out.trans hk)
      clear h h1 h2 h3 h4 h5 hk e0 e1 hz hzb h0b HORD
      have HBB6 := Lib.hid (HK6.out.blk HBB.out)
      have HI6 := Lib.hid (HI.out.stay HK6.out)
      by_cases her : er = 0
      · have herb : (er != 0) = false := by simp [her]
        have HORB := Lib.hid (HOK.out her)
        clear her
        have HKIND := Lib.hid (show ∀ j, j < ks.length → kindB (nth ks j) = true from fun j hj => by
          have h9 := List.all_eq_true.1 HGD.out.1.kinds
          rw [nth_eq hj]; exact h9 _ (List.getElem_mem hj))
        obtain ⟨B5, hB5⟩ : ∃ b, w6.heap.size = b := ⟨_, rfl⟩
        have HB5 := Lib.hid hB5
        clear hB5
        go_wp2_with fail
        go_loopw [5, 6] (fun v5 v6 wr => ∃ (p5 : Option Addr) (c5 i : Nat), v5 = .slice p5 i c5 ∧ v6 = .int .i64 i ∧ i ≤ ks.length ∧ wr.ownsRow B5 TC 2 (.slice p5 i c5) i (cellsK (startK (ks.take i))) ∧ KeepBut (fun _ => False) w6 wr) (fun _ v _ => ks.length - (intOf v).toNat)
        case atStart => exact ⟨none, 0, 0, rfl, rfl, Nat.zero_le _, World.ownsRow_nil _ _ _ _, KeepBut.refl _ _⟩
        case round =>
          obtain ⟨p5, c5, i, rfl, rfl, hi, hrow, hk⟩ := hrel
          obtain ⟨b0, b1, -⟩ := blk2 (hk.blk HBB6.out)
          have HKR := Lib.hid hk; have HROW := Lib.hid hrow
          by_cases hlt : i < ks.length
          · have hlti : (i : Int) < ks.length := by omega
            have hi0 : (0 : Int) ≤ i := by omega
            have hWi : IntKind.i64.wrap ((i : Int) + 1) = (i : Int) + 1 := IntWalk.i64_in _ (by have := HKS8.out; omega)
            have hr := (HI6.out.stay hk).rd
            obtain ⟨b, oo, hp, -⟩ := hr.ptr (by rw [ints_length]; omega)
            subst hp
            have hc := hr.int i hlt
            have HNEW := Lib.hid (refNew_any (nth ks i) wr)
            rw [HKIND.out i hlt] at HNEW
            simp only [if_true] at HNEW
            have HTK := Lib.hid (startK_snoc hlt)
            obtain ⟨kd, hkd⟩ : ∃ kd, nth ks i = kd := ⟨_, rfl⟩
            rw [hkd] at hc HNEW HTK
            clear hk hrow hr hkd
            go_wp2_with fail
            go_at_call 20
            refine HNEW.out.mono ?_
            rintro e w8 ⟨rfl, hk⟩
            have HK8 := Lib.hid hk
            obtain ⟨V9, B9, hV9, hB9, hb9, hk9, hs9⟩ := fresh_block w8 (.cells #[.int .i64 kd, .slice none 0 0] TC)
            have HK9 := Lib.hid hk9
            clear hk b0 b1 hc
            go_upto_region 13 with fail
            rw [← hV9, ← hB9]
            obtain ⟨c0, c1, -⟩ := blk2 hb9
            have HROW9 := Lib.hid (row_keep HROW.out (HK8.out.trans HK9.out))
            have HS9 := Lib.hid (show B5 ≤ V9.heap.size from by
              have h1 := (HKR.out.trans (HK8.out.trans HK9.out)).size
              have h2 := HB5.out
              omega)
            obtain ⟨i0, hi', hz0, hz1, hz2⟩ := info_parts info_content
            have HI0 := Lib.hid hi'; have HZ0 := Lib.hid hz0; have HZ1 := Lib.hid hz1; have HZ2 := Lib.hid hz2
            clear hV9 hB9 hb9 hk9 hs9 hi' hz0 hz1 hz2
            go_wp2_with (at_builtin; go_loud (refine wpList_append_own _ rfl (.tmp 69) (.tmp 71) 65 rfl B5 TC i0 _ 2 32 tc_slice HI0.out HZ0.out HZ1.out HZ2.out rfl (by decide) (.slice p5 i c5) i (cellsK (startK (ks.take i))) rfl (HROW9.out.alloc _) ⟨V9.heap.size, 0, none⟩ 1 1 [.int .i64 kd, .slice none 0 0] rfl rfl (cellsAt (heap_alloc_new V9 _)) (fun u hu => by
                           simp only [List.mem_cons, List.not_mem_nil, or_false] at hu
                           rcases hu with rfl | rfl <;> rfl) (by unfold maxLen; have := HKS8.out; omega) (by have := HKS8.out; omega) (by rw [World.size_alloc]; have := HS9.out; omega) ?_)
                         intro v' w' h1 h2 _
                         obtain ⟨p', c', hv', -⟩ := Rd.of_owns h1
                         subst hv'
                         have HNR := Lib.hid h1
                         have HNK := Lib.hid (show KeepBut (fun _ => False) w6 w' from (HKR.out.trans (HK8.out.trans HK9.out)).new ((KeepBut.alloc _ V9 _).trans (KeepBut.grown (E := fun j => (Value.slice p5 i c5).ownBlock = some j) h2 fun _ e => e)) fun j e => by
                           have h3 := (HROW9.out.lt j e).1
                           have h4 := HB5.out
                           omega)
                         clear h1 h2)
            exact ⟨⟨p', c', i + 1, rfl, by simp, by omega, by rw [HTK.out]; exact HNR.out, HNK.out⟩, by simp only [intOf]; omega⟩
          · have hnl : ¬ (i : Int) < ks.length := by omega
            have e : i = ks.length := by omega
            subst e
            rw [List.take_length] at hrow
            have HROW := Lib.hid hrow
            obtain ⟨wo, hwo⟩ : ∃ wo : World, wo = wr := ⟨_, rfl⟩
            subst hwo
            have HGD9 := Lib.hid hk
            obtain ⟨V10, gd, hV10, hgd, hb10, hk10, hs10⟩ := fresh_block wo (.cells (rowO (fun _ => false) cs.length) 4)
            have hmk : ∀ W, (Instr.makeSlice 66 (.int .i64 (cs.length : Int)) (.int .i64 (cs.length : Int))).run Tryd.prog W = .ok (.slice (some ⟨W.heap.size, 0, none⟩) cs.length cs.length) (W.alloc (.cells (rowO (fun _ => false) cs.length) 4)) := fun W => by
              rw [← made_rowO]
              exact run_make_row' 66 4 (.bool false) 1 Tryd.underlying66 info_bool rfl .i64 .i64 cs.length (by omega) (by omega) W
            have HAT := Lib.hid (show OrdAt ks cs o w6 V10 p5 gd (gd + 1) 0 0 (startK ks) from by
              refine ⟨by rw [startK_plain]; exact came_start HI.out.kin, ⟨fun hne => ?_, fun e he => ?_⟩, ?_, ⟨by omega, by omega, by have := HGD9.out.size; omega, fun g e => ?_⟩, HGD9.out.trans hk10⟩
              · obtain ⟨h0, ⟨h1, h2⟩ | ⟨g, cap, cur, h1, hbs, hg, h2, h3, h4, h5⟩⟩ := HROW.out
                · exact absurd (by unfold startK; rw [List.eq_nil_of_length_eq_zero h2]; rfl) hne
                · cases h1
                  have hsl : (startK ks).length = ks.length := by simp [startK]
                  exact ⟨g, _, rfl, ⟨cur, hk10.blk hg, h4, by rw [hsl]; exact h5⟩, by rw [hsl]; exact h2⟩
              · obtain ⟨k, -, rfl⟩ := List.mem_map.1 he
                exact ⟨fun j v hj => by simp [ints] at hj, fun a ha => by cases ha⟩
              · rw [hb10]
                congr 2
                exact rowO_congr fun j _ => (Nat.zero_testBit j).symm
              · subst e
                have h1 := HROW.out.lt g rfl
                have h2 := HB5.out
                omega)
            obtain ⟨b0, b1, -⟩ := blk2 (hk.blk HBB6.out)
            clear hk10 hb10 hs10 hk hrow HROW
            go_upto_region 15 with fail
            rw [← hV10, ← hgd]
            clear hV10 hgd hmk b0 b1
            have HOL := Lib.hid (show o.length ≤ 24 by
              have h9 := ord_of o HGD.out.2 HORB.out.2
              have := nodup_le cs.length o h9.nodup h9.lt
              have := HGD.out.2
              omega)
            have HCL := Lib.hid HGD.out.2
            go_wp2_with fail
            go_loopw [10] (fun v10 wr => ∃ (i d : Nat) (l : List Kc), v10 = .int .i64 i ∧ i ≤ o.length ∧ OrdAt ks cs o w6 wr p5 gd (gd + 1) i d l) (fun v _ => o.length - (intOf v).toNat)
            case atStart => exact ⟨0, 0, startK ks, rfl, Nat.zero_le _, HAT.out⟩
            case round =>
              clear HAT
              obtain ⟨i, d, l, rfl, hi, hat⟩ := hrel
              have HAT := Lib.hid hat
              obtain ⟨b0, b1, -⟩ := blk2 (hat.keep.blk HBB6.out)
              by_cases hlt : i < o.length
              · have hlti : (i : Int) < o.length := by omega
                have hi0 : (0 : Int) ≤ i := by omega
                have hWi : IntKind.i64.wrap ((i : Int) + 1) = (i : Int) + 1 := IntWalk.i64_in _ (by have := HOL.out; omega)
                have hrj := HRD.out.stay hat.keep
                obtain ⟨b, oo, hp, -⟩ := hrj.ptr (by rw [ints_length, natI_length]; omega)
                subst hp
                have hc := hrj.int i (by rw [natI_length]; exact hlt)
                have hgo := ord_goes hat.came HORB.out.2 HI.out.args HGD.out.2 hlt
                obtain ⟨n, hn⟩ : ∃ n : Nat, o[i] = n := ⟨_, rfl⟩
                have hno : nth (natI o) i = n := by
                  rw [nth_eq (by rw [natI_length]; exact hlt)]
                  simp [natI, hn]
                rw [hno] at hc
                rw [hn] at hgo
                obtain ⟨hnl, hnd, hfr, h', hst, hcm⟩ := hgo
                have hdn := (hat.ans hnl).1
                rw [hnd] at hdn
                have hn0 : ¬ (n : Int) < 0 := by omega
                have hn0' : (0 : Int) ≤ n := by omega
                have hnb : ¬ (cs.length : Int) ≤ n := by omega
                have hnli : (n : Int) < cs.length := by omega
                have HFR := Lib.hid hfr; have HST := Lib.hid hst; have HCM := Lib.hid hcm; have HND := Lib.hid hnd; have HNL := Lib.hid hnl
                clear hrj hno hn hfr hst hcm hnd hat hnl
                go_wp2_with fail
                clear hc hdn
                obtain ⟨wv, hwv⟩ : ∃ wv : World, wv = wr := ⟨_, rfl⟩
                subst hwv
                go_loopw [12] (fun v12 wr => ∃ k : Nat, v12 = .int .i64 k ∧ k ≤ cs.length ∧ KeepBut (fun _ => False) wv wr) (fun v _ => cs.length - (intOf v).toNat)
                case atStart => exact ⟨0, rfl, Nat.zero_le _, KeepBut.refl _ _⟩
                case round =>
                  obtain ⟨k, rfl, hk, hkk⟩ := hrel
                  have HAT := Lib.hid (HAT.out.stay hkk)
                  clear b0 b1
                  obtain ⟨b0, b1, -⟩ := blk2 (HAT.out.keep.blk HBB6.out)
                  by_cases hklt : k < cs.length
                  · have hklti : (k : Int) < cs.length := by omega
                    have hk0 : (0 : Int) ≤ k := by omega
                    have hWk : IntKind.i64.wrap ((k : Int) + 1) = (k : Int) + 1 := IntWalk.i64_in _ (by have := HCL.out; omega)
                    have hak := (HAT.out.ans hklt).1
                    have hcalls := (HI6.out.stay HAT.out.keep).calls
                    obtain ⟨g, o2, hg, -, -, -, -, -, x5, -⟩ := hcalls k hklt
                    obtain ⟨g', o2', hg', -, -, -, -, y4, -⟩ := hcalls n HNL.out
                    subst hg
                    cases hg'
                    have FIN := Lib.hid (fun n => hkk.trans (KeepBut.drewN (fun _ => False) wr n))
                    obtain ⟨tk, htk⟩ : ∃ t, (nthC cs k).till = t := ⟨_, rfl⟩
                    obtain ⟨bn, hbn⟩ : ∃ t, (nthC cs n).beg = t := ⟨_, rfl⟩
                    have HTK := Lib.hid htk; have HBN := Lib.hid hbn
                    rw [htk] at x5; rw [hbn] at y4
                    clear hcalls hkk htk hbn
                    go_upto_region 24 with fail
                    cases hdk : d.testBit k with
                    | true =>
                      rw [hdk] at hak
                      go_quiet (fail)
                      go_wp2_with fail
                      exact ⟨⟨k + 1, by simp, by omega, FIN.out _⟩, by simp only [intOf]; omega⟩
                    | false =>
                      rw [hdk] at hak
                      by_cases hkn : k = n
                      · subst hkn
                        go_quiet (fail)
                        go_wp2_with fail
                        exact ⟨⟨k + 1, by simp, by omega, FIN.out _⟩, by simp only [intOf]; omega⟩
                      · have hkn2 : ((k : Int) != (n : Int)) = true := by simpa using fun e : (k : Int) = n => hkn (by omega)
                        by_cases ht : 0 ≤ tk
                        · have hlt2 : ¬ tk < bn := fun e => by
                            have h9 := HFR.out k hklt (by unfold aheadB; rw [HTK.out, HBN.out, decide_eq_true ht, decide_eq_true e]; rfl)
                            rw [hdk] at h9; cases h9
                          go_quiet (fail)
                          go_wp2_with fail
                          exact ⟨⟨k + 1, by simp, by omega, FIN.out _⟩, by simp only [intOf]; omega⟩
                        · go_quiet (fail)
                          go_wp2_with fail
                          exact ⟨⟨k + 1, by simp, by omega, FIN.out _⟩, by simp only [intOf]; omega⟩
                  · have hnk : ¬ (k : Int) < cs.length := by omega
                    clear hkk
                    have hcalls := (HI6.out.stay HAT.out.keep).calls
                    obtain ⟨g, o2, hg, x0, x1, x2, x3, x4, x5, x6, x7⟩ := hcalls n HNL.out
                    subst hg
                    have hgb := good_beg (HGD.out.1.each _ (nthC_mem HNL.out))
                    have hea := (HGD.out.1.each _ (nthC_mem HNL.out)).2.2
                    obtain ⟨⟨hha, co, op, ar, be, ti, va, cd⟩, hcl2⟩ : ∃ c, nthC cs n = c := ⟨_, rfl⟩
                    rw [hcl2] at x0 x1 x2 x3 x4 x5 x6 x7 hgb hea
                    dsimp only at x0 x1 x2 x3 x4 x5 x6 x7 hgb hea
                    obtain ⟨m, hm⟩ : ∃ m : Nat, co = m := ⟨co.toNat, by omega⟩
                    subst hm
                    have hml : m < l.length := by rw [HAT.out.len]; omega
                    have HTI := Lib.hid (show ti = -1 ∨ 0 ≤ ti by
                      by_cases e : ti = -1
                      · exact .inl e
                      · have := hea e; omega)
                    have HCL2 := Lib.hid hcl2
                    obtain ⟨V9, B9, hV9, hB9, hb9, hk9, hs9⟩ := fresh_block wr (.cells #[.int .i64 hha, .int .i64 m, .int .i64 op, .int .i64 ar, .int .i64 be, .int .i64 ti, .int .i64 va, .int .i64 cd] TCl)
                    have HAT9 := Lib.hid (HAT.out.stay hk9)
                    have HB9 := Lib.hid hb9
                    clear hcalls hgb hea hcl2 hk9 hs9 hb9
                    go_upto_region 27 with fail
                    rw [← hV9, ← hB9]
                    clear hV9 hB9 x0 x1 x2 x3 x4 x5 x6 x7 b0 b1
                    obtain ⟨c0, c1, c2, c3, c4, c5, c6, c7⟩ := blk8 (c := ⟨hha, m, op, ar, be, ti, va, cd⟩) HB9.out
                    dsimp only at c0 c1 c2 c3 c4 c5 c6 c7
                    go_quiet (fail)
                    obtain ⟨WX, hWX⟩ : ∃ W, V9.drewN nq = W := ⟨_, rfl⟩
                    have HKX := Lib.hid (show KeepBut (fun _ => False) V9 WX by rw [← hWX]; exact KeepBut.drewN _ _ _)
                    have HATX := Lib.hid (HAT9.out.stay HKX.out)
                    have HBX := Lib.hid (HKX.out.blk HB9.out)
                    rw [hWX]
                    clear hWX c0 c1 c2 c3 c4 c5 c6 c7
                    obtain ⟨c0, c1, c2, c3, c4, c5, c6, c7⟩ := blk8 (c := ⟨hha, m, op, ar, be, ti, va, cd⟩) HBX.out
                    dsimp only at c0 c1 c2 c3 c4 c5 c6 c7
                    have hlv := HATX.out.con.2 _ (List.getElem_mem hml)
                    have hsm := HATX.out.came.small _ (List.mem_map.2 ⟨l[m], List.getElem_mem hml, rfl⟩)
                    have hnk : nthK (l.map Kc.plain) m = l[m].plain := by unfold nthK; simp [List.getD, hml]
                    have hsl := step_law HST.out
                    rw [HCL2.out, show ((m : Int)).toNat = m from rfl, hnk] at hsl
                    obtain ⟨g5, cap5, hp5, hcb⟩ := HATX.out.con.1 (fun e => by rw [e] at hml; cases hml)
                    subst hp5
                    have hq := hcb.cell hml
                    obtain ⟨⟨ek, eq, ex, ec⟩, hem⟩ : ∃ e, l[m] = e := ⟨_, rfl⟩
                    rw [hem] at hlv hsm hsl hq
                    dsimp only [Kc.plain] at hlv hsm hsl hq
                    obtain ⟨q0, q1, f0, f1⟩ := hq
                    obtain ⟨vx, hvx⟩ : ∃ t, valC (ek, ex) ⟨hha, m, op, ar, be, ti, va, cd⟩ = t := ⟨_, rfl⟩
                    obtain ⟨cx, hcx⟩ : ∃ t, codC (ek, ex) ⟨hha, m, op, ar, be, ti, va, cd⟩ = t := ⟨_, rfl⟩
                    rw [hvx, hcx] at hsl
                    obtain ⟨⟨rk, ry, rb⟩, hr⟩ : ∃ r, mayR ek op ex ar vx cx = r := ⟨_, rfl⟩
                    rw [hr] at hsl
                    dsimp only at hsl
                    obtain ⟨hrb, hh'⟩ := hsl
                    subst hrb
                    have HLV := Lib.hid hlv; have HSM := Lib.hid hsm; have HMY := Lib.hid hr; have HH := Lib.hid hh'; have HVX := Lib.hid hvx; have HCX := Lib.hid hcx
                    have HML := Lib.hid hml
                    have HEM := Lib.hid hem
                    have hm0 : (0 : Int) ≤ m := by omega
                    have hmi : (m : Int) < l.length := by omega
                    have HLK := HATX.out.len
                    have hmk : (m : Int) < ks.length := by omega
                    clear hlv hsm hnk hcb hem hvx hcx hr hh' HLK
                    by_cases ht : ti < 0
                    · have hti : ti = -1 := by have := HTI.out; omega
                      obtain ⟨⟨dk, dy, dv, dc, de⟩, hdo⟩ : ∃ r, doR ek op ex ar = r := ⟨_, rfl⟩
                      have HDO := Lib.hid hdo
                      have HVV := Lib.hid (show dv = vx by rw [← HVX.out]; unfold valC; dsimp only; rw [if_pos hti, hdo])
                      have HCC := Lib.hid (show dc = cx by rw [← HCX.out]; unfold codC; dsimp only; rw [if_pos hti, hdo])
                      clear hdo hti
                      go_upto_region 29 with fail
                      have ST := fun (gg oo : Nat) (u : Value) (hc : WX.cell? ⟨gg, oo, none⟩ = some u) (w' : World) (hk : KeepBut (fun _ => False) WX.drew w') => ((KeepBut.drew (fun _ => False) WX).trans hk).stay hc
                      have z0 := ST _ _ _ q0; have z1 := ST _ _ _ q1; have z2 := ST _ _ _ c1; have z3 := ST _ _ _ c2; have z4 := ST _ _ _ c3
                      clear ST q0 q1 f0 f1 c0 c1 c2 c3 c4 c5 c6 c7
                      refine wp_own0 (by kernel_rfl) (fun i => [[], [], [1], [0, 1, 2], [0, 1, 2, 3], [], [5], [], [7], [0, 1, 2, 3, 4, 5, 6, 7, 8], [0, 1, 2, 3, 4, 5, 6, 7, 8, 9], [0, 1, 2, 3, 4, 5, 6, 7, 8, 9, 10], [0, 1, 2, 3, 4, 5, 6, 7, 8, 9, 10], [0, 1, 2, 3, 4, 5, 6, 7, 8, 9, 10], [0, 1, 2, 3, 4, 5, 6, 7, 8, 9, 10], [], [0, 1, 2, 3, 4, 5, 6, 7, 8, 9, 10, 11, 15], [0, 1, 2, 3, 4, 5, 6, 7, 8, 9, 10, 11, 12, 15, 16], [0, 1, 2, 3, 4, 5, 6, 7, 8, 9, 10, 11, 12, 13, 15, 16, 17], [0, 1, 2, 3, 4, 5, 6, 7, 8, 9, 10, 11, 12, 13, 14, 15, 16, 17, 18]].getD i []) (fun i => if i = 16 then [15] else []) (fun i => if i = 16 then [15] else []) [9, 16] (by kernel_rfl)
                        (fun i => if i = 9 then some (sLies (fun p c => .tuple #[.agg #[.int .i64 dk, .slice p dy.length c], .int .i64 dv, .int .i64 dc, .int .i64 de]) dy) else if i = 15 then some (sNew (.cells #[.int .i64 0, .slice none 0 0] TC)) else if i = 16 then some (sPutA TC) else none) ?_
                      apply lex_quiet rfl rfl
                      · intro w' hk; go_simp; with_reducible rfl
                      simp only [Act.put, List.setIfInBounds_toArray, List.set_cons_zero, List.set_cons_succ]
                      apply lex_quiet rfl rfl
                      · intro w' hk; go_simp; with_reducible rfl
                      simp only [Act.put, List.setIfInBounds_toArray, List.set_cons_zero, List.set_cons_succ]
                      apply lex_quiet rfl rfl
                      · intro w' hk; go_simp; with_reducible rfl
                      simp only [Act.put, List.setIfInBounds_toArray, List.set_cons_zero, List.set_cons_succ]
                      apply lex_quiet rfl rfl
                      · intro w' hk; go_simp; with_reducible rfl
                      simp only [Act.put, List.setIfInBounds_toArray, List.set_cons_zero, List.set_cons_succ]
                      apply lex_quiet rfl rfl
                      · intro w' hk; go_simp; with_reducible rfl
                      simp only [Act.put, List.setIfInBounds_toArray, List.set_cons_zero, List.set_cons_succ]
                      apply lex_quiet rfl rfl
                      · intro w' hk; go_simp; with_reducible rfl
                      simp only [Act.put, List.setIfInBounds_toArray, List.set_cons_zero, List.set_cons_succ]
                      apply lex_quiet rfl rfl
                      · intro w' hk; go_simp; with_reducible rfl
                      simp only [Act.put, List.setIfInBounds_toArray, List.set_cons_zero, List.set_cons_succ]
                      apply lex_quiet rfl rfl
                      · intro w' hk; go_simp; with_reducible rfl
                      simp only [Act.put, List.setIfInBounds_toArray, List.set_cons_zero, List.set_cons_succ]
                      apply lex_quiet rfl rfl
                      · intro w' hk; go_simp; with_reducible rfl
                      simp only [Act.put, List.setIfInBounds_toArray, List.set_cons_zero, List.set_cons_succ]
                      refine lex_loud rfl rfl (loud_call 29 #[.agg #[.int .i64 ek, .slice eq ex.length ec], .int .i64 op, .int .i64 ar] (fun w => by kernel_rfl) ⟨default, trivial⟩ (fun g _ => stable_lies g.p dy) fun w' hk _ _ => (refDo_any w' ek eq ec ex (HLV.out.1.stay ((KeepBut.drew (fun _ => False) WX).trans hk)) (by have := HSM.out.2.1; omega) op ar).mono ?_) fun g9 _ => ?_
                      · rintro e w'' ⟨pd, cap, rfl, hL, hq⟩
                        rw [HDO.out] at hL ⊢
                        exact ⟨{ p := pd, c := cap }, trivial, rfl, hq.mono fun _ e => e.elim, fun b ⟨a, h1, h2⟩ => by have := hL.2 a h1; exact ⟨.inl (by omega), by omega⟩, hL.1, fun a ha => (hL.2 a ha).2.2⟩
                      simp only [sLies, Act.put, List.setIfInBounds_toArray, List.set_cons_zero, List.set_cons_succ]
                      apply lex_quiet rfl rfl
                      · intro w' hk; go_simp; with_reducible rfl
                      simp only [Act.put, List.setIfInBounds_toArray, List.set_cons_zero, List.set_cons_succ]
                      apply lex_quiet rfl rfl
                      · intro w' hk; go_simp; with_reducible rfl
                      simp only [Act.put, List.setIfInBounds_toArray, List.set_cons_zero, List.set_cons_succ]
                      apply lex_quiet rfl rfl
                      · intro w' hk; go_simp; with_reducible rfl
                      simp only [Act.put, List.setIfInBounds_toArray, List.set_cons_zero, List.set_cons_succ]
                      apply lex_quiet rfl rfl
                      · intro w' hk; go_simp; with_reducible rfl
                      simp only [Act.put, List.setIfInBounds_toArray, List.set_cons_zero, List.set_cons_succ]
                      apply lex_quiet rfl rfl
                      · intro w' hk; go_simp; with_reducible rfl
                      simp only [Act.put, List.setIfInBounds_toArray, List.set_cons_zero, List.set_cons_succ]
                      refine lex_loud rfl rfl (loud_alloc _ fun w => by go_simp) fun g15 _ => ?_
                      simp only [sNew, Act.put, List.setIfInBounds_toArray, List.set_cons_zero, List.set_cons_succ]
                      refine lex_loud rfl rfl (loud_putA g15.b TC TC #[.int .i64 dk, .slice g9.p dy.length g9.c] _ (.tmp 16) (.tmp 164) rfl rfl rfl 15 (by decide) (by decide) (fun w h => h) rfl rfl (by kernel_rfl) (by simp [Value.oneCell'])) fun g16 _ => ?_
                      simp only [sPutA, Act.put]
                      apply lex_quiet rfl rfl
                      · intro w' hk; go_simp; with_reducible rfl
                      simp only [Act.put, List.setIfInBounds_toArray, List.set_cons_zero, List.set_cons_succ]
                      apply lex_quiet rfl rfl
                      · intro w' hk; go_simp; with_reducible rfl
                      simp only [Act.put, List.setIfInBounds_toArray, List.set_cons_zero, List.set_cons_succ]
                      apply lex_quiet rfl rfl
                      · intro w' hk; go_simp; with_reducible rfl
                      simp only [Act.put, List.setIfInBounds_toArray, List.set_cons_zero, List.set_cons_succ]
                      refine lex_nil ?_
                      intro WY hk9 hF _
                      have HKY := Lib.hid (show KeepBut (fun _ => False) WX WY from (KeepBut.drew _ WX).trans hk9)
                      obtain ⟨D9, hD9⟩ : ∃ b, g15.b = b := ⟨_, rfl⟩
                      rw [hD9]
                      clear z0 z1 z2 z3 z4 hk9 hF hD9
                      go_upto_region 31 with fail
                      rw [HVV.out, HCC.out]
                      obtain ⟨c0, c1, c2, c3, c4, c5, c6, c7⟩ := blk8 (c := ⟨hha, m, op, ar, be, ti, va, cd⟩) (HKY.out.blk HBX.out)
                      dsimp only at c0 c1 c2 c3 c4 c5 c6 c7
                      have HATY := Lib.hid (HATX.out.stay HKY.out)
                      have HLY := Lib.hid (HLV.out.1.stay HKY.out)
                      have hHATY := HATY.out
                      obtain ⟨g5', cap5', hp5', hcb⟩ := hHATY.con.1 (fun e => by have h9 := HML.out; rw [e] at h9; cases h9)
                      cases hp5'
                      have hcell := hcb.cell HML.out
                      have hQ : WY.cell? ⟨g5, m * 2, none⟩ = some (.int .i64 ek) ∧ WY.cell? ⟨g5, m * 2 + 1, none⟩ = some (.slice eq ex.length ec) := by
                        rw [HEM.out] at hcell
                        exact ⟨hcell.1, hcell.2.1⟩
                      have ST := fun (gg oo : Nat) (u : Value) (hc : WY.cell? ⟨gg, oo, none⟩ = some u) (w' : World) (hk : KeepBut (fun _ => False) WY.drew w') => ((KeepBut.drew (fun _ => False) WY).trans hk).stay hc
                      have z0 := ST _ _ _ hQ.1; have z1 := ST _ _ _ hQ.2; have z2 := ST _ _ _ c1; have z3 := ST _ _ _ c2; have z4 := ST _ _ _ c3
                      clear ST hQ hcell hcb hHATY c0 c1 c2 c3 c4 c5 c6 c7
                      refine wp_own0 (by kernel_rfl) (fun i => [[], [], [1], [0, 1, 2], [0, 1, 2, 3], [], [5], [], [7], [], [], [0, 1, 2, 3, 4, 5, 6, 7, 8, 9, 10], [0, 1, 2, 3, 4, 5, 6, 7, 8, 9, 10, 11], [0, 1, 2, 3, 4, 5, 6, 7, 8, 9, 10, 11, 12], [0, 1, 2, 3, 4, 5, 6, 7, 8, 9, 10, 11, 12], [], [0, 1, 2, 3, 4, 5, 6, 7, 8, 9, 10, 11, 12, 13, 15], [0, 1, 2, 3, 4, 5, 6, 7, 8, 9, 10, 11, 12, 13, 14, 15, 16]].getD i []) (fun i => if i = 16 then [15] else []) (fun i => if i = 16 then [15] else []) [11, 16] (by kernel_rfl)
                        (fun i => if i = 11 then some (sLies (fun p c => .tuple #[.agg #[.int .i64 rk, .slice p ry.length c], .bool true]) ry) else if i = 15 then some (sNew (.cells #[.int .i64 0, .slice none 0 0] TC)) else if i = 16 then some (sPutA TC) else none) ?_
                      apply lex_quiet rfl rfl
                      · intro w' hk; go_simp; with_reducible rfl
                      simp only [Act.put, List.setIfInBounds_toArray, List.set_cons_zero, List.set_cons_succ]
                      apply lex_quiet rfl rfl
                      · intro w' hk; go_simp; with_reducible rfl
                      simp only [Act.put, List.setIfInBounds_toArray, List.set_cons_zero, List.set_cons_succ]
                      apply lex_quiet rfl rfl
                      · intro w' hk; go_simp; with_reducible rfl
                      simp only [Act.put, List.setIfInBounds_toArray, List.set_cons_zero, List.set_cons_succ]
                      apply lex_quiet rfl rfl
                      · intro w' hk; go_simp; with_reducible rfl
                      simp only [Act.put, List.setIfInBounds_toArray, List.set_cons_zero, List.set_cons_succ]
                      apply lex_quiet rfl rfl
                      · intro w' hk; go_simp; with_reducible rfl
                      simp only [Act.put, List.setIfInBounds_toArray, List.set_cons_zero, List.set_cons_succ]
                      apply lex_quiet rfl rfl
                      · intro w' hk; go_simp; with_reducible rfl
                      simp only [Act.put, List.setIfInBounds_toArray, List.set_cons_zero, List.set_cons_succ]
                      apply lex_quiet rfl rfl
                      · intro w' hk; go_simp; with_reducible rfl
                      simp only [Act.put, List.setIfInBounds_toArray, List.set_cons_zero, List.set_cons_succ]
                      apply lex_quiet rfl rfl
                      · intro w' hk; go_simp; with_reducible rfl
                      simp only [Act.put, List.setIfInBounds_toArray, List.set_cons_zero, List.set_cons_succ]
                      apply lex_quiet rfl rfl
                      · intro w' hk; go_simp; with_reducible rfl
                      simp only [Act.put, List.setIfInBounds_toArray, List.set_cons_zero, List.set_cons_succ]
                      apply lex_quiet rfl rfl
                      · intro w' hk; go_simp; with_reducible rfl
                      simp only [Act.put, List.setIfInBounds_toArray, List.set_cons_zero, List.set_cons_succ]
                      apply lex_quiet rfl rfl
                      · intro w' hk; go_simp; with_reducible rfl
                      simp only [Act.put, List.setIfInBounds_toArray, List.set_cons_zero, List.set_cons_succ]
                      refine lex_loud rfl rfl (loud_call 21 #[.agg #[.int .i64 ek, .slice eq ex.length ec], .int .i64 op, .int .i64 ar, .int .i64 vx, .int .i64 cx] (fun w => by kernel_rfl) ⟨default, trivial⟩ (fun g _ => stable_lies g.p ry) fun w' hk _ _ => (refMay_any w' ek eq ec ex (HLY.out.stay ((KeepBut.drew (fun _ => False) WY).trans hk)) (by have := HSM.out.2.1; omega) op ar vx cx).mono ?_) fun g11 _ => ?_
                      · rintro e w'' ⟨pd, cap, rfl, hL, hq⟩
                        rw [HMY.out] at hL ⊢
                        exact ⟨{ p := pd, c := cap }, trivial, rfl, hq.mono fun _ e => e.elim, fun b ⟨a, h1, h2⟩ => by have := hL.2 a h1; exact ⟨.inl (by omega), by omega⟩, hL.1, fun a ha => (hL.2 a ha).2.2⟩
                      simp only [sLies, Act.put, List.setIfInBounds_toArray, List.set_cons_zero, List.set_cons_succ]
                      apply lex_quiet rfl rfl
                      · intro w' hk; go_simp; with_reducible rfl
                      simp only [Act.put, List.setIfInBounds_toArray, List.set_cons_zero, List.set_cons_succ]
                      apply lex_quiet rfl rfl
                      · intro w' hk; go_simp; with_reducible rfl
                      simp only [Act.put, List.setIfInBounds_toArray, List.set_cons_zero, List.set_cons_succ]
                      apply lex_quiet rfl rfl
                      · intro w' hk; go_simp; with_reducible rfl
                      simp only [Act.put, List.setIfInBounds_toArray, List.set_cons_zero, List.set_cons_succ]
                      refine lex_loud rfl rfl (loud_alloc _ fun w => by go_simp) fun g15 _ => ?_
                      simp only [sNew, Act.put, List.setIfInBounds_toArray, List.set_cons_zero, List.set_cons_succ]
                      refine lex_loud rfl rfl (loud_putA g15.b TC TC #[.int .i64 rk, .slice g11.p ry.length g11.c] _ (.tmp 20) (.tmp 183) rfl rfl rfl 15 (by decide) (by decide) (fun w h => h) rfl rfl (by kernel_rfl) (by simp [Value.oneCell'])) fun g16 _ => ?_
                      simp only [sPutA, Act.put]
                      apply lex_quiet rfl rfl
                      · intro w' hk; go_simp; with_reducible rfl
                      simp only [Act.put, List.setIfInBounds_toArray, List.set_cons_zero, List.set_cons_succ]
                      refine lex_nil ?_
                      intro w9 hk9 hF _
                      have f11 : Rd w9 g11.p (ints ry) ∧ ∀ a, g11.p = some a → a.spot = none := (hF 11 (by decide)).1
                      have f16 : w9.heap[g15.b]? = some (.cells #[.int .i64 rk, .slice g11.p ry.length g11.c] TC (0, 0)) := (hF 16 (by decide)).1 _ _ (put_args0 rfl rfl) (put_args rfl rfl)
                      have HKW := Lib.hid (show KeepBut (fun _ => False) WY w9 from (KeepBut.drew _ WY).trans hk9)
                      have HF11 := Lib.hid f11; have HF16 := Lib.hid f16
                      have HNF := Lib.hid (show ∀ a, g11.p = some a → WY.heap.size ≤ a.block from fun a ha => ((hF 11 (by decide)).2 a.block ⟨a, ha, rfl⟩).2.resolve_right fun h => h)
                      obtain ⟨D9, hD9⟩ : ∃ b, g15.b = b := ⟨_, rfl⟩
                      rw [hD9] at HF16 ⊢
                      clear z0 z1 z2 z3 z4 hk9 hF f11 f16 hD9
                      have HATW := Lib.hid (HATY.out.stay HKW.out)
                      obtain ⟨d0, d1, -⟩ := blk2 HF16.out
                      obtain ⟨c0, c1, c2, c3, c4, c5, c6, c7⟩ := blk8 (c := ⟨hha, m, op, ar, be, ti, va, cd⟩) (HKW.out.blk (HKY.out.blk HBX.out))
                      dsimp only at c0 c1 c2 c3 c4 c5 c6 c7
                      have hHATW := HATW.out
                      obtain ⟨g5', cap5', hp5', hcb⟩ := hHATW.con.1 (fun e => by have h9 := HML.out; rw [e] at h9; cases h9)
                      cases hp5'
                      obtain ⟨q0, q1, f0, f1⟩ := hcb.cell HML.out
                      obtain ⟨dn0, dn1⟩ := HATW.out.ans HNL.out
                      have hgg := (HATW.out.ne.2.2.2 g5 rfl).2.2
                      clear hHATW hcb
                      have HPUT := Lib.hid (HATW.out.put (m := m) (n := n) HML.out (e := ⟨rk, g11.p, ry, g11.c⟩) ⟨HF11.out.1, fun a ha => ⟨HF11.out.2 a ha, by
                        have h1 := HNF.out a ha
                        have h2 := HATY.out.ne.2.1
                        omega⟩⟩ (by rw [plain_set, ← HH.out]; exact HCM.out))
                      go_wp2_with fail
                      exact ⟨⟨i + 1, _, _, by simp, by omega, HPUT.out⟩, by simp only [intOf]; omega⟩
                    · have HVV := Lib.hid (show va = vx by rw [← HVX.out]; unfold valC; dsimp only; rw [if_neg (by omega)])
                      have HCC := Lib.hid (show cd = cx by rw [← HCX.out]; unfold codC; dsimp only; rw [if_neg (by omega)])
                      go_upto_region 31 with fail
                      obtain ⟨WY, hWY⟩ : ∃ W, WX = W := ⟨_, rfl⟩
                      have HKY := Lib.hid (show KeepBut (fun _ => False) WX WY by rw [← hWY]; exact KeepBut.refl _ _)
                      rw [hWY, HVV.out, HCC.out]
                      clear hWY
                      obtain ⟨c0, c1, c2, c3, c4, c5, c6, c7⟩ := blk8 (c := ⟨hha, m, op, ar, be, ti, va, cd⟩) (HKY.out.blk HBX.out)
                      dsimp only at c0 c1 c2 c3 c4 c5 c6 c7
                      have HATY := Lib.hid (HATX.out.stay HKY.out)
                      have HLY := Lib.hid (HLV.out.1.stay HKY.out)
                      have hHATY := HATY.out
                      obtain ⟨g5', cap5', hp5', hcb⟩ := hHATY.con.1 (fun e => by have h9 := HML.out; rw [e] at h9; cases h9)
                      cases hp5'
                      have hcell := hcb.cell HML.out
                      have hQ : WY.cell? ⟨g5, m * 2, none⟩ = some (.int .i64 ek) ∧ WY.cell? ⟨g5, m * 2 + 1, none⟩ = some (.slice eq ex.length ec) := by
                        rw [HEM.out] at hcell
                        exact ⟨hcell.1, hcell.2.1⟩
                      have ST := fun (gg oo : Nat) (u : Value) (hc : WY.cell? ⟨gg, oo, none⟩ = some u) (w' : World) (hk : KeepBut (fun _ => False) WY.drew w') => ((KeepBut.drew (fun _ => False) WY).trans hk).stay hc
                      have z0 := ST _ _ _ hQ.1; have z1 := ST _ _ _ hQ.2; have z2 := ST _ _ _ c1; have z3 := ST _ _ _ c2; have z4 := ST _ _ _ c3
                      clear ST hQ hcell hcb hHATY c0 c1 c2 c3 c4 c5 c6 c7
                      refine wp_own0 (by kernel_rfl) (fun i => [[], [], [1], [0, 1, 2], [0, 1, 2, 3], [], [5], [], [7], [], [], [0, 1, 2, 3, 4, 5, 6, 7, 8, 9, 10], [0, 1, 2, 3, 4, 5, 6, 7, 8, 9, 10, 11], [0, 1, 2, 3, 4, 5, 6, 7, 8, 9, 10, 11, 12], [0, 1, 2, 3, 4, 5, 6, 7, 8, 9, 10, 11, 12], [], [0, 1, 2, 3, 4, 5, 6, 7, 8, 9, 10, 11, 12, 13, 15], [0, 1, 2, 3, 4, 5, 6, 7, 8, 9, 10, 11, 12, 13, 14, 15, 16]].getD i []) (fun i => if i = 16 then [15] else []) (fun i => if i = 16 then [15] else []) [11, 16] (by kernel_rfl)
                        (fun i => if i = 11 then some (sLies (fun p c => .tuple #[.agg #[.int .i64 rk, .slice p ry.length c], .bool true]) ry) else if i = 15 then some (sNew (.cells #[.int .i64 0, .slice none 0 0] TC)) else if i = 16 then some (sPutA TC) else none) ?_
                      apply lex_quiet rfl rfl
                      · intro w' hk; go_simp; with_reducible rfl
                      simp only [Act.put, List.setIfInBounds_toArray, List.set_cons_zero, List.set_cons_succ]
                      apply lex_quiet rfl rfl
                      · intro w' hk; go_simp; with_reducible rfl
                      simp only [Act.put, List.setIfInBounds_toArray, List.set_cons_zero, List.set_cons_succ]
                      apply lex_quiet rfl rfl
                      · intro w' hk; go_simp; with_reducible rfl
                      simp only [Act.put, List.setIfInBounds_toArray, List.set_cons_zero, List.set_cons_succ]
                      apply lex_quiet rfl rfl
                      · intro w' hk; go_simp; with_reducible rfl
                      simp only [Act.put, List.setIfInBounds_toArray, List.set_cons_zero, List.set_cons_succ]
                      apply lex_quiet rfl rfl
                      · intro w' hk; go_simp; with_reducible rfl
                      simp only [Act.put, List.setIfInBounds_toArray, List.set_cons_zero, List.set_cons_succ]
                      apply lex_quiet rfl rfl
                      · intro w' hk; go_simp; with_reducible rfl
                      simp only [Act.put, List.setIfInBounds_toArray, List.set_cons_zero, List.set_cons_succ]
                      apply lex_quiet rfl rfl
                      · intro w' hk; go_simp; with_reducible rfl
                      simp only [Act.put, List.setIfInBounds_toArray, List.set_cons_zero, List.set_cons_succ]
                      apply lex_quiet rfl rfl
                      · intro w' hk; go_simp; with_reducible rfl
                      simp only [Act.put, List.setIfInBounds_toArray, List.set_cons_zero, List.set_cons_succ]
                      apply lex_quiet rfl rfl
                      · intro w' hk; go_simp; with_reducible rfl
                      simp only [Act.put, List.setIfInBounds_toArray, List.set_cons_zero, List.set_cons_succ]
                      apply lex_quiet rfl rfl
                      · intro w' hk; go_simp; with_reducible rfl
                      simp only [Act.put, List.setIfInBounds_toArray, List.set_cons_zero, List.set_cons_succ]
                      apply lex_quiet rfl rfl
                      · intro w' hk; go_simp; with_reducible rfl
                      simp only [Act.put, List.setIfInBounds_toArray, List.set_cons_zero, List.set_cons_succ]
                      refine lex_loud rfl rfl (loud_call 21 #[.agg #[.int .i64 ek, .slice eq ex.length ec], .int .i64 op, .int .i64 ar, .int .i64 vx, .int .i64 cx] (fun w => by kernel_rfl) ⟨default, trivial⟩ (fun g _ => stable_lies g.p ry) fun w' hk _ _ => (refMay_any w' ek eq ec ex (HLY.out.stay ((KeepBut.drew (fun _ => False) WY).trans hk)) (by have := HSM.out.2.1; omega) op ar vx cx).mono ?_) fun g11 _ => ?_
                      · rintro e w'' ⟨pd, cap, rfl, hL, hq⟩
                        rw [HMY.out] at hL ⊢
                        exact ⟨{ p := pd, c := cap }, trivial, rfl, hq.mono fun _ e => e.elim, fun b ⟨a, h1, h2⟩ => by have := hL.2 a h1; exact ⟨.inl (by omega), by omega⟩, hL.1, fun a ha => (hL.2 a ha).2.2⟩
                      simp only [sLies, Act.put, List.setIfInBounds_toArray, List.set_cons_zero, List.set_cons_succ]
                      apply lex_quiet rfl rfl
                      · intro w' hk; go_simp; with_reducible rfl
                      simp only [Act.put, List.setIfInBounds_toArray, List.set_cons_zero, List.set_cons_succ]
                      apply lex_quiet rfl rfl
                      · intro w' hk; go_simp; with_reducible rfl
                      simp only [Act.put, List.setIfInBounds_toArray, List.set_cons_zero, List.set_cons_succ]
                      apply lex_quiet rfl rfl
                      · intro w' hk; go_simp; with_reducible rfl
                      simp only [Act.put, List.setIfInBounds_toArray, List.set_cons_zero, List.set_cons_succ]
                      refine lex_loud rfl rfl (loud_alloc _ fun w => by go_simp) fun g15 _ => ?_
                      simp only [sNew, Act.put, List.setIfInBounds_toArray, List.set_cons_zero, List.set_cons_succ]
                      refine lex_loud rfl rfl (loud_putA g15.b TC TC #[.int .i64 rk, .slice g11.p ry.length g11.c] _ (.tmp 20) (.tmp 183) rfl rfl rfl 15 (by decide) (by decide) (fun w h => h) rfl rfl (by kernel_rfl) (by simp [Value.oneCell'])) fun g16 _ => ?_
                      simp only [sPutA, Act.put]
                      apply lex_quiet rfl rfl
                      · intro w' hk; go_simp; with_reducible rfl
                      simp only [Act.put, List.setIfInBounds_toArray, List.set_cons_zero, List.set_cons_succ]
                      refine lex_nil ?_
                      intro w9 hk9 hF _
                      have f11 : Rd w9 g11.p (ints ry) ∧ ∀ a, g11.p = some a → a.spot = none := (hF 11 (by decide)).1
                      have f16 : w9.heap[g15.b]? = some (.cells #[.int .i64 rk, .slice g11.p ry.length g11.c] TC (0, 0)) := (hF 16 (by decide)).1 _ _ (put_args0 rfl rfl) (put_args rfl rfl)
                      have HKW := Lib.hid (show KeepBut (fun _ => False) WY w9 from (KeepBut.drew _ WY).trans hk9)
                      have HF11 := Lib.hid f11; have HF16 := Lib.hid f16
                      have HNF := Lib.hid (show ∀ a, g11.p = some a → WY.heap.size ≤ a.block from fun a ha => ((hF 11 (by decide)).2 a.block ⟨a, ha, rfl⟩).2.resolve_right fun h => h)
                      obtain ⟨D9, hD9⟩ : ∃ b, g15.b = b := ⟨_, rfl⟩
                      rw [hD9] at HF16 ⊢
                      clear z0 z1 z2 z3 z4 hk9 hF f11 f16 hD9
                      have HATW := Lib.hid (HATY.out.stay HKW.out)
                      obtain ⟨d0, d1, -⟩ := blk2 HF16.out
                      obtain ⟨c0, c1, c2, c3, c4, c5, c6, c7⟩ := blk8 (c := ⟨hha, m, op, ar, be, ti, va, cd⟩) (HKW.out.blk (HKY.out.blk HBX.out))
                      dsimp only at c0 c1 c2 c3 c4 c5 c6 c7
                      have hHATW := HATW.out
                      obtain ⟨g5', cap5', hp5', hcb⟩ := hHATW.con.1 (fun e => by have h9 := HML.out; rw [e] at h9; cases h9)
                      cases hp5'
                      obtain ⟨q0, q1, f0, f1⟩ := hcb.cell HML.out
                      obtain ⟨dn0, dn1⟩ := HATW.out.ans HNL.out
                      have hgg := (HATW.out.ne.2.2.2 g5 rfl).2.2
                      clear hHATW hcb
                      have HPUT := Lib.hid (HATW.out.put (m := m) (n := n) HML.out (e := ⟨rk, g11.p, ry, g11.c⟩) ⟨HF11.out.1, fun a ha => ⟨HF11.out.2 a ha, by
                        have h1 := HNF.out a ha
                        have h2 := HATY.out.ne.2.1
                        omega⟩⟩ (by rw [plain_set, ← HH.out]; exact HCM.out))
                      go_wp2_with fail
                      exact ⟨⟨i + 1, _, _, by simp, by omega, HPUT.out⟩, by simp only [intOf]; omega⟩
              · have hnl : ¬ (i : Int) < o.length := by omega
                have e : i = o.length := by omega
                rw [e] at hat
                have hend := ord_ends hat.came HORB.out.2 HGD.out.2
                have HENDS := Lib.hid hend.1; have HFOLD := Lib.hid hend.2
                have HAT := Lib.hid hat
                have HAL := Lib.hid (show AllowedP ks cs (natI o) from ⟨HORB.out.1, o, rfl, HORB.out.2⟩)
                have HLK := Lib.hid hat.len
                have HAW := fun W (h : KeepBut (fun _ => False) w6 W) => allowed_any W pk pc ck cc ks cs (HI6.out.stay h) q c (natI o) (HRD.out.stay h) (by rw [natI_length]; have := HOL.out; omega)
                have HTW := fun W (h : KeepBut (fun _ => False) w6 W) => turns_any W pk pc ck cc ks cs (HI6.out.stay h) q c (natI o) (HRD.out.stay h) (by rw [natI_length]; have := HOL.out; omega) HAL.out
                have HEN := fun W (h : KeepBut (fun _ => False) w6 W) (j : Nat) (hj : j < ks.length) => ends_new W pk pc ck cc ks cs (HI6.out.stay h) q c (natI o) (HRD.out.stay h) (by rw [natI_length]; have := HOL.out; omega) j hj HAL.out
                unfold histV at HAW HTW HEN
                rw [natI_length] at HAW HTW HEN
                have HAW := Lib.hid HAW; have HTW := Lib.hid HTW; have HEN := Lib.hid HEN
                clear hat hend e
                obtain ⟨wv, hwv⟩ : ∃ wv : World, wv = wr := ⟨_, rfl⟩
                subst hwv
                go_wp2_with fail
                go_loopw [22] (fun v22 wr => ∃ k : Nat, v22 = .int .i64 k ∧ k ≤ cs.length ∧ KeepBut (fun _ => False) wv wr) (fun v _ => cs.length - (intOf v).toNat)
                case atStart => exact ⟨0, rfl, Nat.zero_le _, KeepBut.refl _ _⟩
                case round =>
                  obtain ⟨k, rfl, hk, hkk⟩ := hrel
                  have HATK := Lib.hid (HAT.out.stay hkk)
                  clear b0 b1
                  obtain ⟨b0, b1, -⟩ := blk2 (HATK.out.keep.blk HBB6.out)
                  by_cases hklt : k < cs.length
                  · have hklti : (k : Int) < cs.length := by omega
                    have hk0 : (0 : Int) ≤ k := by omega
                    have hWk : IntKind.i64.wrap ((k : Int) + 1) = (k : Int) + 1 := IntWalk.i64_in _ (by have := HCL.out; omega)
                    have hak := (HATK.out.ans hklt).1
                    obtain ⟨g, o2, hg, -, -, -, -, -, x5, -⟩ := (HI6.out.stay HATK.out.keep).calls k hklt
                    subst hg
                    have FIN := Lib.hid hkk
                    clear hkk
                    cases hdk : d.testBit k with
                    | true =>
                      rw [hdk] at hak
                      go_wp2_with fail
                      exact ⟨⟨k + 1, by simp, by omega, FIN.out⟩, by simp only [intOf]; omega⟩
                    | false =>
                      rw [hdk] at hak
                      have hti : (nthC cs k).till = -1 := by
                        by_cases e : (nthC cs k).till = -1
                        · exact e
                        · have h9 := HENDS.out k hklt e
                          rw [hdk] at h9; cases h9
                      rw [hti] at x5
                      clear hti
                      go_wp2_with fail
                      exact ⟨⟨k + 1, by simp, by omega, FIN.out⟩, by simp only [intOf]; omega⟩
                  · have hnk : ¬ (k : Int) < cs.length := by omega
                    obtain ⟨wu, hwu⟩ : ∃ wu : World, wu = wr := ⟨_, rfl⟩
                    subst hwu
                    clear hkk
                    go_wp2_with fail
                    go_loopw [23] (fun v23 wr => ∃ j : Nat, v23 = .int .i64 j ∧ j ≤ ks.length ∧ KeepBut (fun _ => False) wu wr) (fun v _ => ks.length - (intOf v).toNat)
                    case atStart => exact ⟨0, rfl, Nat.zero_le _, KeepBut.refl _ _⟩
                    case round =>
                      obtain ⟨j, rfl, hj, hkj⟩ := hrel
                      have HATJ := Lib.hid (HATK.out.stay hkj)
                      clear b0 b1
                      obtain ⟨b0, b1, -⟩ := blk2 (HATJ.out.keep.blk HBB6.out)
                      by_cases hjl : j < ks.length
                      · have hjli : (j : Int) < ks.length := by omega
                        have hj0 : (0 : Int) ≤ j := by omega
                        have hWj : IntKind.i64.wrap ((j : Int) + 1) = (j : Int) + 1 := IntWalk.i64_in _ (by have := HKS8.out; omega)
                        have hjll : j < l.length := by have := HLK.out; omega
                        have hlv := HATJ.out.con.2 _ (List.getElem_mem hjll)
                        have hsm := HATJ.out.came.small _ (List.mem_map.2 ⟨l[j], List.getElem_mem hjll, rfl⟩)
                        have hnk2 : nthK (l.map Kc.plain) j = l[j].plain := by unfold nthK; simp [List.getD, hjll]
                        obtain ⟨g5, cap5, hp5, hcb⟩ := HATJ.out.con.1 (fun e => by rw [e] at hjll; cases hjll)
                        subst hp5
                        have hq := hcb.cell hjll
                        obtain ⟨⟨ek, eq, ex, ec⟩, hem⟩ : ∃ e, l[j] = e := ⟨_, rfl⟩
                        rw [hem] at hlv hsm hnk2 hq
                        dsimp only [Kc.plain] at hlv hsm hnk2 hq
                        obtain ⟨q0, q1, -, -⟩ := hq
                        have HLV := Lib.hid hlv; have HSM := Lib.hid hsm
                        have HE2 := Lib.hid (fun W (h : KeepBut (fun _ => False) w6 W) => show Calls Tryd.prog 23 #[.agg #[.slice pk ks.length ck, .slice pc cs.length cc], .slice q o.length c, .int .i64 j] W (fun e w' => ∃ q' c', e = .returned (.agg #[.int .i64 ek, .slice q' ex.length c']) ∧ Rd w' q' (ints ex) ∧ KeepBut (fun _ => False) W w' ∧ ∀ b, Of q' b → W.heap.size ≤ b ∧ b < w'.heap.size) by
                          refine (HEN.out W h j hjl).mono ?_
                          rintro e w' ⟨q', c', xs, k, hh, o', rfl, g1, g2, g3, g4, -, g6, g7⟩
                          have g8 : o' = o := natI_inj g1
                          subst g8
                          have g9 : hh = l.map Kc.plain := Option.some.inj (g2.symm.trans HFOLD.out)
                          subst g9
                          have g10 := hnk2.symm.trans g3
                          cases g10
                          exact ⟨q', c', rfl, g4, g6, g7⟩)
                        have FIN := Lib.hid hkj
                        have ST := fun (gg oo : Nat) (u : Value) (hc : wr.cell? ⟨gg, oo, none⟩ = some u) (w' : World) (hk : KeepBut (fun _ => False) wr.drew w') => ((KeepBut.drew (fun _ => False) wr).trans hk).stay hc
                        have z0 := ST _ _ _ b0; have z1 := ST _ _ _ b1; have z2 := ST _ _ _ q0; have z3 := ST _ _ _ q1
                        clear hlv hsm hnk2 hcb hem hkj
                        go_upto_region 43 with fail
                        clear ST q0 q1 b0 b1
                        refine wp_own0 (by kernel_rfl) (fun i => [[], [], [], [0, 1, 2], [], [], [4, 5], [4, 5, 6], [0, 1, 2, 3, 4, 5, 6, 7], [0, 1, 2, 3, 4, 5, 6, 7, 8]].getD i []) (fun i => if i = 8 then [3] else []) (fun _ => []) [] (by kernel_rfl)
                          (fun i => if i = 3 then some (sRdI (fun p c => .agg #[.int .i64 ek, .slice p ex.length c]) ex) else if i = 8 then some (sConst (.bool true)) else none) ?_
                        apply lex_quiet rfl rfl
                        · intro w' hk; go_simp; with_reducible rfl
                        simp only [Act.put, List.setIfInBounds_toArray, List.set_cons_zero, List.set_cons_succ]
                        apply lex_quiet rfl rfl
                        · intro w' hk; go_simp; with_reducible rfl
                        simp only [Act.put, List.setIfInBounds_toArray, List.set_cons_zero, List.set_cons_succ]
                        apply lex_quiet rfl rfl
                        · intro w' hk; go_simp; with_reducible rfl
                        simp only [Act.put, List.setIfInBounds_toArray, List.set_cons_zero, List.set_cons_succ]
                        refine lex_loud rfl rfl (loud_call 23 #[.agg #[.slice pk ks.length ck, .slice pc cs.length cc], .slice q o.length c, .int .i64 j] (fun w => by kernel_rfl) ⟨default, trivial⟩ (fun g _ => stable_rdI g.p ex) fun w' hk _ _ => (HE2.out w' (HATJ.out.keep.trans ((KeepBut.drew _ _).trans hk))).mono ?_) fun g3 _ => ?_
                        · rintro e w'' ⟨q', c', rfl, g4, g6, g7⟩
                          exact ⟨{ p := q', c := c' }, trivial, rfl, g6.mono fun _ e => e.elim, fun b hb => ⟨.inl (g7 b hb).1, (g7 b hb).2⟩, g4⟩
                        simp only [sRdI, Act.put, List.setIfInBounds_toArray, List.set_cons_zero, List.set_cons_succ]
                        apply lex_quiet rfl rfl
                        · intro w' hk; go_simp; with_reducible rfl
                        simp only [Act.put, List.setIfInBounds_toArray, List.set_cons_zero, List.set_cons_succ]
                        apply lex_quiet rfl rfl
                        · intro w' hk; go_simp; with_reducible rfl
                        simp only [Act.put, List.setIfInBounds_toArray, List.set_cons_zero, List.set_cons_succ]
                        apply lex_quiet rfl rfl
                        · intro w' hk; go_simp; with_reducible rfl
                        simp only [Act.put, List.setIfInBounds_toArray, List.set_cons_zero, List.set_cons_succ]
                        apply lex_quiet rfl rfl
                        · intro w' hk; go_simp; with_reducible rfl
                        simp only [Act.put, List.setIfInBounds_toArray, List.set_cons_zero, List.set_cons_succ]
                        refine lex_loud rfl rfl (loud_call 22 #[.agg #[.int .i64 ek, .slice g3.p ex.length g3.c], .agg #[.int .i64 ek, .slice eq ex.length ec]] (fun w => by kernel_rfl) ⟨default, trivial⟩ (fun g _ => stable_true _) fun w' hk hav _ => (content_any w' ek ek g3.p eq g3.c ec ex ex (hav 3 (by decide)).1 (HLV.out.1.stay ((KeepBut.drew _ _).trans hk)) (by have := HSM.out.2.1; omega) (by have := HSM.out.2.1; omega)).mono ?_) fun g8 _ => ?_
                        · rintro e w'' ⟨rfl, hq⟩
                          exact ⟨default, trivial, by simp [sConst], hq.mono fun _ e => e.elim, fun b h => h.elim, trivial⟩
                        simp only [sConst, Act.put, List.setIfInBounds_toArray, List.set_cons_zero, List.set_cons_succ]
                        apply lex_quiet rfl rfl
                        · intro w' hk; go_simp; with_reducible rfl
                        simp only [Act.put, List.setIfInBounds_toArray, List.set_cons_zero, List.set_cons_succ]
                        refine lex_nil ?_
                        intro w9 hk9 _ _
                        have HFIN := Lib.hid (FIN.out.trans ((KeepBut.drew _ _).trans hk9))
                        clear z0 z1 z2 z3 hk9
                        go_wp2_with fail
                        exact ⟨⟨j + 1, by simp, by omega, HFIN.out⟩, by simp only [intOf]; omega⟩
                      · have hnj : ¬ (j : Int) < ks.length := by omega
                        clear hkj
                        go_wp2_with fail
                        go_at_call 19
                        refine (HAW.out wr HATJ.out.keep).mono ?_
                        rintro e w40 ⟨av, rfl, hav, hk⟩
                        have hav2 : av = true := hav.2 HAL.out
                        have HK40 := Lib.hid (HATJ.out.keep.trans hk)
                        clear hk b0 b1 hav
                        subst hav2
                        obtain ⟨b0, b1, -⟩ := blk2 (HK40.out.blk HBB6.out)
                        go_wp2_with fail
                        go_at_call 28
                        refine (HTW.out w40 HK40.out).mono ?_
                        rintro e w41 ⟨p', c', rfl, -, hk⟩
                        have HK41 := Lib.hid (HK40.out.trans hk)
                        clear hk
                        rw [natI_length]
                        go_wp2_with fail
                        go_ret
                        exact ⟨by simp, HK.out.trans (HK6.out.trans HK41.out)⟩
      · have herb : (er != 0) = true := by simpa using her
        have he6 := HSIX.out (HCHE.out.trans H0.out) her
        have hon := HNIL.out her
        subst he6
        subst hon
        clear her
        go_wp2_with fail
        go_ret
        exact ⟨rfl, HK.out.trans HK6.out⟩
  · have h0b : (ch != 0) = true := by simpa using h0
    go_wp2_with (go_at_call 11; refine HCH.out.mono ?_; rintro e w4 ⟨rfl, hk⟩; have HK4 := Lib.hid (HK3.out.trans hk); clear hk)
    go_ret
    exact ⟨rfl, HK.out.trans HK4.out⟩

end Go.Proofs.YtoolpifkfgileaaDoor
