/-
  LexBack, walked.
-/
import Derived.Test.YtmklmlocldbaoaaDoorText
namespace Go.Proofs.YtmklmlocldbaoaaDoor
open Go Go.RowKit Own

theorem textL_toks (its : List Item) : joinL (textL (its.map toG)) = joinT (toks its) := by
  rw [joinT_eq]
  congr 1
  simp [textL, toks, toG]

theorem text_its (w : World) (p : Option Addr) (c : Nat) (its : List Item) (hp : RowT w p its) (hl : its.length ≤ 9000) (hb : ∀ i ∈ its, i.tok.text.length ≤ 9000) (TX : ByteArray) (hTX : (⟨(joinT (toks its)).toArray⟩ : ByteArray) = TX) :
    Calls Tryd.prog 16 #[.slice p its.length c] w fun e w' => e = .returned (.string TX) ∧ KeepBut (fun _ => False) w w' := by
  have h := text_any w p c (its.map toG) hp.toG (by rw [List.length_map]; exact hl) (fun t ht => by
    obtain ⟨i, hi, rfl⟩ := List.mem_map.1 ht
    exact hb i hi)
  rw [textL_toks, hTX, List.length_map] at h
  exact h

set_option maxRecDepth 100000 in
set_option maxHeartbeats 16000000 in
theorem back_walk (s : ByteArray) (w : World) (hT : TabS w) (hm : s.size ≤ 9000) :
    Calls Tryd.prog 6 #[.string s] w fun e w' => e = .returned (.bool true) ∧ KeepBut (fun _ => False) w w' := by
  have HT := Lib.hid hT
  have hLv := Lib.hid (lives_any w hT)
  clear hT
  have hmi : ¬ (9000 : Int) < (s.size : Int) := by omega
  obtain ⟨L, hL⟩ : ∃ L, s.data.toList = L := ⟨_, rfl⟩
  obtain ⟨its, hits⟩ : ∃ its, scan L 1 1 false = its := ⟨_, rfl⟩
  have hsl : L.length = s.size := by rw [← hL]; simp
  rcases all_cases s its (by rw [hL]; exact hits) with ⟨hok, hsz, hA⟩ | ⟨e0, l0, c0, hne, hA⟩
  · have HA := Lib.hid hA
    have hgd : ∀ t ∈ toks its, Good t := fun t ht => by
      obtain ⟨i, hi, rfl⟩ := List.mem_map.1 ht
      exact scan_good L 1 1 false i (by rw [hits]; exact hi) (hok i hi)
    have hb := scan_len L 1 1 false
    rw [hits] at hb
    have hlen := hb.1
    have HBD := Lib.hid (show ∀ i ∈ its, i.tok.text.length ≤ 9000 from fun i hi => by have := (hb.2 i hi).1; omega)
    obtain ⟨TX, hTX⟩ : ∃ TX : ByteArray, (⟨(joinT (toks its)).toArray⟩ : ByteArray) = TX := ⟨_, rfl⟩
    have hTD : TX.data.toList = joinT (toks its) := by rw [← hTX]
    have hd := back_law (toks its) hgd 1 1
    rw [← hTD] at hd
    have HTX := Lib.hid hTX
    clear hA hok hb hits hL hgd hTD hTX
    go_enter Tryd.func6, Tryd.ntmps6
    go_upto_region 5 with (go_at_call 9; refine hLv.out.mono ?_; rintro e w1 ⟨rfl, hk1⟩; have HK1 := Lib.hid hk1; clear hk1)
    go_upto_region 6 with (go_at_call 10; refine (HA.out _ (HK1.out.tabS HT.out)).mono ?_; rintro e w2 ⟨q, cap, rfl, hr, -, hk2⟩)
    obtain ⟨V, B4, hV, hB4, hb4, hkV, -⟩ := fresh_block w2 (.cells #[.int .i64 0, .int .i64 0, .int .i64 0] 26)
    rw [← hV, ← hB4]
    have HR := Lib.hid (hr.stay hkV)
    have HKV := Lib.hid (HK1.out.trans (hk2.trans hkV))
    have e0 := (blk3 hb4).1
    clear hV hB4 hb4 hkV hr hk2
    go_upto_region 8 with fail
    clear e0
    have HX := Lib.hid (text_its V q cap its HR.out (by omega) HBD.out TX HTX.out)
    by_cases h8 : TX.size ≤ 8192
    · have h8i : ¬ (8192 : Int) < (TX.size : Int) := by omega
      obtain ⟨ms, hms⟩ : ∃ ms, scan TX.data.toList 1 1 false = ms := ⟨_, rfl⟩
      have hal := all_ok h8 hd.2
      have hmb := scan_len TX.data.toList 1 1 false
      rw [hms] at hal hd hmb
      have HA2 := Lib.hid (fun w hT => all_known hal w hT)
      have HTK := Lib.hid hd.1
      have e : TX.data.toList.length = TX.size := by simp
      have hml : ms.length ≤ TX.size := by have := hmb.1; omega
      have HMB := Lib.hid (show ∀ i ∈ ms, i.tok.text.length ≤ 9000 from fun i hi => by have := (hmb.2 i hi).1; omega)
      have HTX2 := Lib.hid (show (⟨(joinT (toks ms)).toArray⟩ : ByteArray) = TX by rw [hd.1]; exact HTX.out)
      clear hd hal hms hmb e
      go_upto_region 11 with (go_at_call 16; refine HX.out.mono ?_; rintro e w3 ⟨rfl, hk3⟩; have HK3 := Lib.hid hk3; clear hk3)
      go_upto_region 12 with (go_at_call 10; refine (HA2.out _ ((HKV.out.trans HK3.out).tabS HT.out)).mono ?_; rintro e w5 ⟨q2, cap2, rfl, hr2, -, hk5⟩)
      obtain ⟨V5, B7, hV5, hB7, hb7, hk6, -⟩ := fresh_block w5 (.cells #[.int .i64 0, .int .i64 0, .int .i64 0] 26)
      rw [← hV5, ← hB7]
      have HK5 := Lib.hid (HK3.out.trans (hk5.trans hk6))
      have HR2 := Lib.hid (hr2.stay hk6)
      obtain ⟨f0, f1, f2, -⟩ := blk3 hb7
      clear hV5 hB7 hb7 hk5 hk6 hr2
      have hLK := like_any V5 q q2 cap cap2 (its.map toG) (ms.map toG) (HR.out.stay HK5.out).toG HR2.out.toG (by rw [List.length_map]; omega)
      rw [likeB_toks HTK.out.symm, List.length_map, List.length_map] at hLK
      have HLK := Lib.hid hLK
      have HX2 := Lib.hid (fun W (k : KeepBut (fun _ => False) V5 W) => text_its W q2 cap2 ms (HR2.out.stay k) (by omega) HMB.out TX HTX2.out)
      clear hLK
      have hself : (TX.toList == TX.toList) = true := by simp
      have u0 := eqF; have u2 := guardF
      go_wp2_with (first
        | (go_at_call 12; refine HLK.out.mono ?_; rintro e w6 ⟨rfl, hk6⟩; have HK6 := Lib.hid hk6; clear hk6 f0 f1 f2)
        | (go_at_call 16; refine (HX2.out _ HK6.out).mono ?_; rintro e w7 ⟨rfl, hk7⟩; have HK7 := Lib.hid (HK6.out.trans hk7); clear hk7))
      go_ret
      exact ⟨rfl, (HKV.out.trans HK5.out).trans HK7.out⟩
    · have h8i : (8192 : Int) < (TX.size : Int) := by omega
      clear hd
      go_wp2_with (go_at_call 16; refine HX.out.mono ?_; rintro e w3 ⟨rfl, hk3⟩; have HK3 := Lib.hid hk3; clear hk3)
      go_ret
      exact ⟨rfl, HKV.out.trans HK3.out⟩
  · have hf' : ((e0 : Int) != 0) = true := by simp [hne]
    have HA := Lib.hid hA
    clear hA hne
    go_enter Tryd.func6, Tryd.ntmps6
    go_upto_region 5 with (go_at_call 9; refine hLv.out.mono ?_; rintro e w1 ⟨rfl, hk1⟩; have HK1 := Lib.hid hk1; clear hk1)
    go_upto_region 6 with (go_at_call 10; refine (HA.out _ (HK1.out.tabS HT.out)).mono ?_; rintro e w2 ⟨q, cap, rfl, hk2⟩)
    obtain ⟨V, B4, hV, hB4, hb4, hkV, -⟩ := fresh_block w2 (.cells #[.int .i64 e0, .int .i64 l0, .int .i64 c0] 26)
    rw [← hV, ← hB4]
    have HKV := Lib.hid (HK1.out.trans (hk2.trans hkV))
    have e0' := (blk3 hb4).1
    clear hV hB4 hb4 hkV hk2
    go_wp2_with fail
    go_ret
    exact ⟨rfl, HKV.out⟩

theorem back_many (s : ByteArray) (w : World) (hT : TabS w) (h : 9000 < s.size) :
    Calls Tryd.prog 6 #[.string s] w fun e w' => e = .returned (.bool true) ∧ KeepBut (fun _ => False) w w' := by
  have hLv := Lib.hid (lives_any w hT)
  clear hT
  have h1i : (9000 : Int) < (s.size : Int) := by omega
  clear h
  go_enter Tryd.func6, Tryd.ntmps6
  go_wp2_with (go_at_call 9; refine hLv.out.mono ?_; rintro e w1 ⟨rfl, hk1⟩; have HK1 := Lib.hid hk1; clear hk1)
  go_ret
  exact ⟨rfl, HK1.out⟩

end Go.Proofs.YtmklmlocldbaoaaDoor
