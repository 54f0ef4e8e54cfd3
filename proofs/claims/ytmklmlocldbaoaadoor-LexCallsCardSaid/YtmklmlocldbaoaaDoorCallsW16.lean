/-
  fencepostlaw16.LexCalls, walked.
-/
import Derived.Test.YtmklmlocldbaoaaDoorR4
import Derived.Test.YtmklmlocldbaoaaDoorJoins
namespace Go.Proofs.YtmklmlocldbaoaaDoor
open Go Go.RowKit Own

set_option maxRecDepth 100000 in
set_option maxHeartbeats 32000000 in
theorem calls16_walk (s t : ByteArray) (pa pb : Option Addr) (ca cb : Nat) (la lb : List G) (w : World) (hT : TabS w) (ha : RowG w pa la) (hb : RowG w pb lb) (hta : ∀ x ∈ la, x.s.size ≤ 140737488351232)
    (hs : s.size ≤ 9000) (ht : t.size ≤ 9000) (hla : la.length ≤ 9000) (hlb : lb.length ≤ 9000) :
    Calls Tryd.prog 8 #[.string s, .string t, .slice pa la.length ca, .slice pb lb.length cb] w fun e w' => e = .returned (.bool true) ∧ KeepBut (fun _ => False) w w' := by
  have HT := Lib.hid hT
  have hLv := Lib.hid (lives_any w hT)
  have HA := Lib.hid ha; have HB := Lib.hid hb; have HTA := Lib.hid hta
  clear hT ha hb hta
  have h1 : ¬ (9000 : Int) < (s.size : Int) := by omega
  have h2 : ¬ (9000 : Int) < (t.size : Int) := by omega
  have h3 : ¬ (9000 : Int) < (la.length : Int) := by omega
  have h4 : ¬ (9000 : Int) < (lb.length : Int) := by omega
  obtain ⟨⟨its, f0, f1, f2⟩, hal⟩ : ∃ x, allT s.data.toList = x := ⟨_, rfl⟩
  have HA1 := Lib.hid (fun w hT => all_known (its := its) (f := ⟨f0, f1, f2⟩) hal w hT)
  have HA2 := Lib.hid (fun w => rall_any s w its ⟨f0, f1, f2⟩ hal)
  have hil : its.length ≤ 9000 := by
    have h := allT_err s.data.toList
    rw [hal] at h
    rcases h with ⟨-, h, -⟩ | ⟨-, h⟩
    · have h' : its = _ := h
      have h2 := (scan_len s.data.toList 1 1 false).1
      rw [← h'] at h2
      have : s.data.toList.length = s.size := by simp
      omega
    · have h' : its = [] := h
      rw [h']; simp
  clear hal
  go_enter Tryd.func8, Tryd.ntmps8
  go_upto_block 0 with (go_at_call 9; refine hLv.out.mono ?_; rintro e w1 ⟨rfl, hk1⟩; have HK1 := Lib.hid hk1; clear hk1)
  go_wp2_with fail
  go_loopw [9, 10] (fun v9 v10 wr => ∃ n i : Nat, v9 = .int .i64 n ∧ v10 = .int .i64 i ∧ i ≤ la.length ∧ n ≤ 9000 ∧ (∀ j (h : j < la.length), j < i → la[j].s.size ≤ n) ∧ wr = w1) (fun _ v _ => la.length - (intOf v).toNat)
  case atStart => exact ⟨0, 0, rfl, rfl, Nat.zero_le _, Nat.zero_le _, fun j _ h => absurd h (Nat.not_lt_zero _), rfl⟩
  case round =>
    obtain ⟨n, i, rfl, rfl, hi, hn, hno, hwr⟩ := hrel
    have hwr := hwr.symm
    subst hwr
    have HNO := Lib.hid hno
    clear hno
    by_cases hlt : i < la.length
    · have hlti : (i : Int) < (la.length : Int) := by omega
      have hi0 : (0 : Int) ≤ i := by omega
      obtain ⟨g, o, hg, x0, x1, x2, x3, x4⟩ := (HA.out.stay HK1.out) i hlt
      have hsz := HTA.out _ (List.getElem_mem hlt)
      obtain ⟨X, hX⟩ : ∃ X, la[i].s = X := ⟨_, rfl⟩
      rw [hX] at x1 hsz
      have HX := Lib.hid hX
      have hWn : IntKind.i64.wrap ((n : Int) + (X.size : Int)) = (n : Int) + (X.size : Int) := IntWalk.i64_in _ (by omega)
      have hWi : IntKind.i64.wrap ((i : Int) + 1) = (i : Int) + 1 := IntWalk.i64_in _ (by omega)
      subst hg
      clear x0 x2 x3 x4 hX
      by_cases hbig : 9000 < n + X.size
      · have hbi : (9000 : Int) < (n : Int) + (X.size : Int) := by omega
        go_wp2_with fail
        go_ret
        exact ⟨rfl, HK1.out⟩
      · have hbi : ¬ (9000 : Int) < (n : Int) + (X.size : Int) := by omega
        go_wp2_with fail
        exact ⟨⟨n + X.size, i + 1, by simp, by simp, by omega, by omega, fun j h hj => by
          by_cases e : j = i
          · subst e; rw [HX.out]; omega
          · have := HNO.out j h (by omega); omega, by trivial⟩, by simp only [intOf]; omega⟩
    · have hnl : ¬ (i : Int) < (la.length : Int) := by omega
      have HBD := Lib.hid (show ∀ x ∈ la, x.s.size ≤ 9000 from fun x hx => by
        obtain ⟨j, hj, e⟩ := List.getElem_of_mem hx
        rw [← e]
        exact Nat.le_trans (HNO.out j hj (by omega)) hn)
      clear HNO
      go_upto_region 13 with (go_at_call 10; refine (HA1.out _ (HK1.out.tabS HT.out)).mono ?_; rintro e w2 ⟨p, cap, rfl, hr, -, hk2⟩)
      obtain ⟨V1, B12, hV1, hB12, hb12, hkV1, -⟩ := fresh_block w2 (.cells #[.int .i64 f0, .int .i64 f1, .int .i64 f2] 26)
      rw [← hV1, ← hB12]
      have HRa := Lib.hid (hr.stay hkV1)
      have HKa := Lib.hid (HK1.out.trans (hk2.trans hkV1))
      have HB12 := Lib.hid hb12
      clear hV1 hB12 hb12 hkV1 hr hk2
      go_upto_region 14 with (go_at_call 17; refine (HA2.out _).mono ?_; rintro e w3 ⟨q, cap2, rfl, hr, hk2⟩)
      obtain ⟨V2, B14, hV2, hB14, hb14, hkV2, -⟩ := fresh_block w3 (.cells #[.int .i64 f0, .int .i64 f1, .int .i64 f2] 26)
      rw [← hV2, ← hB14]
      have hS := same_tok V2 p q cap cap2 (its.map toG) (HRa.out.stay (hk2.trans hkV2)).toG (hr.stay hkV2).toG (by rw [List.length_map]; omega)
      rw [List.length_map] at hS
      have HS := Lib.hid hS
      have HK := Lib.hid (HKa.out.trans (hk2.trans hkV2))
      have HB12' := Lib.hid ((hk2.trans hkV2).blk HB12.out)
      have HB14 := Lib.hid hb14
      clear hV2 hB14 hb14 hkV2 hr hk2 hS HRa HB12
      have u0 := eqF; have u2 := guardF
      obtain ⟨rb, hrb⟩ : ∃ b, reservedB t.data.toList = b := ⟨_, rfl⟩
      obtain ⟨nb, hnb⟩ : ∃ b, nameB t.data.toList = b := ⟨_, rfl⟩
      obtain ⟨kb, hkb⟩ : ∃ b, likeB la lb = b := ⟨_, rfl⟩
      obtain ⟨X, hX⟩ : ∃ X : ByteArray, (⟨(joinL (textL la)).toArray⟩ : ByteArray) = X := ⟨_, rfl⟩
      have HRES := Lib.hid (show ∀ W, TabS W → Calls Tryd.prog 15 #[.string t] W fun e w' => e = .returned (.bool rb) ∧ KeepBut (fun _ => False) W w' from fun W h => by rw [← hrb]; exact isReserved_any t W h)
      have HRES2 := Lib.hid (show ∀ W, Calls Tryd.prog 19 #[.string t] W fun e w' => e = .returned (.bool rb) ∧ KeepBut (fun _ => False) W w' from fun W => by rw [← hrb]; exact rReserved_any t W)
      have HNAM := Lib.hid (show ∀ W, TabS W → Calls Tryd.prog 14 #[.string t] W fun e w' => e = .returned (.bool nb) ∧ KeepBut (fun _ => False) W w' from fun W h => by rw [← hnb]; exact name_any t W h)
      have HNAM2 := Lib.hid (show ∀ W, Calls Tryd.prog 20 #[.string t] W fun e w' => e = .returned (.bool nb) ∧ KeepBut (fun _ => False) W w' from fun W => by rw [← hnb]; exact rname_any t W (by omega))
      have HTX := Lib.hid (show ∀ W p' c', RowG W p' la → Calls Tryd.prog 16 #[.slice p' la.length c'] W fun e w' => e = .returned (.string X) ∧ KeepBut (fun _ => False) W w' from fun W p' c' h => by rw [← hX]; exact text_any W p' c' la h hla HBD.out)
      have HTX2 := Lib.hid (show ∀ W, KeepBut (fun _ => False) w W → Calls Tryd.prog 21 #[.slice pa la.length ca] W fun e w' => e = .returned (.string X) ∧ w' = W from fun W h => by rw [← hX]; exact rtext_any W pa ca la (HA.out.stay h) hla HBD.out)
      have HLK := Lib.hid (show ∀ W, KeepBut (fun _ => False) w W → Calls Tryd.prog 12 #[.slice pa la.length ca, .slice pb lb.length cb] W fun e w' => e = .returned (.bool kb) ∧ KeepBut (fun _ => False) W w' from fun W h => by rw [← hkb]; exact like_any W pa pb ca cb la lb (HA.out.stay h) (HB.out.stay h) (by omega))
      have HLK2 := Lib.hid (show ∀ W, KeepBut (fun _ => False) w W → Calls Tryd.prog 22 #[.slice pa la.length ca, .slice pb lb.length cb] W fun e w' => e = .returned (.bool kb) ∧ KeepBut (fun _ => False) W w' from fun W h => by rw [← hkb]; exact rlike_any W pa pb ca cb la lb (HA.out.stay h) (HB.out.stay h) (by omega))
      have HLS := Lib.hid (show ∀ W, KeepBut (fun _ => False) w W → Calls Tryd.prog 12 #[.slice pa la.length ca, .slice pa la.length ca] W fun e w' => e = .returned (.bool true) ∧ KeepBut (fun _ => False) W w' from fun W h => by
        have := like_any W pa pa ca ca la la (HA.out.stay h) (HA.out.stay h) (by omega)
        rw [likeB_self] at this
        exact this)
      have HOWN := Lib.hid (show ∀ W, KeepBut (fun _ => False) w W → Calls Tryd.prog 13 #[.slice pa la.length ca] W fun e w' => ∃ p' c', e = .returned (.slice p' la.length c') ∧ RowG w' p' la ∧ KeepBut (fun _ => False) W w' from fun W h => by
        refine (own_tok W pa ca la (HA.out.stay h) (by omega)).mono ?_
        rintro e w' ⟨v', rfl, hr, hb⟩
        obtain ⟨p', c', rfl, hr2⟩ := RowG.of_owns hr
        exact ⟨p', c', rfl, hr2, KeepBut.of_below hb⟩)
      clear hrb hnb hkb hX
      go_wp2_with (first
        | (go_at_call 18; refine HS.out.mono ?_; rintro e w5 ⟨rfl, hk⟩; obtain ⟨c0, c1, c2, -⟩ := blk3 (hk.blk HB12'.out); obtain ⟨d0, d1, d2, -⟩ := blk3 (hk.blk HB14.out); have HK5 := Lib.hid (HK.out.trans hk); clear hk)
        | (go_at_call 15; refine (HRES.out _ (HK5.out.tabS HT.out)).mono ?_; rintro e w6 ⟨rfl, hk⟩; have HK6 := Lib.hid (HK5.out.trans hk); clear hk c0 c1 c2 d0 d1 d2)
        | (go_at_call 19; refine (HRES2.out _).mono ?_; rintro e w7 ⟨rfl, hk⟩; have HK7 := Lib.hid (HK6.out.trans hk); clear hk)
        | (go_at_call 14; refine (HNAM.out _ (HK7.out.tabS HT.out)).mono ?_; rintro e w8 ⟨rfl, hk⟩; have HK8 := Lib.hid (HK7.out.trans hk); clear hk)
        | (go_at_call 20; refine (HNAM2.out _).mono ?_; rintro e w9 ⟨rfl, hk⟩; have HK9 := Lib.hid (HK8.out.trans hk); clear hk)
        | (go_at_call 13; refine (HOWN.out _ HK9.out).mono ?_; rintro e w10 ⟨p', c', rfl, hr, hk⟩; have HK10 := Lib.hid (HK9.out.trans hk); have HR10 := Lib.hid hr; clear hk hr)
        | (go_at_call 16; refine (HTX.out _ _ _ HR10.out).mono ?_; rintro e w11 ⟨rfl, hk⟩; have HK11 := Lib.hid (HK10.out.trans hk); clear hk)
        | (go_at_call 21; refine (HTX2.out _ HK11.out).mono ?_; rintro e w' ⟨rfl, hw⟩; have hw := hw.symm; subst hw)
        | (go_at_call 22; refine (HLK2.out _ HK12.out).mono ?_; rintro e w13 ⟨rfl, hk⟩; have HK13 := Lib.hid (HK12.out.trans hk); clear hk)
        | (go_at_call 12; refine (HLS.out _ HK13.out).mono ?_; rintro e w14 ⟨rfl, hk⟩; have HK14 := Lib.hid (HK13.out.trans hk); clear hk)
        | (go_at_call 12; refine (HLK.out _ HK11.out).mono ?_; rintro e w12 ⟨rfl, hk⟩; have HK12 := Lib.hid (HK11.out.trans hk); clear hk))
      go_ret
      exact ⟨rfl, HK14.out⟩

set_option maxHeartbeats 8000000 in
theorem calls16_many (s t : ByteArray) (pa pb : Option Addr) (ca cb la lb : Nat) (w : World) (hT : TabS w) (h : 9000 < s.size ∨ 9000 < t.size ∨ 9000 < la ∨ 9000 < lb) :
    Calls Tryd.prog 8 #[.string s, .string t, .slice pa la ca, .slice pb lb cb] w fun e w' => e = .returned (.bool true) ∧ KeepBut (fun _ => False) w w' := by
  have hLv := Lib.hid (lives_any w hT)
  clear hT
  have HH := Lib.hid h
  clear h
  by_cases h1 : 9000 < s.size
  · have i1 : (9000 : Int) < (s.size : Int) := by omega
    go_enter Tryd.func8, Tryd.ntmps8
    go_wp2_with (go_at_call 9; refine hLv.out.mono ?_; rintro e w1 ⟨rfl, hk1⟩; have HK1 := Lib.hid hk1; clear hk1)
    go_ret
    exact ⟨rfl, HK1.out⟩
  · have i1 : ¬ (9000 : Int) < (s.size : Int) := by omega
    by_cases h2 : 9000 < t.size
    · have i2 : (9000 : Int) < (t.size : Int) := by omega
      go_enter Tryd.func8, Tryd.ntmps8
      go_wp2_with (go_at_call 9; refine hLv.out.mono ?_; rintro e w1 ⟨rfl, hk1⟩; have HK1 := Lib.hid hk1; clear hk1)
      go_ret
      exact ⟨rfl, HK1.out⟩
    · have i2 : ¬ (9000 : Int) < (t.size : Int) := by omega
      by_cases h3 : 9000 < la
      · have i3 : (9000 : Int) < (la : Int) := by omega
        go_enter Tryd.func8, Tryd.ntmps8
        go_wp2_with (go_at_call 9; refine hLv.out.mono ?_; rintro e w1 ⟨rfl, hk1⟩; have HK1 := Lib.hid hk1; clear hk1)
        go_ret
        exact ⟨rfl, HK1.out⟩
      · have i3 : ¬ (9000 : Int) < (la : Int) := by omega
        have i4 : (9000 : Int) < (lb : Int) := by have := HH.out; omega
        go_enter Tryd.func8, Tryd.ntmps8
        go_wp2_with (go_at_call 9; refine hLv.out.mono ?_; rintro e w1 ⟨rfl, hk1⟩; have HK1 := Lib.hid hk1; clear hk1)
        go_ret
        exact ⟨rfl, HK1.out⟩

end Go.Proofs.YtmklmlocldbaoaaDoor
