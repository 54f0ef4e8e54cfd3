/-
  package fencepostref16: one, Name, Text, Like; fencepostkit.Same of tokens.
-/
import Derived.Test.YtmklmlocldbaoaaDoorR2
import Derived.Test.YtmklmlocldbaoaaDoorText
namespace Go.Proofs.YtmklmlocldbaoaaDoor
open Go Go.RowKit Own

theorem slice_to (s : ByteArray) (m : Nat) (h : m ≤ s.size) (w : World) :
    (Instr.slice 9 (.string s) none (some (.int .i64 (m : Int))) none).run Tryd.prog w = .ok (.string ⟨(s.data.toList.take m).toArray⟩) w := by
  rw [run_slice_string_h w 9 s Tryd.underlying9 .i64 (m : Int) (by omega) (by omega)]
  have e : (m : Int).toNat = m := by omega
  rw [e, extract_take]

theorem numT_take (l : List UInt8) : numT (l.takeWhile digitB) = numT l := by
  have e : (l.takeWhile digitB).takeWhile digitB = l.takeWhile digitB := tw_all _ fun x hx => takeWhile_all x hx
  unfold numT
  rw [e]
  cases l with
  | nil => rfl
  | cons c r =>
    by_cases h : digitB c = true
    · rw [takeWhile_pos h]; rfl
    · have e0 : (c :: r).takeWhile digitB = [] := by simp [List.takeWhile, h]
      rw [e0]; simp

set_option maxRecDepth 100000 in
set_option maxHeartbeats 8000000 in
theorem rone_any (s : ByteArray) (c : UInt8) (r : List UInt8) (hs : s.data.toList = c :: r) (hsz : s.size ≤ 1099511627776) (w : World) :
    Calls Tryd.prog 34 #[.string s] w fun e w' => e = .returned (.tuple #[tokV (tokT s.data.toList).1 0 0, .int .i64 (tokT s.data.toList).2]) ∧ KeepBut (fun _ => False) w w' := by
  obtain ⟨L, hL⟩ : ∃ L, s.data.toList = L := ⟨_, rfl⟩
  have hsl : L.length = s.size := by rw [← hL]; simp
  have hLc : L = c :: r := by rw [← hL, hs]
  obtain ⟨W0, B, hW0, hB, hb, hk0, hs0⟩ := fresh_block w (.cells #[.int .i64 0, .string ⟨#[]⟩, .int .i64 0, .int .i64 0, .int .i64 0] 30)
  have HB := Lib.hid hb; have HK := Lib.hid hk0
  have HN := Lib.hid (show w.heap.size = B ∧ B < W0.heap.size by omega)
  have hW := rword_any s W0 hsz
  rw [hL] at hW ⊢
  clear hb hk0 hs0
  have hhd : L.headD 0 = c := by rw [hLc]; rfl
  cases hlc : letterB c with
  | true =>
    obtain ⟨tx, htx⟩ : ∃ tx, L.takeWhile wordB = tx := ⟨_, rfl⟩
    obtain ⟨m, hm⟩ : ∃ m, tx.length = m := ⟨_, rfl⟩
    have hrw : rwordN L = m := by unfold rwordN; rw [hhd, hlc, if_pos rfl, htx, hm]
    rw [hrw] at hW
    have HW := Lib.hid hW
    have hms : m ≤ s.size := by rw [← hm, ← htx, ← hsl]; exact takeWhile_le _ _
    have h1m : 0 < m := by
      rw [← hm, ← htx, hLc, takeWhile_pos (by unfold wordB; rw [hlc]; rfl)]; simp
    have hT : tokT L = wordT L := by rw [hLc, tokT_cons, if_pos hlc]
    have h0m : (0 : Int) < (m : Int) := by omega
    by_cases h16 : 16 < m
    · have h16i : (16 : Int) < (m : Int) := by omega
      have HE := Lib.hid (show tokT L = (Tok.zero, 3) by rw [hT]; unfold wordT; rw [htx, hm, if_pos h16])
      obtain ⟨n0, n1, n2, n3, n4, f0, f1, f2, f3, f4⟩ := blk5 HB.out
      clear hW hsl hLc hhd hlc htx hm hrw hT hms hs hL h16
      go_enter Tryd.func34, Tryd.ntmps34
      go_upto_region 1 with fail
      rw [← hW0, ← hB]
      clear hW0 hB
      go_wp2_with (go_at_call 37; refine HW.out.mono ?_; rintro e w' ⟨rfl, hw⟩; have hw := hw.symm; subst hw)
      obtain ⟨wf, hwf, hp, hkp⟩ := put5 HB.out (.int .i64 0) (.string ⟨#[]⟩) (.int .i64 0) (.int .i64 0) (.int .i64 0)
      rw [← hwf]
      obtain ⟨c0, c1, c2, c3, c4, -⟩ := blk5 hp
      refine bodyPost_ret (v := .tuple #[.agg #[.int .i64 0, .string ⟨#[]⟩, .int .i64 0, .int .i64 0, .int .i64 0], .int .i64 3]) (by simp [results, Tryd.results34, go_sem, c0, c1, c2, c3, c4]) rfl ⟨by rw [HE.out]; rfl, ?_⟩
      exact HK.out.new hkp fun k e => by have h2 : k = B := e; have := HN.out; omega
    · have h16i : ¬ (16 : Int) < (m : Int) := by omega
      have hSl : ∀ w', (Instr.slice 9 (.string s) none (some (.int .i64 (m : Int))) none).run Tryd.prog w' = .ok (.string ⟨tx.toArray⟩) w' := fun w' => by
        have := slice_to s m hms w'
        rw [hL, ← hm, ← htx, takeWhile_take] at this
        rw [hm.symm, ← htx]
        exact this
      obtain ⟨q, hq⟩ : ∃ q, reservedB tx = q := ⟨_, rfl⟩
      have hR : ∀ W, Calls Tryd.prog 19 #[.string ⟨tx.toArray⟩] W fun e w' => e = .returned (.bool q) ∧ KeepBut (fun _ => False) W w' := fun W => by
        have := rReserved_any ⟨tx.toArray⟩ W
        rw [← hq]
        simpa using this
      have HR := Lib.hid hR
      have HE := Lib.hid (show tokT L = (⟨if q = true then 1 else 2, tx, 0⟩, 0) by rw [hT]; unfold wordT; rw [htx, hm, if_neg h16, hq])
      obtain ⟨X, hX⟩ : ∃ X : ByteArray, (⟨tx.toArray⟩ : ByteArray) = X := ⟨_, rfl⟩
      have HXX := Lib.hid hX
      rw [hX] at hSl HR
      clear hW hsl hLc hhd hlc htx hm hrw hT hms hs hL h16 hq hR hX
      cases q with
      | true =>
        go_enter Tryd.func34, Tryd.ntmps34
        go_upto_region 1 with fail
        rw [← hW0, ← hB]
        clear hW0 hB
        go_wp2_with (first
          | (go_at_call 37; refine HW.out.mono ?_; rintro e w' ⟨rfl, hw⟩; have hw := hw.symm; subst hw)
          | (go_at_call 19; refine (HR.out _).mono ?_; rintro e w2 ⟨rfl, hk2⟩; have HK2 := Lib.hid hk2; have HB2 := Lib.hid (hk2.blk HB.out); obtain ⟨n0, n1, n2, n3, n4, f0, f1, f2, f3, f4⟩ := blk5 HB2.out; clear hk2))
        obtain ⟨wf, hwf, hp, hkp⟩ := put5 HB2.out (.int .i64 1) (.string X) (.int .i64 0) (.int .i64 0) (.int .i64 0)
        rw [← hwf]
        obtain ⟨c0, c1, c2, c3, c4, -⟩ := blk5 hp
        refine bodyPost_ret (v := .tuple #[.agg #[.int .i64 1, .string X, .int .i64 0, .int .i64 0, .int .i64 0], .int .i64 0]) (by simp [results, Tryd.results34, go_sem, c0, c1, c2, c3, c4]) rfl ⟨by rw [HE.out, ← HXX.out]; rfl, ?_⟩
        exact (HK.out.trans HK2.out).new hkp fun k e => by have h2 : k = B := e; have := HN.out; omega
      | false =>
        go_enter Tryd.func34, Tryd.ntmps34
        go_upto_region 1 with fail
        rw [← hW0, ← hB]
        clear hW0 hB
        go_wp2_with (first
          | (go_at_call 37; refine HW.out.mono ?_; rintro e w' ⟨rfl, hw⟩; have hw := hw.symm; subst hw)
          | (go_at_call 19; refine (HR.out _).mono ?_; rintro e w2 ⟨rfl, hk2⟩; have HK2 := Lib.hid hk2; have HB2 := Lib.hid (hk2.blk HB.out); obtain ⟨n0, n1, n2, n3, n4, f0, f1, f2, f3, f4⟩ := blk5 HB2.out; clear hk2))
        obtain ⟨wf, hwf, hp, hkp⟩ := put5 HB2.out (.int .i64 2) (.string X) (.int .i64 0) (.int .i64 0) (.int .i64 0)
        rw [← hwf]
        obtain ⟨c0, c1, c2, c3, c4, -⟩ := blk5 hp
        refine bodyPost_ret (v := .tuple #[.agg #[.int .i64 2, .string X, .int .i64 0, .int .i64 0, .int .i64 0], .int .i64 0]) (by simp [results, Tryd.results34, go_sem, c0, c1, c2, c3, c4]) rfl ⟨by rw [HE.out, ← HXX.out]; rfl, ?_⟩
        exact (HK.out.trans HK2.out).new hkp fun k e => by have h2 : k = B := e; have := HN.out; omega
  | false =>
    have hrw : rwordN L = 0 := by unfold rwordN; rw [hhd, hlc]; rfl
    rw [hrw] at hW
    have HW := Lib.hid (show Calls Tryd.prog 37 #[.string s] W0 fun e w' => e = .returned (.int .i64 0) ∧ w' = W0 from hW)
    have hD := rdigits_any s W0 hsz
    obtain ⟨tx, htx⟩ : ∃ tx, L.takeWhile digitB = tx := ⟨_, rfl⟩
    obtain ⟨m, hm⟩ : ∃ m, tx.length = m := ⟨_, rfl⟩
    rw [hL, htx, hm] at hD
    have HD := Lib.hid hD
    have hms : m ≤ s.size := by rw [← hm, ← htx, ← hsl]; exact takeWhile_le _ _
    cases hdc : digitB c with
    | true =>
      obtain ⟨t, ht⟩ : ∃ t, tx = c :: t := ⟨_, by rw [← htx, hLc, takeWhile_pos hdc]⟩
      have h0m : (0 : Int) < (m : Int) := by rw [← hm, ht]; simp
      have hSl : ∀ w', (Instr.slice 9 (.string s) none (some (.int .i64 (m : Int))) none).run Tryd.prog w' = .ok (.string ⟨tx.toArray⟩) w' := fun w' => by
        have := slice_to s m hms w'
        rw [hL, ← hm, ← htx, takeWhile_take] at this
        rw [hm.symm, ← htx]
        exact this
      obtain ⟨X, hX⟩ : ∃ X : ByteArray, (⟨tx.toArray⟩ : ByteArray) = X := ⟨_, rfl⟩
      have hXd : X.data.toList = tx := by rw [← hX]
      have hXs : X.size ≤ 1099511627776 := by
        have e : X.size = m := by rw [← hX, ← hm]; rfl
        omega
      have hN := rnumber_any X c t (by rw [hXd, ht]) (fun x hx => by rw [hXd, ← htx] at hx; exact takeWhile_all x hx) hXs W0
      have hT : tokT L = numT X.data.toList := by
        rw [hXd, ← htx, numT_take, hLc, tokT_cons, if_neg (by rw [hlc]; exact Bool.false_ne_true), if_pos hdc]
      obtain ⟨⟨⟨k, ts, nu⟩, er⟩, hnu⟩ : ∃ x, numT X.data.toList = x := ⟨_, rfl⟩
      rw [hnu] at hN hT
      have HE := Lib.hid hT
      have HNu := Lib.hid (show Calls Tryd.prog 49 #[.string X] W0 fun e w' => e = .returned (.tuple #[.agg #[.int .i64 (k : Nat), .string ⟨ts.toArray⟩, .int .i64 (nu : Nat), .int .i64 0, .int .i64 0], .int .i64 (er : Nat)]) ∧ KeepBut (fun _ => False) W0 w' from hN)
      rw [hX] at hSl
      clear hW hsl hLc hhd hlc htx hm hrw hT hms hs hL hD hdc ht hX hXd hN hnu
      go_enter Tryd.func34, Tryd.ntmps34
      go_upto_region 1 with fail
      rw [← hW0, ← hB]
      clear hW0 hB
      go_wp2_with (first
        | (go_at_call 37; refine HW.out.mono ?_; rintro e w' ⟨rfl, hw⟩; have hw := hw.symm; subst hw)
        | (go_at_call 48; refine HD.out.mono ?_; rintro e w' ⟨rfl, hw⟩; have hw := hw.symm; subst hw)
        | (go_at_call 49; refine HNu.out.mono ?_; rintro e w2 ⟨rfl, hk2⟩; have HK2 := Lib.hid hk2; have HB2 := Lib.hid (hk2.blk HB.out); obtain ⟨n0, n1, n2, n3, n4, f0, f1, f2, f3, f4⟩ := blk5 HB2.out; clear hk2))
      obtain ⟨wf, hwf, hp, hkp⟩ := put5 HB2.out (.int .i64 (k : Nat)) (.string ⟨ts.toArray⟩) (.int .i64 (nu : Nat)) (.int .i64 0) (.int .i64 0)
      rw [← hwf]
      obtain ⟨c0, c1, c2, c3, c4, -⟩ := blk5 hp
      refine bodyPost_ret (v := .tuple #[.agg #[.int .i64 (k : Nat), .string ⟨ts.toArray⟩, .int .i64 (nu : Nat), .int .i64 0, .int .i64 0], .int .i64 (er : Nat)]) (by simp [results, Tryd.results34, go_sem, c0, c1, c2, c3, c4]) rfl ⟨by rw [HE.out]; rfl, ?_⟩
      exact (HK.out.trans HK2.out).new hkp fun k e => by have h2 : k = B := e; have := HN.out; omega
    | false =>
      have hm0 : m = 0 := by rw [← hm, ← htx, hLc]; simp [List.takeWhile, hdc]
      subst hm0
      have HD := Lib.hid (show Calls Tryd.prog 48 #[.string s] W0 fun e w' => e = .returned (.int .i64 0) ∧ w' = W0 from hD)
      have hS := rsign_any s W0 hsz
      rw [hL] at hS
      have hT : tokT L = if rsignL L = [] then (Tok.zero, 9) else (⟨4, rsignL L, 0⟩, 0) := by
        rw [hLc, tokT_cons, if_neg (by rw [hlc]; exact Bool.false_ne_true), if_neg (by rw [hdc]; exact Bool.false_ne_true)]
        exact sign_same c r
      obtain ⟨sg, hsg⟩ : ∃ sg, rsignL L = sg := ⟨_, rfl⟩
      rw [hsg] at hS hT
      obtain ⟨X, hX⟩ : ∃ X : ByteArray, (⟨sg.toArray⟩ : ByteArray) = X := ⟨_, rfl⟩
      have hXd : X.data.toList = sg := by rw [← hX]
      have HXD := Lib.hid hXd
      have HXX := Lib.hid hX
      rw [hX] at hS
      have HS := Lib.hid hS
      clear hW hsl hLc hhd hlc htx hm hrw hms hs hL hD hdc hX hXd hS hsg
      by_cases hn : sg = []
      · have hb : X.toList.isEmpty = true := by rw [ByteArray.toList_eq, HXD.out, hn]; rfl
        have HE := Lib.hid (hT.trans (if_pos hn))
        clear hT hn
        go_enter Tryd.func34, Tryd.ntmps34
        go_upto_region 1 with fail
        rw [← hW0, ← hB]
        clear hW0 hB
        go_wp2_with (first
          | (go_at_call 37; refine HW.out.mono ?_; rintro e w' ⟨rfl, hw⟩; have hw := hw.symm; subst hw)
          | (go_at_call 48; refine HD.out.mono ?_; rintro e w' ⟨rfl, hw⟩; have hw := hw.symm; subst hw)
          | (go_at_call 50; refine HS.out.mono ?_; rintro e w2 ⟨rfl, hk2⟩; have HK2 := Lib.hid hk2; have HB2 := Lib.hid (hk2.blk HB.out); obtain ⟨n0, n1, n2, n3, n4, f0, f1, f2, f3, f4⟩ := blk5 HB2.out; clear hk2))
        obtain ⟨wf, hwf, hp, hkp⟩ := put5 HB2.out (.int .i64 0) (.string ⟨#[]⟩) (.int .i64 0) (.int .i64 0) (.int .i64 0)
        rw [← hwf]
        obtain ⟨c0, c1, c2, c3, c4, -⟩ := blk5 hp
        refine bodyPost_ret (v := .tuple #[.agg #[.int .i64 0, .string ⟨#[]⟩, .int .i64 0, .int .i64 0, .int .i64 0], .int .i64 9]) (by simp [results, Tryd.results34, go_sem, c0, c1, c2, c3, c4]) rfl ⟨by rw [HE.out]; rfl, ?_⟩
        exact (HK.out.trans HK2.out).new hkp fun k e => by have h2 : k = B := e; have := HN.out; omega
      · have hb : X.toList.isEmpty = false := by
          rw [ByteArray.toList_eq, HXD.out]
          cases sg with
          | nil => exact absurd rfl hn
          | cons a b => rfl
        have HE := Lib.hid (hT.trans (if_neg hn))
        clear hT hn
        go_enter Tryd.func34, Tryd.ntmps34
        go_upto_region 1 with fail
        rw [← hW0, ← hB]
        clear hW0 hB
        go_wp2_with (first
          | (go_at_call 37; refine HW.out.mono ?_; rintro e w' ⟨rfl, hw⟩; have hw := hw.symm; subst hw)
          | (go_at_call 48; refine HD.out.mono ?_; rintro e w' ⟨rfl, hw⟩; have hw := hw.symm; subst hw)
          | (go_at_call 50; refine HS.out.mono ?_; rintro e w2 ⟨rfl, hk2⟩; have HK2 := Lib.hid hk2; have HB2 := Lib.hid (hk2.blk HB.out); obtain ⟨n0, n1, n2, n3, n4, f0, f1, f2, f3, f4⟩ := blk5 HB2.out; clear hk2))
        obtain ⟨wf, hwf, hp, hkp⟩ := put5 HB2.out (.int .i64 4) (.string X) (.int .i64 0) (.int .i64 0) (.int .i64 0)
        rw [← hwf]
        obtain ⟨c0, c1, c2, c3, c4, -⟩ := blk5 hp
        refine bodyPost_ret (v := .tuple #[.agg #[.int .i64 4, .string X, .int .i64 0, .int .i64 0, .int .i64 0], .int .i64 0]) (by simp [results, Tryd.results34, go_sem, c0, c1, c2, c3, c4]) rfl ⟨by rw [HE.out, ← HXX.out]; rfl, ?_⟩
        exact (HK.out.trans HK2.out).new hkp fun k e => by have h2 : k = B := e; have := HN.out; omega

set_option maxHeartbeats 4000000 in
theorem rname_any (s : ByteArray) (w : World) (hbig : s.size ≤ 1099511627776) :
    Calls Tryd.prog 20 #[.string s] w fun e w' => e = .returned (.bool (nameB s.data.toList)) ∧ KeepBut (fun _ => False) w w' := by
  have hsl : s.data.toList.length = s.size := by simp
  obtain ⟨r, hr⟩ : ∃ r, reservedB s.data.toList = r := ⟨_, rfl⟩
  have hR := rReserved_any s w
  rw [hr] at hR
  have HR := Lib.hid hR
  obtain ⟨m, hm⟩ : ∃ m, rwordN s.data.toList = m := ⟨_, rfl⟩
  have hS := rword_any s w hbig
  rw [hm] at hS
  have HS := Lib.hid hS
  clear hR hS
  by_cases h0 : 0 < s.size
  · have h0i : (0 : Int) < (s.size : Int) := by omega
    by_cases h16 : s.size ≤ 16
    · have h16i : (s.size : Int) ≤ 16 := by omega
      have HE := Lib.hid (show nameB s.data.toList = (((m : Int) == (s.size : Int)) && !r) by
        unfold nameB
        rw [hr, hsl, ← hm]
        unfold rwordN
        have e2 : ∀ n : Nat, decide (n = s.size) = ((n : Int) == (s.size : Int)) := fun n => by
          rw [Bool.eq_iff_iff]; simp; omega
        cases hl : letterB (s.data.toList.headD 0) with
        | true => rw [if_pos rfl, ← e2]; simp [h0, h16]
        | false => rw [if_neg Bool.false_ne_true, ← e2, decide_eq_false (show ¬ 0 = s.size by omega)]; simp)
      clear hm hr hsl h16 h0
      cases h4 : ((m : Int) == (s.size : Int)) with
      | false =>
        go_enter Tryd.func20, Tryd.ntmps20
        go_wp2_with (go_at_call 37; refine HS.out.mono ?_; rintro e w' ⟨rfl, hw⟩; have hw := hw.symm; subst hw)
        go_ret
        exact ⟨ret_bool (by rw [HE.out, h4]; rfl), KeepBut.refl _ _⟩
      | true =>
        have HEE := Lib.hid (show nameB s.data.toList = !r by rw [HE.out, h4]; rfl)
        go_enter Tryd.func20, Tryd.ntmps20
        go_wp2_with (first
          | (go_at_call 37; refine HS.out.mono ?_; rintro e w' ⟨rfl, hw⟩; have hw := hw.symm; subst hw)
          | (go_at_call 19; refine HR.out.mono ?_; rintro e w3 ⟨rfl, hk3⟩; have HK3 := Lib.hid hk3; clear hk3))
        go_ret
        exact ⟨ret_bool HEE.out.symm, HK3.out⟩
    · have h16i : ¬ (s.size : Int) ≤ 16 := by omega
      have HE := Lib.hid (show nameB s.data.toList = false by unfold nameB; rw [hsl]; simp [h16])
      clear hm hr hsl h0 h16
      go_enter Tryd.func20, Tryd.ntmps20
      go_wp2_with fail
      go_ret
      exact ⟨ret_bool HE.out.symm, KeepBut.refl _ _⟩
  · have h0i : ¬ (0 : Int) < (s.size : Int) := by omega
    have HE := Lib.hid (show nameB s.data.toList = false by unfold nameB; rw [hsl]; simp [h0])
    clear hm hr hsl h0
    go_enter Tryd.func20, Tryd.ntmps20
    go_wp2_with fail
    go_ret
    exact ⟨ret_bool HE.out.symm, KeepBut.refl _ _⟩

theorem joinL_step (l : List G) (i : Nat) (t : G) (hlt : i < l.length) (ht : l[i] = t) : joinL ((textL l).take (i + 1)) = joinL ((textL l).take i) ++ ((if i = 0 then [] else [32]) ++ t.s.data.toList) := by
  have e : (textL l)[i]? = some t.s.data.toList := by simp [textL, hlt, ht]
  rw [List.take_add_one, e]
  show joinL ((textL l).take i ++ [t.s.data.toList]) = _
  rw [joinL_snoc]
  congr 2
  have hne : ((textL l).take i = []) ↔ i = 0 := by
    constructor
    · intro h
      have := congrArg List.length h
      have h2 : (textL l).length = l.length := by simp [textL]
      rw [List.length_take, List.length_nil, h2] at this
      omega
    · rintro rfl; rfl
  by_cases h0 : i = 0
  · rw [if_pos (hne.2 h0), if_pos h0]
  · rw [if_neg (fun h => h0 (hne.1 h)), if_neg h0]

set_option maxHeartbeats 4000000 in
theorem rtext_any (w : World) (p : Option Addr) (c : Nat) (l : List G) (hp : RowG w p l) (hl : l.length ≤ 9000) (hb : ∀ t ∈ l, t.s.size ≤ 9000) :
    Calls Tryd.prog 21 #[.slice p l.length c] w fun e w' => e = .returned (.string ⟨(joinL (textL l)).toArray⟩) ∧ w' = w := by
  have HP := Lib.hid hp; have HBD := Lib.hid hb
  clear hp hb
  go_enter Tryd.func21, Tryd.ntmps21
  go_wp2_with fail
  go_loopw [3, 4] (fun v3 v4 wr => ∃ (i : Nat) (S : ByteArray), i ≤ l.length ∧ v3 = .string S ∧ v4 = .int .i64 i ∧ S.data.toList = joinL ((textL l).take i) ∧ S.size ≤ i * 9001 ∧ wr = w) (fun _ v _ => l.length - (intOf v).toNat)
  case atStart => exact ⟨0, ⟨#[]⟩, Nat.zero_le _, rfl, rfl, rfl, Nat.le_refl _, rfl⟩
  case round =>
    obtain ⟨i, S, hi, rfl, rfl, hS, hSs, hwr⟩ := hrel
    have hwr := hwr.symm
    subst hwr
    have HS := Lib.hid hS
    clear hS
    by_cases hlt : i < l.length
    · have hlti : (i : Int) < (l.length : Int) := by omega
      have hi0 : (0 : Int) ≤ i := by omega
      obtain ⟨g, o, hg, x0, x1, x2, x3, x4⟩ := HP.out i hlt
      have hbt := HBD.out l[i] (List.getElem_mem hlt)
      obtain ⟨t, ht⟩ : ∃ t, l[i] = t := ⟨_, rfl⟩
      rw [ht] at x1 hbt
      have HST := Lib.hid (joinL_step l i t hlt ht)
      subst hg
      clear x0 x2 x3 x4 ht
      have hWi : IntKind.i64.wrap ((i : Int) + 1) = (i : Int) + 1 := IntWalk.i64_in _ (by omega)
      by_cases h0 : i = 0
      · have h0i : ¬ (0 : Int) < (i : Int) := by omega
        obtain ⟨T, hT⟩ : ∃ T, S ++ t.s = T := ⟨_, rfl⟩
        have hTs : T.size = S.size + t.s.size := by rw [← hT, ByteArray.size_append]
        have HT := Lib.hid (show T.data.toList = joinL ((textL l).take (i + 1)) by
          rw [HST.out, if_pos h0, ← HS.out, ← hT]; simp [ByteArray.data_append])
        have hc1 : ¬ 9223372036854775807 < S.size + t.s.size := by omega
        have HH0 := Lib.hid h0
        clear h0
        go_wp2_with fail
        exact ⟨⟨i + 1, T, by omega, by first | rfl | rw [hT], by simp, HT.out, by omega, by trivial⟩, by simp only [intOf]; omega⟩
      · have h0i : (0 : Int) < (i : Int) := by omega
        obtain ⟨T1, hT1⟩ : ∃ T1, S ++ (⟨#[32]⟩ : ByteArray) = T1 := ⟨_, rfl⟩
        obtain ⟨T, hT⟩ : ∃ T, T1 ++ t.s = T := ⟨_, rfl⟩
        have hT1s : T1.size = S.size + 1 := by rw [← hT1, ByteArray.size_append]; rfl
        have hTs : T.size = S.size + 1 + t.s.size := by rw [← hT, ByteArray.size_append, hT1s]
        have HT := Lib.hid (show T.data.toList = joinL ((textL l).take (i + 1)) by
          rw [HST.out, if_neg h0, ← HS.out, ← hT, ← hT1]; simp [ByteArray.data_append])
        have hc1 : ¬ 9223372036854775807 < S.size + 1 := by omega
        have hc2 : ¬ 9223372036854775807 < S.size + 1 + t.s.size := by omega
        have HH0 := Lib.hid h0
        clear h0
        go_wp2_with fail
        exact ⟨⟨i + 1, T, by omega, by first | rfl | rw [hT] | (rw [hT1, hT]), by simp, HT.out, by omega, by trivial⟩, by simp only [intOf]; omega⟩
    · have hnl : ¬ (i : Int) < (l.length : Int) := by omega
      have hie : (textL l).take i = textL l := List.take_of_length_le (by simp [textL]; omega)
      have HF := Lib.hid (show S = ⟨(joinL (textL l)).toArray⟩ by rw [← hie, ← HS.out])
      clear hie
      go_wp2_with fail
      go_ret
      exact ⟨by rw [← HF.out]; rfl, by trivial⟩

theorem likeB_self : ∀ a : List G, likeB a a = true
  | [] => rfl
  | x :: xs => by simp [likeB, eqG, likeB_self xs]

set_option maxRecDepth 100000 in
set_option maxHeartbeats 8000000 in
theorem rlike_any (w : World) (p q : Option Addr) (c d : Nat) (a b : List G) (hp : RowG w p a) (hq : RowG w q b) (hl : a.length ≤ 1099511627776) :
    Calls Tryd.prog 22 #[.slice p a.length c, .slice q b.length d] w fun e w' => e = .returned (.bool (likeB a b)) ∧ KeepBut (fun _ => False) w w' := by
  have HP := Lib.hid hp; have HQ := Lib.hid hq
  clear hp hq
  by_cases hlen : a.length = b.length
  · have hne : ((a.length : Int) != (b.length : Int)) = false := by simp [hlen]
    have HLN := Lib.hid hlen
    clear hlen
    go_enter Tryd.func22, Tryd.ntmps22
    go_wp2_with fail
    go_loopw [5] (fun v5 wr => ∃ i : Nat, i ≤ a.length ∧ v5 = .int .i64 i ∧ likeB (a.drop i) (b.drop i) = likeB a b ∧ KeepBut (fun _ => False) w wr) (fun v _ => a.length - (intOf v).toNat)
    case atStart => exact ⟨0, Nat.zero_le _, rfl, rfl, KeepBut.refl _ _⟩
    case round =>
      obtain ⟨i, hi, rfl, hlk, hkr⟩ := hrel
      by_cases hlt : i < a.length
      · have hlti : (i : Int) < (a.length : Int) := by omega
        have hltb : i < b.length := by have := HLN.out; omega
        have hltbi : (i : Int) < (b.length : Int) := by omega
        have hi0 : (0 : Int) ≤ i := by omega
        obtain ⟨g, o, hg, x0, x1, x2, -, -⟩ := HP.out i hlt
        obtain ⟨g', o', hg', y0, y1, y2, -, -⟩ := HQ.out i hltb
        have hda : a.drop i = a[i] :: a.drop (i + 1) := List.drop_eq_getElem_cons hlt
        have hdb : b.drop i = b[i] :: b.drop (i + 1) := List.drop_eq_getElem_cons hltb
        rw [hda, hdb] at hlk
        obtain ⟨x, hx⟩ : ∃ x, a[i] = x := ⟨_, rfl⟩
        obtain ⟨y, hy⟩ : ∃ y, b[i] = y := ⟨_, rfl⟩
        rw [hx, hy] at hlk
        rw [hx] at x0 x1 x2
        rw [hy] at y0 y1 y2
        have HKR := Lib.hid hkr
        have HST := Lib.hid (show ((x.k == y.k && (x.s.toList == y.s.toList && x.n == y.n)) && likeB (a.drop (i + 1)) (b.drop (i + 1))) = likeB a b from hlk)
        have hst : ∀ w', KeepBut (fun _ => False) wr.drew w' → KeepBut (fun _ => False) w w' := fun w' h => HKR.out.trans ((KeepBut.drew _ wr).trans h)
        subst hg hg'
        have a0 : ∀ w', KeepBut (fun _ => False) wr.drew w' → w'.cell? ⟨g, o + i * 5, none⟩ = some (.int .i64 x.k) := fun w' h => (hst w' h).stay x0
        have a1 : ∀ w', KeepBut (fun _ => False) wr.drew w' → w'.cell? ⟨g, o + i * 5 + 1, none⟩ = some (.string x.s) := fun w' h => (hst w' h).stay x1
        have a2 : ∀ w', KeepBut (fun _ => False) wr.drew w' → w'.cell? ⟨g, o + i * 5 + 2, none⟩ = some (.int .i64 x.n) := fun w' h => (hst w' h).stay x2
        have b0 : ∀ w', KeepBut (fun _ => False) wr.drew w' → w'.cell? ⟨g', o' + i * 5, none⟩ = some (.int .i64 y.k) := fun w' h => (hst w' h).stay y0
        have b1 : ∀ w', KeepBut (fun _ => False) wr.drew w' → w'.cell? ⟨g', o' + i * 5 + 1, none⟩ = some (.string y.s) := fun w' h => (hst w' h).stay y1
        have b2 : ∀ w', KeepBut (fun _ => False) wr.drew w' → w'.cell? ⟨g', o' + i * 5 + 2, none⟩ = some (.int .i64 y.n) := fun w' h => (hst w' h).stay y2
        clear hkr hlk hda hdb hx hy x0 x1 x2 y0 y1 y2 hst
        have hWi : IntKind.i64.wrap ((i : Int) + 1) = (i : Int) + 1 := IntWalk.i64_in _ (by omega)
        cases hk1 : (x.k == y.k) with
        | false =>
          have hk1' : (x.k != y.k) = true := by rw [bne, hk1]; rfl
          have HEE := Lib.hid (show likeB a b = false by have := HST.out; rw [hk1, Bool.false_and, Bool.false_and] at this; exact this.symm)
          clear hk1
          go_upto_region 6 with fail
          refine wp_own0 (by kernel_rfl) (fun i => [[], [], [0, 1], [0, 1, 2], [0, 1, 2, 3], [], [], [5, 6], [5, 6, 7], [5, 6, 7, 8], [0, 1, 2, 3, 4, 5, 6, 7, 8, 9], [0, 1, 2, 3, 4, 5, 6, 7, 8, 9, 10], [0, 1, 2, 3, 4, 5, 6, 7, 8, 9, 10, 11], [0, 1, 2, 3, 4, 5, 6, 7, 8, 9, 10, 11], [0, 1, 2, 3, 4, 5, 6, 7, 8, 9, 10, 11, 12, 13], [0, 1, 2, 3, 4, 5, 6, 7, 8, 9, 10, 11, 12, 13, 14], [0, 1, 2, 3, 4, 5, 6, 7, 8, 9, 10, 11, 12, 13, 14, 15], [0, 1, 2, 3, 4, 5, 6, 7, 8, 9, 10, 11], [0, 1, 2, 3, 4, 5, 6, 7, 8, 9, 10, 11], [0, 1, 2, 3, 4, 5, 6, 7, 8, 9, 10, 11, 17, 18], [0, 1, 2, 3, 4, 5, 6, 7, 8, 9, 10, 11, 17, 18, 19], [0, 1, 2, 3, 4, 5, 6, 7, 8, 9, 10, 11, 17, 18, 19, 20], [0, 1, 2, 3, 4, 5, 6, 7, 8, 9, 10, 11, 12, 13, 14, 15, 16, 17, 18, 19, 20, 21], [0, 1, 2, 3, 4, 5, 6, 7, 8, 9, 10, 11, 12, 13, 14, 15, 16, 17, 18, 19, 20, 21, 22], [0, 1, 2, 3, 4, 5, 6, 7, 8, 9, 10, 11, 12, 13, 14, 15, 16, 17, 18, 19, 20, 21, 22, 23], [0, 1, 2, 3, 4, 5, 6, 7, 8, 9, 10, 11, 12, 13, 14, 15, 16, 17, 18, 19, 20, 21, 22, 23, 24], [0, 1, 2, 3, 4, 5, 6, 7, 8, 9, 10, 11, 12, 13, 14, 15, 16, 17, 18, 19, 20, 21, 22, 23, 24], [0, 1, 2, 3, 4, 5, 6, 7, 8, 9, 10, 11, 12, 13, 14, 15, 16, 17, 18, 19, 20, 21, 22, 23, 24, 25, 26], [0, 1, 2, 3, 4, 5, 6, 7, 8, 9, 10, 11, 12, 13, 14, 15, 16, 17, 18, 19, 20, 21, 22, 23, 24, 25, 26, 27], [0, 1, 2, 3, 4, 5, 6, 7, 8, 9, 10, 11, 12, 13, 14, 15, 16, 17, 18, 19, 20, 21, 22, 23, 24, 25, 26, 27, 28], [0, 1, 2, 3, 4, 5, 6, 7, 8, 9, 10, 11, 12, 13, 14, 15, 16, 17, 18, 19, 20, 21, 22, 23, 24], [0, 1, 2, 3, 4, 5, 6, 7, 8, 9, 10, 11, 12, 13, 14, 15, 16, 17, 18, 19, 20, 21, 22, 23, 24], [0, 1, 2, 3, 4, 5, 6, 7, 8, 9, 10, 11, 12, 13, 14, 15, 16, 17, 18, 19, 20, 21, 22, 23, 24, 30, 31], [0, 1, 2, 3, 4, 5, 6, 7, 8, 9, 10, 11, 12, 13, 14, 15, 16, 17, 18, 19, 20, 21, 22, 23, 24, 30, 31, 32], [0, 1, 2, 3, 4, 5, 6, 7, 8, 9, 10, 11, 12, 13, 14, 15, 16, 17, 18, 19, 20, 21, 22, 23, 24, 30, 31, 32, 33], [0, 1, 2, 3, 4, 5, 6, 7, 8, 9, 10, 11, 12, 13, 14, 15, 16, 17, 18, 19, 20, 21, 22, 23, 24, 25, 26, 27, 28, 29, 30, 31, 32, 33, 34], [0, 1, 2, 3, 4, 5, 6, 7, 8, 9, 10, 11, 12, 13, 14, 15, 16, 17, 18, 19, 20, 21, 22, 23, 24, 25, 26, 27, 28, 29, 30, 31, 32, 33, 34, 35]].getD i []) (fun _ => []) (fun _ => []) [] (by kernel_rfl) (fun _ => none) ?_
          apply lex_quiet rfl rfl
          · intro w' hk; go_simp; with_reducible rfl
          simp only [Act.put, List.setIfInBounds_toArray, List.set_cons_zero, List.set_cons_succ]
          apply lex_quiet rfl rfl
          · intro w' hk; go_simp; with_reducible rfl
          simp only [Act.put, List.setIfInBounds_toArray, List.set_cons_zero, List.set_cons_succ]
          apply lex_quiet rfl rfl
          · intro w' hk; go_simp; with_reducible rfl
          simp only [Act.put, List.setIfInBounds_toArray, List.set_cons_zero, List.set_cons_succ]
          apply lex_quiet rfl rfl
          · intro w' hk; go_simp; with_reducible rfl
          simp only [Act.put, List.setIfInBounds_toArray, List.set_cons_zero, List.set_cons_succ]
          apply lex_quiet rfl rfl
          · intro w' hk; go_simp; with_reducible rfl
          simp only [Act.put, List.setIfInBounds_toArray, List.set_cons_zero, List.set_cons_succ]
          apply lex_quiet rfl rfl
          · intro w' hk; go_simp; with_reducible rfl
          simp only [Act.put, List.setIfInBounds_toArray, List.set_cons_zero, List.set_cons_succ]
          apply lex_quiet rfl rfl
          · intro w' hk; go_simp; with_reducible rfl
          simp only [Act.put, List.setIfInBounds_toArray, List.set_cons_zero, List.set_cons_succ]
          apply lex_quiet rfl rfl
          · intro w' hk; go_simp; with_reducible rfl
          simp only [Act.put, List.setIfInBounds_toArray, List.set_cons_zero, List.set_cons_succ]
          apply lex_quiet rfl rfl
          · intro w' hk; go_simp; with_reducible rfl
          simp only [Act.put, List.setIfInBounds_toArray, List.set_cons_zero, List.set_cons_succ]
          apply lex_quiet rfl rfl
          · intro w' hk; go_simp; with_reducible rfl
          simp only [Act.put, List.setIfInBounds_toArray, List.set_cons_zero, List.set_cons_succ]
          apply lex_quiet rfl rfl
          · intro w' hk; go_simp; with_reducible rfl
          simp only [Act.put, List.setIfInBounds_toArray, List.set_cons_zero, List.set_cons_succ]
          apply lex_quiet rfl rfl
          · intro w' hk; go_simp; with_reducible rfl
          simp only [Act.put, List.setIfInBounds_toArray, List.set_cons_zero, List.set_cons_succ]
          refine lex_skip rfl ?_
          simp only [Act.put, List.setIfInBounds_toArray, List.set_cons_zero, List.set_cons_succ]
          refine lex_skip rfl ?_
          simp only [Act.put, List.setIfInBounds_toArray, List.set_cons_zero, List.set_cons_succ]
          refine lex_skip rfl ?_
          simp only [Act.put, List.setIfInBounds_toArray, List.set_cons_zero, List.set_cons_succ]
          refine lex_skip rfl ?_
          simp only [Act.put, List.setIfInBounds_toArray, List.set_cons_zero, List.set_cons_succ]
          refine lex_skip rfl ?_
          simp only [Act.put, List.setIfInBounds_toArray, List.set_cons_zero, List.set_cons_succ]
          refine lex_skip rfl ?_
          simp only [Act.put, List.setIfInBounds_toArray, List.set_cons_zero, List.set_cons_succ]
          refine lex_skip rfl ?_
          simp only [Act.put, List.setIfInBounds_toArray, List.set_cons_zero, List.set_cons_succ]
          refine lex_skip rfl ?_
          simp only [Act.put, List.setIfInBounds_toArray, List.set_cons_zero, List.set_cons_succ]
          refine lex_skip rfl ?_
          simp only [Act.put, List.setIfInBounds_toArray, List.set_cons_zero, List.set_cons_succ]
          refine lex_skip rfl ?_
          simp only [Act.put, List.setIfInBounds_toArray, List.set_cons_zero, List.set_cons_succ]
          refine lex_skip rfl ?_
          simp only [Act.put, List.setIfInBounds_toArray, List.set_cons_zero, List.set_cons_succ]
          apply lex_quiet rfl rfl
          · intro w' hk; go_simp; with_reducible rfl
          simp only [Act.put, List.setIfInBounds_toArray, List.set_cons_zero, List.set_cons_succ]
          apply lex_quiet rfl rfl
          · intro w' hk; go_simp; with_reducible rfl
          simp only [Act.put, List.setIfInBounds_toArray, List.set_cons_zero, List.set_cons_succ]
          refine lex_skip rfl ?_
          simp only [Act.put, List.setIfInBounds_toArray, List.set_cons_zero, List.set_cons_succ]
          refine lex_skip rfl ?_
          simp only [Act.put, List.setIfInBounds_toArray, List.set_cons_zero, List.set_cons_succ]
          refine lex_skip rfl ?_
          simp only [Act.put, List.setIfInBounds_toArray, List.set_cons_zero, List.set_cons_succ]
          refine lex_skip rfl ?_
          simp only [Act.put, List.setIfInBounds_toArray, List.set_cons_zero, List.set_cons_succ]
          refine lex_skip rfl ?_
          simp only [Act.put, List.setIfInBounds_toArray, List.set_cons_zero, List.set_cons_succ]
          refine lex_skip rfl ?_
          simp only [Act.put, List.setIfInBounds_toArray, List.set_cons_zero, List.set_cons_succ]
          refine lex_skip rfl ?_
          simp only [Act.put, List.setIfInBounds_toArray, List.set_cons_zero, List.set_cons_succ]
          refine lex_skip rfl ?_
          simp only [Act.put, List.setIfInBounds_toArray, List.set_cons_zero, List.set_cons_succ]
          refine lex_skip rfl ?_
          simp only [Act.put, List.setIfInBounds_toArray, List.set_cons_zero, List.set_cons_succ]
          refine lex_skip rfl ?_
          simp only [Act.put, List.setIfInBounds_toArray, List.set_cons_zero, List.set_cons_succ]
          refine lex_skip rfl ?_
          simp only [Act.put, List.setIfInBounds_toArray, List.set_cons_zero, List.set_cons_succ]
          apply lex_quiet rfl rfl
          · intro w' hk; go_simp; with_reducible rfl
          simp only [Act.put, List.setIfInBounds_toArray, List.set_cons_zero, List.set_cons_succ]
          refine lex_nil ?_
          intro w9 hk9 _ _
          have HK9 := Lib.hid (HKR.out.trans ((KeepBut.drew _ wr).trans hk9))
          clear hk9 a0 a1 a2 b0 b1 b2
          go_wp2_with fail
          go_ret
          exact ⟨ret_bool HEE.out.symm, HK9.out⟩
        | true =>
          have hk1' : (x.k != y.k) = false := by rw [bne, hk1]; rfl
          cases hk2 : (x.s.toList == y.s.toList) with
          | false =>
            have hk2' : (x.s.toList != y.s.toList) = true := by rw [bne, hk2]; rfl
            have HEE := Lib.hid (show likeB a b = false by have := HST.out; rw [hk1, hk2, Bool.false_and, Bool.true_and, Bool.false_and] at this; exact this.symm)
            clear hk1
            go_upto_region 6 with fail
            refine wp_own0 (by kernel_rfl) (fun i => [[], [], [0, 1], [0, 1, 2], [0, 1, 2, 3], [], [], [5, 6], [5, 6, 7], [5, 6, 7, 8], [0, 1, 2, 3, 4, 5, 6, 7, 8, 9], [0, 1, 2, 3, 4, 5, 6, 7, 8, 9, 10], [0, 1, 2, 3, 4, 5, 6, 7, 8, 9, 10, 11], [0, 1, 2, 3, 4, 5, 6, 7, 8, 9, 10, 11], [0, 1, 2, 3, 4, 5, 6, 7, 8, 9, 10, 11, 12, 13], [0, 1, 2, 3, 4, 5, 6, 7, 8, 9, 10, 11, 12, 13, 14], [0, 1, 2, 3, 4, 5, 6, 7, 8, 9, 10, 11, 12, 13, 14, 15], [0, 1, 2, 3, 4, 5, 6, 7, 8, 9, 10, 11], [0, 1, 2, 3, 4, 5, 6, 7, 8, 9, 10, 11], [0, 1, 2, 3, 4, 5, 6, 7, 8, 9, 10, 11, 17, 18], [0, 1, 2, 3, 4, 5, 6, 7, 8, 9, 10, 11, 17, 18, 19], [0, 1, 2, 3, 4, 5, 6, 7, 8, 9, 10, 11, 17, 18, 19, 20], [0, 1, 2, 3, 4, 5, 6, 7, 8, 9, 10, 11, 12, 13, 14, 15, 16, 17, 18, 19, 20, 21], [0, 1, 2, 3, 4, 5, 6, 7, 8, 9, 10, 11, 12, 13, 14, 15, 16, 17, 18, 19, 20, 21, 22], [0, 1, 2, 3, 4, 5, 6, 7, 8, 9, 10, 11, 12, 13, 14, 15, 16, 17, 18, 19, 20, 21, 22, 23], [0, 1, 2, 3, 4, 5, 6, 7, 8, 9, 10, 11, 12, 13, 14, 15, 16, 17, 18, 19, 20, 21, 22, 23, 24], [0, 1, 2, 3, 4, 5, 6, 7, 8, 9, 10, 11, 12, 13, 14, 15, 16, 17, 18, 19, 20, 21, 22, 23, 24], [0, 1, 2, 3, 4, 5, 6, 7, 8, 9, 10, 11, 12, 13, 14, 15, 16, 17, 18, 19, 20, 21, 22, 23, 24, 25, 26], [0, 1, 2, 3, 4, 5, 6, 7, 8, 9, 10, 11, 12, 13, 14, 15, 16, 17, 18, 19, 20, 21, 22, 23, 24, 25, 26, 27], [0, 1, 2, 3, 4, 5, 6, 7, 8, 9, 10, 11, 12, 13, 14, 15, 16, 17, 18, 19, 20, 21, 22, 23, 24, 25, 26, 27, 28], [0, 1, 2, 3, 4, 5, 6, 7, 8, 9, 10, 11, 12, 13, 14, 15, 16, 17, 18, 19, 20, 21, 22, 23, 24], [0, 1, 2, 3, 4, 5, 6, 7, 8, 9, 10, 11, 12, 13, 14, 15, 16, 17, 18, 19, 20, 21, 22, 23, 24], [0, 1, 2, 3, 4, 5, 6, 7, 8, 9, 10, 11, 12, 13, 14, 15, 16, 17, 18, 19, 20, 21, 22, 23, 24, 30, 31], [0, 1, 2, 3, 4, 5, 6, 7, 8, 9, 10, 11, 12, 13, 14, 15, 16, 17, 18, 19, 20, 21, 22, 23, 24, 30, 31, 32], [0, 1, 2, 3, 4, 5, 6, 7, 8, 9, 10, 11, 12, 13, 14, 15, 16, 17, 18, 19, 20, 21, 22, 23, 24, 30, 31, 32, 33], [0, 1, 2, 3, 4, 5, 6, 7, 8, 9, 10, 11, 12, 13, 14, 15, 16, 17, 18, 19, 20, 21, 22, 23, 24, 25, 26, 27, 28, 29, 30, 31, 32, 33, 34], [0, 1, 2, 3, 4, 5, 6, 7, 8, 9, 10, 11, 12, 13, 14, 15, 16, 17, 18, 19, 20, 21, 22, 23, 24, 25, 26, 27, 28, 29, 30, 31, 32, 33, 34, 35]].getD i []) (fun _ => []) (fun _ => []) [] (by kernel_rfl) (fun _ => none) ?_
            apply lex_quiet rfl rfl
            · intro w' hk; go_simp; with_reducible rfl
            simp only [Act.put, List.setIfInBounds_toArray, List.set_cons_zero, List.set_cons_succ]
            apply lex_quiet rfl rfl
            · intro w' hk; go_simp; with_reducible rfl
            simp only [Act.put, List.setIfInBounds_toArray, List.set_cons_zero, List.set_cons_succ]
            apply lex_quiet rfl rfl
            · intro w' hk; go_simp; with_reducible rfl
            simp only [Act.put, List.setIfInBounds_toArray, List.set_cons_zero, List.set_cons_succ]
            apply lex_quiet rfl rfl
            · intro w' hk; go_simp; with_reducible rfl
            simp only [Act.put, List.setIfInBounds_toArray, List.set_cons_zero, List.set_cons_succ]
            apply lex_quiet rfl rfl
            · intro w' hk; go_simp; with_reducible rfl
            simp only [Act.put, List.setIfInBounds_toArray, List.set_cons_zero, List.set_cons_succ]
            apply lex_quiet rfl rfl
            · intro w' hk; go_simp; with_reducible rfl
            simp only [Act.put, List.setIfInBounds_toArray, List.set_cons_zero, List.set_cons_succ]
            apply lex_quiet rfl rfl
            · intro w' hk; go_simp; with_reducible rfl
            simp only [Act.put, List.setIfInBounds_toArray, List.set_cons_zero, List.set_cons_succ]
            apply lex_quiet rfl rfl
            · intro w' hk; go_simp; with_reducible rfl
            simp only [Act.put, List.setIfInBounds_toArray, List.set_cons_zero, List.set_cons_succ]
            apply lex_quiet rfl rfl
            · intro w' hk; go_simp; with_reducible rfl
            simp only [Act.put, List.setIfInBounds_toArray, List.set_cons_zero, List.set_cons_succ]
            apply lex_quiet rfl rfl
            · intro w' hk; go_simp; with_reducible rfl
            simp only [Act.put, List.setIfInBounds_toArray, List.set_cons_zero, List.set_cons_succ]
            apply lex_quiet rfl rfl
            · intro w' hk; go_simp; with_reducible rfl
            simp only [Act.put, List.setIfInBounds_toArray, List.set_cons_zero, List.set_cons_succ]
            apply lex_quiet rfl rfl
            · intro w' hk; go_simp; with_reducible rfl
            simp only [Act.put, List.setIfInBounds_toArray, List.set_cons_zero, List.set_cons_succ]
            apply lex_quiet rfl rfl
            · intro w' hk; go_simp; with_reducible rfl
            simp only [Act.put, List.setIfInBounds_toArray, List.set_cons_zero, List.set_cons_succ]
            apply lex_quiet rfl rfl
            · intro w' hk; go_simp; with_reducible rfl
            simp only [Act.put, List.setIfInBounds_toArray, List.set_cons_zero, List.set_cons_succ]
            apply lex_quiet rfl rfl
            · intro w' hk; go_simp; with_reducible rfl
            simp only [Act.put, List.setIfInBounds_toArray, List.set_cons_zero, List.set_cons_succ]
            apply lex_quiet rfl rfl
            · intro w' hk; go_simp; with_reducible rfl
            simp only [Act.put, List.setIfInBounds_toArray, List.set_cons_zero, List.set_cons_succ]
            apply lex_quiet rfl rfl
            · intro w' hk; go_simp; with_reducible rfl
            simp only [Act.put, List.setIfInBounds_toArray, List.set_cons_zero, List.set_cons_succ]
            apply lex_quiet rfl rfl
            · intro w' hk; go_simp; with_reducible rfl
            simp only [Act.put, List.setIfInBounds_toArray, List.set_cons_zero, List.set_cons_succ]
            apply lex_quiet rfl rfl
            · intro w' hk; go_simp; with_reducible rfl
            simp only [Act.put, List.setIfInBounds_toArray, List.set_cons_zero, List.set_cons_succ]
            apply lex_quiet rfl rfl
            · intro w' hk; go_simp; with_reducible rfl
            simp only [Act.put, List.setIfInBounds_toArray, List.set_cons_zero, List.set_cons_succ]
            apply lex_quiet rfl rfl
            · intro w' hk; go_simp; with_reducible rfl
            simp only [Act.put, List.setIfInBounds_toArray, List.set_cons_zero, List.set_cons_succ]
            apply lex_quiet rfl rfl
            · intro w' hk; go_simp; with_reducible rfl
            simp only [Act.put, List.setIfInBounds_toArray, List.set_cons_zero, List.set_cons_succ]
            apply lex_quiet rfl rfl
            · intro w' hk; go_simp; with_reducible rfl
            simp only [Act.put, List.setIfInBounds_toArray, List.set_cons_zero, List.set_cons_succ]
            apply lex_quiet rfl rfl
            · intro w' hk; go_simp; with_reducible rfl
            simp only [Act.put, List.setIfInBounds_toArray, List.set_cons_zero, List.set_cons_succ]
            apply lex_quiet rfl rfl
            · intro w' hk; go_simp; with_reducible rfl
            simp only [Act.put, List.setIfInBounds_toArray, List.set_cons_zero, List.set_cons_succ]
            refine lex_skip rfl ?_
            simp only [Act.put, List.setIfInBounds_toArray, List.set_cons_zero, List.set_cons_succ]
            refine lex_skip rfl ?_
            simp only [Act.put, List.setIfInBounds_toArray, List.set_cons_zero, List.set_cons_succ]
            refine lex_skip rfl ?_
            simp only [Act.put, List.setIfInBounds_toArray, List.set_cons_zero, List.set_cons_succ]
            refine lex_skip rfl ?_
            simp only [Act.put, List.setIfInBounds_toArray, List.set_cons_zero, List.set_cons_succ]
            refine lex_skip rfl ?_
            simp only [Act.put, List.setIfInBounds_toArray, List.set_cons_zero, List.set_cons_succ]
            refine lex_skip rfl ?_
            simp only [Act.put, List.setIfInBounds_toArray, List.set_cons_zero, List.set_cons_succ]
            refine lex_skip rfl ?_
            simp only [Act.put, List.setIfInBounds_toArray, List.set_cons_zero, List.set_cons_succ]
            refine lex_skip rfl ?_
            simp only [Act.put, List.setIfInBounds_toArray, List.set_cons_zero, List.set_cons_succ]
            refine lex_skip rfl ?_
            simp only [Act.put, List.setIfInBounds_toArray, List.set_cons_zero, List.set_cons_succ]
            refine lex_skip rfl ?_
            simp only [Act.put, List.setIfInBounds_toArray, List.set_cons_zero, List.set_cons_succ]
            refine lex_skip rfl ?_
            simp only [Act.put, List.setIfInBounds_toArray, List.set_cons_zero, List.set_cons_succ]
            apply lex_quiet rfl rfl
            · intro w' hk; go_simp; with_reducible rfl
            simp only [Act.put, List.setIfInBounds_toArray, List.set_cons_zero, List.set_cons_succ]
            refine lex_nil ?_
            intro w9 hk9 _ _
            have HK9 := Lib.hid (HKR.out.trans ((KeepBut.drew _ wr).trans hk9))
            clear hk9 a0 a1 a2 b0 b1 b2
            go_wp2_with fail
            go_ret
            exact ⟨ret_bool HEE.out.symm, HK9.out⟩
          | true =>
            have hk2' : (x.s.toList != y.s.toList) = false := by rw [bne, hk2]; rfl
            cases hk3 : (x.n == y.n) with
            | false =>
              have hk3' : (x.n != y.n) = true := by rw [bne, hk3]; rfl
              have HEE := Lib.hid (show likeB a b = false by have := HST.out; rw [hk1, hk2, hk3, Bool.true_and, Bool.true_and, Bool.false_and] at this; exact this.symm)
              clear hk1
              go_upto_region 6 with fail
              refine wp_own0 (by kernel_rfl) (fun i => [[], [], [0, 1], [0, 1, 2], [0, 1, 2, 3], [], [], [5, 6], [5, 6, 7], [5, 6, 7, 8], [0, 1, 2, 3, 4, 5, 6, 7, 8, 9], [0, 1, 2, 3, 4, 5, 6, 7, 8, 9, 10], [0, 1, 2, 3, 4, 5, 6, 7, 8, 9, 10, 11], [0, 1, 2, 3, 4, 5, 6, 7, 8, 9, 10, 11], [0, 1, 2, 3, 4, 5, 6, 7, 8, 9, 10, 11, 12, 13], [0, 1, 2, 3, 4, 5, 6, 7, 8, 9, 10, 11, 12, 13, 14], [0, 1, 2, 3, 4, 5, 6, 7, 8, 9, 10, 11, 12, 13, 14, 15], [0, 1, 2, 3, 4, 5, 6, 7, 8, 9, 10, 11], [0, 1, 2, 3, 4, 5, 6, 7, 8, 9, 10, 11], [0, 1, 2, 3, 4, 5, 6, 7, 8, 9, 10, 11, 17, 18], [0, 1, 2, 3, 4, 5, 6, 7, 8, 9, 10, 11, 17, 18, 19], [0, 1, 2, 3, 4, 5, 6, 7, 8, 9, 10, 11, 17, 18, 19, 20], [0, 1, 2, 3, 4, 5, 6, 7, 8, 9, 10, 11, 12, 13, 14, 15, 16, 17, 18, 19, 20, 21], [0, 1, 2, 3, 4, 5, 6, 7, 8, 9, 10, 11, 12, 13, 14, 15, 16, 17, 18, 19, 20, 21, 22], [0, 1, 2, 3, 4, 5, 6, 7, 8, 9, 10, 11, 12, 13, 14, 15, 16, 17, 18, 19, 20, 21, 22, 23], [0, 1, 2, 3, 4, 5, 6, 7, 8, 9, 10, 11, 12, 13, 14, 15, 16, 17, 18, 19, 20, 21, 22, 23, 24], [0, 1, 2, 3, 4, 5, 6, 7, 8, 9, 10, 11, 12, 13, 14, 15, 16, 17, 18, 19, 20, 21, 22, 23, 24], [0, 1, 2, 3, 4, 5, 6, 7, 8, 9, 10, 11, 12, 13, 14, 15, 16, 17, 18, 19, 20, 21, 22, 23, 24, 25, 26], [0, 1, 2, 3, 4, 5, 6, 7, 8, 9, 10, 11, 12, 13, 14, 15, 16, 17, 18, 19, 20, 21, 22, 23, 24, 25, 26, 27], [0, 1, 2, 3, 4, 5, 6, 7, 8, 9, 10, 11, 12, 13, 14, 15, 16, 17, 18, 19, 20, 21, 22, 23, 24, 25, 26, 27, 28], [0, 1, 2, 3, 4, 5, 6, 7, 8, 9, 10, 11, 12, 13, 14, 15, 16, 17, 18, 19, 20, 21, 22, 23, 24], [0, 1, 2, 3, 4, 5, 6, 7, 8, 9, 10, 11, 12, 13, 14, 15, 16, 17, 18, 19, 20, 21, 22, 23, 24], [0, 1, 2, 3, 4, 5, 6, 7, 8, 9, 10, 11, 12, 13, 14, 15, 16, 17, 18, 19, 20, 21, 22, 23, 24, 30, 31], [0, 1, 2, 3, 4, 5, 6, 7, 8, 9, 10, 11, 12, 13, 14, 15, 16, 17, 18, 19, 20, 21, 22, 23, 24, 30, 31, 32], [0, 1, 2, 3, 4, 5, 6, 7, 8, 9, 10, 11, 12, 13, 14, 15, 16, 17, 18, 19, 20, 21, 22, 23, 24, 30, 31, 32, 33], [0, 1, 2, 3, 4, 5, 6, 7, 8, 9, 10, 11, 12, 13, 14, 15, 16, 17, 18, 19, 20, 21, 22, 23, 24, 25, 26, 27, 28, 29, 30, 31, 32, 33, 34], [0, 1, 2, 3, 4, 5, 6, 7, 8, 9, 10, 11, 12, 13, 14, 15, 16, 17, 18, 19, 20, 21, 22, 23, 24, 25, 26, 27, 28, 29, 30, 31, 32, 33, 34, 35]].getD i []) (fun _ => []) (fun _ => []) [] (by kernel_rfl) (fun _ => none) ?_
              apply lex_quiet rfl rfl
              · intro w' hk; go_simp; with_reducible rfl
              simp only [Act.put, List.setIfInBounds_toArray, List.set_cons_zero, List.set_cons_succ]
              apply lex_quiet rfl rfl
              · intro w' hk; go_simp; with_reducible rfl
              simp only [Act.put, List.setIfInBounds_toArray, List.set_cons_zero, List.set_cons_succ]
              apply lex_quiet rfl rfl
              · intro w' hk; go_simp; with_reducible rfl
              simp only [Act.put, List.setIfInBounds_toArray, List.set_cons_zero, List.set_cons_succ]
              apply lex_quiet rfl rfl
              · intro w' hk; go_simp; with_reducible rfl
              simp only [Act.put, List.setIfInBounds_toArray, List.set_cons_zero, List.set_cons_succ]
              apply lex_quiet rfl rfl
              · intro w' hk; go_simp; with_reducible rfl
              simp only [Act.put, List.setIfInBounds_toArray, List.set_cons_zero, List.set_cons_succ]
              apply lex_quiet rfl rfl
              · intro w' hk; go_simp; with_reducible rfl
              simp only [Act.put, List.setIfInBounds_toArray, List.set_cons_zero, List.set_cons_succ]
              apply lex_quiet rfl rfl
              · intro w' hk; go_simp; with_reducible rfl
              simp only [Act.put, List.setIfInBounds_toArray, List.set_cons_zero, List.set_cons_succ]
              apply lex_quiet rfl rfl
              · intro w' hk; go_simp; with_reducible rfl
              simp only [Act.put, List.setIfInBounds_toArray, List.set_cons_zero, List.set_cons_succ]
              apply lex_quiet rfl rfl
              · intro w' hk; go_simp; with_reducible rfl
              simp only [Act.put, List.setIfInBounds_toArray, List.set_cons_zero, List.set_cons_succ]
              apply lex_quiet rfl rfl
              · intro w' hk; go_simp; with_reducible rfl
              simp only [Act.put, List.setIfInBounds_toArray, List.set_cons_zero, List.set_cons_succ]
              apply lex_quiet rfl rfl
              · intro w' hk; go_simp; with_reducible rfl
              simp only [Act.put, List.setIfInBounds_toArray, List.set_cons_zero, List.set_cons_succ]
              apply lex_quiet rfl rfl
              · intro w' hk; go_simp; with_reducible rfl
              simp only [Act.put, List.setIfInBounds_toArray, List.set_cons_zero, List.set_cons_succ]
              apply lex_quiet rfl rfl
              · intro w' hk; go_simp; with_reducible rfl
              simp only [Act.put, List.setIfInBounds_toArray, List.set_cons_zero, List.set_cons_succ]
              apply lex_quiet rfl rfl
              · intro w' hk; go_simp; with_reducible rfl
              simp only [Act.put, List.setIfInBounds_toArray, List.set_cons_zero, List.set_cons_succ]
              apply lex_quiet rfl rfl
              · intro w' hk; go_simp; with_reducible rfl
              simp only [Act.put, List.setIfInBounds_toArray, List.set_cons_zero, List.set_cons_succ]
              apply lex_quiet rfl rfl
              · intro w' hk; go_simp; with_reducible rfl
              simp only [Act.put, List.setIfInBounds_toArray, List.set_cons_zero, List.set_cons_succ]
              apply lex_quiet rfl rfl
              · intro w' hk; go_simp; with_reducible rfl
              simp only [Act.put, List.setIfInBounds_toArray, List.set_cons_zero, List.set_cons_succ]
              apply lex_quiet rfl rfl
              · intro w' hk; go_simp; with_reducible rfl
              simp only [Act.put, List.setIfInBounds_toArray, List.set_cons_zero, List.set_cons_succ]
              apply lex_quiet rfl rfl
              · intro w' hk; go_simp; with_reducible rfl
              simp only [Act.put, List.setIfInBounds_toArray, List.set_cons_zero, List.set_cons_succ]
              apply lex_quiet rfl rfl
              · intro w' hk; go_simp; with_reducible rfl
              simp only [Act.put, List.setIfInBounds_toArray, List.set_cons_zero, List.set_cons_succ]
              apply lex_quiet rfl rfl
              · intro w' hk; go_simp; with_reducible rfl
              simp only [Act.put, List.setIfInBounds_toArray, List.set_cons_zero, List.set_cons_succ]
              apply lex_quiet rfl rfl
              · intro w' hk; go_simp; with_reducible rfl
              simp only [Act.put, List.setIfInBounds_toArray, List.set_cons_zero, List.set_cons_succ]
              apply lex_quiet rfl rfl
              · intro w' hk; go_simp; with_reducible rfl
              simp only [Act.put, List.setIfInBounds_toArray, List.set_cons_zero, List.set_cons_succ]
              apply lex_quiet rfl rfl
              · intro w' hk; go_simp; with_reducible rfl
              simp only [Act.put, List.setIfInBounds_toArray, List.set_cons_zero, List.set_cons_succ]
              apply lex_quiet rfl rfl
              · intro w' hk; go_simp; with_reducible rfl
              simp only [Act.put, List.setIfInBounds_toArray, List.set_cons_zero, List.set_cons_succ]
              apply lex_quiet rfl rfl
              · intro w' hk; go_simp; with_reducible rfl
              simp only [Act.put, List.setIfInBounds_toArray, List.set_cons_zero, List.set_cons_succ]
              apply lex_quiet rfl rfl
              · intro w' hk; go_simp; with_reducible rfl
              simp only [Act.put, List.setIfInBounds_toArray, List.set_cons_zero, List.set_cons_succ]
              apply lex_quiet rfl rfl
              · intro w' hk; go_simp; with_reducible rfl
              simp only [Act.put, List.setIfInBounds_toArray, List.set_cons_zero, List.set_cons_succ]
              apply lex_quiet rfl rfl
              · intro w' hk; go_simp; with_reducible rfl
              simp only [Act.put, List.setIfInBounds_toArray, List.set_cons_zero, List.set_cons_succ]
              apply lex_quiet rfl rfl
              · intro w' hk; go_simp; with_reducible rfl
              simp only [Act.put, List.setIfInBounds_toArray, List.set_cons_zero, List.set_cons_succ]
              apply lex_quiet rfl rfl
              · intro w' hk; go_simp; with_reducible rfl
              simp only [Act.put, List.setIfInBounds_toArray, List.set_cons_zero, List.set_cons_succ]
              apply lex_quiet rfl rfl
              · intro w' hk; go_simp; with_reducible rfl
              simp only [Act.put, List.setIfInBounds_toArray, List.set_cons_zero, List.set_cons_succ]
              apply lex_quiet rfl rfl
              · intro w' hk; go_simp; with_reducible rfl
              simp only [Act.put, List.setIfInBounds_toArray, List.set_cons_zero, List.set_cons_succ]
              apply lex_quiet rfl rfl
              · intro w' hk; go_simp; with_reducible rfl
              simp only [Act.put, List.setIfInBounds_toArray, List.set_cons_zero, List.set_cons_succ]
              apply lex_quiet rfl rfl
              · intro w' hk; go_simp; with_reducible rfl
              simp only [Act.put, List.setIfInBounds_toArray, List.set_cons_zero, List.set_cons_succ]
              apply lex_quiet rfl rfl
              · intro w' hk; go_simp; with_reducible rfl
              simp only [Act.put, List.setIfInBounds_toArray, List.set_cons_zero, List.set_cons_succ]
              apply lex_quiet rfl rfl
              · intro w' hk; go_simp; with_reducible rfl
              simp only [Act.put, List.setIfInBounds_toArray, List.set_cons_zero, List.set_cons_succ]
              refine lex_nil ?_
              intro w9 hk9 _ _
              have HK9 := Lib.hid (HKR.out.trans ((KeepBut.drew _ wr).trans hk9))
              clear hk9 a0 a1 a2 b0 b1 b2
              go_wp2_with fail
              go_ret
              exact ⟨ret_bool HEE.out.symm, HK9.out⟩
            | true =>
              have hk3' : (x.n != y.n) = false := by rw [bne, hk3]; rfl
              have HEE := Lib.hid (show likeB (a.drop (i + 1)) (b.drop (i + 1)) = likeB a b by have := HST.out; rw [hk1, hk2, hk3, Bool.true_and, Bool.true_and, Bool.true_and] at this; exact this)
              clear hk1
              go_upto_region 6 with fail
              refine wp_own0 (by kernel_rfl) (fun i => [[], [], [0, 1], [0, 1, 2], [0, 1, 2, 3], [], [], [5, 6], [5, 6, 7], [5, 6, 7, 8], [0, 1, 2, 3, 4, 5, 6, 7, 8, 9], [0, 1, 2, 3, 4, 5, 6, 7, 8, 9, 10], [0, 1, 2, 3, 4, 5, 6, 7, 8, 9, 10, 11], [0, 1, 2, 3, 4, 5, 6, 7, 8, 9, 10, 11], [0, 1, 2, 3, 4, 5, 6, 7, 8, 9, 10, 11, 12, 13], [0, 1, 2, 3, 4, 5, 6, 7, 8, 9, 10, 11, 12, 13, 14], [0, 1, 2, 3, 4, 5, 6, 7, 8, 9, 10, 11, 12, 13, 14, 15], [0, 1, 2, 3, 4, 5, 6, 7, 8, 9, 10, 11], [0, 1, 2, 3, 4, 5, 6, 7, 8, 9, 10, 11], [0, 1, 2, 3, 4, 5, 6, 7, 8, 9, 10, 11, 17, 18], [0, 1, 2, 3, 4, 5, 6, 7, 8, 9, 10, 11, 17, 18, 19], [0, 1, 2, 3, 4, 5, 6, 7, 8, 9, 10, 11, 17, 18, 19, 20], [0, 1, 2, 3, 4, 5, 6, 7, 8, 9, 10, 11, 12, 13, 14, 15, 16, 17, 18, 19, 20, 21], [0, 1, 2, 3, 4, 5, 6, 7, 8, 9, 10, 11, 12, 13, 14, 15, 16, 17, 18, 19, 20, 21, 22], [0, 1, 2, 3, 4, 5, 6, 7, 8, 9, 10, 11, 12, 13, 14, 15, 16, 17, 18, 19, 20, 21, 22, 23], [0, 1, 2, 3, 4, 5, 6, 7, 8, 9, 10, 11, 12, 13, 14, 15, 16, 17, 18, 19, 20, 21, 22, 23, 24], [0, 1, 2, 3, 4, 5, 6, 7, 8, 9, 10, 11, 12, 13, 14, 15, 16, 17, 18, 19, 20, 21, 22, 23, 24], [0, 1, 2, 3, 4, 5, 6, 7, 8, 9, 10, 11, 12, 13, 14, 15, 16, 17, 18, 19, 20, 21, 22, 23, 24, 25, 26], [0, 1, 2, 3, 4, 5, 6, 7, 8, 9, 10, 11, 12, 13, 14, 15, 16, 17, 18, 19, 20, 21, 22, 23, 24, 25, 26, 27], [0, 1, 2, 3, 4, 5, 6, 7, 8, 9, 10, 11, 12, 13, 14, 15, 16, 17, 18, 19, 20, 21, 22, 23, 24, 25, 26, 27, 28], [0, 1, 2, 3, 4, 5, 6, 7, 8, 9, 10, 11, 12, 13, 14, 15, 16, 17, 18, 19, 20, 21, 22, 23, 24], [0, 1, 2, 3, 4, 5, 6, 7, 8, 9, 10, 11, 12, 13, 14, 15, 16, 17, 18, 19, 20, 21, 22, 23, 24], [0, 1, 2, 3, 4, 5, 6, 7, 8, 9, 10, 11, 12, 13, 14, 15, 16, 17, 18, 19, 20, 21, 22, 23, 24, 30, 31], [0, 1, 2, 3, 4, 5, 6, 7, 8, 9, 10, 11, 12, 13, 14, 15, 16, 17, 18, 19, 20, 21, 22, 23, 24, 30, 31, 32], [0, 1, 2, 3, 4, 5, 6, 7, 8, 9, 10, 11, 12, 13, 14, 15, 16, 17, 18, 19, 20, 21, 22, 23, 24, 30, 31, 32, 33], [0, 1, 2, 3, 4, 5, 6, 7, 8, 9, 10, 11, 12, 13, 14, 15, 16, 17, 18, 19, 20, 21, 22, 23, 24, 25, 26, 27, 28, 29, 30, 31, 32, 33, 34], [0, 1, 2, 3, 4, 5, 6, 7, 8, 9, 10, 11, 12, 13, 14, 15, 16, 17, 18, 19, 20, 21, 22, 23, 24, 25, 26, 27, 28, 29, 30, 31, 32, 33, 34, 35]].getD i []) (fun _ => []) (fun _ => []) [] (by kernel_rfl) (fun _ => none) ?_
              apply lex_quiet rfl rfl
              · intro w' hk; go_simp; with_reducible rfl
              simp only [Act.put, List.setIfInBounds_toArray, List.set_cons_zero, List.set_cons_succ]
              apply lex_quiet rfl rfl
              · intro w' hk; go_simp; with_reducible rfl
              simp only [Act.put, List.setIfInBounds_toArray, List.set_cons_zero, List.set_cons_succ]
              apply lex_quiet rfl rfl
              · intro w' hk; go_simp; with_reducible rfl
              simp only [Act.put, List.setIfInBounds_toArray, List.set_cons_zero, List.set_cons_succ]
              apply lex_quiet rfl rfl
              · intro w' hk; go_simp; with_reducible rfl
              simp only [Act.put, List.setIfInBounds_toArray, List.set_cons_zero, List.set_cons_succ]
              apply lex_quiet rfl rfl
              · intro w' hk; go_simp; with_reducible rfl
              simp only [Act.put, List.setIfInBounds_toArray, List.set_cons_zero, List.set_cons_succ]
              apply lex_quiet rfl rfl
              · intro w' hk; go_simp; with_reducible rfl
              simp only [Act.put, List.setIfInBounds_toArray, List.set_cons_zero, List.set_cons_succ]
              apply lex_quiet rfl rfl
              · intro w' hk; go_simp; with_reducible rfl
              simp only [Act.put, List.setIfInBounds_toArray, List.set_cons_zero, List.set_cons_succ]
              apply lex_quiet rfl rfl
              · intro w' hk; go_simp; with_reducible rfl
              simp only [Act.put, List.setIfInBounds_toArray, List.set_cons_zero, List.set_cons_succ]
              apply lex_quiet rfl rfl
              · intro w' hk; go_simp; with_reducible rfl
              simp only [Act.put, List.setIfInBounds_toArray, List.set_cons_zero, List.set_cons_succ]
              apply lex_quiet rfl rfl
              · intro w' hk; go_simp; with_reducible rfl
              simp only [Act.put, List.setIfInBounds_toArray, List.set_cons_zero, List.set_cons_succ]
              apply lex_quiet rfl rfl
              · intro w' hk; go_simp; with_reducible rfl
              simp only [Act.put, List.setIfInBounds_toArray, List.set_cons_zero, List.set_cons_succ]
              apply lex_quiet rfl rfl
              · intro w' hk; go_simp; with_reducible rfl
              simp only [Act.put, List.setIfInBounds_toArray, List.set_cons_zero, List.set_cons_succ]
              apply lex_quiet rfl rfl
              · intro w' hk; go_simp; with_reducible rfl
              simp only [Act.put, List.setIfInBounds_toArray, List.set_cons_zero, List.set_cons_succ]
              apply lex_quiet rfl rfl
              · intro w' hk; go_simp; with_reducible rfl
              simp only [Act.put, List.setIfInBounds_toArray, List.set_cons_zero, List.set_cons_succ]
              apply lex_quiet rfl rfl
              · intro w' hk; go_simp; with_reducible rfl
              simp only [Act.put, List.setIfInBounds_toArray, List.set_cons_zero, List.set_cons_succ]
              apply lex_quiet rfl rfl
              · intro w' hk; go_simp; with_reducible rfl
              simp only [Act.put, List.setIfInBounds_toArray, List.set_cons_zero, List.set_cons_succ]
              apply lex_quiet rfl rfl
              · intro w' hk; go_simp; with_reducible rfl
              simp only [Act.put, List.setIfInBounds_toArray, List.set_cons_zero, List.set_cons_succ]
              apply lex_quiet rfl rfl
              · intro w' hk; go_simp; with_reducible rfl
              simp only [Act.put, List.setIfInBounds_toArray, List.set_cons_zero, List.set_cons_succ]
              apply lex_quiet rfl rfl
              · intro w' hk; go_simp; with_reducible rfl
              simp only [Act.put, List.setIfInBounds_toArray, List.set_cons_zero, List.set_cons_succ]
              apply lex_quiet rfl rfl
              · intro w' hk; go_simp; with_reducible rfl
              simp only [Act.put, List.setIfInBounds_toArray, List.set_cons_zero, List.set_cons_succ]
              apply lex_quiet rfl rfl
              · intro w' hk; go_simp; with_reducible rfl
              simp only [Act.put, List.setIfInBounds_toArray, List.set_cons_zero, List.set_cons_succ]
              apply lex_quiet rfl rfl
              · intro w' hk; go_simp; with_reducible rfl
              simp only [Act.put, List.setIfInBounds_toArray, List.set_cons_zero, List.set_cons_succ]
              apply lex_quiet rfl rfl
              · intro w' hk; go_simp; with_reducible rfl
              simp only [Act.put, List.setIfInBounds_toArray, List.set_cons_zero, List.set_cons_succ]
              apply lex_quiet rfl rfl
              · intro w' hk; go_simp; with_reducible rfl
              simp only [Act.put, List.setIfInBounds_toArray, List.set_cons_zero, List.set_cons_succ]
              apply lex_quiet rfl rfl
              · intro w' hk; go_simp; with_reducible rfl
              simp only [Act.put, List.setIfInBounds_toArray, List.set_cons_zero, List.set_cons_succ]
              apply lex_quiet rfl rfl
              · intro w' hk; go_simp; with_reducible rfl
              simp only [Act.put, List.setIfInBounds_toArray, List.set_cons_zero, List.set_cons_succ]
              apply lex_quiet rfl rfl
              · intro w' hk; go_simp; with_reducible rfl
              simp only [Act.put, List.setIfInBounds_toArray, List.set_cons_zero, List.set_cons_succ]
              apply lex_quiet rfl rfl
              · intro w' hk; go_simp; with_reducible rfl
              simp only [Act.put, List.setIfInBounds_toArray, List.set_cons_zero, List.set_cons_succ]
              apply lex_quiet rfl rfl
              · intro w' hk; go_simp; with_reducible rfl
              simp only [Act.put, List.setIfInBounds_toArray, List.set_cons_zero, List.set_cons_succ]
              apply lex_quiet rfl rfl
              · intro w' hk; go_simp; with_reducible rfl
              simp only [Act.put, List.setIfInBounds_toArray, List.set_cons_zero, List.set_cons_succ]
              apply lex_quiet rfl rfl
              · intro w' hk; go_simp; with_reducible rfl
              simp only [Act.put, List.setIfInBounds_toArray, List.set_cons_zero, List.set_cons_succ]
              apply lex_quiet rfl rfl
              · intro w' hk; go_simp; with_reducible rfl
              simp only [Act.put, List.setIfInBounds_toArray, List.set_cons_zero, List.set_cons_succ]
              apply lex_quiet rfl rfl
              · intro w' hk; go_simp; with_reducible rfl
              simp only [Act.put, List.setIfInBounds_toArray, List.set_cons_zero, List.set_cons_succ]
              apply lex_quiet rfl rfl
              · intro w' hk; go_simp; with_reducible rfl
              simp only [Act.put, List.setIfInBounds_toArray, List.set_cons_zero, List.set_cons_succ]
              apply lex_quiet rfl rfl
              · intro w' hk; go_simp; with_reducible rfl
              simp only [Act.put, List.setIfInBounds_toArray, List.set_cons_zero, List.set_cons_succ]
              apply lex_quiet rfl rfl
              · intro w' hk; go_simp; with_reducible rfl
              simp only [Act.put, List.setIfInBounds_toArray, List.set_cons_zero, List.set_cons_succ]
              apply lex_quiet rfl rfl
              · intro w' hk; go_simp; with_reducible rfl
              simp only [Act.put, List.setIfInBounds_toArray, List.set_cons_zero, List.set_cons_succ]
              refine lex_nil ?_
              intro w9 hk9 _ _
              have HK9 := Lib.hid (HKR.out.trans ((KeepBut.drew _ wr).trans hk9))
              clear hk9 a0 a1 a2 b0 b1 b2
              go_wp2_with fail
              exact ⟨⟨i + 1, by omega, by simp, HEE.out, HK9.out⟩, by simp only [intOf]; omega⟩
      · have hnl : ¬ (i : Int) < (a.length : Int) := by omega
        have HF := Lib.hid (show likeB a b = true by
          rw [← hlk, List.drop_eq_nil_of_le (by omega), List.drop_eq_nil_of_le (by have := HLN.out; omega)]; rfl)
        have HKR := Lib.hid hkr
        clear hlk hkr
        go_wp2_with fail
        go_ret
        exact ⟨ret_bool HF.out.symm, HKR.out⟩
  · have hne : ((a.length : Int) != (b.length : Int)) = true := by simp; omega
    have HF := Lib.hid (likeB_of_len hlen)
    clear hlen
    go_enter Tryd.func22, Tryd.ntmps22
    go_wp2_with fail
    go_ret
    exact ⟨ret_bool HF.out.symm, KeepBut.refl _ _⟩

set_option maxRecDepth 100000 in
set_option maxHeartbeats 8000000 in
/-- Same of two rows that hold the same tokens -/
theorem same_tok (w : World) (p q : Option Addr) (c d : Nat) (a : List G) (hp : RowG w p a) (hq : RowG w q a) (hl : a.length ≤ 1099511627776) :
    Calls Tryd.prog 18 #[.slice p a.length c, .slice q a.length d] w fun e w' => e = .returned (.bool true) ∧ KeepBut (fun _ => False) w w' := by
  have HP := Lib.hid hp; have HQ := Lib.hid hq
  clear hp hq
  go_enter Tryd.func18, Tryd.ntmps18
  go_wp2_with fail
  go_loopw [5] (fun v5 wr => ∃ i : Nat, i ≤ a.length ∧ v5 = .int .i64 i ∧ KeepBut (fun _ => False) w wr) (fun v _ => a.length - (intOf v).toNat)
  case atStart => exact ⟨0, Nat.zero_le _, rfl, KeepBut.refl _ _⟩
  case round =>
    obtain ⟨i, hi, rfl, hkr⟩ := hrel
    have HKR := Lib.hid hkr
    clear hkr
    by_cases hlt : i < a.length
    · have hlti : (i : Int) < (a.length : Int) := by omega
      have hi0 : (0 : Int) ≤ i := by omega
      obtain ⟨g, o, hg, x0, x1, x2, x3, x4⟩ := HP.out i hlt
      obtain ⟨g', o', hg', y0, y1, y2, y3, y4⟩ := HQ.out i hlt
      obtain ⟨x, hx⟩ : ∃ x, a[i] = x := ⟨_, rfl⟩
      rw [hx] at x0 x1 x2 x3 x4 y0 y1 y2 y3 y4
      have hst : ∀ w', KeepBut (fun _ => False) wr.drew w' → KeepBut (fun _ => False) w w' := fun w' h => HKR.out.trans ((KeepBut.drew _ wr).trans h)
      subst hg hg'
      have a0 : ∀ w', KeepBut (fun _ => False) wr.drew w' → w'.cell? ⟨g, o + i * 5, none⟩ = some (.int .i64 x.k) := fun w' h => (hst w' h).stay x0
      have a1 : ∀ w', KeepBut (fun _ => False) wr.drew w' → w'.cell? ⟨g, o + i * 5 + 1, none⟩ = some (.string x.s) := fun w' h => (hst w' h).stay x1
      have a2 : ∀ w', KeepBut (fun _ => False) wr.drew w' → w'.cell? ⟨g, o + i * 5 + 2, none⟩ = some (.int .i64 x.n) := fun w' h => (hst w' h).stay x2
      have a3 : ∀ w', KeepBut (fun _ => False) wr.drew w' → w'.cell? ⟨g, o + i * 5 + 3, none⟩ = some (.int .i64 x.l) := fun w' h => (hst w' h).stay x3
      have a4 : ∀ w', KeepBut (fun _ => False) wr.drew w' → w'.cell? ⟨g, o + i * 5 + 4, none⟩ = some (.int .i64 x.c) := fun w' h => (hst w' h).stay x4
      have b0 : ∀ w', KeepBut (fun _ => False) wr.drew w' → w'.cell? ⟨g', o' + i * 5, none⟩ = some (.int .i64 x.k) := fun w' h => (hst w' h).stay y0
      have b1 : ∀ w', KeepBut (fun _ => False) wr.drew w' → w'.cell? ⟨g', o' + i * 5 + 1, none⟩ = some (.string x.s) := fun w' h => (hst w' h).stay y1
      have b2 : ∀ w', KeepBut (fun _ => False) wr.drew w' → w'.cell? ⟨g', o' + i * 5 + 2, none⟩ = some (.int .i64 x.n) := fun w' h => (hst w' h).stay y2
      have b3 : ∀ w', KeepBut (fun _ => False) wr.drew w' → w'.cell? ⟨g', o' + i * 5 + 3, none⟩ = some (.int .i64 x.l) := fun w' h => (hst w' h).stay y3
      have b4 : ∀ w', KeepBut (fun _ => False) wr.drew w' → w'.cell? ⟨g', o' + i * 5 + 4, none⟩ = some (.int .i64 x.c) := fun w' h => (hst w' h).stay y4
      clear hx x0 x1 x2 x3 x4 y0 y1 y2 y3 y4 hst
      have hWi : IntKind.i64.wrap ((i : Int) + 1) = (i : Int) + 1 := IntWalk.i64_in _ (by omega)
      have u0 := eqT; have u2 := guardT
      go_upto_region 6 with fail
      refine wp_own0 (by kernel_rfl) (fun i => [[], [], [0, 1], [0, 1, 2], [], [], [4, 5], [4, 5, 6], [0, 1, 2, 3, 4, 5, 6, 7]].getD i []) (fun _ => []) (fun _ => []) [] (by kernel_rfl) (fun _ => none) ?_
      apply lex_quiet rfl rfl
      · intro w' hk; go_simp; with_reducible rfl
      simp only [Act.put, List.setIfInBounds_toArray, List.set_cons_zero, List.set_cons_succ]
      apply lex_quiet rfl rfl
      · intro w' hk; go_simp; with_reducible rfl
      simp only [Act.put, List.setIfInBounds_toArray, List.set_cons_zero, List.set_cons_succ]
      apply lex_quiet rfl rfl
      · intro w' hk; go_simp; with_reducible rfl
      simp only [Act.put, List.setIfInBounds_toArray, List.set_cons_zero, List.set_cons_succ]
      apply lex_quiet rfl rfl
      · intro w' hk; go_simp; with_reducible rfl
      simp only [Act.put, List.setIfInBounds_toArray, List.set_cons_zero, List.set_cons_succ]
      apply lex_quiet rfl rfl
      · intro w' hk; go_simp; with_reducible rfl
      simp only [Act.put, List.setIfInBounds_toArray, List.set_cons_zero, List.set_cons_succ]
      apply lex_quiet rfl rfl
      · intro w' hk; go_simp; with_reducible rfl
      simp only [Act.put, List.setIfInBounds_toArray, List.set_cons_zero, List.set_cons_succ]
      apply lex_quiet rfl rfl
      · intro w' hk; go_simp; with_reducible rfl
      simp only [Act.put, List.setIfInBounds_toArray, List.set_cons_zero, List.set_cons_succ]
      apply lex_quiet rfl rfl
      · intro w' hk; go_simp; with_reducible rfl
      simp only [Act.put, List.setIfInBounds_toArray, List.set_cons_zero, List.set_cons_succ]
      apply lex_quiet rfl rfl
      · intro w' hk; go_simp; with_reducible rfl
      simp only [Act.put, List.setIfInBounds_toArray, List.set_cons_zero, List.set_cons_succ]
      refine lex_nil ?_
      intro w9 hk9 _ _
      have HK9 := Lib.hid (HKR.out.trans ((KeepBut.drew _ wr).trans hk9))
      clear hk9 a0 a1 a2 a3 a4 b0 b1 b2 b3 b4
      go_wp2_with fail
      exact ⟨⟨i + 1, by omega, by simp, HK9.out⟩, by simp only [intOf]; omega⟩
    · have hnl : ¬ (i : Int) < (a.length : Int) := by omega
      go_wp2_with fail
      go_ret
      exact ⟨rfl, HKR.out⟩

end Go.Proofs.YtmklmlocldbaoaaDoor
