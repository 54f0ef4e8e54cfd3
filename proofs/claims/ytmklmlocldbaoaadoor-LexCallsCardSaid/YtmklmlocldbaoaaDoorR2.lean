/-
  package fencepostref16: number, signs, sign.
-/
import Derived.Test.YtmklmlocldbaoaaDoorR1
namespace Go.Proofs.YtmklmlocldbaoaaDoor
open Go Go.RowKit Own

theorem tw_all {p : UInt8 → Bool} : ∀ l : List UInt8, (∀ x ∈ l, p x = true) → l.takeWhile p = l
  | [], _ => rfl
  | a :: l, h => by rw [takeWhile_pos (h a List.mem_cons_self), tw_all l fun x hx => h x (List.mem_cons_of_mem _ hx)]

set_option maxRecDepth 100000 in
set_option maxHeartbeats 4000000 in
theorem rnumber_any (s : ByteArray) (c : UInt8) (r : List UInt8) (hs : s.data.toList = c :: r) (hd : ∀ x ∈ s.data.toList, digitB x = true) (hsz : s.size ≤ 1099511627776) (w : World) :
    Calls Tryd.prog 49 #[.string s] w fun e w' => e = .returned (.tuple #[tokV (numT s.data.toList).1 0 0, .int .i64 (numT s.data.toList).2]) ∧ KeepBut (fun _ => False) w w' := by
  obtain ⟨tx, htx⟩ : ∃ tx, s.data.toList = tx := ⟨_, rfl⟩
  have hsl : tx.length = s.size := by rw [← htx]; simp
  have hn : numT tx = if 1 < s.size ∧ c = 48 then (Tok.zero, 9) else if 9223372036854775807 < val10 tx then (Tok.zero, 3) else (⟨3, tx, val10 tx⟩, 0) := by
    unfold numT
    rw [tw_all tx (by rw [← htx]; exact hd), hsl, ← htx, hs]
    simp
  have HE := Lib.hid hn
  have HSS := Lib.hid (show s = ⟨tx.toArray⟩ by rw [← htx])
  have HTX := Lib.hid (show ∀ x ∈ tx, 48 ≤ x.toNat ∧ x.toNat ≤ 57 from fun x hx => by
    have := hd x (by rw [htx]; exact hx)
    simpa [digitB] using this)
  have hz : ∀ h : 0 < s.size, (s[0]'h).toNat = c.toNat := byte_at hs rfl
  have hzz : 0 < s.size := by rw [← hsl, ← htx, hs]; simp
  have hz0 := hz hzz
  rw [htx]
  obtain ⟨W0, B, hW0, hB, hb, hk0, hs0⟩ := fresh_block w (.cells #[.int .i64 0, .string ⟨#[]⟩, .int .i64 0, .int .i64 0, .int .i64 0] 30)
  have HB := Lib.hid hb; have HK := Lib.hid hk0
  have HN := Lib.hid (show w.heap.size = B ∧ B < W0.heap.size by omega)
  have HSL := Lib.hid hsl; have HTXE := Lib.hid htx
  clear hn hb hk0 hs0 hd hs htx hsl hz
  go_enter Tryd.func49, Tryd.ntmps49
  go_upto_region 1 with fail
  rw [← hW0, ← hB]
  clear hW0 hB
  obtain ⟨q, hq⟩ : ∃ q, decide (1 < s.size ∧ c = 48) = q := ⟨_, rfl⟩
  have HQ := Lib.hid hq
  clear hq
  go_cut [14] from 7 to 14 (fun v14 wx => v14 = .bool q ∧ wx = W0)
  case first =>
    by_cases h1 : 1 < s.size
    · have h1i : (1 : Int) < (s.size : Int) := by omega
      have hzi : (0 : Int) < (s.size : Int) := by omega
      have e1 : ((c.toNat : Int) == 48) = q := by
        rw [← HQ.out, show ((c.toNat : Int) == 48) = (c.toNat == 48) from byte_beq c 48 (by decide), Bool.eq_iff_iff]
        simp only [h1, true_and, decide_eq_true_eq, beq_iff_eq]
        exact ⟨fun h => UInt8.toNat_inj.1 h, fun h => by rw [h]; rfl⟩
      go_wp2_with fail
      go_meet
      case rel => exact ⟨rfl, rfl⟩
    · have h1i : ¬ (1 : Int) < (s.size : Int) := by omega
      have e1 : q = false := by rw [← HQ.out]; simp [h1]
      go_wp2_with fail
      go_meet
      case rel => exact ⟨by rw [e1], rfl⟩
  case rest =>
    obtain ⟨rfl, hww⟩ := hcut
    have hww := hww.symm
    subst hww
    clear hz0
    cases q with
    | true =>
      obtain ⟨n0, n1', n2, n3, n4, f0, f1, f2, f3, f4⟩ := blk5 HB.out
      go_wp2_with fail
      obtain ⟨wf, hwf, hp, hkp⟩ := put5 HB.out (.int .i64 0) (.string ⟨#[]⟩) (.int .i64 0) (.int .i64 0) (.int .i64 0)
      rw [← hwf]
      obtain ⟨c0, c1, c2, c3, c4, -⟩ := blk5 hp
      refine bodyPost_ret (v := .tuple #[.agg #[.int .i64 0, .string ⟨#[]⟩, .int .i64 0, .int .i64 0, .int .i64 0], .int .i64 9]) (by simp [results, Tryd.results49, go_sem, c0, c1, c2, c3, c4]) rfl ⟨by rw [HE.out, if_pos (of_decide_eq_true HQ.out)]; rfl, ?_⟩
      exact HK.out.new hkp fun k e => by have h2 : k = B := e; have := HN.out; omega
    | false =>
      go_upto_block 0 with fail
      go_wp2_with fail
      go_loopw [4, 5] (fun v4 v5 wr => ∃ i : Nat, i ≤ s.size ∧ v5 = .int .i64 i ∧ v4 = .int .i64 (val10 (tx.take i) : Nat) ∧ val10 (tx.take i) ≤ 9223372036854775807 ∧ wr = W0) (fun _ v _ => s.size - (intOf v).toNat)
      case atStart => exact ⟨0, Nat.zero_le _, rfl, rfl, by simp [val10], rfl⟩
      case round =>
        obtain ⟨i, hi, rfl, rfl, hvi, hwr⟩ := hrel
        have hwr := hwr.symm
        subst hwr
        have HVi := Lib.hid hvi
        by_cases hlt : i < s.size
        · have hlti : (i : Int) < (s.size : Int) := by omega
          have hi0 : (0 : Int) ≤ (i : Int) := by omega
          have hil : i < tx.length := by rw [HSL.out]; exact hlt
          obtain ⟨d0, hd0, hz⟩ := byte_in hlt
          rw [HTXE.out, List.getElem?_eq_getElem hil] at hd0
          cases hd0
          obtain ⟨b, hb⟩ : ∃ b : Nat, (tx[i]'hil).toNat = b := ⟨_, rfl⟩
          have hbr : 48 ≤ b ∧ b ≤ 57 := by rw [← hb]; exact HTX.out _ (List.getElem_mem _)
          have hst : val10 (tx.take (i + 1)) = 10 * val10 (tx.take i) + (b - 48) := by rw [val10_step tx i hil, hb]
          have hle : val10 (tx.take (i + 1)) ≤ val10 tx := val10_take _ _
          replace hz := hz hlt
          rw [hb] at hz
          obtain ⟨d, hd'⟩ : ∃ d : Nat, b - 48 = d := ⟨_, rfl⟩
          have hw1 : IntKind.u8.wrap ((b : Int) - 48) = (d : Int) := by
            have e : (b : Int) - 48 = (d : Int) := by omega
            rw [e]; exact u8_in (by omega)
          have hw2 : IntKind.i64.wrap (d : Int) = d := IntWalk.i64_in _ (by omega)
          have hw3 : IntKind.i64.wrap (9223372036854775807 - (d : Int)) = 9223372036854775807 - (d : Int) := IntWalk.i64_in _ (by omega)
          have hWi : IntKind.i64.wrap ((i : Int) + 1) = ((i + 1 : Nat) : Int) := by rw [IntWalk.i64_in _ (by omega)]; omega
          obtain ⟨vv, hvv⟩ : ∃ vv, val10 (tx.take i) = vv := ⟨_, rfl⟩
          rw [hvv] at hst hvi ⊢
          rw [hd'] at hst
          have HST := Lib.hid hst; have HLE := Lib.hid hle
          clear hle hb hil hvv
          by_cases hof : 9223372036854775807 < 10 * vv + d
          · clear hst hvi
            have htest : (9223372036854775807 - (d : Int)) / 10 < (vv : Int) := by omega
            obtain ⟨n0, n1', n2, n3, n4, f0, f1, f2, f3, f4⟩ := blk5 HB.out
            have HOF := Lib.hid (show 9223372036854775807 < val10 tx by have := HST.out; have := HLE.out; omega)
            clear hof
            go_wp2_with fail
            obtain ⟨wf, hwf, hp, hkp⟩ := put5 HB.out (.int .i64 0) (.string ⟨#[]⟩) (.int .i64 0) (.int .i64 0) (.int .i64 0)
            rw [← hwf]
            obtain ⟨c0, c1, c2, c3, c4, -⟩ := blk5 hp
            refine bodyPost_ret (v := .tuple #[.agg #[.int .i64 0, .string ⟨#[]⟩, .int .i64 0, .int .i64 0, .int .i64 0], .int .i64 3]) (by simp [results, Tryd.results49, go_sem, c0, c1, c2, c3, c4]) rfl ⟨?_, ?_⟩
            · rw [HE.out, if_neg (of_decide_eq_false HQ.out), if_pos HOF.out]
              rfl
            · exact HK.out.new hkp fun k e => by have h2 : k = B := e; have := HN.out; omega
          · clear hst
            have htest : ¬ (9223372036854775807 - (d : Int)) / 10 < (vv : Int) := by omega
            have hWm : IntKind.i64.wrap (10 * (vv : Int)) = 10 * (vv : Int) := IntWalk.i64_in _ (by omega)
            have hWa : IntKind.i64.wrap (10 * (vv : Int) + (d : Int)) = ((10 * vv + d : Nat) : Int) := by rw [IntWalk.i64_in _ (by omega)]; omega
            go_wp2_with fail
            refine ⟨⟨i + 1, by omega, by simp, ?_, by rw [HST.out]; omega, by trivial⟩, by simp only [intOf]; omega⟩
            rw [HST.out]
            first | rfl | (congr 1; omega) | simp
        · have hnl : ¬ (i : Int) < (s.size : Int) := by omega
          have HMI := Lib.hid (show i = s.size by omega)
          obtain ⟨n0, n1', n2, n3, n4, f0, f1, f2, f3, f4⟩ := blk5 HB.out
          go_wp2_with fail
          obtain ⟨wf, hwf, hp, hkp⟩ := put5 HB.out (.int .i64 3) (.string s) (.int .i64 (val10 (tx.take i) : Nat)) (.int .i64 0) (.int .i64 0)
          rw [← hwf]
          obtain ⟨c0, c1, c2, c3, c4, -⟩ := blk5 hp
          have htk : tx.take i = tx := by rw [List.take_of_length_le]; have := HSL.out; have := HMI.out; omega
          refine bodyPost_ret (v := .tuple #[.agg #[.int .i64 3, .string s, .int .i64 (val10 (tx.take i) : Nat), .int .i64 0, .int .i64 0], .int .i64 0]) (by simp [results, Tryd.results49, go_sem, c0, c1, c2, c3, c4]) rfl ⟨?_, ?_⟩
          · rw [HE.out, if_neg (of_decide_eq_false HQ.out), if_neg (by have := HVi.out; rw [htk] at this; omega), htk, HSS.out]
            rfl
          · exact HK.out.new hkp fun k e => by have h2 : k = B := e; have := HN.out; omega

def signsR : List (List UInt8) := [[61, 61], [33, 61], [60, 61], [62, 61], [43], [45], [42], [47], [37], [40], [41], [123], [125], [91], [93], [59], [44], [61], [60], [62], [33], [38], [124]]
def signP (l x : List UInt8) : Bool := decide (x.length ≤ l.length) && decide (l.take x.length = x)
def rsignL (l : List UInt8) : List UInt8 := (signsR.find? (signP l)).getD []

theorem rsigns_any (w : World) :
    Calls Tryd.prog 58 #[] w fun e w' => e = .returned (.slice (some ⟨w.heap.size, 0, none⟩) 23 23) ∧ w' = w.alloc (.cells (signsR.map fun l => Value.string ⟨l.toArray⟩).toArray 9) := by
  go_enter Tryd.func58, Tryd.ntmps58
  go_wp2
  go_ret
  exact ⟨rfl, rfl⟩

theorem find_at {l : List UInt8} {i : Nat} (h : i < 23) (hno : ∀ j (h : j < 23), j < i → signP l (signsR[j]'h) = false) (hi : signP l (signsR[i]'h) = true) : rsignL l = signsR[i]'h := by
  have e : signsR.find? (signP l) = some (signsR[i]'h) := List.find?_eq_some_iff_getElem.2 ⟨hi, i, h, rfl, fun j hj => by
    have e := hno j (Nat.lt_trans hj h) hj
    show (!signP l (signsR[j]'(Nat.lt_trans hj h))) = true
    rw [e]; rfl⟩
  unfold rsignL
  rw [e]
  rfl
theorem find_no {l : List UInt8} (hno : ∀ j (h : j < 23), signP l (signsR[j]'h) = false) : rsignL l = [] := by
  have e : signsR.find? (signP l) = none := List.find?_eq_none.2 fun x hx => by
    obtain ⟨j, hj, rfl⟩ := List.getElem_of_mem hx
    rw [hno j hj]; exact Bool.false_ne_true
  unfold rsignL
  rw [e]
  rfl

set_option maxRecDepth 100000 in
set_option maxHeartbeats 8000000 in
theorem rsign_any (s : ByteArray) (w : World) (hsz : s.size ≤ 1099511627776) :
    Calls Tryd.prog 50 #[.string s] w fun e w' => e = .returned (.string ⟨(rsignL s.data.toList).toArray⟩) ∧ KeepBut (fun _ => False) w w' := by
  have hR := Lib.hid (rsigns_any w)
  obtain ⟨W, hW⟩ : ∃ W, w.alloc (.cells (signsR.map fun l => Value.string ⟨l.toArray⟩).toArray 9) = W := ⟨_, rfl⟩
  have HK := Lib.hid (show KeepBut (fun _ => False) w W by rw [← hW]; exact KeepBut.alloc _ _ _)
  have HC := Lib.hid (show ∀ j (h : j < 23), W.cell? ⟨w.heap.size, j, none⟩ = some (.string ⟨(signsR[j]'h).toArray⟩) from fun j h => by
    rw [← hW]
    refine blk_cell (heap_alloc_new w _) ?_
    simp [show j < signsR.length from h]
    rfl)
  rw [hW] at hR
  obtain ⟨L, hL⟩ : ∃ L, s.data.toList = L := ⟨_, rfl⟩
  have hsl : L.length = s.size := by rw [← hL]; simp
  have HL := Lib.hid hL; have HSL := Lib.hid hsl
  rw [hL]
  clear hW hL hsl
  go_enter Tryd.func50, Tryd.ntmps50
  go_wp2_with (go_at_call 58; refine hR.out.mono ?_; rintro e w' ⟨rfl, hw⟩; have hw := hw.symm; subst hw)
  go_loopw [4] (fun v4 wr => ∃ i : Nat, v4 = .int .i64 i ∧ i ≤ 23 ∧ (∀ j (h : j < 23), j < i → signP L (signsR[j]'h) = false) ∧ KeepBut (fun _ => False) W wr) (fun v4 _ => 23 - (intOf v4).toNat)
  case atStart => exact ⟨0, rfl, by decide, fun j _ h => absurd h (Nat.not_lt_zero _), KeepBut.refl _ _⟩
  case round =>
    obtain ⟨i, rfl, hi, hno, hkr⟩ := hrel
    have HNO := Lib.hid hno; have HKR := Lib.hid hkr
    clear hno hkr
    by_cases hlt : i < 23
    · have hlti : (i : Int) < 23 := by omega
      have hi0 : (0 : Int) ≤ i := by omega
      have hc := HC.out i hlt
      obtain ⟨X, hX⟩ : ∃ X : ByteArray, (⟨(signsR[i]'hlt).toArray⟩ : ByteArray) = X := ⟨_, rfl⟩
      have hXd : X.data.toList = signsR[i]'hlt := by rw [← hX]
      have hXs : X.size = (signsR[i]'hlt).length := by rw [← hX]; rfl
      rw [hX] at hc
      have HXX := Lib.hid hX
      have hXn : X.size ≤ 2 := by
        rw [hXs]
        have : ∀ x ∈ signsR, x.length ≤ 2 := by decide
        exact this _ (List.getElem_mem hlt)
      have hst : ∀ w', KeepBut (fun _ => False) wr.drew w' → KeepBut (fun _ => False) W w' := fun w' h => HKR.out.trans ((KeepBut.drew _ wr).trans h)
      have y1 : ∀ w', KeepBut (fun _ => False) wr.drew w' → w'.cell? ⟨w.heap.size, i, none⟩ = some (.string X) := fun w' h => (hst w' h).stay hc
      have HCW := Lib.hid hc
      clear hX hc
      by_cases hle : X.size ≤ s.size
      · have hlei : (X.size : Int) ≤ (s.size : Int) := by omega
        have hX0 : (0 : Int) ≤ (X.size : Int) := by omega
        have hSl : ∀ w' : World, (Instr.slice 9 (.string s) none (some (.int .i64 (X.size : Int))) none).run Tryd.prog w' = .ok (.string (s.extract 0 X.size)) w' := fun w' => by
          rw [run_slice_string_h w' 9 s Tryd.underlying9 .i64 (X.size : Int) hX0 hlei]
          congr 3
        have hb := str_beq (s.extract 0 X.size) X
        have hxl : (s.extract 0 X.size).data.toList = L.take X.size := by rw [extract_take]; simp [HL.out]
        rw [hxl, hXd, hXs] at hb
        have hsp : signP L (signsR[i]'hlt) = decide (L.take (signsR[i]'hlt).length = signsR[i]'hlt) := by
          unfold signP
          rw [decide_eq_true (show (signsR[i]'hlt).length ≤ L.length by rw [HSL.out, ← hXs]; exact hle), Bool.true_and]
        rw [← hsp, ← hXs] at hb
        clear hxl hXd hXs hsp
        cases he : signP L (signsR[i]'hlt) with
        | true =>
          rw [he] at hb
          have HE := Lib.hid (find_at hlt HNO.out he)
          clear he
          go_upto_region 5 with fail
          refine wp_own0 (by kernel_rfl) (fun i => [[], [0], [], [], [2, 3], [2, 3, 4], [2, 3, 4, 5], [0, 1, 2, 3, 4, 5, 6], [0, 1, 2, 3, 4, 5, 6, 7], [0, 1, 2, 3, 4, 5, 6, 7, 8], [0, 1, 2, 3, 4, 5, 6, 7, 8], [0, 1, 2, 3, 4, 5, 6, 7, 8], [0, 1, 2, 3, 4, 5, 6, 7, 8, 10, 11], [0, 1, 2, 3, 4, 5, 6, 7, 8, 10, 11, 12], [0, 1, 2, 3, 4, 5, 6, 7, 8, 10, 11, 12, 13], [0, 1, 2, 3, 4, 5, 6, 7, 8, 9, 10, 11, 12, 13, 14], [0, 1, 2, 3, 4, 5, 6, 7, 8], [0, 1, 2, 3, 4, 5, 6, 7, 8], [0, 1, 2, 3, 4, 5, 6, 7, 8, 16, 17], [0, 1, 2, 3, 4, 5, 6, 7, 8, 16, 17, 18], [0, 1, 2, 3, 4, 5, 6, 7, 8, 9, 10, 11, 12, 13, 14, 15, 16, 17, 18, 19], [0, 1, 2, 3, 4, 5, 6, 7, 8, 9, 10, 11, 12, 13, 14, 15, 16, 17, 18, 19, 20]].getD i []) (fun _ => []) (fun _ => []) [] (by kernel_rfl) (fun _ => none) ?_
          apply lex_quiet rfl rfl
          · intro w' hk; go_simp; with_reducible rfl
          simp only [Act.put, List.setIfInBounds_toArray, List.set_cons_zero, List.set_cons_succ]
          apply lex_quiet rfl rfl
          · intro w' hk; go_simp; with_reducible rfl
          simp only [Act.put, List.setIfInBounds_toArray, List.set_cons_zero, List.set_cons_succ]
          apply lex_quiet rfl rfl
          · intro w' hk; go_simp; with_reducible rfl
          simp only [Act.put, List.setIfInBounds_toArray, List.set_cons_zero, List.set_cons_succ]
          apply lex_quiet rfl rfl
          · intro w' hk; go_simp; with_reducible rfl
          simp only [Act.put, List.setIfInBounds_toArray, List.set_cons_zero, List.set_cons_succ]
          apply lex_quiet rfl rfl
          · intro w' hk; go_simp; with_reducible rfl
          simp only [Act.put, List.setIfInBounds_toArray, List.set_cons_zero, List.set_cons_succ]
          apply lex_quiet rfl rfl
          · intro w' hk; go_simp; with_reducible rfl
          simp only [Act.put, List.setIfInBounds_toArray, List.set_cons_zero, List.set_cons_succ]
          apply lex_quiet rfl rfl
          · intro w' hk; go_simp; with_reducible rfl
          simp only [Act.put, List.setIfInBounds_toArray, List.set_cons_zero, List.set_cons_succ]
          apply lex_quiet rfl rfl
          · intro w' hk; go_simp; with_reducible rfl
          simp only [Act.put, List.setIfInBounds_toArray, List.set_cons_zero, List.set_cons_succ]
          apply lex_quiet rfl rfl
          · intro w' hk; go_simp; with_reducible rfl
          simp only [Act.put, List.setIfInBounds_toArray, List.set_cons_zero, List.set_cons_succ]
          apply lex_quiet rfl rfl
          · intro w' hk; go_simp; with_reducible rfl
          simp only [Act.put, List.setIfInBounds_toArray, List.set_cons_zero, List.set_cons_succ]
          apply lex_quiet rfl rfl
          · intro w' hk; go_simp; with_reducible rfl
          simp only [Act.put, List.setIfInBounds_toArray, List.set_cons_zero, List.set_cons_succ]
          apply lex_quiet rfl rfl
          · intro w' hk; go_simp; with_reducible rfl
          simp only [Act.put, List.setIfInBounds_toArray, List.set_cons_zero, List.set_cons_succ]
          apply lex_quiet rfl rfl
          · intro w' hk; go_simp; with_reducible rfl
          simp only [Act.put, List.setIfInBounds_toArray, List.set_cons_zero, List.set_cons_succ]
          apply lex_quiet rfl rfl
          · intro w' hk; go_simp; with_reducible rfl
          simp only [Act.put, List.setIfInBounds_toArray, List.set_cons_zero, List.set_cons_succ]
          apply lex_quiet rfl rfl
          · intro w' hk; go_simp; with_reducible rfl
          simp only [Act.put, List.setIfInBounds_toArray, List.set_cons_zero, List.set_cons_succ]
          apply lex_quiet rfl rfl
          · intro w' hk; go_simp; with_reducible rfl
          simp only [Act.put, List.setIfInBounds_toArray, List.set_cons_zero, List.set_cons_succ]
          apply lex_quiet rfl rfl
          · intro w' hk; go_simp; with_reducible rfl
          simp only [Act.put, List.setIfInBounds_toArray, List.set_cons_zero, List.set_cons_succ]
          apply lex_quiet rfl rfl
          · intro w' hk; go_simp; with_reducible rfl
          simp only [Act.put, List.setIfInBounds_toArray, List.set_cons_zero, List.set_cons_succ]
          apply lex_quiet rfl rfl
          · intro w' hk; go_simp; with_reducible rfl
          simp only [Act.put, List.setIfInBounds_toArray, List.set_cons_zero, List.set_cons_succ]
          apply lex_quiet rfl rfl
          · intro w' hk; go_simp; with_reducible rfl
          simp only [Act.put, List.setIfInBounds_toArray, List.set_cons_zero, List.set_cons_succ]
          apply lex_quiet rfl rfl
          · intro w' hk; go_simp; with_reducible rfl
          simp only [Act.put, List.setIfInBounds_toArray, List.set_cons_zero, List.set_cons_succ]
          apply lex_quiet rfl rfl
          · intro w' hk; go_simp; with_reducible rfl
          simp only [Act.put, List.setIfInBounds_toArray, List.set_cons_zero, List.set_cons_succ]
          refine lex_nil ?_
          intro w9 hk9 _ _
          have HK9 := Lib.hid (HKR.out.trans ((KeepBut.drew _ wr).trans hk9))
          have z1 := HK9.out.stay HCW.out
          clear hk9 y1
          go_wp2_with fail
          go_ret
          exact ⟨by rw [HE.out, HXX.out]; rfl, HK.out.trans HK9.out⟩
        | false =>
          rw [he] at hb
          have HE := Lib.hid he
          clear he
          go_upto_region 5 with fail
          refine wp_own0 (by kernel_rfl) (fun i => [[], [0], [], [], [2, 3], [2, 3, 4], [2, 3, 4, 5], [0, 1, 2, 3, 4, 5, 6], [0, 1, 2, 3, 4, 5, 6, 7], [0, 1, 2, 3, 4, 5, 6, 7, 8], [0, 1, 2, 3, 4, 5, 6, 7, 8], [0, 1, 2, 3, 4, 5, 6, 7, 8], [0, 1, 2, 3, 4, 5, 6, 7, 8, 10, 11], [0, 1, 2, 3, 4, 5, 6, 7, 8, 10, 11, 12], [0, 1, 2, 3, 4, 5, 6, 7, 8, 10, 11, 12, 13], [0, 1, 2, 3, 4, 5, 6, 7, 8, 9, 10, 11, 12, 13, 14], [0, 1, 2, 3, 4, 5, 6, 7, 8], [0, 1, 2, 3, 4, 5, 6, 7, 8], [0, 1, 2, 3, 4, 5, 6, 7, 8, 16, 17], [0, 1, 2, 3, 4, 5, 6, 7, 8, 16, 17, 18], [0, 1, 2, 3, 4, 5, 6, 7, 8, 9, 10, 11, 12, 13, 14, 15, 16, 17, 18, 19], [0, 1, 2, 3, 4, 5, 6, 7, 8, 9, 10, 11, 12, 13, 14, 15, 16, 17, 18, 19, 20]].getD i []) (fun _ => []) (fun _ => []) [] (by kernel_rfl) (fun _ => none) ?_
          apply lex_quiet rfl rfl
          · intro w' hk; go_simp; with_reducible rfl
          simp only [Act.put, List.setIfInBounds_toArray, List.set_cons_zero, List.set_cons_succ]
          apply lex_quiet rfl rfl
          · intro w' hk; go_simp; with_reducible rfl
          simp only [Act.put, List.setIfInBounds_toArray, List.set_cons_zero, List.set_cons_succ]
          apply lex_quiet rfl rfl
          · intro w' hk; go_simp; with_reducible rfl
          simp only [Act.put, List.setIfInBounds_toArray, List.set_cons_zero, List.set_cons_succ]
          apply lex_quiet rfl rfl
          · intro w' hk; go_simp; with_reducible rfl
          simp only [Act.put, List.setIfInBounds_toArray, List.set_cons_zero, List.set_cons_succ]
          apply lex_quiet rfl rfl
          · intro w' hk; go_simp; with_reducible rfl
          simp only [Act.put, List.setIfInBounds_toArray, List.set_cons_zero, List.set_cons_succ]
          apply lex_quiet rfl rfl
          · intro w' hk; go_simp; with_reducible rfl
          simp only [Act.put, List.setIfInBounds_toArray, List.set_cons_zero, List.set_cons_succ]
          apply lex_quiet rfl rfl
          · intro w' hk; go_simp; with_reducible rfl
          simp only [Act.put, List.setIfInBounds_toArray, List.set_cons_zero, List.set_cons_succ]
          apply lex_quiet rfl rfl
          · intro w' hk; go_simp; with_reducible rfl
          simp only [Act.put, List.setIfInBounds_toArray, List.set_cons_zero, List.set_cons_succ]
          apply lex_quiet rfl rfl
          · intro w' hk; go_simp; with_reducible rfl
          simp only [Act.put, List.setIfInBounds_toArray, List.set_cons_zero, List.set_cons_succ]
          apply lex_quiet rfl rfl
          · intro w' hk; go_simp; with_reducible rfl
          simp only [Act.put, List.setIfInBounds_toArray, List.set_cons_zero, List.set_cons_succ]
          apply lex_quiet rfl rfl
          · intro w' hk; go_simp; with_reducible rfl
          simp only [Act.put, List.setIfInBounds_toArray, List.set_cons_zero, List.set_cons_succ]
          apply lex_quiet rfl rfl
          · intro w' hk; go_simp; with_reducible rfl
          simp only [Act.put, List.setIfInBounds_toArray, List.set_cons_zero, List.set_cons_succ]
          apply lex_quiet rfl rfl
          · intro w' hk; go_simp; with_reducible rfl
          simp only [Act.put, List.setIfInBounds_toArray, List.set_cons_zero, List.set_cons_succ]
          apply lex_quiet rfl rfl
          · intro w' hk; go_simp; with_reducible rfl
          simp only [Act.put, List.setIfInBounds_toArray, List.set_cons_zero, List.set_cons_succ]
          apply lex_quiet rfl rfl
          · intro w' hk; go_simp; with_reducible rfl
          simp only [Act.put, List.setIfInBounds_toArray, List.set_cons_zero, List.set_cons_succ]
          apply lex_quiet rfl rfl
          · intro w' hk; go_simp; with_reducible rfl
          simp only [Act.put, List.setIfInBounds_toArray, List.set_cons_zero, List.set_cons_succ]
          apply lex_quiet rfl rfl
          · intro w' hk; go_simp; with_reducible rfl
          simp only [Act.put, List.setIfInBounds_toArray, List.set_cons_zero, List.set_cons_succ]
          apply lex_quiet rfl rfl
          · intro w' hk; go_simp; with_reducible rfl
          simp only [Act.put, List.setIfInBounds_toArray, List.set_cons_zero, List.set_cons_succ]
          apply lex_quiet rfl rfl
          · intro w' hk; go_simp; with_reducible rfl
          simp only [Act.put, List.setIfInBounds_toArray, List.set_cons_zero, List.set_cons_succ]
          apply lex_quiet rfl rfl
          · intro w' hk; go_simp; with_reducible rfl
          simp only [Act.put, List.setIfInBounds_toArray, List.set_cons_zero, List.set_cons_succ]
          apply lex_quiet rfl rfl
          · intro w' hk; go_simp; with_reducible rfl
          simp only [Act.put, List.setIfInBounds_toArray, List.set_cons_zero, List.set_cons_succ]
          apply lex_quiet rfl rfl
          · intro w' hk; go_simp; with_reducible rfl
          simp only [Act.put, List.setIfInBounds_toArray, List.set_cons_zero, List.set_cons_succ]
          refine lex_nil ?_
          intro w9 hk9 _ _
          have HK9 := Lib.hid (HKR.out.trans ((KeepBut.drew _ wr).trans hk9))
          clear hk9 y1
          go_wp2_with fail
          exact ⟨⟨i + 1, by simp, by omega, fun j h hj => by
            by_cases e : j = i
            · subst e; exact HE.out
            · exact HNO.out j h (by omega), HK9.out⟩, by simp only [intOf]; omega⟩
      · have hlei : ¬ (X.size : Int) ≤ (s.size : Int) := by omega
        have HE := Lib.hid (show signP L (signsR[i]'hlt) = false by
          unfold signP
          rw [decide_eq_false (by rw [HSL.out, ← hXs]; exact hle), Bool.false_and])
        clear hXd hXs
        go_upto_region 5 with fail
        refine wp_own0 (by kernel_rfl) (fun i => [[], [0], [], [], [2, 3], [2, 3, 4], [2, 3, 4, 5], [0, 1, 2, 3, 4, 5, 6], [0, 1, 2, 3, 4, 5, 6, 7], [0, 1, 2, 3, 4, 5, 6, 7, 8], [0, 1, 2, 3, 4, 5, 6, 7, 8], [0, 1, 2, 3, 4, 5, 6, 7, 8], [0, 1, 2, 3, 4, 5, 6, 7, 8, 10, 11], [0, 1, 2, 3, 4, 5, 6, 7, 8, 10, 11, 12], [0, 1, 2, 3, 4, 5, 6, 7, 8, 10, 11, 12, 13], [0, 1, 2, 3, 4, 5, 6, 7, 8, 9, 10, 11, 12, 13, 14], [0, 1, 2, 3, 4, 5, 6, 7, 8], [0, 1, 2, 3, 4, 5, 6, 7, 8], [0, 1, 2, 3, 4, 5, 6, 7, 8, 16, 17], [0, 1, 2, 3, 4, 5, 6, 7, 8, 16, 17, 18], [0, 1, 2, 3, 4, 5, 6, 7, 8, 9, 10, 11, 12, 13, 14, 15, 16, 17, 18, 19], [0, 1, 2, 3, 4, 5, 6, 7, 8, 9, 10, 11, 12, 13, 14, 15, 16, 17, 18, 19, 20]].getD i []) (fun _ => []) (fun _ => []) [] (by kernel_rfl) (fun _ => none) ?_
        apply lex_quiet rfl rfl
        · intro w' hk; go_simp; with_reducible rfl
        simp only [Act.put, List.setIfInBounds_toArray, List.set_cons_zero, List.set_cons_succ]
        apply lex_quiet rfl rfl
        · intro w' hk; go_simp; with_reducible rfl
        simp only [Act.put, List.setIfInBounds_toArray, List.set_cons_zero, List.set_cons_succ]
        apply lex_quiet rfl rfl
        · intro w' hk; go_simp; with_reducible rfl
        simp only [Act.put, List.setIfInBounds_toArray, List.set_cons_zero, List.set_cons_succ]
        apply lex_quiet rfl rfl
        · intro w' hk; go_simp; with_reducible rfl
        simp only [Act.put, List.setIfInBounds_toArray, List.set_cons_zero, List.set_cons_succ]
        apply lex_quiet rfl rfl
        · intro w' hk; go_simp; with_reducible rfl
        simp only [Act.put, List.setIfInBounds_toArray, List.set_cons_zero, List.set_cons_succ]
        apply lex_quiet rfl rfl
        · intro w' hk; go_simp; with_reducible rfl
        simp only [Act.put, List.setIfInBounds_toArray, List.set_cons_zero, List.set_cons_succ]
        apply lex_quiet rfl rfl
        · intro w' hk; go_simp; with_reducible rfl
        simp only [Act.put, List.setIfInBounds_toArray, List.set_cons_zero, List.set_cons_succ]
        apply lex_quiet rfl rfl
        · intro w' hk; go_simp; with_reducible rfl
        simp only [Act.put, List.setIfInBounds_toArray, List.set_cons_zero, List.set_cons_succ]
        apply lex_quiet rfl rfl
        · intro w' hk; go_simp; with_reducible rfl
        simp only [Act.put, List.setIfInBounds_toArray, List.set_cons_zero, List.set_cons_succ]
        refine lex_skip rfl ?_
        simp only [Act.put, List.setIfInBounds_toArray, List.set_cons_zero, List.set_cons_succ]
        refine lex_skip rfl ?_
        simp only [Act.put, List.setIfInBounds_toArray, List.set_cons_zero, List.set_cons_succ]
        refine lex_skip rfl ?_
        simp only [Act.put, List.setIfInBounds_toArray, List.set_cons_zero, List.set_cons_succ]
        refine lex_skip rfl ?_
        simp only [Act.put, List.setIfInBounds_toArray, List.set_cons_zero, List.set_cons_succ]
        refine lex_skip rfl ?_
        simp only [Act.put, List.setIfInBounds_toArray, List.set_cons_zero, List.set_cons_succ]
        refine lex_skip rfl ?_
        simp only [Act.put, List.setIfInBounds_toArray, List.set_cons_zero, List.set_cons_succ]
        refine lex_skip rfl ?_
        simp only [Act.put, List.setIfInBounds_toArray, List.set_cons_zero, List.set_cons_succ]
        refine lex_skip rfl ?_
        simp only [Act.put, List.setIfInBounds_toArray, List.set_cons_zero, List.set_cons_succ]
        refine lex_skip rfl ?_
        simp only [Act.put, List.setIfInBounds_toArray, List.set_cons_zero, List.set_cons_succ]
        refine lex_skip rfl ?_
        simp only [Act.put, List.setIfInBounds_toArray, List.set_cons_zero, List.set_cons_succ]
        refine lex_skip rfl ?_
        simp only [Act.put, List.setIfInBounds_toArray, List.set_cons_zero, List.set_cons_succ]
        refine lex_skip rfl ?_
        simp only [Act.put, List.setIfInBounds_toArray, List.set_cons_zero, List.set_cons_succ]
        apply lex_quiet rfl rfl
        · intro w' hk; go_simp; with_reducible rfl
        simp only [Act.put, List.setIfInBounds_toArray, List.set_cons_zero, List.set_cons_succ]
        refine lex_nil ?_
        intro w9 hk9 _ _
        have HK9 := Lib.hid (HKR.out.trans ((KeepBut.drew _ wr).trans hk9))
        clear hk9 y1
        go_wp2_with fail
        exact ⟨⟨i + 1, by simp, by omega, fun j h hj => by
          by_cases e : j = i
          · subst e; exact HE.out
          · exact HNO.out j h (by omega), HK9.out⟩, by simp only [intOf]; omega⟩
    · have hnl : ¬ (i : Int) < 23 := by omega
      have HE := Lib.hid (find_no fun j hj => HNO.out j hj (by omega))
      go_wp2_with fail
      go_ret
      exact ⟨by rw [HE.out]; rfl, HK.out.trans HKR.out⟩

/-- both ways to tell a sign -/
theorem sign_same (c : UInt8) (r : List UInt8) : signT (c :: r) = if rsignL (c :: r) = [] then (Tok.zero, 9) else (⟨4, rsignL (c :: r), 0⟩, 0) := by
  have key : ∀ x y : UInt8, (x = y) = (y = x) := fun x y => propext ⟨Eq.symm, Eq.symm⟩
  rw [signT_cons]
  unfold rsignL signP signsR
  cases r with
  | nil =>
    by_cases hc : signsL.contains c = true
    · rw [if_pos hc]
      simp only [signsL, List.contains_iff_mem, List.mem_cons, List.not_mem_nil, or_false] at hc
      rcases hc with h | h | h | h | h | h | h | h | h | h | h | h | h | h | h | h | h | h | h <;> subst h <;> rfl
    · rw [if_neg hc]
      simp only [signsL, List.contains_iff_mem, List.mem_cons, List.not_mem_nil, or_false, not_or] at hc
      simp [List.find?, hc]
  | cons d t =>
    by_cases hc : signsL.contains c = true
    · rw [if_pos hc]
      simp only [signsL, List.contains_iff_mem, List.mem_cons, List.not_mem_nil, or_false] at hc
      by_cases hd : d = 61
      · subst hd
        rcases hc with h | h | h | h | h | h | h | h | h | h | h | h | h | h | h | h | h | h | h <;> subst h <;> simp [signN, equalsL, List.find?]
      · rcases hc with h | h | h | h | h | h | h | h | h | h | h | h | h | h | h | h | h | h | h <;> subst h <;> simp [signN, equalsL, List.find?, hd]
    · rw [if_neg hc]
      simp only [signsL, List.contains_iff_mem, List.mem_cons, List.not_mem_nil, or_false, not_or] at hc
      simp [List.find?, hc]

end Go.Proofs.YtmklmlocldbaoaaDoor
