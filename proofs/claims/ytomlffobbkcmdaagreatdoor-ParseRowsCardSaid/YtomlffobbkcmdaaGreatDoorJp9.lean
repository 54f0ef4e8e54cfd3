/- Joined texts of this work: Lx4, Pb6, Pb9. -/
import Derived.Test.YtomlffobbkcmdaaGreatDoorJp5
import Derived.Deep.CutRange
import Derived.Laws.IdiomStrings
import Derived.Deep.CutBlock
import Derived.Test.YtomlffobbkcmdaaGreatDoorJp8
import Derived.Defers
import Derived.Recover

/-
  lex: number, sign, span2.
-/
namespace Go.Proofs.YtomlffobbkcmdaaGreatDoor
open Go Go.RowKit Own

theorem byteV_eq (c : UInt8) : byteV c = .int .u8 (c.toNat : Int) := rfl

theorem span2_any (s : ByteArray) (w : World) :
    Calls Tryz.prog 116 #[.string s] w fun e w' => e = .returned (.int .i64 (noteN s.data.toList : Nat)) ∧ w' = w := by
  have hI := Lib.hid (fun w => Tryz.strings_IndexByte s 10 w)
  have e := idx_note s.data.toList
  have hl : s.data.toList.length = s.size := by simp
  rw [hl] at e
  have e10 : (10 : Int).toNat.toUInt8 = 10 := rfl
  rw [e10] at hI
  obtain ⟨I, hI'⟩ : ∃ I, Lib.indexByte s.data.toList 10 = I := ⟨_, rfl⟩
  obtain ⟨m, hm⟩ : ∃ m, noteN s.data.toList = m := ⟨_, rfl⟩
  rw [hI'] at hI e
  rw [hm] at e ⊢
  clear hI' hm hl e10
  by_cases h : m = s.size
  · rw [if_pos h] at e
    subst e
    have HM := Lib.hid h
    clear h
    go_enter Tryz.func116, Tryz.ntmps116
    go_wp2_with (go_at_call 129; refine (hI.out _).mono ?_; rintro e w' ⟨rfl, rfl⟩)
    go_ret
    exact ⟨ret_int (by rw [HM.out]), rfl⟩
  · rw [if_neg h] at e
    have h0 : (0 : Int) ≤ I := by omega
    have HE := Lib.hid e
    clear h e
    go_enter Tryz.func116, Tryz.ntmps116
    go_wp2_with (go_at_call 129; refine (hI.out _).mono ?_; rintro e w' ⟨rfl, rfl⟩)
    go_ret
    exact ⟨ret_int HE.out, rfl⟩

theorem conv_bytes (w : World) (S : ByteArray) : ∃ W3 G cap, (convert 9 63 (.string S)).run Tryz.prog w = .ok (.slice (some ⟨G, 0, none⟩) S.size cap) W3 ∧ G = w.heap.size ∧ (∀ j (h : j < S.data.size), W3.cell? ⟨G, j, none⟩ = some (.int .u8 (S.data[j].toNat : Int))) ∧ KeepBut (fun _ => False) w W3 ∧ G < W3.heap.size := by
  refine ⟨_, _, _, run_bytes_of_string w 9 63 5 S Tryz.underlying9 Tryz.underlying63 Tryz.underlying5, rfl, fun j h => ?_, (KeepBut.drew _ w).trans (KeepBut.alloc _ _ _), ?_⟩
  · have hb := heap_alloc_new w.drew (.cells (bytesRow S (grownCap w S.size 0 5)) 5 ((bytesRow S (grownCap w S.size 0 5)).size, (bytesRow S (grownCap w S.size 0 5)).size + 1))
    have hb' : (w.drew.alloc (.cells (bytesRow S (grownCap w S.size 0 5)) 5 ((bytesRow S (grownCap w S.size 0 5)).size, (bytesRow S (grownCap w S.size 0 5)).size + 1))).heap[w.heap.size]? = _ := hb
    simp only [World.cell?, hb']
    simp [bytesRow_at S _ j h]
  · rw [World.size_alloc]; exact Nat.lt_succ_self _

theorem foldl_ge : ∀ (l : List UInt8) (acc : Nat), acc ≤ l.foldl (fun a c => 10 * a + (c.toNat - 48)) acc
  | [], acc => Nat.le_refl _
  | c :: l, acc => by
    have := foldl_ge l (10 * acc + (c.toNat - 48))
    simp only [List.foldl_cons]
    omega
theorem val10_take (l : List UInt8) (i : Nat) : val10 (l.take i) ≤ val10 l := by
  unfold val10
  conv => rhs; rw [← List.take_append_drop i l, List.foldl_append]
  exact foldl_ge _ _
theorem val10_step (l : List UInt8) (i : Nat) (h : i < l.length) : val10 (l.take (i + 1)) = 10 * val10 (l.take i) + (l[i].toNat - 48) := by
  unfold val10
  rw [List.take_succ_eq_append_getElem h, List.foldl_append]
  rfl

set_option maxRecDepth 100000 in
set_option maxHeartbeats 4000000 in
theorem number_any (s : ByteArray) (c : UInt8) (r : List UInt8) (hs : s.data.toList = c :: r) (hd : digitB c = true) (hsz : s.size ≤ 1099511627776) (w : World) :
    Calls Tryz.prog 118 #[.string s] w fun e w' => e = .returned (.tuple #[tokV (numT s.data.toList).1 0 0, .int .i64 (numT s.data.toList).2]) ∧ KeepBut (fun _ => False) w w' := by
  obtain ⟨tx, htx⟩ : ∃ tx, s.data.toList.takeWhile digitB = tx := ⟨_, rfl⟩
  obtain ⟨m, hm⟩ : ∃ m, tx.length = m := ⟨_, rfl⟩
  have hsl : s.data.toList.length = s.size := by simp
  have hms : m ≤ s.size := by rw [← hm, ← htx, ← hsl]; exact takeWhile_le _ _
  have het : s.extract 0 m = ⟨tx.toArray⟩ := by rw [extract_take, ← hm, ← htx, takeWhile_take]
  have hcons : ∃ t, tx = c :: t := ⟨_, by rw [← htx, hs, takeWhile_pos hd]⟩
  obtain ⟨W0, B, hW0, hB, hb, hk0, hs0⟩ := fresh_block w (.cells #[.int .i64 0, .string ⟨#[]⟩, .int .i64 0, .int .i64 0, .int .i64 0] 76)
  have hS := span_any digitB digit_small 130 (enters_of Tryz.func130 (by kernel_rfl) rfl) isDigit_any s W0
  rw [htx, hm] at hS
  have HS := Lib.hid hS
  have HB := Lib.hid hb; have HK := Lib.hid hk0
  have HN := Lib.hid (show w.heap.size = B ∧ B < W0.heap.size by omega)
  have h0 : (0 : Int) ≤ m := by omega
  have hmi : (m : Int) ≤ s.size := by omega
  have HM := Lib.hid hm
  have HC := Lib.hid hcons
  have HDG := Lib.hid (show ∀ x ∈ tx, digitB x = true from fun x hx => takeWhile_all x (by rw [htx]; exact hx))
  have hn : numT s.data.toList = if 1 < tx.length ∧ c = 48 then (Tok.zero, 9) else if 9223372036854775807 < val10 tx then (Tok.zero, 3) else (⟨3, tx, val10 tx⟩, 0) := by
    unfold numT
    rw [htx, hs]
    simp
  have HE := Lib.hid hn
  clear hS hsl hb hk0 hs0 hms hm hcons hn htx hs
  go_enter Tryz.func118, Tryz.ntmps118
  go_upto_region 1 with fail
  rw [← hW0, ← hB]
  clear hW0 hB
  go_upto_region 2 with (go_at_call 86; refine HS.out.mono ?_; rintro e w1 ⟨rfl, hk1⟩; have HB1 := Lib.hid (hk1.blk HB.out); have HK1 := Lib.hid hk1; clear hk1)
  obtain ⟨W2, B4, hW2, hB4, hb4, hk2, -⟩ := fresh_block w1 (.cells #[.int .i64 3, .string ⟨tx.toArray⟩, .int .i64 0, .int .i64 0, .int .i64 0] 76)
  rw [← hW2, ← hB4]
  have HB4 := Lib.hid hb4
  have HK2 := Lib.hid (HK1.out.trans hk2)
  have HL4 := Lib.hid (show W0.heap.size ≤ B4 ∧ B < B4 by have := HK1.out.size; have := HN.out; omega)
  have n1 := (blk5 hb4).2.1
  obtain ⟨S, hS⟩ : ∃ S : ByteArray, ⟨tx.toArray⟩ = S := ⟨_, rfl⟩
  have HSS := Lib.hid hS
  have hSz : S.size = m := by rw [← hS, ← HM.out]; rfl
  rw [hS] at n1 HB4 ⊢
  clear hW2 hB4 hb4 hk2 het hS
  obtain ⟨q, hq⟩ : ∃ q, decide (1 < tx.length ∧ c = 48) = q := ⟨_, rfl⟩
  have HQ := Lib.hid hq
  have hS0 : ∀ h : 0 < S.size, (S[0]'h).toNat = c.toNat := fun h => by
    obtain ⟨t, ht⟩ := HC.out
    have e : S.data = (c :: t).toArray := by rw [← HSS.out, ht]
    have e2 : S[0]'h = S.data[0]'h := rfl
    simp only [e2, e]
    rfl
  have HS0 := Lib.hid hS0
  clear hq hS0
  go_cut [22] from 13 to 49 (fun v22 wx => v22 = .bool q ∧ wx = W2)
  case first =>
    by_cases h1 : 1 < m
    · have h1i : (1 : Int) < (m : Int) := by omega
      have hz : 0 < S.size := by omega
      have hz2 : 0 < m := by omega
      have hz3 : (0 : Int) < (m : Int) := by omega
      have e0 := HS0.out hz
      have e1 : ((c.toNat : Int) == 48) = q := by
        rw [← HQ.out, show ((c.toNat : Int) == 48) = (c.toNat == 48) from byte_beq c 48 (by decide), HM.out, Bool.eq_iff_iff]
        simp only [h1, true_and, decide_eq_true_eq, beq_iff_eq]
        exact ⟨fun h => UInt8.toNat_inj.1 h, fun h => by rw [h]; rfl⟩
      go_wp2_with fail
      go_meet
      case rel => exact ⟨rfl, rfl⟩
    · have h1i : ¬ (1 : Int) < (m : Int) := by omega
      have e1 : q = false := by rw [← HQ.out, HM.out]; simp [h1]
      go_wp2_with fail
      go_meet
      case rel => exact ⟨by rw [e1], rfl⟩
  case rest =>
    obtain ⟨rfl, hww⟩ := hcut
    have hww := hww.symm
    subst hww
    cases q with
    | true =>
      have HBB := Lib.hid (HK2.out.blk HB.out)
      obtain ⟨n0, n1', n2, n3, n4, f0, f1, f2, f3, f4⟩ := blk5 HBB.out
      clear n1
      go_wp2_with fail
      obtain ⟨wf, hwf, hp, hkp⟩ := put5 HBB.out (.int .i64 0) (.string ⟨#[]⟩) (.int .i64 0) (.int .i64 0) (.int .i64 0)
      rw [← hwf]
      obtain ⟨c0, c1, c2, c3, c4, -⟩ := blk5 hp
      refine bodyPost_ret (v := .tuple #[.agg #[.int .i64 0, .string ⟨#[]⟩, .int .i64 0, .int .i64 0, .int .i64 0], .int .i64 9]) (by simp [results, Tryz.results118, go_sem, c0, c1, c2, c3, c4]) rfl ⟨by rw [HE.out, if_pos (of_decide_eq_true HQ.out)]; rfl, ?_⟩
      exact (HK.out.trans HK2.out).new hkp fun k e => by have h2 : k = B := e; have := HN.out; omega
    | false =>
      obtain ⟨W3, G, cap, hcv, hG, hcells, hk3, hG3⟩ := conv_bytes W2 S
      go_upto_region 5 with fail
      have HK3 := Lib.hid (HK2.out.trans hk3)
      have HB3 := Lib.hid (HK3.out.blk HB.out)
      have HB43 := Lib.hid (hk3.blk HB4.out)
      have HCE := Lib.hid hcells
      have HG := Lib.hid (show B4 < G by have := (Array.getElem?_eq_some_iff.1 HB4.out).1; omega)
      rw [← hG]
      have HTX := Lib.hid (show ∀ x ∈ tx, 48 ≤ x.toNat ∧ x.toNat ≤ 57 from fun x hx => by
        have := HDG.out x hx
        simpa [digitB] using this)
      clear n1 hcv hcells hk3 hG3 hG
      go_loopw [28] (fun v28 wr => ∃ i : Nat, i ≤ m ∧ v28 = .int .i64 i ∧ wr.heap[B4]? = some (.cells #[.int .i64 3, .string S, .int .i64 (val10 (tx.take i) : Nat), .int .i64 0, .int .i64 0] 76 (0, 0)) ∧ KeepBut (fun k => k = B4) W3 wr ∧ val10 (tx.take i) ≤ 9223372036854775807) (fun v _ => m - (intOf v).toNat)
      case atStart => exact ⟨0, Nat.zero_le _, rfl, HB43.out, KeepBut.refl _ _, by simp [val10]⟩
      case round =>
        obtain ⟨i, hi, rfl, hB4i, hki, hvi⟩ := hrel
        have HB4i := Lib.hid hB4i
        have HKi := Lib.hid hki
        have HVi := Lib.hid hvi
        have HBi := Lib.hid (KeepBut.blkE hki HB3.out (fun e => by have := HL4.out; omega))
        obtain ⟨m0, m1, m2, m3, m4, g0, g1, g2, g3, g4⟩ := blk5 hB4i
        clear hB4i hki
        by_cases hlt : i < m
        · have hlti : (i : Int) < (m : Int) := by omega
          have hi0 : (0 : Int) ≤ (i : Int) := by omega
          obtain ⟨b, hb⟩ : ∃ b : Nat, (tx[i]'(by have := HM.out; omega)).toNat = b := ⟨_, rfl⟩
          have hbr : 48 ≤ b ∧ b ≤ 57 := by rw [← hb]; exact HTX.out _ (List.getElem_mem _)
          have hst : val10 (tx.take (i + 1)) = 10 * val10 (tx.take i) + (b - 48) := by rw [val10_step tx i (by have := HM.out; omega), hb]
          have hle : val10 (tx.take (i + 1)) ≤ val10 tx := val10_take _ _
          have hcell : wr.cell? ⟨G, i, none⟩ = some (.int .u8 (b : Int)) := by
            have hsz : i < S.data.size := by have := HM.out; have h2 := HSS.out; subst h2; simpa [this] using hlt
            have h := HKi.out.cell (HCE.out i hsz) (by have := HG.out; show ¬ G = B4; omega)
            rw [h, ← hb]
            congr 2
            have e : S.data = tx.toArray := by rw [← HSS.out]
            simp only [e]
            rfl
          obtain ⟨d, hd'⟩ : ∃ d : Nat, b - 48 = d := ⟨_, rfl⟩
          have hw1 : IntKind.u8.wrap ((b : Int) - 48) = (d : Int) := by
            have e : (b : Int) - 48 = (d : Int) := by omega
            rw [e]; exact u8_in (by omega)
          have hw2 : IntKind.i64.wrap (d : Int) = d := IntWalk.i64_in _ (by omega)
          have hw3 : IntKind.i64.wrap (9223372036854775807 - (d : Int)) = 9223372036854775807 - (d : Int) := IntWalk.i64_in _ (by omega)
          have hWi : IntKind.i64.wrap ((i : Int) + 1) = ((i + 1 : Nat) : Int) := by rw [IntWalk.i64_in _ (by omega)]; omega
          obtain ⟨vv, hvv⟩ : ∃ vv, val10 (tx.take i) = vv := ⟨_, rfl⟩
          rw [hvv] at m2 hst hvi
          rw [hd'] at hst
          have HST := Lib.hid hst; have HLE := Lib.hid hle
          clear hle
          by_cases hof : 9223372036854775807 < 10 * vv + d
          · clear hst hvi
            have htest : (9223372036854775807 - (d : Int)) / 10 < (vv : Int) := by omega
            obtain ⟨n0, n1', n2, n3, n4, f0, f1, f2, f3, f4⟩ := blk5 HBi.out
            have HOF := Lib.hid (show 9223372036854775807 < val10 tx by have := HST.out; have := HLE.out; omega)
            clear hof
            go_wp2_with fail
            obtain ⟨wf, hwf, hp, hkp⟩ := put5 HBi.out (.int .i64 0) (.string ⟨#[]⟩) (.int .i64 0) (.int .i64 0) (.int .i64 0)
            rw [← hwf]
            obtain ⟨c0, c1, c2, c3, c4, -⟩ := blk5 hp
            refine bodyPost_ret (v := .tuple #[.agg #[.int .i64 0, .string ⟨#[]⟩, .int .i64 0, .int .i64 0, .int .i64 0], .int .i64 3]) (by simp [results, Tryz.results118, go_sem, c0, c1, c2, c3, c4]) rfl ⟨?_, ?_⟩
            · rw [HE.out, if_neg (of_decide_eq_false HQ.out), if_pos HOF.out]
              rfl
            · exact (HK.out.trans (HK3.out.new HKi.out fun k e => by have h2 : k = B4 := e; have := HL4.out; omega)).new hkp fun k e => by have h2 : k = B := e; have := HN.out; omega
          · clear hst
            have htest : ¬ (9223372036854775807 - (d : Int)) / 10 < (vv : Int) := by omega
            go_wp2_with fail
            refine ⟨⟨i + 1, by omega, by simp, ?_, ?_, by rw [HST.out]; omega⟩, by simp only [intOf]; omega⟩
            · rw [HST.out]
              have e : ((10 * (vv : Int) + (d : Int))) = ((10 * vv + d : Nat) : Int) := by omega
              rw [e]
              exact put1 (i := 2) HB4i.out _
            · exact HKi.out.trans (KeepBut.setCell _ _ _ rfl)
        · have hnl : ¬ (i : Int) < (m : Int) := by omega
          have HMI := Lib.hid (show i = m by omega)
          obtain ⟨n0, n1', n2, n3, n4, f0, f1, f2, f3, f4⟩ := blk5 HBi.out
          go_wp2_with fail
          obtain ⟨wf, hwf, hp, hkp⟩ := put5 HBi.out (.int .i64 3) (.string S) (.int .i64 (val10 (tx.take i) : Nat)) (.int .i64 0) (.int .i64 0)
          rw [← hwf]
          obtain ⟨c0, c1, c2, c3, c4, -⟩ := blk5 hp
          have htk : tx.take i = tx := by rw [List.take_of_length_le]; have := HM.out; have := HMI.out; omega
          refine bodyPost_ret (v := .tuple #[.agg #[.int .i64 3, .string S, .int .i64 (val10 (tx.take i) : Nat), .int .i64 0, .int .i64 0], .int .i64 0]) (by simp [results, Tryz.results118, go_sem, c0, c1, c2, c3, c4]) rfl ⟨?_, ?_⟩
          · rw [HE.out, if_neg (of_decide_eq_false HQ.out), if_neg (by have := HVi.out; rw [htk] at this; omega), htk, ← HSS.out]
            rfl
          · exact (HK.out.trans (HK3.out.new HKi.out fun k e => by have h2 : k = B4 := e; have := HL4.out; omega)).new hkp fun k e => by have h2 : k = B := e; have := HN.out; omega

def eqS : ByteArray := ⟨#[61, 33, 60, 62]⟩
def sgS : ByteArray := ⟨#[43, 45, 42, 47, 37, 40, 41, 123, 125, 91, 93, 59, 44, 61, 60, 62, 33, 38, 124]⟩

theorem toByte (c : UInt8) : ((c.toNat : Int)).toNat.toUInt8 = c := by
  simp

set_option maxHeartbeats 4000000 in
theorem sign_any (s : ByteArray) (c : UInt8) (r : List UInt8) (hs : s.data.toList = c :: r) (w : World) :
    Calls Tryz.prog 119 #[.string s] w fun e w' => e = .returned (.tuple #[tokV (signT s.data.toList).1 0 0, .int .i64 (signT s.data.toList).2]) ∧ KeepBut (fun _ => False) w w' := by
  have hsl : s.data.toList.length = s.size := by simp
  have hsz : s.size = r.length + 1 := by rw [← hsl, hs]; rfl
  have hS0 : ∀ h : 0 < s.size, (s[0]'h).toNat = c.toNat := fun h => by
    have e : s.data = (c :: r).toArray := by rw [← hs]
    have e2 : s[0]'h = s.data[0]'h := rfl
    simp only [e2, e]
    rfl
  have hS1 : ∀ d t, r = d :: t → ∀ h : 1 < s.size, (s[1]'h).toNat = d.toNat := fun d t hr h => by
    have e : s.data = (c :: d :: t).toArray := by rw [← hr, ← hs]
    have e2 : s[1]'h = s.data[1]'h := rfl
    simp only [e2, e]
    rfl
  have hI1 := Lib.hid (fun w => Tryz.strings_IndexByte eqS (c.toNat : Int) w)
  have hI2 := Lib.hid (fun w => Tryz.strings_IndexByte sgS (c.toNat : Int) w)
  rw [toByte] at hI1 hI2
  have m1 := idx_mem eqS.data.toList c
  have m2 := idx_mem sgS.data.toList c
  obtain ⟨J1, hJ1⟩ : ∃ J, Lib.indexByte eqS.data.toList c = J := ⟨_, rfl⟩
  obtain ⟨J2, hJ2⟩ : ∃ J, Lib.indexByte sgS.data.toList c = J := ⟨_, rfl⟩
  rw [hJ1] at hI1 m1
  rw [hJ2] at hI2 m2
  obtain ⟨W0, B, hW0, hB, hb, hk0, hs0⟩ := fresh_block w (.cells #[.int .i64 0, .string ⟨#[]⟩, .int .i64 0, .int .i64 0, .int .i64 0] 76)
  have HB := Lib.hid hb; have HK := Lib.hid hk0
  have HN := Lib.hid (show w.heap.size = B ∧ B < W0.heap.size by omega)
  obtain ⟨n0, n1, n2, n3, n4, f0, f1, f2, f3, f4⟩ := blk5 hb
  have hz : 0 < s.size := by omega
  have hzi : (0 : Int) < (s.size : Int) := by omega
  have e0 := hS0 hz
  obtain ⟨g, hg⟩ : ∃ g, signsL.contains c = g := ⟨_, rfl⟩
  obtain ⟨q, hq⟩ : ∃ q, signN (c :: r) = q := ⟨_, rfl⟩
  have hql := signN_le (c := c) (r := r)
  rw [hq] at hql
  have HE := Lib.hid (show signT s.data.toList = if g = true then (⟨4, s.data.toList.take q, 0⟩, 0) else (Tok.zero, 9) by rw [hs, signT_cons, hg, hq])
  have hq2 : (1 < s.size ∧ (∃ d t, r = d :: t ∧ d = 61) ∧ equalsL.contains c = true → q = 2) ∧ (¬ (1 < s.size ∧ (∃ d t, r = d :: t ∧ d = 61) ∧ equalsL.contains c = true) → q = 1) := by
    rw [← hq]
    cases r with
    | nil => exact ⟨fun h => (by obtain ⟨_, ⟨d, t, e, _⟩, _⟩ := h; cases e), fun _ => rfl⟩
    | cons d t =>
      simp only [signN]
      refine ⟨fun h => ?_, fun h => ?_⟩
      · obtain ⟨_, ⟨d', t', e, h1⟩, h2⟩ := h
        cases e
        rw [if_pos ⟨h1, h2⟩]
      · rw [if_neg]
        rintro ⟨h1, h2⟩
        exact h ⟨by rw [hsz]; simp, ⟨d, t, rfl, h1⟩, h2⟩
  have HET := Lib.hid (extract_take s q)
  have hqi : (q : Int) ≤ s.size := by rw [hsz]; simp only [List.length_cons] at hql; omega
  have hq0 : (0 : Int) ≤ q := by omega
  clear hsl hs hS0 hJ1 hJ2 hb hk0 hs0 hq
  go_enter Tryz.func119, Tryz.ntmps119
  go_upto_region 2 with fail
  rw [← hW0, ← hB]
  clear hW0 hB
  go_cut [18] from 5 to 27 (fun v18 wx => v18 = .bool (decide (q = 2)) ∧ wx = W0)
  case first =>
    by_cases h1 : 1 < s.size
    · have h1i : (1 : Int) < (s.size : Int) := by omega
      obtain ⟨d, t, hr⟩ : ∃ d t, r = d :: t := by
        cases r with
        | nil => simp at hsz; omega
        | cons d t => exact ⟨d, t, rfl⟩
      have e1 := hS1 d t hr h1
      by_cases hd : d = 61
      · have e2 : ((d.toNat : Int) == 61) = true := by rw [hd]; rfl
        by_cases hc : equalsL.contains c = true
        · have hj : (0 : Int) ≤ J1 := m1.2 hc
          have HQ := Lib.hid (show q = 2 by exact hq2.1 ⟨h1, ⟨d, t, hr, hd⟩, hc⟩)
          clear hq2 m1 m2 hc
          go_wp2_with (go_at_call 129; refine (hI1.out _).mono ?_; rintro e w' ⟨rfl, rfl⟩)
          go_meet
          case rel => exact ⟨by rw [HQ.out]; first | rfl | (simp; done) | (simp; omega), rfl⟩
        · have hj : J1 < 0 := by
            apply Classical.byContradiction; intro h
            exact hc (m1.1 (by omega))
          have HQ := Lib.hid (show q = 1 by exact hq2.2 fun h => hc h.2.2)
          clear hq2 m1 m2 hc
          go_wp2_with (go_at_call 129; refine (hI1.out _).mono ?_; rintro e w' ⟨rfl, rfl⟩)
          go_meet
          case rel => exact ⟨by rw [HQ.out]; first | rfl | (simp; done) | (simp; omega), rfl⟩
      · have e2 : ((d.toNat : Int) == 61) = false := by
          rw [show ((d.toNat : Int) == 61) = (d.toNat == 61) from byte_beq d 61 (by decide)]
          simpa using fun h => hd (UInt8.toNat_inj.1 h)
        have HQ := Lib.hid (show q = 1 by
          refine hq2.2 ?_
          rintro ⟨_, ⟨d', t', e, h1⟩, _⟩
          rw [hr] at e; cases e; exact hd h1)
        clear hq2 m1 m2 hd
        go_wp2_with fail
        go_meet
        case rel => exact ⟨by rw [HQ.out]; first | rfl | (simp; done) | (simp; omega), rfl⟩
    · have h1i : ¬ (1 : Int) < (s.size : Int) := by omega
      have HQ := Lib.hid (show q = 1 by exact hq2.2 fun h => h1 h.1)
      clear hq2 m1 m2
      go_wp2_with fail
      go_meet
      case rel => exact ⟨by rw [HQ.out]; first | rfl | (simp; done) | (simp; omega), rfl⟩
  case rest =>
    obtain ⟨rfl, hww⟩ := hcut
    have hww := hww.symm
    subst hww
    clear m1 hS1
    go_upto_if 18 with fail
    go_cut [4] from 5 to 27 (fun v4 wx => v4 = .int .i64 q ∧ wx = W0)
    case first =>
      by_cases h2 : q = 2
      · have HQ := Lib.hid h2
        have hd2 : decide (q = 2) = true := decide_eq_true h2
        rw [hd2]
        clear hd2 h2 hq2
        go_wp2_with fail
        go_meet
        case rel => exact ⟨by rw [HQ.out]; rfl, rfl⟩
      · have HQ := Lib.hid (show q = 1 from hq2.2 fun h => h2 (hq2.1 h))
        have hd2 : decide (q = 2) = false := decide_eq_false h2
        rw [hd2]
        clear hd2 h2 hq2
        go_wp2_with fail
        go_meet
        case rel => exact ⟨by rw [HQ.out]; rfl, rfl⟩
    case rest =>
      obtain ⟨rfl, hww⟩ := hcut
      have hww := hww.symm
      subst hww
      clear hq2
      cases g with
      | true =>
        have HE := Lib.hid (show signT s.data.toList = (⟨4, s.data.toList.take q, 0⟩, 0) by have := HE.out; simpa using this)
        have hj : ¬ J2 < 0 := by have := m2.2 hg; omega
        have et := HET.out
        clear m2 hg
        go_wp2_with (go_at_call 129; refine (hI2.out _).mono ?_; rintro e w' ⟨rfl, rfl⟩)
        obtain ⟨wf, hwf, hp, hkp⟩ := put5 HB.out (.int .i64 4) (.string ⟨(s.data.toList.take q).toArray⟩) (.int .i64 0) (.int .i64 0) (.int .i64 0)
        rw [← hwf]
        obtain ⟨c0, c1, c2, c3, c4, -⟩ := blk5 hp
        refine bodyPost_ret (v := .tuple #[.agg #[.int .i64 4, .string ⟨(s.data.toList.take q).toArray⟩, .int .i64 0, .int .i64 0, .int .i64 0], .int .i64 0]) (by simp [results, Tryz.results119, go_sem, c0, c1, c2, c3, c4]) rfl ⟨?_, ?_⟩
        · rw [HE.out]; rfl
        · exact HK.out.new hkp fun k e => by have h2 : k = B := e; have := HN.out; omega
      | false =>
        have HE := Lib.hid (show signT s.data.toList = (Tok.zero, 9) by have := HE.out; simpa using this)
        have hj : J2 < 0 := by
          apply Classical.byContradiction; intro h
          have := m2.1 (by omega)
          rw [show sgS.data.toList.contains c = false from hg] at this; cases this
        clear m2 hg
        go_wp2_with (go_at_call 129; refine (hI2.out _).mono ?_; rintro e w' ⟨rfl, rfl⟩)
        obtain ⟨wf, hwf, hp, hkp⟩ := put5 HB.out (.int .i64 0) (.string ⟨#[]⟩) (.int .i64 0) (.int .i64 0) (.int .i64 0)
        rw [← hwf]
        obtain ⟨c0, c1, c2, c3, c4, -⟩ := blk5 hp
        refine bodyPost_ret (v := .tuple #[.agg #[.int .i64 0, .string ⟨#[]⟩, .int .i64 0, .int .i64 0, .int .i64 0], .int .i64 9]) (by simp [results, Tryz.results119, go_sem, c0, c1, c2, c3, c4]) rfl ⟨?_, ?_⟩
        · rw [HE.out]; rfl
        · exact HK.out.new hkp fun k e => by have h2 : k = B := e; have := HN.out; omega

end Go.Proofs.YtomlffobbkcmdaaGreatDoor

/-
  Package parse: weigh; behind; the closure that reading defers, where nothing is given up.
-/
namespace Go.Proofs.YtomlffobbkcmdaaGreatDoor
open Go Go.RowKit Own

mutual
def exSize : Ex → Nat
  | .mk _ _ _ _ _ _ kids => sizeL kids + 1
def sizeL : List Ex → Nat
  | [] => 0
  | x :: l => exSize x + sizeL l
end
mutual
def exDeep : Ex → Nat
  | .mk _ _ _ _ _ _ kids => deepL kids + 1
def deepL : List Ex → Nat
  | [] => 0
  | x :: l => max (exDeep x) (deepL l)
end
theorem sizeL_take {l : List Ex} {i : Nat} (h : i < l.length) : sizeL (l.take (i + 1)) = sizeL (l.take i) + exSize l[i] := by
  induction l generalizing i with
  | nil => cases h
  | cons x l ih =>
    cases i with
    | zero => simp [sizeL]
    | succ i =>
      have h' : i < l.length := by simpa using h
      simp only [List.take_succ_cons, sizeL, List.getElem_cons_succ]
      rw [ih h']
      omega
theorem deepL_take {l : List Ex} {i : Nat} (h : i < l.length) : deepL (l.take (i + 1)) = max (deepL (l.take i)) (exDeep l[i]) := by
  induction l generalizing i with
  | nil => cases h
  | cons x l ih =>
    cases i with
    | zero => simp [deepL]
    | succ i =>
      have h' : i < l.length := by simpa using h
      simp only [List.take_succ_cons, deepL, List.getElem_cons_succ]
      rw [ih h']
      omega
theorem size_mem {l : List Ex} {i : Nat} (h : i < l.length) : exSize l[i] ≤ sizeL l := by
  induction l generalizing i with
  | nil => cases h
  | cons x l ih =>
    cases i with
    | zero => simp [sizeL]
    | succ i =>
      have := ih (i := i) (by simpa using h)
      simp only [sizeL, List.getElem_cons_succ]
      omega
theorem sizeL_le {l : List Ex} (i : Nat) : sizeL (l.take i) ≤ sizeL l := by
  induction l generalizing i with
  | nil => simp [sizeL]
  | cons x l ih =>
    cases i with
    | zero => simp [sizeL]
    | succ i =>
      have := ih i
      simp only [List.take_succ_cons, sizeL]
      omega
mutual
theorem deep_le : ∀ x : Ex, exDeep x ≤ exSize x
  | .mk _ _ _ _ _ _ kids => by
    unfold exDeep exSize
    have := deepL_le kids
    omega
theorem deepL_le : ∀ l : List Ex, deepL l ≤ sizeL l
  | [] => by simp [deepL]
  | x :: l => by
    unfold deepL sizeL
    have := deep_le x
    have := deepL_le l
    omega
end
theorem len_size : ∀ l : List Ex, l.length ≤ sizeL l
  | [] => by simp
  | x :: l => by
    have h1 : 1 ≤ exSize x := by cases x; unfold exSize; omega
    have := len_size l
    simp only [List.length_cons, sizeL]
    omega
theorem kids_get {w : World} {S : Nat → Prop} {p : Option Addr} : ∀ {l : List Ex} {j : Nat}, KidsAt w S p j l → ∀ i (h : i < l.length), ∃ g o vs, p = some ⟨g, o, none⟩ ∧ (∀ k v, vs[k]? = some v → w.cell? ⟨g, o + (j + i) * 7 + k, none⟩ = some v) ∧ ExAt w S vs l[i]
  | x :: l, j, h, 0, _ => by
    unfold KidsAt at h
    obtain ⟨⟨g, o, vs, h1, _, h3, h4⟩, _⟩ := h
    exact ⟨g, o, vs, h1, h3, h4⟩
  | x :: l, j, h, i + 1, hi => by
    unfold KidsAt at h
    obtain ⟨g, o, vs, h1, h3, h4⟩ := kids_get h.2 i (by simpa using hi)
    refine ⟨g, o, vs, h1, fun k v hk => ?_, h4⟩
    rw [show j + (i + 1) = j + 1 + i by omega]
    exact h3 k v hk
  | [], _, _, i, hi => absurd hi (by simp)

set_option maxHeartbeats 8000000 in
theorem weigh_any : ∀ (n : Nat) (x : Ex), exSize x ≤ n → n ≤ 1099511627776 → ∀ (w : World) (S : Nat → Prop) (vs : List Value), ExAt w S vs x →
    Calls Tryz.prog 34 #[.agg vs.toArray] w fun e w' => e = .returned (.tuple #[.int .i64 (exSize x), .int .i64 (exDeep x)]) ∧ KeepBut (fun _ => False) w w' := by
  intro n
  induction n with
  | zero => intro x hx; cases x; unfold exSize at hx; omega
  | succ n ih =>
    intro x hx hn w S vs hex
    have HIH := Lib.hid ih
    obtain ⟨xk, xo, xn, xm, xl, xc, kids⟩ := x
    have hu := hex
    unfold ExAt at hu
    obtain ⟨p, cap, rfl, hk⟩ := hu
    obtain ⟨S0, hS0⟩ : ∃ S, strV xm = .string S := ⟨_, rfl⟩
    have hsz : sizeL kids ≤ n := by unfold exSize at hx; omega
    have hdp := deepL_le kids
    have e1 : (exSize (.mk xk xo xn xm xl xc kids) : Int) = (sizeL kids : Int) + 1 := by unfold exSize; omega
    have e2 : (exDeep (.mk xk xo xn xm xl xc kids) : Int) = (deepL kids : Int) + 1 := by unfold exDeep; omega
    rw [e1, e2, hS0]
    obtain ⟨V, B, hV, hB, hb, hk0, hs0⟩ := fresh_block w (.cells #[.int .i64 xk, .int .i64 xo, .int .i64 xn, .string S0, .slice p kids.length cap, .int .i64 xl, .int .i64 xc] TEx)
    obtain ⟨n0, n1, n2, n3, n4, n5, n6, -⟩ := blk7 hb
    have HKI := Lib.hid (hk.keep hk0 fun _ _ e => e); have HK0 := Lib.hid hk0; have HSZ := Lib.hid hsz; have HN := Lib.hid hn; have HDP := Lib.hid hdp
    have hkl := len_size kids
    have HKL := Lib.hid hkl
    clear hk hx hex hk0 hs0 hb ih hn hsz hdp e1 e2 hkl
    go_enter Tryz.func34, Tryz.ntmps34
    go_upto_region 1 with fail
    rw [← hV, ← hB]
    clear hV hB hS0
    go_wp2_with fail
    go_loopw [2, 3, 11] (fun v2 v3 v11 wr => ∃ i : Nat, v2 = .int .i64 (sizeL (kids.take i)) ∧ v3 = .int .i64 (deepL (kids.take i)) ∧ v11 = .int .i64 i ∧ i ≤ kids.length ∧ KeepBut (fun _ => False) V wr) (fun _ _ v _ => kids.length - (intOf v).toNat)
    case atStart => exact ⟨0, rfl, rfl, rfl, Nat.zero_le _, KeepBut.refl _ _⟩
    case round =>
      obtain ⟨i, rfl, rfl, rfl, hi, hk⟩ := hrel
      have HK := Lib.hid hk
      by_cases hlt : i < kids.length
      · have hlti : (i : Int) < kids.length := by omega
        have hi0 : (0 : Int) ≤ i := by omega
        have hWi : IntKind.i64.wrap ((i : Int) + 1) = (i : Int) + 1 := IntWalk.i64_in _ (by have := HKL.out; have := HSZ.out; have := HN.out; omega)
        obtain ⟨g, o, vs, hp, hc, hex⟩ := kids_get (HKI.out.keep hk fun _ _ e => e) i hlt
        subst hp
        rw [Nat.zero_add] at hc
        obtain ⟨yk, yo, yn, yS, yp, ym, yc, yl, ycl, rfl⟩ := ex_form hex
        have x0 : wr.cell? ⟨g, o + i * 7, none⟩ = some (.int .i64 yk) := hc 0 _ rfl; have x1 := hc 1 _ rfl; have x2 := hc 2 _ rfl; have x3 := hc 3 _ rfl; have x4 := hc 4 _ rfl; have x5 := hc 5 _ rfl; have x6 := hc 6 _ rfl
        obtain ⟨W, C, hW, hC, hcb, hkc, hsc⟩ := fresh_block wr (.cells #[.int .i64 yk, .int .i64 yo, .int .i64 yn, .string yS, .slice yp ym yc, .int .i64 yl, .int .i64 ycl] TEx)
        have hme := size_mem hlt
        have HCA := Lib.hid (HIH.out kids[i] (by have := HSZ.out; omega) (by have := HN.out; omega) W S _ (hex.keep hkc fun _ _ e => e))
        have HKC := Lib.hid hkc
        have hst := sizeL_take hlt
        have hdt := deepL_take hlt
        have hle := sizeL_le (l := kids) (i + 1)
        have hdl := deepL_le (kids.take (i + 1))
        obtain ⟨s1, hs1⟩ : ∃ s, exSize kids[i] = s := ⟨_, rfl⟩
        obtain ⟨d1, hd1⟩ : ∃ s, exDeep kids[i] = s := ⟨_, rfl⟩
        obtain ⟨s0, hs0⟩ : ∃ s, sizeL (kids.take i) = s := ⟨_, rfl⟩
        obtain ⟨d0, hd0⟩ : ∃ s, deepL (kids.take i) = s := ⟨_, rfl⟩
        rw [hs1, hs0] at hst
        rw [hd1, hd0] at hdt
        rw [hs1, hd1] at HCA
        rw [hs0, hd0]
        have hWs : IntKind.i64.wrap ((s0 : Int) + s1) = (s0 : Int) + s1 := IntWalk.i64_in _ (by have := HSZ.out; have := HN.out; omega)
        have HST := Lib.hid hst; have HDT := Lib.hid hdt
        obtain ⟨m0, m1, m2, m3, m4, m5, m6, -⟩ := blk7 hcb
        clear hc hex hk hsc hcb hme hst hdt hle hdl hs1 hd1 hs0 hd0 hkc
        go_upto_region 4 with fail
        rw [← hW, ← hC]
        clear hW hC x0 x1 x2 x3 x4 x5 x6
        go_wp2_with (go_at_call 34; refine HCA.out.mono ?_; rintro e w5 ⟨rfl, hk5⟩; have HK5 := Lib.hid hk5; clear hk5)
        refine ⟨⟨i + 1, by rw [HST.out]; simp, ?_, by simp, by omega, (HK.out.trans HKC.out).trans HK5.out⟩, by simp only [intOf]; omega⟩
        rw [HDT.out]
        show Value.int _ _ = _
        congr 1
        omega
      · have hnl : ¬ (i : Int) < kids.length := by omega
        have e : i = kids.length := by omega
        rw [e, List.take_length]
        have hW1 : IntKind.i64.wrap ((sizeL kids : Int) + 1) = (sizeL kids : Int) + 1 := IntWalk.i64_in _ (by have := HSZ.out; have := HN.out; omega)
        have hW2 : IntKind.i64.wrap ((deepL kids : Int) + 1) = (deepL kids : Int) + 1 := IntWalk.i64_in _ (by have := HSZ.out; have := HN.out; have := HDP.out; omega)
        clear hk e
        go_wp2_with fail
        go_ret2
        exact ⟨rfl, HK0.out.trans HK.out⟩

end Go.Proofs.YtomlffobbkcmdaaGreatDoor

/-
  Package parse: SameExpr, by slices.EqualFunc.
-/
namespace Go.Proofs.YtomlffobbkcmdaaGreatDoor
open Go Go.RowKit Own

mutual
def sameE : Ex → Ex → Bool
  | .mk k o n nm _ _ ks, .mk k' o' n' nm' _ _ ks' => decide (k = k') && (decide (o = o') && (decide (n = n') && (decide (nm = nm') && sameL ks ks')))
def sameL : List Ex → List Ex → Bool
  | [], [] => true
  | x :: a, y :: b => sameE x y && sameL a b
  | _, _ => false
end
theorem sameL_len : ∀ {a b : List Ex}, a.length ≠ b.length → sameL a b = false
  | [], [], h => absurd rfl h
  | x :: a, y :: b, h => by
    unfold sameL
    rw [sameL_len (a := a) (b := b) (by simpa using h), Bool.and_false]
  | [], _ :: _, _ => by unfold sameL; rfl
  | _ :: _, [], _ => by unfold sameL; rfl
theorem sameL_all : ∀ {a b : List Ex}, a.length = b.length → (∀ i (h : i < a.length) (h' : i < b.length), sameE a[i] b[i] = true) → sameL a b = true
  | [], [], _, _ => by unfold sameL; rfl
  | x :: a, y :: b, h, ha => by
    unfold sameL
    rw [show sameE x y = true from ha 0 (by simp) (by simp), sameL_all (a := a) (b := b) (by simpa using h) fun i h1 h2 => ha (i + 1) (by simpa using h1) (by simpa using h2)]
    rfl
  | [], _ :: _, h, _ => by cases h
  | _ :: _, [], h, _ => by cases h
theorem sameL_at : ∀ {a b : List Ex} (i : Nat) (h : i < a.length) (h' : i < b.length), sameE a[i] b[i] = false → sameL a b = false
  | x :: a, y :: b, 0, _, _, e => by
    unfold sameL
    rw [show sameE x y = false from e]; rfl
  | x :: a, y :: b, i + 1, h, h', e => by
    unfold sameL
    rw [sameL_at (a := a) (b := b) i (by simpa using h) (by simpa using h') e, Bool.and_false]
  | [], _, _, h, _, _ => by cases h
  | _ :: _, [], _, _, h, _ => by cases h

/-- what SameExpr says of an expression -/
def Says (x : Ex) : Prop := ∀ (y : Ex) (w : World) (S T : Nat → Prop) (vs us : List Value), ExAt w S vs x → ExAt w T us y →
  Calls Tryz.prog 13 #[.agg vs.toArray, .agg us.toArray] w fun e w' => e = .returned (.bool (sameE x y)) ∧ KeepBut (fun _ => False) w w'

set_option maxHeartbeats 8000000 in
theorem equalE_any (l m : List Ex) (hS : ∀ i (h : i < l.length), Says l[i]) (hl : l.length ≤ 1099511627776) (w : World) (S T : Nat → Prop) (p q : Option Addr) (c d : Nat) (hp : KidsAt w S p 0 l) (hq : KidsAt w T q 0 m) :
    Calls Tryz.prog 35 #[.slice p l.length c, .slice q m.length d, .func (.func 13) #[] #[]] w fun e w' => e = .returned (.bool (sameL l m)) ∧ KeepBut (fun _ => False) w w' := by
  have HS := Lib.hid hS; have HP := Lib.hid hp; have HQ := Lib.hid hq
  clear hS hp hq
  by_cases hne : l.length = m.length
  · have hnb : ((l.length : Int) != (m.length : Int)) = false := by simp [hne]
    have HNE := Lib.hid hne
    clear hne
    go_enter Tryz.func35, Tryz.ntmps35
    go_wp2_with fail
    clear hnb
    go_loopw [17] (fun v17 wr => ∃ i : Nat, v17 = .int .i64 i ∧ i ≤ l.length ∧ (∀ j, (hj : j < i) → (h : j < l.length) → (h' : j < m.length) → sameE l[j] m[j] = true) ∧ KeepBut (fun _ => False) w wr) (fun v _ => l.length - (intOf v).toNat)
    case atStart => exact ⟨0, rfl, Nat.zero_le _, fun j h => absurd h (Nat.not_lt_zero _), KeepBut.refl _ _⟩
    case round =>
      obtain ⟨i, rfl, hi, hall, hk⟩ := hrel
      have HALL := Lib.hid hall; have HK := Lib.hid hk
      by_cases hlt : i < l.length
      · have hltm : i < m.length := by have := HNE.out; omega
        have hlti : (i : Int) < l.length := by omega
        have hltj : (i : Int) < m.length := by omega
        have hi0 : (0 : Int) ≤ i := by omega
        have hWi : IntKind.i64.wrap ((i : Int) + 1) = (i : Int) + 1 := IntWalk.i64_in _ (by omega)
        obtain ⟨g, o, vs, hp, hc, hex⟩ := kids_get (HP.out.keep hk fun _ _ e => e) i hlt
        subst hp
        rw [Nat.zero_add] at hc
        obtain ⟨yk, yo, yn, yS, yp, ym, yc, yl, ycl, rfl⟩ := ex_form hex
        have x0 : wr.cell? ⟨g, o + i * 7, none⟩ = some (.int .i64 yk) := hc 0 _ rfl
        have x1 := hc 1 _ rfl; have x2 := hc 2 _ rfl; have x3 := hc 3 _ rfl; have x4 := hc 4 _ rfl; have x5 := hc 5 _ rfl; have x6 := hc 6 _ rfl
        obtain ⟨W, C, hW, hC, hcb, hkc, hsc⟩ := fresh_block wr (.cells #[.int .i64 yk, .int .i64 yo, .int .i64 yn, .string yS, .slice yp ym yc, .int .i64 yl, .int .i64 ycl] TEx)
        obtain ⟨g2, o2, us, hq, hc2, hex2⟩ := kids_get (HQ.out.keep (hk.trans hkc) fun _ _ e => e) i hltm
        subst hq
        rw [Nat.zero_add] at hc2
        obtain ⟨zk, zo, zn, zS, zp, zm, zc, zl, zcl, rfl⟩ := ex_form hex2
        have y0 : W.cell? ⟨g2, o2 + i * 7, none⟩ = some (.int .i64 zk) := hc2 0 _ rfl
        have y1 := hc2 1 _ rfl; have y2 := hc2 2 _ rfl; have y3 := hc2 3 _ rfl; have y4 := hc2 4 _ rfl; have y5 := hc2 5 _ rfl; have y6 := hc2 6 _ rfl
        obtain ⟨W2, D, hW2, hD, hdb, hkd, hsd⟩ := fresh_block W (.cells #[.int .i64 zk, .int .i64 zo, .int .i64 zn, .string zS, .slice zp zm zc, .int .i64 zl, .int .i64 zcl] TEx)
        have HCA := Lib.hid (HS.out i hlt m[i] W2 S T _ _ ((hex.keep hkc fun _ _ e => e).keep hkd fun _ _ e => e) (hex2.keep hkd fun _ _ e => e))
        have HAT := Lib.hid (fun e => sameL_at (a := l) (b := m) i hlt hltm e)
        obtain ⟨r, hr⟩ : ∃ r, sameE l[i] m[i] = r := ⟨_, rfl⟩
        rw [hr] at HCA
        have HR := Lib.hid hr
        have HKC := Lib.hid (hkc.trans hkd)
        obtain ⟨m0, m1, m2, m3, m4, m5, m6, -⟩ := blk7 (hkd.blk hcb)
        obtain ⟨n0, n1, n2, n3, n4, n5, n6, -⟩ := blk7 hdb
        clear hc hex hc2 hex2 hk hall hsc hsd hcb hdb hkc hkd hr
        go_upto_region 6 with fail
        rw [← hW, ← hC]
        clear hW hC x0 x1 x2 x3 x4 x5 x6
        go_upto_region 7 with fail
        rw [← hW2, ← hD]
        clear hW2 hD y0 y1 y2 y3 y4 y5 y6
        cases r with
        | true =>
          go_wp2_with (go_at_call 13; refine HCA.out.mono ?_; rintro e w5 ⟨rfl, hk5⟩; have HK5 := Lib.hid hk5; clear hk5)
          exact ⟨⟨i + 1, by simp, by omega, fun j hj h h' => by
            by_cases e : j = i
            · subst e; exact HR.out
            · exact HALL.out j (by omega) h h', (HK.out.trans HKC.out).trans HK5.out⟩, by simp only [intOf]; omega⟩
        | false =>
          go_wp2_with (go_at_call 13; refine HCA.out.mono ?_; rintro e w5 ⟨rfl, hk5⟩; have HK5 := Lib.hid hk5; clear hk5)
          go_ret
          exact ⟨by rw [HAT.out HR.out]; rfl, (HK.out.trans HKC.out).trans HK5.out⟩
      · have hnl : ¬ (i : Int) < l.length := by omega
        clear hk hall
        go_wp2_with fail
        go_ret
        exact ⟨by rw [sameL_all HNE.out fun j h h' => HALL.out j (by omega) h h']; rfl, HK.out⟩
  · have hnb : ((l.length : Int) != (m.length : Int)) = true := by simpa using fun e : (l.length : Int) = m.length => hne (by omega)
    have HNE := Lib.hid hne
    clear hne
    go_enter Tryz.func35, Tryz.ntmps35
    go_wp2_with fail
    go_ret
    exact ⟨by rw [sameL_len HNE.out]; rfl, KeepBut.refl _ _⟩

set_option maxHeartbeats 16000000 in
theorem says_any : ∀ (n : Nat) (x : Ex), exSize x ≤ n → n ≤ 1099511627776 → Says x := by
  intro n
  induction n with
  | zero => intro x hx; cases x; unfold exSize at hx; omega
  | succ n ih =>
    intro x hx hn y w S T vs us hex hey
    obtain ⟨xk, xo, xn, xm, xl, xc, ks⟩ := x
    obtain ⟨yk, yo, yn, ym, yl, yc, ls⟩ := y
    unfold ExAt at hex hey
    obtain ⟨p, c, rfl, hp⟩ := hex
    obtain ⟨q, d, rfl, hq⟩ := hey
    have hsz : sizeL ks ≤ n := by unfold exSize at hx; omega
    have hlen := len_size ks
    obtain ⟨V1, B1, hV1, hB1, hb1, hk1, hs1⟩ := fresh_block w (.cells #[.int .i64 xk, .int .i64 xo, .int .i64 xn, strV xm, .slice p ks.length c, .int .i64 xl, .int .i64 xc] TEx)
    obtain ⟨V, B2, hV, hB2, hb2, hk2, hs2⟩ := fresh_block V1 (.cells #[.int .i64 yk, .int .i64 yo, .int .i64 yn, strV ym, .slice q ls.length d, .int .i64 yl, .int .i64 yc] TEx)
    have hk := hk1.trans hk2
    have HEQ := Lib.hid (equalE_any ks ls (fun i h => ih ks[i] (by have := size_mem h; omega) (by omega)) (by omega) V S T p q c d (hp.keep hk fun _ _ e => e) (hq.keep hk fun _ _ e => e))
    have h12 : B1 + 1 = B2 := by omega
    have HK := Lib.hid hk; have HB1 := Lib.hid (hk2.blk hb1); have HB2 := Lib.hid hb2
    obtain ⟨sm, hsm⟩ : ∃ b, sameL ks ls = b := ⟨_, rfl⟩
    have hsame : sameE (.mk xk xo xn xm xl xc ks) (.mk yk yo yn ym yl yc ls) = (decide (xk = yk) && (decide (xo = yo) && (decide (xn = yn) && (decide (xm = ym) && sm)))) := by unfold sameE; rw [hsm]
    rw [hsame]
    rw [hsm] at HEQ
    unfold strV at HB1 HB2 hV1 hV ⊢
    clear ih hx hn hp hq hsz hlen hb1 hb2 hk1 hk2 hs1 hs2 hk hsm hsame
    by_cases h1 : xk = yk
    · subst h1
      rw [decide_eq_true (rfl : xk = xk), Bool.true_and]
      by_cases h2 : xo = yo
      · subst h2
        rw [decide_eq_true (rfl : xo = xo), Bool.true_and]
        by_cases h3 : xn = yn
        · subst h3
          rw [decide_eq_true (rfl : xn = xn), Bool.true_and]
          by_cases h4 : xm = ym
          · subst h4
            rw [decide_eq_true (rfl : xm = xm), Bool.true_and]
            obtain ⟨n0, n1, n2, n3, n4, n5, n6, -⟩ := blk7 HB1.out
            obtain ⟨m0, m1, m2, m3, m4, m5, m6, -⟩ := blk7 HB2.out
            go_enter Tryz.func13, Tryz.ntmps13
            go_upto_region 1 with fail
            rw [← hV1, ← hB1, ← hV, h12]
            clear hV1 hB1 hV hB2 h12
            go_wp2_with (go_at_call 35; refine HEQ.out.mono ?_; rintro e w5 ⟨rfl, hk5⟩; have HK5 := Lib.hid hk5; clear hk5)
            go_ret
            exact ⟨rfl, HK.out.trans HK5.out⟩
          · rw [decide_eq_false h4, Bool.false_and]
            obtain ⟨n0, n1, n2, n3, n4, n5, n6, -⟩ := blk7 HB1.out
            obtain ⟨m0, m1, m2, m3, m4, m5, m6, -⟩ := blk7 HB2.out
            go_enter Tryz.func13, Tryz.ntmps13
            go_upto_region 1 with fail
            rw [← hV1, ← hB1, ← hV, h12]
            clear hV1 hB1 hV hB2 h12
            go_wp2_with fail
            go_ret
            exact ⟨rfl, HK.out⟩
        · rw [decide_eq_false h3, Bool.false_and]
          have h3b : ((xn : Int) == (yn : Int)) = false := by rw [beq_eq_false_iff_ne]; omega
          obtain ⟨n0, n1, n2, n3, n4, n5, n6, -⟩ := blk7 HB1.out
          obtain ⟨m0, m1, m2, m3, m4, m5, m6, -⟩ := blk7 HB2.out
          go_enter Tryz.func13, Tryz.ntmps13
          go_upto_region 1 with fail
          rw [← hV1, ← hB1, ← hV, h12]
          clear hV1 hB1 hV hB2 h12
          go_wp2_with fail
          go_ret
          exact ⟨rfl, HK.out⟩
      · rw [decide_eq_false h2, Bool.false_and]
        have h2b : ((xo : Int) == (yo : Int)) = false := by rw [beq_eq_false_iff_ne]; omega
        obtain ⟨n0, n1, n2, n3, n4, n5, n6, -⟩ := blk7 HB1.out
        obtain ⟨m0, m1, m2, m3, m4, m5, m6, -⟩ := blk7 HB2.out
        go_enter Tryz.func13, Tryz.ntmps13
        go_upto_region 1 with fail
        rw [← hV1, ← hB1, ← hV, h12]
        clear hV1 hB1 hV hB2 h12
        go_wp2_with fail
        go_ret
        exact ⟨rfl, HK.out⟩
    · rw [decide_eq_false h1, Bool.false_and]
      have h1b : ((xk : Int) == (yk : Int)) = false := by rw [beq_eq_false_iff_ne]; omega
      obtain ⟨n0, n1, n2, n3, n4, n5, n6, -⟩ := blk7 HB1.out
      obtain ⟨m0, m1, m2, m3, m4, m5, m6, -⟩ := blk7 HB2.out
      go_enter Tryz.func13, Tryz.ntmps13
      go_upto_region 1 with fail
      rw [← hV1, ← hB1, ← hV, h12]
      clear hV1 hB1 hV hB2 h12
      go_wp2_with fail
      go_ret
      exact ⟨rfl, HK.out⟩

end Go.Proofs.YtomlffobbkcmdaaGreatDoor
