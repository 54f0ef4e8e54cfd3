/- Joined texts of this work: Sa7, Sa8, Lv17, Lw17. -/
import Derived.Test.YtomlffobbkcmdaaGreatDoorJn21
import Derived.Test.YtomlffobbkcmdaaGreatDoorJn16

/-
  Package parse: weighAll.
-/
namespace Go.Proofs.YtomlffobbkcmdaaGreatDoor
open Go Go.RowKit Own

mutual
def stSize : St → Nat
  | .mk _ _ _ _ _ _ _ xs thn els _ _ => sizeL xs + stsSize thn + stsSize els + 1
def stsSize : List St → Nat
  | [] => 0
  | s :: l => stSize s + stsSize l
end
mutual
def stDeep : St → Nat
  | .mk _ _ _ _ _ _ _ xs thn els _ _ => max (max (deepL xs) (stsDeep thn)) (stsDeep els) + 1
def stsDeep : List St → Nat
  | [] => 0
  | s :: l => max (stDeep s) (stsDeep l)
end
theorem stsSize_take {l : List St} {i : Nat} (h : i < l.length) : stsSize (l.take (i + 1)) = stsSize (l.take i) + stSize l[i] := by
  induction l generalizing i with
  | nil => cases h
  | cons x l ih =>
    cases i with
    | zero => simp [stsSize]
    | succ i =>
      have h' : i < l.length := by simpa using h
      simp only [List.take_succ_cons, stsSize, List.getElem_cons_succ]
      rw [ih h']
      omega
theorem stsDeep_take {l : List St} {i : Nat} (h : i < l.length) : stsDeep (l.take (i + 1)) = max (stsDeep (l.take i)) (stDeep l[i]) := by
  induction l generalizing i with
  | nil => cases h
  | cons x l ih =>
    cases i with
    | zero => simp [stsDeep]
    | succ i =>
      have h' : i < l.length := by simpa using h
      simp only [List.take_succ_cons, stsDeep, List.getElem_cons_succ]
      rw [ih h']
      omega
theorem stsSize_mem {l : List St} {i : Nat} (h : i < l.length) : stSize l[i] ≤ stsSize l := by
  induction l generalizing i with
  | nil => cases h
  | cons x l ih =>
    cases i with
    | zero => simp [stsSize]
    | succ i =>
      have := ih (i := i) (by simpa using h)
      simp only [stsSize, List.getElem_cons_succ]
      omega
theorem stsSize_le {l : List St} (i : Nat) : stsSize (l.take i) ≤ stsSize l := by
  induction l generalizing i with
  | nil => simp [stsSize]
  | cons x l ih =>
    cases i with
    | zero => simp [stsSize]
    | succ i =>
      have := ih i
      simp only [List.take_succ_cons, stsSize]
      omega
theorem stsLen : ∀ l : List St, l.length ≤ stsSize l
  | [] => Nat.zero_le _
  | x :: l => by
    have := stsLen l
    have h1 : 1 ≤ stSize x := by cases x; unfold stSize; omega
    unfold stsSize
    rw [List.length_cons]; omega
mutual
theorem stDeep_le : ∀ s : St, stDeep s ≤ stSize s
  | .mk _ _ _ _ _ _ _ xs thn els _ _ => by
    have h1 := deepL_le xs
    have h2 := stsDeep_le thn
    have h3 := stsDeep_le els
    unfold stDeep stSize
    omega
theorem stsDeep_le : ∀ l : List St, stsDeep l ≤ stsSize l
  | [] => Nat.le_refl _
  | x :: l => by
    have h1 := stDeep_le x
    have h2 := stsDeep_le l
    unfold stsDeep stsSize
    omega
end
theorem sts_get {w : World} {S : Nat → Prop} {p : Option Addr} : ∀ {l : List St} {j : Nat}, StsAt w S p j l → ∀ i (h : i < l.length), ∃ g o vs, p = some ⟨g, o, none⟩ ∧ (∀ k v, vs[k]? = some v → w.cell? ⟨g, o + (j + i) * 12 + k, none⟩ = some v) ∧ StAt w S vs l[i]
  | x :: l, j, h, 0, _ => by
    unfold StsAt at h
    obtain ⟨⟨g, o, vs, h1, _, h3, h4⟩, _⟩ := h
    exact ⟨g, o, vs, h1, h3, h4⟩
  | x :: l, j, h, i + 1, hi => by
    unfold StsAt at h
    obtain ⟨g, o, vs, h1, h3, h4⟩ := sts_get h.2 i (by simpa using hi)
    refine ⟨g, o, vs, h1, fun k v hk => ?_, h4⟩
    rw [show j + (i + 1) = j + 1 + i by omega]
    exact h3 k v hk
  | [], _, _, i, hi => absurd hi (by simp)

def sz2 (thn els : List St) : Nat → Nat
  | 0 => 0
  | 1 => stsSize thn
  | _ => stsSize thn + stsSize els
def dp2 (thn els : List St) (d : Nat) : Nat → Nat
  | 0 => d
  | 1 => max d (stsDeep thn)
  | _ => max (max d (stsDeep thn)) (stsDeep els)
theorem blk2 {w : World} {B : Nat} {a b : Value} {T : TypeId} (h : w.heap[B]? = some (.cells #[a, b] T (0, 0))) : w.cell? ⟨B, 0, none⟩ = some a ∧ w.cell? ⟨B, 1, none⟩ = some b := by
  simp [World.cell?, h]
/-- what weighAll says of statements -/
def Weighs (l : List St) : Prop := ∀ (w : World) (S : Nat → Prop) (p : Option Addr) (c : Nat), StsAt w S p 0 l →
  Calls Tryz.prog 43 #[.slice p l.length c] w fun e w' => e = .returned (.tuple #[.int .i64 (stsSize l), .int .i64 (stsDeep l)]) ∧ KeepBut (fun _ => False) w w'

set_option maxRecDepth 4000 in
set_option maxHeartbeats 32000000 in
theorem weighs_step (l : List St) (hb : stsSize l ≤ 1099511627776) (ih : ∀ m, stsSize m < stsSize l → Weighs m) : Weighs l := by
  intro w S p c hp
  have HIH := Lib.hid ih; have HP := Lib.hid hp; have HBD := Lib.hid hb
  have HL := Lib.hid (stsLen l); have HDL := Lib.hid (stsDeep_le l)
  clear ih hp hb
  go_enter Tryz.func43, Tryz.ntmps43
  go_wp2_with fail
  go_loopw [2, 3, 17] (fun v2 v3 v17 wr => ∃ i : Nat, v2 = .int .i64 (stsSize (l.take i)) ∧ v3 = .int .i64 (stsDeep (l.take i)) ∧ v17 = .int .i64 i ∧ i ≤ l.length ∧ KeepBut (fun _ => False) w wr) (fun _ _ v _ => l.length - (intOf v).toNat)
  case atStart => exact ⟨0, rfl, rfl, rfl, Nat.zero_le _, KeepBut.refl _ _⟩
  case round =>
    obtain ⟨i, rfl, rfl, rfl, hi, hk⟩ := hrel
    have HK := Lib.hid hk
    by_cases hlt : i < l.length
    · have hlti : (i : Int) < l.length := by omega
      have hi0 : (0 : Int) ≤ i := by omega
      have hWi : IntKind.i64.wrap ((i : Int) + 1) = (i : Int) + 1 := IntWalk.i64_in _ (by have := HL.out; have := HBD.out; omega)
      obtain ⟨g, o, vs, hp, hc, hst⟩ := sts_get (HP.out.keep hk fun _ _ e => e) i hlt
      subst hp
      rw [Nat.zero_add] at hc
      have hme := stsSize_mem hlt
      have htk := stsSize_take hlt
      have hdt := stsDeep_take hlt
      have hle := stsSize_le (l := l) (i + 1)
      have hdl := stsDeep_le (l.take (i + 1))
      have hdl0 := stsDeep_le (l.take i)
      obtain ⟨s, hs⟩ : ∃ s, l[i] = s := ⟨_, rfl⟩
      rw [hs] at hst hme htk hdt
      clear hs
      obtain ⟨k, nm, sz, op, val, into, cont, xs, thn, els, ln, col⟩ := s
      have hss : stSize (.mk k nm sz op val into cont xs thn els ln col) = sizeL xs + stsSize thn + stsSize els + 1 := by unfold stSize; rfl
      have hsd : stDeep (.mk k nm sz op val into cont xs thn els ln col) = max (max (deepL xs) (stsDeep thn)) (stsDeep els) + 1 := by unfold stDeep; rfl
      rw [hss] at hme htk
      rw [hsd] at hdt
      unfold StAt at hst
      obtain ⟨p1, c1, p2, c2, p3, c3, rfl, hx, ht, he⟩ := hst
      unfold strV at hc
      obtain ⟨s0, hs0⟩ : ∃ s, stsSize (l.take i) = s := ⟨_, rfl⟩
      obtain ⟨d0, hd0⟩ : ∃ s, stsDeep (l.take i) = s := ⟨_, rfl⟩
      rw [hs0] at htk hdl0
      rw [hd0] at hdt hdl0
      rw [hs0, hd0]
      have x0 : wr.cell? ⟨g, o + i * 12, none⟩ = some (.int .i64 k) := hc 0 _ rfl
      have x1 := hc 1 _ rfl; have x2 := hc 2 _ rfl; have x3 := hc 3 _ rfl; have x4 := hc 4 _ rfl; have x5 := hc 5 _ rfl; have x6 := hc 6 _ rfl; have x7 := hc 7 _ rfl; have x8 := hc 8 _ rfl; have x9 := hc 9 _ rfl; have x10 := hc 10 _ rfl; have x11 := hc 11 _ rfl
      obtain ⟨W, C, hW, hC, hcb, hkc, hsc⟩ := fresh_block wr (.cells #[.int .i64 k, .string ⟨nm.toArray⟩, .int .i64 sz, .int .i64 op, .string ⟨val.toArray⟩, .string ⟨into.toArray⟩, .string ⟨cont.toArray⟩, .slice p1 xs.length c1, .slice p2 thn.length c2, .slice p3 els.length c3, .int .i64 ln, .int .i64 col] TSm)
      have HX := Lib.hid (hx.keep hkc fun _ _ e => e); have HT := Lib.hid (ht.keep hkc fun _ _ e => e); have HE := Lib.hid (he.keep hkc fun _ _ e => e)
      have HWT := Lib.hid (HIH.out thn (by omega)); have HWE := Lib.hid (HIH.out els (by omega))
      have HB := Lib.hid hcb
      have HKC := Lib.hid (hk.trans hkc)
      have hxl := len_size xs
      have hxd := deepL_le xs
      have htd := stsDeep_le thn
      have hed := stsDeep_le els
      have HSZ := Lib.hid (show s0 + sizeL xs + stsSize thn + stsSize els + 1 ≤ 1099511627776 by have := HBD.out; omega)
      have HDP := Lib.hid (And.intro hxl (And.intro hxd (And.intro htd (And.intro hed hdl0))))
      have HTK := Lib.hid htk; have HDT := Lib.hid hdt
      obtain ⟨lx, hlx⟩ : ∃ n, xs.length = n := ⟨_, rfl⟩
      obtain ⟨n0, n1, n2, n3, n4, n5, n6, n7, n8, n9, n10, n11⟩ := blk12 hcb
      clear hc hx ht he hk hkc hsc hcb hme htk hdt hle hdl hdl0 hs0 hd0 hss hsd hxl hxd htd hed hlx
      go_upto_region 4 with fail
      rw [← hW, ← hC]
      clear hW hC x0 x1 x2 x3 x4 x5 x6 x7 x8 x9 x10 x11
      go_wp2_with fail
      go_loopw [2, 6, 24] (fun v2 v6 v24 wx => ∃ j : Nat, v2 = .int .i64 ((s0 + sizeL (xs.take j) : Nat) : Int) ∧ v6 = .int .i64 (deepL (xs.take j)) ∧ v24 = .int .i64 j ∧ j ≤ xs.length ∧ KeepBut (fun _ => False) W wx) (fun _ _ v _ => xs.length - (intOf v).toNat)
      case atStart => exact ⟨0, by simp [sizeL], rfl, rfl, Nat.zero_le _, KeepBut.refl _ _⟩
      case round =>
        obtain ⟨j, rfl, rfl, rfl, hj, hk⟩ := hrel
        have HKX := Lib.hid hk
        by_cases hjl : j < xs.length
        · have hjli : (j : Int) < xs.length := by omega
          have hj0 : (0 : Int) ≤ j := by omega
          have hWj : IntKind.i64.wrap ((j : Int) + 1) = (j : Int) + 1 := IntWalk.i64_in _ (by have := HDP.out.1; have := HSZ.out; omega)
          obtain ⟨g, o, vs, hp, hc, hex⟩ := kids_get (HX.out.keep hk fun _ _ e => e) j hjl
          subst hp
          rw [Nat.zero_add] at hc
          obtain ⟨yk, yo, yn, yS, yp, ym, yc, yl, ycl, rfl⟩ := ex_form hex
          have x0 : wr.cell? ⟨g, o + j * 7, none⟩ = some (.int .i64 yk) := hc 0 _ rfl
          have x1 := hc 1 _ rfl; have x2 := hc 2 _ rfl; have x3 := hc 3 _ rfl; have x4 := hc 4 _ rfl; have x5 := hc 5 _ rfl; have x6 := hc 6 _ rfl
          obtain ⟨W2, C2, hW, hC, hcb, hkc, hsc⟩ := fresh_block wr (.cells #[.int .i64 yk, .int .i64 yo, .int .i64 yn, .string yS, .slice yp ym yc, .int .i64 yl, .int .i64 ycl] TEx)
          have hme := size_mem hjl
          have HCA := Lib.hid (weigh_any 1099511627776 xs[j] (by have := HSZ.out; omega) (Nat.le_refl _) W2 S _ (hex.keep hkc fun _ _ e => e))
          have HKC2 := Lib.hid hkc
          have hst := sizeL_take hjl
          have hdt := deepL_take hjl
          have hle := sizeL_le (l := xs) (j + 1)
          obtain ⟨s1, hs1⟩ : ∃ s, exSize xs[j] = s := ⟨_, rfl⟩
          obtain ⟨d1, hd1⟩ : ∃ s, exDeep xs[j] = s := ⟨_, rfl⟩
          obtain ⟨t0, ht0⟩ : ∃ s, s0 + sizeL (xs.take j) = s := ⟨_, rfl⟩
          obtain ⟨e0, he0⟩ : ∃ s, deepL (xs.take j) = s := ⟨_, rfl⟩
          rw [hs1] at hst
          rw [hd1, he0] at hdt
          rw [hs1, hd1] at HCA
          rw [ht0, he0]
          have hWs : IntKind.i64.wrap ((t0 : Int) + s1) = (t0 : Int) + s1 := IntWalk.i64_in _ (by have := HSZ.out; omega)
          have HST := Lib.hid (show s0 + sizeL (xs.take (j + 1)) = t0 + s1 by omega); have HDT2 := Lib.hid hdt
          obtain ⟨m0, m1, m2, m3, m4, m5, m6, -⟩ := blk7 hcb
          clear hc hex hk hsc hcb hme hst hdt hle hs1 hd1 ht0 he0 hkc
          go_upto_region 8 with fail
          rw [← hW, ← hC]
          clear hW hC x0 x1 x2 x3 x4 x5 x6
          go_wp2_with (go_at_call 34; refine HCA.out.mono ?_; rintro e w5 ⟨rfl, hk5⟩; have HK5 := Lib.hid hk5; clear hk5)
          refine ⟨⟨j + 1, by rw [HST.out]; simp, ?_, by simp, by omega, (HKX.out.trans HKC2.out).trans HK5.out⟩, by simp only [intOf]; omega⟩
          rw [HDT2.out]
          show Value.int _ _ = _
          congr 1
          omega
        · have hnl : ¬ (j : Int) < xs.length := by omega
          have e : j = xs.length := by omega
          rw [e, List.take_length]
          have hb0 := hk.blk HB.out
          obtain ⟨n0, n1, n2, n3, n4, n5, n6, n7, n8, n9, n10, n11⟩ := blk12 hb0
          clear e hb0
          obtain ⟨t0, ht0⟩ : ∃ s, s0 + sizeL xs = s := ⟨_, rfl⟩
          obtain ⟨e0, he0⟩ : ∃ s, deepL xs = s := ⟨_, rfl⟩
          rw [ht0, he0]
          have HSZ2 := Lib.hid (show t0 + (stsSize thn + stsSize els) + 1 ≤ 1099511627776 ∧ e0 ≤ t0 by have := HSZ.out; have := HDP.out; omega)
          have HTT := Lib.hid (And.intro ht0 he0)
          obtain ⟨W3, D, hW3, hD, hbd, hkd, hsd⟩ := fresh_block wr (.cells #[.slice p2 thn.length c2, .slice p3 els.length c3] TSs)
          have HBD2 := Lib.hid hbd; have HKB := Lib.hid (hk.trans hkd)
          clear hk hbd hkd hsd ht0 he0
          go_wp2_with fail
          rw [← hW3, ← hD]
          clear hW3 hD n0 n1 n2 n3 n4 n5 n6 n7 n8 n9 n10 n11
          go_loopw [2, 6, 46] (fun v2 v6 v46 wy => ∃ j : Nat, v2 = .int .i64 ((t0 + sz2 thn els j : Nat) : Int) ∧ v6 = .int .i64 (dp2 thn els e0 j) ∧ v46 = .int .i64 j ∧ j ≤ 2 ∧ KeepBut (fun _ => False) W3 wy) (fun _ _ v _ => 2 - (intOf v).toNat)
          case atStart => exact ⟨0, rfl, rfl, rfl, by omega, KeepBut.refl _ _⟩
          case round =>
            obtain ⟨j, rfl, rfl, rfl, hj, hk⟩ := hrel
            have HKX := Lib.hid hk
            by_cases j0 : j = 0
            · subst j0
              have HCA := Lib.hid (HWT.out wr S p2 c2 (HT.out.keep (HKB.out.trans hk) fun _ _ e => e))
              have hy := hk.blk HBD2.out
              obtain ⟨y0, y1⟩ := blk2 hy
              obtain ⟨z1, hz1⟩ : ∃ s, stsSize thn = s := ⟨_, rfl⟩
              obtain ⟨e1, he1⟩ : ∃ s, stsDeep thn = s := ⟨_, rfl⟩
              rw [hz1, he1] at HCA
              obtain ⟨t1, ht1⟩ : ∃ s, t0 + sz2 thn els 0 = s := ⟨_, rfl⟩
              obtain ⟨f1, hf1⟩ : ∃ s, dp2 thn els e0 0 = s := ⟨_, rfl⟩
              rw [ht1, hf1]
              have HST := Lib.hid (show t0 + sz2 thn els (0 + 1) = t1 + z1 by rw [← ht1, ← hz1]; simp only [sz2]; omega)
              have HDT2 := Lib.hid (show dp2 thn els e0 (0 + 1) = max f1 e1 by rw [← hf1, ← he1]; rfl)
              have hWs : IntKind.i64.wrap ((t1 : Int) + z1) = (t1 : Int) + z1 := IntWalk.i64_in _ (by have h := HSZ2.out; have h2 := HST.out; simp only [sz2] at h2; omega)
              clear hk hy hz1 he1 ht1 hf1
              go_wp2_with (go_at_call 43; refine HCA.out.mono ?_; rintro e w5 ⟨rfl, hk5⟩; have HK5 := Lib.hid hk5; clear hk5)
              refine ⟨⟨0 + 1, by rw [HST.out]; simp, ?_, by simp, by omega, HKX.out.trans HK5.out⟩, by simp only [intOf]; omega⟩
              rw [HDT2.out]
              show Value.int _ _ = _
              congr 1
              omega
            · by_cases j1 : j = 1
              · subst j1
                have HCA := Lib.hid (HWE.out wr S p3 c3 (HE.out.keep (HKB.out.trans hk) fun _ _ e => e))
                have hy := hk.blk HBD2.out
                obtain ⟨y0, y1⟩ := blk2 hy
                obtain ⟨z1, hz1⟩ : ∃ s, stsSize els = s := ⟨_, rfl⟩
                obtain ⟨e1, he1⟩ : ∃ s, stsDeep els = s := ⟨_, rfl⟩
                rw [hz1, he1] at HCA
                obtain ⟨t1, ht1⟩ : ∃ s, t0 + sz2 thn els 1 = s := ⟨_, rfl⟩
                obtain ⟨f1, hf1⟩ : ∃ s, dp2 thn els e0 1 = s := ⟨_, rfl⟩
                rw [ht1, hf1]
                have HST := Lib.hid (show t0 + sz2 thn els (1 + 1) = t1 + z1 by rw [← ht1, ← hz1]; simp only [sz2]; omega)
                have HDT2 := Lib.hid (show dp2 thn els e0 (1 + 1) = max f1 e1 by rw [← hf1, ← he1]; rfl)
                have hWs : IntKind.i64.wrap ((t1 : Int) + z1) = (t1 : Int) + z1 := IntWalk.i64_in _ (by have h := HSZ2.out; have h2 := HST.out; simp only [sz2] at h2; omega)
                clear hk hy hz1 he1 ht1 hf1
                go_wp2_with (go_at_call 43; refine HCA.out.mono ?_; rintro e w5 ⟨rfl, hk5⟩; have HK5 := Lib.hid hk5; clear hk5)
                refine ⟨⟨1 + 1, by rw [HST.out]; simp, ?_, by simp, by omega, HKX.out.trans HK5.out⟩, by simp only [intOf]; omega⟩
                rw [HDT2.out]
                show Value.int _ _ = _
                congr 1
                omega
              · have j2 : j = 2 := by omega
                subst j2
                have hd9 := HDP.out
                have hw1 : IntKind.i64.wrap (((t0 + sz2 thn els 2 : Nat) : Int) + 1) = ((t0 + sz2 thn els 2 : Nat) : Int) + 1 := IntWalk.i64_in _ (by have := HSZ2.out; simp only [sz2]; omega)
                have hw2 : IntKind.i64.wrap (((dp2 thn els e0 2 : Nat) : Int) + 1) = ((dp2 thn els e0 2 : Nat) : Int) + 1 := IntWalk.i64_in _ (by have := HSZ2.out; simp only [dp2]; omega)
                have HST := Lib.hid (show stsSize (l.take (i + 1)) = (t0 + sz2 thn els 2) + 1 by rw [HTK.out, ← HTT.out.1]; simp only [sz2]; omega)
                have HDT3 := Lib.hid (show stsDeep (l.take (i + 1)) = max d0 (dp2 thn els e0 2 + 1) by rw [HDT.out, ← HTT.out.2]; simp only [dp2])
                obtain ⟨z9, hz9⟩ : ∃ s, t0 + sz2 thn els 2 = s := ⟨_, rfl⟩
                obtain ⟨f9, hf9⟩ : ∃ s, dp2 thn els e0 2 = s := ⟨_, rfl⟩
                rw [hz9] at hw1 HST ⊢
                rw [hf9] at hw2 HDT3 ⊢
                clear hk hd9 hz9 hf9
                go_wp2_with fail
                refine ⟨⟨i + 1, by rw [HST.out]; simp, ?_, by simp, by omega, (HKC.out.trans HKB.out).trans HKX.out⟩, by simp only [intOf]; omega⟩
                rw [HDT3.out]
                show Value.int _ _ = _
                congr 1
                omega
    · have hnl : ¬ (i : Int) < l.length := by omega
      have e : i = l.length := by omega
      rw [e, List.take_length]
      clear hk e
      go_wp2_with fail
      go_ret2
      exact ⟨rfl, HK.out⟩

theorem weighs_any (l : List St) (hb : stsSize l ≤ 1099511627776) : Weighs l := by
  induction h : stsSize l using Nat.strongRecOn generalizing l with
  | _ n ih => exact weighs_step l hb fun m hm => ih _ (by omega) m (by omega) rfl

end Go.Proofs.YtomlffobbkcmdaaGreatDoor

/-
  Package parse: Size, Deep; reading a program.
-/
namespace Go.Proofs.YtomlffobbkcmdaaGreatDoor
open Go Go.RowKit Own

def thsSize : List (List St) → Nat
  | [] => 0
  | b :: l => stsSize b + thsSize l
def thsDeep : List (List St) → Nat
  | [] => 0
  | b :: l => max (stsDeep b) (thsDeep l)
theorem thsSize_take {l : List (List St)} {i : Nat} (h : i < l.length) : thsSize (l.take (i + 1)) = thsSize (l.take i) + stsSize l[i] := by
  induction l generalizing i with
  | nil => cases h
  | cons x l ih =>
    cases i with
    | zero => simp [thsSize]
    | succ i =>
      have h' : i < l.length := by simpa using h
      simp only [List.take_succ_cons, thsSize, List.getElem_cons_succ]
      rw [ih h']
      omega
theorem thsDeep_take {l : List (List St)} {i : Nat} (h : i < l.length) : thsDeep (l.take (i + 1)) = max (thsDeep (l.take i)) (stsDeep l[i]) := by
  induction l generalizing i with
  | nil => cases h
  | cons x l ih =>
    cases i with
    | zero => simp [thsDeep]
    | succ i =>
      have h' : i < l.length := by simpa using h
      simp only [List.take_succ_cons, thsDeep, List.getElem_cons_succ]
      rw [ih h']
      omega
theorem thsSize_le {l : List (List St)} (i : Nat) : thsSize (l.take i) ≤ thsSize l := by
  induction l generalizing i with
  | nil => simp [thsSize]
  | cons x l ih =>
    cases i with
    | zero => simp [thsSize]
    | succ i =>
      have := ih i
      simp only [List.take_succ_cons, thsSize]
      omega
theorem ths_get {w : World} {S : Nat → Prop} {q : Option Addr} {l : List (List St)} (h : ThsAt w S q l) (i : Nat) (hi : i < l.length) : ∃ g p c, q = some ⟨g, 0, none⟩ ∧ w.cell? ⟨g, i, none⟩ = some (.slice p l[i].length c) ∧ StsAt w S p 0 l[i] := by
  obtain ⟨sl, h1, h2, h3⟩ := h
  rcases h2 with rfl | ⟨g, e, -, hc⟩
  · cases hi
  · obtain ⟨p, c, e1, e2⟩ := h3 i (by omega) hi
    exact ⟨g, p, c, e, hc i _ (by rw [← e1]; exact List.getElem?_eq_getElem (by omega)), e2⟩

set_option maxHeartbeats 8000000 in
theorem size_any (ths : List (List St)) (hb : thsSize ths ≤ 1099511627776) (hl : ths.length ≤ 1000000) (w : World) (S : Nat → Prop) (q : Option Addr) (d : Nat) (pool : Int) (p : Option Addr) (n c : Nat) (h : ThsAt w S q ths) :
    Calls Tryz.prog 18 #[.agg #[.int .i64 pool, .slice p n c, .slice q ths.length d]] w fun e w' => e = .returned (.int .i64 (thsSize ths)) ∧ KeepBut (fun _ => False) w w' := by
  obtain ⟨V, B1, hV, hB1, hb1, hk1, hs1⟩ := fresh_block w (.cells #[.int .i64 pool, .slice p n c, .slice q ths.length d] TPr)
  have HTH := Lib.hid (h.keepS (w' := V) (S' := S) (fun b o v _ hc => hk1.stay hc) fun b hb => hb)
  have HB := Lib.hid hb; have HL := Lib.hid hl; have HK1 := Lib.hid hk1
  obtain ⟨n0, n1, n2, -⟩ := blk3f hb1
  clear h hb hl hb1 hk1 hs1
  go_enter Tryz.func18, Tryz.ntmps18
  go_upto_region 1 with fail
  rw [← hV, ← hB1]
  clear hV hB1
  go_wp2_with fail
  go_loopw [2, 10] (fun v2 v10 wr => ∃ i : Nat, v2 = .int .i64 (thsSize (ths.take i)) ∧ v10 = .int .i64 i ∧ i ≤ ths.length ∧ KeepBut (fun _ => False) V wr) (fun _ v _ => ths.length - (intOf v).toNat)
  case atStart => exact ⟨0, rfl, rfl, Nat.zero_le _, KeepBut.refl _ _⟩
  case round =>
    obtain ⟨i, rfl, rfl, hi, hk⟩ := hrel
    have HK := Lib.hid hk
    by_cases hlt : i < ths.length
    · have hlti : (i : Int) < ths.length := by omega
      have hi0 : (0 : Int) ≤ i := by omega
      have hWi : IntKind.i64.wrap ((i : Int) + 1) = (i : Int) + 1 := IntWalk.i64_in _ (by have := HL.out; omega)
      obtain ⟨g, p', c', rfl, hc, hst⟩ := ths_get (HTH.out.keepS (w' := wr) (S' := S) (fun b o v _ hc => hk.stay hc) fun b hb => hb) i hlt
      have htk := thsSize_take hlt
      have hle := thsSize_le (l := ths) (i + 1)
      have hdt := thsSize_take hlt
      have HCA := Lib.hid (weighs_any ths[i] (by have := HB.out; omega) wr S p' c' hst)
      obtain ⟨s1, hs1⟩ : ∃ s, stsSize ths[i] = s := ⟨_, rfl⟩
      obtain ⟨d1, hd1⟩ : ∃ s, stsDeep ths[i] = s := ⟨_, rfl⟩
      obtain ⟨s0, hs0⟩ : ∃ s, thsSize (ths.take i) = s := ⟨_, rfl⟩
      rw [hs1, hd1] at HCA
      rw [hs1, hs0] at hdt
      rw [hs1] at htk
      rw [hs0]
      have hWs : IntKind.i64.wrap ((s0 : Int) + s1) = (s0 : Int) + s1 := IntWalk.i64_in _ (by have := HB.out; omega)
      have HST := Lib.hid hdt
      clear hst hk htk hdt hle hs1 hd1 hs0
      go_wp2_with (go_at_call 43; refine HCA.out.mono ?_; rintro e w5 ⟨rfl, hk5⟩; have HK5 := Lib.hid hk5; clear hk5)
      refine ⟨⟨i + 1, ?_, by simp, by omega, HK.out.trans HK5.out⟩, by simp only [intOf]; omega⟩
      rw [HST.out]
      show Value.int _ _ = _
      congr 1
      all_goals omega
    · have hnl : ¬ (i : Int) < ths.length := by omega
      have e : i = ths.length := by omega
      rw [e, List.take_length]
      clear hk e
      go_wp2_with fail
      go_ret
      exact ⟨rfl, HK1.out.trans HK.out⟩

set_option maxHeartbeats 8000000 in
theorem deep_any (ths : List (List St)) (hb : thsSize ths ≤ 1099511627776) (hl : ths.length ≤ 1000000) (w : World) (S : Nat → Prop) (q : Option Addr) (d : Nat) (pool : Int) (p : Option Addr) (n c : Nat) (h : ThsAt w S q ths) :
    Calls Tryz.prog 19 #[.agg #[.int .i64 pool, .slice p n c, .slice q ths.length d]] w fun e w' => e = .returned (.int .i64 (thsDeep ths)) ∧ KeepBut (fun _ => False) w w' := by
  obtain ⟨V, B1, hV, hB1, hb1, hk1, hs1⟩ := fresh_block w (.cells #[.int .i64 pool, .slice p n c, .slice q ths.length d] TPr)
  have HTH := Lib.hid (h.keepS (w' := V) (S' := S) (fun b o v _ hc => hk1.stay hc) fun b hb => hb)
  have HB := Lib.hid hb; have HL := Lib.hid hl; have HK1 := Lib.hid hk1
  obtain ⟨n0, n1, n2, -⟩ := blk3f hb1
  clear h hb hl hb1 hk1 hs1
  go_enter Tryz.func19, Tryz.ntmps19
  go_upto_region 1 with fail
  rw [← hV, ← hB1]
  clear hV hB1
  go_wp2_with fail
  go_loopw [2, 10] (fun v2 v10 wr => ∃ i : Nat, v2 = .int .i64 (thsDeep (ths.take i)) ∧ v10 = .int .i64 i ∧ i ≤ ths.length ∧ KeepBut (fun _ => False) V wr) (fun _ v _ => ths.length - (intOf v).toNat)
  case atStart => exact ⟨0, rfl, rfl, Nat.zero_le _, KeepBut.refl _ _⟩
  case round =>
    obtain ⟨i, rfl, rfl, hi, hk⟩ := hrel
    have HK := Lib.hid hk
    by_cases hlt : i < ths.length
    · have hlti : (i : Int) < ths.length := by omega
      have hi0 : (0 : Int) ≤ i := by omega
      have hWi : IntKind.i64.wrap ((i : Int) + 1) = (i : Int) + 1 := IntWalk.i64_in _ (by have := HL.out; omega)
      obtain ⟨g, p', c', rfl, hc, hst⟩ := ths_get (HTH.out.keepS (w' := wr) (S' := S) (fun b o v _ hc => hk.stay hc) fun b hb => hb) i hlt
      have htk := thsSize_take hlt
      have hle := thsSize_le (l := ths) (i + 1)
      have hdt := thsDeep_take hlt
      have HCA := Lib.hid (weighs_any ths[i] (by have := HB.out; omega) wr S p' c' hst)
      obtain ⟨s1, hs1⟩ : ∃ s, stsSize ths[i] = s := ⟨_, rfl⟩
      obtain ⟨d1, hd1⟩ : ∃ s, stsDeep ths[i] = s := ⟨_, rfl⟩
      obtain ⟨s0, hs0⟩ : ∃ s, thsDeep (ths.take i) = s := ⟨_, rfl⟩
      rw [hs1, hd1] at HCA
      rw [hd1, hs0] at hdt
      rw [hs1] at htk
      rw [hs0]
      skip
      have HST := Lib.hid hdt
      clear hst hk htk hdt hle hs1 hd1 hs0
      go_wp2_with (go_at_call 43; refine HCA.out.mono ?_; rintro e w5 ⟨rfl, hk5⟩; have HK5 := Lib.hid hk5; clear hk5)
      refine ⟨⟨i + 1, ?_, by simp, by omega, HK.out.trans HK5.out⟩, by simp only [intOf]; omega⟩
      rw [HST.out]
      show Value.int _ _ = _
      congr 1
      all_goals omega
    · have hnl : ¬ (i : Int) < ths.length := by omega
      have e : i = ths.length := by omega
      rw [e, List.take_length]
      clear hk e
      go_wp2_with fail
      go_ret
      exact ⟨rfl, HK1.out.trans HK.out⟩

/-- a program in memory -/
def PrgAt (w : World) (S : Nat → Prop) (vs : List Value) (pr : Pr) : Prop := ∃ p c q d, vs = [.int .i64 pr.pool, .slice p pr.conts.length c, .slice q pr.threads.length d] ∧ CtsAt w S p pr.conts ∧ ThsAt w S q pr.threads
theorem PrgAt.keep {E : Nat → Prop} {w w' : World} {S : Nat → Prop} (k : KeepBut E w w') (hE : ∀ b, S b → ¬ E b) {vs : List Value} {e : Pr} (h : PrgAt w S vs e) : PrgAt w' S vs e := by
  obtain ⟨p, c, q, d, h1, h2, h3⟩ := h
  exact ⟨p, c, q, d, h1, h2.keepS (fun b _ _ hb hc => k.cell hc (hE b hb)) fun b hb => hb, h3.keepS (fun b _ _ hb hc => k.cell hc (hE b hb)) fun b hb => hb⟩
theorem PrgAt.mono {w : World} {S S' : Nat → Prop} (hS : ∀ b, S b → S' b) {vs : List Value} {e : Pr} (h : PrgAt w S vs e) : PrgAt w S' vs e := by
  obtain ⟨p, c, q, d, h1, h2, h3⟩ := h
  exact ⟨p, c, q, d, h1, h2.keepS (fun _ _ _ _ hc => hc) hS, h3.keepS (fun _ _ _ _ hc => hc) hS⟩
theorem prg_form {w : World} {S : Nat → Prop} {vs : List Value} {pr : Pr} (h : PrgAt w S vs pr) : ∃ n p k c q m d, vs = [.int .i64 n, .slice p k c, .slice q m d] := by
  obtain ⟨p, c, q, d, h1, -⟩ := h
  exact ⟨_, _, _, _, _, _, _, h1⟩

/-- what program does with these tokens -/
def ReadsP (R el ec : Nat) (its : List Item) (pr : Pr) : Prop := ∀ (w : World), ReaderAt w R its el ec →
    Calls Tryz.prog 37 #[rdV R] w fun e w' => ∃ vs, e = .returned (.agg vs.toArray) ∧ PrgAt w' (fun b => w.heap.size ≤ b) vs pr ∧ KeepBut (fun b => b = R) w w'

set_option maxHeartbeats 8000000 in
theorem weighP_any (pr : Pr) (hb : thsSize pr.threads ≤ 1099511627776) (hl : pr.threads.length ≤ 1000000) (w : World) (S : Nat → Prop) (vs : List Value) (h : PrgAt w S vs pr) :
    Calls Tryz.prog 38 #[.agg vs.toArray] w fun e w' => e = .returned (.tuple #[.int .i64 (thsSize pr.threads), .int .i64 (thsDeep pr.threads)]) ∧ KeepBut (fun _ => False) w w' := by
  obtain ⟨p, c, q, d, rfl, -, hth⟩ := h
  obtain ⟨V, B1, hV, hB1, hb1, hk1, hs1⟩ := fresh_block w (.cells #[.int .i64 pr.pool, .slice p pr.conts.length c, .slice q pr.threads.length d] TPr)
  have HTH := Lib.hid (fun W (k : KeepBut (fun _ => False) V W) => hth.keepS (w' := W) (S' := S) (fun b o v _ hc => (hk1.trans k).stay hc) fun b hb => hb)
  have HSI := Lib.hid (fun W (k : KeepBut (fun _ => False) V W) => size_any pr.threads hb hl W S q d pr.pool p pr.conts.length c (HTH.out W k))
  have HDE := Lib.hid (fun W (k : KeepBut (fun _ => False) V W) => deep_any pr.threads hb hl W S q d pr.pool p pr.conts.length c (HTH.out W k))
  have HB1 := Lib.hid hb1; have HK1 := Lib.hid hk1
  clear hth hb hl hb1 hk1 hs1
  go_enter Tryz.func38, Tryz.ntmps38
  go_upto_region 1 with fail
  rw [← hV, ← hB1]
  clear hV hB1
  have bb := fun w' (h : KeepBut (fun _ => False) V.drew w') => blk3f (((KeepBut.drew _ V).trans h).blk HB1.out)
  refine wp_own0 (by kernel_rfl) (fun i => [[], [0], [], [0, 1, 2], [0, 1, 2, 3], [0, 1, 2, 3, 4]].getD i []) (fun _ => []) (fun _ => []) [] (by kernel_rfl) (fun i => if i = 1 then some (sConst (.int .i64 (thsSize pr.threads))) else if i = 3 then some (sConst (.int .i64 (thsDeep pr.threads))) else none) ?_
  apply lex_quiet rfl rfl
  · intro w' hk; obtain ⟨y0, y1, y2, -⟩ := bb w' hk; go_simp; with_reducible rfl
  simp only [Act.put, List.setIfInBounds_toArray, List.set_cons_zero, List.set_cons_succ]
  refine lex_loud rfl rfl (loud_call 18 #[.agg #[.int .i64 pr.pool, .slice p pr.conts.length c, .slice q pr.threads.length d]] (fun w => by kernel_rfl) ⟨default, trivial⟩ (fun g _ => stable_true _) fun w' hk _ _ => (HSI.out w' ((KeepBut.drew _ V).trans hk)).mono ?_) fun gs _ => ?_
  · rintro e w'' ⟨rfl, hq⟩
    exact ⟨default, trivial, rfl, hq.mono fun _ e => e.elim, fun b h => h.elim, trivial⟩
  simp only [sConst, Act.put, List.setIfInBounds_toArray, List.set_cons_zero, List.set_cons_succ]
  apply lex_quiet rfl rfl
  · intro w' hk; obtain ⟨y0, y1, y2, -⟩ := bb w' hk; go_simp; with_reducible rfl
  simp only [Act.put, List.setIfInBounds_toArray, List.set_cons_zero, List.set_cons_succ]
  refine lex_loud rfl rfl (loud_call 19 #[.agg #[.int .i64 pr.pool, .slice p pr.conts.length c, .slice q pr.threads.length d]] (fun w => by kernel_rfl) ⟨default, trivial⟩ (fun g _ => stable_true _) fun w' hk _ _ => (HDE.out w' ((KeepBut.drew _ V).trans hk)).mono ?_) fun gs _ => ?_
  · rintro e w'' ⟨rfl, hq⟩
    exact ⟨default, trivial, rfl, hq.mono fun _ e => e.elim, fun b h => h.elim, trivial⟩
  simp only [Act.put, List.setIfInBounds_toArray, List.set_cons_zero, List.set_cons_succ]
  apply lex_quiet rfl rfl
  · intro w' hk; go_simp; with_reducible rfl
  simp only [Act.put, List.setIfInBounds_toArray, List.set_cons_zero, List.set_cons_succ]
  apply lex_quiet rfl rfl
  · intro w' hk; go_simp; with_reducible rfl
  simp only [Act.put, List.setIfInBounds_toArray, List.set_cons_zero, List.set_cons_succ]
  refine lex_nil ?_
  intro w9 hk9 _ _
  have HFIN := Lib.hid (HK1.out.trans ((KeepBut.drew (fun _ => False) V).trans hk9))
  clear bb hk9
  go_wp2_with fail
  go_ret2
  exact ⟨rfl, HFIN.out⟩

/-- what reading a program defers, where nothing has been given up -/
theorem catch_idleP (a b : Addr) (w : World) :
    CallsD Tryz.prog 75 #[.pointer (some a), .pointer (some b)] .returning w fun e u' w' => e = .returned (.tuple #[]) ∧ u' = .returning ∧ w' = w := by
  refine callsD_of_wpS Tryz.func75 rfl fun c₀ cs hu => ?_
  apply wpS_seq
  apply wpS_region
  simp [wpOpsS, go_sem, recoverD, hu, Tryz.ntmps75, Exit.thenS]
  refine wpS_of_wp ?_
  simp only [Array.setIfInBounds, Array.replicate]
  go_wp2_with fail
  cases c₀
  simp_all [bodyPostS, results, Tryz.results75]

set_option maxRecDepth 100000 in
set_option maxHeartbeats 32000000 in
theorem readingP_any (s : ByteArray) (its : List Item) (pr : Pr) (w : World) (hT : TabS w) (hall : allT s.data.toList = (its, ⟨0, 0, 0⟩)) (hss : s.size ≤ 1000000) (hx : ∀ R el ec, ReadsP R el ec its pr) (hthl : pr.threads.length ≤ 1000000) (hne : its ≠ []) (hsz : thsSize pr.threads ≤ 600) (hdp : thsDeep pr.threads ≤ 24) :
    Calls Tryz.prog 36 #[.string s, .func (.func 37) #[] #[], .func (.func 38) #[] #[]] w fun e w' => ∃ vs, e = .returned (.tuple #[.agg vs.toArray, .agg #[.int .i64 0, .int .i64 0, .int .i64 0]]) ∧ PrgAt w' (fun b => w.heap.size ≤ b) vs pr ∧ KeepBut (fun _ => False) w w' := by
  obtain ⟨V1, B6, hV1, hB6, hb6, hk1, hs1⟩ := fresh_block w (.cells #[.int .i64 0, .slice none 0 0, .slice none 0 0] TPr)
  obtain ⟨V, B7, hV, hB7, hb7, hk2, hs2⟩ := fresh_block V1 (.cells #[.int .i64 0, .int .i64 0, .int .i64 0] TFa)
  have hk := hk1.trans hk2
  have hALL := all_room hall hne V (hk.tabS hT)
  have HALL := Lib.hid hALL
  have HBE := Lib.hid fun W => behind_any s hss W
  have h67 : B6 + 1 = B7 := by omega
  have HK := Lib.hid hk; have HB6 := Lib.hid (hk2.blk hb6); have HB7 := Lib.hid hb7; have HX := Lib.hid hx; have HTHL := Lib.hid hthl; have HSZ := Lib.hid hsz; have HDP := Lib.hid hdp
  have HN := Lib.hid (show w.heap.size ≤ B6 ∧ B6 < B7 ∧ B7 < V.heap.size by omega)
  clear hT hall hss hx hthl hne hsz hdp hb6 hb7 hk1 hk2 hs1 hs2 hk hALL
  go_enter_defers Tryz.func36, Tryz.ntmps36
  go_upto_region 1 with fail
  rw [← hV1, ← hB6, ← hV, h67]
  clear hV1 hB6 hV hB7 h67
  go_wp2_with fail
  go_at_call 64
  refine HALL.out.mono ?_
  rintro e w1 ⟨g, cap, rfl, hrow, hc1, hc2, hg, hk⟩
  have HK1 := Lib.hid hk; have HROW := Lib.hid hrow; have HCAP := Lib.hid (And.intro hc1 hc2); have HG := Lib.hid hg
  have hb71 := hk.blk HB7.out
  have HB71 := Lib.hid hb71
  obtain ⟨n0, n1, n2, f0, f1, f2⟩ := blk3f hb71
  clear hk hrow hc1 hc2 hg hb71
  go_upto_region 2 with fail
  obtain ⟨w2, hw2, hb2, hk2⟩ := put3 HB71.out (.int .i64 0) (.int .i64 0) (.int .i64 0)
  rw [← hw2]
  have hn := HN.out
  have HB72 := Lib.hid hb2
  have HB62 := Lib.hid (hk2.blkE (HK1.out.blk HB6.out) fun e => by have e : B6 = B7 := e; omega)
  have HROW2 := Lib.hid (show RowI w2 (some ⟨g, 0, none⟩) its ∧ g < w2.heap.size ∧ g ≠ B7 ∧ g ≠ B6 from by
    have hg := HG.out
    have h7 : g ≠ B7 := by omega
    exact ⟨HROW.out.keep hk2 (fun a ha e => by cases ha; exact h7 e), Nat.lt_of_lt_of_le hg.1 hk2.size, h7, by omega⟩)
  have HK2 := Lib.hid (show KeepBut (fun b => b = B7) w w2 from ((HK.out.trans HK1.out).mono fun _ e => e.elim).trans hk2)
  clear hw2 hb2 hk2 hn n0 n1 n2 f0 f1 f2
  obtain ⟨n0, n1, n2, -⟩ := blk3f HB72.out
  go_upto_region 5 with fail
  clear n0 n1 n2
  go_wp2_with fail
  go_at_call 66
  refine (HBE.out w2).mono ?_
  rintro e w3 ⟨el, ec, rfl, hk3⟩
  obtain ⟨W4, R, hW4, hR, hbr, hk4, hs4⟩ := fresh_block w3 (.cells #[.slice (some ⟨g, 0, none⟩) its.length cap, .int .i64 0, .string ⟨#[]⟩, .int .i64 0, .int .i64 el, .int .i64 ec] TRd)
  have hk34 := hk3.trans hk4
  have HR4 := Lib.hid (show ReaderAt W4 R its el ec from ⟨some ⟨g, 0, none⟩, cap, hbr, HROW2.out.1.keep hk34 (fun _ _ e => e), fun a ha => by cases ha; have := HROW2.out.2.1; have := hk3.size; show g < R; omega, HCAP.out⟩)
  have HRE := Lib.hid (HX.out R el ec W4 HR4.out)
  have HB64 := Lib.hid (hk34.blk HB62.out); have HB74 := Lib.hid (hk34.blk HB72.out)
  have HK4 := Lib.hid (HK2.out.newM hk34 fun _ e => e.elim)
  have HN4 := Lib.hid (show B7 < R ∧ R < W4.heap.size ∧ w2.heap.size ≤ R by
    have h1 := (Array.getElem?_eq_some_iff.1 HB72.out).1
    have h2 := hk3.size
    omega)
  clear hk3 hk4 hk34 hbr hs4
  go_wp2_with fail
  rw [← hW4, ← hR]
  clear hW4 hR
  go_at_call 37
  refine HRE.out.mono ?_
  rintro e w5 ⟨vs, rfl, hex, hk5⟩
  obtain ⟨xn, xp, xm, xc, yp, ym, yc, rfl⟩ := prg_form hex
  have hn := HN.out; have hn4 := HN4.out
  have hb65 := hk5.blkE HB64.out fun e => by have e : B6 = R := e; omega
  have HB65 := Lib.hid hb65
  have HB75 := Lib.hid (hk5.blkE HB74.out fun e => by have e : B7 = R := e; omega)
  have HEX := Lib.hid hex; have HK5 := Lib.hid hk5
  obtain ⟨m0, m1, m2, f0, f1, f2⟩ := blk3f hb65
  clear hex hk5 hb65 hn hn4
  go_upto_region 6 with fail
  obtain ⟨w6, hw6, hb6, hk6⟩ := put3 HB65.out (.int .i64 xn) (.slice xp xm xc) (.slice yp ym yc)
  rw [← hw6]
  have hn := HN.out; have hn4 := HN4.out
  have HB66 := Lib.hid hb6
  have HB76 := Lib.hid (hk6.blkE HB75.out fun e => by have e : B7 = B6 := e; omega)
  have HEX6 := Lib.hid (HEX.out.keep hk6 fun b hb e => by have e : b = B6 := e; have hb : W4.heap.size ≤ b := hb; omega)
  have HKW6 := Lib.hid (show KeepBut (fun _ => False) w w6 from ⟨hk6.os.trans (HK5.out.os.trans HK4.out.os), hk6.tape.trans (HK5.out.tape.trans HK4.out.tape), hk6.output.trans (HK5.out.output.trans HK4.out.output), Nat.le_trans HK4.out.size (Nat.le_trans HK5.out.size hk6.size), fun b hb _ => by
    have h1 := HK4.out.size
    rw [hk6.block b (Nat.lt_of_lt_of_le hb (Nat.le_trans HK4.out.size HK5.out.size)) (show ¬ b = B6 by omega), HK5.out.block b (by omega) (show ¬ b = R by omega), HK4.out.block b hb (show ¬ b = B7 by omega)]⟩)
  have HWG := Lib.hid (weighP_any pr (by have := HSZ.out; omega) HTHL.out w6 _ _ HEX6.out)
  obtain ⟨c0, c1, c2, -⟩ := blk3f hb6
  clear hw6 hb6 hk6 hn hn4 m0 m1 m2 f0 f1 f2
  go_wp2_with fail
  go_at_call 38
  refine HWG.out.mono ?_
  rintro e w7 ⟨rfl, hk7⟩
  have HKW7 := Lib.hid (HKW6.out.trans hk7)
  have HB67 := Lib.hid (hk7.blk HB66.out); have HB77 := Lib.hid (hk7.blk HB76.out); have HEX7 := Lib.hid (HEX6.out.keep hk7 fun _ _ e => e)
  have h600 : decide ((600 : Int) < (thsSize pr.threads : Int)) = false := decide_eq_false (by have := HSZ.out; omega)
  have h24 : decide ((24 : Int) < (thsDeep pr.threads : Int)) = false := decide_eq_false (by have := HDP.out; omega)
  clear hk7 c0 c1 c2
  go_upto_region 9 with fail
  refine wp_ownB (by kernel_rfl) B6 B7 _ _ HB67.out HB77.out (by have := HN.out; omega) (fun i => [[], [], [0], [0, 1, 2]].getD i []) (fun i => if i = 0 then [4] else if i = 1 then [5] else if i = 2 then [4] else if i = 3 then [5] else []) (fun i => if i = 2 then [4] else if i = 3 then [5] else []) [2, 3] (by kernel_rfl)
    (fun i => if i = 0 then some (sConst (.agg #[.int .i64 xn, .slice xp xm xc, .slice yp ym yc])) else if i = 1 then some (sConst (.agg #[.int .i64 0, .int .i64 0, .int .i64 0])) else if i = 2 then some (sPut B6 TPr) else if i = 3 then some (sPut B7 TFa) else none) ?_
  refine lex_loud rfl rfl (loud_run ⟨default, trivial⟩ (fun g _ w w' _ _ _ _ _ => trivial) fun w' hk hav _ => by
    obtain ⟨x0, x1, x2, -⟩ := blk3f (show w'.heap[B6]? = some (.cells #[.int .i64 xn, .slice xp xm xc, .slice yp ym yc] TPr (0, 0)) from (hav 4 (by decide)).1)
    exact ⟨w', default, trivial, .inl (by go_simp <;> rfl), KeepBut.refl _ _, fun b h => h.elim, trivial⟩) fun _ _ => ?_
  simp only [sConst, Act.put, List.setIfInBounds_toArray, List.set_cons_zero, List.set_cons_succ]
  refine lex_loud rfl rfl (loud_run ⟨default, trivial⟩ (fun g _ w w' _ _ _ _ _ => trivial) fun w' hk hav _ => by
    obtain ⟨x0, x1, x2, -⟩ := blk3f (show w'.heap[B7]? = some (.cells #[.int .i64 0, .int .i64 0, .int .i64 0] TFa (0, 0)) from (hav 5 (by decide)).1)
    exact ⟨w', default, trivial, .inl (by go_simp <;> rfl), KeepBut.refl _ _, fun b h => h.elim, trivial⟩) fun _ _ => ?_
  simp only [Act.put, List.setIfInBounds_toArray, List.set_cons_zero, List.set_cons_succ]
  refine lex_loud rfl rfl (loud_put B6 TPr TPr #[.int .i64 xn, .slice xp xm xc, .slice yp ym yc] _ (.tmp 6) (.tmp 44) rfl rfl rfl 4 (by decide) (by decide) (fun w h => h) (.inl ⟨rfl, rfl⟩) rfl (by kernel_rfl) (by simp [Value.oneCell'])) fun g2 _ => ?_
  simp only [sPut, Act.put]
  refine lex_loud rfl rfl (loud_put B7 TFa TFa #[.int .i64 0, .int .i64 0, .int .i64 0] _ (.tmp 7) (.tmp 45) rfl rfl rfl 5 (by decide) (by decide) (fun w h => h) (.inr ⟨rfl, rfl⟩) rfl (by kernel_rfl) (by simp [Value.oneCell'])) fun g3 _ => ?_
  simp only [Act.put]
  refine lex_nil ?_
  intro w9 hk9 hF _
  have f2 : w9.heap[B6]? = some (.cells #[.int .i64 xn, .slice xp xm xc, .slice yp ym yc] TPr (0, 0)) := (hF 2 (by decide)).1 _ (put_args rfl rfl)
  have f3 : w9.heap[B7]? = some (.cells #[.int .i64 0, .int .i64 0, .int .i64 0] TFa (0, 0)) := (hF 3 (by decide)).1 _ (put_args rfl rfl)
  have hkM := (KeepBut.drew (fun b => b = B6 ∨ b = B7) w7).trans hk9
  have hn := HN.out; have hn4 := HN4.out
  have HEX9 := Lib.hid ((HEX7.out.keep hkM fun b hb e => by have hb : W4.heap.size ≤ b := hb; omega).mono (S' := fun b => w.heap.size ≤ b) fun b hb => by have hb : W4.heap.size ≤ b := hb; omega)
  have HK9 := Lib.hid (HKW7.out.new hkM fun b hb => by omega)
  obtain ⟨c0, c1, c2, -⟩ := blk3f f2
  obtain ⟨d0, d1, d2, -⟩ := blk3f f3
  clear hk9 hF f2 f3 hkM hn hn4
  go_wp2_with fail
  refine leaves_cons (f := 75) (args := #[.pointer (some ⟨B6, 0, none⟩), .pointer (some ⟨B7, 0, none⟩)]) (by simp) (by simp [go_sem]) ?_
  refine (catch_idleP ⟨B6, 0, none⟩ ⟨B7, 0, none⟩ _).mono ?_
  rintro e u' w'' ⟨rfl, rfl, rfl⟩
  exact ⟨.tuple #[.agg #[.int .i64 xn, .slice xp xm xc, .slice yp ym yc], .agg #[.int .i64 0, .int .i64 0, .int .i64 0]], by simp [results, Tryz.results36, go_sem, c0, c1, c2, d0, d1, d2], _, rfl, HEX9.out, HK9.out⟩

set_option maxHeartbeats 8000000 in
/-- Expr, of a text that is an expression -/
theorem prog_any (s : ByteArray) (its : List Item) (pr : Pr) (w : World) (hT : TabS w) (hall : allT s.data.toList = (its, ⟨0, 0, 0⟩)) (hss : s.size ≤ 1000000) (hx : ∀ R el ec, ReadsP R el ec its pr) (hthl : pr.threads.length ≤ 1000000) (hne : its ≠ []) (hsz : thsSize pr.threads ≤ 600) (hdp : thsDeep pr.threads ≤ 24) :
    Calls Tryz.prog 16 #[.string s] w fun e w' => ∃ vs, e = .returned (.tuple #[.agg vs.toArray, .agg #[.int .i64 0, .int .i64 0, .int .i64 0]]) ∧ PrgAt w' (fun b => w.heap.size ≤ b) vs pr ∧ KeepBut (fun _ => False) w w' := by
  obtain ⟨V1, B2, hV1, hB2, hb2, hk1, hs1⟩ := fresh_block w (.cells #[.int .i64 0, .slice none 0 0, .slice none 0 0] TPr)
  obtain ⟨V, B3, hV, hB3, hb3, hk2, hs2⟩ := fresh_block V1 (.cells #[.int .i64 0, .int .i64 0, .int .i64 0] TFa)
  have hk := hk1.trans hk2
  have HRE := Lib.hid (readingP_any s its pr V (hk.tabS hT) hall hss hx hthl hne hsz hdp)
  have h23 : B2 + 1 = B3 := by omega
  have HK := Lib.hid hk; have HB2 := Lib.hid (hk2.blk hb2); have HB3 := Lib.hid hb3
  have HN := Lib.hid (show w.heap.size ≤ B2 ∧ B2 < B3 ∧ B3 < V.heap.size by omega)
  clear hT hall hss hx hthl hne hsz hdp hb2 hb3 hk1 hk2 hs1 hs2 hk
  go_enter Tryz.func16, Tryz.ntmps16
  go_upto_region 1 with fail
  rw [← hV1, ← hB2, ← hV, h23]
  clear hV1 hB2 hV hB3 h23
  go_wp2_with fail
  go_at_call 36
  refine HRE.out.mono ?_
  rintro e w1 ⟨vs, rfl, hex, hk1⟩
  obtain ⟨xn, xp, xm, xc, yp, ym, yc, rfl⟩ := prg_form hex
  have HEX := Lib.hid hex; have HK1 := Lib.hid hk1
  have hb2 := hk1.blk HB2.out; have hb3 := hk1.blk HB3.out
  have HB2 := Lib.hid hb2; have HB3 := Lib.hid hb3
  obtain ⟨m0, m1, m2, f0, f1, f2⟩ := blk3f hb2
  obtain ⟨q0, q1, q2, g0, g1, g2⟩ := blk3f hb3
  have hne23 : B2 ≠ B3 := by have := HN.out; omega
  have hne32 : B3 ≠ B2 := by have := HN.out; omega
  clear hex hk1 hb2 hb3
  go_wp2_with fail
  obtain ⟨wa, hwa, hba, hka⟩ := put3 HB2.out (.int .i64 xn) (.slice xp xm xc) (.slice yp ym yc)
  rw [← hwa]
  have hn := HN.out
  obtain ⟨wf, hwf, hbf, hkf⟩ := put3 (hka.blkE HB3.out fun e => by have e : B3 = B2 := e; omega) (.int .i64 0) (.int .i64 0) (.int .i64 0)
  rw [← hwf]
  obtain ⟨c0, c1, c2, -⟩ := blk3f (hkf.blkE hba fun e => by have e : B2 = B3 := e; omega)
  obtain ⟨d0, d1, d2, -⟩ := blk3f hbf
  clear hwa hwf
  exact bodyPost_ret (v := .tuple #[.agg #[.int .i64 xn, .slice xp xm xc, .slice yp ym yc], .agg #[.int .i64 0, .int .i64 0, .int .i64 0]]) (by simp [results, Tryz.results16, go_sem, c0, c1, c2, d0, d1, d2]) rfl ⟨_, rfl, ((HEX.out.keep hka fun b hb e => by have e : b = B2 := e; have hb : V.heap.size ≤ b := hb; omega).keep hkf fun b hb e => by have e : b = B3 := e; have hb : V.heap.size ≤ b := hb; omega).mono fun b hb => by have hb : V.heap.size ≤ b := hb; omega, ((HK.out.trans HK1.out).new hka fun b e => by have e : b = B2 := e; omega).new hkf fun b e => by have e : b = B3 := e; omega⟩

end Go.Proofs.YtomlffobbkcmdaaGreatDoor

/-
  The chapter's examples: what is read out of them, what their texts are.
-/
namespace Go.Proofs.YtomlffobbkcmdaaGreatDoor
open Go Go.RowKit Own

def tA : List UInt8 := [49, 32, 45, 32, 50, 32, 45, 32, 51]
def tB : List UInt8 := [49, 32, 43, 32, 50, 32, 42, 32, 51]
def tP : List UInt8 := [112, 111, 111, 108, 32, 52, 32, 59, 32, 115, 116, 97, 99, 107, 32, 115, 32, 59, 32, 116, 104, 114, 101, 97, 100, 32, 123, 32, 97, 32, 44, 32, 98, 32, 61, 32, 112, 111, 112, 32, 40, 32, 115, 32, 41, 32, 59, 32, 125]
def iA : List Item := [⟨⟨3, [49], 1⟩, 1, 1, 0⟩, ⟨⟨4, [45], 0⟩, 1, 3, 0⟩, ⟨⟨3, [50], 2⟩, 1, 5, 0⟩, ⟨⟨4, [45], 0⟩, 1, 7, 0⟩, ⟨⟨3, [51], 3⟩, 1, 9, 0⟩]
def iB : List Item := [⟨⟨3, [49], 1⟩, 1, 1, 0⟩, ⟨⟨4, [43], 0⟩, 1, 3, 0⟩, ⟨⟨3, [50], 2⟩, 1, 5, 0⟩, ⟨⟨4, [42], 0⟩, 1, 7, 0⟩, ⟨⟨3, [51], 3⟩, 1, 9, 0⟩]
def nX (n l c : Nat) : Ex := .mk 1 0 n [] l c []
def xA : Ex := .mk 5 5 0 [] 1 7 [.mk 5 5 0 [] 1 3 [nX 1 1 1, nX 2 1 5], nX 3 1 9]
def xB : Ex := .mk 5 4 0 [] 1 3 [nX 1 1 1, .mk 5 1 0 [] 1 7 [nX 2 1 5, nX 3 1 9]]
theorem allA : allT tA = (iA, ⟨0, 0, 0⟩) := by kernel_rfl
theorem allB : allT tB = (iB, ⟨0, 0, 0⟩) := by kernel_rfl
theorem exA : exP 3 iA = some (xA, []) := by kernel_rfl
theorem exB : exP 3 iB = some (xB, []) := by kernel_rfl

def iP2 : List Item := [⟨⟨1, [116, 104, 114, 101, 97, 100], 0⟩, 1, 20, 0⟩, ⟨⟨4, [123], 0⟩, 1, 27, 0⟩, ⟨⟨2, [97], 0⟩, 1, 29, 0⟩, ⟨⟨4, [44], 0⟩, 1, 31, 0⟩, ⟨⟨2, [98], 0⟩, 1, 33, 0⟩, ⟨⟨4, [61], 0⟩, 1, 35, 0⟩, ⟨⟨1, [112, 111, 112], 0⟩, 1, 37, 0⟩, ⟨⟨4, [40], 0⟩, 1, 41, 0⟩, ⟨⟨2, [115], 0⟩, 1, 43, 0⟩, ⟨⟨4, [41], 0⟩, 1, 45, 0⟩, ⟨⟨4, [59], 0⟩, 1, 47, 0⟩, ⟨⟨4, [125], 0⟩, 1, 49, 0⟩]
def iP1 : List Item := ⟨⟨1, [115, 116, 97, 99, 107], 0⟩, 1, 10, 0⟩ :: ⟨⟨2, [115], 0⟩, 1, 16, 0⟩ :: ⟨⟨4, [59], 0⟩, 1, 18, 0⟩ :: iP2
def iP : List Item := ⟨⟨1, [112, 111, 111, 108], 0⟩, 1, 1, 0⟩ :: ⟨⟨3, [52], 4⟩, 1, 6, 0⟩ :: ⟨⟨4, [59], 0⟩, 1, 8, 0⟩ :: iP1
theorem allP : allT tP = (iP, ⟨0, 0, 0⟩) := by kernel_rfl
def sP : St := .mk 9 [] 0 2 [97] [98] [115] [] [] [] 1 29
def pP : Pr := ⟨4, [⟨1, [115], 1, 10⟩], [[sP]]⟩

theorem noWord {t : Item} {r : List Item} (h : t.tok.kind = 2) (k : List UInt8) : headIs (t :: r) k = false := by
  unfold headIs isT
  simp [h]

theorem readsPP (R el ec : Nat) : ReadsP R el ec iP pP := by
  have hS : ReadsS R el ec (iP2.drop 2) [⟨⟨4, [125], 0⟩, 1, 49, 0⟩] sP := by
    refine stmt_plain R el ec ⟨⟨2, [97], 0⟩, 1, 29, 0⟩ (iP2.drop 3) [⟨⟨4, [125], 0⟩, 1, 49, 0⟩] sP (fun k => noWord rfl k) fun w Bs hr hB hRB => ?_
    exact plain_two w R el ec 1 Bs ⟨⟨2, [97], 0⟩, 1, 29, 0⟩ ⟨⟨2, [98], 0⟩, 1, 33, 0⟩ (iP2.drop 3) (iP2.drop 5) (iP2.drop 6) [⟨⟨4, [125], 0⟩, 1, 49, 0⟩] 2 1 29 [115] [] hr hB hRB rfl (by kernel_rfl) (by kernel_rfl) (by kernel_rfl) rfl (by kernel_rfl) (by kernel_rfl)
  have hB : ReadsB R el ec (iP2.drop 1) [] [sP] := fun w hr =>
    block_reads R el ec (iP2.drop 1) [] [sP] (fun ts s m => ReadsS R el ec ts m s) (fun _ _ _ h => h) (by kernel_rfl) ⟨by kernel_rfl, [⟨⟨4, [125], 0⟩, 1, 49, 0⟩], hS, by decide, by kernel_rfl, rfl⟩ (by decide) w hr
  intro w hr
  refine (program_reads R el ec iP (⟨⟨4, [59], 0⟩, 1, 8, 0⟩ :: iP1) iP1 iP2 [] ⟨⟨3, [52], 4⟩, 1, 6, 0⟩ pP.conts pP.threads (fun ts b m => ReadsB R el ec ts m b) (fun _ _ _ h => h) (by kernel_rfl) rfl (by kernel_rfl)
    ⟨⟨⟨1, [115, 116, 97, 99, 107], 0⟩, 1, 10, 0⟩, ⟨⟨2, [115], 0⟩, 1, 16, 0⟩, ⟨⟨4, [59], 0⟩, 1, 18, 0⟩ :: iP2, iP2, rfl, rfl, by decide +kernel, rfl, by kernel_rfl, rfl, rfl, fun t r0 h => by cases h; decide +kernel⟩
    ⟨iP2.drop 1, [], by kernel_rfl, hB, by decide, rfl⟩ (by decide) (by decide) w hr).mono ?_
  rintro e w' ⟨p, c, q, d, rfl, h1, h2, -, h3⟩
  exact ⟨_, rfl, ⟨p, c, q, d, rfl, h1, h2⟩, h3⟩

theorem itoa_small {n : Nat} (h : n < 10) : Lib.itoa n = [UInt8.ofNat (48 + n)] := by
  unfold Lib.itoa
  rw [if_neg (by omega)]
  unfold Lib.decDigits
  rw [dif_pos (by simpa using h)]
  simp
theorem textA : mayG (toG xA) = true ∧ tokG (toG xA) = [[40], [49], [45], [50], [41], [45], [51]] := by
  refine ⟨by decide +kernel, ?_⟩
  have h1 := itoa_small (n := 1) (by decide)
  have h2 := itoa_small (n := 2) (by decide)
  have h3 := itoa_small (n := 3) (by decide)
  simp only [xA, nX, toG, toGL]
  show tokG (.mk 5 5 _ _ _ _ [.mk 5 5 _ _ _ _ [.mk 1 _ 1 _ _ _ [], .mk 1 _ 2 _ _ _ []], .mk 1 _ 3 _ _ _ []]) = _
  rw [tok_5, tok_5, tok_1, tok_1, tok_1]
  rw [show Lib.itoa 1 = _ from h1, show Lib.itoa 2 = _ from h2, show Lib.itoa 3 = _ from h3]
  rfl
theorem textB : mayG (toG xB) = true ∧ tokG (toG xB) = [[49], [43], [40], [50], [42], [51], [41]] := by
  refine ⟨by decide +kernel, ?_⟩
  have h1 := itoa_small (n := 1) (by decide)
  have h2 := itoa_small (n := 2) (by decide)
  have h3 := itoa_small (n := 3) (by decide)
  simp only [xB, nX, toG, toGL]
  show tokG (.mk 5 4 _ _ _ _ [.mk 1 _ 1 _ _ _ [], .mk 5 1 _ _ _ _ [.mk 1 _ 2 _ _ _ [], .mk 1 _ 3 _ _ _ []]]) = _
  rw [tok_5, tok_5, tok_1, tok_1, tok_1]
  rw [show Lib.itoa 1 = _ from h1, show Lib.itoa 2 = _ from h2, show Lib.itoa 3 = _ from h3]
  rfl

theorem exprTextA (w : World) (S : Nat → Prop) (vs : List Value) (hex : ExAt w S vs xA) (hT : TabS w) (hP : TabP w) :
    Calls Tryz.prog 10 #[.agg vs.toArray] w fun e w' => e = .returned (.string ⟨#[40, 32, 49, 32, 45, 32, 50, 32, 41, 32, 45, 32, 51]⟩) ∧ KeepBut (fun _ => False) w w' := by
  have h := exprText_any (toG xA) S vs w hex.toG hT hP (by simp [xA, nX, toG, toGL, fitG, fitGL]) (by decide +kernel) (fun _ => by rw [textA.2]; exact ⟨by decide, by decide⟩)
  rw [if_pos textA.1, textA.2] at h
  exact h
theorem exprTextB (w : World) (S : Nat → Prop) (vs : List Value) (hex : ExAt w S vs xB) (hT : TabS w) (hP : TabP w) :
    Calls Tryz.prog 10 #[.agg vs.toArray] w fun e w' => e = .returned (.string ⟨#[49, 32, 43, 32, 40, 32, 50, 32, 42, 32, 51, 32, 41]⟩) ∧ KeepBut (fun _ => False) w w' := by
  have h := exprText_any (toG xB) S vs w hex.toG hT hP (by simp [xB, nX, toG, toGL, fitG, fitGL]) (by decide +kernel) (fun _ => by rw [textB.2]; exact ⟨by decide, by decide⟩)
  rw [if_pos textB.1, textB.2] at h
  exact h
theorem exprA (w : World) (hT : TabS w) : Calls Tryz.prog 11 #[.string ⟨#[49, 32, 45, 32, 50, 32, 45, 32, 51]⟩] w fun e w' => ∃ vs, e = .returned (.tuple #[.agg vs.toArray, .agg #[.int .i64 0, .int .i64 0, .int .i64 0]]) ∧ ExAt w' (fun b => w.heap.size ≤ b) vs xA ∧ KeepBut (fun _ => False) w w' :=
  expr_any 3 ⟨tA.toArray⟩ iA xA w hT allA (by decide) exA (by decide) (by decide +kernel) (by decide +kernel)
theorem exprB (w : World) (hT : TabS w) : Calls Tryz.prog 11 #[.string ⟨#[49, 32, 43, 32, 50, 32, 42, 32, 51]⟩] w fun e w' => ∃ vs, e = .returned (.tuple #[.agg vs.toArray, .agg #[.int .i64 0, .int .i64 0, .int .i64 0]]) ∧ ExAt w' (fun b => w.heap.size ≤ b) vs xB ∧ KeepBut (fun _ => False) w w' :=
  expr_any 3 ⟨tB.toArray⟩ iB xB w hT allB (by decide) exB (by decide) (by decide +kernel) (by decide +kernel)
theorem progP_any (w : World) (hT : TabS w) : Calls Tryz.prog 16 #[.string ⟨tP.toArray⟩] w fun e w' => ∃ vs, e = .returned (.tuple #[.agg vs.toArray, .agg #[.int .i64 0, .int .i64 0, .int .i64 0]]) ∧ PrgAt w' (fun b => w.heap.size ≤ b) vs pP ∧ KeepBut (fun _ => False) w w' :=
  prog_any ⟨tP.toArray⟩ iP pP w hT allP (by decide) (fun R el ec => readsPP R el ec) (by decide) (by decide) (by decide +kernel) (by decide +kernel)

end Go.Proofs.YtomlffobbkcmdaaGreatDoor

/-
  The chapter's examples: lives.
-/
namespace Go.Proofs.YtomlffobbkcmdaaGreatDoor
open Go Go.RowKit Own

theorem progP2 (w : World) (hT : TabS w) : Calls Tryz.prog 16 #[.string ⟨tP.toArray⟩] w fun e w' => ∃ p c q d, e = .returned (.tuple #[.agg #[.int .i64 4, .slice p 1 c, .slice q 1 d], .agg #[.int .i64 0, .int .i64 0, .int .i64 0]]) ∧ ThsAt w' (fun b => w.heap.size ≤ b) q [[sP]] ∧ KeepBut (fun _ => False) w w' := by
  refine (progP_any w hT).mono ?_
  rintro e w' ⟨vs, rfl, ⟨p, c, q, d, rfl, -, h⟩, hk⟩
  exact ⟨p, c, q, d, rfl, h, hk⟩

set_option maxRecDepth 4000 in
set_option maxHeartbeats 32000000 in
theorem lives17 (w : World) (hT : TabS w) (hP : TabP w) : Calls Tryz.prog 8 #[] w fun e w' => e = .returned (.bool true) ∧ KeepBut (fun _ => False) w w' := by
  have HT := Lib.hid hT; have HP := Lib.hid hP
  have HA := Lib.hid (exprA w hT)
  clear hT hP
  go_enter Tryz.func8, Tryz.ntmps8
  go_wp2_with fail
  go_at_call 11
  refine HA.out.mono ?_
  rintro e w1 ⟨vs, rfl, hex, hk⟩
  obtain ⟨ak, ao, an, aS, ap, am, ac, al, acl, rfl⟩ := ex_form hex
  obtain ⟨X, E1, hX, hE, hbe, hkx, hsx⟩ := fresh_block w1 (.cells #[.int .i64 ak, .int .i64 ao, .int .i64 an, .string aS, .slice ap am ac, .int .i64 al, .int .i64 acl] TEx)
  obtain ⟨W1, F1, hW, hF, hbf, hky, hsy⟩ := fresh_block X (.cells #[.int .i64 0, .int .i64 0, .int .i64 0] TFa)
  have hkk := hkx.trans hky
  have h12 : E1 + 1 = F1 := by omega
  have HK1 := Lib.hid (hk.trans hkk); have HE11 := Lib.hid (hky.blk hbe); have HF11 := Lib.hid hbf; have HXA1 := Lib.hid (hex.keep hkk fun _ _ e => e)
  clear hex
  clear hk hkk hbe hbf hkx hky hsx hsy
  go_upto_region 2 with fail
  rw [← hX, ← hW, ← hE, h12]
  clear hX hW hE hF h12
  have HB := Lib.hid (exprB W1 (HK1.out.tabS HT.out))
  go_wp2_with fail
  go_at_call 11
  refine HB.out.mono ?_
  rintro e w2 ⟨vs, rfl, hey, hk⟩
  obtain ⟨bk, bo, bn, bS, bp, bm, bc, bl, bcl, rfl⟩ := ex_form hey
  obtain ⟨X, E2, hX, hE, hbe, hkx, hsx⟩ := fresh_block w2 (.cells #[.int .i64 bk, .int .i64 bo, .int .i64 bn, .string bS, .slice bp bm bc, .int .i64 bl, .int .i64 bcl] TEx)
  obtain ⟨W2, F2, hW, hF, hbf, hky, hsy⟩ := fresh_block X (.cells #[.int .i64 0, .int .i64 0, .int .i64 0] TFa)
  have hkk := hkx.trans hky
  have h12 : E2 + 1 = F2 := by omega
  have hk2 := hk.trans hkk
  have HK2 := Lib.hid (HK1.out.trans hk2); have HE12 := Lib.hid (hk2.blk HE11.out); have HF12 := Lib.hid (hk2.blk HF11.out); have HE22 := Lib.hid (hky.blk hbe); have HF22 := Lib.hid hbf; have HXA2 := Lib.hid (HXA1.out.keep hk2 fun _ _ e => e); have HXB2 := Lib.hid (hey.keep hkk fun _ _ e => e)
  clear hey hk2
  clear hk hkk hbe hbf hkx hky hsx hsy
  go_upto_region 3 with fail
  rw [← hX, ← hW, ← hE, h12]
  clear hX hW hE hF h12
  have HC := Lib.hid (by have h := progP2 W2 (HK2.out.tabS HT.out); unfold tP at h; exact h)
  go_wp2_with fail
  go_at_call 16
  refine HC.out.mono ?_
  rintro e w3 ⟨p, c, q, d, rfl, hth, hk⟩
  obtain ⟨X, E3, hX, hE, hbe, hkx, hsx⟩ := fresh_block w3 (.cells #[.int .i64 4, .slice p 1 c, .slice q 1 d] TPr)
  obtain ⟨W3, F3, hW, hF, hbf, hky, hsy⟩ := fresh_block X (.cells #[.int .i64 0, .int .i64 0, .int .i64 0] TFa)
  have hkk := hkx.trans hky
  have h12 : E3 + 1 = F3 := by omega
  have hk2 := hk.trans hkk
  have HK3 := Lib.hid (HK2.out.trans hk2); have HE13 := Lib.hid (hk2.blk HE12.out); have HF13 := Lib.hid (hk2.blk HF12.out); have HE23 := Lib.hid (hk2.blk HE22.out); have HF23 := Lib.hid (hk2.blk HF22.out); have HE33 := Lib.hid (hky.blk hbe); have HF33 := Lib.hid hbf; have HXA3 := Lib.hid (HXA2.out.keep hk2 fun _ _ e => e); have HXB3 := Lib.hid (HXB2.out.keep hk2 fun _ _ e => e); have HTH := Lib.hid (hth.keepS (w' := W3) (S' := fun b => W2.heap.size ≤ b) (fun b o v _ hc => hkk.stay hc) fun b hb => hb)
  clear hth hk2
  clear hk hkk hbe hbf hkx hky hsx hsy
  go_upto_region 4 with fail
  rw [← hX, ← hW, ← hE, h12]
  clear hX hW hE hF h12
  obtain ⟨g, p1, c1, rfl, hc1, hst⟩ := ths_get HTH.out 0 (by decide)
  obtain ⟨g2, o2, vs, rfl, hc2, hs2⟩ := sts_get hst 0 (by decide)
  obtain ⟨s1, d1, s2, d2, s3, d3, rfl, -⟩ := (by unfold sP at hs2; simp only [List.getElem_cons_zero] at hs2; unfold StAt at hs2; exact hs2)
  have e0 : W3.cell? ⟨g, 0, none⟩ = some (.slice (some ⟨g2, o2, none⟩) 1 c1) := hc1
  have y0 : W3.cell? ⟨g2, o2, none⟩ = some (.int .i64 9) := hc2 0 _ rfl
  have y1 : W3.cell? ⟨g2, o2 + 1, none⟩ = some (.string ⟨#[]⟩) := hc2 1 _ rfl
  have y2 : W3.cell? ⟨g2, o2 + 2, none⟩ = some (.int .i64 0) := hc2 2 _ rfl
  have y3 : W3.cell? ⟨g2, o2 + 3, none⟩ = some (.int .i64 2) := hc2 3 _ rfl
  have y4 : W3.cell? ⟨g2, o2 + 4, none⟩ = some (.string ⟨#[97]⟩) := hc2 4 _ rfl
  have y5 : W3.cell? ⟨g2, o2 + 5, none⟩ = some (.string ⟨#[98]⟩) := hc2 5 _ rfl
  have y6 : W3.cell? ⟨g2, o2 + 6, none⟩ = some (.string ⟨#[115]⟩) := hc2 6 _ rfl
  have y7 : W3.cell? ⟨g2, o2 + 7, none⟩ = some (.slice s1 0 d1) := hc2 7 _ rfl
  have y8 : W3.cell? ⟨g2, o2 + 8, none⟩ = some (.slice s2 0 d2) := hc2 8 _ rfl
  have y9 : W3.cell? ⟨g2, o2 + 9, none⟩ = some (.slice s3 0 d3) := hc2 9 _ rfl
  have y10 : W3.cell? ⟨g2, o2 + 10, none⟩ = some (.int .i64 1) := hc2 10 _ rfl
  have y11 : W3.cell? ⟨g2, o2 + 11, none⟩ = some (.int .i64 29) := hc2 11 _ rfl
  obtain ⟨m0, m1, m2, -⟩ := blk3f HF13.out
  obtain ⟨k0, k1, k2, -⟩ := blk3f HF23.out
  obtain ⟨l0, l1, l2, -⟩ := blk3f HF33.out
  obtain ⟨r0, r1, r2, -⟩ := blk3f HE33.out
  clear hc1 hc2 hst
  obtain ⟨W4, G4, hW4, hG4, hbg, hkg, hsg⟩ := fresh_block W3 (.cells #[.int .i64 9, .string ⟨#[]⟩, .int .i64 0, .int .i64 2, .string ⟨#[97]⟩, .string ⟨#[98]⟩, .string ⟨#[115]⟩, .slice s1 0 d1, .slice s2 0 d2, .slice s3 0 d3, .int .i64 1, .int .i64 29] TSm)
  have HK4 := Lib.hid (HK3.out.trans hkg); have HG4 := Lib.hid hbg; have HE14 := Lib.hid (hkg.blk HE13.out); have HE24 := Lib.hid (hkg.blk HE23.out); have HE34 := Lib.hid (hkg.blk HE33.out)
  have HXA4 := Lib.hid (HXA3.out.keep hkg fun _ _ e => e); have HXB4 := Lib.hid (HXB3.out.keep hkg fun _ _ e => e)
  clear hbg hkg hsg
  go_upto_region 7 with fail
  rw [← hW4, ← hG4]
  clear hW4 hG4 e0 y0 y1 y2 y3 y4 y5 y6 y7 y8 y9 y10 y11 m0 m1 m2 k0 k1 k2 l0 l1 l2 r0 r1 r2
  have HTA := Lib.hid (exprTextA W4 _ _ HXA4.out (HK4.out.tabS HT.out) (HK4.out.tabP HP.out))
  obtain ⟨a0, a1, a2, a3, a4, a5, a6, -⟩ := blk7 HE14.out
  go_wp2_with fail
  go_at_call 10
  refine HTA.out.mono ?_
  rintro e W5 ⟨rfl, hk5⟩
  have HTB := Lib.hid (exprTextB W5 _ _ (HXB4.out.keep hk5 fun _ _ e => e) ((HK4.out.trans hk5).tabS HT.out) ((HK4.out.trans hk5).tabP HP.out))
  have HE25 := Lib.hid (hk5.blk HE24.out); have HK5 := Lib.hid (HK4.out.trans hk5); have HG5 := Lib.hid (hk5.blk HG4.out); have HE35 := Lib.hid (hk5.blk HE34.out)
  clear hk5 a0 a1 a2 a3 a4 a5 a6
  obtain ⟨a0, a1, a2, a3, a4, a5, a6, -⟩ := blk7 HE25.out
  go_wp2_with fail
  go_at_call 10
  refine HTB.out.mono ?_
  rintro e W6 ⟨rfl, hk6⟩
  have hg6 := hk6.blk HG5.out; have he6 := hk6.blk HE35.out
  have HK6 := Lib.hid (HK5.out.trans hk6)
  obtain ⟨y0, y1, y2, y3, y4, y5, y6, y7, y8, y9, y10, y11⟩ := blk12 hg6
  obtain ⟨r0, r1, r2, -⟩ := blk3f he6
  clear hk6 hg6 he6 a0 a1 a2 a3 a4 a5 a6
  go_wp2_with fail
  go_ret
  exact ⟨rfl, HK6.out⟩

end Go.Proofs.YtomlffobbkcmdaaGreatDoor
