/-
  package fencepostref16: All.
-/
import Derived.Test.YtmklmlocldbaoaaDoorR3
import Derived.Test.YtmklmlocldbaoaaDoorTokOwn
namespace Go.Proofs.YtmklmlocldbaoaaDoor
open Go Go.RowKit Own

def RDone (w : World) (e : Ending) (w' : World) (its : List Item) (f : Fault) : Prop :=
  ∃ p cap, e = .returned (.tuple #[.slice p its.length cap, .agg #[.int .i64 f.err, .int .i64 f.line, .int .i64 f.col]]) ∧ RowT w' p its ∧ KeepBut (fun _ => False) w w'

theorem row_stay {w w' : World} {base : Nat} {v : Value} {n : Nat} {xs : List Value} (h : w.ownsRow base TT 5 v n xs) (k : KeepBut (fun _ => False) w w') : w'.ownsRow base TT 5 v n xs := by
  obtain ⟨h0, h1 | ⟨g, cap, cur, h1, h2, h3, h4⟩⟩ := h
  · exact ⟨h0, .inl h1⟩
  · exact ⟨h0, .inr ⟨g, cap, cur, h1, h2, k.blk h3, h4⟩⟩

theorem row_grown {w x w' : World} {base : Nat} {v : Value} {n : Nat} {xs : List Value} (h : x.ownsRow base TT 5 v n xs) (k : x.grownBy w' v.ownBlock) (hk : KeepBut (fun _ => False) w x) (hb : w.heap.size ≤ base) : KeepBut (fun _ => False) w w' :=
  hk.new (KeepBut.grown (E := fun j => v.ownBlock = some j) k fun _ e => e) fun j hj => by
    obtain ⟨-, ⟨rfl, -⟩ | ⟨g, cap, cur, rfl, h2, -⟩⟩ := h
    · cases hj
    · cases hj; exact Nat.le_trans hb h2

theorem row_other {x w' : World} {base B : Nat} {v : Value} {n : Nat} {xs : List Value} {cs : Array Value} {T : TypeId} (h : x.ownsRow base TT 5 v n xs) (k : x.grownBy w' v.ownBlock) (hT : T ≠ TT) (hB : x.heap[B]? = some (.cells cs T (0, 0))) : w'.heap[B]? = some (.cells cs T (0, 0)) :=
  cells_kept hB k (cells_not_row hB hT h)

theorem row_ne {w w' : World} {base B : Nat} {v : Value} {n : Nat} {xs : List Value} {cs : Array Value} {T : TypeId} (h : w.ownsRow base TT 5 v n xs) (hB : w.heap[B]? = some (.cells cs T (0, 0))) (hT : T ≠ TT) (k : KeepBut (fun j => j = B) w w') : w'.ownsRow base TT 5 v n xs := by
  obtain ⟨h0, h1 | ⟨g, cap, cur, h1, h2, h3, h4⟩⟩ := h
  · exact ⟨h0, .inl h1⟩
  · refine ⟨h0, .inr ⟨g, cap, cur, h1, h2, k.blkE h3 ?_, h4⟩⟩
    intro e
    have e : g = B := e
    rw [e, hB] at h3
    cases h3
    exact hT rfl

/-- where All is, between two rounds -/
structure RAt (L : List UInt8) (base B3 : Nat) (w : World) (v4 v5 v6 v7 v8 : Value) (wr : World) (at_ line col : Nat) (num : Bool) (n0 first : Int) (pre : List Item) : Prop where
  e5 : v5 = .int .i64 line
  e6 : v6 = .int .i64 first
  e7 : v7 = .int .i64 n0
  e8 : v8 = .int .i64 at_
  hw : Where L at_ line col num n0 first pre
  ok : okS pre
  row : wr.ownsRow base TT 5 v4 pre.length (cellsT pre)
  blk : wr.heap[B3]? = some (.cells #[.int .i64 0, .int .i64 0, .int .i64 0] 26 (0, 0))
  keep : KeepBut (fun _ => False) w wr

def RRel (L : List UInt8) (base B3 : Nat) (w : World) (v4 v5 v6 v7 v8 : Value) (wr : World) : Prop := ∃ at_ line col num n0 first pre, RAt L base B3 w v4 v5 v6 v7 v8 wr at_ line col num n0 first pre

theorem len_pre {L : List UInt8} {at_ line col : Nat} {num : Bool} {n0 first : Int} {pre : List Item} (h : Where L at_ line col num n0 first pre) : pre.length ≤ L.length := by
  have h1 := (scan_len L 1 1 false).1
  rw [h.hfull, List.length_append] at h1
  omega

theorem all_end {s : ByteArray} {line col : Nat} {num : Bool} {n0 first : Int} {pre : List Item} (hlen : s.size ≤ 8192) (h : Where s.data.toList s.size line col num n0 first pre) (ok : okS pre) : allT s.data.toList = (pre, ⟨0, 0, 0⟩) := by
  have hs := h.hfull
  have hd : s.data.toList.drop s.size = [] := List.drop_eq_nil_of_le (by simp)
  rw [hd, scan_nil, List.append_nil] at hs
  have := all_ok hlen (by rw [hs]; exact ok)
  rw [this, hs]

theorem all_err {s : ByteArray} {L : List UInt8} {pre : List Item} {t : Tok} {line col e : Nat} (hlen : s.size ≤ 8192) (hL : s.data.toList = L) (h : scan L 1 1 false = pre ++ [⟨t, line, col, e⟩]) (ok : okS pre) (he : e ≠ 0) : allT s.data.toList = ([], ⟨e, line, col⟩) :=
  all_bad (pre := pre) (x := ⟨t, line, col, e⟩) hlen (by rw [hL, h]; exact List.prefix_refl _) ok he

set_option maxRecDepth 100000 in
set_option maxHeartbeats 16000000 in
theorem rall_any (s : ByteArray) (w : World) (its : List Item) (f : Fault) (hal : allT s.data.toList = (its, f)) : Calls Tryd.prog 17 #[.string s] w fun e w' => RDone w e w' its f := by
  obtain ⟨L, hL⟩ : ∃ L, s.data.toList = L := ⟨_, rfl⟩
  have hsl : L.length = s.size := by rw [← hL]; simp
  obtain ⟨W0, B3, hW0, hB3, hb3, hk0, hs0⟩ := fresh_block w (.cells #[.int .i64 0, .int .i64 0, .int .i64 0] 26)
  have HN := Lib.hid (show w.heap.size = B3 ∧ B3 + 1 = W0.heap.size by omega)
  by_cases hbig : 8192 < s.size
  · have hbi : (8192 : Int) < (s.size : Int) := by omega
    have HAL := Lib.hid (show (its, f) = ([], ⟨3, 0, 0⟩) by rw [← hal]; unfold allT; rw [if_pos (by rw [hL]; omega)])
    obtain ⟨e30, e31, e32, e3f0, e3f1, e3f2⟩ := blk3 hb3
    obtain ⟨Wb, hWb, hb3', hBK⟩ := put3 hb3 (.int .i64 3) (.int .i64 0) (.int .i64 0)
    obtain ⟨c30, c31, c32, -⟩ := blk3 hb3'
    have HK := Lib.hid (hk0.new hBK fun k e => by have h2 : k = B3 := e; omega)
    have HWb := Lib.hid hWb
    clear hal hL hsl hb3 hk0 hs0 hbig hb3' hBK hWb
    go_enter Tryd.func17, Tryd.ntmps17
    go_upto_region 1 with fail
    rw [← hW0, ← hB3]
    clear hW0 hB3
    go_wp2_with fail
    rw [← HWb.out]
    refine bodyPost_ret (v := .tuple #[.slice none 0 0, .agg #[.int .i64 3, .int .i64 0, .int .i64 0]]) (by simp [results, Tryd.results17, go_sem, c30, c31, c32]) rfl ?_
    have := HAL.out
    simp only [Prod.mk.injEq] at this
    obtain ⟨rfl, rfl⟩ := this
    exact ⟨none, 0, rfl, fun i hi => absurd hi (by simp), HK.out⟩
  · have hbi : ¬ (8192 : Int) < (s.size : Int) := by omega
    have hlen : s.size ≤ 8192 := by omega
    have HK0 := Lib.hid hk0
    have HB3 := Lib.hid hb3
    have HAL := Lib.hid hal
    have HL := Lib.hid hL
    have HSL := Lib.hid hsl
    have HONE := Lib.hid rone_any; have HLT := Lib.hid rletter_any
    clear hal hL hsl hb3 hk0 hs0 hbig
    go_enter Tryd.func17, Tryd.ntmps17
    go_upto_region 1 with fail
    rw [← hW0, ← hB3]
    clear hW0 hB3
    go_upto_block 0 with fail
    go_wp2_with fail
    go_loopw [4, 5, 6, 7, 8] (fun v4 v5 v6 v7 v8 wr => RRel L w.heap.size B3 w v4 v5 v6 v7 v8 wr) (fun _ _ _ _ v _ => s.size - (intOf v).toNat)
    case atStart =>
      exact ⟨0, 1, 1, false, -1, 0, [], rfl, rfl, rfl, rfl, ⟨Nat.zero_le _, rfl, rfl, Nat.le_refl _, Nat.le_refl _, rfl, by decide, by decide⟩, (fun i h => by cases h), World.ownsRow_nil _ _ _ _, HB3.out, HK0.out⟩
    case round =>
      obtain ⟨at_, line, col, num, n0, first, pre, hr⟩ := hrel
      obtain ⟨rfl, rfl, rfl, rfl, hw, hok, hrow, hblk, hkeep⟩ := hr
      by_cases hlt : at_ < s.size
      · have hlti : (at_ : Int) < (s.size : Int) := by omega
        have hi0 : (0 : Int) ≤ (at_ : Int) := by omega
        obtain ⟨c, r, hd, -⟩ := drop_get (L := L) (at_ := at_) (by rw [HSL.out]; exact hlt)
        have hz := byte_at HL.out hd
        have hln := hw.hline
        have hWa : IntKind.i64.wrap ((at_ : Int) + 1) = (at_ : Int) + 1 := IntWalk.i64_in _ (by omega)
        have hWl : IntKind.i64.wrap ((line : Int) + 1) = (line : Int) + 1 := IntWalk.i64_in _ (by omega)
        have HW := Lib.hid hw; have HOK := Lib.hid hok; have HROW := Lib.hid hrow; have HBLK := Lib.hid hblk; have HKEEP := Lib.hid hkeep
        have HD := Lib.hid hd
        clear hw hok hrow hblk hkeep hd hln
        by_cases hbl : blankB c = true
        · by_cases h10 : c = 10
          · subst h10
            have hz : ∀ h : at_ < s.size, (s[at_]'h).toNat = 10 := hz
            clear hbl
            go_wp2_with fail
            exact ⟨⟨at_ + 1, line + 1, 1, false, n0, (at_ + 1 : Nat), pre, by simp, by simp, rfl, by simp, HW.out.nl HD.out, HOK.out, HROW.out, HBLK.out, HKEEP.out⟩, by simp only [intOf]; omega⟩
          · have h3 : c = 9 ∨ c = 13 ∨ c = 32 := by
              simp only [blankB, Bool.or_eq_true, beq_iff_eq] at hbl
              rcases hbl with ((h | h) | h) | h
              · exact .inl (UInt8.toNat_inj.1 h)
              · exact absurd (UInt8.toNat_inj.1 h) h10
              · exact .inr (.inl (UInt8.toNat_inj.1 h))
              · exact .inr (.inr (UInt8.toNat_inj.1 h))
            have HNX := Lib.hid (HW.out.blank HD.out hbl h10)
            clear hbl h10
            rcases h3 with rfl | rfl | rfl
            · have hz : ∀ h : at_ < s.size, (s[at_]'h).toNat = 9 := hz
              go_wp2_with fail
              exact ⟨⟨at_ + 1, line, col + 1, false, n0, first, pre, rfl, rfl, rfl, by simp, HNX.out, HOK.out, HROW.out, HBLK.out, HKEEP.out⟩, by simp only [intOf]; omega⟩
            · have hz : ∀ h : at_ < s.size, (s[at_]'h).toNat = 13 := hz
              go_wp2_with fail
              exact ⟨⟨at_ + 1, line, col + 1, false, n0, first, pre, rfl, rfl, rfl, by simp, HNX.out, HOK.out, HROW.out, HBLK.out, HKEEP.out⟩, by simp only [intOf]; omega⟩
            · have hz : ∀ h : at_ < s.size, (s[at_]'h).toNat = 32 := hz
              go_wp2_with fail
              exact ⟨⟨at_ + 1, line, col + 1, false, n0, first, pre, rfl, rfl, rfl, by simp, HNX.out, HOK.out, HROW.out, HBLK.out, HKEEP.out⟩, by simp only [intOf]; omega⟩
        · have hbf : blankB c = false := by simpa using hbl
          clear hbl
          by_cases h35 : c = 35
          · subst h35
            have hz : ∀ h : at_ < s.size, (s[at_]'h).toNat = 35 := hz
            have HNX := Lib.hid (HW.out.note HD.out)
            have HNP := Lib.hid (noteN_pos r)
            obtain ⟨m, hm⟩ : ∃ m, noteN (35 :: r) = m := ⟨_, rfl⟩
            rw [hm] at HNX HNP
            have HM := Lib.hid (show ((L.drop at_).takeWhile fun c => c != 10).length = m by rw [HD.out]; exact hm)
            clear hbf hm
            go_upto_block 2 with fail
            clear hz
            go_wp2_with fail
            go_loopw [8] (fun v8 wx => ∃ n : Nat, v8 = .int .i64 n ∧ at_ ≤ n ∧ n ≤ at_ + m ∧ wx = wr) (fun v8 _ => s.size - (intOf v8).toNat)
            case atStart => exact ⟨at_, rfl, Nat.le_refl _, Nat.le_add_right _ _, rfl⟩
            case round =>
              obtain ⟨n, rfl, hn1, hn, hwr⟩ := hrel
              have hwr := hwr.symm
              subst hwr
              by_cases hns : n < s.size
              · have hn0 : (0 : Int) ≤ n := by omega
                have hnsi : (n : Int) < (s.size : Int) := by omega
                have hWi : IntKind.i64.wrap ((n : Int) + 1) = (n : Int) + 1 := IntWalk.i64_in _ (by omega)
                obtain ⟨d, hdd, hz⟩ := byte_in hns
                obtain ⟨q1, q2⟩ := tw_step (p := fun c => c != 10) (L.drop at_) (n - at_) d (by rw [List.getElem?_drop, show at_ + (n - at_) = n by omega, ← HL.out]; exact hdd) (by rw [HM.out]; omega)
                rw [HM.out] at q1 q2
                clear hdd
                have h10 := byte_beq d 10 (by decide)
                by_cases hd10 : d = 10
                · subst hd10
                  have hz : ∀ h : n < s.size, (s[n]'h).toNat = 10 := hz
                  have HE := Lib.hid (q2 rfl)
                  clear q1 q2
                  go_wp2_with fail
                  exact ⟨⟨n, line, col + m, false, n0, first, pre, rfl, rfl, rfl, rfl, by
                    have := HNX.out
                    rw [show n = at_ + m by have := HE.out; omega]; exact this, HOK.out, HROW.out, HBLK.out, HKEEP.out⟩, by simp only [intOf]; have := HNP.out; have := HE.out; omega⟩
                · have hq := q1 (by simpa using hd10)
                  have h10' : ((d.toNat : Int) != 10) = true := by
                    show (!((d.toNat : Int) == ((10 : Nat) : Int))) = true
                    rw [byte_ne (by decide) hd10]; rfl
                  clear h10 hd10 q1 q2
                  go_wp2_with fail
                  exact ⟨⟨n + 1, by simp, by omega, by omega, by trivial⟩, by simp only [intOf]; omega⟩
              · have hns' : ¬ (n : Int) < (s.size : Int) := by omega
                have HE := Lib.hid (show n = at_ + m by
                  have h1 := HNX.out.hle
                  have := HSL.out
                  omega)
                go_wp2_with fail
                exact ⟨⟨n, line, col + m, false, n0, first, pre, rfl, rfl, rfl, rfl, by
                    have := HNX.out
                    rw [HE.out]; exact this, HOK.out, HROW.out, HBLK.out, HKEEP.out⟩, by simp only [intOf]; have := HNP.out; have := HE.out; omega⟩
          · have b9 : ((c.toNat : Int) == 9) = false := byte_ne (c := c) (k := 9) (by decide) (by rintro rfl; exact absurd hbf (by decide))
            have b10 : ((c.toNat : Int) == 10) = false := byte_ne (c := c) (k := 10) (by decide) (by rintro rfl; exact absurd hbf (by decide))
            have b13 : ((c.toNat : Int) == 13) = false := byte_ne (c := c) (k := 13) (by decide) (by rintro rfl; exact absurd hbf (by decide))
            have b32 : ((c.toNat : Int) == 32) = false := byte_ne (c := c) (k := 32) (by decide) (by rintro rfl; exact absurd hbf (by decide))
            have b35 : ((c.toNat : Int) == 35) = false := byte_ne (c := c) (k := 35) (by decide) h35
            obtain ⟨⟨⟨k, tx, nu⟩, er⟩, hT⟩ : ∃ x, tokT (c :: r) = x := ⟨_, rfl⟩
            obtain ⟨TX, hTX⟩ : ∃ TX : ByteArray, (⟨tx.toArray⟩ : ByteArray) = TX := ⟨_, rfl⟩
            have hX : (s.extract at_ s.size).data.toList = c :: r := by rw [extract_drop, HL.out, HD.out]
            have hXs : (s.extract at_ s.size).size ≤ 1099511627776 := by rw [ByteArray.size_extract]; omega
            have hO := HONE.out _ c r hX hXs
            rw [hX, hT] at hO
            have HO := Lib.hid (show ∀ W, Calls Tryd.prog 34 #[.string (s.extract at_ s.size)] W fun e w' => e = .returned (.tuple #[.agg #[.int .i64 (k : Nat), .string TX, .int .i64 (nu : Nat), .int .i64 0, .int .i64 0], .int .i64 (er : Nat)]) ∧ KeepBut (fun _ => False) W w' from fun W => by rw [← hTX]; exact hO W)
            have HTE := Lib.hid hT; have HTX := Lib.hid hTX
            have HB := Lib.hid hbf; have H35 := Lib.hid h35
            clear hX hXs hO hT hbf h35 hTX
            go_upto_region 17 with (go_at_call 34; refine (HO.out _).mono ?_; rintro e w2 ⟨rfl, hk2⟩; have HK2 := Lib.hid hk2; clear hk2)
            obtain ⟨kc, rfl⟩ : ∃ kc, col = kc + 1 := ⟨col - 1, by have := HW.out.hcol; omega⟩
            have hS1 : IntKind.i64.wrap ((at_ : Int) - first) = (kc : Int) := by
              have := HW.out.hfirst
              rw [show (at_ : Int) - first = (kc : Int) by omega]; exact IntWalk.i64_in _ (by have := HW.out.hfirst; have := HW.out.hpos; omega)
            have hS2 : IntKind.i64.wrap ((kc : Int) + 1) = (kc : Int) + 1 := IntWalk.i64_in _ (by have := HW.out.hfirst; have := HW.out.hpos; omega)
            obtain ⟨V, B10, hV, hB10, hb10, hkV, hsV⟩ := fresh_block w2 (.cells #[.int .i64 (k : Nat), .string TX, .int .i64 (nu : Nat), .int .i64 0, .int .i64 0] 30)
            rw [← hV, ← hB10]
            have HKV := Lib.hid (HK2.out.trans hkV)
            have HB10 := Lib.hid hb10
            have HSV := Lib.hid (show w2.heap.size = B10 ∧ B10 < V.heap.size by omega)
            have HWR := Lib.hid HK2.out.size
            have hbe : ((at_ : Int) == n0) = num := by rw [← HW.out.hnum]; exact Bool.eq_iff_iff.2 (by simp only [beq_iff_eq]; exact eq_comm)
            obtain ⟨lc, hlc⟩ : ∃ lc, letterB c = lc := ⟨_, rfl⟩
            have hLC := HLT.out c
            rw [hlc] at hLC
            have HLC := Lib.hid (show ∀ W, Calls Tryd.prog 35 #[.int .u8 (c.toNat : Int)] W fun e w' => e = .returned (.bool lc) ∧ w' = W from hLC)
            have HL2 := Lib.hid hlc
            clear hV hB10 hb10 hkV hsV hlc hLC
            go_cut [72] from 66 to 72 (fun v72 wx => v72 = .bool (lc && num) ∧ wx = V)
            case first =>
              cases lc with
              | true =>
                go_wp2_with (go_at_call 35; refine (HLC.out _).mono ?_; rintro e w' ⟨rfl, hw⟩; have hw := hw.symm; subst hw)
                go_meet
                case rel => exact ⟨by simp, by trivial⟩
              | false =>
                go_wp2_with (go_at_call 35; refine (HLC.out _).mono ?_; rintro e w' ⟨rfl, hw⟩; have hw := hw.symm; subst hw)
                go_meet
                case rel => exact ⟨by simp, by trivial⟩
            case rest =>
              obtain ⟨rfl, hww⟩ := hcut
              have hww := hww.symm
              subst hww
              have b3 := HKV.out.blk HBLK.out
              obtain ⟨q, hq⟩ : ∃ q, (lc && num) = q := ⟨_, rfl⟩
              have HQ := Lib.hid hq
              rw [hq]
              clear hq hbe
              cases q with
              | true =>
                have HA := Lib.hid (show (its, f) = ([], ⟨9, line, kc + 1⟩) by
                  have hh := HQ.out
                  simp only [Bool.and_eq_true] at hh
                  have h2 := HW.out.last HD.out HB.out H35.out (e := 9) (by decide) (.inl ⟨HL2.out.trans hh.1, hh.2, rfl⟩)
                  rw [← HAL.out]
                  exact all_err hlen HL.out h2 HOK.out (by decide))
                obtain ⟨e30, e31, e32, e3f0, e3f1, e3f2⟩ := blk3 b3
                obtain ⟨Wb, hWb, hb3', hBK⟩ := put3 b3 (.int .i64 9) (.int .i64 line) (.int .i64 ((kc : Int) + 1))
                obtain ⟨c30, c31, c32, -⟩ := blk3 hb3'
                have HK := Lib.hid ((HKEEP.out.trans HKV.out).new hBK fun j e => by have h2 : j = B3 := e; have := HN.out; omega)
                have HWb := Lib.hid hWb
                clear b3 hb3' hBK hWb
                go_wp2_with fail
                rw [← HWb.out]
                refine bodyPost_ret (v := .tuple #[.slice none 0 0, .agg #[.int .i64 9, .int .i64 line, .int .i64 ((kc : Int) + 1)]]) (by simp [results, Tryd.results17, go_sem, c30, c31, c32]) rfl ?_
                have := HA.out
                simp only [Prod.mk.injEq] at this
                obtain ⟨rfl, rfl⟩ := this
                exact ⟨none, 0, rfl, fun i hi => absurd hi (by simp), HK.out⟩
              | false =>
                by_cases her : er = 0
                · have heri : ((er : Int) != 0) = false := by simp [her]
                  have h3 : ¬ (letterB c = true ∧ num = true) := fun h => by
                    have hh := HQ.out
                    rw [HL2.out] at h; rw [h.1, h.2] at hh; cases hh
                  have h4 : (tokT (c :: r)).2 = 0 := by rw [HTE.out]; exact her
                  have hto := tokT_ok h4
                  have hTXs : TX.size = tx.length := by rw [← HTX.out]; rfl
                  have hnx := HW.out.tok HD.out HB.out H35.out h3 h4 (if k = 3 then ((at_ + TX.size : Nat) : Int) else n0) (by rw [HTE.out, hTXs]; simp)
                  rw [HTE.out] at hnx hto
                  dsimp only at hnx hto
                  rw [← hTXs] at hnx hto
                  have HNX := Lib.hid hnx
                  have hpos := hto.1
                  have hle : at_ + TX.size ≤ s.size := by rw [← HSL.out]; exact hnx.hle
                  have hWt : IntKind.i64.wrap ((at_ : Int) + (TX.size : Int)) = (at_ : Int) + (TX.size : Int) := IntWalk.i64_in _ (by omega)
                  have hpl := len_pre HW.out
                  rw [HSL.out] at hpl
                  have HE := Lib.hid hTXs
                  obtain ⟨e0, e1, e2, e3, e4, f0, f1, f2, f3, f4⟩ := blk5 HB10.out
                  have hb2 := put1 (i := 4) (put1 (i := 3) HB10.out (.int .i64 line)) (.int .i64 ((kc : Int) + 1))
                  have hk2 : KeepBut (fun j => j = B10) V ((V.setCell ⟨B10, 3, none⟩ (.int .i64 line)).setCell ⟨B10, 4, none⟩ (.int .i64 ((kc : Int) + 1))) := (KeepBut.setCell (E := fun j => j = B10) V ⟨B10, 3, none⟩ _ rfl).trans (KeepBut.setCell (E := fun j => j = B10) _ ⟨B10, 4, none⟩ _ rfl)
                  obtain ⟨V2, hV2⟩ : ∃ V2, ((V.setCell ⟨B10, 3, none⟩ (.int .i64 line)).setCell ⟨B10, 4, none⟩ (.int .i64 ((kc : Int) + 1))) = V2 := ⟨_, rfl⟩
                  rw [hV2] at hb2 hk2
                  have hb2 : V2.heap[B10]? = some (.cells #[.int .i64 (k : Nat), .string TX, .int .i64 (nu : Nat), .int .i64 line, .int .i64 ((kc : Int) + 1)] 30 (0, 0)) := hb2
                  have HK2' := Lib.hid (HKV.out.new hk2 fun j e => by have h2 : j = B10 := e; have := HSV.out; have := HWR.out; omega)
                  have HV2 := Lib.hid hV2
                  have HB2 := Lib.hid hb2
                  clear her h3 h4 hto hTXs hnx b3 hb2 hk2 hV2
                  go_upto_region 22 with fail
                  rw [HV2.out]
                  clear e0 e1 e2 e3 e4 f0 f1 f2 f3 f4
                  obtain ⟨e0, e1, e2, e3, e4, -⟩ := blk5 HB2.out
                  obtain ⟨i0, hi, hz0, hz1, hz2⟩ := info_parts info_token
                  have HROW2 := Lib.hid (row_stay HROW.out HK2'.out)
                  have hws : w.heap.size ≤ V2.heap.size := Nat.le_trans HKEEP.out.size HK2'.out.size
                  have HI := Lib.hid hi; have HZ0 := Lib.hid hz0; have HZ1 := Lib.hid hz1; have HZ2 := Lib.hid hz2
                  clear hi hz0 hz1 hz2
                  go_upto_region 23 with (at_builtin; go_loud (refine wpList_append_own _ rfl _ _ 23 rfl w.heap.size TT i0 _ 5 48 tt_slice HI.out HZ0.out HZ1.out HZ2.out rfl (by decide) u4 pre.length (cellsT pre) rfl (HROW2.out.alloc _) ⟨V2.heap.size, 0, none⟩ 1 1 [.int .i64 (k : Nat), .string TX, .int .i64 (nu : Nat), .int .i64 line, .int .i64 ((kc : Int) + 1)] rfl rfl (cells_at (heap_alloc_new V2 _)) (by simp [Value.oneCell']) (by unfold maxLen; omega) (by omega) (by rw [World.size_alloc]; omega) ?_)
                                          intro v' w5 hown' hgrow _; have HOWN := Lib.hid hown'; have HGR := Lib.hid hgrow; clear hown' hgrow)
                  have hx : KeepBut (fun _ => False) w (V2.alloc (.cells #[.int .i64 (k : Nat), .string TX, .int .i64 (nu : Nat), .int .i64 line, .int .i64 ((kc : Int) + 1)] TT)) := (HKEEP.out.trans HK2'.out).trans (KeepBut.alloc _ _ _)
                  have HK5 := Lib.hid (row_grown (HROW2.out.alloc _) HGR.out hx (Nat.le_refl _))
                  have HB5 := Lib.hid (row_other (HROW2.out.alloc _) HGR.out (by decide) (cells_alloc (HK2'.out.blk HBLK.out) _))
                  have hB10 := cells_kept (cells_alloc HB2.out _) HGR.out (fun e => by
                    have h1 := (HROW.out.lt B10 e.symm).2
                    have := HSV.out; have := HWR.out; omega)
                  obtain ⟨e0, e1, e2, e3, e4, -⟩ := blk5 hB10
                  clear hx hB10
                  have hrow5 : w5.ownsRow w.heap.size TT 5 v' (pre ++ [(⟨⟨k, tx, nu⟩, line, kc + 1, 0⟩ : Item)]).length (cellsT (pre ++ [(⟨⟨k, tx, nu⟩, line, kc + 1, 0⟩ : Item)])) := by
                    rw [cellsT_snoc, List.length_append]
                    have := HOWN.out
                    rw [← HTX.out] at this
                    exact this
                  have HROW5 := Lib.hid hrow5
                  have HOK5 := Lib.hid (show okS (pre ++ [⟨⟨k, tx, nu⟩, line, kc + 1, 0⟩]) from fun i hi => by
                    rcases List.mem_append.1 hi with h | h
                    · exact HOK.out i h
                    · rw [List.mem_singleton] at h; rw [h])
                  clear hrow5
                  by_cases hk3 : k = 3
                  · have hki : ((k : Int) == 3) = true := by simp [hk3]
                    have HK3 := Lib.hid hk3
                    clear hk3
                    go_wp2_with fail
                    exact ⟨⟨at_ + TX.size, line, kc + 1 + TX.size, k == 3, ((at_ + TX.size : Nat) : Int), first, _, rfl, rfl, by simp, by simp, by have := HNX.out; rw [if_pos HK3.out] at this; exact this, HOK5.out, HROW5.out, HB5.out, HK5.out⟩, by simp only [intOf]; omega⟩
                  · have hki : ((k : Int) == 3) = false := by simp; omega
                    have HK3 := Lib.hid hk3
                    clear hk3
                    go_wp2_with fail
                    exact ⟨⟨at_ + TX.size, line, kc + 1 + TX.size, k == 3, n0, first, _, rfl, rfl, rfl, by simp, by have := HNX.out; rw [if_neg HK3.out] at this; exact this, HOK5.out, HROW5.out, HB5.out, HK5.out⟩, by simp only [intOf]; omega⟩
                · have heri : ((er : Int) != 0) = true := by simp [her]
                  have HA := Lib.hid (show (its, f) = ([], ⟨er, line, kc + 1⟩) by
                    have hh := HQ.out
                    have h2 := HW.out.last HD.out HB.out H35.out (e := er) her (.inr ⟨(fun h => by rw [HL2.out] at h; rw [h.1, h.2] at hh; cases hh), by rw [HTE.out]⟩)
                    rw [← HAL.out]
                    exact all_err hlen HL.out h2 HOK.out her)
                  obtain ⟨e30, e31, e32, e3f0, e3f1, e3f2⟩ := blk3 b3
                  obtain ⟨Wb, hWb, hb3', hBK⟩ := put3 b3 (.int .i64 (er : Nat)) (.int .i64 line) (.int .i64 ((kc : Int) + 1))
                  obtain ⟨c30, c31, c32, -⟩ := blk3 hb3'
                  have HK := Lib.hid ((HKEEP.out.trans HKV.out).new hBK fun j e => by have h2 : j = B3 := e; have := HN.out; omega)
                  have HWb := Lib.hid hWb
                  clear b3 hb3' hBK hWb her
                  go_wp2_with fail
                  rw [← HWb.out]
                  refine bodyPost_ret (v := .tuple #[.slice none 0 0, .agg #[.int .i64 (er : Nat), .int .i64 line, .int .i64 ((kc : Int) + 1)]]) (by simp [results, Tryd.results17, go_sem, c30, c31, c32]) rfl ?_
                  have := HA.out
                  simp only [Prod.mk.injEq] at this
                  obtain ⟨rfl, rfl⟩ := this
                  exact ⟨none, 0, rfl, fun i hi => absurd hi (by simp), HK.out⟩
      · have hnl : ¬ (at_ : Int) < (s.size : Int) := by omega
        have hend : at_ = s.size := by have := hw.hle; have := HSL.out; omega
        subst hend
        have HA := Lib.hid (show (its, f) = (pre, ⟨0, 0, 0⟩) by
          rw [← HAL.out]
          exact all_end hlen (by rw [HL.out]; exact hw) hok)
        obtain ⟨e30, e31, e32, e3f0, e3f1, e3f2⟩ := blk3 hblk
        obtain ⟨Wb, hWb, hb3', hBK⟩ := put3 hblk (.int .i64 0) (.int .i64 0) (.int .i64 0)
        obtain ⟨p, cap, rfl, hrt, -⟩ := RowT.of_owns (row_ne hrow hblk (by decide) hBK)
        obtain ⟨c30, c31, c32, -⟩ := blk3 hb3'
        have HK := Lib.hid (hkeep.new hBK fun j e => by have h2 : j = B3 := e; have := HN.out; omega)
        have HWb := Lib.hid hWb
        have HRT := Lib.hid hrt
        clear hrow hblk hb3' hBK hWb hrt hw hok hkeep
        go_wp2_with fail
        rw [← HWb.out]
        refine bodyPost_ret (v := .tuple #[.slice p pre.length cap, .agg #[.int .i64 0, .int .i64 0, .int .i64 0]]) (by simp [results, Tryd.results17, go_sem, c30, c31, c32]) rfl ?_
        have := HA.out
        simp only [Prod.mk.injEq] at this
        obtain ⟨rfl, rfl⟩ := this
        exact ⟨p, cap, rfl, HRT.out, HK.out⟩

end Go.Proofs.YtmklmlocldbaoaaDoor
