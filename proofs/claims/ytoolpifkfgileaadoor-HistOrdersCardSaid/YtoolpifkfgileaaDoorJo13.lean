/- Joined texts of this work: HiH, HiI, Hp7, Ho1. -/
import Derived.Test.YtoolpifkfgileaaDoorJo12
import Derived.WalkLawsBesides
import Derived.Test.YtoolpifkfgileaaDoorJo8

/-
  Chapter 29: HistPrefix: the walk.
-/
namespace Go.Proofs.YtoolpifkfgileaaDoor
open Go Go.RowKit Own

def TrueOf (w : World) (e : Ending) (w' : World) : Prop := e = .returned (.bool true) ∧ KeepBut (fun _ => False) w w'

set_option maxHeartbeats 8000000 in
theorem prefix_many (w : World) (pk pc : Option Addr) (ck cc : Nat) (ks : List Int) (cs : List Cl) (tm : Int) (hT : TabP w) (hB : BitTab w) (hs : 26 < cs.length ∨ 8 < ks.length) :
    Calls Tryd.prog 3 #[histV pk pc ck cc ks cs, .int .i64 tm] w fun e w' => TrueOf w e w' := by
  obtain ⟨V, B, hV, hB0, hb, hkV, hsV⟩ := fresh_block w (.cells #[.slice pk ks.length ck, .slice pc cs.length cc] THi)
  have HK := Lib.hid hkV; have HBB := Lib.hid hb
  have HLV := Lib.hid (lives_any V (hkV.tabP hT) (hkV.bitTab hB))
  have HE := Lib.hid (show (decide (cs.length ≤ 26) && decide (ks.length ≤ 8)) = false by
    rcases hs with h | h
    · rw [decide_eq_false (by omega)]; rfl
    · rw [decide_eq_false (p := ks.length ≤ 8) (by omega), Bool.and_false])
  have HLT := fun W => light_any W pk pc ck cc ks cs
  rw [HE.out] at HLT
  have HLT := Lib.hid HLT
  unfold histV at HLT ⊢
  clear hb hkV hsV hT hB hs
  go_enter Tryd.func3, Tryd.ntmps3
  go_upto_region 1 with fail
  rw [← hV, ← hB0]
  clear hV hB0
  go_upto_region 3 with (go_at_call 9; refine HLV.out.mono ?_; rintro e w2 ⟨rfl, hk⟩; obtain ⟨e0, e1, -⟩ := blk2 (hk.blk HBB.out); have HK2 := Lib.hid hk; clear hk)
  go_wp2_with (go_at_call 10; refine (HLT.out _).mono ?_; rintro e w3 ⟨rfl, hk⟩; have HK3 := Lib.hid hk; clear hk)
  go_ret
  exact ⟨rfl, (HK.out.trans HK2.out).trans HK3.out⟩

/-- where HistPrefix is, between two rounds of its last loop -/
structure PreAt (ks : List Int) (cs : List Cl) (tm : Int) (w wr : World) (B7 : Nat) (pk' : Option Addr) (ck' : Nat) (v : Value) (i : Nat) : Prop where
  box : wr.heap[B7]? = some (.cells #[.slice pk' ks.length ck', v] THi (0, 0))
  row : wr.ownsRow (B7 + 1) TCl 8 v (cutH tm (cs.take i)).length (cellsC (cutH tm (cs.take i)))
  keep : KeepBut (fun _ => False) w wr
  lt : w.heap.size ≤ B7
  rdk : Rd wr pk' (ints ks)
  pkb : ∀ a, pk' = some a → a.block < B7

theorem row_keepE {w w' : World} {base size : Nat} {T : TypeId} {v : Value} {n : Nat} {xs : List Value} {E : Nat → Prop} (h : w.ownsRow base T size v n xs) (k : KeepBut E w w') (hE : ∀ g, base ≤ g → ¬ E g) : w'.ownsRow base T size v n xs := by
  obtain ⟨h0, h1 | ⟨g, cap, cur, h1, h2, h3, h4⟩⟩ := h
  · exact ⟨h0, .inl h1⟩
  · exact ⟨h0, .inr ⟨g, cap, cur, h1, h2, keep_blk k h3 (hE g h2), h4⟩⟩

theorem cut_take {cs : List Cl} {t : Int} {i : Nat} (hi : i < cs.length) : cutH t (cs.take (i + 1)) = if (nthC cs i).beg < t then cutH t (cs.take i) ++ [truncC t (nthC cs i)] else cutH t (cs.take i) := by
  rw [drop_nth hi]
  unfold cutH
  rw [List.filter_append, List.map_append]
  by_cases h : (nthC cs i).beg < t
  · rw [if_pos h]; simp [h]
  · rw [if_neg h]; simp [h]

theorem pre_same {ks : List Int} {cs : List Cl} {t : Int} {w wr wr' : World} {B7 : Nat} {pk' : Option Addr} {ck' : Nat} {v : Value} {i : Nat} (h : PreAt ks cs t w wr B7 pk' ck' v i) (k : KeepBut (fun _ => False) wr wr') : PreAt ks cs t w wr' B7 pk' ck' v i :=
  ⟨k.blk h.box, row_keep h.row k, h.keep.trans k, h.lt, h.rdk.stay k, h.pkb⟩
theorem pre_skip {ks : List Int} {cs : List Cl} {t : Int} {w wr : World} {B7 : Nat} {pk' : Option Addr} {ck' : Nat} {v : Value} {i : Nat} (hi : i < cs.length) (hb : ¬ (nthC cs i).beg < t) (h : PreAt ks cs t w wr B7 pk' ck' v i) : PreAt ks cs t w wr B7 pk' ck' v (i + 1) :=
  ⟨h.box, by rw [cut_take hi, if_neg hb]; exact h.row, h.keep, h.lt, h.rdk, h.pkb⟩

/-- one more call has been put at the end -/
theorem pre_step {ks : List Int} {cs : List Cl} {t : Int} {w V10 w' : World} {B7 : Nat} {pk' : Option Addr} {ck' : Nat} {v v' : Value} {i : Nat} {X : Obj} (hi : i < cs.length) (hb : (nthC cs i).beg < t) (h : PreAt ks cs t w V10 B7 pk' ck' v i)
    (h1 : w'.ownsRow (B7 + 1) TCl 8 v' ((cutH t (cs.take i)).length + 1) (cellsC (cutH t (cs.take i)) ++ (truncC t (nthC cs i)).vals)) (h2 : (V10.alloc X).grownBy w' v.ownBlock) :
    PreAt ks cs t w (w'.setCell ⟨B7, 1, none⟩ v') B7 pk' ck' v' (i + 1) ∧ w'.heap[B7]? = some (.cells #[.slice pk' ks.length ck', v] THi (0, 0)) := by
  have hown : ∀ j, v.ownBlock = some j → B7 + 1 ≤ j := fun j hj => (h.row.lt j hj).1
  have k1 : KeepBut (fun j => v.ownBlock = some j) V10 w' := (KeepBut.alloc _ V10 X).trans (KeepBut.grown (E := fun j => v.ownBlock = some j) h2 fun _ e => e)
  have hbox := keep_blk k1 h.box fun e => by have := hown B7 e; omega
  have hk1 : KeepBut (fun _ => False) w w' := h.keep.new k1 fun j e => by have := hown j e; have := h.lt; omega
  have ks1 : KeepBut (fun k => k = B7) w' (w'.setCell ⟨B7, 1, none⟩ v') := KeepBut.setCell _ _ _ rfl
  refine ⟨⟨?_, ?_, hk1.new ks1 fun j e => by have e : j = B7 := e; have := h.lt; omega, h.lt, ?_, h.pkb⟩, hbox⟩
  · have := put1 (i := 1) hbox v'
    exact this
  · rw [cut_take hi, if_pos hb, cellsC_snoc, List.length_append]
    exact row_keepE h1 ks1 fun g hg e => by have e : g = B7 := e; omega
  · refine (h.rdk.keep k1 fun a ha e => ?_).keep ks1 fun a ha e => ?_
    · have := hown _ e
      have := h.pkb a ha
      omega
    · have e : a.block = B7 := e
      have := h.pkb a ha
      omega

theorem cut_args {cs : List Cl} {t : Int} (h : ArgsIn cs) : ArgsIn (cutH t cs) := fun c hc => by
  obtain ⟨c, hc0, rfl⟩ := List.mem_map.1 hc
  have := h c (List.mem_filter.1 hc0).1
  unfold truncC
  split
  · exact this
  · exact this
theorem cut_len {cs : List Cl} {t : Int} : (cutH t cs).length ≤ cs.length := by
  unfold cutH
  rw [List.length_map]
  exact List.length_filter_le _ _

set_option maxRecDepth 100000 in
set_option maxHeartbeats 32000000 in
theorem prefix_walk (w : World) (pk pc : Option Addr) (ck cc : Nat) (ks : List Int) (cs : List Cl) (tm : Int) (hI : HistIn w pk pc ks cs) (hl26 : cs.length ≤ 26) :
    Calls Tryd.prog 3 #[histV pk pc ck cc ks cs, .int .i64 tm] w fun e w' => TrueOf w e w' := by
  obtain ⟨V, B, hV, hB0, hb, hkV, hsV⟩ := fresh_block w (.cells #[.slice pk ks.length ck, .slice pc cs.length cc] THi)
  have HI := Lib.hid (hI.stay hkV)
  have HK := Lib.hid hkV; have HBB := Lib.hid hb
  have HLV := Lib.hid (lives_any V HI.out.tab HI.out.bit)
  have HE := Lib.hid (show (decide (cs.length ≤ 26) && decide (ks.length ≤ 8)) = true by
    rw [decide_eq_true hl26, decide_eq_true hI.k8]; rfl)
  have HLT := fun W => light_any W pk pc ck cc ks cs
  rw [HE.out] at HLT
  have HLT := Lib.hid HLT
  have HCH := Lib.hid fun W (h : HistIn W pk pc ks cs) => chkH_any W pk pc ck cc ks cs h.rd h.calls (by have := hI.k8; omega) (by omega)
  have HWD := Lib.hid fun W (h : HistIn W pk pc ks cs) => wide_any W pk pc ck cc ks cs h.calls h.c60
  have HLN := Lib.hid fun W (h : HistIn W pk pc ks cs) => linear_any W pk pc ck cc ks cs h
  obtain ⟨ch, hch⟩ : ∃ ch, chkH ks cs = ch := ⟨_, rfl⟩
  rw [hch] at HCH
  have HCHE := Lib.hid hch
  unfold histV at HLT HCH HWD HLN ⊢
  have HKS8 := Lib.hid hI.k8
  clear hb hkV hsV hch hI
  go_enter Tryd.func3, Tryd.ntmps3
  go_upto_region 1 with fail
  rw [← hV, ← hB0]
  clear hV hB0
  go_upto_region 3 with (go_at_call 9; refine HLV.out.mono ?_; rintro e w2 ⟨rfl, hk⟩; obtain ⟨e0, e1, -⟩ := blk2 (hk.blk HBB.out); have HK2 := Lib.hid hk; clear hk)
  go_wp2_with fail
  go_at_call 10
  refine (HLT.out _).mono ?_
  rintro e w3 ⟨rfl, hk⟩
  have HK3 := Lib.hid (HK2.out.trans hk)
  clear hk e0 e1
  obtain ⟨e0, e1, -⟩ := blk2 (HK3.out.blk HBB.out)
  have HCH := Lib.hid (HCH.out w3 (HI.out.stay HK3.out))
  by_cases h0 : ch = 0
  · have h0b : (ch != 0) = false := by simp [h0]
    have H0 := Lib.hid h0
    clear h0
    go_wp2_with fail
    go_at_call 11
    refine HCH.out.mono ?_
    rintro e w4 ⟨rfl, hk⟩
    have HK4 := Lib.hid (HK3.out.trans hk)
    clear hk e0 e1
    obtain ⟨e0, e1, -⟩ := blk2 (HK4.out.blk HBB.out)
    have HWD := Lib.hid (HWD.out w4 (HI.out.stay HK4.out))
    go_wp2_with fail
    go_at_call 12
    refine HWD.out.mono ?_
    rintro e w5 ⟨z, rfl, hk⟩
    have HK5 := Lib.hid (HK4.out.trans hk)
    clear hk e0 e1
    obtain ⟨e0, e1, -⟩ := blk2 (HK5.out.blk HBB.out)
    by_cases hz : 6 < z
    · have hzb : decide (6 < z) = true := decide_eq_true hz
      go_wp2_with fail
      go_ret
      exact ⟨rfl, HK.out.trans HK5.out⟩
    · have hzb : decide (6 < z) = false := decide_eq_false hz
      have HLN := Lib.hid (HLN.out w5 (HI.out.stay HK5.out))
      go_wp2_with fail
      go_at_call 13
      refine HLN.out.mono ?_
      rintro e w6 ⟨lv, rfl, hlv, hk⟩
      have HK6 := Lib.hid (HK5.out.trans hk)
      clear hk e0 e1
      cases lv with
      | false =>
        clear hlv
        go_wp2_with fail
        go_ret
        exact ⟨rfl, HK.out.trans HK6.out⟩
      | true =>
        have HLIN := Lib.hid (hlv.1 rfl)
        clear hlv hz hzb h0b
        go_wp2_with fail
        go_loopw [5, 6] (fun v5 v6 wr => ∃ (z : Int) (i : Nat), v5 = .int .i64 z ∧ 0 ≤ z ∧ v6 = .int .i64 i ∧ i ≤ cs.length ∧ KeepBut (fun _ => False) V wr) (fun _ v _ => cs.length - (intOf v).toNat)
        case atStart => exact ⟨0, 0, rfl, by decide, rfl, Nat.zero_le _, HK6.out⟩
        case round =>
          obtain ⟨z, i, rfl, hz0, rfl, hi, hk⟩ := hrel
          obtain ⟨b0, b1, -⟩ := blk2 (hk.blk HBB.out)
          have HK7 := Lib.hid hk
          by_cases hlt : i < cs.length
          · have hlti : (i : Int) < cs.length := by omega
            have hi0 : (0 : Int) ≤ i := by omega
            have hWi : IntKind.i64.wrap ((i : Int) + 1) = (i : Int) + 1 := IntWalk.i64_in _ (by omega)
            obtain ⟨g, o, hg, -, -, -, -, x4, x5, -⟩ := (HI.out.stay hk).calls i hlt
            subst hg
            have FIN := Lib.hid (fun n => hk.trans (KeepBut.drewN (fun _ => False) wr n))
            clear hk
            go_upto_region 9 with fail
            go_quiet (fail)
            go_wp2_with fail
            exact ⟨⟨_, i + 1, rfl, (by split <;> split <;> omega), by simp, by omega, FIN.out _⟩, by simp only [intOf]; omega⟩
          · have hnl : ¬ (i : Int) < cs.length := by omega
            clear hk
            by_cases hbig : 1073741824 < z
            · go_wp2_with fail
              go_ret
              exact ⟨rfl, HK.out.trans HK7.out⟩
            · have hW2 : IntKind.i64.wrap (z + 2) = z + 2 := IntWalk.i64_in _ (by omega)
              have hpr := pick_range (k := tm) (n := z + 2) (by omega)
              have HPK := Lib.hid (fun W => pick_any W tm (z + 2) (by omega) (by omega))
              obtain ⟨t, ht⟩ : ∃ t, pick tm (z + 2) = t := ⟨_, rfl⟩
              rw [ht] at HPK hpr
              have hOWN := fun W (h : HistIn W pk pc ks cs) => ownInt_any W pk ck ks h.rd (by have := h.k8; omega)
              have HOWN := Lib.hid hOWN
              clear ht hOWN
              go_upto_region 13 with (go_at_call 14; refine (HPK.out _).mono ?_; rintro e w' ⟨rfl, hw⟩; have hw := hw.symm; subst hw)
              go_wp2_with fail
              go_at_call 15
              refine (HOWN.out _ (HI.out.stay HK7.out)).mono ?_
              rintro e w8 ⟨pk', ck', rfl, hown, hk⟩
              have HOW := Lib.hid hown
              have HK8 := Lib.hid (HK7.out.trans hk)
              obtain ⟨W7, B7, hW7, hB7, hb7, hk7, hs7⟩ := fresh_block w8 (.cells #[.slice pk' ks.length ck', .slice none 0 0] THi)
              have HN7 := Lib.hid (show V.heap.size ≤ B7 by have := HK8.out.size; omega)
              have HAT := Lib.hid (show PreAt ks cs t V W7 B7 pk' ck' (.slice none 0 0) 0 from ⟨hb7, World.ownsRow_nil _ _ _ _, HK8.out.trans hk7, HN7.out, hown.rd.stay hk7, fun a ha => by have := (hown.lt a ha).2; omega⟩)
              have HSZ := Lib.hid (show W7.heap.size = B7 + 1 from hs7)
              clear hown hk hb7 hk7 hs7 b0 b1
              have HLOC := Lib.hid (show HistIn W7 pk pc ks cs from HI.out.stay HAT.out.keep)
              go_wp2_with fail
              rw [← hW7, ← hB7]
              clear hW7 hB7
              go_loopw [8] (fun v8 wr => ∃ (i : Nat) (v : Value), v8 = .int .i64 i ∧ i ≤ cs.length ∧ PreAt ks cs t V wr B7 pk' ck' v i) (fun v _ => cs.length - (intOf v).toNat)
              case atStart => exact ⟨0, _, rfl, Nat.zero_le _, HAT.out⟩
              case round =>
                clear HAT HPK HLV HLT HCH HWD
                obtain ⟨i, v, rfl, hi, hat⟩ := hrel
                obtain ⟨b0, b1, -⟩ := blk2 (hat.keep.blk HBB.out)
                have HAT := Lib.hid hat
                by_cases hlt : i < cs.length
                · have hlti : (i : Int) < cs.length := by omega
                  have hi0 : (0 : Int) ≤ i := by omega
                  have hWi : IntKind.i64.wrap ((i : Int) + 1) = (i : Int) + 1 := IntWalk.i64_in _ (by omega)
                  obtain ⟨g, o, hg, x0, x1, x2, x3, x4, x5, x6, x7⟩ := (HI.out.stay hat.keep).calls i hlt
                  subst hg
                  obtain ⟨V9, B9, hV9, hB9, hb9, hk9, hs9⟩ := fresh_block wr (.cells (nthC cs i).vals.toArray TCl)
                  have hv9 : (nthC cs i).vals.toArray = #[.int .i64 (nthC cs i).hart, .int .i64 (nthC cs i).cont, .int .i64 (nthC cs i).op, .int .i64 (nthC cs i).arg, .int .i64 (nthC cs i).beg, .int .i64 (nthC cs i).till, .int .i64 (nthC cs i).value, .int .i64 (nthC cs i).code] := rfl
                  rw [hv9] at hV9 hb9
                  clear hat hv9
                  go_upto_region 18 with fail
                  rw [← hV9, ← hB9]
                  have HNE := Lib.hid (show wr.heap.size ≤ B9 by omega)
                  clear hV9 hB9 x0 x1 x2 x3 x4 x5 x6 x7 b0 b1
                  have HK9 := Lib.hid hk9; have HB9 := Lib.hid hb9
                  obtain ⟨c0, c1, c2, c3, c4, c5, c6, c7⟩ := blk8 hb9
                  clear hk9 hb9 hs9
                  by_cases hbt : t ≤ (nthC cs i).beg
                  · have HBT := Lib.hid (show ¬ (nthC cs i).beg < t by omega)
                    go_wp2_with fail
                    exact ⟨⟨i + 1, v, by simp, by omega, pre_skip hlt HBT.out (pre_same HAT.out HK9.out)⟩, by simp only [intOf]; omega⟩
                  · have HBT := Lib.hid (show (nthC cs i).beg < t by omega)
                    by_cases htl : t ≤ (nthC cs i).till
                    · have HTR := Lib.hid (show truncC t (nthC cs i) = { nthC cs i with till := -1, value := 0, code := 0 } by unfold truncC; rw [if_pos htl])
                      have f5 : V9.frozen? ⟨B9, 5, none⟩ = false := by simp [World.frozen?, HB9.out]
                      have f6 : V9.frozen? ⟨B9, 6, none⟩ = false := by simp [World.frozen?, HB9.out]
                      have f7 : V9.frozen? ⟨B9, 7, none⟩ = false := by simp [World.frozen?, HB9.out]
                      go_upto_region 21 with fail
                      have hset := put1 (i := 7) (put1 (i := 6) (put1 (i := 5) HB9.out (.int .i64 (-1))) (.int .i64 0)) (.int .i64 0)
                      have hks : KeepBut (fun k => k = B9) V9 (((V9.setCell ⟨B9, 5, none⟩ (.int .i64 (-1))).setCell ⟨B9, 6, none⟩ (.int .i64 0)).setCell ⟨B9, 7, none⟩ (.int .i64 0)) := ((KeepBut.setCell (E := fun k => k = B9) _ _ _ rfl).trans (KeepBut.setCell (E := fun k => k = B9) _ _ _ rfl)).trans (KeepBut.setCell (E := fun k => k = B9) _ _ _ rfl)
                      obtain ⟨V10, hV10⟩ : ∃ W, (((V9.setCell ⟨B9, 5, none⟩ (.int .i64 (-1))).setCell ⟨B9, 6, none⟩ (.int .i64 0)).setCell ⟨B9, 7, none⟩ (.int .i64 0)) = W := ⟨_, rfl⟩
                      rw [hV10] at hset hks ⊢
                      have HB10 := Lib.hid (show V10.heap[B9]? = some (.cells (truncC t (nthC cs i)).vals.toArray TCl (0, 0)) by rw [HTR.out]; exact hset)
                      have HKX := Lib.hid (show KeepBut (fun _ => False) wr V10 from HK9.out.new hks fun k e => by have e : k = B9 := e; have := HNE.out; omega)
                      clear hset hks hV10 c0 c1 c2 c3 c4 c5 c6 c7 f5 f6 f7
                      have HAT10 := Lib.hid (pre_same HAT.out HKX.out)
                      obtain ⟨b0, b1, -, f1⟩ := blk2 HAT10.out.box
                      obtain ⟨c0, c1, c2, c3, c4, c5, c6, c7⟩ := blk8 HB10.out
                      have HROW := Lib.hid HAT10.out.row
                      have hlen := Nat.le_trans (cut_len (cs := cs.take i) (t := t)) (List.length_take_le i cs)
                      obtain ⟨n, hn⟩ : ∃ n, (cutH t (cs.take i)).length = n := ⟨_, rfl⟩
                      rw [hn] at hlen HROW
                      have HN := Lib.hid hn
                      have HVV := Lib.hid (show (truncC t (nthC cs i)).vals = [.int .i64 (truncC t (nthC cs i)).hart, .int .i64 (truncC t (nthC cs i)).cont, .int .i64 (truncC t (nthC cs i)).op, .int .i64 (truncC t (nthC cs i)).arg, .int .i64 (truncC t (nthC cs i)).beg, .int .i64 (truncC t (nthC cs i)).till, .int .i64 (truncC t (nthC cs i)).value, .int .i64 (truncC t (nthC cs i)).code] from rfl)
                      obtain ⟨cx, hcx⟩ : ∃ cx, truncC t (nthC cs i) = cx := ⟨_, rfl⟩
                      rw [hcx] at c0 c1 c2 c3 c4 c5 c6 c7 HVV
                      have HCX := Lib.hid hcx
                      clear hn hcx
                      obtain ⟨i0, hi, hz0, hz1, hz2⟩ := info_parts info_call
                      have HI0 := Lib.hid hi; have HZ0 := Lib.hid hz0; have HZ1 := Lib.hid hz1; have HZ2 := Lib.hid hz2
                      have HSB := Lib.hid (show B7 + 1 ≤ V10.heap.size by
                        have := (Array.getElem?_eq_some_iff.1 HAT10.out.box).1
                        omega)
                      clear hi hz0 hz1 hz2
                      go_wp2_with (at_builtin; go_loud (refine wpList_append_own _ rfl (.tmp 85) (.tmp 87) 23 rfl (B7 + 1) TCl i0 _ 8 64 calls_ty HI0.out HZ0.out HZ1.out HZ2.out rfl (by decide) v n (cellsC (cutH t (cs.take i))) rfl (HROW.out.alloc _) ⟨V10.heap.size, 0, none⟩ 1 1 cx.vals rfl rfl (cellsAt (heap_alloc_new V10 _)) (fun u hu => cellsC_one [cx] u (by simpa [cellsC] using hu)) (by unfold maxLen; omega) (by omega) (by rw [World.size_alloc]; have := HSB.out; omega) ?_)
                                   intro v' w' h1 h2 _
                                   have HST := Lib.hid (pre_step hlt HBT.out HAT10.out (by rw [HN.out, HCX.out]; exact h1) h2)
                                   obtain ⟨-, b1', -, f1'⟩ := blk2 HST.out.2
                                   obtain ⟨p', c', hv', -⟩ := Rd.of_owns h1
                                   subst hv'
                                   clear h1 h2)
                      exact ⟨⟨i + 1, _, by simp, by omega, HST.out.1⟩, by simp only [intOf]; omega⟩
                    · have HTR := Lib.hid (show truncC t (nthC cs i) = nthC cs i by unfold truncC; rw [if_neg htl])
                      go_upto_region 21 with fail
                      obtain ⟨V10, hV10⟩ : ∃ W, V9 = W := ⟨_, rfl⟩
                      have HB10 := Lib.hid (show V10.heap[B9]? = some (.cells (truncC t (nthC cs i)).vals.toArray TCl (0, 0)) by rw [HTR.out, ← hV10]; exact HB9.out)
                      have HKX := Lib.hid (show KeepBut (fun _ => False) wr V10 from by rw [← hV10]; exact HK9.out)
                      rw [hV10]
                      clear hV10 c0 c1 c2 c3 c4 c5 c6 c7
                      have HAT10 := Lib.hid (pre_same HAT.out HKX.out)
                      obtain ⟨b0, b1, -, f1⟩ := blk2 HAT10.out.box
                      obtain ⟨c0, c1, c2, c3, c4, c5, c6, c7⟩ := blk8 HB10.out
                      have HROW := Lib.hid HAT10.out.row
                      have hlen := Nat.le_trans (cut_len (cs := cs.take i) (t := t)) (List.length_take_le i cs)
                      obtain ⟨n, hn⟩ : ∃ n, (cutH t (cs.take i)).length = n := ⟨_, rfl⟩
                      rw [hn] at hlen HROW
                      have HN := Lib.hid hn
                      have HVV := Lib.hid (show (truncC t (nthC cs i)).vals = [.int .i64 (truncC t (nthC cs i)).hart, .int .i64 (truncC t (nthC cs i)).cont, .int .i64 (truncC t (nthC cs i)).op, .int .i64 (truncC t (nthC cs i)).arg, .int .i64 (truncC t (nthC cs i)).beg, .int .i64 (truncC t (nthC cs i)).till, .int .i64 (truncC t (nthC cs i)).value, .int .i64 (truncC t (nthC cs i)).code] from rfl)
                      obtain ⟨cx, hcx⟩ : ∃ cx, truncC t (nthC cs i) = cx := ⟨_, rfl⟩
                      rw [hcx] at c0 c1 c2 c3 c4 c5 c6 c7 HVV
                      have HCX := Lib.hid hcx
                      clear hn hcx
                      obtain ⟨i0, hi, hz0, hz1, hz2⟩ := info_parts info_call
                      have HI0 := Lib.hid hi; have HZ0 := Lib.hid hz0; have HZ1 := Lib.hid hz1; have HZ2 := Lib.hid hz2
                      have HSB := Lib.hid (show B7 + 1 ≤ V10.heap.size by
                        have := (Array.getElem?_eq_some_iff.1 HAT10.out.box).1
                        omega)
                      clear hi hz0 hz1 hz2
                      go_wp2_with (at_builtin; go_loud (refine wpList_append_own _ rfl (.tmp 85) (.tmp 87) 23 rfl (B7 + 1) TCl i0 _ 8 64 calls_ty HI0.out HZ0.out HZ1.out HZ2.out rfl (by decide) v n (cellsC (cutH t (cs.take i))) rfl (HROW.out.alloc _) ⟨V10.heap.size, 0, none⟩ 1 1 cx.vals rfl rfl (cellsAt (heap_alloc_new V10 _)) (fun u hu => cellsC_one [cx] u (by simpa [cellsC] using hu)) (by unfold maxLen; omega) (by omega) (by rw [World.size_alloc]; have := HSB.out; omega) ?_)
                                   intro v' w' h1 h2 _
                                   have HST := Lib.hid (pre_step hlt HBT.out HAT10.out (by rw [HN.out, HCX.out]; exact h1) h2)
                                   obtain ⟨-, b1', -, f1'⟩ := blk2 HST.out.2
                                   obtain ⟨p', c', hv', -⟩ := Rd.of_owns h1
                                   subst hv'
                                   clear h1 h2)
                      exact ⟨⟨i + 1, _, by simp, by omega, HST.out.1⟩, by simp only [intOf]; omega⟩
                · have hnl : ¬ (i : Int) < cs.length := by omega
                  have e : cs.take i = cs := List.take_of_length_le (by omega)
                  have hrow := hat.row
                  rw [e] at hrow
                  have hpr0 := hpr.1
                  have HG := Lib.hid (lin_cut hpr0 HLIN.out)
                  obtain ⟨gs, hgs⟩ : ∃ gs, cutH t cs = gs := ⟨_, rfl⟩
                  have HGL := Lib.hid (show gs.length ≤ 26 by rw [← hgs]; exact Nat.le_trans cut_len hl26)
                  have HGA := Lib.hid (show ArgsIn gs by rw [← hgs]; exact cut_args HI.out.args)
                  rw [hgs] at hrow HG
                  obtain ⟨p, c, hv, hrd, -⟩ := Rd.of_owns hrow
                  subst hv
                  have HIG := Lib.hid (show HistIn wr pk' p ks gs from ⟨hat.rdk, rowC_of_rd hrd, HKS8.out, by have := HGL.out; omega, HI.out.kin, HGA.out, (HI.out.stay hat.keep).tab, (HI.out.stay hat.keep).bit⟩)
                  have HCG := Lib.hid (chkH_any wr pk' p ck' c ks gs HIG.out.rd HIG.out.calls (by have := HKS8.out; omega) (by have := HGL.out; omega))
                  rw [show chkH ks gs = 0 from chkH_ok.2 HG.out.1] at HCG
                  have HLG := Lib.hid fun W (h : KeepBut (fun _ => False) wr W) => linear_any W pk' p ck' c ks gs (HIG.out.stay h)
                  obtain ⟨b0, b1, -⟩ := blk2 hat.box
                  have HATE := Lib.hid hat.keep
                  have HBX := Lib.hid hat.box
                  unfold histV at HCG HLG
                  clear hrow hgs hrd e hat
                  go_wp2_with fail
                  go_at_call 11
                  refine HCG.out.mono ?_
                  rintro e w9 ⟨rfl, hk⟩
                  have HKE := Lib.hid hk
                  have HLG := Lib.hid (HLG.out w9 hk)
                  obtain ⟨b0', b1', -⟩ := blk2 (hk.blk HBX.out)
                  clear hk b0 b1
                  go_wp2_with fail
                  go_at_call 13
                  refine HLG.out.mono ?_
                  rintro e w10 ⟨lv, rfl, hlv, hk⟩
                  have hlv : lv = true := hlv.2 HG.out
                  subst hlv
                  have HKE2 := Lib.hid hk
                  clear hk
                  go_wp2_with fail
                  go_ret
                  exact ⟨rfl, (HK.out.trans HATE.out).trans (HKE.out.trans HKE2.out)⟩
  · have h0b : (ch != 0) = true := by simpa using h0
    go_wp2_with (go_at_call 11; refine HCH.out.mono ?_; rintro e w4 ⟨rfl, hk⟩; have HK4 := Lib.hid (HK3.out.trans hk); clear hk)
    go_ret
    exact ⟨rfl, HK.out.trans HK4.out⟩

end Go.Proofs.YtoolpifkfgileaaDoor

/-
  Package hist: through; Allowed.
-/
namespace Go.Proofs.YtoolpifkfgileaaDoor
open Go Go.RowKit Own

theorem natI_inj : ∀ {a b : List Nat}, natI a = natI b → a = b
  | [], [], _ => rfl
  | [], _ :: _, h => by simp [natI] at h
  | _ :: _, [], h => by simp [natI] at h
  | x :: a, y :: b, h => by
    simp only [natI, List.map_cons, List.cons.injEq] at h
    rw [natI_inj (a := a) (b := b) h.2]
    congr 1
    omega
theorem natI_append (a b : List Nat) : natI (a ++ b) = natI a ++ natI b := by simp [natI]
theorem natI_snoc {o1 : List Nat} {ol : List Int} {i n : Nat} (h : natI o1 = ol.take i) (hi : i < ol.length) (hn : nth ol i = n) : natI (o1 ++ [n]) = ol.take (i + 1) := by
  rw [natI_append, h, List.take_succ_eq_append_getElem hi, ← nth_eq hi, hn]
  rfl

/-- how far an order came -/
structure Came (ks : List Int) (cs : List Cl) (ol : List Int) (i d : Nat) (h : List (Int × List Int)) : Prop where
  ex : ∃ o1, natI o1 = ol.take i ∧ (∀ o2, ordB cs 0 (startP ks) (o1 ++ o2) = ordB cs d h o2) ∧ foldC (startP ks) (o1.map (nthC cs)) = some h
  lt : d < 2 ^ cs.length
  small : Small h
  len : h.length = ks.length
theorem came_start {ks : List Int} {cs : List Cl} {ol : List Int} (hk : ∀ k ∈ ks, In64 k) : Came ks cs ol 0 0 (startP ks) :=
  ⟨⟨[], rfl, fun _ => rfl, rfl⟩, Nat.two_pow_pos _, start_small hk, by simp [startP]⟩

theorem foldC_snoc {h h1 h2 : List (Int × List Int)} {c : Cl} {o : List Cl} : foldC h o = some h1 → stepC h1 c = some h2 → foldC h (o ++ [c]) = some h2 := by
  induction o generalizing h with
  | nil =>
    intro e1 e2
    cases e1
    show foldC _ [c] = _
    unfold foldC
    rw [e2]; rfl
  | cons x o ih =>
    intro e1 e2
    rw [List.cons_append]
    unfold foldC at e1 ⊢
    cases hx : stepC h x with
    | none => rw [hx] at e1; cases e1
    | some h' => rw [hx] at e1; exact ih e1 e2

theorem came_step {ks : List Int} {cs : List Cl} {ol : List Int} {i d n : Nat} {h h' : List (Int × List Int)} (hc : Came ks cs ol i d h) (ha : ArgsIn cs) (hl : cs.length ≤ 24) (hi : i < ol.length) (hn : nth ol i = n) (hlt : n < cs.length) (hx : nextP cs d h n = some h') :
    Came ks cs ol (i + 1) (d ||| 2 ^ n) h' := by
  obtain ⟨⟨o1, h1, h2, h3⟩, h4, h5, h6⟩ := hc
  have hx0 := hx
  unfold nextP at hx
  split at hx
  · rename_i hf
    obtain ⟨q1, q2⟩ := step_small ha h5 hx
    refine ⟨⟨o1 ++ [n], natI_snoc h1 hi hn, fun o2 => ?_, ?_⟩, (or_grows ((free_iff hl).1 hf).1 hlt h4).2, q1, by rw [q2, h6]⟩
    · rw [List.append_assoc, h2, List.singleton_append, ord_next hlt, hx0]
    · rw [List.map_append]
      rw [stepP_eq] at hx
      exact foldC_snoc h3 hx
  · cases hx

def AllowedP (ks : List Int) (cs : List Cl) (ol : List Int) : Prop := chkH ks cs = 0 ∧ ∃ o, natI o = ol ∧ ordB cs 0 (startP ks) o = true

theorem came_split {ks : List Int} {cs : List Cl} {ol : List Int} {i d : Nat} {h : List (Int × List Int)} (hc : Came ks cs ol i d h) {o : List Nat} (ho : natI o = ol) : ∃ o2, natI o2 = ol.drop i ∧ ordB cs 0 (startP ks) o = ordB cs d h o2 := by
  obtain ⟨o1, h1, h2, -⟩ := hc.ex
  have e1 : natI (o.take i) = ol.take i := by rw [← ho]; simp [natI, List.map_take]
  have e2 : o.take i = o1 := natI_inj (by rw [e1, h1])
  refine ⟨o.drop i, by rw [← ho]; simp [natI, List.map_drop], ?_⟩
  rw [← h2, ← e2, List.take_append_drop]

theorem came_bad {ks : List Int} {cs : List Cl} {ol : List Int} {i d : Nat} {h : List (Int × List Int)} (hc : Came ks cs ol i d h) (hi : i < ol.length) (hb : ∀ n : Nat, nth ol i = n → ∀ o, ordB cs d h (n :: o) = false) : ¬ AllowedP ks cs ol := by
  rintro ⟨-, o, ho, hy⟩
  obtain ⟨o2, h1, h2⟩ := came_split hc ho
  rw [List.drop_eq_getElem_cons hi] at h1
  cases o2 with
  | nil => simp [natI] at h1; omega
  | cons n o2 =>
    simp only [natI, List.map_cons, List.cons.injEq] at h1
    rw [h2, hb n (by rw [nth_eq hi]; exact h1.1.symm)] at hy
    cases hy

theorem came_end {ks : List Int} {cs : List Cl} {ol : List Int} {d : Nat} {h : List (Int × List Int)} (hc : Came ks cs ol ol.length d h) (h0 : chkH ks cs = 0) : overB cs d = true ↔ AllowedP ks cs ol := by
  constructor
  · intro hy
    obtain ⟨o1, h1, h2, -⟩ := hc.ex
    rw [List.take_length] at h1
    refine ⟨h0, o1, h1, ?_⟩
    have := h2 []
    rw [List.append_nil] at this
    rw [this]
    unfold ordB
    exact hy
  · rintro ⟨-, o, ho, hy⟩
    obtain ⟨o2, h1, h2⟩ := came_split hc ho
    rw [List.drop_length] at h1
    cases o2 with
    | cons n o2 => simp [natI] at h1
    | nil =>
      rw [h2] at hy
      unfold ordB at hy
      exact hy

def ThroughDone (ks : List Int) (cs : List Cl) (ol : List Int) (w : World) (e : Ending) (w' : World) : Prop :=
  ∃ p c l ok, e = .returned (.tuple #[.slice p (List.length l) c, .bool ok]) ∧ (ok = true ↔ AllowedP ks cs ol) ∧ (ok = true → ∃ o, natI o = ol ∧ foldC (startP ks) (o.map (nthC cs)) = some (l.map Kc.plain) ∧ l.length = ks.length ∧ Small (l.map Kc.plain)) ∧ HasAt w' p l ∧ KeepBut (fun _ => False) w w'

theorem has_nil (w : World) : HasAt w none [] := ⟨fun j v hj => by simp [cellsK] at hj, fun e he => by cases he⟩
theorem through_not {ks : List Int} {cs : List Cl} {ol : List Int} {w w' : World} (h : ¬ AllowedP ks cs ol) (hk : KeepBut (fun _ => False) w w') : ThroughDone ks cs ol w (.returned (.tuple #[.slice none 0 0, .bool false])) w' :=
  ⟨none, 0, [], false, rfl, ⟨(fun e => by cases e), fun e => absurd e h⟩, (fun e => by cases e), has_nil _, hk⟩

set_option maxRecDepth 100000 in
set_option maxHeartbeats 32000000 in
theorem through_any (w : World) (pk pc : Option Addr) (ck cc : Nat) (ks : List Int) (cs : List Cl) (hI : HistIn w pk pc ks cs) (po : Option Addr) (co : Nat) (ol : List Int) (hO : Rd w po (ints ol)) (hol : ol.length ≤ 1099511627776) :
    Calls Tryd.prog 40 #[histV pk pc ck cc ks cs, .slice po ol.length co] w fun e w' => ThroughDone ks cs ol w e w' := by
  obtain ⟨V, B, hV, hB, hb, hkV, hsV⟩ := fresh_block w (.cells #[.slice pk ks.length ck, .slice pc cs.length cc] THi)
  obtain ⟨b0, b1, -⟩ := blk2 hb
  have HI := Lib.hid hI
  have hIV := hI.stay hkV
  have HIV := Lib.hid hIV
  have HO := Lib.hid (hO.stay hkV)
  have HCH := Lib.hid (chkH_any V pk pc ck cc ks cs hIV.rd hIV.calls (by have := hI.k8; omega) (by have := hI.c60; omega))
  have HK := Lib.hid hkV; have HB := Lib.hid hb
  obtain ⟨ch, hch⟩ : ∃ ch, chkH ks cs = ch := ⟨_, rfl⟩
  rw [hch] at HCH
  have HE := Lib.hid hch
  unfold histV at HCH ⊢
  clear hI hIV hb hkV hsV hch hO
  go_enter Tryd.func40, Tryd.ntmps40
  go_upto_region 1 with fail
  rw [← hV, ← hB]
  clear hV hB
  by_cases h0 : ch = 0
  · have H0 := Lib.hid (HE.out.trans h0)
    have h1 : (ch != 0) = false := by simp [h0]
    clear h0
    go_upto_region 3 with (go_at_call 11; refine HCH.out.mono ?_; rintro e w2 ⟨rfl, hk⟩; obtain ⟨e0, e1, -⟩ := blk2 (hk.blk HB.out); have HK2 := Lib.hid hk; clear hk)
    have HCK := Lib.hid (chkH_ok.1 H0.out)
    have HBG := Lib.hid (begin_any w2 pk pc ck cc ks cs ((HIV.out.stay HK2.out).calls) HCK.out.2)
    unfold histV at HBG
    clear b0 b1
    go_upto_region 4 with (go_at_call 36; refine HBG.out.mono ?_; rintro e w3 ⟨S, A, D, rfl, hS, hM, -, -, -, hk⟩; have HS := Lib.hid hS; have HK3 := Lib.hid hk; clear hS hM hk)
    have HCONT := Lib.hid (show ∀ i, i < cs.length → 0 ≤ (nthC cs i).cont ∧ (nthC cs i).cont.toNat < ks.length from fun i hi => by
      have h9 := good_beg (HCK.out.1.each _ (nthC_mem hi))
      omega)
    have HIW := Lib.hid (HIV.out.stay (HK2.out.trans HK3.out))
    have HEM := Lib.hid (empty_any w3 S ks pk ck (blk5S HS.out.blk).1 HIW.out.rd (by have := HI.out.k8; omega))
    obtain ⟨l, hl⟩ : ∃ l, startK ks = l := ⟨_, rfl⟩
    rw [hl] at HEM
    have HL := Lib.hid (show l.map Kc.plain = startP ks by rw [← hl]; exact startK_plain ks)
    clear e0 e1 hl h1
    go_upto_region 5 with (go_at_call 38; refine HEM.out.mono ?_; rintro e w4 ⟨p4, c4, rfl, hH, hk⟩; have HH := Lib.hid hH; have HK4 := Lib.hid hk; clear hH hk)
    have HNEXT := Lib.hid fun W (hS : SAt W S A D pk pc ck cc ks cs) p c l (hH : HasAt W p l) (hk : l.length = ks.length) (hs : Small (l.map Kc.plain)) d n (hd : d < 4294967296) (hn : n < cs.length) => next_any W S A D pk pc ck cc ks cs hS HCK.out.2 p c l hH (fun i hi => by rw [hk]; exact HCONT.out i hi) hs (by rw [hk]; exact HI.out.k8) d n hd hn
    have HK0 := Lib.hid ((HK2.out.trans HK3.out).trans HK4.out)
    have HS4 := Lib.hid (HS.out.stay HK4.out)
    have HC0 := Lib.hid (came_start (cs := cs) (ol := ol) HI.out.kin)
    have hcl := HCK.out.2
    have hp24 := pow_lt hcl
    have HP24 := Lib.hid hp24
    clear hp24 HCH HBG HEM
    go_wp2_with fail
    go_loopw [7, 8, 22] (fun v7 v8 v22 wr => ∃ (d : Nat) (p : Option Addr) (c : Nat) (l : List Kc) (i : Nat), v7 = .int .u32 d ∧ v8 = .slice p l.length c ∧ v22 = .int .i64 i ∧ i ≤ ol.length ∧ Came ks cs ol i d (l.map Kc.plain) ∧ HasAt wr p l ∧ KeepBut (fun _ => False) w4 wr) (fun _ _ v _ => ol.length - (intOf v).toNat)
    case atStart => exact ⟨0, p4, c4, l, 0, rfl, rfl, rfl, Nat.zero_le _, by rw [HL.out]; exact HC0.out, HH.out, KeepBut.refl _ _⟩
    case round =>
      obtain ⟨d, p, c, l, i, rfl, rfl, rfl, hi, hcame, hhas, hk⟩ := hrel
      have HKR := Lib.hid hk; have HCM := Lib.hid hcame; have HHS := Lib.hid hhas
      have HLK := Lib.hid (show l.length = ks.length by have := hcame.len; rwa [List.length_map] at this)
      have HSR := Lib.hid (HS4.out.stay hk)
      have hd32 : d < 4294967296 := Nat.lt_trans hcame.lt HP24.out
      obtain ⟨s0, s1, s2, s3, s4⟩ := blk5S HSR.out.blk
      obtain ⟨b0, b1, -⟩ := blk2 ((HK0.out.trans hk).blk HB.out)
      clear hk hcame hhas
      by_cases hlt : i < ol.length
      · have hlti : (i : Int) < ol.length := by omega
        have hi0 : (0 : Int) ≤ i := by omega
        have hWi : IntKind.i64.wrap ((i : Int) + 1) = (i : Int) + 1 := IntWalk.i64_in _ (by omega)
        obtain ⟨b, o, hp, -⟩ := HO.out.ptr (by rw [ints_length]; omega)
        subst hp
        have hc := (HO.out.stay (HK0.out.trans HKR.out)).int i hlt
        by_cases hn0 : nth ol i < 0
        · have HNO := Lib.hid (came_bad HCM.out hlt fun n hn => by omega)
          go_wp2_with fail
          go_ret2
          exact through_not HNO.out (HK.out.trans (HK0.out.trans HKR.out))
        · obtain ⟨n, hn⟩ : ∃ n : Nat, nth ol i = n := ⟨(nth ol i).toNat, by omega⟩
          have HN := Lib.hid hn
          rw [hn] at hc hn0
          by_cases hnl : cs.length ≤ n
          · have hnli : (cs.length : Int) ≤ n := by omega
            have HNO := Lib.hid (came_bad HCM.out hlt fun m hm => by
              have : m = n := by omega
              subst this
              intro o
              exact ord_out hnl)
            clear hn
            go_wp2_with fail
            go_ret2
            exact through_not HNO.out (HK.out.trans (HK0.out.trans HKR.out))
          · have hnli : ¬ (cs.length : Int) ≤ n := by omega
            have hnlt : n < cs.length := by omega
            have hn0' : (0 : Int) ≤ n := by omega
            have HNX := Lib.hid (HNEXT.out wr HSR.out p c l HHS.out HLK.out HCM.out.small d n hd32 hnlt)
            have hp2 : 2 ^ n < 4294967296 := pow_lt (by omega)
            have hsh : IntKind.u32.wrap ((2 : Int) ^ n) = (2 : Int) ^ n := by
              have h9 := wrap32 hp2
              simpa using h9
            have hor : bits .or .u32 (d : Int) ((2 : Int) ^ n) = ((d ||| 2 ^ n : Nat) : Int) := by
              have h9 := bits_or d (2 ^ n) hd32 hp2
              simpa using h9
            obtain ⟨dn, hdn⟩ : ∃ dn, d ||| 2 ^ n = dn := ⟨_, rfl⟩
            have HDN := Lib.hid hdn
            rw [hdn] at hor
            clear hdn hp2 hn
            go_upto_region 11 with (go_at_call 56; refine HNX.out.mono ?_; rintro e w5 h3; obtain ⟨ok, p3, c3, l3, rfl, hh3, hk3, hno⟩ := next_say h3; have HH3 := Lib.hid hh3; have HK5 := Lib.hid hk3; have HNO := Lib.hid hno; clear hh3 hk3 hno h3)
            cases ok with
            | false =>
              have HBAD := Lib.hid (came_bad HCM.out hlt fun m hm => by
                have h9 : m = n := by have := HN.out; omega
                subst h9
                intro o
                rw [ord_next hnlt, HNO.out]
                rfl)
              go_wp2_with fail
              go_ret2
              exact through_not HBAD.out (HK.out.trans ((HK0.out.trans HKR.out).trans HK5.out))
            | true =>
              have HC2 := Lib.hid (show Came ks cs ol (i + 1) dn (l3.map Kc.plain) by
                rw [← HDN.out]
                exact came_step HCM.out HI.out.args HCK.out.2 hlt HN.out hnlt HNO.out)
              go_wp2_with fail
              exact ⟨⟨dn, p3, c3, l3, i + 1, rfl, rfl, by simp, by omega, HC2.out, HH3.out, HKR.out.trans HK5.out⟩, by simp only [intOf]; omega⟩
      · have hnl : ¬ (i : Int) < ol.length := by omega
        have e : i = ol.length := by omega
        subst e
        have hwo := bits_without (endedM cs) d
        have HEND := Lib.hid (came_end HCM.out H0.out)
        obtain ⟨ov, hov⟩ : ∃ ov, overB cs d = ov := ⟨_, rfl⟩
        rw [hov] at HEND
        have HOV := Lib.hid (show (((without (endedM cs) d : Nat) : Int) == 0) = ov by
          rw [← hov]
          unfold overB
          by_cases hz : without (endedM cs) d = 0
          · rw [hz]; rfl
          · rw [beq_eq_false_iff_ne.2 (by omega), beq_eq_false_iff_ne.2 hz])
        have hov2 := HOV.out
        clear hov
        go_upto_region 15 with fail
        go_quiet (fail)
        go_wp2_with fail
        go_ret2
        refine ⟨p, c, l, ov, ?_, HEND.out, fun e => ?_, HHS.out.stay (KeepBut.drewN _ _ _), (HK.out.trans (HK0.out.trans HKR.out)).trans (KeepBut.drewN _ _ _)⟩
        · rfl
        · obtain ⟨o1, h1, -, h3⟩ := HCM.out.ex
          rw [List.take_length] at h1
          exact ⟨o1, h1, h3, HLK.out, HCM.out.small⟩
  · have H0 := Lib.hid (show ¬ AllowedP ks cs ol from fun h => h0 (HE.out.symm.trans h.1))
    have h1 : (ch != 0) = true := by simpa using h0
    clear h0
    go_wp2_with (go_at_call 11; refine HCH.out.mono ?_; rintro e w2 ⟨rfl, hk⟩; have HK2 := Lib.hid hk; clear hk)
    go_ret2
    exact through_not H0.out (HK.out.trans HK2.out)

end Go.Proofs.YtoolpifkfgileaaDoor

/-
  In plain: what holds at each turn of an order that is returned (HistOrders). No code in sight.
-/
namespace Go.Proofs.YtoolpifkfgileaaDoor
open Go Go.RowKit Own

/-- the value with which a call is asked for again -/
def valC (e : Int × List Int) (c : Cl) : Int := if c.till = -1 then (doR e.1 c.op e.2 c.arg).val else c.value
def codC (e : Int × List Int) (c : Cl) : Int := if c.till = -1 then (doR e.1 c.op e.2 c.arg).code else c.code

theorem step_law {h h' : List (Int × List Int)} {c : Cl} (hs : stepC h c = some h') :
    (mayR (nthK h c.cont.toNat).1 c.op (nthK h c.cont.toNat).2 c.arg (valC (nthK h c.cont.toNat) c) (codC (nthK h c.cont.toNat) c)).ok = true ∧
    h' = h.set c.cont.toNat ((mayR (nthK h c.cont.toNat).1 c.op (nthK h c.cont.toNat).2 c.arg (valC (nthK h c.cont.toNat) c) (codC (nthK h c.cont.toNat) c)).kind, (mayR (nthK h c.cont.toNat).1 c.op (nthK h c.cont.toNat).2 c.arg (valC (nthK h c.cont.toNat) c) (codC (nthK h c.cont.toNat) c)).items) := by
  obtain ⟨e, he⟩ : ∃ e, nthK h c.cont.toNat = e := ⟨_, rfl⟩
  unfold stepC at hs
  rw [he] at hs ⊢
  unfold step1 at hs
  unfold valC codC
  by_cases ht : c.till = -1
  · rw [if_pos ht] at hs ⊢
    rw [if_pos ht]
    by_cases h0 : (doR e.1 c.op e.2 c.arg).err = 0
    · rw [if_pos h0] at hs
      have h1 := Option.some.inj hs
      have hm : mayR e.1 c.op e.2 c.arg (doR e.1 c.op e.2 c.arg).val (doR e.1 c.op e.2 c.arg).code = ⟨(doR e.1 c.op e.2 c.arg).kind, (doR e.1 c.op e.2 c.arg).items, true⟩ := by
        unfold mayR
        rw [if_neg (doR_code _ _ _ _), if_pos ⟨h0, rfl, rfl⟩]
      rw [hm]
      exact ⟨rfl, h1.symm⟩
    · rw [if_neg h0] at hs; cases hs
  · rw [if_neg ht] at hs ⊢
    rw [if_neg ht]
    by_cases h0 : (mayR e.1 c.op e.2 c.arg c.value c.code).ok = true
    · rw [if_pos h0] at hs
      exact ⟨h0, (Option.some.inj hs).symm⟩
    · rw [if_neg h0] at hs; cases hs

theorem ord_goes {ks : List Int} {cs : List Cl} {o : List Nat} {d i : Nat} {h : List (Int × List Int)} (hc : Came ks cs (natI o) i d h) (ho : ordB cs 0 (startP ks) o = true) (ha : ArgsIn cs) (hl : cs.length ≤ 24) (hi : i < o.length) :
    o[i] < cs.length ∧ d.testBit o[i] = false ∧ (∀ k, k < cs.length → aheadB cs k o[i] = true → d.testBit k = true) ∧ ∃ h', stepC h (nthC cs o[i]) = some h' ∧ Came ks cs (natI o) (i + 1) (d ||| 2 ^ o[i]) h' := by
  obtain ⟨o2, h2, h3⟩ := came_split hc (o := o) rfl
  rw [h3] at ho
  have hd : o2 = o.drop i := natI_inj (by rw [h2]; simp [natI])
  rw [hd, List.drop_eq_getElem_cons hi] at ho
  unfold ordB at ho
  rw [Bool.and_eq_true, decide_eq_true_eq] at ho
  obtain ⟨hn, ho⟩ := ho
  cases hx : nextP cs d h o[i] with
  | none => rw [hx] at ho; cases ho
  | some h' =>
    have hx0 := hx
    unfold nextP at hx
    split at hx
    · rename_i hf
      obtain ⟨f1, f2⟩ := (free_iff hl).1 hf
      exact ⟨hn, f1, f2, h', by rw [← stepP_eq]; exact hx, came_step hc ha hl (by rw [natI_length]; exact hi) (by rw [nth_eq (by rw [natI_length]; exact hi)]; simp [natI]) hn hx0⟩
    · cases hx

theorem ord_ends {ks : List Int} {cs : List Cl} {o : List Nat} {d : Nat} {h : List (Int × List Int)} (hc : Came ks cs (natI o) o.length d h) (ho : ordB cs 0 (startP ks) o = true) (hl : cs.length ≤ 24) :
    (∀ k, k < cs.length → (nthC cs k).till ≠ -1 → d.testBit k = true) ∧ foldC (startP ks) (o.map (nthC cs)) = some h := by
  obtain ⟨o2, h2, h3⟩ := came_split hc (o := o) rfl
  rw [h3] at ho
  have hd : o2 = [] := natI_inj (by rw [h2]; simp [natI])
  rw [hd] at ho
  unfold ordB at ho
  refine ⟨(over_iff hl).1 ho, ?_⟩
  obtain ⟨o1, h4, -, h5⟩ := hc.ex
  have : o1 = o := natI_inj (by rw [h4, ← natI_length o, List.take_length])
  rw [← this]; exact h5

end Go.Proofs.YtoolpifkfgileaaDoor

/-
  Chapter 29: HistOrders: a row of contents and a row of answers of the statement's own.
-/
namespace Go.Proofs.YtoolpifkfgileaaDoor
open Go Go.RowKit Own

/-- a row of answers -/
def rowO (f : Nat → Bool) (n : Nat) : Array Value := ((List.range n).map fun j => Value.bool (f j)).toArray
theorem rowO_size (f : Nat → Bool) (n : Nat) : (rowO f n).size = n := by simp [rowO]
theorem rowO_get (f : Nat → Bool) (n j : Nat) (h : j < n) : (rowO f n)[j]? = some (.bool (f j)) := by simp [rowO, h]
theorem rowO_set (f : Nat → Bool) (n i : Nat) (v : Bool) : (rowO f n).setIfInBounds i (.bool v) = rowO (fun j => if j = i then v else f j) n := by
  apply Array.ext_getElem?
  intro j
  rw [Array.getElem?_setIfInBounds, rowO_size]
  by_cases hj : j < n
  · rw [rowO_get _ _ _ hj, rowO_get _ _ _ hj]
    by_cases h : i = j
    · subst h; simp [hj]
    · have : ¬ j = i := fun e => h e.symm
      simp [h, this]
  · rw [Array.getElem?_eq_none (by rw [rowO_size]; omega), Array.getElem?_eq_none (by rw [rowO_size]; omega)]
    split
    · split
      · omega
      · rfl
    · rfl
theorem rowO_congr {f g : Nat → Bool} {n : Nat} (h : ∀ j, j < n → f j = g j) : rowO f n = rowO g n := by
  unfold rowO
  congr 1
  exact List.map_congr_left fun j hj => by rw [h j (List.mem_range.1 hj)]
theorem made_rowO (n : Nat) : madeCells #[Value.bool false] n = rowO (fun _ => false) n := by
  apply Array.ext_getElem?
  intro j
  by_cases hj : j < n
  · rw [rowO_get _ _ _ hj]
    simp [madeCells, hj, Nat.mod_one]
  · rw [Array.getElem?_eq_none (by simp [madeCells]; omega), Array.getElem?_eq_none (by rw [rowO_size]; omega)]
theorem info_bool : (Tryd.prog.info? 4).map (fun i => (i.zero, i.size, i.bytes)) = some (some (.bool false), 1, 1) := by kernel_rfl

theorem startK_snoc {ks : List Int} {i : Nat} (hi : i < ks.length) : cellsK (startK (ks.take (i + 1))) = cellsK (startK (ks.take i)) ++ [.int .i64 (nth ks i), .slice none 0 0] := by
  have h : startK (ks.take (i + 1)) = startK (ks.take i) ++ [⟨nth ks i, none, [], 0⟩] := by
    unfold startK
    rw [List.take_succ_eq_append_getElem hi, List.map_append, nth_eq hi]
    rfl
  rw [h, cellsK_snoc]
  rfl

/-- a block that holds contents; what they hold lies at lim or behind it -/
structure ConB (w : World) (g cap lim : Nat) (l : List Kc) : Prop where
  blk : ∃ cur, w.heap[g]? = some (.cells cur TC (0, 0)) ∧ cur.size = cap * 2 ∧ cur.toList.take (l.length * 2) = cellsK l
  cap : l.length ≤ cap
def ConO (w : World) (p : Option Addr) (lim : Nat) (l : List Kc) : Prop :=
  (l ≠ [] → ∃ g cap, p = some ⟨g, 0, none⟩ ∧ ConB w g cap lim l) ∧ ∀ e ∈ l, Rd w e.q (ints e.xs) ∧ ∀ a, e.q = some a → a.spot = none ∧ lim ≤ a.block
theorem ConB.keep {w w' : World} {g cap lim : Nat} {l : List Kc} {E : Nat → Prop} (h : ConB w g cap lim l) (k : KeepBut E w w') (hE : ¬ E g) : ConB w' g cap lim l := by
  obtain ⟨cur, h1, h2, h3⟩ := h.blk
  exact ⟨⟨cur, keep_blk k h1 hE, h2, h3⟩, h.cap⟩
theorem ConO.stay {w w' : World} {p : Option Addr} {lim : Nat} {l : List Kc} (h : ConO w p lim l) (k : KeepBut (fun _ => False) w w') : ConO w' p lim l :=
  ⟨fun hl => by
    obtain ⟨g, cap, e, hb⟩ := h.1 hl
    exact ⟨g, cap, e, hb.keep k fun e => e⟩, fun e he => ⟨(h.2 e he).1.stay k, (h.2 e he).2⟩⟩
theorem ConB.cell {w : World} {g cap lim : Nat} {l : List Kc} (h : ConB w g cap lim l) {i : Nat} (hi : i < l.length) :
    w.cell? ⟨g, i * 2, none⟩ = some (.int .i64 l[i].k) ∧ w.cell? ⟨g, i * 2 + 1, none⟩ = some (.slice l[i].q l[i].xs.length l[i].c) ∧ w.frozen? ⟨g, i * 2, none⟩ = false ∧ w.frozen? ⟨g, i * 2 + 1, none⟩ = false := by
  obtain ⟨cur, h1, h2, h3⟩ := h.blk
  have e0 := cellsK_at l i 0 hi (by decide)
  have e1 := cellsK_at l i 1 hi (by decide)
  rw [← h3, List.getElem?_take, if_pos (by omega)] at e0 e1
  refine ⟨blk_cell h1 ?_, blk_cell h1 ?_, by simp [World.frozen?, h1], by simp [World.frozen?, h1]⟩
  · simpa [Kc.vals] using e0
  · simpa [Kc.vals] using e1
theorem getK_set {l : List Kc} {m : Nat} {e : Kc} (j : Nat) (hj : j < l.length) (hj' : j < (l.set m e).length) : (l.set m e)[j] = if m = j then e else l[j] := by
  rw [List.getElem_set]
theorem ConB.put {w : World} {g cap lim : Nat} {l : List Kc} (h : ConB w g cap lim l) {m : Nat} (hm : m < l.length) (e : Kc) :
    ConB ((w.setCell ⟨g, m * 2, none⟩ (.int .i64 e.k)).setCell ⟨g, m * 2 + 1, none⟩ (.slice e.q e.xs.length e.c)) g cap lim (l.set m e) := by
  obtain ⟨cur, h1, h2, h3⟩ := h.blk
  have hcap := h.cap
  have hb := put1 (i := m * 2 + 1) (put1 (i := m * 2) h1 (.int .i64 e.k)) (.slice e.q e.xs.length e.c)
  refine ⟨⟨_, hb, by rw [Array.size_setIfInBounds, Array.size_setIfInBounds]; exact h2, ?_⟩, by rw [List.length_set]; exact hcap⟩
  have hr := cellsK_put (e := e) hb h3 rfl (by rw [h2]; omega) hm
  apply List.ext_getElem?
  intro u
  rw [List.getElem?_take, List.length_set]
  by_cases hu : u < l.length * 2
  · rw [if_pos hu]
    have hlt : u < (cellsK (l.set m e)).length := by rw [cellsK_length, List.length_set]; exact hu
    obtain ⟨b, o, hp, hc⟩ := hr u _ (List.getElem?_eq_getElem hlt)
    cases hp
    rw [List.getElem?_eq_getElem hlt, ← hc]
    simp [World.cell?, hb]
    rw [← Array.getElem?_toList, Array.toList_setIfInBounds, Array.toList_setIfInBounds]
  · rw [if_neg hu, List.getElem?_eq_none]
    rw [cellsK_length, List.length_set]
    omega

/-- where HistOrders is, while it goes through an order -/
structure OrdAt (ks : List Int) (cs : List Cl) (o : List Nat) (V wr : World) (p : Option Addr) (gd lim : Nat) (i d : Nat) (l : List Kc) : Prop where
  came : Came ks cs (natI o) i d (l.map Kc.plain)
  con : ConO wr p lim l
  done : wr.heap[gd]? = some (.cells (rowO (fun j => d.testBit j) cs.length) 4 (0, 0))
  ne : gd < lim ∧ lim ≤ wr.heap.size ∧ V.heap.size ≤ gd ∧ ∀ g, p = some ⟨g, 0, none⟩ → g < lim ∧ V.heap.size ≤ g ∧ g ≠ gd
  keep : KeepBut (fun _ => False) V wr
theorem OrdAt.stay {ks : List Int} {cs : List Cl} {o : List Nat} {V wr wr' : World} {p : Option Addr} {gd lim i d : Nat} {l : List Kc} (h : OrdAt ks cs o V wr p gd lim i d l) (k : KeepBut (fun _ => False) wr wr') : OrdAt ks cs o V wr' p gd lim i d l :=
  ⟨h.came, h.con.stay k, k.blk h.done, ⟨h.ne.1, Nat.le_trans h.ne.2.1 k.size, h.ne.2.2⟩, h.keep.trans k⟩
theorem OrdAt.len {ks : List Int} {cs : List Cl} {o : List Nat} {V wr : World} {p : Option Addr} {gd lim i d : Nat} {l : List Kc} (h : OrdAt ks cs o V wr p gd lim i d l) : l.length = ks.length := by
  have := h.came.len
  rwa [List.length_map] at this
theorem OrdAt.ans {ks : List Int} {cs : List Cl} {o : List Nat} {V wr : World} {p : Option Addr} {gd lim i d : Nat} {l : List Kc} (h : OrdAt ks cs o V wr p gd lim i d l) {k : Nat} (hk : k < cs.length) :
    wr.cell? ⟨gd, k, none⟩ = some (.bool (d.testBit k)) ∧ wr.frozen? ⟨gd, k, none⟩ = false :=
  ⟨blk_cell h.done (rowO_get _ _ _ hk), by simp [World.frozen?, h.done]⟩
theorem OrdAt.put {ks : List Int} {cs : List Cl} {o : List Nat} {V wr : World} {g gd lim i d : Nat} {l : List Kc} (h : OrdAt ks cs o V wr (some ⟨g, 0, none⟩) gd lim i d l) {m n : Nat} (hm : m < l.length) {e : Kc}
    (he : Rd wr e.q (ints e.xs) ∧ ∀ a, e.q = some a → a.spot = none ∧ lim ≤ a.block)
    (hc : Came ks cs (natI o) (i + 1) (d ||| 2 ^ n) ((l.set m e).map Kc.plain)) :
    OrdAt ks cs o V (((wr.setCell ⟨g, m * 2, none⟩ (.int .i64 e.k)).setCell ⟨g, m * 2 + 1, none⟩ (.slice e.q e.xs.length e.c)).setCell ⟨gd, n, none⟩ (.bool true)) (some ⟨g, 0, none⟩) gd lim (i + 1) (d ||| 2 ^ n) (l.set m e) := by
  have hg := h.ne.2.2.2 g rfl
  obtain ⟨W1, hW1⟩ : ∃ W1, (wr.setCell ⟨g, m * 2, none⟩ (.int .i64 e.k)).setCell ⟨g, m * 2 + 1, none⟩ (.slice e.q e.xs.length e.c) = W1 := ⟨_, rfl⟩
  have k1 : KeepBut (fun b => b = g) wr W1 := by rw [← hW1]; exact (KeepBut.setCell (E := fun k => k = g) _ _ _ rfl).trans (KeepBut.setCell (E := fun k => k = g) _ _ _ rfl)
  have k2 : KeepBut (fun b => b = gd) W1 (W1.setCell ⟨gd, n, none⟩ (.bool true)) := KeepBut.setCell _ _ _ rfl
  have hd1 : W1.heap[gd]? = some (.cells (rowO (fun j => d.testBit j) cs.length) 4 (0, 0)) := keep_blk k1 h.done fun e => hg.2.2 e.symm
  have live : ∀ x : Kc, (Rd wr x.q (ints x.xs) ∧ ∀ a, x.q = some a → a.spot = none ∧ lim ≤ a.block) → Rd (W1.setCell ⟨gd, n, none⟩ (.bool true)) x.q (ints x.xs) ∧ ∀ a, x.q = some a → a.spot = none ∧ lim ≤ a.block := fun x hx =>
    ⟨(hx.1.keep k1 fun a ha e => by have := (hx.2 a ha).2; have e : a.block = g := e; omega).keep k2 fun a ha e => by have := (hx.2 a ha).2; have e : a.block = gd := e; have := h.ne.1; omega, hx.2⟩
  refine ⟨hc, ⟨fun _ => ?_, fun x hx => ?_⟩, ?_, ⟨h.ne.1, Nat.le_trans h.ne.2.1 (Nat.le_trans k1.size (by rw [hW1]; exact k2.size)), h.ne.2.2⟩, ?_⟩
  · obtain ⟨g', cap, e', hb⟩ := h.con.1 (fun e => by rw [e] at hm; cases hm)
    cases e'
    have h9 := hb.put hm e
    rw [hW1] at h9 ⊢
    exact ⟨g, cap, rfl, h9.keep k2 fun e => hg.2.2 e⟩
  · rw [hW1]
    rcases List.mem_or_eq_of_mem_set hx with hx | hx
    · exact live x (h.con.2 x hx)
    · rw [hx]; exact live e he
  · rw [hW1]
    have h9 := put1 (i := n) hd1 (.bool true)
    rw [rowO_set] at h9
    rw [h9]
    congr 2
    exact rowO_congr fun j _ => by
      rw [or_bit]
      by_cases e : j = n <;> simp [e]
  · rw [hW1]
    exact (h.keep.new k1 fun b e => by have e : b = g := e; omega).new k2 fun b e => by have e : b = gd := e; have := h.ne.2.2.1; omega

end Go.Proofs.YtoolpifkfgileaaDoor
