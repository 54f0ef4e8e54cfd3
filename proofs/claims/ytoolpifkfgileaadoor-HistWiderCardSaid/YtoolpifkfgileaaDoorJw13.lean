/- Joined texts of this work: HiH, Hp4, HiP. -/
import Derived.Test.YtoolpifkfgileaaDoorJw12
import Derived.WalkLawsBesides
import Derived.Laws.CopyRow

/-
  Chapter 29: HistPrefix: the walk.
-/
namespace Go.Proofs.YtoolpifkfgileaaDoor
open Go Go.RowKit Own

def TrueOf (w : World) (e : Ending) (w' : World) : Prop := e = .returned (.bool true) ∧ KeepBut (fun _ => False) w w'

set_option maxHeartbeats 8000000 in
theorem prefix_many (w : World) (pk pc : Option Addr) (ck cc : Nat) (ks : List Int) (cs : List Cl) (tm : Int) (hT : TabP w) (hB : BitTab w) (hs : 26 < cs.length ∨ 8 < ks.length) :
    Calls Tryd.prog 3 #[histV pk pc ck cc ks cs, .int .i64 tm] w fun e w' => TrueOf w e w' := by
  obtain ⟨V, B, hV, hB0, hb, hkV, hsV⟩ := fresh_block w (.cells #[.slice pk ks.length ck, .slice pc cs.length cc] THi)
  have HK := Lib.hid hkV; have HBB := Lib.hid hb
  have HLV := Lib.hid (lives_any V (hkV.tabP hT) (hkV.bitTab hB))
  have HE := Lib.hid (show (decide (cs.length ≤ 26) && decide (ks.length ≤ 8)) = false by
    rcases hs with h | h
    · rw [decide_eq_false (by omega)]; rfl
    · rw [decide_eq_false (p := ks.length ≤ 8) (by omega), Bool.and_false])
  have HLT := fun W => light_any W pk pc ck cc ks cs
  rw [HE.out] at HLT
  have HLT := Lib.hid HLT
  unfold histV at HLT ⊢
  clear hb hkV hsV hT hB hs
  go_enter Tryd.func3, Tryd.ntmps3
  go_upto_region 1 with fail
  rw [← hV, ← hB0]
  clear hV hB0
  go_upto_region 3 with (go_at_call 9; refine HLV.out.mono ?_; rintro e w2 ⟨rfl, hk⟩; obtain ⟨e0, e1, -⟩ := blk2 (hk.blk HBB.out); have HK2 := Lib.hid hk; clear hk)
  go_wp2_with (go_at_call 10; refine (HLT.out _).mono ?_; rintro e w3 ⟨rfl, hk⟩; have HK3 := Lib.hid hk; clear hk)
  go_ret
  exact ⟨rfl, (HK.out.trans HK2.out).trans HK3.out⟩

/-- where HistPrefix is, between two rounds of its last loop -/
structure PreAt (ks : List Int) (cs : List Cl) (tm : Int) (w wr : World) (B7 : Nat) (pk' : Option Addr) (ck' : Nat) (v : Value) (i : Nat) : Prop where
  box : wr.heap[B7]? = some (.cells #[.slice pk' ks.length ck', v] THi (0, 0))
  row : wr.ownsRow (B7 + 1) TCl 8 v (cutH tm (cs.take i)).length (cellsC (cutH tm (cs.take i)))
  keep : KeepBut (fun _ => False) w wr
  lt : w.heap.size ≤ B7
  rdk : Rd wr pk' (ints ks)
  pkb : ∀ a, pk' = some a → a.block < B7

theorem row_keepE {w w' : World} {base size : Nat} {T : TypeId} {v : Value} {n : Nat} {xs : List Value} {E : Nat → Prop} (h : w.ownsRow base T size v n xs) (k : KeepBut E w w') (hE : ∀ g, base ≤ g → ¬ E g) : w'.ownsRow base T size v n xs := by
  obtain ⟨h0, h1 | ⟨g, cap, cur, h1, h2, h3, h4⟩⟩ := h
  · exact ⟨h0, .inl h1⟩
  · exact ⟨h0, .inr ⟨g, cap, cur, h1, h2, keep_blk k h3 (hE g h2), h4⟩⟩

theorem cut_take {cs : List Cl} {t : Int} {i : Nat} (hi : i < cs.length) : cutH t (cs.take (i + 1)) = if (nthC cs i).beg < t then cutH t (cs.take i) ++ [truncC t (nthC cs i)] else cutH t (cs.take i) := by
  rw [drop_nth hi]
  unfold cutH
  rw [List.filter_append, List.map_append]
  by_cases h : (nthC cs i).beg < t
  · rw [if_pos h]; simp [h]
  · rw [if_neg h]; simp [h]

theorem pre_same {ks : List Int} {cs : List Cl} {t : Int} {w wr wr' : World} {B7 : Nat} {pk' : Option Addr} {ck' : Nat} {v : Value} {i : Nat} (h : PreAt ks cs t w wr B7 pk' ck' v i) (k : KeepBut (fun _ => False) wr wr') : PreAt ks cs t w wr' B7 pk' ck' v i :=
  ⟨k.blk h.box, row_keep h.row k, h.keep.trans k, h.lt, h.rdk.stay k, h.pkb⟩
theorem pre_skip {ks : List Int} {cs : List Cl} {t : Int} {w wr : World} {B7 : Nat} {pk' : Option Addr} {ck' : Nat} {v : Value} {i : Nat} (hi : i < cs.length) (hb : ¬ (nthC cs i).beg < t) (h : PreAt ks cs t w wr B7 pk' ck' v i) : PreAt ks cs t w wr B7 pk' ck' v (i + 1) :=
  ⟨h.box, by rw [cut_take hi, if_neg hb]; exact h.row, h.keep, h.lt, h.rdk, h.pkb⟩

/-- one more call has been put at the end -/
theorem pre_step {ks : List Int} {cs : List Cl} {t : Int} {w V10 w' : World} {B7 : Nat} {pk' : Option Addr} {ck' : Nat} {v v' : Value} {i : Nat} {X : Obj} (hi : i < cs.length) (hb : (nthC cs i).beg < t) (h : PreAt ks cs t w V10 B7 pk' ck' v i)
    (h1 : w'.ownsRow (B7 + 1) TCl 8 v' ((cutH t (cs.take i)).length + 1) (cellsC (cutH t (cs.take i)) ++ (truncC t (nthC cs i)).vals)) (h2 : (V10.alloc X).grownBy w' v.ownBlock) :
    PreAt ks cs t w (w'.setCell ⟨B7, 1, none⟩ v') B7 pk' ck' v' (i + 1) ∧ w'.heap[B7]? = some (.cells #[.slice pk' ks.length ck', v] THi (0, 0)) := by
  have hown : ∀ j, v.ownBlock = some j → B7 + 1 ≤ j := fun j hj => (h.row.lt j hj).1
  have k1 : KeepBut (fun j => v.ownBlock = some j) V10 w' := (KeepBut.alloc _ V10 X).trans (KeepBut.grown (E := fun j => v.ownBlock = some j) h2 fun _ e => e)
  have hbox := keep_blk k1 h.box fun e => by have := hown B7 e; omega
  have hk1 : KeepBut (fun _ => False) w w' := h.keep.new k1 fun j e => by have := hown j e; have := h.lt; omega
  have ks1 : KeepBut (fun k => k = B7) w' (w'.setCell ⟨B7, 1, none⟩ v') := KeepBut.setCell _ _ _ rfl
  refine ⟨⟨?_, ?_, hk1.new ks1 fun j e => by have e : j = B7 := e; have := h.lt; omega, h.lt, ?_, h.pkb⟩, hbox⟩
  · have := put1 (i := 1) hbox v'
    exact this
  · rw [cut_take hi, if_pos hb, cellsC_snoc, List.length_append]
    exact row_keepE h1 ks1 fun g hg e => by have e : g = B7 := e; omega
  · refine (h.rdk.keep k1 fun a ha e => ?_).keep ks1 fun a ha e => ?_
    · have := hown _ e
      have := h.pkb a ha
      omega
    · have e : a.block = B7 := e
      have := h.pkb a ha
      omega

theorem cut_args {cs : List Cl} {t : Int} (h : ArgsIn cs) : ArgsIn (cutH t cs) := fun c hc => by
  obtain ⟨c, hc0, rfl⟩ := List.mem_map.1 hc
  have := h c (List.mem_filter.1 hc0).1
  unfold truncC
  split
  · exact this
  · exact this
theorem cut_len {cs : List Cl} {t : Int} : (cutH t cs).length ≤ cs.length := by
  unfold cutH
  rw [List.length_map]
  exact List.length_filter_le _ _

set_option maxRecDepth 100000 in
set_option maxHeartbeats 32000000 in
theorem prefix_walk (w : World) (pk pc : Option Addr) (ck cc : Nat) (ks : List Int) (cs : List Cl) (tm : Int) (hI : HistIn w pk pc ks cs) (hl26 : cs.length ≤ 26) :
    Calls Tryd.prog 3 #[histV pk pc ck cc ks cs, .int .i64 tm] w fun e w' => TrueOf w e w' := by
  obtain ⟨V, B, hV, hB0, hb, hkV, hsV⟩ := fresh_block w (.cells #[.slice pk ks.length ck, .slice pc cs.length cc] THi)
  have HI := Lib.hid (hI.stay hkV)
  have HK := Lib.hid hkV; have HBB := Lib.hid hb
  have HLV := Lib.hid (lives_any V HI.out.tab HI.out.bit)
  have HE := Lib.hid (show (decide (cs.length ≤ 26) && decide (ks.length ≤ 8)) = true by
    rw [decide_eq_true hl26, decide_eq_true hI.k8]; rfl)
  have HLT := fun W => light_any W pk pc ck cc ks cs
  rw [HE.out] at HLT
  have HLT := Lib.hid HLT
  have HCH := Lib.hid fun W (h : HistIn W pk pc ks cs) => chkH_any W pk pc ck cc ks cs h.rd h.calls (by have := hI.k8; omega) (by omega)
  have HWD := Lib.hid fun W (h : HistIn W pk pc ks cs) => wide_any W pk pc ck cc ks cs h.calls h.c60
  have HLN := Lib.hid fun W (h : HistIn W pk pc ks cs) => linear_any W pk pc ck cc ks cs h
  obtain ⟨ch, hch⟩ : ∃ ch, chkH ks cs = ch := ⟨_, rfl⟩
  rw [hch] at HCH
  have HCHE := Lib.hid hch
  unfold histV at HLT HCH HWD HLN ⊢
  have HKS8 := Lib.hid hI.k8
  clear hb hkV hsV hch hI
  go_enter Tryd.func3, Tryd.ntmps3
  go_upto_region 1 with fail
  rw [← hV, ← hB0]
  clear hV hB0
  go_upto_region 3 with (go_at_call 9; refine HLV.out.mono ?_; rintro e w2 ⟨rfl, hk⟩; obtain ⟨e0, e1, -⟩ := blk2 (hk.blk HBB.out); have HK2 := Lib.hid hk; clear hk)
  go_wp2_with fail
  go_at_call 10
  refine (HLT.out _).mono ?_
  rintro e w3 ⟨rfl, hk⟩
  have HK3 := Lib.hid (HK2.out.trans hk)
  clear hk e0 e1
  obtain ⟨e0, e1, -⟩ := blk2 (HK3.out.blk HBB.out)
  have HCH := Lib.hid (HCH.out w3 (HI.out.stay HK3.out))
  by_cases h0 : ch = 0
  · have h0b : (ch != 0) = false := by simp [h0]
    have H0 := Lib.hid h0
    clear h0
    go_wp2_with fail
    go_at_call 11
    refine HCH.out.mono ?_
    rintro e w4 ⟨rfl, hk⟩
    have HK4 := Lib.hid (HK3.out.trans hk)
    clear hk e0 e1
    obtain ⟨e0, e1, -⟩ := blk2 (HK4.out.blk HBB.out)
    have HWD := Lib.hid (HWD.out w4 (HI.out.stay HK4.out))
    go_wp2_with fail
    go_at_call 12
    refine HWD.out.mono ?_
    rintro e w5 ⟨z, rfl, hk⟩
    have HK5 := Lib.hid (HK4.out.trans hk)
    clear hk e0 e1
    obtain ⟨e0, e1, -⟩ := blk2 (HK5.out.blk HBB.out)
    by_cases hz : 6 < z
    · have hzb : decide (6 < z) = true := decide_eq_true hz
      go_wp2_with fail
      go_ret
      exact ⟨rfl, HK.out.trans HK5.out⟩
    · have hzb : decide (6 < z) = false := decide_eq_false hz
      have HLN := Lib.hid (HLN.out w5 (HI.out.stay HK5.out))
      go_wp2_with fail
      go_at_call 13
      refine HLN.out.mono ?_
      rintro e w6 ⟨lv, rfl, hlv, hk⟩
      have HK6 := Lib.hid (HK5.out.trans hk)
      clear hk e0 e1
      cases lv with
      | false =>
        clear hlv
        go_wp2_with fail
        go_ret
        exact ⟨rfl, HK.out.trans HK6.out⟩
      | true =>
        have HLIN := Lib.hid (hlv.1 rfl)
        clear hlv hz hzb h0b
        go_wp2_with fail
        go_loopw [5, 6] (fun v5 v6 wr => ∃ (z : Int) (i : Nat), v5 = .int .i64 z ∧ 0 ≤ z ∧ v6 = .int .i64 i ∧ i ≤ cs.length ∧ KeepBut (fun _ => False) V wr) (fun _ v _ => cs.length - (intOf v).toNat)
        case atStart => exact ⟨0, 0, rfl, by decide, rfl, Nat.zero_le _, HK6.out⟩
        case round =>
          obtain ⟨z, i, rfl, hz0, rfl, hi, hk⟩ := hrel
          obtain ⟨b0, b1, -⟩ := blk2 (hk.blk HBB.out)
          have HK7 := Lib.hid hk
          by_cases hlt : i < cs.length
          · have hlti : (i : Int) < cs.length := by omega
            have hi0 : (0 : Int) ≤ i := by omega
            have hWi : IntKind.i64.wrap ((i : Int) + 1) = (i : Int) + 1 := IntWalk.i64_in _ (by omega)
            obtain ⟨g, o, hg, -, -, -, -, x4, x5, -⟩ := (HI.out.stay hk).calls i hlt
            subst hg
            have FIN := Lib.hid (fun n => hk.trans (KeepBut.drewN (fun _ => False) wr n))
            clear hk
            go_upto_region 9 with fail
            go_quiet (fail)
            go_wp2_with fail
            exact ⟨⟨_, i + 1, rfl, (by split <;> split <;> omega), by simp, by omega, FIN.out _⟩, by simp only [intOf]; omega⟩
          · have hnl : ¬ (i : Int) < cs.length := by omega
            clear hk
            by_cases hbig : 1073741824 < z
            · go_wp2_with fail
              go_ret
              exact ⟨rfl, HK.out.trans HK7.out⟩
            · have hW2 : IntKind.i64.wrap (z + 2) = z + 2 := IntWalk.i64_in _ (by omega)
              have hpr := pick_range (k := tm) (n := z + 2) (by omega)
              have HPK := Lib.hid (fun W => pick_any W tm (z + 2) (by omega) (by omega))
              obtain ⟨t, ht⟩ : ∃ t, pick tm (z + 2) = t := ⟨_, rfl⟩
              rw [ht] at HPK hpr
              have hOWN := fun W (h : HistIn W pk pc ks cs) => ownInt_any W pk ck ks h.rd (by have := h.k8; omega)
              have HOWN := Lib.hid hOWN
              clear ht hOWN
              go_upto_region 13 with (go_at_call 14; refine (HPK.out _).mono ?_; rintro e w' ⟨rfl, hw⟩; have hw := hw.symm; subst hw)
              go_wp2_with fail
              go_at_call 15
              refine (HOWN.out _ (HI.out.stay HK7.out)).mono ?_
              rintro e w8 ⟨pk', ck', rfl, hown, hk⟩
              have HOW := Lib.hid hown
              have HK8 := Lib.hid (HK7.out.trans hk)
              obtain ⟨W7, B7, hW7, hB7, hb7, hk7, hs7⟩ := fresh_block w8 (.cells #[.slice pk' ks.length ck', .slice none 0 0] THi)
              have HN7 := Lib.hid (show V.heap.size ≤ B7 by have := HK8.out.size; omega)
              have HAT := Lib.hid (show PreAt ks cs t V W7 B7 pk' ck' (.slice none 0 0) 0 from ⟨hb7, World.ownsRow_nil _ _ _ _, HK8.out.trans hk7, HN7.out, hown.rd.stay hk7, fun a ha => by have := (hown.lt a ha).2; omega⟩)
              have HSZ := Lib.hid (show W7.heap.size = B7 + 1 from hs7)
              clear hown hk hb7 hk7 hs7 b0 b1
              have HLOC := Lib.hid (show HistIn W7 pk pc ks cs from HI.out.stay HAT.out.keep)
              go_wp2_with fail
              rw [← hW7, ← hB7]
              clear hW7 hB7
              go_loopw [8] (fun v8 wr => ∃ (i : Nat) (v : Value), v8 = .int .i64 i ∧ i ≤ cs.length ∧ PreAt ks cs t V wr B7 pk' ck' v i) (fun v _ => cs.length - (intOf v).toNat)
              case atStart => exact ⟨0, _, rfl, Nat.zero_le _, HAT.out⟩
              case round =>
                clear HAT HPK HLV HLT HCH HWD
                obtain ⟨i, v, rfl, hi, hat⟩ := hrel
                obtain ⟨b0, b1, -⟩ := blk2 (hat.keep.blk HBB.out)
                have HAT := Lib.hid hat
                by_cases hlt : i < cs.length
                · have hlti : (i : Int) < cs.length := by omega
                  have hi0 : (0 : Int) ≤ i := by omega
                  have hWi : IntKind.i64.wrap ((i : Int) + 1) = (i : Int) + 1 := IntWalk.i64_in _ (by omega)
                  obtain ⟨g, o, hg, x0, x1, x2, x3, x4, x5, x6, x7⟩ := (HI.out.stay hat.keep).calls i hlt
                  subst hg
                  obtain ⟨V9, B9, hV9, hB9, hb9, hk9, hs9⟩ := fresh_block wr (.cells (nthC cs i).vals.toArray TCl)
                  have hv9 : (nthC cs i).vals.toArray = #[.int .i64 (nthC cs i).hart, .int .i64 (nthC cs i).cont, .int .i64 (nthC cs i).op, .int .i64 (nthC cs i).arg, .int .i64 (nthC cs i).beg, .int .i64 (nthC cs i).till, .int .i64 (nthC cs i).value, .int .i64 (nthC cs i).code] := rfl
                  rw [hv9] at hV9 hb9
                  clear hat hv9
                  go_upto_region 18 with fail
                  rw [← hV9, ← hB9]
                  have HNE := Lib.hid (show wr.heap.size ≤ B9 by omega)
                  clear hV9 hB9 x0 x1 x2 x3 x4 x5 x6 x7 b0 b1
                  have HK9 := Lib.hid hk9; have HB9 := Lib.hid hb9
                  obtain ⟨c0, c1, c2, c3, c4, c5, c6, c7⟩ := blk8 hb9
                  clear hk9 hb9 hs9
                  by_cases hbt : t ≤ (nthC cs i).beg
                  · have HBT := Lib.hid (show ¬ (nthC cs i).beg < t by omega)
                    go_wp2_with fail
                    exact ⟨⟨i + 1, v, by simp, by omega, pre_skip hlt HBT.out (pre_same HAT.out HK9.out)⟩, by simp only [intOf]; omega⟩
                  · have HBT := Lib.hid (show (nthC cs i).beg < t by omega)
                    by_cases htl : t ≤ (nthC cs i).till
                    · have HTR := Lib.hid (show truncC t (nthC cs i) = { nthC cs i with till := -1, value := 0, code := 0 } by unfold truncC; rw [if_pos htl])
                      have f5 : V9.frozen? ⟨B9, 5, none⟩ = false := by simp [World.frozen?, HB9.out]
                      have f6 : V9.frozen? ⟨B9, 6, none⟩ = false := by simp [World.frozen?, HB9.out]
                      have f7 : V9.frozen? ⟨B9, 7, none⟩ = false := by simp [World.frozen?, HB9.out]
                      go_upto_region 21 with fail
                      have hset := put1 (i := 7) (put1 (i := 6) (put1 (i := 5) HB9.out (.int .i64 (-1))) (.int .i64 0)) (.int .i64 0)
                      have hks : KeepBut (fun k => k = B9) V9 (((V9.setCell ⟨B9, 5, none⟩ (.int .i64 (-1))).setCell ⟨B9, 6, none⟩ (.int .i64 0)).setCell ⟨B9, 7, none⟩ (.int .i64 0)) := ((KeepBut.setCell (E := fun k => k = B9) _ _ _ rfl).trans (KeepBut.setCell (E := fun k => k = B9) _ _ _ rfl)).trans (KeepBut.setCell (E := fun k => k = B9) _ _ _ rfl)
                      obtain ⟨V10, hV10⟩ : ∃ W, (((V9.setCell ⟨B9, 5, none⟩ (.int .i64 (-1))).setCell ⟨B9, 6, none⟩ (.int .i64 0)).setCell ⟨B9, 7, none⟩ (.int .i64 0)) = W := ⟨_, rfl⟩
                      rw [hV10] at hset hks ⊢
                      have HB10 := Lib.hid (show V10.heap[B9]? = some (.cells (truncC t (nthC cs i)).vals.toArray TCl (0, 0)) by rw [HTR.out]; exact hset)
                      have HKX := Lib.hid (show KeepBut (fun _ => False) wr V10 from HK9.out.new hks fun k e => by have e : k = B9 := e; have := HNE.out; omega)
                      clear hset hks hV10 c0 c1 c2 c3 c4 c5 c6 c7 f5 f6 f7
                      have HAT10 := Lib.hid (pre_same HAT.out HKX.out)
                      obtain ⟨b0, b1, -, f1⟩ := blk2 HAT10.out.box
                      obtain ⟨c0, c1, c2, c3, c4, c5, c6, c7⟩ := blk8 HB10.out
                      have HROW := Lib.hid HAT10.out.row
                      have hlen := Nat.le_trans (cut_len (cs := cs.take i) (t := t)) (List.length_take_le i cs)
                      obtain ⟨n, hn⟩ : ∃ n, (cutH t (cs.take i)).length = n := ⟨_, rfl⟩
                      rw [hn] at hlen HROW
                      have HN := Lib.hid hn
                      have HVV := Lib.hid (show (truncC t (nthC cs i)).vals = [.int .i64 (truncC t (nthC cs i)).hart, .int .i64 (truncC t (nthC cs i)).cont, .int .i64 (truncC t (nthC cs i)).op, .int .i64 (truncC t (nthC cs i)).arg, .int .i64 (truncC t (nthC cs i)).beg, .int .i64 (truncC t (nthC cs i)).till, .int .i64 (truncC t (nthC cs i)).value, .int .i64 (truncC t (nthC cs i)).code] from rfl)
                      obtain ⟨cx, hcx⟩ : ∃ cx, truncC t (nthC cs i) = cx := ⟨_, rfl⟩
                      rw [hcx] at c0 c1 c2 c3 c4 c5 c6 c7 HVV
                      have HCX := Lib.hid hcx
                      clear hn hcx
                      obtain ⟨i0, hi, hz0, hz1, hz2⟩ := info_parts info_call
                      have HI0 := Lib.hid hi; have HZ0 := Lib.hid hz0; have HZ1 := Lib.hid hz1; have HZ2 := Lib.hid hz2
                      have HSB := Lib.hid (show B7 + 1 ≤ V10.heap.size by
                        have := (Array.getElem?_eq_some_iff.1 HAT10.out.box).1
                        omega)
                      clear hi hz0 hz1 hz2
                      go_wp2_with (at_builtin; go_loud (refine wpList_append_own _ rfl (.tmp 85) (.tmp 87) 23 rfl (B7 + 1) TCl i0 _ 8 64 calls_ty HI0.out HZ0.out HZ1.out HZ2.out rfl (by decide) v n (cellsC (cutH t (cs.take i))) rfl (HROW.out.alloc _) ⟨V10.heap.size, 0, none⟩ 1 1 cx.vals rfl rfl (cellsAt (heap_alloc_new V10 _)) (fun u hu => cellsC_one [cx] u (by simpa [cellsC] using hu)) (by unfold maxLen; omega) (by omega) (by rw [World.size_alloc]; have := HSB.out; omega) ?_)
                                   intro v' w' h1 h2 _
                                   have HST := Lib.hid (pre_step hlt HBT.out HAT10.out (by rw [HN.out, HCX.out]; exact h1) h2)
                                   obtain ⟨-, b1', -, f1'⟩ := blk2 HST.out.2
                                   obtain ⟨p', c', hv', -⟩ := Rd.of_owns h1
                                   subst hv'
                                   clear h1 h2)
                      exact ⟨⟨i + 1, _, by simp, by omega, HST.out.1⟩, by simp only [intOf]; omega⟩
                    · have HTR := Lib.hid (show truncC t (nthC cs i) = nthC cs i by unfold truncC; rw [if_neg htl])
                      go_upto_region 21 with fail
                      obtain ⟨V10, hV10⟩ : ∃ W, V9 = W := ⟨_, rfl⟩
                      have HB10 := Lib.hid (show V10.heap[B9]? = some (.cells (truncC t (nthC cs i)).vals.toArray TCl (0, 0)) by rw [HTR.out, ← hV10]; exact HB9.out)
                      have HKX := Lib.hid (show KeepBut (fun _ => False) wr V10 from by rw [← hV10]; exact HK9.out)
                      rw [hV10]
                      clear hV10 c0 c1 c2 c3 c4 c5 c6 c7
                      have HAT10 := Lib.hid (pre_same HAT.out HKX.out)
                      obtain ⟨b0, b1, -, f1⟩ := blk2 HAT10.out.box
                      obtain ⟨c0, c1, c2, c3, c4, c5, c6, c7⟩ := blk8 HB10.out
                      have HROW := Lib.hid HAT10.out.row
                      have hlen := Nat.le_trans (cut_len (cs := cs.take i) (t := t)) (List.length_take_le i cs)
                      obtain ⟨n, hn⟩ : ∃ n, (cutH t (cs.take i)).length = n := ⟨_, rfl⟩
                      rw [hn] at hlen HROW
                      have HN := Lib.hid hn
                      have HVV := Lib.hid (show (truncC t (nthC cs i)).vals = [.int .i64 (truncC t (nthC cs i)).hart, .int .i64 (truncC t (nthC cs i)).cont, .int .i64 (truncC t (nthC cs i)).op, .int .i64 (truncC t (nthC cs i)).arg, .int .i64 (truncC t (nthC cs i)).beg, .int .i64 (truncC t (nthC cs i)).till, .int .i64 (truncC t (nthC cs i)).value, .int .i64 (truncC t (nthC cs i)).code] from rfl)
                      obtain ⟨cx, hcx⟩ : ∃ cx, truncC t (nthC cs i) = cx := ⟨_, rfl⟩
                      rw [hcx] at c0 c1 c2 c3 c4 c5 c6 c7 HVV
                      have HCX := Lib.hid hcx
                      clear hn hcx
                      obtain ⟨i0, hi, hz0, hz1, hz2⟩ := info_parts info_call
                      have HI0 := Lib.hid hi; have HZ0 := Lib.hid hz0; have HZ1 := Lib.hid hz1; have HZ2 := Lib.hid hz2
                      have HSB := Lib.hid (show B7 + 1 ≤ V10.heap.size by
                        have := (Array.getElem?_eq_some_iff.1 HAT10.out.box).1
                        omega)
                      clear hi hz0 hz1 hz2
                      go_wp2_with (at_builtin; go_loud (refine wpList_append_own _ rfl (.tmp 85) (.tmp 87) 23 rfl (B7 + 1) TCl i0 _ 8 64 calls_ty HI0.out HZ0.out HZ1.out HZ2.out rfl (by decide) v n (cellsC (cutH t (cs.take i))) rfl (HROW.out.alloc _) ⟨V10.heap.size, 0, none⟩ 1 1 cx.vals rfl rfl (cellsAt (heap_alloc_new V10 _)) (fun u hu => cellsC_one [cx] u (by simpa [cellsC] using hu)) (by unfold maxLen; omega) (by omega) (by rw [World.size_alloc]; have := HSB.out; omega) ?_)
                                   intro v' w' h1 h2 _
                                   have HST := Lib.hid (pre_step hlt HBT.out HAT10.out (by rw [HN.out, HCX.out]; exact h1) h2)
                                   obtain ⟨-, b1', -, f1'⟩ := blk2 HST.out.2
                                   obtain ⟨p', c', hv', -⟩ := Rd.of_owns h1
                                   subst hv'
                                   clear h1 h2)
                      exact ⟨⟨i + 1, _, by simp, by omega, HST.out.1⟩, by simp only [intOf]; omega⟩
                · have hnl : ¬ (i : Int) < cs.length := by omega
                  have e : cs.take i = cs := List.take_of_length_le (by omega)
                  have hrow := hat.row
                  rw [e] at hrow
                  have hpr0 := hpr.1
                  have HG := Lib.hid (lin_cut hpr0 HLIN.out)
                  obtain ⟨gs, hgs⟩ : ∃ gs, cutH t cs = gs := ⟨_, rfl⟩
                  have HGL := Lib.hid (show gs.length ≤ 26 by rw [← hgs]; exact Nat.le_trans cut_len hl26)
                  have HGA := Lib.hid (show ArgsIn gs by rw [← hgs]; exact cut_args HI.out.args)
                  rw [hgs] at hrow HG
                  obtain ⟨p, c, hv, hrd, -⟩ := Rd.of_owns hrow
                  subst hv
                  have HIG := Lib.hid (show HistIn wr pk' p ks gs from ⟨hat.rdk, rowC_of_rd hrd, HKS8.out, by have := HGL.out; omega, HI.out.kin, HGA.out, (HI.out.stay hat.keep).tab, (HI.out.stay hat.keep).bit⟩)
                  have HCG := Lib.hid (chkH_any wr pk' p ck' c ks gs HIG.out.rd HIG.out.calls (by have := HKS8.out; omega) (by have := HGL.out; omega))
                  rw [show chkH ks gs = 0 from chkH_ok.2 HG.out.1] at HCG
                  have HLG := Lib.hid fun W (h : KeepBut (fun _ => False) wr W) => linear_any W pk' p ck' c ks gs (HIG.out.stay h)
                  obtain ⟨b0, b1, -⟩ := blk2 hat.box
                  have HATE := Lib.hid hat.keep
                  have HBX := Lib.hid hat.box
                  unfold histV at HCG HLG
                  clear hrow hgs hrd e hat
                  go_wp2_with fail
                  go_at_call 11
                  refine HCG.out.mono ?_
                  rintro e w9 ⟨rfl, hk⟩
                  have HKE := Lib.hid hk
                  have HLG := Lib.hid (HLG.out w9 hk)
                  obtain ⟨b0', b1', -⟩ := blk2 (hk.blk HBX.out)
                  clear hk b0 b1
                  go_wp2_with fail
                  go_at_call 13
                  refine HLG.out.mono ?_
                  rintro e w10 ⟨lv, rfl, hlv, hk⟩
                  have hlv : lv = true := hlv.2 HG.out
                  subst hlv
                  have HKE2 := Lib.hid hk
                  clear hk
                  go_wp2_with fail
                  go_ret
                  exact ⟨rfl, (HK.out.trans HATE.out).trans (HKE.out.trans HKE2.out)⟩
  · have h0b : (ch != 0) = true := by simpa using h0
    go_wp2_with (go_at_call 11; refine HCH.out.mono ?_; rintro e w4 ⟨rfl, hk⟩; have HK4 := Lib.hid (HK3.out.trans hk); clear hk)
    go_ret
    exact ⟨rfl, HK.out.trans HK4.out⟩

end Go.Proofs.YtoolpifkfgileaaDoor

/-
  In plain: a history is linear exactly if each of its parts is.
-/
namespace Go.Proofs.YtoolpifkfgileaaDoor
open Go Go.RowKit Own

def run1 : Int × List Int → List Cl → Option (Int × List Int)
  | e, [] => some e
  | e, c :: o => match step1 e c with | some e' => run1 e' o | none => none
def atC (i : Nat) (c : Cl) : Bool := decide (c.cont = (i : Int))
def partC (i : Nat) (cs : List Cl) : List Cl := cs.filter (atC i)

theorem nthK_set {h : List (Int × List Int)} {m i : Nat} {e : Int × List Int} (hm : m < h.length) : nthK (h.set m e) i = if i = m then e else nthK h i := by
  unfold nthK
  rw [List.getD_eq_getElem?_getD, List.getD_eq_getElem?_getD, List.getElem?_set]
  by_cases h1 : m = i
  · subst h1; simp [hm]
  · have : ¬ i = m := fun e => h1 e.symm
    simp [h1, this]

theorem fold_parts : ∀ (o : List Cl) (h : List (Int × List Int)), (∀ c ∈ o, 0 ≤ c.cont ∧ c.cont.toNat < h.length) →
    ((foldC h o).isSome = true ↔ ∀ i, i < h.length → (run1 (nthK h i) (partC i o)).isSome = true)
  | [], h, _ => by simp [foldC, partC, run1]
  | c :: o, h, hc => by
    obtain ⟨hc0, hc1⟩ := hc c List.mem_cons_self
    obtain ⟨m, hm⟩ : ∃ m : Nat, c.cont = m := ⟨c.cont.toNat, by omega⟩
    have hmt : c.cont.toNat = m := by omega
    have hml : m < h.length := by omega
    have hpart : ∀ i, partC i (c :: o) = if i = m then c :: partC i o else partC i o := fun i => by
      unfold partC
      rw [List.filter_cons]
      by_cases e : i = m
      · have : atC i c = true := decide_eq_true (by omega)
        rw [if_pos e, if_pos this]
      · have : ¬ atC i c = true := by unfold atC; rw [decide_eq_true_eq]; omega
        rw [if_neg e, if_neg this]
    unfold foldC stepC
    rw [hmt]
    cases hs : step1 (nthK h m) c with
    | none =>
      constructor
      · intro hx; cases hx
      · intro hx
        have := hx m hml
        rw [hpart, if_pos rfl] at this
        unfold run1 at this
        rw [hs] at this
        cases this
    | some e =>
      have ih := fold_parts o (h.set m e) fun x hx => by rw [List.length_set]; exact hc x (List.mem_cons_of_mem _ hx)
      show (foldC (h.set m e) o).isSome = true ↔ _
      rw [ih, List.length_set]
      refine forall_congr' fun i => imp_congr_right fun hi => ?_
      rw [hpart, nthK_set hml]
      by_cases e1 : i = m
      · rw [if_pos e1, if_pos e1, e1]
        conv => rhs; unfold run1
        rw [hs]
      · rw [if_neg e1, if_neg e1]

theorem nth_start {ks : List Int} {i : Nat} (hi : i < ks.length) : nthK (startP ks) i = (ks[i], []) := by
  unfold nthK startP
  rw [List.getD_eq_getElem?_getD, List.getElem?_map, List.getElem?_eq_getElem hi]
  rfl

theorem good_part {ks : List Int} {cs : List Cl} (h : GoodH ks cs) (i : Nat) : GoodH ks (partC i cs) := h.sub List.filter_sublist
theorem cont_of {ks : List Int} {cs : List Cl} (h : GoodH ks cs) {c : Cl} (hc : c ∈ cs) : 0 ≤ c.cont ∧ c.cont.toNat < (startP ks).length := by
  have h9 := good_beg (h.each c hc)
  have : (startP ks).length = ks.length := by simp [startP]
  omega

theorem part_twice (i j : Nat) (o : List Cl) : partC j (partC i o) = if j = i then partC i o else [] := by
  unfold partC
  rw [List.filter_filter]
  by_cases e : j = i
  · subst e
    rw [if_pos rfl]
    congr 1
    funext c
    exact Bool.and_self _
  · rw [if_neg e]
    refine List.filter_eq_nil_iff.2 fun c _ h => ?_
    rw [Bool.and_eq_true] at h
    have h1 := of_decide_eq_true h.1
    have h2 := of_decide_eq_true h.2
    omega

theorem lin_part {ks : List Int} {cs : List Cl} (h : LinH ks cs) (i : Nat) : LinH ks (partC i cs) := by
  obtain ⟨⟨hg, hl⟩, o, ho⟩ := h
  have hfp := (fold_parts o (startP ks) fun c hc => cont_of hg (ho.sub c hc)).1 ho.run
  refine ⟨⟨good_part hg i, Nat.le_trans (List.length_filter_le _ _) hl⟩, partC i o, fun c hc => ?_, fun c hc ht => ?_, ho.pair.filter _, ?_⟩
  · have := List.mem_filter.1 hc
    exact List.mem_filter.2 ⟨ho.sub c this.1, this.2⟩
  · have := List.mem_filter.1 hc
    exact List.mem_filter.2 ⟨ho.ended c this.1 ht, this.2⟩
  · refine (fold_parts _ (startP ks) fun c hc => cont_of hg (ho.sub c (List.mem_filter.1 hc).1)).2 fun j hj => ?_
    show (run1 (nthK (startP ks) j) (partC j (partC i o))).isSome = true
    rw [part_twice]
    split
    · rename_i e; subst e; exact hfp j hj
    · rfl

/-- an order, each call with a time at which it may be done -/
def annot : Int → List Cl → List (Int × Cl)
  | _, [] => []
  | m, c :: o => (max m c.beg, c) :: annot (max m c.beg) o
theorem annot_snd : ∀ (o : List Cl) (m : Int), (annot m o).map (·.2) = o
  | [], _ => rfl
  | c :: o, m => by unfold annot; rw [List.map_cons, annot_snd o]
theorem annot_ge : ∀ (o : List Cl) (m : Int), ∀ x ∈ annot m o, m ≤ x.1
  | [], _, x, hx => by cases hx
  | c :: o, m, x, hx => by
    unfold annot at hx
    rcases List.mem_cons.1 hx with e | hx
    · rw [e]; exact Int.le_max_left _ _
    · have := annot_ge o _ x hx
      have h1 := Int.le_max_left m c.beg
      omega
theorem annot_sorted : ∀ (o : List Cl) (m : Int), (annot m o).Pairwise fun a b => a.1 ≤ b.1
  | [], _ => List.Pairwise.nil
  | c :: o, m => by
    unfold annot
    exact List.pairwise_cons.2 ⟨fun x hx => annot_ge o _ x hx, annot_sorted o _⟩
theorem annot_in : ∀ (o : List Cl) (m : Int), (∀ c ∈ o, c.till ≠ -1 → 0 ≤ c.till ∧ c.beg ≤ c.till ∧ m ≤ c.till) → (o.Pairwise fun a b => a.beg ≠ b.beg ∧ aheadC b a = false) →
    ∀ x ∈ annot m o, x.2.beg ≤ x.1 ∧ (x.2.till ≠ -1 → x.1 ≤ x.2.till)
  | [], _, _, _, x, hx => by cases hx
  | c :: o, m, h, hp, x, hx => by
    obtain ⟨hp1, hp2⟩ := List.pairwise_cons.1 hp
    unfold annot at hx
    rcases List.mem_cons.1 hx with e | hx
    · rw [e]
      refine ⟨Int.le_max_right _ _, fun ht => ?_⟩
      have := h c List.mem_cons_self ht
      exact Int.max_le.2 ⟨this.2.2, this.2.1⟩
    · refine annot_in o _ (fun b hb ht => ?_) hp2 x hx
      obtain ⟨h1, h2, h3⟩ := h b (List.mem_cons_of_mem _ hb) ht
      refine ⟨h1, h2, Int.max_le.2 ⟨h3, ?_⟩⟩
      have h4 := (hp1 b hb).2
      unfold aheadC at h4
      rw [decide_eq_true h1, Bool.true_and, decide_eq_false_iff_not] at h4
      omega

theorem flat_sub {α : Type} {f : Nat → List α} {i : Nat} : ∀ {l : List Nat}, i ∈ l → (f i).Sublist (l.flatMap f)
  | j :: l, h => by
    rw [List.flatMap_cons]
    rcases List.mem_cons.1 h with e | h
    · rw [e]; exact List.sublist_append_left _ _
    · exact (flat_sub h).trans (List.sublist_append_right _ _)
theorem flat_congr {α : Type} {f g : Nat → List α} : ∀ {l : List Nat}, (∀ i ∈ l, f i = g i) → l.flatMap f = l.flatMap g
  | [], _ => rfl
  | j :: l, h => by rw [List.flatMap_cons, List.flatMap_cons, h j List.mem_cons_self, flat_congr fun i hi => h i (List.mem_cons_of_mem _ hi)]

theorem pick_flat {α : Type} (f : Nat → List α) (i : Nat) : ∀ K, ((List.range K).flatMap fun j => if j = i then f j else []) = if i < K then f i else []
  | 0 => by simp
  | K + 1 => by
    rw [List.range_succ, List.flatMap_append, pick_flat f i K, List.flatMap_cons, List.flatMap_nil, List.append_nil]
    by_cases h1 : i < K
    · rw [if_pos h1, if_neg (by omega), if_pos (by omega), List.append_nil]
    · rw [if_neg h1, List.nil_append]
      by_cases h2 : K = i
      · rw [if_pos h2, if_pos (by omega), h2]
      · rw [if_neg h2, if_neg (by omega)]

theorem GoodH.begC {ks : List Int} {cs : List Cl} (h : GoodH ks cs) {a b : Cl} (ha : a ∈ cs) (hb : b ∈ cs) (e : a.beg = b.beg) : a = b := by
  obtain ⟨i, hi, rfl⟩ := mem_nthC ha
  obtain ⟨j, hj, rfl⟩ := mem_nthC hb
  rw [h.begs hi hj e]

theorem lin_whole {ks : List Int} {cs : List Cl} (hg : GoodH ks cs) (hl : cs.length ≤ 24) (h : ∀ i, i < ks.length → LinH ks (partC i cs)) : LinH ks cs := by
  refine ⟨⟨hg, hl⟩, ?_⟩
  have hx : ∀ i, ∃ o, i < ks.length → OrdC (startP ks) (partC i cs) o := fun i => by
    by_cases hi : i < ks.length
    · obtain ⟨-, o, ho⟩ := h i hi
      exact ⟨o, fun _ => ho⟩
    · exact ⟨[], fun e => absurd e hi⟩
  obtain ⟨oc, hoc⟩ := Classical.axiomOfChoice hx
  obtain ⟨L, hL⟩ : ∃ L, ((List.range ks.length).flatMap fun i => annot 0 (oc i)) = L := ⟨_, rfl⟩
  obtain ⟨M, hM⟩ : ∃ M, L.mergeSort (fun a b => decide (a.1 ≤ b.1)) = M := ⟨_, rfl⟩
  have tr : ∀ a b c : Int × Cl, decide (a.1 ≤ b.1) = true → decide (b.1 ≤ c.1) = true → decide (a.1 ≤ c.1) = true := fun a b c h1 h2 => by
    rw [decide_eq_true_eq] at h1 h2 ⊢; omega
  have tt : ∀ a b : Int × Cl, (decide (a.1 ≤ b.1) || decide (b.1 ≤ a.1)) = true := fun a b => by
    rw [Bool.or_eq_true, decide_eq_true_eq, decide_eq_true_eq]; omega
  have hperm : M.Perm L := by rw [← hM]; exact List.mergeSort_perm L _
  have hsort : M.Pairwise fun a b => a.1 ≤ b.1 := by
    rw [← hM]
    exact (List.pairwise_mergeSort tr tt L).imp fun {a b} h => of_decide_eq_true h
  have hpm : ∀ i, i < ks.length → ∀ c ∈ oc i, c ∈ cs ∧ c.cont = (i : Int) := fun i hi c hc => by
    have := List.mem_filter.1 ((hoc i hi).sub c hc)
    exact ⟨this.1, of_decide_eq_true this.2⟩
  have hmemL : ∀ x ∈ L, ∃ i, i < ks.length ∧ x ∈ annot 0 (oc i) ∧ x.2 ∈ oc i := fun x hx => by
    rw [← hL] at hx
    obtain ⟨i, hi, hx⟩ := List.mem_flatMap.1 hx
    refine ⟨i, List.mem_range.1 hi, hx, ?_⟩
    have := List.mem_map_of_mem (f := (·.2)) hx
    rwa [annot_snd] at this
  have hin : ∀ x ∈ L, x.2.beg ≤ x.1 ∧ (x.2.till ≠ -1 → x.1 ≤ x.2.till) := fun x hx => by
    obtain ⟨i, hi, h1, h2⟩ := hmemL x hx
    refine annot_in (oc i) 0 (fun c hc ht => ?_) (hoc i hi).pair x h1
    have h3 := hg.each c (hpm i hi c hc).1
    have h4 := good_beg h3
    have h5 := h3.2.2 ht
    omega
  have hneq : L.Pairwise fun a b => a.2.beg ≠ b.2.beg := by
    rw [← hL]
    refine List.pairwise_flatMap.2 ⟨fun i hi => ?_, ?_⟩
    · have h1 := (hoc i (List.mem_range.1 hi)).pair
      rw [← annot_snd (oc i) 0, map_pair] at h1
      exact h1.imp fun h => h.1
    · refine List.nodup_range.imp_of_mem fun {i j} hi hj hne x hx y hy e => ?_
      have h1 : x.2 ∈ oc i := by
        have := List.mem_map_of_mem (f := (·.2)) hx
        rwa [annot_snd] at this
      have h2 : y.2 ∈ oc j := by
        have := List.mem_map_of_mem (f := (·.2)) hy
        rwa [annot_snd] at this
      obtain ⟨a1, a2⟩ := hpm i (List.mem_range.1 hi) _ h1
      obtain ⟨b1, b2⟩ := hpm j (List.mem_range.1 hj) _ h2
      have := hg.begC a1 b1 e
      rw [this, b2] at a2
      exact hne (by omega)
  have hneM : M.Pairwise fun a b => a.2.beg ≠ b.2.beg := (hperm.pairwise_iff fun {a b} h e => h e.symm).2 hneq
  have hLs : L.map (·.2) = (List.range ks.length).flatMap oc := by
    rw [← hL, List.map_flatMap]
    congr 1
    funext i
    exact annot_snd _ _
  refine ⟨M.map (·.2), fun c hc => ?_, fun c hc ht => ?_, ?_, ?_⟩
  · obtain ⟨x, hx, rfl⟩ := List.mem_map.1 hc
    obtain ⟨i, hi, -, h2⟩ := hmemL x (hperm.mem_iff.1 hx)
    exact (hpm i hi _ h2).1
  · have h9 := good_beg (hg.each c hc)
    have hi : c.cont.toNat < ks.length := by omega
    have h1 : c ∈ oc c.cont.toNat := (hoc _ hi).ended c (List.mem_filter.2 ⟨hc, decide_eq_true (by omega)⟩) ht
    have h2 : c ∈ L.map (·.2) := by rw [hLs]; exact List.mem_flatMap.2 ⟨_, List.mem_range.2 hi, h1⟩
    exact (hperm.map (·.2)).mem_iff.2 h2
  · rw [map_pair]
    refine (hsort.and hneM).imp_of_mem fun {a b} ha hb hab => ⟨hab.2, ?_⟩
    cases hh : aheadC b.2 a.2 with
    | false => rfl
    | true =>
      exfalso
      unfold aheadC at hh
      rw [Bool.and_eq_true, decide_eq_true_eq, decide_eq_true_eq] at hh
      have h1 := (hin a (hperm.mem_iff.1 ha)).1
      have h2 := (hin b (hperm.mem_iff.1 hb)).2 (by omega)
      have := hab.1
      omega
  · have hsl : (startP ks).length = ks.length := by simp [startP]
    refine (fold_parts _ (startP ks) fun c hc => ?_).2 fun i hi => ?_
    · obtain ⟨x, hx, rfl⟩ := List.mem_map.1 hc
      obtain ⟨i, hi, -, h2⟩ := hmemL x (hperm.mem_iff.1 hx)
      exact cont_of hg (hpm i hi _ h2).1
    · rw [hsl] at hi
      have hself : partC i (oc i) = oc i := by
        unfold partC
        exact List.filter_eq_self.2 fun c hc => decide_eq_true (hpm i hi c hc).2
      have hsub : (oc i).Sublist (M.map (·.2)) := by
        have h1 : (annot 0 (oc i)).Sublist L := by
          rw [← hL]
          exact flat_sub (f := fun i => annot 0 (oc i)) (List.mem_range.2 hi)
        have h2 : (annot 0 (oc i)).Sublist M := by
          rw [← hM]
          exact List.sublist_mergeSort tr tt ((annot_sorted (oc i) 0).imp fun {a b} h => decide_eq_true h) h1
        have h3 := h2.map (·.2)
        rwa [annot_snd] at h3
      have hsub2 : (oc i).Sublist (partC i (M.map (·.2))) := by
        have := hsub.filter (atC i)
        rwa [show (oc i).filter (atC i) = oc i from hself] at this
      have hlen : (partC i (M.map (·.2))).length = (oc i).length := by
        have h1 : (partC i (M.map (·.2))).Perm (partC i (L.map (·.2))) := (hperm.map fun x : Int × Cl => x.2).filter (atC i)
        rw [h1.length_eq, hLs]
        unfold partC
        rw [List.filter_flatMap]
        have h2 : ((List.range ks.length).flatMap fun j => (oc j).filter (atC i)) = (List.range ks.length).flatMap fun j => if j = i then oc j else [] := by
          refine flat_congr fun j hj => ?_
          by_cases e : j = i
          · rw [if_pos e, e]; exact hself
          · rw [if_neg e]
            refine List.filter_eq_nil_iff.2 fun c hc h3 => ?_
            have h4 := (hpm j (List.mem_range.1 hj) c hc).2
            have h5 := of_decide_eq_true h3
            omega
        rw [h2, pick_flat, if_pos hi]
      have heq : oc i = partC i (M.map (·.2)) := hsub2.eq_of_length (by omega)
      rw [← heq]
      have h6 := (fold_parts (oc i) (startP ks) fun c hc => cont_of hg (hpm i hi c hc).1).1 (hoc i hi).run i (by rw [hsl]; exact hi)
      rwa [hself] at h6

end Go.Proofs.YtoolpifkfgileaaDoor

/-
  Package hist: Part's helpers: Clone, Clip, IndexFunc, DeleteFunc over calls.
-/
namespace Go.Proofs.YtoolpifkfgileaaDoor
open Go Go.RowKit Own

set_option maxRecDepth 100000 in
set_option maxHeartbeats 4000000 in
theorem cloneC_any (w : World) (p : Option Addr) (c : Nat) (l : List Cl) (h : RowC w p l) (hl : l.length ≤ 1099511627776) :
    Calls Tryd.prog 32 #[.slice p l.length c] w fun e w' => ∃ v', e = .returned v' ∧ w'.ownsRow w.heap.size TCl 8 v' l.length (cellsC l) ∧ KeepBut (fun _ => False) w w' := by
  have q22 : ∀ (w : World) (a : Option Addr) (n c n' c' : Nat), (binOp .eql 23 (.slice a n c) (.slice none n' c')).run Tryd.prog w = .ok (.bool a.isNone) w := fun w a n c n' c' => Lib.run_eql_slice_nil w _ _ a n c n' c' calls_ty
  cases p with
  | none =>
    have hl0 : l = [] := by
      cases l with
      | nil => rfl
      | cons x l =>
        obtain ⟨g, o, e, _⟩ := h 0 (by simp)
        cases e
    subst hl0
    go_enter Tryd.func32, Tryd.ntmps32
    go_wp2_with fail
    go_ret
    exact ⟨_, rfl, World.ownsRow_nil _ _ _ _, KeepBut.refl _ _⟩
  | some a =>
    have hA := KeepBut.alloc (fun _ => False) w (.cells #[] TCl)
    have hr := Lib.hid (rd_of_rowC (h.stay hA)).adds
    have ho := Lib.hid (show (w.alloc (.cells #[] TCl)).ownsRow w.heap.size TCl 8 (.slice (some ⟨w.heap.size, 0, none⟩) 0 0) 0 (cellsC []) from ⟨rfl, .inr ⟨w.heap.size, 0, #[], rfl, Nat.le_refl _, heap_alloc_new w _, Nat.le_refl _, by unfold maxLen; omega, rfl, rfl⟩⟩)
    obtain ⟨i0, hi, hz0, hz1, hz2⟩ := info_parts info_call
    have HI := Lib.hid hi; have HZ0 := Lib.hid hz0; have HZ1 := Lib.hid hz1; have HZ2 := Lib.hid hz2
    clear h hA hi hz0 hz1 hz2
    go_enter Tryd.func32, Tryd.ntmps32
    go_wp2_with (at_builtin; go_loud (refine wpList_append_own _ rfl (.tmp 5) (.tmp 6) 23 rfl w.heap.size TCl i0 _ 8 64 calls_ty HI.out HZ0.out HZ1.out HZ2.out rfl (by decide) (.slice (some ⟨w.heap.size, 0, none⟩) 0 0) 0 (cellsC []) rfl ho.out a l.length c (cellsC l) rfl (cellsC_length l) hr.out (cellsC_one l) (by unfold maxLen; omega) (by omega) (by simp) ?_)
                 intro v' w' h1 h2 _
                 have H1 := Lib.hid h1; have H2 := Lib.hid h2
                 clear h1 h2)
    go_ret
    exact ⟨v', rfl, by have h := H1.out; rw [Nat.zero_add] at h; exact h, KeepBut.of_below (((Below.refl w.heap.size w).alloc (Nat.le_refl _) _).grown H2.out (by simp) (fun k hk => by cases hk; exact Nat.le_refl _))⟩

theorem clipC_any (w : World) (p : Option Addr) (n c : Nat) (hn : n ≤ c) (hc : c ≤ 9223372036854775807) :
    Calls Tryd.prog 35 #[.slice p n c] w fun e w' => e = .returned (.slice p n n) ∧ w' = w := by
  have : n ≤ 9223372036854775807 := by omega
  go_enter Tryd.func35, Tryd.ntmps35
  go_wp2
  go_ret
  exact ⟨rfl, rfl⟩

theorem partFn_any (w : World) (B3 i : Nat) (hb : w.cell? ⟨B3, 0, none⟩ = some (.int .i64 i)) (c : Cl) :
    Calls Tryd.prog 33 #[.agg #[.int .i64 c.hart, .int .i64 c.cont, .int .i64 c.op, .int .i64 c.arg, .int .i64 c.beg, .int .i64 c.till, .int .i64 c.value, .int .i64 c.code], .pointer (some ⟨B3, 0, none⟩)] w fun e w' => e = .returned (.bool (!atC i c)) ∧ KeepBut (fun _ => False) w w' := by
  obtain ⟨V, B, hV, hB, hbb, hkV, -⟩ := fresh_block w (.cells #[.int .i64 c.hart, .int .i64 c.cont, .int .i64 c.op, .int .i64 c.arg, .int .i64 c.beg, .int .i64 c.till, .int .i64 c.value, .int .i64 c.code] TCl)
  have c1 := blk_cell (k := 1) hbb rfl
  have hb' := hkV.stay hb
  have HK := Lib.hid hkV
  obtain ⟨q, hq⟩ : ∃ q, (c.cont != (i : Int)) = q := ⟨_, rfl⟩
  have HE := Lib.hid (show (!atC i c) = q by
    rw [← hq]
    unfold atC
    by_cases e : c.cont = (i : Int) <;> simp [e])
  clear hkV hbb hb
  go_enter Tryd.func33, Tryd.ntmps33
  go_upto_region 1 with fail
  rw [← hV, ← hB]
  clear hV hB
  go_wp2_with fail
  go_ret
  exact ⟨ret_bool HE.out.symm, HK.out⟩

def delV (B3 : Nat) : Value := .func (.func 33) #[] #[.pointer (some ⟨B3, 0, none⟩)]

def IdxDone (i : Nat) (cs : List Cl) (w : World) (e : Ending) (w' : World) : Prop :=
  ((∃ k : Nat, k < cs.length ∧ e = .returned (.int .i64 k) ∧ atC i (nthC cs k) = false ∧ ∀ j, j < k → atC i (nthC cs j) = true) ∨ (e = .returned (.int .i64 (-1)) ∧ ∀ j, j < cs.length → atC i (nthC cs j) = true)) ∧ KeepBut (fun _ => False) w w'

set_option maxHeartbeats 4000000 in
theorem idxC_any (w : World) (B3 i : Nat) (hb : w.cell? ⟨B3, 0, none⟩ = some (.int .i64 i)) (p : Option Addr) (c : Nat) (cs : List Cl) (hc : RowC w p cs) (hl : cs.length ≤ 60) :
    Calls Tryd.prog 53 #[.slice p cs.length c, delV B3] w fun e w' => IdxDone i cs w e w' := by
  have HC := Lib.hid hc; have HB := Lib.hid hb
  unfold delV
  clear hc hb
  go_enter Tryd.func53, Tryd.ntmps53
  go_wp2_with fail
  go_loopw [8] (fun v8 wr => ∃ k : Nat, v8 = .int .i64 k ∧ k ≤ cs.length ∧ (∀ j, j < k → atC i (nthC cs j) = true) ∧ KeepBut (fun _ => False) w wr) (fun v _ => cs.length - (intOf v).toNat)
  case atStart => exact ⟨0, rfl, Nat.zero_le _, fun j h => absurd h (Nat.not_lt_zero _), KeepBut.refl _ _⟩
  case round =>
    obtain ⟨k, rfl, hk, hno, hkk⟩ := hrel
    have HNO := Lib.hid hno; have HK := Lib.hid hkk
    by_cases hlt : k < cs.length
    · have hlti : (k : Int) < cs.length := by omega
      have hi0 : (0 : Int) ≤ k := by omega
      have hWi : IntKind.i64.wrap ((k : Int) + 1) = (k : Int) + 1 := IntWalk.i64_in _ (by omega)
      obtain ⟨g, o, hp, x0, x1, x2, x3, x4, x5, x6, x7⟩ := (HC.out.stay hkk) k hlt
      subst hp
      have HFN := Lib.hid (partFn_any wr B3 i (hkk.stay HB.out) (nthC cs k))
      obtain ⟨a, ha⟩ : ∃ a, atC i (nthC cs k) = a := ⟨_, rfl⟩
      rw [ha] at HFN
      have HA := Lib.hid ha
      clear hno hkk ha
      cases a with
      | true =>
        go_wp2_with (go_at_call 33; refine HFN.out.mono ?_; rintro e w2 ⟨rfl, hk2⟩; have HK2 := Lib.hid hk2; clear hk2)
        exact ⟨⟨k + 1, by simp, by omega, fun j hj => by
          by_cases e : j = k
          · subst e; exact HA.out
          · exact HNO.out j (by omega), HK.out.trans HK2.out⟩, by simp only [intOf]; omega⟩
      | false =>
        go_wp2_with (go_at_call 33; refine HFN.out.mono ?_; rintro e w2 ⟨rfl, hk2⟩; have HK2 := Lib.hid hk2; clear hk2)
        go_ret
        exact ⟨.inl ⟨k, hlt, rfl, HA.out, HNO.out⟩, HK.out.trans HK2.out⟩
    · have hnl : ¬ (k : Int) < cs.length := by omega
      clear hno hkk
      go_wp2_with fail
      go_ret
      exact ⟨.inr ⟨rfl, fun j hj => HNO.out j (by omega)⟩, HK.out⟩

/-- clear, over calls of a block that is known -/
theorem run_clear_calls (W : World) (g o n c : Nat) (cur : Array Value) (h : W.heap[g]? = some (.cells cur TCl (0, 0))) (hs : o + n * 8 ≤ cur.size) (hn : 0 < n) :
    ∃ W' cur', (∀ ty, (Builtin.clear_ #[23] ty #[.slice (some ⟨g, o, none⟩) n c]).run Tryd.prog W = .ok (.tuple #[]) W') ∧ W'.heap[g]? = some (.cells cur' TCl (0, 0)) ∧ cur'.size = cur.size ∧ (∀ k, k < o → cur'[k]? = cur[k]?) ∧ KeepBut (fun b => b = g) W W' := by
  have hz : (zeroValue TCl).run Tryd.prog W = .ok (.agg #[.int .i64 0, .int .i64 0, .int .i64 0, .int .i64 0, .int .i64 0, .int .i64 0, .int .i64 0, .int .i64 0]) W := by kernel_rfl
  obtain ⟨m, rfl⟩ : ∃ m, n = m + 1 := ⟨n - 1, by omega⟩
  obtain ⟨vs, hvs⟩ : ∃ vs, (Builtin.zeroCells (Value.agg #[.int .i64 0, .int .i64 0, .int .i64 0, .int .i64 0, .int .i64 0, .int .i64 0, .int .i64 0, .int .i64 0]).cells (m + 1)).toList = vs := ⟨_, rfl⟩
  have hvl : vs.length = (m + 1) * 8 := by rw [← hvs]; simp [Builtin.zeroCells, Value.cells]
  have hv1 : ∀ v ∈ vs, v.oneCell' = true := fun v hv => by
    rw [← hvs] at hv
    simp only [Builtin.zeroCells, Value.cells, Array.toList_map, List.mem_map] at hv
    obtain ⟨j, _, rfl⟩ := hv
    have hj : j % 8 < 8 := Nat.mod_lt _ (by decide)
    match hm : j % 8, hj with
    | 0, _ => simp [hm]; rfl
    | 1, _ => simp [hm]; rfl
    | 2, _ => simp [hm]; rfl
    | 3, _ => simp [hm]; rfl
    | 4, _ => simp [hm]; rfl
    | 5, _ => simp [hm]; rfl
    | 6, _ => simp [hm]; rfl
    | 7, _ => simp [hm]; rfl
  have hst := run_storeCells_at (P := Tryd.prog) g o TCl vs 0 cur W h (by rw [hvl]; omega) hv1
  rw [Nat.add_zero] at hst
  obtain ⟨nc, hnc⟩ : ∃ nc, (cur.toList.take o ++ vs ++ cur.toList.drop (o + vs.length)).toArray = nc := ⟨_, rfl⟩
  rw [hnc] at hst
  refine ⟨W.setRow g nc, nc, ?_, setRow_heap W g cur nc TCl (0, 0) h, ?_, fun k hk => ?_, ?_⟩
  · intro ty
    unfold Builtin.clear_
    simp [run_underlying calls_ty, Result.andThen, hz, hvs, hst]
  · rw [← hnc]
    simp only [List.size_toArray, List.length_append, List.length_take, List.length_drop, Array.length_toList, hvl]
    omega
  · rw [← hnc]
    rw [List.getElem?_toArray, List.append_assoc, List.getElem?_append_left (by rw [List.length_take, Array.length_toList]; omega), List.getElem?_take, if_pos hk]
    simp
  · exact ⟨rfl, rfl, rfl, by simp [World.setRow], fun b _ hb => by simp [World.setRow, Array.getElem?_modify]; intro e; exact absurd e.symm hb⟩

end Go.Proofs.YtoolpifkfgileaaDoor
