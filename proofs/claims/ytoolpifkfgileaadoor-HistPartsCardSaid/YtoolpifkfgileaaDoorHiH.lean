/-
  Chapter 29: HistPrefix: the walk.
-/
import Derived.Test.YtoolpifkfgileaaDoorHiG
import Derived.Test.YtoolpifkfgileaaDoorHp3
import Derived.WalkLawsBesides
namespace Go.Proofs.YtoolpifkfgileaaDoor
open Go Go.RowKit Own

def TrueOf (w : World) (e : Ending) (w' : World) : Prop := e = .returned (.bool true) ∧ KeepBut (fun _ => False) w w'

set_option maxHeartbeats 8000000 in
theorem prefix_many (w : World) (pk pc : Option Addr) (ck cc : Nat) (ks : List Int) (cs : List Cl) (tm : Int) (hT : TabP w) (hB : BitTab w) (hs : 26 < cs.length ∨ 8 < ks.length) :
    Calls Tryd.prog 3 #[histV pk pc ck cc ks cs, .int .i64 tm] w fun e w' => TrueOf w e w' := by
  obtain ⟨V, B, hV, hB0, hb, hkV, hsV⟩ := fresh_block w (.cells #[.slice pk ks.length ck, .slice pc cs.length cc] THi)
  have HK := Lib.hid hkV; have HBB := Lib.hid hb
  have HLV := Lib.hid (lives_any V (hkV.tabP hT) (hkV.bitTab hB))
  have HE := Lib.hid (show (decide (cs.length ≤ 26) && decide (ks.length ≤ 8)) = false by
    rcases hs with h | h
    · rw [decide_eq_false (by omega)]; rfl
    · rw [decide_eq_false (p := ks.length ≤ 8) (by omega), Bool.and_false])
  have HLT := fun W => light_any W pk pc ck cc ks cs
  rw [HE.out] at HLT
  have HLT := Lib.hid HLT
  unfold histV at HLT ⊢
  clear hb hkV hsV hT hB hs
  go_enter Tryd.func3, Tryd.ntmps3
  go_upto_region 1 with fail
  rw [← hV, ← hB0]
  clear hV hB0
  go_upto_region 3 with (go_at_call 9; refine HLV.out.mono ?_; rintro e w2 ⟨rfl, hk⟩; obtain ⟨e0, e1, -⟩ := blk2 (hk.blk HBB.out); have HK2 := Lib.hid hk; clear hk)
  go_wp2_with (go_at_call 10; refine (HLT.out _).mono ?_; rintro e w3 ⟨rfl, hk⟩; have HK3 := Lib.hid hk; clear hk)
  go_ret
  exact ⟨rfl, (HK.out.trans HK2.out).trans HK3.out⟩

/-- where HistPrefix is, between two rounds of its last loop -/
structure PreAt (ks : List Int) (cs : List Cl) (tm : Int) (w wr : World) (B7 : Nat) (pk' : Option Addr) (ck' : Nat) (v : Value) (i : Nat) : Prop where
  box : wr.heap[B7]? = some (.cells #[.slice pk' ks.length ck', v] THi (0, 0))
  row : wr.ownsRow (B7 + 1) TCl 8 v (cutH tm (cs.take i)).length (cellsC (cutH tm (cs.take i)))
  keep : KeepBut (fun _ => False) w wr
  lt : w.heap.size ≤ B7
  rdk : Rd wr pk' (ints ks)
  pkb : ∀ a, pk' = some a → a.block < B7

theorem row_keepE {w w' : World} {base size : Nat} {T : TypeId} {v : Value} {n : Nat} {xs : List Value} {E : Nat → Prop} (h : w.ownsRow base T size v n xs) (k : KeepBut E w w') (hE : ∀ g, base ≤ g → ¬ E g) : w'.ownsRow base T size v n xs := by
  obtain ⟨h0, h1 | ⟨g, cap, cur, h1, h2, h3, h4⟩⟩ := h
  · exact ⟨h0, .inl h1⟩
  · exact ⟨h0, .inr ⟨g, cap, cur, h1, h2, keep_blk k h3 (hE g h2), h4⟩⟩

theorem cut_take {cs : List Cl} {t : Int} {i : Nat} (hi : i < cs.length) : cutH t (cs.take (i + 1)) = if (nthC cs i).beg < t then cutH t (cs.take i) ++ [truncC t (nthC cs i)] else cutH t (cs.take i) := by
  rw [drop_nth hi]
  unfold cutH
  rw [List.filter_append, List.map_append]
  by_cases h : (nthC cs i).beg < t
  · rw [if_pos h]; simp [h]
  · rw [if_neg h]; simp [h]

theorem pre_same {ks : List Int} {cs : List Cl} {t : Int} {w wr wr' : World} {B7 : Nat} {pk' : Option Addr} {ck' : Nat} {v : Value} {i : Nat} (h : PreAt ks cs t w wr B7 pk' ck' v i) (k : KeepBut (fun _ => False) wr wr') : PreAt ks cs t w wr' B7 pk' ck' v i :=
  ⟨k.blk h.box, row_keep h.row k, h.keep.trans k, h.lt, h.rdk.stay k, h.pkb⟩
theorem pre_skip {ks : List Int} {cs : List Cl} {t : Int} {w wr : World} {B7 : Nat} {pk' : Option Addr} {ck' : Nat} {v : Value} {i : Nat} (hi : i < cs.length) (hb : ¬ (nthC cs i).beg < t) (h : PreAt ks cs t w wr B7 pk' ck' v i) : PreAt ks cs t w wr B7 pk' ck' v (i + 1) :=
  ⟨h.box, by rw [cut_take hi, if_neg hb]; exact h.row, h.keep, h.lt, h.rdk, h.pkb⟩

/-- one more call has been put at the end -/
theorem pre_step {ks : List Int} {cs : List Cl} {t : Int} {w V10 w' : World} {B7 : Nat} {pk' : Option Addr} {ck' : Nat} {v v' : Value} {i : Nat} {X : Obj} (hi : i < cs.length) (hb : (nthC cs i).beg < t) (h : PreAt ks cs t w V10 B7 pk' ck' v i)
    (h1 : w'.ownsRow (B7 + 1) TCl 8 v' ((cutH t (cs.take i)).length + 1) (cellsC (cutH t (cs.take i)) ++ (truncC t (nthC cs i)).vals)) (h2 : (V10.alloc X).grownBy w' v.ownBlock) :
    PreAt ks cs t w (w'.setCell ⟨B7, 1, none⟩ v') B7 pk' ck' v' (i + 1) ∧ w'.heap[B7]? = some (.cells #[.slice pk' ks.length ck', v] THi (0, 0)) := by
  have hown : ∀ j, v.ownBlock = some j → B7 + 1 ≤ j := fun j hj => (h.row.lt j hj).1
  have k1 : KeepBut (fun j => v.ownBlock = some j) V10 w' := (KeepBut.alloc _ V10 X).trans (KeepBut.grown (E := fun j => v.ownBlock = some j) h2 fun _ e => e)
  have hbox := keep_blk k1 h.box fun e => by have := hown B7 e; omega
  have hk1 : KeepBut (fun _ => False) w w' := h.keep.new k1 fun j e => by have := hown j e; have := h.lt; omega
  have ks1 : KeepBut (fun k => k = B7) w' (w'.setCell ⟨B7, 1, none⟩ v') := KeepBut.setCell _ _ _ rfl
  refine ⟨⟨?_, ?_, hk1.new ks1 fun j e => by have e : j = B7 := e; have := h.lt; omega, h.lt, ?_, h.pkb⟩, hbox⟩
  · have := put1 (i := 1) hbox v'
    exact this
  · rw [cut_take hi, if_pos hb, cellsC_snoc, List.length_append]
    exact row_keepE h1 ks1 fun g hg e => by have e : g = B7 := e; omega
  · refine (h.rdk.keep k1 fun a ha e => ?_).keep ks1 fun a ha e => ?_
    · have := hown _ e
      have := h.pkb a ha
      omega
    · have e : a.block = B7 := e
      have := h.pkb a ha
      omega

theorem cut_args {cs : List Cl} {t : Int} (h : ArgsIn cs) : ArgsIn (cutH t cs) := fun c hc => by
  obtain ⟨c, hc0, rfl⟩ := List.mem_map.1 hc
  have := h c (List.mem_filter.1 hc0).1
  unfold truncC
  split
  · exact this
  · exact this
theorem cut_len {cs : List Cl} {t : Int} : (cutH t cs).length ≤ cs.length := by
  unfold cutH
  rw [List.length_map]
  exact List.length_filter_le _ _

set_option maxRecDepth 100000 in
set_option maxHeartbeats 32000000 in
theorem prefix_walk (w : World) (pk pc : Option Addr) (ck cc : Nat) (ks : List Int) (cs : List Cl) (tm : Int) (hI : HistIn w pk pc ks cs) (hl26 : cs.length ≤ 26) :
    Calls Tryd.prog 3 #[histV pk pc ck cc ks cs, .int .i64 tm] w fun e w' => TrueOf w e w' := by
  obtain ⟨V, B, hV, hB0, hb, hkV, hsV⟩ := fresh_block w (.cells #[.slice pk ks.length ck, .slice pc cs.length cc] THi)
  have HI := Lib.hid (hI.stay hkV)
  have HK := Lib.hid hkV; have HBB := Lib.hid hb
  have HLV := Lib.hid (lives_any V HI.out.tab HI.out.bit)
  have HE := Lib.hid (show (decide (cs.length ≤ 26) && decide (ks.length ≤ 8)) = true by
    rw [decide_eq_true hl26, decide_eq_true hI.k8]; rfl)
  have HLT := fun W => light_any W pk pc ck cc ks cs
  rw [HE.out] at HLT
  have HLT := Lib.hid HLT
  have HCH := Lib.hid fun W (h : HistIn W pk pc ks cs) => chkH_any W pk pc ck cc ks cs h.rd h.calls (by have := hI.k8; omega) (by omega)
  have HWD := Lib.hid fun W (h : HistIn W pk pc ks cs) => wide_any W pk pc ck cc ks cs h.calls h.c60
  have HLN := Lib.hid fun W (h : HistIn W pk pc ks cs) => linear_any W pk pc ck cc ks cs h
  obtain ⟨ch, hch⟩ : ∃ ch, chkH ks cs = ch := ⟨_, rfl⟩
  rw [hch] at HCH
  have HCHE := Lib.hid hch
  unfold histV at HLT HCH HWD HLN ⊢
  have HKS8 := Lib.hid hI.k8
  clear hb hkV hsV hch hI
  go_enter Tryd.func3, Tryd.ntmps3
  go_upto_region 1 with fail
  rw [← hV, ← hB0]
  clear hV hB0
  go_upto_region 3 with (go_at_call 9; refine HLV.out.mono ?_; rintro e w2 ⟨rfl, hk⟩; obtain ⟨e0, e1, -⟩ := blk2 (hk.blk HBB.out); have HK2 := Lib.hid hk; clear hk)
  go_wp2_with fail
  go_at_call 10
  refine (HLT.out _).mono ?_
  rintro e w3 ⟨rfl, hk⟩
  have HK3 := Lib.hid (HK2.out.trans hk)
  clear hk e0 e1
  obtain ⟨e0, e1, -⟩ := blk2 (HK3.out.blk HBB.out)
  have HCH := Lib.hid (HCH.out w3 (HI.out.stay HK3.out))
  by_cases h0 : ch = 0
  · have h0b : (ch != 0) = false := by simp [h0]
    have H0 := Lib.hid h0
    clear h0
    go_wp2_with fail
    go_at_call 11
    refine HCH.out.mono ?_
    rintro e w4 ⟨rfl, hk⟩
    have HK4 := Lib.hid (HK3.out.trans hk)
    clear hk e0 e1
    obtain ⟨e0, e1, -⟩ := blk2 (HK4.out.blk HBB.out)
    have HWD := Lib.hid (HWD.out w4 (HI.out.stay HK4.out))
    go_wp2_with fail
    go_at_call 12
    refine HWD.out.mono ?_
    rintro e w5 ⟨z, rfl, hk⟩
    have HK5 := Lib.hid (HK4.out.trans hk)
    clear hk e0 e1
    obtain ⟨e0, e1, -⟩ := blk2 (HK5.out.blk HBB.out)
    by_cases hz : 6 < z
    · have hzb : decide (6 < z) = true := decide_eq_true hz
      go_wp2_with fail
      go_ret
      exact ⟨rfl, HK.out.trans HK5.out⟩
    · have hzb : decide (6 < z) = false := decide_eq_false hz
      have HLN := Lib.hid (HLN.out w5 (HI.out.stay HK5.out))
      go_wp2_with fail
      go_at_call 13
      refine HLN.out.mono ?_
      rintro e w6 ⟨lv, rfl, hlv, hk⟩
      have HK6 := Lib.hid (HK5.out.trans hk)
      clear hk e0 e1
      cases lv with
      | false =>
        clear hlv
        go_wp2_with fail
        go_ret
        exact ⟨rfl, HK.out.trans HK6.out⟩
      | true =>
        have HLIN := Lib.hid (hlv.1 rfl)
        clear hlv hz hzb h0b
        go_wp2_with fail
        go_loopw [5, 6] (fun v5 v6 wr => ∃ (z : Int) (i : Nat), v5 = .int .i64 z ∧ 0 ≤ z ∧ v6 = .int .i64 i ∧ i ≤ cs.length ∧ KeepBut (fun _ => False) V wr) (fun _ v _ => cs.length - (intOf v).toNat)
        case atStart => exact ⟨0, 0, rfl, by decide, rfl, Nat.zero_le _, HK6.out⟩
        case round =>
          obtain ⟨z, i, rfl, hz0, rfl, hi, hk⟩ := hrel
          obtain ⟨b0, b1, -⟩ := blk2 (hk.blk HBB.out)
          have HK7 := Lib.hid hk
          by_cases hlt : i < cs.length
          · have hlti : (i : Int) < cs.length := by omega
            have hi0 : (0 : Int) ≤ i := by omega
            have hWi : IntKind.i64.wrap ((i : Int) + 1) = (i : Int) + 1 := IntWalk.i64_in _ (by omega)
            obtain ⟨g, o, hg, -, -, -, -, x4, x5, -⟩ := (HI.out.stay hk).calls i hlt
            subst hg
            have FIN := Lib.hid (fun n => hk.trans (KeepBut.drewN (fun _ => False) wr n))
            clear hk
            go_upto_region 9 with fail
            go_quiet (fail)
            go_wp2_with fail
            exact ⟨⟨_, i + 1, rfl, (by split <;> split <;> omega), by simp, by omega, FIN.out _⟩, by simp only [intOf]; omega⟩
          · have hnl : ¬ (i : Int) < cs.length := by omega
            clear hk
            by_cases hbig : 1073741824 < z
            · go_wp2_with fail
              go_ret
              exact ⟨rfl, HK.out.trans HK7.out⟩
            · have hW2 : IntKind.i64.wrap (z + 2) = z + 2 := IntWalk.i64_in _ (by omega)
              have hpr := pick_range (k := tm) (n := z + 2) (by omega)
              have HPK := Lib.hid (fun W => pick_any W tm (z + 2) (by omega) (by omega))
              obtain ⟨t, ht⟩ : ∃ t, pick tm (z + 2) = t := ⟨_, rfl⟩
              rw [ht] at HPK hpr
              have hOWN := fun W (h : HistIn W pk pc ks cs) => ownInt_any W pk ck ks h.rd (by have := h.k8; omega)
              have HOWN := Lib.hid hOWN
              clear ht hOWN
              go_upto_region 13 with (go_at_call 14; refine (HPK.out _).mono ?_; rintro e w' ⟨rfl, hw⟩; have hw := hw.symm; subst hw)
              go_wp2_with fail
              go_at_call 15
              refine (HOWN.out _ (HI.out.stay HK7.out)).mono ?_
              rintro e w8 ⟨pk', ck', rfl, hown, hk⟩
              have HOW := Lib.hid hown
              have HK8 := Lib.hid (HK7.out.trans hk)
              obtain ⟨W7, B7, hW7, hB7, hb7, hk7, hs7⟩ := fresh_block w8 (.cells #[.slice pk' ks.length ck', .slice none 0 0] THi)
              have HN7 := Lib.hid (show V.heap.size ≤ B7 by have := HK8.out.size; omega)
              have HAT := Lib.hid (show PreAt ks cs t V W7 B7 pk' ck' (.slice none 0 0) 0 from ⟨hb7, World.ownsRow_nil _ _ _ _, HK8.out.trans hk7, HN7.out, hown.rd.stay hk7, fun a ha => by have := (hown.lt a ha).2; omega⟩)
              have HSZ := Lib.hid (show W7.heap.size = B7 + 1 from hs7)
              clear hown hk hb7 hk7 hs7 b0 b1
              have HLOC := Lib.hid (show HistIn W7 pk pc ks cs from HI.out.stay HAT.out.keep)
              go_wp2_with fail
              rw [← hW7, ← hB7]
              clear hW7 hB7
              go_loopw [8] (fun v8 wr => ∃ (i : Nat) (v : Value), v8 = .int .i64 i ∧ i ≤ cs.length ∧ PreAt ks cs t V wr B7 pk' ck' v i) (fun v _ => cs.length - (intOf v).toNat)
              case atStart => exact ⟨0, _, rfl, Nat.zero_le _, HAT.out⟩
              case round =>
                clear HAT HPK HLV HLT HCH HWD
                obtain ⟨i, v, rfl, hi, hat⟩ := hrel
                obtain ⟨b0, b1, -⟩ := blk2 (hat.keep.blk HBB.out)
                have HAT := Lib.hid hat
                by_cases hlt : i < cs.length
                · have hlti : (i : Int) < cs.length := by omega
                  have hi0 : (0 : Int) ≤ i := by omega
                  have hWi : IntKind.i64.wrap ((i : Int) + 1) = (i : Int) + 1 := IntWalk.i64_in _ (by omega)
                  obtain ⟨g, o, hg, x0, x1, x2, x3, x4, x5, x6, x7⟩ := (HI.out.stay hat.keep).calls i hlt
                  subst hg
                  obtain ⟨V9, B9, hV9, hB9, hb9, hk9, hs9⟩ := fresh_block wr (.cells (nthC cs i).vals.toArray TCl)
                  have hv9 : (nthC cs i).vals.toArray = #[.int .i64 (nthC cs i).hart, .int .i64 (nthC cs i).cont, .int .i64 (nthC cs i).op, .int .i64 (nthC cs i).arg, .int .i64 (nthC cs i).beg, .int .i64 (nthC cs i).till, .int .i64 (nthC cs i).value, .int .i64 (nthC cs i).code] := rfl
                  rw [hv9] at hV9 hb9
                  clear hat hv9
                  go_upto_region 18 with fail
                  rw [← hV9, ← hB9]
                  have HNE := Lib.hid (show wr.heap.size ≤ B9 by omega)
                  clear hV9 hB9 x0 x1 x2 x3 x4 x5 x6 x7 b0 b1
                  have HK9 := Lib.hid hk9; have HB9 := Lib.hid hb9
                  obtain ⟨c0, c1, c2, c3, c4, c5, c6, c7⟩ := blk8 hb9
                  clear hk9 hb9 hs9
                  by_cases hbt : t ≤ (nthC cs i).beg
                  · have HBT := Lib.hid (show ¬ (nthC cs i).beg < t by omega)
                    go_wp2_with fail
                    exact ⟨⟨i + 1, v, by simp, by omega, pre_skip hlt HBT.out (pre_same HAT.out HK9.out)⟩, by simp only [intOf]; omega⟩
                  · have HBT := Lib.hid (show (nthC cs i).beg < t by omega)
                    by_cases htl : t ≤ (nthC cs i).till
                    · have HTR := Lib.hid (show truncC t (nthC cs i) = { nthC cs i with till := -1, value := 0, code := 0 } by unfold truncC; rw [if_pos htl])
                      have f5 : V9.frozen? ⟨B9, 5, none⟩ = false := by simp [World.frozen?, HB9.out]
                      have f6 : V9.frozen? ⟨B9, 6, none⟩ = false := by simp [World.frozen?, HB9.out]
                      have f7 : V9.frozen? ⟨B9, 7, none⟩ = false := by simp [World.frozen?, HB9.out]
                      go_upto_region 21 with fail
                      have hset := put1 (i := 7) (put1 (i := 6) (put1 (i := 5) HB9.out (.int .i64 (-1))) (.int .i64 0)) (.int .i64 0)
                      have hks : KeepBut (fun k => k = B9) V9 (((V9.setCell ⟨B9, 5, none⟩ (.int .i64 (-1))).setCell ⟨B9, 6, none⟩ (.int .i64 0)).setCell ⟨B9, 7, none⟩ (.int .i64 0)) := ((KeepBut.setCell (E := fun k => k = B9) _ _ _ rfl).trans (KeepBut.setCell (E := fun k => k = B9) _ _ _ rfl)).trans (KeepBut.setCell (E := fun k => k = B9) _ _ _ rfl)
                      obtain ⟨V10, hV10⟩ : ∃ W, (((V9.setCell ⟨B9, 5, none⟩ (.int .i64 (-1))).setCell ⟨B9, 6, none⟩ (.int .i64 0)).setCell ⟨B9, 7, none⟩ (.int .i64 0)) = W := ⟨_, rfl⟩
                      rw [hV10] at hset hks ⊢
                      have HB10 := Lib.hid (show V10.heap[B9]? = some (.cells (truncC t (nthC cs i)).vals.toArray TCl (0, 0)) by rw [HTR.out]; exact hset)
                      have HKX := Lib.hid (show KeepBut (fun _ => False) wr V10 from HK9.out.new hks fun k e => by have e : k = B9 := e; have := HNE.out; omega)
                      clear hset hks hV10 c0 c1 c2 c3 c4 c5 c6 c7 f5 f6 f7
                      have HAT10 := Lib.hid (pre_same HAT.out HKX.out)
                      obtain ⟨b0, b1, -, f1⟩ := blk2 HAT10.out.box
                      obtain ⟨c0, c1, c2, c3, c4, c5, c6, c7⟩ := blk8 HB10.out
                      have HROW := Lib.hid HAT10.out.row
                      have hlen := Nat.le_trans (cut_len (cs := cs.take i) (t := t)) (List.length_take_le i cs)
                      obtain ⟨n, hn⟩ : ∃ n, (cutH t (cs.take i)).length = n := ⟨_, rfl⟩
                      rw [hn] at hlen HROW
                      have HN := Lib.hid hn
                      have HVV := Lib.hid (show (truncC t (nthC cs i)).vals = [.int .i64 (truncC t (nthC cs i)).hart, .int .i64 (truncC t (nthC cs i)).cont, .int .i64 (truncC t (nthC cs i)).op, .int .i64 (truncC t (nthC cs i)).arg, .int .i64 (truncC t (nthC cs i)).beg, .int .i64 (truncC t (nthC cs i)).till, .int .i64 (truncC t (nthC cs i)).value, .int .i64 (truncC t (nthC cs i)).code] from rfl)
                      obtain ⟨cx, hcx⟩ : ∃ cx, truncC t (nthC cs i) = cx := ⟨_, rfl⟩
                      rw [hcx] at c0 c1 c2 c3 c4 c5 c6 c7 HVV
                      have HCX := Lib.hid hcx
                      clear hn hcx
                      obtain ⟨i0, hi, hz0, hz1, hz2⟩ := info_parts info_call
                      have HI0 := Lib.hid hi; have HZ0 := Lib.hid hz0; have HZ1 := Lib.hid hz1; have HZ2 := Lib.hid hz2
                      have HSB := Lib.hid (show B7 + 1 ≤ V10.heap.size by
                        have := (Array.getElem?_eq_some_iff.1 HAT10.out.box).1
                        omega)
                      clear hi hz0 hz1 hz2
                      go_wp2_with (at_builtin; go_loud (refine wpList_append_own _ rfl (.tmp 85) (.tmp 87) 23 rfl (B7 + 1) TCl i0 _ 8 64 calls_ty HI0.out HZ0.out HZ1.out HZ2.out rfl (by decide) v n (cellsC (cutH t (cs.take i))) rfl (HROW.out.alloc _) ⟨V10.heap.size, 0, none⟩ 1 1 cx.vals rfl rfl (cellsAt (heap_alloc_new V10 _)) (fun u hu => cellsC_one [cx] u (by simpa [cellsC] using hu)) (by unfold maxLen; omega) (by omega) (by rw [World.size_alloc]; have := HSB.out; omega) ?_)
                                   intro v' w' h1 h2 _
                                   have HST := Lib.hid (pre_step hlt HBT.out HAT10.out (by rw [HN.out, HCX.out]; exact h1) h2)
                                   obtain ⟨-, b1', -, f1'⟩ := blk2 HST.out.2
                                   obtain ⟨p', c', hv', -⟩ := Rd.of_owns h1
                                   subst hv'
                                   clear h1 h2)
                      exact ⟨⟨i + 1, _, by simp, by omega, HST.out.1⟩, by simp only [intOf]; omega⟩
                    · have HTR := Lib.hid (show truncC t (nthC cs i) = nthC cs i by unfold truncC; rw [if_neg htl])
                      go_upto_region 21 with fail
                      obtain ⟨V10, hV10⟩ : ∃ W, V9 = W := ⟨_, rfl⟩
                      have HB10 := Lib.hid (show V10.heap[B9]? = some (.cells (truncC t (nthC cs i)).vals.toArray TCl (0, 0)) by rw [HTR.out, ← hV10]; exact HB9.out)
                      have HKX := Lib.hid (show KeepBut (fun _ => False) wr V10 from by rw [← hV10]; exact HK9.out)
                      rw [hV10]
                      clear hV10 c0 c1 c2 c3 c4 c5 c6 c7
                      have HAT10 := Lib.hid (pre_same HAT.out HKX.out)
                      obtain ⟨b0, b1, -, f1⟩ := blk2 HAT10.out.box
                      obtain ⟨c0, c1, c2, c3, c4, c5, c6, c7⟩ := blk8 HB10.out
                      have HROW := Lib.hid HAT10.out.row
                      have hlen := Nat.le_trans (cut_len (cs := cs.take i) (t := t)) (List.length_take_le i cs)
                      obtain ⟨n, hn⟩ : ∃ n, (cutH t (cs.take i)).length = n := ⟨_, rfl⟩
                      rw [hn] at hlen HROW
                      have HN := Lib.hid hn
                      have HVV := Lib.hid (show (truncC t (nthC cs i)).vals = [.int .i64 (truncC t (nthC cs i)).hart, .int .i64 (truncC t (nthC cs i)).cont, .int .i64 (truncC t (nthC cs i)).op, .int .i64 (truncC t (nthC cs i)).arg, .int .i64 (truncC t (nthC cs i)).beg, .int .i64 (truncC t (nthC cs i)).till, .int .i64 (truncC t (nthC cs i)).value, .int .i64 (truncC t (nthC cs i)).code] from rfl)
                      obtain ⟨cx, hcx⟩ : ∃ cx, truncC t (nthC cs i) = cx := ⟨_, rfl⟩
                      rw [hcx] at c0 c1 c2 c3 c4 c5 c6 c7 HVV
                      have HCX := Lib.hid hcx
                      clear hn hcx
                      obtain ⟨i0, hi, hz0, hz1, hz2⟩ := info_parts info_call
                      have HI0 := Lib.hid hi; have HZ0 := Lib.hid hz0; have HZ1 := Lib.hid hz1; have HZ2 := Lib.hid hz2
                      have HSB := Lib.hid (show B7 + 1 ≤ V10.heap.size by
                        have := (Array.getElem?_eq_some_iff.1 HAT10.out.box).1
                        omega)
                      clear hi hz0 hz1 hz2
                      go_wp2_with (at_builtin; go_loud (refine wpList_append_own _ rfl (.tmp 85) (.tmp 87) 23 rfl (B7 + 1) TCl i0 _ 8 64 calls_ty HI0.out HZ0.out HZ1.out HZ2.out rfl (by decide) v n (cellsC (cutH t (cs.take i))) rfl (HROW.out.alloc _) ⟨V10.heap.size, 0, none⟩ 1 1 cx.vals rfl rfl (cellsAt (heap_alloc_new V10 _)) (fun u hu => cellsC_one [cx] u (by simpa [cellsC] using hu)) (by unfold maxLen; omega) (by omega) (by rw [World.size_alloc]; have := HSB.out; omega) ?_)
                                   intro v' w' h1 h2 _
                                   have HST := Lib.hid (pre_step hlt HBT.out HAT10.out (by rw [HN.out, HCX.out]; exact h1) h2)
                                   obtain ⟨-, b1', -, f1'⟩ := blk2 HST.out.2
                                   obtain ⟨p', c', hv', -⟩ := Rd.of_owns h1
                                   subst hv'
                                   clear h1 h2)
                      exact ⟨⟨i + 1, _, by simp, by omega, HST.out.1⟩, by simp only [intOf]; omega⟩
                · have hnl : ¬ (i : Int) < cs.length := by omega
                  have e : cs.take i = cs := List.take_of_length_le (by omega)
                  have hrow := hat.row
                  rw [e] at hrow
                  have hpr0 := hpr.1
                  have HG := Lib.hid (lin_cut hpr0 HLIN.out)
                  obtain ⟨gs, hgs⟩ : ∃ gs, cutH t cs = gs := ⟨_, rfl⟩
                  have HGL := Lib.hid (show gs.length ≤ 26 by rw [← hgs]; exact Nat.le_trans cut_len hl26)
                  have HGA := Lib.hid (show ArgsIn gs by rw [← hgs]; exact cut_args HI.out.args)
                  rw [hgs] at hrow HG
                  obtain ⟨p, c, hv, hrd, -⟩ := Rd.of_owns hrow
                  subst hv
                  have HIG := Lib.hid (show HistIn wr pk' p ks gs from ⟨hat.rdk, rowC_of_rd hrd, HKS8.out, by have := HGL.out; omega, HI.out.kin, HGA.out, (HI.out.stay hat.keep).tab, (HI.out.stay hat.keep).bit⟩)
                  have HCG := Lib.hid (chkH_any wr pk' p ck' c ks gs HIG.out.rd HIG.out.calls (by have := HKS8.out; omega) (by have := HGL.out; omega))
                  rw [show chkH ks gs = 0 from chkH_ok.2 HG.out.1] at HCG
                  have HLG := Lib.hid fun W (h : KeepBut (fun _ => False) wr W) => linear_any W pk' p ck' c ks gs (HIG.out.stay h)
                  obtain ⟨b0, b1, -⟩ := blk2 hat.box
                  have HATE := Lib.hid hat.keep
                  have HBX := Lib.hid hat.box
                  unfold histV at HCG HLG
                  clear hrow hgs hrd e hat
                  go_wp2_with fail
                  go_at_call 11
                  refine HCG.out.mono ?_
                  rintro e w9 ⟨rfl, hk⟩
                  have HKE := Lib.hid hk
                  have HLG := Lib.hid (HLG.out w9 hk)
                  obtain ⟨b0', b1', -⟩ := blk2 (hk.blk HBX.out)
                  clear hk b0 b1
                  go_wp2_with fail
                  go_at_call 13
                  refine HLG.out.mono ?_
                  rintro e w10 ⟨lv, rfl, hlv, hk⟩
                  have hlv : lv = true := hlv.2 HG.out
                  subst hlv
                  have HKE2 := Lib.hid hk
                  clear hk
                  go_wp2_with fail
                  go_ret
                  exact ⟨rfl, (HK.out.trans HATE.out).trans (HKE.out.trans HKE2.out)⟩
  · have h0b : (ch != 0) = true := by simpa using h0
    go_wp2_with (go_at_call 11; refine HCH.out.mono ?_; rintro e w4 ⟨rfl, hk⟩; have HK4 := Lib.hid (HK3.out.trans hk); clear hk)
    go_ret
    exact ⟨rfl, HK.out.trans HK4.out⟩

end Go.Proofs.YtoolpifkfgileaaDoor
