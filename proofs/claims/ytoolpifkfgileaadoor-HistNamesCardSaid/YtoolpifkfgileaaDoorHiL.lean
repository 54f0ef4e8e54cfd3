/-
  Package hist: Turns.
-/
import Derived.Test.YtoolpifkfgileaaDoorHiK
namespace Go.Proofs.YtoolpifkfgileaaDoor
open Go Go.RowKit Own

abbrev TTu : TypeId := 62
theorem info_turn : (Tryd.prog.info? TTu).map (fun i => (i.zero, i.size, i.bytes)) = some (some (.agg #[.int .i64 0, .bool false]), 2, 16) := by kernel_rfl
theorem turns_ty : Tryd.prog.underlying 63 = some (.slice TTu) := by kernel_rfl

def turnOf (c : Cl) : Int × Bool := (c.hart, c.till != -1 && c.code == 2)
def cellsT (l : List (Int × Bool)) : List Value := l.flatMap fun t => [.int .i64 t.1, .bool t.2]
theorem cellsT_length (l : List (Int × Bool)) : (cellsT l).length = l.length * 2 := by
  unfold cellsT
  induction l with
  | nil => rfl
  | cons x l ih => rw [List.flatMap_cons, List.length_append, ih, List.length_cons, List.length_cons, List.length_cons, List.length_nil]; omega
theorem cellsT_snoc (l : List (Int × Bool)) (x : Int × Bool) : cellsT (l ++ [x]) = cellsT l ++ [.int .i64 x.1, .bool x.2] := by simp [cellsT]
def turnsOf (cs : List Cl) (ol : List Int) : List (Int × Bool) := ol.map fun x => turnOf (nthC cs x.toNat)
theorem turnsOf_snoc {cs : List Cl} {ol : List Int} {i : Nat} (hi : i < ol.length) : turnsOf cs (ol.take (i + 1)) = turnsOf cs (ol.take i) ++ [turnOf (nthC cs (nth ol i).toNat)] := by
  unfold turnsOf
  rw [List.take_succ_eq_append_getElem hi, List.map_append, nth_eq hi]
  rfl

def TurnsDone (cs : List Cl) (ol : List Int) (w : World) (e : Ending) (w' : World) : Prop := ∃ p c, e = .returned (.slice p (List.length ol) c) ∧ Rd w' p (cellsT (turnsOf cs ol)) ∧ KeepBut (fun _ => False) w w'

set_option maxRecDepth 100000 in
set_option maxHeartbeats 16000000 in
theorem turns_any (w : World) (pk pc : Option Addr) (ck cc : Nat) (ks : List Int) (cs : List Cl) (hI : HistIn w pk pc ks cs) (po : Option Addr) (co : Nat) (ol : List Int) (hO : Rd w po (ints ol)) (hol : ol.length ≤ 16777216) (hA : AllowedP ks cs ol) :
    Calls Tryd.prog 28 #[histV pk pc ck cc ks cs, .slice po ol.length co] w fun e w' => TurnsDone cs ol w e w' := by
  obtain ⟨V, B, hV, hB, hb, hkV, hsV⟩ := fresh_block w (.cells #[.slice pk ks.length ck, .slice pc cs.length cc] THi)
  obtain ⟨b0, b1, -⟩ := blk2 hb
  have HT := Lib.hid (allowed_any V pk pc ck cc ks cs (hI.stay hkV) po co ol (hO.stay hkV) (by omega))
  have HK := Lib.hid hkV; have HB := Lib.hid hb; have HA := Lib.hid hA
  have HI := Lib.hid (hI.stay hkV); have HO := Lib.hid (hO.stay hkV)
  have HIX := Lib.hid (show ∀ i, i < ol.length → ∃ n : Nat, nth ol i = n ∧ n < cs.length by
    obtain ⟨h0, o, h1, h2⟩ := hA
    have h3 := ord_of o (chkH_ok.1 h0).2 h2
    intro i hi
    rw [← h1] at hi ⊢
    rw [natI_length] at hi
    refine ⟨o[i], ?_, h3.lt _ (List.getElem_mem hi)⟩
    rw [nth_eq (by rw [natI_length]; exact hi)]
    simp [natI])
  obtain ⟨i0, hi, hz0, hz1, hz2⟩ := info_parts info_turn
  have HI0 := Lib.hid hi; have HZ0 := Lib.hid hz0; have HZ1 := Lib.hid hz1; have HZ2 := Lib.hid hz2
  have hc60 := hI.c60
  unfold histV at HT ⊢
  clear hI hb hkV hsV hO hA hi hz0 hz1 hz2
  go_enter Tryd.func28, Tryd.ntmps28
  go_upto_region 1 with fail
  rw [← hV, ← hB]
  clear hV hB
  go_upto_region 3 with (go_at_call 19; refine HT.out.mono ?_; rintro e w2 ⟨v, rfl, hv, hk⟩; have hv2 := hv.2 HA.out; clear hv; subst hv2; have HK2 := Lib.hid hk; clear hk)
  clear b0 b1
  go_wp2_with fail
  go_loopw [5, 15] (fun v5 v15 wr => ∃ i : Nat, v15 = .int .i64 i ∧ i ≤ ol.length ∧ wr.ownsRow w2.heap.size TTu 2 v5 i (cellsT (turnsOf cs (ol.take i))) ∧ KeepBut (fun _ => False) w2 wr) (fun _ v _ => ol.length - (intOf v).toNat)
  case atStart => exact ⟨0, rfl, Nat.zero_le _, World.ownsRow_nil _ _ _ _, KeepBut.refl _ _⟩
  case round =>
    obtain ⟨i, rfl, hi, hrow, hk⟩ := hrel
    have HROW := Lib.hid hrow; have HKR := Lib.hid hk
    have hws := hk.size
    obtain ⟨b0, b1, -⟩ := blk2 ((HK2.out.trans hk).blk HB.out)
    by_cases hlt : i < ol.length
    · have hlti : (i : Int) < ol.length := by omega
      have hi0 : (0 : Int) ≤ i := by omega
      have hWi : IntKind.i64.wrap ((i : Int) + 1) = (i : Int) + 1 := IntWalk.i64_in _ (by omega)
      obtain ⟨n, hn, hnc⟩ := HIX.out i hlt
      have HN := Lib.hid hn
      obtain ⟨b, o, hp, -⟩ := HO.out.ptr (by rw [ints_length]; omega)
      subst hp
      have hc := (HO.out.stay (HK2.out.trans hk)).int i hlt
      rw [hn] at hc
      have hn0 : (0 : Int) ≤ n := by omega
      have hnci : (n : Int) < cs.length := by omega
      obtain ⟨g, o', hg, x0, x1, x2, x3, x4, x5, x6, x7⟩ := (HI.out.stay (HK2.out.trans hk)).calls n hnc
      subst hg
      obtain ⟨V9, B9, hV9, hB9, hb9, hk9, hs9⟩ := fresh_block wr (.cells (nthC cs n).vals.toArray TCl)
      have hv9 : (nthC cs n).vals.toArray = #[.int .i64 (nthC cs n).hart, .int .i64 (nthC cs n).cont, .int .i64 (nthC cs n).op, .int .i64 (nthC cs n).arg, .int .i64 (nthC cs n).beg, .int .i64 (nthC cs n).till, .int .i64 (nthC cs n).value, .int .i64 (nthC cs n).code] := rfl
      rw [hv9] at hV9 hb9
      have HK9 := Lib.hid hk9; have HB9 := Lib.hid hb9
      have HSN := Lib.hid (show turnsOf cs (ol.take (i + 1)) = turnsOf cs (ol.take i) ++ [turnOf (nthC cs n)] by rw [turnsOf_snoc hlt, HN.out]; rfl)
      have hVS : w2.heap.size ≤ V9.heap.size := by have := hk9.size; omega
      clear hrow hk hn hv9 hk9 hb9
      go_upto_region 8 with fail
      rw [← hV9, ← hB9]
      clear hV9 hB9 x0 x1 x2 x3 x4 x5 x6 x7 b0 b1 hc hs9
      obtain ⟨c0, c1, c2, c3, c4, c5, c6, c7⟩ := blk8 HB9.out
      by_cases ht : (nthC cs n).till = -1
      · have q1 : ((nthC cs n).till != -1) = false := by simp [ht]
        clear c1 c2 c3 c4 c6
        have HT1 := Lib.hid ht
        clear ht
        have HTF := Lib.hid (show turnOf (nthC cs n) = ((nthC cs n).hart, false) by unfold turnOf; simp [HT1.out])
        go_wp2_with (at_builtin; go_loud (refine wpList_append_own _ rfl (.tmp 24) (.tmp 36) 63 rfl w2.heap.size TTu i0 _ 2 16 turns_ty HI0.out HZ0.out HZ1.out HZ2.out rfl (by decide) u5 i (cellsT (turnsOf cs (ol.take i))) rfl ((row_keep HROW.out HK9.out).alloc _) ⟨V9.heap.size, 0, none⟩ 1 1 [.int .i64 (nthC cs n).hart, .bool false] rfl rfl (cellsAt (heap_alloc_new V9 _)) (by simp [Value.oneCell']) (by unfold maxLen; omega) (by omega) (by rw [World.size_alloc]; omega) ?_)
                     intro v' w' h1 h2 _
                     have H1 := Lib.hid h1; have H2 := Lib.hid h2
                     clear h1 h2)
        refine ⟨⟨i + 1, by simp, by omega, ?_, ?_⟩, by simp only [intOf]; omega⟩
        · rw [HSN.out, cellsT_snoc, HTF.out]; exact H1.out
        · exact ((HKR.out.trans HK9.out).trans (KeepBut.alloc (fun _ => False) V9 (.cells #[.int .i64 (nthC cs n).hart, .bool false] TTu))).new (KeepBut.grown (E := fun j => u5.ownBlock = some j) H2.out fun _ e => e) fun j hj => (HROW.out.lt j hj).1
      · have q1 : ((nthC cs n).till != -1) = true := by simpa using ht
        have HT1 := Lib.hid q1
        clear c1 c2 c3 c4 c6
        by_cases hd : (nthC cs n).code = 2
        · have q2 : ((nthC cs n).code == 2) = true := by simpa using hd
          have HT2 := Lib.hid q2
          clear hd
          have HTF := Lib.hid (show turnOf (nthC cs n) = ((nthC cs n).hart, true) by unfold turnOf; rw [HT1.out, HT2.out]; rfl)
          go_wp2_with (at_builtin; go_loud (refine wpList_append_own _ rfl (.tmp 24) (.tmp 36) 63 rfl w2.heap.size TTu i0 _ 2 16 turns_ty HI0.out HZ0.out HZ1.out HZ2.out rfl (by decide) u5 i (cellsT (turnsOf cs (ol.take i))) rfl ((row_keep HROW.out HK9.out).alloc _) ⟨V9.heap.size, 0, none⟩ 1 1 [.int .i64 (nthC cs n).hart, .bool true] rfl rfl (cellsAt (heap_alloc_new V9 _)) (by simp [Value.oneCell']) (by unfold maxLen; omega) (by omega) (by rw [World.size_alloc]; omega) ?_)
                       intro v' w' h1 h2 _
                       have H1 := Lib.hid h1; have H2 := Lib.hid h2
                       clear h1 h2)
          refine ⟨⟨i + 1, by simp, by omega, ?_, ?_⟩, by simp only [intOf]; omega⟩
          · rw [HSN.out, cellsT_snoc, HTF.out]; exact H1.out
          · exact ((HKR.out.trans HK9.out).trans (KeepBut.alloc (fun _ => False) V9 (.cells #[.int .i64 (nthC cs n).hart, .bool true] TTu))).new (KeepBut.grown (E := fun j => u5.ownBlock = some j) H2.out fun _ e => e) fun j hj => (HROW.out.lt j hj).1
        · have q2 : ((nthC cs n).code == 2) = false := by simpa using hd
          have HT2 := Lib.hid q2
          clear hd
          have HTF := Lib.hid (show turnOf (nthC cs n) = ((nthC cs n).hart, false) by unfold turnOf; rw [HT1.out, HT2.out]; rfl)
          go_wp2_with (at_builtin; go_loud (refine wpList_append_own _ rfl (.tmp 24) (.tmp 36) 63 rfl w2.heap.size TTu i0 _ 2 16 turns_ty HI0.out HZ0.out HZ1.out HZ2.out rfl (by decide) u5 i (cellsT (turnsOf cs (ol.take i))) rfl ((row_keep HROW.out HK9.out).alloc _) ⟨V9.heap.size, 0, none⟩ 1 1 [.int .i64 (nthC cs n).hart, .bool false] rfl rfl (cellsAt (heap_alloc_new V9 _)) (by simp [Value.oneCell']) (by unfold maxLen; omega) (by omega) (by rw [World.size_alloc]; omega) ?_)
                       intro v' w' h1 h2 _
                       have H1 := Lib.hid h1; have H2 := Lib.hid h2
                       clear h1 h2)
          refine ⟨⟨i + 1, by simp, by omega, ?_, ?_⟩, by simp only [intOf]; omega⟩
          · rw [HSN.out, cellsT_snoc, HTF.out]; exact H1.out
          · exact ((HKR.out.trans HK9.out).trans (KeepBut.alloc (fun _ => False) V9 (.cells #[.int .i64 (nthC cs n).hart, .bool false] TTu))).new (KeepBut.grown (E := fun j => u5.ownBlock = some j) H2.out fun _ e => e) fun j hj => (HROW.out.lt j hj).1
    · have hnl : ¬ (i : Int) < ol.length := by omega
      have e : i = ol.length := by omega
      subst e
      rw [List.take_length] at hrow
      obtain ⟨p, c, rfl, hrd, -⟩ := Rd.of_owns hrow
      have HRD := Lib.hid hrd
      clear hrow hrd hk
      go_wp2_with fail
      go_ret
      exact ⟨p, c, rfl, HRD.out, HK.out.trans (HK2.out.trans HKR.out)⟩

end Go.Proofs.YtoolpifkfgileaaDoor
