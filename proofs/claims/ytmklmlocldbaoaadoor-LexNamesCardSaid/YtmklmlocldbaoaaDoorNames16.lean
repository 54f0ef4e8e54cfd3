/-
  LexNames, walked.
-/
import Derived.Test.YtmklmlocldbaoaaDoorBack
import Derived.Test.YtmklmlocldbaoaaDoorJoins
import Derived.Laws.BytesArg
namespace Go.Proofs.YtmklmlocldbaoaaDoor
open Go Go.RowKit Own

def itsNames : List Item := [⟨⟨1, [112, 111, 111, 108], 0⟩, 1, 1, 0⟩, ⟨⟨3, [57, 50, 50, 51, 51, 55, 50, 48, 51, 54, 56, 53, 52, 55, 55, 53, 56, 48, 55], 9223372036854775807⟩, 2, 2, 0⟩, ⟨⟨4, [59], 0⟩, 2, 21, 0⟩, ⟨⟨4, [33, 61], 0⟩, 2, 22, 0⟩, ⟨⟨4, [61], 0⟩, 2, 24, 0⟩]

theorem RowG.drop {w : World} {g o : Nat} {l : List G} (n : Nat) (h : RowG w (some ⟨g, o, none⟩) l) : RowG w (some ⟨g, o + n * 5, none⟩) (l.drop n) := fun i hi => by
  have hi' : n + i < l.length := by rw [List.length_drop] at hi; omega
  obtain ⟨g', o', e, x0, x1, x2, x3, x4⟩ := h (n + i) hi'
  cases e
  have e : ∀ k, o + (n + i) * 5 + k = o + n * 5 + i * 5 + k := fun k => by omega
  have e0 : o + (n + i) * 5 = o + n * 5 + i * 5 := by omega
  rw [e0] at x0; rw [e] at x1 x2 x3 x4
  simp only [List.getElem_drop]
  exact ⟨g, _, rfl, x0, x1, x2, x3, x4⟩

theorem zeros_str {w : World} {B g n : Nat} (hown : w.ownsRow B B8 1 (.slice (some ⟨g, 0, none⟩) n n) n (madeCells (Value.int .u8 0).cells (n * 1)).toList) :
    ∃ Z : ByteArray, Z.size = n ∧ (convert BL 9 (.slice (some ⟨g, 0, none⟩) n n)).run Tryd.prog w = .ok (.string Z) w := by
  refine ⟨strOfNums (List.replicate n 0), by rw [strOfNums_size, List.length_replicate], ?_⟩
  refine run_convert_bytes_arg w BL B8 bl_ty (by kernel_rfl) g 0 n n (List.replicate n 0) List.length_replicate (fun i hi => ?_) _ bs_ty
  rw [Nat.zero_add, hown.cellAt i (by omega)]
  simp [madeCells, Value.cells, hi, List.getD, Nat.mod_one]

theorem slice_from (g n c i : Nat) (hi : i < n) (hc : n ≤ c) (w : World) :
    (Instr.slice 23 (.slice (some ⟨g, 0, none⟩) n c) (some (.int .i64 (i : Int))) none none).run Tryd.prog w = .ok (.slice (some ⟨g, i * 5, none⟩) (n - i) (c - i)) w := by
  have he : Tryd.prog.elem 23 = TT := by kernel_rfl
  have hz := Tryd.sizeOf30
  rw [run_slice_l w _ _ n c (by rw [he]; exact tt_slice) .i64 (i : Int) (by omega) (by omega), he]
  have e2 : (i : Int).toNat = i := by omega
  have e3 : ¬ c = i := by omega
  rw [hz, e2]
  simp [Result.andThen, sliced, e3, Addr.add]
  omega

set_option maxRecDepth 100000 in
set_option maxHeartbeats 16000000 in
theorem names_walk (w : World) (hT : TabS w) : Calls Tryd.prog 7 #[] w fun e w' => e = .returned (.bool true) ∧ KeepBut (fun _ => False) w w' := by
  have hA1 := Lib.hid (show ∀ w, TabS w → Calls Tryd.prog 10 #[.string ⟨#[112, 111, 111, 108, 32, 35, 32, 110, 111, 10, 9, 57, 50, 50, 51, 51, 55, 50, 48, 51, 54, 56, 53, 52, 55, 55, 53, 56, 48, 55, 59, 33, 61, 61]⟩] w fun e w' => ∃ p cap, e = .returned (.tuple #[.slice p 5 cap, .agg #[.int .i64 0, .int .i64 0, .int .i64 0]]) ∧ RowT w' p itsNames ∧ 5 ≤ cap ∧ KeepBut (fun _ => False) w w' from all_knownC (s := ⟨#[112, 111, 111, 108, 32, 35, 32, 110, 111, 10, 9, 57, 50, 50, 51, 51, 55, 50, 48, 51, 54, 56, 53, 52, 55, 55, 53, 56, 48, 55, 59, 33, 61, 61]⟩) (its := itsNames) (f := ⟨0, 0, 0⟩) (by kernel_rfl))
  have hA2 := Lib.hid (all_known (s := ⟨#[97, 98, 99, 100, 101, 102, 103, 104, 105, 106, 107, 108, 109, 110, 111, 112, 113]⟩) (its := []) (f := ⟨3, 1, 1⟩) (by kernel_rfl))
  have hA3 := Lib.hid (fun (Z : ByteArray) (hZ : Z.size = 8193) => all_known (s := Z) (its := []) (f := ⟨3, 0, 0⟩) (by
    have e : Z.data.toList.length = Z.size := by simp
    unfold allT
    rw [if_pos (by omega)]))
  have hA4 := Lib.hid (all_known (s := ⟨#[97, 10, 32, 36]⟩) (its := []) (f := ⟨9, 2, 2⟩) (by kernel_rfl))
  have HT := Lib.hid hT
  have hLv := Lib.hid (lives_any w hT)
  clear hT
  go_enter Tryd.func7, Tryd.ntmps7
  go_upto_region 3 with (go_at_call 9; refine hLv.out.mono ?_; rintro e w0 ⟨rfl, hk1⟩; have HK0 := Lib.hid hk1; clear hk1)
  have HT0 := Lib.hid (HK0.out.tabS HT.out)
  go_upto_region 4 with (go_at_call 10; refine (hA1.out _ HT0.out).mono ?_; rintro e w1 ⟨p1, cap1, rfl, hr1, hcap, hk1⟩)
  obtain ⟨V1, B1, hV1, hB1, hb1, hkb1, -⟩ := fresh_block w1 (.cells #[.int .i64 0, .int .i64 0, .int .i64 0] 26)
  rw [← hV1, ← hB1]
  have HK1 := Lib.hid (HK0.out.trans (hk1.trans hkb1))
  have HT1 := Lib.hid (HK1.out.tabS HT.out)
  have HB1 := Lib.hid hb1
  have HR := Lib.hid (hr1.stay hkb1)
  clear hV1 hB1 hb1 hkb1 hk1 hr1
  go_upto_region 5 with (go_at_call 10; refine (hA2.out _ HT1.out).mono ?_; rintro e w2 ⟨p2, cap2, rfl, hr2, -, hk2⟩)
  obtain ⟨V2, B2, hV2, hB2, hb2, hkb2, -⟩ := fresh_block w2 (.cells #[.int .i64 3, .int .i64 1, .int .i64 1] 26)
  rw [← hV2, ← hB2]
  have HK2 := Lib.hid (HK1.out.trans (hk2.trans hkb2))
  have HT2 := Lib.hid (HK2.out.tabS HT.out)
  have HB2 := Lib.hid hb2
  have hst := hk2.trans hkb2
  have HB1 := Lib.hid (hst.blk HB1.out)
  have HR := Lib.hid (HR.out.stay hst)
  clear hV2 hB2 hb2 hkb2 hk2 hr2 hst
  obtain ⟨i0, hi0, hz0, hz1, hz2⟩ := b8_info
  go_upto_region 6 with (first
    | (at_make; refine wpList_make_full _ rfl _ _ BL rfl V2.heap.size B8 i0 (.int .u8 0) 1 bl_ty hi0 hz0 hz1 .i64 .i64 8193 8193 8193 rfl rfl rfl rfl (by rw [hz2]; decide) (by unfold maxLen; decide) (Nat.le_refl _) ?_
       intro w3 hown hgr
       have HGR := Lib.hid (show KeepBut (fun _ => False) V2 w3 from ⟨hgr.os, hgr.tape, hgr.output, hgr.size, fun j hj _ => hgr.block j hj (by simp)⟩)
       obtain ⟨Z, hZs, hZc⟩ := zeros_str hown
       clear hown hgr)
    | (go_at_call 10; refine (hA3.out Z hZs _ (HGR.out.tabS HT2.out)).mono ?_; rintro e w4 ⟨p3, cap3, rfl, hr3, -, hk3⟩))
  obtain ⟨V3, B3, hV3, hB3, hb3, hkb3, -⟩ := fresh_block w4 (.cells #[.int .i64 3, .int .i64 0, .int .i64 0] 26)
  rw [← hV3, ← hB3]
  have HK3 := Lib.hid (HK2.out.trans (HGR.out.trans (hk3.trans hkb3)))
  have HT3 := Lib.hid (HK3.out.tabS HT.out)
  have HB3 := Lib.hid hb3
  have hst := HGR.out.trans (hk3.trans hkb3)
  have HB1 := Lib.hid (hst.blk HB1.out)
  have HB2 := Lib.hid (hst.blk HB2.out)
  have HR := Lib.hid (HR.out.stay hst)
  clear hV3 hB3 hb3 hkb3 hk3 hr3 hst hZc
  go_upto_region 7 with (go_at_call 10; refine (hA4.out _ HT3.out).mono ?_; rintro e w5 ⟨p4, cap4, rfl, hr4, -, hk4⟩)
  obtain ⟨V4, B4, hV4, hB4, hb4, hkb4, -⟩ := fresh_block w5 (.cells #[.int .i64 9, .int .i64 2, .int .i64 2] 26)
  rw [← hV4, ← hB4]
  have HK4 := Lib.hid (HK3.out.trans (hk4.trans hkb4))
  have HT4 := Lib.hid (HK4.out.tabS HT.out)
  have HB4 := Lib.hid hb4
  have hst := hk4.trans hkb4
  have HB1 := Lib.hid (hst.blk HB1.out)
  have HB2 := Lib.hid (hst.blk HB2.out)
  have HB3 := Lib.hid (hst.blk HB3.out)
  have HR := Lib.hid (HR.out.stay hst)
  clear hV4 hB4 hb4 hkb4 hk4 hr4 hst
  obtain ⟨a0, a1, a2, -⟩ := blk3 HB1.out
  obtain ⟨d0, d1, d2, -⟩ := blk3 HB2.out
  obtain ⟨f0, f1, f2, -⟩ := blk3 HB3.out
  obtain ⟨h0, h1, h2, -⟩ := blk3 HB4.out
  obtain ⟨g, hg, x0, -, -, -, -⟩ := HR.out 0 (by decide)
  subst hg
  have hrow := HR.out
  obtain ⟨g', hg', -, -, y2, y3, y4⟩ := hrow 1 (by decide)
  cases hg'
  obtain ⟨g', hg', -, z1, -, -, -⟩ := hrow 3 (by decide)
  cases hg'
  obtain ⟨g', hg', -, v1, -, -, -⟩ := hrow 4 (by decide)
  cases hg'
  have hSl : ∀ w' : World, (Instr.slice 23 (.slice (some ⟨g, 0, none⟩) 5 cap1) (some (.int .i64 3)) none none).run Tryd.prog w' = .ok (.slice (some ⟨g, 15, none⟩) 2 (cap1 - 3)) w' := fun w' => slice_from g 5 cap1 3 (by decide) hcap w'
  have HTX := Lib.hid (show ∀ w', KeepBut (fun _ => False) V4 w' → Calls Tryd.prog 16 #[.slice (some ⟨g, 15, none⟩) 2 (cap1 - 3)] w' fun e w'' => e = .returned (.string ⟨#[33, 61, 32, 61]⟩) ∧ KeepBut (fun _ => False) w' w'' from fun w' k =>
    text_any w' (some ⟨g, 15, none⟩) (cap1 - 3) ((itsNames.map toG).drop 3) (by
      have := RowG.drop (g := g) (o := 0) 3 ((fun i hi => by
        obtain ⟨g', o', e, r⟩ := (HR.out.stay k).toG i hi
        cases e
        exact ⟨g, 0, rfl, r⟩ : RowG w' (some ⟨g, 0, none⟩) (itsNames.map toG)))
      exact this) (by decide) (by decide))
  have HLK := Lib.hid (show ∀ w', KeepBut (fun _ => False) V4 w' → Calls Tryd.prog 12 #[.slice (some ⟨g, 0, none⟩) 5 cap1, .slice (some ⟨g, 0, none⟩) 5 cap1] w' fun e w'' => e = .returned (.bool true) ∧ KeepBut (fun _ => False) w' w'' from fun w' k => by
    have := like_any w' (some ⟨g, 0, none⟩) (some ⟨g, 0, none⟩) cap1 cap1 (itsNames.map toG) (itsNames.map toG) (HR.out.stay k).toG (HR.out.stay k).toG (by decide)
    rw [likeB_toks (a := itsNames) (b := itsNames) rfl] at this
    exact this)
  have HRES := Lib.hid (fun s (w' : World) (h : TabS w') => isReserved_any s w' h)
  have HNAM := Lib.hid (fun s (w' : World) (h : TabS w') => name_any s w' h)
  have HQ := Lib.hid (KeepBut.refl (fun _ => False) V4)
  have r1 : reservedB (⟨#[104, 97, 115]⟩ : ByteArray).data.toList = true := by kernel_rfl
  have r2 : reservedB (⟨#[97]⟩ : ByteArray).data.toList = false := by kernel_rfl
  have n1 : nameB (⟨#[97, 95, 49]⟩ : ByteArray).data.toList = true := by kernel_rfl
  have n2 : nameB (⟨#[112, 111, 112]⟩ : ByteArray).data.toList = false := by kernel_rfl
  have n3 : nameB (⟨#[49, 97]⟩ : ByteArray).data.toList = false := by kernel_rfl
  have n4 : nameB (⟨#[]⟩ : ByteArray).data.toList = false := by kernel_rfl
  have R1 := Lib.hid r1; have R2 := Lib.hid r2; have N1 := Lib.hid n1; have N2 := Lib.hid n2; have N3 := Lib.hid n3; have N4 := Lib.hid n4
  clear r1 r2 n1 n2 n3 n4 hrow hcap
  have u0 := eqF; have u1 := eqT; have u2 := guardF; have u3 := guardT
  dsimp only [itsNames, strV, List.getElem_cons_zero, List.getElem_cons_succ, List.length_cons, List.length_nil, Nat.reduceAdd, Nat.reduceMul] at x0 y2 y3 y4 z1 v1
  go_wp2_with (first
    | (go_at_call 15; refine (HRES.out _ _ (HQ.out.tabS HT4.out)).mono ?_; rintro e w6 ⟨rfl, hk6⟩; first | rw [R1.out] | rw [R2.out]
       have HQ := Lib.hid (HQ.out.trans hk6)
       clear hk6)
    | (go_at_call 14; refine (HNAM.out _ _ (HQ.out.tabS HT4.out)).mono ?_; rintro e w6 ⟨rfl, hk6⟩; first | rw [N1.out] | rw [N2.out] | rw [N3.out] | rw [N4.out]
       have HQ := Lib.hid (HQ.out.trans hk6)
       clear hk6)
    | (go_at_call 16; refine (HTX.out _ HQ.out).mono ?_; rintro e w6 ⟨rfl, hk6⟩
       have HQ := Lib.hid (HQ.out.trans hk6)
       clear hk6)
    | (go_at_call 12; refine (HLK.out _ HQ.out).mono ?_; rintro e w6 ⟨rfl, hk6⟩
       have HQ := Lib.hid (HQ.out.trans hk6)
       clear hk6))
  go_ret
  exact ⟨rfl, HK4.out.trans HQ.out⟩

end Go.Proofs.YtmklmlocldbaoaaDoor
