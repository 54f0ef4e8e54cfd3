/- Joined texts of this work: Pr4. -/
import Derived.Test.YtomlffobbkcmdaaGreatDoorJp13
import Derived.Test.YtomlffobbkcmdaaGreatDoorJp16

/-
  ParseRows: its own walk, but for lives.
-/
namespace Go.Proofs.YtomlffobbkcmdaaGreatDoor
open Go Go.RowKit Own

set_option maxRecDepth 4000 in
set_option maxHeartbeats 8000000 in
theorem rows_walk (hL : ∀ w, TabS w → TabP w → Calls Tryz.prog 8 #[] w fun e w' => e = .returned (.bool true) ∧ KeepBut (fun _ => False) w w') (w : World) (hT : TabS w) (hP : TabP w) (a b s : Int) (n0 n1 n2 : Nat) (h0 : n0 < 4294967296) (h1 : n1 < 4294967296) (h2 : n2 < 4294967296) :
    Calls Tryz.prog 4 #[.int .i64 a, .int .i64 b, .agg #[.int .u32 n0, .int .u32 n1, .int .u32 n2], .int .i64 s] w fun e w' => e = .returned (.bool true) ∧ KeepBut (fun _ => False) w w' := by
  obtain ⟨V, B6, hV, hB6, hb6, hk6, hs6⟩ := fresh_block w (.cells #[.int .u32 n0, .int .u32 n1, .int .u32 n2] 37)
  have HLV := Lib.hid (hL V (hk6.tabS hT) (hk6.tabP hP))
  have HB6 := Lib.hid hb6; have HKW0 := Lib.hid hk6; have HT := Lib.hid (hk6.tabS hT); have HN6 := Lib.hid (show B6 < V.heap.size by omega)
  clear hL hT hP hb6 hk6 hs6
  have HPA := Lib.hid (fun w => pick_any w a 13 (by decide) (by decide)); have HPB := Lib.hid (fun w => pick_any w b 13 (by decide) (by decide))
  obtain ⟨ra1, ra2⟩ := pick_range (k := a) (n := 13) (by decide)
  obtain ⟨rb1, rb2⟩ := pick_range (k := b) (n := 13) (by decide)
  obtain ⟨pa, hpa⟩ : ∃ p : Nat, (p : Int) = pick a 13 := ⟨(pick a 13).toNat, by omega⟩
  obtain ⟨pb, hpb⟩ : ∃ p : Nat, (p : Int) = pick b 13 := ⟨(pick b 13).toNat, by omega⟩
  rw [← hpa] at ra1 ra2 HPA
  rw [← hpb] at rb1 rb2 HPB
  clear hpa hpb
  have hWa : IntKind.i64.wrap (1 + (pa : Int)) = 1 + (pa : Int) := IntWalk.i64_in _ (by omega)
  have hWb : IntKind.i64.wrap (1 + (pb : Int)) = 1 + (pb : Int) := IntWalk.i64_in _ (by omega)
  go_enter Tryz.func4, Tryz.ntmps4
  go_upto_region 1 with fail
  rw [← hV, ← hB6]
  clear hV hB6
  go_wp2_with fail
  go_at_call 8
  refine HLV.out.mono ?_
  rintro e w1 ⟨rfl, hk1⟩
  have HKW1 := Lib.hid (HKW0.out.trans hk1); clear HKW0
  have HB61 := Lib.hid (hk1.blk HB6.out); have HT1 := Lib.hid (hk1.tabS HT.out); have HN61 := Lib.hid (Nat.lt_of_lt_of_le HN6.out hk1.size)
  clear hk1
  obtain ⟨V1, B9, hV1, hB9, hb9, hk9, hs9⟩ := fresh_block w1 (.cells #[.string ⟨#[42]⟩, .string ⟨#[47]⟩, .string ⟨#[37]⟩, .string ⟨#[43]⟩, .string ⟨#[45]⟩, .string ⟨#[60]⟩, .string ⟨#[60, 61]⟩, .string ⟨#[62]⟩, .string ⟨#[62, 61]⟩, .string ⟨#[61, 61]⟩, .string ⟨#[33, 61]⟩, .string ⟨#[38]⟩, .string ⟨#[124]⟩] TSt)
  have HKW2 := Lib.hid (HKW1.out.trans hk9); clear HKW1
  have HB62 := Lib.hid (hk9.blk HB61.out); have HT2 := Lib.hid (hk9.tabS HT1.out); have HB9 := Lib.hid hb9
  have HN2 := Lib.hid (show B6 < B9 ∧ B9 < V1.heap.size by have := HN61.out; omega)
  clear hb9 hk9 hs9
  go_upto_region 4 with fail
  rw [← hV1, ← hB9]
  clear hV1 hB9
  have HPA1 := Lib.hid (HPA.out V1); have HPB1 := Lib.hid (HPB.out V1)
  go_wp2_with fail
  go_at_call 12
  refine HPA1.out.mono ?_
  rintro e w2 ⟨rfl, rfl⟩
  go_wp2_with fail
  go_at_call 12
  refine HPB1.out.mono ?_
  rintro e w2 ⟨rfl, rfl⟩
  go_wp2_with fail
  have hnn : ∀ j, nn3 n0 n1 n2 j < 4294967296 := fun j => by unfold nn3; split <;> (try split) <;> assumption
  have HNN := Lib.hid hnn; clear hnn
  go_loopw [10, 11, 12] (fun v10 v11 v12 wr => ∃ (i : Nat) (cs : List (List Value)), v12 = .int .i64 i ∧ i ≤ 3 ∧ Got w2 wr v10 v11 (sg3 s) (nn3 n0 n1 n2) i cs) (fun _ _ v _ => 3 - (intOf v).toNat)
  case atStart => exact ⟨0, [], rfl, by omega, World.ownsRow_nil _ _ _ _, World.ownsRow_nil _ _ _ _, rfl, fun j h => absurd h (by simp), fun b h => by simp [Value.ownBlock] at h, fun b h => by simp [Value.ownBlock] at h, KeepBut.refl _ _⟩
  case round =>
    obtain ⟨i, cs, rfl, hi, hg⟩ := hrel
    by_cases hlt : i < 3
    · have hlti : (i : Int) < 3 := by omega
      have hi0 : (0 : Int) ≤ i := by omega
      have hWi : IntKind.i64.wrap ((i : Int) + 1) = (i : Int) + 1 := IntWalk.i64_in _ (by omega)
      have hWn : IntKind.i64.wrap ((nn3 n0 n1 n2 i : Nat) : Int) = (nn3 n0 n1 n2 i : Nat) := IntWalk.i64_in _ (by have := HNN.out i; omega)
      have c6 : wr.cell? ⟨B6, i, none⟩ = some (.int .u32 (nn3 n0 n1 n2 i : Nat)) := blk_cell (hg.keep.blk HB62.out) (by
        unfold nn3
        have : i = 0 ∨ i = 1 ∨ i = 2 := by omega
        rcases this with rfl | rfl | rfl <;> rfl)
      obtain ⟨m, hm⟩ : ∃ m, m = nn3 n0 n1 n2 i := ⟨_, rfl⟩
      rw [← hm] at hWn c6
      have HG := Lib.hid hg; have HM := Lib.hid hm
      obtain ⟨W1, B13, hW1, hB13, hb13, hk13, hs13⟩ := fresh_block wr (.cells #[.int .i64 1, .int .i64 0, .int .i64 m, .string ⟨#[]⟩, .slice none 0 0, .int .i64 0, .int .i64 0] TEx)
      have c6' := c6
      have c6w := hk13.cell c6 (fun e => e)
      have HK13 := Lib.hid hk13; have HB13 := Lib.hid hb13; have HS13 := Lib.hid (show wr.heap.size ≤ B13 by omega)
      have HD := Lib.hid (digits_any m (by rw [hm]; have := HNN.out i; omega) W1)
      have C6W := Lib.hid c6w
      clear hg hm c6' c6w hk13 hb13 hs13
      go_upto_region 11 with fail
      rw [← hW1, ← hB13]
      have c6w := C6W.out
      clear hW1 hB13 c6
      go_wp2_with fail
      go_at_call 14
      refine HD.out.mono ?_
      rintro e w4 ⟨rfl, hk4⟩
      have HB14 := Lib.hid (hk4.blk HB13.out); have HK4 := Lib.hid (HK13.out.trans hk4)
      have hW2i : IntKind.i64.wrap (2 * (i : Int)) = 2 * (i : Int) := IntWalk.i64_in _ (by omega)
      have HPK := Lib.hid (pick_any w4 (s / 2 ^ (2 * i)) 4 (by decide) (by decide))
      obtain ⟨rs1, rs2⟩ := pick_range (k := s / 2 ^ (2 * i)) (n := 4) (by decide)
      obtain ⟨pk, hpk⟩ : ∃ p, p = pick (s / 2 ^ (2 * i)) 4 := ⟨_, rfl⟩
      rw [← hpk] at HPK rs1 rs2
      have HSG := Lib.hid (show sg3 s i = pk.toNat by rw [hpk]; rfl)
      clear hk4 c6w hpk
      go_wp2_with fail
      go_at_call 12
      refine HPK.out.mono ?_
      rintro e w5 ⟨rfl, rfl⟩
      have hln : ¬ 9223372036854775807 < (digL m).length + 1 := by
        have := digL_len 10 m (by rw [HM.out]; exact Nat.lt_trans (HNN.out i) (by decide))
        omega
      obtain ⟨m0, m1, m2, m3, m4, m5, m6, f0, f1, f2, f3, f4, f5, f6⟩ := blk7 HB14.out
      by_cases e1 : pk = 1
      · subst e1
        obtain ⟨W6, B51, hW6, hB51, hb51, hk51, hs51⟩ := fresh_block w5 (.cells #[.int .i64 1, .int .i64 0, .int .i64 m, .string ⟨#[]⟩, .slice none 0 0, .int .i64 0, .int .i64 0] TEx)
        have hb15 := hk51.blk HB14.out
        have q := blk7 hb15
        rw [hW6] at q
        obtain ⟨p0, p1, p2, p3, p4, p5, p6, g0, g1, g2, g3, g4, g5, g6⟩ := q
        have hne : B13 ≠ B51 := by have := (Array.getElem?_eq_some_iff.1 HB14.out).1; omega
        obtain ⟨W7, hW7, hb17, hk17⟩ := put7 hb15 (.int .i64 4) (.int .i64 1) (.int .i64 0) (.string ⟨#[]⟩) (.slice (some ⟨B51, 0, none⟩) 1 1) (.int .i64 0) (.int .i64 0)
        have hkk := HK4.out.trans hk51
        have HKC := Lib.hid (hkk.newM hk17 fun b hb => .inr (by rw [show b = B13 from hb]; exact HS13.out))
        have HBC := Lib.hid hb17
        have hb57 := hk17.blkE hb51 fun e => hne (show B51 = B13 from e).symm
        have hs1 : sg3 s i = 1 := HSG.out
        have HX := Lib.hid (show ExAt W7 (fun b => wr.heap.size ≤ b) [.int .i64 4, .int .i64 1, .int .i64 0, .string ⟨#[]⟩, .slice (some ⟨B51, 0, none⟩) 1 1, .int .i64 0, .int .i64 0] (opdX (sg3 s i) (nn3 n0 n1 n2 i) 0 0 0 0) by
          rw [hs1, ← HM.out]
          show ExAt W7 _ _ (.mk 4 1 0 [] 0 0 [numX m 0 0])
          unfold ExAt
          refine ⟨_, 1, rfl, kids_one (vs := [.int .i64 1, .int .i64 0, .int .i64 m, .string ⟨#[]⟩, .slice none 0 0, .int .i64 0, .int .i64 0]) hb57 (by have := HK4.out.size; omega) ?_⟩
          unfold numX ExAt
          exact ⟨none, 0, rfl, by unfold KidsAt; trivial⟩)
        have hS : (⟨#[45]⟩ : ByteArray) ++ ⟨(digL m).toArray⟩ = ⟨(wordR 1 m).toArray⟩ := str_app [45] (digL m)
        have HS := Lib.hid (show (⟨(wordR 1 m).toArray⟩ : ByteArray) = ⟨(wordR (sg3 s i) (nn3 n0 n1 n2 i)).toArray⟩ by rw [hs1, ← HM.out])
        have HSA := Lib.hid hS
        clear hb15 hb17 hk17 hkk hb51 hk51 hs51 hne hb57 hs1 hS
        go_upto_region 17 with fail
        rw [← hW6, ← hB51, ← hW7, HSA.out]
        clear hW6 hB51 hW7 m0 m1 m2 m3 m4 m5 m6 f0 f1 f2 f3 f4 f5 f6 p0 p1 p2 p3 p4 p5 p6 g0 g1 g2 g3 g4 g5 g6
        obtain ⟨W8, B64, hW8, hB64, hb64, hk64, hs64⟩ := fresh_block W7 (.cells #[.int .i64 4, .int .i64 1, .int .i64 0, .string ⟨#[]⟩, .slice (some ⟨B51, 0, none⟩) 1 1, .int .i64 0, .int .i64 0] TEx)
        have HK64 := Lib.hid hk64; have HB64 := Lib.hid hb64; have HW8 := Lib.hid hW8; have HE64 := Lib.hid hB64
        have HR10 := Lib.hid (row_keep (row_keep HG.out.r10 HKC.out fun _ _ h => h) hk64 fun _ _ h => h)
        obtain ⟨m0, m1, m2, m3, m4, m5, m6, -⟩ := blk7 HBC.out
        clear hk64 hb64 hW8 hB64 hs64
        go_wp2_with (at_builtin; rw [← HW8.out, ← HE64.out]
                     refine wpList_appendV rfl (.tmp 62) (.tmp 64) 22 rfl TEx (.agg #[.int .i64 0, .int .i64 0, .int .i64 0, .string ⟨#[]⟩, .slice none 0 0, .int .i64 0, .int .i64 0]) 7 80 (by kernel_rfl) (by kernel_rfl) rfl (by decide) u10 i cs.flatten HR10.out B64 1 [.int .i64 4, .int .i64 1, .int .i64 0, .string ⟨#[]⟩, .slice (some ⟨B51, 0, none⟩) 1 1, .int .i64 0, .int .i64 0] rfl HB64.out (by simp [Value.oneCell']) (by unfold maxLen; omega) (by omega) rfl rfl ?_
                     intro v10' w8 r10 k8' o10
                     have HR8 := Lib.hid r10; have HK8 := Lib.hid k8'; have HO8 := Lib.hid o10
                     clear r10 k8' o10 m0 m1 m2 m3 m4 m5 m6
                     obtain ⟨W9, B68, hW9, hB68, hb68, hk68, hs68⟩ := fresh_block w8 (.cells #[.string ⟨(wordR 1 m).toArray⟩] TSt)
                     have HK68 := Lib.hid hk68; have HB68 := Lib.hid hb68; have HW9 := Lib.hid hW9; have HE68 := Lib.hid hB68
                     have HR11 := Lib.hid (row_keep (row_keep (row_keep (row_keep HG.out.r11 HKC.out fun _ _ h => h) HK64.out fun _ _ h => h) HK8.out fun b h h2 => (HG.out.b10 b h2).2 h) hk68 fun _ _ h => h)
                     clear hk68 hb68 hW9 hB68 hs68
                     go_wp2_with (at_builtin; rw [← HW9.out, ← HE68.out]
                                  refine wpList_appendV rfl (.tmp 66) (.tmp 68) 38 rfl TSt (.string ⟨#[]⟩) 1 16 (by kernel_rfl) (by kernel_rfl) rfl (by decide) u11 i _ HR11.out B68 1 [.string ⟨(wordR 1 m).toArray⟩] rfl HB68.out (by simp [Value.oneCell']) (by unfold maxLen; omega) (by omega) rfl rfl ?_
                                  intro v11' w9 r11 k9' o11
                                  have HR9 := Lib.hid r11; have HK9 := Lib.hid k9'; have HO9 := Lib.hid o11
                                  clear r11 k9' o11
                                  go_wp2_with fail))
        exact ⟨⟨i + 1, cs ++ [[.int .i64 4, .int .i64 1, .int .i64 0, .string ⟨#[]⟩, .slice (some ⟨B51, 0, none⟩) 1 1, .int .i64 0, .int .i64 0]], by simp, by omega, HG.out.step HKC.out HX.out HK64.out HR8.out HK8.out HO8.out HK68.out (by rw [← HS.out]; exact HR9.out) HK9.out HO9.out⟩, by simp only [intOf]; omega⟩
      · by_cases e2 : pk = 2
        · subst e2
          obtain ⟨W6, B51, hW6, hB51, hb51, hk51, hs51⟩ := fresh_block w5 (.cells #[.int .i64 1, .int .i64 0, .int .i64 m, .string ⟨#[]⟩, .slice none 0 0, .int .i64 0, .int .i64 0] TEx)
          have hb15 := hk51.blk HB14.out
          have q := blk7 hb15
          rw [hW6] at q
          obtain ⟨p0, p1, p2, p3, p4, p5, p6, g0, g1, g2, g3, g4, g5, g6⟩ := q
          have hne : B13 ≠ B51 := by have := (Array.getElem?_eq_some_iff.1 HB14.out).1; omega
          obtain ⟨W7, hW7, hb17, hk17⟩ := put7 hb15 (.int .i64 4) (.int .i64 2) (.int .i64 0) (.string ⟨#[]⟩) (.slice (some ⟨B51, 0, none⟩) 1 1) (.int .i64 0) (.int .i64 0)
          have hkk := HK4.out.trans hk51
          have HKC := Lib.hid (hkk.newM hk17 fun b hb => .inr (by rw [show b = B13 from hb]; exact HS13.out))
          have HBC := Lib.hid hb17
          have hb57 := hk17.blkE hb51 fun e => hne (show B51 = B13 from e).symm
          have hs1 : sg3 s i = 2 := HSG.out
          have HX := Lib.hid (show ExAt W7 (fun b => wr.heap.size ≤ b) [.int .i64 4, .int .i64 2, .int .i64 0, .string ⟨#[]⟩, .slice (some ⟨B51, 0, none⟩) 1 1, .int .i64 0, .int .i64 0] (opdX (sg3 s i) (nn3 n0 n1 n2 i) 0 0 0 0) by
            rw [hs1, ← HM.out]
            show ExAt W7 _ _ (.mk 4 2 0 [] 0 0 [numX m 0 0])
            unfold ExAt
            refine ⟨_, 1, rfl, kids_one (vs := [.int .i64 1, .int .i64 0, .int .i64 m, .string ⟨#[]⟩, .slice none 0 0, .int .i64 0, .int .i64 0]) hb57 (by have := HK4.out.size; omega) ?_⟩
            unfold numX ExAt
            exact ⟨none, 0, rfl, by unfold KidsAt; trivial⟩)
          have hS : (⟨#[33]⟩ : ByteArray) ++ ⟨(digL m).toArray⟩ = ⟨(wordR 2 m).toArray⟩ := str_app [33] (digL m)
          have HS := Lib.hid (show (⟨(wordR 2 m).toArray⟩ : ByteArray) = ⟨(wordR (sg3 s i) (nn3 n0 n1 n2 i)).toArray⟩ by rw [hs1, ← HM.out])
          have HSA := Lib.hid hS
          clear hb15 hb17 hk17 hkk hb51 hk51 hs51 hne hb57 hs1 hS
          go_upto_region 17 with fail
          rw [← hW6, ← hB51, ← hW7, HSA.out]
          clear hW6 hB51 hW7 m0 m1 m2 m3 m4 m5 m6 f0 f1 f2 f3 f4 f5 f6 p0 p1 p2 p3 p4 p5 p6 g0 g1 g2 g3 g4 g5 g6
          obtain ⟨W8, B64, hW8, hB64, hb64, hk64, hs64⟩ := fresh_block W7 (.cells #[.int .i64 4, .int .i64 2, .int .i64 0, .string ⟨#[]⟩, .slice (some ⟨B51, 0, none⟩) 1 1, .int .i64 0, .int .i64 0] TEx)
          have HK64 := Lib.hid hk64; have HB64 := Lib.hid hb64; have HW8 := Lib.hid hW8; have HE64 := Lib.hid hB64
          have HR10 := Lib.hid (row_keep (row_keep HG.out.r10 HKC.out fun _ _ h => h) hk64 fun _ _ h => h)
          obtain ⟨m0, m1, m2, m3, m4, m5, m6, -⟩ := blk7 HBC.out
          clear hk64 hb64 hW8 hB64 hs64
          go_wp2_with (at_builtin; rw [← HW8.out, ← HE64.out]
                       refine wpList_appendV rfl (.tmp 62) (.tmp 64) 22 rfl TEx (.agg #[.int .i64 0, .int .i64 0, .int .i64 0, .string ⟨#[]⟩, .slice none 0 0, .int .i64 0, .int .i64 0]) 7 80 (by kernel_rfl) (by kernel_rfl) rfl (by decide) u10 i cs.flatten HR10.out B64 1 [.int .i64 4, .int .i64 2, .int .i64 0, .string ⟨#[]⟩, .slice (some ⟨B51, 0, none⟩) 1 1, .int .i64 0, .int .i64 0] rfl HB64.out (by simp [Value.oneCell']) (by unfold maxLen; omega) (by omega) rfl rfl ?_
                       intro v10' w8 r10 k8' o10
                       have HR8 := Lib.hid r10; have HK8 := Lib.hid k8'; have HO8 := Lib.hid o10
                       clear r10 k8' o10 m0 m1 m2 m3 m4 m5 m6
                       obtain ⟨W9, B68, hW9, hB68, hb68, hk68, hs68⟩ := fresh_block w8 (.cells #[.string ⟨(wordR 2 m).toArray⟩] TSt)
                       have HK68 := Lib.hid hk68; have HB68 := Lib.hid hb68; have HW9 := Lib.hid hW9; have HE68 := Lib.hid hB68
                       have HR11 := Lib.hid (row_keep (row_keep (row_keep (row_keep HG.out.r11 HKC.out fun _ _ h => h) HK64.out fun _ _ h => h) HK8.out fun b h h2 => (HG.out.b10 b h2).2 h) hk68 fun _ _ h => h)
                       clear hk68 hb68 hW9 hB68 hs68
                       go_wp2_with (at_builtin; rw [← HW9.out, ← HE68.out]
                                    refine wpList_appendV rfl (.tmp 66) (.tmp 68) 38 rfl TSt (.string ⟨#[]⟩) 1 16 (by kernel_rfl) (by kernel_rfl) rfl (by decide) u11 i _ HR11.out B68 1 [.string ⟨(wordR 2 m).toArray⟩] rfl HB68.out (by simp [Value.oneCell']) (by unfold maxLen; omega) (by omega) rfl rfl ?_
                                    intro v11' w9 r11 k9' o11
                                    have HR9 := Lib.hid r11; have HK9 := Lib.hid k9'; have HO9 := Lib.hid o11
                                    clear r11 k9' o11
                                    go_wp2_with fail))
          exact ⟨⟨i + 1, cs ++ [[.int .i64 4, .int .i64 2, .int .i64 0, .string ⟨#[]⟩, .slice (some ⟨B51, 0, none⟩) 1 1, .int .i64 0, .int .i64 0]], by simp, by omega, HG.out.step HKC.out HX.out HK64.out HR8.out HK8.out HO8.out HK68.out (by rw [← HS.out]; exact HR9.out) HK9.out HO9.out⟩, by simp only [intOf]; omega⟩
        · skip
          have HBC := Lib.hid HB14.out; have HKC := Lib.hid HK4.out
          have h1 : ¬ sg3 s i = 1 := by rw [HSG.out]; omega
          have h2 : ¬ sg3 s i = 2 := by rw [HSG.out]; omega
          have HX := Lib.hid (show ExAt w5 (fun b => wr.heap.size ≤ b) [.int .i64 1, .int .i64 0, .int .i64 m, .string ⟨#[]⟩, .slice none 0 0, .int .i64 0, .int .i64 0] (opdX (sg3 s i) (nn3 n0 n1 n2 i) 0 0 0 0) by
            rw [← HM.out]
            unfold opdX
            rw [if_neg h1, if_neg h2]
            unfold numX ExAt
            exact ⟨none, 0, rfl, by unfold KidsAt; trivial⟩)
          have HS := Lib.hid (show (⟨(digL m).toArray⟩ : ByteArray) = ⟨(wordR (sg3 s i) (nn3 n0 n1 n2 i)).toArray⟩ by
            rw [← HM.out]
            unfold wordR sgnL
            rw [if_neg h1, if_neg h2, List.nil_append])
          clear h1 h2
          go_upto_region 17 with fail
          clear m0 m1 m2 m3 m4 m5 m6 f0 f1 f2 f3 f4 f5 f6
          obtain ⟨W8, B64, hW8, hB64, hb64, hk64, hs64⟩ := fresh_block w5 (.cells #[.int .i64 1, .int .i64 0, .int .i64 m, .string ⟨#[]⟩, .slice none 0 0, .int .i64 0, .int .i64 0] TEx)
          have HK64 := Lib.hid hk64; have HB64 := Lib.hid hb64; have HW8 := Lib.hid hW8; have HE64 := Lib.hid hB64
          have HR10 := Lib.hid (row_keep (row_keep HG.out.r10 HKC.out fun _ _ h => h) hk64 fun _ _ h => h)
          obtain ⟨m0, m1, m2, m3, m4, m5, m6, -⟩ := blk7 HBC.out
          clear hk64 hb64 hW8 hB64 hs64
          go_wp2_with (at_builtin; rw [← HW8.out, ← HE64.out]
                       refine wpList_appendV rfl (.tmp 62) (.tmp 64) 22 rfl TEx (.agg #[.int .i64 0, .int .i64 0, .int .i64 0, .string ⟨#[]⟩, .slice none 0 0, .int .i64 0, .int .i64 0]) 7 80 (by kernel_rfl) (by kernel_rfl) rfl (by decide) u10 i cs.flatten HR10.out B64 1 [.int .i64 1, .int .i64 0, .int .i64 m, .string ⟨#[]⟩, .slice none 0 0, .int .i64 0, .int .i64 0] rfl HB64.out (by simp [Value.oneCell']) (by unfold maxLen; omega) (by omega) rfl rfl ?_
                       intro v10' w8 r10 k8' o10
                       have HR8 := Lib.hid r10; have HK8 := Lib.hid k8'; have HO8 := Lib.hid o10
                       clear r10 k8' o10 m0 m1 m2 m3 m4 m5 m6
                       obtain ⟨W9, B68, hW9, hB68, hb68, hk68, hs68⟩ := fresh_block w8 (.cells #[.string ⟨(digL m).toArray⟩] TSt)
                       have HK68 := Lib.hid hk68; have HB68 := Lib.hid hb68; have HW9 := Lib.hid hW9; have HE68 := Lib.hid hB68
                       have HR11 := Lib.hid (row_keep (row_keep (row_keep (row_keep HG.out.r11 HKC.out fun _ _ h => h) HK64.out fun _ _ h => h) HK8.out fun b h h2 => (HG.out.b10 b h2).2 h) hk68 fun _ _ h => h)
                       clear hk68 hb68 hW9 hB68 hs68
                       go_wp2_with (at_builtin; rw [← HW9.out, ← HE68.out]
                                    refine wpList_appendV rfl (.tmp 66) (.tmp 68) 38 rfl TSt (.string ⟨#[]⟩) 1 16 (by kernel_rfl) (by kernel_rfl) rfl (by decide) u11 i _ HR11.out B68 1 [.string ⟨(digL m).toArray⟩] rfl HB68.out (by simp [Value.oneCell']) (by unfold maxLen; omega) (by omega) rfl rfl ?_
                                    intro v11' w9 r11 k9' o11
                                    have HR9 := Lib.hid r11; have HK9 := Lib.hid k9'; have HO9 := Lib.hid o11
                                    clear r11 k9' o11
                                    go_wp2_with fail))
          exact ⟨⟨i + 1, cs ++ [[.int .i64 1, .int .i64 0, .int .i64 m, .string ⟨#[]⟩, .slice none 0 0, .int .i64 0, .int .i64 0]], by simp, by omega, HG.out.step HKC.out HX.out HK64.out HR8.out HK8.out HO8.out HK68.out (by rw [← HS.out]; exact HR9.out) HK9.out HO9.out⟩, by simp only [intOf]; omega⟩
    · have hnl : ¬ (i : Int) < 3 := by omega
      have e : i = 3 := by omega
      subst e
      obtain ⟨G, cG, H, cH, x0, x1, x2, rfl, rfl, hN, hC, y0, y1, y2, e0, e1, e2, t0, t1, t2⟩ := hg.three
      have hkg := hg.keep
      have HG := Lib.hid hg; have HN := Lib.hid hN; have HY := Lib.hid (And.intro y0 (And.intro y1 y2)); have HE := Lib.hid (And.intro e0 (And.intro e1 e2))
      have hpa1 : IntKind.i64.wrap (1 + (pa : Int) - 1) = (pa : Int) := by rw [IntWalk.i64_in _ (by omega)]; omega
      have hpb1 : IntKind.i64.wrap (1 + (pb : Int) - 1) = (pb : Int) := by rw [IntWalk.i64_in _ (by omega)]; omega
      have hb9 := hkg.blk HB9.out
      have key : ∀ k : Nat, (k : Int) < 13 → wr.cell? ⟨B9, k, none⟩ = some (.string ⟨(signL.getD (k + 1) []).toArray⟩) := fun k hk => blk_cell hb9 (by
        have : k = 0 ∨ k = 1 ∨ k = 2 ∨ k = 3 ∨ k = 4 ∨ k = 5 ∨ k = 6 ∨ k = 7 ∨ k = 8 ∨ k = 9 ∨ k = 10 ∨ k = 11 ∨ k = 12 := by omega
        rcases this with rfl | rfl | rfl | rfl | rfl | rfl | rfl | rfl | rfl | rfl | rfl | rfl | rfl <;> rfl)
      have ca := key pa ra2
      have cb := key pb rb2
      have l0 := wordR_len (sg3 s 0) (nn3 n0 n1 n2 0) (Nat.lt_trans (HNN.out 0) (by decide))
      have l1 := wordR_len (sg3 s 1) (nn3 n0 n1 n2 1) (Nat.lt_trans (HNN.out 1) (by decide))
      have l2 := wordR_len (sg3 s 2) (nn3 n0 n1 n2 2) (Nat.lt_trans (HNN.out 2) (by decide))
      have la := sign_len (op := pa + 1) (by omega)
      have lb := sign_len (op := pb + 1) (by omega)
      have HEX := Lib.hid (fun (v : World) (hv : TabS v) => rows_expr (a := pa + 1) (b := pb + 1) (s0 := sg3 s 0) (s1 := sg3 s 1) (s2 := sg3 s 2) (n0 := nn3 n0 n1 n2 0) (n1 := nn3 n0 n1 n2 1) (n2 := nn3 n0 n1 n2 2) (by omega) (by omega) (by omega) (by omega) (HNN.out 0) (HNN.out 1) (HNN.out 2) v hv)
      have HTX := Lib.hid (show textR (pa + 1) (pb + 1) (sg3 s 0) (sg3 s 1) (sg3 s 2) (nn3 n0 n1 n2 0) (nn3 n0 n1 n2 1) (nn3 n0 n1 n2 2) = wordR (sg3 s 0) (nn3 n0 n1 n2 0) ++ (signL.getD (pa + 1) [] ++ (wordR (sg3 s 1) (nn3 n0 n1 n2 1) ++ (32 :: (signL.getD (pb + 1) [] ++ wordR (sg3 s 2) (nn3 n0 n1 n2 2))))) from rfl)
      obtain ⟨T0, hT0⟩ : ∃ T, wordR (sg3 s 0) (nn3 n0 n1 n2 0) = T := ⟨_, rfl⟩
      obtain ⟨T1, hT1⟩ : ∃ T, wordR (sg3 s 1) (nn3 n0 n1 n2 1) = T := ⟨_, rfl⟩
      obtain ⟨T2, hT2⟩ : ∃ T, wordR (sg3 s 2) (nn3 n0 n1 n2 2) = T := ⟨_, rfl⟩
      obtain ⟨Ta, hTa⟩ : ∃ T, signL.getD (pa + 1) [] = T := ⟨_, rfl⟩
      obtain ⟨Tb, hTb⟩ : ∃ T, signL.getD (pb + 1) [] = T := ⟨_, rfl⟩
      rw [hT0] at t0 l0 HTX
      rw [hT1] at t1 l1 HTX
      rw [hT2] at t2 l2 HTX
      rw [hTa] at ca la HTX
      rw [hTb] at cb lb HTX
      have HTr := Lib.hid (hkg.tabS HT2.out)
      clear hg hN y0 y1 y2 e0 e1 e2 hkg key hb9 hT0 hT1 hT2 hTa hTb
      go_upto_region 18 with fail
      have z0 := fun w' (h : KeepBut (fun _ => False) wr.drew w') => keep_cell' ((KeepBut.drew _ wr).trans h) t0 (fun e => e)
      have z1 := fun w' (h : KeepBut (fun _ => False) wr.drew w') => keep_cell' ((KeepBut.drew _ wr).trans h) t1 (fun e => e)
      have z2 := fun w' (h : KeepBut (fun _ => False) wr.drew w') => keep_cell' ((KeepBut.drew _ wr).trans h) t2 (fun e => e)
      have za := fun w' (h : KeepBut (fun _ => False) wr.drew w') => keep_cell' ((KeepBut.drew _ wr).trans h) ca (fun e => e)
      have zb := fun w' (h : KeepBut (fun _ => False) wr.drew w') => keep_cell' ((KeepBut.drew _ wr).trans h) cb (fun e => e)
      refine wp_own0 (by kernel_rfl) (fun i => [[], [0], [0, 1], [], [], [4], [3, 4, 5], [3, 4, 5, 6], [0, 1, 2, 3, 4, 5, 6, 7], [], [9], [9, 10], [0, 1, 2, 3, 4, 5, 6, 7, 8, 9, 10, 11], [0, 1, 2, 3, 4, 5, 6, 7, 8, 9, 10, 11, 12], [], [], [15], [14, 15, 16], [14, 15, 16, 17], [0, 1, 2, 3, 4, 5, 6, 7, 8, 9, 10, 11, 12, 13, 14, 15, 16, 17, 18], [], [20], [20, 21], [0, 1, 2, 3, 4, 5, 6, 7, 8, 9, 10, 11, 12, 13, 14, 15, 16, 17, 18, 19, 20, 21, 22], [0, 1, 2, 3, 4, 5, 6, 7, 8, 9, 10, 11, 12, 13, 14, 15, 16, 17, 18, 19, 20, 21, 22, 23], [0, 1, 2, 3, 4, 5, 6, 7, 8, 9, 10, 11, 12, 13, 14, 15, 16, 17, 18, 19, 20, 21, 22, 23, 24], [0, 1, 2, 3, 4, 5, 6, 7, 8, 9, 10, 11, 12, 13, 14, 15, 16, 17, 18, 19, 20, 21, 22, 23, 24, 25], [0, 1, 2, 3, 4, 5, 6, 7, 8, 9, 10, 11, 12, 13, 14, 15, 16, 17, 18, 19, 20, 21, 22, 23, 24, 25], [], [], [0, 1, 2, 3, 4, 5, 6, 7, 8, 9, 10, 11, 12, 13, 14, 15, 16, 17, 18, 19, 20, 21, 22, 23, 24, 25, 26, 28, 29], [0, 1, 2, 3, 4, 5, 6, 7, 8, 9, 10, 11, 12, 13, 14, 15, 16, 17, 18, 19, 20, 21, 22, 23, 24, 25, 26, 27, 28, 29, 30]].getD i []) (fun i => if i = 30 then [28] else if i = 31 then [29] else []) (fun i => if i = 30 then [28] else if i = 31 then [29] else []) [24, 30, 31] (by kernel_rfl)
        (fun i => if i = 24 then some (sEx (lawX (pa + 1) (pb + 1) (opdX (sg3 s 0) (nn3 n0 n1 n2 0) 0 0 0 0) (opdX (sg3 s 1) (nn3 n0 n1 n2 1) 0 0 0 0) (opdX (sg3 s 2) (nn3 n0 n1 n2 2) 0 0 0 0))) else if i = 28 then some (sNew (.cells #[.int .i64 0, .int .i64 0, .int .i64 0, .string ⟨#[]⟩, .slice none 0 0, .int .i64 0, .int .i64 0] TEx)) else if i = 29 then some (sNew (.cells #[.int .i64 0, .int .i64 0, .int .i64 0] TFa)) else if i = 30 then some (sPutA TEx) else if i = 31 then some (sPutA TFa) else none) ?_
      have k1 : ¬ 9223372036854775807 < T0.length + Ta.length := by omega
      have k2 : ¬ 9223372036854775807 < T0.length + Ta.length + T1.length := by omega
      have k3 : ¬ 9223372036854775807 < T0.length + (Ta.length + T1.length) + 1 := by omega
      have k4 : ¬ 9223372036854775807 < T0.length + (Ta.length + (T1.length + 1)) + Tb.length := by omega
      have k5 : ¬ 9223372036854775807 < T0.length + (Ta.length + (T1.length + (Tb.length + 1))) + T2.length := by omega
      have HEX2 := Lib.hid (by have h := HEX.out; rw [HTX.out] at h; exact h)
      apply lex_quiet rfl rfl
      · intro w' hk; have c0 := z0 w' hk; have c1 := z1 w' hk; have c2 := z2 w' hk; have c3 := za w' hk; have c4 := zb w' hk; go_simp; with_reducible rfl
      simp only [Act.put, List.setIfInBounds_toArray, List.set_cons_zero, List.set_cons_succ]
      apply lex_quiet rfl rfl
      · intro w' hk; have c0 := z0 w' hk; have c1 := z1 w' hk; have c2 := z2 w' hk; have c3 := za w' hk; have c4 := zb w' hk; go_simp; with_reducible rfl
      simp only [Act.put, List.setIfInBounds_toArray, List.set_cons_zero, List.set_cons_succ]
      apply lex_quiet rfl rfl
      · intro w' hk; have c0 := z0 w' hk; have c1 := z1 w' hk; have c2 := z2 w' hk; have c3 := za w' hk; have c4 := zb w' hk; go_simp; with_reducible rfl
      simp only [Act.put, List.setIfInBounds_toArray, List.set_cons_zero, List.set_cons_succ]
      apply lex_quiet rfl rfl
      · intro w' hk; have c0 := z0 w' hk; have c1 := z1 w' hk; have c2 := z2 w' hk; have c3 := za w' hk; have c4 := zb w' hk; go_simp; with_reducible rfl
      simp only [Act.put, List.setIfInBounds_toArray, List.set_cons_zero, List.set_cons_succ]
      apply lex_quiet rfl rfl
      · intro w' hk; have c0 := z0 w' hk; have c1 := z1 w' hk; have c2 := z2 w' hk; have c3 := za w' hk; have c4 := zb w' hk; go_simp; with_reducible rfl
      simp only [Act.put, List.setIfInBounds_toArray, List.set_cons_zero, List.set_cons_succ]
      apply lex_quiet rfl rfl
      · intro w' hk; have c0 := z0 w' hk; have c1 := z1 w' hk; have c2 := z2 w' hk; have c3 := za w' hk; have c4 := zb w' hk; go_simp; with_reducible rfl
      simp only [Act.put, List.setIfInBounds_toArray, List.set_cons_zero, List.set_cons_succ]
      apply lex_quiet rfl rfl
      · intro w' hk; have c0 := z0 w' hk; have c1 := z1 w' hk; have c2 := z2 w' hk; have c3 := za w' hk; have c4 := zb w' hk; go_simp; with_reducible rfl
      simp only [Act.put, List.setIfInBounds_toArray, List.set_cons_zero, List.set_cons_succ]
      apply lex_quiet rfl rfl
      · intro w' hk; have c0 := z0 w' hk; have c1 := z1 w' hk; have c2 := z2 w' hk; have c3 := za w' hk; have c4 := zb w' hk; go_simp; with_reducible rfl
      simp only [Act.put, List.setIfInBounds_toArray, List.set_cons_zero, List.set_cons_succ]
      apply lex_quiet rfl rfl
      · intro w' hk; have c0 := z0 w' hk; have c1 := z1 w' hk; have c2 := z2 w' hk; have c3 := za w' hk; have c4 := zb w' hk; go_simp; with_reducible rfl
      simp only [Act.put, List.setIfInBounds_toArray, List.set_cons_zero, List.set_cons_succ, str_app]
      apply lex_quiet rfl rfl
      · intro w' hk; have c0 := z0 w' hk; have c1 := z1 w' hk; have c2 := z2 w' hk; have c3 := za w' hk; have c4 := zb w' hk; go_simp; with_reducible rfl
      simp only [Act.put, List.setIfInBounds_toArray, List.set_cons_zero, List.set_cons_succ]
      apply lex_quiet rfl rfl
      · intro w' hk; have c0 := z0 w' hk; have c1 := z1 w' hk; have c2 := z2 w' hk; have c3 := za w' hk; have c4 := zb w' hk; go_simp; with_reducible rfl
      simp only [Act.put, List.setIfInBounds_toArray, List.set_cons_zero, List.set_cons_succ]
      apply lex_quiet rfl rfl
      · intro w' hk; have c0 := z0 w' hk; have c1 := z1 w' hk; have c2 := z2 w' hk; have c3 := za w' hk; have c4 := zb w' hk; go_simp; with_reducible rfl
      simp only [Act.put, List.setIfInBounds_toArray, List.set_cons_zero, List.set_cons_succ]
      apply lex_quiet rfl rfl
      · intro w' hk; have c0 := z0 w' hk; have c1 := z1 w' hk; have c2 := z2 w' hk; have c3 := za w' hk; have c4 := zb w' hk; go_simp; with_reducible rfl
      simp only [Act.put, List.setIfInBounds_toArray, List.set_cons_zero, List.set_cons_succ, str_app]
      apply lex_quiet rfl rfl
      · intro w' hk; have c0 := z0 w' hk; have c1 := z1 w' hk; have c2 := z2 w' hk; have c3 := za w' hk; have c4 := zb w' hk; go_simp; with_reducible rfl
      simp only [Act.put, List.setIfInBounds_toArray, List.set_cons_zero, List.set_cons_succ, str_app]
      apply lex_quiet rfl rfl
      · intro w' hk; have c0 := z0 w' hk; have c1 := z1 w' hk; have c2 := z2 w' hk; have c3 := za w' hk; have c4 := zb w' hk; go_simp; with_reducible rfl
      simp only [Act.put, List.setIfInBounds_toArray, List.set_cons_zero, List.set_cons_succ]
      apply lex_quiet rfl rfl
      · intro w' hk; have c0 := z0 w' hk; have c1 := z1 w' hk; have c2 := z2 w' hk; have c3 := za w' hk; have c4 := zb w' hk; go_simp; with_reducible rfl
      simp only [Act.put, List.setIfInBounds_toArray, List.set_cons_zero, List.set_cons_succ]
      apply lex_quiet rfl rfl
      · intro w' hk; have c0 := z0 w' hk; have c1 := z1 w' hk; have c2 := z2 w' hk; have c3 := za w' hk; have c4 := zb w' hk; go_simp; with_reducible rfl
      simp only [Act.put, List.setIfInBounds_toArray, List.set_cons_zero, List.set_cons_succ]
      apply lex_quiet rfl rfl
      · intro w' hk; have c0 := z0 w' hk; have c1 := z1 w' hk; have c2 := z2 w' hk; have c3 := za w' hk; have c4 := zb w' hk; go_simp; with_reducible rfl
      simp only [Act.put, List.setIfInBounds_toArray, List.set_cons_zero, List.set_cons_succ]
      apply lex_quiet rfl rfl
      · intro w' hk; have c0 := z0 w' hk; have c1 := z1 w' hk; have c2 := z2 w' hk; have c3 := za w' hk; have c4 := zb w' hk; go_simp; with_reducible rfl
      simp only [Act.put, List.setIfInBounds_toArray, List.set_cons_zero, List.set_cons_succ]
      apply lex_quiet rfl rfl
      · intro w' hk; have c0 := z0 w' hk; have c1 := z1 w' hk; have c2 := z2 w' hk; have c3 := za w' hk; have c4 := zb w' hk; go_simp; with_reducible rfl
      simp only [Act.put, List.setIfInBounds_toArray, List.set_cons_zero, List.set_cons_succ, str_app]
      apply lex_quiet rfl rfl
      · intro w' hk; have c0 := z0 w' hk; have c1 := z1 w' hk; have c2 := z2 w' hk; have c3 := za w' hk; have c4 := zb w' hk; go_simp; with_reducible rfl
      simp only [Act.put, List.setIfInBounds_toArray, List.set_cons_zero, List.set_cons_succ]
      apply lex_quiet rfl rfl
      · intro w' hk; have c0 := z0 w' hk; have c1 := z1 w' hk; have c2 := z2 w' hk; have c3 := za w' hk; have c4 := zb w' hk; go_simp; with_reducible rfl
      simp only [Act.put, List.setIfInBounds_toArray, List.set_cons_zero, List.set_cons_succ]
      apply lex_quiet rfl rfl
      · intro w' hk; have c0 := z0 w' hk; have c1 := z1 w' hk; have c2 := z2 w' hk; have c3 := za w' hk; have c4 := zb w' hk; go_simp; with_reducible rfl
      simp only [Act.put, List.setIfInBounds_toArray, List.set_cons_zero, List.set_cons_succ]
      apply lex_quiet rfl rfl
      · intro w' hk; have c0 := z0 w' hk; have c1 := z1 w' hk; have c2 := z2 w' hk; have c3 := za w' hk; have c4 := zb w' hk; go_simp; with_reducible rfl
      simp only [Act.put, List.setIfInBounds_toArray, List.set_cons_zero, List.set_cons_succ, str_app]
      refine lex_loud rfl rfl (loud_expr HEX2.out (fun w => by go_simp <;> rfl) fun w' hk => ((KeepBut.drew _ wr).trans hk).tabS HTr.out) fun g1 hg1 => ?_
      obtain ⟨vs, hv1, hv2, hv3⟩ := hg1
      simp only [sEx, sNew, Act.put, List.setIfInBounds_toArray, List.set_cons_zero, List.set_cons_succ]
      apply lex_quiet rfl rfl
      · intro w' hk; go_simp; with_reducible rfl
      simp only [Act.put, List.setIfInBounds_toArray, List.set_cons_zero, List.set_cons_succ]
      apply lex_quiet rfl rfl
      · intro w' hk; go_simp; with_reducible rfl
      simp only [Act.put, List.setIfInBounds_toArray, List.set_cons_zero, List.set_cons_succ]
      apply lex_quiet rfl rfl
      · intro w' hk; go_simp; with_reducible rfl
      simp only [Act.put, List.setIfInBounds_toArray, List.set_cons_zero, List.set_cons_succ]
      refine lex_loud rfl rfl (loud_alloc _ fun w => by go_simp) fun g2 _ => ?_
      simp only [Act.put, List.setIfInBounds_toArray, List.set_cons_zero, List.set_cons_succ]
      refine lex_loud rfl rfl (loud_alloc _ fun w => by go_simp) fun g3 _ => ?_
      simp only [Act.put, List.setIfInBounds_toArray, List.set_cons_zero, List.set_cons_succ]
      rw [hv1]
      refine lex_loud rfl rfl (loud_putA g2.b TEx TEx vs.toArray _ (.tmp 15) (.tmp 96) rfl rfl rfl 28 (by decide) (by decide) (fun w h => h) rfl (by simp [hv2]) (by rw [List.size_toArray, hv2]; kernel_rfl) hv3) fun g4 _ => ?_
      simp only [sPutA, Act.put]
      refine lex_loud rfl rfl (loud_putA g3.b TFa TFa #[.int .i64 0, .int .i64 0, .int .i64 0] _ (.tmp 16) (.tmp 97) rfl rfl rfl 29 (by decide) (by decide) (fun w h => h) rfl rfl (by kernel_rfl) (by simp [Value.oneCell'])) fun g5 _ => ?_
      simp only [Act.put]
      refine lex_nil ?_
      intro w18 hk18 hF hd
      have f24 : ∃ (vs' : List Value) (x : Ex), Value.agg vs.toArray = .agg vs'.toArray ∧ ExAt w18 (fun b => g1.b ≤ b ∧ b < g1.d) vs' x ∧ sameE x (lawX (pa + 1) (pb + 1) (opdX (sg3 s 0) (nn3 n0 n1 n2 0) 0 0 0 0) (opdX (sg3 s 1) (nn3 n0 n1 n2 1) 0 0 0 0) (opdX (sg3 s 2) (nn3 n0 n1 n2 2) 0 0 0 0)) = true := (hF 24 (by decide)).1
      have f30 : w18.heap[g2.b]? = some (.cells vs.toArray TEx (0, 0)) := (hF 30 (by decide)).1 _ _ (put_args0 rfl rfl) (put_args rfl rfl)
      have f31 : w18.heap[g3.b]? = some (.cells #[.int .i64 0, .int .i64 0, .int .i64 0] TFa (0, 0)) := (hF 31 (by decide)).1 _ _ (put_args0 rfl rfl) (put_args rfl rfl)
      have b30 : wr.heap.size ≤ g2.b := ((hF 30 (by decide)).2 g2.b (put_args0 rfl rfl)).2.resolve_right fun h => h
      have b31 : wr.heap.size ≤ g3.b := ((hF 31 (by decide)).2 g3.b (put_args0 rfl rfl)).2.resolve_right fun h => h
      obtain ⟨vs', x, hvv, hex, hsame⟩ := f24
      have hvs : vs' = vs := by have := Value.agg.inj hvv; simpa using this.symm
      subst hvs
      have hk' : KeepBut (fun _ => False) wr w18 := (KeepBut.drew _ wr).trans hk18
      have HK18 := Lib.hid hk'; have HF30 := Lib.hid f30; have HF31 := Lib.hid f31; have HEXX := Lib.hid hex; have HSA := Lib.hid hsame; have HBB := Lib.hid (And.intro b30 b31)
      obtain ⟨N2, hN2⟩ : ∃ n, g2.b = n := ⟨_, rfl⟩
      obtain ⟨N3, hN3⟩ : ∃ n, g3.b = n := ⟨_, rfl⟩
      rw [hN2] at HF30 HBB
      rw [hN3] at HF31 HBB
      rw [hN2, hN3]
      clear hF hd hk18 hk' f30 f31 hex hsame b30 b31 hvv z0 z1 z2 za zb k1 k2 k3 k4 k5 t0 t1 t2 ca cb hN2 hN3
      go_upto_region 19 with fail
      obtain ⟨y0, y1, y2⟩ := HY.out
      obtain ⟨e0, e1, e2⟩ := HE.out
      obtain ⟨k0, o0, m0, S0, p0, q0, r0, u0, v0, rfl⟩ := ex_form e0
      obtain ⟨k1, o1, m1, S1, p1, q1, r1, u1, v1, rfl⟩ := ex_form e1
      obtain ⟨k2, o2, m2, S2, p2, q2, r2, u2, v2, rfl⟩ := ex_form e2
      have c0 := fun w' (h : KeepBut (fun _ => False) w18.drew w') j (v : Value) (hj : ([.int .i64 k0, .int .i64 o0, .int .i64 m0, .string S0, .slice p0 q0 r0, .int .i64 u0, .int .i64 v0] : List Value)[j]? = some v) => (HK18.out.trans ((KeepBut.drew _ w18).trans h)).cell (y0 j v hj) (fun e => e)
      have c1 := fun w' (h : KeepBut (fun _ => False) w18.drew w') j (v : Value) (hj : ([.int .i64 k1, .int .i64 o1, .int .i64 m1, .string S1, .slice p1 q1 r1, .int .i64 u1, .int .i64 v1] : List Value)[j]? = some v) => (HK18.out.trans ((KeepBut.drew _ w18).trans h)).cell (y1 j v hj) (fun e => e)
      have c2 := fun w' (h : KeepBut (fun _ => False) w18.drew w') j (v : Value) (hj : ([.int .i64 k2, .int .i64 o2, .int .i64 m2, .string S2, .slice p2 q2 r2, .int .i64 u2, .int .i64 v2] : List Value)[j]? = some v) => (HK18.out.trans ((KeepBut.drew _ w18).trans h)).cell (y2 j v hj) (fun e => e)
      clear y0 y1 y2 e0 e1 e2
      refine wp_own0 (by kernel_rfl) (fun i => [[], [], [], [2], [2, 3], [], [5], [5, 6], [2, 3, 4, 5, 6, 7], [1, 2, 3, 4, 5, 6, 7, 8], [], [10], [10, 11], [1, 2, 3, 4, 5, 6, 7, 8, 9, 10, 11, 12], [0, 1, 2, 3, 4, 5, 6, 7, 8, 9, 10, 11, 12, 13], [], [0, 1, 2, 3, 4, 5, 6, 7, 8, 9, 10, 11, 12, 13, 14, 15]].getD i []) (fun i => if i = 16 then [15] else []) (fun i => if i = 16 then [15] else []) [8, 13, 16] (by kernel_rfl)
        (fun i => if i = 8 then some (sPair2 TEx) else if i = 13 then some (sPair2 TEx) else if i = 15 then some (sNew (.cells #[.int .i64 0, .int .i64 0, .int .i64 0, .string ⟨#[]⟩, .slice none 0 0, .int .i64 0, .int .i64 0] TEx)) else if i = 16 then some (sPutA TEx) else none) ?_
      apply lex_quiet rfl rfl
      · intro w' hk; go_simp; with_reducible rfl
      simp only [Act.put, List.setIfInBounds_toArray, List.set_cons_zero, List.set_cons_succ]
      apply lex_quiet rfl rfl
      · intro w' hk; go_simp; with_reducible rfl
      simp only [Act.put, List.setIfInBounds_toArray, List.set_cons_zero, List.set_cons_succ]
      apply lex_quiet rfl rfl
      · intro w' hk; go_simp; with_reducible rfl
      simp only [Act.put, List.setIfInBounds_toArray, List.set_cons_zero, List.set_cons_succ]
      apply lex_quiet rfl rfl
      · intro w' hk; go_simp; with_reducible rfl
      simp only [Act.put, List.setIfInBounds_toArray, List.set_cons_zero, List.set_cons_succ]
      apply lex_quiet rfl rfl
      · intro w' hk; have d0 := c0 w' hk 0 _ rfl; have d1 := c0 w' hk 1 _ rfl; have d2 := c0 w' hk 2 _ rfl; have d3 := c0 w' hk 3 _ rfl; have d4 := c0 w' hk 4 _ rfl; have d5 := c0 w' hk 5 _ rfl; have d6 := c0 w' hk 6 _ rfl; go_simp; with_reducible rfl
      simp only [Act.put, List.setIfInBounds_toArray, List.set_cons_zero, List.set_cons_succ]
      apply lex_quiet rfl rfl
      · intro w' hk; go_simp; with_reducible rfl
      simp only [Act.put, List.setIfInBounds_toArray, List.set_cons_zero, List.set_cons_succ]
      apply lex_quiet rfl rfl
      · intro w' hk; go_simp; with_reducible rfl
      simp only [Act.put, List.setIfInBounds_toArray, List.set_cons_zero, List.set_cons_succ]
      apply lex_quiet rfl rfl
      · intro w' hk; have d0 := c1 w' hk 0 _ rfl; have d1 := c1 w' hk 1 _ rfl; have d2 := c1 w' hk 2 _ rfl; have d3 := c1 w' hk 3 _ rfl; have d4 := c1 w' hk 4 _ rfl; have d5 := c1 w' hk 5 _ rfl; have d6 := c1 w' hk 6 _ rfl; go_simp; with_reducible rfl
      simp only [Act.put, List.setIfInBounds_toArray, List.set_cons_zero, List.set_cons_succ]
      refine lex_loud rfl rfl (loud_pair2 TEx #[.int .i64 k0, .int .i64 o0, .int .i64 m0, .string S0, .slice p0 q0 r0, .int .i64 u0, .int .i64 v0] #[.int .i64 k1, .int .i64 o1, .int .i64 m1, .string S1, .slice p1 q1 r1, .int .i64 u1, .int .i64 v1] (.tmp 102) (.tmp 105) _ rfl rfl rfl fun w => by go_simp) fun a8 _ => ?_
      simp only [sPair2, sNew, sPutA, Act.put, List.setIfInBounds_toArray, List.set_cons_zero, List.set_cons_succ]
      apply lex_quiet rfl rfl
      · intro w' hk; go_simp; with_reducible rfl
      simp only [Act.put, List.setIfInBounds_toArray, List.set_cons_zero, List.set_cons_succ]
      apply lex_quiet rfl rfl
      · intro w' hk; go_simp; with_reducible rfl
      simp only [Act.put, List.setIfInBounds_toArray, List.set_cons_zero, List.set_cons_succ]
      apply lex_quiet rfl rfl
      · intro w' hk; go_simp; with_reducible rfl
      simp only [Act.put, List.setIfInBounds_toArray, List.set_cons_zero, List.set_cons_succ]
      apply lex_quiet rfl rfl
      · intro w' hk; have d0 := c2 w' hk 0 _ rfl; have d1 := c2 w' hk 1 _ rfl; have d2 := c2 w' hk 2 _ rfl; have d3 := c2 w' hk 3 _ rfl; have d4 := c2 w' hk 4 _ rfl; have d5 := c2 w' hk 5 _ rfl; have d6 := c2 w' hk 6 _ rfl; go_simp; with_reducible rfl
      simp only [Act.put, List.setIfInBounds_toArray, List.set_cons_zero, List.set_cons_succ]
      refine lex_loud rfl rfl (loud_pair2 TEx #[.int .i64 5, .int .i64 (1 + (pa : Int)), .int .i64 0, .string ⟨#[]⟩, .slice (some ⟨a8.b, 0, none⟩) 2 2, .int .i64 0, .int .i64 0] #[.int .i64 k2, .int .i64 o2, .int .i64 m2, .string S2, .slice p2 q2 r2, .int .i64 u2, .int .i64 v2] (.tmp 107) (.tmp 110) _ rfl rfl rfl fun w => by go_simp) fun a13 _ => ?_
      simp only [Act.put, List.setIfInBounds_toArray, List.set_cons_zero, List.set_cons_succ]
      apply lex_quiet rfl rfl
      · intro w' hk; go_simp; with_reducible rfl
      simp only [Act.put, List.setIfInBounds_toArray, List.set_cons_zero, List.set_cons_succ]
      refine lex_loud rfl rfl (loud_alloc _ fun w => by go_simp) fun a15 _ => ?_
      simp only [Act.put, List.setIfInBounds_toArray, List.set_cons_zero, List.set_cons_succ]
      refine lex_loud rfl rfl (loud_putA a15.b TEx TEx #[.int .i64 5, .int .i64 (1 + (pb : Int)), .int .i64 0, .string ⟨#[]⟩, .slice (some ⟨a13.b, 0, none⟩) 2 2, .int .i64 0, .int .i64 0] _ (.tmp 17) (.tmp 112) rfl rfl rfl 15 (by decide) (by decide) (fun w h => h) rfl rfl (by kernel_rfl) (by simp [Value.oneCell'])) fun a16 _ => ?_
      simp only [Act.put]
      refine lex_nil ?_
      intro w19 hk19 hF hd
      have f1 : w19.heap[a8.b]? = some (.cells (#[.int .i64 k0, .int .i64 o0, .int .i64 m0, .string S0, .slice p0 q0 r0, .int .i64 u0, .int .i64 v0] ++ #[.int .i64 k1, .int .i64 o1, .int .i64 m1, .string S1, .slice p1 q1 r1, .int .i64 u1, .int .i64 v1] : Array Value) TEx (0, 0)) := (hF 8 (by decide)).1 _ _ (pair_arg0 rfl rfl) (pair_arg1 rfl rfl)
      have f2 : w19.heap[a13.b]? = some (.cells (#[.int .i64 5, .int .i64 (1 + (pa : Int)), .int .i64 0, .string ⟨#[]⟩, .slice (some ⟨a8.b, 0, none⟩) 2 2, .int .i64 0, .int .i64 0] ++ #[.int .i64 k2, .int .i64 o2, .int .i64 m2, .string S2, .slice p2 q2 r2, .int .i64 u2, .int .i64 v2] : Array Value) TEx (0, 0)) := (hF 13 (by decide)).1 _ _ (pair_arg0 rfl rfl) (pair_arg1 rfl rfl)
      have f3 : w19.heap[a15.b]? = some (.cells #[.int .i64 5, .int .i64 (1 + (pb : Int)), .int .i64 0, .string ⟨#[]⟩, .slice (some ⟨a13.b, 0, none⟩) 2 2, .int .i64 0, .int .i64 0] TEx (0, 0)) := (hF 16 (by decide)).1 _ _ (put_args0 rfl rfl) (put_args rfl rfl)
      have b1 : w18.heap.size ≤ a8.b := ((hF 8 (by decide)).2 a8.b rfl).2.resolve_right fun h => h
      have b2 : w18.heap.size ≤ a13.b := ((hF 13 (by decide)).2 a13.b rfl).2.resolve_right fun h => h
      have b3 : w18.heap.size ≤ a15.b := ((hF 16 (by decide)).2 a15.b (put_args0 rfl rfl)).2.resolve_right fun h => h
      have HN23 := Lib.hid (show N2 < w18.heap.size ∧ N3 < w18.heap.size from ⟨(Array.getElem?_eq_some_iff.1 HF30.out).1, (Array.getElem?_eq_some_iff.1 HF31.out).1⟩)
      have hst := (KeepBut.drew (fun _ => False) w18).trans hk19
      have hk' := HK18.out.trans hst
      have hsz : w2.heap.size ≤ w18.heap.size := Nat.le_trans HG.out.keep.size HK18.out.size
      have HL19 := Lib.hid (show ExAt w19 (fun b => w2.heap.size ≤ b) [.int .i64 5, .int .i64 (1 + (pb : Int)), .int .i64 0, .string ⟨#[]⟩, .slice (some ⟨a13.b, 0, none⟩) 2 2, .int .i64 0, .int .i64 0] (binX (pb + 1) 0 0 (binX (pa + 1) 0 0 (opdX (sg3 s 0) (nn3 n0 n1 n2 0) 0 0 0 0) (opdX (sg3 s 1) (nn3 n0 n1 n2 1) 0 0 0 0)) (opdX (sg3 s 2) (nn3 n0 n1 n2 2) 0 0 0 0)) from
        bin_at (by omega) (pair_kids f2 (by show w2.heap.size ≤ a13.b; omega) (bin_at (by omega) (pair_kids f1 (by show w2.heap.size ≤ a8.b; omega) (HE.out.1.keep hk' fun _ _ e => e) (HE.out.2.1.keep hk' fun _ _ e => e))) (HE.out.2.2.keep hk' fun _ _ e => e)))
      have HK19 := Lib.hid hk'; have HN19 := Lib.hid (show a15.b < w19.heap.size from (Array.getElem?_eq_some_iff.1 f3).1); have HB15 := Lib.hid f3; have HN15 := Lib.hid b3
      have HF30 := Lib.hid (hst.blk HF30.out); have HF31 := Lib.hid (hst.blk HF31.out); have HEXX := Lib.hid (HEXX.out.inHeap.keep hst fun _ _ e => e)
      obtain ⟨N13, hN13⟩ : ∃ n, a13.b = n := ⟨_, rfl⟩
      obtain ⟨N15, hN15⟩ : ∃ n, a15.b = n := ⟨_, rfl⟩
      rw [hN13] at HL19 HB15
      rw [hN15] at HB15 HN15 HN19
      rw [hN15]
      clear hF hd hk19 hk' hst hsz f1 f2 f3 b1 b2 b3 c0 c1 c2 hN13 hN15
      go_upto_region 20 with fail
      have c0 := fun w' (h : KeepBut (fun _ => False) w19.drew w') j (v : Value) (hj : ([.int .i64 k0, .int .i64 o0, .int .i64 m0, .string S0, .slice p0 q0 r0, .int .i64 u0, .int .i64 v0] : List Value)[j]? = some v) => (HK19.out.trans ((KeepBut.drew _ w19).trans h)).cell (HY.out.1 j v hj) (fun e => e)
      have c1 := fun w' (h : KeepBut (fun _ => False) w19.drew w') j (v : Value) (hj : ([.int .i64 k1, .int .i64 o1, .int .i64 m1, .string S1, .slice p1 q1 r1, .int .i64 u1, .int .i64 v1] : List Value)[j]? = some v) => (HK19.out.trans ((KeepBut.drew _ w19).trans h)).cell (HY.out.2.1 j v hj) (fun e => e)
      have c2 := fun w' (h : KeepBut (fun _ => False) w19.drew w') j (v : Value) (hj : ([.int .i64 k2, .int .i64 o2, .int .i64 m2, .string S2, .slice p2 q2 r2, .int .i64 u2, .int .i64 v2] : List Value)[j]? = some v) => (HK19.out.trans ((KeepBut.drew _ w19).trans h)).cell (HY.out.2.2 j v hj) (fun e => e)
      refine wp_own0 (by kernel_rfl) (fun i => [[], [], [1], [1, 2], [], [], [5], [5, 6], [], [8], [8, 9], [5, 6, 7, 8, 9, 10], [4, 5, 6, 7, 8, 9, 10, 11], [1, 2, 3, 4, 5, 6, 7, 8, 9, 10, 11, 12], [0, 1, 2, 3, 4, 5, 6, 7, 8, 9, 10, 11, 12, 13], [], [0, 1, 2, 3, 4, 5, 6, 7, 8, 9, 10, 11, 12, 13, 14, 15]].getD i []) (fun i => if i = 16 then [15] else []) (fun i => if i = 16 then [15] else []) [11, 13, 16] (by kernel_rfl)
        (fun i => if i = 11 then some (sPair2 TEx) else if i = 13 then some (sPair2 TEx) else if i = 15 then some (sNew (.cells #[.int .i64 0, .int .i64 0, .int .i64 0, .string ⟨#[]⟩, .slice none 0 0, .int .i64 0, .int .i64 0] TEx)) else if i = 16 then some (sPutA TEx) else none) ?_
      apply lex_quiet rfl rfl
      · intro w' hk; go_simp; with_reducible rfl
      simp only [Act.put, List.setIfInBounds_toArray, List.set_cons_zero, List.set_cons_succ]
      apply lex_quiet rfl rfl
      · intro w' hk; go_simp; with_reducible rfl
      simp only [Act.put, List.setIfInBounds_toArray, List.set_cons_zero, List.set_cons_succ]
      apply lex_quiet rfl rfl
      · intro w' hk; go_simp; with_reducible rfl
      simp only [Act.put, List.setIfInBounds_toArray, List.set_cons_zero, List.set_cons_succ]
      apply lex_quiet rfl rfl
      · intro w' hk; have d0 := c0 w' hk 0 _ rfl; have d1 := c0 w' hk 1 _ rfl; have d2 := c0 w' hk 2 _ rfl; have d3 := c0 w' hk 3 _ rfl; have d4 := c0 w' hk 4 _ rfl; have d5 := c0 w' hk 5 _ rfl; have d6 := c0 w' hk 6 _ rfl; go_simp; with_reducible rfl
      simp only [Act.put, List.setIfInBounds_toArray, List.set_cons_zero, List.set_cons_succ]
      apply lex_quiet rfl rfl
      · intro w' hk; go_simp; with_reducible rfl
      simp only [Act.put, List.setIfInBounds_toArray, List.set_cons_zero, List.set_cons_succ]
      apply lex_quiet rfl rfl
      · intro w' hk; go_simp; with_reducible rfl
      simp only [Act.put, List.setIfInBounds_toArray, List.set_cons_zero, List.set_cons_succ]
      apply lex_quiet rfl rfl
      · intro w' hk; go_simp; with_reducible rfl
      simp only [Act.put, List.setIfInBounds_toArray, List.set_cons_zero, List.set_cons_succ]
      apply lex_quiet rfl rfl
      · intro w' hk; have d0 := c1 w' hk 0 _ rfl; have d1 := c1 w' hk 1 _ rfl; have d2 := c1 w' hk 2 _ rfl; have d3 := c1 w' hk 3 _ rfl; have d4 := c1 w' hk 4 _ rfl; have d5 := c1 w' hk 5 _ rfl; have d6 := c1 w' hk 6 _ rfl; go_simp; with_reducible rfl
      simp only [Act.put, List.setIfInBounds_toArray, List.set_cons_zero, List.set_cons_succ]
      apply lex_quiet rfl rfl
      · intro w' hk; go_simp; with_reducible rfl
      simp only [Act.put, List.setIfInBounds_toArray, List.set_cons_zero, List.set_cons_succ]
      apply lex_quiet rfl rfl
      · intro w' hk; go_simp; with_reducible rfl
      simp only [Act.put, List.setIfInBounds_toArray, List.set_cons_zero, List.set_cons_succ]
      apply lex_quiet rfl rfl
      · intro w' hk; have d0 := c2 w' hk 0 _ rfl; have d1 := c2 w' hk 1 _ rfl; have d2 := c2 w' hk 2 _ rfl; have d3 := c2 w' hk 3 _ rfl; have d4 := c2 w' hk 4 _ rfl; have d5 := c2 w' hk 5 _ rfl; have d6 := c2 w' hk 6 _ rfl; go_simp; with_reducible rfl
      simp only [Act.put, List.setIfInBounds_toArray, List.set_cons_zero, List.set_cons_succ]
      refine lex_loud rfl rfl (loud_pair2 TEx #[.int .i64 k1, .int .i64 o1, .int .i64 m1, .string S1, .slice p1 q1 r1, .int .i64 u1, .int .i64 v1] #[.int .i64 k2, .int .i64 o2, .int .i64 m2, .string S2, .slice p2 q2 r2, .int .i64 u2, .int .i64 v2] (.tmp 120) (.tmp 123) _ rfl rfl rfl fun w => by go_simp) fun a11 _ => ?_
      simp only [sPair2, sNew, sPutA, Act.put, List.setIfInBounds_toArray, List.set_cons_zero, List.set_cons_succ]
      apply lex_quiet rfl rfl
      · intro w' hk; go_simp; with_reducible rfl
      simp only [Act.put, List.setIfInBounds_toArray, List.set_cons_zero, List.set_cons_succ]
      refine lex_loud rfl rfl (loud_pair2 TEx #[.int .i64 k0, .int .i64 o0, .int .i64 m0, .string S0, .slice p0 q0 r0, .int .i64 u0, .int .i64 v0] #[.int .i64 5, .int .i64 (1 + (pb : Int)), .int .i64 0, .string ⟨#[]⟩, .slice (some ⟨a11.b, 0, none⟩) 2 2, .int .i64 0, .int .i64 0] (.tmp 116) (.tmp 125) _ rfl rfl rfl fun w => by go_simp) fun e13 _ => ?_
      simp only [Act.put, List.setIfInBounds_toArray, List.set_cons_zero, List.set_cons_succ]
      apply lex_quiet rfl rfl
      · intro w' hk; go_simp; with_reducible rfl
      simp only [Act.put, List.setIfInBounds_toArray, List.set_cons_zero, List.set_cons_succ]
      refine lex_loud rfl rfl (loud_alloc _ fun w => by go_simp) fun e15 _ => ?_
      simp only [Act.put, List.setIfInBounds_toArray, List.set_cons_zero, List.set_cons_succ]
      refine lex_loud rfl rfl (loud_putA e15.b TEx TEx #[.int .i64 5, .int .i64 (1 + (pa : Int)), .int .i64 0, .string ⟨#[]⟩, .slice (some ⟨e13.b, 0, none⟩) 2 2, .int .i64 0, .int .i64 0] _ (.tmp 18) (.tmp 127) rfl rfl rfl 15 (by decide) (by decide) (fun w h => h) rfl rfl (by kernel_rfl) (by simp [Value.oneCell'])) fun e16 _ => ?_
      simp only [Act.put]
      refine lex_nil ?_
      intro w20 hk20 hF hd
      have f1 : w20.heap[a11.b]? = some (.cells (#[.int .i64 k1, .int .i64 o1, .int .i64 m1, .string S1, .slice p1 q1 r1, .int .i64 u1, .int .i64 v1] ++ #[.int .i64 k2, .int .i64 o2, .int .i64 m2, .string S2, .slice p2 q2 r2, .int .i64 u2, .int .i64 v2] : Array Value) TEx (0, 0)) := (hF 11 (by decide)).1 _ _ (pair_arg0 rfl rfl) (pair_arg1 rfl rfl)
      have f2 : w20.heap[e13.b]? = some (.cells (#[.int .i64 k0, .int .i64 o0, .int .i64 m0, .string S0, .slice p0 q0 r0, .int .i64 u0, .int .i64 v0] ++ #[.int .i64 5, .int .i64 (1 + (pb : Int)), .int .i64 0, .string ⟨#[]⟩, .slice (some ⟨a11.b, 0, none⟩) 2 2, .int .i64 0, .int .i64 0] : Array Value) TEx (0, 0)) := (hF 13 (by decide)).1 _ _ (pair_arg0 rfl rfl) (pair_arg1 rfl rfl)
      have f3 : w20.heap[e15.b]? = some (.cells #[.int .i64 5, .int .i64 (1 + (pa : Int)), .int .i64 0, .string ⟨#[]⟩, .slice (some ⟨e13.b, 0, none⟩) 2 2, .int .i64 0, .int .i64 0] TEx (0, 0)) := (hF 16 (by decide)).1 _ _ (put_args0 rfl rfl) (put_args rfl rfl)
      have b1 : w19.heap.size ≤ a11.b := ((hF 11 (by decide)).2 a11.b rfl).2.resolve_right fun h => h
      have b2 : w19.heap.size ≤ e13.b := ((hF 13 (by decide)).2 e13.b rfl).2.resolve_right fun h => h
      have b3 : w19.heap.size ≤ e15.b := ((hF 16 (by decide)).2 e15.b (put_args0 rfl rfl)).2.resolve_right fun h => h
      have hst := (KeepBut.drew (fun _ => False) w19).trans hk20
      have hk' := HK19.out.trans hst
      have hsz : w2.heap.size ≤ w19.heap.size := Nat.le_trans HG.out.keep.size HK19.out.size
      have hlt : ∀ b, (w2.heap.size ≤ b ∧ b < wr.heap.size) → b ≠ N15 := fun b hb => by
        have h1 := HK18.out.size
        have h2 := HN15.out
        omega
      have HK20 := Lib.hid hk'
      have HR20 := Lib.hid (show ExAt w20 (fun b => b ≠ N15) [.int .i64 5, .int .i64 (1 + (pa : Int)), .int .i64 0, .string ⟨#[]⟩, .slice (some ⟨e13.b, 0, none⟩) 2 2, .int .i64 0, .int .i64 0] (binX (pa + 1) 0 0 (opdX (sg3 s 0) (nn3 n0 n1 n2 0) 0 0 0 0) (binX (pb + 1) 0 0 (opdX (sg3 s 1) (nn3 n0 n1 n2 1) 0 0 0 0) (opdX (sg3 s 2) (nn3 n0 n1 n2 2) 0 0 0 0))) from
        bin_at (by omega) (pair_kids f2 (by show e13.b ≠ N15; have := HN19.out; omega) ((HE.out.1.inHeap.keep hk' fun _ _ e => e).mono hlt) (bin_at (by omega) (pair_kids f1 (by show a11.b ≠ N15; have := HN19.out; omega) ((HE.out.2.1.inHeap.keep hk' fun _ _ e => e).mono hlt) ((HE.out.2.2.inHeap.keep hk' fun _ _ e => e).mono hlt)))))
      have HL20 := Lib.hid (HL19.out.keep hst fun _ _ e => e)
      have hb15 := hst.blk HB15.out
      have HB15 := Lib.hid hb15; have HB18 := Lib.hid f3
      have HF30 := Lib.hid (hst.blk HF30.out); have HF31 := Lib.hid (hst.blk HF31.out); have HEXX := Lib.hid (HEXX.out.keep hst fun _ _ e => e)
      obtain ⟨P13, hP13⟩ : ∃ n, e13.b = n := ⟨_, rfl⟩
      obtain ⟨P15, hP15⟩ : ∃ n, e15.b = n := ⟨_, rfl⟩
      have HNE := Lib.hid (show N15 < w19.heap.size ∧ w19.heap.size ≤ P15 from ⟨HN19.out, by rw [← hP15]; exact b3⟩)
      rw [hP13] at HR20 HB18
      rw [hP15] at HB18
      rw [hP15]
      clear hF hd hk20 hk' hst hsz hlt f1 f2 f3 b1 b2 b3 c0 c1 c2 hP13 hP15 hb15
      have ka : ((pa + 1 : Nat) : Int) = 1 + (pa : Int) := by omega
      have kb : ((pb + 1 : Nat) : Int) = 1 + (pb : Int) := by omega
      have HLA := Lib.hid (fun W => lawRow_any (pa + 1) (by omega) (by omega) W)
      have HLB := Lib.hid (fun W => lawRow_any (pb + 1) (by omega) (by omega) W)
      rw [ka] at HLA
      rw [kb] at HLB
      clear ka kb
      go_wp2_with fail
      go_at_call 15
      refine (HLB.out w20).mono ?_
      rintro e w21 ⟨rfl, hk21⟩
      have HK21 := Lib.hid hk21
      clear hk21
      go_wp2_with fail
      go_at_call 15
      refine (HLA.out w21).mono ?_
      rintro e w22 ⟨rfl, hk22⟩
      have HK22 := Lib.hid (HK21.out.trans hk22)
      clear hk22
      have HSZ := Lib.hid (show exSize x ≤ 8 by rw [sameE_size HSA.out]; exact law_size _ _ _ _ _ _ _ _)
      have hb3 := HK22.out.blk HF31.out
      obtain ⟨z0, z1, z2, -⟩ := blk3f hb3
      have HB3 := Lib.hid hb3
      have HB2 := Lib.hid (HK22.out.blk HF30.out)
      have HX := Lib.hid (HEXX.out.keep HK22.out fun _ _ e => e)
      obtain ⟨xk, xo, xn, xS, xp, xm, xc, xl, xcl, rfl⟩ := ex_form HX.out
      by_cases hlt : levT (pb + 1) < levT (pa + 1)
      · have hli : ((levT (pb + 1) : Nat) : Int) < (levT (pa + 1) : Nat) := by omega
        have hb18 := HK22.out.blk HB18.out
        obtain ⟨m0, m1, m2, m3, m4, m5, m6, -⟩ := blk7 hb18
        have hb15 := HK22.out.blk HB15.out
        obtain ⟨q0, q1, q2, q3, q4, q5, q6, f0, f1, f2, f3, f4, f5, f6⟩ := blk7 hb15
        have HB15 := Lib.hid hb15
        clear hb18 hb15 hb3 z0 z1 z2
        go_upto_region 23 with fail
        obtain ⟨wf, hwf, hbf, hkf⟩ := put7 HB15.out (.int .i64 5) (.int .i64 (1 + (pa : Int))) (.int .i64 0) (.string ⟨#[]⟩) (.slice (some ⟨P13, 0, none⟩) 2 2) (.int .i64 0) (.int .i64 0)
        rw [← hwf]
        have HKF := Lib.hid hkf
        have hxf := HX.out.keep hkf (fun b hb e => by have e : b = N15 := e; have h := hb.2; have h2 := HN15.out; omega)
        have hrf := (HR20.out.keep HK22.out fun _ _ e => e).keep hkf (fun b hb e => hb e)
        have HSX := Lib.hid (says_any 8 x HSZ.out (by decide) _ wf _ _ _ _ hxf hrf)
        have hs : sameE x (binX (pa + 1) 0 0 (opdX (sg3 s 0) (nn3 n0 n1 n2 0) 0 0 0 0) (binX (pb + 1) 0 0 (opdX (sg3 s 1) (nn3 n0 n1 n2 1) 0 0 0 0) (opdX (sg3 s 2) (nn3 n0 n1 n2 2) 0 0 0 0))) = true := by have h := HSA.out; unfold lawX at h; rw [if_pos hlt] at h; exact h
        rw [hs] at HSX
        have HNN2 := Lib.hid (show N2 ≠ N15 ∧ N3 ≠ N15 by
          have h1 := (Array.getElem?_eq_some_iff.1 HB2.out).1
          have h2 := HN23.out
          have h3 := HN15.out
          omega)
        have hb2 := hkf.blkE HB2.out fun e => HNN2.out.1 e
        have hb3 := hkf.blkE HB3.out fun e => HNN2.out.2 e
        obtain ⟨c0, c1, c2, c3, c4, c5, c6, -⟩ := blk7 hbf
        obtain ⟨d0, d1, d2, d3, d4, d5, d6, -⟩ := blk7 hb2
        obtain ⟨z0, z1, z2, -⟩ := blk3f hb3
        clear hwf hbf hkf hxf hrf hs hb2 hb3 m0 m1 m2 m3 m4 m5 m6 q0 q1 q2 q3 q4 q5 q6 f0 f1 f2 f3 f4 f5 f6
        go_wp2_with fail
        go_at_call 13
        refine HSX.out.mono ?_
        rintro e w23 ⟨rfl, hk23⟩
        have hkend := ((HKW2.out.trans HG.out.keep).trans ((HK20.out.trans HK22.out).newE HKF.out (fun b e => by have e : b = N15 := e; have h2 := HN15.out; have h1 := HK18.out.size; omega))).trans hk23
        go_wp2_with fail
        go_ret
        exact ⟨rfl, hkend⟩
      · have hli : ¬ ((levT (pb + 1) : Nat) : Int) < (levT (pa + 1) : Nat) := by omega
        have hb15 := HK22.out.blk HB15.out
        obtain ⟨m0, m1, m2, m3, m4, m5, m6, -⟩ := blk7 hb15
        obtain ⟨q0, q1, q2, q3, q4, q5, q6, -⟩ := blk7 HB2.out
        have HLL := Lib.hid (HL20.out.keep HK22.out fun _ _ e => e)
        have HSX := Lib.hid (says_any 8 x HSZ.out (by decide) _ w22 _ _ _ _ HX.out HLL.out)
        have hs : sameE x (binX (pb + 1) 0 0 (binX (pa + 1) 0 0 (opdX (sg3 s 0) (nn3 n0 n1 n2 0) 0 0 0 0) (opdX (sg3 s 1) (nn3 n0 n1 n2 1) 0 0 0 0)) (opdX (sg3 s 2) (nn3 n0 n1 n2 2) 0 0 0 0)) = true := by have h := HSA.out; unfold lawX at h; rw [if_neg hlt] at h; exact h
        rw [hs] at HSX
        clear hb15 hb3 hs
        go_wp2_with fail
        go_at_call 13
        refine HSX.out.mono ?_
        rintro e w23 ⟨rfl, hk23⟩
        have hkend := ((HKW2.out.trans HG.out.keep).trans (HK20.out.trans HK22.out)).trans hk23
        go_wp2_with fail
        go_ret
        exact ⟨rfl, hkend⟩

end Go.Proofs.YtomlffobbkcmdaaGreatDoor
