/-
  SpecSets, walked.
-/
import Derived.Test.YtopodipjapiaoaaSetsL
import Derived.Test.YtopodipjapiaoaaPick
import Derived.Deep.CutRange
import Derived.Deep.CutBlock
namespace Go.Proofs.Ytopodipjapiaoaa
open Go Go.RowKit Own

/-- the loop's relation -/
def ZRel (N5 N7 N9 n : Nat) (L : Nat → Int) (w : World) (v10 : Value) (wr : World) : Prop :=
  ∃ (i : Nat) (pa : Option Addr) (ca : Nat) (pb : Option Addr) (cb : Nat) (m : List (Int × Value)), i ≤ n ∧ v10 = .int .i64 i ∧ SHeld N5 N7 N9 w wr pa ca (fromFront L i) pb cb (fromBack L n i) m ∧ MapOf (fromFront L i) m

set_option maxRecDepth 100000 in
set_option maxHeartbeats 16000000 in
theorem sets_walk (w : World) (p : Option Addr) (n c : Nat) (at0 : Int) (hn : n ≤ 60) (L : Nat → Int)
    (hcells : ∀ j, j < n → ∃ b o, p = some ⟨b, o, none⟩ ∧ w.cell? ⟨b, o + j, none⟩ = some (.int .i64 (L j))) :
    Calls Try.prog 4 #[.slice p n c, .int .i64 at0] w fun e w' => e = .returned (.bool true) ∧ KeepBut (fun _ => False) w w' := by
  have hle : (n : Int) ≤ 60 := by omega
  have hle2 : n ≤ 9223372036854775807 := by omega
  have hnew : Hid (∀ W, Calls Try.prog 7 #[.int .i64 3] W fun e w' => e = .returned (.tuple #[.agg #[.int .i64 3, .slice none 0 0], .int .i64 0]) ∧ KeepBut (fun _ => False) W w') := fun W => by
    exact new_any 3 W
  have HC := Lib.hid hcells
  have hmk : ∀ W, (Instr.makeMap 31 none).run Try.prog W = .ok (.map (some W.heap.size)) (W.alloc (.map #[] 0)) := fun W => run_makeMap _ W
  clear hcells
  go_enter Try.func4, Try.ntmps4
  go_upto_region 6 with (first
    | (go_at_call 5; refine (lives_any _).mono ?_; rintro e w1 ⟨rfl, hk1⟩)
    | (go_at_call 7; refine (hnew.out _).mono ?_; rintro e w3 ⟨rfl, hk3⟩))
  obtain ⟨V5, N5, hV5, hN5, hb5, hkb5, -⟩ := fresh_block w3 (.cells #[.int .i64 3, .slice none 0 0] 27)
  rw [← hV5, ← hN5]
  have HK5 := Lib.hid (show KeepBut (fun _ => False) w V5 ∧ w.heap.size ≤ N5 from ⟨(hk1.trans hk3).trans hkb5, by rw [hN5]; exact (hk1.trans hk3).size⟩)
  have HB5 := Lib.hid hb5
  clear hV5 hN5 hb5 hkb5 hk1 hk3
  go_upto_region 7 with (go_at_call 7; refine (hnew.out _).mono ?_; rintro e w4 ⟨rfl, hk4⟩)
  obtain ⟨V7, N7, hV7, hN7, hb7, hkb7, -⟩ := fresh_block w4 (.cells #[.int .i64 3, .slice none 0 0] 27)
  rw [← hV7, ← hN7]
  have HK7 := Lib.hid (show KeepBut (fun _ => False) w V7 ∧ N5 < N7 from ⟨(HK5.out.1.trans hk4).trans hkb7, by rw [hN7]; exact Nat.lt_of_lt_of_le (World.block_lt_of_cell? V5 _ (blk_cell (k := 0) HB5.out rfl)) hk4.size⟩)
  have HB57 := Lib.hid (hkb7.blk (hk4.blk HB5.out))
  have HB7 := Lib.hid hb7
  clear hV7 hN7 hb7 hkb7 hk4 HB5
  go_wp2_with fail
  have hstart := Lib.hid (show ZRel N5 N7 V7.heap.size n L w (.int .i64 0) (V7.alloc (.map #[] 0)) from
    ⟨0, none, 0, none, 0, [], Nat.zero_le _, rfl, ⟨HK7.out.1.trans (KeepBut.alloc _ _ _), MapI.made _ _, (KeepBut.alloc (fun _ => False) _ _).blk HB57.out, (KeepBut.alloc (fun _ => False) _ _).blk HB7.out, Lies.empty, Lies.empty, HK5.out.2, HK7.out.2, World.block_lt_of_cell? V7 _ (blk_cell (k := 0) HB7.out rfl)⟩, MapOf.nil⟩)
  generalize V7.heap.size = N9 at *
  go_loopw [10] (fun v10 wr => ZRel N5 N7 N9 n L w v10 wr) (fun i _ => n - (intOf i).toNat)
  case atStart => exact hstart.out
  case round =>
    obtain ⟨i, pa, ca, pb, cb, m, hi, rfl, hH, hM⟩ := hrel
    have HH := Lib.hid hH; have HM := Lib.hid hM
    clear hH hM
    by_cases hlt : i < n
    · have hltI : (i : Int) < n := by omega
      have hi0 : (0 : Int) ≤ i := by omega
      obtain ⟨b, o, rfl, c1⟩ := HC.out i hlt
      obtain ⟨j, hj⟩ : ∃ j : Nat, j = n - 1 - i := ⟨_, rfl⟩
      obtain ⟨b', o', he', c2⟩ := HC.out j (by omega)
      cases he'
      have hjI : (j : Int) < n := by omega
      have hj0 : (0 : Int) ≤ j := by omega
      have hW1 : IntKind.i64.wrap ((i : Int) + 1) = i + 1 := IntWalk.i64_in _ (by omega)
      have hW2 : IntKind.i64.wrap ((n : Int) - 1) = (n : Int) - 1 := IntWalk.i64_in _ (by omega)
      have hW3 : IntKind.i64.wrap ((n : Int) - 1 - (i : Int)) = (j : Int) := by rw [IntWalk.i64_in _ (by omega)]; omega
      obtain ⟨f1, f2, f3⟩ := front_law L i
      obtain ⟨g1, g2, g3⟩ := back_law L n i
      have hA' := Lib.hid (show fromFront L (i + 1) = addR (fromFront L i) (L i) from rfl)
      have hB' := Lib.hid (show fromBack L n (i + 1) = addR (fromBack L n i) (L j) by rw [hj]; rfl)
      have hdo1 := Lib.hid (doR_add (x := L i) f1 (by omega))
      have hdo2 := Lib.hid (doR_add (x := L j) g1 (by omega))
      have hMA := Lib.hid (HM.out.add (x := L i) f1 HH.out.map.nodup)
      have hlk0 := HM.out.1 (L i)
      have HLa := Lib.hid (show (fromFront L i).length ≤ 1099511627776 ∧ True from ⟨by omega, trivial⟩)
      have HLb := Lib.hid (show (fromBack L n i).length ≤ 1099511627776 ∧ True from ⟨by omega, trivial⟩)
      clear f1 f2 f3 g1 g2 g3 HM
      obtain ⟨cd, mv, hcd, hmv, hcm⟩ : ∃ cd mv : Int, (if (fromFront L i).contains (L i) = true then (0 : Int) else 1) = cd ∧ (mget m (L i)).getD (.int .i64 0) = .int .i64 mv ∧ ((cd = 0 ∧ mv = 1) ∨ (cd = 1 ∧ mv = 0)) := by
        rw [hlk0]
        by_cases h : (fromFront L i).contains (L i) = true
        · rw [if_pos h, if_pos h]; exact ⟨0, 1, rfl, rfl, .inl ⟨rfl, rfl⟩⟩
        · rw [if_neg h, if_neg h]; exact ⟨1, 0, rfl, rfl, .inr ⟨rfl, rfl⟩⟩
      rw [hcd] at hdo1
      clear hlk0 hcd
      generalize (if (fromBack L n i).contains (L j) = true then (0 : Int) else 1) = cd2 at hdo2
      rw [← hA'.out] at hdo1 hMA
      rw [← hB'.out] at hdo2
      clear hA' hB'
      generalize fromFront L i = A at *
      generalize fromBack L n i = B at *
      obtain ⟨A', hA'⟩ : ∃ A', fromFront L (i + 1) = A' := ⟨_, rfl⟩
      obtain ⟨B', hB'⟩ : ∃ B', fromBack L n (i + 1) = B' := ⟨_, rfl⟩
      rw [hA'] at hdo1 hMA
      rw [hB'] at hdo2
      have HA' := Lib.hid hA'; have HB' := Lib.hid hB'
      have HC1 := Lib.hid c1; have HC2 := Lib.hid c2; have HCM := Lib.hid hcm; have HMV := Lib.hid hmv
      clear hA' hB' hj c1 c2 hcm hmv
      have z0 : ∀ w', KeepBut (fun _ => False) wr.drew w' → w'.cell? ⟨N5, 0, none⟩ = some (.int .i64 3) := fun w' h => ((KeepBut.drew _ wr).trans h).stay (blk_cell (k := 0) HH.out.blkA rfl)
      have z1 : ∀ w', KeepBut (fun _ => False) wr.drew w' → w'.cell? ⟨N5, 1, none⟩ = some (.slice pa A.length ca) := fun w' h => ((KeepBut.drew _ wr).trans h).stay (blk_cell (k := 1) HH.out.blkA rfl)
      have z2 : ∀ w', KeepBut (fun _ => False) wr.drew w' → w'.cell? ⟨b, o + i, none⟩ = some (.int .i64 (L i)) := fun w' h => (HH.out.keep.trans ((KeepBut.drew _ wr).trans h)).stay HC1.out
      go_upto_region 11 with fail
      refine wp_own0 (by kernel_rfl) (fun i => [[], [], [], [1, 2], [1, 2, 3], [0, 1, 2, 3, 4], [0, 1, 2, 3, 4, 5], [0, 1, 2, 3, 4, 5, 6], [0, 1, 2, 3, 4, 5, 6], [0, 1, 2, 3, 4, 5, 6], [0, 1, 2, 3, 4, 5, 6], [], [0, 1, 2, 3, 4, 5, 6, 7, 11], [0, 1, 2, 3, 4, 5, 6, 7, 8, 11, 12], [0, 1, 2, 3, 4, 5, 6, 7, 8, 9, 11, 12, 13], [0, 1, 2, 3, 4, 5, 6, 7, 8, 9, 10, 11, 12, 13, 14]].getD i []) (fun i => if i = 12 then [11] else []) (fun i => if i = 12 then [11] else []) [5, 12] (by kernel_rfl)
        (fun i => if i = 5 then some (sDo wr.heap.size 3 A' 0 cd 0) else if i = 11 then some (sNew (.cells #[.int .i64 0, .slice none 0 0] 27)) else if i = 12 then some (sPutA 27) else none) ?_
      repeat
        apply lex_quiet rfl rfl
        · intro w' hk; go_simp; with_reducible rfl
        simp only [Act.put, List.setIfInBounds_toArray, List.set_cons_zero, List.set_cons_succ]
      refine lex_loud rfl rfl (loud_do wr.heap.size (show wr.heap.size ≤ wr.drew.heap.size from Nat.le_refl _) 3 pa ca A 5 (L i) A' 0 cd 0 hdo1.out HLa.out.1 (fun w' hk => (HH.out.liesA.base fun _ _ => Nat.zero_le _).stay ((KeepBut.drew _ wr).trans hk)) (fun w' => by kernel_rfl)) fun ga _ => ?_
      simp only [sDo, sNew, sPut, Act.put, List.setIfInBounds_toArray, List.set_cons_zero, List.set_cons_succ]
      repeat
        apply lex_quiet rfl rfl
        · intro w' hk; go_simp; with_reducible rfl
        simp only [Act.put, List.setIfInBounds_toArray, List.set_cons_zero, List.set_cons_succ]
      refine lex_loud rfl rfl (loud_alloc _ fun w => by go_simp) fun ga1 _ => ?_
      simp only [sDo, sNew, sPut, Act.put, List.setIfInBounds_toArray, List.set_cons_zero, List.set_cons_succ]
      refine lex_loud rfl rfl (loud_putA ga1.b 27 27 #[.int .i64 3, .slice ga.p A'.length ga.c] _ (.tmp 11) (.tmp 63) rfl rfl rfl 11 (by decide) (by decide) (fun w h => h) rfl rfl (by kernel_rfl) (by simp [Value.oneCell'])) fun ga2 _ => ?_
      simp only [sPutA, Act.put, List.setIfInBounds_toArray, List.set_cons_zero, List.set_cons_succ]
      repeat
        apply lex_quiet rfl rfl
        · intro w' hk; go_simp; with_reducible rfl
        simp only [Act.put, List.setIfInBounds_toArray, List.set_cons_zero, List.set_cons_succ]
      refine lex_nil ?_
      intro wA hk hF hd
      have fL : Lies wr.heap.size wA ga.p A' := (hF 5 (by decide)).1
      have fB : wA.heap[ga1.b]? = some (.cells #[.int .i64 3, .slice ga.p A'.length ga.c] 27 (0, 0)) := (hF 12 (by decide)).1 _ _ (put_args0 rfl rfl) (put_args rfl rfl)
      have bB : wr.heap.size ≤ ga1.b := ((hF 12 (by decide)).2 ga1.b (put_args0 rfl rfl)).2.resolve_right fun h => h
      have hk' : KeepBut (fun _ => False) wr wA := (KeepBut.drew _ wr).trans hk
      have HHA := Lib.hid (HH.out.stay hk')
      have HLA := Lib.hid (fL.base (base' := N9 + 1) fun a ha => by have := (fL.2 a ha).1; have := HH.out.lt9; omega)
      have HBA := Lib.hid fB
      have HNA := Lib.hid (show N9 < ga1.b from Nat.lt_of_lt_of_le HH.out.lt9 bB)
      clear hF hd fL fB bB hk hk' z0 z1 z2
      have z0 : ∀ w', KeepBut (fun _ => False) wA.drew w' → w'.cell? ⟨N7, 0, none⟩ = some (.int .i64 3) := fun w' h => ((KeepBut.drew _ wA).trans h).stay (blk_cell (k := 0) HHA.out.blkB rfl)
      have z1 : ∀ w', KeepBut (fun _ => False) wA.drew w' → w'.cell? ⟨N7, 1, none⟩ = some (.slice pb B.length cb) := fun w' h => ((KeepBut.drew _ wA).trans h).stay (blk_cell (k := 1) HHA.out.blkB rfl)
      have z2 : ∀ w', KeepBut (fun _ => False) wA.drew w' → w'.cell? ⟨b, o + j, none⟩ = some (.int .i64 (L j)) := fun w' h => (HHA.out.keep.trans ((KeepBut.drew _ wA).trans h)).stay HC2.out
      go_upto_region 12 with fail
      refine wp_own0 (by kernel_rfl) (fun i => [[], [], [], [2], [2, 3], [], [2, 3, 4, 5], [1, 2, 3, 4, 5, 6], [1, 2, 3, 4, 5, 6, 7], [0, 1, 2, 3, 4, 5, 6, 7, 8], [0, 1, 2, 3, 4, 5, 6, 7, 8, 9], [0, 1, 2, 3, 4, 5, 6, 7, 8, 9, 10], [0, 1, 2, 3, 4, 5, 6, 7, 8, 9, 10], [0, 1, 2, 3, 4, 5, 6, 7, 8, 9, 10], [0, 1, 2, 3, 4, 5, 6, 7, 8, 9, 10], [], [0, 1, 2, 3, 4, 5, 6, 7, 8, 9, 10, 11, 15], [0, 1, 2, 3, 4, 5, 6, 7, 8, 9, 10, 11, 12, 15, 16], [0, 1, 2, 3, 4, 5, 6, 7, 8, 9, 10, 11, 12, 13, 15, 16, 17], [0, 1, 2, 3, 4, 5, 6, 7, 8, 9, 10, 11, 12, 13, 14, 15, 16, 17, 18]].getD i []) (fun i => if i = 16 then [15] else []) (fun i => if i = 16 then [15] else []) [9, 16] (by kernel_rfl)
        (fun i => if i = 9 then some (sDo wA.heap.size 3 B' 0 cd2 0) else if i = 15 then some (sNew (.cells #[.int .i64 0, .slice none 0 0] 27)) else if i = 16 then some (sPutA 27) else none) ?_
      repeat
        apply lex_quiet rfl rfl
        · intro w' hk; go_simp; with_reducible rfl
        simp only [Act.put, List.setIfInBounds_toArray, List.set_cons_zero, List.set_cons_succ]
      refine lex_loud rfl rfl (loud_do wA.heap.size (show wA.heap.size ≤ wA.drew.heap.size from Nat.le_refl _) 3 pb cb B 5 (L j) B' 0 cd2 0 hdo2.out HLb.out.1 (fun w' hk => (HHA.out.liesB.base fun _ _ => Nat.zero_le _).stay ((KeepBut.drew _ wA).trans hk)) (fun w' => by kernel_rfl)) fun gb _ => ?_
      simp only [sDo, sNew, sPut, Act.put, List.setIfInBounds_toArray, List.set_cons_zero, List.set_cons_succ]
      repeat
        apply lex_quiet rfl rfl
        · intro w' hk; go_simp; with_reducible rfl
        simp only [Act.put, List.setIfInBounds_toArray, List.set_cons_zero, List.set_cons_succ]
      refine lex_loud rfl rfl (loud_alloc _ fun w => by go_simp) fun gb1 _ => ?_
      simp only [sDo, sNew, sPut, Act.put, List.setIfInBounds_toArray, List.set_cons_zero, List.set_cons_succ]
      refine lex_loud rfl rfl (loud_putA gb1.b 27 27 #[.int .i64 3, .slice gb.p B'.length gb.c] _ (.tmp 15) (.tmp 78) rfl rfl rfl 15 (by decide) (by decide) (fun w h => h) rfl rfl (by kernel_rfl) (by simp [Value.oneCell'])) fun gb2 _ => ?_
      simp only [sPutA, Act.put, List.setIfInBounds_toArray, List.set_cons_zero, List.set_cons_succ]
      repeat
        apply lex_quiet rfl rfl
        · intro w' hk; go_simp; with_reducible rfl
        simp only [Act.put, List.setIfInBounds_toArray, List.set_cons_zero, List.set_cons_succ]
      refine lex_nil ?_
      intro wB hk hF hd
      have fL : Lies wA.heap.size wB gb.p B' := (hF 9 (by decide)).1
      have fB : wB.heap[gb1.b]? = some (.cells #[.int .i64 3, .slice gb.p B'.length gb.c] 27 (0, 0)) := (hF 16 (by decide)).1 _ _ (put_args0 rfl rfl) (put_args rfl rfl)
      have bB : wA.heap.size ≤ gb1.b := ((hF 16 (by decide)).2 gb1.b (put_args0 rfl rfl)).2.resolve_right fun h => h
      have hk' : KeepBut (fun _ => False) wA wB := (KeepBut.drew _ wA).trans hk
      have HHB := Lib.hid (HHA.out.stay hk')
      have HLAB := Lib.hid (HLA.out.stay hk')
      have HBAB := Lib.hid (hk'.blk HBA.out)
      have HLB := Lib.hid (fL.base (base' := N9 + 1) fun a ha => by have := (fL.2 a ha).1; have := HHA.out.lt9; omega)
      have HBB := Lib.hid fB
      have HNB := Lib.hid (show N9 < gb1.b from Nat.lt_of_lt_of_le HHA.out.lt9 bB)
      clear hF hd fL fB bB hk hk' z0 z1 z2 HHA HLA HBA
      rcases HCM.out with ⟨h1, h2⟩ | ⟨h1, h2⟩
      · subst h1 h2
        have hlk := HHB.out.map.look (P := Try.prog) (mt := 31) (kt := 2) (e := 3) Try.underlying31 Try.underlying2 (L i) (.int .i64 0) (by kernel_rfl)
        rw [HMV.out] at hlk
        have x2 : wB.cell? ⟨b, o + i, none⟩ = some (.int .i64 (L i)) := HHB.out.keep.stay HC1.out
        obtain ⟨wC, g1, g2, g3⟩ := HHB.out.map.update (P := Try.prog) (mt := 31) (kt := 2) (e := 3) Try.underlying31 Try.underlying2 (L i) (.int .i64 1)
        have HHC := Lib.hid (HHB.out.newMap g3 g2)
        have HLAC := Lib.hid (HLAB.out.keep g3 fun a ha e => by have := (HLAB.out.2 a ha).1; have : a.block = N9 := e; omega)
        have HLBC := Lib.hid (HLB.out.keep g3 fun a ha e => by have := (HLB.out.2 a ha).1; have : a.block = N9 := e; omega)
        have HBAC := Lib.hid (KeepBut.blkE g3 HBAB.out (by have := HNA.out; omega))
        have HBBC := Lib.hid (KeepBut.blkE g3 HBB.out (by have := HNB.out; omega))
        have h57 := HHC.out.h57; have h79 := HHC.out.h79
        have y0 : ∀ w', KeepBut (fun k => k = N5 ∨ k = N7) wC.drew w' → w'.cell? ⟨ga1.b, 0, none⟩ = some (.int .i64 3) := fun w' h => ((KeepBut.drew _ wC).trans h).cell (blk_cell (k := 0) HBAC.out rfl) (by have := HNA.out; show ¬ (ga1.b = N5 ∨ ga1.b = N7); omega)
        have y1 : ∀ w', KeepBut (fun k => k = N5 ∨ k = N7) wC.drew w' → w'.cell? ⟨ga1.b, 1, none⟩ = some (.slice ga.p A'.length ga.c) := fun w' h => ((KeepBut.drew _ wC).trans h).cell (blk_cell (k := 1) HBAC.out rfl) (by have := HNA.out; show ¬ (ga1.b = N5 ∨ ga1.b = N7); omega)
        have y2 : ∀ w', KeepBut (fun k => k = N5 ∨ k = N7) wC.drew w' → w'.cell? ⟨gb1.b, 0, none⟩ = some (.int .i64 3) := fun w' h => ((KeepBut.drew _ wC).trans h).cell (blk_cell (k := 0) HBBC.out rfl) (by have := HNB.out; show ¬ (gb1.b = N5 ∨ gb1.b = N7); omega)
        have y3 : ∀ w', KeepBut (fun k => k = N5 ∨ k = N7) wC.drew w' → w'.cell? ⟨gb1.b, 1, none⟩ = some (.slice gb.p B'.length gb.c) := fun w' h => ((KeepBut.drew _ wC).trans h).cell (blk_cell (k := 1) HBBC.out rfl) (by have := HNB.out; show ¬ (gb1.b = N5 ∨ gb1.b = N7); omega)
        have hne : N5 ≠ N7 := by omega
        have HNE := Lib.hid hne
        clear g2 g3 h57 h79 hne HHB HLAB HLB HBAB HBB
        go_upto_region 16 with fail
        refine wp_own2 (by kernel_rfl) N5 _ HHC.out.blkA N7 _ HHC.out.blkB HNE.out (fun i => [[], [], [0], [0, 1, 2]].getD i []) (fun i => if i = 2 then [4] else if i = 3 then [5] else []) (fun i => if i = 2 then [4] else if i = 3 then [5] else []) [2, 3] (by kernel_rfl)
          (fun i => if i = 2 then some (sPut N5 27) else if i = 3 then some (sPut N7 27) else none) ?_
        repeat
          apply lex_quiet rfl rfl
          · intro w' hk; go_simp; with_reducible rfl
          simp only [Act.put, List.setIfInBounds_toArray, List.set_cons_zero, List.set_cons_succ]
        refine lex_loud rfl rfl (loud_put N5 27 27 #[.int .i64 3, .slice ga.p A'.length ga.c] _ (.tmp 5) (.tmp 105) rfl rfl rfl 4 (by decide) (by decide) (fun w h => h) (.inl ⟨rfl, rfl⟩) rfl (by kernel_rfl) (by simp [Value.oneCell'])) fun gc _ => ?_
        simp only [sDo, sNew, sPut, Act.put, List.setIfInBounds_toArray, List.set_cons_zero, List.set_cons_succ]
        refine lex_loud rfl rfl (loud_put N7 27 27 #[.int .i64 3, .slice gb.p B'.length gb.c] _ (.tmp 7) (.tmp 106) rfl rfl rfl 5 (by decide) (by decide) (fun w h => h) (.inr ⟨rfl, rfl⟩) rfl (by kernel_rfl) (by simp [Value.oneCell'])) fun gd _ => ?_
        simp only [sDo, sNew, sPut, Act.put, List.setIfInBounds_toArray, List.set_cons_zero, List.set_cons_succ]
        refine lex_nil ?_
        intro wD hk hF hd
        have fA : wD.heap[N5]? = some (.cells #[.int .i64 3, .slice ga.p A'.length ga.c] 27 (0, 0)) := (hF 2 (by decide)).1 _ (put_args rfl rfl)
        have fB : wD.heap[N7]? = some (.cells #[.int .i64 3, .slice gb.p B'.length gb.c] 27 (0, 0)) := (hF 3 (by decide)).1 _ (put_args rfl rfl)
        have HHD := Lib.hid (HHC.out.newAB ((KeepBut.drew _ wC).trans hk) fA fB HLAC.out HLBC.out)
        clear hk hF hd fA fB y0 y1 y2 y3
        go_wp2_with fail
        refine ⟨⟨i + 1, ga.p, ga.c, gb.p, gb.c, _, by omega, by simp, by rw [HA'.out, HB'.out]; exact HHD.out, by rw [HA'.out]; exact hMA.out⟩, ?_⟩
        simp only [intOf]
        omega
      · subst h1 h2
        have hlk := HHB.out.map.look (P := Try.prog) (mt := 31) (kt := 2) (e := 3) Try.underlying31 Try.underlying2 (L i) (.int .i64 0) (by kernel_rfl)
        rw [HMV.out] at hlk
        have x2 : wB.cell? ⟨b, o + i, none⟩ = some (.int .i64 (L i)) := HHB.out.keep.stay HC1.out
        obtain ⟨wC, g1, g2, g3⟩ := HHB.out.map.update (P := Try.prog) (mt := 31) (kt := 2) (e := 3) Try.underlying31 Try.underlying2 (L i) (.int .i64 1)
        have HHC := Lib.hid (HHB.out.newMap g3 g2)
        have HLAC := Lib.hid (HLAB.out.keep g3 fun a ha e => by have := (HLAB.out.2 a ha).1; have : a.block = N9 := e; omega)
        have HLBC := Lib.hid (HLB.out.keep g3 fun a ha e => by have := (HLB.out.2 a ha).1; have : a.block = N9 := e; omega)
        have HBAC := Lib.hid (KeepBut.blkE g3 HBAB.out (by have := HNA.out; omega))
        have HBBC := Lib.hid (KeepBut.blkE g3 HBB.out (by have := HNB.out; omega))
        have h57 := HHC.out.h57; have h79 := HHC.out.h79
        have y0 : ∀ w', KeepBut (fun k => k = N5 ∨ k = N7) wC.drew w' → w'.cell? ⟨ga1.b, 0, none⟩ = some (.int .i64 3) := fun w' h => ((KeepBut.drew _ wC).trans h).cell (blk_cell (k := 0) HBAC.out rfl) (by have := HNA.out; show ¬ (ga1.b = N5 ∨ ga1.b = N7); omega)
        have y1 : ∀ w', KeepBut (fun k => k = N5 ∨ k = N7) wC.drew w' → w'.cell? ⟨ga1.b, 1, none⟩ = some (.slice ga.p A'.length ga.c) := fun w' h => ((KeepBut.drew _ wC).trans h).cell (blk_cell (k := 1) HBAC.out rfl) (by have := HNA.out; show ¬ (ga1.b = N5 ∨ ga1.b = N7); omega)
        have y2 : ∀ w', KeepBut (fun k => k = N5 ∨ k = N7) wC.drew w' → w'.cell? ⟨gb1.b, 0, none⟩ = some (.int .i64 3) := fun w' h => ((KeepBut.drew _ wC).trans h).cell (blk_cell (k := 0) HBBC.out rfl) (by have := HNB.out; show ¬ (gb1.b = N5 ∨ gb1.b = N7); omega)
        have y3 : ∀ w', KeepBut (fun k => k = N5 ∨ k = N7) wC.drew w' → w'.cell? ⟨gb1.b, 1, none⟩ = some (.slice gb.p B'.length gb.c) := fun w' h => ((KeepBut.drew _ wC).trans h).cell (blk_cell (k := 1) HBBC.out rfl) (by have := HNB.out; show ¬ (gb1.b = N5 ∨ gb1.b = N7); omega)
        have hne : N5 ≠ N7 := by omega
        have HNE := Lib.hid hne
        clear g2 g3 h57 h79 hne HHB HLAB HLB HBAB HBB
        go_upto_region 16 with fail
        refine wp_own2 (by kernel_rfl) N5 _ HHC.out.blkA N7 _ HHC.out.blkB HNE.out (fun i => [[], [], [0], [0, 1, 2]].getD i []) (fun i => if i = 2 then [4] else if i = 3 then [5] else []) (fun i => if i = 2 then [4] else if i = 3 then [5] else []) [2, 3] (by kernel_rfl)
          (fun i => if i = 2 then some (sPut N5 27) else if i = 3 then some (sPut N7 27) else none) ?_
        repeat
          apply lex_quiet rfl rfl
          · intro w' hk; go_simp; with_reducible rfl
          simp only [Act.put, List.setIfInBounds_toArray, List.set_cons_zero, List.set_cons_succ]
        refine lex_loud rfl rfl (loud_put N5 27 27 #[.int .i64 3, .slice ga.p A'.length ga.c] _ (.tmp 5) (.tmp 105) rfl rfl rfl 4 (by decide) (by decide) (fun w h => h) (.inl ⟨rfl, rfl⟩) rfl (by kernel_rfl) (by simp [Value.oneCell'])) fun gc _ => ?_
        simp only [sDo, sNew, sPut, Act.put, List.setIfInBounds_toArray, List.set_cons_zero, List.set_cons_succ]
        refine lex_loud rfl rfl (loud_put N7 27 27 #[.int .i64 3, .slice gb.p B'.length gb.c] _ (.tmp 7) (.tmp 106) rfl rfl rfl 5 (by decide) (by decide) (fun w h => h) (.inr ⟨rfl, rfl⟩) rfl (by kernel_rfl) (by simp [Value.oneCell'])) fun gd _ => ?_
        simp only [sDo, sNew, sPut, Act.put, List.setIfInBounds_toArray, List.set_cons_zero, List.set_cons_succ]
        refine lex_nil ?_
        intro wD hk hF hd
        have fA : wD.heap[N5]? = some (.cells #[.int .i64 3, .slice ga.p A'.length ga.c] 27 (0, 0)) := (hF 2 (by decide)).1 _ (put_args rfl rfl)
        have fB : wD.heap[N7]? = some (.cells #[.int .i64 3, .slice gb.p B'.length gb.c] 27 (0, 0)) := (hF 3 (by decide)).1 _ (put_args rfl rfl)
        have HHD := Lib.hid (HHC.out.newAB ((KeepBut.drew _ wC).trans hk) fA fB HLAC.out HLBC.out)
        clear hk hF hd fA fB y0 y1 y2 y3
        go_wp2_with fail
        refine ⟨⟨i + 1, ga.p, ga.c, gb.p, gb.c, _, by omega, by simp, by rw [HA'.out, HB'.out]; exact HHD.out, by rw [HA'.out]; exact hMA.out⟩, ?_⟩
        simp only [intOf]
        omega
    · have hin : n = i := by omega
      subst hin
      have hH := Lib.hid (show SHeld N5 N7 N9 w wr pa ca (fromFront L n) pb cb (fromFront L n) m by have := HH.out; rw [← front_back] at this; exact this)
      obtain ⟨f1, f2, f3⟩ := front_law L n
      have HF1 := Lib.hid f1; have HF2 := Lib.hid f2
      have hml0 := Lib.hid (HM.out.2)
      have hls : fromBack L n n = fromFront L n := (front_back L n).symm
      rw [hls] at HH
      clear f1 f2 HM hls
      clear hH
      generalize fromFront L n = A at *
      have HL := Lib.hid (show A.length ≤ 1099511627776 ∧ A.length ≤ 64 by omega)
      have hA1 : (A.length : Int) ≤ 60 := by omega
      have hA0 : (0 : Int) ≤ A.length := by omega
      have hSm : Hid (∀ W, KeepBut (fun _ => False) wr W → Calls Try.prog 10 #[.agg #[.int .i64 3, .slice pa A.length ca], .agg #[.int .i64 3, .slice pb A.length cb]] W fun e w' => e = .returned (.bool true) ∧ KeepBut (fun _ => False) W w') := fun W hW => by
        have := same_any W 3 3 pa pb ca cb A A (HH.out.liesA.stay hW).1 (HH.out.liesB.stay hW).1 HL.out.1 HL.out.1
        rw [show decide ((3 : Int) = 3 ∧ A = A) = true by simp] at this
        exact this
      have hCk : Hid (∀ W, KeepBut (fun _ => False) wr W → Calls Try.prog 9 #[.agg #[.int .i64 3, .slice pa A.length ca]] W fun e w' => e = .returned (.int .i64 0) ∧ KeepBut (fun _ => False) W w') := fun W hW => by
        have := check_any W 3 pa ca A (HH.out.liesA.stay hW).1 HL.out.1 (fun a ha => ((HH.out.liesA.stay hW).2 a ha).2.2)
        rw [chk3 HF1.out HL.out.2] at this
        exact this
      have z0 := blk_cell (k := 0) HH.out.blkA rfl
      have z1 := blk_cell (k := 1) HH.out.blkA rfl
      have z2 := blk_cell (k := 0) HH.out.blkB rfl
      have z3 := blk_cell (k := 1) HH.out.blkB rfl
      go_upto_region 19 with (first
        | (go_at_call 10; refine (hSm.out _ (KeepBut.refl _ _)).mono ?_; rintro e w5 ⟨rfl, hk5⟩
           have y0 := hk5.stay z0; have y1 := hk5.stay z1
           have hml := fun ty => (HH.out.map.stay hk5).len (P := Try.prog) ty Try.underlying31
           rw [hml0.out] at hml
           have HK5 := Lib.hid hk5
           clear z0 z1 z2 z3 hk5)
        | (go_at_call 9; refine (hCk.out _ HK5.out).mono ?_; rintro e w6 ⟨rfl, hk6⟩))
      have HK6 := Lib.hid (HK5.out.trans hk6)
      have HHE := Lib.hid (HH.out.stay HK6.out)
      clear y0 y1 hml HK5 hk6 hSm hCk
      by_cases hn0 : n = 0
      · have hb0 : ((n : Int) == 0) = true := by simpa using hn0
        go_wp2_with fail
        go_ret
        exact ⟨rfl, HHE.out.keep⟩
      · have hb0 : ((n : Int) == 0) = false := by simpa using hn0
        have hpk := pick_range (k := at0) (n := (n : Int)) (by omega)
        obtain ⟨j, hj⟩ : ∃ j : Nat, pick at0 n = j := ⟨(pick at0 n).toNat, by omega⟩
        have hPick : Hid (∀ W, Calls Try.prog 6 #[.int .i64 at0, .int .i64 n] W fun e w' => e = .returned (.int .i64 (j : Int)) ∧ w' = W) := fun W => by
          have := pick_any W at0 n (by omega) (by omega)
          rw [hj] at this; exact this
        have hjn : (j : Int) < n := by omega
        have hj0 : (0 : Int) ≤ j := by omega
        obtain ⟨b, o, rfl, c1⟩ := HC.out j (by omega)
        have hmem := (HF2.out (L j)).2 ⟨j, by omega, rfl⟩
        obtain ⟨e1, e2, e3, e4, e5, e6⟩ := sets_end HF1.out HL.out.2 hmem
        generalize cutAt A (A.countP (· < L j)) = C at e1 e2 e3 e4 e5
        generalize L j = x at *
        have hCl : C.length ≤ 1099511627776 := by omega
        have hWm : IntKind.i64.wrap ((A.length : Int) - 1) = (C.length : Int) := by rw [IntWalk.i64_in _ (by omega)]; omega
        have HCl := Lib.hid hCl
        have d1 : Hid (∀ W, KeepBut (fun _ => False) w6 W → Calls Try.prog 8 #[.agg #[.int .i64 3, .slice pa A.length ca], .int .i64 6, .int .i64 x] W fun e w' => Done4 W e w' 3 C 0 1 0) := fun W hW => by
          have h := HHE.out.liesA.stay hW
          have := do_any W 3 pa ca A h.1 HL.out.1 (fun a ha => (h.2 a ha).2.2) 6 x
          rw [e1] at this; exact this
        have dd : Hid (∀ W pc cc, Lies 0 W pc C → Calls Try.prog 8 #[.agg #[.int .i64 3, .slice pc C.length cc], .int .i64 7, .int .i64 x] W (fun e w' => Done4 W e w' 3 C 0 0 0)
            ∧ Calls Try.prog 8 #[.agg #[.int .i64 3, .slice pc C.length cc], .int .i64 6, .int .i64 x] W (fun e w' => Done4 W e w' 3 C 0 0 0)
            ∧ Calls Try.prog 8 #[.agg #[.int .i64 3, .slice pc C.length cc], .int .i64 5, .int .i64 x] W (fun e w' => Done4 W e w' 3 A 0 1 0)) := fun W pc cc h => by
          have h7 := do_any W 3 pc cc C h.1 HCl.out (fun a ha => (h.2 a ha).2.2) 7 x
          have h6 := do_any W 3 pc cc C h.1 HCl.out (fun a ha => (h.2 a ha).2.2) 6 x
          have h5 := do_any W 3 pc cc C h.1 HCl.out (fun a ha => (h.2 a ha).2.2) 5 x
          rw [e2] at h7; rw [e3] at h6; rw [e4] at h5
          exact ⟨h7, h6, h5⟩
        have c2 : w6.cell? ⟨b, o + j, none⟩ = some (.int .i64 x) := HHE.out.keep.stay c1
        have z0 := blk_cell (k := 0) HHE.out.blkA rfl
        have z1 := blk_cell (k := 1) HHE.out.blkA rfl
        clear e1 e2 e3 e4 e5 e6 hmem hCl hpk hj c1 hn0
        go_upto_region 23 with (first
          | (go_at_call 6; refine (hPick.out _).mono ?_; rintro e w' ⟨rfl, hww⟩; have hww := hww.symm; subst hww)
          | (go_at_call 8; refine (d1.out _ (KeepBut.refl _ _)).mono ?_; rintro e w7 ⟨pc, cc, rfl, hL7, hk7⟩))
        obtain ⟨V1, B1, hV1, hB1, hb1, hkb1, -⟩ := fresh_block w7 (.cells #[.int .i64 3, .slice pc C.length cc] 27)
        rw [← hV1, ← hB1]
        have HH1 := Lib.hid (HHE.out.stay (hk7.trans hkb1))
        have HL1 := Lib.hid ((hL7.base (base' := 0) fun _ _ => Nat.zero_le _).stay hkb1)
        have HB1 := Lib.hid hb1
        have y0 := blk_cell (k := 0) hb1 rfl
        have y1 := blk_cell (k := 1) hb1 rfl
        clear hV1 hB1 hb1 hkb1 hk7 hL7 d1 c2 z0 z1 hPick
        go_upto_region 24 with (go_at_call 8; refine (dd.out _ _ _ HL1.out).1.mono ?_; rintro e w8 ⟨pe, ce, rfl, hL8, hk8⟩)
        obtain ⟨V2, B2, hV2, hB2, hb2, hkb2, -⟩ := fresh_block w8 (.cells #[.int .i64 3, .slice pe C.length ce] 27)
        rw [← hV2, ← hB2]
        have HK2 := Lib.hid (hk8.trans hkb2)
        have HL2 := Lib.hid (HL1.out.stay HK2.out)
        have y0 := HK2.out.stay y0
        have y1 := HK2.out.stay y1
        clear hV2 hB2 hb2 hkb2 hk8 hL8
        go_upto_region 25 with (go_at_call 8; refine (dd.out _ _ _ HL2.out).2.1.mono ?_; rintro e w9 ⟨pf, cf, rfl, hL9, hk9⟩)
        obtain ⟨V3, B3, hV3, hB3, hb3, hkb3, -⟩ := fresh_block w9 (.cells #[.int .i64 3, .slice pf C.length cf] 27)
        rw [← hV3, ← hB3]
        have HK3 := Lib.hid (hk9.trans hkb3)
        have HL3 := Lib.hid (HL2.out.stay HK3.out)
        have y0 := HK3.out.stay y0
        have y1 := HK3.out.stay y1
        clear hV3 hB3 hb3 hkb3 hk9 hL9
        go_upto_region 26 with (go_at_call 8; refine (dd.out _ _ _ HL3.out).2.2.mono ?_; rintro e w10 ⟨pg, cg, rfl, hL10, hk10⟩)
        obtain ⟨V4, B4, hV4, hB4, hb4, hkb4, -⟩ := fresh_block w10 (.cells #[.int .i64 3, .slice pg A.length cg] 27)
        rw [← hV4, ← hB4]
        have HK4 := Lib.hid ((HK2.out.trans HK3.out).trans (hk10.trans hkb4))
        have HL4 := Lib.hid (hL10.stay hkb4)
        have y1 := (hk10.trans hkb4).stay y1
        have HH4 := Lib.hid (HH1.out.stay HK4.out)
        have x0 := blk_cell (k := 0) hb4 rfl
        have x1 := blk_cell (k := 1) hb4 rfl
        have z0 := blk_cell (k := 0) HH4.out.blkA rfl
        have z1 := blk_cell (k := 1) HH4.out.blkA rfl
        have hml := fun ty => HH4.out.map.len (P := Try.prog) ty Try.underlying31
        rw [hml0.out] at hml
        have hSm : Hid (Calls Try.prog 10 #[.agg #[.int .i64 3, .slice pg A.length cg], .agg #[.int .i64 3, .slice pa A.length ca]] V4 fun e w' => e = .returned (.bool true) ∧ KeepBut (fun _ => False) V4 w') := by
          have := same_any V4 3 3 pg pa cg ca A A HL4.out.1 HH4.out.liesA.1 HL.out.1 HL.out.1
          rw [show decide ((3 : Int) = 3 ∧ A = A) = true by simp] at this
          exact this
        clear hV4 hB4 hb4 hkb4 hk10 hL10 y0
        go_wp2_with (go_at_call 10; refine hSm.out.mono ?_; rintro e w11 ⟨rfl, hk11⟩)
        go_ret
        exact ⟨rfl, HH4.out.keep.trans hk11⟩

end Go.Proofs.Ytopodipjapiaoaa
