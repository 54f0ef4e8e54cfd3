/-
  fencepostlaw19.SpecCalls returns true of every two contents, operation, argument, value, code and kind, and what it was given reads afterwards as it did. The package-level variables that its row lists are tied to the program's text by the given tie. No other condition.
-/
import Derived.Test.YtopodipjapiaoaaDoorCallsW
import Derived.Test.YtopodipjapiaoaaDoorContent
import Derived.Test.YtopodipjapiaoaaDoorCards
import Derived.Test.YtopodipjapiaoaaDoorTie
import Derived.SevenTiedAt
namespace Go.Proofs.YtopodipjapiaoaaDoor
open Go Go.ChangeShapes Go.WideShapes Go.ChangeAt Go.RowKit Own

set_option maxRecDepth 100000 in
/-- more items than are gone through -/
theorem calls_many (w : World) (k l : Int) (p q : Option Addr) (n m cp cq : Nat) (op x v cd kd : Int) (h : 100 < n ∨ 100 < m) :
    Calls Tryd.prog 5 #[.agg #[.int .i64 k, .slice p n cp], .agg #[.int .i64 l, .slice q m cq], .int .i64 op, .int .i64 x, .int .i64 v, .int .i64 cd, .int .i64 kd] w fun e w' => e = .returned (.bool true) ∧ KeepBut (fun _ => False) w w' := by
  obtain ⟨W1, B6, hW1, hB6, hb6, hk1, hs1⟩ := fresh_block w (.cells #[.int .i64 k, .slice p n cp] 24)
  obtain ⟨W, B7, hWd, hB7, hb7, hkW, hs2⟩ := fresh_block W1 (.cells #[.int .i64 l, .slice q m cq] 24)
  have HK := Lib.hid (hk1.trans hkW)
  have hN : B6 + 1 = B7 := by omega
  have x1 := blk_cell (k := 1) (hkW.blk hb6) rfl
  have y1 := blk_cell (k := 1) hb7 rfl
  clear hb6 hb7 hkW hk1 hs1 hs2
  by_cases h1 : 100 < n
  · have hlt : (100 : Int) < n := by omega
    clear h h1
    go_enter Tryd.func5, Tryd.ntmps5
    go_upto_region 1 with fail
    rw [← hW1, ← hB6, ← hWd, hN]
    clear hWd hB6 hW1 hB7 hN
    go_wp2_with (go_at_call 9; refine (lives_any _).mono ?_; rintro e w1 ⟨rfl, hk1⟩; have x1 := hk1.stay x1; have y1 := hk1.stay y1; have HK1 := Lib.hid hk1; clear hk1)
    go_ret
    exact ⟨rfl, HK.out.trans HK1.out⟩
  · have hle : ¬ (100 : Int) < n := by omega
    have hlt : (100 : Int) < m := by omega
    clear h h1
    go_enter Tryd.func5, Tryd.ntmps5
    go_upto_region 1 with fail
    rw [← hW1, ← hB6, ← hWd, hN]
    clear hWd hB6 hW1 hB7 hN
    go_wp2_with (go_at_call 9; refine (lives_any _).mono ?_; rintro e w1 ⟨rfl, hk1⟩; have x1 := hk1.stay x1; have y1 := hk1.stay y1; have HK1 := Lib.hid hk1; clear hk1)
    go_ret
    exact ⟨rfl, HK.out.trans HK1.out⟩

set_option maxRecDepth 100000 in
theorem calls_lifted (os : Os) (started : os.Started) (H : Type) (enc : TypeId × Value → H) :
    ReturnsInHanded {} Tryd.checked os 5 .any (fun w args => (Rows.specCallsSpec.pre enc Tryd.prog Tryd.f5 Rows.specCallsRow.domain false w args ∧ laidMetH Tryd.prog Rows.specNamesRow.laid w) ∧ sizedMet enc Tryd.prog Tryd.f5 (OpenSpec.ofChange Rows.specCallsSpec) false w args)
      (Rows.specCallsSpec.post enc Tryd.prog Tryd.f5 false true false false) := by
  refine returnsInHanded_of_change_and (C := Tryd.checked) (X := fun w _ => laidMetH Tryd.prog Rows.specNamesRow.laid w) (fun _ _ _ hh h => h.of_heap hh) Tryd.own started (by kernel_rfl) Tryd.func5
    (ChangeSpec.witness_shaped (enc := enc) (C := Tryd.checked) (os := os) (X := fun w _ => laidMetH Tryd.prog Rows.specNamesRow.laid w) false (World.laidAll Tryd.prog os Rows.specNamesRow.laid) #[.agg #[.int .i64 0, .slice none 0 0], .agg #[.int .i64 0, .slice none 0 0], .int .i64 0, .int .i64 0, .int .i64 0, .int .i64 0, .int .i64 0] 8 (World.laidAll_os _ _ _)
      (World.shaped_of_ZipB (by kernel_rfl) (by kernel_rfl)) (by kernel_rfl) (by kernel_rfl) (by kernel_rfl)
      (by rw [MakeChecks.laidMetH_plain _ _ _ (by kernel_rfl)]; exact laidMet_laidAll _ (by kernel_rfl) (by kernel_rfl))) ?_
  intro W base args ds gs before hval0 hW hcnd _ hL _
  have hval : ∀ (j : Nat) t v, Tryd.f5.params[j]? = some t → args[j]? = some v → Value.okWide Tryd.prog W .any base t v := hval0
  have hW' := hW
  obtain ⟨p, q, hA0, hV, rfl, hfz, hnd⟩ := hW
  have hA : DataW.TrodAll enc Tryd.prog W 0 (fun _ => true) true Tryd.f5.params.toList args.toList ds p := hA0
  rw [Tryd.params5] at hA hval
  have hAk := hA
  obtain ⟨v0, a0, d0, ds0, q0, r0, ha, rfl, h0, hA⟩ := trodAll_head hA
  obtain ⟨v1, a1, d1, ds1, q1, r1, rfl, rfl, h1, hA⟩ := trodAll_head hA
  obtain ⟨v2, a2, d2, ds2, q2, r2, rfl, rfl, h2, hA⟩ := trodAll_head hA
  obtain ⟨v3, a3, d3, ds3, q3, r3, rfl, rfl, h3, hA⟩ := trodAll_head hA
  obtain ⟨v4, a4, d4, ds4, q4, r4, rfl, rfl, h4, hA⟩ := trodAll_head hA
  obtain ⟨v5, a5, d5, ds5, q5, r5, rfl, rfl, h5, hA⟩ := trodAll_head hA
  obtain ⟨v6, a6, d6, ds6, q6, r6, rfl, rfl, h6, hA⟩ := trodAll_head hA
  obtain ⟨rfl, rfl⟩ := trodAll_end hA
  obtain ⟨la⟩ := args
  simp only at ha
  subst ha
  obtain ⟨rfl, rfl⟩ := trodVars_none hV
  have htab := tab_of_laid hL
  obtain ⟨k, pp, cp, xs, rfl, hx, hp, hk, hxx⟩ := open_content (hval 0 _ v0 rfl rfl) h0
  obtain ⟨l, pq, cq, ys, rfl, hy, _, hl, hyy⟩ := open_content (hval 1 _ v1 rfl rfl) h1
  obtain ⟨op, rfl, _, _, _⟩ := open_int Tryd.underlying3 (hval 2 3 v2 rfl rfl) h2
  obtain ⟨x, rfl, _, _, _⟩ := open_int Tryd.underlying2 (hval 3 2 v3 rfl rfl) h3
  obtain ⟨v, rfl, _, _, _⟩ := open_int Tryd.underlying2 (hval 4 2 v4 rfl rfl) h4
  obtain ⟨cd, rfl, _, _, _⟩ := open_int Tryd.underlying3 (hval 5 3 v5 rfl rfl) h5
  obtain ⟨kd, rfl, _, _, _⟩ := open_int Tryd.underlying3 (hval 6 3 v6 rfl rfl) h6
  clear hA0 hval0
  simp only [List.append_nil] at hW'
  have hlt : ∀ y ∈ p, y.block < W.heap.size := fun y hy => by simpa using hW'.lt y hy
  have hwalk : Calls Tryd.prog 5 #[.agg #[.int .i64 k, .slice pp xs.length cp], .agg #[.int .i64 l, .slice pq ys.length cq], .int .i64 op, .int .i64 x, .int .i64 v, .int .i64 cd, .int .i64 kd] W fun e w' => e = .returned (.bool true) ∧ KeepBut (fun _ => False) W w' := by
    by_cases hb : 100 < xs.length ∨ 100 < ys.length
    · exact calls_many W k l pp pq xs.length ys.length cp cq op x v cd kd hb
    · exact calls_walk W k l pp pq cp cq xs ys hx hy (by omega) (by omega) hp op x v cd kd hk hxx htab
  refine hwalk.mono fun e W' ⟨he, hk⟩ => ?_
  subst he
  have hb := hk.below
  exact ⟨_, rfl, _, _, _, [], p, [], hW', trodAll_mk1 (shut_bool Tryd.underlying4 true), trodAll_below Tryd.laidOut hb _ _ _ _ (by kernel_rfl) hAk hlt, rfl, hb.frame _, fun h => by cases h⟩

theorem calls_said : Rows.SpecCallsSaid :=
  OpenClaim.holds_of_wide 5 Tryd.f5 rfl rfl rfl rfl rfl rfl rfl ⟨rfl, rfl, rfl, rfl, rfl⟩ rfl rfl rfl rfl rfl (by kernel_rfl) Tryd.func5 (by kernel_rfl)
    (of_decide_eq_true (by kernel_rfl)) (by unfold Func.isWrapper; rw [if_neg (of_decide_eq_false (by kernel_rfl))]; exact ⟨rfl, rfl⟩)
    (fun os started H enc _ => calls_lifted os started H enc)

theorem calls_card : Rows.SpecCallsCardSaid :=
  Claim7.holds_tied_plain_at .later [] [.data, .data, .data] true Rows.specCallsCard.stood.harness false calls_said (fun _ h => by cases h) (by kernel_rfl) (fun _ h => by cases h) specCalls_row_tie rfl ⟨rfl, rfl⟩ (by kernel_rfl) rfl
    (fun f fn hf hfn => by
      obtain rfl : f = 5 := Option.some.inj ((show Tryd.prog.funcNamed "fencepost/fencepostlaw19.SpecCalls" = some 5 by kernel_rfl).symm.trans hf) |>.symm
      obtain rfl : fn = Tryd.f5 := (Option.some.inj (Tryd.func5.symm.trans hfn)).symm
      exact ⟨by kernel_rfl, fun j t ht => by
        rw [Tryd.params5] at ht
        have hm : t ∈ [24, 24, 3, 2, 2, 3, 3] := by simpa using Array.mem_of_getElem? ht
        have hall : ([24, 24, 3, 2, 2, 3, 3].all fun u => !Tryd.prog.wantsStandIn u) = true := by kernel_rfl
        exact (show Tryd.prog.wantsStandIn t = false by simpa using List.all_eq_true.1 hall t hm)⟩)
    (by kernel_rfl)
#print axioms calls_card

end Go.Proofs.YtopodipjapiaoaaDoor
