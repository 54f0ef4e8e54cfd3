/-
  fencepostlaw29.HistOrders returns true of every history, and what it was given reads afterwards as it did. The package-level variables that its row lists are tied to the program's text by the given tie. No other condition.
-/
import Derived.Test.YtoolpifkfgileaaDoorJo18
import Derived.Test.YtoolpifkfgileaaDoorJo19
import Derived.Test.YtoolpifkfgileaaDoorCards
import Derived.Test.YtoolpifkfgileaaDoorTie
import Derived.SevenTiedAt
namespace Go.Proofs.YtoolpifkfgileaaDoor
open Go Go.ChangeShapes Go.WideShapes Go.ChangeAt Go.RowKit Own

set_option maxRecDepth 100000 in
theorem orders_lifted (os : Os) (started : os.Started) (H : Type) (enc : TypeId × Value → H) :
    ReturnsInHanded {} Tryd.checked os 8 .any (fun w args => (Rows.histOrdersSpec.pre enc Tryd.prog Tryd.f8 Rows.histOrdersRow.domain false w args ∧ laidMetH Tryd.prog Rows.histOrdersRow.laid w) ∧ sizedMet enc Tryd.prog Tryd.f8 (OpenSpec.ofChange Rows.histOrdersSpec) false w args)
      (Rows.histOrdersSpec.post enc Tryd.prog Tryd.f8 false true false false) := by
  refine returnsInHanded_of_change_and (C := Tryd.checked) (X := fun w _ => laidMetH Tryd.prog Rows.histOrdersRow.laid w) (fun _ _ _ hh h => h.of_heap hh) Tryd.own started (by kernel_rfl) Tryd.func8
    (ChangeSpec.witness_shaped (enc := enc) (C := Tryd.checked) (os := os) (X := fun w _ => laidMetH Tryd.prog Rows.histOrdersRow.laid w) false (World.laidAll Tryd.prog os Rows.histOrdersRow.laid) #[.agg #[.slice none 0 0, .slice none 0 0]] 8 (World.laidAll_os _ _ _)
      (World.shaped_of_ZipB (by kernel_rfl) (by kernel_rfl)) (by kernel_rfl) (by kernel_rfl) (by kernel_rfl)
      (by rw [MakeChecks.laidMetH_plain _ _ _ (by kernel_rfl)]; exact laidMet_laidAll _ (by kernel_rfl) (by kernel_rfl))) ?_
  intro W base args ds gs0 before hval0 hW hcnd hwt hL _
  have hval : ∀ (j : Nat) t v, Tryd.f8.params[j]? = some t → args[j]? = some v → Value.okWide Tryd.prog W .any base t v := hval0
  have hW' := hW
  obtain ⟨p, q, hA0, hV, rfl, hfz, hnd⟩ := hW
  have hA : DataW.TrodAll enc Tryd.prog W 0 (fun _ => true) true Tryd.f8.params.toList args.toList ds p := hA0
  rw [Tryd.params8] at hA hval
  have hAk := hA
  obtain ⟨v0, a0, d0, ds0, q0, r0, ha, rfl, h0, hA⟩ := trodAll_head hA
  obtain ⟨rfl, rfl⟩ := trodAll_end hA
  obtain ⟨la0⟩ := args
  simp only at ha
  subst ha
  obtain ⟨rfl, rfl⟩ := trodVars_none hV
  have htab := tab_of_laid hL
  obtain ⟨pk, pc, ck, cc, ks, cs, rfl, hx0⟩ := open_hist (hval 0 _ v0 rfl rfl) h0 htab.1 htab.2
  clear hA0 hval0
  simp only [List.append_nil] at hW'
  have hlt : ∀ y ∈ p, y.block < W.heap.size := fun y hy => by simpa using hW'.lt y hy
  have hwalk : Calls Tryd.prog 8 #[histV pk pc ck cc ks cs] W fun e w' => TrueOf W e w' := by
    by_cases hb : 26 < cs.length ∨ 8 < ks.length
    · exact orders_many W pk pc ck cc ks cs htab.1 htab.2 hb
    · exact orders_walk W pk pc ck cc ks cs (hx0 (by omega) (by omega)) (by omega)
  refine hwalk.mono fun e W' ⟨he, hk⟩ => ?_
  subst he
  have hb := hk.below
  exact ⟨_, rfl, _, _, _, [], p, [], hW', trodAll_mk1 (shut_bool Tryd.underlying4 true), trodAll_below Tryd.laidOut hb _ _ _ _ (by kernel_rfl) hAk hlt, rfl, hb.frame _, fun h => by cases h⟩

theorem orders_said : Rows.HistOrdersSaid :=
  OpenClaim.holds_of_wide 8 Tryd.f8 rfl rfl rfl rfl rfl rfl rfl ⟨rfl, rfl, rfl, rfl, rfl⟩ rfl rfl rfl rfl rfl (by kernel_rfl) Tryd.func8 (by kernel_rfl)
    (of_decide_eq_true (by kernel_rfl)) (by unfold Func.isWrapper; rw [if_neg (of_decide_eq_false (by kernel_rfl))]; exact ⟨rfl, rfl⟩)
    (fun os started H enc _ => orders_lifted os started H enc)

theorem orders_card : Rows.HistOrdersCardSaid :=
  Claim7.holds_tied_plain_at .later [] [.data, .data, .data] true Rows.histOrdersCard.stood.harness false orders_said (fun _ h => by cases h) (by kernel_rfl) (fun _ h => by cases h) histOrders_row_tie rfl ⟨rfl, rfl⟩ (by kernel_rfl) rfl
    (fun f fn hf hfn => by
      obtain rfl : f = 8 := Option.some.inj ((show Tryd.prog.funcNamed "fencepost/fencepostlaw29.HistOrders" = some 8 by kernel_rfl).symm.trans hf) |>.symm
      obtain rfl : fn = Tryd.f8 := (Option.some.inj (Tryd.func8.symm.trans hfn)).symm
      exact ⟨by kernel_rfl, fun j t ht => by
        rw [Tryd.params8] at ht
        have hm : t ∈ [25] := by simpa using Array.mem_of_getElem? ht
        have hall : ([25].all fun u => !Tryd.prog.wantsStandIn u) = true := by kernel_rfl
        exact (show Tryd.prog.wantsStandIn t = false by simpa using List.all_eq_true.1 hall t hm)⟩)
    (by kernel_rfl)
#print axioms orders_card

end Go.Proofs.YtoolpifkfgileaaDoor
