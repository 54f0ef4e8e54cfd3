/-
  fencepostlaw16.LexCalls returns true of every source, word and tokens. The package-level variables that its row lists are tied to the program's text by the given tie. No other condition.
-/
import Derived.Test.YtmklmlocldbaoaaDoorCallsW16
import Derived.Test.YtmklmlocldbaoaaDoorToks
import Derived.Test.YtmklmlocldbaoaaDoorTab16
import Derived.Test.YtmklmlocldbaoaaDoorTrod
import Derived.Test.YtmklmlocldbaoaaDoorCards
import Derived.Test.YtmklmlocldbaoaaDoorTie
import Derived.SevenTiedAt
namespace Go.Proofs.YtmklmlocldbaoaaDoor
open Go Go.ChangeShapes Go.WideShapes Go.ChangeAt Go.RowKit Own
open Go.ChangeMaps (open_string)

set_option maxRecDepth 100000 in
theorem calls_lifted (os : Os) (started : os.Started) (H : Type) (enc : TypeId × Value → H) :
    ReturnsInHanded {} Tryd.checked os 8 .any (fun w args => (Rows.lexCallsSpec.pre enc Tryd.prog Tryd.f8 Rows.lexCallsRow.domain false w args ∧ laidMetH Tryd.prog Rows.lexCallsRow.laid w) ∧ sizedMet enc Tryd.prog Tryd.f8 (OpenSpec.ofChange Rows.lexCallsSpec) false w args)
      (Rows.lexCallsSpec.post enc Tryd.prog Tryd.f8 false true false false) := by
  refine returnsInHanded_of_change_and (C := Tryd.checked) (X := fun w _ => laidMetH Tryd.prog Rows.lexCallsRow.laid w) (fun _ _ _ hh h => h.of_heap hh) Tryd.own started (by kernel_rfl) Tryd.func8
    (ChangeSpec.witness_shaped (enc := enc) (C := Tryd.checked) (os := os) (X := fun w _ => laidMetH Tryd.prog Rows.lexCallsRow.laid w) false (World.laidAll Tryd.prog os Rows.lexCallsRow.laid) #[.string ByteArray.empty, .string ByteArray.empty, .slice none 0 0, .slice none 0 0] 8 (World.laidAll_os _ _ _)
      (World.shaped_of_ZipB (by kernel_rfl) (by kernel_rfl)) (by kernel_rfl) (by kernel_rfl) (by kernel_rfl)
      (by rw [MakeChecks.laidMetH_plain _ _ _ (by kernel_rfl)]; exact laidMet_laidAll _ (by kernel_rfl) (by kernel_rfl))) ?_
  intro W base args ds gs0 before hval0 hW hcnd hwt hL _
  have hval : ∀ (j : Nat) t v, Tryd.f8.params[j]? = some t → args[j]? = some v → Value.okWide Tryd.prog W .any base t v := hval0
  have hW' := hW
  obtain ⟨p, q, hA0, hV, rfl, hfz, hnd⟩ := hW
  have hA : DataW.TrodAll enc Tryd.prog W 0 (fun _ => true) true Tryd.f8.params.toList args.toList ds p := hA0
  rw [Tryd.params8] at hA hval
  have hAk := hA
  obtain ⟨v0, a0, d0, ds0, q0, r0, ha, rfl, h0, hA⟩ := trodAll_head hA
  obtain ⟨v1, a1, d1, ds1, q1, r1, rfl, rfl, h1, hA⟩ := trodAll_head hA
  obtain ⟨v2, a2, d2, ds2, q2, r2, rfl, rfl, h2, hA⟩ := trodAll_head hA
  obtain ⟨v3, a3, d3, ds3, q3, r3, rfl, rfl, h3, hA⟩ := trodAll_head hA
  obtain ⟨rfl, rfl⟩ := trodAll_end hA
  obtain ⟨la0⟩ := args
  simp only at ha
  subst ha
  obtain ⟨rfl, rfl⟩ := trodVars_none hV
  have htab := tab_of_laid hL
  obtain ⟨s, rfl, rfl, _, _⟩ := open_string Tryd.underlying9 (hval 0 9 v0 rfl rfl) h0
  obtain ⟨t, rfl, rfl, _, _⟩ := open_string Tryd.underlying9 (hval 1 9 v1 rfl rfl) h1
  obtain ⟨pp, la, cp, rfl⟩ := okWide_slice toks_ty (hval 2 23 v2 rfl rfl)
  obtain ⟨pq, lb, cq, rfl⟩ := okWide_slice toks_ty (hval 3 23 v3 rfl rfl)
  obtain ⟨f2, hf2⟩ := h2
  obtain ⟨f3, hf3⟩ := h3
  obtain ⟨l2, hl2, hx2, hw2⟩ := toks_open hf2
  obtain ⟨l3, hl3, hx3, -⟩ := toks_open hf3
  have hts : ∀ x ∈ l2, x.s.size ≤ 140737488351232 := fun x hx => by
    have := List.all_eq_true.1 hwt _ (DataW.weights_mem_each (j := 2) (t := 23) rfl rfl _ (hw2 x hx))
    exact of_decide_eq_true this
  clear hA0 hval0
  simp only [List.append_nil] at hW'
  have hlt : ∀ y ∈ p, y.block < W.heap.size := fun y hy => by simpa using hW'.lt y hy
  have hwalk : Calls Tryd.prog 8 #[.string s, .string t, .slice pp la cp, .slice pq lb cq] W fun e w' => e = .returned (.bool true) ∧ KeepBut (fun _ => False) W w' := by
    by_cases hb : 9000 < s.size ∨ 9000 < t.size ∨ 9000 < la ∨ 9000 < lb
    · exact calls16_many s t pp pq cp cq la lb W htab hb
    · rw [← hl2, ← hl3]
      exact calls16_walk s t pp pq cp cq l2 l3 W htab hx2 hx3 hts (by omega) (by omega) (by omega) (by omega)
  refine hwalk.mono fun e W' ⟨he, hk⟩ => ?_
  subst he
  have hb := hk.below
  exact ⟨_, rfl, _, _, _, [], p, [], hW', trodAll_mk1 (shut_bool Tryd.underlying4 true), trodAll_below Tryd.laidOut hb _ _ _ _ (by kernel_rfl) hAk hlt, rfl, hb.frame _, fun h => by cases h⟩

theorem calls_said : Rows.LexCallsSaid :=
  OpenClaim.holds_of_wide 8 Tryd.f8 rfl rfl rfl rfl rfl rfl rfl ⟨rfl, rfl, rfl, rfl, rfl⟩ rfl rfl rfl rfl rfl (by kernel_rfl) Tryd.func8 (by kernel_rfl)
    (of_decide_eq_true (by kernel_rfl)) (by unfold Func.isWrapper; rw [if_neg (of_decide_eq_false (by kernel_rfl))]; exact ⟨rfl, rfl⟩)
    (fun os started H enc _ => calls_lifted os started H enc)

theorem calls_card : Rows.LexCallsCardSaid :=
  Claim7.holds_tied_plain_at .later [] [.listed, .data] true Rows.lexCallsCard.stood.harness false calls_said (fun _ h => by cases h) (by kernel_rfl) (fun _ h => by cases h) lexCalls_row_tie rfl ⟨rfl, rfl⟩ (by kernel_rfl) rfl
    (fun f fn hf hfn => by
      obtain rfl : f = 8 := Option.some.inj ((show Tryd.prog.funcNamed "fencepost/fencepostlaw16.LexCalls" = some 8 by kernel_rfl).symm.trans hf) |>.symm
      obtain rfl : fn = Tryd.f8 := (Option.some.inj (Tryd.func8.symm.trans hfn)).symm
      exact ⟨by kernel_rfl, fun j t ht => by
        rw [Tryd.params8] at ht
        have hm : t ∈ [9, 9, 23, 23] := by simpa using Array.mem_of_getElem? ht
        have hall : ([9, 9, 23, 23].all fun u => !Tryd.prog.wantsStandIn u) = true := by kernel_rfl
        exact (show Tryd.prog.wantsStandIn t = false by simpa using List.all_eq_true.1 hall t hm)⟩)
    (by kernel_rfl)
#print axioms calls_card

end Go.Proofs.YtmklmlocldbaoaaDoor
