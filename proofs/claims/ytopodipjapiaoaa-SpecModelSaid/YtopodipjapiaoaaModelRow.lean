/-
  fencepostlaw19.SpecModel returns true for every kind and every slice of calls, and what it was given reads afterwards as it did. No condition.
-/
import Derived.Test.YtopodipjapiaoaaModel
import Derived.Test.YtopodipjapiaoaaRows
import Derived.ProofKit
import Derived.Deep.SlicePairs
namespace Go.Proofs.Ytopodipjapiaoaa
open Go Go.ChangeShapes Go.WideShapes Go.ChangeAt Go.RowKit Own

theorem Try.own : ownKnob Try.prog.godebug = none := by kernel_rfl
theorem Try.laidOut : laidOutB Try.prog = true := by kernel_rfl
theorem Try.cells64 : Try.prog.cellsOf 2 = 1 := by kernel_rfl
theorem Try.cellsInt : Try.prog.cellsOf 3 = 1 := by kernel_rfl
theorem Try.cellsCall : Try.prog.cellsOf 35 = 2 := by kernel_rfl

set_option maxRecDepth 100000 in
/-- more calls than are gone through -/
theorem model_many (w : World) (p : Option Addr) (n c : Nat) (k : Int) (hn : 100 < n) :
    Calls Try.prog 3 #[.int .i64 k, .slice p n c] w fun e w' => e = .returned (.bool true) ∧ KeepBut (fun _ => False) w w' := by
  have hlt : (100 : Int) < n := by omega
  go_enter Try.func3, Try.ntmps3
  go_wp2_with (go_at_call 5; refine (lives_any _).mono ?_; rintro e w1 ⟨rfl, hk1⟩)
  go_ret
  exact ⟨rfl, hk1⟩

/-- a slice of calls, opened: its cells -/
theorem cells_of_calls {H : Type} {enc : TypeId × Value → H} {W : World} {fuel : Nat} {a0 : Option Addr} {len cap : Nat} {d : DataW H} {p : List MemPlace}
    (hf : DataW.trod enc Try.prog W 0 (fun _ => true) true fuel 22 (Value.slice a0 len cap).cells.toList = some (d, p)) :
    ∃ L A : Nat → Int, ∀ j, j < len → ∃ b o, a0 = some ⟨b, o, none⟩ ∧ W.cell? ⟨b, o + j * 2, none⟩ = some (.int .i64 (L j)) ∧ W.cell? ⟨b, o + j * 2 + 1, none⟩ = some (.int .i64 (A j)) := by
  rcases Go.Deep.open_slice_pairs Try.underlying22 Try.underlying35 Try.cellsCall rfl rfl Try.cellsInt Try.cells64 hf with ⟨hcs, _⟩ | ⟨a, len', cap', m, k, V0, V1, D0, D1, P0, P1, hcs, _, hl, hm, hmm, _, hall⟩
  · simp [Value.cells] at hcs
    obtain ⟨rfl, rfl, rfl⟩ := hcs
    exact ⟨fun _ => 0, fun _ => 0, fun j hj => absurd hj (Nat.not_lt_zero j)⟩
  · simp [Value.cells] at hcs
    obtain ⟨rfl, rfl, rfl⟩ := hcs
    simp only [if_true] at hmm
    refine ⟨fun i => match V0 i with | .int _ z => z | _ => 0, fun i => match V1 i with | .int _ z => z | _ => 0, fun j hj => ?_⟩
    obtain ⟨b, o, s⟩ := a
    have hs : s = none := by simpa [Addr.add] using World.cell?_spot (hall 0 (by omega)).1
    subst hs
    obtain ⟨h0, h1, t0, t1⟩ := hall j (by omega)
    obtain ⟨z0, e0, _, _⟩ := DataW.trod_int Try.underlying3 t0
    obtain ⟨z1, e1, _, _⟩ := DataW.trod_int Try.underlying2 t1
    simp only [List.cons.injEq, and_true] at e0 e1
    rw [add_off] at h0 h1
    refine ⟨b, o, rfl, ?_, ?_⟩
    · simp only [h0, e0]
    · rw [Nat.add_assoc]; simp only [h1, e1]

set_option maxRecDepth 100000 in
theorem model_lifted (os : Os) (started : os.Started) (H : Type) (enc : TypeId × Value → H) :
    ReturnsInHanded {} Try.checked os 3 .any (Rows.specModelSpec.pre6 enc Try.prog Try.f3 Rows.specModelRow.domain false) (Rows.specModelSpec.post enc Try.prog Try.f3 false true false false) := by
  refine returnsInHanded_of_change (C := Try.checked) Try.own started (by kernel_rfl) Try.func3
    (ChangeSpec.witness6 (enc := enc) (C := Try.checked) false ⟨#[], #[.int .i64 0, .slice none 0 0], []⟩ 8 (by kernel_rfl) (by kernel_rfl) (by kernel_rfl) (by kernel_rfl)) ?_
  intro W base args ds gs before hval0 hW hcnd _
  have hval : ∀ (j : Nat) t v, Try.f3.params[j]? = some t → args[j]? = some v → Value.okWide Try.prog W .any base t v := hval0
  have hW' := hW
  obtain ⟨p, q, hA0, hV, rfl, hfz, hnd⟩ := hW
  have hA : DataW.TrodAll enc Try.prog W 0 (fun _ => true) true Try.f3.params.toList args.toList ds p := hA0
  rw [Try.params3] at hA hval
  obtain ⟨v0, v1, d0, d1, p0, p1, rfl, rfl, rfl, h0, h1⟩ := trodAll_two hA
  obtain ⟨rfl, rfl⟩ := trodVars_none hV
  have h0k := h0
  have h1k := h1
  obtain ⟨a0, la, ca, rfl⟩ := okWide_slice Try.underlying22 (hval 1 22 v1 rfl rfl)
  obtain ⟨x, rfl, rfl, rfl, wx⟩ := open_int Try.underlying3 (hval 0 3 v0 rfl rfl) h0
  obtain ⟨fa, hfa⟩ := h1
  obtain ⟨L, A, hL⟩ := cells_of_calls hfa
  clear hA0 hval0
  simp only [List.append_nil] at hW'
  have hlt : ∀ y ∈ p1, y.block < W.heap.size := fun y hy => by simpa using hW'.lt y (by simp [hy])
  have hwalk : Calls Try.prog 3 #[.int .i64 x, .slice a0 la ca] W fun e w' => e = .returned (.bool true) ∧ KeepBut (fun _ => False) W w' := by
    by_cases h100 : la ≤ 100
    · exact model_walk W x a0 la ca h100 L A hL
    · exact model_many W a0 la ca x (by omega)
  refine hwalk.mono fun e W' ⟨he, hk⟩ => ?_
  subst he
  have hb := hk.below
  refine ⟨_, rfl, _, _, _, [], [] ++ p1, [], hW', trodAll_mk1 (shut_bool Try.underlying4 true), trodAll_mk2 (Below.trod Try.laidOut (by kernel_rfl) (of_decide_eq_true (by kernel_rfl)) h0k hb (fun y hy => by cases hy)) (Below.trod Try.laidOut (by kernel_rfl) (of_decide_eq_true (by kernel_rfl)) h1k hb hlt), rfl, hb.frame _, fun h => by cases h⟩

theorem model_holds : Rows.SpecModelSaid :=
  OpenClaim.holds_of_wide 3 Try.f3 rfl rfl rfl rfl rfl rfl rfl ⟨rfl, rfl, rfl, rfl, rfl⟩ rfl rfl rfl rfl rfl (by kernel_rfl) Try.func3 (by kernel_rfl)
    (of_decide_eq_true (by kernel_rfl)) (by unfold Func.isWrapper; rw [if_neg (of_decide_eq_false (by kernel_rfl))]; exact ⟨rfl, rfl⟩)
    (fun os started H enc _ => model_lifted os started H enc)

#print axioms model_holds

end Go.Proofs.Ytopodipjapiaoaa
