/-
  fencepostkit.Pick.
-/
import Derived.Test.YtoolpifkfgileaaDoorKit
namespace Go.Proofs.YtoolpifkfgileaaDoor
open Go Go.RowKit Own

/-- fencepostkit.Pick -/
def pick (k n : Int) : Int := if k.tmod n < 0 then k.tmod n + n else k.tmod n
theorem pick_range {k n : Int} (hn : 0 < n) : 0 ≤ pick k n ∧ pick k n < n := by
  have h1 := Int.tmod_lt_of_pos k hn
  have h2 := Int.lt_tmod_of_pos k hn
  unfold pick
  split <;> omega

set_option maxHeartbeats 1000000 in
theorem pick_any (w : World) (k n : Int) (hn : 0 < n) (hn2 : n ≤ 9223372036854775807) :
    Calls Tryd.prog 14 #[.int .i64 k, .int .i64 n] w fun e w' => e = .returned (.int .i64 (pick k n)) ∧ w' = w := by
  have h1 := Int.tmod_lt_of_pos k hn
  have h2 := Int.lt_tmod_of_pos k hn
  have hW : IntKind.i64.wrap (k.tmod n) = k.tmod n := IntWalk.i64_in _ (by omega)
  have hn0 : ¬ n = 0 := by omega
  have hn1 : ¬ n < 1 := by omega
  by_cases h : k.tmod n < 0
  · have hW2 : IntKind.i64.wrap (k.tmod n + n) = k.tmod n + n := IntWalk.i64_in _ (by omega)
    have HF := Lib.hid (show pick k n = k.tmod n + n from if_pos h)
    go_enter Tryd.func14, Tryd.ntmps14
    go_wp2_with fail
    go_ret
    exact ⟨ret_int HF.out.symm, rfl⟩
  · have HF := Lib.hid (show pick k n = k.tmod n from if_neg h)
    go_enter Tryd.func14, Tryd.ntmps14
    go_wp2_with fail
    go_ret
    exact ⟨ret_int HF.out.symm, rfl⟩

end Go.Proofs.YtoolpifkfgileaaDoor
