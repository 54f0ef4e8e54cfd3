/-
  Package spec: the table of the deeds.
-/
import Derived.Test.YtoolpifkfgileaaDoorSpec3
import Derived.Test.YtoolpifkfgileaaDoorMap
namespace Go.Proofs.YtoolpifkfgileaaDoor
open Go Go.RowKit Own

def fnv (f : FuncId) : Value := .func (Fn.func f) #[] #[]
def deedTable : List (Int × Value) := [(1, fnv 72), (3, fnv 72), (2, fnv 73), (4, fnv 75),
  (5, fnv 76), (6, fnv 77), (7, fnv 78)]

set_option maxHeartbeats 1000000 in
theorem deeds_any (w : World) :
    Calls Tryd.prog 64 #[] w fun e w' => ∃ b, e = .returned (.map (some b)) ∧ w.heap.size ≤ b ∧ KeepBut (fun _ => False) w w' ∧ MapI .i64 w' b deedTable := by
  obtain ⟨W, N, hWd, hN, hWn, hkW, hWs⟩ := fresh_block w (.map #[] 0)
  have hm : MapI .i64 W N [] := by rw [hWd, hN]; exact MapI.made _ w
  have hNl := Lib.hid (Nat.le_of_eq hN.symm)
  have hrun : (Instr.makeMap 112 none).run Tryd.prog w = .ok (.map (some N)) W := by rw [hWd, hN]; exact run_makeMap _ w
  clear hWd hN hWn hWs
  obtain ⟨w1, h1, m1, k1⟩ := hm.update (mt := 112) Tryd.underlying112 Tryd.underlying3 1 (fnv 72)
  obtain ⟨w2, h2, m2, k2⟩ := m1.update (mt := 112) Tryd.underlying112 Tryd.underlying3 3 (fnv 72)
  obtain ⟨w3, h3, m3, k3⟩ := m2.update (mt := 112) Tryd.underlying112 Tryd.underlying3 2 (fnv 73)
  obtain ⟨w4, h4, m4, k4⟩ := m3.update (mt := 112) Tryd.underlying112 Tryd.underlying3 4 (fnv 75)
  obtain ⟨w5, h5, m5, k5⟩ := m4.update (mt := 112) Tryd.underlying112 Tryd.underlying3 5 (fnv 76)
  obtain ⟨w6, h6, m6, k6⟩ := m5.update (mt := 112) Tryd.underlying112 Tryd.underlying3 6 (fnv 77)
  obtain ⟨w7, h7, m7, k7⟩ := m6.update (mt := 112) Tryd.underlying112 Tryd.underlying3 7 (fnv 78)
  have hfin := Lib.hid (show KeepBut (fun _ => False) w w7 from hkW.new (((((((k1.trans k2).trans k3).trans k4).trans k5).trans k6).trans k7)) fun b hb => by have := hNl.out; have : b = N := hb; omega)
  have hmap : MapI .i64 w7 N deedTable := m7
  have HM := Lib.hid hmap
  clear hm m1 m2 m3 m4 m5 m6 m7 k1 k2 k3 k4 k5 k6 k7 hkW hmap
  unfold fnv at h1 h2 h3 h4 h5 h6 h7
  go_enter Tryd.func64, Tryd.ntmps64
  go_wp2_with fail
  exact bodyPost_ret (v := .map (some N)) (by simp [results, Tryd.results64, go_sem]) rfl ⟨N, rfl, hNl.out, hfin.out, HM.out⟩
end Go.Proofs.YtoolpifkfgileaaDoor
