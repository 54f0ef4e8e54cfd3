/-
  Package hist: calls as they lie in memory; Ahead; LightHist.
-/
import Derived.Test.YtoolpifkfgileaaDoorMayLaw
import Derived.Test.YtoolpifkfgileaaDoorOwnC
import Derived.Test.YtoolpifkfgileaaDoorMay
namespace Go.Proofs.YtoolpifkfgileaaDoor
open Go Go.RowKit Own

/-- a call -/
structure Cl where
  hart : Int
  cont : Int
  op : Int
  arg : Int
  beg : Int
  till : Int
  value : Int
  code : Int

def Cl.zero : Cl := ⟨0, 0, 0, 0, 0, 0, 0, 0⟩
def Cl.vals (c : Cl) : List Value := [.int .i64 c.hart, .int .i64 c.cont, .int .i64 c.op, .int .i64 c.arg, .int .i64 c.beg, .int .i64 c.till, .int .i64 c.value, .int .i64 c.code]
def nthC (cs : List Cl) (i : Nat) : Cl := cs.getD i Cl.zero

/-- calls are read from p on -/
def RowC (w : World) (p : Option Addr) (l : List Cl) : Prop := ∀ i, i < l.length → ∃ g o, p = some ⟨g, o, none⟩ ∧
  w.cell? ⟨g, o + i * 8, none⟩ = some (.int .i64 (nthC l i).hart) ∧ w.cell? ⟨g, o + i * 8 + 1, none⟩ = some (.int .i64 (nthC l i).cont) ∧ w.cell? ⟨g, o + i * 8 + 2, none⟩ = some (.int .i64 (nthC l i).op) ∧
  w.cell? ⟨g, o + i * 8 + 3, none⟩ = some (.int .i64 (nthC l i).arg) ∧ w.cell? ⟨g, o + i * 8 + 4, none⟩ = some (.int .i64 (nthC l i).beg) ∧ w.cell? ⟨g, o + i * 8 + 5, none⟩ = some (.int .i64 (nthC l i).till) ∧
  w.cell? ⟨g, o + i * 8 + 6, none⟩ = some (.int .i64 (nthC l i).value) ∧ w.cell? ⟨g, o + i * 8 + 7, none⟩ = some (.int .i64 (nthC l i).code)

theorem RowC.stay {w w' : World} {p : Option Addr} {l : List Cl} (h : RowC w p l) (k : KeepBut (fun _ => False) w w') : RowC w' p l := fun i hi => by
  obtain ⟨g, o, h0, h1, h2, h3, h4, h5, h6, h7, h8⟩ := h i hi
  exact ⟨g, o, h0, k.stay h1, k.stay h2, k.stay h3, k.stay h4, k.stay h5, k.stay h6, k.stay h7, k.stay h8⟩

/-- a history's value -/
def histV (pk pc : Option Addr) (ck cc : Nat) (ks : List Int) (cs : List Cl) : Value := .agg #[.slice pk ks.length ck, .slice pc cs.length cc]

theorem blk2 {w : World} {B : Nat} {a b : Value} {T : TypeId} (h : w.heap[B]? = some (.cells #[a, b] T (0, 0))) :
    w.cell? ⟨B, 0, none⟩ = some a ∧ w.cell? ⟨B, 1, none⟩ = some b ∧ w.frozen? ⟨B, 0, none⟩ = false ∧ w.frozen? ⟨B, 1, none⟩ = false := by
  simp [World.cell?, World.frozen?, h]

def aheadB (cs : List Cl) (i k : Nat) : Bool := decide (0 ≤ (nthC cs i).till) && decide ((nthC cs i).till < (nthC cs k).beg)

set_option maxHeartbeats 4000000 in
theorem ahead_in (w : World) (pk pc : Option Addr) (ck cc : Nat) (ks : List Int) (cs : List Cl) (hc : RowC w pc cs) (i k : Nat) (hi : i < cs.length) (hk : k < cs.length) :
    Calls Tryd.prog 26 #[histV pk pc ck cc ks cs, .int .i64 i, .int .i64 k] w fun e w' => e = .returned (.bool (aheadB cs i k)) ∧ KeepBut (fun _ => False) w w' := by
  obtain ⟨V, B, hV, hB, hb, hkV, -⟩ := fresh_block w (.cells #[.slice pk ks.length ck, .slice pc cs.length cc] 25)
  obtain ⟨b0, b1, -⟩ := blk2 hb
  obtain ⟨g, o, hg, -, -, -, -, -, y5, -⟩ := (hc.stay hkV) i hi
  obtain ⟨g', o', hg', -, -, -, -, z4, -⟩ := (hc.stay hkV) k hk
  rw [hg] at hg'
  cases hg'
  subst hg
  have HK := Lib.hid hkV
  have i0 : (0 : Int) ≤ i := by omega
  have i1 : (i : Int) < cs.length := by omega
  have k0 : (0 : Int) ≤ k := by omega
  have k1 : (k : Int) < cs.length := by omega
  unfold histV
  clear hb hc
  have hmin : ¬ min (i : Int) (k : Int) < 0 := by omega
  have hmax : max (i : Int) (k : Int) < cs.length := by omega
  by_cases h1 : 0 ≤ (nthC cs i).till
  · by_cases h2 : (nthC cs i).till < (nthC cs k).beg
    · have HE := Lib.hid (show aheadB cs i k = true by simp [aheadB, h1, h2])
      go_enter Tryd.func26, Tryd.ntmps26
      go_upto_region 1 with fail
      rw [← hV, ← hB]
      clear hV hB hkV
      go_wp2_with fail
      go_quiet (fail)
      go_wp2_with fail
      go_ret
      exact ⟨ret_bool HE.out.symm, HK.out.trans (KeepBut.drewN _ _ _)⟩
    · have HE := Lib.hid (show aheadB cs i k = false by simp [aheadB, h2])
      have d2 : decide ((nthC cs i).till < (nthC cs k).beg) = false := decide_eq_false h2
      go_enter Tryd.func26, Tryd.ntmps26
      go_upto_region 1 with fail
      rw [← hV, ← hB]
      clear hV hB hkV
      go_wp2_with fail
      go_quiet (fail)
      go_wp2_with fail
      go_ret
      exact ⟨ret_bool HE.out.symm, HK.out.trans (KeepBut.drewN _ _ _)⟩
  · have HE := Lib.hid (show aheadB cs i k = false by simp [aheadB, h1])
    have d1 : decide (0 ≤ (nthC cs i).till) = false := decide_eq_false h1
    go_enter Tryd.func26, Tryd.ntmps26
    go_upto_region 1 with fail
    rw [← hV, ← hB]
    clear hV hB hkV
    go_wp2_with fail
    go_quiet (fail)
    go_wp2_with fail
    go_ret
    exact ⟨ret_bool HE.out.symm, HK.out.trans (KeepBut.drewN _ _ _)⟩

end Go.Proofs.YtoolpifkfgileaaDoor
