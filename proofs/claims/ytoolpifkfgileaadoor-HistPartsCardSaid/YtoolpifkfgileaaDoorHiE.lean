/-
  Chapter 29: LightHist; wide; the chapter's examples live.
-/
import Derived.Test.YtoolpifkfgileaaDoorHp2
namespace Go.Proofs.YtoolpifkfgileaaDoor
open Go Go.RowKit Own

theorem light_any (w : World) (pk pc : Option Addr) (ck cc : Nat) (ks : List Int) (cs : List Cl) :
    Calls Tryd.prog 10 #[histV pk pc ck cc ks cs, .int .i64 26] w fun e w' => e = .returned (.bool (decide (cs.length ≤ 26) && decide (ks.length ≤ 8))) ∧ KeepBut (fun _ => False) w w' := by
  obtain ⟨V, B, hV, hB, hb, hkV, hsV⟩ := fresh_block w (.cells #[.slice pk ks.length ck, .slice pc cs.length cc] 25)
  obtain ⟨b0, b1, -⟩ := blk2 hb
  have HK := Lib.hid hkV
  unfold histV
  clear hb hkV hsV
  by_cases h1 : cs.length ≤ 26
  · by_cases h2 : ks.length ≤ 8
    · have q1 : decide ((cs.length : Int) ≤ 26) = true := decide_eq_true (by omega)
      have q2 : decide ((ks.length : Int) ≤ 8) = true := decide_eq_true (by omega)
      have HE := Lib.hid (show (decide (cs.length ≤ 26) && decide (ks.length ≤ 8)) = true by simp [h1, h2])
      clear h1 h2
      go_enter Tryd.func10, Tryd.ntmps10
      go_upto_region 1 with fail
      rw [← hV, ← hB]
      clear hV hB
      go_wp2_with fail
      go_ret
      exact ⟨ret_bool HE.out.symm, HK.out⟩
    · have q1 : decide ((cs.length : Int) ≤ 26) = true := decide_eq_true (by omega)
      have q2 : decide ((ks.length : Int) ≤ 8) = false := decide_eq_false (by omega)
      have HE := Lib.hid (show (decide (cs.length ≤ 26) && decide (ks.length ≤ 8)) = false by simp [h2])
      clear h1 h2
      go_enter Tryd.func10, Tryd.ntmps10
      go_upto_region 1 with fail
      rw [← hV, ← hB]
      clear hV hB
      go_wp2_with fail
      go_ret
      exact ⟨ret_bool HE.out.symm, HK.out⟩
  · have q1 : decide ((cs.length : Int) ≤ 26) = false := decide_eq_false (by omega)
    have HE := Lib.hid (show (decide (cs.length ≤ 26) && decide (ks.length ≤ 8)) = false by simp [h1])
    clear h1
    go_enter Tryd.func10, Tryd.ntmps10
    go_upto_region 1 with fail
    rw [← hV, ← hB]
    clear hV hB
    go_wp2_with fail
    go_ret
    exact ⟨ret_bool HE.out.symm, HK.out⟩

def SomeInt (w : World) (e : Ending) (w' : World) : Prop := ∃ z : Int, e = .returned (.int .i64 z) ∧ KeepBut (fun _ => False) w w'
def WRel (N : Nat) (w : World) (v3 v4 : Value) (wr : World) : Prop := ∃ (z : Int) (i : Nat), v3 = .int .i64 z ∧ 0 ≤ z ∧ z ≤ 60 ∧ v4 = .int .i64 i ∧ i ≤ N ∧ KeepBut (fun _ => False) w wr

set_option maxHeartbeats 16000000 in
theorem wide_any (w : World) (pk pc : Option Addr) (ck cc : Nat) (ks : List Int) (cs : List Cl) (hc : RowC w pc cs) (hl : cs.length ≤ 60) :
    Calls Tryd.prog 12 #[histV pk pc ck cc ks cs] w fun e w' => SomeInt w e w' := by
  obtain ⟨V, B, hV, hB, hb, hkV, hsV⟩ := fresh_block w (.cells #[.slice pk ks.length ck, .slice pc cs.length cc] 25)
  have HK := Lib.hid hkV; have HB := Lib.hid hb; have HC := Lib.hid (hc.stay hkV)
  unfold histV
  clear hb hkV hsV hc
  go_enter Tryd.func12, Tryd.ntmps12
  go_upto_region 1 with fail
  rw [← hV, ← hB]
  clear hV hB
  go_wp2_with fail
  go_loopw [3, 4] (fun v3 v4 wr => WRel cs.length V v3 v4 wr) (fun _ v _ => cs.length - (intOf v).toNat)
  case atStart => exact ⟨0, 0, rfl, by decide, by decide, rfl, Nat.zero_le _, KeepBut.refl _ _⟩
  case round =>
    obtain ⟨z, i, rfl, hz0, hz1, rfl, hi, hk⟩ := hrel
    obtain ⟨wo, rfl⟩ : ∃ wo : World, wo = wr := ⟨_, rfl⟩
    obtain ⟨b0, b1, -⟩ := blk2 (hk.blk HB.out)
    have HK1 := Lib.hid hk
    clear hk
    by_cases hlt : i < cs.length
    · have hlti : (i : Int) < cs.length := by omega
      have hi0 : (0 : Int) ≤ i := by omega
      have hWi : IntKind.i64.wrap ((i : Int) + 1) = (i : Int) + 1 := IntWalk.i64_in _ (by omega)
      go_wp2_with fail
      clear b0 b1
      go_loopw [5, 6] (fun v5 v6 wr => WRel cs.length V v5 v6 wr ∧ (intOf v5) ≤ (intOf v6)) (fun _ v _ => cs.length - (intOf v).toNat)
      case atStart => exact ⟨⟨0, 0, rfl, by decide, by decide, rfl, Nat.zero_le _, HK1.out⟩, by decide⟩
      case round =>
        obtain ⟨⟨a, k, rfl, ha0, ha1, rfl, hk, hkk⟩, hak⟩ := hrel
        have hak : a ≤ k := hak
        obtain ⟨b0, b1, -⟩ := blk2 (hkk.blk HB.out)
        have HK2 := Lib.hid hkk
        by_cases hlk : k < cs.length
        · have hlki : (k : Int) < cs.length := by omega
          have hk0 : (0 : Int) ≤ k := by omega
          have hWk : IntKind.i64.wrap ((k : Int) + 1) = (k : Int) + 1 := IntWalk.i64_in _ (by omega)
          have hWa : IntKind.i64.wrap (a + 1) = a + 1 := IntWalk.i64_in _ (by omega)
          obtain ⟨g, o, hg, -, -, -, -, x4, x5, -⟩ := (HC.out.stay hkk) k hlk
          obtain ⟨g', o', hg', -, -, -, -, y4, -⟩ := (HC.out.stay hkk) i hlt
          rw [hg] at hg'
          cases hg'
          subst hg
          clear hkk
          have fin : ∀ n, KeepBut (fun _ => False) V (wr.drewN n) := fun n => HK2.out.trans (KeepBut.drewN _ _ _)
          have FIN := Lib.hid fin
          clear fin
          go_upto_region 9 with fail
          by_cases h1 : (nthC cs k).beg ≤ (nthC cs i).beg
          · by_cases h2 : (nthC cs k).till < 0
            · go_quiet (fail)
              go_wp2_with fail
              exact ⟨⟨⟨a + 1, k + 1, rfl, by omega, by omega, by simp, by omega, FIN.out _⟩, by simp only [intOf]; omega⟩, by simp only [intOf]; omega⟩
            · by_cases h3 : (nthC cs i).beg ≤ (nthC cs k).till
              · have d2 : decide ((nthC cs k).till < 0) = false := decide_eq_false h2
                go_quiet (fail)
                go_wp2_with fail
                exact ⟨⟨⟨a + 1, k + 1, rfl, by omega, by omega, by simp, by omega, FIN.out _⟩, by simp only [intOf]; omega⟩, by simp only [intOf]; omega⟩
              · have d2 : decide ((nthC cs k).till < 0) = false := decide_eq_false h2
                have d3 : decide ((nthC cs i).beg ≤ (nthC cs k).till) = false := decide_eq_false h3
                go_quiet (fail)
                go_wp2_with fail
                exact ⟨⟨⟨a, k + 1, rfl, by omega, by omega, by simp, by omega, FIN.out _⟩, by simp only [intOf]; omega⟩, by simp only [intOf]; omega⟩
          · have d1 : decide ((nthC cs k).beg ≤ (nthC cs i).beg) = false := decide_eq_false h1
            go_quiet (fail)
            go_wp2_with fail
            exact ⟨⟨⟨a, k + 1, rfl, by omega, by omega, by simp, by omega, FIN.out _⟩, by simp only [intOf]; omega⟩, by simp only [intOf]; omega⟩
        · have hnl : ¬ (k : Int) < cs.length := by omega
          clear hkk
          go_wp2_with fail
          exact ⟨⟨max z a, i + 1, rfl, by omega, by omega, by simp, by omega, HK2.out⟩, by simp only [intOf]; omega⟩
    · have hnl : ¬ (i : Int) < cs.length := by omega
      go_wp2_with fail
      go_ret
      exact ⟨z, rfl, HK.out.trans HK1.out⟩

end Go.Proofs.YtoolpifkfgileaaDoor
