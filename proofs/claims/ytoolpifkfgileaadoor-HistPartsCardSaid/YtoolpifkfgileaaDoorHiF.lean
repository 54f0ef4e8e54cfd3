/-
  Chapter 29: three; lives.
-/
import Derived.Test.YtoolpifkfgileaaDoorHiE
namespace Go.Proofs.YtoolpifkfgileaaDoor
open Go Go.RowKit Own

def ThreeDone (cs : List Cl) (w : World) (e : Ending) (w' : World) : Prop :=
  ∃ pk pc, e = .returned (.agg #[.slice pk 1 1, .slice pc 2 2]) ∧ HistIn w' pk pc [1] cs ∧ (∀ a, pk = some a → w.heap.size ≤ a.block) ∧ (∀ a, pc = some a → w.heap.size ≤ a.block ∧ a.spot = none) ∧ KeepBut (fun _ => False) w w'

theorem in64_ok {x : Int} (h : -9223372036854775808 ≤ x ∧ x ≤ 9223372036854775807) : In64 x := by unfold In64; exact h

theorem three_world (w : World) (X : Obj) (tt fr en v cd : Int) (hT : TabP w) (hB : BitTab w) :
    let W := ((w.alloc X).alloc (.cells #[.int .i64 1] 3)).alloc (.cells #[.int .i64 0, .int .i64 0, .int .i64 1, .int .i64 1, .int .i64 0, .int .i64 tt, .int .i64 0, .int .i64 1, .int .i64 1, .int .i64 0, .int .i64 2, .int .i64 0, .int .i64 fr, .int .i64 en, .int .i64 v, .int .i64 cd] 33)
    HistIn W (some ⟨w.heap.size + 1, 0, none⟩) (some ⟨w.heap.size + 1 + 1, 0, none⟩) [1] (threeC tt fr en v cd) ∧ KeepBut (fun _ => False) w W := by
  intro W
  have k1 := KeepBut.alloc (fun _ => False) w X
  have k2 := KeepBut.alloc (fun _ => False) (w.alloc X) (.cells #[.int .i64 1] 3)
  have k3 : KeepBut (fun _ => False) ((w.alloc X).alloc (.cells #[.int .i64 1] 3)) W := KeepBut.alloc _ _ _
  have hk : KeepBut (fun _ => False) w W := (k1.trans k2).trans k3
  have h1 := heap_alloc_new (w.alloc X) (.cells #[.int .i64 1] 3)
  rw [World.size_alloc] at h1
  have h1 := k3.blk h1
  have h2 := by
    have h := heap_alloc_new ((w.alloc X).alloc (.cells #[.int .i64 1] 3)) (.cells #[.int .i64 0, .int .i64 0, .int .i64 1, .int .i64 1, .int .i64 0, .int .i64 tt, .int .i64 0, .int .i64 1, .int .i64 1, .int .i64 0, .int .i64 2, .int .i64 0, .int .i64 fr, .int .i64 en, .int .i64 v, .int .i64 cd] 33)
    rw [World.size_alloc, World.size_alloc] at h
    exact (show W.heap[w.heap.size + 1 + 1]? = _ from h)
  refine ⟨⟨fun j u hj => ⟨_, _, rfl, ?_⟩, fun i hi => ⟨_, _, rfl, ?_⟩, by decide, (by show 2 ≤ 60; decide), fun k hk => ?_, fun c hc => ?_, hk.tabP hT, hk.bitTab hB⟩, hk⟩
  · match j, hj with
    | 0, hj => cases hj; exact blk_cell h1 rfl
    | j + 1, hj => simp [ints] at hj
  · have hi : i < 2 := hi
    match i, hi with
    | 0, _ => exact ⟨blk_cell h2 rfl, blk_cell h2 rfl, blk_cell h2 rfl, blk_cell h2 rfl, blk_cell h2 rfl, blk_cell h2 rfl, blk_cell h2 rfl, blk_cell h2 rfl⟩
    | 1, _ => exact ⟨blk_cell h2 rfl, blk_cell h2 rfl, blk_cell h2 rfl, blk_cell h2 rfl, blk_cell h2 rfl, blk_cell h2 rfl, blk_cell h2 rfl, blk_cell h2 rfl⟩
  · rw [List.mem_singleton] at hk; rw [hk]; exact in64_ok (by omega)
  · simp only [threeC, List.mem_cons, List.not_mem_nil, or_false] at hc
    rcases hc with rfl | rfl
    · exact in64_ok (show (-9223372036854775808 : Int) ≤ 1 ∧ (1 : Int) ≤ 9223372036854775807 by decide)
    · exact in64_ok (show (-9223372036854775808 : Int) ≤ 0 ∧ (0 : Int) ≤ 9223372036854775807 by decide)

set_option maxHeartbeats 4000000 in
theorem three_any (w : World) (tt fr en v cd : Int) (hT : TabP w) (hB : BitTab w) :
    Calls Tryd.prog 24 #[.int .i64 tt, .int .i64 fr, .int .i64 en, .int .i64 v, .int .i64 cd] w fun e w' => ThreeDone (threeC tt fr en v cd) w e w' := by
  have HT := Lib.hid hT; have HB := Lib.hid hB
  clear hT hB
  go_enter Tryd.func24, Tryd.ntmps24
  go_wp2_with fail
  refine bodyPost_ret (v := .agg #[.slice (some ⟨w.heap.size + 1, 0, none⟩) 1 1, .slice (some ⟨w.heap.size + 1 + 1, 0, none⟩) 2 2]) (by simp [results, Tryd.results24, go_sem]) rfl ?_
  have h := three_world w (.cells #[.slice (some ⟨w.heap.size + 1, 0, none⟩) 1 1, .slice (some ⟨w.heap.size + 1 + 1, 0, none⟩) 2 2] 25) tt fr en v cd HT.out HB.out
  exact ⟨_, _, rfl, h.1, fun a ha => by cases ha; exact Nat.le_succ _, fun a ha => by cases ha; exact ⟨by show w.heap.size ≤ w.heap.size + 1 + 1; omega, rfl⟩, h.2⟩

set_option maxHeartbeats 8000000 in
theorem lives_any (w : World) (hT : TabP w) (hB : BitTab w) :
    Calls Tryd.prog 9 #[] w fun e w' => e = .returned (.bool true) ∧ KeepBut (fun _ => False) w w' := by
  have HT := Lib.hid hT; have HB := Lib.hid hB
  have HK0 := Lib.hid (KeepBut.refl (fun _ => False) w)
  clear hT hB
  go_enter Tryd.func9, Tryd.ntmps9
  go_wp2_with fail
  go_at_call 24
  refine (three_any w 1 2 3 1 1 (HK0.out.tabP HT.out) (HK0.out.bitTab HB.out)).mono ?_
  rintro e w1a ⟨pk1, pc1, rfl, hi, -, -, hk⟩
  have HK1a := Lib.hid (HK0.out.trans hk); have HL1 := Lib.hid (linear_any w1a pk1 pc1 1 2 [1] (threeC 1 2 3 1 1) hi)
  clear hi hk
  go_wp2_with fail
  go_at_call 13
  refine HL1.out.mono ?_
  rintro e w1b ⟨v1, rfl, hv, hk⟩
  have hv : v1 = true := by exact hv.2 lin_1
  subst hv
  have HK1 := Lib.hid (HK1a.out.trans hk)
  clear hk
  go_wp2_with fail
  go_at_call 24
  refine (three_any w1b 1 2 3 0 0 (HK1.out.tabP HT.out) (HK1.out.bitTab HB.out)).mono ?_
  rintro e w2a ⟨pk2, pc2, rfl, hi, -, -, hk⟩
  have HK2a := Lib.hid (HK1.out.trans hk); have HL2 := Lib.hid (linear_any w2a pk2 pc2 1 2 [1] (threeC 1 2 3 0 0) hi)
  clear hi hk
  go_wp2_with fail
  go_at_call 13
  refine HL2.out.mono ?_
  rintro e w2b ⟨v2, rfl, hv, hk⟩
  have hv : v2 = false := by rw [← Bool.not_eq_true]; exact fun e => lin_2 (hv.1 e)
  subst hv
  have HK2 := Lib.hid (HK2a.out.trans hk)
  clear hk
  go_wp2_with fail
  go_at_call 24
  refine (three_any w2b 3 1 2 0 0 (HK2.out.tabP HT.out) (HK2.out.bitTab HB.out)).mono ?_
  rintro e w3a ⟨pk3, pc3, rfl, hi, -, -, hk⟩
  have HK3a := Lib.hid (HK2.out.trans hk); have HL3 := Lib.hid (linear_any w3a pk3 pc3 1 2 [1] (threeC 3 1 2 0 0) hi)
  clear hi hk
  go_wp2_with fail
  go_at_call 13
  refine HL3.out.mono ?_
  rintro e w3b ⟨v3, rfl, hv, hk⟩
  have hv : v3 = true := by exact hv.2 lin_3
  subst hv
  have HK3 := Lib.hid (HK3a.out.trans hk)
  clear hk
  go_wp2_with fail
  go_at_call 24
  refine (three_any w3b 3 1 2 1 1 (HK3.out.tabP HT.out) (HK3.out.bitTab HB.out)).mono ?_
  rintro e w4a ⟨pk4, pc4, rfl, hi, -, -, hk⟩
  have HK4a := Lib.hid (HK3.out.trans hk); have HL4 := Lib.hid (linear_any w4a pk4 pc4 1 2 [1] (threeC 3 1 2 1 1) hi)
  clear hi hk
  go_wp2_with fail
  go_at_call 13
  refine HL4.out.mono ?_
  rintro e w4b ⟨v4, rfl, hv, hk⟩
  have hv : v4 = true := by exact hv.2 lin_4
  subst hv
  have HK4 := Lib.hid (HK4a.out.trans hk)
  clear hk
  go_wp2_with fail
  go_at_call 24
  refine (three_any w4b 3 1 2 2 1 (HK4.out.tabP HT.out) (HK4.out.bitTab HB.out)).mono ?_
  rintro e w5a ⟨pk5, pc5, rfl, hi, -, -, hk⟩
  have HK5a := Lib.hid (HK4.out.trans hk); have HL5 := Lib.hid (linear_any w5a pk5 pc5 1 2 [1] (threeC 3 1 2 2 1) hi)
  clear hi hk
  go_wp2_with fail
  go_at_call 13
  refine HL5.out.mono ?_
  rintro e w5b ⟨v5, rfl, hv, hk⟩
  have hv : v5 = false := by rw [← Bool.not_eq_true]; exact fun e => lin_5 (hv.1 e)
  subst hv
  have HK5 := Lib.hid (HK5a.out.trans hk)
  clear hk
  go_wp2_with fail
  go_ret
  exact ⟨rfl, HK5.out⟩

end Go.Proofs.YtoolpifkfgileaaDoor
