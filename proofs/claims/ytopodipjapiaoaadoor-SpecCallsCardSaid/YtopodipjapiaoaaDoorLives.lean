/-
  The chapter's examples.
-/
import Derived.Test.YtopodipjapiaoaaDoorKit
namespace Go.Proofs.YtopodipjapiaoaaDoor
open Go Go.RowKit Own

set_option maxHeartbeats 4000000 in
theorem lives_any (w : World) :
    Calls Tryd.prog 9 #[] w fun e w' => e = .returned (.bool true) ∧ KeepBut (fun _ => False) w w' := by
  have h1 : Hid (∀ W b, W.heap[b]? = some (.cells #[.int .i64 1, .int .i64 2] 2 (0, 0)) → Calls Tryd.prog 7 #[.agg #[.int .i64 1, .slice (some ⟨b, 0, none⟩) 2 2], .int .i64 2, .int .i64 0] W fun e w' => Done4 W e w' 1 [1] 2 1 0) := fun W b hb =>
    do_any W 1 (some ⟨b, 0, none⟩) 2 [1, 2] (OwnI.mk (base := 0) (xs := [1, 2]) (Nat.zero_le _) hb (by decide) (by decide) rfl).rd (by decide) (fun a ha => by cases ha; rfl) 2 0
  have h2 : Hid (∀ W b, W.heap[b]? = some (.cells #[.int .i64 1, .int .i64 3] 2 (0, 0)) → Calls Tryd.prog 7 #[.agg #[.int .i64 3, .slice (some ⟨b, 0, none⟩) 2 2], .int .i64 5, .int .i64 3] W fun e w' => Done4 W e w' 3 [1, 3] 0 0 0) := fun W b hb =>
    do_any W 3 (some ⟨b, 0, none⟩) 2 [1, 3] (OwnI.mk (base := 0) (xs := [1, 3]) (Nat.zero_le _) hb (by decide) (by decide) rfl).rd (by decide) (fun a ha => by cases ha; rfl) 5 3
  have h3 : Hid (∀ W b, W.heap[b]? = some (.cells #[.int .i64 1, .int .i64 3] 2 (0, 0)) → Calls Tryd.prog 7 #[.agg #[.int .i64 3, .slice (some ⟨b, 0, none⟩) 2 2], .int .i64 5, .int .i64 2] W fun e w' => Done4 W e w' 3 [1, 2, 3] 0 1 0) := fun W b hb =>
    do_any W 3 (some ⟨b, 0, none⟩) 2 [1, 3] (OwnI.mk (base := 0) (xs := [1, 3]) (Nat.zero_le _) hb (by decide) (by decide) rfl).rd (by decide) (fun a ha => by cases ha; rfl) 5 2
  have h4 : Hid (∀ W p c b, Rd W p (ints [1]) → W.heap[b]? = some (.cells #[.int .i64 1] 2 (0, 0)) → Calls Tryd.prog 31 #[.slice p 1 c, .slice (some ⟨b, 0, none⟩) 1 1] W fun e w' => e = .returned (.bool true) ∧ KeepBut (fun _ => False) W w') := fun W p c b hp hb =>
    kitSame_any W p (some ⟨b, 0, none⟩) c 1 [1] [1] hp (OwnI.mk (base := 0) (xs := [1]) (Nat.zero_le _) hb (by decide) (by decide) rfl).rd (by decide) (by decide)
  have h5 : Hid (∀ W p c b, Rd W p (ints [1, 2, 3]) → W.heap[b]? = some (.cells #[.int .i64 1, .int .i64 2, .int .i64 3] 2 (0, 0)) → Calls Tryd.prog 31 #[.slice p 3 c, .slice (some ⟨b, 0, none⟩) 3 3] W fun e w' => e = .returned (.bool true) ∧ KeepBut (fun _ => False) W w') := fun W p c b hp hb =>
    kitSame_any W p (some ⟨b, 0, none⟩) c 3 [1, 2, 3] [1, 2, 3] hp (OwnI.mk (base := 0) (xs := [1, 2, 3]) (Nat.zero_le _) hb (by decide) (by decide) rfl).rd (by decide) (by decide)
  go_enter Tryd.func9, Tryd.ntmps9
  go_upto_region 2 with (go_at_call 7; refine (h1.out _ _ (heap_alloc_new _ _)).mono ?_; rintro e w1 ⟨p1, cap1, rfl, hL1, hk1⟩)
  obtain ⟨V1, B1, hV1, hB1, hb1, hkb1, -⟩ := fresh_block w1 (.cells #[.int .i64 1, .slice p1 1 cap1] 24)
  have K1 : Hid (KeepBut (fun _ => False) w V1) := ((KeepBut.alloc _ _ _).trans hk1).trans hkb1
  have R1 : Hid (Rd V1 p1 (ints [1])) := hL1.1.stay hkb1
  have C1 : Hid (V1.cell? ⟨B1, 1, none⟩ = some (.slice p1 1 cap1)) := blk_cell (k := 1) hb1 rfl
  rw [← hV1, ← hB1]
  clear hV1 hB1 hb1 hkb1 hk1 hL1 h1
  go_upto_region 3 with (go_at_call 7; refine (h2.out _ _ (heap_alloc_new _ _)).mono ?_; rintro e w2 ⟨p2, cap2, rfl, hL2, hk2⟩)
  obtain ⟨V2, B2, hV2, hB2, hb2, hkb2, -⟩ := fresh_block w2 (.cells #[.int .i64 3, .slice p2 2 cap2] 24)
  have K2 : Hid (KeepBut (fun _ => False) V1 V2) := ((KeepBut.alloc _ _ _).trans hk2).trans hkb2
  rw [← hV2, ← hB2]
  clear hV2 hB2 hb2 hkb2 hk2 hL2 h2
  go_upto_region 4 with (go_at_call 7; refine (h3.out _ _ (heap_alloc_new _ _)).mono ?_; rintro e w3 ⟨p3, cap3, rfl, hL3, hk3⟩)
  obtain ⟨V3, B3, hV3, hB3, hb3, hkb3, -⟩ := fresh_block w3 (.cells #[.int .i64 3, .slice p3 3 cap3] 24)
  have K3 : Hid (KeepBut (fun _ => False) V2 V3) := ((KeepBut.alloc _ _ _).trans hk3).trans hkb3
  have R3 : Hid (Rd V3 p3 (ints [1, 2, 3])) := hL3.1.stay hkb3
  have C3 : Hid (V3.cell? ⟨B3, 1, none⟩ = some (.slice p3 3 cap3)) := blk_cell (k := 1) hb3 rfl
  rw [← hV3, ← hB3]
  clear hV3 hB3 hb3 hkb3 hk3 hL3 h3
  have D1 : V3.cell? ⟨B1, 1, none⟩ = some (.slice p1 1 cap1) := (K2.out.trans K3.out).stay C1.out
  have R1' : Hid (∀ X, Rd (V3.alloc X) p1 (ints [1])) := fun X => R1.out.stay ((K2.out.trans K3.out).trans (KeepBut.alloc _ _ _))
  have F : Hid (KeepBut (fun _ => False) w V3) := (K1.out.trans K2.out).trans K3.out
  clear K1 K2 K3 R1 C1
  go_wp2_with (first
    | (go_at_call 31; refine (h4.out _ _ _ _ (R1'.out _) (heap_alloc_new _ _)).mono ?_; rintro e w4 ⟨rfl, hk4⟩
       have D3 : w4.cell? ⟨B3, 1, none⟩ = some (.slice p3 3 cap3) := ((KeepBut.alloc _ _ _).trans hk4).stay C3.out
       have R3' : Hid (∀ X, Rd (w4.alloc X) p3 (ints [1, 2, 3])) := fun X => R3.out.stay (((KeepBut.alloc _ _ _).trans hk4).trans (KeepBut.alloc _ _ _))
       have F4 : Hid (KeepBut (fun _ => False) w w4) := F.out.trans ((KeepBut.alloc _ _ _).trans hk4)
       clear R1' F R3 C3 hk4 h4 D1)
    | (go_at_call 31; refine (h5.out _ _ _ _ (R3'.out _) (heap_alloc_new _ _)).mono ?_; rintro e w5 ⟨rfl, hk5⟩))
  go_ret
  exact ⟨rfl, F4.out.trans ((KeepBut.alloc _ _ _).trans hk5)⟩

end Go.Proofs.YtopodipjapiaoaaDoor
