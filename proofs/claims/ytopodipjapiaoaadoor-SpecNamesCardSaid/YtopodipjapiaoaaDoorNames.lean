/-
  SpecNames, walked.
-/
import Derived.Test.YtopodipjapiaoaaDoorKey
import Derived.Test.YtopodipjapiaoaaDoorLives
namespace Go.Proofs.YtopodipjapiaoaaDoor
open Go Go.RowKit Own

def zeros64 : Array Value := madeCells #[.int .i64 0] 64

set_option maxRecDepth 100000 in
set_option maxHeartbeats 8000000 in
theorem names_walk (w : World) (htab : Lib.TabIs Tryd.prog w "internal/strconv.uint64pow10" .u64 Lib.pow10Tab) :
    Calls Tryd.prog 3 #[] w fun e w' => e = .returned (.bool true) ∧ KeepBut (fun _ => False) w w' := by
  have hmk : ∀ W, (Instr.makeSlice 22 (.int .i64 64) (.int .i64 64)).run Tryd.prog W = .ok (.slice (some ⟨W.heap.size, 0, none⟩) 64 64) (W.alloc (.cells zeros64 2)) := fun W => by kernel_rfl
  have hn2 : Hid (∀ W, Calls Tryd.prog 6 #[.int .i64 2] W fun e w' => e = .returned (.tuple #[.agg #[.int .i64 2, .slice none 0 0], .int .i64 0]) ∧ KeepBut (fun _ => False) W w') := fun W => new_any 2 W
  have hn4 : Hid (∀ W, Calls Tryd.prog 6 #[.int .i64 4] W fun e w' => e = .returned (.tuple #[.agg #[.int .i64 0, .slice none 0 0], .int .i64 2]) ∧ KeepBut (fun _ => False) W w') := fun W => new_any 4 W
  have hd1 : Hid (∀ W, Calls Tryd.prog 7 #[.agg #[.int .i64 2, .slice none 0 0], .int .i64 1, .int .i64 1] W fun e w' => Done4 W e w' 0 [] 0 0 2) := fun W =>
    do_any W 2 none 0 [] (Rd.empty _ _) (by decide) (fun a h => by cases h) 1 1
  have hm1 : Hid (∀ W, Calls Tryd.prog 8 #[.agg #[.int .i64 2, .slice none 0 0], .int .i64 3, .int .i64 5, .int .i64 0, .int .i64 2] W fun e w' => DoneM W e w' ⟨2, [], true⟩) := fun W =>
    may_any W 2 none 0 [] (Rd.empty _ _) (by decide) (fun a h => by cases h) 3 5 0 2
  have hm2 : Hid (∀ W, Calls Tryd.prog 8 #[.agg #[.int .i64 2, .slice none 0 0], .int .i64 4, .int .i64 0, .int .i64 0, .int .i64 2] W fun e w' => DoneM W e w' ⟨2, [], false⟩) := fun W =>
    may_any W 2 none 0 [] (Rd.empty _ _) (by decide) (fun a h => by cases h) 4 0 0 2
  have hz : zeros64.size = 64 := by kernel_rfl
  have hd2 : Hid (∀ W b, W.heap[b]? = some (.cells zeros64 2 (0, 0)) → Calls Tryd.prog 7 #[.agg #[.int .i64 1, .slice (some ⟨b, 0, none⟩) 64 64], .int .i64 1, .int .i64 1] W fun e w' => Done4 W e w' 0 [] 0 0 7) := fun W b hb => by
    have ho : OwnI 2 0 W (some ⟨b, 0, none⟩) zeros64.size (List.replicate 64 0) := OwnI.mk (Nat.zero_le _) hb (by rw [hz]; decide) (by rw [hz]; decide) (by kernel_rfl)
    have := do_any W 1 (some ⟨b, 0, none⟩) 64 (List.replicate 64 0) ho.rd (by decide) (fun a h => by cases h; rfl) 1 1
    rw [show doR 1 1 (List.replicate 64 0) 1 = ⟨0, [], 0, 0, 7⟩ by kernel_rfl] at this
    exact this
  clear hz
  have hkey : Hid (∀ W b, KeepBut (fun _ => False) w W → W.heap[b]? = some (.cells #[.int .i64 (-5), .int .i64 10] 2 (0, 0)) → Calls Tryd.prog 13 #[.agg #[.int .i64 3, .slice (some ⟨b, 0, none⟩) 2 2]] W fun e w' => e = .returned (.string ⟨#[51, 32, 45, 53, 32, 49, 48]⟩) ∧ KeepBut (fun _ => False) W w') := fun W b hW hb => by
    have ht : Lib.TabIs Tryd.prog W "internal/strconv.uint64pow10" .u64 Lib.pow10Tab := Lib.tabBelow_of_tabIs htab W ⟨hW.os, hW.tape, hW.output, hW.size, fun j hj => hW.block j hj fun e => e⟩
    have := key_any W 3 (some ⟨b, 0, none⟩) 2 [-5, 10] (OwnI.mk (base := 0) (xs := [-5, 10]) (Nat.zero_le _) hb (by decide) (by decide) rfl).rd (by decide) (by unfold In64; decide) (by
      intro x hx
      simp only [List.mem_cons, List.not_mem_nil, or_false] at hx
      unfold In64
      omega) ht
    have e : keyB 3 [-5, 10] = [51, 32, 45, 53, 32, 49, 48] := by
      have h3 : Lib.itoa 3 = [51] := by unfold Lib.itoa; rw [if_neg (by decide)]; exact Lib.decDigits_one (by decide)
      have h5 : Lib.itoa (-5) = [45, 53] := by unfold Lib.itoa; rw [if_pos (by decide)]; exact congrArg (List.cons 45) (Lib.decDigits_one (by decide))
      have h10 : Lib.itoa 10 = [49, 48] := by unfold Lib.itoa; rw [if_neg (by decide)]; exact Lib.decDigits_two (by decide) (by decide)
      unfold keyB
      simp [h3, h5, h10]
    rw [e] at this
    exact this
  have hck : Hid (∀ W b, W.heap[b]? = some (.cells #[.int .i64 1, .int .i64 1] 2 (0, 0)) → Calls Tryd.prog 14 #[.agg #[.int .i64 3, .slice (some ⟨b, 0, none⟩) 2 2]] W fun e w' => e = .returned (.int .i64 2) ∧ KeepBut (fun _ => False) W w') := fun W b hb => by
    have := check_any W 3 (some ⟨b, 0, none⟩) 2 [1, 1] (OwnI.mk (base := 0) (xs := [1, 1]) (Nat.zero_le _) hb (by decide) (by decide) rfl).rd (by decide) (fun a h => by cases h; rfl)
    rw [show chk 3 [1, 1] = 2 by kernel_rfl] at this
    exact this
  clear htab
  go_enter Tryd.func3, Tryd.ntmps3
  go_upto_region 2 with (go_at_call 6; refine (hn2.out _).mono ?_; rintro e w1 ⟨rfl, hk1⟩)
  obtain ⟨V1, B1, hV1, hB1, hb1, hkb1, -⟩ := fresh_block w1 (.cells #[.int .i64 2, .slice none 0 0] 24)
  rw [← hV1, ← hB1]
  have K1 := Lib.hid (hk1.trans hkb1)
  have x0 := blk_cell (k := 0) hb1 rfl
  have x1 := blk_cell (k := 1) hb1 rfl
  clear hV1 hB1 hb1 hkb1 hk1
  go_upto_region 3 with (go_at_call 6; refine (hn4.out _).mono ?_; rintro e w2 ⟨rfl, hk2⟩)
  obtain ⟨V2, B2, hV2, hB2, hb2, hkb2, -⟩ := fresh_block w2 (.cells #[.int .i64 0, .slice none 0 0] 24)
  rw [← hV2, ← hB2]
  have K2 := Lib.hid (K1.out.trans (hk2.trans hkb2))
  have x0 := (hk2.trans hkb2).stay x0
  have x1 := (hk2.trans hkb2).stay x1
  clear hV2 hB2 hb2 hkb2 hk2 K1
  go_upto_region 4 with (go_at_call 7; refine (hd1.out _).mono ?_; rintro e w3 ⟨p3, c3, rfl, -, hk3⟩)
  obtain ⟨V3, B3, hV3, hB3, hb3, hkb3, -⟩ := fresh_block w3 (.cells #[.int .i64 0, .slice p3 0 c3] 24)
  rw [← hV3, ← hB3]
  have K3 := Lib.hid (K2.out.trans (hk3.trans hkb3))
  have x0 := (hk3.trans hkb3).stay x0
  have x1 := (hk3.trans hkb3).stay x1
  clear hV3 hB3 hb3 hkb3 hk3 K2
  go_upto_region 5 with (go_at_call 8; refine (hm1.out _).mono ?_; rintro e w4 ⟨p4, c4, rfl, -, hk4⟩)
  obtain ⟨V4, B4, hV4, hB4, hb4, hkb4, -⟩ := fresh_block w4 (.cells #[.int .i64 2, .slice p4 0 c4] 24)
  rw [← hV4, ← hB4]
  have K4 := Lib.hid (K3.out.trans (hk4.trans hkb4))
  have x0 := (hk4.trans hkb4).stay x0
  have x1 := (hk4.trans hkb4).stay x1
  clear hV4 hB4 hb4 hkb4 hk4 K3
  go_upto_region 6 with (go_at_call 8; refine (hm2.out _).mono ?_; rintro e w5 ⟨p5, c5, rfl, -, hk5⟩)
  obtain ⟨V5, B5, hV5, hB5, hb5, hkb5, -⟩ := fresh_block w5 (.cells #[.int .i64 2, .slice p5 0 c5] 24)
  rw [← hV5, ← hB5]
  have K5 := Lib.hid (K4.out.trans (hk5.trans hkb5))
  clear hV5 hB5 hb5 hkb5 hk5 K4 x0 x1
  go_upto_region 7 with fail
  go_upto_region 8 with (go_at_call 7; refine (hd2.out _ _ ((KeepBut.alloc (fun _ => False) _ _).blk (heap_alloc_new V5 _))).mono ?_; rintro e w6 ⟨p6, c6, rfl, -, hk6⟩)
  obtain ⟨V6, B6, hV6, hB6, hb6, hkb6, -⟩ := fresh_block w6 (.cells #[.int .i64 0, .slice p6 0 c6] 24)
  rw [← hV6, ← hB6]
  have K6 := Lib.hid (K5.out.trans (((KeepBut.alloc _ _ _).trans (KeepBut.alloc _ _ _)).trans (hk6.trans hkb6)))
  clear hV6 hB6 hb6 hkb6 hk6 K5
  have i5 : insB 5 = true := by decide
  have i7 : insB 7 = false := by decide
  have t4 : takesB 4 = true := by decide
  have k6 : kindOf 6 = 3 := by decide
  have k0 : kindOf 0 = 0 := by decide
  go_wp2_with (first
    | (go_at_call 9; refine (lives_any _).mono ?_; rintro e w7 ⟨rfl, hk7⟩)
    | (go_at_call 10; refine (inserts_any _ _).mono ?_; rintro e w' ⟨rfl, hww⟩; have hww := hww.symm; subst hww)
    | (go_at_call 11; refine (takes_any _ _).mono ?_; rintro e w' ⟨rfl, hww⟩; have hww := hww.symm; subst hww)
    | (go_at_call 12; refine (kind_any _ _).mono ?_; rintro e w' ⟨rfl, hww⟩; have hww := hww.symm; subst hww)
    | (go_at_call 13; refine (hkey.out _ _ (K6.out.trans (hk7.trans (KeepBut.alloc _ _ _))) (heap_alloc_new _ _)).mono ?_; rintro e w8 ⟨rfl, hk8⟩)
    | (go_at_call 14; refine (hck.out _ _ (heap_alloc_new _ _)).mono ?_; rintro e w9 ⟨rfl, hk9⟩))
  go_ret
  exact ⟨rfl, K6.out.trans (hk7.trans (((KeepBut.alloc _ _ _).trans hk8).trans ((KeepBut.alloc _ _ _).trans hk9)))⟩

end Go.Proofs.YtopodipjapiaoaaDoor
