/-
  lex: Reserved, word.
-/
import Derived.Test.YtmklmlocldbaoaaDoorLx2
import Derived.Lib.AppendIntMem
namespace Go.Proofs.YtmklmlocldbaoaaDoor
open Go Go.RowKit Own

theorem blk_cell {w : World} {b k : Nat} {cs : Array Value} {T : TypeId} {v : Value} (h : w.heap[b]? = some (.cells cs T (0, 0))) (hk : cs[k]? = some v) : w.cell? ⟨b, k, none⟩ = some v := by
  simp [World.cell?, h, hk]

def strV (l : List UInt8) : Value := .string ⟨l.toArray⟩
def tokV (t : Tok) (line col : Nat) : Value := .agg #[.int .i64 t.kind, strV t.text, .int .i64 t.num, .int .i64 line, .int .i64 col]

def wordsS : ByteArray := ⟨#[112, 111, 111, 108, 32, 115, 116, 97, 99, 107, 32, 113, 117, 101, 117, 101, 32, 115, 101, 116, 32, 116, 104, 114, 101, 97, 100, 32, 118, 97, 114, 32, 97, 114, 114, 97, 121, 32, 105, 102, 32, 101, 108, 115, 101, 32, 119, 104, 105, 108, 101, 32, 111, 117, 116, 32, 104, 97, 108, 116, 32, 112, 117, 115, 104, 32, 112, 111, 112, 32, 101, 110, 113, 32, 100, 101, 113, 32, 97, 100, 100, 32, 114, 101, 109, 111, 118, 101, 32, 104, 97, 115]⟩

theorem fields_words : Lib.fields wordsS.data.toList = wordsL := by decide +kernel

theorem extract_take (s : ByteArray) (m : Nat) : s.extract 0 m = ⟨(s.data.toList.take m).toArray⟩ := by
  apply ByteArray.ext
  rw [ByteArray.data_extract]
  apply Array.toList_inj.1
  simp

abbrev TabS (w : World) : Prop := Lib.TabIs Tryd.prog w "strings.asciiSpace" .u8 Lib.asciiSpaceTab

theorem Own.KeepBut.tabS {w w' : World} (h : KeepBut (fun _ => False) w w') (t : TabS w) : TabS w' :=
  Lib.tabBelow_of_tabIs t w' ⟨h.os, h.tape, h.output, h.size, fun j hj => h.block j hj fun e => e⟩

theorem reserved_any (w : World) (htab : TabS w) :
    Calls Tryd.prog 30 #[] w fun e w' => e = .returned (.slice (some ⟨w.heap.size, 0, none⟩) 19 19) ∧ w' = w.alloc (.cells (wordsL.map fun l => Value.string ⟨l.toArray⟩).toArray 9) := by
  have hF := Tryd.strings_Fields wordsS w (by decide) (fun j b h => by
    have hm := List.mem_of_getElem? h
    have hall : ∀ b ∈ wordsS.data.toList, b.toNat < 128 := by decide +kernel
    exact hall b hm) htab
  rw [fields_words] at hF
  have HF := Lib.hid hF
  clear hF
  go_enter Tryd.func30, Tryd.ntmps30
  go_wp2_with (go_at_call 46; refine HF.out.mono ?_; rintro e w' ⟨rfl, rfl⟩)
  go_ret
  exact ⟨rfl, rfl⟩

theorem words_cells (w : World) (j : Nat) (h : j < (wordsL.map fun l => (⟨l.toArray⟩ : ByteArray)).length) :
    (w.alloc (.cells (wordsL.map fun l => Value.string ⟨l.toArray⟩).toArray 9)).cell? ⟨w.heap.size, 0 + j, none⟩ = some (.string ((wordsL.map fun l => (⟨l.toArray⟩ : ByteArray)).getD j ByteArray.empty)) := by
  refine blk_cell (heap_alloc_new w _) ?_
  rw [Nat.zero_add]
  rw [List.length_map] at h
  simp [List.getD, h]

theorem isReserved_any (s : ByteArray) (w : World) (htab : TabS w) :
    Calls Tryd.prog 15 #[.string s] w fun e w' => e = .returned (.bool (reservedB s.data.toList)) ∧ KeepBut (fun _ => False) w w' := by
  have hR := Lib.hid (reserved_any w htab)
  have hC := Tryd.slices_Contains_string w.heap.size 0 19 19 (wordsL.map fun l => (⟨l.toArray⟩ : ByteArray)) s (w.alloc (.cells (wordsL.map fun l => Value.string ⟨l.toArray⟩).toArray 9)) (by decide) (by decide) (words_cells w)
  rw [List.take_of_length_le (by decide), reserved_contains] at hC
  obtain ⟨r, hr⟩ : ∃ r, reservedB s.data.toList = r := ⟨_, rfl⟩
  rw [show wordsL.contains s.data.toList = r from hr] at hC
  rw [hr]
  have HC := Lib.hid hC
  clear hC
  obtain ⟨W, hW⟩ : ∃ W, w.alloc (.cells (wordsL.map fun l => Value.string ⟨l.toArray⟩).toArray 9) = W := ⟨_, rfl⟩
  have HK := Lib.hid (show KeepBut (fun _ => False) w W by rw [← hW]; exact KeepBut.alloc _ _ _)
  rw [hW] at hR HC
  clear hW
  go_enter Tryd.func15, Tryd.ntmps15
  go_wp2_with (first
    | (go_at_call 30; refine hR.out.mono ?_; rintro e w' ⟨rfl, rfl⟩)
    | (go_at_call 29; refine HC.out.mono ?_; rintro e w' ⟨rfl, rfl⟩))
  go_ret
  exact ⟨rfl, HK.out⟩

theorem Own.KeepBut.blkE {E : Nat → Prop} {w w' : World} (h : KeepBut E w w') {b : Nat} {x : Obj} (hc : w.heap[b]? = some x) (hE : ¬ E b) : w'.heap[b]? = some x := by
  rw [h.block b (Array.getElem?_eq_some_iff.1 hc).1 hE]
  exact hc

theorem blk5 {w : World} {B : Nat} {a b c d e : Value} {T : TypeId} (h : w.heap[B]? = some (.cells #[a, b, c, d, e] T (0, 0))) :
    w.cell? ⟨B, 0, none⟩ = some a ∧ w.cell? ⟨B, 1, none⟩ = some b ∧ w.cell? ⟨B, 2, none⟩ = some c ∧ w.cell? ⟨B, 3, none⟩ = some d ∧ w.cell? ⟨B, 4, none⟩ = some e ∧
    w.frozen? ⟨B, 0, none⟩ = false ∧ w.frozen? ⟨B, 1, none⟩ = false ∧ w.frozen? ⟨B, 2, none⟩ = false ∧ w.frozen? ⟨B, 3, none⟩ = false ∧ w.frozen? ⟨B, 4, none⟩ = false := by
  simp [World.cell?, World.frozen?, h]
theorem put1 {w : World} {B i : Nat} {cs : Array Value} {T : TypeId} (h : w.heap[B]? = some (.cells cs T (0, 0))) (v : Value) : (w.setCell ⟨B, i, none⟩ v).heap[B]? = some (.cells (cs.setIfInBounds i v) T (0, 0)) := by
  obtain ⟨hlt, hk⟩ := Array.getElem?_eq_some_iff.1 h
  show (w.heap.modify B _)[B]? = _
  rw [Array.getElem?_eq_getElem (by rw [Array.size_modify]; exact hlt), Array.getElem_modify_self, hk]
  rfl
theorem put5 {w : World} {B : Nat} {a b c d e : Value} {T : TypeId} (h : w.heap[B]? = some (.cells #[a, b, c, d, e] T (0, 0))) (v0 v1 v2 v3 v4 : Value) :
    ∃ wf, wf = (((((w.setCell ⟨B, 0, none⟩ v0).setCell ⟨B, 1, none⟩ v1).setCell ⟨B, 2, none⟩ v2).setCell ⟨B, 3, none⟩ v3).setCell ⟨B, 4, none⟩ v4) ∧ wf.heap[B]? = some (.cells #[v0, v1, v2, v3, v4] T (0, 0)) ∧ KeepBut (fun k => k = B) w wf := by
  refine ⟨_, rfl, ?_, ?_⟩
  · have h1 := put1 (i := 4) (put1 (i := 3) (put1 (i := 2) (put1 (i := 1) (put1 (i := 0) h v0) v1) v2) v3) v4
    exact h1
  · have s : ∀ (w : World) (i : Nat) (v : Value), KeepBut (fun k => k = B) w (w.setCell ⟨B, i, none⟩ v) := fun w i v => KeepBut.setCell _ _ _ rfl
    exact ((((s _ _ _).trans (s _ _ _)).trans (s _ _ _)).trans (s _ _ _)).trans (s _ _ _)
theorem nil_str : (⟨#[]⟩ : ByteArray) = ⟨([] : List UInt8).toArray⟩ := rfl

set_option maxHeartbeats 4000000 in
theorem word_any (s : ByteArray) (w : World) (htab : TabS w) :
    Calls Tryd.prog 40 #[.string s] w fun e w' => e = .returned (.tuple #[tokV (wordT s.data.toList).1 0 0, .int .i64 (wordT s.data.toList).2]) ∧ KeepBut (fun _ => False) w w' := by
  obtain ⟨m, hm⟩ : ∃ m, (s.data.toList.takeWhile wordB).length = m := ⟨_, rfl⟩
  have hsl : s.data.toList.length = s.size := by simp
  have hms : m ≤ s.size := by rw [← hm, ← hsl]; exact takeWhile_le _ _
  have het : s.extract 0 m = ⟨(s.data.toList.takeWhile wordB).toArray⟩ := by rw [extract_take, ← hm, takeWhile_take]
  obtain ⟨W0, B, hW0, hB, hb, hk0, hs0⟩ := fresh_block w (.cells #[.int .i64 0, .string ⟨#[]⟩, .int .i64 0, .int .i64 0, .int .i64 0] 30)
  have hS := span_any wordB word_small 28 (enters_of Tryd.func28 (by kernel_rfl) rfl) inWord_any s W0
  rw [hm] at hS
  have HS := Lib.hid hS
  have HB := Lib.hid hb; have HK := Lib.hid hk0; have HT := Lib.hid (hk0.tabS htab)
  have HN := Lib.hid (show w.heap.size = B ∧ B < W0.heap.size by omega)
  clear hS hsl hb hk0 hs0 htab
  by_cases h16 : 16 < m
  · have h16i : (16 : Int) < m := by omega
    have HE := Lib.hid (show wordT s.data.toList = (Tok.zero, 3) by unfold wordT; rw [hm, if_pos h16])
    clear hm het hms
    go_enter Tryd.func40, Tryd.ntmps40
    go_upto_region 1 with fail
    rw [← hW0, ← hB]
    clear hW0 hB
    go_wp2_with (go_at_call 27; refine HS.out.mono ?_; rintro e w1 ⟨rfl, hk1⟩; have HB1 := Lib.hid (hk1.blk HB.out); obtain ⟨n0, n1, n2, n3, n4, f0, f1, f2, f3, f4⟩ := blk5 HB1.out; have HK1 := Lib.hid hk1; clear hk1)
    obtain ⟨wf, hwf, hp, hkp⟩ := put5 HB1.out (.int .i64 0) (.string ⟨#[]⟩) (.int .i64 0) (.int .i64 0) (.int .i64 0)
    rw [← hwf]
    obtain ⟨c0, c1, c2, c3, c4, -⟩ := blk5 hp
    refine bodyPost_ret (v := .tuple #[.agg #[.int .i64 0, .string ⟨#[]⟩, .int .i64 0, .int .i64 0, .int .i64 0], .int .i64 3]) (by simp [results, Tryd.results40, go_sem, c0, c1, c2, c3, c4]) rfl ⟨by rw [HE.out]; rfl, ?_⟩
    exact (HK.out.trans HK1.out).new hkp fun k e => by have h2 : k = B := e; have := HN.out; omega
  · have h16i : ¬ (16 : Int) < m := by omega
    have h0 : (0 : Int) ≤ m := by omega
    have hmi : (m : Int) ≤ s.size := by omega
    obtain ⟨tx, htx⟩ : ∃ tx, s.data.toList.takeWhile wordB = tx := ⟨_, rfl⟩
    rw [htx] at het
    have hre : ∀ W : World, TabS W → Calls Tryd.prog 15 #[.string ⟨tx.toArray⟩] W fun e w' => e = .returned (.bool (reservedB tx)) ∧ KeepBut (fun _ => False) W w' := fun W h => by
      have := isReserved_any ⟨tx.toArray⟩ W h
      simpa using this
    obtain ⟨r, hr⟩ : ∃ r, reservedB tx = r := ⟨_, rfl⟩
    rw [hr] at hre
    have HR := Lib.hid hre
    have HE := Lib.hid (show wordT s.data.toList = (⟨if r = true then 1 else 2, tx, 0⟩, 0) by unfold wordT; rw [hm, if_neg h16, htx, hr])
    clear h16 hm htx hre hr
    go_enter Tryd.func40, Tryd.ntmps40
    go_upto_region 1 with fail
    rw [← hW0, ← hB]
    clear hW0 hB
    go_upto_region 5 with (go_at_call 27; refine HS.out.mono ?_; rintro e w1 ⟨rfl, hk1⟩; have HB1 := Lib.hid (hk1.blk HB.out); have HK1 := Lib.hid hk1; clear hk1)
    obtain ⟨W2, B5, hW2, hB5, hb5, hk2, -⟩ := fresh_block w1 (.cells #[.int .i64 2, .string ⟨tx.toArray⟩, .int .i64 0, .int .i64 0, .int .i64 0] 30)
    rw [← hW2, ← hB5]
    have HB5 := Lib.hid hb5
    have HK2 := Lib.hid (HK1.out.trans hk2)
    have HL5 := Lib.hid (show W0.heap.size ≤ B5 ∧ B < B5 by have := HK1.out.size; have := HN.out; omega)
    have HT2 := Lib.hid (HK2.out.tabS HT.out)
    have n1 := (blk5 hb5).2.1
    clear hW2 hB5 hb5 hk2 het hmi h0
    cases r with
    | false =>
      go_upto_region 7 with (go_at_call 15; refine (HR.out _ HT2.out).mono ?_; rintro e w3 ⟨rfl, hk3⟩; have HB3 := Lib.hid (hk3.blk (HK2.out.blk HB.out)); have HB53 := Lib.hid (hk3.blk HB5.out); have HK3 := Lib.hid (HK2.out.trans hk3); clear hk3)
      obtain ⟨n0, n1, n2, n3, n4, f0, f1, f2, f3, f4⟩ := blk5 HB3.out
      obtain ⟨m0, m1, m2, m3, m4, -⟩ := blk5 HB53.out
      go_wp2_with fail
      obtain ⟨wf, hwf, hp, hkp⟩ := put5 HB3.out (.int .i64 2) (.string ⟨tx.toArray⟩) (.int .i64 0) (.int .i64 0) (.int .i64 0)
      rw [← hwf]
      obtain ⟨c0, c1, c2, c3, c4, -⟩ := blk5 hp
      refine bodyPost_ret (v := .tuple #[.agg #[.int .i64 2, .string ⟨tx.toArray⟩, .int .i64 0, .int .i64 0, .int .i64 0], .int .i64 0]) (by simp [results, Tryd.results40, go_sem, c0, c1, c2, c3, c4]) rfl ⟨by rw [HE.out]; rfl, ?_⟩
      exact (HK.out.trans HK3.out).new hkp fun k e => by have h2 : k = B := e; have := HN.out; omega
    | true =>
      go_upto_region 7 with (go_at_call 15; refine (HR.out _ HT2.out).mono ?_; rintro e w3 ⟨rfl, hk3⟩; have HB3 := Lib.hid (hk3.blk (HK2.out.blk HB.out)); have HB53 := Lib.hid (hk3.blk HB5.out); have HK3 := Lib.hid (HK2.out.trans hk3); clear hk3; obtain ⟨n0, -, -, -, -, f0, -⟩ := blk5 HB53.out)
      have hb6 := put1 (i := 0) HB53.out (.int .i64 1)
      have hk6 : KeepBut (fun k => k = B5) w3 (w3.setCell ⟨B5, 0, none⟩ (.int .i64 1)) := KeepBut.setCell _ _ _ rfl
      obtain ⟨w6, hw6⟩ : ∃ w6, w3.setCell ⟨B5, 0, none⟩ (.int .i64 1) = w6 := ⟨_, rfl⟩
      rw [hw6] at hb6 hk6 ⊢
      have HB6 := Lib.hid (KeepBut.blkE hk6 HB3.out (fun e => by have h1 := hk6.size; have := HL5.out; omega))
      clear n0 f0
      obtain ⟨n0, n1, n2, n3, n4, f0, f1, f2, f3, f4⟩ := blk5 HB6.out
      obtain ⟨m0, m1, m2, m3, m4, -⟩ := blk5 (a := .int .i64 1) hb6
      have HK6 := Lib.hid (HK3.out.new hk6 fun k e => by have h2 : k = B5 := e; have := HL5.out; omega)
      clear hw6 hb6 hk6
      go_wp2_with fail
      obtain ⟨wf, hwf, hp, hkp⟩ := put5 HB6.out (.int .i64 1) (.string ⟨tx.toArray⟩) (.int .i64 0) (.int .i64 0) (.int .i64 0)
      rw [← hwf]
      obtain ⟨c0, c1, c2, c3, c4, -⟩ := blk5 hp
      refine bodyPost_ret (v := .tuple #[.agg #[.int .i64 1, .string ⟨tx.toArray⟩, .int .i64 0, .int .i64 0, .int .i64 0], .int .i64 0]) (by simp [results, Tryd.results40, go_sem, c0, c1, c2, c3, c4]) rfl ⟨by rw [HE.out]; rfl, ?_⟩
      exact (HK.out.trans HK6.out).new hkp fun k e => by have h2 : k = B := e; have := HN.out; omega

end Go.Proofs.YtmklmlocldbaoaaDoor
