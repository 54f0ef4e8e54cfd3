/-
  The reference of chapter 19: cut, copied.
-/
import Derived.Test.YtopodipjapiaoaaDoorRef4
import Derived.Test.YtopodipjapiaoaaDoorHeld
namespace Go.Proofs.YtopodipjapiaoaaDoor
open Go Go.RowKit Own

set_option maxHeartbeats 8000000 in
theorem refCut_any (w : World) (p : Option Addr) (c : Nat) (xs : List Int) (k : Nat) (ho : OwnI 2 0 w p c xs) (hk : k < xs.length) (hl : xs.length ≤ 1099511627776) :
    Calls Tryd.prog 39 #[.slice p xs.length c, .int .i64 k] w fun e w' => ∃ p' c', e = .returned (.slice p' (cutAt xs k).length c') ∧ OwnI 2 w.heap.size w' p' c' (cutAt xs k) ∧ KeepBut (fun _ => False) w w' := by
  rcases ho.parts with ⟨_, _, h3⟩ | ⟨g, cur, h1, _, h3, h4, h5, _, _⟩
  · subst h3; exact absurd hk (Nat.not_lt_zero k)
  subst h1
  obtain ⟨l1, hl1⟩ : ∃ l1, l1 = xs.take k := ⟨_, rfl⟩
  obtain ⟨l2, hl2⟩ : ∃ l2, l2 = xs.drop (k + 1) := ⟨_, rfl⟩
  have hcut := Lib.hid (show cutAt xs k = l1 ++ l2 by rw [hl1, hl2]; exact cutAt_eq _ _)
  have hn1 : k = l1.length := by rw [hl1, List.length_take]; omega
  have hn2 : xs.length - (k + 1) = l2.length := by rw [hl2, List.length_drop]
  have hc1 : Hid (∀ w', KeepBut (fun _ => False) w.drew w' → ∀ j, j < l1.length → w'.cell? ((⟨g, 0, none⟩ : Addr).add j) = some (.int .i64 (nth l1 j))) := fun w' hk' j hj => by
    have h := ((KeepBut.drew _ w).trans hk').stay (ho.rd.int j (by omega))
    have e : nth l1 j = nth xs j := by rw [hl1]; simp [nth, List.getElem?_take, show j < k by omega]
    rw [e, add_off]
    exact h
  obtain ⟨ad, hsl2, had⟩ := run_cut_from (P := Tryd.prog) (t := 22) Tryd.underlying22 (by kernel_rfl : (Tryd.prog.info? 2).map (·.size) = some 1) g xs.length c (k + 1) (by omega)
  have hc2 : Hid (∀ w', KeepBut (fun _ => False) w.drew w' → ∀ j, j < l2.length → w'.cell? (ad.add j) = some (.int .i64 (nth l2 j))) := fun w' hk' j hj => by
    have h := ((KeepBut.drew _ w).trans hk').stay (ho.rd.int (k + 1 + j) (by omega))
    have e : nth l2 j = nth xs (k + 1 + j) := by rw [hl2]; simp [nth, List.getElem?_drop]
    rw [e, had (by omega), add_off]
    rw [Nat.zero_add] at h
    exact h
  have hsl1 := run_cut_to (P := Tryd.prog) (t := 22) Tryd.underlying22 (by kernel_rfl : (Tryd.prog.info? 2).map (·.size) = some 1) g xs.length c k (by omega)
  have HS1 := Lib.hid hsl1; have HS2 := Lib.hid hsl2; have HN1 := Lib.hid hn1; have HN2 := Lib.hid hn2
  have hWa : IntKind.i64.wrap ((k : Int) + 1) = ((k + 1 : Nat) : Int) := by rw [IntWalk.i64_in _ (by omega)]; omega
  have hlI : Hid (l1.length + l2.length ≤ 1099511627776) := by show l1.length + l2.length ≤ 1099511627776; omega
  clear hl1 hl2 hsl1 hsl2 had hn1 hn2 h3 h4 h5 ho hk hl
  go_enter Tryd.func39, Tryd.ntmps39
  go_upto_region 1 with fail
  refine wp_own0 (by kernel_rfl) (fun i => [[], [], [], [1, 2], [0, 1, 2, 3], [], [], [6], [5, 6, 7], [0, 1, 2, 3, 4, 5, 6, 7, 8], [0, 1, 2, 3, 4, 5, 6, 7, 8, 9]].getD i []) (fun i => if i = 4 then [0] else if i = 9 then [4] else []) (fun i => if i = 4 then [0] else if i = 9 then [4] else []) [9] (by kernel_rfl)
    (fun i => if i = 0 then some { val := fun _ g => .slice (some ⟨g.b, 0, none⟩) 0 0, fp := fun _ g k => k = g.b, post := fun _ g w => w.heap[g.b]? = some (.cells #[] 2 (0, 0)) }
      else if i = 4 then some (sAppN 2 [] l1) else if i = 9 then some (sAppN 2 l1 l2) else none) ?_
  refine lex_loud rfl rfl (loud_new (fun b => .slice (some ⟨b, 0, none⟩) 0 0) (.cells #[] 2) rfl (fun _ _ => rfl) (fun _ _ _ => Iff.rfl) (fun _ _ _ => Iff.rfl) (fun w => by go_simp)) fun g0 _ => ?_
  simp only [Act.put, List.setIfInBounds_toArray, List.set_cons_zero, List.set_cons_succ]
  repeat
    apply lex_quiet rfl rfl
    · intro w' hk; go_simp; with_reducible rfl
    simp only [Act.put, List.setIfInBounds_toArray, List.set_cons_zero, List.set_cons_succ]
  refine lex_quiet rfl rfl (v := .slice (some ⟨g, 0, none⟩) k c) (fun w' hk => slice_exec rfl w' _ (HS1.out w')) ?_
  simp only [Act.put, List.setIfInBounds_toArray, List.set_cons_zero, List.set_cons_succ]
  refine lex_loud rfl rfl (loud_appendN 2 22 (some ⟨g0.b, 0, none⟩) 0 0 c k [] l1 ⟨g, 0, none⟩ (.tmp 5) (.tmp 8) rfl rfl rfl rfl HN1.out Tryd.underlying22 info_int64 (by have := hlI.out; simp; omega) hc1.out 0 (by decide) (by decide) (fun w h => OwnI.mk (xs := []) (Nat.zero_le _) h (by decide) (by decide) rfl) (fun b hb => (Of.some_iff.1 hb)) (fun b hb => Of.some_iff.2 hb)) fun g1 _ => ?_
  simp only [sAppN, Act.put, List.setIfInBounds_toArray, List.set_cons_zero, List.set_cons_succ]
  repeat
    apply lex_quiet rfl rfl
    · intro w' hk; go_simp; with_reducible rfl
    simp only [Act.put, List.setIfInBounds_toArray, List.set_cons_zero, List.set_cons_succ]
  refine lex_quiet rfl rfl (v := .slice (some ad) (xs.length - (k + 1)) (c - (k + 1))) (fun w' hk => slice_exec rfl w' _ (HS2.out w')) ?_
  simp only [Act.put, List.setIfInBounds_toArray, List.set_cons_zero, List.set_cons_succ]
  refine lex_loud rfl rfl (loud_appendN 2 22 g1.p g1.c ([].length + l1.length) (c - (k + 1)) (xs.length - (k + 1)) l1 l2 ad (.tmp 9) (.tmp 13) rfl rfl (by simp) rfl HN2.out Tryd.underlying22 info_int64 hlI.out hc2.out 4 (by decide) (by decide) (fun w h => h) (fun b hb => hb) (fun b hb => hb)) fun g2 _ => ?_
  simp only [sAppN, Act.put, List.setIfInBounds_toArray, List.set_cons_zero, List.set_cons_succ]
  repeat
    apply lex_quiet rfl rfl
    · intro w' hk; go_simp; with_reducible rfl
    simp only [Act.put, List.setIfInBounds_toArray, List.set_cons_zero, List.set_cons_succ]
  refine lex_nil ?_
  intro w9 hk9 hF _
  have f9 : OwnI 2 0 w9 g2.p g2.c (l1 ++ l2) := (hF 9 (by decide)).1
  have b9 : ∀ b, Of g2.p b → b < w9.heap.size ∧ (w.heap.size ≤ b ∨ False) := (hF 9 (by decide)).2
  have HO := Lib.hid (f9.base fun a ha => (b9 a.block ⟨a, ha, rfl⟩).2.resolve_right fun e => e)
  have HK := Lib.hid ((KeepBut.drew (fun _ => False) w).trans hk9)
  clear hk9 hF f9 b9
  go_wp2_with fail
  go_ret
  exact ⟨g2.p, g2.c, by rw [hcut.out, List.length_append]; rfl, by rw [hcut.out]; exact HO.out, HK.out⟩

set_option maxHeartbeats 8000000 in
theorem copied_any (w : World) (k : Int) (p : Option Addr) (c : Nat) (xs : List Int) (hrd : Rd w p (ints xs)) (hl : xs.length ≤ 1099511627776) :
    Calls Tryd.prog 40 #[.agg #[.int .i64 k, .slice p xs.length c]] w fun e w' => DoneC w e w' k xs := by
  obtain ⟨W1, B, hW1, hB, hB1, hk1, hs1⟩ := fresh_block w (.cells #[.int .i64 k, .slice p xs.length c] 24)
  obtain ⟨W, N, hWd, hN, hWn, hkW, hWs⟩ := fresh_block W1 (.cells #[.int .i64 0, .slice none 0 0] 24)
  have hk0 : KeepBut (fun _ => False) w W := hk1.trans hkW
  have HKW := Lib.hid hk0
  have HB := Lib.hid (hkW.blk hB1); have HN := Lib.hid hWn
  have HR := Lib.hid (hrd.stay hk0)
  have hNB : B + 1 = N := by omega
  have HS := Lib.hid (show w.heap.size = B ∧ W.heap.size = N + 1 by omega)
  have x1 := blk_cell (k := 1) HB.out rfl
  clear hrd hB1 hWn hkW hk0 hWs hk1 hs1
  cases p with
  | none =>
    have : xs = [] := by
      apply Classical.byContradiction; intro h
      obtain ⟨b, o, h1, _⟩ := HR.out.ptr (by rw [ints_length]; exact nil_of_length h)
      cases h1
    subst this
    have hA := KeepBut.alloc (fun _ => False) W (.cells #[] 2)
    have x1 : (W.alloc (.cells #[] 2)).cell? ⟨B, 1, none⟩ = some (.slice none ([] : List Int).length c) := hA.stay x1
    have z0 := hA.stay (blk_cell (k := 0) HB.out rfl)
    have n0 := hA.stay (blk_cell (k := 0) HN.out rfl)
    have n1 := hA.stay (blk_cell (k := 1) HN.out rfl)
    have f1 : (W.alloc (.cells #[] 2)).frozen? ⟨B, 1, none⟩ = false := by simp [World.frozen?, hA.blk HB.out]
    have f2 : (W.alloc (.cells #[] 2)).frozen? ⟨N, 0, none⟩ = false := by simp [World.frozen?, hA.blk HN.out]
    have f3 : (W.alloc (.cells #[] 2)).frozen? ⟨N, 1, none⟩ = false := by simp [World.frozen?, hA.blk HN.out]
    simp only [List.length_nil] at hW1
    obtain ⟨xs, hxs⟩ : ∃ xs : List Int, xs = [] := ⟨_, rfl⟩
    have HQ := Lib.hid (show OwnI 2 0 (W.alloc (.cells #[] 2)) (some ⟨W.heap.size, 0, none⟩) 0 xs ∧ (∀ b, Of (some ⟨W.heap.size, 0, none⟩) b → W.heap.size ≤ b) ∧ KeepBut (fun b => b = W.heap.size) W (W.alloc (.cells #[] 2)) from
      ⟨by rw [hxs]; exact OwnI.mk (xs := []) (Nat.zero_le _) (heap_alloc_new W _) (by decide) (by decide) rfl, fun b hb => Nat.le_of_eq (Of.some_iff.1 hb).symm, hA.mono fun _ e => e.elim⟩)
    clear hA
    go_enter Tryd.func40, Tryd.ntmps40
    go_upto_region 1 with fail
    rw [← hW1, ← hB, ← hWd, hNB]
    clear hWd hN hW1 hB
    go_wp2_with fail
    subst hxs
    have hf : KeepBut (fun b => b = B ∨ b = N) (W.alloc (.cells #[] 2)) ((((W.alloc (.cells #[] 2)).setCell ⟨B, 1, none⟩ (.slice (some ⟨W.heap.size, 0, none⟩) 0 0)).setCell ⟨N, 0, none⟩ (.int .i64 k)).setCell ⟨N, 1, none⟩ (.slice (some ⟨W.heap.size, 0, none⟩) 0 0)) :=
      ((KeepBut.setCell _ _ _ (.inl rfl)).trans (KeepBut.setCell _ _ _ (.inr rfl))).trans (KeepBut.setCell _ _ _ (.inr rfl))
    refine bodyPost_ret (v := .agg #[.int .i64 k, .slice (some ⟨W.heap.size, 0, none⟩) 0 0]) (by simp [results, Tryd.results40, go_sem, n0, n1]) rfl ⟨(some ⟨W.heap.size, 0, none⟩), 0, rfl, ?_, ?_⟩
    · obtain ⟨h1, h3, h4⟩ := HQ.out
      have h1' : OwnI 2 0 (W.alloc (.cells #[] 2)) (some ⟨W.heap.size, 0, none⟩) 0 [] := h1
      refine ((h1'.keep hf fun a' ha e => ?_).base fun a' ha => ?_).lies
      · have := h3 _ ⟨a', ha, rfl⟩
        have := HS.out
        rcases e with e | e <;> omega
      · have := h3 _ ⟨a', ha, rfl⟩
        have := HS.out
        omega
    · refine HKW.out.new (E := fun b => b = B ∨ b = N ∨ b = W.heap.size) ((HQ.out.2.2.mono fun b e => .inr (.inr e)).trans (hf.mono fun b e => e.elim .inl fun e => .inr (.inl e))) fun b hb => ?_
      have := HS.out
      rcases hb with e | e | e <;> omega
  | some a =>
    have hA := KeepBut.alloc (fun _ => False) W (.cells #[] 2)
    have hz := Lib.hid (rd_adds (HR.out.stay hA))
    have ho := Lib.hid (show OwnI 2 0 (W.alloc (.cells #[] 2)) (some ⟨W.heap.size, 0, none⟩) 0 [] from OwnI.mk (xs := []) (Nat.zero_le _) (heap_alloc_new W _) (by decide) (by decide) rfl)
    have HA := Lib.hid hA
    have x1 : (W.alloc (.cells #[] 2)).cell? ⟨B, 1, none⟩ = some (.slice (some a) xs.length c) := hA.stay x1
    clear hA
    go_enter Tryd.func40, Tryd.ntmps40
    go_upto_region 1 with fail
    rw [← hW1, ← hB, ← hWd, hNB]
    clear hWd hN hW1 hB
    go_wp2_with (at_builtin; refine wpList_appendN rfl (.tmp 3) (.tmp 5) 22 rfl 2 (some ⟨W.heap.size, 0, none⟩) 0 0 [] xs rfl a _ c rfl rfl rfl Tryd.underlying22 info_int64 ho.out hz.out (by simp; omega) ?_
                 intro p' c' w' h1 h2 h3
                 have hkk : KeepBut (fun b => b = W.heap.size) W w' := (HA.out.mono fun _ e => e.elim).trans (h2.mono fun b hb => Of.some_iff.1 hb)
                 have z0 := hkk.cell (blk_cell (k := 0) HB.out rfl) (by have := HS.out; show ¬ B = _; omega)
                 have z1 := hkk.cell (blk_cell (k := 1) HB.out rfl) (by have := HS.out; show ¬ B = _; omega)
                 have n0 := hkk.cell (blk_cell (k := 0) HN.out rfl) (by have := HS.out; show ¬ N = _; omega)
                 have n1 := hkk.cell (blk_cell (k := 1) HN.out rfl) (by have := HS.out; show ¬ N = _; omega)
                 have f1 : w'.frozen? ⟨B, 1, none⟩ = false := by simp [World.frozen?, KeepBut.blkE hkk HB.out (by have := HS.out; omega)]
                 have f2 : w'.frozen? ⟨N, 0, none⟩ = false := by simp [World.frozen?, KeepBut.blkE hkk HN.out (by have := HS.out; omega)]
                 have f3 : w'.frozen? ⟨N, 1, none⟩ = false := by simp [World.frozen?, KeepBut.blkE hkk HN.out (by have := HS.out; omega)]
                 have HQ := Lib.hid (show OwnI 2 0 w' p' c' xs ∧ (∀ b, Of p' b → W.heap.size ≤ b) ∧ KeepBut (fun b => b = W.heap.size) W w' from ⟨by simpa using h1, fun b hb => by rcases h3 b hb with e | e; exact Nat.le_of_eq (Of.some_iff.1 e).symm; simp at e; omega, hkk⟩)
                 clear h1 h2 h3 hkk x1)
    have hf : KeepBut (fun b => b = B ∨ b = N) w' (((w'.setCell ⟨B, 1, none⟩ (.slice p' xs.length c')).setCell ⟨N, 0, none⟩ (.int .i64 k)).setCell ⟨N, 1, none⟩ (.slice p' xs.length c')) :=
      ((KeepBut.setCell _ _ _ (.inl rfl)).trans (KeepBut.setCell _ _ _ (.inr rfl))).trans (KeepBut.setCell _ _ _ (.inr rfl))
    refine bodyPost_ret (v := .agg #[.int .i64 k, .slice p' xs.length c']) (by simp [results, Tryd.results40, go_sem, n0, n1]) rfl ⟨p', c', rfl, ?_, ?_⟩
    · obtain ⟨h1, h3, h4⟩ := HQ.out
      have h1' : OwnI 2 0 w' p' c' xs := h1
      refine ((h1'.keep hf fun a' ha e => ?_).base fun a' ha => ?_).lies
      · have := h3 _ ⟨a', ha, rfl⟩
        have := HS.out
        rcases e with e | e <;> omega
      · have := h3 _ ⟨a', ha, rfl⟩
        have := HS.out
        omega
    · refine HKW.out.new (E := fun b => b = B ∨ b = N ∨ b = W.heap.size) ((HQ.out.2.2.mono fun b e => .inr (.inr e)).trans (hf.mono fun b e => e.elim .inl fun e => .inr (.inl e))) fun b hb => ?_
      have := HS.out
      rcases hb with e | e | e <;> omega

end Go.Proofs.YtopodipjapiaoaaDoor
