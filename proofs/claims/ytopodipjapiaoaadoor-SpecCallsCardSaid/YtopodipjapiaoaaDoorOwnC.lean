/-
  Helpers of the statements: fencepostkit.Own[int64], OwnContent, Content.
-/
import Derived.Test.YtopodipjapiaoaaDoorKit
import Derived.Test.YtopodipjapiaoaaDoorApp
namespace Go.Proofs.YtopodipjapiaoaaDoor
open Go Go.RowKit Own

/-- append of numbers that are read to a row of one's own, at the operation -/
theorem wpList_appendN {P : Program} {w : World} {ops : Array Oper} {rest : List Oper} {o : Oper} {a : Act} {Q : Exit → Act → World → Prop} (hgd : o.guard = none) (s x : Operand) (t : TypeId)
    (ho : o.op = .call { callee := .builtin .append, args := #[s, x], argTypes := #[t, t] }) (E : TypeId) (p : Option Addr) (c n : Nat) (xs zs : List Int) (hn : n = xs.length) (ad : Addr) (m cc : Nat) (hm : m = zs.length)
    (hs : a.eval s = .slice p n c) (hx : a.eval x = .slice (some ad) m cc) (ht : P.underlying t = some (.slice E))
    (hinfo : (P.info? E).map (fun i => (i.zero, i.size, i.bytes)) = some (some (.int .i64 0), 1, 8)) (hown : OwnI E 0 w p c xs) (hz : ∀ j, j < zs.length → w.cell? (ad.add j) = some (.int .i64 (nth zs j))) (hl : xs.length + zs.length ≤ 1099511627776)
    (h : ∀ p' c' w', OwnI E 0 w' p' c' (xs ++ zs) → KeepBut (Of p) w w' → (∀ b, Of p' b → Of p b ∨ w.heap.size ≤ b) → wpList P ops Q rest (a.put o.dst (.slice p' (xs.length + zs.length) c')) w') :
    wpList P ops Q (o :: rest) a w := by
  subst hn hm
  refine wpList_plain hgd fun K hK => ?_
  obtain ⟨p', c', w', h1, h2, h3, h4⟩ := append_ownN (P := P) E t o.type w p c xs zs ad cc ht hinfo hown hz hl
  unfold Oper.wp execOp
  simp only [ho, resolve, invoke, builtin, Sem.run_bind, Sem.run_pure, Result.andThen_ok, List.map_toArray, List.map_cons, List.map_nil, hs, hx, h1]
  exact hK _ _ (h p' c' w' h2 h3 h4)

theorem rd_adds {w : World} {a : Addr} {xs : List Int} (h : Rd w (some a) (ints xs)) : ∀ j, j < xs.length → w.cell? (a.add j) = some (.int .i64 (nth xs j)) := fun j hj => by
  obtain ⟨b, o, h1, _⟩ := h.ptr (by rw [ints_length]; omega)
  cases h1
  rw [add_off]
  exact h.int j hj

theorem own_any (w : World) (p : Option Addr) (c : Nat) (xs : List Int) (hrd : Rd w p (ints xs)) (hl : xs.length ≤ 1099511627776) :
    Calls Tryd.prog 36 #[.slice p xs.length c] w fun e w' => ∃ p' c', e = .returned (.slice p' xs.length c') ∧ OwnI 2 w.heap.size w' p' c' xs ∧ KeepBut (fun _ => False) w w' := by
  cases p with
  | none =>
    have : xs = [] := by
      apply Classical.byContradiction; intro h
      obtain ⟨b, o, h1, _⟩ := hrd.ptr (by rw [ints_length]; exact nil_of_length h)
      cases h1
    subst this
    go_enter Tryd.func36, Tryd.ntmps36
    go_wp2_with fail
    go_ret
    exact ⟨some ⟨w.heap.size, 0, none⟩, 0, rfl, OwnI.mk (xs := []) (Nat.le_refl _) (heap_alloc_new w _) (by decide) (by decide) rfl, KeepBut.alloc _ _ _⟩
  | some a =>
    have hA := KeepBut.alloc (fun _ => False) w (.cells #[] 2)
    have hz := Lib.hid (rd_adds (hrd.stay hA))
    have ho := Lib.hid (show OwnI 2 0 (w.alloc (.cells #[] 2)) (some ⟨w.heap.size, 0, none⟩) 0 [] from OwnI.mk (xs := []) (Nat.zero_le _) (heap_alloc_new w _) (by decide) (by decide) rfl)
    clear hrd
    go_enter Tryd.func36, Tryd.ntmps36
    go_wp2_with (at_builtin; refine wpList_appendN rfl (.tmp 3) (.tmp 4) 22 rfl 2 (some ⟨w.heap.size, 0, none⟩) 0 0 [] xs rfl a _ c rfl rfl rfl Tryd.underlying22 info_int64 ho.out hz.out (by simp; omega) ?_
                 intro p' c' w' h1 h2 h3
                 have HQ := Lib.hid (And.intro h1 (And.intro h2 h3))
                 clear h1 h2 h3)
    go_ret
    obtain ⟨h1, h2, h3⟩ := HQ.out
    refine ⟨p', c', by simp, (by simpa using h1 : OwnI 2 0 w' p' c' xs).base fun a' ha => ?_, (hA.new h2 fun b hb => ?_)⟩
    · rcases h3 a'.block ⟨a', ha, rfl⟩ with hb | hb
      · rw [Of.some_iff.1 hb]
        exact Nat.le_refl _
      · simp at hb; omega
    · rw [Of.some_iff.1 hb]
      exact Nat.le_refl _

def DoneC (w : World) (e : Ending) (w' : World) (k : Int) (xs : List Int) : Prop :=
  ∃ p cap, e = .returned (.agg #[.int .i64 k, .slice p xs.length cap]) ∧ Lies w.heap.size w' p xs ∧ KeepBut (fun _ => False) w w'

set_option maxHeartbeats 4000000 in
theorem ownContent_any (w : World) (k : Int) (p : Option Addr) (c : Nat) (xs : List Int) (hrd : Rd w p (ints xs)) (hl : xs.length ≤ 1099511627776) :
    Calls Tryd.prog 15 #[.agg #[.int .i64 k, .slice p xs.length c]] w fun e w' => DoneC w e w' k xs := by
  obtain ⟨W1, B, hW1, hB, hB1, hk1, hs1⟩ := fresh_block w (.cells #[.int .i64 k, .slice p xs.length c] 24)
  obtain ⟨W, N, hWd, hN, hWn, hkW, hWs⟩ := fresh_block W1 (.cells #[.int .i64 0, .slice none 0 0] 24)
  have hk0 : KeepBut (fun _ => False) w W := hk1.trans hkW
  have hB2 := hkW.blk hB1
  have hNw : w.heap.size ≤ N := by omega
  have hBN : ¬ B = N := by omega
  have HN := Lib.hid hNw
  have HNl := Lib.hid (show N < W.heap.size by omega)
  have hNB : B + 1 = N := by omega
  have HWN := Lib.hid hWn; have HKW := Lib.hid hk0
  have HR := Lib.hid (hrd.stay hk0)
  have cB0 : ∀ w', KeepBut (fun x => x = N) W.drew w' → w'.cell? ⟨B, 0, none⟩ = some (.int .i64 k) := fun w' h => ((KeepBut.drew _ W).trans h).cell (blk_cell (k := 0) hB2 rfl) hBN
  have cB1 : ∀ w', KeepBut (fun x => x = N) W.drew w' → w'.cell? ⟨B, 1, none⟩ = some (.slice p xs.length c) := fun w' h => ((KeepBut.drew _ W).trans h).cell (blk_cell (k := 1) hB2 rfl) hBN
  have HP : Hid (∀ a, 0 < xs.length → p = some a → a.block ≠ N) := fun a h0 ha => by
    obtain ⟨b, o, h1, h2⟩ := hrd.ptr (by rw [ints_length]; exact h0)
    rw [ha] at h1; cases h1
    show b ≠ N
    omega
  clear hrd hB1 hB2 hWn hkW hk0 hWs hk1 hs1 hNw hBN
  go_enter Tryd.func15, Tryd.ntmps15
  go_upto_region 1 with fail
  rw [← hW1, ← hB, ← hWd, hNB]
  clear hWd hN hW1 hB hNB
  refine wp_own1 (by kernel_rfl) N _ HWN.out (fun i => [[], [0], [], [2], [2, 3], [0, 1, 2, 3, 4], [0, 1, 2, 3, 4, 5]].getD i []) (fun i => if i = 6 then [7] else []) (fun i => if i = 6 then [7] else []) [4, 6] (by kernel_rfl)
    (fun i => if i = 4 then some (sOwnI 2 xs) else if i = 6 then some (sPut N 24) else none) ?_
  repeat
    apply lex_quiet rfl rfl
    · intro w' hk; go_simp; with_reducible rfl
    simp only [Act.put, List.setIfInBounds_toArray, List.set_cons_zero, List.set_cons_succ]
  refine lex_loud rfl rfl (loud_call 36 #[.slice p xs.length c] (fun w => by kernel_rfl) ⟨default, trivial⟩ (fun g _ => stable_ownI _ _ _ _ _) fun w' hk _ _ => (own_any w' p c xs ?_ hl).mono ?_) fun g4 _ => ?_
  · by_cases h0 : 0 < xs.length
    · exact HR.out.keep ((KeepBut.drew _ W).trans hk) fun a ha e => HP.out a h0 ha e
    · have : xs = [] := List.eq_nil_of_length_eq_zero (by omega)
      rw [this]; exact Rd.empty _ _
  · rintro e w'' ⟨p', c', rfl, ho, hq⟩
    exact ⟨{ p := p', c := c' }, trivial, rfl, hq.mono fun _ e => e.elim, fun b ⟨a, h1, h2⟩ => by have := ho.lt a h1; exact ⟨.inl (by omega), by omega⟩, ho.base fun _ _ => Nat.zero_le _⟩
  simp only [sOwnI, sPut, Act.put, List.setIfInBounds_toArray, List.set_cons_zero, List.set_cons_succ]
  repeat
    apply lex_quiet rfl rfl
    · intro w' hk; go_simp; with_reducible rfl
    simp only [Act.put, List.setIfInBounds_toArray, List.set_cons_zero, List.set_cons_succ]
  refine lex_loud rfl rfl (loud_put N 24 24 #[.int .i64 k, .slice g4.p xs.length g4.c] _ (.tmp 2) (.tmp 8) rfl rfl rfl 7 (by decide) (by decide) (fun w h => h) ⟨rfl, rfl⟩ rfl (by kernel_rfl) (by simp [Value.oneCell'])) fun g6 _ => ?_
  simp only [sOwnI, sPut, Act.put, List.setIfInBounds_toArray, List.set_cons_zero, List.set_cons_succ]
  refine lex_nil ?_
  intro w9 hk hF _
  have f4 : OwnI 2 0 w9 g4.p g4.c xs := (hF 4 (by decide)).1
  have b4 : ∀ b, Of g4.p b → b < w9.heap.size ∧ (W.heap.size ≤ b ∨ b = N) := (hF 4 (by decide)).2
  have f6 : w9.heap[N]? = some (.cells #[.int .i64 k, .slice g4.p xs.length g4.c] 24 (0, 0)) := (hF 6 (by decide)).1 _ (put_args rfl rfl)
  have c0 := blk_cell (k := 0) f6 rfl
  have c1 := blk_cell (k := 1) f6 rfl
  have hfin : DoneC w (.returned (.agg #[.int .i64 k, .slice g4.p xs.length g4.c])) w9 k xs :=
    ⟨g4.p, g4.c, rfl, (f4.base fun a ha => by have := (b4 a.block ⟨a, ha, rfl⟩).2; have := HN.out; have := HNl.out; omega).lies, HKW.out.new ((KeepBut.drew _ W).trans hk) fun b hb => by have := HN.out; have h2 : b = N := hb; omega⟩
  have HF := Lib.hid hfin
  clear hF hfin f4 b4 f6 hk cB0 cB1
  go_wp2_with fail
  exact bodyPost_ret (v := .agg #[.int .i64 k, .slice g4.p xs.length g4.c]) (by simp [results, Tryd.results15, go_sem, c0, c1]) rfl HF.out

theorem content_any (w : World) (k l : Int) (p q : Option Addr) (c d : Nat) (xs ys : List Int) (hx : Rd w p (ints xs)) (hy : Rd w q (ints ys)) (hlx : xs.length ≤ 1099511627776) (hly : ys.length ≤ 1099511627776) :
    Calls Tryd.prog 16 #[.agg #[.int .i64 k, .slice p xs.length c], .agg #[.int .i64 l, .slice q ys.length d]] w fun e w' => e = .returned (.bool (decide (k = l ∧ xs = ys))) ∧ KeepBut (fun _ => False) w w' := by
  have HX := Lib.hid hx; have HY := Lib.hid hy
  clear hx hy
  by_cases h : k = l
  · have hb : (k == l) = true := by simpa using h
    have hfin := Lib.hid (show decide (k = l ∧ xs = ys) = decide (xs = ys) by simp [h])
    clear h
    have hcon : ∀ W, KeepBut (fun _ => False) w W → Calls Tryd.prog 31 #[.slice p xs.length c, .slice q ys.length d] W fun e w' => e = .returned (.bool (decide (xs = ys))) ∧ KeepBut (fun _ => False) W w' := fun W hW =>
      kitSame_any W p q c d xs ys (HX.out.keep hW fun _ _ e => e) (HY.out.keep hW fun _ _ e => e) hlx hly
    have HC := Lib.hid hcon
    clear hcon
    generalize decide (xs = ys) = r at *
    go_enter Tryd.func16, Tryd.ntmps16
    go_wp2_with (go_at_call 31; refine (HC.out _ ((KeepBut.alloc _ _ _).trans (KeepBut.alloc _ _ _))).mono ?_; rintro e w' ⟨rfl, hd⟩)
    go_ret
    exact ⟨ret_bool hfin.out.symm, ((KeepBut.alloc _ _ _).trans (KeepBut.alloc _ _ _)).trans hd⟩
  · have hb : (k == l) = false := by simpa using h
    have hfin := Lib.hid (show decide (k = l ∧ xs = ys) = false by simp [h])
    clear h
    go_enter Tryd.func16, Tryd.ntmps16
    go_wp2_with fail
    go_ret
    exact ⟨ret_bool hfin.out.symm, (KeepBut.alloc _ _ _).trans (KeepBut.alloc _ _ _)⟩

end Go.Proofs.YtopodipjapiaoaaDoor
