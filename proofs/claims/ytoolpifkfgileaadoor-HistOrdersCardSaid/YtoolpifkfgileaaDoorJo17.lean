/- Joined texts of this work: Ref7, Ref8, Hs1. -/
import Derived.Test.YtoolpifkfgileaaDoorJo16
import Derived.Deep.CutRange
import Derived.Deep.CutBlock
import Derived.Test.YtoolpifkfgileaaDoorJo15

/-
  The reference of chapter 19: Do, of what may be.
-/
namespace Go.Proofs.YtoolpifkfgileaaDoor
open Go Go.RowKit Own

theorem place_set {xs : List Int} {x : Int} {i : Nat} (h : strictB xs = true) (hi : i ≤ xs.length) (hlo : ∀ j, j < i → nth xs j < x) (hhi : i < xs.length → x ≤ nth xs i) : i = xs.countP (· < x) ∧ thereB xs i x = xs.contains x := by
  have hp := strict_pairwise h
  have hge : ∀ j, i ≤ j → j < xs.length → nth xs i ≤ nth xs j := fun j h1 h2 => by
    rcases Nat.eq_or_lt_of_le h1 with e | e
    · rw [e]; exact Int.le_refl _
    · have := (List.pairwise_iff_getElem.1 hp) i j (by omega) h2 e
      rw [nth_eq (by omega), nth_eq h2]; omega
  refine ⟨?_, ?_⟩
  · have e : xs.countP (· < x) = (xs.take i).countP (· < x) + (xs.drop i).countP (· < x) := by rw [← List.countP_append, List.take_append_drop]
    have e1 : (xs.take i).countP (· < x) = i := by
      have hl : (xs.take i).length = i := by rw [List.length_take]; omega
      have := List.countP_eq_length (p := fun z => decide (z < x)) (l := xs.take i)
      rw [hl] at this
      refine this.2 fun z hz => ?_
      obtain ⟨j, hj, rfl⟩ := List.mem_iff_getElem.1 hz
      have hj' : j < i := by rw [hl] at hj; exact hj
      have := hlo j hj'
      rw [nth_eq (by omega)] at this
      simpa [List.getElem_take] using this
    have e2 : (xs.drop i).countP (· < x) = 0 := by
      rw [List.countP_eq_zero]
      intro z hz
      obtain ⟨j, hj, rfl⟩ := List.mem_iff_getElem.1 hz
      rw [List.length_drop] at hj
      have h1 := hhi (by omega)
      have h2 := hge (i + j) (by omega) (by omega)
      rw [nth_eq (show i + j < xs.length by omega)] at h2
      rw [List.getElem_drop]
      simp
      omega
    omega
  · unfold thereB
    by_cases hc : x ∈ xs
    · have : xs.contains x = true := contains_iff.2 hc
      rw [this]
      obtain ⟨j, hj, e⟩ := List.mem_iff_getElem.1 hc
      have ej : nth xs j = x := by rw [nth_eq hj]; exact e
      have hij : i ≤ j := by
        rcases Nat.lt_or_ge j i with h' | h'
        · have := hlo j h'; omega
        · exact h'
      have h1 := hhi (by omega)
      have h2 := hge j hij hj
      exact decide_eq_true ⟨by omega, by omega⟩
    · have : xs.contains x = false := by
        rcases Bool.eq_false_or_eq_true (xs.contains x) with e | e
        · exact absurd (contains_iff.1 e) hc
        · exact e
      rw [this]
      exact decide_eq_false fun h => hc (by rw [← h.2, nth_eq h.1]; exact List.getElem_mem h.1)

theorem append_some {P : Program} (E t ty : TypeId) (w : World) (g : Nat) (c : Nat) (xs zs : List Int) (a : Addr) (cc : Nat) (ht : P.underlying t = some (.slice E))
    (hinfo : (P.info? E).map (fun i => (i.zero, i.size, i.bytes)) = some (some (.int .i64 0), 1, 8)) (ho : OwnI E 0 w (some ⟨g, 0, none⟩) c xs) (hz : ∀ j, j < zs.length → w.cell? (a.add j) = some (.int .i64 (nth zs j))) (hl : xs.length + zs.length ≤ 1099511627776) :
    ∃ g' c' w', (Builtin.append_ #[t, t] ty #[.slice (some ⟨g, 0, none⟩) xs.length c, .slice (some a) zs.length cc]).run P w = .ok (.slice (some ⟨g', 0, none⟩) (xs.length + zs.length) c') w' ∧ OwnI E 0 w' (some ⟨g', 0, none⟩) c' (xs ++ zs) ∧ KeepBut (fun b => b = g) w w' ∧ (g' = g ∨ w.heap.size ≤ g') := by
  obtain ⟨i0, hi, hz0, hz1, hz2⟩ := info_parts hinfo
  obtain ⟨v', w', h1, h2, h3, h4, h5⟩ := run_append_own_at (P := P) w 0 t ty E i0 (.int .i64 0) 1 8 ht hi hz0 hz1 hz2 rfl (by decide) _ xs.length (ints xs) ho a zs.length cc (ints zs) (by rw [ints_length]; omega)
    (fun j u hj => by
      have hlt : j < zs.length := by
        rcases Nat.lt_or_ge j zs.length with h | h
        · exact h
        · rw [List.getElem?_eq_none (by rw [ints_length]; exact h)] at hj; cases hj
      rw [hz j hlt]
      have : (ints zs)[j]? = some (.int .i64 (nth zs j)) := by simp [ints, nth, List.getElem?_map, List.getElem?_eq_getElem hlt]
      rw [this] at hj; exact hj)
    (fun u hu => by
      obtain ⟨z, _, rfl⟩ := List.mem_map.1 hu; rfl) (by unfold maxLen; omega) (by omega) (Nat.zero_le _)
  have hrow : w'.ownsRow 0 E 1 v' (xs ++ zs).length (ints (xs ++ zs)) := by simpa [ints] using h2
  obtain ⟨p', c', rfl, ho'⟩ := OwnI.of_row hrow
  rcases ho'.parts with ⟨e1, e2, e3⟩ | ⟨g', cur, e1, _⟩
  · have e0 : (xs ++ zs).length = 0 := by rw [e3]; rfl
    rw [e0, e1, e2] at h4
    have := (h4.1 rfl).1
    cases this
  · subst e1
    refine ⟨g', c', w', by rw [h1]; simp, ho', KeepBut.grown h3 fun k hk => ?_, ?_⟩
    · simp only [Value.ownBlock, Option.some.injEq] at hk; exact hk.symm
    · simp only [Value.ownBlock] at h5
      rcases h5 with h5 | h5
      · simp only [Option.some.injEq] at h5; exact .inl h5
      · simp only [Option.some.injEq] at h5; exact .inr (by omega)

/-- append of numbers that are read to a row of one's own, at the operation: the row has a place -/
theorem wpList_appendS {P : Program} {w : World} {ops : Array Oper} {rest : List Oper} {o : Oper} {a : Act} {Q : Exit → Act → World → Prop} (hgd : o.guard = none) (s x : Operand) (t : TypeId)
    (ho : o.op = .call { callee := .builtin .append, args := #[s, x], argTypes := #[t, t] }) (E : TypeId) (g : Nat) (c n : Nat) (xs zs : List Int) (hn : n = xs.length) (ad : Addr) (m cc : Nat) (hm : m = zs.length)
    (hs : a.eval s = .slice (some ⟨g, 0, none⟩) n c) (hx : a.eval x = .slice (some ad) m cc) (ht : P.underlying t = some (.slice E))
    (hinfo : (P.info? E).map (fun i => (i.zero, i.size, i.bytes)) = some (some (.int .i64 0), 1, 8)) (hown : OwnI E 0 w (some ⟨g, 0, none⟩) c xs) (hz : ∀ j, j < zs.length → w.cell? (ad.add j) = some (.int .i64 (nth zs j))) (hl : xs.length + zs.length ≤ 1099511627776)
    (h : ∀ g' c' w', OwnI E 0 w' (some ⟨g', 0, none⟩) c' (xs ++ zs) → KeepBut (fun b => b = g) w w' → (g' = g ∨ w.heap.size ≤ g') → wpList P ops Q rest (a.put o.dst (.slice (some ⟨g', 0, none⟩) (xs.length + zs.length) c')) w') :
    wpList P ops Q (o :: rest) a w := by
  subst hn hm
  refine wpList_plain hgd fun K hK => ?_
  obtain ⟨g', c', w', h1, h2, h3, h4⟩ := append_some (P := P) E t o.type w g c xs zs ad cc ht hinfo hown hz hl
  unfold Oper.wp execOp
  simp only [ho, resolve, invoke, builtin, Sem.run_bind, Sem.run_pure, Result.andThen_ok, List.map_toArray, List.map_cons, List.map_nil, hs, hx, h1]
  exact hK _ _ (h g' c' w' h2 h3 h4)

/-- behind the switch -/
def SwD (w1 : World) (op : Int) (xs : List Int) (x : Int) (v10 v13 v14 : Value) (wx : World) : Prop :=
  ∃ (pl : Option Addr) (cl : Nat) (ys : List Int) (v : Int) (b : Bool) (cd : Int), v10 = .slice pl ys.length cl ∧ v13 = .int .i64 v ∧ v14 = .int .i64 cd ∧ cd = (if b = true then 1 else 0) ∧ OwnI 2 w1.heap.size wx pl cl ys ∧ KeepBut (fun _ => False) w1 wx ∧ deedR op xs x = (ys, v, b)

def RDo (w : World) (e : Ending) (w' : World) (k op : Int) (xs : List Int) (x : Int) : Prop :=
  if (deedR op xs x).1.length ≤ 64 then Done4 w e w' k (deedR op xs x).1 (deedR op xs x).2.1 (if (deedR op xs x).2.2 = true then 1 else 0) 0 else Done4 w e w' 0 [] 0 0 7

set_option maxRecDepth 100000 in
set_option maxHeartbeats 16000000 in
theorem refDo_ok (w : World) (k : Int) (p : Option Addr) (c : Nat) (xs : List Int) (hrd : Rd w p (ints xs)) (hl : xs.length ≤ 1099511627776) (op x : Int) (hchk : chk k xs = 0) (hkd : kindOf op = k) :
    Calls Tryd.prog 29 #[.agg #[.int .i64 k, .slice p xs.length c], .int .i64 op, .int .i64 x] w fun e w' => RDo w e w' k op xs x := by
  obtain ⟨W1, B, hW1, hB, hB1, hk1, hs1⟩ := fresh_block w (.cells #[.int .i64 k, .slice p xs.length c] 47)
  obtain ⟨W, N, hWd, hN, hWn, hkW, hWs⟩ := fresh_block W1 (.cells #[.int .i64 0, .slice none 0 0] 47)
  have hk0 : KeepBut (fun _ => False) w W := hk1.trans hkW
  have hB2 := hkW.blk hB1
  have HB0 := Lib.hid hB2
  have cB0 : ∀ w', KeepBut (fun _ => False) W.drew w' → w'.cell? ⟨B, 0, none⟩ = some (.int .i64 k) := fun w' h => ((KeepBut.drew (fun _ => False) W).trans h).stay (blk_cell (k := 0) hB2 rfl)
  have cB1 : ∀ w', KeepBut (fun _ => False) W.drew w' → w'.cell? ⟨B, 1, none⟩ = some (.slice p xs.length c) := fun w' h => ((KeepBut.drew (fun _ => False) W).trans h).stay (blk_cell (k := 1) hB2 rfl)
  have HWN := Lib.hid hWn; have HKW := Lib.hid hk0
  have hNw : w.heap.size ≤ N := by omega
  have HN := Lib.hid hNw
  have HNl := Lib.hid (show W.heap.size = N + 1 ∧ B + 1 = N by omega)
  have hNB : B + 1 = N := by omega
  have HR := Lib.hid (hrd.stay hk0)
  have hCk : Hid (∀ w', KeepBut (fun _ => False) W.drew w' → Calls Tryd.prog 45 #[.agg #[.int .i64 k, .slice p xs.length c]] w' fun e w'' => e = .returned (.int .i64 0) ∧ KeepBut (fun _ => False) w' w'') := fun w' h => by
    have := refCheck_any w' k p c xs (HR.out.stay ((KeepBut.drew _ W).trans h)) hl
    rw [hchk] at this; exact this
  have hKd : Hid (∀ w', Calls Tryd.prog 46 #[.int .i64 op] w' fun e w'' => e = .returned (.int .i64 k) ∧ w'' = w') := fun w' => by
    have := refKind_any w' op
    rw [hkd] at this; exact this
  clear hrd hB1 hB2 hWn hkW hk0 hWs hk1 hs1 hNw
  go_enter Tryd.func29, Tryd.ntmps29
  go_upto_region 1 with fail
  rw [← hW1, ← hB, ← hWd, hNB]
  clear hWd hN hW1 hB hNB
  have b0 : (k == 0) = false := by
    have := of_decide_eq_true (chk_zero hchk).1
    exact beq_eq_false_iff_ne.2 (by omega)
  have HCH := Lib.hid hchk; have HKO := Lib.hid hkd
  clear hchk hkd
  refine wp_own0 (by kernel_rfl) (fun i => [[], [0], [0, 1], [0, 1, 2], [0, 1, 2, 3], [0, 1, 2, 3, 4], [0, 1, 2, 3, 4, 5], [0, 1, 2, 3, 4, 5, 6], [0, 1, 2, 3, 4, 5, 6, 7], [0, 1, 2, 3, 4, 5, 6, 7, 8], [0, 1, 2, 3, 4, 5, 6, 7, 8, 9], [0, 1, 2, 3, 4, 5, 6, 7, 8], [0, 1, 2, 3, 4, 5, 6, 7, 8, 11], [0, 1, 2, 3, 4, 5, 6, 7, 8, 9, 10, 11, 12], [0, 1, 2, 3, 4, 5, 6, 7, 8, 9, 10, 11, 12, 13]].getD i []) (fun _ => []) (fun _ => []) [] (by kernel_rfl)
    (fun i => if i = 1 then some (sConst (.int .i64 0)) else if i = 5 then some (sConst (.int .i64 k)) else if i = 10 then some (sConst (.int .i64 k)) else none) ?_
  apply lex_quiet rfl rfl
  · intro w' hk; go_simp; with_reducible rfl
  simp only [Act.put, List.setIfInBounds_toArray, List.set_cons_zero, List.set_cons_succ]
  refine lex_loud rfl rfl (loud_call 45 #[.agg #[.int .i64 k, .slice p xs.length c]] (fun w => by kernel_rfl) ⟨default, trivial⟩ (fun g _ => stable_true _) fun w' hk _ _ => (hCk.out w' hk).mono ?_) fun g _ => ?_
  · rintro e w'' ⟨rfl, hq⟩
    exact ⟨default, trivial, rfl, hq.mono fun _ e => e.elim, fun b h => h.elim, trivial⟩
  simp only [sConst, Act.put, List.setIfInBounds_toArray, List.set_cons_zero, List.set_cons_succ]
  apply lex_quiet rfl rfl
  · intro w' hk; go_simp; with_reducible rfl
  simp only [Act.put, List.setIfInBounds_toArray, List.set_cons_zero, List.set_cons_succ]
  apply lex_quiet rfl rfl
  · intro w' hk; go_simp; with_reducible rfl
  simp only [Act.put, List.setIfInBounds_toArray, List.set_cons_zero, List.set_cons_succ]
  apply lex_quiet rfl rfl
  · intro w' hk; go_simp; with_reducible rfl
  simp only [Act.put, List.setIfInBounds_toArray, List.set_cons_zero, List.set_cons_succ]
  refine lex_loud rfl rfl (loud_call 46 #[.int .i64 op] (fun w => by kernel_rfl) ⟨default, trivial⟩ (fun g _ => stable_true _) fun w' hk _ _ => (hKd.out w').mono ?_) fun g _ => ?_
  · rintro e w'' ⟨rfl, hq⟩
    exact ⟨default, trivial, rfl, by rw [hq]; exact KeepBut.refl _ _, fun b h => h.elim, trivial⟩
  simp only [Act.put, List.setIfInBounds_toArray, List.set_cons_zero, List.set_cons_succ]
  apply lex_quiet rfl rfl
  · intro w' hk; go_simp; with_reducible rfl
  simp only [Act.put, List.setIfInBounds_toArray, List.set_cons_zero, List.set_cons_succ]
  apply lex_quiet rfl rfl
  · intro w' hk; go_simp; with_reducible rfl
  simp only [Act.put, List.setIfInBounds_toArray, List.set_cons_zero, List.set_cons_succ]
  apply lex_quiet rfl rfl
  · intro w' hk; go_simp; with_reducible rfl
  simp only [Act.put, List.setIfInBounds_toArray, List.set_cons_zero, List.set_cons_succ]
  apply lex_quiet rfl rfl
  · intro w' hk; go_simp; with_reducible rfl
  simp only [Act.put, List.setIfInBounds_toArray, List.set_cons_zero, List.set_cons_succ]
  refine lex_loud rfl rfl (loud_call 46 #[.int .i64 op] (fun w => by kernel_rfl) ⟨default, trivial⟩ (fun g _ => stable_true _) fun w' hk _ _ => (hKd.out w').mono ?_) fun g _ => ?_
  · rintro e w'' ⟨rfl, hq⟩
    exact ⟨default, trivial, rfl, by rw [hq]; exact KeepBut.refl _ _, fun b h => h.elim, trivial⟩
  simp only [Act.put, List.setIfInBounds_toArray, List.set_cons_zero, List.set_cons_succ]
  apply lex_quiet rfl rfl
  · intro w' hk; go_simp; with_reducible rfl
  simp only [Act.put, List.setIfInBounds_toArray, List.set_cons_zero, List.set_cons_succ]
  apply lex_quiet rfl rfl
  · intro w' hk; go_simp; with_reducible rfl
  simp only [Act.put, List.setIfInBounds_toArray, List.set_cons_zero, List.set_cons_succ]
  apply lex_quiet rfl rfl
  · intro w' hk; go_simp; with_reducible rfl
  simp only [Act.put, List.setIfInBounds_toArray, List.set_cons_zero, List.set_cons_succ]
  apply lex_quiet rfl rfl
  · intro w' hk; go_simp; with_reducible rfl
  simp only [Act.put, List.setIfInBounds_toArray, List.set_cons_zero, List.set_cons_succ]
  refine lex_nil ?_
  intro w1 hk1 _ _
  have HN1 := Lib.hid (((KeepBut.drew _ W).trans hk1).blk HWN.out)
  have HB1 := Lib.hid (((KeepBut.drew _ W).trans hk1).blk HB0.out)
  have HKK := Lib.hid (HKW.out.trans ((KeepBut.drew _ W).trans hk1))
  have HR1 := Lib.hid (HR.out.stay ((KeepBut.drew _ W).trans hk1))
  have HW1 := Lib.hid (show N < w1.heap.size by have h1 : W.heap.size ≤ w1.heap.size := hk1.size; have := HNl.out; omega)
  have x1 : w1.cell? ⟨B, 1, none⟩ = some (.slice p xs.length c) := blk_cell (k := 1) HB1.out rfl
  have hA := KeepBut.alloc (fun _ => False) w1 (.cells #[] 2)
  have x1' : (w1.alloc (.cells #[] 2)).cell? ⟨B, 1, none⟩ = some (.slice p xs.length c) := hA.stay x1
  have HA := Lib.hid hA
  clear hk1 cB0 cB1 b0 hCk hKd hA
  go_upto_region 3 with fail
  go_cut [10] from 16 to 100 (fun v10 wx => ∃ gl cl, v10 = .slice (some ⟨gl, 0, none⟩) xs.length cl ∧ OwnI 2 w1.heap.size wx (some ⟨gl, 0, none⟩) cl xs ∧ KeepBut (fun _ => False) w1 wx)
  case first =>
    cases p with
    | none =>
      have : xs = [] := by
        apply Classical.byContradiction; intro h
        obtain ⟨b, o, h1, _⟩ := HR1.out.ptr (by rw [ints_length]; exact nil_of_length h)
        cases h1
      subst this
      go_wp2_with fail
      go_meet
      case rel => exact ⟨w1.heap.size, 0, rfl, OwnI.mk (xs := []) (Nat.le_refl _) (heap_alloc_new w1 _) (by decide) (by decide) rfl, HA.out⟩
    | some a =>
      have hz := Lib.hid (rd_adds (HR1.out.stay HA.out))
      have ho := Lib.hid (show OwnI 2 0 (w1.alloc (.cells #[] 2)) (some ⟨w1.heap.size, 0, none⟩) 0 [] from OwnI.mk (xs := []) (Nat.zero_le _) (heap_alloc_new w1 _) (by decide) (by decide) rfl)
      go_wp2_with (at_builtin; refine wpList_appendS rfl (.tmp 32) (.tmp 34) 45 rfl 2 w1.heap.size 0 0 [] xs rfl a _ c rfl rfl rfl Tryd.underlying45 info_int64 ho.out hz.out (by simp; omega) ?_
                   intro g' c' w' h1 h2 h3
                   have HQ := Lib.hid (show OwnI 2 w1.heap.size w' (some ⟨g', 0, none⟩) c' xs ∧ KeepBut (fun _ => False) w1 w' from
                     ⟨(by simpa using h1 : OwnI 2 0 w' (some ⟨g', 0, none⟩) c' xs).base fun a ha => by cases ha; rcases h3 with e | e; exact Nat.le_of_eq e.symm; simp at e; show w1.heap.size ≤ g'; omega,
                      HA.out.new h2 fun b hb => Nat.le_of_eq hb.symm⟩)
                   clear h1 h2 h3)
      go_meet
      case rel => exact ⟨g', c', by simp, HQ.out.1, HQ.out.2⟩
  case rest =>
    obtain ⟨gl, cl, rfl, hO, hkc⟩ := hcut
    have HO := Lib.hid hO; have HKC := Lib.hid hkc
    clear hO hkc x1 x1' HA
    have hpl := Lib.hid (place_any wc (some ⟨gl, 0, none⟩) cl xs x HO.out.rd hl)
    go_upto_block 0 with (go_at_call 47; refine hpl.out.mono ?_; rintro e w3 ⟨⟨i, hi, hlo, hhi, rfl⟩, hk3⟩)
    have HI := Lib.hid (And.intro hi (And.intro hlo hhi))
    have HO3 := Lib.hid (HO.out.stay hk3)
    have HK3 := Lib.hid (HKC.out.trans hk3)
    clear hi hlo hhi hk3 hpl
    go_cut [10, 11, 12, 13, 14] from 15 to 100 (fun v10 _ _ v13 v14 wx => SwD w1 op xs x v10 v13 v14 wx)
    case first =>
      rcases kindOf_range HKO.out (chk_zero HCH.out).1 with h | h | h | h | h | h | h
      · as_aux_lemma =>
        subst h
        have ho := Lib.hid ((HO3.out.base (base' := 0) fun _ _ => Nat.zero_le _).stay (KeepBut.alloc (fun _ => False) w3 (.cells #[.int .i64 x] 2)))
        go_wp2_with (at_builtin; refine wpList_append1 rfl (.tmp 48) (.tmp 50) 45 rfl 2 (some ⟨gl, 0, none⟩) cl _ xs rfl w3.heap.size x rfl rfl Tryd.underlying45 info_int64 ho.out (heap_alloc_new w3 (.cells #[.int .i64 x] 2)) hl ?_
                     intro p' c' w' h1 h2 h3
                     have HQ := Lib.hid (show OwnI 2 w1.heap.size w' p' c' (xs ++ [x]) ∧ KeepBut (fun _ => False) w1 w' from
                       ⟨h1.base fun a ha => by
                          have hlt := HO3.out.lt _ rfl
                          have hs := HK3.out.size
                          rcases h3 a.block ⟨a, ha, rfl⟩ with e | e
                          · have e := Of.some_iff.1 e
                            have hlt1 : w1.heap.size ≤ gl := hlt.1
                            rw [e]; exact hlt1
                          · simp at e; omega,
                        (HK3.out.trans (KeepBut.alloc _ _ _)).new h2 fun b hb => by rw [Of.some_iff.1 hb]; exact (HO3.out.lt _ rfl).1⟩)
                     clear h1 h2 h3)
        go_meet
        case rel => exact ⟨p', c', xs ++ [x], 0, true, 1, by simp, rfl, rfl, rfl, HQ.out.1, HQ.out.2, by unfold deedR; rw [if_pos (by decide)]⟩
      · as_aux_lemma =>
        subst h
        by_cases h0 : xs = []
        · have h0b : ((xs.length : Int) == 0) = true := by rw [h0]; rfl
          have HX0 := Lib.hid h0
          clear h0
          have hW1 : IntKind.i64.wrap ((xs.length : Int) - 1) = (xs.length : Int) - 1 := IntWalk.i64_in _ (by omega)
          go_wp2_with fail
          go_meet
          case rel => exact ⟨_, cl, xs, 0, false, 0, rfl, rfl, rfl, rfl, HO3.out, HK3.out, by rw [HX0.out]; rfl⟩
        · have hpos := nil_of_length h0
          have h0b : ((xs.length : Int) == 0) = false := beq_eq_false_iff_ne.2 (by omega)
          obtain ⟨plc_, hat⟩ : ∃ plc_ : Nat, plc_ = xs.length - 1 := ⟨_, rfl⟩
          have hatl : plc_ < xs.length := by omega
          have hatI : (plc_ : Int) < xs.length := by omega
          have hat0 : (0 : Int) ≤ plc_ := by omega
          have hW1 : IntKind.i64.wrap ((xs.length : Int) - 1) = (plc_ : Int) := by rw [IntWalk.i64_in _ (by omega)]; omega
          have c1 : w3.cell? ⟨gl, plc_, none⟩ = some (.int .i64 (nth xs plc_)) := by have h := HO3.out.rd.int plc_ hatl; rw [Nat.zero_add] at h; exact h
          have hcut := Lib.hid (refCut_any w3 (some ⟨gl, 0, none⟩) cl xs plc_ (HO3.out.base fun _ _ => Nat.zero_le _) hatl hl)
          have HD := Lib.hid (show deedR 2 xs x = (cutAt xs plc_, nth xs plc_, true) by rw [hat]; simp [deedR, h0])
          clear h0 hpos hatl hat
          go_wp2_with (go_at_call 48; refine hcut.out.mono ?_; rintro e w' ⟨p', c', rfl, h1, h2⟩; have HQ := Lib.hid (And.intro h1 h2); clear h1 h2)
          go_meet
          case rel => exact ⟨p', c', cutAt xs plc_, nth xs plc_, true, 1, rfl, rfl, rfl, rfl, HQ.out.1.base fun a ha => by have := (HQ.out.1.lt a ha).1; have := HK3.out.size; omega, HK3.out.trans HQ.out.2, HD.out⟩
      · as_aux_lemma =>
        subst h
        have ho := Lib.hid ((HO3.out.base (base' := 0) fun _ _ => Nat.zero_le _).stay (KeepBut.alloc (fun _ => False) w3 (.cells #[.int .i64 x] 2)))
        go_wp2_with (at_builtin; refine wpList_append1 rfl (.tmp 48) (.tmp 50) 45 rfl 2 (some ⟨gl, 0, none⟩) cl _ xs rfl w3.heap.size x rfl rfl Tryd.underlying45 info_int64 ho.out (heap_alloc_new w3 (.cells #[.int .i64 x] 2)) hl ?_
                     intro p' c' w' h1 h2 h3
                     have HQ := Lib.hid (show OwnI 2 w1.heap.size w' p' c' (xs ++ [x]) ∧ KeepBut (fun _ => False) w1 w' from
                       ⟨h1.base fun a ha => by
                          have hlt := HO3.out.lt _ rfl
                          have hs := HK3.out.size
                          rcases h3 a.block ⟨a, ha, rfl⟩ with e | e
                          · have e := Of.some_iff.1 e
                            have hlt1 : w1.heap.size ≤ gl := hlt.1
                            rw [e]; exact hlt1
                          · simp at e; omega,
                        (HK3.out.trans (KeepBut.alloc _ _ _)).new h2 fun b hb => by rw [Of.some_iff.1 hb]; exact (HO3.out.lt _ rfl).1⟩)
                     clear h1 h2 h3)
        go_meet
        case rel => exact ⟨p', c', xs ++ [x], 0, true, 1, by simp, rfl, rfl, rfl, HQ.out.1, HQ.out.2, by unfold deedR; rw [if_pos (by decide)]⟩
      · as_aux_lemma =>
        subst h
        by_cases h0 : xs = []
        · have h0b : ((xs.length : Int) == 0) = true := by rw [h0]; rfl
          have HX0 := Lib.hid h0
          clear h0
          skip
          go_wp2_with fail
          go_meet
          case rel => exact ⟨_, cl, xs, 0, false, 0, rfl, rfl, rfl, rfl, HO3.out, HK3.out, by rw [HX0.out]; rfl⟩
        · have hpos := nil_of_length h0
          have h0b : ((xs.length : Int) == 0) = false := beq_eq_false_iff_ne.2 (by omega)
          have hatl : 0 < xs.length := by omega
          have hatI : (0 : Int) < xs.length := by omega
          skip
          have c1 : w3.cell? ⟨gl, 0, none⟩ = some (.int .i64 (nth xs 0)) := by have h := HO3.out.rd.int 0 hatl; rw [Nat.zero_add] at h; exact h
          have hcut := Lib.hid (show Calls Tryd.prog 48 #[.slice (some ⟨gl, 0, none⟩) xs.length cl, .int .i64 0] w3 _ from refCut_any w3 (some ⟨gl, 0, none⟩) cl xs 0 (HO3.out.base fun _ _ => Nat.zero_le _) hatl hl)
          have HD := Lib.hid (show deedR 4 xs x = (cutAt xs 0, nth xs 0, true) by simp [deedR, h0])
          clear h0 hpos hatl
          go_wp2_with (go_at_call 48; refine hcut.out.mono ?_; rintro e w' ⟨p', c', rfl, h1, h2⟩; have HQ := Lib.hid (And.intro h1 h2); clear h1 h2)
          go_meet
          case rel => exact ⟨p', c', cutAt xs 0, nth xs 0, true, 1, rfl, rfl, rfl, rfl, HQ.out.1.base fun a ha => by have := (HQ.out.1.lt a ha).1; have := HK3.out.size; omega, HK3.out.trans HQ.out.2, HD.out⟩
      · as_aux_lemma =>
        subst h
        have hset := place_set ((chk_zero HCH.out).2.2 (by rw [← HKO.out]; rfl)) HI.out.1 HI.out.2.1 HI.out.2.2
        have HPI := Lib.hid hset.1
        have hth := hset.2
        clear hset
        by_cases hc : xs.contains x = true
        · rw [hc] at hth
          rw [hth]
          have HD := Lib.hid (show deedR 5 xs x = (xs, 0, false) by unfold deedR; simp only [hc]; rfl)
          clear hc
          go_wp2_with fail
          go_meet
          case rel => exact ⟨_, cl, xs, 0, false, 0, rfl, rfl, rfl, rfl, HO3.out, HK3.out, HD.out⟩
        · have hc' : xs.contains x = false := by simpa using hc
          rw [hc'] at hth
          rw [hth]
          obtain ⟨l1, hl1⟩ : ∃ l1, l1 = xs.take i := ⟨_, rfl⟩
          obtain ⟨l2, hl2⟩ : ∃ l2, l2 = xs.drop i := ⟨_, rfl⟩
          have hil : i ≤ xs.length := HI.out.1
          have HD := Lib.hid (show deedR 5 xs x = ((l1 ++ [x]) ++ l2, 0, true) by
            have e : putAt xs i x = (l1 ++ [x]) ++ l2 := by rw [putAt_eq _ _ _ hil, hl1, hl2]; simp
            rw [← e, HPI.out]; unfold deedR; simp only [hc']; rfl)
          have hn1 : i = l1.length := by rw [hl1, List.length_take]; omega
          have hn2 : xs.length - i = l2.length := by rw [hl2, List.length_drop]
          have hcl := HO3.out.le.1
          have hc1 : Hid (∀ w', KeepBut (fun _ => False) w3.drew w' → ∀ j, j < l1.length → w'.cell? ((⟨gl, 0, none⟩ : Addr).add j) = some (.int .i64 (nth l1 j))) := fun w' hk' j hj => by
            have h := ((KeepBut.drew _ w3).trans hk').stay (HO3.out.rd.int j (by omega))
            have e : nth l1 j = nth xs j := by rw [hl1]; simp [nth, show j < i by omega]
            rw [e, add_off]
            exact h
          obtain ⟨ad, hsl2, had⟩ := run_cut_from (P := Tryd.prog) (t := 45) Tryd.underlying45 (by kernel_rfl : (Tryd.prog.info? 2).map (·.size) = some 1) gl xs.length cl i hil
          have hc2 : Hid (∀ w', KeepBut (fun _ => False) w3.drew w' → ∀ j, j < l2.length → w'.cell? (ad.add j) = some (.int .i64 (nth l2 j))) := fun w' hk' j hj => by
            have h := ((KeepBut.drew _ w3).trans hk').stay (HO3.out.rd.int (i + j) (by omega))
            have e : nth l2 j = nth xs (i + j) := by rw [hl2]; simp [nth, List.getElem?_drop]
            rw [e, had (by omega), add_off]
            rw [Nat.zero_add] at h
            exact h
          have hsl1 := run_cut_to (P := Tryd.prog) (t := 45) Tryd.underlying45 (by kernel_rfl : (Tryd.prog.info? 2).map (·.size) = some 1) gl xs.length cl i (by omega)
          have HS1 := Lib.hid hsl1; have HS2 := Lib.hid hsl2; have HN1' := Lib.hid hn1; have HN2 := Lib.hid hn2
          have hlI : Hid (l1.length + 1 + l2.length ≤ 1099511627777) := by show l1.length + 1 + l2.length ≤ 1099511627777; omega
          have hl1I : Hid (l1.length ≤ 1099511627776) := by show l1.length ≤ 1099511627776; omega
          have hlX : Hid ((l1 ++ [x]).length + l2.length ≤ 1099511627776) := by
            show (l1 ++ [x]).length + l2.length ≤ 1099511627776
            have h64 := (chk_zero HCH.out).2.1
            simp; omega
          clear hl1 hl2 hsl1 hsl2 had hn1 hn2 hc hc' hil hcl
          go_upto_region 24 with fail
          refine wp_own0 (by kernel_rfl) (fun i => [[], [], [], [1, 2], [0, 1, 2, 3], [], [5], [0, 1, 2, 3, 4, 5, 6], [], [], [8, 9], [0, 1, 2, 3, 4, 5, 6, 7, 8, 9, 10], [0, 1, 2, 3, 4, 5, 6, 7, 8, 9, 10, 11]].getD i []) (fun i => if i = 4 then [0] else if i = 7 then [4, 6] else if i = 11 then [7] else []) (fun i => if i = 4 then [0] else if i = 7 then [4] else if i = 11 then [7] else []) [11] (by kernel_rfl)
            (fun i => if i = 0 then some { val := fun _ g => .slice (some ⟨g.b, 0, none⟩) 0 0, fp := fun _ g k => k = g.b, post := fun _ g w => w.heap[g.b]? = some (.cells #[] 2 (0, 0)) }
              else if i = 4 then some (sAppN 2 [] l1) else if i = 6 then some (sOne 2 x) else if i = 7 then some { val := fun _ g => .slice g.p (l1.length + 1) g.c, fp := fun _ g => Of g.p, post := fun _ g w => OwnI 2 0 w g.p g.c (l1 ++ [x]) } else if i = 11 then some (sAppN 2 (l1 ++ [x]) l2) else none) ?_
          refine lex_loud rfl rfl (loud_new (fun b => .slice (some ⟨b, 0, none⟩) 0 0) (.cells #[] 2) rfl (fun _ _ => rfl) (fun _ _ _ => Iff.rfl) (fun _ _ _ => Iff.rfl) (fun w => by go_simp)) fun g0 _ => ?_
          simp only [Act.put, List.setIfInBounds_toArray, List.set_cons_zero, List.set_cons_succ]
          repeat
            apply lex_quiet rfl rfl
            · intro w' hk; go_simp; with_reducible rfl
            simp only [Act.put, List.setIfInBounds_toArray, List.set_cons_zero, List.set_cons_succ]
          refine lex_quiet rfl rfl (v := .slice (some ⟨gl, 0, none⟩) i cl) (fun w' hk => slice_exec rfl w' _ (HS1.out w')) ?_
          simp only [Act.put, List.setIfInBounds_toArray, List.set_cons_zero, List.set_cons_succ]
          refine lex_loud rfl rfl (loud_appendN 2 45 (some ⟨g0.b, 0, none⟩) 0 0 cl i [] l1 ⟨gl, 0, none⟩ (.tmp 73) (.tmp 76) rfl rfl rfl rfl HN1'.out Tryd.underlying45 info_int64 (by have := hl1I.out; simp; omega) hc1.out 0 (by decide) (by decide) (fun w h => OwnI.mk (xs := []) (Nat.zero_le _) h (by decide) (by decide) rfl) (fun b hb => (Of.some_iff.1 hb)) (fun b hb => Of.some_iff.2 hb)) fun g4 _ => ?_
          simp only [sAppN, Act.put, List.setIfInBounds_toArray, List.set_cons_zero, List.set_cons_succ]
          repeat
            apply lex_quiet rfl rfl
            · intro w' hk; go_simp; with_reducible rfl
            simp only [Act.put, List.setIfInBounds_toArray, List.set_cons_zero, List.set_cons_succ]
          refine lex_loud rfl rfl (loud_one 2 x fun w => by go_simp) fun g6 _ => ?_
          simp only [sOne, Act.put, List.setIfInBounds_toArray, List.set_cons_zero, List.set_cons_succ]
          refine lex_loud rfl rfl (loud_append1 2 45 g4.p g4.c l1 g6.b x (.tmp 77) (.tmp 79) rfl (by simp [Act.eval]) rfl Tryd.underlying45 info_int64 hl1I.out 4 6 (by decide) (by decide) (by decide) (fun w h => h) (fun w h => h) rfl) fun g7 _ => ?_
          simp only [Act.put, List.setIfInBounds_toArray, List.set_cons_zero, List.set_cons_succ]
          repeat
            apply lex_quiet rfl rfl
            · intro w' hk; go_simp; with_reducible rfl
            simp only [Act.put, List.setIfInBounds_toArray, List.set_cons_zero, List.set_cons_succ]
          refine lex_quiet rfl rfl (v := .slice (some ad) (xs.length - i) (cl - i)) (fun w' hk => slice_exec rfl w' _ (HS2.out w')) ?_
          simp only [Act.put, List.setIfInBounds_toArray, List.set_cons_zero, List.set_cons_succ]
          refine lex_loud rfl rfl (loud_appendN 2 45 g7.p g7.c (l1.length + 1) (cl - i) (xs.length - i) (l1 ++ [x]) l2 ad (.tmp 80) (.tmp 83) rfl rfl (by simp) rfl HN2.out Tryd.underlying45 info_int64 hlX.out hc2.out 7 (by decide) (by decide) (fun w h => h) (fun b hb => hb) (fun b hb => hb)) fun g11 _ => ?_
          simp only [Act.put, List.setIfInBounds_toArray, List.set_cons_zero, List.set_cons_succ]
          repeat
            apply lex_quiet rfl rfl
            · intro w' hk; go_simp; with_reducible rfl
            simp only [Act.put, List.setIfInBounds_toArray, List.set_cons_zero, List.set_cons_succ]
          refine lex_nil ?_
          intro w9 hk9 hF _
          have f9 : OwnI 2 0 w9 g11.p g11.c ((l1 ++ [x]) ++ l2) := (hF 11 (by decide)).1
          have b9 : ∀ b, Of g11.p b → b < w9.heap.size ∧ (w3.heap.size ≤ b ∨ False) := (hF 11 (by decide)).2
          have HQ := Lib.hid (show OwnI 2 w1.heap.size w9 g11.p g11.c ((l1 ++ [x]) ++ l2) ∧ KeepBut (fun _ => False) w1 w9 from
            ⟨f9.base fun a ha => by have := (b9 a.block ⟨a, ha, rfl⟩).2.resolve_right fun e => e; have := HK3.out.size; omega, HK3.out.trans ((KeepBut.drew _ w3).trans hk9)⟩)
          clear hk9 hF f9 b9
          go_wp2_with fail
          go_meet
          case rel => exact ⟨g11.p, g11.c, (l1 ++ [x]) ++ l2, 0, true, 1, by rw [@List.length_append _ (l1 ++ [x]) l2]; simp, rfl, rfl, rfl, HQ.out.1, HQ.out.2, HD.out⟩
      · as_aux_lemma =>
        subst h
        have hset := place_set ((chk_zero HCH.out).2.2 (by rw [← HKO.out]; rfl)) HI.out.1 HI.out.2.1 HI.out.2.2
        have HPI := Lib.hid hset.1
        have hth := hset.2
        clear hset
        by_cases hc : xs.contains x = true
        · have hlt := count_lt hc
          rw [hc] at hth
          rw [hth]
          have HD := Lib.hid (show deedR 6 xs x = (cutAt xs i, 0, true) by rw [HPI.out]; unfold deedR; simp only [hc]; rfl)
          have hil : i < xs.length := by have := HPI.out; omega
          have hcut := Lib.hid (refCut_any w3 (some ⟨gl, 0, none⟩) cl xs i (HO3.out.base fun _ _ => Nat.zero_le _) hil hl)
          clear hc hlt hil
          go_wp2_with (go_at_call 48; refine hcut.out.mono ?_; rintro e w' ⟨p', c', rfl, h1, h2⟩; have HQ := Lib.hid (And.intro h1 h2); clear h1 h2)
          go_meet
          case rel => exact ⟨p', c', cutAt xs i, 0, true, 1, rfl, rfl, rfl, rfl, HQ.out.1.base fun a ha => by have := (HQ.out.1.lt a ha).1; have := HK3.out.size; omega, HK3.out.trans HQ.out.2, HD.out⟩
        · have hc' : xs.contains x = false := by simpa using hc
          rw [hc'] at hth
          rw [hth]
          have HD := Lib.hid (show deedR 6 xs x = (xs, 0, false) by unfold deedR; simp only [hc']; rfl)
          clear hc hc'
          go_wp2_with fail
          go_meet
          case rel => exact ⟨_, cl, xs, 0, false, 0, rfl, rfl, rfl, rfl, HO3.out, HK3.out, HD.out⟩
      · as_aux_lemma =>
        subst h
        have hset := place_set ((chk_zero HCH.out).2.2 (by rw [← HKO.out]; rfl)) HI.out.1 HI.out.2.1 HI.out.2.2
        have HPI := Lib.hid hset.1
        have hth := hset.2
        clear hset
        by_cases hc : xs.contains x = true
        · rw [hc] at hth
          rw [hth]
          have HD := Lib.hid (show deedR 7 xs x = (xs, 0, true) by unfold deedR; rw [hc]; rfl)
          clear hc
          go_wp2_with fail
          go_meet
          case rel => exact ⟨_, cl, xs, 0, true, 1, rfl, rfl, rfl, rfl, HO3.out, HK3.out, HD.out⟩
        · have hc' : xs.contains x = false := by simpa using hc
          rw [hc'] at hth
          rw [hth]
          have HD := Lib.hid (show deedR 7 xs x = (xs, 0, false) by unfold deedR; rw [hc']; rfl)
          clear hc hc'
          go_wp2_with fail
          go_meet
          case rel => exact ⟨_, cl, xs, 0, false, 0, rfl, rfl, rfl, rfl, HO3.out, HK3.out, HD.out⟩
    case rest =>
      obtain ⟨pl, cl', ys, v, b, cd, rfl, rfl, rfl, hcd, hO, hk, hd⟩ := hcut
      have HCD := Lib.hid hcd
      clear hcd
      have HOC := Lib.hid hO; have HKC' := Lib.hid hk; have HD := Lib.hid hd
      have HNC := Lib.hid (hk.blk HN1.out)
      have HBC := Lib.hid (hk.blk HB1.out)
      have hBN : ¬ B = N := by have := HNl.out; omega
      clear hO hk hd
      by_cases h64 : ys.length ≤ 64
      · have h64i : ¬ (64 : Int) < ys.length := by omega
        have z0 : ∀ w', KeepBut (fun y => y = N) wc w' → w'.cell? ⟨B, 0, none⟩ = some (.int .i64 k) := fun w' h => h.cell (blk_cell (k := 0) HBC.out rfl) hBN
        have H64 := Lib.hid h64
        clear h64
        go_upto_region 31 with fail
        refine wp_own1_plain N _ HNC.out (fun i => if i = 6 then [10] else []) (fun i => if i = 6 then [10] else []) [6] (by kernel_rfl) (fun i => if i = 6 then some (sPut N 47) else none) ?_
        repeat
          apply lex_quiet rfl rfl
          · intro w' hk; go_simp; with_reducible rfl
          simp only [Act.put, List.setIfInBounds_toArray, List.set_cons_zero, List.set_cons_succ]
        refine lex_loud rfl rfl (loud_put N 47 47 #[.int .i64 k, .slice pl ys.length cl'] _ (.tmp 6) (.tmp 98) rfl rfl rfl 10 (by decide) (by decide) (fun w h => h) ⟨rfl, rfl⟩ rfl (by kernel_rfl) (by simp [Value.oneCell'])) fun g2 _ => ?_
        simp only [sPut, Act.put]
        repeat
          apply lex_quiet rfl rfl
          · intro w' hk; go_simp; with_reducible rfl
          simp only [Act.put, List.setIfInBounds_toArray, List.set_cons_zero, List.set_cons_succ]
        refine lex_nil ?_
        intro w2 hk2 hF _
        have f1 : w2.heap[N]? = some (.cells #[.int .i64 k, .slice pl ys.length cl'] 47 (0, 0)) := (hF 6 (by decide)).1 _ (put_args rfl rfl)
        have c0 := blk_cell (k := 0) f1 rfl
        have c1 := blk_cell (k := 1) f1 rfl
        have HF := Lib.hid (show RDo w (.returned (.tuple #[.agg #[.int .i64 k, .slice pl ys.length cl'], .int .i64 v, .int .i64 cd, .int .i64 0])) w2 k op xs x by
          unfold RDo
          rw [HD.out, if_pos (show ys.length ≤ 64 from H64.out), HCD.out]
          exact ⟨pl, cl', rfl, ((HOC.out.keep hk2 fun a ha e => by have := (HOC.out.lt a ha).1; have := HW1.out; omega).base fun a ha => by have := (HOC.out.lt a ha).1; have := HKK.out.size; omega).lies, (HKK.out.trans HKC'.out).new hk2 fun b hb => by have := HN.out; have h2 : b = N := hb; omega⟩)
        clear hF hk2 f1 z0
        go_wp2_with fail
        exact bodyPost_ret (v := .tuple #[.agg #[.int .i64 k, .slice pl ys.length cl'], .int .i64 v, .int .i64 cd, .int .i64 0]) (by simp [results, Tryd.results29, go_sem, c0, c1]) rfl HF.out
      · have h64i : (64 : Int) < ys.length := by omega
        have H64 := Lib.hid h64
        clear h64
        go_upto_region 30 with fail
        refine wp_own1_plain N _ HNC.out (fun i => if i = 1 then [5] else []) (fun i => if i = 1 then [5] else []) [1] (by kernel_rfl) (fun i => if i = 1 then some (sPut N 47) else none) ?_
        apply lex_quiet rfl rfl
        · intro w' hk; go_simp; with_reducible rfl
        simp only [Act.put, List.setIfInBounds_toArray, List.set_cons_zero, List.set_cons_succ]
        refine lex_loud rfl rfl (loud_put N 47 47 #[.int .i64 0, .slice none 0 0] _ (.tmp 6) (.tmp 94) rfl rfl rfl 5 (by decide) (by decide) (fun w h => h) ⟨rfl, rfl⟩ rfl (by kernel_rfl) (by simp [Value.oneCell'])) fun g2 _ => ?_
        simp only [sPut, Act.put]
        repeat
          apply lex_quiet rfl rfl
          · intro w' hk; go_simp; with_reducible rfl
          simp only [Act.put, List.setIfInBounds_toArray, List.set_cons_zero, List.set_cons_succ]
        refine lex_nil ?_
        intro w2 hk2 hF _
        have f1 : w2.heap[N]? = some (.cells #[.int .i64 0, .slice none 0 0] 47 (0, 0)) := (hF 1 (by decide)).1 _ (put_args rfl rfl)
        have c0 := blk_cell (k := 0) f1 rfl
        have c1 := blk_cell (k := 1) f1 rfl
        have HF := Lib.hid (show RDo w (.returned (.tuple #[.agg #[.int .i64 0, .slice none 0 0], .int .i64 0, .int .i64 0, .int .i64 7])) w2 k op xs x by
          unfold RDo
          rw [HD.out, if_neg (show ¬ ys.length ≤ 64 from H64.out)]
          exact ⟨none, 0, rfl, Lies.empty, (HKK.out.trans HKC'.out).new hk2 fun b hb => by have := HN.out; have h2 : b = N := hb; omega⟩)
        clear hF hk2 f1
        go_wp2_with fail
        exact bodyPost_ret (v := .tuple #[.agg #[.int .i64 0, .slice none 0 0], .int .i64 0, .int .i64 0, .int .i64 7]) (by simp [results, Tryd.results29, go_sem, c0, c1]) rfl HF.out

end Go.Proofs.YtoolpifkfgileaaDoor

/-
  The reference of chapter 19: Do, May.
-/
namespace Go.Proofs.YtoolpifkfgileaaDoor
open Go Go.RowKit Own

theorem refDo_any (w : World) (k : Int) (p : Option Addr) (c : Nat) (xs : List Int) (hrd : Rd w p (ints xs)) (hl : xs.length ≤ 1099511627776) (op x : Int) :
    Calls Tryd.prog 29 #[.agg #[.int .i64 k, .slice p xs.length c], .int .i64 op, .int .i64 x] w fun e w' => Done4 w e w' (doR k op xs x).kind (doR k op xs x).items (doR k op xs x).val (doR k op xs x).code (doR k op xs x).err := by
  by_cases hc : chk k xs = 0
  · by_cases hk : kindOf op = k
    · refine (refDo_ok w k p c xs hrd hl op x hc hk).mono ?_
      intro e w' h
      unfold RDo at h
      unfold doR
      rw [if_pos ⟨hc, hk⟩]
      by_cases h64 : (deedR op xs x).1.length ≤ 64
      · rw [if_pos h64] at h ⊢; exact h
      · rw [if_neg h64] at h ⊢; exact h
    · have e : doR k op xs x = ⟨0, [], 0, 0, 2⟩ := by unfold doR; rw [if_neg fun h => hk h.2]
      rw [e]
      by_cases h0 : kindOf op = 0
      · exact refDo_bad2 w k p c xs hrd hl op x hc h0
      · exact refDo_bad3 w k p c xs hrd hl op x hc _ rfl h0 hk
  · have e : doR k op xs x = ⟨0, [], 0, 0, 2⟩ := by unfold doR; rw [if_neg fun h => hc h.1]
    rw [e]
    exact refDo_bad1 w k p c xs hrd hl op x (chk_two hc)

set_option maxHeartbeats 16000000 in
theorem refMay_any (w : World) (k : Int) (p : Option Addr) (c : Nat) (xs : List Int) (hrd : Rd w p (ints xs)) (hl : xs.length ≤ 1099511627776) (op x v cd : Int) :
    Calls Tryd.prog 21 #[.agg #[.int .i64 k, .slice p xs.length c], .int .i64 op, .int .i64 x, .int .i64 v, .int .i64 cd] w fun e w' => DoneM w e w' (mayR k op xs x v cd) := by
  obtain ⟨W1, B, hW1, hB, hB1, hk1, hs1⟩ := fresh_block w (.cells #[.int .i64 k, .slice p xs.length c] 47)
  obtain ⟨W, N, hWd, hN, hWn, hkW, hWs⟩ := fresh_block W1 (.cells #[.int .i64 0, .slice none 0 0] 47)
  have hk0 : KeepBut (fun _ => False) w W := hk1.trans hkW
  have HKW := Lib.hid hk0
  have HB := Lib.hid (hkW.blk hB1); have HN := Lib.hid hWn
  have HR := Lib.hid (hrd.stay hk0)
  have hNB : B + 1 = N := by omega
  have HS := Lib.hid (show w.heap.size = B ∧ W.heap.size = N + 1 ∧ B + 1 = N by omega)
  obtain ⟨dk, ys, dv, dc, de, hdo⟩ : ∃ dk ys dv dc de, doR k op xs x = ⟨dk, ys, dv, dc, de⟩ := ⟨_, _, _, _, _, rfl⟩
  have HD := Lib.hid hdo
  obtain ⟨mk, ms, mo, hmo⟩ : ∃ mk ms mo, mayR k op xs x v cd = ⟨mk, ms, mo⟩ := ⟨_, _, _, rfl⟩
  rw [hmo]
  have HM := Lib.hid hmo
  have hDo : Hid (Calls Tryd.prog 29 #[.agg #[.int .i64 k, .slice p xs.length c], .int .i64 op, .int .i64 x] W fun e w' => Done4 W e w' dk ys dv dc de) := by
    have := refDo_any W k p c xs HR.out hl op x
    rw [hdo] at this; exact this
  have x0 := blk_cell (k := 0) HB.out rfl
  have x1 := blk_cell (k := 1) HB.out rfl
  clear hrd hB1 hWn hkW hk0 hWs hk1 hs1 hdo hmo
  go_enter Tryd.func21, Tryd.ntmps21
  go_upto_region 1 with fail
  rw [← hW1, ← hB, ← hWd, hNB]
  clear hWd hN hW1 hB hNB
  go_upto_region 2 with (go_at_call 29; refine hDo.out.mono ?_; rintro e w1 ⟨pd, cap, rfl, hL, hk⟩)
  obtain ⟨V, NV, hV, hNV, hbV, hkV, -⟩ := fresh_block w1 (.cells #[.int .i64 dk, .slice pd ys.length cap] 47)
  rw [← hV, ← hNV]
  have HLV := Lib.hid (hL.stay hkV)
  have HKV := Lib.hid (hk.trans hkV)
  have HBV := Lib.hid (HKV.out.blk HB.out)
  have HNN := Lib.hid (HKV.out.blk HN.out)
  have HNV := Lib.hid hbV
  clear x0 x1 hV hNV hbV hkV hk hL hDo
  obtain ⟨full, hfu⟩ : ∃ full, (cd == 2 && (v == 0 && (insB op && (de == 7 || (de == 0 && dc == 1))))) = full := ⟨_, rfl⟩
  obtain ⟨does, hde⟩ : ∃ does, (de == 0 && (v == dv && cd == dc)) = does := ⟨_, rfl⟩
  have HLaw := Lib.hid (may_law HD.out full does hfu hde)
  have HF := Lib.hid hfu; have HE := Lib.hid hde
  clear hfu hde
  go_cut [46] from 16 to 63 (fun v46 wx => v46 = .bool full ∧ wx = V)
  case first =>
    rcases Bool.eq_false_or_eq_true (cd == 2) with h1 | h1
    · rcases Bool.eq_false_or_eq_true (v == 0) with h2 | h2
      · rcases Bool.eq_false_or_eq_true (insB op) with h3 | h3
        · rcases Bool.eq_false_or_eq_true (de == 7) with h4 | h4
          · go_wp2_with (go_at_call 41; refine (refInserts_any _ _).mono ?_; rintro e w' ⟨rfl, hww⟩; have hww := hww.symm; subst hww)
            go_meet
            case rel => exact ⟨by have h := HF.out; rw [h1, h2, h3, h4] at h; rw [← h]; rfl, rfl⟩
          · rcases Bool.eq_false_or_eq_true (de == 0) with h5 | h5
            · rcases Bool.eq_false_or_eq_true (dc == 1) with h6 | h6
              · go_wp2_with (go_at_call 41; refine (refInserts_any _ _).mono ?_; rintro e w' ⟨rfl, hww⟩; have hww := hww.symm; subst hww)
                go_meet
                case rel => exact ⟨by have h := HF.out; rw [h1, h2, h3, h4, h5, h6] at h; rw [← h]; rfl, rfl⟩
              · go_wp2_with (go_at_call 41; refine (refInserts_any _ _).mono ?_; rintro e w' ⟨rfl, hww⟩; have hww := hww.symm; subst hww)
                go_meet
                case rel => exact ⟨by have h := HF.out; rw [h1, h2, h3, h4, h5, h6] at h; rw [← h]; rfl, rfl⟩
            · go_wp2_with (go_at_call 41; refine (refInserts_any _ _).mono ?_; rintro e w' ⟨rfl, hww⟩; have hww := hww.symm; subst hww)
              go_meet
              case rel => exact ⟨by have h := HF.out; rw [h1, h2, h3, h4, h5] at h; rw [← h]; rfl, rfl⟩
        · go_wp2_with (go_at_call 41; refine (refInserts_any _ _).mono ?_; rintro e w' ⟨rfl, hww⟩; have hww := hww.symm; subst hww)
          go_meet
          case rel => exact ⟨by have h := HF.out; rw [h1, h2, h3] at h; rw [← h]; rfl, rfl⟩
      · go_wp2_with (go_at_call 41; refine (refInserts_any _ _).mono ?_; rintro e w' ⟨rfl, hww⟩; have hww := hww.symm; subst hww)
        go_meet
        case rel => exact ⟨by have h := HF.out; rw [h1, h2] at h; rw [← h]; rfl, rfl⟩
    · go_wp2_with (go_at_call 41; refine (refInserts_any _ _).mono ?_; rintro e w' ⟨rfl, hww⟩; have hww := hww.symm; subst hww)
      go_meet
      case rel => exact ⟨by have h := HF.out; rw [h1] at h; rw [← h]; rfl, rfl⟩
  case rest =>
    obtain ⟨rfl, hww⟩ := hcut
    have hww := hww.symm
    subst hww
    have hCp : Hid (Calls Tryd.prog 42 #[.agg #[.int .i64 k, .slice p xs.length c]] V fun e w' => DoneC V e w' k xs) := copied_any V k p c xs (HR.out.stay HKV.out) hl
    by_cases hfull : full = true
    · have hm : k = mk ∧ xs = ms ∧ true = mo := by
        rcases HLaw.out with ⟨he, _⟩ | ⟨_, hf, _⟩
        · rw [HM.out] at he
          simp only [MayOut.mk.injEq] at he
          exact ⟨he.1.symm, he.2.1.symm, by rw [he.2.2, hfull]⟩
        · rw [hf] at hfull; cases hfull
      obtain ⟨rfl, rfl, rfl⟩ := hm
      subst hfull
      as_aux_lemma =>
        have x0 := blk_cell (k := 0) HBV.out rfl
        have x1 := blk_cell (k := 1) HBV.out rfl
        go_wp2_with (go_at_call 42; refine hCp.out.mono ?_; rintro e w5 ⟨p5, c5, rfl, hL5, hk5⟩
                     have HL5 := Lib.hid hL5; have HK5 := Lib.hid hk5
                     have n0 := hk5.stay (blk_cell (k := 0) HNN.out rfl); have n1 := hk5.stay (blk_cell (k := 1) HNN.out rfl)
                     have f0 : w5.frozen? ⟨N, 0, none⟩ = false := by simp [World.frozen?, hk5.blk HNN.out]
                     have f1 : w5.frozen? ⟨N, 1, none⟩ = false := by simp [World.frozen?, hk5.blk HNN.out]
                     clear hL5 hk5 x0 x1)
        have hf : KeepBut (fun b => b = N) w5 ((w5.setCell ⟨N, 0, none⟩ (.int .i64 k)).setCell ⟨N, 1, none⟩ (.slice p5 xs.length c5)) := (show KeepBut (fun b => b = N) _ _ from KeepBut.setCell _ ⟨N, 0, none⟩ _ rfl).trans (KeepBut.setCell _ ⟨N, 1, none⟩ _ rfl)
        refine bodyPost_ret (v := .tuple #[.agg #[.int .i64 k, .slice p5 xs.length c5], .bool true]) (by simp [results, Tryd.results21, go_sem, n0, n1]) rfl ⟨p5, c5, rfl, ?_, ?_⟩
        · exact (HL5.out.keep hf fun a ha e => by have := (HL5.out.2 a ha).1; have := HS.out; have := HKV.out.size; have h2 : a.block = N := e; omega).base fun a ha => by have := (HL5.out.2 a ha).1; have := HS.out; have := HKV.out.size; omega
        · exact ((HKW.out.trans HKV.out).trans HK5.out).new hf fun b hb => by have := HS.out; have h2 : b = N := hb; omega
    · have hfull : full = false := by simpa using hfull
      subst hfull
      go_upto_region 4 with fail
      go_cut [60] from 16 to 63 (fun v60 wx => v60 = .bool (!does) ∧ wx = V)
      case first =>
        rcases Bool.eq_false_or_eq_true (de == 0) with h1 | h1
        · rcases Bool.eq_false_or_eq_true (cd == dc) with h2 | h2
          · rcases Bool.eq_false_or_eq_true (v == dv) with h3 | h3
            · have h1' : (de != 0) = (!((de == 0))) := rfl
              rw [h1] at h1'
              simp only [Bool.not_true] at h1'
              have h2' : (cd != dc) = (!((cd == dc))) := rfl
              rw [h2] at h2'
              simp only [Bool.not_true] at h2'
              have h3' : (v != dv) = (!((v == dv))) := rfl
              rw [h3] at h3'
              simp only [Bool.not_true] at h3'
              go_wp2_with fail
              go_meet
              case rel => exact ⟨by have h := HE.out; rw [h1, h2, h3] at h; rw [← h]; simp, rfl⟩
            · have h1' : (de != 0) = (!((de == 0))) := rfl
              rw [h1] at h1'
              simp only [Bool.not_true] at h1'
              have h2' : (cd != dc) = (!((cd == dc))) := rfl
              rw [h2] at h2'
              simp only [Bool.not_true] at h2'
              have h3' : (v != dv) = (!((v == dv))) := rfl
              rw [h3] at h3'
              simp only [Bool.not_false] at h3'
              go_wp2_with fail
              go_meet
              case rel => exact ⟨by have h := HE.out; rw [h1, h2, h3] at h; rw [← h]; simp, rfl⟩
          · have h1' : (de != 0) = (!((de == 0))) := rfl
            rw [h1] at h1'
            simp only [Bool.not_true] at h1'
            have h2' : (cd != dc) = (!((cd == dc))) := rfl
            rw [h2] at h2'
            simp only [Bool.not_false] at h2'
            go_wp2_with fail
            go_meet
            case rel => exact ⟨by have h := HE.out; rw [h1, h2] at h; rw [← h]; simp, rfl⟩
        · have h1' : (de != 0) = (!((de == 0))) := rfl
          rw [h1] at h1'
          simp only [Bool.not_false] at h1'
          go_wp2_with fail
          go_meet
          case rel => exact ⟨by have h := HE.out; rw [h1] at h; rw [← h]; simp, rfl⟩
      case rest =>
        obtain ⟨rfl, hww⟩ := hcut
        have hww := hww.symm
        subst hww
        by_cases hdoes : does = true
        · have hm : dk = mk ∧ ys = ms ∧ true = mo := by
            rcases HLaw.out with ⟨_, hd⟩ | ⟨he, _, _⟩
            · rw [hd] at hdoes; cases hdoes
            · rw [HM.out] at he
              simp only [MayOut.mk.injEq] at he
              exact ⟨he.1.symm, he.2.1.symm, he.2.2.symm⟩
          obtain ⟨rfl, rfl, rfl⟩ := hm
          subst hdoes
          have v0 := blk_cell (k := 0) HNV.out rfl
          have v1 := blk_cell (k := 1) HNV.out rfl
          have n0 := blk_cell (k := 0) HNN.out rfl
          have n1 := blk_cell (k := 1) HNN.out rfl
          have f0 : V.frozen? ⟨N, 0, none⟩ = false := by simp [World.frozen?, HNN.out]
          have f1 : V.frozen? ⟨N, 1, none⟩ = false := by simp [World.frozen?, HNN.out]
          as_aux_lemma =>
            go_wp2_with fail
            have hf : KeepBut (fun b => b = N) V ((V.setCell ⟨N, 0, none⟩ (.int .i64 dk)).setCell ⟨N, 1, none⟩ (.slice pd ys.length cap)) := (show KeepBut (fun b => b = N) _ _ from KeepBut.setCell _ ⟨N, 0, none⟩ _ rfl).trans (KeepBut.setCell _ ⟨N, 1, none⟩ _ rfl)
            refine bodyPost_ret (v := .tuple #[.agg #[.int .i64 dk, .slice pd ys.length cap], .bool true]) (by simp [results, Tryd.results21, go_sem, n0, n1]) rfl ⟨pd, cap, rfl, ?_, ?_⟩
            · exact (HLV.out.keep hf fun a ha e => by have := (HLV.out.2 a ha).1; have := HS.out; have h2 : a.block = N := e; omega).base fun a ha => by have := (HLV.out.2 a ha).1; have := HS.out; omega
            · exact (HKW.out.trans HKV.out).new hf fun b hb => by have := HS.out; have h2 : b = N := hb; omega
        · have hdoes : does = false := by simpa using hdoes
          have hm : k = mk ∧ xs = ms ∧ false = mo := by
            rcases HLaw.out with ⟨he, _⟩ | ⟨_, _, hd⟩
            · rw [HM.out] at he
              simp only [MayOut.mk.injEq] at he
              exact ⟨he.1.symm, he.2.1.symm, he.2.2.symm⟩
            · rw [hd] at hdoes; cases hdoes
          obtain ⟨rfl, rfl, rfl⟩ := hm
          subst hdoes
          as_aux_lemma =>
            have x0 := blk_cell (k := 0) HBV.out rfl
            have x1 := blk_cell (k := 1) HBV.out rfl
            go_wp2_with (go_at_call 42; refine hCp.out.mono ?_; rintro e w5 ⟨p5, c5, rfl, hL5, hk5⟩
                         have HL5 := Lib.hid hL5; have HK5 := Lib.hid hk5
                         have n0 := hk5.stay (blk_cell (k := 0) HNN.out rfl); have n1 := hk5.stay (blk_cell (k := 1) HNN.out rfl)
                         have f0 : w5.frozen? ⟨N, 0, none⟩ = false := by simp [World.frozen?, hk5.blk HNN.out]
                         have f1 : w5.frozen? ⟨N, 1, none⟩ = false := by simp [World.frozen?, hk5.blk HNN.out]
                         clear hL5 hk5 x0 x1)
            have hf : KeepBut (fun b => b = N) w5 ((w5.setCell ⟨N, 0, none⟩ (.int .i64 k)).setCell ⟨N, 1, none⟩ (.slice p5 xs.length c5)) := (show KeepBut (fun b => b = N) _ _ from KeepBut.setCell _ ⟨N, 0, none⟩ _ rfl).trans (KeepBut.setCell _ ⟨N, 1, none⟩ _ rfl)
            refine bodyPost_ret (v := .tuple #[.agg #[.int .i64 k, .slice p5 xs.length c5], .bool false]) (by simp [results, Tryd.results21, go_sem, n0, n1]) rfl ⟨p5, c5, rfl, ?_, ?_⟩
            · exact (HL5.out.keep hf fun a ha e => by have := (HL5.out.2 a ha).1; have := HS.out; have := HKV.out.size; have h2 : a.block = N := e; omega).base fun a ha => by have := (HL5.out.2 a ha).1; have := HS.out; have := HKV.out.size; omega
            · exact ((HKW.out.trans HKV.out).trans HK5.out).new hf fun b hb => by have := HS.out; have h2 : b = N := hb; omega

end Go.Proofs.YtoolpifkfgileaaDoor

/-
  Chapter 29: calls as they are told; the history that HistSpec makes of them.
-/
namespace Go.Proofs.YtoolpifkfgileaaDoor
open Go Go.RowKit Own

structure Cd where
  cont : Int
  op : Int
  arg : Int
  value : Int
  code : Int
def Cd.vals (d : Cd) : List Value := [.int .i64 d.cont, .int .i64 d.op, .int .i64 d.arg, .int .i64 d.value, .int .i64 d.code]
def nthD (ls : List Cd) (i : Nat) : Cd := ls.getD i ⟨0, 0, 0, 0, 0⟩
theorem nthD_eq {ls : List Cd} {n : Nat} (h : n < ls.length) : nthD ls n = ls[n] := by simp [nthD, List.getD, h]
def RowD (w : World) (p : Option Addr) (l : List Cd) : Prop := ∀ i, i < l.length → ∃ g o, p = some ⟨g, o, none⟩ ∧
  w.cell? ⟨g, o + i * 5, none⟩ = some (.int .i64 (nthD l i).cont) ∧ w.cell? ⟨g, o + i * 5 + 1, none⟩ = some (.int .i64 (nthD l i).op) ∧ w.cell? ⟨g, o + i * 5 + 2, none⟩ = some (.int .i64 (nthD l i).arg) ∧
  w.cell? ⟨g, o + i * 5 + 3, none⟩ = some (.int .i64 (nthD l i).value) ∧ w.cell? ⟨g, o + i * 5 + 4, none⟩ = some (.int .i64 (nthD l i).code)
theorem RowD.stay {w w' : World} {p : Option Addr} {l : List Cd} (h : RowD w p l) (k : KeepBut (fun _ => False) w w') : RowD w' p l := fun i hi => by
  obtain ⟨g, o, h0, h1, h2, h3, h4, h5⟩ := h i hi
  exact ⟨g, o, h0, k.stay h1, k.stay h2, k.stay h3, k.stay h4, k.stay h5⟩

def opsOf (k : Int) : List Int := if k = 1 then [1, 2] else if k = 2 then [3, 4] else [5, 6, 7]
def opS (k x : Int) : Int := nth (opsOf k) (pick x (opsOf k).length).toNat
def callS (k : Int) (ls : List Cd) (j : Nat) : Cl := ⟨(j : Int) % 3, 0, opS k (nthD ls j).op, (nthD ls j).arg, 2 * (j : Int), 2 * (j : Int) + 1, (nthD ls j).value, (nthD ls j).code⟩
def csS (k : Int) (ls : List Cd) (i : Nat) : List Cl := (List.range i).map (callS k ls)
theorem csS_succ (k : Int) (ls : List Cd) (i : Nat) : csS k ls (i + 1) = csS k ls i ++ [callS k ls i] := by unfold csS; rw [List.range_succ, List.map_append]; rfl
theorem csS_len (k : Int) (ls : List Cd) (i : Nat) : (csS k ls i).length = i := by simp [csS]
theorem kind_cases {k : Int} (h : kindB k = true) : k = 1 ∨ k = 2 ∨ k = 3 := by
  have := of_decide_eq_true h
  omega
theorem opS_kind {k : Int} (h : kindB k = true) (x : Int) : kindOf (opS k x) = k := by
  unfold opS
  rcases kind_cases h with rfl | rfl | rfl
  · have hl : ((opsOf 1).length : Int) = 2 := by decide
    rw [hl]
    have := pick_range (k := x) (n := 2) (by decide)
    have : (pick x 2).toNat = 0 ∨ (pick x 2).toNat = 1 := by omega
    rcases this with e | e <;> rw [e] <;> decide
  · have hl : ((opsOf 2).length : Int) = 2 := by decide
    rw [hl]
    have := pick_range (k := x) (n := 2) (by decide)
    have : (pick x 2).toNat = 0 ∨ (pick x 2).toNat = 1 := by omega
    rcases this with e | e <;> rw [e] <;> decide
  · have hl : ((opsOf 3).length : Int) = 3 := by decide
    rw [hl]
    have := pick_range (k := x) (n := 3) (by decide)
    have : (pick x 3).toNat = 0 ∨ (pick x 3).toNat = 1 ∨ (pick x 3).toNat = 2 := by omega
    rcases this with e | e | e <;> rw [e] <;> decide
theorem csS_row {k : Int} (h : kindB k = true) (ls : List Cd) : ∀ i, InRow k (csS k ls i)
  | 0 => ⟨h, fun i hi => absurd hi (by simp [csS])⟩
  | i + 1 => by
    rw [csS_succ]
    refine (csS_row h ls i).snoc ⟨by rw [csS_len]; rfl, rfl, opS_kind h _, by rw [csS_len]; rfl, by rw [csS_len]; rfl⟩

/-- the content that the statement has after so many calls -/
def conS (k : Int) (ls : List Cd) (i : Nat) : Int × List Int := (stAll k (csS k ls i)).1
def goodS (k : Int) (ls : List Cd) (i : Nat) : Bool := (stAll k (csS k ls i)).2
theorem conS_succ (k : Int) (ls : List Cd) (i : Nat) : conS k ls (i + 1) = ((mayR (conS k ls i).1 (opS k (nthD ls i).op) (conS k ls i).2 (nthD ls i).arg (nthD ls i).value (nthD ls i).code).kind, (mayR (conS k ls i).1 (opS k (nthD ls i).op) (conS k ls i).2 (nthD ls i).arg (nthD ls i).value (nthD ls i).code).items) := by
  unfold conS; rw [csS_succ, stAll_snoc]; rfl
theorem goodS_succ (k : Int) (ls : List Cd) (i : Nat) : goodS k ls (i + 1) = (goodS k ls i && (mayR (conS k ls i).1 (opS k (nthD ls i).op) (conS k ls i).2 (nthD ls i).arg (nthD ls i).value (nthD ls i).code).ok) := by
  unfold goodS conS; rw [csS_succ, stAll_snoc]; rfl

def ArgsD (ls : List Cd) : Prop := ∀ d ∈ ls, In64 d.arg
theorem argsD_nth {ls : List Cd} (h : ArgsD ls) (i : Nat) : In64 (nthD ls i).arg := by
  unfold nthD
  rw [List.getD_eq_getElem?_getD]
  cases e : ls[i]? with
  | none => unfold In64; decide
  | some x => exact h x (List.mem_of_getElem? e)
theorem con_small {k : Int} (hk : In64 k) {ls : List Cd} (h : ArgsD ls) : ∀ i, In64 (conS k ls i).1 ∧ (conS k ls i).2.length ≤ 64 ∧ ∀ y ∈ (conS k ls i).2, In64 y
  | 0 => ⟨hk, Nat.zero_le _, fun y hy => by cases hy⟩
  | i + 1 => by
    obtain ⟨h1, h2, h3⟩ := con_small hk h i
    rw [conS_succ]
    exact mayR_small h1 h2 h3 (argsD_nth h i)

/-- a store of one cell into block b, of whatever value -/
def sCellA (b i : Nat) (T : TypeId) (cs0 : Array Value) : Loud := { val := fun _ _ => undef, fp := fun _ _ k => k = b, post := fun args _ w => w.heap[b]? = some (.cells (cs0.setIfInBounds i (args.getD 1 undef)) T (0, 0)) }
theorem loud_cellA {P : Program} {w0 : World} {M : Nat → Prop} {o : Oper} {a : Act} {av ea : List Nat} {F : Nat → World → Prop} {Fp : Nat → Nat → Prop} (b i : Nat) (T : TypeId) (cs0 : Array Value) (v : Value) (harg : (argsOf o a).getD 1 undef = v)
    (hrun : ∀ w u, w.cell? ⟨b, i, none⟩ = some u → w.frozen? ⟨b, i, none⟩ = false → (execOp a.eval o).run P w = .ok .skip (w.setCell ⟨b, i, none⟩ v))
    (j : Nat) (hja : j ∈ av) (hje : j ∈ ea) (hF : ∀ w, F j w → w.heap[b]? = some (.cells cs0 T (0, 0))) (hfp : Fp j b) (hi : i < cs0.size) : LoudOk P w0 M o a (sCellA b i T cs0) av ea F Fp := by
  refine loud_run ⟨default, trivial⟩ (fun g _ w w' _ _ _ h k => (h b rfl).trans k) fun w _ hav _ => ?_
  obtain ⟨hj, hb⟩ := hav j hja
  have hh := hF w hj
  refine ⟨w.setCell ⟨b, i, none⟩ v, default, trivial, .inr ⟨hrun w _ (blk_cell hh (Array.getElem?_eq_getElem hi)) (by simp [World.frozen?, hh]), rfl⟩, KeepBut.setCell _ _ _ ⟨j, hje, hfp⟩, fun k hk => ⟨.inr ⟨j, hje, by rw [show k = b from hk]; exact hfp⟩, ?_⟩, by
    show (w.setCell ⟨b, i, none⟩ v).heap[b]? = _
    rw [harg]; exact put1 hh v⟩
  rw [show k = b from hk]
  exact Nat.lt_of_lt_of_le (hb b hfp).1 (by simp [World.setCell])

def sRdI (f : Option Addr → Nat → Value) (xs : List Int) : Loud := { val := fun _ g => f g.p g.c, fp := fun _ g => Of g.p, post := fun _ g w => Rd w g.p (ints xs) }
theorem stable_rdI {w0 : World} {M : Nat → Prop} (p : Option Addr) (xs : List Int) : Stable w0 M (Of p) (fun w => Rd w p (ints xs)) := fun w w' _ _ _ h k j v hj => by
  obtain ⟨b, o, hp, hc⟩ := k j v hj
  refine ⟨b, o, hp, ?_⟩
  have hh := h b ⟨_, hp, rfl⟩
  unfold World.cell? at hc ⊢
  rw [hh]; exact hc

/-- where HistSpec is, between two rounds -/
structure SpecAt (k : Int) (ls : List Cd) (V wr : World) (K B5 B6 : Nat) (v : Value) (i : Nat) : Prop where
  row : wr.ownsRow (B6 + 1) TCl 8 v i (cellsC (csS k ls i))
  b5 : wr.heap[B5]? = some (.cells #[.slice (some ⟨K, 0, none⟩) 1 1, v] THi (0, 0))
  b6 : ∃ q c, wr.heap[B6]? = some (.cells #[.int .i64 (conS k ls i).1, .slice q (conS k ls i).2.length c] TC (0, 0)) ∧ Rd wr q (ints (conS k ls i).2)
  bk : wr.heap[K]? = some (.cells #[.int .i64 k] 3 (0, 0))
  keep : KeepBut (fun _ => False) V wr
  ne : V.heap.size ≤ K ∧ K < B5 ∧ B5 < B6

end Go.Proofs.YtoolpifkfgileaaDoor
