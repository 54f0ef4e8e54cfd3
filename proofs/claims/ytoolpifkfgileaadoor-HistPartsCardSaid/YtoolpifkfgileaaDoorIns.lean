/-
  slices.Insert of one number into a row of the call's own.
-/
import Derived.Test.YtoolpifkfgileaaDoorSl
import Derived.Shelf.Spec.SlicesInsert
import Derived.Lib.AppendZerosOnto
import Derived.Lib.Overlaps
import Derived.Maps.AppendAt
namespace Go.Proofs.YtoolpifkfgileaaDoor
open Go Go.RowKit Own

/-- Of a row that is known cell by cell. -/
theorem OwnI.of_cells {E : TypeId} {base : Nat} {w : World} {g : Nat} {cur : Array Value} {xs : List Int} (hb : base ≤ g) (hg : w.heap[g]? = some (.cells cur E (0, 0))) (hm : cur.size ≤ maxLen) (hl : xs.length ≤ cur.size)
    (h : ∀ j, j < xs.length → cur[j]? = some (.int .i64 (nth xs j))) : OwnI E base w (some ⟨g, 0, none⟩) cur.size xs := by
  refine OwnI.mk hb hg hm hl (List.ext_getElem? fun j => ?_)
  rw [List.getElem?_take]
  by_cases hj : j < xs.length
  · rw [if_pos hj, Array.getElem?_toList, h j hj]
    simp [ints, nth, hj]
  · rw [if_neg hj]; simp [ints, Nat.le_of_not_lt hj]

theorem nth_insert (xs : List Int) (i j : Nat) (x : Int) (hi : i ≤ xs.length) : nth (xs.insertIdx i x) j = if j < i then nth xs j else if j = i then x else nth xs (j - 1) := by
  unfold nth
  rw [List.getD_eq_getElem?_getD, List.getElem?_insertIdx]
  by_cases h1 : j < i
  · rw [if_pos h1, if_pos h1]; rfl
  · rw [if_neg h1, if_neg h1]
    by_cases h2 : j = i
    · rw [if_pos h2, if_pos h2, if_pos (by omega)]; rfl
    · rw [if_neg h2, if_neg h2]; rfl

set_option maxHeartbeats 1000000 in
set_option maxRecDepth 100000 in
/-- there is room, and it is not the end -/
theorem insert_shift (base : Nat) (w : World) (g c i vb : Nat) (xs : List Int) (x : Int) (ho : OwnI 2 base w (some ⟨g, 0, none⟩) c xs) (hl : xs.length ≤ 1099511627776) (hi : i < xs.length) (hc : xs.length + 1 ≤ c)
    (hv : w.heap[vb]? = some (.cells #[.int .i64 x] 2 (0, 0))) (hne : vb ≠ g) :
    Calls Tryd.prog 83 #[.slice (some ⟨g, 0, none⟩) xs.length c, .int .i64 i, .slice (some ⟨vb, 0, none⟩) 1 1] w fun e w' =>
      e = .returned (.slice (some ⟨g, 0, none⟩) (xs.length + 1) c) ∧ OwnI 2 base w' (some ⟨g, 0, none⟩) c (xs.insertIdx i x) ∧ KeepBut (fun b => b = g) w w' := by
  rcases ho.parts with ⟨h1, _, _⟩ | ⟨g', cur, h1, h2, h3, h4, h5, h6, h7⟩
  · cases h1
  · cases h1
    subst h6
    obtain ⟨i0, hi0, hz0, hz1, hz2⟩ := info_parts info_int64
    have hsz : (Tryd.prog.info? 2).map (·.size) = some 1 := by rw [hi0]; simp [hz1]
    have hrd := ho.rd
    unfold maxLen at h5
    -- what the two copies do
    have hdl : (ints (xs.drop i)).length = xs.length - i := by rw [ints_length, List.length_drop]
    have hcur : ∀ j, j < cur.size → (w.cell? ⟨g, j, none⟩).isSome = true := fun j hj => by simp [World.cell?, h3, hj]
    have hfz : ∀ j, w.frozen? ⟨g, j, none⟩ = false := fun j => by simp [World.frozen?, h3]
    have hcp1 : ∀ ty dc sc, (Builtin.copy_ #[45, 45] ty #[.slice (some ⟨g, i + 1, none⟩) (xs.length - i) dc, .slice (some ⟨g, i, none⟩) (xs.length + 1 - i) sc]).run Tryd.prog w.drew = .ok (goInt (ints (xs.drop i)).length) (w.drew.setCells g (i + 1) (ints (xs.drop i))) := fun ty dc sc => by
      have := run_copy_cells (P := Tryd.prog) w.drew 45 45 ty 2 g (i + 1) (xs.length - i) dc ⟨g, i, none⟩ (xs.length + 1 - i) sc (ints (xs.drop i)) Tryd.underlying45 hsz (by rw [hdl]; simp only [Nat.min_def]; split <;> omega)
        (fun j v hj => by
          rw [Addr.add_lit]
          have : (ints xs)[i + j]? = some v := by rw [ints, ← List.getElem?_drop, ← List.map_drop]; exact hj
          simpa using hrd.cell (i + j) v this)
        (fun j hj => hcur _ (by omega)) (fun j hj => hfz _) (ints_oneCell' _)
      exact this
    obtain ⟨W1, hW1⟩ : ∃ W1, W1 = w.drew.setCells g (i + 1) (ints (xs.drop i)) := ⟨_, rfl⟩
    obtain ⟨cur1, hc1, hs1, hr1⟩ := heap_setCells g (ints (xs.drop i)) (i + 1) w.drew cur _ _ (show w.drew.heap[g]? = _ from h3)
    rw [← hW1] at hc1
    have hk1 : KeepBut (fun b => b = g) w W1 := by rw [hW1]; exact (KeepBut.drew _ w).trans (keep_setCells (E := fun b => b = g) g rfl _ _ _)
    have hv1 : W1.heap[vb]? = some (.cells #[.int .i64 x] 2 (0, 0)) := by
      rw [hk1.block vb (by
        rcases Nat.lt_or_ge vb w.heap.size with h' | h'
        · exact h'
        · rw [Array.getElem?_eq_none h'] at hv; cases hv) hne]
      exact hv
    have hcp2 : ∀ (W : World), W.heap = W1.heap → ∀ ty dc, (Builtin.copy_ #[45, 45] ty #[.slice (some ⟨g, i, none⟩) (xs.length + 1 - i) dc, .slice (some ⟨vb, 0, none⟩) 1 1]).run Tryd.prog W = .ok (goInt 1) (W.setCells g i [.int .i64 x]) := fun W hW ty dc => by
      have := run_copy_cells (P := Tryd.prog) W 45 45 ty 2 g i (xs.length + 1 - i) dc ⟨vb, 0, none⟩ 1 1 [.int .i64 x] Tryd.underlying45 hsz (by simp only [Nat.min_def]; split <;> simp <;> omega)
        (fun j v hj => by
          have h0 : j = 0 := by
            rcases j with _ | j
            · rfl
            · simp at hj
          subst h0
          simpa [World.cell?, Addr.add, hW, hv1] using hj)
        (fun j hj => by simp only [List.length_cons, List.length_nil, Nat.zero_add, Nat.lt_one_iff] at hj; subst hj; simp [World.cell?, hW, hc1]; omega)
        (fun j hj => by simp [World.frozen?, hW, hc1]) (fun v hv => by simp only [List.mem_singleton] at hv; subst hv; rfl)
      exact this
    have hov : ∀ lb cb, (callFunc 90 #[.slice (some ⟨vb, 0, none⟩) 1 1, .slice (some ⟨g, i + 1, none⟩) lb cb]).run Tryd.prog w = .ok (.value (.bool false)) w := fun lb cb => by
      rw [run_callFunc_extern Tryd.func90 (by kernel_rfl) (by kernel_rfl) (by kernel_rfl) (e := Extern.SlicesOverlaps.overlaps #[45, 45] #[4]) (by kernel_rfl),
        Lib.run_overlaps_apart w 45 4 2 Tryd.underlying45 1 Tryd.sizeOf2 ⟨vb, 0, none⟩ ⟨g, i + 1, none⟩ 1 1 lb cb hne 2 2 1 cur.size (by simp [World.shape?, hv]) (by simp [World.shape?, h3]) (by omega) (by simp [World.frozen?, hv]) (by simp [World.frozen?, hv])]
      rfl
    rw [← hW1] at hcp1
    have hz2 : ¬ ((i : Int) = (xs.length : Int)) := by omega
    have hw1 : IntKind.i64.wrap ((i : Int) + 1) = (i : Int) + 1 := IntWalk.i64_in _ (by omega)
    have hb0 : (0 : Int) ≤ (i : Int) := by omega
    have hb1 : (0 : Int) ≤ (i : Int) + 1 := by omega
    have htn : ((i : Int) + 1).toNat = i + 1 := by omega
    have hb3 : (i : Int) ≤ (xs.length : Int) + 1 := by omega
    have hb4 : ¬ (cur.size = i) := by omega
    have hb2 : ¬ (cur.size = i + 1) := by omega
    have hb5 : (i : Int) ≤ (xs.length : Int) := by omega
    have HR := Lib.hid hrd; have HW := Lib.hid hW1; have HK := Lib.hid hk1; have H3 := Lib.hid h3; have H7 := Lib.hid h7; have HV := Lib.hid hv; have HV1 := Lib.hid hv1; have HC1 := Lib.hid hc1; have HS1 := Lib.hid hs1; have HR1 := Lib.hid hr1; have HCUR := Lib.hid hcur
    clear hrd hW1 hk1 h3 h7 hv hv1 hc1 hs1 hr1 hcur hfz hdl ho hsz hi0 hz0 hz1
    go_enter Tryd.func83, Tryd.ntmps83
    go_wp2_with (simp only [hov])
    go_region_law (refine step_copy_runI rfl _ _ 45 45 rfl _ _ (by simp [Act.eval, Act.put]) (by simp [Act.eval, Act.put]) (hcp1 _ _ _) ?_)
    go_wp2_with (at_builtin; refine wpList_copy_runI _ rfl _ _ 45 45 rfl _ _ rfl rfl (hcp2 _ rfl _ _) ?_)
    go_ret
    obtain ⟨cur2, hc2, hs2, hr2⟩ := heap_setCells g [.int .i64 x] i W1 cur1 _ _ HC1.out
    have hl1 : (xs.insertIdx i x).length = xs.length + 1 := List.length_insertIdx_of_le_length (by omega) _
    refine ⟨rfl, ?_, HK.out.trans (keep_setCells (E := fun b => b = g) g rfl _ _ _)⟩
    have hsz2 : cur2.size = cur.size := by rw [hs2, HS1.out]
    rw [← hsz2]
    refine OwnI.of_cells h2 hc2 (by unfold maxLen; omega) (by omega) fun j hj => ?_
    rw [hr2 j (by rw [HS1.out]; omega), HR1.out j (by omega), nth_insert xs i j x (by omega)]
    simp only [List.length_cons, List.length_nil, ints_length, List.length_drop]
    by_cases h1 : j < i
    · rw [if_neg (by omega), if_neg (by omega), if_pos h1]
      have := HR.out.int j (by omega)
      rw [World.cell?, H3.out] at this
      simpa using this
    · by_cases h2 : j = i
      · subst h2
        rw [if_pos (by omega), if_neg h1, if_pos rfl]
        simp
      · rw [if_neg (by omega), if_pos (by omega), if_neg h1, if_neg h2]
        simp [ints, nth, show i + (j - (i + 1)) = j - 1 by omega, show j - 1 < xs.length by omega]

set_option maxHeartbeats 1000000 in
set_option maxRecDepth 100000 in
/-- at the end -/
theorem insert_end (base : Nat) (w : World) (p : Option Addr) (c vb : Nat) (xs : List Int) (x i : Int) (ho : OwnI 2 base w p c xs) (hl : xs.length ≤ 1099511627776) (hi : i = xs.length)
    (hv : w.heap[vb]? = some (.cells #[.int .i64 x] 2 (0, 0))) (hb : base ≤ w.heap.size) :
    Calls Tryd.prog 83 #[.slice p xs.length c, .int .i64 i, .slice (some ⟨vb, 0, none⟩) 1 1] w fun e w' =>
      ∃ p' c', e = .returned (.slice p' (xs.length + 1) c') ∧ OwnI 2 base w' p' c' (xs ++ [x]) ∧ KeepBut (Of p) w w' ∧ ∀ b, Of p' b → Of p b ∨ w.heap.size ≤ b := by
  obtain ⟨i0, hi0, hz0, hz1, hz2⟩ := info_parts info_int64
  have hle := ho.le
  have hn : ∀ j u, [Value.int .i64 x][j]? = some u → w.cell? ((⟨vb, 0, none⟩ : Addr).add j) = some u := fun j u hj => by
    have h0 : j = 0 := by
      rcases j with _ | j
      · rfl
      · simp at hj
    subst h0
    simpa [World.cell?, Addr.add, hv] using hj
  have hin : (i == (xs.length : Int)) = true := by rw [hi]; simp
  have h0 : (0 : Int) ≤ i := by omega
  have h1 : i ≤ (xs.length : Int) := by omega
  have h2 : (xs.length : Int) ≤ (c : Int) := by omega
  obtain ⟨hle1, hle2⟩ := hle
  have HO := Lib.hid ho; have HN := Lib.hid hn; have HI := Lib.hid hi
  clear ho hn hv hi
  go_enter Tryd.func83, Tryd.ntmps83
  go_wp2_with (at_builtin; refine wpList_append_own_at _ rfl _ _ 45 rfl base 2 i0 (.int .i64 0) 1 8 Tryd.underlying45 hi0 hz0 hz1 hz2 rfl (by decide) _ _ _ rfl HO.out ⟨vb, 0, none⟩ 1 1 [.int .i64 x] rfl rfl HN.out (fun u hu => by simp only [List.mem_singleton] at hu; subst hu; rfl) (by unfold maxLen; omega) (by omega) hb ?_; intro v' w1 hown hgrow hnil hat)
  all_goals
    have hg2 : w.grownBy w1 ((Value.slice p xs.length c).ownBlock) := hgrow
    have ha2 : v'.ownBlock = (Value.slice p xs.length c).ownBlock ∨ v'.ownBlock = some w.heap.size := hat
    clear hgrow hnil hat
    go_ret
    have hrow : w1.ownsRow base 2 1 v' (xs ++ [x]).length (ints (xs ++ [x])) := by simpa [ints] using hown
    obtain ⟨p', c', rfl, ho'⟩ := OwnI.of_row hrow
    refine ⟨p', c', by simp, ho', KeepBut.grown hg2 fun k hk => ?_, fun b hb => ?_⟩
    · cases p with
      | none => simp [Value.ownBlock] at hk
      | some a => simp [Value.ownBlock] at hk; exact ⟨a, rfl, hk.symm⟩
    · obtain ⟨a, rfl, rfl⟩ := hb
      simp only [Value.ownBlock] at ha2
      rcases ha2 with h5 | h5
      · cases p with
        | none => simp at h5
        | some a' => simp only [Option.some.injEq] at h5; exact .inl ⟨a', rfl, h5⟩
      · simp only [Option.some.injEq] at h5; exact .inr (by omega)

/-- an append whose run is known -/
theorem wpList_append_run {P : Program} (w : World) {ops : Array Oper} {rest : List Oper} {o : Oper} {a : Act} {Q : Exit → Act → World → Prop} (hgd : o.guard = none) (d s : Operand) (t t' : TypeId)
    (ho : o.op = .call { callee := .builtin .append, args := #[d, s], argTypes := #[t, t'] }) (v u : Value) (hd : a.eval d = v) (hs : a.eval s = u) {v' : Value} {w' : World}
    (hr : (Builtin.append_ #[t, t'] o.type #[v, u]).run P w = .ok v' w') (h : wpList P ops Q rest (a.put o.dst v') w') : wpList P ops Q (o :: rest) a w := by
  refine wpList_plain hgd fun K hK => ?_
  unfold Oper.wp execOp
  simp only [ho, resolve, invoke, builtin, Sem.run_bind, Sem.run_pure, Result.andThen_ok, List.map_toArray, List.map_cons, List.map_nil, hd, hs, hr]
  exact hK _ _ h

set_option maxHeartbeats 1000000 in
set_option maxRecDepth 100000 in
/-- there is no room, and it is not the end -/
theorem insert_grow (base : Nat) (w : World) (g i vb : Nat) (xs : List Int) (x : Int) (ho : OwnI 2 base w (some ⟨g, 0, none⟩) xs.length xs) (hl : xs.length ≤ 1099511627776) (hi : i < xs.length)
    (hv : w.heap[vb]? = some (.cells #[.int .i64 x] 2 (0, 0))) (hb : base ≤ w.heap.size) :
    Calls Tryd.prog 83 #[.slice (some ⟨g, 0, none⟩) xs.length xs.length, .int .i64 i, .slice (some ⟨vb, 0, none⟩) 1 1] w fun e w' =>
      ∃ p' c', e = .returned (.slice p' (xs.length + 1) c') ∧ OwnI 2 base w' p' c' (xs.insertIdx i x) ∧ KeepBut (fun _ => False) w w' ∧ ∀ b, Of p' b → w.heap.size ≤ b := by
  obtain ⟨i0, hi0, hz0, hz1, hz2⟩ := info_parts info_int64
  have hsz : (Tryd.prog.info? 2).map (·.size) = some 1 := by rw [hi0]; simp [hz1]
  have hrd := ho.rd
  have hgl : g < w.heap.size := (ho.lt _ rfl).2
  have hvl : vb < w.heap.size := by
    rcases Nat.lt_or_ge vb w.heap.size with h' | h'
    · exact h'
    · rw [Array.getElem?_eq_none h'] at hv; cases hv
  have htl : (ints (xs.take i)).length = i := by rw [ints_length, List.length_take]; omega
  have hdl : (ints (xs.drop i)).length = xs.length - i := by rw [ints_length, List.length_drop]
  have hold : (Builtin.firstCells i0.size i (.slice (some ⟨g, 0, none⟩) i xs.length)).run Tryd.prog w.drew = .ok (ints (xs.take i)).toArray w.drew := by
    rw [hz1]
    exact run_firstCells_some w.drew 1 i ⟨g, 0, none⟩ i xs.length (ints (xs.take i)) (by rw [htl]; omega) (fun j v hj => by
      rw [Addr.add_lit]
      rw [ints, List.map_take, ← ints, List.getElem?_take] at hj
      split at hj
      · exact hrd.cell j v hj
      · cases hj)
  obtain ⟨G, hG⟩ : ∃ G, G = grownCap w (xs.length + 1) xs.length 2 := ⟨_, rfl⟩
  obtain ⟨ROW, hROW⟩ : ∃ ROW : Array Value, ROW = (ints (xs.take i)).toArray ++ Builtin.zeroCells (Value.int .i64 0).cells (xs.length + 1 - i) ++ Builtin.zeroCells (Value.int .i64 0).cells (G - (xs.length + 1)) := ⟨_, rfl⟩
  have hGn : xs.length + 1 ≤ G := by rw [hG]; exact grownCap_ge w _ _ _
  have hG63 : G ≤ 9223372036854775807 := by
    have := grownCap_le_maxLen w (xs.length + 1) xs.length 2 (by unfold maxLen; omega)
    rw [← hG] at this; unfold maxLen at this; omega
  have hRs : ROW.size = G := by
    rw [hROW]; simp [Builtin.zeroCells, Value.cells, ints_length, List.length_take]; omega
  have hRl : ∀ j, j < i → ROW[j]? = some (.int .i64 (nth xs j)) := fun j hj => by
    rw [hROW, Array.append_assoc, Array.getElem?_append_left (by simp [ints_length, List.length_take]; omega)]
    simp [ints, nth, hj, show j < xs.length by omega]
  have hrz : ∀ ty, (Builtin.append_ #[45, 3] ty #[.slice (some ⟨g, 0, none⟩) i xs.length, .int .i64 ((xs.length : Int) + 1 - (i : Int))]).run Tryd.prog w = .ok (.slice (some ⟨w.heap.size, 0, none⟩) (xs.length + 1) G) (w.drew.alloc (.cells ROW 2)) := fun ty => by
    have h := Lib.run_append_grow_zeros w 45 3 ty 2 i0 (.int .i64 0) .i64 .i64 Tryd.underlying45 Tryd.underlying3 hi0 hz0 (some ⟨g, 0, none⟩) i xs.length (ints (xs.take i)) hold (xs.length + 1 - i) (by omega) (by omega) (by omega) (by omega) (by rw [hz2]; omega)
      (by rw [hz2, show i + (xs.length + 1 - i) = xs.length + 1 by omega]; exact growslice_fits (by omega) (by omega))
    rw [show i + (xs.length + 1 - i) = xs.length + 1 by omega, ← hG, ← hROW] at h
    rw [show (xs.length : Int) + 1 - (i : Int) = ((xs.length + 1 - i : Nat) : Int) by omega]
    exact h
  obtain ⟨W1, hW1⟩ : ∃ W1, W1 = w.drew.alloc (.cells ROW 2) := ⟨_, rfl⟩
  obtain ⟨N, hN⟩ : ∃ N, N = w.heap.size := ⟨_, rfl⟩
  have hc1 : W1.heap[N]? = some (.cells ROW 2 (0, 0)) := by rw [hW1, hN]; exact heap_alloc_new w.drew _
  have hk1 : KeepBut (fun _ => False) w W1 := by rw [hW1]; exact (KeepBut.drew _ w).trans (KeepBut.alloc _ _ _)
  have hs1 : W1.heap.size = N + 1 := by rw [hW1, hN]; simp
  rw [← hW1, ← hN] at hrz
  have hv1 : W1.heap[vb]? = some (.cells #[.int .i64 x] 2 (0, 0)) := by rw [hk1.block vb hvl (fun e => e)]; exact hv
  have hrd1 := hrd.keep hk1 (fun _ _ e => e)
  obtain ⟨cur1, hc2, hs2, hr2⟩ := heap_setCells N [.int .i64 x] i W1 ROW _ _ hc1
  obtain ⟨W2, hW2⟩ : ∃ W2, W2 = W1.setCells N i [.int .i64 x] := ⟨_, rfl⟩
  have hcpA : ∀ ty dc, (Builtin.copy_ #[45, 45] ty #[.slice (some ⟨N, i, none⟩) (xs.length + 1 - i) dc, .slice (some ⟨vb, 0, none⟩) 1 1]).run Tryd.prog W1 = .ok (goInt 1) W2 := fun ty dc => by
    have := run_copy_cells (P := Tryd.prog) W1 45 45 ty 2 N i (xs.length + 1 - i) dc ⟨vb, 0, none⟩ 1 1 [.int .i64 x] Tryd.underlying45 hsz (by simp only [Nat.min_def]; split <;> simp <;> omega)
      (fun j v hj => by
        have h0 : j = 0 := by
          rcases j with _ | j
          · rfl
          · simp at hj
        subst h0
        simpa [World.cell?, Addr.add, hv1] using hj)
      (fun j hj => by simp only [List.length_cons, List.length_nil, Nat.zero_add, Nat.lt_one_iff] at hj; subst hj; simp [World.cell?, hc1]; omega)
      (fun j hj => by simp [World.frozen?, hc1]) (fun v hv => by simp only [List.mem_singleton] at hv; subst hv; rfl)
    rw [hW2]; exact this
  rw [← hW2] at hc2
  have hk2 : KeepBut (fun b => b = N) W1 W2 := by rw [hW2]; exact keep_setCells (E := fun b => b = N) N rfl _ _ _
  have hrd2 := hrd1.keep hk2 (fun a ha e => by cases ha; simp only at e; omega)
  obtain ⟨cur2, hc3, hs3, hr3⟩ := heap_setCells N (ints (xs.drop i)) (i + 1) W2.drew cur1 _ _ (show W2.drew.heap[N]? = _ from hc2)
  obtain ⟨W3, hW3⟩ : ∃ W3, W3 = W2.drew.setCells N (i + 1) (ints (xs.drop i)) := ⟨_, rfl⟩
  have hcpB : ∀ ty dc sc, (Builtin.copy_ #[45, 45] ty #[.slice (some ⟨N, i + 1, none⟩) (xs.length - i) dc, .slice (some ⟨g, i, none⟩) (xs.length - i) sc]).run Tryd.prog W2.drew = .ok (goInt (ints (xs.drop i)).length) W3 := fun ty dc sc => by
    have := run_copy_cells (P := Tryd.prog) W2.drew 45 45 ty 2 N (i + 1) (xs.length - i) dc ⟨g, i, none⟩ (xs.length - i) sc (ints (xs.drop i)) Tryd.underlying45 hsz (by rw [hdl]; simp only [Nat.min_def]; split <;> omega)
      (fun j v hj => by
        rw [Addr.add_lit]
        have : (ints xs)[i + j]? = some v := by rw [ints, ← List.getElem?_drop, ← List.map_drop]; exact hj
        simpa using hrd2.cell (i + j) v this)
      (fun j hj => by
        have h9 : i + 1 + j < cur1.size := by omega
        show (W2.cell? _).isSome = true
        simp [World.cell?, hc2, h9]) (fun j hj => by show W2.frozen? _ = false; simp [World.frozen?, hc2]) (ints_oneCell' _)
    rw [hW3]; exact this
  rw [← hW3] at hc3
  have hk3 : KeepBut (fun b => b = N) W2 W3 := by rw [hW3]; exact (KeepBut.drew _ W2).trans (keep_setCells (E := fun b => b = N) N rfl _ _ _)
  have hkAll : KeepBut (fun _ => False) w W3 := hk1.new (hk2.trans hk3) (fun b hb => by omega)
  have hl1 : (xs.insertIdx i x).length = xs.length + 1 := List.length_insertIdx_of_le_length (by omega) _
  have hsz3 : cur2.size = G := by rw [hs3, hs2, hRs]
  have hfin : OwnI 2 base W3 (some ⟨N, 0, none⟩) G (xs.insertIdx i x) := by
    rw [← hsz3]
    refine OwnI.of_cells (by omega) hc3 (by unfold maxLen; omega) (by omega) fun j hj => ?_
    rw [hr3 j (by omega), hr2 j (by omega), nth_insert xs i j x (by omega)]
    simp only [List.length_cons, List.length_nil, ints_length, List.length_drop]
    by_cases h1 : j < i
    · rw [if_neg (by omega), if_neg (by omega), if_pos h1]; exact hRl j h1
    · by_cases h2 : j = i
      · subst h2
        rw [if_neg (by omega), if_pos (by omega), if_neg h1, if_pos rfl]
        simp
      · rw [if_pos (by omega), if_neg h1, if_neg h2]
        simp [ints, nth, show i + (j - (i + 1)) = j - 1 by omega, show j - 1 < xs.length by omega]
  have HK := Lib.hid hkAll; have HF := Lib.hid hfin; have HL := Lib.hid hl1; have HN := Lib.hid hN
  have hz3 : ¬ ((i : Int) = (xs.length : Int)) := by omega
  have hz4 : ((i : Int) == (xs.length : Int)) = false := by rw [beq_eq_false_iff_ne]; exact hz3
  have hw1 : IntKind.i64.wrap ((i : Int) + 1) = (i : Int) + 1 := IntWalk.i64_in _ (by omega)
  have hb0 : (0 : Int) ≤ (i : Int) := by omega
  have hb1 : (0 : Int) ≤ (i : Int) + 1 := by omega
  have htn : ((i : Int) + 1).toNat = i + 1 := by omega
  have hb3 : (i : Int) ≤ (xs.length : Int) + 1 := by omega
  have hb5 : (i : Int) ≤ (xs.length : Int) := by omega
  have hb6 : (xs.length : Int) < (xs.length : Int) + 1 := by omega
  have hg1 : (xs.length : Int) + 1 ≤ (G : Int) := by omega
  have hg2 : ¬ (G = i) := by omega
  have hg3 : ¬ (G = i + 1) := by omega
  have hg4 : ¬ (xs.length = i) := by omega
  clear ho hsz hi0 hz0 hz1 hz2 hrd htl hdl hold hG hROW hRs hRl hW1 hc1 hk1 hs1 hv1 hrd1 hc2 hs2 hr2 hW2 hk2 hrd2 hc3 hs3 hr3 hW3 hk3 hkAll hl1 hsz3 hfin hz3 hv hN
  go_enter Tryd.func83, Tryd.ntmps83
  go_wp2_with (at_builtin; refine wpList_append_run _ rfl _ _ 45 3 rfl _ _ rfl rfl (hrz _) ?_)
  go_region_law (refine step_copy_runI rfl _ _ 45 45 rfl _ _ (by simp [Act.eval, Act.put]) (by simp [Act.eval, Act.put]) (hcpB _ _ _) ?_)
  go_wp2_with fail
  go_ret
  exact ⟨_, _, rfl, HF.out, HK.out, fun b hb => by rw [Of.some_iff] at hb; have := HN.out; simp only at hb; omega⟩

/-- slices.Insert of one number into a row of the call's own -/
theorem insert_any (base : Nat) (w : World) (p : Option Addr) (c i vb : Nat) (xs : List Int) (x k : Int) (ho : OwnI 2 base w p c xs) (hl : xs.length ≤ 1099511627776) (hi : i ≤ xs.length) (hk : k = i)
    (hv : w.heap[vb]? = some (.cells #[.int .i64 x] 2 (0, 0))) (hne : ∀ a, p = some a → vb ≠ a.block) (hb : base ≤ w.heap.size) :
    Calls Tryd.prog 83 #[.slice p xs.length c, .int .i64 k, .slice (some ⟨vb, 0, none⟩) 1 1] w fun e w' =>
      ∃ p' c', e = .returned (.slice p' (xs.length + 1) c') ∧ OwnI 2 base w' p' c' (xs.insertIdx i x) ∧ KeepBut (Of p) w w' ∧ ∀ b, Of p' b → Of p b ∨ w.heap.size ≤ b := by
  subst hk
  by_cases hin : i = xs.length
  · subst hin
    rw [List.insertIdx_length_self]
    exact insert_end base w p c vb xs x _ ho hl rfl hv hb
  · have hi' : i < xs.length := by omega
    obtain ⟨g, o, rfl, _⟩ := ho.rd.ptr (by rw [ints_length]; omega)
    rcases ho.parts with ⟨h1, _, _⟩ | ⟨g', cur, h1, h2, h3, h4, h5, h6, h7⟩
    · cases h1
    · cases h1
      by_cases hc : xs.length + 1 ≤ c
      · refine (insert_shift base w g c i vb xs x ho hl hi' hc hv (hne _ rfl)).mono ?_
        rintro e w' ⟨rfl, h8, h9⟩
        exact ⟨_, _, rfl, h8, h9.mono fun b hb => Of.some_iff.2 hb, fun b hb => .inl hb⟩
      · have hcc : c = xs.length := by omega
        subst hcc
        refine (insert_grow base w g i vb xs x ho hl hi' hv hb).mono ?_
        rintro e w' ⟨p', c', rfl, h8, h9, h10⟩
        exact ⟨_, _, rfl, h8, h9.mono fun b hb => hb.elim, fun b hb => .inr (h10 b hb)⟩

end Go.Proofs.YtoolpifkfgileaaDoor
