/- Joined texts of this work: Hw1, HiL, HiM, HiN, Hp5. -/
import Derived.Test.YtoolpifkfgileaaDoorJw14
import Derived.Laws.StructEq
import Derived.Test.YtoolpifkfgileaaDoorJw13

/-
  Chapter 29: rows of calls that are written cell by cell; Own[Call], OwnHist.
-/
namespace Go.Proofs.YtoolpifkfgileaaDoor
open Go Go.RowKit Own

/-- a block that holds calls -/
structure RowB (w : World) (g cap : Nat) (l : List Cl) : Prop where
  blk : ∃ cur, w.heap[g]? = some (.cells cur TCl (0, 0)) ∧ cur.size = cap * 8 ∧ cur.toList.take (l.length * 8) = cellsC l
  cap : l.length ≤ cap
theorem RowB.rowC {w : World} {g cap : Nat} {l : List Cl} (h : RowB w g cap l) : RowC w (some ⟨g, 0, none⟩) l := by
  obtain ⟨cur, h1, -, h3⟩ := h.blk
  exact rowC_of_rd (rd_of_take h1 h3)
theorem RowB.keep {w w' : World} {g cap : Nat} {l : List Cl} {E : Nat → Prop} (h : RowB w g cap l) (k : KeepBut E w w') (hE : ¬ E g) : RowB w' g cap l := by
  obtain ⟨cur, h1, h2, h3⟩ := h.blk
  exact ⟨⟨cur, keep_blk k h1 hE, h2, h3⟩, h.cap⟩
theorem RowB.of_same {w w' : World} {g cap : Nat} {l : List Cl} (h : RowB w g cap l) (hb : w'.heap[g]? = w.heap[g]?) : RowB w' g cap l := by
  obtain ⟨cur, h1, h2, h3⟩ := h.blk
  exact ⟨⟨cur, hb.trans h1, h2, h3⟩, h.cap⟩
theorem RowB.lt {w : World} {g cap : Nat} {l : List Cl} (h : RowB w g cap l) : g < w.heap.size := by
  obtain ⟨cur, h1, -, -⟩ := h.blk
  exact (Array.getElem?_eq_some_iff.1 h1).1
theorem RowB.cell {w : World} {g cap : Nat} {l : List Cl} (h : RowB w g cap l) {i t : Nat} (hi : i < l.length) (ht : t < 8) {v : Value} (hv : (nthC l i).vals[t]? = some v) : w.cell? ⟨g, i * 8 + t, none⟩ = some v ∧ w.frozen? ⟨g, i * 8 + t, none⟩ = false := by
  obtain ⟨cur, h1, h2, h3⟩ := h.blk
  refine ⟨blk_cell h1 ?_, by simp [World.frozen?, h1]⟩
  have h4 := cellsC_at l i t hi ht
  rw [← h3, List.getElem?_take, if_pos (by omega), hv] at h4
  simpa using h4

theorem RowB.put {w : World} {g cap : Nat} {l : List Cl} (h : RowB w g cap l) {i t : Nat} (hi : i < l.length) (ht : t < 8) {v : Value} {c : Cl} (hc : c.vals = (nthC l i).vals.set t v) : RowB (w.setCell ⟨g, i * 8 + t, none⟩ v) g cap (l.set i c) := by
  obtain ⟨cur, h1, h2, h3⟩ := h.blk
  have hcap := h.cap
  refine ⟨⟨_, put1 h1 v, by rw [Array.size_setIfInBounds]; exact h2, ?_⟩, by rw [List.length_set]; exact hcap⟩
  rw [List.length_set]
  apply List.ext_getElem?
  intro u
  rw [List.getElem?_take]
  by_cases hu : u < l.length * 8
  · rw [if_pos hu]
    have hq : u / 8 < l.length := by omega
    have hr : u % 8 < 8 := Nat.mod_lt _ (by decide)
    have hd : u / 8 * 8 + u % 8 = u := by omega
    have h4 := cellsC_at (l.set i c) (u / 8) (u % 8) (by rw [List.length_set]; exact hq) hr
    have h5 := cellsC_at l (u / 8) (u % 8) hq hr
    rw [hd] at h4 h5
    rw [h4, nthC_put hi]
    rw [← h3, List.getElem?_take, if_pos hu] at h5
    simp only [Array.getElem?_toList, Array.getElem?_setIfInBounds] at h5 ⊢
    by_cases e : u / 8 = i
    · rw [if_pos e, hc, List.getElem?_set]
      rw [e] at h5
      by_cases e2 : i * 8 + t = u
      · rw [if_pos e2, if_pos (by omega), if_pos (by omega), if_pos (by rw [vals_length]; omega)]
      · rw [if_neg e2, if_neg (by omega), h5]
    · rw [if_neg e, if_neg (by omega), h5]
  · rw [if_neg hu, List.getElem?_eq_none]
    rw [cellsC_length, List.length_set]
    omega

theorem ownCall_any (w : World) (p : Option Addr) (c : Nat) (l : List Cl) (h : RowC w p l) (hl : l.length ≤ 1099511627776) (hne : l ≠ []) :
    Calls Tryd.prog 39 #[.slice p l.length c] w fun e w' => ∃ g cap, e = .returned (.slice (some ⟨g, 0, none⟩) l.length cap) ∧ RowB w' g cap l ∧ w.heap.size ≤ g ∧ KeepBut (fun _ => False) w w' := by
  obtain ⟨a, hp⟩ : ∃ a, p = some a := by
    obtain ⟨g, o, e, -⟩ := h 0 (List.length_pos_iff.2 hne)
    exact ⟨_, e⟩
  subst hp
  have hA := KeepBut.alloc (fun _ => False) w (.cells #[] TCl)
  have hr := Lib.hid (rd_of_rowC (h.stay hA)).adds
  have ho := Lib.hid (show (w.alloc (.cells #[] TCl)).ownsRow w.heap.size TCl 8 (.slice (some ⟨w.heap.size, 0, none⟩) 0 0) 0 (cellsC []) from ⟨rfl, .inr ⟨w.heap.size, 0, #[], rfl, Nat.le_refl _, heap_alloc_new w _, Nat.le_refl _, by unfold maxLen; omega, rfl, rfl⟩⟩)
  obtain ⟨i0, hi, hz0, hz1, hz2⟩ := info_parts info_call
  have HI := Lib.hid hi; have HZ0 := Lib.hid hz0; have HZ1 := Lib.hid hz1; have HZ2 := Lib.hid hz2
  have HNE := Lib.hid hne
  clear h hA hi hz0 hz1 hz2 hne
  go_enter Tryd.func39, Tryd.ntmps39
  go_wp2_with (at_builtin; go_loud (refine wpList_append_own _ rfl (.tmp 3) (.tmp 4) 23 rfl w.heap.size TCl i0 _ 8 64 calls_ty HI.out HZ0.out HZ1.out HZ2.out rfl (by decide) (.slice (some ⟨w.heap.size, 0, none⟩) 0 0) 0 (cellsC []) rfl ho.out a l.length c (cellsC l) rfl (cellsC_length l) hr.out (cellsC_one l) (by unfold maxLen; omega) (by omega) (by simp) ?_)
               intro v' w' h1 h2 _
               have H1 := Lib.hid h1; have H2 := Lib.hid h2
               clear h1 h2)
  go_ret
  have h9 := H1.out
  rw [Nat.zero_add] at h9
  obtain ⟨h0, ⟨rfl, h1⟩ | ⟨g, cap, cur, rfl, hbs, hg, h1, h2, h3, h4⟩⟩ := h9
  · exact absurd (List.eq_nil_of_length_eq_zero h1) HNE.out
  · exact ⟨g, cap, rfl, ⟨⟨cur, hg, h3, h4⟩, h1⟩, hbs, KeepBut.of_below (((Below.refl w.heap.size w).alloc (Nat.le_refl _) _).grown H2.out (by simp) (fun k hk => by cases hk; exact Nat.le_refl _))⟩

def OwnHistDone (ks : List Int) (cs : List Cl) (w : World) (e : Ending) (w' : World) : Prop :=
  ∃ pk ck g cap, e = .returned (.agg #[.slice pk ks.length ck, .slice (some ⟨g, 0, none⟩) cs.length cap]) ∧ Rd w' pk (ints ks) ∧ RowB w' g cap cs ∧ w.heap.size ≤ g ∧ (∀ a, pk = some a → w.heap.size ≤ a.block ∧ a.block ≠ g) ∧ KeepBut (fun _ => False) w w'

set_option maxHeartbeats 8000000 in
theorem ownHist_any (w : World) (pk pc : Option Addr) (ck cc : Nat) (ks : List Int) (cs : List Cl) (hI : HistIn w pk pc ks cs) (hne : cs ≠ []) :
    Calls Tryd.prog 18 #[histV pk pc ck cc ks cs] w fun e w' => OwnHistDone ks cs w e w' := by
  obtain ⟨V1, B, hV1, hB0, hb1, hk1, hs1⟩ := fresh_block w (.cells #[.slice pk ks.length ck, .slice pc cs.length cc] THi)
  obtain ⟨V, N, hV, hN, hbN, hk2, hs2⟩ := fresh_block V1 (.cells #[.slice none 0 0, .slice none 0 0] THi)
  have hK := hk1.trans hk2
  have HI := Lib.hid (hI.stay hK); have HK := Lib.hid hK; have HBN := Lib.hid hbN
  obtain ⟨b0, b1, -⟩ := blk2 (hk2.blk hb1)
  have hNB : B + 1 = N := by omega
  have HNW := Lib.hid (show w.heap.size ≤ N ∧ N < V.heap.size ∧ w.heap.size ≤ V.heap.size by omega)
  have hBN : ¬ B = N := by omega
  have z0 : ∀ w', KeepBut (fun x => x = N) V.drew w' → w'.cell? ⟨B, 0, none⟩ = some (.slice pk ks.length ck) := fun w' h => keep_cell ((KeepBut.drew _ V).trans h) b0 hBN
  have z1 : ∀ w', KeepBut (fun x => x = N) V.drew w' → w'.cell? ⟨B, 1, none⟩ = some (.slice pc cs.length cc) := fun w' h => keep_cell ((KeepBut.drew _ V).trans h) b1 hBN
  have HPK := Lib.hid (show ∀ w', KeepBut (fun x => x = N) V.drew w' → Rd w' pk (ints ks) ∧ RowC w' pc cs from fun w' h => by
    have hne2 : ∀ b, b < w.heap.size → ¬ b = N := fun b hb e => by have := HNW.out; omega
    have hkk := (KeepBut.drew (fun x => x = N) V).trans h
    refine ⟨hI.rd.keep_from hK hkk hne2, rowC_of_rd ((rd_of_rowC hI.calls).keep_from hK hkk hne2)⟩)
  have HNE := Lib.hid hne
  have HK8 := Lib.hid hI.k8; have HC6 := Lib.hid hI.c60
  unfold histV
  clear hI hne hb1 hbN hk1 hk2 hs1 hs2 hK b0 b1 hBN
  go_enter Tryd.func18, Tryd.ntmps18
  go_upto_region 1 with fail
  rw [← hV1, ← hB0, ← hV, hNB]
  clear hV1 hB0 hV hN hNB
  refine wp_own1 (by kernel_rfl) N _ HBN.out (fun i => [[], [0], [0, 1], [], [3], [0, 1, 2, 3, 4], [0, 1, 2, 3, 4, 5], [0, 1, 2, 3, 4, 5, 6]].getD i []) (fun i => if i = 7 then [8] else []) (fun i => if i = 7 then [8] else []) [2, 5, 7] (by kernel_rfl)
    (fun i => if i = 2 then some (sOwnI 3 ks) else if i = 5 then some { val := fun _ g => .slice (some ⟨g.b, 0, none⟩) cs.length g.c, fp := fun _ g k => k = g.b, post := fun _ g w => RowB w g.b g.c cs } else if i = 7 then some (sPut N THi) else none) ?_
  apply lex_quiet rfl rfl
  · intro w' hk; go_simp; with_reducible rfl
  simp only [Act.put, List.setIfInBounds_toArray, List.set_cons_zero, List.set_cons_succ]
  apply lex_quiet rfl rfl
  · intro w' hk; go_simp; with_reducible rfl
  simp only [Act.put, List.setIfInBounds_toArray, List.set_cons_zero, List.set_cons_succ]
  refine lex_loud rfl rfl (loud_call 15 #[.slice pk ks.length ck] (fun w => by kernel_rfl) ⟨default, trivial⟩ (fun g _ => stable_ownI _ _ _ _ _) fun w' hk _ _ => (ownInt_any w' pk ck ks (HPK.out w' hk).1 (by have := HK8.out; omega)).mono ?_) fun g2 _ => ?_
  · rintro e w'' ⟨p', c', rfl, ho, hq⟩
    exact ⟨{ p := p', c := c' }, trivial, rfl, hq.mono fun _ e => e.elim, fun b ⟨a, h1, h2⟩ => by have := ho.lt a h1; exact ⟨.inl (by omega), by omega⟩, ho.base fun _ _ => Nat.zero_le _⟩
  simp only [sOwnI, sPut, Act.put, List.setIfInBounds_toArray, List.set_cons_zero, List.set_cons_succ]
  apply lex_quiet rfl rfl
  · intro w' hk; go_simp; with_reducible rfl
  simp only [Act.put, List.setIfInBounds_toArray, List.set_cons_zero, List.set_cons_succ]
  apply lex_quiet rfl rfl
  · intro w' hk; go_simp; with_reducible rfl
  simp only [Act.put, List.setIfInBounds_toArray, List.set_cons_zero, List.set_cons_succ]
  refine lex_loud rfl rfl (loud_call 39 #[.slice pc cs.length cc] (fun w => by kernel_rfl) ⟨default, trivial⟩ (fun g _ w w' _ _ _ h k => k.of_same (h g.b rfl)) fun w' hk _ _ => (ownCall_any w' pc cc cs (HPK.out w' hk).2 (by have := HC6.out; omega) HNE.out).mono ?_) fun g5 _ => ?_
  · rintro e w'' ⟨g, cap, rfl, ho, hge, hq⟩
    exact ⟨{ b := g, c := cap }, trivial, rfl, hq.mono fun _ e => e.elim, fun b hb => by have hb : b = g := hb; exact ⟨.inl (by omega), by rw [hb]; exact ho.lt⟩, ho⟩
  simp only [sPut, Act.put, List.setIfInBounds_toArray, List.set_cons_zero, List.set_cons_succ]
  apply lex_quiet rfl rfl
  · intro w' hk; go_simp; with_reducible rfl
  simp only [Act.put, List.setIfInBounds_toArray, List.set_cons_zero, List.set_cons_succ]
  refine lex_loud rfl rfl (loud_put N THi THi #[.slice g2.p ks.length g2.c, .slice (some ⟨g5.b, 0, none⟩) cs.length g5.c] _ (.tmp 2) (.tmp 9) rfl rfl rfl 8 (by decide) (by decide) (fun w h => h) ⟨rfl, rfl⟩ rfl (by kernel_rfl) (by simp [Value.oneCell'])) fun g7 _ => ?_
  simp only [sPut, Act.put, List.setIfInBounds_toArray, List.set_cons_zero, List.set_cons_succ]
  refine lex_nil ?_
  intro w9 hk hF hdis
  have f2 : OwnI 3 0 w9 g2.p g2.c ks := (hF 2 (by decide)).1
  have b2 : ∀ b, Of g2.p b → b < w9.heap.size ∧ (V.heap.size ≤ b ∨ b = N) := (hF 2 (by decide)).2
  have f5 : RowB w9 g5.b g5.c cs := (hF 5 (by decide)).1
  have b5 : g5.b < w9.heap.size ∧ (V.heap.size ≤ g5.b ∨ g5.b = N) := (hF 5 (by decide)).2 g5.b rfl
  have f7 : w9.heap[N]? = some (.cells #[.slice g2.p ks.length g2.c, .slice (some ⟨g5.b, 0, none⟩) cs.length g5.c] THi (0, 0)) := (hF 7 (by decide)).1 _ (put_args rfl rfl)
  have c0 := blk_cell (k := 0) f7 rfl
  have c1 := blk_cell (k := 1) f7 rfl
  have HFIN := Lib.hid (show OwnHistDone ks cs w (.returned (.agg #[.slice g2.p ks.length g2.c, .slice (some ⟨g5.b, 0, none⟩) cs.length g5.c])) w9 from
    ⟨g2.p, g2.c, g5.b, g5.c, rfl, f2.rd, f5, by have := HNW.out; omega, fun a ha => ⟨by
      have := (b2 a.block ⟨a, ha, rfl⟩).2
      have := HNW.out
      omega, fun e => hdis 2 (by decide) 5 (by decide) (by decide) a.block ⟨a, ha, rfl⟩ e⟩, HK.out.new ((KeepBut.drew _ V).trans hk) fun b e => by have e : b = N := e; have := HNW.out; omega⟩)
  clear hF hdis f2 b2 f5 b5 f7 hk z0 z1
  go_wp2_with fail
  exact bodyPost_ret (v := .agg #[.slice g2.p ks.length g2.c, .slice (some ⟨g5.b, 0, none⟩) cs.length g5.c]) (by simp [results, Tryd.results18, go_sem, c0, c1]) rfl HFIN.out

end Go.Proofs.YtoolpifkfgileaaDoor

/-
  Package hist: Turns.
-/
namespace Go.Proofs.YtoolpifkfgileaaDoor
open Go Go.RowKit Own

abbrev TTu : TypeId := 62
theorem info_turn : (Tryd.prog.info? TTu).map (fun i => (i.zero, i.size, i.bytes)) = some (some (.agg #[.int .i64 0, .bool false]), 2, 16) := by kernel_rfl
theorem turns_ty : Tryd.prog.underlying 63 = some (.slice TTu) := by kernel_rfl

def turnOf (c : Cl) : Int × Bool := (c.hart, c.till != -1 && c.code == 2)
def cellsT (l : List (Int × Bool)) : List Value := l.flatMap fun t => [.int .i64 t.1, .bool t.2]
theorem cellsT_length (l : List (Int × Bool)) : (cellsT l).length = l.length * 2 := by
  unfold cellsT
  induction l with
  | nil => rfl
  | cons x l ih => rw [List.flatMap_cons, List.length_append, ih, List.length_cons, List.length_cons, List.length_cons, List.length_nil]; omega
theorem cellsT_snoc (l : List (Int × Bool)) (x : Int × Bool) : cellsT (l ++ [x]) = cellsT l ++ [.int .i64 x.1, .bool x.2] := by simp [cellsT]
def turnsOf (cs : List Cl) (ol : List Int) : List (Int × Bool) := ol.map fun x => turnOf (nthC cs x.toNat)
theorem turnsOf_snoc {cs : List Cl} {ol : List Int} {i : Nat} (hi : i < ol.length) : turnsOf cs (ol.take (i + 1)) = turnsOf cs (ol.take i) ++ [turnOf (nthC cs (nth ol i).toNat)] := by
  unfold turnsOf
  rw [List.take_succ_eq_append_getElem hi, List.map_append, nth_eq hi]
  rfl

def TurnsDone (cs : List Cl) (ol : List Int) (w : World) (e : Ending) (w' : World) : Prop := ∃ p c, e = .returned (.slice p (List.length ol) c) ∧ Rd w' p (cellsT (turnsOf cs ol)) ∧ KeepBut (fun _ => False) w w'

set_option maxRecDepth 100000 in
set_option maxHeartbeats 16000000 in
theorem turns_any (w : World) (pk pc : Option Addr) (ck cc : Nat) (ks : List Int) (cs : List Cl) (hI : HistIn w pk pc ks cs) (po : Option Addr) (co : Nat) (ol : List Int) (hO : Rd w po (ints ol)) (hol : ol.length ≤ 16777216) (hA : AllowedP ks cs ol) :
    Calls Tryd.prog 28 #[histV pk pc ck cc ks cs, .slice po ol.length co] w fun e w' => TurnsDone cs ol w e w' := by
  obtain ⟨V, B, hV, hB, hb, hkV, hsV⟩ := fresh_block w (.cells #[.slice pk ks.length ck, .slice pc cs.length cc] THi)
  obtain ⟨b0, b1, -⟩ := blk2 hb
  have HT := Lib.hid (allowed_any V pk pc ck cc ks cs (hI.stay hkV) po co ol (hO.stay hkV) (by omega))
  have HK := Lib.hid hkV; have HB := Lib.hid hb; have HA := Lib.hid hA
  have HI := Lib.hid (hI.stay hkV); have HO := Lib.hid (hO.stay hkV)
  have HIX := Lib.hid (show ∀ i, i < ol.length → ∃ n : Nat, nth ol i = n ∧ n < cs.length by
    obtain ⟨h0, o, h1, h2⟩ := hA
    have h3 := ord_of o (chkH_ok.1 h0).2 h2
    intro i hi
    rw [← h1] at hi ⊢
    rw [natI_length] at hi
    refine ⟨o[i], ?_, h3.lt _ (List.getElem_mem hi)⟩
    rw [nth_eq (by rw [natI_length]; exact hi)]
    simp [natI])
  obtain ⟨i0, hi, hz0, hz1, hz2⟩ := info_parts info_turn
  have HI0 := Lib.hid hi; have HZ0 := Lib.hid hz0; have HZ1 := Lib.hid hz1; have HZ2 := Lib.hid hz2
  have hc60 := hI.c60
  unfold histV at HT ⊢
  clear hI hb hkV hsV hO hA hi hz0 hz1 hz2
  go_enter Tryd.func28, Tryd.ntmps28
  go_upto_region 1 with fail
  rw [← hV, ← hB]
  clear hV hB
  go_upto_region 3 with (go_at_call 19; refine HT.out.mono ?_; rintro e w2 ⟨v, rfl, hv, hk⟩; have hv2 := hv.2 HA.out; clear hv; subst hv2; have HK2 := Lib.hid hk; clear hk)
  clear b0 b1
  go_wp2_with fail
  go_loopw [5, 15] (fun v5 v15 wr => ∃ i : Nat, v15 = .int .i64 i ∧ i ≤ ol.length ∧ wr.ownsRow w2.heap.size TTu 2 v5 i (cellsT (turnsOf cs (ol.take i))) ∧ KeepBut (fun _ => False) w2 wr) (fun _ v _ => ol.length - (intOf v).toNat)
  case atStart => exact ⟨0, rfl, Nat.zero_le _, World.ownsRow_nil _ _ _ _, KeepBut.refl _ _⟩
  case round =>
    obtain ⟨i, rfl, hi, hrow, hk⟩ := hrel
    have HROW := Lib.hid hrow; have HKR := Lib.hid hk
    have hws := hk.size
    obtain ⟨b0, b1, -⟩ := blk2 ((HK2.out.trans hk).blk HB.out)
    by_cases hlt : i < ol.length
    · have hlti : (i : Int) < ol.length := by omega
      have hi0 : (0 : Int) ≤ i := by omega
      have hWi : IntKind.i64.wrap ((i : Int) + 1) = (i : Int) + 1 := IntWalk.i64_in _ (by omega)
      obtain ⟨n, hn, hnc⟩ := HIX.out i hlt
      have HN := Lib.hid hn
      obtain ⟨b, o, hp, -⟩ := HO.out.ptr (by rw [ints_length]; omega)
      subst hp
      have hc := (HO.out.stay (HK2.out.trans hk)).int i hlt
      rw [hn] at hc
      have hn0 : (0 : Int) ≤ n := by omega
      have hnci : (n : Int) < cs.length := by omega
      obtain ⟨g, o', hg, x0, x1, x2, x3, x4, x5, x6, x7⟩ := (HI.out.stay (HK2.out.trans hk)).calls n hnc
      subst hg
      obtain ⟨V9, B9, hV9, hB9, hb9, hk9, hs9⟩ := fresh_block wr (.cells (nthC cs n).vals.toArray TCl)
      have hv9 : (nthC cs n).vals.toArray = #[.int .i64 (nthC cs n).hart, .int .i64 (nthC cs n).cont, .int .i64 (nthC cs n).op, .int .i64 (nthC cs n).arg, .int .i64 (nthC cs n).beg, .int .i64 (nthC cs n).till, .int .i64 (nthC cs n).value, .int .i64 (nthC cs n).code] := rfl
      rw [hv9] at hV9 hb9
      have HK9 := Lib.hid hk9; have HB9 := Lib.hid hb9
      have HSN := Lib.hid (show turnsOf cs (ol.take (i + 1)) = turnsOf cs (ol.take i) ++ [turnOf (nthC cs n)] by rw [turnsOf_snoc hlt, HN.out]; rfl)
      have hVS : w2.heap.size ≤ V9.heap.size := by have := hk9.size; omega
      clear hrow hk hn hv9 hk9 hb9
      go_upto_region 8 with fail
      rw [← hV9, ← hB9]
      clear hV9 hB9 x0 x1 x2 x3 x4 x5 x6 x7 b0 b1 hc hs9
      obtain ⟨c0, c1, c2, c3, c4, c5, c6, c7⟩ := blk8 HB9.out
      by_cases ht : (nthC cs n).till = -1
      · have q1 : ((nthC cs n).till != -1) = false := by simp [ht]
        clear c1 c2 c3 c4 c6
        have HT1 := Lib.hid ht
        clear ht
        have HTF := Lib.hid (show turnOf (nthC cs n) = ((nthC cs n).hart, false) by unfold turnOf; simp [HT1.out])
        go_wp2_with (at_builtin; go_loud (refine wpList_append_own _ rfl (.tmp 24) (.tmp 36) 63 rfl w2.heap.size TTu i0 _ 2 16 turns_ty HI0.out HZ0.out HZ1.out HZ2.out rfl (by decide) u5 i (cellsT (turnsOf cs (ol.take i))) rfl ((row_keep HROW.out HK9.out).alloc _) ⟨V9.heap.size, 0, none⟩ 1 1 [.int .i64 (nthC cs n).hart, .bool false] rfl rfl (cellsAt (heap_alloc_new V9 _)) (by simp [Value.oneCell']) (by unfold maxLen; omega) (by omega) (by rw [World.size_alloc]; omega) ?_)
                     intro v' w' h1 h2 _
                     have H1 := Lib.hid h1; have H2 := Lib.hid h2
                     clear h1 h2)
        refine ⟨⟨i + 1, by simp, by omega, ?_, ?_⟩, by simp only [intOf]; omega⟩
        · rw [HSN.out, cellsT_snoc, HTF.out]; exact H1.out
        · exact ((HKR.out.trans HK9.out).trans (KeepBut.alloc (fun _ => False) V9 (.cells #[.int .i64 (nthC cs n).hart, .bool false] TTu))).new (KeepBut.grown (E := fun j => u5.ownBlock = some j) H2.out fun _ e => e) fun j hj => (HROW.out.lt j hj).1
      · have q1 : ((nthC cs n).till != -1) = true := by simpa using ht
        have HT1 := Lib.hid q1
        clear c1 c2 c3 c4 c6
        by_cases hd : (nthC cs n).code = 2
        · have q2 : ((nthC cs n).code == 2) = true := by simpa using hd
          have HT2 := Lib.hid q2
          clear hd
          have HTF := Lib.hid (show turnOf (nthC cs n) = ((nthC cs n).hart, true) by unfold turnOf; rw [HT1.out, HT2.out]; rfl)
          go_wp2_with (at_builtin; go_loud (refine wpList_append_own _ rfl (.tmp 24) (.tmp 36) 63 rfl w2.heap.size TTu i0 _ 2 16 turns_ty HI0.out HZ0.out HZ1.out HZ2.out rfl (by decide) u5 i (cellsT (turnsOf cs (ol.take i))) rfl ((row_keep HROW.out HK9.out).alloc _) ⟨V9.heap.size, 0, none⟩ 1 1 [.int .i64 (nthC cs n).hart, .bool true] rfl rfl (cellsAt (heap_alloc_new V9 _)) (by simp [Value.oneCell']) (by unfold maxLen; omega) (by omega) (by rw [World.size_alloc]; omega) ?_)
                       intro v' w' h1 h2 _
                       have H1 := Lib.hid h1; have H2 := Lib.hid h2
                       clear h1 h2)
          refine ⟨⟨i + 1, by simp, by omega, ?_, ?_⟩, by simp only [intOf]; omega⟩
          · rw [HSN.out, cellsT_snoc, HTF.out]; exact H1.out
          · exact ((HKR.out.trans HK9.out).trans (KeepBut.alloc (fun _ => False) V9 (.cells #[.int .i64 (nthC cs n).hart, .bool true] TTu))).new (KeepBut.grown (E := fun j => u5.ownBlock = some j) H2.out fun _ e => e) fun j hj => (HROW.out.lt j hj).1
        · have q2 : ((nthC cs n).code == 2) = false := by simpa using hd
          have HT2 := Lib.hid q2
          clear hd
          have HTF := Lib.hid (show turnOf (nthC cs n) = ((nthC cs n).hart, false) by unfold turnOf; rw [HT1.out, HT2.out]; rfl)
          go_wp2_with (at_builtin; go_loud (refine wpList_append_own _ rfl (.tmp 24) (.tmp 36) 63 rfl w2.heap.size TTu i0 _ 2 16 turns_ty HI0.out HZ0.out HZ1.out HZ2.out rfl (by decide) u5 i (cellsT (turnsOf cs (ol.take i))) rfl ((row_keep HROW.out HK9.out).alloc _) ⟨V9.heap.size, 0, none⟩ 1 1 [.int .i64 (nthC cs n).hart, .bool false] rfl rfl (cellsAt (heap_alloc_new V9 _)) (by simp [Value.oneCell']) (by unfold maxLen; omega) (by omega) (by rw [World.size_alloc]; omega) ?_)
                       intro v' w' h1 h2 _
                       have H1 := Lib.hid h1; have H2 := Lib.hid h2
                       clear h1 h2)
          refine ⟨⟨i + 1, by simp, by omega, ?_, ?_⟩, by simp only [intOf]; omega⟩
          · rw [HSN.out, cellsT_snoc, HTF.out]; exact H1.out
          · exact ((HKR.out.trans HK9.out).trans (KeepBut.alloc (fun _ => False) V9 (.cells #[.int .i64 (nthC cs n).hart, .bool false] TTu))).new (KeepBut.grown (E := fun j => u5.ownBlock = some j) H2.out fun _ e => e) fun j hj => (HROW.out.lt j hj).1
    · have hnl : ¬ (i : Int) < ol.length := by omega
      have e : i = ol.length := by omega
      subst e
      rw [List.take_length] at hrow
      obtain ⟨p, c, rfl, hrd, -⟩ := Rd.of_owns hrow
      have HRD := Lib.hid hrd
      clear hrow hrd hk
      go_wp2_with fail
      go_ret
      exact ⟨p, c, rfl, HRD.out, HK.out.trans (HK2.out.trans HKR.out)⟩

end Go.Proofs.YtoolpifkfgileaaDoor

/-
  Helpers of the statements: Same[int], Same[Turn].
-/
namespace Go.Proofs.YtoolpifkfgileaaDoor
open Go Go.RowKit Own

set_option maxHeartbeats 2000000 in
/-- fencepostkit.Same -/
theorem sameInt_any (w : World) (p q : Option Addr) (c d : Nat) (xs ys : List Int) (hx : Rd w p (ints xs)) (hy : Rd w q (ints ys)) (hlx : xs.length ≤ 1099511627776) (hly : ys.length ≤ 1099511627776) :
    Calls Tryd.prog 25 #[.slice p xs.length c, .slice q ys.length d] w fun e w' => e = .returned (.bool (decide (xs = ys))) ∧ KeepBut (fun _ => False) w w' := by
  by_cases hl : xs.length = ys.length
  · by_cases h0 : xs.length = 0
    · have h1 : xs = [] := List.eq_nil_of_length_eq_zero h0
      have h2 : ys = [] := List.eq_nil_of_length_eq_zero (by omega)
      subst h1 h2
      clear hx hy hl h0 hlx hly
      go_enter Tryd.func25, Tryd.ntmps25
      go_wp2_with fail
      go_loopw [5] (fun i wr => i = .int .i64 0 ∧ KeepBut (fun _ => False) w wr) (fun _ _ => 0)
      case atStart => exact ⟨rfl, KeepBut.refl _ w⟩
      case round =>
        obtain ⟨rfl, hd⟩ := hrel
        go_wp2_with fail
        go_ret
        exact ⟨rfl, hd⟩
    · obtain ⟨b, o, rfl, _⟩ := hx.ptr (by rw [ints_length]; omega)
      obtain ⟨b', o', rfl, _⟩ := hy.ptr (by rw [ints_length]; omega)
      have HX := Lib.hid hx; have HY := Lib.hid hy
      have hlI : (ys.length : Int) = xs.length := by omega
      have HL := Lib.hid hl
      clear hx hy hl h0
      go_enter Tryd.func25, Tryd.ntmps25
      go_wp2_with fail
      go_loopw [5] (fun i wr => ∃ k : Nat, k ≤ xs.length ∧ i = .int .i64 k ∧ agree xs ys k ∧ KeepBut (fun _ => False) w wr) (fun i _ => xs.length - (intOf i).toNat)
      case atStart => exact ⟨0, Nat.zero_le _, rfl, fun j hj => by omega, KeepBut.refl _ w⟩
      case round =>
        obtain ⟨k, hk, rfl, hag, hd⟩ := hrel
        have HA := Lib.hid hag; have HD := Lib.hid hd
        clear hag hd
        by_cases hlt : k < xs.length
        · have hltI : (k : Int) < (xs.length : Int) := by omega
          have c1 : ∀ w', KeepBut (fun _ => False) wr.drew w' → w'.cell? ⟨b, o + k, none⟩ = some (.int .i64 (nth xs k)) := fun w' h => (HX.out.stay ((HD.out.trans (KeepBut.drew _ wr)).trans h)).int k hlt
          have c2 : ∀ w', KeepBut (fun _ => False) wr.drew w' → w'.cell? ⟨b', o' + k, none⟩ = some (.int .i64 (nth ys k)) := fun w' h => (HY.out.stay ((HD.out.trans (KeepBut.drew _ wr)).trans h)).int k (by have := HL.out; omega)
          have h0k : (0 : Int) ≤ k := by omega
          have hW : IntKind.i64.wrap ((k : Int) + 1) = k + 1 := IntWalk.i64_in _ (by omega)
          by_cases heq : nth xs k = nth ys k
          · have hag' := Lib.hid (show agree xs ys (k + 1) from fun j hj => by
              rcases Nat.lt_or_ge j k with h | h
              · exact HA.out j h
              · rw [show j = k by omega]; exact heq)
            have hb : (nth xs k != nth ys k) = false := by simp [heq]
            clear heq
            go_upto_region 6 with fail
            refine wp_own0 (by kernel_rfl) (fun i => [[], [], [0, 1], [0, 1, 2], [], [], [4, 5], [4, 5, 6], [0, 1, 2, 3, 4, 5, 6, 7]].getD i []) (fun _ => []) (fun _ => []) [] (by kernel_rfl) (fun _ => none) ?_
            repeat
              apply lex_quiet rfl rfl
              · intro w' hk; go_simp; with_reducible rfl
              simp only [Act.put, List.setIfInBounds_toArray, List.set_cons_zero, List.set_cons_succ]
            refine lex_nil ?_
            intro w1 hk1 _ _
            have HD1 : Hid (KeepBut (fun _ => False) w w1) := (HD.out.trans (KeepBut.drew _ wr)).trans hk1
            clear c1 c2 hk1
            go_wp2_with fail
            refine ⟨⟨k + 1, by omega, by simp, hag'.out, HD1.out⟩, ?_⟩
            simp only [intOf]
            omega
          · have hne := Lib.hid (show decide (xs = ys) = false by simpa using agree_not heq)
            have hb : (nth xs k != nth ys k) = true := by simp [heq]
            clear heq
            go_upto_region 6 with fail
            refine wp_own0 (by kernel_rfl) (fun i => [[], [], [0, 1], [0, 1, 2], [], [], [4, 5], [4, 5, 6], [0, 1, 2, 3, 4, 5, 6, 7]].getD i []) (fun _ => []) (fun _ => []) [] (by kernel_rfl) (fun _ => none) ?_
            repeat
              apply lex_quiet rfl rfl
              · intro w' hk; go_simp; with_reducible rfl
              simp only [Act.put, List.setIfInBounds_toArray, List.set_cons_zero, List.set_cons_succ]
            refine lex_nil ?_
            intro w1 hk1 _ _
            have HD1 : Hid (KeepBut (fun _ => False) w w1) := (HD.out.trans (KeepBut.drew _ wr)).trans hk1
            clear c1 c2 hk1
            go_wp2_with fail
            go_ret
            exact ⟨ret_bool hne.out.symm, HD1.out⟩
        · have he := Lib.hid (show decide (xs = ys) = true by simpa using agree_all HL.out (by rw [show xs.length = k by omega]; exact HA.out))
          have hge : ¬ (k : Int) < (xs.length : Int) := by omega
          go_wp2_with fail
          go_ret
          exact ⟨ret_bool he.out.symm, HD.out⟩
  · have he := Lib.hid (show decide (xs = ys) = false by simpa using fun e => hl (by rw [e]))
    have hb : ((xs.length : Int) != (ys.length : Int)) = true := by simp; omega
    clear hx hy hl
    go_enter Tryd.func25, Tryd.ntmps25
    go_wp2_with fail
    go_ret
    exact ⟨ret_bool he.out.symm, KeepBut.refl _ _⟩

theorem cellsT_at : ∀ (l : List (Int × Bool)) (i k : Nat) (h : i < l.length), k < 2 → (cellsT l)[i * 2 + k]? = ([Value.int .i64 l[i].1, .bool l[i].2])[k]?
  | x :: l, 0, k, _, hk => by
    show (([Value.int .i64 x.1, .bool x.2]) ++ cellsT l)[0 * 2 + k]? = _
    rw [Nat.zero_mul, Nat.zero_add, List.getElem?_append_left (by simpa using hk)]
    rfl
  | x :: l, i + 1, k, h, hk => by
    show (([Value.int .i64 x.1, .bool x.2]) ++ cellsT l)[(i + 1) * 2 + k]? = _
    rw [List.getElem?_append_right (by simp; omega)]
    have e : (i + 1) * 2 + k - ([Value.int .i64 x.1, .bool x.2]).length = i * 2 + k := by simp; omega
    rw [e, cellsT_at l i k (by simpa using h) hk]
    rfl
theorem rdT_cells {w : World} {p : Option Addr} {l : List (Int × Bool)} (h : Rd w p (cellsT l)) (i : Nat) (hi : i < l.length) :
    ∃ g o, p = some ⟨g, o, none⟩ ∧ w.cell? ⟨g, o + i * 2, none⟩ = some (.int .i64 l[i].1) ∧ w.cell? ⟨g, o + i * 2 + 1, none⟩ = some (.bool l[i].2) := by
  obtain ⟨b, o, hp, h0⟩ := h (i * 2 + 0) _ (cellsT_at l i 0 hi (by decide))
  obtain ⟨b', o', hp', h1⟩ := h (i * 2 + 1) _ (cellsT_at l i 1 hi (by decide))
  rw [hp] at hp'
  cases hp'
  exact ⟨b, o, hp, h0, by rw [Nat.add_assoc]; exact h1⟩

theorem eqT (a : Int) (b : Bool) (w : World) : (Op.equalIn 10000 TTu (.agg #[.int .i64 a, .bool b]) (.agg #[.int .i64 a, .bool b])).run Tryd.prog w = .ok true w := by
  have u3 := Tryd.underlying3; have a3 := Tryd.isAgg3; have z3 := Tryd.sizeOf3
  have u9 := Tryd.underlying4; have a9 := Tryd.isAgg4; have z9 := Tryd.sizeOf4
  have hS : Tryd.prog.underlying TTu = some (.struct (Tryd.prog.fieldsOf TTu)) := by kernel_rfl
  rw [show (10000 : Nat) = 9999 + 1 from rfl, run_equalIn_agg w 9999 TTu _ _ hS (by kernel_rfl)]
  simp only [Program.fieldsOf, Tryd.underlying62]
  go_simp

set_option maxHeartbeats 4000000 in
theorem sameTurn_any (w : World) (p q : Option Addr) (c d : Nat) (l : List (Int × Bool)) (hx : Rd w p (cellsT l)) (hy : Rd w q (cellsT l)) (hl : l.length ≤ 1099511627776) :
    Calls Tryd.prog 27 #[.slice p l.length c, .slice q l.length d] w fun e w' => e = .returned (.bool true) ∧ KeepBut (fun _ => False) w w' := by
  have HX := Lib.hid hx; have HY := Lib.hid hy
  clear hx hy
  go_enter Tryd.func27, Tryd.ntmps27
  go_wp2_with fail
  go_loopw [5] (fun i wr => ∃ k : Nat, k ≤ l.length ∧ i = .int .i64 k ∧ KeepBut (fun _ => False) w wr) (fun i _ => l.length - (intOf i).toNat)
  case atStart => exact ⟨0, Nat.zero_le _, rfl, KeepBut.refl _ w⟩
  case round =>
    obtain ⟨k, hk, rfl, hd⟩ := hrel
    have HD := Lib.hid hd
    by_cases hlt : k < l.length
    · have hltI : (k : Int) < (l.length : Int) := by omega
      have h0k : (0 : Int) ≤ k := by omega
      have hW : IntKind.i64.wrap ((k : Int) + 1) = k + 1 := IntWalk.i64_in _ (by omega)
      obtain ⟨g, o, hp, x0, x1⟩ := rdT_cells (HX.out.stay hd) k hlt
      obtain ⟨g', o', hq, y0, y1⟩ := rdT_cells (HY.out.stay hd) k hlt
      subst hp; subst hq
      obtain ⟨⟨ta, tb⟩, ht⟩ : ∃ t, l[k] = t := ⟨_, rfl⟩
      rw [ht] at x0 x1 y0 y1
      dsimp only at x0 x1 y0 y1
      have heq : ∀ n, (binOp .neq TTu (.agg #[.int .i64 ta, .bool tb]) (.agg #[.int .i64 ta, .bool tb])).run Tryd.prog (wr.drewN n) = .ok (.bool false) (wr.drewN n) := fun n => by
        have h9 := eqT ta tb (wr.drewN n)
        simp only [binOp, Op.equal, Op.maxDepth, Sem.run_bind, h9, Result.andThen_ok]
        rfl
      clear ht hd
      go_upto_region 6 with fail
      go_quiet (fail)
      go_wp2_with fail
      exact ⟨⟨k + 1, by omega, by simp, HD.out.trans (KeepBut.drewN _ _ _)⟩, by simp only [intOf]; omega⟩
    · have hnl : ¬ (k : Int) < (l.length : Int) := by omega
      go_wp2_with fail
      go_ret
      exact ⟨rfl, HD.out⟩

end Go.Proofs.YtoolpifkfgileaaDoor

/-
  Chapter 29: HistNames: the walk.
-/
namespace Go.Proofs.YtoolpifkfgileaaDoor
open Go Go.RowKit Own

/-- the chapter's third history: the push is pending -/
def pendC : List Cl := [⟨0, 0, 1, 1, 0, -1, 0, 0⟩, ⟨1, 0, 2, 0, 1, 2, 1, 1⟩]
theorem lin_6 : LinH [1] pendC := lin_of (o := [0, 1]) (mayH_iff.1 (by decide +kernel)) (by decide) (by decide +kernel)
theorem ords_4 : ords (threeC 3 1 2 1 1) 2 0 (startP [1]) = [[0, 1]] := by decide +kernel
theorem ords_6 : ords pendC 2 0 (startP [1]) = [[0, 1]] := by decide +kernel
theorem chk_2 : chkH [1] (threeC 1 2 3 0 0) = 0 := by decide +kernel
theorem chk_bad1 : chkH [1] (threeC 0 1 2 0 0) = 2 := by decide +kernel
theorem chk_bad2 : chkH [1] (threeC 3 3 4 0 0) = 2 := by decide +kernel
theorem chk_4 : chkH [1] (threeC 3 1 2 1 1) = 0 := by decide +kernel
theorem fold_4 : foldC (startP [1]) ([0, 1].map (nthC (threeC 3 1 2 1 1))) = some [(1, [])] := by decide +kernel
theorem allow_4 : AllowedP [1] (threeC 3 1 2 1 1) [0, 1] := ⟨chk_4, [0, 1], rfl, by decide +kernel⟩
theorem allow_no1 : ¬ AllowedP [1] (threeC 3 1 2 1 1) [1, 0] := by
  rintro ⟨-, o, h1, h2⟩
  have h3 : o = [1, 0] := natI_inj h1
  subst h3
  exact absurd h2 (by decide +kernel)
theorem allow_no2 : ¬ AllowedP [1] (threeC 3 1 2 1 1) [0, 0, 1] := by
  rintro ⟨-, o, h1, h2⟩
  have h3 : o = [0, 0, 1] := natI_inj h1
  subst h3
  exact absurd h2 (by decide +kernel)

def Ord01 (w : World) (e : Ending) (w' : World) : Prop := ∃ q c, e = .returned (.tuple #[.slice q 2 c, .int .i64 0]) ∧ Rd w' q (ints [0, 1]) ∧ KeepBut (fun _ => False) w w'
theorem ord01_of {cs : List Cl} {W w' : World} {e : Ending} (hl : LinH [1] cs) (hc : cs.length = 2) (ho : ords cs 2 0 (startP [1]) = [[0, 1]]) (h : OrderDone [1] cs W e w') : Ord01 W e w' := by
  obtain ⟨q, c, o, er, rfl, h1, h2, -, -, h5, h6⟩ := order_lin h
  have h3 : er = 0 := by simpa using h1.2 hl
  have h4 := (h2 h3).2
  have h7 := ord_all (by omega) h4
  rw [hc, ho] at h7
  have h8 : o = [0, 1] := by simpa using h7
  subst h8
  subst h3
  exact ⟨q, c, rfl, h5, h6⟩
def OrdNone (w : World) (e : Ending) (w' : World) : Prop := ∃ q c, e = .returned (.tuple #[.slice q 0 c, .int .i64 6]) ∧ KeepBut (fun _ => False) w w'
theorem ordNone_of {cs : List Cl} {W w' : World} {e : Ending} (hl : ¬ LinH [1] cs) (hc : chkH [1] cs = 0) (h : OrderDone [1] cs W e w') : OrdNone W e w' := by
  obtain ⟨q, c, o, er, rfl, h1, -, h3, h4, -, h6⟩ := order_lin h
  have h7 : er ≠ 0 := fun e => hl (h1.1 (by simpa using e))
  have h8 := h3 h7
  have h9 := h4 hc h7
  subst h8
  subst h9
  exact ⟨q, c, rfl, h6⟩

def Built (w : World) (e : Ending) (w' : World) (v : Bool) : Prop := e = .returned (.bool v) ∧ KeepBut (fun _ => False) w w'

theorem rd_built (W : World) (T : TypeId) (xs : List Int) : Rd (W.alloc (.cells (ints xs).toArray T)) (some ⟨W.heap.size, 0, none⟩) (ints xs) := fun j u hj => ⟨W.heap.size, 0, rfl, by
  rw [Nat.zero_add]
  exact blk_cell (heap_alloc_new W _) (by simpa using hj)⟩

theorem rd_builtV (W : World) (T : TypeId) (vs : Array Value) : Rd (W.alloc (.cells vs T)) (some ⟨W.heap.size, 0, none⟩) vs.toList := fun j u hj => ⟨W.heap.size, 0, rfl, by
  rw [Nat.zero_add]
  exact blk_cell (heap_alloc_new W _) (by simpa using hj)⟩
theorem content_names (W : World) (q : Option Addr) (c : Nat) : Calls Tryd.prog 22 #[.agg #[.int .i64 1, .slice q 0 c], .agg #[.int .i64 1, .slice none 0 0]] W fun e w' => Built W e w' true :=
  (content_any W 1 1 q none c 0 [] [] (Rd.empty _ _) (Rd.empty _ _) (by decide) (by decide)).mono fun e w' h => ⟨h.1, h.2⟩
theorem same01 (W : World) (q p : Option Addr) (c d : Nat) (hq : Rd W q (ints [0, 1])) (hp : Rd W p (ints [0, 1])) : Calls Tryd.prog 25 #[.slice q 2 c, .slice p 2 d] W fun e w' => Built W e w' true :=
  (sameInt_any W q p c d [0, 1] [0, 1] hq hp (by decide) (by decide)).mono fun e w' h => ⟨h.1, h.2⟩

theorem ahead_names (W : World) (pk pc : Option Addr) (cs : List Cl) (hc : RowC W pc cs) (hl : cs.length = 2) (v : Bool) (hv : aheadB cs 0 1 = v) : Calls Tryd.prog 26 #[.agg #[.slice pk 1 1, .slice pc 2 2], .int .i64 0, .int .i64 1] W fun e w' => Built W e w' v := by
  have h := ahead_in W pk pc 1 2 [1] cs hc 0 1 (by omega) (by omega)
  rw [hv] at h
  unfold histV at h
  rw [hl] at h
  exact h.mono fun e w' h => ⟨h.1, h.2⟩

theorem three_blk (w : World) (tt fr en v cd : Int) (hT : TabP w) (hB : BitTab w) :
    Calls Tryd.prog 24 #[.int .i64 tt, .int .i64 fr, .int .i64 en, .int .i64 v, .int .i64 cd] w fun e w' => e = .returned (.agg #[.slice (some ⟨w.heap.size + 1, 0, none⟩) 1 1, .slice (some ⟨w.heap.size + 1 + 1, 0, none⟩) 2 2]) ∧
      HistIn w' (some ⟨w.heap.size + 1, 0, none⟩) (some ⟨w.heap.size + 1 + 1, 0, none⟩) [1] (threeC tt fr en v cd) ∧ KeepBut (fun _ => False) w w' ∧
      w'.heap[w.heap.size + 1 + 1]? = some (.cells #[.int .i64 0, .int .i64 0, .int .i64 1, .int .i64 1, .int .i64 0, .int .i64 tt, .int .i64 0, .int .i64 1, .int .i64 1, .int .i64 0, .int .i64 2, .int .i64 0, .int .i64 fr, .int .i64 en, .int .i64 v, .int .i64 cd] TCl (0, 0)) := by
  have HT := Lib.hid hT; have HB := Lib.hid hB
  clear hT hB
  go_enter Tryd.func24, Tryd.ntmps24
  go_wp2_with fail
  refine bodyPost_ret (v := .agg #[.slice (some ⟨w.heap.size + 1, 0, none⟩) 1 1, .slice (some ⟨w.heap.size + 1 + 1, 0, none⟩) 2 2]) (by simp [results, Tryd.results24, go_sem]) rfl ?_
  have h := three_world w (.cells #[.slice (some ⟨w.heap.size + 1, 0, none⟩) 1 1, .slice (some ⟨w.heap.size + 1 + 1, 0, none⟩) 2 2] 25) tt fr en v cd HT.out HB.out
  refine ⟨rfl, h.1, h.2, ?_⟩
  have h9 := heap_alloc_new ((w.alloc (.cells #[.slice (some ⟨w.heap.size + 1, 0, none⟩) 1 1, .slice (some ⟨w.heap.size + 1 + 1, 0, none⟩) 2 2] 25)).alloc (.cells #[.int .i64 1] 3)) (.cells #[.int .i64 0, .int .i64 0, .int .i64 1, .int .i64 1, .int .i64 0, .int .i64 tt, .int .i64 0, .int .i64 1, .int .i64 1, .int .i64 0, .int .i64 2, .int .i64 0, .int .i64 fr, .int .i64 en, .int .i64 v, .int .i64 cd] TCl)
  rw [World.size_alloc, World.size_alloc] at h9
  exact h9

/-- the third history, when its push has no code any more -/
theorem pend_world {w : World} {pk : Option Addr} {B : Nat} (h : HistIn w pk (some ⟨B, 0, none⟩) [1] (threeC (-1) 1 2 1 1))
    (hb : w.heap[B]? = some (.cells #[.int .i64 0, .int .i64 0, .int .i64 1, .int .i64 1, .int .i64 0, .int .i64 (-1), .int .i64 0, .int .i64 1, .int .i64 1, .int .i64 0, .int .i64 2, .int .i64 0, .int .i64 1, .int .i64 2, .int .i64 1, .int .i64 1] TCl (0, 0)))
    (hne : ∀ a, pk = some a → a.block ≠ B) (hT : TabP (w.setCell ⟨B, 7, none⟩ (.int .i64 0))) (hB : BitTab (w.setCell ⟨B, 7, none⟩ (.int .i64 0))) : HistIn (w.setCell ⟨B, 7, none⟩ (.int .i64 0)) pk (some ⟨B, 0, none⟩) [1] pendC := by
  have hs := put1 (i := 7) hb (.int .i64 0)
  have ks1 : KeepBut (fun k => k = B) w (w.setCell ⟨B, 7, none⟩ (.int .i64 0)) := KeepBut.setCell _ _ _ rfl
  refine ⟨h.rd.keep ks1 fun a ha e => hne a ha e, fun i hi => ⟨_, _, rfl, ?_⟩, h.k8, by decide, h.kin, fun c hc => ?_, hT, hB⟩
  · have hi : i < 2 := hi
    match i, hi with
    | 0, _ => exact ⟨blk_cell hs rfl, blk_cell hs rfl, blk_cell hs rfl, blk_cell hs rfl, blk_cell hs rfl, blk_cell hs rfl, blk_cell hs rfl, blk_cell hs rfl⟩
    | 1, _ => exact ⟨blk_cell hs rfl, blk_cell hs rfl, blk_cell hs rfl, blk_cell hs rfl, blk_cell hs rfl, blk_cell hs rfl, blk_cell hs rfl, blk_cell hs rfl⟩
  · simp only [pendC, List.mem_cons, List.not_mem_nil, or_false] at hc
    rcases hc with rfl | rfl
    · exact in64_ok (show (-9223372036854775808 : Int) ≤ 1 ∧ (1 : Int) ≤ 9223372036854775807 by decide)
    · exact in64_ok (show (-9223372036854775808 : Int) ≤ 0 ∧ (0 : Int) ≤ 9223372036854775807 by decide)

set_option maxRecDepth 100000 in
set_option maxHeartbeats 32000000 in
theorem names_walk (w : World) (hT : TabP w) (hB : BitTab w) :
    Calls Tryd.prog 7 #[] w fun e w' => TrueOf w e w' := by
  have HT := Lib.hid hT; have HB := Lib.hid hB
  have HTB := Lib.hid (show ∀ W, KeepBut (fun _ => False) w W → TabP W ∧ BitTab W from fun W h => ⟨h.tabP HT.out, h.bitTab HB.out⟩)
  clear hT hB
  go_enter Tryd.func7, Tryd.ntmps7
  go_wp2_with fail
  go_at_call 24
  refine (three_any w 3 1 2 1 1 HT.out HB.out).mono ?_
  rintro e w1 ⟨pk1, pc1, rfl, hi1, -, -, hk1⟩
  obtain ⟨W1, B1, hW1, hB1, hb1, hkW1, -⟩ := fresh_block w1 (.cells #[.slice pk1 1 1, .slice pc1 2 2] THi)
  have HK1 := Lib.hid (hk1.trans hkW1); have HI1 := Lib.hid (hi1.stay hkW1); have HB1 := Lib.hid hb1
  clear hi1 hk1 hkW1
  go_upto_region 2 with fail
  rw [← hW1, ← hB1]
  clear hW1 hB1
  obtain ⟨b0, b1, -⟩ := blk2 hb1
  clear hb1
  go_wp2_with fail
  go_at_call 17
  refine (order_any W1 pk1 pc1 1 2 [1] (threeC 3 1 2 1 1) HI1.out).mono ?_
  intro e w2 h
  obtain ⟨q2, c2, rfl, hr2, hk2⟩ := ord01_of lin_4 rfl ords_4 h
  have HR2 := Lib.hid hr2; have HK2 := Lib.hid hk2
  clear h hr2 hk2 b0 b1
  go_wp2_with fail
  go_at_call 24
  refine (three_any w2 1 2 3 0 0 (HTB.out w2 (HK1.out.trans HK2.out)).1 (HTB.out w2 (HK1.out.trans HK2.out)).2).mono ?_
  rintro e w3 ⟨pk3, pc3, rfl, hi3, -, -, hk3⟩
  have HI3 := Lib.hid hi3; have HK3 := Lib.hid (HK2.out.trans hk3); have HR3 := Lib.hid (HR2.out.stay hk3)
  clear hi3 hk3
  go_wp2_with fail
  go_at_call 17
  refine (order_any w3 pk3 pc3 1 2 [1] (threeC 1 2 3 0 0) HI3.out).mono ?_
  intro e w4 h
  obtain ⟨q4, c4, rfl, hk4⟩ := ordNone_of lin_2 chk_2 h
  have HK4 := Lib.hid (HK3.out.trans hk4); have HR4 := Lib.hid (HR3.out.stay hk4)
  clear h hk4
  go_wp2_with fail
  go_at_call 24
  refine (three_blk w4 (-1) 1 2 1 1 (HTB.out w4 (HK1.out.trans HK4.out)).1 (HTB.out w4 (HK1.out.trans HK4.out)).2).mono ?_
  rintro e w5 ⟨rfl, hi5, hk5, hblk5⟩
  obtain ⟨B5, hB5⟩ : ∃ b, w4.heap.size + 1 + 1 = b := ⟨_, rfl⟩
  rw [hB5] at hi5 hblk5 ⊢
  obtain ⟨K5, hK5⟩ : ∃ b, w4.heap.size + 1 = b := ⟨_, rfl⟩
  rw [hK5] at hi5 ⊢
  obtain ⟨W5, B6, hW5, hB6, hb6, hkW5, -⟩ := fresh_block w5 (.cells #[.slice (some ⟨K5, 0, none⟩) 1 1, .slice (some ⟨B5, 0, none⟩) 2 2] THi)
  have HI5 := Lib.hid (hi5.stay hkW5); have HBL5 := Lib.hid (hkW5.blk hblk5); have HB6 := Lib.hid hb6
  have HK5 := Lib.hid (HK4.out.trans (hk5.trans hkW5)); have HR5 := Lib.hid (HR4.out.stay (hk5.trans hkW5))
  have HK45 := Lib.hid (hk5.trans hkW5)
  have HN5 := Lib.hid (show W1.heap.size ≤ B5 ∧ K5 ≠ B5 ∧ B5 < W5.heap.size ∧ w4.heap.size ≤ B5 ∧ B5 < w5.heap.size by
    have h1 := HK4.out.size
    have h2 := (Array.getElem?_eq_some_iff.1 hblk5).1
    have h3 := hkW5.size
    omega)
  clear hi5 hk5 hkW5 hblk5
  go_upto_region 5 with fail
  rw [← hW5, ← hB6]
  have HNB6 := Lib.hid (show B6 ≠ B5 by have := HN5.out; omega)
  clear hW5 hB6 hB5 hK5
  obtain ⟨b0, b1, -⟩ := blk2 hb6
  have hcell : W5.cell? ⟨B5, 7, none⟩ = some (.int .i64 1) := blk_cell HBL5.out rfl
  have hfr : W5.frozen? ⟨B5, 7, none⟩ = false := by simp [World.frozen?, HBL5.out]
  clear hb6
  go_upto_region 6 with fail
  have ks1 : KeepBut (fun k => k = B5) W5 (W5.setCell ⟨B5, 7, none⟩ (.int .i64 0)) := KeepBut.setCell _ _ _ rfl
  have hkk : KeepBut (fun _ => False) W1 (W5.setCell ⟨B5, 7, none⟩ (.int .i64 0)) := HK5.out.new ks1 fun b e => by have e : b = B5 := e; have := HN5.out; omega
  have hip := pend_world HI5.out HBL5.out (fun a ha => by cases ha; exact HN5.out.2.1) (HTB.out _ (HK1.out.trans hkk)).1 (HTB.out _ (HK1.out.trans hkk)).2
  have HR6 := Lib.hid (show Rd (W5.setCell ⟨B5, 7, none⟩ (.int .i64 0)) q2 (ints [0, 1]) from HR4.out.stay (HK45.out.new ks1 fun b e => by have e : b = B5 := e; have := HN5.out; omega))
  have hb6' := keep_blk ks1 HB6.out (fun e => HNB6.out e)
  obtain ⟨W6, hW6⟩ : ∃ W, W5.setCell ⟨B5, 7, none⟩ (.int .i64 0) = W := ⟨_, rfl⟩
  rw [hW6] at hkk hip HR6 hb6' ⊢
  have HK6 := Lib.hid hkk; have HI6 := Lib.hid hip
  clear hkk hip ks1 hW6 b0 b1 hcell hfr
  obtain ⟨b0, b1, -⟩ := blk2 hb6'
  clear hb6'
  go_wp2_with fail
  go_at_call 17
  refine (order_any W6 (some ⟨K5, 0, none⟩) (some ⟨B5, 0, none⟩) 1 2 [1] pendC HI6.out).mono ?_
  intro e w7 h
  obtain ⟨q7, c7, rfl, hr7, hk7⟩ := ord01_of lin_6 rfl ords_6 h
  have HRm7 := Lib.hid hr7; have HRl7 := Lib.hid (HR6.out.stay hk7); have HK7 := Lib.hid (HK6.out.trans hk7)
  clear h hr7 hk7 b0 b1
  go_wp2_with fail
  go_at_call 9
  refine (lives_any w7 (HTB.out w7 (HK1.out.trans HK7.out)).1 (HTB.out w7 (HK1.out.trans HK7.out)).2).mono ?_
  rintro e w8 ⟨rfl, hk⟩
  have HK8 := Lib.hid (HK7.out.trans hk); have HRl8 := Lib.hid (HRl7.out.stay hk); have HRm8 := Lib.hid (HRm7.out.stay hk)
  clear hk
  go_wp2_with fail
  go_at_call 25
  refine (same01 _ q2 _ c2 _ (HRl8.out.stay (KeepBut.alloc _ _ _)) (rd_built w8 _ [0, 1])).mono ?_
  rintro e w9 ⟨rfl, hk⟩
  have HK9 := Lib.hid (HK8.out.trans ((KeepBut.alloc _ _ _).trans hk)); have HRl9 := Lib.hid (HRl8.out.stay ((KeepBut.alloc _ _ _).trans hk)); have HRm9 := Lib.hid (HRm8.out.stay ((KeepBut.alloc _ _ _).trans hk))
  clear hk
  go_wp2_with fail
  go_at_call 25
  refine (same01 _ q7 _ c7 _ (HRm9.out.stay (KeepBut.alloc _ _ _)) (rd_built w9 _ [0, 1])).mono ?_
  rintro e w10 ⟨rfl, hk⟩
  have HK10 := Lib.hid (HK9.out.trans ((KeepBut.alloc _ _ _).trans hk)); have HRl10 := Lib.hid (HRl9.out.stay ((KeepBut.alloc _ _ _).trans hk)); have HRm10 := Lib.hid (HRm9.out.stay ((KeepBut.alloc _ _ _).trans hk))
  clear hk
  go_wp2_with fail
  go_at_call 24
  refine (three_any w10 0 1 2 0 0 (HTB.out w10 (HK1.out.trans HK10.out)).1 (HTB.out w10 (HK1.out.trans HK10.out)).2).mono ?_
  rintro e w11 ⟨pkx, pcx, rfl, hix, -, -, hk⟩
  have HK11 := Lib.hid (HK10.out.trans hk); have HRl11 := Lib.hid (HRl10.out.stay hk); have HRm11 := Lib.hid (HRm10.out.stay hk)
  clear hk
  go_wp2_with fail
  go_at_call 11
  have HCx := Lib.hid (chkH_any w11 pkx pcx 1 2 [1] (threeC 0 1 2 0 0) hix.rd hix.calls (by decide) (by show 2 ≤ _; decide))
  rw [chk_bad1] at HCx
  clear hix
  refine (HCx.out).mono ?_
  rintro e w12 ⟨rfl, hk⟩
  have HK12 := Lib.hid (HK11.out.trans hk); have HRl12 := Lib.hid (HRl11.out.stay hk); have HRm12 := Lib.hid (HRm11.out.stay hk)
  clear hk
  go_wp2_with fail
  go_at_call 24
  refine (three_any w12 3 3 4 0 0 (HTB.out w12 (HK1.out.trans HK12.out)).1 (HTB.out w12 (HK1.out.trans HK12.out)).2).mono ?_
  rintro e w13 ⟨pky, pcy, rfl, hiy, -, -, hk⟩
  have HK13 := Lib.hid (HK12.out.trans hk); have HRl13 := Lib.hid (HRl12.out.stay hk); have HRm13 := Lib.hid (HRm12.out.stay hk)
  clear hk
  go_wp2_with fail
  go_at_call 11
  have HCy := Lib.hid (chkH_any w13 pky pcy 1 2 [1] (threeC 3 3 4 0 0) hiy.rd hiy.calls (by decide) (by show 2 ≤ _; decide))
  rw [chk_bad2] at HCy
  clear hiy
  refine (HCy.out).mono ?_
  rintro e w14 ⟨rfl, hk⟩
  have HK14 := Lib.hid (HK13.out.trans hk); have HRl14 := Lib.hid (HRl13.out.stay hk); have HRm14 := Lib.hid (HRm13.out.stay hk)
  clear hk
  go_wp2_with fail
  go_at_call 24
  refine (three_any w14 1 2 3 0 0 (HTB.out w14 (HK1.out.trans HK14.out)).1 (HTB.out w14 (HK1.out.trans HK14.out)).2).mono ?_
  rintro e w15 ⟨pkz, pcz, rfl, hiz, -, -, hk⟩
  have HK15 := Lib.hid (HK14.out.trans hk); have HRl15 := Lib.hid (HRl14.out.stay hk); have HRm15 := Lib.hid (HRm14.out.stay hk)
  clear hk
  go_wp2_with fail
  go_at_call 26
  refine (ahead_names w15 pkz pcz (threeC 1 2 3 0 0) hiz.calls rfl true (by decide +kernel)).mono ?_
  rintro e w16 ⟨rfl, hk⟩
  clear hiz
  have HK16 := Lib.hid (HK15.out.trans hk); have HRl16 := Lib.hid (HRl15.out.stay hk); have HRm16 := Lib.hid (HRm15.out.stay hk)
  clear hk
  obtain ⟨b0, b1, -⟩ := blk2 (HK16.out.blk HB1.out)
  go_wp2_with fail
  go_at_call 26
  refine (ahead_names w16 pk1 pc1 (threeC 3 1 2 1 1) (HI1.out.stay HK16.out).calls rfl false (by decide +kernel)).mono ?_
  rintro e w17 ⟨rfl, hk⟩
  have HK17 := Lib.hid (HK16.out.trans hk); have HRl17 := Lib.hid (HRl16.out.stay hk); have HRm17 := Lib.hid (HRm16.out.stay hk)
  clear hk b0 b1
  obtain ⟨b0, b1, -⟩ := blk2 (HK17.out.blk HB1.out)
  go_wp2_with fail
  go_at_call 28
  refine (turns_any w17 pk1 pc1 1 2 [1] (threeC 3 1 2 1 1) (HI1.out.stay HK17.out) q2 c2 [0, 1] HRl17.out (by decide) allow_4).mono ?_
  rintro e w18 ⟨pt, ct, rfl, hrt, hk⟩
  have HRT := Lib.hid hrt
  clear hrt
  have HK18 := Lib.hid (HK17.out.trans hk); have HRl18 := Lib.hid (HRl17.out.stay hk); have HRm18 := Lib.hid (HRm17.out.stay hk)
  clear hk b0 b1
  go_wp2_with fail
  go_at_call 27
  refine (sameTurn_any _ pt _ ct _ [(0, false), (1, false)] (HRT.out.stay (KeepBut.alloc _ _ _)) (rd_builtV w18 _ _) (by decide)).mono ?_
  rintro e w19 ⟨rfl, hk⟩
  have HK19 := Lib.hid (HK18.out.trans ((KeepBut.alloc _ _ _).trans hk)); have HRl19 := Lib.hid (HRl18.out.stay ((KeepBut.alloc _ _ _).trans hk)); have HRm19 := Lib.hid (HRm18.out.stay ((KeepBut.alloc _ _ _).trans hk))
  clear hk
  obtain ⟨b0, b1, -⟩ := blk2 (HK19.out.blk HB1.out)
  go_wp2_with fail
  go_at_call 23
  refine (ends_any w19 pk1 pc1 1 2 [1] (threeC 3 1 2 1 1) (HI1.out.stay HK19.out) q2 c2 [0, 1] HRl19.out (by decide) 0 (by decide) allow_4).mono ?_
  rintro e w20 ⟨qe, ce, xe, ke, he, oe, rfl, h1, h2, h3, h4, -, hk⟩
  have h5 : oe = [0, 1] := natI_inj h1
  subst h5
  have h6 : he = [(1, [])] := Option.some.inj (h2.symm.trans fold_4)
  subst h6
  have h7 : ke = 1 ∧ xe = [] := by
    have h8 : ((1 : Int), ([] : List Int)) = (ke, xe) := h3
    cases h8
    exact ⟨rfl, rfl⟩
  obtain ⟨rfl, rfl⟩ := h7
  clear h1 h2 h3 h4
  have HK20 := Lib.hid (HK19.out.trans hk); have HRl20 := Lib.hid (HRl19.out.stay hk); have HRm20 := Lib.hid (HRm19.out.stay hk)
  clear hk b0 b1
  go_wp2_with fail
  go_at_call 22
  refine (content_names w20 qe ce).mono ?_
  rintro e w21 ⟨rfl, hk⟩
  have HK21 := Lib.hid (HK20.out.trans hk); have HRl21 := Lib.hid (HRl20.out.stay hk); have HRm21 := Lib.hid (HRm20.out.stay hk)
  clear hk
  obtain ⟨b0, b1, -⟩ := blk2 (HK21.out.blk HB1.out)
  go_wp2_with fail
  go_at_call 19
  refine (allowed_any _ pk1 pc1 1 2 [1] (threeC 3 1 2 1 1) (HI1.out.stay (HK21.out.trans (KeepBut.alloc _ _ _))) (some ⟨w21.heap.size, 0, none⟩) 2 [1, 0] (rd_built w21 _ [1, 0]) (by decide)).mono ?_
  rintro e w22 ⟨v, rfl, hv, hk⟩
  have hv2 : v = false := by rw [← Bool.not_eq_true]; exact fun e => allow_no1 (hv.1 e)
  clear hv
  subst hv2
  have HK22 := Lib.hid (HK21.out.trans ((KeepBut.alloc _ _ _).trans hk)); have HRl22 := Lib.hid (HRl21.out.stay ((KeepBut.alloc _ _ _).trans hk)); have HRm22 := Lib.hid (HRm21.out.stay ((KeepBut.alloc _ _ _).trans hk))
  clear hk b0 b1
  obtain ⟨b0, b1, -⟩ := blk2 (HK22.out.blk HB1.out)
  go_wp2_with fail
  go_at_call 19
  refine (allowed_any _ pk1 pc1 1 2 [1] (threeC 3 1 2 1 1) (HI1.out.stay (HK22.out.trans (KeepBut.alloc _ _ _))) (some ⟨w22.heap.size, 0, none⟩) 3 [0, 0, 1] (rd_built w22 _ [0, 0, 1]) (by decide)).mono ?_
  rintro e w23 ⟨v, rfl, hv, hk⟩
  have hv2 : v = false := by rw [← Bool.not_eq_true]; exact fun e => allow_no2 (hv.1 e)
  clear hv
  subst hv2
  have HK23 := Lib.hid (HK22.out.trans ((KeepBut.alloc _ _ _).trans hk)); have HRl23 := Lib.hid (HRl22.out.stay ((KeepBut.alloc _ _ _).trans hk)); have HRm23 := Lib.hid (HRm22.out.stay ((KeepBut.alloc _ _ _).trans hk))
  clear hk b0 b1
  go_wp2_with fail
  go_ret
  exact ⟨rfl, HK1.out.trans HK23.out⟩

end Go.Proofs.YtoolpifkfgileaaDoor

/-
  In plain: calls one after the other.
-/
namespace Go.Proofs.YtoolpifkfgileaaDoor
open Go Go.RowKit Own

/-- calls one after the other, one container -/
structure InRow (k : Int) (cs : List Cl) : Prop where
  kind : kindB k = true
  each : ∀ i, i < cs.length → (nthC cs i).hart = (i : Int) % 3 ∧ (nthC cs i).cont = 0 ∧ kindOf (nthC cs i).op = k ∧ (nthC cs i).beg = 2 * (i : Int) ∧ (nthC cs i).till = 2 * (i : Int) + 1

theorem InRow.good {k : Int} {cs : List Cl} (h : InRow k cs) : GoodH [k] cs := by
  refine ⟨by unfold kindsB; simp [h.kind], fun c hc => ?_, ?_⟩
  · obtain ⟨i, hi, rfl⟩ := mem_nthC hc
    obtain ⟨h1, h2, h3, h4, h5⟩ := h.each i hi
    refine ⟨decide_eq_true ⟨by omega, by omega, by omega, by rw [h2]; show (0 : Int) < ((1 : Nat) : Int); decide, by rw [h2, h3]; rfl, by omega⟩, fun e => by omega, fun _ => by omega⟩
  · rw [List.pairwise_iff_getElem]
    intro i j hi hj hij
    have hi' := h.each i hi
    have hj' := h.each j hj
    rw [nthC_eq hi] at hi'
    rw [nthC_eq hj] at hj'
    obtain ⟨a1, a2, a3, a4, a5⟩ := hi'
    obtain ⟨b1, b2, b3, b4, b5⟩ := hj'
    exact ⟨by omega, fun _ => by omega, fun _ => by omega, fun _ _ => by omega, fun _ => ⟨by omega, by omega⟩⟩

theorem range_of : ∀ (N s : Nat) (o : List Nat), o.Pairwise (· < ·) → (∀ n ∈ o, s ≤ n ∧ n < s + N) → (∀ k, s ≤ k → k < s + N → k ∈ o) → o = List.range' s N
  | 0, s, [], _, _, _ => rfl
  | 0, s, a :: o, _, h, _ => absurd (h a List.mem_cons_self) (by omega)
  | N + 1, s, [], _, _, h => absurd (h s (Nat.le_refl _) (by omega)) (by simp)
  | N + 1, s, a :: o, hp, h1, h2 => by
    obtain ⟨p1, p2⟩ := List.pairwise_cons.1 hp
    have ha := h1 a List.mem_cons_self
    have e : a = s := by
      rcases List.mem_cons.1 (h2 s (Nat.le_refl _) (by omega)) with e | e
      · exact e.symm
      · have := p1 s e; omega
    subst e
    rw [List.range'_succ, range_of N (a + 1) o p2 (fun n hn => by
      have := p1 n hn
      have := h1 n (List.mem_cons_of_mem _ hn)
      omega) fun k hk hk2 => by
      rcases List.mem_cons.1 (h2 k (by omega) (by omega)) with e | e
      · omega
      · exact e]

theorem row_order {k : Int} {cs : List Cl} {h0 : List (Int × List Int)} {o : List Nat} (h : InRow k cs) (ho : OrdI cs 0 h0 o) : o = List.range cs.length := by
  rw [List.range_eq_range']
  refine range_of _ _ o ?_ (fun n hn => ⟨Nat.zero_le _, by have := ho.lt n hn; omega⟩) fun j _ hj => ?_
  · refine (ho.nodup.and ho.pair).imp_of_mem fun {a b} ha hb hab => ?_
    have h1 := h.each a (ho.lt a ha)
    have h2 := h.each b (ho.lt b hb)
    have h3 := hab.2
    unfold aheadB at h3
    rw [decide_eq_true (by omega), Bool.true_and, decide_eq_false_iff_not] at h3
    have h4 : a ≠ b := hab.1
    omega
  · rcases ho.ended j (by omega) (by have := h.each j (by omega); omega) with h1 | h1
    · rw [Nat.zero_testBit] at h1; cases h1
    · exact h1

theorem map_range (cs : List Cl) : (List.range cs.length).map (nthC cs) = cs := by
  apply List.ext_getElem
  · simp
  · intro i h1 h2
    rw [List.getElem_map, List.getElem_range, nthC_eq h2]

theorem row_ord {k : Int} {cs : List Cl} {h0 : List (Int × List Int)} (h : InRow k cs) (hr : (foldC h0 cs).isSome = true) : OrdI cs 0 h0 (List.range cs.length) := by
  refine ⟨fun n hn => List.mem_range.1 hn, List.nodup_range, fun n _ => Nat.zero_testBit n, ?_, fun j hj _ => .inr (List.mem_range.2 hj), by rw [map_range]; exact hr⟩
  refine List.pairwise_lt_range.imp_of_mem fun {a b} ha hb hab => ?_
  have h1 := h.each a (List.mem_range.1 ha)
  have h2 := h.each b (List.mem_range.1 hb)
  unfold aheadB
  rw [decide_eq_false (p := (nthC cs b).till < (nthC cs a).beg) (by omega), Bool.and_false]

/-- what the statement reckons: the content, and whether each call may end so -/
def stS (s : (Int × List Int) × Bool) (c : Cl) : (Int × List Int) × Bool :=
  (((mayR s.1.1 c.op s.1.2 c.arg c.value c.code).kind, (mayR s.1.1 c.op s.1.2 c.arg c.value c.code).items), s.2 && (mayR s.1.1 c.op s.1.2 c.arg c.value c.code).ok)
def stAll (k : Int) (cs : List Cl) : (Int × List Int) × Bool := cs.foldl stS ((k, []), true)

theorem foldl_false : ∀ (cs : List Cl) (e : Int × List Int), (cs.foldl stS (e, false)).2 = false
  | [], _ => rfl
  | c :: cs, e => by
    rw [List.foldl_cons]
    exact foldl_false cs _
theorem fold_st : ∀ (cs : List Cl) (e : Int × List Int), (∀ c ∈ cs, c.cont = 0 ∧ c.till ≠ -1) → foldC [e] cs = if (cs.foldl stS (e, true)).2 = true then some [(cs.foldl stS (e, true)).1] else none
  | [], e, _ => rfl
  | c :: cs, e, h => by
    obtain ⟨h1, h2⟩ := h c List.mem_cons_self
    rw [List.foldl_cons]
    unfold foldC stepC step1
    rw [if_neg h2, h1]
    have e1 : nthK [e] (0 : Int).toNat = e := rfl
    rw [e1]
    unfold stS
    dsimp only
    cases hok : (mayR e.1 c.op e.2 c.arg c.value c.code).ok with
    | true =>
      rw [if_pos rfl, Bool.true_and]
      exact fold_st cs _ fun x hx => h x (List.mem_cons_of_mem _ hx)
    | false =>
      rw [if_neg Bool.false_ne_true, Bool.true_and]
      show none = _
      have := foldl_false cs ((mayR e.1 c.op e.2 c.arg c.value c.code).kind, (mayR e.1 c.op e.2 c.arg c.value c.code).items)
      unfold stS at this
      rw [this, if_neg Bool.false_ne_true]

theorem row_fold {k : Int} {cs : List Cl} (h : InRow k cs) : foldC (startP [k]) cs = if (stAll k cs).2 = true then some [(stAll k cs).1] else none :=
  fold_st cs (k, []) fun c hc => by
    obtain ⟨i, hi, rfl⟩ := mem_nthC hc
    have := h.each i hi
    exact ⟨this.2.1, by omega⟩

theorem row_lin {k : Int} {cs : List Cl} (h : InRow k cs) (hl : cs.length ≤ 24) : LinH [k] cs ↔ (stAll k cs).2 = true := by
  have hf := row_fold h
  constructor
  · rintro ⟨-, oc, ho⟩
    obtain ⟨o, h1, -⟩ := ho.nums h.good
    have h2 := h1.run
    rw [row_order h h1, map_range] at h2
    have h3 : startP [k] = [k].map fun k => (k, []) := rfl
    rw [← h3, hf] at h2
    by_cases e : (stAll k cs).2 = true
    · exact e
    · rw [if_neg e] at h2; cases h2
  · intro e
    rw [if_pos e] at hf
    exact ⟨⟨h.good, hl⟩, _, (row_ord h (h0 := [k].map fun k => (k, [])) (by
      have h3 : startP [k] = [k].map fun k => (k, []) := rfl
      rw [← h3, hf]; rfl)).calls h.good⟩

/-- the next call -/
theorem InRow.snoc {k : Int} {cs : List Cl} {c : Cl} (h : InRow k cs) (hc : c.hart = (cs.length : Int) % 3 ∧ c.cont = 0 ∧ kindOf c.op = k ∧ c.beg = 2 * (cs.length : Int) ∧ c.till = 2 * (cs.length : Int) + 1) : InRow k (cs ++ [c]) := by
  refine ⟨h.kind, fun i hi => ?_⟩
  rw [List.length_append] at hi
  by_cases e : i < cs.length
  · have : nthC (cs ++ [c]) i = nthC cs i := by
      unfold nthC
      rw [List.getD_eq_getElem?_getD, List.getD_eq_getElem?_getD, List.getElem?_append_left e]
    rw [this]
    exact h.each i e
  · have e2 : i = cs.length := by simp at hi; omega
    subst e2
    have : nthC (cs ++ [c]) cs.length = c := by
      unfold nthC
      rw [List.getD_eq_getElem?_getD, List.getElem?_append_right (Nat.le_refl _)]
      simp
    rw [this]
    exact hc
theorem stAll_snoc (k : Int) (cs : List Cl) (c : Cl) : stAll k (cs ++ [c]) = stS (stAll k cs) c := by
  unfold stAll
  rw [List.foldl_append]
  rfl

end Go.Proofs.YtoolpifkfgileaaDoor
