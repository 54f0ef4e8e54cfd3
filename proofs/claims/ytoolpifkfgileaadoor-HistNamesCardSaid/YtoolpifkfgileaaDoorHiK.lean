/-
  Package hist: Allowed; Ends.
-/
import Derived.Test.YtoolpifkfgileaaDoorHiI
namespace Go.Proofs.YtoolpifkfgileaaDoor
open Go Go.RowKit Own

def AllowDone (ks : List Int) (cs : List Cl) (ol : List Int) (w : World) (e : Ending) (w' : World) : Prop := ∃ v, e = .returned (.bool v) ∧ (v = true ↔ AllowedP ks cs ol) ∧ KeepBut (fun _ => False) w w'

theorem allowed_any (w : World) (pk pc : Option Addr) (ck cc : Nat) (ks : List Int) (cs : List Cl) (hI : HistIn w pk pc ks cs) (po : Option Addr) (co : Nat) (ol : List Int) (hO : Rd w po (ints ol)) (hol : ol.length ≤ 1099511627776) :
    Calls Tryd.prog 19 #[histV pk pc ck cc ks cs, .slice po ol.length co] w fun e w' => AllowDone ks cs ol w e w' := by
  obtain ⟨V, B, hV, hB, hb, hkV, hsV⟩ := fresh_block w (.cells #[.slice pk ks.length ck, .slice pc cs.length cc] THi)
  obtain ⟨b0, b1, -⟩ := blk2 hb
  have HT := Lib.hid (through_any V pk pc ck cc ks cs (hI.stay hkV) po co ol (hO.stay hkV) hol)
  have HK := Lib.hid hkV
  unfold histV at HT ⊢
  clear hI hb hkV hsV hO
  go_enter Tryd.func19, Tryd.ntmps19
  go_upto_region 1 with fail
  rw [← hV, ← hB]
  clear hV hB
  go_wp2_with (go_at_call 40; refine HT.out.mono ?_; rintro e w2 ⟨p, c, l, ok, rfl, h1, -, -, hk⟩; have H1 := Lib.hid h1; have HK2 := Lib.hid hk; clear hk h1)
  go_ret
  exact ⟨ok, rfl, H1.out, HK.out.trans HK2.out⟩

theorem keep_back {w w' : World} {N : Nat} {x : Obj} (h : KeepBut (fun k => k = N) w.drew w') (h1 : w'.heap[N]? = some x) (h2 : w.heap[N]? = some x) : KeepBut (fun _ => False) w w' :=
  ⟨h.os, h.tape, h.output, h.size, fun k hk _ => by
    by_cases e : k = N
    · rw [e, h1, h2]
    · exact h.block k hk e⟩

def EndsDone (ks : List Int) (cs : List Cl) (ol : List Int) (i : Nat) (w : World) (e : Ending) (w' : World) : Prop :=
  ∃ q c xs k h o, e = .returned (.agg #[.int .i64 k, .slice q (List.length xs) c]) ∧ natI o = ol ∧ foldC (startP ks) (o.map (nthC cs)) = some h ∧ nthK h i = (k, xs) ∧ Rd w' q (ints xs) ∧ List.length xs ≤ 64 ∧ KeepBut (fun _ => False) w w'

set_option maxHeartbeats 8000000 in
theorem ends_any (w : World) (pk pc : Option Addr) (ck cc : Nat) (ks : List Int) (cs : List Cl) (hI : HistIn w pk pc ks cs) (po : Option Addr) (co : Nat) (ol : List Int) (hO : Rd w po (ints ol)) (hol : ol.length ≤ 1099511627776) (i : Nat) (hi : i < ks.length) (hA : AllowedP ks cs ol) :
    Calls Tryd.prog 23 #[histV pk pc ck cc ks cs, .slice po ol.length co, .int .i64 i] w fun e w' => EndsDone ks cs ol i w e w' := by
  obtain ⟨V1, B3, hV1, hB3, hb3, hk1, hs1⟩ := fresh_block w (.cells #[.slice pk ks.length ck, .slice pc cs.length cc] THi)
  obtain ⟨V, N, hV, hN, hbN, hk2, hs2⟩ := fresh_block V1 (.cells #[.int .i64 0, .slice none 0 0] TC)
  obtain ⟨b0, b1, -⟩ := blk2 (hk2.blk hb3)
  have hK := hk1.trans hk2
  have HT := Lib.hid (through_any V pk pc ck cc ks cs (hI.stay hK) po co ol (hO.stay hK) hol)
  have HK := Lib.hid hK; have HBN := Lib.hid hbN
  have hNB : B3 + 1 = N := by omega
  have HNW := Lib.hid (show w.heap.size ≤ N ∧ N < V.heap.size by omega)
  have HAL := Lib.hid hA
  have HIK := Lib.hid hi
  have HK8 := Lib.hid hI.k8
  unfold histV at HT ⊢
  clear hI hb3 hbN hk1 hk2 hs1 hs2 hO hA hK
  go_enter Tryd.func23, Tryd.ntmps23
  go_upto_region 1 with fail
  rw [← hV1, ← hB3, ← hV, hNB]
  clear hV1 hB3 hV hN hNB
  go_upto_region 2 with (go_at_call 40; refine HT.out.mono ?_; rintro e w2 ⟨p, c, l, ok, rfl, h1, h2, h3, hk⟩; have H1 := Lib.hid h1; have H2 := Lib.hid h2; have H3 := Lib.hid h3; have HK2 := Lib.hid hk; clear hk h1 h2 h3)
  have hok : ok = true := H1.out.2 HAL.out
  subst hok
  obtain ⟨o1, ho1, hf1, hl1, hsm⟩ := H2.out rfl
  have HF1 := Lib.hid hf1; have HO1 := Lib.hid ho1
  have hil : i < l.length := by omega
  have hili : (i : Int) < l.length := by omega
  have hi0 : (0 : Int) ≤ i := by omega
  have hilf : ¬ (l.length : Int) ≤ i := by omega
  have hmem : l[i] ∈ l := List.getElem_mem hil
  obtain ⟨g, o, hp, x0, x1⟩ := H3.out.cells i hil
  have hlv := H3.out.live _ hmem
  have hse := hsm _ (List.mem_map.2 ⟨l[i], hmem, rfl⟩)
  have hnk : nthK (l.map Kc.plain) i = l[i].plain := by unfold nthK; simp [List.getD, hil]
  obtain ⟨⟨ek, eq, ex, ec⟩, he⟩ : ∃ e, l[i] = e := ⟨_, rfl⟩
  rw [he] at x0 x1 hlv hse hnk
  dsimp only [Kc.plain] at x0 x1 hlv hse hnk
  subst hp
  have HLV := Lib.hid hlv; have HSE := Lib.hid hse; have HNK := Lib.hid hnk
  have HN2 := Lib.hid (HK2.out.blk HBN.out)
  have x0' := x0; have x1' := x1
  clear x0 x1 hlv hse hnk he hmem hsm hf1 ho1
  go_upto_region 4 with fail
  refine wp_own1 (by kernel_rfl) N _ HN2.out (fun i => [[], [], [0, 1], [0, 1, 2], [0, 1, 2, 3], [], [], [5, 6], [5, 6, 7], [5, 6, 7, 8], [5, 6, 7, 8, 9], [0, 1, 2, 3, 4, 5, 6, 7, 8, 9, 10], [0, 1, 2, 3, 4, 5, 6, 7, 8, 9, 10, 11]].getD i []) (fun i => if i = 4 ∨ i = 9 ∨ i = 10 ∨ i = 12 then [13] else []) (fun i => if i = 12 then [13] else []) [10, 12] (by kernel_rfl)
    (fun i => if i = 4 then some (sConst (.int .i64 ek)) else if i = 9 then some (sConst (.slice eq ex.length ec)) else if i = 10 then some (sOwnI 2 ex) else if i = 12 then some (sPut N TC) else none) ?_
  apply lex_quiet rfl rfl
  · intro w' hk; go_simp; with_reducible rfl
  simp only [Act.put, List.setIfInBounds_toArray, List.set_cons_zero, List.set_cons_succ]
  apply lex_quiet rfl rfl
  · intro w' hk; go_simp; with_reducible rfl
  simp only [Act.put, List.setIfInBounds_toArray, List.set_cons_zero, List.set_cons_succ]
  apply lex_quiet rfl rfl
  · intro w' hk; go_simp; with_reducible rfl
  simp only [Act.put, List.setIfInBounds_toArray, List.set_cons_zero, List.set_cons_succ]
  apply lex_quiet rfl rfl
  · intro w' hk; go_simp; with_reducible rfl
  simp only [Act.put, List.setIfInBounds_toArray, List.set_cons_zero, List.set_cons_succ]
  refine lex_loud rfl rfl (loud_run ⟨default, trivial⟩ (fun g _ w w' _ _ _ _ _ => trivial) fun w' hk hav _ => by
    have hkk := keep_back hk (hav 13 (by decide)).1 HN2.out
    have x := hkk.stay x0'
    exact ⟨w', default, trivial, .inl (by go_simp <;> rfl), KeepBut.refl _ _, fun b h => h.elim, trivial⟩) fun _ _ => ?_
  simp only [sConst, Act.put, List.setIfInBounds_toArray, List.set_cons_zero, List.set_cons_succ]
  apply lex_quiet rfl rfl
  · intro w' hk; go_simp; with_reducible rfl
  simp only [Act.put, List.setIfInBounds_toArray, List.set_cons_zero, List.set_cons_succ]
  apply lex_quiet rfl rfl
  · intro w' hk; go_simp; with_reducible rfl
  simp only [Act.put, List.setIfInBounds_toArray, List.set_cons_zero, List.set_cons_succ]
  apply lex_quiet rfl rfl
  · intro w' hk; go_simp; with_reducible rfl
  simp only [Act.put, List.setIfInBounds_toArray, List.set_cons_zero, List.set_cons_succ]
  apply lex_quiet rfl rfl
  · intro w' hk; go_simp; with_reducible rfl
  simp only [Act.put, List.setIfInBounds_toArray, List.set_cons_zero, List.set_cons_succ]
  refine lex_loud rfl rfl (loud_run ⟨default, trivial⟩ (fun g _ w w' _ _ _ _ _ => trivial) fun w' hk hav _ => by
    have hkk := keep_back hk (hav 13 (by decide)).1 HN2.out
    have x := hkk.stay x1'
    exact ⟨w', default, trivial, .inl (by go_simp <;> rfl), KeepBut.refl _ _, fun b h => h.elim, trivial⟩) fun _ _ => ?_
  simp only [sConst, Act.put, List.setIfInBounds_toArray, List.set_cons_zero, List.set_cons_succ]
  refine lex_loud rfl rfl (loud_call 44 #[.slice eq ex.length ec] (fun w => by kernel_rfl) ⟨default, trivial⟩ (fun g _ => stable_ownI _ _ _ _ _) fun w' hk hav _ => (clone_any w' eq ex ec (HLV.out.1.stay (keep_back hk (hav 13 (by decide)).1 HN2.out)) (by have := HSE.out.2.1; omega) HLV.out.2).mono ?_) fun g4 _ => ?_
  · rintro e w'' ⟨p', c', rfl, ho, hq⟩
    exact ⟨{ p := p', c := c' }, trivial, rfl, hq.mono fun _ e => e.elim, fun b ⟨a, h1, h2⟩ => by have := ho.lt a h1; exact ⟨.inl (by omega), by omega⟩, ho.base fun _ _ => Nat.zero_le _⟩
  simp only [sOwnI, sPut, Act.put, List.setIfInBounds_toArray, List.set_cons_zero, List.set_cons_succ]
  apply lex_quiet rfl rfl
  · intro w' hk; go_simp; with_reducible rfl
  simp only [Act.put, List.setIfInBounds_toArray, List.set_cons_zero, List.set_cons_succ]
  refine lex_loud rfl rfl (loud_put N TC TC #[.int .i64 ek, .slice g4.p ex.length g4.c] _ (.tmp 6) (.tmp 39) rfl rfl rfl 13 (by decide) (by decide) (fun w h => h) ⟨rfl, rfl⟩ rfl (by kernel_rfl) (by simp [Value.oneCell'])) fun g6 _ => ?_
  simp only [sOwnI, sPut, Act.put, List.setIfInBounds_toArray, List.set_cons_zero, List.set_cons_succ]
  refine lex_nil ?_
  intro w9 hk hF _
  have f4 : OwnI 2 0 w9 g4.p g4.c ex := (hF 10 (by decide)).1
  have f6 : w9.heap[N]? = some (.cells #[.int .i64 ek, .slice g4.p ex.length g4.c] TC (0, 0)) := (hF 12 (by decide)).1 _ (put_args rfl rfl)
  have c0 := blk_cell (k := 0) f6 rfl
  have c1 := blk_cell (k := 1) f6 rfl
  have HFIN := Lib.hid (show EndsDone ks cs ol i w (.returned (.agg #[.int .i64 ek, .slice g4.p ex.length g4.c])) w9 from
    ⟨g4.p, g4.c, ex, ek, _, o1, rfl, HO1.out, HF1.out, HNK.out, f4.rd, HSE.out.2.1, (HK.out.trans HK2.out).new ((KeepBut.drew _ w2).trans hk) fun b hb => by have := HNW.out; have h2 : b = N := hb; omega⟩)
  clear hF f4 f6 hk
  go_wp2_with fail
  exact bodyPost_ret (v := .agg #[.int .i64 ek, .slice g4.p ex.length g4.c]) (by simp [results, Tryd.results23, go_sem, c0, c1]) rfl HFIN.out

end Go.Proofs.YtoolpifkfgileaaDoor
