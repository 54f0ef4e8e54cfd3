/-
  Package hist: Part.
-/
import Derived.Test.YtoolpifkfgileaaDoorHiQ
namespace Go.Proofs.YtoolpifkfgileaaDoor
open Go Go.RowKit Own

theorem del_nil (w : World) (B3 i : Nat) (hb : w.cell? ⟨B3, 0, none⟩ = some (.int .i64 i)) :
    Calls Tryd.prog 31 #[.slice none 0 0, delV B3] w fun e w' => e = .returned (.slice none 0 0) ∧ KeepBut (fun _ => False) w w' := by
  have HIX := Lib.hid (idxC_any w B3 i hb none 0 [] (fun i h => absurd h (by simp)) (by decide))
  unfold delV at HIX ⊢
  clear hb
  go_enter Tryd.func31, Tryd.ntmps31
  go_wp2_with fail
  go_at_call 53
  refine HIX.out.mono ?_
  rintro e w2 ⟨hor, hk2⟩
  have HK2 := Lib.hid hk2
  clear hk2
  rcases hor with ⟨k0, hk0, -⟩ | ⟨rfl, -⟩
  · exact absurd hk0 (by simp)
  · go_wp2_with fail
    go_ret
    exact ⟨rfl, HK2.out⟩

theorem cloneInt_any (w : World) (p : Option Addr) (xs : List Int) (cap : Nat) (hrd : Rd w p (ints xs)) (hl : xs.length ≤ 1099511627776) (hp : ∀ a, p = some a → a.spot = none) :
    Calls Tryd.prog 34 #[.slice p xs.length cap] w fun e w' => ∃ p' c', e = .returned (.slice p' xs.length c') ∧ OwnI 3 w.heap.size w' p' c' xs ∧ KeepBut (fun _ => False) w w' := by
  cases p with
  | none =>
    have : xs = [] := by
      apply Classical.byContradiction; intro h
      obtain ⟨b, o, h1, _⟩ := hrd.ptr (by rw [ints_length]; exact List.length_pos_iff.2 h)
      cases h1
    subst this
    refine (Tryd.slices_Clone_nil_f34 0 cap w).mono ?_
    rintro e w' ⟨rfl, rfl⟩
    exact ⟨none, 0, rfl, OwnI.empty, KeepBut.refl _ _⟩
  | some a =>
    obtain ⟨b, o, sp⟩ := a
    obtain rfl : sp = none := hp _ rfl
    obtain ⟨i0, hi, hz0, hz1, hz2⟩ := info_parts info_int3
    refine (Tryd.slices_Clone_f34 i0 (.int .i64 0) 1 8 hi hz0 hz1 hz2 rfl (by decide) Tryd.sizeOf3 b o xs.length cap (ints xs) w (by rw [ints_length]; omega) (by unfold maxLen; omega) (by omega) (fun j u hj => hrd.cell j u hj) (ints_oneCell' xs)).mono ?_
    rintro e w' ⟨v', rfl, hown, _, hb⟩
    obtain ⟨p', c', rfl, ho⟩ := OwnI.of_row hown
    exact ⟨p', c', rfl, ho, KeepBut.of_below hb⟩

theorem rowC_keepB {w w' : World} {p : Option Addr} {l : List Cl} {B : Nat} {T : TypeId} {a d : Option Addr} {b c e f : Nat} (h : RowC w p l) (hb : w.heap[B]? = some (.cells #[.slice a b c, .slice d e f] T (0, 0))) (k : KeepBut (fun j => j = B) w w') : RowC w' p l := fun i hi => by
  obtain ⟨g, o, h0, h1, h2, h3, h4, h5, h6, h7, h8⟩ := h i hi
  have hne : ¬ g = B := fun e => by
    subst e
    unfold World.cell? at h1
    rw [hb] at h1
    match hm : o + i * 8 with
    | 0 => rw [hm] at h1; simp at h1
    | 1 => rw [hm] at h1; simp at h1
    | n + 2 => rw [hm] at h1; simp at h1
  exact ⟨g, o, h0, keep_cell k h1 hne, keep_cell k h2 hne, keep_cell k h3 hne, keep_cell k h4 hne, keep_cell k h5 hne, keep_cell k h6 hne, keep_cell k h7 hne, keep_cell k h8 hne⟩

def PartDone (ks : List Int) (cs : List Cl) (i : Nat) (w : World) (e : Ending) (w' : World) : Prop :=
  ∃ pk ck pc cc, e = .returned (.agg #[.slice pk ks.length ck, .slice pc (partC i cs).length cc]) ∧ Rd w' pk (ints ks) ∧ RowC w' pc (partC i cs) ∧ KeepBut (fun _ => False) w w'

/-- what DeleteFunc leaves, of whatever Clone made -/
def DelAny (i : Nat) (cs : List Cl) (B : Nat) (w : World) (e : Ending) (w' : World) : Prop :=
  ∃ pc cc, e = .returned (.slice pc (partC i cs).length cc) ∧ (partC i cs).length ≤ cc ∧ cc ≤ 9223372036854775807 ∧ RowC w' pc (partC i cs) ∧ KeepBut (fun b => B ≤ b) w w'

theorem del_of {w : World} {B3 i base : Nat} (hb : w.cell? ⟨B3, 0, none⟩ = some (.int .i64 i)) {cs : List Cl} {v : Value} (hv : w.ownsRow base TCl 8 v cs.length (cellsC cs)) (hlt : B3 < base) (hl : cs.length ≤ 60) :
    Calls Tryd.prog 31 #[v, delV B3] w fun e w' => DelAny i cs base w e w' := by
  obtain ⟨h0, ⟨rfl, h1⟩ | ⟨g, cap, cur, rfl, hbs, hg, h1, h2, h3, h4⟩⟩ := hv
  · have : cs = [] := List.eq_nil_of_length_eq_zero h1
    subst this
    refine (del_nil w B3 i hb).mono ?_
    rintro e w' ⟨rfl, hk⟩
    exact ⟨none, 0, rfl, Nat.le_refl _, by decide, fun j h => absurd h (by simp [partC]), hk.mono fun _ e => e.elim⟩
  · refine (del_any w B3 i hb g cap cs (by omega) h1 (by unfold maxLen at h2; omega) hl cur hg h3 h4).mono ?_
    rintro e w' ⟨rfl, h5, h6⟩
    exact ⟨_, cap, rfl, Nat.le_trans (List.length_filter_le _ _) h1, by unfold maxLen at h2; omega, rowC_of_rd h5, h6.mono fun b e => by have e : b = g := e; omega⟩

set_option maxHeartbeats 16000000 in
theorem part_any (w : World) (pk pc : Option Addr) (ck cc : Nat) (ks : List Int) (cs : List Cl) (hI : HistIn w pk pc ks cs) (hg : GoodH ks cs) (i : Nat) (hi : i < ks.length) :
    Calls Tryd.prog 16 #[histV pk pc ck cc ks cs, .int .i64 i] w fun e w' => PartDone ks cs i w e w' := by
  obtain ⟨V1, B2, hV1, hB2, hb2, hk1, hs1⟩ := fresh_block w (.cells #[.slice pk ks.length ck, .slice pc cs.length cc] THi)
  obtain ⟨V2, B3, hV2, hB3, hb3, hk2, hs2⟩ := fresh_block V1 (.cells #[.int .i64 i] 3)
  obtain ⟨V, B4, hV, hB4, hb4, hk3, hs3⟩ := fresh_block V2 (.cells #[.slice none 0 0, .slice none 0 0] THi)
  have hK := (hk1.trans hk2).trans hk3
  have HI := Lib.hid (hI.stay hK)
  have HM := Lib.hid (mayH_any V pk pc ck cc ks cs HI.out.rd HI.out.calls (by have := hI.k8; omega) (by have := hI.c60; omega))
  have hmay : mayH ks cs = true := mayH_iff.2 hg
  rw [hmay] at HM
  have HK := Lib.hid hK; have HB2 := Lib.hid (hk3.blk (hk2.blk hb2)); have HB3 := Lib.hid (hk3.blk hb3); have HB4 := Lib.hid hb4
  have HN := Lib.hid (show w.heap.size ≤ B2 ∧ B2 + 1 = B3 ∧ B3 + 1 = B4 ∧ V.heap.size = B4 + 1 by omega)
  have hB34 : B2 + 1 = B3 ∧ B3 + 1 = B4 := by omega
  obtain ⟨b0, b1, -⟩ := blk2 HB2.out
  have d0 := blk_cell (k := 0) HB3.out rfl
  have HC60 := Lib.hid hI.c60; have HK8 := Lib.hid hI.k8
  have hii : (i : Int) < ks.length := by omega
  have hi0 : (0 : Int) ≤ i := by omega
  obtain ⟨hq1, hq2⟩ := hB34
  unfold histV at HM ⊢
  clear hI hg hmay hk1 hk2 hk3 hb2 hb3 hb4 hs1 hs2 hs3 hK
  go_enter Tryd.func16, Tryd.ntmps16
  go_upto_region 1 with fail
  rw [← hV1, ← hB2, ← hV2, hq1, ← hV, hq2]
  clear hV1 hB2 hV2 hB3 hV hB4 hq1 hq2
  go_wp2_with fail
  go_at_call 30
  refine HM.out.mono ?_
  rintro e w2 ⟨rfl, hk⟩
  have HK2 := Lib.hid hk
  clear hk b0 b1 d0
  obtain ⟨b0, b1, -⟩ := blk2 (HK2.out.blk HB2.out)
  have d0 := blk_cell (k := 0) (HK2.out.blk HB3.out) rfl
  go_wp2_with fail
  go_at_call 32
  refine (cloneC_any w2 pc cc cs (HI.out.stay HK2.out).calls (by have := HC60.out; omega)).mono ?_
  rintro e w3 ⟨v3, rfl, hown, hk⟩
  have HOW := Lib.hid hown; have HK3 := Lib.hid hk
  clear hown hk b0 b1 d0
  go_wp2_with fail
  go_at_call 31
  refine (del_of (i := i) (blk_cell (k := 0) (HK3.out.blk (HK2.out.blk HB3.out)) rfl) HOW.out (by have := HN.out; have := HK2.out.size; omega) HC60.out).mono ?_
  rintro e w4 ⟨pc4, cc4, rfl, hcc1, hcc2, hrow, hk⟩
  have HROW := Lib.hid hrow
  have HK4 := Lib.hid (show KeepBut (fun _ => False) V w4 from (HK2.out.trans HK3.out).new hk fun b e => by have := HK2.out.size; omega)
  clear hrow hk
  obtain ⟨b0, b1, -⟩ := blk2 (HK4.out.blk HB2.out)
  obtain ⟨n4, hn4⟩ : ∃ n, (partC i cs).length = n := ⟨_, rfl⟩
  have HN4 := Lib.hid hn4
  rw [hn4] at hcc1 ⊢
  have HCC := Lib.hid (And.intro hcc1 hcc2)
  clear hn4 hcc1 hcc2
  go_wp2_with fail
  go_at_call 34
  refine (cloneInt_any w4 pk ks ck (HI.out.stay HK4.out).rd (by have := HK8.out; omega) (fun a ha => by
    obtain ⟨b, o, h1, -⟩ := HI.out.rd.ptr (by rw [ints_length]; omega)
    rw [ha] at h1; cases h1; rfl)).mono ?_
  rintro e w5 ⟨pk5, ck5, rfl, hown, hk⟩
  have HOW5 := Lib.hid hown; have HK5 := Lib.hid hk
  clear hown hk b0 b1
  go_wp2_with fail
  go_at_call 35
  refine (clipC_any _ pc4 n4 cc4 HCC.out.1 HCC.out.2).mono ?_
  rintro e w6 ⟨rfl, hw⟩
  have hw := hw.symm
  subst hw
  have hb4' := HK5.out.blk (HK4.out.blk HB4.out)
  obtain ⟨e0, e1, f0, f1⟩ := blk2 hb4'
  have hset := put1 (i := 1) (put1 (i := 0) hb4' (.slice pk5 ks.length ck5)) (.slice pc4 n4 n4)
  have hks : KeepBut (fun k => k = B4) w5 ((w5.setCell ⟨B4, 0, none⟩ (.slice pk5 ks.length ck5)).setCell ⟨B4, 1, none⟩ (.slice pc4 n4 n4)) := (KeepBut.setCell (E := fun k => k = B4) _ _ _ rfl).trans (KeepBut.setCell (E := fun k => k = B4) _ _ _ rfl)
  obtain ⟨W9, hW9⟩ : ∃ W9, (w5.setCell ⟨B4, 0, none⟩ (.slice pk5 ks.length ck5)).setCell ⟨B4, 1, none⟩ (.slice pc4 n4 n4) = W9 := ⟨_, rfl⟩
  rw [hW9] at hset hks
  obtain ⟨z0, z1, -⟩ := blk2 (show W9.heap[B4]? = some (.cells #[.slice pk5 ks.length ck5, .slice pc4 n4 n4] THi (0, 0)) from hset)
  have HFIN := Lib.hid (show PartDone ks cs i w (.returned (.agg #[.slice pk5 ks.length ck5, .slice pc4 n4 n4])) W9 from ⟨pk5, ck5, pc4, n4, by rw [HN4.out], HOW5.out.rd.keep hks fun a ha e => by
      have h1 := (HOW5.out.lt a ha).1
      have h2 := HK4.out.size
      have h3 := HN.out
      have e : a.block = B4 := e
      omega, rowC_keepB (HROW.out.stay HK5.out) hb4' hks, ((HK.out.trans HK4.out).trans HK5.out).new hks fun b e => by have e : b = B4 := e; have := HN.out; omega⟩)
  have HW9 := Lib.hid hW9
  clear hset hks hW9 hb4'
  go_wp2_with fail
  rw [HW9.out]
  exact bodyPost_ret (v := .agg #[.slice pk5 ks.length ck5, .slice pc4 n4 n4]) (by simp [results, Tryd.results16, go_sem, z0, z1]) rfl HFIN.out

end Go.Proofs.YtoolpifkfgileaaDoor
