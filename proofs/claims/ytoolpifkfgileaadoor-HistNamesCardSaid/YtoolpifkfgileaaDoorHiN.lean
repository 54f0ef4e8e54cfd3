/-
  Chapter 29: HistNames: the walk.
-/
import Derived.Test.YtoolpifkfgileaaDoorHiM
namespace Go.Proofs.YtoolpifkfgileaaDoor
open Go Go.RowKit Own

/-- the chapter's third history: the push is pending -/
def pendC : List Cl := [⟨0, 0, 1, 1, 0, -1, 0, 0⟩, ⟨1, 0, 2, 0, 1, 2, 1, 1⟩]
theorem lin_6 : LinH [1] pendC := lin_of (o := [0, 1]) (mayH_iff.1 (by decide +kernel)) (by decide) (by decide +kernel)
theorem ords_4 : ords (threeC 3 1 2 1 1) 2 0 (startP [1]) = [[0, 1]] := by decide +kernel
theorem ords_6 : ords pendC 2 0 (startP [1]) = [[0, 1]] := by decide +kernel
theorem chk_2 : chkH [1] (threeC 1 2 3 0 0) = 0 := by decide +kernel
theorem chk_bad1 : chkH [1] (threeC 0 1 2 0 0) = 2 := by decide +kernel
theorem chk_bad2 : chkH [1] (threeC 3 3 4 0 0) = 2 := by decide +kernel
theorem chk_4 : chkH [1] (threeC 3 1 2 1 1) = 0 := by decide +kernel
theorem fold_4 : foldC (startP [1]) ([0, 1].map (nthC (threeC 3 1 2 1 1))) = some [(1, [])] := by decide +kernel
theorem allow_4 : AllowedP [1] (threeC 3 1 2 1 1) [0, 1] := ⟨chk_4, [0, 1], rfl, by decide +kernel⟩
theorem allow_no1 : ¬ AllowedP [1] (threeC 3 1 2 1 1) [1, 0] := by
  rintro ⟨-, o, h1, h2⟩
  have h3 : o = [1, 0] := natI_inj h1
  subst h3
  exact absurd h2 (by decide +kernel)
theorem allow_no2 : ¬ AllowedP [1] (threeC 3 1 2 1 1) [0, 0, 1] := by
  rintro ⟨-, o, h1, h2⟩
  have h3 : o = [0, 0, 1] := natI_inj h1
  subst h3
  exact absurd h2 (by decide +kernel)

def Ord01 (w : World) (e : Ending) (w' : World) : Prop := ∃ q c, e = .returned (.tuple #[.slice q 2 c, .int .i64 0]) ∧ Rd w' q (ints [0, 1]) ∧ KeepBut (fun _ => False) w w'
theorem ord01_of {cs : List Cl} {W w' : World} {e : Ending} (hl : LinH [1] cs) (hc : cs.length = 2) (ho : ords cs 2 0 (startP [1]) = [[0, 1]]) (h : OrderDone [1] cs W e w') : Ord01 W e w' := by
  obtain ⟨q, c, o, er, rfl, h1, h2, -, -, h5, h6⟩ := order_lin h
  have h3 : er = 0 := by simpa using h1.2 hl
  have h4 := (h2 h3).2
  have h7 := ord_all (by omega) h4
  rw [hc, ho] at h7
  have h8 : o = [0, 1] := by simpa using h7
  subst h8
  subst h3
  exact ⟨q, c, rfl, h5, h6⟩
def OrdNone (w : World) (e : Ending) (w' : World) : Prop := ∃ q c, e = .returned (.tuple #[.slice q 0 c, .int .i64 6]) ∧ KeepBut (fun _ => False) w w'
theorem ordNone_of {cs : List Cl} {W w' : World} {e : Ending} (hl : ¬ LinH [1] cs) (hc : chkH [1] cs = 0) (h : OrderDone [1] cs W e w') : OrdNone W e w' := by
  obtain ⟨q, c, o, er, rfl, h1, -, h3, h4, -, h6⟩ := order_lin h
  have h7 : er ≠ 0 := fun e => hl (h1.1 (by simpa using e))
  have h8 := h3 h7
  have h9 := h4 hc h7
  subst h8
  subst h9
  exact ⟨q, c, rfl, h6⟩

def Built (w : World) (e : Ending) (w' : World) (v : Bool) : Prop := e = .returned (.bool v) ∧ KeepBut (fun _ => False) w w'

theorem rd_built (W : World) (T : TypeId) (xs : List Int) : Rd (W.alloc (.cells (ints xs).toArray T)) (some ⟨W.heap.size, 0, none⟩) (ints xs) := fun j u hj => ⟨W.heap.size, 0, rfl, by
  rw [Nat.zero_add]
  exact blk_cell (heap_alloc_new W _) (by simpa using hj)⟩

theorem rd_builtV (W : World) (T : TypeId) (vs : Array Value) : Rd (W.alloc (.cells vs T)) (some ⟨W.heap.size, 0, none⟩) vs.toList := fun j u hj => ⟨W.heap.size, 0, rfl, by
  rw [Nat.zero_add]
  exact blk_cell (heap_alloc_new W _) (by simpa using hj)⟩
theorem content_names (W : World) (q : Option Addr) (c : Nat) : Calls Tryd.prog 22 #[.agg #[.int .i64 1, .slice q 0 c], .agg #[.int .i64 1, .slice none 0 0]] W fun e w' => Built W e w' true :=
  (content_any W 1 1 q none c 0 [] [] (Rd.empty _ _) (Rd.empty _ _) (by decide) (by decide)).mono fun e w' h => ⟨h.1, h.2⟩
theorem same01 (W : World) (q p : Option Addr) (c d : Nat) (hq : Rd W q (ints [0, 1])) (hp : Rd W p (ints [0, 1])) : Calls Tryd.prog 25 #[.slice q 2 c, .slice p 2 d] W fun e w' => Built W e w' true :=
  (sameInt_any W q p c d [0, 1] [0, 1] hq hp (by decide) (by decide)).mono fun e w' h => ⟨h.1, h.2⟩

theorem ahead_names (W : World) (pk pc : Option Addr) (cs : List Cl) (hc : RowC W pc cs) (hl : cs.length = 2) (v : Bool) (hv : aheadB cs 0 1 = v) : Calls Tryd.prog 26 #[.agg #[.slice pk 1 1, .slice pc 2 2], .int .i64 0, .int .i64 1] W fun e w' => Built W e w' v := by
  have h := ahead_in W pk pc 1 2 [1] cs hc 0 1 (by omega) (by omega)
  rw [hv] at h
  unfold histV at h
  rw [hl] at h
  exact h.mono fun e w' h => ⟨h.1, h.2⟩

theorem three_blk (w : World) (tt fr en v cd : Int) (hT : TabP w) (hB : BitTab w) :
    Calls Tryd.prog 24 #[.int .i64 tt, .int .i64 fr, .int .i64 en, .int .i64 v, .int .i64 cd] w fun e w' => e = .returned (.agg #[.slice (some ⟨w.heap.size + 1, 0, none⟩) 1 1, .slice (some ⟨w.heap.size + 1 + 1, 0, none⟩) 2 2]) ∧
      HistIn w' (some ⟨w.heap.size + 1, 0, none⟩) (some ⟨w.heap.size + 1 + 1, 0, none⟩) [1] (threeC tt fr en v cd) ∧ KeepBut (fun _ => False) w w' ∧
      w'.heap[w.heap.size + 1 + 1]? = some (.cells #[.int .i64 0, .int .i64 0, .int .i64 1, .int .i64 1, .int .i64 0, .int .i64 tt, .int .i64 0, .int .i64 1, .int .i64 1, .int .i64 0, .int .i64 2, .int .i64 0, .int .i64 fr, .int .i64 en, .int .i64 v, .int .i64 cd] TCl (0, 0)) := by
  have HT := Lib.hid hT; have HB := Lib.hid hB
  clear hT hB
  go_enter Tryd.func24, Tryd.ntmps24
  go_wp2_with fail
  refine bodyPost_ret (v := .agg #[.slice (some ⟨w.heap.size + 1, 0, none⟩) 1 1, .slice (some ⟨w.heap.size + 1 + 1, 0, none⟩) 2 2]) (by simp [results, Tryd.results24, go_sem]) rfl ?_
  have h := three_world w (.cells #[.slice (some ⟨w.heap.size + 1, 0, none⟩) 1 1, .slice (some ⟨w.heap.size + 1 + 1, 0, none⟩) 2 2] 25) tt fr en v cd HT.out HB.out
  refine ⟨rfl, h.1, h.2, ?_⟩
  have h9 := heap_alloc_new ((w.alloc (.cells #[.slice (some ⟨w.heap.size + 1, 0, none⟩) 1 1, .slice (some ⟨w.heap.size + 1 + 1, 0, none⟩) 2 2] 25)).alloc (.cells #[.int .i64 1] 3)) (.cells #[.int .i64 0, .int .i64 0, .int .i64 1, .int .i64 1, .int .i64 0, .int .i64 tt, .int .i64 0, .int .i64 1, .int .i64 1, .int .i64 0, .int .i64 2, .int .i64 0, .int .i64 fr, .int .i64 en, .int .i64 v, .int .i64 cd] TCl)
  rw [World.size_alloc, World.size_alloc] at h9
  exact h9

/-- the third history, when its push has no code any more -/
theorem pend_world {w : World} {pk : Option Addr} {B : Nat} (h : HistIn w pk (some ⟨B, 0, none⟩) [1] (threeC (-1) 1 2 1 1))
    (hb : w.heap[B]? = some (.cells #[.int .i64 0, .int .i64 0, .int .i64 1, .int .i64 1, .int .i64 0, .int .i64 (-1), .int .i64 0, .int .i64 1, .int .i64 1, .int .i64 0, .int .i64 2, .int .i64 0, .int .i64 1, .int .i64 2, .int .i64 1, .int .i64 1] TCl (0, 0)))
    (hne : ∀ a, pk = some a → a.block ≠ B) (hT : TabP (w.setCell ⟨B, 7, none⟩ (.int .i64 0))) (hB : BitTab (w.setCell ⟨B, 7, none⟩ (.int .i64 0))) : HistIn (w.setCell ⟨B, 7, none⟩ (.int .i64 0)) pk (some ⟨B, 0, none⟩) [1] pendC := by
  have hs := put1 (i := 7) hb (.int .i64 0)
  have ks1 : KeepBut (fun k => k = B) w (w.setCell ⟨B, 7, none⟩ (.int .i64 0)) := KeepBut.setCell _ _ _ rfl
  refine ⟨h.rd.keep ks1 fun a ha e => hne a ha e, fun i hi => ⟨_, _, rfl, ?_⟩, h.k8, by decide, h.kin, fun c hc => ?_, hT, hB⟩
  · have hi : i < 2 := hi
    match i, hi with
    | 0, _ => exact ⟨blk_cell hs rfl, blk_cell hs rfl, blk_cell hs rfl, blk_cell hs rfl, blk_cell hs rfl, blk_cell hs rfl, blk_cell hs rfl, blk_cell hs rfl⟩
    | 1, _ => exact ⟨blk_cell hs rfl, blk_cell hs rfl, blk_cell hs rfl, blk_cell hs rfl, blk_cell hs rfl, blk_cell hs rfl, blk_cell hs rfl, blk_cell hs rfl⟩
  · simp only [pendC, List.mem_cons, List.not_mem_nil, or_false] at hc
    rcases hc with rfl | rfl
    · exact in64_ok (show (-9223372036854775808 : Int) ≤ 1 ∧ (1 : Int) ≤ 9223372036854775807 by decide)
    · exact in64_ok (show (-9223372036854775808 : Int) ≤ 0 ∧ (0 : Int) ≤ 9223372036854775807 by decide)

set_option maxRecDepth 100000 in
set_option maxHeartbeats 32000000 in
theorem names_walk (w : World) (hT : TabP w) (hB : BitTab w) :
    Calls Tryd.prog 7 #[] w fun e w' => TrueOf w e w' := by
  have HT := Lib.hid hT; have HB := Lib.hid hB
  have HTB := Lib.hid (show ∀ W, KeepBut (fun _ => False) w W → TabP W ∧ BitTab W from fun W h => ⟨h.tabP HT.out, h.bitTab HB.out⟩)
  clear hT hB
  go_enter Tryd.func7, Tryd.ntmps7
  go_wp2_with fail
  go_at_call 24
  refine (three_any w 3 1 2 1 1 HT.out HB.out).mono ?_
  rintro e w1 ⟨pk1, pc1, rfl, hi1, -, -, hk1⟩
  obtain ⟨W1, B1, hW1, hB1, hb1, hkW1, -⟩ := fresh_block w1 (.cells #[.slice pk1 1 1, .slice pc1 2 2] THi)
  have HK1 := Lib.hid (hk1.trans hkW1); have HI1 := Lib.hid (hi1.stay hkW1); have HB1 := Lib.hid hb1
  clear hi1 hk1 hkW1
  go_upto_region 2 with fail
  rw [← hW1, ← hB1]
  clear hW1 hB1
  obtain ⟨b0, b1, -⟩ := blk2 hb1
  clear hb1
  go_wp2_with fail
  go_at_call 17
  refine (order_any W1 pk1 pc1 1 2 [1] (threeC 3 1 2 1 1) HI1.out).mono ?_
  intro e w2 h
  obtain ⟨q2, c2, rfl, hr2, hk2⟩ := ord01_of lin_4 rfl ords_4 h
  have HR2 := Lib.hid hr2; have HK2 := Lib.hid hk2
  clear h hr2 hk2 b0 b1
  go_wp2_with fail
  go_at_call 24
  refine (three_any w2 1 2 3 0 0 (HTB.out w2 (HK1.out.trans HK2.out)).1 (HTB.out w2 (HK1.out.trans HK2.out)).2).mono ?_
  rintro e w3 ⟨pk3, pc3, rfl, hi3, -, -, hk3⟩
  have HI3 := Lib.hid hi3; have HK3 := Lib.hid (HK2.out.trans hk3); have HR3 := Lib.hid (HR2.out.stay hk3)
  clear hi3 hk3
  go_wp2_with fail
  go_at_call 17
  refine (order_any w3 pk3 pc3 1 2 [1] (threeC 1 2 3 0 0) HI3.out).mono ?_
  intro e w4 h
  obtain ⟨q4, c4, rfl, hk4⟩ := ordNone_of lin_2 chk_2 h
  have HK4 := Lib.hid (HK3.out.trans hk4); have HR4 := Lib.hid (HR3.out.stay hk4)
  clear h hk4
  go_wp2_with fail
  go_at_call 24
  refine (three_blk w4 (-1) 1 2 1 1 (HTB.out w4 (HK1.out.trans HK4.out)).1 (HTB.out w4 (HK1.out.trans HK4.out)).2).mono ?_
  rintro e w5 ⟨rfl, hi5, hk5, hblk5⟩
  obtain ⟨B5, hB5⟩ : ∃ b, w4.heap.size + 1 + 1 = b := ⟨_, rfl⟩
  rw [hB5] at hi5 hblk5 ⊢
  obtain ⟨K5, hK5⟩ : ∃ b, w4.heap.size + 1 = b := ⟨_, rfl⟩
  rw [hK5] at hi5 ⊢
  obtain ⟨W5, B6, hW5, hB6, hb6, hkW5, -⟩ := fresh_block w5 (.cells #[.slice (some ⟨K5, 0, none⟩) 1 1, .slice (some ⟨B5, 0, none⟩) 2 2] THi)
  have HI5 := Lib.hid (hi5.stay hkW5); have HBL5 := Lib.hid (hkW5.blk hblk5); have HB6 := Lib.hid hb6
  have HK5 := Lib.hid (HK4.out.trans (hk5.trans hkW5)); have HR5 := Lib.hid (HR4.out.stay (hk5.trans hkW5))
  have HK45 := Lib.hid (hk5.trans hkW5)
  have HN5 := Lib.hid (show W1.heap.size ≤ B5 ∧ K5 ≠ B5 ∧ B5 < W5.heap.size ∧ w4.heap.size ≤ B5 ∧ B5 < w5.heap.size by
    have h1 := HK4.out.size
    have h2 := (Array.getElem?_eq_some_iff.1 hblk5).1
    have h3 := hkW5.size
    omega)
  clear hi5 hk5 hkW5 hblk5
  go_upto_region 5 with fail
  rw [← hW5, ← hB6]
  have HNB6 := Lib.hid (show B6 ≠ B5 by have := HN5.out; omega)
  clear hW5 hB6 hB5 hK5
  obtain ⟨b0, b1, -⟩ := blk2 hb6
  have hcell : W5.cell? ⟨B5, 7, none⟩ = some (.int .i64 1) := blk_cell HBL5.out rfl
  have hfr : W5.frozen? ⟨B5, 7, none⟩ = false := by simp [World.frozen?, HBL5.out]
  clear hb6
  go_upto_region 6 with fail
  have ks1 : KeepBut (fun k => k = B5) W5 (W5.setCell ⟨B5, 7, none⟩ (.int .i64 0)) := KeepBut.setCell _ _ _ rfl
  have hkk : KeepBut (fun _ => False) W1 (W5.setCell ⟨B5, 7, none⟩ (.int .i64 0)) := HK5.out.new ks1 fun b e => by have e : b = B5 := e; have := HN5.out; omega
  have hip := pend_world HI5.out HBL5.out (fun a ha => by cases ha; exact HN5.out.2.1) (HTB.out _ (HK1.out.trans hkk)).1 (HTB.out _ (HK1.out.trans hkk)).2
  have HR6 := Lib.hid (show Rd (W5.setCell ⟨B5, 7, none⟩ (.int .i64 0)) q2 (ints [0, 1]) from HR4.out.stay (HK45.out.new ks1 fun b e => by have e : b = B5 := e; have := HN5.out; omega))
  have hb6' := keep_blk ks1 HB6.out (fun e => HNB6.out e)
  obtain ⟨W6, hW6⟩ : ∃ W, W5.setCell ⟨B5, 7, none⟩ (.int .i64 0) = W := ⟨_, rfl⟩
  rw [hW6] at hkk hip HR6 hb6' ⊢
  have HK6 := Lib.hid hkk; have HI6 := Lib.hid hip
  clear hkk hip ks1 hW6 b0 b1 hcell hfr
  obtain ⟨b0, b1, -⟩ := blk2 hb6'
  clear hb6'
  go_wp2_with fail
  go_at_call 17
  refine (order_any W6 (some ⟨K5, 0, none⟩) (some ⟨B5, 0, none⟩) 1 2 [1] pendC HI6.out).mono ?_
  intro e w7 h
  obtain ⟨q7, c7, rfl, hr7, hk7⟩ := ord01_of lin_6 rfl ords_6 h
  have HRm7 := Lib.hid hr7; have HRl7 := Lib.hid (HR6.out.stay hk7); have HK7 := Lib.hid (HK6.out.trans hk7)
  clear h hr7 hk7 b0 b1
  go_wp2_with fail
  go_at_call 9
  refine (lives_any w7 (HTB.out w7 (HK1.out.trans HK7.out)).1 (HTB.out w7 (HK1.out.trans HK7.out)).2).mono ?_
  rintro e w8 ⟨rfl, hk⟩
  have HK8 := Lib.hid (HK7.out.trans hk); have HRl8 := Lib.hid (HRl7.out.stay hk); have HRm8 := Lib.hid (HRm7.out.stay hk)
  clear hk
  go_wp2_with fail
  go_at_call 25
  refine (same01 _ q2 _ c2 _ (HRl8.out.stay (KeepBut.alloc _ _ _)) (rd_built w8 _ [0, 1])).mono ?_
  rintro e w9 ⟨rfl, hk⟩
  have HK9 := Lib.hid (HK8.out.trans ((KeepBut.alloc _ _ _).trans hk)); have HRl9 := Lib.hid (HRl8.out.stay ((KeepBut.alloc _ _ _).trans hk)); have HRm9 := Lib.hid (HRm8.out.stay ((KeepBut.alloc _ _ _).trans hk))
  clear hk
  go_wp2_with fail
  go_at_call 25
  refine (same01 _ q7 _ c7 _ (HRm9.out.stay (KeepBut.alloc _ _ _)) (rd_built w9 _ [0, 1])).mono ?_
  rintro e w10 ⟨rfl, hk⟩
  have HK10 := Lib.hid (HK9.out.trans ((KeepBut.alloc _ _ _).trans hk)); have HRl10 := Lib.hid (HRl9.out.stay ((KeepBut.alloc _ _ _).trans hk)); have HRm10 := Lib.hid (HRm9.out.stay ((KeepBut.alloc _ _ _).trans hk))
  clear hk
  go_wp2_with fail
  go_at_call 24
  refine (three_any w10 0 1 2 0 0 (HTB.out w10 (HK1.out.trans HK10.out)).1 (HTB.out w10 (HK1.out.trans HK10.out)).2).mono ?_
  rintro e w11 ⟨pkx, pcx, rfl, hix, -, -, hk⟩
  have HK11 := Lib.hid (HK10.out.trans hk); have HRl11 := Lib.hid (HRl10.out.stay hk); have HRm11 := Lib.hid (HRm10.out.stay hk)
  clear hk
  go_wp2_with fail
  go_at_call 11
  have HCx := Lib.hid (chkH_any w11 pkx pcx 1 2 [1] (threeC 0 1 2 0 0) hix.rd hix.calls (by decide) (by show 2 ≤ _; decide))
  rw [chk_bad1] at HCx
  clear hix
  refine (HCx.out).mono ?_
  rintro e w12 ⟨rfl, hk⟩
  have HK12 := Lib.hid (HK11.out.trans hk); have HRl12 := Lib.hid (HRl11.out.stay hk); have HRm12 := Lib.hid (HRm11.out.stay hk)
  clear hk
  go_wp2_with fail
  go_at_call 24
  refine (three_any w12 3 3 4 0 0 (HTB.out w12 (HK1.out.trans HK12.out)).1 (HTB.out w12 (HK1.out.trans HK12.out)).2).mono ?_
  rintro e w13 ⟨pky, pcy, rfl, hiy, -, -, hk⟩
  have HK13 := Lib.hid (HK12.out.trans hk); have HRl13 := Lib.hid (HRl12.out.stay hk); have HRm13 := Lib.hid (HRm12.out.stay hk)
  clear hk
  go_wp2_with fail
  go_at_call 11
  have HCy := Lib.hid (chkH_any w13 pky pcy 1 2 [1] (threeC 3 3 4 0 0) hiy.rd hiy.calls (by decide) (by show 2 ≤ _; decide))
  rw [chk_bad2] at HCy
  clear hiy
  refine (HCy.out).mono ?_
  rintro e w14 ⟨rfl, hk⟩
  have HK14 := Lib.hid (HK13.out.trans hk); have HRl14 := Lib.hid (HRl13.out.stay hk); have HRm14 := Lib.hid (HRm13.out.stay hk)
  clear hk
  go_wp2_with fail
  go_at_call 24
  refine (three_any w14 1 2 3 0 0 (HTB.out w14 (HK1.out.trans HK14.out)).1 (HTB.out w14 (HK1.out.trans HK14.out)).2).mono ?_
  rintro e w15 ⟨pkz, pcz, rfl, hiz, -, -, hk⟩
  have HK15 := Lib.hid (HK14.out.trans hk); have HRl15 := Lib.hid (HRl14.out.stay hk); have HRm15 := Lib.hid (HRm14.out.stay hk)
  clear hk
  go_wp2_with fail
  go_at_call 26
  refine (ahead_names w15 pkz pcz (threeC 1 2 3 0 0) hiz.calls rfl true (by decide +kernel)).mono ?_
  rintro e w16 ⟨rfl, hk⟩
  clear hiz
  have HK16 := Lib.hid (HK15.out.trans hk); have HRl16 := Lib.hid (HRl15.out.stay hk); have HRm16 := Lib.hid (HRm15.out.stay hk)
  clear hk
  obtain ⟨b0, b1, -⟩ := blk2 (HK16.out.blk HB1.out)
  go_wp2_with fail
  go_at_call 26
  refine (ahead_names w16 pk1 pc1 (threeC 3 1 2 1 1) (HI1.out.stay HK16.out).calls rfl false (by decide +kernel)).mono ?_
  rintro e w17 ⟨rfl, hk⟩
  have HK17 := Lib.hid (HK16.out.trans hk); have HRl17 := Lib.hid (HRl16.out.stay hk); have HRm17 := Lib.hid (HRm16.out.stay hk)
  clear hk b0 b1
  obtain ⟨b0, b1, -⟩ := blk2 (HK17.out.blk HB1.out)
  go_wp2_with fail
  go_at_call 28
  refine (turns_any w17 pk1 pc1 1 2 [1] (threeC 3 1 2 1 1) (HI1.out.stay HK17.out) q2 c2 [0, 1] HRl17.out (by decide) allow_4).mono ?_
  rintro e w18 ⟨pt, ct, rfl, hrt, hk⟩
  have HRT := Lib.hid hrt
  clear hrt
  have HK18 := Lib.hid (HK17.out.trans hk); have HRl18 := Lib.hid (HRl17.out.stay hk); have HRm18 := Lib.hid (HRm17.out.stay hk)
  clear hk b0 b1
  go_wp2_with fail
  go_at_call 27
  refine (sameTurn_any _ pt _ ct _ [(0, false), (1, false)] (HRT.out.stay (KeepBut.alloc _ _ _)) (rd_builtV w18 _ _) (by decide)).mono ?_
  rintro e w19 ⟨rfl, hk⟩
  have HK19 := Lib.hid (HK18.out.trans ((KeepBut.alloc _ _ _).trans hk)); have HRl19 := Lib.hid (HRl18.out.stay ((KeepBut.alloc _ _ _).trans hk)); have HRm19 := Lib.hid (HRm18.out.stay ((KeepBut.alloc _ _ _).trans hk))
  clear hk
  obtain ⟨b0, b1, -⟩ := blk2 (HK19.out.blk HB1.out)
  go_wp2_with fail
  go_at_call 23
  refine (ends_any w19 pk1 pc1 1 2 [1] (threeC 3 1 2 1 1) (HI1.out.stay HK19.out) q2 c2 [0, 1] HRl19.out (by decide) 0 (by decide) allow_4).mono ?_
  rintro e w20 ⟨qe, ce, xe, ke, he, oe, rfl, h1, h2, h3, h4, -, hk⟩
  have h5 : oe = [0, 1] := natI_inj h1
  subst h5
  have h6 : he = [(1, [])] := Option.some.inj (h2.symm.trans fold_4)
  subst h6
  have h7 : ke = 1 ∧ xe = [] := by
    have h8 : ((1 : Int), ([] : List Int)) = (ke, xe) := h3
    cases h8
    exact ⟨rfl, rfl⟩
  obtain ⟨rfl, rfl⟩ := h7
  clear h1 h2 h3 h4
  have HK20 := Lib.hid (HK19.out.trans hk); have HRl20 := Lib.hid (HRl19.out.stay hk); have HRm20 := Lib.hid (HRm19.out.stay hk)
  clear hk b0 b1
  go_wp2_with fail
  go_at_call 22
  refine (content_names w20 qe ce).mono ?_
  rintro e w21 ⟨rfl, hk⟩
  have HK21 := Lib.hid (HK20.out.trans hk); have HRl21 := Lib.hid (HRl20.out.stay hk); have HRm21 := Lib.hid (HRm20.out.stay hk)
  clear hk
  obtain ⟨b0, b1, -⟩ := blk2 (HK21.out.blk HB1.out)
  go_wp2_with fail
  go_at_call 19
  refine (allowed_any _ pk1 pc1 1 2 [1] (threeC 3 1 2 1 1) (HI1.out.stay (HK21.out.trans (KeepBut.alloc _ _ _))) (some ⟨w21.heap.size, 0, none⟩) 2 [1, 0] (rd_built w21 _ [1, 0]) (by decide)).mono ?_
  rintro e w22 ⟨v, rfl, hv, hk⟩
  have hv2 : v = false := by rw [← Bool.not_eq_true]; exact fun e => allow_no1 (hv.1 e)
  clear hv
  subst hv2
  have HK22 := Lib.hid (HK21.out.trans ((KeepBut.alloc _ _ _).trans hk)); have HRl22 := Lib.hid (HRl21.out.stay ((KeepBut.alloc _ _ _).trans hk)); have HRm22 := Lib.hid (HRm21.out.stay ((KeepBut.alloc _ _ _).trans hk))
  clear hk b0 b1
  obtain ⟨b0, b1, -⟩ := blk2 (HK22.out.blk HB1.out)
  go_wp2_with fail
  go_at_call 19
  refine (allowed_any _ pk1 pc1 1 2 [1] (threeC 3 1 2 1 1) (HI1.out.stay (HK22.out.trans (KeepBut.alloc _ _ _))) (some ⟨w22.heap.size, 0, none⟩) 3 [0, 0, 1] (rd_built w22 _ [0, 0, 1]) (by decide)).mono ?_
  rintro e w23 ⟨v, rfl, hv, hk⟩
  have hv2 : v = false := by rw [← Bool.not_eq_true]; exact fun e => allow_no2 (hv.1 e)
  clear hv
  subst hv2
  have HK23 := Lib.hid (HK22.out.trans ((KeepBut.alloc _ _ _).trans hk)); have HRl23 := Lib.hid (HRl22.out.stay ((KeepBut.alloc _ _ _).trans hk)); have HRm23 := Lib.hid (HRm22.out.stay ((KeepBut.alloc _ _ _).trans hk))
  clear hk b0 b1
  go_wp2_with fail
  go_ret
  exact ⟨rfl, HK1.out.trans HK23.out⟩

end Go.Proofs.YtoolpifkfgileaaDoor
