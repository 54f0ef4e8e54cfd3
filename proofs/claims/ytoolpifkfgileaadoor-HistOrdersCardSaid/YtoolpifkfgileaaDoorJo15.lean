/- Joined texts of this work: HiN, Hp5, OwnR, Ref1, Ref2, Ref3, Ref4, Lives. -/
import Derived.Test.YtoolpifkfgileaaDoorJo14
import Derived.Test.YtoolpifkfgileaaDoorJo8
import Derived.BigQuiet
import Derived.Deep.QuietTactic
import Derived.Laws.Concat

/-
  Chapter 29: HistNames: the walk.
-/
namespace Go.Proofs.YtoolpifkfgileaaDoor
open Go Go.RowKit Own

/-- the chapter's third history: the push is pending -/
def pendC : List Cl := [⟨0, 0, 1, 1, 0, -1, 0, 0⟩, ⟨1, 0, 2, 0, 1, 2, 1, 1⟩]
theorem lin_6 : LinH [1] pendC := lin_of (o := [0, 1]) (mayH_iff.1 (by decide +kernel)) (by decide) (by decide +kernel)
theorem ords_4 : ords (threeC 3 1 2 1 1) 2 0 (startP [1]) = [[0, 1]] := by decide +kernel
theorem ords_6 : ords pendC 2 0 (startP [1]) = [[0, 1]] := by decide +kernel
theorem chk_2 : chkH [1] (threeC 1 2 3 0 0) = 0 := by decide +kernel
theorem chk_bad1 : chkH [1] (threeC 0 1 2 0 0) = 2 := by decide +kernel
theorem chk_bad2 : chkH [1] (threeC 3 3 4 0 0) = 2 := by decide +kernel
theorem chk_4 : chkH [1] (threeC 3 1 2 1 1) = 0 := by decide +kernel
theorem fold_4 : foldC (startP [1]) ([0, 1].map (nthC (threeC 3 1 2 1 1))) = some [(1, [])] := by decide +kernel
theorem allow_4 : AllowedP [1] (threeC 3 1 2 1 1) [0, 1] := ⟨chk_4, [0, 1], rfl, by decide +kernel⟩
theorem allow_no1 : ¬ AllowedP [1] (threeC 3 1 2 1 1) [1, 0] := by
  rintro ⟨-, o, h1, h2⟩
  have h3 : o = [1, 0] := natI_inj h1
  subst h3
  exact absurd h2 (by decide +kernel)
theorem allow_no2 : ¬ AllowedP [1] (threeC 3 1 2 1 1) [0, 0, 1] := by
  rintro ⟨-, o, h1, h2⟩
  have h3 : o = [0, 0, 1] := natI_inj h1
  subst h3
  exact absurd h2 (by decide +kernel)

def Ord01 (w : World) (e : Ending) (w' : World) : Prop := ∃ q c, e = .returned (.tuple #[.slice q 2 c, .int .i64 0]) ∧ Rd w' q (ints [0, 1]) ∧ KeepBut (fun _ => False) w w'
theorem ord01_of {cs : List Cl} {W w' : World} {e : Ending} (hl : LinH [1] cs) (hc : cs.length = 2) (ho : ords cs 2 0 (startP [1]) = [[0, 1]]) (h : OrderDone [1] cs W e w') : Ord01 W e w' := by
  obtain ⟨q, c, o, er, rfl, h1, h2, -, -, h5, h6⟩ := order_lin h
  have h3 : er = 0 := by simpa using h1.2 hl
  have h4 := (h2 h3).2
  have h7 := ord_all (by omega) h4
  rw [hc, ho] at h7
  have h8 : o = [0, 1] := by simpa using h7
  subst h8
  subst h3
  exact ⟨q, c, rfl, h5, h6⟩
def OrdNone (w : World) (e : Ending) (w' : World) : Prop := ∃ q c, e = .returned (.tuple #[.slice q 0 c, .int .i64 6]) ∧ KeepBut (fun _ => False) w w'
theorem ordNone_of {cs : List Cl} {W w' : World} {e : Ending} (hl : ¬ LinH [1] cs) (hc : chkH [1] cs = 0) (h : OrderDone [1] cs W e w') : OrdNone W e w' := by
  obtain ⟨q, c, o, er, rfl, h1, -, h3, h4, -, h6⟩ := order_lin h
  have h7 : er ≠ 0 := fun e => hl (h1.1 (by simpa using e))
  have h8 := h3 h7
  have h9 := h4 hc h7
  subst h8
  subst h9
  exact ⟨q, c, rfl, h6⟩

def Built (w : World) (e : Ending) (w' : World) (v : Bool) : Prop := e = .returned (.bool v) ∧ KeepBut (fun _ => False) w w'

theorem rd_built (W : World) (T : TypeId) (xs : List Int) : Rd (W.alloc (.cells (ints xs).toArray T)) (some ⟨W.heap.size, 0, none⟩) (ints xs) := fun j u hj => ⟨W.heap.size, 0, rfl, by
  rw [Nat.zero_add]
  exact blk_cell (heap_alloc_new W _) (by simpa using hj)⟩

theorem rd_builtV (W : World) (T : TypeId) (vs : Array Value) : Rd (W.alloc (.cells vs T)) (some ⟨W.heap.size, 0, none⟩) vs.toList := fun j u hj => ⟨W.heap.size, 0, rfl, by
  rw [Nat.zero_add]
  exact blk_cell (heap_alloc_new W _) (by simpa using hj)⟩
theorem content_names (W : World) (q : Option Addr) (c : Nat) : Calls Tryd.prog 22 #[.agg #[.int .i64 1, .slice q 0 c], .agg #[.int .i64 1, .slice none 0 0]] W fun e w' => Built W e w' true :=
  (content_any W 1 1 q none c 0 [] [] (Rd.empty _ _) (Rd.empty _ _) (by decide) (by decide)).mono fun e w' h => ⟨h.1, h.2⟩
theorem same01 (W : World) (q p : Option Addr) (c d : Nat) (hq : Rd W q (ints [0, 1])) (hp : Rd W p (ints [0, 1])) : Calls Tryd.prog 25 #[.slice q 2 c, .slice p 2 d] W fun e w' => Built W e w' true :=
  (sameInt_any W q p c d [0, 1] [0, 1] hq hp (by decide) (by decide)).mono fun e w' h => ⟨h.1, h.2⟩

theorem ahead_names (W : World) (pk pc : Option Addr) (cs : List Cl) (hc : RowC W pc cs) (hl : cs.length = 2) (v : Bool) (hv : aheadB cs 0 1 = v) : Calls Tryd.prog 26 #[.agg #[.slice pk 1 1, .slice pc 2 2], .int .i64 0, .int .i64 1] W fun e w' => Built W e w' v := by
  have h := ahead_in W pk pc 1 2 [1] cs hc 0 1 (by omega) (by omega)
  rw [hv] at h
  unfold histV at h
  rw [hl] at h
  exact h.mono fun e w' h => ⟨h.1, h.2⟩

theorem three_blk (w : World) (tt fr en v cd : Int) (hT : TabP w) (hB : BitTab w) :
    Calls Tryd.prog 24 #[.int .i64 tt, .int .i64 fr, .int .i64 en, .int .i64 v, .int .i64 cd] w fun e w' => e = .returned (.agg #[.slice (some ⟨w.heap.size + 1, 0, none⟩) 1 1, .slice (some ⟨w.heap.size + 1 + 1, 0, none⟩) 2 2]) ∧
      HistIn w' (some ⟨w.heap.size + 1, 0, none⟩) (some ⟨w.heap.size + 1 + 1, 0, none⟩) [1] (threeC tt fr en v cd) ∧ KeepBut (fun _ => False) w w' ∧
      w'.heap[w.heap.size + 1 + 1]? = some (.cells #[.int .i64 0, .int .i64 0, .int .i64 1, .int .i64 1, .int .i64 0, .int .i64 tt, .int .i64 0, .int .i64 1, .int .i64 1, .int .i64 0, .int .i64 2, .int .i64 0, .int .i64 fr, .int .i64 en, .int .i64 v, .int .i64 cd] TCl (0, 0)) := by
  have HT := Lib.hid hT; have HB := Lib.hid hB
  clear hT hB
  go_enter Tryd.func24, Tryd.ntmps24
  go_wp2_with fail
  refine bodyPost_ret (v := .agg #[.slice (some ⟨w.heap.size + 1, 0, none⟩) 1 1, .slice (some ⟨w.heap.size + 1 + 1, 0, none⟩) 2 2]) (by simp [results, Tryd.results24, go_sem]) rfl ?_
  have h := three_world w (.cells #[.slice (some ⟨w.heap.size + 1, 0, none⟩) 1 1, .slice (some ⟨w.heap.size + 1 + 1, 0, none⟩) 2 2] 25) tt fr en v cd HT.out HB.out
  refine ⟨rfl, h.1, h.2, ?_⟩
  have h9 := heap_alloc_new ((w.alloc (.cells #[.slice (some ⟨w.heap.size + 1, 0, none⟩) 1 1, .slice (some ⟨w.heap.size + 1 + 1, 0, none⟩) 2 2] 25)).alloc (.cells #[.int .i64 1] 3)) (.cells #[.int .i64 0, .int .i64 0, .int .i64 1, .int .i64 1, .int .i64 0, .int .i64 tt, .int .i64 0, .int .i64 1, .int .i64 1, .int .i64 0, .int .i64 2, .int .i64 0, .int .i64 fr, .int .i64 en, .int .i64 v, .int .i64 cd] TCl)
  rw [World.size_alloc, World.size_alloc] at h9
  exact h9

/-- the third history, when its push has no code any more -/
theorem pend_world {w : World} {pk : Option Addr} {B : Nat} (h : HistIn w pk (some ⟨B, 0, none⟩) [1] (threeC (-1) 1 2 1 1))
    (hb : w.heap[B]? = some (.cells #[.int .i64 0, .int .i64 0, .int .i64 1, .int .i64 1, .int .i64 0, .int .i64 (-1), .int .i64 0, .int .i64 1, .int .i64 1, .int .i64 0, .int .i64 2, .int .i64 0, .int .i64 1, .int .i64 2, .int .i64 1, .int .i64 1] TCl (0, 0)))
    (hne : ∀ a, pk = some a → a.block ≠ B) (hT : TabP (w.setCell ⟨B, 7, none⟩ (.int .i64 0))) (hB : BitTab (w.setCell ⟨B, 7, none⟩ (.int .i64 0))) : HistIn (w.setCell ⟨B, 7, none⟩ (.int .i64 0)) pk (some ⟨B, 0, none⟩) [1] pendC := by
  have hs := put1 (i := 7) hb (.int .i64 0)
  have ks1 : KeepBut (fun k => k = B) w (w.setCell ⟨B, 7, none⟩ (.int .i64 0)) := KeepBut.setCell _ _ _ rfl
  refine ⟨h.rd.keep ks1 fun a ha e => hne a ha e, fun i hi => ⟨_, _, rfl, ?_⟩, h.k8, by decide, h.kin, fun c hc => ?_, hT, hB⟩
  · have hi : i < 2 := hi
    match i, hi with
    | 0, _ => exact ⟨blk_cell hs rfl, blk_cell hs rfl, blk_cell hs rfl, blk_cell hs rfl, blk_cell hs rfl, blk_cell hs rfl, blk_cell hs rfl, blk_cell hs rfl⟩
    | 1, _ => exact ⟨blk_cell hs rfl, blk_cell hs rfl, blk_cell hs rfl, blk_cell hs rfl, blk_cell hs rfl, blk_cell hs rfl, blk_cell hs rfl, blk_cell hs rfl⟩
  · simp only [pendC, List.mem_cons, List.not_mem_nil, or_false] at hc
    rcases hc with rfl | rfl
    · exact in64_ok (show (-9223372036854775808 : Int) ≤ 1 ∧ (1 : Int) ≤ 9223372036854775807 by decide)
    · exact in64_ok (show (-9223372036854775808 : Int) ≤ 0 ∧ (0 : Int) ≤ 9223372036854775807 by decide)

set_option maxRecDepth 100000 in
set_option maxHeartbeats 32000000 in
theorem names_walk (w : World) (hT : TabP w) (hB : BitTab w) :
    Calls Tryd.prog 7 #[] w fun e w' => TrueOf w e w' := by
  have HT := Lib.hid hT; have HB := Lib.hid hB
  have HTB := Lib.hid (show ∀ W, KeepBut (fun _ => False) w W → TabP W ∧ BitTab W from fun W h => ⟨h.tabP HT.out, h.bitTab HB.out⟩)
  clear hT hB
  go_enter Tryd.func7, Tryd.ntmps7
  go_wp2_with fail
  go_at_call 24
  refine (three_any w 3 1 2 1 1 HT.out HB.out).mono ?_
  rintro e w1 ⟨pk1, pc1, rfl, hi1, -, -, hk1⟩
  obtain ⟨W1, B1, hW1, hB1, hb1, hkW1, -⟩ := fresh_block w1 (.cells #[.slice pk1 1 1, .slice pc1 2 2] THi)
  have HK1 := Lib.hid (hk1.trans hkW1); have HI1 := Lib.hid (hi1.stay hkW1); have HB1 := Lib.hid hb1
  clear hi1 hk1 hkW1
  go_upto_region 2 with fail
  rw [← hW1, ← hB1]
  clear hW1 hB1
  obtain ⟨b0, b1, -⟩ := blk2 hb1
  clear hb1
  go_wp2_with fail
  go_at_call 17
  refine (order_any W1 pk1 pc1 1 2 [1] (threeC 3 1 2 1 1) HI1.out).mono ?_
  intro e w2 h
  obtain ⟨q2, c2, rfl, hr2, hk2⟩ := ord01_of lin_4 rfl ords_4 h
  have HR2 := Lib.hid hr2; have HK2 := Lib.hid hk2
  clear h hr2 hk2 b0 b1
  go_wp2_with fail
  go_at_call 24
  refine (three_any w2 1 2 3 0 0 (HTB.out w2 (HK1.out.trans HK2.out)).1 (HTB.out w2 (HK1.out.trans HK2.out)).2).mono ?_
  rintro e w3 ⟨pk3, pc3, rfl, hi3, -, -, hk3⟩
  have HI3 := Lib.hid hi3; have HK3 := Lib.hid (HK2.out.trans hk3); have HR3 := Lib.hid (HR2.out.stay hk3)
  clear hi3 hk3
  go_wp2_with fail
  go_at_call 17
  refine (order_any w3 pk3 pc3 1 2 [1] (threeC 1 2 3 0 0) HI3.out).mono ?_
  intro e w4 h
  obtain ⟨q4, c4, rfl, hk4⟩ := ordNone_of lin_2 chk_2 h
  have HK4 := Lib.hid (HK3.out.trans hk4); have HR4 := Lib.hid (HR3.out.stay hk4)
  clear h hk4
  go_wp2_with fail
  go_at_call 24
  refine (three_blk w4 (-1) 1 2 1 1 (HTB.out w4 (HK1.out.trans HK4.out)).1 (HTB.out w4 (HK1.out.trans HK4.out)).2).mono ?_
  rintro e w5 ⟨rfl, hi5, hk5, hblk5⟩
  obtain ⟨B5, hB5⟩ : ∃ b, w4.heap.size + 1 + 1 = b := ⟨_, rfl⟩
  rw [hB5] at hi5 hblk5 ⊢
  obtain ⟨K5, hK5⟩ : ∃ b, w4.heap.size + 1 = b := ⟨_, rfl⟩
  rw [hK5] at hi5 ⊢
  obtain ⟨W5, B6, hW5, hB6, hb6, hkW5, -⟩ := fresh_block w5 (.cells #[.slice (some ⟨K5, 0, none⟩) 1 1, .slice (some ⟨B5, 0, none⟩) 2 2] THi)
  have HI5 := Lib.hid (hi5.stay hkW5); have HBL5 := Lib.hid (hkW5.blk hblk5); have HB6 := Lib.hid hb6
  have HK5 := Lib.hid (HK4.out.trans (hk5.trans hkW5)); have HR5 := Lib.hid (HR4.out.stay (hk5.trans hkW5))
  have HK45 := Lib.hid (hk5.trans hkW5)
  have HN5 := Lib.hid (show W1.heap.size ≤ B5 ∧ K5 ≠ B5 ∧ B5 < W5.heap.size ∧ w4.heap.size ≤ B5 ∧ B5 < w5.heap.size by
    have h1 := HK4.out.size
    have h2 := (Array.getElem?_eq_some_iff.1 hblk5).1
    have h3 := hkW5.size
    omega)
  clear hi5 hk5 hkW5 hblk5
  go_upto_region 5 with fail
  rw [← hW5, ← hB6]
  have HNB6 := Lib.hid (show B6 ≠ B5 by have := HN5.out; omega)
  clear hW5 hB6 hB5 hK5
  obtain ⟨b0, b1, -⟩ := blk2 hb6
  have hcell : W5.cell? ⟨B5, 7, none⟩ = some (.int .i64 1) := blk_cell HBL5.out rfl
  have hfr : W5.frozen? ⟨B5, 7, none⟩ = false := by simp [World.frozen?, HBL5.out]
  clear hb6
  go_upto_region 6 with fail
  have ks1 : KeepBut (fun k => k = B5) W5 (W5.setCell ⟨B5, 7, none⟩ (.int .i64 0)) := KeepBut.setCell _ _ _ rfl
  have hkk : KeepBut (fun _ => False) W1 (W5.setCell ⟨B5, 7, none⟩ (.int .i64 0)) := HK5.out.new ks1 fun b e => by have e : b = B5 := e; have := HN5.out; omega
  have hip := pend_world HI5.out HBL5.out (fun a ha => by cases ha; exact HN5.out.2.1) (HTB.out _ (HK1.out.trans hkk)).1 (HTB.out _ (HK1.out.trans hkk)).2
  have HR6 := Lib.hid (show Rd (W5.setCell ⟨B5, 7, none⟩ (.int .i64 0)) q2 (ints [0, 1]) from HR4.out.stay (HK45.out.new ks1 fun b e => by have e : b = B5 := e; have := HN5.out; omega))
  have hb6' := keep_blk ks1 HB6.out (fun e => HNB6.out e)
  obtain ⟨W6, hW6⟩ : ∃ W, W5.setCell ⟨B5, 7, none⟩ (.int .i64 0) = W := ⟨_, rfl⟩
  rw [hW6] at hkk hip HR6 hb6' ⊢
  have HK6 := Lib.hid hkk; have HI6 := Lib.hid hip
  clear hkk hip ks1 hW6 b0 b1 hcell hfr
  obtain ⟨b0, b1, -⟩ := blk2 hb6'
  clear hb6'
  go_wp2_with fail
  go_at_call 17
  refine (order_any W6 (some ⟨K5, 0, none⟩) (some ⟨B5, 0, none⟩) 1 2 [1] pendC HI6.out).mono ?_
  intro e w7 h
  obtain ⟨q7, c7, rfl, hr7, hk7⟩ := ord01_of lin_6 rfl ords_6 h
  have HRm7 := Lib.hid hr7; have HRl7 := Lib.hid (HR6.out.stay hk7); have HK7 := Lib.hid (HK6.out.trans hk7)
  clear h hr7 hk7 b0 b1
  go_wp2_with fail
  go_at_call 9
  refine (lives_any w7 (HTB.out w7 (HK1.out.trans HK7.out)).1 (HTB.out w7 (HK1.out.trans HK7.out)).2).mono ?_
  rintro e w8 ⟨rfl, hk⟩
  have HK8 := Lib.hid (HK7.out.trans hk); have HRl8 := Lib.hid (HRl7.out.stay hk); have HRm8 := Lib.hid (HRm7.out.stay hk)
  clear hk
  go_wp2_with fail
  go_at_call 25
  refine (same01 _ q2 _ c2 _ (HRl8.out.stay (KeepBut.alloc _ _ _)) (rd_built w8 _ [0, 1])).mono ?_
  rintro e w9 ⟨rfl, hk⟩
  have HK9 := Lib.hid (HK8.out.trans ((KeepBut.alloc _ _ _).trans hk)); have HRl9 := Lib.hid (HRl8.out.stay ((KeepBut.alloc _ _ _).trans hk)); have HRm9 := Lib.hid (HRm8.out.stay ((KeepBut.alloc _ _ _).trans hk))
  clear hk
  go_wp2_with fail
  go_at_call 25
  refine (same01 _ q7 _ c7 _ (HRm9.out.stay (KeepBut.alloc _ _ _)) (rd_built w9 _ [0, 1])).mono ?_
  rintro e w10 ⟨rfl, hk⟩
  have HK10 := Lib.hid (HK9.out.trans ((KeepBut.alloc _ _ _).trans hk)); have HRl10 := Lib.hid (HRl9.out.stay ((KeepBut.alloc _ _ _).trans hk)); have HRm10 := Lib.hid (HRm9.out.stay ((KeepBut.alloc _ _ _).trans hk))
  clear hk
  go_wp2_with fail
  go_at_call 24
  refine (three_any w10 0 1 2 0 0 (HTB.out w10 (HK1.out.trans HK10.out)).1 (HTB.out w10 (HK1.out.trans HK10.out)).2).mono ?_
  rintro e w11 ⟨pkx, pcx, rfl, hix, -, -, hk⟩
  have HK11 := Lib.hid (HK10.out.trans hk); have HRl11 := Lib.hid (HRl10.out.stay hk); have HRm11 := Lib.hid (HRm10.out.stay hk)
  clear hk
  go_wp2_with fail
  go_at_call 11
  have HCx := Lib.hid (chkH_any w11 pkx pcx 1 2 [1] (threeC 0 1 2 0 0) hix.rd hix.calls (by decide) (by show 2 ≤ _; decide))
  rw [chk_bad1] at HCx
  clear hix
  refine (HCx.out).mono ?_
  rintro e w12 ⟨rfl, hk⟩
  have HK12 := Lib.hid (HK11.out.trans hk); have HRl12 := Lib.hid (HRl11.out.stay hk); have HRm12 := Lib.hid (HRm11.out.stay hk)
  clear hk
  go_wp2_with fail
  go_at_call 24
  refine (three_any w12 3 3 4 0 0 (HTB.out w12 (HK1.out.trans HK12.out)).1 (HTB.out w12 (HK1.out.trans HK12.out)).2).mono ?_
  rintro e w13 ⟨pky, pcy, rfl, hiy, -, -, hk⟩
  have HK13 := Lib.hid (HK12.out.trans hk); have HRl13 := Lib.hid (HRl12.out.stay hk); have HRm13 := Lib.hid (HRm12.out.stay hk)
  clear hk
  go_wp2_with fail
  go_at_call 11
  have HCy := Lib.hid (chkH_any w13 pky pcy 1 2 [1] (threeC 3 3 4 0 0) hiy.rd hiy.calls (by decide) (by show 2 ≤ _; decide))
  rw [chk_bad2] at HCy
  clear hiy
  refine (HCy.out).mono ?_
  rintro e w14 ⟨rfl, hk⟩
  have HK14 := Lib.hid (HK13.out.trans hk); have HRl14 := Lib.hid (HRl13.out.stay hk); have HRm14 := Lib.hid (HRm13.out.stay hk)
  clear hk
  go_wp2_with fail
  go_at_call 24
  refine (three_any w14 1 2 3 0 0 (HTB.out w14 (HK1.out.trans HK14.out)).1 (HTB.out w14 (HK1.out.trans HK14.out)).2).mono ?_
  rintro e w15 ⟨pkz, pcz, rfl, hiz, -, -, hk⟩
  have HK15 := Lib.hid (HK14.out.trans hk); have HRl15 := Lib.hid (HRl14.out.stay hk); have HRm15 := Lib.hid (HRm14.out.stay hk)
  clear hk
  go_wp2_with fail
  go_at_call 26
  refine (ahead_names w15 pkz pcz (threeC 1 2 3 0 0) hiz.calls rfl true (by decide +kernel)).mono ?_
  rintro e w16 ⟨rfl, hk⟩
  clear hiz
  have HK16 := Lib.hid (HK15.out.trans hk); have HRl16 := Lib.hid (HRl15.out.stay hk); have HRm16 := Lib.hid (HRm15.out.stay hk)
  clear hk
  obtain ⟨b0, b1, -⟩ := blk2 (HK16.out.blk HB1.out)
  go_wp2_with fail
  go_at_call 26
  refine (ahead_names w16 pk1 pc1 (threeC 3 1 2 1 1) (HI1.out.stay HK16.out).calls rfl false (by decide +kernel)).mono ?_
  rintro e w17 ⟨rfl, hk⟩
  have HK17 := Lib.hid (HK16.out.trans hk); have HRl17 := Lib.hid (HRl16.out.stay hk); have HRm17 := Lib.hid (HRm16.out.stay hk)
  clear hk b0 b1
  obtain ⟨b0, b1, -⟩ := blk2 (HK17.out.blk HB1.out)
  go_wp2_with fail
  go_at_call 28
  refine (turns_any w17 pk1 pc1 1 2 [1] (threeC 3 1 2 1 1) (HI1.out.stay HK17.out) q2 c2 [0, 1] HRl17.out (by decide) allow_4).mono ?_
  rintro e w18 ⟨pt, ct, rfl, hrt, hk⟩
  have HRT := Lib.hid hrt
  clear hrt
  have HK18 := Lib.hid (HK17.out.trans hk); have HRl18 := Lib.hid (HRl17.out.stay hk); have HRm18 := Lib.hid (HRm17.out.stay hk)
  clear hk b0 b1
  go_wp2_with fail
  go_at_call 27
  refine (sameTurn_any _ pt _ ct _ [(0, false), (1, false)] (HRT.out.stay (KeepBut.alloc _ _ _)) (rd_builtV w18 _ _) (by decide)).mono ?_
  rintro e w19 ⟨rfl, hk⟩
  have HK19 := Lib.hid (HK18.out.trans ((KeepBut.alloc _ _ _).trans hk)); have HRl19 := Lib.hid (HRl18.out.stay ((KeepBut.alloc _ _ _).trans hk)); have HRm19 := Lib.hid (HRm18.out.stay ((KeepBut.alloc _ _ _).trans hk))
  clear hk
  obtain ⟨b0, b1, -⟩ := blk2 (HK19.out.blk HB1.out)
  go_wp2_with fail
  go_at_call 23
  refine (ends_any w19 pk1 pc1 1 2 [1] (threeC 3 1 2 1 1) (HI1.out.stay HK19.out) q2 c2 [0, 1] HRl19.out (by decide) 0 (by decide) allow_4).mono ?_
  rintro e w20 ⟨qe, ce, xe, ke, he, oe, rfl, h1, h2, h3, h4, -, hk⟩
  have h5 : oe = [0, 1] := natI_inj h1
  subst h5
  have h6 : he = [(1, [])] := Option.some.inj (h2.symm.trans fold_4)
  subst h6
  have h7 : ke = 1 ∧ xe = [] := by
    have h8 : ((1 : Int), ([] : List Int)) = (ke, xe) := h3
    cases h8
    exact ⟨rfl, rfl⟩
  obtain ⟨rfl, rfl⟩ := h7
  clear h1 h2 h3 h4
  have HK20 := Lib.hid (HK19.out.trans hk); have HRl20 := Lib.hid (HRl19.out.stay hk); have HRm20 := Lib.hid (HRm19.out.stay hk)
  clear hk b0 b1
  go_wp2_with fail
  go_at_call 22
  refine (content_names w20 qe ce).mono ?_
  rintro e w21 ⟨rfl, hk⟩
  have HK21 := Lib.hid (HK20.out.trans hk); have HRl21 := Lib.hid (HRl20.out.stay hk); have HRm21 := Lib.hid (HRm20.out.stay hk)
  clear hk
  obtain ⟨b0, b1, -⟩ := blk2 (HK21.out.blk HB1.out)
  go_wp2_with fail
  go_at_call 19
  refine (allowed_any _ pk1 pc1 1 2 [1] (threeC 3 1 2 1 1) (HI1.out.stay (HK21.out.trans (KeepBut.alloc _ _ _))) (some ⟨w21.heap.size, 0, none⟩) 2 [1, 0] (rd_built w21 _ [1, 0]) (by decide)).mono ?_
  rintro e w22 ⟨v, rfl, hv, hk⟩
  have hv2 : v = false := by rw [← Bool.not_eq_true]; exact fun e => allow_no1 (hv.1 e)
  clear hv
  subst hv2
  have HK22 := Lib.hid (HK21.out.trans ((KeepBut.alloc _ _ _).trans hk)); have HRl22 := Lib.hid (HRl21.out.stay ((KeepBut.alloc _ _ _).trans hk)); have HRm22 := Lib.hid (HRm21.out.stay ((KeepBut.alloc _ _ _).trans hk))
  clear hk b0 b1
  obtain ⟨b0, b1, -⟩ := blk2 (HK22.out.blk HB1.out)
  go_wp2_with fail
  go_at_call 19
  refine (allowed_any _ pk1 pc1 1 2 [1] (threeC 3 1 2 1 1) (HI1.out.stay (HK22.out.trans (KeepBut.alloc _ _ _))) (some ⟨w22.heap.size, 0, none⟩) 3 [0, 0, 1] (rd_built w22 _ [0, 0, 1]) (by decide)).mono ?_
  rintro e w23 ⟨v, rfl, hv, hk⟩
  have hv2 : v = false := by rw [← Bool.not_eq_true]; exact fun e => allow_no2 (hv.1 e)
  clear hv
  subst hv2
  have HK23 := Lib.hid (HK22.out.trans ((KeepBut.alloc _ _ _).trans hk)); have HRl23 := Lib.hid (HRl22.out.stay ((KeepBut.alloc _ _ _).trans hk)); have HRm23 := Lib.hid (HRm22.out.stay ((KeepBut.alloc _ _ _).trans hk))
  clear hk b0 b1
  go_wp2_with fail
  go_ret
  exact ⟨rfl, HK1.out.trans HK23.out⟩

end Go.Proofs.YtoolpifkfgileaaDoor

/-
  In plain: calls one after the other.
-/
namespace Go.Proofs.YtoolpifkfgileaaDoor
open Go Go.RowKit Own

/-- calls one after the other, one container -/
structure InRow (k : Int) (cs : List Cl) : Prop where
  kind : kindB k = true
  each : ∀ i, i < cs.length → (nthC cs i).hart = (i : Int) % 3 ∧ (nthC cs i).cont = 0 ∧ kindOf (nthC cs i).op = k ∧ (nthC cs i).beg = 2 * (i : Int) ∧ (nthC cs i).till = 2 * (i : Int) + 1

theorem InRow.good {k : Int} {cs : List Cl} (h : InRow k cs) : GoodH [k] cs := by
  refine ⟨by unfold kindsB; simp [h.kind], fun c hc => ?_, ?_⟩
  · obtain ⟨i, hi, rfl⟩ := mem_nthC hc
    obtain ⟨h1, h2, h3, h4, h5⟩ := h.each i hi
    refine ⟨decide_eq_true ⟨by omega, by omega, by omega, by rw [h2]; show (0 : Int) < ((1 : Nat) : Int); decide, by rw [h2, h3]; rfl, by omega⟩, fun e => by omega, fun _ => by omega⟩
  · rw [List.pairwise_iff_getElem]
    intro i j hi hj hij
    have hi' := h.each i hi
    have hj' := h.each j hj
    rw [nthC_eq hi] at hi'
    rw [nthC_eq hj] at hj'
    obtain ⟨a1, a2, a3, a4, a5⟩ := hi'
    obtain ⟨b1, b2, b3, b4, b5⟩ := hj'
    exact ⟨by omega, fun _ => by omega, fun _ => by omega, fun _ _ => by omega, fun _ => ⟨by omega, by omega⟩⟩

theorem range_of : ∀ (N s : Nat) (o : List Nat), o.Pairwise (· < ·) → (∀ n ∈ o, s ≤ n ∧ n < s + N) → (∀ k, s ≤ k → k < s + N → k ∈ o) → o = List.range' s N
  | 0, s, [], _, _, _ => rfl
  | 0, s, a :: o, _, h, _ => absurd (h a List.mem_cons_self) (by omega)
  | N + 1, s, [], _, _, h => absurd (h s (Nat.le_refl _) (by omega)) (by simp)
  | N + 1, s, a :: o, hp, h1, h2 => by
    obtain ⟨p1, p2⟩ := List.pairwise_cons.1 hp
    have ha := h1 a List.mem_cons_self
    have e : a = s := by
      rcases List.mem_cons.1 (h2 s (Nat.le_refl _) (by omega)) with e | e
      · exact e.symm
      · have := p1 s e; omega
    subst e
    rw [List.range'_succ, range_of N (a + 1) o p2 (fun n hn => by
      have := p1 n hn
      have := h1 n (List.mem_cons_of_mem _ hn)
      omega) fun k hk hk2 => by
      rcases List.mem_cons.1 (h2 k (by omega) (by omega)) with e | e
      · omega
      · exact e]

theorem row_order {k : Int} {cs : List Cl} {h0 : List (Int × List Int)} {o : List Nat} (h : InRow k cs) (ho : OrdI cs 0 h0 o) : o = List.range cs.length := by
  rw [List.range_eq_range']
  refine range_of _ _ o ?_ (fun n hn => ⟨Nat.zero_le _, by have := ho.lt n hn; omega⟩) fun j _ hj => ?_
  · refine (ho.nodup.and ho.pair).imp_of_mem fun {a b} ha hb hab => ?_
    have h1 := h.each a (ho.lt a ha)
    have h2 := h.each b (ho.lt b hb)
    have h3 := hab.2
    unfold aheadB at h3
    rw [decide_eq_true (by omega), Bool.true_and, decide_eq_false_iff_not] at h3
    have h4 : a ≠ b := hab.1
    omega
  · rcases ho.ended j (by omega) (by have := h.each j (by omega); omega) with h1 | h1
    · rw [Nat.zero_testBit] at h1; cases h1
    · exact h1

theorem map_range (cs : List Cl) : (List.range cs.length).map (nthC cs) = cs := by
  apply List.ext_getElem
  · simp
  · intro i h1 h2
    rw [List.getElem_map, List.getElem_range, nthC_eq h2]

theorem row_ord {k : Int} {cs : List Cl} {h0 : List (Int × List Int)} (h : InRow k cs) (hr : (foldC h0 cs).isSome = true) : OrdI cs 0 h0 (List.range cs.length) := by
  refine ⟨fun n hn => List.mem_range.1 hn, List.nodup_range, fun n _ => Nat.zero_testBit n, ?_, fun j hj _ => .inr (List.mem_range.2 hj), by rw [map_range]; exact hr⟩
  refine List.pairwise_lt_range.imp_of_mem fun {a b} ha hb hab => ?_
  have h1 := h.each a (List.mem_range.1 ha)
  have h2 := h.each b (List.mem_range.1 hb)
  unfold aheadB
  rw [decide_eq_false (p := (nthC cs b).till < (nthC cs a).beg) (by omega), Bool.and_false]

/-- what the statement reckons: the content, and whether each call may end so -/
def stS (s : (Int × List Int) × Bool) (c : Cl) : (Int × List Int) × Bool :=
  (((mayR s.1.1 c.op s.1.2 c.arg c.value c.code).kind, (mayR s.1.1 c.op s.1.2 c.arg c.value c.code).items), s.2 && (mayR s.1.1 c.op s.1.2 c.arg c.value c.code).ok)
def stAll (k : Int) (cs : List Cl) : (Int × List Int) × Bool := cs.foldl stS ((k, []), true)

theorem foldl_false : ∀ (cs : List Cl) (e : Int × List Int), (cs.foldl stS (e, false)).2 = false
  | [], _ => rfl
  | c :: cs, e => by
    rw [List.foldl_cons]
    exact foldl_false cs _
theorem fold_st : ∀ (cs : List Cl) (e : Int × List Int), (∀ c ∈ cs, c.cont = 0 ∧ c.till ≠ -1) → foldC [e] cs = if (cs.foldl stS (e, true)).2 = true then some [(cs.foldl stS (e, true)).1] else none
  | [], e, _ => rfl
  | c :: cs, e, h => by
    obtain ⟨h1, h2⟩ := h c List.mem_cons_self
    rw [List.foldl_cons]
    unfold foldC stepC step1
    rw [if_neg h2, h1]
    have e1 : nthK [e] (0 : Int).toNat = e := rfl
    rw [e1]
    unfold stS
    dsimp only
    cases hok : (mayR e.1 c.op e.2 c.arg c.value c.code).ok with
    | true =>
      rw [if_pos rfl, Bool.true_and]
      exact fold_st cs _ fun x hx => h x (List.mem_cons_of_mem _ hx)
    | false =>
      rw [if_neg Bool.false_ne_true, Bool.true_and]
      show none = _
      have := foldl_false cs ((mayR e.1 c.op e.2 c.arg c.value c.code).kind, (mayR e.1 c.op e.2 c.arg c.value c.code).items)
      unfold stS at this
      rw [this, if_neg Bool.false_ne_true]

theorem row_fold {k : Int} {cs : List Cl} (h : InRow k cs) : foldC (startP [k]) cs = if (stAll k cs).2 = true then some [(stAll k cs).1] else none :=
  fold_st cs (k, []) fun c hc => by
    obtain ⟨i, hi, rfl⟩ := mem_nthC hc
    have := h.each i hi
    exact ⟨this.2.1, by omega⟩

theorem row_lin {k : Int} {cs : List Cl} (h : InRow k cs) (hl : cs.length ≤ 24) : LinH [k] cs ↔ (stAll k cs).2 = true := by
  have hf := row_fold h
  constructor
  · rintro ⟨-, oc, ho⟩
    obtain ⟨o, h1, -⟩ := ho.nums h.good
    have h2 := h1.run
    rw [row_order h h1, map_range] at h2
    have h3 : startP [k] = [k].map fun k => (k, []) := rfl
    rw [← h3, hf] at h2
    by_cases e : (stAll k cs).2 = true
    · exact e
    · rw [if_neg e] at h2; cases h2
  · intro e
    rw [if_pos e] at hf
    exact ⟨⟨h.good, hl⟩, _, (row_ord h (h0 := [k].map fun k => (k, [])) (by
      have h3 : startP [k] = [k].map fun k => (k, []) := rfl
      rw [← h3, hf]; rfl)).calls h.good⟩

/-- the next call -/
theorem InRow.snoc {k : Int} {cs : List Cl} {c : Cl} (h : InRow k cs) (hc : c.hart = (cs.length : Int) % 3 ∧ c.cont = 0 ∧ kindOf c.op = k ∧ c.beg = 2 * (cs.length : Int) ∧ c.till = 2 * (cs.length : Int) + 1) : InRow k (cs ++ [c]) := by
  refine ⟨h.kind, fun i hi => ?_⟩
  rw [List.length_append] at hi
  by_cases e : i < cs.length
  · have : nthC (cs ++ [c]) i = nthC cs i := by
      unfold nthC
      rw [List.getD_eq_getElem?_getD, List.getD_eq_getElem?_getD, List.getElem?_append_left e]
    rw [this]
    exact h.each i e
  · have e2 : i = cs.length := by simp at hi; omega
    subst e2
    have : nthC (cs ++ [c]) cs.length = c := by
      unfold nthC
      rw [List.getD_eq_getElem?_getD, List.getElem?_append_right (Nat.le_refl _)]
      simp
    rw [this]
    exact hc
theorem stAll_snoc (k : Int) (cs : List Cl) (c : Cl) : stAll k (cs ++ [c]) = stS (stAll k cs) c := by
  unfold stAll
  rw [List.foldl_append]
  rfl

end Go.Proofs.YtoolpifkfgileaaDoor

/-
  A region that draws its order and puts something at the end of a row that is its caller's own: one block and one row are set aside. No program in sight.
-/
namespace Go.Proofs.YtoolpifkfgileaaDoor
open Go Go.RowKit Own

theorem row_same {w w' : World} {base size : Nat} {T : TypeId} {v : Value} {n : Nat} {xs : List Value} (h : w.ownsRow base T size v n xs) (hb : ∀ b, v.ownBlock = some b → w'.heap[b]? = w.heap[b]?) : w'.ownsRow base T size v n xs := by
  obtain ⟨h0, h1 | ⟨g, cap, cur, h1, h2, h3, h4⟩⟩ := h
  · exact ⟨h0, .inl h1⟩
  · exact ⟨h0, .inr ⟨g, cap, cur, h1, h2, (hb g (by rw [h1]; rfl)).trans h3, h4⟩⟩

def aside2 (n m : Nat) (x : Obj) (base : Nat) (T : TypeId) (size : Nat) (v : Value) (k : Nat) (xs : List Value) (j : Nat) (w : World) : Prop :=
  if j = n then w.heap[m]? = some x else if j = n + 1 then w.ownsRow base T size v k xs else True
def aside2Fp (n m : Nat) (v : Value) (j b : Nat) : Prop := (j = n ∧ b = m) ∨ (j = n + 1 ∧ v.ownBlock = some b)

theorem wp_own2 {P : Program} {l : List Oper} {Q : Exit → Act → World → Prop} {id : Nat} {a : Act} {w : World} (hm : P.follows .mixedOrders = true)
    (m : Nat) (x : Obj) (hx : w.heap[m]? = some x) (base : Nat) (T : TypeId) (size : Nat) (v : Value) (k : Nat) (xs : List Value) (hrow : w.ownsRow base T size v k xs) (hlt : m < base)
    (D av ea : Nat → List Nat) (keep : List Nat) (hok : okB l.toArray D av ea keep = true) (sp : Nat → Option Loud)
    (hlex : Lex P l.toArray w.drew (fun b => b = m ∨ v.ownBlock = some b) sp av ea (fun a F Fp => Done w.drew (fun b => b = m ∨ v.ownBlock = some b) Q keep a F Fp) l 0 a (aside2 l.length m x base T size v k xs) (aside2Fp l.length m v)) : (Code.region id l.toArray true).wp P Q a w := by
  refine wp_own_lit hm D av ea keep hok sp _ _ _ ?_ ?_ ?_ ?_ hlex
  · intro j hj
    have hj' : j < l.length := by simpa using hj
    funext w'; unfold aside2; rw [if_neg (by omega), if_neg (by omega)]
  · intro j hj
    have hj' : j < l.length := by simpa using hj
    funext b; unfold aside2Fp
    exact propext ⟨fun h => by rcases h with h | h <;> omega, fun h => h.elim⟩
  · intro j hj
    refine ⟨fun w1 w2 _ _ _ h hk => ?_, ?_, fun b hb => ?_⟩
    · unfold aside2 at hk ⊢
      by_cases h1 : j = l.length
      · rw [if_pos h1] at hk ⊢
        rw [← hk]; exact h m (.inl ⟨h1, rfl⟩)
      · rw [if_neg h1] at hk ⊢
        by_cases h2 : j = l.length + 1
        · rw [if_pos h2] at hk ⊢
          exact row_same hk fun b hb => h b (.inr ⟨h2, hb⟩)
        · rw [if_neg h2]; trivial
    · unfold aside2
      by_cases h1 : j = l.length
      · rw [if_pos h1]; exact hx
      · rw [if_neg h1]
        by_cases h2 : j = l.length + 1
        · rw [if_pos h2]; exact hrow
        · rw [if_neg h2]; trivial
    · rcases hb with ⟨_, hb⟩ | ⟨_, hb⟩
      · refine ⟨?_, .inl hb⟩
        rw [hb]
        rcases Nat.lt_or_ge m w.heap.size with h' | h'
        · exact h'
        · rw [Array.getElem?_eq_none h'] at hx; cases hx
      · exact ⟨(hrow.lt b hb).2, .inr hb⟩
  · intro i j _ _ hij b h1 h2
    rcases h1 with ⟨a1, a2⟩ | ⟨a1, a2⟩ <;> rcases h2 with ⟨b1, b2⟩ | ⟨b1, b2⟩
    · omega
    · have := (hrow.lt b b2).1; omega
    · have := (hrow.lt b a2).1; omega
    · omega

/-- a row of one's own, behind an append -/
def sRow (base : Nat) (T : TypeId) (size n : Nat) (xs : List Value) : Loud := { val := fun _ g => .slice g.p n g.c, fp := fun _ g => Of g.p, post := fun _ g w => w.ownsRow base T size (.slice g.p n g.c) n xs }
theorem own_of {p : Option Addr} {n c b : Nat} : (Value.slice p n c).ownBlock = some b ↔ Of p b := by
  cases p with
  | none => exact ⟨fun h => by simp [Value.ownBlock] at h, fun ⟨a, h, _⟩ => by cases h⟩
  | some a => exact ⟨fun h => ⟨a, rfl, by simpa [Value.ownBlock] using h.symm⟩, fun ⟨a', h1, h2⟩ => by cases h1; rw [h2]; rfl⟩

theorem loud_appendR {P : Program} {w0 : World} {M : Nat → Prop} {o : Oper} {a : Act} {av ea : List Nat} {F : Nat → World → Prop} {Fp : Nat → Nat → Prop} (base : Nat) (T t : TypeId) (i0 : TypeInfo) (z : Value) (size bytes : Nat)
    (ht : P.underlying t = some (.slice T)) (hi : P.info? T = some i0) (hz : i0.zero = some z) (hsize : i0.size = size) (hby : i0.bytes = bytes) (hzs : z.cells.size = size) (hsz : 0 < size)
    (x y : Operand) (ho : o.op = .call { callee := .builtin .append, args := #[x, y], argTypes := #[t, t] }) (v : Value) (n : Nat) (xs : List Value) (b2 : Nat) (news : List Value)
    (hx : a.eval x = v) (hy : a.eval y = .slice (some ⟨b2, 0, none⟩) 1 1) (hl : news.length = size) (h1 : ∀ u ∈ news, u.oneCell' = true) (hn : n + 1 ≤ maxLen) (hb : (n + 1) * bytes ≤ 140737488355328) (hbase : base ≤ w0.heap.size)
    (j1 : Nat) (hj1a : j1 ∈ av) (hj1e : j1 ∈ ea) (hF1 : ∀ w, F j1 w → w.ownsRow base T size v n xs) (hp1 : ∀ b, v.ownBlock = some b → Fp j1 b)
    (j2 : Nat) (hj2a : j2 ∈ av) (hF2 : ∀ w, F j2 w → w.heap[b2]? = some (.cells news.toArray T (0, 0))) : LoudOk P w0 M o a (sRow base T size (n + 1) (xs ++ news)) av ea F Fp := by
  refine loud_run ⟨default, trivial⟩ (fun g _ w w' _ _ _ h k => row_same k fun b hb => h b (own_of.1 hb)) fun w hw hav _ => ?_
  have hrow := hF1 w (hav j1 hj1a).1
  have hsrc := hF2 w (hav j2 hj2a).1
  obtain ⟨v', w', r1, r2, r3, -, r5⟩ := run_append_own_at (P := P) (w := w) base t o.type T i0 z size bytes ht hi hz hsize hby hzs hsz v n xs hrow ⟨b2, 0, none⟩ 1 1 news (by rw [hl]; omega)
    (fun j u hj => by
      have e : (⟨b2, 0, none⟩ : Addr).add j = ⟨b2, 0 + j, none⟩ := by
        unfold Addr.add
        split
        · rename_i h; subst h; rfl
        · rfl
      rw [e, Nat.zero_add]
      simp [World.cell?, hsrc, hj]) h1 hn hb (Nat.le_trans hbase hw.size)
  obtain ⟨p, c, rfl⟩ : ∃ p c, v' = .slice p (n + 1) c := by
    rcases r2.2 with ⟨rfl, h0⟩ | ⟨g, cap, cur, rfl, -⟩
    · exact absurd h0 (by omega)
    · exact ⟨_, _, rfl⟩
  refine ⟨w', { p := p, c := c }, trivial, .inl ?_, KeepBut.grown r3 fun b hb => ⟨j1, hj1e, hp1 b hb⟩, fun b hb => ⟨?_, (r2.lt b (own_of.2 hb)).2⟩, r2⟩
  · unfold execOp
    simp only [ho, resolve, invoke, builtin, Sem.run_bind, Sem.run_pure, Result.andThen_ok, List.map_toArray, List.map_cons, List.map_nil, hx, hy, r1, sRow]
  · have hb' := own_of (n := n + 1) (c := c).2 hb
    rcases r5 with r5 | r5
    · rw [r5] at hb'; exact .inr ⟨j1, hj1e, hp1 b hb'⟩
    · rw [r5] at hb'
      have : w.heap.size = b := Option.some.inj hb'
      exact .inl (by omega)

end Go.Proofs.YtoolpifkfgileaaDoor

/-
  The reference of chapter 19: New, Inserts, Takes, Kind, Check, Same, place.
-/
namespace Go.Proofs.YtoolpifkfgileaaDoor
open Go Go.RowKit Own

theorem refInserts_any (w : World) (op : Int) :
    Calls Tryd.prog 41 #[.int .i64 op] w fun e w' => e = .returned (.bool (insB op)) ∧ w' = w := by
  unfold insB
  cases h1 : (op == 1) <;> cases h3 : (op == 3) <;> cases h5 : (op == 5) <;>
    (go_enter Tryd.func41, Tryd.ntmps41
     go_wp2
     go_ret
     exact ⟨rfl, rfl⟩)

theorem refKind_any (w : World) (op : Int) :
    Calls Tryd.prog 46 #[.int .i64 op] w fun e w' => e = .returned (.int .i64 (kindOf op)) ∧ w' = w := by
  by_cases h1 : op = 1
  · subst h1
    go_enter Tryd.func46, Tryd.ntmps46
    go_wp2
    go_ret
    exact ⟨rfl, rfl⟩
  by_cases h2 : op = 2
  · subst h2
    go_enter Tryd.func46, Tryd.ntmps46
    go_wp2
    go_ret
    exact ⟨rfl, rfl⟩
  by_cases h3 : op = 3
  · subst h3
    go_enter Tryd.func46, Tryd.ntmps46
    go_wp2
    go_ret
    exact ⟨rfl, rfl⟩
  by_cases h4 : op = 4
  · subst h4
    go_enter Tryd.func46, Tryd.ntmps46
    go_wp2
    go_ret
    exact ⟨rfl, rfl⟩
  by_cases h5 : op = 5
  · subst h5
    go_enter Tryd.func46, Tryd.ntmps46
    go_wp2
    go_ret
    exact ⟨rfl, rfl⟩
  by_cases h6 : op = 6
  · subst h6
    go_enter Tryd.func46, Tryd.ntmps46
    go_wp2
    go_ret
    exact ⟨rfl, rfl⟩
  by_cases h7 : op = 7
  · subst h7
    go_enter Tryd.func46, Tryd.ntmps46
    go_wp2
    go_ret
    exact ⟨rfl, rfl⟩
  have e0 := Lib.hid (show kindOf op = 0 by unfold kindOf; rw [if_neg (by omega), if_neg (by omega), if_neg (by omega)])
  have b1 : (op == 1) = false := by simpa using h1
  have b2 : (op == 2) = false := by simpa using h2
  have b3 : (op == 3) = false := by simpa using h3
  have b4 : (op == 4) = false := by simpa using h4
  have b5 : (op == 5) = false := by simpa using h5
  have b6 : (op == 6) = false := by simpa using h6
  have b7 : (op == 7) = false := by simpa using h7
  clear h1 h2 h3 h4 h5 h6 h7
  go_enter Tryd.func46, Tryd.ntmps46
  go_wp2
  go_ret
  exact ⟨ret_int e0.out.symm, rfl⟩

theorem refNew_any (k : Int) (w : World) :
    Calls Tryd.prog 20 #[.int .i64 k] w fun e w' => e = .returned (.tuple #[.agg #[.int .i64 (if kindB k = true then k else 0), .slice none 0 0], .int .i64 (if kindB k = true then 0 else 2)]) ∧ KeepBut (fun _ => False) w w' := by
  by_cases h1 : k < 1
  · have hk : ¬ kindB k = true := fun h => by have := of_decide_eq_true h; omega
    rw [if_neg hk, if_neg hk]
    clear hk
    go_enter Tryd.func20, Tryd.ntmps20
    go_wp2
    refine bodyPost_ret (v := .tuple #[.agg #[.int .i64 0, .slice none 0 0], .int .i64 2]) (by simp [results, Tryd.results20, go_sem]) rfl ⟨rfl, ?_⟩
    exact KeepBut.alloc _ _ _
  · by_cases h3 : 3 < k
    · have hk : ¬ kindB k = true := fun h => by have := of_decide_eq_true h; omega
      rw [if_neg hk, if_neg hk]
      clear hk
      go_enter Tryd.func20, Tryd.ntmps20
      go_wp2
      refine bodyPost_ret (v := .tuple #[.agg #[.int .i64 0, .slice none 0 0], .int .i64 2]) (by simp [results, Tryd.results20, go_sem]) rfl ⟨rfl, ?_⟩
      exact KeepBut.alloc _ _ _
    · have hk : kindB k = true := decide_eq_true (by omega)
      rw [if_pos hk, if_pos hk]
      clear hk
      go_enter Tryd.func20, Tryd.ntmps20
      go_wp2
      refine bodyPost_ret (v := .tuple #[.agg #[.int .i64 k, .slice none 0 0], .int .i64 0]) (by simp [results, Tryd.results20, go_sem]) rfl ⟨rfl, ?_⟩
      exact KeepBut.alloc _ _ _

def thereB (xs : List Int) (i : Nat) (x : Int) : Bool := decide (i < xs.length ∧ nth xs i = x)

set_option maxHeartbeats 4000000 in
theorem place_any (w : World) (p : Option Addr) (c : Nat) (xs : List Int) (x : Int) (hrd : Rd w p (ints xs)) (hl : xs.length ≤ 1099511627776) :
    Calls Tryd.prog 47 #[.slice p xs.length c, .int .i64 x] w fun e w' => (∃ i : Nat, i ≤ xs.length ∧ (∀ j, j < i → nth xs j < x) ∧ (i < xs.length → x ≤ nth xs i) ∧ e = .returned (.tuple #[.int .i64 i, .bool (thereB xs i x)])) ∧ KeepBut (fun _ => False) w w' := by
  have HR := Lib.hid hrd
  clear hrd
  go_enter Tryd.func47, Tryd.ntmps47
  go_wp2_with fail
  go_loopw [6] (fun v6 wr => wr = w ∧ ∃ i : Nat, i ≤ xs.length ∧ v6 = .int .i64 i ∧ ∀ j, j < i → nth xs j < x) (fun i _ => xs.length - (intOf i).toNat)
  case atStart => exact ⟨rfl, 0, Nat.zero_le _, rfl, fun j h => absurd h (Nat.not_lt_zero j)⟩
  case round =>
    obtain ⟨hw, i, hi, rfl, hb⟩ := hrel
    subst hw
    have HB := Lib.hid hb
    clear hb
    have hi0 : (0 : Int) ≤ i := by omega
    have hWi : IntKind.i64.wrap ((i : Int) + 1) = i + 1 := IntWalk.i64_in _ (by omega)
    by_cases hlt : i < xs.length
    · have hltI : (i : Int) < xs.length := by omega
      obtain ⟨b, o, rfl, _⟩ := HR.out.ptr (by rw [ints_length]; omega)
      have c1 : wr.cell? ⟨b, o + i, none⟩ = some (.int .i64 (nth xs i)) := HR.out.int i hlt
      by_cases hx : nth xs i < x
      · go_wp2_with fail
        refine ⟨⟨by first | rfl | trivial, i + 1, by omega, by simp, fun j hj => ?_⟩, ?_⟩
        · rcases Nat.lt_or_ge j i with h | h
          · exact HB.out j h
          · have : j = i := by omega
            subst this; exact hx
        · simp only [intOf]
          omega
      · have hge : x ≤ nth xs i := by omega
        have HG := Lib.hid hge
        have hdec : ∀ r, (nth xs i == x) = r → thereB xs i x = r := fun r h => by
          rw [← h]
          unfold thereB
          by_cases e : nth xs i = x
          · rw [decide_eq_true ⟨hlt, e⟩, e]; exact (beq_self_eq_true _).symm
          · rw [decide_eq_false fun h => e h.2]; exact (beq_eq_false_iff_ne.2 e).symm
        have HDE := Lib.hid hdec
        clear hdec hge
        go_upto_region 4 with fail
        go_quiet (fail)
        go_wp2_with fail
        go_ret2
        exact ⟨⟨i, hi, HB.out, fun _ => HG.out, congrArg (fun r => Ending.returned (.tuple #[.int .i64 (i : Int), .bool r])) (HDE.out (nth xs i == x) rfl).symm⟩, KeepBut.drewN _ _ _⟩
    · have hge : ¬ (i : Int) < (xs.length : Int) := by omega
      have HDE := Lib.hid (show thereB xs i x = false from decide_eq_false fun h => hlt h.1)
      go_upto_region 4 with fail
      go_quiet (fail)
      go_wp2_with fail
      go_ret2
      exact ⟨⟨i, hi, HB.out, fun h => absurd h hlt, congrArg (fun r => Ending.returned (.tuple #[.int .i64 (i : Int), .bool r])) HDE.out.symm⟩, KeepBut.drewN _ _ _⟩

end Go.Proofs.YtoolpifkfgileaaDoor

/-
  The reference of chapter 19: Check, Same.
-/
namespace Go.Proofs.YtoolpifkfgileaaDoor
open Go Go.RowKit Own

set_option maxHeartbeats 8000000 in
theorem refCheck_any (w : World) (k : Int) (p : Option Addr) (c : Nat) (xs : List Int) (hrd : Rd w p (ints xs)) (hl : xs.length ≤ 1099511627776) :
    Calls Tryd.prog 45 #[.agg #[.int .i64 k, .slice p xs.length c]] w fun e w' => e = .returned (.int .i64 (chk k xs)) ∧ KeepBut (fun _ => False) w w' := by
  obtain ⟨V, B, hV, hB, hb, hkV, -⟩ := fresh_block w (.cells #[.int .i64 k, .slice p xs.length c] 47)
  have HR := Lib.hid (hrd.stay hkV)
  have HK := Lib.hid hkV
  have HB := Lib.hid hb
  have x0 := blk_cell (k := 0) hb rfl
  have x1 := blk_cell (k := 1) hb rfl
  clear hrd hkV hb
  by_cases h1 : k < 1
  · have hc := Lib.hid (chk_no (k := k) (xs := xs) fun h => by have := of_decide_eq_true h.1; omega)
    go_enter Tryd.func45, Tryd.ntmps45
    go_upto_region 1 with fail
    rw [← hV, ← hB]
    clear hV hB
    go_wp2_with fail
    go_ret
    exact ⟨ret_int hc.out.symm, HK.out⟩
  by_cases h3 : 3 < k
  · have hc := Lib.hid (chk_no (k := k) (xs := xs) fun h => by have := of_decide_eq_true h.1; omega)
    go_enter Tryd.func45, Tryd.ntmps45
    go_upto_region 1 with fail
    rw [← hV, ← hB]
    clear hV hB
    go_wp2_with fail
    go_ret
    exact ⟨ret_int hc.out.symm, HK.out⟩
  by_cases h6 : 64 < xs.length
  · have hc := Lib.hid (chk_no (k := k) (xs := xs) fun h => by have := h.2.1; omega)
    have h6i : (64 : Int) < xs.length := by omega
    clear h6
    go_enter Tryd.func45, Tryd.ntmps45
    go_upto_region 1 with fail
    rw [← hV, ← hB]
    clear hV hB
    go_wp2_with fail
    go_ret
    exact ⟨ret_int hc.out.symm, HK.out⟩
  have h6i : ¬ (64 : Int) < xs.length := by omega
  have hkb := Lib.hid (show kindB k = true from decide_eq_true (by omega))
  go_enter Tryd.func45, Tryd.ntmps45
  go_upto_region 1 with fail
  rw [← hV, ← hB]
  clear hV hB
  go_wp2_with fail
  clear x0 x1
  go_loopw [3] (fun v3 wr => KeepBut (fun _ => False) V wr ∧ ∃ i : Nat, 1 ≤ i ∧ (i ≤ xs.length ∨ i = 1) ∧ v3 = .int .i64 i ∧ (k = 3 → ∀ j, j + 1 < i → nth xs j < nth xs (j + 1))) (fun i _ => xs.length - (intOf i).toNat)
  case atStart => exact ⟨KeepBut.refl _ _, 1, Nat.le_refl _, .inr rfl, rfl, fun _ j h => by omega⟩
  case round =>
    obtain ⟨hk, i, hi1, hi2, rfl, hm⟩ := hrel
    have HKr := Lib.hid hk; have HM := Lib.hid hm
    have x0 := blk_cell (k := 0) (hk.blk HB.out) rfl
    have x1 := blk_cell (k := 1) (hk.blk HB.out) rfl
    clear hk hm
    have hi0 : (0 : Int) ≤ i := by omega
    have hWi : IntKind.i64.wrap ((i : Int) + 1) = i + 1 := IntWalk.i64_in _ (by omega)
    by_cases hlt : i < xs.length
    · have hltI : (i : Int) < xs.length := by omega
      by_cases hk3 : k = 3
      · have hrd := HR.out.stay HKr.out
        obtain ⟨b, o, rfl, _⟩ := hrd.ptr (by rw [ints_length]; omega)
        have c1 : wr.cell? ⟨b, o + i, none⟩ = some (.int .i64 (nth xs i)) := hrd.int i hlt
        obtain ⟨j, hj⟩ : ∃ j, i = j + 1 := ⟨i - 1, by omega⟩
        have c2 : wr.cell? ⟨b, o + j, none⟩ = some (.int .i64 (nth xs j)) := hrd.int j (by omega)
        have hWj : IntKind.i64.wrap ((i : Int) - 1) = (j : Int) := by rw [IntWalk.i64_in _ (by omega)]; omega
        have hjlt : (j : Int) < xs.length := by omega
        have hj0 : (0 : Int) ≤ j := by omega
        have hb3 : (k == 3) = true := by simpa using hk3
        have HJ := Lib.hid hj
        have HK3 := Lib.hid hk3
        clear hrd hj hk3
        by_cases hge : nth xs i ≤ nth xs j
        · have hc := Lib.hid (chk_no (k := k) (xs := xs) fun h => by
            have h' := of_decide_eq_true (h.2.2 HK3.out) j (by have := HJ.out; omega) (by have := HJ.out; omega)
            rw [← HJ.out] at h'
            omega)
          go_upto_region 6 with fail
          go_quiet (fail)
          go_wp2_with fail
          go_ret
          exact ⟨ret_int hc.out.symm, (HK.out.trans HKr.out).trans (KeepBut.drewN _ _ _)⟩
        · have HG := Lib.hid hge
          go_upto_region 6 with fail
          go_quiet (fail)
          go_wp2_with fail
          refine ⟨⟨HKr.out.trans (KeepBut.drewN _ _ _), i + 1, by omega, .inl (by omega), by simp, fun h j' hj' => ?_⟩, ?_⟩
          · rcases Nat.lt_or_ge (j' + 1) i with h' | h'
            · exact HM.out h j' h'
            · have e : j' = j := by have := HJ.out; omega
              subst e
              rw [← HJ.out]
              have := HG.out
              omega
          · simp only [intOf]
            omega
      · have hb3 : (k == 3) = false := by simpa using hk3
        have HK3 := Lib.hid hk3
        clear hk3
        go_upto_region 6 with fail
        go_quiet (fail)
        go_wp2_with fail
        refine ⟨⟨HKr.out.trans (KeepBut.drewN _ _ _), i + 1, by omega, .inl (by omega), by simp, fun h => absurd h HK3.out⟩, ?_⟩
        simp only [intOf]
        omega
    · have hge : ¬ (i : Int) < (xs.length : Int) := by omega
      have hc := Lib.hid (chk_ok (k := k) (xs := xs) hkb.out (by omega) fun h => decide_eq_true fun j _ h2 => HM.out h j (by omega))
      go_wp2_with fail
      go_ret
      exact ⟨ret_int hc.out.symm, HK.out.trans HKr.out⟩

theorem list_ne {xs ys : List Int} {i : Nat} (h : nth xs i ≠ nth ys i) : xs ≠ ys := fun e => h (by rw [e])
theorem list_eq {xs ys : List Int} (hl : xs.length = ys.length) (h : ∀ j, j < xs.length → nth xs j = nth ys j) : xs = ys := by
  apply List.ext_getElem hl
  intro j h1 h2
  have := h j h1
  rwa [nth_eq h1, nth_eq h2] at this

end Go.Proofs.YtoolpifkfgileaaDoor

/-
  The reference of chapter 19: digits, Key.
-/
namespace Go.Proofs.YtoolpifkfgileaaDoor
open Go Go.RowKit Own

/-- a number's text -/
def istr (v : Int) : ByteArray := ⟨(Lib.itoa v).toArray⟩

theorem istr_size (v : Int) (h : In64 v) : (istr v).size ≤ 21 := by
  have := Lib.itoa_length_le v h.1 h.2
  simpa [istr, ByteArray.size] using this

theorem itoa_nn (u : Nat) : Lib.itoa (u : Int) = Lib.decDigits u := Lib.itoa_nonneg u

theorem mk_app (a b : List UInt8) : (⟨a.toArray⟩ : ByteArray) ++ ⟨b.toArray⟩ = ⟨(a ++ b).toArray⟩ := ByteArray.mk_append_mk a b

theorem istr_step (u : Nat) (h : ¬ u < 10) : istr ((u / 10 : Nat) : Int) ++ istr ((u % 10 : Nat) : Int) = istr (u : Int) := by
  unfold istr
  rw [mk_app, itoa_nn, itoa_nn, itoa_nn, Lib.decDigits_one (Nat.mod_lt u (by decide))]
  conv => rhs; rw [Lib.decDigits, dif_neg h]

theorem istr_neg (u : Nat) (h : 1 ≤ u) : (⟨#[45]⟩ : ByteArray) ++ istr (u : Int) = istr (-(u : Int)) := by
  unfold istr
  rw [Lib.itoa_neg u h, itoa_nn]
  exact mk_app [45] _

theorem istr_step_neg (u : Nat) (h : ¬ u < 10) : istr (-((u / 10 : Nat) : Int)) ++ istr ((u % 10 : Nat) : Int) = istr (-(u : Int)) := by
  have h1 : 1 ≤ u / 10 := by omega
  rw [← istr_neg (u / 10) h1, ← istr_neg u (by omega), ← istr_step u h]
  unfold istr
  rw [show (⟨#[45]⟩ : ByteArray) = ⟨[45].toArray⟩ from rfl, mk_app, mk_app, mk_app, mk_app, List.append_assoc]

end Go.Proofs.YtoolpifkfgileaaDoor

/-
  The reference of chapter 19: Key, cut, copied.
-/
namespace Go.Proofs.YtoolpifkfgileaaDoor
open Go Go.RowKit Own

/-- the text of a content's first items -/
def kstr (k : Int) (xs : List Int) (i : Nat) : ByteArray := ⟨(keyB k (xs.take i)).toArray⟩

theorem kstr_size (k : Int) (xs : List Int) (i : Nat) (hk : In64 k) (hx : ∀ z ∈ xs, In64 z) (hl : xs.length ≤ 1000000) : (kstr k xs i).size ≤ 22000021 := by
  have := keyB_length_le k (xs.take i) hk fun z h => hx z (List.mem_of_mem_take h)
  rw [List.length_take] at this
  have e : (kstr k xs i).size = (keyB k (xs.take i)).length := by simp [kstr, ByteArray.size]
  omega

theorem kstr_zero (k : Int) (xs : List Int) : kstr k xs 0 = istr k := by simp [kstr, istr, keyB]

theorem kstr_step (k : Int) (xs : List Int) (i : Nat) (h : i < xs.length) : (kstr k xs i ++ (⟨#[32]⟩ : ByteArray)) ++ istr (nth xs i) = kstr k xs (i + 1) := by
  unfold kstr istr
  rw [keyB_snoc k xs i h, show (⟨#[32]⟩ : ByteArray) = ⟨[32].toArray⟩ from rfl, mk_app, mk_app]

end Go.Proofs.YtoolpifkfgileaaDoor

/-
  The chapter's examples.
-/
namespace Go.Proofs.YtoolpifkfgileaaDoor
open Go Go.RowKit Own

end Go.Proofs.YtoolpifkfgileaaDoor
