/-
  SpecCalls, walked.
-/
import Derived.Test.YtopodipjapiaoaaDoorRef8
import Derived.Test.YtopodipjapiaoaaDoorMayW
namespace Go.Proofs.YtopodipjapiaoaaDoor
open Go Go.RowKit Own

theorem may_short {k op : Int} {xs : List Int} {x v cd mk : Int} {ms : List Int} {mo : Bool} (h : mayR k op xs x v cd = ⟨mk, ms, mo⟩) (hl : xs.length ≤ 1099511627776) : ms.length ≤ 1099511627776 := by
  have e : ms = (mayR k op xs x v cd).items := by rw [h]
  rw [e]
  unfold mayR
  split
  · exact hl
  · split
    · exact do_short (k := k) (op := op) (xs := xs) (x := x) rfl hl
    · exact hl

set_option maxRecDepth 100000 in
set_option maxHeartbeats 16000000 in
theorem calls_walk (w : World) (k l : Int) (p q : Option Addr) (cp cq : Nat) (xs ys : List Int) (hx : Rd w p (ints xs)) (hy : Rd w q (ints ys)) (hlx : xs.length ≤ 100) (hly : ys.length ≤ 100)
    (hp : ∀ a, p = some a → a.spot = none) (op x v cd kd : Int) (hk : In64 k) (hxx : ∀ z ∈ xs, In64 z)
    (htab : Lib.TabIs Tryd.prog w "internal/strconv.uint64pow10" .u64 Lib.pow10Tab) :
    Calls Tryd.prog 5 #[.agg #[.int .i64 k, .slice p xs.length cp], .agg #[.int .i64 l, .slice q ys.length cq], .int .i64 op, .int .i64 x, .int .i64 v, .int .i64 cd, .int .i64 kd] w fun e w' => e = .returned (.bool true) ∧ KeepBut (fun _ => False) w w' := by
  obtain ⟨W1, B7, hW1, hB7, hb7, hk1, hs1⟩ := fresh_block w (.cells #[.int .i64 k, .slice p xs.length cp] 24)
  obtain ⟨W, B8, hWd, hB8, hb8, hkW, hs2⟩ := fresh_block W1 (.cells #[.int .i64 l, .slice q ys.length cq] 24)
  have hk0 := hk1.trans hkW
  have HK := Lib.hid hk0
  have HX := Lib.hid (hx.stay hk0); have HY := Lib.hid (hy.stay hk0)
  have HB7 := Lib.hid (hkW.blk hb7); have HB8 := Lib.hid hb8
  have hN : B7 + 1 = B8 := by omega
  have HT := Lib.hid (hk0.tab htab)
  have HP := Lib.hid hp; have HIK := Lib.hid hk; have HIX := Lib.hid hxx
  have HL := Lib.hid (show xs.length ≤ 1099511627776 ∧ ys.length ≤ 1099511627776 ∧ xs.length ≤ 1000000 ∧ ys.length ≤ 1000000 by omega)
  have hli : (xs.length : Int) ≤ 100 := by omega
  have hlj : (ys.length : Int) ≤ 100 := by omega
  obtain ⟨dk, zs, dv, dc, de, hdo⟩ : ∃ dk zs dv dc de, doR k op xs x = ⟨dk, zs, dv, dc, de⟩ := ⟨_, _, _, _, _, rfl⟩
  obtain ⟨mk, ms, mo, hmo⟩ : ∃ mk ms mo, mayR k op xs x v cd = ⟨mk, ms, mo⟩ := ⟨_, _, _, rfl⟩
  obtain ⟨nk, hnk⟩ : ∃ nk, (if kindB kd = true then kd else 0) = nk := ⟨_, rfl⟩
  obtain ⟨ne, hne⟩ : ∃ ne : Int, (if kindB kd = true then 0 else 2) = ne := ⟨_, rfl⟩
  have HD := Lib.hid hdo; have HM := Lib.hid hmo; have HNK := Lib.hid hnk; have HNE := Lib.hid hne
  have HZ := Lib.hid (do_short HD.out HL.out.1); have HMS := Lib.hid (may_short HM.out HL.out.1)
  have hOwn : Hid (∀ W', KeepBut (fun _ => False) W W' → Calls Tryd.prog 15 #[.agg #[.int .i64 k, .slice p xs.length cp]] W' fun e w' => DoneC W' e w' k xs) := fun W' h =>
    ownContent_any W' k p cp xs (HX.out.stay h) HL.out.1
  have hDo : Hid (∀ W' p' c' b', Lies b' W' p' xs → Calls Tryd.prog 7 #[.agg #[.int .i64 k, .slice p' xs.length c'], .int .i64 op, .int .i64 x] W' fun e w' => Done4 W' e w' dk zs dv dc de) := fun W' p' c' b' h => by
    have := do_any W' k p' c' xs h.1 HL.out.1 (fun a ha => (h.2 a ha).2.2) op x
    rw [HD.out] at this; exact this
  have hRDo : Hid (∀ W', KeepBut (fun _ => False) W W' → Calls Tryd.prog 18 #[.agg #[.int .i64 k, .slice p xs.length cp], .int .i64 op, .int .i64 x] W' fun e w' => Done4 W' e w' dk zs dv dc de) := fun W' h => by
    have := refDo_any W' k p cp xs (HX.out.stay h) HL.out.1 op x
    rw [HD.out] at this; exact this
  have hMay : Hid (∀ W' p' c' b', Lies b' W' p' xs → Calls Tryd.prog 8 #[.agg #[.int .i64 k, .slice p' xs.length c'], .int .i64 op, .int .i64 x, .int .i64 v, .int .i64 cd] W' fun e w' => DoneM W' e w' ⟨mk, ms, mo⟩) := fun W' p' c' b' h => by
    have := may_any W' k p' c' xs h.1 HL.out.1 (fun a ha => (h.2 a ha).2.2) op x v cd
    rw [HM.out] at this; exact this
  have hRMay : Hid (∀ W', KeepBut (fun _ => False) W W' → Calls Tryd.prog 19 #[.agg #[.int .i64 k, .slice p xs.length cp], .int .i64 op, .int .i64 x, .int .i64 v, .int .i64 cd] W' fun e w' => DoneM W' e w' ⟨mk, ms, mo⟩) := fun W' h => by
    have := refMay_any W' k p cp xs (HX.out.stay h) HL.out.1 op x v cd
    rw [HM.out] at this; exact this
  have hNew : Hid (∀ W', Calls Tryd.prog 6 #[.int .i64 kd] W' fun e w' => e = .returned (.tuple #[.agg #[.int .i64 nk, .slice none 0 0], .int .i64 ne]) ∧ KeepBut (fun _ => False) W' w') := fun W' => by
    have := new_any kd W'
    rw [hnk, hne] at this; exact this
  have hRNew : Hid (∀ W', Calls Tryd.prog 20 #[.int .i64 kd] W' fun e w' => e = .returned (.tuple #[.agg #[.int .i64 nk, .slice none 0 0], .int .i64 ne]) ∧ KeepBut (fun _ => False) W' w') := fun W' => by
    have := refNew_any kd W'
    rw [hnk, hne] at this; exact this
  have x0 := blk_cell (k := 0) HB7.out rfl
  have x1 := blk_cell (k := 1) HB7.out rfl
  have y1 := blk_cell (k := 1) HB8.out rfl
  clear hx hy hlx hly hp hk hxx htab hb7 hb8 hkW hk1 hs1 hs2 hk0 hdo hmo hnk hne
  go_enter Tryd.func5, Tryd.ntmps5
  go_upto_region 1 with fail
  rw [← hW1, ← hB7, ← hWd, hN]
  clear hWd hB7 hW1 hB8 hN
  go_upto_region 5 with (go_at_call 9; refine (lives_any _).mono ?_; rintro e w1 ⟨rfl, hk1⟩; have x0 := hk1.stay x0; have x1 := hk1.stay x1; have y1 := hk1.stay y1; have HK1 := Lib.hid hk1; clear hk1)
  clear y1
  go_upto_region 6 with (first
    | (go_at_call 15; refine (hOwn.out _ HK1.out).mono ?_; rintro e w2 ⟨p2, c2, rfl, hL2, hk2⟩
       have hD2 := Lib.hid (hDo.out w2 p2 c2 _ hL2))
    | (go_at_call 7; refine hD2.out.mono ?_; rintro e w3 ⟨p3, c3, rfl, hL3, hk3⟩))
  obtain ⟨V5, B15, hV5, hB15, hb15, hkb5, -⟩ := fresh_block w3 (.cells #[.int .i64 dk, .slice p3 zs.length c3] 24)
  rw [← hV5, ← hB15]
  have hst := (hk2.trans hk3).trans hkb5
  have HK5 := Lib.hid (HK1.out.trans hst)
  have x0 := blk_cell (k := 0) (HK5.out.blk HB7.out) rfl
  have x1 := blk_cell (k := 1) (HK5.out.blk HB7.out) rfl
  have HB15 := Lib.hid hb15
  have HL15 := Lib.hid ((hL3.base (base' := 0) fun _ _ => Nat.zero_le _).stay hkb5)
  clear hV5 hB15 hb15 hkb5 hst HK1
  clear hk2 hk3 hL2 hL3 hD2 hDo
  go_upto_region 7 with (go_at_call 18; refine (hRDo.out _ HK5.out).mono ?_; rintro e w6 ⟨p6, c6, rfl, hL6, hk6⟩)
  obtain ⟨V6, B19, hV6, hB19, hb19, hkb6, -⟩ := fresh_block w6 (.cells #[.int .i64 dk, .slice p6 zs.length c6] 24)
  rw [← hV6, ← hB19]
  have hst := (hk6).trans hkb6
  have HK6 := Lib.hid (HK5.out.trans hst)
  have x0 := blk_cell (k := 0) (HK6.out.blk HB7.out) rfl
  have x1 := blk_cell (k := 1) (HK6.out.blk HB7.out) rfl
  have HB15 := Lib.hid (hst.blk HB15.out)
  have HL15 := Lib.hid (HL15.out.stay hst)
  have HB19 := Lib.hid hb19
  have HL19 := Lib.hid ((hL6.base (base' := 0) fun _ _ => Nat.zero_le _).stay hkb6)
  clear hV6 hB19 hb19 hkb6 hst HK5
  clear hk6 hL6 hRDo
  go_upto_region 8 with (first
    | (go_at_call 15; refine (hOwn.out _ HK6.out).mono ?_; rintro e w7 ⟨p7, c7, rfl, hL7, hk7⟩
       have hM7 := Lib.hid (hMay.out w7 p7 c7 _ hL7))
    | (go_at_call 8; refine hM7.out.mono ?_; rintro e w8 ⟨p8, c8, rfl, hL8, hk8⟩))
  obtain ⟨V7, B23, hV7, hB23, hb23, hkb7, -⟩ := fresh_block w8 (.cells #[.int .i64 mk, .slice p8 ms.length c8] 24)
  rw [← hV7, ← hB23]
  have hst := (hk7.trans hk8).trans hkb7
  have HK7 := Lib.hid (HK6.out.trans hst)
  have x0 := blk_cell (k := 0) (HK7.out.blk HB7.out) rfl
  have x1 := blk_cell (k := 1) (HK7.out.blk HB7.out) rfl
  have HB15 := Lib.hid (hst.blk HB15.out)
  have HL15 := Lib.hid (HL15.out.stay hst)
  have HB19 := Lib.hid (hst.blk HB19.out)
  have HL19 := Lib.hid (HL19.out.stay hst)
  have HB23 := Lib.hid hb23
  have HL23 := Lib.hid ((hL8.base (base' := 0) fun _ _ => Nat.zero_le _).stay hkb7)
  clear hV7 hB23 hb23 hkb7 hst HK6
  clear hk7 hk8 hL7 hL8 hM7 hMay hOwn
  go_upto_region 9 with (go_at_call 19; refine (hRMay.out _ HK7.out).mono ?_; rintro e w9 ⟨p9, c9, rfl, hL9, hk9⟩)
  obtain ⟨V8, B25, hV8, hB25, hb25, hkb8, -⟩ := fresh_block w9 (.cells #[.int .i64 mk, .slice p9 ms.length c9] 24)
  rw [← hV8, ← hB25]
  have hst := (hk9).trans hkb8
  have HK8 := Lib.hid (HK7.out.trans hst)
  have x0 := blk_cell (k := 0) (HK8.out.blk HB7.out) rfl
  have x1 := blk_cell (k := 1) (HK8.out.blk HB7.out) rfl
  have HB15 := Lib.hid (hst.blk HB15.out)
  have HL15 := Lib.hid (HL15.out.stay hst)
  have HB19 := Lib.hid (hst.blk HB19.out)
  have HL19 := Lib.hid (HL19.out.stay hst)
  have HB23 := Lib.hid (hst.blk HB23.out)
  have HL23 := Lib.hid (HL23.out.stay hst)
  have HB25 := Lib.hid hb25
  have HL25 := Lib.hid ((hL9.base (base' := 0) fun _ _ => Nat.zero_le _).stay hkb8)
  clear hV8 hB25 hb25 hkb8 hst HK7
  clear hk9 hL9 hRMay
  go_upto_region 10 with (go_at_call 6; refine (hNew.out _).mono ?_; rintro e w10 ⟨rfl, hk10⟩)
  obtain ⟨V9, B27, hV9, hB27, hb27, hkb9, -⟩ := fresh_block w10 (.cells #[.int .i64 nk, .slice none 0 0] 24)
  rw [← hV9, ← hB27]
  have hst := (hk10).trans hkb9
  have HK9 := Lib.hid (HK8.out.trans hst)
  have x0 := blk_cell (k := 0) (HK9.out.blk HB7.out) rfl
  have x1 := blk_cell (k := 1) (HK9.out.blk HB7.out) rfl
  have HB15 := Lib.hid (hst.blk HB15.out)
  have HL15 := Lib.hid (HL15.out.stay hst)
  have HB19 := Lib.hid (hst.blk HB19.out)
  have HL19 := Lib.hid (HL19.out.stay hst)
  have HB23 := Lib.hid (hst.blk HB23.out)
  have HL23 := Lib.hid (HL23.out.stay hst)
  have HB25 := Lib.hid (hst.blk HB25.out)
  have HL25 := Lib.hid (HL25.out.stay hst)
  have HB27 := Lib.hid hb27
  clear hV9 hB27 hb27 hkb9 hst HK8
  clear hk10 hNew
  go_upto_region 11 with (go_at_call 20; refine (hRNew.out _).mono ?_; rintro e w11 ⟨rfl, hk11⟩)
  obtain ⟨V10, B29, hV10, hB29, hb29, hkb10, -⟩ := fresh_block w11 (.cells #[.int .i64 nk, .slice none 0 0] 24)
  rw [← hV10, ← hB29]
  have hst := (hk11).trans hkb10
  have HK10 := Lib.hid (HK9.out.trans hst)
  have x0 := blk_cell (k := 0) (HK10.out.blk HB7.out) rfl
  have x1 := blk_cell (k := 1) (HK10.out.blk HB7.out) rfl
  have HB15 := Lib.hid (hst.blk HB15.out)
  have HL15 := Lib.hid (HL15.out.stay hst)
  have HB19 := Lib.hid (hst.blk HB19.out)
  have HL19 := Lib.hid (HL19.out.stay hst)
  have HB23 := Lib.hid (hst.blk HB23.out)
  have HL23 := Lib.hid (HL23.out.stay hst)
  have HB25 := Lib.hid (hst.blk HB25.out)
  have HL25 := Lib.hid (HL25.out.stay hst)
  have HB27 := Lib.hid (hst.blk HB27.out)
  have HB29 := Lib.hid hb29
  clear hV10 hB29 hb29 hkb10 hst HK9
  clear hk11 hRNew x0 x1
  have c70 : ∀ w', KeepBut (fun _ => False) V10.drew w' → w'.cell? ⟨B7, 0, none⟩ = some (.int .i64 k) := fun w' h => ((KeepBut.drew _ V10).trans h).stay (blk_cell (k := 0) (HK10.out.blk HB7.out) rfl)
  have c71 : ∀ w', KeepBut (fun _ => False) V10.drew w' → w'.cell? ⟨B7, 1, none⟩ = some (.slice p xs.length cp) := fun w' h => ((KeepBut.drew _ V10).trans h).stay (blk_cell (k := 1) (HK10.out.blk HB7.out) rfl)
  have c80 : ∀ w', KeepBut (fun _ => False) V10.drew w' → w'.cell? ⟨B8, 0, none⟩ = some (.int .i64 l) := fun w' h => ((KeepBut.drew _ V10).trans h).stay (blk_cell (k := 0) (HK10.out.blk HB8.out) rfl)
  have c81 : ∀ w', KeepBut (fun _ => False) V10.drew w' → w'.cell? ⟨B8, 1, none⟩ = some (.slice q ys.length cq) := fun w' h => ((KeepBut.drew _ V10).trans h).stay (blk_cell (k := 1) (HK10.out.blk HB8.out) rfl)
  have c150 : ∀ w', KeepBut (fun _ => False) V10.drew w' → w'.cell? ⟨B15, 0, none⟩ = some (.int .i64 dk) := fun w' h => ((KeepBut.drew _ V10).trans h).stay (blk_cell (k := 0) HB15.out rfl)
  have c151 : ∀ w', KeepBut (fun _ => False) V10.drew w' → w'.cell? ⟨B15, 1, none⟩ = some (.slice p3 zs.length c3) := fun w' h => ((KeepBut.drew _ V10).trans h).stay (blk_cell (k := 1) HB15.out rfl)
  have c190 : ∀ w', KeepBut (fun _ => False) V10.drew w' → w'.cell? ⟨B19, 0, none⟩ = some (.int .i64 dk) := fun w' h => ((KeepBut.drew _ V10).trans h).stay (blk_cell (k := 0) HB19.out rfl)
  have c191 : ∀ w', KeepBut (fun _ => False) V10.drew w' → w'.cell? ⟨B19, 1, none⟩ = some (.slice p6 zs.length c6) := fun w' h => ((KeepBut.drew _ V10).trans h).stay (blk_cell (k := 1) HB19.out rfl)
  have c230 : ∀ w', KeepBut (fun _ => False) V10.drew w' → w'.cell? ⟨B23, 0, none⟩ = some (.int .i64 mk) := fun w' h => ((KeepBut.drew _ V10).trans h).stay (blk_cell (k := 0) HB23.out rfl)
  have c231 : ∀ w', KeepBut (fun _ => False) V10.drew w' → w'.cell? ⟨B23, 1, none⟩ = some (.slice p8 ms.length c8) := fun w' h => ((KeepBut.drew _ V10).trans h).stay (blk_cell (k := 1) HB23.out rfl)
  have c250 : ∀ w', KeepBut (fun _ => False) V10.drew w' → w'.cell? ⟨B25, 0, none⟩ = some (.int .i64 mk) := fun w' h => ((KeepBut.drew _ V10).trans h).stay (blk_cell (k := 0) HB25.out rfl)
  have c251 : ∀ w', KeepBut (fun _ => False) V10.drew w' → w'.cell? ⟨B25, 1, none⟩ = some (.slice p9 ms.length c9) := fun w' h => ((KeepBut.drew _ V10).trans h).stay (blk_cell (k := 1) HB25.out rfl)
  have c270 : ∀ w', KeepBut (fun _ => False) V10.drew w' → w'.cell? ⟨B27, 0, none⟩ = some (.int .i64 nk) := fun w' h => ((KeepBut.drew _ V10).trans h).stay (blk_cell (k := 0) HB27.out rfl)
  have c271 : ∀ w', KeepBut (fun _ => False) V10.drew w' → w'.cell? ⟨B27, 1, none⟩ = some (.slice none 0 0) := fun w' h => ((KeepBut.drew _ V10).trans h).stay (blk_cell (k := 1) HB27.out rfl)
  have c290 : ∀ w', KeepBut (fun _ => False) V10.drew w' → w'.cell? ⟨B29, 0, none⟩ = some (.int .i64 nk) := fun w' h => ((KeepBut.drew _ V10).trans h).stay (blk_cell (k := 0) HB29.out rfl)
  have c291 : ∀ w', KeepBut (fun _ => False) V10.drew w' → w'.cell? ⟨B29, 1, none⟩ = some (.slice none 0 0) := fun w' h => ((KeepBut.drew _ V10).trans h).stay (blk_cell (k := 1) HB29.out rfl)
  have hCon1 : Hid (∀ w', KeepBut (fun _ => False) V10.drew w' → Calls Tryd.prog 16 #[.agg #[.int .i64 dk, .slice p3 zs.length c3], .agg #[.int .i64 dk, .slice p6 zs.length c6]] w' fun e w'' => e = .returned (.bool true) ∧ KeepBut (fun _ => False) w' w'') := fun w' h => by
    have := content_any w' dk dk p3 p6 c3 c6 zs zs (HL15.out.stay ((KeepBut.drew _ V10).trans h)).1 (HL19.out.stay ((KeepBut.drew _ V10).trans h)).1 HZ.out HZ.out
    rw [show decide (dk = dk ∧ zs = zs) = true by simp] at this; exact this
  have hCon2 : Hid (∀ w', KeepBut (fun _ => False) V10.drew w' → Calls Tryd.prog 16 #[.agg #[.int .i64 mk, .slice p8 ms.length c8], .agg #[.int .i64 mk, .slice p9 ms.length c9]] w' fun e w'' => e = .returned (.bool true) ∧ KeepBut (fun _ => False) w' w'') := fun w' h => by
    have := content_any w' mk mk p8 p9 c8 c9 ms ms (HL23.out.stay ((KeepBut.drew _ V10).trans h)).1 (HL25.out.stay ((KeepBut.drew _ V10).trans h)).1 HMS.out HMS.out
    rw [show decide (mk = mk ∧ ms = ms) = true by simp] at this; exact this
  have hCon3 : Hid (∀ w', KeepBut (fun _ => False) V10.drew w' → Calls Tryd.prog 16 #[.agg #[.int .i64 nk, .slice none 0 0], .agg #[.int .i64 nk, .slice none 0 0]] w' fun e w'' => e = .returned (.bool true) ∧ KeepBut (fun _ => False) w' w'') := fun w' h => by
    have := content_any w' nk nk none none 0 0 [] [] (Rd.empty _ _) (Rd.empty _ _) (Nat.zero_le _) (Nat.zero_le _)
    rw [show decide (nk = nk ∧ ([] : List Int) = []) = true by simp] at this; exact this
  obtain ⟨ck, hck⟩ : ∃ ck, chk k xs = ck := ⟨_, rfl⟩
  obtain ⟨r, hr⟩ : ∃ r, decide (k = l ∧ xs = ys) = r := ⟨_, rfl⟩
  obtain ⟨s1, hs1⟩ : ∃ s1 : ByteArray, ⟨(keyB k xs).toArray⟩ = s1 := ⟨_, rfl⟩
  have hCk : Hid (∀ w', KeepBut (fun _ => False) V10.drew w' → Calls Tryd.prog 14 #[.agg #[.int .i64 k, .slice p xs.length cp]] w' fun e w'' => e = .returned (.int .i64 ck) ∧ KeepBut (fun _ => False) w' w'') := fun w' h => by
    have := check_any w' k p cp xs (HX.out.stay (HK10.out.trans ((KeepBut.drew _ V10).trans h))) HL.out.1 HP.out
    rw [hck] at this; exact this
  have hRCk : Hid (∀ w', KeepBut (fun _ => False) V10.drew w' → Calls Tryd.prog 21 #[.agg #[.int .i64 k, .slice p xs.length cp]] w' fun e w'' => e = .returned (.int .i64 ck) ∧ KeepBut (fun _ => False) w' w'') := fun w' h => by
    have := refCheck_any w' k p cp xs (HX.out.stay (HK10.out.trans ((KeepBut.drew _ V10).trans h))) HL.out.1
    rw [hck] at this; exact this
  have hSm : Hid (∀ w', KeepBut (fun _ => False) V10.drew w' → Calls Tryd.prog 17 #[.agg #[.int .i64 k, .slice p xs.length cp], .agg #[.int .i64 l, .slice q ys.length cq]] w' fun e w'' => e = .returned (.bool r) ∧ KeepBut (fun _ => False) w' w'') := fun w' h => by
    have := same_any w' k l p q cp cq xs ys (HX.out.stay (HK10.out.trans ((KeepBut.drew _ V10).trans h))) (HY.out.stay (HK10.out.trans ((KeepBut.drew _ V10).trans h))) HL.out.1 HL.out.2.1
    rw [hr] at this; exact this
  have hRSm : Hid (∀ w', KeepBut (fun _ => False) V10.drew w' → Calls Tryd.prog 25 #[.agg #[.int .i64 k, .slice p xs.length cp], .agg #[.int .i64 l, .slice q ys.length cq]] w' fun e w'' => e = .returned (.bool r) ∧ KeepBut (fun _ => False) w' w'') := fun w' h => by
    have := refSame_any w' k l p q cp cq xs ys (HX.out.stay (HK10.out.trans ((KeepBut.drew _ V10).trans h))) (HY.out.stay (HK10.out.trans ((KeepBut.drew _ V10).trans h))) HL.out.1 HL.out.2.1
    rw [hr] at this; exact this
  have hKy : Hid (∀ w', KeepBut (fun _ => False) V10.drew w' → Calls Tryd.prog 13 #[.agg #[.int .i64 k, .slice p xs.length cp]] w' fun e w'' => e = .returned (.string s1) ∧ KeepBut (fun _ => False) w' w'') := fun w' h => by
    have := key_any w' k p cp xs (HX.out.stay (HK10.out.trans ((KeepBut.drew _ V10).trans h))) HL.out.2.2.1 HIK.out HIX.out ((HK10.out.trans ((KeepBut.drew _ V10).trans h)).tab HT.out)
    rw [hs1] at this; exact this
  have hRKy : Hid (∀ w', KeepBut (fun _ => False) V10.drew w' → Calls Tryd.prog 26 #[.agg #[.int .i64 k, .slice p xs.length cp]] w' fun e w'' => e = .returned (.string s1) ∧ KeepBut (fun _ => False) w' w'') := fun w' h => by
    have := refKey_any w' k p cp xs (HX.out.stay (HK10.out.trans ((KeepBut.drew _ V10).trans h))) HL.out.2.2.1 HIK.out HIX.out
    rw [hs1] at this; exact this
  obtain ⟨iB, hiB⟩ : ∃ iB, insB op = iB := ⟨_, rfl⟩
  obtain ⟨tB, htB⟩ : ∃ tB, takesB op = tB := ⟨_, rfl⟩
  obtain ⟨ko, hko⟩ : ∃ ko, kindOf op = ko := ⟨_, rfl⟩
  have hIn : Hid (∀ w', Calls Tryd.prog 10 #[.int .i64 op] w' fun e w'' => e = .returned (.bool iB) ∧ w'' = w') := fun w' => by rw [← hiB]; exact inserts_any w' op
  have hRIn : Hid (∀ w', Calls Tryd.prog 22 #[.int .i64 op] w' fun e w'' => e = .returned (.bool iB) ∧ w'' = w') := fun w' => by rw [← hiB]; exact refInserts_any w' op
  have hTk : Hid (∀ w', Calls Tryd.prog 11 #[.int .i64 op] w' fun e w'' => e = .returned (.bool tB) ∧ w'' = w') := fun w' => by rw [← htB]; exact takes_any w' op
  have hRTk : Hid (∀ w', Calls Tryd.prog 23 #[.int .i64 op] w' fun e w'' => e = .returned (.bool tB) ∧ w'' = w') := fun w' => by rw [← htB]; exact refTakes_any w' op
  have hKd : Hid (∀ w', Calls Tryd.prog 12 #[.int .i64 op] w' fun e w'' => e = .returned (.int .i64 ko) ∧ w'' = w') := fun w' => by rw [← hko]; exact kind_any op w'
  have hRKd : Hid (∀ w', Calls Tryd.prog 24 #[.int .i64 op] w' fun e w'' => e = .returned (.int .i64 ko) ∧ w'' = w') := fun w' => by rw [← hko]; exact refKind_any w' op
  clear hck hr hs1 hiB htB hko
  have q1 : (dv == dv) = true := beq_self_eq_true _
  have q2 : (dc == dc) = true := beq_self_eq_true _
  have q3 : (de == de) = true := beq_self_eq_true _
  have q4 : (mo == mo) = true := beq_self_eq_true _
  have q5 : (ne == ne) = true := beq_self_eq_true _
  have q6 : (ck == ck) = true := beq_self_eq_true _
  have q7 : (iB == iB) = true := beq_self_eq_true _
  have q8 : (tB == tB) = true := beq_self_eq_true _
  have q9 : (ko == ko) = true := beq_self_eq_true _
  have q10 : (r == r) = true := beq_self_eq_true _
  have q11 : (s1.toList == s1.toList) = true := beq_self_eq_true _
  simp only [List.append_eq, List.cons_append, List.nil_append]
  refine wp_own0 (by kernel_rfl) (fun i => [[], [], [0, 1], [0, 1, 2], [0, 1, 2, 3], [0, 1, 2, 3], [0, 1, 2, 3, 4, 5], [0, 1, 2, 3, 4, 5, 6], [0, 1, 2, 3, 4, 5, 6, 7], [0, 1, 2, 3, 4, 5, 6, 7, 8], [0, 1, 2, 3, 4, 5, 6, 7, 8], [0, 1, 2, 3, 4, 5, 6, 7, 8, 9, 10], [0, 1, 2, 3, 4, 5, 6, 7, 8, 9, 10, 11], [0, 1, 2, 3, 4, 5, 6, 7, 8, 9, 10, 11, 12], [0, 1, 2, 3, 4, 5, 6, 7, 8, 9, 10, 11, 12, 13], [0, 1, 2, 3, 4, 5, 6, 7, 8, 9, 10, 11, 12, 13], [0, 1, 2, 3, 4, 5, 6, 7, 8, 9, 10, 11, 12, 13, 14, 15], [0, 1, 2, 3, 4, 5, 6, 7, 8, 9, 10, 11, 12, 13, 14, 15, 16], [0, 1, 2, 3, 4, 5, 6, 7, 8, 9, 10, 11, 12, 13, 14, 15, 16, 17], [0, 1, 2, 3, 4, 5, 6, 7, 8, 9, 10, 11, 12, 13, 14, 15, 16, 17, 18], [0, 1, 2, 3, 4, 5, 6, 7, 8, 9, 10, 11, 12, 13, 14, 15, 16, 17, 18], [0, 1, 2, 3, 4, 5, 6, 7, 8, 9, 10, 11, 12, 13, 14, 15, 16, 17, 18, 19, 20], [0, 1, 2, 3, 4, 5, 6, 7, 8, 9, 10, 11, 12, 13, 14, 15, 16, 17, 18, 19, 20, 21], [0, 1, 2, 3, 4, 5, 6, 7, 8, 9, 10, 11, 12, 13, 14, 15, 16, 17, 18, 19, 20, 21, 22], [0, 1, 2, 3, 4, 5, 6, 7, 8, 9, 10, 11, 12, 13, 14, 15, 16, 17, 18, 19, 20, 21, 22, 23], [0, 1, 2, 3, 4, 5, 6, 7, 8, 9, 10, 11, 12, 13, 14, 15, 16, 17, 18, 19, 20, 21, 22, 23], [0, 1, 2, 3, 4, 5, 6, 7, 8, 9, 10, 11, 12, 13, 14, 15, 16, 17, 18, 19, 20, 21, 22, 23, 24, 25], [0, 1, 2, 3, 4, 5, 6, 7, 8, 9, 10, 11, 12, 13, 14, 15, 16, 17, 18, 19, 20, 21, 22, 23, 24, 25, 26], [0, 1, 2, 3, 4, 5, 6, 7, 8, 9, 10, 11, 12, 13, 14, 15, 16, 17, 18, 19, 20, 21, 22, 23, 24, 25, 26, 27], [0, 1, 2, 3, 4, 5, 6, 7, 8, 9, 10, 11, 12, 13, 14, 15, 16, 17, 18, 19, 20, 21, 22, 23, 24, 25, 26, 27, 28], [0, 1, 2, 3, 4, 5, 6, 7, 8, 9, 10, 11, 12, 13, 14, 15, 16, 17, 18, 19, 20, 21, 22, 23, 24, 25, 26, 27, 28], [0, 1, 2, 3, 4, 5, 6, 7, 8, 9, 10, 11, 12, 13, 14, 15, 16, 17, 18, 19, 20, 21, 22, 23, 24, 25, 26, 27, 28, 29, 30], [0, 1, 2, 3, 4, 5, 6, 7, 8, 9, 10, 11, 12, 13, 14, 15, 16, 17, 18, 19, 20, 21, 22, 23, 24, 25, 26, 27, 28, 29, 30, 31], [0, 1, 2, 3, 4, 5, 6, 7, 8, 9, 10, 11, 12, 13, 14, 15, 16, 17, 18, 19, 20, 21, 22, 23, 24, 25, 26, 27, 28, 29, 30, 31, 32], [0, 1, 2, 3, 4, 5, 6, 7, 8, 9, 10, 11, 12, 13, 14, 15, 16, 17, 18, 19, 20, 21, 22, 23, 24, 25, 26, 27, 28, 29, 30, 31, 32, 33], [0, 1, 2, 3, 4, 5, 6, 7, 8, 9, 10, 11, 12, 13, 14, 15, 16, 17, 18, 19, 20, 21, 22, 23, 24, 25, 26, 27, 28, 29, 30, 31, 32, 33], [0, 1, 2, 3, 4, 5, 6, 7, 8, 9, 10, 11, 12, 13, 14, 15, 16, 17, 18, 19, 20, 21, 22, 23, 24, 25, 26, 27, 28, 29, 30, 31, 32, 33, 34, 35], [0, 1, 2, 3, 4, 5, 6, 7, 8, 9, 10, 11, 12, 13, 14, 15, 16, 17, 18, 19, 20, 21, 22, 23, 24, 25, 26, 27, 28, 29, 30, 31, 32, 33, 34, 35, 36], [0, 1, 2, 3, 4, 5, 6, 7, 8, 9, 10, 11, 12, 13, 14, 15, 16, 17, 18, 19, 20, 21, 22, 23, 24, 25, 26, 27, 28, 29, 30, 31, 32, 33, 34, 35, 36, 37], [0, 1, 2, 3, 4, 5, 6, 7, 8, 9, 10, 11, 12, 13, 14, 15, 16, 17, 18, 19, 20, 21, 22, 23, 24, 25, 26, 27, 28, 29, 30, 31, 32, 33, 34, 35, 36, 37, 38], [0, 1, 2, 3, 4, 5, 6, 7, 8, 9, 10, 11, 12, 13, 14, 15, 16, 17, 18, 19, 20, 21, 22, 23, 24, 25, 26, 27, 28, 29, 30, 31, 32, 33, 34, 35, 36, 37, 38, 39], [0, 1, 2, 3, 4, 5, 6, 7, 8, 9, 10, 11, 12, 13, 14, 15, 16, 17, 18, 19, 20, 21, 22, 23, 24, 25, 26, 27, 28, 29, 30, 31, 32, 33, 34, 35, 36, 37, 38], [0, 1, 2, 3, 4, 5, 6, 7, 8, 9, 10, 11, 12, 13, 14, 15, 16, 17, 18, 19, 20, 21, 22, 23, 24, 25, 26, 27, 28, 29, 30, 31, 32, 33, 34, 35, 36, 37, 38, 39, 40, 41], [0, 1, 2, 3, 4, 5, 6, 7, 8, 9, 10, 11, 12, 13, 14, 15, 16, 17, 18, 19, 20, 21, 22, 23, 24, 25, 26, 27, 28, 29, 30, 31, 32, 33, 34, 35, 36, 37, 38, 39, 40, 41, 42], [0, 1, 2, 3, 4, 5, 6, 7, 8, 9, 10, 11, 12, 13, 14, 15, 16, 17, 18, 19, 20, 21, 22, 23, 24, 25, 26, 27, 28, 29, 30, 31, 32, 33, 34, 35, 36, 37, 38, 39, 40, 41, 42, 43], [0, 1, 2, 3, 4, 5, 6, 7, 8, 9, 10, 11, 12, 13, 14, 15, 16, 17, 18, 19, 20, 21, 22, 23, 24, 25, 26, 27, 28, 29, 30, 31, 32, 33, 34, 35, 36, 37, 38, 39, 40, 41, 42, 43, 44], [0, 1, 2, 3, 4, 5, 6, 7, 8, 9, 10, 11, 12, 13, 14, 15, 16, 17, 18, 19, 20, 21, 22, 23, 24, 25, 26, 27, 28, 29, 30, 31, 32, 33, 34, 35, 36, 37, 38, 39, 40, 41, 42, 43, 44, 45], [0, 1, 2, 3, 4, 5, 6, 7, 8, 9, 10, 11, 12, 13, 14, 15, 16, 17, 18, 19, 20, 21, 22, 23, 24, 25, 26, 27, 28, 29, 30, 31, 32, 33, 34, 35, 36, 37, 38, 39, 40, 41, 42, 43, 44, 45, 46], [0, 1, 2, 3, 4, 5, 6, 7, 8, 9, 10, 11, 12, 13, 14, 15, 16, 17, 18, 19, 20, 21, 22, 23, 24, 25, 26, 27, 28, 29, 30, 31, 32, 33, 34, 35, 36, 37, 38, 39, 40, 41, 42, 43, 44, 45], [0, 1, 2, 3, 4, 5, 6, 7, 8, 9, 10, 11, 12, 13, 14, 15, 16, 17, 18, 19, 20, 21, 22, 23, 24, 25, 26, 27, 28, 29, 30, 31, 32, 33, 34, 35, 36, 37, 38, 39, 40, 41, 42, 43, 44, 45, 46, 47, 48], [0, 1, 2, 3, 4, 5, 6, 7, 8, 9, 10, 11, 12, 13, 14, 15, 16, 17, 18, 19, 20, 21, 22, 23, 24, 25, 26, 27, 28, 29, 30, 31, 32, 33, 34, 35, 36, 37, 38, 39, 40, 41, 42, 43, 44, 45, 46, 47, 48, 49], [0, 1, 2, 3, 4, 5, 6, 7, 8, 9, 10, 11, 12, 13, 14, 15, 16, 17, 18, 19, 20, 21, 22, 23, 24, 25, 26, 27, 28, 29, 30, 31, 32, 33, 34, 35, 36, 37, 38, 39, 40, 41, 42, 43, 44, 45, 46, 47, 48, 49, 50], [0, 1, 2, 3, 4, 5, 6, 7, 8, 9, 10, 11, 12, 13, 14, 15, 16, 17, 18, 19, 20, 21, 22, 23, 24, 25, 26, 27, 28, 29, 30, 31, 32, 33, 34, 35, 36, 37, 38, 39, 40, 41, 42, 43, 44, 45, 46, 47, 48, 49, 50, 51], [0, 1, 2, 3, 4, 5, 6, 7, 8, 9, 10, 11, 12, 13, 14, 15, 16, 17, 18, 19, 20, 21, 22, 23, 24, 25, 26, 27, 28, 29, 30, 31, 32, 33, 34, 35, 36, 37, 38, 39, 40, 41, 42, 43, 44, 45, 46, 47, 48, 49, 50, 51, 52], [0, 1, 2, 3, 4, 5, 6, 7, 8, 9, 10, 11, 12, 13, 14, 15, 16, 17, 18, 19, 20, 21, 22, 23, 24, 25, 26, 27, 28, 29, 30, 31, 32, 33, 34, 35, 36, 37, 38, 39, 40, 41, 42, 43, 44, 45, 46, 47, 48, 49, 50, 51, 52, 53], [0, 1, 2, 3, 4, 5, 6, 7, 8, 9, 10, 11, 12, 13, 14, 15, 16, 17, 18, 19, 20, 21, 22, 23, 24, 25, 26, 27, 28, 29, 30, 31, 32, 33, 34, 35, 36, 37, 38, 39, 40, 41, 42, 43, 44, 45, 46, 47, 48, 49, 50, 51, 52], [0, 1, 2, 3, 4, 5, 6, 7, 8, 9, 10, 11, 12, 13, 14, 15, 16, 17, 18, 19, 20, 21, 22, 23, 24, 25, 26, 27, 28, 29, 30, 31, 32, 33, 34, 35, 36, 37, 38, 39, 40, 41, 42, 43, 44, 45, 46, 47, 48, 49, 50, 51, 52, 53, 54, 55], [0, 1, 2, 3, 4, 5, 6, 7, 8, 9, 10, 11, 12, 13, 14, 15, 16, 17, 18, 19, 20, 21, 22, 23, 24, 25, 26, 27, 28, 29, 30, 31, 32, 33, 34, 35, 36, 37, 38, 39, 40, 41, 42, 43, 44, 45, 46, 47, 48, 49, 50, 51, 52, 53, 54, 55, 56], [0, 1, 2, 3, 4, 5, 6, 7, 8, 9, 10, 11, 12, 13, 14, 15, 16, 17, 18, 19, 20, 21, 22, 23, 24, 25, 26, 27, 28, 29, 30, 31, 32, 33, 34, 35, 36, 37, 38, 39, 40, 41, 42, 43, 44, 45, 46, 47, 48, 49, 50, 51, 52, 53, 54, 55, 56, 57], [0, 1, 2, 3, 4, 5, 6, 7, 8, 9, 10, 11, 12, 13, 14, 15, 16, 17, 18, 19, 20, 21, 22, 23, 24, 25, 26, 27, 28, 29, 30, 31, 32, 33, 34, 35, 36, 37, 38, 39, 40, 41, 42, 43, 44, 45, 46, 47, 48, 49, 50, 51, 52, 53, 54, 55, 56, 57, 58], [0, 1, 2, 3, 4, 5, 6, 7, 8, 9, 10, 11, 12, 13, 14, 15, 16, 17, 18, 19, 20, 21, 22, 23, 24, 25, 26, 27, 28, 29, 30, 31, 32, 33, 34, 35, 36, 37, 38, 39, 40, 41, 42, 43, 44, 45, 46, 47, 48, 49, 50, 51, 52, 53, 54, 55, 56, 57, 58, 59], [0, 1, 2, 3, 4, 5, 6, 7, 8, 9, 10, 11, 12, 13, 14, 15, 16, 17, 18, 19, 20, 21, 22, 23, 24, 25, 26, 27, 28, 29, 30, 31, 32, 33, 34, 35, 36, 37, 38, 39, 40, 41, 42, 43, 44, 45, 46, 47, 48, 49, 50, 51, 52, 53, 54, 55, 56, 57, 58, 59, 60], [0, 1, 2, 3, 4, 5, 6, 7, 8, 9, 10, 11, 12, 13, 14, 15, 16, 17, 18, 19, 20, 21, 22, 23, 24, 25, 26, 27, 28, 29, 30, 31, 32, 33, 34, 35, 36, 37, 38, 39, 40, 41, 42, 43, 44, 45, 46, 47, 48, 49, 50, 51, 52, 53, 54, 55, 56, 57, 58, 59], [0, 1, 2, 3, 4, 5, 6, 7, 8, 9, 10, 11, 12, 13, 14, 15, 16, 17, 18, 19, 20, 21, 22, 23, 24, 25, 26, 27, 28, 29, 30, 31, 32, 33, 34, 35, 36, 37, 38, 39, 40, 41, 42, 43, 44, 45, 46, 47, 48, 49, 50, 51, 52, 53, 54, 55, 56, 57, 58, 59, 60, 61, 62], [0, 1, 2, 3, 4, 5, 6, 7, 8, 9, 10, 11, 12, 13, 14, 15, 16, 17, 18, 19, 20, 21, 22, 23, 24, 25, 26, 27, 28, 29, 30, 31, 32, 33, 34, 35, 36, 37, 38, 39, 40, 41, 42, 43, 44, 45, 46, 47, 48, 49, 50, 51, 52, 53, 54, 55, 56, 57, 58, 59, 60, 61, 62, 63], [0, 1, 2, 3, 4, 5, 6, 7, 8, 9, 10, 11, 12, 13, 14, 15, 16, 17, 18, 19, 20, 21, 22, 23, 24, 25, 26, 27, 28, 29, 30, 31, 32, 33, 34, 35, 36, 37, 38, 39, 40, 41, 42, 43, 44, 45, 46, 47, 48, 49, 50, 51, 52, 53, 54, 55, 56, 57, 58, 59, 60, 61, 62, 63, 64], [0, 1, 2, 3, 4, 5, 6, 7, 8, 9, 10, 11, 12, 13, 14, 15, 16, 17, 18, 19, 20, 21, 22, 23, 24, 25, 26, 27, 28, 29, 30, 31, 32, 33, 34, 35, 36, 37, 38, 39, 40, 41, 42, 43, 44, 45, 46, 47, 48, 49, 50, 51, 52, 53, 54, 55, 56, 57, 58, 59, 60, 61, 62, 63, 64, 65], [0, 1, 2, 3, 4, 5, 6, 7, 8, 9, 10, 11, 12, 13, 14, 15, 16, 17, 18, 19, 20, 21, 22, 23, 24, 25, 26, 27, 28, 29, 30, 31, 32, 33, 34, 35, 36, 37, 38, 39, 40, 41, 42, 43, 44, 45, 46, 47, 48, 49, 50, 51, 52, 53, 54, 55, 56, 57, 58, 59, 60, 61, 62, 63, 64, 65, 66], [0, 1, 2, 3, 4, 5, 6, 7, 8, 9, 10, 11, 12, 13, 14, 15, 16, 17, 18, 19, 20, 21, 22, 23, 24, 25, 26, 27, 28, 29, 30, 31, 32, 33, 34, 35, 36, 37, 38, 39, 40, 41, 42, 43, 44, 45, 46, 47, 48, 49, 50, 51, 52, 53, 54, 55, 56, 57, 58, 59, 60, 61, 62, 63, 64, 65, 66], [0, 1, 2, 3, 4, 5, 6, 7, 8, 9, 10, 11, 12, 13, 14, 15, 16, 17, 18, 19, 20, 21, 22, 23, 24, 25, 26, 27, 28, 29, 30, 31, 32, 33, 34, 35, 36, 37, 38, 39, 40, 41, 42, 43, 44, 45, 46, 47, 48, 49, 50, 51, 52, 53, 54, 55, 56, 57, 58, 59, 60, 61, 62, 63, 64, 65, 66, 67, 68], [0, 1, 2, 3, 4, 5, 6, 7, 8, 9, 10, 11, 12, 13, 14, 15, 16, 17, 18, 19, 20, 21, 22, 23, 24, 25, 26, 27, 28, 29, 30, 31, 32, 33, 34, 35, 36, 37, 38, 39, 40, 41, 42, 43, 44, 45, 46, 47, 48, 49, 50, 51, 52, 53, 54, 55, 56, 57, 58, 59, 60, 61, 62, 63, 64, 65, 66], [0, 1, 2, 3, 4, 5, 6, 7, 8, 9, 10, 11, 12, 13, 14, 15, 16, 17, 18, 19, 20, 21, 22, 23, 24, 25, 26, 27, 28, 29, 30, 31, 32, 33, 34, 35, 36, 37, 38, 39, 40, 41, 42, 43, 44, 45, 46, 47, 48, 49, 50, 51, 52, 53, 54, 55, 56, 57, 58, 59, 60, 61, 62, 63, 64, 65, 66], [0, 1, 2, 3, 4, 5, 6, 7, 8, 9, 10, 11, 12, 13, 14, 15, 16, 17, 18, 19, 20, 21, 22, 23, 24, 25, 26, 27, 28, 29, 30, 31, 32, 33, 34, 35, 36, 37, 38, 39, 40, 41, 42, 43, 44, 45, 46, 47, 48, 49, 50, 51, 52, 53, 54, 55, 56, 57, 58, 59, 60, 61, 62, 63, 64, 65, 66, 67, 68, 69, 70, 71], [0, 1, 2, 3, 4, 5, 6, 7, 8, 9, 10, 11, 12, 13, 14, 15, 16, 17, 18, 19, 20, 21, 22, 23, 24, 25, 26, 27, 28, 29, 30, 31, 32, 33, 34, 35, 36, 37, 38, 39, 40, 41, 42, 43, 44, 45, 46, 47, 48, 49, 50, 51, 52, 53, 54, 55, 56, 57, 58, 59, 60, 61, 62, 63, 64, 65, 66, 67, 68, 69, 70, 71, 72], [0, 1, 2, 3, 4, 5, 6, 7, 8, 9, 10, 11, 12, 13, 14, 15, 16, 17, 18, 19, 20, 21, 22, 23, 24, 25, 26, 27, 28, 29, 30, 31, 32, 33, 34, 35, 36, 37, 38, 39, 40, 41, 42, 43, 44, 45, 46, 47, 48, 49, 50, 51, 52, 53, 54, 55, 56, 57, 58, 59, 60, 61, 62, 63, 64, 65, 66, 67, 68, 69, 70, 71, 72, 73], [0, 1, 2, 3, 4, 5, 6, 7, 8, 9, 10, 11, 12, 13, 14, 15, 16, 17, 18, 19, 20, 21, 22, 23, 24, 25, 26, 27, 28, 29, 30, 31, 32, 33, 34, 35, 36, 37, 38, 39, 40, 41, 42, 43, 44, 45, 46, 47, 48, 49, 50, 51, 52, 53, 54, 55, 56, 57, 58, 59, 60, 61, 62, 63, 64, 65, 66, 67, 68, 69, 70, 71, 72, 73, 74], [0, 1, 2, 3, 4, 5, 6, 7, 8, 9, 10, 11, 12, 13, 14, 15, 16, 17, 18, 19, 20, 21, 22, 23, 24, 25, 26, 27, 28, 29, 30, 31, 32, 33, 34, 35, 36, 37, 38, 39, 40, 41, 42, 43, 44, 45, 46, 47, 48, 49, 50, 51, 52, 53, 54, 55, 56, 57, 58, 59, 60, 61, 62, 63, 64, 65, 66, 67, 68, 69, 70, 71, 72, 73, 74, 75], [0, 1, 2, 3, 4, 5, 6, 7, 8, 9, 10, 11, 12, 13, 14, 15, 16, 17, 18, 19, 20, 21, 22, 23, 24, 25, 26, 27, 28, 29, 30, 31, 32, 33, 34, 35, 36, 37, 38, 39, 40, 41, 42, 43, 44, 45, 46, 47, 48, 49, 50, 51, 52, 53, 54, 55, 56, 57, 58, 59, 60, 61, 62, 63, 64, 65, 66, 67, 68, 69, 70, 71, 72, 73, 74, 75, 76], [0, 1, 2, 3, 4, 5, 6, 7, 8, 9, 10, 11, 12, 13, 14, 15, 16, 17, 18, 19, 20, 21, 22, 23, 24, 25, 26, 27, 28, 29, 30, 31, 32, 33, 34, 35, 36, 37, 38, 39, 40, 41, 42, 43, 44, 45, 46, 47, 48, 49, 50, 51, 52, 53, 54, 55, 56, 57, 58, 59, 60, 61, 62, 63, 64, 65, 66, 67, 68, 69, 70, 71, 72, 73, 74, 75], [0, 1, 2, 3, 4, 5, 6, 7, 8, 9, 10, 11, 12, 13, 14, 15, 16, 17, 18, 19, 20, 21, 22, 23, 24, 25, 26, 27, 28, 29, 30, 31, 32, 33, 34, 35, 36, 37, 38, 39, 40, 41, 42, 43, 44, 45, 46, 47, 48, 49, 50, 51, 52, 53, 54, 55, 56, 57, 58, 59, 60, 61, 62, 63, 64, 65, 66, 67, 68, 69, 70, 71, 72, 73, 74, 75, 76, 77, 78], [0, 1, 2, 3, 4, 5, 6, 7, 8, 9, 10, 11, 12, 13, 14, 15, 16, 17, 18, 19, 20, 21, 22, 23, 24, 25, 26, 27, 28, 29, 30, 31, 32, 33, 34, 35, 36, 37, 38, 39, 40, 41, 42, 43, 44, 45, 46, 47, 48, 49, 50, 51, 52, 53, 54, 55, 56, 57, 58, 59, 60, 61, 62, 63, 64, 65, 66, 67, 68, 69, 70, 71, 72, 73, 74, 75, 76, 77, 78, 79], [0, 1, 2, 3, 4, 5, 6, 7, 8, 9, 10, 11, 12, 13, 14, 15, 16, 17, 18, 19, 20, 21, 22, 23, 24, 25, 26, 27, 28, 29, 30, 31, 32, 33, 34, 35, 36, 37, 38, 39, 40, 41, 42, 43, 44, 45, 46, 47, 48, 49, 50, 51, 52, 53, 54, 55, 56, 57, 58, 59, 60, 61, 62, 63, 64, 65, 66, 67, 68, 69, 70, 71, 72, 73, 74, 75, 76, 77, 78, 79, 80], [0, 1, 2, 3, 4, 5, 6, 7, 8, 9, 10, 11, 12, 13, 14, 15, 16, 17, 18, 19, 20, 21, 22, 23, 24, 25, 26, 27, 28, 29, 30, 31, 32, 33, 34, 35, 36, 37, 38, 39, 40, 41, 42, 43, 44, 45, 46, 47, 48, 49, 50, 51, 52, 53, 54, 55, 56, 57, 58, 59, 60, 61, 62, 63, 64, 65, 66, 67, 68, 69, 70, 71, 72, 73, 74, 75, 76, 77, 78, 79, 80, 81]].getD i []) (fun _ => []) (fun _ => []) [] (by kernel_rfl)
    (fun i => if i = 2 then some (sConst (.bool true)) else if i = 21 then some (sConst (.bool true)) else if i = 31 then some (sConst (.bool true)) else if i = 40 then some (sConst (.int .i64 ck)) else if i = 42 then some (sConst (.int .i64 ck)) else if i = 47 then some (sConst (.bool iB)) else if i = 49 then some (sConst (.bool iB)) else if i = 54 then some (sConst (.bool tB)) else if i = 56 then some (sConst (.bool tB)) else if i = 61 then some (sConst (.int .i64 ko)) else if i = 63 then some (sConst (.int .i64 ko)) else if i = 69 then some (sConst (.bool r)) else if i = 72 then some (sConst (.bool r)) else if i = 77 then some (sConst (.string s1)) else if i = 79 then some (sConst (.string s1)) else none) ?_
  apply lex_quiet rfl rfl
  · intro w' hk; go_simp; with_reducible rfl
  simp only [Act.put, List.setIfInBounds_toArray, List.set_cons_zero, List.set_cons_succ]
  apply lex_quiet rfl rfl
  · intro w' hk; go_simp; with_reducible rfl
  simp only [Act.put, List.setIfInBounds_toArray, List.set_cons_zero, List.set_cons_succ]
  refine lex_loud rfl rfl (loud_call 16 #[.agg #[.int .i64 dk, .slice p3 zs.length c3], .agg #[.int .i64 dk, .slice p6 zs.length c6]] (fun w => by kernel_rfl) ⟨default, trivial⟩ (fun g _ => stable_true _) fun w' hk _ _ => (hCon1.out w' hk).mono ?_) fun _ _ => ?_
  · rintro e w'' ⟨rfl, hq⟩
    exact ⟨default, trivial, rfl, hq.mono fun _ e => e.elim, fun b h => h.elim, trivial⟩
  simp only [sConst, Act.put, List.setIfInBounds_toArray, List.set_cons_zero, List.set_cons_succ]
  apply lex_quiet rfl rfl
  · intro w' hk; go_simp; with_reducible rfl
  simp only [Act.put, List.setIfInBounds_toArray, List.set_cons_zero, List.set_cons_succ]
  apply lex_quiet rfl rfl
  · intro w' hk; go_simp; with_reducible rfl
  simp only [Act.put, List.setIfInBounds_toArray, List.set_cons_zero, List.set_cons_succ]
  apply lex_quiet rfl rfl
  · intro w' hk; go_simp; with_reducible rfl
  simp only [Act.put, List.setIfInBounds_toArray, List.set_cons_zero, List.set_cons_succ]
  apply lex_quiet rfl rfl
  · intro w' hk; go_simp; with_reducible rfl
  simp only [Act.put, List.setIfInBounds_toArray, List.set_cons_zero, List.set_cons_succ]
  apply lex_quiet rfl rfl
  · intro w' hk; go_simp; with_reducible rfl
  simp only [Act.put, List.setIfInBounds_toArray, List.set_cons_zero, List.set_cons_succ]
  apply lex_quiet rfl rfl
  · intro w' hk; go_simp; with_reducible rfl
  simp only [Act.put, List.setIfInBounds_toArray, List.set_cons_zero, List.set_cons_succ]
  apply lex_quiet rfl rfl
  · intro w' hk; go_simp; with_reducible rfl
  simp only [Act.put, List.setIfInBounds_toArray, List.set_cons_zero, List.set_cons_succ]
  apply lex_quiet rfl rfl
  · intro w' hk; go_simp; with_reducible rfl
  simp only [Act.put, List.setIfInBounds_toArray, List.set_cons_zero, List.set_cons_succ]
  apply lex_quiet rfl rfl
  · intro w' hk; go_simp; with_reducible rfl
  simp only [Act.put, List.setIfInBounds_toArray, List.set_cons_zero, List.set_cons_succ]
  apply lex_quiet rfl rfl
  · intro w' hk; go_simp; with_reducible rfl
  simp only [Act.put, List.setIfInBounds_toArray, List.set_cons_zero, List.set_cons_succ]
  apply lex_quiet rfl rfl
  · intro w' hk; go_simp; with_reducible rfl
  simp only [Act.put, List.setIfInBounds_toArray, List.set_cons_zero, List.set_cons_succ]
  apply lex_quiet rfl rfl
  · intro w' hk; go_simp; with_reducible rfl
  simp only [Act.put, List.setIfInBounds_toArray, List.set_cons_zero, List.set_cons_succ]
  apply lex_quiet rfl rfl
  · intro w' hk; go_simp; with_reducible rfl
  simp only [Act.put, List.setIfInBounds_toArray, List.set_cons_zero, List.set_cons_succ]
  apply lex_quiet rfl rfl
  · intro w' hk; go_simp; with_reducible rfl
  simp only [Act.put, List.setIfInBounds_toArray, List.set_cons_zero, List.set_cons_succ]
  apply lex_quiet rfl rfl
  · intro w' hk; go_simp; with_reducible rfl
  simp only [Act.put, List.setIfInBounds_toArray, List.set_cons_zero, List.set_cons_succ]
  apply lex_quiet rfl rfl
  · intro w' hk; go_simp; with_reducible rfl
  simp only [Act.put, List.setIfInBounds_toArray, List.set_cons_zero, List.set_cons_succ]
  apply lex_quiet rfl rfl
  · intro w' hk; go_simp; with_reducible rfl
  simp only [Act.put, List.setIfInBounds_toArray, List.set_cons_zero, List.set_cons_succ]
  apply lex_quiet rfl rfl
  · intro w' hk; go_simp; with_reducible rfl
  simp only [Act.put, List.setIfInBounds_toArray, List.set_cons_zero, List.set_cons_succ]
  refine lex_loud rfl rfl (loud_call 16 #[.agg #[.int .i64 mk, .slice p8 ms.length c8], .agg #[.int .i64 mk, .slice p9 ms.length c9]] (fun w => by kernel_rfl) ⟨default, trivial⟩ (fun g _ => stable_true _) fun w' hk _ _ => (hCon2.out w' hk).mono ?_) fun _ _ => ?_
  · rintro e w'' ⟨rfl, hq⟩
    exact ⟨default, trivial, rfl, hq.mono fun _ e => e.elim, fun b h => h.elim, trivial⟩
  simp only [sConst, Act.put, List.setIfInBounds_toArray, List.set_cons_zero, List.set_cons_succ]
  apply lex_quiet rfl rfl
  · intro w' hk; go_simp; with_reducible rfl
  simp only [Act.put, List.setIfInBounds_toArray, List.set_cons_zero, List.set_cons_succ]
  apply lex_quiet rfl rfl
  · intro w' hk; go_simp; with_reducible rfl
  simp only [Act.put, List.setIfInBounds_toArray, List.set_cons_zero, List.set_cons_succ]
  apply lex_quiet rfl rfl
  · intro w' hk; go_simp; with_reducible rfl
  simp only [Act.put, List.setIfInBounds_toArray, List.set_cons_zero, List.set_cons_succ]
  apply lex_quiet rfl rfl
  · intro w' hk; go_simp; with_reducible rfl
  simp only [Act.put, List.setIfInBounds_toArray, List.set_cons_zero, List.set_cons_succ]
  apply lex_quiet rfl rfl
  · intro w' hk; go_simp; with_reducible rfl
  simp only [Act.put, List.setIfInBounds_toArray, List.set_cons_zero, List.set_cons_succ]
  apply lex_quiet rfl rfl
  · intro w' hk; go_simp; with_reducible rfl
  simp only [Act.put, List.setIfInBounds_toArray, List.set_cons_zero, List.set_cons_succ]
  apply lex_quiet rfl rfl
  · intro w' hk; go_simp; with_reducible rfl
  simp only [Act.put, List.setIfInBounds_toArray, List.set_cons_zero, List.set_cons_succ]
  apply lex_quiet rfl rfl
  · intro w' hk; go_simp; with_reducible rfl
  simp only [Act.put, List.setIfInBounds_toArray, List.set_cons_zero, List.set_cons_succ]
  apply lex_quiet rfl rfl
  · intro w' hk; go_simp; with_reducible rfl
  simp only [Act.put, List.setIfInBounds_toArray, List.set_cons_zero, List.set_cons_succ]
  refine lex_loud rfl rfl (loud_call 16 #[.agg #[.int .i64 nk, .slice none 0 0], .agg #[.int .i64 nk, .slice none 0 0]] (fun w => by kernel_rfl) ⟨default, trivial⟩ (fun g _ => stable_true _) fun w' hk _ _ => (hCon3.out w' hk).mono ?_) fun _ _ => ?_
  · rintro e w'' ⟨rfl, hq⟩
    exact ⟨default, trivial, rfl, hq.mono fun _ e => e.elim, fun b h => h.elim, trivial⟩
  simp only [sConst, Act.put, List.setIfInBounds_toArray, List.set_cons_zero, List.set_cons_succ]
  apply lex_quiet rfl rfl
  · intro w' hk; go_simp; with_reducible rfl
  simp only [Act.put, List.setIfInBounds_toArray, List.set_cons_zero, List.set_cons_succ]
  apply lex_quiet rfl rfl
  · intro w' hk; go_simp; with_reducible rfl
  simp only [Act.put, List.setIfInBounds_toArray, List.set_cons_zero, List.set_cons_succ]
  apply lex_quiet rfl rfl
  · intro w' hk; go_simp; with_reducible rfl
  simp only [Act.put, List.setIfInBounds_toArray, List.set_cons_zero, List.set_cons_succ]
  apply lex_quiet rfl rfl
  · intro w' hk; go_simp; with_reducible rfl
  simp only [Act.put, List.setIfInBounds_toArray, List.set_cons_zero, List.set_cons_succ]
  apply lex_quiet rfl rfl
  · intro w' hk; go_simp; with_reducible rfl
  simp only [Act.put, List.setIfInBounds_toArray, List.set_cons_zero, List.set_cons_succ]
  apply lex_quiet rfl rfl
  · intro w' hk; go_simp; with_reducible rfl
  simp only [Act.put, List.setIfInBounds_toArray, List.set_cons_zero, List.set_cons_succ]
  apply lex_quiet rfl rfl
  · intro w' hk; go_simp; with_reducible rfl
  simp only [Act.put, List.setIfInBounds_toArray, List.set_cons_zero, List.set_cons_succ]
  apply lex_quiet rfl rfl
  · intro w' hk; go_simp; with_reducible rfl
  simp only [Act.put, List.setIfInBounds_toArray, List.set_cons_zero, List.set_cons_succ]
  refine lex_loud rfl rfl (loud_call 14 #[.agg #[.int .i64 k, .slice p xs.length cp]] (fun w => by kernel_rfl) ⟨default, trivial⟩ (fun g _ => stable_true _) fun w' hk _ _ => (hCk.out w' hk).mono ?_) fun _ _ => ?_
  · rintro e w'' ⟨rfl, hq⟩
    exact ⟨default, trivial, rfl, hq.mono fun _ e => e.elim, fun b h => h.elim, trivial⟩
  simp only [sConst, Act.put, List.setIfInBounds_toArray, List.set_cons_zero, List.set_cons_succ]
  apply lex_quiet rfl rfl
  · intro w' hk; go_simp; with_reducible rfl
  simp only [Act.put, List.setIfInBounds_toArray, List.set_cons_zero, List.set_cons_succ]
  refine lex_loud rfl rfl (loud_call 21 #[.agg #[.int .i64 k, .slice p xs.length cp]] (fun w => by kernel_rfl) ⟨default, trivial⟩ (fun g _ => stable_true _) fun w' hk _ _ => (hRCk.out w' hk).mono ?_) fun _ _ => ?_
  · rintro e w'' ⟨rfl, hq⟩
    exact ⟨default, trivial, rfl, hq.mono fun _ e => e.elim, fun b h => h.elim, trivial⟩
  simp only [sConst, Act.put, List.setIfInBounds_toArray, List.set_cons_zero, List.set_cons_succ]
  apply lex_quiet rfl rfl
  · intro w' hk; go_simp; with_reducible rfl
  simp only [Act.put, List.setIfInBounds_toArray, List.set_cons_zero, List.set_cons_succ]
  apply lex_quiet rfl rfl
  · intro w' hk; go_simp; with_reducible rfl
  simp only [Act.put, List.setIfInBounds_toArray, List.set_cons_zero, List.set_cons_succ]
  apply lex_quiet rfl rfl
  · intro w' hk; go_simp; with_reducible rfl
  simp only [Act.put, List.setIfInBounds_toArray, List.set_cons_zero, List.set_cons_succ]
  apply lex_quiet rfl rfl
  · intro w' hk; go_simp; with_reducible rfl
  simp only [Act.put, List.setIfInBounds_toArray, List.set_cons_zero, List.set_cons_succ]
  refine lex_loud rfl rfl (loud_call 10 #[.int .i64 op] (fun w => by kernel_rfl) ⟨default, trivial⟩ (fun g _ => stable_true _) fun w' hk _ _ => (hIn.out w').mono ?_) fun _ _ => ?_
  · rintro e w'' ⟨rfl, hq⟩
    exact ⟨default, trivial, rfl, by rw [hq]; exact KeepBut.refl _ _, fun b h => h.elim, trivial⟩
  simp only [sConst, Act.put, List.setIfInBounds_toArray, List.set_cons_zero, List.set_cons_succ]
  apply lex_quiet rfl rfl
  · intro w' hk; go_simp; with_reducible rfl
  simp only [Act.put, List.setIfInBounds_toArray, List.set_cons_zero, List.set_cons_succ]
  refine lex_loud rfl rfl (loud_call 22 #[.int .i64 op] (fun w => by kernel_rfl) ⟨default, trivial⟩ (fun g _ => stable_true _) fun w' hk _ _ => (hRIn.out w').mono ?_) fun _ _ => ?_
  · rintro e w'' ⟨rfl, hq⟩
    exact ⟨default, trivial, rfl, by rw [hq]; exact KeepBut.refl _ _, fun b h => h.elim, trivial⟩
  simp only [sConst, Act.put, List.setIfInBounds_toArray, List.set_cons_zero, List.set_cons_succ]
  apply lex_quiet rfl rfl
  · intro w' hk; go_simp; with_reducible rfl
  simp only [Act.put, List.setIfInBounds_toArray, List.set_cons_zero, List.set_cons_succ]
  apply lex_quiet rfl rfl
  · intro w' hk; go_simp; with_reducible rfl
  simp only [Act.put, List.setIfInBounds_toArray, List.set_cons_zero, List.set_cons_succ]
  apply lex_quiet rfl rfl
  · intro w' hk; go_simp; with_reducible rfl
  simp only [Act.put, List.setIfInBounds_toArray, List.set_cons_zero, List.set_cons_succ]
  apply lex_quiet rfl rfl
  · intro w' hk; go_simp; with_reducible rfl
  simp only [Act.put, List.setIfInBounds_toArray, List.set_cons_zero, List.set_cons_succ]
  refine lex_loud rfl rfl (loud_call 11 #[.int .i64 op] (fun w => by kernel_rfl) ⟨default, trivial⟩ (fun g _ => stable_true _) fun w' hk _ _ => (hTk.out w').mono ?_) fun _ _ => ?_
  · rintro e w'' ⟨rfl, hq⟩
    exact ⟨default, trivial, rfl, by rw [hq]; exact KeepBut.refl _ _, fun b h => h.elim, trivial⟩
  simp only [sConst, Act.put, List.setIfInBounds_toArray, List.set_cons_zero, List.set_cons_succ]
  apply lex_quiet rfl rfl
  · intro w' hk; go_simp; with_reducible rfl
  simp only [Act.put, List.setIfInBounds_toArray, List.set_cons_zero, List.set_cons_succ]
  refine lex_loud rfl rfl (loud_call 23 #[.int .i64 op] (fun w => by kernel_rfl) ⟨default, trivial⟩ (fun g _ => stable_true _) fun w' hk _ _ => (hRTk.out w').mono ?_) fun _ _ => ?_
  · rintro e w'' ⟨rfl, hq⟩
    exact ⟨default, trivial, rfl, by rw [hq]; exact KeepBut.refl _ _, fun b h => h.elim, trivial⟩
  simp only [sConst, Act.put, List.setIfInBounds_toArray, List.set_cons_zero, List.set_cons_succ]
  apply lex_quiet rfl rfl
  · intro w' hk; go_simp; with_reducible rfl
  simp only [Act.put, List.setIfInBounds_toArray, List.set_cons_zero, List.set_cons_succ]
  apply lex_quiet rfl rfl
  · intro w' hk; go_simp; with_reducible rfl
  simp only [Act.put, List.setIfInBounds_toArray, List.set_cons_zero, List.set_cons_succ]
  apply lex_quiet rfl rfl
  · intro w' hk; go_simp; with_reducible rfl
  simp only [Act.put, List.setIfInBounds_toArray, List.set_cons_zero, List.set_cons_succ]
  apply lex_quiet rfl rfl
  · intro w' hk; go_simp; with_reducible rfl
  simp only [Act.put, List.setIfInBounds_toArray, List.set_cons_zero, List.set_cons_succ]
  refine lex_loud rfl rfl (loud_call 12 #[.int .i64 op] (fun w => by kernel_rfl) ⟨default, trivial⟩ (fun g _ => stable_true _) fun w' hk _ _ => (hKd.out w').mono ?_) fun _ _ => ?_
  · rintro e w'' ⟨rfl, hq⟩
    exact ⟨default, trivial, rfl, by rw [hq]; exact KeepBut.refl _ _, fun b h => h.elim, trivial⟩
  simp only [sConst, Act.put, List.setIfInBounds_toArray, List.set_cons_zero, List.set_cons_succ]
  apply lex_quiet rfl rfl
  · intro w' hk; go_simp; with_reducible rfl
  simp only [Act.put, List.setIfInBounds_toArray, List.set_cons_zero, List.set_cons_succ]
  refine lex_loud rfl rfl (loud_call 24 #[.int .i64 op] (fun w => by kernel_rfl) ⟨default, trivial⟩ (fun g _ => stable_true _) fun w' hk _ _ => (hRKd.out w').mono ?_) fun _ _ => ?_
  · rintro e w'' ⟨rfl, hq⟩
    exact ⟨default, trivial, rfl, by rw [hq]; exact KeepBut.refl _ _, fun b h => h.elim, trivial⟩
  simp only [sConst, Act.put, List.setIfInBounds_toArray, List.set_cons_zero, List.set_cons_succ]
  apply lex_quiet rfl rfl
  · intro w' hk; go_simp; with_reducible rfl
  simp only [Act.put, List.setIfInBounds_toArray, List.set_cons_zero, List.set_cons_succ]
  apply lex_quiet rfl rfl
  · intro w' hk; go_simp; with_reducible rfl
  simp only [Act.put, List.setIfInBounds_toArray, List.set_cons_zero, List.set_cons_succ]
  apply lex_quiet rfl rfl
  · intro w' hk; go_simp; with_reducible rfl
  simp only [Act.put, List.setIfInBounds_toArray, List.set_cons_zero, List.set_cons_succ]
  apply lex_quiet rfl rfl
  · intro w' hk; go_simp; with_reducible rfl
  simp only [Act.put, List.setIfInBounds_toArray, List.set_cons_zero, List.set_cons_succ]
  apply lex_quiet rfl rfl
  · intro w' hk; go_simp; with_reducible rfl
  simp only [Act.put, List.setIfInBounds_toArray, List.set_cons_zero, List.set_cons_succ]
  refine lex_loud rfl rfl (loud_call 17 #[.agg #[.int .i64 k, .slice p xs.length cp], .agg #[.int .i64 l, .slice q ys.length cq]] (fun w => by kernel_rfl) ⟨default, trivial⟩ (fun g _ => stable_true _) fun w' hk _ _ => (hSm.out w' hk).mono ?_) fun _ _ => ?_
  · rintro e w'' ⟨rfl, hq⟩
    exact ⟨default, trivial, rfl, hq.mono fun _ e => e.elim, fun b h => h.elim, trivial⟩
  simp only [sConst, Act.put, List.setIfInBounds_toArray, List.set_cons_zero, List.set_cons_succ]
  apply lex_quiet rfl rfl
  · intro w' hk; go_simp; with_reducible rfl
  simp only [Act.put, List.setIfInBounds_toArray, List.set_cons_zero, List.set_cons_succ]
  apply lex_quiet rfl rfl
  · intro w' hk; go_simp; with_reducible rfl
  simp only [Act.put, List.setIfInBounds_toArray, List.set_cons_zero, List.set_cons_succ]
  refine lex_loud rfl rfl (loud_call 25 #[.agg #[.int .i64 k, .slice p xs.length cp], .agg #[.int .i64 l, .slice q ys.length cq]] (fun w => by kernel_rfl) ⟨default, trivial⟩ (fun g _ => stable_true _) fun w' hk _ _ => (hRSm.out w' hk).mono ?_) fun _ _ => ?_
  · rintro e w'' ⟨rfl, hq⟩
    exact ⟨default, trivial, rfl, hq.mono fun _ e => e.elim, fun b h => h.elim, trivial⟩
  simp only [sConst, Act.put, List.setIfInBounds_toArray, List.set_cons_zero, List.set_cons_succ]
  apply lex_quiet rfl rfl
  · intro w' hk; go_simp; with_reducible rfl
  simp only [Act.put, List.setIfInBounds_toArray, List.set_cons_zero, List.set_cons_succ]
  apply lex_quiet rfl rfl
  · intro w' hk; go_simp; with_reducible rfl
  simp only [Act.put, List.setIfInBounds_toArray, List.set_cons_zero, List.set_cons_succ]
  apply lex_quiet rfl rfl
  · intro w' hk; go_simp; with_reducible rfl
  simp only [Act.put, List.setIfInBounds_toArray, List.set_cons_zero, List.set_cons_succ]
  apply lex_quiet rfl rfl
  · intro w' hk; go_simp; with_reducible rfl
  simp only [Act.put, List.setIfInBounds_toArray, List.set_cons_zero, List.set_cons_succ]
  refine lex_loud rfl rfl (loud_call 13 #[.agg #[.int .i64 k, .slice p xs.length cp]] (fun w => by kernel_rfl) ⟨default, trivial⟩ (fun g _ => stable_true _) fun w' hk _ _ => (hKy.out w' hk).mono ?_) fun _ _ => ?_
  · rintro e w'' ⟨rfl, hq⟩
    exact ⟨default, trivial, rfl, hq.mono fun _ e => e.elim, fun b h => h.elim, trivial⟩
  simp only [sConst, Act.put, List.setIfInBounds_toArray, List.set_cons_zero, List.set_cons_succ]
  apply lex_quiet rfl rfl
  · intro w' hk; go_simp; with_reducible rfl
  simp only [Act.put, List.setIfInBounds_toArray, List.set_cons_zero, List.set_cons_succ]
  refine lex_loud rfl rfl (loud_call 26 #[.agg #[.int .i64 k, .slice p xs.length cp]] (fun w => by kernel_rfl) ⟨default, trivial⟩ (fun g _ => stable_true _) fun w' hk _ _ => (hRKy.out w' hk).mono ?_) fun _ _ => ?_
  · rintro e w'' ⟨rfl, hq⟩
    exact ⟨default, trivial, rfl, hq.mono fun _ e => e.elim, fun b h => h.elim, trivial⟩
  simp only [sConst, Act.put, List.setIfInBounds_toArray, List.set_cons_zero, List.set_cons_succ]
  apply lex_quiet rfl rfl
  · intro w' hk; go_simp; with_reducible rfl
  simp only [Act.put, List.setIfInBounds_toArray, List.set_cons_zero, List.set_cons_succ]
  apply lex_quiet rfl rfl
  · intro w' hk; go_simp; with_reducible rfl
  simp only [Act.put, List.setIfInBounds_toArray, List.set_cons_zero, List.set_cons_succ]
  apply lex_quiet rfl rfl
  · intro w' hk; go_simp; with_reducible rfl
  simp only [Act.put, List.setIfInBounds_toArray, List.set_cons_zero, List.set_cons_succ]
  refine lex_nil ?_
  intro w9 hk _ _
  have HK9 := Lib.hid (HK.out.trans (HK10.out.trans ((KeepBut.drew _ V10).trans hk)))
  clear hk
  go_wp2_with fail
  go_ret
  exact ⟨rfl, HK9.out⟩

end Go.Proofs.YtopodipjapiaoaaDoor
