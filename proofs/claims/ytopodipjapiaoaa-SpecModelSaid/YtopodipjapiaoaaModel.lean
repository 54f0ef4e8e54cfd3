/-
  SpecModel, walked.
-/
import Derived.Test.YtopodipjapiaoaaHeld
import Derived.Test.YtopodipjapiaoaaApp
import Derived.Test.YtopodipjapiaoaaPick
import Derived.Deep.CutRange
import Derived.Deep.CutBlock
import Derived.BigQuiet
import Derived.Deep.QuietTactic
namespace Go.Proofs.Ytopodipjapiaoaa
open Go Go.RowKit Own

def LRel (N5 N8 n : Nat) (k : Int) (w : World) (v7 v9 : Value) (wr : World) : Prop :=
  ∃ (i : Nat) (p7 : Option Addr) (c7 : Nat) (ls : List Int) (px : Option Addr) (cx : Nat) (xs : List Int) (m : List (Int × Value)), i ≤ n ∧ v9 = .int .i64 i ∧ v7 = .slice p7 ls.length c7 ∧ Held N5 N8 k w wr p7 c7 ls px cx xs m ∧ Model k ls xs m

def OpsAt (wx : World) (b len : Nat) (k : Int) : Prop := 0 < len ∧ len ≤ 3 ∧ ∀ j : Nat, j < len → ∃ op : Int, wx.cell? ⟨b, j, none⟩ = some (.int .i64 op) ∧ kindOf op = k

theorem heap_at0 (w : World) (x0 x1 x2 x3 : Obj) : ((((w.alloc x0).alloc x1).alloc x2).alloc x3).heap[w.heap.size]? = some x0 :=
  ((KeepBut.alloc (fun _ => False) _ x3).blk ((KeepBut.alloc (fun _ => False) _ x2).blk ((KeepBut.alloc (fun _ => False) _ x1).blk (heap_alloc_new w x0))))
theorem heap_at1 (w : World) (x0 x1 x2 x3 : Obj) : ((((w.alloc x0).alloc x1).alloc x2).alloc x3).heap[w.heap.size + 1]? = some x1 :=
  ((KeepBut.alloc (fun _ => False) _ x3).blk ((KeepBut.alloc (fun _ => False) _ x2).blk (by rw [show w.heap.size + 1 = (w.alloc x0).heap.size by simp]; exact heap_alloc_new _ x1)))
theorem heap_at2 (w : World) (x0 x1 x2 x3 : Obj) : ((((w.alloc x0).alloc x1).alloc x2).alloc x3).heap[w.heap.size + 1 + 1]? = some x2 :=
  ((KeepBut.alloc (fun _ => False) _ x3).blk (by rw [show w.heap.size + 1 + 1 = ((w.alloc x0).alloc x1).heap.size by simp]; exact heap_alloc_new _ x2))
theorem Own.KeepBut.alloc4 (E : Nat → Prop) (w : World) (x0 x1 x2 x3 : Obj) : KeepBut E w ((((w.alloc x0).alloc x1).alloc x2).alloc x3) := ((((KeepBut.alloc E _ _).trans (KeepBut.alloc E _ _)).trans (KeepBut.alloc E _ _)).trans (KeepBut.alloc E _ _))
theorem ops_at2 (w : World) (b : Nat) (T : TypeId) (k a1 a2 : Int) (h : w.heap[b]? = some (.cells #[.int .i64 a1, .int .i64 a2] T (0, 0))) (h1 : kindOf a1 = k) (h2 : kindOf a2 = k) : OpsAt w b 2 k :=
  ⟨by decide, by decide, fun j hj => by
    match j, hj with
    | 0, _ => exact ⟨a1, blk_cell h rfl, h1⟩
    | 1, _ => exact ⟨a2, blk_cell h rfl, h2⟩⟩
theorem ops_at3 (w : World) (b : Nat) (T : TypeId) (k a1 a2 a3 : Int) (h : w.heap[b]? = some (.cells #[.int .i64 a1, .int .i64 a2, .int .i64 a3] T (0, 0))) (h1 : kindOf a1 = k) (h2 : kindOf a2 = k) (h3 : kindOf a3 = k) : OpsAt w b 3 k :=
  ⟨by decide, by decide, fun j hj => by
    match j, hj with
    | 0, _ => exact ⟨a1, blk_cell h rfl, h1⟩
    | 1, _ => exact ⟨a2, blk_cell h rfl, h2⟩
    | 2, _ => exact ⟨a3, blk_cell h rfl, h3⟩⟩

/-- the model, a call of an operation of its kind, the call's argument -/
def ArgOk (k arg : Int) : Prop := k = 3 → -8 < arg ∧ arg < 8

/-- behind the switch: what the list, the map, the value and the code are -/
def SwRel (N5 N8 : Nat) (k : Int) (w : World) (op arg : Int) (v7 v13 v14 : Value) (wr : World) : Prop :=
  ∃ (p7 : Option Addr) (c7 : Nat) (ls : List Int) (px : Option Addr) (cx : Nat) (xs : List Int) (m : List (Int × Value)) (v c : Int), v7 = .slice p7 ls.length c7 ∧ v13 = .int .i64 v ∧ v14 = .int .i64 c ∧
    Held N5 N8 k w wr p7 c7 ls px cx xs m ∧ chk k xs = 0 ∧ Stepped k op arg xs ls m v c

theorem held_start (w w3 : World) (k : Int) (hk : KeepBut (fun _ => False) w w3) :
    Held w3.heap.size (w3.heap.size + 1) k w ((w3.alloc (.cells #[.int .i64 k, .slice none 0 0] 27)).alloc (.map #[] 0)) none 0 [] none 0 [] [] := by
  have hs := hk.size
  refine ⟨(hk.trans (KeepBut.alloc _ _ _)).trans (KeepBut.alloc _ _ _), OwnI.empty, ?_, (KeepBut.alloc (fun _ => False) _ _).blk (heap_alloc_new w3 _), Lies.empty, hs, by omega, by omega, Of.none_iff, Of.none_iff, Of.none_iff, Of.none_iff, fun b e => absurd e Of.none_iff⟩
  have h := MapI.made .i64 (w3.alloc (.cells #[.int .i64 k, .slice none 0 0] 27))
  rwa [show (w3.alloc (.cells #[.int .i64 k, .slice none 0 0] 27)).heap.size = w3.heap.size + 1 by simp] at h

set_option maxRecDepth 100000 in
set_option maxHeartbeats 16000000 in
theorem model_walk (w : World) (kind0 : Int) (p : Option Addr) (n c : Nat) (hn : n ≤ 100) (O A : Nat → Int)
    (hcells : ∀ j, j < n → ∃ b o, p = some ⟨b, o, none⟩ ∧ w.cell? ⟨b, o + j * 2, none⟩ = some (.int .i64 (O j)) ∧ w.cell? ⟨b, o + j * 2 + 1, none⟩ = some (.int .i64 (A j))) :
    Calls Try.prog 3 #[.int .i64 kind0, .slice p n c] w fun e w' => e = .returned (.bool true) ∧ KeepBut (fun _ => False) w w' := by
  have hle : (n : Int) ≤ 100 := by omega
  have hle2 : n ≤ 9223372036854775807 := by omega
  have hpk := pick_range (k := kind0) (n := 3) (by decide)
  have hW : IntKind.i64.wrap (1 + pick kind0 3) = 1 + pick kind0 3 := IntWalk.i64_in _ (by omega)
  have hkb : kindB (1 + pick kind0 3) = true := by unfold kindB; exact decide_eq_true (by omega)
  have hk123 : 1 + pick kind0 3 = 1 ∨ 1 + pick kind0 3 = 2 ∨ 1 + pick kind0 3 = 3 := by omega
  have hnew : Hid (∀ W, Calls Try.prog 7 #[.int .i64 (1 + pick kind0 3)] W fun e w' => e = .returned (.tuple #[.agg #[.int .i64 (1 + pick kind0 3), .slice none 0 0], .int .i64 0]) ∧ KeepBut (fun _ => False) W w') := fun W => by
    have := new_any (1 + pick kind0 3) W
    rwa [if_pos hkb, if_pos hkb] at this
  have HK := Lib.hid hk123
  have HC := Lib.hid hcells
  have hmk : ∀ W, (Instr.makeMap 31 none).run Try.prog W = .ok (.map (some W.heap.size)) (W.alloc (.map #[] 0)) := fun W => run_makeMap _ W
  clear hkb hpk hk123 hcells
  go_enter Try.func3, Try.ntmps3
  go_wp2_with (first
    | (go_at_call 5; refine (lives_any _).mono ?_; rintro e w1 ⟨rfl, hk1⟩)
    | (go_at_call 6; refine (pick_any _ _ 3 (by decide) (by decide)).mono ?_; rintro e w2 ⟨rfl, rfl⟩)
    | (go_at_call 7; refine (hnew.out _).mono ?_; rintro e w3 ⟨rfl, hk3⟩))
  have HK3 := Lib.hid (hk1.trans hk3)
  generalize 1 + pick kind0 3 = k at HK HK3 ⊢
  go_loopw [7, 9] (fun v7 v9 wr => LRel w3.heap.size (w3.heap.size + 1) n k w v7 v9 wr) (fun _ i _ => n - (intOf i).toNat)
  case atStart => exact ⟨0, none, 0, [], none, 0, [], [], Nat.zero_le _, rfl, rfl, held_start w w3 k HK3.out, Model.nil k HK.out⟩
  case round => as_aux_lemma =>
    obtain ⟨i, p7, c7, ls, px, cx, xs, m, hi, rfl, rfl, hH, hM⟩ := hrel
    have HH := Lib.hid hH; have HM := Lib.hid hM
    clear hH hM
    by_cases hlt : i < n
    · have hltI : (i : Int) < n := by omega
      have hi0 : (0 : Int) ≤ i := by omega
      have hWi : IntKind.i64.wrap ((i : Int) + 1) = i + 1 := IntWalk.i64_in _ (by omega)
      go_upto_region 14 with fail
      go_cut [10] from 42 to 237 (fun v10 wx => ∃ b len : Nat, v10 = .slice (some ⟨b, 0, none⟩) len len ∧ OpsAt wx b len k ∧ KeepBut (fun _ => False) wr wx)
      case first => as_aux_lemma =>
        rcases HK.out with h | h | h
        · subst h
          go_wp2_with fail
          go_meet
          case rel =>
            exact ⟨_, 2, rfl, ops_at2 _ _ _ 1 1 2 (heap_at0 _ _ _ _ _) rfl rfl, KeepBut.alloc4 _ _ _ _ _ _⟩
        · subst h
          go_wp2_with fail
          go_meet
          case rel =>
            exact ⟨_, 2, rfl, ops_at2 _ _ _ 2 3 4 (heap_at1 _ _ _ _ _) rfl rfl, KeepBut.alloc4 _ _ _ _ _ _⟩
        · subst h
          go_wp2_with fail
          go_meet
          case rel =>
            exact ⟨_, 3, rfl, ops_at3 _ _ _ 3 5 6 7 (heap_at2 _ _ _ _ _) rfl rfl rfl, KeepBut.alloc4 _ _ _ _ _ _⟩
      case rest => as_aux_lemma =>
        obtain ⟨b10, len, rfl, hops, hkc⟩ := hcut
        obtain ⟨hlen0, hlen3, hops⟩ := hops
        obtain ⟨b, o, rfl, cO, cA⟩ := HC.out i hlt
        have hpk := pick_range (k := O i) (n := (len : Int)) (by omega)
        obtain ⟨j, hj⟩ : ∃ j : Nat, pick (O i) len = j := ⟨(pick (O i) len).toNat, by omega⟩
        obtain ⟨op, cop, hop⟩ := hops j (by omega)
        have hH := Lib.hid (HH.out.stay hkc)
        have cO' : wc.cell? ⟨b, o + i * 2, none⟩ = some (.int .i64 (O i)) := hH.out.keep.stay cO
        have cA' : wc.cell? ⟨b, o + i * 2 + 1, none⟩ = some (.int .i64 (A i)) := hH.out.keep.stay cA
        have hPick : Hid (∀ W, Calls Try.prog 6 #[.int .i64 (O i), .int .i64 len] W fun e w' => e = .returned (.int .i64 (j : Int)) ∧ w' = W) := fun W => by
          have := pick_any W (O i) len (by omega) (by omega)
          rw [hj] at this; exact this
        have hjl : (j : Int) < len := by omega
        have hj0 : (0 : Int) ≤ j := by omega
        have HOP := Lib.hid hop
        have hlenI : (len : Int) ≤ 3 := by omega
        clear hops hkc HH hpk hj cO cA hop hlen0
        have hWr : IntKind.i64.wrap ((A i).tmod 8) = (A i).tmod 8 := IntWalk.i64_in _ (by have := Int.tmod_lt_of_pos (A i) (b := 8) (by decide); have := Int.lt_tmod_of_pos (A i) (b := 8) (by decide); omega)
        go_upto_if 74 with (go_at_call 6; refine (hPick.out _).mono ?_; rintro e w' ⟨rfl, hww⟩; have hww := hww.symm; subst hww)
        go_cut [12] from 42 to 237 (fun v12 wx => ∃ arg : Int, v12 = .int .i64 arg ∧ ArgOk k arg ∧ wx = wc)
        case first => as_aux_lemma =>
          by_cases hk3 : k < 3
          · go_wp2_with fail
            go_meet
            case rel => exact ⟨_, rfl, fun e => by omega, rfl⟩
          · have h8 : -8 < (A i).tmod 8 ∧ (A i).tmod 8 < 8 := by have := Int.tmod_lt_of_pos (A i) (b := 8) (by decide); have := Int.lt_tmod_of_pos (A i) (b := 8) (by decide); omega
            have H8 := Lib.hid h8
            clear h8
            go_wp2_with fail
            go_meet
            case rel => exact ⟨_, rfl, fun _ => H8.out, rfl⟩
        case rest => as_aux_lemma =>
          obtain ⟨arg, rfl, harg, hww⟩ := hcut
          have hww := hww.symm
          subst hww
          have HArg := Lib.hid harg
          clear harg hPick cO' cA' cop hWr hj0 hjl hlenI
          go_upto_block 2 with fail
          go_cut [7, 13, 14] from 42 to 237 (fun v7 v13 v14 wx => SwRel w3.heap.size (w3.heap.size + 1) k w op arg v7 v13 v14 wx)
          case first => as_aux_lemma =>
            obtain ⟨hkr, _⟩ := chk_zero HM.out.chk
            have hblk := hH.out.blk
            have q0 := blk_cell (k := 0) hblk rfl
            have q1 := blk_cell (k := 1) hblk rfl
            have hop := HOP.out
            clear hblk
            rcases kindOf_range hop hkr with h | h | h | h | h | h | h
            · as_aux_lemma =>
              subst h
              have hk1 : k = 1 := hop.symm
              subst hk1
              clear hop hkr
              by_cases h64 : ls.length = 64
              · have hd : Hid (∀ W, KeepBut (fun _ => False) wc W → Calls Try.prog 8 #[.agg #[.int .i64 1, .slice px xs.length cx], .int .i64 1, .int .i64 arg] W fun e w' => Done4 W e w' 0 [] 0 0 7) := fun W hW => by
                  have hx := hH.out.lies.stay hW
                  have := do_any W 1 px cx xs hx.1 (by have := (chk_zero HM.out.chk).2.1; omega) (fun a ha => (hx.2 a ha).2.2) 1 arg
                  rw [step_full HM.out (by decide) (.inl rfl) h64 (by decide)] at this
                  exact this
                go_wp2_with (go_at_call 8; refine (hd.out _ (KeepBut.refl _ _)).mono ?_; rintro e w4 ⟨p4, cap4, rfl, hL4, hk4⟩)
                refine ⟨⟨i + 1, p7, c7, ls, px, cx, xs, m, by omega, by simp, by rw [h64], (hH.out.stay hk4).stay (KeepBut.alloc _ _ _), HM.out⟩, ?_⟩
                simp only [intOf]
                omega
              · have hb64 : ((ls.length : Int) == 64) = false := beq_eq_false_iff_ne.2 (by omega)
                have hs := Lib.hid (step_push (arg := arg) HM.out (by decide : kindOf 1 = 1) (.inl rfl) h64 (by decide))
                have hl7 : ls.length ≤ 1099511627776 := by have h1 := (HM.out.line (by decide)).2.1; have h2 := (HM.out.line (by decide)).2.2; rw [h1]; omega
                have hH' := Lib.hid (hH.out.stay (KeepBut.alloc _ _ (.cells #[.int .i64 arg] 2)))
                go_wp2_with (at_builtin; refine wpList_append1 rfl (.tmp 101) (.tmp 103) 25 rfl 2 p7 c7 _ ls rfl wc.heap.size arg rfl rfl Try.underlying25 info_int64 (hH'.out.row.base fun _ _ => Nat.zero_le _) (heap_alloc_new wc (.cells #[.int .i64 arg] 2)) hl7 ?_; intro p8 c8 w8 g2 g3 g4; have hN := Lib.hid (hH'.out.newRow g3 g2 g4); clear g2 g3 g4)
                go_meet
                case rel => exact ⟨p8, c8, ls ++ [arg], px, cx, xs, m, 0, 1, by simp, rfl, rfl, hN.out, HM.out.chk, hs.out⟩
            · as_aux_lemma =>
              subst h
              have hk1 : k = 1 := hop.symm
              subst hk1
              clear hop hkr
              by_cases h0 : ls = []
              · have hs := Lib.hid (step_none (arg := arg) HM.out (by decide : kindOf 2 = 1) (.inl rfl) h0 (by decide))
                have hl0 : ls.length = 0 := by rw [h0]; rfl
                have HL0 := Lib.hid hl0
                have HL7 := Lib.hid (rfl : Value.slice p7 ls.length c7 = Value.slice p7 ls.length c7)
                clear h0
                go_wp2_with fail
                go_meet
                case rel => exact ⟨p7, c7, ls, px, cx, xs, m, 0, 0, by first | rfl | rw [HL0.out], rfl, rfl, hH.out, HM.out.chk, hs.out⟩
              · have hs := Lib.hid (step_pop (arg := arg) HM.out (by decide) h0 (by decide))
                have hpos := nil_of_length h0
                have hle6 := (HM.out.line (by decide)).2.2
                have heq6 := (HM.out.line (by decide)).2.1
                rw [← heq6] at hle6
                clear h0 heq6
                rcases hH.out.row.parts with ⟨_, _, h3⟩ | ⟨g, cur, h1, _, h3, h4, h5, _, _⟩
                · rw [h3] at hpos; exact absurd hpos (by decide)
                subst h1
                obtain ⟨at_, hat⟩ : ∃ at_ : Nat, at_ = ls.length - 1 := ⟨_, rfl⟩
                have hlt : at_ < ls.length := by omega
                rw [← hat] at hs
                obtain ⟨l1, hl1⟩ : ∃ l1, l1 = ls.take at_ := ⟨_, rfl⟩
                obtain ⟨l2, hl2⟩ : ∃ l2, l2 = ls.drop (at_ + 1) := ⟨_, rfl⟩
                have hcut := Lib.hid (show cutAt ls at_ = l1 ++ l2 by rw [hl1, hl2]; exact cutAt_eq _ _)
                have hn1 : at_ = l1.length := by rw [hl1, List.length_take]; omega
                have hn2 : ls.length - (at_ + 1) = l2.length := by rw [hl2, List.length_drop]
                have hc0 : wc.cell? ⟨g, at_, none⟩ = some (.int .i64 (nth ls at_)) := by have h := hH.out.row.rd.int at_ hlt; rw [Nat.zero_add] at h; exact h
                have hc1 : Hid (∀ w', KeepBut (fun _ => False) wc.drew w' → ∀ j, j < l1.length → w'.cell? ((⟨g, 0, none⟩ : Addr).add j) = some (.int .i64 (nth l1 j))) := fun w' hk j hj => by
                  have h := ((KeepBut.drew _ wc).trans hk).stay (hH.out.row.rd.int j (by omega))
                  have e : nth l1 j = nth ls j := by rw [hl1]; simp [nth, List.getElem?_take, show j < at_ by omega]
                  rw [e, add_off]
                  exact h
                obtain ⟨ad, hsl2, had⟩ := run_cut_from (P := Try.prog) (t := 25) Try.underlying25 (by kernel_rfl : (Try.prog.info? 2).map (·.size) = some 1) g ls.length c7 (at_ + 1) (by omega)
                have hc2 : Hid (∀ w', KeepBut (fun _ => False) wc.drew w' → ∀ j, j < l2.length → w'.cell? (ad.add j) = some (.int .i64 (nth l2 j))) := fun w' hk j hj => by
                  have h := ((KeepBut.drew _ wc).trans hk).stay (hH.out.row.rd.int (at_ + 1 + j) (by omega))
                  have e : nth l2 j = nth ls (at_ + 1 + j) := by rw [hl2]; simp [nth, List.getElem?_drop]
                  rw [e, had (by omega), add_off]
                  rw [Nat.zero_add] at h
                  exact h
                have hsl1 := run_cut_to (P := Try.prog) (t := 25) Try.underlying25 (by kernel_rfl : (Try.prog.info? 2).map (·.size) = some 1) g ls.length c7 at_ (by omega)
                have HS1 := Lib.hid hsl1; have HS2 := Lib.hid hsl2; have HN1 := Lib.hid hn1; have HN2 := Lib.hid hn2
                have hltI : (at_ : Int) < (ls.length : Int) := by omega
                have hat1 : (0 : Int) ≤ (at_ : Int) := by omega
                have hWa : IntKind.i64.wrap ((at_ : Int) + 1) = ((at_ + 1 : Nat) : Int) := by rw [IntWalk.i64_in _ (by omega)]; omega
                have hb0 : ((ls.length : Int) == 0) = false := beq_eq_false_iff_ne.2 (by omega)
                have hlI : Hid (l1.length + l2.length ≤ 1099511627776) := by show l1.length + l2.length ≤ 1099511627776; omega
                have hW1 : IntKind.i64.wrap ((ls.length : Int) - 1) = (at_ : Int) := by rw [IntWalk.i64_in _ (by omega)]; omega
                clear hl1 hl2 hat hsl1 hsl2 had hn1 hn2 h3 h4 h5 hpos
                go_upto_region 33 with fail
                refine wp_own0 (by kernel_rfl) (fun i => [[], [], [], [1, 2], [0, 1, 2, 3], [], [], [6], [5, 6, 7], [0, 1, 2, 3, 4, 5, 6, 7, 8], [0, 1, 2, 3, 4, 5, 6, 7, 8, 9]].getD i [])
                  (fun i => if i = 4 then [0] else if i = 9 then [4] else []) (fun i => if i = 4 then [0] else if i = 9 then [4] else []) [9] (by kernel_rfl)
                  (fun i => if i = 0 then some { val := fun _ g => .slice (some ⟨g.b, 0, none⟩) 0 0, fp := fun _ g k => k = g.b, post := fun _ g w => w.heap[g.b]? = some (.cells #[] 2 (0, 0)) }
                    else if i = 4 then some (sAppN 2 [] l1) else if i = 9 then some (sAppN 2 l1 l2) else none) ?_
                refine lex_loud rfl rfl (loud_new (fun b => .slice (some ⟨b, 0, none⟩) 0 0) (.cells #[] 2) rfl (fun _ _ => rfl) (fun _ _ _ => Iff.rfl) (fun _ _ _ => Iff.rfl) (fun w => by go_simp)) fun g0 _ => ?_
                simp only [sAppN, Act.put, List.setIfInBounds_toArray, List.set_cons_zero, List.set_cons_succ]
                repeat
                  apply lex_quiet rfl rfl
                  · intro w' hk; go_simp; with_reducible rfl
                  simp only [Act.put, List.setIfInBounds_toArray, List.set_cons_zero, List.set_cons_succ]
                refine lex_quiet rfl rfl (v := .slice (some ⟨g, 0, none⟩) at_ c7) (fun w' hk => slice_exec rfl w' _ (HS1.out w')) ?_
                simp only [sAppN, Act.put, List.setIfInBounds_toArray, List.set_cons_zero, List.set_cons_succ]
                refine lex_loud rfl rfl (loud_appendN 2 25 (some ⟨g0.b, 0, none⟩) 0 0 c7 at_ [] l1 ⟨g, 0, none⟩ (.tmp 120) (.tmp 123) rfl rfl rfl rfl HN1.out Try.underlying25 info_int64 (by have := hlI.out; simp; omega) hc1.out 0 (by decide) (by decide) (fun w h => OwnI.mk (xs := []) (Nat.zero_le _) h (by decide) (by decide) rfl) (fun b hb => (Of.some_iff.1 hb)) (fun b hb => Of.some_iff.2 hb)) fun g1 _ => ?_
                simp only [sAppN, Act.put, List.setIfInBounds_toArray, List.set_cons_zero, List.set_cons_succ]
                repeat
                  apply lex_quiet rfl rfl
                  · intro w' hk; go_simp; with_reducible rfl
                  simp only [Act.put, List.setIfInBounds_toArray, List.set_cons_zero, List.set_cons_succ]
                refine lex_quiet rfl rfl (v := .slice (some ad) (ls.length - (at_ + 1)) (c7 - (at_ + 1))) (fun w' hk => slice_exec rfl w' _ (HS2.out w')) ?_
                simp only [sAppN, Act.put, List.setIfInBounds_toArray, List.set_cons_zero, List.set_cons_succ]
                refine lex_loud rfl rfl (loud_appendN 2 25 g1.p g1.c ([].length + l1.length) (c7 - (at_ + 1)) (ls.length - (at_ + 1)) l1 l2 ad (.tmp 124) (.tmp 128) rfl rfl (by simp) rfl HN2.out Try.underlying25 info_int64 hlI.out hc2.out 4 (by decide) (by decide) (fun w h => h) (fun b hb => hb) (fun b hb => hb)) fun g2 _ => ?_
                simp only [sAppN, Act.put, List.setIfInBounds_toArray, List.set_cons_zero, List.set_cons_succ]
                repeat
                  apply lex_quiet rfl rfl
                  · intro w' hk; go_simp; with_reducible rfl
                  simp only [Act.put, List.setIfInBounds_toArray, List.set_cons_zero, List.set_cons_succ]
                refine lex_nil ?_
                intro w9 hk9 hF _
                have f9 : OwnI 2 0 w9 g2.p g2.c (l1 ++ l2) := (hF 9 (by decide)).1
                have b9 : ∀ b, Of g2.p b → b < w9.heap.size ∧ (wc.heap.size ≤ b ∨ False) := (hF 9 (by decide)).2
                have hk9' : KeepBut (Of (some ⟨g, 0, none⟩)) wc w9 := ((KeepBut.drew _ wc).trans hk9).mono fun _ e => e.elim
                have hN := Lib.hid (hH.out.newRow hk9' f9 fun b hb => .inr ((b9 b hb).2.resolve_right fun e => e))
                have hlen : l1.length + l2.length = (cutAt ls at_).length := by rw [hcut.out, List.length_append]
                have HLen := Lib.hid hlen
                clear hk9 hk9' hF f9 b9 hlen
                go_wp2_with fail
                go_meet
                case rel => exact ⟨g2.p, g2.c, cutAt ls at_, px, cx, xs, m, nth ls at_, 1, by rw [HLen.out], rfl, rfl, by rw [hcut.out]; exact hN.out, HM.out.chk, hs.out⟩
            · as_aux_lemma =>
              subst h
              have hk1 : k = 2 := hop.symm
              subst hk1
              clear hop hkr
              by_cases h64 : ls.length = 64
              · have hd : Hid (∀ W, KeepBut (fun _ => False) wc W → Calls Try.prog 8 #[.agg #[.int .i64 2, .slice px xs.length cx], .int .i64 3, .int .i64 arg] W fun e w' => Done4 W e w' 0 [] 0 0 7) := fun W hW => by
                  have hx := hH.out.lies.stay hW
                  have := do_any W 2 px cx xs hx.1 (by have := (chk_zero HM.out.chk).2.1; omega) (fun a ha => (hx.2 a ha).2.2) 3 arg
                  rw [step_full HM.out (by decide) (.inr rfl) h64 (by decide)] at this
                  exact this
                go_wp2_with (go_at_call 8; refine (hd.out _ (KeepBut.refl _ _)).mono ?_; rintro e w4 ⟨p4, cap4, rfl, hL4, hk4⟩)
                refine ⟨⟨i + 1, p7, c7, ls, px, cx, xs, m, by omega, by simp, by rw [h64], (hH.out.stay hk4).stay (KeepBut.alloc _ _ _), HM.out⟩, ?_⟩
                simp only [intOf]
                omega
              · have hb64 : ((ls.length : Int) == 64) = false := beq_eq_false_iff_ne.2 (by omega)
                have hs := Lib.hid (step_push (arg := arg) HM.out (by decide : kindOf 3 = 2) (.inr rfl) h64 (by decide))
                have hl7 : ls.length ≤ 1099511627776 := by have h1 := (HM.out.line (by decide)).2.1; have h2 := (HM.out.line (by decide)).2.2; rw [h1]; omega
                have hH' := Lib.hid (hH.out.stay (KeepBut.alloc _ _ (.cells #[.int .i64 arg] 2)))
                go_wp2_with (at_builtin; refine wpList_append1 rfl (.tmp 101) (.tmp 103) 25 rfl 2 p7 c7 _ ls rfl wc.heap.size arg rfl rfl Try.underlying25 info_int64 (hH'.out.row.base fun _ _ => Nat.zero_le _) (heap_alloc_new wc (.cells #[.int .i64 arg] 2)) hl7 ?_; intro p8 c8 w8 g2 g3 g4; have hN := Lib.hid (hH'.out.newRow g3 g2 g4); clear g2 g3 g4)
                go_meet
                case rel => exact ⟨p8, c8, ls ++ [arg], px, cx, xs, m, 0, 1, by simp, rfl, rfl, hN.out, HM.out.chk, hs.out⟩
            · as_aux_lemma =>
              subst h
              have hk1 : k = 2 := hop.symm
              subst hk1
              clear hop hkr
              by_cases h0 : ls = []
              · have hs := Lib.hid (step_none (arg := arg) HM.out (by decide : kindOf 4 = 2) (.inr rfl) h0 (by decide))
                have hl0 : ls.length = 0 := by rw [h0]; rfl
                have HL0 := Lib.hid hl0
                have HL7 := Lib.hid (rfl : Value.slice p7 ls.length c7 = Value.slice p7 ls.length c7)
                clear h0
                go_wp2_with fail
                go_meet
                case rel => exact ⟨p7, c7, ls, px, cx, xs, m, 0, 0, by first | rfl | rw [HL0.out], rfl, rfl, hH.out, HM.out.chk, hs.out⟩
              · have hs := Lib.hid (step_deq (arg := arg) HM.out (by decide) h0 (by decide))
                have hpos := nil_of_length h0
                have hle6 := (HM.out.line (by decide)).2.2
                have heq6 := (HM.out.line (by decide)).2.1
                rw [← heq6] at hle6
                clear h0 heq6
                rcases hH.out.row.parts with ⟨_, _, h3⟩ | ⟨g, cur, h1, _, h3, h4, h5, _, _⟩
                · rw [h3] at hpos; exact absurd hpos (by decide)
                subst h1
                have hlt : 0 < ls.length := by omega
                obtain ⟨l1, hl1⟩ : ∃ l1, l1 = ls.take 0 := ⟨_, rfl⟩
                obtain ⟨l2, hl2⟩ : ∃ l2, l2 = ls.drop 1 := ⟨_, rfl⟩
                have hcut := Lib.hid (show cutAt ls 0 = l1 ++ l2 by rw [hl1, hl2]; exact cutAt_eq _ _)
                have hn1 : 0 = l1.length := by rw [hl1, List.length_take]; omega
                have hn2 : ls.length - 1 = l2.length := by rw [hl2, List.length_drop]
                have hc0 : wc.cell? ⟨g, 0, none⟩ = some (.int .i64 (nth ls 0)) := by have h := hH.out.row.rd.int 0 hlt; rw [Nat.zero_add] at h; exact h
                have hc1 : Hid (∀ w', KeepBut (fun _ => False) wc.drew w' → ∀ j, j < l1.length → w'.cell? ((⟨g, 0, none⟩ : Addr).add j) = some (.int .i64 (nth l1 j))) := fun w' hk j hj => by
                  have h := ((KeepBut.drew _ wc).trans hk).stay (hH.out.row.rd.int j (by omega))
                  have e : nth l1 j = nth ls j := absurd hj (by rw [hl1]; simp)
                  rw [e, add_off]
                  exact h
                obtain ⟨ad, hsl2, had⟩ := run_cut_from (P := Try.prog) (t := 25) Try.underlying25 (by kernel_rfl : (Try.prog.info? 2).map (·.size) = some 1) g ls.length c7 1 (by omega)
                have hc2 : Hid (∀ w', KeepBut (fun _ => False) wc.drew w' → ∀ j, j < l2.length → w'.cell? (ad.add j) = some (.int .i64 (nth l2 j))) := fun w' hk j hj => by
                  have h := ((KeepBut.drew _ wc).trans hk).stay (hH.out.row.rd.int (1 + j) (by omega))
                  have e : nth l2 j = nth ls (1 + j) := by rw [hl2]; simp [nth, List.getElem?_drop, Nat.add_comm]
                  rw [e, had (by omega), add_off]
                  rw [Nat.zero_add] at h
                  exact h
                have hsl1 := run_cut_to (P := Try.prog) (t := 25) Try.underlying25 (by kernel_rfl : (Try.prog.info? 2).map (·.size) = some 1) g ls.length c7 0 (by omega)
                have HS1 := Lib.hid (show ∀ W, (Instr.sliceAt 25 (.slice (some ⟨g, 0, none⟩) ls.length c7) none (some (.int .i64 0)) none).run Try.prog W = .ok (.slice (some ⟨g, 0, none⟩) 0 c7) W from hsl1); have HS2 := Lib.hid (show ∀ W, (Instr.sliceAt 25 (.slice (some ⟨g, 0, none⟩) ls.length c7) (some (.int .i64 1)) none none).run Try.prog W = .ok (.slice (some ad) (ls.length - 1) (c7 - 1)) W from hsl2); have HN1 := Lib.hid hn1; have HN2 := Lib.hid hn2
                have hltI : (0 : Int) < (ls.length : Int) := by omega
                have hWa : IntKind.i64.wrap ((0 : Int) + 1) = 1 := by rw [IntWalk.i64_in _ (by omega)]; omega
                have hb0 : ((ls.length : Int) == 0) = false := beq_eq_false_iff_ne.2 (by omega)
                have hlI : Hid (l1.length + l2.length ≤ 1099511627776) := by show l1.length + l2.length ≤ 1099511627776; omega
                clear hl1 hl2 hsl1 hsl2 had hn1 hn2 h3 h4 h5 hpos
                go_upto_region 33 with fail
                refine wp_own0 (by kernel_rfl) (fun i => [[], [], [], [1, 2], [0, 1, 2, 3], [], [], [6], [5, 6, 7], [0, 1, 2, 3, 4, 5, 6, 7, 8], [0, 1, 2, 3, 4, 5, 6, 7, 8, 9]].getD i [])
                  (fun i => if i = 4 then [0] else if i = 9 then [4] else []) (fun i => if i = 4 then [0] else if i = 9 then [4] else []) [9] (by kernel_rfl)
                  (fun i => if i = 0 then some { val := fun _ g => .slice (some ⟨g.b, 0, none⟩) 0 0, fp := fun _ g k => k = g.b, post := fun _ g w => w.heap[g.b]? = some (.cells #[] 2 (0, 0)) }
                    else if i = 4 then some (sAppN 2 [] l1) else if i = 9 then some (sAppN 2 l1 l2) else none) ?_
                refine lex_loud rfl rfl (loud_new (fun b => .slice (some ⟨b, 0, none⟩) 0 0) (.cells #[] 2) rfl (fun _ _ => rfl) (fun _ _ _ => Iff.rfl) (fun _ _ _ => Iff.rfl) (fun w => by go_simp)) fun g0 _ => ?_
                simp only [sAppN, Act.put, List.setIfInBounds_toArray, List.set_cons_zero, List.set_cons_succ]
                repeat
                  apply lex_quiet rfl rfl
                  · intro w' hk; go_simp; with_reducible rfl
                  simp only [Act.put, List.setIfInBounds_toArray, List.set_cons_zero, List.set_cons_succ]
                try (refine lex_quiet rfl rfl (v := .slice (some ⟨g, 0, none⟩) 0 c7) (fun w' hk => slice_exec rfl w' _ (HS1.out w')) ?_; simp only [sAppN, Act.put, List.setIfInBounds_toArray, List.set_cons_zero, List.set_cons_succ])
                refine lex_loud rfl rfl (loud_appendN 2 25 (some ⟨g0.b, 0, none⟩) 0 0 c7 0 [] l1 ⟨g, 0, none⟩ (.tmp 120) (.tmp 123) rfl rfl rfl rfl HN1.out Try.underlying25 info_int64 (by have := hlI.out; simp; omega) hc1.out 0 (by decide) (by decide) (fun w h => OwnI.mk (xs := []) (Nat.zero_le _) h (by decide) (by decide) rfl) (fun b hb => (Of.some_iff.1 hb)) (fun b hb => Of.some_iff.2 hb)) fun g1 _ => ?_
                simp only [sAppN, Act.put, List.setIfInBounds_toArray, List.set_cons_zero, List.set_cons_succ]
                repeat
                  apply lex_quiet rfl rfl
                  · intro w' hk; go_simp; with_reducible rfl
                  simp only [Act.put, List.setIfInBounds_toArray, List.set_cons_zero, List.set_cons_succ]
                refine lex_quiet rfl rfl (v := .slice (some ad) (ls.length - 1) (c7 - 1)) (fun w' hk => slice_exec rfl w' _ (HS2.out w')) ?_
                simp only [sAppN, Act.put, List.setIfInBounds_toArray, List.set_cons_zero, List.set_cons_succ]
                refine lex_loud rfl rfl (loud_appendN 2 25 g1.p g1.c ([].length + l1.length) (c7 - 1) (ls.length - 1) l1 l2 ad (.tmp 124) (.tmp 128) rfl rfl (by simp) rfl HN2.out Try.underlying25 info_int64 hlI.out hc2.out 4 (by decide) (by decide) (fun w h => h) (fun b hb => hb) (fun b hb => hb)) fun g2 _ => ?_
                simp only [sAppN, Act.put, List.setIfInBounds_toArray, List.set_cons_zero, List.set_cons_succ]
                repeat
                  apply lex_quiet rfl rfl
                  · intro w' hk; go_simp; with_reducible rfl
                  simp only [Act.put, List.setIfInBounds_toArray, List.set_cons_zero, List.set_cons_succ]
                refine lex_nil ?_
                intro w9 hk9 hF _
                have f9 : OwnI 2 0 w9 g2.p g2.c (l1 ++ l2) := (hF 9 (by decide)).1
                have b9 : ∀ b, Of g2.p b → b < w9.heap.size ∧ (wc.heap.size ≤ b ∨ False) := (hF 9 (by decide)).2
                have hk9' : KeepBut (Of (some ⟨g, 0, none⟩)) wc w9 := ((KeepBut.drew _ wc).trans hk9).mono fun _ e => e.elim
                have hN := Lib.hid (hH.out.newRow hk9' f9 fun b hb => .inr ((b9 b hb).2.resolve_right fun e => e))
                have hlen : l1.length + l2.length = (cutAt ls 0).length := by rw [hcut.out, List.length_append]
                have HLen := Lib.hid hlen
                clear hk9 hk9' hF f9 b9 hlen
                go_wp2_with fail
                go_meet
                case rel => exact ⟨g2.p, g2.c, cutAt ls 0, px, cx, xs, m, nth ls 0, 1, by rw [HLen.out], rfl, rfl, by rw [hcut.out]; exact hN.out, HM.out.chk, hs.out⟩
            · as_aux_lemma =>
              subst h
              have hk1 : k = 3 := hop.symm
              subst hk1
              clear hop hkr
              have hget := (HM.out.set rfl).2.1 arg
              have hlk := hH.out.map.look (P := Try.prog) (mt := 31) (kt := 2) (e := 3) Try.underlying31 Try.underlying2 arg (.int .i64 0) (by kernel_rfl)
              by_cases hc : xs.contains arg = true
              · rw [hget, if_pos hc, Option.getD_some] at hlk
                have hs := Lib.hid (step_add_there HM.out hc)
                clear hc hget
                go_wp2_with fail
                go_meet
                case rel => exact ⟨p7, c7, ls, px, cx, xs, m, 0, 0, rfl, rfl, rfl, hH.out, HM.out.chk, hs.out⟩
              · rw [hget, if_neg hc] at hlk
                have hs := Lib.hid (step_add_new HM.out hH.out.map.nodup (by simpa using hc) (HArg.out rfl))
                obtain ⟨w8, g1, g2, g3⟩ := hH.out.map.update (P := Try.prog) (mt := 31) (kt := 2) (e := 3) Try.underlying31 Try.underlying2 arg (.int .i64 1)
                have hN := Lib.hid (hH.out.newMap g3 g2)
                clear g2 g3
                clear hc hget
                simp only [Option.getD_none] at hlk
                go_wp2_with fail
                go_meet
                case rel => exact ⟨p7, c7, ls, px, cx, xs, mset m arg (.int .i64 1), 0, 1, rfl, rfl, rfl, hN.out, HM.out.chk, hs.out⟩
            · as_aux_lemma =>
              subst h
              have hk1 : k = 3 := hop.symm
              subst hk1
              clear hop hkr
              have hget := (HM.out.set rfl).2.1 arg
              have hlk := hH.out.map.look (P := Try.prog) (mt := 31) (kt := 2) (e := 3) Try.underlying31 Try.underlying2 arg (.int .i64 0) (by kernel_rfl)
              by_cases hc : xs.contains arg = true
              · rw [hget, if_pos hc, Option.getD_some] at hlk
                have hs := Lib.hid (step_remove_there HM.out hH.out.map.nodup hc)
                obtain ⟨w8, g1, g2, g3⟩ := hH.out.map.delete (P := Try.prog) (mt := 31) (kt := 2) (e := 3) 0 2 Try.underlying31 Try.underlying2 arg
                have hN := Lib.hid (hH.out.newMap g3 g2)
                clear g2 g3
                clear hc hget
                go_wp2_with fail
                go_meet
                case rel => exact ⟨p7, c7, ls, px, cx, xs, mdel m arg, 0, 1, rfl, rfl, rfl, hN.out, HM.out.chk, hs.out⟩
              · rw [hget, if_neg hc] at hlk
                have hs := Lib.hid (step_remove_none HM.out (by simpa using hc))
                clear hc hget
                simp only [Option.getD_none] at hlk
                go_wp2_with fail
                go_meet
                case rel => exact ⟨p7, c7, ls, px, cx, xs, m, 0, 0, rfl, rfl, rfl, hH.out, HM.out.chk, hs.out⟩
            · as_aux_lemma =>
              subst h
              have hk1 : k = 3 := hop.symm
              subst hk1
              clear hop hkr
              have hget := (HM.out.set rfl).2.1 arg
              have hlk := hH.out.map.look (P := Try.prog) (mt := 31) (kt := 2) (e := 3) Try.underlying31 Try.underlying2 arg (.int .i64 0) (by kernel_rfl)
              by_cases hc : xs.contains arg = true
              · rw [hget, if_pos hc, Option.getD_some] at hlk
                have hs := Lib.hid (step_has HM.out true hc)
                clear hc hget
                go_wp2_with fail
                go_meet
                case rel => exact ⟨p7, c7, ls, px, cx, xs, m, 0, 1, rfl, rfl, rfl, hH.out, HM.out.chk, hs.out⟩
              · rw [hget, if_neg hc] at hlk
                have hs := Lib.hid (step_has HM.out false (by simpa using hc))
                clear hc hget
                simp only [Option.getD_none] at hlk
                go_wp2_with fail
                go_meet
                case rel => exact ⟨p7, c7, ls, px, cx, xs, m, 0, 0, rfl, rfl, rfl, hH.out, HM.out.chk, hs.out⟩
          case rest => as_aux_lemma =>
            obtain ⟨p8, c8, ls8, px8, cx8, xs8, m8, v, c0, rfl, rfl, rfl, hH8, hchk, hst⟩ := hcut
            obtain ⟨ys, hdo, hM8, hc⟩ := hst
            have HH8 := Lib.hid hH8; have HM8 := Lib.hid hM8
            have hblk := hH8.blk
            have q0 := blk_cell (k := 0) hblk rfl
            have q1 := blk_cell (k := 1) hblk rfl
            have hd : Hid (∀ W, KeepBut (fun _ => False) wc W → Calls Try.prog 8 #[.agg #[.int .i64 k, .slice px8 xs8.length cx8], .int .i64 op, .int .i64 arg] W fun e w' => Done4 W e w' k ys v c0 0) := fun W hW => by
              have hx := HH8.out.lies.stay hW
              have := do_any W k px8 cx8 xs8 hx.1 (by have := (chk_zero hchk).2.1; omega) (fun a ha => (hx.2 a ha).2.2) op arg
              rw [hdo] at this
              exact this
            have HM9 := Lib.hid hM8.chk
            have HC0 := Lib.hid hc
            have hN58 := Lib.hid (show w3.heap.size < wc.heap.size ∧ w3.heap.size + 1 < wc.heap.size from ⟨hH8.lt5, hH8.map.lt⟩)
            have h7B := Lib.hid (show ∀ b, Of p8 b → b < wc.heap.size from fun b hb => hH8.lt7 hb)
            clear hblk hH8 hM8 hchk hdo hH HM hc
            go_upto_region 42 with (go_at_call 8; refine (hd.out _ (KeepBut.refl _ _)).mono ?_; rintro e w4 ⟨p4, cap4, rfl, hL4, hk4⟩)
            obtain ⟨V4, B4, hV4, hB4, hb4, hkb4, -⟩ := fresh_block w4 (.cells #[.int .i64 k, .slice p4 ys.length cap4] 27)
            rw [← hV4, ← hB4]
            have HH9 := Lib.hid (HH8.out.stay (hk4.trans hkb4))
            have HL4 := Lib.hid (hL4.stay hkb4)
            have HB4 := Lib.hid hb4
            have hB4N := Lib.hid (show ¬ B4 = w3.heap.size by have := hk4.size; have := hN58.out.1; omega)
            clear hV4 hB4 hb4 hkb4 hk4 hL4 q0 q1 hd
            go_cut [192] from 42 to 237 (fun v192 wx => v192 = .bool false ∧ KeepBut (fun _ => False) V4 wx)
            case first => as_aux_lemma =>
              have x0 := blk_cell (k := 0) HB4.out rfl
              have x1 := blk_cell (k := 1) HB4.out rfl
              have hCk : Hid (∀ W, KeepBut (fun _ => False) V4 W → Calls Try.prog 9 #[.agg #[.int .i64 k, .slice p4 ys.length cap4]] W fun e w' => e = .returned (.int .i64 0) ∧ KeepBut (fun _ => False) W w') := fun W hW => by
                have hx := HL4.out.stay hW
                have := check_any W k p4 cap4 ys hx.1 (by have := (chk_zero HM9.out).2.1; omega) (fun a ha => (hx.2 a ha).2.2)
                rw [HM9.out] at this; exact this
              rcases HC0.out with h | ⟨h, hys⟩
              · subst h
                go_wp2_with (go_at_call 9; refine (hCk.out _ (KeepBut.refl _ _)).mono ?_; rintro e w5 ⟨rfl, hk5⟩)
                go_meet
                case rel => exact ⟨rfl, hk5⟩
              · subst h
                have hSm : Hid (∀ W, KeepBut (fun _ => False) V4 W → Calls Try.prog 10 #[.agg #[.int .i64 k, .slice px8 xs8.length cx8], .agg #[.int .i64 k, .slice p4 ys.length cap4]] W fun e w' => e = .returned (.bool true) ∧ KeepBut (fun _ => False) W w') := fun W hW => by
                  have hx := HL4.out.stay hW
                  have hy := HH9.out.lies.stay hW
                  have hl := (chk_zero HM9.out).2.1
                  have := same_any W k k px8 p4 cx8 cap4 xs8 ys hy.1 hx.1 (by rw [← hys]; omega) (by omega)
                  rw [show decide (k = k ∧ xs8 = ys) = true by simp [hys]] at this
                  exact this
                clear hys
                go_wp2_with (first
                  | (go_at_call 9; refine (hCk.out _ (KeepBut.refl _ _)).mono ?_; rintro e w5 ⟨rfl, hk5⟩
                     have y0 := hk5.stay x0; have y1 := hk5.stay x1
                     have z0 := hk5.stay (blk_cell (k := 0) HH9.out.blk rfl); have z1 := hk5.stay (blk_cell (k := 1) HH9.out.blk rfl)
                     have HK5 := Lib.hid hk5
                     clear x0 x1 hk5)
                  | (go_at_call 10; refine (hSm.out _ HK5.out).mono ?_; rintro e w6 ⟨rfl, hk6⟩))
                go_meet
                case rel => exact ⟨rfl, HK5.out.trans hk6⟩
            case rest => as_aux_lemma =>
              obtain ⟨rfl, hk5⟩ := hcut
              have HHa := Lib.hid (HH9.out.stay hk5)
              have HLa := Lib.hid (HL4.out.stay hk5)
              have HBa := Lib.hid (hk5.blk HB4.out)
              have x0 : ∀ w', KeepBut (fun k => k = w3.heap.size) wc w' → w'.cell? ⟨B4, 0, none⟩ = some (.int .i64 k) := fun w' h => h.cell (blk_cell (k := 0) HBa.out rfl) hB4N.out
              have x1 : ∀ w', KeepBut (fun k => k = w3.heap.size) wc w' → w'.cell? ⟨B4, 1, none⟩ = some (.slice p4 ys.length cap4) := fun w' h => h.cell (blk_cell (k := 1) HBa.out rfl) hB4N.out
              clear HH9 HL4 HB4 hk5
              go_upto_region 44 with fail
              refine wp_own1_plain w3.heap.size _ HHa.out.blk (fun i => if i = 1 then [2] else []) (fun i => if i = 1 then [2] else []) [1] (by kernel_rfl) (fun i => if i = 1 then some (sPut w3.heap.size 27) else none) ?_
              repeat
                apply lex_quiet rfl rfl
                · intro w' hk; go_simp; with_reducible rfl
                simp only [Act.put, List.setIfInBounds_toArray, List.set_cons_zero, List.set_cons_succ]
              refine lex_loud rfl rfl (loud_put w3.heap.size 27 27 #[.int .i64 k, .slice p4 ys.length cap4] _ (.tmp 5) (.tmp 193) rfl rfl rfl 2 (by decide) (by decide) (fun w h => h) ⟨rfl, rfl⟩ rfl (by kernel_rfl) (by simp [Value.oneCell'])) fun g6 _ => ?_
              simp only [sPut, Act.put, List.setIfInBounds_toArray, List.set_cons_zero, List.set_cons_succ]
              refine lex_nil ?_
              intro w6 hk6 hF _
              have f1 : w6.heap[w3.heap.size]? = some (.cells #[.int .i64 k, .slice p4 ys.length cap4] 27 (0, 0)) := (hF 1 (by decide)).1 _ (put_args rfl rfl)
              have HHb := Lib.hid (HHa.out.newItems HH8.out.keep.size hk6 f1 HLa.out hN58.out.1 hN58.out.2 h7B.out)
              clear hF f1 hk6 x0 x1 HHa HLa HBa
              have hml := fun ty => HHb.out.map.len (P := Try.prog) ty Try.underlying31
              go_upto_if 197 with fail
              go_cut [24] from 42 to 237 (fun v24 wx => v24 = .int .i64 ys.length ∧ wx = w6)
              case first => as_aux_lemma =>
                by_cases hk3 : k = 3
                · have hb3 : (k == 3) = true := by simpa using hk3
                  have he := Lib.hid (HM8.out.set hk3).2.2.1
                  clear hk3
                  go_wp2_with fail
                  go_meet
                  case rel => exact ⟨by rw [he.out], rfl⟩
                · have hb3 : (k == 3) = false := by simpa using hk3
                  have he := Lib.hid (HM8.out.line (by have := HM8.out.kind; omega)).2.1
                  clear hk3
                  go_wp2_with fail
                  go_meet
                  case rel => exact ⟨by rw [he.out], rfl⟩
              case rest => as_aux_lemma =>
                obtain ⟨rfl, hww⟩ := hcut
                have hww := hww.symm
                subst hww
                have z1 := blk_cell (k := 1) HHb.out.blk rfl
                have hyl := (chk_zero HM9.out).2.1
                clear hml
                go_wp2_with fail
                clear z1
                go_loopw [25] (fun v25 wr2 => ∃ j : Nat, j ≤ ys.length ∧ v25 = .int .i64 j ∧ KeepBut (fun _ => False) w6 wr2) (fun j _ => ys.length - (intOf j).toNat)
                case atStart => exact ⟨0, Nat.zero_le _, rfl, KeepBut.refl _ _⟩
                case round => as_aux_lemma =>
                  obtain ⟨j, hj, rfl, hkj⟩ := hrel
                  have HKj := Lib.hid hkj
                  have HHc := Lib.hid (HHb.out.stay hkj)
                  clear hkj
                  have h0j : (0 : Int) ≤ j := by omega
                  have hWj : IntKind.i64.wrap ((j : Int) + 1) = j + 1 := IntWalk.i64_in _ (by omega)
                  by_cases hjl : j < ys.length
                  · have hjlI : (j : Int) < (ys.length : Int) := by omega
                    have zz : wr.cell? ⟨w3.heap.size, 1, none⟩ = some (.slice p4 ys.length cap4) := blk_cell (k := 1) HHc.out.blk rfl
                    obtain ⟨bp, op4, rfl, _⟩ := HHc.out.lies.1.ptr (by rw [ints_length]; omega)
                    have ze : wr.cell? ⟨bp, op4 + j, none⟩ = some (.int .i64 (nth ys j)) := HHc.out.lies.1.int j hjl
                    by_cases hk3 : k = 3
                    · as_aux_lemma =>
                      have hb3 : (k == 3) = true := by simpa using hk3
                      have hb3' : (k != 3) = false := by simpa using hk3
                      have hmem : ys.contains (nth ys j) = true := by rw [contains_iff, nth_eq hjl]; exact List.getElem_mem hjl
                      have hget := (HM8.out.set hk3).2.1 (nth ys j)
                      rw [if_pos hmem] at hget
                      have hlk : ∀ n, (Instr.lookup 31 (.map (some (w3.heap.size + 1))) (.int .i64 (nth ys j)) false).run Try.prog (wr.drewN n) = .ok (.int .i64 1) (wr.drewN n) := fun n => by
                        have := (HHc.out.map.stay (KeepBut.drewN _ wr n)).look (P := Try.prog) (mt := 31) (kt := 2) (e := 3) Try.underlying31 Try.underlying2 (nth ys j) (.int .i64 0) (by kernel_rfl)
                        rw [hget, Option.getD_some] at this; exact this
                      clear hk3 hmem hget
                      go_upto_region 53 with fail
                      go_quiet (fail)
                      clear zz ze hlk
                      go_wp2_with fail
                      refine ⟨⟨j + 1, by omega, by simp, HKj.out.trans (KeepBut.drewN _ _ _)⟩, ?_⟩
                      simp only [intOf]
                      omega
                    · as_aux_lemma =>
                      have hb3 : (k == 3) = false := by simpa using hk3
                      have hb3' : (k != 3) = true := by simpa using hk3
                      have he := (HM8.out.line (by have := HM8.out.kind; omega)).2.1
                      obtain ⟨b7, o7, rfl, _⟩ := HHc.out.row.rd.ptr (by rw [ints_length, he]; omega)
                      have zl : wr.cell? ⟨b7, o7 + j, none⟩ = some (.int .i64 (nth ys j)) := by
                        have := HHc.out.row.rd.int j (by rw [he]; omega)
                        rw [← he]; exact this
                      have hjlL : (j : Int) < (ls8.length : Int) := by rw [he]; omega
                      clear hk3 he
                      go_upto_region 53 with fail
                      go_quiet (fail)
                      clear zz ze zl
                      go_wp2_with fail
                      refine ⟨⟨j + 1, by omega, by simp, HKj.out.trans (KeepBut.drewN _ _ _)⟩, ?_⟩
                      simp only [intOf]
                      omega
                  · as_aux_lemma =>
                    have hge : ¬ (j : Int) < (ys.length : Int) := by omega
                    go_wp2_with fail
                    refine ⟨⟨i + 1, p8, c8, ls8, p4, cap4, ys, m8, by omega, by simp, rfl, HHc.out, HM8.out⟩, ?_⟩
                    simp only [intOf]
                    omega
    · have hge : ¬ (i : Int) < (n : Int) := by omega
      go_wp2_with fail
      go_ret
      exact ⟨rfl, HH.out.keep⟩

end Go.Proofs.Ytopodipjapiaoaa
