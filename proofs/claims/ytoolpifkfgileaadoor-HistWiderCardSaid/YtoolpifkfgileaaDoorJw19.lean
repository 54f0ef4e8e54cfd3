/- Joined texts of this work: HiW. -/
import Derived.Test.YtoolpifkfgileaaDoorJw15
import Derived.Test.YtoolpifkfgileaaDoorJw18
import Derived.Test.YtoolpifkfgileaaDoorJw5
import Derived.Deep.CutRange
import Derived.Deep.CutBlock
import Derived.StillTailTactics

/-
  Chapter 29: HistWider: the walk.
-/
namespace Go.Proofs.YtoolpifkfgileaaDoor
open Go Go.RowKit Own

/-- the history of the statement's own, while it is spread -/
structure WidAt (ks : List Int) (cs : List Cl) (V wr : World) (B9 : Nat) (pk9 : Option Addr) (ck9 g9 cap9 : Nat) (l : List Cl) : Prop where
  box : wr.heap[B9]? = some (.cells #[.slice pk9 ks.length ck9, .slice (some ⟨g9, 0, none⟩) cs.length cap9] THi (0, 0))
  row : RowB wr g9 cap9 l
  rdk : Rd wr pk9 (ints ks)
  keep : KeepBut (fun _ => False) V wr
  ne : V.heap.size ≤ g9 ∧ V.heap.size ≤ B9 ∧ B9 ≠ g9 ∧ ∀ a, pk9 = some a → a.block ≠ g9 ∧ a.block ≠ B9
theorem WidAt.stay {ks : List Int} {cs : List Cl} {V wr wr' : World} {B9 : Nat} {pk9 : Option Addr} {ck9 g9 cap9 : Nat} {l : List Cl} (h : WidAt ks cs V wr B9 pk9 ck9 g9 cap9 l) (k : KeepBut (fun _ => False) wr wr') : WidAt ks cs V wr' B9 pk9 ck9 g9 cap9 l :=
  ⟨k.blk h.box, h.row.keep k fun e => e, h.rdk.stay k, h.keep.trans k, h.ne⟩
theorem WidAt.put {ks : List Int} {cs : List Cl} {V wr : World} {B9 : Nat} {pk9 : Option Addr} {ck9 g9 cap9 : Nat} {l : List Cl} (h : WidAt ks cs V wr B9 pk9 ck9 g9 cap9 l) {i t : Nat} (hi : i < l.length) (ht : t < 8) {v : Value} {c : Cl} (hc : c.vals = (nthC l i).vals.set t v) : WidAt ks cs V (wr.setCell ⟨g9, i * 8 + t, none⟩ v) B9 pk9 ck9 g9 cap9 (l.set i c) := by
  have k : KeepBut (fun b => b = g9) wr (wr.setCell ⟨g9, i * 8 + t, none⟩ v) := KeepBut.setCell _ _ _ rfl
  exact ⟨keep_blk k h.box h.ne.2.2.1, h.row.put hi ht hc, h.rdk.keep k fun a ha => (h.ne.2.2.2 a ha).1, h.keep.new k fun b e => by have e : b = g9 := e; have := h.ne.1; omega, h.ne⟩

theorem WidAt.own {ks : List Int} {cs : List Cl} {V wr w9 : World} {B9 : Nat} {pk9 : Option Addr} {ck9 g9 cap9 : Nat} {l : List Cl} (h : WidAt ks cs V wr B9 pk9 ck9 g9 cap9 l) {i t : Nat} (hi : i < l.length) (ht : t < 8) {v : Value} {c : Cl} (hc : c.vals = (nthC l i).vals.set t v)
    (k : KeepBut (fun b => b = g9) wr w9) (hg : w9.heap[g9]? = (wr.setCell ⟨g9, i * 8 + t, none⟩ v).heap[g9]?) : WidAt ks cs V w9 B9 pk9 ck9 g9 cap9 (l.set i c) :=
  ⟨keep_blk k h.box h.ne.2.2.1, (h.row.put hi ht hc).of_same hg, h.rdk.keep k fun a ha => (h.ne.2.2.2 a ha).1, h.keep.new k fun b e => by have e : b = g9 := e; have := h.ne.1; omega, h.ne⟩

/-- the history of the statement's own from which calls are left out, while it is made -/
structure LessAt (ks : List Int) (cs : List Cl) (o : List Nat) (V wr : World) (NM B14 : Nat) (pk' : Option Addr) (ck' : Nat) (m : List (Int × Value)) (v : Value) (i : Nat) : Prop where
  box : wr.heap[B14]? = some (.cells #[.slice pk' ks.length ck', v] THi (0, 0))
  row : wr.ownsRow (B14 + 1) TCl 8 v (lessN cs o i).length (cellsC (lessN cs o i))
  mp : MapI .i64 wr NM m
  keep : KeepBut (fun _ => False) V wr
  rdk : Rd wr pk' (ints ks)
  ne : V.heap.size ≤ B14 ∧ NM < B14 ∧ ∀ a, pk' = some a → a.block < B14

set_option maxRecDepth 100000 in
set_option maxHeartbeats 8000000 in
theorem wider_many (w : World) (pk pc : Option Addr) (ck cc : Nat) (ks : List Int) (cs : List Cl) (x1 x2 : Int) (hT : TabP w) (hB : BitTab w) (hs : 26 < cs.length ∨ 8 < ks.length) :
    Calls Tryd.prog 5 #[histV pk pc ck cc ks cs, .int .i64 x1, .int .i64 x2] w fun e w' => TrueOf w e w' := by
  obtain ⟨V, B, hV, hB0, hb, hkV, hsV⟩ := fresh_block w (.cells #[.slice pk ks.length ck, .slice pc cs.length cc] THi)
  have HK := Lib.hid hkV; have HBB := Lib.hid hb
  have HLV := Lib.hid (lives_any V (hkV.tabP hT) (hkV.bitTab hB))
  have HE := Lib.hid (show (decide (cs.length ≤ 26) && decide (ks.length ≤ 8)) = false by
    rcases hs with h | h
    · rw [decide_eq_false (by omega)]; rfl
    · rw [decide_eq_false (p := ks.length ≤ 8) (by omega), Bool.and_false])
  have HLT := fun W => light_any W pk pc ck cc ks cs
  rw [HE.out] at HLT
  have HLT := Lib.hid HLT
  unfold histV at HLT ⊢
  clear hb hkV hsV hT hB hs
  go_enter Tryd.func5, Tryd.ntmps5
  go_upto_region 1 with fail
  rw [← hV, ← hB0]
  clear hV hB0
  go_upto_region 3 with (go_at_call 9; refine HLV.out.mono ?_; rintro e w2 ⟨rfl, hk⟩; obtain ⟨e0, e1, -⟩ := blk2 (hk.blk HBB.out); have HK2 := Lib.hid hk; clear hk)
  go_wp2_with (go_at_call 10; refine (HLT.out _).mono ?_; rintro e w3 ⟨rfl, hk⟩; have HK3 := Lib.hid hk; clear hk)
  go_ret
  exact ⟨rfl, (HK.out.trans HK2.out).trans HK3.out⟩

set_option maxRecDepth 100000 in
set_option maxHeartbeats 128000000 in
theorem wider_walk (w : World) (pk pc : Option Addr) (ck cc : Nat) (ks : List Int) (cs : List Cl) (x1 x2 : Int) (hI : HistIn w pk pc ks cs) (hl26 : cs.length ≤ 26) :
    Calls Tryd.prog 5 #[histV pk pc ck cc ks cs, .int .i64 x1, .int .i64 x2] w fun e w' => TrueOf w e w' := by
  obtain ⟨V, B, hV, hB0, hb, hkV, hsV⟩ := fresh_block w (.cells #[.slice pk ks.length ck, .slice pc cs.length cc] THi)
  have HI := Lib.hid (hI.stay hkV)
  have HK := Lib.hid hkV; have HBB := Lib.hid hb
  have HLV := Lib.hid (lives_any V HI.out.tab HI.out.bit)
  have HE := Lib.hid (show (decide (cs.length ≤ 26) && decide (ks.length ≤ 8)) = true by
    rw [decide_eq_true hl26, decide_eq_true hI.k8]; rfl)
  have HLT := fun W => light_any W pk pc ck cc ks cs
  rw [HE.out] at HLT
  have HLT := Lib.hid HLT
  have HCH := Lib.hid fun W (h : HistIn W pk pc ks cs) => chkH_any W pk pc ck cc ks cs h.rd h.calls (by have := hI.k8; omega) (by omega)
  have HWD := Lib.hid fun W (h : HistIn W pk pc ks cs) => wide_any W pk pc ck cc ks cs h.calls h.c60
  have HLN := Lib.hid fun W (h : HistIn W pk pc ks cs) => linear_any W pk pc ck cc ks cs h
  obtain ⟨ch, hch⟩ : ∃ ch, chkH ks cs = ch := ⟨_, rfl⟩
  rw [hch] at HCH
  have HCHE := Lib.hid hch
  unfold histV at HLT HCH HWD HLN ⊢
  have HKS8 := Lib.hid hI.k8
  clear hb hkV hsV hch hI
  go_enter Tryd.func5, Tryd.ntmps5
  go_upto_region 1 with fail
  rw [← hV, ← hB0]
  clear hV hB0
  go_upto_region 3 with (go_at_call 9; refine HLV.out.mono ?_; rintro e w2 ⟨rfl, hk⟩; obtain ⟨e0, e1, -⟩ := blk2 (hk.blk HBB.out); have HK2 := Lib.hid hk; clear hk)
  go_wp2_with fail
  go_at_call 10
  refine (HLT.out _).mono ?_
  rintro e w3 ⟨rfl, hk⟩
  have HK3 := Lib.hid (HK2.out.trans hk)
  clear hk e0 e1
  obtain ⟨e0, e1, -⟩ := blk2 (HK3.out.blk HBB.out)
  have HCH := Lib.hid (HCH.out w3 (HI.out.stay HK3.out))
  by_cases h0 : ch = 0
  · have h0b : (ch != 0) = false := by simp [h0]
    have H0 := Lib.hid h0
    clear h0
    go_wp2_with fail
    go_at_call 11
    refine HCH.out.mono ?_
    rintro e w4 ⟨rfl, hk⟩
    have HK4 := Lib.hid (HK3.out.trans hk)
    clear hk e0 e1
    obtain ⟨e0, e1, -⟩ := blk2 (HK4.out.blk HBB.out)
    have HWD := Lib.hid (HWD.out w4 (HI.out.stay HK4.out))
    go_wp2_with fail
    go_at_call 12
    refine HWD.out.mono ?_
    rintro e w5 ⟨z, rfl, hk⟩
    have HK5 := Lib.hid (HK4.out.trans hk)
    clear hk e0 e1
    obtain ⟨e0, e1, -⟩ := blk2 (HK5.out.blk HBB.out)
    by_cases hz : 6 < z
    · have hzb : decide (6 < z) = true := decide_eq_true hz
      go_wp2_with fail
      go_ret
      exact ⟨rfl, HK.out.trans HK5.out⟩
    · have hzb : decide (6 < z) = false := decide_eq_false hz
      have HGD := Lib.hid (chkH_ok.1 (HCHE.out.trans H0.out))
      clear HLV HLT HCH HWD
      by_cases hc0 : cs.length = 0
      · have hc0b : ((cs.length : Int) == 0) = true := by simp [hc0]
        clear hc0
        go_wp2_with fail
        go_ret
        exact ⟨rfl, HK.out.trans HK5.out⟩
      · have hc0b : ((cs.length : Int) == 0) = false := by rw [beq_eq_false_iff_ne]; omega
        have HNE := Lib.hid (show cs ≠ [] from fun e => hc0 (by rw [e]; rfl))
        have hpos : 0 < cs.length := by omega
        have HLEN := Lib.hid hpos
        have HORD := fun W (h : KeepBut (fun _ => False) V W) => order_any W pk pc ck cc ks cs (HI.out.stay h)
        have HOWH := fun W (h : KeepBut (fun _ => False) V W) => ownHist_any W pk pc ck cc ks cs (HI.out.stay h) HNE.out
        unfold histV at HORD HOWH
        have HORD := Lib.hid HORD; have HOWH := Lib.hid HOWH
        clear hc0
        go_wp2_with fail
        go_at_call 17
        refine (HORD.out w5 HK5.out).mono ?_
        intro e w6 h
        obtain ⟨q, c, o, er, rfl, h1, h2, h3, -, h5, hk⟩ := order_lin h
        have HLQ := Lib.hid h1; have HOK := Lib.hid h2; have HRD := Lib.hid h5; have HK6 := Lib.hid (HK5.out.trans hk)
        clear h h1 h2 h3 h5 hk e0 e1 hz hzb hc0b h0b
        obtain ⟨e0, e1, -⟩ := blk2 (HK6.out.blk HBB.out)
        by_cases her : er = 0
        · have herb : (er != 0) = false := by simp [her]
          have HORB := Lib.hid (HOK.out her)
          have hpr := pick_range (k := x1) (n := (cs.length : Int)) (by omega)
          have HPK := fun W => pick_any W x1 (cs.length : Int) (by omega) (by omega)
          obtain ⟨n, hn⟩ : ∃ n : Nat, pick x1 (cs.length : Int) = n := ⟨(pick x1 (cs.length : Int)).toNat, by omega⟩
          rw [hn] at hpr HPK
          have HPK := Lib.hid HPK
          have HNL := Lib.hid (show n < cs.length by omega)
          clear hn hpr her
          go_upto_region 9 with (go_at_call 14; refine (HPK.out _).mono ?_; rintro e w' ⟨rfl, hw⟩; have hw := hw.symm; subst hw)
          go_wp2_with fail
          go_at_call 18
          refine (HOWH.out w6 HK6.out).mono ?_
          rintro e w7 ⟨pk9, ck9, g9, cap9, rfl, hr9, hb9, hg9, hp9, hk⟩
          obtain ⟨W9, B9, hW9, hB9, hbx, hkx, hsx⟩ := fresh_block w7 (.cells #[.slice pk9 ks.length ck9, .slice (some ⟨g9, 0, none⟩) cs.length cap9] THi)
          have HAT := Lib.hid (show WidAt ks cs w6 W9 B9 pk9 ck9 g9 cap9 (scaleN 0 cs) from ⟨hbx, by rw [scaleN_zero]; exact hb9.keep hkx (fun e => e), hr9.stay hkx, hk.trans hkx, by
            have h1 := HK6.out.size
            have h2 := hk.size
            have h3 := hb9.lt
            refine ⟨by omega, by omega, by omega, fun a ha => ⟨(hp9 a ha).2, ?_⟩⟩
            obtain ⟨b, oo, h4, h5⟩ := hr9.ptr (by
              rw [ints_length]
              have := HGD.out.1.each _ (nthC_mem HLEN.out)
              have := good_beg this
              omega)
            rw [ha] at h4
            cases h4
            have h5 : b < w7.heap.size := h5
            show b ≠ B9
            omega⟩)
          have HC9 := Lib.hid hb9.cap
          clear hr9 hb9 hg9 hp9 hk hbx hkx hsx e0 e1
          go_upto_region 10 with fail
          rw [← hW9, ← hB9]
          clear hW9 hB9
          go_wp2_with fail
          go_loopw [10] (fun v10 wr => ∃ i : Nat, v10 = .int .i64 i ∧ i ≤ cs.length ∧ WidAt ks cs w6 wr B9 pk9 ck9 g9 cap9 (scaleN i cs) ∧ ∀ j, j < i → (nthC cs j).beg < 1048576 ∧ (nthC cs j).till < 1048576) (fun v _ => cs.length - (intOf v).toNat)
          case atStart => exact ⟨0, rfl, Nat.zero_le _, HAT.out, fun j h => absurd h (Nat.not_lt_zero _)⟩
          case round =>
            clear HAT
            obtain ⟨i, rfl, hi, hat, hbig⟩ := hrel
            have HBIG := Lib.hid hbig
            clear hbig
            have HAT := Lib.hid hat
            obtain ⟨b0, b1, -⟩ := blk2 hat.box
            by_cases hlt : i < cs.length
            · have hlti : (i : Int) < cs.length := by omega
              have hi0 : (0 : Int) ≤ i := by omega
              have hWi : IntKind.i64.wrap ((i : Int) + 1) = (i : Int) + 1 := IntWalk.i64_in _ (by omega)
              have hnk : nthC (scaleN i cs) i = nthC cs i := by rw [scaleN_nth hlt, if_neg (Nat.lt_irrefl i)]
              have hsl := scaleN_len i cs
              have hgd := HGD.out.1.each _ (nthC_mem hlt)
              have hgb := good_beg hgd
              obtain ⟨cl, hcl⟩ : ∃ cl, nthC cs i = cl := ⟨_, rfl⟩
              rw [hcl] at hnk hgb hgd
              have x4 := (hat.row.cell (i := i) (t := 4) (v := .int .i64 cl.beg) (by omega) (by decide) (by rw [hnk]; rfl)).1
              have x5 := (hat.row.cell (i := i) (t := 5) (v := .int .i64 cl.till) (by omega) (by decide) (by rw [hnk]; rfl)).1
              have f4 := (hat.row.cell (i := i) (t := 4) (v := .int .i64 cl.beg) (by omega) (by decide) (by rw [hnk]; rfl)).2
              have hbeg := hgb.2.2.2.2.2
              have HNK := Lib.hid hnk; have HCL := Lib.hid hcl; have HSL := Lib.hid hsl
              clear hat hnk hsl hgd hgb hcl
              by_cases h1 : cl.beg < 1048576
              · by_cases h2 : cl.till < 1048576
                · have hW4 : IntKind.i64.wrap (64 * cl.beg) = 64 * cl.beg := IntWalk.i64_in _ (by omega)
                  have HBG1 := Lib.hid (show ∀ j, j < i + 1 → (nthC cs j).beg < 1048576 ∧ (nthC cs j).till < 1048576 from fun j hj => by
                    by_cases e : j = i
                    · rw [e, HCL.out]; exact ⟨h1, h2⟩
                    · exact HBIG.out j (by omega))
                  go_upto_region 14 with fail
                  go_still_tail 12, (by kernel_rfl)
                  go_upto_region 15 with fail
                  have HAT1 := Lib.hid ((HAT.out.put (i := i) (t := 4) (v := .int .i64 (64 * cl.beg)) (c := { cl with beg := 64 * cl.beg }) (by rw [HSL.out]; exact hlt) (by decide) (by rw [HNK.out]; rfl)).stay (KeepBut.drew _ _))
                  obtain ⟨W14, hW14⟩ : ∃ W, (wr.setCell ⟨g9, i * 8 + 4, none⟩ (.int .i64 (64 * cl.beg))).drew = W := ⟨_, rfl⟩
                  rw [hW14] at HAT1 ⊢
                  clear hW14 b0 b1 x4 x5 f4
                  have hn1 : nthC ((scaleN i cs).set i { cl with beg := 64 * cl.beg }) i = { cl with beg := 64 * cl.beg } := by rw [nthC_put (by rw [HSL.out]; exact hlt), if_pos rfl]
                  obtain ⟨b0, b1, -⟩ := blk2 HAT1.out.box
                  have hl1 : i < ((scaleN i cs).set i { cl with beg := 64 * cl.beg }).length := by rw [List.length_set, HSL.out]; exact hlt
                  have x5 := (HAT1.out.row.cell (i := i) (t := 5) (v := .int .i64 cl.till) hl1 (by decide) (by rw [hn1]; rfl)).1
                  have f5 := (HAT1.out.row.cell (i := i) (t := 5) (v := .int .i64 cl.till) hl1 (by decide) (by rw [hn1]; rfl)).2
                  have HN1 := Lib.hid hn1; have HL1 := Lib.hid hl1
                  clear hn1 hl1
                  by_cases h3 : 0 ≤ cl.till
                  · have hW5 : IntKind.i64.wrap (64 * cl.till) = 64 * cl.till := IntWalk.i64_in _ (by omega)
                    have H3 := Lib.hid h3
                    go_upto_region 16 with fail
                    go_still_tail 12, (by kernel_rfl)
                    go_wp2_with fail
                    refine ⟨⟨i + 1, by simp, by omega, ?_, HBG1.out⟩, by simp only [intOf]; omega⟩
                    have h9 := (HAT1.out.put (i := i) (t := 5) (v := .int .i64 (64 * cl.till)) (c := scaleC cl) HL1.out (by decide) (by rw [HN1.out]; unfold scaleC; rw [if_pos H3.out]; rfl)).stay (KeepBut.drew _ _)
                    rw [List.set_set, ← HCL.out, scaleN_succ hlt] at h9
                    rw [← HCL.out]
                    exact h9
                  · have h3b : decide (0 ≤ cl.till) = false := decide_eq_false h3
                    have H3 := Lib.hid h3
                    go_wp2_with fail
                    refine ⟨⟨i + 1, by simp, by omega, ?_, HBG1.out⟩, by simp only [intOf]; omega⟩
                    have h9 := HAT1.out
                    have e : ({ cl with beg := 64 * cl.beg } : Cl) = scaleC cl := by unfold scaleC; rw [if_neg H3.out]
                    rw [e, ← HCL.out, scaleN_succ hlt] at h9
                    exact h9
                · have h2b : decide (cl.till < 1048576) = false := decide_eq_false h2
                  go_wp2_with fail
                  go_ret
                  exact ⟨rfl, HK.out.trans (HK6.out.trans HAT.out.keep)⟩
              · have h1b : decide (cl.beg < 1048576) = false := decide_eq_false h1
                go_wp2_with fail
                go_ret
                exact ⟨rfl, HK.out.trans (HK6.out.trans HAT.out.keep)⟩
            · have hnl : ¬ (i : Int) < cs.length := by omega
              obtain ⟨wo, hwo⟩ : ∃ wo : World, wo = wr := ⟨_, rfl⟩
              subst hwo
              have e : i = cs.length := by omega
              rw [e] at hat
              have HAT := Lib.hid hat
              have hsl := scaleN_len cs.length cs
              have hnlt := HNL.out
              have hni : (n : Int) < cs.length := by omega
              have hn0 : (0 : Int) ≤ n := by omega
              obtain ⟨cn, hcn⟩ : ∃ cn, nthC cs n = cn := ⟨_, rfl⟩
              have hns : nthC (scaleN cs.length cs) n = scaleC cn := by rw [scaleN_nth hnlt, if_pos hnlt, hcn]
              obtain ⟨cur, hcur, hcsz, -⟩ := hat.row.blk
              have hc4 : cur[n * 8 + 4]? = some (.int .i64 (64 * cn.beg)) := by
                have h9 := (hat.row.cell (i := n) (t := 4) (v := .int .i64 (64 * cn.beg)) (by omega) (by decide) (by rw [hns]; rfl)).1
                unfold World.cell? at h9
                rw [hcur] at h9
                simpa using h9
              have hp1 := pick_range (k := x2) (n := 500) (by decide)
              have hp2 := pick_range (k := x2) (n := 700) (by decide)
              have HPK5 := fun W => pick_any W x2 500 (by decide) (by decide)
              have HPK7 := fun W => pick_any W x2 700 (by decide) (by decide)
              obtain ⟨p1, hp1e⟩ : ∃ p, pick x2 500 = p := ⟨_, rfl⟩
              obtain ⟨p2, hp2e⟩ : ∃ p, pick x2 700 = p := ⟨_, rfl⟩
              rw [hp1e] at hp1 HPK5; rw [hp2e] at hp2 HPK7
              have HPK5 := Lib.hid HPK5; have HPK7 := Lib.hid HPK7
              have HCUR := Lib.hid hcur; have HC4 := Lib.hid hc4; have HNS := Lib.hid hns; have HCN := Lib.hid hcn; have HSL := Lib.hid hsl
              have hcap := hat.row.cap
              clear hat hcur hc4 hns hcn hsl hp1e hp2e e
              go_upto_region 19 with fail
              clear b0 b1
              have hbn := HBIG.out n (by omega)
              rw [HCN.out] at hbn
              have hgn := good_beg (HGD.out.1.each _ (nthC_mem hnlt))
              rw [HCN.out] at hgn
              have hb0 := hgn.2.2.2.2.2
              have hsub : IntKind.i64.wrap (64 * cn.beg - p1) = 64 * cn.beg - p1 := IntWalk.i64_in _ (by omega)
              refine wp_own1 (by kernel_rfl) g9 _ HCUR.out (fun i => [[], [], [1], [1, 2], [1, 2, 3], [], [5], [1, 2, 3, 4, 5, 6], [1, 2, 3, 4, 5, 6, 7], [0, 1, 2, 3, 4, 5, 6, 7, 8], [0, 1, 2, 3, 4, 5, 6, 7, 8, 9], [0, 1, 2, 3, 4, 5, 6, 7, 8, 9, 10]].getD i []) (fun i => if i = 4 then [12] else if i = 11 then [12] else []) (fun i => if i = 11 then [12] else []) [11] (by kernel_rfl)
                (fun i => if i = 4 then some (sConst (.int .i64 (64 * cn.beg))) else if i = 6 then some (sConst (.int .i64 p1)) else if i = 11 then some (sCellA g9 (n * 8 + 4) TCl cur) else none) ?_
              apply lex_quiet rfl rfl
              · intro w' hk; go_simp; with_reducible rfl
              simp only [Act.put, List.setIfInBounds_toArray, List.set_cons_zero, List.set_cons_succ]
              apply lex_quiet rfl rfl
              · intro w' hk; go_simp; with_reducible rfl
              simp only [Act.put, List.setIfInBounds_toArray, List.set_cons_zero, List.set_cons_succ]
              apply lex_quiet rfl rfl
              · intro w' hk; go_simp; with_reducible rfl
              simp only [Act.put, List.setIfInBounds_toArray, List.set_cons_zero, List.set_cons_succ]
              apply lex_quiet rfl rfl
              · intro w' hk; go_simp; with_reducible rfl
              simp only [Act.put, List.setIfInBounds_toArray, List.set_cons_zero, List.set_cons_succ]
              refine lex_loud rfl rfl (loud_run ⟨default, trivial⟩ (fun g _ w w' _ _ _ _ _ => trivial) fun w' hk hav _ => by
                have hx : w'.cell? ⟨g9, n * 8 + 4, none⟩ = some (.int .i64 (64 * cn.beg)) := blk_cell (show w'.heap[g9]? = some (.cells cur TCl (0, 0)) from (hav 12 (by decide)).1) HC4.out
                exact ⟨w', default, trivial, .inl (by go_simp <;> rfl), KeepBut.refl _ _, fun b h => h.elim, trivial⟩) fun _ _ => ?_
              simp only [sConst, Act.put, List.setIfInBounds_toArray, List.set_cons_zero, List.set_cons_succ]
              apply lex_quiet rfl rfl
              · intro w' hk; go_simp; with_reducible rfl
              simp only [Act.put, List.setIfInBounds_toArray, List.set_cons_zero, List.set_cons_succ]
              refine lex_loud rfl rfl (loud_call 14 #[.int .i64 x2, .int .i64 500] (fun w => by kernel_rfl) ⟨default, trivial⟩ (fun g _ => stable_true _) fun w' hk _ _ => (HPK5.out w').mono ?_) fun g6 _ => ?_
              · rintro e w'' ⟨rfl, rfl⟩
                exact ⟨default, trivial, rfl, KeepBut.refl _ _, fun b h => h.elim, trivial⟩
              simp only [sConst, Act.put, List.setIfInBounds_toArray, List.set_cons_zero, List.set_cons_succ]
              apply lex_quiet rfl rfl
              · intro w' hk; go_simp; with_reducible rfl
              simp only [Act.put, List.setIfInBounds_toArray, List.set_cons_zero, List.set_cons_succ]
              apply lex_quiet rfl rfl
              · intro w' hk; go_simp; with_reducible rfl
              simp only [Act.put, List.setIfInBounds_toArray, List.set_cons_zero, List.set_cons_succ]
              apply lex_quiet rfl rfl
              · intro w' hk; go_simp; with_reducible rfl
              simp only [Act.put, List.setIfInBounds_toArray, List.set_cons_zero, List.set_cons_succ]
              apply lex_quiet rfl rfl
              · intro w' hk; go_simp; with_reducible rfl
              simp only [Act.put, List.setIfInBounds_toArray, List.set_cons_zero, List.set_cons_succ]
              refine lex_loud rfl rfl (loud_cellA g9 (n * 8 + 4) TCl cur (.int .i64 (max 0 (64 * cn.beg - p1))) (put_args rfl rfl) (fun w u hc hf => by go_simp <;> rfl) 12 (by decide) (by decide) (fun w h => h) ⟨rfl, rfl⟩ (by have h9 := hcap; rw [HSL.out] at h9; omega)) fun g11 _ => ?_
              simp only [sCellA, Act.put]
              refine lex_nil ?_
              intro w19 hk19 hF _
              have f11 : w19.heap[g9]? = some (.cells (cur.setIfInBounds (n * 8 + 4) (.int .i64 (max 0 (64 * cn.beg - p1)))) TCl (0, 0)) := (hF 11 (by decide)).1.trans (by rw [put_args rfl rfl]; rfl)
              have HAT19 := Lib.hid (HAT.out.own (i := n) (t := 4) (v := .int .i64 (max 0 (64 * cn.beg - p1))) (c := { scaleC cn with beg := max 0 (64 * cn.beg - p1) }) (by rw [HSL.out]; exact hnlt) (by decide) (by rw [HNS.out]; rfl) ((KeepBut.drew _ wo).trans hk19) (by rw [f11]; exact (put1 HCUR.out _).symm))
              clear hk19 hF f11
              obtain ⟨b0, b1, -⟩ := blk2 HAT19.out.box
              have hn1 : nthC ((scaleN cs.length cs).set n { scaleC cn with beg := max 0 (64 * cn.beg - p1) }) n = { scaleC cn with beg := max 0 (64 * cn.beg - p1) } := by rw [nthC_put (by rw [HSL.out]; exact hnlt), if_pos rfl]
              have hl1 : n < ((scaleN cs.length cs).set n { scaleC cn with beg := max 0 (64 * cn.beg - p1) }).length := by rw [List.length_set, HSL.out]; exact hnlt
              obtain ⟨ct, hct⟩ : ∃ t, (scaleC cn).till = t := ⟨_, rfl⟩
              have x5 := (HAT19.out.row.cell (i := n) (t := 5) (v := .int .i64 ct) hl1 (by decide) (by rw [hn1, ← hct]; rfl)).1
              have HCT := Lib.hid hct; have HN1 := Lib.hid hn1; have HL1 := Lib.hid hl1
              clear hn1 hl1 hct b0 b1
              go_upto_if 127 with fail
              obtain ⟨tb, htb⟩ : ∃ tb, decide (0 ≤ ct) = tb := ⟨_, rfl⟩
              have HTBB := Lib.hid htb
              have HC19 := Lib.hid (show True from trivial)
              clear x5 htb
              go_cut [127] from 127 to 137 (fun v127 wx => WidAt ks cs w6 wx B9 pk9 ck9 g9 cap9 (wideH n p1 p2 cs))
              case first =>
                cases tb with
                | true =>
                  have h0 : 0 ≤ ct := of_decide_eq_true HTBB.out
                  have h0b : decide (0 ≤ ct) = true := HTBB.out
                  have x5 := (HAT19.out.row.cell (i := n) (t := 5) (v := .int .i64 ct) HL1.out (by decide) (by rw [HN1.out, ← HCT.out]; rfl)).1
                  obtain ⟨cur2, hcur2, hcsz2, -⟩ := HAT19.out.row.blk
                  have hc5 : cur2[n * 8 + 5]? = some (.int .i64 ct) := by
                    have h9 := x5
                    unfold World.cell? at h9
                    rw [hcur2] at h9
                    simpa using h9
                  have hct2 : ct = 64 * cn.till ∧ 0 ≤ cn.till := by
                    have h9 := HCT.out
                    unfold scaleC at h9
                    dsimp only at h9
                    split at h9
                    · exact ⟨h9.symm, by assumption⟩
                    · omega
                  have hadd : IntKind.i64.wrap (ct + p2) = ct + p2 := IntWalk.i64_in _ (by omega)
                  have HCUR2 := Lib.hid hcur2; have HC5 := Lib.hid hc5; have HCT2 := Lib.hid hct2
                  clear hcur2 hc5 hct2
                  go_upto_region 21 with fail
                  clear x5
                  refine wp_own1 (by kernel_rfl) g9 _ HCUR2.out (fun i => [[], [], [1], [1, 2], [1, 2, 3], [], [5], [1, 2, 3, 4, 5, 6], [0, 1, 2, 3, 4, 5, 6, 7], [0, 1, 2, 3, 4, 5, 6, 7, 8], [0, 1, 2, 3, 4, 5, 6, 7, 8, 9]].getD i []) (fun i => if i = 4 then [11] else if i = 10 then [11] else []) (fun i => if i = 10 then [11] else []) [10] (by kernel_rfl)
                    (fun i => if i = 4 then some (sConst (.int .i64 ct)) else if i = 6 then some (sConst (.int .i64 p2)) else if i = 10 then some (sCellA g9 (n * 8 + 5) TCl cur2) else none) ?_
                  apply lex_quiet rfl rfl
                  · intro w' hk; go_simp; with_reducible rfl
                  simp only [Act.put, List.setIfInBounds_toArray, List.set_cons_zero, List.set_cons_succ]
                  apply lex_quiet rfl rfl
                  · intro w' hk; go_simp; with_reducible rfl
                  simp only [Act.put, List.setIfInBounds_toArray, List.set_cons_zero, List.set_cons_succ]
                  apply lex_quiet rfl rfl
                  · intro w' hk; go_simp; with_reducible rfl
                  simp only [Act.put, List.setIfInBounds_toArray, List.set_cons_zero, List.set_cons_succ]
                  apply lex_quiet rfl rfl
                  · intro w' hk; go_simp; with_reducible rfl
                  simp only [Act.put, List.setIfInBounds_toArray, List.set_cons_zero, List.set_cons_succ]
                  refine lex_loud rfl rfl (loud_run ⟨default, trivial⟩ (fun g _ w w' _ _ _ _ _ => trivial) fun w' hk hav _ => by
                    have hx : w'.cell? ⟨g9, n * 8 + 5, none⟩ = some (.int .i64 ct) := blk_cell (show w'.heap[g9]? = some (.cells cur2 TCl (0, 0)) from (hav 11 (by decide)).1) HC5.out
                    exact ⟨w', default, trivial, .inl (by go_simp <;> rfl), KeepBut.refl _ _, fun b h => h.elim, trivial⟩) fun _ _ => ?_
                  simp only [sConst, Act.put, List.setIfInBounds_toArray, List.set_cons_zero, List.set_cons_succ]
                  apply lex_quiet rfl rfl
                  · intro w' hk; go_simp; with_reducible rfl
                  simp only [Act.put, List.setIfInBounds_toArray, List.set_cons_zero, List.set_cons_succ]
                  refine lex_loud rfl rfl (loud_call 14 #[.int .i64 x2, .int .i64 700] (fun w => by kernel_rfl) ⟨default, trivial⟩ (fun g _ => stable_true _) fun w' hk _ _ => (HPK7.out w').mono ?_) fun g6 _ => ?_
                  · rintro e w'' ⟨rfl, rfl⟩
                    exact ⟨default, trivial, rfl, KeepBut.refl _ _, fun b h => h.elim, trivial⟩
                  simp only [sConst, Act.put, List.setIfInBounds_toArray, List.set_cons_zero, List.set_cons_succ]
                  apply lex_quiet rfl rfl
                  · intro w' hk; go_simp; with_reducible rfl
                  simp only [Act.put, List.setIfInBounds_toArray, List.set_cons_zero, List.set_cons_succ]
                  apply lex_quiet rfl rfl
                  · intro w' hk; go_simp; with_reducible rfl
                  simp only [Act.put, List.setIfInBounds_toArray, List.set_cons_zero, List.set_cons_succ]
                  apply lex_quiet rfl rfl
                  · intro w' hk; go_simp; with_reducible rfl
                  simp only [Act.put, List.setIfInBounds_toArray, List.set_cons_zero, List.set_cons_succ]
                  refine lex_loud rfl rfl (loud_cellA g9 (n * 8 + 5) TCl cur2 (.int .i64 (ct + p2)) (put_args rfl rfl) (fun w u hc hf => by go_simp <;> rfl) 11 (by decide) (by decide) (fun w h => h) ⟨rfl, rfl⟩ (by have h9 := hcap; rw [HSL.out] at h9; omega)) fun g10 _ => ?_
                  simp only [sCellA, Act.put]
                  refine lex_nil ?_
                  intro w21 hk21 hF _
                  have f10 : w21.heap[g9]? = some (.cells (cur2.setIfInBounds (n * 8 + 5) (.int .i64 (ct + p2))) TCl (0, 0)) := (hF 10 (by decide)).1.trans (by rw [put_args rfl rfl]; rfl)
                  have HAT21 := Lib.hid (show WidAt ks cs w6 w21 B9 pk9 ck9 g9 cap9 (wideH n p1 p2 cs) by
                    have h9 := HAT19.out.own (i := n) (t := 5) (v := .int .i64 (ct + p2)) (c := wideC n p1 p2 n cn) HL1.out (by decide) (by
                      rw [HN1.out]
                      have h1 := HCT2.out
                      unfold wideC
                      rw [if_pos rfl, if_pos rfl, if_pos h1.2, ← h1.1]
                      rfl) ((KeepBut.drew _ w19).trans hk21) (by rw [f10]; exact (put1 HCUR2.out _).symm)
                    rw [List.set_set, ← HCN.out, wide_eq hnlt] at h9
                    exact h9)
                  clear hk21 hF f10
                  go_wp2_with fail
                  go_meet
                  case rel => exact HAT21.out
                | false =>
                  have h0 : ¬ 0 ≤ ct := of_decide_eq_false HTBB.out
                  have h0b : decide (0 ≤ ct) = false := HTBB.out
                  have HAT21 := Lib.hid (show WidAt ks cs w6 w19 B9 pk9 ck9 g9 cap9 (wideH n p1 p2 cs) by
                    have h9 := HAT19.out
                    have e : ({ scaleC cn with beg := max 0 (64 * cn.beg - p1) } : Cl) = wideC n p1 p2 n cn := by
                      have h1 := HCT.out
                      unfold scaleC at h1
                      dsimp only at h1
                      unfold scaleC wideC
                      rw [if_pos rfl, if_pos rfl]
                      split at h1
                      · omega
                      · rename_i h2
                        rw [if_neg h2, if_neg h2]
                    rw [e, ← HCN.out, wide_eq hnlt] at h9
                    exact h9)
                  go_wp2_with fail
                  go_meet
                  case rel => exact HAT21.out
              case rest =>
                obtain ⟨wd, hwd⟩ : ∃ wd : World, wd = wc := ⟨_, rfl⟩
                subst hwd
                have HW22 := Lib.hid hcut
                have hgl := wideH_len n p1 p2 cs
                have HIG := Lib.hid (show HistIn wd pk9 (some ⟨g9, 0, none⟩) ks (wideH n p1 p2 cs) from ⟨hcut.rdk, hcut.row.rowC, HKS8.out, by omega, HI.out.kin, fun c hc => by
                  obtain ⟨k, hk, rfl⟩ := List.mem_map.1 hc
                  exact argsIn_nth HI.out.args k, (HI.out.stay (HK6.out.trans hcut.keep)).tab, (HI.out.stay (HK6.out.trans hcut.keep)).bit⟩)
                have HWALL := Lib.hid (fun h => wide_all (n := n) (p1 := p1) (p2 := p2) hp1.1 hp2.1 HGD.out.1 HGD.out.2 HORB.out.2 h)
                obtain ⟨gs, hgs⟩ : ∃ gs, wideH n p1 p2 cs = gs := ⟨_, rfl⟩
                rw [hgs] at hgl HIG HWALL
                have HBX := Lib.hid hcut.box
                have HRDW := Lib.hid (show ∀ W, KeepBut (fun _ => False) wd W → Rd W q (ints (natI o)) from fun W h => HRD.out.stay (hcut.keep.trans h))
                have HOL := Lib.hid (show o.length ≤ 24 by
                  have h9 := ord_of o HGD.out.2 HORB.out.2
                  have := nodup_le cs.length o h9.nodup h9.lt
                  have := HGD.out.2
                  omega)
                have HCG := fun W (h : HistIn W pk9 (some ⟨g9, 0, none⟩) ks gs) => chkH_any W pk9 (some ⟨g9, 0, none⟩) ck9 cap9 ks gs h.rd h.calls (by have := HKS8.out; omega) (by omega)
                have HWG := fun W (h : HistIn W pk9 (some ⟨g9, 0, none⟩) ks gs) => wide_any W pk9 (some ⟨g9, 0, none⟩) ck9 cap9 ks gs h.calls h.c60
                have HLG := fun W (h : HistIn W pk9 (some ⟨g9, 0, none⟩) ks gs) => linear_any W pk9 (some ⟨g9, 0, none⟩) ck9 cap9 ks gs h
                have HAG := fun W (h : HistIn W pk9 (some ⟨g9, 0, none⟩) ks gs) (hr : Rd W q (ints (natI o))) => allowed_any W pk9 (some ⟨g9, 0, none⟩) ck9 cap9 ks gs h q c (natI o) hr (by rw [natI_length]; have := HOL.out; omega)
                obtain ⟨cg, hcg⟩ : ∃ cg, chkH ks gs = cg := ⟨_, rfl⟩
                rw [hcg] at HCG
                unfold histV at HCG HWG HLG HAG
                rw [hgl] at HCG HWG HLG HAG
                rw [natI_length] at HAG
                have HCG := Lib.hid HCG; have HWG := Lib.hid HWG; have HLG := Lib.hid HLG; have HAG := Lib.hid HAG; have HCGE := Lib.hid hcg
                clear HAT19 HTBB hgs hcg hgl hcut
                obtain ⟨b0, b1, -⟩ := blk2 HBX.out
                go_upto_region 22 with fail
                go_cut [156] from 138 to 156 (fun v156 wx => v156 = .bool false ∧ KeepBut (fun _ => False) wd wx)
                case first =>
                  by_cases hz : cg = 0
                  · have hzb : (cg == 0) = true := by simp [hz]
                    have HZ := Lib.hid hz
                    clear hz
                    go_wp2_with fail
                    go_at_call 11
                    refine (HCG.out wd HIG.out).mono ?_
                    rintro e w23 ⟨rfl, hk⟩
                    have HK23 := Lib.hid hk
                    clear hk b0 b1
                    obtain ⟨b0, b1, -⟩ := blk2 (HK23.out.blk HBX.out)
                    go_wp2_with fail
                    go_at_call 12
                    refine (HWG.out w23 (HIG.out.stay HK23.out)).mono ?_
                    rintro e w24 ⟨z, rfl, hk⟩
                    have HK24 := Lib.hid (HK23.out.trans hk)
                    clear hk b0 b1
                    obtain ⟨b0, b1, -⟩ := blk2 (HK24.out.blk HBX.out)
                    by_cases hz9 : z ≤ 9
                    · have hz9b : decide (z ≤ 9) = true := decide_eq_true hz9
                      obtain ⟨hwl, hwo⟩ := HWALL.out (HCGE.out.trans HZ.out)
                      have HWL := Lib.hid hwl; have HWO := Lib.hid hwo
                      clear hwl hwo
                      go_wp2_with fail
                      go_at_call 13
                      refine (HLG.out w24 (HIG.out.stay HK24.out)).mono ?_
                      rintro e w25 ⟨lv, rfl, hlv, hk⟩
                      have hlv2 : lv = true := hlv.2 HWL.out
                      have HK25 := Lib.hid (HK24.out.trans hk)
                      clear hk b0 b1 hlv
                      subst hlv2
                      obtain ⟨b0, b1, -⟩ := blk2 (HK25.out.blk HBX.out)
                      go_wp2_with fail
                      go_at_call 19
                      refine (HAG.out w25 (HIG.out.stay HK25.out) (HRDW.out w25 HK25.out)).mono ?_
                      rintro e w26 ⟨av, rfl, hav, hk⟩
                      have hav2 : av = true := hav.2 ⟨HCGE.out.trans HZ.out, o, rfl, HWO.out⟩
                      have HK26 := Lib.hid (HK25.out.trans hk)
                      clear hk b0 b1 hav
                      subst hav2
                      go_wp2_with fail
                      go_meet
                      case rel => exact ⟨rfl, HK26.out⟩
                    · have hz9b : decide (z ≤ 9) = false := decide_eq_false hz9
                      go_wp2_with fail
                      go_meet
                      case rel => exact ⟨rfl, HK24.out⟩
                  · have hzb : (cg == 0) = false := by simpa using hz
                    clear hz
                    go_wp2_with fail
                    go_at_call 11
                    refine (HCG.out wd HIG.out).mono ?_
                    rintro e w23 ⟨rfl, hk⟩
                    have HK23 := Lib.hid hk
                    clear hk b0 b1
                    go_wp2_with fail
                    go_meet
                    case rel => exact ⟨rfl, HK23.out⟩
                case rest =>
                  obtain ⟨rfl, hkc⟩ := hcut
                  have HKC := Lib.hid (show KeepBut (fun _ => False) w6 wc from HW22.out.keep.trans hkc)
                  clear hkc
                  obtain ⟨VM, NM, hVM, hNM, hbm, hkm, hsm⟩ := fresh_block wc (.map #[] 0)
                  have hmm : MapI .i64 VM NM [] := by rw [hVM, hNM]; exact MapI.made _ wc
                  have hmk : (Instr.makeMap 42 none).run Tryd.prog wc = .ok (.map (some NM)) VM := by rw [hVM, hNM]; exact run_makeMap _ wc
                  have HMM := Lib.hid hmm; have HKM := Lib.hid hkm
                  have HNM := Lib.hid (show wc.heap.size ≤ NM by omega)
                  have HVMS := Lib.hid (show VM.heap.size = NM + 1 from hsm)
                  have hol24 := HOL.out
                  clear hmm hkm hbm hsm b0 b1
                  clear hVM hNM
                  go_upto_region 25 with fail
                  clear hmk
                  go_wp2_with fail
                  go_loopw [13] (fun v13 wr => ∃ (j : Nat) (m : List (Int × Value)) (T : Int → Bool), v13 = .int .i64 j ∧ j ≤ o.length ∧ MapI .i64 wr NM m ∧ Times m T ∧ (∀ k : Nat, T k = (o.take j).contains k) ∧ KeepBut (fun _ => False) wc wr) (fun v _ => o.length - (intOf v).toNat)
                  case atStart => exact ⟨0, [], fun _ => false, rfl, Nat.zero_le _, HMM.out, fun t => rfl, fun k => rfl, HKM.out⟩
                  case round =>
                    obtain ⟨j, m, T, rfl, hj, hmp, hti, hT, hkr⟩ := hrel
                    have HMP := Lib.hid hmp; have HTI := Lib.hid hti; have HTT := Lib.hid hT; have HKR := Lib.hid hkr
                    by_cases hjl : j < o.length
                    · have hjli : (j : Int) < o.length := by omega
                      have hj0 : (0 : Int) ≤ j := by omega
                      have hWj : IntKind.i64.wrap ((j : Int) + 1) = (j : Int) + 1 := IntWalk.i64_in _ (by omega)
                      have hrj := HRD.out.stay (HKC.out.trans hkr)
                      obtain ⟨b, oo, hp, -⟩ := hrj.ptr (by rw [ints_length, natI_length]; omega)
                      subst hp
                      have hc := hrj.int j (by rw [natI_length]; exact hjl)
                      obtain ⟨om, hom⟩ : ∃ om : Nat, o[j] = om := ⟨_, rfl⟩
                      have hno : nth (natI o) j = om := by
                        rw [nth_eq (by rw [natI_length]; exact hjl)]
                        simp [natI, hom]
                      rw [hno] at hc
                      have HOM := Lib.hid hom
                      clear hrj hmp hti hT hkr hom hno
                      go_wp2_with (refine wpList_put_map _ _ _ 42 3 3 om rfl (.inr rfl) rfl rfl Tryd.underlying42 Tryd.underlying3 HMP.out ?_; intro w27 hm27 hk27; have HM27 := Lib.hid hm27; have HK27 := Lib.hid hk27; clear hm27 hk27)
                      exact ⟨⟨j + 1, _, updT T om, by simp, by omega, HM27.out, HTI.out.set HMP.out.nodup om, fun k => by
                        unfold updT
                        rw [List.take_succ_eq_append_getElem hjl, HOM.out, HTT.out k]
                        by_cases e : k = om
                        · subst e; simp
                        · have : ¬ ((k : Int) = om) := by omega
                          simp [this, e], HKR.out.new HK27.out fun b e => by have e : b = NM := e; have := HNM.out; omega⟩, by simp only [intOf]; omega⟩
                    · have hjn : ¬ (j : Int) < o.length := by omega
                      obtain ⟨wm, hwm⟩ : ∃ wm : World, wm = wr := ⟨_, rfl⟩
                      subst hwm
                      have HTT2 := Lib.hid (show ∀ k : Nat, T k = o.contains k from fun k => by
                        have h9 := HTT.out k
                        rwa [List.take_of_length_le (by omega)] at h9)
                      have HKW := Lib.hid (show KeepBut (fun _ => False) V wm from HK6.out.trans (HKC.out.trans hkr))
                      obtain ⟨b0, b1, -⟩ := blk2 (HKW.out.blk HBB.out)
                      have hIW := HI.out.stay HKW.out
                      have HOWN := Lib.hid (ownInt_any wm pk ck ks hIW.rd (by have := HKS8.out; omega))
                      clear hmp hti hT hkr hIW
                      go_wp2_with fail
                      go_at_call 15
                      refine HOWN.out.mono ?_
                      rintro e w29 ⟨pk', ck', rfl, hown, hk⟩
                      obtain ⟨W14, B14, hW14, hB14, hb14, hk14, hs14⟩ := fresh_block w29 (.cells #[.slice pk' ks.length ck', .slice none 0 0] THi)
                      have HLA := Lib.hid (show LessAt ks cs o V W14 NM B14 pk' ck' m (.slice none 0 0) 0 from ⟨hb14, World.ownsRow_nil _ _ _ _, (HMP.out.stay hk).stay hk14, (HKW.out.trans hk).trans hk14, hown.rd.stay hk14, by
                        have h1 := (HKW.out.trans hk).size
                        have h2 : NM < wm.heap.size := by
                          obtain ⟨x, hx, -⟩ := HMP.out.obj
                          exact (Array.getElem?_eq_some_iff.1 hx).1
                        have h3 := hk.size
                        exact ⟨by omega, by omega, fun a ha => by have := (hown.lt a ha).2; omega⟩⟩)
                      clear hown hk hb14 hk14 hs14 b0 b1
                      go_upto_region 30 with fail
                      rw [← hW14, ← hB14]
                      clear hW14 hB14
                      go_wp2_with fail
                      go_loopw [15] (fun v15 wr => ∃ (i : Nat) (v : Value), v15 = .int .i64 i ∧ i ≤ cs.length ∧ LessAt ks cs o V wr NM B14 pk' ck' m v i) (fun v _ => cs.length - (intOf v).toNat)
                      case atStart => exact ⟨0, _, rfl, Nat.zero_le _, HLA.out⟩
                      case round =>
                        clear HLA
                        obtain ⟨i, v, rfl, hi, hla⟩ := hrel
                        by_cases hlt : i < cs.length
                        · have hlti : (i : Int) < cs.length := by omega
                          have hi0 : (0 : Int) ≤ i := by omega
                          have hWi : IntKind.i64.wrap ((i : Int) + 1) = (i : Int) + 1 := IntWalk.i64_in _ (by omega)
                          have HLA2 := Lib.hid hla
                          obtain ⟨b0, b1, -⟩ := blk2 (hla.keep.blk HBB.out)
                          obtain ⟨g, oo, hg, x0, x1, x2, x3, x4, x5, x6, x7⟩ := (HI.out.stay hla.keep).calls i hlt
                          subst hg
                          have hlk := hla.mp.look (P := Tryd.prog) (mt := 42) (kt := 3) (e := 3) Tryd.underlying42 Tryd.underlying3 i (.int .i64 0) (by kernel_rfl)
                          rw [HTI.out i, HTT2.out i] at hlk
                          clear hla
                          by_cases ht : 0 ≤ (nthC cs i).till
                          · have HLS := Lib.hid (show lessB cs o i = true by unfold lessB; rw [decide_eq_true ht]; rfl)
                            clear hlk
                            have HLB := Lib.hid (show lessN cs o (i + 1) = lessN cs o i ++ [nthC cs i] by rw [lessN_succ, if_pos HLS.out])
                            go_upto_region 34 with fail
                            clear x0 x1 x2 x3 x4 x5 x6 x7 b0 b1
                            obtain ⟨g', oo', hg', y0, y1, y2, y3, y4, y5, y6, y7⟩ := HI.out.calls i hlt
                            cases hg'
                            obtain ⟨e0, e1, -⟩ := blk2 HBB.out
                            obtain ⟨⟨hha, co, op, ar, be, ti, va, cd⟩, hcl⟩ : ∃ c, nthC cs i = c := ⟨_, rfl⟩
                            rw [hcl] at y0 y1 y2 y3 y4 y5 y6 y7
                            dsimp only at y0 y1 y2 y3 y4 y5 y6 y7
                            have HCL := Lib.hid hcl
                            have hnn1 : (lessN cs o i).length ≤ i := by
                              unfold lessN
                              rw [List.length_map]
                              exact Nat.le_trans (List.length_filter_le _ _) (Nat.le_of_eq List.length_range)
                            have hne := HLA2.out.ne
                            obtain ⟨nn, hnn⟩ : ∃ nn, (lessN cs o i).length = nn := ⟨_, rfl⟩
                            have hrow := HLA2.out.row
                            rw [hnn] at hnn1 hrow
                            have HROWn := Lib.hid hrow
                            have HBXn := Lib.hid HLA2.out.box
                            have HNN := Lib.hid hnn
                            have STM := fun (gg o2 : Nat) (u : Value) (hc : V.cell? ⟨gg, o2, none⟩ = some u) (w' : World) (hk : KeepBut (fun b => b = B14 ∨ v.ownBlock = some b) wr.drew w') => keep_cell ((KeepBut.drew _ wr).trans hk) (HLA2.out.keep.stay hc) (fun e => by
                              have h9 : gg < V.heap.size := World.block_lt_of_cell? V _ hc
                              rcases e with e | e
                              · have e : gg = B14 := e
                                omega
                              · have := (HROWn.out.lt gg e).1
                                omega)
                            have zB := STM _ _ _ e1
                            have z0 := STM _ _ _ y0; have z1 := STM _ _ _ y1; have z2 := STM _ _ _ y2; have z3 := STM _ _ _ y3
                            have z4 := STM _ _ _ y4; have z5 := STM _ _ _ y5; have z6 := STM _ _ _ y6; have z7 := STM _ _ _ y7
                            obtain ⟨i0, hi0', hz0, hz1, hz2⟩ := info_parts info_call
                            have HI0 := Lib.hid hi0'; have HZ0 := Lib.hid hz0; have HZ1 := Lib.hid hz1; have HZ2 := Lib.hid hz2
                            have HBS := Lib.hid (show B14 + 1 ≤ wr.heap.size from (Array.getElem?_eq_some_iff.1 HBXn.out).1)
                            clear hi0' hz0 hz1 hz2 hrow STM y0 y1 y2 y3 y4 y5 y6 y7 e0 e1 hcl hnn
                            refine wp_own2 (by kernel_rfl) B14 _ HBXn.out (B14 + 1) TCl 8 v nn _ HROWn.out (by omega) (fun i => [[], [0], [], [2], [], [2, 3, 4], [2, 3, 4, 5], [2, 3, 4, 5, 6], [0, 1, 2, 3, 4, 5, 6, 7], [0, 1, 2, 3, 4, 5, 6, 7, 8], [0, 1, 2, 3, 4, 5, 6, 7, 8, 9]].getD i []) (fun i => if i = 1 then [11] else if i = 8 then [12, 7] else if i = 10 then [11] else []) (fun i => if i = 8 then [12] else if i = 10 then [11] else []) [8, 10] (by kernel_rfl)
                              (fun j => if j = 1 then some (sConst v) else if j = 7 then some { val := fun _ g => .slice (some ⟨g.b, 0, none⟩) 1 1, fp := fun _ g k => k = g.b, post := fun _ g w => w.heap[g.b]? = some (.cells #[.int .i64 hha, .int .i64 co, .int .i64 op, .int .i64 ar, .int .i64 be, .int .i64 ti, .int .i64 va, .int .i64 cd] TCl (0, 0)) }
                                else if j = 8 then some (sRow (B14 + 1) TCl 8 (nn + 1) (cellsC (lessN cs o i) ++ [.int .i64 hha, .int .i64 co, .int .i64 op, .int .i64 ar, .int .i64 be, .int .i64 ti, .int .i64 va, .int .i64 cd]))
                                else if j = 10 then some (sCellA B14 1 THi #[.slice pk' ks.length ck', v]) else none) ?_
                            apply lex_quiet rfl rfl
                            · intro w' hk; go_simp; with_reducible rfl
                            simp only [Act.put, List.setIfInBounds_toArray, List.set_cons_zero, List.set_cons_succ]
                            refine lex_loud rfl rfl (loud_run ⟨default, trivial⟩ (fun g _ w w' _ _ _ _ _ => trivial) fun w' hk hav _ => by
                              have hx : w'.cell? ⟨B14, 1, none⟩ = some v := blk_cell (show w'.heap[B14]? = some (.cells #[.slice pk' ks.length ck', v] THi (0, 0)) from (hav 11 (by decide)).1) rfl
                              exact ⟨w', default, trivial, .inl (by go_simp <;> rfl), KeepBut.refl _ _, fun b h => h.elim, trivial⟩) fun _ _ => ?_
                            simp only [sConst, Act.put, List.setIfInBounds_toArray, List.set_cons_zero, List.set_cons_succ]
                            apply lex_quiet rfl rfl
                            · intro w' hk; go_simp; with_reducible rfl
                            simp only [Act.put, List.setIfInBounds_toArray, List.set_cons_zero, List.set_cons_succ]
                            apply lex_quiet rfl rfl
                            · intro w' hk; go_simp; with_reducible rfl
                            simp only [Act.put, List.setIfInBounds_toArray, List.set_cons_zero, List.set_cons_succ]
                            apply lex_quiet rfl rfl
                            · intro w' hk; go_simp; with_reducible rfl
                            simp only [Act.put, List.setIfInBounds_toArray, List.set_cons_zero, List.set_cons_succ]
                            apply lex_quiet rfl rfl
                            · intro w' hk; go_simp; with_reducible rfl
                            simp only [Act.put, List.setIfInBounds_toArray, List.set_cons_zero, List.set_cons_succ]
                            apply lex_quiet rfl rfl
                            · intro w' hk; go_simp; with_reducible rfl
                            simp only [Act.put, List.setIfInBounds_toArray, List.set_cons_zero, List.set_cons_succ]
                            refine lex_loud rfl rfl (loud_new (fun b => .slice (some ⟨b, 0, none⟩) 1 1) (.cells #[.int .i64 hha, .int .i64 co, .int .i64 op, .int .i64 ar, .int .i64 be, .int .i64 ti, .int .i64 va, .int .i64 cd] TCl) rfl (fun _ _ => rfl) (fun _ _ _ => Iff.rfl) (fun _ _ _ => Iff.rfl) (fun w => by go_simp)) fun g7 _ => ?_
                            simp only [Act.put, List.setIfInBounds_toArray, List.set_cons_zero, List.set_cons_succ]
                            refine lex_loud rfl rfl (loud_appendR (B14 + 1) TCl 23 i0 _ 8 64 calls_ty HI0.out HZ0.out HZ1.out HZ2.out rfl (by decide) (.tmp 194) (.tmp 200) rfl v nn (cellsC (lessN cs o i)) g7.b [.int .i64 hha, .int .i64 co, .int .i64 op, .int .i64 ar, .int .i64 be, .int .i64 ti, .int .i64 va, .int .i64 cd] rfl rfl rfl (fun u hu => by
                              simp only [List.mem_cons, List.not_mem_nil, or_false] at hu
                              rcases hu with rfl | rfl | rfl | rfl | rfl | rfl | rfl | rfl <;> rfl) (by unfold maxLen; omega) (by omega) HBS.out 12 (by decide) (by decide) (fun w h => h) (fun b hb => .inr ⟨rfl, hb⟩) 7 (by decide) (fun w h => h)) fun g8 _ => ?_
                            simp only [sRow, Act.put, List.setIfInBounds_toArray, List.set_cons_zero, List.set_cons_succ]
                            apply lex_quiet rfl rfl
                            · intro w' hk; go_simp; with_reducible rfl
                            simp only [Act.put, List.setIfInBounds_toArray, List.set_cons_zero, List.set_cons_succ]
                            refine lex_loud rfl rfl (loud_cellA B14 1 THi #[.slice pk' ks.length ck', v] (.slice g8.p (nn + 1) g8.c) (put_args rfl rfl) (fun w u hc hf => by go_simp <;> rfl) 11 (by decide) (by decide) (fun w h => h) (.inl ⟨rfl, rfl⟩) (by show 1 < 2; decide)) fun g10 _ => ?_
                            simp only [sCellA, Act.put]
                            refine lex_nil ?_
                            intro w17 hk17 hF _
                            have f8 : w17.ownsRow (B14 + 1) TCl 8 (.slice g8.p (nn + 1) g8.c) (nn + 1) _ := (hF 8 (by decide)).1
                            have f10 : w17.heap[B14]? = some (.cells #[.slice pk' ks.length ck', .slice g8.p (nn + 1) g8.c] THi (0, 0)) := (hF 10 (by decide)).1.trans (by rw [put_args rfl rfl]; rfl)
                            have hkM := (KeepBut.drew (fun b => b = B14 ∨ v.ownBlock = some b) wr).trans hk17
                            have hln : (lessN cs o (i + 1)).length = nn + 1 := by rw [HLB.out, List.length_append, HNN.out]; rfl
                            have HLN2 := Lib.hid (show LessAt ks cs o V w17 NM B14 pk' ck' m (.slice g8.p (nn + 1) g8.c) (i + 1) from ⟨f10, by
                                rw [hln, HLB.out, cellsC_snoc, HCL.out]; exact f8, by
                                obtain ⟨x, hx, hback⟩ := HLA2.out.mp.obj
                                exact hback w17 (keep_blk hkM hx fun e => by
                                  rcases e with e | e
                                  · have e : NM = B14 := e
                                    omega
                                  · have := (HROWn.out.lt NM e).1
                                    omega), HLA2.out.keep.new hkM fun b e => by
                                  rcases e with e | e
                                  · have e : b = B14 := e
                                    omega
                                  · have := (HROWn.out.lt b e).1
                                    omega, HLA2.out.rdk.keep hkM fun a ha e => by
                                  have h1 := hne.2.2 a ha
                                  rcases e with e | e
                                  · have e : a.block = B14 := e
                                    omega
                                  · have := (HROWn.out.lt a.block e).1
                                    omega, hne⟩)
                            clear zB z0 z1 z2 z3 z4 z5 z6 z7 hk17 hF f8 f10 hkM hln
                            go_wp2_with fail
                            exact ⟨⟨i + 1, _, by simp, by omega, HLN2.out⟩, by simp only [intOf]; omega⟩
                          · have htb : decide (0 ≤ (nthC cs i).till) = false := decide_eq_false ht
                            cases hco : o.contains i with
                            | true =>
                              rw [hco] at hlk
                              simp only [if_true, Option.getD_some] at hlk
                              have HLS := Lib.hid (show lessB cs o i = true by unfold lessB; rw [hco, Bool.or_true])
                              clear hco
                              have HLB := Lib.hid (show lessN cs o (i + 1) = lessN cs o i ++ [nthC cs i] by rw [lessN_succ, if_pos HLS.out])
                              go_upto_region 34 with fail
                              clear x0 x1 x2 x3 x4 x5 x6 x7 b0 b1
                              obtain ⟨g', oo', hg', y0, y1, y2, y3, y4, y5, y6, y7⟩ := HI.out.calls i hlt
                              cases hg'
                              obtain ⟨e0, e1, -⟩ := blk2 HBB.out
                              obtain ⟨⟨hha, co, op, ar, be, ti, va, cd⟩, hcl⟩ : ∃ c, nthC cs i = c := ⟨_, rfl⟩
                              rw [hcl] at y0 y1 y2 y3 y4 y5 y6 y7
                              dsimp only at y0 y1 y2 y3 y4 y5 y6 y7
                              have HCL := Lib.hid hcl
                              have hnn1 : (lessN cs o i).length ≤ i := by
                                unfold lessN
                                rw [List.length_map]
                                exact Nat.le_trans (List.length_filter_le _ _) (Nat.le_of_eq List.length_range)
                              have hne := HLA2.out.ne
                              obtain ⟨nn, hnn⟩ : ∃ nn, (lessN cs o i).length = nn := ⟨_, rfl⟩
                              have hrow := HLA2.out.row
                              rw [hnn] at hnn1 hrow
                              have HROWn := Lib.hid hrow
                              have HBXn := Lib.hid HLA2.out.box
                              have HNN := Lib.hid hnn
                              have STM := fun (gg o2 : Nat) (u : Value) (hc : V.cell? ⟨gg, o2, none⟩ = some u) (w' : World) (hk : KeepBut (fun b => b = B14 ∨ v.ownBlock = some b) wr.drew w') => keep_cell ((KeepBut.drew _ wr).trans hk) (HLA2.out.keep.stay hc) (fun e => by
                                have h9 : gg < V.heap.size := World.block_lt_of_cell? V _ hc
                                rcases e with e | e
                                · have e : gg = B14 := e
                                  omega
                                · have := (HROWn.out.lt gg e).1
                                  omega)
                              have zB := STM _ _ _ e1
                              have z0 := STM _ _ _ y0; have z1 := STM _ _ _ y1; have z2 := STM _ _ _ y2; have z3 := STM _ _ _ y3
                              have z4 := STM _ _ _ y4; have z5 := STM _ _ _ y5; have z6 := STM _ _ _ y6; have z7 := STM _ _ _ y7
                              obtain ⟨i0, hi0', hz0, hz1, hz2⟩ := info_parts info_call
                              have HI0 := Lib.hid hi0'; have HZ0 := Lib.hid hz0; have HZ1 := Lib.hid hz1; have HZ2 := Lib.hid hz2
                              have HBS := Lib.hid (show B14 + 1 ≤ wr.heap.size from (Array.getElem?_eq_some_iff.1 HBXn.out).1)
                              clear hi0' hz0 hz1 hz2 hrow STM y0 y1 y2 y3 y4 y5 y6 y7 e0 e1 hcl hnn
                              refine wp_own2 (by kernel_rfl) B14 _ HBXn.out (B14 + 1) TCl 8 v nn _ HROWn.out (by omega) (fun i => [[], [0], [], [2], [], [2, 3, 4], [2, 3, 4, 5], [2, 3, 4, 5, 6], [0, 1, 2, 3, 4, 5, 6, 7], [0, 1, 2, 3, 4, 5, 6, 7, 8], [0, 1, 2, 3, 4, 5, 6, 7, 8, 9]].getD i []) (fun i => if i = 1 then [11] else if i = 8 then [12, 7] else if i = 10 then [11] else []) (fun i => if i = 8 then [12] else if i = 10 then [11] else []) [8, 10] (by kernel_rfl)
                                (fun j => if j = 1 then some (sConst v) else if j = 7 then some { val := fun _ g => .slice (some ⟨g.b, 0, none⟩) 1 1, fp := fun _ g k => k = g.b, post := fun _ g w => w.heap[g.b]? = some (.cells #[.int .i64 hha, .int .i64 co, .int .i64 op, .int .i64 ar, .int .i64 be, .int .i64 ti, .int .i64 va, .int .i64 cd] TCl (0, 0)) }
                                  else if j = 8 then some (sRow (B14 + 1) TCl 8 (nn + 1) (cellsC (lessN cs o i) ++ [.int .i64 hha, .int .i64 co, .int .i64 op, .int .i64 ar, .int .i64 be, .int .i64 ti, .int .i64 va, .int .i64 cd]))
                                  else if j = 10 then some (sCellA B14 1 THi #[.slice pk' ks.length ck', v]) else none) ?_
                              apply lex_quiet rfl rfl
                              · intro w' hk; go_simp; with_reducible rfl
                              simp only [Act.put, List.setIfInBounds_toArray, List.set_cons_zero, List.set_cons_succ]
                              refine lex_loud rfl rfl (loud_run ⟨default, trivial⟩ (fun g _ w w' _ _ _ _ _ => trivial) fun w' hk hav _ => by
                                have hx : w'.cell? ⟨B14, 1, none⟩ = some v := blk_cell (show w'.heap[B14]? = some (.cells #[.slice pk' ks.length ck', v] THi (0, 0)) from (hav 11 (by decide)).1) rfl
                                exact ⟨w', default, trivial, .inl (by go_simp <;> rfl), KeepBut.refl _ _, fun b h => h.elim, trivial⟩) fun _ _ => ?_
                              simp only [sConst, Act.put, List.setIfInBounds_toArray, List.set_cons_zero, List.set_cons_succ]
                              apply lex_quiet rfl rfl
                              · intro w' hk; go_simp; with_reducible rfl
                              simp only [Act.put, List.setIfInBounds_toArray, List.set_cons_zero, List.set_cons_succ]
                              apply lex_quiet rfl rfl
                              · intro w' hk; go_simp; with_reducible rfl
                              simp only [Act.put, List.setIfInBounds_toArray, List.set_cons_zero, List.set_cons_succ]
                              apply lex_quiet rfl rfl
                              · intro w' hk; go_simp; with_reducible rfl
                              simp only [Act.put, List.setIfInBounds_toArray, List.set_cons_zero, List.set_cons_succ]
                              apply lex_quiet rfl rfl
                              · intro w' hk; go_simp; with_reducible rfl
                              simp only [Act.put, List.setIfInBounds_toArray, List.set_cons_zero, List.set_cons_succ]
                              apply lex_quiet rfl rfl
                              · intro w' hk; go_simp; with_reducible rfl
                              simp only [Act.put, List.setIfInBounds_toArray, List.set_cons_zero, List.set_cons_succ]
                              refine lex_loud rfl rfl (loud_new (fun b => .slice (some ⟨b, 0, none⟩) 1 1) (.cells #[.int .i64 hha, .int .i64 co, .int .i64 op, .int .i64 ar, .int .i64 be, .int .i64 ti, .int .i64 va, .int .i64 cd] TCl) rfl (fun _ _ => rfl) (fun _ _ _ => Iff.rfl) (fun _ _ _ => Iff.rfl) (fun w => by go_simp)) fun g7 _ => ?_
                              simp only [Act.put, List.setIfInBounds_toArray, List.set_cons_zero, List.set_cons_succ]
                              refine lex_loud rfl rfl (loud_appendR (B14 + 1) TCl 23 i0 _ 8 64 calls_ty HI0.out HZ0.out HZ1.out HZ2.out rfl (by decide) (.tmp 194) (.tmp 200) rfl v nn (cellsC (lessN cs o i)) g7.b [.int .i64 hha, .int .i64 co, .int .i64 op, .int .i64 ar, .int .i64 be, .int .i64 ti, .int .i64 va, .int .i64 cd] rfl rfl rfl (fun u hu => by
                                simp only [List.mem_cons, List.not_mem_nil, or_false] at hu
                                rcases hu with rfl | rfl | rfl | rfl | rfl | rfl | rfl | rfl <;> rfl) (by unfold maxLen; omega) (by omega) HBS.out 12 (by decide) (by decide) (fun w h => h) (fun b hb => .inr ⟨rfl, hb⟩) 7 (by decide) (fun w h => h)) fun g8 _ => ?_
                              simp only [sRow, Act.put, List.setIfInBounds_toArray, List.set_cons_zero, List.set_cons_succ]
                              apply lex_quiet rfl rfl
                              · intro w' hk; go_simp; with_reducible rfl
                              simp only [Act.put, List.setIfInBounds_toArray, List.set_cons_zero, List.set_cons_succ]
                              refine lex_loud rfl rfl (loud_cellA B14 1 THi #[.slice pk' ks.length ck', v] (.slice g8.p (nn + 1) g8.c) (put_args rfl rfl) (fun w u hc hf => by go_simp <;> rfl) 11 (by decide) (by decide) (fun w h => h) (.inl ⟨rfl, rfl⟩) (by show 1 < 2; decide)) fun g10 _ => ?_
                              simp only [sCellA, Act.put]
                              refine lex_nil ?_
                              intro w17 hk17 hF _
                              have f8 : w17.ownsRow (B14 + 1) TCl 8 (.slice g8.p (nn + 1) g8.c) (nn + 1) _ := (hF 8 (by decide)).1
                              have f10 : w17.heap[B14]? = some (.cells #[.slice pk' ks.length ck', .slice g8.p (nn + 1) g8.c] THi (0, 0)) := (hF 10 (by decide)).1.trans (by rw [put_args rfl rfl]; rfl)
                              have hkM := (KeepBut.drew (fun b => b = B14 ∨ v.ownBlock = some b) wr).trans hk17
                              have hln : (lessN cs o (i + 1)).length = nn + 1 := by rw [HLB.out, List.length_append, HNN.out]; rfl
                              have HLN2 := Lib.hid (show LessAt ks cs o V w17 NM B14 pk' ck' m (.slice g8.p (nn + 1) g8.c) (i + 1) from ⟨f10, by
                                  rw [hln, HLB.out, cellsC_snoc, HCL.out]; exact f8, by
                                  obtain ⟨x, hx, hback⟩ := HLA2.out.mp.obj
                                  exact hback w17 (keep_blk hkM hx fun e => by
                                    rcases e with e | e
                                    · have e : NM = B14 := e
                                      omega
                                    · have := (HROWn.out.lt NM e).1
                                      omega), HLA2.out.keep.new hkM fun b e => by
                                    rcases e with e | e
                                    · have e : b = B14 := e
                                      omega
                                    · have := (HROWn.out.lt b e).1
                                      omega, HLA2.out.rdk.keep hkM fun a ha e => by
                                    have h1 := hne.2.2 a ha
                                    rcases e with e | e
                                    · have e : a.block = B14 := e
                                      omega
                                    · have := (HROWn.out.lt a.block e).1
                                      omega, hne⟩)
                              clear zB z0 z1 z2 z3 z4 z5 z6 z7 hk17 hF f8 f10 hkM hln
                              go_wp2_with fail
                              exact ⟨⟨i + 1, _, by simp, by omega, HLN2.out⟩, by simp only [intOf]; omega⟩
                            | false =>
                              rw [hco] at hlk
                              simp only [Bool.false_eq_true, if_false, Option.getD_none] at hlk
                              have HLS := Lib.hid (show lessN cs o (i + 1) = lessN cs o i by rw [lessN_succ, if_neg (by unfold lessB; rw [hco, htb]; exact Bool.false_ne_true)])
                              clear hco
                              go_wp2_with fail
                              exact ⟨⟨i + 1, v, by simp, by omega, HLA2.out.box, by rw [HLS.out]; exact HLA2.out.row, HLA2.out.mp, HLA2.out.keep, HLA2.out.rdk, HLA2.out.ne⟩, by simp only [intOf]; omega⟩
                        · have hnl : ¬ (i : Int) < cs.length := by omega
                          have e : i = cs.length := by omega
                          have hrow := hla.row
                          rw [e] at hrow
                          have HG := Lib.hid (less_lin HGD.out.1 HGD.out.2 HORB.out.2)
                          have HGL := Lib.hid (show (lessN cs o cs.length).length ≤ 26 from Nat.le_trans (less_sub cs o).length_le hl26)
                          have HGA := Lib.hid (show ArgsIn (lessN cs o cs.length) from fun c hc => HI.out.args c ((less_sub cs o).mem hc))
                          obtain ⟨hs, hhs⟩ : ∃ hs, lessN cs o cs.length = hs := ⟨_, rfl⟩
                          rw [hhs] at hrow HG HGL HGA
                          obtain ⟨p, cp, hv, hrd, -⟩ := Rd.of_owns hrow
                          subst hv
                          have HIG2 := Lib.hid (show HistIn wr pk' p ks hs from ⟨hla.rdk, rowC_of_rd hrd, HKS8.out, by have := HGL.out; omega, HI.out.kin, HGA.out, (HI.out.stay hla.keep).tab, (HI.out.stay hla.keep).bit⟩)
                          have HCG2 := Lib.hid (chkH_any wr pk' p ck' cp ks hs HIG2.out.rd HIG2.out.calls (by have := HKS8.out; omega) (by have := HGL.out; omega))
                          rw [show chkH ks hs = 0 from chkH_ok.2 HG.out.1] at HCG2
                          have HLG2 := Lib.hid fun W (h : KeepBut (fun _ => False) wr W) => linear_any W pk' p ck' cp ks hs (HIG2.out.stay h)
                          obtain ⟨b0, b1, -⟩ := blk2 hla.box
                          obtain ⟨d0, d1, -⟩ := blk2 (hla.keep.blk HBB.out)
                          have HATE := Lib.hid hla.keep
                          have HBX2 := Lib.hid hla.box
                          unfold histV at HCG2 HLG2
                          clear hrow hhs hrd e hla
                          go_wp2_with fail
                          go_at_call 11
                          refine HCG2.out.mono ?_
                          rintro e w39 ⟨rfl, hk⟩
                          have HKE := Lib.hid hk
                          have HLG2 := Lib.hid (HLG2.out w39 hk)
                          obtain ⟨b0', b1', -⟩ := blk2 (hk.blk HBX2.out)
                          clear hk b0 b1 d0 d1
                          go_wp2_with fail
                          go_at_call 13
                          refine HLG2.out.mono ?_
                          rintro e w40 ⟨lv, rfl, hlv, hk⟩
                          have hlv2 : lv = true := hlv.2 HG.out
                          have HKE2 := Lib.hid hk
                          clear hlv hk
                          subst hlv2
                          go_wp2_with fail
                          go_ret
                          exact ⟨rfl, (HK.out.trans HATE.out).trans (HKE.out.trans HKE2.out)⟩
        · have herb : (er != 0) = true := by simpa using her
          have HLN := Lib.hid (HLN.out w6 (HI.out.stay HK6.out))
          have HNO := Lib.hid (show ¬ LinH ks cs from fun h => her (by simpa using HLQ.out.2 h))
          clear her
          go_wp2_with fail
          go_at_call 13
          refine HLN.out.mono ?_
          rintro e w7 ⟨lv, rfl, hlv, hk⟩
          have hlv2 : lv = false := by rw [← Bool.not_eq_true]; exact fun e => HNO.out (hlv.1 e)
          have HK7 := Lib.hid (HK6.out.trans hk)
          clear hlv hk
          subst hlv2
          go_wp2_with fail
          go_ret
          exact ⟨rfl, HK.out.trans HK7.out⟩
  · have h0b : (ch != 0) = true := by simpa using h0
    go_wp2_with (go_at_call 11; refine HCH.out.mono ?_; rintro e w4 ⟨rfl, hk⟩; have HK4 := Lib.hid (HK3.out.trans hk); clear hk)
    go_ret
    exact ⟨rfl, HK.out.trans HK4.out⟩

end Go.Proofs.YtoolpifkfgileaaDoor
