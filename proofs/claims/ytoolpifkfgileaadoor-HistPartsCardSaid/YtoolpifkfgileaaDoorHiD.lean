/-
  Package hist: Order; Linear.
-/
import Derived.Test.YtoolpifkfgileaaDoorHiC
import Derived.Test.YtoolpifkfgileaaDoorHp1
namespace Go.Proofs.YtoolpifkfgileaaDoor
open Go Go.RowKit Own

def startP (ks : List Int) : List (Int × List Int) := ks.map fun k => (k, [])

/-- a history as it is handed in -/
structure HistIn (w : World) (pk pc : Option Addr) (ks : List Int) (cs : List Cl) : Prop where
  rd : Rd w pk (ints ks)
  calls : RowC w pc cs
  k8 : ks.length ≤ 8
  c60 : cs.length ≤ 60
  kin : ∀ k ∈ ks, In64 k
  args : ArgsIn cs
  tab : TabP w
  bit : BitTab w
theorem HistIn.stay {w w' : World} {pk pc : Option Addr} {ks : List Int} {cs : List Cl} (h : HistIn w pk pc ks cs) (k : KeepBut (fun _ => False) w w') : HistIn w' pk pc ks cs :=
  ⟨h.rd.stay k, h.calls.stay k, h.k8, h.c60, h.kin, h.args, k.tabP h.tab, k.bitTab h.bit⟩

theorem start_small {ks : List Int} (h : ∀ k ∈ ks, In64 k) : Small (startP ks) := fun e he => by
  obtain ⟨k, hk, rfl⟩ := List.mem_map.1 he
  exact ⟨h k hk, by simp, fun x hx => by cases hx⟩

theorem find_zero (wB : World) (S A D : Nat) (pk pc : Option Addr) (ck cc : Nat) (ks : List Int) (cs : List Cl) (K : Nat) (hX : Ctx wB S D cs K) (w : World) (p : Option Addr) (c : Nat) (l : List Kc)
    (hS : SAt w S A D pk pc ck cc ks cs) (hH : HasAt w p l) (hl : l.length = K) (hs : Small (l.map Kc.plain)) (hM : PMap w D []) (hk : KeepBut (fun _ => False) wB w) :
    Calls Tryd.prog 37 #[.pointer (some ⟨S, 0, none⟩), .int .u32 0, .slice p l.length c] w fun e w' => FindDone cs K D 0 (l.map Kc.plain) [] w e w' :=
  find_any wB S A D pk pc ck cc ks cs K hX _ w 0 p c l [] (Nat.le_refl _) (Nat.two_pow_pos _) hS hH hl hs hM (fun q hq => by cases hq) hk

def OrderDone (ks : List Int) (cs : List Cl) (w : World) (e : Ending) (w' : World) : Prop :=
  ∃ q c o er, e = .returned (.tuple #[.slice q (List.length o) c, .int .i64 er]) ∧ (er = 0 → chkH ks cs = 0 ∧ ordB cs 0 (startP ks) o = true) ∧ (er ≠ 0 → ¬ LinH ks cs ∧ o = [] ∧ (chkH ks cs = 0 → er = 6)) ∧ Rd w' q (ints (natI o)) ∧ KeepBut (fun _ => False) w w'

set_option maxRecDepth 100000 in
set_option maxHeartbeats 16000000 in
theorem order_any (w : World) (pk pc : Option Addr) (ck cc : Nat) (ks : List Int) (cs : List Cl) (hI : HistIn w pk pc ks cs) :
    Calls Tryd.prog 17 #[histV pk pc ck cc ks cs] w fun e w' => OrderDone ks cs w e w' := by
  obtain ⟨V, B, hV, hB, hb, hkV, hsV⟩ := fresh_block w (.cells #[.slice pk ks.length ck, .slice pc cs.length cc] 25)
  obtain ⟨b0, b1, -⟩ := blk2 hb
  have HI := Lib.hid hI
  have hIV := hI.stay hkV
  have HIV := Lib.hid hIV
  have HCH := Lib.hid (chkH_any V pk pc ck cc ks cs hIV.rd hIV.calls (by have := hI.k8; omega) (by have := hI.c60; omega))
  have HK := Lib.hid hkV; have HB := Lib.hid hb
  obtain ⟨ch, hch⟩ : ∃ ch, chkH ks cs = ch := ⟨_, rfl⟩
  rw [hch] at HCH
  have HE := Lib.hid hch
  unfold histV at HCH ⊢
  clear hI hIV hb hkV hsV hch
  go_enter Tryd.func17, Tryd.ntmps17
  go_upto_region 1 with fail
  rw [← hV, ← hB]
  clear hV hB
  by_cases h0 : ch = 0
  · have H0 := Lib.hid h0
    have h1 : (ch != 0) = false := by simp [h0]
    clear h0
    go_upto_region 4 with (go_at_call 11; refine HCH.out.mono ?_; rintro e w2 ⟨rfl, hk⟩; obtain ⟨e0, e1, -⟩ := blk2 (hk.blk HB.out); have HK2 := Lib.hid hk; clear hk)
    have HCK := Lib.hid (chkH_ok.1 (HE.out.trans H0.out))
    have HBG := Lib.hid (begin_any w2 pk pc ck cc ks cs ((HIV.out.stay HK2.out).calls) HCK.out.2)
    unfold histV at HBG
    clear b0 b1
    go_upto_region 5 with (go_at_call 36; refine HBG.out.mono ?_; rintro e w3 ⟨S, A, D, rfl, hS, hM, h1, h2, -, hk⟩; have HS := Lib.hid hS; have HM := Lib.hid hM; have HD1 := Lib.hid h1; have HD2 := Lib.hid h2; have HK3 := Lib.hid hk; clear hS hM h1 h2 hk)
    have HCONT := Lib.hid (show ∀ i, i < cs.length → 0 ≤ (nthC cs i).cont ∧ (nthC cs i).cont.toNat < ks.length from fun i hi => by
      have h9 := good_beg (HCK.out.1.each _ (nthC_mem hi))
      omega)
    have HIW := Lib.hid (HIV.out.stay (HK2.out.trans HK3.out))
    have HEM := Lib.hid (empty_any w3 S ks pk ck (blk5S HS.out.blk).1 HIW.out.rd (by have := HI.out.k8; omega))
    obtain ⟨l, hl⟩ : ∃ l, startK ks = l := ⟨_, rfl⟩
    rw [hl] at HEM
    have HL := Lib.hid hl
    clear e0 e1 hl
    go_upto_region 6 with (first
      | (go_at_call 38; refine HEM.out.mono ?_; rintro e w4 ⟨p4, c4, rfl, hH, hk⟩; have HH := Lib.hid hH; have HK4 := Lib.hid hk; clear hH hk)
      | (go_at_call 37; refine (find_zero w2 S A D pk pc ck cc ks cs ks.length ⟨HCK.out.2, HI.out.k8, HCONT.out, HI.out.args, (HIV.out.stay HK2.out).tab, (HIV.out.stay HK2.out).bit, HD1.out, HD2.out⟩ w4 p4 c4 l (HS.out.stay HK4.out) HH.out (by rw [← HL.out]; simp [startK]) (by rw [← HL.out, startK_plain]; exact start_small HI.out.kin) (HM.out.keep HK4.out fun e => e) (HK3.out.trans HK4.out)).mono ?_; rintro e w5 ⟨ok, q, c, o, L', rfl, f1, f2, -, -, -, -, -, f3⟩; have HF1 := Lib.hid f1; have HF2 := Lib.hid f2; have HF3 := Lib.hid f3; clear f1 f2 f3))
    have hpl : l.map Kc.plain = startP ks := by rw [← HL.out]; exact startK_plain ks
    have HPL := Lib.hid hpl
    have HKK := Lib.hid (((HK.out.trans HK2.out).trans (HK3.out.trans HK4.out)).new HF3.out fun b e => by have e : b = D := e; have := HD1.out; have := (HK.out.trans HK2.out).size; omega)
    clear hpl
    cases ok with
    | false =>
      have HF4 := Lib.hid (show ∀ o, ordB cs 0 (startP ks) o = false by rw [← HPL.out]; exact HF1.out)
      go_wp2_with fail
      go_ret2
      exact ⟨none, 0, [], 6, rfl, fun e => absurd e (by decide), fun _ => ⟨not_lin HF4.out, rfl, fun _ => rfl⟩, fun j v hj => by simp [natI, ints] at hj, HKK.out⟩
    | true =>
      have HF4 := Lib.hid (show ordB cs 0 (startP ks) o = true by rw [← HPL.out]; exact HF1.out)
      go_wp2_with fail
      go_ret2
      exact ⟨q, c, o, 0, rfl, fun _ => ⟨HE.out.trans H0.out, HF4.out⟩, fun e => absurd rfl e, HF2.out, HKK.out⟩
  · have H0 := Lib.hid h0
    have h1 : (ch != 0) = true := by simpa using h0
    clear h0
    go_wp2_with (go_at_call 11; refine HCH.out.mono ?_; rintro e w2 ⟨rfl, hk⟩; have HK2 := Lib.hid hk; clear hk)
    go_ret2
    exact ⟨none, 0, [], ch, rfl, fun e => absurd e H0.out, fun _ => ⟨fun h => H0.out (HE.out.symm.trans (chkH_ok.2 h.1)), rfl, fun e => absurd (HE.out.symm.trans e) H0.out⟩, fun j v hj => by simp [natI, ints] at hj, HK.out.trans HK2.out⟩

def LinDone (ks : List Int) (cs : List Cl) (w : World) (e : Ending) (w' : World) : Prop := ∃ v, e = .returned (.bool v) ∧ (v = true ↔ LinH ks cs) ∧ KeepBut (fun _ => False) w w'

theorem order_lin {ks : List Int} {cs : List Cl} {w : World} {e : Ending} {w' : World} (h : OrderDone ks cs w e w') :
    ∃ q c o er, e = .returned (.tuple #[.slice q (List.length o) c, .int .i64 er]) ∧ ((er == 0) = true ↔ LinH ks cs) ∧ (er = 0 → chkH ks cs = 0 ∧ ordB cs 0 (startP ks) o = true) ∧ (er ≠ 0 → o = []) ∧ (chkH ks cs = 0 → er ≠ 0 → er = 6) ∧ Rd w' q (ints (natI o)) ∧ KeepBut (fun _ => False) w w' := by
  obtain ⟨q, c, o, er, rfl, h1, h2, h3, h4⟩ := h
  refine ⟨q, c, o, er, rfl, ?_, h1, fun e => (h2 e).2.1, fun e1 e2 => (h2 e2).2.2 e1, h3, h4⟩
  rw [beq_iff_eq]
  constructor
  · intro e
    have := chkH_ok.1 (h1 e).1
    exact lin_of this.1 this.2 (h1 e).2
  · intro e
    rcases Decidable.em (er = 0) with h | h
    · exact h
    · exact absurd e (h2 h).1

theorem linear_any (w : World) (pk pc : Option Addr) (ck cc : Nat) (ks : List Int) (cs : List Cl) (hI : HistIn w pk pc ks cs) :
    Calls Tryd.prog 13 #[histV pk pc ck cc ks cs] w fun e w' => LinDone ks cs w e w' := by
  obtain ⟨V, B, hV, hB, hb, hkV, hsV⟩ := fresh_block w (.cells #[.slice pk ks.length ck, .slice pc cs.length cc] 25)
  obtain ⟨b0, b1, -⟩ := blk2 hb
  have HO := Lib.hid (order_any V pk pc ck cc ks cs (hI.stay hkV))
  have HK := Lib.hid hkV
  unfold histV at HO ⊢
  clear hI hb hkV hsV
  go_enter Tryd.func13, Tryd.ntmps13
  go_upto_region 1 with fail
  rw [← hV, ← hB]
  clear hV hB
  go_wp2_with (go_at_call 17; refine HO.out.mono ?_; rintro e w2 h; obtain ⟨q, c, o, er, rfl, h1, -, -, -, -, hk⟩ := order_lin h; have H1 := Lib.hid h1; have HK2 := Lib.hid hk; clear hk h1 h)
  go_ret
  exact ⟨er == 0, rfl, H1.out, HK.out.trans HK2.out⟩

end Go.Proofs.YtoolpifkfgileaaDoor
