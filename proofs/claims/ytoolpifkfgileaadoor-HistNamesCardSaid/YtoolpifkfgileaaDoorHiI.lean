/-
  Package hist: through; Allowed.
-/
import Derived.Test.YtoolpifkfgileaaDoorHiH
namespace Go.Proofs.YtoolpifkfgileaaDoor
open Go Go.RowKit Own

theorem natI_inj : ∀ {a b : List Nat}, natI a = natI b → a = b
  | [], [], _ => rfl
  | [], _ :: _, h => by simp [natI] at h
  | _ :: _, [], h => by simp [natI] at h
  | x :: a, y :: b, h => by
    simp only [natI, List.map_cons, List.cons.injEq] at h
    rw [natI_inj (a := a) (b := b) h.2]
    congr 1
    omega
theorem natI_append (a b : List Nat) : natI (a ++ b) = natI a ++ natI b := by simp [natI]
theorem natI_snoc {o1 : List Nat} {ol : List Int} {i n : Nat} (h : natI o1 = ol.take i) (hi : i < ol.length) (hn : nth ol i = n) : natI (o1 ++ [n]) = ol.take (i + 1) := by
  rw [natI_append, h, List.take_succ_eq_append_getElem hi, ← nth_eq hi, hn]
  rfl

/-- how far an order came -/
structure Came (ks : List Int) (cs : List Cl) (ol : List Int) (i d : Nat) (h : List (Int × List Int)) : Prop where
  ex : ∃ o1, natI o1 = ol.take i ∧ (∀ o2, ordB cs 0 (startP ks) (o1 ++ o2) = ordB cs d h o2) ∧ foldC (startP ks) (o1.map (nthC cs)) = some h
  lt : d < 2 ^ cs.length
  small : Small h
  len : h.length = ks.length
theorem came_start {ks : List Int} {cs : List Cl} {ol : List Int} (hk : ∀ k ∈ ks, In64 k) : Came ks cs ol 0 0 (startP ks) :=
  ⟨⟨[], rfl, fun _ => rfl, rfl⟩, Nat.two_pow_pos _, start_small hk, by simp [startP]⟩

theorem foldC_snoc {h h1 h2 : List (Int × List Int)} {c : Cl} {o : List Cl} : foldC h o = some h1 → stepC h1 c = some h2 → foldC h (o ++ [c]) = some h2 := by
  induction o generalizing h with
  | nil =>
    intro e1 e2
    cases e1
    show foldC _ [c] = _
    unfold foldC
    rw [e2]; rfl
  | cons x o ih =>
    intro e1 e2
    rw [List.cons_append]
    unfold foldC at e1 ⊢
    cases hx : stepC h x with
    | none => rw [hx] at e1; cases e1
    | some h' => rw [hx] at e1; exact ih e1 e2

theorem came_step {ks : List Int} {cs : List Cl} {ol : List Int} {i d n : Nat} {h h' : List (Int × List Int)} (hc : Came ks cs ol i d h) (ha : ArgsIn cs) (hl : cs.length ≤ 24) (hi : i < ol.length) (hn : nth ol i = n) (hlt : n < cs.length) (hx : nextP cs d h n = some h') :
    Came ks cs ol (i + 1) (d ||| 2 ^ n) h' := by
  obtain ⟨⟨o1, h1, h2, h3⟩, h4, h5, h6⟩ := hc
  have hx0 := hx
  unfold nextP at hx
  split at hx
  · rename_i hf
    obtain ⟨q1, q2⟩ := step_small ha h5 hx
    refine ⟨⟨o1 ++ [n], natI_snoc h1 hi hn, fun o2 => ?_, ?_⟩, (or_grows ((free_iff hl).1 hf).1 hlt h4).2, q1, by rw [q2, h6]⟩
    · rw [List.append_assoc, h2, List.singleton_append, ord_next hlt, hx0]
    · rw [List.map_append]
      rw [stepP_eq] at hx
      exact foldC_snoc h3 hx
  · cases hx

def AllowedP (ks : List Int) (cs : List Cl) (ol : List Int) : Prop := chkH ks cs = 0 ∧ ∃ o, natI o = ol ∧ ordB cs 0 (startP ks) o = true

theorem came_split {ks : List Int} {cs : List Cl} {ol : List Int} {i d : Nat} {h : List (Int × List Int)} (hc : Came ks cs ol i d h) {o : List Nat} (ho : natI o = ol) : ∃ o2, natI o2 = ol.drop i ∧ ordB cs 0 (startP ks) o = ordB cs d h o2 := by
  obtain ⟨o1, h1, h2, -⟩ := hc.ex
  have e1 : natI (o.take i) = ol.take i := by rw [← ho]; simp [natI, List.map_take]
  have e2 : o.take i = o1 := natI_inj (by rw [e1, h1])
  refine ⟨o.drop i, by rw [← ho]; simp [natI, List.map_drop], ?_⟩
  rw [← h2, ← e2, List.take_append_drop]

theorem came_bad {ks : List Int} {cs : List Cl} {ol : List Int} {i d : Nat} {h : List (Int × List Int)} (hc : Came ks cs ol i d h) (hi : i < ol.length) (hb : ∀ n : Nat, nth ol i = n → ∀ o, ordB cs d h (n :: o) = false) : ¬ AllowedP ks cs ol := by
  rintro ⟨-, o, ho, hy⟩
  obtain ⟨o2, h1, h2⟩ := came_split hc ho
  rw [List.drop_eq_getElem_cons hi] at h1
  cases o2 with
  | nil => simp [natI] at h1; omega
  | cons n o2 =>
    simp only [natI, List.map_cons, List.cons.injEq] at h1
    rw [h2, hb n (by rw [nth_eq hi]; exact h1.1.symm)] at hy
    cases hy

theorem came_end {ks : List Int} {cs : List Cl} {ol : List Int} {d : Nat} {h : List (Int × List Int)} (hc : Came ks cs ol ol.length d h) (h0 : chkH ks cs = 0) : overB cs d = true ↔ AllowedP ks cs ol := by
  constructor
  · intro hy
    obtain ⟨o1, h1, h2, -⟩ := hc.ex
    rw [List.take_length] at h1
    refine ⟨h0, o1, h1, ?_⟩
    have := h2 []
    rw [List.append_nil] at this
    rw [this]
    unfold ordB
    exact hy
  · rintro ⟨-, o, ho, hy⟩
    obtain ⟨o2, h1, h2⟩ := came_split hc ho
    rw [List.drop_length] at h1
    cases o2 with
    | cons n o2 => simp [natI] at h1
    | nil =>
      rw [h2] at hy
      unfold ordB at hy
      exact hy

def ThroughDone (ks : List Int) (cs : List Cl) (ol : List Int) (w : World) (e : Ending) (w' : World) : Prop :=
  ∃ p c l ok, e = .returned (.tuple #[.slice p (List.length l) c, .bool ok]) ∧ (ok = true ↔ AllowedP ks cs ol) ∧ (ok = true → ∃ o, natI o = ol ∧ foldC (startP ks) (o.map (nthC cs)) = some (l.map Kc.plain) ∧ l.length = ks.length ∧ Small (l.map Kc.plain)) ∧ HasAt w' p l ∧ KeepBut (fun _ => False) w w'

theorem has_nil (w : World) : HasAt w none [] := ⟨fun j v hj => by simp [cellsK] at hj, fun e he => by cases he⟩
theorem through_not {ks : List Int} {cs : List Cl} {ol : List Int} {w w' : World} (h : ¬ AllowedP ks cs ol) (hk : KeepBut (fun _ => False) w w') : ThroughDone ks cs ol w (.returned (.tuple #[.slice none 0 0, .bool false])) w' :=
  ⟨none, 0, [], false, rfl, ⟨(fun e => by cases e), fun e => absurd e h⟩, (fun e => by cases e), has_nil _, hk⟩

set_option maxRecDepth 100000 in
set_option maxHeartbeats 32000000 in
theorem through_any (w : World) (pk pc : Option Addr) (ck cc : Nat) (ks : List Int) (cs : List Cl) (hI : HistIn w pk pc ks cs) (po : Option Addr) (co : Nat) (ol : List Int) (hO : Rd w po (ints ol)) (hol : ol.length ≤ 1099511627776) :
    Calls Tryd.prog 40 #[histV pk pc ck cc ks cs, .slice po ol.length co] w fun e w' => ThroughDone ks cs ol w e w' := by
  obtain ⟨V, B, hV, hB, hb, hkV, hsV⟩ := fresh_block w (.cells #[.slice pk ks.length ck, .slice pc cs.length cc] THi)
  obtain ⟨b0, b1, -⟩ := blk2 hb
  have HI := Lib.hid hI
  have hIV := hI.stay hkV
  have HIV := Lib.hid hIV
  have HO := Lib.hid (hO.stay hkV)
  have HCH := Lib.hid (chkH_any V pk pc ck cc ks cs hIV.rd hIV.calls (by have := hI.k8; omega) (by have := hI.c60; omega))
  have HK := Lib.hid hkV; have HB := Lib.hid hb
  obtain ⟨ch, hch⟩ : ∃ ch, chkH ks cs = ch := ⟨_, rfl⟩
  rw [hch] at HCH
  have HE := Lib.hid hch
  unfold histV at HCH ⊢
  clear hI hIV hb hkV hsV hch hO
  go_enter Tryd.func40, Tryd.ntmps40
  go_upto_region 1 with fail
  rw [← hV, ← hB]
  clear hV hB
  by_cases h0 : ch = 0
  · have H0 := Lib.hid (HE.out.trans h0)
    have h1 : (ch != 0) = false := by simp [h0]
    clear h0
    go_upto_region 3 with (go_at_call 11; refine HCH.out.mono ?_; rintro e w2 ⟨rfl, hk⟩; obtain ⟨e0, e1, -⟩ := blk2 (hk.blk HB.out); have HK2 := Lib.hid hk; clear hk)
    have HCK := Lib.hid (chkH_ok.1 H0.out)
    have HBG := Lib.hid (begin_any w2 pk pc ck cc ks cs ((HIV.out.stay HK2.out).calls) HCK.out.2)
    unfold histV at HBG
    clear b0 b1
    go_upto_region 4 with (go_at_call 36; refine HBG.out.mono ?_; rintro e w3 ⟨S, A, D, rfl, hS, hM, -, -, -, hk⟩; have HS := Lib.hid hS; have HK3 := Lib.hid hk; clear hS hM hk)
    have HCONT := Lib.hid (show ∀ i, i < cs.length → 0 ≤ (nthC cs i).cont ∧ (nthC cs i).cont.toNat < ks.length from fun i hi => by
      have h9 := good_beg (HCK.out.1.each _ (nthC_mem hi))
      omega)
    have HIW := Lib.hid (HIV.out.stay (HK2.out.trans HK3.out))
    have HEM := Lib.hid (empty_any w3 S ks pk ck (blk5S HS.out.blk).1 HIW.out.rd (by have := HI.out.k8; omega))
    obtain ⟨l, hl⟩ : ∃ l, startK ks = l := ⟨_, rfl⟩
    rw [hl] at HEM
    have HL := Lib.hid (show l.map Kc.plain = startP ks by rw [← hl]; exact startK_plain ks)
    clear e0 e1 hl h1
    go_upto_region 5 with (go_at_call 38; refine HEM.out.mono ?_; rintro e w4 ⟨p4, c4, rfl, hH, hk⟩; have HH := Lib.hid hH; have HK4 := Lib.hid hk; clear hH hk)
    have HNEXT := Lib.hid fun W (hS : SAt W S A D pk pc ck cc ks cs) p c l (hH : HasAt W p l) (hk : l.length = ks.length) (hs : Small (l.map Kc.plain)) d n (hd : d < 4294967296) (hn : n < cs.length) => next_any W S A D pk pc ck cc ks cs hS HCK.out.2 p c l hH (fun i hi => by rw [hk]; exact HCONT.out i hi) hs (by rw [hk]; exact HI.out.k8) d n hd hn
    have HK0 := Lib.hid ((HK2.out.trans HK3.out).trans HK4.out)
    have HS4 := Lib.hid (HS.out.stay HK4.out)
    have HC0 := Lib.hid (came_start (cs := cs) (ol := ol) HI.out.kin)
    have hcl := HCK.out.2
    have hp24 := pow_lt hcl
    have HP24 := Lib.hid hp24
    clear hp24 HCH HBG HEM
    go_wp2_with fail
    go_loopw [7, 8, 22] (fun v7 v8 v22 wr => ∃ (d : Nat) (p : Option Addr) (c : Nat) (l : List Kc) (i : Nat), v7 = .int .u32 d ∧ v8 = .slice p l.length c ∧ v22 = .int .i64 i ∧ i ≤ ol.length ∧ Came ks cs ol i d (l.map Kc.plain) ∧ HasAt wr p l ∧ KeepBut (fun _ => False) w4 wr) (fun _ _ v _ => ol.length - (intOf v).toNat)
    case atStart => exact ⟨0, p4, c4, l, 0, rfl, rfl, rfl, Nat.zero_le _, by rw [HL.out]; exact HC0.out, HH.out, KeepBut.refl _ _⟩
    case round =>
      obtain ⟨d, p, c, l, i, rfl, rfl, rfl, hi, hcame, hhas, hk⟩ := hrel
      have HKR := Lib.hid hk; have HCM := Lib.hid hcame; have HHS := Lib.hid hhas
      have HLK := Lib.hid (show l.length = ks.length by have := hcame.len; rwa [List.length_map] at this)
      have HSR := Lib.hid (HS4.out.stay hk)
      have hd32 : d < 4294967296 := Nat.lt_trans hcame.lt HP24.out
      obtain ⟨s0, s1, s2, s3, s4⟩ := blk5S HSR.out.blk
      obtain ⟨b0, b1, -⟩ := blk2 ((HK0.out.trans hk).blk HB.out)
      clear hk hcame hhas
      by_cases hlt : i < ol.length
      · have hlti : (i : Int) < ol.length := by omega
        have hi0 : (0 : Int) ≤ i := by omega
        have hWi : IntKind.i64.wrap ((i : Int) + 1) = (i : Int) + 1 := IntWalk.i64_in _ (by omega)
        obtain ⟨b, o, hp, -⟩ := HO.out.ptr (by rw [ints_length]; omega)
        subst hp
        have hc := (HO.out.stay (HK0.out.trans HKR.out)).int i hlt
        by_cases hn0 : nth ol i < 0
        · have HNO := Lib.hid (came_bad HCM.out hlt fun n hn => by omega)
          go_wp2_with fail
          go_ret2
          exact through_not HNO.out (HK.out.trans (HK0.out.trans HKR.out))
        · obtain ⟨n, hn⟩ : ∃ n : Nat, nth ol i = n := ⟨(nth ol i).toNat, by omega⟩
          have HN := Lib.hid hn
          rw [hn] at hc hn0
          by_cases hnl : cs.length ≤ n
          · have hnli : (cs.length : Int) ≤ n := by omega
            have HNO := Lib.hid (came_bad HCM.out hlt fun m hm => by
              have : m = n := by omega
              subst this
              intro o
              exact ord_out hnl)
            clear hn
            go_wp2_with fail
            go_ret2
            exact through_not HNO.out (HK.out.trans (HK0.out.trans HKR.out))
          · have hnli : ¬ (cs.length : Int) ≤ n := by omega
            have hnlt : n < cs.length := by omega
            have hn0' : (0 : Int) ≤ n := by omega
            have HNX := Lib.hid (HNEXT.out wr HSR.out p c l HHS.out HLK.out HCM.out.small d n hd32 hnlt)
            have hp2 : 2 ^ n < 4294967296 := pow_lt (by omega)
            have hsh : IntKind.u32.wrap ((2 : Int) ^ n) = (2 : Int) ^ n := by
              have h9 := wrap32 hp2
              simpa using h9
            have hor : bits .or .u32 (d : Int) ((2 : Int) ^ n) = ((d ||| 2 ^ n : Nat) : Int) := by
              have h9 := bits_or d (2 ^ n) hd32 hp2
              simpa using h9
            obtain ⟨dn, hdn⟩ : ∃ dn, d ||| 2 ^ n = dn := ⟨_, rfl⟩
            have HDN := Lib.hid hdn
            rw [hdn] at hor
            clear hdn hp2 hn
            go_upto_region 11 with (go_at_call 56; refine HNX.out.mono ?_; rintro e w5 h3; obtain ⟨ok, p3, c3, l3, rfl, hh3, hk3, hno⟩ := next_say h3; have HH3 := Lib.hid hh3; have HK5 := Lib.hid hk3; have HNO := Lib.hid hno; clear hh3 hk3 hno h3)
            cases ok with
            | false =>
              have HBAD := Lib.hid (came_bad HCM.out hlt fun m hm => by
                have h9 : m = n := by have := HN.out; omega
                subst h9
                intro o
                rw [ord_next hnlt, HNO.out]
                rfl)
              go_wp2_with fail
              go_ret2
              exact through_not HBAD.out (HK.out.trans ((HK0.out.trans HKR.out).trans HK5.out))
            | true =>
              have HC2 := Lib.hid (show Came ks cs ol (i + 1) dn (l3.map Kc.plain) by
                rw [← HDN.out]
                exact came_step HCM.out HI.out.args HCK.out.2 hlt HN.out hnlt HNO.out)
              go_wp2_with fail
              exact ⟨⟨dn, p3, c3, l3, i + 1, rfl, rfl, by simp, by omega, HC2.out, HH3.out, HKR.out.trans HK5.out⟩, by simp only [intOf]; omega⟩
      · have hnl : ¬ (i : Int) < ol.length := by omega
        have e : i = ol.length := by omega
        subst e
        have hwo := bits_without (endedM cs) d
        have HEND := Lib.hid (came_end HCM.out H0.out)
        obtain ⟨ov, hov⟩ : ∃ ov, overB cs d = ov := ⟨_, rfl⟩
        rw [hov] at HEND
        have HOV := Lib.hid (show (((without (endedM cs) d : Nat) : Int) == 0) = ov by
          rw [← hov]
          unfold overB
          by_cases hz : without (endedM cs) d = 0
          · rw [hz]; rfl
          · rw [beq_eq_false_iff_ne.2 (by omega), beq_eq_false_iff_ne.2 hz])
        have hov2 := HOV.out
        clear hov
        go_upto_region 15 with fail
        go_quiet (fail)
        go_wp2_with fail
        go_ret2
        refine ⟨p, c, l, ov, ?_, HEND.out, fun e => ?_, HHS.out.stay (KeepBut.drewN _ _ _), (HK.out.trans (HK0.out.trans HKR.out)).trans (KeepBut.drewN _ _ _)⟩
        · rfl
        · obtain ⟨o1, h1, -, h3⟩ := HCM.out.ex
          rw [List.take_length] at h1
          exact ⟨o1, h1, h3, HLK.out, HCM.out.small⟩
  · have H0 := Lib.hid (show ¬ AllowedP ks cs ol from fun h => h0 (HE.out.symm.trans h.1))
    have h1 : (ch != 0) = true := by simpa using h0
    clear h0
    go_wp2_with (go_at_call 11; refine HCH.out.mono ?_; rintro e w2 ⟨rfl, hk⟩; have HK2 := Lib.hid hk; clear hk)
    go_ret2
    exact through_not H0.out (HK.out.trans HK2.out)

end Go.Proofs.YtoolpifkfgileaaDoor
