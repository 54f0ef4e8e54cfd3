/-
  Package hist: find.
-/
import Derived.Test.YtoolpifkfgileaaDoorHiB
import Derived.Laws.AppendOwnNone
import Derived.StillTailTactics
namespace Go.Proofs.YtoolpifkfgileaaDoor
open Go Go.RowKit Own

/-- what stays the same during a search -/
structure Ctx (wB : World) (S D : Nat) (cs : List Cl) (K : Nat) : Prop where
  len : cs.length ≤ 24
  k8 : K ≤ 8
  conts : ∀ i, i < cs.length → 0 ≤ (nthC cs i).cont ∧ (nthC cs i).cont.toNat < K
  args : ArgsIn cs
  tab : TabP wB
  bit : BitTab wB
  new : wB.heap.size ≤ D
  ne : D ≠ S

def natI (o : List Nat) : List Int := o.map fun (n : Nat) => (n : Int)
theorem natI_length (o : List Nat) : (natI o).length = o.length := by simp [natI]

theorem next_say {cs : List Cl} {d : Nat} {l : List Kc} {n : Nat} {w : World} {e : Ending} {w' : World} (h : NextDone cs d l n w e w') :
    ∃ ok p c l', e = .returned (.tuple #[.slice p (List.length l') c, .bool ok]) ∧ HasAt w' p l' ∧ KeepBut (fun _ => False) w w' ∧ nextP cs d (l.map Kc.plain) n = if ok = true then some (l'.map Kc.plain) else none := by
  rcases h with ⟨h1, h2, h3⟩ | ⟨p, c, l', h1, h2, h3, h4⟩
  · exact ⟨false, none, 0, [], h2, ⟨fun j v hj => by simp [cellsK] at hj, fun e he => by cases he⟩, h3, h1⟩
  · exact ⟨true, p, c, l', h2, h3, h4, h1⟩

def FindDone (cs : List Cl) (K D d : Nat) (h : List (Int × List Int)) (L : List (Nat × ByteArray)) (w : World) (e : Ending) (w' : World) : Prop :=
  ∃ ok q c o L', e = .returned (.tuple #[.slice q (List.length o) c, .bool ok]) ∧ (if ok = true then ordB cs d h o = true else ∀ o, ordB cs d h o = false) ∧ Rd w' q (ints (natI o)) ∧ (q = none → c = 0 ∧ o = []) ∧ (d < 2 ^ cs.length → o.length ≤ 2 ^ cs.length - d) ∧
    PMap w' D L' ∧ Dead cs K L' ∧ (∀ q ∈ L', q ∈ L ∨ Sup d q.1) ∧ KeepBut (fun k => k = D) w w'

/-- find, between two rounds: x has the calls that are not tried -/
structure FindAt (wB : World) (S A D : Nat) (pk pc : Option Addr) (ck cc : Nat) (ks : List Int) (cs : List Cl) (K d B8 : Nat) (X : ByteArray) (p : Option Addr) (l : List Kc) (L : List (Nat × ByteArray)) (w wr : World) (x : Nat) : Prop where
  map : ∃ L', PMap wr D L' ∧ Dead cs K L' ∧ ∀ q ∈ L', q ∈ L ∨ (Sup d q.1 ∧ q.1 ≠ d)
  base : KeepBut (fun _ => False) wB wr
  keep : KeepBut (fun k => k = D) w wr
  box : wr.heap[B8]? = some (.cells #[.int .u32 d, .string X] TP (0, 0))
  sat : SAt wr S A D pk pc ck cc ks cs
  has : HasAt wr p l
  lt : x < 4294967296
  undone : ∀ j, x.testBit j = true → d.testBit j = false ∧ j < cs.length
  tried : ∀ j, j < cs.length → d.testBit j = false → x.testBit j = true ∨ ∀ o, ordB cs d (l.map Kc.plain) (j :: o) = false

theorem over_false {cs : List Cl} {d : Nat} (h : overB cs d = false) : 0 < cs.length := by
  rcases Nat.eq_zero_or_pos cs.length with h0 | h0
  · exfalso
    have e : endedM cs = 0 := by unfold endedM; rw [h0]; rfl
    have h1 : without (endedM cs) d = 0 := by
      rw [e]
      exact (without_zero (by decide)).2 fun j hj => by rw [Nat.zero_testBit] at hj; cases hj
    unfold overB at h
    rw [h1] at h
    cases h
  · exact h0

theorem all_bits {N : Nat} (j : Nat) : (2 ^ N - 1).testBit j = decide (j < N) := Nat.testBit_two_pow_sub_one N j

theorem ord_none {cs : List Cl} {d : Nat} {h : List (Int × List Int)} (h0 : overB cs d = false) (ht : ∀ j, j < cs.length → d.testBit j = false → ∀ o, ordB cs d h (j :: o) = false) : ∀ o, ordB cs d h o = false
  | [] => by unfold ordB; exact h0
  | j :: o => by
    rcases Nat.lt_or_ge j cs.length with h1 | h1
    · cases h2 : d.testBit j with
      | true => exact ord_taken h2
      | false => exact ht j h1 h2 o
    · exact ord_out h1

theorem sup_or {d n e : Nat} (hn : d.testBit n = false) (h : Sup (d ||| 2 ^ n) e) : Sup d e ∧ e ≠ d := by
  refine ⟨fun j hj => h j (by rw [or_bit, hj]; rfl), fun e2 => ?_⟩
  have := h n (by rw [or_bit]; simp)
  rw [e2, hn] at this
  cases this

theorem info_int3 : (Tryd.prog.info? 3).map (fun i => (i.zero, i.size, i.bytes)) = some (some (.int .i64 0), 1, 8) := by kernel_rfl
theorem one_row (w : World) (B n : Nat) (hB : B ≤ w.heap.size) : (w.alloc (.cells #[.int .i64 n] 3)).ownsRow B 3 1 (.slice (some ⟨w.heap.size, 0, none⟩) 1 1) 1 [.int .i64 n] :=
  ⟨rfl, .inr ⟨w.heap.size, 1, #[.int .i64 n], rfl, hB, heap_alloc_new w _, Nat.le_refl _, by unfold maxLen; omega, rfl, rfl⟩⟩

set_option maxRecDepth 100000 in
set_option maxHeartbeats 64000000 in
theorem find_any (wB : World) (S A D : Nat) (pk pc : Option Addr) (ck cc : Nat) (ks : List Int) (cs : List Cl) (K : Nat) (hX : Ctx wB S D cs K) :
    ∀ (m : Nat) (w : World) (d : Nat) (p : Option Addr) (c : Nat) (l : List Kc) (L : List (Nat × ByteArray)), 2 ^ cs.length - d ≤ m → d < 2 ^ cs.length → SAt w S A D pk pc ck cc ks cs → HasAt w p l → l.length = K → Small (l.map Kc.plain) →
      PMap w D L → Dead cs K L → KeepBut (fun _ => False) wB w →
      Calls Tryd.prog 37 #[.pointer (some ⟨S, 0, none⟩), .int .u32 d, .slice p l.length c] w fun e w' => FindDone cs K D d (l.map Kc.plain) L w e w' := by
  intro m
  induction m with
  | zero => intro w d p c l L h1 h2; omega
  | succ m ih =>
  intro w d p c l L hm hd hS hH hl hsm hM hDead hB
  have HIH0 := Lib.hid ih
  have HL := Lib.hid hl
  obtain ⟨s0, s1, s2, s3, s4⟩ := blk5S hS.blk
  have hp24 := pow_lt hX.len
  have hd32 : d < 4294967296 := by omega
  have HD := Lib.hid hd; have HMM := Lib.hid hm
  have hwo := bits_without (endedM cs) d
  have HX := Lib.hid hX; have HS := Lib.hid hS; have HH := Lib.hid hH; have HSM := Lib.hid hsm; have HM := Lib.hid hM; have HDD := Lib.hid hDead; have HB := Lib.hid hB
  clear hS hH hsm hM hDead hB ih
  cases h2 : (((without (endedM cs) d : Nat) : Int) == 0) with
  | true =>
    have HF := Lib.hid (show overB cs d = true by unfold overB; simpa using h2)
    clear hX
    go_enter Tryd.func37, Tryd.ntmps37
    go_wp2_with fail
    go_ret2
    exact ⟨true, none, 0, [], L, rfl, by rw [if_pos rfl]; unfold ordB; exact HF.out, fun j v hj => by simp [natI, ints] at hj, fun _ => ⟨rfl, rfl⟩, fun _ => Nat.zero_le _, HM.out, HDD.out, fun q hq => .inl hq, KeepBut.refl _ _⟩
  | false =>
    have HF := Lib.hid (show overB cs d = false by unfold overB; simpa using h2)
    have hcl0 := over_false HF.out
    have hne : l ≠ [] := fun e => by
      have := (hX.conts 0 hcl0).2
      rw [e] at hl
      simp at hl
      omega
    have hk8 := hX.k8
    have HKEY := Lib.hid (keyed_any w p c l HH.out HSM.out (by omega) hne (HB.out.tabP hX.tab))
    obtain ⟨X, hXe⟩ : ∃ X : ByteArray, (⟨(keyL (l.map Kc.plain)).toArray⟩ : ByteArray) = X := ⟨_, rfl⟩
    rw [hXe] at HKEY
    have HXE := Lib.hid hXe
    clear hX hXe hne hl hm
    go_enter Tryd.func37, Tryd.ntmps37
    go_upto_region 4 with (go_at_call 54; refine HKEY.out.mono ?_; rintro e w2 ⟨rfl, hk2⟩; have HK2 := Lib.hid hk2; clear hk2)
    obtain ⟨V, B8, hV, hB8, hb8, hkV, hsV⟩ := fresh_block w2 (.cells #[.int .u32 d, .string X] TP)
    rw [← hV, ← hB8]
    have HK3 := Lib.hid (HK2.out.trans hkV)
    have HNB := Lib.hid (show D < B8 by
      have h3 := HM.out.lt
      have h4 := HK2.out.size
      omega)
    have y4 : V.cell? ⟨S, 4, none⟩ = some (.map (some D)) := HK3.out.stay s4
    obtain ⟨b0, b1, -⟩ := blk2 hb8
    have HB8 := Lib.hid hb8
    have HMV := Lib.hid (HM.out.keep HK3.out fun e => e)
    clear s0 s1 s2 s3 s4 hV hB8 hkV hsV hb8 h2 hwo
    cases hh : hasP L d X with
    | true =>
      have hlk : ∀ n, (Instr.lookup 92 (.map (some D)) (.agg #[.int .u32 d, .string X]) false).run Tryd.prog (V.drewN n) = .ok (.int .i64 1) (V.drewN n) := fun n => by
        have h3 := (HMV.out.keep (KeepBut.drewN (fun _ => False) V n) fun e => e).look d X
        rw [hh] at h3
        exact h3
      have HFIN := Lib.hid (show ∀ o, ordB cs d (l.map Kc.plain) o = false by
        obtain ⟨q, hq, h3, h4⟩ := hasP_true hh
        rw [h3]
        exact HDD.out q hq _ HSM.out (by rw [List.length_map]; exact HL.out) (by rw [← h4, ← HXE.out]))
      go_quiet (fail)
      go_wp2_with fail
      go_ret2
      exact ⟨false, none, 0, [], L, rfl, by rw [if_neg Bool.false_ne_true]; exact HFIN.out, fun j v hj => by simp [natI, ints] at hj, fun _ => ⟨rfl, rfl⟩, fun _ => Nat.zero_le _, HMV.out.keep (KeepBut.drewN (fun _ => False) _ _) fun e => e, HDD.out, fun q hq => .inl hq, (HK3.out.mono fun _ e => e.elim).trans (KeepBut.drewN _ _ _)⟩
    | false =>
      have hlk : ∀ n, (Instr.lookup 92 (.map (some D)) (.agg #[.int .u32 d, .string X]) false).run Tryd.prog (V.drewN n) = .ok (.int .i64 0) (V.drewN n) := fun n => by
        have h3 := (HMV.out.keep (KeepBut.drewN (fun _ => False) V n) fun e => e).look d X
        rw [hh] at h3
        exact h3
      have HHP := Lib.hid hh
      clear hh
      go_quiet (fail)
      clear hlk y4 b0 b1
      obtain ⟨s0, s1, s2, s3, s4⟩ := blk5S (HS.out.stay (HK3.out.trans (KeepBut.drewN _ _ nq))).blk
      have hp2 : 1 ≤ 2 ^ cs.length := Nat.one_le_two_pow
      have hlen := HX.out.len
      have hsh : IntKind.u32.wrap ((2 : Int) ^ cs.length) = (2 : Int) ^ cs.length := by
        have h9 := wrap32 hp24
        simpa using h9
      have hsub : IntKind.u32.wrap ((2 : Int) ^ cs.length - 1) = ((2 ^ cs.length - 1 : Nat) : Int) := by
        have h9 := wrap32 (x := 2 ^ cs.length - 1) (by omega)
        have e : ((2 ^ cs.length - 1 : Nat) : Int) = (2 : Int) ^ cs.length - 1 := by
          have : ((2 ^ cs.length : Nat) : Int) = (2 : Int) ^ cs.length := by simp
          omega
        rw [e] at h9 ⊢
        exact h9
      have hwo := bits_without (2 ^ cs.length - 1) d
      have HAT := Lib.hid (show FindAt wB S A D pk pc ck cc ks cs K d B8 X p l L w (V.drewN nq) (without (2 ^ cs.length - 1) d) from ⟨⟨L, HMV.out.keep (KeepBut.drewN (fun _ => False) _ _) fun e => e, HDD.out, fun q hq => .inl hq⟩, HB.out.trans (HK3.out.trans (KeepBut.drewN _ _ _)), (HK3.out.mono fun _ e => e.elim).trans (KeepBut.drewN _ _ _), (KeepBut.drewN (fun _ => False) V nq).blk HB8.out, HS.out.stay (HK3.out.trans (KeepBut.drewN _ _ _)), HH.out.stay (HK3.out.trans (KeepBut.drewN _ _ _)), without_lt _ _, fun j hj => by
          rw [without_bit (by omega), all_bits, Bool.and_eq_true, Bool.not_eq_true', decide_eq_true_eq] at hj
          exact ⟨hj.2, hj.1⟩, fun j h3 h4 => .inl (by rw [without_bit (by omega), all_bits, h4]; simp [h3])⟩)
      go_upto_block 0 with fail
      go_wp2_with fail
      clear s0 s1 s2 s3 s4 hsh hsub hwo
      go_loopw [10] (fun v10 wr => ∃ x : Nat, v10 = .int .u32 x ∧ FindAt wB S A D pk pc ck cc ks cs K d B8 X p l L w wr x) (fun v _ => (intOf v).toNat)
      case atStart => exact ⟨_, rfl, HAT.out⟩
      case round =>
        clear HAT
        obtain ⟨x, rfl, hat⟩ := hrel
        by_cases hx0 : x = 0
        · subst hx0
          obtain ⟨L', hm', hd', hl'⟩ := hat.map
          obtain ⟨s0, s1, s2, s3, s4⟩ := blk5S hat.sat.blk
          obtain ⟨b0, b1, -⟩ := blk2 hat.box
          have hnone : hasP L' d X = false := hasP_false fun q hq ⟨e1, e2⟩ => by
            rcases hl' q hq with h | h
            · have h9 := HHP.out
              unfold hasP at h9
              rw [List.any_eq_false] at h9
              exact h9 q h (sameP_iff.2 ⟨e1, e2⟩)
            · exact h.2 e1.symm
          obtain ⟨w9, hrun, hp9, hk9⟩ := (hm'.keep (KeepBut.drew (fun _ => False) wr) fun e => e).update d X hnone
          unfold keyV at hrun
          have HNO := Lib.hid (show ∀ o, ordB cs d (l.map Kc.plain) o = false from ord_none HF.out fun j h3 h4 => (hat.tried j h3 h4).resolve_left fun e => by rw [Nat.zero_testBit] at e; cases e)
          have HFIN := Lib.hid (show FindDone cs K D d (l.map Kc.plain) L w (.returned (.tuple #[.slice none 0 0, .bool false])) w9 from ⟨false, none, 0, [], L' ++ [(d, X)], rfl, by rw [if_neg Bool.false_ne_true]; exact HNO.out, fun j v hj => by simp [natI, ints] at hj, fun _ => ⟨rfl, rfl⟩, fun _ => Nat.zero_le _, hp9, fun q hq h h1 h2 h3 => by
            rcases List.mem_append.1 hq with hq | hq
            · exact hd' q hq h h1 h2 h3
            · rw [List.mem_singleton] at hq
              subst hq
              have e : h = l.map Kc.plain := keyL_inj _ _ (by rw [h2, List.length_map, HL.out]) (by rw [h3, ← HXE.out])
              rw [e]; exact HNO.out, fun q hq => by
            rcases List.mem_append.1 hq with hq | hq
            · exact (hl' q hq).imp id fun h => h.1
            · rw [List.mem_singleton] at hq
              subst hq
              exact .inr fun j hj => hj, (hat.keep.trans (KeepBut.drew _ wr)).trans hk9⟩)
          clear hat hm' hd' hl' hnone hp9 hk9
          go_upto_region 16 with fail
          go_still_tail 5, (by kernel_rfl)
          go_wp2_with fail
          go_ret2
          exact HFIN.out
        · have hxi : ((x : Int) != 0) = true := by
            rw [bne_iff_ne]; omega
          obtain ⟨hb1, hb2, hb3⟩ := low_bit hx0 hat.lt
          have HTZ := Lib.hid (tz_any x hat.lt hx0 wr (hat.base.bitTab HX.out.bit))
          obtain ⟨n, hn⟩ : ∃ n, Lib.ctz 32 x = n := ⟨_, rfl⟩
          rw [hn] at hb1 hb2 HTZ
          obtain ⟨hun, hnl⟩ := hat.undone n hb1
          have HNX := Lib.hid (next_any wr S A D pk pc ck cc ks cs hat.sat HX.out.len p c l hat.has (fun i hi => by rw [HL.out]; exact HX.out.conts i hi) HSM.out (by rw [HL.out]; exact HX.out.k8) d n hd32 hnl)
          have HAT := Lib.hid hat
          have HB1 := Lib.hid hb1; have HB2 := Lib.hid hb2; have HB3 := Lib.hid hb3; have HUN := Lib.hid hun
          have hxl := hat.lt
          have hsub : IntKind.u32.wrap ((x : Int) - 1) = ((x - 1 : Nat) : Int) := by
            have h9 := wrap32 (x := x - 1) (by omega)
            have e : ((x - 1 : Nat) : Int) = (x : Int) - 1 := by omega
            rw [e] at h9 ⊢
            exact h9
          have hand := bits_and_u32_nat x (x - 1) hxl (by omega)
          have hnn : (0 : Int) ≤ n := by omega
          clear hat hb1 hb2 hb3 hun hn
          go_upto_region 12 with (first
            | (go_at_call 55; refine HTZ.out.mono ?_; rintro e w' ⟨rfl, rfl⟩)
            | (go_at_call 56; refine HNX.out.mono ?_; rintro e w3 h3; obtain ⟨ok, p3, c3, l3, rfl, hh3, hk3, hno⟩ := next_say h3; have HH3 := Lib.hid hh3; have HK4 := Lib.hid hk3; have HNO := Lib.hid hno; clear hh3 hk3 hno h3))
          obtain ⟨L', hm', hd', hl'⟩ := HAT.out.map
          have HM1 := Lib.hid hm'; have HD1 := Lib.hid hd'; have HL1 := Lib.hid hl'
          clear hm' hd' hl' hxi
          cases ok with
          | false =>
            have HREL := Lib.hid (show FindAt wB S A D pk pc ck cc ks cs K d B8 X p l L w w3 (x &&& (x - 1)) from ⟨⟨L', HM1.out.keep HK4.out (fun e => e), HD1.out, HL1.out⟩, HAT.out.base.trans HK4.out, HAT.out.keep.trans (HK4.out.mono fun _ e => e.elim), HK4.out.blk HAT.out.box, HAT.out.sat.stay HK4.out, HAT.out.has.stay HK4.out, Nat.lt_trans HB3.out hxl, fun j hj => by
              rw [HB2.out j, Bool.and_eq_true] at hj
              exact HAT.out.undone j hj.1, fun j h3 h4 => by
              rcases HAT.out.tried j h3 h4 with h5 | h5
              · by_cases e : j = n
                · right
                  intro o
                  rw [e, ord_next hnl, HNO.out]
                  rfl
                · left
                  rw [HB2.out j, h5]; simp [e]
              · exact .inr h5⟩)
            have HMS := HB3
            obtain ⟨x2, hx2⟩ : ∃ x2, x &&& (x - 1) = x2 := ⟨_, rfl⟩
            rw [hx2] at HREL HMS hand
            clear hx2
            go_wp2_with fail
            exact ⟨⟨_, rfl, HREL.out⟩, by simp only [intOf]; have := HMS.out; omega⟩
          | true =>
            have hnx : nextP cs d (l.map Kc.plain) n = some (l3.map Kc.plain) := HNO.out
            have hstep : stepP cs (l.map Kc.plain) n = some (l3.map Kc.plain) := by
              unfold nextP at hnx
              split at hnx
              · exact hnx
              · cases hnx
            obtain ⟨hsm3, hlen3⟩ := step_small HX.out.args HSM.out hstep
            obtain ⟨hg1, hg2⟩ := or_grows HUN.out hnl HD.out
            have hl3 : l3.length = K := by rw [List.length_map, List.length_map, HL.out] at hlen3; exact hlen3
            have hp2 : 2 ^ n < 4294967296 := pow_lt (by omega)
            have hsh : IntKind.u32.wrap ((2 : Int) ^ n) = (2 : Int) ^ n := by
              have h9 := wrap32 hp2
              simpa using h9
            have hor : bits .or .u32 (d : Int) ((2 : Int) ^ n) = ((d ||| 2 ^ n : Nat) : Int) := by
              have h9 := bits_or d (2 ^ n) hd32 hp2
              simpa using h9
            obtain ⟨dn, hdn⟩ : ∃ dn, d ||| 2 ^ n = dn := ⟨_, rfl⟩
            have HDN := Lib.hid hdn
            rw [hdn] at hg1 hg2 hor
            have HIH := Lib.hid (HIH0.out w3 dn p3 c3 l3 L' (by have := HMM.out; omega) hg2 (HAT.out.sat.stay HK4.out) HH3.out hl3 hsm3 (HM1.out.keep HK4.out fun e => e) HD1.out (HAT.out.base.trans HK4.out))
            have HG1 := Lib.hid hg1; have HG2 := Lib.hid hg2; have HNX := Lib.hid hnx
            clear hnx hstep hsm3 hlen3 hl3 hp2 hg1 hg2 hdn
            go_upto_region 14 with (go_at_call 37; refine HIH.out.mono ?_; rintro e w4 ⟨ok4, q4, c4, o4, L4, rfl, h1, h2, h3, h3b, h4, h5, h6, h7⟩; have HF1 := Lib.hid h1; have HF2 := Lib.hid h2; have HF3 := Lib.hid h3; have HF3b := Lib.hid h3b; have HF4 := Lib.hid h4; have HF5 := Lib.hid h5; have HF6 := Lib.hid h6; have HF7 := Lib.hid h7; clear h1 h2 h3 h3b h4 h5 h6 h7)
            cases ok4 with
            | false =>
              have hnw : ¬ D < wB.heap.size := by have := HX.out.new; omega
              have hno : ∀ o, ordB cs dn (l3.map Kc.plain) o = false := HF1.out
              have HREL := Lib.hid (show FindAt wB S A D pk pc ck cc ks cs K d B8 X p l L w w4 (x &&& (x - 1)) from ⟨⟨L4, HF4.out, HF5.out, fun q hq => by
                rcases HF6.out q hq with h | h
                · exact HL1.out q h
                · rw [← HDN.out] at h; exact .inr (sup_or HUN.out h)⟩, (HAT.out.base.trans HK4.out).new HF7.out (fun b e => by have e : b = D := e; omega), (HAT.out.keep.trans (HK4.out.mono fun _ e => e.elim)).trans HF7.out, keep_blk HF7.out (HK4.out.blk HAT.out.box) (fun e => by have e : B8 = D := e; have := HNB.out; omega), sat_keepD (HM1.out.keep HK4.out fun e => e) HF7.out (HAT.out.sat.stay HK4.out) HX.out.ne, has_keepD (HM1.out.keep HK4.out fun e => e) HF7.out (HAT.out.has.stay HK4.out), Nat.lt_trans HB3.out hxl, fun j hj => by
                rw [HB2.out j, Bool.and_eq_true] at hj
                exact HAT.out.undone j hj.1, fun j h3 h4 => by
                rcases HAT.out.tried j h3 h4 with h5 | h5
                · by_cases e : j = n
                  · right
                    intro o
                    rw [e, ord_next hnl, HNX.out]
                    dsimp only
                    rw [HDN.out]
                    exact hno o
                  · left
                    rw [HB2.out j, h5]; simp [e]
                · exact .inr h5⟩)
              have HMS := HB3
              obtain ⟨x2, hx2⟩ : ∃ x2, x &&& (x - 1) = x2 := ⟨_, rfl⟩
              rw [hx2] at HREL HMS hand
              clear hx2 hno
              go_wp2_with fail
              exact ⟨⟨_, rfl, HREL.out⟩, by simp only [intOf]; have := HMS.out; omega⟩
            | true =>
              have hyes : ordB cs dn (l3.map Kc.plain) o4 = true := HF1.out
              have HY := Lib.hid (show ordB cs d (l.map Kc.plain) (n :: o4) = true by
                rw [ord_next hnl, HNX.out]
                dsimp only
                rw [HDN.out]
                exact hyes)
              have HOL := Lib.hid (show o4.length ≤ 16777216 ∧ (n :: o4).length ≤ 2 ^ cs.length - d by
                have h9 := HF3b.out HG2.out
                have h8 := HG1.out
                have h7 : 2 ^ cs.length ≤ 2 ^ 24 := Nat.pow_le_pow_right (by decide) hlen
                have h6 : (2 : Nat) ^ 24 = 16777216 := by decide
                rw [List.length_cons]
                omega)
              clear hyes
              obtain ⟨i0, hi, hz0, hz1, hz2⟩ := info_parts info_int3
              have HI := Lib.hid hi; have HZ0 := Lib.hid hz0; have HZ1 := Lib.hid hz1; have HZ2 := Lib.hid hz2
              have HOWN := Lib.hid (one_row w4 w4.heap.size n (Nat.le_refl _))
              have HSUP := Lib.hid (show ∀ q ∈ L4, q ∈ L ∨ Sup d q.1 from fun q hq => by
                rcases HF6.out q hq with h | h
                · exact (HL1.out q h).imp id fun h => h.1
                · rw [← HDN.out] at h; exact .inr (sup_or HUN.out h).1)
              have HKD := Lib.hid ((HAT.out.keep.trans (HK4.out.mono fun _ e => e.elim)).trans HF7.out)
              clear hi hz0 hz1 hz2
              cases q4 with
              | none =>
                obtain ⟨rfl, rfl⟩ := HF3.out rfl
                go_wp2_with (at_builtin; refine wpList_append_own_none rfl (.tmp 75) (.tmp 76) 22 rfl w4.heap.size 3 i0 1 (by kernel_rfl) HI.out _ 1 _ rfl HOWN.out rfl ?_)
                go_ret2
                have k4 := KeepBut.alloc (fun _ => False) w4 (.cells #[.int .i64 n] 3)
                exact ⟨true, some ⟨w4.heap.size, 0, none⟩, 1, [n], L4, rfl, by rw [if_pos rfl]; exact HY.out, (by
                  obtain ⟨p, c, h1, h2⟩ := OwnI.of_row (xs := [(n : Int)]) HOWN.out
                  cases h1
                  exact h2.rd), (fun e => by cases e), fun _ => HOL.out.2, HF4.out.keep k4 fun e => e, HF5.out, HSUP.out, HKD.out.trans (k4.mono fun _ e => e.elim)⟩
              | some a =>
                have hlen4 : (natI o4).length = o4.length := natI_length o4
                go_wp2_with (at_builtin; go_loud (refine wpList_append_own _ rfl (.tmp 75) (.tmp 76) 22 rfl w4.heap.size 3 i0 (.int .i64 0) 1 8 (by kernel_rfl) HI.out HZ0.out HZ1.out HZ2.out rfl (by decide) _ 1 _ rfl HOWN.out a o4.length c4 (ints (natI o4)) rfl (by rw [ints_length, natI_length]; omega) ((HF2.out.stay (KeepBut.alloc (fun _ => False) w4 _)).adds) (fun u hu => by obtain ⟨z, _, rfl⟩ := List.mem_map.1 hu; rfl) (by have := HOL.out.1; unfold maxLen; omega) (by have := HOL.out.1; omega) (by rw [World.size_alloc]; omega) ?_)
                             intro v5 w5 h1 h2 _
                             have H1 := Lib.hid h1; have H2 := Lib.hid h2
                             clear h1 h2)
                go_ret2
                have hrow : w5.ownsRow w4.heap.size 3 1 v5 (natI (n :: o4)).length (ints (natI (n :: o4))) := by
                  have h9 := H1.out
                  have e : (natI (n :: o4)).length = 1 + o4.length := by rw [natI_length, List.length_cons]; omega
                  rw [e]
                  exact h9
                obtain ⟨p5, c5, rfl, hown5⟩ := OwnI.of_row hrow
                have k5 : KeepBut (fun _ => False) w4 w5 := (KeepBut.alloc (fun _ => False) w4 (.cells #[.int .i64 n] 3)).new (KeepBut.grown (E := fun j => j = w4.heap.size) H2.out fun j e => by cases e; rfl) fun j e => by have e : j = w4.heap.size := e; omega
                exact ⟨true, p5, c5, n :: o4, L4, (by rw [natI_length]; rfl), by rw [if_pos rfl]; exact HY.out, hown5.rd, (fun e => by
                  subst e
                  have h9 := hown5.rd 0 (.int .i64 n) rfl
                  obtain ⟨b, o, h9, -⟩ := h9
                  cases h9), fun _ => HOL.out.2, HF4.out.keep k5 fun e => e, HF5.out, HSUP.out, HKD.out.trans (k5.mono fun _ e => e.elim)⟩

end Go.Proofs.YtoolpifkfgileaaDoor
