/- Joined texts of this work: PcD, Places, Name17. -/
import Derived.Test.YtomlffobbkcmdaaGreatDoorJp13
import Derived.Test.YtomlffobbkcmdaaGreatDoorJp12
import Derived.Deep.CutRange
import Derived.Laws.Strings2
import Derived.Deep.CutBlock

/-
  Package parse: slices.ContainsFunc over expressions, by may's closure (whatever may says of each of them).
-/
namespace Go.Proofs.YtomlffobbkcmdaaGreatDoor
open Go Go.RowKit Own

/-- what may says of an expression -/
def SaysMayG (mb : Gx → Bool) (x : Gx) : Prop := ∀ (w : World) (S : Nat → Prop) (vs : List Value), TabS w → GAt w S vs x →
  Calls Tryz.prog 26 #[.agg vs.toArray] w fun e w' => e = .returned (.bool (mb x)) ∧ KeepBut (fun _ => False) w w'

set_option maxHeartbeats 4000000 in
theorem mayFnG_any (mb : Gx → Bool) (x : Gx) (hS : SaysMayG mb x) (w : World) (hT : TabS w) (S : Nat → Prop) (vs : List Value) (hex : GAt w S vs x) :
    Calls Tryz.prog 60 #[.agg vs.toArray] w fun e w' => e = .returned (.bool (!mb x)) ∧ KeepBut (fun _ => False) w w' := by
  obtain ⟨yk, yo, yn, yS, yp, ym, yc, yl, ycl, rfl⟩ := g_form hex
  obtain ⟨W, C, hW, hC, hcb, hkc, hsc⟩ := fresh_block w (.cells #[.int .i64 yk, .int .i64 yo, .int .i64 yn, .string yS, .slice yp ym yc, .int .i64 yl, .int .i64 ycl] TEx)
  have HM := Lib.hid (hS W S _ (hkc.tabS hT) (hex.keep hkc fun _ _ e => e))
  have HK := Lib.hid hkc
  obtain ⟨n0, n1, n2, n3, n4, n5, n6, -⟩ := blk7 hcb
  obtain ⟨b, hb⟩ : ∃ b, mb x = b := ⟨_, rfl⟩
  rw [hb] at HM ⊢
  clear hS hT hex hcb hkc hsc hb
  go_enter Tryz.func60, Tryz.ntmps60
  go_upto_region 1 with fail
  rw [← hW, ← hC]
  clear hW hC
  go_wp2_with (go_at_call 26; refine HM.out.mono ?_; rintro e w5 ⟨rfl, hk5⟩; have HK5 := Lib.hid hk5; clear hk5)
  go_ret
  exact ⟨rfl, HK.out.trans HK5.out⟩

def IdxG (mb : Gx → Bool) (l : List Gx) (w : World) (e : Ending) (w' : World) : Prop := ∃ k : Int, e = .returned (.int .i64 k) ∧ decide (0 ≤ k) = l.any (fun x => !mb x) ∧ KeepBut (fun _ => False) w w'
set_option maxHeartbeats 8000000 in
theorem idxG_any (mb : Gx → Bool) (l : List Gx) (hS : ∀ i (h : i < l.length), SaysMayG mb l[i]) (hl : l.length ≤ 1099511627776) (w : World) (hT : TabS w) (S : Nat → Prop) (p : Option Addr) (c : Nat) (hp : GKids w S p 0 l) :
    Calls Tryz.prog 95 #[.slice p l.length c, .func (.func 60) #[] #[]] w fun e w' => IdxG mb l w e w' := by
  have HS := Lib.hid hS; have HP := Lib.hid hp; have HT := Lib.hid hT
  clear hS hp hT
  go_enter Tryz.func95, Tryz.ntmps95
  go_wp2_with fail
  go_loopw [8] (fun v8 wr => ∃ k : Nat, v8 = .int .i64 k ∧ k ≤ l.length ∧ (∀ j, (hj : j < k) → (h : j < l.length) → mb l[j] = true) ∧ KeepBut (fun _ => False) w wr) (fun v _ => l.length - (intOf v).toNat)
  case atStart => exact ⟨0, rfl, Nat.zero_le _, fun j h => absurd h (Nat.not_lt_zero _), KeepBut.refl _ _⟩
  case round =>
    obtain ⟨k, rfl, hk, hall, hkk⟩ := hrel
    have HALL := Lib.hid hall; have HK := Lib.hid hkk
    by_cases hlt : k < l.length
    · have hlti : (k : Int) < l.length := by omega
      have hi0 : (0 : Int) ≤ k := by omega
      have hWi : IntKind.i64.wrap ((k : Int) + 1) = (k : Int) + 1 := IntWalk.i64_in _ (by omega)
      obtain ⟨g, o, vs, hp, hc, hex⟩ := gkids_get (HP.out.keep hkk fun _ _ e => e) k hlt
      subst hp
      rw [Nat.zero_add] at hc
      have HFN := Lib.hid (mayFnG_any mb l[k] (HS.out k hlt) wr (hkk.tabS HT.out) S vs hex)
      obtain ⟨yk, yo, yn, yS, yp, ym, yc, yl, ycl, rfl⟩ := g_form hex
      have x0 : wr.cell? ⟨g, o + k * 7, none⟩ = some (.int .i64 yk) := hc 0 _ rfl
      have x1 := hc 1 _ rfl; have x2 := hc 2 _ rfl; have x3 := hc 3 _ rfl; have x4 := hc 4 _ rfl; have x5 := hc 5 _ rfl; have x6 := hc 6 _ rfl
      obtain ⟨a, ha⟩ : ∃ a, mb l[k] = a := ⟨_, rfl⟩
      have HA := Lib.hid ha
      rw [ha] at HFN
      clear hc hex hkk hall ha
      cases a with
      | true =>
        go_wp2_with (go_at_call 60; refine HFN.out.mono ?_; rintro e w2 ⟨rfl, hk2⟩; have HK2 := Lib.hid hk2; clear hk2)
        exact ⟨⟨k + 1, by simp, by omega, fun j hj h => by
          by_cases e : j = k
          · subst e; exact HA.out
          · exact HALL.out j (by omega) h, HK.out.trans HK2.out⟩, by simp only [intOf]; omega⟩
      | false =>
        go_wp2_with (go_at_call 60; refine HFN.out.mono ?_; rintro e w2 ⟨rfl, hk2⟩; have HK2 := Lib.hid hk2; clear hk2)
        go_ret
        refine ⟨k, rfl, ?_, HK.out.trans HK2.out⟩
        rw [decide_eq_true (by omega : (0 : Int) ≤ k)]
        exact (List.any_eq_true.2 ⟨l[k], List.getElem_mem hlt, by rw [HA.out]; rfl⟩).symm
    · have hnl : ¬ (k : Int) < l.length := by omega
      clear hkk hall
      go_wp2_with fail
      go_ret
      refine ⟨-1, rfl, ?_, HK.out⟩
      rw [decide_eq_false (by omega : ¬ (0 : Int) ≤ -1)]
      symm
      rw [List.any_eq_false]
      intro x hx
      obtain ⟨j, hj, e⟩ := List.getElem_of_mem hx
      rw [← e, HALL.out j (by omega) hj]
      exact Bool.false_ne_true

set_option maxHeartbeats 4000000 in
theorem hasG_any (mb : Gx → Bool) (l : List Gx) (hS : ∀ i (h : i < l.length), SaysMayG mb l[i]) (hl : l.length ≤ 1099511627776) (w : World) (hT : TabS w) (S : Nat → Prop) (p : Option Addr) (c : Nat) (hp : GKids w S p 0 l) :
    Calls Tryz.prog 59 #[.slice p l.length c, .func (.func 60) #[] #[]] w fun e w' => e = .returned (.bool (l.any fun x => !mb x)) ∧ KeepBut (fun _ => False) w w' := by
  have HI := Lib.hid (idxG_any mb l hS hl w hT S p c hp)
  clear hS hp hT
  go_enter Tryz.func59, Tryz.ntmps59
  go_wp2_with (go_at_call 95; refine HI.out.mono ?_; rintro e w2 ⟨k, rfl, hd, hk⟩; have HD := Lib.hid hd; have HK := Lib.hid hk; clear hd hk)
  go_ret
  exact ⟨by rw [← HD.out]; rfl, HK.out⟩

end Go.Proofs.YtomlffobbkcmdaaGreatDoor

/-
  LexPlaces, walked.
-/
namespace Go.Proofs.YtomlffobbkcmdaaGreatDoor
open Go Go.RowKit Own

theorem allT_err (L : List UInt8) : ((allT L).2.err = 0 ∧ (allT L).1 = scan L 1 1 false ∧ okS (scan L 1 1 false) ∧ L.length ≤ 8192 ∧ (allT L).2 = ⟨0, 0, 0⟩) ∨ ((allT L).2.err ≠ 0 ∧ (allT L).1 = []) := by
  unfold allT
  by_cases h : 8192 < L.length
  · rw [if_pos h]; exact .inr ⟨by decide, rfl⟩
  · rw [if_neg h]
    have e : scanS L = scan L 1 1 false := rfl
    cases hf : (scanS L).find? (fun i => i.err != 0) with
    | some i =>
      have := List.find?_some hf
      simp only [bne_iff_ne, ne_eq] at this
      exact .inr ⟨this, rfl⟩
    | none =>
      rw [e] at hf ⊢
      rw [List.find?_eq_none] at hf
      exact .inl ⟨rfl, rfl, fun i hi => by simpa using hf i hi, by omega, rfl⟩

/-- All: tokens, or a fault -/
theorem all_cases (s : ByteArray) (its : List Item) (hits : scan s.data.toList 1 1 false = its) :
    (okS its ∧ s.size ≤ 8192 ∧ ∀ w, TabS w → Calls Tryz.prog 64 #[.string s] w fun e w' => ∃ p cap, e = .returned (.tuple #[.slice p its.length cap, .agg #[.int .i64 0, .int .i64 0, .int .i64 0]]) ∧ RowT w' p its ∧ (∀ a, p = some a → w.heap.size ≤ a.block ∧ a.block < w'.heap.size) ∧ KeepBut (fun _ => False) w w') ∨
    ∃ e0 l0 c0 : Nat, e0 ≠ 0 ∧ ∀ w, TabS w → Calls Tryz.prog 64 #[.string s] w fun e w' => ∃ p cap, e = .returned (.tuple #[.slice p 0 cap, .agg #[.int .i64 e0, .int .i64 l0, .int .i64 c0]]) ∧ KeepBut (fun _ => False) w w' := by
  obtain ⟨⟨l, f⟩, hlf⟩ : ∃ x, allT s.data.toList = x := ⟨_, rfl⟩
  have he := allT_err s.data.toList
  rw [hlf, hits] at he
  have hl : s.data.toList.length = s.size := by simp
  rcases he with ⟨_, h1, h2, h3, h4⟩ | ⟨h1, h2⟩
  · simp only at h1 h4
    subst h1 h4
    exact .inl ⟨h2, by omega, fun w hT => all_known hlf w hT⟩
  · simp only at h1 h2
    subst h2
    refine .inr ⟨f.err, f.line, f.col, h1, fun w hT => (all_known hlf w hT).mono ?_⟩
    rintro e w' ⟨p, cap, rfl, _, _, hk⟩
    exact ⟨p, cap, rfl, hk⟩

theorem drop_get {L : List UInt8} {at_ : Nat} (h : at_ < L.length) : ∃ c r, L.drop at_ = c :: r ∧ L.drop (at_ + 1) = r := ⟨_, _, List.drop_eq_getElem_cons h, rfl⟩

/-- the byte at a place -/
theorem byte_at {s : ByteArray} {L : List UInt8} (hL : s.data.toList = L) {at_ : Nat} {c : UInt8} {r : List UInt8} (hd : L.drop at_ = c :: r) : ∀ h : at_ < s.size, (s[at_]'h).toNat = c.toNat := fun h => by
  have e : s.data.toList.drop at_ = c :: r := by rw [hL]; exact hd
  rw [drop_at h] at e
  have e2 := (List.cons.inj e).1
  rw [← e2]
  simp [ByteArray.get!, h]
  rfl
theorem byte_ne {c : UInt8} {k : Nat} (hk : k < 256) (h : c ≠ UInt8.ofNat k) : ((c.toNat : Int) == (k : Int)) = false := by
  rw [byte_beq c k hk]
  rw [beq_eq_false_iff_ne]
  intro e
  exact h (UInt8.toNat_inj.1 (by rw [e, UInt8.toNat_ofNat']; omega))
theorem extract_mid (s : ByteArray) (a n : Nat) : (s.extract a (a + n)).data.toList = (s.data.toList.drop a).take n := by
  rw [ByteArray.data_extract]
  simp

def PlaceRel (L : List UInt8) (its : List Item) (v5 v6 v7 v9 : Value) : Prop :=
  ∃ (a l c : Nat) (note : Bool), v5 = .int .i64 a ∧ v6 = .int .i64 l ∧ v7 = .int .i64 c ∧ v9 = .bool note ∧ a ≤ L.length ∧ l ≤ 1 + a ∧ c ≤ 1 + a ∧ Here (L.drop a) l c note its

end Go.Proofs.YtomlffobbkcmdaaGreatDoor

/-
  lex.Name.
-/
namespace Go.Proofs.YtomlffobbkcmdaaGreatDoor
open Go Go.RowKit Own

set_option maxHeartbeats 4000000 in
theorem nameOk_any (s : ByteArray) (w : World) (htab : TabS w) :
    Calls Tryz.prog 45 #[.string s] w fun e w' => e = .returned (.bool (nameB s.data.toList)) ∧ KeepBut (fun _ => False) w w' := by
  have hsl : s.data.toList.length = s.size := by simp
  obtain ⟨m, hm⟩ : ∃ m, (s.data.toList.takeWhile wordB).length = m := ⟨_, rfl⟩
  obtain ⟨r, hr⟩ : ∃ r, reservedB s.data.toList = r := ⟨_, rfl⟩
  have HR := Lib.hid (show ∀ W : World, TabS W → Calls Tryz.prog 88 #[.string s] W fun e w' => e = .returned (.bool r) ∧ KeepBut (fun _ => False) W w' from fun W h => by
    have := isReserved_any s W h
    rw [hr] at this
    exact this)
  have HS := Lib.hid (show ∀ W : World, Calls Tryz.prog 86 #[.string s, .func (.func 87) #[] #[]] W fun e w' => e = .returned (.int .i64 (m : Nat)) ∧ KeepBut (fun _ => False) W w' from fun W => by
    have := span_any wordB word_small 87 (enters_of Tryz.func87 (by kernel_rfl) rfl) inWord_any s W
    rw [hm] at this
    exact this)
  have HT := Lib.hid htab
  clear htab
  by_cases h0 : 0 < s.size
  · have h0i : (0 : Int) < (s.size : Int) := by omega
    by_cases h16 : s.size ≤ 16
    · have h16i : (s.size : Int) ≤ 16 := by omega
      obtain ⟨c, t, hL⟩ : ∃ c t, s.data.toList = c :: t := by
        cases h : s.data.toList with
        | nil => rw [h] at hsl; simp at hsl; omega
        | cons c t => exact ⟨c, t, rfl⟩
      have hz := byte_at (at_ := 0) hL rfl h0
      obtain ⟨k, hk⟩ : ∃ k : Int, kindI (c.toNat : Int) = k := ⟨_, rfl⟩
      have hO := Lib.hid (fun w => of_int (c.toNat : Int) w)
      rw [hk] at hO
      have HE := Lib.hid (show nameB s.data.toList = ((k == 3) && (((m : Int) == (s.size : Int)) && !r)) by
        unfold nameB
        rw [hr, hm, hsl]
        have e1 : (s.data.toList.headD 0) = c := by rw [hL]; rfl
        have e2 : decide (m = s.size) = ((m : Int) == (s.size : Int)) := by
          rw [Bool.eq_iff_iff]; simp; omega
        rw [e1, e2, ← kind_letter, hk]
        simp [h0, h16])
      clear hm hr hL hk hsl h16
      cases h3 : (k == 3) with
      | false =>
        go_enter Tryz.func45, Tryz.ntmps45
        go_wp2_with (go_at_call 85; refine (hO.out _).mono ?_; rintro e w' ⟨rfl, rfl⟩)
        go_ret
        exact ⟨ret_bool (by rw [HE.out, h3]; rfl), KeepBut.refl _ _⟩
      | true =>
        cases h4 : ((m : Int) == (s.size : Int)) with
        | false =>
          go_enter Tryz.func45, Tryz.ntmps45
          go_wp2_with (first
            | (go_at_call 85; refine (hO.out _).mono ?_; rintro e w' ⟨rfl, rfl⟩)
            | (go_at_call 86; refine (HS.out _).mono ?_; rintro e w2 ⟨rfl, hk2⟩; have HK2 := Lib.hid hk2; clear hk2))
          go_ret
          exact ⟨ret_bool (by rw [HE.out, h3, h4]; rfl), HK2.out⟩
        | true =>
          have HEE := Lib.hid (show nameB s.data.toList = !r by rw [HE.out, h3, h4]; rfl)
          go_enter Tryz.func45, Tryz.ntmps45
          go_wp2_with (first
            | (go_at_call 85; refine (hO.out _).mono ?_; rintro e w' ⟨rfl, rfl⟩)
            | (go_at_call 86; refine (HS.out _).mono ?_; rintro e w2 ⟨rfl, hk2⟩; have HK2 := Lib.hid hk2; clear hk2)
            | (go_at_call 88; refine (HR.out _ (HK2.out.tabS HT.out)).mono ?_; rintro e w3 ⟨rfl, hk3⟩; have HK3 := Lib.hid (HK2.out.trans hk3); clear hk3))
          go_ret
          exact ⟨ret_bool HEE.out.symm, HK3.out⟩
    · have h16i : ¬ (s.size : Int) ≤ 16 := by omega
      have HE := Lib.hid (show nameB s.data.toList = false by unfold nameB; rw [hsl]; simp [h16])
      clear hm hr hsl h0 h16
      go_enter Tryz.func45, Tryz.ntmps45
      go_wp2_with fail
      go_ret
      exact ⟨ret_bool HE.out.symm, KeepBut.refl _ _⟩
  · have h0i : ¬ (0 : Int) < (s.size : Int) := by omega
    have HE := Lib.hid (show nameB s.data.toList = false by unfold nameB; rw [hsl]; simp [h0])
    clear hm hr hsl h0
    go_enter Tryz.func45, Tryz.ntmps45
    go_wp2_with fail
    go_ret
    exact ⟨ret_bool HE.out.symm, KeepBut.refl _ _⟩

end Go.Proofs.YtomlffobbkcmdaaGreatDoor
