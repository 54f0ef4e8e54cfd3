/-
  Package hist: Check; LightHist; bits of uint32.
-/
import Derived.Test.YtoolpifkfgileaaDoorHi4
import Derived.Shelf.Spec.TrailingZeros
import Derived.Deep.CutRange
namespace Go.Proofs.YtoolpifkfgileaaDoor
open Go Go.RowKit Own

def chkH (ks : List Int) (cs : List Cl) : Int := if mayH ks cs = true then (if 24 < cs.length then 3 else 0) else 2
theorem chkH_zero {ks : List Int} {cs : List Cl} (h : chkH ks cs = 0) : mayH ks cs = true ∧ cs.length ≤ 24 := by
  unfold chkH at h
  split at h
  · split at h
    · cases h
    · exact ⟨by assumption, by omega⟩
  · cases h

set_option maxHeartbeats 4000000 in
theorem chkH_any (w : World) (pk pc : Option Addr) (ck cc : Nat) (ks : List Int) (cs : List Cl) (hr : Rd w pk (ints ks)) (hc : RowC w pc cs) (hkl : ks.length ≤ 1099511627776) (hcl : cs.length ≤ 1099511627776) :
    Calls Tryd.prog 11 #[histV pk pc ck cc ks cs] w fun e w' => e = .returned (.int .i64 (chkH ks cs)) ∧ KeepBut (fun _ => False) w w' := by
  obtain ⟨V, B, hV, hB, hb, hkV, -⟩ := fresh_block w (.cells #[.slice pk ks.length ck, .slice pc cs.length cc] 25)
  obtain ⟨b0, b1, -⟩ := blk2 hb
  have HM := Lib.hid (mayH_any V pk pc ck cc ks cs (hr.stay hkV) (hc.stay hkV) hkl hcl)
  have HK := Lib.hid hkV; have HB := Lib.hid hb
  obtain ⟨m, hm⟩ : ∃ m, mayH ks cs = m := ⟨_, rfl⟩
  have HE := Lib.hid (show chkH ks cs = if m = true then (if 24 < cs.length then 3 else 0) else 2 by unfold chkH; rw [hm])
  rw [hm] at HM
  unfold histV at HM ⊢
  clear hr hc hb hkV hm
  go_enter Tryd.func11, Tryd.ntmps11
  go_upto_block 0 with fail
  rw [← hV, ← hB]
  clear hV hB
  cases m with
  | false =>
    go_wp2_with (go_at_call 30; refine HM.out.mono ?_; rintro e w2 ⟨rfl, hk⟩; have HK2 := Lib.hid hk; clear hk)
    go_ret
    exact ⟨ret_int (by rw [HE.out]; rfl), HK.out.trans HK2.out⟩
  | true =>
    by_cases h : 24 < cs.length
    · have hi : (24 : Int) < cs.length := by omega
      have HH := Lib.hid h
      go_wp2_with (go_at_call 30; refine HM.out.mono ?_; rintro e w2 ⟨rfl, hk⟩; obtain ⟨e0, e1, -⟩ := blk2 (hk.blk HB.out); have HK2 := Lib.hid hk; clear hk)
      go_ret
      exact ⟨ret_int (by rw [HE.out, if_pos trivial, if_pos HH.out]), HK.out.trans HK2.out⟩
    · have hi : ¬ (24 : Int) < cs.length := by omega
      have HH := Lib.hid h
      go_wp2_with (go_at_call 30; refine HM.out.mono ?_; rintro e w2 ⟨rfl, hk⟩; obtain ⟨e0, e1, -⟩ := blk2 (hk.blk HB.out); have HK2 := Lib.hid hk; clear hk)
      go_ret
      exact ⟨ret_int (by rw [HE.out, if_pos trivial, if_neg HH.out]), HK.out.trans HK2.out⟩

/-! bits -/
theorem wrap32 {x : Nat} (h : x < 4294967296) : IntKind.u32.wrap (x : Int) = x := by rw [wrap_u32']; omega

set_option maxHeartbeats 1000000 in
theorem tz_core (x k idx : Nat) (w : World) (hx0 : ((x : Int) == 0) = false)
    (key : bits BinOp.and IntKind.u32 (x : Int) (-(x : Int) % 4294967296) * 125613361 % 4294967296 / 134217728 = (idx : Int))
    (hi : idx < 32) (hk : k < 32) (hcell : w.cell? ⟨0, idx, none⟩ = some (.int .u8 k)) :
    Calls Tryd.prog 55 #[.int .u32 x] w fun e w' => e = .returned (.int .i64 k) ∧ w' = w := by
  go_enter Tryd.func55, Tryd.ntmps55
  go_wp2_with (simp only [key])
  go_ret
  exact ⟨rfl, rfl⟩

def BitTab (w : World) : Prop := TabAt 0 Lib.deBruijn32tab w

theorem tz_any (x : Nat) (hx : x < 4294967296) (h0 : x ≠ 0) (w : World) (hT : BitTab w) :
    Calls Tryd.prog 55 #[.int .u32 x] w fun e w' => e = .returned (.int .i64 (Lib.ctz 32 x : Nat)) ∧ w' = w := by
  obtain ⟨hlow, hk⟩ := Lib.lowest_bit 32 x h0 hx
  obtain ⟨hi, htab⟩ := Lib.deBruijn32_at _ hk
  have hcell := hT _ hi
  rw [htab] at hcell
  exact tz_core x _ _ w (by simp; omega) (tz32_key x _ hx h0 hlow) hi hk hcell

theorem Own.KeepBut.bitTab {w w' : World} (h : KeepBut (fun _ => False) w w') (t : BitTab w) : BitTab w' := fun j hj => h.stay (t j hj)

/-- the lowest bit, and what is left without it -/
theorem low_bit {x : Nat} (h0 : x ≠ 0) (hx : x < 4294967296) : x.testBit (Lib.ctz 32 x) = true ∧ (∀ j, (x &&& (x - 1)).testBit j = (x.testBit j && !decide (j = Lib.ctz 32 x))) ∧ (x &&& (x - 1)) < x := by
  obtain ⟨m, hm, hk⟩ := Lib.ctzFrom_spec 32 x (by omega) hx
  have e : Lib.ctz 32 x = Lib.ctzFrom 32 x := by simp [Lib.ctz, h0]
  rw [e]
  obtain ⟨k, hk'⟩ : ∃ k, Lib.ctzFrom 32 x = k := ⟨_, rfl⟩
  rw [hk'] at hm ⊢
  have hp : 0 < 2 ^ k := Nat.two_pow_pos k
  have h1 : x = 2 ^ (k + 1) * m + 2 ^ k := by rw [hm, Nat.mul_add, Nat.mul_one, ← Nat.mul_assoc, ← Nat.pow_succ]
  have h2 : x - 1 = 2 ^ (k + 1) * m + (2 ^ k - 1) := by omega
  have hlt : 2 ^ k < 2 ^ (k + 1) := by rw [Nat.pow_succ]; omega
  have b1 : ∀ j, x.testBit j = if j < k + 1 then decide (k = j) else m.testBit (j - (k + 1)) := fun j => by
    rw [h1, Nat.testBit_two_pow_mul_add m hlt, Nat.testBit_two_pow]
  have b2 : ∀ j, (x - 1).testBit j = if j < k + 1 then decide (j < k) else m.testBit (j - (k + 1)) := fun j => by
    rw [h2, Nat.testBit_two_pow_mul_add m (by omega), Nat.testBit_two_pow_sub_one]
  refine ⟨by rw [b1]; simp, fun j => ?_, ?_⟩
  · rw [Nat.testBit_and, b1, b2]
    by_cases hj : j < k + 1
    · simp only [hj, if_true]
      by_cases h3 : k = j
      · subst h3; simp
      · simp [h3]
    · simp only [hj, if_false]
      have : j ≠ k := by omega
      simp [this]
  · have : (x &&& (x - 1)) ≤ x - 1 := Nat.and_le_right
    omega

theorem bits_or (a b : Nat) (ha : a < 4294967296) (hb : b < 4294967296) : bits .or .u32 (a : Int) (b : Int) = ((a ||| b : Nat) : Int) := by
  have hx : a ||| b < 2 ^ 32 := Nat.or_lt_two_pow (by omega) (by omega)
  have h1 : (BitVec.ofInt 32 (a : Int)).toNat = a := by
    rw [BitVec.ofInt_natCast, BitVec.toNat_ofNat]; exact Nat.mod_eq_of_lt (by omega)
  have h2 : (BitVec.ofInt 32 (b : Int)).toNat = b := by
    rw [BitVec.ofInt_natCast, BitVec.toNat_ofNat]; exact Nat.mod_eq_of_lt (by omega)
  show IntKind.u32.wrap ((BitVec.ofInt 32 (a : Int) ||| BitVec.ofInt 32 (b : Int)).toNat : Int) = _
  rw [BitVec.toNat_or, h1, h2, wrap_u32']
  omega

/-- a without b -/
def without (a b : Nat) : Nat := (BitVec.ofNat 32 a &&& ~~~ BitVec.ofNat 32 b).toNat
theorem without_lt (a b : Nat) : without a b < 4294967296 := (BitVec.ofNat 32 a &&& ~~~ BitVec.ofNat 32 b).isLt
theorem without_bit {a b : Nat} (ha : a < 4294967296) (j : Nat) : (without a b).testBit j = (a.testBit j && !b.testBit j) := by
  unfold without
  rw [← BitVec.getLsbD, BitVec.getLsbD_and, BitVec.getLsbD_not, BitVec.getLsbD_ofNat, BitVec.getLsbD_ofNat]
  by_cases hj : j < 32
  · simp only [hj, decide_true, Bool.true_and]
  · have h2 : 2 ^ 32 ≤ 2 ^ j := Nat.pow_le_pow_right (by decide) (by omega)
    have : a.testBit j = false := Nat.testBit_lt_two_pow (Nat.lt_of_lt_of_le ha h2)
    simp only [hj, decide_false, Bool.false_and, this]
theorem without_zero {a b : Nat} (ha : a < 4294967296) : without a b = 0 ↔ ∀ j, a.testBit j = true → b.testBit j = true := by
  constructor
  · intro h j hj
    have := without_bit (b := b) ha j
    rw [h, hj] at this
    simpa using this.symm
  · intro h
    apply Nat.eq_of_testBit_eq
    intro j
    rw [without_bit ha, Nat.zero_testBit]
    cases hj : a.testBit j with
    | false => rfl
    | true => rw [h j hj]; rfl
theorem bits_without (a b : Nat) : bits .andNot .u32 (a : Int) (b : Int) = (without a b : Int) := by
  have h1 : BitVec.ofInt 32 (a : Int) = BitVec.ofNat 32 a := BitVec.ofInt_natCast _ _
  have h2 : BitVec.ofInt 32 (b : Int) = BitVec.ofNat 32 b := BitVec.ofInt_natCast _ _
  show IntKind.u32.wrap ((BitVec.ofInt 32 (a : Int) &&& ~~~ BitVec.ofInt 32 (b : Int)).toNat : Int) = _
  rw [h1, h2]
  exact wrap32 (without_lt a b)

theorem or_bit (a n j : Nat) : (a ||| 2 ^ n).testBit j = (a.testBit j || decide (j = n)) := by
  rw [Nat.testBit_or, Nat.testBit_two_pow]
  by_cases h : j = n
  · subst h; simp
  · have : ¬ n = j := fun e => h e.symm
    simp [h, this]
theorem pow_lt {n : Nat} (h : n ≤ 24) : 2 ^ n < 4294967296 := by
  have : 2 ^ n ≤ 2 ^ 24 := Nat.pow_le_pow_right (by decide) h
  have e : (2 : Nat) ^ 24 = 16777216 := by decide
  omega

end Go.Proofs.YtoolpifkfgileaaDoor
