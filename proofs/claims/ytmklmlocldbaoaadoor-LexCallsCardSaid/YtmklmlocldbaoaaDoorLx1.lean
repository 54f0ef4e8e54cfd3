/-
  lex: of, inWord, span; strings.IndexByte, Fields by their contracts.
-/
import Derived.Test.YtmklmlocldbaoaaDoorLex
import Derived.Test.YtmklmlocldbaoaaDoorMem
import Derived.Test.YtmklmlocldbaoaaDoorProg
import Derived.WalkKit
import Derived.Lib.Hide
import Derived.KernelRfl
namespace Go.Proofs.YtmklmlocldbaoaaDoor
open Go Go.RowKit Own

theorem ret_int {k : IntKind} {a b : Int} (h : a = b) : Ending.returned (.int k a) = .returned (.int k b) := by rw [h]
theorem ret_bool {a b : Bool} (h : a = b) : Ending.returned (.bool a) = .returned (.bool b) := by rw [h]

def byteV (c : UInt8) : Value := .int .u8 (c.toNat : Int)

/-- what a byte begins, by its number -/
def kindI (n : Int) : Int := if n = 9 ∨ n = 10 ∨ n = 13 ∨ n = 32 then 1 else if n = 35 then 2 else if 97 ≤ n ∧ n ≤ 122 then 3 else if 48 ≤ n ∧ n ≤ 57 then 4 else 0

theorem kind_letter (c : UInt8) : (kindI (c.toNat : Int) == 3) = letterB c := by
  unfold kindI letterB
  repeat' split
  all_goals simp
  all_goals omega
theorem kind_digit (c : UInt8) : (kindI (c.toNat : Int) == 4) = digitB c := by
  unfold kindI digitB
  repeat' split
  all_goals simp
  all_goals omega
theorem kind_blank (c : UInt8) : (kindI (c.toNat : Int) == 1) = blankB c := by
  unfold kindI blankB
  have e : ∀ k : Nat, (c.toNat == k) = decide ((c.toNat : Int) = k) := fun k => by
    rw [Bool.eq_iff_iff]; simp
    omega
  rw [e, e, e, e]
  by_cases h : (c.toNat : Int) = 9 ∨ (c.toNat : Int) = 10 ∨ (c.toNat : Int) = 13 ∨ (c.toNat : Int) = 32
  · rw [if_pos h]
    rcases h with h | h | h | h <;> simp [h]
  · rw [if_neg h]
    simp only [not_or] at h
    obtain ⟨h1, h2, h3, h4⟩ := h
    have : (if (c.toNat : Int) = 35 then (2 : Int) else if 97 ≤ (c.toNat : Int) ∧ (c.toNat : Int) ≤ 122 then 3 else if 48 ≤ (c.toNat : Int) ∧ (c.toNat : Int) ≤ 57 then 4 else 0) ≠ 1 := by
      repeat' split
      all_goals decide
    rw [beq_eq_false_iff_ne.2 this]
    simp [h1, h2, h3, h4]
theorem kind_note (c : UInt8) : (kindI (c.toNat : Int) == 2) = (c == 35) := by
  by_cases h : c = 35
  · subst h; rfl
  · have hn : (c.toNat : Int) ≠ 35 := fun e => h (UInt8.toNat_inj.1 (show c.toNat = 35 by omega))
    have : kindI (c.toNat : Int) ≠ 2 := by
      unfold kindI
      rw [if_neg (show ¬ (c.toNat : Int) = 35 from hn)]
      repeat' split
      all_goals decide
    rw [beq_eq_false_iff_ne.2 this, beq_eq_false_iff_ne.2 h]

theorem of_int (n : Int) (w : World) :
    Calls Tryd.prog 26 #[.int .u8 n] w fun e w' => e = .returned (.int .i64 (kindI n)) ∧ w' = w := by
  by_cases h1 : n = 9
  · subst h1
    go_enter Tryd.func26, Tryd.ntmps26
    go_wp2
    go_ret
    exact ⟨rfl, rfl⟩
  by_cases h2 : n = 10
  · subst h2
    go_enter Tryd.func26, Tryd.ntmps26
    go_wp2
    go_ret
    exact ⟨rfl, rfl⟩
  by_cases h3 : n = 13
  · subst h3
    go_enter Tryd.func26, Tryd.ntmps26
    go_wp2
    go_ret
    exact ⟨rfl, rfl⟩
  by_cases h4 : n = 32
  · subst h4
    go_enter Tryd.func26, Tryd.ntmps26
    go_wp2
    go_ret
    exact ⟨rfl, rfl⟩
  by_cases h5 : n = 35
  · subst h5
    go_enter Tryd.func26, Tryd.ntmps26
    go_wp2
    go_ret
    exact ⟨rfl, rfl⟩
  have b1 : (n == 9) = false := by simpa using h1
  have b2 : (n == 10) = false := by simpa using h2
  have b3 : (n == 13) = false := by simpa using h3
  have b4 : (n == 32) = false := by simpa using h4
  have b5 : (n == 35) = false := by simpa using h5
  have e0 : kindI n = if 97 ≤ n ∧ n ≤ 122 then 3 else if 48 ≤ n ∧ n ≤ 57 then 4 else 0 := by
    unfold kindI
    rw [if_neg (by omega), if_neg h5]
  by_cases h6 : 97 ≤ n
  · by_cases h7 : n ≤ 122
    · have HE := Lib.hid (show kindI n = 3 by rw [e0, if_pos ⟨h6, h7⟩])
      clear h1 h2 h3 h4 h5 e0
      go_enter Tryd.func26, Tryd.ntmps26
      go_wp2
      go_ret
      exact ⟨ret_int HE.out.symm, rfl⟩
    · have h8 : 48 ≤ n := by omega
      have h9 : ¬ n ≤ 57 := by omega
      have HE := Lib.hid (show kindI n = 0 by rw [e0, if_neg (by omega), if_neg (by omega)])
      clear h1 h2 h3 h4 h5 e0
      go_enter Tryd.func26, Tryd.ntmps26
      go_wp2
      go_ret
      exact ⟨ret_int HE.out.symm, rfl⟩
  · by_cases h8 : 48 ≤ n
    · by_cases h9 : n ≤ 57
      · have HE := Lib.hid (show kindI n = 4 by rw [e0, if_neg (by omega), if_pos ⟨h8, h9⟩])
        clear h1 h2 h3 h4 h5 e0
        go_enter Tryd.func26, Tryd.ntmps26
        go_wp2
        go_ret
        exact ⟨ret_int HE.out.symm, rfl⟩
      · have HE := Lib.hid (show kindI n = 0 by rw [e0, if_neg (by omega), if_neg (by omega)])
        clear h1 h2 h3 h4 h5 e0
        go_enter Tryd.func26, Tryd.ntmps26
        go_wp2
        go_ret
        exact ⟨ret_int HE.out.symm, rfl⟩
    · have HE := Lib.hid (show kindI n = 0 by rw [e0, if_neg (by omega), if_neg (by omega)])
      clear h1 h2 h3 h4 h5 e0
      go_enter Tryd.func26, Tryd.ntmps26
      go_wp2
      go_ret
      exact ⟨ret_int HE.out.symm, rfl⟩

theorem byte_beq (c : UInt8) (k : Nat) (hk : k < 256) : ((c.toNat : Int) == (k : Int)) = (c.toNat == k) := by
  rw [Bool.eq_iff_iff]; simp; omega

theorem inWord_any (c : UInt8) (w : World) :
    Calls Tryd.prog 28 #[byteV c] w fun e w' => e = .returned (.bool (wordB c)) ∧ w' = w := by
  unfold wordB byteV
  have e5 := byte_beq c 95 (by decide)
  rw [← kind_letter, ← kind_digit, ← e5]
  obtain ⟨n, hn⟩ : ∃ n : Int, (c.toNat : Int) = n := ⟨_, rfl⟩
  rw [hn]
  clear hn e5
  obtain ⟨k, hk⟩ : ∃ k : Int, kindI n = k := ⟨_, rfl⟩
  have hO := Lib.hid (fun w => of_int n w)
  rw [hk] at hO ⊢
  clear hk
  cases h3 : (k == 3) <;> cases h4 : (k == 4) <;> cases h95 : (n == 95) <;>
    (go_enter Tryd.func28, Tryd.ntmps28
     go_wp2_with (go_at_call 26; refine (hO.out _).mono ?_; rintro e w' ⟨rfl, rfl⟩)
     go_ret
     exact ⟨by simp_all, rfl⟩)

theorem isDigit_any (c : UInt8) (w : World) :
    Calls Tryd.prog 53 #[byteV c] w fun e w' => e = .returned (.bool (digitB c)) ∧ w' = w := by
  unfold byteV
  rw [← kind_digit]
  go_enter Tryd.func53, Tryd.ntmps53
  go_wp2_with (go_at_call 26; refine (of_int _ _).mono ?_; rintro e w' ⟨rfl, rfl⟩)
  go_ret
  exact ⟨rfl, rfl⟩

end Go.Proofs.YtmklmlocldbaoaaDoor
