/-
  The reference of chapter 19: digits, Key.
-/
import Derived.Test.YtopodipjapiaoaaDoorRef2
import Derived.Laws.Concat
namespace Go.Proofs.YtopodipjapiaoaaDoor
open Go Go.RowKit Own

/-- a number's text -/
def istr (v : Int) : ByteArray := ⟨(Lib.itoa v).toArray⟩

theorem istr_size (v : Int) (h : In64 v) : (istr v).size ≤ 21 := by
  have := Lib.itoa_length_le v h.1 h.2
  simpa [istr, ByteArray.size] using this

theorem itoa_nn (u : Nat) : Lib.itoa (u : Int) = Lib.decDigits u := Lib.itoa_nonneg u

theorem mk_app (a b : List UInt8) : (⟨a.toArray⟩ : ByteArray) ++ ⟨b.toArray⟩ = ⟨(a ++ b).toArray⟩ := ByteArray.mk_append_mk a b

theorem istr_step (u : Nat) (h : ¬ u < 10) : istr ((u / 10 : Nat) : Int) ++ istr ((u % 10 : Nat) : Int) = istr (u : Int) := by
  unfold istr
  rw [mk_app, itoa_nn, itoa_nn, itoa_nn, Lib.decDigits_one (Nat.mod_lt u (by decide))]
  conv => rhs; rw [Lib.decDigits, dif_neg h]

theorem istr_neg (u : Nat) (h : 1 ≤ u) : (⟨#[45]⟩ : ByteArray) ++ istr (u : Int) = istr (-(u : Int)) := by
  unfold istr
  rw [Lib.itoa_neg u h, itoa_nn]
  exact mk_app [45] _

set_option maxHeartbeats 8000000 in
theorem digits_nn : ∀ (m u : Nat), u ≤ m → u ≤ 9223372036854775807 → ∀ w : World, Calls Tryd.prog 41 #[.int .i64 u] w fun e w' => e = .returned (.string (istr u)) ∧ w' = w
  | m, u, hm, hu, w => by
    by_cases h : u < 10
    · have h' : u = 0 ∨ u = 1 ∨ u = 2 ∨ u = 3 ∨ u = 4 ∨ u = 5 ∨ u = 6 ∨ u = 7 ∨ u = 8 ∨ u = 9 := by omega
      have hd := Lib.hid (show istr (u : Int) = ⟨[UInt8.ofNat (48 + u)].toArray⟩ by unfold istr; rw [itoa_nn, Lib.decDigits_one h])
      clear hm hu h
      rcases h' with h | h | h | h | h | h | h | h | h | h <;> subst h <;>
        (go_enter Tryd.func41, Tryd.ntmps41
         go_wp2
         go_ret
         exact ⟨by rw [hd.out]; rfl, rfl⟩)
    · have hu10 : u / 10 < u := Nat.div_lt_self (by omega) (by decide)
      have IH : Hid (∀ (v : Nat) W, (v = u / 10 ∨ v = u % 10) → Calls Tryd.prog 41 #[.int .i64 v] W fun e w' => e = .returned (.string (istr v)) ∧ w' = W) := fun v W hv => by
        match m, hm with
        | m + 1, hm => exact digits_nn m v (by omega) (by omega) W
        | 0, hm => omega
      have hq0 : (u : Int).tdiv 10 = ((u / 10 : Nat) : Int) := rfl
      have hr0 : (u : Int).tmod 10 = ((u % 10 : Nat) : Int) := rfl
      have hq : IntKind.i64.wrap ((u / 10 : Nat) : Int) = ((u / 10 : Nat) : Int) := IntWalk.i64_in _ (by omega)
      have hr : IntKind.i64.wrap ((u % 10 : Nat) : Int) = ((u % 10 : Nat) : Int) := IntWalk.i64_in _ (by omega)
      have hap := istr_step u h
      have s1 := istr_size ((u / 10 : Nat) : Int) ⟨by omega, by omega⟩
      have s2 := istr_size ((u % 10 : Nat) : Int) ⟨by omega, by omega⟩
      have hsz : ¬ 9223372036854775807 < (istr ((u / 10 : Nat) : Int)).size + (istr ((u % 10 : Nat) : Int)).size := by omega
      have h0 : ¬ (u : Int) < 0 := by omega
      have h9 : (9 : Int) < u := by omega
      obtain ⟨a, ha⟩ : ∃ a : Nat, a = u / 10 := ⟨_, rfl⟩
      obtain ⟨b, hb⟩ : ∃ b : Nat, b = u % 10 := ⟨_, rfl⟩
      rw [← ha, ← hb] at IH
      rw [← ha] at hq0 hq hap hsz
      rw [← hb] at hr0 hr hap hsz
      clear s1 s2 ha hb hu10 hm hu h
      go_enter Tryd.func41, Tryd.ntmps41
      go_wp2_with (go_at_call 41; refine (IH.out _ _ (by first | exact .inl rfl | exact .inr rfl)).mono ?_; rintro e w' ⟨rfl, hww⟩; have hww := hww.symm; subst hww)
      go_ret
      exact ⟨by first | rfl | (show Ending.returned (.string (istr (a : Int) ++ istr (b : Int))) = _; rw [hap]), rfl⟩

theorem istr_step_neg (u : Nat) (h : ¬ u < 10) : istr (-((u / 10 : Nat) : Int)) ++ istr ((u % 10 : Nat) : Int) = istr (-(u : Int)) := by
  have h1 : 1 ≤ u / 10 := by omega
  rw [← istr_neg (u / 10) h1, ← istr_neg u (by omega), ← istr_step u h]
  unfold istr
  rw [show (⟨#[45]⟩ : ByteArray) = ⟨[45].toArray⟩ from rfl, mk_app, mk_app, mk_app, mk_app, List.append_assoc]

set_option maxHeartbeats 8000000 in
theorem digits_any (n : Int) (hn : In64 n) (w : World) : Calls Tryd.prog 41 #[.int .i64 n] w fun e w' => e = .returned (.string (istr n)) ∧ w' = w := by
  by_cases h0 : 0 ≤ n
  · obtain ⟨u, rfl⟩ : ∃ u : Nat, n = u := ⟨n.toNat, by omega⟩
    exact digits_nn u u (Nat.le_refl _) (by have := hn.2; omega) w
  · obtain ⟨u, rfl⟩ : ∃ u : Nat, n = -(u : Int) := ⟨n.natAbs, by omega⟩
    have hu : u ≤ 9223372036854775808 := by have := hn.1; omega
    have hneg : (-(u : Int)) < 0 := by omega
    by_cases h : u < 10
    · have h9 : ¬ (-(u : Int)) < -9 := by omega
      have hw : IntKind.i64.wrap (u : Int) = (u : Int) := IntWalk.i64_in _ (by omega)
      have IH : Hid (∀ W, Calls Tryd.prog 41 #[.int .i64 u] W fun e w' => e = .returned (.string (istr u)) ∧ w' = W) := fun W => digits_nn u u (Nat.le_refl _) (by omega) W
      have hap := istr_neg u (by omega)
      have s1 := istr_size (u : Int) ⟨by omega, by omega⟩
      have hsz : ¬ 9223372036854775807 < (⟨#[45]⟩ : ByteArray).size + (istr (u : Int)).size := by
        have : (⟨#[45]⟩ : ByteArray).size = 1 := rfl
        omega
      have hsz' : ¬ 9223372036854775807 < 1 + (istr (u : Int)).size := by omega
      clear s1 hn h0 hu
      go_enter Tryd.func41, Tryd.ntmps41
      go_wp2_with (go_at_call 41; refine (IH.out _).mono ?_; rintro e w' ⟨rfl, hww⟩; have hww := hww.symm; subst hww)
      go_ret
      exact ⟨by first | rfl | (show Ending.returned (.string ((⟨#[45]⟩ : ByteArray) ++ istr (u : Int))) = _; rw [hap]), rfl⟩
    · have IH : Hid (∀ (v : Nat) W, (v = u / 10 ∨ v = u % 10) → Calls Tryd.prog 41 #[.int .i64 v] W fun e w' => e = .returned (.string (istr v)) ∧ w' = W) := fun v W hv => digits_nn v v (Nat.le_refl _) (by omega) W
      have hq0 : (-(u : Int)).tdiv 10 = -((u / 10 : Nat) : Int) := by rw [Int.neg_tdiv]; rfl
      have hr0 : (-(u : Int)).tmod 10 = -((u % 10 : Nat) : Int) := by rw [Int.neg_tmod]; rfl
      have hq0' : (u : Int).tdiv 10 = ((u / 10 : Nat) : Int) := rfl
      have hr0' : (u : Int).tmod 10 = ((u % 10 : Nat) : Int) := rfl
      have hq : IntKind.i64.wrap (-((u / 10 : Nat) : Int)) = -((u / 10 : Nat) : Int) := IntWalk.i64_in _ (by omega)
      have hr : IntKind.i64.wrap (-((u % 10 : Nat) : Int)) = -((u % 10 : Nat) : Int) := IntWalk.i64_in _ (by omega)
      have hq' : IntKind.i64.wrap ((u / 10 : Nat) : Int) = ((u / 10 : Nat) : Int) := IntWalk.i64_in _ (by omega)
      have hr' : IntKind.i64.wrap ((u % 10 : Nat) : Int) = ((u % 10 : Nat) : Int) := IntWalk.i64_in _ (by omega)
      have hap1 := istr_neg (u / 10) (by omega)
      have hap2 := istr_step_neg u h
      have s1 := istr_size ((u / 10 : Nat) : Int) ⟨by omega, by omega⟩
      have s2 := istr_size ((u % 10 : Nat) : Int) ⟨by omega, by omega⟩
      have s3 := istr_size (-((u / 10 : Nat) : Int)) ⟨by omega, by omega⟩
      have hsz1 : ¬ 9223372036854775807 < 1 + (istr ((u / 10 : Nat) : Int)).size := by omega
      have hsz2 : ¬ 9223372036854775807 < (istr (-((u / 10 : Nat) : Int))).size + (istr ((u % 10 : Nat) : Int)).size := by omega
      have h9 : (-(u : Int)) < -9 := by omega
      obtain ⟨a, ha⟩ : ∃ a : Nat, a = u / 10 := ⟨_, rfl⟩
      obtain ⟨b, hb⟩ : ∃ b : Nat, b = u % 10 := ⟨_, rfl⟩
      rw [← ha, ← hb] at IH hap2 hsz2
      rw [← ha] at hq0 hq hap1 hsz1 hq0' hq'
      rw [← hb] at hr0 hr hr0' hr'
      clear s1 s2 s3 ha hb hn h0 hu h
      go_enter Tryd.func41, Tryd.ntmps41
      go_wp2_with (go_at_call 41; refine (IH.out _ _ (by first | exact .inl rfl | exact .inr rfl)).mono ?_; rintro e w' ⟨rfl, hww⟩; have hww := hww.symm; subst hww)
      go_ret
      exact ⟨by first | rfl | (show Ending.returned (.string ((⟨#[45]⟩ : ByteArray) ++ istr (a : Int) ++ istr (b : Int))) = _; rw [hap1, hap2]), rfl⟩

end Go.Proofs.YtopodipjapiaoaaDoor
