/-
  The reference of chapter 19: Key, cut, copied.
-/
import Derived.Test.YtopodipjapiaoaaDoorRef3
import Derived.Test.YtopodipjapiaoaaDoorOwnC
namespace Go.Proofs.YtopodipjapiaoaaDoor
open Go Go.RowKit Own

/-- the text of a content's first items -/
def kstr (k : Int) (xs : List Int) (i : Nat) : ByteArray := ⟨(keyB k (xs.take i)).toArray⟩

theorem kstr_size (k : Int) (xs : List Int) (i : Nat) (hk : In64 k) (hx : ∀ z ∈ xs, In64 z) (hl : xs.length ≤ 1000000) : (kstr k xs i).size ≤ 22000021 := by
  have := keyB_length_le k (xs.take i) hk fun z h => hx z (List.mem_of_mem_take h)
  rw [List.length_take] at this
  have e : (kstr k xs i).size = (keyB k (xs.take i)).length := by simp [kstr, ByteArray.size]
  omega

theorem kstr_zero (k : Int) (xs : List Int) : kstr k xs 0 = istr k := by simp [kstr, istr, keyB]

theorem kstr_step (k : Int) (xs : List Int) (i : Nat) (h : i < xs.length) : (kstr k xs i ++ (⟨#[32]⟩ : ByteArray)) ++ istr (nth xs i) = kstr k xs (i + 1) := by
  unfold kstr istr
  rw [keyB_snoc k xs i h, show (⟨#[32]⟩ : ByteArray) = ⟨[32].toArray⟩ from rfl, mk_app, mk_app]

set_option maxHeartbeats 8000000 in
theorem refKey_any (w : World) (k : Int) (p : Option Addr) (c : Nat) (xs : List Int) (hrd : Rd w p (ints xs)) (hl : xs.length ≤ 1000000) (hk : In64 k) (hx : ∀ z ∈ xs, In64 z) :
    Calls Tryd.prog 26 #[.agg #[.int .i64 k, .slice p xs.length c]] w fun e w' => e = .returned (.string ⟨(keyB k xs).toArray⟩) ∧ KeepBut (fun _ => False) w w' := by
  obtain ⟨V, B, hV, hB, hb, hkV, -⟩ := fresh_block w (.cells #[.int .i64 k, .slice p xs.length c] 24)
  have HR := Lib.hid (hrd.stay hkV)
  have HK := Lib.hid hkV
  have x0 := blk_cell (k := 0) hb rfl
  have x1 := blk_cell (k := 1) hb rfl
  have hD := Lib.hid (show ∀ W, Calls Tryd.prog 41 #[.int .i64 k] W fun e w' => e = .returned (.string (kstr k xs 0)) ∧ w' = W from fun W => by rw [kstr_zero]; exact digits_any k hk W)
  have HX := Lib.hid hx
  have HS := Lib.hid (fun i => kstr_size k xs i hk hx hl)
  have HE := Lib.hid (show kstr k xs xs.length = ⟨(keyB k xs).toArray⟩ by unfold kstr; rw [List.take_length])
  clear hrd hkV hb hk hx
  go_enter Tryd.func26, Tryd.ntmps26
  go_upto_region 1 with fail
  rw [← hV, ← hB]
  clear hV hB
  go_wp2_with (go_at_call 41; refine (hD.out _).mono ?_; rintro e w' ⟨rfl, hww⟩; have hww := hww.symm; subst hww)
  go_loopw [3, 4] (fun v3 v4 wr => wr = V ∧ ∃ i : Nat, i ≤ xs.length ∧ v4 = .int .i64 i ∧ v3 = .string (kstr k xs i)) (fun _ i _ => xs.length - (intOf i).toNat)
  case atStart => exact ⟨by first | rfl | trivial, 0, Nat.zero_le _, rfl, rfl⟩
  case round =>
    obtain ⟨hw, i, hi, rfl, rfl⟩ := hrel
    subst hw
    have hi0 : (0 : Int) ≤ i := by omega
    have hWi : IntKind.i64.wrap ((i : Int) + 1) = i + 1 := IntWalk.i64_in _ (by omega)
    by_cases hlt : i < xs.length
    · have hltI : (i : Int) < xs.length := by omega
      obtain ⟨b, o, rfl, _⟩ := HR.out.ptr (by rw [ints_length]; omega)
      have c1 : wr.cell? ⟨b, o + i, none⟩ = some (.int .i64 (nth xs i)) := HR.out.int i hlt
      have hin : In64 (nth xs i) := HX.out _ (by rw [nth_eq hlt]; exact List.getElem_mem hlt)
      have hDi := Lib.hid (show ∀ W, Calls Tryd.prog 41 #[.int .i64 (nth xs i)] W fun e w' => e = .returned (.string (istr (nth xs i))) ∧ w' = W from fun W => digits_any _ hin W)
      have hap := kstr_step k xs i hlt
      have s1 := HS.out i
      have s2 := istr_size (nth xs i) hin
      have hsz1 : ¬ 9223372036854775807 < (kstr k xs i).size + 1 := by omega
      have hsz2 : ¬ 9223372036854775807 < (kstr k xs i).size + 1 + (istr (nth xs i)).size := by omega
      clear s1 s2 hin
      go_wp2_with (go_at_call 41; refine (hDi.out _).mono ?_; rintro e w' ⟨rfl, hww⟩; have hww := hww.symm; subst hww)
      refine ⟨⟨by first | rfl | trivial, i + 1, by omega, by simp, by first | rfl | rw [hap]⟩, ?_⟩
      simp only [intOf]
      omega
    · have hge : ¬ (i : Int) < (xs.length : Int) := by omega
      have e : i = xs.length := by omega
      subst e
      go_wp2_with fail
      go_ret
      exact ⟨by rw [← HE.out]; rfl, HK.out⟩

end Go.Proofs.YtopodipjapiaoaaDoor
