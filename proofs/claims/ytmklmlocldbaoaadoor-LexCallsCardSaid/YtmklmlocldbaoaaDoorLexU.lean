/-
  strings.IndexFunc at the predicates of package lex, in plain.
-/
import Derived.Test.YtmklmlocldbaoaaDoorLex
import Derived.Lib.DecodeN
import Derived.Shelf.GgClosure.StringsIndexFunc
namespace Go.Proofs.YtmklmlocldbaoaaDoor
open Go

theorem drop_at {s : ByteArray} {i : Nat} (h : i < s.size) : s.data.toList.drop i = s.get! i :: s.data.toList.drop (i + 1) := by
  have hl : i < s.data.toList.length := by simpa using h
  rw [List.drop_eq_getElem_cons hl]
  congr 1
  simp [ByteArray.get!, h]

theorem decode_small (s : ByteArray) (i : Nat) (h : (s.get! i).toNat < 128) : Utf8.decode s i = ((s.get! i).toNat, 1) := by
  rw [Lib.decode_at]; unfold Lib.decodeN; rw [if_pos h]
theorem decode_big (s : ByteArray) (i : Nat) (h : 128 ≤ (s.get! i).toNat) : 128 ≤ (Utf8.decode s i).1 := by
  rw [Lib.decode_at]; unfold Lib.decodeN; rw [if_neg (by omega)]
  repeat' split
  all_goals simp only
  all_goals omega

theorem idx_span {q : UInt8 → Bool} {p : Nat → Bool} (hq : ∀ c : UInt8, 128 ≤ c.toNat → q c = false) (hp : ∀ c : UInt8, c.toNat < 128 → p c.toNat = !q c) (hp2 : ∀ r, 128 ≤ r → p r = true) (s : ByteArray) :
    ∀ f pos, s.size ≤ pos + f → pos ≤ s.size → Lib.idxFuncFrom p true s f pos =
      if ((s.data.toList.drop pos).takeWhile q).length = (s.data.toList.drop pos).length then -1 else ((pos + ((s.data.toList.drop pos).takeWhile q).length : Nat) : Int)
  | 0, pos, h1, h2 => by
    have : pos = s.size := by omega
    subst this
    have e : s.data.toList.drop s.size = [] := List.drop_eq_nil_of_le (by simp)
    rw [e]
    simp [Lib.idxFuncFrom]
  | f + 1, pos, h1, h2 => by
    unfold Lib.idxFuncFrom
    by_cases h : pos < s.size
    · rw [if_pos h, drop_at h]
      by_cases hb : (s.get! pos).toNat < 128
      · rw [decode_small s pos hb]
        simp only
        rw [hp _ hb]
        cases hc : q (s.get! pos)
        · simp [List.takeWhile, hc]
        · rw [if_neg (by simp), idx_span hq hp hp2 s f (pos + 1) (by omega) (by omega), takeWhile_pos hc, List.length_cons, List.length_cons]
          by_cases he : ((s.data.toList.drop (pos + 1)).takeWhile q).length = (s.data.toList.drop (pos + 1)).length
          · rw [if_pos he, if_pos (by omega)]
          · rw [if_neg he, if_neg (by omega)]
            congr 1
            omega
      · rw [hp2 _ (decode_big s pos (by omega)), if_pos rfl]
        have hc := hq (s.get! pos) (by omega)
        simp [List.takeWhile, hc]
    · rw [if_neg h]
      have : pos = s.size := by omega
      subst this
      have e : s.data.toList.drop s.size = [] := List.drop_eq_nil_of_le (by simp)
      rw [e]
      simp
theorem word_small (c : UInt8) (h : 128 ≤ c.toNat) : wordB c = false := by
  unfold wordB letterB digitB
  simp
  omega
theorem digit_small (c : UInt8) (h : 128 ≤ c.toNat) : digitB c = false := by
  unfold digitB
  simp
  omega

end Go.Proofs.YtmklmlocldbaoaaDoor
