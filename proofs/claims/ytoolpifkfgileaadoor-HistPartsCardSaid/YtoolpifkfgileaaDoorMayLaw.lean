/-
  In plain: a content's text tells it; how May and Do agree. No code in sight.
-/
import Derived.Test.YtoolpifkfgileaaDoorKey
import Derived.Laws.Strings
namespace Go.Proofs.YtoolpifkfgileaaDoor
open Go Go.RowKit Own

theorem dig_nat (d : Nat) (h : d < 10) : (UInt8.ofNat (48 + d)).toNat = 48 + d := by
  rw [UInt8.toNat_ofNat']
  exact Nat.mod_eq_of_lt (by omega)

theorem dec_bytes : ∀ (n u : Nat), u ≤ n → ∀ b ∈ Lib.decDigits u, 48 ≤ b.toNat ∧ b.toNat ≤ 57
  | n, u, hn, b, hb => by
    rw [Lib.decDigits] at hb
    have hd : ∀ d, d < 10 → ∀ b, b ∈ [UInt8.ofNat (48 + d)] → 48 ≤ b.toNat ∧ b.toNat ≤ 57 := fun d hd b hb => by
      simp only [List.mem_singleton] at hb
      subst hb
      rw [dig_nat d hd]
      omega
    by_cases h : u < 10
    · rw [dif_pos h] at hb
      exact hd u h b hb
    · rw [dif_neg h, List.mem_append] at hb
      rcases hb with hb | hb
      · match n, hn with
        | n + 1, hn => exact dec_bytes n (u / 10) (by omega) b hb
        | 0, hn => omega
      · exact hd _ (by omega) b hb

def valB (l : List UInt8) : Nat := l.foldl (fun a b => a * 10 + (b.toNat - 48)) 0

theorem val_dec : ∀ (n u : Nat), u ≤ n → valB (Lib.decDigits u) = u
  | n, u, hn => by
    rw [Lib.decDigits]
    by_cases h : u < 10
    · rw [dif_pos h]
      simp only [valB, List.foldl_cons, List.foldl_nil, dig_nat u h]
      omega
    · rw [dif_neg h]
      have ih : valB (Lib.decDigits (u / 10)) = u / 10 := by
        match n, hn with
        | n + 1, hn => exact val_dec n (u / 10) (by omega)
        | 0, hn => omega
      unfold valB at ih ⊢
      rw [List.foldl_append, ih]
      simp only [List.foldl_cons, List.foldl_nil, dig_nat (u % 10) (Nat.mod_lt _ (by decide))]
      omega

theorem dec_inj {u v : Nat} (h : Lib.decDigits u = Lib.decDigits v) : u = v := by
  rw [← val_dec u u (Nat.le_refl _), ← val_dec v v (Nat.le_refl _), h]

theorem dec_ne {u : Nat} {l : List UInt8} : Lib.decDigits u ≠ 45 :: l := fun h => by
  have := dec_bytes u u (Nat.le_refl _) 45 (by rw [h]; exact List.mem_cons_self)
  have h45 : (45 : UInt8).toNat = 45 := rfl
  omega

theorem itoa_inj {a b : Int} (h : Lib.itoa a = Lib.itoa b) : a = b := by
  unfold Lib.itoa at h
  split at h <;> split at h
  · have := dec_inj (List.cons.inj h).2
    omega
  · exact absurd h.symm dec_ne
  · exact absurd h dec_ne
  · have := dec_inj h
    omega

theorem itoa_no32 (a : Int) : ∀ b ∈ Lib.itoa a, (b != 32) = true := fun b hb => by
  have key : ∀ u, b ∈ Lib.decDigits u → (b != 32) = true := fun u hu => by
    have := dec_bytes u u (Nat.le_refl _) b hu
    simp only [bne_iff_ne, ne_eq]
    intro e
    subst e
    have h32 : (32 : UInt8).toNat = 32 := rfl
    omega
  unfold Lib.itoa at hb
  split at hb
  · rcases List.mem_cons.1 hb with e | e
    · subst e; decide
    · exact key _ e
  · exact key _ hb

def rowB (xs : List Int) : List UInt8 := xs.flatMap fun x => 32 :: Lib.itoa x

theorem rowB_cons (x : Int) (xs : List Int) : rowB (x :: xs) = 32 :: (Lib.itoa x ++ rowB xs) := by simp [rowB]

theorem rowB_take (xs : List Int) : (rowB xs).takeWhile (· != 32) = [] := by
  cases xs with
  | nil => rfl
  | cons x xs => rw [rowB_cons]; rfl

theorem split_inj {a b : Int} {xs ys : List Int} (h : Lib.itoa a ++ rowB xs = Lib.itoa b ++ rowB ys) : a = b ∧ rowB xs = rowB ys := by
  have h1 : ∀ (c : Int) zs, (Lib.itoa c ++ rowB zs).takeWhile (· != 32) = Lib.itoa c := fun c zs => by
    rw [List.takeWhile_append_of_pos (itoa_no32 c), rowB_take, List.append_nil]
  have e : Lib.itoa a = Lib.itoa b := by rw [← h1 a xs, ← h1 b ys, h]
  refine ⟨itoa_inj e, ?_⟩
  rw [e] at h
  exact List.append_cancel_left h

theorem rowB_inj : ∀ (xs ys : List Int), rowB xs = rowB ys → xs = ys
  | [], [], _ => rfl
  | [], y :: ys, h => by rw [rowB_cons] at h; cases h
  | x :: xs, [], h => by rw [rowB_cons] at h; cases h
  | x :: xs, y :: ys, h => by
    rw [rowB_cons, rowB_cons] at h
    obtain ⟨h1, h2⟩ := split_inj (List.cons.inj h).2
    rw [h1, rowB_inj xs ys h2]

theorem keyB_inj {k l : Int} {xs ys : List Int} (h : keyB k xs = keyB l ys) : k = l ∧ xs = ys := by
  obtain ⟨h1, h2⟩ := split_inj (a := k) (b := l) (xs := xs) (ys := ys) h
  exact ⟨h1, rowB_inj _ _ h2⟩

theorem key_same (k l : Int) (xs ys : List Int) : ((⟨(keyB k xs).toArray⟩ : ByteArray).toList == (⟨(keyB l ys).toArray⟩ : ByteArray).toList) = decide (k = l ∧ xs = ys) := by
  rw [ByteArray.toList_mk, ByteArray.toList_mk]
  by_cases h : k = l ∧ xs = ys
  · rw [decide_eq_true h, h.1, h.2]
    exact beq_self_eq_true _
  · rw [decide_eq_false h]
    exact beq_eq_false_iff_ne.2 fun e => h (keyB_inj e)

theorem doR_code (k op : Int) (xs : List Int) (x : Int) : (doR k op xs x).code ≠ 2 := by
  unfold doR
  split
  · split
    · show (if _ then (1 : Int) else 0) ≠ 2
      split <;> decide
    · show (0 : Int) ≠ 2
      decide
  · show (0 : Int) ≠ 2
    decide

/-- the statement's two words, and what May answers -/
theorem may_law {k op : Int} {xs : List Int} {x v cd dk dv dc de : Int} {ys : List Int} (h : doR k op xs x = ⟨dk, ys, dv, dc, de⟩) (full does : Bool)
    (h1 : (cd == 2 && (v == 0 && (insB op && (de == 7 || (de == 0 && dc == 1))))) = full) (h2 : (de == 0 && (v == dv && cd == dc)) = does) :
    (mayR k op xs x v cd = ⟨k, xs, full⟩ ∧ does = false) ∨ (mayR k op xs x v cd = ⟨dk, ys, true⟩ ∧ full = false ∧ does = true) := by
  have hc : dc ≠ 2 := by have := doR_code k op xs x; rw [h] at this; exact this
  unfold mayR
  rw [h]
  by_cases hcd : cd = 2
  · subst hcd
    left
    rw [if_pos rfl]
    refine ⟨?_, ?_⟩
    · rw [← h1]
      simp [Bool.and_assoc]
    · rw [← h2]
      have : ((2 : Int) == dc) = false := by simpa using fun e => hc e.symm
      rw [this, Bool.and_false, Bool.and_false]
  · have hf : full = false := by
      rw [← h1]
      have : (cd == 2) = false := by simpa using hcd
      rw [this, Bool.false_and]
    rw [if_neg hcd]
    by_cases hd : de = 0 ∧ cd = dc ∧ v = dv
    · right
      rw [if_pos hd]
      refine ⟨rfl, hf, ?_⟩
      rw [← h2, hd.1, hd.2.1, hd.2.2]
      simp
    · left
      rw [if_neg hd, hf]
      refine ⟨rfl, ?_⟩
      rw [← h2]
      cases e : (de == 0 && (v == dv && cd == dc)) with
      | false => rfl
      | true =>
        simp only [Bool.and_eq_true, beq_iff_eq] at e
        exact absurd ⟨e.1, e.2.2, e.2.1⟩ hd

end Go.Proofs.YtoolpifkfgileaaDoor
