/-
  Package spec: Do, told as a function of its arguments.
-/
import Derived.Test.YtoolpifkfgileaaDoorDo2
namespace Go.Proofs.YtoolpifkfgileaaDoor
open Go Go.RowKit Own

/-- what a deed comes to: the items behind it, its value, whether it was done -/
def deedR (op : Int) (xs : List Int) (x : Int) : List Int × Int × Bool :=
  if op = 1 ∨ op = 3 then (xs ++ [x], 0, true)
  else if op = 2 then if xs = [] then ([], 0, false) else (cutAt xs (xs.length - 1), nth xs (xs.length - 1), true)
  else if op = 4 then if xs = [] then ([], 0, false) else (cutAt xs 0, nth xs 0, true)
  else if op = 5 then if xs.contains x = true then (xs, 0, false) else (putAt xs (xs.countP (· < x)) x, 0, true)
  else if op = 6 then if xs.contains x = true then (cutAt xs (xs.countP (· < x)), 0, true) else (xs, 0, false)
  else (xs, 0, xs.contains x)

structure DoOut where
  kind : Int
  items : List Int
  val : Int
  code : Int
  err : Int

def doR (k op : Int) (xs : List Int) (x : Int) : DoOut :=
  if chk k xs = 0 ∧ kindOf op = k then
    if (deedR op xs x).1.length ≤ 64 then ⟨k, (deedR op xs x).1, (deedR op xs x).2.1, if (deedR op xs x).2.2 = true then 1 else 0, 0⟩ else ⟨0, [], 0, 0, 7⟩
  else ⟨0, [], 0, 0, 2⟩

theorem nth_eq {xs : List Int} {j : Nat} (h : j < xs.length) : nth xs j = xs[j] := by simp [nth, h]

theorem strict_pairwise {xs : List Int} (h : strictB xs = true) : xs.Pairwise (· < ·) := by
  unfold strictB at h
  have h := of_decide_eq_true h
  rw [List.pairwise_iff_getElem]
  intro i j hi hj hij
  have key : ∀ d, ∀ i j, j = i + 1 + d → j < xs.length → nth xs i < nth xs j := by
    intro d
    induction d with
    | zero => intro i j hj hl; have := h i (by omega) (by omega); rw [show j = i + 1 by omega]; exact this
    | succ d ih =>
      intro i j hj hl
      have h1 := ih i (j - 1) (by omega) (by omega)
      have h2 := h (j - 1) (by omega) (by omega)
      rw [show j - 1 + 1 = j by omega] at h2
      omega
  have := key (j - i - 1) i j (by omega) hj
  rwa [nth_eq hi, nth_eq hj] at this

theorem strict_le {xs : List Int} (h : strictB xs = true) : xs.Pairwise (· ≤ ·) := (strict_pairwise h).imp fun h => Int.le_of_lt h

theorem count_lt {xs : List Int} {x : Int} (h : xs.contains x = true) : xs.countP (· < x) < xs.length := by
  have hm : x ∈ xs := by simpa using h
  rcases Nat.lt_or_ge (xs.countP (· < x)) xs.length with h1 | h1
  · exact h1
  · have := List.countP_eq_length.1 (Nat.le_antisymm List.countP_le_length h1) x hm
    simp at this

theorem kindOf_range {op k : Int} (h : kindOf op = k) (hk : kindB k = true) : op = 1 ∨ op = 2 ∨ op = 3 ∨ op = 4 ∨ op = 5 ∨ op = 6 ∨ op = 7 := by
  unfold kindOf at h
  unfold kindB at hk
  have hk := of_decide_eq_true hk
  split at h
  · omega
  · split at h
    · omega
    · split at h <;> omega

theorem chk_zero {k : Int} {xs : List Int} (h : chk k xs = 0) : kindB k = true ∧ xs.length ≤ 64 ∧ (k = 3 → strictB xs = true) := by
  unfold chk at h
  split at h
  · assumption
  · omega

theorem nil_of_length {xs : List Int} (h : xs ≠ []) : 0 < xs.length := List.length_pos_iff.2 h

theorem deed_any (w : World) (p : Option Addr) (c : Nat) (op : Int) (xs : List Int) (x : Int) (hl : xs.length ≤ 1099511627776) (hp : ∀ a, p = some a → a.spot = none) (hc : chk (kindOf op) xs = 0) :
    ∃ f, (∀ a0 a1 w, (callFunc f #[a0, a1]).run Tryd.prog w = .ok (.enter f #[a0, a1]) w) ∧ mget deedTable op = some (fnv f) ∧
      ∀ w, Rd w p (ints xs) → Calls Tryd.prog f #[.slice p xs.length c, .int .i64 x] w fun e w' => Did w e w' (deedR op xs x).1 (deedR op xs x).2.1 (deedR op xs x).2.2 := by
  obtain ⟨hk, _, hs⟩ := chk_zero hc
  have h3 : ∀ n : Int, op = n → kindOf n = 3 → xs.Pairwise (· ≤ ·) := fun n h1 h2 => strict_le (hs (by rw [h1, h2]))
  rcases kindOf_range rfl hk with rfl | rfl | rfl | rfl | rfl | rfl | rfl
  · exact ⟨72, fun a0 a1 w => by kernel_rfl, by kernel_rfl, fun w hr => deed1_any w p c xs hr hl hp x⟩
  · refine ⟨73, fun a0 a1 w => by kernel_rfl, by kernel_rfl, fun w hr => ?_⟩
    by_cases h : xs = []
    · subst h; exact deed2_none w p c x
    · have e : deedR 2 xs x = (cutAt xs (xs.length - 1), nth xs (xs.length - 1), true) := by simp [deedR, h]
      rw [e]; exact deed2_some w p c xs hr hl hp x (nil_of_length h)
  · exact ⟨72, fun a0 a1 w => by kernel_rfl, by kernel_rfl, fun w hr => deed1_any w p c xs hr hl hp x⟩
  · refine ⟨75, fun a0 a1 w => by kernel_rfl, by kernel_rfl, fun w hr => ?_⟩
    by_cases h : xs = []
    · subst h; exact deed3_none w p c x
    · have e : deedR 4 xs x = (cutAt xs 0, nth xs 0, true) := by simp [deedR, h]
      rw [e]; exact deed3_some w p c xs hr hl hp x (nil_of_length h)
  · refine ⟨76, fun a0 a1 w => by kernel_rfl, by kernel_rfl, fun w hr => ?_⟩
    have hs' := h3 5 rfl (by decide)
    by_cases h : xs.contains x = true
    · have e : deedR 5 xs x = (xs, 0, false) := by unfold deedR; simp only [h]; rfl
      rw [e]; exact add_there w p c xs hr hl hp x hs' h
    · have e : deedR 5 xs x = (putAt xs (xs.countP (· < x)) x, 0, true) := by unfold deedR; simp only [h]; rfl
      rw [e]; exact add_new w p c xs hr hl hp x hs' (by simpa using h)
  · refine ⟨77, fun a0 a1 w => by kernel_rfl, by kernel_rfl, fun w hr => ?_⟩
    have hs' := h3 6 rfl (by decide)
    by_cases h : xs.contains x = true
    · have e : deedR 6 xs x = (cutAt xs (xs.countP (· < x)), 0, true) := by unfold deedR; simp only [h]; rfl
      rw [e]; exact remove_there w p c xs hr hl hp x hs' h (count_lt h)
    · have e : deedR 6 xs x = (xs, 0, false) := by unfold deedR; simp only [h]; rfl
      rw [e]; exact remove_none w p c xs hr hl hp x hs' (by simpa using h)
  · exact ⟨78, fun a0 a1 w => by kernel_rfl, by kernel_rfl, fun w hr => has_any w p c xs hr hl hp x (h3 7 rfl (by decide)) _ rfl⟩

/-- spec.Do, for every argument -/
theorem do_any (w : World) (k : Int) (p : Option Addr) (c : Nat) (xs : List Int) (hrd : Rd w p (ints xs)) (hl : xs.length ≤ 1099511627776) (hp : ∀ a, p = some a → a.spot = none) (op x : Int) :
    Calls Tryd.prog 59 #[.agg #[.int .i64 k, .slice p xs.length c], .int .i64 op, .int .i64 x] w fun e w' =>
      Done4 w e w' (doR k op xs x).kind (doR k op xs x).items (doR k op xs x).val (doR k op xs x).code (doR k op xs x).err := by
  by_cases hc : chk k xs = 0
  · by_cases hk : kindOf op = k
    · obtain ⟨f, h1, h2, h3⟩ := deed_any w p c op xs x hl hp (by rw [hk]; exact hc)
      by_cases hy : (deedR op xs x).1.length ≤ 64
      · have e : doR k op xs x = ⟨k, (deedR op xs x).1, (deedR op xs x).2.1, if (deedR op xs x).2.2 = true then 1 else 0, 0⟩ := by unfold doR; rw [if_pos ⟨hc, hk⟩, if_pos hy]
        rw [e]; exact do_ok w k p c xs hrd hl hp op x hc hk f h1 _ _ _ h2 h3 hy
      · have e : doR k op xs x = ⟨0, [], 0, 0, 7⟩ := by unfold doR; rw [if_pos ⟨hc, hk⟩, if_neg hy]
        rw [e]; exact do_full w k p c xs hrd hl hp op x hc hk f h1 _ _ _ h2 h3 (by omega)
    · have e : doR k op xs x = ⟨0, [], 0, 0, 2⟩ := by unfold doR; rw [if_neg fun h => hk h.2]
      rw [e]; exact do_kind w k p c xs hrd hl hp op x hc hk
  · have e : doR k op xs x = ⟨0, [], 0, 0, 2⟩ := by unfold doR; rw [if_neg fun h => hc h.1]
    rw [e]; exact do_bad w k p c xs hrd hl hp op x (chk_two hc)

end Go.Proofs.YtoolpifkfgileaaDoor
