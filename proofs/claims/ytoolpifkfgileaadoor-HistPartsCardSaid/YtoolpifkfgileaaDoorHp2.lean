/-
  In plain: all orders of a short history; the chapter's examples.
-/
import Derived.Test.YtoolpifkfgileaaDoorHiD
namespace Go.Proofs.YtoolpifkfgileaaDoor
open Go Go.RowKit Own

/-- all orders of at most f calls -/
def ords (cs : List Cl) : Nat → Nat → List (Int × List Int) → List (List Nat)
  | 0, d, _ => if overB cs d = true then [[]] else []
  | f + 1, d, h => (if overB cs d = true then [[]] else []) ++ (List.range cs.length).flatMap fun n => match nextP cs d h n with | some h' => (ords cs f (d ||| 2 ^ n) h').map (n :: ·) | none => []

theorem mem_ords {cs : List Cl} : ∀ (o : List Nat) (f d : Nat) (h : List (Int × List Int)), o.length ≤ f → ordB cs d h o = true → o ∈ ords cs f d h
  | [], f, d, h, _, ho => by
    unfold ordB at ho
    cases f with
    | zero => unfold ords; rw [if_pos ho]; exact List.mem_cons_self
    | succ f => unfold ords; rw [if_pos ho]; exact List.mem_append_left _ List.mem_cons_self
  | n :: o, 0, d, h, hl, _ => by simp at hl
  | n :: o, f + 1, d, h, hl, ho => by
    unfold ordB at ho
    rw [Bool.and_eq_true, decide_eq_true_eq] at ho
    unfold ords
    refine List.mem_append_right _ (List.mem_flatMap.2 ⟨n, List.mem_range.2 ho.1, ?_⟩)
    cases hx : nextP cs d h n with
    | none => rw [hx] at ho; exact absurd ho.2 Bool.false_ne_true
    | some h' =>
      rw [hx] at ho
      exact List.mem_map.2 ⟨o, mem_ords o f _ h' (by simpa using hl) ho.2, rfl⟩

theorem nodup_le : ∀ (N : Nat) (o : List Nat), o.Nodup → (∀ n ∈ o, n < N) → o.length ≤ N
  | 0, o, _, h => by
    cases o with
    | nil => exact Nat.le_refl _
    | cons a o => exact absurd (h a List.mem_cons_self) (Nat.not_lt_zero _)
  | N + 1, o, hn, h => by
    have h1 := nodup_le N (o.erase N) (hn.erase N) fun n hm => by
      rw [hn.mem_erase_iff] at hm
      have := h n hm.2
      omega
    rw [List.length_erase] at h1
    split at h1 <;> omega

theorem ord_all {cs : List Cl} {h : List (Int × List Int)} {o : List Nat} (hl : cs.length ≤ 24) (ho : ordB cs 0 h o = true) : o ∈ ords cs cs.length 0 h :=
  mem_ords o _ 0 h (nodup_le _ o (ord_of o hl ho).nodup (ord_of o hl ho).lt) ho

theorem lin_ords {ks : List Int} {cs : List Cl} : LinH ks cs → ords cs cs.length 0 (startP ks) ≠ [] := by
  rintro ⟨⟨hg, hl⟩, oc, hoc⟩
  obtain ⟨o, h1, -⟩ := hoc.nums hg
  have := ord_all hl (of_ord o hl hg.self h1)
  intro e
  have h2 : startP ks = ks.map fun k => (k, []) := rfl
  rw [← h2, e] at this
  cases this

/-- the chapter's history: a push of 1, and a pop -/
def threeC (tt fr en v cd : Int) : List Cl := [⟨0, 0, 1, 1, 0, tt, 0, 1⟩, ⟨1, 0, 2, 0, fr, en, v, cd⟩]

theorem lin_1 : LinH [1] (threeC 1 2 3 1 1) := lin_of (o := [0, 1]) (mayH_iff.1 (by decide +kernel)) (by decide) (by decide +kernel)
theorem lin_2 : ¬ LinH [1] (threeC 1 2 3 0 0) := fun h => lin_ords h (by decide +kernel)
theorem lin_3 : LinH [1] (threeC 3 1 2 0 0) := lin_of (o := [1, 0]) (mayH_iff.1 (by decide +kernel)) (by decide) (by decide +kernel)
theorem lin_4 : LinH [1] (threeC 3 1 2 1 1) := lin_of (o := [0, 1]) (mayH_iff.1 (by decide +kernel)) (by decide) (by decide +kernel)
theorem lin_5 : ¬ LinH [1] (threeC 3 1 2 2 1) := fun h => lin_ords h (by decide +kernel)

end Go.Proofs.YtoolpifkfgileaaDoor
