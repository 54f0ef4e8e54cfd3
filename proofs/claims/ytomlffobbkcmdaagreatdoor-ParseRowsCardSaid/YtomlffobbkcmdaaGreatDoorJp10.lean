/- Joined texts of this work: Pr1, PbA, PbB, Pb7, Kp. -/
import Derived.Test.YtomlffobbkcmdaaGreatDoorJp5
import Derived.Test.YtomlffobbkcmdaaGreatDoorJp9
import Derived.Test.YtomlffobbkcmdaaGreatDoorJp2
import Derived.RangeFuncBox
import Derived.RangeFuncNested
import Derived.OwnWalkIn
import Derived.Maps.AppendAt

/-
  ParseRows in plain: how the text of two operators and three numbers is split into tokens, and what is read out of them. No program in sight.
-/
namespace Go.Proofs.YtomlffobbkcmdaaGreatDoor
open Go

theorem head_app {a b : List UInt8} (h : a ≠ []) : (a ++ b).head? = a.head? := by
  cases a with
  | nil => exact absurd rfl h
  | cons x l => rfl
theorem scan_one {c : UInt8} {r : List UInt8} {t : Tok} (htok : tokT (c :: r) = (t, 0)) (hb : blankB c = false) (h35 : c ≠ 35) (hl : letterB c = false) (line col : Nat) (num : Bool) :
    scan (c :: r) line col num = ⟨t, line, col, 0⟩ :: scan ((c :: r).drop t.text.length) line (col + t.text.length) (t.kind == 3) := by
  rw [scan_cons, if_neg (by rw [hb]; exact Bool.false_ne_true), if_neg h35, if_neg (by rw [hl]; exact fun h => Bool.false_ne_true h.1), htok, if_neg (by simp)]
/-- a number's digits -/
def digL (n : Nat) : List UInt8 := if h : n ≤ 9 then [UInt8.ofNat (48 + n)] else digL (n / 10) ++ [UInt8.ofNat (48 + n % 10)]
termination_by n
decreasing_by omega
theorem digL_small {n : Nat} (h : n ≤ 9) : digL n = [UInt8.ofNat (48 + n)] := by rw [digL, dif_pos h]
theorem digL_big {n : Nat} (h : ¬ n ≤ 9) : digL n = digL (n / 10) ++ [UInt8.ofNat (48 + n % 10)] := by rw [digL, dif_neg h]
theorem dig_nat {k : Nat} (h : k ≤ 9) : (UInt8.ofNat (48 + k)).toNat = 48 + k := by
  rw [UInt8.toNat_ofNat']
  omega
theorem dig_is {k : Nat} (h : k ≤ 9) : digitB (UInt8.ofNat (48 + k)) = true := by
  unfold digitB
  rw [dig_nat h, decide_eq_true (by omega), decide_eq_true (by omega)]
  rfl
theorem digL_all (n : Nat) : ∀ c ∈ digL n, digitB c = true := by
  induction n using Nat.strongRecOn with
  | _ n ih =>
    intro c hc
    by_cases h : n ≤ 9
    · rw [digL_small h, List.mem_singleton] at hc
      rw [hc]; exact dig_is h
    · rw [digL_big h, List.mem_append, List.mem_singleton] at hc
      rcases hc with hc | hc
      · exact ih (n / 10) (by omega) c hc
      · rw [hc]; exact dig_is (by omega)
theorem val10_snoc (l : List UInt8) (c : UInt8) : val10 (l ++ [c]) = 10 * val10 l + (c.toNat - 48) := by simp [val10]
theorem digL_val (n : Nat) : val10 (digL n) = n := by
  induction n using Nat.strongRecOn with
  | _ n ih =>
    by_cases h : n ≤ 9
    · rw [digL_small h]
      show 10 * 0 + ((UInt8.ofNat (48 + n)).toNat - 48) = n
      rw [dig_nat h]; omega
    · rw [digL_big h, val10_snoc, ih (n / 10) (by omega), dig_nat (by omega)]
      omega
theorem digL_ne (n : Nat) : digL n ≠ [] := by
  by_cases h : n ≤ 9
  · rw [digL_small h]; simp
  · rw [digL_big h]; simp
theorem digL_head (n : Nat) : 9 < n → (digL n).head? ≠ some 48 := by
  induction n using Nat.strongRecOn with
  | _ n ih =>
    intro hn
    rw [digL_big (by omega), head_app (digL_ne _)]
    by_cases h : n / 10 ≤ 9
    · rw [digL_small h]
      intro e
      have e := Option.some.inj e
      have h2 := dig_nat h
      rw [e] at h2
      have h3 : (48 : UInt8).toNat = 48 := rfl
      omega
    · exact ih (n / 10) (by omega) (by omega)
theorem digL_one {n : Nat} : ¬ (1 < (digL n).length ∧ (digL n).head? = some 48) := by
  rintro ⟨h1, h2⟩
  by_cases h : n ≤ 9
  · rw [digL_small h] at h1; simp at h1
  · exact digL_head n (by omega) h2
theorem digL_len : ∀ (k n : Nat), n < 10 ^ (k + 1) → (digL n).length ≤ k + 1
  | 0, n, h => by rw [digL_small (by omega)]; simp
  | k + 1, n, h => by
    by_cases h9 : n ≤ 9
    · rw [digL_small h9]; simp
    · rw [digL_big h9, List.length_append]
      have := digL_len k (n / 10) (by rw [Nat.pow_succ] at h; omega)
      simp; omega

/-- the digits of a number are one token -/
theorem scan_dig {n : Nat} (hn : n ≤ 9223372036854775807) {r : List UInt8} (hr : ∀ c, r.head? = some c → digitB c = false) (line col : Nat) (num : Bool) :
    scan (digL n ++ r) line col num = ⟨⟨3, digL n, n⟩, line, col, 0⟩ :: scan r line (col + (digL n).length) true := by
  have htw : (digL n ++ r).takeWhile digitB = digL n := takeWhile_stop (digL_all n) hr
  obtain ⟨c, l, hl⟩ : ∃ c l, digL n = c :: l := by
    cases h : digL n with
    | nil => exact absurd h (digL_ne n)
    | cons c l => exact ⟨c, l, rfl⟩
  have hc : digitB c = true := digL_all n c (by rw [hl]; exact List.mem_cons_self)
  have hlet : letterB c = false := by
    unfold digitB at hc
    unfold letterB
    simp only [Bool.and_eq_true, decide_eq_true_eq] at hc
    rw [decide_eq_false (by omega)]; rfl
  have hbl : blankB c = false := by
    unfold digitB at hc
    unfold blankB
    simp only [Bool.and_eq_true, decide_eq_true_eq] at hc
    simp only [Bool.or_eq_false_iff, beq_eq_false_iff_ne]
    omega
  have h35 : c ≠ 35 := by
    rintro rfl
    exact absurd hc (by decide)
  have htok : tokT (c :: (l ++ r)) = (⟨3, digL n, n⟩, 0) := by
    rw [tokT_cons, hlet, hc]
    simp only [Bool.false_eq_true, if_false, if_true]
    unfold numT
    rw [← List.cons_append, ← hl, htw, digL_val, head_app (digL_ne _), if_neg digL_one, if_neg (by omega)]
  rw [hl, List.cons_append, scan_one htok hbl h35 hlet]
  rw [hl]
  show _ :: scan (List.drop (c :: l).length ((c :: l) ++ r)) _ _ _ = _
  rw [List.drop_left]
  rfl

/-- the signs that stand here -/
def signed (s : List UInt8) : Bool := ([[42], [47], [37], [43], [45], [60], [60, 61], [62], [62, 61], [61, 61], [33, 61], [38], [124], [33]] : List (List UInt8)).contains s
theorem scan_sign {s : List UInt8} (hs : signed s = true) {d : UInt8} {r : List UInt8} (hd : d ≠ 61) (line col : Nat) (num : Bool) :
    scan (s ++ d :: r) line col num = ⟨⟨4, s, 0⟩, line, col, 0⟩ :: scan (d :: r) line (col + s.length) false := by
  unfold signed at hs
  simp only [List.contains_cons, List.contains_nil, Bool.or_false, Bool.or_eq_true, beq_iff_eq] at hs
  rcases hs with rfl | rfl | rfl | rfl | rfl | rfl | rfl | rfl | rfl | rfl | rfl | rfl | rfl | rfl | rfl
  · exact scan_one (t := ⟨4, _, 0⟩) (by rw [tokT_cons, if_neg (by decide), if_neg (by decide), signT_cons, if_pos (by decide)]; simp [signN, equalsL]) (by decide) (by decide) (by decide) line col num
  · exact scan_one (t := ⟨4, _, 0⟩) (by rw [tokT_cons, if_neg (by decide), if_neg (by decide), signT_cons, if_pos (by decide)]; simp [signN, equalsL]) (by decide) (by decide) (by decide) line col num
  · exact scan_one (t := ⟨4, _, 0⟩) (by rw [tokT_cons, if_neg (by decide), if_neg (by decide), signT_cons, if_pos (by decide)]; simp [signN, equalsL]) (by decide) (by decide) (by decide) line col num
  · exact scan_one (t := ⟨4, _, 0⟩) (by rw [tokT_cons, if_neg (by decide), if_neg (by decide), signT_cons, if_pos (by decide)]; simp [signN, equalsL]) (by decide) (by decide) (by decide) line col num
  · exact scan_one (t := ⟨4, _, 0⟩) (by rw [tokT_cons, if_neg (by decide), if_neg (by decide), signT_cons, if_pos (by decide)]; simp [signN, equalsL]) (by decide) (by decide) (by decide) line col num
  · exact scan_one (t := ⟨4, _, 0⟩) (by rw [tokT_cons, if_neg (by decide), if_neg (by decide), signT_cons, if_pos (by decide)]; simp [signN, hd, equalsL]) (by decide) (by decide) (by decide) line col num
  · exact scan_one (t := ⟨4, _, 0⟩) (by rw [tokT_cons, if_neg (by decide), if_neg (by decide), signT_cons, if_pos (by decide)]; simp [signN, equalsL]) (by decide) (by decide) (by decide) line col num
  · exact scan_one (t := ⟨4, _, 0⟩) (by rw [tokT_cons, if_neg (by decide), if_neg (by decide), signT_cons, if_pos (by decide)]; simp [signN, hd, equalsL]) (by decide) (by decide) (by decide) line col num
  · exact scan_one (t := ⟨4, _, 0⟩) (by rw [tokT_cons, if_neg (by decide), if_neg (by decide), signT_cons, if_pos (by decide)]; simp [signN, equalsL]) (by decide) (by decide) (by decide) line col num
  · exact scan_one (t := ⟨4, _, 0⟩) (by rw [tokT_cons, if_neg (by decide), if_neg (by decide), signT_cons, if_pos (by decide)]; simp [signN, equalsL]) (by decide) (by decide) (by decide) line col num
  · exact scan_one (t := ⟨4, _, 0⟩) (by rw [tokT_cons, if_neg (by decide), if_neg (by decide), signT_cons, if_pos (by decide)]; simp [signN, equalsL]) (by decide) (by decide) (by decide) line col num
  · exact scan_one (t := ⟨4, _, 0⟩) (by rw [tokT_cons, if_neg (by decide), if_neg (by decide), signT_cons, if_pos (by decide)]; simp [signN, equalsL]) (by decide) (by decide) (by decide) line col num
  · exact scan_one (t := ⟨4, _, 0⟩) (by rw [tokT_cons, if_neg (by decide), if_neg (by decide), signT_cons, if_pos (by decide)]; simp [signN, equalsL]) (by decide) (by decide) (by decide) line col num
  · exact scan_one (t := ⟨4, _, 0⟩) (by rw [tokT_cons, if_neg (by decide), if_neg (by decide), signT_cons, if_pos (by decide)]; simp [signN, hd, equalsL]) (by decide) (by decide) (by decide) line col num

/-- what binds more than level l -/
def opsAt : Nat → List Nat
  | 0 => [1, 2, 3]
  | 1 => [4, 5]
  | 2 => [6, 7, 8, 9]
  | 3 => [10, 11]
  | 4 => [12]
  | _ => [13]
def nxt (one : List Item → Option (Ex × List Item)) : Nat → List Item → Option (Ex × List Item)
  | 0 => one
  | l + 1 => rowN (nxt one l) (opsAt l)
theorem rowsN_eq (one : List Item → Option (Ex × List Item)) : rowsN one = nxt one 6 := rfl
def levT (op : Nat) : Nat := if op ≤ 3 then 0 else if op ≤ 5 then 1 else if op ≤ 9 then 2 else if op ≤ 11 then 3 else if op = 12 then 4 else 5
theorem levT_le (op : Nat) : levT op ≤ 5 := by
  unfold levT
  split
  · omega
  · split
    · omega
    · split
      · omega
      · split
        · omega
        · split <;> omega
def opTok (op line col : Nat) : Item := ⟨⟨4, signL.getD op [], 0⟩, line, col, 0⟩
theorem opOf_tok {op : Nat} (h1 : 1 ≤ op) (h2 : op ≤ 13) (l line col : Nat) (hl : l ≤ 5) (r : List Item) : opOf (opsAt l) (opTok op line col :: r) = if levT op = l then some op else none := by
  have key : ∀ op : Nat, op < 14 → ∀ l : Nat, l < 6 → 1 ≤ op → (opsAt l).find? (fun k => isT ⟨4, signL.getD op [], 0⟩ (signL.getD k [])) = if levT op = l then some op else none := by decide +kernel
  exact key op (by omega) l (by omega) h1
theorem opOf_nil (ops : List Nat) : opOf ops [] = none := by
  unfold opOf headIs
  simp

variable {one : List Item → Option (Ex × List Item)}
theorem nxt_pass {l : Nat} {ts r : List Item} {x : Ex} (h : nxt one l ts = some (x, r)) (hr : opOf (opsAt l) r = none) : nxt one (l + 1) ts = some (x, r) := by
  show rowN (nxt one l) (opsAt l) ts = _
  unfold rowN
  rw [h]
  show rowL _ _ (r.length + 1) x r = _
  unfold rowL
  rw [hr]
theorem nxt_up {l : Nat} {ts r : List Item} {x : Ex} (h : nxt one l ts = some (x, r)) : ∀ k, (∀ j, l ≤ j → j < l + k → opOf (opsAt j) r = none) → nxt one (l + k) ts = some (x, r)
  | 0, _ => h
  | k + 1, hk => nxt_pass (nxt_up h k fun j h1 h2 => hk j h1 (by omega)) (hk (l + k) (by omega) (by omega))
theorem nxt_up' {l m : Nat} {ts r : List Item} {x : Ex} (h : nxt one l ts = some (x, r)) (hm : l ≤ m) (hk : ∀ j, l ≤ j → j < m → opOf (opsAt j) r = none) : nxt one m ts = some (x, r) := by
  have := nxt_up h (m - l) fun j h1 h2 => hk j h1 (by omega)
  rwa [show l + (m - l) = m by omega] at this
def binX (op line col : Nat) (x y : Ex) : Ex := .mk 5 op 0 [] line col [x, y]
/-- one operator of a level, and what follows is none of it -/
theorem nxt_op {op line col : Nat} (h1 : 1 ≤ op) (h2 : op ≤ 13) {ts r1 r2 : List Item} {x y : Ex} (hx : nxt one (levT op) ts = some (x, opTok op line col :: r1)) (hy : nxt one (levT op) r1 = some (y, r2)) (hr : opOf (opsAt (levT op)) r2 = none) :
    nxt one (levT op + 1) ts = some (binX op line col x y, r2) := by
  show rowN (nxt one (levT op)) (opsAt (levT op)) ts = _
  unfold rowN
  rw [hx]
  show rowL _ _ ((opTok op line col :: r1).length + 1) x _ = _
  rw [List.length_cons]
  unfold rowL
  rw [opOf_tok h1 h2 _ _ _ (levT_le op), if_pos rfl]
  dsimp only
  rw [hy]
  dsimp only
  unfold rowL
  rw [hr]
  rfl
theorem nxt_op2 {a b l1 c1 l2 c2 : Nat} (ha : 1 ≤ a) (ha' : a ≤ 13) (hb : 1 ≤ b) (hb' : b ≤ 13) (hl : levT b = levT a) {ts r1 r2 : List Item} {x y z : Ex} (hx : nxt one (levT a) ts = some (x, opTok a l1 c1 :: r1)) (hy : nxt one (levT a) r1 = some (y, opTok b l2 c2 :: r2)) (hlen : r2.length < r1.length) (hz : nxt one (levT a) r2 = some (z, [])) :
    nxt one (levT a + 1) ts = some (binX b l2 c2 (binX a l1 c1 x y) z, []) := by
  show rowN (nxt one (levT a)) (opsAt (levT a)) ts = _
  unfold rowN
  rw [hx]
  show rowL _ _ ((opTok a l1 c1 :: r1).length + 1) x _ = _
  rw [List.length_cons]
  obtain ⟨k, hk⟩ : ∃ k, r1.length = k + 1 := ⟨r1.length - 1, by omega⟩
  rw [hk]
  unfold rowL
  rw [opOf_tok ha ha' _ _ _ (levT_le a), if_pos rfl]
  dsimp only
  rw [hy]
  dsimp only
  unfold rowL
  rw [opOf_tok hb hb' _ _ _ (levT_le a), if_pos hl]
  dsimp only
  rw [hz]
  dsimp only
  unfold rowL
  rw [opOf_nil]
  rfl
/-- what is read out of three operands and two operators -/
theorem rows_read {a b l1 c1 l2 c2 : Nat} (ha : 1 ≤ a) (ha' : a ≤ 13) (hb : 1 ≤ b) (hb' : b ≤ 13) {g0 g1 g2 : List Item} {x0 x1 x2 : Ex}
    (h0 : ∀ r, one (g0 ++ r) = some (x0, r)) (h1 : ∀ r, one (g1 ++ r) = some (x1, r)) (h2 : ∀ r, one (g2 ++ r) = some (x2, r)) (hg : g1 ≠ []) :
    rowsN one (g0 ++ opTok a l1 c1 :: (g1 ++ opTok b l2 c2 :: g2)) = some (if levT b < levT a then binX a l1 c1 x0 (binX b l2 c2 x1 x2) else binX b l2 c2 (binX a l1 c1 x0 x1) x2, []) := by
  rw [rowsN_eq]
  have hla := levT_le a
  have hlb := levT_le b
  have q0 : ∀ m, m ≤ levT a → nxt one m (g0 ++ opTok a l1 c1 :: (g1 ++ opTok b l2 c2 :: g2)) = some (x0, opTok a l1 c1 :: (g1 ++ opTok b l2 c2 :: g2)) := fun m hm =>
    nxt_up' (l := 0) (h0 _) (Nat.zero_le _) fun j _ hj => by rw [opOf_tok ha ha' _ _ _ (by omega), if_neg (by omega)]
  have q1 : ∀ m, m ≤ levT b → nxt one m (g1 ++ opTok b l2 c2 :: g2) = some (x1, opTok b l2 c2 :: g2) := fun m hm =>
    nxt_up' (l := 0) (h1 _) (Nat.zero_le _) fun j _ hj => by rw [opOf_tok hb hb' _ _ _ (by omega), if_neg (by omega)]
  have q2 : ∀ m, nxt one m g2 = some (x2, []) := fun m =>
    nxt_up' (l := 0) (by have := h2 []; rwa [List.append_nil] at this) (Nat.zero_le _) fun j _ _ => opOf_nil _
  by_cases h : levT b < levT a
  · rw [if_pos h]
    have hbin := nxt_op (one := one) hb hb' (q1 _ (Nat.le_refl _)) (q2 _) (opOf_nil _)
    have hbin2 := nxt_up' hbin (show levT b + 1 ≤ levT a by omega) fun j _ _ => opOf_nil _
    have := nxt_op (one := one) ha ha' (q0 _ (Nat.le_refl _)) hbin2 (opOf_nil _)
    exact nxt_up' this (by omega) fun j _ _ => opOf_nil _
  · rw [if_neg h]
    by_cases he : levT b = levT a
    · have := nxt_op2 (one := one) ha ha' hb hb' he (q0 _ (Nat.le_refl _)) (q1 _ (by omega)) (by
        rw [List.length_append, List.length_cons]
        have : 0 < g1.length := List.length_pos_iff.2 hg
        omega) (q2 _)
      exact nxt_up' this (by omega) fun j _ _ => opOf_nil _
    · have hA := nxt_op (one := one) ha ha' (q0 _ (Nat.le_refl _)) (q1 _ (by omega)) (by rw [opOf_tok hb hb' _ _ _ hla, if_neg he])
      have hA2 := nxt_up' hA (show levT a + 1 ≤ levT b by omega) fun j hj hj2 => by rw [opOf_tok hb hb' _ _ _ (by omega), if_neg (by omega)]
      have := nxt_op (one := one) hb hb' hA2 (q2 _) (opOf_nil _)
      exact nxt_up' this (by omega) fun j _ _ => opOf_nil _

/-- an operand: a number, behind a sign or none -/
def sgnL (s : Nat) : List UInt8 := if s = 1 then [45] else if s = 2 then [33] else []
def wordR (s n : Nat) : List UInt8 := sgnL s ++ digL n
def numX (n line col : Nat) : Ex := .mk 1 0 n [] line col []
def opdX (s n l1 c1 l2 c2 : Nat) : Ex := if s = 1 then .mk 4 1 0 [] l1 c1 [numX n l2 c2] else if s = 2 then .mk 4 2 0 [] l1 c1 [numX n l2 c2] else numX n l2 c2
def opdT (s n l1 c1 l2 c2 : Nat) : List Item := if s = 1 then [⟨⟨4, [45], 0⟩, l1, c1, 0⟩, ⟨⟨3, digL n, n⟩, l2, c2, 0⟩] else if s = 2 then [⟨⟨4, [33], 0⟩, l1, c1, 0⟩, ⟨⟨3, digL n, n⟩, l2, c2, 0⟩] else [⟨⟨3, digL n, n⟩, l2, c2, 0⟩]
theorem opd_read (s n l1 c1 l2 c2 f : Nat) (r : List Item) : oneP (f + 2) (opdT s n l1 c1 l2 c2 ++ r) = some (opdX s n l1 c1 l2 c2, r) := by
  have hnum : ∀ f r, oneP (f + 1) (⟨⟨3, digL n, n⟩, l2, c2, 0⟩ :: r) = some (numX n l2 c2, r) := fun f r => by
    show oneOf _ _ _ = _
    unfold oneOf
    dsimp only
    rw [if_neg (by simp [isT]), if_neg (by simp [isT]), if_neg (by simp [isT]), if_pos rfl]
    rfl
  unfold opdT opdX
  by_cases h1 : s = 1
  · rw [if_pos h1, if_pos h1]
    show oneOf _ _ _ = _
    unfold oneOf
    simp only [List.cons_append, List.nil_append]
    rw [if_pos (by decide), hnum f r]
  · rw [if_neg h1, if_neg h1]
    by_cases h2 : s = 2
    · rw [if_pos h2, if_pos h2]
      show oneOf _ _ _ = _
      unfold oneOf
      simp only [List.cons_append, List.nil_append]
      rw [if_neg (by decide), if_pos (by decide), hnum f r]
    · rw [if_neg h2, if_neg h2]
      exact hnum (f + 1) r

/-- the text, and its tokens -/
def textR (a b s0 s1 s2 n0 n1 n2 : Nat) : List UInt8 := wordR s0 n0 ++ (signL.getD a [] ++ (wordR s1 n1 ++ (32 :: (signL.getD b [] ++ wordR s2 n2))))
theorem dig_cons (n : Nat) : ∃ c l, digL n = c :: l ∧ c ≠ 61 := by
  cases h : digL n with
  | nil => exact absurd h (digL_ne n)
  | cons c l => exact ⟨c, l, rfl, fun e => by have := digL_all n c (by rw [h]; exact List.mem_cons_self); rw [e] at this; exact absurd this (by decide)⟩
theorem word_cons (s n : Nat) : ∃ c l, wordR s n = c :: l ∧ c ≠ 61 := by
  unfold wordR sgnL
  split
  · exact ⟨45, digL n, rfl, by decide⟩
  · split
    · exact ⟨33, digL n, rfl, by decide⟩
    · exact dig_cons n
theorem scan_word {s n : Nat} (hn : n ≤ 9223372036854775807) {r : List UInt8} (hr : ∀ c, r.head? = some c → digitB c = false) (line col : Nat) (num : Bool) :
    ∃ l1 c1 l2 c2 c3, scan (wordR s n ++ r) line col num = opdT s n l1 c1 l2 c2 ++ scan r line c3 true := by
  unfold wordR sgnL opdT
  obtain ⟨c, l, hc, hc61⟩ := dig_cons n
  have key : ∀ x : UInt8, signed [x] = true → scan ([x] ++ digL n ++ r) line col num = ⟨⟨4, [x], 0⟩, line, col, 0⟩ :: ⟨⟨3, digL n, n⟩, line, col + 1, 0⟩ :: scan r line (col + 1 + (digL n).length) true := fun x hx => by
    have h1 := scan_sign hx hc61 (r := l ++ r) line col num
    rw [← scan_dig hn hr line (col + 1) false, List.append_assoc]
    rw [show digL n ++ r = c :: (l ++ r) by rw [hc]; rfl]
    exact h1
  split
  · exact ⟨line, col, line, col + 1, _, key 45 (by decide)⟩
  · split
    · exact ⟨line, col, line, col + 1, _, key 33 (by decide)⟩
    · exact ⟨0, 0, line, col, _, by rw [List.nil_append]; exact scan_dig hn hr line col num⟩
theorem sign_head {op : Nat} (h1 : 1 ≤ op) (h2 : op ≤ 13) (r : List UInt8) : ∀ c, (signL.getD op [] ++ r).head? = some c → digitB c = false := by
  have key : ∀ op : Nat, op < 14 → 1 ≤ op → (∃ c l, signL.getD op [] = c :: l ∧ digitB c = false) := by
    intro op h h'
    have : op = 1 ∨ op = 2 ∨ op = 3 ∨ op = 4 ∨ op = 5 ∨ op = 6 ∨ op = 7 ∨ op = 8 ∨ op = 9 ∨ op = 10 ∨ op = 11 ∨ op = 12 ∨ op = 13 := by omega
    rcases this with rfl | rfl | rfl | rfl | rfl | rfl | rfl | rfl | rfl | rfl | rfl | rfl | rfl <;> exact ⟨_, _, rfl, by decide⟩
  obtain ⟨c, l, hc, hd⟩ := key op (by omega) h1
  intro d hd'
  rw [hc] at hd'
  cases hd'
  exact hd
theorem sign_signed {op : Nat} (h1 : 1 ≤ op) (h2 : op ≤ 13) : signed (signL.getD op []) = true := by
  have key : ∀ op : Nat, op < 14 → 1 ≤ op → signed (signL.getD op []) = true := by decide
  exact key op (by omega) h1
theorem rows_scan {a b s0 s1 s2 n0 n1 n2 : Nat} (ha : 1 ≤ a) (ha' : a ≤ 13) (hb : 1 ≤ b) (hb' : b ≤ 13) (h0 : n0 ≤ 9223372036854775807) (h1 : n1 ≤ 9223372036854775807) (h2 : n2 ≤ 9223372036854775807) :
    ∃ p0 p1 p2 p3 q0 q1 q2 q3 r0 r1 r2 r3 u1 u2 v1 v2 : Nat, scan (textR a b s0 s1 s2 n0 n1 n2) 1 1 false = opdT s0 n0 p0 p1 p2 p3 ++ opTok a u1 u2 :: (opdT s1 n1 q0 q1 q2 q3 ++ opTok b v1 v2 :: opdT s2 n2 r0 r1 r2 r3) := by
  obtain ⟨c1, l1, e1, d1⟩ := word_cons s1 n1
  obtain ⟨c2, l2, e2, d2⟩ := word_cons s2 n2
  unfold textR
  obtain ⟨p0, p1, p2, p3, p4, hp⟩ := scan_word (s := s0) h0 (sign_head ha ha' (wordR s1 n1 ++ (32 :: (signL.getD b [] ++ wordR s2 n2)))) 1 1 false
  rw [hp]
  have hA := scan_sign (sign_signed ha ha') d1 (r := l1 ++ (32 :: (signL.getD b [] ++ wordR s2 n2))) 1 p4 true
  rw [show wordR s1 n1 ++ (32 :: (signL.getD b [] ++ wordR s2 n2)) = c1 :: (l1 ++ (32 :: (signL.getD b [] ++ wordR s2 n2))) by rw [e1]; rfl, hA]
  rw [show c1 :: (l1 ++ (32 :: (signL.getD b [] ++ wordR s2 n2))) = wordR s1 n1 ++ (32 :: (signL.getD b [] ++ wordR s2 n2)) by rw [e1]; rfl]
  obtain ⟨q0, q1, q2, q3, q4, hq⟩ := scan_word (s := s1) h1 (r := 32 :: (signL.getD b [] ++ wordR s2 n2)) (fun c hc => by cases hc; decide) 1 (p4 + (signL.getD a []).length) false
  rw [hq, scan_blank _ _ _ _ (by decide) (by decide)]
  have hB := scan_sign (sign_signed hb hb') d2 (r := l2) 1 (q4 + 1) false
  rw [show wordR s2 n2 = c2 :: l2 from e2, hB, ← e2]
  obtain ⟨r0, r1, r2, r3, r4, hr⟩ := scan_word (s := s2) h2 (r := []) (fun c hc => by cases hc) 1 (q4 + 1 + (signL.getD b []).length) false
  rw [List.append_nil, scan_nil, List.append_nil] at hr
  rw [hr]
  exact ⟨p0, p1, p2, p3, q0, q1, q2, q3, r0, r1, r2, r3, 1, p4, 1, q4 + 1, rfl⟩

end Go.Proofs.YtomlffobbkcmdaaGreatDoor

/-
  The law's own functions of ParseRows: digits, row, Pick.
-/
namespace Go.Proofs.YtomlffobbkcmdaaGreatDoor
open Go Go.RowKit Own

theorem str_app (a b : List UInt8) : (⟨a.toArray⟩ : ByteArray) ++ ⟨b.toArray⟩ = ⟨(a ++ b).toArray⟩ := by
  apply Go.WideShapes.bytes_inj
  simp

theorem dig_extract (n : Nat) (h : n ≤ 9) : (⟨#[48, 49, 50, 51, 52, 53, 54, 55, 56, 57]⟩ : ByteArray).extract n (n + 1) = ⟨[UInt8.ofNat (48 + n)].toArray⟩ := by
  have key : n = 0 ∨ n = 1 ∨ n = 2 ∨ n = 3 ∨ n = 4 ∨ n = 5 ∨ n = 6 ∨ n = 7 ∨ n = 8 ∨ n = 9 := by omega
  rcases key with rfl | rfl | rfl | rfl | rfl | rfl | rfl | rfl | rfl | rfl <;> decide +kernel

set_option maxHeartbeats 4000000 in
theorem digits_any : ∀ (n : Nat), n ≤ 9223372036854775807 → ∀ w, Calls Tryz.prog 14 #[.int .i64 n] w fun e w' => e = .returned (.string ⟨(digL n).toArray⟩) ∧ KeepBut (fun _ => False) w w' := by
  intro n
  induction n using Nat.strongRecOn with
  | _ n ih =>
    intro hn w
    by_cases h9 : n ≤ 9
    · have h9i : ¬ (9 : Int) < n := by omega
      have hW : IntKind.i64.wrap ((n : Int) + 1) = (n : Int) + 1 := IntWalk.i64_in _ (by omega)
      have h0 : (0 : Int) ≤ n := by omega
      have hle : (n : Int) + 1 ≤ 10 := by omega
      have hle2 : (n : Int) ≤ n + 1 := by omega
      have HD := Lib.hid (digL_small h9)
      clear ih hn
      go_enter Tryz.func14, Tryz.ntmps14
      have HE := Lib.hid (dig_extract n h9)
      go_wp2_with fail
      go_ret
      exact ⟨by rw [HD.out, ← HE.out]; rfl, KeepBut.refl _ _⟩
    · have h9i : (9 : Int) < n := by omega
      have hq : (n : Int).tdiv 10 = ((n / 10 : Nat) : Int) := by rw [Int.tdiv_eq_ediv_of_nonneg (by omega)]; omega
      have hm : (n : Int).tmod 10 = ((n % 10 : Nat) : Int) := by rw [Int.tmod_eq_emod_of_nonneg (by omega)]; omega
      have hWq : IntKind.i64.wrap ((n / 10 : Nat) : Int) = ((n / 10 : Nat) : Int) := IntWalk.i64_in _ (by omega)
      have hWm : IntKind.i64.wrap ((n % 10 : Nat) : Int) = ((n % 10 : Nat) : Int) := IntWalk.i64_in _ (by omega)
      have H1 := Lib.hid (ih (n / 10) (by omega) (by omega))
      have H2 := Lib.hid (ih (n % 10) (by omega) (by omega))
      have HD := Lib.hid (digL_big h9)
      have hd := digL_small (show n % 10 ≤ 9 by omega)
      rw [hd] at H2
      obtain ⟨q, hqq⟩ : ∃ q, n / 10 = q := ⟨_, rfl⟩
      obtain ⟨m, hmm⟩ : ∃ q, n % 10 = q := ⟨_, rfl⟩
      rw [hqq] at hq hWq H1 HD
      rw [hmm] at hm hWm H2 HD
      have hlen : ¬ 9223372036854775807 < (digL q).length + 1 := by
        have := digL_len 18 q (by omega)
        omega
      obtain ⟨ch, hch⟩ : ∃ c, UInt8.ofNat (48 + m) = c := ⟨_, rfl⟩
      rw [← hmm] at hch
      rw [hmm] at hch
      rw [hch] at H2 HD
      clear ih hn hd hqq hmm hch
      go_enter Tryz.func14, Tryz.ntmps14
      go_wp2_with fail
      go_at_call 14
      refine (H1.out w).mono ?_
      rintro e w1 ⟨rfl, hk1⟩
      have HK1 := Lib.hid hk1
      clear hk1
      go_wp2_with fail
      go_at_call 14
      refine (H2.out w1).mono ?_
      rintro e w2 ⟨rfl, hk2⟩
      have HK2 := Lib.hid hk2
      clear hk2
      go_wp2_with fail
      go_ret
      exact ⟨by rw [HD.out, ← str_app]; rfl, HK1.out.trans HK2.out⟩

end Go.Proofs.YtomlffobbkcmdaaGreatDoor

/-
  The law's own function row of ParseRows.
-/
namespace Go.Proofs.YtomlffobbkcmdaaGreatDoor
open Go Go.RowKit Own

set_option maxHeartbeats 4000000 in
theorem lawRow_any (op : Nat) (h1 : 1 ≤ op) (h2 : op ≤ 13) (w : World) : Calls Tryz.prog 15 #[.int .i64 op] w fun e w' => e = .returned (.int .i64 (levT op)) ∧ KeepBut (fun _ => False) w w' := by
  have key : op = 1 ∨ op = 2 ∨ op = 3 ∨ op = 4 ∨ op = 5 ∨ op = 6 ∨ op = 7 ∨ op = 8 ∨ op = 9 ∨ op = 10 ∨ op = 11 ∨ op = 12 ∨ op = 13 := by omega
  have hA := KeepBut.alloc (fun _ => False) w (.cells #[.int .i64 0, .int .i64 0, .int .i64 0, .int .i64 1, .int .i64 1, .int .i64 2, .int .i64 2, .int .i64 2, .int .i64 2, .int .i64 3, .int .i64 3, .int .i64 4, .int .i64 5] 3)
  rcases key with rfl | rfl | rfl | rfl | rfl | rfl | rfl | rfl | rfl | rfl | rfl | rfl | rfl <;>
  · go_enter Tryz.func15, Tryz.ntmps15
    go_wp2_with fail
    go_ret
    exact ⟨rfl, hA⟩

end Go.Proofs.YtomlffobbkcmdaaGreatDoor

/-
  Package parse: behind; what reading defers, where nothing is given up; reading an expression.
-/
namespace Go.Proofs.YtomlffobbkcmdaaGreatDoor
open Go Go.RowKit Own

theorem box_put3' {w : World} {B : Nat} {a b c d e : Value} {T : TypeId} (h : w.heap[B]? = some (.cells #[a, b, c, d, e] T (0, 0))) (v : Value) : ∃ w', w' = w.setCell ⟨B, 3, none⟩ v ∧ w'.heap[B]? = some (.cells #[a, b, c, v, e] T (0, 0)) ∧ KeepBut (fun k => k = B) w w' := by
  have h0 := put1 (i := 3) h v
  simp only [List.setIfInBounds_toArray, List.set_cons_zero, List.set_cons_succ] at h0
  exact ⟨_, rfl, h0, KeepBut.setCell _ _ _ rfl⟩
theorem box_put4' {w : World} {B : Nat} {a b c d e : Value} {T : TypeId} (h : w.heap[B]? = some (.cells #[a, b, c, d, e] T (0, 0))) (v : Value) : ∃ w', w' = w.setCell ⟨B, 4, none⟩ v ∧ w'.heap[B]? = some (.cells #[a, b, c, d, v] T (0, 0)) ∧ KeepBut (fun k => k = B) w w' := by
  have h0 := put1 (i := 4) h v
  simp only [List.setIfInBounds_toArray, List.set_cons_zero, List.set_cons_succ] at h0
  exact ⟨_, rfl, h0, KeepBut.setCell _ _ _ rfl⟩

set_option maxHeartbeats 8000000 in
theorem behind_any (s : ByteArray) (hs : s.size ≤ 1000000) (w : World) :
    Calls Tryz.prog 66 #[.string s] w fun e w' => ∃ el ec : Nat, e = .returned (.agg #[.int .i64 0, .string ⟨#[]⟩, .int .i64 0, .int .i64 el, .int .i64 ec]) ∧ KeepBut (fun _ => False) w w' := by
  obtain ⟨V1, B, hV1, hB, hb, hk1, hs1⟩ := fresh_block w (.cells #[.int .i64 0, .string ⟨#[]⟩, .int .i64 0, .int .i64 0, .int .i64 0] TTk)
  obtain ⟨V, C, hV, hC, hc, hk2, hs2⟩ := fresh_block V1 (.cells #[.int .i64 0, .string ⟨#[]⟩, .int .i64 0, .int .i64 1, .int .i64 1] TTk)
  obtain ⟨W3, G, cap, hcv, hG, hby, hk3, -⟩ := conv_bytes V s
  have hBC : B + 1 = C := by omega
  have HK := Lib.hid ((hk1.trans hk2).trans hk3)
  have HB := Lib.hid (hk3.blk (hk2.blk hb)); have HC := Lib.hid (hk3.blk hc)
  have HN := Lib.hid (show w.heap.size ≤ B ∧ B < C ∧ C < G by omega)
  have HBY := Lib.hid hby
  have hds : s.data.size = s.size := rfl
  clear hb hc hk1 hk2 hk3 hs1 hs2 hby hG
  go_enter Tryz.func66, Tryz.ntmps66
  go_upto_region 1 with fail
  rw [← hV1, ← hB]
  clear hV1 hB
  go_upto_region 2 with fail
  rw [← hV, ← hC]
  clear hV hC hBC
  go_wp2_with fail
  clear hcv
  go_loopw [10] (fun v10 wr => ∃ (i el ec : Nat), v10 = .int .i64 i ∧ i ≤ s.size ∧ el ≤ i + 1 ∧ ec ≤ i + 1 ∧ wr.heap[C]? = some (.cells #[.int .i64 0, .string ⟨#[]⟩, .int .i64 0, .int .i64 el, .int .i64 ec] TTk (0, 0)) ∧ KeepBut (fun b => b = C) W3 wr) (fun v _ => s.size - (intOf v).toNat)
  case atStart => exact ⟨0, 1, 1, rfl, Nat.zero_le _, Nat.le_refl _, Nat.le_refl _, HC.out, KeepBut.refl _ _⟩
  case round =>
    obtain ⟨i, el, ec, rfl, hi, hel, hec, hbc, hk⟩ := hrel
    have HBC := Lib.hid hbc; have HKR := Lib.hid hk
    obtain ⟨n0, n1, n2, n3, n4, f0, f1, f2, f3, f4⟩ := blk5 hbc
    have hn := HN.out
    by_cases hlt : i < s.size
    · have hlti : (i : Int) < s.size := by omega
      have hi0 : (0 : Int) ≤ i := by omega
      have hWi : IntKind.i64.wrap ((i : Int) + 1) = (i : Int) + 1 := IntWalk.i64_in _ (by omega)
      have hWc : IntKind.i64.wrap ((ec : Int) + 1) = (ec : Int) + 1 := IntWalk.i64_in _ (by omega)
      have hWl : IntKind.i64.wrap ((el : Int) + 1) = (el : Int) + 1 := IntWalk.i64_in _ (by omega)
      have hcb := hk.cell (HBY.out i (by rw [hds]; exact hlt)) (show ¬ G = C by omega)
      obtain ⟨bt, hbt⟩ : ∃ b, s.data[i]'(by rw [hds]; exact hlt) = b := ⟨_, rfl⟩
      rw [hbt] at hcb
      clear hbc hk hbt hn hds
      go_upto_region 6 with fail
      obtain ⟨wa, hwa, hba, hka⟩ := box_put4' HBC.out (.int .i64 ((ec : Int) + 1))
      rw [← hwa]
      have HBA := Lib.hid hba; have HKA := Lib.hid hka
      clear hwa hba hka n0 n1 n2 n3 n4 f0 f1 f2 f3 f4
      obtain ⟨n0, n1, n2, n3, n4, f0, f1, f2, f3, f4⟩ := blk5 HBA.out
      by_cases h10 : bt.toNat = 10
      · have h10b : ((bt.toNat : Int) == 10) = true := by rw [h10]; rfl
        go_upto_region 8 with fail
        obtain ⟨wb, hwb, hbb, hkb⟩ := box_put3' HBA.out (.int .i64 ((el : Int) + 1))
        rw [← hwb]
        obtain ⟨wc, hwc, hbc2, hkc⟩ := box_put4' hbb (.int .i64 1)
        rw [← hwc]
        have HBF := Lib.hid hbc2; have HKF := Lib.hid ((HKR.out.trans HKA.out).trans (hkb.trans hkc))
        clear hwb hbb hkb hwc hbc2 hkc n0 n1 n2 n3 n4 f0 f1 f2 f3 f4
        go_wp2_with fail
        exact ⟨⟨i + 1, el + 1, 1, by simp, by omega, by omega, by omega, by simpa using HBF.out, HKF.out⟩, by simp only [intOf]; omega⟩
      · have h10b : ((bt.toNat : Int) == 10) = false := by rw [beq_eq_false_iff_ne]; omega
        have HKF := Lib.hid (HKR.out.trans HKA.out)
        clear n0 n1 n2 n3 n4 f0 f1 f2 f3 f4
        go_wp2_with fail
        exact ⟨⟨i + 1, el, ec + 1, by simp, by omega, by omega, by omega, by simpa using HBA.out, HKF.out⟩, by simp only [intOf]; omega⟩
    · have hnl : ¬ (i : Int) < s.size := by omega
      have hbb := hk.blkE HB.out (show ¬ B = C by omega)
      have HBB := Lib.hid hbb
      obtain ⟨m0, m1, m2, m3, m4, e0, e1, e2, e3, e4⟩ := blk5 hbb
      clear hbc hk hbb hn
      go_wp2_with fail
      obtain ⟨wf, hwf, hp, hkp⟩ := put5 HBB.out (.int .i64 0) (.string ⟨#[]⟩) (.int .i64 0) (.int .i64 el) (.int .i64 ec)
      rw [← hwf]
      obtain ⟨c0, c1, c2, c3, c4, -⟩ := blk5 hp
      have hn := HN.out
      exact bodyPost_ret (v := .agg #[.int .i64 0, .string ⟨#[]⟩, .int .i64 0, .int .i64 el, .int .i64 ec]) (by simp [results, Tryz.results66, go_sem, c0, c1, c2, c3, c4]) rfl ⟨⟨el, ec, rfl⟩, (HK.out.new HKR.out fun b e => by have e : b = C := e; omega).new hkp fun b e => by have e : b = B := e; omega⟩

/-- what reading defers, where nothing has been given up -/
theorem catch_idle (a b : Addr) (w : World) :
    CallsD Tryz.prog 65 #[.pointer (some a), .pointer (some b)] .returning w fun e u' w' => e = .returned (.tuple #[]) ∧ u' = .returning ∧ w' = w := by
  refine callsD_of_wpS Tryz.func65 rfl fun c₀ cs hu => ?_
  apply wpS_seq
  apply wpS_region
  simp [wpOpsS, go_sem, recoverD, hu, Tryz.ntmps65, Exit.thenS]
  refine wpS_of_wp ?_
  simp only [Array.setIfInBounds, Array.replicate]
  go_wp2_with fail
  cases c₀
  simp_all [bodyPostS, results, Tryz.results65]

/-- what reading is handed to read an expression to the end -/
theorem readE_any (f : Nat) (w : World) (R el ec : Nat) (its : List Item) (x : Ex) (hr : ReaderAt w R its el ec) (hx : exP f its = some (x, [])) :
    Calls Tryz.prog 31 #[rdV R] w fun e w' => ∃ vs, e = .returned (.agg vs.toArray) ∧ ExAt w' (fun b => w.heap.size ≤ b) vs x ∧ KeepBut (fun b => b = R) w w' := by
  obtain ⟨V, B2, hV, hB2, hb2, hk, hs⟩ := fresh_block w (.cells #[.int .i64 0, .int .i64 0, .int .i64 0, .string ⟨#[]⟩, .slice none 0 0, .int .i64 0, .int .i64 0] TEx)
  have HE := Lib.hid (exP_reads R el ec f V V its x [] (KeepBut.refl _ _) (hr.keep hk fun _ _ e => e) hx)
  have HK := Lib.hid hk; have HB2 := Lib.hid hb2
  have HNN := Lib.hid (show w.heap.size ≤ B2 ∧ B2 < V.heap.size ∧ R < w.heap.size from ⟨by omega, by omega, hr.lt⟩)
  clear hr hx hb2 hk hs
  go_enter Tryz.func31, Tryz.ntmps31
  go_upto_region 1 with fail
  rw [← hV, ← hB2]
  clear hV hB2
  go_wp2_with fail
  go_at_call 32
  refine HE.out.mono ?_
  rintro e w1 ⟨vs, rfl, hex, hr1, hk1⟩
  obtain ⟨xk, xo, xn, xS, xp, xm, xc, xl, xcl, rfl⟩ := ex_form hex
  obtain ⟨W, C, hW, hC, hc, hk2, hs2⟩ := fresh_block w1 (.cells #[.int .i64 xk, .int .i64 xo, .int .i64 xn, .string xS, .slice xp xm xc, .int .i64 xl, .int .i64 xcl] TEx)
  have hn := HNN.out
  have hb2 := hk2.blk (hk1.blkE HB2.out fun e => by have e : B2 = R := e; omega)
  obtain ⟨pq, cq, hrd, -⟩ := (hr1.keep hk2 fun _ _ e => e).ex
  obtain ⟨r0, -⟩ := blk6 hrd
  obtain ⟨n0, n1, n2, n3, n4, n5, n6, -⟩ := blk7 hc
  obtain ⟨m0, m1, m2, m3, m4, m5, m6, f0, f1, f2, f3, f4, f5, f6⟩ := blk7 hb2
  have HB := Lib.hid hb2; have HEX := Lib.hid (hex.keep hk2 fun _ _ e => e); have HKK := Lib.hid (((HK.out.mono fun _ e => e.elim).trans hk1).newM hk2 fun _ e => e.elim)
  clear hex hr1 hk1 hk2 hs2 hb2 hrd hc hn
  go_upto_region 2 with fail
  rw [← hW, ← hC]
  clear hW hC
  go_wp2_with fail
  obtain ⟨wf, hwf, hp, hkp⟩ := put7 HB.out (.int .i64 xk) (.int .i64 xo) (.int .i64 xn) (.string xS) (.slice xp xm xc) (.int .i64 xl) (.int .i64 xcl)
  rw [← hwf]
  obtain ⟨c0, c1, c2, c3, c4, c5, c6, -⟩ := blk7 hp
  have hn := HNN.out
  exact bodyPost_ret (v := .agg #[.int .i64 xk, .int .i64 xo, .int .i64 xn, .string xS, .slice xp xm xc, .int .i64 xl, .int .i64 xcl]) (by simp [results, Tryz.results31, go_sem, c0, c1, c2, c3, c4, c5, c6]) rfl ⟨_, rfl, (HEX.out.keep hkp fun b hb e => by have e : b = B2 := e; have hb : V.heap.size ≤ b := hb; omega).mono fun b hb => by have hb : V.heap.size ≤ b := hb; omega, HKK.out.newE hkp fun b e => by have e : b = B2 := e; omega⟩

end Go.Proofs.YtomlffobbkcmdaaGreatDoor

/-
  What a round of a loop over an iterator keeps, where its body collects into a variable: every block but the variable's and the row's that it names. No program in sight.
-/
namespace Go.Proofs.YtomlffobbkcmdaaGreatDoor
open Go Go.RowKit Own

/-- the block of the row that the variable in block B names -/
def ptrAt (B : Nat) (W : World) : Option Nat := (W.cell? ⟨B, 0, none⟩).bind Value.ownBlock

structure OutKp (B : Nat) (W W' : World) : Prop where
  size : W.heap.size ≤ W'.heap.size
  kept : ∀ (k : Nat) cs e z, W.heap[k]? = some (.cells cs e z) → k ≠ B → ptrAt B W ≠ some k → W'.heap[k]? = some (.cells cs e z)
  ptr : ptrAt B W' = ptrAt B W ∨ ∃ g, ptrAt B W' = some g ∧ W.heap.size ≤ g
  lt : (∀ g, ptrAt B W = some g → g < W.heap.size) → ∀ g, ptrAt B W' = some g → g < W'.heap.size

theorem heap_lt {W : World} {k : Nat} {o : Obj} (h : W.heap[k]? = some o) : k < W.heap.size := (Array.getElem?_eq_some_iff.1 h).1

theorem OutKp.trans {B : Nat} {X Y Z : World} (h : OutKp B X Y) (k : OutKp B Y Z) : OutKp B X Z where
  size := Nat.le_trans h.size k.size
  kept := fun j cs e z hj hB hp => k.kept j cs e z (h.kept j cs e z hj hB hp) hB (by
    rcases h.ptr with e1 | ⟨g, e1, hg⟩
    · rw [e1]; exact hp
    · rw [e1]; intro e2; have := heap_lt hj; cases e2; omega)
  ptr := by
    rcases k.ptr with e1 | ⟨g, e1, hg⟩
    · rcases h.ptr with e2 | ⟨g, e2, hg⟩
      · exact .inl (e1.trans e2)
      · exact .inr ⟨g, e1.trans e2, hg⟩
    · exact .inr ⟨g, e1, Nat.le_trans h.size hg⟩
  lt := fun hl => k.lt (h.lt hl)

theorem ptrAt_same {B : Nat} {W W' : World} (h : W'.heap[B]? = W.heap[B]?) : ptrAt B W' = ptrAt B W := by
  unfold ptrAt World.cell?
  simp only [h]

theorem OutKp.of_blocks {B : Nat} {W W' : World} (hs : W.heap.size ≤ W'.heap.size) (hB : ∃ o, W.heap[B]? = some o) (h : ∀ k < W.heap.size, W'.heap[k]? = W.heap[k]?) : OutKp B W W' := by
  obtain ⟨o, ho⟩ := hB
  have e := ptrAt_same (h B (heap_lt ho))
  exact ⟨hs, fun k cs e z hk _ _ => (h k (heap_lt hk)).trans hk, .inl e, fun hl g hg => Nat.lt_of_lt_of_le (hl g (by rw [← e]; exact hg)) hs⟩
theorem OutKp.refl {B : Nat} {W : World} (hB : ∃ o, W.heap[B]? = some o) : OutKp B W W := OutKp.of_blocks (Nat.le_refl _) hB fun _ _ => rfl
theorem OutKp.put {B : Nat} {W : World} {l : Nat} {o : Obj} (o' : Obj) (hl : W.heap[l]? = some o) (ho : o.isCells = false) (hB : l ≠ B) : OutKp B W (W.putObj l o') := by
  have e : ptrAt B (W.putObj l o') = ptrAt B W := ptrAt_same (World.putObj_heap_other (by omega))
  refine ⟨by simp, fun k cs t z hk _ _ => ?_, .inl e, fun h g hg => Nat.lt_of_lt_of_le (h g (by rw [← e]; exact hg)) (by simp)⟩
  rw [World.putObj_heap_other (fun e2 => ?_)]
  · exact hk
  · subst e2; rw [hl] at hk; cases hk; cases ho

theorem ptrAt_box {W : World} {B : Nat} {t : TypeId} {v : Value} (h : Boxed W B t v) : ptrAt B W = v.ownBlock := by unfold ptrAt; rw [h.cell]; rfl
theorem setCell_other {W : World} {B k : Nat} (v : Value) (h : k ≠ B) : (W.setCell ⟨B, 0, none⟩ v).heap[k]? = W.heap[k]? := Below.heap_setCell _ _ _ k h

theorem OutKp.appended {W w1 : World} {n₀ B : Nat} {t e : TypeId} {size : Nat} {v v' : Value} {k m : Nat} {xs ys : List Value} {tmp : Obj}
    (hv : Boxed W B t v) (hte : t ≠ e) (hrow : W.ownsRow n₀ e size v k xs) (hown' : w1.ownsRow n₀ e size v' m ys) (hgrow : (W.alloc tmp).grownBy w1 v.ownBlock)
    (hat : v'.ownBlock = v.ownBlock ∨ v'.ownBlock = some (W.alloc tmp).heap.size) : OutKp B W (w1.setCell ⟨B, 0, none⟩ v') := by
  have hv1 : Boxed w1 B t v := (hv.alloc tmp).kept hgrow (hv.not_row hte hrow)
  have hv2 := hv1.set v'
  have hp := ptrAt_box hv
  have hp2 := ptrAt_box hv2
  have hsz : W.heap.size ≤ w1.heap.size := by have := hgrow.size; rw [World.size_alloc] at this; omega
  refine ⟨by rw [World.size_setCell]; exact hsz, fun j cs et z hj hB hne => ?_, ?_, fun _ g hg => ?_⟩
  · rw [setCell_other _ hB, hgrow.block j (by rw [World.size_alloc]; exact Nat.lt_succ_of_lt (heap_lt hj)) (by rw [← hp]; exact fun e => hne e.symm)]
    exact (Below.heap_alloc W tmp j (heap_lt hj)).trans hj
  · rw [hp, hp2]
    rcases hat with h | h
    · exact .inl h
    · exact .inr ⟨_, h, by rw [World.size_alloc]; omega⟩
  · rw [hp2] at hg
    rw [World.size_setCell]
    rcases hown'.2 with ⟨rfl, _⟩ | ⟨g', cap, cur, rfl, _, hgb, _⟩
    · cases hg
    · simp only [Value.ownBlock, Option.some.injEq] at hg
      subst hg
      exact heap_lt hgb

theorem wpListIn_append_own' {F : Fence} {n : Nat} {P : Program} (w : World) {ops : Array Oper} {rest : List Oper} {o : Oper} {a : Act} {Q : Exit → Act → World → Prop}
    (hg : o.guard = none) (s x : Operand) (t : TypeId) (hop : o.op = Op.call { callee := Callee.builtin Builtin.append, args := #[s, x], argTypes := #[t, t] })
    (base : Nat) (e : TypeId) (i : TypeInfo) (z : Value) (size bytes : Nat) (h1 : P.underlying t = some (.slice e)) (h2 : P.info? e = some i) (h3 : i.zero = some z) (h4 : i.size = size) (h5 : i.bytes = bytes) (h6 : z.cells.size = size) (h7 : 0 < size)
    (v : Value) (k : Nat) (xs : List Value) (hs : a.eval s = v) (hown : w.ownsRow base e size v k xs) (ad : Addr) (m c : Nat) (news : List Value) (hx : a.eval x = .slice (some ad) m c) (hn : news.length = m * size)
    (hc : ∀ j u, news[j]? = some u → w.cell? (ad.add j) = some u) (h1c : ∀ u ∈ news, u.oneCell' = true) (b1 : k + m ≤ maxLen) (b2 : (k + m) * bytes ≤ 140737488355328) (b3 : base ≤ w.heap.size)
    (hK : ∀ v' w', w'.ownsRow base e size v' (k + m) (xs ++ news) → w.grownBy w' v.ownBlock → (v' = .slice none 0 0 ↔ v = .slice none 0 0 ∧ m = 0) → (v'.ownBlock = v.ownBlock ∨ v'.ownBlock = some w.heap.size) → wpListIn F n P ops Q rest (a.put o.dst v') w') :
    wpListIn F n P ops Q (o :: rest) a w := by
  refine wpListIn_plain hg fun K hK' => ?_
  obtain ⟨v', w', hrun, r1, r2, r3, r4⟩ := run_append_own_at (P := P) w base t o.type e i z size bytes h1 h2 h3 h4 h5 h6 h7 v k xs hown ad m c news hn hc h1c b1 b2 b3
  unfold Oper.wpIn
  refine ⟨?_, ?_⟩
  · simp [Oper.about, hop, resolve, Target.leads, Sem.run_pure]
  · rw [Oper.semAt_plain F _ _ (by rw [hop]; intro c hc'; cases hc')]
    simp [execOp, hop, resolve, invoke, builtin, hs, hx, hrun, Result.andThen]
    exact hK' _ _ (hK v' w' r1 r2 r3 r4)

end Go.Proofs.YtomlffobbkcmdaaGreatDoor
