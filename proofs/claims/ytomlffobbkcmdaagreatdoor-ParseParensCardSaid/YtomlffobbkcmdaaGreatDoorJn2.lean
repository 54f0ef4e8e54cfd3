/- Joined texts of this work: Pr1. -/
import Derived.Test.YtomlffobbkcmdaaGreatDoorJn1

/-
  ParseRows in plain: how the text of two operators and three numbers is split into tokens, and what is read out of them. No program in sight.
-/
namespace Go.Proofs.YtomlffobbkcmdaaGreatDoor
open Go

theorem head_app {a b : List UInt8} (h : a ≠ []) : (a ++ b).head? = a.head? := by
  cases a with
  | nil => exact absurd rfl h
  | cons x l => rfl
theorem scan_one {c : UInt8} {r : List UInt8} {t : Tok} (htok : tokT (c :: r) = (t, 0)) (hb : blankB c = false) (h35 : c ≠ 35) (hl : letterB c = false) (line col : Nat) (num : Bool) :
    scan (c :: r) line col num = ⟨t, line, col, 0⟩ :: scan ((c :: r).drop t.text.length) line (col + t.text.length) (t.kind == 3) := by
  rw [scan_cons, if_neg (by rw [hb]; exact Bool.false_ne_true), if_neg h35, if_neg (by rw [hl]; exact fun h => Bool.false_ne_true h.1), htok, if_neg (by simp)]
/-- a number's digits -/
def digL (n : Nat) : List UInt8 := if h : n ≤ 9 then [UInt8.ofNat (48 + n)] else digL (n / 10) ++ [UInt8.ofNat (48 + n % 10)]
termination_by n
decreasing_by omega
theorem digL_small {n : Nat} (h : n ≤ 9) : digL n = [UInt8.ofNat (48 + n)] := by rw [digL, dif_pos h]
theorem digL_big {n : Nat} (h : ¬ n ≤ 9) : digL n = digL (n / 10) ++ [UInt8.ofNat (48 + n % 10)] := by rw [digL, dif_neg h]
theorem dig_nat {k : Nat} (h : k ≤ 9) : (UInt8.ofNat (48 + k)).toNat = 48 + k := by
  rw [UInt8.toNat_ofNat']
  omega
theorem dig_is {k : Nat} (h : k ≤ 9) : digitB (UInt8.ofNat (48 + k)) = true := by
  unfold digitB
  rw [dig_nat h, decide_eq_true (by omega), decide_eq_true (by omega)]
  rfl
theorem digL_all (n : Nat) : ∀ c ∈ digL n, digitB c = true := by
  induction n using Nat.strongRecOn with
  | _ n ih =>
    intro c hc
    by_cases h : n ≤ 9
    · rw [digL_small h, List.mem_singleton] at hc
      rw [hc]; exact dig_is h
    · rw [digL_big h, List.mem_append, List.mem_singleton] at hc
      rcases hc with hc | hc
      · exact ih (n / 10) (by omega) c hc
      · rw [hc]; exact dig_is (by omega)
theorem val10_snoc (l : List UInt8) (c : UInt8) : val10 (l ++ [c]) = 10 * val10 l + (c.toNat - 48) := by simp [val10]
theorem digL_val (n : Nat) : val10 (digL n) = n := by
  induction n using Nat.strongRecOn with
  | _ n ih =>
    by_cases h : n ≤ 9
    · rw [digL_small h]
      show 10 * 0 + ((UInt8.ofNat (48 + n)).toNat - 48) = n
      rw [dig_nat h]; omega
    · rw [digL_big h, val10_snoc, ih (n / 10) (by omega), dig_nat (by omega)]
      omega
theorem digL_ne (n : Nat) : digL n ≠ [] := by
  by_cases h : n ≤ 9
  · rw [digL_small h]; simp
  · rw [digL_big h]; simp
theorem digL_head (n : Nat) : 9 < n → (digL n).head? ≠ some 48 := by
  induction n using Nat.strongRecOn with
  | _ n ih =>
    intro hn
    rw [digL_big (by omega), head_app (digL_ne _)]
    by_cases h : n / 10 ≤ 9
    · rw [digL_small h]
      intro e
      have e := Option.some.inj e
      have h2 := dig_nat h
      rw [e] at h2
      have h3 : (48 : UInt8).toNat = 48 := rfl
      omega
    · exact ih (n / 10) (by omega) (by omega)
theorem digL_one {n : Nat} : ¬ (1 < (digL n).length ∧ (digL n).head? = some 48) := by
  rintro ⟨h1, h2⟩
  by_cases h : n ≤ 9
  · rw [digL_small h] at h1; simp at h1
  · exact digL_head n (by omega) h2
theorem digL_len : ∀ (k n : Nat), n < 10 ^ (k + 1) → (digL n).length ≤ k + 1
  | 0, n, h => by rw [digL_small (by omega)]; simp
  | k + 1, n, h => by
    by_cases h9 : n ≤ 9
    · rw [digL_small h9]; simp
    · rw [digL_big h9, List.length_append]
      have := digL_len k (n / 10) (by rw [Nat.pow_succ] at h; omega)
      simp; omega

/-- the digits of a number are one token -/
theorem scan_dig {n : Nat} (hn : n ≤ 9223372036854775807) {r : List UInt8} (hr : ∀ c, r.head? = some c → digitB c = false) (line col : Nat) (num : Bool) :
    scan (digL n ++ r) line col num = ⟨⟨3, digL n, n⟩, line, col, 0⟩ :: scan r line (col + (digL n).length) true := by
  have htw : (digL n ++ r).takeWhile digitB = digL n := takeWhile_stop (digL_all n) hr
  obtain ⟨c, l, hl⟩ : ∃ c l, digL n = c :: l := by
    cases h : digL n with
    | nil => exact absurd h (digL_ne n)
    | cons c l => exact ⟨c, l, rfl⟩
  have hc : digitB c = true := digL_all n c (by rw [hl]; exact List.mem_cons_self)
  have hlet : letterB c = false := by
    unfold digitB at hc
    unfold letterB
    simp only [Bool.and_eq_true, decide_eq_true_eq] at hc
    rw [decide_eq_false (by omega)]; rfl
  have hbl : blankB c = false := by
    unfold digitB at hc
    unfold blankB
    simp only [Bool.and_eq_true, decide_eq_true_eq] at hc
    simp only [Bool.or_eq_false_iff, beq_eq_false_iff_ne]
    omega
  have h35 : c ≠ 35 := by
    rintro rfl
    exact absurd hc (by decide)
  have htok : tokT (c :: (l ++ r)) = (⟨3, digL n, n⟩, 0) := by
    rw [tokT_cons, hlet, hc]
    simp only [Bool.false_eq_true, if_false, if_true]
    unfold numT
    rw [← List.cons_append, ← hl, htw, digL_val, head_app (digL_ne _), if_neg digL_one, if_neg (by omega)]
  rw [hl, List.cons_append, scan_one htok hbl h35 hlet]
  rw [hl]
  show _ :: scan (List.drop (c :: l).length ((c :: l) ++ r)) _ _ _ = _
  rw [List.drop_left]
  rfl

/-- the signs that stand here -/
def signed (s : List UInt8) : Bool := ([[42], [47], [37], [43], [45], [60], [60, 61], [62], [62, 61], [61, 61], [33, 61], [38], [124], [33]] : List (List UInt8)).contains s
theorem scan_sign {s : List UInt8} (hs : signed s = true) {d : UInt8} {r : List UInt8} (hd : d ≠ 61) (line col : Nat) (num : Bool) :
    scan (s ++ d :: r) line col num = ⟨⟨4, s, 0⟩, line, col, 0⟩ :: scan (d :: r) line (col + s.length) false := by
  unfold signed at hs
  simp only [List.contains_cons, List.contains_nil, Bool.or_false, Bool.or_eq_true, beq_iff_eq] at hs
  rcases hs with rfl | rfl | rfl | rfl | rfl | rfl | rfl | rfl | rfl | rfl | rfl | rfl | rfl | rfl | rfl
  · exact scan_one (t := ⟨4, _, 0⟩) (by rw [tokT_cons, if_neg (by decide), if_neg (by decide), signT_cons, if_pos (by decide)]; simp [signN, equalsL]) (by decide) (by decide) (by decide) line col num
  · exact scan_one (t := ⟨4, _, 0⟩) (by rw [tokT_cons, if_neg (by decide), if_neg (by decide), signT_cons, if_pos (by decide)]; simp [signN, equalsL]) (by decide) (by decide) (by decide) line col num
  · exact scan_one (t := ⟨4, _, 0⟩) (by rw [tokT_cons, if_neg (by decide), if_neg (by decide), signT_cons, if_pos (by decide)]; simp [signN, equalsL]) (by decide) (by decide) (by decide) line col num
  · exact scan_one (t := ⟨4, _, 0⟩) (by rw [tokT_cons, if_neg (by decide), if_neg (by decide), signT_cons, if_pos (by decide)]; simp [signN, equalsL]) (by decide) (by decide) (by decide) line col num
  · exact scan_one (t := ⟨4, _, 0⟩) (by rw [tokT_cons, if_neg (by decide), if_neg (by decide), signT_cons, if_pos (by decide)]; simp [signN, equalsL]) (by decide) (by decide) (by decide) line col num
  · exact scan_one (t := ⟨4, _, 0⟩) (by rw [tokT_cons, if_neg (by decide), if_neg (by decide), signT_cons, if_pos (by decide)]; simp [signN, hd, equalsL]) (by decide) (by decide) (by decide) line col num
  · exact scan_one (t := ⟨4, _, 0⟩) (by rw [tokT_cons, if_neg (by decide), if_neg (by decide), signT_cons, if_pos (by decide)]; simp [signN, equalsL]) (by decide) (by decide) (by decide) line col num
  · exact scan_one (t := ⟨4, _, 0⟩) (by rw [tokT_cons, if_neg (by decide), if_neg (by decide), signT_cons, if_pos (by decide)]; simp [signN, hd, equalsL]) (by decide) (by decide) (by decide) line col num
  · exact scan_one (t := ⟨4, _, 0⟩) (by rw [tokT_cons, if_neg (by decide), if_neg (by decide), signT_cons, if_pos (by decide)]; simp [signN, equalsL]) (by decide) (by decide) (by decide) line col num
  · exact scan_one (t := ⟨4, _, 0⟩) (by rw [tokT_cons, if_neg (by decide), if_neg (by decide), signT_cons, if_pos (by decide)]; simp [signN, equalsL]) (by decide) (by decide) (by decide) line col num
  · exact scan_one (t := ⟨4, _, 0⟩) (by rw [tokT_cons, if_neg (by decide), if_neg (by decide), signT_cons, if_pos (by decide)]; simp [signN, equalsL]) (by decide) (by decide) (by decide) line col num
  · exact scan_one (t := ⟨4, _, 0⟩) (by rw [tokT_cons, if_neg (by decide), if_neg (by decide), signT_cons, if_pos (by decide)]; simp [signN, equalsL]) (by decide) (by decide) (by decide) line col num
  · exact scan_one (t := ⟨4, _, 0⟩) (by rw [tokT_cons, if_neg (by decide), if_neg (by decide), signT_cons, if_pos (by decide)]; simp [signN, equalsL]) (by decide) (by decide) (by decide) line col num
  · exact scan_one (t := ⟨4, _, 0⟩) (by rw [tokT_cons, if_neg (by decide), if_neg (by decide), signT_cons, if_pos (by decide)]; simp [signN, hd, equalsL]) (by decide) (by decide) (by decide) line col num

/-- what binds more than level l -/
def opsAt : Nat → List Nat
  | 0 => [1, 2, 3]
  | 1 => [4, 5]
  | 2 => [6, 7, 8, 9]
  | 3 => [10, 11]
  | 4 => [12]
  | _ => [13]
def nxt (one : List Item → Option (Ex × List Item)) : Nat → List Item → Option (Ex × List Item)
  | 0 => one
  | l + 1 => rowN (nxt one l) (opsAt l)
theorem rowsN_eq (one : List Item → Option (Ex × List Item)) : rowsN one = nxt one 6 := rfl
def levT (op : Nat) : Nat := if op ≤ 3 then 0 else if op ≤ 5 then 1 else if op ≤ 9 then 2 else if op ≤ 11 then 3 else if op = 12 then 4 else 5
theorem levT_le (op : Nat) : levT op ≤ 5 := by
  unfold levT
  split
  · omega
  · split
    · omega
    · split
      · omega
      · split
        · omega
        · split <;> omega
def opTok (op line col : Nat) : Item := ⟨⟨4, signL.getD op [], 0⟩, line, col, 0⟩
theorem opOf_tok {op : Nat} (h1 : 1 ≤ op) (h2 : op ≤ 13) (l line col : Nat) (hl : l ≤ 5) (r : List Item) : opOf (opsAt l) (opTok op line col :: r) = if levT op = l then some op else none := by
  have key : ∀ op : Nat, op < 14 → ∀ l : Nat, l < 6 → 1 ≤ op → (opsAt l).find? (fun k => isT ⟨4, signL.getD op [], 0⟩ (signL.getD k [])) = if levT op = l then some op else none := by decide +kernel
  exact key op (by omega) l (by omega) h1
theorem opOf_nil (ops : List Nat) : opOf ops [] = none := by
  unfold opOf headIs
  simp

variable {one : List Item → Option (Ex × List Item)}
theorem nxt_pass {l : Nat} {ts r : List Item} {x : Ex} (h : nxt one l ts = some (x, r)) (hr : opOf (opsAt l) r = none) : nxt one (l + 1) ts = some (x, r) := by
  show rowN (nxt one l) (opsAt l) ts = _
  unfold rowN
  rw [h]
  show rowL _ _ (r.length + 1) x r = _
  unfold rowL
  rw [hr]
theorem nxt_up {l : Nat} {ts r : List Item} {x : Ex} (h : nxt one l ts = some (x, r)) : ∀ k, (∀ j, l ≤ j → j < l + k → opOf (opsAt j) r = none) → nxt one (l + k) ts = some (x, r)
  | 0, _ => h
  | k + 1, hk => nxt_pass (nxt_up h k fun j h1 h2 => hk j h1 (by omega)) (hk (l + k) (by omega) (by omega))
theorem nxt_up' {l m : Nat} {ts r : List Item} {x : Ex} (h : nxt one l ts = some (x, r)) (hm : l ≤ m) (hk : ∀ j, l ≤ j → j < m → opOf (opsAt j) r = none) : nxt one m ts = some (x, r) := by
  have := nxt_up h (m - l) fun j h1 h2 => hk j h1 (by omega)
  rwa [show l + (m - l) = m by omega] at this
def binX (op line col : Nat) (x y : Ex) : Ex := .mk 5 op 0 [] line col [x, y]
/-- one operator of a level, and what follows is none of it -/
theorem nxt_op {op line col : Nat} (h1 : 1 ≤ op) (h2 : op ≤ 13) {ts r1 r2 : List Item} {x y : Ex} (hx : nxt one (levT op) ts = some (x, opTok op line col :: r1)) (hy : nxt one (levT op) r1 = some (y, r2)) (hr : opOf (opsAt (levT op)) r2 = none) :
    nxt one (levT op + 1) ts = some (binX op line col x y, r2) := by
  show rowN (nxt one (levT op)) (opsAt (levT op)) ts = _
  unfold rowN
  rw [hx]
  show rowL _ _ ((opTok op line col :: r1).length + 1) x _ = _
  rw [List.length_cons]
  unfold rowL
  rw [opOf_tok h1 h2 _ _ _ (levT_le op), if_pos rfl]
  dsimp only
  rw [hy]
  dsimp only
  unfold rowL
  rw [hr]
  rfl
theorem nxt_op2 {a b l1 c1 l2 c2 : Nat} (ha : 1 ≤ a) (ha' : a ≤ 13) (hb : 1 ≤ b) (hb' : b ≤ 13) (hl : levT b = levT a) {ts r1 r2 : List Item} {x y z : Ex} (hx : nxt one (levT a) ts = some (x, opTok a l1 c1 :: r1)) (hy : nxt one (levT a) r1 = some (y, opTok b l2 c2 :: r2)) (hlen : r2.length < r1.length) (hz : nxt one (levT a) r2 = some (z, [])) :
    nxt one (levT a + 1) ts = some (binX b l2 c2 (binX a l1 c1 x y) z, []) := by
  show rowN (nxt one (levT a)) (opsAt (levT a)) ts = _
  unfold rowN
  rw [hx]
  show rowL _ _ ((opTok a l1 c1 :: r1).length + 1) x _ = _
  rw [List.length_cons]
  obtain ⟨k, hk⟩ : ∃ k, r1.length = k + 1 := ⟨r1.length - 1, by omega⟩
  rw [hk]
  unfold rowL
  rw [opOf_tok ha ha' _ _ _ (levT_le a), if_pos rfl]
  dsimp only
  rw [hy]
  dsimp only
  unfold rowL
  rw [opOf_tok hb hb' _ _ _ (levT_le a), if_pos hl]
  dsimp only
  rw [hz]
  dsimp only
  unfold rowL
  rw [opOf_nil]
  rfl
/-- what is read out of three operands and two operators -/
theorem rows_read {a b l1 c1 l2 c2 : Nat} (ha : 1 ≤ a) (ha' : a ≤ 13) (hb : 1 ≤ b) (hb' : b ≤ 13) {g0 g1 g2 : List Item} {x0 x1 x2 : Ex}
    (h0 : ∀ r, one (g0 ++ r) = some (x0, r)) (h1 : ∀ r, one (g1 ++ r) = some (x1, r)) (h2 : ∀ r, one (g2 ++ r) = some (x2, r)) (hg : g1 ≠ []) :
    rowsN one (g0 ++ opTok a l1 c1 :: (g1 ++ opTok b l2 c2 :: g2)) = some (if levT b < levT a then binX a l1 c1 x0 (binX b l2 c2 x1 x2) else binX b l2 c2 (binX a l1 c1 x0 x1) x2, []) := by
  rw [rowsN_eq]
  have hla := levT_le a
  have hlb := levT_le b
  have q0 : ∀ m, m ≤ levT a → nxt one m (g0 ++ opTok a l1 c1 :: (g1 ++ opTok b l2 c2 :: g2)) = some (x0, opTok a l1 c1 :: (g1 ++ opTok b l2 c2 :: g2)) := fun m hm =>
    nxt_up' (l := 0) (h0 _) (Nat.zero_le _) fun j _ hj => by rw [opOf_tok ha ha' _ _ _ (by omega), if_neg (by omega)]
  have q1 : ∀ m, m ≤ levT b → nxt one m (g1 ++ opTok b l2 c2 :: g2) = some (x1, opTok b l2 c2 :: g2) := fun m hm =>
    nxt_up' (l := 0) (h1 _) (Nat.zero_le _) fun j _ hj => by rw [opOf_tok hb hb' _ _ _ (by omega), if_neg (by omega)]
  have q2 : ∀ m, nxt one m g2 = some (x2, []) := fun m =>
    nxt_up' (l := 0) (by have := h2 []; rwa [List.append_nil] at this) (Nat.zero_le _) fun j _ _ => opOf_nil _
  by_cases h : levT b < levT a
  · rw [if_pos h]
    have hbin := nxt_op (one := one) hb hb' (q1 _ (Nat.le_refl _)) (q2 _) (opOf_nil _)
    have hbin2 := nxt_up' hbin (show levT b + 1 ≤ levT a by omega) fun j _ _ => opOf_nil _
    have := nxt_op (one := one) ha ha' (q0 _ (Nat.le_refl _)) hbin2 (opOf_nil _)
    exact nxt_up' this (by omega) fun j _ _ => opOf_nil _
  · rw [if_neg h]
    by_cases he : levT b = levT a
    · have := nxt_op2 (one := one) ha ha' hb hb' he (q0 _ (Nat.le_refl _)) (q1 _ (by omega)) (by
        rw [List.length_append, List.length_cons]
        have : 0 < g1.length := List.length_pos_iff.2 hg
        omega) (q2 _)
      exact nxt_up' this (by omega) fun j _ _ => opOf_nil _
    · have hA := nxt_op (one := one) ha ha' (q0 _ (Nat.le_refl _)) (q1 _ (by omega)) (by rw [opOf_tok hb hb' _ _ _ hla, if_neg he])
      have hA2 := nxt_up' hA (show levT a + 1 ≤ levT b by omega) fun j hj hj2 => by rw [opOf_tok hb hb' _ _ _ (by omega), if_neg (by omega)]
      have := nxt_op (one := one) hb hb' hA2 (q2 _) (opOf_nil _)
      exact nxt_up' this (by omega) fun j _ _ => opOf_nil _

/-- an operand: a number, behind a sign or none -/
def sgnL (s : Nat) : List UInt8 := if s = 1 then [45] else if s = 2 then [33] else []
def wordR (s n : Nat) : List UInt8 := sgnL s ++ digL n
def numX (n line col : Nat) : Ex := .mk 1 0 n [] line col []
def opdX (s n l1 c1 l2 c2 : Nat) : Ex := if s = 1 then .mk 4 1 0 [] l1 c1 [numX n l2 c2] else if s = 2 then .mk 4 2 0 [] l1 c1 [numX n l2 c2] else numX n l2 c2
def opdT (s n l1 c1 l2 c2 : Nat) : List Item := if s = 1 then [⟨⟨4, [45], 0⟩, l1, c1, 0⟩, ⟨⟨3, digL n, n⟩, l2, c2, 0⟩] else if s = 2 then [⟨⟨4, [33], 0⟩, l1, c1, 0⟩, ⟨⟨3, digL n, n⟩, l2, c2, 0⟩] else [⟨⟨3, digL n, n⟩, l2, c2, 0⟩]
theorem opd_read (s n l1 c1 l2 c2 f : Nat) (r : List Item) : oneP (f + 2) (opdT s n l1 c1 l2 c2 ++ r) = some (opdX s n l1 c1 l2 c2, r) := by
  have hnum : ∀ f r, oneP (f + 1) (⟨⟨3, digL n, n⟩, l2, c2, 0⟩ :: r) = some (numX n l2 c2, r) := fun f r => by
    show oneOf _ _ _ = _
    unfold oneOf
    dsimp only
    rw [if_neg (by simp [isT]), if_neg (by simp [isT]), if_neg (by simp [isT]), if_pos rfl]
    rfl
  unfold opdT opdX
  by_cases h1 : s = 1
  · rw [if_pos h1, if_pos h1]
    show oneOf _ _ _ = _
    unfold oneOf
    simp only [List.cons_append, List.nil_append]
    rw [if_pos (by decide), hnum f r]
  · rw [if_neg h1, if_neg h1]
    by_cases h2 : s = 2
    · rw [if_pos h2, if_pos h2]
      show oneOf _ _ _ = _
      unfold oneOf
      simp only [List.cons_append, List.nil_append]
      rw [if_neg (by decide), if_pos (by decide), hnum f r]
    · rw [if_neg h2, if_neg h2]
      exact hnum (f + 1) r

/-- the text, and its tokens -/
def textR (a b s0 s1 s2 n0 n1 n2 : Nat) : List UInt8 := wordR s0 n0 ++ (signL.getD a [] ++ (wordR s1 n1 ++ (32 :: (signL.getD b [] ++ wordR s2 n2))))
theorem dig_cons (n : Nat) : ∃ c l, digL n = c :: l ∧ c ≠ 61 := by
  cases h : digL n with
  | nil => exact absurd h (digL_ne n)
  | cons c l => exact ⟨c, l, rfl, fun e => by have := digL_all n c (by rw [h]; exact List.mem_cons_self); rw [e] at this; exact absurd this (by decide)⟩
theorem word_cons (s n : Nat) : ∃ c l, wordR s n = c :: l ∧ c ≠ 61 := by
  unfold wordR sgnL
  split
  · exact ⟨45, digL n, rfl, by decide⟩
  · split
    · exact ⟨33, digL n, rfl, by decide⟩
    · exact dig_cons n
theorem scan_word {s n : Nat} (hn : n ≤ 9223372036854775807) {r : List UInt8} (hr : ∀ c, r.head? = some c → digitB c = false) (line col : Nat) (num : Bool) :
    ∃ l1 c1 l2 c2 c3, scan (wordR s n ++ r) line col num = opdT s n l1 c1 l2 c2 ++ scan r line c3 true := by
  unfold wordR sgnL opdT
  obtain ⟨c, l, hc, hc61⟩ := dig_cons n
  have key : ∀ x : UInt8, signed [x] = true → scan ([x] ++ digL n ++ r) line col num = ⟨⟨4, [x], 0⟩, line, col, 0⟩ :: ⟨⟨3, digL n, n⟩, line, col + 1, 0⟩ :: scan r line (col + 1 + (digL n).length) true := fun x hx => by
    have h1 := scan_sign hx hc61 (r := l ++ r) line col num
    rw [← scan_dig hn hr line (col + 1) false, List.append_assoc]
    rw [show digL n ++ r = c :: (l ++ r) by rw [hc]; rfl]
    exact h1
  split
  · exact ⟨line, col, line, col + 1, _, key 45 (by decide)⟩
  · split
    · exact ⟨line, col, line, col + 1, _, key 33 (by decide)⟩
    · exact ⟨0, 0, line, col, _, by rw [List.nil_append]; exact scan_dig hn hr line col num⟩
theorem sign_head {op : Nat} (h1 : 1 ≤ op) (h2 : op ≤ 13) (r : List UInt8) : ∀ c, (signL.getD op [] ++ r).head? = some c → digitB c = false := by
  have key : ∀ op : Nat, op < 14 → 1 ≤ op → (∃ c l, signL.getD op [] = c :: l ∧ digitB c = false) := by
    intro op h h'
    have : op = 1 ∨ op = 2 ∨ op = 3 ∨ op = 4 ∨ op = 5 ∨ op = 6 ∨ op = 7 ∨ op = 8 ∨ op = 9 ∨ op = 10 ∨ op = 11 ∨ op = 12 ∨ op = 13 := by omega
    rcases this with rfl | rfl | rfl | rfl | rfl | rfl | rfl | rfl | rfl | rfl | rfl | rfl | rfl <;> exact ⟨_, _, rfl, by decide⟩
  obtain ⟨c, l, hc, hd⟩ := key op (by omega) h1
  intro d hd'
  rw [hc] at hd'
  cases hd'
  exact hd
theorem sign_signed {op : Nat} (h1 : 1 ≤ op) (h2 : op ≤ 13) : signed (signL.getD op []) = true := by
  have key : ∀ op : Nat, op < 14 → 1 ≤ op → signed (signL.getD op []) = true := by decide
  exact key op (by omega) h1
theorem rows_scan {a b s0 s1 s2 n0 n1 n2 : Nat} (ha : 1 ≤ a) (ha' : a ≤ 13) (hb : 1 ≤ b) (hb' : b ≤ 13) (h0 : n0 ≤ 9223372036854775807) (h1 : n1 ≤ 9223372036854775807) (h2 : n2 ≤ 9223372036854775807) :
    ∃ p0 p1 p2 p3 q0 q1 q2 q3 r0 r1 r2 r3 u1 u2 v1 v2 : Nat, scan (textR a b s0 s1 s2 n0 n1 n2) 1 1 false = opdT s0 n0 p0 p1 p2 p3 ++ opTok a u1 u2 :: (opdT s1 n1 q0 q1 q2 q3 ++ opTok b v1 v2 :: opdT s2 n2 r0 r1 r2 r3) := by
  obtain ⟨c1, l1, e1, d1⟩ := word_cons s1 n1
  obtain ⟨c2, l2, e2, d2⟩ := word_cons s2 n2
  unfold textR
  obtain ⟨p0, p1, p2, p3, p4, hp⟩ := scan_word (s := s0) h0 (sign_head ha ha' (wordR s1 n1 ++ (32 :: (signL.getD b [] ++ wordR s2 n2)))) 1 1 false
  rw [hp]
  have hA := scan_sign (sign_signed ha ha') d1 (r := l1 ++ (32 :: (signL.getD b [] ++ wordR s2 n2))) 1 p4 true
  rw [show wordR s1 n1 ++ (32 :: (signL.getD b [] ++ wordR s2 n2)) = c1 :: (l1 ++ (32 :: (signL.getD b [] ++ wordR s2 n2))) by rw [e1]; rfl, hA]
  rw [show c1 :: (l1 ++ (32 :: (signL.getD b [] ++ wordR s2 n2))) = wordR s1 n1 ++ (32 :: (signL.getD b [] ++ wordR s2 n2)) by rw [e1]; rfl]
  obtain ⟨q0, q1, q2, q3, q4, hq⟩ := scan_word (s := s1) h1 (r := 32 :: (signL.getD b [] ++ wordR s2 n2)) (fun c hc => by cases hc; decide) 1 (p4 + (signL.getD a []).length) false
  rw [hq, scan_blank _ _ _ _ (by decide) (by decide)]
  have hB := scan_sign (sign_signed hb hb') d2 (r := l2) 1 (q4 + 1) false
  rw [show wordR s2 n2 = c2 :: l2 from e2, hB, ← e2]
  obtain ⟨r0, r1, r2, r3, r4, hr⟩ := scan_word (s := s2) h2 (r := []) (fun c hc => by cases hc) 1 (q4 + 1 + (signL.getD b []).length) false
  rw [List.append_nil, scan_nil, List.append_nil] at hr
  rw [hr]
  exact ⟨p0, p1, p2, p3, q0, q1, q2, q3, r0, r1, r2, r3, 1, p4, 1, q4 + 1, rfl⟩

end Go.Proofs.YtomlffobbkcmdaaGreatDoor
