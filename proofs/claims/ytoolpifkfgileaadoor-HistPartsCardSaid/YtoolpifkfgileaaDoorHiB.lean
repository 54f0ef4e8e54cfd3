/-
  Package hist: orders; what the search keeps.
-/
import Derived.Test.YtoolpifkfgileaaDoorHiA
namespace Go.Proofs.YtoolpifkfgileaaDoor
open Go Go.RowKit Own

def overB (cs : List Cl) (d : Nat) : Bool := without (endedM cs) d == 0
/-- may the calls end so, in this order, from here on -/
def ordB (cs : List Cl) : Nat → List (Int × List Int) → List Nat → Bool
  | d, _, [] => overB cs d
  | d, h, n :: o => decide (n < cs.length) && match nextP cs d h n with | some h' => ordB cs (d ||| 2 ^ n) h' o | none => false

theorem mem_deed {op : Int} {xs : List Int} {x y : Int} (h : y ∈ (deedR op xs x).1) : y ∈ xs ∨ y = x := by
  unfold deedR at h
  split at h
  · rcases List.mem_append.1 h with h | h
    · exact .inl h
    · exact .inr (by simpa using h)
  · split at h
    · split at h
      · cases h
      · exact .inl (List.mem_of_mem_eraseIdx h)
    · split at h
      · split at h
        · cases h
        · exact .inl (List.mem_of_mem_eraseIdx h)
      · split at h
        · split at h
          · exact .inl h
          · rcases (List.mem_insertIdx List.countP_le_length).1 h with h | h
            · exact .inr h
            · exact .inl h
        · split at h
          · split at h
            · exact .inl (List.mem_of_mem_eraseIdx h)
            · exact .inl h
          · exact .inl h

theorem doR_small {k op : Int} {xs : List Int} {x : Int} (hk : In64 k) (hx : ∀ y ∈ xs, In64 y) (hx1 : In64 x) : In64 (doR k op xs x).kind ∧ (doR k op xs x).items.length ≤ 64 ∧ ∀ y ∈ (doR k op xs x).items, In64 y := by
  unfold doR
  split
  · split
    · rename_i h
      refine ⟨hk, h, fun y hy => ?_⟩
      rcases mem_deed hy with h | h
      · exact hx y h
      · rw [h]; exact hx1
    · exact ⟨by unfold In64; decide, by simp, fun y hy => by cases hy⟩
  · exact ⟨by unfold In64; decide, by simp, fun y hy => by cases hy⟩

theorem mayR_small {k op : Int} {xs : List Int} {x v cd : Int} (hk : In64 k) (hl : xs.length ≤ 64) (hx : ∀ y ∈ xs, In64 y) (hx1 : In64 x) : In64 (mayR k op xs x v cd).kind ∧ (mayR k op xs x v cd).items.length ≤ 64 ∧ ∀ y ∈ (mayR k op xs x v cd).items, In64 y := by
  unfold mayR
  split
  · exact ⟨hk, hl, hx⟩
  · split
    · exact doR_small hk hx hx1
    · exact ⟨hk, hl, hx⟩

theorem small_set {h : List (Int × List Int)} (hs : Small h) (m : Nat) {e : Int × List Int} (he : In64 e.1 ∧ e.2.length ≤ 64 ∧ ∀ y ∈ e.2, In64 y) : Small (h.set m e) := fun x hx => by
  rcases List.mem_or_eq_of_mem_set hx with h | h
  · exact hs x h
  · rw [h]; exact he

theorem small_nth {h : List (Int × List Int)} (hs : Small h) (m : Nat) : In64 (nthK h m).1 ∧ (nthK h m).2.length ≤ 64 ∧ ∀ y ∈ (nthK h m).2, In64 y := by
  unfold nthK
  rw [List.getD_eq_getElem?_getD]
  cases e : h[m]? with
  | none => exact ⟨by unfold In64; decide, by simp, fun y hy => by cases hy⟩
  | some x => exact hs x (List.mem_of_getElem? e)

/-- the numbers of the calls are those of a machine -/
def ArgsIn (cs : List Cl) : Prop := ∀ c ∈ cs, In64 c.arg
theorem argsIn_nth {cs : List Cl} (h : ArgsIn cs) (n : Nat) : In64 (nthC cs n).arg := by
  unfold nthC
  rw [List.getD_eq_getElem?_getD]
  cases e : cs[n]? with
  | none => unfold In64; decide
  | some x => exact h x (List.mem_of_getElem? e)

theorem step_small {cs : List Cl} {h h' : List (Int × List Int)} {n : Nat} (ha : ArgsIn cs) (hs : Small h) (he : stepP cs h n = some h') : Small h' ∧ h'.length = h.length := by
  have hn := small_nth hs (nthC cs n).cont.toNat
  unfold stepP at he
  dsimp only at he
  split at he
  · split at he
    · cases he
      exact ⟨small_set hs _ (doR_small hn.1 hn.2.2 (argsIn_nth ha n)), List.length_set⟩
    · cases he
  · split at he
    · cases he
      exact ⟨small_set hs _ (mayR_small hn.1 hn.2.1 hn.2.2 (argsIn_nth ha n)), List.length_set⟩
    · cases he

/-- points from which there is no order -/
def Dead (cs : List Cl) (K : Nat) (L : List (Nat × ByteArray)) : Prop := ∀ q ∈ L, ∀ h, Small h → h.length = K → keyL h = q.2.data.toList → ∀ o, ordB cs q.1 h o = false

def Sup (d e : Nat) : Prop := ∀ j, d.testBit j = true → e.testBit j = true

theorem hasP_true {L : List (Nat × ByteArray)} {d : Nat} {s : ByteArray} (h : hasP L d s = true) : ∃ q ∈ L, d = q.1 ∧ s.data.toList = q.2.data.toList := by
  unfold hasP at h
  obtain ⟨q, hq, h⟩ := List.any_eq_true.1 h
  exact ⟨q, hq, sameP_iff.1 h⟩
theorem hasP_false {L : List (Nat × ByteArray)} {d : Nat} {s : ByteArray} (h : ∀ q ∈ L, ¬ (d = q.1 ∧ s.data.toList = q.2.data.toList)) : hasP L d s = false := by
  rw [← Bool.not_eq_true]
  intro hh
  obtain ⟨q, hq, h'⟩ := hasP_true hh
  exact h q hq h'

/-- what is read is no map -/
theorem cell_keepD {w w' : World} {D : Nat} {L : List (Nat × ByteArray)} (hm : PMap w D L) (k : KeepBut (fun j => j = D) w w') {b o : Nat} {v : Value} (hc : w.cell? ⟨b, o, none⟩ = some v) : w'.cell? ⟨b, o, none⟩ = some v := by
  refine keep_cell k hc fun e => ?_
  have e : b = D := e
  obtain ⟨es, c, h2, _⟩ := hm
  subst e
  simp [World.cell?, h2] at hc
theorem rd_keepD {w w' : World} {D : Nat} {L : List (Nat × ByteArray)} (hm : PMap w D L) (k : KeepBut (fun j => j = D) w w') {p : Option Addr} {cs : List Value} (h : Rd w p cs) : Rd w' p cs := fun j v hj => by
  obtain ⟨b, o, hp, hc⟩ := h j v hj
  exact ⟨b, o, hp, cell_keepD hm k hc⟩
theorem has_keepD {w w' : World} {D : Nat} {L : List (Nat × ByteArray)} (hm : PMap w D L) (k : KeepBut (fun j => j = D) w w') {p : Option Addr} {l : List Kc} (h : HasAt w p l) : HasAt w' p l :=
  ⟨rd_keepD hm k h.rd, fun e he => ⟨rd_keepD hm k (h.live e he).1, (h.live e he).2⟩⟩
theorem sat_keepD {w w' : World} {S A D : Nat} {pk pc : Option Addr} {ck cc : Nat} {ks : List Int} {cs : List Cl} {L : List (Nat × ByteArray)} (hm : PMap w D L) (k : KeepBut (fun j => j = D) w w') (h : SAt w S A D pk pc ck cc ks cs) (hne : D ≠ S) : SAt w' S A D pk pc ck cc ks cs :=
  ⟨keep_blk k h.blk (fun e => hne e.symm), fun i hi => cell_keepD hm k (h.ahead i hi), fun i hi => by
    obtain ⟨g, o, h0, h1, h2, h3, h4, h5, h6, h7, h8⟩ := h.calls i hi
    exact ⟨g, o, h0, cell_keepD hm k h1, cell_keepD hm k h2, cell_keepD hm k h3, cell_keepD hm k h4, cell_keepD hm k h5, cell_keepD hm k h6, cell_keepD hm k h7, cell_keepD hm k h8⟩⟩

theorem ord_taken {cs : List Cl} {d n : Nat} {h : List (Int × List Int)} {o : List Nat} (hb : d.testBit n = true) : ordB cs d h (n :: o) = false := by
  unfold ordB nextP freeB
  rw [hb]; simp
theorem ord_out {cs : List Cl} {d n : Nat} {h : List (Int × List Int)} {o : List Nat} (hb : cs.length ≤ n) : ordB cs d h (n :: o) = false := by
  unfold ordB
  rw [decide_eq_false (by omega)]; rfl
theorem ord_next {cs : List Cl} {d n : Nat} {h : List (Int × List Int)} {o : List Nat} (hn : n < cs.length) : ordB cs d h (n :: o) = match nextP cs d h n with | some h' => ordB cs (d ||| 2 ^ n) h' o | none => false := by
  conv => lhs; unfold ordB
  rw [decide_eq_true hn]; rfl

theorem or_grows {d n N : Nat} (hb : d.testBit n = false) (hn : n < N) (hd : d < 2 ^ N) : d < d ||| 2 ^ n ∧ d ||| 2 ^ n < 2 ^ N := by
  have h1 : d ≤ d ||| 2 ^ n := Nat.left_le_or
  have h2 : d ≠ d ||| 2 ^ n := fun e => by
    have h3 := or_bit d n n
    rw [← e, hb] at h3
    simp at h3
  have h4 : 2 ^ n < 2 ^ N := Nat.pow_lt_pow_right (by decide) hn
  exact ⟨by omega, Nat.or_lt_two_pow hd h4⟩

end Go.Proofs.YtoolpifkfgileaaDoor
