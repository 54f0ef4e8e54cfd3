/- Joined texts of this work: Held, Ref5, Ref6. -/
import Derived.Test.YtoolpifkfgileaaDoorJo15

/-
  What the model of the statements holds, in memory and in plain: the loop's relation, and what each step does to it. No code in sight.
-/
namespace Go.Proofs.YtoolpifkfgileaaDoor
open Go Go.RowKit Own

/-- The list, the map and the content, each in blocks of its own. N5: the content's block; N8: the map's. -/
structure Held (N5 N8 : Nat) (k : Int) (w0 wr : World) (p7 : Option Addr) (c7 : Nat) (ls : List Int) (px : Option Addr) (cx : Nat) (xs : List Int) (m : List (Int × Value)) : Prop where
  keep : KeepBut (fun _ => False) w0 wr
  row : OwnI 2 w0.heap.size wr p7 c7 ls
  map : MapI .i64 wr N8 m
  blk : wr.heap[N5]? = some (.cells #[.int .i64 k, .slice px xs.length cx] 47 (0, 0))
  lies : Lies w0.heap.size wr px xs
  b5 : w0.heap.size ≤ N5
  b8 : w0.heap.size ≤ N8
  n58 : N5 ≠ N8
  a5 : ¬ Of p7 N5
  a8 : ¬ Of p7 N8
  x5 : ¬ Of px N5
  x8 : ¬ Of px N8
  x7 : ∀ b, Of p7 b → ¬ Of px b

section
variable {N5 N8 : Nat} {k : Int} {w0 wr : World} {p7 : Option Addr} {c7 : Nat} {ls : List Int} {px : Option Addr} {cx : Nat} {xs : List Int} {m : List (Int × Value)}

theorem Held.lt5 (h : Held N5 N8 k w0 wr p7 c7 ls px cx xs m) : N5 < wr.heap.size := World.block_lt_of_cell? wr _ (blk_cell (k := 0) h.blk rfl)
theorem Held.lt7 (h : Held N5 N8 k w0 wr p7 c7 ls px cx xs m) {b : Nat} (hb : Of p7 b) : b < wr.heap.size := by
  obtain ⟨a, h1, rfl⟩ := hb
  exact (h.row.lt a h1).2
theorem Held.ltx (h : Held N5 N8 k w0 wr p7 c7 ls px cx xs m) {b : Nat} (hb : Of px b) : b < wr.heap.size := by
  obtain ⟨a, h1, rfl⟩ := hb
  exact (h.lies.2 a h1).2.1

theorem Held.stay {w' : World} (h : Held N5 N8 k w0 wr p7 c7 ls px cx xs m) (hk : KeepBut (fun _ => False) wr w') : Held N5 N8 k w0 w' p7 c7 ls px cx xs m :=
  ⟨h.keep.trans hk, h.row.stay hk, h.map.stay hk, hk.blk h.blk, h.lies.stay hk, h.b5, h.b8, h.n58, h.a5, h.a8, h.x5, h.x8, h.x7⟩

theorem KeepBut.blkE {E : Nat → Prop} {w w' : World} (h : KeepBut E w w') {b : Nat} {x : Obj} (hc : w.heap[b]? = some x) (hE : ¬ E b) : w'.heap[b]? = some x := by
  rw [h.block b ?_ hE]
  · exact hc
  · rcases Nat.lt_or_ge b w.heap.size with h' | h'
    · exact h'
    · rw [Array.getElem?_eq_none h'] at hc; cases hc

/-- the list is made anew -/
theorem Held.newRow {w' : World} (h : Held N5 N8 k w0 wr p7 c7 ls px cx xs m) {p' : Option Addr} {c' : Nat} {ls' : List Int} (hk : KeepBut (Of p7) wr w') (hr : OwnI 2 0 w' p' c' ls') (hn : ∀ b, Of p' b → Of p7 b ∨ wr.heap.size ≤ b) :
    Held N5 N8 k w0 w' p' c' ls' px cx xs m := by
  have hb : ∀ b, Of p7 b → w0.heap.size ≤ b := fun b ⟨a, h1, h2⟩ => by subst h2; exact (h.row.lt a h1).1
  have hs := h.keep.size
  refine ⟨h.keep.new hk hb, hr.base fun a ha => ?_, h.map.keep hk h.a8, KeepBut.blkE hk h.blk h.a5, h.lies.keep hk fun a ha e => h.x7 _ e ⟨a, ha, rfl⟩, h.b5, h.b8, h.n58, ?_, ?_, h.x5, h.x8, ?_⟩
  · rcases hn _ ⟨a, ha, rfl⟩ with h1 | h1
    · exact hb _ h1
    · omega
  · intro e
    rcases hn _ e with h1 | h1
    · exact h.a5 h1
    · have := h.lt5; omega
  · intro e
    rcases hn _ e with h1 | h1
    · exact h.a8 h1
    · have := h.map.lt; omega
  · intro b e hx
    rcases hn _ e with h1 | h1
    · exact h.x7 b h1 hx
    · have := h.ltx hx; omega

/-- the map is turned -/
theorem Held.newMap {w' : World} (h : Held N5 N8 k w0 wr p7 c7 ls px cx xs m) {m' : List (Int × Value)} (hk : KeepBut (fun b => b = N8) wr w') (hm : MapI .i64 w' N8 m') : Held N5 N8 k w0 w' p7 c7 ls px cx xs m' :=
  ⟨h.keep.new hk fun b hb => by rw [show b = N8 from hb]; exact h.b8, h.row.keep hk fun a ha e => h.a8 ⟨a, ha, Eq.symm e⟩, hm, KeepBut.blkE hk h.blk h.n58,
    h.lies.keep hk fun a ha e => h.x8 ⟨a, ha, Eq.symm e⟩, h.b5, h.b8, h.n58, h.a5, h.a8, h.x5, h.x8, h.x7⟩

/-- the content is another one -/
theorem Held.newItems {w' : World} (h : Held N5 N8 k w0 wr p7 c7 ls px cx xs m) {py : Option Addr} {cy : Nat} {ys : List Int} {B : Nat} (hB : w0.heap.size ≤ B) (hk : KeepBut (fun b => b = N5) wr w') (hb : w'.heap[N5]? = some (.cells #[.int .i64 k, .slice py ys.length cy] 47 (0, 0)))
    (hl : Lies B wr py ys) (h5 : N5 < B) (h8 : N8 < B) (h7 : ∀ b, Of p7 b → b < B) : Held N5 N8 k w0 w' p7 c7 ls py cy ys m := by
  have hof : ∀ b, Of py b → B ≤ b := fun b ⟨a, h1, h2⟩ => by subst h2; exact (hl.2 a h1).1
  refine ⟨h.keep.new hk fun b hb => by rw [show b = N5 from hb]; exact h.b5, h.row.keep hk fun a ha e => h.a5 ⟨a, ha, Eq.symm e⟩, h.map.keep hk fun e => h.n58 (Eq.symm e), hb, ?_, h.b5, h.b8, h.n58, h.a5, h.a8, ?_, ?_, ?_⟩
  · refine (hl.keep hk fun a ha e => ?_).base fun a ha => ?_
    · have := (hl.2 a ha).1; have : a.block = N5 := e; omega
    · have := (hl.2 a ha).1; omega
  · intro e; have := hof _ e; omega
  · intro e; have := hof _ e; omega
  · intro b e e'; have := hof _ e'; have := h7 _ e; omega
end

/-! The plain law. -/

/-- What the model says of the content. -/
def Model (k : Int) (ls xs : List Int) (m : List (Int × Value)) : Prop :=
  ((k = 1 ∨ k = 2) ∧ ls = xs ∧ xs.length ≤ 64) ∨
  (k = 3 ∧ strictB xs = true ∧ (∀ z, mget m z = if xs.contains z = true then some (.int .i64 1) else none) ∧ m.length = xs.length ∧ (∀ z ∈ xs, -8 < z ∧ z < 8))

theorem Model.kind {k : Int} {ls xs : List Int} {m : List (Int × Value)} (h : Model k ls xs m) : k = 1 ∨ k = 2 ∨ k = 3 := by
  rcases h with ⟨h, _⟩ | ⟨h, _⟩
  · rcases h with h | h
    · exact .inl h
    · exact .inr (.inl h)
  · exact .inr (.inr h)

theorem strict_few {xs : List Int} (h : strictB xs = true) (hr : ∀ z ∈ xs, -8 < z ∧ z < 8) : xs.length ≤ 15 := by
  have h' := of_decide_eq_true h
  have key : ∀ j, j < xs.length → -7 + (j : Int) ≤ nth xs j := by
    intro j
    induction j with
    | zero => intro hj; rw [nth_eq hj]; have := hr _ (List.getElem_mem hj); omega
    | succ j ih =>
      intro hj
      have h1 := ih (by omega)
      have h2 := h' j (by omega) hj
      omega
  rcases Nat.lt_or_ge 15 xs.length with hl | hl
  · have h1 := key 15 hl
    rw [nth_eq hl] at h1
    have := hr _ (List.getElem_mem hl)
    omega
  · exact hl

theorem Model.chk {k : Int} {ls xs : List Int} {m : List (Int × Value)} (h : Model k ls xs m) : chk k xs = 0 := by
  rcases h with ⟨h1, _, h3⟩ | ⟨h1, h2, _, _, h5⟩
  · refine chk_ok (decide_eq_true (by omega)) h3 fun e => ?_
    omega
  · subst h1
    exact chk_ok (by decide) (by have := strict_few h2 h5; omega) fun _ => h2

theorem pairwise_strict {xs : List Int} (h : xs.Pairwise (· < ·)) : strictB xs = true := by
  refine decide_eq_true fun j h1 h2 => ?_
  rw [nth_eq h1, nth_eq h2]
  exact (List.pairwise_iff_getElem.1 h) j (j + 1) h1 h2 (by omega)

/-- what a key's place splits -/
theorem count_split {xs : List Int} {x : Int} (h : xs.Pairwise (· < ·)) : (∀ z ∈ xs.take (xs.countP (· < x)), z < x) ∧ (∀ z ∈ xs.drop (xs.countP (· < x)), x ≤ z) := by
  induction xs with
  | nil => simp
  | cons y ys ih =>
    have hp := List.pairwise_cons.1 h
    by_cases hy : y < x
    · have := ih hp.2
      rw [List.countP_cons_of_pos (by simpa using hy)]
      refine ⟨fun z hz => ?_, fun z hz => ?_⟩
      · rw [List.take_succ_cons] at hz
        rcases List.mem_cons.1 hz with rfl | hz
        · exact hy
        · exact this.1 z hz
      · rw [List.drop_succ_cons] at hz
        exact this.2 z hz
    · have hc : (y :: ys).countP (· < x) = 0 := by
        rw [List.countP_eq_zero]
        intro z hz
        rcases List.mem_cons.1 hz with rfl | hz
        · simpa using hy
        · have := hp.1 z hz; simp; omega
      rw [hc]
      refine ⟨by simp, fun z hz => ?_⟩
      rw [List.drop_zero] at hz
      rcases List.mem_cons.1 hz with rfl | hz
      · omega
      · have := hp.1 z hz; omega

theorem putAt_eq (xs : List Int) (i : Nat) (x : Int) (h : i ≤ xs.length) : putAt xs i x = xs.take i ++ x :: xs.drop i := by
  unfold putAt
  induction xs generalizing i with
  | nil =>
    have : i = 0 := by simpa using h
    subst this; rfl
  | cons y ys ih =>
    cases i with
    | zero => rfl
    | succ i => simp at h; simp [List.insertIdx_succ_cons, ih i h]

theorem cutAt_eq (xs : List Int) (i : Nat) : cutAt xs i = xs.take i ++ xs.drop (i + 1) := List.eraseIdx_eq_take_drop_succ _ _

/-- a key is put in -/
theorem put_model {xs : List Int} {x : Int} (h : strictB xs = true) (hn : xs.contains x = false) :
    strictB (putAt xs (xs.countP (· < x)) x) = true ∧ (∀ z, z ∈ putAt xs (xs.countP (· < x)) x ↔ z = x ∨ z ∈ xs) ∧ (putAt xs (xs.countP (· < x)) x).length = xs.length + 1 := by
  have hp := strict_pairwise h
  have hs := count_split (x := x) hp
  have hle : xs.countP (· < x) ≤ xs.length := List.countP_le_length
  have hx : x ∉ xs := by simpa using hn
  generalize xs.countP (· < x) = i at *
  refine ⟨pairwise_strict ?_, fun z => ?_, putAt_length hle⟩
  · rw [putAt_eq _ _ _ hle, List.pairwise_append]
    rw [← List.take_append_drop i xs, List.pairwise_append] at hp
    refine ⟨hp.1, List.pairwise_cons.2 ⟨fun z hz => ?_, hp.2.1⟩, fun a ha b hb => ?_⟩
    · have h1 := hs.2 z hz
      have h2 : z ≠ x := fun e => hx (e ▸ List.mem_of_mem_drop hz)
      omega
    · rcases List.mem_cons.1 hb with rfl | hb
      · exact hs.1 a ha
      · exact hp.2.2 a ha b hb
  · rw [putAt_eq _ _ _ hle]
    conv => rhs; rw [← List.take_append_drop i xs]
    simp only [List.mem_append, List.mem_cons]
    constructor
    · rintro (h | h | h)
      · exact .inr (.inl h)
      · exact .inl h
      · exact .inr (.inr h)
    · rintro (h | h | h)
      · exact .inr (.inl h)
      · exact .inl h
      · exact .inr (.inr h)

/-- a key is taken out -/
theorem cut_model {xs : List Int} {x : Int} (h : strictB xs = true) (hn : xs.contains x = true) :
    strictB (cutAt xs (xs.countP (· < x))) = true ∧ (∀ z, z ∈ cutAt xs (xs.countP (· < x)) ↔ z ≠ x ∧ z ∈ xs) ∧ (cutAt xs (xs.countP (· < x))).length = xs.length - 1 := by
  have hp := strict_pairwise h
  have hs := count_split (x := x) hp
  have hlt := count_lt hn
  have hx : x ∈ xs := by simpa using hn
  generalize xs.countP (· < x) = i at *
  have hdr : xs.drop i = xs[i] :: xs.drop (i + 1) := List.drop_eq_getElem_cons hlt
  have hxi : xs[i] = x := by
    rw [← List.take_append_drop i xs] at hx
    rcases List.mem_append.1 hx with h1 | h1
    · have := hs.1 x h1; omega
    · rw [← List.take_append_drop i xs, List.pairwise_append, hdr] at hp
      rw [hdr] at h1
      rcases List.mem_cons.1 h1 with h2 | h2
      · exact h2.symm
      · have h3 := (List.pairwise_cons.1 hp.2.1).1 x h2
        have h4 := hs.2 xs[i] (by rw [hdr]; exact List.mem_cons_self)
        omega
  have hall : ∀ z, z ∈ xs ↔ z ∈ xs.take i ∨ z = x ∨ z ∈ xs.drop (i + 1) := fun z => by
    conv => lhs; rw [← List.take_append_drop i xs]
    rw [List.mem_append, hdr, List.mem_cons, hxi]
  refine ⟨pairwise_strict ?_, fun z => ?_, cutAt_length hlt⟩
  · rw [cutAt_eq]
    rw [← List.take_append_drop i xs, List.pairwise_append, hdr] at hp
    rw [List.pairwise_append]
    exact ⟨hp.1, (List.pairwise_cons.1 hp.2.1).2, fun a ha b hb => hp.2.2 a ha b (List.mem_cons_of_mem _ hb)⟩
  · rw [cutAt_eq, List.mem_append, hall]
    rw [← List.take_append_drop i xs, List.pairwise_append, hdr, hxi] at hp
    constructor
    · rintro (h1 | h1)
      · have := hs.1 z h1
        exact ⟨by omega, .inl h1⟩
      · have := (List.pairwise_cons.1 hp.2.1).1 z h1
        exact ⟨by omega, .inr (.inr h1)⟩
    · rintro ⟨h1, h2 | h2 | h2⟩
      · exact .inl h2
      · exact absurd h2 h1
      · exact .inr h2

/-! What each call does to the model. -/
section
variable {k : Int} {ls xs : List Int} {m : List (Int × Value)} {arg : Int}

/-- a call is done, and the model goes with it -/
def Stepped (k op arg : Int) (xs ls' : List Int) (m' : List (Int × Value)) (v c : Int) : Prop :=
  ∃ ys, doR k op xs arg = ⟨k, ys, v, c, 0⟩ ∧ Model k ls' ys m' ∧ (c = 1 ∨ (c = 0 ∧ ys = xs))

theorem Model.nil (k : Int) (h : k = 1 ∨ k = 2 ∨ k = 3) : Model k [] [] [] := by
  rcases h with h | h | h
  · exact .inl ⟨.inl h, rfl, by decide⟩
  · exact .inl ⟨.inr h, rfl, by decide⟩
  · exact .inr ⟨h, by decide, fun z => rfl, rfl, by simp⟩

theorem Model.line (h : Model k ls xs m) (hk : k < 3) : (k = 1 ∨ k = 2) ∧ ls = xs ∧ xs.length ≤ 64 := by
  rcases h with h | ⟨h, _⟩
  · exact h
  · omega

theorem Model.set (h : Model k ls xs m) (hk : k = 3) : strictB xs = true ∧ (∀ z, mget m z = if xs.contains z = true then some (.int .i64 1) else none) ∧ m.length = xs.length ∧ (∀ z ∈ xs, -8 < z ∧ z < 8) := by
  rcases h with ⟨h, _⟩ | ⟨_, h⟩
  · omega
  · exact h

theorem doR_of {op : Int} (hm : Model k ls xs m) (hk : kindOf op = k) {ys : List Int} {v : Int} {b : Bool} (hd : deedR op xs arg = (ys, v, b)) (hl : ys.length ≤ 64) : doR k op xs arg = ⟨k, ys, v, if b = true then 1 else 0, 0⟩ := by
  unfold doR
  rw [if_pos ⟨hm.chk, hk⟩, hd, if_pos hl]

theorem step_full {op : Int} (h : Model k ls xs m) (hk : kindOf op = k) (ho : op = 1 ∨ op = 3) (hl : ls.length = 64) (hk3 : k < 3) : doR k op xs arg = ⟨0, [], 0, 0, 7⟩ := by
  obtain ⟨_, rfl, _⟩ := h.line hk3
  have hd : deedR op ls arg = (ls ++ [arg], 0, true) := by unfold deedR; rw [if_pos ho]
  unfold doR
  rw [if_pos ⟨h.chk, hk⟩, hd, if_neg (by simp; omega)]

theorem step_push {op : Int} (h : Model k ls xs m) (hk : kindOf op = k) (ho : op = 1 ∨ op = 3) (hl : ls.length ≠ 64) (hk3 : k < 3) : Stepped k op arg xs (ls ++ [arg]) m 0 1 := by
  obtain ⟨h1, rfl, h2⟩ := h.line hk3
  have hd : deedR op ls arg = (ls ++ [arg], 0, true) := by unfold deedR; rw [if_pos ho]
  exact ⟨_, doR_of h hk hd (by simp; omega), .inl ⟨h1, rfl, by simp; omega⟩, .inl rfl⟩

theorem step_none {op : Int} (h : Model k ls xs m) (hk : kindOf op = k) (ho : op = 2 ∨ op = 4) (hl : ls = []) (hk3 : k < 3) : Stepped k op arg xs ls m 0 0 := by
  obtain ⟨h1, rfl, h2⟩ := h.line hk3
  subst hl
  have hd : deedR op [] arg = ([], 0, false) := by rcases ho with rfl | rfl <;> rfl
  exact ⟨_, doR_of h hk hd (by decide), h, .inr ⟨rfl, rfl⟩⟩

theorem step_pop (h : Model k ls xs m) (hk : kindOf 2 = k) (hl : ls ≠ []) (hk3 : k < 3) : Stepped k 2 arg xs (cutAt ls (ls.length - 1)) m (nth ls (ls.length - 1)) 1 := by
  obtain ⟨h1, rfl, h2⟩ := h.line hk3
  have hd : deedR 2 ls arg = (cutAt ls (ls.length - 1), nth ls (ls.length - 1), true) := by simp [deedR, hl]
  have hlen := cutAt_length (xs := ls) (k := ls.length - 1) (by have := nil_of_length hl; omega)
  exact ⟨_, doR_of h hk hd (by omega), .inl ⟨h1, rfl, by omega⟩, .inl rfl⟩

theorem step_deq (h : Model k ls xs m) (hk : kindOf 4 = k) (hl : ls ≠ []) (hk3 : k < 3) : Stepped k 4 arg xs (cutAt ls 0) m (nth ls 0) 1 := by
  obtain ⟨h1, rfl, h2⟩ := h.line hk3
  have hd : deedR 4 ls arg = (cutAt ls 0, nth ls 0, true) := by simp [deedR, hl]
  have hlen := cutAt_length (xs := ls) (k := 0) (nil_of_length hl)
  exact ⟨_, doR_of h hk hd (by omega), .inl ⟨h1, rfl, by omega⟩, .inl rfl⟩

theorem contains_iff {xs : List Int} {z : Int} : xs.contains z = true ↔ z ∈ xs := by simp

theorem step_add_there (h : Model 3 ls xs m) (hc : xs.contains arg = true) : Stepped 3 5 arg xs ls m 0 0 := by
  obtain ⟨h1, h2, h3, h4⟩ := h.set rfl
  have hd : deedR 5 xs arg = (xs, 0, false) := by unfold deedR; simp only [hc]; rfl
  exact ⟨_, doR_of h (by decide) hd (by have := strict_few h1 h4; omega), h, .inr ⟨rfl, rfl⟩⟩

theorem step_add_new (h : Model 3 ls xs m) (hd' : (m.map (·.1)).Nodup) (hc : xs.contains arg = false) (hr : -8 < arg ∧ arg < 8) : Stepped 3 5 arg xs ls (mset m arg (.int .i64 1)) 0 1 := by
  obtain ⟨h1, h2, h3, h4⟩ := h.set rfl
  have hd : deedR 5 xs arg = (putAt xs (xs.countP (· < arg)) arg, 0, true) := by unfold deedR; simp only [hc]; rfl
  obtain ⟨p1, p2, p3⟩ := put_model (x := arg) h1 hc
  have h4' : ∀ z ∈ putAt xs (xs.countP (· < arg)) arg, -8 < z ∧ z < 8 := fun z hz => by
    rcases (p2 z).1 hz with rfl | hz
    · exact hr
    · exact h4 z hz
  refine ⟨_, doR_of h (by decide) hd (by have := strict_few p1 h4'; omega), .inr ⟨rfl, p1, fun z => ?_, ?_, h4'⟩, .inl rfl⟩
  · rw [mget_mset hd', h2 z]
    by_cases hz : z = arg
    · subst hz; rw [if_pos rfl, if_pos (contains_iff.2 ((p2 z).2 (.inl rfl)))]
    · rw [if_neg hz]
      by_cases hx : z ∈ xs
      · rw [if_pos (contains_iff.2 hx), if_pos (contains_iff.2 ((p2 z).2 (.inr hx)))]
      · rw [if_neg fun e => hx (contains_iff.1 e), if_neg fun e => by
          rcases (p2 z).1 (contains_iff.1 e) with e | e
          · exact hz e
          · exact hx e]
  · rw [mset_length, h2 arg, if_neg (by rw [hc]; exact Bool.false_ne_true), p3, h3]
    try rfl

theorem step_remove_none (h : Model 3 ls xs m) (hc : xs.contains arg = false) : Stepped 3 6 arg xs ls m 0 0 := by
  obtain ⟨h1, h2, h3, h4⟩ := h.set rfl
  have hd : deedR 6 xs arg = (xs, 0, false) := by unfold deedR; simp only [hc]; rfl
  exact ⟨_, doR_of h (by decide) hd (by have := strict_few h1 h4; omega), h, .inr ⟨rfl, rfl⟩⟩

theorem step_remove_there (h : Model 3 ls xs m) (hd' : (m.map (·.1)).Nodup) (hc : xs.contains arg = true) : Stepped 3 6 arg xs ls (mdel m arg) 0 1 := by
  obtain ⟨h1, h2, h3, h4⟩ := h.set rfl
  have hd : deedR 6 xs arg = (cutAt xs (xs.countP (· < arg)), 0, true) := by unfold deedR; simp only [hc]; rfl
  obtain ⟨p1, p2, p3⟩ := cut_model (x := arg) h1 hc
  have h4' : ∀ z ∈ cutAt xs (xs.countP (· < arg)), -8 < z ∧ z < 8 := fun z hz => h4 z ((p2 z).1 hz).2
  refine ⟨_, doR_of h (by decide) hd (by have := strict_few p1 h4'; omega), .inr ⟨rfl, p1, fun z => ?_, ?_, h4'⟩, .inl rfl⟩
  · rw [mget_mdel hd', h2 z]
    by_cases hz : z = arg
    · subst hz; rw [if_pos rfl, if_neg fun e => ((p2 z).1 (contains_iff.1 e)).1 rfl]
    · rw [if_neg hz]
      by_cases hx : z ∈ xs
      · rw [if_pos (contains_iff.2 hx), if_pos (contains_iff.2 ((p2 z).2 ⟨hz, hx⟩))]
      · rw [if_neg fun e => hx (contains_iff.1 e), if_neg fun e => hx ((p2 z).1 (contains_iff.1 e)).2]
  · rw [mdel_length, h2 arg, if_pos hc, p3, h3]
    try rfl

theorem step_has (h : Model 3 ls xs m) (b : Bool) (hc : xs.contains arg = b) : Stepped 3 7 arg xs ls m 0 (if b = true then 1 else 0) := by
  obtain ⟨h1, h2, h3, h4⟩ := h.set rfl
  have hd : deedR 7 xs arg = (xs, 0, b) := by unfold deedR; rw [hc]; rfl
  refine ⟨_, doR_of h (by decide) hd (by have := strict_few h1 h4; omega), h, ?_⟩
  cases b
  · exact .inr ⟨rfl, rfl⟩
  · exact .inl rfl
end

end Go.Proofs.YtoolpifkfgileaaDoor

/-
  The reference of chapter 19: cut, copied.
-/
namespace Go.Proofs.YtoolpifkfgileaaDoor
open Go Go.RowKit Own

set_option maxRecDepth 100000 in
set_option maxHeartbeats 8000000 in
theorem refCut_any (w : World) (p : Option Addr) (c : Nat) (xs : List Int) (k : Nat) (ho : OwnI 2 0 w p c xs) (hk : k < xs.length) (hl : xs.length ≤ 1099511627776) :
    Calls Tryd.prog 48 #[.slice p xs.length c, .int .i64 k] w fun e w' => ∃ p' c', e = .returned (.slice p' (cutAt xs k).length c') ∧ OwnI 2 w.heap.size w' p' c' (cutAt xs k) ∧ KeepBut (fun _ => False) w w' := by
  rcases ho.parts with ⟨_, _, h3⟩ | ⟨g, cur, h1, _, h3, h4, h5, _, _⟩
  · subst h3; exact absurd hk (Nat.not_lt_zero k)
  subst h1
  obtain ⟨l1, hl1⟩ : ∃ l1, l1 = xs.take k := ⟨_, rfl⟩
  obtain ⟨l2, hl2⟩ : ∃ l2, l2 = xs.drop (k + 1) := ⟨_, rfl⟩
  have hcut := Lib.hid (show cutAt xs k = l1 ++ l2 by rw [hl1, hl2]; exact cutAt_eq _ _)
  have hn1 : k = l1.length := by rw [hl1, List.length_take]; omega
  have hn2 : xs.length - (k + 1) = l2.length := by rw [hl2, List.length_drop]
  have hc1 : Hid (∀ w', KeepBut (fun _ => False) w.drew w' → ∀ j, j < l1.length → w'.cell? ((⟨g, 0, none⟩ : Addr).add j) = some (.int .i64 (nth l1 j))) := fun w' hk' j hj => by
    have h := ((KeepBut.drew _ w).trans hk').stay (ho.rd.int j (by omega))
    have e : nth l1 j = nth xs j := by rw [hl1]; simp [nth, show j < k by omega]
    rw [e, add_off]
    exact h
  obtain ⟨ad, hsl2, had⟩ := run_cut_from (P := Tryd.prog) (t := 45) Tryd.underlying45 (by kernel_rfl : (Tryd.prog.info? 2).map (·.size) = some 1) g xs.length c (k + 1) (by omega)
  have hc2 : Hid (∀ w', KeepBut (fun _ => False) w.drew w' → ∀ j, j < l2.length → w'.cell? (ad.add j) = some (.int .i64 (nth l2 j))) := fun w' hk' j hj => by
    have h := ((KeepBut.drew _ w).trans hk').stay (ho.rd.int (k + 1 + j) (by omega))
    have e : nth l2 j = nth xs (k + 1 + j) := by rw [hl2]; simp [nth, List.getElem?_drop]
    rw [e, had (by omega), add_off]
    rw [Nat.zero_add] at h
    exact h
  have hsl1 := run_cut_to (P := Tryd.prog) (t := 45) Tryd.underlying45 (by kernel_rfl : (Tryd.prog.info? 2).map (·.size) = some 1) g xs.length c k (by omega)
  have HS1 := Lib.hid hsl1; have HS2 := Lib.hid hsl2; have HN1 := Lib.hid hn1; have HN2 := Lib.hid hn2
  have hWa : IntKind.i64.wrap ((k : Int) + 1) = ((k + 1 : Nat) : Int) := by rw [IntWalk.i64_in _ (by omega)]; omega
  have hlI : Hid (l1.length + l2.length ≤ 1099511627776) := by show l1.length + l2.length ≤ 1099511627776; omega
  clear hl1 hl2 hsl1 hsl2 had hn1 hn2 h3 h4 h5 ho hk hl
  go_enter Tryd.func48, Tryd.ntmps48
  go_upto_region 1 with fail
  refine wp_own0 (by kernel_rfl) (fun i => [[], [], [], [1, 2], [0, 1, 2, 3], [], [], [6], [5, 6, 7], [0, 1, 2, 3, 4, 5, 6, 7, 8], [0, 1, 2, 3, 4, 5, 6, 7, 8, 9]].getD i []) (fun i => if i = 4 then [0] else if i = 9 then [4] else []) (fun i => if i = 4 then [0] else if i = 9 then [4] else []) [9] (by kernel_rfl)
    (fun i => if i = 0 then some { val := fun _ g => .slice (some ⟨g.b, 0, none⟩) 0 0, fp := fun _ g k => k = g.b, post := fun _ g w => w.heap[g.b]? = some (.cells #[] 2 (0, 0)) }
      else if i = 4 then some (sAppN 2 [] l1) else if i = 9 then some (sAppN 2 l1 l2) else none) ?_
  refine lex_loud rfl rfl (loud_new (fun b => .slice (some ⟨b, 0, none⟩) 0 0) (.cells #[] 2) rfl (fun _ _ => rfl) (fun _ _ _ => Iff.rfl) (fun _ _ _ => Iff.rfl) (fun w => by go_simp)) fun g0 _ => ?_
  simp only [Act.put, List.setIfInBounds_toArray, List.set_cons_zero, List.set_cons_succ]
  repeat
    apply lex_quiet rfl rfl
    · intro w' hk; go_simp; with_reducible rfl
    simp only [Act.put, List.setIfInBounds_toArray, List.set_cons_zero, List.set_cons_succ]
  refine lex_quiet rfl rfl (v := .slice (some ⟨g, 0, none⟩) k c) (fun w' hk => slice_exec rfl w' _ (HS1.out w')) ?_
  simp only [Act.put, List.setIfInBounds_toArray, List.set_cons_zero, List.set_cons_succ]
  refine lex_loud rfl rfl (loud_appendN 2 45 (some ⟨g0.b, 0, none⟩) 0 0 c k [] l1 ⟨g, 0, none⟩ (.tmp 5) (.tmp 8) rfl rfl rfl rfl HN1.out Tryd.underlying45 info_int64 (by have := hlI.out; simp; omega) hc1.out 0 (by decide) (by decide) (fun w h => OwnI.mk (xs := []) (Nat.zero_le _) h (by decide) (by decide) rfl) (fun b hb => (Of.some_iff.1 hb)) (fun b hb => Of.some_iff.2 hb)) fun g1 _ => ?_
  simp only [sAppN, Act.put, List.setIfInBounds_toArray, List.set_cons_zero, List.set_cons_succ]
  repeat
    apply lex_quiet rfl rfl
    · intro w' hk; go_simp; with_reducible rfl
    simp only [Act.put, List.setIfInBounds_toArray, List.set_cons_zero, List.set_cons_succ]
  refine lex_quiet rfl rfl (v := .slice (some ad) (xs.length - (k + 1)) (c - (k + 1))) (fun w' hk => slice_exec rfl w' _ (HS2.out w')) ?_
  simp only [Act.put, List.setIfInBounds_toArray, List.set_cons_zero, List.set_cons_succ]
  refine lex_loud rfl rfl (loud_appendN 2 45 g1.p g1.c ([].length + l1.length) (c - (k + 1)) (xs.length - (k + 1)) l1 l2 ad (.tmp 9) (.tmp 13) rfl rfl (by simp) rfl HN2.out Tryd.underlying45 info_int64 hlI.out hc2.out 4 (by decide) (by decide) (fun w h => h) (fun b hb => hb) (fun b hb => hb)) fun g2 _ => ?_
  simp only [Act.put, List.setIfInBounds_toArray, List.set_cons_zero, List.set_cons_succ]
  repeat
    apply lex_quiet rfl rfl
    · intro w' hk; go_simp; with_reducible rfl
    simp only [Act.put, List.setIfInBounds_toArray, List.set_cons_zero, List.set_cons_succ]
  refine lex_nil ?_
  intro w9 hk9 hF _
  have f9 : OwnI 2 0 w9 g2.p g2.c (l1 ++ l2) := (hF 9 (by decide)).1
  have b9 : ∀ b, Of g2.p b → b < w9.heap.size ∧ (w.heap.size ≤ b ∨ False) := (hF 9 (by decide)).2
  have HO := Lib.hid (f9.base fun a ha => (b9 a.block ⟨a, ha, rfl⟩).2.resolve_right fun e => e)
  have HK := Lib.hid ((KeepBut.drew (fun _ => False) w).trans hk9)
  clear hk9 hF f9 b9
  go_wp2_with fail
  go_ret
  exact ⟨g2.p, g2.c, by rw [hcut.out, List.length_append]; rfl, by rw [hcut.out]; exact HO.out, HK.out⟩

set_option maxRecDepth 100000 in
set_option maxHeartbeats 8000000 in
theorem copied_any (w : World) (k : Int) (p : Option Addr) (c : Nat) (xs : List Int) (hrd : Rd w p (ints xs)) (hl : xs.length ≤ 1099511627776) :
    Calls Tryd.prog 42 #[.agg #[.int .i64 k, .slice p xs.length c]] w fun e w' => DoneC w e w' k xs := by
  obtain ⟨W1, B, hW1, hB, hB1, hk1, hs1⟩ := fresh_block w (.cells #[.int .i64 k, .slice p xs.length c] 47)
  obtain ⟨W, N, hWd, hN, hWn, hkW, hWs⟩ := fresh_block W1 (.cells #[.int .i64 0, .slice none 0 0] 47)
  have hk0 : KeepBut (fun _ => False) w W := hk1.trans hkW
  have HKW := Lib.hid hk0
  have HB := Lib.hid (hkW.blk hB1); have HN := Lib.hid hWn
  have HR := Lib.hid (hrd.stay hk0)
  have hNB : B + 1 = N := by omega
  have HS := Lib.hid (show w.heap.size = B ∧ W.heap.size = N + 1 by omega)
  have x1 := blk_cell (k := 1) HB.out rfl
  clear hrd hB1 hWn hkW hk0 hWs hk1 hs1
  cases p with
  | none =>
    have : xs = [] := by
      apply Classical.byContradiction; intro h
      obtain ⟨b, o, h1, _⟩ := HR.out.ptr (by rw [ints_length]; exact nil_of_length h)
      cases h1
    subst this
    have hA := KeepBut.alloc (fun _ => False) W (.cells #[] 2)
    have x1 : (W.alloc (.cells #[] 2)).cell? ⟨B, 1, none⟩ = some (.slice none ([] : List Int).length c) := hA.stay x1
    have z0 := hA.stay (blk_cell (k := 0) HB.out rfl)
    have n0 := hA.stay (blk_cell (k := 0) HN.out rfl)
    have n1 := hA.stay (blk_cell (k := 1) HN.out rfl)
    have f1 : (W.alloc (.cells #[] 2)).frozen? ⟨B, 1, none⟩ = false := by simp [World.frozen?, hA.blk HB.out]
    have f2 : (W.alloc (.cells #[] 2)).frozen? ⟨N, 0, none⟩ = false := by simp [World.frozen?, hA.blk HN.out]
    have f3 : (W.alloc (.cells #[] 2)).frozen? ⟨N, 1, none⟩ = false := by simp [World.frozen?, hA.blk HN.out]
    simp only [List.length_nil] at hW1
    obtain ⟨xs, hxs⟩ : ∃ xs : List Int, xs = [] := ⟨_, rfl⟩
    have HQ := Lib.hid (show OwnI 2 0 (W.alloc (.cells #[] 2)) (some ⟨W.heap.size, 0, none⟩) 0 xs ∧ (∀ b, Of (some ⟨W.heap.size, 0, none⟩) b → W.heap.size ≤ b) ∧ KeepBut (fun b => b = W.heap.size) W (W.alloc (.cells #[] 2)) from
      ⟨by rw [hxs]; exact OwnI.mk (xs := []) (Nat.zero_le _) (heap_alloc_new W _) (by decide) (by decide) rfl, fun b hb => Nat.le_of_eq (Of.some_iff.1 hb).symm, hA.mono fun _ e => e.elim⟩)
    clear hA
    go_enter Tryd.func42, Tryd.ntmps42
    go_upto_region 1 with fail
    rw [← hW1, ← hB, ← hWd, hNB]
    clear hWd hN hW1 hB
    go_wp2_with fail
    subst hxs
    have hf : KeepBut (fun b => b = B ∨ b = N) (W.alloc (.cells #[] 2)) ((((W.alloc (.cells #[] 2)).setCell ⟨B, 1, none⟩ (.slice (some ⟨W.heap.size, 0, none⟩) 0 0)).setCell ⟨N, 0, none⟩ (.int .i64 k)).setCell ⟨N, 1, none⟩ (.slice (some ⟨W.heap.size, 0, none⟩) 0 0)) :=
      ((KeepBut.setCell _ _ _ (.inl rfl)).trans (KeepBut.setCell _ _ _ (.inr rfl))).trans (KeepBut.setCell _ _ _ (.inr rfl))
    refine bodyPost_ret (v := .agg #[.int .i64 k, .slice (some ⟨W.heap.size, 0, none⟩) 0 0]) (by simp [results, Tryd.results42, go_sem, n0, n1]) rfl ⟨(some ⟨W.heap.size, 0, none⟩), 0, rfl, ?_, ?_⟩
    · obtain ⟨h1, h3, h4⟩ := HQ.out
      have h1' : OwnI 2 0 (W.alloc (.cells #[] 2)) (some ⟨W.heap.size, 0, none⟩) 0 [] := h1
      refine ((h1'.keep hf fun a' ha e => ?_).base fun a' ha => ?_).lies
      · have := h3 _ ⟨a', ha, rfl⟩
        have := HS.out
        rcases e with e | e <;> omega
      · have := h3 _ ⟨a', ha, rfl⟩
        have := HS.out
        omega
    · refine HKW.out.new (E := fun b => b = B ∨ b = N ∨ b = W.heap.size) ((HQ.out.2.2.mono fun b e => .inr (.inr e)).trans (hf.mono fun b e => e.elim .inl fun e => .inr (.inl e))) fun b hb => ?_
      have := HS.out
      rcases hb with e | e | e <;> omega
  | some a =>
    have hA := KeepBut.alloc (fun _ => False) W (.cells #[] 2)
    have hz := Lib.hid (rd_adds (HR.out.stay hA))
    have ho := Lib.hid (show OwnI 2 0 (W.alloc (.cells #[] 2)) (some ⟨W.heap.size, 0, none⟩) 0 [] from OwnI.mk (xs := []) (Nat.zero_le _) (heap_alloc_new W _) (by decide) (by decide) rfl)
    have HA := Lib.hid hA
    have x1 : (W.alloc (.cells #[] 2)).cell? ⟨B, 1, none⟩ = some (.slice (some a) xs.length c) := hA.stay x1
    clear hA
    go_enter Tryd.func42, Tryd.ntmps42
    go_upto_region 1 with fail
    rw [← hW1, ← hB, ← hWd, hNB]
    clear hWd hN hW1 hB
    go_wp2_with (at_builtin; refine wpList_appendN rfl (.tmp 3) (.tmp 5) 45 rfl 2 (some ⟨W.heap.size, 0, none⟩) 0 0 [] xs rfl a _ c rfl rfl rfl Tryd.underlying45 info_int64 ho.out hz.out (by simp; omega) ?_
                 intro p' c' w' h1 h2 h3
                 have hkk : KeepBut (fun b => b = W.heap.size) W w' := (HA.out.mono fun _ e => e.elim).trans (h2.mono fun b hb => Of.some_iff.1 hb)
                 have z0 := hkk.cell (blk_cell (k := 0) HB.out rfl) (by have := HS.out; show ¬ B = _; omega)
                 have z1 := hkk.cell (blk_cell (k := 1) HB.out rfl) (by have := HS.out; show ¬ B = _; omega)
                 have n0 := hkk.cell (blk_cell (k := 0) HN.out rfl) (by have := HS.out; show ¬ N = _; omega)
                 have n1 := hkk.cell (blk_cell (k := 1) HN.out rfl) (by have := HS.out; show ¬ N = _; omega)
                 have f1 : w'.frozen? ⟨B, 1, none⟩ = false := by simp [World.frozen?, KeepBut.blkE hkk HB.out (by have := HS.out; omega)]
                 have f2 : w'.frozen? ⟨N, 0, none⟩ = false := by simp [World.frozen?, KeepBut.blkE hkk HN.out (by have := HS.out; omega)]
                 have f3 : w'.frozen? ⟨N, 1, none⟩ = false := by simp [World.frozen?, KeepBut.blkE hkk HN.out (by have := HS.out; omega)]
                 have HQ := Lib.hid (show OwnI 2 0 w' p' c' xs ∧ (∀ b, Of p' b → W.heap.size ≤ b) ∧ KeepBut (fun b => b = W.heap.size) W w' from ⟨by simpa using h1, fun b hb => by rcases h3 b hb with e | e; exact Nat.le_of_eq (Of.some_iff.1 e).symm; simp at e; omega, hkk⟩)
                 clear h1 h2 h3 hkk x1)
    have hf : KeepBut (fun b => b = B ∨ b = N) w' (((w'.setCell ⟨B, 1, none⟩ (.slice p' xs.length c')).setCell ⟨N, 0, none⟩ (.int .i64 k)).setCell ⟨N, 1, none⟩ (.slice p' xs.length c')) :=
      ((KeepBut.setCell _ _ _ (.inl rfl)).trans (KeepBut.setCell _ _ _ (.inr rfl))).trans (KeepBut.setCell _ _ _ (.inr rfl))
    refine bodyPost_ret (v := .agg #[.int .i64 k, .slice p' xs.length c']) (by simp [results, Tryd.results42, go_sem, n0, n1]) rfl ⟨p', c', rfl, ?_, ?_⟩
    · obtain ⟨h1, h3, h4⟩ := HQ.out
      have h1' : OwnI 2 0 w' p' c' xs := h1
      refine ((h1'.keep hf fun a' ha e => ?_).base fun a' ha => ?_).lies
      · have := h3 _ ⟨a', ha, rfl⟩
        have := HS.out
        rcases e with e | e <;> omega
      · have := h3 _ ⟨a', ha, rfl⟩
        have := HS.out
        omega
    · refine HKW.out.new (E := fun b => b = B ∨ b = N ∨ b = W.heap.size) ((HQ.out.2.2.mono fun b e => .inr (.inr e)).trans (hf.mono fun b e => e.elim .inl fun e => .inr (.inl e))) fun b hb => ?_
      have := HS.out
      rcases hb with e | e | e <;> omega

end Go.Proofs.YtoolpifkfgileaaDoor

/-
  The reference of chapter 19: Do, of what may not be.
-/
namespace Go.Proofs.YtoolpifkfgileaaDoor
open Go Go.RowKit Own

set_option maxHeartbeats 8000000 in
theorem refDo_bad1 (w : World) (k : Int) (p : Option Addr) (c : Nat) (xs : List Int) (hrd : Rd w p (ints xs)) (hl : xs.length ≤ 1099511627776) (op x : Int) (hchk : chk k xs = 2) :
    Calls Tryd.prog 29 #[.agg #[.int .i64 k, .slice p xs.length c], .int .i64 op, .int .i64 x] w fun e w' => Done4 w e w' 0 [] 0 0 2 := by
  obtain ⟨W1, B, hW1, hB, hB1, hk1, hs1⟩ := fresh_block w (.cells #[.int .i64 k, .slice p xs.length c] 47)
  obtain ⟨W, N, hWd, hN, hWn, hkW, hWs⟩ := fresh_block W1 (.cells #[.int .i64 0, .slice none 0 0] 47)
  have hk0 : KeepBut (fun _ => False) w W := hk1.trans hkW
  have hB2 := hkW.blk hB1
  have HB0 := Lib.hid hB2
  have cB0 : ∀ w', KeepBut (fun _ => False) W.drew w' → w'.cell? ⟨B, 0, none⟩ = some (.int .i64 k) := fun w' h => ((KeepBut.drew (fun _ => False) W).trans h).stay (blk_cell (k := 0) hB2 rfl)
  have cB1 : ∀ w', KeepBut (fun _ => False) W.drew w' → w'.cell? ⟨B, 1, none⟩ = some (.slice p xs.length c) := fun w' h => ((KeepBut.drew (fun _ => False) W).trans h).stay (blk_cell (k := 1) hB2 rfl)
  have HWN := Lib.hid hWn; have HKW := Lib.hid hk0
  have hNw : w.heap.size ≤ N := by omega
  have HN := Lib.hid hNw
  have HNl := Lib.hid (show W.heap.size = N + 1 ∧ B + 1 = N by omega)
  have hNB : B + 1 = N := by omega
  have HR := Lib.hid (hrd.stay hk0)
  have hCk : Hid (∀ w', KeepBut (fun _ => False) W.drew w' → Calls Tryd.prog 45 #[.agg #[.int .i64 k, .slice p xs.length c]] w' fun e w'' => e = .returned (.int .i64 2) ∧ KeepBut (fun _ => False) w' w'') := fun w' h => by
    have := refCheck_any w' k p c xs (HR.out.stay ((KeepBut.drew _ W).trans h)) hl
    rw [hchk] at this; exact this
  have hKd : Hid (∀ w', Calls Tryd.prog 46 #[.int .i64 op] w' fun e w'' => e = .returned (.int .i64 (kindOf op)) ∧ w'' = w') := fun w' => by
    have := refKind_any w' op
    exact this
  clear hrd hB1 hB2 hWn hkW hk0 hWs hk1 hs1 hNw
  go_enter Tryd.func29, Tryd.ntmps29
  go_upto_region 1 with fail
  rw [← hW1, ← hB, ← hWd, hNB]
  clear hWd hN hW1 hB hNB
  clear hKd
  refine wp_own0 (by kernel_rfl) (fun i => [[], [0], [0, 1], [0, 1, 2], [0, 1, 2, 3], [0, 1, 2, 3, 4], [0, 1, 2, 3, 4, 5], [0, 1, 2, 3, 4, 5, 6], [0, 1, 2, 3, 4, 5, 6, 7], [0, 1, 2, 3, 4, 5, 6, 7, 8], [0, 1, 2, 3, 4, 5, 6, 7, 8, 9], [0, 1, 2, 3, 4, 5, 6, 7, 8], [0, 1, 2, 3, 4, 5, 6, 7, 8, 11], [0, 1, 2, 3, 4, 5, 6, 7, 8, 9, 10, 11, 12], [0, 1, 2, 3, 4, 5, 6, 7, 8, 9, 10, 11, 12, 13]].getD i []) (fun _ => []) (fun _ => []) [] (by kernel_rfl)
    (fun i => if i = 1 then some (sConst (.int .i64 2)) else if i = 5 then some (sConst (.int .i64 0)) else if i = 10 then some (sConst (.int .i64 0)) else none) ?_
  apply lex_quiet rfl rfl
  · intro w' hk; go_simp; with_reducible rfl
  simp only [Act.put, List.setIfInBounds_toArray, List.set_cons_zero, List.set_cons_succ]
  refine lex_loud rfl rfl (loud_call 45 #[.agg #[.int .i64 k, .slice p xs.length c]] (fun w => by kernel_rfl) ⟨default, trivial⟩ (fun g _ => stable_true _) fun w' hk _ _ => (hCk.out w' hk).mono ?_) fun g _ => ?_
  · rintro e w'' ⟨rfl, hq⟩
    exact ⟨default, trivial, rfl, hq.mono fun _ e => e.elim, fun b h => h.elim, trivial⟩
  simp only [sConst, Act.put, List.setIfInBounds_toArray, List.set_cons_zero, List.set_cons_succ]
  apply lex_quiet rfl rfl
  · intro w' hk; go_simp; with_reducible rfl
  simp only [Act.put, List.setIfInBounds_toArray, List.set_cons_zero, List.set_cons_succ]
  apply lex_quiet rfl rfl
  · intro w' hk; go_simp; with_reducible rfl
  simp only [Act.put, List.setIfInBounds_toArray, List.set_cons_zero, List.set_cons_succ]
  refine lex_skip rfl ?_
  simp only [Act.put, List.setIfInBounds_toArray, List.set_cons_zero, List.set_cons_succ]
  refine lex_skip rfl ?_
  simp only [Act.put, List.setIfInBounds_toArray, List.set_cons_zero, List.set_cons_succ]
  refine lex_skip rfl ?_
  simp only [Act.put, List.setIfInBounds_toArray, List.set_cons_zero, List.set_cons_succ]
  apply lex_quiet rfl rfl
  · intro w' hk; go_simp; with_reducible rfl
  simp only [Act.put, List.setIfInBounds_toArray, List.set_cons_zero, List.set_cons_succ]
  apply lex_quiet rfl rfl
  · intro w' hk; go_simp; with_reducible rfl
  simp only [Act.put, List.setIfInBounds_toArray, List.set_cons_zero, List.set_cons_succ]
  refine lex_skip rfl ?_
  simp only [Act.put, List.setIfInBounds_toArray, List.set_cons_zero, List.set_cons_succ]
  refine lex_skip rfl ?_
  simp only [Act.put, List.setIfInBounds_toArray, List.set_cons_zero, List.set_cons_succ]
  refine lex_skip rfl ?_
  simp only [Act.put, List.setIfInBounds_toArray, List.set_cons_zero, List.set_cons_succ]
  refine lex_skip rfl ?_
  simp only [Act.put, List.setIfInBounds_toArray, List.set_cons_zero, List.set_cons_succ]
  refine lex_skip rfl ?_
  simp only [Act.put, List.setIfInBounds_toArray, List.set_cons_zero, List.set_cons_succ]
  apply lex_quiet rfl rfl
  · intro w' hk; go_simp; with_reducible rfl
  simp only [Act.put, List.setIfInBounds_toArray, List.set_cons_zero, List.set_cons_succ]
  refine lex_nil ?_
  intro w1 hk1 _ _
  have hN1 := Lib.hid (((KeepBut.drew _ W).trans hk1).blk HWN.out)
  have hkk := Lib.hid (HKW.out.trans ((KeepBut.drew _ W).trans hk1))
  clear hk1 cB0 cB1
  go_upto_region 2 with fail
  refine wp_own1_plain N _ hN1.out (fun i => if i = 1 then [5] else []) (fun i => if i = 1 then [5] else []) [1] (by kernel_rfl) (fun i => if i = 1 then some (sPut N 47) else none) ?_
  apply lex_quiet rfl rfl
  · intro w' hk; go_simp; with_reducible rfl
  simp only [Act.put, List.setIfInBounds_toArray, List.set_cons_zero, List.set_cons_succ]
  refine lex_loud rfl rfl (loud_put N 47 47 #[.int .i64 0, .slice none 0 0] _ (.tmp 6) (.tmp 31) rfl rfl rfl 5 (by decide) (by decide) (fun w h => h) ⟨rfl, rfl⟩ rfl (by kernel_rfl) (by simp [Value.oneCell'])) fun g2 _ => ?_
  simp only [sPut, Act.put]
  apply lex_quiet rfl rfl
  · intro w' hk; go_simp; with_reducible rfl
  simp only [Act.put, List.setIfInBounds_toArray, List.set_cons_zero, List.set_cons_succ]
  apply lex_quiet rfl rfl
  · intro w' hk; go_simp; with_reducible rfl
  simp only [Act.put, List.setIfInBounds_toArray, List.set_cons_zero, List.set_cons_succ]
  apply lex_quiet rfl rfl
  · intro w' hk; go_simp; with_reducible rfl
  simp only [Act.put, List.setIfInBounds_toArray, List.set_cons_zero, List.set_cons_succ]
  refine lex_nil ?_
  intro w2 hk2 hF _
  have f1 : w2.heap[N]? = some (.cells #[.int .i64 0, .slice none 0 0] 47 (0, 0)) := (hF 1 (by decide)).1 _ (put_args rfl rfl)
  have c0 := blk_cell (k := 0) f1 rfl
  have c1 := blk_cell (k := 1) f1 rfl
  have HF := Lib.hid (show Done4 w (.returned (.tuple #[.agg #[.int .i64 0, .slice none 0 0], .int .i64 0, .int .i64 0, .int .i64 2])) w2 0 [] 0 0 2 from
    ⟨none, 0, rfl, Lies.empty, hkk.out.new hk2 fun b hb => by have := HN.out; have h2 : b = N := hb; omega⟩)
  clear hF hk2 f1
  go_wp2_with fail
  exact bodyPost_ret (v := .tuple #[.agg #[.int .i64 0, .slice none 0 0], .int .i64 0, .int .i64 0, .int .i64 2]) (by simp [results, Tryd.results29, go_sem, c0, c1]) rfl HF.out

set_option maxHeartbeats 8000000 in
theorem refDo_bad2 (w : World) (k : Int) (p : Option Addr) (c : Nat) (xs : List Int) (hrd : Rd w p (ints xs)) (hl : xs.length ≤ 1099511627776) (op x : Int) (hchk : chk k xs = 0) (hkd : kindOf op = 0) :
    Calls Tryd.prog 29 #[.agg #[.int .i64 k, .slice p xs.length c], .int .i64 op, .int .i64 x] w fun e w' => Done4 w e w' 0 [] 0 0 2 := by
  obtain ⟨W1, B, hW1, hB, hB1, hk1, hs1⟩ := fresh_block w (.cells #[.int .i64 k, .slice p xs.length c] 47)
  obtain ⟨W, N, hWd, hN, hWn, hkW, hWs⟩ := fresh_block W1 (.cells #[.int .i64 0, .slice none 0 0] 47)
  have hk0 : KeepBut (fun _ => False) w W := hk1.trans hkW
  have hB2 := hkW.blk hB1
  have HB0 := Lib.hid hB2
  have cB0 : ∀ w', KeepBut (fun _ => False) W.drew w' → w'.cell? ⟨B, 0, none⟩ = some (.int .i64 k) := fun w' h => ((KeepBut.drew (fun _ => False) W).trans h).stay (blk_cell (k := 0) hB2 rfl)
  have cB1 : ∀ w', KeepBut (fun _ => False) W.drew w' → w'.cell? ⟨B, 1, none⟩ = some (.slice p xs.length c) := fun w' h => ((KeepBut.drew (fun _ => False) W).trans h).stay (blk_cell (k := 1) hB2 rfl)
  have HWN := Lib.hid hWn; have HKW := Lib.hid hk0
  have hNw : w.heap.size ≤ N := by omega
  have HN := Lib.hid hNw
  have HNl := Lib.hid (show W.heap.size = N + 1 ∧ B + 1 = N by omega)
  have hNB : B + 1 = N := by omega
  have HR := Lib.hid (hrd.stay hk0)
  have hCk : Hid (∀ w', KeepBut (fun _ => False) W.drew w' → Calls Tryd.prog 45 #[.agg #[.int .i64 k, .slice p xs.length c]] w' fun e w'' => e = .returned (.int .i64 0) ∧ KeepBut (fun _ => False) w' w'') := fun w' h => by
    have := refCheck_any w' k p c xs (HR.out.stay ((KeepBut.drew _ W).trans h)) hl
    rw [hchk] at this; exact this
  have hKd : Hid (∀ w', Calls Tryd.prog 46 #[.int .i64 op] w' fun e w'' => e = .returned (.int .i64 0) ∧ w'' = w') := fun w' => by
    have := refKind_any w' op
    rw [hkd] at this; exact this
  clear hrd hB1 hB2 hWn hkW hk0 hWs hk1 hs1 hNw
  go_enter Tryd.func29, Tryd.ntmps29
  go_upto_region 1 with fail
  rw [← hW1, ← hB, ← hWd, hNB]
  clear hWd hN hW1 hB hNB

  refine wp_own0 (by kernel_rfl) (fun i => [[], [0], [0, 1], [0, 1, 2], [0, 1, 2, 3], [0, 1, 2, 3, 4], [0, 1, 2, 3, 4, 5], [0, 1, 2, 3, 4, 5, 6], [0, 1, 2, 3, 4, 5, 6, 7], [0, 1, 2, 3, 4, 5, 6, 7, 8], [0, 1, 2, 3, 4, 5, 6, 7, 8, 9], [0, 1, 2, 3, 4, 5, 6, 7, 8], [0, 1, 2, 3, 4, 5, 6, 7, 8, 11], [0, 1, 2, 3, 4, 5, 6, 7, 8, 9, 10, 11, 12], [0, 1, 2, 3, 4, 5, 6, 7, 8, 9, 10, 11, 12, 13]].getD i []) (fun _ => []) (fun _ => []) [] (by kernel_rfl)
    (fun i => if i = 1 then some (sConst (.int .i64 0)) else if i = 5 then some (sConst (.int .i64 0)) else if i = 10 then some (sConst (.int .i64 0)) else none) ?_
  apply lex_quiet rfl rfl
  · intro w' hk; go_simp; with_reducible rfl
  simp only [Act.put, List.setIfInBounds_toArray, List.set_cons_zero, List.set_cons_succ]
  refine lex_loud rfl rfl (loud_call 45 #[.agg #[.int .i64 k, .slice p xs.length c]] (fun w => by kernel_rfl) ⟨default, trivial⟩ (fun g _ => stable_true _) fun w' hk _ _ => (hCk.out w' hk).mono ?_) fun g _ => ?_
  · rintro e w'' ⟨rfl, hq⟩
    exact ⟨default, trivial, rfl, hq.mono fun _ e => e.elim, fun b h => h.elim, trivial⟩
  simp only [sConst, Act.put, List.setIfInBounds_toArray, List.set_cons_zero, List.set_cons_succ]
  apply lex_quiet rfl rfl
  · intro w' hk; go_simp; with_reducible rfl
  simp only [Act.put, List.setIfInBounds_toArray, List.set_cons_zero, List.set_cons_succ]
  apply lex_quiet rfl rfl
  · intro w' hk; go_simp; with_reducible rfl
  simp only [Act.put, List.setIfInBounds_toArray, List.set_cons_zero, List.set_cons_succ]
  apply lex_quiet rfl rfl
  · intro w' hk; go_simp; with_reducible rfl
  simp only [Act.put, List.setIfInBounds_toArray, List.set_cons_zero, List.set_cons_succ]
  refine lex_loud rfl rfl (loud_call 46 #[.int .i64 op] (fun w => by kernel_rfl) ⟨default, trivial⟩ (fun g _ => stable_true _) fun w' hk _ _ => (hKd.out w').mono ?_) fun g _ => ?_
  · rintro e w'' ⟨rfl, hq⟩
    exact ⟨default, trivial, rfl, by rw [hq]; exact KeepBut.refl _ _, fun b h => h.elim, trivial⟩
  simp only [Act.put, List.setIfInBounds_toArray, List.set_cons_zero, List.set_cons_succ]
  apply lex_quiet rfl rfl
  · intro w' hk; go_simp; with_reducible rfl
  simp only [Act.put, List.setIfInBounds_toArray, List.set_cons_zero, List.set_cons_succ]
  apply lex_quiet rfl rfl
  · intro w' hk; go_simp; with_reducible rfl
  simp only [Act.put, List.setIfInBounds_toArray, List.set_cons_zero, List.set_cons_succ]
  apply lex_quiet rfl rfl
  · intro w' hk; go_simp; with_reducible rfl
  simp only [Act.put, List.setIfInBounds_toArray, List.set_cons_zero, List.set_cons_succ]
  refine lex_skip rfl ?_
  simp only [Act.put, List.setIfInBounds_toArray, List.set_cons_zero, List.set_cons_succ]
  refine lex_skip rfl ?_
  simp only [Act.put, List.setIfInBounds_toArray, List.set_cons_zero, List.set_cons_succ]
  refine lex_skip rfl ?_
  simp only [Act.put, List.setIfInBounds_toArray, List.set_cons_zero, List.set_cons_succ]
  refine lex_skip rfl ?_
  simp only [Act.put, List.setIfInBounds_toArray, List.set_cons_zero, List.set_cons_succ]
  refine lex_skip rfl ?_
  simp only [Act.put, List.setIfInBounds_toArray, List.set_cons_zero, List.set_cons_succ]
  apply lex_quiet rfl rfl
  · intro w' hk; go_simp; with_reducible rfl
  simp only [Act.put, List.setIfInBounds_toArray, List.set_cons_zero, List.set_cons_succ]
  refine lex_nil ?_
  intro w1 hk1 _ _
  have hN1 := Lib.hid (((KeepBut.drew _ W).trans hk1).blk HWN.out)
  have hkk := Lib.hid (HKW.out.trans ((KeepBut.drew _ W).trans hk1))
  clear hk1 cB0 cB1
  go_upto_region 2 with fail
  refine wp_own1_plain N _ hN1.out (fun i => if i = 1 then [5] else []) (fun i => if i = 1 then [5] else []) [1] (by kernel_rfl) (fun i => if i = 1 then some (sPut N 47) else none) ?_
  apply lex_quiet rfl rfl
  · intro w' hk; go_simp; with_reducible rfl
  simp only [Act.put, List.setIfInBounds_toArray, List.set_cons_zero, List.set_cons_succ]
  refine lex_loud rfl rfl (loud_put N 47 47 #[.int .i64 0, .slice none 0 0] _ (.tmp 6) (.tmp 31) rfl rfl rfl 5 (by decide) (by decide) (fun w h => h) ⟨rfl, rfl⟩ rfl (by kernel_rfl) (by simp [Value.oneCell'])) fun g2 _ => ?_
  simp only [sPut, Act.put]
  apply lex_quiet rfl rfl
  · intro w' hk; go_simp; with_reducible rfl
  simp only [Act.put, List.setIfInBounds_toArray, List.set_cons_zero, List.set_cons_succ]
  apply lex_quiet rfl rfl
  · intro w' hk; go_simp; with_reducible rfl
  simp only [Act.put, List.setIfInBounds_toArray, List.set_cons_zero, List.set_cons_succ]
  apply lex_quiet rfl rfl
  · intro w' hk; go_simp; with_reducible rfl
  simp only [Act.put, List.setIfInBounds_toArray, List.set_cons_zero, List.set_cons_succ]
  refine lex_nil ?_
  intro w2 hk2 hF _
  have f1 : w2.heap[N]? = some (.cells #[.int .i64 0, .slice none 0 0] 47 (0, 0)) := (hF 1 (by decide)).1 _ (put_args rfl rfl)
  have c0 := blk_cell (k := 0) f1 rfl
  have c1 := blk_cell (k := 1) f1 rfl
  have HF := Lib.hid (show Done4 w (.returned (.tuple #[.agg #[.int .i64 0, .slice none 0 0], .int .i64 0, .int .i64 0, .int .i64 2])) w2 0 [] 0 0 2 from
    ⟨none, 0, rfl, Lies.empty, hkk.out.new hk2 fun b hb => by have := HN.out; have h2 : b = N := hb; omega⟩)
  clear hF hk2 f1
  go_wp2_with fail
  exact bodyPost_ret (v := .tuple #[.agg #[.int .i64 0, .slice none 0 0], .int .i64 0, .int .i64 0, .int .i64 2]) (by simp [results, Tryd.results29, go_sem, c0, c1]) rfl HF.out

set_option maxHeartbeats 8000000 in
theorem refDo_bad3 (w : World) (k : Int) (p : Option Addr) (c : Nat) (xs : List Int) (hrd : Rd w p (ints xs)) (hl : xs.length ≤ 1099511627776) (op x : Int) (hchk : chk k xs = 0) (kd : Int) (hkd : kindOf op = kd) (hkd0 : kd ≠ 0) (hne : kd ≠ k) :
    Calls Tryd.prog 29 #[.agg #[.int .i64 k, .slice p xs.length c], .int .i64 op, .int .i64 x] w fun e w' => Done4 w e w' 0 [] 0 0 2 := by
  obtain ⟨W1, B, hW1, hB, hB1, hk1, hs1⟩ := fresh_block w (.cells #[.int .i64 k, .slice p xs.length c] 47)
  obtain ⟨W, N, hWd, hN, hWn, hkW, hWs⟩ := fresh_block W1 (.cells #[.int .i64 0, .slice none 0 0] 47)
  have hk0 : KeepBut (fun _ => False) w W := hk1.trans hkW
  have hB2 := hkW.blk hB1
  have HB0 := Lib.hid hB2
  have cB0 : ∀ w', KeepBut (fun _ => False) W.drew w' → w'.cell? ⟨B, 0, none⟩ = some (.int .i64 k) := fun w' h => ((KeepBut.drew (fun _ => False) W).trans h).stay (blk_cell (k := 0) hB2 rfl)
  have cB1 : ∀ w', KeepBut (fun _ => False) W.drew w' → w'.cell? ⟨B, 1, none⟩ = some (.slice p xs.length c) := fun w' h => ((KeepBut.drew (fun _ => False) W).trans h).stay (blk_cell (k := 1) hB2 rfl)
  have HWN := Lib.hid hWn; have HKW := Lib.hid hk0
  have hNw : w.heap.size ≤ N := by omega
  have HN := Lib.hid hNw
  have HNl := Lib.hid (show W.heap.size = N + 1 ∧ B + 1 = N by omega)
  have hNB : B + 1 = N := by omega
  have HR := Lib.hid (hrd.stay hk0)
  have hCk : Hid (∀ w', KeepBut (fun _ => False) W.drew w' → Calls Tryd.prog 45 #[.agg #[.int .i64 k, .slice p xs.length c]] w' fun e w'' => e = .returned (.int .i64 0) ∧ KeepBut (fun _ => False) w' w'') := fun w' h => by
    have := refCheck_any w' k p c xs (HR.out.stay ((KeepBut.drew _ W).trans h)) hl
    rw [hchk] at this; exact this
  have hKd : Hid (∀ w', Calls Tryd.prog 46 #[.int .i64 op] w' fun e w'' => e = .returned (.int .i64 kd) ∧ w'' = w') := fun w' => by
    have := refKind_any w' op
    rw [hkd] at this; exact this
  clear hrd hB1 hB2 hWn hkW hk0 hWs hk1 hs1 hNw
  go_enter Tryd.func29, Tryd.ntmps29
  go_upto_region 1 with fail
  rw [← hW1, ← hB, ← hWd, hNB]
  clear hWd hN hW1 hB hNB
  have b0 : (kd == 0) = false := by simpa using hkd0
  have bk : (kd != k) = true := by simpa using hne
  clear hkd hkd0 hne hchk
  refine wp_own0 (by kernel_rfl) (fun i => [[], [0], [0, 1], [0, 1, 2], [0, 1, 2, 3], [0, 1, 2, 3, 4], [0, 1, 2, 3, 4, 5], [0, 1, 2, 3, 4, 5, 6], [0, 1, 2, 3, 4, 5, 6, 7], [0, 1, 2, 3, 4, 5, 6, 7, 8], [0, 1, 2, 3, 4, 5, 6, 7, 8, 9], [0, 1, 2, 3, 4, 5, 6, 7, 8], [0, 1, 2, 3, 4, 5, 6, 7, 8, 11], [0, 1, 2, 3, 4, 5, 6, 7, 8, 9, 10, 11, 12], [0, 1, 2, 3, 4, 5, 6, 7, 8, 9, 10, 11, 12, 13]].getD i []) (fun _ => []) (fun _ => []) [] (by kernel_rfl)
    (fun i => if i = 1 then some (sConst (.int .i64 0)) else if i = 5 then some (sConst (.int .i64 kd)) else if i = 10 then some (sConst (.int .i64 kd)) else none) ?_
  apply lex_quiet rfl rfl
  · intro w' hk; go_simp; with_reducible rfl
  simp only [Act.put, List.setIfInBounds_toArray, List.set_cons_zero, List.set_cons_succ]
  refine lex_loud rfl rfl (loud_call 45 #[.agg #[.int .i64 k, .slice p xs.length c]] (fun w => by kernel_rfl) ⟨default, trivial⟩ (fun g _ => stable_true _) fun w' hk _ _ => (hCk.out w' hk).mono ?_) fun g _ => ?_
  · rintro e w'' ⟨rfl, hq⟩
    exact ⟨default, trivial, rfl, hq.mono fun _ e => e.elim, fun b h => h.elim, trivial⟩
  simp only [sConst, Act.put, List.setIfInBounds_toArray, List.set_cons_zero, List.set_cons_succ]
  apply lex_quiet rfl rfl
  · intro w' hk; go_simp; with_reducible rfl
  simp only [Act.put, List.setIfInBounds_toArray, List.set_cons_zero, List.set_cons_succ]
  apply lex_quiet rfl rfl
  · intro w' hk; go_simp; with_reducible rfl
  simp only [Act.put, List.setIfInBounds_toArray, List.set_cons_zero, List.set_cons_succ]
  apply lex_quiet rfl rfl
  · intro w' hk; go_simp; with_reducible rfl
  simp only [Act.put, List.setIfInBounds_toArray, List.set_cons_zero, List.set_cons_succ]
  refine lex_loud rfl rfl (loud_call 46 #[.int .i64 op] (fun w => by kernel_rfl) ⟨default, trivial⟩ (fun g _ => stable_true _) fun w' hk _ _ => (hKd.out w').mono ?_) fun g _ => ?_
  · rintro e w'' ⟨rfl, hq⟩
    exact ⟨default, trivial, rfl, by rw [hq]; exact KeepBut.refl _ _, fun b h => h.elim, trivial⟩
  simp only [Act.put, List.setIfInBounds_toArray, List.set_cons_zero, List.set_cons_succ]
  apply lex_quiet rfl rfl
  · intro w' hk; go_simp; with_reducible rfl
  simp only [Act.put, List.setIfInBounds_toArray, List.set_cons_zero, List.set_cons_succ]
  apply lex_quiet rfl rfl
  · intro w' hk; go_simp; with_reducible rfl
  simp only [Act.put, List.setIfInBounds_toArray, List.set_cons_zero, List.set_cons_succ]
  apply lex_quiet rfl rfl
  · intro w' hk; go_simp; with_reducible rfl
  simp only [Act.put, List.setIfInBounds_toArray, List.set_cons_zero, List.set_cons_succ]
  apply lex_quiet rfl rfl
  · intro w' hk; go_simp; with_reducible rfl
  simp only [Act.put, List.setIfInBounds_toArray, List.set_cons_zero, List.set_cons_succ]
  refine lex_loud rfl rfl (loud_call 46 #[.int .i64 op] (fun w => by kernel_rfl) ⟨default, trivial⟩ (fun g _ => stable_true _) fun w' hk _ _ => (hKd.out w').mono ?_) fun g _ => ?_
  · rintro e w'' ⟨rfl, hq⟩
    exact ⟨default, trivial, rfl, by rw [hq]; exact KeepBut.refl _ _, fun b h => h.elim, trivial⟩
  simp only [Act.put, List.setIfInBounds_toArray, List.set_cons_zero, List.set_cons_succ]
  apply lex_quiet rfl rfl
  · intro w' hk; go_simp; with_reducible rfl
  simp only [Act.put, List.setIfInBounds_toArray, List.set_cons_zero, List.set_cons_succ]
  apply lex_quiet rfl rfl
  · intro w' hk; go_simp; with_reducible rfl
  simp only [Act.put, List.setIfInBounds_toArray, List.set_cons_zero, List.set_cons_succ]
  apply lex_quiet rfl rfl
  · intro w' hk; go_simp; with_reducible rfl
  simp only [Act.put, List.setIfInBounds_toArray, List.set_cons_zero, List.set_cons_succ]
  apply lex_quiet rfl rfl
  · intro w' hk; go_simp; with_reducible rfl
  simp only [Act.put, List.setIfInBounds_toArray, List.set_cons_zero, List.set_cons_succ]
  refine lex_nil ?_
  intro w1 hk1 _ _
  have hN1 := Lib.hid (((KeepBut.drew _ W).trans hk1).blk HWN.out)
  have hkk := Lib.hid (HKW.out.trans ((KeepBut.drew _ W).trans hk1))
  clear hk1 cB0 cB1
  go_upto_region 2 with fail
  refine wp_own1_plain N _ hN1.out (fun i => if i = 1 then [5] else []) (fun i => if i = 1 then [5] else []) [1] (by kernel_rfl) (fun i => if i = 1 then some (sPut N 47) else none) ?_
  apply lex_quiet rfl rfl
  · intro w' hk; go_simp; with_reducible rfl
  simp only [Act.put, List.setIfInBounds_toArray, List.set_cons_zero, List.set_cons_succ]
  refine lex_loud rfl rfl (loud_put N 47 47 #[.int .i64 0, .slice none 0 0] _ (.tmp 6) (.tmp 31) rfl rfl rfl 5 (by decide) (by decide) (fun w h => h) ⟨rfl, rfl⟩ rfl (by kernel_rfl) (by simp [Value.oneCell'])) fun g2 _ => ?_
  simp only [sPut, Act.put]
  apply lex_quiet rfl rfl
  · intro w' hk; go_simp; with_reducible rfl
  simp only [Act.put, List.setIfInBounds_toArray, List.set_cons_zero, List.set_cons_succ]
  apply lex_quiet rfl rfl
  · intro w' hk; go_simp; with_reducible rfl
  simp only [Act.put, List.setIfInBounds_toArray, List.set_cons_zero, List.set_cons_succ]
  apply lex_quiet rfl rfl
  · intro w' hk; go_simp; with_reducible rfl
  simp only [Act.put, List.setIfInBounds_toArray, List.set_cons_zero, List.set_cons_succ]
  refine lex_nil ?_
  intro w2 hk2 hF _
  have f1 : w2.heap[N]? = some (.cells #[.int .i64 0, .slice none 0 0] 47 (0, 0)) := (hF 1 (by decide)).1 _ (put_args rfl rfl)
  have c0 := blk_cell (k := 0) f1 rfl
  have c1 := blk_cell (k := 1) f1 rfl
  have HF := Lib.hid (show Done4 w (.returned (.tuple #[.agg #[.int .i64 0, .slice none 0 0], .int .i64 0, .int .i64 0, .int .i64 2])) w2 0 [] 0 0 2 from
    ⟨none, 0, rfl, Lies.empty, hkk.out.new hk2 fun b hb => by have := HN.out; have h2 : b = N := hb; omega⟩)
  clear hF hk2 f1
  go_wp2_with fail
  exact bodyPost_ret (v := .tuple #[.agg #[.int .i64 0, .slice none 0 0], .int .i64 0, .int .i64 0, .int .i64 2]) (by simp [results, Tryd.results29, go_sem, c0, c1]) rfl HF.out

end Go.Proofs.YtoolpifkfgileaaDoor
