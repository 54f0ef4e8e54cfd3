/- Joined texts of this work: PbC, Sa1, Sa2, Sa3. -/
import Derived.Test.YtomlffobbkcmdaaGreatDoorJp8
import Derived.Test.YtomlffobbkcmdaaGreatDoorJp12
import Derived.Test.YtomlffobbkcmdaaGreatDoorJp13
import Derived.Test.YtomlffobbkcmdaaGreatDoorJp6

/-
  Package parse: takes, words, kinds, of.
-/
namespace Go.Proofs.YtomlffobbkcmdaaGreatDoor
open Go Go.RowKit Own

set_option maxHeartbeats 4000000 in
theorem takes_any (op : Int) (w : World) : Calls Tryz.prog 113 #[.int .i64 op] w fun e w' => e = .returned (.bool (op == 2 || op == 4)) ∧ w' = w := by
  by_cases h2 : op = 2
  · subst h2
    go_enter Tryz.func113, Tryz.ntmps113
    go_wp2_with fail
    go_ret
    exact ⟨rfl, rfl⟩
  · have h2b : (op == 2) = false := by simpa using h2
    rw [h2b, Bool.false_or]
    go_enter Tryz.func113, Tryz.ntmps113
    go_wp2_with fail
    go_ret
    exact ⟨rfl, rfl⟩

def opsV : Array Value := #[.string ⟨#[]⟩, .string ⟨#[112, 117, 115, 104]⟩, .string ⟨#[112, 111, 112]⟩, .string ⟨#[101, 110, 113]⟩, .string ⟨#[100, 101, 113]⟩, .string ⟨#[97, 100, 100]⟩, .string ⟨#[114, 101, 109, 111, 118, 101]⟩, .string ⟨#[104, 97, 115]⟩]
set_option maxHeartbeats 4000000 in
theorem words_any (w : World) : Calls Tryz.prog 126 #[] w fun e w' => e = .returned (.agg opsV) ∧ KeepBut (fun _ => False) w w' := by
  obtain ⟨V, B, hV, hB, hb, hk, hs⟩ := fresh_block w (.cells opsV 173)
  have HK := Lib.hid hk
  unfold opsV at hV hb ⊢
  clear hk hs
  go_enter Tryz.func126, Tryz.ntmps126
  go_wp2_with fail
  rw [← hV, ← hB]
  refine bodyPost_ret (v := .agg opsV) ?_ rfl ⟨rfl, HK.out⟩
  unfold opsV
  simp [results, Tryz.results126, go_sem, World.cell?, hb]
def kindsV : Array Value := #[.string ⟨#[]⟩, .string ⟨#[115, 116, 97, 99, 107]⟩, .string ⟨#[113, 117, 101, 117, 101]⟩, .string ⟨#[115, 101, 116]⟩]
set_option maxHeartbeats 4000000 in
theorem kinds_any (w : World) : Calls Tryz.prog 41 #[] w fun e w' => e = .returned (.agg kindsV) ∧ KeepBut (fun _ => False) w w' := by
  obtain ⟨V, B, hV, hB, hb, hk, hs⟩ := fresh_block w (.cells kindsV 91)
  have HK := Lib.hid hk
  unfold kindsV at hV hb ⊢
  clear hk hs
  go_enter Tryz.func41, Tryz.ntmps41
  go_wp2_with fail
  rw [← hV, ← hB]
  refine bodyPost_ret (v := .agg kindsV) ?_ rfl ⟨rfl, HK.out⟩
  unfold kindsV
  simp [results, Tryz.results41, go_sem, World.cell?, hb]

theorem ba_inj {a b : List UInt8} (h : (⟨a.toArray⟩ : ByteArray) = ⟨b.toArray⟩) : a = b := by
  have := congrArg (fun x : ByteArray => x.data.toList) h
  simpa using this
theorem idxFrom_list (s : List UInt8) : ∀ (L : List (List UInt8)) (i : Nat), Lib.idxFromS (L.map fun l => (⟨l.toArray⟩ : ByteArray)) ⟨s.toArray⟩ i = if L.contains s = true then ((i + L.idxOf s : Nat) : Int) else -1
  | [], i => by simp [Lib.idxFromS]
  | l :: L, i => by
    rw [List.map_cons]
    unfold Lib.idxFromS
    by_cases h : l = s
    · subst h
      simp
    · have h1 : ¬ (⟨l.toArray⟩ : ByteArray) = ⟨s.toArray⟩ := fun e => h (ba_inj e)
      have h2 : ¬ s = l := fun e => h e.symm
      rw [if_neg h1, idxFrom_list s L (i + 1)]
      simp only [List.contains_cons, List.idxOf_cons, Bool.or_eq_true, beq_iff_eq]
      by_cases hc : L.contains s = true
      · rw [if_pos hc, if_pos (.inr hc), show (l == s) = false by simpa using h]
        simp only [cond_false]
        omega
      · rw [if_neg hc, if_neg (fun e => e.elim h2 hc)]

/-- a text's number in a table -/
theorem of_any (L : List (List UInt8)) (hlen : L.length ≤ 1000) (g o c : Nat) (w : World) (hc : ∀ j (h : j < L.length), w.cell? ⟨g, o + j, none⟩ = some (.string ⟨L[j].toArray⟩)) (s : List UInt8) :
    Calls Tryz.prog 78 #[.slice (some ⟨g, o, none⟩) L.length c, .string ⟨s.toArray⟩] w fun e w' => e = .returned (.int .i64 (ofL L s)) ∧ w' = w := by
  have hI := Tryz.slices_Index_string g o L.length c (L.map fun l => (⟨l.toArray⟩ : ByteArray)) ⟨s.toArray⟩ w (by simp) (by omega) (fun j hj => by
    have hj' : j < L.length := by simpa using hj
    rw [hc j hj']
    simp [List.getD, hj'])
  rw [List.take_of_length_le (by simp), show Lib.idxOfS (L.map fun l => (⟨l.toArray⟩ : ByteArray)) ⟨s.toArray⟩ = _ from idxFrom_list s L 0, Nat.zero_add] at hI
  clear hc
  unfold ofL
  by_cases h0 : s = []
  · subst h0
    rw [if_pos rfl]
    obtain ⟨k, hk⟩ : ∃ k : Int, (if L.contains [] = true then ((L.idxOf ([] : List UInt8) : Nat) : Int) else -1) = k := ⟨_, rfl⟩
    rw [hk] at hI
    have HI := Lib.hid hI
    clear hI hk
    by_cases hp : 0 < k
    · go_enter Tryz.func78, Tryz.ntmps78
      go_wp2_with (go_at_call 102; refine HI.out.mono ?_; rintro e w' ⟨rfl, rfl⟩)
      go_ret
      exact ⟨rfl, rfl⟩
    · go_enter Tryz.func78, Tryz.ntmps78
      go_wp2_with (go_at_call 102; refine HI.out.mono ?_; rintro e w' ⟨rfl, rfl⟩)
      go_ret
      exact ⟨rfl, rfl⟩
  · rw [if_neg h0]
    by_cases hh : L.contains s = true
    · rw [if_pos hh] at hI ⊢
      obtain ⟨k, hk⟩ : ∃ k, L.idxOf s = k := ⟨_, rfl⟩
      rw [hk] at hI ⊢
      have HI := Lib.hid hI
      clear hI hk hh
      by_cases hp : 0 < k
      · have hpi : (0 : Int) < k := by omega
        have he : s.isEmpty = false := by
          cases s with
          | nil => exact absurd rfl h0
          | cons _ _ => rfl
        go_enter Tryz.func78, Tryz.ntmps78
        go_wp2_with (go_at_call 102; refine HI.out.mono ?_; rintro e w' ⟨rfl, rfl⟩)
        go_ret
        exact ⟨rfl, rfl⟩
      · have hpi : k = 0 := by omega
        subst hpi
        go_enter Tryz.func78, Tryz.ntmps78
        go_wp2_with (go_at_call 102; refine HI.out.mono ?_; rintro e w' ⟨rfl, rfl⟩)
        go_ret
        exact ⟨rfl, rfl⟩
    · rw [if_neg hh] at hI ⊢
      have HI := Lib.hid hI
      clear hI hh
      go_enter Tryz.func78, Tryz.ntmps78
      go_wp2_with (go_at_call 102; refine HI.out.mono ?_; rintro e w' ⟨rfl, rfl⟩)
      go_ret
      exact ⟨rfl, rfl⟩

end Go.Proofs.YtomlffobbkcmdaaGreatDoor

/-
  Statements in memory; steps of a reader.
-/
namespace Go.Proofs.YtomlffobbkcmdaaGreatDoor
open Go Go.RowKit Own

abbrev TSm : TypeId := 58
abbrev TStg : TypeId := 9

mutual
/-- the cells of a statement; what it holds lies in blocks of S -/
def StAt (w : World) (S : Nat → Prop) : List Value → St → Prop
  | vs, .mk k nm sz op val into cont xs thn els l c => ∃ p1 c1 p2 c2 p3 c3, vs = [.int .i64 k, strV nm, .int .i64 sz, .int .i64 op, strV val, strV into, strV cont, .slice p1 xs.length c1, .slice p2 thn.length c2, .slice p3 els.length c3, .int .i64 l, .int .i64 c] ∧ KidsAt w S p1 0 xs ∧ StsAt w S p2 0 thn ∧ StsAt w S p3 0 els
def StsAt (w : World) (S : Nat → Prop) (p : Option Addr) : Nat → List St → Prop
  | _, [] => True
  | i, x :: l => (∃ g o vs, p = some ⟨g, o, none⟩ ∧ S g ∧ (∀ j v, vs[j]? = some v → w.cell? ⟨g, o + i * 12 + j, none⟩ = some v) ∧ StAt w S vs x) ∧ StsAt w S p (i + 1) l
end

mutual
theorem StAt.keepS {w w' : World} {S S' : Nat → Prop} (hk : ∀ b o v, S b → w.cell? ⟨b, o, none⟩ = some v → w'.cell? ⟨b, o, none⟩ = some v ∧ S' b) : ∀ {vs : List Value} {e : St}, StAt w S vs e → StAt w' S' vs e
  | vs, .mk k nm sz op val into cont xs thn els l c, h => by
    unfold StAt at h ⊢
    obtain ⟨p1, c1, p2, c2, p3, c3, h1, h2, h3, h4⟩ := h
    exact ⟨p1, c1, p2, c2, p3, c3, h1, KidsAt.keepS hk h2, StsAt.keepS hk h3, StsAt.keepS hk h4⟩
theorem StsAt.keepS {w w' : World} {S S' : Nat → Prop} (hk : ∀ b o v, S b → w.cell? ⟨b, o, none⟩ = some v → w'.cell? ⟨b, o, none⟩ = some v ∧ S' b) : ∀ {p : Option Addr} {i : Nat} {l : List St}, StsAt w S p i l → StsAt w' S' p i l
  | p, i, [], _ => by unfold StsAt; trivial
  | p, i, x :: l, h => by
    unfold StsAt at h ⊢
    obtain ⟨⟨g, o, vs, h1, h2, h3, h4⟩, h5⟩ := h
    have hv : ∃ v, vs[0]? = some v := by
      cases x with
      | mk k nm sz op val into cont xs thn els l c =>
        unfold StAt at h4
        obtain ⟨p1, c1, p2, c2, p3, c3, h6, -⟩ := h4
        exact ⟨_, by rw [h6]; rfl⟩
    obtain ⟨v0, hv0⟩ := hv
    exact ⟨⟨g, o, vs, h1, (hk g _ _ h2 (h3 0 v0 hv0)).2, fun j v hj => (hk g _ _ h2 (h3 j v hj)).1, StAt.keepS hk h4⟩, StsAt.keepS hk h5⟩
end
theorem StAt.keep {E : Nat → Prop} {w w' : World} {S : Nat → Prop} (k : KeepBut E w w') (hE : ∀ b, S b → ¬ E b) {vs : List Value} {e : St} (h : StAt w S vs e) : StAt w' S vs e :=
  h.keepS fun b _ _ hb hc => ⟨k.cell hc (hE b hb), hb⟩
theorem StAt.inHeap {w : World} {S : Nat → Prop} {vs : List Value} {e : St} (h : StAt w S vs e) : StAt w (fun b => S b ∧ b < w.heap.size) vs e :=
  h.keepS fun _ _ _ hb hc => ⟨hc, hb, World.block_lt_of_cell? w _ hc⟩
theorem StAt.mono {w : World} {S S' : Nat → Prop} (hS : ∀ b, S b → S' b) {vs : List Value} {e : St} (h : StAt w S vs e) : StAt w S' vs e :=
  h.keepS fun _ _ _ hb hc => ⟨hc, hS _ hb⟩
theorem StsAt.keep {E : Nat → Prop} {w w' : World} {S : Nat → Prop} (k : KeepBut E w w') (hE : ∀ b, S b → ¬ E b) {p : Option Addr} {i : Nat} {l : List St} (h : StsAt w S p i l) : StsAt w' S p i l :=
  h.keepS fun b _ _ hb hc => ⟨k.cell hc (hE b hb), hb⟩
theorem StsAt.mono {w : World} {S S' : Nat → Prop} (hS : ∀ b, S b → S' b) {p : Option Addr} {i : Nat} {l : List St} (h : StsAt w S p i l) : StsAt w S' p i l :=
  h.keepS fun _ _ _ hb hc => ⟨hc, hS _ hb⟩
theorem st_form {w : World} {S : Nat → Prop} {vs : List Value} {x : St} (h : StAt w S vs x) : ∃ a n b c s1 s2 s3 p1 m1 c1 p2 m2 c2 p3 m3 c3 l cl, vs = [.int .i64 a, .string n, .int .i64 b, .int .i64 c, .string s1, .string s2, .string s3, .slice p1 m1 c1, .slice p2 m2 c2, .slice p3 m3 c3, .int .i64 l, .int .i64 cl] := by
  cases x with
  | mk k nm sz op val into cont xs thn els l c =>
    unfold StAt at h
    obtain ⟨p1, c1, p2, c2, p3, c3, h1, -⟩ := h
    exact ⟨_, _, _, _, _, _, _, _, _, _, _, _, _, _, _, _, _, _, h1⟩

section
variable {w : World} {B : Nat} {a b c d e f g h i j k l : Value} {T : TypeId}
theorem blk12 (hh : w.heap[B]? = some (.cells #[a, b, c, d, e, f, g, h, i, j, k, l] T (0, 0))) :
    w.cell? ⟨B, 0, none⟩ = some a ∧ w.cell? ⟨B, 1, none⟩ = some b ∧ w.cell? ⟨B, 2, none⟩ = some c ∧ w.cell? ⟨B, 3, none⟩ = some d ∧ w.cell? ⟨B, 4, none⟩ = some e ∧ w.cell? ⟨B, 5, none⟩ = some f ∧ w.cell? ⟨B, 6, none⟩ = some g ∧ w.cell? ⟨B, 7, none⟩ = some h ∧ w.cell? ⟨B, 8, none⟩ = some i ∧ w.cell? ⟨B, 9, none⟩ = some j ∧ w.cell? ⟨B, 10, none⟩ = some k ∧ w.cell? ⟨B, 11, none⟩ = some l := by
  simp [World.cell?, hh]
theorem frz12 (hh : w.heap[B]? = some (.cells #[a, b, c, d, e, f, g, h, i, j, k, l] T (0, 0))) (n : Nat) : w.frozen? ⟨B, n, none⟩ = false := by simp [World.frozen?, hh]
theorem s_put0 (hh : w.heap[B]? = some (.cells #[a, b, c, d, e, f, g, h, i, j, k, l] T (0, 0))) (v : Value) : ∃ w', w' = w.setCell ⟨B, 0, none⟩ v ∧ w'.heap[B]? = some (.cells #[v, b, c, d, e, f, g, h, i, j, k, l] T (0, 0)) ∧ KeepBut (fun k => k = B) w w' := by
  have h0 := put1 (i := 0) hh v
  simp only [List.setIfInBounds_toArray, List.set_cons_zero] at h0
  exact ⟨_, rfl, h0, KeepBut.setCell _ _ _ rfl⟩
theorem s_put1 (hh : w.heap[B]? = some (.cells #[a, b, c, d, e, f, g, h, i, j, k, l] T (0, 0))) (v : Value) : ∃ w', w' = w.setCell ⟨B, 1, none⟩ v ∧ w'.heap[B]? = some (.cells #[a, v, c, d, e, f, g, h, i, j, k, l] T (0, 0)) ∧ KeepBut (fun k => k = B) w w' := by
  have h0 := put1 (i := 1) hh v
  simp only [List.setIfInBounds_toArray, List.set_cons_zero, List.set_cons_succ] at h0
  exact ⟨_, rfl, h0, KeepBut.setCell _ _ _ rfl⟩
theorem s_put2 (hh : w.heap[B]? = some (.cells #[a, b, c, d, e, f, g, h, i, j, k, l] T (0, 0))) (v : Value) : ∃ w', w' = w.setCell ⟨B, 2, none⟩ v ∧ w'.heap[B]? = some (.cells #[a, b, v, d, e, f, g, h, i, j, k, l] T (0, 0)) ∧ KeepBut (fun k => k = B) w w' := by
  have h0 := put1 (i := 2) hh v
  simp only [List.setIfInBounds_toArray, List.set_cons_zero, List.set_cons_succ] at h0
  exact ⟨_, rfl, h0, KeepBut.setCell _ _ _ rfl⟩
theorem s_put3 (hh : w.heap[B]? = some (.cells #[a, b, c, d, e, f, g, h, i, j, k, l] T (0, 0))) (v : Value) : ∃ w', w' = w.setCell ⟨B, 3, none⟩ v ∧ w'.heap[B]? = some (.cells #[a, b, c, v, e, f, g, h, i, j, k, l] T (0, 0)) ∧ KeepBut (fun k => k = B) w w' := by
  have h0 := put1 (i := 3) hh v
  simp only [List.setIfInBounds_toArray, List.set_cons_zero, List.set_cons_succ] at h0
  exact ⟨_, rfl, h0, KeepBut.setCell _ _ _ rfl⟩
theorem s_put4 (hh : w.heap[B]? = some (.cells #[a, b, c, d, e, f, g, h, i, j, k, l] T (0, 0))) (v : Value) : ∃ w', w' = w.setCell ⟨B, 4, none⟩ v ∧ w'.heap[B]? = some (.cells #[a, b, c, d, v, f, g, h, i, j, k, l] T (0, 0)) ∧ KeepBut (fun k => k = B) w w' := by
  have h0 := put1 (i := 4) hh v
  simp only [List.setIfInBounds_toArray, List.set_cons_zero, List.set_cons_succ] at h0
  exact ⟨_, rfl, h0, KeepBut.setCell _ _ _ rfl⟩
theorem s_put5 (hh : w.heap[B]? = some (.cells #[a, b, c, d, e, f, g, h, i, j, k, l] T (0, 0))) (v : Value) : ∃ w', w' = w.setCell ⟨B, 5, none⟩ v ∧ w'.heap[B]? = some (.cells #[a, b, c, d, e, v, g, h, i, j, k, l] T (0, 0)) ∧ KeepBut (fun k => k = B) w w' := by
  have h0 := put1 (i := 5) hh v
  simp only [List.setIfInBounds_toArray, List.set_cons_zero, List.set_cons_succ] at h0
  exact ⟨_, rfl, h0, KeepBut.setCell _ _ _ rfl⟩
theorem s_put6 (hh : w.heap[B]? = some (.cells #[a, b, c, d, e, f, g, h, i, j, k, l] T (0, 0))) (v : Value) : ∃ w', w' = w.setCell ⟨B, 6, none⟩ v ∧ w'.heap[B]? = some (.cells #[a, b, c, d, e, f, v, h, i, j, k, l] T (0, 0)) ∧ KeepBut (fun k => k = B) w w' := by
  have h0 := put1 (i := 6) hh v
  simp only [List.setIfInBounds_toArray, List.set_cons_zero, List.set_cons_succ] at h0
  exact ⟨_, rfl, h0, KeepBut.setCell _ _ _ rfl⟩
theorem s_put7 (hh : w.heap[B]? = some (.cells #[a, b, c, d, e, f, g, h, i, j, k, l] T (0, 0))) (v : Value) : ∃ w', w' = w.setCell ⟨B, 7, none⟩ v ∧ w'.heap[B]? = some (.cells #[a, b, c, d, e, f, g, v, i, j, k, l] T (0, 0)) ∧ KeepBut (fun k => k = B) w w' := by
  have h0 := put1 (i := 7) hh v
  simp only [List.setIfInBounds_toArray, List.set_cons_zero, List.set_cons_succ] at h0
  exact ⟨_, rfl, h0, KeepBut.setCell _ _ _ rfl⟩
theorem s_put8 (hh : w.heap[B]? = some (.cells #[a, b, c, d, e, f, g, h, i, j, k, l] T (0, 0))) (v : Value) : ∃ w', w' = w.setCell ⟨B, 8, none⟩ v ∧ w'.heap[B]? = some (.cells #[a, b, c, d, e, f, g, h, v, j, k, l] T (0, 0)) ∧ KeepBut (fun k => k = B) w w' := by
  have h0 := put1 (i := 8) hh v
  simp only [List.setIfInBounds_toArray, List.set_cons_zero, List.set_cons_succ] at h0
  exact ⟨_, rfl, h0, KeepBut.setCell _ _ _ rfl⟩
theorem s_put9 (hh : w.heap[B]? = some (.cells #[a, b, c, d, e, f, g, h, i, j, k, l] T (0, 0))) (v : Value) : ∃ w', w' = w.setCell ⟨B, 9, none⟩ v ∧ w'.heap[B]? = some (.cells #[a, b, c, d, e, f, g, h, i, v, k, l] T (0, 0)) ∧ KeepBut (fun k => k = B) w w' := by
  have h0 := put1 (i := 9) hh v
  simp only [List.setIfInBounds_toArray, List.set_cons_zero, List.set_cons_succ] at h0
  exact ⟨_, rfl, h0, KeepBut.setCell _ _ _ rfl⟩
theorem s_put10 (hh : w.heap[B]? = some (.cells #[a, b, c, d, e, f, g, h, i, j, k, l] T (0, 0))) (v : Value) : ∃ w', w' = w.setCell ⟨B, 10, none⟩ v ∧ w'.heap[B]? = some (.cells #[a, b, c, d, e, f, g, h, i, j, v, l] T (0, 0)) ∧ KeepBut (fun k => k = B) w w' := by
  have h0 := put1 (i := 10) hh v
  simp only [List.setIfInBounds_toArray, List.set_cons_zero, List.set_cons_succ] at h0
  exact ⟨_, rfl, h0, KeepBut.setCell _ _ _ rfl⟩
theorem s_put11 (hh : w.heap[B]? = some (.cells #[a, b, c, d, e, f, g, h, i, j, k, l] T (0, 0))) (v : Value) : ∃ w', w' = w.setCell ⟨B, 11, none⟩ v ∧ w'.heap[B]? = some (.cells #[a, b, c, d, e, f, g, h, i, j, k, v] T (0, 0)) ∧ KeepBut (fun k => k = B) w w' := by
  have h0 := put1 (i := 11) hh v
  simp only [List.setIfInBounds_toArray, List.set_cons_zero, List.set_cons_succ] at h0
  exact ⟨_, rfl, h0, KeepBut.setCell _ _ _ rfl⟩
end

theorem must_new {w : World} {R : Nat} {its : List Item} {el ec : Nat} (h : ReaderAt w R its el ec) (L : List (List UInt8)) (hl : L.length ≤ 1000) (r : List Item) (hm : mustT L its = some r) :
    Calls Tryz.prog 76 #[rdV R, .slice (some ⟨w.heap.size, 0, none⟩) L.length L.length] (w.alloc (.cells (L.map strV).toArray TStg)) fun e w' => e = .returned (.tuple #[]) ∧ ReaderAt w' R r el ec ∧ KeepBut (fun b => b = R) w w' := by
  have hk := KeepBut.alloc (fun _ => False) w (.cells (L.map strV).toArray TStg)
  have hR := h.lt
  refine (must_any (w.alloc (.cells (L.map strV).toArray TStg)) R its el ec (h.keep hk fun _ _ e => e) (some ⟨w.heap.size, 0, none⟩) L.length L (fun i hi => ⟨w.heap.size, 0, rfl, ?_⟩) (fun a ha => by cases ha; show w.heap.size ≠ R; omega) hl r hm).mono ?_
  · rw [Nat.zero_add]
    exact blk_cell (heap_alloc_new w _) (by simp [strV, hi])
  · rintro e w' ⟨rfl, h1, h2⟩
    exact ⟨rfl, h1, (hk.mono fun _ e => e.elim).trans h2⟩
theorem must1 {w : World} {R : Nat} {its : List Item} {el ec : Nat} (h : ReaderAt w R its el ec) (s : List UInt8) (r : List Item) (hm : mustT [s] its = some r) :
    Calls Tryz.prog 76 #[rdV R, .slice (some ⟨w.heap.size, 0, none⟩) 1 1] (w.alloc (.cells #[.string ⟨s.toArray⟩] TStg)) fun e w' => e = .returned (.tuple #[]) ∧ ReaderAt w' R r el ec ∧ KeepBut (fun b => b = R) w w' := must_new h [s] (by simp) r hm
theorem must2 {w : World} {R : Nat} {its : List Item} {el ec : Nat} (h : ReaderAt w R its el ec) (s t : List UInt8) (r : List Item) (hm : mustT [s, t] its = some r) :
    Calls Tryz.prog 76 #[rdV R, .slice (some ⟨w.heap.size, 0, none⟩) 2 2] (w.alloc (.cells #[.string ⟨s.toArray⟩, .string ⟨t.toArray⟩] TStg)) fun e w' => e = .returned (.tuple #[]) ∧ ReaderAt w' R r el ec ∧ KeepBut (fun b => b = R) w w' := must_new h [s, t] (by simp) r hm

theorem name_str {w : World} {R : Nat} {t : Item} {r : List Item} {el ec : Nat} (h : ReaderAt w R (t :: r) el ec) (hk : t.tok.kind = 2) :
    Calls Tryz.prog 79 #[rdV R] w fun e w' => e = .returned (.string ⟨t.tok.text.toArray⟩) ∧ ReaderAt w' R r el ec ∧ KeepBut (fun b => b = R) w w' := name_any w R t r el ec h hk
theorem peek_cons {w : World} {R : Nat} {t : Item} {r : List Item} {el ec : Nat} (h : ReaderAt w R (t :: r) el ec) :
    Calls Tryz.prog 74 #[rdV R] w fun e w' => e = .returned (.agg #[.int .i64 t.tok.kind, .string ⟨t.tok.text.toArray⟩, .int .i64 t.tok.num, .int .i64 t.line, .int .i64 t.col]) ∧ KeepBut (fun _ => False) w w' := peek_any w R (t :: r) el ec h
theorem want_cons {w : World} {R : Nat} {t : Item} {r : List Item} {el ec : Nat} (h : ReaderAt w R (t :: r) el ec) (k : Int) (hk : (t.tok.kind : Int) = k) :
    Calls Tryz.prog 77 #[rdV R, .int .i64 k] w fun e w' => e = .returned (.agg #[.int .i64 t.tok.kind, .string ⟨t.tok.text.toArray⟩, .int .i64 t.tok.num, .int .i64 t.line, .int .i64 t.col]) ∧ ReaderAt w' R r el ec ∧ KeepBut (fun b => b = R) w w' := want_any w R t r el ec h k hk

end Go.Proofs.YtomlffobbkcmdaaGreatDoor

/-
  Package parse: a call, from its operation on.
-/
namespace Go.Proofs.YtomlffobbkcmdaaGreatDoor
open Go Go.RowKit Own

/-- a statement's cells, the slices apart -/
def stC (k sz op : Int) (nm val into cont : List UInt8) (ex : Value) (l cl : Int) : Array Value := #[.int .i64 k, .string ⟨nm.toArray⟩, .int .i64 sz, .int .i64 op, .string ⟨val.toArray⟩, .string ⟨into.toArray⟩, .string ⟨cont.toArray⟩, ex, .slice none 0 0, .slice none 0 0, .int .i64 l, .int .i64 cl]

theorem callP_some {f : Nat} {value : List UInt8} {ts : List Item} {op : Nat} {c : List UInt8} {xs : List Ex} {r : List Item} (h : callP f value ts = some ((op, c, xs), r)) :
    ∃ t r0 r1 tc r2, ts = t :: r0 ∧ ofL opL t.tok.text = op ∧ op ≠ 0 ∧ t.tok.kind = 1 ∧ ((op = 2 ∨ op = 4) ↔ value ≠ []) ∧ mustT [[40]] r0 = some r1 ∧ r1 = tc :: r2 ∧ tc.tok.kind = 2 ∧ tc.tok.text = c ∧
      (((op = 2 ∨ op = 4) ∧ mustT [[41], [59]] r2 = some r ∧ xs = []) ∨ (¬ (op = 2 ∨ op = 4) ∧ ∃ r3 x r4, mustT [[44]] r2 = some r3 ∧ exP f r3 = some (x, r4) ∧ mustT [[41], [59]] r4 = some r ∧ xs = [x])) := by
  unfold callP at h
  cases ts with
  | nil => cases h
  | cons t r0 =>
    dsimp only at h
    split at h
    · cases h
    · rename_i hc
      have hc1 : ofL opL t.tok.text ≠ 0 := fun e => hc (.inl e)
      have hc2 : t.tok.kind = 1 := Classical.byContradiction fun e => hc (.inr (.inl e))
      have hc3 : ((ofL opL t.tok.text = 2 ∨ ofL opL t.tok.text = 4) = (value ≠ [])) := Classical.byContradiction fun e => hc (.inr (.inr e))
      split at h
      · cases h
      · rename_i r1 hm
        cases r1 with
        | nil => cases h
        | cons tc r2 =>
          unfold wantT at h
          dsimp only at h
          by_cases hk : tc.tok.kind = 2
          · rw [if_pos hk] at h
            dsimp only at h
            by_cases ht : ofL opL t.tok.text = 2 ∨ ofL opL t.tok.text = 4
            · rw [if_pos ht] at h
              split at h
              · cases h
              · rename_i hm2
                cases h
                exact ⟨t, r0, _, tc, r2, rfl, rfl, hc1, hc2, by rw [← hc3], hm, rfl, hk, rfl, .inl ⟨ht, hm2, rfl⟩⟩
            · rw [if_neg ht] at h
              split at h
              · cases h
              · rename_i r3 hm2
                split at h
                · cases h
                · rename_i x r4 hx
                  split at h
                  · cases h
                  · rename_i hm3
                    cases h
                    exact ⟨t, r0, _, tc, r2, rfl, rfl, hc1, hc2, by rw [← hc3], hm, rfl, hk, rfl, .inr ⟨ht, r3, x, r4, hm2, hx, hm3, rfl⟩⟩
          · rw [if_neg hk] at h
            cases h

theorem opL_len : opL.length = 8 := rfl
theorem ofL_lt (s : List UInt8) : ofL opL s < 8 := by
  unfold ofL
  split
  · decide
  · split
    · rename_i h
      exact List.idxOf_lt_length_iff.2 (by simpa using h)
    · decide

set_option maxRecDepth 4000 in
set_option maxHeartbeats 32000000 in
theorem call_reads (w : World) (R el ec f Bs : Nat) (its r : List Item) (value into nm c : List UInt8) (op : Nat) (xs : List Ex) (k0 sz op0 l cl : Int) (cont0 : List UInt8) (hr : ReaderAt w R its el ec) (hB : w.heap[Bs]? = some (.cells (stC k0 sz op0 nm value into cont0 (.slice none 0 0) l cl) TSm (0, 0))) (hRB : R < Bs) (hx : callP f value its = some ((op, c, xs), r)) :
    Calls Tryz.prog 131 #[rdV R, .pointer (some ⟨Bs, 0, none⟩)] w fun e w' => e = .returned (.tuple #[]) ∧ ReaderAt w' R r el ec ∧ KeepBut (fun b => b = R ∨ b = Bs) w w' ∧ ∃ p cap, w'.heap[Bs]? = some (.cells (stC 9 sz op nm value into c (.slice p xs.length cap) l cl) TSm (0, 0)) ∧ KidsAt w' (fun b => w.heap.size ≤ b) p 0 xs := by
  obtain ⟨t, r0, r1, tc, r2, rfl, hop, hop0, hkd, htk, hm1, rfl, hkc, rfl, hrest⟩ := callP_some hx
  have hop8 : op < 8 := by rw [← hop]; exact ofL_lt _
  clear hx
  have HRB := Lib.hid hRB; have HR0 := Lib.hid hr
  unfold stC at hB ⊢
  have HB0 := Lib.hid hB
  have HN0 := Lib.hid (show Bs < w.heap.size from (Array.getElem?_eq_some_iff.1 hB).1)
  obtain ⟨T, hT⟩ : ∃ T, t.tok.text = T := ⟨_, rfl⟩
  obtain ⟨tn, htn⟩ : ∃ n : Int, (t.tok.num : Int) = n := ⟨_, rfl⟩
  obtain ⟨tl, htl⟩ : ∃ n : Int, (t.line : Int) = n := ⟨_, rfl⟩
  obtain ⟨tcl, htcl⟩ : ∃ n : Int, (t.col : Int) = n := ⟨_, rfl⟩
  obtain ⟨C, hC⟩ : ∃ C, tc.tok.text = C := ⟨_, rfl⟩
  rw [hC]
  rw [hT] at hop
  have HOP := Lib.hid hop; have HM1 := Lib.hid hm1; have HKC := Lib.hid hkc; have HCC := Lib.hid hC; have HREST := Lib.hid hrest; have HTK := Lib.hid htk
  have HWD := Lib.hid (words_any w)
  have HPK := Lib.hid (fun W (h : ReaderAt W R (t :: r0) el ec) => by have h := peek_cons h; rw [hkd, hT, htn, htl, htcl] at h; exact h)
  clear hr hB hRB hop hm1 hkc hC hrest htk hT htn htl htcl hkd
  unfold opsV at HWD
  go_enter Tryz.func131, Tryz.ntmps131
  go_wp2_with fail
  go_at_call 126
  refine HWD.out.mono ?_
  rintro e w1 ⟨rfl, hk1⟩
  obtain ⟨W1, B4, hW1, hB4, hb4, hk4, hs4⟩ := fresh_block w1 (.cells opsV 173)
  have hkw := hk1.trans hk4
  have HK1 := Lib.hid hkw; have HB4 := Lib.hid hb4; have HR1 := Lib.hid (HR0.out.keep hkw fun _ _ e => e); have HB1 := Lib.hid (hkw.blk HB0.out)
  have HN4 := Lib.hid (show Bs < B4 by have := HN0.out; have := hk1.size; omega)
  unfold opsV at hW1 HB4
  clear hk1 hk4 hkw hb4 hs4
  go_upto_region 1 with fail
  rw [← hW1, ← hB4]
  clear hW1 hB4
  have HPK1 := Lib.hid (HPK.out W1 HR1.out)
  go_wp2_with fail
  go_at_call 74
  refine HPK1.out.mono ?_
  rintro e w2 ⟨rfl, hk2⟩
  obtain ⟨W2, B5, hW2, hB5, hb5, hk5, hs5⟩ := fresh_block w2 (.cells #[.int .i64 1, .string ⟨T.toArray⟩, .int .i64 tn, .int .i64 tl, .int .i64 tcl] TTk)
  have hkw := hk2.trans hk5
  have HK2 := Lib.hid (HK1.out.trans hkw); have HB5 := Lib.hid hb5; have HB42 := Lib.hid (hkw.blk HB4.out); have HR2 := Lib.hid (HR1.out.keep hkw fun _ _ e => e); have HB2 := Lib.hid (hkw.blk HB1.out)
  have HN5 := Lib.hid (show Bs < B5 by have := (Array.getElem?_eq_some_iff.1 (hk2.blk HB1.out)).1; omega)
  clear hk2 hk5 hkw hb5 hs5
  go_upto_region 2 with fail
  rw [← hW2, ← hB5]
  clear hW2 hB5
  obtain ⟨y1, y2, y3, y4, y5, -⟩ := blk5 HB5.out
  have cc := fun w' (h : KeepBut (fun b => b = Bs) W2.drew w') => ((KeepBut.drew _ W2).trans h).cell y2 (by have := HN5.out; show ¬ B5 = Bs; omega)
  have HOF := Lib.hid (fun w' (h : KeepBut (fun b => b = Bs) W2.drew w') => of_any opL (by decide) B4 0 8 w' (fun j hj => by
    have hb := ((KeepBut.drew (fun b => b = Bs) W2).trans h).blkE HB42.out (by have := HN4.out; show ¬ B4 = Bs; omega)
    rw [Nat.zero_add]
    refine blk_cell hb ?_
    have hj8 : j < 8 := hj
    have key : j = 0 ∨ j = 1 ∨ j = 2 ∨ j = 3 ∨ j = 4 ∨ j = 5 ∨ j = 6 ∨ j = 7 := by omega
    rcases key with rfl | rfl | rfl | rfl | rfl | rfl | rfl | rfl <;> rfl) T)
  rw [HOP.out] at HOF
  refine wp_own1 (by kernel_rfl) Bs _ HB2.out (fun i => [[], [], [], [], [3], [2, 3, 4], [0, 2, 3, 4, 5], [0, 2, 3, 4, 5, 6], [0, 2, 3, 4, 5, 6, 7], [0, 1, 2, 3, 4, 5, 6, 7, 8], [0, 1, 2, 3, 4, 5, 6, 7, 8, 9], [0, 1, 2, 3, 4, 5, 6, 7, 8, 9, 10]].getD i []) (fun i => if i = 8 then [12] else if i = 11 then [8] else []) (fun i => if i = 8 then [12] else if i = 11 then [8] else []) [11] (by kernel_rfl)
    (fun i => if i = 5 then some (sConst (.int .i64 op)) else if i = 8 then some (sCell Bs 0 TSm (stC k0 sz op0 nm value into cont0 (.slice none 0 0) l cl) (.int .i64 9)) else if i = 11 then some (sCell Bs 3 TSm (stC 9 sz op0 nm value into cont0 (.slice none 0 0) l cl) (.int .i64 op)) else none) ?_
  apply lex_quiet rfl rfl
  · intro w' hk; go_simp; with_reducible rfl
  simp only [Act.put, List.setIfInBounds_toArray, List.set_cons_zero, List.set_cons_succ]
  apply lex_quiet rfl rfl
  · intro w' hk; go_simp; with_reducible rfl
  simp only [Act.put, List.setIfInBounds_toArray, List.set_cons_zero, List.set_cons_succ]
  apply lex_quiet rfl rfl
  · intro w' hk; go_simp; with_reducible rfl
  simp only [Act.put, List.setIfInBounds_toArray, List.set_cons_zero, List.set_cons_succ]
  apply lex_quiet rfl rfl
  · intro w' hk; go_simp; with_reducible rfl
  simp only [Act.put, List.setIfInBounds_toArray, List.set_cons_zero, List.set_cons_succ]
  apply lex_quiet rfl rfl
  · intro w' hk; have e2 := cc w' hk; go_simp; with_reducible rfl
  simp only [Act.put, List.setIfInBounds_toArray, List.set_cons_zero, List.set_cons_succ]
  refine lex_loud rfl rfl (loud_call 78 #[.slice (some ⟨B4, 0, none⟩) 8 8, .string ⟨T.toArray⟩] (fun w => by kernel_rfl) ⟨default, trivial⟩ (fun g _ => stable_true _) fun w' hk _ _ => (HOF.out w' hk).mono ?_) fun gs _ => ?_
  · rintro e w'' ⟨rfl, rfl⟩
    exact ⟨default, trivial, rfl, KeepBut.refl _ _, fun b h => h.elim, trivial⟩
  simp only [sConst, Act.put, List.setIfInBounds_toArray, List.set_cons_zero, List.set_cons_succ]
  apply lex_quiet rfl rfl
  · intro w' hk; go_simp; with_reducible rfl
  simp only [Act.put, List.setIfInBounds_toArray, List.set_cons_zero, List.set_cons_succ]
  apply lex_quiet rfl rfl
  · intro w' hk; go_simp; with_reducible rfl
  simp only [Act.put, List.setIfInBounds_toArray, List.set_cons_zero, List.set_cons_succ]
  refine lex_loud rfl rfl (loud_cell Bs 0 TSm _ _ (fun w u hc hf => by go_simp <;> rfl) 12 (by decide) (by decide) (fun w h => h) ⟨rfl, rfl⟩ (by show 0 < 12; decide)) fun g8 _ => ?_
  simp only [Act.put]
  apply lex_quiet rfl rfl
  · intro w' hk; go_simp; with_reducible rfl
  simp only [Act.put, List.setIfInBounds_toArray, List.set_cons_zero, List.set_cons_succ]
  apply lex_quiet rfl rfl
  · intro w' hk; go_simp; with_reducible rfl
  simp only [Act.put, List.setIfInBounds_toArray, List.set_cons_zero, List.set_cons_succ]
  refine lex_loud rfl rfl (loud_cell Bs 3 TSm _ _ (fun w u hc hf => by go_simp <;> rfl) 8 (by decide) (by decide) (fun w h => h) rfl (by show 3 < 12; decide)) fun g11 _ => ?_
  simp only [Act.put]
  refine lex_nil ?_
  intro W3 hk9 hF _
  have hb3 : W3.heap[Bs]? = some (.cells (stC 9 sz op nm value into cont0 (.slice none 0 0) l cl) TSm (0, 0)) := (hF 11 (by decide)).1
  unfold stC at hb3
  have hk := (KeepBut.drew (fun b => b = Bs) W2).trans hk9
  have HB3 := Lib.hid hb3; have HR3 := Lib.hid (HR2.out.keep hk fun b hb e => by have e : b = Bs := e; have := HRB.out; omega)
  have HK3 := Lib.hid (show KeepBut (fun b => b = R ∨ b = Bs) w W3 from (HK2.out.mono fun _ e => e.elim).trans (hk.mono fun _ e => .inr e))
  have HB53 := Lib.hid (hk.blkE HB5.out (by have := HN5.out; show ¬ B5 = Bs; omega))
  clear hF hk hk9 cc hb3 y1 y2 y3 y4 y5
  go_upto_region 3 with fail
  have hop0b : ((op : Int) == 0) = false := by rw [beq_eq_false_iff_ne]; omega
  obtain ⟨n0, n1, n2, n3, n4, n5, n6, n7, n8, n9, n10, n11⟩ := blk12 HB3.out
  obtain ⟨y1, -⟩ := blk5 HB53.out
  have d3 := fun w' (h : KeepBut (fun _ => False) W3.drew w') => ((KeepBut.drew _ W3).trans h).stay n3
  have d4 := fun w' (h : KeepBut (fun _ => False) W3.drew w') => ((KeepBut.drew _ W3).trans h).stay n4
  have dk := fun w' (h : KeepBut (fun _ => False) W3.drew w') => ((KeepBut.drew _ W3).trans h).stay y1
  clear n0 n1 n2 n3 n4 n5 n6 n7 n8 n9 n10 n11 y1
  by_cases htake : op = 2 ∨ op = 4
  · have hval := HTK.out.1 htake
    have hvb : (value == []) = false := beq_eq_false_iff_ne.2 hval
    have hvn : (value != []) = true := by rw [bne_iff_ne]; exact hval
    have hve : value.isEmpty = false := by simpa using hval
    have htb : (((op : Int) == 2) || ((op : Int) == 4)) = true := by rcases htake with rfl | rfl <;> rfl
    have HTB := Lib.hid (fun w' => takes_any (op : Int) w')
    rw [htb] at HTB
    clear hval
    refine wp_own0 (by kernel_rfl) (fun i => [[], [0], [0, 1], [0, 1, 2], [0, 1, 2, 3], [0, 1, 2, 3, 4], [0, 1, 2, 3, 4, 5], [0, 1, 2, 3, 4, 5, 6], [0, 1, 2, 3, 4, 5, 6, 7], [0, 1, 2, 3, 4, 5, 6, 7, 8], [0, 1, 2, 3, 4, 5, 6, 7, 8, 9], [0, 1, 2, 3, 4, 5, 6, 7, 8, 9, 10], [0, 1, 2, 3, 4, 5, 6, 7, 8, 9, 10, 11], [0, 1, 2, 3, 4, 5, 6, 7, 8, 9, 10, 11, 12], [0, 1, 2, 3, 4, 5, 6, 7, 8, 9, 10, 11, 12, 13], [0, 1, 2, 3, 4, 5, 6, 7, 8, 9, 10, 11, 12, 13, 14], [0, 1, 2, 3, 4, 5, 6, 7, 8, 9, 10], [0, 1, 2, 3, 4, 5, 6, 7, 8, 9, 10, 16], [0, 1, 2, 3, 4, 5, 6, 7, 8, 9, 10, 16, 17], [0, 1, 2, 3, 4, 5, 6, 7, 8, 9, 10, 16, 17, 18], [0, 1, 2, 3, 4, 5, 6, 7, 8, 9, 10, 16, 17, 18, 19], [0, 1, 2, 3, 4, 5, 6, 7, 8, 9, 10, 11, 12, 13, 14, 15, 16, 17, 18, 19, 20], [0, 1, 2, 3, 4, 5, 6, 7, 8, 9, 10, 11, 12, 13, 14, 15, 16, 17, 18, 19, 20, 21]].getD i []) (fun _ => []) (fun _ => []) [] (by kernel_rfl) (fun i => if i = 15 then some (sConst (.bool true)) else none) ?_
    apply lex_quiet rfl rfl
    · intro w' hk; go_simp; with_reducible rfl
    simp only [Act.put, List.setIfInBounds_toArray, List.set_cons_zero, List.set_cons_succ]
    apply lex_quiet rfl rfl
    · intro w' hk; go_simp; with_reducible rfl
    simp only [Act.put, List.setIfInBounds_toArray, List.set_cons_zero, List.set_cons_succ]
    apply lex_quiet rfl rfl
    · intro w' hk; go_simp; with_reducible rfl
    simp only [Act.put, List.setIfInBounds_toArray, List.set_cons_zero, List.set_cons_succ]
    apply lex_quiet rfl rfl
    · intro w' hk; have e3 := d3 w' hk; go_simp; with_reducible rfl
    simp only [Act.put, List.setIfInBounds_toArray, List.set_cons_zero, List.set_cons_succ]
    apply lex_quiet rfl rfl
    · intro w' hk; go_simp; with_reducible rfl
    simp only [Act.put, List.setIfInBounds_toArray, List.set_cons_zero, List.set_cons_succ]
    apply lex_quiet rfl rfl
    · intro w' hk; go_simp; with_reducible rfl
    simp only [Act.put, List.setIfInBounds_toArray, List.set_cons_zero, List.set_cons_succ]
    apply lex_quiet rfl rfl
    · intro w' hk; go_simp; with_reducible rfl
    simp only [Act.put, List.setIfInBounds_toArray, List.set_cons_zero, List.set_cons_succ]
    apply lex_quiet rfl rfl
    · intro w' hk; have e5 := dk w' hk; go_simp; with_reducible rfl
    simp only [Act.put, List.setIfInBounds_toArray, List.set_cons_zero, List.set_cons_succ]
    apply lex_quiet rfl rfl
    · intro w' hk; go_simp; with_reducible rfl
    simp only [Act.put, List.setIfInBounds_toArray, List.set_cons_zero, List.set_cons_succ]
    apply lex_quiet rfl rfl
    · intro w' hk; go_simp; with_reducible rfl
    simp only [Act.put, List.setIfInBounds_toArray, List.set_cons_zero, List.set_cons_succ]
    apply lex_quiet rfl rfl
    · intro w' hk; go_simp; with_reducible rfl
    simp only [Act.put, List.setIfInBounds_toArray, List.set_cons_zero, List.set_cons_succ]
    apply lex_quiet rfl rfl
    · intro w' hk; go_simp; with_reducible rfl
    simp only [Act.put, List.setIfInBounds_toArray, List.set_cons_zero, List.set_cons_succ]
    apply lex_quiet rfl rfl
    · intro w' hk; go_simp; with_reducible rfl
    simp only [Act.put, List.setIfInBounds_toArray, List.set_cons_zero, List.set_cons_succ]
    apply lex_quiet rfl rfl
    · intro w' hk; go_simp; with_reducible rfl
    simp only [Act.put, List.setIfInBounds_toArray, List.set_cons_zero, List.set_cons_succ]
    apply lex_quiet rfl rfl
    · intro w' hk; have e3 := d3 w' hk; go_simp; with_reducible rfl
    simp only [Act.put, List.setIfInBounds_toArray, List.set_cons_zero, List.set_cons_succ]
    refine lex_loud rfl rfl (loud_call 113 #[.int .i64 op] (fun w => by kernel_rfl) ⟨default, trivial⟩ (fun g _ => stable_true _) fun w' hk _ _ => (HTB.out w').mono ?_) fun gs _ => ?_
    · rintro e w'' ⟨rfl, rfl⟩
      exact ⟨default, trivial, rfl, KeepBut.refl _ _, fun b h => h.elim, trivial⟩
    simp only [sConst, Act.put, List.setIfInBounds_toArray, List.set_cons_zero, List.set_cons_succ]
    apply lex_quiet rfl rfl
    · intro w' hk; go_simp; with_reducible rfl
    simp only [Act.put, List.setIfInBounds_toArray, List.set_cons_zero, List.set_cons_succ]
    apply lex_quiet rfl rfl
    · intro w' hk; go_simp; with_reducible rfl
    simp only [Act.put, List.setIfInBounds_toArray, List.set_cons_zero, List.set_cons_succ]
    apply lex_quiet rfl rfl
    · intro w' hk; go_simp; with_reducible rfl
    simp only [Act.put, List.setIfInBounds_toArray, List.set_cons_zero, List.set_cons_succ]
    apply lex_quiet rfl rfl
    · intro w' hk; have e4 := d4 w' hk; go_simp; with_reducible rfl
    simp only [Act.put, List.setIfInBounds_toArray, List.set_cons_zero, List.set_cons_succ]
    apply lex_quiet rfl rfl
    · intro w' hk; go_simp; with_reducible rfl
    simp only [Act.put, List.setIfInBounds_toArray, List.set_cons_zero, List.set_cons_succ]
    apply lex_quiet rfl rfl
    · intro w' hk; go_simp; with_reducible rfl
    simp only [Act.put, List.setIfInBounds_toArray, List.set_cons_zero, List.set_cons_succ]
    apply lex_quiet rfl rfl
    · intro w' hk; go_simp; with_reducible rfl
    simp only [Act.put, List.setIfInBounds_toArray, List.set_cons_zero, List.set_cons_succ]
    refine lex_nil ?_
    intro W4 hk9 _ _
    have hk := (KeepBut.drew (fun _ => False) W3).trans hk9
    have HB4 := Lib.hid (hk.blk HB3.out); have HR4 := Lib.hid (HR3.out.keep hk fun _ _ e => e); have HK4 := Lib.hid (HK3.out.trans (hk.mono fun _ e => e.elim))
    clear hk hk9 d3 d4 dk
    go_upto_region 5 with fail
    have hne : r0.length ≠ 0 := fun e => by
      have h := HM1.out
      rw [List.eq_nil_of_length_eq_zero e] at h
      cases h
    obtain ⟨g, o, cR, h1, h2, ⟨h3, hg⟩, -, htk⟩ := HR4.out.took
    have HTK2 := Lib.hid htk; have HG := Lib.hid hg; have H23 := Lib.hid (And.intro h2 h3)
    obtain ⟨b0, -, -, -, -, -, f0⟩ := blk6 h1
    have hc : ¬ cR = 1 := by omega
    clear h1 htk hg h3
    go_upto_region 6 with fail
    obtain ⟨W5, hW, hk⟩ : ∃ W5, W5 = W4.setCell ⟨R, 0, none⟩ (.slice (some ⟨g, o + 5, none⟩) r0.length (cR - 1)) ∧ KeepBut (fun b => b = R) W4 W5 := ⟨_, rfl, KeepBut.setCell _ _ _ rfl⟩
    rw [← hW]
    have hr : ReaderAt W5 R r0 el ec := by rw [hW]; exact HTK2.out (some ⟨g, o + 5, none⟩) (cR - 1) (.inr rfl) (fun a ha => by cases ha; exact HG.out) (by have := H23.out; omega) (by have := H23.out; omega)
    have HB5 := Lib.hid (hk.blkE HB4.out fun e => by have e : Bs = R := e; have := HRB.out; omega); have HR5 := Lib.hid hr; have HK5 := Lib.hid (HK4.out.trans (hk.mono fun _ e => .inl e))
    clear hr hk
    clear hW b0 f0 hc hne h2
    have HQ := Lib.hid (must1 HR5.out [40] _ HM1.out)
    go_wp2_with fail
    go_at_call 76
    refine HQ.out.mono ?_
    rintro e W6 ⟨rfl, hr, hk⟩
    have HB6 := Lib.hid (hk.blkE HB5.out fun e => by have e : Bs = R := e; have := HRB.out; omega); have HR6 := Lib.hid hr; have HK6 := Lib.hid (HK5.out.trans (hk.mono fun _ e => .inl e))
    clear hr hk
    have HNM := Lib.hid (by have h := name_str HR6.out HKC.out; rw [HCC.out] at h; exact h)
    obtain ⟨n0, n1, n2, n3, n4, n5, n6, n7, n8, n9, n10, n11⟩ := blk12 HB6.out
    have f6 := frz12 HB6.out 6
    clear n0 n1 n2 n3 n4 n5 n6 n7 n8 n9 n10 n11 f6
    go_wp2_with fail
    go_at_call 79
    refine HNM.out.mono ?_
    rintro e W7 ⟨rfl, hr, hk⟩
    have HB7 := Lib.hid (hk.blkE HB6.out fun e => by have e : Bs = R := e; have := HRB.out; omega); have HR7 := Lib.hid hr; have HK7 := Lib.hid (HK6.out.trans (hk.mono fun _ e => .inl e))
    clear hr hk
    obtain ⟨n0, n1, n2, n3, n4, n5, n6, n7, n8, n9, n10, n11⟩ := blk12 HB7.out
    have f6 := frz12 HB7.out 6
    go_upto_region 8 with fail
    clear n0 n1 n2 n3 n4 n5 n6 n7 n8 n9 n10 n11 f6
    obtain ⟨W8, hW, hb, hk⟩ := s_put6 HB7.out (.string ⟨C.toArray⟩)
    rw [← hW]
    have HB8 := Lib.hid hb; have HR8 := Lib.hid (HR7.out.keep hk fun b hb e => by have e : b = Bs := e; have := HRB.out; omega); have HK8 := Lib.hid (HK7.out.trans (hk.mono fun _ e => .inr e))
    clear hW hb hk
    obtain ⟨n0, n1, n2, n3, n4, n5, n6, n7, n8, n9, n10, n11⟩ := blk12 HB8.out
    go_wp2_with fail
    go_at_call 113
    refine (HTB.out W8).mono ?_
    rintro e W9 ⟨rfl, rfl⟩
    clear n0 n1 n2 n3 n4 n5 n6 n7 n8 n9 n10 n11
    obtain ⟨-, hm2, rfl⟩ := HREST.out.resolve_right (fun h => h.1 htake)
    have HM2 := Lib.hid hm2
    clear hm2
    have HQ := Lib.hid (must2 HR8.out [41] [59] _ HM2.out)
    go_wp2_with fail
    go_at_call 76
    refine HQ.out.mono ?_
    rintro e W10 ⟨rfl, hr, hk⟩
    have HB10 := Lib.hid (hk.blkE HB8.out fun e => by have e : Bs = R := e; have := HRB.out; omega); have HR10 := Lib.hid hr; have HK10 := Lib.hid (HK8.out.trans (hk.mono fun _ e => .inl e))
    clear hr hk
    go_wp2_with fail
    go_end0
    exact ⟨rfl, HR10.out, HK10.out, none, 0, HB10.out, by unfold KidsAt; trivial⟩
  · have hval : value = [] := Classical.byContradiction fun e => htake (HTK.out.2 e)
    subst hval
    have htb : (((op : Int) == 2) || ((op : Int) == 4)) = false := by
      rw [Bool.or_eq_false_iff, beq_eq_false_iff_ne, beq_eq_false_iff_ne]
      omega
    have HTB := Lib.hid (fun w' => takes_any (op : Int) w')
    rw [htb] at HTB
    refine wp_own0 (by kernel_rfl) (fun i => [[], [0], [0, 1], [0, 1, 2], [0, 1, 2, 3], [0, 1, 2, 3, 4], [0, 1, 2, 3, 4, 5], [0, 1, 2, 3, 4, 5, 6], [0, 1, 2, 3, 4, 5, 6, 7], [0, 1, 2, 3, 4, 5, 6, 7, 8], [0, 1, 2, 3, 4, 5, 6, 7, 8, 9], [0, 1, 2, 3, 4, 5, 6, 7, 8, 9, 10], [0, 1, 2, 3, 4, 5, 6, 7, 8, 9, 10, 11], [0, 1, 2, 3, 4, 5, 6, 7, 8, 9, 10, 11, 12], [0, 1, 2, 3, 4, 5, 6, 7, 8, 9, 10, 11, 12, 13], [0, 1, 2, 3, 4, 5, 6, 7, 8, 9, 10, 11, 12, 13, 14], [0, 1, 2, 3, 4, 5, 6, 7, 8, 9, 10], [0, 1, 2, 3, 4, 5, 6, 7, 8, 9, 10, 16], [0, 1, 2, 3, 4, 5, 6, 7, 8, 9, 10, 16, 17], [0, 1, 2, 3, 4, 5, 6, 7, 8, 9, 10, 16, 17, 18], [0, 1, 2, 3, 4, 5, 6, 7, 8, 9, 10, 16, 17, 18, 19], [0, 1, 2, 3, 4, 5, 6, 7, 8, 9, 10, 11, 12, 13, 14, 15, 16, 17, 18, 19, 20], [0, 1, 2, 3, 4, 5, 6, 7, 8, 9, 10, 11, 12, 13, 14, 15, 16, 17, 18, 19, 20, 21]].getD i []) (fun _ => []) (fun _ => []) [] (by kernel_rfl) (fun i => if i = 15 then some (sConst (.bool false)) else none) ?_
    apply lex_quiet rfl rfl
    · intro w' hk; go_simp; with_reducible rfl
    simp only [Act.put, List.setIfInBounds_toArray, List.set_cons_zero, List.set_cons_succ]
    apply lex_quiet rfl rfl
    · intro w' hk; go_simp; with_reducible rfl
    simp only [Act.put, List.setIfInBounds_toArray, List.set_cons_zero, List.set_cons_succ]
    apply lex_quiet rfl rfl
    · intro w' hk; go_simp; with_reducible rfl
    simp only [Act.put, List.setIfInBounds_toArray, List.set_cons_zero, List.set_cons_succ]
    apply lex_quiet rfl rfl
    · intro w' hk; have e3 := d3 w' hk; go_simp; with_reducible rfl
    simp only [Act.put, List.setIfInBounds_toArray, List.set_cons_zero, List.set_cons_succ]
    apply lex_quiet rfl rfl
    · intro w' hk; go_simp; with_reducible rfl
    simp only [Act.put, List.setIfInBounds_toArray, List.set_cons_zero, List.set_cons_succ]
    apply lex_quiet rfl rfl
    · intro w' hk; go_simp; with_reducible rfl
    simp only [Act.put, List.setIfInBounds_toArray, List.set_cons_zero, List.set_cons_succ]
    apply lex_quiet rfl rfl
    · intro w' hk; go_simp; with_reducible rfl
    simp only [Act.put, List.setIfInBounds_toArray, List.set_cons_zero, List.set_cons_succ]
    apply lex_quiet rfl rfl
    · intro w' hk; have e5 := dk w' hk; go_simp; with_reducible rfl
    simp only [Act.put, List.setIfInBounds_toArray, List.set_cons_zero, List.set_cons_succ]
    apply lex_quiet rfl rfl
    · intro w' hk; go_simp; with_reducible rfl
    simp only [Act.put, List.setIfInBounds_toArray, List.set_cons_zero, List.set_cons_succ]
    apply lex_quiet rfl rfl
    · intro w' hk; go_simp; with_reducible rfl
    simp only [Act.put, List.setIfInBounds_toArray, List.set_cons_zero, List.set_cons_succ]
    apply lex_quiet rfl rfl
    · intro w' hk; go_simp; with_reducible rfl
    simp only [Act.put, List.setIfInBounds_toArray, List.set_cons_zero, List.set_cons_succ]
    apply lex_quiet rfl rfl
    · intro w' hk; go_simp; with_reducible rfl
    simp only [Act.put, List.setIfInBounds_toArray, List.set_cons_zero, List.set_cons_succ]
    apply lex_quiet rfl rfl
    · intro w' hk; go_simp; with_reducible rfl
    simp only [Act.put, List.setIfInBounds_toArray, List.set_cons_zero, List.set_cons_succ]
    apply lex_quiet rfl rfl
    · intro w' hk; go_simp; with_reducible rfl
    simp only [Act.put, List.setIfInBounds_toArray, List.set_cons_zero, List.set_cons_succ]
    apply lex_quiet rfl rfl
    · intro w' hk; have e3 := d3 w' hk; go_simp; with_reducible rfl
    simp only [Act.put, List.setIfInBounds_toArray, List.set_cons_zero, List.set_cons_succ]
    refine lex_loud rfl rfl (loud_call 113 #[.int .i64 op] (fun w => by kernel_rfl) ⟨default, trivial⟩ (fun g _ => stable_true _) fun w' hk _ _ => (HTB.out w').mono ?_) fun gs _ => ?_
    · rintro e w'' ⟨rfl, rfl⟩
      exact ⟨default, trivial, rfl, KeepBut.refl _ _, fun b h => h.elim, trivial⟩
    simp only [sConst, Act.put, List.setIfInBounds_toArray, List.set_cons_zero, List.set_cons_succ]
    apply lex_quiet rfl rfl
    · intro w' hk; go_simp; with_reducible rfl
    simp only [Act.put, List.setIfInBounds_toArray, List.set_cons_zero, List.set_cons_succ]
    apply lex_quiet rfl rfl
    · intro w' hk; go_simp; with_reducible rfl
    simp only [Act.put, List.setIfInBounds_toArray, List.set_cons_zero, List.set_cons_succ]
    apply lex_quiet rfl rfl
    · intro w' hk; go_simp; with_reducible rfl
    simp only [Act.put, List.setIfInBounds_toArray, List.set_cons_zero, List.set_cons_succ]
    apply lex_quiet rfl rfl
    · intro w' hk; have e4 := d4 w' hk; go_simp; with_reducible rfl
    simp only [Act.put, List.setIfInBounds_toArray, List.set_cons_zero, List.set_cons_succ]
    apply lex_quiet rfl rfl
    · intro w' hk; go_simp; with_reducible rfl
    simp only [Act.put, List.setIfInBounds_toArray, List.set_cons_zero, List.set_cons_succ]
    apply lex_quiet rfl rfl
    · intro w' hk; go_simp; with_reducible rfl
    simp only [Act.put, List.setIfInBounds_toArray, List.set_cons_zero, List.set_cons_succ]
    apply lex_quiet rfl rfl
    · intro w' hk; go_simp; with_reducible rfl
    simp only [Act.put, List.setIfInBounds_toArray, List.set_cons_zero, List.set_cons_succ]
    refine lex_nil ?_
    intro W4 hk9 _ _
    have hk := (KeepBut.drew (fun _ => False) W3).trans hk9
    have HB4 := Lib.hid (hk.blk HB3.out); have HR4 := Lib.hid (HR3.out.keep hk fun _ _ e => e); have HK4 := Lib.hid (HK3.out.trans (hk.mono fun _ e => e.elim))
    clear hk hk9 d3 d4 dk
    go_upto_region 5 with fail
    have hne : r0.length ≠ 0 := fun e => by
      have h := HM1.out
      rw [List.eq_nil_of_length_eq_zero e] at h
      cases h
    obtain ⟨g, o, cR, h1, h2, ⟨h3, hg⟩, -, htk⟩ := HR4.out.took
    have HTK2 := Lib.hid htk; have HG := Lib.hid hg; have H23 := Lib.hid (And.intro h2 h3)
    obtain ⟨b0, -, -, -, -, -, f0⟩ := blk6 h1
    have hc : ¬ cR = 1 := by omega
    clear h1 htk hg h3
    go_upto_region 6 with fail
    obtain ⟨W5, hW, hk⟩ : ∃ W5, W5 = W4.setCell ⟨R, 0, none⟩ (.slice (some ⟨g, o + 5, none⟩) r0.length (cR - 1)) ∧ KeepBut (fun b => b = R) W4 W5 := ⟨_, rfl, KeepBut.setCell _ _ _ rfl⟩
    rw [← hW]
    have hr : ReaderAt W5 R r0 el ec := by rw [hW]; exact HTK2.out (some ⟨g, o + 5, none⟩) (cR - 1) (.inr rfl) (fun a ha => by cases ha; exact HG.out) (by have := H23.out; omega) (by have := H23.out; omega)
    have HB5 := Lib.hid (hk.blkE HB4.out fun e => by have e : Bs = R := e; have := HRB.out; omega); have HR5 := Lib.hid hr; have HK5 := Lib.hid (HK4.out.trans (hk.mono fun _ e => .inl e))
    clear hr hk
    clear hW b0 f0 hc hne h2
    have HQ := Lib.hid (must1 HR5.out [40] _ HM1.out)
    go_wp2_with fail
    go_at_call 76
    refine HQ.out.mono ?_
    rintro e W6 ⟨rfl, hr, hk⟩
    have HB6 := Lib.hid (hk.blkE HB5.out fun e => by have e : Bs = R := e; have := HRB.out; omega); have HR6 := Lib.hid hr; have HK6 := Lib.hid (HK5.out.trans (hk.mono fun _ e => .inl e))
    clear hr hk
    have HNM := Lib.hid (by have h := name_str HR6.out HKC.out; rw [HCC.out] at h; exact h)
    obtain ⟨n0, n1, n2, n3, n4, n5, n6, n7, n8, n9, n10, n11⟩ := blk12 HB6.out
    have f6 := frz12 HB6.out 6
    clear n0 n1 n2 n3 n4 n5 n6 n7 n8 n9 n10 n11 f6
    go_wp2_with fail
    go_at_call 79
    refine HNM.out.mono ?_
    rintro e W7 ⟨rfl, hr, hk⟩
    have HB7 := Lib.hid (hk.blkE HB6.out fun e => by have e : Bs = R := e; have := HRB.out; omega); have HR7 := Lib.hid hr; have HK7 := Lib.hid (HK6.out.trans (hk.mono fun _ e => .inl e))
    clear hr hk
    obtain ⟨n0, n1, n2, n3, n4, n5, n6, n7, n8, n9, n10, n11⟩ := blk12 HB7.out
    have f6 := frz12 HB7.out 6
    go_upto_region 8 with fail
    clear n0 n1 n2 n3 n4 n5 n6 n7 n8 n9 n10 n11 f6
    obtain ⟨W8, hW, hb, hk⟩ := s_put6 HB7.out (.string ⟨C.toArray⟩)
    rw [← hW]
    have HB8 := Lib.hid hb; have HR8 := Lib.hid (HR7.out.keep hk fun b hb e => by have e : b = Bs := e; have := HRB.out; omega); have HK8 := Lib.hid (HK7.out.trans (hk.mono fun _ e => .inr e))
    clear hW hb hk
    obtain ⟨n0, n1, n2, n3, n4, n5, n6, n7, n8, n9, n10, n11⟩ := blk12 HB8.out
    go_wp2_with fail
    go_at_call 113
    refine (HTB.out W8).mono ?_
    rintro e W9 ⟨rfl, rfl⟩
    clear n0 n1 n2 n3 n4 n5 n6 n7 n8 n9 n10 n11
    obtain ⟨-, r3, x, r4, hm2, hx, hm3, rfl⟩ := HREST.out.resolve_left (fun h => htake h.1)
    have HM2 := Lib.hid hm2; have HXX := Lib.hid hx; have HM3 := Lib.hid hm3
    clear hm2 hx hm3
    have HQ := Lib.hid (must1 HR8.out [44] _ HM2.out)
    go_wp2_with fail
    go_at_call 76
    refine HQ.out.mono ?_
    rintro e W10 ⟨rfl, hr, hk⟩
    have HB10 := Lib.hid (hk.blkE HB8.out fun e => by have e : Bs = R := e; have := HRB.out; omega); have HR10 := Lib.hid hr; have HK10 := Lib.hid (HK8.out.trans (hk.mono fun _ e => .inl e))
    clear hr hk
    have HEX := Lib.hid (exP_reads R el ec f W10 W10 r3 x r4 (KeepBut.refl _ _) HR10.out HXX.out)
    go_wp2_with fail
    go_at_call 32
    refine HEX.out.mono ?_
    rintro e W11 ⟨vs, rfl, hex, hr, hk⟩
    obtain ⟨xk, xo, xn, xS, xp, xm, xc, xl, xcl, rfl⟩ := ex_form hex
    have HX11 := Lib.hid hex
    clear hex
    have HB11 := Lib.hid (hk.blkE HB10.out fun e => by have e : Bs = R := e; have := HRB.out; omega); have HR11 := Lib.hid hr; have HK11 := Lib.hid (HK10.out.trans (hk.mono fun _ e => .inl e))
    clear hr hk
    obtain ⟨W12, G, hW12, hG, hbG, hkG, hsG⟩ := fresh_block W11 (.cells #[.int .i64 xk, .int .i64 xo, .int .i64 xn, .string xS, .slice xp xm xc, .int .i64 xl, .int .i64 xcl] TEx)
    have HBG := Lib.hid hbG; have HR12 := Lib.hid (HR11.out.keep hkG fun _ _ e => e); have HK12 := Lib.hid (HK11.out.trans (hkG.mono fun _ e => e.elim)); have HB12 := Lib.hid (hkG.blk HB11.out); have HX12 := Lib.hid (HX11.out.keep hkG fun _ _ e => e)
    have HNG := Lib.hid (show Bs < G ∧ W11.heap.size ≤ G by have := (Array.getElem?_eq_some_iff.1 HB11.out).1; omega)
    clear hbG hkG hsG
    have HBL := (KeepBut.alloc (fun _ => False) W11 (.cells #[.int .i64 xk, .int .i64 xo, .int .i64 xn, .string xS, .slice xp xm xc, .int .i64 xl, .int .i64 xcl] TEx)).blk HB11.out
    obtain ⟨n0, n1, n2, n3, n4, n5, n6, n7, n8, n9, n10, n11⟩ := blk12 HBL
    have f7 := frz12 HBL 7
    clear HBL
    go_upto_region 11 with fail
    rw [← hW12, ← hG]
    clear hW12 hG n0 n1 n2 n3 n4 n5 n6 n7 n8 n9 n10 n11 f7
    obtain ⟨W13, hW, hb, hk⟩ := s_put7 HB12.out (.slice (some ⟨G, 0, none⟩) 1 1)
    rw [← hW]
    have HB13 := Lib.hid hb; have HR13 := Lib.hid (HR12.out.keep hk fun b hb e => by have e : b = Bs := e; have := HRB.out; omega); have HK13 := Lib.hid (HK12.out.trans (hk.mono fun _ e => .inr e))
    have HSZ := Lib.hid (show w.heap.size ≤ W10.heap.size from HK10.out.size)
    have HKD := Lib.hid (show KidsAt W13 (fun b => w.heap.size ≤ b) (some ⟨G, 0, none⟩) 0 [x] from kids_one (hk.blkE HBG.out fun e => by have e : G = Bs := e; have := HNG.out; omega) (by show w.heap.size ≤ G; have := HNG.out; have := HK11.out.size; omega) ((HX12.out.keep hk fun b hb e => by have e : b = Bs := e; have hb : W10.heap.size ≤ b := hb; have := HN0.out; have := HSZ.out; omega).mono fun b hb => by have hb : W10.heap.size ≤ b := hb; have := HSZ.out; omega))
    clear hW hb hk
    have HQ := Lib.hid (must2 HR13.out [41] [59] _ HM3.out)
    go_wp2_with fail
    go_at_call 76
    refine HQ.out.mono ?_
    rintro e W14 ⟨rfl, hr, hk⟩
    have HKE := Lib.hid (KidsAt.keep hk (fun b hb e => by have e : b = R := e; have hb : w.heap.size ≤ b := hb; have := HRB.out; have := HN0.out; omega) HKD.out)
    have HB14 := Lib.hid (hk.blkE HB13.out fun e => by have e : Bs = R := e; have := HRB.out; omega); have HR14 := Lib.hid hr; have HK14 := Lib.hid (HK13.out.trans (hk.mono fun _ e => .inl e))
    clear hr hk
    go_wp2_with fail
    go_end0
    exact ⟨rfl, HR14.out, HK14.out, _, 1, HB14.out, HKE.out⟩

end Go.Proofs.YtomlffobbkcmdaaGreatDoor

/-
  Package parse: plain, where two names stand ahead of a call.
-/
namespace Go.Proofs.YtomlffobbkcmdaaGreatDoor
open Go Go.RowKit Own

/-- the cells of a statement that is a call -/
theorem stC_call {w : World} {S : Nat → Prop} {op l cl : Nat} {val into cont : List UInt8} {p : Option Addr} {cap : Nat} {xs : List Ex} (h : KidsAt w S p 0 xs) :
    ∃ vs : List Value, stC 9 0 op [] val into cont (.slice p xs.length cap) l cl = vs.toArray ∧ StAt w S vs (.mk 9 [] 0 op val into cont xs [] [] l cl) := by
  refine ⟨_, rfl, ?_⟩
  unfold StAt
  exact ⟨p, cap, none, 0, none, 0, rfl, h, by unfold StsAt; trivial, by unfold StsAt; trivial⟩

set_option maxRecDepth 4000 in
set_option maxHeartbeats 32000000 in
theorem plain_two (w : World) (R el ec f Bs : Nat) (tn tm : Item) (r0 r1 r2 r : List Item) (op l cl : Nat) (c : List UInt8) (xs : List Ex) (hr : ReaderAt w R (tn :: r0) el ec) (hB : w.heap[Bs]? = some (.cells (stC 0 0 0 [] [] [] [] (.slice none 0 0) l cl) TSm (0, 0))) (hRB : R < Bs)
    (hk1 : tn.tok.kind = 2) (h91 : headIs r0 [91] = false) (h44 : headIs r0 [44] = true) (htl : r0.tail = tm :: r1) (hk2 : tm.tok.kind = 2) (hm : mustT [[61]] r1 = some r2) (hx : callP f tn.tok.text r2 = some ((op, c, xs), r)) :
    Calls Tryz.prog 120 #[rdV R, .pointer (some ⟨Bs, 0, none⟩)] w fun e w' => e = .returned (.tuple #[]) ∧ ReaderAt w' R r el ec ∧ KeepBut (fun b => b = R ∨ b = Bs) w w' ∧
      ∃ vs, w'.heap[Bs]? = some (.cells vs.toArray TSm (0, 0)) ∧ StAt w' (fun b => w.heap.size ≤ b) vs (.mk 9 [] 0 op tn.tok.text tm.tok.text c xs [] [] l cl) := by
  have HRB := Lib.hid hRB
  have hN := (Array.getElem?_eq_some_iff.1 hB).1
  have HN0 := Lib.hid hN
  have HBW := Lib.hid hB
  have HNM := Lib.hid (name_str hr hk1)
  obtain ⟨T, hT⟩ : ∃ T, tn.tok.text = T := ⟨_, rfl⟩
  obtain ⟨U, hU⟩ : ∃ U, tm.tok.text = U := ⟨_, rfl⟩
  rw [hT] at HNM hx ⊢
  rw [hU]
  have HM91 := Lib.hid (fun W (h : ReaderAt W R r0 el ec) => by have h := may_any W R r0 el ec h [91]; rw [h91, if_neg Bool.false_ne_true] at h; exact h)
  have HM44 := Lib.hid (fun W (h : ReaderAt W R r0 el ec) => by have h := may_any W R r0 el ec h [44]; rw [h44, if_pos rfl, htl] at h; exact h)
  have HNM2 := Lib.hid (fun W (h : ReaderAt W R (tm :: r1) el ec) => by have h := name_str h hk2; rw [hU] at h; exact h)
  have HMU := Lib.hid hm; have HX := Lib.hid hx
  unfold stC at HBW
  clear hr hB hN hRB hk1 h91 h44 htl hk2 hm hx hT hU
  go_enter Tryz.func120, Tryz.ntmps120
  go_wp2_with fail
  go_at_call 79
  refine HNM.out.mono ?_
  rintro e W1 ⟨rfl, hr, hk⟩
  have HR1 := Lib.hid hr; have HK1 := Lib.hid (hk.mono fun b e => (.inl e : b = R ∨ b = Bs)); have HB1 := Lib.hid (hk.blkE HBW.out fun e => by have e : Bs = R := e; have := HRB.out; omega)
  have HQ := Lib.hid (HM91.out W1 hr)
  clear hr hk
  go_wp2_with fail
  go_at_call 101
  refine HQ.out.mono ?_
  rintro e W2 ⟨rfl, hr, hk⟩
  have HQ := Lib.hid (HM44.out W2 hr)
  have HB2 := Lib.hid (hk.blkE HB1.out fun e => by have e : Bs = R := e; have := HRB.out; omega); have HR2 := Lib.hid hr; have HK2 := Lib.hid (HK1.out.trans (hk.mono fun _ e => .inl e))
  clear hr hk
  go_wp2_with fail
  go_at_call 101
  refine HQ.out.mono ?_
  rintro e W3 ⟨rfl, hr, hk⟩
  have HQ := Lib.hid (HNM2.out W3 hr)
  have HB3 := Lib.hid (hk.blkE HB2.out fun e => by have e : Bs = R := e; have := HRB.out; omega); have HR3 := Lib.hid hr; have HK3 := Lib.hid (HK2.out.trans (hk.mono fun _ e => .inl e))
  clear hr hk
  go_wp2_with fail
  go_at_call 79
  refine HQ.out.mono ?_
  rintro e W4 ⟨rfl, hr, hk⟩
  have HB4 := Lib.hid (hk.blkE HB3.out fun e => by have e : Bs = R := e; have := HRB.out; omega); have HR4 := Lib.hid hr; have HK4 := Lib.hid (HK3.out.trans (hk.mono fun _ e => .inl e))
  clear hr hk
  obtain ⟨n0, n1, n2, n3, n4, n5, n6, n7, n8, n9, n10, n11⟩ := blk12 HB4.out
  have f4 := frz12 HB4.out 4
  have f5 := frz12 HB4.out 5
  go_upto_region 9 with fail
  clear n0 n1 n2 n3 n4 n5 n6 n7 n8 n9 n10 n11 f4 f5
  obtain ⟨W5, hW, hb, hk⟩ := s_put4 HB4.out (.string ⟨T.toArray⟩)
  rw [← hW]
  have HB5 := Lib.hid hb; have HR5 := Lib.hid (HR4.out.keep hk fun b hb e => by have e : b = Bs := e; have := HRB.out; omega); have HK5 := Lib.hid (HK4.out.trans (hk.mono fun _ e => .inr e))
  clear hW hb hk
  obtain ⟨W6, hW, hb, hk⟩ := s_put5 HB5.out (.string ⟨U.toArray⟩)
  rw [← hW]
  have HB6 := Lib.hid hb; have HR6 := Lib.hid (HR5.out.keep hk fun b hb e => by have e : b = Bs := e; have := HRB.out; omega); have HK6 := Lib.hid (HK5.out.trans (hk.mono fun _ e => .inr e))
  clear hW hb hk
  have HQ := Lib.hid (must1 HR6.out [61] _ HMU.out)
  go_wp2_with fail
  go_at_call 76
  refine HQ.out.mono ?_
  rintro e W7 ⟨rfl, hr, hk⟩
  have HB7 := Lib.hid (hk.blkE HB6.out fun e => by have e : Bs = R := e; have := HRB.out; omega); have HR7 := Lib.hid hr; have HK7 := Lib.hid (HK6.out.trans (hk.mono fun _ e => .inl e))
  clear hr hk
  have HCB := Lib.hid (call_reads W7 R el ec f Bs r2 r T U [] c op xs 0 0 0 l cl [] HR7.out HB7.out HRB.out HX.out)
  go_wp2_with fail
  go_at_call 131
  refine HCB.out.mono ?_
  rintro e W8 ⟨rfl, hr8, hk8, p, cap, hb8, hkd⟩
  have HR8 := Lib.hid hr8; have HK8 := Lib.hid (HK7.out.trans hk8)
  have hs7 := HK7.out.size
  obtain ⟨vs, hvs, hst⟩ := stC_call (op := op) (l := l) (cl := cl) (val := T) (into := U) (cont := c) (cap := cap) (hkd.mono fun b hb => (by have hb : W7.heap.size ≤ b := hb; omega : w.heap.size ≤ b))
  have hb8 : W8.heap[Bs]? = some (.cells vs.toArray TSm (0, 0)) := by rw [← hvs]; exact hb8
  have HB8 := Lib.hid hb8; have HST := Lib.hid hst
  clear hr8 hk8 hb8 hkd hs7 hvs hst
  go_wp2_with fail
  (try simp only [Exit.inBlock, Exit.then]); refine bodyPost_ret (results_none rfl _ _ _) rfl ?_
  exact ⟨rfl, HR8.out, HK8.out, vs, HB8.out, HST.out⟩

end Go.Proofs.YtomlffobbkcmdaaGreatDoor
