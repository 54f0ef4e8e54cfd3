/-
  Package hist: rows of contents; Clone; empty.
-/
import Derived.Test.YtoolpifkfgileaaDoorHi5
import Derived.Lib.SliceRun
namespace Go.Proofs.YtoolpifkfgileaaDoor
open Go Go.RowKit Own

theorem Rd.of_owns {w : World} {base n size : Nat} {T : TypeId} {v : Value} {cs : List Value} (h : w.ownsRow base T size v n cs) :
    ∃ p c, v = .slice p n c ∧ Rd w p cs ∧ (∀ a, p = some a → a.spot = none ∧ base ≤ a.block ∧ a.block < w.heap.size) ∧ (p = none → n = 0) := by
  obtain ⟨h0, ⟨rfl, rfl⟩ | ⟨g, cap, cur, rfl, hb, hg, h1, h2, h3, h4⟩⟩ := h
  · have : cs = [] := List.eq_nil_of_length_eq_zero (by omega)
    subst this
    exact ⟨none, 0, rfl, Rd.empty _ _, (fun a e => by cases e), fun _ => rfl⟩
  · refine ⟨some ⟨g, 0, none⟩, cap, rfl, fun j u hj => ⟨g, 0, rfl, ?_⟩, fun a e => by cases e; exact ⟨rfl, hb, (Array.getElem?_eq_some_iff.1 hg).1⟩, (fun e => by cases e)⟩
    rw [Nat.zero_add]
    refine blk_cell hg ?_
    rw [← h4, List.getElem?_take] at hj
    split at hj
    · simpa using hj
    · cases hj

theorem Rd.adds {w : World} {a : Addr} {cs : List Value} (h : Rd w (some a) cs) : ∀ j u, cs[j]? = some u → w.cell? (a.add j) = some u := fun j u hj => by
  obtain ⟨b, o, e, hc⟩ := h j u hj
  cases e
  have e : (⟨b, o, none⟩ : Addr).add j = ⟨b, o + j, none⟩ := by
    unfold Addr.add
    split
    · rename_i h; subst h; rfl
    · rfl
  rw [e]; exact hc

/-- a content as it lies in a row -/
structure Kc where
  k : Int
  q : Option Addr
  xs : List Int
  c : Nat
def Kc.vals (e : Kc) : List Value := [.int .i64 e.k, .slice e.q e.xs.length e.c]
def Kc.plain (e : Kc) : Int × List Int := (e.k, e.xs)
def cellsK (l : List Kc) : List Value := l.flatMap Kc.vals
theorem cellsK_length (l : List Kc) : (cellsK l).length = l.length * 2 := by
  unfold cellsK
  induction l with
  | nil => rfl
  | cons x l ih => rw [List.flatMap_cons, List.length_append, ih, List.length_cons]; simp only [Kc.vals, List.length_cons, List.length_nil]; omega
theorem cellsK_snoc (l : List Kc) (x : Kc) : cellsK (l ++ [x]) = cellsK l ++ x.vals := by simp [cellsK]
theorem cellsK_at : ∀ (l : List Kc) (i k : Nat) (h : i < l.length), k < 2 → (cellsK l)[i * 2 + k]? = (l[i].vals)[k]?
  | x :: l, 0, k, _, hk => by
    show (x.vals ++ cellsK l)[0 * 2 + k]? = _
    rw [Nat.zero_mul, Nat.zero_add, List.getElem?_append_left (by simpa [Kc.vals] using hk)]
    rfl
  | x :: l, i + 1, k, h, hk => by
    show (x.vals ++ cellsK l)[(i + 1) * 2 + k]? = _
    rw [List.getElem?_append_right (by simp [Kc.vals]; omega)]
    have e : (i + 1) * 2 + k - x.vals.length = i * 2 + k := by simp [Kc.vals]; omega
    rw [e, cellsK_at l i k (by simpa using h) hk]
    rfl
theorem cellsK_one (l : List Kc) : ∀ u ∈ cellsK l, u.oneCell' = true := fun u hu => by
  obtain ⟨t, _, h⟩ := List.mem_flatMap.1 hu
  simp only [Kc.vals, List.mem_cons, List.not_mem_nil, or_false] at h
  rcases h with rfl | rfl <;> rfl

/-- contents are read from p on -/
structure HasAt (w : World) (p : Option Addr) (l : List Kc) : Prop where
  rd : Rd w p (cellsK l)
  live : ∀ e ∈ l, Rd w e.q (ints e.xs) ∧ ∀ a, e.q = some a → a.spot = none
theorem HasAt.stay {w w' : World} {p : Option Addr} {l : List Kc} (h : HasAt w p l) (k : KeepBut (fun _ => False) w w') : HasAt w' p l :=
  ⟨h.rd.stay k, fun e he => ⟨(h.live e he).1.stay k, (h.live e he).2⟩⟩
theorem HasAt.cells {w : World} {p : Option Addr} {l : List Kc} (h : HasAt w p l) (i : Nat) (hi : i < l.length) :
    ∃ g o, p = some ⟨g, o, none⟩ ∧ w.cell? ⟨g, o + i * 2, none⟩ = some (.int .i64 l[i].k) ∧ w.cell? ⟨g, o + i * 2 + 1, none⟩ = some (.slice l[i].q l[i].xs.length l[i].c) := by
  obtain ⟨b, o, hp, h0⟩ := h.rd (i * 2 + 0) _ (cellsK_at l i 0 hi (by decide))
  obtain ⟨b', o', hp', h1⟩ := h.rd (i * 2 + 1) _ (cellsK_at l i 1 hi (by decide))
  rw [hp] at hp'
  cases hp'
  exact ⟨b, o, hp, h0, by rw [Nat.add_assoc]; exact h1⟩

theorem cellsAt {w : World} {b : Nat} {cs : Array Value} {T : TypeId} (h : w.heap[b]? = some (.cells cs T (0, 0))) (j : Nat) (u : Value) (hu : cs.toList[j]? = some u) : w.cell? ((⟨b, 0, none⟩ : Addr).add j) = some u := by
  have e : (⟨b, 0, none⟩ : Addr).add j = ⟨b, 0 + j, none⟩ := by
    unfold Addr.add
    split
    · rename_i h; subst h; rfl
    · rfl
  rw [e, Nat.zero_add]
  exact blk_cell h (by simpa using hu)

abbrev TC : TypeId := 47
theorem info_content : (Tryd.prog.info? TC).map (fun i => (i.zero, i.size, i.bytes)) = some (some (.agg #[.int .i64 0, .slice none 0 0]), 2, 32) := by kernel_rfl
theorem tc_slice : Tryd.prog.underlying 65 = some (.slice TC) := by kernel_rfl

set_option maxRecDepth 100000 in
set_option maxHeartbeats 4000000 in
theorem cloneK_any (w : World) (p : Option Addr) (c : Nat) (l : List Kc) (h : HasAt w p l) (hl : l.length ≤ 1099511627776) :
    Calls Tryd.prog 61 #[.slice p l.length c] w fun e w' => ∃ v', e = .returned v' ∧ w'.ownsRow w.heap.size TC 2 v' l.length (cellsK l) ∧ KeepBut (fun _ => False) w w' := by
  have q22 : ∀ (w : World) (a : Option Addr) (n c n' c' : Nat), (binOp .eql 65 (.slice a n c) (.slice none n' c')).run Tryd.prog w = .ok (.bool a.isNone) w := fun w a n c n' c' => Lib.run_eql_slice_nil w _ _ a n c n' c' tc_slice
  cases p with
  | none =>
    have hl0 : l = [] := by
      cases l with
      | nil => rfl
      | cons x l =>
        obtain ⟨g, o, e, _⟩ := h.cells 0 (by simp)
        cases e
    subst hl0
    go_enter Tryd.func61, Tryd.ntmps61
    go_wp2_with fail
    go_ret
    exact ⟨_, rfl, World.ownsRow_nil _ _ _ _, KeepBut.refl _ _⟩
  | some a =>
    have hA := KeepBut.alloc (fun _ => False) w (.cells #[] TC)
    have hr := Lib.hid (h.rd.stay hA).adds
    have ho := Lib.hid (show (w.alloc (.cells #[] TC)).ownsRow w.heap.size TC 2 (.slice (some ⟨w.heap.size, 0, none⟩) 0 0) 0 (cellsK []) from ⟨rfl, .inr ⟨w.heap.size, 0, #[], rfl, Nat.le_refl _, heap_alloc_new w _, Nat.le_refl _, Nat.zero_le _, rfl, rfl⟩⟩)
    obtain ⟨i0, hi, hz0, hz1, hz2⟩ := info_parts info_content
    have HI := Lib.hid hi; have HZ0 := Lib.hid hz0; have HZ1 := Lib.hid hz1; have HZ2 := Lib.hid hz2
    clear h hi hz0 hz1 hz2
    go_enter Tryd.func61, Tryd.ntmps61
    go_wp2_with (at_builtin; go_loud (refine wpList_append_own _ rfl (.tmp 5) (.tmp 6) 65 rfl w.heap.size TC i0 _ 2 32 tc_slice HI.out HZ0.out HZ1.out HZ2.out rfl (by decide) (.slice (some ⟨w.heap.size, 0, none⟩) 0 0) 0 (cellsK []) rfl ho.out a l.length c (cellsK l) rfl (cellsK_length l) hr.out (cellsK_one l) (by unfold maxLen; omega) (by omega) (by simp) ?_)
                 intro v' w' h1 h2 _
                 have H1 := Lib.hid h1; have H2 := Lib.hid h2
                 clear h1 h2)
    go_ret
    exact ⟨v', rfl, by have h := H1.out; rw [Nat.zero_add] at h; exact h, KeepBut.of_below (((Below.refl w.heap.size w).alloc (Nat.le_refl _) _).grown H2.out (by simp) (fun k hk => by cases hk; exact Nat.le_refl _))⟩

/-- a row of contents is returned -/
def DoneK (w : World) (e : Ending) (w' : World) (l : List Kc) : Prop := ∃ p c, e = .returned (.slice p l.length c) ∧ HasAt w' p l ∧ KeepBut (fun _ => False) w w'

def startK (ks : List Int) : List Kc := ks.map fun k => ⟨k, none, [], 0⟩
theorem startK_plain (ks : List Int) : (startK ks).map Kc.plain = ks.map fun k => (k, []) := by simp [startK, Kc.plain]

set_option maxHeartbeats 8000000 in
theorem empty_any (w : World) (S : Nat) (ks : List Int) (pk : Option Addr) (ck : Nat) (hS : w.cell? ⟨S, 0, none⟩ = some (.slice pk ks.length ck)) (hr : Rd w pk (ints ks)) (hl : ks.length ≤ 1099511627776) :
    Calls Tryd.prog 38 #[.pointer (some ⟨S, 0, none⟩)] w fun e w' => DoneK w e w' (startK ks) := by
  have HR := Lib.hid hr
  obtain ⟨i0, hi, hz0, hz1, hz2⟩ := info_parts info_content
  have HI := Lib.hid hi; have HZ0 := Lib.hid hz0; have HZ1 := Lib.hid hz1; have HZ2 := Lib.hid hz2
  clear hr hi hz0 hz1 hz2
  go_enter Tryd.func38, Tryd.ntmps38
  go_upto_block 0 with fail
  go_wp2_with fail
  clear hS
  go_loopw [3, 12] (fun v3 v12 wr => ∃ i : Nat, v12 = .int .i64 i ∧ i ≤ ks.length ∧ wr.ownsRow w.heap.size TC 2 v3 i (cellsK (startK (ks.take i))) ∧ KeepBut (fun _ => False) w wr) (fun _ v _ => ks.length - (intOf v).toNat)
  case atStart => exact ⟨0, rfl, Nat.zero_le _, World.ownsRow_nil _ _ _ _, KeepBut.refl _ _⟩
  case round =>
    obtain ⟨i, rfl, hi, hrow, hk⟩ := hrel
    by_cases hlt : i < ks.length
    · have hlti : (i : Int) < ks.length := by omega
      have hi0 : (0 : Int) ≤ i := by omega
      have hWi : IntKind.i64.wrap ((i : Int) + 1) = (i : Int) + 1 := IntWalk.i64_in _ (by omega)
      obtain ⟨b, o, hp, -⟩ := HR.out.ptr (by rw [ints_length]; omega)
      subst hp
      have hc := (HR.out.stay hk).int i hlt
      have HROW := Lib.hid hrow; have HK := Lib.hid hk
      have hws := hk.size
      clear hrow hk
      go_upto_region 5 with fail
      go_wp2_with (at_builtin; go_loud (refine wpList_append_own _ rfl (.tmp 16) (.tmp 19) 65 rfl w.heap.size TC i0 _ 2 32 tc_slice HI.out HZ0.out HZ1.out HZ2.out rfl (by decide) u3 i (cellsK (startK (ks.take i))) rfl (HROW.out.alloc _) ⟨wr.heap.size, 0, none⟩ 1 1 [.int .i64 (nth ks i), .slice none 0 0] rfl rfl (cellsAt (heap_alloc_new wr _)) (by simp [Value.oneCell']) (by unfold maxLen; omega) (by omega) (by rw [World.size_alloc]; omega) ?_)
                   intro v' w' h1 h2 _
                   have H1 := Lib.hid h1; have H2 := Lib.hid h2
                   clear h1 h2)
      have hk5 : KeepBut (fun _ => False) w w' := by
        have hx : KeepBut (fun _ => False) w (wr.alloc (.cells #[.int .i64 (nth ks i), .slice none 0 0] TC)) := HK.out.trans (KeepBut.alloc _ _ _)
        refine hx.new (KeepBut.grown (E := fun j => u3.ownBlock = some j) H2.out fun _ e => e) fun j hj => ?_
        exact (HROW.out.lt j hj).1
      exact ⟨⟨i + 1, by simp, by omega, by
        have := H1.out
        have e : startK (ks.take (i + 1)) = startK (ks.take i) ++ [⟨nth ks i, none, [], 0⟩] := by
          rw [nth_eq hlt]; unfold startK; rw [List.map_take, List.map_take, List.take_succ_eq_append_getElem (by simpa using hlt)]; simp
        rw [e, cellsK_snoc]; exact this, hk5⟩, by simp only [intOf]; omega⟩
    · have hnl : ¬ (i : Int) < ks.length := by omega
      have e : i = ks.length := by omega
      subst e
      rw [List.take_length] at hrow
      obtain ⟨p, c, rfl, h1, h2, h3⟩ := Rd.of_owns hrow
      have HQ := Lib.hid (show HasAt wr p (startK ks) ∧ KeepBut (fun _ => False) w wr from ⟨⟨h1, fun e he => by
        obtain ⟨k, _, rfl⟩ := List.mem_map.1 he
        exact ⟨Rd.empty _ _, fun a h => by cases h⟩⟩, hk⟩)
      clear hrow hk h1 h2 h3
      go_wp2_with fail
      go_ret
      exact ⟨p, c, by simp [startK], HQ.out.1, HQ.out.2⟩

end Go.Proofs.YtoolpifkfgileaaDoor
