/-
  Package hist: Part's helpers: Clone, Clip, IndexFunc, DeleteFunc over calls.
-/
import Derived.Test.YtoolpifkfgileaaDoorHiH
import Derived.Test.YtoolpifkfgileaaDoorHp4
import Derived.Laws.CopyRow
namespace Go.Proofs.YtoolpifkfgileaaDoor
open Go Go.RowKit Own

set_option maxRecDepth 100000 in
set_option maxHeartbeats 4000000 in
theorem cloneC_any (w : World) (p : Option Addr) (c : Nat) (l : List Cl) (h : RowC w p l) (hl : l.length ≤ 1099511627776) :
    Calls Tryd.prog 32 #[.slice p l.length c] w fun e w' => ∃ v', e = .returned v' ∧ w'.ownsRow w.heap.size TCl 8 v' l.length (cellsC l) ∧ KeepBut (fun _ => False) w w' := by
  have q22 : ∀ (w : World) (a : Option Addr) (n c n' c' : Nat), (binOp .eql 23 (.slice a n c) (.slice none n' c')).run Tryd.prog w = .ok (.bool a.isNone) w := fun w a n c n' c' => Lib.run_eql_slice_nil w _ _ a n c n' c' calls_ty
  cases p with
  | none =>
    have hl0 : l = [] := by
      cases l with
      | nil => rfl
      | cons x l =>
        obtain ⟨g, o, e, _⟩ := h 0 (by simp)
        cases e
    subst hl0
    go_enter Tryd.func32, Tryd.ntmps32
    go_wp2_with fail
    go_ret
    exact ⟨_, rfl, World.ownsRow_nil _ _ _ _, KeepBut.refl _ _⟩
  | some a =>
    have hA := KeepBut.alloc (fun _ => False) w (.cells #[] TCl)
    have hr := Lib.hid (rd_of_rowC (h.stay hA)).adds
    have ho := Lib.hid (show (w.alloc (.cells #[] TCl)).ownsRow w.heap.size TCl 8 (.slice (some ⟨w.heap.size, 0, none⟩) 0 0) 0 (cellsC []) from ⟨rfl, .inr ⟨w.heap.size, 0, #[], rfl, Nat.le_refl _, heap_alloc_new w _, Nat.le_refl _, by unfold maxLen; omega, rfl, rfl⟩⟩)
    obtain ⟨i0, hi, hz0, hz1, hz2⟩ := info_parts info_call
    have HI := Lib.hid hi; have HZ0 := Lib.hid hz0; have HZ1 := Lib.hid hz1; have HZ2 := Lib.hid hz2
    clear h hA hi hz0 hz1 hz2
    go_enter Tryd.func32, Tryd.ntmps32
    go_wp2_with (at_builtin; go_loud (refine wpList_append_own _ rfl (.tmp 5) (.tmp 6) 23 rfl w.heap.size TCl i0 _ 8 64 calls_ty HI.out HZ0.out HZ1.out HZ2.out rfl (by decide) (.slice (some ⟨w.heap.size, 0, none⟩) 0 0) 0 (cellsC []) rfl ho.out a l.length c (cellsC l) rfl (cellsC_length l) hr.out (cellsC_one l) (by unfold maxLen; omega) (by omega) (by simp) ?_)
                 intro v' w' h1 h2 _
                 have H1 := Lib.hid h1; have H2 := Lib.hid h2
                 clear h1 h2)
    go_ret
    exact ⟨v', rfl, by have h := H1.out; rw [Nat.zero_add] at h; exact h, KeepBut.of_below (((Below.refl w.heap.size w).alloc (Nat.le_refl _) _).grown H2.out (by simp) (fun k hk => by cases hk; exact Nat.le_refl _))⟩

theorem clipC_any (w : World) (p : Option Addr) (n c : Nat) (hn : n ≤ c) (hc : c ≤ 9223372036854775807) :
    Calls Tryd.prog 35 #[.slice p n c] w fun e w' => e = .returned (.slice p n n) ∧ w' = w := by
  have : n ≤ 9223372036854775807 := by omega
  go_enter Tryd.func35, Tryd.ntmps35
  go_wp2
  go_ret
  exact ⟨rfl, rfl⟩

theorem partFn_any (w : World) (B3 i : Nat) (hb : w.cell? ⟨B3, 0, none⟩ = some (.int .i64 i)) (c : Cl) :
    Calls Tryd.prog 33 #[.agg #[.int .i64 c.hart, .int .i64 c.cont, .int .i64 c.op, .int .i64 c.arg, .int .i64 c.beg, .int .i64 c.till, .int .i64 c.value, .int .i64 c.code], .pointer (some ⟨B3, 0, none⟩)] w fun e w' => e = .returned (.bool (!atC i c)) ∧ KeepBut (fun _ => False) w w' := by
  obtain ⟨V, B, hV, hB, hbb, hkV, -⟩ := fresh_block w (.cells #[.int .i64 c.hart, .int .i64 c.cont, .int .i64 c.op, .int .i64 c.arg, .int .i64 c.beg, .int .i64 c.till, .int .i64 c.value, .int .i64 c.code] TCl)
  have c1 := blk_cell (k := 1) hbb rfl
  have hb' := hkV.stay hb
  have HK := Lib.hid hkV
  obtain ⟨q, hq⟩ : ∃ q, (c.cont != (i : Int)) = q := ⟨_, rfl⟩
  have HE := Lib.hid (show (!atC i c) = q by
    rw [← hq]
    unfold atC
    by_cases e : c.cont = (i : Int) <;> simp [e])
  clear hkV hbb hb
  go_enter Tryd.func33, Tryd.ntmps33
  go_upto_region 1 with fail
  rw [← hV, ← hB]
  clear hV hB
  go_wp2_with fail
  go_ret
  exact ⟨ret_bool HE.out.symm, HK.out⟩

def delV (B3 : Nat) : Value := .func (.func 33) #[] #[.pointer (some ⟨B3, 0, none⟩)]

def IdxDone (i : Nat) (cs : List Cl) (w : World) (e : Ending) (w' : World) : Prop :=
  ((∃ k : Nat, k < cs.length ∧ e = .returned (.int .i64 k) ∧ atC i (nthC cs k) = false ∧ ∀ j, j < k → atC i (nthC cs j) = true) ∨ (e = .returned (.int .i64 (-1)) ∧ ∀ j, j < cs.length → atC i (nthC cs j) = true)) ∧ KeepBut (fun _ => False) w w'

set_option maxHeartbeats 4000000 in
theorem idxC_any (w : World) (B3 i : Nat) (hb : w.cell? ⟨B3, 0, none⟩ = some (.int .i64 i)) (p : Option Addr) (c : Nat) (cs : List Cl) (hc : RowC w p cs) (hl : cs.length ≤ 60) :
    Calls Tryd.prog 53 #[.slice p cs.length c, delV B3] w fun e w' => IdxDone i cs w e w' := by
  have HC := Lib.hid hc; have HB := Lib.hid hb
  unfold delV
  clear hc hb
  go_enter Tryd.func53, Tryd.ntmps53
  go_wp2_with fail
  go_loopw [8] (fun v8 wr => ∃ k : Nat, v8 = .int .i64 k ∧ k ≤ cs.length ∧ (∀ j, j < k → atC i (nthC cs j) = true) ∧ KeepBut (fun _ => False) w wr) (fun v _ => cs.length - (intOf v).toNat)
  case atStart => exact ⟨0, rfl, Nat.zero_le _, fun j h => absurd h (Nat.not_lt_zero _), KeepBut.refl _ _⟩
  case round =>
    obtain ⟨k, rfl, hk, hno, hkk⟩ := hrel
    have HNO := Lib.hid hno; have HK := Lib.hid hkk
    by_cases hlt : k < cs.length
    · have hlti : (k : Int) < cs.length := by omega
      have hi0 : (0 : Int) ≤ k := by omega
      have hWi : IntKind.i64.wrap ((k : Int) + 1) = (k : Int) + 1 := IntWalk.i64_in _ (by omega)
      obtain ⟨g, o, hp, x0, x1, x2, x3, x4, x5, x6, x7⟩ := (HC.out.stay hkk) k hlt
      subst hp
      have HFN := Lib.hid (partFn_any wr B3 i (hkk.stay HB.out) (nthC cs k))
      obtain ⟨a, ha⟩ : ∃ a, atC i (nthC cs k) = a := ⟨_, rfl⟩
      rw [ha] at HFN
      have HA := Lib.hid ha
      clear hno hkk ha
      cases a with
      | true =>
        go_wp2_with (go_at_call 33; refine HFN.out.mono ?_; rintro e w2 ⟨rfl, hk2⟩; have HK2 := Lib.hid hk2; clear hk2)
        exact ⟨⟨k + 1, by simp, by omega, fun j hj => by
          by_cases e : j = k
          · subst e; exact HA.out
          · exact HNO.out j (by omega), HK.out.trans HK2.out⟩, by simp only [intOf]; omega⟩
      | false =>
        go_wp2_with (go_at_call 33; refine HFN.out.mono ?_; rintro e w2 ⟨rfl, hk2⟩; have HK2 := Lib.hid hk2; clear hk2)
        go_ret
        exact ⟨.inl ⟨k, hlt, rfl, HA.out, HNO.out⟩, HK.out.trans HK2.out⟩
    · have hnl : ¬ (k : Int) < cs.length := by omega
      clear hno hkk
      go_wp2_with fail
      go_ret
      exact ⟨.inr ⟨rfl, fun j hj => HNO.out j (by omega)⟩, HK.out⟩

/-- clear, over calls of a block that is known -/
theorem run_clear_calls (W : World) (g o n c : Nat) (cur : Array Value) (h : W.heap[g]? = some (.cells cur TCl (0, 0))) (hs : o + n * 8 ≤ cur.size) (hn : 0 < n) :
    ∃ W' cur', (∀ ty, (Builtin.clear_ #[23] ty #[.slice (some ⟨g, o, none⟩) n c]).run Tryd.prog W = .ok (.tuple #[]) W') ∧ W'.heap[g]? = some (.cells cur' TCl (0, 0)) ∧ cur'.size = cur.size ∧ (∀ k, k < o → cur'[k]? = cur[k]?) ∧ KeepBut (fun b => b = g) W W' := by
  have hz : (zeroValue TCl).run Tryd.prog W = .ok (.agg #[.int .i64 0, .int .i64 0, .int .i64 0, .int .i64 0, .int .i64 0, .int .i64 0, .int .i64 0, .int .i64 0]) W := by kernel_rfl
  obtain ⟨m, rfl⟩ : ∃ m, n = m + 1 := ⟨n - 1, by omega⟩
  obtain ⟨vs, hvs⟩ : ∃ vs, (Builtin.zeroCells (Value.agg #[.int .i64 0, .int .i64 0, .int .i64 0, .int .i64 0, .int .i64 0, .int .i64 0, .int .i64 0, .int .i64 0]).cells (m + 1)).toList = vs := ⟨_, rfl⟩
  have hvl : vs.length = (m + 1) * 8 := by rw [← hvs]; simp [Builtin.zeroCells, Value.cells]
  have hv1 : ∀ v ∈ vs, v.oneCell' = true := fun v hv => by
    rw [← hvs] at hv
    simp only [Builtin.zeroCells, Value.cells, Array.toList_map, List.mem_map] at hv
    obtain ⟨j, _, rfl⟩ := hv
    have hj : j % 8 < 8 := Nat.mod_lt _ (by decide)
    match hm : j % 8, hj with
    | 0, _ => simp [hm]; rfl
    | 1, _ => simp [hm]; rfl
    | 2, _ => simp [hm]; rfl
    | 3, _ => simp [hm]; rfl
    | 4, _ => simp [hm]; rfl
    | 5, _ => simp [hm]; rfl
    | 6, _ => simp [hm]; rfl
    | 7, _ => simp [hm]; rfl
  have hst := run_storeCells_at (P := Tryd.prog) g o TCl vs 0 cur W h (by rw [hvl]; omega) hv1
  rw [Nat.add_zero] at hst
  obtain ⟨nc, hnc⟩ : ∃ nc, (cur.toList.take o ++ vs ++ cur.toList.drop (o + vs.length)).toArray = nc := ⟨_, rfl⟩
  rw [hnc] at hst
  refine ⟨W.setRow g nc, nc, ?_, setRow_heap W g cur nc TCl (0, 0) h, ?_, fun k hk => ?_, ?_⟩
  · intro ty
    unfold Builtin.clear_
    simp [run_underlying calls_ty, Result.andThen, hz, hvs, hst]
  · rw [← hnc]
    simp only [List.size_toArray, List.length_append, List.length_take, List.length_drop, Array.length_toList, hvl]
    omega
  · rw [← hnc]
    rw [List.getElem?_toArray, List.append_assoc, List.getElem?_append_left (by rw [List.length_take, Array.length_toList]; omega), List.getElem?_take, if_pos hk]
    simp
  · exact ⟨rfl, rfl, rfl, by simp [World.setRow], fun b _ hb => by simp [World.setRow, Array.getElem?_modify]; intro e; exact absurd e.symm hb⟩

end Go.Proofs.YtoolpifkfgileaaDoor
