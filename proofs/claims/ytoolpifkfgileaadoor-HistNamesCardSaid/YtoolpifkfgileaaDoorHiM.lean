/-
  Helpers of the statements: Same[int], Same[Turn].
-/
import Derived.Test.YtoolpifkfgileaaDoorHiL
import Derived.Laws.StructEq
namespace Go.Proofs.YtoolpifkfgileaaDoor
open Go Go.RowKit Own

set_option maxHeartbeats 2000000 in
/-- fencepostkit.Same -/
theorem sameInt_any (w : World) (p q : Option Addr) (c d : Nat) (xs ys : List Int) (hx : Rd w p (ints xs)) (hy : Rd w q (ints ys)) (hlx : xs.length ≤ 1099511627776) (hly : ys.length ≤ 1099511627776) :
    Calls Tryd.prog 25 #[.slice p xs.length c, .slice q ys.length d] w fun e w' => e = .returned (.bool (decide (xs = ys))) ∧ KeepBut (fun _ => False) w w' := by
  by_cases hl : xs.length = ys.length
  · by_cases h0 : xs.length = 0
    · have h1 : xs = [] := List.eq_nil_of_length_eq_zero h0
      have h2 : ys = [] := List.eq_nil_of_length_eq_zero (by omega)
      subst h1 h2
      clear hx hy hl h0 hlx hly
      go_enter Tryd.func25, Tryd.ntmps25
      go_wp2_with fail
      go_loopw [5] (fun i wr => i = .int .i64 0 ∧ KeepBut (fun _ => False) w wr) (fun _ _ => 0)
      case atStart => exact ⟨rfl, KeepBut.refl _ w⟩
      case round =>
        obtain ⟨rfl, hd⟩ := hrel
        go_wp2_with fail
        go_ret
        exact ⟨rfl, hd⟩
    · obtain ⟨b, o, rfl, _⟩ := hx.ptr (by rw [ints_length]; omega)
      obtain ⟨b', o', rfl, _⟩ := hy.ptr (by rw [ints_length]; omega)
      have HX := Lib.hid hx; have HY := Lib.hid hy
      have hlI : (ys.length : Int) = xs.length := by omega
      have HL := Lib.hid hl
      clear hx hy hl h0
      go_enter Tryd.func25, Tryd.ntmps25
      go_wp2_with fail
      go_loopw [5] (fun i wr => ∃ k : Nat, k ≤ xs.length ∧ i = .int .i64 k ∧ agree xs ys k ∧ KeepBut (fun _ => False) w wr) (fun i _ => xs.length - (intOf i).toNat)
      case atStart => exact ⟨0, Nat.zero_le _, rfl, fun j hj => by omega, KeepBut.refl _ w⟩
      case round =>
        obtain ⟨k, hk, rfl, hag, hd⟩ := hrel
        have HA := Lib.hid hag; have HD := Lib.hid hd
        clear hag hd
        by_cases hlt : k < xs.length
        · have hltI : (k : Int) < (xs.length : Int) := by omega
          have c1 : ∀ w', KeepBut (fun _ => False) wr.drew w' → w'.cell? ⟨b, o + k, none⟩ = some (.int .i64 (nth xs k)) := fun w' h => (HX.out.stay ((HD.out.trans (KeepBut.drew _ wr)).trans h)).int k hlt
          have c2 : ∀ w', KeepBut (fun _ => False) wr.drew w' → w'.cell? ⟨b', o' + k, none⟩ = some (.int .i64 (nth ys k)) := fun w' h => (HY.out.stay ((HD.out.trans (KeepBut.drew _ wr)).trans h)).int k (by have := HL.out; omega)
          have h0k : (0 : Int) ≤ k := by omega
          have hW : IntKind.i64.wrap ((k : Int) + 1) = k + 1 := IntWalk.i64_in _ (by omega)
          by_cases heq : nth xs k = nth ys k
          · have hag' := Lib.hid (show agree xs ys (k + 1) from fun j hj => by
              rcases Nat.lt_or_ge j k with h | h
              · exact HA.out j h
              · rw [show j = k by omega]; exact heq)
            have hb : (nth xs k != nth ys k) = false := by simp [heq]
            clear heq
            go_upto_region 6 with fail
            refine wp_own0 (by kernel_rfl) (fun i => [[], [], [0, 1], [0, 1, 2], [], [], [4, 5], [4, 5, 6], [0, 1, 2, 3, 4, 5, 6, 7]].getD i []) (fun _ => []) (fun _ => []) [] (by kernel_rfl) (fun _ => none) ?_
            repeat
              apply lex_quiet rfl rfl
              · intro w' hk; go_simp; with_reducible rfl
              simp only [Act.put, List.setIfInBounds_toArray, List.set_cons_zero, List.set_cons_succ]
            refine lex_nil ?_
            intro w1 hk1 _ _
            have HD1 : Hid (KeepBut (fun _ => False) w w1) := (HD.out.trans (KeepBut.drew _ wr)).trans hk1
            clear c1 c2 hk1
            go_wp2_with fail
            refine ⟨⟨k + 1, by omega, by simp, hag'.out, HD1.out⟩, ?_⟩
            simp only [intOf]
            omega
          · have hne := Lib.hid (show decide (xs = ys) = false by simpa using agree_not heq)
            have hb : (nth xs k != nth ys k) = true := by simp [heq]
            clear heq
            go_upto_region 6 with fail
            refine wp_own0 (by kernel_rfl) (fun i => [[], [], [0, 1], [0, 1, 2], [], [], [4, 5], [4, 5, 6], [0, 1, 2, 3, 4, 5, 6, 7]].getD i []) (fun _ => []) (fun _ => []) [] (by kernel_rfl) (fun _ => none) ?_
            repeat
              apply lex_quiet rfl rfl
              · intro w' hk; go_simp; with_reducible rfl
              simp only [Act.put, List.setIfInBounds_toArray, List.set_cons_zero, List.set_cons_succ]
            refine lex_nil ?_
            intro w1 hk1 _ _
            have HD1 : Hid (KeepBut (fun _ => False) w w1) := (HD.out.trans (KeepBut.drew _ wr)).trans hk1
            clear c1 c2 hk1
            go_wp2_with fail
            go_ret
            exact ⟨ret_bool hne.out.symm, HD1.out⟩
        · have he := Lib.hid (show decide (xs = ys) = true by simpa using agree_all HL.out (by rw [show xs.length = k by omega]; exact HA.out))
          have hge : ¬ (k : Int) < (xs.length : Int) := by omega
          go_wp2_with fail
          go_ret
          exact ⟨ret_bool he.out.symm, HD.out⟩
  · have he := Lib.hid (show decide (xs = ys) = false by simpa using fun e => hl (by rw [e]))
    have hb : ((xs.length : Int) != (ys.length : Int)) = true := by simp; omega
    clear hx hy hl
    go_enter Tryd.func25, Tryd.ntmps25
    go_wp2_with fail
    go_ret
    exact ⟨ret_bool he.out.symm, KeepBut.refl _ _⟩

theorem cellsT_at : ∀ (l : List (Int × Bool)) (i k : Nat) (h : i < l.length), k < 2 → (cellsT l)[i * 2 + k]? = ([Value.int .i64 l[i].1, .bool l[i].2])[k]?
  | x :: l, 0, k, _, hk => by
    show (([Value.int .i64 x.1, .bool x.2]) ++ cellsT l)[0 * 2 + k]? = _
    rw [Nat.zero_mul, Nat.zero_add, List.getElem?_append_left (by simpa using hk)]
    rfl
  | x :: l, i + 1, k, h, hk => by
    show (([Value.int .i64 x.1, .bool x.2]) ++ cellsT l)[(i + 1) * 2 + k]? = _
    rw [List.getElem?_append_right (by simp; omega)]
    have e : (i + 1) * 2 + k - ([Value.int .i64 x.1, .bool x.2]).length = i * 2 + k := by simp; omega
    rw [e, cellsT_at l i k (by simpa using h) hk]
    rfl
theorem rdT_cells {w : World} {p : Option Addr} {l : List (Int × Bool)} (h : Rd w p (cellsT l)) (i : Nat) (hi : i < l.length) :
    ∃ g o, p = some ⟨g, o, none⟩ ∧ w.cell? ⟨g, o + i * 2, none⟩ = some (.int .i64 l[i].1) ∧ w.cell? ⟨g, o + i * 2 + 1, none⟩ = some (.bool l[i].2) := by
  obtain ⟨b, o, hp, h0⟩ := h (i * 2 + 0) _ (cellsT_at l i 0 hi (by decide))
  obtain ⟨b', o', hp', h1⟩ := h (i * 2 + 1) _ (cellsT_at l i 1 hi (by decide))
  rw [hp] at hp'
  cases hp'
  exact ⟨b, o, hp, h0, by rw [Nat.add_assoc]; exact h1⟩

theorem eqT (a : Int) (b : Bool) (w : World) : (Op.equalIn 10000 TTu (.agg #[.int .i64 a, .bool b]) (.agg #[.int .i64 a, .bool b])).run Tryd.prog w = .ok true w := by
  have u3 := Tryd.underlying3; have a3 := Tryd.isAgg3; have z3 := Tryd.sizeOf3
  have u9 := Tryd.underlying4; have a9 := Tryd.isAgg4; have z9 := Tryd.sizeOf4
  have hS : Tryd.prog.underlying TTu = some (.struct (Tryd.prog.fieldsOf TTu)) := by kernel_rfl
  rw [show (10000 : Nat) = 9999 + 1 from rfl, run_equalIn_agg w 9999 TTu _ _ hS (by kernel_rfl)]
  simp only [Program.fieldsOf, Tryd.underlying62]
  go_simp

set_option maxHeartbeats 4000000 in
theorem sameTurn_any (w : World) (p q : Option Addr) (c d : Nat) (l : List (Int × Bool)) (hx : Rd w p (cellsT l)) (hy : Rd w q (cellsT l)) (hl : l.length ≤ 1099511627776) :
    Calls Tryd.prog 27 #[.slice p l.length c, .slice q l.length d] w fun e w' => e = .returned (.bool true) ∧ KeepBut (fun _ => False) w w' := by
  have HX := Lib.hid hx; have HY := Lib.hid hy
  clear hx hy
  go_enter Tryd.func27, Tryd.ntmps27
  go_wp2_with fail
  go_loopw [5] (fun i wr => ∃ k : Nat, k ≤ l.length ∧ i = .int .i64 k ∧ KeepBut (fun _ => False) w wr) (fun i _ => l.length - (intOf i).toNat)
  case atStart => exact ⟨0, Nat.zero_le _, rfl, KeepBut.refl _ w⟩
  case round =>
    obtain ⟨k, hk, rfl, hd⟩ := hrel
    have HD := Lib.hid hd
    by_cases hlt : k < l.length
    · have hltI : (k : Int) < (l.length : Int) := by omega
      have h0k : (0 : Int) ≤ k := by omega
      have hW : IntKind.i64.wrap ((k : Int) + 1) = k + 1 := IntWalk.i64_in _ (by omega)
      obtain ⟨g, o, hp, x0, x1⟩ := rdT_cells (HX.out.stay hd) k hlt
      obtain ⟨g', o', hq, y0, y1⟩ := rdT_cells (HY.out.stay hd) k hlt
      subst hp; subst hq
      obtain ⟨⟨ta, tb⟩, ht⟩ : ∃ t, l[k] = t := ⟨_, rfl⟩
      rw [ht] at x0 x1 y0 y1
      dsimp only at x0 x1 y0 y1
      have heq : ∀ n, (binOp .neq TTu (.agg #[.int .i64 ta, .bool tb]) (.agg #[.int .i64 ta, .bool tb])).run Tryd.prog (wr.drewN n) = .ok (.bool false) (wr.drewN n) := fun n => by
        have h9 := eqT ta tb (wr.drewN n)
        simp only [binOp, Op.equal, Op.maxDepth, Sem.run_bind, h9, Result.andThen_ok]
        rfl
      clear ht hd
      go_upto_region 6 with fail
      go_quiet (fail)
      go_wp2_with fail
      exact ⟨⟨k + 1, by omega, by simp, HD.out.trans (KeepBut.drewN _ _ _)⟩, by simp only [intOf]; omega⟩
    · have hnl : ¬ (k : Int) < (l.length : Int) := by omega
      go_wp2_with fail
      go_ret
      exact ⟨rfl, HD.out⟩

end Go.Proofs.YtoolpifkfgileaaDoor
