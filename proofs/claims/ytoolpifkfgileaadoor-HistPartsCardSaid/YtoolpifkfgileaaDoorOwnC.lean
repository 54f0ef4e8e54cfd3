/-
  Helpers of the statements: fencepostkit.Own[int64], OwnContent, Content.
-/
import Derived.Test.YtoolpifkfgileaaDoorKit
import Derived.Test.YtoolpifkfgileaaDoorApp
namespace Go.Proofs.YtoolpifkfgileaaDoor
open Go Go.RowKit Own

/-- append of numbers that are read to a row of one's own, at the operation -/
theorem wpList_appendN {P : Program} {w : World} {ops : Array Oper} {rest : List Oper} {o : Oper} {a : Act} {Q : Exit → Act → World → Prop} (hgd : o.guard = none) (s x : Operand) (t : TypeId)
    (ho : o.op = .call { callee := .builtin .append, args := #[s, x], argTypes := #[t, t] }) (E : TypeId) (p : Option Addr) (c n : Nat) (xs zs : List Int) (hn : n = xs.length) (ad : Addr) (m cc : Nat) (hm : m = zs.length)
    (hs : a.eval s = .slice p n c) (hx : a.eval x = .slice (some ad) m cc) (ht : P.underlying t = some (.slice E))
    (hinfo : (P.info? E).map (fun i => (i.zero, i.size, i.bytes)) = some (some (.int .i64 0), 1, 8)) (hown : OwnI E 0 w p c xs) (hz : ∀ j, j < zs.length → w.cell? (ad.add j) = some (.int .i64 (nth zs j))) (hl : xs.length + zs.length ≤ 1099511627776)
    (h : ∀ p' c' w', OwnI E 0 w' p' c' (xs ++ zs) → KeepBut (Of p) w w' → (∀ b, Of p' b → Of p b ∨ w.heap.size ≤ b) → wpList P ops Q rest (a.put o.dst (.slice p' (xs.length + zs.length) c')) w') :
    wpList P ops Q (o :: rest) a w := by
  subst hn hm
  refine wpList_plain hgd fun K hK => ?_
  obtain ⟨p', c', w', h1, h2, h3, h4⟩ := append_ownN (P := P) E t o.type w p c xs zs ad cc ht hinfo hown hz hl
  unfold Oper.wp execOp
  simp only [ho, resolve, invoke, builtin, Sem.run_bind, Sem.run_pure, Result.andThen_ok, List.map_toArray, List.map_cons, List.map_nil, hs, hx, h1]
  exact hK _ _ (h p' c' w' h2 h3 h4)

theorem rd_adds {w : World} {a : Addr} {xs : List Int} (h : Rd w (some a) (ints xs)) : ∀ j, j < xs.length → w.cell? (a.add j) = some (.int .i64 (nth xs j)) := fun j hj => by
  obtain ⟨b, o, h1, _⟩ := h.ptr (by rw [ints_length]; omega)
  cases h1
  rw [add_off]
  exact h.int j hj

def DoneC (w : World) (e : Ending) (w' : World) (k : Int) (xs : List Int) : Prop :=
  ∃ p cap, e = .returned (.agg #[.int .i64 k, .slice p xs.length cap]) ∧ Lies w.heap.size w' p xs ∧ KeepBut (fun _ => False) w w'

theorem content_any (w : World) (k l : Int) (p q : Option Addr) (c d : Nat) (xs ys : List Int) (hx : Rd w p (ints xs)) (hy : Rd w q (ints ys)) (hlx : xs.length ≤ 1099511627776) (hly : ys.length ≤ 1099511627776) :
    Calls Tryd.prog 22 #[.agg #[.int .i64 k, .slice p xs.length c], .agg #[.int .i64 l, .slice q ys.length d]] w fun e w' => e = .returned (.bool (decide (k = l ∧ xs = ys))) ∧ KeepBut (fun _ => False) w w' := by
  have HX := Lib.hid hx; have HY := Lib.hid hy
  clear hx hy
  by_cases h : k = l
  · have hb : (k == l) = true := by simpa using h
    have hfin := Lib.hid (show decide (k = l ∧ xs = ys) = decide (xs = ys) by simp [h])
    clear h
    have hcon : ∀ W, KeepBut (fun _ => False) w W → Calls Tryd.prog 43 #[.slice p xs.length c, .slice q ys.length d] W fun e w' => e = .returned (.bool (decide (xs = ys))) ∧ KeepBut (fun _ => False) W w' := fun W hW =>
      kitSame_any W p q c d xs ys (HX.out.keep hW fun _ _ e => e) (HY.out.keep hW fun _ _ e => e) hlx hly
    have HC := Lib.hid hcon
    clear hcon
    generalize decide (xs = ys) = r at *
    go_enter Tryd.func22, Tryd.ntmps22
    go_wp2_with (go_at_call 43; refine (HC.out _ ((KeepBut.alloc _ _ _).trans (KeepBut.alloc _ _ _))).mono ?_; rintro e w' ⟨rfl, hd⟩)
    go_ret
    exact ⟨ret_bool hfin.out.symm, ((KeepBut.alloc _ _ _).trans (KeepBut.alloc _ _ _)).trans hd⟩
  · have hb : (k == l) = false := by simpa using h
    have hfin := Lib.hid (show decide (k = l ∧ xs = ys) = false by simp [h])
    clear h
    go_enter Tryd.func22, Tryd.ntmps22
    go_wp2_with fail
    go_ret
    exact ⟨ret_bool hfin.out.symm, (KeepBut.alloc _ _ _).trans (KeepBut.alloc _ _ _)⟩

end Go.Proofs.YtoolpifkfgileaaDoor
