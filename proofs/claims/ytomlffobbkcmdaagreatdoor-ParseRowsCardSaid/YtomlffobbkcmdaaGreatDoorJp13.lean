/- Joined texts of this work: PbE, Pick16, PrG, PrH, PrI, BldA, BldT, Tel, Gx. -/
import Derived.Test.YtomlffobbkcmdaaGreatDoorJp12
import Derived.Test.YtomlffobbkcmdaaGreatDoorJp5
import Derived.Test.YtomlffobbkcmdaaGreatDoorJp3
import Derived.Test.YtomlffobbkcmdaaGreatDoorJp6
import Derived.Lib.FrozenHead2
import Derived.WalkKit
import Derived.Test.YtomlffobbkcmdaaGreatDoorJp4
import Derived.Lib.Builder
import Derived.Lib.OthersKept
import Derived.Lib.UnsafeStr
import Derived.Laws.Externs
import Derived.OwnWalk
import Derived.Test.YtomlffobbkcmdaaGreatDoorJp11
import Derived.Test.YtomlffobbkcmdaaGreatDoorJp9

/-
  append of one thing, of any size, to a row of one's own. No program in sight.
-/
namespace Go.Proofs.YtomlffobbkcmdaaGreatDoor
open Go Go.RowKit Own

/-- append of one thing of several cells to a row of one's own, at the operation -/
theorem wpList_appendV {P : Program} {w : World} {ops : Array Oper} {rest : List Oper} {o : Oper} {a : Act} {Q : Exit → Act → World → Prop} (hgd : o.guard = none) (s x : Operand) (t : TypeId)
    (ho : o.op = .call { callee := .builtin .append, args := #[s, x], argTypes := #[t, t] }) (E : TypeId) (z : Value) (size bytes : Nat) (ht : P.underlying t = some (.slice E))
    (hinfo : (P.info? E).map (fun i => (i.zero, i.size, i.bytes)) = some (some z, size, bytes)) (hzs : z.cells.size = size) (hsz : 0 < size)
    (v : Value) (n : Nat) (xs : List Value) (hown : w.ownsRow 0 E size v n xs) (vb c : Nat) (news : List Value) (hl : news.length = size) (hv : w.heap[vb]? = some (.cells news.toArray E (0, 0))) (h1 : ∀ u ∈ news, u.oneCell' = true)
    (h63 : n + 1 ≤ maxLen) (hbytes : (n + 1) * bytes ≤ 140737488355328) (hs : a.eval s = v) (hx : a.eval x = .slice (some ⟨vb, 0, none⟩) 1 c)
    (h : ∀ v' w', w'.ownsRow 0 E size v' (n + 1) (xs ++ news) → KeepBut (fun b => v.ownBlock = some b) w w' → (v'.ownBlock = v.ownBlock ∨ v'.ownBlock = some w.heap.size) → wpList P ops Q rest (a.put o.dst v') w') :
    wpList P ops Q (o :: rest) a w := by
  obtain ⟨i0, hi, hz0, hz1, hz2⟩ : ∃ i0, P.info? E = some i0 ∧ i0.zero = some z ∧ i0.size = size ∧ i0.bytes = bytes := by
    cases hi : P.info? E with
    | none => rw [hi] at hinfo; cases hinfo
    | some i0 =>
      rw [hi] at hinfo
      simp only [Option.map_some, Option.some.injEq, Prod.mk.injEq] at hinfo
      exact ⟨i0, rfl, hinfo.1, hinfo.2.1, hinfo.2.2⟩
  obtain ⟨v', w', e1, e2, e3, e4, e5⟩ := run_append_own_at (P := P) w 0 t o.type E i0 z size bytes ht hi hz0 hz1 hz2 hzs hsz v n xs hown ⟨vb, 0, none⟩ 1 c news (by rw [hl, Nat.one_mul])
    (fun j u hj => by
      rw [add_off]
      exact blk_cell hv (by simpa using hj)) h1 h63 hbytes (Nat.zero_le _)
  refine wpList_plain hgd fun K hK => ?_
  unfold Oper.wp execOp
  simp only [ho, resolve, invoke, builtin, Sem.run_bind, Sem.run_pure, Result.andThen_ok, List.map_toArray, List.map_cons, List.map_nil, hs, hx, e1]
  exact hK _ _ (h v' w' e2 (KeepBut.grown e3 fun k hk => hk) e5)

end Go.Proofs.YtomlffobbkcmdaaGreatDoor

/-
  fencepostkit.Pick.
-/
namespace Go.Proofs.YtomlffobbkcmdaaGreatDoor
open Go Go.RowKit Own

/-- fencepostkit.Pick -/
def pick (k n : Int) : Int := if k.tmod n < 0 then k.tmod n + n else k.tmod n
theorem pick_range {k n : Int} (hn : 0 < n) : 0 ≤ pick k n ∧ pick k n < n := by
  have h1 := Int.tmod_lt_of_pos k hn
  have h2 := Int.lt_tmod_of_pos k hn
  unfold pick
  split <;> omega

set_option maxHeartbeats 1000000 in
theorem pick_any (w : World) (k n : Int) (hn : 0 < n) (hn2 : n ≤ 9223372036854775807) :
    Calls Tryz.prog 12 #[.int .i64 k, .int .i64 n] w fun e w' => e = .returned (.int .i64 (pick k n)) ∧ w' = w := by
  have h1 := Int.tmod_lt_of_pos k hn
  have h2 := Int.lt_tmod_of_pos k hn
  have hW : IntKind.i64.wrap (k.tmod n) = k.tmod n := IntWalk.i64_in _ (by omega)
  have hn0 : ¬ n = 0 := by omega
  have hn1 : ¬ n < 1 := by omega
  by_cases h : k.tmod n < 0
  · have hW2 : IntKind.i64.wrap (k.tmod n + n) = k.tmod n + n := IntWalk.i64_in _ (by omega)
    have HF := Lib.hid (show pick k n = k.tmod n + n from if_pos h)
    go_enter Tryz.func12, Tryz.ntmps12
    go_wp2_with fail
    go_ret
    exact ⟨ret_int HF.out.symm, rfl⟩
  · have HF := Lib.hid (show pick k n = k.tmod n from if_neg h)
    go_enter Tryz.func12, Tryz.ntmps12
    go_wp2_with fail
    go_ret
    exact ⟨ret_int HF.out.symm, rfl⟩

end Go.Proofs.YtomlffobbkcmdaaGreatDoor

/-
  ParseRows: what lies in memory when the loop has passed.
-/
namespace Go.Proofs.YtomlffobbkcmdaaGreatDoor
open Go Go.RowKit Own

abbrev TSt : TypeId := 9

def nn3 (n0 n1 n2 j : Nat) : Nat := if j = 0 then n0 else if j = 1 then n1 else n2
def sg3 (s : Int) (j : Nat) : Nat := (pick (s / 2 ^ (2 * j)) 4).toNat
/-- what lies in memory when the loop has passed i times -/
structure Got (w0 wr : World) (v10 v11 : Value) (sg nn : Nat → Nat) (i : Nat) (cs : List (List Value)) : Prop where
  r10 : wr.ownsRow 0 TEx 7 v10 i cs.flatten
  r11 : wr.ownsRow 0 TSt 1 v11 i ((List.range i).map fun j => .string ⟨(wordR (sg j) (nn j)).toArray⟩)
  len : cs.length = i
  ex : ∀ j (h : j < cs.length), ExAt wr (fun b => w0.heap.size ≤ b ∧ v10.ownBlock ≠ some b ∧ v11.ownBlock ≠ some b) cs[j] (opdX (sg j) (nn j) 0 0 0 0)
  b10 : ∀ b, v10.ownBlock = some b → w0.heap.size ≤ b ∧ v11.ownBlock ≠ some b
  b11 : ∀ b, v11.ownBlock = some b → w0.heap.size ≤ b
  keep : KeepBut (fun _ => False) w0 wr


theorem row_keep {E : Nat → Prop} {w w' : World} {base size n : Nat} {e : TypeId} {v : Value} {xs : List Value} (h : w.ownsRow base e size v n xs) (k : KeepBut E w w') (hE : ∀ b, v.ownBlock = some b → ¬ E b) : w'.ownsRow base e size v n xs := by
  refine ⟨h.1, ?_⟩
  rcases h.2 with h | ⟨g, cap, cur, h1, h2, h3, h4⟩
  · exact .inl h
  · exact .inr ⟨g, cap, cur, h1, h2, k.blkE h3 (hE g (by rw [h1]; rfl)), h4⟩
theorem row_lt {w : World} {base size n b : Nat} {e : TypeId} {v : Value} {xs : List Value} (h : w.ownsRow base e size v n xs) (hb : v.ownBlock = some b) : b < w.heap.size := by
  rcases h.2 with ⟨rfl, -⟩ | ⟨g, cap, cur, rfl, h2, h3, h4⟩
  · cases hb
  · simp only [Value.ownBlock, Option.some.injEq] at hb
    subst hb
    exact (Array.getElem?_eq_some_iff.1 h3).1

theorem Got.step {w0 wr Wc W8 w8 W9 w9 : World} {v10 v11 v10' v11' : Value} {sg nn : Nat → Nat} {i : Nat} {cs : List (List Value)} {vs : List Value} (hg : Got w0 wr v10 v11 sg nn i cs) (hk : KeepBut (fun _ => False) wr Wc)
    (hx : ExAt Wc (fun b => wr.heap.size ≤ b) vs (opdX (sg i) (nn i) 0 0 0 0)) (k8 : KeepBut (fun _ => False) Wc W8) (r10 : w8.ownsRow 0 TEx 7 v10' (i + 1) (cs.flatten ++ vs)) (k8' : KeepBut (fun b => v10.ownBlock = some b) W8 w8) (o10 : v10'.ownBlock = v10.ownBlock ∨ v10'.ownBlock = some W8.heap.size)
    (k9 : KeepBut (fun _ => False) w8 W9) (r11 : w9.ownsRow 0 TSt 1 v11' (i + 1) (((List.range i).map fun j => .string ⟨(wordR (sg j) (nn j)).toArray⟩) ++ [.string ⟨(wordR (sg i) (nn i)).toArray⟩])) (k9' : KeepBut (fun b => v11.ownBlock = some b) W9 w9) (o11 : v11'.ownBlock = v11.ownBlock ∨ v11'.ownBlock = some W9.heap.size) :
    Got w0 w9 v10' v11' sg nn (i + 1) (cs ++ [vs]) := by
  have z0 := hg.keep.size
  have z1 := hk.size
  have z2 := k8.size
  have z3 := k8'.size
  have z4 := k9.size
  have z5 := k9'.size
  have l10 : ∀ b, v10.ownBlock = some b → b < wr.heap.size := fun b => row_lt hg.r10
  have l11 : ∀ b, v11.ownBlock = some b → b < wr.heap.size := fun b => row_lt hg.r11
  have l10' : ∀ b, v10'.ownBlock = some b → v10.ownBlock = some b ∨ W8.heap.size = b := fun b h => o10.imp (fun e => by rw [← e]; exact h) fun e => by rw [e] at h; exact Option.some.inj h
  have l11' : ∀ b, v11'.ownBlock = some b → v11.ownBlock = some b ∨ W9.heap.size = b := fun b h => o11.imp (fun e => by rw [← e]; exact h) fun e => by rw [e] at h; exact Option.some.inj h
  have l10w : ∀ b, v10'.ownBlock = some b → b < w8.heap.size := fun b => row_lt r10
  -- from wr on, but for the two rows
  have kall : KeepBut (fun b => v10.ownBlock = some b ∨ v11.ownBlock = some b) wr w9 :=
    ((((hk.trans k8).mono fun _ h => h.elim).trans (k8'.mono fun _ h => .inl h)).trans (k9.mono fun _ h => h.elim)).trans (k9'.mono fun _ h => .inr h)
  have kc : KeepBut (fun b => v10.ownBlock = some b ∨ v11.ownBlock = some b) Wc w9 :=
    (((k8.mono fun _ h => h.elim).trans (k8'.mono fun _ h => .inl h)).trans (k9.mono fun _ h => h.elim)).trans (k9'.mono fun _ h => .inr h)
  refine ⟨?_, ?_, by rw [List.length_append, hg.len]; rfl, ?_, ?_, ?_, ?_⟩
  · rw [List.flatten_append, List.flatten_singleton]
    refine row_keep (row_keep r10 k9 fun _ _ h => h) k9' fun b h1 h2 => ?_
    rcases l10' b h1 with h | h
    · exact (hg.b10 b h).2 h2
    · have := l11 b h2; omega
  · rw [List.range_succ, List.map_append]
    exact r11
  · intro j hj
    by_cases hji : j < cs.length
    · rw [List.getElem_append_left hji]
      refine (hg.ex j hji).inHeap.keepS fun b o v hb hc => ?_
      obtain ⟨⟨a1, a2, a3⟩, a4⟩ := hb
      refine ⟨kall.cell hc fun h => h.elim a2 a3, a1, fun h => ?_, fun h => ?_⟩
      · rcases l10' b h with h | h
        · exact a2 h
        · omega
      · rcases l11' b h with h | h
        · exact a3 h
        · omega
    · have hjl : j = cs.length := by rw [List.length_append] at hj; simp at hj; omega
      subst hjl
      rw [List.getElem_append_right (Nat.le_refl _)]
      simp only [Nat.sub_self, List.getElem_cons_zero]
      have hlen := hg.len
      rw [hlen]
      refine hx.inHeap.keepS fun b o v hb hc => ?_
      obtain ⟨a1, a4⟩ := hb
      refine ⟨kc.cell hc fun h => ?_, by omega, fun h => ?_, fun h => ?_⟩
      · rcases h with h | h
        · have := l10 b h; omega
        · have := l11 b h; omega
      · rcases l10' b h with h | h
        · have := l10 b h; omega
        · omega
      · rcases l11' b h with h | h
        · have := l11 b h; omega
        · omega
  · intro b h
    have hw := l10w b h
    refine ⟨?_, fun h2 => ?_⟩
    · rcases l10' b h with h | h
      · exact (hg.b10 b h).1
      · omega
    · rcases l11' b h2 with h2 | h2
      · rcases l10' b h with h | h
        · exact (hg.b10 b h).2 h2
        · have := l11 b h2; omega
      · omega
  · intro b h
    rcases l11' b h with h | h
    · exact hg.b11 b h
    · omega
  · exact hg.keep.newE kall fun b h => h.elim (fun h => (hg.b10 b h).1) fun h => hg.b11 b h

end Go.Proofs.YtomlffobbkcmdaaGreatDoor

/-
  ParseRows: the three operands and their texts, once the loop is through.
-/
namespace Go.Proofs.YtomlffobbkcmdaaGreatDoor
open Go Go.RowKit Own

theorem ex_len {w : World} {S : Nat → Prop} {vs : List Value} {x : Ex} (h : ExAt w S vs x) : vs.length = 7 := by
  obtain ⟨_, _, _, _, _, _, _, _, _, rfl⟩ := ex_form h
  rfl
theorem row_some {w : World} {base size n : Nat} {e : TypeId} {v : Value} {xs : List Value} (h : w.ownsRow base e size v n xs) (hn : 0 < n) :
    ∃ g cap, v = .slice (some ⟨g, 0, none⟩) n cap ∧ n ≤ cap ∧ cap ≤ maxLen ∧ g < w.heap.size ∧ ∀ j u, xs[j]? = some u → w.cell? ⟨g, j, none⟩ = some u ∧ w.frozen? ⟨g, j, none⟩ = false := by
  rcases h.2 with ⟨-, h0⟩ | ⟨g, cap, cur, h1, h2, h3, h4, h5, h6, h7⟩
  · omega
  · refine ⟨g, cap, h1, h4, h5, (Array.getElem?_eq_some_iff.1 h3).1, fun j u hj => ?_⟩
    have hc : cur[j]? = some u := by
      rw [← h7, List.getElem?_take] at hj
      split at hj
      · simpa using hj
      · cases hj
    exact ⟨blk_cell h3 hc, by simp [World.frozen?, h3]⟩

theorem Got.three {w0 wr : World} {v10 v11 : Value} {sg nn : Nat → Nat} {cs : List (List Value)} (h : Got w0 wr v10 v11 sg nn 3 cs) :
    ∃ G cG H cH x0 x1 x2, v10 = .slice (some ⟨G, 0, none⟩) 3 cG ∧ v11 = .slice (some ⟨H, 0, none⟩) 3 cH ∧ (w0.heap.size ≤ G ∧ w0.heap.size ≤ H ∧ G < wr.heap.size ∧ H < wr.heap.size) ∧ (3 ≤ cG ∧ 3 ≤ cH) ∧
      (∀ j v, x0[j]? = some v → wr.cell? ⟨G, j, none⟩ = some v) ∧ (∀ j v, x1[j]? = some v → wr.cell? ⟨G, 7 + j, none⟩ = some v) ∧ (∀ j v, x2[j]? = some v → wr.cell? ⟨G, 14 + j, none⟩ = some v) ∧
      ExAt wr (fun b => w0.heap.size ≤ b) x0 (opdX (sg 0) (nn 0) 0 0 0 0) ∧ ExAt wr (fun b => w0.heap.size ≤ b) x1 (opdX (sg 1) (nn 1) 0 0 0 0) ∧ ExAt wr (fun b => w0.heap.size ≤ b) x2 (opdX (sg 2) (nn 2) 0 0 0 0) ∧
      wr.cell? ⟨H, 0, none⟩ = some (.string ⟨(wordR (sg 0) (nn 0)).toArray⟩) ∧ wr.cell? ⟨H, 1, none⟩ = some (.string ⟨(wordR (sg 1) (nn 1)).toArray⟩) ∧ wr.cell? ⟨H, 2, none⟩ = some (.string ⟨(wordR (sg 2) (nn 2)).toArray⟩) := by
  obtain ⟨x0, x1, x2, rfl⟩ : ∃ a b c, cs = [a, b, c] := by
    match cs, h.len with
    | [a, b, c], _ => exact ⟨a, b, c, rfl⟩
  obtain ⟨G, cG, rfl, g1, -, g3, g4⟩ := row_some h.r10 (by decide)
  obtain ⟨H, cH, rfl, q1, -, q3, q4⟩ := row_some h.r11 (by decide)
  have e0 := h.ex 0 (by simp); have e1 := h.ex 1 (by simp); have e2 := h.ex 2 (by simp)
  simp only [List.getElem_cons_zero, List.getElem_cons_succ] at e0 e1 e2
  have n0 := ex_len e0; have n1 := ex_len e1; have n2 := ex_len e2
  have hf : [x0, x1, x2].flatten = x0 ++ (x1 ++ x2) := by simp
  rw [hf] at g4
  refine ⟨G, cG, H, cH, x0, x1, x2, rfl, rfl, ⟨(h.b10 G rfl).1, h.b11 H rfl, g3, q3⟩, ⟨g1, q1⟩, fun j v hj => ?_, fun j v hj => ?_, fun j v hj => ?_, e0.mono fun _ hb => hb.1, e1.mono fun _ hb => hb.1, e2.mono fun _ hb => hb.1, (q4 0 _ rfl).1, (q4 1 _ rfl).1, (q4 2 _ rfl).1⟩
  · have hlt : j < x0.length := (List.getElem?_eq_some_iff.1 hj).1
    exact (g4 j v (by rw [List.getElem?_append_left hlt]; exact hj)).1
  · have hlt : j < x1.length := (List.getElem?_eq_some_iff.1 hj).1
    exact (g4 (7 + j) v (by rw [List.getElem?_append_right (by omega), n0, Nat.add_sub_cancel_left, List.getElem?_append_left hlt]; exact hj)).1
  · exact (g4 (14 + j) v (by rw [List.getElem?_append_right (by omega), n0, List.getElem?_append_right (by omega), n1, show 14 + j - 7 - 7 = j by omega]; exact hj)).1

end Go.Proofs.YtomlffobbkcmdaaGreatDoor

/-
  ParseRows: the call of parse.Expr, within a region that draws its order.
-/
namespace Go.Proofs.YtomlffobbkcmdaaGreatDoor
open Go Go.RowKit Own

/-- what Expr's answer promises: an expression that says the same as T, in blocks from b on, below d -/
def sEx (T : Ex) : Loud := { ok := fun _ g => ∃ vs : List Value, g.v = .agg vs.toArray ∧ vs.length = 7 ∧ vs.toArray.all (·.oneCell') = true, val := fun _ g => .tuple #[g.v, .agg #[.int .i64 0, .int .i64 0, .int .i64 0]], fp := fun _ g b => g.b ≤ b ∧ b < g.d, post := fun _ g w => ∃ vs x, g.v = .agg vs.toArray ∧ ExAt w (fun b => g.b ≤ b ∧ b < g.d) vs x ∧ sameE x T = true }

theorem loud_expr {w0 : World} {M : Nat → Prop} {o : Oper} {a : Act} {av ea : List Nat} {F : Nat → World → Prop} {Fp : Nat → Nat → Prop} {f : FuncId} {args : Array Value} {T : Ex}
    (hcall : ∀ w, TabS w → Calls Tryz.prog f args w fun e w' => ∃ vs x, e = .returned (.tuple #[.agg vs.toArray, .agg #[.int .i64 0, .int .i64 0, .int .i64 0]]) ∧ ExAt w' (fun b => w.heap.size ≤ b) vs x ∧ KeepBut (fun _ => False) w w' ∧ sameE x T = true)
    (hrun : ∀ w, (execOp a.eval o).run Tryz.prog w = .ok (.enter f args) w) (hT : ∀ w, KeepBut M w0 w → TabS w) : LoudOk Tryz.prog w0 M o a (sEx T) av ea F Fp := by
  refine loud_call f args hrun ⟨{ v := .agg (List.replicate 7 (.int .i64 0)).toArray }, List.replicate 7 (.int .i64 0), rfl, rfl, by simp [Value.oneCell']⟩ (fun g _ w w' _ _ _ h k => ?_) fun w hk _ _ => (hcall w (hT w hk)).mono ?_
  · obtain ⟨vs, x, h1, h2, h3⟩ := k
    refine ⟨vs, x, h1, h2.keepS fun b o v hb hc => ⟨?_, hb⟩, h3⟩
    have := h b hb
    simpa [World.cell?, this] using hc
  · rintro e w' ⟨vs, x, rfl, hex, hk, hs⟩
    have hl := ex_len hex
    have hv : vs.toArray.all (·.oneCell') = true := by
      obtain ⟨_, _, _, _, _, _, _, _, _, rfl⟩ := ex_form hex
      simp [Value.oneCell']
    exact ⟨{ v := .agg vs.toArray, b := w.heap.size, d := w'.heap.size }, ⟨vs, rfl, hl, hv⟩, rfl, hk.mono fun _ h => h.elim, fun b hb => ⟨.inl hb.1, hb.2⟩, vs, x, rfl, hex.inHeap, hs⟩

def sPutA (T : TypeId) : Loud := { val := fun _ _ => undef, fp := fun args _ k => args.getD 0 undef = .pointer (some ⟨k, 0, none⟩), post := fun args _ w => ∀ b vs, args.getD 0 undef = .pointer (some ⟨b, 0, none⟩) → args.getD 1 undef = .agg vs → w.heap[b]? = some (.cells vs T (0, 0)) }

theorem put_args0 {o : Oper} {a : Act} {ty : TypeId} {x y : Operand} {v : Value} (ho : o.op = .store ty x y) (hy : a.eval x = v) : (argsOf o a).getD 0 undef = v := by simp [argsOf, ho, Op.operands, hy]

theorem loud_putA {P : Program} {w0 : World} {M : Nat → Prop} {o : Oper} {a : Act} {av ea : List Nat} {F : Nat → World → Prop} {Fp : Nat → Nat → Prop} (b : Nat) (T ty : TypeId) (vs cs0 : Array Value) (x y : Operand) (ho : o.op = .store ty x y) (hx : a.eval x = .pointer (some ⟨b, 0, none⟩)) (hy : a.eval y = .agg vs)
    (j : Nat) (hja : j ∈ av) (hje : j ∈ ea) (hF : ∀ w, F j w → w.heap[b]? = some (.cells cs0 T (0, 0))) (hfp : Fp j b) (hs : cs0.size = vs.size) (hi : (P.info? ty).map (·.size) = some vs.size) (h1 : vs.all (·.oneCell') = true) :
    LoudOk P w0 M o a (sPutA T) av ea F Fp := by
  have harg : (argsOf o a).getD 1 undef = .agg vs := put_args ho hy
  have harg0 : (argsOf o a).getD 0 undef = .pointer (some ⟨b, 0, none⟩) := put_args0 ho hx
  refine loud_run ⟨default, trivial⟩ (fun g _ w w' _ _ _ h k b' vs' hb hv => (h b' hb).trans (k b' vs' hb hv)) fun w _ hav _ => ?_
  obtain ⟨hj, hb⟩ := hav j hja
  obtain ⟨w', h2, h3, h4⟩ := yields_put (P := P) (o := o) (ρ := a.eval) (w := w) x y ho hx hy (hF w hj) hs hi h1
  refine ⟨w', default, trivial, h2, h3.mono fun k hk => ⟨j, hje, by rw [hk]; exact hfp⟩, fun k hk => ?_, fun b' vs' hb' hv => by rw [harg] at hv; cases hv; rw [harg0] at hb'; cases hb'; exact h4⟩
  have hkb : k = b := by
    have : (argsOf o a).getD 0 undef = .pointer (some ⟨k, 0, none⟩) := hk
    rw [harg0] at this; cases this; rfl
  subst hkb
  exact ⟨.inr ⟨j, hje, hfp⟩, Nat.lt_of_lt_of_le (hb k hfp).1 h3.size⟩

/-- a new slice of two, of the cells of the operation's two values -/
def sPair2 (E : TypeId) : Loud := { val := fun _ g => .slice (some ⟨g.b, 0, none⟩) 2 2, fp := fun _ g k => k = g.b, post := fun args g w => ∀ v0 v1 : Array Value, args.getD 0 undef = .agg v0 → args.getD 1 undef = .agg v1 → w.heap[g.b]? = some (.cells (v0 ++ v1) E (0, 0)) }

theorem pair_args {o : Oper} {a : Act} {E : TypeId} {n : Nat} {x y : Operand} {v0 v1 : Value} (ho : o.op = .buildSlice E n #[(0, x), (1, y)]) (hx : a.eval x = v0) (hy : a.eval y = v1) : (argsOf o a).getD 0 undef = v0 ∧ (argsOf o a).getD 1 undef = v1 := by simp [argsOf, ho, Op.operands, hx, hy]

theorem pair_arg0 {o : Oper} {a : Act} {E : TypeId} {n : Nat} {x y : Operand} {v0 : Value} (ho : o.op = .buildSlice E n #[(0, x), (1, y)]) (hx : a.eval x = v0) : (argsOf o a).getD 0 undef = v0 := (pair_args ho hx rfl).1
theorem pair_arg1 {o : Oper} {a : Act} {E : TypeId} {n : Nat} {x y : Operand} {v1 : Value} (ho : o.op = .buildSlice E n #[(0, x), (1, y)]) (hy : a.eval y = v1) : (argsOf o a).getD 1 undef = v1 := (pair_args ho rfl hy).2

theorem loud_pair2 {P : Program} {w0 : World} {M : Nat → Prop} {o : Oper} {a : Act} {av ea : List Nat} {F : Nat → World → Prop} {Fp : Nat → Nat → Prop} (E : TypeId) (v0 v1 : Array Value) (x y : Operand) (t : TypeId) (ho : o.op = .buildSlice t 2 #[(0, x), (1, y)]) (hx : a.eval x = .agg v0) (hy : a.eval y = .agg v1)
    (hrun : ∀ w, (execOp a.eval o).run P w = .ok (.value (.slice (some ⟨w.heap.size, 0, none⟩) 2 2)) (w.alloc (.cells (v0 ++ v1) E))) : LoudOk P w0 M o a (sPair2 E) av ea F Fp := by
  obtain ⟨h0, h1⟩ := pair_args ho hx hy
  refine loud_run ⟨default, trivial⟩ (fun g _ w w' _ _ _ h k u0 u1 e0 e1 => (h g.b rfl).trans (k u0 u1 e0 e1)) fun w _ _ _ => ?_
  refine ⟨w.alloc (.cells (v0 ++ v1) E), { b := w.heap.size }, trivial, .inl (hrun w), KeepBut.alloc _ _ _, fun b hb => ?_, fun u0 u1 e0 e1 => ?_⟩
  · have hb : b = w.heap.size := hb
    subst hb
    exact ⟨.inl (Nat.le_refl _), by simp⟩
  · rw [h0] at e0; rw [h1] at e1
    cases e0; cases e1
    exact heap_alloc_new w _

theorem pair_kids {w : World} {S : Nat → Prop} {b : Nat} {v0 v1 : List Value} {T : TypeId} {x y : Ex} (h : w.heap[b]? = some (.cells (v0.toArray ++ v1.toArray) T (0, 0))) (hS : S b) (h0 : ExAt w S v0 x) (h1 : ExAt w S v1 y) : KidsAt w S (some ⟨b, 0, none⟩) 0 [x, y] := by
  have n0 := ex_len h0
  have n1 := ex_len h1
  unfold KidsAt
  refine ⟨⟨b, 0, v0, rfl, hS, fun j v hj => ?_, h0⟩, ?_⟩
  · have hlt : j < v0.length := (List.getElem?_eq_some_iff.1 hj).1
    exact blk_cell h (by simp only [List.append_toArray, List.getElem?_toArray, Nat.zero_mul, Nat.zero_add]; rw [List.getElem?_append_left hlt]; exact hj)
  · unfold KidsAt
    refine ⟨⟨b, 0, v1, rfl, hS, fun j v hj => ?_, h1⟩, ?_⟩
    · exact blk_cell h (by simp only [List.append_toArray, List.getElem?_toArray, Nat.zero_add, Nat.one_mul]; rw [List.getElem?_append_right (by omega), n0, Nat.add_sub_cancel_left]; exact hj)
    · unfold KidsAt; trivial

theorem bin_at {w : World} {S : Nat → Prop} {b c : Nat} {op : Nat} {z : Int} {x y : Ex} (hz : z = op) (h : KidsAt w S (some ⟨b, 0, none⟩) 0 [x, y]) : ExAt w S [.int .i64 5, .int .i64 z, .int .i64 0, .string ⟨#[]⟩, .slice (some ⟨b, 0, none⟩) 2 c, .int .i64 0, .int .i64 0] (binX op 0 0 x y) := by
  subst hz
  unfold binX ExAt
  exact ⟨_, _, rfl, h⟩

mutual
theorem sameE_size : ∀ {x y : Ex}, sameE x y = true → exSize x = exSize y
  | .mk k o n nm l c ks, .mk k' o' n' nm' l' c' ks', h => by
    unfold sameE at h
    simp only [Bool.and_eq_true] at h
    unfold exSize
    rw [sameL_size h.2.2.2.2]
theorem sameL_size : ∀ {a b : List Ex}, sameL a b = true → sizeL a = sizeL b
  | [], [], _ => rfl
  | x :: a, y :: b, h => by
    unfold sameL at h
    simp only [Bool.and_eq_true] at h
    unfold sizeL
    rw [sameE_size h.1, sameL_size h.2]
  | [], _ :: _, h => by unfold sameL at h; cases h
  | _ :: _, [], h => by unfold sameL at h; cases h
end
theorem law_size (a b : Nat) (s0 s1 s2 n0 n1 n2 : Nat) : exSize (lawX a b (opdX s0 n0 0 0 0 0) (opdX s1 n1 0 0 0 0) (opdX s2 n2 0 0 0 0)) ≤ 8 := by
  have h0 := (opd_size s0 n0 0 0 0 0).1
  have h1 := (opd_size s1 n1 0 0 0 0).1
  have h2 := (opd_size s2 n2 0 0 0 0).1
  unfold lawX
  split
  · rw [(bin_size _ _ _ _ _).1, (bin_size _ _ _ _ _).1]; omega
  · rw [(bin_size _ _ _ _ _).1, (bin_size _ _ _ _ _).1]; omega

end Go.Proofs.YtomlffobbkcmdaaGreatDoor

/-
  What append leaves of a row that the call owns, and where the new row lies: in the old one's block, or in a new one. No program in sight.
-/
namespace Go.Proofs.YtomlffobbkcmdaaGreatDoor
open Go Go.RowKit

section
variable {P : Program} (w : World)
theorem own_string_at (base : Nat) (t u ty e : TypeId) (i : TypeInfo) (ht : P.underlying t = some (.slice e)) (hu : P.underlying u = some .string) (hi : P.info? e = some i) (hz : i.zero = some (.int .u8 0)) (hsize : i.size = 1) (hby : i.bytes = 1)
    (v : Value) (n : Nat) (xs : List Value) (hown : w.ownsRowF base e 1 v n xs) (s : ByteArray) (h63 : n + s.size ≤ maxLen) (hbytes : n + s.size ≤ 140737488355328) (hbase : base ≤ w.heap.size) :
    ∃ v' w', (Builtin.append_ #[t, u] ty #[v, .string s]).run P w = .ok v' w' ∧ w'.ownsRowF base e 1 v' (n + s.size) (xs ++ Lib.strCells s) ∧ w.grownBy w' v.ownBlock ∧ ∀ k, v'.ownBlock = some k → v.ownBlock = some k ∨ w.heap.size ≤ k := by
  obtain ⟨v', w', hr, h2, h3, -⟩ := Lib.run_append_own_stringF (P := P) w base t u ty e i ht hu hi hz hsize hby v n xs hown s h63 hbytes hbase
  refine ⟨v', w', hr, h2, h3, fun k hk => ?_⟩
  rcases hown.2 with ⟨rfl, rfl⟩ | ⟨g, cap, cur, fz, rfl, hbg, hg, hfz, hnc, hcm, hcs, htake⟩
  · obtain ⟨v2, w2, hr2, h22, -⟩ := Lib.run_append_own_stringF (P := P) w w.heap.size t u ty e i ht hu hi hz hsize hby (.slice none 0 0) 0 xs ⟨hown.1, .inl ⟨rfl, rfl⟩⟩ s h63 hbytes (Nat.le_refl _)
    rw [hr] at hr2
    cases hr2
    rcases h22.2 with ⟨rfl, -⟩ | ⟨g, cap, cur, fz, rfl, hbg, -⟩
    · cases hk
    · cases hk; exact .inr hbg
  · have hxl : xs.length = n := by simpa using hown.1
    by_cases hroom : n + s.size ≤ cap
    · have hr2 := Lib.run_append_room_stringF (P := P) w t u ty e i ht hu hi hsize g n cap cur fz hg (by simpa using hfz) s hroom (by omega)
      rw [hr] at hr2
      cases hr2
      exact .inl hk
    · have hr2 := Lib.run_append_grow_string (P := P) w t u ty e i (.int .u8 0) ht hu hi hz ⟨g, 0, none⟩ n cap xs (by rw [hsize]; simpa using hxl) (hown.cells (g := g) rfl) s (by omega) (by unfold maxLen at h63; omega) (by rw [hby]; exact growslice_fits (by omega) (by omega))
      rw [hr] at hr2
      cases hr2
      cases hk
      exact .inr (Nat.le_refl _)

theorem own_slice_at (base : Nat) (t ty e : TypeId) (i : TypeInfo) (z : Value) (size bytes : Nat) (ht : P.underlying t = some (.slice e)) (hi : P.info? e = some i) (hz : i.zero = some z)
    (hsize : i.size = size) (hby : i.bytes = bytes) (hzs : z.cells.size = size) (hsz : 0 < size)
    (v : Value) (n : Nat) (xs : List Value) (hown : w.ownsRowF base e size v n xs)
    (a : Addr) (m c : Nat) (news : List Value) (hl : news.length = m * size) (hnews : ∀ j u, news[j]? = some u → w.cell? (a.add j) = some u) (h1 : ∀ u ∈ news, u.oneCell' = true)
    (h63 : n + m ≤ maxLen) (hbytes : (n + m) * bytes ≤ 140737488355328) (hbase : base ≤ w.heap.size) :
    ∃ v' w', (Builtin.append_ #[t, t] ty #[v, .slice (some a) m c]).run P w = .ok v' w' ∧ w'.ownsRowF base e size v' (n + m) (xs ++ news) ∧ w.grownBy w' v.ownBlock ∧ ∀ k, v'.ownBlock = some k → v.ownBlock = some k ∨ w.heap.size ≤ k := by
  obtain ⟨v', w', hr, h2, h3, -⟩ := run_append_ownF (P := P) w base t ty e i z size bytes ht hi hz hsize hby hzs hsz v n xs hown a m c news hl hnews h1 h63 hbytes hbase
  refine ⟨v', w', hr, h2, h3, fun k hk => ?_⟩
  rcases hown.2 with ⟨rfl, rfl⟩ | ⟨g, cap, cur, fz, rfl, hbg, hg, hfz, hnc, hcm, hcs, htake⟩
  · obtain ⟨v2, w2, hr2, h22, -⟩ := run_append_ownF (P := P) w w.heap.size t ty e i z size bytes ht hi hz hsize hby hzs hsz (.slice none 0 0) 0 xs ⟨hown.1, .inl ⟨rfl, rfl⟩⟩ a m c news hl hnews h1 h63 hbytes (Nat.le_refl _)
    rw [hr] at hr2
    cases hr2
    rcases h22.2 with ⟨rfl, -⟩ | ⟨g, cap, cur, fz, rfl, hbg, -⟩
    · cases hk
    · cases hk; exact .inr hbg
  · subst hsize
    subst hby
    by_cases hroom : n + m ≤ cap
    · have hr2 := run_append_roomF (P := P) w t ty e i ht hi g n cap cur fz hg hfz a m c news hl hnews h1 hroom (by rw [hl, hcs, ← Nat.add_mul]; exact Nat.mul_le_mul_right _ hroom)
      rw [hr] at hr2
      cases hr2
      exact .inl hk
    · have hr2 := run_append_grow (P := P) w t ty e i z ht hi hz ⟨g, 0, none⟩ n cap xs hown.1 (hown.cells (g := g) rfl) a m c news hl hnews (by omega) (by unfold maxLen at h63; omega) (growslice_fits (by omega) hbytes)
      rw [hr] at hr2
      cases hr2
      cases hk
      exact .inr (Nat.le_refl _)
end

section
variable {P : Program} {w : World} {ops : Array Oper} {rest : List Oper} {o : Oper} {a : Act} {Q : Exit → Act → World → Prop}
theorem wpList_own_string_at (hgd : o.guard = none) (sl x : Operand) (t u : TypeId) (ho : o.op = .call { callee := .builtin .append, args := #[sl, x], argTypes := #[t, u] })
    (base : Nat) (e : TypeId) (i : TypeInfo) (ht : P.underlying t = some (.slice e)) (hu : P.underlying u = some .string) (hi : P.info? e = some i) (hz : i.zero = some (.int .u8 0)) (hsize : i.size = 1) (hby : i.bytes = 1)
    (v : Value) (n : Nat) (xs : List Value) (hs : a.eval sl = v) (hown : w.ownsRowF base e 1 v n xs) (s : ByteArray) (hx : a.eval x = .string s)
    (h63 : n + s.size ≤ maxLen) (hbytes : n + s.size ≤ 140737488355328) (hbase : base ≤ w.heap.size)
    (h : ∀ v' w', w'.ownsRowF base e 1 v' (n + s.size) (xs ++ Lib.strCells s) → w.grownBy w' v.ownBlock → (∀ k, v'.ownBlock = some k → v.ownBlock = some k ∨ w.heap.size ≤ k) → wpList P ops Q rest (a.put o.dst v') w') : wpList P ops Q (o :: rest) a w := by
  refine wpList_plain hgd fun K hK => ?_
  obtain ⟨v', w', hr, h2, h3, h4⟩ := own_string_at (P := P) w base t u o.type e i ht hu hi hz hsize hby v n xs hown s h63 hbytes hbase
  unfold Oper.wp execOp
  simp only [ho, resolve, invoke, builtin, Sem.run_bind, Sem.run_pure, Result.andThen_ok, List.map_toArray, List.map_cons, List.map_nil, hs, hx, hr]
  exact hK _ _ (h v' w' h2 h3 h4)
theorem wpList_own_slice_at (hgd : o.guard = none) (sl x : Operand) (t : TypeId) (ho : o.op = .call { callee := .builtin .append, args := #[sl, x], argTypes := #[t, t] })
    (base : Nat) (e : TypeId) (i : TypeInfo) (z : Value) (size bytes : Nat) (ht : P.underlying t = some (.slice e)) (hi : P.info? e = some i) (hz : i.zero = some z)
    (hsize : i.size = size) (hby : i.bytes = bytes) (hzs : z.cells.size = size) (hsz : 0 < size)
    (v : Value) (n : Nat) (xs : List Value) (hs : a.eval sl = v) (hown : w.ownsRowF base e size v n xs)
    (ad : Addr) (m c : Nat) (news : List Value) (hx : a.eval x = .slice (some ad) m c) (hl : news.length = m * size) (hnews : ∀ j u, news[j]? = some u → w.cell? (ad.add j) = some u) (h1 : ∀ u ∈ news, u.oneCell' = true)
    (h63 : n + m ≤ maxLen) (hbytes : (n + m) * bytes ≤ 140737488355328) (hbase : base ≤ w.heap.size)
    (h : ∀ v' w', w'.ownsRowF base e size v' (n + m) (xs ++ news) → w.grownBy w' v.ownBlock → (∀ k, v'.ownBlock = some k → v.ownBlock = some k ∨ w.heap.size ≤ k) → wpList P ops Q rest (a.put o.dst v') w') : wpList P ops Q (o :: rest) a w := by
  refine wpList_plain hgd fun K hK => ?_
  obtain ⟨v', w', hr, h2, h3, h4⟩ := own_slice_at (P := P) w base t o.type e i z size bytes ht hi hz hsize hby hzs hsz v n xs hown ad m c news hl hnews h1 h63 hbytes hbase
  unfold Oper.wp execOp
  simp only [ho, resolve, invoke, builtin, Sem.run_bind, Sem.run_pure, Result.andThen_ok, List.map_toArray, List.map_cons, List.map_nil, hs, hx, hr]
  exact hK _ _ (h v' w' h2 h3 h4)
end

end Go.Proofs.YtomlffobbkcmdaaGreatDoor

/-
  The writing methods of the Builder that a teller holds (copyCheck's branch for a copied builder is not reached).
-/
namespace Go.Proofs.YtomlffobbkcmdaaGreatDoor
open Go Go.RowKit Own

abbrev BT : TypeId := 65
/-- a teller: a struct around a Builder -/
abbrev TT : TypeId := 67
abbrev B8 : TypeId := 5
abbrev BP : TypeId := 62
abbrev BU : TypeId := 164
abbrev BL : TypeId := 63

/-- the block in which a Builder's bytes lie -/
def bufOf (w : World) (b : Nat) : Option Nat := (w.cell? ⟨b, 1, none⟩).bind Value.ownBlock
/-- what a Builder's methods leave as it was: all but it and its bytes -/
structure TelK (b : Nat) (w w' : World) : Prop where
  keep : KeepBut (fun k => k = b ∨ bufOf w b = some k) w w'
  buf : ∀ k, bufOf w' b = some k → bufOf w b = some k ∨ w.heap.size ≤ k
theorem TelK.refl (b : Nat) (w : World) : TelK b w w := ⟨KeepBut.refl _ _, fun _ h => .inl h⟩
theorem TelK.trans {b : Nat} {u v w : World} (h : TelK b u v) (k : TelK b v w) : TelK b u w :=
  ⟨⟨k.keep.os.trans h.keep.os, k.keep.tape.trans h.keep.tape, k.keep.output.trans h.keep.output, Nat.le_trans h.keep.size k.keep.size, fun j hj hn => by
    rw [k.keep.block j (Nat.lt_of_lt_of_le hj h.keep.size) (fun e => e.elim (fun e => hn (.inl e)) fun e => (h.buf j e).elim (fun e => hn (.inr e)) fun e => by omega)]
    exact h.keep.block j hj hn⟩, fun j hj => (k.buf j hj).elim (fun e => h.buf j e) fun e => .inr (Nat.le_trans h.keep.size e)⟩
theorem TelK.of_keep {b : Nat} {w w' : World} (k : KeepBut (fun _ => False) w w') (hb : b < w.heap.size) : TelK b w w' :=
  ⟨k.mono fun _ h => h.elim, fun j hj => .inl (by
    unfold bufOf World.cell? at hj ⊢
    rw [k.block b hb fun e => e] at hj
    exact hj)⟩
theorem TelK.of_keepB {b : Nat} {w w' : World} (k : KeepBut (fun j => j = b) w w') (hb : w'.cell? ⟨b, 1, none⟩ = w.cell? ⟨b, 1, none⟩) : TelK b w w' :=
  ⟨k.mono fun _ h => .inl h, fun j hj => .inl (by
    unfold bufOf at hj ⊢
    rw [hb] at hj
    exact hj)⟩
theorem TelK.wrote {b : Nat} {w w2 : World} {p v v' : Value} {T : TypeId} (hb : w.heap[b]? = some (.cells #[p, v] T (0, 0))) (hg : w.grownBy w2 v.ownBlock) (hb2 : w2.heap[b]? = some (.cells #[p, v] T (0, 0))) (hv : ∀ k, v'.ownBlock = some k → v.ownBlock = some k ∨ w.heap.size ≤ k) :
    TelK b w (w2.setCell ⟨b, 1, none⟩ v') := by
  have h1 : bufOf w b = v.ownBlock := by simp [bufOf, World.cell?, hb]
  have h3 := put1 (i := 1) hb2 v'
  have h2 : bufOf (w2.setCell ⟨b, 1, none⟩ v') b = v'.ownBlock := by
    unfold bufOf World.cell?
    rw [h3]
    simp
  have k2 : KeepBut (fun j => j = b ∨ bufOf w b = some j) w w2 := ⟨hg.os, hg.tape, hg.output, hg.size, fun j hj hn => hg.block j hj fun e => hn (.inr (by rw [h1]; exact e.symm))⟩
  exact ⟨k2.trans (KeepBut.setCell _ _ _ (.inl rfl)), fun k hk => by rw [h1]; rw [h2] at hk; exact hv k hk⟩

theorem bt_info : ∃ j, Tryz.prog.info? BT = some j ∧ j.size = 2 :=
  Option.map_eq_some_iff.1 (show (Tryz.prog.info? BT).map (·.size) = some 2 by kernel_rfl)
theorem tt_ne : TT ≠ B8 := by decide
theorem bp_ty : Tryz.prog.underlying BP = some (.pointer BT) := by kernel_rfl
theorem bu_ty : Tryz.prog.underlying BU = some .unsafePointer := by kernel_rfl
theorem bl_ty : Tryz.prog.underlying BL = some (.slice B8) := by kernel_rfl
theorem bs_ty : Tryz.prog.underlying 9 = some .string := by kernel_rfl
theorem b8_info : ∃ i, Tryz.prog.info? B8 = some i ∧ i.zero = some (.int .u8 0) ∧ i.size = 1 ∧ i.bytes = 1 :=
  info_parts (show (Tryz.prog.info? B8).map (fun i => (i.zero, i.size, i.bytes)) = some (some (.int .u8 0), 1, 1) by kernel_rfl)

set_option maxHeartbeats 1000000 in
set_option maxRecDepth 100000 in
theorem bld_check_used (b : Nat) (w : World) (h0 : w.cell? ⟨b, 0, none⟩ = some (.pointer (some ⟨b, 0, none⟩))) :
    Calls Tryz.prog 104 #[.pointer (some ⟨b, 0, none⟩)] w fun e w' => e = .returned (.tuple #[]) ∧ w' = w := by
  obtain ⟨j, hj, _⟩ := bt_info
  go_enter Tryz.func104, Tryz.ntmps104
  go_wp2
  rw [Lib.run_neq_ptr_same w _ bp_ty hj]
  go_wp2
  go_end0
  exact ⟨rfl, rfl⟩

set_option maxHeartbeats 1000000 in
set_option maxRecDepth 100000 in
theorem bld_check_fresh (b : Nat) (w : World) (h0 : w.cell? ⟨b, 0, none⟩ = some (.pointer none)) (hsh : w.shape? b = some (TT, 2)) (hfz : w.frozen? ⟨b, 0, none⟩ = false) :
    Calls Tryz.prog 104 #[.pointer (some ⟨b, 0, none⟩)] w fun e w' => e = .returned (.tuple #[]) ∧ w' = w.setCell ⟨b, 0, none⟩ (.pointer (some ⟨b, 0, none⟩)) := by
  obtain ⟨j, hj, hjs⟩ := bt_info
  have hl : liesAt Tryz.prog Tryz.prog.depth TT (2 / Tryz.prog.cellsOf TT) 0 BT 1 = true := by kernel_rfl
  go_enter Tryz.func104, Tryz.ntmps104
  go_wp2
  rw [Lib.run_to_unsafe w ⟨b, 0, none⟩ bp_ty bu_ty hj (by rw [hjs]; decide) hsh (Nat.zero_lt_succ 1)]
  simp only [Result.andThen]
  rw [Oper.upon_value]
  go_wp2
  rw [run_callFunc_extern Tryz.func121 (by kernel_rfl) (by kernel_rfl) (by kernel_rfl) (e := Extern.AbiNoEscape.same) (by kernel_rfl)]
  rw [Lib.run_noEscape]
  simp only [Result.andThen]
  rw [Oper.upon_value]
  go_wp2
  rw [Lib.run_from_unsafe w ⟨b, 0, none⟩ bu_ty bp_ty hj hsh hl]
  simp only [Result.andThen]
  rw [Oper.upon_value]
  go_wp2
  go_end0
  exact ⟨rfl, rfl⟩

theorem bld_check (B b : Nat) (bs : List Value) (w : World) (h : Lib.IsBuilderF TT B8 B b bs w) :
    Calls Tryz.prog 104 #[.pointer (some ⟨b, 0, none⟩)] w fun e w' => e = .returned (.tuple #[]) ∧
      (Lib.BuilderAtF TT B8 B b (.pointer (some ⟨b, 0, none⟩)) bs w' ∧ Below B w w' ∧ TelK b w w') := by
  rcases h with h | h
  · refine (bld_check_fresh b w h.cell0 h.shape h.frozen0).mono ?_
    rintro e w' ⟨rfl, rfl⟩
    exact ⟨rfl, h.used _, (Below.refl B w).setCell (p := ⟨b, 0, none⟩) h.1 _, .of_keepB (KeepBut.setCell _ _ _ rfl) (by obtain ⟨_, v, hb, _⟩ := h; rw [blk_cell (put1 (i := 0) hb _) rfl, blk_cell hb rfl]; rfl)⟩
  · refine (bld_check_used b w h.cell0).mono ?_
    rintro e w' ⟨rfl, rfl⟩
    exact ⟨rfl, h, Below.refl B _, TelK.refl _ _⟩

set_option maxHeartbeats 2000000 in
set_option maxRecDepth 100000 in
theorem bld_byte (B b : Nat) (bs : List Value) (c : Int) (w : World) (h : Lib.IsBuilderF TT B8 B b bs w) (hlen : bs.length + 1 ≤ 140737488355328) (hBw : B ≤ w.heap.size) :
    Calls Tryz.prog 82 #[.pointer (some ⟨b, 0, none⟩), .int .u8 c] w fun e w' => e = .returned .nilIface ∧
      (Lib.BuilderAtF TT B8 B b (.pointer (some ⟨b, 0, none⟩)) (bs ++ [.int .u8 c]) w' ∧ Below B w w' ∧ TelK b w w') := by
  obtain ⟨i0, hi, hz0, hz1, hz2⟩ := b8_info
  go_enter Tryz.func82, Tryz.ntmps82
  go_wp2_with (go_at_call 104; refine (bld_check B b bs _ h).mono ?_)
  rintro e w1 ⟨rfl, h1, hb1, hk1⟩
  obtain ⟨hB, v, hbk, hown, hne⟩ := h1
  have c0 : w1.cell? ⟨b, 0, none⟩ = some (.pointer (some ⟨b, 0, none⟩)) := by rw [Lib.cell_of_heap hbk]; rfl
  have c1 : w1.cell? ⟨b, 1, none⟩ = some v := by rw [Lib.cell_of_heap hbk]; rfl
  go_wp2_with (at_builtin; refine wpList_own_slice_at rfl _ _ BL rfl B B8 i0 (.int .u8 0) 1 1 bl_ty hi hz0 hz1 hz2 rfl (by decide) _ _ _ rfl (hown.alloc _) ⟨w1.heap.size, 0, none⟩ 1 1 [.int .u8 c] rfl rfl ?c1 ?c2 ?c3 ?c4 ?c5 ?_)
  case c1 =>
    intro j u hj
    match j, hj with
    | 0, hj => simp at hj; subst hj; simp [Addr.add]
  case c2 => intro u hu; simp at hu; subst hu; rfl
  case c3 => unfold maxLen; omega
  case c4 => omega
  case c5 => have := hb1.size; simp; omega
  intro v' w2 hown' hgrow hat
  have hlt : b < w1.heap.size := by
    rcases Nat.lt_or_ge b w1.heap.size with h' | h'
    · exact h'
    · simp [Array.getElem?_eq_none h'] at hbk
  have hb2 : w2.heap[b]? = some (.cells #[.pointer (some ⟨b, 0, none⟩), v] TT (0, 0)) := by
    rw [hgrow.block b (by simp; omega) (fun e => hne e.symm), Lib.alloc_old w1 _ b hlt]
    exact hbk
  have d0 : w2.cell? ⟨b, 0, none⟩ = some (.pointer (some ⟨b, 0, none⟩)) := by rw [Lib.cell_of_heap hb2]; rfl
  have d1 : w2.cell? ⟨b, 1, none⟩ = some v := by rw [Lib.cell_of_heap hb2]; rfl
  have f1 : w2.frozen? ⟨b, 1, none⟩ = false := Lib.frozen_of_heap hb2 1
  obtain ⟨g, cap, rfl⟩ : ∃ g cap, v' = .slice (some ⟨g, 0, none⟩) (bs.length + 1) cap := by
    rcases hown'.2 with ⟨_, h0⟩ | ⟨g, cap, cur, fz, hv, _⟩
    · omega
    · exact ⟨g, cap, hv⟩
  go_wp2
  go_ret
  refine ⟨rfl, ?_, ?_, hk1.trans ((TelK.of_keep (KeepBut.alloc _ _ _) hlt).trans (TelK.wrote ((Lib.alloc_old w1 _ b hlt).trans hbk) hgrow hb2 fun k hk => (hat k hk).imp id fun e => by simpa using e))⟩
  · exact Lib.BuilderAtF.put (T := TT) (e := B8) hB hb2 (bs' := bs ++ [.int .u8 c]) (by simpa using hown') tt_ne
  · exact ((hb1.alloc (by have := hb1.size; omega) _).grown hgrow (by have := hb1.size; simp; omega) (fun k hk => (hown.lt k hk).1)).setCell (p := ⟨b, 1, none⟩) hB _

set_option maxHeartbeats 2000000 in
set_option maxRecDepth 100000 in
theorem bld_str (B b : Nat) (bs : List Value) (s : ByteArray) (w : World) (h : Lib.IsBuilderF TT B8 B b bs w) (hlen : bs.length + s.size ≤ 140737488355328) (hBw : B ≤ w.heap.size) :
    Calls Tryz.prog 81 #[.pointer (some ⟨b, 0, none⟩), .string s] w fun e w' => e = .returned (.tuple #[.int .i64 s.size, .nilIface]) ∧
      (Lib.BuilderAtF TT B8 B b (.pointer (some ⟨b, 0, none⟩)) (bs ++ Lib.strCells s) w' ∧ Below B w w' ∧ TelK b w w') := by
  obtain ⟨i0, hi, hz0, hz1, hz2⟩ := b8_info
  go_enter Tryz.func81, Tryz.ntmps81
  go_wp2_with (go_at_call 104; refine (bld_check B b bs _ h).mono ?_)
  rintro e w1 ⟨rfl, h1, hb1, hk1⟩
  obtain ⟨hB, v, hbk, hown, hne⟩ := h1
  have c0 : w1.cell? ⟨b, 0, none⟩ = some (.pointer (some ⟨b, 0, none⟩)) := by rw [Lib.cell_of_heap hbk]; rfl
  have c1 : w1.cell? ⟨b, 1, none⟩ = some v := by rw [Lib.cell_of_heap hbk]; rfl
  go_wp2_with (at_builtin; refine wpList_own_string_at rfl _ _ BL 9 rfl B B8 i0 bl_ty bs_ty hi hz0 hz1 hz2 _ _ _ rfl hown s rfl ?c3 ?c4 ?c5 ?_)
  case c3 => unfold maxLen; omega
  case c4 => omega
  case c5 => have := hb1.size; omega
  intro v' w2 hown' hgrow hat
  have hlt : b < w1.heap.size := by
    rcases Nat.lt_or_ge b w1.heap.size with h' | h'
    · exact h'
    · simp [Array.getElem?_eq_none h'] at hbk
  have hb2 : w2.heap[b]? = some (.cells #[.pointer (some ⟨b, 0, none⟩), v] TT (0, 0)) := by
    rw [hgrow.block b hlt (fun e => hne e.symm)]
    exact hbk
  have d0 : w2.cell? ⟨b, 0, none⟩ = some (.pointer (some ⟨b, 0, none⟩)) := by rw [Lib.cell_of_heap hb2]; rfl
  have d1 : w2.cell? ⟨b, 1, none⟩ = some v := by rw [Lib.cell_of_heap hb2]; rfl
  have f1 : w2.frozen? ⟨b, 1, none⟩ = false := Lib.frozen_of_heap hb2 1
  obtain ⟨ao, n', cap, rfl⟩ : ∃ ao n' cap, v' = .slice ao n' cap := by
    rcases hown'.2 with ⟨hv, _⟩ | ⟨g, cap, cur, fz, hv, _⟩
    · exact ⟨_, _, _, hv⟩
    · exact ⟨_, _, _, hv⟩
  go_wp2
  go_ret2
  refine ⟨rfl, ?_, ?_, hk1.trans (TelK.wrote hbk hgrow hb2 hat)⟩
  · exact Lib.BuilderAtF.put (T := TT) (e := B8) hB hb2 (bs' := bs ++ Lib.strCells s) (by simpa [Lib.strCells_length] using hown') tt_ne
  · exact (hb1.grown hgrow (by have := hb1.size; omega) (fun k hk => (hown.lt k hk).1)).setCell (p := ⟨b, 1, none⟩) hB _

end Go.Proofs.YtomlffobbkcmdaaGreatDoor

/-
  A teller: putting tokens; its string.
-/
namespace Go.Proofs.YtomlffobbkcmdaaGreatDoor
open Go Go.RowKit Own

abbrev TStr : TypeId := 9
/-- the teller in block b holds the text l; what it owns lies from B on -/
def Tel (B b : Nat) (l : List UInt8) (w : World) : Prop := Lib.IsBuilderF TT B8 B b (Lib.byteCells l) w
theorem Tel.builder {B b : Nat} {l : List UInt8} {w w' : World} (k : KeepBut (fun _ => False) w w') (h : Tel B b l w) : Tel B b l w' := by
  have key : ∀ p, Lib.BuilderAtF TT B8 B b p (Lib.byteCells l) w → Lib.BuilderAtF TT B8 B b p (Lib.byteCells l) w' := by
    rintro p ⟨h1, v, h2, h3, h4⟩
    have g := grown_of_keep k
    exact ⟨h1, v, k.blk h2, h3.kept (row := some b) ⟨g.os, g.tape, g.output, g.size, fun j h _ => g.block j h (by simp)⟩ (.inr h4), h4⟩
  exact h.elim (fun h => .inl (key _ h)) fun h => .inr (key _ h)
theorem Tel.le {B b : Nat} {l : List UInt8} {w : World} (h : Tel B b l w) : B ≤ b ∧ b < w.heap.size := h.elim (fun h => ⟨h.1, h.lt⟩) fun h => ⟨h.1, h.lt⟩
theorem Tel.size {B b : Nat} {l : List UInt8} {w : World} (h : Tel B b l w) : B ≤ w.heap.size := by have := h.le; omega
theorem Tel.buf {B b k : Nat} {l : List UInt8} {w : World} (h : Tel B b l w) (hk : bufOf w b = some k) : B ≤ k ∧ k ≠ b ∧ ∃ cs fz, w.heap[k]? = some (.cells cs B8 fz) := by
  obtain ⟨p, hB, v, hb, hown, hne⟩ : ∃ p, Lib.BuilderAtF TT B8 B b p (Lib.byteCells l) w := h.elim (fun h => ⟨_, h⟩) fun h => ⟨_, h⟩
  have h1 : v.ownBlock = some k := by simpa [bufOf, World.cell?, hb] using hk
  rcases hown.2 with ⟨rfl, -⟩ | ⟨g, cap, cur, fz, rfl, hbg, hg, -⟩
  · cases h1
  · cases h1
    exact ⟨hbg, fun e => hne (by show some g = some b; rw [show g = b from e]), cur, fz, hg⟩
theorem TelK.blk {B b k : Nat} {l : List UInt8} {w w' : World} {cs : Array Value} {T : TypeId} {fz : Nat × Nat} (h : TelK b w w') (ht : Tel B b l w) (hT : T ≠ B8) (hk : k ≠ b) (hb : w.heap[k]? = some (.cells cs T fz)) : w'.heap[k]? = some (.cells cs T fz) := by
  rw [h.keep.block k (Array.getElem?_eq_some_iff.1 hb).1 (fun e => e.elim hk fun e => by
    obtain ⟨-, -, c, f, hc⟩ := ht.buf e
    rw [hb] at hc
    cases hc
    exact hT rfl)]
  exact hb
theorem TelK.size {b : Nat} {w w' : World} (h : TelK b w w') : w.heap.size ≤ w'.heap.size := h.keep.size
theorem TelK.below {B b : Nat} {l : List UInt8} {w w' : World} (h : TelK b w w') (ht : Tel B b l w) : KeepBut (fun k => B ≤ k) w w' :=
  h.keep.mono fun k hk => hk.elim (fun e => by rw [e]; exact ht.le.1) fun e => (ht.buf e).1
theorem TelK.ex {B b : Nat} {l : List UInt8} {w w' : World} (h : TelK b w w') (ht : Tel B b l w) {S : Nat → Prop} (hS : ∀ k, S k → k < B) {vs : List Value} {x : Ex} (hx : ExAt w S vs x) : ExAt w' S vs x :=
  hx.keep (h.below ht) fun k hk e => by have := hS k hk; omega

/-- what stands behind a token -/
def sepL (s : List UInt8) : UInt8 := if s = [59] ∨ s = [123] ∨ s = [125] then 10 else 32
def putL (ss : List (List UInt8)) : List UInt8 := ss.flatMap fun s => s ++ [sepL s]
theorem putL_take {ss : List (List UInt8)} {i : Nat} {s : List UInt8} (h : ss[i]? = some s) : putL (ss.take (i + 1)) = putL (ss.take i) ++ (s ++ [sepL s]) := by
  unfold putL
  rw [List.take_add_one, h]
  simp

theorem tel_str {B b : Nat} {l s : List UInt8} {w : World} (h : Tel B b l w) (hlen : l.length + s.length ≤ 140737488355328) :
    Calls Tryz.prog 81 #[.pointer (some ⟨b, 0, none⟩), .string ⟨s.toArray⟩] w fun e w' => ∃ v, e = .returned v ∧ Tel B b (l ++ s) w' ∧ TelK b w w' := by
  refine (bld_str B b (Lib.byteCells l) ⟨s.toArray⟩ w h (by rw [Lib.byteCells_length]; exact hlen) h.size).mono ?_
  rintro e w' ⟨rfl, h1, -, h3⟩
  refine ⟨_, rfl, .inr ?_, h3⟩
  rw [Lib.byteCells_append]
  exact h1
theorem tel_byte {B b : Nat} {l : List UInt8} {c : UInt8} {w : World} (h : Tel B b l w) (hlen : l.length + 1 ≤ 140737488355328) :
    Calls Tryz.prog 82 #[.pointer (some ⟨b, 0, none⟩), .int .u8 c.toNat] w fun e w' => e = .returned .nilIface ∧ Tel B b (l ++ [c]) w' ∧ TelK b w w' := by
  refine (bld_byte B b (Lib.byteCells l) c.toNat w h (by rw [Lib.byteCells_length]; exact hlen) h.size).mono ?_
  rintro e w' ⟨rfl, h1, -, h3⟩
  refine ⟨rfl, .inr ?_, h3⟩
  rw [Lib.byteCells_append]
  exact h1

theorem tel_nl {B b : Nat} {l : List UInt8} {w : World} (h : Tel B b l w) (hlen : l.length + 1 ≤ 140737488355328) :
    Calls Tryz.prog 82 #[.pointer (some ⟨b, 0, none⟩), .int .u8 10] w fun e w' => e = .returned .nilIface ∧ Tel B b (l ++ [10]) w' ∧ TelK b w w' := tel_byte (c := 10) h hlen
theorem tel_sp {B b : Nat} {l : List UInt8} {w : World} (h : Tel B b l w) (hlen : l.length + 1 ≤ 140737488355328) :
    Calls Tryz.prog 82 #[.pointer (some ⟨b, 0, none⟩), .int .u8 32] w fun e w' => e = .returned .nilIface ∧ Tel B b (l ++ [32]) w' ∧ TelK b w w' := tel_byte (c := 32) h hlen

theorem putL_le (ss : List (List UInt8)) (i : Nat) : (putL (ss.take i)).length ≤ (putL ss).length := by
  have h : putL ss = putL (ss.take i) ++ putL (ss.drop i) := by
    unfold putL
    rw [← List.flatMap_append, List.take_append_drop]
  rw [h, List.length_append]
  omega
theorem putL_count (ss : List (List UInt8)) : ss.length ≤ (putL ss).length := by
  induction ss with
  | nil => simp
  | cons s ss ih =>
    have : putL (s :: ss) = (s ++ [sepL s]) ++ putL ss := by simp [putL]
    rw [this]
    simp
    omega

set_option maxHeartbeats 4000000 in
set_option maxRecDepth 4000 in
theorem put_any (B b : Nat) (l : List UInt8) (ss : List (List UInt8)) (g c : Nat) (w : World) (ht : Tel B b l w) (hg : w.heap[g]? = some (.cells (ss.map strV).toArray TStr (0, 0))) (hgb : g ≠ b) (hlen : l.length + (putL ss).length ≤ 100000000) :
    Calls Tryz.prog 39 #[.pointer (some ⟨b, 0, none⟩), .slice (some ⟨g, 0, none⟩) ss.length c] w fun e w' => e = .returned (.tuple #[]) ∧ Tel B b (l ++ putL ss) w' ∧ TelK b w w' := by
  have HT := Lib.hid ht; have HG := Lib.hid hg; have HLEN := Lib.hid hlen
  clear ht hg hlen
  go_enter Tryz.func39, Tryz.ntmps39
  go_wp2_with fail
  go_loopw [8] (fun v8 wr => ∃ i : Nat, i ≤ ss.length ∧ v8 = .int .i64 i ∧ Tel B b (l ++ putL (ss.take i)) wr ∧ TelK b w wr) (fun v _ => ss.length - (intOf v).toNat)
  case atStart => exact ⟨0, Nat.zero_le _, rfl, by simpa [putL] using HT.out, TelK.refl _ _⟩
  case round =>
    obtain ⟨i, hi, rfl, hti, hk⟩ := hrel
    have HTI := Lib.hid hti; have HK := Lib.hid hk
    clear hti hk
    by_cases hlt : i < ss.length
    · have hlti : (i : Int) < (ss.length : Int) := by omega
      have hi0 : (0 : Int) ≤ i := by omega
      have hWi : IntKind.i64.wrap ((i : Int) + 1) = (i : Int) + 1 := IntWalk.i64_in _ (by have := HLEN.out; have := putL_count ss; omega)
      obtain ⟨s, hs⟩ : ∃ s, ss[i]? = some s := ⟨_, List.getElem?_eq_getElem hlt⟩
      have hc : wr.cell? ⟨g, i, none⟩ = some (.string ⟨s.toArray⟩) := blk_cell (HK.out.blk HT.out (by decide) hgb HG.out) (by simp [hs, strV])
      have HS := Lib.hid (putL_take hs)
      have hle := putL_le ss (i + 1)
      rw [putL_take hs, List.length_append, List.length_append, List.length_singleton] at hle
      have HWS := Lib.hid (tel_str (s := s) HTI.out (by rw [List.length_append]; have := HLEN.out; omega))
      have hb9 : (l ++ putL (ss.take i) ++ s).length + 1 ≤ 140737488355328 := by rw [List.length_append, List.length_append]; have := HLEN.out; omega
      have HWN := Lib.hid (fun W (h : Tel B b (l ++ putL (ss.take i) ++ s) W) => tel_nl h hb9)
      have HWS2 := Lib.hid (fun W (h : Tel B b (l ++ putL (ss.take i) ++ s) W) => tel_sp h hb9)
      clear hs hle hb9
      go_wp2_with fail
      go_at_call 81
      refine HWS.out.mono ?_
      rintro e w1 ⟨v, rfl, ht1, hk1⟩
      have HT1 := Lib.hid ht1; have HK1 := Lib.hid (HK.out.trans hk1)
      clear ht1 hk1
      by_cases e1 : s = [59]
      · subst e1
        go_wp2_with fail
        go_at_call 82
        refine (HWN.out w1 HT1.out).mono ?_
        rintro e w2 ⟨rfl, ht2, hk2⟩
        have HT2 := Lib.hid ht2; have HK2 := Lib.hid (HK1.out.trans hk2)
        clear ht2 hk2
        go_wp2_with fail
        exact ⟨⟨i + 1, by omega, by simp, by rw [HS.out]; have h := HT2.out; rw [List.append_assoc, List.append_assoc] at h; simpa [sepL] using h, HK2.out⟩, by simp only [intOf]; omega⟩
      · by_cases e2 : s = [123]
        · subst e2
          go_wp2_with fail
          go_at_call 82
          refine (HWN.out w1 HT1.out).mono ?_
          rintro e w2 ⟨rfl, ht2, hk2⟩
          have HT2 := Lib.hid ht2; have HK2 := Lib.hid (HK1.out.trans hk2)
          clear ht2 hk2
          go_wp2_with fail
          exact ⟨⟨i + 1, by omega, by simp, by rw [HS.out]; have h := HT2.out; rw [List.append_assoc, List.append_assoc] at h; simpa [sepL] using h, HK2.out⟩, by simp only [intOf]; omega⟩
        · by_cases e3 : s = [125]
          · subst e3
            go_wp2_with fail
            go_at_call 82
            refine (HWN.out w1 HT1.out).mono ?_
            rintro e w2 ⟨rfl, ht2, hk2⟩
            have HT2 := Lib.hid ht2; have HK2 := Lib.hid (HK1.out.trans hk2)
            clear ht2 hk2
            go_wp2_with fail
            exact ⟨⟨i + 1, by omega, by simp, by rw [HS.out]; have h := HT2.out; rw [List.append_assoc, List.append_assoc] at h; simpa [sepL] using h, HK2.out⟩, by simp only [intOf]; omega⟩
          · have HE := Lib.hid (And.intro e1 (And.intro e2 e3))
            have b1 : (s == [59]) = false := beq_eq_false_iff_ne.2 e1
            have b2 : (s == [123]) = false := beq_eq_false_iff_ne.2 e2
            have b3 : (s == [125]) = false := beq_eq_false_iff_ne.2 e3
            clear e1 e2 e3
            go_wp2_with fail
            go_at_call 82
            refine (HWS2.out w1 HT1.out).mono ?_
            rintro e w2 ⟨rfl, ht2, hk2⟩
            have HT2 := Lib.hid ht2; have HK2 := Lib.hid (HK1.out.trans hk2)
            clear ht2 hk2
            go_wp2_with fail
            exact ⟨⟨i + 1, by omega, by simp, by rw [HS.out]; have h := HT2.out; rw [List.append_assoc, List.append_assoc] at h; simpa [sepL, HE.out.1, HE.out.2.1, HE.out.2.2] using h, HK2.out⟩, by simp only [intOf]; omega⟩
    · have hnl : ¬ (i : Int) < (ss.length : Int) := by omega
      have hie : ss.take i = ss := List.take_of_length_le (by omega)
      rw [hie] at HTI
      clear hie
      go_wp2_with fail
      go_end0
      exact ⟨rfl, HTI.out, HK.out⟩

end Go.Proofs.YtomlffobbkcmdaaGreatDoor

/-
  Expressions as they may stand in memory, whatever their fields hold.
-/
namespace Go.Proofs.YtomlffobbkcmdaaGreatDoor
open Go Go.RowKit Own

inductive Gx where
  | mk (kind op num : Int) (name : List UInt8) (line col : Int) (kids : List Gx)

mutual
/-- the cells of an expression; what its kids hold lies in blocks of S -/
def GAt (w : World) (S : Nat → Prop) : List Value → Gx → Prop
  | vs, .mk k o n nm l c kids => ∃ p cap, vs = [.int .i64 k, .int .i64 o, .int .i64 n, strV nm, .slice p kids.length cap, .int .i64 l, .int .i64 c] ∧ GKids w S p 0 kids
def GKids (w : World) (S : Nat → Prop) (p : Option Addr) : Nat → List Gx → Prop
  | _, [] => True
  | i, x :: l => (∃ g o vs, p = some ⟨g, o, none⟩ ∧ S g ∧ (∀ j v, vs[j]? = some v → w.cell? ⟨g, o + i * 7 + j, none⟩ = some v) ∧ GAt w S vs x) ∧ GKids w S p (i + 1) l
end

mutual
theorem GAt.keepS {w w' : World} {S S' : Nat → Prop} (hk : ∀ b o v, S b → w.cell? ⟨b, o, none⟩ = some v → w'.cell? ⟨b, o, none⟩ = some v ∧ S' b) : ∀ {vs : List Value} {e : Gx}, GAt w S vs e → GAt w' S' vs e
  | vs, .mk kk o n nm l c kids, h => by
    unfold GAt at h ⊢
    obtain ⟨p, cap, h1, h2⟩ := h
    exact ⟨p, cap, h1, GKids.keepS hk h2⟩
theorem GKids.keepS {w w' : World} {S S' : Nat → Prop} (hk : ∀ b o v, S b → w.cell? ⟨b, o, none⟩ = some v → w'.cell? ⟨b, o, none⟩ = some v ∧ S' b) : ∀ {p : Option Addr} {i : Nat} {l : List Gx}, GKids w S p i l → GKids w' S' p i l
  | p, i, [], _ => by unfold GKids; trivial
  | p, i, x :: l, h => by
    unfold GKids at h ⊢
    obtain ⟨⟨g, o, vs, h1, h2, h3, h4⟩, h5⟩ := h
    have hv : ∃ v, vs[0]? = some v := by
      cases x with
      | mk k o n nm l c kids =>
        unfold GAt at h4
        obtain ⟨p, cap, h6, -⟩ := h4
        exact ⟨_, by rw [h6]; rfl⟩
    obtain ⟨v0, hv0⟩ := hv
    exact ⟨⟨g, o, vs, h1, (hk g _ _ h2 (h3 0 v0 hv0)).2, fun j v hj => (hk g _ _ h2 (h3 j v hj)).1, GAt.keepS hk h4⟩, GKids.keepS hk h5⟩
end
theorem GAt.keep {E : Nat → Prop} {w w' : World} {S : Nat → Prop} (k : KeepBut E w w') (hE : ∀ b, S b → ¬ E b) {vs : List Value} {e : Gx} (h : GAt w S vs e) : GAt w' S vs e :=
  h.keepS fun b _ _ hb hc => ⟨k.cell hc (hE b hb), hb⟩
/-- the blocks are in the heap -/
theorem GAt.inHeap {w : World} {S : Nat → Prop} {vs : List Value} {e : Gx} (h : GAt w S vs e) : GAt w (fun b => S b ∧ b < w.heap.size) vs e :=
  h.keepS fun _ _ _ hb hc => ⟨hc, hb, World.block_lt_of_cell? w _ hc⟩
theorem GAt.mono {w : World} {S S' : Nat → Prop} (hS : ∀ b, S b → S' b) {vs : List Value} {e : Gx} (h : GAt w S vs e) : GAt w S' vs e :=
  h.keepS fun _ _ _ hb hc => ⟨hc, hS _ hb⟩
theorem GKids.mono {w : World} {S S' : Nat → Prop} (hS : ∀ b, S b → S' b) {p : Option Addr} {i : Nat} {l : List Gx} (h : GKids w S p i l) : GKids w S' p i l :=
  h.keepS fun _ _ _ hb hc => ⟨hc, hS _ hb⟩
theorem GKids.keep {E : Nat → Prop} {w w' : World} {S : Nat → Prop} (k : KeepBut E w w') (hE : ∀ b, S b → ¬ E b) {p : Option Addr} {i : Nat} {l : List Gx} (h : GKids w S p i l) : GKids w' S p i l :=
  h.keepS fun b _ _ hb hc => ⟨k.cell hc (hE b hb), hb⟩
mutual
def gSize : Gx → Nat
  | .mk _ _ _ _ _ _ kids => gSizeL kids + 1
def gSizeL : List Gx → Nat
  | [] => 0
  | x :: l => gSize x + gSizeL l
end
mutual
def gDeep : Gx → Nat
  | .mk _ _ _ _ _ _ kids => gDeepL kids + 1
def gDeepL : List Gx → Nat
  | [] => 0
  | x :: l => max (gDeep x) (gDeepL l)
end
theorem gSizeL_take {l : List Gx} {i : Nat} (h : i < l.length) : gSizeL (l.take (i + 1)) = gSizeL (l.take i) + gSize l[i] := by
  induction l generalizing i with
  | nil => cases h
  | cons x l ih =>
    cases i with
    | zero => simp [gSizeL]
    | succ i =>
      have h' : i < l.length := by simpa using h
      simp only [List.take_succ_cons, gSizeL, List.getElem_cons_succ]
      rw [ih h']
      omega
theorem gsize_mem {l : List Gx} {i : Nat} (h : i < l.length) : gSize l[i] ≤ gSizeL l := by
  induction l generalizing i with
  | nil => cases h
  | cons x l ih =>
    cases i with
    | zero => simp [gSizeL]
    | succ i =>
      have := ih (i := i) (by simpa using h)
      simp only [gSizeL, List.getElem_cons_succ]
      omega
theorem gSizeL_le {l : List Gx} (i : Nat) : gSizeL (l.take i) ≤ gSizeL l := by
  induction l generalizing i with
  | nil => simp [gSizeL]
  | cons x l ih =>
    cases i with
    | zero => simp [gSizeL]
    | succ i =>
      have := ih i
      simp only [List.take_succ_cons, gSizeL]
      omega
mutual
theorem gdeep_le : ∀ x : Gx, gDeep x ≤ gSize x
  | .mk _ _ _ _ _ _ kids => by
    unfold gDeep gSize
    have := gDeepL_le kids
    omega
theorem gDeepL_le : ∀ l : List Gx, gDeepL l ≤ gSizeL l
  | [] => by simp [gDeepL]
  | x :: l => by
    unfold gDeepL gSizeL
    have := gdeep_le x
    have := gDeepL_le l
    omega
end
theorem glen_size : ∀ l : List Gx, l.length ≤ gSizeL l
  | [] => by simp
  | x :: l => by
    have h1 : 1 ≤ gSize x := by cases x; unfold gSize; omega
    have := glen_size l
    simp only [List.length_cons, gSizeL]
    omega
theorem gkids_get {w : World} {S : Nat → Prop} {p : Option Addr} : ∀ {l : List Gx} {j : Nat}, GKids w S p j l → ∀ i (h : i < l.length), ∃ g o vs, p = some ⟨g, o, none⟩ ∧ (∀ k v, vs[k]? = some v → w.cell? ⟨g, o + (j + i) * 7 + k, none⟩ = some v) ∧ GAt w S vs l[i]
  | x :: l, j, h, 0, _ => by
    unfold GKids at h
    obtain ⟨⟨g, o, vs, h1, _, h3, h4⟩, _⟩ := h
    exact ⟨g, o, vs, h1, h3, h4⟩
  | x :: l, j, h, i + 1, hi => by
    unfold GKids at h
    obtain ⟨g, o, vs, h1, h3, h4⟩ := gkids_get h.2 i (by simpa using hi)
    refine ⟨g, o, vs, h1, fun k v hk => ?_, h4⟩
    rw [show j + (i + 1) = j + 1 + i by omega]
    exact h3 k v hk
  | [], _, _, i, hi => absurd hi (by simp)

theorem g_form {w : World} {S : Nat → Prop} {vs : List Value} {x : Gx} (h : GAt w S vs x) : ∃ k o n S2 p m c l cl, vs = [.int .i64 k, .int .i64 o, .int .i64 n, .string S2, .slice p m c, .int .i64 l, .int .i64 cl] := by
  cases x with
  | mk k o n nm l c kids =>
    unfold GAt at h
    obtain ⟨p, cap, h1, -⟩ := h
    exact ⟨_, _, _, _, _, _, _, _, _, h1⟩


mutual
def toG : Ex → Gx
  | .mk k o n nm l c ks => .mk k o n nm l c (toGL ks)
def toGL : List Ex → List Gx
  | [] => []
  | x :: l => toG x :: toGL l
end
theorem toGL_len : ∀ l : List Ex, (toGL l).length = l.length
  | [] => rfl
  | x :: l => by unfold toGL; simp [toGL_len l]
mutual
theorem ExAt.toG {w : World} {S : Nat → Prop} : ∀ {vs : List Value} {x : Ex}, ExAt w S vs x → GAt w S vs (toG x)
  | vs, .mk k o n nm l c ks, h => by
    unfold ExAt at h
    obtain ⟨p, cap, h1, h2⟩ := h
    unfold Go.Proofs.YtomlffobbkcmdaaGreatDoor.toG GAt
    exact ⟨p, cap, by rw [toGL_len]; exact h1, KidsAt.toG h2⟩
theorem KidsAt.toG {w : World} {S : Nat → Prop} : ∀ {p : Option Addr} {i : Nat} {l : List Ex}, KidsAt w S p i l → GKids w S p i (toGL l)
  | p, i, [], _ => by unfold toGL GKids; trivial
  | p, i, x :: l, h => by
    unfold KidsAt at h
    obtain ⟨⟨g, o, vs, h1, h2, h3, h4⟩, h5⟩ := h
    unfold toGL GKids
    exact ⟨⟨g, o, vs, h1, h2, h3, ExAt.toG h4⟩, KidsAt.toG h5⟩
end
mutual
theorem toG_size : ∀ x : Ex, gSize (toG x) = exSize x
  | .mk k o n nm l c ks => by unfold toG gSize exSize; rw [toGL_size ks]
theorem toGL_size : ∀ l : List Ex, gSizeL (toGL l) = sizeL l
  | [] => rfl
  | x :: l => by unfold toGL gSizeL sizeL; rw [toG_size x, toGL_size l]
end

end Go.Proofs.YtomlffobbkcmdaaGreatDoor
