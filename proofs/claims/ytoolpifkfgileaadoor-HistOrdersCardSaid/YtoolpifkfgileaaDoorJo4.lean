/- Joined texts of this work: Spec2, Spec3. -/
import Derived.Test.YtoolpifkfgileaaDoorJo3
import Derived.Deep.Cut

/-
  Package spec: what a call does to the items: the deeds.
-/
namespace Go.Proofs.YtoolpifkfgileaaDoor
open Go Go.RowKit Own

/-- the numbers without that of a place -/
def cutAt (xs : List Int) (k : Nat) : List Int := xs.eraseIdx k
theorem cutAt_length {xs : List Int} {k : Nat} (h : k < xs.length) : (cutAt xs k).length = xs.length - 1 := List.length_eraseIdx_of_lt h
/-- the numbers with one put in at a place -/
def putAt (xs : List Int) (k : Nat) (x : Int) : List Int := xs.insertIdx k x
theorem putAt_length {xs : List Int} {k : Nat} {x : Int} (h : k ≤ xs.length) : (putAt xs k x).length = xs.length + 1 := List.length_insertIdx_of_le_length h _

/-- what a deed returns -/
def Did (w : World) (e : Ending) (w' : World) (xs : List Int) (v : Int) (b : Bool) : Prop :=
  ∃ p c, e = .returned (.agg #[.slice p xs.length c, .int .i64 v, .bool b]) ∧ OwnI 2 w.heap.size w' p c xs ∧ KeepBut (fun _ => False) w w'

theorem Did.ret {w w' : World} {p : Option Addr} {c : Nat} {xs : List Int} {v : Int} {b : Bool} (h1 : OwnI 2 w.heap.size w' p c xs) (h2 : KeepBut (fun _ => False) w w') (n : Nat) (hn : n = xs.length) :
    Did w (.returned (.agg #[.slice p n c, .int .i64 v, .bool b])) w' xs v b := ⟨p, c, by rw [hn], h1, h2⟩

set_option maxHeartbeats 1000000 in
/-- spec.out where there is nothing -/
theorem out_none (w : World) (p : Option Addr) (c : Nat) (k : Int) :
    Calls Tryd.prog 74 #[.slice p 0 c, .int .i64 k] w fun e w' => Did w e w' [] 0 false := by
  go_enter Tryd.func74, Tryd.ntmps74
  go_wp2
  refine bodyPost_ret (v := .agg #[.slice none 0 0, .int .i64 0, .bool false]) (by simp [results, Tryd.results74, go_sem]) rfl (Did.ret OwnI.empty ?_ _ rfl)
  exact KeepBut.alloc _ _ _

set_option maxHeartbeats 1000000 in
/-- spec.out -/
theorem out_some (w : World) (p : Option Addr) (c k : Nat) (xs : List Int) (hrd : Rd w p (ints xs)) (hl : xs.length ≤ 1099511627776) (hk : k < xs.length) (hp : ∀ a, p = some a → a.spot = none) :
    Calls Tryd.prog 74 #[.slice p xs.length c, .int .i64 k] w fun e w' => Did w e w' (cutAt xs k) (nth xs k) true := by
  obtain ⟨b, off, rfl, hb⟩ := hrd.ptr (by rw [ints_length]; omega)
  have hcell := hrd.int k hk
  have h0 : ((xs.length : Int) == 0) = false := by rw [beq_eq_false_iff_ne]; omega
  have hi1 : (0:Int) ≤ (k : Int) := by omega
  have hi2 : (k:Int) < (xs.length : Int) := by omega
  have hW : IntKind.i64.wrap ((k:Int)+1) = k + 1 := IntWalk.i64_in _ (by omega)
  obtain ⟨N, hN⟩ : ∃ N, N = w.heap.size := ⟨_, rfl⟩
  obtain ⟨W, hWd⟩ : ∃ W, W = w.alloc (.cells #[.slice none 0 0, .int .i64 0, .bool false] 109) := ⟨_, rfl⟩
  have hkW : KeepBut (fun _ => False) w W := by rw [hWd]; exact KeepBut.alloc _ _ _
  have hWn : W.heap[N]? = some (.cells #[.slice none 0 0, .int .i64 0, .bool false] 109 (0, 0)) := by rw [hWd, hN]; exact heap_alloc_new w _
  have hWs : W.heap.size = N + 1 := by rw [hWd, hN]; simp
  have hC : ∀ w', KeepBut (fun x => x = N) W.drew w' → w'.cell? ⟨b, off + k, none⟩ = some (.int .i64 (nth xs k)) := fun w' hk' =>
    hk'.cell (show W.drew.cell? _ = _ from hkW.stay hcell) (show ¬ b = N by omega)
  have hR : Hid (∀ w', KeepBut (fun x => x = N) W.drew w' → Rd w' (some ⟨b, off, none⟩) (ints xs)) := fun w' hk' =>
    Rd.keep (w := W.drew) (show Rd W.drew _ _ from (hrd.stay hkW : Rd W _ _)) hk' (fun a ha e => by cases ha; simp only at e; omega)
  have hlen : (cutAt xs k).length = xs.length - 1 := cutAt_length hk
  have HL := Lib.hid hlen; have HWN := Lib.hid hWn; have HKW := Lib.hid hkW; have HN := Lib.hid hN; have HWS := Lib.hid hWs
  clear hrd hcell hlen hWn hkW hWs
  go_enter Tryd.func74, Tryd.ntmps74
  go_wp2_with fail
  rw [← hWd, ← hN]
  clear hWd hN
  refine wp_own1 (by kernel_rfl) N _ HWN.out (fun i => [[], [0], [], [], [3], [0, 1, 2, 3, 4], [], [], [6, 7], [6, 7, 8], [0, 1, 2, 3, 4, 5, 6, 7, 8, 9], [0, 1, 2, 3, 4, 5, 6, 7, 8, 9, 10]].getD i [])
    (fun i => if i = 5 then [1] else if i = 11 then [12] else []) (fun i => if i = 5 then [1] else if i = 11 then [12] else []) [5, 11] (by kernel_rfl)
    (fun i => if i = 1 then some (sOwnI 2 xs) else if i = 5 then some { val := fun _ g => .slice g.p (xs.length - 1) g.c, fp := fun _ g => Of g.p, post := fun _ g w => OwnI 2 0 w g.p g.c (cutAt xs k) }
      else if i = 11 then some (sPut N 109) else none) ?_
  repeat
    apply lex_quiet rfl rfl
    · intro w' hk; go_simp; with_reducible rfl
    simp only [Act.put, List.setIfInBounds_toArray, List.set_cons_zero, List.set_cons_succ]
  refine lex_loud rfl rfl (loud_call 44 #[.slice (some ⟨b, off, none⟩) xs.length c] (fun w => by kernel_rfl) ⟨default, trivial⟩ (fun g _ => stable_ownI _ _ _ _ _) fun w' hk' _ _ => (clone_any w' _ xs c (hR.out w' hk') hl hp).mono ?_) fun g _ => ?_
  · rintro e w'' ⟨p', c', rfl, ho, hq⟩
    exact ⟨{ p := p', c := c' }, trivial, rfl, hq.mono fun _ e => e.elim, fun b ⟨a, h1, h2⟩ => by have := ho.lt a h1; exact ⟨.inl (by omega), by omega⟩, ho.base fun _ _ => Nat.zero_le _⟩
  simp only [sOwnI, Act.put, List.setIfInBounds_toArray, List.set_cons_zero, List.set_cons_succ]
  repeat
    apply lex_quiet rfl rfl
    · intro w' hk; go_simp; with_reducible rfl
    simp only [Act.put, List.setIfInBounds_toArray, List.set_cons_zero, List.set_cons_succ]
  refine lex_loud rfl rfl (loud_call 82 #[.slice g.p xs.length g.c, .int .i64 k, .int .i64 (k + 1)] (fun w => by kernel_rfl) ⟨default, trivial⟩ (fun g _ => stable_ownI _ _ _ _ _) fun w' hk' hF _ => (delete_any 0 w' g.p xs g.c k _ _ (hF 1 (by decide)).1 hk rfl rfl).mono ?_) fun g' _ => ?_
  · rintro e w'' ⟨rfl, ho, hq⟩
    exact ⟨{ p := g.p, c := g.c }, trivial, rfl, hq.mono fun b hb => ⟨1, by decide, hb⟩, fun b hb => ⟨.inr ⟨1, by decide, hb⟩, by obtain ⟨a, h1, h2⟩ := hb; have := ho.lt a h1; omega⟩, ho⟩
  simp only [Act.put, List.setIfInBounds_toArray, List.set_cons_zero, List.set_cons_succ]
  repeat
    apply lex_quiet rfl rfl
    · intro w' hk; go_simp; with_reducible rfl
    simp only [Act.put, List.setIfInBounds_toArray, List.set_cons_zero, List.set_cons_succ]
  refine lex_loud rfl rfl (loud_put N 109 109 #[.slice g'.p (xs.length - 1) g'.c, .int .i64 (nth xs k), .bool true] _ (.tmp 4) (.tmp 19) rfl rfl rfl 12 (by decide) (by decide) (fun w h => h) ⟨rfl, rfl⟩ rfl (by kernel_rfl) (by simp [Value.oneCell'])) fun g2 _ => ?_
  refine lex_nil ?_
  intro w1 hk1 hF hd
  have f5 : OwnI 2 0 w1 g'.p g'.c (cutAt xs k) := (hF 5 (by decide)).1
  have b5 : ∀ b, Of g'.p b → b < w1.heap.size ∧ (W.heap.size ≤ b ∨ b = N) := (hF 5 (by decide)).2
  have f11 : w1.heap[N]? = some (.cells #[.slice g'.p (xs.length - 1) g'.c, .int .i64 (nth xs k), .bool true] 109 (0, 0)) := (hF 11 (by decide)).1 _ (put_args rfl rfl)
  have d5 : ∀ b, Of g'.p b → ¬ b = N := hd 5 (by decide) 11 (by decide) (by decide)
  have c0 := blk_cell (k := 0) f11 rfl
  have c1 := blk_cell (k := 1) f11 rfl
  have c2 := blk_cell (k := 2) f11 rfl
  have hfin : Did w (.returned (.agg #[.slice g'.p (xs.length - 1) g'.c, .int .i64 (nth xs k), .bool true])) w1 (cutAt xs k) (nth xs k) true := by
    refine Did.ret (f5.base fun a ha => ?_) (HKW.out.new ((KeepBut.drew _ W).trans hk1) fun b hb => ?_) _ HL.out.symm
    · have h1 := d5 a.block ⟨a, ha, rfl⟩
      have h2 := HN.out; have h3 := HWS.out
      rcases (b5 a.block ⟨a, ha, rfl⟩).2 with h | h
      · omega
      · exact absurd h h1
    · have h2 := HN.out
      have : b = N := hb
      omega
  have HF := Lib.hid hfin
  clear hF hd f5 b5 f11 d5 hfin
  go_wp2_with fail
  exact bodyPost_ret (v := .agg #[.slice g'.p (xs.length - 1) g'.c, .int .i64 (nth xs k), .bool true]) (by simp [results, Tryd.results74, go_sem, c0, c1, c2]) rfl HF.out

end Go.Proofs.YtoolpifkfgileaaDoor

/-
  Package spec: the deeds, one by one. Printed by a program (gen_spec3.py).
-/
namespace Go.Proofs.YtoolpifkfgileaaDoor
open Go Go.RowKit Own

set_option maxHeartbeats 1000000 in
/-- push and enq -/
theorem deed1_any (w : World) (p : Option Addr) (c : Nat) (xs : List Int) (hrd : Rd w p (ints xs)) (hl : xs.length ≤ 1099511627776) (hp : ∀ a, p = some a → a.spot = none) (x : Int) :
    Calls Tryd.prog 72 #[.slice p xs.length c, .int .i64 x] w fun e w' => Did w e w' (xs ++ [x]) 0 true := by
  obtain ⟨W, N, hWd, hN, hWn, hkW, hWs⟩ := fresh_block w (.cells #[.slice none 0 0, .int .i64 0, .bool false] 109)
  have hR : Hid (∀ w', KeepBut (fun x => x = N) W w' → Rd w' p (ints xs)) := fun w' hk' => hrd.stay (hkW.new hk' fun b hb => by omega)
  have HWN := Lib.hid hWn; have HKW := Lib.hid hkW; have HN := Lib.hid hN; have HWS := Lib.hid hWs
  clear hrd hWn hkW hWs
  go_enter Tryd.func72, Tryd.ntmps72
  go_upto_region 1 with fail
  rw [← hWd, ← hN]
  clear hWd hN
  refine wp_own1_plain N _ HWN.out (fun i => if i = 4 then [1, 3] else if i = 6 then [7] else []) (fun i => if i = 4 then [1] else if i = 6 then [7] else []) [4, 6] (by kernel_rfl)
    (fun i => if i = 1 then some (sOwnI 2 xs) else if i = 3 then some (sOne 2 x) else if i = 4 then some ({ val := fun _ g => .slice g.p (xs.length + 1) g.c, fp := fun _ g => Of g.p, post := fun _ g w => OwnI 2 0 w g.p g.c (xs ++ [x]) }) else if i = 6 then some (sPut N 109) else none) ?_
  repeat
    apply lex_quiet rfl rfl
    · intro w' hk; go_simp; with_reducible rfl
    simp only [Act.put, List.setIfInBounds_toArray, List.set_cons_zero, List.set_cons_succ]
  refine lex_loud rfl rfl (loud_call 44 #[.slice p xs.length c] (fun w => by kernel_rfl) ⟨default, trivial⟩ (fun g _ => stable_ownI _ _ _ _ _) fun w' hk' _ _ => (clone_any w' _ xs c (hR.out w' hk') hl hp).mono ?_) fun g _ => ?_
  · rintro e w'' ⟨p', c', rfl, ho, hq⟩
    exact ⟨{ p := p', c := c' }, trivial, rfl, hq.mono fun _ e => e.elim, fun b ⟨a, h1, h2⟩ => by have := ho.lt a h1; exact ⟨.inl (by omega), by omega⟩, ho.base fun _ _ => Nat.zero_le _⟩
  simp only [sOwnI, sOne, Act.put, List.setIfInBounds_toArray, List.set_cons_zero, List.set_cons_succ]
  repeat
    apply lex_quiet rfl rfl
    · intro w' hk; go_simp; with_reducible rfl
    simp only [Act.put, List.setIfInBounds_toArray, List.set_cons_zero, List.set_cons_succ]
  refine lex_loud rfl rfl (loud_one _ _ fun w => by go_simp) fun g1 _ => ?_
  simp only [Act.put, List.setIfInBounds_toArray, List.set_cons_zero, List.set_cons_succ]
  refine lex_loud rfl rfl (loud_append1 2 45 g.p g.c xs g1.b x (.tmp 6) (.tmp 8) rfl rfl rfl Tryd.underlying45 info_int64 hl 1 3 (by decide) (by decide) (by decide) (fun w h => h) (fun w h => h) rfl) fun g2 _ => ?_
  simp only [Act.put, List.setIfInBounds_toArray, List.set_cons_zero, List.set_cons_succ]
  repeat
    apply lex_quiet rfl rfl
    · intro w' hk; go_simp; with_reducible rfl
    simp only [Act.put, List.setIfInBounds_toArray, List.set_cons_zero, List.set_cons_succ]
  refine lex_loud rfl rfl (loud_put N 109 109 #[.slice g2.p (xs.length + 1) g2.c, .int .i64 0, .bool true] _ (.tmp 4) (.tmp 10) rfl rfl rfl 7 (by decide) (by decide) (fun w h => h) ⟨rfl, rfl⟩ rfl (by kernel_rfl) (by simp [Value.oneCell'])) fun g3 _ => ?_
  refine lex_nil ?_
  intro w1 hk1 hF hd
  have f5 : OwnI 2 0 w1 g2.p g2.c (xs ++ [x]) := (hF 4 (by decide)).1
  have b5 : ∀ b, Of g2.p b → b < w1.heap.size ∧ (W.heap.size ≤ b ∨ b = N) := (hF 4 (by decide)).2
  have f11 : w1.heap[N]? = some (.cells #[.slice g2.p (xs.length + 1) g2.c, .int .i64 0, .bool true] 109 (0, 0)) := (hF 6 (by decide)).1 _ (put_args rfl rfl)
  have d5 : ∀ b, Of g2.p b → ¬ b = N := hd 4 (by decide) 6 (by decide) (by decide)
  have c0 := blk_cell (k := 0) f11 rfl
  have c1 := blk_cell (k := 1) f11 rfl
  have c2 := blk_cell (k := 2) f11 rfl
  have hfin : Did w (.returned (.agg #[.slice g2.p (xs.length + 1) g2.c, .int .i64 0, .bool true])) w1 (xs ++ [x]) (0) (true) := by
    refine Did.ret (f5.base fun a ha => ?_) (HKW.out.new hk1 fun b hb => ?_) _ (by simp)
    · have h1 := d5 a.block ⟨a, ha, rfl⟩
      have h2 := HN.out; have h3 := HWS.out
      rcases (b5 a.block ⟨a, ha, rfl⟩).2 with h | h
      · omega
      · exact absurd h h1
    · have h2 := HN.out
      have : b = N := hb
      omega
  have HF := Lib.hid hfin
  clear hF hd f5 b5 f11 d5 hfin
  go_wp2_with fail
  exact bodyPost_ret (v := .agg #[.slice g2.p (xs.length + 1) g2.c, .int .i64 0, .bool true]) (by simp [results, Tryd.results72, go_sem, c0, c1, c2]) rfl HF.out

set_option maxHeartbeats 1000000 in
/-- pop of nothing -/
theorem deed2_none (w : World) (p : Option Addr) (c : Nat) (x : Int) :
    Calls Tryd.prog 73 #[.slice p 0 c, .int .i64 x] w fun e w' => Did w e w' [] 0 false := by
  obtain ⟨W, N, hWd, hN, hWn, hkW, hWs⟩ := fresh_block w (.cells #[.slice none 0 0, .int .i64 0, .bool false] 109)
  have HWN := Lib.hid hWn; have HKW := Lib.hid hkW; have HN := Lib.hid hN; have HWS := Lib.hid hWs
  have HL := Lib.hid (rfl : ([] : List Int).length = 0)
  clear hWn hkW hWs
  have hW1 : IntKind.i64.wrap (-1 : Int) = -1 := by decide
  go_enter Tryd.func73, Tryd.ntmps73
  go_upto_region 1 with fail
  rw [← hWd, ← hN]
  clear hWd hN
  refine wp_own1_plain N _ HWN.out (fun i => if i = 5 then [6] else []) (fun i => if i = 5 then [6] else []) [4, 5] (by kernel_rfl)
    (fun i => if i = 4 then some ({ val := fun _ g => .agg #[.slice g.p 0 g.c, .int .i64 0, .bool false], fp := fun _ g => Of g.p, post := fun _ g w => OwnI 2 0 w g.p g.c [] }) else if i = 5 then some (sPut N 109) else none) ?_
  repeat
    apply lex_quiet rfl rfl
    · intro w' hk; go_simp; with_reducible rfl
    simp only [Act.put, List.setIfInBounds_toArray, List.set_cons_zero, List.set_cons_succ]
  refine lex_loud rfl rfl (loud_call 74 #[.slice p 0 c, .int .i64 (-1)] (fun w => by kernel_rfl) ⟨default, trivial⟩ (fun g _ => stable_ownI _ _ _ _ _) fun w' hk' _ _ => (out_none w' p c _).mono ?_) fun g _ => ?_
  · rintro e w'' ⟨p', c', rfl, ho, hq⟩
    exact ⟨{ p := p', c := c' }, trivial, by first | rfl | (rw [HL.out]), hq.mono fun _ e => e.elim, fun b ⟨a, h1, h2⟩ => by have := ho.lt a h1; exact ⟨.inl (by omega), by omega⟩, ho.base fun _ _ => Nat.zero_le _⟩
  simp only [Act.put, List.setIfInBounds_toArray, List.set_cons_zero, List.set_cons_succ]
  repeat
    apply lex_quiet rfl rfl
    · intro w' hk; go_simp; with_reducible rfl
    simp only [Act.put, List.setIfInBounds_toArray, List.set_cons_zero, List.set_cons_succ]
  refine lex_loud rfl rfl (loud_put N 109 109 #[.slice g.p 0 g.c, .int .i64 0, .bool false] _ (.tmp 4) (.tmp 9) rfl rfl rfl 6 (by decide) (by decide) (fun w h => h) ⟨rfl, rfl⟩ rfl (by kernel_rfl) (by simp [Value.oneCell'])) fun g3 _ => ?_
  refine lex_nil ?_
  intro w1 hk1 hF hd
  have f5 : OwnI 2 0 w1 g.p g.c ([]) := (hF 4 (by decide)).1
  have b5 : ∀ b, Of g.p b → b < w1.heap.size ∧ (W.heap.size ≤ b ∨ b = N) := (hF 4 (by decide)).2
  have f11 : w1.heap[N]? = some (.cells #[.slice g.p 0 g.c, .int .i64 0, .bool false] 109 (0, 0)) := (hF 5 (by decide)).1 _ (put_args rfl rfl)
  have d5 : ∀ b, Of g.p b → ¬ b = N := hd 4 (by decide) 5 (by decide) (by decide)
  have c0 := blk_cell (k := 0) f11 rfl
  have c1 := blk_cell (k := 1) f11 rfl
  have c2 := blk_cell (k := 2) f11 rfl
  have hfin : Did w (.returned (.agg #[.slice g.p 0 g.c, .int .i64 0, .bool false])) w1 ([]) (0) (false) := by
    refine Did.ret (f5.base fun a ha => ?_) (HKW.out.new hk1 fun b hb => ?_) _ (rfl)
    · have h1 := d5 a.block ⟨a, ha, rfl⟩
      have h2 := HN.out; have h3 := HWS.out
      rcases (b5 a.block ⟨a, ha, rfl⟩).2 with h | h
      · omega
      · exact absurd h h1
    · have h2 := HN.out
      have : b = N := hb
      omega
  have HF := Lib.hid hfin
  clear hF hd f5 b5 f11 d5 hfin
  go_wp2_with fail
  exact bodyPost_ret (v := .agg #[.slice g.p 0 g.c, .int .i64 0, .bool false]) (by simp [results, Tryd.results73, go_sem, c0, c1, c2]) rfl HF.out

set_option maxHeartbeats 1000000 in
/-- pop -/
theorem deed2_some (w : World) (p : Option Addr) (c : Nat) (xs : List Int) (hrd : Rd w p (ints xs)) (hl : xs.length ≤ 1099511627776) (hp : ∀ a, p = some a → a.spot = none) (x : Int) (hpos : 0 < xs.length) :
    Calls Tryd.prog 73 #[.slice p xs.length c, .int .i64 x] w fun e w' => Did w e w' (cutAt xs (xs.length - 1)) (nth xs (xs.length - 1)) true := by
  obtain ⟨W, N, hWd, hN, hWn, hkW, hWs⟩ := fresh_block w (.cells #[.slice none 0 0, .int .i64 0, .bool false] 109)
  have hR : Hid (∀ w', KeepBut (fun x => x = N) W w' → Rd w' p (ints xs)) := fun w' hk' => hrd.stay (hkW.new hk' fun b hb => by omega)
  have HWN := Lib.hid hWn; have HKW := Lib.hid hkW; have HN := Lib.hid hN; have HWS := Lib.hid hWs
  have hlen : (cutAt xs (xs.length - 1)).length = xs.length - 1 := cutAt_length (by omega)
  have HL := Lib.hid hlen
  have hW1 : IntKind.i64.wrap ((xs.length : Int) - 1) = ((xs.length - 1 : Nat) : Int) := by rw [IntWalk.i64_in _ (by omega)]; omega
  clear hlen
  clear hrd hWn hkW hWs
  go_enter Tryd.func73, Tryd.ntmps73
  go_upto_region 1 with fail
  rw [← hWd, ← hN]
  clear hWd hN
  refine wp_own1_plain N _ HWN.out (fun i => if i = 5 then [6] else []) (fun i => if i = 5 then [6] else []) [4, 5] (by kernel_rfl)
    (fun i => if i = 4 then some ({ val := fun _ g => .agg #[.slice g.p (xs.length - 1) g.c, .int .i64 (nth xs (xs.length - 1)), .bool true], fp := fun _ g => Of g.p, post := fun _ g w => OwnI 2 0 w g.p g.c (cutAt xs (xs.length - 1)) }) else if i = 5 then some (sPut N 109) else none) ?_
  repeat
    apply lex_quiet rfl rfl
    · intro w' hk; go_simp; with_reducible rfl
    simp only [Act.put, List.setIfInBounds_toArray, List.set_cons_zero, List.set_cons_succ]
  refine lex_loud rfl rfl (loud_call 74 #[.slice p xs.length c, .int .i64 (((xs.length - 1 : Nat) : Int))] (fun w => by kernel_rfl) ⟨default, trivial⟩ (fun g _ => stable_ownI _ _ _ _ _) fun w' hk' _ _ => (out_some w' p c (xs.length - 1) xs (hR.out w' hk') hl (by omega) hp).mono ?_) fun g _ => ?_
  · rintro e w'' ⟨p', c', rfl, ho, hq⟩
    exact ⟨{ p := p', c := c' }, trivial, by first | rfl | (rw [HL.out]), hq.mono fun _ e => e.elim, fun b ⟨a, h1, h2⟩ => by have := ho.lt a h1; exact ⟨.inl (by omega), by omega⟩, ho.base fun _ _ => Nat.zero_le _⟩
  simp only [Act.put, List.setIfInBounds_toArray, List.set_cons_zero, List.set_cons_succ]
  repeat
    apply lex_quiet rfl rfl
    · intro w' hk; go_simp; with_reducible rfl
    simp only [Act.put, List.setIfInBounds_toArray, List.set_cons_zero, List.set_cons_succ]
  refine lex_loud rfl rfl (loud_put N 109 109 #[.slice g.p (xs.length - 1) g.c, .int .i64 (nth xs (xs.length - 1)), .bool true] _ (.tmp 4) (.tmp 9) rfl rfl rfl 6 (by decide) (by decide) (fun w h => h) ⟨rfl, rfl⟩ rfl (by kernel_rfl) (by simp [Value.oneCell'])) fun g3 _ => ?_
  refine lex_nil ?_
  intro w1 hk1 hF hd
  have f5 : OwnI 2 0 w1 g.p g.c (cutAt xs (xs.length - 1)) := (hF 4 (by decide)).1
  have b5 : ∀ b, Of g.p b → b < w1.heap.size ∧ (W.heap.size ≤ b ∨ b = N) := (hF 4 (by decide)).2
  have f11 : w1.heap[N]? = some (.cells #[.slice g.p (xs.length - 1) g.c, .int .i64 (nth xs (xs.length - 1)), .bool true] 109 (0, 0)) := (hF 5 (by decide)).1 _ (put_args rfl rfl)
  have d5 : ∀ b, Of g.p b → ¬ b = N := hd 4 (by decide) 5 (by decide) (by decide)
  have c0 := blk_cell (k := 0) f11 rfl
  have c1 := blk_cell (k := 1) f11 rfl
  have c2 := blk_cell (k := 2) f11 rfl
  have hfin : Did w (.returned (.agg #[.slice g.p (xs.length - 1) g.c, .int .i64 (nth xs (xs.length - 1)), .bool true])) w1 (cutAt xs (xs.length - 1)) (nth xs (xs.length - 1)) (true) := by
    refine Did.ret (f5.base fun a ha => ?_) (HKW.out.new hk1 fun b hb => ?_) _ (HL.out.symm)
    · have h1 := d5 a.block ⟨a, ha, rfl⟩
      have h2 := HN.out; have h3 := HWS.out
      rcases (b5 a.block ⟨a, ha, rfl⟩).2 with h | h
      · omega
      · exact absurd h h1
    · have h2 := HN.out
      have : b = N := hb
      omega
  have HF := Lib.hid hfin
  clear hF hd f5 b5 f11 d5 hfin
  go_wp2_with fail
  exact bodyPost_ret (v := .agg #[.slice g.p (xs.length - 1) g.c, .int .i64 (nth xs (xs.length - 1)), .bool true]) (by simp [results, Tryd.results73, go_sem, c0, c1, c2]) rfl HF.out

set_option maxHeartbeats 1000000 in
/-- deq of nothing -/
theorem deed3_none (w : World) (p : Option Addr) (c : Nat) (x : Int) :
    Calls Tryd.prog 75 #[.slice p 0 c, .int .i64 x] w fun e w' => Did w e w' [] 0 false := by
  obtain ⟨W, N, hWd, hN, hWn, hkW, hWs⟩ := fresh_block w (.cells #[.slice none 0 0, .int .i64 0, .bool false] 109)
  have HWN := Lib.hid hWn; have HKW := Lib.hid hkW; have HN := Lib.hid hN; have HWS := Lib.hid hWs
  have HL := Lib.hid (rfl : ([] : List Int).length = 0)
  clear hWn hkW hWs
  go_enter Tryd.func75, Tryd.ntmps75
  go_upto_region 1 with fail
  rw [← hWd, ← hN]
  clear hWd hN
  refine wp_own1_plain N _ HWN.out (fun i => if i = 2 then [3] else []) (fun i => if i = 2 then [3] else []) [1, 2] (by kernel_rfl)
    (fun i => if i = 1 then some ({ val := fun _ g => .agg #[.slice g.p 0 g.c, .int .i64 0, .bool false], fp := fun _ g => Of g.p, post := fun _ g w => OwnI 2 0 w g.p g.c [] }) else if i = 2 then some (sPut N 109) else none) ?_
  repeat
    apply lex_quiet rfl rfl
    · intro w' hk; go_simp; with_reducible rfl
    simp only [Act.put, List.setIfInBounds_toArray, List.set_cons_zero, List.set_cons_succ]
  refine lex_loud rfl rfl (loud_call 74 #[.slice p 0 c, .int .i64 (0)] (fun w => by kernel_rfl) ⟨default, trivial⟩ (fun g _ => stable_ownI _ _ _ _ _) fun w' hk' _ _ => (out_none w' p c _).mono ?_) fun g _ => ?_
  · rintro e w'' ⟨p', c', rfl, ho, hq⟩
    exact ⟨{ p := p', c := c' }, trivial, by first | rfl | (rw [HL.out]), hq.mono fun _ e => e.elim, fun b ⟨a, h1, h2⟩ => by have := ho.lt a h1; exact ⟨.inl (by omega), by omega⟩, ho.base fun _ _ => Nat.zero_le _⟩
  simp only [Act.put, List.setIfInBounds_toArray, List.set_cons_zero, List.set_cons_succ]
  repeat
    apply lex_quiet rfl rfl
    · intro w' hk; go_simp; with_reducible rfl
    simp only [Act.put, List.setIfInBounds_toArray, List.set_cons_zero, List.set_cons_succ]
  refine lex_loud rfl rfl (loud_put N 109 109 #[.slice g.p 0 g.c, .int .i64 0, .bool false] _ (.tmp 4) (.tmp 6) rfl rfl rfl 3 (by decide) (by decide) (fun w h => h) ⟨rfl, rfl⟩ rfl (by kernel_rfl) (by simp [Value.oneCell'])) fun g3 _ => ?_
  refine lex_nil ?_
  intro w1 hk1 hF hd
  have f5 : OwnI 2 0 w1 g.p g.c ([]) := (hF 1 (by decide)).1
  have b5 : ∀ b, Of g.p b → b < w1.heap.size ∧ (W.heap.size ≤ b ∨ b = N) := (hF 1 (by decide)).2
  have f11 : w1.heap[N]? = some (.cells #[.slice g.p 0 g.c, .int .i64 0, .bool false] 109 (0, 0)) := (hF 2 (by decide)).1 _ (put_args rfl rfl)
  have d5 : ∀ b, Of g.p b → ¬ b = N := hd 1 (by decide) 2 (by decide) (by decide)
  have c0 := blk_cell (k := 0) f11 rfl
  have c1 := blk_cell (k := 1) f11 rfl
  have c2 := blk_cell (k := 2) f11 rfl
  have hfin : Did w (.returned (.agg #[.slice g.p 0 g.c, .int .i64 0, .bool false])) w1 ([]) (0) (false) := by
    refine Did.ret (f5.base fun a ha => ?_) (HKW.out.new hk1 fun b hb => ?_) _ (rfl)
    · have h1 := d5 a.block ⟨a, ha, rfl⟩
      have h2 := HN.out; have h3 := HWS.out
      rcases (b5 a.block ⟨a, ha, rfl⟩).2 with h | h
      · omega
      · exact absurd h h1
    · have h2 := HN.out
      have : b = N := hb
      omega
  have HF := Lib.hid hfin
  clear hF hd f5 b5 f11 d5 hfin
  go_wp2_with fail
  exact bodyPost_ret (v := .agg #[.slice g.p 0 g.c, .int .i64 0, .bool false]) (by simp [results, Tryd.results75, go_sem, c0, c1, c2]) rfl HF.out

set_option maxHeartbeats 1000000 in
/-- deq -/
theorem deed3_some (w : World) (p : Option Addr) (c : Nat) (xs : List Int) (hrd : Rd w p (ints xs)) (hl : xs.length ≤ 1099511627776) (hp : ∀ a, p = some a → a.spot = none) (x : Int) (hpos : 0 < xs.length) :
    Calls Tryd.prog 75 #[.slice p xs.length c, .int .i64 x] w fun e w' => Did w e w' (cutAt xs (0)) (nth xs (0)) true := by
  obtain ⟨W, N, hWd, hN, hWn, hkW, hWs⟩ := fresh_block w (.cells #[.slice none 0 0, .int .i64 0, .bool false] 109)
  have hR : Hid (∀ w', KeepBut (fun x => x = N) W w' → Rd w' p (ints xs)) := fun w' hk' => hrd.stay (hkW.new hk' fun b hb => by omega)
  have HWN := Lib.hid hWn; have HKW := Lib.hid hkW; have HN := Lib.hid hN; have HWS := Lib.hid hWs
  have hlen : (cutAt xs (0)).length = xs.length - 1 := cutAt_length (by omega)
  have HL := Lib.hid hlen
  clear hlen
  clear hrd hWn hkW hWs
  go_enter Tryd.func75, Tryd.ntmps75
  go_upto_region 1 with fail
  rw [← hWd, ← hN]
  clear hWd hN
  refine wp_own1_plain N _ HWN.out (fun i => if i = 2 then [3] else []) (fun i => if i = 2 then [3] else []) [1, 2] (by kernel_rfl)
    (fun i => if i = 1 then some ({ val := fun _ g => .agg #[.slice g.p (xs.length - 1) g.c, .int .i64 (nth xs (0)), .bool true], fp := fun _ g => Of g.p, post := fun _ g w => OwnI 2 0 w g.p g.c (cutAt xs (0)) }) else if i = 2 then some (sPut N 109) else none) ?_
  repeat
    apply lex_quiet rfl rfl
    · intro w' hk; go_simp; with_reducible rfl
    simp only [Act.put, List.setIfInBounds_toArray, List.set_cons_zero, List.set_cons_succ]
  refine lex_loud rfl rfl (loud_call 74 #[.slice p xs.length c, .int .i64 (((0 : Nat) : Int))] (fun w => by kernel_rfl) ⟨default, trivial⟩ (fun g _ => stable_ownI _ _ _ _ _) fun w' hk' _ _ => (out_some w' p c (0) xs (hR.out w' hk') hl (by omega) hp).mono ?_) fun g _ => ?_
  · rintro e w'' ⟨p', c', rfl, ho, hq⟩
    exact ⟨{ p := p', c := c' }, trivial, by first | rfl | (rw [HL.out]), hq.mono fun _ e => e.elim, fun b ⟨a, h1, h2⟩ => by have := ho.lt a h1; exact ⟨.inl (by omega), by omega⟩, ho.base fun _ _ => Nat.zero_le _⟩
  simp only [Act.put, List.setIfInBounds_toArray, List.set_cons_zero, List.set_cons_succ]
  repeat
    apply lex_quiet rfl rfl
    · intro w' hk; go_simp; with_reducible rfl
    simp only [Act.put, List.setIfInBounds_toArray, List.set_cons_zero, List.set_cons_succ]
  refine lex_loud rfl rfl (loud_put N 109 109 #[.slice g.p (xs.length - 1) g.c, .int .i64 (nth xs (0)), .bool true] _ (.tmp 4) (.tmp 6) rfl rfl rfl 3 (by decide) (by decide) (fun w h => h) ⟨rfl, rfl⟩ rfl (by kernel_rfl) (by simp [Value.oneCell'])) fun g3 _ => ?_
  refine lex_nil ?_
  intro w1 hk1 hF hd
  have f5 : OwnI 2 0 w1 g.p g.c (cutAt xs (0)) := (hF 1 (by decide)).1
  have b5 : ∀ b, Of g.p b → b < w1.heap.size ∧ (W.heap.size ≤ b ∨ b = N) := (hF 1 (by decide)).2
  have f11 : w1.heap[N]? = some (.cells #[.slice g.p (xs.length - 1) g.c, .int .i64 (nth xs (0)), .bool true] 109 (0, 0)) := (hF 2 (by decide)).1 _ (put_args rfl rfl)
  have d5 : ∀ b, Of g.p b → ¬ b = N := hd 1 (by decide) 2 (by decide) (by decide)
  have c0 := blk_cell (k := 0) f11 rfl
  have c1 := blk_cell (k := 1) f11 rfl
  have c2 := blk_cell (k := 2) f11 rfl
  have hfin : Did w (.returned (.agg #[.slice g.p (xs.length - 1) g.c, .int .i64 (nth xs (0)), .bool true])) w1 (cutAt xs (0)) (nth xs (0)) (true) := by
    refine Did.ret (f5.base fun a ha => ?_) (HKW.out.new hk1 fun b hb => ?_) _ (HL.out.symm)
    · have h1 := d5 a.block ⟨a, ha, rfl⟩
      have h2 := HN.out; have h3 := HWS.out
      rcases (b5 a.block ⟨a, ha, rfl⟩).2 with h | h
      · omega
      · exact absurd h h1
    · have h2 := HN.out
      have : b = N := hb
      omega
  have HF := Lib.hid hfin
  clear hF hd f5 b5 f11 d5 hfin
  go_wp2_with fail
  exact bodyPost_ret (v := .agg #[.slice g.p (xs.length - 1) g.c, .int .i64 (nth xs (0)), .bool true]) (by simp [results, Tryd.results75, go_sem, c0, c1, c2]) rfl HF.out

set_option maxHeartbeats 1000000 in
/-- add of what is there -/
theorem add_there (w : World) (p : Option Addr) (c : Nat) (xs : List Int) (hrd : Rd w p (ints xs)) (hl : xs.length ≤ 1099511627776) (hp : ∀ a, p = some a → a.spot = none) (x : Int) (hs : xs.Pairwise (· ≤ ·)) (hB : xs.contains x = true) :
    Calls Tryd.prog 76 #[.slice p xs.length c, .int .i64 x] w fun e w' => Did w e w' xs 0 false := by
  obtain ⟨W, N, hWd, hN, hWn, hkW, hWs⟩ := fresh_block w (.cells #[.slice none 0 0, .int .i64 0, .bool false] 109)
  have hcon : ∀ W', Rd W' p (ints xs) → Calls Tryd.prog 79 #[.slice p xs.length c, .int .i64 x] W' fun e w' => e = .returned (.tuple #[.int .i64 (xs.countP (· < x) : Nat), .bool true]) ∧ Drew W' w' := fun W' h => by
    rw [← hB]; exact search_any W' p xs x c h hl hs
  have hKl : xs.countP (· < x) ≤ xs.length := List.countP_le_length
  generalize xs.countP (· < x) = K at *
  have HCON := Lib.hid hcon; have HRD := Lib.hid hrd; have HS := Lib.hid hs
  have HRW := Lib.hid (hrd.stay hkW)
  have HWN := Lib.hid hWn; have HKW := Lib.hid hkW; have HN := Lib.hid hN; have HWS := Lib.hid hWs
  clear hcon hrd hWn hkW hWs hs hB
  go_enter Tryd.func76, Tryd.ntmps76
  go_upto_region 1 with fail
  rw [← hWd, ← hN]
  clear hWd hN
  go_upto_region 3 with (go_at_call 79; refine (HCON.out _ HRW.out).mono ?_; rintro e W2 ⟨rfl, hd⟩; have HD := Lib.hid hd; clear hd)
  have HWN2 := Lib.hid (show W2.heap[N]? = some (.cells #[.slice none 0 0, .int .i64 0, .bool false] 109 (0, 0)) by rw [HD.out.heap]; exact HWN.out)
  have HKW2 := Lib.hid (HKW.out.trans (HD.out.keep (fun _ => False)))
  have HWS2 := Lib.hid (show W2.heap.size = N + 1 by rw [HD.out.heap]; exact HWS.out)
  have hR2 : Hid (∀ w', KeepBut (fun x => x = N) W2 w' → Rd w' p (ints xs)) := fun w' hk' => HRD.out.stay (HKW2.out.new hk' fun b hb => by have := HN.out; omega)
  refine wp_own1_plain N _ HWN2.out (fun i => if i = 3 then [4] else []) (fun i => if i = 3 then [4] else []) [1, 3] (by kernel_rfl)
    (fun i => if i = 1 then some (sOwnI 2 xs) else if i = 3 then some (sPut N 109) else none) ?_
  repeat
    apply lex_quiet rfl rfl
    · intro w' hk; go_simp; with_reducible rfl
    simp only [Act.put, List.setIfInBounds_toArray, List.set_cons_zero, List.set_cons_succ]
  refine lex_loud rfl rfl (loud_call 44 #[.slice p xs.length c] (fun w => by kernel_rfl) ⟨default, trivial⟩ (fun g _ => stable_ownI _ _ _ _ _) fun w' hk' _ _ => (clone_any w' _ xs c (hR2.out w' hk') hl hp).mono ?_) fun g _ => ?_
  · rintro e w'' ⟨p', c', rfl, ho, hq⟩
    exact ⟨{ p := p', c := c' }, trivial, rfl, hq.mono fun _ e => e.elim, fun b ⟨a, h1, h2⟩ => by have := ho.lt a h1; exact ⟨.inl (by omega), by omega⟩, ho.base fun _ _ => Nat.zero_le _⟩
  simp only [sOwnI, Act.put, List.setIfInBounds_toArray, List.set_cons_zero, List.set_cons_succ]
  repeat
    apply lex_quiet rfl rfl
    · intro w' hk; go_simp; with_reducible rfl
    simp only [Act.put, List.setIfInBounds_toArray, List.set_cons_zero, List.set_cons_succ]
  refine lex_loud rfl rfl (loud_put N 109 109 #[.slice g.p xs.length g.c, .int .i64 0, .bool false] _ (.tmp 4) (.tmp 16) rfl rfl rfl 4 (by decide) (by decide) (fun w h => h) ⟨rfl, rfl⟩ rfl (by kernel_rfl) (by simp [Value.oneCell'])) fun g3 _ => ?_
  refine lex_nil ?_
  intro w1 hk1 hF hd
  have f5 : OwnI 2 0 w1 g.p g.c (xs) := (hF 1 (by decide)).1
  have b5 : ∀ b, Of g.p b → b < w1.heap.size ∧ (W2.heap.size ≤ b ∨ b = N) := (hF 1 (by decide)).2
  have f11 : w1.heap[N]? = some (.cells #[.slice g.p xs.length g.c, .int .i64 0, .bool false] 109 (0, 0)) := (hF 3 (by decide)).1 _ (put_args rfl rfl)
  have d5 : ∀ b, Of g.p b → ¬ b = N := hd 1 (by decide) 3 (by decide) (by decide)
  have c0 := blk_cell (k := 0) f11 rfl
  have c1 := blk_cell (k := 1) f11 rfl
  have c2 := blk_cell (k := 2) f11 rfl
  have hfin : Did w (.returned (.agg #[.slice g.p xs.length g.c, .int .i64 0, .bool false])) w1 (xs) (0) (false) := by
    refine Did.ret (f5.base fun a ha => ?_) (HKW2.out.new hk1 fun b hb => ?_) _ (rfl)
    · have h1 := d5 a.block ⟨a, ha, rfl⟩
      have h2 := HN.out; have h3 := HWS2.out
      rcases (b5 a.block ⟨a, ha, rfl⟩).2 with h | h
      · omega
      · exact absurd h h1
    · have h2 := HN.out
      have : b = N := hb
      omega
  have HF := Lib.hid hfin
  clear hF hd f5 b5 f11 d5 hfin
  go_wp2_with fail
  exact bodyPost_ret (v := .agg #[.slice g.p xs.length g.c, .int .i64 0, .bool false]) (by simp [results, Tryd.results76, go_sem, c0, c1, c2]) rfl HF.out

set_option maxHeartbeats 1000000 in
/-- remove of what is not there -/
theorem remove_none (w : World) (p : Option Addr) (c : Nat) (xs : List Int) (hrd : Rd w p (ints xs)) (hl : xs.length ≤ 1099511627776) (hp : ∀ a, p = some a → a.spot = none) (x : Int) (hs : xs.Pairwise (· ≤ ·)) (hB : xs.contains x = false) :
    Calls Tryd.prog 77 #[.slice p xs.length c, .int .i64 x] w fun e w' => Did w e w' xs 0 false := by
  obtain ⟨W, N, hWd, hN, hWn, hkW, hWs⟩ := fresh_block w (.cells #[.slice none 0 0, .int .i64 0, .bool false] 109)
  have hcon : ∀ W', Rd W' p (ints xs) → Calls Tryd.prog 79 #[.slice p xs.length c, .int .i64 x] W' fun e w' => e = .returned (.tuple #[.int .i64 (xs.countP (· < x) : Nat), .bool false]) ∧ Drew W' w' := fun W' h => by
    rw [← hB]; exact search_any W' p xs x c h hl hs
  have hKl : xs.countP (· < x) ≤ xs.length := List.countP_le_length
  generalize xs.countP (· < x) = K at *
  have HCON := Lib.hid hcon; have HRD := Lib.hid hrd; have HS := Lib.hid hs
  have HRW := Lib.hid (hrd.stay hkW)
  have HWN := Lib.hid hWn; have HKW := Lib.hid hkW; have HN := Lib.hid hN; have HWS := Lib.hid hWs
  clear hcon hrd hWn hkW hWs hs hB
  go_enter Tryd.func77, Tryd.ntmps77
  go_upto_region 1 with fail
  rw [← hWd, ← hN]
  clear hWd hN
  go_upto_region 3 with (go_at_call 79; refine (HCON.out _ HRW.out).mono ?_; rintro e W2 ⟨rfl, hd⟩; have HD := Lib.hid hd; clear hd)
  have HWN2 := Lib.hid (show W2.heap[N]? = some (.cells #[.slice none 0 0, .int .i64 0, .bool false] 109 (0, 0)) by rw [HD.out.heap]; exact HWN.out)
  have HKW2 := Lib.hid (HKW.out.trans (HD.out.keep (fun _ => False)))
  have HWS2 := Lib.hid (show W2.heap.size = N + 1 by rw [HD.out.heap]; exact HWS.out)
  have hR2 : Hid (∀ w', KeepBut (fun x => x = N) W2 w' → Rd w' p (ints xs)) := fun w' hk' => HRD.out.stay (HKW2.out.new hk' fun b hb => by have := HN.out; omega)
  refine wp_own1_plain N _ HWN2.out (fun i => if i = 3 then [4] else []) (fun i => if i = 3 then [4] else []) [1, 3] (by kernel_rfl)
    (fun i => if i = 1 then some (sOwnI 2 xs) else if i = 3 then some (sPut N 109) else none) ?_
  repeat
    apply lex_quiet rfl rfl
    · intro w' hk; go_simp; with_reducible rfl
    simp only [Act.put, List.setIfInBounds_toArray, List.set_cons_zero, List.set_cons_succ]
  refine lex_loud rfl rfl (loud_call 44 #[.slice p xs.length c] (fun w => by kernel_rfl) ⟨default, trivial⟩ (fun g _ => stable_ownI _ _ _ _ _) fun w' hk' _ _ => (clone_any w' _ xs c (hR2.out w' hk') hl hp).mono ?_) fun g _ => ?_
  · rintro e w'' ⟨p', c', rfl, ho, hq⟩
    exact ⟨{ p := p', c := c' }, trivial, rfl, hq.mono fun _ e => e.elim, fun b ⟨a, h1, h2⟩ => by have := ho.lt a h1; exact ⟨.inl (by omega), by omega⟩, ho.base fun _ _ => Nat.zero_le _⟩
  simp only [sOwnI, Act.put, List.setIfInBounds_toArray, List.set_cons_zero, List.set_cons_succ]
  repeat
    apply lex_quiet rfl rfl
    · intro w' hk; go_simp; with_reducible rfl
    simp only [Act.put, List.setIfInBounds_toArray, List.set_cons_zero, List.set_cons_succ]
  refine lex_loud rfl rfl (loud_put N 109 109 #[.slice g.p xs.length g.c, .int .i64 0, .bool false] _ (.tmp 4) (.tmp 17) rfl rfl rfl 4 (by decide) (by decide) (fun w h => h) ⟨rfl, rfl⟩ rfl (by kernel_rfl) (by simp [Value.oneCell'])) fun g3 _ => ?_
  refine lex_nil ?_
  intro w1 hk1 hF hd
  have f5 : OwnI 2 0 w1 g.p g.c (xs) := (hF 1 (by decide)).1
  have b5 : ∀ b, Of g.p b → b < w1.heap.size ∧ (W2.heap.size ≤ b ∨ b = N) := (hF 1 (by decide)).2
  have f11 : w1.heap[N]? = some (.cells #[.slice g.p xs.length g.c, .int .i64 0, .bool false] 109 (0, 0)) := (hF 3 (by decide)).1 _ (put_args rfl rfl)
  have d5 : ∀ b, Of g.p b → ¬ b = N := hd 1 (by decide) 3 (by decide) (by decide)
  have c0 := blk_cell (k := 0) f11 rfl
  have c1 := blk_cell (k := 1) f11 rfl
  have c2 := blk_cell (k := 2) f11 rfl
  have hfin : Did w (.returned (.agg #[.slice g.p xs.length g.c, .int .i64 0, .bool false])) w1 (xs) (0) (false) := by
    refine Did.ret (f5.base fun a ha => ?_) (HKW2.out.new hk1 fun b hb => ?_) _ (rfl)
    · have h1 := d5 a.block ⟨a, ha, rfl⟩
      have h2 := HN.out; have h3 := HWS2.out
      rcases (b5 a.block ⟨a, ha, rfl⟩).2 with h | h
      · omega
      · exact absurd h h1
    · have h2 := HN.out
      have : b = N := hb
      omega
  have HF := Lib.hid hfin
  clear hF hd f5 b5 f11 d5 hfin
  go_wp2_with fail
  exact bodyPost_ret (v := .agg #[.slice g.p xs.length g.c, .int .i64 0, .bool false]) (by simp [results, Tryd.results77, go_sem, c0, c1, c2]) rfl HF.out

set_option maxHeartbeats 1000000 in
/-- add of what is not there -/
theorem add_new (w : World) (p : Option Addr) (c : Nat) (xs : List Int) (hrd : Rd w p (ints xs)) (hl : xs.length ≤ 1099511627776) (hp : ∀ a, p = some a → a.spot = none) (x : Int) (hs : xs.Pairwise (· ≤ ·)) (hB : xs.contains x = false) :
    Calls Tryd.prog 76 #[.slice p xs.length c, .int .i64 x] w fun e w' => Did w e w' (putAt xs (xs.countP (· < x)) x) 0 true := by
  obtain ⟨W, N, hWd, hN, hWn, hkW, hWs⟩ := fresh_block w (.cells #[.slice none 0 0, .int .i64 0, .bool false] 109)
  have hcon : ∀ W', Rd W' p (ints xs) → Calls Tryd.prog 79 #[.slice p xs.length c, .int .i64 x] W' fun e w' => e = .returned (.tuple #[.int .i64 (xs.countP (· < x) : Nat), .bool false]) ∧ Drew W' w' := fun W' h => by
    rw [← hB]; exact search_any W' p xs x c h hl hs
  have hKl : xs.countP (· < x) ≤ xs.length := List.countP_le_length
  have hPl := Lib.hid (putAt_length (x := x) hKl)
  generalize xs.countP (· < x) = K at *
  have HCON := Lib.hid hcon; have HRD := Lib.hid hrd; have HS := Lib.hid hs
  have HRW := Lib.hid (hrd.stay hkW)
  have HWN := Lib.hid hWn; have HKW := Lib.hid hkW; have HN := Lib.hid hN; have HWS := Lib.hid hWs
  clear hcon hrd hWn hkW hWs hs hB
  go_enter Tryd.func76, Tryd.ntmps76
  go_upto_region 1 with fail
  rw [← hWd, ← hN]
  clear hWd hN
  go_upto_region 4 with (go_at_call 79; refine (HCON.out _ HRW.out).mono ?_; rintro e W2 ⟨rfl, hd⟩; have HD := Lib.hid hd; clear hd)
  have HWN2 := Lib.hid (show W2.heap[N]? = some (.cells #[.slice none 0 0, .int .i64 0, .bool false] 109 (0, 0)) by rw [HD.out.heap]; exact HWN.out)
  have HKW2 := Lib.hid (HKW.out.trans (HD.out.keep (fun _ => False)))
  have HWS2 := Lib.hid (show W2.heap.size = N + 1 by rw [HD.out.heap]; exact HWS.out)
  have hR2 : Hid (∀ w', KeepBut (fun x => x = N) W2 w' → Rd w' p (ints xs)) := fun w' hk' => HRD.out.stay (HKW2.out.new hk' fun b hb => by have := HN.out; omega)
  refine wp_own1_plain N _ HWN2.out (fun i => if i = 5 then [1, 4] else if i = 7 then [8] else []) (fun i => if i = 5 then [1] else if i = 7 then [8] else []) [5, 7] (by kernel_rfl)
    (fun i => if i = 1 then some (sOwnI 2 xs) else if i = 4 then some (sOne 2 x) else if i = 5 then some ({ val := fun _ g => .slice g.p (xs.length + 1) g.c, fp := fun _ g => Of g.p, post := fun _ g w => OwnI 2 0 w g.p g.c (putAt xs K x) }) else if i = 7 then some (sPut N 109) else none) ?_
  repeat
    apply lex_quiet rfl rfl
    · intro w' hk; go_simp; with_reducible rfl
    simp only [Act.put, List.setIfInBounds_toArray, List.set_cons_zero, List.set_cons_succ]
  refine lex_loud rfl rfl (loud_call 44 #[.slice p xs.length c] (fun w => by kernel_rfl) ⟨default, trivial⟩ (fun g _ => stable_ownI _ _ _ _ _) fun w' hk' _ _ => (clone_any w' _ xs c (hR2.out w' hk') hl hp).mono ?_) fun g _ => ?_
  · rintro e w'' ⟨p', c', rfl, ho, hq⟩
    exact ⟨{ p := p', c := c' }, trivial, rfl, hq.mono fun _ e => e.elim, fun b ⟨a, h1, h2⟩ => by have := ho.lt a h1; exact ⟨.inl (by omega), by omega⟩, ho.base fun _ _ => Nat.zero_le _⟩
  simp only [sOwnI, sOne, Act.put, List.setIfInBounds_toArray, List.set_cons_zero, List.set_cons_succ]
  repeat
    apply lex_quiet rfl rfl
    · intro w' hk; go_simp; with_reducible rfl
    simp only [Act.put, List.setIfInBounds_toArray, List.set_cons_zero, List.set_cons_succ]
  refine lex_loud rfl rfl (loud_one _ _ fun w => by go_simp) fun g1 _ => ?_
  simp only [Act.put, List.setIfInBounds_toArray, List.set_cons_zero, List.set_cons_succ]
  refine lex_loud rfl rfl (loud_call 83 #[.slice g.p xs.length g.c, .int .i64 K, .slice (some ⟨g1.b, 0, none⟩) 1 1] (fun w => by kernel_rfl) ⟨default, trivial⟩ (fun g _ => stable_ownI _ _ _ _ _) fun w' hk' hF hd => (insert_any 0 w' g.p g.c K g1.b xs x _ (hF 1 (by decide)).1 hl hKl rfl (hF 4 (by decide)).1 (fun a ha e => hd 1 (by decide) 4 (by decide) (by decide) a.block ⟨a, ha, rfl⟩ e.symm) (Nat.zero_le _)).mono ?_) fun g2 _ => ?_
  · rintro e w'' ⟨p', c', rfl, ho, hq, ha⟩
    refine ⟨{ p := p', c := c' }, trivial, rfl, hq.mono fun b hb => ⟨1, by decide, hb⟩, fun b hb => ⟨?_, by obtain ⟨a, h1, h2⟩ := hb; have := ho.lt a h1; omega⟩, ho⟩
    rcases ha b hb with h | h
    · exact .inr ⟨1, by decide, h⟩
    · exact .inl h
  simp only [Act.put, List.setIfInBounds_toArray, List.set_cons_zero, List.set_cons_succ]
  repeat
    apply lex_quiet rfl rfl
    · intro w' hk; go_simp; with_reducible rfl
    simp only [Act.put, List.setIfInBounds_toArray, List.set_cons_zero, List.set_cons_succ]
  refine lex_loud rfl rfl (loud_put N 109 109 #[.slice g2.p (xs.length + 1) g2.c, .int .i64 0, .bool true] _ (.tmp 4) (.tmp 23) rfl rfl rfl 8 (by decide) (by decide) (fun w h => h) ⟨rfl, rfl⟩ rfl (by kernel_rfl) (by simp [Value.oneCell'])) fun g3 _ => ?_
  refine lex_nil ?_
  intro w1 hk1 hF hd
  have f5 : OwnI 2 0 w1 g2.p g2.c (putAt xs K x) := (hF 5 (by decide)).1
  have b5 : ∀ b, Of g2.p b → b < w1.heap.size ∧ (W2.heap.size ≤ b ∨ b = N) := (hF 5 (by decide)).2
  have f11 : w1.heap[N]? = some (.cells #[.slice g2.p (xs.length + 1) g2.c, .int .i64 0, .bool true] 109 (0, 0)) := (hF 7 (by decide)).1 _ (put_args rfl rfl)
  have d5 : ∀ b, Of g2.p b → ¬ b = N := hd 5 (by decide) 7 (by decide) (by decide)
  have c0 := blk_cell (k := 0) f11 rfl
  have c1 := blk_cell (k := 1) f11 rfl
  have c2 := blk_cell (k := 2) f11 rfl
  have hfin : Did w (.returned (.agg #[.slice g2.p (xs.length + 1) g2.c, .int .i64 0, .bool true])) w1 (putAt xs K x) (0) (true) := by
    refine Did.ret (f5.base fun a ha => ?_) (HKW2.out.new hk1 fun b hb => ?_) _ (hPl.out.symm)
    · have h1 := d5 a.block ⟨a, ha, rfl⟩
      have h2 := HN.out; have h3 := HWS2.out
      rcases (b5 a.block ⟨a, ha, rfl⟩).2 with h | h
      · omega
      · exact absurd h h1
    · have h2 := HN.out
      have : b = N := hb
      omega
  have HF := Lib.hid hfin
  clear hF hd f5 b5 f11 d5 hfin
  go_wp2_with fail
  exact bodyPost_ret (v := .agg #[.slice g2.p (xs.length + 1) g2.c, .int .i64 0, .bool true]) (by simp [results, Tryd.results76, go_sem, c0, c1, c2]) rfl HF.out

set_option maxHeartbeats 1000000 in
/-- remove of what is there -/
theorem remove_there (w : World) (p : Option Addr) (c : Nat) (xs : List Int) (hrd : Rd w p (ints xs)) (hl : xs.length ≤ 1099511627776) (hp : ∀ a, p = some a → a.spot = none) (x : Int) (hs : xs.Pairwise (· ≤ ·)) (hB : xs.contains x = true) (hlt : xs.countP (· < x) < xs.length) :
    Calls Tryd.prog 77 #[.slice p xs.length c, .int .i64 x] w fun e w' => Did w e w' (cutAt xs (xs.countP (· < x))) 0 true := by
  obtain ⟨W, N, hWd, hN, hWn, hkW, hWs⟩ := fresh_block w (.cells #[.slice none 0 0, .int .i64 0, .bool false] 109)
  have hcon : ∀ W', Rd W' p (ints xs) → Calls Tryd.prog 79 #[.slice p xs.length c, .int .i64 x] W' fun e w' => e = .returned (.tuple #[.int .i64 (xs.countP (· < x) : Nat), .bool true]) ∧ Drew W' w' := fun W' h => by
    rw [← hB]; exact search_any W' p xs x c h hl hs
  have hKl : xs.countP (· < x) ≤ xs.length := List.countP_le_length
  have hPl := Lib.hid (cutAt_length hlt)
  generalize xs.countP (· < x) = K at *
  have HCON := Lib.hid hcon; have HRD := Lib.hid hrd; have HS := Lib.hid hs
  have HRW := Lib.hid (hrd.stay hkW)
  have HWN := Lib.hid hWn; have HKW := Lib.hid hkW; have HN := Lib.hid hN; have HWS := Lib.hid hWs
  have hW1 : IntKind.i64.wrap ((K : Int) + 1) = (K : Int) + 1 := IntWalk.i64_in _ (by omega)
  clear hcon hrd hWn hkW hWs hs hB
  go_enter Tryd.func77, Tryd.ntmps77
  go_upto_region 1 with fail
  rw [← hWd, ← hN]
  clear hWd hN
  go_upto_region 4 with (go_at_call 79; refine (HCON.out _ HRW.out).mono ?_; rintro e W2 ⟨rfl, hd⟩; have HD := Lib.hid hd; clear hd)
  have HWN2 := Lib.hid (show W2.heap[N]? = some (.cells #[.slice none 0 0, .int .i64 0, .bool false] 109 (0, 0)) by rw [HD.out.heap]; exact HWN.out)
  have HKW2 := Lib.hid (HKW.out.trans (HD.out.keep (fun _ => False)))
  have HWS2 := Lib.hid (show W2.heap.size = N + 1 by rw [HD.out.heap]; exact HWS.out)
  have hR2 : Hid (∀ w', KeepBut (fun x => x = N) W2 w' → Rd w' p (ints xs)) := fun w' hk' => HRD.out.stay (HKW2.out.new hk' fun b hb => by have := HN.out; omega)
  refine wp_own1_plain N _ HWN2.out (fun i => if i = 5 then [1] else if i = 7 then [8] else []) (fun i => if i = 5 then [1] else if i = 7 then [8] else []) [5, 7] (by kernel_rfl)
    (fun i => if i = 1 then some (sOwnI 2 xs) else if i = 5 then some ({ val := fun _ g => .slice g.p (xs.length - 1) g.c, fp := fun _ g => Of g.p, post := fun _ g w => OwnI 2 0 w g.p g.c (cutAt xs K) }) else if i = 7 then some (sPut N 109) else none) ?_
  repeat
    apply lex_quiet rfl rfl
    · intro w' hk; go_simp; with_reducible rfl
    simp only [Act.put, List.setIfInBounds_toArray, List.set_cons_zero, List.set_cons_succ]
  refine lex_loud rfl rfl (loud_call 44 #[.slice p xs.length c] (fun w => by kernel_rfl) ⟨default, trivial⟩ (fun g _ => stable_ownI _ _ _ _ _) fun w' hk' _ _ => (clone_any w' _ xs c (hR2.out w' hk') hl hp).mono ?_) fun g _ => ?_
  · rintro e w'' ⟨p', c', rfl, ho, hq⟩
    exact ⟨{ p := p', c := c' }, trivial, rfl, hq.mono fun _ e => e.elim, fun b ⟨a, h1, h2⟩ => by have := ho.lt a h1; exact ⟨.inl (by omega), by omega⟩, ho.base fun _ _ => Nat.zero_le _⟩
  simp only [sOwnI, Act.put, List.setIfInBounds_toArray, List.set_cons_zero, List.set_cons_succ]
  repeat
    apply lex_quiet rfl rfl
    · intro w' hk; go_simp; with_reducible rfl
    simp only [Act.put, List.setIfInBounds_toArray, List.set_cons_zero, List.set_cons_succ]
  refine lex_loud rfl rfl (loud_call 82 #[.slice g.p xs.length g.c, .int .i64 K, .int .i64 (K + 1)] (fun w => by kernel_rfl) ⟨default, trivial⟩ (fun g _ => stable_ownI _ _ _ _ _) fun w' hk' hF _ => (delete_any 0 w' g.p xs g.c K _ _ (hF 1 (by decide)).1 hlt rfl rfl).mono ?_) fun g2 _ => ?_
  · rintro e w'' ⟨rfl, ho, hq⟩
    exact ⟨{ p := g.p, c := g.c }, trivial, rfl, hq.mono fun b hb => ⟨1, by decide, hb⟩, fun b hb => ⟨.inr ⟨1, by decide, hb⟩, by obtain ⟨a, h1, h2⟩ := hb; have := ho.lt a h1; omega⟩, ho⟩
  simp only [Act.put, List.setIfInBounds_toArray, List.set_cons_zero, List.set_cons_succ]
  repeat
    apply lex_quiet rfl rfl
    · intro w' hk; go_simp; with_reducible rfl
    simp only [Act.put, List.setIfInBounds_toArray, List.set_cons_zero, List.set_cons_succ]
  refine lex_loud rfl rfl (loud_put N 109 109 #[.slice g2.p (xs.length - 1) g2.c, .int .i64 0, .bool true] _ (.tmp 4) (.tmp 24) rfl rfl rfl 8 (by decide) (by decide) (fun w h => h) ⟨rfl, rfl⟩ rfl (by kernel_rfl) (by simp [Value.oneCell'])) fun g3 _ => ?_
  refine lex_nil ?_
  intro w1 hk1 hF hd
  have f5 : OwnI 2 0 w1 g2.p g2.c (cutAt xs K) := (hF 5 (by decide)).1
  have b5 : ∀ b, Of g2.p b → b < w1.heap.size ∧ (W2.heap.size ≤ b ∨ b = N) := (hF 5 (by decide)).2
  have f11 : w1.heap[N]? = some (.cells #[.slice g2.p (xs.length - 1) g2.c, .int .i64 0, .bool true] 109 (0, 0)) := (hF 7 (by decide)).1 _ (put_args rfl rfl)
  have d5 : ∀ b, Of g2.p b → ¬ b = N := hd 5 (by decide) 7 (by decide) (by decide)
  have c0 := blk_cell (k := 0) f11 rfl
  have c1 := blk_cell (k := 1) f11 rfl
  have c2 := blk_cell (k := 2) f11 rfl
  have hfin : Did w (.returned (.agg #[.slice g2.p (xs.length - 1) g2.c, .int .i64 0, .bool true])) w1 (cutAt xs K) (0) (true) := by
    refine Did.ret (f5.base fun a ha => ?_) (HKW2.out.new hk1 fun b hb => ?_) _ (hPl.out.symm)
    · have h1 := d5 a.block ⟨a, ha, rfl⟩
      have h2 := HN.out; have h3 := HWS2.out
      rcases (b5 a.block ⟨a, ha, rfl⟩).2 with h | h
      · omega
      · exact absurd h h1
    · have h2 := HN.out
      have : b = N := hb
      omega
  have HF := Lib.hid hfin
  clear hF hd f5 b5 f11 d5 hfin
  go_wp2_with fail
  exact bodyPost_ret (v := .agg #[.slice g2.p (xs.length - 1) g2.c, .int .i64 0, .bool true]) (by simp [results, Tryd.results77, go_sem, c0, c1, c2]) rfl HF.out

set_option maxHeartbeats 1000000 in
/-- has -/
theorem has_any (w : World) (p : Option Addr) (c : Nat) (xs : List Int) (hrd : Rd w p (ints xs)) (hl : xs.length ≤ 1099511627776) (hp : ∀ a, p = some a → a.spot = none) (x : Int) (hs : xs.Pairwise (· ≤ ·)) (r : Bool) (hB : xs.contains x = r) :
    Calls Tryd.prog 78 #[.slice p xs.length c, .int .i64 x] w fun e w' => Did w e w' xs 0 r := by
  obtain ⟨W, N, hWd, hN, hWn, hkW, hWs⟩ := fresh_block w (.cells #[.slice none 0 0, .int .i64 0, .bool false] 109)
  have hcon : ∀ W', Rd W' p (ints xs) → Calls Tryd.prog 79 #[.slice p xs.length c, .int .i64 x] W' fun e w' => e = .returned (.tuple #[.int .i64 (xs.countP (· < x) : Nat), .bool r]) ∧ Drew W' w' := fun W' h => by
    rw [← hB]; exact search_any W' p xs x c h hl hs
  have hKl : xs.countP (· < x) ≤ xs.length := List.countP_le_length
  generalize xs.countP (· < x) = K at *
  have HCON := Lib.hid hcon; have HRD := Lib.hid hrd; have HS := Lib.hid hs
  have HRW := Lib.hid (hrd.stay hkW)
  have HWN := Lib.hid hWn; have HKW := Lib.hid hkW; have HN := Lib.hid hN; have HWS := Lib.hid hWs
  clear hcon hrd hWn hkW hWs hs hB
  go_enter Tryd.func78, Tryd.ntmps78
  go_upto_region 1 with fail
  rw [← hWd, ← hN]
  clear hWd hN
  go_upto_region 2 with (go_at_call 79; refine (HCON.out _ HRW.out).mono ?_; rintro e W2 ⟨rfl, hd⟩; have HD := Lib.hid hd; clear hd)
  have HWN2 := Lib.hid (show W2.heap[N]? = some (.cells #[.slice none 0 0, .int .i64 0, .bool false] 109 (0, 0)) by rw [HD.out.heap]; exact HWN.out)
  have HKW2 := Lib.hid (HKW.out.trans (HD.out.keep (fun _ => False)))
  have HWS2 := Lib.hid (show W2.heap.size = N + 1 by rw [HD.out.heap]; exact HWS.out)
  have hR2 : Hid (∀ w', KeepBut (fun x => x = N) W2 w' → Rd w' p (ints xs)) := fun w' hk' => HRD.out.stay (HKW2.out.new hk' fun b hb => by have := HN.out; omega)
  refine wp_own1_plain N _ HWN2.out (fun i => if i = 4 then [5] else []) (fun i => if i = 4 then [5] else []) [1, 4] (by kernel_rfl)
    (fun i => if i = 1 then some (sOwnI 2 xs) else if i = 4 then some (sPut N 109) else none) ?_
  repeat
    apply lex_quiet rfl rfl
    · intro w' hk; go_simp; with_reducible rfl
    simp only [Act.put, List.setIfInBounds_toArray, List.set_cons_zero, List.set_cons_succ]
  refine lex_loud rfl rfl (loud_call 44 #[.slice p xs.length c] (fun w => by kernel_rfl) ⟨default, trivial⟩ (fun g _ => stable_ownI _ _ _ _ _) fun w' hk' _ _ => (clone_any w' _ xs c (hR2.out w' hk') hl hp).mono ?_) fun g _ => ?_
  · rintro e w'' ⟨p', c', rfl, ho, hq⟩
    exact ⟨{ p := p', c := c' }, trivial, rfl, hq.mono fun _ e => e.elim, fun b ⟨a, h1, h2⟩ => by have := ho.lt a h1; exact ⟨.inl (by omega), by omega⟩, ho.base fun _ _ => Nat.zero_le _⟩
  simp only [sOwnI, Act.put, List.setIfInBounds_toArray, List.set_cons_zero, List.set_cons_succ]
  repeat
    apply lex_quiet rfl rfl
    · intro w' hk; go_simp; with_reducible rfl
    simp only [Act.put, List.setIfInBounds_toArray, List.set_cons_zero, List.set_cons_succ]
  refine lex_loud rfl rfl (loud_put N 109 109 #[.slice g.p xs.length g.c, .int .i64 0, .bool r] _ (.tmp 4) (.tmp 16) rfl rfl rfl 5 (by decide) (by decide) (fun w h => h) ⟨rfl, rfl⟩ rfl (by kernel_rfl) (by simp [Value.oneCell'])) fun g3 _ => ?_
  refine lex_nil ?_
  intro w1 hk1 hF hd
  have f5 : OwnI 2 0 w1 g.p g.c (xs) := (hF 1 (by decide)).1
  have b5 : ∀ b, Of g.p b → b < w1.heap.size ∧ (W2.heap.size ≤ b ∨ b = N) := (hF 1 (by decide)).2
  have f11 : w1.heap[N]? = some (.cells #[.slice g.p xs.length g.c, .int .i64 0, .bool r] 109 (0, 0)) := (hF 4 (by decide)).1 _ (put_args rfl rfl)
  have d5 : ∀ b, Of g.p b → ¬ b = N := hd 1 (by decide) 4 (by decide) (by decide)
  have c0 := blk_cell (k := 0) f11 rfl
  have c1 := blk_cell (k := 1) f11 rfl
  have c2 := blk_cell (k := 2) f11 rfl
  have hfin : Did w (.returned (.agg #[.slice g.p xs.length g.c, .int .i64 0, .bool r])) w1 (xs) (0) (r) := by
    refine Did.ret (f5.base fun a ha => ?_) (HKW2.out.new hk1 fun b hb => ?_) _ (rfl)
    · have h1 := d5 a.block ⟨a, ha, rfl⟩
      have h2 := HN.out; have h3 := HWS2.out
      rcases (b5 a.block ⟨a, ha, rfl⟩).2 with h | h
      · omega
      · exact absurd h h1
    · have h2 := HN.out
      have : b = N := hb
      omega
  have HF := Lib.hid hfin
  clear hF hd f5 b5 f11 d5 hfin
  go_wp2_with fail
  exact bodyPost_ret (v := .agg #[.slice g.p xs.length g.c, .int .i64 0, .bool r]) (by simp [results, Tryd.results78, go_sem, c0, c1, c2]) rfl HF.out

end Go.Proofs.YtoolpifkfgileaaDoor
