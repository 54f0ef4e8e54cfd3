/-
  Package spec: what a call does to the items: the deeds.
-/
import Derived.Test.YtoolpifkfgileaaDoorSpec1
namespace Go.Proofs.YtoolpifkfgileaaDoor
open Go Go.RowKit Own

/-- the numbers without that of a place -/
def cutAt (xs : List Int) (k : Nat) : List Int := xs.eraseIdx k
theorem cutAt_length {xs : List Int} {k : Nat} (h : k < xs.length) : (cutAt xs k).length = xs.length - 1 := List.length_eraseIdx_of_lt h
/-- the numbers with one put in at a place -/
def putAt (xs : List Int) (k : Nat) (x : Int) : List Int := xs.insertIdx k x
theorem putAt_length {xs : List Int} {k : Nat} {x : Int} (h : k ≤ xs.length) : (putAt xs k x).length = xs.length + 1 := List.length_insertIdx_of_le_length h _

/-- what a deed returns -/
def Did (w : World) (e : Ending) (w' : World) (xs : List Int) (v : Int) (b : Bool) : Prop :=
  ∃ p c, e = .returned (.agg #[.slice p xs.length c, .int .i64 v, .bool b]) ∧ OwnI 2 w.heap.size w' p c xs ∧ KeepBut (fun _ => False) w w'

theorem Did.ret {w w' : World} {p : Option Addr} {c : Nat} {xs : List Int} {v : Int} {b : Bool} (h1 : OwnI 2 w.heap.size w' p c xs) (h2 : KeepBut (fun _ => False) w w') (n : Nat) (hn : n = xs.length) :
    Did w (.returned (.agg #[.slice p n c, .int .i64 v, .bool b])) w' xs v b := ⟨p, c, by rw [hn], h1, h2⟩

set_option maxHeartbeats 1000000 in
/-- spec.out where there is nothing -/
theorem out_none (w : World) (p : Option Addr) (c : Nat) (k : Int) :
    Calls Tryd.prog 74 #[.slice p 0 c, .int .i64 k] w fun e w' => Did w e w' [] 0 false := by
  go_enter Tryd.func74, Tryd.ntmps74
  go_wp2
  refine bodyPost_ret (v := .agg #[.slice none 0 0, .int .i64 0, .bool false]) (by simp [results, Tryd.results74, go_sem]) rfl (Did.ret OwnI.empty ?_ _ rfl)
  exact KeepBut.alloc _ _ _

set_option maxHeartbeats 1000000 in
/-- spec.out -/
theorem out_some (w : World) (p : Option Addr) (c k : Nat) (xs : List Int) (hrd : Rd w p (ints xs)) (hl : xs.length ≤ 1099511627776) (hk : k < xs.length) (hp : ∀ a, p = some a → a.spot = none) :
    Calls Tryd.prog 74 #[.slice p xs.length c, .int .i64 k] w fun e w' => Did w e w' (cutAt xs k) (nth xs k) true := by
  obtain ⟨b, off, rfl, hb⟩ := hrd.ptr (by rw [ints_length]; omega)
  have hcell := hrd.int k hk
  have h0 : ((xs.length : Int) == 0) = false := by rw [beq_eq_false_iff_ne]; omega
  have hi1 : (0:Int) ≤ (k : Int) := by omega
  have hi2 : (k:Int) < (xs.length : Int) := by omega
  have hW : IntKind.i64.wrap ((k:Int)+1) = k + 1 := IntWalk.i64_in _ (by omega)
  obtain ⟨N, hN⟩ : ∃ N, N = w.heap.size := ⟨_, rfl⟩
  obtain ⟨W, hWd⟩ : ∃ W, W = w.alloc (.cells #[.slice none 0 0, .int .i64 0, .bool false] 109) := ⟨_, rfl⟩
  have hkW : KeepBut (fun _ => False) w W := by rw [hWd]; exact KeepBut.alloc _ _ _
  have hWn : W.heap[N]? = some (.cells #[.slice none 0 0, .int .i64 0, .bool false] 109 (0, 0)) := by rw [hWd, hN]; exact heap_alloc_new w _
  have hWs : W.heap.size = N + 1 := by rw [hWd, hN]; simp
  have hC : ∀ w', KeepBut (fun x => x = N) W.drew w' → w'.cell? ⟨b, off + k, none⟩ = some (.int .i64 (nth xs k)) := fun w' hk' =>
    hk'.cell (show W.drew.cell? _ = _ from hkW.stay hcell) (show ¬ b = N by omega)
  have hR : Hid (∀ w', KeepBut (fun x => x = N) W.drew w' → Rd w' (some ⟨b, off, none⟩) (ints xs)) := fun w' hk' =>
    Rd.keep (w := W.drew) (show Rd W.drew _ _ from (hrd.stay hkW : Rd W _ _)) hk' (fun a ha e => by cases ha; simp only at e; omega)
  have hlen : (cutAt xs k).length = xs.length - 1 := cutAt_length hk
  have HL := Lib.hid hlen; have HWN := Lib.hid hWn; have HKW := Lib.hid hkW; have HN := Lib.hid hN; have HWS := Lib.hid hWs
  clear hrd hcell hlen hWn hkW hWs
  go_enter Tryd.func74, Tryd.ntmps74
  go_wp2_with fail
  rw [← hWd, ← hN]
  clear hWd hN
  refine wp_own1 (by kernel_rfl) N _ HWN.out (fun i => [[], [0], [], [], [3], [0, 1, 2, 3, 4], [], [], [6, 7], [6, 7, 8], [0, 1, 2, 3, 4, 5, 6, 7, 8, 9], [0, 1, 2, 3, 4, 5, 6, 7, 8, 9, 10]].getD i [])
    (fun i => if i = 5 then [1] else if i = 11 then [12] else []) (fun i => if i = 5 then [1] else if i = 11 then [12] else []) [5, 11] (by kernel_rfl)
    (fun i => if i = 1 then some (sOwnI 2 xs) else if i = 5 then some { val := fun _ g => .slice g.p (xs.length - 1) g.c, fp := fun _ g => Of g.p, post := fun _ g w => OwnI 2 0 w g.p g.c (cutAt xs k) }
      else if i = 11 then some (sPut N 109) else none) ?_
  repeat
    apply lex_quiet rfl rfl
    · intro w' hk; go_simp; with_reducible rfl
    simp only [Act.put, List.setIfInBounds_toArray, List.set_cons_zero, List.set_cons_succ]
  refine lex_loud rfl rfl (loud_call 44 #[.slice (some ⟨b, off, none⟩) xs.length c] (fun w => by kernel_rfl) ⟨default, trivial⟩ (fun g _ => stable_ownI _ _ _ _ _) fun w' hk' _ _ => (clone_any w' _ xs c (hR.out w' hk') hl hp).mono ?_) fun g _ => ?_
  · rintro e w'' ⟨p', c', rfl, ho, hq⟩
    exact ⟨{ p := p', c := c' }, trivial, rfl, hq.mono fun _ e => e.elim, fun b ⟨a, h1, h2⟩ => by have := ho.lt a h1; exact ⟨.inl (by omega), by omega⟩, ho.base fun _ _ => Nat.zero_le _⟩
  simp only [sOwnI, Act.put, List.setIfInBounds_toArray, List.set_cons_zero, List.set_cons_succ]
  repeat
    apply lex_quiet rfl rfl
    · intro w' hk; go_simp; with_reducible rfl
    simp only [Act.put, List.setIfInBounds_toArray, List.set_cons_zero, List.set_cons_succ]
  refine lex_loud rfl rfl (loud_call 82 #[.slice g.p xs.length g.c, .int .i64 k, .int .i64 (k + 1)] (fun w => by kernel_rfl) ⟨default, trivial⟩ (fun g _ => stable_ownI _ _ _ _ _) fun w' hk' hF _ => (delete_any 0 w' g.p xs g.c k _ _ (hF 1 (by decide)).1 hk rfl rfl).mono ?_) fun g' _ => ?_
  · rintro e w'' ⟨rfl, ho, hq⟩
    exact ⟨{ p := g.p, c := g.c }, trivial, rfl, hq.mono fun b hb => ⟨1, by decide, hb⟩, fun b hb => ⟨.inr ⟨1, by decide, hb⟩, by obtain ⟨a, h1, h2⟩ := hb; have := ho.lt a h1; omega⟩, ho⟩
  simp only [Act.put, List.setIfInBounds_toArray, List.set_cons_zero, List.set_cons_succ]
  repeat
    apply lex_quiet rfl rfl
    · intro w' hk; go_simp; with_reducible rfl
    simp only [Act.put, List.setIfInBounds_toArray, List.set_cons_zero, List.set_cons_succ]
  refine lex_loud rfl rfl (loud_put N 109 109 #[.slice g'.p (xs.length - 1) g'.c, .int .i64 (nth xs k), .bool true] _ (.tmp 4) (.tmp 19) rfl rfl rfl 12 (by decide) (by decide) (fun w h => h) ⟨rfl, rfl⟩ rfl (by kernel_rfl) (by simp [Value.oneCell'])) fun g2 _ => ?_
  refine lex_nil ?_
  intro w1 hk1 hF hd
  have f5 : OwnI 2 0 w1 g'.p g'.c (cutAt xs k) := (hF 5 (by decide)).1
  have b5 : ∀ b, Of g'.p b → b < w1.heap.size ∧ (W.heap.size ≤ b ∨ b = N) := (hF 5 (by decide)).2
  have f11 : w1.heap[N]? = some (.cells #[.slice g'.p (xs.length - 1) g'.c, .int .i64 (nth xs k), .bool true] 109 (0, 0)) := (hF 11 (by decide)).1 _ (put_args rfl rfl)
  have d5 : ∀ b, Of g'.p b → ¬ b = N := hd 5 (by decide) 11 (by decide) (by decide)
  have c0 := blk_cell (k := 0) f11 rfl
  have c1 := blk_cell (k := 1) f11 rfl
  have c2 := blk_cell (k := 2) f11 rfl
  have hfin : Did w (.returned (.agg #[.slice g'.p (xs.length - 1) g'.c, .int .i64 (nth xs k), .bool true])) w1 (cutAt xs k) (nth xs k) true := by
    refine Did.ret (f5.base fun a ha => ?_) (HKW.out.new ((KeepBut.drew _ W).trans hk1) fun b hb => ?_) _ HL.out.symm
    · have h1 := d5 a.block ⟨a, ha, rfl⟩
      have h2 := HN.out; have h3 := HWS.out
      rcases (b5 a.block ⟨a, ha, rfl⟩).2 with h | h
      · omega
      · exact absurd h h1
    · have h2 := HN.out
      have : b = N := hb
      omega
  have HF := Lib.hid hfin
  clear hF hd f5 b5 f11 d5 hfin
  go_wp2_with fail
  exact bodyPost_ret (v := .agg #[.slice g'.p (xs.length - 1) g'.c, .int .i64 (nth xs k), .bool true]) (by simp [results, Tryd.results74, go_sem, c0, c1, c2]) rfl HF.out

end Go.Proofs.YtoolpifkfgileaaDoor
