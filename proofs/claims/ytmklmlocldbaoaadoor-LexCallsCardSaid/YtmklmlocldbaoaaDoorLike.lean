/-
  lex.Like, by slices.EqualFunc; rows of tokens whatever they are.
-/
import Derived.Test.YtmklmlocldbaoaaDoorPlaces
namespace Go.Proofs.YtmklmlocldbaoaaDoor
open Go Go.RowKit Own

/-- a token as it lies in memory -/
structure G where
  k : Int
  s : ByteArray
  n : Int
  l : Int
  c : Int
def G.val (t : G) : Value := .agg #[.int .i64 t.k, .string t.s, .int .i64 t.n, .int .i64 t.l, .int .i64 t.c]
def eqG (x y : G) : Bool := x.k == y.k && (x.s.toList == y.s.toList && x.n == y.n)
def likeB : List G → List G → Bool
  | [], [] => true
  | x :: xs, y :: ys => eqG x y && likeB xs ys
  | _, _ => false

/-- tokens are read from p on -/
def RowG (w : World) (p : Option Addr) (l : List G) : Prop := ∀ i (h : i < l.length), ∃ g o, p = some ⟨g, o, none⟩ ∧
  w.cell? ⟨g, o + i * 5, none⟩ = some (.int .i64 l[i].k) ∧ w.cell? ⟨g, o + i * 5 + 1, none⟩ = some (.string l[i].s) ∧ w.cell? ⟨g, o + i * 5 + 2, none⟩ = some (.int .i64 l[i].n) ∧
  w.cell? ⟨g, o + i * 5 + 3, none⟩ = some (.int .i64 l[i].l) ∧ w.cell? ⟨g, o + i * 5 + 4, none⟩ = some (.int .i64 l[i].c)

theorem RowG.stay {w w' : World} {p : Option Addr} {l : List G} (h : RowG w p l) (k : KeepBut (fun _ => False) w w') : RowG w' p l := fun i hi => by
  obtain ⟨g, o, h1, h2, h3, h4, h5, h6⟩ := h i hi
  exact ⟨g, o, h1, k.stay h2, k.stay h3, k.stay h4, k.stay h5, k.stay h6⟩

def toG (i : Item) : G := ⟨i.tok.kind, ⟨i.tok.text.toArray⟩, i.tok.num, i.line, i.col⟩
theorem RowT.toG {w : World} {p : Option Addr} {its : List Item} (h : RowT w p its) : RowG w p (its.map toG) := fun i hi => by
  rw [List.length_map] at hi
  obtain ⟨g, h1, h2, h3, h4, h5, h6⟩ := h i hi
  refine ⟨g, 0, h1, ?_⟩
  simp only [List.getElem_map, Nat.zero_add]
  exact ⟨h2, h3, h4, h5, h6⟩

theorem likeB_len : ∀ {a b : List G}, likeB a b = true → a.length = b.length
  | [], [], _ => rfl
  | x :: xs, y :: ys, h => by
    simp only [likeB, Bool.and_eq_true] at h
    rw [List.length_cons, List.length_cons, likeB_len h.2]
  | [], _ :: _, h => by cases h
  | _ :: _, [], h => by cases h
theorem likeB_of_len {a b : List G} (h : a.length ≠ b.length) : likeB a b = false := by
  rw [← Bool.not_eq_true]
  exact fun e => h (likeB_len e)
theorem likeB_toks : ∀ {a b : List Item}, toks a = toks b → likeB (a.map toG) (b.map toG) = true
  | [], [], _ => rfl
  | x :: xs, y :: ys, h => by
    simp only [toks, List.map_cons, List.cons.injEq] at h
    have ih := likeB_toks (a := xs) (b := ys) h.2
    simp only [List.map_cons, likeB, ih, Bool.and_true]
    unfold eqG Go.Proofs.YtmklmlocldbaoaaDoor.toG
    rw [h.1]
    simp
  | [], _ :: _, h => by cases h
  | _ :: _, [], h => by cases h

set_option maxHeartbeats 4000000 in
theorem like1_any (x y : G) (w : World) : Calls Tryd.prog 25 #[x.val, y.val] w fun e w' => e = .returned (.bool (eqG x y)) ∧ KeepBut (fun _ => False) w w' := by
  obtain ⟨W1, B2, hW1, hB2, hb2, hk1, hs1⟩ := fresh_block w (.cells #[.int .i64 x.k, .string x.s, .int .i64 x.n, .int .i64 x.l, .int .i64 x.c] 30)
  obtain ⟨W2, B3, hW2, hB3, hb3, hk2, hs2⟩ := fresh_block W1 (.cells #[.int .i64 y.k, .string y.s, .int .i64 y.n, .int .i64 y.l, .int .i64 y.c] 30)
  obtain ⟨a0, a1, a2, -⟩ := blk5 (hk2.blk hb2)
  obtain ⟨d0, d1, d2, -⟩ := blk5 hb3
  have HK := Lib.hid (hk1.trans hk2)
  have hN : B2 + 1 = B3 := by omega
  clear hb2 hb3 hk1 hk2 hs1 hs2
  have HE := Lib.hid (show eqG x y = (x.k == y.k && (x.s.toList == y.s.toList && x.n == y.n)) from rfl)
  unfold G.val
  cases h1 : (x.k == y.k) with
  | false =>
    go_enter Tryd.func25, Tryd.ntmps25
    go_upto_region 1 with fail
    rw [← hW1, ← hB2, ← hW2, hN]
    go_wp2
    go_ret
    exact ⟨ret_bool (by rw [HE.out, h1]; rfl), by rw [← hW1, ← hW2]; exact HK.out⟩
  | true =>
    cases h2 : (x.s.toList == y.s.toList) with
    | false =>
      go_enter Tryd.func25, Tryd.ntmps25
      go_upto_region 1 with fail
      rw [← hW1, ← hB2, ← hW2, hN]
      go_wp2
      go_ret
      exact ⟨ret_bool (by rw [HE.out, h1, h2]; rfl), by rw [← hW1, ← hW2]; exact HK.out⟩
    | true =>
      cases h3 : (x.n == y.n) with
      | false =>
        go_enter Tryd.func25, Tryd.ntmps25
        go_upto_region 1 with fail
        rw [← hW1, ← hB2, ← hW2, hN]
        go_wp2
        go_ret
        exact ⟨ret_bool (by rw [HE.out, h1, h2, h3]; rfl), by rw [← hW1, ← hW2]; exact HK.out⟩
      | true =>
        go_enter Tryd.func25, Tryd.ntmps25
        go_upto_region 1 with fail
        rw [← hW1, ← hB2, ← hW2, hN]
        go_wp2
        go_ret
        exact ⟨ret_bool (by rw [HE.out, h1, h2, h3]; rfl), by rw [← hW1, ← hW2]; exact HK.out⟩

set_option maxRecDepth 100000 in
set_option maxHeartbeats 4000000 in
theorem equalFunc_any (w : World) (p q : Option Addr) (c d : Nat) (a b : List G) (hp : RowG w p a) (hq : RowG w q b) (hl : a.length ≤ 1099511627776) :
    Calls Tryd.prog 24 #[.slice p a.length c, .slice q b.length d, .func (.func 25) #[] #[]] w fun e w' => e = .returned (.bool (likeB a b)) ∧ KeepBut (fun _ => False) w w' := by
  have HP := Lib.hid hp; have HQ := Lib.hid hq
  clear hp hq
  by_cases hlen : a.length = b.length
  · have hne : ((a.length : Int) != (b.length : Int)) = false := by simp [hlen]
    have HLN := Lib.hid hlen
    clear hlen
    go_enter Tryd.func24, Tryd.ntmps24
    go_wp2_with fail
    go_loopw [17] (fun v17 wr => ∃ i : Nat, i ≤ a.length ∧ v17 = .int .i64 i ∧ likeB (a.drop i) (b.drop i) = likeB a b ∧ KeepBut (fun _ => False) w wr) (fun v _ => a.length - (intOf v).toNat)
    case atStart => exact ⟨0, Nat.zero_le _, rfl, rfl, KeepBut.refl _ _⟩
    case round =>
      obtain ⟨i, hi, rfl, hlk, hkr⟩ := hrel
      by_cases hlt : i < a.length
      · have hlti : (i : Int) < (a.length : Int) := by omega
        have hltb : i < b.length := by have := HLN.out; omega
        have hltbi : (i : Int) < (b.length : Int) := by omega
        have hi0 : (0 : Int) ≤ i := by omega
        obtain ⟨g, o, hg, x0, x1, x2, x3, x4⟩ := HP.out i hlt
        obtain ⟨g', o', hg', y0, y1, y2, y3, y4⟩ := HQ.out i hltb
        have hda : a.drop i = a[i] :: a.drop (i + 1) := List.drop_eq_getElem_cons hlt
        have hdb : b.drop i = b[i] :: b.drop (i + 1) := List.drop_eq_getElem_cons hltb
        rw [hda, hdb] at hlk
        obtain ⟨x, hx⟩ : ∃ x, a[i] = x := ⟨_, rfl⟩
        obtain ⟨y, hy⟩ : ∃ y, b[i] = y := ⟨_, rfl⟩
        rw [hx, hy] at hlk
        rw [hx] at x0 x1 x2 x3 x4
        rw [hy] at y0 y1 y2 y3 y4
        replace x0 := hkr.stay x0; replace x1 := hkr.stay x1; replace x2 := hkr.stay x2; replace x3 := hkr.stay x3; replace x4 := hkr.stay x4
        replace y0 := hkr.stay y0; replace y1 := hkr.stay y1; replace y2 := hkr.stay y2; replace y3 := hkr.stay y3; replace y4 := hkr.stay y4
        have HKR := Lib.hid hkr; have HLK := Lib.hid hlk
        clear hkr hlk hda hdb hx hy
        subst hg hg'
        obtain ⟨W1, B8, hW1, hB8, hb8, hk8, hs8⟩ := fresh_block wr (.cells #[.int .i64 x.k, .string x.s, .int .i64 x.n, .int .i64 x.l, .int .i64 x.c] 30)
        go_upto_region 6 with fail
        rw [← hW1, ← hB8]
        replace y0 := hk8.stay y0; replace y1 := hk8.stay y1; replace y2 := hk8.stay y2; replace y3 := hk8.stay y3; replace y4 := hk8.stay y4
        obtain ⟨W2, B9, hW2, hB9, hb9, hk9, hs9⟩ := fresh_block W1 (.cells #[.int .i64 y.k, .string y.s, .int .i64 y.n, .int .i64 y.l, .int .i64 y.c] 30)
        have HK9 := Lib.hid (HKR.out.trans (hk8.trans hk9))
        have HB8 := Lib.hid (hk9.blk hb8)
        have HB9 := Lib.hid hb9
        clear x0 x1 x2 x3 x4 hW1 hB8 hb8 hk8 hs8 hs9 hk9 hb9
        go_upto_region 7 with fail
        rw [← hW2, ← hB9]
        obtain ⟨c0, c1, c2, c3, c4, -⟩ := blk5 HB8.out
        obtain ⟨d0, d1, d2, d3, d4, -⟩ := blk5 HB9.out
        clear hW2 hB9 y0 y1 y2 y3 y4
        have hL1 := Lib.hid (like1_any x y W2)
        unfold G.val at hL1
        have HST := Lib.hid (show (eqG x y && likeB (a.drop (i + 1)) (b.drop (i + 1))) = likeB a b from HLK.out)
        cases he : eqG x y with
        | true =>
          rw [he] at hL1
          go_wp2_with (go_at_call 25; refine hL1.out.mono ?_; rintro e w3 ⟨rfl, hk3⟩; have HK3 := Lib.hid (HK9.out.trans hk3); clear hk3 c0 c1 c2 c3 c4 d0 d1 d2 d3 d4)
          exact ⟨⟨i + 1, by omega, by simp, by have := HST.out; rw [he, Bool.true_and] at this; exact this, HK3.out⟩, by simp only [intOf]; omega⟩
        | false =>
          rw [he] at hL1
          go_wp2_with (go_at_call 25; refine hL1.out.mono ?_; rintro e w3 ⟨rfl, hk3⟩; have HK3 := Lib.hid (HK9.out.trans hk3); clear hk3 c0 c1 c2 c3 c4 d0 d1 d2 d3 d4)
          go_ret
          exact ⟨ret_bool (by have := HST.out; rw [he, Bool.false_and] at this; exact this), HK3.out⟩
      · have hnl : ¬ (i : Int) < (a.length : Int) := by omega
        have HF := Lib.hid (show likeB a b = true by
          rw [← hlk, List.drop_eq_nil_of_le (by omega), List.drop_eq_nil_of_le (by have := HLN.out; omega)]; rfl)
        have HKR := Lib.hid hkr
        clear hlk hkr
        go_wp2_with fail
        go_ret
        exact ⟨ret_bool HF.out.symm, HKR.out⟩
  · have hne : ((a.length : Int) != (b.length : Int)) = true := by simp; omega
    have HF := Lib.hid (likeB_of_len hlen)
    clear hlen
    go_enter Tryd.func24, Tryd.ntmps24
    go_wp2_with fail
    go_ret
    exact ⟨ret_bool HF.out.symm, KeepBut.refl _ _⟩

theorem like_any (w : World) (p q : Option Addr) (c d : Nat) (a b : List G) (hp : RowG w p a) (hq : RowG w q b) (hl : a.length ≤ 1099511627776) :
    Calls Tryd.prog 12 #[.slice p a.length c, .slice q b.length d] w fun e w' => e = .returned (.bool (likeB a b)) ∧ KeepBut (fun _ => False) w w' := by
  have hE := Lib.hid (equalFunc_any w p q c d a b hp hq hl)
  clear hp hq
  go_enter Tryd.func12, Tryd.ntmps12
  go_wp2_with (go_at_call 24; refine hE.out.mono ?_; rintro e w' ⟨rfl, hk⟩)
  go_ret
  exact ⟨rfl, hk⟩

end Go.Proofs.YtmklmlocldbaoaaDoor
