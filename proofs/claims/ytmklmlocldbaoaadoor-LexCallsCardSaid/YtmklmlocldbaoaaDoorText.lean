/-
  lex.Text, by a strings.Builder.
-/
import Derived.Test.YtmklmlocldbaoaaDoorLike
import Derived.Test.YtmklmlocldbaoaaDoorBld
namespace Go.Proofs.YtmklmlocldbaoaaDoor
open Go Go.RowKit Own

def joinL : List (List UInt8) → List UInt8
  | [] => []
  | [t] => t
  | t :: u :: ts => t ++ 32 :: joinL (u :: ts)

theorem joinL_snoc : ∀ (ts : List (List UInt8)) (t : List UInt8), joinL (ts ++ [t]) = joinL ts ++ ((if ts = [] then [] else [32]) ++ t)
  | [], t => rfl
  | [a], t => by simp [joinL]
  | a :: b :: ts, t => by
    have ih := joinL_snoc (b :: ts) t
    show a ++ 32 :: joinL (b :: (ts ++ [t])) = (a ++ 32 :: joinL (b :: ts)) ++ _
    rw [← List.cons_append, ih]
    simp

theorem joinT_eq : ∀ ts : List Tok, joinT ts = joinL (ts.map Tok.text)
  | [] => rfl
  | [t] => rfl
  | t :: u :: ts => by
    have ih := joinT_eq (u :: ts)
    simp only [List.map_cons] at ih ⊢
    simp only [joinT, joinL, ih]

def textL (l : List G) : List (List UInt8) := l.map fun t => t.s.data.toList

theorem Own.KeepBut.builder {w w' : World} (k : KeepBut (fun _ => False) w w') {B b : Nat} {p : Value} {bs : List Value} (h : Lib.BuilderAtF BT B8 B b p bs w) : Lib.BuilderAtF BT B8 B b p bs w' := by
  obtain ⟨h1, v, h2, h3, h4⟩ := h
  have g := grown_of_keep k
  exact ⟨h1, v, k.blk h2, h3.kept (row := some b) ⟨g.os, g.tape, g.output, g.size, fun j h _ => g.block j h (by simp)⟩ (.inr h4), h4⟩
theorem isB_keep {w w' : World} (k : KeepBut (fun _ => False) w w') {B b : Nat} {bs : List Value} (h : Lib.IsBuilderF BT B8 B b bs w) : Lib.IsBuilderF BT B8 B b bs w' :=
  h.elim (fun h => .inl (k.builder h)) fun h => .inr (k.builder h)
theorem isB_lt {w : World} {B b : Nat} {bs : List Value} (h : Lib.IsBuilderF BT B8 B b bs w) : b < w.heap.size := h.elim (fun h => h.lt) fun h => h.lt

set_option maxRecDepth 100000 in
set_option maxHeartbeats 8000000 in
theorem text_any (w : World) (p : Option Addr) (c : Nat) (l : List G) (hp : RowG w p l) (hl : l.length ≤ 9000) (hb : ∀ t ∈ l, t.s.size ≤ 9000) :
    Calls Tryd.prog 16 #[.slice p l.length c] w fun e w' => e = .returned (.string ⟨(joinL (textL l)).toArray⟩) ∧ KeepBut (fun _ => False) w w' := by
  have HP := Lib.hid hp; have HBD := Lib.hid hb
  clear hp hb
  obtain ⟨V, b, hV, hbb, hbk, hkV, hsV⟩ := fresh_block w (.cells #[.pointer none, .slice none 0 0] BT)
  have HKV := Lib.hid hkV
  have HW := Lib.hid (show w.heap.size = b ∧ w.heap.size ≤ V.heap.size by omega)
  have H0 := Lib.hid (show Lib.IsBuilderF BT B8 w.heap.size b (Lib.byteCells []) V from Lib.IsBuilderF.of (.inl ⟨by omega, _, hbk, World.ownsRow_nil _ _ _ _, by simp [Value.ownBlock]⟩))
  go_enter Tryd.func16, Tryd.ntmps16
  go_upto_region 2 with fail
  rw [← hV, ← hbb]
  clear hV hbb hbk hkV hsV
  go_wp2_with fail
  go_loopw [8] (fun v8 wr => ∃ i : Nat, i ≤ l.length ∧ v8 = .int .i64 i ∧ Lib.IsBuilderF BT B8 w.heap.size b (Lib.byteCells (joinL ((textL l).take i))) wr ∧ (joinL ((textL l).take i)).length ≤ i * 9001 ∧ Below w.heap.size w wr) (fun v _ => l.length - (intOf v).toNat)
  case atStart => exact ⟨0, Nat.zero_le _, rfl, H0.out, by simp [joinL], HKV.out.below⟩
  case round =>
    obtain ⟨i, hi, rfl, hbi, hln, hbw⟩ := hrel
    have HB := Lib.hid hbi; have HBW := Lib.hid hbw
    have hbsz := hbw.size
    clear hbi hbw
    by_cases hlt : i < l.length
    · have hlti : (i : Int) < (l.length : Int) := by omega
      have hi0 : (0 : Int) ≤ i := by omega
      have hkr : KeepBut (fun _ => False) w wr := KeepBut.of_below HBW.out
      obtain ⟨g, o, hg, x0, x1, x2, x3, x4⟩ := HP.out i hlt
      replace x0 := hkr.stay x0; replace x1 := hkr.stay x1; replace x2 := hkr.stay x2; replace x3 := hkr.stay x3; replace x4 := hkr.stay x4
      have hbt := HBD.out l[i] (List.getElem_mem hlt)
      obtain ⟨t, ht⟩ : ∃ t, l[i] = t := ⟨_, rfl⟩
      rw [ht] at x0 x1 x2 x3 x4 hbt
      have hstep : joinL ((textL l).take (i + 1)) = joinL ((textL l).take i) ++ ((if i = 0 then [] else [32]) ++ t.s.data.toList) := by
        have e : (textL l)[i]? = some t.s.data.toList := by simp [textL, hlt, ht]
        rw [List.take_add_one, e]
        show joinL ((textL l).take i ++ [t.s.data.toList]) = _
        rw [joinL_snoc]
        congr 2
        have hne : ((textL l).take i = []) ↔ i = 0 := by
          constructor
          · intro h
            have := congrArg List.length h
            have h2 : (textL l).length = l.length := by simp [textL]
            rw [List.length_take, List.length_nil, h2] at this
            omega
          · rintro rfl; rfl
        by_cases h0 : i = 0
        · rw [if_pos (hne.2 h0), if_pos h0]
        · rw [if_neg (fun h => h0 (hne.1 h)), if_neg h0]
      subst hg
      obtain ⟨J, hJ⟩ : ∃ J, joinL ((textL l).take i) = J := ⟨_, rfl⟩
      have hts : t.s.data.toList.length = t.s.size := by simp
      have HST := Lib.hid hstep
      rw [hJ] at HST HB hln
      obtain ⟨W1, B5, hW1, hB5, hb5, hk5, hs5⟩ := fresh_block wr (.cells #[.int .i64 t.k, .string t.s, .int .i64 t.n, .int .i64 t.l, .int .i64 t.c] 30)
      have HB5 := Lib.hid hb5
      have hbne0 : B5 ≠ b := by have := isB_lt HB.out; omega
      have HB1 := Lib.hid (show Lib.IsBuilderF BT B8 w.heap.size b (Lib.byteCells J) W1 from isB_keep hk5 HB.out)
      have HBW1 := Lib.hid (HBW.out.trans (hk5.below.mono hbsz))
      have hsz1 : w.heap.size ≤ W1.heap.size := HBW1.out.size
      go_upto_if 14 with fail
      rw [← hW1, ← hB5]
      clear x0 x1 x2 x3 x4 hW1 hB5 hb5 hk5 hs5 hstep ht hJ hkr
      have hJl : (Lib.byteCells J).length = J.length := Lib.byteCells_length J
      have hbne : B5 ≠ b := hbne0
      by_cases h0 : i = 0
      · have h0i : ¬ (0 : Int) < (i : Int) := by omega
        have n1 := (blk5 HB5.out).2.1
        have hws := Lib.hid (bld_str w.heap.size b (Lib.byteCells J) t.s W1 HB1.out (by omega) hsz1)
        have HS2 := Lib.hid (show joinL ((textL l).take (i + 1)) = J ++ t.s.data.toList by rw [HST.out, if_pos h0]; rfl)
        clear h0
        go_wp2_with (go_at_call 32; refine hws.out.mono ?_; rintro e w4 ⟨rfl, hb4, hbl4, -⟩; have HB4 := Lib.hid hb4; have HBL4 := Lib.hid hbl4; clear hb4 hbl4 n1)
        refine ⟨⟨i + 1, by omega, by simp, ?_, ?_, HBW1.out.trans HBL4.out⟩, by simp only [intOf]; omega⟩
        · rw [HS2.out, Lib.byteCells_append]
          exact .inr HB4.out
        · rw [HS2.out, List.length_append]; omega
      · have h0i : (0 : Int) < (i : Int) := by omega
        have hwb := Lib.hid (bld_byte w.heap.size b (Lib.byteCells J) 32 W1 HB1.out (by omega) hsz1)
        have hws := Lib.hid (fun W h1 h2 => bld_str w.heap.size b (Lib.byteCells J ++ [.int .u8 32]) t.s W (.inr h1) (by rw [List.length_append, hJl]; simp; omega) h2)
        have HS2 := Lib.hid (show joinL ((textL l).take (i + 1)) = (J ++ [32]) ++ t.s.data.toList by rw [HST.out, if_neg h0]; simp)
        clear h0
        go_wp2_with (first
          | (go_at_call 31; refine hwb.out.mono ?_; rintro e w3 ⟨rfl, hb3, hbl3, ho3⟩; have HB3 := Lib.hid hb3; have HBL3 := Lib.hid (HBW1.out.trans hbl3); have hsz3 := HBL3.out.size
             have n1 := (blk5 (ho3 B5 _ HB5.out (fun e => hbne (Option.some.inj e)) (fun c fz h => by cases h))).2.1
             clear hb3 hbl3 ho3)
          | (go_at_call 32; refine (hws.out _ HB3.out hsz3).mono ?_; rintro e w4 ⟨rfl, hb4, hbl4, -⟩; have HB4 := Lib.hid hb4; have HBL4 := Lib.hid hbl4; clear hb4 hbl4 n1))
        refine ⟨⟨i + 1, by omega, by simp, ?_, ?_, HBL3.out.trans HBL4.out⟩, by simp only [intOf]; omega⟩
        · rw [HS2.out, Lib.byteCells_append, Lib.byteCells_append]
          exact .inr HB4.out
        · rw [HS2.out, List.length_append, List.length_append]; simp; omega
    · have hnl : ¬ (i : Int) < (l.length : Int) := by omega
      have hie : (textL l).take i = textL l := List.take_of_length_le (by simp [textL]; omega)
      rw [hie] at HB
      have hst := Lib.hid (Tryd.Builder_String_any_k w.heap.size b (joinL (textL l)) wr HB.out hbsz)
      clear hie
      go_wp2_with (go_at_call 33; refine hst.out.mono ?_; rintro e w4 ⟨rfl, -, hbl4, -⟩; have HBL4 := Lib.hid (HBW.out.trans hbl4); clear hbl4)
      go_ret
      exact ⟨rfl, KeepBut.of_below HBL4.out⟩

end Go.Proofs.YtmklmlocldbaoaaDoor
