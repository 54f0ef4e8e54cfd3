/- Joined texts of this work: Tel2. -/
import Derived.Test.YtomlffobbkcmdaaGreatDoorJp13
import Derived.Test.YtomlffobbkcmdaaGreatDoorJp15
import Derived.Test.YtomlffobbkcmdaaGreatDoorJp6

/-
  A teller: numbers, expressions; ExprText.
-/
namespace Go.Proofs.YtomlffobbkcmdaaGreatDoor
open Go Go.RowKit Own

abbrev TabP (w : World) : Prop := Lib.TabIs Tryz.prog w "internal/strconv.uint64pow10" .u64 Lib.pow10Tab
theorem Own.KeepBut.tabP {w w' : World} (h : KeepBut (fun _ => False) w w') (t : TabP w) : TabP w' :=
  Lib.tabBelow_of_tabIs t w' ⟨h.os, h.tape, h.output, h.size, fun j hj => h.block j hj fun e => e⟩

/-- a teller in the middle of its work: made when the world was w0 -/
structure TS (w0 : World) (b : Nat) (l : List UInt8) (w : World) : Prop where
  keep : KeepBut (fun _ => False) w0 w
  tel : Tel w0.heap.size b l w
theorem TS.after {w0 : World} {b : Nat} {l l' : List UInt8} {w w' : World} (h : TS w0 b l w) (ht : Tel w0.heap.size b l' w') (k : TelK b w w') : TS w0 b l' w' :=
  ⟨h.keep.new (k.below h.tel) fun _ e => e, ht⟩
theorem TS.on {w0 : World} {b : Nat} {l : List UInt8} {w w' : World} (h : TS w0 b l w) (k : KeepBut (fun _ => False) w w') : TS w0 b l w' := ⟨h.keep.trans k, h.tel.builder k⟩
theorem TS.onK {w0 : World} {b : Nat} {l : List UInt8} {w w' : World} (h : TS w0 b l w) (k : KeepBut (fun _ => False) w w') : TelK b w w' := .of_keep k h.tel.le.2

theorem putL_app (a c : List (List UInt8)) : putL (a ++ c) = putL a ++ putL c := by unfold putL; rw [List.flatMap_append]

theorem TS.puts {w0 : World} {b : Nat} {l : List UInt8} {w : World} (h : TS w0 b l w) (ss : List (List UInt8)) (hlen : l.length + (putL ss).length ≤ 100000000) :
    Calls Tryz.prog 39 #[.pointer (some ⟨b, 0, none⟩), .slice (some ⟨w.heap.size, 0, none⟩) ss.length ss.length] (w.alloc (.cells (ss.map strV).toArray TStr)) fun e w' => e = .returned (.tuple #[]) ∧ TS w0 b (l ++ putL ss) w' ∧ TelK b w w' := by
  have hk := KeepBut.alloc (fun _ => False) w (.cells (ss.map strV).toArray TStr)
  refine (put_any w0.heap.size b l ss w.heap.size ss.length _ (h.tel.builder hk) (heap_alloc_new w _) (by have := h.tel.le; omega) hlen).mono ?_
  rintro e w' ⟨rfl, h1, h2⟩
  exact ⟨rfl, (h.on hk).after h1 h2, (h.onK hk).trans h2⟩
theorem TS.put1 {w0 : World} {b : Nat} {l : List UInt8} {w : World} (h : TS w0 b l w) (s : List UInt8) (hlen : l.length + (putL [s]).length ≤ 100000000) :
    Calls Tryz.prog 39 #[.pointer (some ⟨b, 0, none⟩), .slice (some ⟨w.heap.size, 0, none⟩) 1 1] (w.alloc (.cells #[.string ⟨s.toArray⟩] TStr)) fun e w' => e = .returned (.tuple #[]) ∧ TS w0 b (l ++ putL [s]) w' ∧ TelK b w w' := h.puts [s] hlen
theorem TS.put2 {w0 : World} {b : Nat} {l : List UInt8} {w : World} (h : TS w0 b l w) (s t : List UInt8) (hlen : l.length + (putL [s, t]).length ≤ 100000000) :
    Calls Tryz.prog 39 #[.pointer (some ⟨b, 0, none⟩), .slice (some ⟨w.heap.size, 0, none⟩) 2 2] (w.alloc (.cells #[.string ⟨s.toArray⟩, .string ⟨t.toArray⟩] TStr)) fun e w' => e = .returned (.tuple #[]) ∧ TS w0 b (l ++ putL [s, t]) w' ∧ TelK b w w' := h.puts [s, t] hlen

set_option maxHeartbeats 4000000 in
theorem TS.number {w0 : World} {b : Nat} {l : List UInt8} {w : World} (h : TS w0 b l w) (hP : TabP w0) (n : Int) (h0 : -9223372036854775808 ≤ n) (h1 : n ≤ 9223372036854775807) (hlen : l.length + (putL [Lib.itoa n]).length ≤ 100000000) :
    Calls Tryz.prog 40 #[.pointer (some ⟨b, 0, none⟩), .int .i64 n] w fun e w' => e = .returned (.tuple #[]) ∧ TS w0 b (l ++ putL [Lib.itoa n]) w' ∧ TelK b w w' := by
  have HF := Lib.hid (Tryz.strconv_FormatInt_10 n h0 h1 w (h.keep.tabP hP))
  have HT := Lib.hid h
  have HPUT := Lib.hid (fun W (h : TS w0 b l W) => h.put1 (Lib.itoa n) hlen)
  clear h hP h0 h1 hlen
  obtain ⟨s, hs⟩ : ∃ s, Lib.itoa n = s := ⟨_, rfl⟩
  rw [hs] at HF HPUT ⊢
  clear hs
  go_enter Tryz.func40, Tryz.ntmps40
  go_wp2_with fail
  go_at_call 83
  refine HF.out.mono ?_
  rintro e w1 ⟨rfl, k, os, hw⟩
  have hk1 : KeepBut (fun _ => False) w w1 := by rw [hw]; exact KeepBut.of_below (Lib.below_grow _ w (Nat.le_refl _) k os)
  have HT1 := Lib.hid (HT.out.on hk1); have HK1 := Lib.hid (HT.out.onK hk1)
  clear hw hk1
  go_wp2_with fail
  go_at_call 39
  refine (HPUT.out w1 HT1.out).mono ?_
  rintro e w2 ⟨rfl, ht2, hk2⟩
  have HT2 := Lib.hid ht2; have HK2 := Lib.hid (HK1.out.trans hk2)
  clear ht2 hk2
  go_wp2_with fail
  go_end0
  exact ⟨rfl, HT2.out, HK2.out⟩

def wrapK (k : Int) (ts : List (List UInt8)) : List (List UInt8) := if k = 4 ∨ k = 5 then [40] :: (ts ++ [[41]]) else ts
def kindG : Gx → Int
  | .mk k _ _ _ _ _ _ => k
def unL (o : Int) : List UInt8 := if o = 1 then [45] else [33]
def signG (o : Int) : List UInt8 := signL.getD o.toNat []
mutual
/-- the tokens of an expression -/
def tokG : Gx → List (List UInt8)
  | .mk k o n nm _ _ ks =>
    if k = 1 then [Lib.itoa n]
    else if k = 2 then [nm]
    else if k = 3 then [nm, [91]] ++ (tokA ks ++ [[93]])
    else if k = 4 then [unL o] ++ kidA ks
    else kidA ks ++ ([signG o] ++ kidB ks)
def tokA : List Gx → List (List UInt8)
  | [] => []
  | x :: _ => tokG x
def kidA : List Gx → List (List UInt8)
  | [] => []
  | x :: _ => wrapK (kindG x) (tokG x)
def kidB : List Gx → List (List UInt8)
  | [] => []
  | _ :: l => kidA l
end
mutual
/-- all numbers fit -/
def fitG : Gx → Prop
  | .mk _ _ n _ _ _ ks => n ≤ 9223372036854775807 ∧ fitGL ks
def fitGL : List Gx → Prop
  | [] => True
  | x :: l => fitG x ∧ fitGL l
end

/-- what a teller's expr does with an expression -/
def Tells (w0 : World) (x : Gx) : Prop := ∀ (S : Nat → Prop) (vs : List Value), GAt w0 S vs x → ∀ (b : Nat) (l : List UInt8) (w : World), TS w0 b l w → l.length + (putL (tokG x)).length ≤ 100000000 →
  Calls Tryz.prog 27 #[.pointer (some ⟨b, 0, none⟩), .agg vs.toArray] w fun e w' => e = .returned (.tuple #[]) ∧ TS w0 b (l ++ putL (tokG x)) w' ∧ TelK b w w'
/-- .. and its kid -/
def TellsK (w0 : World) (x : Gx) : Prop := ∀ (S : Nat → Prop) (vs : List Value), GAt w0 S vs x → ∀ (b : Nat) (l : List UInt8) (w : World), TS w0 b l w → l.length + (putL (wrapK (kindG x) (tokG x))).length ≤ 100000000 →
  Calls Tryz.prog 61 #[.pointer (some ⟨b, 0, none⟩), .agg vs.toArray] w fun e w' => e = .returned (.tuple #[]) ∧ TS w0 b (l ++ putL (wrapK (kindG x) (tokG x))) w' ∧ TelK b w w'

theorem TelK.boxed {w0 : World} {b k : Nat} {l : List UInt8} {w w' : World} {cs : Array Value} (h : TelK b w w') (ht : TS w0 b l w) (hk : k ≠ b) (hb : w.heap[k]? = some (.cells cs TEx (0, 0))) : w'.heap[k]? = some (.cells cs TEx (0, 0)) := h.blk ht.tel (by decide) hk hb
set_option maxHeartbeats 8000000 in
theorem kid_of (w0 : World) (x : Gx) (hX : Tells w0 x) : TellsK w0 x := by
  intro S vs hex b l w ht hlen
  have HX := Lib.hid (fun b l w => hX S vs hex b l w)
  clear hX
  obtain ⟨k, o, n, nm, lc, cl, ks⟩ := x
  unfold GAt at hex
  obtain ⟨p, c, rfl, -⟩ := hex
  obtain ⟨m, hm⟩ : ∃ m, ks.length = m := ⟨_, rfl⟩
  rw [hm] at HX ⊢
  clear hm
  obtain ⟨T, hT⟩ : ∃ T, tokG (.mk k o n nm lc cl ks) = T := ⟨_, rfl⟩
  rw [hT] at HX hlen ⊢
  clear hT
  rw [show kindG (.mk k o n nm lc cl ks) = k from rfl] at hlen ⊢
  obtain ⟨LT, hLT⟩ : ∃ L, putL (wrapK k T) = L := ⟨_, rfl⟩
  rw [hLT] at hlen ⊢
  have HLT := Lib.hid hLT; have HLEN0 := Lib.hid hlen
  clear hLT hlen
  unfold strV at HX ⊢
  obtain ⟨W0, B3, hW, hB, hb3, hk3, hs3⟩ := fresh_block w (.cells #[.int .i64 k, .int .i64 o, .int .i64 n, .string ⟨nm.toArray⟩, .slice p m c, .int .i64 lc, .int .i64 cl] TEx)
  have HTW0 := Lib.hid (ht.on hk3); have HKW0 := Lib.hid (ht.onK hk3); have HBW0 := Lib.hid hb3
  have HNE := Lib.hid (show B3 ≠ b by have := ht.tel.le; omega)
  obtain ⟨c0, c1, c2, c3, c4, c5, c6, -⟩ := blk7 hb3
  clear ht hb3 hk3 hs3
  go_enter Tryz.func61, Tryz.ntmps61
  go_upto_region 1 with fail
  rw [← hW, ← hB]
  clear hW hB
  by_cases k4 : k = 4
  · subst k4
    have HE := Lib.hid (show LT = putL [[40]] ++ (putL T ++ putL [[41]]) by rw [← HLT.out]; unfold wrapK; rw [if_pos (by simp), ← putL_app, ← putL_app]; rfl)
    have HLEN := Lib.hid (by have h := HLEN0.out; rw [HE.out] at h; exact h)
    have HPw1 := Lib.hid (HTW0.out.put1 [40] (by have := HLEN.out; (try simp only [List.length_append] at this ⊢); omega))
    go_wp2_with fail
    go_at_call 39
    refine HPw1.out.mono ?_
    rintro e w1 ⟨rfl, ht, hk⟩
    have hb := hk.boxed HTW0.out HNE.out HBW0.out
    have HBw1 := Lib.hid hb; have HTw1 := Lib.hid ht; have HKw1 := Lib.hid (HKW0.out.trans hk)
    clear ht hk
    obtain ⟨c0, c1, c2, c3, c4, c5, c6, -⟩ := blk7 hb
    clear hb
    have HPw2 := Lib.hid (HX.out _ _ _ HTw1.out (by have := HLEN.out; (try simp only [List.length_append] at this ⊢); omega))
    go_wp2_with fail
    go_at_call 27
    refine HPw2.out.mono ?_
    rintro e w2 ⟨rfl, ht, hk⟩
    have hb := hk.boxed HTw1.out HNE.out HBw1.out
    have HBw2 := Lib.hid hb; have HTw2 := Lib.hid ht; have HKw2 := Lib.hid (HKw1.out.trans hk)
    clear ht hk
    obtain ⟨c0, c1, c2, c3, c4, c5, c6, -⟩ := blk7 hb
    clear hb
    have HPw3 := Lib.hid (HTw2.out.put1 [41] (by have := HLEN.out; (try simp only [List.length_append] at this ⊢); omega))
    go_wp2_with fail
    go_at_call 39
    refine HPw3.out.mono ?_
    rintro e w3 ⟨rfl, ht, hk⟩
    have hb := hk.boxed HTw2.out HNE.out HBw2.out
    have HBw3 := Lib.hid hb; have HTw3 := Lib.hid ht; have HKw3 := Lib.hid (HKw2.out.trans hk)
    clear ht hk
    obtain ⟨c0, c1, c2, c3, c4, c5, c6, -⟩ := blk7 hb
    clear hb
    go_wp2_with fail
    go_end0
    exact ⟨rfl, by have h := HTw3.out; rw [HE.out]; simpa only [List.append_assoc] using h, HKw3.out⟩
  · by_cases k5 : k = 5
    · subst k5
      have HE := Lib.hid (show LT = putL [[40]] ++ (putL T ++ putL [[41]]) by rw [← HLT.out]; unfold wrapK; rw [if_pos (by simp), ← putL_app, ← putL_app]; rfl)
      have HLEN := Lib.hid (by have h := HLEN0.out; rw [HE.out] at h; exact h)
      have HPw4 := Lib.hid (HTW0.out.put1 [40] (by have := HLEN.out; (try simp only [List.length_append] at this ⊢); omega))
      go_wp2_with fail
      go_at_call 39
      refine HPw4.out.mono ?_
      rintro e w4 ⟨rfl, ht, hk⟩
      have hb := hk.boxed HTW0.out HNE.out HBW0.out
      have HBw4 := Lib.hid hb; have HTw4 := Lib.hid ht; have HKw4 := Lib.hid (HKW0.out.trans hk)
      clear ht hk
      obtain ⟨c0, c1, c2, c3, c4, c5, c6, -⟩ := blk7 hb
      clear hb
      have HPw5 := Lib.hid (HX.out _ _ _ HTw4.out (by have := HLEN.out; (try simp only [List.length_append] at this ⊢); omega))
      go_wp2_with fail
      go_at_call 27
      refine HPw5.out.mono ?_
      rintro e w5 ⟨rfl, ht, hk⟩
      have hb := hk.boxed HTw4.out HNE.out HBw4.out
      have HBw5 := Lib.hid hb; have HTw5 := Lib.hid ht; have HKw5 := Lib.hid (HKw4.out.trans hk)
      clear ht hk
      obtain ⟨c0, c1, c2, c3, c4, c5, c6, -⟩ := blk7 hb
      clear hb
      have HPw6 := Lib.hid (HTw5.out.put1 [41] (by have := HLEN.out; (try simp only [List.length_append] at this ⊢); omega))
      go_wp2_with fail
      go_at_call 39
      refine HPw6.out.mono ?_
      rintro e w6 ⟨rfl, ht, hk⟩
      have hb := hk.boxed HTw5.out HNE.out HBw5.out
      have HBw6 := Lib.hid hb; have HTw6 := Lib.hid ht; have HKw6 := Lib.hid (HKw5.out.trans hk)
      clear ht hk
      obtain ⟨c0, c1, c2, c3, c4, c5, c6, -⟩ := blk7 hb
      clear hb
      go_wp2_with fail
      go_end0
      exact ⟨rfl, by have h := HTw6.out; rw [HE.out]; simpa only [List.append_assoc] using h, HKw6.out⟩
    · have HKK := Lib.hid (And.intro k4 k5)
      have k4b : (k == 4) = false := by rw [beq_eq_false_iff_ne]; exact k4
      have k5b : (k == 5) = false := by rw [beq_eq_false_iff_ne]; exact k5
      have k4c : (k != 4) = true := by rw [bne_iff_ne]; exact k4
      have k5c : (k != 5) = true := by rw [bne_iff_ne]; exact k5
      clear k4 k5
      have HE := Lib.hid (show LT = putL T by rw [← HLT.out]; unfold wrapK; rw [if_neg (fun h => h.elim HKK.out.1 HKK.out.2)])
      have HLEN := Lib.hid (by have h := HLEN0.out; rw [HE.out] at h; exact h)
      have HPw7 := Lib.hid (HX.out _ _ _ HTW0.out (by have := HLEN.out; (try simp only [List.length_append] at this ⊢); omega))
      go_wp2_with fail
      go_at_call 27
      refine HPw7.out.mono ?_
      rintro e w7 ⟨rfl, ht, hk⟩
      have hb := hk.boxed HTW0.out HNE.out HBW0.out
      have HBw7 := Lib.hid hb; have HTw7 := Lib.hid ht; have HKw7 := Lib.hid (HKW0.out.trans hk)
      clear ht hk
      obtain ⟨c0, c1, c2, c3, c4, c5, c6, -⟩ := blk7 hb
      clear hb
      go_wp2_with fail
      (try simp only [Exit.inBlock, Exit.then]); refine bodyPost_ret (results_none rfl _ _ _) rfl ?_
      exact ⟨rfl, by rw [HE.out]; exact HTw7.out, HKw7.out⟩

end Go.Proofs.YtomlffobbkcmdaaGreatDoor
