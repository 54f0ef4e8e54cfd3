/- Joined texts of this work: Hi7, Hi8, Hi9. -/
import Derived.Test.YtoolpifkfgileaaDoorJo9
import Derived.Lib.AppendStr
import Derived.WideKeyRuns
import Derived.Laws.StructEq

/-
  Package hist: keyed: the contents' text, and that it tells them.
-/
namespace Go.Proofs.YtoolpifkfgileaaDoor
open Go Go.RowKit Own

abbrev TabP (w : World) : Prop := Lib.TabIs Tryd.prog w "internal/strconv.uint64pow10" .u64 Lib.pow10Tab
theorem Own.KeepBut.tabP {w w' : World} (h : KeepBut (fun _ => False) w w') (t : TabP w) : TabP w' :=
  Lib.tabBelow_of_tabIs t w' ⟨h.os, h.tape, h.output, h.size, fun j hj => h.block j hj fun e => e⟩

theorem itoa_no59 (a : Int) : ∀ b ∈ Lib.itoa a, (b != 59) = true := fun b hb => by
  unfold Lib.itoa at hb
  have hd : ∀ u : Nat, ∀ b ∈ Lib.decDigits u, (b != 59) = true := fun u b hb => by
    have := dec_bytes u u (Nat.le_refl _) b hb
    rw [bne_iff_ne]
    rintro rfl
    have e : (59 : UInt8).toNat = 59 := rfl
    omega
  split at hb
  · rcases List.mem_cons.1 hb with h | h
    · rw [h]; rfl
    · exact hd _ b h
  · exact hd _ b hb

def keyL (h : List (Int × List Int)) : List UInt8 := h.flatMap fun e => keyB e.1 e.2 ++ [59]
theorem keyL_snoc (h : List (Int × List Int)) (e : Int × List Int) : keyL (h ++ [e]) = keyL h ++ keyB e.1 e.2 ++ [59] := by simp [keyL]
/-- what the search's contents always are -/
def Small (h : List (Int × List Int)) : Prop := ∀ e ∈ h, In64 e.1 ∧ e.2.length ≤ 64 ∧ ∀ x ∈ e.2, In64 x

theorem keyL_le : ∀ (h : List (Int × List Int)), Small h → (keyL h).length ≤ 1430 * h.length
  | [], _ => Nat.le_refl _
  | e :: h, hs => by
    have ih := keyL_le h fun x hx => hs x (List.mem_cons_of_mem _ hx)
    obtain ⟨h1, h2, h3⟩ := hs e List.mem_cons_self
    have h4 := keyB_length_le e.1 e.2 h1 h3
    have : keyL (e :: h) = keyB e.1 e.2 ++ [59] ++ keyL h := by simp [keyL]
    rw [this, List.length_append, List.length_append]
    simp only [List.length_cons, List.length_nil]
    omega

theorem row_keep {w w' : World} {base size : Nat} {T : TypeId} {v : Value} {n : Nat} {xs : List Value} (h : w.ownsRow base T size v n xs) (k : KeepBut (fun _ => False) w w') : w'.ownsRow base T size v n xs := by
  obtain ⟨h0, h1 | ⟨g, cap, cur, h1, h2, h3, h4⟩⟩ := h
  · exact ⟨h0, .inl h1⟩
  · exact ⟨h0, .inr ⟨g, cap, cur, h1, h2, k.blk h3, h4⟩⟩

theorem info_u8 : (Tryd.prog.info? 5).map (fun i => (i.zero, i.size, i.bytes)) = some (some (.int .u8 0), 1, 1) := by kernel_rfl

set_option maxRecDepth 100000 in
set_option maxHeartbeats 8000000 in
theorem keyed_any (w : World) (p : Option Addr) (c : Nat) (l : List Kc) (h : HasAt w p l) (hs : Small (l.map Kc.plain)) (hl : l.length ≤ 8) (hne : l ≠ []) (hT : TabP w) :
    Calls Tryd.prog 54 #[.slice p l.length c] w fun e w' => e = .returned (.string ⟨(keyL (l.map Kc.plain)).toArray⟩) ∧ KeepBut (fun _ => False) w w' := by
  have H := Lib.hid h; have HS := Lib.hid hs; have HT := Lib.hid hT
  obtain ⟨i0, hi, hz0, hz1, hz2⟩ := info_parts info_u8
  have HI := Lib.hid hi; have HZ0 := Lib.hid hz0; have HZ1 := Lib.hid hz1; have HZ2 := Lib.hid hz2
  have hpos := List.length_pos_iff.2 hne
  clear h hs hT hi hz0 hz1 hz2 hne
  go_enter Tryd.func54, Tryd.ntmps54
  go_upto_block 0 with fail
  go_wp2_with fail
  go_loopw [3, 8] (fun v3 v8 wr => ∃ i n : Nat, v8 = .int .i64 i ∧ i ≤ l.length ∧ wr.ownsRow w.heap.size 5 1 v3 n (Lib.byteCells (keyL ((l.take i).map Kc.plain))) ∧ KeepBut (fun _ => False) w wr) (fun _ v _ => l.length - (intOf v).toNat)
  case atStart => exact ⟨0, 0, rfl, Nat.zero_le _, World.ownsRow_nil _ _ _ _, KeepBut.refl _ _⟩
  case round =>
    obtain ⟨i, n, rfl, hi, hrow, hk⟩ := hrel
    have hws := hk.size
    have hnl : n = (keyL ((l.take i).map Kc.plain)).length := by have := hrow.1; rw [Lib.byteCells_length] at this; omega
    have hn2 : n ≤ 11440 := by
      have h1 := keyL_le ((l.take i).map Kc.plain) fun e he => HS.out e (by
        rw [List.map_take] at he
        exact List.mem_of_mem_take he)
      rw [List.length_map, List.length_take] at h1
      omega
    by_cases hlt : i < l.length
    · have hlti : (i : Int) < l.length := by omega
      have hi0 : (0 : Int) ≤ i := by omega
      have hWi : IntKind.i64.wrap ((i : Int) + 1) = (i : Int) + 1 := IntWalk.i64_in _ (by omega)
      obtain ⟨g, o, hp, x0, x1⟩ := (H.out.stay hk).cells i hlt
      have hmem : l[i] ∈ l := List.getElem_mem hlt
      have hlv := (H.out.stay hk).live _ hmem
      have hsm := HS.out _ (List.mem_map.2 ⟨l[i], hmem, rfl⟩)
      obtain ⟨⟨ek, eq, ex, ec⟩, he⟩ : ∃ e, l[i] = e := ⟨_, rfl⟩
      rw [he] at x0 x1 hlv hsm
      dsimp only [Kc.plain] at x0 x1 hlv hsm
      subst hp
      obtain ⟨V, B5, hV, hB5, hb5, hkV, -⟩ := fresh_block wr (.cells #[.int .i64 ek, .slice eq ex.length ec] 47)
      obtain ⟨c0, c1, -⟩ := blk2 hb5
      have hkey := key_any V ek eq ec ex (hlv.1.stay hkV) (by have := hsm.2.1; omega) hsm.1 hsm.2.2 ((hk.trans hkV).tabP HT.out)
      have HKEY := Lib.hid hkey
      have HK := Lib.hid hk; have HKV := Lib.hid hkV; have HROW := Lib.hid hrow
      have hkl : (keyB ek ex).length ≤ 1430 := by
        have := keyB_length_le ek ex hsm.1 hsm.2.2
        have := hsm.2.1
        omega
      have hsz : (⟨(keyB ek ex).toArray⟩ : ByteArray).size = (keyB ek ex).length := rfl
      have HE := Lib.hid he
      have hvs := hkV.size
      clear hk hkV hrow hkey hb5 hlv hsm hmem he
      go_upto_region 5 with fail
      rw [← hV, ← hB5]
      clear hV hB5 x0 x1
      obtain ⟨X, hX⟩ : ∃ X : ByteArray, (⟨(keyB ek ex).toArray⟩ : ByteArray) = X := ⟨_, rfl⟩
      rw [hX] at hsz HKEY
      have HX := Lib.hid hX
      clear hX
      go_wp2_with (first
        | (go_at_call 58; refine HKEY.out.mono ?_; rintro e w2 ⟨rfl, hk2⟩; have HK2 := Lib.hid hk2; have hs2 := hk2.size; have HRW2 := Lib.hid (row_keep (row_keep HROW.out HKV.out) hk2); clear hk2)
        | (at_builtin; refine Lib.wpList_append_own_string _ rfl (.tmp 12) (.tmp 14) 102 9 rfl w.heap.size 5 i0 Tryd.underlying102 Tryd.underlying9 HI.out HZ0.out HZ1.out HZ2.out _ n _ rfl HRW2.out X rfl (by unfold maxLen; omega) (by omega) (by omega) ?_
           intro v3 w3 h1 h2 _
           have H1 := Lib.hid h1; have H2 := Lib.hid h2; have hs3 := h2.size
           clear h1 h2)
        | (at_builtin; refine wpList_append_own _ rfl (.tmp 15) (.tmp 16) 102 rfl w.heap.size 5 i0 (.int .u8 0) 1 1 Tryd.underlying102 HI.out HZ0.out HZ1.out HZ2.out rfl (by decide) _ (n + X.size) _ rfl (H1.out.alloc _) ⟨w3.heap.size, 0, none⟩ 1 1 [.int .u8 59] rfl rfl (cellsAt (heap_alloc_new w3 _)) (by simp [Value.oneCell']) (by unfold maxLen; omega) (by omega) (by rw [World.size_alloc]; omega) ?_
           intro v4 w4 h1 h2 _
           have H3 := Lib.hid h1; have H4 := Lib.hid h2
           clear h1 h2))
      have k2 : KeepBut (fun _ => False) w w2 := (HK.out.trans HKV.out).trans HK2.out
      have k3 : KeepBut (fun _ => False) w w3 := k2.new (KeepBut.grown (E := fun j => u3.ownBlock = some j) H2.out fun _ e => e) fun j hj => (HROW.out.lt j hj).1
      have k4 : KeepBut (fun _ => False) w w4 := (k3.trans (KeepBut.alloc (fun _ => False) w3 (.cells #[.int .u8 59] 5))).new (KeepBut.grown (E := fun j => v3.ownBlock = some j) H4.out fun _ e => e) fun j hj => (H1.out.lt j hj).1
      refine ⟨⟨i + 1, n + X.size + 1, by simp, by omega, ?_, k4⟩, by simp only [intOf]; omega⟩
      have := H3.out
      rw [List.take_succ_eq_append_getElem hlt, List.map_append, List.map_cons, List.map_nil, keyL_snoc, HE.out, Lib.byteCells_append, Lib.byteCells_append]
      have hXe : Lib.strCells X = Lib.byteCells (keyB ek ex) := by rw [← HX.out]; rfl
      rw [hXe] at this
      exact this
    · have hnl' : ¬ (i : Int) < l.length := by omega
      have e : i = l.length := by omega
      subst e
      rw [List.take_length] at hrow hnl
      have hp0 : 0 < (keyL (l.map Kc.plain)).length := by
        cases l with
        | nil => simp at hpos
        | cons x l =>
          have : keyL ((x :: l).map Kc.plain) = keyB x.plain.1 x.plain.2 ++ [59] ++ keyL (l.map Kc.plain) := by simp [keyL]
          rw [this, List.length_append, List.length_append]
          simp only [List.length_cons, List.length_nil]
          omega
      have hcv := row_string (P := Tryd.prog) Tryd.underlying102 Tryd.underlying5 Tryd.underlying9 hrow hp0
      have HK := Lib.hid hk
      clear hk hrow hp0 hnl
      go_wp2_with fail
      go_ret
      exact ⟨rfl, HK.out⟩

/-- the text tells the contents -/
theorem keyL_inj : ∀ (a b : List (Int × List Int)), a.length = b.length → keyL a = keyL b → a = b
  | [], [], _, _ => rfl
  | [], _ :: _, h, _ => by simp at h
  | _ :: _, [], h, _ => by simp at h
  | x :: a, y :: b, h, e => by
    have ex : keyL (x :: a) = keyB x.1 x.2 ++ 59 :: keyL a := by simp [keyL]
    have ey : keyL (y :: b) = keyB y.1 y.2 ++ 59 :: keyL b := by simp [keyL]
    rw [ex, ey] at e
    have h1 : ∀ z : Int × List Int, ∀ c ∈ keyB z.1 z.2, (c != 59) = true := fun z c hc => by
      unfold keyB at hc
      rcases List.mem_append.1 hc with h | h
      · exact itoa_no59 _ c h
      · obtain ⟨v, _, h⟩ := List.mem_flatMap.1 h
        rcases List.mem_cons.1 h with h | h
        · rw [h]; rfl
        · exact itoa_no59 _ c h
    have tw : ∀ (z : Int × List Int) (r : List UInt8), (keyB z.1 z.2 ++ 59 :: r).takeWhile (· != 59) = keyB z.1 z.2 := fun z r => by
      rw [List.takeWhile_append_of_pos (h1 z)]
      simp
    have e1 : keyB x.1 x.2 = keyB y.1 y.2 := by rw [← tw x (keyL a), e, tw]
    obtain ⟨e2, e3⟩ := keyB_inj e1
    rw [e1] at e
    have e4 := List.append_cancel_left e
    have e5 : keyL a = keyL b := by simpa using e4
    rw [keyL_inj a b (by simpa using h) e5]
    congr 1
    exact Prod.ext e2 e3

end Go.Proofs.YtoolpifkfgileaaDoor

/-
  Package hist: the searcher; next.
-/
namespace Go.Proofs.YtoolpifkfgileaaDoor
open Go Go.RowKit Own

def nthK (h : List (Int × List Int)) (i : Nat) : Int × List Int := h.getD i (0, [])
/-- the contents behind one more call -/
def stepP (cs : List Cl) (h : List (Int × List Int)) (n : Nat) : Option (List (Int × List Int)) :=
  let c := nthC cs n
  let e := nthK h c.cont.toNat
  if c.till = -1 then
    let r := doR e.1 c.op e.2 c.arg
    if r.err = 0 then some (h.set c.cont.toNat (r.kind, r.items)) else none
  else
    let r := mayR e.1 c.op e.2 c.arg c.value c.code
    if r.ok = true then some (h.set c.cont.toNat (r.kind, r.items)) else none

/-- bits below m of what holds -/
def bitsOf (f : Nat → Bool) : Nat → Nat
  | 0 => 0
  | m + 1 => if f m = true then bitsOf f m ||| 2 ^ m else bitsOf f m
theorem bitsOf_lt (f : Nat → Bool) : ∀ m, bitsOf f m < 2 ^ m
  | 0 => Nat.lt_succ_self 0
  | m + 1 => by
    have ih := bitsOf_lt f m
    have : 2 ^ m < 2 ^ (m + 1) := by rw [Nat.pow_succ]; have := Nat.two_pow_pos m; omega
    unfold bitsOf
    split
    · exact Nat.or_lt_two_pow (by omega) this
    · omega
theorem bitsOf_bit (f : Nat → Bool) : ∀ m j, (bitsOf f m).testBit j = (decide (j < m) && f j)
  | 0, j => by simp [bitsOf]
  | m + 1, j => by
    have ih := bitsOf_bit f m j
    unfold bitsOf
    by_cases hf : f m = true
    · rw [if_pos hf, or_bit, ih]
      by_cases hj : j = m
      · subst hj; simp [hf]
      · have : (j < m + 1) ↔ j < m := by omega
        simp [hj, this]
    · rw [if_neg hf, ih]
      by_cases hj : j = m
      · subst hj; simp [hf]
      · have : (j < m + 1) ↔ j < m := by omega
        simp [this]
def aheadM (cs : List Cl) (n : Nat) : Nat := bitsOf (fun k => aheadB cs k n) cs.length
def endedM (cs : List Cl) : Nat := bitsOf (fun k => (nthC cs k).till != -1) cs.length

/-- may a call be next -/
def freeB (cs : List Cl) (d n : Nat) : Bool := !d.testBit n && (without (aheadM cs n) d == 0)
def nextP (cs : List Cl) (d : Nat) (h : List (Int × List Int)) (n : Nat) : Option (List (Int × List Int)) := if freeB cs d n = true then stepP cs h n else none

/-- the searcher in memory -/
structure SAt (w : World) (S A D : Nat) (pk pc : Option Addr) (ck cc : Nat) (ks : List Int) (cs : List Cl) : Prop where
  blk : w.heap[S]? = some (.cells #[.slice pk ks.length ck, .slice pc cs.length cc, .int .u32 (endedM cs : Nat), .slice (some ⟨A, 0, none⟩) cs.length cs.length, .map (some D)] 94 (0, 0))
  ahead : ∀ i, i < cs.length → w.cell? ⟨A, i, none⟩ = some (.int .u32 (aheadM cs i : Nat))
  calls : RowC w pc cs
theorem SAt.stay {w w' : World} {S A D : Nat} {pk pc : Option Addr} {ck cc : Nat} {ks : List Int} {cs : List Cl} (h : SAt w S A D pk pc ck cc ks cs) (k : KeepBut (fun _ => False) w w') : SAt w' S A D pk pc ck cc ks cs :=
  ⟨k.blk h.blk, fun i hi => k.stay (h.ahead i hi), h.calls.stay k⟩
theorem blk5S {w : World} {B : Nat} {a b c d e : Value} {T : TypeId} (h : w.heap[B]? = some (.cells #[a, b, c, d, e] T (0, 0))) :
    w.cell? ⟨B, 0, none⟩ = some a ∧ w.cell? ⟨B, 1, none⟩ = some b ∧ w.cell? ⟨B, 2, none⟩ = some c ∧ w.cell? ⟨B, 3, none⟩ = some d ∧ w.cell? ⟨B, 4, none⟩ = some e := by
  simp [World.cell?, h]

def NextDone (cs : List Cl) (d : Nat) (l : List Kc) (n : Nat) (w : World) (e : Ending) (w' : World) : Prop :=
  (nextP cs d (l.map Kc.plain) n = none ∧ e = .returned (.tuple #[.slice none 0 0, .bool false]) ∧ KeepBut (fun _ => False) w w') ∨
  ∃ p c l', nextP cs d (l.map Kc.plain) n = some (l'.map Kc.plain) ∧ e = .returned (.tuple #[.slice p l'.length c, .bool true]) ∧ HasAt w' p l' ∧ KeepBut (fun _ => False) w w'

theorem bit_of (d n : Nat) (hd : d < 4294967296) : bits .and .u32 ((d : Int) / 2 ^ n) 1 = if d.testBit n = true then 1 else 0 := by
  have e : (d : Int) / 2 ^ n = ((d / 2 ^ n : Nat) : Int) := by simp
  rw [e]
  have h1 : d / 2 ^ n < 4294967296 := Nat.lt_of_le_of_lt (Nat.div_le_self _ _) hd
  have h2 := bits_and_u32_nat (d / 2 ^ n) 1 h1 (by decide)
  rw [show ((1 : Nat) : Int) = 1 from rfl] at h2
  rw [h2, Nat.testBit_eq_decide_div_mod_eq, Nat.and_one_is_mod]
  by_cases h : d / 2 ^ n % 2 = 1
  · simp [h]
  · have : d / 2 ^ n % 2 = 0 := by omega
    simp [this]

/-- what a row of contents is when one of them is put anew -/
theorem cellsK_put {w : World} {g n m : Nat} {cur : Array Value} {l : List Kc} {e : Kc} (hg : w.heap[g]? = some (.cells ((cur.setIfInBounds (m * 2) (.int .i64 e.k)).setIfInBounds (m * 2 + 1) (.slice e.q e.xs.length e.c)) TC (0, 0)))
    (ht : cur.toList.take (n * 2) = cellsK l) (hn : n = l.length) (hs : n * 2 ≤ cur.size) (hm : m < n) : Rd w (some ⟨g, 0, none⟩) (cellsK (l.set m e)) := fun j u hj => by
  refine ⟨g, 0, rfl, ?_⟩
  rw [Nat.zero_add]
  have hlt : j < (l.set m e).length * 2 := by
    have := (List.getElem?_eq_some_iff.1 hj).1
    rwa [cellsK_length] at this
  rw [List.length_set] at hlt
  have hi : j / 2 < (l.set m e).length := by rw [List.length_set]; omega
  have hk : j % 2 < 2 := Nat.mod_lt _ (by decide)
  have hd : j / 2 * 2 + j % 2 = j := by omega
  have h1 := cellsK_at (l.set m e) (j / 2) (j % 2) hi hk
  rw [hd, hj] at h1
  refine blk_cell hg ?_
  rw [Array.getElem?_setIfInBounds, Array.getElem?_setIfInBounds]
  by_cases hm2 : j / 2 = m
  · have e1 : (l.set m e)[j / 2] = e := by
      rw [List.getElem_set]; simp [hm2]
    rw [e1] at h1
    have hsz : (cur.setIfInBounds (m * 2) (Value.int .i64 e.k)).size = cur.size := by simp
    rcases Nat.lt_or_ge (j % 2) 1 with hz | hz
    · have e0 : j % 2 = 0 := by omega
      rw [e0] at h1
      have ej : j = m * 2 := by omega
      rw [if_neg (by omega), if_pos ej.symm, if_pos (by omega)]
      simpa [Kc.vals] using h1.symm
    · have e0 : j % 2 = 1 := by omega
      rw [e0] at h1
      have ej : j = m * 2 + 1 := by omega
      rw [if_pos ej.symm, if_pos (by rw [hsz]; omega)]
      simpa [Kc.vals] using h1.symm
  · have e1 : (l.set m e)[j / 2] = l[j / 2]'(by rw [List.length_set] at hi; exact hi) := by
      rw [List.getElem_set]; rw [if_neg (fun h => hm2 h.symm)]
    rw [e1] at h1
    have h2 := cellsK_at l (j / 2) (j % 2) (by rw [List.length_set] at hi; exact hi) hk
    rw [hd, ← ht, List.getElem?_take, if_pos (by omega), ← h1] at h2
    rw [if_neg (by omega), if_neg (by omega)]
    simpa using h2

theorem Rd.keep_from {E : Nat → Prop} {w0 w w' : World} {p : Option Addr} {cs : List Value} (h0 : Rd w0 p cs) (k0 : KeepBut (fun _ => False) w0 w) (k : KeepBut E w w') (hE : ∀ b, b < w0.heap.size → ¬ E b) : Rd w' p cs := fun j v hj => by
  obtain ⟨b, o, hp, hc⟩ := h0 j v hj
  exact ⟨b, o, hp, keep_cell k (k0.stay hc) (hE b (World.block_lt_of_cell? w0 _ hc))⟩

theorem put1 {w : World} {B i : Nat} {cs : Array Value} {T : TypeId} (h : w.heap[B]? = some (.cells cs T (0, 0))) (v : Value) : (w.setCell ⟨B, i, none⟩ v).heap[B]? = some (.cells (cs.setIfInBounds i v) T (0, 0)) := by
  obtain ⟨hlt, hk⟩ := Array.getElem?_eq_some_iff.1 h
  show (w.heap.modify B _)[B]? = _
  rw [Array.getElem?_eq_getElem (by rw [Array.size_modify]; exact hlt), Array.getElem_modify_self, hk]
  rfl

def sLies (f : Option Addr → Nat → Value) (xs : List Int) : Loud := { val := fun _ g => f g.p g.c, fp := fun _ g => Of g.p, post := fun _ g w => Rd w g.p (ints xs) ∧ ∀ a, g.p = some a → a.spot = none }
theorem stable_lies {w0 : World} {M : Nat → Prop} (p : Option Addr) (xs : List Int) : Stable w0 M (Of p) (fun w => Rd w p (ints xs) ∧ ∀ a, p = some a → a.spot = none) := fun w w' _ _ _ h k => by
  refine ⟨fun j v hj => ?_, k.2⟩
  obtain ⟨b, o, hp, hc⟩ := k.1 j v hj
  refine ⟨b, o, hp, ?_⟩
  have hh := h b ⟨_, hp, rfl⟩
  unfold World.cell? at hc ⊢
  rw [hh]; exact hc

def StepRel (cs : List Cl) (l : List Kc) (n m B11 : Nat) (w V : World) (v12 : Value) (wx : World) : Prop :=
  ∃ (ok : Bool) (e : Kc), v12 = .bool ok ∧ wx.heap[B11]? = some (.cells #[.int .i64 e.k, .slice e.q e.xs.length e.c] 47 (0, 0)) ∧ (Rd wx e.q (ints e.xs) ∧ ∀ a, e.q = some a → a.spot = none) ∧
    KeepBut (fun _ => False) w wx ∧ KeepBut (fun k => k = B11) V wx ∧ stepP cs (l.map Kc.plain) n = if ok = true then some ((l.set m e).map Kc.plain) else none

theorem plain_set (l : List Kc) (m : Nat) (e : Kc) : (l.set m e).map Kc.plain = (l.map Kc.plain).set m (e.k, e.xs) := by rw [List.map_set]; rfl

set_option maxRecDepth 100000 in
set_option maxHeartbeats 32000000 in
theorem next_any (w : World) (S A D : Nat) (pk pc : Option Addr) (ck cc : Nat) (ks : List Int) (cs : List Cl) (hS : SAt w S A D pk pc ck cc ks cs) (hcl : cs.length ≤ 24) (p : Option Addr) (c : Nat) (l : List Kc) (hH : HasAt w p l)
    (hco : ∀ i, i < cs.length → 0 ≤ (nthC cs i).cont ∧ (nthC cs i).cont.toNat < l.length) (hsm : Small (l.map Kc.plain)) (hl : l.length ≤ 8) (d n : Nat) (hd : d < 4294967296) (hn : n < cs.length) :
    Calls Tryd.prog 56 #[.pointer (some ⟨S, 0, none⟩), .int .u32 d, .slice p l.length c, .int .i64 n] w fun e w' => NextDone cs d l n w e w' := by
  obtain ⟨s0, s1, s2, s3, s4⟩ := blk5S hS.blk
  have ha := hS.ahead n hn
  have n0 : (0 : Int) ≤ n := by omega
  have n1 : (n : Int) < cs.length := by omega
  have hbit := bit_of d n hd
  have hwo := bits_without (aheadM cs n) d
  have HS := Lib.hid hS; have HH := Lib.hid hH; have HSM := Lib.hid hsm
  have hc1 := hco n hn
  clear hco hS hH hsm
  cases h1 : d.testBit n with
  | true =>
    rw [h1, if_pos rfl] at hbit
    have HF := Lib.hid (show nextP cs d (l.map Kc.plain) n = none by unfold nextP freeB; rw [h1]; rfl)
    clear h1
    go_enter Tryd.func56, Tryd.ntmps56
    go_wp2_with fail
    go_ret2
    exact .inl ⟨HF.out, rfl, KeepBut.refl _ _⟩
  | false =>
    rw [h1, if_neg Bool.false_ne_true] at hbit
    cases h2 : (((without (aheadM cs n) d : Nat) : Int) != 0) with
    | true =>
      have HF := Lib.hid (show nextP cs d (l.map Kc.plain) n = none by
        have : (without (aheadM cs n) d == 0) = false := by simpa using h2
        unfold nextP freeB; rw [h1, this]; rfl)
      clear h1
      go_enter Tryd.func56, Tryd.ntmps56
      go_wp2_with fail
      go_ret2
      exact .inl ⟨HF.out, rfl, KeepBut.refl _ _⟩
    | false =>
      have HF := Lib.hid (show nextP cs d (l.map Kc.plain) n = stepP cs (l.map Kc.plain) n by
        have : (without (aheadM cs n) d == 0) = true := by simpa using h2
        unfold nextP freeB; rw [h1, this]; rfl)
      clear h1
      obtain ⟨g, o, hg, x0, x1, x2, x3, x4, x5, x6, x7⟩ := HS.out.calls n hn
      obtain ⟨⟨hha, co, op, ar, be, ti, va, cd⟩, hcl2⟩ : ∃ c, nthC cs n = c := ⟨_, rfl⟩
      rw [hcl2] at x0 x1 x2 x3 x4 x5 x6 x7 hc1
      dsimp only at x0 x1 x2 x3 x4 x5 x6 x7 hc1
      obtain ⟨m, hm⟩ : ∃ m : Nat, co = m := ⟨co.toNat, by omega⟩
      subst hm
      have hml : m < l.length := by have := hc1.2; simpa using this
      obtain ⟨V1, B10, hV1, hB10, hb10, hk1, hs1⟩ := fresh_block w (.cells #[.int .i64 hha, .int .i64 m, .int .i64 op, .int .i64 ar, .int .i64 be, .int .i64 ti, .int .i64 va, .int .i64 cd] 33)
      obtain ⟨V, B11, hV, hB11, hb11, hk2, hs2⟩ := fresh_block V1 (.cells #[.int .i64 0, .slice none 0 0] 47)
      have HK := Lib.hid (hk1.trans hk2)
      have HB10 := Lib.hid (hk2.blk hb10); have HB11 := Lib.hid hb11
      have HN := Lib.hid (show w.heap.size = B10 ∧ B10 + 1 = B11 ∧ V.heap.size = B11 + 1 by omega)
      have HCL := Lib.hid hcl2
      subst hg
      clear hk1 hk2 hs1 hs2 hb10 hb11 hcl2 hc1
      go_enter Tryd.func56, Tryd.ntmps56
      go_upto_region 4 with fail
      rw [← hV1, ← hB10]
      clear hV1 hB10 x0 x1 x2 x3 x4 x5 x6 x7 s0 s1 s2 s3 s4 ha
      go_upto_region 6 with fail
      rw [← hV, ← hB11]
      clear hV hB11 hbit hwo h2
      obtain ⟨c0, c1, c2, c3, c4, c5, c6, c7⟩ := blk8 (c := ⟨hha, m, op, ar, be, ti, va, cd⟩) HB10.out
      dsimp only at c0 c1 c2 c3 c4 c5 c6 c7
      have hel : l[m] ∈ l := List.getElem_mem hml
      obtain ⟨ga, oa, hpa, e0, e1⟩ := (HH.out.stay HK.out).cells m hml
      have hlv := HH.out.live _ hel
      have hse := HSM.out _ (List.mem_map.2 ⟨l[m], hel, rfl⟩)
      have hnk : nthK (l.map Kc.plain) m = l[m].plain := by unfold nthK; simp [List.getD, hml]
      obtain ⟨⟨ek, eq, ex, ec⟩, hem⟩ : ∃ e, l[m] = e := ⟨_, rfl⟩
      rw [hem] at e0 e1 hlv hse hnk
      dsimp only [Kc.plain] at e0 e1 hlv hse hnk
      have HLV := Lib.hid hlv; have HSE := Lib.hid hse; have HNK := Lib.hid hnk
      clear hlv hse hnk hem hel
      subst hpa
      go_upto_if 42 with fail
      obtain ⟨tb, htb⟩ : ∃ tb, (ti == -1) = tb := ⟨_, rfl⟩
      rw [htb]
      go_cut [12, 13] from 43 to 76 (fun v12 v13 wx => StepRel cs l n m B11 w V v12 wx)
      case first =>
        have ST := fun (gg oo : Nat) (v : Value) (hc : V.cell? ⟨gg, oo, none⟩ = some v) (hne : ¬ gg = B11) (w' : World) (hk : KeepBut (fun k => k = B11) V.drew w') => keep_cell ((KeepBut.drew (fun k => k = B11) V).trans hk) hc hne
        have hne10 : ¬ B10 = B11 := by have := HN.out; omega
        have hga : ¬ ga = B11 := by
          obtain ⟨g', o', hp', y0, -⟩ := HH.out.cells m hml
          cases hp'
          have h9 : ga < w.heap.size := World.block_lt_of_cell? w _ y0
          have := HN.out; omega
        have hm0 : (0 : Int) ≤ m := by omega
        have hmi : (m : Int) < l.length := by omega
        cases tb with
        | true =>
          have hti : ti = -1 := by simpa using htb
          obtain ⟨⟨rk, ry, rv, rc, re⟩, hr⟩ : ∃ r, doR ek op ex ar = r := ⟨_, rfl⟩
          have HDO := Lib.hid hr
          have HST := Lib.hid (show stepP cs (l.map Kc.plain) n = if (re == 0) = true then some ((l.map Kc.plain).set m (rk, ry)) else none by
            unfold stepP
            rw [HCL.out]
            dsimp only
            rw [if_pos hti, show ((m : Int)).toNat = m from rfl, HNK.out]
            dsimp only
            rw [HDO.out]
            simp)
          clear hti hr htb
          go_upto_region 8 with fail
          have z1 := ST _ _ _ c1 hne10; have z2 := ST _ _ _ c2 hne10; have z3 := ST _ _ _ c3 hne10
          have y0 := ST _ _ _ e0 hga; have y1 := ST _ _ _ e1 hga
          clear ST c0 c1 c2 c3 c4 c5 c6 c7 e0 e1
          refine wp_own1 (by kernel_rfl) B11 _ HB11.out (fun i => [[], [], [1], [0, 1, 2], [0, 1, 2, 3], [], [5], [], [7], [0, 1, 2, 3, 4, 5, 6, 7, 8], [0, 1, 2, 3, 4, 5, 6, 7, 8, 9], [0, 1, 2, 3, 4, 5, 6, 7, 8, 9, 10], [0, 1, 2, 3, 4, 5, 6, 7, 8, 9, 10], [0, 1, 2, 3, 4, 5, 6, 7, 8, 9, 10], [0, 1, 2, 3, 4, 5, 6, 7, 8, 9, 10], [0, 1, 2, 3, 4, 5, 6, 7, 8, 9, 10, 11], [0, 1, 2, 3, 4, 5, 6, 7, 8, 9, 10, 11, 12, 13, 14, 15]].getD i []) (fun i => if i = 15 then [17] else []) (fun i => if i = 15 then [17] else []) [9, 15] (by kernel_rfl)
            (fun i => if i = 9 then some (sLies (fun p c => .tuple #[.agg #[.int .i64 rk, .slice p ry.length c], .int .i64 rv, .int .i64 rc, .int .i64 re]) ry) else if i = 15 then some (sPut B11 47) else none) ?_
          apply lex_quiet rfl rfl
          · intro w' hk; go_simp; with_reducible rfl
          simp only [Act.put, List.setIfInBounds_toArray, List.set_cons_zero, List.set_cons_succ]
          apply lex_quiet rfl rfl
          · intro w' hk; go_simp; with_reducible rfl
          simp only [Act.put, List.setIfInBounds_toArray, List.set_cons_zero, List.set_cons_succ]
          apply lex_quiet rfl rfl
          · intro w' hk; go_simp; with_reducible rfl
          simp only [Act.put, List.setIfInBounds_toArray, List.set_cons_zero, List.set_cons_succ]
          apply lex_quiet rfl rfl
          · intro w' hk; go_simp; with_reducible rfl
          simp only [Act.put, List.setIfInBounds_toArray, List.set_cons_zero, List.set_cons_succ]
          apply lex_quiet rfl rfl
          · intro w' hk; go_simp; with_reducible rfl
          simp only [Act.put, List.setIfInBounds_toArray, List.set_cons_zero, List.set_cons_succ]
          apply lex_quiet rfl rfl
          · intro w' hk; go_simp; with_reducible rfl
          simp only [Act.put, List.setIfInBounds_toArray, List.set_cons_zero, List.set_cons_succ]
          apply lex_quiet rfl rfl
          · intro w' hk; go_simp; with_reducible rfl
          simp only [Act.put, List.setIfInBounds_toArray, List.set_cons_zero, List.set_cons_succ]
          apply lex_quiet rfl rfl
          · intro w' hk; go_simp; with_reducible rfl
          simp only [Act.put, List.setIfInBounds_toArray, List.set_cons_zero, List.set_cons_succ]
          apply lex_quiet rfl rfl
          · intro w' hk; go_simp; with_reducible rfl
          simp only [Act.put, List.setIfInBounds_toArray, List.set_cons_zero, List.set_cons_succ]
          refine lex_loud rfl rfl (loud_call 59 #[.agg #[.int .i64 ek, .slice eq ex.length ec], .int .i64 op, .int .i64 ar] (fun w => by kernel_rfl) ⟨default, trivial⟩ (fun g _ => stable_lies g.p ry) fun w' hk _ _ => (do_any w' ek eq ec ex (HLV.out.1.keep_from HK.out ((KeepBut.drew (fun k => k = B11) V).trans hk) fun b hb e => by have h9 : b = B11 := e; have := HN.out; omega) (by have := HSE.out.2.1; omega) HLV.out.2 op ar).mono ?_) fun g9 _ => ?_
          · rintro e w'' ⟨pd, cap, rfl, hL, hq⟩
            rw [HDO.out] at hL ⊢
            exact ⟨{ p := pd, c := cap }, trivial, rfl, hq.mono fun _ e => e.elim, fun b ⟨a, h1, h2⟩ => by have := hL.2 a h1; exact ⟨.inl (by omega), by omega⟩, hL.1, fun a ha => (hL.2 a ha).2.2⟩
          simp only [sLies, Act.put, List.setIfInBounds_toArray, List.set_cons_zero, List.set_cons_succ]
          apply lex_quiet rfl rfl
          · intro w' hk; go_simp; with_reducible rfl
          simp only [Act.put, List.setIfInBounds_toArray, List.set_cons_zero, List.set_cons_succ]
          apply lex_quiet rfl rfl
          · intro w' hk; go_simp; with_reducible rfl
          simp only [Act.put, List.setIfInBounds_toArray, List.set_cons_zero, List.set_cons_succ]
          apply lex_quiet rfl rfl
          · intro w' hk; go_simp; with_reducible rfl
          simp only [Act.put, List.setIfInBounds_toArray, List.set_cons_zero, List.set_cons_succ]
          apply lex_quiet rfl rfl
          · intro w' hk; go_simp; with_reducible rfl
          simp only [Act.put, List.setIfInBounds_toArray, List.set_cons_zero, List.set_cons_succ]
          apply lex_quiet rfl rfl
          · intro w' hk; go_simp; with_reducible rfl
          simp only [Act.put, List.setIfInBounds_toArray, List.set_cons_zero, List.set_cons_succ]
          refine lex_loud rfl rfl (loud_put B11 47 47 #[.int .i64 rk, .slice g9.p ry.length g9.c] _ (.tmp 11) (.tmp 54) rfl rfl rfl 17 (by decide) (by decide) (fun w h => h) ⟨rfl, rfl⟩ rfl (by kernel_rfl) (by simp [Value.oneCell'])) fun g2 _ => ?_
          simp only [sPut, Act.put]
          apply lex_quiet rfl rfl
          · intro w' hk; go_simp; with_reducible rfl
          simp only [Act.put, List.setIfInBounds_toArray, List.set_cons_zero, List.set_cons_succ]
          refine lex_nil ?_
          intro w9 hk9 hF _
          have f0 : w9.heap[B11]? = some (.cells #[.int .i64 rk, .slice g9.p ry.length g9.c] 47 (0, 0)) := (hF 15 (by decide)).1 _ (put_args rfl rfl)
          have f1 : Rd w9 g9.p (ints ry) ∧ ∀ a, g9.p = some a → a.spot = none := (hF 9 (by decide)).1
          have hkV := (KeepBut.drew (fun k => k = B11) V).trans hk9
          have HR := Lib.hid (show StepRel cs l n m B11 w V (.bool (re == 0)) w9 from ⟨re == 0, ⟨rk, g9.p, ry, g9.c⟩, rfl, f0, f1, HK.out.new hkV fun k e => by have h9 : k = B11 := e; have := HN.out; omega, hkV, by rw [HST.out, plain_set]⟩)
          clear z1 z2 z3 y0 y1 hk9 hF f0 f1 hkV
          go_wp2_with fail
          go_meet
          case rel => exact HR.out
        | false =>
          have hti : ¬ ti = -1 := by simpa using htb
          obtain ⟨⟨rk, ry, rb⟩, hr⟩ : ∃ r, mayR ek op ex ar va cd = r := ⟨_, rfl⟩
          have HDO := Lib.hid hr
          have HST := Lib.hid (show stepP cs (l.map Kc.plain) n = if rb = true then some ((l.map Kc.plain).set m (rk, ry)) else none by
            unfold stepP
            rw [HCL.out]
            dsimp only
            rw [if_neg hti, show ((m : Int)).toNat = m from rfl, HNK.out]
            dsimp only
            rw [HDO.out])
          clear hti hr htb
          go_upto_region 10 with fail
          have z1 := ST _ _ _ c1 hne10; have z2 := ST _ _ _ c2 hne10; have z3 := ST _ _ _ c3 hne10; have z6 := ST _ _ _ c6 hne10; have z7 := ST _ _ _ c7 hne10
          have y0 := ST _ _ _ e0 hga; have y1 := ST _ _ _ e1 hga
          clear ST c0 c1 c2 c3 c4 c5 c6 c7 e0 e1
          refine wp_own1 (by kernel_rfl) B11 _ HB11.out (fun i => [[], [], [1], [0, 1, 2], [0, 1, 2, 3], [], [5], [], [7], [], [9], [], [11], [0, 1, 2, 3, 4, 5, 6, 7, 8, 9, 10, 11, 12], [0, 1, 2, 3, 4, 5, 6, 7, 8, 9, 10, 11, 12, 13], [0, 1, 2, 3, 4, 5, 6, 7, 8, 9, 10, 11, 12, 13, 14], [0, 1, 2, 3, 4, 5, 6, 7, 8, 9, 10, 11, 12, 13, 14], [0, 1, 2, 3, 4, 5, 6, 7, 8, 9, 10, 11, 12, 13, 14, 15], [0, 1, 2, 3, 4, 5, 6, 7, 8, 9, 10, 11, 12, 13, 14, 15, 16, 17]].getD i []) (fun i => if i = 17 then [19] else []) (fun i => if i = 17 then [19] else []) [13, 17] (by kernel_rfl)
            (fun i => if i = 13 then some (sLies (fun p c => .tuple #[.agg #[.int .i64 rk, .slice p ry.length c], .bool rb]) ry) else if i = 17 then some (sPut B11 47) else none) ?_
          apply lex_quiet rfl rfl
          · intro w' hk; go_simp; with_reducible rfl
          simp only [Act.put, List.setIfInBounds_toArray, List.set_cons_zero, List.set_cons_succ]
          apply lex_quiet rfl rfl
          · intro w' hk; go_simp; with_reducible rfl
          simp only [Act.put, List.setIfInBounds_toArray, List.set_cons_zero, List.set_cons_succ]
          apply lex_quiet rfl rfl
          · intro w' hk; go_simp; with_reducible rfl
          simp only [Act.put, List.setIfInBounds_toArray, List.set_cons_zero, List.set_cons_succ]
          apply lex_quiet rfl rfl
          · intro w' hk; go_simp; with_reducible rfl
          simp only [Act.put, List.setIfInBounds_toArray, List.set_cons_zero, List.set_cons_succ]
          apply lex_quiet rfl rfl
          · intro w' hk; go_simp; with_reducible rfl
          simp only [Act.put, List.setIfInBounds_toArray, List.set_cons_zero, List.set_cons_succ]
          apply lex_quiet rfl rfl
          · intro w' hk; go_simp; with_reducible rfl
          simp only [Act.put, List.setIfInBounds_toArray, List.set_cons_zero, List.set_cons_succ]
          apply lex_quiet rfl rfl
          · intro w' hk; go_simp; with_reducible rfl
          simp only [Act.put, List.setIfInBounds_toArray, List.set_cons_zero, List.set_cons_succ]
          apply lex_quiet rfl rfl
          · intro w' hk; go_simp; with_reducible rfl
          simp only [Act.put, List.setIfInBounds_toArray, List.set_cons_zero, List.set_cons_succ]
          apply lex_quiet rfl rfl
          · intro w' hk; go_simp; with_reducible rfl
          simp only [Act.put, List.setIfInBounds_toArray, List.set_cons_zero, List.set_cons_succ]
          apply lex_quiet rfl rfl
          · intro w' hk; go_simp; with_reducible rfl
          simp only [Act.put, List.setIfInBounds_toArray, List.set_cons_zero, List.set_cons_succ]
          apply lex_quiet rfl rfl
          · intro w' hk; go_simp; with_reducible rfl
          simp only [Act.put, List.setIfInBounds_toArray, List.set_cons_zero, List.set_cons_succ]
          apply lex_quiet rfl rfl
          · intro w' hk; go_simp; with_reducible rfl
          simp only [Act.put, List.setIfInBounds_toArray, List.set_cons_zero, List.set_cons_succ]
          apply lex_quiet rfl rfl
          · intro w' hk; go_simp; with_reducible rfl
          simp only [Act.put, List.setIfInBounds_toArray, List.set_cons_zero, List.set_cons_succ]
          refine lex_loud rfl rfl (loud_call 60 #[.agg #[.int .i64 ek, .slice eq ex.length ec], .int .i64 op, .int .i64 ar, .int .i64 va, .int .i64 cd] (fun w => by kernel_rfl) ⟨default, trivial⟩ (fun g _ => stable_lies g.p ry) fun w' hk _ _ => (may_any w' ek eq ec ex (HLV.out.1.keep_from HK.out ((KeepBut.drew (fun k => k = B11) V).trans hk) fun b hb e => by have h9 : b = B11 := e; have := HN.out; omega) (by have := HSE.out.2.1; omega) HLV.out.2 op ar va cd).mono ?_) fun g9 _ => ?_
          · rintro e w'' ⟨pd, cap, rfl, hL, hq⟩
            rw [HDO.out] at hL ⊢
            exact ⟨{ p := pd, c := cap }, trivial, rfl, hq.mono fun _ e => e.elim, fun b ⟨a, h1, h2⟩ => by have := hL.2 a h1; exact ⟨.inl (by omega), by omega⟩, hL.1, fun a ha => (hL.2 a ha).2.2⟩
          simp only [sLies, Act.put, List.setIfInBounds_toArray, List.set_cons_zero, List.set_cons_succ]
          apply lex_quiet rfl rfl
          · intro w' hk; go_simp; with_reducible rfl
          simp only [Act.put, List.setIfInBounds_toArray, List.set_cons_zero, List.set_cons_succ]
          apply lex_quiet rfl rfl
          · intro w' hk; go_simp; with_reducible rfl
          simp only [Act.put, List.setIfInBounds_toArray, List.set_cons_zero, List.set_cons_succ]
          apply lex_quiet rfl rfl
          · intro w' hk; go_simp; with_reducible rfl
          simp only [Act.put, List.setIfInBounds_toArray, List.set_cons_zero, List.set_cons_succ]
          refine lex_loud rfl rfl (loud_put B11 47 47 #[.int .i64 rk, .slice g9.p ry.length g9.c] _ (.tmp 11) (.tmp 75) rfl rfl rfl 19 (by decide) (by decide) (fun w h => h) ⟨rfl, rfl⟩ rfl (by kernel_rfl) (by simp [Value.oneCell'])) fun g2 _ => ?_
          simp only [sPut, Act.put]
          apply lex_quiet rfl rfl
          · intro w' hk; go_simp; with_reducible rfl
          simp only [Act.put, List.setIfInBounds_toArray, List.set_cons_zero, List.set_cons_succ]
          refine lex_nil ?_
          intro w9 hk9 hF _
          have f0 : w9.heap[B11]? = some (.cells #[.int .i64 rk, .slice g9.p ry.length g9.c] 47 (0, 0)) := (hF 17 (by decide)).1 _ (put_args rfl rfl)
          have f1 : Rd w9 g9.p (ints ry) ∧ ∀ a, g9.p = some a → a.spot = none := (hF 13 (by decide)).1
          have hkV := (KeepBut.drew (fun k => k = B11) V).trans hk9
          have HR := Lib.hid (show StepRel cs l n m B11 w V (.bool rb) w9 from ⟨rb, ⟨rk, g9.p, ry, g9.c⟩, rfl, f0, f1, HK.out.new hkV fun k e => by have h9 : k = B11 := e; have := HN.out; omega, hkV, by rw [HST.out, plain_set]⟩)
          clear z1 z2 z3 z6 z7 y0 y1 hk9 hF f0 f1 hkV
          go_wp2_with fail
          go_meet
          case rel => exact HR.out
      case rest =>
        obtain ⟨ok, ⟨fk, fq, fx, fc⟩, rfl, f0, f1, hkw, hkV, hst⟩ := hcut
        dsimp only at f0 f1
        clear c0 c1 c2 c3 c4 c5 c6 c7 e0 e1 htb
        cases ok with
        | false =>
          have HFF := Lib.hid (show nextP cs d (l.map Kc.plain) n = none by rw [HF.out, hst]; rfl)
          have HKW := Lib.hid hkw
          clear f0 f1 hkw hkV hst
          go_wp2_with fail
          go_ret2
          exact .inl ⟨HFF.out, rfl, HKW.out⟩
        | true =>
          have HST := Lib.hid (show nextP cs d (l.map Kc.plain) n = some ((l.set m ⟨fk, fq, fx, fc⟩).map Kc.plain) by rw [HF.out, hst]; rfl)
          have HCL2 := Lib.hid (cloneK_any wc (some ⟨ga, oa, none⟩) c l (HH.out.stay hkw) (by omega))
          have HKW := Lib.hid hkw; have HF0 := Lib.hid f0; have HF1 := Lib.hid f1
          have hB10' := keep_blk hkV HB10.out (fun e => by have h9 : B10 = B11 := e; have := HN.out; omega)
          have HBC := Lib.hid hB10'
          clear f0 f1 hkw hkV hst hB10'
          go_upto_region 14 with (go_at_call 61; refine HCL2.out.mono ?_; rintro e w2 ⟨v', rfl, hown, hk2⟩)
          obtain ⟨hlen, h1 | ⟨g2, cap, cur, rfl, hgb, hg2, h1, h2, h3, h4⟩⟩ := hown
          · have := h1.2; omega
          · obtain ⟨y0, y1, -⟩ := blk2 (hk2.blk HF0.out)
            obtain ⟨c0, c1, c2, c3, c4, c5, c6, c7⟩ := blk8 (c := ⟨hha, m, op, ar, be, ti, va, cd⟩) (hk2.blk HBC.out)
            dsimp only at c1
            have q0 : w2.cell? ⟨g2, m * 2, none⟩ = some (cur[m * 2]'(by omega)) := blk_cell hg2 (Array.getElem?_eq_getElem (by omega))
            have q1 : w2.cell? ⟨g2, m * 2 + 1, none⟩ = some (cur[m * 2 + 1]'(by omega)) := blk_cell hg2 (Array.getElem?_eq_getElem (by omega))
            have p0 : w2.frozen? ⟨g2, m * 2, none⟩ = false := by simp [World.frozen?, hg2]
            have p1 : w2.frozen? ⟨g2, m * 2 + 1, none⟩ = false := by simp [World.frozen?, hg2]
            have hm0 : (0 : Int) ≤ m := by omega
            have hmi : (m : Int) < l.length := by omega
            have hset := put1 (i := m * 2 + 1) (put1 (i := m * 2) hg2 (.int .i64 fk)) (.slice fq fx.length fc)
            have hks : KeepBut (fun k => k = g2) w2 ((w2.setCell ⟨g2, m * 2, none⟩ (.int .i64 fk)).setCell ⟨g2, m * 2 + 1, none⟩ (.slice fq fx.length fc)) := (KeepBut.setCell (E := fun k => k = g2) w2 ⟨g2, m * 2, none⟩ _ rfl).trans (KeepBut.setCell (E := fun k => k = g2) _ ⟨g2, m * 2 + 1, none⟩ _ rfl)
            obtain ⟨W9, hW9⟩ : ∃ W9, (w2.setCell ⟨g2, m * 2, none⟩ (.int .i64 fk)).setCell ⟨g2, m * 2 + 1, none⟩ (.slice fq fx.length fc) = W9 := ⟨_, rfl⟩
            rw [hW9] at hset hks
            have hkk : KeepBut (fun _ => False) wc W9 := hk2.new hks fun k e => by have h9 : k = g2 := e; omega
            have HFIN := Lib.hid (show HasAt W9 (some ⟨g2, 0, none⟩) (l.set m ⟨fk, fq, fx, fc⟩) ∧ KeepBut (fun _ => False) w W9 from ⟨⟨cellsK_put (e := ⟨fk, fq, fx, fc⟩) hset h4 rfl (by omega) hml, fun e he => by
              rcases List.mem_or_eq_of_mem_set he with h | h
              · have := HH.out.live e h
                exact ⟨this.1.stay (HKW.out.trans hkk), this.2⟩
              · subst h
                exact ⟨HF1.out.1.stay hkk, HF1.out.2⟩⟩, HKW.out.trans hkk⟩)
            have HW9 := Lib.hid hW9
            clear hset hks hkk hW9 hg2 h4 hlen c0 c2 c3 c4 c5 c6 c7 hk2
            go_wp2_with fail
            rw [HW9.out]
            go_ret2
            exact .inr ⟨_, cap, _, HST.out, by show Ending.returned (.tuple #[.slice (some ⟨g2, 0, none⟩) l.length cap, .bool true]) = _; rw [List.length_set], HFIN.out.1, HFIN.out.2⟩

end Go.Proofs.YtoolpifkfgileaaDoor

/-
  Package hist: the map of dead points.
-/
namespace Go.Proofs.YtoolpifkfgileaaDoor
open Go Go.RowKit Own

abbrev TP : TypeId := 97
def keyV (d : Nat) (s : ByteArray) : Value := .agg #[.int .u32 d, .string s]
def sameP (d : Nat) (s : ByteArray) (p : Nat × ByteArray) : Bool := (d : Int) == (p.1 : Int) && s.toList == p.2.toList
def hasP (L : List (Nat × ByteArray)) (d : Nat) (s : ByteArray) : Bool := L.any (sameP d s)

theorem sameP_iff {d : Nat} {s : ByteArray} {p : Nat × ByteArray} : sameP d s p = true ↔ d = p.1 ∧ s.data.toList = p.2.data.toList := by
  unfold sameP
  rw [Bool.and_eq_true, beq_iff_eq, beq_iff_eq, ByteArray.toList_eq, ByteArray.toList_eq]
  constructor
  · rintro ⟨h1, h2⟩; exact ⟨by omega, h2⟩
  · rintro ⟨h1, h2⟩; exact ⟨by omega, h2⟩

theorem eqP (a x : Int) (s t : ByteArray) (w : World) : (Op.equalIn 10000 TP (.agg #[.int .u32 a, .string s]) (.agg #[.int .u32 x, .string t])).run Tryd.prog w = .ok (a == x && s.toList == t.toList) w := by
  have u3 := Tryd.underlying76; have a3 := Tryd.isAgg76; have z3 := Tryd.sizeOf76
  have u9 := Tryd.underlying9; have a9 := Tryd.isAgg9; have z9 := Tryd.sizeOf9
  have hS : Tryd.prog.underlying TP = some (.struct (Tryd.prog.fieldsOf TP)) := by kernel_rfl
  rw [show (10000 : Nat) = 9999 + 1 from rfl, run_equalIn_agg w 9999 TP _ _ hS (by kernel_rfl)]
  simp only [Program.fieldsOf, Tryd.underlying97]
  go_simp
  by_cases h1 : a = x <;> by_cases h2 : s.toList = t.toList <;> simp [h1, h2]

def PMap (w : World) (b : Nat) (L : List (Nat × ByteArray)) : Prop :=
  ∃ es clock, w.heap[b]? = some (.map es clock) ∧ es.toList.map (fun e => (e.key, e.val)) = L.map (fun p => (keyV p.1 p.2, Value.int .i64 1))
theorem PMap.of_same {w w' : World} {b : Nat} {L : List (Nat × ByteArray)} (h : PMap w b L) (hb : w'.heap[b]? = w.heap[b]?) : PMap w' b L := by
  obtain ⟨es, c, h2, h3⟩ := h
  exact ⟨es, c, hb.trans h2, h3⟩
theorem PMap.lt {w : World} {b : Nat} {L : List (Nat × ByteArray)} (h : PMap w b L) : b < w.heap.size := by
  obtain ⟨es, c, h2, _⟩ := h
  exact (Array.getElem?_eq_some_iff.1 h2).1
theorem PMap.keep {w w' : World} {b : Nat} {L : List (Nat × ByteArray)} {E : Nat → Prop} (h : PMap w b L) (hk : KeepBut E w w') (hE : ¬ E b) : PMap w' b L := h.of_same (hk.block b h.lt hE)
theorem PMap.made (w : World) : PMap (w.alloc (.map #[] 0)) w.heap.size [] := ⟨#[], 0, heap_alloc_new w _, rfl⟩

def pix (d : Nat) (s : ByteArray) : List (Nat × ByteArray) → Nat → Option (Nat × Value)
  | [], _ => none
  | p :: L, i => if sameP d s p = true then some (i, .int .i64 1) else pix d s L (i + 1)
theorem pix_some (d : Nat) (s : ByteArray) : ∀ (L : List (Nat × ByteArray)) (i : Nat), hasP L d s = true → ∃ j, pix d s L i = some (j, .int .i64 1)
  | p :: L, i, h => by
    unfold pix
    by_cases hp : sameP d s p = true
    · exact ⟨i, by rw [if_pos hp]⟩
    · rw [if_neg hp]
      refine pix_some d s L (i + 1) ?_
      unfold hasP at h ⊢
      rw [List.any_cons] at h
      simpa [hp] using h
theorem pix_none (d : Nat) (s : ByteArray) : ∀ (L : List (Nat × ByteArray)) (i : Nat), hasP L d s = false → pix d s L i = none
  | [], _, _ => rfl
  | p :: L, i, h => by
    unfold hasP at h
    rw [List.any_cons, Bool.or_eq_false_iff] at h
    unfold pix
    rw [if_neg (by rw [h.1]; exact Bool.false_ne_true)]
    exact pix_none d s L (i + 1) h.2

theorem asking (d : Nat) (s : ByteArray) (w : World) : ∀ (es : List MapEntry) (L : List (Nat × ByteArray)) (i : Nat), es.map (fun e => (e.key, e.val)) = L.map (fun p => (keyV p.1 p.2, Value.int .i64 1)) →
    (Instr.findAsking TP (keyV d s) es i).run Tryd.prog w = .ok (pix d s L i) w
  | [], [], i, _ => by simp [Instr.findAsking, pix]
  | [], p :: L, _, h => by simp at h
  | e :: es, [], _, h => by simp at h
  | e :: es, p :: L, i, h => by
    simp only [List.map_cons, List.cons.injEq, Prod.mk.injEq] at h
    obtain ⟨⟨h1, h2⟩, h3⟩ := h
    unfold Instr.findAsking pix
    have he : (Op.equal TP (keyV d s) e.key).run Tryd.prog w = .ok (sameP d s p) w := by
      rw [h1]
      unfold keyV
      simp only [Op.equal, Op.maxDepth]
      exact eqP _ _ _ _ w
    simp only [Sem.run_bind, he, Result.andThen_ok]
    by_cases hp : sameP d s p = true
    · simp [hp, h2]
    · simp only [hp]
      exact asking d s w es L (i + 1) h3

set_option maxRecDepth 100000 in
theorem run_checkP0 (n d : Nat) (s : ByteArray) (em : Bool) (w : World) : (Instr.checkKey em (n + 1 + 1) TP (keyV d s)).run Tryd.prog w = .ok () w := by
  have u3 := Tryd.underlying76; have a3 := Tryd.isAgg76; have z3 := Tryd.sizeOf76
  have u9 := Tryd.underlying9; have a9 := Tryd.isAgg9; have z9 := Tryd.sizeOf9
  unfold keyV
  simp [Instr.checkKey, run_underlying Tryd.underlying97, run_underlying Tryd.underlying76, run_underlying Tryd.underlying9, Result.andThen, part]
theorem run_checkP (d : Nat) (s : ByteArray) (em : Bool) (w : World) : (Instr.checkKey em 10000 TP (keyV d s)).run Tryd.prog w = .ok () w := run_checkP0 9998 d s em w

theorem pm_ty : Tryd.prog.underlying 92 = some (.map TP 3) := by kernel_rfl

theorem PMap.look {w : World} {b : Nat} {L : List (Nat × ByteArray)} (h : PMap w b L) (d : Nat) (s : ByteArray) :
    (Instr.lookup 92 (.map (some b)) (keyV d s) false).run Tryd.prog w = .ok (.int .i64 (if hasP L d s = true then 1 else 0)) w := by
  obtain ⟨es, c, h2, h3⟩ := h
  have hf : (Instr.findKey TP (keyV d s) es.toList).run Tryd.prog w = .ok (pix d s L 0) w := by
    rw [run_findKey_eq w (by kernel_rfl)]
    exact asking d s w es.toList L 0 h3
  have hc := run_checkP d s es.isEmpty w
  have hz : (zeroValue 3).run Tryd.prog w = .ok (.int .i64 0) w := by kernel_rfl
  cases hm : hasP L d s with
  | true =>
    obtain ⟨j, hj⟩ := pix_some d s L 0 hm
    rw [hj] at hf
    simp [Instr.lookup, run_underlying pm_ty, MapKept.run_getObj_map h2, Result.andThen, hc, hf]
  | false =>
    rw [pix_none d s L 0 hm] at hf
    simp [Instr.lookup, run_underlying pm_ty, MapKept.run_getObj_map h2, Result.andThen, hc, hf, hz]

theorem PMap.update {w : World} {b : Nat} {L : List (Nat × ByteArray)} (h : PMap w b L) (d : Nat) (s : ByteArray) (hn : hasP L d s = false) :
    ∃ w', (Instr.mapUpdate 92 (.map (some b)) (keyV d s) (.int .i64 1)).run Tryd.prog w = .ok () w' ∧ PMap w' b (L ++ [(d, s)]) ∧ KeepBut (fun j => j = b) w w' := by
  obtain ⟨es, c, h2, h3⟩ := h
  have hf : (Instr.findKey TP (keyV d s) es.toList).run Tryd.prog w = .ok none w := by
    rw [run_findKey_eq w (by kernel_rfl), ← pix_none d s L 0 hn]
    exact asking d s w es.toList L 0 h3
  have hc := run_checkP d s false w
  refine ⟨{ w with heap := w.heap.setIfInBounds b (.map (es.push { key := keyV d s, val := .int .i64 1, born := c }) (c + 1)) }, ?_, ⟨_, _, (MapKept.heap_set h2).1, ?_⟩, heap_put _ _ _⟩
  · simp [Instr.mapUpdate, run_underlying pm_ty, MapKept.run_getObj_map h2, Result.andThen, hc, hf, MapKept.run_setObj_map _ h2]
  · simp [h3]

end Go.Proofs.YtoolpifkfgileaaDoor
