/-
  Package hist: keyed: the contents' text, and that it tells them.
-/
import Derived.Test.YtoolpifkfgileaaDoorHi6
import Derived.Lib.AppendStr
namespace Go.Proofs.YtoolpifkfgileaaDoor
open Go Go.RowKit Own

abbrev TabP (w : World) : Prop := Lib.TabIs Tryd.prog w "internal/strconv.uint64pow10" .u64 Lib.pow10Tab
theorem Own.KeepBut.tabP {w w' : World} (h : KeepBut (fun _ => False) w w') (t : TabP w) : TabP w' :=
  Lib.tabBelow_of_tabIs t w' ⟨h.os, h.tape, h.output, h.size, fun j hj => h.block j hj fun e => e⟩

theorem itoa_no59 (a : Int) : ∀ b ∈ Lib.itoa a, (b != 59) = true := fun b hb => by
  unfold Lib.itoa at hb
  have hd : ∀ u : Nat, ∀ b ∈ Lib.decDigits u, (b != 59) = true := fun u b hb => by
    have := dec_bytes u u (Nat.le_refl _) b hb
    rw [bne_iff_ne]
    rintro rfl
    have e : (59 : UInt8).toNat = 59 := rfl
    omega
  split at hb
  · rcases List.mem_cons.1 hb with h | h
    · rw [h]; rfl
    · exact hd _ b h
  · exact hd _ b hb

def keyL (h : List (Int × List Int)) : List UInt8 := h.flatMap fun e => keyB e.1 e.2 ++ [59]
theorem keyL_snoc (h : List (Int × List Int)) (e : Int × List Int) : keyL (h ++ [e]) = keyL h ++ keyB e.1 e.2 ++ [59] := by simp [keyL]
/-- what the search's contents always are -/
def Small (h : List (Int × List Int)) : Prop := ∀ e ∈ h, In64 e.1 ∧ e.2.length ≤ 64 ∧ ∀ x ∈ e.2, In64 x

theorem keyL_le : ∀ (h : List (Int × List Int)), Small h → (keyL h).length ≤ 1430 * h.length
  | [], _ => Nat.le_refl _
  | e :: h, hs => by
    have ih := keyL_le h fun x hx => hs x (List.mem_cons_of_mem _ hx)
    obtain ⟨h1, h2, h3⟩ := hs e List.mem_cons_self
    have h4 := keyB_length_le e.1 e.2 h1 h3
    have : keyL (e :: h) = keyB e.1 e.2 ++ [59] ++ keyL h := by simp [keyL]
    rw [this, List.length_append, List.length_append]
    simp only [List.length_cons, List.length_nil]
    omega

theorem row_keep {w w' : World} {base size : Nat} {T : TypeId} {v : Value} {n : Nat} {xs : List Value} (h : w.ownsRow base T size v n xs) (k : KeepBut (fun _ => False) w w') : w'.ownsRow base T size v n xs := by
  obtain ⟨h0, h1 | ⟨g, cap, cur, h1, h2, h3, h4⟩⟩ := h
  · exact ⟨h0, .inl h1⟩
  · exact ⟨h0, .inr ⟨g, cap, cur, h1, h2, k.blk h3, h4⟩⟩

theorem info_u8 : (Tryd.prog.info? 5).map (fun i => (i.zero, i.size, i.bytes)) = some (some (.int .u8 0), 1, 1) := by kernel_rfl

set_option maxRecDepth 100000 in
set_option maxHeartbeats 8000000 in
theorem keyed_any (w : World) (p : Option Addr) (c : Nat) (l : List Kc) (h : HasAt w p l) (hs : Small (l.map Kc.plain)) (hl : l.length ≤ 8) (hne : l ≠ []) (hT : TabP w) :
    Calls Tryd.prog 54 #[.slice p l.length c] w fun e w' => e = .returned (.string ⟨(keyL (l.map Kc.plain)).toArray⟩) ∧ KeepBut (fun _ => False) w w' := by
  have H := Lib.hid h; have HS := Lib.hid hs; have HT := Lib.hid hT
  obtain ⟨i0, hi, hz0, hz1, hz2⟩ := info_parts info_u8
  have HI := Lib.hid hi; have HZ0 := Lib.hid hz0; have HZ1 := Lib.hid hz1; have HZ2 := Lib.hid hz2
  have hpos := List.length_pos_iff.2 hne
  clear h hs hT hi hz0 hz1 hz2 hne
  go_enter Tryd.func54, Tryd.ntmps54
  go_upto_block 0 with fail
  go_wp2_with fail
  go_loopw [3, 8] (fun v3 v8 wr => ∃ i n : Nat, v8 = .int .i64 i ∧ i ≤ l.length ∧ wr.ownsRow w.heap.size 5 1 v3 n (Lib.byteCells (keyL ((l.take i).map Kc.plain))) ∧ KeepBut (fun _ => False) w wr) (fun _ v _ => l.length - (intOf v).toNat)
  case atStart => exact ⟨0, 0, rfl, Nat.zero_le _, World.ownsRow_nil _ _ _ _, KeepBut.refl _ _⟩
  case round =>
    obtain ⟨i, n, rfl, hi, hrow, hk⟩ := hrel
    have hws := hk.size
    have hnl : n = (keyL ((l.take i).map Kc.plain)).length := by have := hrow.1; rw [Lib.byteCells_length] at this; omega
    have hn2 : n ≤ 11440 := by
      have h1 := keyL_le ((l.take i).map Kc.plain) fun e he => HS.out e (by
        rw [List.map_take] at he
        exact List.mem_of_mem_take he)
      rw [List.length_map, List.length_take] at h1
      omega
    by_cases hlt : i < l.length
    · have hlti : (i : Int) < l.length := by omega
      have hi0 : (0 : Int) ≤ i := by omega
      have hWi : IntKind.i64.wrap ((i : Int) + 1) = (i : Int) + 1 := IntWalk.i64_in _ (by omega)
      obtain ⟨g, o, hp, x0, x1⟩ := (H.out.stay hk).cells i hlt
      have hmem : l[i] ∈ l := List.getElem_mem hlt
      have hlv := (H.out.stay hk).live _ hmem
      have hsm := HS.out _ (List.mem_map.2 ⟨l[i], hmem, rfl⟩)
      obtain ⟨⟨ek, eq, ex, ec⟩, he⟩ : ∃ e, l[i] = e := ⟨_, rfl⟩
      rw [he] at x0 x1 hlv hsm
      dsimp only [Kc.plain] at x0 x1 hlv hsm
      subst hp
      obtain ⟨V, B5, hV, hB5, hb5, hkV, -⟩ := fresh_block wr (.cells #[.int .i64 ek, .slice eq ex.length ec] 47)
      obtain ⟨c0, c1, -⟩ := blk2 hb5
      have hkey := key_any V ek eq ec ex (hlv.1.stay hkV) (by have := hsm.2.1; omega) hsm.1 hsm.2.2 ((hk.trans hkV).tabP HT.out)
      have HKEY := Lib.hid hkey
      have HK := Lib.hid hk; have HKV := Lib.hid hkV; have HROW := Lib.hid hrow
      have hkl : (keyB ek ex).length ≤ 1430 := by
        have := keyB_length_le ek ex hsm.1 hsm.2.2
        have := hsm.2.1
        omega
      have hsz : (⟨(keyB ek ex).toArray⟩ : ByteArray).size = (keyB ek ex).length := rfl
      have HE := Lib.hid he
      have hvs := hkV.size
      clear hk hkV hrow hkey hb5 hlv hsm hmem he
      go_upto_region 5 with fail
      rw [← hV, ← hB5]
      clear hV hB5 x0 x1
      obtain ⟨X, hX⟩ : ∃ X : ByteArray, (⟨(keyB ek ex).toArray⟩ : ByteArray) = X := ⟨_, rfl⟩
      rw [hX] at hsz HKEY
      have HX := Lib.hid hX
      clear hX
      go_wp2_with (first
        | (go_at_call 58; refine HKEY.out.mono ?_; rintro e w2 ⟨rfl, hk2⟩; have HK2 := Lib.hid hk2; have hs2 := hk2.size; have HRW2 := Lib.hid (row_keep (row_keep HROW.out HKV.out) hk2); clear hk2)
        | (at_builtin; refine Lib.wpList_append_own_string _ rfl (.tmp 12) (.tmp 14) 102 9 rfl w.heap.size 5 i0 Tryd.underlying102 Tryd.underlying9 HI.out HZ0.out HZ1.out HZ2.out _ n _ rfl HRW2.out X rfl (by unfold maxLen; omega) (by omega) (by omega) ?_
           intro v3 w3 h1 h2 _
           have H1 := Lib.hid h1; have H2 := Lib.hid h2; have hs3 := h2.size
           clear h1 h2)
        | (at_builtin; refine wpList_append_own _ rfl (.tmp 15) (.tmp 16) 102 rfl w.heap.size 5 i0 (.int .u8 0) 1 1 Tryd.underlying102 HI.out HZ0.out HZ1.out HZ2.out rfl (by decide) _ (n + X.size) _ rfl (H1.out.alloc _) ⟨w3.heap.size, 0, none⟩ 1 1 [.int .u8 59] rfl rfl (cellsAt (heap_alloc_new w3 _)) (by simp [Value.oneCell']) (by unfold maxLen; omega) (by omega) (by rw [World.size_alloc]; omega) ?_
           intro v4 w4 h1 h2 _
           have H3 := Lib.hid h1; have H4 := Lib.hid h2
           clear h1 h2))
      have k2 : KeepBut (fun _ => False) w w2 := (HK.out.trans HKV.out).trans HK2.out
      have k3 : KeepBut (fun _ => False) w w3 := k2.new (KeepBut.grown (E := fun j => u3.ownBlock = some j) H2.out fun _ e => e) fun j hj => (HROW.out.lt j hj).1
      have k4 : KeepBut (fun _ => False) w w4 := (k3.trans (KeepBut.alloc (fun _ => False) w3 (.cells #[.int .u8 59] 5))).new (KeepBut.grown (E := fun j => v3.ownBlock = some j) H4.out fun _ e => e) fun j hj => (H1.out.lt j hj).1
      refine ⟨⟨i + 1, n + X.size + 1, by simp, by omega, ?_, k4⟩, by simp only [intOf]; omega⟩
      have := H3.out
      rw [List.take_succ_eq_append_getElem hlt, List.map_append, List.map_cons, List.map_nil, keyL_snoc, HE.out, Lib.byteCells_append, Lib.byteCells_append]
      have hXe : Lib.strCells X = Lib.byteCells (keyB ek ex) := by rw [← HX.out]; rfl
      rw [hXe] at this
      exact this
    · have hnl' : ¬ (i : Int) < l.length := by omega
      have e : i = l.length := by omega
      subst e
      rw [List.take_length] at hrow hnl
      have hp0 : 0 < (keyL (l.map Kc.plain)).length := by
        cases l with
        | nil => simp at hpos
        | cons x l =>
          have : keyL ((x :: l).map Kc.plain) = keyB x.plain.1 x.plain.2 ++ [59] ++ keyL (l.map Kc.plain) := by simp [keyL]
          rw [this, List.length_append, List.length_append]
          simp only [List.length_cons, List.length_nil]
          omega
      have hcv := row_string (P := Tryd.prog) Tryd.underlying102 Tryd.underlying5 Tryd.underlying9 hrow hp0
      have HK := Lib.hid hk
      clear hk hrow hp0 hnl
      go_wp2_with fail
      go_ret
      exact ⟨rfl, HK.out⟩

/-- the text tells the contents -/
theorem keyL_inj : ∀ (a b : List (Int × List Int)), a.length = b.length → keyL a = keyL b → a = b
  | [], [], _, _ => rfl
  | [], _ :: _, h, _ => by simp at h
  | _ :: _, [], h, _ => by simp at h
  | x :: a, y :: b, h, e => by
    have ex : keyL (x :: a) = keyB x.1 x.2 ++ 59 :: keyL a := by simp [keyL]
    have ey : keyL (y :: b) = keyB y.1 y.2 ++ 59 :: keyL b := by simp [keyL]
    rw [ex, ey] at e
    have h1 : ∀ z : Int × List Int, ∀ c ∈ keyB z.1 z.2, (c != 59) = true := fun z c hc => by
      unfold keyB at hc
      rcases List.mem_append.1 hc with h | h
      · exact itoa_no59 _ c h
      · obtain ⟨v, _, h⟩ := List.mem_flatMap.1 h
        rcases List.mem_cons.1 h with h | h
        · rw [h]; rfl
        · exact itoa_no59 _ c h
    have tw : ∀ (z : Int × List Int) (r : List UInt8), (keyB z.1 z.2 ++ 59 :: r).takeWhile (· != 59) = keyB z.1 z.2 := fun z r => by
      rw [List.takeWhile_append_of_pos (h1 z)]
      simp
    have e1 : keyB x.1 x.2 = keyB y.1 y.2 := by rw [← tw x (keyL a), e, tw]
    obtain ⟨e2, e3⟩ := keyB_inj e1
    rw [e1] at e
    have e4 := List.append_cancel_left e
    have e5 : keyL a = keyL b := by simpa using e4
    rw [keyL_inj a b (by simpa using h) e5]
    congr 1
    exact Prod.ext e2 e3

end Go.Proofs.YtoolpifkfgileaaDoor
