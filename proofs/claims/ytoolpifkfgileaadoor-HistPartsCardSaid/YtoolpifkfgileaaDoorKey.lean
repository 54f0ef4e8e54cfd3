/-
  Package spec: Key, told as the text of its content.
-/
import Derived.Test.YtoolpifkfgileaaDoorMay
import Derived.Lib.ItoaLen
import Derived.Laws.BytesString
import Derived.Laws.Cells
import Derived.Lib.AppendIntMem
namespace Go.Proofs.YtoolpifkfgileaaDoor
open Go Go.RowKit Own

/-- the text of a content -/
def keyB (k : Int) (xs : List Int) : List UInt8 := Lib.itoa k ++ xs.flatMap fun x => 32 :: Lib.itoa x

def In64 (x : Int) : Prop := -9223372036854775808 ≤ x ∧ x ≤ 9223372036854775807

theorem keyB_snoc (k : Int) (xs : List Int) (i : Nat) (h : i < xs.length) : keyB k (xs.take (i + 1)) = (keyB k (xs.take i) ++ [32]) ++ Lib.itoa (nth xs i) := by
  unfold keyB
  rw [List.take_succ_eq_append_getElem h, List.flatMap_append]
  simp [nth_eq h]

theorem keyB_length_le (k : Int) (xs : List Int) (hk : In64 k) (hx : ∀ x ∈ xs, In64 x) : (keyB k xs).length ≤ 21 + 22 * xs.length := by
  unfold keyB
  have h0 := Lib.itoa_length_le k hk.1 hk.2
  have h1 : (xs.flatMap fun x => 32 :: Lib.itoa x).length ≤ 22 * xs.length := by
    clear h0 hk
    induction xs with
    | nil => simp
    | cons x xs ih =>
      have := ih fun y hy => hx y (List.mem_cons_of_mem _ hy)
      have h2 := Lib.itoa_length_le x (hx x List.mem_cons_self).1 (hx x List.mem_cons_self).2
      simp only [List.flatMap_cons, List.length_append, List.length_cons]
      omega
  rw [List.length_append]
  omega

theorem foldl_push (l : List UInt8) : ∀ acc : ByteArray, ((l.map fun b => (b.toNat : Int)).foldl (fun r n => r.push (UInt8.ofNat n.toNat)) acc) = ⟨acc.data ++ l.toArray⟩ := by
  induction l with
  | nil => intro acc; simp
  | cons b l ih =>
    intro acc
    rw [List.map_cons, List.foldl_cons, ih]
    simp [ByteArray.push]

/-- a row of bytes of the call's own, as a string -/
theorem row_string {P : Program} {src dst : TypeId} {e : TypeId} {w : World} {B n : Nat} {sv : Value} {l : List UInt8} (hs : P.underlying src = some (.slice e)) (he : P.underlying e = some (.int .u8)) (hd : P.underlying dst = some .string)
    (h : w.ownsRow B e 1 sv n (Lib.byteCells l)) (hl : 0 < l.length) : (convert src dst sv).run P w = .ok (.string ⟨l.toArray⟩) w := by
  have hn := h.1
  have hcells := h
  obtain ⟨_, h0 | ⟨g, cap, cur, rfl, _, _, _⟩⟩ := h
  · have := h0.2
    rw [Lib.byteCells_length] at hn
    omega
  · rw [run_convert_bytes_string w src dst e _ _ _ hs he hd]
    have hc := hcells.cells (g := g) rfl
    have hn' : n = (Lib.byteCells l).length := by rw [hn]; omega
    rw [hn']
    have e1 : Lib.byteCells l = (l.map fun b => (b.toNat : Int)).map (Value.int .u8) := by simp [Lib.byteCells]
    have := run_bytesToString (P := P) w ⟨g, 0, none⟩ (Lib.byteCells l).length cap (l.map fun b => (b.toNat : Int)) (by
      rw [run_loadCells_list w ⟨g, 0, none⟩ (Lib.byteCells l) hc, e1])
    rw [this, foldl_push]
    simp

theorem below_of_grown {w w' : World} {B : Nat} {row : Option Nat} (h : w.grownBy w' row) (hB : B ≤ w.heap.size) (hr : ∀ g, row = some g → B ≤ g) : Below B w w' :=
  ⟨h.os, h.tape, h.output, h.size, fun k hk => h.block k (by omega) fun e => by have := hr k e.symm; omega⟩

theorem own_base {w : World} {B n size : Nat} {e : TypeId} {v : Value} {xs : List Value} (h : w.ownsRow B e size v n xs) : ∀ g, v.ownBlock = some g → B ≤ g := by
  intro g hg
  obtain ⟨_, h0 | ⟨g', cap, cur, rfl, hb, _⟩⟩ := h
  · rw [h0.1] at hg; cases hg
  · simp only [Value.ownBlock, Option.some.injEq] at hg; omega

theorem below_alloc {w : World} {B : Nat} (h : B ≤ w.heap.size) (o : Obj) : Below B w (w.alloc o) := by
  have k := KeepBut.alloc (fun _ => False) w o
  exact ⟨k.os, k.tape, k.output, k.size, fun j hj => k.block j (by omega) fun e => e⟩

/-- the loop's relation -/
def KeyRel (B : Nat) (V : World) (k : Int) (xs : List Int) (v3 v12 : Value) (wr : World) : Prop :=
  ∃ (i n : Nat), i ≤ xs.length ∧ v12 = .int .i64 i ∧ wr.ownsRow B 5 1 v3 n (Lib.byteCells (keyB k (xs.take i))) ∧ Below B V wr

set_option maxHeartbeats 4000000 in
theorem key_any (w : World) (k : Int) (p : Option Addr) (c : Nat) (xs : List Int) (hrd : Rd w p (ints xs)) (hl : xs.length ≤ 1000000) (hk : In64 k) (hx : ∀ x ∈ xs, In64 x)
    (htab : Lib.TabIs Tryd.prog w "internal/strconv.uint64pow10" .u64 Lib.pow10Tab) :
    Calls Tryd.prog 58 #[.agg #[.int .i64 k, .slice p xs.length c]] w fun e w' => e = .returned (.string ⟨(keyB k xs).toArray⟩) ∧ KeepBut (fun _ => False) w w' := by
  obtain ⟨V, N, hV, hN, hb, hkV, -⟩ := fresh_block w (.cells #[.int .i64 k, .slice p xs.length c] 47)
  have HR := Lib.hid (hrd.stay hkV)
  have htV : Lib.TabIs Tryd.prog V "internal/strconv.uint64pow10" .u64 Lib.pow10Tab := (Lib.tabBelow_of_tabIs htab V ⟨hkV.os, hkV.tape, hkV.output, hkV.size, fun j hj => hkV.block j hj fun e => e⟩)
  have HT := Lib.hid (Lib.tabBelow_of_tabIs htV)
  have HK := Lib.hid hkV; have HX := Lib.hid hx
  have z0 := blk_cell (k := 0) hb rfl
  have z1 := blk_cell (k := 1) hb rfl
  have HB := Lib.hid hb
  clear hrd htab hkV hb htV hx
  have d0 : Hid (Calls Tryd.prog 62 #[.slice none 0 0, .int .i64 k, .int .i64 10] V fun e w' => ∃ v', e = .returned v' ∧ w'.ownsRow V.heap.size 5 1 v' (Lib.itoa k).length (Lib.byteCells (Lib.itoa k)) ∧ Below V.heap.size V w') := by
    refine (Tryd.strconv_AppendInt_10 V.heap.size 0 k hk.1 hk.2 (.slice none 0 0) [] V (World.ownsRow_nil _ _ _ _) (Nat.le_refl _) (by omega) HT.out).mono ?_
    rintro e w' ⟨v', h1, h2, h3, _⟩
    refine ⟨v', h1, ?_, h3⟩
    simpa using h2
  have HKK := Lib.hid hk
  clear hk
  go_enter Tryd.func58, Tryd.ntmps58
  go_upto_region 1 with fail
  rw [← hV, ← hN]
  clear hV hN
  go_upto_region 2 with (go_at_call 62; refine d0.out.mono ?_; rintro e w1 ⟨sv, rfl, ho1, hb1⟩)
  have HO1 := Lib.hid ho1; have HB1 := Lib.hid hb1
  have y1 := (KeepBut.of_below (E := fun _ => False) hb1).stay z1
  clear ho1 hb1 d0 z0 z1
  go_wp2_with fail
  clear y1
  go_loopw [3, 12] (fun v3 v12 wr => KeyRel V.heap.size V k xs v3 v12 wr) (fun _ i _ => xs.length - (intOf i).toNat)
  case atStart =>
    exact ⟨0, _, Nat.zero_le _, rfl, by simpa [keyB] using HO1.out, HB1.out⟩
  case round =>
    obtain ⟨i, n, hi, rfl, ho, hb⟩ := hrel
    have HO := Lib.hid ho; have HBr := Lib.hid hb
    have hnl : n = (keyB k (xs.take i)).length := by have := ho.1; rw [Lib.byteCells_length] at this; omega
    have hn22 : n ≤ 22000021 := by
      have := keyB_length_le k (xs.take i) HKK.out fun x h => HX.out x (List.mem_of_mem_take h)
      rw [List.length_take] at this
      omega
    have hsz : V.heap.size ≤ wr.heap.size := hb.size
    have hi0 : (0 : Int) ≤ i := by omega
    have hWi : IntKind.i64.wrap ((i : Int) + 1) = i + 1 := IntWalk.i64_in _ (by omega)
    clear ho hb
    by_cases hlt : i < xs.length
    · have hltI : (i : Int) < xs.length := by omega
      have hrd := HR.out.stay (KeepBut.of_below (E := fun _ => False) HBr.out)
      obtain ⟨b, o, rfl, _⟩ := hrd.ptr (by rw [ints_length]; omega)
      have c1 : wr.cell? ⟨b, o + i, none⟩ = some (.int .i64 (nth xs i)) := hrd.int i hlt
      have hin : In64 (nth xs i) := HX.out _ (by rw [nth_eq hlt]; exact List.getElem_mem hlt)
      obtain ⟨i0, hi1, hz0, hz1, hz2⟩ : ∃ i0, Tryd.prog.info? 5 = some i0 ∧ i0.zero = some (.int .u8 0) ∧ i0.size = 1 ∧ i0.bytes = 1 := by
        have h : (Tryd.prog.info? 5).map (fun i => (i.zero, i.size, i.bytes)) = some (some (.int .u8 0), 1, 1) := by kernel_rfl
        cases hh : Tryd.prog.info? 5 with
        | none => rw [hh] at h; cases h
        | some i0 =>
          rw [hh] at h
          simp only [Option.map_some, Option.some.injEq, Prod.mk.injEq] at h
          exact ⟨i0, rfl, h.1, h.2.1, h.2.2⟩
      have HI := Lib.hid hi1; have HZ0 := Lib.hid hz0; have HZ1 := Lib.hid hz1; have HZ2 := Lib.hid hz2
      have HIN := Lib.hid hin
      have happ : Hid (∀ W v', Below V.heap.size V W → W.ownsRow V.heap.size 5 1 v' (n + 1) (Lib.byteCells (keyB k (xs.take i) ++ [32])) → Calls Tryd.prog 62 #[v', .int .i64 (nth xs i), .int .i64 10] W fun e w' => ∃ v'', e = .returned v'' ∧ (∃ m, w'.ownsRow V.heap.size 5 1 v'' m (Lib.byteCells (keyB k (xs.take (i + 1))))) ∧ Below V.heap.size V w') := fun W v' hW hown => by
        refine (Tryd.strconv_AppendInt_10 V.heap.size (n + 1) (nth xs i) HIN.out.1 HIN.out.2 v' _ W hown hW.size (by omega) (HT.out.on hW)).mono ?_
        rintro e w' ⟨v'', h1, h2, h3, _⟩
        refine ⟨v'', h1, ⟨n + 1 + (Lib.itoa (nth xs i)).length, ?_⟩, hW.trans h3⟩
        rw [keyB_snoc k xs i hlt, Lib.byteCells_append]
        exact h2
      clear hrd hi1 hz0 hz1 hz2 hin
      go_wp2_with (first
        | (at_builtin; refine wpList_append_own_at _ rfl (.tmp 16) (.tmp 17) 102 rfl V.heap.size 5 i0 (.int .u8 0) 1 1 Tryd.underlying102 HI.out HZ0.out HZ1.out HZ2.out rfl (by decide) _ n _ rfl (HO.out.alloc _) ⟨wr.heap.size, 0, none⟩ 1 1 [.int .u8 32] rfl rfl (cell_one_new _ _ _) (fun u hu => by simp only [List.mem_singleton] at hu; subst hu; rfl) (by unfold maxLen; omega) (by omega) (by simp; omega) ?_
           intro v' w2 h2 h3 _ _
           have H2 := Lib.hid h2
           have H3 := Lib.hid ((HBr.out.trans (below_alloc hsz (.cells #[.int .u8 32] 5))).trans (below_of_grown h3 (by simp; omega) (own_base HO.out)))
           clear h2 h3)
        | (go_at_call 62; refine (happ.out _ _ H3.out (by rw [Lib.byteCells_append]; exact H2.out)).mono ?_; rintro e w3 ⟨v'', rfl, ⟨m, h4⟩, h5⟩))
      refine ⟨⟨i + 1, m, by omega, by simp, h4, h5⟩, ?_⟩
      simp only [intOf]
      omega
    · have hin : i = xs.length := by omega
      have hge : ¬ (i : Int) < xs.length := by omega
      have htake : xs.take i = xs := by rw [hin, List.take_length]
      rw [htake] at HO hnl
      have hpos : 0 < (keyB k xs).length := by
        unfold keyB
        rw [List.length_append]
        have : 0 < (Lib.itoa k).length := by
          unfold Lib.itoa
          split
          · simp
          · rw [Lib.decDigits_length]; unfold Lib.nDigits; split <;> omega
        omega
      have hcv := row_string (P := Tryd.prog) Tryd.underlying102 Tryd.underlying5 Tryd.underlying9 HO.out hpos
      clear hpos htake hnl hin
      go_wp2_with fail
      go_ret
      exact ⟨rfl, HK.out.trans (KeepBut.of_below HBr.out)⟩

end Go.Proofs.YtoolpifkfgileaaDoor
