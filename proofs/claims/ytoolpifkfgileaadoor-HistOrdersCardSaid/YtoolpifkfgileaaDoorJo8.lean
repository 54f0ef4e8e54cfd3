/- Joined texts of this work: Key, MayLaw, Kit, App, OwnC, Hi1, Hi2, Hi3. -/
import Derived.Test.YtoolpifkfgileaaDoorJo7
import Derived.Lib.ItoaLen
import Derived.Laws.BytesString
import Derived.Laws.Cells
import Derived.Lib.AppendIntMem
import Derived.Laws.Strings
import Derived.Test.YtoolpifkfgileaaDoorJo6
import Derived.Test.YtoolpifkfgileaaDoorJo3
import Derived.Maps.AppendAt
import Derived.Test.YtoolpifkfgileaaDoorJo5

/-
  Package spec: Key, told as the text of its content.
-/
namespace Go.Proofs.YtoolpifkfgileaaDoor
open Go Go.RowKit Own

/-- the text of a content -/
def keyB (k : Int) (xs : List Int) : List UInt8 := Lib.itoa k ++ xs.flatMap fun x => 32 :: Lib.itoa x

def In64 (x : Int) : Prop := -9223372036854775808 ≤ x ∧ x ≤ 9223372036854775807

theorem keyB_snoc (k : Int) (xs : List Int) (i : Nat) (h : i < xs.length) : keyB k (xs.take (i + 1)) = (keyB k (xs.take i) ++ [32]) ++ Lib.itoa (nth xs i) := by
  unfold keyB
  rw [List.take_succ_eq_append_getElem h, List.flatMap_append]
  simp [nth_eq h]

theorem keyB_length_le (k : Int) (xs : List Int) (hk : In64 k) (hx : ∀ x ∈ xs, In64 x) : (keyB k xs).length ≤ 21 + 22 * xs.length := by
  unfold keyB
  have h0 := Lib.itoa_length_le k hk.1 hk.2
  have h1 : (xs.flatMap fun x => 32 :: Lib.itoa x).length ≤ 22 * xs.length := by
    clear h0 hk
    induction xs with
    | nil => simp
    | cons x xs ih =>
      have := ih fun y hy => hx y (List.mem_cons_of_mem _ hy)
      have h2 := Lib.itoa_length_le x (hx x List.mem_cons_self).1 (hx x List.mem_cons_self).2
      simp only [List.flatMap_cons, List.length_append, List.length_cons]
      omega
  rw [List.length_append]
  omega

theorem foldl_push (l : List UInt8) : ∀ acc : ByteArray, ((l.map fun b => (b.toNat : Int)).foldl (fun r n => r.push (UInt8.ofNat n.toNat)) acc) = ⟨acc.data ++ l.toArray⟩ := by
  induction l with
  | nil => intro acc; simp
  | cons b l ih =>
    intro acc
    rw [List.map_cons, List.foldl_cons, ih]
    simp [ByteArray.push]

/-- a row of bytes of the call's own, as a string -/
theorem row_string {P : Program} {src dst : TypeId} {e : TypeId} {w : World} {B n : Nat} {sv : Value} {l : List UInt8} (hs : P.underlying src = some (.slice e)) (he : P.underlying e = some (.int .u8)) (hd : P.underlying dst = some .string)
    (h : w.ownsRow B e 1 sv n (Lib.byteCells l)) (hl : 0 < l.length) : (convert src dst sv).run P w = .ok (.string ⟨l.toArray⟩) w := by
  have hn := h.1
  have hcells := h
  obtain ⟨_, h0 | ⟨g, cap, cur, rfl, _, _, _⟩⟩ := h
  · have := h0.2
    rw [Lib.byteCells_length] at hn
    omega
  · rw [run_convert_bytes_string w src dst e _ _ _ hs he hd]
    have hc := hcells.cells (g := g) rfl
    have hn' : n = (Lib.byteCells l).length := by rw [hn]; omega
    rw [hn']
    have e1 : Lib.byteCells l = (l.map fun b => (b.toNat : Int)).map (Value.int .u8) := by simp [Lib.byteCells]
    have := run_bytesToString (P := P) w ⟨g, 0, none⟩ (Lib.byteCells l).length cap (l.map fun b => (b.toNat : Int)) (by
      rw [run_loadCells_list w ⟨g, 0, none⟩ (Lib.byteCells l) hc, e1])
    rw [this, foldl_push]
    simp

theorem below_of_grown {w w' : World} {B : Nat} {row : Option Nat} (h : w.grownBy w' row) (hB : B ≤ w.heap.size) (hr : ∀ g, row = some g → B ≤ g) : Below B w w' :=
  ⟨h.os, h.tape, h.output, h.size, fun k hk => h.block k (by omega) fun e => by have := hr k e.symm; omega⟩

theorem own_base {w : World} {B n size : Nat} {e : TypeId} {v : Value} {xs : List Value} (h : w.ownsRow B e size v n xs) : ∀ g, v.ownBlock = some g → B ≤ g := by
  intro g hg
  obtain ⟨_, h0 | ⟨g', cap, cur, rfl, hb, _⟩⟩ := h
  · rw [h0.1] at hg; cases hg
  · simp only [Value.ownBlock, Option.some.injEq] at hg; omega

theorem below_alloc {w : World} {B : Nat} (h : B ≤ w.heap.size) (o : Obj) : Below B w (w.alloc o) := by
  have k := KeepBut.alloc (fun _ => False) w o
  exact ⟨k.os, k.tape, k.output, k.size, fun j hj => k.block j (by omega) fun e => e⟩

/-- the loop's relation -/
def KeyRel (B : Nat) (V : World) (k : Int) (xs : List Int) (v3 v12 : Value) (wr : World) : Prop :=
  ∃ (i n : Nat), i ≤ xs.length ∧ v12 = .int .i64 i ∧ wr.ownsRow B 5 1 v3 n (Lib.byteCells (keyB k (xs.take i))) ∧ Below B V wr

set_option maxHeartbeats 4000000 in
theorem key_any (w : World) (k : Int) (p : Option Addr) (c : Nat) (xs : List Int) (hrd : Rd w p (ints xs)) (hl : xs.length ≤ 1000000) (hk : In64 k) (hx : ∀ x ∈ xs, In64 x)
    (htab : Lib.TabIs Tryd.prog w "internal/strconv.uint64pow10" .u64 Lib.pow10Tab) :
    Calls Tryd.prog 58 #[.agg #[.int .i64 k, .slice p xs.length c]] w fun e w' => e = .returned (.string ⟨(keyB k xs).toArray⟩) ∧ KeepBut (fun _ => False) w w' := by
  obtain ⟨V, N, hV, hN, hb, hkV, -⟩ := fresh_block w (.cells #[.int .i64 k, .slice p xs.length c] 47)
  have HR := Lib.hid (hrd.stay hkV)
  have htV : Lib.TabIs Tryd.prog V "internal/strconv.uint64pow10" .u64 Lib.pow10Tab := (Lib.tabBelow_of_tabIs htab V ⟨hkV.os, hkV.tape, hkV.output, hkV.size, fun j hj => hkV.block j hj fun e => e⟩)
  have HT := Lib.hid (Lib.tabBelow_of_tabIs htV)
  have HK := Lib.hid hkV; have HX := Lib.hid hx
  have z0 := blk_cell (k := 0) hb rfl
  have z1 := blk_cell (k := 1) hb rfl
  have HB := Lib.hid hb
  clear hrd htab hkV hb htV hx
  have d0 : Hid (Calls Tryd.prog 62 #[.slice none 0 0, .int .i64 k, .int .i64 10] V fun e w' => ∃ v', e = .returned v' ∧ w'.ownsRow V.heap.size 5 1 v' (Lib.itoa k).length (Lib.byteCells (Lib.itoa k)) ∧ Below V.heap.size V w') := by
    refine (Tryd.strconv_AppendInt_10 V.heap.size 0 k hk.1 hk.2 (.slice none 0 0) [] V (World.ownsRow_nil _ _ _ _) (Nat.le_refl _) (by omega) HT.out).mono ?_
    rintro e w' ⟨v', h1, h2, h3, _⟩
    refine ⟨v', h1, ?_, h3⟩
    simpa using h2
  have HKK := Lib.hid hk
  clear hk
  go_enter Tryd.func58, Tryd.ntmps58
  go_upto_region 1 with fail
  rw [← hV, ← hN]
  clear hV hN
  go_upto_region 2 with (go_at_call 62; refine d0.out.mono ?_; rintro e w1 ⟨sv, rfl, ho1, hb1⟩)
  have HO1 := Lib.hid ho1; have HB1 := Lib.hid hb1
  have y1 := (KeepBut.of_below (E := fun _ => False) hb1).stay z1
  clear ho1 hb1 d0 z0 z1
  go_wp2_with fail
  clear y1
  go_loopw [3, 12] (fun v3 v12 wr => KeyRel V.heap.size V k xs v3 v12 wr) (fun _ i _ => xs.length - (intOf i).toNat)
  case atStart =>
    exact ⟨0, _, Nat.zero_le _, rfl, by simpa [keyB] using HO1.out, HB1.out⟩
  case round =>
    obtain ⟨i, n, hi, rfl, ho, hb⟩ := hrel
    have HO := Lib.hid ho; have HBr := Lib.hid hb
    have hnl : n = (keyB k (xs.take i)).length := by have := ho.1; rw [Lib.byteCells_length] at this; omega
    have hn22 : n ≤ 22000021 := by
      have := keyB_length_le k (xs.take i) HKK.out fun x h => HX.out x (List.mem_of_mem_take h)
      rw [List.length_take] at this
      omega
    have hsz : V.heap.size ≤ wr.heap.size := hb.size
    have hi0 : (0 : Int) ≤ i := by omega
    have hWi : IntKind.i64.wrap ((i : Int) + 1) = i + 1 := IntWalk.i64_in _ (by omega)
    clear ho hb
    by_cases hlt : i < xs.length
    · have hltI : (i : Int) < xs.length := by omega
      have hrd := HR.out.stay (KeepBut.of_below (E := fun _ => False) HBr.out)
      obtain ⟨b, o, rfl, _⟩ := hrd.ptr (by rw [ints_length]; omega)
      have c1 : wr.cell? ⟨b, o + i, none⟩ = some (.int .i64 (nth xs i)) := hrd.int i hlt
      have hin : In64 (nth xs i) := HX.out _ (by rw [nth_eq hlt]; exact List.getElem_mem hlt)
      obtain ⟨i0, hi1, hz0, hz1, hz2⟩ : ∃ i0, Tryd.prog.info? 5 = some i0 ∧ i0.zero = some (.int .u8 0) ∧ i0.size = 1 ∧ i0.bytes = 1 := by
        have h : (Tryd.prog.info? 5).map (fun i => (i.zero, i.size, i.bytes)) = some (some (.int .u8 0), 1, 1) := by kernel_rfl
        cases hh : Tryd.prog.info? 5 with
        | none => rw [hh] at h; cases h
        | some i0 =>
          rw [hh] at h
          simp only [Option.map_some, Option.some.injEq, Prod.mk.injEq] at h
          exact ⟨i0, rfl, h.1, h.2.1, h.2.2⟩
      have HI := Lib.hid hi1; have HZ0 := Lib.hid hz0; have HZ1 := Lib.hid hz1; have HZ2 := Lib.hid hz2
      have HIN := Lib.hid hin
      have happ : Hid (∀ W v', Below V.heap.size V W → W.ownsRow V.heap.size 5 1 v' (n + 1) (Lib.byteCells (keyB k (xs.take i) ++ [32])) → Calls Tryd.prog 62 #[v', .int .i64 (nth xs i), .int .i64 10] W fun e w' => ∃ v'', e = .returned v'' ∧ (∃ m, w'.ownsRow V.heap.size 5 1 v'' m (Lib.byteCells (keyB k (xs.take (i + 1))))) ∧ Below V.heap.size V w') := fun W v' hW hown => by
        refine (Tryd.strconv_AppendInt_10 V.heap.size (n + 1) (nth xs i) HIN.out.1 HIN.out.2 v' _ W hown hW.size (by omega) (HT.out.on hW)).mono ?_
        rintro e w' ⟨v'', h1, h2, h3, _⟩
        refine ⟨v'', h1, ⟨n + 1 + (Lib.itoa (nth xs i)).length, ?_⟩, hW.trans h3⟩
        rw [keyB_snoc k xs i hlt, Lib.byteCells_append]
        exact h2
      clear hrd hi1 hz0 hz1 hz2 hin
      go_wp2_with (first
        | (at_builtin; refine wpList_append_own_at _ rfl (.tmp 16) (.tmp 17) 102 rfl V.heap.size 5 i0 (.int .u8 0) 1 1 Tryd.underlying102 HI.out HZ0.out HZ1.out HZ2.out rfl (by decide) _ n _ rfl (HO.out.alloc _) ⟨wr.heap.size, 0, none⟩ 1 1 [.int .u8 32] rfl rfl (cell_one_new _ _ _) (fun u hu => by simp only [List.mem_singleton] at hu; subst hu; rfl) (by unfold maxLen; omega) (by omega) (by simp; omega) ?_
           intro v' w2 h2 h3 _ _
           have H2 := Lib.hid h2
           have H3 := Lib.hid ((HBr.out.trans (below_alloc hsz (.cells #[.int .u8 32] 5))).trans (below_of_grown h3 (by simp; omega) (own_base HO.out)))
           clear h2 h3)
        | (go_at_call 62; refine (happ.out _ _ H3.out (by rw [Lib.byteCells_append]; exact H2.out)).mono ?_; rintro e w3 ⟨v'', rfl, ⟨m, h4⟩, h5⟩))
      refine ⟨⟨i + 1, m, by omega, by simp, h4, h5⟩, ?_⟩
      simp only [intOf]
      omega
    · have hin : i = xs.length := by omega
      have hge : ¬ (i : Int) < xs.length := by omega
      have htake : xs.take i = xs := by rw [hin, List.take_length]
      rw [htake] at HO hnl
      have hpos : 0 < (keyB k xs).length := by
        unfold keyB
        rw [List.length_append]
        have : 0 < (Lib.itoa k).length := by
          unfold Lib.itoa
          split
          · simp
          · rw [Lib.decDigits_length]; unfold Lib.nDigits; split <;> omega
        omega
      have hcv := row_string (P := Tryd.prog) Tryd.underlying102 Tryd.underlying5 Tryd.underlying9 HO.out hpos
      clear hpos htake hnl hin
      go_wp2_with fail
      go_ret
      exact ⟨rfl, HK.out.trans (KeepBut.of_below HBr.out)⟩

end Go.Proofs.YtoolpifkfgileaaDoor

/-
  In plain: a content's text tells it; how May and Do agree. No code in sight.
-/
namespace Go.Proofs.YtoolpifkfgileaaDoor
open Go Go.RowKit Own

theorem dig_nat (d : Nat) (h : d < 10) : (UInt8.ofNat (48 + d)).toNat = 48 + d := by
  rw [UInt8.toNat_ofNat']
  exact Nat.mod_eq_of_lt (by omega)

theorem dec_bytes : ∀ (n u : Nat), u ≤ n → ∀ b ∈ Lib.decDigits u, 48 ≤ b.toNat ∧ b.toNat ≤ 57
  | n, u, hn, b, hb => by
    rw [Lib.decDigits] at hb
    have hd : ∀ d, d < 10 → ∀ b, b ∈ [UInt8.ofNat (48 + d)] → 48 ≤ b.toNat ∧ b.toNat ≤ 57 := fun d hd b hb => by
      simp only [List.mem_singleton] at hb
      subst hb
      rw [dig_nat d hd]
      omega
    by_cases h : u < 10
    · rw [dif_pos h] at hb
      exact hd u h b hb
    · rw [dif_neg h, List.mem_append] at hb
      rcases hb with hb | hb
      · match n, hn with
        | n + 1, hn => exact dec_bytes n (u / 10) (by omega) b hb
        | 0, hn => omega
      · exact hd _ (by omega) b hb

def valB (l : List UInt8) : Nat := l.foldl (fun a b => a * 10 + (b.toNat - 48)) 0

theorem val_dec : ∀ (n u : Nat), u ≤ n → valB (Lib.decDigits u) = u
  | n, u, hn => by
    rw [Lib.decDigits]
    by_cases h : u < 10
    · rw [dif_pos h]
      simp only [valB, List.foldl_cons, List.foldl_nil, dig_nat u h]
      omega
    · rw [dif_neg h]
      have ih : valB (Lib.decDigits (u / 10)) = u / 10 := by
        match n, hn with
        | n + 1, hn => exact val_dec n (u / 10) (by omega)
        | 0, hn => omega
      unfold valB at ih ⊢
      rw [List.foldl_append, ih]
      simp only [List.foldl_cons, List.foldl_nil, dig_nat (u % 10) (Nat.mod_lt _ (by decide))]
      omega

theorem dec_inj {u v : Nat} (h : Lib.decDigits u = Lib.decDigits v) : u = v := by
  rw [← val_dec u u (Nat.le_refl _), ← val_dec v v (Nat.le_refl _), h]

theorem dec_ne {u : Nat} {l : List UInt8} : Lib.decDigits u ≠ 45 :: l := fun h => by
  have := dec_bytes u u (Nat.le_refl _) 45 (by rw [h]; exact List.mem_cons_self)
  have h45 : (45 : UInt8).toNat = 45 := rfl
  omega

theorem itoa_inj {a b : Int} (h : Lib.itoa a = Lib.itoa b) : a = b := by
  unfold Lib.itoa at h
  split at h <;> split at h
  · have := dec_inj (List.cons.inj h).2
    omega
  · exact absurd h.symm dec_ne
  · exact absurd h dec_ne
  · have := dec_inj h
    omega

theorem itoa_no32 (a : Int) : ∀ b ∈ Lib.itoa a, (b != 32) = true := fun b hb => by
  have key : ∀ u, b ∈ Lib.decDigits u → (b != 32) = true := fun u hu => by
    have := dec_bytes u u (Nat.le_refl _) b hu
    simp only [bne_iff_ne, ne_eq]
    intro e
    subst e
    have h32 : (32 : UInt8).toNat = 32 := rfl
    omega
  unfold Lib.itoa at hb
  split at hb
  · rcases List.mem_cons.1 hb with e | e
    · subst e; decide
    · exact key _ e
  · exact key _ hb

def rowB (xs : List Int) : List UInt8 := xs.flatMap fun x => 32 :: Lib.itoa x

theorem rowB_cons (x : Int) (xs : List Int) : rowB (x :: xs) = 32 :: (Lib.itoa x ++ rowB xs) := by simp [rowB]

theorem rowB_take (xs : List Int) : (rowB xs).takeWhile (· != 32) = [] := by
  cases xs with
  | nil => rfl
  | cons x xs => rw [rowB_cons]; rfl

theorem split_inj {a b : Int} {xs ys : List Int} (h : Lib.itoa a ++ rowB xs = Lib.itoa b ++ rowB ys) : a = b ∧ rowB xs = rowB ys := by
  have h1 : ∀ (c : Int) zs, (Lib.itoa c ++ rowB zs).takeWhile (· != 32) = Lib.itoa c := fun c zs => by
    rw [List.takeWhile_append_of_pos (itoa_no32 c), rowB_take, List.append_nil]
  have e : Lib.itoa a = Lib.itoa b := by rw [← h1 a xs, ← h1 b ys, h]
  refine ⟨itoa_inj e, ?_⟩
  rw [e] at h
  exact List.append_cancel_left h

theorem rowB_inj : ∀ (xs ys : List Int), rowB xs = rowB ys → xs = ys
  | [], [], _ => rfl
  | [], y :: ys, h => by rw [rowB_cons] at h; cases h
  | x :: xs, [], h => by rw [rowB_cons] at h; cases h
  | x :: xs, y :: ys, h => by
    rw [rowB_cons, rowB_cons] at h
    obtain ⟨h1, h2⟩ := split_inj (List.cons.inj h).2
    rw [h1, rowB_inj xs ys h2]

theorem keyB_inj {k l : Int} {xs ys : List Int} (h : keyB k xs = keyB l ys) : k = l ∧ xs = ys := by
  obtain ⟨h1, h2⟩ := split_inj (a := k) (b := l) (xs := xs) (ys := ys) h
  exact ⟨h1, rowB_inj _ _ h2⟩

theorem key_same (k l : Int) (xs ys : List Int) : ((⟨(keyB k xs).toArray⟩ : ByteArray).toList == (⟨(keyB l ys).toArray⟩ : ByteArray).toList) = decide (k = l ∧ xs = ys) := by
  rw [ByteArray.toList_mk, ByteArray.toList_mk]
  by_cases h : k = l ∧ xs = ys
  · rw [decide_eq_true h, h.1, h.2]
    exact beq_self_eq_true _
  · rw [decide_eq_false h]
    exact beq_eq_false_iff_ne.2 fun e => h (keyB_inj e)

theorem doR_code (k op : Int) (xs : List Int) (x : Int) : (doR k op xs x).code ≠ 2 := by
  unfold doR
  split
  · split
    · show (if _ then (1 : Int) else 0) ≠ 2
      split <;> decide
    · show (0 : Int) ≠ 2
      decide
  · show (0 : Int) ≠ 2
    decide

/-- the statement's two words, and what May answers -/
theorem may_law {k op : Int} {xs : List Int} {x v cd dk dv dc de : Int} {ys : List Int} (h : doR k op xs x = ⟨dk, ys, dv, dc, de⟩) (full does : Bool)
    (h1 : (cd == 2 && (v == 0 && (insB op && (de == 7 || (de == 0 && dc == 1))))) = full) (h2 : (de == 0 && (v == dv && cd == dc)) = does) :
    (mayR k op xs x v cd = ⟨k, xs, full⟩ ∧ does = false) ∨ (mayR k op xs x v cd = ⟨dk, ys, true⟩ ∧ full = false ∧ does = true) := by
  have hc : dc ≠ 2 := by have := doR_code k op xs x; rw [h] at this; exact this
  unfold mayR
  rw [h]
  by_cases hcd : cd = 2
  · subst hcd
    left
    rw [if_pos rfl]
    refine ⟨?_, ?_⟩
    · rw [← h1]
      simp [Bool.and_assoc]
    · rw [← h2]
      have : ((2 : Int) == dc) = false := by simpa using fun e => hc e.symm
      rw [this, Bool.and_false, Bool.and_false]
  · have hf : full = false := by
      rw [← h1]
      have : (cd == 2) = false := by simpa using hcd
      rw [this, Bool.false_and]
    rw [if_neg hcd]
    by_cases hd : de = 0 ∧ cd = dc ∧ v = dv
    · right
      rw [if_pos hd]
      refine ⟨rfl, hf, ?_⟩
      rw [← h2, hd.1, hd.2.1, hd.2.2]
      simp
    · left
      rw [if_neg hd, hf]
      refine ⟨rfl, ?_⟩
      rw [← h2]
      cases e : (de == 0 && (v == dv && cd == dc)) with
      | false => rfl
      | true =>
        simp only [Bool.and_eq_true, beq_iff_eq] at e
        exact absurd ⟨e.1, e.2.2, e.2.1⟩ hd

end Go.Proofs.YtoolpifkfgileaaDoor

/-
  Helpers of the statements: fencepostkit.
-/
namespace Go.Proofs.YtoolpifkfgileaaDoor
open Go Go.RowKit Own

/-- the first k of both are the same -/
def agree (xs ys : List Int) (k : Nat) : Prop := ∀ j, j < k → nth xs j = nth ys j
theorem agree_all {xs ys : List Int} (hl : xs.length = ys.length) (h : agree xs ys xs.length) : xs = ys := by
  apply List.ext_getElem hl
  intro i h1 h2
  have := h i h1
  rwa [nth_eq h1, nth_eq h2] at this
theorem agree_not {xs ys : List Int} {k : Nat} (h : nth xs k ≠ nth ys k) : xs ≠ ys := fun e => h (by rw [e])

set_option maxHeartbeats 2000000 in
/-- fencepostkit.Same -/
theorem kitSame_any (w : World) (p q : Option Addr) (c d : Nat) (xs ys : List Int) (hx : Rd w p (ints xs)) (hy : Rd w q (ints ys)) (hlx : xs.length ≤ 1099511627776) (hly : ys.length ≤ 1099511627776) :
    Calls Tryd.prog 43 #[.slice p xs.length c, .slice q ys.length d] w fun e w' => e = .returned (.bool (decide (xs = ys))) ∧ KeepBut (fun _ => False) w w' := by
  by_cases hl : xs.length = ys.length
  · by_cases h0 : xs.length = 0
    · have h1 : xs = [] := List.eq_nil_of_length_eq_zero h0
      have h2 : ys = [] := List.eq_nil_of_length_eq_zero (by omega)
      subst h1 h2
      clear hx hy hl h0 hlx hly
      go_enter Tryd.func43, Tryd.ntmps43
      go_wp2_with fail
      go_loopw [5] (fun i wr => i = .int .i64 0 ∧ KeepBut (fun _ => False) w wr) (fun _ _ => 0)
      case atStart => exact ⟨rfl, KeepBut.refl _ w⟩
      case round =>
        obtain ⟨rfl, hd⟩ := hrel
        go_wp2_with fail
        go_ret
        exact ⟨rfl, hd⟩
    · obtain ⟨b, o, rfl, _⟩ := hx.ptr (by rw [ints_length]; omega)
      obtain ⟨b', o', rfl, _⟩ := hy.ptr (by rw [ints_length]; omega)
      have HX := Lib.hid hx; have HY := Lib.hid hy
      have hlI : (ys.length : Int) = xs.length := by omega
      have HL := Lib.hid hl
      clear hx hy hl h0
      go_enter Tryd.func43, Tryd.ntmps43
      go_wp2_with fail
      go_loopw [5] (fun i wr => ∃ k : Nat, k ≤ xs.length ∧ i = .int .i64 k ∧ agree xs ys k ∧ KeepBut (fun _ => False) w wr) (fun i _ => xs.length - (intOf i).toNat)
      case atStart => exact ⟨0, Nat.zero_le _, rfl, fun j hj => by omega, KeepBut.refl _ w⟩
      case round =>
        obtain ⟨k, hk, rfl, hag, hd⟩ := hrel
        have HA := Lib.hid hag; have HD := Lib.hid hd
        clear hag hd
        by_cases hlt : k < xs.length
        · have hltI : (k : Int) < (xs.length : Int) := by omega
          have c1 : ∀ w', KeepBut (fun _ => False) wr.drew w' → w'.cell? ⟨b, o + k, none⟩ = some (.int .i64 (nth xs k)) := fun w' h => (HX.out.stay ((HD.out.trans (KeepBut.drew _ wr)).trans h)).int k hlt
          have c2 : ∀ w', KeepBut (fun _ => False) wr.drew w' → w'.cell? ⟨b', o' + k, none⟩ = some (.int .i64 (nth ys k)) := fun w' h => (HY.out.stay ((HD.out.trans (KeepBut.drew _ wr)).trans h)).int k (by have := HL.out; omega)
          have h0k : (0 : Int) ≤ k := by omega
          have hW : IntKind.i64.wrap ((k : Int) + 1) = k + 1 := IntWalk.i64_in _ (by omega)
          by_cases heq : nth xs k = nth ys k
          · have hag' := Lib.hid (show agree xs ys (k + 1) from fun j hj => by
              rcases Nat.lt_or_ge j k with h | h
              · exact HA.out j h
              · rw [show j = k by omega]; exact heq)
            have hb : (nth xs k != nth ys k) = false := by simp [heq]
            clear heq
            go_upto_region 6 with fail
            refine wp_own0 (by kernel_rfl) (fun i => [[], [], [0, 1], [0, 1, 2], [], [], [4, 5], [4, 5, 6], [0, 1, 2, 3, 4, 5, 6, 7]].getD i []) (fun _ => []) (fun _ => []) [] (by kernel_rfl) (fun _ => none) ?_
            repeat
              apply lex_quiet rfl rfl
              · intro w' hk; go_simp; with_reducible rfl
              simp only [Act.put, List.setIfInBounds_toArray, List.set_cons_zero, List.set_cons_succ]
            refine lex_nil ?_
            intro w1 hk1 _ _
            have HD1 : Hid (KeepBut (fun _ => False) w w1) := (HD.out.trans (KeepBut.drew _ wr)).trans hk1
            clear c1 c2 hk1
            go_wp2_with fail
            refine ⟨⟨k + 1, by omega, by simp, hag'.out, HD1.out⟩, ?_⟩
            simp only [intOf]
            omega
          · have hne := Lib.hid (show decide (xs = ys) = false by simpa using agree_not heq)
            have hb : (nth xs k != nth ys k) = true := by simp [heq]
            clear heq
            go_upto_region 6 with fail
            refine wp_own0 (by kernel_rfl) (fun i => [[], [], [0, 1], [0, 1, 2], [], [], [4, 5], [4, 5, 6], [0, 1, 2, 3, 4, 5, 6, 7]].getD i []) (fun _ => []) (fun _ => []) [] (by kernel_rfl) (fun _ => none) ?_
            repeat
              apply lex_quiet rfl rfl
              · intro w' hk; go_simp; with_reducible rfl
              simp only [Act.put, List.setIfInBounds_toArray, List.set_cons_zero, List.set_cons_succ]
            refine lex_nil ?_
            intro w1 hk1 _ _
            have HD1 : Hid (KeepBut (fun _ => False) w w1) := (HD.out.trans (KeepBut.drew _ wr)).trans hk1
            clear c1 c2 hk1
            go_wp2_with fail
            go_ret
            exact ⟨ret_bool hne.out.symm, HD1.out⟩
        · have he := Lib.hid (show decide (xs = ys) = true by simpa using agree_all HL.out (by rw [show xs.length = k by omega]; exact HA.out))
          have hge : ¬ (k : Int) < (xs.length : Int) := by omega
          go_wp2_with fail
          go_ret
          exact ⟨ret_bool he.out.symm, HD.out⟩
  · have he := Lib.hid (show decide (xs = ys) = false by simpa using fun e => hl (by rw [e]))
    have hb : ((xs.length : Int) != (ys.length : Int)) = true := by simp; omega
    clear hx hy hl
    go_enter Tryd.func43, Tryd.ntmps43
    go_wp2_with fail
    go_ret
    exact ⟨ret_bool he.out.symm, KeepBut.refl _ _⟩

end Go.Proofs.YtoolpifkfgileaaDoor

/-
  append of a row that is read to a row of one's own. No program in sight.
-/
namespace Go.Proofs.YtoolpifkfgileaaDoor
open Go Go.RowKit Own

theorem append_ownN {P : Program} (E t ty : TypeId) (w : World) (p : Option Addr) (c : Nat) (xs zs : List Int) (a : Addr) (cc : Nat) (ht : P.underlying t = some (.slice E))
    (hinfo : (P.info? E).map (fun i => (i.zero, i.size, i.bytes)) = some (some (.int .i64 0), 1, 8)) (ho : OwnI E 0 w p c xs) (hz : ∀ j, j < zs.length → w.cell? (a.add j) = some (.int .i64 (nth zs j))) (hl : xs.length + zs.length ≤ 1099511627776) :
    ∃ p' c' w', (Builtin.append_ #[t, t] ty #[.slice p xs.length c, .slice (some a) zs.length cc]).run P w = .ok (.slice p' (xs.length + zs.length) c') w' ∧ OwnI E 0 w' p' c' (xs ++ zs) ∧ KeepBut (Of p) w w' ∧ ∀ b, Of p' b → Of p b ∨ w.heap.size ≤ b := by
  obtain ⟨i0, hi, hz0, hz1, hz2⟩ := info_parts hinfo
  obtain ⟨v', w', h1, h2, h3, h4, h5⟩ := run_append_own_at (P := P) w 0 t ty E i0 (.int .i64 0) 1 8 ht hi hz0 hz1 hz2 rfl (by decide) _ xs.length (ints xs) ho a zs.length cc (ints zs) (by rw [ints_length]; omega)
    (fun j u hj => by
      have hlt : j < zs.length := by
        rcases Nat.lt_or_ge j zs.length with h | h
        · exact h
        · rw [List.getElem?_eq_none (by rw [ints_length]; exact h)] at hj; cases hj
      rw [hz j hlt]
      have : (ints zs)[j]? = some (.int .i64 (nth zs j)) := by simp [ints, nth, List.getElem?_map, List.getElem?_eq_getElem hlt]
      rw [this] at hj; exact hj)
    (fun u hu => by
      obtain ⟨z, _, rfl⟩ := List.mem_map.1 hu; rfl) (by unfold maxLen; omega) (by omega) (Nat.zero_le _)
  have hrow : w'.ownsRow 0 E 1 v' (xs ++ zs).length (ints (xs ++ zs)) := by simpa [ints] using h2
  obtain ⟨p', c', rfl, ho'⟩ := OwnI.of_row hrow
  refine ⟨p', c', w', by rw [h1]; simp, ho', KeepBut.grown h3 fun k hk => ?_, fun b hb => ?_⟩
  · cases p with
    | none => simp [Value.ownBlock] at hk
    | some a => simp only [Value.ownBlock, Option.some.injEq] at hk; exact ⟨a, rfl, hk.symm⟩
  · obtain ⟨a, rfl, rfl⟩ := hb
    simp only [Value.ownBlock] at h5
    rcases h5 with h5 | h5
    · cases p with
      | none => simp at h5
      | some a' => simp only [Option.some.injEq] at h5; exact .inl ⟨a', rfl, h5⟩
    · simp only [Option.some.injEq] at h5; exact .inr (by omega)

def sAppN (E : TypeId) (xs zs : List Int) : Loud := { val := fun _ g => .slice g.p (xs.length + zs.length) g.c, fp := fun _ g => Of g.p, post := fun _ g w => OwnI E 0 w g.p g.c (xs ++ zs) }

/-- .. as an operation of a region: operation j promises the row; the other row lies in memory that stays -/
theorem loud_appendN {P : Program} {w0 : World} {M : Nat → Prop} {o : Oper} {a : Act} {av ea : List Nat} {F : Nat → World → Prop} {Fp : Nat → Nat → Prop} (E t : TypeId) (p : Option Addr) (c n cc m : Nat) (xs zs : List Int) (ad : Addr) (x y : Operand) (ho : o.op = .call { callee := .builtin .append, args := #[x, y], argTypes := #[t, t] })
    (hx : a.eval x = .slice p n c) (hn : n = xs.length) (hy : a.eval y = .slice (some ad) m cc) (hm : m = zs.length) (ht : P.underlying t = some (.slice E))
    (hinfo : (P.info? E).map (fun i => (i.zero, i.size, i.bytes)) = some (some (.int .i64 0), 1, 8)) (hl : xs.length + zs.length ≤ 1099511627776) (hz : ∀ w, KeepBut M w0 w → ∀ j, j < zs.length → w.cell? (ad.add j) = some (.int .i64 (nth zs j)))
    (j : Nat) (hja : j ∈ av) (hje : j ∈ ea) (hF : ∀ w, F j w → OwnI E 0 w p c xs) (hfp : ∀ b, Of p b → Fp j b) (hpf : ∀ b, Fp j b → Of p b) :
    LoudOk P w0 M o a (sAppN E xs zs) av ea F Fp := by
  subst hn hm
  refine loud_run ⟨default, trivial⟩ (fun g _ => stable_ownI _ _ _ _ _) fun w hw hav _ => ?_
  obtain ⟨p', c', w', h1, h2, h3, h4⟩ := append_ownN (P := P) E t o.type w p c xs zs ad cc ht hinfo (hF w (hav j hja).1) (hz w hw) hl
  refine ⟨w', { p := p', c := c' }, trivial, .inl ?_, h3.mono fun b hb => ⟨j, hje, hfp b hb⟩, fun b hb => ⟨?_, ?_⟩, h2⟩
  · unfold execOp
    simp only [ho, resolve, invoke, builtin, Sem.run_bind, Sem.run_pure, Result.andThen_ok, List.map_toArray, List.map_cons, List.map_nil, hx, hy, h1, sAppN]
  · rcases h4 b hb with h | h
    · exact .inr ⟨j, hje, hfp b h⟩
    · exact .inl h
  · obtain ⟨a', h5, rfl⟩ := hb
    exact (h2.lt a' h5).2

theorem run_cut_to {P : Program} {t E : TypeId} (ht : P.underlying t = some (.slice E)) (hsz : (P.info? E).map (·.size) = some 1) (g n c at_ : Nat) (h : at_ ≤ c) (w : World) :
    (Instr.sliceAt t (.slice (some ⟨g, 0, none⟩) n c) none (some (.int .i64 at_)) none).run P w = .ok (.slice (some ⟨g, 0, none⟩) at_ c) w := by
  obtain ⟨i0, hi, hz⟩ : ∃ i0, P.info? E = some i0 ∧ i0.size = 1 := by
    cases hi : P.info? E with
    | none => rw [hi] at hsz; cases hsz
    | some i0 => rw [hi] at hsz; exact ⟨i0, rfl, by simpa using hsz⟩
  simp [Instr.sliceAt, Instr.slice, Instr.sliceBounds, Instr.sliceBound, asIntOf, run_underlying ht, Result.andThen, sizeOf, typeInfo, hi, h, Addr.add]

theorem run_cut_from {P : Program} {t E : TypeId} (ht : P.underlying t = some (.slice E)) (hsz : (P.info? E).map (·.size) = some 1) (g n c l : Nat) (h : l ≤ n) :
    ∃ ad : Addr, (∀ w, (Instr.sliceAt t (.slice (some ⟨g, 0, none⟩) n c) (some (.int .i64 l)) none none).run P w = .ok (.slice (some ad) (n - l) (c - l)) w) ∧ (c ≠ l → ad = ⟨g, l, none⟩) := by
  obtain ⟨i0, hi, hz⟩ : ∃ i0, P.info? E = some i0 ∧ i0.size = 1 := by
    cases hi : P.info? E with
    | none => rw [hi] at hsz; cases hsz
    | some i0 => rw [hi] at hsz; exact ⟨i0, rfl, by simpa using hsz⟩
  by_cases hc : c = l
  · refine ⟨⟨g, 0, none⟩, fun w => ?_, fun e => absurd hc e⟩
    simp [Instr.sliceAt, Instr.slice, Instr.sliceBounds, Instr.sliceBound, asIntOf, run_underlying ht, Result.andThen, sizeOf, typeInfo, hi, h, hc]
  · refine ⟨⟨g, l, none⟩, fun w => ?_, fun _ => rfl⟩
    simp [Instr.sliceAt, Instr.slice, Instr.sliceBounds, Instr.sliceBound, asIntOf, run_underlying ht, Result.andThen, sizeOf, typeInfo, hi, h, hc, hz, Addr.add]
    intro e; exact e.symm

theorem slice_exec {P : Program} {o : Oper} {a : Act} {t : TypeId} {x : Operand} {lo hi : Option Operand} (ho : o.op = .slice t x lo hi none) (w : World) (v : Value) (h : (Instr.sliceAt t (a.eval x) (lo.map a.eval) (hi.map a.eval) none).run P w = .ok v w) :
    (execOp a.eval o).run P w = .ok (.value v) w := by
  unfold execOp
  simp [ho, h, Result.andThen]

theorem add_off (g o j : Nat) : (⟨g, o, none⟩ : Addr).add j = ⟨g, o + j, none⟩ := by
  unfold Addr.add
  split
  · rename_i h; subst h; rfl
  · rfl

/-- append of one number to a row of one's own, at the operation -/
theorem wpList_append1 {P : Program} {w : World} {ops : Array Oper} {rest : List Oper} {o : Oper} {a : Act} {Q : Exit → Act → World → Prop} (hgd : o.guard = none) (s x : Operand) (t : TypeId)
    (ho : o.op = .call { callee := .builtin .append, args := #[s, x], argTypes := #[t, t] }) (E : TypeId) (p : Option Addr) (c n : Nat) (xs : List Int) (hn : n = xs.length) (vb : Nat) (z : Int)
    (hs : a.eval s = .slice p n c) (hx : a.eval x = .slice (some ⟨vb, 0, none⟩) 1 1) (ht : P.underlying t = some (.slice E))
    (hinfo : (P.info? E).map (fun i => (i.zero, i.size, i.bytes)) = some (some (.int .i64 0), 1, 8)) (hown : OwnI E 0 w p c xs) (hv : w.heap[vb]? = some (.cells #[.int .i64 z] E (0, 0))) (hl : xs.length ≤ 1099511627776)
    (h : ∀ p' c' w', OwnI E 0 w' p' c' (xs ++ [z]) → KeepBut (Of p) w w' → (∀ b, Of p' b → Of p b ∨ w.heap.size ≤ b) → wpList P ops Q rest (a.put o.dst (.slice p' (xs.length + 1) c')) w') :
    wpList P ops Q (o :: rest) a w := by
  subst hn
  refine wpList_plain hgd fun K hK => ?_
  obtain ⟨p', c', w', h1, h2, h3, h4⟩ := append_own1 (P := P) E t o.type w p c xs vb z ht hinfo hown hv hl
  unfold Oper.wp execOp
  simp only [ho, resolve, invoke, builtin, Sem.run_bind, Sem.run_pure, Result.andThen_ok, List.map_toArray, List.map_cons, List.map_nil, hs, hx, h1]
  exact hK _ _ (h p' c' w' h2 h3 h4)

end Go.Proofs.YtoolpifkfgileaaDoor

/-
  Helpers of the statements: fencepostkit.Own[int64], OwnContent, Content.
-/
namespace Go.Proofs.YtoolpifkfgileaaDoor
open Go Go.RowKit Own

/-- append of numbers that are read to a row of one's own, at the operation -/
theorem wpList_appendN {P : Program} {w : World} {ops : Array Oper} {rest : List Oper} {o : Oper} {a : Act} {Q : Exit → Act → World → Prop} (hgd : o.guard = none) (s x : Operand) (t : TypeId)
    (ho : o.op = .call { callee := .builtin .append, args := #[s, x], argTypes := #[t, t] }) (E : TypeId) (p : Option Addr) (c n : Nat) (xs zs : List Int) (hn : n = xs.length) (ad : Addr) (m cc : Nat) (hm : m = zs.length)
    (hs : a.eval s = .slice p n c) (hx : a.eval x = .slice (some ad) m cc) (ht : P.underlying t = some (.slice E))
    (hinfo : (P.info? E).map (fun i => (i.zero, i.size, i.bytes)) = some (some (.int .i64 0), 1, 8)) (hown : OwnI E 0 w p c xs) (hz : ∀ j, j < zs.length → w.cell? (ad.add j) = some (.int .i64 (nth zs j))) (hl : xs.length + zs.length ≤ 1099511627776)
    (h : ∀ p' c' w', OwnI E 0 w' p' c' (xs ++ zs) → KeepBut (Of p) w w' → (∀ b, Of p' b → Of p b ∨ w.heap.size ≤ b) → wpList P ops Q rest (a.put o.dst (.slice p' (xs.length + zs.length) c')) w') :
    wpList P ops Q (o :: rest) a w := by
  subst hn hm
  refine wpList_plain hgd fun K hK => ?_
  obtain ⟨p', c', w', h1, h2, h3, h4⟩ := append_ownN (P := P) E t o.type w p c xs zs ad cc ht hinfo hown hz hl
  unfold Oper.wp execOp
  simp only [ho, resolve, invoke, builtin, Sem.run_bind, Sem.run_pure, Result.andThen_ok, List.map_toArray, List.map_cons, List.map_nil, hs, hx, h1]
  exact hK _ _ (h p' c' w' h2 h3 h4)

theorem rd_adds {w : World} {a : Addr} {xs : List Int} (h : Rd w (some a) (ints xs)) : ∀ j, j < xs.length → w.cell? (a.add j) = some (.int .i64 (nth xs j)) := fun j hj => by
  obtain ⟨b, o, h1, _⟩ := h.ptr (by rw [ints_length]; omega)
  cases h1
  rw [add_off]
  exact h.int j hj

def DoneC (w : World) (e : Ending) (w' : World) (k : Int) (xs : List Int) : Prop :=
  ∃ p cap, e = .returned (.agg #[.int .i64 k, .slice p xs.length cap]) ∧ Lies w.heap.size w' p xs ∧ KeepBut (fun _ => False) w w'

theorem content_any (w : World) (k l : Int) (p q : Option Addr) (c d : Nat) (xs ys : List Int) (hx : Rd w p (ints xs)) (hy : Rd w q (ints ys)) (hlx : xs.length ≤ 1099511627776) (hly : ys.length ≤ 1099511627776) :
    Calls Tryd.prog 22 #[.agg #[.int .i64 k, .slice p xs.length c], .agg #[.int .i64 l, .slice q ys.length d]] w fun e w' => e = .returned (.bool (decide (k = l ∧ xs = ys))) ∧ KeepBut (fun _ => False) w w' := by
  have HX := Lib.hid hx; have HY := Lib.hid hy
  clear hx hy
  by_cases h : k = l
  · have hb : (k == l) = true := by simpa using h
    have hfin := Lib.hid (show decide (k = l ∧ xs = ys) = decide (xs = ys) by simp [h])
    clear h
    have hcon : ∀ W, KeepBut (fun _ => False) w W → Calls Tryd.prog 43 #[.slice p xs.length c, .slice q ys.length d] W fun e w' => e = .returned (.bool (decide (xs = ys))) ∧ KeepBut (fun _ => False) W w' := fun W hW =>
      kitSame_any W p q c d xs ys (HX.out.keep hW fun _ _ e => e) (HY.out.keep hW fun _ _ e => e) hlx hly
    have HC := Lib.hid hcon
    clear hcon
    generalize decide (xs = ys) = r at *
    go_enter Tryd.func22, Tryd.ntmps22
    go_wp2_with (go_at_call 43; refine (HC.out _ ((KeepBut.alloc _ _ _).trans (KeepBut.alloc _ _ _))).mono ?_; rintro e w' ⟨rfl, hd⟩)
    go_ret
    exact ⟨ret_bool hfin.out.symm, ((KeepBut.alloc _ _ _).trans (KeepBut.alloc _ _ _)).trans hd⟩
  · have hb : (k == l) = false := by simpa using h
    have hfin := Lib.hid (show decide (k = l ∧ xs = ys) = false by simp [h])
    clear h
    go_enter Tryd.func22, Tryd.ntmps22
    go_wp2_with fail
    go_ret
    exact ⟨ret_bool hfin.out.symm, (KeepBut.alloc _ _ _).trans (KeepBut.alloc _ _ _)⟩

end Go.Proofs.YtoolpifkfgileaaDoor

/-
  Package hist: calls as they lie in memory; Ahead; LightHist.
-/
namespace Go.Proofs.YtoolpifkfgileaaDoor
open Go Go.RowKit Own

/-- a call -/
structure Cl where
  hart : Int
  cont : Int
  op : Int
  arg : Int
  beg : Int
  till : Int
  value : Int
  code : Int

def Cl.zero : Cl := ⟨0, 0, 0, 0, 0, 0, 0, 0⟩
def Cl.vals (c : Cl) : List Value := [.int .i64 c.hart, .int .i64 c.cont, .int .i64 c.op, .int .i64 c.arg, .int .i64 c.beg, .int .i64 c.till, .int .i64 c.value, .int .i64 c.code]
def nthC (cs : List Cl) (i : Nat) : Cl := cs.getD i Cl.zero

/-- calls are read from p on -/
def RowC (w : World) (p : Option Addr) (l : List Cl) : Prop := ∀ i, i < l.length → ∃ g o, p = some ⟨g, o, none⟩ ∧
  w.cell? ⟨g, o + i * 8, none⟩ = some (.int .i64 (nthC l i).hart) ∧ w.cell? ⟨g, o + i * 8 + 1, none⟩ = some (.int .i64 (nthC l i).cont) ∧ w.cell? ⟨g, o + i * 8 + 2, none⟩ = some (.int .i64 (nthC l i).op) ∧
  w.cell? ⟨g, o + i * 8 + 3, none⟩ = some (.int .i64 (nthC l i).arg) ∧ w.cell? ⟨g, o + i * 8 + 4, none⟩ = some (.int .i64 (nthC l i).beg) ∧ w.cell? ⟨g, o + i * 8 + 5, none⟩ = some (.int .i64 (nthC l i).till) ∧
  w.cell? ⟨g, o + i * 8 + 6, none⟩ = some (.int .i64 (nthC l i).value) ∧ w.cell? ⟨g, o + i * 8 + 7, none⟩ = some (.int .i64 (nthC l i).code)

theorem RowC.stay {w w' : World} {p : Option Addr} {l : List Cl} (h : RowC w p l) (k : KeepBut (fun _ => False) w w') : RowC w' p l := fun i hi => by
  obtain ⟨g, o, h0, h1, h2, h3, h4, h5, h6, h7, h8⟩ := h i hi
  exact ⟨g, o, h0, k.stay h1, k.stay h2, k.stay h3, k.stay h4, k.stay h5, k.stay h6, k.stay h7, k.stay h8⟩

/-- a history's value -/
def histV (pk pc : Option Addr) (ck cc : Nat) (ks : List Int) (cs : List Cl) : Value := .agg #[.slice pk ks.length ck, .slice pc cs.length cc]

theorem blk2 {w : World} {B : Nat} {a b : Value} {T : TypeId} (h : w.heap[B]? = some (.cells #[a, b] T (0, 0))) :
    w.cell? ⟨B, 0, none⟩ = some a ∧ w.cell? ⟨B, 1, none⟩ = some b ∧ w.frozen? ⟨B, 0, none⟩ = false ∧ w.frozen? ⟨B, 1, none⟩ = false := by
  simp [World.cell?, World.frozen?, h]

def aheadB (cs : List Cl) (i k : Nat) : Bool := decide (0 ≤ (nthC cs i).till) && decide ((nthC cs i).till < (nthC cs k).beg)

set_option maxHeartbeats 4000000 in
theorem ahead_in (w : World) (pk pc : Option Addr) (ck cc : Nat) (ks : List Int) (cs : List Cl) (hc : RowC w pc cs) (i k : Nat) (hi : i < cs.length) (hk : k < cs.length) :
    Calls Tryd.prog 26 #[histV pk pc ck cc ks cs, .int .i64 i, .int .i64 k] w fun e w' => e = .returned (.bool (aheadB cs i k)) ∧ KeepBut (fun _ => False) w w' := by
  obtain ⟨V, B, hV, hB, hb, hkV, -⟩ := fresh_block w (.cells #[.slice pk ks.length ck, .slice pc cs.length cc] 25)
  obtain ⟨b0, b1, -⟩ := blk2 hb
  obtain ⟨g, o, hg, -, -, -, -, -, y5, -⟩ := (hc.stay hkV) i hi
  obtain ⟨g', o', hg', -, -, -, -, z4, -⟩ := (hc.stay hkV) k hk
  rw [hg] at hg'
  cases hg'
  subst hg
  have HK := Lib.hid hkV
  have i0 : (0 : Int) ≤ i := by omega
  have i1 : (i : Int) < cs.length := by omega
  have k0 : (0 : Int) ≤ k := by omega
  have k1 : (k : Int) < cs.length := by omega
  unfold histV
  clear hb hc
  have hmin : ¬ min (i : Int) (k : Int) < 0 := by omega
  have hmax : max (i : Int) (k : Int) < cs.length := by omega
  by_cases h1 : 0 ≤ (nthC cs i).till
  · by_cases h2 : (nthC cs i).till < (nthC cs k).beg
    · have HE := Lib.hid (show aheadB cs i k = true by simp [aheadB, h1, h2])
      go_enter Tryd.func26, Tryd.ntmps26
      go_upto_region 1 with fail
      rw [← hV, ← hB]
      clear hV hB hkV
      go_wp2_with fail
      go_quiet (fail)
      go_wp2_with fail
      go_ret
      exact ⟨ret_bool HE.out.symm, HK.out.trans (KeepBut.drewN _ _ _)⟩
    · have HE := Lib.hid (show aheadB cs i k = false by simp [aheadB, h2])
      have d2 : decide ((nthC cs i).till < (nthC cs k).beg) = false := decide_eq_false h2
      go_enter Tryd.func26, Tryd.ntmps26
      go_upto_region 1 with fail
      rw [← hV, ← hB]
      clear hV hB hkV
      go_wp2_with fail
      go_quiet (fail)
      go_wp2_with fail
      go_ret
      exact ⟨ret_bool HE.out.symm, HK.out.trans (KeepBut.drewN _ _ _)⟩
  · have HE := Lib.hid (show aheadB cs i k = false by simp [aheadB, h1])
    have d1 : decide (0 ≤ (nthC cs i).till) = false := decide_eq_false h1
    go_enter Tryd.func26, Tryd.ntmps26
    go_upto_region 1 with fail
    rw [← hV, ← hB]
    clear hV hB hkV
    go_wp2_with fail
    go_quiet (fail)
    go_wp2_with fail
    go_ret
    exact ⟨ret_bool HE.out.symm, HK.out.trans (KeepBut.drewN _ _ _)⟩

end Go.Proofs.YtoolpifkfgileaaDoor

/-
  Package hist: which kinds may be.
-/
namespace Go.Proofs.YtoolpifkfgileaaDoor
open Go Go.RowKit Own

theorem badKind_any (k : Int) (w : World) : Calls Tryd.prog 50 #[.int .i64 k] w fun e w' => e = .returned (.bool (!kindB k)) ∧ w' = w := by
  by_cases h1 : k < 1
  · have HE := Lib.hid (show (!kindB k) = true by unfold kindB; simp; omega)
    go_enter Tryd.func50, Tryd.ntmps50
    go_wp2
    go_ret
    exact ⟨ret_bool HE.out.symm, rfl⟩
  · by_cases h2 : 3 < k
    · have HE := Lib.hid (show (!kindB k) = true by unfold kindB; simp; omega)
      go_enter Tryd.func50, Tryd.ntmps50
      go_wp2
      go_ret
      exact ⟨ret_bool HE.out.symm, rfl⟩
    · have HE := Lib.hid (show (!kindB k) = false by unfold kindB; simp; omega)
      go_enter Tryd.func50, Tryd.ntmps50
      go_wp2
      go_ret
      exact ⟨ret_bool HE.out.symm, rfl⟩

def kindsB (ks : List Int) : Bool := ks.all kindB

set_option maxHeartbeats 4000000 in
theorem idxKind_any (w : World) (p : Option Addr) (c : Nat) (ks : List Int) (hrd : Rd w p (ints ks)) (hl : ks.length ≤ 1099511627776) :
    Calls Tryd.prog 57 #[.slice p ks.length c, .func (.func 50) #[] #[]] w fun e w' => ∃ v : Int, e = .returned (.int .i64 v) ∧ decide (0 ≤ v) = !kindsB ks ∧ w' = w := by
  have HR := Lib.hid hrd
  have HB := Lib.hid badKind_any
  clear hrd
  go_enter Tryd.func57, Tryd.ntmps57
  go_wp2_with fail
  go_loopw [8] (fun v8 wr => ∃ i : Nat, v8 = .int .i64 i ∧ i ≤ ks.length ∧ (∀ j, j < i → kindB (nth ks j) = true) ∧ wr = w) (fun v _ => ks.length - (intOf v).toNat)
  case atStart => exact ⟨0, rfl, Nat.zero_le _, fun j h => absurd h (Nat.not_lt_zero _), rfl⟩
  case round =>
    obtain ⟨i, rfl, hi, hno, hwr⟩ := hrel
    have hwr := hwr.symm
    subst hwr
    have HNO := Lib.hid hno
    clear hno
    by_cases hlt : i < ks.length
    · have hlti : (i : Int) < ks.length := by omega
      have hi0 : (0 : Int) ≤ i := by omega
      have hWi : IntKind.i64.wrap ((i : Int) + 1) = (i : Int) + 1 := IntWalk.i64_in _ (by omega)
      obtain ⟨b, o, hp, -⟩ := HR.out.ptr (by rw [ints_length]; omega)
      subst hp
      have hc := HR.out.int i hlt
      cases hk : kindB (nth ks i) with
      | true =>
        have HK := Lib.hid hk
        clear hk
        go_wp2_with (go_at_call 50; refine (HB.out _ _).mono ?_; rintro e w' ⟨rfl, hw⟩; have hw := hw.symm; subst hw; rw [HK.out])
        exact ⟨⟨i + 1, by simp, by omega, fun j hj => by
          by_cases e : j = i
          · subst e; exact HK.out
          · exact HNO.out j (by omega), by trivial⟩, by simp only [intOf]; omega⟩
      | false =>
        have HK := Lib.hid hk
        clear hk
        go_wp2_with (go_at_call 50; refine (HB.out _ _).mono ?_; rintro e w' ⟨rfl, hw⟩; have hw := hw.symm; subst hw; rw [HK.out])
        go_ret
        refine ⟨i, rfl, ?_, rfl⟩
        have : kindsB ks = false := by
          unfold kindsB
          rw [← Bool.not_eq_true, List.all_eq_true]
          intro h
          have := h _ (List.getElem_mem hlt)
          rw [← nth_eq hlt, HK.out] at this
          cases this
        rw [this]; simp
    · have hnl : ¬ (i : Int) < ks.length := by omega
      go_wp2_with fail
      go_ret
      refine ⟨-1, rfl, ?_, rfl⟩
      have : kindsB ks = true := by
        unfold kindsB
        rw [List.all_eq_true]
        intro x hx
        obtain ⟨j, hj, e⟩ := List.getElem_of_mem hx
        rw [← e, ← nth_eq hj]
        exact HNO.out j (by omega)
      rw [this]; rfl

theorem hasBad_any (w : World) (p : Option Addr) (c : Nat) (ks : List Int) (hrd : Rd w p (ints ks)) (hl : ks.length ≤ 1099511627776) :
    Calls Tryd.prog 49 #[.slice p ks.length c, .func (.func 50) #[] #[]] w fun e w' => e = .returned (.bool (!kindsB ks)) ∧ w' = w := by
  have H := Lib.hid (idxKind_any w p c ks hrd hl)
  clear hrd
  go_enter Tryd.func49, Tryd.ntmps49
  go_wp2_with (go_at_call 57; refine H.out.mono ?_; rintro e w' ⟨v, rfl, hv, hw⟩; have hw := hw.symm; subst hw)
  go_ret
  exact ⟨rfl, rfl⟩

end Go.Proofs.YtoolpifkfgileaaDoor

/-
  Package hist: which times are taken.
-/
namespace Go.Proofs.YtoolpifkfgileaaDoor
open Go Go.RowKit Own

theorem MapI.look2 {P : Program} {q : IntKind} {w : World} {b : Nat} {l : List (Int × Value)} (h : MapI q w b l) {mt kt e : TypeId} (ht : P.underlying mt = some (.map kt e)) (hk : P.underlying kt = some (.int q)) (k : Int) (z : Value) (hz : (zeroValue e).run P w = .ok z w) :
    (Instr.lookup mt (.map (some b)) (.int q k) true).run P w = .ok (.tuple #[(mget l k).getD z, .bool (mget l k).isSome]) w := by
  obtain ⟨h1, es, c, h2, h3⟩ := h
  have hf := findNow_mix q q k es.toList l 0 h3
  have hr := MapKept.run_findKey (w := w) hk hf
  have hc := MapKept.run_checkKey (w := w) (k := .int q k) hk (by simp [MapKept.IsKey]) es.isEmpty 9999
  cases hm : mix k l 0 with
  | some p =>
    rw [hm] at hr
    simp [Instr.lookup, run_underlying ht, MapKept.run_getObj_map h2, Result.andThen, hc, hr, mget, hm]
  | none =>
    rw [hm] at hr
    simp [Instr.lookup, run_underlying ht, MapKept.run_getObj_map h2, Result.andThen, hc, hr, mget, hm, hz]

/-- the map m holds 1 at the times that T tells, and nothing else -/
def Times (m : List (Int × Value)) (T : Int → Bool) : Prop := ∀ t, mget m t = if T t = true then some (.int .i64 1) else none
def updT (T : Int → Bool) (t : Int) : Int → Bool := fun x => if x = t then true else T x
theorem Times.set {m : List (Int × Value)} {T : Int → Bool} (h : Times m T) (hd : (m.map (·.1)).Nodup) (t : Int) : Times (mset m t (.int .i64 1)) (updT T t) := fun x => by
  rw [mget_mset hd, h x]
  unfold updT
  by_cases e : x = t <;> simp [e]

set_option maxHeartbeats 4000000 in
theorem take_any (w : World) (Bx N : Nat) (m : List (Int × Value)) (T : Int → Bool) (hb : w.heap[Bx]? = some (.cells #[.map (some N)] 42 (0, 0))) (hm : MapI .i64 w N m) (hT : Times m T) (t : Int) :
    Calls Tryd.prog 51 #[.int .i64 t, .pointer (some ⟨Bx, 0, none⟩)] w fun e w' => e = .returned (.bool (!T t)) ∧ MapI .i64 w' N (mset m t (.int .i64 1)) ∧ KeepBut (fun k => k = N) w w' := by
  have c0 := blk_cell (k := 0) hb rfl
  have hl := hm.look (P := Tryd.prog) (mt := 42) (kt := 3) (e := 3) Tryd.underlying42 Tryd.underlying3 t (.int .i64 0) (by kernel_rfl)
  rw [hT t] at hl
  have HM := Lib.hid hm
  clear hb
  cases h : T t with
  | true =>
    rw [h] at hl
    simp only [if_true, Option.getD_some] at hl
    clear hm hT
    go_enter Tryd.func51, Tryd.ntmps51
    go_upto_region 2 with fail
    go_wp2_with (refine wpList_put_map _ _ _ 42 3 3 t rfl (.inr rfl) rfl rfl Tryd.underlying42 Tryd.underlying3 HM.out ?_; intro w1 hm1 hk1; have HM1 := Lib.hid hm1; have HK1 := Lib.hid hk1; clear hm1 hk1)
    go_ret
    exact ⟨rfl, HM1.out, HK1.out⟩
  | false =>
    rw [h] at hl
    simp only [Bool.false_eq_true, if_false, Option.getD_none] at hl
    clear hm hT
    go_enter Tryd.func51, Tryd.ntmps51
    go_upto_region 2 with fail
    go_wp2_with (refine wpList_put_map _ _ _ 42 3 3 t rfl (.inr rfl) rfl rfl Tryd.underlying42 Tryd.underlying3 HM.out ?_; intro w1 hm1 hk1; have HM1 := Lib.hid hm1; have HK1 := Lib.hid hk1; clear hm1 hk1)
    go_ret
    exact ⟨rfl, HM1.out, HK1.out⟩

/-- what a call of a history must be alone -/
def goodC (ks : List Int) (c : Cl) : Bool := decide (0 ≤ c.hart ∧ c.hart < 4 ∧ 0 ≤ c.cont ∧ c.cont < ks.length ∧ kindOf c.op = nth ks c.cont.toNat ∧ 0 ≤ c.beg)
def lastOk (e : Option Int) (b : Int) : Bool := match e with | none => true | some x => decide (x ≠ -1 ∧ x < b)
def updE (E : Int → Option Int) (h e : Int) : Int → Option Int := fun x => if x = h then some e else E x
/-- what the calls must be together: T: the times that are taken; E: when each hart's last call ended -/
def callsF (ks : List Int) : List Cl → (Int → Bool) → (Int → Option Int) → Bool
  | [], _, _ => true
  | c :: r, T, E => goodC ks c && (!T c.beg && (lastOk (E c.hart) c.beg &&
      (if c.till = -1 then decide (c.value = 0 ∧ c.code = 0) && callsF ks r (updT T c.beg) (updE E c.hart c.till)
       else decide (c.beg < c.till) && (!updT T c.beg c.till && callsF ks r (updT (updT T c.beg) c.till) (updE E c.hart c.till)))))
def mayH (ks : List Int) (cs : List Cl) : Bool := kindsB ks && callsF ks cs (fun _ => false) (fun _ => none)

def Lasts (m : List (Int × Value)) (E : Int → Option Int) : Prop := ∀ h, mget m h = (E h).map (Value.int .i64)
theorem Lasts.set {m : List (Int × Value)} {E : Int → Option Int} (h : Lasts m E) (hd : (m.map (·.1)).Nodup) (k e : Int) : Lasts (mset m k (.int .i64 e)) (updE E k e) := fun x => by
  rw [mget_mset hd, h x]
  unfold updE
  by_cases e' : x = k <;> simp [e']

end Go.Proofs.YtoolpifkfgileaaDoor
