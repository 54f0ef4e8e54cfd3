/-
  LexJoins, walked.
-/
import Derived.Test.YtmklmlocldbaoaaDoorTokOwn
import Derived.Test.YtmklmlocldbaoaaDoorName16
namespace Go.Proofs.YtmklmlocldbaoaaDoor
open Go Go.RowKit Own

theorem ownsRow_cap {w : World} {base : Nat} {v : Value} {n : Nat} {xs : List Value} (h : w.ownsRow base TT 5 v n xs) : ∃ p cap, v = .slice p n cap ∧ n ≤ cap := by
  rcases h.2 with ⟨rfl, h0⟩ | ⟨g, cap, cur, rfl, hb, hg, h1, _⟩
  · exact ⟨none, 0, by rw [h0], by omega⟩
  · exact ⟨_, cap, rfl, h1⟩

theorem all_knownC {s : ByteArray} {its : List Item} {f : Fault} (h : allT s.data.toList = (its, f)) (w : World) (hT : TabS w) :
    Calls Tryd.prog 10 #[.string s] w fun e w' => ∃ p cap, e = .returned (.tuple #[.slice p its.length cap, .agg #[.int .i64 f.err, .int .i64 f.line, .int .i64 f.col]]) ∧ RowT w' p its ∧ its.length ≤ cap ∧ KeepBut (fun _ => False) w w' := by
  refine (all_any s w hT).mono ?_
  rintro e w' ⟨v, rfl, hrow, hk⟩
  rw [h] at hrow ⊢
  obtain ⟨p, cap, rfl, h1, -⟩ := RowT.of_owns hrow
  obtain ⟨p', cap', hv', hc⟩ := ownsRow_cap hrow
  cases hv'
  exact ⟨p, cap, rfl, h1, hc, hk⟩

/-- what All does with any text -/
def AllSome (s : ByteArray) (its : List Item) (f0 f1 f2 : Nat) : Prop :=
  ∀ w, TabS w → Calls Tryd.prog 10 #[.string s] w fun e w' => ∃ p cap, e = .returned (.tuple #[.slice p its.length cap, .agg #[.int .i64 f0, .int .i64 f1, .int .i64 f2]]) ∧ RowT w' p its ∧ its.length ≤ cap ∧ KeepBut (fun _ => False) w w'

theorem all_some (s : ByteArray) : ∃ (its : List Item) (f0 f1 f2 : Nat), AllSome s its f0 f1 f2 ∧
    ((f0 = 0 ∧ scan s.data.toList 1 1 false = its ∧ okS its ∧ s.size ≤ 8192) ∨ f0 ≠ 0) := by
  obtain ⟨⟨l, f⟩, hlf⟩ : ∃ x, allT s.data.toList = x := ⟨_, rfl⟩
  have he := allT_err s.data.toList
  rw [hlf] at he
  have hl : s.data.toList.length = s.size := by simp
  refine ⟨l, f.err, f.line, f.col, fun w hT => all_knownC hlf w hT, ?_⟩
  rcases he with ⟨h0, h1, h2, h3, h4⟩ | ⟨h1, h2⟩
  · simp only at h1 h4
    subst h1 h4
    exact .inl ⟨rfl, rfl, h2, by omega⟩
  · exact .inr h1

/-- one token of a row, read from its place on -/
theorem RowG.one {w : World} {g o : Nat} {t : G} (x0 : w.cell? ⟨g, o, none⟩ = some (.int .i64 t.k)) (x1 : w.cell? ⟨g, o + 1, none⟩ = some (.string t.s)) (x2 : w.cell? ⟨g, o + 2, none⟩ = some (.int .i64 t.n))
    (x3 : w.cell? ⟨g, o + 3, none⟩ = some (.int .i64 t.l)) (x4 : w.cell? ⟨g, o + 4, none⟩ = some (.int .i64 t.c)) : RowG w (some ⟨g, o, none⟩) [t] := fun j hj => by
  have hj0 : j = 0 := by simpa using hj
  subst hj0
  exact ⟨g, o, rfl, by simpa using x0, by simpa using x1, by simpa using x2, by simpa using x3, by simpa using x4⟩

theorem slice_tok (g n c i : Nat) (hi : i < n) (hc : n ≤ c) (w : World) :
    (Instr.slice 23 (.slice (some ⟨g, 0, none⟩) n c) (some (.int .i64 (i : Int))) (some (.int .i64 ((i : Int) + 1))) none).run Tryd.prog w = .ok (.slice (some ⟨g, i * 5, none⟩) 1 (c - i)) w := by
  have he : Tryd.prog.elem 23 = TT := by kernel_rfl
  have hz := Tryd.sizeOf30
  rw [run_slice_lh w _ _ n c (by rw [he]; exact tt_slice) .i64 .i64 (i : Int) ((i : Int) + 1) (by omega) (by omega) (by omega), he]
  have e1 : ((i : Int) + 1).toNat = i + 1 := by omega
  have e2 : (i : Int).toNat = i := by omega
  have e3 : ¬ c = i := by omega
  rw [hz, e1, e2]
  simp [Result.andThen, sliced, e3, Addr.add]
  omega

theorem likeB_one {a b : Item} (h : a.tok = b.tok) : likeB [toG a] [toG b] = true := likeB_toks (a := [a]) (b := [b]) (by simp [toks, h])

theorem kind_eq (n k : Nat) : ((n : Int) == (k : Int)) = (n == k) := by
  rw [Bool.eq_iff_iff]; simp; omega

theorem append_nilT {w : World} {base : Nat} {v : Value} {n : Nat} {xs : List Value} (ty : TypeId) (c : Nat) (hown : w.ownsRow base TT 5 v n xs) :
    (Builtin.append_ #[23, 23] ty #[v, .slice none 0 c]).run Tryd.prog w = .ok v w := by
  obtain ⟨i, hi, hz0, hz1, hz2⟩ := info_parts info_token
  rcases hown.2 with ⟨rfl, rfl⟩ | ⟨g, cap, cur, rfl, _, _, hnc, _⟩
  · simp [Builtin.append_, run_underlying tt_slice, sizeOf, typeInfo, hi, Builtin.lenOf, Builtin.firstCells]
  · simp [Builtin.append_, run_underlying tt_slice, sizeOf, typeInfo, hi, Builtin.lenOf, Builtin.firstCells, hnc, storeCells]

/-- the append in LexJoins, b's tokens being there or not -/
theorem joins_append (xs ys : List G) (V : World) {ops : Array Oper} {rest : List Oper} {o : Oper} {a : Act} {w : World} {Q : Exit → Act → World → Prop} (hgd : Region.wanted o (yielded ops a.tmps) = true) (s x : Operand)
    (ho : o.op = .call { callee := .builtin .append, args := #[s, x], argTypes := #[23, 23] }) (v : Value) {n m : Nat} (hn : xs.length = n) (hs : a.eval s = v) (hown : w.ownsRow V.heap.size TT 5 v n (cellsG xs))
    (q : Option Addr) (c : Nat) (hm : ys.length = m) (hx : a.eval x = .slice q m c) (hr : RowG w q ys) (hl : xs.length + ys.length ≤ 1099511627776) (hb : Below V.heap.size V w)
    (h : ∀ p c' w', RowG w' p (xs ++ ys) → Below V.heap.size V w' → wpList Tryd.prog ops Q rest (a.put o.dst (.slice p (n + m) c')) w') : wpList Tryd.prog ops Q (o :: rest) a w := by
  subst hn hm
  cases q with
  | some ad =>
    refine wpList_appendT hgd s x ho V.heap.size v xs.length xs ys rfl hs hown ad c hx hr hl hb.size ?_
    intro v' w' h1 h2
    obtain ⟨p, cap, rfl, h3⟩ := RowG.of_owns h1
    rw [List.length_append]
    exact h p cap w' h3 (hb.grown h2 hb.size fun k hk => by
      rcases hown.2 with ⟨rfl, _⟩ | ⟨g, cap, cur, rfl, hg, _⟩
      · cases hk
      · cases hk; exact hg)
  | none =>
    have hy := hr.nil
    subst hy
    have hrun := append_nilT o.type c hown
    obtain ⟨p, cap, rfl, h3⟩ := RowG.of_owns hown
    refine BigFrame.wpList_want hgd fun K hK => ?_
    unfold Oper.wp execOp
    simp only [ho, resolve, invoke, builtin, Sem.run_bind, Sem.run_pure, Result.andThen_ok, List.map_toArray, List.map_cons, List.map_nil, hs, hx, List.length_nil, hrun]
    refine hK _ _ ?_
    have := h p cap w (by rw [List.append_nil]; exact h3) hb
    simpa using this

theorem joins_like {its ims cs : List Item} (h : likeB (cs.map toG) ((its ++ ims).map toG) = true) {w : World} {p q : Option Addr} {c d : Nat} (hp : RowG w p (cs.map toG)) (hq : RowG w q (its.map toG ++ ims.map toG)) (hl : cs.length ≤ 1099511627776) :
    Calls Tryd.prog 12 #[.slice p cs.length c, .slice q (its.length + ims.length) d] w fun e w' => e = .returned (.bool true) ∧ KeepBut (fun _ => False) w w' := by
  have hh := like_any w p q c d (cs.map toG) (its.map toG ++ ims.map toG) hp hq (by rw [List.length_map]; exact hl)
  rw [List.map_append] at h
  rw [h, List.length_map, List.length_append, List.length_map, List.length_map] at hh
  exact hh

set_option maxRecDepth 100000 in
set_option maxHeartbeats 32000000 in
theorem joins_walk (s t : ByteArray) (w : World) (hT : TabS w) (hm : s.size ≤ 2000) (hm2 : t.size ≤ 2000) :
    Calls Tryd.prog 5 #[.string s, .string t] w fun e w' => e = .returned (.bool true) ∧ KeepBut (fun _ => False) w w' := by
  have HT := Lib.hid hT
  have hLv := Lib.hid (lives_any w hT)
  clear hT
  have hmi : ¬ (2000 : Int) < (s.size : Int) := by omega
  have hmi2 : ¬ (2000 : Int) < (t.size : Int) := by omega
  obtain ⟨its, f0, f1, f2, ha, hca⟩ := all_some s
  obtain ⟨ims, g0, g1, g2, hb, hcb⟩ := all_some t
  have HA := Lib.hid ha; have HB := Lib.hid hb
  clear ha hb
  by_cases hz : f0 = 0
  · by_cases hz2 : g0 = 0
    · subst hz hz2
      rcases hca with ⟨-, hits, hok, -⟩ | h
      rcases hcb with ⟨-, hims, hokb, -⟩ | h
      · have hsl : s.data.toList.length = s.size := by simp
        have htl : t.data.toList.length = t.size := by simp
        have hgd : ∀ i ∈ its, Good i.tok := fun i hi => scan_good s.data.toList 1 1 false i (by rw [hits]; exact hi) (hok i hi)
        have hbs := scan_len s.data.toList 1 1 false
        have hbt := scan_len t.data.toList 1 1 false
        rw [hits] at hbs; rw [hims] at hbt
        have hlen := hbs.1; have hlent := hbt.1
        obtain ⟨T1, hT1⟩ : ∃ T1, s ++ (⟨#[10]⟩ : ByteArray) = T1 := ⟨_, rfl⟩
        obtain ⟨T2, hT2⟩ : ∃ T2, T1 ++ t = T2 := ⟨_, rfl⟩
        have hs1 : T1.size = s.size + 1 := by rw [← hT1, ByteArray.size_append]; rfl
        have hs2 : T2.size = s.size + 1 + t.size := by rw [← hT2, ByteArray.size_append, hs1]
        have hTD : T2.data.toList = s.data.toList ++ 10 :: t.data.toList := by
          rw [← hT2, ← hT1]; simp [ByteArray.data_append]
        obtain ⟨line', hj⟩ := joins_law t.data.toList s.data.toList 1 1 false (by rw [hits]; exact hok)
        rw [← hTD, hits] at hj
        obtain ⟨cs, hcs⟩ : ∃ cs, scan T2.data.toList 1 1 false = cs := ⟨_, rfl⟩
        rw [hcs] at hj
        have htk : toks (scan t.data.toList line' 1 false) = toks ims := by rw [← hims]; exact toks_place
        have hokc : okS cs := by
          rw [hj]
          intro i hi
          rcases List.mem_append.1 hi with h | h
          · exact hok i h
          · exact ok_place (by rw [hims]; exact hokb) i h
        have htc : toks cs = toks (its ++ ims) := by
          rw [hj]; simp only [toks, List.map_append] at htk ⊢; rw [htk]
        have hal := all_ok (s := T2) (by omega) (by rw [hcs]; exact hokc)
        rw [hcs] at hal
        have HC := Lib.hid (fun w hT => all_knownC hal w hT)
        have hcl := (scan_len T2.data.toList 1 1 false).1
        rw [hcs] at hcl
        have hcl2 : cs.length ≤ 4001 := by
          have e : T2.data.toList.length = T2.size := by simp
          omega
        have hcl3 : its.length ≤ 2000 := by omega
        have hcl4 : ims.length ≤ 2000 := by omega
        have HLC := Lib.hid (likeB_toks htc)
        have hc1 : ¬ 9223372036854775807 < s.size + 1 := by omega
        have hc2 : ¬ 9223372036854775807 < s.size + 1 + t.size := by omega
        have hgn := fun i (hi : i ∈ its) => good_names (hgd i hi)
        have HGD := Lib.hid hgd; have HGN := Lib.hid hgn
        have HBS := Lib.hid (show ∀ i ∈ its, i.tok.text.length ≤ 2000 from fun i hi => by have := (hbs.2 i hi).1; omega)
        clear hits hok hims hokb hbs hbt hj htk hokc htc hal hcs hcl hgd hgn hTD hlen hlent hsl htl
        go_enter Tryd.func5, Tryd.ntmps5
        go_upto_region 5 with (go_at_call 9; refine hLv.out.mono ?_; rintro e w1 ⟨rfl, hk1⟩; have HK1 := Lib.hid hk1; clear hk1)
        go_upto_region 6 with (go_at_call 10; refine (HA.out _ (HK1.out.tabS HT.out)).mono ?_; rintro e w2 ⟨q, cap, rfl, hr, hcap, hk2⟩)
        obtain ⟨V1, B6, hV1, hB6, hb6, hkV1, -⟩ := fresh_block w2 (.cells #[.int .i64 0, .int .i64 f1, .int .i64 f2] 26)
        rw [← hV1, ← hB6]
        have HRa := Lib.hid (hr.stay hkV1)
        have HKa := Lib.hid (HK1.out.trans (hk2.trans hkV1))
        have HB6 := Lib.hid hb6
        clear hV1 hB6 hb6 hkV1 hr hk2
        go_upto_region 7 with (go_at_call 10; refine (HB.out _ (HKa.out.tabS HT.out)).mono ?_; rintro e w3 ⟨q2, cap2, rfl, hr, hcap2, hk2⟩)
        obtain ⟨V2, B8, hV2, hB8, hb8, hkV2, -⟩ := fresh_block w3 (.cells #[.int .i64 0, .int .i64 g1, .int .i64 g2] 26)
        rw [← hV2, ← hB8]
        have e6 := (blk3 ((hk2.trans hkV2).blk HB6.out)).1
        have e8 := (blk3 hb8).1
        have HRb := Lib.hid (hr.stay hkV2)
        have HRa2 := Lib.hid (HRa.out.stay (hk2.trans hkV2))
        have HKb := Lib.hid (HKa.out.trans (hk2.trans hkV2))
        clear hV2 hB8 hb8 hkV2 hr hk2 HRa
        go_upto_region 9 with fail
        clear e6 e8
        go_upto_region 10 with (go_at_call 10; refine (HC.out _ (HKb.out.tabS HT.out)).mono ?_; rintro e w4 ⟨q3, cap3, rfl, hr, hcap3, hk2⟩)
        obtain ⟨V3, B10, hV3, hB10, hb10, hkV3, -⟩ := fresh_block w4 (.cells #[.int .i64 0, .int .i64 0, .int .i64 0] 26)
        rw [← hV3, ← hB10]
        have HKc := Lib.hid (HKb.out.trans (hk2.trans hkV3))
        have HRc := Lib.hid (hr.stay hkV3)
        have HRa3 := Lib.hid (HRa2.out.stay (hk2.trans hkV3))
        have HRb3 := Lib.hid (HRb.out.stay (hk2.trans hkV3))
        obtain ⟨c0, c1, c2, -⟩ := blk3 hb10
        clear hV3 hB10 hb10 hkV3 hr hk2 HRa2 HRb
        have hOw := own_tok V3 q cap (its.map toG) HRa3.out.toG (by rw [List.length_map]; omega)
        rw [List.length_map] at hOw
        have HOw := Lib.hid hOw
        clear hOw
        have u0 := eqF; have u2 := guardF
        go_upto_region 12 with (first
          | (go_at_call 13; refine HOw.out.mono ?_; rintro e w5 ⟨v', rfl, hown, hbl⟩; have HON := Lib.hid hown; have HBL := Lib.hid hbl; clear hown hbl)
          | (at_builtin; go_loud (refine joins_append (its.map toG) (ims.map toG) V3 rfl (.tmp 56) (.tmp 57) rfl v' (List.length_map _) rfl HON.out q2 cap2 (List.length_map _) rfl (HRb3.out.stay (KeepBut.of_below HBL.out)).toG (by rw [List.length_map, List.length_map]; omega) HBL.out ?_); intro p6 c6 w6 hr6 hbl6; have HR6 := Lib.hid hr6; have HB6' := Lib.hid hbl6; clear hr6 hbl6)
          | (go_at_call 12; refine (joins_like HLC.out (HRc.out.stay (KeepBut.of_below HB6'.out)).toG HR6.out (by omega)).mono ?_; rintro e w7 ⟨rfl, hk7⟩; have HK7 := Lib.hid ((HKc.out.trans (KeepBut.of_below HB6'.out)).trans hk7); have HRa4 := Lib.hid ((HRa3.out.stay (KeepBut.of_below HB6'.out)).stay hk7); clear hk7))
        clear c0 c1 c2
        go_upto_block 0 with fail
        go_wp2_with fail
        go_loopw [11] (fun v11 wr => ∃ i : Nat, v11 = .int .i64 i ∧ i ≤ its.length ∧ KeepBut (fun _ => False) w7 wr) (fun v11 _ => its.length - (intOf v11).toNat)
        case atStart => exact ⟨0, rfl, Nat.zero_le _, KeepBut.refl _ _⟩
        case round =>
          obtain ⟨i, rfl, hi, hkr⟩ := hrel
          have HKR := Lib.hid hkr
          clear hkr
          by_cases hlt : i < its.length
          · have hlti : (i : Int) < (its.length : Int) := by omega
            have hi0 : (0 : Int) ≤ i := by omega
            obtain ⟨g, hg, x0, x1, x2, x3, x4⟩ := HRa4.out i hlt
            have hmem : its[i] ∈ its := List.getElem_mem hlt
            have hbd := HBS.out _ hmem
            have hgd := HGD.out _ hmem
            have hgn := HGN.out _ hmem
            obtain ⟨it, hit⟩ : ∃ it, its[i] = it := ⟨_, rfl⟩
            rw [hit] at x0 x1 x2 x3 x4 hbd hgd hgn
            obtain ⟨TX, hTX⟩ : ∃ TX : ByteArray, (⟨it.tok.text.toArray⟩ : ByteArray) = TX := ⟨_, rfl⟩
            have hTXs : TX.size ≤ 2000 := by
              have e : TX.size = it.tok.text.length := by rw [← hTX]; rfl
              omega
            have hTXd : TX.data.toList = it.tok.text := by rw [← hTX]
            replace x1 : w7.cell? ⟨g, i * 5 + 1, none⟩ = some (.string TX) := by rw [← hTX]; exact x1
            have hsc := good_scan hgd (r' := []) rfl 1 1
            rw [List.append_nil, scan_nil, ← hTXd] at hsc
            have hal := all_ok (s := TX) (by omega) (by rw [hsc]; intro j hj; rw [List.mem_singleton] at hj; subst hj; rfl)
            rw [hsc] at hal
            have HA1 := Lib.hid (fun w hT => all_knownC hal w hT)
            obtain ⟨kd, hkd⟩ : ∃ kd : Int, ((it.tok.kind : Nat) : Int) = kd := ⟨_, rfl⟩
            have hnm : nameB TX.data.toList = (kd == 2) := by rw [hTXd, hgn.1, ← hkd]; exact (kind_eq _ 2).symm
            have hrs : reservedB TX.data.toList = (kd == 1) := by rw [hTXd, hgn.2, ← hkd]; exact (kind_eq _ 1).symm
            rw [hkd] at x0
            obtain ⟨kn, hkn⟩ : ∃ kn : Bool, (kd == 2) = kn := ⟨_, rfl⟩
            obtain ⟨kr, hkr⟩ : ∃ kr : Bool, (kd == 1) = kr := ⟨_, rfl⟩
            have HNMB := Lib.hid (hnm.trans hkn); have HRSB := Lib.hid (hrs.trans hkr)
            have hcel : ∀ w', KeepBut (fun _ => False) w7 w' → RowG w' (some ⟨g, i * 5, none⟩) [toG it] := fun w' h => by
              refine RowG.one (h.stay ?_) (h.stay ?_) (h.stay x2) (h.stay x3) (h.stay x4)
              · rw [x0, ← hkd]; rfl
              · rw [x1, ← hTX]; rfl
            have HCEL := Lib.hid hcel
            have HX0 := Lib.hid x0; have HX1 := Lib.hid x1
            replace x1 := HKR.out.stay x1
            subst hg
            clear x0 x2 x3 x4 hit hTX hbd hgd hgn hTXd hsc hal hkd hnm hrs hcel hmem
            go_upto_region 15 with fail
            go_upto_region 16 with (go_at_call 10; refine (HA1.out _ (((HK7.out).trans HKR.out).tabS HT.out)).mono ?_; rintro e w8 ⟨q5, cap5, rfl, hr, hcap5, hk8⟩)
            obtain ⟨V5, B13, hV5, hB13, hb13, hkV5, -⟩ := fresh_block w8 (.cells #[.int .i64 0, .int .i64 0, .int .i64 0] 26)
            rw [← hV5, ← hB13]
            have HK5 := Lib.hid (HKR.out.trans (hk8.trans hkV5))
            have HR5 := Lib.hid (hr.stay hkV5)
            have HB13 := Lib.hid hb13
            clear x1 hV5 hB13 hb13 hkV5 hr hk8
            have hst : ∀ w', KeepBut (fun _ => False) V5.drew w' → KeepBut (fun _ => False) w7 w' := fun w' h => HK5.out.trans ((KeepBut.drew _ V5).trans h)
            have y0 : ∀ w', KeepBut (fun _ => False) V5.drew w' → w'.cell? ⟨g, i * 5, none⟩ = some (.int .i64 kd) := fun w' h => (hst w' h).stay HX0.out
            have y1 : ∀ w', KeepBut (fun _ => False) V5.drew w' → w'.cell? ⟨g, i * 5 + 1, none⟩ = some (.string TX) := fun w' h => (hst w' h).stay HX1.out
            have z0 : ∀ w', KeepBut (fun _ => False) V5.drew w' → w'.cell? ⟨B13, 0, none⟩ = some (.int .i64 0) := fun w' h => (blk3 (((KeepBut.drew _ V5).trans h).blk HB13.out)).1
            have z1 : ∀ w', KeepBut (fun _ => False) V5.drew w' → w'.cell? ⟨B13, 1, none⟩ = some (.int .i64 0) := fun w' h => (blk3 (((KeepBut.drew _ V5).trans h).blk HB13.out)).2.1
            have z2 : ∀ w', KeepBut (fun _ => False) V5.drew w' → w'.cell? ⟨B13, 2, none⟩ = some (.int .i64 0) := fun w' h => (blk3 (((KeepBut.drew _ V5).trans h).blk HB13.out)).2.2.1
            have HLK := Lib.hid (show ∀ w', KeepBut (fun _ => False) V5.drew w' → Calls Tryd.prog 12 #[.slice q5 1 cap5, .slice (some ⟨g, i * 5, none⟩) 1 (cap - i)] w' fun e w'' => e = .returned (.bool true) ∧ KeepBut (fun _ => False) w' w'' from fun w' h => by
              have := like_any w' q5 (some ⟨g, i * 5, none⟩) cap5 (cap - i) [toG ⟨it.tok, 1, 1, 0⟩] [toG it] (HR5.out.stay ((KeepBut.drew _ V5).trans h)).toG (HCEL.out w' (hst w' h)) (by simp)
              rw [likeB_one (a := ⟨it.tok, 1, 1, 0⟩) (b := it) rfl] at this
              exact this)
            have HNM := Lib.hid (show ∀ w', KeepBut (fun _ => False) V5.drew w' → Calls Tryd.prog 14 #[.string TX] w' fun e w'' => e = .returned (.bool kn) ∧ KeepBut (fun _ => False) w' w'' from fun w' h => by
              have := name_any TX w' (((HK7.out.trans (hst w' h))).tabS HT.out)
              rw [HNMB.out] at this
              exact this)
            have HRS := Lib.hid (show ∀ w', KeepBut (fun _ => False) V5.drew w' → Calls Tryd.prog 15 #[.string TX] w' fun e w'' => e = .returned (.bool kr) ∧ KeepBut (fun _ => False) w' w'' from fun w' h => by
              have := isReserved_any TX w' (((HK7.out.trans (hst w' h))).tabS HT.out)
              rw [HRSB.out] at this
              exact this)
            have hSl := fun w' => slice_tok g its.length cap i hlt hcap w'
            have hWi : IntKind.i64.wrap ((i : Int) + 1) = (i : Int) + 1 := IntWalk.i64_in _ (by omega)
            refine wp_own0 (by kernel_rfl) (fun i => [[], [], [0, 1], [0, 1, 2], [0, 1, 2, 3], [0, 1, 2, 3, 4], [0, 1, 2, 3, 4, 5], [0, 1, 2, 3, 4, 5, 6], [0, 1, 2, 3, 4, 5, 6, 7], [0, 1, 2, 3, 4, 5, 6, 7, 8], [0, 1, 2, 3, 4, 5, 6, 7, 8], [0, 1, 2, 3, 4, 5, 6, 7, 8], [0, 1, 2, 3, 4, 5, 6, 7, 8], [0, 1, 2, 3, 4, 5, 6, 7, 8, 12], [0, 1, 2, 3, 4, 5, 6, 7, 8, 10, 11, 12, 13], [0, 1, 2, 3, 4, 5, 6, 7, 8, 9, 10, 11, 12, 13, 14], [0, 1, 2, 3, 4, 5, 6, 7, 8, 9, 10, 11, 12, 13, 14, 15], [0, 1, 2, 3, 4, 5, 6, 7, 8, 9, 10, 11, 12, 13, 14, 15, 16], [0, 1, 2, 3, 4, 5, 6, 7, 8, 9, 10, 11, 12, 13, 14, 15, 16, 17], [0, 1, 2, 3, 4, 5, 6, 7, 8, 9, 10, 11, 12, 13, 14, 15, 16, 17, 18], [0, 1, 2, 3, 4, 5, 6, 7, 8, 9, 10, 11, 12, 13, 14, 15, 16, 17, 18], [0, 1, 2, 3, 4, 5, 6, 7, 8, 9, 10, 11, 12, 13, 14, 15, 16, 17, 18, 19, 20], [0, 1, 2, 3, 4, 5, 6, 7, 8, 9, 10, 11, 12, 13, 14, 15, 16, 17, 18, 19, 20, 21], [0, 1, 2, 3, 4, 5, 6, 7, 8, 9, 10, 11, 12, 13, 14, 15, 16, 17, 18, 19, 20, 21, 22], [0, 1, 2, 3, 4, 5, 6, 7, 8, 9, 10, 11, 12, 13, 14, 15, 16, 17, 18, 19, 20, 21, 22, 23], [0, 1, 2, 3, 4, 5, 6, 7, 8, 9, 10, 11, 12, 13, 14, 15, 16, 17, 18], [0, 1, 2, 3, 4, 5, 6, 7, 8, 9, 10, 11, 12, 13, 14, 15, 16, 17, 18], [0, 1, 2, 3, 4, 5, 6, 7, 8, 9, 10, 11, 12, 13, 14, 15, 16, 17, 18, 25, 26], [0, 1, 2, 3, 4, 5, 6, 7, 8, 9, 10, 11, 12, 13, 14, 15, 16, 17, 18, 25, 26, 27], [0, 1, 2, 3, 4, 5, 6, 7, 8, 9, 10, 11, 12, 13, 14, 15, 16, 17, 18, 25, 26, 27, 28], [0, 1, 2, 3, 4, 5, 6, 7, 8, 9, 10, 11, 12, 13, 14, 15, 16, 17, 18, 25, 26, 27, 28, 29], [0, 1, 2, 3, 4, 5, 6, 7, 8, 9, 10, 11, 12, 13, 14, 15, 16, 17, 18, 19, 20, 21, 22, 23, 24, 25, 26, 27, 28, 29, 30], [0, 1, 2, 3, 4, 5, 6, 7, 8, 9, 10, 11, 12, 13, 14, 15, 16, 17, 18, 19, 20, 21, 22, 23, 24, 25, 26, 27, 28, 29, 30, 31], [0, 1, 2, 3, 4, 5, 6, 7, 8, 9, 10, 11, 12, 13, 14, 15, 16, 17, 18, 19, 20, 21, 22, 23, 24, 25, 26, 27, 28, 29, 30, 31, 32], [0, 1, 2, 3, 4, 5, 6, 7, 8, 9, 10, 11, 12, 13, 14, 15, 16, 17, 18, 19, 20, 21, 22, 23, 24, 25, 26, 27, 28, 29, 30, 31, 32, 33], [0, 1, 2, 3, 4, 5, 6, 7, 8, 9, 10, 11, 12, 13, 14, 15, 16, 17, 18, 19, 20, 21, 22, 23, 24, 25, 26, 27, 28, 29, 30, 31, 32, 33], [0, 1, 2, 3, 4, 5, 6, 7, 8, 9, 10, 11, 12, 13, 14, 15, 16, 17, 18, 19, 20, 21, 22, 23, 24, 25, 26, 27, 28, 29, 30, 31, 32, 33, 34, 35], [0, 1, 2, 3, 4, 5, 6, 7, 8, 9, 10, 11, 12, 13, 14, 15, 16, 17, 18, 19, 20, 21, 22, 23, 24, 25, 26, 27, 28, 29, 30, 31, 32, 33, 34, 35, 36], [0, 1, 2, 3, 4, 5, 6, 7, 8, 9, 10, 11, 12, 13, 14, 15, 16, 17, 18, 19, 20, 21, 22, 23, 24, 25, 26, 27, 28, 29, 30, 31, 32, 33, 34, 35, 36, 37], [0, 1, 2, 3, 4, 5, 6, 7, 8, 9, 10, 11, 12, 13, 14, 15, 16, 17, 18, 19, 20, 21, 22, 23, 24, 25, 26, 27, 28, 29, 30, 31, 32, 33, 34, 35, 36, 37, 38], [0, 1, 2, 3, 4, 5, 6, 7, 8, 9, 10, 11, 12, 13, 14, 15, 16, 17, 18, 19, 20, 21, 22, 23, 24, 25, 26, 27, 28, 29, 30, 31, 32, 33], [0, 1, 2, 3, 4, 5, 6, 7, 8, 9, 10, 11, 12, 13, 14, 15, 16, 17, 18, 19, 20, 21, 22, 23, 24, 25, 26, 27, 28, 29, 30, 31, 32, 33], [0, 1, 2, 3, 4, 5, 6, 7, 8, 9, 10, 11, 12, 13, 14, 15, 16, 17, 18, 19, 20, 21, 22, 23, 24, 25, 26, 27, 28, 29, 30, 31, 32, 33, 40, 41], [0, 1, 2, 3, 4, 5, 6, 7, 8, 9, 10, 11, 12, 13, 14, 15, 16, 17, 18, 19, 20, 21, 22, 23, 24, 25, 26, 27, 28, 29, 30, 31, 32, 33, 40, 41, 42], [0, 1, 2, 3, 4, 5, 6, 7, 8, 9, 10, 11, 12, 13, 14, 15, 16, 17, 18, 19, 20, 21, 22, 23, 24, 25, 26, 27, 28, 29, 30, 31, 32, 33, 40, 41, 42, 43], [0, 1, 2, 3, 4, 5, 6, 7, 8, 9, 10, 11, 12, 13, 14, 15, 16, 17, 18, 19, 20, 21, 22, 23, 24, 25, 26, 27, 28, 29, 30, 31, 32, 33, 40, 41, 42, 43, 44], [0, 1, 2, 3, 4, 5, 6, 7, 8, 9, 10, 11, 12, 13, 14, 15, 16, 17, 18, 19, 20, 21, 22, 23, 24, 25, 26, 27, 28, 29, 30, 31, 32, 33, 34, 35, 36, 37, 38, 39, 40, 41, 42, 43, 44, 45], [0, 1, 2, 3, 4, 5, 6, 7, 8, 9, 10, 11, 12, 13, 14, 15, 16, 17, 18, 19, 20, 21, 22, 23, 24, 25, 26, 27, 28, 29, 30, 31, 32, 33, 34, 35, 36, 37, 38, 39, 40, 41, 42, 43, 44, 45, 46]].getD i []) (fun _ => []) (fun _ => []) [] (by kernel_rfl) (fun j => if j = 15 then some (sConst (.bool true)) else if j = 24 then some (sConst (.bool kn)) else if j = 39 then some (sConst (.bool kr)) else none) ?_
            apply lex_quiet rfl rfl
            · intro w' hk; go_simp; with_reducible rfl
            simp only [Act.put, List.setIfInBounds_toArray, List.set_cons_zero, List.set_cons_succ]
            apply lex_quiet rfl rfl
            · intro w' hk; go_simp; with_reducible rfl
            simp only [Act.put, List.setIfInBounds_toArray, List.set_cons_zero, List.set_cons_succ]
            apply lex_quiet rfl rfl
            · intro w' hk; go_simp; with_reducible rfl
            simp only [Act.put, List.setIfInBounds_toArray, List.set_cons_zero, List.set_cons_succ]
            apply lex_quiet rfl rfl
            · intro w' hk; go_simp; with_reducible rfl
            simp only [Act.put, List.setIfInBounds_toArray, List.set_cons_zero, List.set_cons_succ]
            apply lex_quiet rfl rfl
            · intro w' hk; go_simp; with_reducible rfl
            simp only [Act.put, List.setIfInBounds_toArray, List.set_cons_zero, List.set_cons_succ]
            apply lex_quiet rfl rfl
            · intro w' hk; go_simp; with_reducible rfl
            simp only [Act.put, List.setIfInBounds_toArray, List.set_cons_zero, List.set_cons_succ]
            apply lex_quiet rfl rfl
            · intro w' hk; go_simp; with_reducible rfl
            simp only [Act.put, List.setIfInBounds_toArray, List.set_cons_zero, List.set_cons_succ]
            apply lex_quiet rfl rfl
            · intro w' hk; go_simp; with_reducible rfl
            simp only [Act.put, List.setIfInBounds_toArray, List.set_cons_zero, List.set_cons_succ]
            apply lex_quiet rfl rfl
            · intro w' hk; go_simp; with_reducible rfl
            simp only [Act.put, List.setIfInBounds_toArray, List.set_cons_zero, List.set_cons_succ]
            apply lex_quiet rfl rfl
            · intro w' hk; go_simp; with_reducible rfl
            simp only [Act.put, List.setIfInBounds_toArray, List.set_cons_zero, List.set_cons_succ]
            apply lex_quiet rfl rfl
            · intro w' hk; go_simp; with_reducible rfl
            simp only [Act.put, List.setIfInBounds_toArray, List.set_cons_zero, List.set_cons_succ]
            apply lex_quiet rfl rfl
            · intro w' hk; go_simp; with_reducible rfl
            simp only [Act.put, List.setIfInBounds_toArray, List.set_cons_zero, List.set_cons_succ]
            apply lex_quiet rfl rfl
            · intro w' hk; go_simp; with_reducible rfl
            simp only [Act.put, List.setIfInBounds_toArray, List.set_cons_zero, List.set_cons_succ]
            apply lex_quiet rfl rfl
            · intro w' hk; go_simp; with_reducible rfl
            simp only [Act.put, List.setIfInBounds_toArray, List.set_cons_zero, List.set_cons_succ]
            apply lex_quiet rfl rfl
            · intro w' hk; go_simp; with_reducible rfl
            simp only [Act.put, List.setIfInBounds_toArray, List.set_cons_zero, List.set_cons_succ]
            refine lex_loud rfl rfl (loud_call 12 #[.slice q5 1 cap5, .slice (some ⟨g, i * 5, none⟩) 1 (cap - i)] (fun w => by kernel_rfl) ⟨default, trivial⟩ (fun g _ => stable_true _) fun w' hk _ _ => (HLK.out w' hk).mono ?_) fun _ _ => ?_
            · rintro e w'' ⟨rfl, hq⟩
              exact ⟨default, trivial, rfl, hq.mono fun _ e => e.elim, fun b h => h.elim, trivial⟩
            simp only [sConst, Act.put, List.setIfInBounds_toArray, List.set_cons_zero, List.set_cons_succ]
            apply lex_quiet rfl rfl
            · intro w' hk; go_simp; with_reducible rfl
            simp only [Act.put, List.setIfInBounds_toArray, List.set_cons_zero, List.set_cons_succ]
            apply lex_quiet rfl rfl
            · intro w' hk; go_simp; with_reducible rfl
            simp only [Act.put, List.setIfInBounds_toArray, List.set_cons_zero, List.set_cons_succ]
            apply lex_quiet rfl rfl
            · intro w' hk; go_simp; with_reducible rfl
            simp only [Act.put, List.setIfInBounds_toArray, List.set_cons_zero, List.set_cons_succ]
            apply lex_quiet rfl rfl
            · intro w' hk; go_simp; with_reducible rfl
            simp only [Act.put, List.setIfInBounds_toArray, List.set_cons_zero, List.set_cons_succ]
            apply lex_quiet rfl rfl
            · intro w' hk; go_simp; with_reducible rfl
            simp only [Act.put, List.setIfInBounds_toArray, List.set_cons_zero, List.set_cons_succ]
            apply lex_quiet rfl rfl
            · intro w' hk; go_simp; with_reducible rfl
            simp only [Act.put, List.setIfInBounds_toArray, List.set_cons_zero, List.set_cons_succ]
            apply lex_quiet rfl rfl
            · intro w' hk; go_simp; with_reducible rfl
            simp only [Act.put, List.setIfInBounds_toArray, List.set_cons_zero, List.set_cons_succ]
            apply lex_quiet rfl rfl
            · intro w' hk; go_simp; with_reducible rfl
            simp only [Act.put, List.setIfInBounds_toArray, List.set_cons_zero, List.set_cons_succ]
            refine lex_loud rfl rfl (loud_call 14 #[.string TX] (fun w => by kernel_rfl) ⟨default, trivial⟩ (fun g _ => stable_true _) fun w' hk _ _ => (HNM.out w' hk).mono ?_) fun _ _ => ?_
            · rintro e w'' ⟨rfl, hq⟩
              exact ⟨default, trivial, rfl, hq.mono fun _ e => e.elim, fun b h => h.elim, trivial⟩
            simp only [sConst, Act.put, List.setIfInBounds_toArray, List.set_cons_zero, List.set_cons_succ]
            apply lex_quiet rfl rfl
            · intro w' hk; go_simp; with_reducible rfl
            simp only [Act.put, List.setIfInBounds_toArray, List.set_cons_zero, List.set_cons_succ]
            apply lex_quiet rfl rfl
            · intro w' hk; go_simp; with_reducible rfl
            simp only [Act.put, List.setIfInBounds_toArray, List.set_cons_zero, List.set_cons_succ]
            apply lex_quiet rfl rfl
            · intro w' hk; go_simp; with_reducible rfl
            simp only [Act.put, List.setIfInBounds_toArray, List.set_cons_zero, List.set_cons_succ]
            apply lex_quiet rfl rfl
            · intro w' hk; go_simp; with_reducible rfl
            simp only [Act.put, List.setIfInBounds_toArray, List.set_cons_zero, List.set_cons_succ]
            apply lex_quiet rfl rfl
            · intro w' hk; go_simp; with_reducible rfl
            simp only [Act.put, List.setIfInBounds_toArray, List.set_cons_zero, List.set_cons_succ]
            apply lex_quiet rfl rfl
            · intro w' hk; go_simp; with_reducible rfl
            simp only [Act.put, List.setIfInBounds_toArray, List.set_cons_zero, List.set_cons_succ]
            apply lex_quiet rfl rfl
            · intro w' hk; go_simp; with_reducible rfl
            simp only [Act.put, List.setIfInBounds_toArray, List.set_cons_zero, List.set_cons_succ]
            apply lex_quiet rfl rfl
            · intro w' hk; go_simp; with_reducible rfl
            simp only [Act.put, List.setIfInBounds_toArray, List.set_cons_zero, List.set_cons_succ]
            apply lex_quiet rfl rfl
            · intro w' hk; go_simp; with_reducible rfl
            simp only [Act.put, List.setIfInBounds_toArray, List.set_cons_zero, List.set_cons_succ]
            apply lex_quiet rfl rfl
            · intro w' hk; go_simp; with_reducible rfl
            simp only [Act.put, List.setIfInBounds_toArray, List.set_cons_zero, List.set_cons_succ]
            apply lex_quiet rfl rfl
            · intro w' hk; go_simp; with_reducible rfl
            simp only [Act.put, List.setIfInBounds_toArray, List.set_cons_zero, List.set_cons_succ]
            apply lex_quiet rfl rfl
            · intro w' hk; go_simp; with_reducible rfl
            simp only [Act.put, List.setIfInBounds_toArray, List.set_cons_zero, List.set_cons_succ]
            apply lex_quiet rfl rfl
            · intro w' hk; go_simp; with_reducible rfl
            simp only [Act.put, List.setIfInBounds_toArray, List.set_cons_zero, List.set_cons_succ]
            apply lex_quiet rfl rfl
            · intro w' hk; go_simp; with_reducible rfl
            simp only [Act.put, List.setIfInBounds_toArray, List.set_cons_zero, List.set_cons_succ]
            refine lex_loud rfl rfl (loud_call 15 #[.string TX] (fun w => by kernel_rfl) ⟨default, trivial⟩ (fun g _ => stable_true _) fun w' hk _ _ => (HRS.out w' hk).mono ?_) fun _ _ => ?_
            · rintro e w'' ⟨rfl, hq⟩
              exact ⟨default, trivial, rfl, hq.mono fun _ e => e.elim, fun b h => h.elim, trivial⟩
            simp only [sConst, Act.put, List.setIfInBounds_toArray, List.set_cons_zero, List.set_cons_succ]
            apply lex_quiet rfl rfl
            · intro w' hk; go_simp; with_reducible rfl
            simp only [Act.put, List.setIfInBounds_toArray, List.set_cons_zero, List.set_cons_succ]
            apply lex_quiet rfl rfl
            · intro w' hk; go_simp; with_reducible rfl
            simp only [Act.put, List.setIfInBounds_toArray, List.set_cons_zero, List.set_cons_succ]
            apply lex_quiet rfl rfl
            · intro w' hk; go_simp; with_reducible rfl
            simp only [Act.put, List.setIfInBounds_toArray, List.set_cons_zero, List.set_cons_succ]
            apply lex_quiet rfl rfl
            · intro w' hk; go_simp; with_reducible rfl
            simp only [Act.put, List.setIfInBounds_toArray, List.set_cons_zero, List.set_cons_succ]
            apply lex_quiet rfl rfl
            · intro w' hk; go_simp; with_reducible rfl
            simp only [Act.put, List.setIfInBounds_toArray, List.set_cons_zero, List.set_cons_succ]
            apply lex_quiet rfl rfl
            · intro w' hk; go_simp; with_reducible rfl
            simp only [Act.put, List.setIfInBounds_toArray, List.set_cons_zero, List.set_cons_succ]
            apply lex_quiet rfl rfl
            · intro w' hk; go_simp; with_reducible rfl
            simp only [Act.put, List.setIfInBounds_toArray, List.set_cons_zero, List.set_cons_succ]
            apply lex_quiet rfl rfl
            · intro w' hk; go_simp; with_reducible rfl
            simp only [Act.put, List.setIfInBounds_toArray, List.set_cons_zero, List.set_cons_succ]
            refine lex_nil ?_
            intro w9 hk9 _ _
            have HK9 := Lib.hid (HK5.out.trans ((KeepBut.drew _ V5).trans hk9))
            clear hk9 y0 y1 z0 z1 z2
            go_wp2_with fail
            exact ⟨⟨i + 1, by simp, by omega, HK9.out⟩, by simp only [intOf]; omega⟩
          · have hnl : ¬ (i : Int) < (its.length : Int) := by omega
            go_wp2_with fail
            go_ret
            exact ⟨rfl, HK7.out.trans HKR.out⟩
      · exact absurd rfl h
      · exact absurd rfl h
    · have hf : ((f0 : Int) != 0) = false := by simp [hz]
      have hf' : ((g0 : Int) != 0) = true := by simp [hz2]
      clear hz hz2 hca hcb
      go_enter Tryd.func5, Tryd.ntmps5
      go_upto_region 5 with (go_at_call 9; refine hLv.out.mono ?_; rintro e w1 ⟨rfl, hk1⟩; have HK1 := Lib.hid hk1; clear hk1)
      go_upto_region 6 with (go_at_call 10; refine (HA.out _ (HK1.out.tabS HT.out)).mono ?_; rintro e w2 ⟨q, cap, rfl, hr, hcap, hk2⟩)
      obtain ⟨V1, B6, hV1, hB6, hb6, hkV1, -⟩ := fresh_block w2 (.cells #[.int .i64 f0, .int .i64 f1, .int .i64 f2] 26)
      rw [← hV1, ← hB6]
      have HKa := Lib.hid (HK1.out.trans (hk2.trans hkV1))
      have HB6 := Lib.hid hb6
      clear hV1 hB6 hb6 hkV1 hr hk2
      go_upto_region 7 with (go_at_call 10; refine (HB.out _ (HKa.out.tabS HT.out)).mono ?_; rintro e w3 ⟨q2, cap2, rfl, hr, hcap2, hk2⟩)
      obtain ⟨V2, B8, hV2, hB8, hb8, hkV2, -⟩ := fresh_block w3 (.cells #[.int .i64 g0, .int .i64 g1, .int .i64 g2] 26)
      rw [← hV2, ← hB8]
      have e6 := (blk3 ((hk2.trans hkV2).blk HB6.out)).1
      have e8 := (blk3 hb8).1
      have HKb := Lib.hid (HKa.out.trans (hk2.trans hkV2))
      clear hV2 hB8 hb8 hkV2 hr hk2
      go_wp2_with fail
      go_ret
      exact ⟨rfl, HKb.out⟩
  · have hf : ((f0 : Int) != 0) = true := by simp [hz]
    clear hz hca hcb
    go_enter Tryd.func5, Tryd.ntmps5
    go_upto_region 5 with (go_at_call 9; refine hLv.out.mono ?_; rintro e w1 ⟨rfl, hk1⟩; have HK1 := Lib.hid hk1; clear hk1)
    go_upto_region 6 with (go_at_call 10; refine (HA.out _ (HK1.out.tabS HT.out)).mono ?_; rintro e w2 ⟨q, cap, rfl, hr, hcap, hk2⟩)
    obtain ⟨V1, B6, hV1, hB6, hb6, hkV1, -⟩ := fresh_block w2 (.cells #[.int .i64 f0, .int .i64 f1, .int .i64 f2] 26)
    rw [← hV1, ← hB6]
    have HKa := Lib.hid (HK1.out.trans (hk2.trans hkV1))
    have HB6 := Lib.hid hb6
    clear hV1 hB6 hb6 hkV1 hr hk2
    go_upto_region 7 with (go_at_call 10; refine (HB.out _ (HKa.out.tabS HT.out)).mono ?_; rintro e w3 ⟨q2, cap2, rfl, hr, hcap2, hk2⟩)
    obtain ⟨V2, B8, hV2, hB8, hb8, hkV2, -⟩ := fresh_block w3 (.cells #[.int .i64 g0, .int .i64 g1, .int .i64 g2] 26)
    rw [← hV2, ← hB8]
    have e6 := (blk3 ((hk2.trans hkV2).blk HB6.out)).1
    have e8 := (blk3 hb8).1
    have HKb := Lib.hid (HKa.out.trans (hk2.trans hkV2))
    clear hV2 hB8 hb8 hkV2 hr hk2
    go_wp2_with fail
    go_ret
    exact ⟨rfl, HKb.out⟩

/-- more than is gone through -/
theorem joins_many (s t : ByteArray) (w : World) (hT : TabS w) (h : 2000 < s.size ∨ 2000 < t.size) :
    Calls Tryd.prog 5 #[.string s, .string t] w fun e w' => e = .returned (.bool true) ∧ KeepBut (fun _ => False) w w' := by
  have hLv := Lib.hid (lives_any w hT)
  clear hT
  by_cases h1 : 2000 < s.size
  · have h1i : (2000 : Int) < (s.size : Int) := by omega
    clear h h1
    go_enter Tryd.func5, Tryd.ntmps5
    go_wp2_with (go_at_call 9; refine hLv.out.mono ?_; rintro e w1 ⟨rfl, hk1⟩; have HK1 := Lib.hid hk1; clear hk1)
    go_ret
    exact ⟨rfl, HK1.out⟩
  · have h1i : ¬ (2000 : Int) < (s.size : Int) := by omega
    have h2i : (2000 : Int) < (t.size : Int) := by omega
    clear h h1
    go_enter Tryd.func5, Tryd.ntmps5
    go_wp2_with (go_at_call 9; refine hLv.out.mono ?_; rintro e w1 ⟨rfl, hk1⟩; have HK1 := Lib.hid hk1; clear hk1)
    go_ret
    exact ⟨rfl, HK1.out⟩

end Go.Proofs.YtmklmlocldbaoaaDoor
