/-
  LexBlanks, walked.
-/
import Derived.Test.YtmklmlocldbaoaaDoorLike
import Derived.Test.YtmklmlocldbaoaaDoorPick16
namespace Go.Proofs.YtmklmlocldbaoaaDoor
open Go Go.RowKit Own

/-- the text so far -/
def BlankRel (its : List Item) (i : Nat) (T : ByteArray) : Prop :=
  ∃ ps : List (Tok × List UInt8), T.data.toList = 32 :: gapped ps ∧ ps.map Prod.fst = (toks its).take i ∧ (∀ x ∈ ps, Gap x.2) ∧ T.size ≤ 1 + i * 2009

theorem gapped_snoc : ∀ (ps : List (Tok × List UInt8)) (t : Tok) (g : List UInt8), gapped (ps ++ [(t, g)]) = gapped ps ++ (t.text ++ g)
  | [], t, g => by simp [gapped]
  | (t', g') :: ps, t, g => by
    show t'.text ++ (g' ++ gapped (ps ++ [(t, g)])) = (t'.text ++ (g' ++ gapped ps)) ++ (t.text ++ g)
    rw [gapped_snoc ps t g]
    simp only [List.append_assoc]

theorem BlankRel.next {its : List Item} {i : Nat} {T TX g : ByteArray} {it : Item} (h : BlankRel its i T) (hi : i < its.length) (hit : its[i] = it) (hTX : (⟨it.tok.text.toArray⟩ : ByteArray) = TX) (hl : TX.size ≤ 2000) (hg : Gap g.data.toList) (hgl : g.size ≤ 9) :
    BlankRel its (i + 1) ((T ++ TX) ++ g) := by
  obtain ⟨ps, h1, h2, h3, h4⟩ := h
  refine ⟨ps ++ [(it.tok, g.data.toList)], ?_, ?_, ?_, ?_⟩
  · rw [gapped_snoc, ← List.cons_append, ← h1, ← hTX]
    simp [ByteArray.data_append]
  · rw [List.map_append, h2]
    have e : (toks its)[i]? = some it.tok := by simp [toks, hi, hit]
    rw [List.take_add_one, e]
    rfl
  · intro x hx
    rcases List.mem_append.1 hx with h | h
    · exact h3 x h
    · rw [List.mem_singleton] at h; rw [h]; exact hg
  · rw [ByteArray.size_append, ByteArray.size_append]; omega

/-- the five kinds of blanks -/
theorem kinds_gap (j : Nat) (hj : j < 5) : ∃ g : ByteArray, (#[Value.string ⟨#[32]⟩, .string ⟨#[10]⟩, .string ⟨#[9, 32, 13]⟩, .string ⟨#[35, 120, 32, 61, 32, 49, 10]⟩, .string ⟨#[32, 35, 32, 48, 48, 32, 36, 10, 32]⟩] : Array Value)[j]? = some (.string g) ∧ Gap g.data.toList ∧ g.size ≤ 9 := by
  match j, hj with
  | 0, _ => exact ⟨_, rfl, gap_1, by decide⟩
  | 1, _ => exact ⟨_, rfl, gap_2, by decide⟩
  | 2, _ => exact ⟨_, rfl, gap_3, by decide⟩
  | 3, _ => exact ⟨_, rfl, gap_4, by decide⟩
  | 4, _ => exact ⟨_, rfl, gap_5, by decide⟩

/-- the text at the end -/
theorem BlankRel.done {its : List Item} {T : ByteArray} (h : BlankRel its its.length T) (hg : ∀ i ∈ its, Good i.tok) : okS (scan T.data.toList 1 1 false) ∧ toks (scan T.data.toList 1 1 false) = toks its := by
  obtain ⟨ps, h1, h2, h3, _⟩ := h
  have hl : (toks its).length = its.length := by simp [toks]
  rw [List.take_of_length_le (by omega)] at h2
  have hall : ∀ t ∈ ps, Good t.1 ∧ Gap t.2 := fun t ht => by
    refine ⟨?_, h3 t ht⟩
    have : t.1 ∈ toks its := by rw [← h2]; exact List.mem_map.2 ⟨t, ht, rfl⟩
    obtain ⟨i, hi, e⟩ := List.mem_map.1 this
    rw [← e]; exact hg i hi
  rw [h1, scan_blank _ _ _ _ (by decide) (by decide)]
  obtain ⟨a, b⟩ := gapped_law ps hall 1 (1 + 1)
  exact ⟨b, a.trans h2⟩

set_option maxRecDepth 100000 in
set_option maxHeartbeats 16000000 in
theorem blanks_walk (s : ByteArray) (p : Option Addr) (cp : Nat) (gs : List Int) (w : World) (hx : Rd w p (ints gs)) (hT : TabS w) (hm : s.size ≤ 2000) (hgl : gs.length ≤ 9000) :
    Calls Tryd.prog 4 #[.string s, .slice p gs.length cp] w fun e w' => e = .returned (.bool true) ∧ KeepBut (fun _ => False) w w' := by
  have HT := Lib.hid hT; have HX := Lib.hid hx
  have hLv := Lib.hid (lives_any w hT)
  clear hT hx
  have hmi : ¬ (2000 : Int) < (s.size : Int) := by omega
  have hgi : ¬ (9000 : Int) < (gs.length : Int) := by omega
  obtain ⟨L, hL⟩ : ∃ L, s.data.toList = L := ⟨_, rfl⟩
  obtain ⟨its, hits⟩ : ∃ its, scan L 1 1 false = its := ⟨_, rfl⟩
  have hsl : L.length = s.size := by rw [← hL]; simp
  rcases all_cases s its (by rw [hL]; exact hits) with ⟨hok, hsz, hA⟩ | ⟨e0, l0, c0, hne, hA⟩
  · have HA := Lib.hid hA
    have HGD := Lib.hid (show ∀ i ∈ its, Good i.tok from fun i hi => scan_good L 1 1 false i (by rw [hits]; exact hi) (hok i hi))
    have hb := scan_len L 1 1 false
    rw [hits] at hb
    have HBD := Lib.hid hb.2
    have hlen := hb.1
    clear hA hok hb hits hL
    go_enter Tryd.func4, Tryd.ntmps4
    go_upto_region 5 with (go_at_call 9; refine hLv.out.mono ?_; rintro e w1 ⟨rfl, hk1⟩; have HK1 := Lib.hid hk1; clear hk1)
    go_upto_region 6 with (go_at_call 10; refine (HA.out _ (HK1.out.tabS HT.out)).mono ?_; rintro e w2 ⟨q, cap, rfl, hr, -, hk2⟩)
    obtain ⟨V, B6, hV, hB6, hb6, hkV, -⟩ := fresh_block w2 (.cells #[.int .i64 0, .int .i64 0, .int .i64 0] 26)
    rw [← hV, ← hB6]
    have HR := Lib.hid (hr.stay hkV)
    have HKV := Lib.hid (HK1.out.trans (hk2.trans hkV))
    have e0 := (blk3 hb6).1
    clear hV hB6 hb6 hkV hr hk2
    go_upto_region 8 with fail
    clear e0
    obtain ⟨V1, Bk, hV1, hBk, hbk, hkV1, -⟩ := fresh_block V (.cells #[.string ⟨#[32]⟩, .string ⟨#[10]⟩, .string ⟨#[9, 32, 13]⟩, .string ⟨#[35, 120, 32, 61, 32, 49, 10]⟩, .string ⟨#[32, 35, 32, 48, 48, 32, 36, 10, 32]⟩] 9)
    have HBK := Lib.hid hbk
    have HR1 := Lib.hid (HR.out.stay hkV1)
    have HK1' := Lib.hid (HKV.out.trans hkV1)
    have HX1 := Lib.hid (HX.out.stay HK1'.out)
    have k0 := blk_cell (k := 0) hbk rfl
    go_upto_region 9 with fail
    rw [← hV1, ← hBk]
    clear hV1 hBk hbk hkV1 HR HKV
    go_upto_block 0 with fail
    clear k0
    go_wp2_with fail
    go_loopw [8, 9] (fun v8 v9 wr => ∃ (i : Nat) (T : ByteArray), v8 = .string T ∧ v9 = .int .i64 i ∧ i ≤ its.length ∧ BlankRel its i T ∧ KeepBut (fun _ => False) V1 wr) (fun _ v9 _ => its.length - (intOf v9).toNat)
    case atStart => exact ⟨0, _, rfl, rfl, Nat.zero_le _, ⟨[], rfl, rfl, (fun x h => by cases h), by decide⟩, KeepBut.refl _ _⟩
    case round =>
      obtain ⟨i, T, rfl, rfl, hi, hbr, hkr⟩ := hrel
      have HBR := Lib.hid hbr; have HKR := Lib.hid hkr
      have hTs : T.size ≤ 1 + i * 2009 := by obtain ⟨_, _, _, _, h⟩ := hbr; exact h
      clear hbr hkr
      by_cases hlt : i < its.length
      · have hlti : (i : Int) < (its.length : Int) := by omega
        have hi0 : (0 : Int) ≤ i := by omega
        go_upto_if 43 with fail
        go_cut [10] from 40 to 65 (fun v10 wx => ∃ kk : Int, v10 = .int .i64 kk ∧ wx = wr)
        case first =>
          by_cases hg0 : 0 < gs.length
          · have hg0i : (0 : Int) < (gs.length : Int) := by omega
            have hgn : ¬ (gs.length : Int) = 0 := by omega
            obtain ⟨m, hm'⟩ : ∃ m, i % gs.length = m := ⟨_, rfl⟩
            have hml : m < gs.length := by rw [← hm']; exact Nat.mod_lt _ hg0
            have hrem : (i : Int).tmod (gs.length : Int) = (m : Int) := by
              rw [← hm']; rfl
            have hW : IntKind.i64.wrap (m : Int) = (m : Int) := IntWalk.i64_in _ (by omega)
            have hm0 : (0 : Int) ≤ m := by omega
            have hmi' : (m : Int) < (gs.length : Int) := by omega
            obtain ⟨b, o, hpp, _⟩ := HX1.out.ptr (by rw [ints_length]; exact hg0)
            have hrd := HX1.out
            rw [hpp] at hrd
            have c1 := HKR.out.stay (hrd.int m hml)
            subst hpp
            clear hm' hrd
            go_wp2_with fail
            go_meet
            case rel => exact ⟨_, rfl, rfl⟩
          · have hg0i : ¬ (0 : Int) < (gs.length : Int) := by omega
            go_wp2_with fail
            go_meet
            case rel => exact ⟨_, rfl, rfl⟩
        case rest =>
          obtain ⟨kk, rfl, hww⟩ := hcut
          have hww := hww.symm
          subst hww
          obtain ⟨g, hg, x0, x1, x2, x3, x4⟩ := HR1.out i hlt
          replace x1 := HKR.out.stay x1
          have hbd := HBD.out its[i] (List.getElem_mem hlt)
          obtain ⟨it, hit⟩ : ∃ it, its[i] = it := ⟨_, rfl⟩
          rw [hit] at hbd x1
          obtain ⟨TX, hTX⟩ : ∃ TX : ByteArray, (⟨it.tok.text.toArray⟩ : ByteArray) = TX := ⟨_, rfl⟩
          have hTXs : TX.size ≤ 2000 := by
            have e : TX.size = it.tok.text.length := by rw [← hTX]; rfl
            omega
          replace x1 : wr.cell? ⟨g, i * 5 + 1, none⟩ = some (.string TX) := by rw [← hTX]; exact x1
          obtain ⟨j, hj, hj5⟩ : ∃ j : Nat, pick kk 5 = (j : Int) ∧ j < 5 := by
            have := pick_range (k := kk) (n := 5) (by decide)
            exact ⟨(pick kk 5).toNat, by omega, by omega⟩
          obtain ⟨gb, hgb, hgap, hgs⟩ := kinds_gap j hj5
          have hcg : wr.cell? ⟨Bk, j, none⟩ = some (.string gb) := blk_cell (HKR.out.blk HBK.out) hgb
          have hPk := fun w' => pick_any w' kk 5 (by decide) (by decide)
          rw [hj] at hPk
          have HPK := Lib.hid hPk
          have HN := Lib.hid (HBR.out.next hlt hit hTX hTXs hgap hgs)
          subst hg
          clear x0 x2 x3 x4 hit hTX hgb hgap hPk hbd hj
          have hj0 : (0 : Int) ≤ j := by omega
          have hj5i : (j : Int) < 5 := by omega
          obtain ⟨T1, hT1⟩ : ∃ T1, T ++ TX = T1 := ⟨_, rfl⟩
          obtain ⟨T2, hT2⟩ : ∃ T2, T1 ++ gb = T2 := ⟨_, rfl⟩
          have hs1 : T1.size = T.size + TX.size := by rw [← hT1, ByteArray.size_append]
          rw [hT1, hT2] at HN
          have hc1 : ¬ 9223372036854775807 < T.size + TX.size := by omega
          have hc2 : ¬ 9223372036854775807 < T.size + TX.size + gb.size := by omega
          have y1 : ∀ w', KeepBut (fun _ => False) wr.drew w' → w'.cell? ⟨g, i * 5 + 1, none⟩ = some (.string TX) := fun w' h => ((KeepBut.drew _ wr).trans h).stay x1
          have yg : ∀ w', KeepBut (fun _ => False) wr.drew w' → w'.cell? ⟨Bk, j, none⟩ = some (.string gb) := fun w' h => ((KeepBut.drew _ wr).trans h).stay hcg
          go_upto_region 16 with fail
          refine wp_own0 (by kernel_rfl) (fun i => [[], [], [], [1, 2], [1, 2, 3], [1, 2, 3, 4], [0, 1, 2, 3, 4, 5], [], [], [], [9], [8, 9, 10], [7, 8, 9, 10, 11], [7, 8, 9, 10, 11, 12], [0, 1, 2, 3, 4, 5, 6, 7, 8, 9, 10, 11, 12, 13], [0, 1, 2, 3, 4, 5, 6, 7, 8, 9, 10, 11, 12, 13, 14]].getD i []) (fun _ => []) (fun _ => []) [] (by kernel_rfl) (fun i => if i = 11 then some (sConst (.int .i64 j)) else none) ?_
          apply lex_quiet rfl rfl
          · intro w' hk; go_simp; with_reducible rfl
          simp only [Act.put, List.setIfInBounds_toArray, List.set_cons_zero, List.set_cons_succ]
          apply lex_quiet rfl rfl
          · intro w' hk; go_simp; with_reducible rfl
          simp only [Act.put, List.setIfInBounds_toArray, List.set_cons_zero, List.set_cons_succ]
          apply lex_quiet rfl rfl
          · intro w' hk; go_simp; with_reducible rfl
          simp only [Act.put, List.setIfInBounds_toArray, List.set_cons_zero, List.set_cons_succ]
          apply lex_quiet rfl rfl
          · intro w' hk; go_simp; with_reducible rfl
          simp only [Act.put, List.setIfInBounds_toArray, List.set_cons_zero, List.set_cons_succ]
          apply lex_quiet rfl rfl
          · intro w' hk; go_simp; with_reducible rfl
          simp only [Act.put, List.setIfInBounds_toArray, List.set_cons_zero, List.set_cons_succ]
          apply lex_quiet rfl rfl
          · intro w' hk; go_simp; with_reducible rfl
          simp only [Act.put, List.setIfInBounds_toArray, List.set_cons_zero, List.set_cons_succ]
          apply lex_quiet rfl rfl
          · intro w' hk; go_simp; with_reducible rfl
          simp only [Act.put, List.setIfInBounds_toArray, List.set_cons_zero, List.set_cons_succ]
          apply lex_quiet rfl rfl
          · intro w' hk; go_simp; with_reducible rfl
          simp only [Act.put, List.setIfInBounds_toArray, List.set_cons_zero, List.set_cons_succ]
          apply lex_quiet rfl rfl
          · intro w' hk; go_simp; with_reducible rfl
          simp only [Act.put, List.setIfInBounds_toArray, List.set_cons_zero, List.set_cons_succ]
          apply lex_quiet rfl rfl
          · intro w' hk; go_simp; with_reducible rfl
          simp only [Act.put, List.setIfInBounds_toArray, List.set_cons_zero, List.set_cons_succ]
          apply lex_quiet rfl rfl
          · intro w' hk; go_simp; with_reducible rfl
          simp only [Act.put, List.setIfInBounds_toArray, List.set_cons_zero, List.set_cons_succ]
          refine lex_loud rfl rfl (loud_call 11 #[.int .i64 kk, .int .i64 5] (fun w => by kernel_rfl) ⟨default, trivial⟩ (fun g _ => stable_true _) fun w' hk _ _ => (HPK.out w').mono ?_) fun _ _ => ?_
          · rintro e w'' ⟨rfl, hq⟩
            exact ⟨default, trivial, rfl, by rw [hq]; exact KeepBut.refl _ _, fun b h => h.elim, trivial⟩
          simp only [sConst, Act.put, List.setIfInBounds_toArray, List.set_cons_zero, List.set_cons_succ]
          apply lex_quiet rfl rfl
          · intro w' hk; go_simp; with_reducible rfl
          simp only [Act.put, List.setIfInBounds_toArray, List.set_cons_zero, List.set_cons_succ]
          apply lex_quiet rfl rfl
          · intro w' hk; go_simp; with_reducible rfl
          simp only [Act.put, List.setIfInBounds_toArray, List.set_cons_zero, List.set_cons_succ]
          apply lex_quiet rfl rfl
          · intro w' hk; go_simp; with_reducible rfl
          simp only [Act.put, List.setIfInBounds_toArray, List.set_cons_zero, List.set_cons_succ]
          apply lex_quiet rfl rfl
          · intro w' hk; go_simp; with_reducible rfl
          simp only [Act.put, List.setIfInBounds_toArray, List.set_cons_zero, List.set_cons_succ]
          refine lex_nil ?_
          intro w9 hk9 _ _
          have HK9 := Lib.hid (HKR.out.trans ((KeepBut.drew _ wr).trans hk9))
          clear hk9 y1 yg x1 hcg
          go_wp2_with fail
          exact ⟨⟨i + 1, T2, rfl, by simp, by omega, HN.out, HK9.out⟩, by simp only [intOf]; omega⟩
      · have hnl : ¬ (i : Int) < (its.length : Int) := by omega
        have hie : i = its.length := by omega
        have hd := BlankRel.done (hie ▸ HBR.out) HGD.out
        by_cases h8 : T.size ≤ 8192
        · have h8i : ¬ (8192 : Int) < (T.size : Int) := by omega
          obtain ⟨ms, hms⟩ : ∃ ms, scan T.data.toList 1 1 false = ms := ⟨_, rfl⟩
          have hal := all_ok h8 hd.1
          rw [hms] at hal hd
          have HA2 := Lib.hid (fun w hT => all_known hal w hT)
          have HTK := Lib.hid hd.2
          have hmb := (scan_len T.data.toList 1 1 false).1
          rw [hms] at hmb
          have hml : ms.length ≤ T.size := by have e : T.data.toList.length = T.size := by simp
                                              omega
          clear hd hal hms hmb hie
          go_upto_region 20 with (go_at_call 10; refine (HA2.out _ ((HK1'.out.trans HKR.out).tabS HT.out)).mono ?_; rintro e w5 ⟨q2, cap2, rfl, hr2, -, hk5⟩)
          obtain ⟨V5, B12, hV5, hB12, hb12, hk6, -⟩ := fresh_block w5 (.cells #[.int .i64 0, .int .i64 0, .int .i64 0] 26)
          rw [← hV5, ← hB12]
          have HK5 := Lib.hid (HKR.out.trans (hk5.trans hk6))
          have HR2 := Lib.hid (hr2.stay hk6)
          obtain ⟨f0, f1, f2, -⟩ := blk3 hb12
          clear hV5 hB12 hb12 hk5 hk6 hr2
          have hLK := like_any V5 q q2 cap cap2 (its.map toG) (ms.map toG) (HR1.out.stay HK5.out).toG HR2.out.toG (by rw [List.length_map]; omega)
          rw [likeB_toks HTK.out.symm, List.length_map, List.length_map] at hLK
          have HLK := Lib.hid hLK
          clear hLK
          have u0 := eqF; have u2 := guardF
          go_wp2_with (go_at_call 12; refine HLK.out.mono ?_; rintro e w6 ⟨rfl, hk6⟩; have HK6 := Lib.hid hk6; clear hk6 f0 f1 f2)
          go_ret
          exact ⟨rfl, (HK1'.out.trans HK5.out).trans HK6.out⟩
        · have h8i : (8192 : Int) < (T.size : Int) := by omega
          clear hd
          go_wp2_with fail
          go_ret
          exact ⟨rfl, HK1'.out.trans HKR.out⟩
  · have hf' : ((e0 : Int) != 0) = true := by simp [hne]
    have HA := Lib.hid hA
    clear hA hne
    go_enter Tryd.func4, Tryd.ntmps4
    go_upto_region 5 with (go_at_call 9; refine hLv.out.mono ?_; rintro e w1 ⟨rfl, hk1⟩; have HK1 := Lib.hid hk1; clear hk1)
    go_upto_region 6 with (go_at_call 10; refine (HA.out _ (HK1.out.tabS HT.out)).mono ?_; rintro e w2 ⟨q, cap, rfl, hk2⟩)
    obtain ⟨V, B4, hV, hB4, hb4, hkV, -⟩ := fresh_block w2 (.cells #[.int .i64 e0, .int .i64 l0, .int .i64 c0] 26)
    rw [← hV, ← hB4]
    have HKV := Lib.hid (HK1.out.trans (hk2.trans hkV))
    have e0' := (blk3 hb4).1
    clear hV hB4 hb4 hkV hk2
    go_wp2_with fail
    go_ret
    exact ⟨rfl, HKV.out⟩

/-- more than is gone through -/
theorem blanks_many (s : ByteArray) (p : Option Addr) (cp n : Nat) (w : World) (hT : TabS w) (h : 2000 < s.size ∨ 9000 < n) :
    Calls Tryd.prog 4 #[.string s, .slice p n cp] w fun e w' => e = .returned (.bool true) ∧ KeepBut (fun _ => False) w w' := by
  have hLv := Lib.hid (lives_any w hT)
  clear hT
  by_cases h1 : 2000 < s.size
  · have h1i : (2000 : Int) < (s.size : Int) := by omega
    clear h h1
    go_enter Tryd.func4, Tryd.ntmps4
    go_wp2_with (go_at_call 9; refine hLv.out.mono ?_; rintro e w1 ⟨rfl, hk1⟩; have HK1 := Lib.hid hk1; clear hk1)
    go_ret
    exact ⟨rfl, HK1.out⟩
  · have h1i : ¬ (2000 : Int) < (s.size : Int) := by omega
    have h2i : (9000 : Int) < (n : Int) := by omega
    clear h h1
    go_enter Tryd.func4, Tryd.ntmps4
    go_wp2_with (go_at_call 9; refine hLv.out.mono ?_; rintro e w1 ⟨rfl, hk1⟩; have HK1 := Lib.hid hk1; clear hk1)
    go_ret
    exact ⟨rfl, HK1.out⟩

end Go.Proofs.YtmklmlocldbaoaaDoor
