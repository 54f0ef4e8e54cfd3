/-
  LexPlaces, walked.
-/
import Derived.Test.YtmklmlocldbaoaaDoorLx7
import Derived.Deep.CutRange
import Derived.Laws.Strings2
import Derived.Deep.CutBlock
namespace Go.Proofs.YtmklmlocldbaoaaDoor
open Go Go.RowKit Own

theorem allT_err (L : List UInt8) : ((allT L).2.err = 0 ∧ (allT L).1 = scan L 1 1 false ∧ okS (scan L 1 1 false) ∧ L.length ≤ 8192 ∧ (allT L).2 = ⟨0, 0, 0⟩) ∨ ((allT L).2.err ≠ 0 ∧ (allT L).1 = []) := by
  unfold allT
  by_cases h : 8192 < L.length
  · rw [if_pos h]; exact .inr ⟨by decide, rfl⟩
  · rw [if_neg h]
    have e : scanS L = scan L 1 1 false := rfl
    cases hf : (scanS L).find? (fun i => i.err != 0) with
    | some i =>
      have := List.find?_some hf
      simp only [bne_iff_ne, ne_eq] at this
      exact .inr ⟨this, rfl⟩
    | none =>
      rw [e] at hf ⊢
      rw [List.find?_eq_none] at hf
      exact .inl ⟨rfl, rfl, fun i hi => by simpa using hf i hi, by omega, rfl⟩

/-- All: tokens, or a fault -/
theorem all_cases (s : ByteArray) (its : List Item) (hits : scan s.data.toList 1 1 false = its) :
    (okS its ∧ s.size ≤ 8192 ∧ ∀ w, TabS w → Calls Tryd.prog 10 #[.string s] w fun e w' => ∃ p cap, e = .returned (.tuple #[.slice p its.length cap, .agg #[.int .i64 0, .int .i64 0, .int .i64 0]]) ∧ RowT w' p its ∧ (∀ a, p = some a → w.heap.size ≤ a.block ∧ a.block < w'.heap.size) ∧ KeepBut (fun _ => False) w w') ∨
    ∃ e0 l0 c0 : Nat, e0 ≠ 0 ∧ ∀ w, TabS w → Calls Tryd.prog 10 #[.string s] w fun e w' => ∃ p cap, e = .returned (.tuple #[.slice p 0 cap, .agg #[.int .i64 e0, .int .i64 l0, .int .i64 c0]]) ∧ KeepBut (fun _ => False) w w' := by
  obtain ⟨⟨l, f⟩, hlf⟩ : ∃ x, allT s.data.toList = x := ⟨_, rfl⟩
  have he := allT_err s.data.toList
  rw [hlf, hits] at he
  have hl : s.data.toList.length = s.size := by simp
  rcases he with ⟨_, h1, h2, h3, h4⟩ | ⟨h1, h2⟩
  · simp only at h1 h4
    subst h1 h4
    exact .inl ⟨h2, by omega, fun w hT => all_known hlf w hT⟩
  · simp only at h1 h2
    subst h2
    refine .inr ⟨f.err, f.line, f.col, h1, fun w hT => (all_known hlf w hT).mono ?_⟩
    rintro e w' ⟨p, cap, rfl, _, _, hk⟩
    exact ⟨p, cap, rfl, hk⟩

theorem drop_get {L : List UInt8} {at_ : Nat} (h : at_ < L.length) : ∃ c r, L.drop at_ = c :: r ∧ L.drop (at_ + 1) = r := ⟨_, _, List.drop_eq_getElem_cons h, rfl⟩

/-- the byte at a place -/
theorem byte_at {s : ByteArray} {L : List UInt8} (hL : s.data.toList = L) {at_ : Nat} {c : UInt8} {r : List UInt8} (hd : L.drop at_ = c :: r) : ∀ h : at_ < s.size, (s[at_]'h).toNat = c.toNat := fun h => by
  have e : s.data.toList.drop at_ = c :: r := by rw [hL]; exact hd
  rw [drop_at h] at e
  have e2 := (List.cons.inj e).1
  rw [← e2]
  simp [ByteArray.get!, h]
  rfl
theorem byte_ne {c : UInt8} {k : Nat} (hk : k < 256) (h : c ≠ UInt8.ofNat k) : ((c.toNat : Int) == (k : Int)) = false := by
  rw [byte_beq c k hk]
  rw [beq_eq_false_iff_ne]
  intro e
  exact h (UInt8.toNat_inj.1 (by rw [e, UInt8.toNat_ofNat']; omega))
theorem extract_mid (s : ByteArray) (a n : Nat) : (s.extract a (a + n)).data.toList = (s.data.toList.drop a).take n := by
  rw [ByteArray.data_extract]
  simp

def PlaceRel (L : List UInt8) (its : List Item) (v5 v6 v7 v9 : Value) : Prop :=
  ∃ (a l c : Nat) (note : Bool), v5 = .int .i64 a ∧ v6 = .int .i64 l ∧ v7 = .int .i64 c ∧ v9 = .bool note ∧ a ≤ L.length ∧ l ≤ 1 + a ∧ c ≤ 1 + a ∧ Here (L.drop a) l c note its

set_option maxRecDepth 100000 in
set_option maxHeartbeats 16000000 in
theorem places_walk (s : ByteArray) (w : World) (hT : TabS w) : Calls Tryd.prog 3 #[.string s] w fun e w' => e = .returned (.bool true) ∧ KeepBut (fun _ => False) w w' := by
  have HT := Lib.hid hT
  have hLv := Lib.hid (lives_any w hT)
  clear hT
  by_cases hm : s.size ≤ 9000
  · have hmi : ¬ (9000 : Int) < (s.size : Int) := by omega
    obtain ⟨L, hL⟩ : ∃ L, s.data.toList = L := ⟨_, rfl⟩
    obtain ⟨its, hits⟩ : ∃ its, scan L 1 1 false = its := ⟨_, rfl⟩
    have hsl : L.length = s.size := by rw [← hL]; simp
    rcases all_cases s its (by rw [hL]; exact hits) with ⟨hok, hsz, hA⟩ | ⟨e0, l0, c0, hne, hA⟩
    · have HA := Lib.hid hA
      have HOK := Lib.hid hok
      have hb := scan_len L 1 1 false
      rw [hits] at hb
      have HBD := Lib.hid hb.2
      have hlen := hb.1
      have HH := Lib.hid (show Here L 1 1 false its from .inr ⟨rfl, false, hits⟩)
      have HLL := Lib.hid hL
      clear hA hok hb hits hL
      go_enter Tryd.func3, Tryd.ntmps3
      go_upto_region 5 with (go_at_call 9; refine hLv.out.mono ?_; rintro e w1 ⟨rfl, hk1⟩; have HK1 := Lib.hid hk1; clear hk1)
      go_upto_region 6 with (go_at_call 10; refine (HA.out _ (HK1.out.tabS HT.out)).mono ?_; rintro e w2 ⟨p, cap, rfl, hr, -, hk2⟩)
      obtain ⟨V, B4, hV, hB4, hb4, hkV, -⟩ := fresh_block w2 (.cells #[.int .i64 0, .int .i64 0, .int .i64 0] 26)
      rw [← hV, ← hB4]
      have HR := Lib.hid (hr.stay hkV)
      have HKV := Lib.hid (HK1.out.trans (hk2.trans hkV))
      have e0 := (blk3 hb4).1
      clear hV hB4 hb4 hkV hr hk2
      go_upto_block 0 with fail
      clear e0
      go_wp2_with fail
      go_loopw [5, 6, 7, 8] (fun v5 v6 v7 v8 wr => ∃ (i at_ line col : Nat), v5 = .int .i64 at_ ∧ v6 = .int .i64 line ∧ v7 = .int .i64 col ∧ v8 = .int .i64 i ∧ i ≤ its.length ∧ at_ ≤ L.length ∧ line ≤ 1 + at_ ∧ col ≤ 1 + at_ ∧ Here (L.drop at_) line col false (its.drop i) ∧ KeepBut (fun _ => False) V wr) (fun _ _ _ v8 _ => its.length - (intOf v8).toNat)
      case atStart => exact ⟨0, 0, 1, 1, rfl, rfl, rfl, rfl, Nat.zero_le _, Nat.zero_le _, by decide, by decide, HH.out, KeepBut.refl _ _⟩
      case round =>
        obtain ⟨i, at_, line, col, rfl, rfl, rfl, rfl, hi, hat, hln, hcl, hh, hkr⟩ := hrel
        by_cases hlt : i < its.length
        · have hlti : (i : Int) < (its.length : Int) := by omega
          have hi0 : (0 : Int) ≤ i := by omega
          obtain ⟨g, hg, x0, x1, x2, x3, x4⟩ := HR.out i hlt
          have x1 := hkr.stay x1; have x3 := hkr.stay x3; have x4 := hkr.stay x4
          have hdr : its.drop i = its[i] :: its.drop (i + 1) := List.drop_eq_getElem_cons hlt
          have hbd := HBD.out its[i] (List.getElem_mem hlt)
          have hoki := HOK.out its[i] (List.getElem_mem hlt)
          rw [hdr] at hh
          obtain ⟨it, hit⟩ : ∃ it, its[i] = it := ⟨_, rfl⟩
          rw [hit] at hh hbd hoki x1 x3 x4
          obtain ⟨TX, hTX⟩ : ∃ TX : ByteArray, (⟨it.tok.text.toArray⟩ : ByteArray) = TX := ⟨_, rfl⟩
          replace x1 : wr.cell? ⟨g, i * 5 + 1, none⟩ = some (.string TX) := by rw [← hTX]; exact x1
          have HTX := Lib.hid hTX
          have HHr := Lib.hid hh; have HKR := Lib.hid hkr; have HOKI := Lib.hid hoki
          have HDR := Lib.hid hdr
          clear hh hkr x0 x2 hdr hoki hit hTX
          subst hg
          go_upto_block 2 with fail
          go_wp2_with fail
          have hie : (0 : Int) ≤ (i : Int) ∧ (i : Int) < (its.length : Int) := ⟨hi0, hlti⟩
          go_loopw [5, 6, 7, 9] (fun v5 v6 v7 v9 wx => wx = wr ∧ PlaceRel L (it :: its.drop (i + 1)) v5 v6 v7 v9) (fun v5 _ _ _ _ => L.length - (intOf v5).toNat)
          case atStart => exact ⟨rfl, at_, line, col, false, rfl, rfl, rfl, rfl, hat, hln, hcl, HHr.out⟩
          case round =>
            obtain ⟨rfl, a, l, c, note, rfl, rfl, rfl, rfl, ha, hl, hc, hh⟩ := hrel
            have hal : a < L.length := by
              have h1 := here_ne hh
              rcases Nat.lt_or_ge a L.length with h | h
              · exact h
              · exact absurd (List.drop_eq_nil_of_le h) h1
            have HX := Lib.hid hh
            have hali : (a : Int) < (s.size : Int) := by omega
            have ha0 : (0 : Int) ≤ a := by omega
            obtain ⟨q, hq⟩ : ∃ q, decide (it.line = l ∧ it.col = c) = q := ⟨_, rfl⟩
            have HQ := Lib.hid hq
            clear hh hq
            go_upto_region 13 with fail
            go_cut [52] from 31 to 83 (fun v52 wx => v52 = .bool (!q) ∧ wx = wr)
            case first =>
              by_cases h1 : it.line = l
              · have b1 : ((l : Int) != (it.line : Int)) = false := by simp [h1]
                by_cases h2 : it.col = c
                · have b2 : ((c : Int) != (it.col : Int)) = false := by simp [h2]
                  have HQ2 := Lib.hid (show q = true by rw [← HQ.out]; simp [h1, h2])
                  clear h1 h2
                  go_wp2_with fail
                  go_meet
                  case rel => exact ⟨by rw [HQ2.out]; rfl, rfl⟩
                · have b2 : ((c : Int) != (it.col : Int)) = true := by simp; omega
                  have HQ2 := Lib.hid (show q = false by rw [← HQ.out]; simp [h2])
                  clear h1 h2
                  go_wp2_with fail
                  go_meet
                  case rel => exact ⟨by rw [HQ2.out]; rfl, rfl⟩
              · have b1 : ((l : Int) != (it.line : Int)) = true := by simp; omega
                have HQ2 := Lib.hid (show q = false by rw [← HQ.out]; simp [h1])
                clear h1
                go_wp2_with fail
                go_meet
                case rel => exact ⟨by rw [HQ2.out]; rfl, rfl⟩
            case rest =>
              obtain ⟨rfl, hww⟩ := hcut
              have hww := hww.symm
              subst hww
              cases q with
              | true =>
                obtain ⟨h1, h2⟩ := of_decide_eq_true HQ.out
                obtain ⟨rfl, p1, p2, p3, p4⟩ := here_it HX.out h1 h2 HOKI.out
                have hTs : TX.size = it.tok.text.length := by rw [← HTX.out]; rfl
                rw [List.length_drop] at p2
                have hTi : (a : Int) + (TX.size : Int) ≤ (s.size : Int) := by omega
                have hT1 : ((TX.size : Int) == 0) = false := beq_eq_false_iff_ne.2 (by omega)
                have hTn : ¬ (s.size : Int) < (a : Int) + (TX.size : Int) := by omega
                have hsum : ((a + TX.size : Nat) : Int) = (a : Int) + (TX.size : Int) := by omega
                have hE : ((s.extract a (a + TX.size)).toList == TX.toList) = true := by
                  have e1 : (s.extract a (a + TX.size)).data.toList = TX.data.toList := by
                    rw [extract_mid, HLL.out, hTs, p3, ← HTX.out]
                  rw [ByteArray.toList_eq, ByteArray.toList_eq, e1]
                  exact beq_self_eq_true _
                have HP := Lib.hid p4
                have HTs := Lib.hid hTs
                rw [← hTs, List.drop_drop] at HP
                clear p1 p2 p3 p4 h1 h2 hTs
                have y1 : ∀ w', KeepBut (fun _ => False) wr.drew w' → w'.cell? ⟨g, i * 5 + 1, none⟩ = some (.string TX) := fun w' h => ((KeepBut.drew _ wr).trans h).stay x1
                go_upto_region 24 with fail
                have hWs : IntKind.i64.wrap ((a : Int) + (TX.size : Int)) = (a : Int) + (TX.size : Int) := IntWalk.i64_in _ (by omega)
                have hSl : ∀ w' : World, (Instr.slice 9 (.string s) (some (.int .i64 (a : Int))) (some (.int .i64 ((a : Int) + (TX.size : Int)))) none).run Tryd.prog w' = .ok (.string (s.extract a (a + TX.size))) w' := fun w' => by
                  rw [run_slice_string (P := Tryd.prog) w' 9 s .i64 .i64 a ((a : Int) + (TX.size : Int)) Tryd.underlying9 ha0 (by omega) hTi]
                  congr 3
                  all_goals omega
                have hTn2 : ((s.size : Int) < (a : Int) + (TX.size : Int)) = False := eq_false (by omega)
                have hTn3 : decide ((s.size : Int) < (a : Int) + (TX.size : Int)) = false := decide_eq_false (by omega)
                refine wp_own0 (by kernel_rfl) (fun i => [[], [0], [0, 1], [0, 1], [0, 1, 2, 3], [0, 1], [0, 1, 5], [0, 1, 2, 3, 4, 5, 6], [0, 1, 2, 3, 4, 5, 6, 7], [0, 1, 2, 3, 4, 5, 6, 7, 8], [0, 1, 2, 3, 4, 5, 6, 7, 8, 9], [0, 1, 2, 3, 4, 5, 6, 7, 8, 9, 10], [0, 1, 2, 3, 4, 5, 6, 7, 8, 9, 10, 11], [0, 1, 2, 3, 4, 5, 6, 7, 8, 9, 10, 11, 12], [0, 1, 2, 3, 4, 5, 6, 7, 8, 9, 10, 11, 12, 13], [0, 1, 2, 3, 4, 5, 6, 7, 8, 9, 10, 11, 12, 13], [0, 1, 2, 3, 4, 5, 6, 7, 8, 9, 10, 11, 12, 13], [0, 1, 2, 3, 4, 5, 6, 7, 8, 9, 10, 11, 12, 13], [0, 1, 2, 3, 4, 5, 6, 7, 8, 9, 10, 11, 12, 13, 16, 17], [0, 1, 2, 3, 4, 5, 6, 7, 8, 9, 10, 11, 12, 13, 14, 15, 16, 17, 18], [0, 1, 2, 3, 4, 5, 6, 7, 8, 9, 10, 11, 12, 13], [0, 1, 2, 3, 4, 5, 6, 7, 8, 9, 10, 11, 12, 13], [0, 1, 2, 3, 4, 5, 6, 7, 8, 9, 10, 11, 12, 13, 20, 21], [0, 1, 2, 3, 4, 5, 6, 7, 8, 9, 10, 11, 12, 13, 20, 21, 22], [0, 1, 2, 3, 4, 5, 6, 7, 8, 9, 10, 11, 12, 13, 20, 21, 22, 23], [0, 1, 2, 3, 4, 5, 6, 7, 8, 9, 10, 11, 12, 13, 14, 15, 16, 17, 18, 19, 20, 21, 22, 23, 24], [0, 1, 2, 3, 4, 5, 6, 7, 8, 9, 10, 11, 12, 13, 14, 15, 16, 17, 18, 19, 20, 21, 22, 23, 24, 25]].getD i []) (fun _ => []) (fun _ => []) [] (by kernel_rfl) (fun _ => none) ?_
                apply lex_quiet rfl rfl
                · intro w' hk; go_simp; with_reducible rfl
                simp only [Act.put, List.setIfInBounds_toArray, List.set_cons_zero, List.set_cons_succ]
                apply lex_quiet rfl rfl
                · intro w' hk; go_simp; with_reducible rfl
                simp only [Act.put, List.setIfInBounds_toArray, List.set_cons_zero, List.set_cons_succ]
                apply lex_quiet rfl rfl
                · intro w' hk; go_simp; with_reducible rfl
                simp only [Act.put, List.setIfInBounds_toArray, List.set_cons_zero, List.set_cons_succ]
                apply lex_quiet rfl rfl
                · intro w' hk; go_simp; with_reducible rfl
                simp only [Act.put, List.setIfInBounds_toArray, List.set_cons_zero, List.set_cons_succ]
                apply lex_quiet rfl rfl
                · intro w' hk; go_simp; with_reducible rfl
                simp only [Act.put, List.setIfInBounds_toArray, List.set_cons_zero, List.set_cons_succ]
                apply lex_quiet rfl rfl
                · intro w' hk; go_simp; with_reducible rfl
                simp only [Act.put, List.setIfInBounds_toArray, List.set_cons_zero, List.set_cons_succ]
                apply lex_quiet rfl rfl
                · intro w' hk; go_simp; with_reducible rfl
                simp only [Act.put, List.setIfInBounds_toArray, List.set_cons_zero, List.set_cons_succ]
                apply lex_quiet rfl rfl
                · intro w' hk; go_simp; with_reducible rfl
                simp only [Act.put, List.setIfInBounds_toArray, List.set_cons_zero, List.set_cons_succ]
                apply lex_quiet rfl rfl
                · intro w' hk; go_simp; with_reducible rfl
                simp only [Act.put, List.setIfInBounds_toArray, List.set_cons_zero, List.set_cons_succ]
                apply lex_quiet rfl rfl
                · intro w' hk; go_simp; with_reducible rfl
                simp only [Act.put, List.setIfInBounds_toArray, List.set_cons_zero, List.set_cons_succ]
                apply lex_quiet rfl rfl
                · intro w' hk; go_simp; with_reducible rfl
                simp only [Act.put, List.setIfInBounds_toArray, List.set_cons_zero, List.set_cons_succ]
                apply lex_quiet rfl rfl
                · intro w' hk; go_simp; with_reducible rfl
                simp only [Act.put, List.setIfInBounds_toArray, List.set_cons_zero, List.set_cons_succ]
                apply lex_quiet rfl rfl
                · intro w' hk; go_simp; with_reducible rfl
                simp only [Act.put, List.setIfInBounds_toArray, List.set_cons_zero, List.set_cons_succ]
                apply lex_quiet rfl rfl
                · intro w' hk; go_simp; with_reducible rfl
                simp only [Act.put, List.setIfInBounds_toArray, List.set_cons_zero, List.set_cons_succ]
                apply lex_quiet rfl rfl
                · intro w' hk; go_simp; with_reducible rfl
                simp only [Act.put, List.setIfInBounds_toArray, List.set_cons_zero, List.set_cons_succ]
                apply lex_quiet rfl rfl
                · intro w' hk; go_simp; with_reducible rfl
                simp only [Act.put, List.setIfInBounds_toArray, List.set_cons_zero, List.set_cons_succ]
                apply lex_quiet rfl rfl
                · intro w' hk; go_simp; with_reducible rfl
                simp only [Act.put, List.setIfInBounds_toArray, List.set_cons_zero, List.set_cons_succ]
                apply lex_quiet rfl rfl
                · intro w' hk; go_simp; with_reducible rfl
                simp only [Act.put, List.setIfInBounds_toArray, List.set_cons_zero, List.set_cons_succ]
                apply lex_quiet rfl rfl
                · intro w' hk; go_simp; with_reducible rfl
                simp only [Act.put, List.setIfInBounds_toArray, List.set_cons_zero, List.set_cons_succ]
                apply lex_quiet rfl rfl
                · intro w' hk; go_simp; with_reducible rfl
                simp only [Act.put, List.setIfInBounds_toArray, List.set_cons_zero, List.set_cons_succ]
                apply lex_quiet rfl rfl
                · intro w' hk; go_simp; with_reducible rfl
                simp only [Act.put, List.setIfInBounds_toArray, List.set_cons_zero, List.set_cons_succ]
                apply lex_quiet rfl rfl
                · intro w' hk; go_simp; with_reducible rfl
                simp only [Act.put, List.setIfInBounds_toArray, List.set_cons_zero, List.set_cons_succ]
                apply lex_quiet rfl rfl
                · intro w' hk; go_simp; with_reducible rfl
                simp only [Act.put, List.setIfInBounds_toArray, List.set_cons_zero, List.set_cons_succ]
                apply lex_quiet rfl rfl
                · intro w' hk; go_simp; with_reducible rfl
                simp only [Act.put, List.setIfInBounds_toArray, List.set_cons_zero, List.set_cons_succ]
                apply lex_quiet rfl rfl
                · intro w' hk; go_simp; with_reducible rfl
                simp only [Act.put, List.setIfInBounds_toArray, List.set_cons_zero, List.set_cons_succ]
                apply lex_quiet rfl rfl
                · intro w' hk; go_simp; with_reducible rfl
                simp only [Act.put, List.setIfInBounds_toArray, List.set_cons_zero, List.set_cons_succ]
                apply lex_quiet rfl rfl
                · intro w' hk; go_simp; with_reducible rfl
                simp only [Act.put, List.setIfInBounds_toArray, List.set_cons_zero, List.set_cons_succ]
                refine lex_nil ?_
                intro w9 hk9 _ _
                have HK9 := Lib.hid (HKR.out.trans ((KeepBut.drew _ wr).trans hk9))
                clear hk9 y1 x1 x3 x4 hSl
                go_wp2_with fail
                exact ⟨⟨i + 1, a + TX.size, l, c + TX.size, by simp, rfl, by simp, by simp, by omega, by omega, by omega, by omega, HP.out, HK9.out⟩, by simp only [intOf]; omega⟩
              | false =>
                obtain ⟨b, r, hd, hr1⟩ := drop_get hal
                have hz := byte_at HLL.out hd (by omega)
                rw [hd] at HX
                have HR1 := Lib.hid hr1
                have HQ2 := Lib.hid (of_decide_eq_false HQ.out)
                clear hr1 hd
                by_cases h10 : b = 10
                · have hbn : b.toNat = 10 := by rw [h10]; rfl
                  rw [h10] at HX
                  have HN := Lib.hid (here_nl HX.out)
                  rw [← HR1.out] at HN
                  clear HX h10
                  cases note with
                  | true =>
                    as_aux_lemma =>
                      go_wp2_with fail
                      exact ⟨⟨by first | rfl | trivial, a + 1, l + 1, 1, false, by simp, by simp, rfl, rfl, by omega, by omega, by omega, HN.out⟩, by simp only [intOf]; omega⟩
                  | false =>
                    as_aux_lemma =>
                      go_wp2_with fail
                      exact ⟨⟨by first | rfl | trivial, a + 1, l + 1, 1, false, by simp, by simp, rfl, rfl, by omega, by omega, by omega, HN.out⟩, by simp only [intOf]; omega⟩
                · have b10 : ((b.toNat : Int) == 10) = false := byte_ne (k := 10) (by decide) h10
                  have b10' : ((b.toNat : Int) != 10) = true := by rw [bne, b10]; rfl
                  by_cases h35 : b = 35
                  · have hbn : b.toNat = 35 := by rw [h35]; rfl
                    rw [h35] at HX
                    cases note with
                    | true =>
                      have HN := Lib.hid (here_in (by decide) HX.out)
                      rw [← HR1.out] at HN
                      clear HX h10 h35 b10 b10'
                      as_aux_lemma =>
                        go_wp2_with fail
                        exact ⟨⟨by first | rfl | trivial, a + 1, l, c + 1, true, by simp, rfl, by simp, rfl, by omega, by omega, by omega, HN.out⟩, by simp only [intOf]; omega⟩
                    | false =>
                      have HN := Lib.hid (here_note HX.out)
                      rw [← HR1.out] at HN
                      clear HX h10 h35 b10 b10'
                      as_aux_lemma =>
                        go_wp2_with fail
                        exact ⟨⟨by first | rfl | trivial, a + 1, l, c + 1, true, by simp, rfl, by simp, rfl, by omega, by omega, by omega, HN.out⟩, by simp only [intOf]; omega⟩
                  · have b35 : ((b.toNat : Int) == 35) = false := byte_ne (k := 35) (by decide) h35
                    cases note with
                    | true =>
                      have HN := Lib.hid (here_in h10 HX.out)
                      rw [← HR1.out] at HN
                      clear HX h10 h35
                      as_aux_lemma =>
                        go_wp2_with fail
                        exact ⟨⟨by first | rfl | trivial, a + 1, l, c + 1, true, by simp, rfl, by simp, rfl, by omega, by omega, by omega, HN.out⟩, by simp only [intOf]; omega⟩
                    | false =>
                      by_cases hbl : blankB b = true
                      · have HN := Lib.hid (here_blank hbl h10 HX.out)
                        rw [← HR1.out] at HN
                        have hb3 : b.toNat = 9 ∨ b.toNat = 13 ∨ b.toNat = 32 := by
                          simp only [blankB, Bool.or_eq_true, beq_iff_eq] at hbl
                          rcases hbl with ((h | h) | h) | h
                          · exact .inl h
                          · exact absurd (UInt8.toNat_inj.1 h) h10
                          · exact .inr (.inl h)
                          · exact .inr (.inr h)
                        clear h10 h35 b10 b10' b35 hbl HX
                        rcases hb3 with hbn | hbn | hbn
                        · as_aux_lemma =>
                            go_wp2_with fail
                            exact ⟨⟨by first | rfl | trivial, a + 1, l, c + 1, false, by simp, rfl, by simp, rfl, by omega, by omega, by omega, HN.out⟩, by simp only [intOf]; omega⟩
                        · as_aux_lemma =>
                            go_wp2_with fail
                            exact ⟨⟨by first | rfl | trivial, a + 1, l, c + 1, false, by simp, rfl, by simp, rfl, by omega, by omega, by omega, HN.out⟩, by simp only [intOf]; omega⟩
                        · as_aux_lemma =>
                            go_wp2_with fail
                            exact ⟨⟨by first | rfl | trivial, a + 1, l, c + 1, false, by simp, rfl, by simp, rfl, by omega, by omega, by omega, HN.out⟩, by simp only [intOf]; omega⟩
                      · have := here_tok (by simpa using hbl) h35 HX.out
                        exact absurd ⟨this.1, this.2⟩ HQ2.out
        · have hnl : ¬ (i : Int) < (its.length : Int) := by omega
          have HKR := Lib.hid hkr
          clear hh hkr
          go_wp2_with fail
          go_ret
          exact ⟨rfl, HKV.out.trans HKR.out⟩
    · have hf' : ((e0 : Int) != 0) = true := by simp [hne]
      have HA := Lib.hid hA
      clear hA hne
      go_enter Tryd.func3, Tryd.ntmps3
      go_upto_region 5 with (go_at_call 9; refine hLv.out.mono ?_; rintro e w1 ⟨rfl, hk1⟩; have HK1 := Lib.hid hk1; clear hk1)
      go_upto_region 6 with (go_at_call 10; refine (HA.out _ (HK1.out.tabS HT.out)).mono ?_; rintro e w2 ⟨p, cap, rfl, hk2⟩)
      obtain ⟨V, B4, hV, hB4, hb4, hkV, -⟩ := fresh_block w2 (.cells #[.int .i64 e0, .int .i64 l0, .int .i64 c0] 26)
      rw [← hV, ← hB4]
      have HKV := Lib.hid (HK1.out.trans (hk2.trans hkV))
      have e0' := (blk3 hb4).1
      clear hV hB4 hb4 hkV hk2
      go_wp2_with fail
      go_ret
      exact ⟨rfl, HKV.out⟩
  · have hmi : (9000 : Int) < (s.size : Int) := by omega
    go_enter Tryd.func3, Tryd.ntmps3
    go_wp2_with (go_at_call 9; refine hLv.out.mono ?_; rintro e w1 ⟨rfl, hk1⟩; have HK1 := Lib.hid hk1; clear hk1)
    go_ret
    exact ⟨rfl, HK1.out⟩

end Go.Proofs.YtmklmlocldbaoaaDoor
