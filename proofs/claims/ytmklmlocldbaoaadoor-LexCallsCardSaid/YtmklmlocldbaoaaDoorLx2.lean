/-
  lex: span; Reserved; strings.IndexByte.
-/
import Derived.Test.YtmklmlocldbaoaaDoorLx1
import Derived.Test.YtmklmlocldbaoaaDoorLexU
import Derived.Test.YtmklmlocldbaoaaDoorShelf
namespace Go.Proofs.YtmklmlocldbaoaaDoor
open Go Go.RowKit Own

/-- the predicate that span hands to strings.IndexFunc -/
def runeP (q : UInt8 → Bool) (r : Nat) : Bool := decide (127 < r) || !q (UInt8.ofNat r)

theorem byteV_ofNat {r : Nat} (h : r ≤ 127) : byteV (UInt8.ofNat r) = .int .u8 (r : Int) := by
  unfold byteV
  rw [UInt8.toNat_ofNat']
  congr 1
  omega

theorem u8_in {r : Nat} (h : r ≤ 127) : IntKind.u8.wrap (r : Int) = (r : Int) := by
  have e : ∀ n : Int, 0 ≤ n → n < 256 → IntKind.u8.wrap n = n := fun n h1 h2 => by
    simp [IntKind.wrap, IntKind.bits, IntKind.signed]
    omega
  exact e _ (by omega) (by omega)

theorem spanP_any (q : UInt8 → Bool) (fid : Nat) (eg : ∀ args w, (callFunc fid args).run Tryd.prog w = .ok (.enter fid args) w) (hq : ∀ (c : UInt8) (w : World), Calls Tryd.prog fid #[byteV c] w fun e w' => e = .returned (.bool (q c)) ∧ w' = w)
    (w : World) (B : Nat) (hB : B < w.heap.size) (hc : w.cell? ⟨B, 0, none⟩ = some (.func (.func fid) #[] #[])) :
    PredAt Tryd.prog 44 #[.pointer (some ⟨B, 0, none⟩)] encR (runeP q) w := fun W r hb => by
  have hc' : W.cell? ⟨B, 0, none⟩ = some (.func (.func fid) #[] #[]) := (hb.cell (p := ⟨B, 0, none⟩) hB).trans hc
  clear hc hb
  unfold FnGives
  by_cases h : r ≤ 127
  · have h1 : ¬ (127 : Int) < (r : Int) := by omega
    have hw := u8_in h
    have hQ := Lib.hid (hq (UInt8.ofNat r))
    have hE := Lib.hid (show runeP q r = !q (UInt8.ofNat r) by unfold runeP; rw [decide_eq_false (by omega)]; rfl)
    rw [byteV_ofNat h] at hQ
    clear hq
    go_enter Tryd.func44, Tryd.ntmps44
    go_wp2_with (go_at_fn fid; refine (hQ.out _).mono ?_; rintro e w' ⟨rfl, rfl⟩)
    go_ret
    exact ⟨ret_bool hE.out.symm, 0, rfl⟩
  · have h1 : (127 : Int) < (r : Int) := by omega
    have hE := Lib.hid (show runeP q r = true by unfold runeP; rw [decide_eq_true (by omega)]; rfl)
    clear hq
    go_enter Tryd.func44, Tryd.ntmps44
    go_wp2
    go_ret
    exact ⟨ret_bool hE.out.symm, 0, rfl⟩

theorem runeP_small {q : UInt8 → Bool} (c : UInt8) (h : c.toNat < 128) : runeP q c.toNat = !q c := by
  unfold runeP
  rw [decide_eq_false (by omega), UInt8.ofNat_toNat]; rfl
theorem runeP_big {q : UInt8 → Bool} (r : Nat) (h : 128 ≤ r) : runeP q r = true := by
  unfold runeP
  rw [decide_eq_true (by omega)]; rfl

theorem span_any (q : UInt8 → Bool) (hs : ∀ c : UInt8, 128 ≤ c.toNat → q c = false) (fid : Nat) (eg : ∀ args w, (callFunc fid args).run Tryd.prog w = .ok (.enter fid args) w) (hq : ∀ (c : UInt8) (w : World), Calls Tryd.prog fid #[byteV c] w fun e w' => e = .returned (.bool (q c)) ∧ w' = w)
    (s : ByteArray) (w : World) :
    Calls Tryd.prog 27 #[.string s, .func (.func fid) #[] #[]] w fun e w' => e = .returned (.int .i64 ((s.data.toList.takeWhile q).length : Nat)) ∧ KeepBut (fun _ => False) w w' := by
  have hC := Lib.hid fun W hB hc => Tryd.strings_IndexFunc 44 #[.pointer (some ⟨w.heap.size, 0, none⟩)] (enters_of Tryd.func44 (by kernel_rfl) rfl) _ s W (spanP_any q fid eg hq W w.heap.size hB hc)
  have hI := idx_span (p := runeP q) hs runeP_small runeP_big s s.size 0 (by omega) (by omega)
  rw [List.drop_zero] at hI
  have hl : s.data.toList.length = s.size := by simp
  rw [hl] at hI
  obtain ⟨I, hI'⟩ : ∃ I, Lib.idxFunc (runeP q) true s = I := ⟨_, rfl⟩
  obtain ⟨m, hm⟩ : ∃ m, (s.data.toList.takeWhile q).length = m := ⟨_, rfl⟩
  rw [show Lib.idxFuncFrom (runeP q) true s s.size 0 = I from hI', hm, Nat.zero_add] at hI
  rw [hm]
  have hC2 : Hid (∀ W : World, w.heap.size < W.heap.size → W.cell? ⟨w.heap.size, 0, none⟩ = some (.func (.func fid) #[] #[]) → Calls Tryd.prog 43 #[.string s, .func (.func 44) #[] #[.pointer (some ⟨w.heap.size, 0, none⟩)]] W fun e w' => e = .returned (.int .i64 I) ∧ Below W.heap.size W w') := fun W hB hc => by
    have := hC.out W hB hc
    rw [hI'] at this; exact this
  clear hC hI' hl hm
  by_cases h : m = s.size
  · rw [if_pos h] at hI
    have hI := hI
    subst hI
    have HM := Lib.hid h
    clear h hs hq
    go_enter Tryd.func27, Tryd.ntmps27
    go_wp2_with (go_at_call 43; refine (hC2.out _ (by simp) (by simp)).mono ?_; rintro e w' ⟨rfl, hb⟩)
    go_ret
    exact ⟨ret_int (by rw [HM.out]), (KeepBut.alloc _ w _).trans (KeepBut.of_below hb)⟩
  · rw [if_neg h] at hI
    have hI0 : ¬ I < 0 := by omega
    have HI := Lib.hid hI
    clear h hI hs hq
    go_enter Tryd.func27, Tryd.ntmps27
    go_wp2_with (go_at_call 43; refine (hC2.out _ (by simp) (by simp)).mono ?_; rintro e w' ⟨rfl, hb⟩)
    go_ret
    exact ⟨ret_int HI.out, (KeepBut.alloc _ w _).trans (KeepBut.of_below hb)⟩

end Go.Proofs.YtmklmlocldbaoaaDoor
