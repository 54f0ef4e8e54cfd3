/-
  Package hist: which times are taken.
-/
import Derived.Test.YtoolpifkfgileaaDoorHi2
import Derived.Test.YtoolpifkfgileaaDoorMap
namespace Go.Proofs.YtoolpifkfgileaaDoor
open Go Go.RowKit Own

theorem MapI.look2 {P : Program} {q : IntKind} {w : World} {b : Nat} {l : List (Int × Value)} (h : MapI q w b l) {mt kt e : TypeId} (ht : P.underlying mt = some (.map kt e)) (hk : P.underlying kt = some (.int q)) (k : Int) (z : Value) (hz : (zeroValue e).run P w = .ok z w) :
    (Instr.lookup mt (.map (some b)) (.int q k) true).run P w = .ok (.tuple #[(mget l k).getD z, .bool (mget l k).isSome]) w := by
  obtain ⟨h1, es, c, h2, h3⟩ := h
  have hf := findNow_mix q q k es.toList l 0 h3
  have hr := MapKept.run_findKey (w := w) hk hf
  have hc := MapKept.run_checkKey (w := w) (k := .int q k) hk (by simp [MapKept.IsKey]) es.isEmpty 9999
  cases hm : mix k l 0 with
  | some p =>
    rw [hm] at hr
    simp [Instr.lookup, run_underlying ht, MapKept.run_getObj_map h2, Result.andThen, hc, hr, mget, hm]
  | none =>
    rw [hm] at hr
    simp [Instr.lookup, run_underlying ht, MapKept.run_getObj_map h2, Result.andThen, hc, hr, mget, hm, hz]

/-- the map m holds 1 at the times that T tells, and nothing else -/
def Times (m : List (Int × Value)) (T : Int → Bool) : Prop := ∀ t, mget m t = if T t = true then some (.int .i64 1) else none
def updT (T : Int → Bool) (t : Int) : Int → Bool := fun x => if x = t then true else T x
theorem Times.set {m : List (Int × Value)} {T : Int → Bool} (h : Times m T) (hd : (m.map (·.1)).Nodup) (t : Int) : Times (mset m t (.int .i64 1)) (updT T t) := fun x => by
  rw [mget_mset hd, h x]
  unfold updT
  by_cases e : x = t <;> simp [e]

set_option maxHeartbeats 4000000 in
theorem take_any (w : World) (Bx N : Nat) (m : List (Int × Value)) (T : Int → Bool) (hb : w.heap[Bx]? = some (.cells #[.map (some N)] 42 (0, 0))) (hm : MapI .i64 w N m) (hT : Times m T) (t : Int) :
    Calls Tryd.prog 51 #[.int .i64 t, .pointer (some ⟨Bx, 0, none⟩)] w fun e w' => e = .returned (.bool (!T t)) ∧ MapI .i64 w' N (mset m t (.int .i64 1)) ∧ KeepBut (fun k => k = N) w w' := by
  have c0 := blk_cell (k := 0) hb rfl
  have hl := hm.look (P := Tryd.prog) (mt := 42) (kt := 3) (e := 3) Tryd.underlying42 Tryd.underlying3 t (.int .i64 0) (by kernel_rfl)
  rw [hT t] at hl
  have HM := Lib.hid hm
  clear hb
  cases h : T t with
  | true =>
    rw [h] at hl
    simp only [if_true, Option.getD_some] at hl
    clear hm hT
    go_enter Tryd.func51, Tryd.ntmps51
    go_upto_region 2 with fail
    go_wp2_with (refine wpList_put_map _ _ _ 42 3 3 t rfl (.inr rfl) rfl rfl Tryd.underlying42 Tryd.underlying3 HM.out ?_; intro w1 hm1 hk1; have HM1 := Lib.hid hm1; have HK1 := Lib.hid hk1; clear hm1 hk1)
    go_ret
    exact ⟨rfl, HM1.out, HK1.out⟩
  | false =>
    rw [h] at hl
    simp only [Bool.false_eq_true, if_false, Option.getD_none] at hl
    clear hm hT
    go_enter Tryd.func51, Tryd.ntmps51
    go_upto_region 2 with fail
    go_wp2_with (refine wpList_put_map _ _ _ 42 3 3 t rfl (.inr rfl) rfl rfl Tryd.underlying42 Tryd.underlying3 HM.out ?_; intro w1 hm1 hk1; have HM1 := Lib.hid hm1; have HK1 := Lib.hid hk1; clear hm1 hk1)
    go_ret
    exact ⟨rfl, HM1.out, HK1.out⟩

/-- what a call of a history must be alone -/
def goodC (ks : List Int) (c : Cl) : Bool := decide (0 ≤ c.hart ∧ c.hart < 4 ∧ 0 ≤ c.cont ∧ c.cont < ks.length ∧ kindOf c.op = nth ks c.cont.toNat ∧ 0 ≤ c.beg)
def lastOk (e : Option Int) (b : Int) : Bool := match e with | none => true | some x => decide (x ≠ -1 ∧ x < b)
def updE (E : Int → Option Int) (h e : Int) : Int → Option Int := fun x => if x = h then some e else E x
/-- what the calls must be together: T: the times that are taken; E: when each hart's last call ended -/
def callsF (ks : List Int) : List Cl → (Int → Bool) → (Int → Option Int) → Bool
  | [], _, _ => true
  | c :: r, T, E => goodC ks c && (!T c.beg && (lastOk (E c.hart) c.beg &&
      (if c.till = -1 then decide (c.value = 0 ∧ c.code = 0) && callsF ks r (updT T c.beg) (updE E c.hart c.till)
       else decide (c.beg < c.till) && (!updT T c.beg c.till && callsF ks r (updT (updT T c.beg) c.till) (updE E c.hart c.till)))))
def mayH (ks : List Int) (cs : List Cl) : Bool := kindsB ks && callsF ks cs (fun _ => false) (fun _ => none)

def Lasts (m : List (Int × Value)) (E : Int → Option Int) : Prop := ∀ h, mget m h = (E h).map (Value.int .i64)
theorem Lasts.set {m : List (Int × Value)} {E : Int → Option Int} (h : Lasts m E) (hd : (m.map (·.1)).Nodup) (k e : Int) : Lasts (mset m k (.int .i64 e)) (updE E k e) := fun x => by
  rw [mget_mset hd, h x]
  unfold updE
  by_cases e' : x = k <;> simp [e']

end Go.Proofs.YtoolpifkfgileaaDoor
