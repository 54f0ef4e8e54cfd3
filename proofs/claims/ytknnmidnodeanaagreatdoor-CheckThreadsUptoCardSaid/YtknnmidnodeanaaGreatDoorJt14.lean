/- Joined texts of this work: Ck0, Wk0, MapT. -/
import Derived.Test.YtknnmidnodeanaaGreatDoorJt12
import Derived.Test.YtknnmidnodeanaaGreatDoorJt13
import Derived.WalkSmall
import Derived.Test.YtknnmidnodeanaaGreatDoorJt4
import Derived.MapKept
/-
  What package check says of a thread, in plain. No program in sight.
-/
namespace Go.Proofs.YtknnmidnodeanaaGreatDoor
open Go
open Go.Lib (hid)
/-- what a thread told -/
structure Sc where
 vars:List (List UInt8)
 arrays:List (List UInt8 × Int)
 calls:Nat
/-- a fault: its number, line, column -/
structure Fl where
 err:Int
 line:Int
 col:Int
deriving DecidableEq
def Fl.no:Fl:=⟨0,0,0⟩
def told (s:Sc) (nm:List UInt8):Nat:=if nm∈s.vars then 1 else if nm∈s.arrays.map (·.1) then 2 else 0
mutual
/-- an expression's first fault -/
def xkF (s:Sc):Gx→Option Fl
 | .mk k _ _ nm l c kids=>if (k=2∧told s nm≠1)∨(k=3∧told s nm≠2) then some ⟨6,l,c⟩ else exFL s kids
def exFL (s:Sc):List Gx→Option Fl
 | []=>none
 | x::l=>
  match xkF s x with
  | some f=>some f
  | none=>exFL s l
end
/-- a container's place -/
def contIdx (cs:List Gc) (nm:List UInt8):Option Nat:=cs.findIdx? fun c=>c.name==nm
def fitsB (op kind:Int):Bool:=if op=1∨op=2 then kind==1 else if op=3∨op=4 then kind==2 else if op=5∨op=6∨op=7 then kind==3 else false
def tellF (cs:List Gc) (s:Sc) (k sz l c:Int) (nm:List UInt8):Except Fl Sc:=
 if told s nm≠0∨(contIdx cs nm).isSome=true then .error ⟨8,l,c⟩
 else if k=1 then (if s.vars.length=16 then .error ⟨3,l,c⟩ else .ok { s with vars:=s.vars++[nm] })
 else if sz<1∨16<sz then .error ⟨2,l,c⟩
 else if s.arrays.length=4 then .error ⟨3,l,c⟩ else .ok { s with arrays:=s.arrays++[(nm,sz)] }
def clF (cs:List Gc) (s:Sc) (op l c:Int) (val into cont:List UInt8):Except Fl Sc:=
 match (contIdx cs cont).bind fun i=>cs[i]? with
 | none=>.error ⟨6,l,c⟩
 | some q=>
  if fitsB op q.kind=false then .error ⟨2,l,c⟩
  else if (val≠[]∧told s val≠1)∨told s into≠1 then .error ⟨6,l,c⟩
  else if val=into then .error ⟨2,l,c⟩
  else .ok { s with calls:=s.calls+1 }
/-- one statement, its blocks apart -/
def stF (cs:List Gc) (s:Sc):Gs→Except Fl Sc
 | .mk k nm sz op val into cont xs _ _ l c=>
  match exFL s xs with
  | some f=>.error f
  | none=>
   if k=1∨k=2 then tellF cs s k sz l c nm
   else if k=3 then (if told s nm≠1 then .error ⟨6,l,c⟩ else .ok s)
   else if k=4 then (if told s nm≠2 then .error ⟨6,l,c⟩ else .ok s)
   else if k=9 then clF cs s op l c val into cont
   else .ok s
mutual
/-- statements as their text goes -/
def flat:Gs→List Gs
 | .mk k nm sz op val into cont xs thn els l c=>.mk k nm sz op val into cont xs thn els l c::(flatL thn++flatL els)
def flatL:List Gs→List Gs
 | []=>[]
 | s::l=>flat s++flatL l
end
def foldF (cs:List Gc):Sc→List Gs→Except Fl Sc
 | s,[]=>.ok s
 | s,x::l=>
  match stF cs s x with
  | .error f=>.error f
  | .ok s'=>foldF cs s' l
/-- a thread -/
def thrF (cs:List Gc) (l:List Gs):Except Fl Sc:=foldF cs ⟨[],[],0⟩ (flatL l)
/-- a container that stands ahead by the same name -/
def contF (cs:List Gc):Nat→List Gc→Option Fl
 | _,[]=>none
 | i,c::l=>if (contIdx cs c.name).getD 0<i then some ⟨8,c.line,c.col⟩ else contF cs (i+1) l
def thrsF (cs:List Gc):List (List Gs)→Except Fl (List Sc)
 | []=>.ok []
 | l::r=>
  match thrF cs l with
  | .error f=>.error f
  | .ok s=>
   match thrsF cs r with
   | .error f=>.error f
   | .ok q=>.ok (s::q)
/-
  Package check: bad, within, Fits, Cont.
-/
open Go Go.RowKit Own
abbrev TFw:TypeId:=81
abbrev fwV (er li co:Int):Value:=.iface TFw (.agg #[.int .i64 er,.int .i64 li,.int .i64 co])
/-- what a checker that gives up leaves -/
abbrev fwC (er li co:Int):List PanicEntry:=[{ v:=fwV er li co,recovered:=false }]
set_option maxHeartbeats 8000000 in
theorem bad_no (w:World) (er li co:Int):Calls Tryz.prog 40 #[.bool false,.int .i64 er,.int .i64 li,.int .i64 co] w fun e w'=>e=.returned (.tuple #[])∧w'=w:=by
 go_enter Tryz.func40,Tryz.ntmps40
 go_wp2_with fail
 go_end0
 exact ⟨rfl,rfl⟩
set_option maxHeartbeats 8000000 in
theorem bad_yes (w:World) (er li co:Int):Calls Tryz.prog 40 #[.bool true,.int .i64 er,.int .i64 li,.int .i64 co] w fun e w'=>e=.panicked (fwC er li co)∧w'=w:=by
 simp only [fwC,fwV,TFw]
 go_enter Tryz.func40,Tryz.ntmps40
 go_wp2_with fail
 exact ⟨rfl,rfl,rfl⟩
theorem bad_any2 (b:Bool) (w:World) (er li co:Int):Calls Tryz.prog 40 #[.bool b,.int .i64 er,.int .i64 li,.int .i64 co] w fun e w'=>e=(if b then .panicked (fwC er li co) else .returned (.tuple #[]))∧w'=w:=by
 cases b
 ·exact bad_no w er li co
 ·exact bad_yes w er li co
set_option maxHeartbeats 8000000 in
theorem within_any (w:World) (n m:Int):Calls Tryz.prog 42 #[.int .i64 n,.int .i64 m] w fun e w'=>e=.returned (.bool (decide (1≤n) && decide (n≤m)))∧w'=w:=by
 by_cases h1:1≤n
 ·rw [decide_eq_true h1,Bool.true_and]
  by_cases h2:n≤m
  ·rw [decide_eq_true h2]
   go_enter Tryz.func42,Tryz.ntmps42
   go_wp2_with fail
   go_ret
   exact ⟨rfl,rfl⟩
  ·rw [decide_eq_false h2]
   go_enter Tryz.func42,Tryz.ntmps42
   go_wp2_with fail
   go_ret
   exact ⟨rfl,rfl⟩
 ·rw [decide_eq_false h1,Bool.false_and]
  go_enter Tryz.func42,Tryz.ntmps42
  go_wp2_with fail
  go_ret
  exact ⟨rfl,rfl⟩
theorem fits_1 {op kind:Int} (h:op=1∨op=2):fitsB op kind=(kind==1):=by unfold fitsB;rw [if_pos h]
theorem fits_2 {op kind:Int} (h:op=3∨op=4):fitsB op kind=(kind==2):=by unfold fitsB;rw [if_neg (by omega),if_pos h]
theorem fits_3 {op kind:Int} (h:op=5∨op=6∨op=7):fitsB op kind=(kind==3):=by unfold fitsB;rw [if_neg (by omega),if_neg (by omega),if_pos h]
theorem fits_0 {op kind:Int} (h:¬(1≤op∧op≤7)):fitsB op kind=false:=by unfold fitsB;rw [if_neg (by omega),if_neg (by omega),if_neg (by omega)]
set_option maxHeartbeats 16000000 in
theorem fits_any (w:World) (op kind:Int):Calls Tryz.prog 72 #[.int .i64 op,.int .i64 kind] w fun e w'=>e=.returned (.bool (fitsB op kind))∧w'=w:=by
 by_cases h:1≤op∧op≤7
 ·have hc:op=1∨op=2∨op=3∨op=4∨op=5∨op=6∨op=7:=by omega
  rcases hc with rfl | rfl | rfl | rfl | rfl | rfl | rfl
  all_goals first | rw [fits_1 (by decide)] | rw [fits_2 (by decide)] | rw [fits_3 (by decide)]
  all_goals
   clear h
   go_enter Tryz.func72,Tryz.ntmps72
   go_wp2_with fail
   go_ret
   exact ⟨rfl,rfl⟩
 ·rw [fits_0 h]
  have b1:(op==1)=false:=by rw [beq_eq_false_iff_ne];omega
  have b2:(op==2)=false:=by rw [beq_eq_false_iff_ne];omega
  have b3:(op==3)=false:=by rw [beq_eq_false_iff_ne];omega
  have b4:(op==4)=false:=by rw [beq_eq_false_iff_ne];omega
  have b5:(op==5)=false:=by rw [beq_eq_false_iff_ne];omega
  have b6:(op==6)=false:=by rw [beq_eq_false_iff_ne];omega
  have b7:(op==7)=false:=by rw [beq_eq_false_iff_ne];omega
  clear h
  go_enter Tryz.func72,Tryz.ntmps72
  go_wp2_with fail
  go_ret
  exact ⟨rfl,rfl⟩
/-- a container's place, as check.Cont tells it -/
def contI (cs:List Gc) (nm:List UInt8):Int:=match contIdx cs nm with | some i=>(i:Int) | none=>-1
abbrev TStr:TypeId:=9
set_option maxHeartbeats 8000000 in
theorem contFn_any (a:Gc) (nm:List UInt8) (B:Nat) (w:World) (hB:w.heap[B]?=some (.cells #[strV nm] TStr (0,0))):
  Calls Tryz.prog 36 #[gcV a,.pointer (some ⟨B,0,none⟩)] w fun e w'=>e=.returned (.bool (a.name==nm))∧KeepBut (fun _=>False) w w':=by
 obtain ⟨ak,an,al,ac⟩:=a
 unfold gcV
 dsimp only
 obtain ⟨V,B1,hV,hB1,hb1,hk1,hs1⟩:=fresh_block w (.cells #[.int .i64 ak,strV an,.int .i64 al,.int .i64 ac] TCt)
 have HK:=hid hk1
 have hx:V.cell? ⟨B,0,none⟩=some (strV nm):=by have:=hk1.blk hB;simp [World.cell?,this]
 have hb:=hb1
 unfold strV at hb hV hx ⊢
 clear hb1 hk1 hs1 hB
 by_cases h2:an=nm
 ·subst h2
  rw [beq_self_eq_true]
  obtain ⟨n0,n1,n2,n3⟩:=blk4 hb
  go_enter Tryz.func36,Tryz.ntmps36
  go_upto_region 1 with fail
  rw [←hV,←hB1]
  clear hV hB1
  go_wp2_with fail
  go_ret
  exact ⟨rfl,HK.out⟩
 ·have h3:(an==nm)=false:=beq_eq_false_iff_ne.2 h2
  obtain ⟨n0,n1,n2,n3⟩:=blk4 hb
  go_enter Tryz.func36,Tryz.ntmps36
  go_upto_region 1 with fail
  rw [←hV,←hB1]
  clear hV hB1
  go_wp2_with fail
  go_ret
  exact ⟨by rw [h3];rfl,HK.out⟩
theorem contI_hit {cs:List Gc} {nm:List UInt8} {k:Nat} (h:k<cs.length) (hk:(cs[k].name==nm)=true) (hb:∀ j,(hj:j<k)→(h:j<cs.length)→(cs[j].name==nm)=false):contI cs nm=k:=by
 have:contIdx cs nm=some k:=by
  unfold contIdx
  rw [List.findIdx?_eq_some_iff_getElem]
  exact ⟨h,hk,fun j hj=>by rw [hb j hj (by omega)];exact Bool.false_ne_true⟩
 unfold contI
 rw [this]
theorem contI_miss {cs:List Gc} {nm:List UInt8} (hb:∀ j,(h:j<cs.length)→(cs[j].name==nm)=false):contI cs nm=-1:=by
 have:contIdx cs nm=none:=by
  unfold contIdx
  rw [List.findIdx?_eq_none_iff]
  intro x hx
  obtain ⟨j,hj,e⟩:=List.getElem_of_mem hx
  rw [←e,hb j hj]
 unfold contI
 rw [this]
set_option maxHeartbeats 8000000 in
theorem contAt_any (l:List Gc) (nm:List UInt8) (B:Nat) (hl:l.length≤1099511627776) (w:World) (hB:w.heap[B]?=some (.cells #[strV nm] TStr (0,0))) (S:Nat→Prop) (p:Option Addr) (c:Nat) (hp:GCts w S p l):
  Calls Tryz.prog 35 #[.slice p l.length c,.func (.func 36) #[] #[.pointer (some ⟨B,0,none⟩)]] w fun e w'=>e=.returned (.int .i64 (contI l nm))∧KeepBut (fun _=>False) w w':=by
 have HP:=hid hp;have HB:=hid hB
 clear hp hB
 go_enter Tryz.func35,Tryz.ntmps35
 go_wp2_with fail
 go_loopw [8] (fun v8 wr=>∃ k:Nat,v8=.int .i64 k∧k≤l.length∧(∀ j,(hj:j<k)→(h:j<l.length)→(l[j].name==nm)=false)∧KeepBut (fun _=>False) w wr) (fun v _=>l.length - (intOf v).toNat)
 case atStart=>exact ⟨0,rfl,Nat.zero_le _,fun j h=>absurd h (Nat.not_lt_zero _),KeepBut.refl _ _⟩
 case round=>
  obtain ⟨k,rfl,hk,hall,hkk⟩:=hrel
  have HALL:=hid hall;have HK:=hid hkk
  by_cases hlt:k<l.length
  ·have hlti:(k:Int)<l.length:=by omega
   have hi0:(0:Int)≤k:=by omega
   have hWi:IntKind.i64.wrap ((k:Int)+1)=(k:Int)+1:=IntWalk.i64_in _ (by omega)
   obtain ⟨g,o,hp,-,y0,y1,y2,y3⟩:=(HP.out.keep hkk fun _ _ e=>e) k hlt
   subst hp
   have HFN:=hid (contFn_any l[k] nm B wr (hkk.blk HB.out))
   obtain ⟨a,ha⟩:∃ a,(l[k].name==nm)=a:=⟨_,rfl⟩
   have HA:=hid ha
   rw [ha] at HFN
   obtain ⟨S1,hS1⟩:∃ s,strV l[k].name=.string s:=⟨_,rfl⟩
   obtain ⟨i1,hi1⟩:∃ s,l[k].kind=s:=⟨_,rfl⟩
   obtain ⟨i2,hi2⟩:∃ s,l[k].line=s:=⟨_,rfl⟩
   obtain ⟨i3,hi3⟩:∃ s,l[k].col=s:=⟨_,rfl⟩
   unfold gcV at HFN
   rw [hS1,hi1,hi2,hi3] at HFN
   rw [hi1] at y0
   rw [hS1] at y1
   rw [hi2] at y2
   rw [hi3] at y3
   clear hS1 hi1 hi2 hi3
   clear hkk hall ha
   cases a with
   | false=>
    go_wp2_with (go_at_call 36;refine HFN.out.mono ?_;rintro e w2 ⟨rfl,hk2⟩;have HK2:=hid hk2;clear hk2)
    exact ⟨⟨k+1,by simp,by omega,fun j hj h=>by
     by_cases e:j=k
     ·subst e;exact HA.out
     ·exact HALL.out j (by omega) h,HK.out.trans HK2.out⟩,by simp only [intOf];omega⟩
   | true=>
    go_wp2_with (go_at_call 36;refine HFN.out.mono ?_;rintro e w2 ⟨rfl,hk2⟩;have HK2:=hid hk2;clear hk2)
    go_ret
    exact ⟨by rw [contI_hit hlt HA.out HALL.out];rfl,HK.out.trans HK2.out⟩
  ·have hnl:¬(k:Int)<l.length:=by omega
   clear hkk hall
   go_wp2_with fail
   go_ret
   exact ⟨by rw [contI_miss fun j hj=>HALL.out j (by omega) hj];rfl,HK.out⟩
set_option maxHeartbeats 8000000 in
theorem cont_any (p:Gp) (nm:List UInt8) (hl:p.conts.length≤1099511627776) (w:World) (S:Nat→Prop) (v:Value) (hp:PAt w S v p):
  Calls Tryz.prog 22 #[v,strV nm] w fun e w'=>e=.returned (.int .i64 (contI p.conts nm))∧KeepBut (fun _=>False) w w':=by
 obtain ⟨p1,c1,p2,c2,rfl,hc,-⟩:=hp
 obtain ⟨V1,B1,hV1,hB1,hb1,hk1,hs1⟩:=fresh_block w (.cells #[.int .i64 p.pool,.slice p1 p.conts.length c1,.slice p2 p.threads.length c2] 25)
 obtain ⟨V,B2,hV,hB2,hb2,hk2,hs2⟩:=fresh_block V1 (.cells #[strV nm] TStr)
 have HI:=hid (contAt_any p.conts nm B2 hl V hb2 S p1 c1 ((hc.keep hk1 fun _ _ e=>e).keep hk2 fun _ _ e=>e))
 have HK:=hid (hk1.trans hk2)
 have h12:B1+1=B2:=by omega
 obtain ⟨n0,n1,n2,-⟩:=blk3f (hk2.blk hb1)
 obtain ⟨N,hN⟩:∃ N:Int,(p.pool:Int)=N:=⟨_,rfl⟩
 rw [hN] at hV1 n0 ⊢
 unfold strV at hV ⊢
 clear hc hb1 hb2 hk1 hk2 hs1 hs2 hN
 go_enter Tryz.func22,Tryz.ntmps22
 go_upto_region 1 with fail
 rw [←hV1,←hB1,←hV,h12]
 clear hV1 hB1 hV hB2 h12
 go_wp2_with (go_at_call 35;refine HI.out.mono ?_;rintro e w5 ⟨rfl,hk5⟩;have HK5:=hid hk5;clear hk5)
 go_ret
 exact ⟨rfl,HK.out.trans HK5.out⟩
/-
  Maps whose keys are texts: what a block holds, and what each operation on it does. No program in sight.
-/
def mixS (k:List UInt8):List (List UInt8 × Value)→Nat→Option (Nat × Value)
 | [],_=>none
 | p::l,i=>if p.1=k then some (i,p.2) else mixS k l (i+1)
/-- what lies behind a key -/
def mgetS (l:List (List UInt8 × Value)) (k:List UInt8):Option Value:=(mixS k l 0).map (·.2)
def msetS (l:List (List UInt8 × Value)) (k:List UInt8) (v:Value):List (List UInt8 × Value):=match mixS k l 0 with
 | some (i,_)=>l.set i (k,v)
 | none=>l++[(k,v)]
theorem mix_shiftS (k:List UInt8):∀ (l:List (List UInt8 × Value)) (i:Nat),mixS k l i=(mixS k l 0).map fun p=>(p.1+i,p.2)
 | [],_=>rfl
 | p::l,i=>by
  unfold mixS
  split
  ·simp
  ·rw [mix_shiftS k l (i+1),mix_shiftS k l (0+1)]
   cases mixS k l 0 <;> simp
   omega
theorem mix_noneS {k:List UInt8} {l:List (List UInt8 × Value)} {i:Nat}:mixS k l i=none↔∀ p∈l,p.1≠k:=by
 induction l generalizing i with
 | nil=>simp [mixS]
 | cons p l ih=>
  unfold mixS
  split
  ·rename_i h;simp [h]
  ·rename_i h;simp [ih,h]
theorem mix_someS {k:List UInt8} {l:List (List UInt8 × Value)} {i:Nat} {v:Value} (h:mixS k l 0=some (i,v)):l[i]?=some (k,v):=by
 induction l generalizing i with
 | nil=>simp [mixS] at h
 | cons p l ih=>
  unfold mixS at h
  split at h
  ·rename_i hp
   simp only [Option.some.injEq,Prod.mk.injEq] at h
   obtain ⟨rfl,rfl⟩:=h
   simp [←hp]
  ·rw [mix_shiftS] at h
   cases hm:mixS k l 0 with
   | none=>simp [hm] at h
   | some q=>
    obtain ⟨j,u⟩:=q
    simp only [hm,Option.map_some,Option.some.injEq,Prod.mk.injEq] at h
    obtain ⟨rfl,rfl⟩:=h
    simpa using ih hm
theorem mget_consS (p:List UInt8 × Value) (l:List (List UInt8 × Value)) (k:List UInt8):mgetS (p::l) k=if p.1=k then some p.2 else mgetS l k:=by
 show (if p.1=k then some (0,p.2) else mixS k l (0+1)).map (·.2)=if p.1=k then some p.2 else (mixS k l 0).map (·.2)
 split
 ·rfl
 ·rw [mix_shiftS]
  cases mixS k l 0 <;> simp
theorem mget_appendS (l m:List (List UInt8 × Value)) (k:List UInt8):mgetS (l++m) k=(mgetS l k).or (mgetS m k):=by
 induction l with
 | nil=>simp [mgetS,mixS]
 | cons p l ih=>rw [List.cons_append,mget_consS,mget_consS,ih];split <;> simp
theorem mset_nodupS {l:List (List UInt8 × Value)} (hd:(l.map (·.1)).Nodup) (k:List UInt8) (v:Value):((msetS l k v).map (·.1)).Nodup:=by
 unfold msetS
 cases hm:mixS k l 0 with
 | some p=>
  obtain ⟨i,u⟩:=p
  have h:=mix_someS hm
  have:(l.set i (k,v)).map (·.1)=l.map (·.1):=by
   apply List.ext_getElem?
   intro n
   rw [List.getElem?_map,List.getElem?_set,List.getElem?_map]
   split
   ·rename_i hn
    subst hn
    rw [h]
    split <;> simp_all
   ·rfl
  simp only
  rw [this];exact hd
 | none=>
  simp only [List.map_append,List.map_cons,List.map_nil]
  rw [List.nodup_append]
  refine ⟨hd,by simp,?_⟩
  intro a ha b hb
  simp only [List.mem_singleton] at hb
  subst hb
  obtain ⟨p,hp,rfl⟩:=List.mem_map.1 ha
  exact mix_noneS.1 hm p hp
/-- The block b is a map, and holds exactly l. -/
def MapS (w:World) (b:Nat) (l:List (List UInt8 × Value)):Prop:=
 (l.map (·.1)).Nodup∧∃ es clock,w.heap[b]?=some (.map es clock)∧es.toList.map (fun e=>(e.key,e.val))=l.map (fun p=>(strV p.1,p.2))
section
variable {P : Program} {w : World} {b : Nat} {l : List (List UInt8 × Value)}
theorem MapS.of_same {w':World} (h:MapS w b l) (hb:w'.heap[b]?=w.heap[b]?):MapS w' b l:=by
 obtain ⟨h1,es,c,h2,h3⟩:=h
 exact ⟨h1,es,c,hb.trans h2,h3⟩
theorem MapS.lt (h:MapS w b l):b<w.heap.size:=by
 obtain ⟨h1,es,c,h2,h3⟩:=h
 rcases Nat.lt_or_ge b w.heap.size with h' | h'
 ·exact h'
 ·rw [Array.getElem?_eq_none h'] at h2;cases h2
theorem findNow_mixS (k:List UInt8):∀ (es:List MapEntry) (l:List (List UInt8 × Value)) (i:Nat),es.map (fun e=>(e.key,e.val))=l.map (fun p=>(strV p.1,p.2))→Instr.findNow .string (strV k) es i=some (mixS k l i)
 | [],[],_,_=>rfl
 | [],p::l,_,h=>by simp at h
 | e::es,[],_,h=>by simp at h
 | e::es,p::l,i,h=>by
  simp only [List.map_cons,List.cons.injEq,Prod.mk.injEq] at h
  obtain ⟨⟨h1,h2⟩,h3⟩:=h
  unfold Instr.findNow mixS
  rw [h1]
  have hs:Instr.sameNow .string (strV k) (strV p.1)=some (decide (p.1=k)):=by
   show some ((⟨k.toArray⟩:ByteArray)==(⟨p.1.toArray⟩:ByteArray))=_
   congr 1
   rw [Bool.eq_iff_iff,MapKept.bytes_beq,decide_eq_true_iff]
   constructor
   ·intro h
    have h:=congrArg (fun x:ByteArray=>x.data.toList) h
    simpa using h.symm
   ·rintro rfl;rfl
  rw [hs]
  by_cases hk:p.1=k
  ·subst hk;simp [h2]
  ·simp only [decide_eq_false hk,if_neg hk]
   exact findNow_mixS k es l (i+1) h3
theorem run_makeMapS (t:TypeId) (w:World):(Instr.makeMap t none).run P w=.ok (.map (some w.heap.size)) (w.alloc (.map #[] 0)):=by
 simp [Instr.makeMap,Result.andThen]
theorem MapS.look (h:MapS w b l) {mt kt e:TypeId} (ht:P.underlying mt=some (.map kt e)) (hk:P.underlying kt=some .string) (k:List UInt8) (z:Value) (hz:(zeroValue e).run P w=.ok z w):
  (Instr.lookup mt (.map (some b)) (strV k) false).run P w=.ok ((mgetS l k).getD z) w:=by
 obtain ⟨h1,es,c,h2,h3⟩:=h
 have hf:=findNow_mixS k es.toList l 0 h3
 have hr:=MapKept.run_findKey (w:=w) hk hf
 have hc:=MapKept.run_checkKey (w:=w) (k:=strV k) hk (by simp [MapKept.IsKey,strV]) es.isEmpty 9999
 cases hm:mixS k l 0 with
 | some p=>
  rw [hm] at hr
  simp [Instr.lookup,run_underlying ht,MapKept.run_getObj_map h2,Result.andThen,hc,hr,mgetS,hm]
 | none=>
  rw [hm] at hr
  simp [Instr.lookup,run_underlying ht,MapKept.run_getObj_map h2,Result.andThen,hc,hr,mgetS,hm,hz]
theorem heap_putS (w:World) (b:Nat) (o:Obj):KeepBut (fun k=>k=b) w { w with heap:=w.heap.setIfInBounds b o }:=
 ⟨rfl,rfl,rfl,by simp,fun k _ hn=>by simp [Array.getElem?_setIfInBounds_ne (fun e=>hn e.symm)]⟩
end
end Go.Proofs.YtknnmidnodeanaaGreatDoor
