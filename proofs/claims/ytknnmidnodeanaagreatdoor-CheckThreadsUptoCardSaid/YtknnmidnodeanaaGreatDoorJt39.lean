/- Joined texts of this work: Argp, Argq, Cap18, Tab18, Trod. -/
import Derived.Test.YtknnmidnodeanaaGreatDoorJt25
import Derived.Test.YtknnmidnodeanaaGreatDoorJt38
import Derived.Test.YtknnmidnodeanaaGreatDoorRows
import Derived.Test.YtknnmidnodeanaaGreatDoorJt10
import Derived.Lib.LaidTab
import Derived.ProofKit
import Derived.OpenShut
import Derived.Lay
import Derived.Stop.Joined
import Derived.Deep.Slices
import Derived.Lib.Fields
import Derived.LaidMore
import Derived.Lib.SmallJoins
/-
  A program that comes as an argument, opened; its size by the bulk of what is read.
-/
namespace Go.Proofs.YtknnmidnodeanaaGreatDoor
open Go Go.ChangeShapes Go.WideShapes Go.ChangeAt Go.RowKit Own
mutual
/-- how much an expression holds, with its names -/
def gW:Gx→Nat
 | .mk _ _ _ nm _ _ kids=>1+nm.length+gWL kids
def gWL:List Gx→Nat
 | []=>0
 | x::l=>gW x+gWL l
end
mutual
def sW:Gs→Nat
 | .mk _ nm _ _ val into cont xs thn els _ _=>1+nm.length+val.length+into.length+cont.length+gWL xs+sWL thn+sWL els
def sWL:List Gs→Nat
 | []=>0
 | x::l=>sW x+sWL l
end
def cWL:List Gc→Nat
 | []=>0
 | c::l=>1+c.name.length+cWL l
def hWL:List (List Gs)→Nat
 | []=>0
 | l::r=>1+sWL l+hWL r
def pW (p:Gp):Nat:=cWL p.conts+hWL p.threads
section
variable {H : Type} {enc : TypeId × Value → H} {W : World} {base : Nat} {sp : Nat → Bool} {held : Bool}
theorem slice_each {fuel:Nat} {t e:TypeId} {n:Nat} (ht:Tryz.prog.underlying t=some (.slice e)) (hn:Tryz.prog.cellsOf e=n) (hn1:0<n) {cs:List Value} {x:DataW H × List MemPlace} (h:DataW.trod enc Tryz.prog W base sp held fuel t cs=some x):
  ∃ (p:Option Addr) (len cap:Nat) (ys:List (DataW H × List MemPlace)),cs=[.slice p len cap]∧ys.length=len∧Rows.uptoBulkAll (ys.map (·.1))+1≤Rows.uptoBulk x.1∧
   ∀ i (hi:i<ys.length),∃ m cs',m<fuel∧DataW.trod enc Tryz.prog W base sp held m e cs'=some ys[i]∧cs'.length=n∧∃ g o,p=some ⟨g,o,none⟩∧∀ j v,cs'[j]?=some v→W.cell? ⟨g,o+i * n+j,none⟩=some v:=by
 rcases DataW.trod_slice ht h with ⟨e4,rfl⟩ | ⟨a,len,cap,elems,rest,q,hq,e4,rfl,hb,hl,hmax,hel,hee,-,-⟩
 ·exact ⟨none,0,0,[],e4,rfl,Nat.le_refl _,fun i hi=>absurd hi (by simp)⟩
 ·obtain ⟨b,off,sp'⟩:=a
  refine ⟨some ⟨b,off,sp'⟩,len,cap,elems,e4,hel,?_,?_⟩
  ·simp only [Rows.uptoBulk]
   omega
  ·intro i hi
   have h1:=hee i (by omega)
   rw [List.getElem?_eq_getElem hi] at h1
   obtain ⟨cs',h2,h3⟩:=Option.bind_eq_some_iff.1 h1
   rw [hn] at h2
   obtain ⟨_,hlen',hcell⟩:=World.cells?_some h2
   have hc:∀ j v,cs'[j]?=some v→W.cell? (((⟨b,off,sp'⟩:Addr).add (i * n)).add j)=some v:=fun j v hj=>by
    rw [hcell j (by have:=(List.getElem?_eq_some_iff.1 hj).1;omega),hj]
   have hs:sp'=none:=by
    have h10:=hee 0 (by omega)
    rw [List.getElem?_eq_getElem (by omega)] at h10
    obtain ⟨cs0,h20,-⟩:=Option.bind_eq_some_iff.1 h10
    rw [hn] at h20
    obtain ⟨_,hlen0,hcell0⟩:=World.cells?_some h20
    have h4:=World.cell?_spot ((hcell0 0 (by omega)).trans (List.getElem?_eq_getElem (by omega)))
    simpa [Addr.add] using h4
   subst hs
   refine ⟨q,cs',by omega,h3,hlen',b,off,rfl,fun j v hj=>?_⟩
   have h5:=hc j v hj
   rw [add_off,add_off] at h5
   exact h5
theorem bulk_pos (d:DataW H):1≤Rows.uptoBulk d:=by
 cases d with
 | lit l=>cases l <;> simp [Rows.uptoBulk]
 | _=>simp [Rows.uptoBulk]
theorem gW_sum:∀ (l:List Gx) (ds:List (DataW H)),l.length=ds.length→(∀ i (h:i<l.length) (h':i<ds.length),gW l[i]≤Rows.uptoBulk ds[i])→gWL l≤Rows.uptoBulkAll ds
 | [],[],_,_=>by unfold gWL;omega
 | x::l,d::ds,hl,h=>by
  have h0:=h 0 (by simp) (by simp)
  have hr:=gW_sum l ds (by simpa using hl) fun i a b=>by
   have:=h (i+1) (by simpa using a) (by simpa using b)
   simpa using this
  simp only [List.getElem_cons_zero] at h0
  unfold gWL
  simp only [Rows.uptoBulkAll]
  omega
 | [],d::ds,hl,_=>by simp at hl
 | x::l,[],hl,_=>by simp at hl
theorem sW_sum:∀ (l:List Gs) (ds:List (DataW H)),l.length=ds.length→(∀ i (h:i<l.length) (h':i<ds.length),sW l[i]≤Rows.uptoBulk ds[i])→sWL l≤Rows.uptoBulkAll ds
 | [],[],_,_=>by unfold sWL;omega
 | x::l,d::ds,hl,h=>by
  have h0:=h 0 (by simp) (by simp)
  have hr:=sW_sum l ds (by simpa using hl) fun i a b=>by
   have:=h (i+1) (by simpa using a) (by simpa using b)
   simpa using this
  simp only [List.getElem_cons_zero] at h0
  unfold sWL
  simp only [Rows.uptoBulkAll]
  omega
 | [],d::ds,hl,_=>by simp at hl
 | x::l,[],hl,_=>by simp at hl
theorem cW_sum:∀ (l:List Gc) (ds:List (DataW H)),l.length=ds.length→(∀ i (h:i<l.length) (h':i<ds.length),1+l[i].name.length≤Rows.uptoBulk ds[i])→cWL l≤Rows.uptoBulkAll ds
 | [],[],_,_=>by unfold cWL;omega
 | x::l,d::ds,hl,h=>by
  have h0:=h 0 (by simp) (by simp)
  have hr:=cW_sum l ds (by simpa using hl) fun i a b=>by
   have:=h (i+1) (by simpa using a) (by simpa using b)
   simpa using this
  simp only [List.getElem_cons_zero] at h0
  unfold cWL
  simp only [Rows.uptoBulkAll]
  omega
 | [],d::ds,hl,_=>by simp at hl
 | x::l,[],hl,_=>by simp at hl
theorem hW_sum:∀ (l:List (List Gs)) (ds:List (DataW H)),l.length=ds.length→(∀ i (h:i<l.length) (h':i<ds.length),1+sWL l[i]≤Rows.uptoBulk ds[i])→hWL l≤Rows.uptoBulkAll ds
 | [],[],_,_=>by unfold hWL;omega
 | x::l,d::ds,hl,h=>by
  have h0:=h 0 (by simp) (by simp)
  have hr:=hW_sum l ds (by simpa using hl) fun i a b=>by
   have:=h (i+1) (by simpa using a) (by simpa using b)
   simpa using this
  simp only [List.getElem_cons_zero] at h0
  unfold hWL
  simp only [Rows.uptoBulkAll]
  omega
 | [],d::ds,hl,_=>by simp at hl
 | x::l,[],hl,_=>by simp at hl
theorem gkids_ofB {w:World} {S:Nat→Prop} {p:Option Addr}:∀ (l:List Gx) (j:Nat),(∀ i (h:i<l.length),∃ g o vs,p=some ⟨g,o,none⟩∧S g∧(∀ k v,vs[k]?=some v→w.cell? ⟨g,o+(j+i) * 7+k,none⟩=some v)∧GAt w S vs l[i])→GKids w S p j l
 | [],_,_=>by unfold GKids;trivial
 | x::l,j,h=>by
  unfold GKids
  refine ⟨?_,gkids_ofB l (j+1) fun i hi=>?_⟩
  ·obtain ⟨g,o,vs,h1,h2,h3,h4⟩:=h 0 (by simp)
   exact ⟨g,o,vs,h1,h2,h3,h4⟩
  ·obtain ⟨g,o,vs,h1,h2,h3,h4⟩:=h (i+1) (by simpa using hi)
   refine ⟨g,o,vs,h1,h2,fun k v hk=>?_,by simpa using h4⟩
   rw [show j+1+i=j+(i+1) by omega]
   exact h3 k v hk
instance : Inhabited Gx := ⟨.mk 0 0 0 [] 0 0 []⟩
instance : Inhabited Gs := ⟨.mk 0 [] 0 0 [] [] [] [] [] [] 0 0⟩
instance : Inhabited Gc := ⟨⟨0, [], 0, 0⟩⟩
theorem str_val (s:ByteArray):(Value.string s)=strV s.data.toList:=by
 unfold strV
 cases s
 simp
theorem fitGL_rng {T:Nat→Gx}:∀ l:List Nat,(∀ i∈l,fitG (T i))→fitGL (l.map T)
 | [],_=>by unfold fitGL;trivial
 | x::l,h=>by
  rw [List.map_cons]
  unfold fitGL
  exact ⟨h x (by simp),fitGL_rng l fun y hy=>h y (by simp [hy])⟩
theorem fitNL_rng {T:Nat→Gs}:∀ l:List Nat,(∀ i∈l,fitN (T i))→fitNL (l.map T)
 | [],_=>by unfold fitNL;trivial
 | x::l,h=>by
  rw [List.map_cons]
  unfold fitNL
  exact ⟨h x (by simp),fitNL_rng l fun y hy=>h y (by simp [hy])⟩
theorem wf_le {m:Int} (hm:(Lit.int .i64 m).wf=true):m≤9223372036854775807:=by
 simp only [Lit.wf,Bool.and_eq_true,decide_eq_true_eq] at hm
 exact hm.2
set_option maxRecDepth 10000 in
/-- an expression, opened -/
theorem exB_open:∀ (fuel:Nat) {cs:List Value} {x:DataW H × List MemPlace},DataW.trod enc Tryz.prog W base sp held fuel 79 cs=some x→
  ∃ g:Gx,GAt W (fun _=>True) cs g∧fitG g∧gW g≤Rows.uptoBulk x.1:=by
 intro fuel
 induction fuel using Nat.strongRecOn with
 | _ fuel ih=>
 intro cs x h
 obtain ⟨xs,n,rfl,rfl,hlen,hxl,hf⟩:=DataW.trod_struct Tryz.underlying79 h
 rw [show Tryz.prog.cellsOf 79=7 by kernel_rfl] at hlen
 have c3:Tryz.prog.cellsOf 3=1:=by kernel_rfl
 have c9:Tryz.prog.cellsOf 9=1:=by kernel_rfl
 have c6:Tryz.prog.cellsOf 2=1:=by kernel_rfl
 have c2:Tryz.prog.cellsOf 62=1:=by kernel_rfl
 match cs,hlen,xs,hxl with
 | [v0,v1,v2,v3,v4,v5,v6],_,[y0,y1,y2,y3,y4,y5,y6],_=>
  have g0:=hf 0 _ rfl
  have g1:=hf 1 _ rfl
  have g2:=hf 2 _ rfl
  have g3:=hf 3 _ rfl
  have g4:=hf 4 _ rfl
  have g5:=hf 5 _ rfl
  have g6:=hf 6 _ rfl
  simp only [List.getElem?_cons_zero,List.getElem?_cons_succ] at g0 g1 g2 g3 g4 g5 g6
  obtain ⟨k,e0,-,_⟩:=DataW.trod_int Tryz.underlying3 g0
  obtain ⟨o,e1,-,_⟩:=DataW.trod_int Tryz.underlying3 g1
  obtain ⟨m,e2,-,hm⟩:=DataW.trod_int Tryz.underlying2 g2
  obtain ⟨s,e3,hy3,_⟩:=DataW.trod_string Tryz.underlying9 g3
  obtain ⟨l,e5,-,_⟩:=DataW.trod_int Tryz.underlying3 g5
  obtain ⟨c,e6,-,_⟩:=DataW.trod_int Tryz.underlying3 g6
  obtain ⟨p,len,cap,ys,e4,hyl,hbk,hys⟩:=slice_each (show Tryz.prog.underlying 62=some (.slice 79) by kernel_rfl) (show Tryz.prog.cellsOf 79=7 by kernel_rfl) (by decide) g4
  cases e0;cases e1;cases e2;cases e3;cases e4;cases e5;cases e6
  have each:∀ i,i<ys.length→∃ t:Gx,(∃ g o vs,p=some ⟨g,o,none⟩∧(∀ j v,vs[j]?=some v→W.cell? ⟨g,o+i * 7+j,none⟩=some v)∧GAt W (fun _=>True) vs t∧fitG t)∧∀ hi:i<ys.length,gW t≤Rows.uptoBulk ys[i].1:=fun i hi=>by
   obtain ⟨q,cs',hq,h3,-,g,o,h4,h5⟩:=hys i hi
   obtain ⟨t,ht,hft,hw⟩:=ih q (by omega) h3
   exact ⟨t,⟨g,o,cs',h4,h5,ht,hft⟩,fun _=>hw⟩
  obtain ⟨T,hT⟩:=Deep.choose_lt each
  refine ⟨.mk k o m s.data.toList l c ((List.range ys.length).map T),?_,?_,?_⟩
  ·unfold GAt
   refine ⟨p,cap,by rw [str_val,←hyl];simp,gkids_ofB _ 0 fun i hi=>?_⟩
   have hi':i<ys.length:=by simpa using hi
   obtain ⟨⟨g,o,vs,h1,h2,h3⟩,-⟩:=hT i hi'
   exact ⟨g,o,vs,h1,trivial,fun j v hj=>by rw [Nat.zero_add];exact h2 j v hj,by simpa using h3.1⟩
  ·unfold fitG
   exact ⟨wf_le hm,fitGL_rng _ fun i hi=>by obtain ⟨⟨-,-,-,-,-,-,h⟩,-⟩:=hT i (by simpa using hi);exact h⟩
  ·have hs:=gW_sum ((List.range ys.length).map T) (ys.map (·.1)) (by simp) fun i h h'=>by
    have hi':i<ys.length:=by simpa using h
    simpa using (hT i hi').2 hi'
   unfold gW
   simp only [List.map_cons,List.map_nil,Rows.uptoBulk,Rows.uptoBulkAll,hy3]
   have:=bulk_pos y0.1
   omega
set_option maxRecDepth 10000 in
/-- a statement, opened -/
theorem stB_open:∀ (fuel:Nat) {cs:List Value} {x:DataW H × List MemPlace},DataW.trod enc Tryz.prog W base sp held fuel 64 cs=some x→
  ∃ g:Gs,SAt W (fun _=>True) cs g∧fitN g∧sW g≤Rows.uptoBulk x.1:=by
 intro fuel
 induction fuel using Nat.strongRecOn with
 | _ fuel ih=>
 intro cs x h
 obtain ⟨xs,n,rfl,rfl,hlen,hxl,hf⟩:=DataW.trod_struct Tryz.underlying64 h
 rw [show Tryz.prog.cellsOf 64=12 by kernel_rfl] at hlen
 have c3:Tryz.prog.cellsOf 3=1:=by kernel_rfl
 have c9:Tryz.prog.cellsOf 9=1:=by kernel_rfl
 have c6:Tryz.prog.cellsOf 2=1:=by kernel_rfl
 have c2:Tryz.prog.cellsOf 62=1:=by kernel_rfl
 have c4:Tryz.prog.cellsOf 34=1:=by kernel_rfl
 match cs,hlen,xs,hxl with
 | [v0,v1,v2,v3,v4,v5,v6,v7,v8,v9,v10,v11],_,[y0,y1,y2,y3,y4,y5,y6,y7,y8,y9,y10,y11],_=>
  have g0:=hf 0 _ rfl
  have g1:=hf 1 _ rfl
  have g2:=hf 2 _ rfl
  have g3:=hf 3 _ rfl
  have g4:=hf 4 _ rfl
  have g5:=hf 5 _ rfl
  have g6:=hf 6 _ rfl
  have g7:=hf 7 _ rfl
  have g8:=hf 8 _ rfl
  have g9:=hf 9 _ rfl
  have g10:=hf 10 _ rfl
  have g11:=hf 11 _ rfl
  simp only [List.getElem?_cons_zero,List.getElem?_cons_succ] at g0 g1 g2 g3 g4 g5 g6 g7 g8 g9 g10 g11
  obtain ⟨k,e0,-,_⟩:=DataW.trod_int Tryz.underlying3 g0
  obtain ⟨nm,e1,z1,_⟩:=DataW.trod_string Tryz.underlying9 g1
  obtain ⟨sz,e2,-,hm⟩:=DataW.trod_int Tryz.underlying2 g2
  obtain ⟨op,e3,-,_⟩:=DataW.trod_int Tryz.underlying3 g3
  obtain ⟨val,e4,z4,_⟩:=DataW.trod_string Tryz.underlying9 g4
  obtain ⟨into,e5,z5,_⟩:=DataW.trod_string Tryz.underlying9 g5
  obtain ⟨cont,e6,z6,_⟩:=DataW.trod_string Tryz.underlying9 g6
  obtain ⟨l,e10,-,_⟩:=DataW.trod_int Tryz.underlying3 g10
  obtain ⟨c,e11,-,_⟩:=DataW.trod_int Tryz.underlying3 g11
  obtain ⟨p1,n1,cap1,ys1,e7,hyl1,hbk1,hys1⟩:=slice_each (show Tryz.prog.underlying 62=some (.slice 79) by kernel_rfl) (show Tryz.prog.cellsOf 79=7 by kernel_rfl) (by decide) g7
  obtain ⟨p2,n2,cap2,ys2,e8,hyl2,hbk2,hys2⟩:=slice_each (show Tryz.prog.underlying 34=some (.slice 64) by kernel_rfl) (show Tryz.prog.cellsOf 64=12 by kernel_rfl) (by decide) g8
  obtain ⟨p3,n3,cap3,ys3,e9,hyl3,hbk3,hys3⟩:=slice_each (show Tryz.prog.underlying 34=some (.slice 64) by kernel_rfl) (show Tryz.prog.cellsOf 64=12 by kernel_rfl) (by decide) g9
  cases e0;cases e1;cases e2;cases e3;cases e4;cases e5;cases e6;cases e7;cases e8;cases e9;cases e10;cases e11
  have each1:∀ i,i<ys1.length→∃ t:Gx,(∃ g o vs,p1=some ⟨g,o,none⟩∧(∀ j v,vs[j]?=some v→W.cell? ⟨g,o+i * 7+j,none⟩=some v)∧GAt W (fun _=>True) vs t∧fitG t)∧∀ hi:i<ys1.length,gW t≤Rows.uptoBulk ys1[i].1:=fun i hi=>by
   obtain ⟨q,cs',hq,h3,-,g,o,h4,h5⟩:=hys1 i hi
   obtain ⟨t,ht,hft,hw⟩:=exB_open q h3
   exact ⟨t,⟨g,o,cs',h4,h5,ht,hft⟩,fun _=>hw⟩
  have each2:∀ i,i<ys2.length→∃ t:Gs,(∃ g o vs,p2=some ⟨g,o,none⟩∧(∀ j v,vs[j]?=some v→W.cell? ⟨g,o+i * 12+j,none⟩=some v)∧SAt W (fun _=>True) vs t∧fitN t)∧∀ hi:i<ys2.length,sW t≤Rows.uptoBulk ys2[i].1:=fun i hi=>by
   obtain ⟨q,cs',hq,h3,-,g,o,h4,h5⟩:=hys2 i hi
   obtain ⟨t,ht,hft,hw⟩:=ih q (by omega) h3
   exact ⟨t,⟨g,o,cs',h4,h5,ht,hft⟩,fun _=>hw⟩
  have each3:∀ i,i<ys3.length→∃ t:Gs,(∃ g o vs,p3=some ⟨g,o,none⟩∧(∀ j v,vs[j]?=some v→W.cell? ⟨g,o+i * 12+j,none⟩=some v)∧SAt W (fun _=>True) vs t∧fitN t)∧∀ hi:i<ys3.length,sW t≤Rows.uptoBulk ys3[i].1:=fun i hi=>by
   obtain ⟨q,cs',hq,h3,-,g,o,h4,h5⟩:=hys3 i hi
   obtain ⟨t,ht,hft,hw⟩:=ih q (by omega) h3
   exact ⟨t,⟨g,o,cs',h4,h5,ht,hft⟩,fun _=>hw⟩
  obtain ⟨T1,hT1⟩:=Deep.choose_lt each1
  obtain ⟨T2,hT2⟩:=Deep.choose_lt each2
  obtain ⟨T3,hT3⟩:=Deep.choose_lt each3
  refine ⟨.mk k nm.data.toList sz op val.data.toList into.data.toList cont.data.toList ((List.range ys1.length).map T1) ((List.range ys2.length).map T2) ((List.range ys3.length).map T3) l c,?_,?_,?_⟩
  ·unfold SAt
   refine ⟨p1,cap1,p2,cap2,p3,cap3,by rw [str_val nm,str_val val,str_val into,str_val cont,←hyl1,←hyl2,←hyl3];simp,gkids_ofB _ 0 fun i hi=>?_,skids_of _ 0 fun i hi=>?_,skids_of _ 0 fun i hi=>?_⟩
   ·have hi':i<ys1.length:=by simpa using hi
    obtain ⟨⟨g,o,vs,h1,h2,h3⟩,-⟩:=hT1 i hi'
    exact ⟨g,o,vs,h1,trivial,fun j v hj=>by rw [Nat.zero_add];exact h2 j v hj,by simpa using h3.1⟩
   ·have hi':i<ys2.length:=by simpa using hi
    obtain ⟨⟨g,o,vs,h1,h2,h3⟩,-⟩:=hT2 i hi'
    exact ⟨g,o,vs,h1,trivial,fun j v hj=>by rw [Nat.zero_add];exact h2 j v hj,by simpa using h3.1⟩
   ·have hi':i<ys3.length:=by simpa using hi
    obtain ⟨⟨g,o,vs,h1,h2,h3⟩,-⟩:=hT3 i hi'
    exact ⟨g,o,vs,h1,trivial,fun j v hj=>by rw [Nat.zero_add];exact h2 j v hj,by simpa using h3.1⟩
  ·unfold fitN
   exact ⟨wf_le hm,fitGL_rng _ fun i hi=>by obtain ⟨⟨-,-,-,-,-,-,h⟩,-⟩:=hT1 i (by simpa using hi);exact h,
    fitNL_rng _ fun i hi=>by obtain ⟨⟨-,-,-,-,-,-,h⟩,-⟩:=hT2 i (by simpa using hi);exact h,
    fitNL_rng _ fun i hi=>by obtain ⟨⟨-,-,-,-,-,-,h⟩,-⟩:=hT3 i (by simpa using hi);exact h⟩
  ·have hs1:=gW_sum ((List.range ys1.length).map T1) (ys1.map (·.1)) (by simp) fun i h h'=>by
    have hi':i<ys1.length:=by simpa using h
    simpa using (hT1 i hi').2 hi'
   have hs2:=sW_sum ((List.range ys2.length).map T2) (ys2.map (·.1)) (by simp) fun i h h'=>by
    have hi':i<ys2.length:=by simpa using h
    simpa using (hT2 i hi').2 hi'
   have hs3:=sW_sum ((List.range ys3.length).map T3) (ys3.map (·.1)) (by simp) fun i h h'=>by
    have hi':i<ys3.length:=by simpa using h
    simpa using (hT3 i hi').2 hi'
   unfold sW
   simp only [List.map_cons,List.map_nil,Rows.uptoBulk,Rows.uptoBulkAll,z1,z4,z5,z6]
   omega
set_option maxRecDepth 10000 in
/-- a container, opened -/
theorem ctB_open {fuel:Nat} {cs:List Value} {x:DataW H × List MemPlace} (h:DataW.trod enc Tryz.prog W base sp held fuel 49 cs=some x):
  ∃ c:Gc,cs=[.int .i64 c.kind,strV c.name,.int .i64 c.line,.int .i64 c.col]∧1+c.name.length≤Rows.uptoBulk x.1:=by
 obtain ⟨xs,n,rfl,rfl,hlen,hxl,hf⟩:=DataW.trod_struct Tryz.underlying49 h
 rw [show Tryz.prog.cellsOf 49=4 by kernel_rfl] at hlen
 have c3:Tryz.prog.cellsOf 3=1:=by kernel_rfl
 have c9:Tryz.prog.cellsOf 9=1:=by kernel_rfl
 match cs,hlen,xs,hxl with
 | [v0,v1,v2,v3],_,[y0,y1,y2,y3],_=>
  have g0:=hf 0 _ rfl
  have g1:=hf 1 _ rfl
  have g2:=hf 2 _ rfl
  have g3:=hf 3 _ rfl
  simp only [List.getElem?_cons_zero,List.getElem?_cons_succ] at g0 g1 g2 g3
  obtain ⟨k,e0,-,_⟩:=DataW.trod_int Tryz.underlying3 g0
  obtain ⟨nm,e1,z1,_⟩:=DataW.trod_string Tryz.underlying9 g1
  obtain ⟨l,e2,-,_⟩:=DataW.trod_int Tryz.underlying3 g2
  obtain ⟨c,e3,-,_⟩:=DataW.trod_int Tryz.underlying3 g3
  cases e0;cases e1;cases e2;cases e3
  refine ⟨⟨k,nm.data.toList,l,c⟩,by rw [str_val nm],?_⟩
  simp only [List.map_cons,List.map_nil,Rows.uptoBulk,Rows.uptoBulkAll,z1]
  omega
set_option maxRecDepth 10000 in
/-- a program, opened -/
theorem prB_open {fuel:Nat} {cs:List Value} {x:DataW H × List MemPlace} (h:DataW.trod enc Tryz.prog W base sp held fuel 25 cs=some x):
  ∃ p:Gp,PAt W (fun _=>True) (.agg cs.toArray) p∧(p.pool≤9223372036854775807∧∀ l∈p.threads,fitNL l)∧pW p≤Rows.uptoBulk x.1:=by
 obtain ⟨xs,n,rfl,rfl,hlen,hxl,hf⟩:=DataW.trod_struct Tryz.underlying25 h
 rw [show Tryz.prog.cellsOf 25=3 by kernel_rfl] at hlen
 have c6:Tryz.prog.cellsOf 2=1:=by kernel_rfl
 have c2:Tryz.prog.cellsOf 22=1:=by kernel_rfl
 have c4:Tryz.prog.cellsOf 23=1:=by kernel_rfl
 match cs,hlen,xs,hxl with
 | [v0,v1,v2],_,[y0,y1,y2],_=>
  have g0:=hf 0 _ rfl
  have g1:=hf 1 _ rfl
  have g2:=hf 2 _ rfl
  simp only [List.getElem?_cons_zero,List.getElem?_cons_succ] at g0 g1 g2
  obtain ⟨pool,e0,-,hm⟩:=DataW.trod_int Tryz.underlying2 g0
  obtain ⟨p1,n1,cap1,ys1,e1,hyl1,hbk1,hys1⟩:=slice_each (show Tryz.prog.underlying 22=some (.slice 49) by kernel_rfl) (show Tryz.prog.cellsOf 49=4 by kernel_rfl) (by decide) g1
  obtain ⟨p2,n2,cap2,ys2,e2,hyl2,hbk2,hys2⟩:=slice_each (show Tryz.prog.underlying 23=some (.slice 34) by kernel_rfl) (show Tryz.prog.cellsOf 34=1 by kernel_rfl) (by decide) g2
  cases e0;cases e1;cases e2
  have each1:∀ i,i<ys1.length→∃ c:Gc,(∃ g o,p1=some ⟨g,o,none⟩∧W.cell? ⟨g,o+i * 4,none⟩=some (.int .i64 c.kind)∧W.cell? ⟨g,o+i * 4+1,none⟩=some (strV c.name)∧W.cell? ⟨g,o+i * 4+2,none⟩=some (.int .i64 c.line)∧W.cell? ⟨g,o+i * 4+3,none⟩=some (.int .i64 c.col))∧∀ hi:i<ys1.length,1+c.name.length≤Rows.uptoBulk ys1[i].1:=fun i hi=>by
   obtain ⟨q,cs',hq,h3,-,g,o,h4,h5⟩:=hys1 i hi
   obtain ⟨c,rfl,hw⟩:=ctB_open h3
   exact ⟨c,⟨g,o,h4,h5 0 _ rfl,h5 1 _ rfl,h5 2 _ rfl,h5 3 _ rfl⟩,fun _=>hw⟩
  have each2:∀ i,i<ys2.length→∃ l:List Gs,(∃ g o q c,p2=some ⟨g,o,none⟩∧W.cell? ⟨g,o+i,none⟩=some (.slice q l.length c)∧SKids W (fun _=>True) q 0 l∧fitNL l)∧∀ hi:i<ys2.length,1+sWL l≤Rows.uptoBulk ys2[i].1:=fun i hi=>by
   obtain ⟨q,cs',hq,h3,-,g,o,h4,h5⟩:=hys2 i hi
   obtain ⟨p3,n3,cap3,ys3,rfl,hyl3,hbk3,hys3⟩:=slice_each (show Tryz.prog.underlying 34=some (.slice 64) by kernel_rfl) (show Tryz.prog.cellsOf 64=12 by kernel_rfl) (by decide) h3
   have each3:∀ i,i<ys3.length→∃ t:Gs,(∃ g o vs,p3=some ⟨g,o,none⟩∧(∀ j v,vs[j]?=some v→W.cell? ⟨g,o+i * 12+j,none⟩=some v)∧SAt W (fun _=>True) vs t∧fitN t)∧∀ hi:i<ys3.length,sW t≤Rows.uptoBulk ys3[i].1:=fun i hi=>by
    obtain ⟨q,cs',hq,h3,-,g,o,h4,h5⟩:=hys3 i hi
    obtain ⟨t,ht,hft,hw⟩:=stB_open q h3
    exact ⟨t,⟨g,o,cs',h4,h5,ht,hft⟩,fun _=>hw⟩
   obtain ⟨T3,hT3⟩:=Deep.choose_lt each3
   have hs3:=sW_sum ((List.range ys3.length).map T3) (ys3.map (·.1)) (by simp) fun i h h'=>by
    have hi':i<ys3.length:=by simpa using h
    simpa using (hT3 i hi').2 hi'
   refine ⟨(List.range ys3.length).map T3,⟨g,o,p3,cap3,h4,?_,skids_of _ 0 fun j hj=>?_,fitNL_rng _ fun i hi=>by obtain ⟨⟨-,-,-,-,-,-,h⟩,-⟩:=hT3 i (by simpa using hi);exact h⟩,fun _=>by omega⟩
   ·have h6:=h5 0 _ rfl
    rw [Nat.mul_one,Nat.add_zero] at h6
    rw [h6,←hyl3]
    simp
   ·have hj':j<ys3.length:=by simpa using hj
    obtain ⟨⟨g,o,vs,h1,h2,h3⟩,-⟩:=hT3 j hj'
    exact ⟨g,o,vs,h1,trivial,fun k v hk=>by rw [Nat.zero_add];exact h2 k v hk,by simpa using h3.1⟩
  obtain ⟨T1,hT1⟩:=Deep.choose_lt each1
  obtain ⟨T2,hT2⟩:=Deep.choose_lt each2
  have hs1:=cW_sum ((List.range ys1.length).map T1) (ys1.map (·.1)) (by simp) fun i h h'=>by
   have hi':i<ys1.length:=by simpa using h
   simpa using (hT1 i hi').2 hi'
  have hs2:=hW_sum ((List.range ys2.length).map T2) (ys2.map (·.1)) (by simp) fun i h h'=>by
   have hi':i<ys2.length:=by simpa using h
   simpa using (hT2 i hi').2 hi'
  refine ⟨⟨pool,(List.range ys1.length).map T1,(List.range ys2.length).map T2⟩,⟨p1,cap1,p2,cap2,by rw [←hyl1,←hyl2];simp,fun i hi=>?_,fun i hi=>?_⟩,⟨wf_le hm,fun l hl=>?_⟩,?_⟩
  ·have hi':i<ys1.length:=by simpa using hi
   obtain ⟨⟨g,o,h1,h2,h3,h4,h5⟩,-⟩:=hT1 i hi'
   exact ⟨g,o,h1,trivial,by simpa using h2,by simpa using h3,by simpa using h4,by simpa using h5⟩
  ·have hi':i<ys2.length:=by simpa using hi
   obtain ⟨⟨g,o,q,c,h1,h2,h3⟩,-⟩:=hT2 i hi'
   exact ⟨g,o,q,c,h1,trivial,by simpa using h2,by simpa using h3.1⟩
  ·obtain ⟨i,hi,rfl⟩:=List.mem_map.1 hl
   obtain ⟨⟨-,-,-,-,-,-,-,h⟩,-⟩:=hT2 i (by simpa using hi)
   exact h
  ·unfold pW
   simp only [List.map_cons,List.map_nil,Rows.uptoBulk,Rows.uptoBulkAll]
   omega
end
/-
  What a program holds is bounded by how much it holds with its names.
-/
open Go Go.RowKit Own
mutual
theorem gSize_W:∀ x:Gx,gSize x≤gW x
 | .mk _ _ _ nm _ _ kids=>by
  unfold gSize gW
  have:=gSizeL_W kids
  omega
theorem gSizeL_W:∀ l:List Gx,gSizeL l≤gWL l
 | []=>by unfold gSizeL gWL;omega
 | x::l=>by
  unfold gSizeL gWL
  have:=gSize_W x
  have:=gSizeL_W l
  omega
end
mutual
theorem sSize_W:∀ x:Gs,sSize x≤sW x
 | .mk _ nm _ _ val into cont xs thn els _ _=>by
  unfold sSize sW
  have:=gSizeL_W xs
  have:=sSizeL_W thn
  have:=sSizeL_W els
  omega
theorem sSizeL_W:∀ l:List Gs,sSizeL l≤sWL l
 | []=>by unfold sSizeL sWL;omega
 | x::l=>by
  unfold sSizeL sWL
  have:=sSize_W x
  have:=sSizeL_W l
  omega
end
mutual
theorem fitS_W:∀ x:Gs,sW x≤1099511627776→fitS x
 | .mk _ nm _ _ val into cont xs thn els _ _,h=>by
  unfold sW at h
  unfold fitS
  exact ⟨by omega,fitSL_W thn (by omega),fitSL_W els (by omega)⟩
theorem fitSL_W:∀ l:List Gs,sWL l≤1099511627776→fitSL l
 | [],_=>by unfold fitSL;trivial
 | x::l,h=>by
  unfold sWL at h
  unfold fitSL
  exact ⟨fitS_W x (by omega),fitSL_W l (by omega)⟩
end
theorem hSize_W:∀ l:List (List Gs),hSize l+l.length≤hWL l
 | []=>by unfold hSize hWL;simp
 | x::l=>by
  unfold hSize hWL
  have:=sSizeL_W x
  have:=hSize_W l
  rw [List.length_cons]
  omega
theorem cLen_W:∀ l:List Gc,l.length≤cWL l
 | []=>by unfold cWL;simp
 | x::l=>by
  unfold cWL
  have:=cLen_W l
  rw [List.length_cons]
  omega
theorem hW_mem:∀ {l:List (List Gs)} {x:List Gs},x∈l→sWL x≤hWL l
 | y::l,x,h=>by
  unfold hWL
  rcases List.mem_cons.1 h with rfl | h
  ·omega
  ·have:=hW_mem h
   omega
/-- what a program of small bulk is -/
theorem prog_fits {p:Gp} {N:Nat} (h:pW p≤N) (hN:N≤1048576):hSize p.threads≤1048576∧p.conts.length≤1048576∧p.threads.length≤1048576∧∀ l∈p.threads,fitSL l∧sSizeL l≤1048576:=by
 unfold pW at h
 have h1:=hSize_W p.threads
 have h2:=cLen_W p.conts
 refine ⟨by omega,by omega,by omega,fun l hl=>?_⟩
 have h3:=hW_mem hl
 have h4:=sSizeL_W l
 exact ⟨fitSL_W l (by omega),by omega⟩
/-
  The room of a program's threads, as the reading of its argument tells it.
-/
section
variable {H : Type} {enc : TypeId × Value → H} {W : World} {base : Nat} {sp : Nat → Bool} {held : Bool}
set_option maxRecDepth 10000 in
theorem prB_cap {fuel:Nat} {cs:List Value} {x:DataW H × List MemPlace} (h:DataW.trod enc Tryz.prog W base sp held fuel 25 cs=some x) {p:Option Addr} {n c:Nat} (hc:cs[2]?=some (.slice p n c)):n≤c∧c≤9223372036854775807:=by
 obtain ⟨xs,m,rfl,rfl,hlen,hxl,hf⟩:=DataW.trod_struct Tryz.underlying25 h
 rw [show Tryz.prog.cellsOf 25=3 by kernel_rfl] at hlen
 have c6:Tryz.prog.cellsOf 2=1:=by kernel_rfl
 have c2:Tryz.prog.cellsOf 22=1:=by kernel_rfl
 have c4:Tryz.prog.cellsOf 23=1:=by kernel_rfl
 match cs,hlen,xs,hxl with
 | [v0,v1,v2],_,[y0,y1,y2],_=>
  have g2:=hf 2 _ rfl
  simp only [List.getElem?_cons_zero,List.getElem?_cons_succ] at g2
  simp only [List.getElem?_cons_succ,List.getElem?_cons_zero,Option.some.injEq] at hc
  subst hc
  rcases DataW.trod_slice (show Tryz.prog.underlying 23=some (.slice 34) by kernel_rfl) g2 with ⟨e4,-⟩ | ⟨a,len,cap,elems,rest,q,hq,e4,-,hb,hl,hmax,-⟩
  ·cases e4;omega
  ·cases e4
   exact ⟨hl,hmax⟩
end
/-
  What the rows' condition gives the walks: the table of blanks.
-/
open Go Go.ChangeShapes Go.WideShapes Go.ChangeAt Go.RowKit
theorem Tryz.own:ownKnob Tryz.prog.godebug=none:=by kernel_rfl
theorem Tryz.laidOut:laidOutB Tryz.prog=true:=by kernel_rfl
theorem tabs_of_laid {W:World} (h:laidMetH Tryz.prog Rows.checkThreadsRow.laid W):TabS W:=by
 rw [MakeChecks.laidMetH_plain _ _ _ (by kernel_rfl)] at h
 obtain ⟨ps,⟨g0,t0,cs0,f0,p0,q0,hg0,ht0,hv0,hd0,⟨g4,t4,cs4,f4,p4,q4,hg4,ht4,hv4,hd4,_,_⟩,_⟩,_,_⟩:=h
 obtain rfl := Option.some.inj ((show Tryz.prog.globalNamed "strings.asciiSpace" = some 0 by kernel_rfl).symm.trans hg4)
 obtain rfl:=Option.some.inj ((show (Tryz.prog.globals[0]?).map (·.type)=some 157 by kernel_rfl).symm.trans ht4)
 unfold TabS Lib.TabIs
 have e:(Rows.laid_strings_asciiSpace:DataW Unit)=Lib.tabData .u8 Lib.asciiSpaceTab:=by kernel_rfl
 rw [e] at hd4
 rw [hv4,←Lib.cells_of_tab Tryz.underlying157 Tryz.underlying5 (by kernel_rfl) (by kernel_rfl) hd4]
/-
  Arguments of the statements: lists of arguments behind a call that only makes memory.
-/
theorem trodAll_below {H:Type} {enc:TypeId × Value→H} {P:Program} {W W':World} (hl:laidOutB P=true) (hb:Below W.heap.size W W'):∀ (ts:List TypeId) (vs:List Value) (ds:List (DataW H)) (ps:List MemPlace),
  (ts.all fun t=>P.readableRec t && decide (t<P.types.size))=true→DataW.TrodAll enc P W 0 (fun _=>true) true ts vs ds ps→(∀ x∈ps,x.block<W.heap.size)→DataW.TrodAll enc P W' 0 (fun b=>decide (b<W.heap.size)) true ts vs ds ps
 | [],[],[],_,_,h,_=>h
 | t::ts,v::vs,d::ds,ps,hr,h,hlt=>by
  obtain ⟨p,q,h1,h2,e⟩:=h
  simp only [List.all_cons,Bool.and_eq_true,decide_eq_true_eq] at hr
  exact ⟨p,q,Below.trod hl hr.1.1 hr.1.2 h1 hb (fun x hx=>hlt x (by rw [e];exact List.mem_append_left _ hx)),trodAll_below hl hb ts vs ds q hr.2 h2 (fun x hx=>hlt x (by rw [e];exact List.mem_append_right _ hx)),e⟩
 | [],_::_,_,_,_,h,_=>h.elim
 | [],[],_::_,_,_,h,_=>h.elim
 | _::_,[],_,_,_,h,_=>h.elim
 | _::_,_::_,[],_,_,h,_=>h.elim
/-- the head of a list of arguments -/
theorem trodAll_head {H:Type} {enc:TypeId × Value→H} {P:Program} {W:World} {sp:Nat→Bool} {t:TypeId} {ts:List TypeId} {vs:List Value} {ds:List (DataW H)} {ps:List MemPlace}
  (h:DataW.TrodAll enc P W 0 sp true (t::ts) vs ds ps):∃ v vs' d ds' p q,vs=v::vs'∧ds=d::ds'∧DataW.Trod enc P W 0 sp true t v d p∧DataW.TrodAll enc P W 0 sp true ts vs' ds' q:=by
 match vs,ds,h with
 | v::vs',d::ds',⟨p,q,h1,h2,_⟩=>exact ⟨v,vs',d,ds',p,q,rfl,rfl,h1,h2⟩
 | [],[],h=>exact h.elim
 | [],_::_,h=>exact h.elim
 | _::_,[],h=>exact h.elim
theorem trodAll_end {H:Type} {enc:TypeId × Value→H} {P:Program} {W:World} {sp:Nat→Bool} {vs:List Value} {ds:List (DataW H)} {ps:List MemPlace}
  (h:DataW.TrodAll enc P W 0 sp true [] vs ds ps):vs=[]∧ds=[]:=by
 match vs,ds,h with
 | [],[],_=>exact ⟨rfl,rfl⟩
 | [],_::_,h=>exact h.elim
 | _::_,_,h=>exact h.elim
end Go.Proofs.YtknnmidnodeanaaGreatDoor
