/- Joined texts of this work: Argp, Argq, Np6, Own2, Own5. -/
import Derived.Test.YtomlffobbkcmdaaGreatDoorJq27
import Derived.Test.YtomlffobbkcmdaaGreatDoorJq24
import Derived.Test.YtomlffobbkcmdaaGreatDoorJq15
import Derived.Test.YtomlffobbkcmdaaGreatDoorRows
import Derived.Test.YtomlffobbkcmdaaGreatDoorJq17
import Derived.Lib.LaidTab
import Derived.ProofKit
import Derived.OpenShut
import Derived.Lay
import Derived.Stop.Joined
import Derived.Deep.Slices
import Derived.Test.YtomlffobbkcmdaaGreatDoorJq29
import Derived.Test.YtomlffobbkcmdaaGreatDoorJq19
/-
  A program that comes as an argument, opened; its size by the bulk of what is read.
-/
namespace Go.Proofs.YtomlffobbkcmdaaGreatDoor
open Go Go.ChangeShapes Go.WideShapes Go.ChangeAt Go.RowKit Own
mutual
/-- how much an expression holds, with its names -/
def gW:Gx→Nat
 | .mk _ _ _ nm _ _ kids=>1+nm.length+gWL kids
def gWL:List Gx→Nat
 | []=>0
 | x::l=>gW x+gWL l
end
mutual
def sW:Gs→Nat
 | .mk _ nm _ _ val into cont xs thn els _ _=>1+nm.length+val.length+into.length+cont.length+gWL xs+sWL thn+sWL els
def sWL:List Gs→Nat
 | []=>0
 | x::l=>sW x+sWL l
end
def cWL:List Gc→Nat
 | []=>0
 | c::l=>1+c.name.length+cWL l
def hWL:List (List Gs)→Nat
 | []=>0
 | l::r=>1+sWL l+hWL r
def pW (p:Gp):Nat:=cWL p.conts+hWL p.threads
section
variable {H : Type} {enc : TypeId × Value → H} {W : World} {base : Nat} {sp : Nat → Bool} {held : Bool}
theorem slice_each {fuel:Nat} {t e:TypeId} {n:Nat} (ht:Tryz.prog.underlying t=some (.slice e)) (hn:Tryz.prog.cellsOf e=n) (hn1:0<n) {cs:List Value} {x:DataW H × List MemPlace} (h:DataW.trod enc Tryz.prog W base sp held fuel t cs=some x):
  ∃ (p:Option Addr) (len cap:Nat) (ys:List (DataW H × List MemPlace)),cs=[.slice p len cap]∧ys.length=len∧Rows.uptoBulkAll (ys.map (·.1))+1≤Rows.uptoBulk x.1∧
   ∀ i (hi:i<ys.length),∃ m cs',m<fuel∧DataW.trod enc Tryz.prog W base sp held m e cs'=some ys[i]∧cs'.length=n∧∃ g o,p=some ⟨g,o,none⟩∧∀ j v,cs'[j]?=some v→W.cell? ⟨g,o+i * n+j,none⟩=some v:=by
 rcases DataW.trod_slice ht h with ⟨e4,rfl⟩ | ⟨a,len,cap,elems,rest,q,hq,e4,rfl,hb,hl,hmax,hel,hee,-,-⟩
 ·exact ⟨none,0,0,[],e4,rfl,Nat.le_refl _,fun i hi=>absurd hi (by simp)⟩
 ·obtain ⟨b,off,sp'⟩:=a
  refine ⟨some ⟨b,off,sp'⟩,len,cap,elems,e4,hel,?_,?_⟩
  ·simp only [Rows.uptoBulk]
   omega
  ·intro i hi
   have h1:=hee i (by omega)
   rw [List.getElem?_eq_getElem hi] at h1
   obtain ⟨cs',h2,h3⟩:=Option.bind_eq_some_iff.1 h1
   rw [hn] at h2
   obtain ⟨_,hlen',hcell⟩:=World.cells?_some h2
   have hc:∀ j v,cs'[j]?=some v→W.cell? (((⟨b,off,sp'⟩:Addr).add (i * n)).add j)=some v:=fun j v hj=>by
    rw [hcell j (by have:=(List.getElem?_eq_some_iff.1 hj).1;omega),hj]
   have hs:sp'=none:=by
    have h10:=hee 0 (by omega)
    rw [List.getElem?_eq_getElem (by omega)] at h10
    obtain ⟨cs0,h20,-⟩:=Option.bind_eq_some_iff.1 h10
    rw [hn] at h20
    obtain ⟨_,hlen0,hcell0⟩:=World.cells?_some h20
    have h4:=World.cell?_spot ((hcell0 0 (by omega)).trans (List.getElem?_eq_getElem (by omega)))
    simpa [Addr.add] using h4
   subst hs
   refine ⟨q,cs',by omega,h3,hlen',b,off,rfl,fun j v hj=>?_⟩
   have h5:=hc j v hj
   rw [add_off,add_off] at h5
   exact h5
theorem bulk_pos (d:DataW H):1≤Rows.uptoBulk d:=by
 cases d with
 | lit l=>cases l <;> simp [Rows.uptoBulk]
 | _=>simp [Rows.uptoBulk]
theorem gW_sum:∀ (l:List Gx) (ds:List (DataW H)),l.length=ds.length→(∀ i (h:i<l.length) (h':i<ds.length),gW l[i]≤Rows.uptoBulk ds[i])→gWL l≤Rows.uptoBulkAll ds
 | [],[],_,_=>by unfold gWL;omega
 | x::l,d::ds,hl,h=>by
  have h0:=h 0 (by simp) (by simp)
  have hr:=gW_sum l ds (by simpa using hl) fun i a b=>by
   have:=h (i+1) (by simpa using a) (by simpa using b)
   simpa using this
  simp only [List.getElem_cons_zero] at h0
  unfold gWL
  simp only [Rows.uptoBulkAll]
  omega
 | [],d::ds,hl,_=>by simp at hl
 | x::l,[],hl,_=>by simp at hl
theorem sW_sum:∀ (l:List Gs) (ds:List (DataW H)),l.length=ds.length→(∀ i (h:i<l.length) (h':i<ds.length),sW l[i]≤Rows.uptoBulk ds[i])→sWL l≤Rows.uptoBulkAll ds
 | [],[],_,_=>by unfold sWL;omega
 | x::l,d::ds,hl,h=>by
  have h0:=h 0 (by simp) (by simp)
  have hr:=sW_sum l ds (by simpa using hl) fun i a b=>by
   have:=h (i+1) (by simpa using a) (by simpa using b)
   simpa using this
  simp only [List.getElem_cons_zero] at h0
  unfold sWL
  simp only [Rows.uptoBulkAll]
  omega
 | [],d::ds,hl,_=>by simp at hl
 | x::l,[],hl,_=>by simp at hl
theorem cW_sum:∀ (l:List Gc) (ds:List (DataW H)),l.length=ds.length→(∀ i (h:i<l.length) (h':i<ds.length),1+l[i].name.length≤Rows.uptoBulk ds[i])→cWL l≤Rows.uptoBulkAll ds
 | [],[],_,_=>by unfold cWL;omega
 | x::l,d::ds,hl,h=>by
  have h0:=h 0 (by simp) (by simp)
  have hr:=cW_sum l ds (by simpa using hl) fun i a b=>by
   have:=h (i+1) (by simpa using a) (by simpa using b)
   simpa using this
  simp only [List.getElem_cons_zero] at h0
  unfold cWL
  simp only [Rows.uptoBulkAll]
  omega
 | [],d::ds,hl,_=>by simp at hl
 | x::l,[],hl,_=>by simp at hl
theorem hW_sum:∀ (l:List (List Gs)) (ds:List (DataW H)),l.length=ds.length→(∀ i (h:i<l.length) (h':i<ds.length),1+sWL l[i]≤Rows.uptoBulk ds[i])→hWL l≤Rows.uptoBulkAll ds
 | [],[],_,_=>by unfold hWL;omega
 | x::l,d::ds,hl,h=>by
  have h0:=h 0 (by simp) (by simp)
  have hr:=hW_sum l ds (by simpa using hl) fun i a b=>by
   have:=h (i+1) (by simpa using a) (by simpa using b)
   simpa using this
  simp only [List.getElem_cons_zero] at h0
  unfold hWL
  simp only [Rows.uptoBulkAll]
  omega
 | [],d::ds,hl,_=>by simp at hl
 | x::l,[],hl,_=>by simp at hl
theorem gkids_ofB {w:World} {S:Nat→Prop} {p:Option Addr}:∀ (l:List Gx) (j:Nat),(∀ i (h:i<l.length),∃ g o vs,p=some ⟨g,o,none⟩∧S g∧(∀ k v,vs[k]?=some v→w.cell? ⟨g,o+(j+i) * 7+k,none⟩=some v)∧GAt w S vs l[i])→GKids w S p j l
 | [],_,_=>by unfold GKids;trivial
 | x::l,j,h=>by
  unfold GKids
  refine ⟨?_,gkids_ofB l (j+1) fun i hi=>?_⟩
  ·obtain ⟨g,o,vs,h1,h2,h3,h4⟩:=h 0 (by simp)
   exact ⟨g,o,vs,h1,h2,h3,h4⟩
  ·obtain ⟨g,o,vs,h1,h2,h3,h4⟩:=h (i+1) (by simpa using hi)
   refine ⟨g,o,vs,h1,h2,fun k v hk=>?_,by simpa using h4⟩
   rw [show j+1+i=j+(i+1) by omega]
   exact h3 k v hk
instance : Inhabited Gx:=⟨.mk 0 0 0 [] 0 0 []⟩
instance : Inhabited Gs:=⟨.mk 0 [] 0 0 [] [] [] [] [] [] 0 0⟩
instance : Inhabited Gc:=⟨⟨0,[],0,0⟩⟩
theorem str_val (s:ByteArray):(Value.string s)=strV s.data.toList:=by
 unfold strV
 cases s
 simp
theorem fitGL_rng {T:Nat→Gx}:∀ l:List Nat,(∀ i∈l,fitG (T i))→fitGL (l.map T)
 | [],_=>by unfold fitGL;trivial
 | x::l,h=>by
  rw [List.map_cons]
  unfold fitGL
  exact ⟨h x (by simp),fitGL_rng l fun y hy=>h y (by simp [hy])⟩
theorem fitNL_rng {T:Nat→Gs}:∀ l:List Nat,(∀ i∈l,fitN (T i))→fitNL (l.map T)
 | [],_=>by unfold fitNL;trivial
 | x::l,h=>by
  rw [List.map_cons]
  unfold fitNL
  exact ⟨h x (by simp),fitNL_rng l fun y hy=>h y (by simp [hy])⟩
theorem wf_le {m:Int} (hm:(Lit.int .i64 m).wf=true):m≤9223372036854775807:=by
 simp only [Lit.wf,Bool.and_eq_true,decide_eq_true_eq] at hm
 exact hm.2
set_option maxRecDepth 10000 in
/-- an expression, opened -/
theorem exB_open:∀ (fuel:Nat) {cs:List Value} {x:DataW H × List MemPlace},DataW.trod enc Tryz.prog W base sp held fuel 24 cs=some x→
  ∃ g:Gx,GAt W (fun _=>True) cs g∧fitG g∧gW g≤Rows.uptoBulk x.1:=by
 intro fuel
 induction fuel using Nat.strongRecOn with
 | _ fuel ih=>
 intro cs x h
 obtain ⟨xs,n,rfl,rfl,hlen,hxl,hf⟩:=DataW.trod_struct Tryz.underlying24 h
 rw [show Tryz.prog.cellsOf 24=7 by kernel_rfl] at hlen
 have c3:Tryz.prog.cellsOf 3=1:=by kernel_rfl
 have c9:Tryz.prog.cellsOf 9=1:=by kernel_rfl
 have c6:Tryz.prog.cellsOf 2=1:=by kernel_rfl
 have c2:Tryz.prog.cellsOf 22=1:=by kernel_rfl
 match cs,hlen,xs,hxl with
 | [v0,v1,v2,v3,v4,v5,v6],_,[y0,y1,y2,y3,y4,y5,y6],_=>
  have g0:=hf 0 _ rfl
  have g1:=hf 1 _ rfl
  have g2:=hf 2 _ rfl
  have g3:=hf 3 _ rfl
  have g4:=hf 4 _ rfl
  have g5:=hf 5 _ rfl
  have g6:=hf 6 _ rfl
  simp only [List.getElem?_cons_zero,List.getElem?_cons_succ] at g0 g1 g2 g3 g4 g5 g6
  obtain ⟨k,e0,-,_⟩:=DataW.trod_int Tryz.underlying3 g0
  obtain ⟨o,e1,-,_⟩:=DataW.trod_int Tryz.underlying3 g1
  obtain ⟨m,e2,-,hm⟩:=DataW.trod_int Tryz.underlying2 g2
  obtain ⟨s,e3,hy3,_⟩:=DataW.trod_string Tryz.underlying9 g3
  obtain ⟨l,e5,-,_⟩:=DataW.trod_int Tryz.underlying3 g5
  obtain ⟨c,e6,-,_⟩:=DataW.trod_int Tryz.underlying3 g6
  obtain ⟨p,len,cap,ys,e4,hyl,hbk,hys⟩:=slice_each (show Tryz.prog.underlying 22=some (.slice 24) by kernel_rfl) (show Tryz.prog.cellsOf 24=7 by kernel_rfl) (by decide) g4
  cases e0;cases e1;cases e2;cases e3;cases e4;cases e5;cases e6
  have each:∀ i,i<ys.length→∃ t:Gx,(∃ g o vs,p=some ⟨g,o,none⟩∧(∀ j v,vs[j]?=some v→W.cell? ⟨g,o+i * 7+j,none⟩=some v)∧GAt W (fun _=>True) vs t∧fitG t)∧∀ hi:i<ys.length,gW t≤Rows.uptoBulk ys[i].1:=fun i hi=>by
   obtain ⟨q,cs',hq,h3,-,g,o,h4,h5⟩:=hys i hi
   obtain ⟨t,ht,hft,hw⟩:=ih q (by omega) h3
   exact ⟨t,⟨g,o,cs',h4,h5,ht,hft⟩,fun _=>hw⟩
  obtain ⟨T,hT⟩:=Deep.choose_lt each
  refine ⟨.mk k o m s.data.toList l c ((List.range ys.length).map T),?_,?_,?_⟩
  ·unfold GAt
   refine ⟨p,cap,by rw [str_val,←hyl];simp,gkids_ofB _ 0 fun i hi=>?_⟩
   have hi':i<ys.length:=by simpa using hi
   obtain ⟨⟨g,o,vs,h1,h2,h3⟩,-⟩:=hT i hi'
   exact ⟨g,o,vs,h1,trivial,fun j v hj=>by rw [Nat.zero_add];exact h2 j v hj,by simpa using h3.1⟩
  ·unfold fitG
   exact ⟨wf_le hm,fitGL_rng _ fun i hi=>by obtain ⟨⟨-,-,-,-,-,-,h⟩,-⟩:=hT i (by simpa using hi);exact h⟩
  ·have hs:=gW_sum ((List.range ys.length).map T) (ys.map (·.1)) (by simp) fun i h h'=>by
    have hi':i<ys.length:=by simpa using h
    simpa using (hT i hi').2 hi'
   unfold gW
   simp only [List.map_cons,List.map_nil,Rows.uptoBulk,Rows.uptoBulkAll,hy3]
   have:=bulk_pos y0.1
   omega
set_option maxRecDepth 10000 in
/-- a statement, opened -/
theorem stB_open:∀ (fuel:Nat) {cs:List Value} {x:DataW H × List MemPlace},DataW.trod enc Tryz.prog W base sp held fuel 58 cs=some x→
  ∃ g:Gs,SAt W (fun _=>True) cs g∧fitN g∧sW g≤Rows.uptoBulk x.1:=by
 intro fuel
 induction fuel using Nat.strongRecOn with
 | _ fuel ih=>
 intro cs x h
 obtain ⟨xs,n,rfl,rfl,hlen,hxl,hf⟩:=DataW.trod_struct Tryz.underlying58 h
 rw [show Tryz.prog.cellsOf 58=12 by kernel_rfl] at hlen
 have c3:Tryz.prog.cellsOf 3=1:=by kernel_rfl
 have c9:Tryz.prog.cellsOf 9=1:=by kernel_rfl
 have c6:Tryz.prog.cellsOf 2=1:=by kernel_rfl
 have c2:Tryz.prog.cellsOf 22=1:=by kernel_rfl
 have c4:Tryz.prog.cellsOf 56=1:=by kernel_rfl
 match cs,hlen,xs,hxl with
 | [v0,v1,v2,v3,v4,v5,v6,v7,v8,v9,v10,v11],_,[y0,y1,y2,y3,y4,y5,y6,y7,y8,y9,y10,y11],_=>
  have g0:=hf 0 _ rfl
  have g1:=hf 1 _ rfl
  have g2:=hf 2 _ rfl
  have g3:=hf 3 _ rfl
  have g4:=hf 4 _ rfl
  have g5:=hf 5 _ rfl
  have g6:=hf 6 _ rfl
  have g7:=hf 7 _ rfl
  have g8:=hf 8 _ rfl
  have g9:=hf 9 _ rfl
  have g10:=hf 10 _ rfl
  have g11:=hf 11 _ rfl
  simp only [List.getElem?_cons_zero,List.getElem?_cons_succ] at g0 g1 g2 g3 g4 g5 g6 g7 g8 g9 g10 g11
  obtain ⟨k,e0,-,_⟩:=DataW.trod_int Tryz.underlying3 g0
  obtain ⟨nm,e1,z1,_⟩:=DataW.trod_string Tryz.underlying9 g1
  obtain ⟨sz,e2,-,hm⟩:=DataW.trod_int Tryz.underlying2 g2
  obtain ⟨op,e3,-,_⟩:=DataW.trod_int Tryz.underlying3 g3
  obtain ⟨val,e4,z4,_⟩:=DataW.trod_string Tryz.underlying9 g4
  obtain ⟨into,e5,z5,_⟩:=DataW.trod_string Tryz.underlying9 g5
  obtain ⟨cont,e6,z6,_⟩:=DataW.trod_string Tryz.underlying9 g6
  obtain ⟨l,e10,-,_⟩:=DataW.trod_int Tryz.underlying3 g10
  obtain ⟨c,e11,-,_⟩:=DataW.trod_int Tryz.underlying3 g11
  obtain ⟨p1,n1,cap1,ys1,e7,hyl1,hbk1,hys1⟩:=slice_each (show Tryz.prog.underlying 22=some (.slice 24) by kernel_rfl) (show Tryz.prog.cellsOf 24=7 by kernel_rfl) (by decide) g7
  obtain ⟨p2,n2,cap2,ys2,e8,hyl2,hbk2,hys2⟩:=slice_each (show Tryz.prog.underlying 56=some (.slice 58) by kernel_rfl) (show Tryz.prog.cellsOf 58=12 by kernel_rfl) (by decide) g8
  obtain ⟨p3,n3,cap3,ys3,e9,hyl3,hbk3,hys3⟩:=slice_each (show Tryz.prog.underlying 56=some (.slice 58) by kernel_rfl) (show Tryz.prog.cellsOf 58=12 by kernel_rfl) (by decide) g9
  cases e0;cases e1;cases e2;cases e3;cases e4;cases e5;cases e6;cases e7;cases e8;cases e9;cases e10;cases e11
  have each1:∀ i,i<ys1.length→∃ t:Gx,(∃ g o vs,p1=some ⟨g,o,none⟩∧(∀ j v,vs[j]?=some v→W.cell? ⟨g,o+i * 7+j,none⟩=some v)∧GAt W (fun _=>True) vs t∧fitG t)∧∀ hi:i<ys1.length,gW t≤Rows.uptoBulk ys1[i].1:=fun i hi=>by
   obtain ⟨q,cs',hq,h3,-,g,o,h4,h5⟩:=hys1 i hi
   obtain ⟨t,ht,hft,hw⟩:=exB_open q h3
   exact ⟨t,⟨g,o,cs',h4,h5,ht,hft⟩,fun _=>hw⟩
  have each2:∀ i,i<ys2.length→∃ t:Gs,(∃ g o vs,p2=some ⟨g,o,none⟩∧(∀ j v,vs[j]?=some v→W.cell? ⟨g,o+i * 12+j,none⟩=some v)∧SAt W (fun _=>True) vs t∧fitN t)∧∀ hi:i<ys2.length,sW t≤Rows.uptoBulk ys2[i].1:=fun i hi=>by
   obtain ⟨q,cs',hq,h3,-,g,o,h4,h5⟩:=hys2 i hi
   obtain ⟨t,ht,hft,hw⟩:=ih q (by omega) h3
   exact ⟨t,⟨g,o,cs',h4,h5,ht,hft⟩,fun _=>hw⟩
  have each3:∀ i,i<ys3.length→∃ t:Gs,(∃ g o vs,p3=some ⟨g,o,none⟩∧(∀ j v,vs[j]?=some v→W.cell? ⟨g,o+i * 12+j,none⟩=some v)∧SAt W (fun _=>True) vs t∧fitN t)∧∀ hi:i<ys3.length,sW t≤Rows.uptoBulk ys3[i].1:=fun i hi=>by
   obtain ⟨q,cs',hq,h3,-,g,o,h4,h5⟩:=hys3 i hi
   obtain ⟨t,ht,hft,hw⟩:=ih q (by omega) h3
   exact ⟨t,⟨g,o,cs',h4,h5,ht,hft⟩,fun _=>hw⟩
  obtain ⟨T1,hT1⟩:=Deep.choose_lt each1
  obtain ⟨T2,hT2⟩:=Deep.choose_lt each2
  obtain ⟨T3,hT3⟩:=Deep.choose_lt each3
  refine ⟨.mk k nm.data.toList sz op val.data.toList into.data.toList cont.data.toList ((List.range ys1.length).map T1) ((List.range ys2.length).map T2) ((List.range ys3.length).map T3) l c,?_,?_,?_⟩
  ·unfold SAt
   refine ⟨p1,cap1,p2,cap2,p3,cap3,by rw [str_val nm,str_val val,str_val into,str_val cont,←hyl1,←hyl2,←hyl3];simp,gkids_ofB _ 0 fun i hi=>?_,skids_of _ 0 fun i hi=>?_,skids_of _ 0 fun i hi=>?_⟩
   ·have hi':i<ys1.length:=by simpa using hi
    obtain ⟨⟨g,o,vs,h1,h2,h3⟩,-⟩:=hT1 i hi'
    exact ⟨g,o,vs,h1,trivial,fun j v hj=>by rw [Nat.zero_add];exact h2 j v hj,by simpa using h3.1⟩
   ·have hi':i<ys2.length:=by simpa using hi
    obtain ⟨⟨g,o,vs,h1,h2,h3⟩,-⟩:=hT2 i hi'
    exact ⟨g,o,vs,h1,trivial,fun j v hj=>by rw [Nat.zero_add];exact h2 j v hj,by simpa using h3.1⟩
   ·have hi':i<ys3.length:=by simpa using hi
    obtain ⟨⟨g,o,vs,h1,h2,h3⟩,-⟩:=hT3 i hi'
    exact ⟨g,o,vs,h1,trivial,fun j v hj=>by rw [Nat.zero_add];exact h2 j v hj,by simpa using h3.1⟩
  ·unfold fitN
   exact ⟨wf_le hm,fitGL_rng _ fun i hi=>by obtain ⟨⟨-,-,-,-,-,-,h⟩,-⟩:=hT1 i (by simpa using hi);exact h,
    fitNL_rng _ fun i hi=>by obtain ⟨⟨-,-,-,-,-,-,h⟩,-⟩:=hT2 i (by simpa using hi);exact h,
    fitNL_rng _ fun i hi=>by obtain ⟨⟨-,-,-,-,-,-,h⟩,-⟩:=hT3 i (by simpa using hi);exact h⟩
  ·have hs1:=gW_sum ((List.range ys1.length).map T1) (ys1.map (·.1)) (by simp) fun i h h'=>by
    have hi':i<ys1.length:=by simpa using h
    simpa using (hT1 i hi').2 hi'
   have hs2:=sW_sum ((List.range ys2.length).map T2) (ys2.map (·.1)) (by simp) fun i h h'=>by
    have hi':i<ys2.length:=by simpa using h
    simpa using (hT2 i hi').2 hi'
   have hs3:=sW_sum ((List.range ys3.length).map T3) (ys3.map (·.1)) (by simp) fun i h h'=>by
    have hi':i<ys3.length:=by simpa using h
    simpa using (hT3 i hi').2 hi'
   unfold sW
   simp only [List.map_cons,List.map_nil,Rows.uptoBulk,Rows.uptoBulkAll,z1,z4,z5,z6]
   omega
set_option maxRecDepth 10000 in
/-- a container, opened -/
theorem ctB_open {fuel:Nat} {cs:List Value} {x:DataW H × List MemPlace} (h:DataW.trod enc Tryz.prog W base sp held fuel 90 cs=some x):
  ∃ c:Gc,cs=[.int .i64 c.kind,strV c.name,.int .i64 c.line,.int .i64 c.col]∧1+c.name.length≤Rows.uptoBulk x.1:=by
 obtain ⟨xs,n,rfl,rfl,hlen,hxl,hf⟩:=DataW.trod_struct Tryz.underlying90 h
 rw [show Tryz.prog.cellsOf 90=4 by kernel_rfl] at hlen
 have c3:Tryz.prog.cellsOf 3=1:=by kernel_rfl
 have c9:Tryz.prog.cellsOf 9=1:=by kernel_rfl
 match cs,hlen,xs,hxl with
 | [v0,v1,v2,v3],_,[y0,y1,y2,y3],_=>
  have g0:=hf 0 _ rfl
  have g1:=hf 1 _ rfl
  have g2:=hf 2 _ rfl
  have g3:=hf 3 _ rfl
  simp only [List.getElem?_cons_zero,List.getElem?_cons_succ] at g0 g1 g2 g3
  obtain ⟨k,e0,-,_⟩:=DataW.trod_int Tryz.underlying3 g0
  obtain ⟨nm,e1,z1,_⟩:=DataW.trod_string Tryz.underlying9 g1
  obtain ⟨l,e2,-,_⟩:=DataW.trod_int Tryz.underlying3 g2
  obtain ⟨c,e3,-,_⟩:=DataW.trod_int Tryz.underlying3 g3
  cases e0;cases e1;cases e2;cases e3
  refine ⟨⟨k,nm.data.toList,l,c⟩,by rw [str_val nm],?_⟩
  simp only [List.map_cons,List.map_nil,Rows.uptoBulk,Rows.uptoBulkAll,z1]
  omega
set_option maxRecDepth 10000 in
/-- a program, opened -/
theorem prB_open {fuel:Nat} {cs:List Value} {x:DataW H × List MemPlace} (h:DataW.trod enc Tryz.prog W base sp held fuel 46 cs=some x):
  ∃ p:Gp,PAt W (fun _=>True) (.agg cs.toArray) p∧(p.pool≤9223372036854775807∧∀ l∈p.threads,fitNL l)∧pW p≤Rows.uptoBulk x.1:=by
 obtain ⟨xs,n,rfl,rfl,hlen,hxl,hf⟩:=DataW.trod_struct Tryz.underlying46 h
 rw [show Tryz.prog.cellsOf 46=3 by kernel_rfl] at hlen
 have c6:Tryz.prog.cellsOf 2=1:=by kernel_rfl
 have c2:Tryz.prog.cellsOf 43=1:=by kernel_rfl
 have c4:Tryz.prog.cellsOf 44=1:=by kernel_rfl
 match cs,hlen,xs,hxl with
 | [v0,v1,v2],_,[y0,y1,y2],_=>
  have g0:=hf 0 _ rfl
  have g1:=hf 1 _ rfl
  have g2:=hf 2 _ rfl
  simp only [List.getElem?_cons_zero,List.getElem?_cons_succ] at g0 g1 g2
  obtain ⟨pool,e0,-,hm⟩:=DataW.trod_int Tryz.underlying2 g0
  obtain ⟨p1,n1,cap1,ys1,e1,hyl1,hbk1,hys1⟩:=slice_each (show Tryz.prog.underlying 43=some (.slice 90) by kernel_rfl) (show Tryz.prog.cellsOf 90=4 by kernel_rfl) (by decide) g1
  obtain ⟨p2,n2,cap2,ys2,e2,hyl2,hbk2,hys2⟩:=slice_each (show Tryz.prog.underlying 44=some (.slice 56) by kernel_rfl) (show Tryz.prog.cellsOf 56=1 by kernel_rfl) (by decide) g2
  cases e0;cases e1;cases e2
  have each1:∀ i,i<ys1.length→∃ c:Gc,(∃ g o,p1=some ⟨g,o,none⟩∧W.cell? ⟨g,o+i * 4,none⟩=some (.int .i64 c.kind)∧W.cell? ⟨g,o+i * 4+1,none⟩=some (strV c.name)∧W.cell? ⟨g,o+i * 4+2,none⟩=some (.int .i64 c.line)∧W.cell? ⟨g,o+i * 4+3,none⟩=some (.int .i64 c.col))∧∀ hi:i<ys1.length,1+c.name.length≤Rows.uptoBulk ys1[i].1:=fun i hi=>by
   obtain ⟨q,cs',hq,h3,-,g,o,h4,h5⟩:=hys1 i hi
   obtain ⟨c,rfl,hw⟩:=ctB_open h3
   exact ⟨c,⟨g,o,h4,h5 0 _ rfl,h5 1 _ rfl,h5 2 _ rfl,h5 3 _ rfl⟩,fun _=>hw⟩
  have each2:∀ i,i<ys2.length→∃ l:List Gs,(∃ g o q c,p2=some ⟨g,o,none⟩∧W.cell? ⟨g,o+i,none⟩=some (.slice q l.length c)∧SKids W (fun _=>True) q 0 l∧fitNL l)∧∀ hi:i<ys2.length,1+sWL l≤Rows.uptoBulk ys2[i].1:=fun i hi=>by
   obtain ⟨q,cs',hq,h3,-,g,o,h4,h5⟩:=hys2 i hi
   obtain ⟨p3,n3,cap3,ys3,rfl,hyl3,hbk3,hys3⟩:=slice_each (show Tryz.prog.underlying 56=some (.slice 58) by kernel_rfl) (show Tryz.prog.cellsOf 58=12 by kernel_rfl) (by decide) h3
   have each3:∀ i,i<ys3.length→∃ t:Gs,(∃ g o vs,p3=some ⟨g,o,none⟩∧(∀ j v,vs[j]?=some v→W.cell? ⟨g,o+i * 12+j,none⟩=some v)∧SAt W (fun _=>True) vs t∧fitN t)∧∀ hi:i<ys3.length,sW t≤Rows.uptoBulk ys3[i].1:=fun i hi=>by
    obtain ⟨q,cs',hq,h3,-,g,o,h4,h5⟩:=hys3 i hi
    obtain ⟨t,ht,hft,hw⟩:=stB_open q h3
    exact ⟨t,⟨g,o,cs',h4,h5,ht,hft⟩,fun _=>hw⟩
   obtain ⟨T3,hT3⟩:=Deep.choose_lt each3
   have hs3:=sW_sum ((List.range ys3.length).map T3) (ys3.map (·.1)) (by simp) fun i h h'=>by
    have hi':i<ys3.length:=by simpa using h
    simpa using (hT3 i hi').2 hi'
   refine ⟨(List.range ys3.length).map T3,⟨g,o,p3,cap3,h4,?_,skids_of _ 0 fun j hj=>?_,fitNL_rng _ fun i hi=>by obtain ⟨⟨-,-,-,-,-,-,h⟩,-⟩:=hT3 i (by simpa using hi);exact h⟩,fun _=>by omega⟩
   ·have h6:=h5 0 _ rfl
    rw [Nat.mul_one,Nat.add_zero] at h6
    rw [h6,←hyl3]
    simp
   ·have hj':j<ys3.length:=by simpa using hj
    obtain ⟨⟨g,o,vs,h1,h2,h3⟩,-⟩:=hT3 j hj'
    exact ⟨g,o,vs,h1,trivial,fun k v hk=>by rw [Nat.zero_add];exact h2 k v hk,by simpa using h3.1⟩
  obtain ⟨T1,hT1⟩:=Deep.choose_lt each1
  obtain ⟨T2,hT2⟩:=Deep.choose_lt each2
  have hs1:=cW_sum ((List.range ys1.length).map T1) (ys1.map (·.1)) (by simp) fun i h h'=>by
   have hi':i<ys1.length:=by simpa using h
   simpa using (hT1 i hi').2 hi'
  have hs2:=hW_sum ((List.range ys2.length).map T2) (ys2.map (·.1)) (by simp) fun i h h'=>by
   have hi':i<ys2.length:=by simpa using h
   simpa using (hT2 i hi').2 hi'
  refine ⟨⟨pool,(List.range ys1.length).map T1,(List.range ys2.length).map T2⟩,⟨p1,cap1,p2,cap2,by rw [←hyl1,←hyl2];simp,fun i hi=>?_,fun i hi=>?_⟩,⟨wf_le hm,fun l hl=>?_⟩,?_⟩
  ·have hi':i<ys1.length:=by simpa using hi
   obtain ⟨⟨g,o,h1,h2,h3,h4,h5⟩,-⟩:=hT1 i hi'
   exact ⟨g,o,h1,trivial,by simpa using h2,by simpa using h3,by simpa using h4,by simpa using h5⟩
  ·have hi':i<ys2.length:=by simpa using hi
   obtain ⟨⟨g,o,q,c,h1,h2,h3⟩,-⟩:=hT2 i hi'
   exact ⟨g,o,q,c,h1,trivial,by simpa using h2,by simpa using h3.1⟩
  ·obtain ⟨i,hi,rfl⟩:=List.mem_map.1 hl
   obtain ⟨⟨-,-,-,-,-,-,-,h⟩,-⟩:=hT2 i (by simpa using hi)
   exact h
  ·unfold pW
   simp only [List.map_cons,List.map_nil,Rows.uptoBulk,Rows.uptoBulkAll]
   omega
end
/-
  What a program holds is bounded by how much it holds with its names.
-/
open Go Go.RowKit Own
mutual
theorem gSize_W:∀ x:Gx,gSize x≤gW x
 | .mk _ _ _ nm _ _ kids=>by
  unfold gSize gW
  have:=gSizeL_W kids
  omega
theorem gSizeL_W:∀ l:List Gx,gSizeL l≤gWL l
 | []=>by unfold gSizeL gWL;omega
 | x::l=>by
  unfold gSizeL gWL
  have:=gSize_W x
  have:=gSizeL_W l
  omega
end
mutual
theorem sSize_W:∀ x:Gs,sSize x≤sW x
 | .mk _ nm _ _ val into cont xs thn els _ _=>by
  unfold sSize sW
  have:=gSizeL_W xs
  have:=sSizeL_W thn
  have:=sSizeL_W els
  omega
theorem sSizeL_W:∀ l:List Gs,sSizeL l≤sWL l
 | []=>by unfold sSizeL sWL;omega
 | x::l=>by
  unfold sSizeL sWL
  have:=sSize_W x
  have:=sSizeL_W l
  omega
end
mutual
theorem fitS_W:∀ x:Gs,sW x≤1099511627776→fitS x
 | .mk _ nm _ _ val into cont xs thn els _ _,h=>by
  unfold sW at h
  unfold fitS
  exact ⟨by omega,fitSL_W thn (by omega),fitSL_W els (by omega)⟩
theorem fitSL_W:∀ l:List Gs,sWL l≤1099511627776→fitSL l
 | [],_=>by unfold fitSL;trivial
 | x::l,h=>by
  unfold sWL at h
  unfold fitSL
  exact ⟨fitS_W x (by omega),fitSL_W l (by omega)⟩
end
theorem hSize_W:∀ l:List (List Gs),hSize l+l.length≤hWL l
 | []=>by unfold hSize hWL;simp
 | x::l=>by
  unfold hSize hWL
  have:=sSizeL_W x
  have:=hSize_W l
  rw [List.length_cons]
  omega
theorem cLen_W:∀ l:List Gc,l.length≤cWL l
 | []=>by unfold cWL;simp
 | x::l=>by
  unfold cWL
  have:=cLen_W l
  rw [List.length_cons]
  omega
theorem hW_mem:∀ {l:List (List Gs)} {x:List Gs},x∈l→sWL x≤hWL l
 | y::l,x,h=>by
  unfold hWL
  rcases List.mem_cons.1 h with rfl | h
  ·omega
  ·have:=hW_mem h
   omega
/-- what a program of small bulk is -/
theorem prog_fits {p:Gp} {N:Nat} (h:pW p≤N) (hN:N≤1048576):hSize p.threads≤1048576∧p.conts.length≤1048576∧p.threads.length≤1048576∧∀ l∈p.threads,fitSL l∧sSizeL l≤1048576:=by
 unfold pW at h
 have h1:=hSize_W p.threads
 have h2:=cLen_W p.conts
 refine ⟨by omega,by omega,by omega,fun l hl=>?_⟩
 have h3:=hW_mem hl
 have h4:=sSizeL_W l
 exact ⟨fitSL_W l (by omega),by omega⟩
/-
  ParseNested in plain: a thread's statements, put into an if. No program in sight.
-/
open Go
def oneX:Gx:=.mk 1 0 1 [] 0 0 []
def ifS (l:List Gs):Gs:=.mk 5 [] 0 0 [] [] [] [oneX] l [] 0 0
def nestG (p:Gp) (t:Nat):Gp:=⟨p.pool,p.conts,p.threads.set t [ifS (p.threads.getD t [])]⟩
def oneG (p:Gp) (t:Nat):Gp:=⟨0,[],[p.threads.getD t []]⟩
def restG (p:Gp) (t:Nat):Gp:=⟨p.pool,p.conts,p.threads.set t []⟩
theorem hSize_set:∀ (l:List (List Gs)) (t:Nat) (x:List Gs),t<l.length→hSize (l.set t x)+sSizeL (l.getD t [])=hSize l+sSizeL x
 | [],_,_,h=>absurd h (by simp)
 | b::l,0,x,_=>by simp only [List.set_cons_zero,List.getD_cons_zero,hSize];omega
 | b::l,t+1,x,h=>by
  have:=hSize_set l t x (by simpa using h)
  simp only [List.set_cons_succ,List.getD_cons_succ,hSize]
  omega
theorem hDeep_set:∀ (l:List (List Gs)) (t:Nat) (x:List Gs),t<l.length→hDeep (l.set t x)=max (hDeep (l.set t [])) (sDeepL x)
 | [],_,_,h=>absurd h (by simp)
 | b::l,0,x,_=>by
  have z:sDeepL ([]:List Gs)=0:=rfl
  simp only [List.set_cons_zero,hDeep]
  omega
 | b::l,t+1,x,h=>by
  have:=hDeep_set l t x (by simpa using h)
  simp only [List.set_cons_succ,hDeep]
  omega
theorem size_if (l:List Gs):sSizeL [ifS l]=sSizeL l+2:=by
 have z:sSizeL ([]:List Gs)=0:=rfl
 have o:gSizeL [oneX]=1:=rfl
 rw [show sSizeL [ifS l]=sSize (ifS l)+sSizeL [] from rfl,show sSize (ifS l)=gSizeL [oneX]+sSizeL l+sSizeL []+1 from rfl]
 omega
theorem deep_if (l:List Gs):sDeepL [ifS l]=max 2 (sDeepL l+1):=by
 have z:sDeepL ([]:List Gs)=0:=rfl
 have o:gDeepL [oneX]=1:=rfl
 rw [show sDeepL [ifS l]=max (sDeep (ifS l)) (sDeepL []) from rfl,show sDeep (ifS l)=max (max (gDeepL [oneX]) (sDeepL l)) (sDeepL [])+1 from rfl]
 omega
theorem may_if {l:List Gs} (h:maySL l=true):maySL [ifS l]=true:=by
 have h1:mayGL [oneX]=true:=by decide
 have h2:maySL []=true:=by unfold maySL;rfl
 have h3:mayS (ifS l)=true:=by
  unfold ifS mayS
  rw [h,h1,h2]
  unfold fieldsK
  rw [if_neg (by decide),if_neg (by decide),if_neg (by decide),if_pos (by decide)]
  unfold fieldsB
  simp
 unfold maySL
 rw [h3,h2]
 rfl
theorem fitN_if {l:List Gs} (h:fitNL l):fitNL [ifS l]:=by
 have h2:fitNL []:=by unfold fitNL;trivial
 unfold fitNL ifS fitN
 exact ⟨⟨by decide,by unfold fitGL oneX fitG fitGL;exact ⟨⟨by decide,trivial⟩,trivial⟩,h,h2⟩,h2⟩
theorem fitS_if {l:List Gs} (h:fitSL l):fitSL [ifS l]:=by
 have h2:fitSL []:=by unfold fitSL;trivial
 unfold fitSL ifS fitS
 exact ⟨⟨by decide,h,h2⟩,h2⟩
theorem getD_at {l:List (List Gs)} {t:Nat} (h:t<l.length):l.getD t []=l[t]:=by
 rw [List.getD_eq_getElem?_getD,List.getElem?_eq_getElem h]
 rfl
theorem getD_mem {l:List (List Gs)} {t:Nat} (h:t<l.length):l.getD t []∈l:=by
 rw [getD_at h]
 exact List.getElem_mem h
theorem set_all {P:List Gs→Prop} {l:List (List Gs)} {t:Nat} {x:List Gs} (h:∀ b∈l,P b) (hx:P x):∀ b∈l.set t x,P b:=fun b hb=>by
 rcases List.mem_or_eq_of_mem_set hb with hb | rfl
 ·exact h b hb
 ·exact hx
theorem size_getD {l:List (List Gs)} {t:Nat} (h:t<l.length):sSizeL (l.getD t [])≤hSize l:=by
 rw [getD_at h]
 exact hSize_mem h
/-- what ParseNested's law is about -/
theorem nested_law (p:Gp) (hs:Small p) (h9:hSize p.threads≤90000) (hc:checkP p=true) (t:Nat) (ht:t<p.threads.length):
  Small (nestG p t)∧Small (oneG p t)∧Small (restG p t)∧checkP (nestG p t)=true∧hSize (nestG p t).threads=hSize p.threads+2∧
  hDeep (nestG p t).threads=max (hDeep (restG p t).threads) (max 2 (hDeep (oneG p t).threads+1))∧hSize p.threads=hSize (oneG p t).threads+hSize (restG p t).threads∧sameP p (nestG p t)=false:=by
 have hm:=getD_mem ht
 have hle:=size_getD ht
 have e1:=hSize_set p.threads t [ifS (p.threads.getD t [])] ht
 have e2:=hSize_set p.threads t [] ht
 have e3:=hDeep_set p.threads t [ifS (p.threads.getD t [])] ht
 rw [size_if] at e1
 rw [deep_if] at e3
 have z1:sSizeL ([]:List Gs)=0:=rfl
 have z2:sDeepL ([]:List Gs)=0:=rfl
 have s0:=hs.size
 have o1:hSize (oneG p t).threads=sSizeL (p.threads.getD t []):=by unfold oneG;simp only [hSize];omega
 have o2:hDeep (oneG p t).threads=sDeepL (p.threads.getD t []):=by unfold oneG;simp only [hDeep];omega
 have n1:hSize (nestG p t).threads=hSize p.threads+2:=by unfold nestG;dsimp only;omega
 have r1:hSize (restG p t).threads+sSizeL (p.threads.getD t [])=hSize p.threads:=by unfold restG;dsimp only;omega
 refine ⟨⟨by omega,hs.conts,by unfold nestG;simp only [List.length_set];exact hs.threads,hs.pool,set_all hs.fitS (fitS_if (hs.fitS _ hm)),set_all hs.fitN (fitN_if (hs.fitN _ hm))⟩,
  ⟨by omega,by unfold oneG;simp,by unfold oneG;simp,by unfold oneG;simp,fun l hl=>by unfold oneG at hl;rw [List.mem_singleton] at hl;subst hl;exact hs.fitS _ hm,fun l hl=>by unfold oneG at hl;rw [List.mem_singleton] at hl;subst hl;exact hs.fitN _ hm⟩,
  ⟨by omega,hs.conts,by unfold restG;simp only [List.length_set];exact hs.threads,hs.pool,set_all hs.fitS (by unfold fitSL;trivial),set_all hs.fitN (by unfold fitNL;trivial)⟩,?_,n1,?_,by omega,?_⟩
 ·unfold checkP at hc ⊢
  simp only [Bool.and_eq_true,decide_eq_true_eq,List.all_eq_true] at hc ⊢
  exact ⟨hc.1,hc.2.1,set_all hc.2.2 (may_if (hc.2.2 _ hm))⟩
 ·rw [o2]
  unfold nestG restG
  dsimp only
  omega
 ·rw [←Bool.not_eq_true]
  intro h
  obtain ⟨-,-,-,h4,-⟩:=same_of h
  omega
/-- a light program is small enough -/
theorem light_small {p:Gp} (hl:lightP p=true) (hf:(p.pool≤9223372036854775807∧∀ l∈p.threads,fitNL l)∧∀ l∈p.threads,fitSL l):Small p∧hSize p.threads≤90000:=by
 unfold lightP at hl
 simp only [Bool.and_eq_true,decide_eq_true_eq] at hl
 obtain ⟨h1,h2,-,h4⟩:=hl
 obtain ⟨h5,h6⟩:=ltL_size _ _ h4
 have key:∀ l:List (List Gs),(∀ x∈l,swL 0 0 x≤2000)→hSize l≤(l.map (swL 0 0)).sum:=by
  intro l
  induction l with
  | nil=>intro _;exact Nat.le_refl _
  | cons x l ih=>
   intro h
   have a1:=ih fun y hy=>h y (List.mem_cons_of_mem _ hy)
   have a2:=(swL_of x 0 0 (by have:=h x List.mem_cons_self;omega)).1
   simp only [List.map_cons,List.sum_cons,hSize]
   omega
 have h7:=key _ h5
 have h8:hSize p.threads≤2000:=by omega
 exact ⟨⟨by omega,by omega,by omega,hf.1.1,hf.2,hf.1.2⟩,by omega⟩
/-
  A region that draws its order, with one block and a row of the caller's own set aside. No program in sight.
-/
def aside2 (n m:Nat) (x:Obj) (base:Nat) (T:TypeId) (size:Nat) (v:Value) (k:Nat) (xs:List Value) (j:Nat) (w:World):Prop:=
 if j=n then w.heap[m]?=some x else if j=n+1 then w.ownsRow base T size v k xs else True
def aside2Fp (n m:Nat) (v:Value) (j b:Nat):Prop:=(j=n∧b=m)∨(j=n+1∧v.ownBlock=some b)
theorem wp_own2 {P:Program} {l:List Oper} {Q:Exit→Act→World→Prop} {id:Nat} {a:Act} {w:World} (hm:P.follows .mixedOrders=true)
  (m:Nat) (x:Obj) (hx:w.heap[m]?=some x) (base:Nat) (T:TypeId) (size:Nat) (v:Value) (k:Nat) (xs:List Value) (hrow:w.ownsRow base T size v k xs) (hlt:m<base)
  (D av ea:Nat→List Nat) (keep:List Nat) (hok:okB l.toArray D av ea keep=true) (sp:Nat→Option Loud)
  (hlex:Lex P l.toArray w.drew (fun b=>b=m∨v.ownBlock=some b) sp av ea (fun a F Fp=>Done w.drew (fun b=>b=m∨v.ownBlock=some b) Q keep a F Fp) l 0 a (aside2 l.length m x base T size v k xs) (aside2Fp l.length m v)):(Code.region id l.toArray true).wp P Q a w:=by
 refine wp_own_lit hm D av ea keep hok sp _ _ _ ?_ ?_ ?_ ?_ hlex
 ·intro j hj
  have hj':j<l.length:=by simpa using hj
  funext w';unfold aside2;rw [if_neg (by omega),if_neg (by omega)]
 ·intro j hj
  have hj':j<l.length:=by simpa using hj
  funext b;unfold aside2Fp
  exact propext ⟨fun h=>by rcases h with h | h <;> omega,fun h=>h.elim⟩
 ·intro j hj
  refine ⟨fun w1 w2 _ _ _ h hk=>?_,?_,fun b hb=>?_⟩
  ·unfold aside2 at hk ⊢
   by_cases h1:j=l.length
   ·rw [if_pos h1] at hk ⊢
    rw [←hk];exact h m (.inl ⟨h1,rfl⟩)
   ·rw [if_neg h1] at hk ⊢
    by_cases h2:j=l.length+1
    ·rw [if_pos h2] at hk ⊢
     exact row_same hk fun b hb=>h b (.inr ⟨h2,hb⟩)
    ·rw [if_neg h2];trivial
  ·unfold aside2
   by_cases h1:j=l.length
   ·rw [if_pos h1];exact hx
   ·rw [if_neg h1]
    by_cases h2:j=l.length+1
    ·rw [if_pos h2];exact hrow
    ·rw [if_neg h2];trivial
  ·rcases hb with ⟨_,hb⟩ | ⟨_,hb⟩
   ·refine ⟨?_,.inl hb⟩
    rw [hb]
    rcases Nat.lt_or_ge m w.heap.size with h' | h'
    ·exact h'
    ·rw [Array.getElem?_eq_none h'] at hx;cases hx
   ·exact ⟨(hrow.lt b hb).2,.inr hb⟩
 ·intro i j _ _ hij b h1 h2
  rcases h1 with ⟨a1,a2⟩ | ⟨a1,a2⟩ <;> rcases h2 with ⟨b1,b2⟩ | ⟨b1,b2⟩
  ·omega
  ·have:=(hrow.lt b b2).1;omega
  ·have:=(hrow.lt b a2).1;omega
  ·omega
/-
  append of one thing that has been made, to a row of the caller's own, within a region that draws its order. No program in sight.
-/
/-- a row, behind the append of what has been made in blocks of its own -/
def sApp (base:Nat) (T:TypeId) (size n:Nat) (xs:List Value) (lo:Nat) (A:World→Nat→Nat→List Value→Prop):Loud:={ ok:=fun _ g=>lo≤g.b,val:=fun _ g=>.slice g.p (n+1) g.c,fp:=fun _ g k=>Of g.p k∨(g.b≤k∧k<g.d),post:=fun _ g w=>(∀ k,Of g.p k→¬(g.b≤k∧k<g.d))∧∃ us,w.ownsRow base T size (.slice g.p (n+1) g.c) (n+1) (xs++us)∧A w g.b g.d us }
/-- a new slice of one thing of several cells, the operation's value -/
def sOneM (E:TypeId):Loud:={ val:=fun _ g=>.slice (some ⟨g.b,0,none⟩) 1 1,fp:=fun _ g k=>k=g.b,post:=fun args g w=>∀ vs,args.getD 0 undef=.agg vs→w.heap[g.b]?=some (.cells vs E (0,0)) }
section
variable {P : Program} {w0 : World} {M : Nat → Prop} {o : Oper} {a : Act} {av ea : List Nat} {F : Nat → World → Prop} {Fp : Nat → Nat → Prop}
theorem loud_oneM (E:TypeId) (vs:Array Value) (hu:(argsOf o a).getD 0 undef=.agg vs) (hrun:∀ w,(execOp a.eval o).run P w=.ok (.value (.slice (some ⟨w.heap.size,0,none⟩) 1 1)) (w.alloc (.cells vs E))):LoudOk P w0 M o a (sOneM E) av ea F Fp:=by
 refine loud_run ⟨default,trivial⟩ (fun g _ w w' _ _ _ h k u hu=>(h g.b rfl).trans (k u hu)) fun w _ _ _=>?_
 refine ⟨w.alloc (.cells vs E),{ b:=w.heap.size },trivial,.inl (hrun w),KeepBut.alloc _ _ _,fun b hb=>?_,fun u' hu'=>?_⟩
 ·have hb:b=w.heap.size:=hb
  subst hb
  exact ⟨.inl (Nat.le_refl _),by simp⟩
 ·rw [hu] at hu'
  cases hu'
  exact heap_alloc_new w _
theorem loud_appendM (base lo:Nat) (T t:TypeId) (z:Value) (size bytes:Nat) (ht:P.underlying t=some (.slice T)) (hinfo:(P.info? T).map (fun i=>(i.zero,i.size,i.bytes))=some (some z,size,bytes)) (hzs:z.cells.size=size) (hsz:0<size)
  (x y:Operand) (ho:o.op=.call { callee:=.builtin .append,args:=#[x,y],argTypes:=#[t,t] }) (v:Value) (n:Nat) (xs us:List Value) (b3 d3 b4:Nat) (A:World→Nat→Nat→List Value→Prop) (hA:∀ w w' b d us,A w b d us→(∀ k,b≤k→k<d→w'.heap[k]?=w.heap[k]?)→A w' b d us)
  (hx:a.eval x=v) (hy:a.eval y=.slice (some ⟨b4,0,none⟩) 1 1) (hl:us.length=size) (h1:∀ u∈us,u.oneCell'=true) (hn:n+1≤maxLen) (hb:(n+1) * bytes≤140737488355328) (hbase:base≤w0.heap.size) (hlo:lo≤b3)
  (j1:Nat) (hj1a:j1∈av) (hj1e:j1∈ea) (hF1:∀ w,F j1 w→w.ownsRow base T size v n xs) (hp1:∀ b,v.ownBlock=some b→Fp j1 b)
  (j3:Nat) (hj3a:j3∈av) (hj3e:j3∈ea) (hne:j3≠j1) (hF3:∀ w,F j3 w→A w b3 d3 us) (hp3:∀ b,(b3≤b∧b<d3)→Fp j3 b)
  (j4:Nat) (hj4a:j4∈av) (hF4:∀ w,F j4 w→w.heap[b4]?=some (.cells us.toArray T (0,0))):LoudOk P w0 M o a (sApp base T size n xs lo A) av ea F Fp:=by
 obtain ⟨i0,hi,hz,hsize,hby⟩:∃ i0,P.info? T=some i0∧i0.zero=some z∧i0.size=size∧i0.bytes=bytes:=by
  cases hi:P.info? T with
  | none=>rw [hi] at hinfo;cases hinfo
  | some i0=>
   rw [hi] at hinfo
   simp only [Option.map_some,Option.some.injEq,Prod.mk.injEq] at hinfo
   exact ⟨i0,rfl,hinfo.1,hinfo.2.1,hinfo.2.2⟩
 refine loud_run ⟨{ b:=lo },Nat.le_refl _⟩ (fun g _ w1 w2 _ _ _ h k=>?_) fun w hw hav hdis=>?_
 ·obtain ⟨hno,us,h2,h3⟩:=k
  exact ⟨hno,us,row_same h2 fun b hb=>h b (.inl (own_of.1 hb)),hA _ _ _ _ _ h3 fun b hb1 hb2=>h b (.inr ⟨hb1,hb2⟩)⟩
 ·have hrow:=hF1 w (hav j1 hj1a).1
  have hst:=hF3 w (hav j3 hj3a).1
  have hsrc:=hF4 w (hav j4 hj4a).1
  obtain ⟨v',w',r1,r2,r3,-,r5⟩:=run_append_own_at (P:=P) (w:=w) base t o.type T i0 z size bytes ht hi hz hsize hby hzs hsz v n xs hrow ⟨b4,0,none⟩ 1 1 us (by rw [hl];omega)
   (fun j u hj=>by
    rw [add_off]
    exact blk_cell hsrc (by simpa using hj)) h1 hn hb (Nat.le_trans hbase hw.size)
  obtain ⟨p,c,rfl⟩:∃ p c,v'=.slice p (n+1) c:=by
   rcases r2.2 with ⟨rfl,h0⟩ | ⟨g,cap,cur,rfl,-⟩
   ·exact absurd h0 (by omega)
   ·exact ⟨_,_,rfl⟩
  have kg:KeepBut (fun b=>v.ownBlock=some b) w w':=KeepBut.grown r3 fun b hb=>hb
  refine ⟨w',{ p:=p,c:=c,b:=b3,d:=d3 },hlo,.inl ?_,kg.mono fun b hb=>⟨j1,hj1e,hp1 b hb⟩,fun b hb=>?_,fun k hk hkb=>?_,us,r2,hA _ _ _ _ _ hst fun b hb1 hb2=>kg.block b ((hav j3 hj3a).2 b (hp3 b ⟨hb1,hb2⟩)).1 fun e=>hdis j3 hj3a j1 hj1a hne b (hp3 b ⟨hb1,hb2⟩) (hp1 b e)⟩
  ·unfold execOp
   simp only [ho,resolve,invoke,builtin,Sem.run_bind,Sem.run_pure,Result.andThen_ok,List.map_toArray,List.map_cons,List.map_nil,hx,hy,r1,sApp]
  ·rcases hb with hb | hb
   ·refine ⟨?_,(r2.lt b (own_of.2 hb)).2⟩
    have hb':=own_of (n:=n+1) (c:=c).2 hb
    rcases r5 with r5 | r5
    ·rw [r5] at hb';exact .inr ⟨j1,hj1e,hp1 b hb'⟩
    ·rw [r5] at hb'
     have:w.heap.size=b:=Option.some.inj hb'
     exact .inl (by omega)
   ·exact ⟨.inr ⟨j3,hj3e,hp3 b hb⟩,Nat.lt_of_lt_of_le ((hav j3 hj3a).2 b (hp3 b hb)).1 kg.size⟩
  ·have hk2:=own_of (n:=n+1) (c:=c).2 hk
   rcases r5 with r5 | r5
   ·rw [r5] at hk2
    exact hdis j3 hj3a j1 hj1a hne k (hp3 k hkb) (hp1 k hk2)
   ·rw [r5] at hk2
    have h1:w.heap.size=k:=Option.some.inj hk2
    have h2:=((hav j3 hj3a).2 k (hp3 k hkb)).1
    omega
end
end Go.Proofs.YtomlffobbkcmdaaGreatDoor
