import Derived.Test.YtknnmidnodeanaaGreatDoorJu10
namespace Go.Proofs.YtknnmidnodeanaaGreatDoor
open Go Go.RowKit Own
abbrev TSm:TypeId:=64
abbrev TStg:TypeId:=9
mutual
def StAt (w:World)(S:Nat→Prop):List Value→St→Prop
 |vs,.mk k nm sz op val into cont xs thn els l c=>∃p1 c1 p2 c2 p3 c3,vs=[.int .i64 k,strV nm,.int .i64 sz,.int .i64 op,strV val,strV into,strV cont,.slice p1 xs.length c1,.slice p2 thn.length c2,.slice p3 els.length c3,.int .i64 l,.int .i64 c]∧CB w S p1 0 xs∧CJ w S p2 0 thn∧CJ w S p3 0 els
def CJ (w:World)(S:Nat→Prop)(p:Option Addr):Nat→List St→Prop
 |_,[]=>True
 |i,x::l=>(∃g o vs,p=some ⟨g,o,none⟩∧S g∧(∀j v,vs[j]?=some v→w.cell? ⟨g,o+i * 12+j,none⟩=some v)∧StAt w S vs x)∧CJ w S p (i+1) l
end
mutual
theorem StAt.keepS {w w':World}{S S':Nat→Prop}(hk:∀b o v,S b→w.cell? ⟨b,o,none⟩=some v→w'.cell? ⟨b,o,none⟩=some v∧S' b):∀{vs:List Value}{e:St},StAt w S vs e→StAt w' S' vs e
 | vs,.mk k nm sz op val into cont xs thn els l c,h=>by
  unfold StAt at h ⊢;obtain⟨p1,c1,p2,c2,p3,c3,h1,h2,h3,h4⟩:=h;exact⟨p1,c1,p2,c2,p3,c3,h1,CB.keepS hk h2,CJ.keepS hk h3,CJ.keepS hk h4⟩
theorem CJ.keepS {w w':World}{S S':Nat→Prop}(hk:∀b o v,S b→w.cell? ⟨b,o,none⟩=some v→w'.cell? ⟨b,o,none⟩=some v∧S' b):∀{p:Option Addr}{i:Nat}{l:List St},CJ w S p i l→CJ w' S' p i l
 |p,i,[],_=>by unfold CJ;trivial
 | p,i,x::l,h=>by
  unfold CJ at h ⊢;obtain⟨⟨g,o,vs,h1,h2,h3,h4⟩,h5⟩:=h
  have hv:∃v,vs[0]?=some v:=by
   cases x with
   | mk k nm sz op val into cont xs thn els l c=>
    unfold StAt at h4;obtain⟨p1,c1,p2,c2,p3,c3,h6,-⟩:=h4;exact⟨_,by rw[h6];rfl⟩
  obtain⟨v0,hv0⟩:=hv;exact⟨⟨g,o,vs,h1,(hk g _ _ h2 (h3 0 v0 hv0)).2,fun j v hj=>(hk g _ _ h2 (h3 j v hj)).1,StAt.keepS hk h4⟩,CJ.keepS hk h5⟩
end
theorem StAt.keep {E:Nat→Prop}{w w':World}{S:Nat→Prop}(k:BA E w w')(hE:∀b,S b→¬E b){vs:List Value}{e:St}(h:StAt w S vs e):StAt w' S vs e:=
 h.keepS fun b _ _ hb hc=>⟨k.cell hc (hE b hb),hb⟩
theorem StAt.inHeap {w:World}{S:Nat→Prop}{vs:List Value}{e:St}(h:StAt w S vs e):StAt w (fun b=>S b∧b<w.heap.size) vs e:=
 h.keepS fun _ _ _ hb hc=>⟨hc,hb,World.block_lt_of_cell? w _ hc⟩
theorem StAt.mono {w:World}{S S':Nat→Prop}(hS:∀b,S b→S' b){vs:List Value}{e:St}(h:StAt w S vs e):StAt w S' vs e:=
 h.keepS fun _ _ _ hb hc=>⟨hc,hS _ hb⟩
theorem CJ.keep {E:Nat→Prop}{w w':World}{S:Nat→Prop}(k:BA E w w')(hE:∀b,S b→¬E b){p:Option Addr}{i:Nat}{l:List St}(h:CJ w S p i l):CJ w' S p i l:=
 h.keepS fun b _ _ hb hc=>⟨k.cell hc (hE b hb),hb⟩
theorem CJ.mono {w:World}{S S':Nat→Prop}(hS:∀b,S b→S' b){p:Option Addr}{i:Nat}{l:List St}(h:CJ w S p i l):CJ w S' p i l:=
 h.keepS fun _ _ _ hb hc=>⟨hc,hS _ hb⟩
theorem st_form {w:World}{S:Nat→Prop}{vs:List Value}{x:St}(h:StAt w S vs x):∃a n b c s1 s2 s3 p1 m1 c1 p2 m2 c2 p3 m3 c3 l cl,vs=[.int .i64 a,.string n,.int .i64 b,.int .i64 c,.string s1,.string s2,.string s3,.slice p1 m1 c1,.slice p2 m2 c2,.slice p3 m3 c3,.int .i64 l,.int .i64 cl]:=by
 cases x with
 | mk k nm sz op val into cont xs thn els l c=>
  unfold StAt at h;obtain⟨p1,c1,p2,c2,p3,c3,h1,-⟩:=h;exact⟨_,_,_,_,_,_,_,_,_,_,_,_,_,_,_,_,_,_,h1⟩
section
variable {w : World}{B : Nat}{a b c d e f g h i j k l : Value}{T : TypeId}
theorem BK (hh:w.heap[B]?=some (.cells #[a,b,c,d,e,f,g,h,i,j,k,l] T (0,0))):
  w.cell? ⟨B,0,none⟩=some a∧w.cell? ⟨B,1,none⟩=some b∧w.cell? ⟨B,2,none⟩=some c∧w.cell? ⟨B,3,none⟩=some d∧w.cell? ⟨B,4,none⟩=some e∧w.cell? ⟨B,5,none⟩=some f∧w.cell? ⟨B,6,none⟩=some g∧w.cell? ⟨B,7,none⟩=some h∧w.cell? ⟨B,8,none⟩=some i∧w.cell? ⟨B,9,none⟩=some j∧w.cell? ⟨B,10,none⟩=some k∧w.cell? ⟨B,11,none⟩=some l:=by
 simp[World.cell?,hh]
theorem DE (hh:w.heap[B]?=some (.cells #[a,b,c,d,e,f,g,h,i,j,k,l] T (0,0)))(n:Nat):w.frozen? ⟨B,n,none⟩=false:=by simp[World.frozen?,hh]
theorem s_put0 (hh:w.heap[B]?=some (.cells #[a,b,c,d,e,f,g,h,i,j,k,l] T (0,0)))(v:Value):∃w',w'=w.setCell ⟨B,0,none⟩ v∧w'.heap[B]?=some (.cells #[v,b,c,d,e,f,g,h,i,j,k,l] T (0,0))∧BA (fun k=>k=B) w w':=by
 have h0:=put1 (i:=0) hh v;simp only[List.setIfInBounds_toArray,List.set_cons_zero]at h0;exact⟨_,rfl,h0,BA.setCell _ _ _ rfl⟩
theorem s_put1 (hh:w.heap[B]?=some (.cells #[a,b,c,d,e,f,g,h,i,j,k,l] T (0,0)))(v:Value):∃w',w'=w.setCell ⟨B,1,none⟩ v∧w'.heap[B]?=some (.cells #[a,v,c,d,e,f,g,h,i,j,k,l] T (0,0))∧BA (fun k=>k=B) w w':=by
 have h0:=put1 (i:=1) hh v;simp only[LS]at h0;exact⟨_,rfl,h0,BA.setCell _ _ _ rfl⟩
theorem s_put2 (hh:w.heap[B]?=some (.cells #[a,b,c,d,e,f,g,h,i,j,k,l] T (0,0)))(v:Value):∃w',w'=w.setCell ⟨B,2,none⟩ v∧w'.heap[B]?=some (.cells #[a,b,v,d,e,f,g,h,i,j,k,l] T (0,0))∧BA (fun k=>k=B) w w':=by
 have h0:=put1 (i:=2) hh v;simp only[LS]at h0;exact⟨_,rfl,h0,BA.setCell _ _ _ rfl⟩
theorem s_put3 (hh:w.heap[B]?=some (.cells #[a,b,c,d,e,f,g,h,i,j,k,l] T (0,0)))(v:Value):∃w',w'=w.setCell ⟨B,3,none⟩ v∧w'.heap[B]?=some (.cells #[a,b,c,v,e,f,g,h,i,j,k,l] T (0,0))∧BA (fun k=>k=B) w w':=by
 have h0:=put1 (i:=3) hh v;simp only[LS]at h0;exact⟨_,rfl,h0,BA.setCell _ _ _ rfl⟩
theorem s_put4 (hh:w.heap[B]?=some (.cells #[a,b,c,d,e,f,g,h,i,j,k,l] T (0,0)))(v:Value):∃w',w'=w.setCell ⟨B,4,none⟩ v∧w'.heap[B]?=some (.cells #[a,b,c,d,v,f,g,h,i,j,k,l] T (0,0))∧BA (fun k=>k=B) w w':=by
 have h0:=put1 (i:=4) hh v;simp only[LS]at h0;exact⟨_,rfl,h0,BA.setCell _ _ _ rfl⟩
theorem s_put5 (hh:w.heap[B]?=some (.cells #[a,b,c,d,e,f,g,h,i,j,k,l] T (0,0)))(v:Value):∃w',w'=w.setCell ⟨B,5,none⟩ v∧w'.heap[B]?=some (.cells #[a,b,c,d,e,v,g,h,i,j,k,l] T (0,0))∧BA (fun k=>k=B) w w':=by
 have h0:=put1 (i:=5) hh v;simp only[LS]at h0;exact⟨_,rfl,h0,BA.setCell _ _ _ rfl⟩
theorem s_put6 (hh:w.heap[B]?=some (.cells #[a,b,c,d,e,f,g,h,i,j,k,l] T (0,0)))(v:Value):∃w',w'=w.setCell ⟨B,6,none⟩ v∧w'.heap[B]?=some (.cells #[a,b,c,d,e,f,v,h,i,j,k,l] T (0,0))∧BA (fun k=>k=B) w w':=by
 have h0:=put1 (i:=6) hh v;simp only[LS]at h0;exact⟨_,rfl,h0,BA.setCell _ _ _ rfl⟩
theorem s_put7 (hh:w.heap[B]?=some (.cells #[a,b,c,d,e,f,g,h,i,j,k,l] T (0,0)))(v:Value):∃w',w'=w.setCell ⟨B,7,none⟩ v∧w'.heap[B]?=some (.cells #[a,b,c,d,e,f,g,v,i,j,k,l] T (0,0))∧BA (fun k=>k=B) w w':=by
 have h0:=put1 (i:=7) hh v;simp only[LS]at h0;exact⟨_,rfl,h0,BA.setCell _ _ _ rfl⟩
theorem s_put8 (hh:w.heap[B]?=some (.cells #[a,b,c,d,e,f,g,h,i,j,k,l] T (0,0)))(v:Value):∃w',w'=w.setCell ⟨B,8,none⟩ v∧w'.heap[B]?=some (.cells #[a,b,c,d,e,f,g,h,v,j,k,l] T (0,0))∧BA (fun k=>k=B) w w':=by
 have h0:=put1 (i:=8) hh v;simp only[LS]at h0;exact⟨_,rfl,h0,BA.setCell _ _ _ rfl⟩
theorem s_put9 (hh:w.heap[B]?=some (.cells #[a,b,c,d,e,f,g,h,i,j,k,l] T (0,0)))(v:Value):∃w',w'=w.setCell ⟨B,9,none⟩ v∧w'.heap[B]?=some (.cells #[a,b,c,d,e,f,g,h,i,v,k,l] T (0,0))∧BA (fun k=>k=B) w w':=by
 have h0:=put1 (i:=9) hh v;simp only[LS]at h0;exact⟨_,rfl,h0,BA.setCell _ _ _ rfl⟩
theorem s_put10 (hh:w.heap[B]?=some (.cells #[a,b,c,d,e,f,g,h,i,j,k,l] T (0,0)))(v:Value):∃w',w'=w.setCell ⟨B,10,none⟩ v∧w'.heap[B]?=some (.cells #[a,b,c,d,e,f,g,h,i,j,v,l] T (0,0))∧BA (fun k=>k=B) w w':=by
 have h0:=put1 (i:=10) hh v;simp only[LS]at h0;exact⟨_,rfl,h0,BA.setCell _ _ _ rfl⟩
theorem s_put11 (hh:w.heap[B]?=some (.cells #[a,b,c,d,e,f,g,h,i,j,k,l] T (0,0)))(v:Value):∃w',w'=w.setCell ⟨B,11,none⟩ v∧w'.heap[B]?=some (.cells #[a,b,c,d,e,f,g,h,i,j,k,v] T (0,0))∧BA (fun k=>k=B) w w':=by
 have h0:=put1 (i:=11) hh v;simp only[LS]at h0;exact⟨_,rfl,h0,BA.setCell _ _ _ rfl⟩
end
theorem must_new {w:World}{R:Nat}{its:List Item}{el ec:Nat}(h:BG w R its el ec)(L:List (List UInt8))(hl:L.length≤1000)(r:List Item)(hm:CQ L its=some r):
  Calls Tryz.prog 77 #[rdV R,.slice (some ⟨w.heap.size,0,none⟩) L.length L.length] (w.alloc (.cells (L.map strV).toArray TStg)) fun e w'=>e=.returned (.tuple #[])∧BG w' R r el ec∧BA (fun b=>b=R) w w':=by
 have hk:=BA.alloc (fun _=>False) w (.cells (L.map strV).toArray TStg);have hR:=h.lt;refine(must_any (w.alloc (.cells (L.map strV).toArray TStg)) R its el ec (h.keep hk fun _ _ e=>e) (some ⟨w.heap.size,0,none⟩) L.length L (fun i hi=>⟨w.heap.size,0,rfl,?_⟩) (fun a ha=>by cases ha;show w.heap.size≠R;omega) hl r hm).mono ?_
 ·rw[Nat.zero_add];exact BH (heap_alloc_new w _) (by simp[strV,hi])
 ·rintro e w' ⟨rfl,h1,h2⟩;exact⟨rfl,h1,(hk.mono fun _ e=>e.elim).trans h2⟩
theorem must1 {w:World}{R:Nat}{its:List Item}{el ec:Nat}(h:BG w R its el ec)(s:List UInt8)(r:List Item)(hm:CQ [s] its=some r):
  Calls Tryz.prog 77 #[rdV R,.slice (some ⟨w.heap.size,0,none⟩) 1 1] (w.alloc (.cells #[.string ⟨s.toArray⟩] TStg)) fun e w'=>e=.returned (.tuple #[])∧BG w' R r el ec∧BA (fun b=>b=R) w w':=must_new h [s] (by simp) r hm
theorem must2 {w:World}{R:Nat}{its:List Item}{el ec:Nat}(h:BG w R its el ec)(s t:List UInt8)(r:List Item)(hm:CQ [s,t] its=some r):
  Calls Tryz.prog 77 #[rdV R,.slice (some ⟨w.heap.size,0,none⟩) 2 2] (w.alloc (.cells #[.string ⟨s.toArray⟩,.string ⟨t.toArray⟩] TStg)) fun e w'=>e=.returned (.tuple #[])∧BG w' R r el ec∧BA (fun b=>b=R) w w':=must_new h [s,t] (by simp) r hm
theorem name_str {w:World}{R:Nat}{t:Item}{r:List Item}{el ec:Nat}(h:BG w R (t::r) el ec)(hk:t.tok.kind=2):
  Calls Tryz.prog 81 #[rdV R] w fun e w'=>e=.returned (.string ⟨t.tok.text.toArray⟩)∧BG w' R r el ec∧BA (fun b=>b=R) w w':=name_any w R t r el ec h hk
theorem peek_cons {w:World}{R:Nat}{t:Item}{r:List Item}{el ec:Nat}(h:BG w R (t::r) el ec):
  Calls Tryz.prog 79 #[rdV R] w fun e w'=>e=.returned (.agg #[.int .i64 t.tok.kind,.string ⟨t.tok.text.toArray⟩,.int .i64 t.tok.num,.int .i64 t.line,.int .i64 t.col])∧BA (fun _=>False) w w':=peek_any w R (t::r) el ec h
theorem want_cons {w:World}{R:Nat}{t:Item}{r:List Item}{el ec:Nat}(h:BG w R (t::r) el ec)(k:Int)(hk:(t.tok.kind:Int)=k):
  Calls Tryz.prog 78 #[rdV R,.int .i64 k] w fun e w'=>e=.returned (.agg #[.int .i64 t.tok.kind,.string ⟨t.tok.text.toArray⟩,.int .i64 t.tok.num,.int .i64 t.line,.int .i64 t.col])∧BG w' R r el ec∧BA (fun b=>b=R) w w':=want_any w R t r el ec h k hk
def stC (k sz op:Int)(nm val into cont:List UInt8)(ex:Value)(l cl:Int):Array Value:=#[.int .i64 k,.string ⟨nm.toArray⟩,.int .i64 sz,.int .i64 op,.string ⟨val.toArray⟩,.string ⟨into.toArray⟩,.string ⟨cont.toArray⟩,ex,.slice none 0 0,.slice none 0 0,.int .i64 l,.int .i64 cl]
theorem ofL_lt (s:List UInt8):ofL opL s<8:=by
 unfold ofL;split
 ·decide
 ·split
  ·rename_i h
   exact List.idxOf_lt_length_iff.2 (by simpa using h)
  ·decide
theorem stC_call {w:World}{S:Nat→Prop}{op l cl:Nat}{val into cont:List UInt8}{p:Option Addr}{cap:Nat}{xs:List Ex}(h:CB w S p 0 xs):
  ∃vs:List Value,stC 9 0 op [] val into cont (.slice p xs.length cap) l cl=vs.toArray∧StAt w S vs (.mk 9 [] 0 op val into cont xs [] [] l cl):=by
 refine⟨_,rfl,?_⟩;unfold StAt;exact⟨p,cap,none,0,none,0,rfl,h,by unfold CJ;trivial,by unfold CJ;trivial⟩
def ReadsS (R el ec:Nat)(its r:List Item)(s:St):Prop:=∀(w:World),BG w R its el ec→
  Calls Tryz.prog 97 #[rdV R] w fun e w'=>∃vs,e=.returned (.agg vs.toArray)∧StAt w' (fun b=>w.heap.size≤b) vs s∧BG w' R r el ec∧BA (fun b=>b=R) w w'
theorem put12 {w:World}{B:Nat}{a b c d e f g h i j k l:Value}{T:TypeId}(hh:w.heap[B]?=some (.cells #[a,b,c,d,e,f,g,h,i,j,k,l] T (0,0)))(v0 v1 v2 v3 v4 v5 v6 v7 v8 v9 v10 v11:Value):
  ∃ wf,wf=(((((((((((w.setCell ⟨B,0,none⟩ v0).setCell ⟨B,1,none⟩ v1).setCell ⟨B,2,none⟩ v2).setCell ⟨B,3,none⟩ v3).setCell ⟨B,4,none⟩ v4).setCell ⟨B,5,none⟩ v5).setCell ⟨B,6,none⟩ v6).setCell ⟨B,7,none⟩ v7).setCell ⟨B,8,none⟩ v8).setCell ⟨B,9,none⟩ v9).setCell ⟨B,10,none⟩ v10).setCell ⟨B,11,none⟩ v11∧
   wf.heap[B]?=some (.cells #[v0,v1,v2,v3,v4,v5,v6,v7,v8,v9,v10,v11] T (0,0))∧BA (fun k=>k=B) w wf:=by
 obtain⟨w0,rfl,h0,k0⟩:=s_put0 hh v0;obtain⟨w1,rfl,h1,k1⟩:=s_put1 h0 v1;obtain⟨w2,rfl,h2,k2⟩:=s_put2 h1 v2;obtain⟨w3,rfl,h3,k3⟩:=s_put3 h2 v3;obtain⟨w4,rfl,h4,k4⟩:=s_put4 h3 v4;obtain⟨w5,rfl,h5,k5⟩:=s_put5 h4 v5;obtain⟨w6,rfl,h6,k6⟩:=s_put6 h5 v6;obtain⟨w7,rfl,h7,k7⟩:=s_put7 h6 v7;obtain⟨w8,rfl,h8,k8⟩:=s_put8 h7 v8;obtain⟨w9,rfl,h9,k9⟩:=s_put9 h8 v9;obtain⟨w10,rfl,h10,k10⟩:=s_put10 h9 v10;obtain⟨w11,rfl,h11,k11⟩:=s_put11 h10 v11;exact⟨_,rfl,h11,(((((((((((k0.trans k1).trans k2).trans k3).trans k4).trans k5).trans k6).trans k7).trans k8).trans k9).trans k10).trans k11)⟩
theorem st_len {w:World}{S:Nat→Prop}{vs:List Value}{x:St}(h:StAt w S vs x):vs.length=12:=by
 obtain⟨_,_,_,_,_,_,_,_,_,_,_,_,_,_,_,_,_,_,rfl⟩:=st_form h;rfl
theorem st_cells {w:World}{S:Nat→Prop}{vs:List Value}{x:St}(h:StAt w S vs x):∀u∈vs,u.oneCell'=true:=by
 obtain⟨_,_,_,_,_,_,_,_,_,_,_,_,_,_,_,_,_,_,rfl⟩:=st_form h;simp[Value.oneCell']
theorem sts_of_row {w:World}{S:Nat→Prop}{g:Nat}(hS:S g):∀(l:List St) (cs:List (List Value)) (i:Nat),cs.length=l.length→(∀j (h:j<cs.length) (h':j<l.length),StAt w S cs[j] l[j])→(∀j u,cs.flatten[j]?=some u→w.cell? ⟨g,i * 12+j,none⟩=some u)→CJ w S (some ⟨g,0,none⟩) i l
 |[],_,_,_,_,_=>by unfold CJ;trivial
 |s::l,[],_,h,_,_=>by simp at h
 | s::l,c::cs,i,hl,hst,hc=>by
  unfold CJ;have h0:=hst 0 (by simp) (by simp);have h12:=st_len h0;simp only[List.getElem_cons_zero]at h0 h12;refine⟨⟨g,0,c,rfl,hS,fun j v hj=>?_,h0⟩,sts_of_row hS l cs (i+1) (by simpa using hl) (fun j h h'=>hst (j+1) (by simpa using h) (by simpa using h')) fun j u hj=>?_⟩
  ·have hlt:j<c.length:=(List.getElem?_eq_some_iff.1 hj).1;rw[Nat.zero_add];exact hc j v (by rw[List.flatten_cons,List.getElem?_append_left hlt];exact hj)
  ·have:=hc (12+j) u (by rw[List.flatten_cons,List.getElem?_append_right (by omega),h12,Nat.add_sub_cancel_left];exact hj);rw[show (i+1) * 12+j=i * 12+(12+j) by omega];exact this
theorem DO {E:Nat→Prop}{w w':World}{base size n:Nat}{e:TypeId}{v:Value}{xs:List Value}(h:w.ownsRow base e size v n xs)(k:BA E w w')(hE:∀b,v.ownBlock=some b→¬E b):w'.ownsRow base e size v n xs:=by
 refine⟨h.1,?_⟩;rcases h.2 with h|⟨g,cap,cur,h1,h2,h3,h4⟩
 ·exact .inl h
 ·exact .inr ⟨g,cap,cur,h1,h2,k.blkE h3 (hE g (by rw[h1];rfl)),h4⟩
theorem rowS_lt {w:World}{base size n b:Nat}{e:TypeId}{v:Value}{xs:List Value}(h:w.ownsRow base e size v n xs)(hb:v.ownBlock=some b):b<w.heap.size:=by
 rcases h.2 with⟨rfl,-⟩|⟨g,cap,cur,rfl,h2,h3,h4⟩
 ·cases hb
 ·simp only[Value.ownBlock,Option.some.injEq]at hb;subst hb;exact(AG.1 h3).1
theorem rowS_some {w:World}{base size n:Nat}{e:TypeId}{v:Value}{xs:List Value}(h:w.ownsRow base e size v n xs):∃p cap,v=.slice p n cap∧(n=0∨∃g,p=some ⟨g,0,none⟩∧∀j u,xs[j]?=some u→w.cell? ⟨g,j,none⟩=some u):=by
 rcases h.2 with⟨rfl,h0⟩|⟨g,cap,cur,h1,h2,h3,h4,h5,h6,h7⟩
 ·subst h0;exact⟨none,0,rfl,.inl rfl⟩
 ·refine⟨_,cap,h1,.inr ⟨g,rfl,fun j u hj=>BH h3 ?_⟩⟩;rw[←h7,List.getElem?_take]at hj;split at hj
  ·simpa using hj
  ·cases hj
theorem DK {w w':World}{base size:Nat}{T:TypeId}{v:Value}{n:Nat}{xs:List Value}(h:w.ownsRow base T size v n xs)(hb:∀b,v.ownBlock=some b→w'.heap[b]?=w.heap[b]?):w'.ownsRow base T size v n xs:=by
 obtain⟨h0,h1|⟨g,cap,cur,h1,h2,h3,h4⟩⟩:=h
 ·exact⟨h0,.inl h1⟩
 ·exact⟨h0,.inr ⟨g,cap,cur,h1,h2,(hb g (by rw[h1];rfl)).trans h3,h4⟩⟩
def aside3 (n m1 m2:Nat)(x1 x2:Obj)(base:Nat)(T:TypeId)(size:Nat)(v:Value)(k:Nat)(xs:List Value)(j:Nat)(w:World):Prop:=
 if j=n then w.heap[m1]?=some x1 else if j=n+1 then w.heap[m2]?=some x2 else if j=n+2 then w.ownsRow base T size v k xs else True
def aside3Fp (n m1 m2:Nat)(v:Value)(j b:Nat):Prop:=(j=n∧b=m1)∨(j=n+1∧b=m2)∨(j=n+2∧v.ownBlock=some b)
theorem wp_own3 {P:Program}{l:List Oper}{Q:Exit→Act→World→Prop}{id:Nat}{a:Act}{w:World}(hm:P.follows .mixedOrders=true)
  (m1 m2:Nat) (x1 x2:Obj) (hx1:w.heap[m1]?=some x1) (hx2:w.heap[m2]?=some x2) (hne:m1<m2) (base:Nat) (T:TypeId) (size:Nat) (v:Value) (k:Nat) (xs:List Value) (hrow:w.ownsRow base T size v k xs) (hlt:m2<base)
  (D av ea:Nat→List Nat) (keep:List Nat) (hok:okB l.toArray D av ea keep=true) (sp:Nat→Option Loud)
  (hlex:Lex P l.toArray w.drew (fun b=>b=m1∨b=m2∨v.ownBlock=some b) sp av ea (fun a F Fp=>Done w.drew (fun b=>b=m1∨b=m2∨v.ownBlock=some b) Q keep a F Fp) l 0 a (aside3 l.length m1 m2 x1 x2 base T size v k xs) (aside3Fp l.length m1 m2 v)):(Code.region id l.toArray true).wp P Q a w:=by
 have lt:∀{m:Nat}{x:Obj},w.heap[m]?=some x→m<w.heap.size:=fun h=>(AG.1 h).1;refine wp_own_lit hm D av ea keep hok sp _ _ _ ?_ ?_ ?_ ?_ hlex
 ·intro j hj;have hj':j<l.length:=by simpa using hj
  funext w';unfold aside3;rw[if_neg (by omega),if_neg (by omega),if_neg (by omega)]
 ·intro j hj;have hj':j<l.length:=by simpa using hj
  funext b;unfold aside3Fp
  exact propext ⟨fun h=>by rcases h with h|h|h<;>omega,fun h=>h.elim⟩
 ·intro j hj;refine⟨fun w1 w2 _ _ _ h hk=>?_,?_,fun b hb=>?_⟩
  ·unfold aside3 at hk ⊢;by_cases e1:j=l.length
   ·rw[if_pos e1]at hk ⊢;rw[←hk];exact h m1 (.inl ⟨e1,rfl⟩)
   ·rw[if_neg e1]at hk ⊢;by_cases e2:j=l.length+1
    ·rw[if_pos e2]at hk ⊢;rw[←hk];exact h m2 (.inr (.inl ⟨e2,rfl⟩))
    ·rw[if_neg e2]at hk ⊢;by_cases e3:j=l.length+2
     ·rw[if_pos e3]at hk ⊢;exact DK hk fun b hb=>h b (.inr (.inr ⟨e3,hb⟩))
     ·rw[if_neg e3];trivial
  ·unfold aside3;by_cases e1:j=l.length
   ·rw[if_pos e1];exact hx1
   ·rw[if_neg e1];by_cases e2:j=l.length+1
    ·rw[if_pos e2];exact hx2
    ·rw[if_neg e2];by_cases e3:j=l.length+2
     ·rw[if_pos e3];exact hrow
     ·rw[if_neg e3];trivial
  ·rcases hb with⟨_,hb⟩|⟨_,hb⟩|⟨_,hb⟩
   ·exact⟨by rw[hb];exact lt hx1,.inl hb⟩
   ·exact⟨by rw[hb];exact lt hx2,.inr (.inl hb)⟩
   ·exact⟨(hrow.lt b hb).2,.inr (.inr hb)⟩
 ·intro i j _ _ hij b h1 h2;rcases h1 with⟨a1,a2⟩|⟨a1,a2⟩|⟨a1,a2⟩<;>rcases h2 with⟨b1,b2⟩|⟨b1,b2⟩|⟨b1,b2⟩
  ·omega
  ·omega
  ·have:=(hrow.lt b b2).1;omega
  ·omega
  ·omega
  ·have:=(hrow.lt b b2).1;omega
  ·have:=(hrow.lt b a2).1;omega
  ·have:=(hrow.lt b a2).1;omega
  ·omega
def sRow (base:Nat)(T:TypeId)(size n:Nat)(xs:List Value):Loud:={ val:=fun _ g=>.slice g.p n g.c,fp:=fun _ g=>Of g.p,post:=fun _ g w=>w.ownsRow base T size (.slice g.p n g.c) n xs }
theorem CL {p:Option Addr}{n c b:Nat}:(Value.slice p n c).ownBlock=some b↔Of p b:=by
 cases p with
 |none=>exact⟨fun h=>by simp[Value.ownBlock]at h,fun ⟨a,h,_⟩=>by cases h⟩
 |some a=>exact⟨fun h=>⟨a,rfl,by simpa [Value.ownBlock]using h.symm⟩,fun ⟨a',h1,h2⟩=>by cases h1;rw[h2];rfl⟩
theorem FC {P:Program}{w0:World}{M:Nat→Prop}{o:Oper}{a:Act}{av ea:List Nat}{F:Nat→World→Prop}{Fp:Nat→Nat→Prop}(base:Nat)(T t:TypeId)(z:Value)(size bytes:Nat)
  (ht:P.underlying t=some (.slice T)) (hinfo:(P.info? T).map (fun i=>(i.zero,i.size,i.bytes))=some (some z,size,bytes)) (hzs:z.cells.size=size) (hsz:0<size)
  (x y:Operand) (ho:o.op=.call { callee:=.builtin .append,args:=#[x,y],argTypes:=#[t,t] }) (v:Value) (n:Nat) (xs:List Value) (b2:Nat) (news:List Value)
  (hx:a.eval x=v) (hy:a.eval y=.slice (some ⟨b2,0,none⟩) 1 1) (hl:news.length=size) (h1:∀u∈news,u.oneCell'=true) (hn:n+1≤maxLen) (hb:(n+1) * bytes≤140737488355328) (hbase:base≤w0.heap.size)
  (j1:Nat) (hj1a:j1∈av) (hj1e:j1∈ea) (hF1:∀w,F j1 w→w.ownsRow base T size v n xs) (hp1:∀b,v.ownBlock=some b→Fp j1 b)
  (j2:Nat) (hj2a:j2∈av) (hF2:∀w,F j2 w→w.heap[b2]?=some (.cells news.toArray T (0,0))):CU P w0 M o a (sRow base T size (n+1) (xs++news)) av ea F Fp:=by
 obtain⟨i0,hi,hz,hsize,hby⟩:∃i0,P.info? T=some i0∧i0.zero=some z∧i0.size=size∧i0.bytes=bytes:=by
  cases hi:P.info? T with
  |none=>rw[hi]at hinfo;cases hinfo
  | some i0=>
   rw[hi]at hinfo;simp only[Option.map_some,Option.some.injEq,Prod.mk.injEq]at hinfo;exact⟨i0,rfl,hinfo.1,hinfo.2.1,hinfo.2.2⟩
 refine BY ⟨default,trivial⟩ (fun g _ w w' _ _ _ h k=>DK k fun b hb=>h b (CL.1 hb)) fun w hw hav _=>?_;have hrow:=hF1 w (hav j1 hj1a).1;have hsrc:=hF2 w (hav j2 hj2a).1
 obtain⟨v',w',r1,r2,r3,-,r5⟩:=run_append_own_at (P:=P) (w:=w) base t o.type T i0 z size bytes ht hi hz hsize hby hzs hsz v n xs hrow ⟨b2,0,none⟩ 1 1 news (by rw[hl];omega)
  (fun j u hj=>by
   rw[add_off];exact BH hsrc (by simpa using hj)) h1 hn hb (Nat.le_trans hbase hw.size)
 obtain⟨p,c,rfl⟩:∃p c,v'=.slice p (n+1) c:=by
  rcases r2.2 with⟨rfl,h0⟩|⟨g,cap,cur,rfl,-⟩
  ·exact absurd h0 (by omega)
  ·exact⟨_,_,rfl⟩
 refine⟨w',{ p:=p,c:=c },trivial,.inl ?_,BA.grown r3 fun b hb=>⟨j1,hj1e,hp1 b hb⟩,fun b hb=>⟨?_,(r2.lt b (CL.2 hb)).2⟩,r2⟩
 ·unfold execOp;simp only[ho,resolve,invoke,builtin,Sem.run_bind,Sem.run_pure,Result.andThen_ok,List.map_toArray,List.map_cons,List.map_nil,hx,hy,r1,sRow]
 ·have hb':=CL (n:=n+1) (c:=c).2 hb;rcases r5 with r5|r5
  ·rw[r5]at hb';exact .inr ⟨j1,hj1e,hp1 b hb'⟩
  ·rw[r5]at hb';have:w.heap.size=b:=Option.some.inj hb';exact .inl (by omega)
section
variable {P : Program}{w0 : World}{M : Nat→Prop}{o : Oper}{a : Act}{av ea : List Nat}{F : Nat→World→Prop}{Fp : Nat→Nat→Prop}
def CT (b i:Nat)(T:TypeId)(cs0:Array Value):Loud:={ val:=fun _ _=>undef,fp:=fun _ _ k=>k=b,post:=fun args _ w=>∀v,args.getD 1 undef=v→w.heap[b]?=some (.cells (cs0.setIfInBounds i v) T (0,0)) }
theorem CS (b i:Nat)(T:TypeId)(cs0:Array Value)(v:Value)(hv:(BM o a).getD 1 undef=v)(hrun:∀w u,w.cell? ⟨b,i,none⟩=some u→w.frozen? ⟨b,i,none⟩=false→(execOp a.eval o).run P w=.ok .skip (w.setCell ⟨b,i,none⟩ v))
  (j:Nat) (hja:j∈av) (hje:j∈ea) (hF:∀w,F j w→w.heap[b]?=some (.cells cs0 T (0,0))) (hfp:Fp j b) (hi:i<cs0.size):CU P w0 M o a (CT b i T cs0) av ea F Fp:=by
 refine BY ⟨default,trivial⟩ (fun g _ w w' _ _ _ h k u hu=>(h b rfl).trans (k u hu)) fun w _ hav _=>?_;obtain⟨hj,hb⟩:=hav j hja;have hh:=hF w hj;refine⟨w.setCell ⟨b,i,none⟩ v,default,trivial,.inr ⟨hrun w _ (BH hh (Array.getElem?_eq_getElem hi)) (by simp[World.frozen?,hh]),rfl⟩,BA.setCell _ _ _ ⟨j,hje,hfp⟩,fun k hk=>⟨.inr ⟨j,hje,by rw[show k=b from hk];exact hfp⟩,?_⟩,fun u hu=>?_⟩
 ·rw[show k=b from hk];exact Nat.lt_of_lt_of_le (hb b hfp).1 (by simp[World.setCell])
 ·rw[hv]at hu;rw[←hu];exact put1 hh v
def sOneV (E:TypeId)(cs:Array Value):Loud:={ val:=fun _ g=>.slice (some ⟨g.b,0,none⟩) 1 1,fp:=fun _ g k=>k=g.b,post:=fun _ g w=>w.heap[g.b]?=some (.cells cs E (0,0)) }
theorem loud_oneV (E:TypeId)(cs:Array Value)(hrun:∀w,(execOp a.eval o).run P w=.ok (.value (.slice (some ⟨w.heap.size,0,none⟩) 1 1)) (w.alloc (.cells cs E))):CU P w0 M o a (sOneV E cs) av ea F Fp:=
 loud_new (fun b=>.slice (some ⟨b,0,none⟩) 1 1) _ rfl (fun _ _=>rfl) (fun _ _ _=>Iff.rfl) (fun _ _ _=>Iff.rfl) hrun
end
def sBlk (lo:Nat)(R el ec:Nat)(m:List Item)(l:List St):Loud:={ ok:=fun _ g=>lo≤g.b,val:=fun _ g=>.slice g.p l.length g.c,fp:=fun _ g k=>k=R∨(g.b≤k∧k<g.d),post:=fun _ g w=>CJ w (fun b=>g.b≤b∧b<g.d) g.p 0 l∧BG w R m el ec }
def sThr (base:Nat)(T:TypeId)(n:Nat)(xs:List Value)(lo R el ec:Nat)(m:List Item)(l:List St):Loud:={ ok:=fun _ g=>lo≤g.b,val:=fun _ g=>.slice g.p (n+1) g.c,fp:=fun _ g k=>Of g.p k∨k=R∨(g.b≤k∧k<g.d),post:=fun _ g w=>BG w R m el ec∧(∀k,Of g.p k→¬(g.b≤k∧k<g.d))∧∃q c,w.ownsRow base T 1 (.slice g.p (n+1) g.c) (n+1) (xs++[.slice q l.length c])∧CJ w (fun b=>g.b≤b∧b<g.d) q 0 l }
def sOneA (E:TypeId):Loud:={ val:=fun _ g=>.slice (some ⟨g.b,0,none⟩) 1 1,fp:=fun _ g k=>k=g.b,post:=fun args g w=>∀u,args.getD 0 undef=u→w.heap[g.b]?=some (.cells #[u] E (0,0)) }
section
variable {P : Program}{w0 : World}{M : Nat→Prop}{o : Oper}{a : Act}{av ea : List Nat}{F : Nat→World→Prop}{Fp : Nat→Nat→Prop}
theorem one_arg {E:TypeId}{n:Nat}{x:Operand}{v:Value}(ho:o.op=.buildSlice E n #[(0,x)])(hx:a.eval x=v):(BM o a).getD 0 undef=v:=by simp[BM,ho,Op.operands,hx]
theorem loud_oneA (E:TypeId)(u:Value)(hu:(BM o a).getD 0 undef=u)(hrun:∀w,(execOp a.eval o).run P w=.ok (.value (.slice (some ⟨w.heap.size,0,none⟩) 1 1)) (w.alloc (.cells #[u] E))):CU P w0 M o a (sOneA E) av ea F Fp:=by
 refine BY ⟨default,trivial⟩ (fun g _ w w' _ _ _ h k u hu=>(h g.b rfl).trans (k u hu)) fun w _ _ _=>?_;refine⟨w.alloc (.cells #[u] E),{ b:=w.heap.size },trivial,.inl (hrun w),BA.alloc _ _ _,fun b hb=>?_,fun u' hu'=>?_⟩
 ·have hb:b=w.heap.size:=hb;subst hb;exact⟨.inl (Nat.le_refl _),by simp⟩
 ·rw[hu]at hu';rw[←hu'];exact heap_alloc_new w _
theorem CJ.inHeap {w:World}{S:Nat→Prop}{p:Option Addr}{i:Nat}{l:List St}(h:CJ w S p i l):CJ w (fun b=>S b∧b<w.heap.size) p i l:=
 h.keepS fun _ _ _ hb hc=>⟨hc,hb,World.block_lt_of_cell? w _ hc⟩
theorem sts_same {w w':World}{S:Nat→Prop}{p:Option Addr}{l:List St}(h:CJ w S p 0 l)(hb:∀b,S b→w'.heap[b]?=w.heap[b]?):CJ w' S p 0 l:=
 h.keepS fun b o v hS hc=>⟨by simpa [World.cell?,hb b hS]using hc,hS⟩
theorem loud_appendT (base lo:Nat)(T t:TypeId)(bytes:Nat)(ht:P.underlying t=some (.slice T))(hinfo:(P.info? T).map (fun i=>(i.zero,i.size,i.bytes))=some (some (.slice none 0 0),1,bytes))
  (x y:Operand) (ho:o.op=.call { callee:=.builtin .append,args:=#[x,y],argTypes:=#[t,t] }) (v:Value) (n:Nat) (xs:List Value) (R el ec:Nat) (m:List Item) (l:List St) (b3 d3 b4 c3:Nat) (q3:Option Addr)
  (hx:a.eval x=v) (hy:a.eval y=.slice (some ⟨b4,0,none⟩) 1 1) (hn:n+1≤maxLen) (hb:(n+1) * bytes≤140737488355328) (hbase:base≤w0.heap.size) (hR:R<base) (hM:∀b,b<R→¬M b) (hlo:lo≤b3)
  (j1:Nat) (hj1a:j1∈av) (hj1e:j1∈ea) (hF1:∀w,F j1 w→w.ownsRow base T 1 v n xs) (hp1:∀b,v.ownBlock=some b→Fp j1 b)
  (j3:Nat) (hj3a:j3∈av) (hj3e:j3∈ea) (hne:j3≠j1) (hF3:∀w,F j3 w→CJ w (fun b=>b3≤b∧b<d3) q3 0 l∧BG w R m el ec) (hp3:∀b,(b=R∨(b3≤b∧b<d3))→Fp j3 b)
  (j4:Nat) (hj4a:j4∈av) (hF4:∀w,F j4 w→w.heap[b4]?=some (.cells #[.slice q3 l.length c3] T (0,0))):CU P w0 M o a (sThr base T n xs lo R el ec m l) av ea F Fp:=by
 obtain⟨i0,hi,hz,hsize,hby⟩:∃i0,P.info? T=some i0∧i0.zero=some (.slice none 0 0)∧i0.size=1∧i0.bytes=bytes:=by
  cases hi:P.info? T with
  |none=>rw[hi]at hinfo;cases hinfo
  | some i0=>
   rw[hi]at hinfo;simp only[Option.map_some,Option.some.injEq,Prod.mk.injEq]at hinfo;exact⟨i0,rfl,hinfo.1,hinfo.2.1,hinfo.2.2⟩
 refine BY ⟨{ b:=lo },Nat.le_refl _⟩ (fun g _ w1 w2 k1 k2 hs h k=>?_) fun w hw hav hdis=>?_
 ·obtain⟨h1,hno,q,c,h2,h3⟩:=k;refine⟨h1.same hs fun b hb=>?_,hno,q,c,DK h2 fun b hb=>h b (.inl (CL.1 hb)),sts_same h3 fun b hb=>h b (.inr (.inr hb))⟩;by_cases e:b=R
  ·exact h b (.inr (.inl e))
  ·rw[k1.block b (by omega) (hM b (by omega)),k2.block b (by omega) (hM b (by omega))]
 ·have hrow:=hF1 w (hav j1 hj1a).1;obtain⟨hst,hrd⟩:=hF3 w (hav j3 hj3a).1;have hsrc:=hF4 w (hav j4 hj4a).1
  obtain⟨v',w',r1,r2,r3,-,r5⟩:=run_append_own_at (P:=P) (w:=w) base t o.type T i0 (.slice none 0 0) 1 bytes ht hi hz hsize hby rfl (by decide) v n xs hrow ⟨b4,0,none⟩ 1 1 [.slice q3 l.length c3] rfl
   (fun j u hj=>by
    rw[add_off];exact BH hsrc (by simpa using hj)) (fun u hu=>by simp only[List.mem_singleton]at hu;subst hu;rfl) hn hb (Nat.le_trans hbase hw.size)
  obtain⟨p,c,rfl⟩:∃p c,v'=.slice p (n+1) c:=by
   rcases r2.2 with⟨rfl,h0⟩|⟨g,cap,cur,rfl,-⟩
   ·exact absurd h0 (by omega)
   ·exact⟨_,_,rfl⟩
  have kg:BA (fun b=>v.ownBlock=some b) w w':=BA.grown r3 fun b hb=>hb;refine⟨w',{ p:=p,c:=c,b:=b3,d:=d3 },hlo,.inl ?_,kg.mono fun b hb=>⟨j1,hj1e,hp1 b hb⟩,fun b hb=>?_,hrd.keep kg fun b hb e=>?_,fun k hk hkb=>?_,q3,c3,r2,sts_same hst fun b hb=>kg.block b ((hav j3 hj3a).2 b (hp3 b (.inr hb))).1 fun e=>hdis j3 hj3a j1 hj1a hne b (hp3 b (.inr hb)) (hp1 b e)⟩
  ·unfold execOp;simp only[ho,resolve,invoke,builtin,Sem.run_bind,Sem.run_pure,Result.andThen_ok,List.map_toArray,List.map_cons,List.map_nil,hx,hy,r1,sThr]
  ·rcases hb with hb|hb
   ·refine⟨?_,(r2.lt b (CL.2 hb)).2⟩;have hb':=CL (n:=n+1) (c:=c).2 hb;rcases r5 with r5|r5
    ·rw[r5]at hb';exact .inr ⟨j1,hj1e,hp1 b hb'⟩
    ·rw[r5]at hb';have:w.heap.size=b:=Option.some.inj hb';exact .inl (by omega)
   ·exact⟨.inr ⟨j3,hj3e,hp3 b hb⟩,Nat.lt_of_lt_of_le ((hav j3 hj3a).2 b (hp3 b hb)).1 kg.size⟩
  ·have:=(hrow.lt b e).1;omega
  ·have hk2:=CL (n:=n+1) (c:=c).2 hk;rcases r5 with r5|r5
   ·rw[r5]at hk2;exact hdis j3 hj3a j1 hj1a hne k (hp3 k (.inr hkb)) (hp1 k hk2)
   ·rw[r5]at hk2;have h1:w.heap.size=k:=Option.some.inj hk2;have h2:=((hav j3 hj3a).2 k (hp3 k (.inr hkb))).1;omega
end
abbrev TPr:TypeId:=25
abbrev TCt:TypeId:=49
abbrev TSs:TypeId:=34
def ReadsB (R el ec:Nat)(its r:List Item)(l:List St):Prop:=∀(w:World),BG w R its el ec→
  Calls Tryz.prog 82 #[rdV R] w fun e w'=>∃p cap,e=.returned (.slice p l.length cap)∧CJ w' (fun b=>w.heap.size≤b) p 0 l∧BG w' R r el ec∧BA (fun b=>b=R) w w'
def ctV (c:Ct):List Value:=[.int .i64 c.kind,.string ⟨c.name.toArray⟩,.int .i64 c.line,.int .i64 c.col]
def CtsAt (w:World)(S:Nat→Prop)(p:Option Addr)(l:List Ct):Prop:=l=[]∨∃g,p=some ⟨g,0,none⟩∧S g∧∀j u,(l.map ctV).flatten[j]?=some u→w.cell? ⟨g,j,none⟩=some u
def ThsAt (w:World)(S:Nat→Prop)(p:Option Addr)(l:List (List St)):Prop:=∃sl:List Value,sl.length=l.length∧(l=[]∨∃g,p=some ⟨g,0,none⟩∧S g∧∀j u,sl[j]?=some u→w.cell? ⟨g,j,none⟩=some u)∧
 ∀j (h:j<sl.length) (h':j<l.length),∃q c,sl[j]=.slice q l[j].length c∧CJ w S q 0 l[j]
theorem CtsAt.keepS {w w':World}{S S':Nat→Prop}(hk:∀b o v,S b→w.cell? ⟨b,o,none⟩=some v→w'.cell? ⟨b,o,none⟩=some v)(hS:∀b,S b→S' b){p:Option Addr}{l:List Ct}(h:CtsAt w S p l):CtsAt w' S' p l:=
 h.imp id fun ⟨g,h1,h2,h3⟩=>⟨g,h1,hS g h2,fun j u hj=>hk g j u h2 (h3 j u hj)⟩
theorem ThsAt.keepS {w w':World}{S S':Nat→Prop}(hk:∀b o v,S b→w.cell? ⟨b,o,none⟩=some v→w'.cell? ⟨b,o,none⟩=some v)(hS:∀b,S b→S' b){p:Option Addr}{l:List (List St)}(h:ThsAt w S p l):ThsAt w' S' p l:=by
 obtain⟨sl,h1,h2,h3⟩:=h;refine⟨sl,h1,h2.imp id fun ⟨g,a1,a2,a3⟩=>⟨g,a1,hS g a2,fun j u hj=>hk g j u a2 (a3 j u hj)⟩,fun j a b=>?_⟩;obtain⟨q,c,e1,e2⟩:=h3 j a b;exact⟨q,c,e1,e2.keepS fun b o v hb hc=>⟨hk b o v hb hc,hS b hb⟩⟩
theorem must_len:∀{L:List (List UInt8)}{its r:List Item},CQ L its=some r→r.length≤its.length
 |[],its,r,h=>by unfold CQ at h;cases h;omega
 | s::L,its,r,h=>by
  unfold CQ at h;split at h
  ·have:=must_len h;rw[List.length_tail]at this;omega
  ·cases h
theorem p_put0 {w:World}{B:Nat}{a b c:Value}{T:TypeId}(h:w.heap[B]?=some (.cells #[a,b,c] T (0,0)))(v:Value):∃w',w'=w.setCell ⟨B,0,none⟩ v∧w'.heap[B]?=some (.cells #[v,b,c] T (0,0))∧BA (fun k=>k=B) w w':=⟨_,rfl,put1 (i:=0) h v,BA.setCell _ _ _ rfl⟩
end Go.Proofs.YtknnmidnodeanaaGreatDoor
