import Derived.Test.YtomlffobbkcmdaaGreatDoorJs5
set_option maxHeartbeats 4000000
namespace Go.Proofs.YtomlffobbkcmdaaGreatDoor
open Go Go.RowKit Own
open Go.Lib (hid)
def RowI (w:World)(p:Option Addr)(its:List Item):Prop:=∀i (h:i<its.length),∃g o,p=some ⟨g,o,none⟩∧
 w.cell? ⟨g,o+i * 5,none⟩=some (.int .i64 its[i].tok.kind)∧w.cell? ⟨g,o+i * 5+1,none⟩=some (strV its[i].tok.text)∧w.cell? ⟨g,o+i * 5+2,none⟩=some (.int .i64 its[i].tok.num)∧
 w.cell? ⟨g,o+i * 5+3,none⟩=some (.int .i64 its[i].line)∧w.cell? ⟨g,o+i * 5+4,none⟩=some (.int .i64 its[i].col)
theorem RowI.keep {E:Nat→Prop}{w w':World}{p:Option Addr}{its:List Item}(h:RowI w p its)(k:BA E w w')(hE:∀a,p=some a→¬E a.block):RowI w' p its:=fun i hi=>by
 obtain⟨g,o,h1,h2,h3,h4,h5,h6⟩:=h i hi
 have hn:¬E g:=hE _ h1
 exact⟨g,o,h1,k.cell h2 hn,k.cell h3 hn,k.cell h4 hn,k.cell h5 hn,k.cell h6 hn⟩
theorem RowI.tail {w:World}{g o:Nat}{t:Item}{its:List Item}(h:RowI w (some ⟨g,o,none⟩) (t::its)):RowI w (some ⟨g,o+5,none⟩) its:=fun i hi=>by
 obtain⟨g',o',h1,h2,h3,h4,h5,h6⟩:=h (i+1) (by simpa using hi)
 cases h1
 refine⟨g,o+5,rfl,?_⟩
 simp only[List.getElem_cons_succ]at h2 h3 h4 h5 h6
 rw[show o+5+i * 5=o+(i+1) * 5 by omega]
 exact⟨h2,h3,h4,h5,h6⟩
abbrev TEx:TypeId:=24
mutual
def ExAt (w:World)(S:Nat→Prop):List Value→Ex→Prop
 |vs,.mk k o n nm l c kids=>∃p cap,vs=[.int .i64 k,.int .i64 o,.int .i64 n,strV nm,.slice p kids.length cap,.int .i64 l,.int .i64 c]∧CD w S p 0 kids
def CD (w:World)(S:Nat→Prop)(p:Option Addr):Nat→List Ex→Prop
 |_,[]=>True
 |i,x::l=>(∃g o vs,p=some ⟨g,o,none⟩∧S g∧(∀j v,vs[j]?=some v→w.cell? ⟨g,o+i * 7+j,none⟩=some v)∧ExAt w S vs x)∧CD w S p (i+1) l
end
mutual
theorem ExAt.keepS {w w':World}{S S':Nat→Prop}(hk:∀b o v,S b→w.cell? ⟨b,o,none⟩=some v→w'.cell? ⟨b,o,none⟩=some v∧S' b):∀{vs:List Value}{e:Ex},ExAt w S vs e→ExAt w' S' vs e
 | vs,.mk kk o n nm l c kids,h=>by
  unfold ExAt at h ⊢
  obtain⟨p,cap,h1,h2⟩:=h
  exact⟨p,cap,h1,CD.keepS hk h2⟩
theorem CD.keepS {w w':World}{S S':Nat→Prop}(hk:∀b o v,S b→w.cell? ⟨b,o,none⟩=some v→w'.cell? ⟨b,o,none⟩=some v∧S' b):∀{p:Option Addr}{i:Nat}{l:List Ex},CD w S p i l→CD w' S' p i l
 |p,i,[],_=>by unfold CD;trivial
 | p,i,x::l,h=>by
  unfold CD at h ⊢
  obtain⟨⟨g,o,vs,h1,h2,h3,h4⟩,h5⟩:=h
  have hv:∃v,vs[0]?=some v:=by
   cases x with
   | mk k o n nm l c kids=>
    unfold ExAt at h4
    obtain⟨p,cap,h6,-⟩:=h4
    exact⟨_,by rw[h6];rfl⟩
  obtain⟨v0,hv0⟩:=hv
  exact⟨⟨g,o,vs,h1,(hk g _ _ h2 (h3 0 v0 hv0)).2,fun j v hj=>(hk g _ _ h2 (h3 j v hj)).1,ExAt.keepS hk h4⟩,CD.keepS hk h5⟩
end
theorem ExAt.keep {E:Nat→Prop}{w w':World}{S:Nat→Prop}(k:BA E w w')(hE:∀b,S b→¬E b){vs:List Value}{e:Ex}(h:ExAt w S vs e):ExAt w' S vs e:=
 h.keepS fun b _ _ hb hc=>⟨k.cell hc (hE b hb),hb⟩
theorem ExAt.inHeap {w:World}{S:Nat→Prop}{vs:List Value}{e:Ex}(h:ExAt w S vs e):ExAt w (fun b=>S b∧b<w.heap.size) vs e:=
 h.keepS fun _ _ _ hb hc=>⟨hc,hb,World.block_lt_of_cell? w _ hc⟩
theorem ExAt.mono {w:World}{S S':Nat→Prop}(hS:∀b,S b→S' b){vs:List Value}{e:Ex}(h:ExAt w S vs e):ExAt w S' vs e:=
 h.keepS fun _ _ _ hb hc=>⟨hc,hS _ hb⟩
theorem CD.mono {w:World}{S S':Nat→Prop}(hS:∀b,S b→S' b){p:Option Addr}{i:Nat}{l:List Ex}(h:CD w S p i l):CD w S' p i l:=
 h.keepS fun _ _ _ hb hc=>⟨hc,hS _ hb⟩
theorem CD.keep {E:Nat→Prop}{w w':World}{S:Nat→Prop}(k:BA E w w')(hE:∀b,S b→¬E b){p:Option Addr}{i:Nat}{l:List Ex}(h:CD w S p i l):CD w' S p i l:=
 h.keepS fun b _ _ hb hc=>⟨k.cell hc (hE b hb),hb⟩
theorem kids_two {w:World}{S:Nat→Prop}{G:Nat}{vs us:List Value}{x y:Ex}(hG:w.heap[G]?=some (.cells (vs++us).toArray TEx (0,0)))(hS:S G)(hv:vs.length=7)(hx:ExAt w S vs x)(hy:ExAt w S us y):CD w S (some ⟨G,0,none⟩) 0 [x,y]:=by
 have hc:∀j v,(vs++us)[j]?=some v→w.cell? ⟨G,j,none⟩=some v:=fun j v hj=>BJ hG (by simpa using hj)
 unfold CD
 refine⟨⟨G,0,vs,rfl,hS,fun j v hj=>?_,hx⟩,?_⟩
 ·have hlt:j<vs.length:=(List.getElem?_eq_some_iff.1 hj).1
  rw[show 0+0 * 7+j=j by omega]
  exact hc j v (by rw[List.getElem?_append_left hlt];exact hj)
 ·unfold CD
  refine⟨⟨G,0,us,rfl,hS,fun j v hj=>?_,hy⟩,by unfold CD;trivial⟩
  rw[show 0+(0+1) * 7+j=7+j by omega]
  exact hc (7+j) v (by rw[List.getElem?_append_right (by omega),hv,Nat.add_sub_cancel_left];exact hj)
theorem kids_one {w:World}{S:Nat→Prop}{G:Nat}{vs:List Value}{x:Ex}(hG:w.heap[G]?=some (.cells vs.toArray TEx (0,0)))(hS:S G)(hx:ExAt w S vs x):CD w S (some ⟨G,0,none⟩) 0 [x]:=by
 unfold CD
 refine⟨⟨G,0,vs,rfl,hS,fun j v hj=>?_,hx⟩,by unfold CD;trivial⟩
 rw[show 0+0 * 7+j=j by omega]
 exact BJ hG (by simpa using hj)
theorem Own.BA.newM {E F:Nat→Prop}{w w' w'':World}(h:BA E w w')(k:BA F w' w'')(hF:∀b,F b→E b∨w.heap.size≤b):BA E w w'':=
 ⟨k.os.trans h.os,k.tape.trans h.tape,k.output.trans h.output,Nat.le_trans h.size k.size,fun b hb hE=>(k.block b (Nat.lt_of_lt_of_le hb h.size) fun e=>(hF b e).elim hE fun h=>absurd hb (by omega)).trans (h.block b hb hE)⟩
theorem Own.BA.newE {E F:Nat→Prop}{w w' w'':World}(h:BA E w w')(k:BA F w' w'')(hF:∀b,F b→w.heap.size≤b):BA E w w'':=
 ⟨k.os.trans h.os,k.tape.trans h.tape,k.output.trans h.output,Nat.le_trans h.size k.size,fun b hb hE=>(k.block b (Nat.lt_of_lt_of_le hb h.size) fun e=>by have:=hF b e;omega).trans (h.block b hb hE)⟩
abbrev TRd:TypeId:=78
structure BE (w:World)(R:Nat)(its:List Item)(el ec:Nat):Prop where
 ex:∃p c,w.heap[R]?=some (.cells #[.slice p its.length c,.int .i64 0,.string ⟨#[]⟩,.int .i64 0,.int .i64 el,.int .i64 ec] TRd (0,0))∧RowI w p its∧(∀a,p=some a→a.block<R)∧its.length≤c∧c≤9223372036854775807
theorem BE.keep {E:Nat→Prop}{w w':World}{R:Nat}{its:List Item}{el ec:Nat}(h:BE w R its el ec)(k:BA E w w')(hE:∀b,b≤R→¬E b):BE w' R its el ec:=by
 obtain⟨p,c,h1,h2,h3,h4⟩:=h.ex
 exact⟨p,c,k.blkE h1 (hE R (Nat.le_refl _)),h2.keep k fun a ha=>hE _ (by have:=h3 a ha;omega),h3,h4⟩
theorem BE.lt {w:World}{R:Nat}{its:List Item}{el ec:Nat}(h:BE w R its el ec):R<w.heap.size:=by
 obtain⟨p,c,h1,-⟩:=h.ex
 exact(AG.1 h1).1
theorem blk6 {w:World}{B:Nat}{a b c d e f:Value}{T:TypeId}(h:w.heap[B]?=some (.cells #[a,b,c,d,e,f] T (0,0))):
  w.cell? ⟨B,0,none⟩=some a∧w.cell? ⟨B,1,none⟩=some b∧w.cell? ⟨B,2,none⟩=some c∧w.cell? ⟨B,3,none⟩=some d∧w.cell? ⟨B,4,none⟩=some e∧w.cell? ⟨B,5,none⟩=some f∧w.frozen? ⟨B,0,none⟩=false:=by
 simp[World.cell?,World.frozen?,h]
theorem blk7 {w:World}{B:Nat}{a b c d e f g:Value}{T:TypeId}(h:w.heap[B]?=some (.cells #[a,b,c,d,e,f,g] T (0,0))):
  w.cell? ⟨B,0,none⟩=some a∧w.cell? ⟨B,1,none⟩=some b∧w.cell? ⟨B,2,none⟩=some c∧w.cell? ⟨B,3,none⟩=some d∧w.cell? ⟨B,4,none⟩=some e∧w.cell? ⟨B,5,none⟩=some f∧w.cell? ⟨B,6,none⟩=some g∧
  (w.frozen? ⟨B,0,none⟩=false∧w.frozen? ⟨B,1,none⟩=false∧w.frozen? ⟨B,2,none⟩=false∧w.frozen? ⟨B,3,none⟩=false∧w.frozen? ⟨B,4,none⟩=false∧w.frozen? ⟨B,5,none⟩=false∧w.frozen? ⟨B,6,none⟩=false):=by
 simp[World.cell?,World.frozen?,h]
theorem put7 {w:World}{B:Nat}{a b c d e f g:Value}{T:TypeId}(h:w.heap[B]?=some (.cells #[a,b,c,d,e,f,g] T (0,0)))(v0 v1 v2 v3 v4 v5 v6:Value):
  ∃wf,wf=((((((w.setCell ⟨B,0,none⟩ v0).setCell ⟨B,1,none⟩ v1).setCell ⟨B,2,none⟩ v2).setCell ⟨B,3,none⟩ v3).setCell ⟨B,4,none⟩ v4).setCell ⟨B,5,none⟩ v5).setCell ⟨B,6,none⟩ v6∧wf.heap[B]?=some (.cells #[v0,v1,v2,v3,v4,v5,v6] T (0,0))∧BA (fun k=>k=B) w wf:=by
 refine⟨_,rfl,?_,?_⟩
 ·have h0:=put1 (i:=0) h v0
  simp only[List.setIfInBounds_toArray,List.set_cons_zero]at h0
  have h1:=put1 (i:=1) h0 v1
  simp only[LS]at h1
  have h2:=put1 (i:=2) h1 v2
  simp only[LS]at h2
  have h3:=put1 (i:=3) h2 v3
  simp only[LS]at h3
  have h4:=put1 (i:=4) h3 v4
  simp only[LS]at h4
  have h5:=put1 (i:=5) h4 v5
  simp only[LS]at h5
  have h6:=put1 (i:=6) h5 v6
  simp only[LS]at h6
  exact h6
 ·have s:=fun (w:World) (i:Nat) (v:Value)=>BA.setCell (E:=fun k=>k=B) w ⟨B,i,none⟩ v rfl
  exact((((((s _ _ _).trans (s _ _ _)).trans (s _ _ _)).trans (s _ _ _)).trans (s _ _ _)).trans (s _ _ _)).trans (s _ _ _)
def peekV (its:List Item)(el ec:Nat):Value:=
 match its with
 |t::_=>.agg #[.int .i64 t.tok.kind,strV t.tok.text,.int .i64 t.tok.num,.int .i64 t.line,.int .i64 t.col]
 |[]=>.agg #[.int .i64 0,.string ⟨#[]⟩,.int .i64 0,.int .i64 el,.int .i64 ec]
theorem BE.took {w:World}{R:Nat}{t:Item}{its:List Item}{el ec:Nat}(h:BE w R (t::its) el ec):∃g o c,w.heap[R]?=some (.cells #[.slice (some ⟨g,o,none⟩) (its.length+1) c,.int .i64 0,.string ⟨#[]⟩,.int .i64 0,.int .i64 el,.int .i64 ec] TRd (0,0))∧its.length+1≤c∧(c≤9223372036854775807∧g<R)∧
  (w.cell? ⟨g,o,none⟩=some (.int .i64 t.tok.kind)∧w.cell? ⟨g,o+1,none⟩=some (strV t.tok.text)∧w.cell? ⟨g,o+2,none⟩=some (.int .i64 t.tok.num)∧w.cell? ⟨g,o+3,none⟩=some (.int .i64 t.line)∧w.cell? ⟨g,o+4,none⟩=some (.int .i64 t.col))∧
  ∀q c',(its=[]∨q=some ⟨g,o+5,none⟩)→(∀a,q=some a→a.block<R)→its.length≤c'→c'≤9223372036854775807→BE (w.setCell ⟨R,0,none⟩ (.slice q its.length c')) R its el ec:=by
 obtain⟨p,c,h1,h2,h3,h4,h5⟩:=h.ex
 obtain⟨g,o,hp,q1,q2,q3,q4,q5⟩:=h2 0 (by simp)
 subst hp
 simp only[List.getElem_cons_zero,Nat.zero_mul,Nat.add_zero]at q1 q2 q3 q4 q5
 refine⟨g,o,c,h1,h4,⟨h5,h3 _ rfl⟩,⟨q1,q2,q3,q4,q5⟩,fun q c' hq hb hc hc2=>⟨q,c',put1 (i:=0) h1 _,?_,hb,hc,hc2⟩⟩
 rcases hq with rfl|rfl
 ·exact fun i hi=>absurd hi (by simp)
 ·exact h2.tail.keep (BA.setCell (E:=fun b=>b=R) _ _ _ rfl) fun a ha e=>by
   have:=hb a ha
   have e:a.block=R:=e
   omega
theorem BE.took2 {w:World}{R:Nat}{t:Item}{its:List Item}{el ec:Nat}(h:BE w R (t::its) el ec):∃g o c,w.heap[R]?=some (.cells #[.slice (some ⟨g,o,none⟩) (its.length+1) c,.int .i64 0,.string ⟨#[]⟩,.int .i64 0,.int .i64 el,.int .i64 ec] TRd (0,0))∧its.length+1≤c∧(c≤9223372036854775807∧g<R)∧
  ∀ w' q c',(its=[]∨q=some ⟨g,o+5,none⟩)→(∀a,q=some a→a.block<R)→its.length≤c'→c'≤9223372036854775807→BA (fun b=>b=R) w w'→
   w'.heap[R]?=some (.cells #[.slice q its.length c',.int .i64 0,.string ⟨#[]⟩,.int .i64 0,.int .i64 el,.int .i64 ec] TRd (0,0))→BE w' R its el ec:=by
 obtain⟨p,c,h1,h2,h3,h4,h5⟩:=h.ex
 obtain⟨g,o,hp,-⟩:=h2 0 (by simp)
 subst hp
 refine⟨g,o,c,h1,h4,⟨h5,h3 _ rfl⟩,fun w' q c' hq hb hc hc2 k hw=>⟨q,c',hw,?_,hb,hc,hc2⟩⟩
 rcases hq with rfl|rfl
 ·exact fun i hi=>absurd hi (by simp)
 ·exact h2.tail.keep k fun a ha e=>by
   have:=hb a ha
   have e:a.block=R:=e
   omega
abbrev rdV (R:Nat):Value:=.pointer (some ⟨R,0,none⟩)
abbrev TTk:TypeId:=76
theorem peek_any (w:World)(R:Nat)(its:List Item)(el ec:Nat)(h:BE w R its el ec):
  Calls Tryz.prog 74 #[rdV R] w fun e w'=>e=.returned (peekV its el ec)∧BA (fun _=>False) w w':=by
 obtain⟨V,B,hV,hB,hb,hk,hs⟩:=BC w (.cells #[.int .i64 0,.string ⟨#[]⟩,.int .i64 0,.int .i64 0,.int .i64 0] TTk)
 have HK:=hid hk;have HB:=hid hb
 have HN:=hid (show w.heap.size≤B by omega)
 have hR:=h.keep hk fun _ _ e=>e
 obtain⟨n0,n1,n2,n3,n4,f0,f1,f2,f3,f4⟩:=blk5 hb
 cases its with
 | nil=>
  obtain⟨p,c,h1,-⟩:=hR.ex
  obtain⟨b0,b1,b2,b3,b4,b5,-⟩:=blk6 h1
  clear h hR h1 hk hs hb
  go_enter Tryz.func74,Tryz.ntmps74
  go_upto_region 1 with fail
  rw[←hV,←hB]
  clear hV hB
  go_wp2_with fail
  obtain⟨wf,hwf,hp,hkp⟩:=put5 HB.out (.int .i64 0) (.string ⟨#[]⟩) (.int .i64 0) (.int .i64 el) (.int .i64 ec)
  rw[←hwf]
  obtain⟨c0,c1,c2,c3,c4,-⟩:=blk5 hp
  exact bodyPost_ret (v:=peekV [] el ec) (by simp[results,Tryz.results74,go_sem,c0,c1,c2,c3,c4,peekV]) rfl ⟨rfl,HK.out.new hkp fun k e=>by have h2:k=B:=e;have:=HN.out;omega⟩
 | cons t r=>
  obtain⟨g,o,c,h1,h2,h3,⟨q0,q1,q2,q3,q4⟩,-⟩:=hR.took
  obtain⟨b0,-⟩:=blk6 h1
  obtain⟨S,hS⟩:∃S,strV t.tok.text=.string S:=⟨_,rfl⟩
  have HPV:=hid (show peekV (t::r) el ec=.agg #[.int .i64 t.tok.kind,.string S,.int .i64 t.tok.num,.int .i64 t.line,.int .i64 t.col] by show Value.agg #[_,strV t.tok.text,_,_,_]=_;rw[hS])
  rw[hS]at q1
  have hlen:¬((r.length:Int)+1=0):=by omega
  have hl0:(0:Int)<(r.length:Int)+1:=by omega
  clear h hR h1 h2 h3 hk hs hb hS
  go_enter Tryz.func74,Tryz.ntmps74
  go_upto_region 1 with fail
  rw[←hV,←hB]
  clear hV hB
  go_wp2_with fail
  obtain⟨wf,hwf,hp,hkp⟩:=put5 HB.out (.int .i64 t.tok.kind) (.string S) (.int .i64 t.tok.num) (.int .i64 t.line) (.int .i64 t.col)
  rw[←hwf]
  obtain⟨c0,c1,c2,c3,c4,-⟩:=blk5 hp
  exact bodyPost_ret (v:=peekV (t::r) el ec) (by rw[HPV.out];simp[results,Tryz.results74,go_sem,c0,c1,c2,c3,c4]) rfl ⟨rfl,HK.out.new hkp fun k e=>by have h2:k=B:=e;have:=HN.out;omega⟩
theorem str_list (l:List UInt8):(⟨l.toArray⟩:ByteArray).toList=l:=by simp
theorem headIs_peek {its:List Item}{s:List UInt8}{k n l c:Int}{S:ByteArray}{el ec:Nat}(h:peekV its el ec=.agg #[.int .i64 k,.string S,.int .i64 n,.int .i64 l,.int .i64 c]):BI its s=(decide (S.toList=s) && (decide (k=4) || decide (k=1))):=by
 cases its with
 | nil=>
  unfold peekV at h
  simp only[Value.agg.injEq,Array.mk.injEq,List.cons.injEq,Value.int.injEq,Value.string.injEq,true_and]at h
  obtain⟨rfl,rfl,-⟩:=h
  simp[BI]
 | cons t r=>
  unfold peekV strV at h
  simp only[Value.agg.injEq,Array.mk.injEq,List.cons.injEq,Value.int.injEq,Value.string.injEq,true_and]at h
  obtain⟨rfl,rfl,-⟩:=h
  rw[str_list]
  unfold BI isT
  dsimp only
  congr 1
  ·rw[Bool.eq_iff_iff,beq_iff_eq,decide_eq_true_eq]
  rw[Bool.eq_iff_iff,Bool.or_eq_true,Bool.or_eq_true,beq_iff_eq,beq_iff_eq,decide_eq_true_eq,decide_eq_true_eq]
  omega
theorem peekV_form (its:List Item)(el ec:Nat):∃k n l c S,peekV its el ec=.agg #[.int .i64 k,.string S,.int .i64 n,.int .i64 l,.int .i64 c]:=by
 cases its with
 |nil=>exact⟨_,_,_,_,_,rfl⟩
 |cons t r=>exact⟨_,_,_,_,_,rfl⟩
theorem is_any (w:World)(R:Nat)(its:List Item)(el ec:Nat)(h:BE w R its el ec)(s:List UInt8):
  Calls Tryz.prog 100 #[rdV R,.string ⟨s.toArray⟩] w fun e w'=>e=.returned (.bool (BI its s))∧BA (fun _=>False) w w':=by
 have HP:=hid (peek_any w R its el ec h)
 obtain⟨k,n,l,c,S,hp⟩:=peekV_form its el ec
 have HH:=hid (headIs_peek (s:=s) hp)
 rw[hp]at HP
 rw[HH.out]
 clear hp h HH
 by_cases h1:S.toList=s
 ·rw[decide_eq_true h1,Bool.true_and]
  by_cases h2:k=4
  ·subst h2
   go_enter Tryz.func100,Tryz.ntmps100
   go_wp2_with fail
   go_at_call 74
   refine HP.out.mono ?_
   rintro e w1 ⟨rfl,hk⟩
   obtain⟨V,B,hV,hB,hb,hk1,hs⟩:=BC w1 (.cells #[.int .i64 4,.string S,.int .i64 n,.int .i64 l,.int .i64 c] TTk)
   have HK:=hid (hk.trans hk1)
   obtain⟨n0,n1,-⟩:=blk5 hb
   clear hb hs hk hk1
   go_upto_region 2 with fail
   rw[←hV,←hB]
   clear hV hB
   go_wp2_with fail
   go_ret
   exact⟨rfl,HK.out⟩
  ·rw[decide_eq_false h2,Bool.false_or]
   by_cases h3:k=1
   ·subst h3
    go_enter Tryz.func100,Tryz.ntmps100
    go_wp2_with fail
    go_at_call 74
    refine HP.out.mono ?_
    rintro e w1 ⟨rfl,hk⟩
    obtain⟨V,B,hV,hB,hb,hk1,hs⟩:=BC w1 (.cells #[.int .i64 1,.string S,.int .i64 n,.int .i64 l,.int .i64 c] TTk)
    have HK:=hid (hk.trans hk1)
    obtain⟨n0,n1,-⟩:=blk5 hb
    clear hb hs hk hk1
    go_upto_region 2 with fail
    rw[←hV,←hB]
    clear hV hB
    go_wp2_with fail
    go_ret
    exact⟨rfl,HK.out⟩
   ·rw[decide_eq_false h3]
    go_enter Tryz.func100,Tryz.ntmps100
    go_wp2_with fail
    go_at_call 74
    refine HP.out.mono ?_
    rintro e w1 ⟨rfl,hk⟩
    obtain⟨V,B,hV,hB,hb,hk1,hs⟩:=BC w1 (.cells #[.int .i64 k,.string S,.int .i64 n,.int .i64 l,.int .i64 c] TTk)
    have HK:=hid (hk.trans hk1)
    obtain⟨n0,n1,-⟩:=blk5 hb
    clear hb hs hk hk1
    go_upto_region 2 with fail
    rw[←hV,←hB]
    clear hV hB
    go_wp2_with fail
    go_ret
    have h2b:(k==4)=false:=by simpa using h2
    have h3b:(k==1)=false:=by simpa using h3
    exact⟨by show Ending.returned (.bool (k==4 || k==1))=_;rw[h2b,h3b];rfl,HK.out⟩
 ·rw[decide_eq_false h1,Bool.false_and]
  go_enter Tryz.func100,Tryz.ntmps100
  go_wp2_with fail
  go_at_call 74
  refine HP.out.mono ?_
  rintro e w1 ⟨rfl,hk⟩
  obtain⟨V,B,hV,hB,hb,hk1,hs⟩:=BC w1 (.cells #[.int .i64 k,.string S,.int .i64 n,.int .i64 l,.int .i64 c] TTk)
  have HK:=hid (hk.trans hk1)
  obtain⟨n0,n1,-⟩:=blk5 hb
  clear hb hs hk hk1
  go_upto_region 2 with fail
  rw[←hV,←hB]
  clear hV hB
  go_wp2_with fail
  go_ret
  exact⟨rfl,HK.out⟩
theorem CC (w:World)(R:Nat)(its:List Item)(el ec:Nat)(h:BE w R its el ec)(s:List UInt8):
  Calls Tryz.prog 101 #[rdV R,.string ⟨s.toArray⟩] w fun e w'=>e=.returned (.bool (BI its s))∧BE w' R (if BI its s=true then its.tail else its) el ec∧BA (fun b=>b=R) w w':=by
 have HI:=hid (is_any w R its el ec h s)
 have HR:=hid h
 clear h
 cases hb:BI its s with
 | false=>
  rw[hb]at HI
  go_enter Tryz.func101,Tryz.ntmps101
  go_wp2_with (go_at_call 100;refine HI.out.mono ?_;rintro e w1 ⟨rfl,hk⟩;have HK:=hid hk;clear hk)
  go_ret
  exact⟨rfl,HR.out.keep HK.out fun _ _ e=>e,HK.out.mono fun _ e=>e.elim⟩
 | true=>
  rw[hb]at HI
  cases its with
  |nil=>cases hb
  | cons t r=>
   clear hb
   go_enter Tryz.func101,Tryz.ntmps101
   go_wp2_with fail
   go_at_call 100
   refine HI.out.mono ?_
   rintro e w1 ⟨rfl,hk⟩
   have HK:=hid hk
   obtain⟨g,o,c,h1,h2,⟨h3,hg⟩,-,htk⟩:=(HR.out.keep hk fun _ _ e=>e).took
   have HTK:=hid htk;have HG:=hid hg;have H23:=hid (And.intro h2 h3)
   obtain⟨b0,-,-,-,-,-,f0⟩:=blk6 h1
   clear hk h1 htk hg h3
   by_cases hc:c=1
   ·subst hc
    obtain rfl:r=[]:=List.eq_nil_of_length_eq_zero (by omega)
    go_wp2_with fail
    go_ret
    exact⟨rfl,HTK.out (some ⟨g,o,none⟩) 0 (by simp) (fun a ha=>by cases ha;exact HG.out) (Nat.le_refl _) (by decide),(HK.out.mono fun _ e=>e.elim).trans (BA.setCell _ _ _ rfl)⟩
   ·go_wp2_with fail
    go_ret
    exact⟨rfl,HTK.out (some ⟨g,o+5,none⟩) (c - 1) (.inr rfl) (fun a ha=>by cases ha;exact HG.out) (by have:=H23.out;omega) (by have:=H23.out;omega),(HK.out.mono fun _ e=>e.elim).trans (BA.setCell _ _ _ rfl)⟩
theorem want_any (w:World)(R:Nat)(t:Item)(r:List Item)(el ec:Nat)(h:BE w R (t::r) el ec)(k:Int)(hk:(t.tok.kind:Int)=k):
  Calls Tryz.prog 77 #[rdV R,.int .i64 k] w fun e w'=>e=.returned (.agg #[.int .i64 t.tok.kind,strV t.tok.text,.int .i64 t.tok.num,.int .i64 t.line,.int .i64 t.col])∧BE w' R r el ec∧BA (fun b=>b=R) w w':=by
 obtain⟨V,B,hV,hB,hb,hk0,hs⟩:=BC w (.cells #[.int .i64 0,.string ⟨#[]⟩,.int .i64 0,.int .i64 0,.int .i64 0] TTk)
 have hR:=h.keep hk0 fun _ _ e=>e
 have HP:=hid (peek_any V R (t::r) el ec hR)
 have HR:=hid hR
 obtain⟨S,hS⟩:∃S,strV t.tok.text=.string S:=⟨_,rfl⟩
 have hpv:peekV (t::r) el ec=.agg #[.int .i64 t.tok.kind,.string S,.int .i64 t.tok.num,.int .i64 t.line,.int .i64 t.col]:=by
  show Value.agg #[_,strV t.tok.text,_,_,_]=_
  rw[hS]
 rw[hpv,hk]at HP
 rw[hS,hk]
 obtain⟨tn,htn⟩:∃n:Int,(t.tok.num:Int)=n:=⟨_,rfl⟩
 obtain⟨tl,htl⟩:∃n:Int,(t.line:Int)=n:=⟨_,rfl⟩
 obtain⟨tc,htc⟩:∃n:Int,(t.col:Int)=n:=⟨_,rfl⟩
 rw[htn,htl,htc]at HP ⊢
 have HK0:=hid hk0;have HB:=hid hb
 have HN:=hid (show R<w.heap.size∧w.heap.size=B∧B<V.heap.size from⟨h.lt,by omega,by omega⟩)
 clear hR hk hk0 hb hs h hpv hS htn htl htc
 go_enter Tryz.func77,Tryz.ntmps77
 go_upto_region 1 with fail
 rw[←hV,←hB]
 clear hV hB
 go_wp2_with fail
 go_at_call 74
 refine HP.out.mono ?_
 rintro e w1 ⟨rfl,hk⟩
 obtain⟨W,C,hW,hC,hc,hk1,hs1⟩:=BC w1 (.cells #[.int .i64 k,.string S,.int .i64 tn,.int .i64 tl,.int .i64 tc] TTk)
 have HK1:=hid (hk.trans hk1)
 have HC:=hid hc
 have HCS:=hid (show V.heap.size≤C from by have:=hk.size;omega)
 obtain⟨g,o,c,h1,h2,⟨h3,hg⟩,-,htk⟩:=(HR.out.keep HK1.out fun _ _ e=>e).took
 have HTK:=hid htk;have HG:=hid hg;have H23:=hid (And.intro h2 h3)
 obtain⟨b0,-,-,-,-,-,f0⟩:=blk6 h1
 obtain⟨n0,n1,n2,n3,n4,-⟩:=blk5 hc
 clear hk hk1 hs1 hc h1 htk hg h3
 go_upto_region 2 with fail
 rw[←hW,←hC]
 clear hW hC
 go_upto_region 4 with fail
 clear n0 n1 n2 n3 n4
 have hfin:∀q c',BE (W.setCell ⟨R,0,none⟩ (.slice q r.length c')) R r el ec→Hid (∃wq,wq=W.setCell ⟨R,0,none⟩ (.slice q r.length c')∧BE wq R r el ec∧BA (fun b=>b=R) w wq∧wq.heap[C]?=some (.cells #[.int .i64 k,.string S,.int .i64 tn,.int .i64 tl,.int .i64 tc] TTk (0,0))∧wq.heap[B]?=some (.cells #[.int .i64 0,.string ⟨#[]⟩,.int .i64 0,.int .i64 0,.int .i64 0] TTk (0,0))):=fun q c' hq=>by
  have ks:BA (fun b=>b=R) W (W.setCell ⟨R,0,none⟩ (.slice q r.length c')):=BA.setCell _ _ _ rfl
  have hn:=HN.out
  have hcs:=HCS.out
  exact hid ⟨_,rfl,hq,((HK0.out.trans HK1.out).mono fun _ e=>e.elim).trans ks,ks.blkE HC.out fun e=>by have e:C=R:=e;omega,ks.blkE (HK1.out.blk HB.out) fun e=>by have e:B=R:=e;omega⟩
 have hend:∀wq,BE wq R r el ec→BA (fun b=>b=R) w wq→wq.heap[B]?=some (.cells #[.int .i64 0,.string ⟨#[]⟩,.int .i64 0,.int .i64 0,.int .i64 0] TTk (0,0))→∃wf,wf=((((wq.setCell ⟨B,0,none⟩ (.int .i64 k)).setCell ⟨B,1,none⟩ (.string S)).setCell ⟨B,2,none⟩ (.int .i64 tn)).setCell ⟨B,3,none⟩ (.int .i64 tl)).setCell ⟨B,4,none⟩ (.int .i64 tc)∧wf.heap[B]?=some (.cells #[.int .i64 k,.string S,.int .i64 tn,.int .i64 tl,.int .i64 tc] TTk (0,0))∧BE wf R r el ec∧BA (fun b=>b=R) w wf:=fun wq hr hkw hbq=>by
  obtain⟨wf,hwf,hp,hkp⟩:=put5 hbq (.int .i64 k) (.string S) (.int .i64 tn) (.int .i64 tl) (.int .i64 tc)
  have hn:=HN.out
  exact⟨wf,hwf,hp,hr.keep hkp fun b hb e=>by have e:b=B:=e;omega,hkw.newE hkp fun b e=>by have e:b=B:=e;omega⟩
 have HEND:=hid hend
 by_cases hc:c=1
 ·subst hc
  obtain rfl:r=[]:=List.eq_nil_of_length_eq_zero (by omega)
  have hq:Hid (∃wq,wq=W.setCell ⟨R,0,none⟩ (.slice (some ⟨g,o,none⟩) 0 0)∧BE wq R [] el ec∧BA (fun b=>b=R) w wq∧wq.heap[C]?=some (.cells #[.int .i64 k,.string S,.int .i64 tn,.int .i64 tl,.int .i64 tc] TTk (0,0))∧wq.heap[B]?=some (.cells #[.int .i64 0,.string ⟨#[]⟩,.int .i64 0,.int .i64 0,.int .i64 0] TTk (0,0))):=hfin _ _ (HTK.out (some ⟨g,o,none⟩) 0 (.inl rfl) (fun a ha=>by cases ha;exact HG.out) (Nat.le_refl _) (by decide))
  clear hfin hend
  go_upto_region 5 with fail
  obtain⟨wq,hwq,hr,hkw,hcq,hbq⟩:=hq.out
  rw[←hwq]
  clear hq hwq
  obtain⟨n0,n1,n2,n3,n4,-⟩:=blk5 hcq
  obtain⟨m0,m1,m2,m3,m4,f0,f1,f2,f3,f4⟩:=blk5 hbq
  have HR9:=hid hr;have HK9:=hid hkw;have HB9:=hid hbq
  clear hr hkw hcq hbq b0
  go_wp2_with fail
  obtain⟨wf,hwf,hp,hrf,hkf⟩:=HEND.out _ HR9.out HK9.out HB9.out
  rw[←hwf]
  obtain⟨c0,c1,c2,c3,c4,-⟩:=blk5 hp
  exact bodyPost_ret (v:=.agg #[.int .i64 k,.string S,.int .i64 tn,.int .i64 tl,.int .i64 tc]) (by simp[results,Tryz.results77,go_sem,c0,c1,c2,c3,c4]) rfl ⟨rfl,hrf,hkf⟩
 ·have hq:=hfin _ _ (HTK.out (some ⟨g,o+5,none⟩) (c - 1) (.inr rfl) (fun a ha=>by cases ha;exact HG.out) (by omega) (by have:=H23.out;omega))
  clear hfin hend
  go_upto_region 5 with fail
  obtain⟨wq,hwq,hr,hkw,hcq,hbq⟩:=hq.out
  rw[←hwq]
  clear hq hwq
  obtain⟨n0,n1,n2,n3,n4,-⟩:=blk5 hcq
  obtain⟨m0,m1,m2,m3,m4,f0,f1,f2,f3,f4⟩:=blk5 hbq
  have HR9:=hid hr;have HK9:=hid hkw;have HB9:=hid hbq
  clear hr hkw hcq hbq b0
  go_wp2_with fail
  obtain⟨wf,hwf,hp,hrf,hkf⟩:=HEND.out _ HR9.out HK9.out HB9.out
  rw[←hwf]
  obtain⟨c0,c1,c2,c3,c4,-⟩:=blk5 hp
  exact bodyPost_ret (v:=.agg #[.int .i64 k,.string S,.int .i64 tn,.int .i64 tl,.int .i64 tc]) (by simp[results,Tryz.results77,go_sem,c0,c1,c2,c3,c4]) rfl ⟨rfl,hrf,hkf⟩
theorem field_text (a b c d e:Value)(w:World):(Instr.field TTk (.agg #[a,b,c,d,e]) 1).run Tryz.prog w=.ok b w:=by kernel_rfl
theorem field_num (a b c d e:Value)(w:World):(Instr.field TTk (.agg #[a,b,c,d,e]) 2).run Tryz.prog w=.ok c w:=by kernel_rfl
theorem name_any (w:World)(R:Nat)(t:Item)(r:List Item)(el ec:Nat)(h:BE w R (t::r) el ec)(hk:t.tok.kind=2):
  Calls Tryz.prog 79 #[rdV R] w fun e w'=>e=.returned (strV t.tok.text)∧BE w' R r el ec∧BA (fun b=>b=R) w w':=by
 have HW:=hid (want_any w R t r el ec h 2 (by omega))
 obtain⟨S,hS⟩:∃S,strV t.tok.text=.string S:=⟨_,rfl⟩
 rw[hS]at HW ⊢
 clear h hk hS
 go_enter Tryz.func79,Tryz.ntmps79
 go_wp2_with fail
 go_at_call 77
 refine HW.out.mono ?_
 rintro e w1 ⟨rfl,hr,hk⟩
 have HR:=hid hr;have HK:=hid hk;clear hr hk
 have hf:=field_text (.int .i64 t.tok.kind) (.string S) (.int .i64 t.tok.num) (.int .i64 t.line) (.int .i64 t.col) w1
 go_wp2_with fail
 go_ret
 exact⟨rfl,HR.out,HK.out⟩
def RowS (w:World)(p:Option Addr)(L:List (List UInt8)):Prop:=∀i (h:i<L.length),∃g o,p=some ⟨g,o,none⟩∧w.cell? ⟨g,o+i,none⟩=some (.string ⟨L[i].toArray⟩)
theorem RowS.keep {E:Nat→Prop}{w w':World}{p:Option Addr}{L:List (List UInt8)}(h:RowS w p L)(k:BA E w w')(hE:∀a,p=some a→¬E a.block):RowS w' p L:=fun i hi=>by
 obtain⟨g,o,h1,h2⟩:=h i hi
 have hn:¬E g:=hE _ h1
 exact⟨g,o,h1,k.cell h2 hn⟩
theorem must_any (w:World)(R:Nat)(its:List Item)(el ec:Nat)(h:BE w R its el ec)(p:Option Addr)(c:Nat)(L:List (List UInt8))(hp:RowS w p L)(hpR:∀a,p=some a→a.block≠R)(hl:L.length≤1000)(r:List Item)(hm:CY L its=some r):
  Calls Tryz.prog 76 #[rdV R,.slice p L.length c] w fun e w'=>e=.returned (.tuple #[])∧BE w' R r el ec∧BA (fun b=>b=R) w w':=by
 have HR:=hid h;have HP:=hid hp;have HPR:=hid hpR;have HM:=hid hm
 clear h hp hpR hm
 go_enter Tryz.func76,Tryz.ntmps76
 go_wp2_with fail
 go_loopw [8] (fun v8 wr=>∃(i:Nat) (its':List Item),v8=.int .i64 i∧i≤L.length∧CY (L.drop i) its'=some r∧BE wr R its' el ec∧BA (fun b=>b=R) w wr) (fun v _=>L.length - (intOf v).toNat)
 case atStart=>exact⟨0,its,rfl,Nat.zero_le _,HM.out,HR.out,BA.refl _ _⟩
 case round=>
  obtain⟨i,its',rfl,hi,hm,hr,hk⟩:=hrel
  have HM:=hid hm;have HR:=hid hr;have HK:=hid hk
  by_cases hlt:i<L.length
  ·have hlti:(i:Int)<L.length:=by omega
   have hi0:(0:Int)≤i:=by omega
   have hWi:IntKind.i64.wrap ((i:Int)+1)=(i:Int)+1:=IntWalk.i64_in _ (by omega)
   obtain⟨g,o,hp,hc⟩:=HP.out.keep hk HPR.out i hlt
   have HMY:=hid (CC wr R its' el ec hr L[i])
   subst hp
   rw[List.drop_eq_getElem_cons hlt]at hm
   obtain⟨s,hs⟩:∃s,L[i]=s:=⟨_,rfl⟩
   rw[hs]at hm hc HMY
   unfold CY at hm
   cases hh:BI its' s with
   |false=>rw[hh]at hm;cases hm
   | true=>
    rw[hh]at hm HMY
    have HM2:=hid hm
    clear hm hr hk hs hh
    go_wp2_with (go_at_call 101;refine HMY.out.mono ?_;rintro e w1 ⟨rfl,hr,hk⟩;have HR2:=hid hr;have HK2:=hid hk;clear hr hk)
    exact⟨⟨i+1,its'.tail,by simp,by omega,HM2.out,HR2.out,HK.out.trans HK2.out⟩,by simp only[intOf];omega⟩
  ·have hnl:¬(i:Int)<L.length:=by omega
   have e:i=L.length:=by omega
   rw[e,List.drop_length]at hm
   have e2:its'=r:=by unfold CY at hm;exact Option.some.inj hm
   subst e2
   clear hm hr hk e
   go_wp2_with fail
   exact bodyPost_end (results_none Tryz.results76 _ _ _) rfl ⟨rfl,HR.out,HK.out⟩
def signsV:Array Value:=#[.string ⟨#[]⟩,.string ⟨#[42]⟩,.string ⟨#[47]⟩,.string ⟨#[37]⟩,.string ⟨#[43]⟩,.string ⟨#[45]⟩,.string ⟨#[60]⟩,.string ⟨#[60,61]⟩,.string ⟨#[62]⟩,.string ⟨#[62,61]⟩,.string ⟨#[61,61]⟩,.string ⟨#[33,61]⟩,.string ⟨#[38]⟩,.string ⟨#[124]⟩]
theorem signs_at {op:Nat}(h:op<14):signsV[op]?=some (.string ⟨(GC.getD op []).toArray⟩):=by
 have key:op=0∨op=1∨op=2∨op=3∨op=4∨op=5∨op=6∨op=7∨op=8∨op=9∨op=10∨op=11∨op=12∨op=13:=by omega
 rcases key with rfl|rfl|rfl|rfl|rfl|rfl|rfl|rfl|rfl|rfl|rfl|rfl|rfl|rfl<;>rfl
abbrev TSg:TypeId:=112
theorem signs_any (w:World):Calls Tryz.prog 62 #[] w fun e w'=>e=.returned (.agg signsV)∧BA (fun _=>False) w w':=by
 obtain⟨V,B,hV,hB,hb,hk,hs⟩:=BC w (.cells signsV TSg)
 have HK:=hid hk
 unfold signsV at hV hb ⊢
 clear hk hs
 go_enter Tryz.func62,Tryz.ntmps62
 go_wp2_with fail
 rw[←hV,←hB]
 refine bodyPost_ret (v:=.agg signsV) ?_ rfl ⟨rfl,HK.out⟩
 unfold signsV
 simp[results,Tryz.results62,go_sem,World.cell?,hb]
def opsI (ops:List Nat):List Int:=ops.map fun (n:Nat)=>(n:Int)
structure OpsAt (w:World)(B3 B7 R:Nat):Prop where
 rd:w.heap[B3]?=some (.cells #[rdV R] 72 (0,0))
 sg:w.heap[B7]?=some (.cells signsV TSg (0,0))
theorem rowFn_any (w:World)(B3 B7 R:Nat)(hO:OpsAt w B3 B7 R)(its:List Item)(el ec:Nat)(h:BE w R its el ec)(op:Nat)(hop:op<14):
  Calls Tryz.prog 99 #[.int .i64 op,.pointer (some ⟨B3,0,none⟩),.pointer (some ⟨B7,0,none⟩)] w fun e w'=>e=.returned (.bool (BI its (GC.getD op [])))∧BA (fun _=>False) w w':=by
 have x3:w.cell? ⟨B3,0,none⟩=some (rdV R):=BJ hO.rd rfl
 have x7:w.cell? ⟨B7,op,none⟩=some (.string ⟨(GC.getD op []).toArray⟩):=BJ hO.sg (signs_at hop)
 have HI:=hid fun W (k:BA (fun _=>False) w W)=>is_any W R its el ec (h.keep k fun _ _ e=>e) (GC.getD op [])
 obtain⟨s,hs⟩:∃s,GC.getD op []=s:=⟨_,rfl⟩
 rw[hs]at HI x7 ⊢
 have h0:(0:Int)≤op:=by omega
 have h1:(op:Int)<14:=by omega
 obtain⟨b,hb⟩:∃b,BI its s=b:=⟨_,rfl⟩
 rw[hb]at HI ⊢
 clear hO h hs hop hb
 go_enter Tryz.func99,Tryz.ntmps99
 go_upto_region 1 with fail
 have z3:∀w',BA (fun _=>False) w.drew w'→w'.cell? ⟨B3,0,none⟩=some (rdV R):=fun w' h=>((BA.drew _ w).trans h).stay x3
 have z7:∀w',BA (fun _=>False) w.drew w'→w'.cell? ⟨B7,op,none⟩=some (.string ⟨s.toArray⟩):=fun w' h=>((BA.drew _ w).trans h).stay x7
 clear x3 x7
 refine wp_own0 (by kernel_rfl) (fun i=>[[],[],[1],[1,2],[0,1,2,3],[0,1,2,3,4]].getD i []) (fun _=>[]) (fun _=>[]) [] (by kernel_rfl)
  (fun i=>if i=4 then some (BW (.bool b)) else none) ?_
 repeat refine BD rfl rfl (fun w' hk=>by go_simp;with_reducible rfl) ?_;simp only[Act.put,LS]
 refine BG rfl rfl (CL 100 #[rdV R,.string ⟨s.toArray⟩] (fun w=>by kernel_rfl) ⟨default,trivial⟩ (fun g _=>CN _) fun w' hk _ _=>(HI.out w' ((BA.drew _ _).trans hk)).mono ?_) fun g _=>?_
 ·rintro e w'' ⟨rfl,hq⟩
  exact⟨default,trivial,rfl,hq.mono fun _ e=>e.elim,fun b h=>h.elim,trivial⟩
 simp only[BW,Act.put,LS]
 apply BD rfl rfl
 ·intro w' hk;go_simp;with_reducible rfl
 simp only[Act.put,LS]
 refine CE ?_
 intro w9 hk9 _ _
 have HFIN:=hid ((BA.drew (fun _=>False) w).trans hk9)
 clear z3 z7 hk9
 go_wp2_with fail
 go_ret
 exact⟨rfl,HFIN.out⟩
def rowF (B3 B7:Nat):Value:=.func (.func 99) #[] #[.pointer (some ⟨B3,0,none⟩),.pointer (some ⟨B7,0,none⟩)]
def OpsDone (ops:List Nat)(its:List Item)(w:World)(e:Ending)(w':World):Prop:=
 ((∃k:Nat,∃h:k<ops.length,e=.returned (.int .i64 k)∧opOf ops its=some ops[k])∨(e=.returned (.int .i64 (-1))∧opOf ops its=none))∧BA (fun _=>False) w w'
theorem opOf_at {ops:List Nat}{its:List Item}{k:Nat}(hk:k<ops.length)(h1:BI its (GC.getD ops[k] [])=true)(h2:∀j,(hj:j<k)→BI its (GC.getD (ops[j]'(by omega)) [])=false):opOf ops its=some ops[k]:=by
 unfold opOf
 induction ops generalizing k with
 |nil=>cases hk
 | cons o l ih=>
  cases k with
  | zero=>
   have h1:BI its (GC.getD o [])=true:=h1
   show (match BI its (GC.getD o []) with|true=>some o|false=>_)=_
   rw[h1];rfl
  | succ k=>
   have h0:=h2 0 (by omega)
   have h0:BI its (GC.getD o [])=false:=h0
   show (match BI its (GC.getD o []) with|true=>some o|false=>List.find? _ l)=_
   rw[h0]
   exact ih (by simpa using hk) h1 fun j hj=>h2 (j+1) (by omega)
theorem opOf_none {ops:List Nat}{its:List Item}(h:∀j,(hj:j<ops.length)→BI its (GC.getD ops[j] [])=false):opOf ops its=none:=by
 unfold opOf
 rw[List.find?_eq_none]
 intro o ho
 obtain⟨j,hj,e⟩:=List.getElem_of_mem ho
 rw[←e,h j hj]
 exact NT
theorem idxOps_any (w:World)(B3 B7 R:Nat)(hO:OpsAt w B3 B7 R)(its:List Item)(el ec:Nat)(h:BE w R its el ec)(p:Option Addr)(c:Nat)(ops:List Nat)(hp:Rd w p (ints (opsI ops)))(hl:∀op∈ops,op<14)(hlen:ops.length≤100):
  Calls Tryz.prog 98 #[.slice p ops.length c,rowF B3 B7] w fun e w'=>OpsDone ops its w e w':=by
 have HO:=hid hO;have HR:=hid h;have HP:=hid hp
 unfold rowF
 clear hO h hp
 go_enter Tryz.func98,Tryz.ntmps98
 go_wp2_with fail
 go_loopw [8] (fun v8 wr=>∃k:Nat,v8=.int .i64 k∧k≤ops.length∧(∀j,(hj:j<k)→(hj2:j<ops.length)→BI its (GC.getD ops[j] [])=false)∧BA (fun _=>False) w wr) (fun v _=>ops.length - (intOf v).toNat)
 case atStart=>exact⟨0,rfl,Nat.zero_le _,fun j h=>absurd h (Nat.not_lt_zero _),BA.refl _ _⟩
 case round=>
  obtain⟨k,rfl,hk,hno,hkk⟩:=hrel
  have HNO:=hid hno;have HK:=hid hkk
  by_cases hlt:k<ops.length
  ·have hlti:(k:Int)<ops.length:=by omega
   have hi0:(0:Int)≤k:=by omega
   have hWi:IntKind.i64.wrap ((k:Int)+1)=(k:Int)+1:=IntWalk.i64_in _ (by omega)
   have hol:(opsI ops).length=ops.length:=by simp[opsI]
   have hrd:=HP.out.stay hkk
   obtain⟨b,o,hp,-⟩:=hrd.ptr (by rw[ints_length,hol];omega)
   subst hp
   have hc:=hrd.int k (by rw[hol];exact hlt)
   rw[show nth (opsI ops) k=(ops[k]:Int) by simp[nth,opsI,List.getD,hlt]]at hc
   have HFN:=hid (rowFn_any wr B3 B7 R ⟨hkk.blk HO.out.rd,hkk.blk HO.out.sg⟩ its el ec (HR.out.keep hkk fun _ _ e=>e) ops[k] (hl _ (List.getElem_mem hlt)))
   have HAT:=hid (fun h1=>opOf_at (ops:=ops) (its:=its) hlt h1 fun j hj=>HNO.out j hj (by omega))
   obtain⟨a,ha⟩:∃a,BI its (GC.getD ops[k] [])=a:=⟨_,rfl⟩
   have HA:=hid ha
   rw[ha]at HFN
   obtain⟨op,hop⟩:∃op,ops[k]=op:=⟨_,rfl⟩
   rw[hop]at hc HFN
   clear hno hkk ha hrd hol hop
   cases a with
   | false=>
    go_wp2_with (go_at_call 99;refine HFN.out.mono ?_;rintro e w2 ⟨rfl,hk2⟩;have HK2:=hid hk2;clear hk2)
    exact⟨⟨k+1,by simp,by omega,fun j hj hj2=>by
     by_cases e:j=k
     ·subst e;exact HA.out
     ·exact HNO.out j (by omega) hj2,HK.out.trans HK2.out⟩,by simp only[intOf];omega⟩
   | true=>
    go_wp2_with (go_at_call 99;refine HFN.out.mono ?_;rintro e w2 ⟨rfl,hk2⟩;have HK2:=hid hk2;clear hk2)
    go_ret
    exact⟨.inl ⟨k,hlt,rfl,HAT.out HA.out⟩,HK.out.trans HK2.out⟩
  ·have hnl:¬(k:Int)<ops.length:=by omega
   clear hno hkk
   go_wp2_with fail
   go_ret
   exact⟨.inr ⟨rfl,opOf_none fun j hj=>HNO.out j (by omega) hj⟩,HK.out⟩
end Go.Proofs.YtomlffobbkcmdaaGreatDoor
