import Derived.Test.YtknnmidnodeanaaGreatDoorJu41
set_option maxHeartbeats 64000000
set_option maxRecDepth 4000
namespace Go.Proofs.YtknnmidnodeanaaGreatDoor
open Go Go.RowKit Own
open Go.Lib (hid)
theorem put3p {w:World}{B:Nat}{a b c:Value}{T:TypeId}(h:w.heap[B]?=some (.cells #[a,b,c] T (0,0)))(v0 v1 v2:Value):
  ∃wf,wf=((w.setCell ⟨B,0,none⟩ v0).setCell ⟨B,1,none⟩ v1).setCell ⟨B,2,none⟩ v2∧wf.heap[B]?=some (.cells #[v0,v1,v2] T (0,0))∧BA (fun k=>k=B) w wf:=by
 refine⟨_,rfl,put1 (i:=2) (put1 (i:=1) (put1 (i:=0) h v0) v1) v2,?_⟩;have s:∀(w:World) (i:Nat) (v:Value),BA (fun k=>k=B) w (w.setCell ⟨B,i,none⟩ v):=fun w i v=>BA.setCell _ _ _ rfl;exact((s _ _ _).trans (s _ _ _)).trans (s _ _ _)
structure OpAt (w wr:World)(N B1 B2 B3:Nat)(pool:Int)(conts:List Gc)(threads:List (List Gs))(p1 p2 pc:Option Addr)(c1 c2 cc:Nat)(v:Value)(i:Nat)(sl:List Value):Prop where
 le:i≤threads.length
 len:sl.length=i
 row:wr.ownsRow N TSs 1 v i sl
 each:∀j (h:j<sl.length) (h':j<threads.length),∃q c,sl[j]=.slice q threads[j].length c∧CF wr (fun b=>N≤b∧v.ownBlock≠some b) q 0 threads[j]
 b1:wr.heap[B1]?=some (.cells #[.int .i64 pool,.slice p1 conts.length c1,.slice p2 threads.length c2] TPr (0,0))
 b2:wr.heap[B2]?=some (.cells #[.int .i64 0,.slice none 0 0,.slice none 0 0] TPr (0,0))
 b3:wr.heap[B3]?=some (.cells #[.int .i64 pool,.slice pc conts.length cc,v] TPr (0,0))
 cts:GCw wr (fun b=>w.heap.size≤b∧b<N∧b≠B1∧b≠B2∧b≠B3) pc conts
 keep:BA (fun _=>False) w wr
 lt:w.heap.size≤B1∧B1<B2∧B2<B3∧B3<N∧N≤wr.heap.size
theorem OpAt.step {w wr w9:World}{N B1 B2 B3 gb gd:Nat}{pool:Int}{conts:List Gc}{threads:List (List Gs)}{p1 p2 pc q:Option Addr}{c1 c2 cc d:Nat}{v v':Value}{i:Nat}{sl:List Value}(h:OpAt w wr N B1 B2 B3 pool conts threads p1 p2 pc c1 c2 cc v i sl)(hi:i<threads.length)
  (hk:BA (fun b=>b=B3∨v.ownBlock=some b) wr w9) (hg:wr.heap.size≤gb) (hst:CF w9 (fun b=>gb≤b∧b<gd) q 0 threads[i]) (hrow:w9.ownsRow N TSs 1 v' (i+1) (sl++[.slice q threads[i].length d])) (hb3:w9.heap[B3]?=some (.cells #[.int .i64 pool,.slice pc conts.length cc,v'] TPr (0,0)))
  (hdis:∀b,v'.ownBlock=some b→¬(gb≤b∧b<gd)) (hnew:∀b,v'.ownBlock=some b→wr.heap.size≤b∨(b=B3∨v.ownBlock=some b)):OpAt w w9 N B1 B2 B3 pool conts threads p1 p2 pc c1 c2 cc v' (i+1) (sl++[.slice q threads[i].length d]):=by
 have hlt:=h.lt;have hs:=hk.size;have hlen:=h.len;have hnv:∀b,v.ownBlock=some b→N≤b:=fun b e=>(h.row.lt b e).1;have hno:∀b,b<N→b≠B3→¬(b=B3∨v.ownBlock=some b):=fun b h1 h2 e=>e.elim h2 fun e=>by have:=hnv _ e;omega
 refine⟨hi,by simp[hlen],hrow,fun j hj hj'=>?_,hk.blkE h.b1 (hno _ (by omega) (by omega)),hk.blkE h.b2 (hno _ (by omega) (by omega)),hb3,h.cts.keep hk fun b hb=>hno b hb.2.1 hb.2.2.2.2,h.keep.newM hk fun b e=>.inr (e.elim (fun e=>by omega) fun e=>by have:=hnv _ e;omega),⟨hlt.1,hlt.2.1,hlt.2.2.1,hlt.2.2.2.1,by omega⟩⟩;by_cases hji:j<sl.length
 ·rw[List.getElem_append_left hji];obtain⟨q2,c2,e1,e2⟩:=h.each j hji hj';refine⟨q2,c2,e1,e2.inHeap.keepS fun b o u hb hc=>?_⟩;obtain⟨⟨a1,a2⟩,a3⟩:=hb;refine⟨hk.cell hc fun e=>e.elim (fun e=>by have e:b=B3:=e;omega) a2,a1,fun e=>?_⟩;rcases hnew b e with e|e|e
  ·omega
  ·omega
  ·exact a2 e
 ·have hji2:j=i:=by rw[LA]at hj;simp at hj;omega
  subst hji2;rw[List.getElem_append_right (by omega)];simp only[hlen,Nat.sub_self,List.getElem_cons_zero];exact⟨q,d,rfl,hst.mono fun b hb=>⟨by have h1:gb≤b:=hb.1;omega,fun e=>hdis b e hb⟩⟩
def POwn (B:Nat)(w':World)(p:Gp)(u:Value):Prop:=∃pc cc p9 c9,u=.agg #[.int .i64 p.pool,.slice pc p.conts.length cc,.slice p9 p.threads.length c9]∧
 ((p.threads=[]∧GCw w' (fun b=>B≤b) pc p.conts)∨∃g cur,p9=some ⟨g,0,none⟩∧B≤g∧GCw w' (fun b=>B≤b∧b≠g) pc p.conts∧w'.heap[g]?=some (.cells cur TSs (0,0))∧p.threads.length≤cur.size∧
  ∀j (h:j<p.threads.length),∃q c,cur[j]?=some (.slice q p.threads[j].length c)∧CF w' (fun b=>B≤b∧b≠g) q 0 p.threads[j])
def POwnN (B:Nat)(w':World)(p:Gp)(u:Value):Prop:=∃pc cc p9 c9 NN,u=.agg #[.int .i64 p.pool,.slice pc p.conts.length cc,.slice p9 p.threads.length c9]∧(B≤NN∧NN≤w'.heap.size)∧GCw w' (fun b=>B≤b∧b<NN) pc p.conts∧
 (p.threads=[]∨∃g cur,p9=some ⟨g,0,none⟩∧NN≤g∧w'.heap[g]?=some (.cells cur TSs (0,0))∧p.threads.length≤cur.size∧
  ∀j (h:j<p.threads.length),∃q c,cur[j]?=some (.slice q p.threads[j].length c)∧CF w' (fun b=>NN≤b∧b≠g) q 0 p.threads[j])
theorem POwnN.old {B:Nat}{w':World}{p:Gp}{u:Value}(h:POwnN B w' p u):POwn B w' p u:=by
 obtain⟨pc,cc,p9,c9,NN,rfl,hb,hc,h⟩:=h;refine⟨pc,cc,p9,c9,rfl,?_⟩;rcases h with h0|⟨g,cur,rfl,hg,hh,hl,he⟩
 ·exact .inl ⟨h0,hc.mono fun b h=>h.1⟩
 ·refine .inr ⟨g,cur,rfl,by omega,hc.mono fun b h=>⟨h.1,by omega⟩,hh,hl,fun j hj=>?_⟩;obtain⟨q,c,e1,e2⟩:=he j hj;exact⟨q,c,e1,e2.mono fun b h=>⟨by omega,h.2⟩⟩
theorem rowS_own {w:World}{base n:Nat}{e:TypeId}{v:Value}{xs:List Value}(h:w.ownsRow base e 1 v n xs)(hn:n≠0):∃g cap cur,v=.slice (some ⟨g,0,none⟩) n cap∧w.heap[g]?=some (.cells cur e (0,0))∧n≤cur.size∧∀(j:Nat) u,xs[j]?=some u→cur[j]?=some u:=by
 rcases h.2 with⟨rfl,h0⟩|⟨g,cap,cur,h1,h2,h3,h4,h5,h6,h7⟩
 ·exact absurd h0 hn
 ·refine⟨g,cap,cur,h1,h3,by omega,fun j u hj=>?_⟩;rw[←h7,List.getElem?_take]at hj;split at hj
  ·simpa using hj
  ·cases hj
theorem ownP_new (p:Gp)(hb:DM p.threads≤900000)(hcl:p.conts.length≤900000)(htl:p.threads.length≤900000)(w:World)(S:Nat→Prop)(v0:Value)(h:PAt w S v0 p):
  Calls Tryz.prog 9 #[v0] w fun e w'=>∃u,e=.returned u∧POwnN w.heap.size w' p u∧BA (fun _=>False) w w':=by
 obtain⟨pool,conts,threads⟩:=p;obtain⟨p1,c1,p2,c2,rfl,hcs,hts⟩:=h;dsimp only at hb hcl htl hcs hts ⊢;obtain⟨V1,B1,hV1,hB1,hb1,hk1,hs1⟩:=BD w (.cells #[.int .i64 pool,.slice p1 conts.length c1,.slice p2 threads.length c2] TPr);obtain⟨V,B2,hV,hB2,hb2,hk2,hs2⟩:=BD V1 (.cells #[.int .i64 0,.slice none 0 0,.slice none 0 0] TPr);have HB1:=hid (hk2.blk hb1);have HB2:=hid hb2;have HC:=hid hcs;have HT:=hid hts;have HN2:=hid (show w.heap.size≤B1∧B1<B2∧B2<V.heap.size by omega);have HKV:=hid (show ∀w',BA (fun _=>False) V.drew w'→BA (fun _=>False) w w' from fun w' hk=>((hk1.trans hk2).trans (BA.drew _ V)).trans hk);have HSZ:=hid hb;have HCL:=hid hcl;have HTL:=hid htl;obtain⟨n0,n1,n2,-⟩:=BS (hk2.blk hb1);have d0:=fun w' (h:BA (fun _=>False) V.drew w')=>((BA.drew _ V).trans h).stay n0;have d1:=fun w' (h:BA (fun _=>False) V.drew w')=>((BA.drew _ V).trans h).stay n1;have h12:B1+1=B2:=by omega
 clear hcs hts hs1 hs2 hb1 hb2 hk1 hk2 hb hcl htl;go_enter Tryz.func9,Tryz.ntmps9;go_upto_region 1 with fail;rw[←hV1,←hB1,←hV,h12];clear hV1 hB1 hV hB2 h12 n0 n1 n2
 refine CN (by kernel_rfl) (fun i=>[[],[0],[],[2],[2,3],[0,1,2,3,4],[],[0,1,2,3,4,5,6]].getD i []) (fun i=>if i=7 then [6] else []) (fun i=>if i=7 then [6] else []) [4,7] (by kernel_rfl)
  (fun q=>if q=4 then some { ok:=fun _ g=>V.heap.size≤g.b,val:=fun _ g=>.slice g.p conts.length g.c,fp:=fun _ g b=>g.b≤b∧b<g.d,post:=fun _ g w'=>GCw w' (fun b=>g.b≤b∧b<g.d) g.p conts } else if q=6 then some (sNew (.cells #[.int .i64 0,.slice none 0 0,.slice none 0 0] TPr (0,0))) else if q=7 then some (sPutN TPr) else none) ?_
 apply BC rfl rfl
 ·intro w' hk;go_simp;with_reducible rfl
 simp only[Act.put,LS];apply BC rfl rfl
 ·intro w' hk;have e1:=d0 w' hk;go_simp;with_reducible rfl
 simp only[Act.put,LS];apply BC rfl rfl
 ·intro w' hk;go_simp;with_reducible rfl
 simp only[Act.put,LS];apply BC rfl rfl
 ·intro w' hk;have e1:=d1 w' hk;go_simp;with_reducible rfl
 simp only[Act.put,LS];refine BE rfl rfl (BR 26 #[.slice p1 conts.length c1] (fun w=>by kernel_rfl) ⟨{ b:=V.heap.size },Nat.le_refl _⟩ (fun gs _ w1 w2 _ _ _ hb hp=>GCw.same hp hb) fun w' hk hav _=>(ownCt_any w' S p1 c1 conts (HC.out.keep (HKV.out w' hk) fun _ _ e=>e) (by have:=HCL.out;omega)).mono ?_) fun g4 hg4=>?_
 ·rintro e w'' ⟨q,d,rfl,hg2,hk2⟩;exact⟨{ p:=q,c:=d,b:=w'.heap.size,d:=w''.heap.size },Nat.le_trans (BA.drew (fun _=>False) V).size hk.size,rfl,hk2.mono fun b e=>e.elim,fun b hb=>⟨.inl hb.1,hb.2⟩,hg2.inHeap⟩
 simp only[Act.put,LS];apply BC rfl rfl
 ·intro w' hk;go_simp;with_reducible rfl
 simp only[Act.put,LS];refine BE rfl rfl (loud_alloc (.cells #[.int .i64 0,.slice none 0 0,.slice none 0 0] TPr (0,0)) (fun w=>by kernel_rfl)) fun g6 _=>?_;simp only[sNew,Act.put,LS];refine BE rfl rfl (loud_putN g6.b TPr TPr #[.int .i64 pool,.slice g4.p conts.length g4.c,.slice none 0 0] _ (.tmp 3) (.tmp 10) rfl rfl rfl 6 (by decide) (by decide) (fun w h=>h) rfl rfl (by kernel_rfl) (by simp[Value.oneCell'])) fun g7 _=>?_;simp only[sPutN,Act.put];refine BP ?_;intro W0 hk9 hF hdis;have f4:GCw W0 (fun b=>g4.b≤b∧b<g4.d) g4.p conts:=(hF 4 (by decide)).1;have f7:W0.heap[g6.b]?=some (.cells #[.int .i64 pool,.slice g4.p conts.length g4.c,.slice none 0 0] TPr (0,0)):=(hF 7 (by decide)).1 _ _ (putn_args0 rfl rfl) (BV rfl rfl);have hg4':V.heap.size≤g4.b:=hg4;have f7n:=(hF 7 (by decide)).2 g6.b (putn_args0 rfl rfl);have f7b:V.heap.size≤g6.b:=f7n.2.resolve_right fun h=>h;have hd47:∀b,(g4.b≤b∧b<g4.d)→b≠g6.b:=fun b hb e=>hdis 4 (by decide) 7 (by decide) (by decide) b hb (by rw[e];exact putn_args0 rfl rfl);have hkW:=HKV.out W0 hk9;have hKV9:=(BA.drew (fun _=>False) V).trans hk9
 have HAT0:=hid (show OpAt w W0 W0.heap.size B1 B2 g6.b pool conts threads p1 p2 g4.p c1 c2 g4.c (.slice none 0 0) 0 [] from
  ⟨Nat.zero_le _,rfl,World.ownsRow_nil _ _ _ _,fun j h=>absurd h (Nat.not_lt_zero _),hKV9.blk HB1.out,hKV9.blk HB2.out,f7,f4.inHeap.mono fun b hb=>by
   have h1:=hb.1.1;have h2:=HN2.out;exact⟨by omega,hb.2,by omega,by omega,hd47 b hb.1⟩,hkW,by have h2:=HN2.out;exact⟨h2.1,h2.2.1,by omega,f7n.1,Nat.le_refl _⟩⟩)
 obtain⟨B3,hB3⟩:∃x,x=g6.b:=⟨_,rfl⟩;obtain⟨pc,hpc⟩:∃x,x=g4.p:=⟨_,rfl⟩;obtain⟨cc,hcc⟩:∃x,x=g4.c:=⟨_,rfl⟩;obtain⟨NN,hNN⟩:∃x,x=W0.heap.size:=⟨_,rfl⟩;rw[←hB3,←hpc,←hcc,←hNN]at HAT0;rw[←hB3];clear f4 f7 f7n f7b hd47 hkW hKV9 hF hdis hk9 d0 d1 hg4' hB3 hpc hcc hNN;go_wp2_with fail;go_loopw [4] (fun v4 wr=>∃(i:Nat) (v:Value) (sl:List Value),v4=.int .i64 i∧OpAt w wr NN B1 B2 B3 pool conts threads p1 p2 pc c1 c2 cc v i sl) (fun v _=>threads.length - (intOf v).toNat)
 case atStart=>exact⟨0,_,_,rfl,HAT0.out⟩
 case round=>
  obtain⟨i,v,sl,rfl,hat⟩:=hrel;have HAT:=hid hat
  obtain⟨n0,n1,n2,-⟩:=BS hat.b1;clear hat HAT0;by_cases hlt:i<threads.length
  ·have hlti:(i:Int)<threads.length:=by omega
   have hi0:(0:Int)≤i:=by omega
   have hWi:IntKind.i64.wrap ((i:Int)+1)=(i:Int)+1:=IntWalk.i64_in _ (by have:=HTL.out;omega);have HKK:=hid (show ∀w',BA (fun b=>b=B3∨v.ownBlock=some b) wr.drew w'→BA (fun b=>b=B3∨NN≤b) wr w' from fun w' hk=>((BA.drew _ wr).trans hk).mono fun b e=>e.imp id fun e=>(HAT.out.row.lt b e).1);have HKW:=hid (show ∀w',BA (fun b=>b=B3∨v.ownBlock=some b) wr.drew w'→BA (fun _=>False) w w' from fun w' hk=>HAT.out.keep.newM (HKK.out w' hk) fun b e=>.inr (by have h1:=HAT.out.lt;rcases e with e|e<;>omega));obtain⟨g,o,q0,cq,hp,-,y0,hsk⟩:=HT.out i hlt;subst hp;have ct:=fun w' (h:BA (fun b=>b=B3∨v.ownBlock=some b) wr.drew w')=>(HKW.out w' h).stay y0;have cb:=fun w' (h:BA (fun b=>b=B3∨v.ownBlock=some b) wr.drew w')=>(HKK.out w' h).cell (BH (k:=2) HAT.out.b1 rfl) (by have h1:=HAT.out.lt;intro e;have e:B1=B3∨NN≤B1:=e;omega);have HSK:=hid (show ∀w',BA (fun b=>b=B3∨v.ownBlock=some b) wr.drew w'→CF w' S q0 0 threads[i]from fun w' h=>hsk.keep (HKW.out w' h) fun _ _ e=>e);have hme:=hSize_mem hlt;have HO:=hid (ownS_any threads[i] (by have:=HSZ.out;omega));obtain⟨x,hx⟩:∃x,threads[i]=x:=⟨_,rfl⟩;have HXE:=hid hx;rw[hx]at HSK HO ct;have HB3:=hid HAT.out.b3;have HRW:=hid HAT.out.row;have HLT:=hid HAT.out.lt;have HIL:=hid (show i+1≤1000000 by have:=HTL.out;omega);clear hsk hx hme y0;go_upto_region 5 with fail
   refine wp_own2 (by kernel_rfl) B3 _ HB3.out NN TSs 1 v i _ HRW.out (by have:=HLT.out;omega) (fun i=>[[],[0],[],[2],[],[2,3,4],[2,3,4,5],[2,3,4,5,6],[2,3,4,5,6,7],[0,1,2,3,4,5,6,7,8],[0,1,2,3,4,5,6,7,8,9],[0,1,2,3,4,5,6,7,8,9,10]].getD i []) (fun i=>if i=1 then [12] else if i=9 then [13,7,8] else if i=11 then [12] else []) (fun i=>if i=9 then [13,7] else if i=11 then [12] else []) [9,11] (by kernel_rfl)
    (fun q=>if q=1 then some (BN v) else if q=7 then some { ok:=fun _ g=>wr.heap.size≤g.b,val:=fun _ g=>.slice g.p x.length g.c,fp:=fun _ g b=>g.b≤b∧b<g.d,post:=fun _ g w'=>∃r e,(Value.slice g.p x.length g.c:Value)=.slice r x.length e∧CF w' (fun b=>g.b≤b∧b<g.d) r 0 x }
     else if q=8 then some (sOneA TSs) else if q=9 then some (sApp NN TSs 1 i sl wr.heap.size (fun w b d us=>∃r e,us=[.slice r x.length e]∧CF w (fun k=>b≤k∧k<d) r 0 x)) else if q=11 then some (CT B3 2 TPr #[.int .i64 pool,.slice pc conts.length cc,v]) else none) ?_
   apply BC rfl rfl
   ·intro w' hk;go_simp;with_reducible rfl
   simp only[Act.put,LS]
   refine BE rfl rfl (BY ⟨default,trivial⟩ (fun g _ w w' _ _ _ _ _=>trivial) fun w' hk hav _=>by
    obtain⟨x0,x1,x2,-⟩:=BS (show w'.heap[B3]?=some (.cells #[.int .i64 pool,.slice pc conts.length cc,v] TPr (0,0)) from(hav 12 (by decide)).1);exact⟨w',default,trivial,.inl (by go_simp<;>rfl),BA.refl _ _,fun b h=>h.elim,trivial⟩) fun _ _=>?_
   simp only[BN,Act.put,LS];apply BC rfl rfl
   ·intro w' hk;go_simp;with_reducible rfl
   simp only[Act.put,LS];apply BC rfl rfl
   ·intro w' hk;have e1:=cb w' hk;go_simp;with_reducible rfl
   simp only[Act.put,LS];apply BC rfl rfl
   ·intro w' hk;go_simp;with_reducible rfl
   simp only[Act.put,LS];apply BC rfl rfl
   ·intro w' hk;go_simp;with_reducible rfl
   simp only[Act.put,LS];apply BC rfl rfl
   ·intro w' hk;have e1:=ct w' hk;go_simp;with_reducible rfl
   simp only[Act.put,LS]
   refine BE rfl rfl (BR 27 #[.slice q0 x.length cq] (fun w=>by kernel_rfl) ⟨{ b:=wr.heap.size },Nat.le_refl _⟩ (fun gs _ w1 w2 _ _ _ hb hp=>by
    obtain⟨r,e,h1,h2⟩:=hp;exact⟨r,e,h1,sks_same h2 hb⟩) fun w' hk hav _=>(HO.out w' S _ _ (HSK.out w' hk)).mono ?_) fun g7 hg7=>?_
   ·rintro e w'' ⟨q,d,rfl,hg2,hk2⟩;exact⟨{ p:=q,c:=d,b:=w'.heap.size,d:=w''.heap.size },Nat.le_trans (BA.drew (fun _=>False) wr).size hk.size,rfl,hk2.mono fun b e=>e.elim,fun b hb=>⟨.inl hb.1,hb.2⟩,q,d,rfl,hg2.inHeap⟩
   simp only[Act.put,LS];refine BE rfl rfl (loud_oneA TSs (.slice g7.p x.length g7.c) (one_arg rfl rfl) (fun w=>by go_simp)) fun g8 _=>?_;simp only[sOneA,Act.put,LS]
   refine BE rfl rfl (loud_appendM NN wr.heap.size TSs 23 (.slice none 0 0) 1 24 (by kernel_rfl) (by kernel_rfl) rfl (by decide) (.tmp 19) (.tmp 26) rfl v i _ [.slice g7.p x.length g7.c] g7.b g7.d g8.b (fun w b d us=>∃r e,us=[.slice r x.length e]∧CF w (fun k=>b≤k∧k<d) r 0 x)
    (fun w1 w2 b d us h hb=>by
     obtain⟨r,e,h1,h2⟩:=h;exact⟨r,e,h1,sks_same h2 fun k hk=>hb k hk.1 hk.2⟩) rfl rfl rfl (by simp[Value.oneCell']) (by unfold maxLen;have:=HIL.out;omega) (by have:=HIL.out;omega) (by have:=HLT.out;show NN≤wr.heap.size;omega) hg7 13 (by decide) (by decide) (fun w h=>h) (fun b hb=>.inr ⟨rfl,hb⟩) 7 (by decide) (by decide) (by decide) (fun w h=>by
     obtain⟨r,e,h1,h2⟩:=h;exact⟨r,e,by rw[h1],h2⟩) (fun b hb=>hb) 8 (by decide) (fun w h=>h _ (one_arg rfl rfl))) fun g9 hg9=>?_
   simp only[sApp,Act.put,LS];apply BC rfl rfl
   ·intro w' hk;go_simp;with_reducible rfl
   simp only[Act.put,LS];refine BE rfl rfl (CS B3 2 TPr #[.int .i64 pool,.slice pc conts.length cc,v] (.slice g9.p (i+1) g9.c) (BV rfl rfl) (fun w u hc hf=>by go_simp<;>rfl) 12 (by decide) (by decide) (fun w h=>h) (.inl ⟨rfl,rfl⟩) (by show 2<3;decide)) fun g10 _=>?_;simp only[CT,Act.put,LS];refine BP ?_;intro W9 hk9 hF _;obtain⟨f8d,us,f8r,r9,e9,rfl,f8g⟩:=(hF 9 (by decide)).1;have f8n:=(hF 9 (by decide)).2;have f10:W9.heap[B3]?=some (.cells #[.int .i64 pool,.slice pc conts.length cc,.slice g9.p (i+1) g9.c] TPr (0,0)):=(hF 11 (by decide)).1 _ (BV rfl rfl);have HNX:=hid (HAT.out.step hlt ((BA.drew (fun b=>b=B3∨v.ownBlock=some b) wr).trans hk9) hg9 (by rw[HXE.out];exact f8g) (by rw[HXE.out];exact f8r) f10 (fun b e=>f8d b (CL.1 e)) (fun b e=>(f8n b (.inl (CL.1 e))).2));clear f8d f8r f8g f8n f10 hF hk9 ct cb;go_wp2_with fail;exact⟨⟨i+1,_,_,by simp,HNX.out⟩,by simp only[intOf];omega⟩
  ·have hnl:¬(i:Int)<threads.length:=by omega
   have hi:i=threads.length:=by have:=HAT.out.le;omega
   obtain⟨p9,c9,hv,hrow⟩:=rowS_some HAT.out.row;obtain⟨m0,m1,m2,-⟩:=BS (by have h:=HAT.out.b3;rw[hv]at h;exact h);have hb2:=HAT.out.b2;obtain⟨q0,q1,q2,-⟩:=BS hb2;have f0:wr.frozen? ⟨B2,0,none⟩=false:=by simp[World.frozen?,hb2]
   have f1:wr.frozen? ⟨B2,1,none⟩=false:=by simp[World.frozen?,hb2]
   have f2:wr.frozen? ⟨B2,2,none⟩=false:=by simp[World.frozen?,hb2]
   have HV:=hid hv;have HROW:=hid hrow;have HIE:=hid hi;clear hv hrow hi hlt hb2;go_wp2_with fail;obtain⟨wf,hwf,hp,hkp⟩:=put3p HAT.out.b2 (.int .i64 pool) (.slice pc conts.length cc) (.slice p9 i c9);rw[←hwf];obtain⟨r0,r1,r2,-⟩:=BS hp;have hlt:=HAT.out.lt;refine bodyPost_ret (v:=.agg #[.int .i64 pool,.slice pc conts.length cc,.slice p9 i c9]) (by simp[results,Tryz.results9,go_sem,r0,r1,r2]) rfl ⟨_,rfl,⟨pc,cc,p9,c9,NN,by rw[HIE.out],⟨by show w.heap.size≤NN;omega,by have:=hkp.size;show NN≤wf.heap.size;omega⟩,(HAT.out.cts.keep hkp fun b hb e=>hb.2.2.2.1 e).mono fun b hb=>⟨hb.1,hb.2.1⟩,?_⟩,HAT.out.keep.newM hkp fun b e=>.inr (by have e:b=B2:=e;omega)⟩;by_cases h0:threads.length=0
   ·exact .inl (List.eq_nil_of_length_eq_zero h0)
   ·obtain⟨g,cap,cur,e1,e2,e3,e4⟩:=rowS_own HAT.out.row (by have:=HIE.out;omega);have hgb:=(HAT.out.row.lt g (by rw[e1];rfl)).1;have hvb:v.ownBlock=some g:=by rw[e1];rfl
    have e5:=HV.out;rw[e1]at e5
    cases e5;refine .inr ⟨g,cur,rfl,hgb,hkp.blkE e2 (fun e=>by have e:g=B2:=e;omega),by have:=HIE.out;show threads.length≤cur.size;omega,fun j h=>?_⟩;have h':j<sl.length:=by have:=HAT.out.len;have:=HIE.out;have h:j<threads.length:=h;omega
    obtain⟨q,c,a1,a2⟩:=HAT.out.each j h' h
    exact⟨q,c,e4 j _ (by rw[←a1];exact List.getElem?_eq_getElem h'),(a2.keep hkp fun b hb e=>by have e:b=B2:=e;have h5:NN≤b:=hb.1;omega).mono fun b hb=>by
     have h5:NN≤b:=hb.1;exact⟨h5,fun e=>hb.2 (by rw[e];exact hvb)⟩⟩
theorem ownP_own (p:Gp)(hb:DM p.threads≤900000)(hcl:p.conts.length≤900000)(htl:p.threads.length≤900000)(w:World)(S:Nat→Prop)(v0:Value)(h:PAt w S v0 p):
  Calls Tryz.prog 9 #[v0] w fun e w'=>∃u,e=.returned u∧POwn w.heap.size w' p u∧BA (fun _=>False) w w':=
 (ownP_new p hb hcl htl w S v0 h).mono fun _ _ ⟨u,h1,h2,h3⟩=>⟨u,h1,h2.old,h3⟩
def pick (k n:Int):Int:=if k.tmod n<0 then k.tmod n+n else k.tmod n
theorem pick_range {k n:Int}(hn:0<n):0≤pick k n∧pick k n<n:=by
 have h1:=Int.tmod_lt_of_pos k hn;have h2:=Int.lt_tmod_of_pos k hn;unfold pick;split<;>omega
theorem pick_any (w:World)(k n:Int)(hn:0<n)(hn2:n≤9223372036854775807):
  Calls Tryz.prog 10 #[.int .i64 k,.int .i64 n] w fun e w'=>e=.returned (.int .i64 (pick k n))∧w'=w:=by
 have h1:=Int.tmod_lt_of_pos k hn;have h2:=Int.lt_tmod_of_pos k hn;have hW:IntKind.i64.wrap (k.tmod n)=k.tmod n:=IntWalk.i64_in _ (by omega);have hn0:¬n=0:=by omega
 have hn1:¬n<1:=by omega
 by_cases h:k.tmod n<0
 ·have hW2:IntKind.i64.wrap (k.tmod n+n)=k.tmod n+n:=IntWalk.i64_in _ (by omega);have HF:=hid (show pick k n=k.tmod n+n from if_pos h);go_enter Tryz.func10,Tryz.ntmps10;go_wp2_with fail;go_ret;exact⟨ret_int HF.out.symm,rfl⟩
 ·have HF:=hid (show pick k n=k.tmod n from if_neg h);go_enter Tryz.func10,Tryz.ntmps10;go_wp2_with fail;go_ret;exact⟨ret_int HF.out.symm,rfl⟩
end Go.Proofs.YtknnmidnodeanaaGreatDoor
