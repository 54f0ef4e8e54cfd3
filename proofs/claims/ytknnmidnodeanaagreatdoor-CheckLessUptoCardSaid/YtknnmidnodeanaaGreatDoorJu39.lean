import Derived.Test.YtknnmidnodeanaaGreatDoorJu38
set_option maxHeartbeats 128000000
set_option maxRecDepth 4000
namespace Go.Proofs.YtknnmidnodeanaaGreatDoor
open Go Go.RowKit Own
open Go.Lib (hid)
def contsO:Nat→List Item→Oc (List Ct)
 |0,_=>.no
 | f+1,ts=>
  match ts with
  |[]=>.ok [] ts
  | t::r=>
   if ofL kindL t.tok.text=0∨t.tok.kind≠1 then .ok [] ts
   else (DI 2 r).bind fun n r=>(CD [[59]] r).bind fun _ r=>(contsO f r).bind fun l r=>.ok (⟨ofL kindL t.tok.text,n.tok.text,t.line,t.col⟩::l) r
def threadsO (blk:List Item→Oc (List St)):Nat→List Item→Oc (List (List St))
 |0,_=>.no
 | f+1,ts=>
  match ts with
  |[]=>.ok [] []
  |_::_=>(CD [[116,104,114,101,97,100]] ts).bind fun _ r=>(blk r).bind fun b r=>(threadsO blk f r).bind fun l r=>.ok (b::l) r
def progO (blk:List Item→Oc (List St))(ts:List Item):Oc Pr:=
 (CD [[112,111,111,108]] ts).bind fun _ r=>(DI 3 r).bind fun n r=>(CD [[59]] r).bind fun _ r=>
  (contsO (r.length+1) r).bind fun cs r=>(threadsO blk (r.length+1) r).bind fun ths r=>.ok ⟨n.tok.num,cs,ths⟩ r
def OutG (w:World)(R el ec:Nat)(o:Oc Pr)(e:Ending)(w':World):Prop:=
 match o with
 |.ok pr _=>∃vs,e=.returned (.agg vs.toArray)∧PrgAt w' (fun b=>w.heap.size≤b) vs pr∧BA (fun b=>b=R) w w'
 |.bad b=>e=.panicked (CY b el ec)∧BA (fun b=>b=R) w w'
 |.no=>True
def ChainCE (E:List Item→Prop):List Ct→List Item→Prop
 |[],ts=>E ts
 |c::l,ts=>∃t n r1 r2,ts=t::n::r1∧t.tok.kind=1∧ofL kindL t.tok.text≠0∧n.tok.kind=2∧CQ [[59]] r1=some r2∧c=⟨ofL kindL t.tok.text,n.tok.text,t.line,t.col⟩∧ChainCE E l r2
def ChainTE (P:List Item→List St→List Item→Prop)(E:List Item→Prop):List (List St)→List Item→Prop
 |[],ts=>E ts
 |s::l,ts=>∃ts1 m,CQ [[116,104,114,101,97,100]] ts=some ts1∧P ts1 s m∧m.length<ts.length∧ChainTE P E l m
def EndT (R el ec pn:Nat)(conts:List Ct)(o:Oc Pr)(ths:List (List St))(ts:List Item):Prop:=
 (ts=[]∧o=.ok ⟨pn,conts,ths⟩ [])∨(ts≠[]∧∃b,o=.bad b∧(CD [[116,104,114,101,97,100]] ts=.bad b∨∃ts1,CQ [[116,104,114,101,97,100]] ts=some ts1∧DoesB R el ec ts1 (.bad b)))
def EndC (R el ec pn:Nat)(P:List Item→List St→List Item→Prop)(conts:List Ct)(o:Oc Pr)(ts:List Item):Prop:=
 ((∀t r0,ts=t::r0→ofL kindL t.tok.text=0)∧∃ths:List (List St),ths.length≤1000000∧ChainTE P (EndT R el ec pn conts o ths) ths ts)∨
 ∃t r bb,ts=t::r∧t.tok.kind=1∧ofL kindL t.tok.text≠0∧o=.bad bb∧(DI 2 r=.bad bb∨∃n r1,DI 2 r=.ok n r1∧CD [[59]] r1=.bad bb)
structure ContsAtE (w wr:World)(R el ec B2 B3:Nat)(pool:Nat)(all:List Ct)(E:List Item→Prop)(v:Value)(dn rest:List Ct)(ts:List Item):Prop where
 all:all=dn++rest
 row:wr.ownsRow (B3+1) TCt 4 v dn.length (dn.map ctV).flatten
 b2:wr.heap[B2]?=some (.cells #[.int .i64 pool,v,.slice none 0 0] TPr (0,0))
 b3:wr.heap[B3]?=some (.cells kindsV 122 (0,0))
 chain:ChainCE E rest ts
 rd:BG wr R ts el ec
 keep:BA (fun b=>b=R) w wr
 lt:R<w.heap.size∧w.heap.size≤B2∧B2<B3
structure ThsInvE (w wr:World)(R el ec B2 base pn:Nat)(p:Option Addr)(cap:Nat)(P:List Item→List St→List Item→Prop)(E:List Item→Prop)(all:List (List St))(conts:List Ct)(v:Value)(dn rest:List (List St))(ts:List Item)(sl:List Value):Prop where
 all:all=dn++rest
 row:wr.ownsRow base TSs 1 v dn.length sl
 each:∀j (h:j<sl.length) (h':j<dn.length),∃q c,sl[j]=.slice q dn[j].length c∧CJ wr (fun b=>w.heap.size≤b∧b≠B2∧v.ownBlock≠some b) q 0 dn[j]
 b2:wr.heap[B2]?=some (.cells #[.int .i64 pn,.slice p conts.length cap,v] TPr (0,0))
 cts:CtsAt wr (fun b=>w.heap.size≤b∧b<base∧b≠B2) p conts
 chain:ChainTE P E rest ts
 rd:BG wr R ts el ec
 keep:BA (fun b=>b=R) w wr
 lt:R<w.heap.size∧w.heap.size≤B2∧B2<base∧base≤wr.heap.size
theorem program_headF (R el ec:Nat)(its b:List Item)(hx:((CD [[112,111,111,108]] its).bind fun _ r=>(DI 3 r).bind fun n r=>(CD [[59]] r).bind fun _ r=>(Oc.ok n r))=.bad b)(w:World)(hr:BG w R its el ec):
  Calls Tryz.prog 58 #[rdV R] w fun e w'=>e=.panicked (CY b el ec)∧BA (fun b=>b=R) w w':=by
 obtain⟨FL,hFL⟩:∃FL:List PanicEntry,FL=CY b el ec:=⟨_,rfl⟩;rw[←hFL];have HFL:=hid hFL;clear hFL;obtain⟨V1,B2,hV1,hB2,hb2,hk1,hs1⟩:=BD w (.cells #[.int .i64 0,.slice none 0 0,.slice none 0 0] TPr);have HKI:=hid (kinds_any V1);have HR0:=hid hr;have HK1:=hid hk1;have HB2:=hid hb2;have HN:=hid (show R<w.heap.size∧w.heap.size≤B2∧B2<V1.heap.size from⟨hr.lt,by omega,by omega⟩);have HXX:=hid hx;unfold kindsV at HKI;clear hx hr hb2 hk1 hs1;go_enter Tryz.func58,Tryz.ntmps58;go_upto_region 1 with fail;rw[←hV1,←hB2];clear hV1 hB2;go_wp2_with fail;go_at_call 76;refine HKI.out.mono ?_;rintro e W1 ⟨rfl,hk1⟩;obtain⟨W2,B3,hW2,hB3,hb3,hk2,hs2⟩:=BD W1 (.cells kindsV 122);have hkw:=hk1.trans hk2;have HK2:=hid ((HK1.out.trans hkw).mono fun b e=>(e.elim:b=R));have HR2:=hid (HR0.out.keep (HK1.out.trans hkw) fun _ _ e=>e);have HB22:=hid (hkw.blk HB2.out);have HB32:=hid hb3;have HN3:=hid (show B2<B3∧B3+1=W2.heap.size by have:=HN.out;have:=hk1.size;omega);unfold kindsV at hW2;clear hk1 hk2 hb3 hs2 hkw;go_upto_region 2 with fail;rw[←hW2,←hB3];clear hW2 hB3
 cases hq1:CD [[112,111,111,108]] its with
 |no=>exact absurd hq1 (mustO_no _ _)
 | bad b'=>
  have hx:=HXX.out;rw[hq1]at hx;have hx:Oc.bad b'=Oc.bad b:=hx;obtain rfl:b'=b:=by injection hx
  have HB9:=hid hq1;clear hq1 hx;have HQ:=hid (must1b HR2.out [112,111,111,108] _ HB9.out);rw[←HFL.out]at HQ;go_wp2_with fail;go_at_call 77;refine HQ.out.mono ?_;rintro e We ⟨rfl,hk⟩;have HKE:=hid (HK2.out.trans hk);clear hk;go_wp2_with fail;exact⟨rfl,rfl,HKE.out⟩
 |ok u r0=>
 have hx:=HXX.out;clear HXX;rw[hq1,CH]at hx
 (try rw[CH]at hx)
 have HXX:=hid hx;clear hx;have HQ:=hid (must1o HR2.out [112,111,111,108] _ hq1);clear hq1;go_wp2_with fail;go_at_call 77;refine HQ.out.mono ?_;rintro e W3 ⟨rfl,hr,hk⟩;have HB23:=hid (hk.blkE HB22.out fun e=>by have e:B2=R:=e;have:=HN.out;omega);have HB33:=hid (hk.blkE HB32.out fun e=>by have e:B3=R:=e;have:=HN.out;have:=HN3.out;omega);have HR3:=hid hr;have HK3:=hid (HK2.out.trans hk);clear hr hk
 cases hq2:DI 3 r0 with
 |no=>exact absurd hq2 (wantO_no _ _)
 | bad b'=>
  have hx:=HXX.out;rw[hq2]at hx;have hx:Oc.bad b'=Oc.bad b:=hx;obtain rfl:b'=b:=by injection hx
  have HB9:=hid hq2;clear hq2 hx;have HQ:=hid (want_at HR3.out (by decide) HB9.out);rw[←HFL.out]at HQ;go_wp2_with fail;go_at_call 78;refine HQ.out.mono ?_;rintro e We ⟨rfl,hk⟩;have HKE:=hid (HK3.out.trans hk);clear hk;go_wp2_with fail;exact⟨rfl,rfl,HKE.out⟩
 |ok tp ts0=>
 have hx:=HXX.out;clear HXX;rw[hq2,CH]at hx
 (try rw[CH]at hx)
 have HXX:=hid hx;clear hx;obtain⟨T0,hT0⟩:∃T,tp.tok.text=T:=⟨_,rfl⟩;obtain⟨pn,hpn⟩:∃n:Nat,tp.tok.num=n:=⟨_,rfl⟩;obtain⟨tl0,htl0⟩:∃n:Int,(tp.line:Int)=n:=⟨_,rfl⟩;obtain⟨tc0,htc0⟩:∃n:Int,(tp.col:Int)=n:=⟨_,rfl⟩;have HQ:=hid (by have h:=want_ok HR3.out hq2;have hk:=(FB hq2).2;rw[hk,hT0,hpn,htl0,htc0]at h;exact h);clear hq2 hT0 htl0 htc0 hpn;go_wp2_with fail;go_at_call 78;refine HQ.out.mono ?_;rintro e W4 ⟨rfl,hr,hk⟩;have HB24:=hid (hk.blkE HB23.out fun e=>by have e:B2=R:=e;have:=HN.out;omega);have HB34:=hid (hk.blkE HB33.out fun e=>by have e:B3=R:=e;have:=HN.out;have:=HN3.out;omega);have HR4:=hid hr;have HK4:=hid (HK3.out.trans hk);clear hr hk;have hfn:=field_num (.int .i64 3) (.string ⟨T0.toArray⟩) (.int .i64 pn) (.int .i64 tl0) (.int .i64 tc0) W4;obtain⟨n0,n1,n2,f0,f1,f2⟩:=BS HB24.out;go_upto_region 4 with fail;clear n0 n1 n2 f0 f1 f2 hfn;obtain⟨W5,hW,hb,hk⟩:=p_put0 HB24.out (.int .i64 pn);rw[←hW];have HB25:=hid hb;have HR5:=hid (HR4.out.keep hk fun b hb e=>by have e:b=B2:=e;have:=HN.out;omega);have HK5:=hid (HK4.out.newE hk fun b e=>by have e:b=B2:=e;have:=HN.out;omega);have HB35:=hid (hk.blkE HB34.out fun e=>by have e:B3=B2:=e;have:=HN3.out;omega);clear hW hb hk
 cases hq3:CD [[59]] ts0 with
 |no=>exact absurd hq3 (mustO_no _ _)
 | bad b'=>
  have hx:=HXX.out;rw[hq3]at hx;have hx:Oc.bad b'=Oc.bad b:=hx;obtain rfl:b'=b:=by injection hx
  have HB9:=hid hq3;clear hq3 hx;have HQ:=hid (must1b HR5.out [59] _ HB9.out);rw[←HFL.out]at HQ;go_wp2_with fail;go_at_call 77;refine HQ.out.mono ?_;rintro e We ⟨rfl,hk⟩;have HKE:=hid (HK5.out.trans hk);clear hk;go_wp2_with fail;exact⟨rfl,rfl,HKE.out⟩
 |ok u r3=>
 have hx:=HXX.out;clear HXX;rw[hq3,CH]at hx
 (try rw[CH]at hx)
 have HXX:=hid hx;clear hx;exact absurd HXX.out (fun h=>by cases h)
theorem programJ (R el ec:Nat)(its:List Item)(ts0 ts1:List Item)(tp:Item)(conts:List Ct)(o:Oc Pr)(P:List Item→List St→List Item→Prop)(hP:∀ts b m,P ts b m→DoesB R el ec ts (.ok b m))(h1:CQ [[112,111,111,108]] its=some (tp::ts0))(hpk:tp.tok.kind=3)(h2:CQ [[59]] ts0=some ts1)(hcs:ChainCE (EndC R el ec tp.tok.num P conts o) conts ts1)(hcl:conts.length≤1000000)(w:World)(hr:BG w R its el ec):
  Calls Tryz.prog 58 #[rdV R] w fun e w'=>OutG w R el ec o e w':=by
 obtain⟨V1,B2,hV1,hB2,hb2,hk1,hs1⟩:=BD w (.cells #[.int .i64 0,.slice none 0 0,.slice none 0 0] TPr);have HKI:=hid (kinds_any V1);have HR0:=hid hr;have HK1:=hid hk1;have HB2:=hid hb2;have HN:=hid (show R<w.heap.size∧w.heap.size≤B2∧B2<V1.heap.size from⟨hr.lt,by omega,by omega⟩);have HP:=hid hP;have H1:=hid h1;have H2:=hid h2;have HCL:=hid hcl;obtain⟨pn,hpn⟩:∃n:Nat,tp.tok.num=n:=⟨_,rfl⟩;rw[hpn]at hcs;obtain⟨EC,hEC⟩:∃E,E=EndC R el ec pn P conts o:=⟨_,rfl⟩;rw[←hEC]at hcs;have HEC:=hid hEC;have HCS:=hid hcs;clear hEC;obtain⟨T0,hT0⟩:∃T,tp.tok.text=T:=⟨_,rfl⟩;obtain⟨tl0,htl0⟩:∃n:Int,(tp.line:Int)=n:=⟨_,rfl⟩;obtain⟨tc0,htc0⟩:∃n:Int,(tp.col:Int)=n:=⟨_,rfl⟩;have HWA:=hid (fun W (h:BG W R (tp::ts0) el ec)=>by have h:=want_cons h 3 (by omega);rw[hpk,hT0,hpn,htl0,htc0]at h;exact h);unfold kindsV at HKI;clear hP h1 hpk h2 hcs hcl hr hb2 hk1 hs1 hpn hT0 htl0 htc0;go_enter Tryz.func58,Tryz.ntmps58;go_upto_region 1 with fail;rw[←hV1,←hB2];clear hV1 hB2;go_wp2_with fail;go_at_call 76;refine HKI.out.mono ?_;rintro e W1 ⟨rfl,hk1⟩;obtain⟨W2,B3,hW2,hB3,hb3,hk2,hs2⟩:=BD W1 (.cells kindsV 122);have hkw:=hk1.trans hk2;have HK2:=hid ((HK1.out.trans hkw).mono fun b e=>(e.elim:b=R));have HR2:=hid (HR0.out.keep (HK1.out.trans hkw) fun _ _ e=>e);have HB22:=hid (hkw.blk HB2.out);have HB32:=hid hb3;have HN3:=hid (show B2<B3∧B3+1=W2.heap.size by have:=HN.out;have:=hk1.size;omega);unfold kindsV at hW2;clear hk1 hk2 hb3 hs2 hkw;go_upto_region 2 with fail;rw[←hW2,←hB3];clear hW2 hB3;have HQ:=hid (must1 HR2.out [112,111,111,108] _ H1.out);go_wp2_with fail;go_at_call 77;refine HQ.out.mono ?_;rintro e W3 ⟨rfl,hr,hk⟩;have HB23:=hid (hk.blkE HB22.out fun e=>by have e:B2=R:=e;have:=HN.out;omega);have HB33:=hid (hk.blkE HB32.out fun e=>by have e:B3=R:=e;have:=HN.out;have:=HN3.out;omega);have HR3:=hid hr;have HK3:=hid (HK2.out.trans hk);clear hr hk;have HQ:=hid (HWA.out W3 HR3.out);go_wp2_with fail;go_at_call 78;refine HQ.out.mono ?_;rintro e W4 ⟨rfl,hr,hk⟩;have HB24:=hid (hk.blkE HB23.out fun e=>by have e:B2=R:=e;have:=HN.out;omega);have HB34:=hid (hk.blkE HB33.out fun e=>by have e:B3=R:=e;have:=HN.out;have:=HN3.out;omega);have HR4:=hid hr;have HK4:=hid (HK3.out.trans hk);clear hr hk;have hfn:=field_num (.int .i64 3) (.string ⟨T0.toArray⟩) (.int .i64 pn) (.int .i64 tl0) (.int .i64 tc0) W4;obtain⟨n0,n1,n2,f0,f1,f2⟩:=BS HB24.out;go_upto_region 4 with fail;clear n0 n1 n2 f0 f1 f2 hfn;obtain⟨W5,hW,hb,hk⟩:=p_put0 HB24.out (.int .i64 pn);rw[←hW];have HB25:=hid hb;have HR5:=hid (HR4.out.keep hk fun b hb e=>by have e:b=B2:=e;have:=HN.out;omega);have HK5:=hid (HK4.out.newE hk fun b e=>by have e:b=B2:=e;have:=HN.out;omega);have HB35:=hid (hk.blkE HB34.out fun e=>by have e:B3=B2:=e;have:=HN3.out;omega);clear hW hb hk;have HQ:=hid (must1 HR5.out [59] _ H2.out);go_wp2_with fail;go_at_call 77;refine HQ.out.mono ?_;rintro e W6 ⟨rfl,hr,hk⟩;have HB26:=hid (hk.blkE HB25.out fun e=>by have e:B2=R:=e;have:=HN.out;omega);have HB36:=hid (hk.blkE HB35.out fun e=>by have e:B3=R:=e;have:=HN.out;have:=HN3.out;omega);have HR6:=hid hr;have HK6:=hid (HK5.out.trans hk);clear hr hk;have HLT:=hid (show R<w.heap.size∧w.heap.size≤B2∧B2<B3 by have:=HN.out;have:=HN3.out;omega);go_wp2_with fail;go_loopw [4,5] (fun v4 v5 wr=>∃v dn rest ts,ContsAtE w wr R el ec B2 B3 pn conts EC v dn rest ts) (fun _ _ wr=>leftOf R wr)
 case atStart=>exact⟨.slice none 0 0,[],conts,ts1,rfl,World.ownsRow_nil _ _ _ _,HB26.out,HB36.out,HCS.out,HR6.out,HK6.out,HLT.out⟩
 case round=>
  obtain⟨v,dn,rest,ts,hat⟩:=hrel;have HAT:=hid hat
  have HLF:=hid (leftOf_at hat.rd);clear hat
  cases rest with
  | nil=>
   have hch:=HAT.out.chain;unfold ChainCE at hch;rw[HEC.out]at hch;rcases hch with⟨hz,ths,htl,hts⟩|⟨t,r,bb,rfl,hk1,hof,ho,hbad⟩
   ·have HTS:=hid hts;have HTL:=hid htl;clear hts htl
    obtain⟨kk,T,tn,tl,tc,hpv,hkk⟩:∃kk T tn tl tc,peekV ts el ec=.agg #[.int .i64 kk,.string ⟨T.toArray⟩,.int .i64 tn,.int .i64 tl,.int .i64 tc]∧ofL kindL T=0:=by
     cases ts with
     |nil=>exact⟨_,[],_,_,_,rfl,rfl⟩
     |cons t r0=>exact⟨_,t.tok.text,_,_,_,rfl,hz t r0 rfl⟩
    have HPK:=hid (by have h:=peek_any wr R ts el ec HAT.out.rd;rw[hpv]at h;exact h);clear hpv hz;go_wp2_with fail;go_at_call 79;refine HPK.out.mono ?_;rintro e W7 ⟨rfl,hk7⟩;obtain⟨W8,B4,hW8,hB4,hb4,hk8,hs8⟩:=BD W7 (.cells #[.int .i64 kk,.string ⟨T.toArray⟩,.int .i64 tn,.int .i64 tl,.int .i64 tc] TTk);have hkk8:=hk7.trans hk8;have HK8:=hid hkk8;have HB4:=hid hb4;have HB38:=hid (hkk8.blk HAT.out.b3);have HN4:=hid (show wr.heap.size≤B4 by have:=hk7.size;omega);have HN8:=hid (show B3<B4 by have:=(AG.1 (hk7.blk HAT.out.b3)).1;omega);clear hk7 hk8 hs8 hb4 hkk8;go_upto_region 6 with fail;rw[←hW8,←hB4];clear hW8 hB4;obtain⟨y1,y2,y3,y4,y5,-⟩:=blk5 HB4.out;obtain⟨kn,hkn⟩:∃k,ofL kindL T=k:=⟨_,rfl⟩;have HKN:=hid hkn;have cc:=fun w' (h:BA (fun _=>False) W8.drew w')=>((BA.drew _ W8).trans h).stay y2
    have HOF:=hid (fun w' (h:BA (fun _=>False) W8.drew w')=>of_any kindL (by decide) B3 0 4 w' (fun j hj=>by
     have hb:=((BA.drew (fun _=>False) W8).trans h).blk HB38.out;rw[Nat.zero_add];refine BH hb ?_;have hj4:j<4:=hj;have key:j=0∨j=1∨j=2∨j=3:=by omega
     rcases key with rfl|rfl|rfl|rfl<;>rfl) T)
    rw[hkn]at HOF;clear hkn;refine CN (by kernel_rfl) (fun i=>[[],[],[1],[0,1,2],[0,1,2,3]].getD i []) (fun _=>[]) (fun _=>[]) [] (by kernel_rfl) (fun i=>if i=3 then some (BN (.int .i64 kn)) else none) ?_;apply BC rfl rfl
    ·intro w' hk;go_simp;with_reducible rfl
    simp only[Act.put,LS];apply BC rfl rfl
    ·intro w' hk;go_simp;with_reducible rfl
    simp only[Act.put,LS];apply BC rfl rfl
    ·intro w' hk;have e2:=cc w' hk;go_simp;with_reducible rfl
    simp only[Act.put,LS];refine BE rfl rfl (BR 80 #[.slice (some ⟨B3,0,none⟩) 4 4,.string ⟨T.toArray⟩] (fun w=>by kernel_rfl) ⟨default,trivial⟩ (fun g _=>BX _) fun w' hk _ _=>(HOF.out w' hk).mono ?_) fun gs _=>?_
    ·rintro e w'' ⟨rfl,rfl⟩;exact⟨default,trivial,rfl,BA.refl _ _,fun b h=>h.elim,trivial⟩
    simp only[BN,Act.put,LS];apply BC rfl rfl
    ·intro w' hk;go_simp;with_reducible rfl
    simp only[Act.put,LS];refine BP ?_;intro W9 hk9 _ _;have HK9:=hid (HK8.out.trans ((BA.drew (fun _=>False) W8).trans hk9));have HB49:=hid (((BA.drew (fun _=>False) W8).trans hk9).blk HB4.out);clear hk9 cc y1 y2 y3 y4 y5;obtain⟨y1,y2,y3,y4,y5,-⟩:=blk5 HB49.out;have hkn0:kn=0:=by rw[←HKN.out];exact hkk
    subst hkn0;clear hkk;have HRD:=hid (HAT.out.rd.keep HK9.out fun _ _ e=>e);have HB29:=hid (HK9.out.blk HAT.out.b2);have HROW:=hid (DO HAT.out.row HK9.out fun _ _ e=>e);have HKW9:=hid (HAT.out.keep.trans (HK9.out.mono fun b e=>(e.elim:b=R)));go_upto_region 11 with fail;have hdl:dn=conts:=by have:=HAT.out.all;rw[List.append_nil]at this;exact this.symm
    rw[←hdl]at HTS;clear hdl;obtain⟨ET,hET⟩:∃E,E=EndT R el ec pn dn o ths:=⟨_,rfl⟩;rw[←hET]at HTS;have HET:=hid hET;clear hET;obtain⟨p,cap,hv,hcc⟩:=rowS_some HROW.out;have hlt:=HAT.out.lt
    have HCT:=hid (show CtsAt W9 (fun b=>w.heap.size≤b∧b<W9.heap.size∧b≠B2) p dn from by
     rcases hcc with h0|⟨g,rfl,hc⟩
     ·exact .inl (List.eq_nil_of_length_eq_zero h0)
     ·have hg:=HROW.out.lt g (by rw[hv];rfl);exact .inr ⟨g,rfl,⟨by omega,hg.2,by omega⟩,hc⟩)
    have HLT9:=hid (show R<w.heap.size∧w.heap.size≤B2∧B2<W9.heap.size∧W9.heap.size≤W9.heap.size from⟨hlt.1,hlt.2.1,(AG.1 HB29.out).1,Nat.le_refl _⟩);rw[hv]at HB29;clear hv hcc hlt;have HTS3:=HTS;go_loopw [63] (fun _ wt=>∃v dn2 rest ts sl,ThsInvE w wt R el ec B2 W9.heap.size pn p cap P ET ths dn v dn2 rest ts sl) (fun _ wt=>leftOf R wt)
    case atStart=>exact⟨.slice none 0 0,[],ths,ts,[],rfl,World.ownsRow_nil _ _ _ _,fun j h=>absurd h (Nat.not_lt_zero _),HB29.out,HCT.out,HTS3.out,HRD.out,HKW9.out,HLT9.out⟩
    case round=>
     obtain⟨v,dn2,rest,ts,sl,hat⟩:=hrel;have HAT2:=hid hat
     have HLF2:=hid (leftOf_at hat.rd);obtain⟨pq,cq,hro,-⟩:=hat.rd.ex;obtain⟨b0,-,-,-,-,-,f0⟩:=blk6 hro;have HRO:=hid hro;clear hat hro
     cases rest with
     | nil=>
      have hch:=HAT2.out.chain;unfold ChainTE at hch;rw[HET.out]at hch;rcases hch with⟨hts,ho⟩|⟨hnil,bb,ho,hbad⟩
      ·subst hts;subst ho;rw[List.length_nil]at b0;obtain⟨q,d,hv,hcc⟩:=rowS_some HAT2.out.row;have hb2:=HAT2.out.b2;rw[hv]at hb2;obtain⟨n0,n1,n2,g0,g1,g2⟩:=BS hb2;have HB2Z:=hid hb2;have HV:=hid hv;have HCC:=hid hcc;clear hb2 hv hcc;go_wp2_with fail;obtain⟨wf,hwf,hp,hkp⟩:=put3 HB2Z.out (.int .i64 pn) (.slice p dn.length cap) (.slice q dn2.length d);rw[←hwf];obtain⟨c0,c1,c2,-⟩:=BS hp;have hdl2:dn2=ths:=by have:=HAT2.out.all;rw[List.append_nil]at this;exact this.symm
       subst hdl2;have hlt:=HAT2.out.lt;have hsl:sl.length=dn2.length:=by have:=HAT2.out.row.1;omega
       refine bodyPost_ret (v:=.agg #[.int .i64 pn,.slice p dn.length cap,.slice q dn2.length d]) (by simp[results,Tryz.results58,go_sem,c0,c1,c2]) rfl ⟨_,rfl,⟨p,cap,q,d,rfl,?_,?_⟩,?_⟩
       ·exact HAT2.out.cts.keepS (fun b o v hS hc=>hkp.cell hc hS.2.2) fun b hb=>hb.1
       ·refine⟨sl,hsl,?_,fun j h h'=>?_⟩
        ·rcases HCC.out with h0|⟨g,rfl,hc⟩
         ·exact .inl (List.eq_nil_of_length_eq_zero h0)
         ·have hg:=HAT2.out.row.lt g (by rw[HV.out];rfl);exact .inr ⟨g,rfl,by show w.heap.size≤g;omega,fun j u hj=>hkp.cell (hc j u hj) (by show ¬g=B2;omega)⟩
        ·obtain⟨q',c',e1,e2⟩:=HAT2.out.each j h h';exact⟨q',c',e1,(e2.keep hkp fun b hb e=>hb.2.1 e).mono fun b hb=>hb.1⟩
       ·exact HAT2.out.keep.newE hkp fun b e=>by have e:b=B2:=e;omega
      ·subst ho;obtain⟨FL,hFL⟩:∃FL:List PanicEntry,FL=CY bb el ec:=⟨_,rfl⟩;have HFL:=hid hFL;clear hFL
       have hne:(0:Int)<(ts.length:Int):=by
        cases ts with
        |nil=>exact absurd rfl hnil
        |cons _ _=>rw[LC];omega
       clear hnil;rcases hbad with hbad|⟨ts1,hm1,hgb⟩
       ·have HQ:=hid (must1b HAT2.out.rd [116,104,114,101,97,100] _ hbad);rw[←HFL.out]at HQ;clear hbad;go_wp2_with fail;go_at_call 77;refine HQ.out.mono ?_;rintro e We ⟨rfl,hk⟩;have HKE:=hid (HAT2.out.keep.trans hk);clear hk;go_wp2_with fail;exact⟨rfl,congrArg Ending.panicked HFL.out,HKE.out⟩
       have HQ:=hid (must1 HAT2.out.rd _ _ hm1);have HBK:=hid (show ∀W,BG W R ts1 el ec→Calls _ _ _ W fun e w'=>e=.panicked (CY bb el ec)∧BA (fun b=>b=R) W w' from hgb);clear hm1 hgb;go_wp2_with fail;go_at_call 77;refine HQ.out.mono ?_;rintro e X ⟨rfl,hr,hk⟩;clear b0 f0 hne;have hlt:=HAT2.out.lt;have HRX:=hid hr;have HB2X:=hid (hk.blkE HAT2.out.b2 fun e=>by have e:B2=R:=e;omega);have HROWX:=hid (DO HAT2.out.row hk fun b hb e=>by have e:b=R:=e;have:=(HAT2.out.row.lt b hb).1;omega)
       have HEACH:=hid (show ∀j (h:j<sl.length) (h':j<dn2.length),∃q c,sl[j]=.slice q dn2[j].length c∧CJ X (fun b=>(w.heap.size≤b∧b≠B2∧v.ownBlock≠some b)∧b<X.heap.size) q 0 dn2[j]from fun j h h'=>by
        obtain⟨q,c,e1,e2⟩:=HAT2.out.each j h h';exact⟨q,c,e1,(e2.keep hk fun b hb e=>by have e:b=R:=e;have:=hb.1;omega).inHeap⟩)
       have HCTX:=hid (HAT2.out.cts.keepS (w':=X) (S':=fun b=>w.heap.size≤b∧b<W9.heap.size∧b≠B2) (fun b o u hS hc=>hk.cell hc fun e=>by have e:b=R:=e;have:=hS.1;omega) fun b hb=>hb);have HKX:=hid (HAT2.out.keep.trans hk);have HSX:=hid (Nat.le_trans hlt.2.2.2 hk.size);obtain⟨pq2,cq2,hro,-⟩:=hr.ex;have HRO:=hid hro;have HNM3:=hid (show ∀b,(fun b=>b=R∨b=B2∨v.ownBlock=some b) b→b=R∨w.heap.size≤b from fun b hb=>hb.elim .inl fun hb=>.inr (hb.elim (fun e=>by omega) fun e=>by have:=(HROWX.out.lt b e).1;omega));have HLO:=hid (show ∀b,b≤R→(fun b=>b=R∨b=B2∨v.ownBlock=some b) b→b=R from fun b hb h=>h.elim id fun h=>h.elim (fun e=>by omega) fun e=>by have:=(HROWX.out.lt b e).1;omega)
       have HRS:=hid (show ∀w',BA (fun b=>b=R∨b=B2∨v.ownBlock=some b) X.drew w'→w'.heap[R]?=X.heap[R]?→BG w' R ts1 el ec from fun w' hk hr=>HRX.out.same (Nat.le_trans (BA.drew (fun _=>False) X).size hk.size) fun b hb=>by
        by_cases e:b=R
        ·rw[e,hr]
        ·exact(((BA.drew (fun b=>b=R∨b=B2∨v.ownBlock=some b) X).trans hk).block b (by have:=HRX.out.lt;omega) (fun h=>e (HLO.out b hb h))))
       have HTLN:=hid (show dn2.length≤1000000 by have h:=HAT2.out.all;have h2:=HTL.out;rw[h]at h2;simp only[LA]at h2;omega);clear hr hk hro hlt;go_upto_region 13 with fail
       refine OwnX.wp_own3 (fun ch w'=>ch=FL∧BA (fun b=>b=R) w w') (fun ch a w' hd h=>by obtain⟨rfl,h2⟩:=h;exact⟨hd.1,congrArg Ending.panicked HFL.out,h2⟩) (by kernel_rfl) R B2 _ _ HRO.out HB2X.out (by have:=HAT2.out.lt;omega) W9.heap.size TSs 1 v dn2.length _ HROWX.out (by have:=HAT2.out.lt;omega) (fun i=>[[],[0],[],[2],[2,3],[0,1,2,3,4],[0,1,2,3,4,5],[0,1,2,3,4,5,6]].getD i []) (fun i=>if i=1 then [9] else if i=3 then [8] else if i=5 then [10,4] else if i=7 then [9] else []) (fun i=>if i=5 then [10] else if i=7 then [9] else []) [3,5,7] (by kernel_rfl)
        (fun i=>if i=1 then some (BN v) else if i=3 then some (OwnX.sNo (.slice none 0 0)) else if i=4 then some (sOneV TSs #[.slice none 0 0]) else if i=5 then some (sRow W9.heap.size TSs 1 (dn2.length+1) (sl++[.slice none 0 0])) else if i=7 then some (CT B2 2 TPr #[.int .i64 pn,.slice p dn.length cap,v]) else none) ?_
       apply OwnX.BC rfl rfl
       ·intro w' hk;go_simp;with_reducible rfl
       simp only[Act.put,LS]
       refine OwnX.BE rfl rfl (.of <| BY ⟨default,trivial⟩ (fun g _ w w' _ _ _ _ _=>trivial) fun w' hk hav _=>by
        obtain⟨x0,x1,x2,-⟩:=BS (show w'.heap[B2]?=some (.cells #[.int .i64 pn,.slice p dn.length cap,v] TPr (0,0)) from(hav 9 (by decide)).1);exact⟨w',default,trivial,.inl (by go_simp<;>rfl),BA.refl _ _,fun b h=>h.elim,trivial⟩) fun _ _=>?_
       simp only[BN,Act.put,LS];apply OwnX.BC rfl rfl
       ·intro w' hk;go_simp;with_reducible rfl
       simp only[Act.put,LS];refine OwnX.BE rfl rfl (OwnX.loud_gives 82 #[rdV R] _ (fun w=>by go_simp) fun w' hk hav=>(HBK.out w' (HRS.out w' hk ((hav 8 (by decide)).1.trans HRO.out.symm))).mono ?_) fun g3 _=>?_
       ·rintro e w'' ⟨rfl,hk2⟩;exact⟨_,rfl,HFL.out.symm,(HKX.out.newM ((BA.drew (fun b=>b=R∨b=B2∨v.ownBlock=some b) X).trans hk) fun b hb=>HNM3.out b hb).trans hk2⟩
       simp only[OwnX.sNo,Act.put,LS];refine OwnX.BE rfl rfl (.of <| loud_oneV TSs #[.slice none 0 0] (fun w=>by go_simp)) fun g4 _=>?_;simp only[sOneV,Act.put,LS];refine OwnX.BE rfl rfl (.of <| FC W9.heap.size TSs 23 (.slice none 0 0) 1 24 (by kernel_rfl) (by kernel_rfl) rfl (by decide) (.tmp 64) (.tmp 67) rfl v dn2.length _ g4.b [.slice none 0 0] rfl rfl rfl (by simp[Value.oneCell']) (by unfold maxLen;have:=HTLN.out;omega) (by have:=HTLN.out;omega) (by have:=HSX.out;show W9.heap.size≤X.heap.size;omega) 10 (by decide) (by decide) (fun w h=>h) (fun b hb=>.inr (.inr ⟨rfl,hb⟩)) 4 (by decide) (fun w h=>h)) fun g5 _=>?_;simp only[sRow,Act.put,LS];apply OwnX.BC rfl rfl
       ·intro w' hk;go_simp;with_reducible rfl
       simp only[Act.put,LS];refine OwnX.BE rfl rfl (.of <| CS B2 2 TPr #[.int .i64 pn,.slice p dn.length cap,v] (.slice g5.p (dn2.length+1) g5.c) (BV rfl rfl) (fun w u hc hf=>by go_simp<;>rfl) 9 (by decide) (by decide) (fun w h=>h) (.inr (.inl ⟨rfl,rfl⟩)) (by show 2<3;decide)) fun g7 _=>?_;simp only[CT,Act.put,LS];refine OwnX.BP ?_;intro w9 hk9 hF hdis;exact((hF 3 (by decide)).1:False).elim
     | cons b rest=>
      obtain⟨ts1,m,hm1,hPb,hml,hch⟩:=HAT2.out.chain
      have hne:(0:Int)<(ts.length:Int):=by
       cases ts with
       |nil=>unfold CQ at hm1;cases hm1
       |cons _ _=>rw[LC];omega
      have HQ:=hid (must1 HAT2.out.rd _ _ hm1);have HBK:=hid (show ReadsB R el ec ts1 m b from HP.out ts1 b m hPb);have HML:=hid hml;have HCH:=hid hch;clear hm1 hPb hml hch;go_wp2_with fail;go_at_call 77;refine HQ.out.mono ?_;rintro e X ⟨rfl,hr,hk⟩;clear b0 f0 hne;have hlt:=HAT2.out.lt;have HRX:=hid hr;have HB2X:=hid (hk.blkE HAT2.out.b2 fun e=>by have e:B2=R:=e;omega);have HROWX:=hid (DO HAT2.out.row hk fun b hb e=>by have e:b=R:=e;have:=(HAT2.out.row.lt b hb).1;omega)
      have HEACH:=hid (show ∀j (h:j<sl.length) (h':j<dn2.length),∃q c,sl[j]=.slice q dn2[j].length c∧CJ X (fun b=>(w.heap.size≤b∧b≠B2∧v.ownBlock≠some b)∧b<X.heap.size) q 0 dn2[j]from fun j h h'=>by
       obtain⟨q,c,e1,e2⟩:=HAT2.out.each j h h';exact⟨q,c,e1,(e2.keep hk fun b hb e=>by have e:b=R:=e;have:=hb.1;omega).inHeap⟩)
      have HCTX:=hid (HAT2.out.cts.keepS (w':=X) (S':=fun b=>w.heap.size≤b∧b<W9.heap.size∧b≠B2) (fun b o u hS hc=>hk.cell hc fun e=>by have e:b=R:=e;have:=hS.1;omega) fun b hb=>hb);have HKX:=hid (HAT2.out.keep.trans hk);have HSX:=hid (Nat.le_trans hlt.2.2.2 hk.size);obtain⟨pq2,cq2,hro,-⟩:=hr.ex;have HRO:=hid hro;have HNM3:=hid (show ∀b,(fun b=>b=R∨b=B2∨v.ownBlock=some b) b→b=R∨w.heap.size≤b from fun b hb=>hb.elim .inl fun hb=>.inr (hb.elim (fun e=>by omega) fun e=>by have:=(HROWX.out.lt b e).1;omega));have HLO:=hid (show ∀b,b≤R→(fun b=>b=R∨b=B2∨v.ownBlock=some b) b→b=R from fun b hb h=>h.elim id fun h=>h.elim (fun e=>by omega) fun e=>by have:=(HROWX.out.lt b e).1;omega)
      have HRS:=hid (show ∀w',BA (fun b=>b=R∨b=B2∨v.ownBlock=some b) X.drew w'→w'.heap[R]?=X.heap[R]?→BG w' R ts1 el ec from fun w' hk hr=>HRX.out.same (Nat.le_trans (BA.drew (fun _=>False) X).size hk.size) fun b hb=>by
       by_cases e:b=R
       ·rw[e,hr]
       ·exact(((BA.drew (fun b=>b=R∨b=B2∨v.ownBlock=some b) X).trans hk).block b (by have:=HRX.out.lt;omega) (fun h=>e (HLO.out b hb h))))
      have HTLN:=hid (show dn2.length+1≤1000000 by have h:=HAT2.out.all;have h2:=HTL.out;rw[h]at h2;simp only[LA,LC]at h2;omega);clear hr hk hro hlt;go_upto_region 13 with fail
      refine wp_own3 (by kernel_rfl) R B2 _ _ HRO.out HB2X.out (by have:=HAT2.out.lt;omega) W9.heap.size TSs 1 v dn2.length _ HROWX.out (by have:=HAT2.out.lt;omega) (fun i=>[[],[0],[],[2],[2,3],[0,1,2,3,4],[0,1,2,3,4,5],[0,1,2,3,4,5,6]].getD i []) (fun i=>if i=1 then [9] else if i=3 then [8] else if i=5 then [10,3,4] else if i=7 then [9] else []) (fun i=>if i=3 then [8] else if i=5 then [10,3] else if i=7 then [9] else []) [5,7] (by kernel_rfl)
       (fun i=>if i=1 then some (BN v) else if i=3 then some (sBlk X.heap.size R el ec m b) else if i=4 then some (sOneA TSs) else if i=5 then some (sThr W9.heap.size TSs dn2.length sl X.heap.size R el ec m b) else if i=7 then some (CT B2 2 TPr #[.int .i64 pn,.slice p dn.length cap,v]) else none) ?_
      apply BC rfl rfl
      ·intro w' hk;go_simp;with_reducible rfl
      simp only[Act.put,LS]
      refine BE rfl rfl (BY ⟨default,trivial⟩ (fun g _ w w' _ _ _ _ _=>trivial) fun w' hk hav _=>by
       obtain⟨x0,x1,x2,-⟩:=BS (show w'.heap[B2]?=some (.cells #[.int .i64 pn,.slice p dn.length cap,v] TPr (0,0)) from(hav 9 (by decide)).1);exact⟨w',default,trivial,.inl (by go_simp<;>rfl),BA.refl _ _,fun b h=>h.elim,trivial⟩) fun _ _=>?_
      simp only[BN,Act.put,LS];apply BC rfl rfl
      ·intro w' hk;go_simp;with_reducible rfl
      simp only[Act.put,LS]
      refine BE rfl rfl (BR 82 #[rdV R] (fun w=>by go_simp) ⟨{ b:=X.heap.size },Nat.le_refl _⟩ (fun gs _ w1 w2 k1 k2 hs hb hp=>⟨sts_same hp.1 fun b hb'=>hb b (.inr hb'),hp.2.same hs fun b hb'=>by
        by_cases e:b=R
        ·exact hb b (.inl e)
        ·have hbw:b<X.drew.heap.size:=by have:=HRX.out.lt;show b<X.heap.size;omega
         rw[k1.block b hbw (fun h=>e (HLO.out b hb' h)),k2.block b hbw (fun h=>e (HLO.out b hb' h))]⟩) fun w' hk hav _=>(HBK.out w' (HRS.out w' hk ((hav 8 (by decide)).1.trans HRO.out.symm))).mono ?_) fun g3 hg3=>?_
      ·rintro e w'' ⟨q,c,rfl,hst,hr2,hk2⟩
       exact⟨{ p:=q,c:=c,b:=w'.heap.size,d:=w''.heap.size },hk.size,rfl,hk2.mono fun b e=>⟨8,by decide,.inl ⟨rfl,e⟩⟩,fun b hb=>by
        rcases hb with e|hb
        ·have e:b=R:=e;exact⟨.inr ⟨8,by decide,.inl ⟨rfl,e⟩⟩,by rw[e];exact hr2.lt⟩
        ·exact⟨.inl hb.1,hb.2⟩,hst.inHeap,hr2⟩
      simp only[sBlk,Act.put,LS];refine BE rfl rfl (loud_oneA TSs (.slice g3.p b.length g3.c) (one_arg rfl rfl) (fun w=>by go_simp)) fun g4 _=>?_;simp only[sOneA,Act.put,LS];refine BE rfl rfl (loud_appendT W9.heap.size X.heap.size TSs 23 24 (by kernel_rfl) (by kernel_rfl) (.tmp 64) (.tmp 67) rfl v dn2.length sl R el ec m b g3.b g3.d g4.b g3.c g3.p rfl rfl (by unfold maxLen;have:=HTLN.out;omega) (by have:=HTLN.out;omega) HSX.out (by have:=HAT2.out.lt;omega) (fun b hb h=>by have:=HLO.out b (Nat.le_of_lt hb) h;omega) hg3 10 (by decide) (by decide) (fun w h=>h) (fun b hb=>.inr (.inr ⟨rfl,hb⟩)) 3 (by decide) (by decide) (by decide) (fun w h=>h) (fun b hb=>hb) 4 (by decide) (fun w h=>h _ (one_arg rfl rfl))) fun g5 hg5=>?_;simp only[sThr,Act.put,LS];apply BC rfl rfl
      ·intro w' hk;go_simp;with_reducible rfl
      simp only[Act.put,LS];refine BE rfl rfl (CS B2 2 TPr #[.int .i64 pn,.slice p dn.length cap,v] (.slice g5.p (dn2.length+1) g5.c) (BV rfl rfl) (fun w u hc hf=>by go_simp<;>rfl) 9 (by decide) (by decide) (fun w h=>h) (.inr (.inl ⟨rfl,rfl⟩)) (by show 2<3;decide)) fun g7 _=>?_;simp only[CT,Act.put,LS];refine BP ?_;intro WE hkE hF _;have f5:=(hF 5 (by decide)).1;have f5f:∀k,(Of g5.p k∨k=R∨(g5.b≤k∧k<g5.d))→k<WE.heap.size∧(X.drew.heap.size≤k∨(fun b=>b=R∨b=B2∨v.ownBlock=some b) k):=(hF 5 (by decide)).2;obtain⟨hrE,hno,q,c,hrow,hst⟩:BG WE R m el ec∧(∀k,Of g5.p k→¬(g5.b≤k∧k<g5.d))∧∃q c,WE.ownsRow W9.heap.size TSs 1 (.slice g5.p (dn2.length+1) g5.c) (dn2.length+1) (sl++[Value.slice q b.length c])∧CJ WE (fun k=>g5.b≤k∧k<g5.d) q 0 b:=f5;have f7:WE.heap[B2]?=some (.cells #[.int .i64 pn,.slice p dn.length cap,.slice g5.p (dn2.length+1) g5.c] TPr (0,0)):=(hF 7 (by decide)).1 _ (BV rfl rfl);have hkM:=(BA.drew (fun b=>b=R∨b=B2∨v.ownBlock=some b) X).trans hkE;have hlt:=HAT2.out.lt;have hno:∀k,(Value.slice g5.p (dn2.length+1) g5.c).ownBlock=some k→¬(g5.b≤k∧k<g5.d):=fun k hk=>hno k (CL.1 hk)
      have hown:∀k,(Value.slice g5.p (dn2.length+1) g5.c).ownBlock=some k→v.ownBlock=some k∨X.heap.size≤k:=fun k hk=>by
       have h1:=(hrow.lt k hk).1;rcases (f5f k (.inl (CL.1 hk))).2 with e|e|e|e
       ·exact .inr e
       ·omega
       ·omega
       ·exact .inl e
      obtain⟨v',hv'⟩:∃v',Value.slice g5.p (dn2.length+1) g5.c=v':=⟨_,rfl⟩;rw[hv']at hrow f7 hno hown;rw[hv'];have HF:=hid (And.intro hrow (And.intro hst (And.intro f7 (And.intro hno hown))));have HKM:=hid hkM;have HRE:=hid hrE;clear hF hkE f5f hrow hst f7 hno hown hkM hrE hv' hlt;go_wp2_with fail;obtain⟨hrow,hst,f7,hno,hown⟩:=HF.out;have hlt:=HAT2.out.lt;have hsx:=HSX.out;have hsl:sl.length=dn2.length:=by have:=HROWX.out.1;omega
      refine⟨⟨v',dn2++[b],rest,m,sl++[Value.slice q b.length c],?_⟩,by rw[leftOf_at HRE.out,HLF2.out];exact HML.out⟩;refine⟨by rw[HAT2.out.all];simp,by rw[LA];exact hrow,fun j h h'=>?_,f7,?_,HCH.out,HRE.out,HKX.out.newM HKM.out fun k hk=>HNM3.out k hk,hlt.1,hlt.2.1,hlt.2.2.1,Nat.le_trans hsx HKM.out.size⟩
      ·by_cases hj:j<sl.length
       ·obtain⟨q',c',e1,e2⟩:=HEACH.out j hj (by omega);refine⟨q',c',by rw[List.getElem_append_left hj,List.getElem_append_left (by omega)];exact e1,?_⟩;rw[List.getElem_append_left (by omega)];refine e2.keepS fun k o u hS hc=>?_;obtain⟨⟨a1,a2,a3⟩,a4⟩:=hS;have a1:w.heap.size≤k:=a1;refine⟨HKM.out.cell hc fun e=>?_,a1,a2,fun e=>?_⟩
        ·rcases e with e|e|e
         ·have e:k=R:=e;omega
         ·exact a2 e
         ·exact a3 e
        ·rcases hown k e with e|e
         ·exact a3 e
         ·omega
       ·have hjl:j=sl.length:=by rw[LA]at h;simp at h;omega
        subst hjl;refine⟨q,c,by rw[List.getElem_append_right (Nat.le_refl _),List.getElem_append_right (by omega)];simp[hsl],?_⟩;rw[List.getElem_append_right (by omega)];simp only[hsl,Nat.sub_self,List.getElem_cons_zero];refine hst.mono fun k hk=>?_;have h5:X.heap.size≤g5.b:=hg5;have hk1:g5.b≤k:=hk.1;exact⟨by omega,by omega,fun e=>hno k e hk⟩
      ·exact HCTX.out.keepS (fun k o u hS hc=>HKM.out.cell hc fun e=>by
        obtain⟨a1,a2,a3⟩:=hS;have a1:w.heap.size≤k:=a1;rcases e with e|e|e
        ·have e:k=R:=e;omega
        ·exact a3 e
        ·have:=(HROWX.out.lt k e).1;omega) fun k hk=>hk
   ·subst ho;obtain⟨FL,hFL⟩:∃FL:List PanicEntry,FL=CY bb el ec:=⟨_,rfl⟩;have HFL:=hid hFL;clear hFL;obtain⟨T,hT⟩:∃T,t.tok.text=T:=⟨_,rfl⟩;obtain⟨tn,htn⟩:∃n:Int,(t.tok.num:Int)=n:=⟨_,rfl⟩;obtain⟨tl,htl⟩:∃n:Nat,t.line=n:=⟨_,rfl⟩;obtain⟨tc,htc⟩:∃n:Nat,t.col=n:=⟨_,rfl⟩;have HPK:=hid (by have h:=peek_cons (HAT.out.rd);rw[hk1,hT,htn,htl,htc,show (((1:Nat):Int))=1 from rfl]at h;exact h);rw[hT]at hof;have HOFN:=hid hof;have HBAD:=hid hbad;clear hk1 hof hbad hT htn htl htc;go_wp2_with fail;go_at_call 79;refine HPK.out.mono ?_;rintro e W7 ⟨rfl,hk7⟩;obtain⟨W8,B4,hW8,hB4,hb4,hk8,hs8⟩:=BD W7 (.cells #[.int .i64 1,.string ⟨T.toArray⟩,.int .i64 tn,.int .i64 tl,.int .i64 tc] TTk);have hkk8:=hk7.trans hk8;have HK8:=hid hkk8;have HB4:=hid hb4;have HB38:=hid (hkk8.blk HAT.out.b3);have HN4:=hid (show wr.heap.size≤B4 by have:=hk7.size;omega);have HN8:=hid (show B3<B4 by have:=(AG.1 (hk7.blk HAT.out.b3)).1;omega);clear hk7 hk8 hs8 hb4 hkk8;go_upto_region 6 with fail;rw[←hW8,←hB4];clear hW8 hB4;obtain⟨y1,y2,y3,y4,y5,-⟩:=blk5 HB4.out;obtain⟨kn,hkn⟩:∃k,ofL kindL T=k:=⟨_,rfl⟩;have HKN:=hid hkn;have cc:=fun w' (h:BA (fun _=>False) W8.drew w')=>((BA.drew _ W8).trans h).stay y2
    have HOF:=hid (fun w' (h:BA (fun _=>False) W8.drew w')=>of_any kindL (by decide) B3 0 4 w' (fun j hj=>by
     have hb:=((BA.drew (fun _=>False) W8).trans h).blk HB38.out;rw[Nat.zero_add];refine BH hb ?_;have hj4:j<4:=hj;have key:j=0∨j=1∨j=2∨j=3:=by omega
     rcases key with rfl|rfl|rfl|rfl<;>rfl) T)
    rw[hkn]at HOF;clear hkn;refine CN (by kernel_rfl) (fun i=>[[],[],[1],[0,1,2],[0,1,2,3]].getD i []) (fun _=>[]) (fun _=>[]) [] (by kernel_rfl) (fun i=>if i=3 then some (BN (.int .i64 kn)) else none) ?_;apply BC rfl rfl
    ·intro w' hk;go_simp;with_reducible rfl
    simp only[Act.put,LS];apply BC rfl rfl
    ·intro w' hk;go_simp;with_reducible rfl
    simp only[Act.put,LS];apply BC rfl rfl
    ·intro w' hk;have e2:=cc w' hk;go_simp;with_reducible rfl
    simp only[Act.put,LS];refine BE rfl rfl (BR 80 #[.slice (some ⟨B3,0,none⟩) 4 4,.string ⟨T.toArray⟩] (fun w=>by kernel_rfl) ⟨default,trivial⟩ (fun g _=>BX _) fun w' hk _ _=>(HOF.out w' hk).mono ?_) fun gs _=>?_
    ·rintro e w'' ⟨rfl,rfl⟩;exact⟨default,trivial,rfl,BA.refl _ _,fun b h=>h.elim,trivial⟩
    simp only[BN,Act.put,LS];apply BC rfl rfl
    ·intro w' hk;go_simp;with_reducible rfl
    simp only[Act.put,LS];refine BP ?_;intro W9 hk9 _ _;have HK9:=hid (HK8.out.trans ((BA.drew (fun _=>False) W8).trans hk9));have HB49:=hid (((BA.drew (fun _=>False) W8).trans hk9).blk HB4.out);clear hk9 cc y1 y2 y3 y4 y5;obtain⟨y1,y2,y3,y4,y5,-⟩:=blk5 HB49.out;have hkn0:kn≠0:=by rw[←HKN.out];exact HOFN.out
    have hkn0b:((kn:Int)==0)=false:=by rw[BF];omega
    have HRD:=hid (HAT.out.rd.keep HK9.out fun _ _ e=>e);have HB29:=hid (HK9.out.blk HAT.out.b2);have HROW:=hid (DO HAT.out.row HK9.out fun _ _ e=>e);have HB39:=hid (HK9.out.blk HAT.out.b3);have HKW9:=hid (HAT.out.keep.trans (HK9.out.mono fun b e=>(e.elim:b=R)));clear hkn0;obtain⟨g,o,cR,q1,q2,⟨q3,hg⟩,-,htk⟩:=HRD.out.took;have HTK2:=hid htk;have HG:=hid hg;have H23:=hid (And.intro q2 q3);obtain⟨b0,-,-,-,-,-,f0⟩:=blk6 q1;clear q1 htk hg q3;by_cases hc:cR=1
    ·subst hc;have hr0:r=[]:=List.eq_nil_of_length_eq_zero (by omega);subst hr0;have b0:W9.cell? ⟨R,0,none⟩=some (.slice (some ⟨g,o,none⟩) 1 1):=b0;clear q2;go_upto_region 9 with fail;obtain⟨X,hW,hk,hr⟩:∃X,X=W9.setCell ⟨R,0,none⟩ (.slice (some ⟨g,o,none⟩) 0 0)∧BA (fun b=>b=R) W9 X∧BG X R [] el ec:=⟨_,rfl,BA.setCell _ _ _ rfl,HTK2.out (some ⟨g,o,none⟩) 0 (.inl rfl) (fun a ha=>by cases ha;exact HG.out) (Nat.le_refl _) (by omega)⟩;rw[←hW];have hlt:=HAT.out.lt;have HRX:=hid hr;have HB2X:=hid (hk.blkE HB29.out fun e=>by have e:B2=R:=e;omega);have HB3X:=hid (hk.blkE HB39.out fun e=>by have e:B3=R:=e;omega);have HB4X:=hid (hk.blkE HB49.out fun e=>by have e:B4=R:=e;have:=HN8.out;omega);have HROWX:=hid (DO HROW.out hk fun b hb e=>by have e:b=R:=e;have:=(HROW.out.lt b hb).1;omega);have HKX:=hid (HKW9.out.trans hk);clear hW b0 f0 hr hk hlt y1 y2 y3 y4 y5
     have HB9:=hid (show DI 2 []=.bad bb from by
      rcases HBAD.out with h|⟨n,r1,h,-⟩
      ·exact h
      ·cases h)
     obtain⟨pq,cq,hro,-⟩:=HRX.out.ex;have HRO:=hid hro;have hlt:=HAT.out.lt;have HNM3:=hid (show ∀b,(fun b=>b=R∨b=B2∨v.ownBlock=some b) b→b=R∨w.heap.size≤b from fun b hb=>hb.elim .inl fun hb=>.inr (hb.elim (fun e=>by omega) fun e=>by have:=(HROWX.out.lt b e).1;omega));have HLO:=hid (show ∀b,b≤R→(fun b=>b=R∨b=B2∨v.ownBlock=some b) b→b=R from fun b hb h=>h.elim id fun h=>h.elim (fun e=>by omega) fun e=>by have:=(HROWX.out.lt b e).1;omega)
     have HRS:=hid (show ∀w',BA (fun b=>b=R∨b=B2∨v.ownBlock=some b) X.drew w'→w'.heap[R]?=X.heap[R]?→BG w' R [] el ec from fun w' hk hr=>HRX.out.same (Nat.le_trans (BA.drew (fun _=>False) X).size hk.size) fun b hb=>by
      by_cases e:b=R
      ·rw[e,hr]
      ·exact(((BA.drew (fun b=>b=R∨b=B2∨v.ownBlock=some b) X).trans hk).block b (by have:=HRX.out.lt;omega) (fun h=>e (HLO.out b hb h))))
     have HC0L:=hid (show dn.length≤1000000 by have h:=HAT.out.all;have h2:=HCL.out;rw[h]at h2;simp only[LA]at h2;omega)
     have H4N:=hid (show ¬(fun b=>b=R∨b=B2∨v.ownBlock=some b) B4 from fun h=>by
      have:=HN8.out;rcases h with e|e|e
      ·omega
      ·omega
      ·rcases Nat.lt_or_ge B4 wr.heap.size with h' | h'
       ·have h4:=(AG.1 HB4.out).1;exact absurd h' (by have:=HN4.out;omega)
       ·have h5:=rowS_lt HAT.out.row e;omega)
     obtain⟨y1,y2,y3,y4,y5,-⟩:=blk5 HB4X.out;have ck:=fun w' (h:BA (fun b=>b=R∨b=B2∨v.ownBlock=some b) X.drew w')=>((BA.drew _ X).trans h).cell y4 H4N.out;have cl:=fun w' (h:BA (fun b=>b=R∨b=B2∨v.ownBlock=some b) X.drew w')=>((BA.drew _ X).trans h).cell y5 H4N.out;clear hro hlt y1 y2 y3 y4 y5
     refine OwnX.wp_own3 (fun ch w'=>ch=FL∧BA (fun b=>b=R) w w') (fun ch a w' hd h=>by obtain⟨rfl,h2⟩:=h;exact⟨hd.1,congrArg Ending.panicked HFL.out,h2⟩) (by kernel_rfl) R B2 _ _ HRO.out HB2X.out (by have:=HAT.out.lt;omega) (B3+1) TCt 4 v dn.length _ HROWX.out (by have:=HAT.out.lt;omega) DL4 (fun i=>if i=1 then [15] else if i=4 then [14] else if i=11 then [16,10] else if i=13 then [15] else []) (fun i=>if i=11 then [16] else if i=13 then [15] else []) [4,11,13] (by kernel_rfl)
      (fun i=>if i=1 then some (BN v) else if i=4 then some (OwnX.sNo (.string ⟨#[]⟩)) else if i=10 then some (sOneV TCt #[.int .i64 kn,.string ⟨#[]⟩,.int .i64 tl,.int .i64 tc]) else if i=11 then some (sRow (B3+1) TCt 4 (dn.length+1) ((dn.map ctV).flatten++[.int .i64 kn,.string ⟨#[]⟩,.int .i64 tl,.int .i64 tc])) else if i=13 then some (CT B2 1 TPr #[.int .i64 pn,v,.slice none 0 0]) else none) ?_
     apply OwnX.BC rfl rfl
     ·intro w' hk;go_simp;with_reducible rfl
     simp only[Act.put,LS]
     refine OwnX.BE rfl rfl (.of <| BY ⟨default,trivial⟩ (fun g _ w w' _ _ _ _ _=>trivial) fun w' hk hav _=>by
      obtain⟨x0,x1,x2,-⟩:=BS (show w'.heap[B2]?=some (.cells #[.int .i64 pn,v,.slice none 0 0] TPr (0,0)) from(hav 15 (by decide)).1);exact⟨w',default,trivial,.inl (by go_simp<;>rfl),BA.refl _ _,fun b h=>h.elim,trivial⟩) fun _ _=>?_
     simp only[BN,Act.put,LS]
     repeat refine OwnX.BC rfl rfl (fun w' hk=>by go_simp;with_reducible rfl) ?_;simp only[Act.put,LS]
     refine OwnX.BE rfl rfl (OwnX.loud_gives 81 #[rdV R] _ (fun w=>by go_simp) fun w' hk hav=>(name_at (HRS.out w' hk ((hav 14 (by decide)).1.trans HRO.out.symm)) HB9.out).mono ?_) fun g4 _=>?_
     ·rintro e w'' ⟨rfl,hk2⟩;exact⟨_,rfl,HFL.out.symm,(HKX.out.newM ((BA.drew (fun b=>b=R∨b=B2∨v.ownBlock=some b) X).trans hk) fun b hb=>HNM3.out b hb).trans hk2⟩
     simp only[OwnX.sNo,Act.put,LS];apply OwnX.BC rfl rfl
     ·intro w' hk;go_simp;with_reducible rfl
     simp only[Act.put,LS];apply OwnX.BC rfl rfl
     ·intro w' hk;have e1:=ck w' hk;go_simp;with_reducible rfl
     simp only[Act.put,LS];apply OwnX.BC rfl rfl
     ·intro w' hk;go_simp;with_reducible rfl
     simp only[Act.put,LS];apply OwnX.BC rfl rfl
     ·intro w' hk;have e1:=cl w' hk;go_simp;with_reducible rfl
     simp only[Act.put,LS];apply OwnX.BC rfl rfl
     ·intro w' hk;go_simp;with_reducible rfl
     simp only[Act.put,LS];refine OwnX.BE rfl rfl (.of <| loud_oneV TCt #[.int .i64 kn,.string ⟨#[]⟩,.int .i64 tl,.int .i64 tc] (fun w=>by go_simp)) fun g10 _=>?_;simp only[sOneV,Act.put,LS];refine OwnX.BE rfl rfl (.of <| FC (B3+1) TCt 22 (.agg #[.int .i64 0,.string ⟨#[]⟩,.int .i64 0,.int .i64 0]) 4 40 (by kernel_rfl) (by kernel_rfl) rfl (by decide) (.tmp 39) (.tmp 48) rfl v dn.length _ g10.b [.int .i64 kn,.string ⟨#[]⟩,.int .i64 tl,.int .i64 tc] rfl rfl rfl (by simp[Value.oneCell']) (by unfold maxLen;have:=HC0L.out;omega) (by have:=HC0L.out;omega) (by have:=(AG.1 HB3X.out).1;show B3+1≤X.heap.size;omega) 16 (by decide) (by decide) (fun w h=>h) (fun b hb=>.inr (.inr ⟨rfl,hb⟩)) 10 (by decide) (fun w h=>h)) fun g11 _=>?_;simp only[sRow,Act.put,LS];apply OwnX.BC rfl rfl
     ·intro w' hk;go_simp;with_reducible rfl
     simp only[Act.put,LS];refine OwnX.BE rfl rfl (.of <| CS B2 1 TPr #[.int .i64 pn,v,.slice none 0 0] (.slice g11.p (dn.length+1) g11.c) (BV rfl rfl) (fun w u hc hf=>by go_simp<;>rfl) 15 (by decide) (by decide) (fun w h=>h) (.inr (.inl ⟨rfl,rfl⟩)) (by show 1<3;decide)) fun g13 _=>?_;simp only[CT,Act.put,LS];refine OwnX.BP ?_;intro w9 hk9 hF hdis;exact((hF 4 (by decide)).1:False).elim
    go_upto_region 9 with fail;obtain⟨X,hW,hk,hr⟩:∃X,X=W9.setCell ⟨R,0,none⟩ (.slice (some ⟨g,o+5,none⟩) r.length (cR - 1))∧BA (fun b=>b=R) W9 X∧BG X R r el ec:=⟨_,rfl,BA.setCell _ _ _ rfl,HTK2.out (some ⟨g,o+5,none⟩) (cR - 1) (.inr rfl) (fun a ha=>by cases ha;exact HG.out) (by omega) (by have:=H23.out;omega)⟩;rw[←hW];have hlt:=HAT.out.lt;have HRX:=hid hr;have HB2X:=hid (hk.blkE HB29.out fun e=>by have e:B2=R:=e;omega);have HB3X:=hid (hk.blkE HB39.out fun e=>by have e:B3=R:=e;omega);have HB4X:=hid (hk.blkE HB49.out fun e=>by have e:B4=R:=e;have:=HN8.out;omega);have HROWX:=hid (DO HROW.out hk fun b hb e=>by have e:b=R:=e;have:=(HROW.out.lt b hb).1;omega);have HKX:=hid (HKW9.out.trans hk);clear hW b0 f0 hc q2 hr hk hlt y1 y2 y3 y4 y5;rcases HBAD.out with hbn|⟨n,r1,hn1,hn2⟩
    ·have HB9:=hid hbn;obtain⟨pq,cq,hro,-⟩:=HRX.out.ex;have HRO:=hid hro;have hlt:=HAT.out.lt;have HNM3:=hid (show ∀b,(fun b=>b=R∨b=B2∨v.ownBlock=some b) b→b=R∨w.heap.size≤b from fun b hb=>hb.elim .inl fun hb=>.inr (hb.elim (fun e=>by omega) fun e=>by have:=(HROWX.out.lt b e).1;omega));have HLO:=hid (show ∀b,b≤R→(fun b=>b=R∨b=B2∨v.ownBlock=some b) b→b=R from fun b hb h=>h.elim id fun h=>h.elim (fun e=>by omega) fun e=>by have:=(HROWX.out.lt b e).1;omega)
     have HRS:=hid (show ∀w',BA (fun b=>b=R∨b=B2∨v.ownBlock=some b) X.drew w'→w'.heap[R]?=X.heap[R]?→BG w' R r el ec from fun w' hk hr=>HRX.out.same (Nat.le_trans (BA.drew (fun _=>False) X).size hk.size) fun b hb=>by
      by_cases e:b=R
      ·rw[e,hr]
      ·exact(((BA.drew (fun b=>b=R∨b=B2∨v.ownBlock=some b) X).trans hk).block b (by have:=HRX.out.lt;omega) (fun h=>e (HLO.out b hb h))))
     have HC0L:=hid (show dn.length≤1000000 by have h:=HAT.out.all;have h2:=HCL.out;rw[h]at h2;simp only[LA]at h2;omega)
     have H4N:=hid (show ¬(fun b=>b=R∨b=B2∨v.ownBlock=some b) B4 from fun h=>by
      have:=HN8.out;rcases h with e|e|e
      ·omega
      ·omega
      ·rcases Nat.lt_or_ge B4 wr.heap.size with h' | h'
       ·have h4:=(AG.1 HB4.out).1;exact absurd h' (by have:=HN4.out;omega)
       ·have h5:=rowS_lt HAT.out.row e;omega)
     obtain⟨y1,y2,y3,y4,y5,-⟩:=blk5 HB4X.out;have ck:=fun w' (h:BA (fun b=>b=R∨b=B2∨v.ownBlock=some b) X.drew w')=>((BA.drew _ X).trans h).cell y4 H4N.out;have cl:=fun w' (h:BA (fun b=>b=R∨b=B2∨v.ownBlock=some b) X.drew w')=>((BA.drew _ X).trans h).cell y5 H4N.out;clear hro hlt y1 y2 y3 y4 y5
     refine OwnX.wp_own3 (fun ch w'=>ch=FL∧BA (fun b=>b=R) w w') (fun ch a w' hd h=>by obtain⟨rfl,h2⟩:=h;exact⟨hd.1,congrArg Ending.panicked HFL.out,h2⟩) (by kernel_rfl) R B2 _ _ HRO.out HB2X.out (by have:=HAT.out.lt;omega) (B3+1) TCt 4 v dn.length _ HROWX.out (by have:=HAT.out.lt;omega) DL4 (fun i=>if i=1 then [15] else if i=4 then [14] else if i=11 then [16,10] else if i=13 then [15] else []) (fun i=>if i=11 then [16] else if i=13 then [15] else []) [4,11,13] (by kernel_rfl)
      (fun i=>if i=1 then some (BN v) else if i=4 then some (OwnX.sNo (.string ⟨#[]⟩)) else if i=10 then some (sOneV TCt #[.int .i64 kn,.string ⟨#[]⟩,.int .i64 tl,.int .i64 tc]) else if i=11 then some (sRow (B3+1) TCt 4 (dn.length+1) ((dn.map ctV).flatten++[.int .i64 kn,.string ⟨#[]⟩,.int .i64 tl,.int .i64 tc])) else if i=13 then some (CT B2 1 TPr #[.int .i64 pn,v,.slice none 0 0]) else none) ?_
     apply OwnX.BC rfl rfl
     ·intro w' hk;go_simp;with_reducible rfl
     simp only[Act.put,LS]
     refine OwnX.BE rfl rfl (.of <| BY ⟨default,trivial⟩ (fun g _ w w' _ _ _ _ _=>trivial) fun w' hk hav _=>by
      obtain⟨x0,x1,x2,-⟩:=BS (show w'.heap[B2]?=some (.cells #[.int .i64 pn,v,.slice none 0 0] TPr (0,0)) from(hav 15 (by decide)).1);exact⟨w',default,trivial,.inl (by go_simp<;>rfl),BA.refl _ _,fun b h=>h.elim,trivial⟩) fun _ _=>?_
     simp only[BN,Act.put,LS]
     repeat refine OwnX.BC rfl rfl (fun w' hk=>by go_simp;with_reducible rfl) ?_;simp only[Act.put,LS]
     refine OwnX.BE rfl rfl (OwnX.loud_gives 81 #[rdV R] _ (fun w=>by go_simp) fun w' hk hav=>(name_at (HRS.out w' hk ((hav 14 (by decide)).1.trans HRO.out.symm)) HB9.out).mono ?_) fun g4 _=>?_
     ·rintro e w'' ⟨rfl,hk2⟩;exact⟨_,rfl,HFL.out.symm,(HKX.out.newM ((BA.drew (fun b=>b=R∨b=B2∨v.ownBlock=some b) X).trans hk) fun b hb=>HNM3.out b hb).trans hk2⟩
     simp only[OwnX.sNo,Act.put,LS];apply OwnX.BC rfl rfl
     ·intro w' hk;go_simp;with_reducible rfl
     simp only[Act.put,LS];apply OwnX.BC rfl rfl
     ·intro w' hk;have e1:=ck w' hk;go_simp;with_reducible rfl
     simp only[Act.put,LS];apply OwnX.BC rfl rfl
     ·intro w' hk;go_simp;with_reducible rfl
     simp only[Act.put,LS];apply OwnX.BC rfl rfl
     ·intro w' hk;have e1:=cl w' hk;go_simp;with_reducible rfl
     simp only[Act.put,LS];apply OwnX.BC rfl rfl
     ·intro w' hk;go_simp;with_reducible rfl
     simp only[Act.put,LS];refine OwnX.BE rfl rfl (.of <| loud_oneV TCt #[.int .i64 kn,.string ⟨#[]⟩,.int .i64 tl,.int .i64 tc] (fun w=>by go_simp)) fun g10 _=>?_;simp only[sOneV,Act.put,LS];refine OwnX.BE rfl rfl (.of <| FC (B3+1) TCt 22 (.agg #[.int .i64 0,.string ⟨#[]⟩,.int .i64 0,.int .i64 0]) 4 40 (by kernel_rfl) (by kernel_rfl) rfl (by decide) (.tmp 39) (.tmp 48) rfl v dn.length _ g10.b [.int .i64 kn,.string ⟨#[]⟩,.int .i64 tl,.int .i64 tc] rfl rfl rfl (by simp[Value.oneCell']) (by unfold maxLen;have:=HC0L.out;omega) (by have:=HC0L.out;omega) (by have:=(AG.1 HB3X.out).1;show B3+1≤X.heap.size;omega) 16 (by decide) (by decide) (fun w h=>h) (fun b hb=>.inr (.inr ⟨rfl,hb⟩)) 10 (by decide) (fun w h=>h)) fun g11 _=>?_;simp only[sRow,Act.put,LS];apply OwnX.BC rfl rfl
     ·intro w' hk;go_simp;with_reducible rfl
     simp only[Act.put,LS];refine OwnX.BE rfl rfl (.of <| CS B2 1 TPr #[.int .i64 pn,v,.slice none 0 0] (.slice g11.p (dn.length+1) g11.c) (BV rfl rfl) (fun w u hc hf=>by go_simp<;>rfl) 15 (by decide) (by decide) (fun w h=>h) (.inr (.inl ⟨rfl,rfl⟩)) (by show 1<3;decide)) fun g13 _=>?_;simp only[CT,Act.put,LS];refine OwnX.BP ?_;intro w9 hk9 hF hdis;exact((hF 4 (by decide)).1:False).elim
    obtain⟨rfl,hk2⟩:=FB hn1;obtain⟨U,hU⟩:∃U,n.tok.text=U:=⟨_,rfl⟩;have HNM:=hid (fun W (h:BG W R (n::r1) el ec)=>by have h:=name_str h hk2;rw[hU]at h;exact h);have HMM:=hid hn2;clear hn1 hn2 hk2 hU;obtain⟨pq,cq,hro,-⟩:=HRX.out.ex;have HRO:=hid hro;have hlt:=HAT.out.lt;have HNM3:=hid (show ∀b,(fun b=>b=R∨b=B2∨v.ownBlock=some b) b→b=R∨w.heap.size≤b from fun b hb=>hb.elim .inl fun hb=>.inr (hb.elim (fun e=>by omega) fun e=>by have:=(HROWX.out.lt b e).1;omega));have HLO:=hid (show ∀b,b≤R→(fun b=>b=R∨b=B2∨v.ownBlock=some b) b→b=R from fun b hb h=>h.elim id fun h=>h.elim (fun e=>by omega) fun e=>by have:=(HROWX.out.lt b e).1;omega)
    have HRS:=hid (show ∀w',BA (fun b=>b=R∨b=B2∨v.ownBlock=some b) X.drew w'→w'.heap[R]?=X.heap[R]?→BG w' R (n::r1) el ec from fun w' hk hr=>HRX.out.same (Nat.le_trans (BA.drew (fun _=>False) X).size hk.size) fun b hb=>by
     by_cases e:b=R
     ·rw[e,hr]
     ·exact(((BA.drew (fun b=>b=R∨b=B2∨v.ownBlock=some b) X).trans hk).block b (by have:=HRX.out.lt;omega) (fun h=>e (HLO.out b hb h))))
    have HC0L:=hid (show dn.length≤1000000 by have h:=HAT.out.all;have h2:=HCL.out;rw[h]at h2;simp only[LA]at h2;omega)
    have H4N:=hid (show ¬(fun b=>b=R∨b=B2∨v.ownBlock=some b) B4 from fun h=>by
     have:=HN8.out;rcases h with e|e|e
     ·omega
     ·omega
     ·rcases Nat.lt_or_ge B4 wr.heap.size with h' | h'
      ·have h4:=(AG.1 HB4.out).1;exact absurd h' (by have:=HN4.out;omega)
      ·have h5:=rowS_lt HAT.out.row e;omega)
    obtain⟨y1,y2,y3,y4,y5,-⟩:=blk5 HB4X.out;have ck:=fun w' (h:BA (fun b=>b=R∨b=B2∨v.ownBlock=some b) X.drew w')=>((BA.drew _ X).trans h).cell y4 H4N.out;have cl:=fun w' (h:BA (fun b=>b=R∨b=B2∨v.ownBlock=some b) X.drew w')=>((BA.drew _ X).trans h).cell y5 H4N.out;clear hro hlt y1 y2 y3 y4 y5
    refine wp_own3 (by kernel_rfl) R B2 _ _ HRO.out HB2X.out (by have:=HAT.out.lt;omega) (B3+1) TCt 4 v dn.length _ HROWX.out (by have:=HAT.out.lt;omega) DL4 (fun i=>if i=1 then [15] else if i=4 then [14] else if i=11 then [16,10] else if i=13 then [15] else []) (fun i=>if i=4 then [14] else if i=11 then [16] else if i=13 then [15] else []) [4,11,13] (by kernel_rfl)
     (fun i=>if i=1 then some (BN v) else if i=4 then some { val:=fun _ _=>.string ⟨U.toArray⟩,fp:=fun _ _ k=>k=R,post:=fun _ _ w'=>BG w' R r1 el ec } else if i=10 then some (sOneV TCt #[.int .i64 kn,.string ⟨U.toArray⟩,.int .i64 tl,.int .i64 tc]) else if i=11 then some (sRow (B3+1) TCt 4 (dn.length+1) ((dn.map ctV).flatten++[.int .i64 kn,.string ⟨U.toArray⟩,.int .i64 tl,.int .i64 tc])) else if i=13 then some (CT B2 1 TPr #[.int .i64 pn,v,.slice none 0 0]) else none) ?_
    apply BC rfl rfl
    ·intro w' hk;go_simp;with_reducible rfl
    simp only[Act.put,LS]
    refine BE rfl rfl (BY ⟨default,trivial⟩ (fun g _ w w' _ _ _ _ _=>trivial) fun w' hk hav _=>by
     obtain⟨x0,x1,x2,-⟩:=BS (show w'.heap[B2]?=some (.cells #[.int .i64 pn,v,.slice none 0 0] TPr (0,0)) from(hav 15 (by decide)).1);exact⟨w',default,trivial,.inl (by go_simp<;>rfl),BA.refl _ _,fun b h=>h.elim,trivial⟩) fun _ _=>?_
    simp only[BN,Act.put,LS]
    repeat refine BC rfl rfl (fun w' hk=>by go_simp;with_reducible rfl) ?_;simp only[Act.put,LS]
    refine BE rfl rfl (BR 81 #[rdV R] (fun w=>by go_simp) ⟨default,trivial⟩ (fun gs _ w1 w2 k1 k2 hs hb hp=>hp.same hs fun b hb'=>by
      by_cases e:b=R
      ·exact hb b e
      ·have hbw:b<X.drew.heap.size:=by have:=HRX.out.lt;show b<X.heap.size;omega
       rw[k1.block b hbw (fun h=>e (HLO.out b hb' h)),k2.block b hbw (fun h=>e (HLO.out b hb' h))]) fun w' hk hav _=>(HNM.out w' (HRS.out w' hk ((hav 14 (by decide)).1.trans HRO.out.symm))).mono ?_) fun g4 _=>?_
    ·rintro e w'' ⟨rfl,hr2,hk2⟩
     exact⟨default,trivial,rfl,hk2.mono fun b e=>⟨14,by decide,.inl ⟨rfl,e⟩⟩,fun b hb=>by
      have e:b=R:=hb;exact⟨.inr ⟨14,by decide,.inl ⟨rfl,e⟩⟩,by rw[e];exact hr2.lt⟩,hr2⟩
    simp only[Act.put,LS];apply BC rfl rfl
    ·intro w' hk;go_simp;with_reducible rfl
    simp only[Act.put,LS];apply BC rfl rfl
    ·intro w' hk;have e1:=ck w' hk;go_simp;with_reducible rfl
    simp only[Act.put,LS];apply BC rfl rfl
    ·intro w' hk;go_simp;with_reducible rfl
    simp only[Act.put,LS];apply BC rfl rfl
    ·intro w' hk;have e1:=cl w' hk;go_simp;with_reducible rfl
    simp only[Act.put,LS];apply BC rfl rfl
    ·intro w' hk;go_simp;with_reducible rfl
    simp only[Act.put,LS];refine BE rfl rfl (loud_oneV TCt #[.int .i64 kn,.string ⟨U.toArray⟩,.int .i64 tl,.int .i64 tc] (fun w=>by go_simp)) fun g10 _=>?_;simp only[sOneV,Act.put,LS];refine BE rfl rfl (FC (B3+1) TCt 22 (.agg #[.int .i64 0,.string ⟨#[]⟩,.int .i64 0,.int .i64 0]) 4 40 (by kernel_rfl) (by kernel_rfl) rfl (by decide) (.tmp 39) (.tmp 48) rfl v dn.length _ g10.b [.int .i64 kn,.string ⟨U.toArray⟩,.int .i64 tl,.int .i64 tc] rfl rfl rfl (by simp[Value.oneCell']) (by unfold maxLen;have:=HC0L.out;omega) (by have:=HC0L.out;omega) (by have:=(AG.1 HB3X.out).1;show B3+1≤X.heap.size;omega) 16 (by decide) (by decide) (fun w h=>h) (fun b hb=>.inr (.inr ⟨rfl,hb⟩)) 10 (by decide) (fun w h=>h)) fun g11 _=>?_;simp only[sRow,Act.put,LS];apply BC rfl rfl
    ·intro w' hk;go_simp;with_reducible rfl
    simp only[Act.put,LS];refine BE rfl rfl (CS B2 1 TPr #[.int .i64 pn,v,.slice none 0 0] (.slice g11.p (dn.length+1) g11.c) (BV rfl rfl) (fun w u hc hf=>by go_simp<;>rfl) 15 (by decide) (by decide) (fun w h=>h) (.inr (.inl ⟨rfl,rfl⟩)) (by show 1<3;decide)) fun g13 _=>?_;simp only[CT,Act.put,LS];refine BP ?_;intro WE hkE hF _;have f4:BG WE R r1 el ec:=(hF 4 (by decide)).1;have f11:WE.ownsRow (B3+1) TCt 4 (.slice g11.p (dn.length+1) g11.c) (dn.length+1) ((dn.map ctV).flatten++[.int .i64 kn,.string ⟨U.toArray⟩,.int .i64 tl,.int .i64 tc]):=(hF 11 (by decide)).1;have f13:WE.heap[B2]?=some (.cells #[.int .i64 pn,.slice g11.p (dn.length+1) g11.c,.slice none 0 0] TPr (0,0)):=(hF 13 (by decide)).1 _ (BV rfl rfl);have hkM:=(BA.drew (fun b=>b=R∨b=B2∨v.ownBlock=some b) X).trans hkE;have HKE:=hid (HKX.out.newM hkM fun b hb=>HNM3.out b hb)
    have HB3E:=hid (hkM.blkE HB3X.out fun h=>by
     have:=HAT.out.lt;rcases h with e|e|e
     ·omega
     ·omega
     ·have:=(HROWX.out.lt B3 e).1;omega)
    obtain⟨v',hv'⟩:∃v',Value.slice g11.p (dn.length+1) g11.c=v':=⟨_,rfl⟩;rw[hv']at f11 f13;have HRE:=hid f4;have HRW:=hid f11;have HB2E:=hid f13;clear hF hkE f4 f11 f13 hkM ck cl;rw[hv'];clear hv';have HQ:=hid (must1b HRE.out [59] _ HMM.out);rw[←HFL.out]at HQ;go_wp2_with fail;go_at_call 77;refine HQ.out.mono ?_;rintro e We ⟨rfl,hk⟩;have HKF:=hid (HKE.out.trans hk);clear hk;go_wp2_with fail;exact⟨rfl,congrArg Ending.panicked HFL.out,HKF.out⟩
  | cons c0 rest=>
   obtain⟨t,n,r1,r2,rfl,hk1,hof,hk2,hm,hc0,hch⟩:=HAT.out.chain;obtain⟨T,hT⟩:∃T,t.tok.text=T:=⟨_,rfl⟩;obtain⟨tn,htn⟩:∃n:Int,(t.tok.num:Int)=n:=⟨_,rfl⟩;obtain⟨tl,htl⟩:∃n:Nat,t.line=n:=⟨_,rfl⟩;obtain⟨tc,htc⟩:∃n:Nat,t.col=n:=⟨_,rfl⟩;obtain⟨U,hU⟩:∃U,n.tok.text=U:=⟨_,rfl⟩;have HPK:=hid (by have h:=peek_cons (HAT.out.rd);rw[hk1,hT,htn,htl,htc,show (((1:Nat):Int))=1 from rfl]at h;exact h);have HNM:=hid (fun W (h:BG W R (n::r1) el ec)=>by have h:=name_str h hk2;rw[hU]at h;exact h);rw[hT,hU,htl,htc]at hc0;rw[hT]at hof;have HOFN:=hid hof;have HMM:=hid hm;have HCH:=hid hch;have HC0:=hid hc0;clear hk1 hof hk2 hm hc0 hch hT htn htl htc hU;go_wp2_with fail;go_at_call 79;refine HPK.out.mono ?_;rintro e W7 ⟨rfl,hk7⟩;obtain⟨W8,B4,hW8,hB4,hb4,hk8,hs8⟩:=BD W7 (.cells #[.int .i64 1,.string ⟨T.toArray⟩,.int .i64 tn,.int .i64 tl,.int .i64 tc] TTk);have hkk8:=hk7.trans hk8;have HK8:=hid hkk8;have HB4:=hid hb4;have HB38:=hid (hkk8.blk HAT.out.b3);have HN4:=hid (show wr.heap.size≤B4 by have:=hk7.size;omega);have HN8:=hid (show B3<B4 by have:=(AG.1 (hk7.blk HAT.out.b3)).1;omega);clear hk7 hk8 hs8 hb4 hkk8;go_upto_region 6 with fail;rw[←hW8,←hB4];clear hW8 hB4;obtain⟨y1,y2,y3,y4,y5,-⟩:=blk5 HB4.out;obtain⟨kn,hkn⟩:∃k,ofL kindL T=k:=⟨_,rfl⟩;have HKN:=hid hkn;have cc:=fun w' (h:BA (fun _=>False) W8.drew w')=>((BA.drew _ W8).trans h).stay y2
   have HOF:=hid (fun w' (h:BA (fun _=>False) W8.drew w')=>of_any kindL (by decide) B3 0 4 w' (fun j hj=>by
    have hb:=((BA.drew (fun _=>False) W8).trans h).blk HB38.out;rw[Nat.zero_add];refine BH hb ?_;have hj4:j<4:=hj;have key:j=0∨j=1∨j=2∨j=3:=by omega
    rcases key with rfl|rfl|rfl|rfl<;>rfl) T)
   rw[hkn]at HOF;clear hkn;refine CN (by kernel_rfl) (fun i=>[[],[],[1],[0,1,2],[0,1,2,3]].getD i []) (fun _=>[]) (fun _=>[]) [] (by kernel_rfl) (fun i=>if i=3 then some (BN (.int .i64 kn)) else none) ?_;apply BC rfl rfl
   ·intro w' hk;go_simp;with_reducible rfl
   simp only[Act.put,LS];apply BC rfl rfl
   ·intro w' hk;go_simp;with_reducible rfl
   simp only[Act.put,LS];apply BC rfl rfl
   ·intro w' hk;have e2:=cc w' hk;go_simp;with_reducible rfl
   simp only[Act.put,LS];refine BE rfl rfl (BR 80 #[.slice (some ⟨B3,0,none⟩) 4 4,.string ⟨T.toArray⟩] (fun w=>by kernel_rfl) ⟨default,trivial⟩ (fun g _=>BX _) fun w' hk _ _=>(HOF.out w' hk).mono ?_) fun gs _=>?_
   ·rintro e w'' ⟨rfl,rfl⟩;exact⟨default,trivial,rfl,BA.refl _ _,fun b h=>h.elim,trivial⟩
   simp only[BN,Act.put,LS];apply BC rfl rfl
   ·intro w' hk;go_simp;with_reducible rfl
   simp only[Act.put,LS];refine BP ?_;intro W9 hk9 _ _;have HK9:=hid (HK8.out.trans ((BA.drew (fun _=>False) W8).trans hk9));have HB49:=hid (((BA.drew (fun _=>False) W8).trans hk9).blk HB4.out);clear hk9 cc y1 y2 y3 y4 y5;obtain⟨y1,y2,y3,y4,y5,-⟩:=blk5 HB49.out;have hkn0:kn≠0:=by rw[←HKN.out];exact HOFN.out
   have hkn0b:((kn:Int)==0)=false:=by rw[BF];omega
   have HRD:=hid (HAT.out.rd.keep HK9.out fun _ _ e=>e);have HB29:=hid (HK9.out.blk HAT.out.b2);have HROW:=hid (DO HAT.out.row HK9.out fun _ _ e=>e);have HB39:=hid (HK9.out.blk HAT.out.b3);have HKW9:=hid (HAT.out.keep.trans (HK9.out.mono fun b e=>(e.elim:b=R)));clear hkn0;obtain⟨g,o,cR,q1,q2,⟨q3,hg⟩,-,htk⟩:=HRD.out.took;have HTK2:=hid htk;have HG:=hid hg;have H23:=hid (And.intro q2 q3);obtain⟨b0,-,-,-,-,-,f0⟩:=blk6 q1;have hc:¬cR=1:=by rw[LC]at q2;omega
   clear q1 htk hg q3;go_upto_region 9 with fail;obtain⟨X,hW,hk⟩:∃X,X=W9.setCell ⟨R,0,none⟩ (.slice (some ⟨g,o+5,none⟩) (n::r1).length (cR - 1))∧BA (fun b=>b=R) W9 X:=⟨_,rfl,BA.setCell _ _ _ rfl⟩;rw[LC]at hW;rw[←hW]
   have hr:BG X R (n::r1) el ec:=by
    have h:=HTK2.out (some ⟨g,o+5,none⟩) (cR - 1) (.inr rfl) (fun a ha=>by cases ha;exact HG.out) (by have:=H23.out;omega) (by have:=H23.out;omega);rw[LC]at h;rw[hW];exact h
   have hlt:=HAT.out.lt;have HRX:=hid hr;have HB2X:=hid (hk.blkE HB29.out fun e=>by have e:B2=R:=e;omega);have HB3X:=hid (hk.blkE HB39.out fun e=>by have e:B3=R:=e;omega);have HB4X:=hid (hk.blkE HB49.out fun e=>by have e:B4=R:=e;have:=HN8.out;omega);have HROWX:=hid (DO HROW.out hk fun b hb e=>by have e:b=R:=e;have:=(HROW.out.lt b hb).1;omega);have HKX:=hid (HKW9.out.trans hk);clear hW b0 f0 hc q2 hr hk hlt y1 y2 y3 y4 y5;obtain⟨pq,cq,hro,-⟩:=HRX.out.ex;have HRO:=hid hro;have hlt:=HAT.out.lt;have HNM3:=hid (show ∀b,(fun b=>b=R∨b=B2∨v.ownBlock=some b) b→b=R∨w.heap.size≤b from fun b hb=>hb.elim .inl fun hb=>.inr (hb.elim (fun e=>by omega) fun e=>by have:=(HROWX.out.lt b e).1;omega));have HLO:=hid (show ∀b,b≤R→(fun b=>b=R∨b=B2∨v.ownBlock=some b) b→b=R from fun b hb h=>h.elim id fun h=>h.elim (fun e=>by omega) fun e=>by have:=(HROWX.out.lt b e).1;omega)
   have HRS:=hid (show ∀w',BA (fun b=>b=R∨b=B2∨v.ownBlock=some b) X.drew w'→w'.heap[R]?=X.heap[R]?→BG w' R (n::r1) el ec from fun w' hk hr=>HRX.out.same (Nat.le_trans (BA.drew (fun _=>False) X).size hk.size) fun b hb=>by
    by_cases e:b=R
    ·rw[e,hr]
    ·exact(((BA.drew (fun b=>b=R∨b=B2∨v.ownBlock=some b) X).trans hk).block b (by have:=HRX.out.lt;omega) (fun h=>e (HLO.out b hb h))))
   have HC0L:=hid (show dn.length+1≤1000000 by have h:=HAT.out.all;have h2:=HCL.out;rw[h]at h2;simp only[LA,LC]at h2;omega)
   have H4N:=hid (show ¬(fun b=>b=R∨b=B2∨v.ownBlock=some b) B4 from fun h=>by
    have:=HN8.out;rcases h with e|e|e
    ·omega
    ·omega
    ·rcases Nat.lt_or_ge B4 wr.heap.size with h' | h'
     ·have h4:=(AG.1 HB4.out).1;exact absurd h' (by have:=HN4.out;omega)
     ·have h5:=rowS_lt HAT.out.row e;omega)
   obtain⟨y1,y2,y3,y4,y5,-⟩:=blk5 HB4X.out;have ck:=fun w' (h:BA (fun b=>b=R∨b=B2∨v.ownBlock=some b) X.drew w')=>((BA.drew _ X).trans h).cell y4 H4N.out;have cl:=fun w' (h:BA (fun b=>b=R∨b=B2∨v.ownBlock=some b) X.drew w')=>((BA.drew _ X).trans h).cell y5 H4N.out;clear hro hlt y1 y2 y3 y4 y5
   refine wp_own3 (by kernel_rfl) R B2 _ _ HRO.out HB2X.out (by have:=HAT.out.lt;omega) (B3+1) TCt 4 v dn.length _ HROWX.out (by have:=HAT.out.lt;omega) DL4 (fun i=>if i=1 then [15] else if i=4 then [14] else if i=11 then [16,10] else if i=13 then [15] else []) (fun i=>if i=4 then [14] else if i=11 then [16] else if i=13 then [15] else []) [4,11,13] (by kernel_rfl)
    (fun i=>if i=1 then some (BN v) else if i=4 then some { val:=fun _ _=>.string ⟨U.toArray⟩,fp:=fun _ _ k=>k=R,post:=fun _ _ w'=>BG w' R r1 el ec } else if i=10 then some (sOneV TCt #[.int .i64 kn,.string ⟨U.toArray⟩,.int .i64 tl,.int .i64 tc]) else if i=11 then some (sRow (B3+1) TCt 4 (dn.length+1) ((dn.map ctV).flatten++[.int .i64 kn,.string ⟨U.toArray⟩,.int .i64 tl,.int .i64 tc])) else if i=13 then some (CT B2 1 TPr #[.int .i64 pn,v,.slice none 0 0]) else none) ?_
   apply BC rfl rfl
   ·intro w' hk;go_simp;with_reducible rfl
   simp only[Act.put,LS]
   refine BE rfl rfl (BY ⟨default,trivial⟩ (fun g _ w w' _ _ _ _ _=>trivial) fun w' hk hav _=>by
    obtain⟨x0,x1,x2,-⟩:=BS (show w'.heap[B2]?=some (.cells #[.int .i64 pn,v,.slice none 0 0] TPr (0,0)) from(hav 15 (by decide)).1);exact⟨w',default,trivial,.inl (by go_simp<;>rfl),BA.refl _ _,fun b h=>h.elim,trivial⟩) fun _ _=>?_
   simp only[BN,Act.put,LS]
   repeat refine BC rfl rfl (fun w' hk=>by go_simp;with_reducible rfl) ?_;simp only[Act.put,LS]
   refine BE rfl rfl (BR 81 #[rdV R] (fun w=>by go_simp) ⟨default,trivial⟩ (fun gs _ w1 w2 k1 k2 hs hb hp=>hp.same hs fun b hb'=>by
     by_cases e:b=R
     ·exact hb b e
     ·have hbw:b<X.drew.heap.size:=by have:=HRX.out.lt;show b<X.heap.size;omega
      rw[k1.block b hbw (fun h=>e (HLO.out b hb' h)),k2.block b hbw (fun h=>e (HLO.out b hb' h))]) fun w' hk hav _=>(HNM.out w' (HRS.out w' hk ((hav 14 (by decide)).1.trans HRO.out.symm))).mono ?_) fun g4 _=>?_
   ·rintro e w'' ⟨rfl,hr2,hk2⟩
    exact⟨default,trivial,rfl,hk2.mono fun b e=>⟨14,by decide,.inl ⟨rfl,e⟩⟩,fun b hb=>by
     have e:b=R:=hb;exact⟨.inr ⟨14,by decide,.inl ⟨rfl,e⟩⟩,by rw[e];exact hr2.lt⟩,hr2⟩
   simp only[Act.put,LS];apply BC rfl rfl
   ·intro w' hk;go_simp;with_reducible rfl
   simp only[Act.put,LS];apply BC rfl rfl
   ·intro w' hk;have e1:=ck w' hk;go_simp;with_reducible rfl
   simp only[Act.put,LS];apply BC rfl rfl
   ·intro w' hk;go_simp;with_reducible rfl
   simp only[Act.put,LS];apply BC rfl rfl
   ·intro w' hk;have e1:=cl w' hk;go_simp;with_reducible rfl
   simp only[Act.put,LS];apply BC rfl rfl
   ·intro w' hk;go_simp;with_reducible rfl
   simp only[Act.put,LS];refine BE rfl rfl (loud_oneV TCt #[.int .i64 kn,.string ⟨U.toArray⟩,.int .i64 tl,.int .i64 tc] (fun w=>by go_simp)) fun g10 _=>?_;simp only[sOneV,Act.put,LS];refine BE rfl rfl (FC (B3+1) TCt 22 (.agg #[.int .i64 0,.string ⟨#[]⟩,.int .i64 0,.int .i64 0]) 4 40 (by kernel_rfl) (by kernel_rfl) rfl (by decide) (.tmp 39) (.tmp 48) rfl v dn.length _ g10.b [.int .i64 kn,.string ⟨U.toArray⟩,.int .i64 tl,.int .i64 tc] rfl rfl rfl (by simp[Value.oneCell']) (by unfold maxLen;have:=HC0L.out;omega) (by have:=HC0L.out;omega) (by have:=(AG.1 HB3X.out).1;show B3+1≤X.heap.size;omega) 16 (by decide) (by decide) (fun w h=>h) (fun b hb=>.inr (.inr ⟨rfl,hb⟩)) 10 (by decide) (fun w h=>h)) fun g11 _=>?_;simp only[sRow,Act.put,LS];apply BC rfl rfl
   ·intro w' hk;go_simp;with_reducible rfl
   simp only[Act.put,LS];refine BE rfl rfl (CS B2 1 TPr #[.int .i64 pn,v,.slice none 0 0] (.slice g11.p (dn.length+1) g11.c) (BV rfl rfl) (fun w u hc hf=>by go_simp<;>rfl) 15 (by decide) (by decide) (fun w h=>h) (.inr (.inl ⟨rfl,rfl⟩)) (by show 1<3;decide)) fun g13 _=>?_;simp only[CT,Act.put,LS];refine BP ?_;intro WE hkE hF _;have f4:BG WE R r1 el ec:=(hF 4 (by decide)).1;have f11:WE.ownsRow (B3+1) TCt 4 (.slice g11.p (dn.length+1) g11.c) (dn.length+1) ((dn.map ctV).flatten++[.int .i64 kn,.string ⟨U.toArray⟩,.int .i64 tl,.int .i64 tc]):=(hF 11 (by decide)).1;have f13:WE.heap[B2]?=some (.cells #[.int .i64 pn,.slice g11.p (dn.length+1) g11.c,.slice none 0 0] TPr (0,0)):=(hF 13 (by decide)).1 _ (BV rfl rfl);have hkM:=(BA.drew (fun b=>b=R∨b=B2∨v.ownBlock=some b) X).trans hkE;have HKE:=hid (HKX.out.newM hkM fun b hb=>HNM3.out b hb)
   have HB3E:=hid (hkM.blkE HB3X.out fun h=>by
    have:=HAT.out.lt;rcases h with e|e|e
    ·omega
    ·omega
    ·have:=(HROWX.out.lt B3 e).1;omega)
   obtain⟨v',hv'⟩:∃v',Value.slice g11.p (dn.length+1) g11.c=v':=⟨_,rfl⟩;rw[hv']at f11 f13;have HRE:=hid f4;have HRW:=hid f11;have HB2E:=hid f13;clear hF hkE f4 f11 f13 hkM ck cl;rw[hv'];clear hv';have HQ:=hid (must1 HRE.out [59] _ HMM.out);go_wp2_with fail;go_at_call 77;refine HQ.out.mono ?_;rintro e WF ⟨rfl,hr,hk⟩;have HRF:=hid hr;have HKF:=hid hk;clear hr hk;go_wp2_with fail;have hc0:ctV c0=[.int .i64 kn,.string ⟨U.toArray⟩,.int .i64 tl,.int .i64 tc]:=by rw[HC0.out,HKN.out];rfl
   have hlt:=HAT.out.lt;have hrl:=must_len HMM.out;refine⟨⟨v',dn++[c0],rest,r2,?_⟩,?_⟩
   ·refine⟨by rw[HAT.out.all];simp,?_,HKF.out.blkE HB2E.out fun e=>by have e:B2=R:=e;omega,HKF.out.blkE HB3E.out fun e=>by have e:B3=R:=e;omega,HCH.out,HRF.out,HKE.out.trans HKF.out,hlt⟩;rw[List.map_append,List.flatten_append,LA,List.map_singleton,List.flatten_singleton,hc0];exact DO HRW.out HKF.out fun b hb e=>by have e:b=R:=e;have:=(HRW.out.lt b hb).1;omega
   ·rw[leftOf_at HRF.out,HLF.out,LC,LC];omega
end Go.Proofs.YtknnmidnodeanaaGreatDoor
