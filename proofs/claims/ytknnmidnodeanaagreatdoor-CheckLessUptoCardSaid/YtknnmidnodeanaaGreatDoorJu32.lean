import Derived.Test.YtknnmidnodeanaaGreatDoorJu31
set_option maxHeartbeats 64000000
set_option maxRecDepth 100000
namespace Go.Proofs.YtknnmidnodeanaaGreatDoor
open Go Go.RowKit Own
open Go.Lib (hid)
def DP (g:Nat)(args:Array Value)(nx:List Item→Option (Ex×List Item))(nxF:List Item→List Item)(N:Nat)(w0:World)(R el ec:Nat):Prop:=
 ∀w its,BA (fun b=>b=R) w0 w→BG w R its el ec→nx its=none→its.length<N→Calls Tryz.prog g args w fun e w'=>e=.panicked (CY (nxF its) el ec)∧BA (fun b=>b=R) w w'
theorem DP.from {g:Nat}{args:Array Value}{nx:List Item→Option (Ex×List Item)}{nxF:List Item→List Item}{N:Nat}{w0 w1:World}{R el ec:Nat}(h:DP g args nx nxF N w0 R el ec)(k:BA (fun b=>b=R) w0 w1):DP g args nx nxF N w1 R el ec:=fun w its hk=>h w its (k.trans hk)
structure RowAtF (nx:List Item→Option (Ex×List Item))(nxF:List Item→List Item)(N:Nat)(ops:List Nat)(BB:List Item)(w wr:World)(R el ec B3 B6 B7 B8:Nat)(y:Ex)(ts:List Item):Prop where
 go:∃f,rowL nx ops f y ts=none∧ts.length<f∧ts.length<N∧rowLF nx nxF ops f ts=BB
 rd:BG wr R ts el ec
 b3:wr.heap[B3]?=some (.cells #[rdV R] 101 (0,0))
 b6:wr.heap[B6]?=some (.cells #[.int .i64 0,.int .i64 0,.int .i64 0,.string ⟨#[]⟩,.slice none 0 0,.int .i64 0,.int .i64 0] TEx (0,0))
 b7:wr.heap[B7]?=some (.cells signsV TSg (0,0))
 b8:∃vs,wr.heap[B8]?=some (.cells vs.toArray TEx (0,0))∧ExAt wr (fun b=>B7<b∧b≠B8) vs y
 keep:BA (fun b=>b=R) w wr
theorem RowAtF.stay {nx:List Item→Option (Ex×List Item)}{nxF:List Item→List Item}{N:Nat}{ops:List Nat}{BB:List Item}{w wr wr':World}{R el ec B3 B6 B7 B8:Nat}{y:Ex}{ts:List Item}(h:RowAtF nx nxF N ops BB w wr R el ec B3 B6 B7 B8 y ts)(k:BA (fun _=>False) wr wr'):RowAtF nx nxF N ops BB w wr' R el ec B3 B6 B7 B8 y ts:=by
 obtain⟨vs,h1,h2⟩:=h.b8;exact⟨h.go,h.rd.keep k fun _ _ e=>e,k.blk h.b3,k.blk h.b6,k.blk h.b7,⟨vs,k.blk h1,h2.keep k fun _ _ e=>e⟩,h.keep.newM k fun _ e=>e.elim⟩
theorem row_faults (g:Nat)(fst cap args:Array Value)(eg:∀args w,(callFunc g args).run Tryz.prog w=.ok (.enter g args) w)(nx:List Item→Option (Ex×List Item))(nxF:List Item→List Item)(N:Nat)(hdec:∀its x r,nx its=some (x,r)→r.length≤its.length)(w:World)(R el ec:Nat)
  (hN:Reads g args nx w R el ec) (hF:DP g args nx nxF N w R el ec) (ha:fst++cap=args) (its:List Item) (h:BG w R its el ec) (hlN:its.length<N) (p:Option Addr) (c:Nat) (ops:List Nat) (hp:Rd w p (ints (opsI ops))) (hpR:∀a,p=some a→a.block≠R) (hl:∀op∈ops,op<14) (hlen:ops.length≤100)
  (hx:rowN nx ops its=none):
  Calls Tryz.prog 116 #[rdV R,.func (.func g) fst cap,.slice p ops.length c] w fun e w'=>e=.panicked (CY (rowNF nx nxF ops its) el ec)∧BA (fun b=>b=R) w w':=by
 obtain⟨BB,hBB⟩:∃BB,rowNF nx nxF ops its=BB:=⟨_,rfl⟩;rw[hBB];unfold rowNF at hBB;unfold rowN at hx
 cases hn:nx its with
 | none=>
  rw[hn]at hBB;dsimp only at hBB;subst hBB;exact row_gives g fst cap args eg R el ec its _ (.slice p ops.length c) w (fun w' k hr=>hF w' its k hr hn hlN) ha h
 |some xr=>
 obtain⟨FL,hFL⟩:∃FL:List PanicEntry,FL=CY BB el ec:=⟨_,rfl⟩;rw[←hFL];have HFL:=hid hFL;have HFA:=hid hF;obtain⟨V1,B3,hV1,hB3,hb3,hk1,hs1⟩:=BD w (.cells #[rdV R] 101);obtain⟨V2,B6,hV2,hB6,hb6,hk2,hs2⟩:=BD V1 (.cells #[.int .i64 0,.int .i64 0,.int .i64 0,.string ⟨#[]⟩,.slice none 0 0,.int .i64 0,.int .i64 0] TEx);have h36:B3+1=B6:=by omega
 have HN3:=hid (show w.heap.size≤B3∧B3<B6∧B6<V2.heap.size∧R<w.heap.size from⟨by omega,by omega,by omega,h.lt⟩);have HK:=hid (hk1.trans hk2);have HB3:=hid (hk2.blk hb3);have HB6:=hid hb6;have HNX:=hid hN;have HRD:=hid (h.keep HK.out fun _ _ e=>e);have HP:=hid hp;have HPR:=hid hpR;have HL:=hid hl;have hS:=fun W=>signs_any W;unfold signsV at hS;have HS:=hid hS;have HDEC:=hid hdec;obtain⟨x0,r0⟩:=xr;rw[hn]at hx hBB;dsimp only at hx hBB;have hlr:=hdec _ _ _ hn;have HX:=hid (show rowL nx ops (r0.length+1) x0 r0=none∧r0.length<r0.length+1∧r0.length<N∧rowLF nx nxF ops (r0.length+1) r0=BB from⟨hx,by omega,by omega,hBB⟩);have HNE:=hid hn;clear hb3 hb6 hk1 hk2 hs1 hs2 hN h hp hpR hx hl hS hdec hn hF hFL hBB hlr hlN;go_enter Tryz.func116,Tryz.ntmps116;go_upto_region 1 with fail;rw[←hV1,←hB3,←hV2,h36];clear hV1 hB3 hV2 hB6 h36;go_upto_region 2 with (go_at_call 125;refine(HS.out _).mono ?_;rintro e w1 ⟨rfl,hk⟩);obtain⟨V3,B7,hV3,hB7,hb7,hk3,hs3⟩:=BD w1 (.cells signsV TSg);have HB7:=hid hb7;have HK3:=hid (hk.trans hk3);have HN7:=hid (show B6<B7∧B7<V3.heap.size by have h1:=hk.size;have h2:=HN3.out;omega);unfold signsV at hV3;rw[←hV3,←hB7];clear hV3 hB7 hb7 hk3 hs3 hk;go_wp2_with fail;have HKV:=hid (show BA (fun b=>b=R) w V3 from(HK.out.trans HK3.out).mono fun _ e=>e.elim);refine(HNX.out V3 its x0 r0 HKV.out (HRD.out.keep HK3.out fun _ _ e=>e) HNE.out).mono ?_;rintro e w2 ⟨vs,rfl,hex,hr,hk⟩;have HKQ:=hid hk;obtain⟨k0,o0,n0,nm0,l0,c0,kids0⟩:=x0;have hex2:=hex;unfold ExAt at hex2;obtain⟨pk,ck,hvs,-⟩:=hex2;obtain⟨S0,hS0⟩:∃S,strV nm0=.string S:=⟨_,rfl⟩;rw[hS0]at hvs;obtain⟨W2,B8,hW2,hB8,hb8,hk8,hs8⟩:=BD w2 (.cells #[.int .i64 k0,.int .i64 o0,.int .i64 n0,.string S0,.slice pk kids0.length ck,.int .i64 l0,.int .i64 c0] TEx);have HN8:=hid (show B7<B8 by have h1:=hk.size;have h2:=HN7.out;omega)
 have HAT:=hid (show RowAtF nx nxF N ops BB w W2 R el ec B3 B6 B7 B8 (.mk k0 o0 n0 nm0 l0 c0 kids0) r0 from by
  have hn3:=HN3.out;have hn7:=HN7.out;have hv:=HKV.out.size;refine⟨⟨_,HX.out⟩,hr.keep hk8 fun _ _ e=>e,hk8.blk (hk.blkE (HK3.out.blk HB3.out) fun e=>by have e:B3=R:=e;omega),hk8.blk (hk.blkE (HK3.out.blk HB6.out) fun e=>by have e:B6=R:=e;omega),hk8.blk (hk.blkE HB7.out fun e=>by have e:B7=R:=e;omega),⟨_,?_,((hex.inHeap).keep hk8 fun _ _ e=>e).mono fun b hb=>⟨by have:=hb.1;have:=hn7.2;omega,by have:=hb.2;omega⟩⟩,(HKV.out.trans hk).newM hk8 fun _ e=>e.elim⟩;rw[hvs];exact hb8)
 subst hvs;clear hex hr hk hb8 hk8 hs8 HX HNE hS0;simp only[];go_wp2_with fail;rw[←hW2,←hB8];clear hW2 hB8;go_loopw [10] (fun v10 wr=>∃(y:Ex) (ts:List Item),RowAtF nx nxF N ops BB w wr R el ec B3 B6 B7 B8 y ts) (fun _ wr=>leftOf R wr)
 case atStart=>exact⟨_,_,HAT.out⟩
 case round=>
  clear HAT;obtain⟨y,ts,hat⟩:=hrel;have HAT:=hid hat
  have hn3:=HN3.out;have hn7:=HN7.out;have hn8:=HN8.out;have hks:=HKV.out.size;have HNB:=hid (show R<B3∧B3<B6∧B6<B7∧B7<B8∧w.heap.size≤B3 by omega);clear hn3 hn7 hn8 hks;have b3:=BH (k:=0) hat.b3 rfl;have HPK:=hid (peek_any wr R ts el ec hat.rd);obtain⟨tk,tn,tl,tc,S9,hpv⟩:=peekV_form ts el ec;rw[hpv]at HPK;have HPV:=hid hpv;clear hat hpv;go_wp2_with fail;go_at_call 79;refine HPK.out.mono ?_;rintro e w4 ⟨rfl,hk⟩;obtain⟨W5,B9,hW5,hB9,hb9,hk9,hs9⟩:=BD w4 (.cells #[.int .i64 tk,.string S9,.int .i64 tn,.int .i64 tl,.int .i64 tc] TTk);have HAT5:=hid (HAT.out.stay (hk.trans hk9));have HB9:=hid hb9
  have HN9:=hid (show B8<B9 by
   obtain⟨vs,h1,-⟩:=HAT.out.b8;have h2:=(AG.1 h1).1;have h3:=hk.size;omega)
  have HLF:=hid (leftOf_at HAT.out.rd);have HIX:=hid (idxOps_any W5 B3 B7 R ⟨HAT5.out.b3,HAT5.out.b7⟩ ts el ec HAT5.out.rd p c ops (HP.out.keep HAT5.out.keep fun a ha e=>HPR.out a ha e) HL.out hlen);unfold rowF at HIX;clear hk hk9 hs9 hb9 b3;go_upto_region 4 with fail;rw[←hW5,←hB9];clear hW5 hB9;go_wp2_with fail;go_at_call 126;refine HIX.out.mono ?_;rintro e w6 ⟨hor,hk6⟩;have HAT6:=hid (HAT5.out.stay hk6);have HB96:=hid (hk6.blk HB9.out);obtain⟨f,hf,hfl,hfn,hfb⟩:=HAT.out.go
  obtain⟨f,rfl⟩:∃f',f=f'+1:=by
   cases f with
   |zero=>omega
   |succ f=>exact⟨f,rfl⟩
  unfold rowL at hf;unfold rowLF at hfb;clear hk6;rcases hor with⟨k,hk,rfl,hop⟩|⟨rfl,hop⟩
  ·rw[hop]at hf hfb
   cases ts with
   |nil=>exact absurd (List.find?_some hop) (by simp[BJ])
   |cons t r1=>
   dsimp only at hf hfb;rw[LC]at hfl hfn
   cases hn2:nx r1 with
   | none=>
    have HNX2:=hid hn2;rw[hn2]at hfb;dsimp only at hfb;have HFB:=hid (show nxF r1=BB∧r1.length<N from⟨hfb,by omega⟩)
    have HTL:=hid (show tl=t.line∧tc=t.col by
     have h9:=HPV.out;unfold peekV at h9;simp only[Value.agg.injEq,Array.mk.injEq,List.cons.injEq,Value.int.injEq,true_and]at h9;exact⟨h9.2.2.2.1.symm,h9.2.2.2.2.1.symm⟩)
    obtain⟨g1,o1,c1,h1,h2,⟨h3,hg⟩,htk⟩:=HAT6.out.rd.took2;have HTK:=hid htk;have HG:=hid hg;have H23:=hid (And.intro h2 h3);have HRO:=hid h1;obtain⟨b0,-,-,-,-,-,f0⟩:=blk6 h1;have b3:=BH (k:=0) HAT6.out.b3 rfl;clear hf hfb hfl hfn hn2 h1 htk hg h3 hop;obtain⟨q1,hq1⟩:∃q:Option Addr,q=if c1=1 then some ⟨g1,o1,none⟩ else some ⟨g1,o1+5,none⟩:=⟨_,rfl⟩
    have HR7:=hid (fun w'=>HTK.out w' q1 (c1 - 1) (by
     by_cases e:c1=1
     ·exact .inl (List.eq_nil_of_length_eq_zero (by omega))
     ·rw[hq1,if_neg e];exact .inr rfl) (fun a ha=>by
      have hg:=HG.out;rw[hq1]at ha;split at ha
      ·cases ha;exact hg
      ·cases ha;exact hg) (by omega) (by have:=H23.out;omega))
    have hl1:(1:Int)≤(r1.length:Int)+1:=by omega
    go_upto_region 7 with fail;have z3:∀w',BA (fun k=>k=R) w6.drew w'→w'.cell? ⟨B3,0,none⟩=some (rdV R):=fun w' h=>keep_cell' ((BA.drew _ w6).trans h) b3 (by have:=HNB.out;omega);clear b3 b0 f0 h2
    refine wp_own1 (by kernel_rfl) R _ HRO.out DL5 (fun i=>if i=4 then [9] else if i=8 then [9] else []) (fun i=>if i=8 then [9] else []) [8] (by kernel_rfl)
     (fun i=>if i=4 then some (BN (.slice (some ⟨g1,o1,none⟩) (r1.length+1) c1)) else if i=8 then some (sCell R 0 TRd #[.slice (some ⟨g1,o1,none⟩) (r1.length+1) c1,.int .i64 0,.string ⟨#[]⟩,.int .i64 0,.int .i64 el,.int .i64 ec] (.slice (if c1=1 then some ⟨g1,o1,none⟩ else some ⟨g1,o1+5,none⟩) r1.length (c1 - 1))) else none) ?_
    repeat refine BC rfl rfl (fun w' hk=>by go_simp;with_reducible rfl) ?_;simp only[Act.put,LS]
    refine BE rfl rfl (BY ⟨default,trivial⟩ (fun g _ w w' _ _ _ _ _=>trivial) fun w' hk hav _=>by
     have hx:w'.cell? ⟨R,0,none⟩=some (.slice (some ⟨g1,o1,none⟩) (r1.length+1) c1):=BH (show w'.heap[R]?=some (.cells #[.slice (some ⟨g1,o1,none⟩) (r1.length+1) c1,.int .i64 0,.string ⟨#[]⟩,.int .i64 0,.int .i64 el,.int .i64 ec] TRd (0,0)) from(hav 9 (by decide)).1) rfl;exact⟨w',default,trivial,.inl (by go_simp<;>rfl),BA.refl _ _,fun b h=>h.elim,trivial⟩) fun _ _=>?_
    simp only[BN,Act.put,LS]
    repeat refine BC rfl rfl (fun w' hk=>by go_simp;with_reducible rfl) ?_;simp only[Act.put,LS]
    refine BE rfl rfl (DW R 0 TRd _ _ (fun w u hc hf=>by go_simp<;>rfl) 9 (by decide) (by decide) (fun w h=>h) ⟨rfl,rfl⟩ (by show 0<6;decide)) fun g8 _=>?_;simp only[sCell,Act.put];refine BP ?_;intro w7 hk7 hF _;have hkM:=(BA.drew (fun k=>k=R) w6).trans hk7;have f8:w7.heap[R]?=some (.cells #[.slice (if c1=1 then some ⟨g1,o1,none⟩ else some ⟨g1,o1+5,none⟩) r1.length (c1 - 1),.int .i64 0,.string ⟨#[]⟩,.int .i64 0,.int .i64 el,.int .i64 ec] TRd (0,0)):=(hF 8 (by decide)).1;rw[←hq1]at f8;have HRD7:=hid (HR7.out w7 hkM f8);have HKM:=hid hkM;have hkM7:=hkM;clear z3 hk7 hF hkM f8 hq1 hl1;have hkw:=HAT6.out.keep.trans hkM7;go_upto_region 8 with fail;have hnb:=HNB.out;have hn9:=HN9.out;obtain⟨pq,cq,hro,-,-,-⟩:=HRD7.out.ex;obtain⟨vs,hb8,hex⟩:=HAT6.out.b8;have hb8:=HKM.out.blkE hb8 fun e=>by have e:B8=R:=e;omega
    have hex:=hex.keep HKM.out fun b hb e=>by have e:b=R:=e;omega
    obtain⟨yk,yo,yn,ym,yl,yc,yks⟩:=y;have hexu:=hex;unfold ExAt at hexu;obtain⟨pk2,ck2,hvs,-⟩:=hexu;obtain⟨S2,hS2⟩:∃S,strV ym=.string S:=⟨_,rfl⟩;rw[hS2]at hvs;subst hvs;have HEX:=hid hex;have hrp:=HP.out.keep hkw fun a ha e=>HPR.out a ha e;have hol:(opsI ops).length=ops.length:=by simp[opsI]
    obtain⟨bp,op,hpp,-⟩:=hrp.ptr (by rw[ints_length,hol];omega);have hPB:=HPR.out _ hpp;subst hpp;have hcp:=hrp.int k (by rw[hol];exact hk);rw[show nth (opsI ops) k=(ops[k]:Int) by simp[nth,opsI,List.getD,hk]]at hcp;obtain⟨on,hon⟩:∃n,ops[k]=n:=⟨_,rfl⟩;have HON:=hid hon;rw[hon]at hcp
    have hbp:bp<w.heap.size:=by
     obtain⟨b',o',e,h⟩:=HP.out 0 _ (show (ints (opsI ops))[0]?=some _ from List.getElem?_eq_getElem (by rw[ints_length,hol];omega))
     cases e;exact World.block_lt_of_cell? w _ h
    have HB97:=HKM.out.blkE HB96.out fun e=>by have e:B9=R:=e;omega
    obtain⟨-,-,-,t3,t4,-⟩:=blk5 HB97;have STM:=fun (gg oo:Nat) (u:Value) (hc:w7.cell? ⟨gg,oo,none⟩=some u) (e1:gg≠R) (e2:gg≠B8) (w':World) (hk:BA (fun b=>b=R∨b=B8) w7.drew w')=>keep_cell' ((BA.drew _ w7).trans hk) hc (fun e=>e.elim e1 e2);have zp:=STM _ _ _ hcp hPB (by omega);have z3:=STM _ _ _ t3 (by omega) (by omega);have z4:=STM _ _ _ t4 (by omega) (by omega);have hki:(k:Int)<ops.length:=by omega
    have hk0:(0:Int)≤k:=by omega
    have HR1:=hid (show ∀w',BA (fun b=>b=R∨b=B8) w7.drew w'→w'.heap[R]?=some (.cells #[.slice pq r1.length cq,.int .i64 0,.string ⟨#[]⟩,.int .i64 0,.int .i64 el,.int .i64 ec] TRd (0,0))→BG w' R r1 el ec from fun w' hk hr=>HRD7.out.same (Nat.le_trans (BA.drew (fun _=>False) w7).size hk.size) fun b hb=>by
     by_cases e:b=R
     ·rw[e,hr,hro]
     ·exact(((BA.drew (fun b=>b=R∨b=B8) w7).trans hk).block b (by have:=HRD7.out.lt;omega) (fun h=>by omega)))
    have HKW:=hid (show ∀w',BA (fun b=>b=R∨b=B8) w7.drew w'→BA (fun b=>b=R) w w' from fun w' hk=>hkw.newM ((BA.drew _ w7).trans hk) fun b hb=>hb.imp id fun e=>by omega);have HRO2:=hid hro;have HB82:=hid hb8;have HN2:=hid hnb;clear STM t3 t4 hcp HB97 hbp hPB hol hrp hon hS2 hex hro hb8 hkw hkM7 hn9 hnb
    refine OwnX.wp_ownB (fun ch w'=>ch=FL∧BA (fun b=>b=R) w w') (fun ch a w' hd h=>by obtain⟨rfl,h2⟩:=h;exact⟨hd.1,rfl,h2⟩) (by kernel_rfl) R B8 _ _ HRO2.out HB82.out (by have:=HN2.out;omega) DL6 (fun i=>if i=4 then [15] else if i=6 then [14] else if i=13 then [15] else []) (fun i=>if i=13 then [15] else []) [6,7,13] (by kernel_rfl)
     (fun i=>if i=4 then some (BN (.agg #[.int .i64 yk,.int .i64 yo,.int .i64 yn,.string S2,.slice pk2 yks.length ck2,.int .i64 yl,.int .i64 yc])) else if i=6 then some (OwnX.sNo (.agg #[.int .i64 0,.int .i64 0,.int .i64 0,.string ⟨#[]⟩,.slice none 0 0,.int .i64 0,.int .i64 0]))
      else if i=7 then some (sTwo TEx) else if i=13 then some (sPut B8 TEx) else none) ?_
    repeat refine OwnX.BC rfl rfl (fun w' hk=>by go_simp;with_reducible rfl) ?_;simp only[Act.put,LS]
    refine OwnX.BE rfl rfl (.of <| BY ⟨default,trivial⟩ (fun g _ w w' _ _ _ _ _=>trivial) fun w' hk hav _=>by
     obtain⟨x0,x1,x2,x3,x4,x5,x6,-⟩:=blk7 (show w'.heap[B8]?=some (.cells #[.int .i64 yk,.int .i64 yo,.int .i64 yn,.string S2,.slice pk2 yks.length ck2,.int .i64 yl,.int .i64 yc] TEx (0,0)) from(hav 15 (by decide)).1);exact⟨w',default,trivial,.inl (by go_simp<;>rfl),BA.refl _ _,fun b h=>h.elim,trivial⟩) fun _ _=>?_
    simp only[BN,Act.put,LS];apply OwnX.BC rfl rfl
    ·intro w' hk;go_simp;with_reducible rfl
    simp only[Act.put,LS];refine OwnX.BE rfl rfl (OwnX.loud_gives g args _ (fun w=>by go_simp) fun w' hk hav=>(HFA.out w' r1 (HKW.out w' hk) (HR1.out w' hk (hav 14 (by decide)).1) HNX2.out HFB.out.2).mono ?_) fun g6 hg6=>?_
    ·rintro e w'' ⟨rfl,hk2⟩;refine⟨_,rfl,?_,(HKW.out w' hk).trans hk2⟩;rw[HFB.out.1];exact HFL.out.symm
    simp only[OwnX.sNo,Act.put,LS];refine OwnX.BE rfl rfl (.of <| loud_two TEx 62 (.tmp 34) (.tmp 36) rfl #[.int .i64 yk,.int .i64 yo,.int .i64 yn,.string S2,.slice pk2 yks.length ck2,.int .i64 yl,.int .i64 yc] #[.int .i64 0,.int .i64 0,.int .i64 0,.string ⟨#[]⟩,.slice none 0 0,.int .i64 0,.int .i64 0] rfl rfl (fun w=>by go_simp)) fun g7 _=>?_;simp only[sTwo,Act.put,LS]
    repeat refine OwnX.BC rfl rfl (fun w' hk=>by go_simp;with_reducible rfl) ?_;simp only[Act.put,LS]
    refine OwnX.BE rfl rfl (.of <| loud_put B8 TEx TEx #[.int .i64 5,.int .i64 on,.int .i64 0,.string ⟨#[]⟩,.slice (some ⟨g7.b,0,none⟩) 2 2,.int .i64 tl,.int .i64 tc] _ (.tmp 8) (.tmp 42) rfl rfl rfl 15 (by decide) (by decide) (fun w h=>h) (.inr ⟨rfl,rfl⟩) rfl (by kernel_rfl) (by simp[Value.oneCell'])) fun g13 _=>?_;simp only[sPut,Act.put];refine OwnX.BP ?_;intro w9 hk9 hF hdis;exact((hF 6 (by decide)).1:False).elim
   | some yr=>
    obtain⟨y2,r2⟩:=yr;rw[hn2]at hf hfb;dsimp only at hf hfb;have hd9:=HDEC.out _ _ _ hn2;have HGO:=hid (show rowL nx ops f (.mk 5 ops[k] 0 [] t.line t.col [y,y2]) r2=none∧r2.length<f∧r2.length<N∧rowLF nx nxF ops f r2=BB from⟨hf,by omega,by omega,hfb⟩);have HNX2:=hid hn2
    have HTL:=hid (show tl=t.line∧tc=t.col by
     have h9:=HPV.out;unfold peekV at h9;simp only[Value.agg.injEq,Array.mk.injEq,List.cons.injEq,Value.int.injEq,true_and]at h9;exact⟨h9.2.2.2.1.symm,h9.2.2.2.2.1.symm⟩)
    obtain⟨g1,o1,c1,h1,h2,⟨h3,hg⟩,htk⟩:=HAT6.out.rd.took2;have HTK:=hid htk;have HG:=hid hg;have H23:=hid (And.intro h2 h3);have HRO:=hid h1;obtain⟨b0,-,-,-,-,-,f0⟩:=blk6 h1;have b3:=BH (k:=0) HAT6.out.b3 rfl;clear hf hfb hfl hfn hd9 hn2 h1 htk hg h3 hop;obtain⟨q1,hq1⟩:∃q:Option Addr,q=if c1=1 then some ⟨g1,o1,none⟩ else some ⟨g1,o1+5,none⟩:=⟨_,rfl⟩
    have HR7:=hid (fun w'=>HTK.out w' q1 (c1 - 1) (by
     by_cases e:c1=1
     ·exact .inl (List.eq_nil_of_length_eq_zero (by omega))
     ·rw[hq1,if_neg e];exact .inr rfl) (fun a ha=>by
      have hg:=HG.out;rw[hq1]at ha;split at ha
      ·cases ha;exact hg
      ·cases ha;exact hg) (by omega) (by have:=H23.out;omega))
    have hl1:(1:Int)≤(r1.length:Int)+1:=by omega
    go_upto_region 7 with fail;have z3:∀w',BA (fun k=>k=R) w6.drew w'→w'.cell? ⟨B3,0,none⟩=some (rdV R):=fun w' h=>keep_cell' ((BA.drew _ w6).trans h) b3 (by have:=HNB.out;omega);clear b3 b0 f0 h2
    refine wp_own1 (by kernel_rfl) R _ HRO.out DL5 (fun i=>if i=4 then [9] else if i=8 then [9] else []) (fun i=>if i=8 then [9] else []) [8] (by kernel_rfl)
     (fun i=>if i=4 then some (BN (.slice (some ⟨g1,o1,none⟩) (r1.length+1) c1)) else if i=8 then some (sCell R 0 TRd #[.slice (some ⟨g1,o1,none⟩) (r1.length+1) c1,.int .i64 0,.string ⟨#[]⟩,.int .i64 0,.int .i64 el,.int .i64 ec] (.slice (if c1=1 then some ⟨g1,o1,none⟩ else some ⟨g1,o1+5,none⟩) r1.length (c1 - 1))) else none) ?_
    repeat refine BC rfl rfl (fun w' hk=>by go_simp;with_reducible rfl) ?_;simp only[Act.put,LS]
    refine BE rfl rfl (BY ⟨default,trivial⟩ (fun g _ w w' _ _ _ _ _=>trivial) fun w' hk hav _=>by
     have hx:w'.cell? ⟨R,0,none⟩=some (.slice (some ⟨g1,o1,none⟩) (r1.length+1) c1):=BH (show w'.heap[R]?=some (.cells #[.slice (some ⟨g1,o1,none⟩) (r1.length+1) c1,.int .i64 0,.string ⟨#[]⟩,.int .i64 0,.int .i64 el,.int .i64 ec] TRd (0,0)) from(hav 9 (by decide)).1) rfl;exact⟨w',default,trivial,.inl (by go_simp<;>rfl),BA.refl _ _,fun b h=>h.elim,trivial⟩) fun _ _=>?_
    simp only[BN,Act.put,LS]
    repeat refine BC rfl rfl (fun w' hk=>by go_simp;with_reducible rfl) ?_;simp only[Act.put,LS]
    refine BE rfl rfl (DW R 0 TRd _ _ (fun w u hc hf=>by go_simp<;>rfl) 9 (by decide) (by decide) (fun w h=>h) ⟨rfl,rfl⟩ (by show 0<6;decide)) fun g8 _=>?_;simp only[sCell,Act.put];refine BP ?_;intro w7 hk7 hF _;have hkM:=(BA.drew (fun k=>k=R) w6).trans hk7;have f8:w7.heap[R]?=some (.cells #[.slice (if c1=1 then some ⟨g1,o1,none⟩ else some ⟨g1,o1+5,none⟩) r1.length (c1 - 1),.int .i64 0,.string ⟨#[]⟩,.int .i64 0,.int .i64 el,.int .i64 ec] TRd (0,0)):=(hF 8 (by decide)).1;rw[←hq1]at f8;have HRD7:=hid (HR7.out w7 hkM f8);have HKM:=hid hkM;have hkM7:=hkM;clear z3 hk7 hF hkM f8 hq1 hl1;have hkw:=HAT6.out.keep.trans hkM7;go_upto_region 8 with fail;have hnb:=HNB.out;have hn9:=HN9.out;obtain⟨pq,cq,hro,-,-,-⟩:=HRD7.out.ex;obtain⟨vs,hb8,hex⟩:=HAT6.out.b8;have hb8:=HKM.out.blkE hb8 fun e=>by have e:B8=R:=e;omega
    have hex:=hex.keep HKM.out fun b hb e=>by have e:b=R:=e;omega
    obtain⟨yk,yo,yn,ym,yl,yc,yks⟩:=y;have hexu:=hex;unfold ExAt at hexu;obtain⟨pk2,ck2,hvs,-⟩:=hexu;obtain⟨S2,hS2⟩:∃S,strV ym=.string S:=⟨_,rfl⟩;rw[hS2]at hvs;subst hvs;have HEX:=hid hex;obtain⟨zk,zo,zn,zm,zl,zc,zks⟩:=y2;obtain⟨S3,hS3⟩:∃S,strV zm=.string S:=⟨_,rfl⟩;have HS3:=hid hS3;have hrp:=HP.out.keep hkw fun a ha e=>HPR.out a ha e;have hol:(opsI ops).length=ops.length:=by simp[opsI]
    obtain⟨bp,op,hpp,-⟩:=hrp.ptr (by rw[ints_length,hol];omega);have hPB:=HPR.out _ hpp;subst hpp;have hcp:=hrp.int k (by rw[hol];exact hk);rw[show nth (opsI ops) k=(ops[k]:Int) by simp[nth,opsI,List.getD,hk]]at hcp;obtain⟨on,hon⟩:∃n,ops[k]=n:=⟨_,rfl⟩;have HON:=hid hon;rw[hon]at hcp
    have hbp:bp<w.heap.size:=by
     obtain⟨b',o',e,h⟩:=HP.out 0 _ (show (ints (opsI ops))[0]?=some _ from List.getElem?_eq_getElem (by rw[ints_length,hol];omega))
     cases e;exact World.block_lt_of_cell? w _ h
    have HB97:=HKM.out.blkE HB96.out fun e=>by have e:B9=R:=e;omega
    obtain⟨-,-,-,t3,t4,-⟩:=blk5 HB97;have STM:=fun (gg oo:Nat) (u:Value) (hc:w7.cell? ⟨gg,oo,none⟩=some u) (e1:gg≠R) (e2:gg≠B8) (w':World) (hk:BA (fun b=>b=R∨b=B8) w7.drew w')=>keep_cell' ((BA.drew _ w7).trans hk) hc (fun e=>e.elim e1 e2);have zp:=STM _ _ _ hcp hPB (by omega);have z3:=STM _ _ _ t3 (by omega) (by omega);have z4:=STM _ _ _ t4 (by omega) (by omega);have hki:(k:Int)<ops.length:=by omega
    have hk0:(0:Int)≤k:=by omega
    have HR1:=hid (show ∀w',BA (fun b=>b=R∨b=B8) w7.drew w'→w'.heap[R]?=some (.cells #[.slice pq r1.length cq,.int .i64 0,.string ⟨#[]⟩,.int .i64 0,.int .i64 el,.int .i64 ec] TRd (0,0))→BG w' R r1 el ec from fun w' hk hr=>HRD7.out.same (Nat.le_trans (BA.drew (fun _=>False) w7).size hk.size) fun b hb=>by
     by_cases e:b=R
     ·rw[e,hr,hro]
     ·exact(((BA.drew (fun b=>b=R∨b=B8) w7).trans hk).block b (by have:=HRD7.out.lt;omega) (fun h=>by omega)))
    have HKW:=hid (show ∀w',BA (fun b=>b=R∨b=B8) w7.drew w'→BA (fun b=>b=R) w w' from fun w' hk=>hkw.newM ((BA.drew _ w7).trans hk) fun b hb=>hb.imp id fun e=>by omega);have HRO2:=hid hro;have HB82:=hid hb8;have HN2:=hid hnb;clear STM t3 t4 hcp HB97 hbp hPB hol hrp hon hS2 hS3 hex hro hb8 hkw hkM7 hn9 hnb
    refine wp_ownB (by kernel_rfl) R B8 _ _ HRO2.out HB82.out (by have:=HN2.out;omega) DL6 (fun i=>if i=4 then [15] else if i=6 then [14] else if i=13 then [15] else []) (fun i=>if i=6 then [14] else if i=13 then [15] else []) [6,7,13] (by kernel_rfl)
     (fun i=>if i=4 then some (BN (.agg #[.int .i64 yk,.int .i64 yo,.int .i64 yn,.string S2,.slice pk2 yks.length ck2,.int .i64 yl,.int .i64 yc])) else if i=6 then some { ok:=fun _ g=>w7.heap.size≤g.b,val:=fun _ g=>.agg #[.int .i64 zk,.int .i64 zo,.int .i64 zn,.string S3,.slice g.p zks.length g.c,.int .i64 zl,.int .i64 zc],fp:=fun _ g b=>b=R∨(g.b≤b∧b<g.d),post:=fun _ g w'=>CB w' (fun b=>g.b≤b∧b<g.d) g.p 0 zks∧BG w' R r2 el ec }
      else if i=7 then some (sTwo TEx) else if i=13 then some (sPut B8 TEx) else none) ?_
    repeat refine BC rfl rfl (fun w' hk=>by go_simp;with_reducible rfl) ?_;simp only[Act.put,LS]
    refine BE rfl rfl (BY ⟨default,trivial⟩ (fun g _ w w' _ _ _ _ _=>trivial) fun w' hk hav _=>by
     obtain⟨x0,x1,x2,x3,x4,x5,x6,-⟩:=blk7 (show w'.heap[B8]?=some (.cells #[.int .i64 yk,.int .i64 yo,.int .i64 yn,.string S2,.slice pk2 yks.length ck2,.int .i64 yl,.int .i64 yc] TEx (0,0)) from(hav 15 (by decide)).1);exact⟨w',default,trivial,.inl (by go_simp<;>rfl),BA.refl _ _,fun b h=>h.elim,trivial⟩) fun _ _=>?_
    simp only[BN,Act.put,LS];apply BC rfl rfl
    ·intro w' hk;go_simp;with_reducible rfl
    simp only[Act.put,LS]
    refine BE rfl rfl (BR g args (fun w=>by go_simp) ⟨{ b:=w7.heap.size },Nat.le_refl _⟩ (fun g hg w w' h1 h2 hs hb hp=>⟨hp.1.same fun b hb'=>hb b (.inr hb'),hp.2.same hs fun b hb'=>by
      by_cases e:b=R
      ·exact hb b (.inl e)
      ·have:=HN2.out;have:=HRD7.out.lt;rw[h1.block b (by show b<w7.heap.size;omega) (fun h=>by omega),h2.block b (by show b<w7.heap.size;omega) (fun h=>by omega)]⟩) fun w' hk hav _=>(HNX.out w' r1 _ r2 (HKW.out w' hk) (HR1.out w' hk (hav 14 (by decide)).1) HNX2.out).mono ?_) fun g6 hg6=>?_
    ·rintro e w'' ⟨vs2,rfl,hex2,hr2,hk2⟩;have hex3:=hex2.inHeap;unfold ExAt at hex3;obtain⟨p2,cc2,hvs2,hkids⟩:=hex3;rw[HS3.out]at hvs2;subst hvs2
     exact⟨{ p:=p2,c:=cc2,b:=w'.heap.size,d:=w''.heap.size },hk.size,rfl,hk2.mono fun b e=>⟨14,by decide,.inl ⟨rfl,e⟩⟩,fun b hb=>by
      rcases hb with e|hb
      ·exact⟨.inr ⟨14,by decide,.inl ⟨rfl,e⟩⟩,by rw[e];exact hr2.lt⟩
      ·exact⟨.inl hb.1,hb.2⟩,hkids,hr2⟩
    simp only[Act.put,LS];refine BE rfl rfl (loud_two TEx 62 (.tmp 34) (.tmp 36) rfl #[.int .i64 yk,.int .i64 yo,.int .i64 yn,.string S2,.slice pk2 yks.length ck2,.int .i64 yl,.int .i64 yc] #[.int .i64 zk,.int .i64 zo,.int .i64 zn,.string S3,.slice g6.p zks.length g6.c,.int .i64 zl,.int .i64 zc] rfl rfl (fun w=>by go_simp)) fun g7 _=>?_;simp only[sTwo,Act.put,LS]
    repeat refine BC rfl rfl (fun w' hk=>by go_simp;with_reducible rfl) ?_;simp only[Act.put,LS]
    refine BE rfl rfl (loud_put B8 TEx TEx #[.int .i64 5,.int .i64 on,.int .i64 0,.string ⟨#[]⟩,.slice (some ⟨g7.b,0,none⟩) 2 2,.int .i64 tl,.int .i64 tc] _ (.tmp 8) (.tmp 42) rfl rfl rfl 15 (by decide) (by decide) (fun w h=>h) (.inr ⟨rfl,rfl⟩) rfl (by kernel_rfl) (by simp[Value.oneCell'])) fun g13 _=>?_;simp only[sPut,Act.put];refine BP ?_;intro w9 hk9 hF hdis;have f6:CB w9 (fun b=>g6.b≤b∧b<g6.d) g6.p 0 zks∧BG w9 R r2 el ec:=(hF 6 (by decide)).1;have f7:w9.heap[g7.b]?=some (.cells (#[.int .i64 yk,.int .i64 yo,.int .i64 yn,.string S2,.slice pk2 yks.length ck2,.int .i64 yl,.int .i64 yc]++#[.int .i64 zk,.int .i64 zo,.int .i64 zn,.string S3,.slice g6.p zks.length g6.c,.int .i64 zl,.int .i64 zc]) TEx (0,0)):=(hF 7 (by decide)).1 _ _ (two_args0 rfl rfl) (two_args1 rfl rfl);have f13:w9.heap[B8]?=some (.cells #[.int .i64 5,.int .i64 on,.int .i64 0,.string ⟨#[]⟩,.slice (some ⟨g7.b,0,none⟩) 2 2,.int .i64 tl,.int .i64 tc] TEx (0,0)):=(hF 13 (by decide)).1 _ (BV rfl rfl);have hg6':w7.heap.size≤g6.b:=hg6;have d7R:g7.b≠R:=fun e=>hdis 6 (by decide) 7 (by decide) (by decide) R (.inl rfl) e.symm;have d7B:g7.b≠B8:=fun e=>hdis 7 (by decide) 13 (by decide) (by decide) B8 e.symm rfl;have b7:w7.heap.size≤g7.b:=((hF 7 (by decide)).2 g7.b rfl).2.resolve_right fun h=>h.elim d7R d7B;have hn2:=HN2.out;have hB8lt:B8<w7.heap.size:=(AG.1 HB82.out).1;have hkM9:=(BA.drew (fun b=>b=R∨b=B8) w7).trans hk9;have hnoM:∀b,b≠R→b≠B8→¬(b=R∨b=B8):=fun b e1 e2 e=>e.elim e1 e2
    have HAT9:=hid (show RowAtF nx nxF N ops BB w w9 R el ec B3 B6 B7 B8 (.mk 5 on 0 [] t.line t.col [.mk yk yo yn ym yl yc yks,.mk zk zo zn zm zl zc zks]) r2 from by
     refine⟨⟨f,by rw[←HON.out];exact HGO.out⟩,f6.2,hkM9.blkE (HKM.out.blkE HAT6.out.b3 fun e=>by have e:B3=R:=e;omega) (hnoM _ (by omega) (by omega)),hkM9.blkE (HKM.out.blkE HAT6.out.b6 fun e=>by have e:B6=R:=e;omega) (hnoM _ (by omega) (by omega)),hkM9.blkE (HKM.out.blkE HAT6.out.b7 fun e=>by have e:B7=R:=e;omega) (hnoM _ (by omega) (by omega)),⟨[.int .i64 5,.int .i64 on,.int .i64 0,.string ⟨#[]⟩,.slice (some ⟨g7.b,0,none⟩) 2 2,.int .i64 tl,.int .i64 tc],f13,?_⟩,HKW.out w9 hk9⟩;unfold ExAt;refine⟨some ⟨g7.b,0,none⟩,2,by rw[HTL.out.1,HTL.out.2];rfl,kids_two (vs:=[.int .i64 yk,.int .i64 yo,.int .i64 yn,.string S2,.slice pk2 yks.length ck2,.int .i64 yl,.int .i64 yc]) (us:=[.int .i64 zk,.int .i64 zo,.int .i64 zn,.string S3,.slice g6.p zks.length g6.c,.int .i64 zl,.int .i64 zc]) f7 ⟨by omega,d7B⟩ rfl (HEX.out.keep hkM9 fun b hb=>hnoM b (by omega) hb.2) ?_⟩;unfold ExAt;exact⟨g6.p,g6.c,by rw[HS3.out],f6.1.mono fun b hb=>⟨by omega,by omega⟩⟩)
    have HLT:=hid (show leftOf R w9<leftOf R wr by
     rw[leftOf_at f6.2,HLF.out,LC];have:=HDEC.out r1 _ r2 HNX2.out;omega)
    clear zp z3 z4 hk9 hF hdis f6 f7 f13 hg6' d7R d7B b7 hn2 hB8lt hkM9 hnoM;go_wp2_with fail;exact⟨⟨_,_,HAT9.out⟩,HLT.out⟩
  ·rw[hop]at hf
   cases hf
end Go.Proofs.YtknnmidnodeanaaGreatDoor
