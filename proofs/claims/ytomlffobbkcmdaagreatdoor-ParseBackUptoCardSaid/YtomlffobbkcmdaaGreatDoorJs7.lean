import Derived.Test.YtomlffobbkcmdaaGreatDoorJs6
import Derived.Deep.CutRange
import Derived.Deep.CutBlock
import Derived.StillTailTactics
import Derived.Laws.EntriesVeiled
set_option maxHeartbeats 64000000
set_option maxRecDepth 100000
namespace Go.Proofs.YtomlffobbkcmdaaGreatDoor
open Go Go.RowKit Own
open Go.Lib (hid)
def Reads (g:Nat)(args:Array Value)(nx:List Item→Option (Ex×List Item))(w0:World)(R el ec:Nat):Prop:=
 ∀ w its x r,BA (fun b=>b=R) w0 w→BE w R its el ec→nx its=some (x,r)→
  Calls Tryz.prog g args w fun e w'=>∃vs,e=.returned (.agg vs.toArray)∧ExAt w' (fun b=>w.heap.size≤b) vs x∧BE w' R r el ec∧BA (fun b=>b=R) w w'
def leftOf (R:Nat)(w:World):Nat:=
 match w.cell? ⟨R,0,none⟩ with
 |some (.slice _ n _)=>n
 |_=>0
theorem leftOf_at {w:World}{R:Nat}{its:List Item}{el ec:Nat}(h:BE w R its el ec):leftOf R w=its.length:=by
 obtain⟨p,c,h1,-⟩:=h.ex
 unfold leftOf
 rw[BJ (k:=0) h1 rfl]
 rfl
structure RowAt (nx:List Item→Option (Ex×List Item))(ops:List Nat)(x:Ex)(r:List Item)(w wr:World)(R el ec B3 B6 B7 B8:Nat)(y:Ex)(ts:List Item):Prop where
 go:∃f,rowL nx ops f y ts=some (x,r)
 rd:BE wr R ts el ec
 b3:wr.heap[B3]?=some (.cells #[rdV R] 72 (0,0))
 b6:wr.heap[B6]?=some (.cells #[.int .i64 0,.int .i64 0,.int .i64 0,.string ⟨#[]⟩,.slice none 0 0,.int .i64 0,.int .i64 0] TEx (0,0))
 b7:wr.heap[B7]?=some (.cells signsV TSg (0,0))
 b8:∃vs,wr.heap[B8]?=some (.cells vs.toArray TEx (0,0))∧ExAt wr (fun b=>B7<b∧b≠B8) vs y
 keep:BA (fun b=>b=R) w wr
theorem RowAt.stay {nx:List Item→Option (Ex×List Item)}{ops:List Nat}{x:Ex}{r:List Item}{w wr wr':World}{R el ec B3 B6 B7 B8:Nat}{y:Ex}{ts:List Item}(h:RowAt nx ops x r w wr R el ec B3 B6 B7 B8 y ts)(k:BA (fun _=>False) wr wr'):RowAt nx ops x r w wr' R el ec B3 B6 B7 B8 y ts:=by
 obtain⟨vs,h1,h2⟩:=h.b8
 exact⟨h.go,h.rd.keep k fun _ _ e=>e,k.blk h.b3,k.blk h.b6,k.blk h.b7,⟨vs,k.blk h1,h2.keep k fun _ _ e=>e⟩,h.keep.newM k fun _ e=>e.elim⟩
theorem keep_cell' {E:Nat→Prop}{w w':World}(h:BA E w w'){g o:Nat}{v:Value}(hc:w.cell? ⟨g,o,none⟩=some v)(hE:¬E g):w'.cell? ⟨g,o,none⟩=some v:=h.cell hc hE
theorem cell_same {w w':World}{b:Nat}(o:Nat)(h:w'.heap[b]?=w.heap[b]?):w'.cell? ⟨b,o,none⟩=w.cell? ⟨b,o,none⟩:=by simp[World.cell?,h]
theorem BE.same {w w':World}{R:Nat}{its:List Item}{el ec:Nat}(h:BE w R its el ec)(hs:w.heap.size≤w'.heap.size)(hb:∀b,b≤R→w'.heap[b]?=w.heap[b]?):BE w' R its el ec:=by
 obtain⟨p,c,h1,h2,h3,h4⟩:=h.ex
 refine⟨p,c,(hb R (Nat.le_refl _)).trans h1,fun i hi=>?_,h3,h4⟩
 obtain⟨g,o,hp,q1,q2,q3,q4,q5⟩:=h2 i hi
 have hg:=hb g (Nat.le_of_lt (h3 _ hp))
 exact⟨g,o,hp,(cell_same _ hg).trans q1,(cell_same _ hg).trans q2,(cell_same _ hg).trans q3,(cell_same _ hg).trans q4,(cell_same _ hg).trans q5⟩
theorem CD.same {w w':World}{S:Nat→Prop}{p:Option Addr}{i:Nat}{l:List Ex}(h:CD w S p i l)(hb:∀b,S b→w'.heap[b]?=w.heap[b]?):CD w' S p i l:=
 h.keepS fun b o _ hS hc=>⟨(cell_same o (hb b hS)).trans hc,hS⟩
section
variable {P : Program}{w0 : World}{M : Nat→Prop}{o : Oper}{a : Act}{av ea : List Nat}{F : Nat→World→Prop}{Fp : Nat→Nat→Prop}
def sTwo (T:TypeId):Loud:={ val:=fun _ g=>.slice (some ⟨g.b,0,none⟩) 2 2,fp:=fun _ g k=>k=g.b,post:=fun args g w=>∀vs us,args.getD 0 undef=.agg vs→args.getD 1 undef=.agg us→w.heap[g.b]?=some (.cells (vs++us) T (0,0)) }
theorem loud_two (T ty:TypeId)(x y:Operand)(ho:o.op=.buildSlice ty 2 #[(0,x),(1,y)])(vs us:Array Value)(hx:a.eval x=.agg vs)(hy:a.eval y=.agg us)
  (hrun:∀w,(execOp a.eval o).run P w=.ok (.value (.slice (some ⟨w.heap.size,0,none⟩) 2 2)) (w.alloc (.cells (vs++us) T))):FO P w0 M o a (sTwo T) av ea F Fp:=by
 refine DB ⟨default,trivial⟩ (fun g _ w w' _ _ _ h k vs us e1 e2=>(h g.b rfl).trans (k vs us e1 e2)) fun w _ _ _=>?_
 refine⟨_,{ b:=w.heap.size },trivial,.inl (hrun w),BA.alloc _ _ _,fun b hb=>?_,fun vs' us' e1 e2=>?_⟩
 ·have e:b=w.heap.size:=hb
  subst e
  exact⟨.inl (Nat.le_refl _),by rw[World.size_alloc];omega⟩
 ·have a0:(BS o a).getD 0 undef=.agg vs:=by simp[BS,ho,Op.operands,hx]
  have a1:(BS o a).getD 1 undef=.agg us:=by simp[BS,ho,Op.operands,hy]
  rw[a0]at e1;rw[a1]at e2
  cases e1;cases e2
  exact heap_alloc_new w _
end
theorem two_args0 {o:Oper}{a:Act}{ty:TypeId}{x y:Operand}{v:Value}(ho:o.op=.buildSlice ty 2 #[(0,x),(1,y)])(hx:a.eval x=v):(BS o a).getD 0 undef=v:=by simp[BS,ho,Op.operands,hx]
theorem two_args1 {o:Oper}{a:Act}{ty:TypeId}{x y:Operand}{v:Value}(ho:o.op=.buildSlice ty 2 #[(0,x),(1,y)])(hy:a.eval y=v):(BS o a).getD 1 undef=v:=by simp[BS,ho,Op.operands,hy]
theorem row_any (g:Nat)(fst cap args:Array Value)(eg:∀args w,(callFunc g args).run Tryz.prog w=.ok (.enter g args) w)(nx:List Item→Option (Ex×List Item))(hdec:∀its x r,nx its=some (x,r)→r.length≤its.length)(w:World)(R el ec:Nat)
  (hN:Reads g args nx w R el ec) (ha:fst++cap=args) (its:List Item) (h:BE w R its el ec) (p:Option Addr) (c:Nat) (ops:List Nat) (hp:Rd w p (ints (opsI ops))) (hpR:∀a,p=some a→a.block≠R) (hl:∀op∈ops,op<14) (hlen:ops.length≤100)
  (x:Ex) (r:List Item) (hx:rowN nx ops its=some (x,r)):
  Calls Tryz.prog 68 #[rdV R,.func (.func g) fst cap,.slice p ops.length c] w fun e w'=>∃vs,e=.returned (.agg vs.toArray)∧ExAt w' (fun b=>w.heap.size≤b) vs x∧BE w' R r el ec∧BA (fun b=>b=R) w w':=by
 obtain⟨V1,B3,hV1,hB3,hb3,hk1,hs1⟩:=BC w (.cells #[rdV R] 72)
 obtain⟨V2,B6,hV2,hB6,hb6,hk2,hs2⟩:=BC V1 (.cells #[.int .i64 0,.int .i64 0,.int .i64 0,.string ⟨#[]⟩,.slice none 0 0,.int .i64 0,.int .i64 0] TEx)
 have h36:B3+1=B6:=by omega
 have HN3:=hid (show w.heap.size≤B3∧B3<B6∧B6<V2.heap.size∧R<w.heap.size from⟨by omega,by omega,by omega,h.lt⟩)
 have HK:=hid (hk1.trans hk2)
 have HB3:=hid (hk2.blk hb3);have HB6:=hid hb6
 have HNX:=hid hN;have HRD:=hid (h.keep HK.out fun _ _ e=>e);have HP:=hid hp;have HPR:=hid hpR;have HL:=hid hl
 have hS:=fun W=>signs_any W
 unfold signsV at hS
 have HS:=hid hS
 have HDEC:=hid hdec
 unfold rowN at hx
 cases hn:nx its with
 |none=>rw[hn]at hx;cases hx
 |some xr=>
 obtain⟨x0,r0⟩:=xr
 rw[hn]at hx
 have HX:=hid hx;have HNE:=hid hn
 clear hb3 hb6 hk1 hk2 hs1 hs2 hN h hp hpR hx hl hS hdec hn
 go_enter Tryz.func68,Tryz.ntmps68
 go_upto_region 1 with fail
 rw[←hV1,←hB3,←hV2,h36]
 clear hV1 hB3 hV2 hB6 h36
 go_upto_region 2 with (go_at_call 62;refine(HS.out _).mono ?_;rintro e w1 ⟨rfl,hk⟩)
 obtain⟨V3,B7,hV3,hB7,hb7,hk3,hs3⟩:=BC w1 (.cells signsV TSg)
 have HB7:=hid hb7
 have HK3:=hid (hk.trans hk3)
 have HN7:=hid (show B6<B7∧B7<V3.heap.size by have h1:=hk.size;have h2:=HN3.out;omega)
 unfold signsV at hV3
 rw[←hV3,←hB7]
 clear hV3 hB7 hb7 hk3 hs3 hk
 go_wp2_with fail
 have HKV:=hid (show BA (fun b=>b=R) w V3 from(HK.out.trans HK3.out).mono fun _ e=>e.elim)
 refine(HNX.out V3 its x0 r0 HKV.out (HRD.out.keep HK3.out fun _ _ e=>e) HNE.out).mono ?_
 rintro e w2 ⟨vs,rfl,hex,hr,hk⟩
 have HKQ:=hid hk
 obtain⟨k0,o0,n0,nm0,l0,c0,kids0⟩:=x0
 have hex2:=hex
 unfold ExAt at hex2
 obtain⟨pk,ck,hvs,-⟩:=hex2
 obtain⟨S0,hS0⟩:∃S,strV nm0=.string S:=⟨_,rfl⟩
 rw[hS0]at hvs
 obtain⟨W2,B8,hW2,hB8,hb8,hk8,hs8⟩:=BC w2 (.cells #[.int .i64 k0,.int .i64 o0,.int .i64 n0,.string S0,.slice pk kids0.length ck,.int .i64 l0,.int .i64 c0] TEx)
 have HN8:=hid (show B7<B8 by have h1:=hk.size;have h2:=HN7.out;omega)
 have HAT:=hid (show RowAt nx ops x r w W2 R el ec B3 B6 B7 B8 (.mk k0 o0 n0 nm0 l0 c0 kids0) r0 from by
  have hn3:=HN3.out
  have hn7:=HN7.out
  have hv:=HKV.out.size
  refine⟨⟨_,HX.out⟩,hr.keep hk8 fun _ _ e=>e,hk8.blk (hk.blkE (HK3.out.blk HB3.out) fun e=>by have e:B3=R:=e;omega),hk8.blk (hk.blkE (HK3.out.blk HB6.out) fun e=>by have e:B6=R:=e;omega),hk8.blk (hk.blkE HB7.out fun e=>by have e:B7=R:=e;omega),⟨_,?_,((hex.inHeap).keep hk8 fun _ _ e=>e).mono fun b hb=>⟨by have:=hb.1;have:=hn7.2;omega,by have:=hb.2;omega⟩⟩,(HKV.out.trans hk).newM hk8 fun _ e=>e.elim⟩
  rw[hvs];exact hb8)
 subst hvs
 clear hex hr hk hb8 hk8 hs8 HX HNE hS0
 simp only[]
 go_wp2_with fail
 rw[←hW2,←hB8]
 clear hW2 hB8
 go_loopw [10] (fun v10 wr=>∃(y:Ex) (ts:List Item),RowAt nx ops x r w wr R el ec B3 B6 B7 B8 y ts) (fun _ wr=>leftOf R wr)
 case atStart=>exact⟨_,_,HAT.out⟩
 case round=>
  clear HAT
  obtain⟨y,ts,hat⟩:=hrel
  have HAT:=hid hat
  have hn3:=HN3.out;have hn7:=HN7.out;have hn8:=HN8.out;have hks:=HKV.out.size
  have HNB:=hid (show R<B3∧B3<B6∧B6<B7∧B7<B8∧w.heap.size≤B3 by omega)
  clear hn3 hn7 hn8 hks
  have b3:=BJ (k:=0) hat.b3 rfl
  have HPK:=hid (peek_any wr R ts el ec hat.rd)
  obtain⟨tk,tn,tl,tc,S9,hpv⟩:=peekV_form ts el ec
  rw[hpv]at HPK
  have HPV:=hid hpv
  clear hat hpv
  go_wp2_with fail
  go_at_call 74
  refine HPK.out.mono ?_
  rintro e w4 ⟨rfl,hk⟩
  obtain⟨W5,B9,hW5,hB9,hb9,hk9,hs9⟩:=BC w4 (.cells #[.int .i64 tk,.string S9,.int .i64 tn,.int .i64 tl,.int .i64 tc] TTk)
  have HAT5:=hid (HAT.out.stay (hk.trans hk9))
  have HB9:=hid hb9
  have HN9:=hid (show B8<B9 by
   obtain⟨vs,h1,-⟩:=HAT.out.b8
   have h2:=(AG.1 h1).1
   have h3:=hk.size
   omega)
  have HLF:=hid (leftOf_at HAT.out.rd)
  have HIX:=hid (idxOps_any W5 B3 B7 R ⟨HAT5.out.b3,HAT5.out.b7⟩ ts el ec HAT5.out.rd p c ops (HP.out.keep HAT5.out.keep fun a ha e=>HPR.out a ha e) HL.out hlen)
  unfold rowF at HIX
  clear hk hk9 hs9 hb9 b3
  go_upto_region 4 with fail
  rw[←hW5,←hB9]
  clear hW5 hB9
  go_wp2_with fail
  go_at_call 98
  refine HIX.out.mono ?_
  rintro e w6 ⟨hor,hk6⟩
  have HAT6:=hid (HAT5.out.stay hk6)
  have HB96:=hid (hk6.blk HB9.out)
  obtain⟨f,hf⟩:=HAT.out.go
  obtain⟨f,rfl⟩:∃f',f=f'+1:=by
   cases f with
   |zero=>cases hf
   |succ f=>exact⟨f,rfl⟩
  unfold rowL at hf
  clear hk6
  rcases hor with⟨k,hk,rfl,hop⟩|⟨rfl,hop⟩
  ·rw[hop]at hf
   cases ts with
   |nil=>cases hf
   |cons t r1=>
   dsimp only at hf
   cases hn2:nx r1 with
   |none=>rw[hn2]at hf;cases hf
   |some yr=>
   obtain⟨y2,r2⟩:=yr
   rw[hn2]at hf
   dsimp only at hf
   have HGO:=hid hf;have HNX2:=hid hn2
   have HTL:=hid (show tl=t.line∧tc=t.col by
    have h9:=HPV.out
    unfold peekV at h9
    simp only[Value.agg.injEq,Array.mk.injEq,List.cons.injEq,Value.int.injEq,true_and]at h9
    exact⟨h9.2.2.2.1.symm,h9.2.2.2.2.1.symm⟩)
   obtain⟨g1,o1,c1,h1,h2,⟨h3,hg⟩,htk⟩:=HAT6.out.rd.took2
   have HTK:=hid htk;have HG:=hid hg;have H23:=hid (And.intro h2 h3);have HRO:=hid h1
   obtain⟨b0,-,-,-,-,-,f0⟩:=blk6 h1
   have b3:=BJ (k:=0) HAT6.out.b3 rfl
   clear hf hn2 h1 htk hg h3 hop
   obtain⟨q1,hq1⟩:∃q:Option Addr,q=if c1=1 then some ⟨g1,o1,none⟩ else some ⟨g1,o1+5,none⟩:=⟨_,rfl⟩
   have HR7:=hid (fun w'=>HTK.out w' q1 (c1 - 1) (by
    by_cases e:c1=1
    ·exact .inl (List.eq_nil_of_length_eq_zero (by omega))
    ·rw[hq1,if_neg e];exact .inr rfl) (fun a ha=>by
     have hg:=HG.out
     rw[hq1]at ha
     split at ha
     ·cases ha;exact hg
     ·cases ha;exact hg) (by omega) (by have:=H23.out;omega))
   have hl1:(1:Int)≤(r1.length:Int)+1:=by omega
   go_upto_region 7 with fail
   have z3:∀w',BA (fun k=>k=R) w6.drew w'→w'.cell? ⟨B3,0,none⟩=some (rdV R):=fun w' h=>keep_cell' ((BA.drew _ w6).trans h) b3 (by have:=HNB.out;omega)
   clear b3 b0 f0 h2
   refine wp_own1 (by kernel_rfl) R _ HRO.out DL3 (fun i=>if i=4 then [9] else if i=8 then [9] else []) (fun i=>if i=8 then [9] else []) [8] (by kernel_rfl)
    (fun i=>if i=4 then some (BW (.slice (some ⟨g1,o1,none⟩) (r1.length+1) c1)) else if i=8 then some (sCell R 0 TRd #[.slice (some ⟨g1,o1,none⟩) (r1.length+1) c1,.int .i64 0,.string ⟨#[]⟩,.int .i64 0,.int .i64 el,.int .i64 ec] (.slice (if c1=1 then some ⟨g1,o1,none⟩ else some ⟨g1,o1+5,none⟩) r1.length (c1 - 1))) else none) ?_
   repeat refine BD rfl rfl (fun w' hk=>by go_simp;with_reducible rfl) ?_;simp only[Act.put,LS]
   refine BG rfl rfl (DB ⟨default,trivial⟩ (fun g _ w w' _ _ _ _ _=>trivial) fun w' hk hav _=>by
    have hx:w'.cell? ⟨R,0,none⟩=some (.slice (some ⟨g1,o1,none⟩) (r1.length+1) c1):=BJ (show w'.heap[R]?=some (.cells #[.slice (some ⟨g1,o1,none⟩) (r1.length+1) c1,.int .i64 0,.string ⟨#[]⟩,.int .i64 0,.int .i64 el,.int .i64 ec] TRd (0,0)) from(hav 9 (by decide)).1) rfl
    exact⟨w',default,trivial,.inl (by go_simp<;>rfl),BA.refl _ _,fun b h=>h.elim,trivial⟩) fun _ _=>?_
   simp only[BW,Act.put,LS]
   repeat refine BD rfl rfl (fun w' hk=>by go_simp;with_reducible rfl) ?_;simp only[Act.put,LS]
   refine BG rfl rfl (FW R 0 TRd _ _ (fun w u hc hf=>by go_simp<;>rfl) 9 (by decide) (by decide) (fun w h=>h) ⟨rfl,rfl⟩ (by show 0<6;decide)) fun g8 _=>?_
   simp only[sCell,Act.put]
   refine CE ?_
   intro w7 hk7 hF _
   have hkM:=(BA.drew (fun k=>k=R) w6).trans hk7
   have f8:w7.heap[R]?=some (.cells #[.slice (if c1=1 then some ⟨g1,o1,none⟩ else some ⟨g1,o1+5,none⟩) r1.length (c1 - 1),.int .i64 0,.string ⟨#[]⟩,.int .i64 0,.int .i64 el,.int .i64 ec] TRd (0,0)):=(hF 8 (by decide)).1
   rw[←hq1]at f8
   have HRD7:=hid (HR7.out w7 hkM f8)
   have HKM:=hid hkM
   have hkM7:=hkM
   clear z3 hk7 hF hkM f8 hq1 hl1
   have hkw:=HAT6.out.keep.trans hkM7
   go_upto_region 8 with fail
   have hnb:=HNB.out
   have hn9:=HN9.out
   obtain⟨pq,cq,hro,-,-,-⟩:=HRD7.out.ex
   obtain⟨vs,hb8,hex⟩:=HAT6.out.b8
   have hb8:=HKM.out.blkE hb8 fun e=>by have e:B8=R:=e;omega
   have hex:=hex.keep HKM.out fun b hb e=>by have e:b=R:=e;omega
   obtain⟨yk,yo,yn,ym,yl,yc,yks⟩:=y
   have hexu:=hex
   unfold ExAt at hexu
   obtain⟨pk2,ck2,hvs,-⟩:=hexu
   obtain⟨S2,hS2⟩:∃S,strV ym=.string S:=⟨_,rfl⟩
   rw[hS2]at hvs
   subst hvs
   have HEX:=hid hex
   obtain⟨zk,zo,zn,zm,zl,zc,zks⟩:=y2
   obtain⟨S3,hS3⟩:∃S,strV zm=.string S:=⟨_,rfl⟩
   have HS3:=hid hS3
   have hrp:=HP.out.keep hkw fun a ha e=>HPR.out a ha e
   have hol:(opsI ops).length=ops.length:=by simp[opsI]
   obtain⟨bp,op,hpp,-⟩:=hrp.ptr (by rw[ints_length,hol];omega)
   have hPB:=HPR.out _ hpp
   subst hpp
   have hcp:=hrp.int k (by rw[hol];exact hk)
   rw[show nth (opsI ops) k=(ops[k]:Int) by simp[nth,opsI,List.getD,hk]]at hcp
   obtain⟨on,hon⟩:∃n,ops[k]=n:=⟨_,rfl⟩
   have HON:=hid hon
   rw[hon]at hcp
   have hbp:bp<w.heap.size:=by
    obtain⟨b',o',e,h⟩:=HP.out 0 _ (show (ints (opsI ops))[0]?=some _ from List.getElem?_eq_getElem (by rw[ints_length,hol];omega))
    cases e
    exact World.block_lt_of_cell? w _ h
   have HB97:=HKM.out.blkE HB96.out fun e=>by have e:B9=R:=e;omega
   obtain⟨-,-,-,t3,t4,-⟩:=blk5 HB97
   have STM:=fun (gg oo:Nat) (u:Value) (hc:w7.cell? ⟨gg,oo,none⟩=some u) (e1:gg≠R) (e2:gg≠B8) (w':World) (hk:BA (fun b=>b=R∨b=B8) w7.drew w')=>keep_cell' ((BA.drew _ w7).trans hk) hc (fun e=>e.elim e1 e2)
   have zp:=STM _ _ _ hcp hPB (by omega)
   have z3:=STM _ _ _ t3 (by omega) (by omega)
   have z4:=STM _ _ _ t4 (by omega) (by omega)
   have hki:(k:Int)<ops.length:=by omega
   have hk0:(0:Int)≤k:=by omega
   have HR1:=hid (show ∀w',BA (fun b=>b=R∨b=B8) w7.drew w'→w'.heap[R]?=some (.cells #[.slice pq r1.length cq,.int .i64 0,.string ⟨#[]⟩,.int .i64 0,.int .i64 el,.int .i64 ec] TRd (0,0))→BE w' R r1 el ec from fun w' hk hr=>HRD7.out.same (Nat.le_trans (BA.drew (fun _=>False) w7).size hk.size) fun b hb=>by
    by_cases e:b=R
    ·rw[e,hr,hro]
    ·exact(((BA.drew (fun b=>b=R∨b=B8) w7).trans hk).block b (by have:=HRD7.out.lt;omega) (fun h=>by omega)))
   have HKW:=hid (show ∀w',BA (fun b=>b=R∨b=B8) w7.drew w'→BA (fun b=>b=R) w w' from fun w' hk=>hkw.newM ((BA.drew _ w7).trans hk) fun b hb=>hb.imp id fun e=>by omega)
   have HRO2:=hid hro;have HB82:=hid hb8;have HN2:=hid hnb
   clear STM t3 t4 hcp HB97 hbp hPB hol hrp hon hS2 hS3 hex hro hb8 hkw hkM7 hn9 hnb
   refine wp_ownB (by kernel_rfl) R B8 _ _ HRO2.out HB82.out (by have:=HN2.out;omega) DL4 (fun i=>if i=4 then [15] else if i=6 then [14] else if i=13 then [15] else []) (fun i=>if i=6 then [14] else if i=13 then [15] else []) [6,7,13] (by kernel_rfl)
    (fun i=>if i=4 then some (BW (.agg #[.int .i64 yk,.int .i64 yo,.int .i64 yn,.string S2,.slice pk2 yks.length ck2,.int .i64 yl,.int .i64 yc])) else if i=6 then some { ok:=fun _ g=>w7.heap.size≤g.b,val:=fun _ g=>.agg #[.int .i64 zk,.int .i64 zo,.int .i64 zn,.string S3,.slice g.p zks.length g.c,.int .i64 zl,.int .i64 zc],fp:=fun _ g b=>b=R∨(g.b≤b∧b<g.d),post:=fun _ g w'=>CD w' (fun b=>g.b≤b∧b<g.d) g.p 0 zks∧BE w' R r2 el ec }
     else if i=7 then some (sTwo TEx) else if i=13 then some (sPut B8 TEx) else none) ?_
   repeat refine BD rfl rfl (fun w' hk=>by go_simp;with_reducible rfl) ?_;simp only[Act.put,LS]
   refine BG rfl rfl (DB ⟨default,trivial⟩ (fun g _ w w' _ _ _ _ _=>trivial) fun w' hk hav _=>by
    obtain⟨x0,x1,x2,x3,x4,x5,x6,-⟩:=blk7 (show w'.heap[B8]?=some (.cells #[.int .i64 yk,.int .i64 yo,.int .i64 yn,.string S2,.slice pk2 yks.length ck2,.int .i64 yl,.int .i64 yc] TEx (0,0)) from(hav 15 (by decide)).1)
    exact⟨w',default,trivial,.inl (by go_simp<;>rfl),BA.refl _ _,fun b h=>h.elim,trivial⟩) fun _ _=>?_
   simp only[BW,Act.put,LS]
   apply BD rfl rfl
   ·intro w' hk;go_simp;with_reducible rfl
   simp only[Act.put,LS]
   refine BG rfl rfl (CL g args (fun w=>by go_simp) ⟨{ b:=w7.heap.size },Nat.le_refl _⟩ (fun g hg w w' h1 h2 hs hb hp=>⟨hp.1.same fun b hb'=>hb b (.inr hb'),hp.2.same hs fun b hb'=>by
     by_cases e:b=R
     ·exact hb b (.inl e)
     ·have:=HN2.out
      have:=HRD7.out.lt
      rw[h1.block b (by show b<w7.heap.size;omega) (fun h=>by omega),h2.block b (by show b<w7.heap.size;omega) (fun h=>by omega)]⟩) fun w' hk hav _=>(HNX.out w' r1 _ r2 (HKW.out w' hk) (HR1.out w' hk (hav 14 (by decide)).1) HNX2.out).mono ?_) fun g6 hg6=>?_
   ·rintro e w'' ⟨vs2,rfl,hex2,hr2,hk2⟩
    have hex3:=hex2.inHeap
    unfold ExAt at hex3
    obtain⟨p2,cc2,hvs2,hkids⟩:=hex3
    rw[HS3.out]at hvs2
    subst hvs2
    exact⟨{ p:=p2,c:=cc2,b:=w'.heap.size,d:=w''.heap.size },hk.size,rfl,hk2.mono fun b e=>⟨14,by decide,.inl ⟨rfl,e⟩⟩,fun b hb=>by
     rcases hb with e|hb
     ·exact⟨.inr ⟨14,by decide,.inl ⟨rfl,e⟩⟩,by rw[e];exact hr2.lt⟩
     ·exact⟨.inl hb.1,hb.2⟩,hkids,hr2⟩
   simp only[Act.put,LS]
   refine BG rfl rfl (loud_two TEx 22 (.tmp 34) (.tmp 36) rfl #[.int .i64 yk,.int .i64 yo,.int .i64 yn,.string S2,.slice pk2 yks.length ck2,.int .i64 yl,.int .i64 yc] #[.int .i64 zk,.int .i64 zo,.int .i64 zn,.string S3,.slice g6.p zks.length g6.c,.int .i64 zl,.int .i64 zc] rfl rfl (fun w=>by go_simp)) fun g7 _=>?_
   simp only[sTwo,Act.put,LS]
   repeat refine BD rfl rfl (fun w' hk=>by go_simp;with_reducible rfl) ?_;simp only[Act.put,LS]
   refine BG rfl rfl (loud_put B8 TEx TEx #[.int .i64 5,.int .i64 on,.int .i64 0,.string ⟨#[]⟩,.slice (some ⟨g7.b,0,none⟩) 2 2,.int .i64 tl,.int .i64 tc] _ (.tmp 8) (.tmp 42) rfl rfl rfl 15 (by decide) (by decide) (fun w h=>h) (.inr ⟨rfl,rfl⟩) rfl (by kernel_rfl) (by simp[Value.oneCell'])) fun g13 _=>?_
   simp only[sPut,Act.put]
   refine CE ?_
   intro w9 hk9 hF hdis
   have f6:CD w9 (fun b=>g6.b≤b∧b<g6.d) g6.p 0 zks∧BE w9 R r2 el ec:=(hF 6 (by decide)).1
   have f7:w9.heap[g7.b]?=some (.cells (#[.int .i64 yk,.int .i64 yo,.int .i64 yn,.string S2,.slice pk2 yks.length ck2,.int .i64 yl,.int .i64 yc]++#[.int .i64 zk,.int .i64 zo,.int .i64 zn,.string S3,.slice g6.p zks.length g6.c,.int .i64 zl,.int .i64 zc]) TEx (0,0)):=(hF 7 (by decide)).1 _ _ (two_args0 rfl rfl) (two_args1 rfl rfl)
   have f13:w9.heap[B8]?=some (.cells #[.int .i64 5,.int .i64 on,.int .i64 0,.string ⟨#[]⟩,.slice (some ⟨g7.b,0,none⟩) 2 2,.int .i64 tl,.int .i64 tc] TEx (0,0)):=(hF 13 (by decide)).1 _ (DH rfl rfl)
   have hg6':w7.heap.size≤g6.b:=hg6
   have d7R:g7.b≠R:=fun e=>hdis 6 (by decide) 7 (by decide) (by decide) R (.inl rfl) e.symm
   have d7B:g7.b≠B8:=fun e=>hdis 7 (by decide) 13 (by decide) (by decide) B8 e.symm rfl
   have b7:w7.heap.size≤g7.b:=((hF 7 (by decide)).2 g7.b rfl).2.resolve_right fun h=>h.elim d7R d7B
   have hn2:=HN2.out
   have hB8lt:B8<w7.heap.size:=(AG.1 HB82.out).1
   have hkM9:=(BA.drew (fun b=>b=R∨b=B8) w7).trans hk9
   have hnoM:∀b,b≠R→b≠B8→¬(b=R∨b=B8):=fun b e1 e2 e=>e.elim e1 e2
   have HAT9:=hid (show RowAt nx ops x r w w9 R el ec B3 B6 B7 B8 (.mk 5 on 0 [] t.line t.col [.mk yk yo yn ym yl yc yks,.mk zk zo zn zm zl zc zks]) r2 from by
    refine⟨⟨f,by rw[←HON.out];exact HGO.out⟩,f6.2,hkM9.blkE (HKM.out.blkE HAT6.out.b3 fun e=>by have e:B3=R:=e;omega) (hnoM _ (by omega) (by omega)),hkM9.blkE (HKM.out.blkE HAT6.out.b6 fun e=>by have e:B6=R:=e;omega) (hnoM _ (by omega) (by omega)),hkM9.blkE (HKM.out.blkE HAT6.out.b7 fun e=>by have e:B7=R:=e;omega) (hnoM _ (by omega) (by omega)),⟨[.int .i64 5,.int .i64 on,.int .i64 0,.string ⟨#[]⟩,.slice (some ⟨g7.b,0,none⟩) 2 2,.int .i64 tl,.int .i64 tc],f13,?_⟩,HKW.out w9 hk9⟩
    unfold ExAt
    refine⟨some ⟨g7.b,0,none⟩,2,by rw[HTL.out.1,HTL.out.2];rfl,kids_two (vs:=[.int .i64 yk,.int .i64 yo,.int .i64 yn,.string S2,.slice pk2 yks.length ck2,.int .i64 yl,.int .i64 yc]) (us:=[.int .i64 zk,.int .i64 zo,.int .i64 zn,.string S3,.slice g6.p zks.length g6.c,.int .i64 zl,.int .i64 zc]) f7 ⟨by omega,d7B⟩ rfl (HEX.out.keep hkM9 fun b hb=>hnoM b (by omega) hb.2) ?_⟩
    unfold ExAt
    exact⟨g6.p,g6.c,by rw[HS3.out],f6.1.mono fun b hb=>⟨by omega,by omega⟩⟩)
   have HLT:=hid (show leftOf R w9<leftOf R wr by
    rw[leftOf_at f6.2,HLF.out,LB]
    have:=HDEC.out r1 _ r2 HNX2.out
    omega)
   clear zp z3 z4 hk9 hF hdis f6 f7 f13 hg6' d7R d7B b7 hn2 hB8lt hkM9 hnoM
   go_wp2_with fail
   exact⟨⟨_,_,HAT9.out⟩,HLT.out⟩
  ·rw[hop]at hf
   have hf2:=Option.some.inj hf
   obtain⟨rfl,rfl⟩:=Prod.mk.inj hf2
   obtain⟨vs,hb8,hex⟩:=HAT6.out.b8
   obtain⟨yk,yo,yn,ym,yl,yc,yks⟩:=y
   have hex2:=hex
   unfold ExAt at hex2
   obtain⟨pk2,ck2,hvs,-⟩:=hex2
   obtain⟨S2,hS2⟩:∃S,strV ym=.string S:=⟨_,rfl⟩
   rw[hS2]at hvs
   subst hvs
   obtain⟨x0,x1,x2,x3,x4,x5,x6,-⟩:=blk7 hb8
   obtain⟨m0,m1,m2,m3,m4,m5,m6,f0,f1,f2,f3,f4,f5,f6⟩:=blk7 HAT6.out.b6
   have HEX:=hid hex
   clear hf hf2 hop hb8 hex hS2
   go_wp2_with fail
   obtain⟨wf,hwf,hp,hkp⟩:=put7 HAT6.out.b6 (.int .i64 yk) (.int .i64 yo) (.int .i64 yn) (.string S2) (.slice pk2 yks.length ck2) (.int .i64 yl) (.int .i64 yc)
   rw[←hwf]
   obtain⟨c0,c1,c2,c3,c4,c5,c6,-⟩:=blk7 hp
   have hnb:=HNB.out
   refine bodyPost_ret (v:=.agg #[.int .i64 yk,.int .i64 yo,.int .i64 yn,.string S2,.slice pk2 yks.length ck2,.int .i64 yl,.int .i64 yc]) (by simp[results,Tryz.results68,go_sem,c0,c1,c2,c3,c4,c5,c6]) rfl ⟨[.int .i64 yk,.int .i64 yo,.int .i64 yn,.string S2,.slice pk2 yks.length ck2,.int .i64 yl,.int .i64 yc],rfl,?_,HAT6.out.rd.keep hkp fun b hb e=>by have e:b=B6:=e;omega,HAT6.out.keep.newE hkp fun b e=>by have e:b=B6:=e;omega⟩
   exact(HEX.out.keep hkp fun b hb e=>by have e:b=B6:=e;omega).mono fun b hb=>by omega
theorem Reads.from {g:Nat}{args:Array Value}{nx:List Item→Option (Ex×List Item)}{w0 w1:World}{R el ec:Nat}(h:Reads g args nx w0 R el ec)(k:BA (fun b=>b=R) w0 w1):Reads g args nx w1 R el ec:=
 fun w its x r hk=>h w its x r (k.trans hk)
def Dec (nx:List Item→Option (Ex×List Item)):Prop:=∀its x r,nx its=some (x,r)→r.length≤its.length
theorem rowL_dec {nx:List Item→Option (Ex×List Item)}(h:Dec nx)(ops:List Nat):∀(f:Nat) (x:Ex) (its:List Item) (y:Ex) (r:List Item),rowL nx ops f x its=some (y,r)→r.length≤its.length
 |0,_,_,_,_,e=>by cases e
 | f+1,x,its,y,r,e=>by
  unfold rowL at e
  split at e
  ·cases e;exact Nat.le_refl _
  ·split at e
   ·cases e
   ·split at e
    ·cases e
    ·rename_i h1
     have h2:=h _ _ _ h1
     have h3:=rowL_dec h ops f _ _ _ _ e
     rw[LB]
     omega
theorem BZ {nx:List Item→Option (Ex×List Item)}(h:Dec nx)(ops:List Nat):Dec (rowN nx ops):=fun its x r e=>by
 unfold rowN at e
 split at e
 ·cases e
 ·rename_i h1
  have h2:=h _ _ _ h1
  have h3:=rowL_dec h ops _ _ _ _ _ e
  omega
theorem DL {w:World}{S:Nat→Prop}{vs:List Value}{x:Ex}(h:ExAt w S vs x):∃k o n S2 p m c l cl,vs=[.int .i64 k,.int .i64 o,.int .i64 n,.string S2,.slice p m c,.int .i64 l,.int .i64 cl]:=by
 cases x with
 | mk k o n nm l c kids=>
  unfold ExAt at h
  obtain⟨p,cap,h1,-⟩:=h
  exact⟨_,_,_,_,_,_,_,_,_,h1⟩
abbrev TFn:TypeId:=73
theorem expr1_reads (w0:World)(R el ec:Nat)(T1:Nat)(hb1:w0.heap[T1]?=some (.cells #[rdV R] 72 (0,0)))(hT1:T1≠R)(nx:List Item→Option (Ex×List Item))(hd:Dec nx)(hN:Reads 69 #[rdV R] nx w0 R el ec):Reads 67 #[.pointer (some ⟨T1,0,none⟩)] (rowN nx [1,2,3]) w0 R el ec:=by
 intro w its x r hk hr hx
 have x1:=BJ (k:=0) (hk.blkE hb1 hT1) rfl
 obtain⟨V,B,hV,hB,hb,hk0,hs⟩:=BC w (.cells #[.int .i64 0,.int .i64 0,.int .i64 0,.string ⟨#[]⟩,.slice none 0 0,.int .i64 0,.int .i64 0] TEx)
 obtain⟨W,G,hW,hG,hg,hkg,hsg⟩:=BC V (.cells #[.int .i64 1,.int .i64 2,.int .i64 3] 3)
 have HK0:=hid hk0;have HB:=hid (hkg.blk hb)
 have HKW:=hid (hk0.trans hkg)
 have HNN:=hid (show w.heap.size≤B∧B<W.heap.size∧R<w.heap.size∧G≠R from⟨by omega,by omega,hr.lt,by have:=hr.lt;omega⟩)
 have hrd:Rd W (some ⟨G,0,none⟩) (ints (opsI [1,2,3])):=fun j v hj=>⟨G,0,rfl,by
  rw[Nat.zero_add]
  exact BJ hg (by simpa [ints,opsI]using hj)⟩
 have HROW:=hid (row_any 69 #[rdV R] #[] #[rdV R] (enters_of Tryz.func69 (by kernel_rfl) rfl) nx hd W R el ec (hN.from (hk.trans ((hk0.trans hkg).mono fun _ e=>e.elim))) (by simp) its (hr.keep (hk0.trans hkg) fun _ _ e=>e) (some ⟨G,0,none⟩) 3 [1,2,3] hrd (fun a ha=>by cases ha;exact HNN.out.2.2.2) (by decide) (by decide) x r hx)
 have x1:=HK0.out.stay x1
 have hBG:B+1=G:=by omega
 clear hk hr hx hb1 hT1 hN hd hb hk0 hs hg hkg hsg hrd
 go_enter Tryz.func67,Tryz.ntmps67
 go_upto_region 1 with fail
 rw[←hV,←hB]
 clear hV hB
 go_wp2_with fail
 rw[←hW,←hG]
 clear hW hG x1
 go_at_call 68
 refine HROW.out.mono ?_
 rintro e w2 ⟨vs,rfl,hex,hr,hk⟩
 obtain⟨xk,xo,xn,xS,xp,xm,xc,xl,xcl,rfl⟩:=DL hex
 have hn:=HNN.out
 have hb2:=hk.blkE HB.out fun e=>by have e:B=R:=e;omega
 obtain⟨m0,m1,m2,m3,m4,m5,m6,f0,f1,f2,f3,f4,f5,f6⟩:=blk7 hb2
 have HB2:=hid hb2;have HEX:=hid hex;have HR:=hid hr;have HKR:=hid hk
 clear hex hr hk hb2 hn
 go_wp2_with fail
 obtain⟨wf,hwf,hp,hkp⟩:=put7 HB2.out (.int .i64 xk) (.int .i64 xo) (.int .i64 xn) (.string xS) (.slice xp xm xc) (.int .i64 xl) (.int .i64 xcl)
 rw[←hwf]
 obtain⟨c0,c1,c2,c3,c4,c5,c6,-⟩:=blk7 hp
 have hn:=HNN.out
 exact bodyPost_ret (v:=.agg #[.int .i64 xk,.int .i64 xo,.int .i64 xn,.string xS,.slice xp xm xc,.int .i64 xl,.int .i64 xcl]) (by simp[results,Tryz.results67,go_sem,c0,c1,c2,c3,c4,c5,c6]) rfl ⟨_,rfl,(HEX.out.keep hkp fun b hb e=>by have e:b=B:=e;have hb:W.heap.size≤b:=hb;omega).mono fun b hb=>by have hb:W.heap.size≤b:=hb;omega,HR.out.keep hkp fun b hb e=>by have e:b=B:=e;omega,((HKW.out.mono fun _ e=>e.elim).trans HKR.out).newE hkp fun b e=>by have e:b=B:=e;omega⟩
theorem expr2_reads (w0:World)(R el ec:Nat)(T1 T2:Nat)(hb1:w0.heap[T1]?=some (.cells #[rdV R] 72 (0,0)))(hT1:T1≠R)(gp:Nat)(cp:Array Value)(eg:∀args w,(callFunc gp args).run Tryz.prog w=.ok (.enter gp args) w)(hb2:w0.heap[T2]?=some (.cells #[.func (.func gp) #[] cp] TFn (0,0)))(hT2:T2≠R)(nx:List Item→Option (Ex×List Item))(hd:Dec nx)(hN:Reads gp cp nx w0 R el ec):Reads 70 #[.pointer (some ⟨T1,0,none⟩),.pointer (some ⟨T2,0,none⟩)] (rowN nx [4,5]) w0 R el ec:=by
 intro w its x r hk hr hx
 have x1:=BJ (k:=0) (hk.blkE hb1 hT1) rfl
 have x2:=BJ (k:=0) (hk.blkE hb2 hT2) rfl
 obtain⟨V,B,hV,hB,hb,hk0,hs⟩:=BC w (.cells #[.int .i64 0,.int .i64 0,.int .i64 0,.string ⟨#[]⟩,.slice none 0 0,.int .i64 0,.int .i64 0] TEx)
 obtain⟨W,G,hW,hG,hg,hkg,hsg⟩:=BC V (.cells #[.int .i64 4,.int .i64 5] 3)
 have HK0:=hid hk0;have HB:=hid (hkg.blk hb)
 have HKW:=hid (hk0.trans hkg)
 have HNN:=hid (show w.heap.size≤B∧B<W.heap.size∧R<w.heap.size∧G≠R from⟨by omega,by omega,hr.lt,by have:=hr.lt;omega⟩)
 have hrd:Rd W (some ⟨G,0,none⟩) (ints (opsI [4,5])):=fun j v hj=>⟨G,0,rfl,by
  rw[Nat.zero_add]
  exact BJ hg (by simpa [ints,opsI]using hj)⟩
 have HROW:=hid (row_any gp #[] cp cp eg nx hd W R el ec (hN.from (hk.trans ((hk0.trans hkg).mono fun _ e=>e.elim))) (by simp) its (hr.keep (hk0.trans hkg) fun _ _ e=>e) (some ⟨G,0,none⟩) 2 [4,5] hrd (fun a ha=>by cases ha;exact HNN.out.2.2.2) (by decide) (by decide) x r hx)
 have x1:=HK0.out.stay x1
 have x2:=HK0.out.stay x2
 have hBG:B+1=G:=by omega
 clear hk hr hx hb1 hT1 hN hd hb hk0 hs hg hkg hsg hrd hb2 hT2
 go_enter Tryz.func70,Tryz.ntmps70
 go_upto_region 1 with fail
 rw[←hV,←hB]
 clear hV hB
 go_wp2_with fail
 rw[←hW,←hG]
 clear hW hG x1 x2
 go_at_call 68
 refine HROW.out.mono ?_
 rintro e w2 ⟨vs,rfl,hex,hr,hk⟩
 obtain⟨xk,xo,xn,xS,xp,xm,xc,xl,xcl,rfl⟩:=DL hex
 have hn:=HNN.out
 have hb2:=hk.blkE HB.out fun e=>by have e:B=R:=e;omega
 obtain⟨m0,m1,m2,m3,m4,m5,m6,f0,f1,f2,f3,f4,f5,f6⟩:=blk7 hb2
 have HB2:=hid hb2;have HEX:=hid hex;have HR:=hid hr;have HKR:=hid hk
 clear hex hr hk hb2 hn
 go_wp2_with fail
 obtain⟨wf,hwf,hp,hkp⟩:=put7 HB2.out (.int .i64 xk) (.int .i64 xo) (.int .i64 xn) (.string xS) (.slice xp xm xc) (.int .i64 xl) (.int .i64 xcl)
 rw[←hwf]
 obtain⟨c0,c1,c2,c3,c4,c5,c6,-⟩:=blk7 hp
 have hn:=HNN.out
 exact bodyPost_ret (v:=.agg #[.int .i64 xk,.int .i64 xo,.int .i64 xn,.string xS,.slice xp xm xc,.int .i64 xl,.int .i64 xcl]) (by simp[results,Tryz.results70,go_sem,c0,c1,c2,c3,c4,c5,c6]) rfl ⟨_,rfl,(HEX.out.keep hkp fun b hb e=>by have e:b=B:=e;have hb:W.heap.size≤b:=hb;omega).mono fun b hb=>by have hb:W.heap.size≤b:=hb;omega,HR.out.keep hkp fun b hb e=>by have e:b=B:=e;omega,((HKW.out.mono fun _ e=>e.elim).trans HKR.out).newE hkp fun b e=>by have e:b=B:=e;omega⟩
theorem expr3_reads (w0:World)(R el ec:Nat)(T1 T2:Nat)(hb1:w0.heap[T1]?=some (.cells #[rdV R] 72 (0,0)))(hT1:T1≠R)(gp:Nat)(cp:Array Value)(eg:∀args w,(callFunc gp args).run Tryz.prog w=.ok (.enter gp args) w)(hb2:w0.heap[T2]?=some (.cells #[.func (.func gp) #[] cp] TFn (0,0)))(hT2:T2≠R)(nx:List Item→Option (Ex×List Item))(hd:Dec nx)(hN:Reads gp cp nx w0 R el ec):Reads 71 #[.pointer (some ⟨T1,0,none⟩),.pointer (some ⟨T2,0,none⟩)] (rowN nx [6,7,8,9]) w0 R el ec:=by
 intro w its x r hk hr hx
 have x1:=BJ (k:=0) (hk.blkE hb1 hT1) rfl
 have x2:=BJ (k:=0) (hk.blkE hb2 hT2) rfl
 obtain⟨V,B,hV,hB,hb,hk0,hs⟩:=BC w (.cells #[.int .i64 0,.int .i64 0,.int .i64 0,.string ⟨#[]⟩,.slice none 0 0,.int .i64 0,.int .i64 0] TEx)
 obtain⟨W,G,hW,hG,hg,hkg,hsg⟩:=BC V (.cells #[.int .i64 6,.int .i64 7,.int .i64 8,.int .i64 9] 3)
 have HK0:=hid hk0;have HB:=hid (hkg.blk hb)
 have HKW:=hid (hk0.trans hkg)
 have HNN:=hid (show w.heap.size≤B∧B<W.heap.size∧R<w.heap.size∧G≠R from⟨by omega,by omega,hr.lt,by have:=hr.lt;omega⟩)
 have hrd:Rd W (some ⟨G,0,none⟩) (ints (opsI [6,7,8,9])):=fun j v hj=>⟨G,0,rfl,by
  rw[Nat.zero_add]
  exact BJ hg (by simpa [ints,opsI]using hj)⟩
 have HROW:=hid (row_any gp #[] cp cp eg nx hd W R el ec (hN.from (hk.trans ((hk0.trans hkg).mono fun _ e=>e.elim))) (by simp) its (hr.keep (hk0.trans hkg) fun _ _ e=>e) (some ⟨G,0,none⟩) 4 [6,7,8,9] hrd (fun a ha=>by cases ha;exact HNN.out.2.2.2) (by decide) (by decide) x r hx)
 have x1:=HK0.out.stay x1
 have x2:=HK0.out.stay x2
 have hBG:B+1=G:=by omega
 clear hk hr hx hb1 hT1 hN hd hb hk0 hs hg hkg hsg hrd hb2 hT2
 go_enter Tryz.func71,Tryz.ntmps71
 go_upto_region 1 with fail
 rw[←hV,←hB]
 clear hV hB
 go_wp2_with fail
 rw[←hW,←hG]
 clear hW hG x1 x2
 go_at_call 68
 refine HROW.out.mono ?_
 rintro e w2 ⟨vs,rfl,hex,hr,hk⟩
 obtain⟨xk,xo,xn,xS,xp,xm,xc,xl,xcl,rfl⟩:=DL hex
 have hn:=HNN.out
 have hb2:=hk.blkE HB.out fun e=>by have e:B=R:=e;omega
 obtain⟨m0,m1,m2,m3,m4,m5,m6,f0,f1,f2,f3,f4,f5,f6⟩:=blk7 hb2
 have HB2:=hid hb2;have HEX:=hid hex;have HR:=hid hr;have HKR:=hid hk
 clear hex hr hk hb2 hn
 go_wp2_with fail
 obtain⟨wf,hwf,hp,hkp⟩:=put7 HB2.out (.int .i64 xk) (.int .i64 xo) (.int .i64 xn) (.string xS) (.slice xp xm xc) (.int .i64 xl) (.int .i64 xcl)
 rw[←hwf]
 obtain⟨c0,c1,c2,c3,c4,c5,c6,-⟩:=blk7 hp
 have hn:=HNN.out
 exact bodyPost_ret (v:=.agg #[.int .i64 xk,.int .i64 xo,.int .i64 xn,.string xS,.slice xp xm xc,.int .i64 xl,.int .i64 xcl]) (by simp[results,Tryz.results71,go_sem,c0,c1,c2,c3,c4,c5,c6]) rfl ⟨_,rfl,(HEX.out.keep hkp fun b hb e=>by have e:b=B:=e;have hb:W.heap.size≤b:=hb;omega).mono fun b hb=>by have hb:W.heap.size≤b:=hb;omega,HR.out.keep hkp fun b hb e=>by have e:b=B:=e;omega,((HKW.out.mono fun _ e=>e.elim).trans HKR.out).newE hkp fun b e=>by have e:b=B:=e;omega⟩
theorem expr4_reads (w0:World)(R el ec:Nat)(T1 T2:Nat)(hb1:w0.heap[T1]?=some (.cells #[rdV R] 72 (0,0)))(hT1:T1≠R)(gp:Nat)(cp:Array Value)(eg:∀args w,(callFunc gp args).run Tryz.prog w=.ok (.enter gp args) w)(hb2:w0.heap[T2]?=some (.cells #[.func (.func gp) #[] cp] TFn (0,0)))(hT2:T2≠R)(nx:List Item→Option (Ex×List Item))(hd:Dec nx)(hN:Reads gp cp nx w0 R el ec):Reads 72 #[.pointer (some ⟨T1,0,none⟩),.pointer (some ⟨T2,0,none⟩)] (rowN nx [10,11]) w0 R el ec:=by
 intro w its x r hk hr hx
 have x1:=BJ (k:=0) (hk.blkE hb1 hT1) rfl
 have x2:=BJ (k:=0) (hk.blkE hb2 hT2) rfl
 obtain⟨V,B,hV,hB,hb,hk0,hs⟩:=BC w (.cells #[.int .i64 0,.int .i64 0,.int .i64 0,.string ⟨#[]⟩,.slice none 0 0,.int .i64 0,.int .i64 0] TEx)
 obtain⟨W,G,hW,hG,hg,hkg,hsg⟩:=BC V (.cells #[.int .i64 10,.int .i64 11] 3)
 have HK0:=hid hk0;have HB:=hid (hkg.blk hb)
 have HKW:=hid (hk0.trans hkg)
 have HNN:=hid (show w.heap.size≤B∧B<W.heap.size∧R<w.heap.size∧G≠R from⟨by omega,by omega,hr.lt,by have:=hr.lt;omega⟩)
 have hrd:Rd W (some ⟨G,0,none⟩) (ints (opsI [10,11])):=fun j v hj=>⟨G,0,rfl,by
  rw[Nat.zero_add]
  exact BJ hg (by simpa [ints,opsI]using hj)⟩
 have HROW:=hid (row_any gp #[] cp cp eg nx hd W R el ec (hN.from (hk.trans ((hk0.trans hkg).mono fun _ e=>e.elim))) (by simp) its (hr.keep (hk0.trans hkg) fun _ _ e=>e) (some ⟨G,0,none⟩) 2 [10,11] hrd (fun a ha=>by cases ha;exact HNN.out.2.2.2) (by decide) (by decide) x r hx)
 have x1:=HK0.out.stay x1
 have x2:=HK0.out.stay x2
 have hBG:B+1=G:=by omega
 clear hk hr hx hb1 hT1 hN hd hb hk0 hs hg hkg hsg hrd hb2 hT2
 go_enter Tryz.func72,Tryz.ntmps72
 go_upto_region 1 with fail
 rw[←hV,←hB]
 clear hV hB
 go_wp2_with fail
 rw[←hW,←hG]
 clear hW hG x1 x2
 go_at_call 68
 refine HROW.out.mono ?_
 rintro e w2 ⟨vs,rfl,hex,hr,hk⟩
 obtain⟨xk,xo,xn,xS,xp,xm,xc,xl,xcl,rfl⟩:=DL hex
 have hn:=HNN.out
 have hb2:=hk.blkE HB.out fun e=>by have e:B=R:=e;omega
 obtain⟨m0,m1,m2,m3,m4,m5,m6,f0,f1,f2,f3,f4,f5,f6⟩:=blk7 hb2
 have HB2:=hid hb2;have HEX:=hid hex;have HR:=hid hr;have HKR:=hid hk
 clear hex hr hk hb2 hn
 go_wp2_with fail
 obtain⟨wf,hwf,hp,hkp⟩:=put7 HB2.out (.int .i64 xk) (.int .i64 xo) (.int .i64 xn) (.string xS) (.slice xp xm xc) (.int .i64 xl) (.int .i64 xcl)
 rw[←hwf]
 obtain⟨c0,c1,c2,c3,c4,c5,c6,-⟩:=blk7 hp
 have hn:=HNN.out
 exact bodyPost_ret (v:=.agg #[.int .i64 xk,.int .i64 xo,.int .i64 xn,.string xS,.slice xp xm xc,.int .i64 xl,.int .i64 xcl]) (by simp[results,Tryz.results72,go_sem,c0,c1,c2,c3,c4,c5,c6]) rfl ⟨_,rfl,(HEX.out.keep hkp fun b hb e=>by have e:b=B:=e;have hb:W.heap.size≤b:=hb;omega).mono fun b hb=>by have hb:W.heap.size≤b:=hb;omega,HR.out.keep hkp fun b hb e=>by have e:b=B:=e;omega,((HKW.out.mono fun _ e=>e.elim).trans HKR.out).newE hkp fun b e=>by have e:b=B:=e;omega⟩
theorem expr5_reads (w0:World)(R el ec:Nat)(T1 T2:Nat)(hb1:w0.heap[T1]?=some (.cells #[rdV R] 72 (0,0)))(hT1:T1≠R)(gp:Nat)(cp:Array Value)(eg:∀args w,(callFunc gp args).run Tryz.prog w=.ok (.enter gp args) w)(hb2:w0.heap[T2]?=some (.cells #[.func (.func gp) #[] cp] TFn (0,0)))(hT2:T2≠R)(nx:List Item→Option (Ex×List Item))(hd:Dec nx)(hN:Reads gp cp nx w0 R el ec):Reads 73 #[.pointer (some ⟨T1,0,none⟩),.pointer (some ⟨T2,0,none⟩)] (rowN nx [12]) w0 R el ec:=by
 intro w its x r hk hr hx
 have x1:=BJ (k:=0) (hk.blkE hb1 hT1) rfl
 have x2:=BJ (k:=0) (hk.blkE hb2 hT2) rfl
 obtain⟨V,B,hV,hB,hb,hk0,hs⟩:=BC w (.cells #[.int .i64 0,.int .i64 0,.int .i64 0,.string ⟨#[]⟩,.slice none 0 0,.int .i64 0,.int .i64 0] TEx)
 obtain⟨W,G,hW,hG,hg,hkg,hsg⟩:=BC V (.cells #[.int .i64 12] 3)
 have HK0:=hid hk0;have HB:=hid (hkg.blk hb)
 have HKW:=hid (hk0.trans hkg)
 have HNN:=hid (show w.heap.size≤B∧B<W.heap.size∧R<w.heap.size∧G≠R from⟨by omega,by omega,hr.lt,by have:=hr.lt;omega⟩)
 have hrd:Rd W (some ⟨G,0,none⟩) (ints (opsI [12])):=fun j v hj=>⟨G,0,rfl,by
  rw[Nat.zero_add]
  exact BJ hg (by simpa [ints,opsI]using hj)⟩
 have HROW:=hid (row_any gp #[] cp cp eg nx hd W R el ec (hN.from (hk.trans ((hk0.trans hkg).mono fun _ e=>e.elim))) (by simp) its (hr.keep (hk0.trans hkg) fun _ _ e=>e) (some ⟨G,0,none⟩) 1 [12] hrd (fun a ha=>by cases ha;exact HNN.out.2.2.2) (by decide) (by decide) x r hx)
 have x1:=HK0.out.stay x1
 have x2:=HK0.out.stay x2
 have hBG:B+1=G:=by omega
 clear hk hr hx hb1 hT1 hN hd hb hk0 hs hg hkg hsg hrd hb2 hT2
 go_enter Tryz.func73,Tryz.ntmps73
 go_upto_region 1 with fail
 rw[←hV,←hB]
 clear hV hB
 go_wp2_with fail
 rw[←hW,←hG]
 clear hW hG x1 x2
 go_at_call 68
 refine HROW.out.mono ?_
 rintro e w2 ⟨vs,rfl,hex,hr,hk⟩
 obtain⟨xk,xo,xn,xS,xp,xm,xc,xl,xcl,rfl⟩:=DL hex
 have hn:=HNN.out
 have hb2:=hk.blkE HB.out fun e=>by have e:B=R:=e;omega
 obtain⟨m0,m1,m2,m3,m4,m5,m6,f0,f1,f2,f3,f4,f5,f6⟩:=blk7 hb2
 have HB2:=hid hb2;have HEX:=hid hex;have HR:=hid hr;have HKR:=hid hk
 clear hex hr hk hb2 hn
 go_wp2_with fail
 obtain⟨wf,hwf,hp,hkp⟩:=put7 HB2.out (.int .i64 xk) (.int .i64 xo) (.int .i64 xn) (.string xS) (.slice xp xm xc) (.int .i64 xl) (.int .i64 xcl)
 rw[←hwf]
 obtain⟨c0,c1,c2,c3,c4,c5,c6,-⟩:=blk7 hp
 have hn:=HNN.out
 exact bodyPost_ret (v:=.agg #[.int .i64 xk,.int .i64 xo,.int .i64 xn,.string xS,.slice xp xm xc,.int .i64 xl,.int .i64 xcl]) (by simp[results,Tryz.results73,go_sem,c0,c1,c2,c3,c4,c5,c6]) rfl ⟨_,rfl,(HEX.out.keep hkp fun b hb e=>by have e:b=B:=e;have hb:W.heap.size≤b:=hb;omega).mono fun b hb=>by have hb:W.heap.size≤b:=hb;omega,HR.out.keep hkp fun b hb e=>by have e:b=B:=e;omega,((HKW.out.mono fun _ e=>e.elim).trans HKR.out).newE hkp fun b e=>by have e:b=B:=e;omega⟩
theorem rowsN_dec {nx:List Item→Option (Ex×List Item)}(h:Dec nx):Dec (rowsN nx):=BZ (BZ (BZ (BZ (BZ (BZ h _) _) _) _) _) _
theorem expr_reads (w0:World)(R el ec:Nat)(nx:List Item→Option (Ex×List Item))(hd:Dec nx)(hN:Reads 69 #[rdV R] nx w0 R el ec):Reads 32 #[rdV R] (rowsN nx) w0 R el ec:=by
 intro w its x r hk hr hx
 obtain⟨V1,B1,hV1,hB1,hb1,hk1,hs1⟩:=BC w (.cells #[rdV R] 72)
 obtain⟨V2,B2,hV2,hB2,hb2,hk2,hs2⟩:=BC V1 (.cells #[.int .i64 0,.int .i64 0,.int .i64 0,.string ⟨#[]⟩,.slice none 0 0,.int .i64 0,.int .i64 0] TEx)
 obtain⟨V3,B3,hV3,hB3,hb3,hk3,hs3⟩:=BC V2 (.cells #[.func (.func 67) #[] #[.pointer (some ⟨B1,0,none⟩)]] TFn)
 obtain⟨V4,B4,hV4,hB4,hb4,hk4,hs4⟩:=BC V3 (.cells #[.func (.func 70) #[] #[.pointer (some ⟨B1,0,none⟩),.pointer (some ⟨B3,0,none⟩)]] TFn)
 obtain⟨V5,B5,hV5,hB5,hb5,hk5,hs5⟩:=BC V4 (.cells #[.func (.func 71) #[] #[.pointer (some ⟨B1,0,none⟩),.pointer (some ⟨B4,0,none⟩)]] TFn)
 obtain⟨V6,B6,hV6,hB6,hb6,hk6,hs6⟩:=BC V5 (.cells #[.func (.func 72) #[] #[.pointer (some ⟨B1,0,none⟩),.pointer (some ⟨B5,0,none⟩)]] TFn)
 obtain⟨W,G,hW,hG,hg,hkg,hsg⟩:=BC V6 (.cells #[.int .i64 13] 3)
 have k6:=hk6.trans hkg;have k5:=hk5.trans k6;have k4:=hk4.trans k5;have k3:=hk3.trans k4;have k2:=hk2.trans k3;have k1:=hk1.trans k2
 have hRl:=hr.lt
 have HKW:=hid k1;have HB2:=hid (k3.blk hb2)
 have HNN:=hid (show w.heap.size≤B2∧B2<W.heap.size∧R<w.heap.size∧G≠R from⟨by omega,by omega,hRl,by omega⟩)
 have hrd:Rd W (some ⟨G,0,none⟩) (ints (opsI [13])):=fun j v hj=>⟨G,0,rfl,by
  rw[Nat.zero_add]
  exact BJ hg (by simpa [ints,opsI]using hj)⟩
 have hN':=hN.from (hk.trans (k1.mono fun _ e=>e.elim))
 have hbx:=k2.blk hb1
 have r1:=expr1_reads W R el ec B1 hbx (by omega) nx hd hN'
 have r2:=expr2_reads W R el ec B1 B3 hbx (by omega) 67 _ (enters_of Tryz.func67 (by kernel_rfl) rfl) (k4.blk hb3) (by omega) _ (BZ hd _) r1
 have r3:=expr3_reads W R el ec B1 B4 hbx (by omega) 70 _ (enters_of Tryz.func70 (by kernel_rfl) rfl) (k5.blk hb4) (by omega) _ (BZ (BZ hd _) _) r2
 have r4:=expr4_reads W R el ec B1 B5 hbx (by omega) 71 _ (enters_of Tryz.func71 (by kernel_rfl) rfl) (k6.blk hb5) (by omega) _ (BZ (BZ (BZ hd _) _) _) r3
 have r5:=expr5_reads W R el ec B1 B6 hbx (by omega) 72 _ (enters_of Tryz.func72 (by kernel_rfl) rfl) (hkg.blk hb6) (by omega) _ (BZ (BZ (BZ (BZ hd _) _) _) _) r4
 have HROW:=hid (row_any 73 #[] #[.pointer (some ⟨B1,0,none⟩),.pointer (some ⟨B6,0,none⟩)] #[.pointer (some ⟨B1,0,none⟩),.pointer (some ⟨B6,0,none⟩)] (enters_of Tryz.func73 (by kernel_rfl) rfl) _ (BZ (BZ (BZ (BZ (BZ hd _) _) _) _) _) W R el ec r5 (by simp) its (hr.keep k1 fun _ _ e=>e) (some ⟨G,0,none⟩) 1 [13] hrd (fun a ha=>by cases ha;exact HNN.out.2.2.2) (by decide) (by decide) x r hx)
 have q12:B1+1=B2:=by omega
 have x1:=BJ (k:=0) ((hk3.trans (hk4.trans (hk5.trans hk6))).blk (hk2.blk hb1)) rfl
 clear hN' hbx r1 r2 r3 r4 r5 hrd hN hd hx hr hk k6 k5 k4 k3 k2 k1 hRl
 go_enter Tryz.func32,Tryz.ntmps32
 go_upto_region 1 with fail
 rw[←hV1,←hB1,←hV2,q12]
 clear hV1 hB1 hV2 hB2 q12 hs1 hs2
 go_upto_region 2 with fail
 rw[←hV3,←hB3]
 clear hV3 hB3 hs3
 go_upto_region 3 with fail
 rw[←hV4,←hB4]
 clear hV4 hB4 hs4
 go_upto_region 4 with fail
 rw[←hV5,←hB5]
 clear hV5 hB5 hs5
 go_upto_region 5 with fail
 rw[←hV6,←hB6]
 clear hV6 hB6 hs6
 go_wp2_with fail
 rw[←hW,←hG]
 clear hW hG x1
 go_at_call 68
 refine HROW.out.mono ?_
 rintro e w2 ⟨vs,rfl,hex,hr,hk⟩
 obtain⟨xk,xo,xn,xS,xp,xm,xc,xl,xcl,rfl⟩:=DL hex
 have hn:=HNN.out
 have hbq:=hk.blkE HB2.out fun e=>by have e:B2=R:=e;omega
 obtain⟨m0,m1,m2,m3,m4,m5,m6,f0,f1,f2,f3,f4,f5,f6⟩:=blk7 hbq
 have HBQ:=hid hbq;have HEX:=hid hex;have HR:=hid hr;have HKR:=hid hk
 clear hex hr hk hbq hn
 go_wp2_with fail
 obtain⟨wf,hwf,hp,hkp⟩:=put7 HBQ.out (.int .i64 xk) (.int .i64 xo) (.int .i64 xn) (.string xS) (.slice xp xm xc) (.int .i64 xl) (.int .i64 xcl)
 rw[←hwf]
 obtain⟨c0,c1,c2,c3,c4,c5,c6,-⟩:=blk7 hp
 have hn:=HNN.out
 exact bodyPost_ret (v:=.agg #[.int .i64 xk,.int .i64 xo,.int .i64 xn,.string xS,.slice xp xm xc,.int .i64 xl,.int .i64 xcl]) (by simp[results,Tryz.results32,go_sem,c0,c1,c2,c3,c4,c5,c6]) rfl ⟨_,rfl,(HEX.out.keep hkp fun b hb e=>by have e:b=B2:=e;have hb:W.heap.size≤b:=hb;omega).mono fun b hb=>by have hb:W.heap.size≤b:=hb;omega,HR.out.keep hkp fun b hb e=>by have e:b=B2:=e;omega,((HKW.out.mono fun _ e=>e.elim).trans HKR.out).newE hkp fun b e=>by have e:b=B2:=e;omega⟩
end Go.Proofs.YtomlffobbkcmdaaGreatDoor
