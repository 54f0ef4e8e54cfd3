import Derived.Test.YtomlffobbkcmdaaGreatDoorJs15
import Derived.Test.YtomlffobbkcmdaaGreatDoorJs16
set_option maxHeartbeats 32000000
set_option maxRecDepth 4000
namespace Go.Proofs.YtomlffobbkcmdaaGreatDoor
open Go Go.RowKit Own
open Go.Lib (hid)
def OutP (w:World)(R el ec Bs:Nat)(o:Oc St)(e:Ending)(w':World):Prop:=
 match o with
 |.ok s r=>e=.returned (.tuple #[])∧BE w' R r el ec∧BA (fun b=>b=R∨b=Bs) w w'∧∃vs,w'.heap[Bs]?=some (.cells vs.toArray TSm (0,0))∧StAt w' (fun b=>w.heap.size≤b) vs s
 |.bad b=>e=.panicked (DJ b el ec)∧BA (fun b=>b=R∨b=Bs) w w'
 |.no=>True
theorem plainJ_name (w:World)(R el ec f Bs:Nat)(F:List Item→Option (List Item))(hF:GG F R el ec)(its:List Item)(o:Oc St)(l cl:Nat)(hr:BE w R its el ec)(hB:w.heap[Bs]?=some (.cells (stC 0 0 0 [] [] [] [] (.slice none 0 0) l cl) TSm (0,0)))(hRB:R<Bs)(hno:o≠.no)(b':List Item)(hx:FB 2 its=.bad b')(ho:Oc.bad b'=o):
  Calls Tryz.prog 120 #[rdV R,.pointer (some ⟨Bs,0,none⟩)] w fun e w'=>OutP w R el ec Bs o e w':=by
 subst ho
 have HQ0:=hid (name_at hr hx)
 obtain⟨FL,hFL⟩:∃FL:List PanicEntry,FL=DJ b' el ec:=⟨_,rfl⟩
 rw[←hFL]at HQ0
 have HFL:=hid hFL
 clear hr hB hRB hx hF hFL hno
 go_enter Tryz.func120,Tryz.ntmps120
 go_wp2_with fail
 go_at_call 79
 refine HQ0.out.mono ?_
 rintro e We ⟨rfl,hk⟩
 have HKE:=hid (hk.mono (E':=fun b=>b=R∨b=Bs) fun _ e=>.inl e)
 clear hk
 go_wp2_with fail
 exact⟨rfl,congrArg Ending.panicked HFL.out,HKE.out⟩
theorem plainJ_put (w:World)(R el ec f Bs:Nat)(F:List Item→Option (List Item))(hF:GG F R el ec)(its:List Item)(o:Oc St)(l cl:Nat)(hr:BE w R its el ec)(hB:w.heap[Bs]?=some (.cells (stC 0 0 0 [] [] [] [] (.slice none 0 0) l cl) TSm (0,0)))(hRB:R<Bs)(hno:o≠.no)(tn:Item)(r0:List Item)(hts:its=tn::r0)(hk0:tn.tok.kind=2)(h91:BI r0 [91]=true)(hx:((exO f F r0.tail).bind fun a r=>(CF [[93],[61]] r).bind fun _ r=>(exO f F r).bind fun x r=>(CF [[59]] r).bind fun _ r=>Oc.ok (St.mk 4 tn.tok.text 0 0 [] [] [] [a,x] [] [] l cl) r)=o):
  Calls Tryz.prog 120 #[rdV R,.pointer (some ⟨Bs,0,none⟩)] w fun e w'=>OutP w R el ec Bs o e w':=by
 subst hts
 have HS0:=hid (sm_start hr hB hRB)
 have HNM:=hid (name_str hr hk0)
 obtain⟨T,hT⟩:∃T,tn.tok.text=T:=⟨_,rfl⟩
 rw[hT]at HNM hx
 have HFE:=hid hF;have HXX:=hid hx;have HNO:=hid hno
 have Hh91:=hid h91
 clear hr hB hRB hk0 hT h91 hx hF hno
 go_enter Tryz.func120,Tryz.ntmps120
 go_wp2_with fail
 go_at_call 79
 refine(HNM.out).mono ?_
 rintro e W1 ⟨rfl,hr,hk⟩
 have HS1:=hid (HS0.out.call hr hk)
 clear hr hk
 have HQ:=hid (by have h:=CC W1 R _ el ec (HS1.out.rd) [91];rw[Hh91.out,if_pos rfl]at h;exact h)
 go_wp2_with fail
 go_at_call 101
 refine(HQ.out).mono ?_
 rintro e W2 ⟨rfl,hr,hk⟩
 have HS2:=hid (HS1.out.call hr hk)
 clear hr hk
 obtain⟨p1,c1,p2,c2,p3,c3,hb,hx,ht,he⟩:=HS2.out.ex
 have HB:=hid hb;have HX:=hid hx;have HT:=hid ht;have HE:=hid he
 obtain⟨n0,n1,-,-,-,-,-,-,-,-,-,-⟩:=BH hb
 have f0:=FC hb 0
 have f1:=FC hb 1
 clear hb hx ht he
 go_upto_region 3 with fail
 clear n0 f0 n1 f1
 obtain⟨V3_0,hV0,hb0,hk0⟩:=s_put0 (HB.out) (.int .i64 4)
 rw[←hV0]
 obtain⟨W3,hV1,hb1,hk1⟩:=s_put1 (hb0) (.string ⟨T.toArray⟩)
 rw[←hV1]
 have HS3:=hid (HS2.out.put ((hk0).trans hk1) hb1 (HX.out) (HT.out) (HE.out))
 clear hV0 hb0 hk0 hV1 hb1 hk1 HB HX HT HE
 have hx:=FG HXX.out HNO.out
 clear HXX
 rcases hx with⟨b',HB9,rfl⟩|⟨a,r1,hq1,HXX⟩
 ·obtain⟨FL,HFL,HQ⟩:=hidF (expr_bad HFE.out HS3.out.rd HB9.out)
  go_wp2_with fail
  go_at_call 32
  refine HQ.out.mono ?_
  rintro e We ⟨rfl,hk⟩
  have HKE:=hid (HS3.out.keep.trans (hk.mono (E':=fun b=>b=R∨b=Bs) fun _ e=>.inl e))
  clear hk
  go_wp2_with fail
  exact⟨rfl,congrArg Ending.panicked HFL.out,HKE.out⟩
 have Hhx1:=hid (exO_ok hq1)
 clear hq1
 have HQ:=hid (exP_reads R el ec f W3 W3 _ a r1 (BA.refl _ _) HS3.out.rd Hhx1.out)
 go_wp2_with fail
 go_at_call 32
 refine HQ.out.mono ?_
 rintro e W4 ⟨vs,rfl,hex,hr,hk⟩
 obtain⟨ak,ao,an,aS,ap,am,ac,al,acl,rfl⟩:=DL hex
 obtain⟨W5,A,hW5,hA,hbA,hkA,hsA⟩:=BC W4 (.cells #[.int .i64 ak,.int .i64 ao,.int .i64 an,.string aS,.slice ap am ac,.int .i64 al,.int .i64 acl] TEx)
 obtain⟨hs5,hxa⟩:=HS3.out.exA hex hr hk hkA
 have HS5:=hid hs5;have HBA:=hid hbA;have HXA:=hid hxa
 have HNA:=hid (show A≠R∧A≠Bs∧A<W5.heap.size by have:=HS3.out.lt;have:=HS3.out.keep.size;have:=hk.size;refine⟨?_,?_,(AG.1 hbA).1⟩<;>omega)
 clear hex hr hk hbA hkA hsA hs5 hxa
 go_upto_region 4 with fail
 rw[←hW5,←hA]
 clear hW5 hA
 have hx:=FG HXX.out HNO.out
 clear HXX
 rcases hx with⟨b',HB9,rfl⟩|⟨u,r2,hq2,HXX⟩
 ·obtain⟨FL,HFL,HQ⟩:=hidF (must2b HS5.out.rd [93] [61] _ HB9.out)
  go_wp2_with fail
  go_at_call 76
  refine HQ.out.mono ?_
  rintro e We ⟨rfl,hk⟩
  have HKE:=hid (HS5.out.keep.trans (hk.mono (E':=fun b=>b=R∨b=Bs) fun _ e=>.inl e))
  clear hk
  go_wp2_with fail
  exact⟨rfl,congrArg Ending.panicked HFL.out,HKE.out⟩
 have Hhm1:=hid (DI hq2)
 clear hq2
 have HQ:=hid (must2 HS5.out.rd [93] [61] _ Hhm1.out)
 go_wp2_with fail
 go_at_call 76
 refine HQ.out.mono ?_
 rintro e W6 ⟨rfl,hr,hk⟩
 have HS6:=hid (HS5.out.call hr hk)
 have HA6:=hid (hk.blkE HBA.out fun e=>HNA.out.1 e)
 have HXA6:=hid (HXA.out.keep hk fun b hb e=>by have e:b=R:=e;have:=HS5.out.lt;have:=hb.1;omega)
 clear hr hk
 go_upto_region 5 with fail
 obtain⟨pq,cq,hR,-⟩:=HS6.out.rd.ex
 obtain⟨q1,d1,q2,d2,q3,d3,hB,hkx,hkt,hke⟩:=HS6.out.ex
 have HRO:=hid hR;have HBO:=hid hB;have HKT:=hid hkt;have HKE:=hid hke
 have HN6:=hid (show R<w.heap.size∧R<Bs∧Bs<W6.heap.size∧w.heap.size≤W6.heap.size∧A<W6.heap.size by have:=HS6.out.lt;have:=HS6.out.keep.size;have:=(AG.1 HA6.out).1;omega)
 have HNX:=hid (show ∀w',BA (fun b=>b=R∨b=Bs) W6.drew w'→w'.heap[R]?=some (.cells #[.slice pq r2.length cq,.int .i64 0,.string ⟨#[]⟩,.int .i64 0,.int .i64 el,.int .i64 ec] TRd (0,0))→BE w' R r2 el ec from fun w' hk hr=>HS6.out.rd.same (Nat.le_trans (BA.drew (fun _=>False) W6).size hk.size) fun b hb=>by
  by_cases e:b=R
  ·rw[e,hr,HRO.out]
  ·exact((BA.drew _ W6).trans hk).block b (by have:=HN6.out;omega) fun h=>by have:=HN6.out;omega)
 have hx:=FG HXX.out HNO.out
 clear HXX
 rcases hx with⟨b',HB9,rfl⟩|⟨x,r3,hq3,HXX⟩
 ·obtain⟨FL,hFL⟩:∃FL:List PanicEntry,FL=DJ b' el ec:=⟨_,rfl⟩
  have HFL:=hid hFL
  clear hFL
  clear hR hB hkx hkt hke
  refine OwnX.wp_ownB (fun ch w'=>ch=FL∧BA (fun b=>b=R∨b=Bs) w w') (fun ch a w' hd h=>by obtain⟨rfl,h2⟩:=h;exact⟨hd,congrArg Ending.panicked HFL.out,h2⟩) (by kernel_rfl) R Bs _ _ HRO.out HBO.out (by have:=HN6.out;omega) (fun i=>[[],[],[],[2],[1,2,3],[0,1,2,3,4],[0,1,2,3,4,5],[0,1,2,3,4,5,6]].getD i []) (fun i=>if i=3 then [8] else if i=7 then [9] else []) (fun i=>if i=7 then [9] else []) [3,4,7] (by kernel_rfl)
   (fun i=>if i=3 then some (OwnX.sNo (.agg #[.int .i64 0,.int .i64 0,.int .i64 0,.string ⟨#[]⟩,.slice none 0 0,.int .i64 0,.int .i64 0]))
    else if i=4 then some (sTwo TEx) else if i=7 then some (sCellA Bs 7 TSm #[.int .i64 4,.string ⟨T.toArray⟩,.int .i64 0,.int .i64 0,.string ⟨([]:List UInt8).toArray⟩,.string ⟨([]:List UInt8).toArray⟩,.string ⟨([]:List UInt8).toArray⟩,.slice q1 ([]:List Ex).length d1,.slice q2 ([]:List St).length d2,.slice q3 ([]:List St).length d3,.int .i64 l,.int .i64 cl]) else none) ?_
  apply OwnX.BD rfl rfl
  ·intro w' hk;go_simp;with_reducible rfl
  simp only[Act.put,LS]
  refine OwnX.BD rfl rfl (v:=.agg #[.int .i64 ak,.int .i64 ao,.int .i64 an,.string aS,.slice ap am ac,.int .i64 al,.int .i64 acl]) (fun w' hk=>by
   have hb:=((BA.drew (fun b=>b=R∨b=Bs) W6).trans hk).blkE HA6.out (fun e=>by have:=HNA.out;rcases e with e|e<;>omega)
   obtain⟨x0,x1,x2,x3,x4,x5,x6,-⟩:=blk7 hb
   go_simp<;>rfl) ?_
  simp only[Act.put,LS]
  apply OwnX.BD rfl rfl
  ·intro w' hk;go_simp;with_reducible rfl
  simp only[Act.put,LS]
  refine OwnX.BG rfl rfl (OwnX.loud_gives 32 #[rdV R] _ (fun w=>by kernel_rfl) fun w' hk hav=>(expr_bad HFE.out (HNX.out w' hk (hav 8 (by decide)).1) HB9.out).mono ?_) fun g3 hg3=>?_
  ·rintro e w'' ⟨rfl,hk2⟩
   exact⟨_,rfl,HFL.out.symm,(HS6.out.keep.trans ((BA.drew (fun b=>b=R∨b=Bs) W6).trans hk)).trans (hk2.mono fun _ e=>.inl e)⟩
  simp only[OwnX.sNo,Act.put,LS]
  refine OwnX.BG rfl rfl (.of <| loud_two TEx 22 (.tmp 23) (.tmp 25) rfl #[.int .i64 ak,.int .i64 ao,.int .i64 an,.string aS,.slice ap am ac,.int .i64 al,.int .i64 acl] #[.int .i64 0,.int .i64 0,.int .i64 0,.string ⟨#[]⟩,.slice none 0 0,.int .i64 0,.int .i64 0] rfl rfl (fun w=>by go_simp)) fun g4 _=>?_
  simp only[sTwo,Act.put,LS]
  repeat refine OwnX.BD rfl rfl (fun w' hk=>by go_simp;with_reducible rfl) ?_;simp only[Act.put,LS]
  refine OwnX.BG rfl rfl (.of <| loud_cellA Bs 7 TSm #[.int .i64 4,.string ⟨T.toArray⟩,.int .i64 0,.int .i64 0,.string ⟨([]:List UInt8).toArray⟩,.string ⟨([]:List UInt8).toArray⟩,.string ⟨([]:List UInt8).toArray⟩,.slice q1 ([]:List Ex).length d1,.slice q2 ([]:List St).length d2,.slice q3 ([]:List St).length d3,.int .i64 l,.int .i64 cl] (.slice (some ⟨g4.b,0,none⟩) 2 2) (DH rfl rfl) (fun w u hc hf=>by go_simp<;>rfl) 9 (by decide) (by decide) (fun w h=>h) (.inr ⟨rfl,rfl⟩) (by show 7<12;decide)) fun g7 _=>?_
  simp only[sCellA,Act.put,LS]
  refine OwnX.CE ?_
  intro w9 hk9 hF hdis
  exact((hF 3 (by decide)).1:False).elim
 have Hhx2:=hid (exO_ok hq3)
 clear hq3
 obtain⟨zk,zo,zn,zm,zl,zc,zks⟩:=x
 have HX2:=hid Hhx2.out
 obtain⟨S3,hS3⟩:∃S,strV zm=.string S:=⟨_,rfl⟩
 have HS3E:=hid hS3
 clear hR hB hkx hkt hke hS3
 refine wp_ownB (by kernel_rfl) R Bs _ _ HRO.out HBO.out (by have:=HN6.out;omega) (fun i=>[[],[],[],[2],[1,2,3],[0,1,2,3,4],[0,1,2,3,4,5],[0,1,2,3,4,5,6]].getD i []) (fun i=>if i=3 then [8] else if i=7 then [9] else []) (fun i=>if i=3 then [8] else if i=7 then [9] else []) [3,4,7] (by kernel_rfl)
  (fun i=>if i=3 then some { ok:=fun _ g=>W6.heap.size≤g.b,val:=fun _ g=>.agg #[.int .i64 zk,.int .i64 zo,.int .i64 zn,.string S3,.slice g.p zks.length g.c,.int .i64 zl,.int .i64 zc],fp:=fun _ g b=>b=R∨(g.b≤b∧b<g.d),post:=fun _ g w'=>CD w' (fun b=>g.b≤b∧b<g.d) g.p 0 zks∧BE w' R r3 el ec }
   else if i=4 then some (sTwo TEx) else if i=7 then some (sCellA Bs 7 TSm #[.int .i64 4,.string ⟨T.toArray⟩,.int .i64 0,.int .i64 0,.string ⟨([]:List UInt8).toArray⟩,.string ⟨([]:List UInt8).toArray⟩,.string ⟨([]:List UInt8).toArray⟩,.slice q1 ([]:List Ex).length d1,.slice q2 ([]:List St).length d2,.slice q3 ([]:List St).length d3,.int .i64 l,.int .i64 cl]) else none) ?_
 apply BD rfl rfl
 ·intro w' hk;go_simp;with_reducible rfl
 simp only[Act.put,LS]
 refine BD rfl rfl (v:=.agg #[.int .i64 ak,.int .i64 ao,.int .i64 an,.string aS,.slice ap am ac,.int .i64 al,.int .i64 acl]) (fun w' hk=>by
  have hb:=((BA.drew (fun b=>b=R∨b=Bs) W6).trans hk).blkE HA6.out (fun e=>by have:=HNA.out;rcases e with e|e<;>omega)
  obtain⟨x0,x1,x2,x3,x4,x5,x6,-⟩:=blk7 hb
  go_simp<;>rfl) ?_
 simp only[Act.put,LS]
 apply BD rfl rfl
 ·intro w' hk;go_simp;with_reducible rfl
 simp only[Act.put,LS]
 refine BG rfl rfl (CL 32 #[rdV R] (fun w=>by kernel_rfl) ⟨{ b:=W6.heap.size },Nat.le_refl _⟩ (fun g hg w w' h1 h2 hs hb hp=>⟨hp.1.same fun b hb'=>hb b (.inr hb'),hp.2.same hs fun b hb'=>by
   by_cases e:b=R
   ·exact hb b (.inl e)
   ·have:=HN6.out
    rw[h1.block b (by show b<W6.heap.size;omega) (fun h=>by omega),h2.block b (by show b<W6.heap.size;omega) (fun h=>by omega)]⟩) fun w' hk hav _=>(exP_reads R el ec f w' w' r2 _ r3 (BA.refl _ _) (HNX.out w' hk (hav 8 (by decide)).1) HX2.out).mono ?_) fun g3 hg3=>?_
 ·rintro e w'' ⟨vs2,rfl,hex2,hr2,hk2⟩
  have hex3:=hex2.inHeap
  unfold ExAt at hex3
  obtain⟨p2,cc2,hvs2,hkids⟩:=hex3
  rw[HS3E.out]at hvs2
  subst hvs2
  exact⟨{ p:=p2,c:=cc2,b:=w'.heap.size,d:=w''.heap.size },Nat.le_trans (BA.drew (fun _=>False) W6).size hk.size,rfl,hk2.mono fun b e=>⟨8,by decide,.inl ⟨rfl,e⟩⟩,fun b hb=>by
   rcases hb with e|hb
   ·exact⟨.inr ⟨8,by decide,.inl ⟨rfl,e⟩⟩,by rw[e];exact hr2.lt⟩
   ·exact⟨.inl hb.1,hb.2⟩,hkids,hr2⟩
 simp only[Act.put,LS]
 refine BG rfl rfl (loud_two TEx 22 (.tmp 23) (.tmp 25) rfl #[.int .i64 ak,.int .i64 ao,.int .i64 an,.string aS,.slice ap am ac,.int .i64 al,.int .i64 acl] #[.int .i64 zk,.int .i64 zo,.int .i64 zn,.string S3,.slice g3.p zks.length g3.c,.int .i64 zl,.int .i64 zc] rfl rfl (fun w=>by go_simp)) fun g4 _=>?_
 simp only[sTwo,Act.put,LS]
 repeat refine BD rfl rfl (fun w' hk=>by go_simp;with_reducible rfl) ?_;simp only[Act.put,LS]
 refine BG rfl rfl (loud_cellA Bs 7 TSm #[.int .i64 4,.string ⟨T.toArray⟩,.int .i64 0,.int .i64 0,.string ⟨([]:List UInt8).toArray⟩,.string ⟨([]:List UInt8).toArray⟩,.string ⟨([]:List UInt8).toArray⟩,.slice q1 ([]:List Ex).length d1,.slice q2 ([]:List St).length d2,.slice q3 ([]:List St).length d3,.int .i64 l,.int .i64 cl] (.slice (some ⟨g4.b,0,none⟩) 2 2) (DH rfl rfl) (fun w u hc hf=>by go_simp<;>rfl) 9 (by decide) (by decide) (fun w h=>h) (.inr ⟨rfl,rfl⟩) (by show 7<12;decide)) fun g7 _=>?_
 simp only[sCellA,Act.put,LS]
 refine CE ?_
 intro W7 hk9 hF hdis
 have f3:CD W7 (fun b=>g3.b≤b∧b<g3.d) g3.p 0 zks∧BE W7 R r3 el ec:=(hF 3 (by decide)).1
 have f4:W7.heap[g4.b]?=some (.cells (#[.int .i64 ak,.int .i64 ao,.int .i64 an,.string aS,.slice ap am ac,.int .i64 al,.int .i64 acl]++#[.int .i64 zk,.int .i64 zo,.int .i64 zn,.string S3,.slice g3.p zks.length g3.c,.int .i64 zl,.int .i64 zc]) TEx (0,0)):=(hF 4 (by decide)).1 _ _ (two_args0 rfl rfl) (two_args1 rfl rfl)
 have f7:W7.heap[Bs]?=some (.cells #[.int .i64 4,.string ⟨T.toArray⟩,.int .i64 0,.int .i64 0,.string ⟨([]:List UInt8).toArray⟩,.string ⟨([]:List UInt8).toArray⟩,.string ⟨([]:List UInt8).toArray⟩,.slice (some ⟨g4.b,0,none⟩) 2 2,.slice q2 ([]:List St).length d2,.slice q3 ([]:List St).length d3,.int .i64 l,.int .i64 cl] TSm (0,0)):=(hF 7 (by decide)).1 _ (DH rfl rfl)
 have hg3':W6.heap.size≤g3.b:=hg3
 have d4R:g4.b≠R:=fun e=>hdis 3 (by decide) 4 (by decide) (by decide) R (.inl rfl) e.symm
 have d4B:g4.b≠Bs:=fun e=>hdis 4 (by decide) 7 (by decide) (by decide) Bs e.symm rfl
 have b4:W6.heap.size≤g4.b:=((hF 4 (by decide)).2 g4.b rfl).2.resolve_right fun h=>h.elim d4R d4B
 have hkM:=(BA.drew (fun b=>b=R∨b=Bs) W6).trans hk9
 have hn6:=HN6.out
 have hnoM:∀b,b≠R→b≠Bs→¬(b=R∨b=Bs):=fun b e1 e2 e=>e.elim e1 e2
 have HS7:=hid (show SmAt False (fun b=>b=R∨b=Bs) w W7 R el ec Bs R r3 4 0 0 l cl T [] [] [] [a,.mk zk zo zn zm zl zc zks] [] []from by
  refine⟨f3.2,⟨some ⟨g4.b,0,none⟩,2,q2,d2,q3,d3,f7,?_,HKT.out.keep hkM fun b hb=>hnoM b (by have:=hb.1;omega) hb.2.1,HKE.out.keep hkM fun b hb=>hnoM b (by have:=hb.1;omega) hb.2.1⟩,fun z=>z.elim,HS6.out.keep.trans hkM,⟨hn6.1,hn6.2.1,by have:=hkM.size;omega,by have:=hkM.size;omega⟩,fun b e=>.inl e⟩
  refine kids_two (vs:=[.int .i64 ak,.int .i64 ao,.int .i64 an,.string aS,.slice ap am ac,.int .i64 al,.int .i64 acl]) (us:=[.int .i64 zk,.int .i64 zo,.int .i64 zn,.string S3,.slice g3.p zks.length g3.c,.int .i64 zl,.int .i64 zc]) f4 ⟨by omega,d4B,d4R⟩ rfl (HXA6.out.keep hkM fun b hb=>hnoM b hb.2.2 hb.2.1) ?_
  unfold ExAt
  exact⟨g3.p,g3.c,by rw[HS3E.out],f3.1.mono fun b hb=>⟨by omega,by omega,by omega⟩⟩)
 clear f3 f4 f7 hg3' d4R d4B b4 hkM hn6 hnoM hF hdis hk9
 have hx:=FG HXX.out HNO.out
 clear HXX
 rcases hx with⟨b',HB9,rfl⟩|⟨u,r4,hq4,HXX⟩
 ·obtain⟨FL,HFL,HQ⟩:=hidF (must1b HS7.out.rd [59] _ HB9.out)
  go_wp2_with fail
  go_at_call 76
  refine HQ.out.mono ?_
  rintro e We ⟨rfl,hk⟩
  have HKE:=hid (HS7.out.keep.trans (hk.mono (E':=fun b=>b=R∨b=Bs) fun _ e=>.inl e))
  clear hk
  go_wp2_with fail
  exact⟨rfl,congrArg Ending.panicked HFL.out,HKE.out⟩
 have Hhm2:=hid (DI hq4)
 clear hq4
 have HQ:=hid (must1 HS7.out.rd [59] _ Hhm2.out)
 go_wp2_with fail
 go_at_call 76
 refine(HQ.out).mono ?_
 rintro e W8 ⟨rfl,hr,hk⟩
 have HS8:=hid (HS7.out.call hr hk)
 clear hr hk
 have hx:=HXX.out
 subst hx
 clear HXX HNO
 obtain⟨vs,hv,hst⟩:=HS8.out.st
 have HV:=hid hv;have HST:=hid (hst.mono (S':=fun b=>w.heap.size≤b) fun b hb=>hb.1)
 clear hv hst
 go_wp2_with fail
 (try simp only[Exit.inBlock,Exit.then]);refine bodyPost_ret (results_none rfl _ _ _) rfl ?_
 exact⟨rfl,HS8.out.rd,HS8.out.keep,vs,HV.out,HST.out⟩
theorem plainJ_two (w:World)(R el ec f Bs:Nat)(F:List Item→Option (List Item))(hF:GG F R el ec)(its:List Item)(o:Oc St)(l cl:Nat)(hr:BE w R its el ec)(hB:w.heap[Bs]?=some (.cells (stC 0 0 0 [] [] [] [] (.slice none 0 0) l cl) TSm (0,0)))(hRB:R<Bs)(hno:o≠.no)(tn:Item)(r0:List Item)(hts:its=tn::r0)(hk0:tn.tok.kind=2)(h91:BI r0 [91]=false)(h44:BI r0 [44]=true)(hx:((FB 2 r0.tail).bind fun m r=>(CF [[61]] r).bind fun _ r=>(callO f F tn.tok.text r).bind fun q r=>Oc.ok (St.mk 9 [] 0 q.1 tn.tok.text m.tok.text q.2.1 q.2.2 [] [] l cl) r)=o):
  Calls Tryz.prog 120 #[rdV R,.pointer (some ⟨Bs,0,none⟩)] w fun e w'=>OutP w R el ec Bs o e w':=by
 subst hts
 have HRB:=hid hRB
 have HFE:=hid hF;have HNO:=hid hno
 have hN:=(AG.1 hB).1
 have HN0:=hid hN
 have HBW:=hid hB
 have HNM:=hid (name_str hr hk0)
 obtain⟨T,hT⟩:∃T,tn.tok.text=T:=⟨_,rfl⟩
 rw[hT]at HNM hx
 have HXX:=hid hx
 have HM91:=hid (fun W (h:BE W R r0 el ec)=>by have h:=CC W R r0 el ec h [91];rw[h91,if_neg NT]at h;exact h)
 have HM44:=hid (fun W (h:BE W R r0 el ec)=>by have h:=CC W R r0 el ec h [44];rw[h44,if_pos rfl]at h;exact h)
 unfold stC at HBW
 clear hr hB hN hRB hk0 h91 h44 hx hT hF hno
 go_enter Tryz.func120,Tryz.ntmps120
 go_wp2_with fail
 go_at_call 79
 refine HNM.out.mono ?_
 rintro e W1 ⟨rfl,hr,hk⟩
 have HR1:=hid hr;have HK1:=hid (hk.mono fun b e=>(.inl e:b=R∨b=Bs));have HB1:=hid (hk.blkE HBW.out fun e=>by have e:Bs=R:=e;have:=HRB.out;omega)
 have HQ:=hid (HM91.out W1 hr)
 clear hr hk
 go_wp2_with fail
 go_at_call 101
 refine HQ.out.mono ?_
 rintro e W2 ⟨rfl,hr,hk⟩
 have HQ:=hid (HM44.out W2 hr)
 have HB2:=hid (hk.blkE HB1.out fun e=>by have e:Bs=R:=e;have:=HRB.out;omega);have HR2:=hid hr;have HK2:=hid (HK1.out.trans (hk.mono fun _ e=>.inl e))
 clear hr hk
 go_wp2_with fail
 go_at_call 101
 refine HQ.out.mono ?_
 rintro e W3 ⟨rfl,hr,hk⟩
 have HB3:=hid (hk.blkE HB2.out fun e=>by have e:Bs=R:=e;have:=HRB.out;omega);have HR3:=hid hr;have HK3:=hid (HK2.out.trans (hk.mono fun _ e=>.inl e))
 clear hr hk
 have hx:=FG HXX.out HNO.out
 clear HXX
 rcases hx with⟨b',HB9,rfl⟩|⟨tm,r1,hq1,HXX⟩
 ·obtain⟨FL,HFL,HQ⟩:=hidF (name_at HR3.out HB9.out)
  go_wp2_with fail
  go_at_call 79
  refine HQ.out.mono ?_
  rintro e We ⟨rfl,hk⟩
  have HKE:=hid (HK3.out.trans (hk.mono (E':=fun b=>b=R∨b=Bs) fun _ e=>.inl e))
  clear hk
  go_wp2_with fail
  exact⟨rfl,congrArg Ending.panicked HFL.out,HKE.out⟩
 obtain⟨htl,hk2⟩:=FP hq1
 obtain⟨U,hU⟩:∃U,tm.tok.text=U:=⟨_,rfl⟩
 have HQ:=hid (by have h:=name_ok HR3.out hq1;rw[hU]at h;exact h)
 have HUU:=hid hU
 clear hq1 htl hk2 hU
 go_wp2_with fail
 go_at_call 79
 refine HQ.out.mono ?_
 rintro e W4 ⟨rfl,hr,hk⟩
 have HB4:=hid (hk.blkE HB3.out fun e=>by have e:Bs=R:=e;have:=HRB.out;omega);have HR4:=hid hr;have HK4:=hid (HK3.out.trans (hk.mono fun _ e=>.inl e))
 clear hr hk
 obtain⟨n0,n1,n2,n3,n4,n5,n6,n7,n8,n9,n10,n11⟩:=BH HB4.out
 have f4:=FC HB4.out 4
 have f5:=FC HB4.out 5
 go_upto_region 9 with fail
 clear n0 n1 n2 n3 n4 n5 n6 n7 n8 n9 n10 n11 f4 f5
 obtain⟨W5,hW,hb,hk⟩:=s_put4 HB4.out (.string ⟨T.toArray⟩)
 rw[←hW]
 have HB5:=hid hb;have HR5:=hid (HR4.out.keep hk fun b hb e=>by have e:b=Bs:=e;have:=HRB.out;omega);have HK5:=hid (HK4.out.trans (hk.mono fun _ e=>.inr e))
 clear hW hb hk
 obtain⟨W6,hW,hb,hk⟩:=s_put5 HB5.out (.string ⟨U.toArray⟩)
 rw[←hW]
 have HB6:=hid hb;have HR6:=hid (HR5.out.keep hk fun b hb e=>by have e:b=Bs:=e;have:=HRB.out;omega);have HK6:=hid (HK5.out.trans (hk.mono fun _ e=>.inr e))
 clear hW hb hk
 have hx:=FG HXX.out HNO.out
 clear HXX
 rcases hx with⟨b',HB9,rfl⟩|⟨u,r2,hq2,HXX⟩
 ·obtain⟨FL,HFL,HQ⟩:=hidF (must1b HR6.out [61] _ HB9.out)
  go_wp2_with fail
  go_at_call 76
  refine HQ.out.mono ?_
  rintro e We ⟨rfl,hk⟩
  have HKE:=hid (HK6.out.trans (hk.mono (E':=fun b=>b=R∨b=Bs) fun _ e=>.inl e))
  clear hk
  go_wp2_with fail
  exact⟨rfl,congrArg Ending.panicked HFL.out,HKE.out⟩
 have HMU:=hid (DI hq2)
 clear hq2
 have HQ:=hid (must1 HR6.out [61] _ HMU.out)
 go_wp2_with fail
 go_at_call 76
 refine HQ.out.mono ?_
 rintro e W7 ⟨rfl,hr,hk⟩
 have HB7:=hid (hk.blkE HB6.out fun e=>by have e:Bs=R:=e;have:=HRB.out;omega);have HR7:=hid hr;have HK7:=hid (HK6.out.trans (hk.mono fun _ e=>.inl e))
 clear hr hk
 have hx:=FG HXX.out HNO.out
 clear HXX
 rcases hx with⟨b',HB9,rfl⟩|⟨q,r3,hq3,HXX⟩
 ·obtain⟨FL,HFL,HQ⟩:=hidF (show Calls _ _ _ _ fun e w'=>e=.panicked (DJ b' el ec)∧BA (fun b=>b=R∨b=Bs) W7 w' from callJ W7 R el ec f Bs F HFE.out r2 (.bad b') T U [] 0 0 0 l cl [] HR7.out HB7.out HRB.out HB9.out (fun h=>by cases h))
  go_wp2_with fail
  go_at_call 131
  refine HQ.out.mono ?_
  rintro e We ⟨rfl,hk⟩
  have HKE:=hid (HK7.out.trans hk)
  clear hk
  go_wp2_with fail
  exact⟨rfl,congrArg Ending.panicked HFL.out,HKE.out⟩
 have HCB:=hid (callJ W7 R el ec f Bs F HFE.out r2 (.ok q r3) T U [] 0 0 0 l cl [] HR7.out HB7.out HRB.out hq3 (fun h=>by cases h))
 clear hq3
 go_wp2_with fail
 go_at_call 131
 refine HCB.out.mono ?_
 rintro e W8 ⟨rfl,hr8,hk8,p,cap,hb8,hkd⟩
 have HR8:=hid hr8;have HK8:=hid (HK7.out.trans hk8)
 have hs7:=HK7.out.size
 obtain⟨vs,hvs,hst⟩:=stC_call (op:=q.1) (l:=l) (cl:=cl) (val:=T) (into:=U) (cont:=q.2.1) (cap:=cap) (hkd.mono fun b hb=>(by have hb:W7.heap.size≤b:=hb;omega:w.heap.size≤b))
 have hb8:W8.heap[Bs]?=some (.cells vs.toArray TSm (0,0)):=by rw[←hvs];exact hb8
 have HB8:=hid hb8;have HST:=hid hst
 clear hr8 hk8 hb8 hkd hs7 hvs hst
 have hx:=HXX.out
 subst hx
 clear HXX HNO
 go_wp2_with fail
 (try simp only[Exit.inBlock,Exit.then]);refine bodyPost_ret (results_none rfl _ _ _) rfl ?_
 exact⟨rfl,HR8.out,HK8.out,vs,HB8.out,by rw[HUU.out];exact HST.out⟩
theorem plainJ_eq (w:World)(R el ec f Bs:Nat)(F:List Item→Option (List Item))(hF:GG F R el ec)(its:List Item)(o:Oc St)(l cl:Nat)(hr:BE w R its el ec)(hB:w.heap[Bs]?=some (.cells (stC 0 0 0 [] [] [] [] (.slice none 0 0) l cl) TSm (0,0)))(hRB:R<Bs)(hno:o≠.no)(tn:Item)(r0:List Item)(hts:its=tn::r0)(hk0:tn.tok.kind=2)(h91:BI r0 [91]=false)(h44:BI r0 [44]=false)(b':List Item)(hx:CF [[61]] r0=.bad b')(ho:Oc.bad b'=o):
  Calls Tryz.prog 120 #[rdV R,.pointer (some ⟨Bs,0,none⟩)] w fun e w'=>OutP w R el ec Bs o e w':=by
 subst ho
 subst hts
 have HRB:=hid hRB;have HR0:=hid hr;have HK0:=hid (BA.refl (fun b=>b=R∨b=Bs) w);have HB0:=hid hB
 have HN0:=hid (AG.1 hB).1
 unfold stC at HB0
 have HNM:=hid (name_str hr hk0)
 obtain⟨T,hT⟩:∃T,tn.tok.text=T:=⟨_,rfl⟩
 rw[hT]at HNM
 have HFE:=hid hF;have HB9:=hid hx;have HNO:=hid hno
 have Hh91:=hid h91
 have Hh44:=hid h44
 clear hr hB hRB hk0 hT h91 h44 hx hF hno
 go_enter Tryz.func120,Tryz.ntmps120
 go_wp2_with fail
 go_at_call 79
 refine(HNM.out).mono ?_
 rintro e W1 ⟨rfl,hr,hk⟩
 have HB1:=hid (hk.blkE HB0.out fun e=>by have e:Bs=R:=e;have:=HRB.out;omega);have HR1:=hid hr;have HK1:=hid (HK0.out.trans (hk.mono fun _ e=>.inl e))
 clear hr hk
 have HQ:=hid (by have h:=CC W1 R _ el ec HR1.out [91];rw[Hh91.out,if_neg NT]at h;exact h)
 go_wp2_with fail
 go_at_call 101
 refine(HQ.out).mono ?_
 rintro e W2 ⟨rfl,hr,hk⟩
 have HB2:=hid (hk.blkE HB1.out fun e=>by have e:Bs=R:=e;have:=HRB.out;omega);have HR2:=hid hr;have HK2:=hid (HK1.out.trans (hk.mono fun _ e=>.inl e))
 clear hr hk
 have HQ:=hid (by have h:=CC W2 R _ el ec HR2.out [44];rw[Hh44.out,if_neg NT]at h;exact h)
 go_wp2_with fail
 go_at_call 101
 refine(HQ.out).mono ?_
 rintro e W3 ⟨rfl,hr,hk⟩
 have HB3:=hid (hk.blkE HB2.out fun e=>by have e:Bs=R:=e;have:=HRB.out;omega);have HR3:=hid hr;have HK3:=hid (HK2.out.trans (hk.mono fun _ e=>.inl e))
 clear hr hk
 obtain⟨FL,HFL,HQ⟩:=hidF (must1b HR3.out [61] _ HB9.out)
 go_wp2_with fail
 go_at_call 76
 refine HQ.out.mono ?_
 rintro e We ⟨rfl,hk⟩
 have HKE:=hid (HK3.out.trans (hk.mono (E':=fun b=>b=R∨b=Bs) fun _ e=>.inl e))
 clear hk
 go_wp2_with fail
 exact⟨rfl,congrArg Ending.panicked HFL.out,HKE.out⟩
theorem plainJ_one (w:World)(R el ec f Bs:Nat)(F:List Item→Option (List Item))(hF:GG F R el ec)(its:List Item)(o:Oc St)(l cl:Nat)(hr:BE w R its el ec)(hB:w.heap[Bs]?=some (.cells (stC 0 0 0 [] [] [] [] (.slice none 0 0) l cl) TSm (0,0)))(hRB:R<Bs)(hno:o≠.no)(tn:Item)(r0:List Item)(hts:its=tn::r0)(hk0:tn.tok.kind=2)(h91:BI r0 [91]=false)(h44:BI r0 [44]=false)(rr:List Item)(hm1:CY [[61]] r0=some rr)(hkd:FE rr=1)(hx:((callO f F [] rr).bind fun q r=>Oc.ok (St.mk 9 [] 0 q.1 [] tn.tok.text q.2.1 q.2.2 [] [] l cl) r)=o):
  Calls Tryz.prog 120 #[rdV R,.pointer (some ⟨Bs,0,none⟩)] w fun e w'=>OutP w R el ec Bs o e w':=by
 subst hts
 have HRB:=hid hRB;have HR0:=hid hr;have HK0:=hid (BA.refl (fun b=>b=R∨b=Bs) w);have HB0:=hid hB
 have HN0:=hid (AG.1 hB).1
 unfold stC at HB0
 have HNM:=hid (name_str hr hk0)
 obtain⟨T,hT⟩:∃T,tn.tok.text=T:=⟨_,rfl⟩
 rw[hT]at HNM hx
 have HFE:=hid hF;have HXX:=hid hx;have HNO:=hid hno
 have Hh91:=hid h91
 have Hh44:=hid h44
 have Hhm1:=hid hm1
 have HKD:=hid hkd
 clear hr hB hRB hk0 hT h91 h44 hx hF hno hm1 hkd
 go_enter Tryz.func120,Tryz.ntmps120
 go_wp2_with fail
 go_at_call 79
 refine(HNM.out).mono ?_
 rintro e W1 ⟨rfl,hr,hk⟩
 have HB1:=hid (hk.blkE HB0.out fun e=>by have e:Bs=R:=e;have:=HRB.out;omega);have HR1:=hid hr;have HK1:=hid (HK0.out.trans (hk.mono fun _ e=>.inl e))
 clear hr hk
 have HQ:=hid (by have h:=CC W1 R _ el ec HR1.out [91];rw[Hh91.out,if_neg NT]at h;exact h)
 go_wp2_with fail
 go_at_call 101
 refine(HQ.out).mono ?_
 rintro e W2 ⟨rfl,hr,hk⟩
 have HB2:=hid (hk.blkE HB1.out fun e=>by have e:Bs=R:=e;have:=HRB.out;omega);have HR2:=hid hr;have HK2:=hid (HK1.out.trans (hk.mono fun _ e=>.inl e))
 clear hr hk
 have HQ:=hid (by have h:=CC W2 R _ el ec HR2.out [44];rw[Hh44.out,if_neg NT]at h;exact h)
 go_wp2_with fail
 go_at_call 101
 refine(HQ.out).mono ?_
 rintro e W3 ⟨rfl,hr,hk⟩
 have HB3:=hid (hk.blkE HB2.out fun e=>by have e:Bs=R:=e;have:=HRB.out;omega);have HR3:=hid hr;have HK3:=hid (HK2.out.trans (hk.mono fun _ e=>.inl e))
 clear hr hk
 have HQ:=hid (must1 HR3.out [61] _ Hhm1.out)
 go_wp2_with fail
 go_at_call 76
 refine(HQ.out).mono ?_
 rintro e W4 ⟨rfl,hr,hk⟩
 have HB4:=hid (hk.blkE HB3.out fun e=>by have e:Bs=R:=e;have:=HRB.out;omega);have HR4:=hid hr;have HK4:=hid (HK3.out.trans (hk.mono fun _ e=>.inl e))
 clear hr hk
 obtain⟨tq,hpk⟩:=peek_at HR4.out
 obtain⟨tk,htk⟩:∃n:Int,(FE rr:Int)=n:=⟨_,rfl⟩
 obtain⟨T1,hT1⟩:∃T,headText rr=T:=⟨_,rfl⟩
 obtain⟨tl,htl⟩:∃n:Int,(lineOf rr el:Int)=n:=⟨_,rfl⟩
 obtain⟨tcl,htcl⟩:∃n:Int,(colOf rr ec:Int)=n:=⟨_,rfl⟩
 rw[htk,hT1,htl,htcl]at hpk
 have HQ:=hid (hpk W4 (BA.refl _ _))
 have hkk:(tk==1)=true:=by rw[beq_iff_eq];have:=HKD.out;omega
 clear hT1 htl htcl hpk htk
 go_wp2_with fail
 go_at_call 74
 refine HQ.out.mono ?_
 rintro e W5 ⟨rfl,hk⟩
 have HR5:=hid (HR4.out.keep hk fun _ _ e=>e);have HB5:=hid (hk.blk HB4.out);have HK5:=hid (HK4.out.trans (hk.mono fun _ e=>e.elim))
 clear hk
 have hfk:=field_kind (.int .i64 tk) (.string ⟨T1.toArray⟩) (.int .i64 tq) (.int .i64 tl) (.int .i64 tcl) W5
 obtain⟨-,-,-,-,-,n5,-⟩:=BH HB5.out
 have f5:=FC HB5.out 5
 go_upto_region 14 with fail
 clear n5 f5 hfk hkk
 obtain⟨W6,hW,hb,hk⟩:=s_put5 HB5.out (.string ⟨T.toArray⟩)
 rw[←hW]
 have HB6:=hid hb;have HR6:=hid (HR5.out.keep hk fun b hb e=>by have e:b=Bs:=e;have:=HRB.out;omega);have HK6:=hid (HK5.out.trans (hk.mono fun _ e=>.inr e))
 clear hW hb hk
 have hx:=FG HXX.out HNO.out
 clear HXX
 rcases hx with⟨b',HB9,rfl⟩|⟨q,r3,hq3,HXX⟩
 ·obtain⟨FL,HFL,HQ⟩:=hidF (show Calls _ _ _ _ fun e w'=>e=.panicked (DJ b' el ec)∧BA (fun b=>b=R∨b=Bs) W6 w' from callJ W6 R el ec f Bs F HFE.out rr (.bad b') [] T [] 0 0 0 l cl [] HR6.out HB6.out HRB.out HB9.out (fun h=>by cases h))
  go_wp2_with fail
  go_at_call 131
  refine HQ.out.mono ?_
  rintro e We ⟨rfl,hk⟩
  have HKE:=hid (HK6.out.trans hk)
  clear hk
  go_wp2_with fail
  exact⟨rfl,congrArg Ending.panicked HFL.out,HKE.out⟩
 have HCB:=hid (callJ W6 R el ec f Bs F HFE.out rr (.ok q r3) [] T [] 0 0 0 l cl [] HR6.out HB6.out HRB.out hq3 (fun h=>by cases h))
 clear hq3
 go_wp2_with fail
 go_at_call 131
 refine HCB.out.mono ?_
 rintro e W8 ⟨rfl,hr8,hk8,p,cap,hb8,hkd⟩
 have HR8:=hid hr8;have HK8:=hid (HK6.out.trans hk8)
 have hs7:=HK6.out.size
 obtain⟨vs,hvs,hst⟩:=stC_call (op:=q.1) (l:=l) (cl:=cl) (val:=[]) (into:=T) (cont:=q.2.1) (cap:=cap) (hkd.mono fun b hb=>(by have hb:W6.heap.size≤b:=hb;omega:w.heap.size≤b))
 have hb8:W8.heap[Bs]?=some (.cells vs.toArray TSm (0,0)):=by rw[←hvs];exact hb8
 have HB8:=hid hb8;have HST:=hid hst
 clear hr8 hk8 hb8 hkd hs7 hvs hst
 have hx:=HXX.out
 subst hx
 clear HXX HNO
 go_wp2_with fail
 (try simp only[Exit.inBlock,Exit.then]);refine bodyPost_ret (results_none rfl _ _ _) rfl ?_
 exact⟨rfl,HR8.out,HK8.out,vs,HB8.out,HST.out⟩
theorem plainJ_set (w:World)(R el ec f Bs:Nat)(F:List Item→Option (List Item))(hF:GG F R el ec)(its:List Item)(o:Oc St)(l cl:Nat)(hr:BE w R its el ec)(hB:w.heap[Bs]?=some (.cells (stC 0 0 0 [] [] [] [] (.slice none 0 0) l cl) TSm (0,0)))(hRB:R<Bs)(hno:o≠.no)(tn:Item)(r0:List Item)(hts:its=tn::r0)(hk0:tn.tok.kind=2)(h91:BI r0 [91]=false)(h44:BI r0 [44]=false)(rr:List Item)(hm1:CY [[61]] r0=some rr)(hkd:¬FE rr=1)(hx:((exO f F rr).bind fun x r=>(CF [[59]] r).bind fun _ r=>Oc.ok (St.mk 3 tn.tok.text 0 0 [] [] [] [x] [] [] l cl) r)=o):
  Calls Tryz.prog 120 #[rdV R,.pointer (some ⟨Bs,0,none⟩)] w fun e w'=>OutP w R el ec Bs o e w':=by
 subst hts
 have HS0:=hid (sm_start hr hB hRB)
 have HNM:=hid (name_str hr hk0)
 obtain⟨T,hT⟩:∃T,tn.tok.text=T:=⟨_,rfl⟩
 rw[hT]at HNM hx
 have HFE:=hid hF;have HXX:=hid hx;have HNO:=hid hno
 have Hh91:=hid h91
 have Hh44:=hid h44
 have Hhm1:=hid hm1
 have HKD:=hid hkd
 clear hr hB hRB hk0 hT h91 h44 hx hF hno hm1 hkd
 go_enter Tryz.func120,Tryz.ntmps120
 go_wp2_with fail
 go_at_call 79
 refine(HNM.out).mono ?_
 rintro e W1 ⟨rfl,hr,hk⟩
 have HS1:=hid (HS0.out.call hr hk)
 clear hr hk
 have HQ:=hid (by have h:=CC W1 R _ el ec (HS1.out.rd) [91];rw[Hh91.out,if_neg NT]at h;exact h)
 go_wp2_with fail
 go_at_call 101
 refine(HQ.out).mono ?_
 rintro e W2 ⟨rfl,hr,hk⟩
 have HS2:=hid (HS1.out.call hr hk)
 clear hr hk
 have HQ:=hid (by have h:=CC W2 R _ el ec (HS2.out.rd) [44];rw[Hh44.out,if_neg NT]at h;exact h)
 go_wp2_with fail
 go_at_call 101
 refine(HQ.out).mono ?_
 rintro e W3 ⟨rfl,hr,hk⟩
 have HS3:=hid (HS2.out.call hr hk)
 clear hr hk
 have HQ:=hid (must1 HS3.out.rd [61] _ Hhm1.out)
 go_wp2_with fail
 go_at_call 76
 refine(HQ.out).mono ?_
 rintro e W4 ⟨rfl,hr,hk⟩
 have HS4:=hid (HS3.out.call hr hk)
 clear hr hk
 obtain⟨tq,hpk⟩:=peek_at HS4.out.rd
 obtain⟨tk,htk⟩:∃n:Int,(FE rr:Int)=n:=⟨_,rfl⟩
 obtain⟨T1,hT1⟩:∃T,headText rr=T:=⟨_,rfl⟩
 obtain⟨tl,htl⟩:∃n:Int,(lineOf rr el:Int)=n:=⟨_,rfl⟩
 obtain⟨tcl,htcl⟩:∃n:Int,(colOf rr ec:Int)=n:=⟨_,rfl⟩
 rw[htk,hT1,htl,htcl]at hpk
 have HQ:=hid (hpk W4 (BA.refl _ _))
 have hkk:(tk==1)=false:=by rw[BF];have:=HKD.out;omega
 clear hT1 htl htcl hpk htk
 go_wp2_with fail
 go_at_call 74
 refine HQ.out.mono ?_
 rintro e W5 ⟨rfl,hk⟩
 have HS5:=hid (HS4.out.stay hk)
 clear hk
 have hfk:=field_kind (.int .i64 tk) (.string ⟨T1.toArray⟩) (.int .i64 tq) (.int .i64 tl) (.int .i64 tcl) W5
 have hx:=FG HXX.out HNO.out
 clear HXX
 rcases hx with⟨b',HB9,rfl⟩|⟨x,r2,hq4,HXX⟩
 ·obtain⟨FL,HFL,HQ⟩:=hidF (expr_bad HFE.out HS5.out.rd HB9.out)
  go_wp2_with fail
  go_at_call 32
  refine HQ.out.mono ?_
  rintro e We ⟨rfl,hk⟩
  have HKE:=hid (HS5.out.keep.trans (hk.mono (E':=fun b=>b=R∨b=Bs) fun _ e=>.inl e))
  clear hk
  go_wp2_with fail
  exact⟨rfl,congrArg Ending.panicked HFL.out,HKE.out⟩
 have Hhx1:=hid (exO_ok hq4)
 clear hq4
 have HQ:=hid (exP_reads R el ec f W5 W5 _ x _ (BA.refl _ _) HS5.out.rd Hhx1.out)
 go_wp2_with fail
 go_at_call 32
 refine HQ.out.mono ?_
 rintro e X6 ⟨vs,rfl,hex,hr,hk⟩
 obtain⟨xk,xo,xn,xS,xp,xm,xc,xl,xcl,rfl⟩:=DL hex
 obtain⟨Y6,G6,hY,hG,hbG,hkG,hsG⟩:=BC X6 (.cells #[.int .i64 xk,.int .i64 xo,.int .i64 xn,.string xS,.slice xp xm xc,.int .i64 xl,.int .i64 xcl] TEx)
 obtain⟨hs,hkd⟩:=HS5.out.expr hex hr hk hkG hbG (by omega)
 have HSY:=hid hs;have HKD:=hid hkd
 obtain⟨p1,c1,p2,c2,p3,c3,hb,hx,ht,he⟩:=(HS5.out.call hr hk).ex
 have hb:=(BA.alloc (fun _=>False) X6 (.cells #[.int .i64 xk,.int .i64 xo,.int .i64 xn,.string xS,.slice xp xm xc,.int .i64 xl,.int .i64 xcl] TEx)).blk hb
 obtain⟨n0,n1,-,-,-,-,-,n7,-,-,-,-⟩:=BH hb
 have f0:=FC hb 0
 have f1:=FC hb 1
 have f7:=FC hb 7
 clear hb hx ht he hs hkd hex hr hk hbG hkG hsG
 go_upto_region 16 with fail
 rw[←hY,←hG]
 clear hY hG
 clear n0 f0 n1 f1 n7 f7
 obtain⟨p1,c1,p2,c2,p3,c3,hb,hx,ht,he⟩:=HSY.out.ex
 have HB:=hid hb;have HX:=hid hx;have HT:=hid ht;have HE:=hid he
 clear hb hx ht he
 obtain⟨V6_0,hV0,hb0,hk0⟩:=s_put0 (HB.out) (.int .i64 3)
 rw[←hV0]
 obtain⟨V6_1,hV1,hb1,hk1⟩:=s_put1 (hb0) (.string ⟨T.toArray⟩)
 rw[←hV1]
 obtain⟨W6,hV2,hb2,hk2⟩:=s_put7 (hb1) (.slice (some ⟨G6,0,none⟩) 1 1)
 rw[←hV2]
 have HS6:=hid (HSY.out.put (xs':=[x]) (((hk0).trans hk1).trans hk2) hb2 (HKD.out) (HT.out) (HE.out))
 clear hV0 hb0 hk0 hV1 hb1 hk1 hV2 hb2 hk2 HB HX HT HE
 clear HSY HKD
 have hx:=FG HXX.out HNO.out
 clear HXX
 rcases hx with⟨b',HB9,rfl⟩|⟨u,r3,hq5,HXX⟩
 ·obtain⟨FL,HFL,HQ⟩:=hidF (must1b HS6.out.rd [59] _ HB9.out)
  go_wp2_with fail
  go_at_call 76
  refine HQ.out.mono ?_
  rintro e We ⟨rfl,hk⟩
  have HKE:=hid (HS6.out.keep.trans (hk.mono (E':=fun b=>b=R∨b=Bs) fun _ e=>.inl e))
  clear hk
  go_wp2_with fail
  exact⟨rfl,congrArg Ending.panicked HFL.out,HKE.out⟩
 have Hhm2:=hid (DI hq5)
 clear hq5
 have HQ:=hid (must1 HS6.out.rd [59] _ Hhm2.out)
 go_wp2_with fail
 go_at_call 76
 refine(HQ.out).mono ?_
 rintro e W7 ⟨rfl,hr,hk⟩
 have HS7:=hid (HS6.out.call hr hk)
 clear hr hk
 have hx:=HXX.out
 subst hx
 clear HXX HNO
 obtain⟨vs,hv,hst⟩:=HS7.out.st
 have HV:=hid hv;have HST:=hid (hst.mono (S':=fun b=>w.heap.size≤b) fun b hb=>hb.1)
 clear hv hst
 go_wp2_with fail
 go_end0
 exact⟨rfl,HS7.out.rd,HS7.out.keep,vs,HV.out,HST.out⟩
theorem plainJ (w:World)(R el ec f Bs:Nat)(F:List Item→Option (List Item))(hF:GG F R el ec)(its:List Item)(o:Oc St)(l cl:Nat)(hr:BE w R its el ec)(hB:w.heap[Bs]?=some (.cells (stC 0 0 0 [] [] [] [] (.slice none 0 0) l cl) TSm (0,0)))(hRB:R<Bs)(hno:o≠.no)(hx:plainO f F l cl its=o):
  Calls Tryz.prog 120 #[rdV R,.pointer (some ⟨Bs,0,none⟩)] w fun e w'=>OutP w R el ec Bs o e w':=by
 unfold plainO at hx
 cases hw:FB 2 its with
 |no=>exact absurd hw (wantO_no _ _)
 | bad b'=>
  rw[hw]at hx
  exact plainJ_name w R el ec f Bs F hF its o l cl hr hB hRB hno b' hw hx
 | ok tn r0=>
  rw[hw,CG]at hx
  obtain⟨hts,hk0⟩:=FP hw
  by_cases h91:BI r0 [91]=true
  ·rw[if_pos h91]at hx
   exact plainJ_put w R el ec f Bs F hF its o l cl hr hB hRB hno tn r0 hts hk0 h91 hx
  ·rw[if_neg h91]at hx
   by_cases h44:BI r0 [44]=true
   ·rw[if_pos h44]at hx
    exact plainJ_two w R el ec f Bs F hF its o l cl hr hB hRB hno tn r0 hts hk0 (Bool.eq_false_iff.2 h91) h44 hx
   ·rw[if_neg h44]at hx
    cases hm:CF [[61]] r0 with
    |no=>exact absurd hm (CW _ _)
    | bad b'=>
     rw[hm]at hx
     exact plainJ_eq w R el ec f Bs F hF its o l cl hr hB hRB hno tn r0 hts hk0 (Bool.eq_false_iff.2 h91) (Bool.eq_false_iff.2 h44) b' hm hx
    | ok u rr=>
     rw[hm,CG]at hx
     by_cases hkd:FE rr=1
     ·rw[if_pos hkd]at hx
      exact plainJ_one w R el ec f Bs F hF its o l cl hr hB hRB hno tn r0 hts hk0 (Bool.eq_false_iff.2 h91) (Bool.eq_false_iff.2 h44) rr (DI hm) hkd hx
     ·rw[if_neg hkd]at hx
      exact plainJ_set w R el ec f Bs F hF its o l cl hr hB hRB hno tn r0 hts hk0 (Bool.eq_false_iff.2 h91) (Bool.eq_false_iff.2 h44) rr (DI hm) hkd hx
def sBlk (lo:Nat)(R el ec:Nat)(m:List Item)(l:List St):Loud:={ ok:=fun _ g=>lo≤g.b,val:=fun _ g=>.slice g.p l.length g.c,fp:=fun _ g k=>k=R∨(g.b≤k∧k<g.d),post:=fun _ g w=>CJ w (fun b=>g.b≤b∧b<g.d) g.p 0 l∧BE w R m el ec }
def sThr (base:Nat)(T:TypeId)(n:Nat)(xs:List Value)(lo R el ec:Nat)(m:List Item)(l:List St):Loud:={ ok:=fun _ g=>lo≤g.b,val:=fun _ g=>.slice g.p (n+1) g.c,fp:=fun _ g k=>Of g.p k∨k=R∨(g.b≤k∧k<g.d),post:=fun _ g w=>BE w R m el ec∧(∀k,Of g.p k→¬(g.b≤k∧k<g.d))∧∃q c,w.ownsRow base T 1 (.slice g.p (n+1) g.c) (n+1) (xs++[.slice q l.length c])∧CJ w (fun b=>g.b≤b∧b<g.d) q 0 l }
def sOneA (E:TypeId):Loud:={ val:=fun _ g=>.slice (some ⟨g.b,0,none⟩) 1 1,fp:=fun _ g k=>k=g.b,post:=fun args g w=>∀u,args.getD 0 undef=u→w.heap[g.b]?=some (.cells #[u] E (0,0)) }
section
variable {P : Program}{w0 : World}{M : Nat→Prop}{o : Oper}{a : Act}{av ea : List Nat}{F : Nat→World→Prop}{Fp : Nat→Nat→Prop}
theorem one_arg {E:TypeId}{n:Nat}{x:Operand}{v:Value}(ho:o.op=.buildSlice E n #[(0,x)])(hx:a.eval x=v):(BS o a).getD 0 undef=v:=by simp[BS,ho,Op.operands,hx]
theorem loud_oneA (E:TypeId)(u:Value)(hu:(BS o a).getD 0 undef=u)(hrun:∀w,(execOp a.eval o).run P w=.ok (.value (.slice (some ⟨w.heap.size,0,none⟩) 1 1)) (w.alloc (.cells #[u] E))):FO P w0 M o a (sOneA E) av ea F Fp:=by
 refine DB ⟨default,trivial⟩ (fun g _ w w' _ _ _ h k u hu=>(h g.b rfl).trans (k u hu)) fun w _ _ _=>?_
 refine⟨w.alloc (.cells #[u] E),{ b:=w.heap.size },trivial,.inl (hrun w),BA.alloc _ _ _,fun b hb=>?_,fun u' hu'=>?_⟩
 ·have hb:b=w.heap.size:=hb
  subst hb
  exact⟨.inl (Nat.le_refl _),by simp⟩
 ·rw[hu]at hu'
  rw[←hu']
  exact heap_alloc_new w _
theorem CJ.inHeap {w:World}{S:Nat→Prop}{p:Option Addr}{i:Nat}{l:List St}(h:CJ w S p i l):CJ w (fun b=>S b∧b<w.heap.size) p i l:=
 h.keepS fun _ _ _ hb hc=>⟨hc,hb,World.block_lt_of_cell? w _ hc⟩
theorem sts_same {w w':World}{S:Nat→Prop}{p:Option Addr}{l:List St}(h:CJ w S p 0 l)(hb:∀b,S b→w'.heap[b]?=w.heap[b]?):CJ w' S p 0 l:=
 h.keepS fun b o v hS hc=>⟨by simpa [World.cell?,hb b hS]using hc,hS⟩
theorem loud_appendT (base lo:Nat)(T t:TypeId)(bytes:Nat)(ht:P.underlying t=some (.slice T))(hinfo:(P.info? T).map (fun i=>(i.zero,i.size,i.bytes))=some (some (.slice none 0 0),1,bytes))
  (x y:Operand) (ho:o.op=.call { callee:=.builtin .append,args:=#[x,y],argTypes:=#[t,t] }) (v:Value) (n:Nat) (xs:List Value) (R el ec:Nat) (m:List Item) (l:List St) (b3 d3 b4 c3:Nat) (q3:Option Addr)
  (hx:a.eval x=v) (hy:a.eval y=.slice (some ⟨b4,0,none⟩) 1 1) (hn:n+1≤maxLen) (hb:(n+1) * bytes≤140737488355328) (hbase:base≤w0.heap.size) (hR:R<base) (hM:∀b,b<R→¬M b) (hlo:lo≤b3)
  (j1:Nat) (hj1a:j1∈av) (hj1e:j1∈ea) (hF1:∀w,F j1 w→w.ownsRow base T 1 v n xs) (hp1:∀b,v.ownBlock=some b→Fp j1 b)
  (j3:Nat) (hj3a:j3∈av) (hj3e:j3∈ea) (hne:j3≠j1) (hF3:∀w,F j3 w→CJ w (fun b=>b3≤b∧b<d3) q3 0 l∧BE w R m el ec) (hp3:∀b,(b=R∨(b3≤b∧b<d3))→Fp j3 b)
  (j4:Nat) (hj4a:j4∈av) (hF4:∀w,F j4 w→w.heap[b4]?=some (.cells #[.slice q3 l.length c3] T (0,0))):FO P w0 M o a (sThr base T n xs lo R el ec m l) av ea F Fp:=by
 obtain⟨i0,hi,hz,hsize,hby⟩:∃i0,P.info? T=some i0∧i0.zero=some (.slice none 0 0)∧i0.size=1∧i0.bytes=bytes:=by
  cases hi:P.info? T with
  |none=>rw[hi]at hinfo;cases hinfo
  | some i0=>
   rw[hi]at hinfo
   simp only[Option.map_some,Option.some.injEq,Prod.mk.injEq]at hinfo
   exact⟨i0,rfl,hinfo.1,hinfo.2.1,hinfo.2.2⟩
 refine DB ⟨{ b:=lo },Nat.le_refl _⟩ (fun g _ w1 w2 k1 k2 hs h k=>?_) fun w hw hav hdis=>?_
 ·obtain⟨h1,hno,q,c,h2,h3⟩:=k
  refine⟨h1.same hs fun b hb=>?_,hno,q,c,row_same h2 fun b hb=>h b (.inl (own_of.1 hb)),sts_same h3 fun b hb=>h b (.inr (.inr hb))⟩
  by_cases e:b=R
  ·exact h b (.inr (.inl e))
  ·rw[k1.block b (by omega) (hM b (by omega)),k2.block b (by omega) (hM b (by omega))]
 ·have hrow:=hF1 w (hav j1 hj1a).1
  obtain⟨hst,hrd⟩:=hF3 w (hav j3 hj3a).1
  have hsrc:=hF4 w (hav j4 hj4a).1
  obtain⟨v',w',r1,r2,r3,-,r5⟩:=run_append_own_at (P:=P) (w:=w) base t o.type T i0 (.slice none 0 0) 1 bytes ht hi hz hsize hby rfl (by decide) v n xs hrow ⟨b4,0,none⟩ 1 1 [.slice q3 l.length c3] rfl
   (fun j u hj=>by
    rw[add_off]
    exact BJ hsrc (by simpa using hj)) (fun u hu=>by simp only[List.mem_singleton]at hu;subst hu;rfl) hn hb (Nat.le_trans hbase hw.size)
  obtain⟨p,c,rfl⟩:∃p c,v'=.slice p (n+1) c:=by
   rcases r2.2 with⟨rfl,h0⟩|⟨g,cap,cur,rfl,-⟩
   ·exact absurd h0 (by omega)
   ·exact⟨_,_,rfl⟩
  have kg:BA (fun b=>v.ownBlock=some b) w w':=BA.grown r3 fun b hb=>hb
  refine⟨w',{ p:=p,c:=c,b:=b3,d:=d3 },hlo,.inl ?_,kg.mono fun b hb=>⟨j1,hj1e,hp1 b hb⟩,fun b hb=>?_,hrd.keep kg fun b hb e=>?_,fun k hk hkb=>?_,q3,c3,r2,sts_same hst fun b hb=>kg.block b ((hav j3 hj3a).2 b (hp3 b (.inr hb))).1 fun e=>hdis j3 hj3a j1 hj1a hne b (hp3 b (.inr hb)) (hp1 b e)⟩
  ·unfold execOp
   simp only[ho,resolve,invoke,builtin,Sem.run_bind,Sem.run_pure,Result.andThen_ok,List.map_toArray,List.map_cons,List.map_nil,hx,hy,r1,sThr]
  ·rcases hb with hb|hb
   ·refine⟨?_,(r2.lt b (own_of.2 hb)).2⟩
    have hb':=own_of (n:=n+1) (c:=c).2 hb
    rcases r5 with r5|r5
    ·rw[r5]at hb';exact .inr ⟨j1,hj1e,hp1 b hb'⟩
    ·rw[r5]at hb'
     have:w.heap.size=b:=Option.some.inj hb'
     exact .inl (by omega)
   ·exact⟨.inr ⟨j3,hj3e,hp3 b hb⟩,Nat.lt_of_lt_of_le ((hav j3 hj3a).2 b (hp3 b hb)).1 kg.size⟩
  ·have:=(hrow.lt b e).1
   omega
  ·have hk2:=own_of (n:=n+1) (c:=c).2 hk
   rcases r5 with r5|r5
   ·rw[r5]at hk2
    exact hdis j3 hj3a j1 hj1a hne k (hp3 k (.inr hkb)) (hp1 k hk2)
   ·rw[r5]at hk2
    have h1:w.heap.size=k:=Option.some.inj hk2
    have h2:=((hav j3 hj3a).2 k (hp3 k (.inr hkb))).1
    omega
end
abbrev TPr:TypeId:=46
abbrev TCt:TypeId:=90
abbrev TSs:TypeId:=56
def ChainC:List Ct→List Item→List Item→Prop
 |[],ts,r=>r=ts∧(∀t r0,ts=t::r0→ofL DE t.tok.text=0)
 |c::l,ts,r=>∃t n r1 r2,ts=t::n::r1∧t.tok.kind=1∧ofL DE t.tok.text≠0∧n.tok.kind=2∧CY [[59]] r1=some r2∧c=⟨ofL DE t.tok.text,n.tok.text,t.line,t.col⟩∧ChainC l r2 r
def ReadsB (R el ec:Nat)(its r:List Item)(l:List St):Prop:=∀(w:World),BE w R its el ec→
  Calls Tryz.prog 80 #[rdV R] w fun e w'=>∃p cap,e=.returned (.slice p l.length cap)∧CJ w' (fun b=>w.heap.size≤b) p 0 l∧BE w' R r el ec∧BA (fun b=>b=R) w w'
def ctV (c:Ct):List Value:=[.int .i64 c.kind,.string ⟨c.name.toArray⟩,.int .i64 c.line,.int .i64 c.col]
def CtsAt (w:World)(S:Nat→Prop)(p:Option Addr)(l:List Ct):Prop:=l=[]∨∃g,p=some ⟨g,0,none⟩∧S g∧∀j u,(l.map ctV).flatten[j]?=some u→w.cell? ⟨g,j,none⟩=some u
def ThsAt (w:World)(S:Nat→Prop)(p:Option Addr)(l:List (List St)):Prop:=∃sl:List Value,sl.length=l.length∧(l=[]∨∃g,p=some ⟨g,0,none⟩∧S g∧∀j u,sl[j]?=some u→w.cell? ⟨g,j,none⟩=some u)∧
 ∀j (h:j<sl.length) (h':j<l.length),∃q c,sl[j]=.slice q l[j].length c∧CJ w S q 0 l[j]
theorem CtsAt.keepS {w w':World}{S S':Nat→Prop}(hk:∀b o v,S b→w.cell? ⟨b,o,none⟩=some v→w'.cell? ⟨b,o,none⟩=some v)(hS:∀b,S b→S' b){p:Option Addr}{l:List Ct}(h:CtsAt w S p l):CtsAt w' S' p l:=
 h.imp id fun ⟨g,h1,h2,h3⟩=>⟨g,h1,hS g h2,fun j u hj=>hk g j u h2 (h3 j u hj)⟩
theorem ThsAt.keepS {w w':World}{S S':Nat→Prop}(hk:∀b o v,S b→w.cell? ⟨b,o,none⟩=some v→w'.cell? ⟨b,o,none⟩=some v)(hS:∀b,S b→S' b){p:Option Addr}{l:List (List St)}(h:ThsAt w S p l):ThsAt w' S' p l:=by
 obtain⟨sl,h1,h2,h3⟩:=h
 refine⟨sl,h1,h2.imp id fun ⟨g,a1,a2,a3⟩=>⟨g,a1,hS g a2,fun j u hj=>hk g j u a2 (a3 j u hj)⟩,fun j a b=>?_⟩
 obtain⟨q,c,e1,e2⟩:=h3 j a b
 exact⟨q,c,e1,e2.keepS fun b o v hb hc=>⟨hk b o v hb hc,hS b hb⟩⟩
theorem ofK_lt (s:List UInt8):ofL DE s<4:=by
 unfold ofL
 split
 ·decide
 ·split
  ·rename_i h
   exact List.idxOf_lt_length_iff.2 (by simpa using h)
  ·decide
theorem must_len:∀{L:List (List UInt8)}{its r:List Item},CY L its=some r→r.length≤its.length
 |[],its,r,h=>by unfold CY at h;cases h;omega
 | s::L,its,r,h=>by
  unfold CY at h
  split at h
  ·have:=must_len h
   rw[List.length_tail]at this
   omega
  ·cases h
theorem p_put0 {w:World}{B:Nat}{a b c:Value}{T:TypeId}(h:w.heap[B]?=some (.cells #[a,b,c] T (0,0)))(v:Value):∃w',w'=w.setCell ⟨B,0,none⟩ v∧w'.heap[B]?=some (.cells #[v,b,c] T (0,0))∧BA (fun k=>k=B) w w':=⟨_,rfl,put1 (i:=0) h v,BA.setCell _ _ _ rfl⟩
end Go.Proofs.YtomlffobbkcmdaaGreatDoor
