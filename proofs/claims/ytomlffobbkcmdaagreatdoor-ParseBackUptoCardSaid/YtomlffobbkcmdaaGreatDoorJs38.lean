import Derived.Test.YtomlffobbkcmdaaGreatDoorJs37
set_option maxHeartbeats 32000000
set_option maxRecDepth 4000
namespace Go.Proofs.YtomlffobbkcmdaaGreatDoor
open Go Go.RowKit Own
open Go.Lib (hid)
theorem TelK.boxedP {w0:World}{b k:Nat}{l:List UInt8}{w w':World}{cs:Array Value}(h:TelK b w w')(ht:TS w0 b l w)(hk:k≠b)(hb:w.heap[k]?=some (.cells cs TPr (0,0))):w'.heap[k]?=some (.cells cs TPr (0,0)):=h.blk ht.tel (by decide) hk hb
theorem kinds_at {k:Nat}(h:k<4):kindsV[k]?=some (.string ⟨(DE.getD k []).toArray⟩):=by
 match k,h with
 |0,_|1,_|2,_|3,_=>rfl
theorem run_index_kinds {k:Nat}(h:k<4)(w:World):(Instr.index 91 (.agg kindsV) (.int .i64 k)).run Tryz.prog w=.ok (.string ⟨(DE.getD k []).toArray⟩) w:=
 run_index_arr Tryz.underlying91 Tryz.sizeOf9 Tryz.isAgg9 h (kinds_at h) w
def sStr3 (a b c:List UInt8):Loud:={ val:=fun _ g=>.slice (some ⟨g.b,0,none⟩) 3 3,fp:=fun _ g k=>k=g.b,post:=fun _ g w=>w.heap[g.b]?=some (.cells #[.string ⟨a.toArray⟩,.string ⟨b.toArray⟩,.string ⟨c.toArray⟩] TStr (0,0)) }
theorem loud_str3 {P:Program}{w0:World}{M:Nat→Prop}{o:Oper}{a:Act}{av ea:List Nat}{F:Nat→World→Prop}{Fp:Nat→Nat→Prop}(p q r:List UInt8)(hrun:∀w,(execOp a.eval o).run P w=.ok (.value (.slice (some ⟨w.heap.size,0,none⟩) 3 3)) (w.alloc (.cells #[.string ⟨p.toArray⟩,.string ⟨q.toArray⟩,.string ⟨r.toArray⟩] TStr))):FO P w0 M o a (sStr3 p q r) av ea F Fp:=
 loud_new (fun b=>.slice (some ⟨b,0,none⟩) 3 3) _ rfl (fun _ _=>rfl) (fun _ _ _=>Iff.rfl) (fun _ _ _=>Iff.rfl) hrun
theorem fmap_take {α β:Type}(f:α→List β){l:List α}{i:Nat}(h:i<l.length):(l.take (i+1)).flatMap f=(l.take i).flatMap f++f l[i]:=by
 rw[List.take_add_one,List.flatMap_append,List.getElem?_eq_getElem h]
 simp
theorem fmap_le {α:Type}(f:α→List (List UInt8))(l:List α)(i:Nat):(putL ((l.take i).flatMap f)).length≤(putL (l.flatMap f)).length:=by
 have h:l.flatMap f=(l.take i).flatMap f++(l.drop i).flatMap f:=by rw[←List.flatMap_append,List.take_append_drop]
 rw[h,BQ,LA]
 omega
def thT (l:List Gs):List (List UInt8):=[[116,104,114,101,97,100]]++FT l
theorem text_any (p:Gp)(hb:DQ p.threads≤1099511627776)(hc:p.conts.length≤2000000)(hl:p.threads.length≤2000000)(hf:∀l∈p.threads,fitSL l)(hpool:p.pool≤9223372036854775807)(hn:∀l∈p.threads,DT l)(hlen:DY p=true→(putL (tokP p)).length≤100000000)
  (w:World) (hT:TabS w) (hP:TabP w) (S:Nat→Prop) (v:Value) (h:PAt w S v p):
  Calls Tryz.prog 17 #[v] w fun e w'=>e=.returned (.string ⟨(if DY p=true then putL (tokP p) else []).toArray⟩)∧BA (fun _=>False) w w':=by
 obtain⟨pool,conts,threads⟩:=p
 obtain⟨p1,d1,p2,d2,rfl,hcs,hts⟩:=h
 dsimp only at hb hc hl hf hcs hts hpool hn ⊢
 obtain⟨V,B1,hV,hB1,hb1,hk1,hs1⟩:=BC w (.cells #[.int .i64 pool,.slice p1 conts.length d1,.slice p2 threads.length d2] TPr)
 have HCK:=hid (check_any ⟨pool,conts,threads⟩ hb hc hl hf V (hk1.tabS hT) S _ ⟨p1,d1,p2,d2,rfl,hcs.keep hk1 fun _ _ e=>e,hts.keep hk1 fun _ _ e=>e⟩)
 have HCS:=hid (hcs.keep hk1 fun _ _ e=>e);have HTS:=hid (hts.keep hk1 fun _ _ e=>e)
 dsimp only at HCS HTS HCK
 have HB:=hid hb1;have HK1:=hid hk1;have HPV:=hid (hk1.tabP hP)
 by_cases hck:DY ⟨pool,conts,threads⟩=true
 ·rw[if_pos hck]at HCK ⊢
  have hLEN:=hlen hck
  unfold DY at hck
  dsimp only at hck
  simp only[Bool.and_eq_true,decide_eq_true_eq,List.all_eq_true]at hck
  obtain⟨hp0,hmc,hmt⟩:=hck
  have HMC:=hid hmc;have HMT:=hid hmt;have HSZ:=hid (fun i (h:i<threads.length)=>hSize_mem h)
  have HN:=hid hn;have HHB:=hid hb
  obtain⟨LL,hLL⟩:∃L,putL (tokP ⟨pool,conts,threads⟩)=L:=⟨_,rfl⟩
  have hE:LL=putL [[112,111,111,108]]++(putL [Lib.itoa pool]++(putL [[59]]++(putL (conts.flatMap tokCt)++putL (threads.flatMap thT)))):=by
   rw[←hLL]
   unfold tokP
   rw[BQ,BQ,BQ,BQ]
   rfl
  rw[hLL]at hLEN ⊢
  have HE:=hid hE
  have HLEN:=hid (by have h:=hLEN;rw[hE]at h;simp only[LA]at h;exact h)
  have HNUM:=hid (fun W1 b W L (hP1:TabP W1) (h:TS W1 b L W) (hl:L.length+(putL [Lib.itoa pool]).length≤100000000)=>h.number hP1 pool (by omega) hpool hl)
  obtain⟨n0,n1,n2,-⟩:=BY hb1
  clear hcs hts hb1 hk1 hs1 hb hf hT hP hn hlen hLEN hE hLL hpool hp0 hmc hmt
  go_enter Tryz.func17,Tryz.ntmps17
  go_upto_region 1 with fail
  rw[←hV,←hB1]
  clear hV hB1
  go_wp2_with fail
  go_at_call 20
  refine HCK.out.mono ?_
  rintro e w1 ⟨rfl,hk2⟩
  obtain⟨W,b,hW,hb,hbb,hkW,hsW⟩:=BC w1 (.cells #[.pointer none,.slice none 0 0] TT)
  have HK2:=hid (HK1.out.trans hk2)
  have HCS2:=hid (HCS.out.keep hk2 fun _ _ e=>e);have HTS2:=hid (HTS.out.keep hk2 fun _ _ e=>e)
  have HP1:=hid (hk2.tabP HPV.out)
  have HT0:=hid (show TS w1 b [] W from⟨hkW,Lib.IsBuilderF.of (.inl ⟨by omega,_,hbb,World.ownsRow_nil _ _ _ _,by simp[Value.ownBlock]⟩)⟩)
  have HBW:=hid ((hk2.trans hkW).blk HB.out)
  have HNE:=hid (show B1≠b by
   have h1:=(AG.1 (hk2.blk HB.out)).1
   omega)
  clear hk2 hbb hkW hsW HCK HCS HTS n0 n1 n2
  go_upto_region 4 with fail
  rw[←hW,←hb]
  clear hW hb
  have HPw2:=hid (HT0.out.put1 [112,111,111,108] (by have:=HLEN.out;(try simp only[List.length_nil]at this ⊢);omega))
  go_wp2_with fail
  go_at_call 39
  refine HPw2.out.mono ?_
  rintro e w2 ⟨rfl,ht,hk⟩
  have HBw2:=hid (hk.boxedP HT0.out HNE.out HBW.out)
  have HTw2:=hid ht
  clear ht hk HPw2
  obtain⟨c0,c1,c2,-⟩:=BY HBw2.out
  have HPn:=hid (HNUM.out w1 b w2 _ HP1.out HTw2.out (by have:=HLEN.out;(try simp only[LA,List.length_nil]at this ⊢);omega))
  go_wp2_with fail
  go_at_call 40
  refine HPn.out.mono ?_
  rintro e w3 ⟨rfl,ht,hk⟩
  have HBw3:=hid (hk.boxedP HTw2.out HNE.out HBw2.out)
  have HTw3:=hid ht
  clear ht hk HPn
  clear c0 c1 c2
  have HPw4:=hid (HTw3.out.put1 [59] (by have:=HLEN.out;(try simp only[LA,List.length_nil]at this ⊢);omega))
  go_wp2_with fail
  go_at_call 39
  refine HPw4.out.mono ?_
  rintro e w4 ⟨rfl,ht,hk⟩
  have HBw4:=hid (hk.boxedP HTw3.out HNE.out HBw3.out)
  have HTw4:=hid ht
  clear ht hk HPw4
  obtain⟨c0,c1,c2,-⟩:=BY HBw4.out
  obtain⟨L0,hL0⟩:∃L,([]++putL [[112,111,111,108]]++putL [Lib.itoa pool]++putL [[59]])=L:=⟨_,rfl⟩
  have HL0:=hid hL0
  have HLN0:=hid (show L0.length+((putL (conts.flatMap tokCt)).length+(putL (threads.flatMap thT)).length)≤100000000 by
   have:=HLEN.out
   rw[←hL0]
   simp only[LA,List.length_nil]
   omega)
  have HT4:=hid (by have h:=HTw4.out;rw[hL0]at h;exact h)
  clear hL0 HTw2 HTw3 HTw4 HT0 HBw2 HBw3 HBW
  go_wp2_with fail
  go_loopw [26] (fun v26 wr=>∃i:Nat,v26=.int .i64 i∧i≤conts.length∧TS w1 b (L0++putL ((conts.take i).flatMap tokCt)) wr∧wr.heap[B1]?=some (.cells #[.int .i64 pool,.slice p1 conts.length d1,.slice p2 threads.length d2] TPr (0,0))) (fun v _=>conts.length - (intOf v).toNat)
  case atStart=>exact⟨0,rfl,Nat.zero_le _,by have h:=HT4.out;simpa [putL]using h,HBw4.out⟩
  case round=>
   obtain⟨i,rfl,hi,ht,hbk⟩:=hrel
   have HTI:=hid ht;have HBI:=hid hbk
   clear c0 c1 c2
   obtain⟨c0,c1,c2,-⟩:=BY hbk
   clear hbk
   by_cases hlt:i<conts.length
   ·have hlti:(i:Int)<conts.length:=by omega
    have hi0:(0:Int)≤i:=by omega
    have hWi:IntKind.i64.wrap ((i:Int)+1)=(i:Int)+1:=IntWalk.i64_in _ (by omega)
    obtain⟨g,o,hp,-,y0,y1,y2,y3⟩:=HCS2.out i hlt
    subst hp
    have y0:=ht.keep.stay y0;have y1:=ht.keep.stay y1;have y2:=ht.keep.stay y2;have y3:=ht.keep.stay y3
    obtain⟨nm,hnm⟩:∃s,conts[i].name=s:=⟨_,rfl⟩
    obtain⟨kk,hki⟩:∃s:Nat,conts[i].kind=s:=⟨conts[i].kind.toNat,by have h:=HMC.out _ (List.getElem_mem hlt);unfold mayC at h;simp only[Bool.not_eq_true',Bool.or_eq_false_iff,decide_eq_false_iff_not]at h;omega⟩
    have hkk:kk<4:=by have h:=HMC.out _ (List.getElem_mem hlt);unfold mayC at h;simp only[Bool.not_eq_true',Bool.or_eq_false_iff,decide_eq_false_iff_not]at h;omega
    obtain⟨i2,hi2⟩:∃s,conts[i].line=s:=⟨_,rfl⟩
    obtain⟨i3,hi3⟩:∃s,conts[i].col=s:=⟨_,rfl⟩
    have htok:tokCt conts[i]=[DE.getD kk [],nm,[59]]:=by unfold tokCt;rw[hki,hnm];rfl
    rw[hki]at y0
    rw[hnm]at y1
    rw[hi2]at y2
    rw[hi3]at y3
    unfold strV at y1
    obtain⟨W,C,hW,hC,hcb,hkc,hsc⟩:=BC wr (.cells #[.int .i64 kk,.string ⟨nm.toArray⟩,.int .i64 i2,.int .i64 i3] TCt)
    have HNE2:=hid (show C≠b by have:=ht.tel.le;omega)
    have HTW:=hid (ht.on hkc)
    obtain⟨LC,hLC⟩:∃L,L0++putL ((conts.take i).flatMap tokCt)=L:=⟨_,rfl⟩
    rw[hLC]at HTW
    have HTK:=hid (show L0++putL ((conts.take (i+1)).flatMap tokCt)=LC++putL [DE.getD kk [],nm,[59]] by rw[fmap_take _ hlt,BQ,htok,←hLC,List.append_assoc])
    have HLN:=hid (show LC.length+(putL [DE.getD kk [],nm,[59]]).length≤100000000 by
     have h1:=HLN0.out
     have h2:=fmap_le tokCt conts (i+1)
     have h3:=congrArg List.length HTK.out
     simp only[LA]at h3
     omega)
    have HB2:=hid (hkc.blk HBI.out)
    have HBC:=hid hcb
    obtain⟨n0,n1,n2,n3⟩:=blk4 hcb
    clear ht hcb hkc hsc hki hnm hi2 hi3 htok hLC
    go_upto_region 10 with fail
    rw[←hW,←hC]
    clear hW hC y0 y1 y2 y3
    obtain⟨s,hs⟩:∃s,DE.getD kk []=s:=⟨_,rfl⟩
    have HIX:=hid (fun W=>run_index_kinds hkk W)
    rw[hs]at HIX HLN HTK
    clear hs hkk
    have d0:=fun W' (h:BA (fun k=>k=b∨DZ W b=some k) W.drew W')=>((BA.drew _ W).trans h).cell n0 (fun e=>e.elim (fun e=>HNE2.out e) fun e=>by obtain⟨-,-,cs,fz,hc⟩:=HTW.out.tel.buf e;have h2:=HBC.out;rw[hc]at h2;cases h2)
    have d1:=fun W' (h:BA (fun k=>k=b∨DZ W b=some k) W.drew W')=>((BA.drew _ W).trans h).cell n1 (fun e=>e.elim (fun e=>HNE2.out e) fun e=>by obtain⟨-,-,cs,fz,hc⟩:=HTW.out.tel.buf e;have h2:=HBC.out;rw[hc]at h2;cases h2)
    refine wp_ownA (by kernel_rfl) (fun k=>k=b∨DZ W b=some k) (fun k hk=>hk.elim (fun e=>by rw[e];exact HTW.out.tel.le.2) fun e=>by obtain⟨-,-,cs,fz,hc⟩:=HTW.out.tel.buf e;exact(AG.1 hc).1) (fun i=>[[],[],[],[2],[1,2,3],[],[5],[1,2,3,4,5,6],[0,1,2,3,4,5,6,7]].getD i []) (fun i=>if i=8 then [7,9] else []) (fun i=>if i=8 then [9] else []) [8] (by kernel_rfl) (fun i=>if i=1 then some (BW (.agg kindsV)) else if i=7 then some (sStr3 s nm [59]) else if i=8 then some (sTel w1.heap.size b (LC++putL [s,nm,[59]])) else none) ?_
    apply BD rfl rfl
    ·intro w' hk;go_simp;with_reducible rfl
    simp only[Act.put,LS]
    refine BG rfl rfl (CL 41 #[] (fun w=>by kernel_rfl) ⟨default,trivial⟩ (fun g _=>CN _) fun w' hk _ _=>(kinds_any w').mono ?_) fun gs _=>?_
    ·rintro e w'' ⟨rfl,hq⟩
     exact⟨default,trivial,rfl,hq.mono fun _ e=>e.elim,fun b h=>h.elim,trivial⟩
    simp only[BW,Act.put,LS]
    apply BD rfl rfl
    ·intro w' hk;go_simp;with_reducible rfl
    simp only[Act.put,LS]
    apply BD rfl rfl
    ·intro w' hk;have e1:=d0 w' hk;go_simp;with_reducible rfl
    simp only[Act.put,LS]
    apply BD rfl rfl
    ·intro w' hk;have e2:=HIX.out w';go_simp;with_reducible rfl
    simp only[Act.put,LS]
    apply BD rfl rfl
    ·intro w' hk;go_simp;with_reducible rfl
    simp only[Act.put,LS]
    apply BD rfl rfl
    ·intro w' hk;have e1:=d1 w' hk;go_simp;with_reducible rfl
    simp only[Act.put,LS]
    refine BG rfl rfl (loud_str3 s nm [59] (fun w=>by go_simp)) fun g5 _=>?_
    simp only[sStr3,Act.put,LS]
    refine BG rfl rfl (loud_tel HTW.out.tel [s,nm,[59]] HLN.out g5.b 3 (fun W=>by kernel_rfl) 7 9 (by decide) (by decide) (by decide) (by decide) (fun W h=>h) rfl (fun W h=>h rfl) (fun k=>⟨fun h=>h.2,fun h=>⟨rfl,h⟩⟩)) fun g6 _=>?_
    simp only[sTel,Act.put,LS]
    refine CE ?_
    intro WR hkr hF _
    obtain⟨htr,hkr2⟩:=HTW.out.region (args:=#[]) hkr (hF 8 (by decide)).1 (hF 8 (by decide)).2
    have HBR:=hid (hkr2.boxedP HTW.out HNE.out HB2.out)
    have HTR:=hid htr;have HKR:=hid hkr2
    clear hkr hF htr hkr2 d0 d1 n0 n1 n2 n3
    go_wp2_with fail
    exact⟨⟨i+1,by simp,by omega,by rw[HTK.out];exact HTR.out,HBR.out⟩,by simp only[intOf];omega⟩
   ·have hnl:¬(i:Int)<conts.length:=by omega
    obtain rfl:i=conts.length:=by omega
    rw[List.take_length]at ht
    obtain⟨L1,hL1⟩:∃L,L0++putL (conts.flatMap tokCt)=L:=⟨_,rfl⟩
    rw[hL1]at ht
    have HL1:=hid hL1
    have HLN1:=hid (show L1.length+(putL (threads.flatMap thT)).length≤100000000 by
     have h1:=HLN0.out
     rw[←hL1]
     simp only[LA]
     omega)
    have HT5:=hid ht
    clear ht hlt hi hL1
    go_wp2_with fail
    go_loopw [43] (fun v43 wq=>∃i:Nat,v43=.int .i64 i∧i≤threads.length∧TS w1 b (L1++putL ((threads.take i).flatMap thT)) wq∧wq.heap[B1]?=some (.cells #[.int .i64 pool,.slice p1 conts.length d1,.slice p2 threads.length d2] TPr (0,0))) (fun v _=>threads.length - (intOf v).toNat)
    case atStart=>exact⟨0,rfl,Nat.zero_le _,by have h:=HT5.out;simpa [putL]using h,HBI.out⟩
    case round=>
     obtain⟨wq,hwq⟩:∃x,x=wr:=⟨wr,rfl⟩
     subst hwq
     obtain⟨i,rfl,hi,ht,hbk⟩:=hrel
     have HTJ:=hid ht;have HBJ:=hid hbk
     clear c0 c1 c2 hnl
     obtain⟨c0,c1,c2,-⟩:=BY hbk
     clear hbk
     by_cases hlt:i<threads.length
     ·have hlti:(i:Int)<threads.length:=by omega
      have hi0:(0:Int)≤i:=by omega
      have hWi:IntKind.i64.wrap ((i:Int)+1)=(i:Int)+1:=IntWalk.i64_in _ (by omega)
      obtain⟨g,o,q,cq,hp,-,y0,hsk⟩:=HTS2.out i hlt
      subst hp
      have y0:=ht.keep.stay y0
      have HTK:=hid (show L1++putL ((threads.take (i+1)).flatMap thT)=(L1++putL ((threads.take i).flatMap thT))++putL [[116,104,114,101,97,100]]++putL (FT threads[i]) by rw[fmap_take _ hlt,BQ,show thT threads[i]=[[116,104,114,101,97,100]]++FT threads[i]from rfl,BQ];simp only[List.append_assoc])
      have HLN:=hid (show (L1++putL ((threads.take i).flatMap thT)).length+(putL [[116,104,114,101,97,100]]).length+(putL (FT threads[i])).length≤100000000 by
       have h1:=HLN1.out
       have h2:=fmap_le thT threads (i+1)
       have h3:=congrArg List.length HTK.out
       simp only[LA]at h3 ⊢
       omega)
      have HBLK:=hid (fun L W=>tellsB_any w1 HP1.out threads[i] (by have:=HSZ.out i hlt;have:=HHB.out;omega) (HMT.out _ (List.getElem_mem hlt)) (HN.out _ (List.getElem_mem hlt)) S q cq hsk b L W)
      clear ht hsk
      have HPw6:=hid (HTJ.out.put1 [116,104,114,101,97,100] (by have:=HLN.out;omega))
      go_wp2_with fail
      go_at_call 39
      refine HPw6.out.mono ?_
      rintro e w6 ⟨rfl,ht,hk⟩
      have HBw6:=hid (hk.boxedP HTJ.out HNE.out HBJ.out)
      have HTw6:=hid ht
      clear ht hk HPw6
      have HPB:=hid (HBLK.out _ _ HTw6.out (by have:=HLN.out;simp only[LA]at this ⊢;omega))
      go_wp2_with fail
      go_at_call 42
      refine HPB.out.mono ?_
      rintro e w7 ⟨rfl,ht,hk⟩
      have HBw7:=hid (hk.boxedP HTw6.out HNE.out HBw6.out)
      have HTw7:=hid ht
      clear ht hk HPB
      go_wp2_with fail
      exact⟨⟨i+1,by simp,by omega,by rw[HTK.out];exact HTw7.out,HBw7.out⟩,by simp only[intOf];omega⟩
     ·have hnl:¬(i:Int)<threads.length:=by omega
      obtain rfl:i=threads.length:=by omega
      rw[List.take_length]at ht
      have hEL:L1++putL (threads.flatMap thT)=LL:=by
       rw[←HL1.out,←HL0.out,HE.out]
       simp only[List.append_assoc,List.nil_append]
      rw[hEL]at ht
      have HT8:=hid ht
      have HST:=hid (tel_string ht.tel (by rw[HE.out];simp[putL]))
      clear ht hlt hi hEL
      go_wp2_with fail
      go_at_call 29
      refine HST.out.mono ?_
      rintro e w9 ⟨rfl,hk3⟩
      have HK9:=hid (HK2.out.trans (HT8.out.keep.new hk3 fun _ e=>e))
      clear hk3
      go_wp2_with fail
      go_ret
      exact⟨rfl,HK9.out⟩
 ·rw[if_neg hck]at HCK ⊢
  obtain⟨n0,n1,n2,-⟩:=BY hb1
  clear hcs hts hb1 hk1 hs1 hb hf hT hP hn hlen hck
  go_enter Tryz.func17,Tryz.ntmps17
  go_upto_region 1 with fail
  rw[←hV,←hB1]
  clear hV hB1
  go_wp2_with fail
  go_at_call 20
  refine HCK.out.mono ?_
  rintro e w1 ⟨rfl,hk2⟩
  have HK2:=hid hk2
  clear hk2
  go_wp2_with fail
  go_ret
  exact⟨rfl,HK1.out.trans HK2.out⟩
section
variable {P : Program}{w0 : World}{M : Nat→Prop}{o : Oper}{a : Act}{av ea : List Nat}{F : Nat→World→Prop}{Fp : Nat→Nat→Prop}
end
end Go.Proofs.YtomlffobbkcmdaaGreatDoor
