/- Joined texts of this work: Tx3, Sb1, Sb2. -/
import Derived.Test.YtomlffobbkcmdaaGreatDoorJq34
import Derived.Test.YtomlffobbkcmdaaGreatDoorJq27
import Derived.Test.YtomlffobbkcmdaaGreatDoorJq19
import Derived.Test.YtomlffobbkcmdaaGreatDoorJq18
/-
  Text of any program.
-/
namespace Go.Proofs.YtomlffobbkcmdaaGreatDoor
open Go Go.RowKit Own
open Go.Lib (hid)
theorem TelK.boxedP {w0:World} {b k:Nat} {l:List UInt8} {w w':World} {cs:Array Value} (h:TelK b w w') (ht:TS w0 b l w) (hk:k≠b) (hb:w.heap[k]?=some (.cells cs TPr (0,0))):w'.heap[k]?=some (.cells cs TPr (0,0)):=h.blk ht.tel (by decide) hk hb
theorem kinds_at {k:Nat} (h:k<4):kindsV[k]?=some (.string ⟨(kindL.getD k []).toArray⟩):=by
 match k,h with
 | 0,_ | 1,_ | 2,_ | 3,_=>rfl
theorem run_index_kinds {k:Nat} (h:k<4) (w:World):(Instr.index 91 (.agg kindsV) (.int .i64 k)).run Tryz.prog w=.ok (.string ⟨(kindL.getD k []).toArray⟩) w:=
 run_index_arr Tryz.underlying91 Tryz.sizeOf9 Tryz.isAgg9 h (kinds_at h) w
/-- a new slice of three strings -/
def sStr3 (a b c:List UInt8):Loud:={ val:=fun _ g=>.slice (some ⟨g.b,0,none⟩) 3 3,fp:=fun _ g k=>k=g.b,post:=fun _ g w=>w.heap[g.b]?=some (.cells #[.string ⟨a.toArray⟩,.string ⟨b.toArray⟩,.string ⟨c.toArray⟩] TStr (0,0)) }
theorem loud_str3 {P:Program} {w0:World} {M:Nat→Prop} {o:Oper} {a:Act} {av ea:List Nat} {F:Nat→World→Prop} {Fp:Nat→Nat→Prop} (p q r:List UInt8) (hrun:∀ w,(execOp a.eval o).run P w=.ok (.value (.slice (some ⟨w.heap.size,0,none⟩) 3 3)) (w.alloc (.cells #[.string ⟨p.toArray⟩,.string ⟨q.toArray⟩,.string ⟨r.toArray⟩] TStr))):LoudOk P w0 M o a (sStr3 p q r) av ea F Fp:=
 loud_new (fun b=>.slice (some ⟨b,0,none⟩) 3 3) _ rfl (fun _ _=>rfl) (fun _ _ _=>Iff.rfl) (fun _ _ _=>Iff.rfl) hrun
theorem fmap_take {α β:Type} (f:α→List β) {l:List α} {i:Nat} (h:i<l.length):(l.take (i+1)).flatMap f=(l.take i).flatMap f++f l[i]:=by
 rw [List.take_add_one,List.flatMap_append,List.getElem?_eq_getElem h]
 simp
theorem fmap_le {α:Type} (f:α→List (List UInt8)) (l:List α) (i:Nat):(putL ((l.take i).flatMap f)).length≤(putL (l.flatMap f)).length:=by
 have h:l.flatMap f=(l.take i).flatMap f++(l.drop i).flatMap f:=by rw [←List.flatMap_append,List.take_append_drop]
 rw [h,putL_app,List.length_append]
 omega
def thT (l:List Gs):List (List UInt8):=[[116,104,114,101,97,100]]++blockT l
set_option maxRecDepth 4000 in
set_option maxHeartbeats 32000000 in
/-- Text -/
theorem text_any (p:Gp) (hb:hSize p.threads≤1099511627776) (hc:p.conts.length≤2000000) (hl:p.threads.length≤2000000) (hf:∀ l∈p.threads,fitSL l) (hpool:p.pool≤9223372036854775807) (hn:∀ l∈p.threads,fitNL l) (hlen:checkP p=true→(putL (tokP p)).length≤100000000)
  (w:World) (hT:TabS w) (hP:TabP w) (S:Nat→Prop) (v:Value) (h:PAt w S v p):
  Calls Tryz.prog 17 #[v] w fun e w'=>e=.returned (.string ⟨(if checkP p=true then putL (tokP p) else []).toArray⟩)∧KeepBut (fun _=>False) w w':=by
 obtain ⟨pool,conts,threads⟩:=p
 obtain ⟨p1,d1,p2,d2,rfl,hcs,hts⟩:=h
 dsimp only at hb hc hl hf hcs hts hpool hn ⊢
 obtain ⟨V,B1,hV,hB1,hb1,hk1,hs1⟩:=fresh_block w (.cells #[.int .i64 pool,.slice p1 conts.length d1,.slice p2 threads.length d2] TPr)
 have HCK:=hid (check_any ⟨pool,conts,threads⟩ hb hc hl hf V (hk1.tabS hT) S _ ⟨p1,d1,p2,d2,rfl,hcs.keep hk1 fun _ _ e=>e,hts.keep hk1 fun _ _ e=>e⟩)
 have HCS:=hid (hcs.keep hk1 fun _ _ e=>e);have HTS:=hid (hts.keep hk1 fun _ _ e=>e)
 dsimp only at HCS HTS HCK
 have HB:=hid hb1;have HK1:=hid hk1;have HPV:=hid (hk1.tabP hP)
 by_cases hck:checkP ⟨pool,conts,threads⟩=true
 ·rw [if_pos hck] at HCK ⊢
  have hLEN:=hlen hck
  unfold checkP at hck
  dsimp only at hck
  simp only [Bool.and_eq_true,decide_eq_true_eq,List.all_eq_true] at hck
  obtain ⟨hp0,hmc,hmt⟩:=hck
  have HMC:=hid hmc;have HMT:=hid hmt;have HSZ:=hid (fun i (h:i<threads.length)=>hSize_mem h)
  have HN:=hid hn;have HHB:=hid hb
  obtain ⟨LL,hLL⟩:∃ L,putL (tokP ⟨pool,conts,threads⟩)=L:=⟨_,rfl⟩
  have hE:LL=putL [[112,111,111,108]]++(putL [Lib.itoa pool]++(putL [[59]]++(putL (conts.flatMap tokCt)++putL (threads.flatMap thT)))):=by
   rw [←hLL]
   unfold tokP
   rw [putL_app,putL_app,putL_app,putL_app]
   rfl
  rw [hLL] at hLEN ⊢
  have HE:=hid hE
  have HLEN:=hid (by have h:=hLEN;rw [hE] at h;simp only [List.length_append] at h;exact h)
  have HNUM:=hid (fun W1 b W L (hP1:TabP W1) (h:TS W1 b L W) (hl:L.length+(putL [Lib.itoa pool]).length≤100000000)=>h.number hP1 pool (by omega) hpool hl)
  obtain ⟨n0,n1,n2,-⟩:=blk3f hb1
  clear hcs hts hb1 hk1 hs1 hb hf hT hP hn hlen hLEN hE hLL hpool hp0 hmc hmt
  go_enter Tryz.func17,Tryz.ntmps17
  go_upto_region 1 with fail
  rw [←hV,←hB1]
  clear hV hB1
  go_wp2_with fail
  go_at_call 20
  refine HCK.out.mono ?_
  rintro e w1 ⟨rfl,hk2⟩
  obtain ⟨W,b,hW,hb,hbb,hkW,hsW⟩:=fresh_block w1 (.cells #[.pointer none,.slice none 0 0] TT)
  have HK2:=hid (HK1.out.trans hk2)
  have HCS2:=hid (HCS.out.keep hk2 fun _ _ e=>e);have HTS2:=hid (HTS.out.keep hk2 fun _ _ e=>e)
  have HP1:=hid (hk2.tabP HPV.out)
  have HT0:=hid (show TS w1 b [] W from ⟨hkW,Lib.IsBuilderF.of (.inl ⟨by omega,_,hbb,World.ownsRow_nil _ _ _ _,by simp [Value.ownBlock]⟩)⟩)
  have HBW:=hid ((hk2.trans hkW).blk HB.out)
  have HNE:=hid (show B1≠b by
   have h1:=(Array.getElem?_eq_some_iff.1 (hk2.blk HB.out)).1
   omega)
  clear hk2 hbb hkW hsW HCK HCS HTS n0 n1 n2
  go_upto_region 4 with fail
  rw [←hW,←hb]
  clear hW hb
  have HPw2:=hid (HT0.out.put1 [112,111,111,108] (by have:=HLEN.out;(try simp only [List.length_nil] at this ⊢);omega))
  go_wp2_with fail
  go_at_call 39
  refine HPw2.out.mono ?_
  rintro e w2 ⟨rfl,ht,hk⟩
  have HBw2:=hid (hk.boxedP HT0.out HNE.out HBW.out)
  have HTw2:=hid ht
  clear ht hk HPw2
  obtain ⟨c0,c1,c2,-⟩:=blk3f HBw2.out
  have HPn:=hid (HNUM.out w1 b w2 _ HP1.out HTw2.out (by have:=HLEN.out;(try simp only [List.length_append,List.length_nil] at this ⊢);omega))
  go_wp2_with fail
  go_at_call 40
  refine HPn.out.mono ?_
  rintro e w3 ⟨rfl,ht,hk⟩
  have HBw3:=hid (hk.boxedP HTw2.out HNE.out HBw2.out)
  have HTw3:=hid ht
  clear ht hk HPn
  clear c0 c1 c2
  have HPw4:=hid (HTw3.out.put1 [59] (by have:=HLEN.out;(try simp only [List.length_append,List.length_nil] at this ⊢);omega))
  go_wp2_with fail
  go_at_call 39
  refine HPw4.out.mono ?_
  rintro e w4 ⟨rfl,ht,hk⟩
  have HBw4:=hid (hk.boxedP HTw3.out HNE.out HBw3.out)
  have HTw4:=hid ht
  clear ht hk HPw4
  obtain ⟨c0,c1,c2,-⟩:=blk3f HBw4.out
  obtain ⟨L0,hL0⟩:∃ L,([]++putL [[112,111,111,108]]++putL [Lib.itoa pool]++putL [[59]])=L:=⟨_,rfl⟩
  have HL0:=hid hL0
  have HLN0:=hid (show L0.length+((putL (conts.flatMap tokCt)).length+(putL (threads.flatMap thT)).length)≤100000000 by
   have:=HLEN.out
   rw [←hL0]
   simp only [List.length_append,List.length_nil]
   omega)
  have HT4:=hid (by have h:=HTw4.out;rw [hL0] at h;exact h)
  clear hL0 HTw2 HTw3 HTw4 HT0 HBw2 HBw3 HBW
  go_wp2_with fail
  go_loopw [26] (fun v26 wr=>∃ i:Nat,v26=.int .i64 i∧i≤conts.length∧TS w1 b (L0++putL ((conts.take i).flatMap tokCt)) wr∧wr.heap[B1]?=some (.cells #[.int .i64 pool,.slice p1 conts.length d1,.slice p2 threads.length d2] TPr (0,0))) (fun v _=>conts.length - (intOf v).toNat)
  case atStart=>exact ⟨0,rfl,Nat.zero_le _,by have h:=HT4.out;simpa [putL] using h,HBw4.out⟩
  case round=>
   obtain ⟨i,rfl,hi,ht,hbk⟩:=hrel
   have HTI:=hid ht;have HBI:=hid hbk
   clear c0 c1 c2
   obtain ⟨c0,c1,c2,-⟩:=blk3f hbk
   clear hbk
   by_cases hlt:i<conts.length
   ·have hlti:(i:Int)<conts.length:=by omega
    have hi0:(0:Int)≤i:=by omega
    have hWi:IntKind.i64.wrap ((i:Int)+1)=(i:Int)+1:=IntWalk.i64_in _ (by omega)
    obtain ⟨g,o,hp,-,y0,y1,y2,y3⟩:=HCS2.out i hlt
    subst hp
    have y0:=ht.keep.stay y0;have y1:=ht.keep.stay y1;have y2:=ht.keep.stay y2;have y3:=ht.keep.stay y3
    obtain ⟨nm,hnm⟩:∃ s,conts[i].name=s:=⟨_,rfl⟩
    obtain ⟨kk,hki⟩:∃ s:Nat,conts[i].kind=s:=⟨conts[i].kind.toNat,by have h:=HMC.out _ (List.getElem_mem hlt);unfold mayC at h;simp only [Bool.not_eq_true',Bool.or_eq_false_iff,decide_eq_false_iff_not] at h;omega⟩
    have hkk:kk<4:=by have h:=HMC.out _ (List.getElem_mem hlt);unfold mayC at h;simp only [Bool.not_eq_true',Bool.or_eq_false_iff,decide_eq_false_iff_not] at h;omega
    obtain ⟨i2,hi2⟩:∃ s,conts[i].line=s:=⟨_,rfl⟩
    obtain ⟨i3,hi3⟩:∃ s,conts[i].col=s:=⟨_,rfl⟩
    have htok:tokCt conts[i]=[kindL.getD kk [],nm,[59]]:=by unfold tokCt;rw [hki,hnm];rfl
    rw [hki] at y0
    rw [hnm] at y1
    rw [hi2] at y2
    rw [hi3] at y3
    unfold strV at y1
    obtain ⟨W,C,hW,hC,hcb,hkc,hsc⟩:=fresh_block wr (.cells #[.int .i64 kk,.string ⟨nm.toArray⟩,.int .i64 i2,.int .i64 i3] TCt)
    have HNE2:=hid (show C≠b by have:=ht.tel.le;omega)
    have HTW:=hid (ht.on hkc)
    obtain ⟨LC,hLC⟩:∃ L,L0++putL ((conts.take i).flatMap tokCt)=L:=⟨_,rfl⟩
    rw [hLC] at HTW
    have HTK:=hid (show L0++putL ((conts.take (i+1)).flatMap tokCt)=LC++putL [kindL.getD kk [],nm,[59]] by rw [fmap_take _ hlt,putL_app,htok,←hLC,List.append_assoc])
    have HLN:=hid (show LC.length+(putL [kindL.getD kk [],nm,[59]]).length≤100000000 by
     have h1:=HLN0.out
     have h2:=fmap_le tokCt conts (i+1)
     have h3:=congrArg List.length HTK.out
     simp only [List.length_append] at h3
     omega)
    have HB2:=hid (hkc.blk HBI.out)
    have HBC:=hid hcb
    obtain ⟨n0,n1,n2,n3⟩:=blk4 hcb
    clear ht hcb hkc hsc hki hnm hi2 hi3 htok hLC
    go_upto_region 10 with fail
    rw [←hW,←hC]
    clear hW hC y0 y1 y2 y3
    obtain ⟨s,hs⟩:∃ s,kindL.getD kk []=s:=⟨_,rfl⟩
    have HIX:=hid (fun W=>run_index_kinds hkk W)
    rw [hs] at HIX HLN HTK
    clear hs hkk
    have d0:=fun W' (h:KeepBut (fun k=>k=b∨bufOf W b=some k) W.drew W')=>((KeepBut.drew _ W).trans h).cell n0 (fun e=>e.elim (fun e=>HNE2.out e) fun e=>by obtain ⟨-,-,cs,fz,hc⟩:=HTW.out.tel.buf e;have h2:=HBC.out;rw [hc] at h2;cases h2)
    have d1:=fun W' (h:KeepBut (fun k=>k=b∨bufOf W b=some k) W.drew W')=>((KeepBut.drew _ W).trans h).cell n1 (fun e=>e.elim (fun e=>HNE2.out e) fun e=>by obtain ⟨-,-,cs,fz,hc⟩:=HTW.out.tel.buf e;have h2:=HBC.out;rw [hc] at h2;cases h2)
    refine wp_ownA (by kernel_rfl) (fun k=>k=b∨bufOf W b=some k) (fun k hk=>hk.elim (fun e=>by rw [e];exact HTW.out.tel.le.2) fun e=>by obtain ⟨-,-,cs,fz,hc⟩:=HTW.out.tel.buf e;exact (Array.getElem?_eq_some_iff.1 hc).1) (fun i=>[[],[],[],[2],[1,2,3],[],[5],[1,2,3,4,5,6],[0,1,2,3,4,5,6,7]].getD i []) (fun i=>if i=8 then [7,9] else []) (fun i=>if i=8 then [9] else []) [8] (by kernel_rfl) (fun i=>if i=1 then some (sConst (.agg kindsV)) else if i=7 then some (sStr3 s nm [59]) else if i=8 then some (sTel w1.heap.size b (LC++putL [s,nm,[59]])) else none) ?_
    apply lex_quiet rfl rfl
    ·intro w' hk;go_simp;with_reducible rfl
    simp only [Act.put,LS]
    refine lex_loud rfl rfl (loud_call 41 #[] (fun w=>by kernel_rfl) ⟨default,trivial⟩ (fun g _=>stable_true _) fun w' hk _ _=>(kinds_any w').mono ?_) fun gs _=>?_
    ·rintro e w'' ⟨rfl,hq⟩
     exact ⟨default,trivial,rfl,hq.mono fun _ e=>e.elim,fun b h=>h.elim,trivial⟩
    simp only [sConst,Act.put,LS]
    apply lex_quiet rfl rfl
    ·intro w' hk;go_simp;with_reducible rfl
    simp only [Act.put,LS]
    apply lex_quiet rfl rfl
    ·intro w' hk;have e1:=d0 w' hk;go_simp;with_reducible rfl
    simp only [Act.put,LS]
    apply lex_quiet rfl rfl
    ·intro w' hk;have e2:=HIX.out w';go_simp;with_reducible rfl
    simp only [Act.put,LS]
    apply lex_quiet rfl rfl
    ·intro w' hk;go_simp;with_reducible rfl
    simp only [Act.put,LS]
    apply lex_quiet rfl rfl
    ·intro w' hk;have e1:=d1 w' hk;go_simp;with_reducible rfl
    simp only [Act.put,LS]
    refine lex_loud rfl rfl (loud_str3 s nm [59] (fun w=>by go_simp)) fun g5 _=>?_
    simp only [sStr3,Act.put,LS]
    refine lex_loud rfl rfl (loud_tel HTW.out.tel [s,nm,[59]] HLN.out g5.b 3 (fun W=>by kernel_rfl) 7 9 (by decide) (by decide) (by decide) (by decide) (fun W h=>h) rfl (fun W h=>h rfl) (fun k=>⟨fun h=>h.2,fun h=>⟨rfl,h⟩⟩)) fun g6 _=>?_
    simp only [sTel,Act.put,LS]
    refine lex_nil ?_
    intro WR hkr hF _
    obtain ⟨htr,hkr2⟩:=HTW.out.region (args:=#[]) hkr (hF 8 (by decide)).1 (hF 8 (by decide)).2
    have HBR:=hid (hkr2.boxedP HTW.out HNE.out HB2.out)
    have HTR:=hid htr;have HKR:=hid hkr2
    clear hkr hF htr hkr2 d0 d1 n0 n1 n2 n3
    go_wp2_with fail
    exact ⟨⟨i+1,by simp,by omega,by rw [HTK.out];exact HTR.out,HBR.out⟩,by simp only [intOf];omega⟩
   ·have hnl:¬(i:Int)<conts.length:=by omega
    obtain rfl:i=conts.length:=by omega
    rw [List.take_length] at ht
    obtain ⟨L1,hL1⟩:∃ L,L0++putL (conts.flatMap tokCt)=L:=⟨_,rfl⟩
    rw [hL1] at ht
    have HL1:=hid hL1
    have HLN1:=hid (show L1.length+(putL (threads.flatMap thT)).length≤100000000 by
     have h1:=HLN0.out
     rw [←hL1]
     simp only [List.length_append]
     omega)
    have HT5:=hid ht
    clear ht hlt hi hL1
    go_wp2_with fail
    go_loopw [43] (fun v43 wq=>∃ i:Nat,v43=.int .i64 i∧i≤threads.length∧TS w1 b (L1++putL ((threads.take i).flatMap thT)) wq∧wq.heap[B1]?=some (.cells #[.int .i64 pool,.slice p1 conts.length d1,.slice p2 threads.length d2] TPr (0,0))) (fun v _=>threads.length - (intOf v).toNat)
    case atStart=>exact ⟨0,rfl,Nat.zero_le _,by have h:=HT5.out;simpa [putL] using h,HBI.out⟩
    case round=>
     obtain ⟨wq,hwq⟩:∃ x,x=wr:=⟨wr,rfl⟩
     subst hwq
     obtain ⟨i,rfl,hi,ht,hbk⟩:=hrel
     have HTJ:=hid ht;have HBJ:=hid hbk
     clear c0 c1 c2 hnl
     obtain ⟨c0,c1,c2,-⟩:=blk3f hbk
     clear hbk
     by_cases hlt:i<threads.length
     ·have hlti:(i:Int)<threads.length:=by omega
      have hi0:(0:Int)≤i:=by omega
      have hWi:IntKind.i64.wrap ((i:Int)+1)=(i:Int)+1:=IntWalk.i64_in _ (by omega)
      obtain ⟨g,o,q,cq,hp,-,y0,hsk⟩:=HTS2.out i hlt
      subst hp
      have y0:=ht.keep.stay y0
      have HTK:=hid (show L1++putL ((threads.take (i+1)).flatMap thT)=(L1++putL ((threads.take i).flatMap thT))++putL [[116,104,114,101,97,100]]++putL (blockT threads[i]) by rw [fmap_take _ hlt,putL_app,show thT threads[i]=[[116,104,114,101,97,100]]++blockT threads[i] from rfl,putL_app];simp only [List.append_assoc])
      have HLN:=hid (show (L1++putL ((threads.take i).flatMap thT)).length+(putL [[116,104,114,101,97,100]]).length+(putL (blockT threads[i])).length≤100000000 by
       have h1:=HLN1.out
       have h2:=fmap_le thT threads (i+1)
       have h3:=congrArg List.length HTK.out
       simp only [List.length_append] at h3 ⊢
       omega)
      have HBLK:=hid (fun L W=>tellsB_any w1 HP1.out threads[i] (by have:=HSZ.out i hlt;have:=HHB.out;omega) (HMT.out _ (List.getElem_mem hlt)) (HN.out _ (List.getElem_mem hlt)) S q cq hsk b L W)
      clear ht hsk
      have HPw6:=hid (HTJ.out.put1 [116,104,114,101,97,100] (by have:=HLN.out;omega))
      go_wp2_with fail
      go_at_call 39
      refine HPw6.out.mono ?_
      rintro e w6 ⟨rfl,ht,hk⟩
      have HBw6:=hid (hk.boxedP HTJ.out HNE.out HBJ.out)
      have HTw6:=hid ht
      clear ht hk HPw6
      have HPB:=hid (HBLK.out _ _ HTw6.out (by have:=HLN.out;simp only [List.length_append] at this ⊢;omega))
      go_wp2_with fail
      go_at_call 42
      refine HPB.out.mono ?_
      rintro e w7 ⟨rfl,ht,hk⟩
      have HBw7:=hid (hk.boxedP HTw6.out HNE.out HBw6.out)
      have HTw7:=hid ht
      clear ht hk HPB
      go_wp2_with fail
      exact ⟨⟨i+1,by simp,by omega,by rw [HTK.out];exact HTw7.out,HBw7.out⟩,by simp only [intOf];omega⟩
     ·have hnl:¬(i:Int)<threads.length:=by omega
      obtain rfl:i=threads.length:=by omega
      rw [List.take_length] at ht
      have hEL:L1++putL (threads.flatMap thT)=LL:=by
       rw [←HL1.out,←HL0.out,HE.out]
       simp only [List.append_assoc,List.nil_append]
      rw [hEL] at ht
      have HT8:=hid ht
      have HST:=hid (tel_string ht.tel (by rw [HE.out];simp [putL]))
      clear ht hlt hi hEL
      go_wp2_with fail
      go_at_call 29
      refine HST.out.mono ?_
      rintro e w9 ⟨rfl,hk3⟩
      have HK9:=hid (HK2.out.trans (HT8.out.keep.new hk3 fun _ e=>e))
      clear hk3
      go_wp2_with fail
      go_ret
      exact ⟨rfl,HK9.out⟩
 ·rw [if_neg hck] at HCK ⊢
  obtain ⟨n0,n1,n2,-⟩:=blk3f hb1
  clear hcs hts hb1 hk1 hs1 hb hf hT hP hn hlen hck
  go_enter Tryz.func17,Tryz.ntmps17
  go_upto_region 1 with fail
  rw [←hV,←hB1]
  clear hV hB1
  go_wp2_with fail
  go_at_call 20
  refine HCK.out.mono ?_
  rintro e w1 ⟨rfl,hk2⟩
  have HK2:=hid hk2
  clear hk2
  go_wp2_with fail
  go_ret
  exact ⟨rfl,HK1.out.trans HK2.out⟩
/-
  A statement that is being read: where it lies, and the reader.
-/
abbrev zero12:Array Value:=#[.int .i64 0,.string ⟨#[]⟩,.int .i64 0,.int .i64 0,.string ⟨#[]⟩,.string ⟨#[]⟩,.string ⟨#[]⟩,.slice none 0 0,.slice none 0 0,.slice none 0 0,.int .i64 0,.int .i64 0]
/-- a statement in block B, its parts, and the reader; block B2 (if Z) is zero -/
structure SmAt (Z:Prop) (M:Nat→Prop) (w wr:World) (R el ec B B2:Nat) (its:List Item) (k sz op l cl:Int) (nm val into cont:List UInt8) (xs:List Ex) (thn els:List St):Prop where
 rd:ReaderAt wr R its el ec
 ex:∃ p1 c1 p2 c2 p3 c3,wr.heap[B]?=some (.cells #[.int .i64 k,.string ⟨nm.toArray⟩,.int .i64 sz,.int .i64 op,.string ⟨val.toArray⟩,.string ⟨into.toArray⟩,.string ⟨cont.toArray⟩,.slice p1 xs.length c1,.slice p2 thn.length c2,.slice p3 els.length c3,.int .i64 l,.int .i64 cl] TSm (0,0))∧
  KidsAt wr (fun b=>w.heap.size≤b∧b≠B∧b≠B2) p1 0 xs∧StsAt wr (fun b=>w.heap.size≤b∧b≠B∧b≠B2) p2 0 thn∧StsAt wr (fun b=>w.heap.size≤b∧b≠B∧b≠B2) p3 0 els
 b2:Z→wr.heap[B2]?=some (.cells zero12 TSm (0,0))∧B2≠R∧B2≠B
 keep:KeepBut M w wr
 lt:R<w.heap.size∧R<B∧B<wr.heap.size∧B2<wr.heap.size
 hm:∀ b,b=R∨b=B→M b∨w.heap.size≤b
section
variable {Z : Prop} {M : Nat → Prop} {w wr w' : World} {R el ec B B2 : Nat} {its r : List Item} {k sz op l cl k' sz' op' : Int} {nm val into cont nm' val' into' cont' : List UInt8} {xs xs' : List Ex} {thn els thn' els' : List St}
/-- the reader has gone on -/
theorem SmAt.call (h:SmAt Z M w wr R el ec B B2 its k sz op l cl nm val into cont xs thn els) (hr:ReaderAt w' R r el ec) (hk:KeepBut (fun b=>b=R) wr w'):SmAt Z M w w' R el ec B B2 r k sz op l cl nm val into cont xs thn els:=by
 obtain ⟨p1,c1,p2,c2,p3,c3,h1,h2,h3,h4⟩:=h.ex
 have hlt:=h.lt
 have hs:=hk.size
 have hno:∀ b,(w.heap.size≤b∧b≠B∧b≠B2)→¬b=R:=fun b hb e=>by have:=hb.1;omega
 refine ⟨hr,⟨p1,c1,p2,c2,p3,c3,hk.blkE h1 fun e=>by have e:B=R:=e;omega,h2.keep hk hno,h3.keep hk hno,h4.keep hk hno⟩,fun z=>?_,h.keep.newM hk fun b e=>h.hm b (.inl e),⟨hlt.1,hlt.2.1,by omega,by omega⟩,h.hm⟩
 exact ⟨hk.blkE (h.b2 z).1 (h.b2 z).2.1,(h.b2 z).2⟩
theorem SmAt.stay (h:SmAt Z M w wr R el ec B B2 its k sz op l cl nm val into cont xs thn els) (hk:KeepBut (fun _=>False) wr w'):SmAt Z M w w' R el ec B B2 its k sz op l cl nm val into cont xs thn els:=
 h.call (h.rd.keep hk fun _ _ e=>e) (hk.mono fun _ e=>e.elim)
/-- the statement's cells have been written -/
theorem SmAt.put (h:SmAt Z M w wr R el ec B B2 its k sz op l cl nm val into cont xs thn els) (hk:KeepBut (fun b=>b=B) wr w') {p1 p2 p3:Option Addr} {c1 c2 c3:Nat}
  (hb:w'.heap[B]?=some (.cells #[.int .i64 k',.string ⟨nm'.toArray⟩,.int .i64 sz',.int .i64 op',.string ⟨val'.toArray⟩,.string ⟨into'.toArray⟩,.string ⟨cont'.toArray⟩,.slice p1 xs'.length c1,.slice p2 thn'.length c2,.slice p3 els'.length c3,.int .i64 l,.int .i64 cl] TSm (0,0)))
  (hx:KidsAt wr (fun b=>w.heap.size≤b∧b≠B∧b≠B2) p1 0 xs') (ht:StsAt wr (fun b=>w.heap.size≤b∧b≠B∧b≠B2) p2 0 thn') (he:StsAt wr (fun b=>w.heap.size≤b∧b≠B∧b≠B2) p3 0 els'):
  SmAt Z M w w' R el ec B B2 its k' sz' op' l cl nm' val' into' cont' xs' thn' els':=by
 have hlt:=h.lt
 have hs:=hk.size
 have hno:∀ b,(w.heap.size≤b∧b≠B∧b≠B2)→¬b=B:=fun b hb e=>hb.2.1 e
 have hrd:=h.rd
 refine ⟨?_,⟨p1,c1,p2,c2,p3,c3,hb,hx.keep hk hno,ht.keep hk hno,he.keep hk hno⟩,fun z=>?_,h.keep.newM hk fun b e=>h.hm b (.inr e),⟨hlt.1,hlt.2.1,by omega,by omega⟩,h.hm⟩
 ·exact hrd.keep hk fun b hb e=>by have e:b=B:=e;omega
 ·exact ⟨hk.blkE (h.b2 z).1 fun e=>(h.b2 z).2.2 e,(h.b2 z).2⟩
/-- an expression has been read, and lies in a block of its own -/
theorem SmAt.expr {w1 w2:World} {G:Nat} {vs:List Value} {x:Ex} (h:SmAt Z M w wr R el ec B B2 its k sz op l cl nm val into cont xs thn els) (hex:ExAt w1 (fun b=>wr.heap.size≤b) vs x) (hr:ReaderAt w1 R r el ec) (hk:KeepBut (fun b=>b=R) wr w1) (hg:KeepBut (fun _=>False) w1 w2) (hb:w2.heap[G]?=some (.cells vs.toArray TEx (0,0))) (hG:w1.heap.size≤G):
  SmAt Z M w w2 R el ec B B2 r k sz op l cl nm val into cont xs thn els∧KidsAt w2 (fun b=>w.heap.size≤b∧b≠B∧b≠B2) (some ⟨G,0,none⟩) 0 [x]:=by
 have hlt:=h.lt
 have hs:=hk.size
 have hs0:=h.keep.size
 refine ⟨(h.call hr hk).stay hg,kids_one hb ⟨by omega,by omega,by omega⟩ ((hex.keep hg fun _ _ e=>e).mono fun b hb=>?_)⟩
 have hb:wr.heap.size≤b:=hb
 exact ⟨by omega,by omega,by omega⟩
theorem SmAt.exA {w1 w2:World} {vs:List Value} {x:Ex} (h:SmAt Z M w wr R el ec B B2 its k sz op l cl nm val into cont xs thn els) (hex:ExAt w1 (fun b=>wr.heap.size≤b) vs x) (hr:ReaderAt w1 R r el ec) (hk:KeepBut (fun b=>b=R) wr w1) (hg:KeepBut (fun _=>False) w1 w2):
  SmAt Z M w w2 R el ec B B2 r k sz op l cl nm val into cont xs thn els∧ExAt w2 (fun b=>w.heap.size≤b∧b≠B∧b≠B2) vs x:=by
 have hlt:=h.lt
 have hs0:=h.keep.size
 refine ⟨(h.call hr hk).stay hg,(hex.keep hg fun _ _ e=>e).mono fun b hb=>?_⟩
 have hb:wr.heap.size≤b:=hb
 exact ⟨by omega,by omega,by omega⟩
/-- a block of statements has been read -/
theorem SmAt.block {w1:World} {p:Option Addr} {q:List St} (h:SmAt Z M w wr R el ec B B2 its k sz op l cl nm val into cont xs thn els) (hst:StsAt w1 (fun b=>wr.heap.size≤b) p 0 q) (hr:ReaderAt w1 R r el ec) (hk:KeepBut (fun b=>b=R) wr w1):
  SmAt Z M w w1 R el ec B B2 r k sz op l cl nm val into cont xs thn els∧StsAt w1 (fun b=>w.heap.size≤b∧b≠B∧b≠B2) p 0 q:=by
 have hlt:=h.lt
 have hs0:=h.keep.size
 refine ⟨h.call hr hk,hst.mono fun b hb=>?_⟩
 have hb:wr.heap.size≤b:=hb
 exact ⟨by omega,by omega,by omega⟩
end
/-- what has been read is a statement -/
theorem SmAt.st {Z:Prop} {M:Nat→Prop} {w wr:World} {R el ec B B2:Nat} {its:List Item} {k sz op l cl:Nat} {nm val into cont:List UInt8} {xs:List Ex} {thn els:List St} (h:SmAt Z M w wr R el ec B B2 its k sz op l cl nm val into cont xs thn els):
  ∃ vs:List Value,wr.heap[B]?=some (.cells vs.toArray TSm (0,0))∧StAt wr (fun b=>w.heap.size≤b∧b≠B∧b≠B2) vs (.mk k nm sz op val into cont xs thn els l cl):=by
 obtain ⟨p1,c1,p2,c2,p3,c3,h1,h2,h3,h4⟩:=h.ex
 refine ⟨_,h1,?_⟩
 unfold StAt
 exact ⟨p1,c1,p2,c2,p3,c3,rfl,h2,h3,h4⟩
/-
  Package parse: plain, the forms that plain_two leaves open.
-/
theorem field_kind (a b c d e:Value) (w:World):(Instr.field TTk (.agg #[a,b,c,d,e]) 0).run Tryz.prog w=.ok a w:=by kernel_rfl
/-- a statement's block that is zero but for its place -/
theorem sm_start {w:World} {R el ec Bs l cl:Nat} {its:List Item} (hr:ReaderAt w R its el ec) (hB:w.heap[Bs]?=some (.cells (stC 0 0 0 [] [] [] [] (.slice none 0 0) l cl) TSm (0,0))) (hRB:R<Bs):
  SmAt False (fun b=>b=R∨b=Bs) w w R el ec Bs R its 0 0 0 l cl [] [] [] [] [] [] []:=by
 unfold stC at hB
 exact ⟨hr,⟨none,0,none,0,none,0,hB,by unfold KidsAt;trivial,by unfold StsAt;trivial,by unfold StsAt;trivial⟩,fun z=>z.elim,KeepBut.refl _ _,⟨hr.lt,hRB,(Array.getElem?_eq_some_iff.1 hB).1,hr.lt⟩,fun b e=>.inl e⟩
set_option maxRecDepth 4000 in
set_option maxHeartbeats 32000000 in
theorem plain_set (w:World) (R el ec f Bs:Nat) (tn:Item) (r0 r:List Item) (l cl:Nat) (t1:Item) (r1 r2:List Item) (x:Ex) (h91:headIs r0 [91]=false) (h44:headIs r0 [44]=false) (hm1:mustT [[61]] r0=some (t1::r1)) (hk1:t1.tok.kind≠1) (hx1:exP f (t1::r1)=some (x,r2)) (hm2:mustT [[59]] r2=some r) (hr:ReaderAt w R (tn::r0) el ec) (hB:w.heap[Bs]?=some (.cells (stC 0 0 0 [] [] [] [] (.slice none 0 0) l cl) TSm (0,0))) (hRB:R<Bs) (hk0:tn.tok.kind=2):
  Calls Tryz.prog 120 #[rdV R,.pointer (some ⟨Bs,0,none⟩)] w fun e w'=>e=.returned (.tuple #[])∧ReaderAt w' R r el ec∧KeepBut (fun b=>b=R∨b=Bs) w w'∧
   ∃ vs,w'.heap[Bs]?=some (.cells vs.toArray TSm (0,0))∧StAt w' (fun b=>w.heap.size≤b) vs (.mk 3 tn.tok.text 0 0 [] [] [] [x] [] [] l cl):=by
 have HS0:=hid (sm_start hr hB hRB)
 have HNM:=hid (name_str hr hk0)
 obtain ⟨T,hT⟩:∃ T,tn.tok.text=T:=⟨_,rfl⟩
 rw [hT] at HNM ⊢
 have Hh91:=hid h91
 have Hh44:=hid h44
 have Hhm1:=hid hm1
 have Hhx1:=hid hx1
 have Hhm2:=hid hm2
 obtain ⟨tk,htk⟩:∃ n:Int,(t1.tok.kind:Int)=n:=⟨_,rfl⟩
 have hkk:(tk==1)=false:=by rw [beq_eq_false_iff_ne];omega
 have HTK:=hid htk
 clear hr hB hRB hk0 hT h91 h44 hm1 hx1 hm2 htk hk1
 go_enter Tryz.func120,Tryz.ntmps120
 go_wp2_with fail
 go_at_call 79
 refine (HNM.out).mono ?_
 rintro e W1 ⟨rfl,hr,hk⟩
 have HS1:=hid (HS0.out.call hr hk)
 clear hr hk
 have HQ:=hid (by have h:=may_any W1 R _ el ec (HS1.out.rd) [91];rw [Hh91.out,if_neg Bool.false_ne_true] at h;exact h)
 go_wp2_with fail
 go_at_call 101
 refine (HQ.out).mono ?_
 rintro e W2 ⟨rfl,hr,hk⟩
 have HS2:=hid (HS1.out.call hr hk)
 clear hr hk
 have HQ:=hid (by have h:=may_any W2 R _ el ec (HS2.out.rd) [44];rw [Hh44.out,if_neg Bool.false_ne_true] at h;exact h)
 go_wp2_with fail
 go_at_call 101
 refine (HQ.out).mono ?_
 rintro e W3 ⟨rfl,hr,hk⟩
 have HS3:=hid (HS2.out.call hr hk)
 clear hr hk
 have HQ:=hid (must1 HS3.out.rd [61] _ Hhm1.out)
 go_wp2_with fail
 go_at_call 76
 refine (HQ.out).mono ?_
 rintro e W4 ⟨rfl,hr,hk⟩
 have HS4:=hid (HS3.out.call hr hk)
 clear hr hk
 obtain ⟨T1,hT1⟩:∃ T,t1.tok.text=T:=⟨_,rfl⟩
 obtain ⟨tq,htq⟩:∃ n:Int,(t1.tok.num:Int)=n:=⟨_,rfl⟩
 obtain ⟨tl,htl⟩:∃ n:Int,(t1.line:Int)=n:=⟨_,rfl⟩
 obtain ⟨tcl,htcl⟩:∃ n:Int,(t1.col:Int)=n:=⟨_,rfl⟩
 have HQ:=hid (by have h:=peek_cons HS4.out.rd;rw [HTK.out,hT1,htq,htl,htcl] at h;exact h)
 clear hT1 htq htl htcl
 go_wp2_with fail
 go_at_call 74
 refine HQ.out.mono ?_
 rintro e W5 ⟨rfl,hk⟩
 have HS5:=hid (HS4.out.stay hk)
 clear hk
 have hfk:=field_kind (.int .i64 tk) (.string ⟨T1.toArray⟩) (.int .i64 tq) (.int .i64 tl) (.int .i64 tcl) W5
 have HQ:=hid (exP_reads R el ec f W5 W5 _ x _ (KeepBut.refl _ _) HS5.out.rd Hhx1.out)
 go_wp2_with fail
 go_at_call 32
 refine HQ.out.mono ?_
 rintro e X6 ⟨vs,rfl,hex,hr,hk⟩
 obtain ⟨xk,xo,xn,xS,xp,xm,xc,xl,xcl,rfl⟩:=ex_form hex
 obtain ⟨Y6,G6,hY,hG,hbG,hkG,hsG⟩:=fresh_block X6 (.cells #[.int .i64 xk,.int .i64 xo,.int .i64 xn,.string xS,.slice xp xm xc,.int .i64 xl,.int .i64 xcl] TEx)
 obtain ⟨hs,hkd⟩:=HS5.out.expr hex hr hk hkG hbG (by omega)
 have HSY:=hid hs;have HKD:=hid hkd
 obtain ⟨p1,c1,p2,c2,p3,c3,hb,hx,ht,he⟩:=(HS5.out.call hr hk).ex
 have hb:=(KeepBut.alloc (fun _=>False) X6 (.cells #[.int .i64 xk,.int .i64 xo,.int .i64 xn,.string xS,.slice xp xm xc,.int .i64 xl,.int .i64 xcl] TEx)).blk hb
 obtain ⟨n0,n1,-,-,-,-,-,n7,-,-,-,-⟩:=blk12 hb
 have f0:=frz12 hb 0
 have f1:=frz12 hb 1
 have f7:=frz12 hb 7
 clear hb hx ht he hs hkd hex hr hk hbG hkG hsG
 go_upto_region 16 with fail
 rw [←hY,←hG]
 clear hY hG
 clear n0 f0 n1 f1 n7 f7
 obtain ⟨p1,c1,p2,c2,p3,c3,hb,hx,ht,he⟩:=HSY.out.ex
 have HB:=hid hb;have HX:=hid hx;have HT:=hid ht;have HE:=hid he
 clear hb hx ht he
 obtain ⟨V6_0,hV0,hb0,hk0⟩:=s_put0 (HB.out) (.int .i64 3)
 rw [←hV0]
 obtain ⟨V6_1,hV1,hb1,hk1⟩:=s_put1 (hb0) (.string ⟨T.toArray⟩)
 rw [←hV1]
 obtain ⟨W6,hV2,hb2,hk2⟩:=s_put7 (hb1) (.slice (some ⟨G6,0,none⟩) 1 1)
 rw [←hV2]
 have HS6:=hid (HSY.out.put (xs':=[x]) (((hk0).trans hk1).trans hk2) hb2 (HKD.out) (HT.out) (HE.out))
 clear hV0 hb0 hk0 hV1 hb1 hk1 hV2 hb2 hk2 HB HX HT HE
 clear HSY HKD
 have HQ:=hid (must1 HS6.out.rd [59] _ Hhm2.out)
 go_wp2_with fail
 go_at_call 76
 refine (HQ.out).mono ?_
 rintro e W7 ⟨rfl,hr,hk⟩
 have HS7:=hid (HS6.out.call hr hk)
 clear hr hk
 obtain ⟨vs,hv,hst⟩:=HS7.out.st
 have HV:=hid hv;have HST:=hid (hst.mono (S':=fun b=>w.heap.size≤b) fun b hb=>hb.1)
 clear hv hst
 go_wp2_with fail
 go_end0
 exact ⟨rfl,HS7.out.rd,HS7.out.keep,vs,HV.out,HST.out⟩
set_option maxRecDepth 4000 in
set_option maxHeartbeats 32000000 in
theorem plain_put (w:World) (R el ec f Bs:Nat) (tn:Item) (r0 r:List Item) (l cl:Nat) (r1 r2 r3:List Item) (a x:Ex) (h91:headIs r0 [91]=true) (hx1:exP f r0.tail=some (a,r1)) (hm1:mustT [[93],[61]] r1=some r2) (hx2:exP f r2=some (x,r3)) (hm2:mustT [[59]] r3=some r) (hr:ReaderAt w R (tn::r0) el ec) (hB:w.heap[Bs]?=some (.cells (stC 0 0 0 [] [] [] [] (.slice none 0 0) l cl) TSm (0,0))) (hRB:R<Bs) (hk0:tn.tok.kind=2):
  Calls Tryz.prog 120 #[rdV R,.pointer (some ⟨Bs,0,none⟩)] w fun e w'=>e=.returned (.tuple #[])∧ReaderAt w' R r el ec∧KeepBut (fun b=>b=R∨b=Bs) w w'∧
   ∃ vs,w'.heap[Bs]?=some (.cells vs.toArray TSm (0,0))∧StAt w' (fun b=>w.heap.size≤b) vs (.mk 4 tn.tok.text 0 0 [] [] [] [a,x] [] [] l cl):=by
 have HS0:=hid (sm_start hr hB hRB)
 have HNM:=hid (name_str hr hk0)
 obtain ⟨T,hT⟩:∃ T,tn.tok.text=T:=⟨_,rfl⟩
 rw [hT] at HNM ⊢
 have Hh91:=hid h91
 have Hhm1:=hid hm1
 have Hhx1:=hid hx1
 have Hhm2:=hid hm2
 have Hhx2:=hid hx2
 clear hr hB hRB hk0 hT h91 hx1 hm1 hx2 hm2
 go_enter Tryz.func120,Tryz.ntmps120
 go_wp2_with fail
 go_at_call 79
 refine (HNM.out).mono ?_
 rintro e W1 ⟨rfl,hr,hk⟩
 have HS1:=hid (HS0.out.call hr hk)
 clear hr hk
 have HQ:=hid (by have h:=may_any W1 R _ el ec (HS1.out.rd) [91];rw [Hh91.out,if_pos rfl] at h;exact h)
 go_wp2_with fail
 go_at_call 101
 refine (HQ.out).mono ?_
 rintro e W2 ⟨rfl,hr,hk⟩
 have HS2:=hid (HS1.out.call hr hk)
 clear hr hk
 obtain ⟨p1,c1,p2,c2,p3,c3,hb,hx,ht,he⟩:=HS2.out.ex
 have HB:=hid hb;have HX:=hid hx;have HT:=hid ht;have HE:=hid he
 obtain ⟨n0,n1,-,-,-,-,-,-,-,-,-,-⟩:=blk12 hb
 have f0:=frz12 hb 0
 have f1:=frz12 hb 1
 clear hb hx ht he
 go_upto_region 3 with fail
 clear n0 f0 n1 f1
 obtain ⟨V3_0,hV0,hb0,hk0⟩:=s_put0 (HB.out) (.int .i64 4)
 rw [←hV0]
 obtain ⟨W3,hV1,hb1,hk1⟩:=s_put1 (hb0) (.string ⟨T.toArray⟩)
 rw [←hV1]
 have HS3:=hid (HS2.out.put ((hk0).trans hk1) hb1 (HX.out) (HT.out) (HE.out))
 clear hV0 hb0 hk0 hV1 hb1 hk1 HB HX HT HE
 have HQ:=hid (exP_reads R el ec f W3 W3 _ a r1 (KeepBut.refl _ _) HS3.out.rd Hhx1.out)
 go_wp2_with fail
 go_at_call 32
 refine HQ.out.mono ?_
 rintro e W4 ⟨vs,rfl,hex,hr,hk⟩
 obtain ⟨ak,ao,an,aS,ap,am,ac,al,acl,rfl⟩:=ex_form hex
 obtain ⟨W5,A,hW5,hA,hbA,hkA,hsA⟩:=fresh_block W4 (.cells #[.int .i64 ak,.int .i64 ao,.int .i64 an,.string aS,.slice ap am ac,.int .i64 al,.int .i64 acl] TEx)
 obtain ⟨hs5,hxa⟩:=HS3.out.exA hex hr hk hkA
 have HS5:=hid hs5;have HBA:=hid hbA;have HXA:=hid hxa
 have HNA:=hid (show A≠R∧A≠Bs∧A<W5.heap.size by have:=HS3.out.lt;have:=HS3.out.keep.size;have:=hk.size;refine ⟨?_,?_,(Array.getElem?_eq_some_iff.1 hbA).1⟩ <;> omega)
 clear hex hr hk hbA hkA hsA hs5 hxa
 go_upto_region 4 with fail
 rw [←hW5,←hA]
 clear hW5 hA
 have HQ:=hid (must2 HS5.out.rd [93] [61] _ Hhm1.out)
 go_wp2_with fail
 go_at_call 76
 refine HQ.out.mono ?_
 rintro e W6 ⟨rfl,hr,hk⟩
 have HS6:=hid (HS5.out.call hr hk)
 have HA6:=hid (hk.blkE HBA.out fun e=>HNA.out.1 e)
 have HXA6:=hid (HXA.out.keep hk fun b hb e=>by have e:b=R:=e;have:=HS5.out.lt;have:=hb.1;omega)
 clear hr hk
 go_upto_region 5 with fail
 obtain ⟨pq,cq,hR,-⟩:=HS6.out.rd.ex
 obtain ⟨q1,d1,q2,d2,q3,d3,hB,hkx,hkt,hke⟩:=HS6.out.ex
 have HRO:=hid hR;have HBO:=hid hB;have HKT:=hid hkt;have HKE:=hid hke
 have HN6:=hid (show R<w.heap.size∧R<Bs∧Bs<W6.heap.size∧w.heap.size≤W6.heap.size∧A<W6.heap.size by have:=HS6.out.lt;have:=HS6.out.keep.size;have:=(Array.getElem?_eq_some_iff.1 HA6.out).1;omega)
 have HNX:=hid (show ∀ w',KeepBut (fun b=>b=R∨b=Bs) W6.drew w'→w'.heap[R]?=some (.cells #[.slice pq r2.length cq,.int .i64 0,.string ⟨#[]⟩,.int .i64 0,.int .i64 el,.int .i64 ec] TRd (0,0))→ReaderAt w' R r2 el ec from fun w' hk hr=>HS6.out.rd.same (Nat.le_trans (KeepBut.drew (fun _=>False) W6).size hk.size) fun b hb=>by
  by_cases e:b=R
  ·rw [e,hr,HRO.out]
  ·exact ((KeepBut.drew _ W6).trans hk).block b (by have:=HN6.out;omega) fun h=>by have:=HN6.out;omega)
 obtain ⟨zk,zo,zn,zm,zl,zc,zks⟩:=x
 have HX2:=hid Hhx2.out
 obtain ⟨S3,hS3⟩:∃ S,strV zm=.string S:=⟨_,rfl⟩
 have HS3E:=hid hS3
 clear hR hB hkx hkt hke hS3
 refine wp_ownB (by kernel_rfl) R Bs _ _ HRO.out HBO.out (by have:=HN6.out;omega) (fun i=>[[],[],[],[2],[1,2,3],[0,1,2,3,4],[0,1,2,3,4,5],[0,1,2,3,4,5,6]].getD i []) (fun i=>if i=3 then [8] else if i=7 then [9] else []) (fun i=>if i=3 then [8] else if i=7 then [9] else []) [3,4,7] (by kernel_rfl)
  (fun i=>if i=3 then some { ok:=fun _ g=>W6.heap.size≤g.b,val:=fun _ g=>.agg #[.int .i64 zk,.int .i64 zo,.int .i64 zn,.string S3,.slice g.p zks.length g.c,.int .i64 zl,.int .i64 zc],fp:=fun _ g b=>b=R∨(g.b≤b∧b<g.d),post:=fun _ g w'=>KidsAt w' (fun b=>g.b≤b∧b<g.d) g.p 0 zks∧ReaderAt w' R r3 el ec }
   else if i=4 then some (sTwo TEx) else if i=7 then some (sCellA Bs 7 TSm #[.int .i64 4,.string ⟨T.toArray⟩,.int .i64 0,.int .i64 0,.string ⟨([]:List UInt8).toArray⟩,.string ⟨([]:List UInt8).toArray⟩,.string ⟨([]:List UInt8).toArray⟩,.slice q1 ([]:List Ex).length d1,.slice q2 ([]:List St).length d2,.slice q3 ([]:List St).length d3,.int .i64 l,.int .i64 cl]) else none) ?_
 apply lex_quiet rfl rfl
 ·intro w' hk;go_simp;with_reducible rfl
 simp only [Act.put,LS]
 refine lex_quiet rfl rfl (v:=.agg #[.int .i64 ak,.int .i64 ao,.int .i64 an,.string aS,.slice ap am ac,.int .i64 al,.int .i64 acl]) (fun w' hk=>by
  have hb:=((KeepBut.drew (fun b=>b=R∨b=Bs) W6).trans hk).blkE HA6.out (fun e=>by have:=HNA.out;rcases e with e | e <;> omega)
  obtain ⟨x0,x1,x2,x3,x4,x5,x6,-⟩:=blk7 hb
  go_simp <;> rfl) ?_
 simp only [Act.put,LS]
 apply lex_quiet rfl rfl
 ·intro w' hk;go_simp;with_reducible rfl
 simp only [Act.put,LS]
 refine lex_loud rfl rfl (loud_call 32 #[rdV R] (fun w=>by kernel_rfl) ⟨{ b:=W6.heap.size },Nat.le_refl _⟩ (fun g hg w w' h1 h2 hs hb hp=>⟨hp.1.same fun b hb'=>hb b (.inr hb'),hp.2.same hs fun b hb'=>by
   by_cases e:b=R
   ·exact hb b (.inl e)
   ·have:=HN6.out
    rw [h1.block b (by show b<W6.heap.size;omega) (fun h=>by omega),h2.block b (by show b<W6.heap.size;omega) (fun h=>by omega)]⟩) fun w' hk hav _=>(exP_reads R el ec f w' w' r2 _ r3 (KeepBut.refl _ _) (HNX.out w' hk (hav 8 (by decide)).1) HX2.out).mono ?_) fun g3 hg3=>?_
 ·rintro e w'' ⟨vs2,rfl,hex2,hr2,hk2⟩
  have hex3:=hex2.inHeap
  unfold ExAt at hex3
  obtain ⟨p2,cc2,hvs2,hkids⟩:=hex3
  rw [HS3E.out] at hvs2
  subst hvs2
  exact ⟨{ p:=p2,c:=cc2,b:=w'.heap.size,d:=w''.heap.size },Nat.le_trans (KeepBut.drew (fun _=>False) W6).size hk.size,rfl,hk2.mono fun b e=>⟨8,by decide,.inl ⟨rfl,e⟩⟩,fun b hb=>by
   rcases hb with e | hb
   ·exact ⟨.inr ⟨8,by decide,.inl ⟨rfl,e⟩⟩,by rw [e];exact hr2.lt⟩
   ·exact ⟨.inl hb.1,hb.2⟩,hkids,hr2⟩
 simp only [Act.put,LS]
 refine lex_loud rfl rfl (loud_two TEx 22 (.tmp 23) (.tmp 25) rfl #[.int .i64 ak,.int .i64 ao,.int .i64 an,.string aS,.slice ap am ac,.int .i64 al,.int .i64 acl] #[.int .i64 zk,.int .i64 zo,.int .i64 zn,.string S3,.slice g3.p zks.length g3.c,.int .i64 zl,.int .i64 zc] rfl rfl (fun w=>by go_simp)) fun g4 _=>?_
 simp only [sTwo,Act.put,LS]
 apply lex_quiet rfl rfl
 ·intro w' hk;go_simp;with_reducible rfl
 simp only [Act.put,LS]
 apply lex_quiet rfl rfl
 ·intro w' hk;go_simp;with_reducible rfl
 simp only [Act.put,LS]
 refine lex_loud rfl rfl (loud_cellA Bs 7 TSm #[.int .i64 4,.string ⟨T.toArray⟩,.int .i64 0,.int .i64 0,.string ⟨([]:List UInt8).toArray⟩,.string ⟨([]:List UInt8).toArray⟩,.string ⟨([]:List UInt8).toArray⟩,.slice q1 ([]:List Ex).length d1,.slice q2 ([]:List St).length d2,.slice q3 ([]:List St).length d3,.int .i64 l,.int .i64 cl] (.slice (some ⟨g4.b,0,none⟩) 2 2) (put_args rfl rfl) (fun w u hc hf=>by go_simp <;> rfl) 9 (by decide) (by decide) (fun w h=>h) (.inr ⟨rfl,rfl⟩) (by show 7<12;decide)) fun g7 _=>?_
 simp only [sCellA,Act.put,LS]
 refine lex_nil ?_
 intro W7 hk9 hF hdis
 have f3:KidsAt W7 (fun b=>g3.b≤b∧b<g3.d) g3.p 0 zks∧ReaderAt W7 R r3 el ec:=(hF 3 (by decide)).1
 have f4:W7.heap[g4.b]?=some (.cells (#[.int .i64 ak,.int .i64 ao,.int .i64 an,.string aS,.slice ap am ac,.int .i64 al,.int .i64 acl]++#[.int .i64 zk,.int .i64 zo,.int .i64 zn,.string S3,.slice g3.p zks.length g3.c,.int .i64 zl,.int .i64 zc]) TEx (0,0)):=(hF 4 (by decide)).1 _ _ (two_args0 rfl rfl) (two_args1 rfl rfl)
 have f7:W7.heap[Bs]?=some (.cells #[.int .i64 4,.string ⟨T.toArray⟩,.int .i64 0,.int .i64 0,.string ⟨([]:List UInt8).toArray⟩,.string ⟨([]:List UInt8).toArray⟩,.string ⟨([]:List UInt8).toArray⟩,.slice (some ⟨g4.b,0,none⟩) 2 2,.slice q2 ([]:List St).length d2,.slice q3 ([]:List St).length d3,.int .i64 l,.int .i64 cl] TSm (0,0)):=(hF 7 (by decide)).1 _ (put_args rfl rfl)
 have hg3':W6.heap.size≤g3.b:=hg3
 have d4R:g4.b≠R:=fun e=>hdis 3 (by decide) 4 (by decide) (by decide) R (.inl rfl) e.symm
 have d4B:g4.b≠Bs:=fun e=>hdis 4 (by decide) 7 (by decide) (by decide) Bs e.symm rfl
 have b4:W6.heap.size≤g4.b:=((hF 4 (by decide)).2 g4.b rfl).2.resolve_right fun h=>h.elim d4R d4B
 have hkM:=(KeepBut.drew (fun b=>b=R∨b=Bs) W6).trans hk9
 have hn6:=HN6.out
 have hnoM:∀ b,b≠R→b≠Bs→¬(b=R∨b=Bs):=fun b e1 e2 e=>e.elim e1 e2
 have HS7:=hid (show SmAt False (fun b=>b=R∨b=Bs) w W7 R el ec Bs R r3 4 0 0 l cl T [] [] [] [a,.mk zk zo zn zm zl zc zks] [] [] from by
  refine ⟨f3.2,⟨some ⟨g4.b,0,none⟩,2,q2,d2,q3,d3,f7,?_,HKT.out.keep hkM fun b hb=>hnoM b (by have:=hb.1;omega) hb.2.1,HKE.out.keep hkM fun b hb=>hnoM b (by have:=hb.1;omega) hb.2.1⟩,fun z=>z.elim,HS6.out.keep.trans hkM,⟨hn6.1,hn6.2.1,by have:=hkM.size;omega,by have:=hkM.size;omega⟩,fun b e=>.inl e⟩
  refine kids_two (vs:=[.int .i64 ak,.int .i64 ao,.int .i64 an,.string aS,.slice ap am ac,.int .i64 al,.int .i64 acl]) (us:=[.int .i64 zk,.int .i64 zo,.int .i64 zn,.string S3,.slice g3.p zks.length g3.c,.int .i64 zl,.int .i64 zc]) f4 ⟨by omega,d4B,d4R⟩ rfl (HXA6.out.keep hkM fun b hb=>hnoM b hb.2.2 hb.2.1) ?_
  unfold ExAt
  exact ⟨g3.p,g3.c,by rw [HS3E.out],f3.1.mono fun b hb=>⟨by omega,by omega,by omega⟩⟩)
 clear f3 f4 f7 hg3' d4R d4B b4 hkM hn6 hnoM hF hdis hk9
 have HQ:=hid (must1 HS7.out.rd [59] _ Hhm2.out)
 go_wp2_with fail
 go_at_call 76
 refine (HQ.out).mono ?_
 rintro e W8 ⟨rfl,hr,hk⟩
 have HS8:=hid (HS7.out.call hr hk)
 clear hr hk
 obtain ⟨vs,hv,hst⟩:=HS8.out.st
 have HV:=hid hv;have HST:=hid (hst.mono (S':=fun b=>w.heap.size≤b) fun b hb=>hb.1)
 clear hv hst
 go_wp2_with fail
 (try simp only [Exit.inBlock,Exit.then]);refine bodyPost_ret (results_none rfl _ _ _) rfl ?_
 exact ⟨rfl,HS8.out.rd,HS8.out.keep,vs,HV.out,HST.out⟩
set_option maxRecDepth 4000 in
set_option maxHeartbeats 32000000 in
theorem plain_one (w:World) (R el ec f Bs:Nat) (tn:Item) (r0 r:List Item) (l cl:Nat) (t1:Item) (r1:List Item) (op:Nat) (c:List UInt8) (xs:List Ex) (h91:headIs r0 [91]=false) (h44:headIs r0 [44]=false) (hm1:mustT [[61]] r0=some (t1::r1)) (hk1:t1.tok.kind=1) (hx1:callP f [] (t1::r1)=some ((op,c,xs),r)) (hr:ReaderAt w R (tn::r0) el ec) (hB:w.heap[Bs]?=some (.cells (stC 0 0 0 [] [] [] [] (.slice none 0 0) l cl) TSm (0,0))) (hRB:R<Bs) (hk0:tn.tok.kind=2):
  Calls Tryz.prog 120 #[rdV R,.pointer (some ⟨Bs,0,none⟩)] w fun e w'=>e=.returned (.tuple #[])∧ReaderAt w' R r el ec∧KeepBut (fun b=>b=R∨b=Bs) w w'∧
   ∃ vs,w'.heap[Bs]?=some (.cells vs.toArray TSm (0,0))∧StAt w' (fun b=>w.heap.size≤b) vs (.mk 9 [] 0 op [] tn.tok.text c xs [] [] l cl):=by
 have HRB:=hid hRB;have HR0:=hid hr;have HK0:=hid (KeepBut.refl (fun b=>b=R∨b=Bs) w);have HB0:=hid hB
 have HN0:=hid (Array.getElem?_eq_some_iff.1 hB).1
 unfold stC at HB0
 have HNM:=hid (name_str hr hk0)
 obtain ⟨T,hT⟩:∃ T,tn.tok.text=T:=⟨_,rfl⟩
 rw [hT] at HNM ⊢
 have Hh91:=hid h91
 have Hh44:=hid h44
 have Hhm1:=hid hm1
 have Hhx1:=hid hx1
 obtain ⟨tk,htk⟩:∃ n:Int,(t1.tok.kind:Int)=n:=⟨_,rfl⟩
 have hkk:(tk==1)=true:=by rw [beq_iff_eq];omega
 have HTK:=hid htk
 clear hr hB hRB hk0 hT h91 h44 hm1 hx1 htk hk1
 go_enter Tryz.func120,Tryz.ntmps120
 go_wp2_with fail
 go_at_call 79
 refine (HNM.out).mono ?_
 rintro e W1 ⟨rfl,hr,hk⟩
 have HB1:=hid (hk.blkE HB0.out fun e=>by have e:Bs=R:=e;have:=HRB.out;omega);have HR1:=hid hr;have HK1:=hid (HK0.out.trans (hk.mono fun _ e=>.inl e))
 clear hr hk
 have HQ:=hid (by have h:=may_any W1 R _ el ec HR1.out [91];rw [Hh91.out,if_neg Bool.false_ne_true] at h;exact h)
 go_wp2_with fail
 go_at_call 101
 refine (HQ.out).mono ?_
 rintro e W2 ⟨rfl,hr,hk⟩
 have HB2:=hid (hk.blkE HB1.out fun e=>by have e:Bs=R:=e;have:=HRB.out;omega);have HR2:=hid hr;have HK2:=hid (HK1.out.trans (hk.mono fun _ e=>.inl e))
 clear hr hk
 have HQ:=hid (by have h:=may_any W2 R _ el ec HR2.out [44];rw [Hh44.out,if_neg Bool.false_ne_true] at h;exact h)
 go_wp2_with fail
 go_at_call 101
 refine (HQ.out).mono ?_
 rintro e W3 ⟨rfl,hr,hk⟩
 have HB3:=hid (hk.blkE HB2.out fun e=>by have e:Bs=R:=e;have:=HRB.out;omega);have HR3:=hid hr;have HK3:=hid (HK2.out.trans (hk.mono fun _ e=>.inl e))
 clear hr hk
 have HQ:=hid (must1 HR3.out [61] _ Hhm1.out)
 go_wp2_with fail
 go_at_call 76
 refine (HQ.out).mono ?_
 rintro e W4 ⟨rfl,hr,hk⟩
 have HB4:=hid (hk.blkE HB3.out fun e=>by have e:Bs=R:=e;have:=HRB.out;omega);have HR4:=hid hr;have HK4:=hid (HK3.out.trans (hk.mono fun _ e=>.inl e))
 clear hr hk
 obtain ⟨T1,hT1⟩:∃ T,t1.tok.text=T:=⟨_,rfl⟩
 obtain ⟨tq,htq⟩:∃ n:Int,(t1.tok.num:Int)=n:=⟨_,rfl⟩
 obtain ⟨tl,htl⟩:∃ n:Int,(t1.line:Int)=n:=⟨_,rfl⟩
 obtain ⟨tcl,htcl⟩:∃ n:Int,(t1.col:Int)=n:=⟨_,rfl⟩
 have HQ:=hid (by have h:=peek_cons HR4.out;rw [HTK.out,hT1,htq,htl,htcl] at h;exact h)
 clear hT1 htq htl htcl
 go_wp2_with fail
 go_at_call 74
 refine HQ.out.mono ?_
 rintro e W5 ⟨rfl,hk⟩
 have HR5:=hid (HR4.out.keep hk fun _ _ e=>e);have HB5:=hid (hk.blk HB4.out);have HK5:=hid (HK4.out.trans (hk.mono fun _ e=>e.elim))
 clear hk
 have hfk:=field_kind (.int .i64 tk) (.string ⟨T1.toArray⟩) (.int .i64 tq) (.int .i64 tl) (.int .i64 tcl) W5
 obtain ⟨-,-,-,-,-,n5,-⟩:=blk12 HB5.out
 have f5:=frz12 HB5.out 5
 go_upto_region 14 with fail
 clear n5 f5 hfk hkk
 obtain ⟨W6,hW,hb,hk⟩:=s_put5 HB5.out (.string ⟨T.toArray⟩)
 rw [←hW]
 have HB6:=hid hb;have HR6:=hid (HR5.out.keep hk fun b hb e=>by have e:b=Bs:=e;have:=HRB.out;omega);have HK6:=hid (HK5.out.trans (hk.mono fun _ e=>.inr e))
 clear hW hb hk
 have HCB:=hid (call_reads W6 R el ec f Bs (t1::r1) r [] T [] c op xs 0 0 0 l cl [] HR6.out HB6.out HRB.out Hhx1.out)
 go_wp2_with fail
 go_at_call 131
 refine HCB.out.mono ?_
 rintro e W8 ⟨rfl,hr8,hk8,p,cap,hb8,hkd⟩
 have HR8:=hid hr8;have HK8:=hid (HK6.out.trans hk8)
 have hs7:=HK6.out.size
 obtain ⟨vs,hvs,hst⟩:=stC_call (op:=op) (l:=l) (cl:=cl) (val:=[]) (into:=T) (cont:=c) (cap:=cap) (hkd.mono fun b hb=>(by have hb:W6.heap.size≤b:=hb;omega:w.heap.size≤b))
 have hb8:W8.heap[Bs]?=some (.cells vs.toArray TSm (0,0)):=by rw [←hvs];exact hb8
 have HB8:=hid hb8;have HST:=hid hst
 clear hr8 hk8 hb8 hkd hs7 hvs hst
 go_wp2_with fail
 (try simp only [Exit.inBlock,Exit.then]);refine bodyPost_ret (results_none rfl _ _ _) rfl ?_
 exact ⟨rfl,HR8.out,HK8.out,vs,HB8.out,HST.out⟩
end Go.Proofs.YtomlffobbkcmdaaGreatDoor
