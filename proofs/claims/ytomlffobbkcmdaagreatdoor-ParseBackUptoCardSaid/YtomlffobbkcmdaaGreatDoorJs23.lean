import Derived.Test.YtomlffobbkcmdaaGreatDoorJs21
import Derived.Test.YtomlffobbkcmdaaGreatDoorJs22
set_option maxHeartbeats 32000000
set_option maxRecDepth 100000
namespace Go.Proofs.YtomlffobbkcmdaaGreatDoor
open Go Go.RowKit Own
open Go.Lib (hid)
def bhS (p:Nat×Nat)(c:UInt8):Nat×Nat:=if c.toNat=10 then (p.1+1,1) else (p.1,p.2+1)
def bhT (l:List UInt8):Nat×Nat:=l.foldl bhS (1,1)
theorem bh_step {l:List UInt8}{i:Nat}{c:UInt8}(h:l[i]?=some c):(l.take (i+1)).foldl bhS (1,1)=bhS ((l.take i).foldl bhS (1,1)) c:=by
 rw[List.take_add_one,h,List.foldl_append]
 rfl
theorem behind_at (s:ByteArray)(hs:s.size≤1000000)(w:World):
  Calls Tryz.prog 66 #[.string s] w fun e w'=>e=.returned (.agg #[.int .i64 0,.string ⟨#[]⟩,.int .i64 0,.int .i64 (bhT s.data.toList).1,.int .i64 (bhT s.data.toList).2])∧BA (fun _=>False) w w':=by
 obtain⟨V1,B,hV1,hB,hb,hk1,hs1⟩:=BC w (.cells #[.int .i64 0,.string ⟨#[]⟩,.int .i64 0,.int .i64 0,.int .i64 0] TTk)
 obtain⟨V,C,hV,hC,hc,hk2,hs2⟩:=BC V1 (.cells #[.int .i64 0,.string ⟨#[]⟩,.int .i64 0,.int .i64 1,.int .i64 1] TTk)
 obtain⟨W3,G,cap,hcv,hG,hby,hk3,-⟩:=conv_bytes V s
 have hBC:B+1=C:=by omega
 have HK:=hid ((hk1.trans hk2).trans hk3)
 have HB:=hid (hk3.blk (hk2.blk hb));have HC:=hid (hk3.blk hc)
 have HN:=hid (show w.heap.size≤B∧B<C∧C<G by omega)
 have HBY:=hid hby
 have hds:s.data.size=s.size:=rfl
 clear hb hc hk1 hk2 hk3 hs1 hs2 hby hG
 go_enter Tryz.func66,Tryz.ntmps66
 go_upto_region 1 with fail
 rw[←hV1,←hB]
 clear hV1 hB
 go_upto_region 2 with fail
 rw[←hV,←hC]
 clear hV hC hBC
 go_wp2_with fail
 clear hcv
 go_loopw [10] (fun v10 wr=>∃(i el ec:Nat),v10=.int .i64 i∧i≤s.size∧el≤i+1∧ec≤i+1∧(s.data.toList.take i).foldl bhS (1,1)=(el,ec)∧wr.heap[C]?=some (.cells #[.int .i64 0,.string ⟨#[]⟩,.int .i64 0,.int .i64 el,.int .i64 ec] TTk (0,0))∧BA (fun b=>b=C) W3 wr) (fun v _=>s.size - (intOf v).toNat)
 case atStart=>exact⟨0,1,1,rfl,Nat.zero_le _,Nat.le_refl _,Nat.le_refl _,rfl,HC.out,BA.refl _ _⟩
 case round=>
  obtain⟨i,el,ec,rfl,hi,hel,hec,hfo,hbc,hk⟩:=hrel
  have HFO:=hid hfo
  clear hfo
  have HBC:=hid hbc;have HKR:=hid hk
  obtain⟨n0,n1,n2,n3,n4,f0,f1,f2,f3,f4⟩:=blk5 hbc
  have hn:=HN.out
  by_cases hlt:i<s.size
  ·have hlti:(i:Int)<s.size:=by omega
   have hi0:(0:Int)≤i:=by omega
   have hWi:IntKind.i64.wrap ((i:Int)+1)=(i:Int)+1:=IntWalk.i64_in _ (by omega)
   have hWc:IntKind.i64.wrap ((ec:Int)+1)=(ec:Int)+1:=IntWalk.i64_in _ (by omega)
   have hWl:IntKind.i64.wrap ((el:Int)+1)=(el:Int)+1:=IntWalk.i64_in _ (by omega)
   have hcb:=hk.cell (HBY.out i (by rw[hds];exact hlt)) (show ¬G=C by omega)
   obtain⟨bt,hbt⟩:∃b,s.data[i]'(by rw[hds];exact hlt)=b:=⟨_,rfl⟩
   have HBT:=hid (show s.data.toList[i]?=some bt by rw[Array.getElem?_toList,Array.getElem?_eq_getElem (by rw[hds];exact hlt),hbt])
   rw[hbt]at hcb
   clear hbc hk hbt hn hds
   go_upto_region 6 with fail
   obtain⟨wa,hwa,hba,hka⟩:=box_put4' HBC.out (.int .i64 ((ec:Int)+1))
   rw[←hwa]
   have HBA:=hid hba;have HKA:=hid hka
   clear hwa hba hka n0 n1 n2 n3 n4 f0 f1 f2 f3 f4
   obtain⟨n0,n1,n2,n3,n4,f0,f1,f2,f3,f4⟩:=blk5 HBA.out
   by_cases h10:bt.toNat=10
   ·have h10b:((bt.toNat:Int)==10)=true:=by rw[h10];rfl
    go_upto_region 8 with fail
    obtain⟨wb,hwb,hbb,hkb⟩:=box_put3' HBA.out (.int .i64 ((el:Int)+1))
    rw[←hwb]
    obtain⟨wc,hwc,hbc2,hkc⟩:=box_put4' hbb (.int .i64 1)
    rw[←hwc]
    have HBF:=hid hbc2;have HKF:=hid ((HKR.out.trans HKA.out).trans (hkb.trans hkc))
    clear hwb hbb hkb hwc hbc2 hkc n0 n1 n2 n3 n4 f0 f1 f2 f3 f4
    go_wp2_with fail
    exact⟨⟨i+1,el+1,1,by simp,by omega,by omega,by omega,by rw[bh_step HBT.out,HFO.out];unfold bhS;rw[if_pos h10],by simpa using HBF.out,HKF.out⟩,by simp only[intOf];omega⟩
   ·have h10b:((bt.toNat:Int)==10)=false:=by rw[BF];omega
    have HKF:=hid (HKR.out.trans HKA.out)
    clear n0 n1 n2 n3 n4 f0 f1 f2 f3 f4
    go_wp2_with fail
    exact⟨⟨i+1,el,ec+1,by simp,by omega,by omega,by omega,by rw[bh_step HBT.out,HFO.out];unfold bhS;rw[if_neg h10],by simpa using HBA.out,HKF.out⟩,by simp only[intOf];omega⟩
  ·have hnl:¬(i:Int)<s.size:=by omega
   have hbb:=hk.blkE HB.out (show ¬B=C by omega)
   have HBB:=hid hbb
   obtain⟨m0,m1,m2,m3,m4,e0,e1,e2,e3,e4⟩:=blk5 hbb
   clear hbc hk hbb hn
   go_wp2_with fail
   obtain⟨wf,hwf,hp,hkp⟩:=put5 HBB.out (.int .i64 0) (.string ⟨#[]⟩) (.int .i64 0) (.int .i64 el) (.int .i64 ec)
   rw[←hwf]
   obtain⟨c0,c1,c2,c3,c4,-⟩:=blk5 hp
   have hn:=HN.out
   exact bodyPost_ret (v:=.agg #[.int .i64 0,.string ⟨#[]⟩,.int .i64 0,.int .i64 el,.int .i64 ec]) (by simp[results,Tryz.results66,go_sem,c0,c1,c2,c3,c4]) rfl ⟨by have h:=HFO.out;rw[List.take_of_length_le (by rw[Array.length_toList];show s.size≤i;omega)]at h;unfold bhT;rw[h],(HK.out.new HKR.out fun b e=>by have e:b=C:=e;omega).new hkp fun b e=>by have e:b=B:=e;omega⟩
theorem catch_faultP (B6 B7:Nat)(xn:Int)(xp yp:Option Addr)(xm xc ym yc:Nat)(z0 z1 z2 er li co:Int)(older:List PanicEntry)(w:World)
  (h6:w.heap[B6]?=some (.cells #[.int .i64 xn,.slice xp xm xc,.slice yp ym yc] TPr (0,0)))
  (h7:w.heap[B7]?=some (.cells #[.int .i64 z0,.int .i64 z1,.int .i64 z2] TFa (0,0))) (hne:B6≠B7):
  CallsD Tryz.prog 75 #[.pointer (some ⟨B6,0,none⟩),.pointer (some ⟨B7,0,none⟩)] (.panicking ({ v:=fltV er li co,recovered:=false }::older)) w fun e u' w'=>e=.returned (.tuple #[])∧u'=.panicking ({ v:=fltV er li co,recovered:=true }::older)∧
   w'.heap[B6]?=some (.cells #[.int .i64 0,.slice none 0 0,.slice none 0 0] TPr (0,0))∧w'.heap[B7]?=some (.cells #[.int .i64 er,.int .i64 li,.int .i64 co] TFa (0,0))∧BA (fun b=>b=B6∨b=B7) w w':=by
 obtain⟨V1,B3,hV1,hB3,hb3,hk1,hs1⟩:=BC w (.cells #[.int .i64 er,.int .i64 li,.int .i64 co] TFt)
 obtain⟨V,B4,hV,hB4,hb4,hk2,hs2⟩:=BC V1 (.cells #[.int .i64 0,.slice none 0 0,.slice none 0 0] TPr)
 have hk:=hk1.trans hk2
 have HK:=hid hk;have HB3:=hid (hk2.blk hb3);have HB4:=hid hb4;have HB6:=hid (hk.blk h6);have HB7:=hid (hk.blk h7);have HNE:=hid hne
 have HN:=hid (show B6<B3∧B7<B3∧B3<B4 by
  have a1:=(AG.1 h6).1
  have a2:=(AG.1 h7).1
  omega)
 have h34:B3+1=B4:=by omega
 clear h6 h7 hne hb3 hb4 hk1 hk2 hk hs1 hs2
 refine callsD_of_wpS Tryz.func75 rfl fun c₀ cs hu=>?_
 apply wpS_seq
 apply wpS_region
 simp[wpOpsS,go_sem,recoverD,hu,Tryz.ntmps75,Exit.thenS]
 refine wpS_of_wp ?_
 simp only[Array.setIfInBounds,Array.replicate]
 simp only[fltV,TFt,TFa,TPr]at hu ⊢
 have hta:=assert_fault
 go_upto_region 8 with fail
 rw[←hV1,←hB3,←hV,h34]
 clear hV1 hB3 hV hB4 h34 hta
 refine wp_ownB (by kernel_rfl) B6 B7 _ _ HB6.out HB7.out HNE.out (fun i=>[[],[],[1],[0],[0,1,2,3]].getD i []) (fun i=>if i=3 then [5] else if i=4 then [6] else []) (fun i=>if i=3 then [5] else if i=4 then [6] else []) [3,4] (by kernel_rfl)
  (fun i=>if i=3 then some (sPut B6 TPr) else if i=4 then some (sPut B7 TFa) else none) ?_
 refine BD rfl rfl (v:=.agg #[.int .i64 0,.slice none 0 0,.slice none 0 0]) (fun w' hk=>by
  have hb:=((BA.drew (fun b=>b=B6∨b=B7) V).trans hk).blkE HB4.out (fun e=>by have:=HN.out;omega)
  obtain⟨x0,x1,x2,-⟩:=BY hb
  go_simp<;>rfl) ?_
 refine BD rfl rfl (v:=.pointer (some ⟨B3,0,none⟩)) (fun w' hk=>by
  have hb:=((BA.drew (fun b=>b=B6∨b=B7) V).trans hk).blkE HB3.out (fun e=>by have:=HN.out;omega)
  obtain⟨x0,x1,x2,-⟩:=BY hb
  go_simp<;>rfl) ?_
 refine BD rfl rfl (v:=.agg #[.int .i64 er,.int .i64 li,.int .i64 co]) (fun w' hk=>by
  have hb:=((BA.drew (fun b=>b=B6∨b=B7) V).trans hk).blkE HB3.out (fun e=>by have:=HN.out;omega)
  obtain⟨x0,x1,x2,-⟩:=BY hb
  go_simp<;>rfl) ?_
 simp only[Act.put,LS]
 refine BG rfl rfl (loud_put B6 TPr TPr #[.int .i64 0,.slice none 0 0,.slice none 0 0] _ (.tmp 0) (.tmp 12) rfl rfl rfl 5 (by decide) (by decide) (fun w h=>h) (.inl ⟨rfl,rfl⟩) rfl (by kernel_rfl) (by simp[Value.oneCell'])) fun g2 _=>?_
 simp only[Act.put]
 refine BG rfl rfl (loud_put B7 TFa TFa #[.int .i64 er,.int .i64 li,.int .i64 co] _ (.tmp 1) (.tmp 14) rfl rfl rfl 6 (by decide) (by decide) (fun w h=>h) (.inr ⟨rfl,rfl⟩) rfl (by kernel_rfl) (by simp[Value.oneCell'])) fun g3 _=>?_
 simp only[Act.put]
 refine CE ?_
 intro w9 hk9 hF _
 have f2:w9.heap[B6]?=some (.cells #[.int .i64 0,.slice none 0 0,.slice none 0 0] TPr (0,0)):=(hF 3 (by decide)).1 _ (DH rfl rfl)
 have f3:w9.heap[B7]?=some (.cells #[.int .i64 er,.int .i64 li,.int .i64 co] TFa (0,0)):=(hF 4 (by decide)).1 _ (DH rfl rfl)
 have hkM:=(BA.drew (fun b=>b=B6∨b=B7) V).trans hk9
 have hkW:=(HK.out.mono (E':=fun b=>b=B6∨b=B7) fun _ e=>e.elim).trans hkM
 clear hk9 hF hkM
 go_wp2_with fail
 exact⟨rfl,_,rfl,.tuple #[],by simp[results,Tryz.results75,go_sem],rfl,rfl,f2,f3,hkW⟩
theorem readingP_lex (s:ByteArray)(er li co:Nat)(her:er≠0)(w:World)(hT:TabS w)(hall:allT s.data.toList=([],⟨er,li,co⟩)):
  Calls Tryz.prog 36 #[.string s,.func (.func 37) #[] #[],.func (.func 38) #[] #[]] w fun e w'=>e=.returned (.tuple #[.agg #[.int .i64 0,.slice none 0 0,.slice none 0 0],.agg #[.int .i64 er,.int .i64 li,.int .i64 co]])∧BA (fun _=>False) w w':=by
 obtain⟨V1,B6,hV1,hB6,hb6,hk1,hs1⟩:=BC w (.cells #[.int .i64 0,.slice none 0 0,.slice none 0 0] TPr)
 obtain⟨V,B7,hV,hB7,hb7,hk2,hs2⟩:=BC V1 (.cells #[.int .i64 0,.int .i64 0,.int .i64 0] TFa)
 have hk:=hk1.trans hk2
 have hALL:=all_rowsF hall V (hk.tabS hT)
 have HALL:=hid hALL
 have herb:((er:Int)==0)=false:=by rw[BF];omega
 have h67:B6+1=B7:=by omega
 have HK:=hid hk;have HB6:=hid (hk2.blk hb6);have HB7:=hid hb7;have HER:=hid her
 have HN:=hid (show w.heap.size≤B6∧B6<B7∧B7<V.heap.size by omega)
 clear hT hall her hb6 hb7 hk1 hk2 hs1 hs2 hk hALL
 go_enter_defers Tryz.func36,Tryz.ntmps36
 go_upto_region 1 with fail
 rw[←hV1,←hB6,←hV,h67]
 clear hV1 hB6 hV hB7 h67
 go_wp2_with fail
 go_at_call 64
 refine HALL.out.mono ?_
 rintro e w1 ⟨p,cap,rfl,hk⟩
 have HK1:=hid hk
 have hb71:=hk.blk HB7.out
 have HB71:=hid hb71
 obtain⟨n0,n1,n2,f0,f1,f2⟩:=BY hb71
 clear hk hb71
 go_upto_region 2 with fail
 obtain⟨w2,hw2,hb2,hk2⟩:=put3 HB71.out (.int .i64 er) (.int .i64 li) (.int .i64 co)
 rw[←hw2]
 have hn:=HN.out
 have HB72:=hid hb2
 have HB62:=hid (hk2.blkE (HK1.out.blk HB6.out) fun e=>by have e:B6=B7:=e;omega)
 have HKW:=hid (((HK.out.trans HK1.out).mono (E':=fun b=>b=B7) fun _ e=>e.elim).trans hk2)
 clear hw2 hb2 hk2 hn n0 n1 n2 f0 f1 f2
 obtain⟨n0,n1,n2,-⟩:=BY HB72.out
 go_upto_region 3 with fail
 clear n0 n1 n2
 refine wp_ownB (by kernel_rfl) B6 B7 _ _ HB62.out HB72.out (by have:=HN.out;omega) (fun i=>[[],[],[0],[0,1,2]].getD i []) (fun i=>if i=0 then [4] else if i=1 then [5] else if i=2 then [4] else if i=3 then [5] else []) (fun i=>if i=2 then [4] else if i=3 then [5] else []) [2,3] (by kernel_rfl)
  (fun i=>if i=0 then some (BW (.agg #[.int .i64 0,.slice none 0 0,.slice none 0 0])) else if i=1 then some (BW (.agg #[.int .i64 er,.int .i64 li,.int .i64 co])) else if i=2 then some (sPut B6 TPr) else if i=3 then some (sPut B7 TFa) else none) ?_
 refine BG rfl rfl (DB ⟨default,trivial⟩ (fun g _ w w' _ _ _ _ _=>trivial) fun w' hk hav _=>by
  obtain⟨x0,x1,x2,-⟩:=BY (show w'.heap[B6]?=some (.cells #[.int .i64 0,.slice none 0 0,.slice none 0 0] TPr (0,0)) from(hav 4 (by decide)).1)
  exact⟨w',default,trivial,.inl (by go_simp<;>rfl),BA.refl _ _,fun b h=>h.elim,trivial⟩) fun _ _=>?_
 simp only[BW,Act.put,LS]
 refine BG rfl rfl (DB ⟨default,trivial⟩ (fun g _ w w' _ _ _ _ _=>trivial) fun w' hk hav _=>by
  obtain⟨x0,x1,x2,-⟩:=BY (show w'.heap[B7]?=some (.cells #[.int .i64 er,.int .i64 li,.int .i64 co] TFa (0,0)) from(hav 5 (by decide)).1)
  exact⟨w',default,trivial,.inl (by go_simp<;>rfl),BA.refl _ _,fun b h=>h.elim,trivial⟩) fun _ _=>?_
 simp only[Act.put,LS]
 refine BG rfl rfl (loud_put B6 TPr TPr #[.int .i64 0,.slice none 0 0,.slice none 0 0] _ (.tmp 6) (.tmp 19) rfl rfl rfl 4 (by decide) (by decide) (fun w h=>h) (.inl ⟨rfl,rfl⟩) rfl (by kernel_rfl) (by simp[Value.oneCell'])) fun g2 _=>?_
 simp only[sPut,Act.put]
 refine BG rfl rfl (loud_put B7 TFa TFa #[.int .i64 er,.int .i64 li,.int .i64 co] _ (.tmp 7) (.tmp 20) rfl rfl rfl 5 (by decide) (by decide) (fun w h=>h) (.inr ⟨rfl,rfl⟩) rfl (by kernel_rfl) (by simp[Value.oneCell'])) fun g3 _=>?_
 simp only[Act.put]
 refine CE ?_
 intro w9 hk9 hF _
 have f2:w9.heap[B6]?=some (.cells #[.int .i64 0,.slice none 0 0,.slice none 0 0] TPr (0,0)):=(hF 2 (by decide)).1 _ (DH rfl rfl)
 have f3:w9.heap[B7]?=some (.cells #[.int .i64 er,.int .i64 li,.int .i64 co] TFa (0,0)):=(hF 3 (by decide)).1 _ (DH rfl rfl)
 have hkM:=(BA.drew (fun b=>b=B6∨b=B7) w2).trans hk9
 have HKE:=hid (show BA (fun _=>False) w w9 from(BA.refl (fun _=>False) w).newE ((HKW.out.mono (E':=fun b=>b=B6∨b=B7) fun _ e=>.inr e).trans hkM) fun b hb=>by have:=HN.out;omega)
 obtain⟨c0,c1,c2,-⟩:=BY f2
 obtain⟨d0,d1,d2,-⟩:=BY f3
 clear hk9 hF f2 f3 hkM
 go_wp2_with fail
 exact⟨.tuple #[.agg #[.int .i64 0,.slice none 0 0,.slice none 0 0],.agg #[.int .i64 er,.int .i64 li,.int .i64 co]],by simp[results,Tryz.results36,go_sem,c0,c1,c2,d0,d1,d2],rfl,HKE.out⟩
theorem prog_flt (s:ByteArray)(er li co:Int)(w:World)(hT:TabS w)(hR:∀w,TabS w→Calls Tryz.prog 36 #[.string s,.func (.func 37) #[] #[],.func (.func 38) #[] #[]] w fun e w'=>e=.returned (.tuple #[.agg #[.int .i64 0,.slice none 0 0,.slice none 0 0],.agg #[.int .i64 er,.int .i64 li,.int .i64 co]])∧BA (fun _=>False) w w'):
  Calls Tryz.prog 16 #[.string s] w fun e w'=>e=.returned (.tuple #[.agg #[.int .i64 0,.slice none 0 0,.slice none 0 0],.agg #[.int .i64 er,.int .i64 li,.int .i64 co]])∧BA (fun _=>False) w w':=by
 obtain⟨V1,B2,hV1,hB2,hb2,hk1,hs1⟩:=BC w (.cells #[.int .i64 0,.slice none 0 0,.slice none 0 0] TPr)
 obtain⟨V,B3,hV,hB3,hb3,hk2,hs2⟩:=BC V1 (.cells #[.int .i64 0,.int .i64 0,.int .i64 0] TFa)
 have hk:=hk1.trans hk2
 have HRE:=hid (hR V (hk.tabS hT))
 have h23:B2+1=B3:=by omega
 have HK:=hid hk;have HB2:=hid (hk2.blk hb2);have HB3:=hid hb3
 have HN:=hid (show w.heap.size≤B2∧B2<B3∧B3<V.heap.size by omega)
 clear hT hR hb2 hb3 hk1 hk2 hs1 hs2 hk
 go_enter Tryz.func16,Tryz.ntmps16
 go_upto_region 1 with fail
 rw[←hV1,←hB2,←hV,h23]
 clear hV1 hB2 hV hB3 h23
 go_wp2_with fail
 go_at_call 36
 refine HRE.out.mono ?_
 rintro e w1 ⟨rfl,hk1⟩
 have HK1:=hid hk1
 have hb2:=hk1.blk HB2.out;have hb3:=hk1.blk HB3.out
 have HB2:=hid hb2;have HB3:=hid hb3
 obtain⟨m0,m1,m2,f0,f1,f2⟩:=BY hb2
 obtain⟨q0,q1,q2,g0,g1,g2⟩:=BY hb3
 have hne23:B2≠B3:=by have:=HN.out;omega
 have hne32:B3≠B2:=by have:=HN.out;omega
 clear hk1 hb2 hb3
 go_wp2_with fail
 obtain⟨wa,hwa,hba,hka⟩:=put3 HB2.out (.int .i64 0) (.slice none 0 0) (.slice none 0 0)
 rw[←hwa]
 have hn:=HN.out
 obtain⟨wf,hwf,hbf,hkf⟩:=put3 (hka.blkE HB3.out fun e=>by have e:B3=B2:=e;omega) (.int .i64 er) (.int .i64 li) (.int .i64 co)
 rw[←hwf]
 obtain⟨c0,c1,c2,-⟩:=BY (hkf.blkE hba fun e=>by have e:B2=B3:=e;omega)
 obtain⟨d0,d1,d2,-⟩:=BY hbf
 clear hwa hwf
 exact bodyPost_ret (v:=.tuple #[.agg #[.int .i64 0,.slice none 0 0,.slice none 0 0],.agg #[.int .i64 er,.int .i64 li,.int .i64 co]]) (by simp[results,Tryz.results16,go_sem,c0,c1,c2,d0,d1,d2]) rfl ⟨rfl,((HK.out.trans HK1.out).new hka fun b e=>by have e:b=B2:=e;omega).new hkf fun b e=>by have e:b=B3:=e;omega⟩
theorem readingP_gives (s:ByteArray)(its:List Item)(w:World)(hT:TabS w)(hall:allT s.data.toList=(its,⟨0,0,0⟩))(hss:s.size≤1000000)(b:List Item)(hG:∀(R el ec:Nat) (W:World),BE W R its el ec→Calls Tryz.prog 37 #[rdV R] W fun e w'=>e=.panicked (DJ b el ec)∧BA (fun b=>b=R) W w'):
  Calls Tryz.prog 36 #[.string s,.func (.func 37) #[] #[],.func (.func 38) #[] #[]] w fun e w'=>e=.returned (.tuple #[.agg #[.int .i64 0,.slice none 0 0,.slice none 0 0],.agg #[.int .i64 9,.int .i64 (lineOf b (bhT s.data.toList).1),.int .i64 (colOf b (bhT s.data.toList).2)]])∧BA (fun _=>False) w w':=by
 obtain⟨V1,B6,hV1,hB6,hb6,hk1,hs1⟩:=BC w (.cells #[.int .i64 0,.slice none 0 0,.slice none 0 0] TPr)
 obtain⟨V,B7,hV,hB7,hb7,hk2,hs2⟩:=BC V1 (.cells #[.int .i64 0,.int .i64 0,.int .i64 0] TFa)
 have hk:=hk1.trans hk2
 have hALL:=all_rows hall V (hk.tabS hT)
 have HALL:=hid hALL
 have HBE:=hid fun W=>behind_at s hss W
 obtain⟨el,hel⟩:∃n,(bhT s.data.toList).1=n:=⟨_,rfl⟩
 obtain⟨ec,hec⟩:∃n,(bhT s.data.toList).2=n:=⟨_,rfl⟩
 rw[hel,hec]at HBE ⊢
 obtain⟨li,hli⟩:∃n,lineOf b el=n:=⟨_,rfl⟩
 obtain⟨co,hco⟩:∃n,colOf b ec=n:=⟨_,rfl⟩
 rw[hli,hco]
 have HLC:=hid (And.intro hli hco)
 clear hel hec hli hco
 have h67:B6+1=B7:=by omega
 have HK:=hid hk;have HB6:=hid (hk2.blk hb6);have HB7:=hid hb7;have HGG:=hid hG
 have HN:=hid (show w.heap.size≤B6∧B6<B7∧B7<V.heap.size by omega)
 clear hT hall hss hG hb6 hb7 hk1 hk2 hs1 hs2 hk hALL
 go_enter_defers Tryz.func36,Tryz.ntmps36
 go_upto_region 1 with fail
 rw[←hV1,←hB6,←hV,h67]
 clear hV1 hB6 hV hB7 h67
 go_wp2_with fail
 go_at_call 64
 refine HALL.out.mono ?_
 rintro e w1 ⟨p,cap,rfl,hrow,hc1,hc2,hg,hk⟩
 have HK1:=hid hk;have HROW:=hid hrow;have HCAP:=hid (And.intro hc1 hc2);have HG:=hid hg
 have hb71:=hk.blk HB7.out
 have HB71:=hid hb71
 obtain⟨n0,n1,n2,f0,f1,f2⟩:=BY hb71
 clear hk hrow hc1 hc2 hg hb71
 go_upto_region 2 with fail
 obtain⟨w2,hw2,hb2,hk2⟩:=put3 HB71.out (.int .i64 0) (.int .i64 0) (.int .i64 0)
 rw[←hw2]
 have hn:=HN.out
 have HB72:=hid hb2
 have HB62:=hid (hk2.blkE (HK1.out.blk HB6.out) fun e=>by have e:B6=B7:=e;omega)
 have HROW2:=hid (show RowI w2 p its∧∀a,p=some a→a.block<w2.heap.size from
  ⟨HROW.out.keep hk2 (fun a ha e=>by have h1:=(HG.out a ha).2;have e:a.block=B7:=e;omega),fun a ha=>Nat.lt_of_lt_of_le (HG.out a ha).1 hk2.size⟩)
 have HK2:=hid (show BA (fun b=>b=B7) w w2 from((HK.out.trans HK1.out).mono fun _ e=>e.elim).trans hk2)
 clear hw2 hb2 hk2 hn n0 n1 n2 f0 f1 f2
 obtain⟨n0,n1,n2,-⟩:=BY HB72.out
 go_upto_region 5 with fail
 clear n0 n1 n2
 go_wp2_with fail
 go_at_call 66
 refine(HBE.out w2).mono ?_
 rintro e w3 ⟨rfl,hk3⟩
 obtain⟨W4,R,hW4,hR,hbr,hk4,hs4⟩:=BC w3 (.cells #[.slice p its.length cap,.int .i64 0,.string ⟨#[]⟩,.int .i64 0,.int .i64 el,.int .i64 ec] TRd)
 have hk34:=hk3.trans hk4
 have HR4:=hid (show BE W4 R its el ec from⟨p,cap,hbr,HROW2.out.1.keep hk34 (fun _ _ e=>e),fun a ha=>by have:=HROW2.out.2 a ha;have:=hk3.size;omega,HCAP.out⟩)
 have HRE:=hid (HGG.out R el ec W4 HR4.out)
 simp only[DJ,fltC,fltV,TFt,HLC.out.1,HLC.out.2]at HRE
 have HB64:=hid (hk34.blk HB62.out);have HB74:=hid (hk34.blk HB72.out)
 have HK4:=hid (HK2.out.newM hk34 fun _ e=>e.elim)
 have HN4:=hid (show B7<R∧R<W4.heap.size∧w2.heap.size≤R by
  have h1:=(AG.1 HB72.out).1
  have h2:=hk3.size
  omega)
 clear hk3 hk4 hk34 hbr hs4
 go_wp2_with fail
 rw[←hW4,←hR]
 clear hW4 hR
 go_at_call 37
 refine HRE.out.mono ?_
 rintro e w5 ⟨rfl,hk5⟩
 have hn:=HN.out;have hn4:=HN4.out
 have HB65:=hid (hk5.blkE HB64.out fun e=>by have e:B6=R:=e;omega)
 have HB75:=hid (hk5.blkE HB74.out fun e=>by have e:B7=R:=e;omega)
 have HKW5:=hid (show BA (fun b=>b=B7∨b=R) w w5 from(HK4.out.mono fun _ e=>.inl e).trans (hk5.mono fun _ e=>.inr e))
 clear hk5 hn hn4
 go_wp2_with fail
 refine leaves_cons (f:=75) (args:=#[.pointer (some ⟨B6,0,none⟩),.pointer (some ⟨B7,0,none⟩)]) (by simp) (by simp[go_sem]) ?_
 refine(catch_faultP B6 B7 0 none none 0 0 0 0 0 0 0 9 li co [] w5 HB65.out HB75.out (by have:=HN.out;omega)).mono ?_
 rintro e u' w'' ⟨rfl,rfl,g6,g7,hkf⟩
 obtain⟨c0,c1,c2,-⟩:=BY g6
 obtain⟨d0,d1,d2,-⟩:=BY g7
 have hkE:BA (fun _=>False) w w'':=(BA.refl (fun _=>False) w).newE ((HKW5.out.mono (E':=fun b=>b=B6∨b=B7∨b=R) fun _ e=>.inr e).trans (hkf.mono fun b e=>e.elim .inl fun e=>.inr (.inl e))) fun b hb=>by have:=HN.out;have:=HN4.out;omega
 exact⟨.tuple #[.agg #[.int .i64 0,.slice none 0 0,.slice none 0 0],.agg #[.int .i64 9,.int .i64 li,.int .i64 co]],by simp[results,Tryz.results36,go_sem,c0,c1,c2,d0,d1,d2],rfl,hkE⟩
theorem readingP_any (s:ByteArray)(its:List Item)(pr:Pr)(w:World)(hT:TabS w)(hall:allT s.data.toList=(its,⟨0,0,0⟩))(hss:s.size≤1000000)(hx:∀R el ec,ReadsP R el ec its pr)(hthl:pr.threads.length≤1000000)(hne:its≠[])(hsz:CP pr.threads≤600)(hdp:FI pr.threads≤24):
  Calls Tryz.prog 36 #[.string s,.func (.func 37) #[] #[],.func (.func 38) #[] #[]] w fun e w'=>∃vs,e=.returned (.tuple #[.agg vs.toArray,.agg #[.int .i64 0,.int .i64 0,.int .i64 0]])∧PrgAt w' (fun b=>w.heap.size≤b) vs pr∧BA (fun _=>False) w w':=by
 obtain⟨V1,B6,hV1,hB6,hb6,hk1,hs1⟩:=BC w (.cells #[.int .i64 0,.slice none 0 0,.slice none 0 0] TPr)
 obtain⟨V,B7,hV,hB7,hb7,hk2,hs2⟩:=BC V1 (.cells #[.int .i64 0,.int .i64 0,.int .i64 0] TFa)
 have hk:=hk1.trans hk2
 have hALL:=all_room hall hne V (hk.tabS hT)
 have HALL:=hid hALL
 have HBE:=hid fun W=>behind_any s hss W
 have h67:B6+1=B7:=by omega
 have HK:=hid hk;have HB6:=hid (hk2.blk hb6);have HB7:=hid hb7;have HX:=hid hx;have HTHL:=hid hthl;have HSZ:=hid hsz;have HDP:=hid hdp
 have HN:=hid (show w.heap.size≤B6∧B6<B7∧B7<V.heap.size by omega)
 clear hT hall hss hx hthl hne hsz hdp hb6 hb7 hk1 hk2 hs1 hs2 hk hALL
 go_enter_defers Tryz.func36,Tryz.ntmps36
 go_upto_region 1 with fail
 rw[←hV1,←hB6,←hV,h67]
 clear hV1 hB6 hV hB7 h67
 go_wp2_with fail
 go_at_call 64
 refine HALL.out.mono ?_
 rintro e w1 ⟨g,cap,rfl,hrow,hc1,hc2,hg,hk⟩
 have HK1:=hid hk;have HROW:=hid hrow;have HCAP:=hid (And.intro hc1 hc2);have HG:=hid hg
 have hb71:=hk.blk HB7.out
 have HB71:=hid hb71
 obtain⟨n0,n1,n2,f0,f1,f2⟩:=BY hb71
 clear hk hrow hc1 hc2 hg hb71
 go_upto_region 2 with fail
 obtain⟨w2,hw2,hb2,hk2⟩:=put3 HB71.out (.int .i64 0) (.int .i64 0) (.int .i64 0)
 rw[←hw2]
 have hn:=HN.out
 have HB72:=hid hb2
 have HB62:=hid (hk2.blkE (HK1.out.blk HB6.out) fun e=>by have e:B6=B7:=e;omega)
 have HROW2:=hid (show RowI w2 (some ⟨g,0,none⟩) its∧g<w2.heap.size∧g≠B7∧g≠B6 from by
  have hg:=HG.out
  have h7:g≠B7:=by omega
  exact⟨HROW.out.keep hk2 (fun a ha e=>by cases ha;exact h7 e),Nat.lt_of_lt_of_le hg.1 hk2.size,h7,by omega⟩)
 have HK2:=hid (show BA (fun b=>b=B7) w w2 from((HK.out.trans HK1.out).mono fun _ e=>e.elim).trans hk2)
 clear hw2 hb2 hk2 hn n0 n1 n2 f0 f1 f2
 obtain⟨n0,n1,n2,-⟩:=BY HB72.out
 go_upto_region 5 with fail
 clear n0 n1 n2
 go_wp2_with fail
 go_at_call 66
 refine(HBE.out w2).mono ?_
 rintro e w3 ⟨el,ec,rfl,hk3⟩
 obtain⟨W4,R,hW4,hR,hbr,hk4,hs4⟩:=BC w3 (.cells #[.slice (some ⟨g,0,none⟩) its.length cap,.int .i64 0,.string ⟨#[]⟩,.int .i64 0,.int .i64 el,.int .i64 ec] TRd)
 have hk34:=hk3.trans hk4
 have HR4:=hid (show BE W4 R its el ec from⟨some ⟨g,0,none⟩,cap,hbr,HROW2.out.1.keep hk34 (fun _ _ e=>e),fun a ha=>by cases ha;have:=HROW2.out.2.1;have:=hk3.size;show g<R;omega,HCAP.out⟩)
 have HRE:=hid (HX.out R el ec W4 HR4.out)
 have HB64:=hid (hk34.blk HB62.out);have HB74:=hid (hk34.blk HB72.out)
 have HK4:=hid (HK2.out.newM hk34 fun _ e=>e.elim)
 have HN4:=hid (show B7<R∧R<W4.heap.size∧w2.heap.size≤R by
  have h1:=(AG.1 HB72.out).1
  have h2:=hk3.size
  omega)
 clear hk3 hk4 hk34 hbr hs4
 go_wp2_with fail
 rw[←hW4,←hR]
 clear hW4 hR
 go_at_call 37
 refine HRE.out.mono ?_
 rintro e w5 ⟨vs,rfl,hex,hk5⟩
 obtain⟨xn,xp,xm,xc,yp,ym,yc,rfl⟩:=prg_form hex
 have hn:=HN.out;have hn4:=HN4.out
 have hb65:=hk5.blkE HB64.out fun e=>by have e:B6=R:=e;omega
 have HB65:=hid hb65
 have HB75:=hid (hk5.blkE HB74.out fun e=>by have e:B7=R:=e;omega)
 have HEX:=hid hex;have HK5:=hid hk5
 obtain⟨m0,m1,m2,f0,f1,f2⟩:=BY hb65
 clear hex hk5 hb65 hn hn4
 go_upto_region 6 with fail
 obtain⟨w6,hw6,hb6,hk6⟩:=put3 HB65.out (.int .i64 xn) (.slice xp xm xc) (.slice yp ym yc)
 rw[←hw6]
 have hn:=HN.out;have hn4:=HN4.out
 have HB66:=hid hb6
 have HB76:=hid (hk6.blkE HB75.out fun e=>by have e:B7=B6:=e;omega)
 have HEX6:=hid (HEX.out.keep hk6 fun b hb e=>by have e:b=B6:=e;have hb:W4.heap.size≤b:=hb;omega)
 have HKW6:=hid (show BA (fun _=>False) w w6 from⟨hk6.os.trans (HK5.out.os.trans HK4.out.os),hk6.tape.trans (HK5.out.tape.trans HK4.out.tape),hk6.output.trans (HK5.out.output.trans HK4.out.output),Nat.le_trans HK4.out.size (Nat.le_trans HK5.out.size hk6.size),fun b hb _=>by
  have h1:=HK4.out.size
  rw[hk6.block b (Nat.lt_of_lt_of_le hb (Nat.le_trans HK4.out.size HK5.out.size)) (show ¬b=B6 by omega),HK5.out.block b (by omega) (show ¬b=R by omega),HK4.out.block b hb (show ¬b=B7 by omega)]⟩)
 have HWG:=hid (weighP_any pr (by have:=HSZ.out;omega) HTHL.out w6 _ _ HEX6.out)
 obtain⟨c0,c1,c2,-⟩:=BY hb6
 clear hw6 hb6 hk6 hn hn4 m0 m1 m2 f0 f1 f2
 go_wp2_with fail
 go_at_call 38
 refine HWG.out.mono ?_
 rintro e w7 ⟨rfl,hk7⟩
 have HKW7:=hid (HKW6.out.trans hk7)
 have HB67:=hid (hk7.blk HB66.out);have HB77:=hid (hk7.blk HB76.out);have HEX7:=hid (HEX6.out.keep hk7 fun _ _ e=>e)
 have h600:decide ((600:Int)<(CP pr.threads:Int))=false:=decide_eq_false (by have:=HSZ.out;omega)
 have h24:decide ((24:Int)<(FI pr.threads:Int))=false:=decide_eq_false (by have:=HDP.out;omega)
 clear hk7 c0 c1 c2
 go_upto_region 9 with fail
 refine wp_ownB (by kernel_rfl) B6 B7 _ _ HB67.out HB77.out (by have:=HN.out;omega) (fun i=>[[],[],[0],[0,1,2]].getD i []) (fun i=>if i=0 then [4] else if i=1 then [5] else if i=2 then [4] else if i=3 then [5] else []) (fun i=>if i=2 then [4] else if i=3 then [5] else []) [2,3] (by kernel_rfl)
  (fun i=>if i=0 then some (BW (.agg #[.int .i64 xn,.slice xp xm xc,.slice yp ym yc])) else if i=1 then some (BW (.agg #[.int .i64 0,.int .i64 0,.int .i64 0])) else if i=2 then some (sPut B6 TPr) else if i=3 then some (sPut B7 TFa) else none) ?_
 refine BG rfl rfl (DB ⟨default,trivial⟩ (fun g _ w w' _ _ _ _ _=>trivial) fun w' hk hav _=>by
  obtain⟨x0,x1,x2,-⟩:=BY (show w'.heap[B6]?=some (.cells #[.int .i64 xn,.slice xp xm xc,.slice yp ym yc] TPr (0,0)) from(hav 4 (by decide)).1)
  exact⟨w',default,trivial,.inl (by go_simp<;>rfl),BA.refl _ _,fun b h=>h.elim,trivial⟩) fun _ _=>?_
 simp only[BW,Act.put,LS]
 refine BG rfl rfl (DB ⟨default,trivial⟩ (fun g _ w w' _ _ _ _ _=>trivial) fun w' hk hav _=>by
  obtain⟨x0,x1,x2,-⟩:=BY (show w'.heap[B7]?=some (.cells #[.int .i64 0,.int .i64 0,.int .i64 0] TFa (0,0)) from(hav 5 (by decide)).1)
  exact⟨w',default,trivial,.inl (by go_simp<;>rfl),BA.refl _ _,fun b h=>h.elim,trivial⟩) fun _ _=>?_
 simp only[Act.put,LS]
 refine BG rfl rfl (loud_put B6 TPr TPr #[.int .i64 xn,.slice xp xm xc,.slice yp ym yc] _ (.tmp 6) (.tmp 44) rfl rfl rfl 4 (by decide) (by decide) (fun w h=>h) (.inl ⟨rfl,rfl⟩) rfl (by kernel_rfl) (by simp[Value.oneCell'])) fun g2 _=>?_
 simp only[sPut,Act.put]
 refine BG rfl rfl (loud_put B7 TFa TFa #[.int .i64 0,.int .i64 0,.int .i64 0] _ (.tmp 7) (.tmp 45) rfl rfl rfl 5 (by decide) (by decide) (fun w h=>h) (.inr ⟨rfl,rfl⟩) rfl (by kernel_rfl) (by simp[Value.oneCell'])) fun g3 _=>?_
 simp only[Act.put]
 refine CE ?_
 intro w9 hk9 hF _
 have f2:w9.heap[B6]?=some (.cells #[.int .i64 xn,.slice xp xm xc,.slice yp ym yc] TPr (0,0)):=(hF 2 (by decide)).1 _ (DH rfl rfl)
 have f3:w9.heap[B7]?=some (.cells #[.int .i64 0,.int .i64 0,.int .i64 0] TFa (0,0)):=(hF 3 (by decide)).1 _ (DH rfl rfl)
 have hkM:=(BA.drew (fun b=>b=B6∨b=B7) w7).trans hk9
 have hn:=HN.out;have hn4:=HN4.out
 have HEX9:=hid ((HEX7.out.keep hkM fun b hb e=>by have hb:W4.heap.size≤b:=hb;omega).mono (S':=fun b=>w.heap.size≤b) fun b hb=>by have hb:W4.heap.size≤b:=hb;omega)
 have HK9:=hid (HKW7.out.new hkM fun b hb=>by omega)
 obtain⟨c0,c1,c2,-⟩:=BY f2
 obtain⟨d0,d1,d2,-⟩:=BY f3
 clear hk9 hF f2 f3 hkM hn hn4
 go_wp2_with fail
 refine leaves_cons (f:=75) (args:=#[.pointer (some ⟨B6,0,none⟩),.pointer (some ⟨B7,0,none⟩)]) (by simp) (by simp[go_sem]) ?_
 refine(catch_idleP ⟨B6,0,none⟩ ⟨B7,0,none⟩ _).mono ?_
 rintro e u' w'' ⟨rfl,rfl,rfl⟩
 exact⟨.tuple #[.agg #[.int .i64 xn,.slice xp xm xc,.slice yp ym yc],.agg #[.int .i64 0,.int .i64 0,.int .i64 0]],by simp[results,Tryz.results36,go_sem,c0,c1,c2,d0,d1,d2],_,rfl,HEX9.out,HK9.out⟩
theorem prog_any (s:ByteArray)(its:List Item)(pr:Pr)(w:World)(hT:TabS w)(hall:allT s.data.toList=(its,⟨0,0,0⟩))(hss:s.size≤1000000)(hx:∀R el ec,ReadsP R el ec its pr)(hthl:pr.threads.length≤1000000)(hne:its≠[])(hsz:CP pr.threads≤600)(hdp:FI pr.threads≤24):
  Calls Tryz.prog 16 #[.string s] w fun e w'=>∃vs,e=.returned (.tuple #[.agg vs.toArray,.agg #[.int .i64 0,.int .i64 0,.int .i64 0]])∧PrgAt w' (fun b=>w.heap.size≤b) vs pr∧BA (fun _=>False) w w':=by
 obtain⟨V1,B2,hV1,hB2,hb2,hk1,hs1⟩:=BC w (.cells #[.int .i64 0,.slice none 0 0,.slice none 0 0] TPr)
 obtain⟨V,B3,hV,hB3,hb3,hk2,hs2⟩:=BC V1 (.cells #[.int .i64 0,.int .i64 0,.int .i64 0] TFa)
 have hk:=hk1.trans hk2
 have HRE:=hid (readingP_any s its pr V (hk.tabS hT) hall hss hx hthl hne hsz hdp)
 have h23:B2+1=B3:=by omega
 have HK:=hid hk;have HB2:=hid (hk2.blk hb2);have HB3:=hid hb3
 have HN:=hid (show w.heap.size≤B2∧B2<B3∧B3<V.heap.size by omega)
 clear hT hall hss hx hthl hne hsz hdp hb2 hb3 hk1 hk2 hs1 hs2 hk
 go_enter Tryz.func16,Tryz.ntmps16
 go_upto_region 1 with fail
 rw[←hV1,←hB2,←hV,h23]
 clear hV1 hB2 hV hB3 h23
 go_wp2_with fail
 go_at_call 36
 refine HRE.out.mono ?_
 rintro e w1 ⟨vs,rfl,hex,hk1⟩
 obtain⟨xn,xp,xm,xc,yp,ym,yc,rfl⟩:=prg_form hex
 have HEX:=hid hex;have HK1:=hid hk1
 have hb2:=hk1.blk HB2.out;have hb3:=hk1.blk HB3.out
 have HB2:=hid hb2;have HB3:=hid hb3
 obtain⟨m0,m1,m2,f0,f1,f2⟩:=BY hb2
 obtain⟨q0,q1,q2,g0,g1,g2⟩:=BY hb3
 have hne23:B2≠B3:=by have:=HN.out;omega
 have hne32:B3≠B2:=by have:=HN.out;omega
 clear hex hk1 hb2 hb3
 go_wp2_with fail
 obtain⟨wa,hwa,hba,hka⟩:=put3 HB2.out (.int .i64 xn) (.slice xp xm xc) (.slice yp ym yc)
 rw[←hwa]
 have hn:=HN.out
 obtain⟨wf,hwf,hbf,hkf⟩:=put3 (hka.blkE HB3.out fun e=>by have e:B3=B2:=e;omega) (.int .i64 0) (.int .i64 0) (.int .i64 0)
 rw[←hwf]
 obtain⟨c0,c1,c2,-⟩:=BY (hkf.blkE hba fun e=>by have e:B2=B3:=e;omega)
 obtain⟨d0,d1,d2,-⟩:=BY hbf
 clear hwa hwf
 exact bodyPost_ret (v:=.tuple #[.agg #[.int .i64 xn,.slice xp xm xc,.slice yp ym yc],.agg #[.int .i64 0,.int .i64 0,.int .i64 0]]) (by simp[results,Tryz.results16,go_sem,c0,c1,c2,d0,d1,d2]) rfl ⟨_,rfl,((HEX.out.keep hka fun b hb e=>by have e:b=B2:=e;have hb:V.heap.size≤b:=hb;omega).keep hkf fun b hb e=>by have e:b=B3:=e;have hb:V.heap.size≤b:=hb;omega).mono fun b hb=>by have hb:V.heap.size≤b:=hb;omega,((HK.out.trans HK1.out).new hka fun b e=>by have e:b=B2:=e;omega).new hkf fun b e=>by have e:b=B3:=e;omega⟩
theorem readingP_long (s:ByteArray)(its:List Item)(pr:Pr)(w:World)(hT:TabS w)(hall:allT s.data.toList=(its,⟨0,0,0⟩))(hss:s.size≤1000000)(hx:∀R el ec,ReadsP R el ec its pr)(hthl:pr.threads.length≤1000000)(hne:its≠[])(hsz:CP pr.threads≤1000000)(hdp:600<CP pr.threads∨24<FI pr.threads):
  Calls Tryz.prog 36 #[.string s,.func (.func 37) #[] #[],.func (.func 38) #[] #[]] w fun e w'=>e=.returned (.tuple #[.agg #[.int .i64 0,.slice none 0 0,.slice none 0 0],.agg #[.int .i64 3,.int .i64 0,.int .i64 0]])∧BA (fun _=>False) w w':=by
 obtain⟨V1,B6,hV1,hB6,hb6,hk1,hs1⟩:=BC w (.cells #[.int .i64 0,.slice none 0 0,.slice none 0 0] TPr)
 obtain⟨V,B7,hV,hB7,hb7,hk2,hs2⟩:=BC V1 (.cells #[.int .i64 0,.int .i64 0,.int .i64 0] TFa)
 have hk:=hk1.trans hk2
 have hALL:=all_room hall hne V (hk.tabS hT)
 have HALL:=hid hALL
 have HBE:=hid fun W=>behind_any s hss W
 have h67:B6+1=B7:=by omega
 have HK:=hid hk;have HB6:=hid (hk2.blk hb6);have HB7:=hid hb7;have HX:=hid hx;have HTHL:=hid hthl;have HSZ:=hid hsz;have HDP:=hid hdp
 have HN:=hid (show w.heap.size≤B6∧B6<B7∧B7<V.heap.size by omega)
 clear hT hall hss hx hthl hne hsz hdp hb6 hb7 hk1 hk2 hs1 hs2 hk hALL
 go_enter_defers Tryz.func36,Tryz.ntmps36
 go_upto_region 1 with fail
 rw[←hV1,←hB6,←hV,h67]
 clear hV1 hB6 hV hB7 h67
 go_wp2_with fail
 go_at_call 64
 refine HALL.out.mono ?_
 rintro e w1 ⟨g,cap,rfl,hrow,hc1,hc2,hg,hk⟩
 have HK1:=hid hk;have HROW:=hid hrow;have HCAP:=hid (And.intro hc1 hc2);have HG:=hid hg
 have hb71:=hk.blk HB7.out
 have HB71:=hid hb71
 obtain⟨n0,n1,n2,f0,f1,f2⟩:=BY hb71
 clear hk hrow hc1 hc2 hg hb71
 go_upto_region 2 with fail
 obtain⟨w2,hw2,hb2,hk2⟩:=put3 HB71.out (.int .i64 0) (.int .i64 0) (.int .i64 0)
 rw[←hw2]
 have hn:=HN.out
 have HB72:=hid hb2
 have HB62:=hid (hk2.blkE (HK1.out.blk HB6.out) fun e=>by have e:B6=B7:=e;omega)
 have HROW2:=hid (show RowI w2 (some ⟨g,0,none⟩) its∧g<w2.heap.size∧g≠B7∧g≠B6 from by
  have hg:=HG.out
  have h7:g≠B7:=by omega
  exact⟨HROW.out.keep hk2 (fun a ha e=>by cases ha;exact h7 e),Nat.lt_of_lt_of_le hg.1 hk2.size,h7,by omega⟩)
 have HK2:=hid (show BA (fun b=>b=B7) w w2 from((HK.out.trans HK1.out).mono fun _ e=>e.elim).trans hk2)
 clear hw2 hb2 hk2 hn n0 n1 n2 f0 f1 f2
 obtain⟨n0,n1,n2,-⟩:=BY HB72.out
 go_upto_region 5 with fail
 clear n0 n1 n2
 go_wp2_with fail
 go_at_call 66
 refine(HBE.out w2).mono ?_
 rintro e w3 ⟨el,ec,rfl,hk3⟩
 obtain⟨W4,R,hW4,hR,hbr,hk4,hs4⟩:=BC w3 (.cells #[.slice (some ⟨g,0,none⟩) its.length cap,.int .i64 0,.string ⟨#[]⟩,.int .i64 0,.int .i64 el,.int .i64 ec] TRd)
 have hk34:=hk3.trans hk4
 have HR4:=hid (show BE W4 R its el ec from⟨some ⟨g,0,none⟩,cap,hbr,HROW2.out.1.keep hk34 (fun _ _ e=>e),fun a ha=>by cases ha;have:=HROW2.out.2.1;have:=hk3.size;show g<R;omega,HCAP.out⟩)
 have HRE:=hid (HX.out R el ec W4 HR4.out)
 have HB64:=hid (hk34.blk HB62.out);have HB74:=hid (hk34.blk HB72.out)
 have HK4:=hid (HK2.out.newM hk34 fun _ e=>e.elim)
 have HN4:=hid (show B7<R∧R<W4.heap.size∧w2.heap.size≤R by
  have h1:=(AG.1 HB72.out).1
  have h2:=hk3.size
  omega)
 clear hk3 hk4 hk34 hbr hs4
 go_wp2_with fail
 rw[←hW4,←hR]
 clear hW4 hR
 go_at_call 37
 refine HRE.out.mono ?_
 rintro e w5 ⟨vs,rfl,hex,hk5⟩
 obtain⟨xn,xp,xm,xc,yp,ym,yc,rfl⟩:=prg_form hex
 have hn:=HN.out;have hn4:=HN4.out
 have hb65:=hk5.blkE HB64.out fun e=>by have e:B6=R:=e;omega
 have HB65:=hid hb65
 have HB75:=hid (hk5.blkE HB74.out fun e=>by have e:B7=R:=e;omega)
 have HEX:=hid hex;have HK5:=hid hk5
 obtain⟨m0,m1,m2,f0,f1,f2⟩:=BY hb65
 clear hex hk5 hb65 hn hn4
 go_upto_region 6 with fail
 obtain⟨w6,hw6,hb6,hk6⟩:=put3 HB65.out (.int .i64 xn) (.slice xp xm xc) (.slice yp ym yc)
 rw[←hw6]
 have hn:=HN.out;have hn4:=HN4.out
 have HB66:=hid hb6
 have HB76:=hid (hk6.blkE HB75.out fun e=>by have e:B7=B6:=e;omega)
 have HEX6:=hid (HEX.out.keep hk6 fun b hb e=>by have e:b=B6:=e;have hb:W4.heap.size≤b:=hb;omega)
 have HKW6:=hid (show BA (fun _=>False) w w6 from⟨hk6.os.trans (HK5.out.os.trans HK4.out.os),hk6.tape.trans (HK5.out.tape.trans HK4.out.tape),hk6.output.trans (HK5.out.output.trans HK4.out.output),Nat.le_trans HK4.out.size (Nat.le_trans HK5.out.size hk6.size),fun b hb _=>by
  have h1:=HK4.out.size
  rw[hk6.block b (Nat.lt_of_lt_of_le hb (Nat.le_trans HK4.out.size HK5.out.size)) (show ¬b=B6 by omega),HK5.out.block b (by omega) (show ¬b=R by omega),HK4.out.block b hb (show ¬b=B7 by omega)]⟩)
 have HWG:=hid (weighP_any pr (by have:=HSZ.out;omega) HTHL.out w6 _ _ HEX6.out)
 obtain⟨c0,c1,c2,-⟩:=BY hb6
 clear hw6 hb6 hk6 hn hn4 m0 m1 m2 f0 f1 f2
 go_wp2_with fail
 go_at_call 38
 refine HWG.out.mono ?_
 rintro e w7 ⟨rfl,hk7⟩
 have HKW7:=hid (HKW6.out.trans hk7)
 have HB67:=hid (hk7.blk HB66.out);have HB77:=hid (hk7.blk HB76.out);have HEX7:=hid (HEX6.out.keep hk7 fun _ _ e=>e)
 clear hk7 c0 c1 c2
 by_cases h6:600<CP pr.threads
 ·have h600:decide ((600:Int)<(CP pr.threads:Int))=true:=decide_eq_true (by omega)
  go_wp2_with fail
  refine leaves_cons (f:=75) (args:=#[.pointer (some ⟨B6,0,none⟩),.pointer (some ⟨B7,0,none⟩)]) (by simp) (by simp[go_sem]) ?_
  refine(catch_faultP B6 B7 xn xp yp xm xc ym yc 0 0 0 3 0 0 [] w7 HB67.out HB77.out (by have:=HN.out;omega)).mono ?_
  rintro e u' w'' ⟨rfl,rfl,g6,g7,hkf⟩
  obtain⟨c0,c1,c2,-⟩:=BY g6
  obtain⟨d0,d1,d2,-⟩:=BY g7
  have hkE:BA (fun _=>False) w w'':=HKW7.out.new hkf fun b hb=>by have:=HN.out;omega
  exact⟨.tuple #[.agg #[.int .i64 0,.slice none 0 0,.slice none 0 0],.agg #[.int .i64 3,.int .i64 0,.int .i64 0]],by simp[results,Tryz.results36,go_sem,c0,c1,c2,d0,d1,d2],rfl,hkE⟩
 ·have h600:decide ((600:Int)<(CP pr.threads:Int))=false:=decide_eq_false (by omega)
  have h24:decide ((24:Int)<(FI pr.threads:Int))=true:=decide_eq_true (by have:=HDP.out;omega)
  go_wp2_with fail
  refine leaves_cons (f:=75) (args:=#[.pointer (some ⟨B6,0,none⟩),.pointer (some ⟨B7,0,none⟩)]) (by simp) (by simp[go_sem]) ?_
  refine(catch_faultP B6 B7 xn xp yp xm xc ym yc 0 0 0 3 0 0 [] w7 HB67.out HB77.out (by have:=HN.out;omega)).mono ?_
  rintro e u' w'' ⟨rfl,rfl,g6,g7,hkf⟩
  obtain⟨c0,c1,c2,-⟩:=BY g6
  obtain⟨d0,d1,d2,-⟩:=BY g7
  have hkE:BA (fun _=>False) w w'':=HKW7.out.new hkf fun b hb=>by have:=HN.out;omega
  exact⟨.tuple #[.agg #[.int .i64 0,.slice none 0 0,.slice none 0 0],.agg #[.int .i64 3,.int .i64 0,.int .i64 0]],by simp[results,Tryz.results36,go_sem,c0,c1,c2,d0,d1,d2],rfl,hkE⟩
theorem prog_lex (s:ByteArray)(er li co:Nat)(her:er≠0)(w:World)(hT:TabS w)(hall:allT s.data.toList=([],⟨er,li,co⟩)):
  Calls Tryz.prog 16 #[.string s] w fun e w'=>e=.returned (.tuple #[.agg #[.int .i64 0,.slice none 0 0,.slice none 0 0],.agg #[.int .i64 er,.int .i64 li,.int .i64 co]])∧BA (fun _=>False) w w':=
 prog_flt s er li co w hT fun w hT=>readingP_lex s er li co her w hT hall
theorem prog_gives (s:ByteArray)(its b:List Item)(w:World)(hT:TabS w)(hall:allT s.data.toList=(its,⟨0,0,0⟩))(hss:s.size≤1000000)
  (hG:∀(R el ec:Nat) (W:World),BE W R its el ec→Calls Tryz.prog 37 #[rdV R] W fun e w'=>e=.panicked (DJ b el ec)∧BA (fun b=>b=R) W w'):
  Calls Tryz.prog 16 #[.string s] w fun e w'=>e=.returned (.tuple #[.agg #[.int .i64 0,.slice none 0 0,.slice none 0 0],.agg #[.int .i64 9,.int .i64 (lineOf b (bhT s.data.toList).1),.int .i64 (colOf b (bhT s.data.toList).2)]])∧BA (fun _=>False) w w':=
 prog_flt s 9 _ _ w hT fun w hT=>readingP_gives s its w hT hall hss b hG
theorem prog_long (s:ByteArray)(its:List Item)(pr:Pr)(w:World)(hT:TabS w)(hall:allT s.data.toList=(its,⟨0,0,0⟩))(hss:s.size≤1000000)(hx:∀R el ec,ReadsP R el ec its pr)(hthl:pr.threads.length≤1000000)(hne:its≠[])(hsz:CP pr.threads≤1000000)(hdp:600<CP pr.threads∨24<FI pr.threads):
  Calls Tryz.prog 16 #[.string s] w fun e w'=>e=.returned (.tuple #[.agg #[.int .i64 0,.slice none 0 0,.slice none 0 0],.agg #[.int .i64 3,.int .i64 0,.int .i64 0]])∧BA (fun _=>False) w w':=
 prog_flt s 3 0 0 w hT fun w hT=>readingP_long s its pr w hT hall hss hx hthl hne hsz hdp
end Go.Proofs.YtomlffobbkcmdaaGreatDoor
