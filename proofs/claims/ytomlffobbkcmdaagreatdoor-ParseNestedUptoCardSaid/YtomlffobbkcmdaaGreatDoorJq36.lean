/- Joined texts of this work: Sb3. -/
import Derived.Test.YtomlffobbkcmdaaGreatDoorJq35
import Derived.Test.YtomlffobbkcmdaaGreatDoorJq18
import Derived.Test.YtomlffobbkcmdaaGreatDoorJq20
/-
  Package parse: stmt, where a reserved word comes first.
-/
namespace Go.Proofs.YtomlffobbkcmdaaGreatDoor
open Go Go.RowKit Own
open Go.Lib (hid)
set_option maxRecDepth 4000 in
set_option maxHeartbeats 32000000 in
theorem stmt_var (R el ec f:Nat) (t:Item) (r0 r:List Item) (h0:headIs (t::r0) [118,97,114]=true) (tn0:Item) (r1 r2 r3:List Item) (x:Ex) (hq:r0=tn0::r1) (hk0:tn0.tok.kind=2) (hm1:mustT [[61]] r1=some r2) (hx1:exP f r2=some (x,r3)) (hm2:mustT [[59]] r3=some r):ReadsS R el ec (t::r0) r (.mk 1 tn0.tok.text 0 0 [] [] [] [x] [] [] t.line t.col):=by
 intro w hr
 obtain ⟨S,hS⟩:∃ S,tn0.tok.text=S:=⟨_,rfl⟩
 rw [hS]
 have HSN:=hid hS
 clear hS
 obtain ⟨V1,B2,hV1,hB2,hb2,hk1,hs1⟩:=fresh_block w (.cells #[.int .i64 0,.string ⟨#[]⟩,.int .i64 0,.int .i64 0,.string ⟨#[]⟩,.string ⟨#[]⟩,.string ⟨#[]⟩,.slice none 0 0,.slice none 0 0,.slice none 0 0,.int .i64 0,.int .i64 0] TSm)
 have HPK:=hid (peek_cons (hr.keep hk1 fun _ _ e=>e))
 obtain ⟨T,hT⟩:∃ T,t.tok.text=T:=⟨_,rfl⟩
 obtain ⟨tk,htk⟩:∃ n:Int,(t.tok.kind:Int)=n:=⟨_,rfl⟩
 obtain ⟨tn,htn⟩:∃ n:Int,(t.tok.num:Int)=n:=⟨_,rfl⟩
 obtain ⟨tl,htl⟩:∃ n:Nat,t.line=n:=⟨_,rfl⟩
 obtain ⟨tc,htc⟩:∃ n:Nat,t.col=n:=⟨_,rfl⟩
 rw [hT,htk,htn,htl,htc] at HPK
 rw [htl,htc]
 have HR1:=hid (hr.keep hk1 fun _ _ e=>e);have HK1:=hid hk1;have HB2:=hid hb2
 have HN:=hid (show R<w.heap.size∧w.heap.size≤B2∧B2<V1.heap.size from ⟨hr.lt,by omega,by omega⟩)
 have Hh0:=hid h0
 have Hhq:=hid hq
 have Hhk0:=hid hk0
 have Hhm1:=hid hm1
 have Hhx1:=hid hx1
 have Hhm2:=hid hm2
 clear hr hb2 hk1 hs1 hT htk htn htl htc h0 hq hk0 hm1 hx1 hm2
 go_enter Tryz.func103,Tryz.ntmps103
 go_upto_region 1 with fail
 rw [←hV1,←hB2]
 clear hV1 hB2
 go_wp2_with fail
 go_at_call 74
 refine HPK.out.mono ?_
 rintro e W1 ⟨rfl,hkp⟩
 obtain ⟨V2,B3,hV2,hB3,hb3,hk2,hs2⟩:=fresh_block W1 (.cells #[.int .i64 tk,.string ⟨T.toArray⟩,.int .i64 tn,.int .i64 tl,.int .i64 tc] TTk)
 obtain ⟨V,B4,hV,hB4,hb4,hk3,hs3⟩:=fresh_block V2 (.cells #[.int .i64 0,.string ⟨#[]⟩,.int .i64 0,.int .i64 0,.string ⟨#[]⟩,.string ⟨#[]⟩,.string ⟨#[]⟩,.slice none 0 0,.slice none 0 0,.slice none 0 0,.int .i64 tl,.int .i64 tc] TSm)
 have hkv:=(hkp.trans hk2).trans hk3
 have HN4:=hid (show B2<B4∧B4<V.heap.size∧w.heap.size≤B4 by have:=HN.out;have:=hkp.size;omega)
 have HS0:=hid (show SmAt True (fun b=>b=R) w V R el ec B4 B2 (t::r0) 0 0 0 tl tc [] [] [] [] [] [] [] from
  ⟨HR1.out.keep hkv fun _ _ e=>e,⟨none,0,none,0,none,0,hb4,by unfold KidsAt;trivial,by unfold StsAt;trivial,by unfold StsAt;trivial⟩,fun _=>⟨hkv.blk HB2.out,by have:=HN.out;omega,by have:=HN4.out;omega⟩,(HK1.out.trans hkv).mono fun b e=>(e.elim:b=R),by have:=HN.out;have:=HN4.out;omega,fun b e=>e.elim .inl fun e=>.inr (by have:=HN4.out;omega)⟩)
 obtain ⟨n0,n1,n2,n3,n4,-⟩:=blk5 hb3
 have h34:B3+1=B4:=by omega
 clear hkp hb3 hb4 hk2 hk3 hs2 hs3 hkv
 go_upto_region 2 with fail
 rw [←hV2,←hB3]
 clear hV2 hB3
 go_upto_region 4 with fail
 rw [←hV,←hB4]
 clear hV hB4 n0 n1 n2 n3 n4 h34 HPK HR1 HK1 HB2
 have HQ:=hid (by have h:=may_any V R _ el ec HS0.out.rd [118,97,114];rw [Hh0.out,if_pos rfl] at h;exact h)
 go_wp2_with fail
 go_at_call 101
 refine HQ.out.mono ?_
 rintro e W11 ⟨rfl,hr,hk⟩
 have HS11:=hid (HS0.out.call hr hk)
 clear hr hk
 have HQ:=hid (by have h:=HS11.out.rd;rw [show (t::r0).tail=tn0::r1 from Hhq.out] at h;have h:=name_str h Hhk0.out;rw [HSN.out] at h;exact h)
 go_wp2_with fail
 go_at_call 79
 refine (HQ.out).mono ?_
 rintro e W12 ⟨rfl,hr,hk⟩
 have HS12:=hid (HS11.out.call hr hk)
 clear hr hk
 obtain ⟨p1,c1,p2,c2,p3,c3,hb,hx,ht,he⟩:=HS12.out.ex
 have HB:=hid hb;have HX:=hid hx;have HT:=hid ht;have HE:=hid he
 obtain ⟨n0,n1,-,-,-,-,-,-,-,-,-,-⟩:=blk12 hb
 have f0:=frz12 hb 0
 have f1:=frz12 hb 1
 clear hb hx ht he
 go_upto_region 6 with fail
 clear n0 f0 n1 f1
 obtain ⟨V13_0,hV0,hb0,hk0⟩:=s_put0 (HB.out) (.int .i64 1)
 rw [←hV0]
 obtain ⟨W13,hV1,hb1,hk1⟩:=s_put1 (hb0) (.string ⟨S.toArray⟩)
 rw [←hV1]
 have HS13:=hid (HS12.out.put ((hk0).trans hk1) hb1 (HX.out) (HT.out) (HE.out))
 clear hV0 hb0 hk0 hV1 hb1 hk1 HB HX HT HE
 have HQ:=hid (must1 HS13.out.rd [61] _ Hhm1.out)
 go_wp2_with fail
 go_at_call 76
 refine (HQ.out).mono ?_
 rintro e W14 ⟨rfl,hr,hk⟩
 have HS14:=hid (HS13.out.call hr hk)
 clear hr hk
 have HQ:=hid (exP_reads R el ec f W14 W14 _ x _ (KeepBut.refl _ _) HS14.out.rd Hhx1.out)
 go_wp2_with fail
 go_at_call 32
 refine HQ.out.mono ?_
 rintro e X15 ⟨vs,rfl,hex,hr,hk⟩
 obtain ⟨xk,xo,xn,xS,xp,xm,xc,xl,xcl,rfl⟩:=ex_form hex
 obtain ⟨Y15,G15,hY,hG,hbG,hkG,hsG⟩:=fresh_block X15 (.cells #[.int .i64 xk,.int .i64 xo,.int .i64 xn,.string xS,.slice xp xm xc,.int .i64 xl,.int .i64 xcl] TEx)
 obtain ⟨hs,hkd⟩:=HS14.out.expr hex hr hk hkG hbG (by omega)
 have HSY:=hid hs;have HKD:=hid hkd
 obtain ⟨p1,c1,p2,c2,p3,c3,hb,hx,ht,he⟩:=(HS14.out.call hr hk).ex
 have hb:=(KeepBut.alloc (fun _=>False) X15 (.cells #[.int .i64 xk,.int .i64 xo,.int .i64 xn,.string xS,.slice xp xm xc,.int .i64 xl,.int .i64 xcl] TEx)).blk hb
 obtain ⟨-,-,-,-,-,-,-,n7,-,-,-,-⟩:=blk12 hb
 have f7:=frz12 hb 7
 clear hb hx ht he hs hkd hex hr hk hbG hkG hsG
 go_upto_region 8 with fail
 rw [←hY,←hG]
 clear hY hG
 clear n7 f7
 obtain ⟨p1,c1,p2,c2,p3,c3,hb,hx,ht,he⟩:=HSY.out.ex
 have HB:=hid hb;have HX:=hid hx;have HT:=hid ht;have HE:=hid he
 clear hb hx ht he
 obtain ⟨W15,hV0,hb0,hk0⟩:=s_put7 (HB.out) (.slice (some ⟨G15,0,none⟩) 1 1)
 rw [←hV0]
 have HS15:=hid (HSY.out.put (xs':=[x]) (hk0) hb0 (HKD.out) (HT.out) (HE.out))
 clear hV0 hb0 hk0 HB HX HT HE
 clear HSY HKD
 have HQ:=hid (must1 HS15.out.rd [59] _ Hhm2.out)
 go_wp2_with fail
 go_at_call 76
 refine (HQ.out).mono ?_
 rintro e W16 ⟨rfl,hr,hk⟩
 have HS16:=hid (HS15.out.call hr hk)
 clear hr hk
 obtain ⟨vs,hb8,hst⟩:=SmAt.st (k:=1) (sz:=0) (op:=0) (l:=tl) (cl:=tc) HS16.out
 obtain ⟨s0,s1,s2,s3,s4,s5,s6,p1,m1,c1,p2,m2,c2,p3,m3,c3,s10,s11,rfl⟩:=st_form hst
 have hb28:=(HS16.out.b2 trivial).1
 have HB28:=hid hb28;have HST:=hid hst
 obtain ⟨n0,n1,n2,n3,n4,n5,n6,n7,n8,n9,n10,n11⟩:=blk12 hb8
 obtain ⟨q0,q1,q2,q3,q4,q5,q6,q7,q8,q9,q10,q11⟩:=blk12 hb28
 have fz:=frz12 hb28
 have f0:=fz 0;have f1:=fz 1;have f2:=fz 2;have f3:=fz 3;have f4:=fz 4;have f5:=fz 5;have f6:=fz 6;have f7:=fz 7;have f8:=fz 8;have f9:=fz 9;have f10:=fz 10;have f11:=fz 11
 clear hb8 hst hb28 fz
 go_wp2_with fail
 obtain ⟨wf,hwf,hp,hkp⟩:=put12 HB28.out (.int .i64 s0) (.string s1) (.int .i64 s2) (.int .i64 s3) (.string s4) (.string s5) (.string s6) (.slice p1 m1 c1) (.slice p2 m2 c2) (.slice p3 m3 c3) (.int .i64 s10) (.int .i64 s11)
 rw [←hwf]
 obtain ⟨c0,d1,d2,d3,d4,d5,d6,d7,d8,d9,d10,d11⟩:=blk12 hp
 have hn:=HN.out
 exact bodyPost_ret (v:=.agg #[.int .i64 s0,.string s1,.int .i64 s2,.int .i64 s3,.string s4,.string s5,.string s6,.slice p1 m1 c1,.slice p2 m2 c2,.slice p3 m3 c3,.int .i64 s10,.int .i64 s11]) (by simp [results,Tryz.results103,go_sem,c0,d1,d2,d3,d4,d5,d6,d7,d8,d9,d10,d11]) rfl ⟨_,rfl,(HST.out.keep hkp fun b hb e=>hb.2.2 e).mono fun b hb=>hb.1,HS16.out.rd.keep hkp fun b hb e=>by have e:b=B2:=e;omega,HS16.out.keep.newE hkp fun b e=>by have e:b=B2:=e;omega⟩
set_option maxRecDepth 4000 in
set_option maxHeartbeats 32000000 in
theorem stmt_array (R el ec f:Nat) (t:Item) (r0 r:List Item) (h0:headIs (t::r0) [118,97,114]=false) (h1:headIs (t::r0) [97,114,114,97,121]=true) (tn0 tm:Item) (r1 r2 r3:List Item) (hq:r0=tn0::r1) (hk0:tn0.tok.kind=2) (hm1:mustT [[91]] r1=some (tm::r3)) (hkm:tm.tok.kind=3) (hm2:mustT [[93],[59]] r3=some r):ReadsS R el ec (t::r0) r (.mk 2 tn0.tok.text tm.tok.num 0 [] [] [] [] [] [] t.line t.col):=by
 intro w hr
 obtain ⟨S,hS⟩:∃ S,tn0.tok.text=S:=⟨_,rfl⟩
 rw [hS]
 have HSN:=hid hS
 clear hS
 obtain ⟨V1,B2,hV1,hB2,hb2,hk1,hs1⟩:=fresh_block w (.cells #[.int .i64 0,.string ⟨#[]⟩,.int .i64 0,.int .i64 0,.string ⟨#[]⟩,.string ⟨#[]⟩,.string ⟨#[]⟩,.slice none 0 0,.slice none 0 0,.slice none 0 0,.int .i64 0,.int .i64 0] TSm)
 have HPK:=hid (peek_cons (hr.keep hk1 fun _ _ e=>e))
 obtain ⟨T,hT⟩:∃ T,t.tok.text=T:=⟨_,rfl⟩
 obtain ⟨tk,htk⟩:∃ n:Int,(t.tok.kind:Int)=n:=⟨_,rfl⟩
 obtain ⟨tn,htn⟩:∃ n:Int,(t.tok.num:Int)=n:=⟨_,rfl⟩
 obtain ⟨tl,htl⟩:∃ n:Nat,t.line=n:=⟨_,rfl⟩
 obtain ⟨tc,htc⟩:∃ n:Nat,t.col=n:=⟨_,rfl⟩
 rw [hT,htk,htn,htl,htc] at HPK
 rw [htl,htc]
 have HR1:=hid (hr.keep hk1 fun _ _ e=>e);have HK1:=hid hk1;have HB2:=hid hb2
 have HN:=hid (show R<w.heap.size∧w.heap.size≤B2∧B2<V1.heap.size from ⟨hr.lt,by omega,by omega⟩)
 have Hh0:=hid h0
 have Hh1:=hid h1
 have Hhq:=hid hq
 have Hhk0:=hid hk0
 have Hhm1:=hid hm1
 have Hhkm:=hid hkm
 have Hhm2:=hid hm2
 clear hr hb2 hk1 hs1 hT htk htn htl htc h0 h1 hq hk0 hm1 hkm hm2
 go_enter Tryz.func103,Tryz.ntmps103
 go_upto_region 1 with fail
 rw [←hV1,←hB2]
 clear hV1 hB2
 go_wp2_with fail
 go_at_call 74
 refine HPK.out.mono ?_
 rintro e W1 ⟨rfl,hkp⟩
 obtain ⟨V2,B3,hV2,hB3,hb3,hk2,hs2⟩:=fresh_block W1 (.cells #[.int .i64 tk,.string ⟨T.toArray⟩,.int .i64 tn,.int .i64 tl,.int .i64 tc] TTk)
 obtain ⟨V,B4,hV,hB4,hb4,hk3,hs3⟩:=fresh_block V2 (.cells #[.int .i64 0,.string ⟨#[]⟩,.int .i64 0,.int .i64 0,.string ⟨#[]⟩,.string ⟨#[]⟩,.string ⟨#[]⟩,.slice none 0 0,.slice none 0 0,.slice none 0 0,.int .i64 tl,.int .i64 tc] TSm)
 have hkv:=(hkp.trans hk2).trans hk3
 have HN4:=hid (show B2<B4∧B4<V.heap.size∧w.heap.size≤B4 by have:=HN.out;have:=hkp.size;omega)
 have HS0:=hid (show SmAt True (fun b=>b=R) w V R el ec B4 B2 (t::r0) 0 0 0 tl tc [] [] [] [] [] [] [] from
  ⟨HR1.out.keep hkv fun _ _ e=>e,⟨none,0,none,0,none,0,hb4,by unfold KidsAt;trivial,by unfold StsAt;trivial,by unfold StsAt;trivial⟩,fun _=>⟨hkv.blk HB2.out,by have:=HN.out;omega,by have:=HN4.out;omega⟩,(HK1.out.trans hkv).mono fun b e=>(e.elim:b=R),by have:=HN.out;have:=HN4.out;omega,fun b e=>e.elim .inl fun e=>.inr (by have:=HN4.out;omega)⟩)
 obtain ⟨n0,n1,n2,n3,n4,-⟩:=blk5 hb3
 have h34:B3+1=B4:=by omega
 clear hkp hb3 hb4 hk2 hk3 hs2 hs3 hkv
 go_upto_region 2 with fail
 rw [←hV2,←hB3]
 clear hV2 hB3
 go_upto_region 4 with fail
 rw [←hV,←hB4]
 clear hV hB4 n0 n1 n2 n3 n4 h34 HPK HR1 HK1 HB2
 have HQ:=hid (by have h:=may_any V R _ el ec HS0.out.rd [118,97,114];rw [Hh0.out,if_neg Bool.false_ne_true] at h;exact h)
 go_wp2_with fail
 go_at_call 101
 refine HQ.out.mono ?_
 rintro e W11 ⟨rfl,hr,hk⟩
 have HS11:=hid (HS0.out.call hr hk)
 clear hr hk
 have HQ:=hid (by have h:=may_any W11 R _ el ec HS11.out.rd [97,114,114,97,121];rw [Hh1.out,if_pos rfl] at h;exact h)
 go_wp2_with fail
 go_at_call 101
 refine HQ.out.mono ?_
 rintro e W12 ⟨rfl,hr,hk⟩
 have HS12:=hid (HS11.out.call hr hk)
 clear hr hk
 have HQ:=hid (by have h:=HS12.out.rd;rw [show (t::r0).tail=tn0::r1 from Hhq.out] at h;have h:=name_str h Hhk0.out;rw [HSN.out] at h;exact h)
 go_wp2_with fail
 go_at_call 79
 refine (HQ.out).mono ?_
 rintro e W13 ⟨rfl,hr,hk⟩
 have HS13:=hid (HS12.out.call hr hk)
 clear hr hk
 obtain ⟨p1,c1,p2,c2,p3,c3,hb,hx,ht,he⟩:=HS13.out.ex
 have HB:=hid hb;have HX:=hid hx;have HT:=hid ht;have HE:=hid he
 obtain ⟨n0,n1,-,-,-,-,-,-,-,-,-,-⟩:=blk12 hb
 have f0:=frz12 hb 0
 have f1:=frz12 hb 1
 clear hb hx ht he
 go_upto_region 11 with fail
 clear n0 f0 n1 f1
 obtain ⟨V14_0,hV0,hb0,hk0⟩:=s_put0 (HB.out) (.int .i64 2)
 rw [←hV0]
 obtain ⟨W14,hV1,hb1,hk1⟩:=s_put1 (hb0) (.string ⟨S.toArray⟩)
 rw [←hV1]
 have HS14:=hid (HS13.out.put ((hk0).trans hk1) hb1 (HX.out) (HT.out) (HE.out))
 clear hV0 hb0 hk0 hV1 hb1 hk1 HB HX HT HE
 have HQ:=hid (must1 HS14.out.rd [91] _ Hhm1.out)
 go_wp2_with fail
 go_at_call 76
 refine (HQ.out).mono ?_
 rintro e W15 ⟨rfl,hr,hk⟩
 have HS15:=hid (HS14.out.call hr hk)
 clear hr hk
 obtain ⟨S2,hS2⟩:∃ S,tm.tok.text=S:=⟨_,rfl⟩
 have HQ:=hid (by have h:=want_cons HS15.out.rd 3 (by have:=Hhkm.out;omega);rw [hS2] at h;exact h)
 clear hS2
 go_wp2_with fail
 go_at_call 77
 refine (HQ.out).mono ?_
 rintro e W16 ⟨rfl,hr,hk⟩
 have HS16:=hid (HS15.out.call hr hk)
 clear hr hk
 obtain ⟨p1,c1,p2,c2,p3,c3,hb,hx,ht,he⟩:=HS16.out.ex
 have HB:=hid hb;have HX:=hid hx;have HT:=hid ht;have HE:=hid he
 obtain ⟨-,-,n2,-,-,-,-,-,-,-,-,-⟩:=blk12 hb
 have f2:=frz12 hb 2
 clear hb hx ht he
 have hfn:=field_num (.int .i64 tm.tok.kind) (.string ⟨S2.toArray⟩) (.int .i64 tm.tok.num) (.int .i64 tm.line) (.int .i64 tm.col) W16
 go_upto_region 13 with fail
 clear n2 f2 hfn
 obtain ⟨W17,hV0,hb0,hk0⟩:=s_put2 (HB.out) (.int .i64 tm.tok.num)
 rw [←hV0]
 have HS17:=hid (HS16.out.put (hk0) hb0 (HX.out) (HT.out) (HE.out))
 clear hV0 hb0 hk0 HB HX HT HE
 have HQ:=hid (must2 HS17.out.rd [93] [59] _ Hhm2.out)
 go_wp2_with fail
 go_at_call 76
 refine (HQ.out).mono ?_
 rintro e W18 ⟨rfl,hr,hk⟩
 have HS18:=hid (HS17.out.call hr hk)
 clear hr hk
 obtain ⟨vs,hb8,hst⟩:=SmAt.st (k:=2) (sz:=tm.tok.num) (op:=0) (l:=tl) (cl:=tc) HS18.out
 obtain ⟨s0,s1,s2,s3,s4,s5,s6,p1,m1,c1,p2,m2,c2,p3,m3,c3,s10,s11,rfl⟩:=st_form hst
 have hb28:=(HS18.out.b2 trivial).1
 have HB28:=hid hb28;have HST:=hid hst
 obtain ⟨n0,n1,n2,n3,n4,n5,n6,n7,n8,n9,n10,n11⟩:=blk12 hb8
 obtain ⟨q0,q1,q2,q3,q4,q5,q6,q7,q8,q9,q10,q11⟩:=blk12 hb28
 have fz:=frz12 hb28
 have f0:=fz 0;have f1:=fz 1;have f2:=fz 2;have f3:=fz 3;have f4:=fz 4;have f5:=fz 5;have f6:=fz 6;have f7:=fz 7;have f8:=fz 8;have f9:=fz 9;have f10:=fz 10;have f11:=fz 11
 clear hb8 hst hb28 fz
 go_wp2_with fail
 obtain ⟨wf,hwf,hp,hkp⟩:=put12 HB28.out (.int .i64 s0) (.string s1) (.int .i64 s2) (.int .i64 s3) (.string s4) (.string s5) (.string s6) (.slice p1 m1 c1) (.slice p2 m2 c2) (.slice p3 m3 c3) (.int .i64 s10) (.int .i64 s11)
 rw [←hwf]
 obtain ⟨c0,d1,d2,d3,d4,d5,d6,d7,d8,d9,d10,d11⟩:=blk12 hp
 have hn:=HN.out
 exact bodyPost_ret (v:=.agg #[.int .i64 s0,.string s1,.int .i64 s2,.int .i64 s3,.string s4,.string s5,.string s6,.slice p1 m1 c1,.slice p2 m2 c2,.slice p3 m3 c3,.int .i64 s10,.int .i64 s11]) (by simp [results,Tryz.results103,go_sem,c0,d1,d2,d3,d4,d5,d6,d7,d8,d9,d10,d11]) rfl ⟨_,rfl,(HST.out.keep hkp fun b hb e=>hb.2.2 e).mono fun b hb=>hb.1,HS18.out.rd.keep hkp fun b hb e=>by have e:b=B2:=e;omega,HS18.out.keep.newE hkp fun b e=>by have e:b=B2:=e;omega⟩
set_option maxRecDepth 4000 in
set_option maxHeartbeats 32000000 in
theorem stmt_if (R el ec f:Nat) (t:Item) (r0 r:List Item) (h0:headIs (t::r0) [118,97,114]=false) (h1:headIs (t::r0) [97,114,114,97,121]=false) (h2:headIs (t::r0) [105,102]=true) (r1:List Item) (x:Ex) (a:List St) (hx1:exP f r0=some (x,r1)) (hb1:ReadsB R el ec r1 r a) (hel:headIs r [101,108,115,101]=false):ReadsS R el ec (t::r0) r (.mk 5 [] 0 0 [] [] [] [x] a [] t.line t.col):=by
 intro w hr
 obtain ⟨V1,B2,hV1,hB2,hb2,hk1,hs1⟩:=fresh_block w (.cells #[.int .i64 0,.string ⟨#[]⟩,.int .i64 0,.int .i64 0,.string ⟨#[]⟩,.string ⟨#[]⟩,.string ⟨#[]⟩,.slice none 0 0,.slice none 0 0,.slice none 0 0,.int .i64 0,.int .i64 0] TSm)
 have HPK:=hid (peek_cons (hr.keep hk1 fun _ _ e=>e))
 obtain ⟨T,hT⟩:∃ T,t.tok.text=T:=⟨_,rfl⟩
 obtain ⟨tk,htk⟩:∃ n:Int,(t.tok.kind:Int)=n:=⟨_,rfl⟩
 obtain ⟨tn,htn⟩:∃ n:Int,(t.tok.num:Int)=n:=⟨_,rfl⟩
 obtain ⟨tl,htl⟩:∃ n:Nat,t.line=n:=⟨_,rfl⟩
 obtain ⟨tc,htc⟩:∃ n:Nat,t.col=n:=⟨_,rfl⟩
 rw [hT,htk,htn,htl,htc] at HPK
 rw [htl,htc]
 have HR1:=hid (hr.keep hk1 fun _ _ e=>e);have HK1:=hid hk1;have HB2:=hid hb2
 have HN:=hid (show R<w.heap.size∧w.heap.size≤B2∧B2<V1.heap.size from ⟨hr.lt,by omega,by omega⟩)
 have Hh0:=hid h0
 have Hh1:=hid h1
 have Hh2:=hid h2
 have Hhx1:=hid hx1
 have Hhb1:=hid hb1
 have Hhel:=hid hel
 clear hr hb2 hk1 hs1 hT htk htn htl htc h0 h1 h2 hx1 hb1 hel
 go_enter Tryz.func103,Tryz.ntmps103
 go_upto_region 1 with fail
 rw [←hV1,←hB2]
 clear hV1 hB2
 go_wp2_with fail
 go_at_call 74
 refine HPK.out.mono ?_
 rintro e W1 ⟨rfl,hkp⟩
 obtain ⟨V2,B3,hV2,hB3,hb3,hk2,hs2⟩:=fresh_block W1 (.cells #[.int .i64 tk,.string ⟨T.toArray⟩,.int .i64 tn,.int .i64 tl,.int .i64 tc] TTk)
 obtain ⟨V,B4,hV,hB4,hb4,hk3,hs3⟩:=fresh_block V2 (.cells #[.int .i64 0,.string ⟨#[]⟩,.int .i64 0,.int .i64 0,.string ⟨#[]⟩,.string ⟨#[]⟩,.string ⟨#[]⟩,.slice none 0 0,.slice none 0 0,.slice none 0 0,.int .i64 tl,.int .i64 tc] TSm)
 have hkv:=(hkp.trans hk2).trans hk3
 have HN4:=hid (show B2<B4∧B4<V.heap.size∧w.heap.size≤B4 by have:=HN.out;have:=hkp.size;omega)
 have HS0:=hid (show SmAt True (fun b=>b=R) w V R el ec B4 B2 (t::r0) 0 0 0 tl tc [] [] [] [] [] [] [] from
  ⟨HR1.out.keep hkv fun _ _ e=>e,⟨none,0,none,0,none,0,hb4,by unfold KidsAt;trivial,by unfold StsAt;trivial,by unfold StsAt;trivial⟩,fun _=>⟨hkv.blk HB2.out,by have:=HN.out;omega,by have:=HN4.out;omega⟩,(HK1.out.trans hkv).mono fun b e=>(e.elim:b=R),by have:=HN.out;have:=HN4.out;omega,fun b e=>e.elim .inl fun e=>.inr (by have:=HN4.out;omega)⟩)
 obtain ⟨n0,n1,n2,n3,n4,-⟩:=blk5 hb3
 have h34:B3+1=B4:=by omega
 clear hkp hb3 hb4 hk2 hk3 hs2 hs3 hkv
 go_upto_region 2 with fail
 rw [←hV2,←hB3]
 clear hV2 hB3
 go_upto_region 4 with fail
 rw [←hV,←hB4]
 clear hV hB4 n0 n1 n2 n3 n4 h34 HPK HR1 HK1 HB2
 have HQ:=hid (by have h:=may_any V R _ el ec HS0.out.rd [118,97,114];rw [Hh0.out,if_neg Bool.false_ne_true] at h;exact h)
 go_wp2_with fail
 go_at_call 101
 refine HQ.out.mono ?_
 rintro e W11 ⟨rfl,hr,hk⟩
 have HS11:=hid (HS0.out.call hr hk)
 clear hr hk
 have HQ:=hid (by have h:=may_any W11 R _ el ec HS11.out.rd [97,114,114,97,121];rw [Hh1.out,if_neg Bool.false_ne_true] at h;exact h)
 go_wp2_with fail
 go_at_call 101
 refine HQ.out.mono ?_
 rintro e W12 ⟨rfl,hr,hk⟩
 have HS12:=hid (HS11.out.call hr hk)
 clear hr hk
 have HQ:=hid (by have h:=may_any W12 R _ el ec HS12.out.rd [105,102];rw [Hh2.out,if_pos rfl] at h;exact h)
 go_wp2_with fail
 go_at_call 101
 refine HQ.out.mono ?_
 rintro e W13 ⟨rfl,hr,hk⟩
 have HS13:=hid (HS12.out.call hr hk)
 clear hr hk
 have HQ:=hid (exP_reads R el ec f W13 W13 _ x _ (KeepBut.refl _ _) HS13.out.rd Hhx1.out)
 go_wp2_with fail
 go_at_call 32
 refine HQ.out.mono ?_
 rintro e X14 ⟨vs,rfl,hex,hr,hk⟩
 obtain ⟨xk,xo,xn,xS,xp,xm,xc,xl,xcl,rfl⟩:=ex_form hex
 obtain ⟨Y14,G14,hY,hG,hbG,hkG,hsG⟩:=fresh_block X14 (.cells #[.int .i64 xk,.int .i64 xo,.int .i64 xn,.string xS,.slice xp xm xc,.int .i64 xl,.int .i64 xcl] TEx)
 obtain ⟨hs,hkd⟩:=HS13.out.expr hex hr hk hkG hbG (by omega)
 have HSY:=hid hs;have HKD:=hid hkd
 obtain ⟨p1,c1,p2,c2,p3,c3,hb,hx,ht,he⟩:=(HS13.out.call hr hk).ex
 have hb:=(KeepBut.alloc (fun _=>False) X14 (.cells #[.int .i64 xk,.int .i64 xo,.int .i64 xn,.string xS,.slice xp xm xc,.int .i64 xl,.int .i64 xcl] TEx)).blk hb
 obtain ⟨n0,-,-,-,-,-,-,n7,-,-,-,-⟩:=blk12 hb
 have f0:=frz12 hb 0
 have f7:=frz12 hb 7
 clear hb hx ht he hs hkd hex hr hk hbG hkG hsG
 go_upto_region 16 with fail
 rw [←hY,←hG]
 clear hY hG
 clear n0 f0 n7 f7
 obtain ⟨p1,c1,p2,c2,p3,c3,hb,hx,ht,he⟩:=HSY.out.ex
 have HB:=hid hb;have HX:=hid hx;have HT:=hid ht;have HE:=hid he
 clear hb hx ht he
 obtain ⟨V14_0,hV0,hb0,hk0⟩:=s_put0 (HB.out) (.int .i64 5)
 rw [←hV0]
 obtain ⟨W14,hV1,hb1,hk1⟩:=s_put7 (hb0) (.slice (some ⟨G14,0,none⟩) 1 1)
 rw [←hV1]
 have HS14:=hid (HSY.out.put (xs':=[x]) ((hk0).trans hk1) hb1 (HKD.out) (HT.out) (HE.out))
 clear hV0 hb0 hk0 hV1 hb1 hk1 HB HX HT HE
 clear HSY HKD
 go_wp2_with fail
 go_at_call 80
 refine (Hhb1.out W14 HS14.out.rd).mono ?_
 rintro e X15 ⟨q,cq,rfl,hst,hr,hk⟩
 obtain ⟨hs,hsk⟩:=HS14.out.block hst hr hk
 have HSX:=hid hs;have HSK:=hid hsk
 clear hst hr hk hs hsk
 obtain ⟨p1,c1,p2,c2,p3,c3,hb,hx,ht,he⟩:=HSX.out.ex
 have HB:=hid hb;have HX:=hid hx;have HT:=hid ht;have HE:=hid he
 obtain ⟨-,-,-,-,-,-,-,-,n8,-,-,-⟩:=blk12 hb
 have f8:=frz12 hb 8
 clear hb hx ht he
 go_upto_region 17 with fail
 clear n8 f8
 obtain ⟨W15,hV0,hb0,hk0⟩:=s_put8 (HB.out) (.slice q a.length cq)
 rw [←hV0]
 have HS15:=hid (HSX.out.put (thn':=a) (hk0) hb0 (HX.out) (HSK.out) (HE.out))
 clear hV0 hb0 hk0 HB HX HT HE
 clear HSX HSK
 have HQ:=hid (by have h:=may_any W15 R _ el ec (HS15.out.rd) [101,108,115,101];rw [Hhel.out,if_neg Bool.false_ne_true] at h;exact h)
 go_wp2_with fail
 go_at_call 101
 refine (HQ.out).mono ?_
 rintro e W16 ⟨rfl,hr,hk⟩
 have HS16:=hid (HS15.out.call hr hk)
 clear hr hk
 obtain ⟨vs,hb8,hst⟩:=SmAt.st (k:=5) (sz:=0) (op:=0) (l:=tl) (cl:=tc) HS16.out
 obtain ⟨s0,s1,s2,s3,s4,s5,s6,p1,m1,c1,p2,m2,c2,p3,m3,c3,s10,s11,rfl⟩:=st_form hst
 have hb28:=(HS16.out.b2 trivial).1
 have HB28:=hid hb28;have HST:=hid hst
 obtain ⟨n0,n1,n2,n3,n4,n5,n6,n7,n8,n9,n10,n11⟩:=blk12 hb8
 obtain ⟨q0,q1,q2,q3,q4,q5,q6,q7,q8,q9,q10,q11⟩:=blk12 hb28
 have fz:=frz12 hb28
 have f0:=fz 0;have f1:=fz 1;have f2:=fz 2;have f3:=fz 3;have f4:=fz 4;have f5:=fz 5;have f6:=fz 6;have f7:=fz 7;have f8:=fz 8;have f9:=fz 9;have f10:=fz 10;have f11:=fz 11
 clear hb8 hst hb28 fz
 go_wp2_with fail
 obtain ⟨wf,hwf,hp,hkp⟩:=put12 HB28.out (.int .i64 s0) (.string s1) (.int .i64 s2) (.int .i64 s3) (.string s4) (.string s5) (.string s6) (.slice p1 m1 c1) (.slice p2 m2 c2) (.slice p3 m3 c3) (.int .i64 s10) (.int .i64 s11)
 rw [←hwf]
 obtain ⟨c0,d1,d2,d3,d4,d5,d6,d7,d8,d9,d10,d11⟩:=blk12 hp
 have hn:=HN.out
 exact bodyPost_ret (v:=.agg #[.int .i64 s0,.string s1,.int .i64 s2,.int .i64 s3,.string s4,.string s5,.string s6,.slice p1 m1 c1,.slice p2 m2 c2,.slice p3 m3 c3,.int .i64 s10,.int .i64 s11]) (by simp [results,Tryz.results103,go_sem,c0,d1,d2,d3,d4,d5,d6,d7,d8,d9,d10,d11]) rfl ⟨_,rfl,(HST.out.keep hkp fun b hb e=>hb.2.2 e).mono fun b hb=>hb.1,HS16.out.rd.keep hkp fun b hb e=>by have e:b=B2:=e;omega,HS16.out.keep.newE hkp fun b e=>by have e:b=B2:=e;omega⟩
set_option maxRecDepth 4000 in
set_option maxHeartbeats 32000000 in
theorem stmt_else (R el ec f:Nat) (t:Item) (r0 r:List Item) (h0:headIs (t::r0) [118,97,114]=false) (h1:headIs (t::r0) [97,114,114,97,121]=false) (h2:headIs (t::r0) [105,102]=true) (r1 r2:List Item) (x:Ex) (a b:List St) (hx1:exP f r0=some (x,r1)) (hb1:ReadsB R el ec r1 r2 a) (hel:headIs r2 [101,108,115,101]=true) (hbb:ReadsB R el ec r2.tail r b):ReadsS R el ec (t::r0) r (.mk 5 [] 0 0 [] [] [] [x] a b t.line t.col):=by
 intro w hr
 obtain ⟨V1,B2,hV1,hB2,hb2,hk1,hs1⟩:=fresh_block w (.cells #[.int .i64 0,.string ⟨#[]⟩,.int .i64 0,.int .i64 0,.string ⟨#[]⟩,.string ⟨#[]⟩,.string ⟨#[]⟩,.slice none 0 0,.slice none 0 0,.slice none 0 0,.int .i64 0,.int .i64 0] TSm)
 have HPK:=hid (peek_cons (hr.keep hk1 fun _ _ e=>e))
 obtain ⟨T,hT⟩:∃ T,t.tok.text=T:=⟨_,rfl⟩
 obtain ⟨tk,htk⟩:∃ n:Int,(t.tok.kind:Int)=n:=⟨_,rfl⟩
 obtain ⟨tn,htn⟩:∃ n:Int,(t.tok.num:Int)=n:=⟨_,rfl⟩
 obtain ⟨tl,htl⟩:∃ n:Nat,t.line=n:=⟨_,rfl⟩
 obtain ⟨tc,htc⟩:∃ n:Nat,t.col=n:=⟨_,rfl⟩
 rw [hT,htk,htn,htl,htc] at HPK
 rw [htl,htc]
 have HR1:=hid (hr.keep hk1 fun _ _ e=>e);have HK1:=hid hk1;have HB2:=hid hb2
 have HN:=hid (show R<w.heap.size∧w.heap.size≤B2∧B2<V1.heap.size from ⟨hr.lt,by omega,by omega⟩)
 have Hh0:=hid h0
 have Hh1:=hid h1
 have Hh2:=hid h2
 have Hhx1:=hid hx1
 have Hhb1:=hid hb1
 have Hhel:=hid hel
 have Hhbb:=hid hbb
 clear hr hb2 hk1 hs1 hT htk htn htl htc h0 h1 h2 hx1 hb1 hel hbb
 go_enter Tryz.func103,Tryz.ntmps103
 go_upto_region 1 with fail
 rw [←hV1,←hB2]
 clear hV1 hB2
 go_wp2_with fail
 go_at_call 74
 refine HPK.out.mono ?_
 rintro e W1 ⟨rfl,hkp⟩
 obtain ⟨V2,B3,hV2,hB3,hb3,hk2,hs2⟩:=fresh_block W1 (.cells #[.int .i64 tk,.string ⟨T.toArray⟩,.int .i64 tn,.int .i64 tl,.int .i64 tc] TTk)
 obtain ⟨V,B4,hV,hB4,hb4,hk3,hs3⟩:=fresh_block V2 (.cells #[.int .i64 0,.string ⟨#[]⟩,.int .i64 0,.int .i64 0,.string ⟨#[]⟩,.string ⟨#[]⟩,.string ⟨#[]⟩,.slice none 0 0,.slice none 0 0,.slice none 0 0,.int .i64 tl,.int .i64 tc] TSm)
 have hkv:=(hkp.trans hk2).trans hk3
 have HN4:=hid (show B2<B4∧B4<V.heap.size∧w.heap.size≤B4 by have:=HN.out;have:=hkp.size;omega)
 have HS0:=hid (show SmAt True (fun b=>b=R) w V R el ec B4 B2 (t::r0) 0 0 0 tl tc [] [] [] [] [] [] [] from
  ⟨HR1.out.keep hkv fun _ _ e=>e,⟨none,0,none,0,none,0,hb4,by unfold KidsAt;trivial,by unfold StsAt;trivial,by unfold StsAt;trivial⟩,fun _=>⟨hkv.blk HB2.out,by have:=HN.out;omega,by have:=HN4.out;omega⟩,(HK1.out.trans hkv).mono fun b e=>(e.elim:b=R),by have:=HN.out;have:=HN4.out;omega,fun b e=>e.elim .inl fun e=>.inr (by have:=HN4.out;omega)⟩)
 obtain ⟨n0,n1,n2,n3,n4,-⟩:=blk5 hb3
 have h34:B3+1=B4:=by omega
 clear hkp hb3 hb4 hk2 hk3 hs2 hs3 hkv
 go_upto_region 2 with fail
 rw [←hV2,←hB3]
 clear hV2 hB3
 go_upto_region 4 with fail
 rw [←hV,←hB4]
 clear hV hB4 n0 n1 n2 n3 n4 h34 HPK HR1 HK1 HB2
 have HQ:=hid (by have h:=may_any V R _ el ec HS0.out.rd [118,97,114];rw [Hh0.out,if_neg Bool.false_ne_true] at h;exact h)
 go_wp2_with fail
 go_at_call 101
 refine HQ.out.mono ?_
 rintro e W11 ⟨rfl,hr,hk⟩
 have HS11:=hid (HS0.out.call hr hk)
 clear hr hk
 have HQ:=hid (by have h:=may_any W11 R _ el ec HS11.out.rd [97,114,114,97,121];rw [Hh1.out,if_neg Bool.false_ne_true] at h;exact h)
 go_wp2_with fail
 go_at_call 101
 refine HQ.out.mono ?_
 rintro e W12 ⟨rfl,hr,hk⟩
 have HS12:=hid (HS11.out.call hr hk)
 clear hr hk
 have HQ:=hid (by have h:=may_any W12 R _ el ec HS12.out.rd [105,102];rw [Hh2.out,if_pos rfl] at h;exact h)
 go_wp2_with fail
 go_at_call 101
 refine HQ.out.mono ?_
 rintro e W13 ⟨rfl,hr,hk⟩
 have HS13:=hid (HS12.out.call hr hk)
 clear hr hk
 have HQ:=hid (exP_reads R el ec f W13 W13 _ x _ (KeepBut.refl _ _) HS13.out.rd Hhx1.out)
 go_wp2_with fail
 go_at_call 32
 refine HQ.out.mono ?_
 rintro e X14 ⟨vs,rfl,hex,hr,hk⟩
 obtain ⟨xk,xo,xn,xS,xp,xm,xc,xl,xcl,rfl⟩:=ex_form hex
 obtain ⟨Y14,G14,hY,hG,hbG,hkG,hsG⟩:=fresh_block X14 (.cells #[.int .i64 xk,.int .i64 xo,.int .i64 xn,.string xS,.slice xp xm xc,.int .i64 xl,.int .i64 xcl] TEx)
 obtain ⟨hs,hkd⟩:=HS13.out.expr hex hr hk hkG hbG (by omega)
 have HSY:=hid hs;have HKD:=hid hkd
 obtain ⟨p1,c1,p2,c2,p3,c3,hb,hx,ht,he⟩:=(HS13.out.call hr hk).ex
 have hb:=(KeepBut.alloc (fun _=>False) X14 (.cells #[.int .i64 xk,.int .i64 xo,.int .i64 xn,.string xS,.slice xp xm xc,.int .i64 xl,.int .i64 xcl] TEx)).blk hb
 obtain ⟨n0,-,-,-,-,-,-,n7,-,-,-,-⟩:=blk12 hb
 have f0:=frz12 hb 0
 have f7:=frz12 hb 7
 clear hb hx ht he hs hkd hex hr hk hbG hkG hsG
 go_upto_region 16 with fail
 rw [←hY,←hG]
 clear hY hG
 clear n0 f0 n7 f7
 obtain ⟨p1,c1,p2,c2,p3,c3,hb,hx,ht,he⟩:=HSY.out.ex
 have HB:=hid hb;have HX:=hid hx;have HT:=hid ht;have HE:=hid he
 clear hb hx ht he
 obtain ⟨V14_0,hV0,hb0,hk0⟩:=s_put0 (HB.out) (.int .i64 5)
 rw [←hV0]
 obtain ⟨W14,hV1,hb1,hk1⟩:=s_put7 (hb0) (.slice (some ⟨G14,0,none⟩) 1 1)
 rw [←hV1]
 have HS14:=hid (HSY.out.put (xs':=[x]) ((hk0).trans hk1) hb1 (HKD.out) (HT.out) (HE.out))
 clear hV0 hb0 hk0 hV1 hb1 hk1 HB HX HT HE
 clear HSY HKD
 go_wp2_with fail
 go_at_call 80
 refine (Hhb1.out W14 HS14.out.rd).mono ?_
 rintro e X15 ⟨q,cq,rfl,hst,hr,hk⟩
 obtain ⟨hs,hsk⟩:=HS14.out.block hst hr hk
 have HSX:=hid hs;have HSK:=hid hsk
 clear hst hr hk hs hsk
 obtain ⟨p1,c1,p2,c2,p3,c3,hb,hx,ht,he⟩:=HSX.out.ex
 have HB:=hid hb;have HX:=hid hx;have HT:=hid ht;have HE:=hid he
 obtain ⟨-,-,-,-,-,-,-,-,n8,-,-,-⟩:=blk12 hb
 have f8:=frz12 hb 8
 clear hb hx ht he
 go_upto_region 17 with fail
 clear n8 f8
 obtain ⟨W15,hV0,hb0,hk0⟩:=s_put8 (HB.out) (.slice q a.length cq)
 rw [←hV0]
 have HS15:=hid (HSX.out.put (thn':=a) (hk0) hb0 (HX.out) (HSK.out) (HE.out))
 clear hV0 hb0 hk0 HB HX HT HE
 clear HSX HSK
 have HQ:=hid (by have h:=may_any W15 R _ el ec (HS15.out.rd) [101,108,115,101];rw [Hhel.out,if_pos rfl] at h;exact h)
 go_wp2_with fail
 go_at_call 101
 refine (HQ.out).mono ?_
 rintro e W16 ⟨rfl,hr,hk⟩
 have HS16:=hid (HS15.out.call hr hk)
 clear hr hk
 go_wp2_with fail
 go_at_call 80
 refine (Hhbb.out W16 HS16.out.rd).mono ?_
 rintro e X17 ⟨q,cq,rfl,hst,hr,hk⟩
 obtain ⟨hs,hsk⟩:=HS16.out.block hst hr hk
 have HSX:=hid hs;have HSK:=hid hsk
 clear hst hr hk hs hsk
 obtain ⟨p1,c1,p2,c2,p3,c3,hb,hx,ht,he⟩:=HSX.out.ex
 have HB:=hid hb;have HX:=hid hx;have HT:=hid ht;have HE:=hid he
 obtain ⟨-,-,-,-,-,-,-,-,-,n9,-,-⟩:=blk12 hb
 have f9:=frz12 hb 9
 clear hb hx ht he
 go_upto_region 28 with fail
 clear n9 f9
 obtain ⟨W17,hV0,hb0,hk0⟩:=s_put9 (HB.out) (.slice q b.length cq)
 rw [←hV0]
 have HS17:=hid (HSX.out.put (els':=b) (hk0) hb0 (HX.out) (HT.out) (HSK.out))
 clear hV0 hb0 hk0 HB HX HT HE
 clear HSX HSK
 obtain ⟨vs,hb8,hst⟩:=SmAt.st (k:=5) (sz:=0) (op:=0) (l:=tl) (cl:=tc) HS17.out
 obtain ⟨s0,s1,s2,s3,s4,s5,s6,p1,m1,c1,p2,m2,c2,p3,m3,c3,s10,s11,rfl⟩:=st_form hst
 have hb28:=(HS17.out.b2 trivial).1
 have HB28:=hid hb28;have HST:=hid hst
 obtain ⟨n0,n1,n2,n3,n4,n5,n6,n7,n8,n9,n10,n11⟩:=blk12 hb8
 obtain ⟨q0,q1,q2,q3,q4,q5,q6,q7,q8,q9,q10,q11⟩:=blk12 hb28
 have fz:=frz12 hb28
 have f0:=fz 0;have f1:=fz 1;have f2:=fz 2;have f3:=fz 3;have f4:=fz 4;have f5:=fz 5;have f6:=fz 6;have f7:=fz 7;have f8:=fz 8;have f9:=fz 9;have f10:=fz 10;have f11:=fz 11
 clear hb8 hst hb28 fz
 go_wp2_with fail
 obtain ⟨wf,hwf,hp,hkp⟩:=put12 HB28.out (.int .i64 s0) (.string s1) (.int .i64 s2) (.int .i64 s3) (.string s4) (.string s5) (.string s6) (.slice p1 m1 c1) (.slice p2 m2 c2) (.slice p3 m3 c3) (.int .i64 s10) (.int .i64 s11)
 rw [←hwf]
 obtain ⟨c0,d1,d2,d3,d4,d5,d6,d7,d8,d9,d10,d11⟩:=blk12 hp
 have hn:=HN.out
 exact bodyPost_ret (v:=.agg #[.int .i64 s0,.string s1,.int .i64 s2,.int .i64 s3,.string s4,.string s5,.string s6,.slice p1 m1 c1,.slice p2 m2 c2,.slice p3 m3 c3,.int .i64 s10,.int .i64 s11]) (by simp [results,Tryz.results103,go_sem,c0,d1,d2,d3,d4,d5,d6,d7,d8,d9,d10,d11]) rfl ⟨_,rfl,(HST.out.keep hkp fun b hb e=>hb.2.2 e).mono fun b hb=>hb.1,HS17.out.rd.keep hkp fun b hb e=>by have e:b=B2:=e;omega,HS17.out.keep.newE hkp fun b e=>by have e:b=B2:=e;omega⟩
set_option maxRecDepth 4000 in
set_option maxHeartbeats 32000000 in
theorem stmt_while (R el ec f:Nat) (t:Item) (r0 r:List Item) (h0:headIs (t::r0) [118,97,114]=false) (h1:headIs (t::r0) [97,114,114,97,121]=false) (h2:headIs (t::r0) [105,102]=false) (h3:headIs (t::r0) [119,104,105,108,101]=true) (r1:List Item) (x:Ex) (a:List St) (hx1:exP f r0=some (x,r1)) (hb1:ReadsB R el ec r1 r a):ReadsS R el ec (t::r0) r (.mk 6 [] 0 0 [] [] [] [x] a [] t.line t.col):=by
 intro w hr
 obtain ⟨V1,B2,hV1,hB2,hb2,hk1,hs1⟩:=fresh_block w (.cells #[.int .i64 0,.string ⟨#[]⟩,.int .i64 0,.int .i64 0,.string ⟨#[]⟩,.string ⟨#[]⟩,.string ⟨#[]⟩,.slice none 0 0,.slice none 0 0,.slice none 0 0,.int .i64 0,.int .i64 0] TSm)
 have HPK:=hid (peek_cons (hr.keep hk1 fun _ _ e=>e))
 obtain ⟨T,hT⟩:∃ T,t.tok.text=T:=⟨_,rfl⟩
 obtain ⟨tk,htk⟩:∃ n:Int,(t.tok.kind:Int)=n:=⟨_,rfl⟩
 obtain ⟨tn,htn⟩:∃ n:Int,(t.tok.num:Int)=n:=⟨_,rfl⟩
 obtain ⟨tl,htl⟩:∃ n:Nat,t.line=n:=⟨_,rfl⟩
 obtain ⟨tc,htc⟩:∃ n:Nat,t.col=n:=⟨_,rfl⟩
 rw [hT,htk,htn,htl,htc] at HPK
 rw [htl,htc]
 have HR1:=hid (hr.keep hk1 fun _ _ e=>e);have HK1:=hid hk1;have HB2:=hid hb2
 have HN:=hid (show R<w.heap.size∧w.heap.size≤B2∧B2<V1.heap.size from ⟨hr.lt,by omega,by omega⟩)
 have Hh0:=hid h0
 have Hh1:=hid h1
 have Hh2:=hid h2
 have Hh3:=hid h3
 have Hhx1:=hid hx1
 have Hhb1:=hid hb1
 clear hr hb2 hk1 hs1 hT htk htn htl htc h0 h1 h2 h3 hx1 hb1
 go_enter Tryz.func103,Tryz.ntmps103
 go_upto_region 1 with fail
 rw [←hV1,←hB2]
 clear hV1 hB2
 go_wp2_with fail
 go_at_call 74
 refine HPK.out.mono ?_
 rintro e W1 ⟨rfl,hkp⟩
 obtain ⟨V2,B3,hV2,hB3,hb3,hk2,hs2⟩:=fresh_block W1 (.cells #[.int .i64 tk,.string ⟨T.toArray⟩,.int .i64 tn,.int .i64 tl,.int .i64 tc] TTk)
 obtain ⟨V,B4,hV,hB4,hb4,hk3,hs3⟩:=fresh_block V2 (.cells #[.int .i64 0,.string ⟨#[]⟩,.int .i64 0,.int .i64 0,.string ⟨#[]⟩,.string ⟨#[]⟩,.string ⟨#[]⟩,.slice none 0 0,.slice none 0 0,.slice none 0 0,.int .i64 tl,.int .i64 tc] TSm)
 have hkv:=(hkp.trans hk2).trans hk3
 have HN4:=hid (show B2<B4∧B4<V.heap.size∧w.heap.size≤B4 by have:=HN.out;have:=hkp.size;omega)
 have HS0:=hid (show SmAt True (fun b=>b=R) w V R el ec B4 B2 (t::r0) 0 0 0 tl tc [] [] [] [] [] [] [] from
  ⟨HR1.out.keep hkv fun _ _ e=>e,⟨none,0,none,0,none,0,hb4,by unfold KidsAt;trivial,by unfold StsAt;trivial,by unfold StsAt;trivial⟩,fun _=>⟨hkv.blk HB2.out,by have:=HN.out;omega,by have:=HN4.out;omega⟩,(HK1.out.trans hkv).mono fun b e=>(e.elim:b=R),by have:=HN.out;have:=HN4.out;omega,fun b e=>e.elim .inl fun e=>.inr (by have:=HN4.out;omega)⟩)
 obtain ⟨n0,n1,n2,n3,n4,-⟩:=blk5 hb3
 have h34:B3+1=B4:=by omega
 clear hkp hb3 hb4 hk2 hk3 hs2 hs3 hkv
 go_upto_region 2 with fail
 rw [←hV2,←hB3]
 clear hV2 hB3
 go_upto_region 4 with fail
 rw [←hV,←hB4]
 clear hV hB4 n0 n1 n2 n3 n4 h34 HPK HR1 HK1 HB2
 have HQ:=hid (by have h:=may_any V R _ el ec HS0.out.rd [118,97,114];rw [Hh0.out,if_neg Bool.false_ne_true] at h;exact h)
 go_wp2_with fail
 go_at_call 101
 refine HQ.out.mono ?_
 rintro e W11 ⟨rfl,hr,hk⟩
 have HS11:=hid (HS0.out.call hr hk)
 clear hr hk
 have HQ:=hid (by have h:=may_any W11 R _ el ec HS11.out.rd [97,114,114,97,121];rw [Hh1.out,if_neg Bool.false_ne_true] at h;exact h)
 go_wp2_with fail
 go_at_call 101
 refine HQ.out.mono ?_
 rintro e W12 ⟨rfl,hr,hk⟩
 have HS12:=hid (HS11.out.call hr hk)
 clear hr hk
 have HQ:=hid (by have h:=may_any W12 R _ el ec HS12.out.rd [105,102];rw [Hh2.out,if_neg Bool.false_ne_true] at h;exact h)
 go_wp2_with fail
 go_at_call 101
 refine HQ.out.mono ?_
 rintro e W13 ⟨rfl,hr,hk⟩
 have HS13:=hid (HS12.out.call hr hk)
 clear hr hk
 have HQ:=hid (by have h:=may_any W13 R _ el ec HS13.out.rd [119,104,105,108,101];rw [Hh3.out,if_pos rfl] at h;exact h)
 go_wp2_with fail
 go_at_call 101
 refine HQ.out.mono ?_
 rintro e W14 ⟨rfl,hr,hk⟩
 have HS14:=hid (HS13.out.call hr hk)
 clear hr hk
 have HQ:=hid (exP_reads R el ec f W14 W14 _ x _ (KeepBut.refl _ _) HS14.out.rd Hhx1.out)
 go_wp2_with fail
 go_at_call 32
 refine HQ.out.mono ?_
 rintro e X15 ⟨vs,rfl,hex,hr,hk⟩
 obtain ⟨xk,xo,xn,xS,xp,xm,xc,xl,xcl,rfl⟩:=ex_form hex
 obtain ⟨Y15,G15,hY,hG,hbG,hkG,hsG⟩:=fresh_block X15 (.cells #[.int .i64 xk,.int .i64 xo,.int .i64 xn,.string xS,.slice xp xm xc,.int .i64 xl,.int .i64 xcl] TEx)
 obtain ⟨hs,hkd⟩:=HS14.out.expr hex hr hk hkG hbG (by omega)
 have HSY:=hid hs;have HKD:=hid hkd
 obtain ⟨p1,c1,p2,c2,p3,c3,hb,hx,ht,he⟩:=(HS14.out.call hr hk).ex
 have hb:=(KeepBut.alloc (fun _=>False) X15 (.cells #[.int .i64 xk,.int .i64 xo,.int .i64 xn,.string xS,.slice xp xm xc,.int .i64 xl,.int .i64 xcl] TEx)).blk hb
 obtain ⟨n0,-,-,-,-,-,-,n7,-,-,-,-⟩:=blk12 hb
 have f0:=frz12 hb 0
 have f7:=frz12 hb 7
 clear hb hx ht he hs hkd hex hr hk hbG hkG hsG
 go_upto_region 21 with fail
 rw [←hY,←hG]
 clear hY hG
 clear n0 f0 n7 f7
 obtain ⟨p1,c1,p2,c2,p3,c3,hb,hx,ht,he⟩:=HSY.out.ex
 have HB:=hid hb;have HX:=hid hx;have HT:=hid ht;have HE:=hid he
 clear hb hx ht he
 obtain ⟨V15_0,hV0,hb0,hk0⟩:=s_put0 (HB.out) (.int .i64 6)
 rw [←hV0]
 obtain ⟨W15,hV1,hb1,hk1⟩:=s_put7 (hb0) (.slice (some ⟨G15,0,none⟩) 1 1)
 rw [←hV1]
 have HS15:=hid (HSY.out.put (xs':=[x]) ((hk0).trans hk1) hb1 (HKD.out) (HT.out) (HE.out))
 clear hV0 hb0 hk0 hV1 hb1 hk1 HB HX HT HE
 clear HSY HKD
 go_wp2_with fail
 go_at_call 80
 refine (Hhb1.out W15 HS15.out.rd).mono ?_
 rintro e X16 ⟨q,cq,rfl,hst,hr,hk⟩
 obtain ⟨hs,hsk⟩:=HS15.out.block hst hr hk
 have HSX:=hid hs;have HSK:=hid hsk
 clear hst hr hk hs hsk
 obtain ⟨p1,c1,p2,c2,p3,c3,hb,hx,ht,he⟩:=HSX.out.ex
 have HB:=hid hb;have HX:=hid hx;have HT:=hid ht;have HE:=hid he
 obtain ⟨-,-,-,-,-,-,-,-,n8,-,-,-⟩:=blk12 hb
 have f8:=frz12 hb 8
 clear hb hx ht he
 go_upto_region 28 with fail
 clear n8 f8
 obtain ⟨W16,hV0,hb0,hk0⟩:=s_put8 (HB.out) (.slice q a.length cq)
 rw [←hV0]
 have HS16:=hid (HSX.out.put (thn':=a) (hk0) hb0 (HX.out) (HSK.out) (HE.out))
 clear hV0 hb0 hk0 HB HX HT HE
 clear HSX HSK
 obtain ⟨vs,hb8,hst⟩:=SmAt.st (k:=6) (sz:=0) (op:=0) (l:=tl) (cl:=tc) HS16.out
 obtain ⟨s0,s1,s2,s3,s4,s5,s6,p1,m1,c1,p2,m2,c2,p3,m3,c3,s10,s11,rfl⟩:=st_form hst
 have hb28:=(HS16.out.b2 trivial).1
 have HB28:=hid hb28;have HST:=hid hst
 obtain ⟨n0,n1,n2,n3,n4,n5,n6,n7,n8,n9,n10,n11⟩:=blk12 hb8
 obtain ⟨q0,q1,q2,q3,q4,q5,q6,q7,q8,q9,q10,q11⟩:=blk12 hb28
 have fz:=frz12 hb28
 have f0:=fz 0;have f1:=fz 1;have f2:=fz 2;have f3:=fz 3;have f4:=fz 4;have f5:=fz 5;have f6:=fz 6;have f7:=fz 7;have f8:=fz 8;have f9:=fz 9;have f10:=fz 10;have f11:=fz 11
 clear hb8 hst hb28 fz
 go_wp2_with fail
 obtain ⟨wf,hwf,hp,hkp⟩:=put12 HB28.out (.int .i64 s0) (.string s1) (.int .i64 s2) (.int .i64 s3) (.string s4) (.string s5) (.string s6) (.slice p1 m1 c1) (.slice p2 m2 c2) (.slice p3 m3 c3) (.int .i64 s10) (.int .i64 s11)
 rw [←hwf]
 obtain ⟨c0,d1,d2,d3,d4,d5,d6,d7,d8,d9,d10,d11⟩:=blk12 hp
 have hn:=HN.out
 exact bodyPost_ret (v:=.agg #[.int .i64 s0,.string s1,.int .i64 s2,.int .i64 s3,.string s4,.string s5,.string s6,.slice p1 m1 c1,.slice p2 m2 c2,.slice p3 m3 c3,.int .i64 s10,.int .i64 s11]) (by simp [results,Tryz.results103,go_sem,c0,d1,d2,d3,d4,d5,d6,d7,d8,d9,d10,d11]) rfl ⟨_,rfl,(HST.out.keep hkp fun b hb e=>hb.2.2 e).mono fun b hb=>hb.1,HS16.out.rd.keep hkp fun b hb e=>by have e:b=B2:=e;omega,HS16.out.keep.newE hkp fun b e=>by have e:b=B2:=e;omega⟩
set_option maxRecDepth 4000 in
set_option maxHeartbeats 32000000 in
theorem stmt_out (R el ec f:Nat) (t:Item) (r0 r:List Item) (h0:headIs (t::r0) [118,97,114]=false) (h1:headIs (t::r0) [97,114,114,97,121]=false) (h2:headIs (t::r0) [105,102]=false) (h3:headIs (t::r0) [119,104,105,108,101]=false) (h4:headIs (t::r0) [111,117,116]=true) (r1:List Item) (x:Ex) (hx1:exP f r0=some (x,r1)) (hm1:mustT [[59]] r1=some r):ReadsS R el ec (t::r0) r (.mk 7 [] 0 0 [] [] [] [x] [] [] t.line t.col):=by
 intro w hr
 obtain ⟨V1,B2,hV1,hB2,hb2,hk1,hs1⟩:=fresh_block w (.cells #[.int .i64 0,.string ⟨#[]⟩,.int .i64 0,.int .i64 0,.string ⟨#[]⟩,.string ⟨#[]⟩,.string ⟨#[]⟩,.slice none 0 0,.slice none 0 0,.slice none 0 0,.int .i64 0,.int .i64 0] TSm)
 have HPK:=hid (peek_cons (hr.keep hk1 fun _ _ e=>e))
 obtain ⟨T,hT⟩:∃ T,t.tok.text=T:=⟨_,rfl⟩
 obtain ⟨tk,htk⟩:∃ n:Int,(t.tok.kind:Int)=n:=⟨_,rfl⟩
 obtain ⟨tn,htn⟩:∃ n:Int,(t.tok.num:Int)=n:=⟨_,rfl⟩
 obtain ⟨tl,htl⟩:∃ n:Nat,t.line=n:=⟨_,rfl⟩
 obtain ⟨tc,htc⟩:∃ n:Nat,t.col=n:=⟨_,rfl⟩
 rw [hT,htk,htn,htl,htc] at HPK
 rw [htl,htc]
 have HR1:=hid (hr.keep hk1 fun _ _ e=>e);have HK1:=hid hk1;have HB2:=hid hb2
 have HN:=hid (show R<w.heap.size∧w.heap.size≤B2∧B2<V1.heap.size from ⟨hr.lt,by omega,by omega⟩)
 have Hh0:=hid h0
 have Hh1:=hid h1
 have Hh2:=hid h2
 have Hh3:=hid h3
 have Hh4:=hid h4
 have Hhx1:=hid hx1
 have Hhm1:=hid hm1
 clear hr hb2 hk1 hs1 hT htk htn htl htc h0 h1 h2 h3 h4 hx1 hm1
 go_enter Tryz.func103,Tryz.ntmps103
 go_upto_region 1 with fail
 rw [←hV1,←hB2]
 clear hV1 hB2
 go_wp2_with fail
 go_at_call 74
 refine HPK.out.mono ?_
 rintro e W1 ⟨rfl,hkp⟩
 obtain ⟨V2,B3,hV2,hB3,hb3,hk2,hs2⟩:=fresh_block W1 (.cells #[.int .i64 tk,.string ⟨T.toArray⟩,.int .i64 tn,.int .i64 tl,.int .i64 tc] TTk)
 obtain ⟨V,B4,hV,hB4,hb4,hk3,hs3⟩:=fresh_block V2 (.cells #[.int .i64 0,.string ⟨#[]⟩,.int .i64 0,.int .i64 0,.string ⟨#[]⟩,.string ⟨#[]⟩,.string ⟨#[]⟩,.slice none 0 0,.slice none 0 0,.slice none 0 0,.int .i64 tl,.int .i64 tc] TSm)
 have hkv:=(hkp.trans hk2).trans hk3
 have HN4:=hid (show B2<B4∧B4<V.heap.size∧w.heap.size≤B4 by have:=HN.out;have:=hkp.size;omega)
 have HS0:=hid (show SmAt True (fun b=>b=R) w V R el ec B4 B2 (t::r0) 0 0 0 tl tc [] [] [] [] [] [] [] from
  ⟨HR1.out.keep hkv fun _ _ e=>e,⟨none,0,none,0,none,0,hb4,by unfold KidsAt;trivial,by unfold StsAt;trivial,by unfold StsAt;trivial⟩,fun _=>⟨hkv.blk HB2.out,by have:=HN.out;omega,by have:=HN4.out;omega⟩,(HK1.out.trans hkv).mono fun b e=>(e.elim:b=R),by have:=HN.out;have:=HN4.out;omega,fun b e=>e.elim .inl fun e=>.inr (by have:=HN4.out;omega)⟩)
 obtain ⟨n0,n1,n2,n3,n4,-⟩:=blk5 hb3
 have h34:B3+1=B4:=by omega
 clear hkp hb3 hb4 hk2 hk3 hs2 hs3 hkv
 go_upto_region 2 with fail
 rw [←hV2,←hB3]
 clear hV2 hB3
 go_upto_region 4 with fail
 rw [←hV,←hB4]
 clear hV hB4 n0 n1 n2 n3 n4 h34 HPK HR1 HK1 HB2
 have HQ:=hid (by have h:=may_any V R _ el ec HS0.out.rd [118,97,114];rw [Hh0.out,if_neg Bool.false_ne_true] at h;exact h)
 go_wp2_with fail
 go_at_call 101
 refine HQ.out.mono ?_
 rintro e W11 ⟨rfl,hr,hk⟩
 have HS11:=hid (HS0.out.call hr hk)
 clear hr hk
 have HQ:=hid (by have h:=may_any W11 R _ el ec HS11.out.rd [97,114,114,97,121];rw [Hh1.out,if_neg Bool.false_ne_true] at h;exact h)
 go_wp2_with fail
 go_at_call 101
 refine HQ.out.mono ?_
 rintro e W12 ⟨rfl,hr,hk⟩
 have HS12:=hid (HS11.out.call hr hk)
 clear hr hk
 have HQ:=hid (by have h:=may_any W12 R _ el ec HS12.out.rd [105,102];rw [Hh2.out,if_neg Bool.false_ne_true] at h;exact h)
 go_wp2_with fail
 go_at_call 101
 refine HQ.out.mono ?_
 rintro e W13 ⟨rfl,hr,hk⟩
 have HS13:=hid (HS12.out.call hr hk)
 clear hr hk
 have HQ:=hid (by have h:=may_any W13 R _ el ec HS13.out.rd [119,104,105,108,101];rw [Hh3.out,if_neg Bool.false_ne_true] at h;exact h)
 go_wp2_with fail
 go_at_call 101
 refine HQ.out.mono ?_
 rintro e W14 ⟨rfl,hr,hk⟩
 have HS14:=hid (HS13.out.call hr hk)
 clear hr hk
 have HQ:=hid (by have h:=may_any W14 R _ el ec HS14.out.rd [111,117,116];rw [Hh4.out,if_pos rfl] at h;exact h)
 go_wp2_with fail
 go_at_call 101
 refine HQ.out.mono ?_
 rintro e W15 ⟨rfl,hr,hk⟩
 have HS15:=hid (HS14.out.call hr hk)
 clear hr hk
 have HQ:=hid (exP_reads R el ec f W15 W15 _ x _ (KeepBut.refl _ _) HS15.out.rd Hhx1.out)
 go_wp2_with fail
 go_at_call 32
 refine HQ.out.mono ?_
 rintro e X16 ⟨vs,rfl,hex,hr,hk⟩
 obtain ⟨xk,xo,xn,xS,xp,xm,xc,xl,xcl,rfl⟩:=ex_form hex
 obtain ⟨Y16,G16,hY,hG,hbG,hkG,hsG⟩:=fresh_block X16 (.cells #[.int .i64 xk,.int .i64 xo,.int .i64 xn,.string xS,.slice xp xm xc,.int .i64 xl,.int .i64 xcl] TEx)
 obtain ⟨hs,hkd⟩:=HS15.out.expr hex hr hk hkG hbG (by omega)
 have HSY:=hid hs;have HKD:=hid hkd
 obtain ⟨p1,c1,p2,c2,p3,c3,hb,hx,ht,he⟩:=(HS15.out.call hr hk).ex
 have hb:=(KeepBut.alloc (fun _=>False) X16 (.cells #[.int .i64 xk,.int .i64 xo,.int .i64 xn,.string xS,.slice xp xm xc,.int .i64 xl,.int .i64 xcl] TEx)).blk hb
 obtain ⟨n0,-,-,-,-,-,-,n7,-,-,-,-⟩:=blk12 hb
 have f0:=frz12 hb 0
 have f7:=frz12 hb 7
 clear hb hx ht he hs hkd hex hr hk hbG hkG hsG
 go_upto_region 24 with fail
 rw [←hY,←hG]
 clear hY hG
 clear n0 f0 n7 f7
 obtain ⟨p1,c1,p2,c2,p3,c3,hb,hx,ht,he⟩:=HSY.out.ex
 have HB:=hid hb;have HX:=hid hx;have HT:=hid ht;have HE:=hid he
 clear hb hx ht he
 obtain ⟨V16_0,hV0,hb0,hk0⟩:=s_put0 (HB.out) (.int .i64 7)
 rw [←hV0]
 obtain ⟨W16,hV1,hb1,hk1⟩:=s_put7 (hb0) (.slice (some ⟨G16,0,none⟩) 1 1)
 rw [←hV1]
 have HS16:=hid (HSY.out.put (xs':=[x]) ((hk0).trans hk1) hb1 (HKD.out) (HT.out) (HE.out))
 clear hV0 hb0 hk0 hV1 hb1 hk1 HB HX HT HE
 clear HSY HKD
 have HQ:=hid (must1 HS16.out.rd [59] _ Hhm1.out)
 go_wp2_with fail
 go_at_call 76
 refine (HQ.out).mono ?_
 rintro e W17 ⟨rfl,hr,hk⟩
 have HS17:=hid (HS16.out.call hr hk)
 clear hr hk
 obtain ⟨vs,hb8,hst⟩:=SmAt.st (k:=7) (sz:=0) (op:=0) (l:=tl) (cl:=tc) HS17.out
 obtain ⟨s0,s1,s2,s3,s4,s5,s6,p1,m1,c1,p2,m2,c2,p3,m3,c3,s10,s11,rfl⟩:=st_form hst
 have hb28:=(HS17.out.b2 trivial).1
 have HB28:=hid hb28;have HST:=hid hst
 obtain ⟨n0,n1,n2,n3,n4,n5,n6,n7,n8,n9,n10,n11⟩:=blk12 hb8
 obtain ⟨q0,q1,q2,q3,q4,q5,q6,q7,q8,q9,q10,q11⟩:=blk12 hb28
 have fz:=frz12 hb28
 have f0:=fz 0;have f1:=fz 1;have f2:=fz 2;have f3:=fz 3;have f4:=fz 4;have f5:=fz 5;have f6:=fz 6;have f7:=fz 7;have f8:=fz 8;have f9:=fz 9;have f10:=fz 10;have f11:=fz 11
 clear hb8 hst hb28 fz
 go_wp2_with fail
 obtain ⟨wf,hwf,hp,hkp⟩:=put12 HB28.out (.int .i64 s0) (.string s1) (.int .i64 s2) (.int .i64 s3) (.string s4) (.string s5) (.string s6) (.slice p1 m1 c1) (.slice p2 m2 c2) (.slice p3 m3 c3) (.int .i64 s10) (.int .i64 s11)
 rw [←hwf]
 obtain ⟨c0,d1,d2,d3,d4,d5,d6,d7,d8,d9,d10,d11⟩:=blk12 hp
 have hn:=HN.out
 exact bodyPost_ret (v:=.agg #[.int .i64 s0,.string s1,.int .i64 s2,.int .i64 s3,.string s4,.string s5,.string s6,.slice p1 m1 c1,.slice p2 m2 c2,.slice p3 m3 c3,.int .i64 s10,.int .i64 s11]) (by simp [results,Tryz.results103,go_sem,c0,d1,d2,d3,d4,d5,d6,d7,d8,d9,d10,d11]) rfl ⟨_,rfl,(HST.out.keep hkp fun b hb e=>hb.2.2 e).mono fun b hb=>hb.1,HS17.out.rd.keep hkp fun b hb e=>by have e:b=B2:=e;omega,HS17.out.keep.newE hkp fun b e=>by have e:b=B2:=e;omega⟩
set_option maxRecDepth 4000 in
set_option maxHeartbeats 32000000 in
theorem stmt_halt (R el ec f:Nat) (t:Item) (r0 r:List Item) (h0:headIs (t::r0) [118,97,114]=false) (h1:headIs (t::r0) [97,114,114,97,121]=false) (h2:headIs (t::r0) [105,102]=false) (h3:headIs (t::r0) [119,104,105,108,101]=false) (h4:headIs (t::r0) [111,117,116]=false) (h5:headIs (t::r0) [104,97,108,116]=true) (r1:List Item) (x:Ex) (hx1:exP f r0=some (x,r1)) (hm1:mustT [[59]] r1=some r):ReadsS R el ec (t::r0) r (.mk 8 [] 0 0 [] [] [] [x] [] [] t.line t.col):=by
 intro w hr
 obtain ⟨V1,B2,hV1,hB2,hb2,hk1,hs1⟩:=fresh_block w (.cells #[.int .i64 0,.string ⟨#[]⟩,.int .i64 0,.int .i64 0,.string ⟨#[]⟩,.string ⟨#[]⟩,.string ⟨#[]⟩,.slice none 0 0,.slice none 0 0,.slice none 0 0,.int .i64 0,.int .i64 0] TSm)
 have HPK:=hid (peek_cons (hr.keep hk1 fun _ _ e=>e))
 obtain ⟨T,hT⟩:∃ T,t.tok.text=T:=⟨_,rfl⟩
 obtain ⟨tk,htk⟩:∃ n:Int,(t.tok.kind:Int)=n:=⟨_,rfl⟩
 obtain ⟨tn,htn⟩:∃ n:Int,(t.tok.num:Int)=n:=⟨_,rfl⟩
 obtain ⟨tl,htl⟩:∃ n:Nat,t.line=n:=⟨_,rfl⟩
 obtain ⟨tc,htc⟩:∃ n:Nat,t.col=n:=⟨_,rfl⟩
 rw [hT,htk,htn,htl,htc] at HPK
 rw [htl,htc]
 have HR1:=hid (hr.keep hk1 fun _ _ e=>e);have HK1:=hid hk1;have HB2:=hid hb2
 have HN:=hid (show R<w.heap.size∧w.heap.size≤B2∧B2<V1.heap.size from ⟨hr.lt,by omega,by omega⟩)
 have Hh0:=hid h0
 have Hh1:=hid h1
 have Hh2:=hid h2
 have Hh3:=hid h3
 have Hh4:=hid h4
 have Hh5:=hid h5
 have Hhx1:=hid hx1
 have Hhm1:=hid hm1
 clear hr hb2 hk1 hs1 hT htk htn htl htc h0 h1 h2 h3 h4 h5 hx1 hm1
 go_enter Tryz.func103,Tryz.ntmps103
 go_upto_region 1 with fail
 rw [←hV1,←hB2]
 clear hV1 hB2
 go_wp2_with fail
 go_at_call 74
 refine HPK.out.mono ?_
 rintro e W1 ⟨rfl,hkp⟩
 obtain ⟨V2,B3,hV2,hB3,hb3,hk2,hs2⟩:=fresh_block W1 (.cells #[.int .i64 tk,.string ⟨T.toArray⟩,.int .i64 tn,.int .i64 tl,.int .i64 tc] TTk)
 obtain ⟨V,B4,hV,hB4,hb4,hk3,hs3⟩:=fresh_block V2 (.cells #[.int .i64 0,.string ⟨#[]⟩,.int .i64 0,.int .i64 0,.string ⟨#[]⟩,.string ⟨#[]⟩,.string ⟨#[]⟩,.slice none 0 0,.slice none 0 0,.slice none 0 0,.int .i64 tl,.int .i64 tc] TSm)
 have hkv:=(hkp.trans hk2).trans hk3
 have HN4:=hid (show B2<B4∧B4<V.heap.size∧w.heap.size≤B4 by have:=HN.out;have:=hkp.size;omega)
 have HS0:=hid (show SmAt True (fun b=>b=R) w V R el ec B4 B2 (t::r0) 0 0 0 tl tc [] [] [] [] [] [] [] from
  ⟨HR1.out.keep hkv fun _ _ e=>e,⟨none,0,none,0,none,0,hb4,by unfold KidsAt;trivial,by unfold StsAt;trivial,by unfold StsAt;trivial⟩,fun _=>⟨hkv.blk HB2.out,by have:=HN.out;omega,by have:=HN4.out;omega⟩,(HK1.out.trans hkv).mono fun b e=>(e.elim:b=R),by have:=HN.out;have:=HN4.out;omega,fun b e=>e.elim .inl fun e=>.inr (by have:=HN4.out;omega)⟩)
 obtain ⟨n0,n1,n2,n3,n4,-⟩:=blk5 hb3
 have h34:B3+1=B4:=by omega
 clear hkp hb3 hb4 hk2 hk3 hs2 hs3 hkv
 go_upto_region 2 with fail
 rw [←hV2,←hB3]
 clear hV2 hB3
 go_upto_region 4 with fail
 rw [←hV,←hB4]
 clear hV hB4 n0 n1 n2 n3 n4 h34 HPK HR1 HK1 HB2
 have HQ:=hid (by have h:=may_any V R _ el ec HS0.out.rd [118,97,114];rw [Hh0.out,if_neg Bool.false_ne_true] at h;exact h)
 go_wp2_with fail
 go_at_call 101
 refine HQ.out.mono ?_
 rintro e W11 ⟨rfl,hr,hk⟩
 have HS11:=hid (HS0.out.call hr hk)
 clear hr hk
 have HQ:=hid (by have h:=may_any W11 R _ el ec HS11.out.rd [97,114,114,97,121];rw [Hh1.out,if_neg Bool.false_ne_true] at h;exact h)
 go_wp2_with fail
 go_at_call 101
 refine HQ.out.mono ?_
 rintro e W12 ⟨rfl,hr,hk⟩
 have HS12:=hid (HS11.out.call hr hk)
 clear hr hk
 have HQ:=hid (by have h:=may_any W12 R _ el ec HS12.out.rd [105,102];rw [Hh2.out,if_neg Bool.false_ne_true] at h;exact h)
 go_wp2_with fail
 go_at_call 101
 refine HQ.out.mono ?_
 rintro e W13 ⟨rfl,hr,hk⟩
 have HS13:=hid (HS12.out.call hr hk)
 clear hr hk
 have HQ:=hid (by have h:=may_any W13 R _ el ec HS13.out.rd [119,104,105,108,101];rw [Hh3.out,if_neg Bool.false_ne_true] at h;exact h)
 go_wp2_with fail
 go_at_call 101
 refine HQ.out.mono ?_
 rintro e W14 ⟨rfl,hr,hk⟩
 have HS14:=hid (HS13.out.call hr hk)
 clear hr hk
 have HQ:=hid (by have h:=may_any W14 R _ el ec HS14.out.rd [111,117,116];rw [Hh4.out,if_neg Bool.false_ne_true] at h;exact h)
 go_wp2_with fail
 go_at_call 101
 refine HQ.out.mono ?_
 rintro e W15 ⟨rfl,hr,hk⟩
 have HS15:=hid (HS14.out.call hr hk)
 clear hr hk
 have HQ:=hid (by have h:=may_any W15 R _ el ec HS15.out.rd [104,97,108,116];rw [Hh5.out,if_pos rfl] at h;exact h)
 go_wp2_with fail
 go_at_call 101
 refine HQ.out.mono ?_
 rintro e W16 ⟨rfl,hr,hk⟩
 have HS16:=hid (HS15.out.call hr hk)
 clear hr hk
 have HQ:=hid (exP_reads R el ec f W16 W16 _ x _ (KeepBut.refl _ _) HS16.out.rd Hhx1.out)
 go_wp2_with fail
 go_at_call 32
 refine HQ.out.mono ?_
 rintro e X17 ⟨vs,rfl,hex,hr,hk⟩
 obtain ⟨xk,xo,xn,xS,xp,xm,xc,xl,xcl,rfl⟩:=ex_form hex
 obtain ⟨Y17,G17,hY,hG,hbG,hkG,hsG⟩:=fresh_block X17 (.cells #[.int .i64 xk,.int .i64 xo,.int .i64 xn,.string xS,.slice xp xm xc,.int .i64 xl,.int .i64 xcl] TEx)
 obtain ⟨hs,hkd⟩:=HS16.out.expr hex hr hk hkG hbG (by omega)
 have HSY:=hid hs;have HKD:=hid hkd
 obtain ⟨p1,c1,p2,c2,p3,c3,hb,hx,ht,he⟩:=(HS16.out.call hr hk).ex
 have hb:=(KeepBut.alloc (fun _=>False) X17 (.cells #[.int .i64 xk,.int .i64 xo,.int .i64 xn,.string xS,.slice xp xm xc,.int .i64 xl,.int .i64 xcl] TEx)).blk hb
 obtain ⟨n0,-,-,-,-,-,-,n7,-,-,-,-⟩:=blk12 hb
 have f0:=frz12 hb 0
 have f7:=frz12 hb 7
 clear hb hx ht he hs hkd hex hr hk hbG hkG hsG
 go_upto_region 27 with fail
 rw [←hY,←hG]
 clear hY hG
 clear n0 f0 n7 f7
 obtain ⟨p1,c1,p2,c2,p3,c3,hb,hx,ht,he⟩:=HSY.out.ex
 have HB:=hid hb;have HX:=hid hx;have HT:=hid ht;have HE:=hid he
 clear hb hx ht he
 obtain ⟨V17_0,hV0,hb0,hk0⟩:=s_put0 (HB.out) (.int .i64 8)
 rw [←hV0]
 obtain ⟨W17,hV1,hb1,hk1⟩:=s_put7 (hb0) (.slice (some ⟨G17,0,none⟩) 1 1)
 rw [←hV1]
 have HS17:=hid (HSY.out.put (xs':=[x]) ((hk0).trans hk1) hb1 (HKD.out) (HT.out) (HE.out))
 clear hV0 hb0 hk0 hV1 hb1 hk1 HB HX HT HE
 clear HSY HKD
 have HQ:=hid (must1 HS17.out.rd [59] _ Hhm1.out)
 go_wp2_with fail
 go_at_call 76
 refine (HQ.out).mono ?_
 rintro e W18 ⟨rfl,hr,hk⟩
 have HS18:=hid (HS17.out.call hr hk)
 clear hr hk
 obtain ⟨vs,hb8,hst⟩:=SmAt.st (k:=8) (sz:=0) (op:=0) (l:=tl) (cl:=tc) HS18.out
 obtain ⟨s0,s1,s2,s3,s4,s5,s6,p1,m1,c1,p2,m2,c2,p3,m3,c3,s10,s11,rfl⟩:=st_form hst
 have hb28:=(HS18.out.b2 trivial).1
 have HB28:=hid hb28;have HST:=hid hst
 obtain ⟨n0,n1,n2,n3,n4,n5,n6,n7,n8,n9,n10,n11⟩:=blk12 hb8
 obtain ⟨q0,q1,q2,q3,q4,q5,q6,q7,q8,q9,q10,q11⟩:=blk12 hb28
 have fz:=frz12 hb28
 have f0:=fz 0;have f1:=fz 1;have f2:=fz 2;have f3:=fz 3;have f4:=fz 4;have f5:=fz 5;have f6:=fz 6;have f7:=fz 7;have f8:=fz 8;have f9:=fz 9;have f10:=fz 10;have f11:=fz 11
 clear hb8 hst hb28 fz
 go_wp2_with fail
 obtain ⟨wf,hwf,hp,hkp⟩:=put12 HB28.out (.int .i64 s0) (.string s1) (.int .i64 s2) (.int .i64 s3) (.string s4) (.string s5) (.string s6) (.slice p1 m1 c1) (.slice p2 m2 c2) (.slice p3 m3 c3) (.int .i64 s10) (.int .i64 s11)
 rw [←hwf]
 obtain ⟨c0,d1,d2,d3,d4,d5,d6,d7,d8,d9,d10,d11⟩:=blk12 hp
 have hn:=HN.out
 exact bodyPost_ret (v:=.agg #[.int .i64 s0,.string s1,.int .i64 s2,.int .i64 s3,.string s4,.string s5,.string s6,.slice p1 m1 c1,.slice p2 m2 c2,.slice p3 m3 c3,.int .i64 s10,.int .i64 s11]) (by simp [results,Tryz.results103,go_sem,c0,d1,d2,d3,d4,d5,d6,d7,d8,d9,d10,d11]) rfl ⟨_,rfl,(HST.out.keep hkp fun b hb e=>hb.2.2 e).mono fun b hb=>hb.1,HS18.out.rd.keep hkp fun b hb e=>by have e:b=B2:=e;omega,HS18.out.keep.newE hkp fun b e=>by have e:b=B2:=e;omega⟩
end Go.Proofs.YtomlffobbkcmdaaGreatDoor
