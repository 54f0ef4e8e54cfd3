/- Joined texts of this work: PjS. -/
import Derived.Test.YtknnmidnodeanaaGreatDoorJt32
import Derived.Test.YtknnmidnodeanaaGreatDoorJt33
/-
  Package parse: stmt, whatever it comes to.
-/
namespace Go.Proofs.YtknnmidnodeanaaGreatDoor
open Go Go.RowKit Own
open Go.Lib (hid)
/-- what stmt comes to -/
def OutS (w:World) (R el ec:Nat) (o:Oc St) (e:Ending) (w':World):Prop:=
 match o with
 | .ok s r=>∃ vs,e=.returned (.agg vs.toArray)∧StAt w' (fun b=>w.heap.size≤b) vs s∧ReaderAt w' R r el ec∧KeepBut (fun b=>b=R) w w'
 | .bad b=>e=.panicked (fltAt b el ec)∧KeepBut (fun b=>b=R) w w'
 | .no=>True
def DoesS (R el ec:Nat) (its:List Item) (o:Oc St):Prop:=∀ (w:World),ReaderAt w R its el ec→Calls Tryz.prog 97 #[rdV R] w fun e w'=>OutS w R el ec o e w'
/-- what block comes to -/
def OutB (w:World) (R el ec:Nat) (o:Oc (List St)) (e:Ending) (w':World):Prop:=
 match o with
 | .ok l r=>∃ p cap,e=.returned (.slice p l.length cap)∧StsAt w' (fun b=>w.heap.size≤b) p 0 l∧ReaderAt w' R r el ec∧KeepBut (fun b=>b=R) w w'
 | .bad b=>e=.panicked (fltAt b el ec)∧KeepBut (fun b=>b=R) w w'
 | .no=>True
def DoesB (R el ec:Nat) (its:List Item) (o:Oc (List St)):Prop:=∀ (w:World),ReaderAt w R its el ec→Calls Tryz.prog 82 #[rdV R] w fun e w'=>OutB w R el ec o e w'
set_option maxRecDepth 4000 in
set_option maxHeartbeats 32000000 in
theorem stmtJ_var (R el ec f:Nat) (F:List Item→Option (List Item)) (hF:FaultsE F R el ec) (t:Item) (r0:List Item) (o:Oc St) (hno:o≠.no) (h0:headIs (t::r0) [118,97,114]=true) (hx:((wantO 2 r0).bind fun n r=>(mustO [[61]] r).bind fun _ r=>(exO f F r).bind fun x r=>(mustO [[59]] r).bind fun _ r=>Oc.ok (St.mk 1 n.tok.text 0 0 [] [] [] [x] [] [] t.line t.col) r)=o):DoesS R el ec (t::r0) o:=by
 intro w hr
 obtain ⟨V1,B2,hV1,hB2,hb2,hk1,hs1⟩:=fresh_block w (.cells #[.int .i64 0,.string ⟨#[]⟩,.int .i64 0,.int .i64 0,.string ⟨#[]⟩,.string ⟨#[]⟩,.string ⟨#[]⟩,.slice none 0 0,.slice none 0 0,.slice none 0 0,.int .i64 0,.int .i64 0] TSm)
 have HPK:=hid (peek_cons (hr.keep hk1 fun _ _ e=>e))
 obtain ⟨T,hT⟩:∃ T,t.tok.text=T:=⟨_,rfl⟩
 obtain ⟨tk,htk⟩:∃ n:Int,(t.tok.kind:Int)=n:=⟨_,rfl⟩
 obtain ⟨tn,htn⟩:∃ n:Int,(t.tok.num:Int)=n:=⟨_,rfl⟩
 obtain ⟨tl,htl⟩:∃ n:Nat,t.line=n:=⟨_,rfl⟩
 obtain ⟨tc,htc⟩:∃ n:Nat,t.col=n:=⟨_,rfl⟩
 rw [hT,htk,htn,htl,htc] at HPK
 rw [htl,htc] at hx
 have HR1:=hid (hr.keep hk1 fun _ _ e=>e);have HK1:=hid hk1;have HB2:=hid hb2
 have HN:=hid (show R<w.heap.size∧w.heap.size≤B2∧B2<V1.heap.size from ⟨hr.lt,by omega,by omega⟩)
 have Hh0:=hid h0
 have HXX:=hid hx
 have HFE:=hid hF
 have HNO:=hid hno
 clear hr hb2 hk1 hs1 hT htk htn htl htc h0 hx hF hno
 go_enter Tryz.func97,Tryz.ntmps97
 go_upto_region 1 with fail
 rw [←hV1,←hB2]
 clear hV1 hB2
 go_wp2_with fail
 go_at_call 79
 refine HPK.out.mono ?_
 rintro e W1 ⟨rfl,hkp⟩
 obtain ⟨V2,B3,hV2,hB3,hb3,hk2,hs2⟩:=fresh_block W1 (.cells #[.int .i64 tk,.string ⟨T.toArray⟩,.int .i64 tn,.int .i64 tl,.int .i64 tc] TTk)
 obtain ⟨V,B4,hV,hB4,hb4,hk3,hs3⟩:=fresh_block V2 (.cells #[.int .i64 0,.string ⟨#[]⟩,.int .i64 0,.int .i64 0,.string ⟨#[]⟩,.string ⟨#[]⟩,.string ⟨#[]⟩,.slice none 0 0,.slice none 0 0,.slice none 0 0,.int .i64 tl,.int .i64 tc] TSm)
 have hkv:=(hkp.trans hk2).trans hk3
 have HN4:=hid (show B2<B4∧B4<V.heap.size∧w.heap.size≤B4 by have:=HN.out;have:=hkp.size;omega)
 have HS0:=hid (show SmAt True (fun b=>b=R) w V R el ec B4 B2 (t::r0) 0 0 0 tl tc [] [] [] [] [] [] [] from
  ⟨HR1.out.keep hkv fun _ _ e=>e,⟨none,0,none,0,none,0,hb4,by unfold KidsAt;trivial,by unfold StsAt;trivial,by unfold StsAt;trivial⟩,fun _=>⟨hkv.blk HB2.out,by have:=HN.out;omega,by have:=HN4.out;omega⟩,(HK1.out.trans hkv).mono fun b e=>(e.elim:b=R),by have:=HN.out;have:=HN4.out;omega,fun b e=>e.elim .inl fun e=>.inr (by have:=HN4.out;omega)⟩)
 obtain ⟨n0,n1,n2,n3,n4,-⟩:=blk5 hb3
 have h34:B3+1=B4:=by omega
 clear hkp hb3 hb4 hk2 hk3 hs2 hs3 hkv
 go_upto_region 2 with fail
 rw [←hV2,←hB3]
 clear hV2 hB3
 go_upto_region 4 with fail
 rw [←hV,←hB4]
 clear hV hB4 n0 n1 n2 n3 n4 h34 HPK HR1 HK1 HB2
 have HQ:=hid (by have h:=may_any V R _ el ec HS0.out.rd [118,97,114];rw [Hh0.out,if_pos rfl] at h;exact h)
 go_wp2_with fail
 go_at_call 95
 refine HQ.out.mono ?_
 rintro e W11 ⟨rfl,hr,hk⟩
 have HS11:=hid (HS0.out.call hr hk)
 clear hr hk
 have HRT:=hid (show ReaderAt W11 R r0 el ec from HS11.out.rd)
 have hx:=bindC HXX.out HNO.out
 clear HXX
 rcases hx with ⟨b',HB9,rfl⟩ | ⟨tn0,r1,hq1,HXX⟩
 ·obtain ⟨FL,HFL,HQ⟩:=hidF (name_at HRT.out HB9.out)
  go_wp2_with fail
  go_at_call 81
  refine HQ.out.mono ?_
  rintro e We ⟨rfl,hk⟩
  have HKE:=hid (HS11.out.keep.trans hk)
  clear hk
  go_wp2_with fail
  exact ⟨rfl,congrArg Ending.panicked HFL.out,HKE.out⟩
 obtain ⟨S,hS⟩:∃ S,tn0.tok.text=S:=⟨_,rfl⟩
 have HQ:=hid (by have h:=name_ok HRT.out hq1;rw [hS] at h;exact h)
 have HXY:=hid (by have h:=HXX.out;rw [hS] at h;exact h)
 clear HXX
 have HXX:=HXY
 clear HXY hq1 hS HRT
 go_wp2_with fail
 go_at_call 81
 refine (HQ.out).mono ?_
 rintro e W12 ⟨rfl,hr,hk⟩
 have HS12:=hid (HS11.out.call hr hk)
 clear hr hk
 obtain ⟨p1,c1,p2,c2,p3,c3,hb,hx,ht,he⟩:=HS12.out.ex
 have HB:=hid hb;have HX:=hid hx;have HT:=hid ht;have HE:=hid he
 obtain ⟨n0,n1,-,-,-,-,-,-,-,-,-,-⟩:=blk12 hb
 have f0:=frz12 hb 0
 have f1:=frz12 hb 1
 clear hb hx ht he
 go_upto_region 6 with fail
 clear n0 f0 n1 f1
 obtain ⟨V13_0,hV0,hb0,hk0⟩:=s_put0 (HB.out) (.int .i64 1)
 rw [←hV0]
 obtain ⟨W13,hV1,hb1,hk1⟩:=s_put1 (hb0) (.string ⟨S.toArray⟩)
 rw [←hV1]
 have HS13:=hid (HS12.out.put ((hk0).trans hk1) hb1 (HX.out) (HT.out) (HE.out))
 clear hV0 hb0 hk0 hV1 hb1 hk1 HB HX HT HE
 have hx:=bindC HXX.out HNO.out
 clear HXX
 rcases hx with ⟨b',HB9,rfl⟩ | ⟨u,r2,hq2,HXX⟩
 ·obtain ⟨FL,HFL,HQ⟩:=hidF (must1b HS13.out.rd [61] _ HB9.out)
  go_wp2_with fail
  go_at_call 77
  refine HQ.out.mono ?_
  rintro e We ⟨rfl,hk⟩
  have HKE:=hid (HS13.out.keep.trans hk)
  clear hk
  go_wp2_with fail
  exact ⟨rfl,congrArg Ending.panicked HFL.out,HKE.out⟩
 have Hhm1:=hid (mustT_of hq2)
 clear hq2
 have HQ:=hid (must1 HS13.out.rd [61] _ Hhm1.out)
 go_wp2_with fail
 go_at_call 77
 refine (HQ.out).mono ?_
 rintro e W14 ⟨rfl,hr,hk⟩
 have HS14:=hid (HS13.out.call hr hk)
 clear hr hk
 have hx:=bindC HXX.out HNO.out
 clear HXX
 rcases hx with ⟨b',HB9,rfl⟩ | ⟨x,r3,hq3,HXX⟩
 ·obtain ⟨FL,HFL,HQ⟩:=hidF (expr_bad HFE.out HS14.out.rd HB9.out)
  go_wp2_with fail
  go_at_call 109
  refine HQ.out.mono ?_
  rintro e We ⟨rfl,hk⟩
  have HKE:=hid (HS14.out.keep.trans hk)
  clear hk
  go_wp2_with fail
  exact ⟨rfl,congrArg Ending.panicked HFL.out,HKE.out⟩
 have Hhx1:=hid (exO_ok hq3)
 clear hq3
 have HQ:=hid (exP_reads R el ec f W14 W14 _ x _ (KeepBut.refl _ _) HS14.out.rd Hhx1.out)
 go_wp2_with fail
 go_at_call 109
 refine HQ.out.mono ?_
 rintro e X15 ⟨vs,rfl,hex,hr,hk⟩
 obtain ⟨xk,xo,xn,xS,xp,xm,xc,xl,xcl,rfl⟩:=ex_form hex
 obtain ⟨Y15,G15,hY,hG,hbG,hkG,hsG⟩:=fresh_block X15 (.cells #[.int .i64 xk,.int .i64 xo,.int .i64 xn,.string xS,.slice xp xm xc,.int .i64 xl,.int .i64 xcl] TEx)
 obtain ⟨hs,hkd⟩:=HS14.out.expr hex hr hk hkG hbG (by omega)
 have HSY:=hid hs;have HKD:=hid hkd
 obtain ⟨p1,c1,p2,c2,p3,c3,hb,hx,ht,he⟩:=(HS14.out.call hr hk).ex
 have hb:=(KeepBut.alloc (fun _=>False) X15 (.cells #[.int .i64 xk,.int .i64 xo,.int .i64 xn,.string xS,.slice xp xm xc,.int .i64 xl,.int .i64 xcl] TEx)).blk hb
 obtain ⟨-,-,-,-,-,-,-,n7,-,-,-,-⟩:=blk12 hb
 have f7:=frz12 hb 7
 clear hb hx ht he hs hkd hex hr hk hbG hkG hsG
 go_upto_region 8 with fail
 rw [←hY,←hG]
 clear hY hG
 clear n7 f7
 obtain ⟨p1,c1,p2,c2,p3,c3,hb,hx,ht,he⟩:=HSY.out.ex
 have HB:=hid hb;have HX:=hid hx;have HT:=hid ht;have HE:=hid he
 clear hb hx ht he
 obtain ⟨W15,hV0,hb0,hk0⟩:=s_put7 (HB.out) (.slice (some ⟨G15,0,none⟩) 1 1)
 rw [←hV0]
 have HS15:=hid (HSY.out.put (xs':=[x]) (hk0) hb0 (HKD.out) (HT.out) (HE.out))
 clear hV0 hb0 hk0 HB HX HT HE
 clear HSY HKD
 have hx:=bindC HXX.out HNO.out
 clear HXX
 rcases hx with ⟨b',HB9,rfl⟩ | ⟨u,r4,hq4,HXX⟩
 ·obtain ⟨FL,HFL,HQ⟩:=hidF (must1b HS15.out.rd [59] _ HB9.out)
  go_wp2_with fail
  go_at_call 77
  refine HQ.out.mono ?_
  rintro e We ⟨rfl,hk⟩
  have HKE:=hid (HS15.out.keep.trans hk)
  clear hk
  go_wp2_with fail
  exact ⟨rfl,congrArg Ending.panicked HFL.out,HKE.out⟩
 have Hhm2:=hid (mustT_of hq4)
 clear hq4
 have HQ:=hid (must1 HS15.out.rd [59] _ Hhm2.out)
 go_wp2_with fail
 go_at_call 77
 refine (HQ.out).mono ?_
 rintro e W16 ⟨rfl,hr,hk⟩
 have HS16:=hid (HS15.out.call hr hk)
 clear hr hk
 have hx:=HXX.out
 subst hx
 clear HXX HNO
 obtain ⟨vs,hb8,hst⟩:=SmAt.st (k:=1) (sz:=0) (op:=0) (l:=tl) (cl:=tc) HS16.out
 obtain ⟨s0,s1,s2,s3,s4,s5,s6,p1,m1,c1,p2,m2,c2,p3,m3,c3,s10,s11,rfl⟩:=st_form hst
 have hb28:=(HS16.out.b2 trivial).1
 have HB28:=hid hb28;have HST:=hid hst
 obtain ⟨n0,n1,n2,n3,n4,n5,n6,n7,n8,n9,n10,n11⟩:=blk12 hb8
 obtain ⟨q0,q1,q2,q3,q4,q5,q6,q7,q8,q9,q10,q11⟩:=blk12 hb28
 have fz:=frz12 hb28
 have f0:=fz 0;have f1:=fz 1;have f2:=fz 2;have f3:=fz 3;have f4:=fz 4;have f5:=fz 5;have f6:=fz 6;have f7:=fz 7;have f8:=fz 8;have f9:=fz 9;have f10:=fz 10;have f11:=fz 11
 clear hb8 hst hb28 fz
 go_wp2_with fail
 obtain ⟨wf,hwf,hp,hkp⟩:=put12 HB28.out (.int .i64 s0) (.string s1) (.int .i64 s2) (.int .i64 s3) (.string s4) (.string s5) (.string s6) (.slice p1 m1 c1) (.slice p2 m2 c2) (.slice p3 m3 c3) (.int .i64 s10) (.int .i64 s11)
 rw [←hwf]
 obtain ⟨c0,d1,d2,d3,d4,d5,d6,d7,d8,d9,d10,d11⟩:=blk12 hp
 have hn:=HN.out
 exact bodyPost_ret (v:=.agg #[.int .i64 s0,.string s1,.int .i64 s2,.int .i64 s3,.string s4,.string s5,.string s6,.slice p1 m1 c1,.slice p2 m2 c2,.slice p3 m3 c3,.int .i64 s10,.int .i64 s11]) (by simp [results,Tryz.results97,go_sem,c0,d1,d2,d3,d4,d5,d6,d7,d8,d9,d10,d11]) rfl ⟨_,rfl,(HST.out.keep hkp fun b hb e=>hb.2.2 e).mono fun b hb=>hb.1,HS16.out.rd.keep hkp fun b hb e=>by have e:b=B2:=e;omega,HS16.out.keep.newE hkp fun b e=>by have e:b=B2:=e;omega⟩
set_option maxRecDepth 4000 in
set_option maxHeartbeats 32000000 in
theorem stmtJ_array (R el ec f:Nat) (F:List Item→Option (List Item)) (hF:FaultsE F R el ec) (t:Item) (r0:List Item) (o:Oc St) (hno:o≠.no) (h0:headIs (t::r0) [118,97,114]=false) (h1:headIs (t::r0) [97,114,114,97,121]=true) (hx:((wantO 2 r0).bind fun n r=>(mustO [[91]] r).bind fun _ r=>(wantO 3 r).bind fun m r=>(mustO [[93],[59]] r).bind fun _ r=>Oc.ok (St.mk 2 n.tok.text m.tok.num 0 [] [] [] [] [] [] t.line t.col) r)=o):DoesS R el ec (t::r0) o:=by
 intro w hr
 obtain ⟨V1,B2,hV1,hB2,hb2,hk1,hs1⟩:=fresh_block w (.cells #[.int .i64 0,.string ⟨#[]⟩,.int .i64 0,.int .i64 0,.string ⟨#[]⟩,.string ⟨#[]⟩,.string ⟨#[]⟩,.slice none 0 0,.slice none 0 0,.slice none 0 0,.int .i64 0,.int .i64 0] TSm)
 have HPK:=hid (peek_cons (hr.keep hk1 fun _ _ e=>e))
 obtain ⟨T,hT⟩:∃ T,t.tok.text=T:=⟨_,rfl⟩
 obtain ⟨tk,htk⟩:∃ n:Int,(t.tok.kind:Int)=n:=⟨_,rfl⟩
 obtain ⟨tn,htn⟩:∃ n:Int,(t.tok.num:Int)=n:=⟨_,rfl⟩
 obtain ⟨tl,htl⟩:∃ n:Nat,t.line=n:=⟨_,rfl⟩
 obtain ⟨tc,htc⟩:∃ n:Nat,t.col=n:=⟨_,rfl⟩
 rw [hT,htk,htn,htl,htc] at HPK
 rw [htl,htc] at hx
 have HR1:=hid (hr.keep hk1 fun _ _ e=>e);have HK1:=hid hk1;have HB2:=hid hb2
 have HN:=hid (show R<w.heap.size∧w.heap.size≤B2∧B2<V1.heap.size from ⟨hr.lt,by omega,by omega⟩)
 have Hh0:=hid h0
 have Hh1:=hid h1
 have HXX:=hid hx
 have HFE:=hid hF
 have HNO:=hid hno
 clear hr hb2 hk1 hs1 hT htk htn htl htc h0 h1 hx hF hno
 go_enter Tryz.func97,Tryz.ntmps97
 go_upto_region 1 with fail
 rw [←hV1,←hB2]
 clear hV1 hB2
 go_wp2_with fail
 go_at_call 79
 refine HPK.out.mono ?_
 rintro e W1 ⟨rfl,hkp⟩
 obtain ⟨V2,B3,hV2,hB3,hb3,hk2,hs2⟩:=fresh_block W1 (.cells #[.int .i64 tk,.string ⟨T.toArray⟩,.int .i64 tn,.int .i64 tl,.int .i64 tc] TTk)
 obtain ⟨V,B4,hV,hB4,hb4,hk3,hs3⟩:=fresh_block V2 (.cells #[.int .i64 0,.string ⟨#[]⟩,.int .i64 0,.int .i64 0,.string ⟨#[]⟩,.string ⟨#[]⟩,.string ⟨#[]⟩,.slice none 0 0,.slice none 0 0,.slice none 0 0,.int .i64 tl,.int .i64 tc] TSm)
 have hkv:=(hkp.trans hk2).trans hk3
 have HN4:=hid (show B2<B4∧B4<V.heap.size∧w.heap.size≤B4 by have:=HN.out;have:=hkp.size;omega)
 have HS0:=hid (show SmAt True (fun b=>b=R) w V R el ec B4 B2 (t::r0) 0 0 0 tl tc [] [] [] [] [] [] [] from
  ⟨HR1.out.keep hkv fun _ _ e=>e,⟨none,0,none,0,none,0,hb4,by unfold KidsAt;trivial,by unfold StsAt;trivial,by unfold StsAt;trivial⟩,fun _=>⟨hkv.blk HB2.out,by have:=HN.out;omega,by have:=HN4.out;omega⟩,(HK1.out.trans hkv).mono fun b e=>(e.elim:b=R),by have:=HN.out;have:=HN4.out;omega,fun b e=>e.elim .inl fun e=>.inr (by have:=HN4.out;omega)⟩)
 obtain ⟨n0,n1,n2,n3,n4,-⟩:=blk5 hb3
 have h34:B3+1=B4:=by omega
 clear hkp hb3 hb4 hk2 hk3 hs2 hs3 hkv
 go_upto_region 2 with fail
 rw [←hV2,←hB3]
 clear hV2 hB3
 go_upto_region 4 with fail
 rw [←hV,←hB4]
 clear hV hB4 n0 n1 n2 n3 n4 h34 HPK HR1 HK1 HB2
 have HQ:=hid (by have h:=may_any V R _ el ec HS0.out.rd [118,97,114];rw [Hh0.out,if_neg Bool.false_ne_true] at h;exact h)
 go_wp2_with fail
 go_at_call 95
 refine HQ.out.mono ?_
 rintro e W11 ⟨rfl,hr,hk⟩
 have HS11:=hid (HS0.out.call hr hk)
 clear hr hk
 have HQ:=hid (by have h:=may_any W11 R _ el ec HS11.out.rd [97,114,114,97,121];rw [Hh1.out,if_pos rfl] at h;exact h)
 go_wp2_with fail
 go_at_call 95
 refine HQ.out.mono ?_
 rintro e W12 ⟨rfl,hr,hk⟩
 have HS12:=hid (HS11.out.call hr hk)
 clear hr hk
 have HRT:=hid (show ReaderAt W12 R r0 el ec from HS12.out.rd)
 have hx:=bindC HXX.out HNO.out
 clear HXX
 rcases hx with ⟨b',HB9,rfl⟩ | ⟨tn0,r1,hq1,HXX⟩
 ·obtain ⟨FL,HFL,HQ⟩:=hidF (name_at HRT.out HB9.out)
  go_wp2_with fail
  go_at_call 81
  refine HQ.out.mono ?_
  rintro e We ⟨rfl,hk⟩
  have HKE:=hid (HS12.out.keep.trans hk)
  clear hk
  go_wp2_with fail
  exact ⟨rfl,congrArg Ending.panicked HFL.out,HKE.out⟩
 obtain ⟨S,hS⟩:∃ S,tn0.tok.text=S:=⟨_,rfl⟩
 have HQ:=hid (by have h:=name_ok HRT.out hq1;rw [hS] at h;exact h)
 have HXY:=hid (by have h:=HXX.out;rw [hS] at h;exact h)
 clear HXX
 have HXX:=HXY
 clear HXY hq1 hS HRT
 go_wp2_with fail
 go_at_call 81
 refine (HQ.out).mono ?_
 rintro e W13 ⟨rfl,hr,hk⟩
 have HS13:=hid (HS12.out.call hr hk)
 clear hr hk
 obtain ⟨p1,c1,p2,c2,p3,c3,hb,hx,ht,he⟩:=HS13.out.ex
 have HB:=hid hb;have HX:=hid hx;have HT:=hid ht;have HE:=hid he
 obtain ⟨n0,n1,-,-,-,-,-,-,-,-,-,-⟩:=blk12 hb
 have f0:=frz12 hb 0
 have f1:=frz12 hb 1
 clear hb hx ht he
 go_upto_region 11 with fail
 clear n0 f0 n1 f1
 obtain ⟨V14_0,hV0,hb0,hk0⟩:=s_put0 (HB.out) (.int .i64 2)
 rw [←hV0]
 obtain ⟨W14,hV1,hb1,hk1⟩:=s_put1 (hb0) (.string ⟨S.toArray⟩)
 rw [←hV1]
 have HS14:=hid (HS13.out.put ((hk0).trans hk1) hb1 (HX.out) (HT.out) (HE.out))
 clear hV0 hb0 hk0 hV1 hb1 hk1 HB HX HT HE
 have hx:=bindC HXX.out HNO.out
 clear HXX
 rcases hx with ⟨b',HB9,rfl⟩ | ⟨u,r2,hq2,HXX⟩
 ·obtain ⟨FL,HFL,HQ⟩:=hidF (must1b HS14.out.rd [91] _ HB9.out)
  go_wp2_with fail
  go_at_call 77
  refine HQ.out.mono ?_
  rintro e We ⟨rfl,hk⟩
  have HKE:=hid (HS14.out.keep.trans hk)
  clear hk
  go_wp2_with fail
  exact ⟨rfl,congrArg Ending.panicked HFL.out,HKE.out⟩
 have Hhm1:=hid (mustT_of hq2)
 clear hq2
 have HQ:=hid (must1 HS14.out.rd [91] _ Hhm1.out)
 go_wp2_with fail
 go_at_call 77
 refine (HQ.out).mono ?_
 rintro e W15 ⟨rfl,hr,hk⟩
 have HS15:=hid (HS14.out.call hr hk)
 clear hr hk
 have hx:=bindC HXX.out HNO.out
 clear HXX
 rcases hx with ⟨b',HB9,rfl⟩ | ⟨tm,r3,hq3,HXX⟩
 ·obtain ⟨FL,HFL,HQ⟩:=hidF (want_at HS15.out.rd (by decide) HB9.out)
  go_wp2_with fail
  go_at_call 78
  refine HQ.out.mono ?_
  rintro e We ⟨rfl,hk⟩
  have HKE:=hid (HS15.out.keep.trans hk)
  clear hk
  go_wp2_with fail
  exact ⟨rfl,congrArg Ending.panicked HFL.out,HKE.out⟩
 obtain ⟨S2,hS2⟩:∃ S,tm.tok.text=S:=⟨_,rfl⟩
 have HQ:=hid (by have h:=want_ok HS15.out.rd hq3;rw [hS2] at h;exact h)
 clear hS2 hq3
 go_wp2_with fail
 go_at_call 78
 refine (HQ.out).mono ?_
 rintro e W16 ⟨rfl,hr,hk⟩
 have HS16:=hid (HS15.out.call hr hk)
 clear hr hk
 obtain ⟨p1,c1,p2,c2,p3,c3,hb,hx,ht,he⟩:=HS16.out.ex
 have HB:=hid hb;have HX:=hid hx;have HT:=hid ht;have HE:=hid he
 obtain ⟨-,-,n2,-,-,-,-,-,-,-,-,-⟩:=blk12 hb
 have f2:=frz12 hb 2
 clear hb hx ht he
 have hfn:=field_num (.int .i64 tm.tok.kind) (.string ⟨S2.toArray⟩) (.int .i64 tm.tok.num) (.int .i64 tm.line) (.int .i64 tm.col) W16
 go_upto_region 13 with fail
 clear n2 f2 hfn
 obtain ⟨W17,hV0,hb0,hk0⟩:=s_put2 (HB.out) (.int .i64 tm.tok.num)
 rw [←hV0]
 have HS17:=hid (HS16.out.put (hk0) hb0 (HX.out) (HT.out) (HE.out))
 clear hV0 hb0 hk0 HB HX HT HE
 have hx:=bindC HXX.out HNO.out
 clear HXX
 rcases hx with ⟨b',HB9,rfl⟩ | ⟨u,r4,hq4,HXX⟩
 ·obtain ⟨FL,HFL,HQ⟩:=hidF (must2b HS17.out.rd [93] [59] _ HB9.out)
  go_wp2_with fail
  go_at_call 77
  refine HQ.out.mono ?_
  rintro e We ⟨rfl,hk⟩
  have HKE:=hid (HS17.out.keep.trans hk)
  clear hk
  go_wp2_with fail
  exact ⟨rfl,congrArg Ending.panicked HFL.out,HKE.out⟩
 have Hhm2:=hid (mustT_of hq4)
 clear hq4
 have HQ:=hid (must2 HS17.out.rd [93] [59] _ Hhm2.out)
 go_wp2_with fail
 go_at_call 77
 refine (HQ.out).mono ?_
 rintro e W18 ⟨rfl,hr,hk⟩
 have HS18:=hid (HS17.out.call hr hk)
 clear hr hk
 have hx:=HXX.out
 subst hx
 clear HXX HNO
 obtain ⟨vs,hb8,hst⟩:=SmAt.st (k:=2) (sz:=tm.tok.num) (op:=0) (l:=tl) (cl:=tc) HS18.out
 obtain ⟨s0,s1,s2,s3,s4,s5,s6,p1,m1,c1,p2,m2,c2,p3,m3,c3,s10,s11,rfl⟩:=st_form hst
 have hb28:=(HS18.out.b2 trivial).1
 have HB28:=hid hb28;have HST:=hid hst
 obtain ⟨n0,n1,n2,n3,n4,n5,n6,n7,n8,n9,n10,n11⟩:=blk12 hb8
 obtain ⟨q0,q1,q2,q3,q4,q5,q6,q7,q8,q9,q10,q11⟩:=blk12 hb28
 have fz:=frz12 hb28
 have f0:=fz 0;have f1:=fz 1;have f2:=fz 2;have f3:=fz 3;have f4:=fz 4;have f5:=fz 5;have f6:=fz 6;have f7:=fz 7;have f8:=fz 8;have f9:=fz 9;have f10:=fz 10;have f11:=fz 11
 clear hb8 hst hb28 fz
 go_wp2_with fail
 obtain ⟨wf,hwf,hp,hkp⟩:=put12 HB28.out (.int .i64 s0) (.string s1) (.int .i64 s2) (.int .i64 s3) (.string s4) (.string s5) (.string s6) (.slice p1 m1 c1) (.slice p2 m2 c2) (.slice p3 m3 c3) (.int .i64 s10) (.int .i64 s11)
 rw [←hwf]
 obtain ⟨c0,d1,d2,d3,d4,d5,d6,d7,d8,d9,d10,d11⟩:=blk12 hp
 have hn:=HN.out
 exact bodyPost_ret (v:=.agg #[.int .i64 s0,.string s1,.int .i64 s2,.int .i64 s3,.string s4,.string s5,.string s6,.slice p1 m1 c1,.slice p2 m2 c2,.slice p3 m3 c3,.int .i64 s10,.int .i64 s11]) (by simp [results,Tryz.results97,go_sem,c0,d1,d2,d3,d4,d5,d6,d7,d8,d9,d10,d11]) rfl ⟨_,rfl,(HST.out.keep hkp fun b hb e=>hb.2.2 e).mono fun b hb=>hb.1,HS18.out.rd.keep hkp fun b hb e=>by have e:b=B2:=e;omega,HS18.out.keep.newE hkp fun b e=>by have e:b=B2:=e;omega⟩
set_option maxRecDepth 4000 in
set_option maxHeartbeats 32000000 in
theorem stmtJ_if (R el ec f:Nat) (F:List Item→Option (List Item)) (hF:FaultsE F R el ec) (t:Item) (r0:List Item) (o:Oc St) (hno:o≠.no) (h0:headIs (t::r0) [118,97,114]=false) (h1:headIs (t::r0) [97,114,114,97,121]=false) (h2:headIs (t::r0) [105,102]=true) (blk:List Item→Oc (List St)) (hBo:∀ ts,blk ts≠.no→DoesB R el ec ts (blk ts)) (hx:((exO f F r0).bind fun x r=>(blk r).bind fun a r=>if headIs r [101,108,115,101]=true then (blk r.tail).bind fun b r=>Oc.ok (St.mk 5 [] 0 0 [] [] [] [x] a b t.line t.col) r else Oc.ok (St.mk 5 [] 0 0 [] [] [] [x] a [] t.line t.col) r)=o):DoesS R el ec (t::r0) o:=by
 intro w hr
 have HBO:=hid hBo
 clear hBo
 obtain ⟨V1,B2,hV1,hB2,hb2,hk1,hs1⟩:=fresh_block w (.cells #[.int .i64 0,.string ⟨#[]⟩,.int .i64 0,.int .i64 0,.string ⟨#[]⟩,.string ⟨#[]⟩,.string ⟨#[]⟩,.slice none 0 0,.slice none 0 0,.slice none 0 0,.int .i64 0,.int .i64 0] TSm)
 have HPK:=hid (peek_cons (hr.keep hk1 fun _ _ e=>e))
 obtain ⟨T,hT⟩:∃ T,t.tok.text=T:=⟨_,rfl⟩
 obtain ⟨tk,htk⟩:∃ n:Int,(t.tok.kind:Int)=n:=⟨_,rfl⟩
 obtain ⟨tn,htn⟩:∃ n:Int,(t.tok.num:Int)=n:=⟨_,rfl⟩
 obtain ⟨tl,htl⟩:∃ n:Nat,t.line=n:=⟨_,rfl⟩
 obtain ⟨tc,htc⟩:∃ n:Nat,t.col=n:=⟨_,rfl⟩
 rw [hT,htk,htn,htl,htc] at HPK
 rw [htl,htc] at hx
 have HR1:=hid (hr.keep hk1 fun _ _ e=>e);have HK1:=hid hk1;have HB2:=hid hb2
 have HN:=hid (show R<w.heap.size∧w.heap.size≤B2∧B2<V1.heap.size from ⟨hr.lt,by omega,by omega⟩)
 have Hh0:=hid h0
 have Hh1:=hid h1
 have Hh2:=hid h2
 have HXX:=hid hx
 have HFE:=hid hF
 have HNO:=hid hno
 clear hr hb2 hk1 hs1 hT htk htn htl htc h0 h1 h2 hx hF hno
 go_enter Tryz.func97,Tryz.ntmps97
 go_upto_region 1 with fail
 rw [←hV1,←hB2]
 clear hV1 hB2
 go_wp2_with fail
 go_at_call 79
 refine HPK.out.mono ?_
 rintro e W1 ⟨rfl,hkp⟩
 obtain ⟨V2,B3,hV2,hB3,hb3,hk2,hs2⟩:=fresh_block W1 (.cells #[.int .i64 tk,.string ⟨T.toArray⟩,.int .i64 tn,.int .i64 tl,.int .i64 tc] TTk)
 obtain ⟨V,B4,hV,hB4,hb4,hk3,hs3⟩:=fresh_block V2 (.cells #[.int .i64 0,.string ⟨#[]⟩,.int .i64 0,.int .i64 0,.string ⟨#[]⟩,.string ⟨#[]⟩,.string ⟨#[]⟩,.slice none 0 0,.slice none 0 0,.slice none 0 0,.int .i64 tl,.int .i64 tc] TSm)
 have hkv:=(hkp.trans hk2).trans hk3
 have HN4:=hid (show B2<B4∧B4<V.heap.size∧w.heap.size≤B4 by have:=HN.out;have:=hkp.size;omega)
 have HS0:=hid (show SmAt True (fun b=>b=R) w V R el ec B4 B2 (t::r0) 0 0 0 tl tc [] [] [] [] [] [] [] from
  ⟨HR1.out.keep hkv fun _ _ e=>e,⟨none,0,none,0,none,0,hb4,by unfold KidsAt;trivial,by unfold StsAt;trivial,by unfold StsAt;trivial⟩,fun _=>⟨hkv.blk HB2.out,by have:=HN.out;omega,by have:=HN4.out;omega⟩,(HK1.out.trans hkv).mono fun b e=>(e.elim:b=R),by have:=HN.out;have:=HN4.out;omega,fun b e=>e.elim .inl fun e=>.inr (by have:=HN4.out;omega)⟩)
 obtain ⟨n0,n1,n2,n3,n4,-⟩:=blk5 hb3
 have h34:B3+1=B4:=by omega
 clear hkp hb3 hb4 hk2 hk3 hs2 hs3 hkv
 go_upto_region 2 with fail
 rw [←hV2,←hB3]
 clear hV2 hB3
 go_upto_region 4 with fail
 rw [←hV,←hB4]
 clear hV hB4 n0 n1 n2 n3 n4 h34 HPK HR1 HK1 HB2
 have HQ:=hid (by have h:=may_any V R _ el ec HS0.out.rd [118,97,114];rw [Hh0.out,if_neg Bool.false_ne_true] at h;exact h)
 go_wp2_with fail
 go_at_call 95
 refine HQ.out.mono ?_
 rintro e W11 ⟨rfl,hr,hk⟩
 have HS11:=hid (HS0.out.call hr hk)
 clear hr hk
 have HQ:=hid (by have h:=may_any W11 R _ el ec HS11.out.rd [97,114,114,97,121];rw [Hh1.out,if_neg Bool.false_ne_true] at h;exact h)
 go_wp2_with fail
 go_at_call 95
 refine HQ.out.mono ?_
 rintro e W12 ⟨rfl,hr,hk⟩
 have HS12:=hid (HS11.out.call hr hk)
 clear hr hk
 have HQ:=hid (by have h:=may_any W12 R _ el ec HS12.out.rd [105,102];rw [Hh2.out,if_pos rfl] at h;exact h)
 go_wp2_with fail
 go_at_call 95
 refine HQ.out.mono ?_
 rintro e W13 ⟨rfl,hr,hk⟩
 have HS13:=hid (HS12.out.call hr hk)
 clear hr hk
 have hx:=bindC HXX.out HNO.out
 clear HXX
 rcases hx with ⟨b',HB9,rfl⟩ | ⟨x,r1,hq1,HXX⟩
 ·obtain ⟨FL,HFL,HQ⟩:=hidF (expr_bad HFE.out HS13.out.rd HB9.out)
  go_wp2_with fail
  go_at_call 109
  refine HQ.out.mono ?_
  rintro e We ⟨rfl,hk⟩
  have HKE:=hid (HS13.out.keep.trans hk)
  clear hk
  go_wp2_with fail
  exact ⟨rfl,congrArg Ending.panicked HFL.out,HKE.out⟩
 have Hhx1:=hid (exO_ok hq1)
 clear hq1
 have HQ:=hid (exP_reads R el ec f W13 W13 _ x _ (KeepBut.refl _ _) HS13.out.rd Hhx1.out)
 go_wp2_with fail
 go_at_call 109
 refine HQ.out.mono ?_
 rintro e X14 ⟨vs,rfl,hex,hr,hk⟩
 obtain ⟨xk,xo,xn,xS,xp,xm,xc,xl,xcl,rfl⟩:=ex_form hex
 obtain ⟨Y14,G14,hY,hG,hbG,hkG,hsG⟩:=fresh_block X14 (.cells #[.int .i64 xk,.int .i64 xo,.int .i64 xn,.string xS,.slice xp xm xc,.int .i64 xl,.int .i64 xcl] TEx)
 obtain ⟨hs,hkd⟩:=HS13.out.expr hex hr hk hkG hbG (by omega)
 have HSY:=hid hs;have HKD:=hid hkd
 obtain ⟨p1,c1,p2,c2,p3,c3,hb,hx,ht,he⟩:=(HS13.out.call hr hk).ex
 have hb:=(KeepBut.alloc (fun _=>False) X14 (.cells #[.int .i64 xk,.int .i64 xo,.int .i64 xn,.string xS,.slice xp xm xc,.int .i64 xl,.int .i64 xcl] TEx)).blk hb
 obtain ⟨n0,-,-,-,-,-,-,n7,-,-,-,-⟩:=blk12 hb
 have f0:=frz12 hb 0
 have f7:=frz12 hb 7
 clear hb hx ht he hs hkd hex hr hk hbG hkG hsG
 go_upto_region 16 with fail
 rw [←hY,←hG]
 clear hY hG
 clear n0 f0 n7 f7
 obtain ⟨p1,c1,p2,c2,p3,c3,hb,hx,ht,he⟩:=HSY.out.ex
 have HB:=hid hb;have HX:=hid hx;have HT:=hid ht;have HE:=hid he
 clear hb hx ht he
 obtain ⟨V14_0,hV0,hb0,hk0⟩:=s_put0 (HB.out) (.int .i64 5)
 rw [←hV0]
 obtain ⟨W14,hV1,hb1,hk1⟩:=s_put7 (hb0) (.slice (some ⟨G14,0,none⟩) 1 1)
 rw [←hV1]
 have HS14:=hid (HSY.out.put (xs':=[x]) ((hk0).trans hk1) hb1 (HKD.out) (HT.out) (HE.out))
 clear hV0 hb0 hk0 hV1 hb1 hk1 HB HX HT HE
 clear HSY HKD
 have hx:=bindC HXX.out HNO.out
 clear HXX
 rcases hx with ⟨b',HB9,rfl⟩ | ⟨a,r2,hq2,HXX⟩
 ·obtain ⟨FL,HFL,HQ⟩:=hidF (show Calls _ _ _ _ fun e w'=>e=.panicked (fltAt b' el ec)∧KeepBut (fun b=>b=R) W14 w' from (by have h:=HBO.out (r1) (by rw [HB9.out];exact fun h=>by cases h) _ HS14.out.rd;rw [HB9.out] at h;exact h))
  go_wp2_with fail
  go_at_call 82
  refine HQ.out.mono ?_
  rintro e We ⟨rfl,hk⟩
  have HKE:=hid (HS14.out.keep.trans hk)
  clear hk
  go_wp2_with fail
  exact ⟨rfl,congrArg Ending.panicked HFL.out,HKE.out⟩
 have Hhb1:=hid (show ∀ w,ReaderAt w R _ el ec→Calls _ _ _ w fun e w'=>∃ p cap,_ from (by have h:=HBO.out (r1) (by rw [hq2];exact fun h=>by cases h);rw [hq2] at h;exact h))
 clear hq2
 go_wp2_with fail
 go_at_call 82
 refine (Hhb1.out W14 HS14.out.rd).mono ?_
 rintro e X15 ⟨q,cq,rfl,hst,hr,hk⟩
 obtain ⟨hs,hsk⟩:=HS14.out.block hst hr hk
 have HSX:=hid hs;have HSK:=hid hsk
 clear hst hr hk hs hsk
 obtain ⟨p1,c1,p2,c2,p3,c3,hb,hx,ht,he⟩:=HSX.out.ex
 have HB:=hid hb;have HX:=hid hx;have HT:=hid ht;have HE:=hid he
 obtain ⟨-,-,-,-,-,-,-,-,n8,-,-,-⟩:=blk12 hb
 have f8:=frz12 hb 8
 clear hb hx ht he
 go_upto_region 17 with fail
 clear n8 f8
 obtain ⟨W15,hV0,hb0,hk0⟩:=s_put8 (HB.out) (.slice q a.length cq)
 rw [←hV0]
 have HS15:=hid (HSX.out.put (thn':=a) (hk0) hb0 (HX.out) (HSK.out) (HE.out))
 clear hV0 hb0 hk0 HB HX HT HE
 clear HSX HSK
 by_cases hel:headIs r2 [101,108,115,101]=true
 ·have HXY:=hid (by have h:=HXX.out;rw [if_pos hel] at h;exact h)
  clear HXX
  have HXX:=HXY
  clear HXY
  have Hhel:=hid hel
  clear hel
  have HQ:=hid (by have h:=may_any W15 R _ el ec (HS15.out.rd) [101,108,115,101];rw [Hhel.out,if_pos rfl] at h;exact h)
  go_wp2_with fail
  go_at_call 95
  refine (HQ.out).mono ?_
  rintro e W16 ⟨rfl,hr,hk⟩
  have HS16:=hid (HS15.out.call hr hk)
  clear hr hk
  have hx:=bindC HXX.out HNO.out
  clear HXX
  rcases hx with ⟨b',HB9,rfl⟩ | ⟨b2,r3,hq3,HXX⟩
  ·obtain ⟨FL,HFL,HQ⟩:=hidF (show Calls _ _ _ _ fun e w'=>e=.panicked (fltAt b' el ec)∧KeepBut (fun b=>b=R) W16 w' from (by have h:=HBO.out (r2.tail) (by rw [HB9.out];exact fun h=>by cases h) _ HS16.out.rd;rw [HB9.out] at h;exact h))
   go_wp2_with fail
   go_at_call 82
   refine HQ.out.mono ?_
   rintro e We ⟨rfl,hk⟩
   have HKE:=hid (HS16.out.keep.trans hk)
   clear hk
   go_wp2_with fail
   exact ⟨rfl,congrArg Ending.panicked HFL.out,HKE.out⟩
  have Hhbb:=hid (show ∀ w,ReaderAt w R _ el ec→Calls _ _ _ w fun e w'=>∃ p cap,_ from (by have h:=HBO.out (r2.tail) (by rw [hq3];exact fun h=>by cases h);rw [hq3] at h;exact h))
  clear hq3
  go_wp2_with fail
  go_at_call 82
  refine (Hhbb.out W16 HS16.out.rd).mono ?_
  rintro e X17 ⟨q,cq,rfl,hst,hr,hk⟩
  obtain ⟨hs,hsk⟩:=HS16.out.block hst hr hk
  have HSX:=hid hs;have HSK:=hid hsk
  clear hst hr hk hs hsk
  obtain ⟨p1,c1,p2,c2,p3,c3,hb,hx,ht,he⟩:=HSX.out.ex
  have HB:=hid hb;have HX:=hid hx;have HT:=hid ht;have HE:=hid he
  obtain ⟨-,-,-,-,-,-,-,-,-,n9,-,-⟩:=blk12 hb
  have f9:=frz12 hb 9
  clear hb hx ht he
  go_upto_region 28 with fail
  clear n9 f9
  obtain ⟨W17,hV0,hb0,hk0⟩:=s_put9 (HB.out) (.slice q b2.length cq)
  rw [←hV0]
  have HS17:=hid (HSX.out.put (els':=b2) (hk0) hb0 (HX.out) (HT.out) (HSK.out))
  clear hV0 hb0 hk0 HB HX HT HE
  clear HSX HSK
  have hx:=HXX.out
  subst hx
  clear HXX HNO
  obtain ⟨vs,hb8,hst⟩:=SmAt.st (k:=5) (sz:=0) (op:=0) (l:=tl) (cl:=tc) HS17.out
  obtain ⟨s0,s1,s2,s3,s4,s5,s6,p1,m1,c1,p2,m2,c2,p3,m3,c3,s10,s11,rfl⟩:=st_form hst
  have hb28:=(HS17.out.b2 trivial).1
  have HB28:=hid hb28;have HST:=hid hst
  obtain ⟨n0,n1,n2,n3,n4,n5,n6,n7,n8,n9,n10,n11⟩:=blk12 hb8
  obtain ⟨q0,q1,q2,q3,q4,q5,q6,q7,q8,q9,q10,q11⟩:=blk12 hb28
  have fz:=frz12 hb28
  have f0:=fz 0;have f1:=fz 1;have f2:=fz 2;have f3:=fz 3;have f4:=fz 4;have f5:=fz 5;have f6:=fz 6;have f7:=fz 7;have f8:=fz 8;have f9:=fz 9;have f10:=fz 10;have f11:=fz 11
  clear hb8 hst hb28 fz
  go_wp2_with fail
  obtain ⟨wf,hwf,hp,hkp⟩:=put12 HB28.out (.int .i64 s0) (.string s1) (.int .i64 s2) (.int .i64 s3) (.string s4) (.string s5) (.string s6) (.slice p1 m1 c1) (.slice p2 m2 c2) (.slice p3 m3 c3) (.int .i64 s10) (.int .i64 s11)
  rw [←hwf]
  obtain ⟨c0,d1,d2,d3,d4,d5,d6,d7,d8,d9,d10,d11⟩:=blk12 hp
  have hn:=HN.out
  exact bodyPost_ret (v:=.agg #[.int .i64 s0,.string s1,.int .i64 s2,.int .i64 s3,.string s4,.string s5,.string s6,.slice p1 m1 c1,.slice p2 m2 c2,.slice p3 m3 c3,.int .i64 s10,.int .i64 s11]) (by simp [results,Tryz.results97,go_sem,c0,d1,d2,d3,d4,d5,d6,d7,d8,d9,d10,d11]) rfl ⟨_,rfl,(HST.out.keep hkp fun b hb e=>hb.2.2 e).mono fun b hb=>hb.1,HS17.out.rd.keep hkp fun b hb e=>by have e:b=B2:=e;omega,HS17.out.keep.newE hkp fun b e=>by have e:b=B2:=e;omega⟩
 ·have HXY:=hid (by have h:=HXX.out;rw [if_neg hel] at h;exact h)
  clear HXX
  have HXX:=HXY
  clear HXY
  have Hhel:=hid (Bool.eq_false_iff.2 hel)
  clear hel
  have HQ:=hid (by have h:=may_any W15 R _ el ec (HS15.out.rd) [101,108,115,101];rw [Hhel.out,if_neg Bool.false_ne_true] at h;exact h)
  go_wp2_with fail
  go_at_call 95
  refine (HQ.out).mono ?_
  rintro e W16 ⟨rfl,hr,hk⟩
  have HS16:=hid (HS15.out.call hr hk)
  clear hr hk
  have hx:=HXX.out
  subst hx
  clear HXX HNO
  obtain ⟨vs,hb8,hst⟩:=SmAt.st (k:=5) (sz:=0) (op:=0) (l:=tl) (cl:=tc) HS16.out
  obtain ⟨s0,s1,s2,s3,s4,s5,s6,p1,m1,c1,p2,m2,c2,p3,m3,c3,s10,s11,rfl⟩:=st_form hst
  have hb28:=(HS16.out.b2 trivial).1
  have HB28:=hid hb28;have HST:=hid hst
  obtain ⟨n0,n1,n2,n3,n4,n5,n6,n7,n8,n9,n10,n11⟩:=blk12 hb8
  obtain ⟨q0,q1,q2,q3,q4,q5,q6,q7,q8,q9,q10,q11⟩:=blk12 hb28
  have fz:=frz12 hb28
  have f0:=fz 0;have f1:=fz 1;have f2:=fz 2;have f3:=fz 3;have f4:=fz 4;have f5:=fz 5;have f6:=fz 6;have f7:=fz 7;have f8:=fz 8;have f9:=fz 9;have f10:=fz 10;have f11:=fz 11
  clear hb8 hst hb28 fz
  go_wp2_with fail
  obtain ⟨wf,hwf,hp,hkp⟩:=put12 HB28.out (.int .i64 s0) (.string s1) (.int .i64 s2) (.int .i64 s3) (.string s4) (.string s5) (.string s6) (.slice p1 m1 c1) (.slice p2 m2 c2) (.slice p3 m3 c3) (.int .i64 s10) (.int .i64 s11)
  rw [←hwf]
  obtain ⟨c0,d1,d2,d3,d4,d5,d6,d7,d8,d9,d10,d11⟩:=blk12 hp
  have hn:=HN.out
  exact bodyPost_ret (v:=.agg #[.int .i64 s0,.string s1,.int .i64 s2,.int .i64 s3,.string s4,.string s5,.string s6,.slice p1 m1 c1,.slice p2 m2 c2,.slice p3 m3 c3,.int .i64 s10,.int .i64 s11]) (by simp [results,Tryz.results97,go_sem,c0,d1,d2,d3,d4,d5,d6,d7,d8,d9,d10,d11]) rfl ⟨_,rfl,(HST.out.keep hkp fun b hb e=>hb.2.2 e).mono fun b hb=>hb.1,HS16.out.rd.keep hkp fun b hb e=>by have e:b=B2:=e;omega,HS16.out.keep.newE hkp fun b e=>by have e:b=B2:=e;omega⟩
set_option maxRecDepth 4000 in
set_option maxHeartbeats 32000000 in
theorem stmtJ_while (R el ec f:Nat) (F:List Item→Option (List Item)) (hF:FaultsE F R el ec) (t:Item) (r0:List Item) (o:Oc St) (hno:o≠.no) (h0:headIs (t::r0) [118,97,114]=false) (h1:headIs (t::r0) [97,114,114,97,121]=false) (h2:headIs (t::r0) [105,102]=false) (h3:headIs (t::r0) [119,104,105,108,101]=true) (blk:List Item→Oc (List St)) (hBo:∀ ts,blk ts≠.no→DoesB R el ec ts (blk ts)) (hx:((exO f F r0).bind fun x r=>(blk r).bind fun a r=>Oc.ok (St.mk 6 [] 0 0 [] [] [] [x] a [] t.line t.col) r)=o):DoesS R el ec (t::r0) o:=by
 intro w hr
 have HBO:=hid hBo
 clear hBo
 obtain ⟨V1,B2,hV1,hB2,hb2,hk1,hs1⟩:=fresh_block w (.cells #[.int .i64 0,.string ⟨#[]⟩,.int .i64 0,.int .i64 0,.string ⟨#[]⟩,.string ⟨#[]⟩,.string ⟨#[]⟩,.slice none 0 0,.slice none 0 0,.slice none 0 0,.int .i64 0,.int .i64 0] TSm)
 have HPK:=hid (peek_cons (hr.keep hk1 fun _ _ e=>e))
 obtain ⟨T,hT⟩:∃ T,t.tok.text=T:=⟨_,rfl⟩
 obtain ⟨tk,htk⟩:∃ n:Int,(t.tok.kind:Int)=n:=⟨_,rfl⟩
 obtain ⟨tn,htn⟩:∃ n:Int,(t.tok.num:Int)=n:=⟨_,rfl⟩
 obtain ⟨tl,htl⟩:∃ n:Nat,t.line=n:=⟨_,rfl⟩
 obtain ⟨tc,htc⟩:∃ n:Nat,t.col=n:=⟨_,rfl⟩
 rw [hT,htk,htn,htl,htc] at HPK
 rw [htl,htc] at hx
 have HR1:=hid (hr.keep hk1 fun _ _ e=>e);have HK1:=hid hk1;have HB2:=hid hb2
 have HN:=hid (show R<w.heap.size∧w.heap.size≤B2∧B2<V1.heap.size from ⟨hr.lt,by omega,by omega⟩)
 have Hh0:=hid h0
 have Hh1:=hid h1
 have Hh2:=hid h2
 have Hh3:=hid h3
 have HXX:=hid hx
 have HFE:=hid hF
 have HNO:=hid hno
 clear hr hb2 hk1 hs1 hT htk htn htl htc h0 h1 h2 h3 hx hF hno
 go_enter Tryz.func97,Tryz.ntmps97
 go_upto_region 1 with fail
 rw [←hV1,←hB2]
 clear hV1 hB2
 go_wp2_with fail
 go_at_call 79
 refine HPK.out.mono ?_
 rintro e W1 ⟨rfl,hkp⟩
 obtain ⟨V2,B3,hV2,hB3,hb3,hk2,hs2⟩:=fresh_block W1 (.cells #[.int .i64 tk,.string ⟨T.toArray⟩,.int .i64 tn,.int .i64 tl,.int .i64 tc] TTk)
 obtain ⟨V,B4,hV,hB4,hb4,hk3,hs3⟩:=fresh_block V2 (.cells #[.int .i64 0,.string ⟨#[]⟩,.int .i64 0,.int .i64 0,.string ⟨#[]⟩,.string ⟨#[]⟩,.string ⟨#[]⟩,.slice none 0 0,.slice none 0 0,.slice none 0 0,.int .i64 tl,.int .i64 tc] TSm)
 have hkv:=(hkp.trans hk2).trans hk3
 have HN4:=hid (show B2<B4∧B4<V.heap.size∧w.heap.size≤B4 by have:=HN.out;have:=hkp.size;omega)
 have HS0:=hid (show SmAt True (fun b=>b=R) w V R el ec B4 B2 (t::r0) 0 0 0 tl tc [] [] [] [] [] [] [] from
  ⟨HR1.out.keep hkv fun _ _ e=>e,⟨none,0,none,0,none,0,hb4,by unfold KidsAt;trivial,by unfold StsAt;trivial,by unfold StsAt;trivial⟩,fun _=>⟨hkv.blk HB2.out,by have:=HN.out;omega,by have:=HN4.out;omega⟩,(HK1.out.trans hkv).mono fun b e=>(e.elim:b=R),by have:=HN.out;have:=HN4.out;omega,fun b e=>e.elim .inl fun e=>.inr (by have:=HN4.out;omega)⟩)
 obtain ⟨n0,n1,n2,n3,n4,-⟩:=blk5 hb3
 have h34:B3+1=B4:=by omega
 clear hkp hb3 hb4 hk2 hk3 hs2 hs3 hkv
 go_upto_region 2 with fail
 rw [←hV2,←hB3]
 clear hV2 hB3
 go_upto_region 4 with fail
 rw [←hV,←hB4]
 clear hV hB4 n0 n1 n2 n3 n4 h34 HPK HR1 HK1 HB2
 have HQ:=hid (by have h:=may_any V R _ el ec HS0.out.rd [118,97,114];rw [Hh0.out,if_neg Bool.false_ne_true] at h;exact h)
 go_wp2_with fail
 go_at_call 95
 refine HQ.out.mono ?_
 rintro e W11 ⟨rfl,hr,hk⟩
 have HS11:=hid (HS0.out.call hr hk)
 clear hr hk
 have HQ:=hid (by have h:=may_any W11 R _ el ec HS11.out.rd [97,114,114,97,121];rw [Hh1.out,if_neg Bool.false_ne_true] at h;exact h)
 go_wp2_with fail
 go_at_call 95
 refine HQ.out.mono ?_
 rintro e W12 ⟨rfl,hr,hk⟩
 have HS12:=hid (HS11.out.call hr hk)
 clear hr hk
 have HQ:=hid (by have h:=may_any W12 R _ el ec HS12.out.rd [105,102];rw [Hh2.out,if_neg Bool.false_ne_true] at h;exact h)
 go_wp2_with fail
 go_at_call 95
 refine HQ.out.mono ?_
 rintro e W13 ⟨rfl,hr,hk⟩
 have HS13:=hid (HS12.out.call hr hk)
 clear hr hk
 have HQ:=hid (by have h:=may_any W13 R _ el ec HS13.out.rd [119,104,105,108,101];rw [Hh3.out,if_pos rfl] at h;exact h)
 go_wp2_with fail
 go_at_call 95
 refine HQ.out.mono ?_
 rintro e W14 ⟨rfl,hr,hk⟩
 have HS14:=hid (HS13.out.call hr hk)
 clear hr hk
 have hx:=bindC HXX.out HNO.out
 clear HXX
 rcases hx with ⟨b',HB9,rfl⟩ | ⟨x,r1,hq1,HXX⟩
 ·obtain ⟨FL,HFL,HQ⟩:=hidF (expr_bad HFE.out HS14.out.rd HB9.out)
  go_wp2_with fail
  go_at_call 109
  refine HQ.out.mono ?_
  rintro e We ⟨rfl,hk⟩
  have HKE:=hid (HS14.out.keep.trans hk)
  clear hk
  go_wp2_with fail
  exact ⟨rfl,congrArg Ending.panicked HFL.out,HKE.out⟩
 have Hhx1:=hid (exO_ok hq1)
 clear hq1
 have HQ:=hid (exP_reads R el ec f W14 W14 _ x _ (KeepBut.refl _ _) HS14.out.rd Hhx1.out)
 go_wp2_with fail
 go_at_call 109
 refine HQ.out.mono ?_
 rintro e X15 ⟨vs,rfl,hex,hr,hk⟩
 obtain ⟨xk,xo,xn,xS,xp,xm,xc,xl,xcl,rfl⟩:=ex_form hex
 obtain ⟨Y15,G15,hY,hG,hbG,hkG,hsG⟩:=fresh_block X15 (.cells #[.int .i64 xk,.int .i64 xo,.int .i64 xn,.string xS,.slice xp xm xc,.int .i64 xl,.int .i64 xcl] TEx)
 obtain ⟨hs,hkd⟩:=HS14.out.expr hex hr hk hkG hbG (by omega)
 have HSY:=hid hs;have HKD:=hid hkd
 obtain ⟨p1,c1,p2,c2,p3,c3,hb,hx,ht,he⟩:=(HS14.out.call hr hk).ex
 have hb:=(KeepBut.alloc (fun _=>False) X15 (.cells #[.int .i64 xk,.int .i64 xo,.int .i64 xn,.string xS,.slice xp xm xc,.int .i64 xl,.int .i64 xcl] TEx)).blk hb
 obtain ⟨n0,-,-,-,-,-,-,n7,-,-,-,-⟩:=blk12 hb
 have f0:=frz12 hb 0
 have f7:=frz12 hb 7
 clear hb hx ht he hs hkd hex hr hk hbG hkG hsG
 go_upto_region 21 with fail
 rw [←hY,←hG]
 clear hY hG
 clear n0 f0 n7 f7
 obtain ⟨p1,c1,p2,c2,p3,c3,hb,hx,ht,he⟩:=HSY.out.ex
 have HB:=hid hb;have HX:=hid hx;have HT:=hid ht;have HE:=hid he
 clear hb hx ht he
 obtain ⟨V15_0,hV0,hb0,hk0⟩:=s_put0 (HB.out) (.int .i64 6)
 rw [←hV0]
 obtain ⟨W15,hV1,hb1,hk1⟩:=s_put7 (hb0) (.slice (some ⟨G15,0,none⟩) 1 1)
 rw [←hV1]
 have HS15:=hid (HSY.out.put (xs':=[x]) ((hk0).trans hk1) hb1 (HKD.out) (HT.out) (HE.out))
 clear hV0 hb0 hk0 hV1 hb1 hk1 HB HX HT HE
 clear HSY HKD
 have hx:=bindC HXX.out HNO.out
 clear HXX
 rcases hx with ⟨b',HB9,rfl⟩ | ⟨a,r2,hq2,HXX⟩
 ·obtain ⟨FL,HFL,HQ⟩:=hidF (show Calls _ _ _ _ fun e w'=>e=.panicked (fltAt b' el ec)∧KeepBut (fun b=>b=R) W15 w' from (by have h:=HBO.out (r1) (by rw [HB9.out];exact fun h=>by cases h) _ HS15.out.rd;rw [HB9.out] at h;exact h))
  go_wp2_with fail
  go_at_call 82
  refine HQ.out.mono ?_
  rintro e We ⟨rfl,hk⟩
  have HKE:=hid (HS15.out.keep.trans hk)
  clear hk
  go_wp2_with fail
  exact ⟨rfl,congrArg Ending.panicked HFL.out,HKE.out⟩
 have Hhb1:=hid (show ∀ w,ReaderAt w R _ el ec→Calls _ _ _ w fun e w'=>∃ p cap,_ from (by have h:=HBO.out (r1) (by rw [hq2];exact fun h=>by cases h);rw [hq2] at h;exact h))
 clear hq2
 go_wp2_with fail
 go_at_call 82
 refine (Hhb1.out W15 HS15.out.rd).mono ?_
 rintro e X16 ⟨q,cq,rfl,hst,hr,hk⟩
 obtain ⟨hs,hsk⟩:=HS15.out.block hst hr hk
 have HSX:=hid hs;have HSK:=hid hsk
 clear hst hr hk hs hsk
 obtain ⟨p1,c1,p2,c2,p3,c3,hb,hx,ht,he⟩:=HSX.out.ex
 have HB:=hid hb;have HX:=hid hx;have HT:=hid ht;have HE:=hid he
 obtain ⟨-,-,-,-,-,-,-,-,n8,-,-,-⟩:=blk12 hb
 have f8:=frz12 hb 8
 clear hb hx ht he
 go_upto_region 28 with fail
 clear n8 f8
 obtain ⟨W16,hV0,hb0,hk0⟩:=s_put8 (HB.out) (.slice q a.length cq)
 rw [←hV0]
 have HS16:=hid (HSX.out.put (thn':=a) (hk0) hb0 (HX.out) (HSK.out) (HE.out))
 clear hV0 hb0 hk0 HB HX HT HE
 clear HSX HSK
 have hx:=HXX.out
 subst hx
 clear HXX HNO
 obtain ⟨vs,hb8,hst⟩:=SmAt.st (k:=6) (sz:=0) (op:=0) (l:=tl) (cl:=tc) HS16.out
 obtain ⟨s0,s1,s2,s3,s4,s5,s6,p1,m1,c1,p2,m2,c2,p3,m3,c3,s10,s11,rfl⟩:=st_form hst
 have hb28:=(HS16.out.b2 trivial).1
 have HB28:=hid hb28;have HST:=hid hst
 obtain ⟨n0,n1,n2,n3,n4,n5,n6,n7,n8,n9,n10,n11⟩:=blk12 hb8
 obtain ⟨q0,q1,q2,q3,q4,q5,q6,q7,q8,q9,q10,q11⟩:=blk12 hb28
 have fz:=frz12 hb28
 have f0:=fz 0;have f1:=fz 1;have f2:=fz 2;have f3:=fz 3;have f4:=fz 4;have f5:=fz 5;have f6:=fz 6;have f7:=fz 7;have f8:=fz 8;have f9:=fz 9;have f10:=fz 10;have f11:=fz 11
 clear hb8 hst hb28 fz
 go_wp2_with fail
 obtain ⟨wf,hwf,hp,hkp⟩:=put12 HB28.out (.int .i64 s0) (.string s1) (.int .i64 s2) (.int .i64 s3) (.string s4) (.string s5) (.string s6) (.slice p1 m1 c1) (.slice p2 m2 c2) (.slice p3 m3 c3) (.int .i64 s10) (.int .i64 s11)
 rw [←hwf]
 obtain ⟨c0,d1,d2,d3,d4,d5,d6,d7,d8,d9,d10,d11⟩:=blk12 hp
 have hn:=HN.out
 exact bodyPost_ret (v:=.agg #[.int .i64 s0,.string s1,.int .i64 s2,.int .i64 s3,.string s4,.string s5,.string s6,.slice p1 m1 c1,.slice p2 m2 c2,.slice p3 m3 c3,.int .i64 s10,.int .i64 s11]) (by simp [results,Tryz.results97,go_sem,c0,d1,d2,d3,d4,d5,d6,d7,d8,d9,d10,d11]) rfl ⟨_,rfl,(HST.out.keep hkp fun b hb e=>hb.2.2 e).mono fun b hb=>hb.1,HS16.out.rd.keep hkp fun b hb e=>by have e:b=B2:=e;omega,HS16.out.keep.newE hkp fun b e=>by have e:b=B2:=e;omega⟩
set_option maxRecDepth 4000 in
set_option maxHeartbeats 32000000 in
theorem stmtJ_out (R el ec f:Nat) (F:List Item→Option (List Item)) (hF:FaultsE F R el ec) (t:Item) (r0:List Item) (o:Oc St) (hno:o≠.no) (h0:headIs (t::r0) [118,97,114]=false) (h1:headIs (t::r0) [97,114,114,97,121]=false) (h2:headIs (t::r0) [105,102]=false) (h3:headIs (t::r0) [119,104,105,108,101]=false) (h4:headIs (t::r0) [111,117,116]=true) (hx:((exO f F r0).bind fun x r=>(mustO [[59]] r).bind fun _ r=>Oc.ok (St.mk 7 [] 0 0 [] [] [] [x] [] [] t.line t.col) r)=o):DoesS R el ec (t::r0) o:=by
 intro w hr
 obtain ⟨V1,B2,hV1,hB2,hb2,hk1,hs1⟩:=fresh_block w (.cells #[.int .i64 0,.string ⟨#[]⟩,.int .i64 0,.int .i64 0,.string ⟨#[]⟩,.string ⟨#[]⟩,.string ⟨#[]⟩,.slice none 0 0,.slice none 0 0,.slice none 0 0,.int .i64 0,.int .i64 0] TSm)
 have HPK:=hid (peek_cons (hr.keep hk1 fun _ _ e=>e))
 obtain ⟨T,hT⟩:∃ T,t.tok.text=T:=⟨_,rfl⟩
 obtain ⟨tk,htk⟩:∃ n:Int,(t.tok.kind:Int)=n:=⟨_,rfl⟩
 obtain ⟨tn,htn⟩:∃ n:Int,(t.tok.num:Int)=n:=⟨_,rfl⟩
 obtain ⟨tl,htl⟩:∃ n:Nat,t.line=n:=⟨_,rfl⟩
 obtain ⟨tc,htc⟩:∃ n:Nat,t.col=n:=⟨_,rfl⟩
 rw [hT,htk,htn,htl,htc] at HPK
 rw [htl,htc] at hx
 have HR1:=hid (hr.keep hk1 fun _ _ e=>e);have HK1:=hid hk1;have HB2:=hid hb2
 have HN:=hid (show R<w.heap.size∧w.heap.size≤B2∧B2<V1.heap.size from ⟨hr.lt,by omega,by omega⟩)
 have Hh0:=hid h0
 have Hh1:=hid h1
 have Hh2:=hid h2
 have Hh3:=hid h3
 have Hh4:=hid h4
 have HXX:=hid hx
 have HFE:=hid hF
 have HNO:=hid hno
 clear hr hb2 hk1 hs1 hT htk htn htl htc h0 h1 h2 h3 h4 hx hF hno
 go_enter Tryz.func97,Tryz.ntmps97
 go_upto_region 1 with fail
 rw [←hV1,←hB2]
 clear hV1 hB2
 go_wp2_with fail
 go_at_call 79
 refine HPK.out.mono ?_
 rintro e W1 ⟨rfl,hkp⟩
 obtain ⟨V2,B3,hV2,hB3,hb3,hk2,hs2⟩:=fresh_block W1 (.cells #[.int .i64 tk,.string ⟨T.toArray⟩,.int .i64 tn,.int .i64 tl,.int .i64 tc] TTk)
 obtain ⟨V,B4,hV,hB4,hb4,hk3,hs3⟩:=fresh_block V2 (.cells #[.int .i64 0,.string ⟨#[]⟩,.int .i64 0,.int .i64 0,.string ⟨#[]⟩,.string ⟨#[]⟩,.string ⟨#[]⟩,.slice none 0 0,.slice none 0 0,.slice none 0 0,.int .i64 tl,.int .i64 tc] TSm)
 have hkv:=(hkp.trans hk2).trans hk3
 have HN4:=hid (show B2<B4∧B4<V.heap.size∧w.heap.size≤B4 by have:=HN.out;have:=hkp.size;omega)
 have HS0:=hid (show SmAt True (fun b=>b=R) w V R el ec B4 B2 (t::r0) 0 0 0 tl tc [] [] [] [] [] [] [] from
  ⟨HR1.out.keep hkv fun _ _ e=>e,⟨none,0,none,0,none,0,hb4,by unfold KidsAt;trivial,by unfold StsAt;trivial,by unfold StsAt;trivial⟩,fun _=>⟨hkv.blk HB2.out,by have:=HN.out;omega,by have:=HN4.out;omega⟩,(HK1.out.trans hkv).mono fun b e=>(e.elim:b=R),by have:=HN.out;have:=HN4.out;omega,fun b e=>e.elim .inl fun e=>.inr (by have:=HN4.out;omega)⟩)
 obtain ⟨n0,n1,n2,n3,n4,-⟩:=blk5 hb3
 have h34:B3+1=B4:=by omega
 clear hkp hb3 hb4 hk2 hk3 hs2 hs3 hkv
 go_upto_region 2 with fail
 rw [←hV2,←hB3]
 clear hV2 hB3
 go_upto_region 4 with fail
 rw [←hV,←hB4]
 clear hV hB4 n0 n1 n2 n3 n4 h34 HPK HR1 HK1 HB2
 have HQ:=hid (by have h:=may_any V R _ el ec HS0.out.rd [118,97,114];rw [Hh0.out,if_neg Bool.false_ne_true] at h;exact h)
 go_wp2_with fail
 go_at_call 95
 refine HQ.out.mono ?_
 rintro e W11 ⟨rfl,hr,hk⟩
 have HS11:=hid (HS0.out.call hr hk)
 clear hr hk
 have HQ:=hid (by have h:=may_any W11 R _ el ec HS11.out.rd [97,114,114,97,121];rw [Hh1.out,if_neg Bool.false_ne_true] at h;exact h)
 go_wp2_with fail
 go_at_call 95
 refine HQ.out.mono ?_
 rintro e W12 ⟨rfl,hr,hk⟩
 have HS12:=hid (HS11.out.call hr hk)
 clear hr hk
 have HQ:=hid (by have h:=may_any W12 R _ el ec HS12.out.rd [105,102];rw [Hh2.out,if_neg Bool.false_ne_true] at h;exact h)
 go_wp2_with fail
 go_at_call 95
 refine HQ.out.mono ?_
 rintro e W13 ⟨rfl,hr,hk⟩
 have HS13:=hid (HS12.out.call hr hk)
 clear hr hk
 have HQ:=hid (by have h:=may_any W13 R _ el ec HS13.out.rd [119,104,105,108,101];rw [Hh3.out,if_neg Bool.false_ne_true] at h;exact h)
 go_wp2_with fail
 go_at_call 95
 refine HQ.out.mono ?_
 rintro e W14 ⟨rfl,hr,hk⟩
 have HS14:=hid (HS13.out.call hr hk)
 clear hr hk
 have HQ:=hid (by have h:=may_any W14 R _ el ec HS14.out.rd [111,117,116];rw [Hh4.out,if_pos rfl] at h;exact h)
 go_wp2_with fail
 go_at_call 95
 refine HQ.out.mono ?_
 rintro e W15 ⟨rfl,hr,hk⟩
 have HS15:=hid (HS14.out.call hr hk)
 clear hr hk
 have hx:=bindC HXX.out HNO.out
 clear HXX
 rcases hx with ⟨b',HB9,rfl⟩ | ⟨x,r1,hq1,HXX⟩
 ·obtain ⟨FL,HFL,HQ⟩:=hidF (expr_bad HFE.out HS15.out.rd HB9.out)
  go_wp2_with fail
  go_at_call 109
  refine HQ.out.mono ?_
  rintro e We ⟨rfl,hk⟩
  have HKE:=hid (HS15.out.keep.trans hk)
  clear hk
  go_wp2_with fail
  exact ⟨rfl,congrArg Ending.panicked HFL.out,HKE.out⟩
 have Hhx1:=hid (exO_ok hq1)
 clear hq1
 have HQ:=hid (exP_reads R el ec f W15 W15 _ x _ (KeepBut.refl _ _) HS15.out.rd Hhx1.out)
 go_wp2_with fail
 go_at_call 109
 refine HQ.out.mono ?_
 rintro e X16 ⟨vs,rfl,hex,hr,hk⟩
 obtain ⟨xk,xo,xn,xS,xp,xm,xc,xl,xcl,rfl⟩:=ex_form hex
 obtain ⟨Y16,G16,hY,hG,hbG,hkG,hsG⟩:=fresh_block X16 (.cells #[.int .i64 xk,.int .i64 xo,.int .i64 xn,.string xS,.slice xp xm xc,.int .i64 xl,.int .i64 xcl] TEx)
 obtain ⟨hs,hkd⟩:=HS15.out.expr hex hr hk hkG hbG (by omega)
 have HSY:=hid hs;have HKD:=hid hkd
 obtain ⟨p1,c1,p2,c2,p3,c3,hb,hx,ht,he⟩:=(HS15.out.call hr hk).ex
 have hb:=(KeepBut.alloc (fun _=>False) X16 (.cells #[.int .i64 xk,.int .i64 xo,.int .i64 xn,.string xS,.slice xp xm xc,.int .i64 xl,.int .i64 xcl] TEx)).blk hb
 obtain ⟨n0,-,-,-,-,-,-,n7,-,-,-,-⟩:=blk12 hb
 have f0:=frz12 hb 0
 have f7:=frz12 hb 7
 clear hb hx ht he hs hkd hex hr hk hbG hkG hsG
 go_upto_region 24 with fail
 rw [←hY,←hG]
 clear hY hG
 clear n0 f0 n7 f7
 obtain ⟨p1,c1,p2,c2,p3,c3,hb,hx,ht,he⟩:=HSY.out.ex
 have HB:=hid hb;have HX:=hid hx;have HT:=hid ht;have HE:=hid he
 clear hb hx ht he
 obtain ⟨V16_0,hV0,hb0,hk0⟩:=s_put0 (HB.out) (.int .i64 7)
 rw [←hV0]
 obtain ⟨W16,hV1,hb1,hk1⟩:=s_put7 (hb0) (.slice (some ⟨G16,0,none⟩) 1 1)
 rw [←hV1]
 have HS16:=hid (HSY.out.put (xs':=[x]) ((hk0).trans hk1) hb1 (HKD.out) (HT.out) (HE.out))
 clear hV0 hb0 hk0 hV1 hb1 hk1 HB HX HT HE
 clear HSY HKD
 have hx:=bindC HXX.out HNO.out
 clear HXX
 rcases hx with ⟨b',HB9,rfl⟩ | ⟨u,r2,hq2,HXX⟩
 ·obtain ⟨FL,HFL,HQ⟩:=hidF (must1b HS16.out.rd [59] _ HB9.out)
  go_wp2_with fail
  go_at_call 77
  refine HQ.out.mono ?_
  rintro e We ⟨rfl,hk⟩
  have HKE:=hid (HS16.out.keep.trans hk)
  clear hk
  go_wp2_with fail
  exact ⟨rfl,congrArg Ending.panicked HFL.out,HKE.out⟩
 have Hhm1:=hid (mustT_of hq2)
 clear hq2
 have HQ:=hid (must1 HS16.out.rd [59] _ Hhm1.out)
 go_wp2_with fail
 go_at_call 77
 refine (HQ.out).mono ?_
 rintro e W17 ⟨rfl,hr,hk⟩
 have HS17:=hid (HS16.out.call hr hk)
 clear hr hk
 have hx:=HXX.out
 subst hx
 clear HXX HNO
 obtain ⟨vs,hb8,hst⟩:=SmAt.st (k:=7) (sz:=0) (op:=0) (l:=tl) (cl:=tc) HS17.out
 obtain ⟨s0,s1,s2,s3,s4,s5,s6,p1,m1,c1,p2,m2,c2,p3,m3,c3,s10,s11,rfl⟩:=st_form hst
 have hb28:=(HS17.out.b2 trivial).1
 have HB28:=hid hb28;have HST:=hid hst
 obtain ⟨n0,n1,n2,n3,n4,n5,n6,n7,n8,n9,n10,n11⟩:=blk12 hb8
 obtain ⟨q0,q1,q2,q3,q4,q5,q6,q7,q8,q9,q10,q11⟩:=blk12 hb28
 have fz:=frz12 hb28
 have f0:=fz 0;have f1:=fz 1;have f2:=fz 2;have f3:=fz 3;have f4:=fz 4;have f5:=fz 5;have f6:=fz 6;have f7:=fz 7;have f8:=fz 8;have f9:=fz 9;have f10:=fz 10;have f11:=fz 11
 clear hb8 hst hb28 fz
 go_wp2_with fail
 obtain ⟨wf,hwf,hp,hkp⟩:=put12 HB28.out (.int .i64 s0) (.string s1) (.int .i64 s2) (.int .i64 s3) (.string s4) (.string s5) (.string s6) (.slice p1 m1 c1) (.slice p2 m2 c2) (.slice p3 m3 c3) (.int .i64 s10) (.int .i64 s11)
 rw [←hwf]
 obtain ⟨c0,d1,d2,d3,d4,d5,d6,d7,d8,d9,d10,d11⟩:=blk12 hp
 have hn:=HN.out
 exact bodyPost_ret (v:=.agg #[.int .i64 s0,.string s1,.int .i64 s2,.int .i64 s3,.string s4,.string s5,.string s6,.slice p1 m1 c1,.slice p2 m2 c2,.slice p3 m3 c3,.int .i64 s10,.int .i64 s11]) (by simp [results,Tryz.results97,go_sem,c0,d1,d2,d3,d4,d5,d6,d7,d8,d9,d10,d11]) rfl ⟨_,rfl,(HST.out.keep hkp fun b hb e=>hb.2.2 e).mono fun b hb=>hb.1,HS17.out.rd.keep hkp fun b hb e=>by have e:b=B2:=e;omega,HS17.out.keep.newE hkp fun b e=>by have e:b=B2:=e;omega⟩
set_option maxRecDepth 4000 in
set_option maxHeartbeats 32000000 in
theorem stmtJ_halt (R el ec f:Nat) (F:List Item→Option (List Item)) (hF:FaultsE F R el ec) (t:Item) (r0:List Item) (o:Oc St) (hno:o≠.no) (h0:headIs (t::r0) [118,97,114]=false) (h1:headIs (t::r0) [97,114,114,97,121]=false) (h2:headIs (t::r0) [105,102]=false) (h3:headIs (t::r0) [119,104,105,108,101]=false) (h4:headIs (t::r0) [111,117,116]=false) (h5:headIs (t::r0) [104,97,108,116]=true) (hx:((exO f F r0).bind fun x r=>(mustO [[59]] r).bind fun _ r=>Oc.ok (St.mk 8 [] 0 0 [] [] [] [x] [] [] t.line t.col) r)=o):DoesS R el ec (t::r0) o:=by
 intro w hr
 obtain ⟨V1,B2,hV1,hB2,hb2,hk1,hs1⟩:=fresh_block w (.cells #[.int .i64 0,.string ⟨#[]⟩,.int .i64 0,.int .i64 0,.string ⟨#[]⟩,.string ⟨#[]⟩,.string ⟨#[]⟩,.slice none 0 0,.slice none 0 0,.slice none 0 0,.int .i64 0,.int .i64 0] TSm)
 have HPK:=hid (peek_cons (hr.keep hk1 fun _ _ e=>e))
 obtain ⟨T,hT⟩:∃ T,t.tok.text=T:=⟨_,rfl⟩
 obtain ⟨tk,htk⟩:∃ n:Int,(t.tok.kind:Int)=n:=⟨_,rfl⟩
 obtain ⟨tn,htn⟩:∃ n:Int,(t.tok.num:Int)=n:=⟨_,rfl⟩
 obtain ⟨tl,htl⟩:∃ n:Nat,t.line=n:=⟨_,rfl⟩
 obtain ⟨tc,htc⟩:∃ n:Nat,t.col=n:=⟨_,rfl⟩
 rw [hT,htk,htn,htl,htc] at HPK
 rw [htl,htc] at hx
 have HR1:=hid (hr.keep hk1 fun _ _ e=>e);have HK1:=hid hk1;have HB2:=hid hb2
 have HN:=hid (show R<w.heap.size∧w.heap.size≤B2∧B2<V1.heap.size from ⟨hr.lt,by omega,by omega⟩)
 have Hh0:=hid h0
 have Hh1:=hid h1
 have Hh2:=hid h2
 have Hh3:=hid h3
 have Hh4:=hid h4
 have Hh5:=hid h5
 have HXX:=hid hx
 have HFE:=hid hF
 have HNO:=hid hno
 clear hr hb2 hk1 hs1 hT htk htn htl htc h0 h1 h2 h3 h4 h5 hx hF hno
 go_enter Tryz.func97,Tryz.ntmps97
 go_upto_region 1 with fail
 rw [←hV1,←hB2]
 clear hV1 hB2
 go_wp2_with fail
 go_at_call 79
 refine HPK.out.mono ?_
 rintro e W1 ⟨rfl,hkp⟩
 obtain ⟨V2,B3,hV2,hB3,hb3,hk2,hs2⟩:=fresh_block W1 (.cells #[.int .i64 tk,.string ⟨T.toArray⟩,.int .i64 tn,.int .i64 tl,.int .i64 tc] TTk)
 obtain ⟨V,B4,hV,hB4,hb4,hk3,hs3⟩:=fresh_block V2 (.cells #[.int .i64 0,.string ⟨#[]⟩,.int .i64 0,.int .i64 0,.string ⟨#[]⟩,.string ⟨#[]⟩,.string ⟨#[]⟩,.slice none 0 0,.slice none 0 0,.slice none 0 0,.int .i64 tl,.int .i64 tc] TSm)
 have hkv:=(hkp.trans hk2).trans hk3
 have HN4:=hid (show B2<B4∧B4<V.heap.size∧w.heap.size≤B4 by have:=HN.out;have:=hkp.size;omega)
 have HS0:=hid (show SmAt True (fun b=>b=R) w V R el ec B4 B2 (t::r0) 0 0 0 tl tc [] [] [] [] [] [] [] from
  ⟨HR1.out.keep hkv fun _ _ e=>e,⟨none,0,none,0,none,0,hb4,by unfold KidsAt;trivial,by unfold StsAt;trivial,by unfold StsAt;trivial⟩,fun _=>⟨hkv.blk HB2.out,by have:=HN.out;omega,by have:=HN4.out;omega⟩,(HK1.out.trans hkv).mono fun b e=>(e.elim:b=R),by have:=HN.out;have:=HN4.out;omega,fun b e=>e.elim .inl fun e=>.inr (by have:=HN4.out;omega)⟩)
 obtain ⟨n0,n1,n2,n3,n4,-⟩:=blk5 hb3
 have h34:B3+1=B4:=by omega
 clear hkp hb3 hb4 hk2 hk3 hs2 hs3 hkv
 go_upto_region 2 with fail
 rw [←hV2,←hB3]
 clear hV2 hB3
 go_upto_region 4 with fail
 rw [←hV,←hB4]
 clear hV hB4 n0 n1 n2 n3 n4 h34 HPK HR1 HK1 HB2
 have HQ:=hid (by have h:=may_any V R _ el ec HS0.out.rd [118,97,114];rw [Hh0.out,if_neg Bool.false_ne_true] at h;exact h)
 go_wp2_with fail
 go_at_call 95
 refine HQ.out.mono ?_
 rintro e W11 ⟨rfl,hr,hk⟩
 have HS11:=hid (HS0.out.call hr hk)
 clear hr hk
 have HQ:=hid (by have h:=may_any W11 R _ el ec HS11.out.rd [97,114,114,97,121];rw [Hh1.out,if_neg Bool.false_ne_true] at h;exact h)
 go_wp2_with fail
 go_at_call 95
 refine HQ.out.mono ?_
 rintro e W12 ⟨rfl,hr,hk⟩
 have HS12:=hid (HS11.out.call hr hk)
 clear hr hk
 have HQ:=hid (by have h:=may_any W12 R _ el ec HS12.out.rd [105,102];rw [Hh2.out,if_neg Bool.false_ne_true] at h;exact h)
 go_wp2_with fail
 go_at_call 95
 refine HQ.out.mono ?_
 rintro e W13 ⟨rfl,hr,hk⟩
 have HS13:=hid (HS12.out.call hr hk)
 clear hr hk
 have HQ:=hid (by have h:=may_any W13 R _ el ec HS13.out.rd [119,104,105,108,101];rw [Hh3.out,if_neg Bool.false_ne_true] at h;exact h)
 go_wp2_with fail
 go_at_call 95
 refine HQ.out.mono ?_
 rintro e W14 ⟨rfl,hr,hk⟩
 have HS14:=hid (HS13.out.call hr hk)
 clear hr hk
 have HQ:=hid (by have h:=may_any W14 R _ el ec HS14.out.rd [111,117,116];rw [Hh4.out,if_neg Bool.false_ne_true] at h;exact h)
 go_wp2_with fail
 go_at_call 95
 refine HQ.out.mono ?_
 rintro e W15 ⟨rfl,hr,hk⟩
 have HS15:=hid (HS14.out.call hr hk)
 clear hr hk
 have HQ:=hid (by have h:=may_any W15 R _ el ec HS15.out.rd [104,97,108,116];rw [Hh5.out,if_pos rfl] at h;exact h)
 go_wp2_with fail
 go_at_call 95
 refine HQ.out.mono ?_
 rintro e W16 ⟨rfl,hr,hk⟩
 have HS16:=hid (HS15.out.call hr hk)
 clear hr hk
 have hx:=bindC HXX.out HNO.out
 clear HXX
 rcases hx with ⟨b',HB9,rfl⟩ | ⟨x,r1,hq1,HXX⟩
 ·obtain ⟨FL,HFL,HQ⟩:=hidF (expr_bad HFE.out HS16.out.rd HB9.out)
  go_wp2_with fail
  go_at_call 109
  refine HQ.out.mono ?_
  rintro e We ⟨rfl,hk⟩
  have HKE:=hid (HS16.out.keep.trans hk)
  clear hk
  go_wp2_with fail
  exact ⟨rfl,congrArg Ending.panicked HFL.out,HKE.out⟩
 have Hhx1:=hid (exO_ok hq1)
 clear hq1
 have HQ:=hid (exP_reads R el ec f W16 W16 _ x _ (KeepBut.refl _ _) HS16.out.rd Hhx1.out)
 go_wp2_with fail
 go_at_call 109
 refine HQ.out.mono ?_
 rintro e X17 ⟨vs,rfl,hex,hr,hk⟩
 obtain ⟨xk,xo,xn,xS,xp,xm,xc,xl,xcl,rfl⟩:=ex_form hex
 obtain ⟨Y17,G17,hY,hG,hbG,hkG,hsG⟩:=fresh_block X17 (.cells #[.int .i64 xk,.int .i64 xo,.int .i64 xn,.string xS,.slice xp xm xc,.int .i64 xl,.int .i64 xcl] TEx)
 obtain ⟨hs,hkd⟩:=HS16.out.expr hex hr hk hkG hbG (by omega)
 have HSY:=hid hs;have HKD:=hid hkd
 obtain ⟨p1,c1,p2,c2,p3,c3,hb,hx,ht,he⟩:=(HS16.out.call hr hk).ex
 have hb:=(KeepBut.alloc (fun _=>False) X17 (.cells #[.int .i64 xk,.int .i64 xo,.int .i64 xn,.string xS,.slice xp xm xc,.int .i64 xl,.int .i64 xcl] TEx)).blk hb
 obtain ⟨n0,-,-,-,-,-,-,n7,-,-,-,-⟩:=blk12 hb
 have f0:=frz12 hb 0
 have f7:=frz12 hb 7
 clear hb hx ht he hs hkd hex hr hk hbG hkG hsG
 go_upto_region 27 with fail
 rw [←hY,←hG]
 clear hY hG
 clear n0 f0 n7 f7
 obtain ⟨p1,c1,p2,c2,p3,c3,hb,hx,ht,he⟩:=HSY.out.ex
 have HB:=hid hb;have HX:=hid hx;have HT:=hid ht;have HE:=hid he
 clear hb hx ht he
 obtain ⟨V17_0,hV0,hb0,hk0⟩:=s_put0 (HB.out) (.int .i64 8)
 rw [←hV0]
 obtain ⟨W17,hV1,hb1,hk1⟩:=s_put7 (hb0) (.slice (some ⟨G17,0,none⟩) 1 1)
 rw [←hV1]
 have HS17:=hid (HSY.out.put (xs':=[x]) ((hk0).trans hk1) hb1 (HKD.out) (HT.out) (HE.out))
 clear hV0 hb0 hk0 hV1 hb1 hk1 HB HX HT HE
 clear HSY HKD
 have hx:=bindC HXX.out HNO.out
 clear HXX
 rcases hx with ⟨b',HB9,rfl⟩ | ⟨u,r2,hq2,HXX⟩
 ·obtain ⟨FL,HFL,HQ⟩:=hidF (must1b HS17.out.rd [59] _ HB9.out)
  go_wp2_with fail
  go_at_call 77
  refine HQ.out.mono ?_
  rintro e We ⟨rfl,hk⟩
  have HKE:=hid (HS17.out.keep.trans hk)
  clear hk
  go_wp2_with fail
  exact ⟨rfl,congrArg Ending.panicked HFL.out,HKE.out⟩
 have Hhm1:=hid (mustT_of hq2)
 clear hq2
 have HQ:=hid (must1 HS17.out.rd [59] _ Hhm1.out)
 go_wp2_with fail
 go_at_call 77
 refine (HQ.out).mono ?_
 rintro e W18 ⟨rfl,hr,hk⟩
 have HS18:=hid (HS17.out.call hr hk)
 clear hr hk
 have hx:=HXX.out
 subst hx
 clear HXX HNO
 obtain ⟨vs,hb8,hst⟩:=SmAt.st (k:=8) (sz:=0) (op:=0) (l:=tl) (cl:=tc) HS18.out
 obtain ⟨s0,s1,s2,s3,s4,s5,s6,p1,m1,c1,p2,m2,c2,p3,m3,c3,s10,s11,rfl⟩:=st_form hst
 have hb28:=(HS18.out.b2 trivial).1
 have HB28:=hid hb28;have HST:=hid hst
 obtain ⟨n0,n1,n2,n3,n4,n5,n6,n7,n8,n9,n10,n11⟩:=blk12 hb8
 obtain ⟨q0,q1,q2,q3,q4,q5,q6,q7,q8,q9,q10,q11⟩:=blk12 hb28
 have fz:=frz12 hb28
 have f0:=fz 0;have f1:=fz 1;have f2:=fz 2;have f3:=fz 3;have f4:=fz 4;have f5:=fz 5;have f6:=fz 6;have f7:=fz 7;have f8:=fz 8;have f9:=fz 9;have f10:=fz 10;have f11:=fz 11
 clear hb8 hst hb28 fz
 go_wp2_with fail
 obtain ⟨wf,hwf,hp,hkp⟩:=put12 HB28.out (.int .i64 s0) (.string s1) (.int .i64 s2) (.int .i64 s3) (.string s4) (.string s5) (.string s6) (.slice p1 m1 c1) (.slice p2 m2 c2) (.slice p3 m3 c3) (.int .i64 s10) (.int .i64 s11)
 rw [←hwf]
 obtain ⟨c0,d1,d2,d3,d4,d5,d6,d7,d8,d9,d10,d11⟩:=blk12 hp
 have hn:=HN.out
 exact bodyPost_ret (v:=.agg #[.int .i64 s0,.string s1,.int .i64 s2,.int .i64 s3,.string s4,.string s5,.string s6,.slice p1 m1 c1,.slice p2 m2 c2,.slice p3 m3 c3,.int .i64 s10,.int .i64 s11]) (by simp [results,Tryz.results97,go_sem,c0,d1,d2,d3,d4,d5,d6,d7,d8,d9,d10,d11]) rfl ⟨_,rfl,(HST.out.keep hkp fun b hb e=>hb.2.2 e).mono fun b hb=>hb.1,HS18.out.rd.keep hkp fun b hb e=>by have e:b=B2:=e;omega,HS18.out.keep.newE hkp fun b e=>by have e:b=B2:=e;omega⟩
def DoesP (R el ec:Nat) (its:List Item) (o:Oc St) (l cl:Nat):Prop:=∀ (w:World) (Bs:Nat),ReaderAt w R its el ec→w.heap[Bs]?=some (.cells (stC 0 0 0 [] [] [] [] (.slice none 0 0) l cl) TSm (0,0))→R<Bs→
  Calls Tryz.prog 110 #[rdV R,.pointer (some ⟨Bs,0,none⟩)] w fun e w'=>OutP w R el ec Bs o e w'
set_option maxRecDepth 4000 in
set_option maxHeartbeats 32000000 in
theorem stmtJ_plain (R el ec:Nat) (its:List Item) (o:Oc St) (hno:o≠.no) (h0:headIs its [118,97,114]=false) (h1:headIs its [97,114,114,97,121]=false) (h2:headIs its [105,102]=false) (h3:headIs its [119,104,105,108,101]=false) (h4:headIs its [111,117,116]=false) (h5:headIs its [104,97,108,116]=false) (hpl:DoesP R el ec its o (lineOf its el) (colOf its ec)):DoesS R el ec its o:=by
 intro w hr
 have HNO:=hid hno
 clear hno
 obtain ⟨V1,B2,hV1,hB2,hb2,hk1,hs1⟩:=fresh_block w (.cells #[.int .i64 0,.string ⟨#[]⟩,.int .i64 0,.int .i64 0,.string ⟨#[]⟩,.string ⟨#[]⟩,.string ⟨#[]⟩,.slice none 0 0,.slice none 0 0,.slice none 0 0,.int .i64 0,.int .i64 0] TSm)
 obtain ⟨tn,hpk⟩:=peek_at (hr.keep hk1 fun _ _ e=>e)
 obtain ⟨T,hT⟩:∃ T,headText its=T:=⟨_,rfl⟩
 obtain ⟨tk,htk⟩:∃ n:Int,(headKind its:Int)=n:=⟨_,rfl⟩
 obtain ⟨tl,htl⟩:∃ n:Nat,lineOf its el=n:=⟨_,rfl⟩
 obtain ⟨tc,htc⟩:∃ n:Nat,colOf its ec=n:=⟨_,rfl⟩
 rw [hT,htk,htl,htc] at hpk
 have HPK:=hid (hpk V1 (KeepBut.refl _ _))
 rw [htl,htc] at hpl
 have HR1:=hid (hr.keep hk1 fun _ _ e=>e);have HK1:=hid hk1;have HB2:=hid hb2
 have HN:=hid (show R<w.heap.size∧w.heap.size≤B2∧B2<V1.heap.size from ⟨hr.lt,by omega,by omega⟩)
 have HPL:=hid hpl
 have HMAY:=hid (fun W k (hno:headIs its k=false) (h:ReaderAt W R its el ec)=>by have h:=may_any W R its el ec h k;rw [hno,if_neg Bool.false_ne_true] at h;exact h)
 have Hh0:=hid h0;have Hh1:=hid h1;have Hh2:=hid h2;have Hh3:=hid h3;have Hh4:=hid h4;have Hh5:=hid h5
 clear hr hb2 hk1 hs1 h0 h1 h2 h3 h4 h5 hpl hT htk htl htc hpk
 go_enter Tryz.func97,Tryz.ntmps97
 go_upto_region 1 with fail
 rw [←hV1,←hB2]
 clear hV1 hB2
 go_wp2_with fail
 go_at_call 79
 refine HPK.out.mono ?_
 rintro e W1 ⟨rfl,hkp⟩
 obtain ⟨V2,B3,hV2,hB3,hb3,hk2,hs2⟩:=fresh_block W1 (.cells #[.int .i64 tk,.string ⟨T.toArray⟩,.int .i64 tn,.int .i64 tl,.int .i64 tc] TTk)
 obtain ⟨V,B4,hV,hB4,hb4,hk3,hs3⟩:=fresh_block V2 (.cells #[.int .i64 0,.string ⟨#[]⟩,.int .i64 0,.int .i64 0,.string ⟨#[]⟩,.string ⟨#[]⟩,.string ⟨#[]⟩,.slice none 0 0,.slice none 0 0,.slice none 0 0,.int .i64 tl,.int .i64 tc] TSm)
 have hkv:=(hkp.trans hk2).trans hk3
 have HB4:=hid hb4;have HB2V:=hid (hkv.blk HB2.out);have HRV:=hid (HR1.out.keep hkv fun _ _ e=>e)
 have HKV:=hid ((HK1.out.trans hkv).mono fun b e=>(e.elim:b=R))
 have HN4:=hid (show B2<B4∧B4<V.heap.size∧w.heap.size≤B4 by have:=HN.out;have:=hkp.size;omega)
 obtain ⟨n0,n1,n2,n3,n4,-⟩:=blk5 hb3
 have h34:B3+1=B4:=by omega
 clear hkp hb3 hb4 hk2 hk3 hs2 hs3 hkv
 go_upto_region 2 with fail
 rw [←hV2,←hB3]
 clear hV2 hB3
 go_upto_region 4 with fail
 rw [←hV,←hB4]
 clear hV hB4 n0 n1 n2 n3 n4 h34
 have HNN:=hid (show R<B2∧B2<B4 by have:=HN.out;have:=HN4.out;omega)
 have HR0:=hid HRV.out;have HK0:=hid HKV.out;have HB40:=hid HB4.out;have HB20:=hid HB2V.out;have HKB0:=hid (KeepBut.refl (fun b=>b=R) V)
 have HQ:=hid (HMAY.out V [118,97,114] Hh0.out HR0.out)
 go_wp2_with fail
 go_at_call 95
 refine HQ.out.mono ?_
 rintro e X1 ⟨rfl,hr,hk⟩
 have HR1:=hid hr;have HK1:=hid (HK0.out.trans hk);have HKB1:=hid (HKB0.out.trans hk);have HB41:=hid (hk.blkE HB40.out fun e=>by have e:B4=R:=e;have:=HNN.out;omega);have HB21:=hid (hk.blkE HB20.out fun e=>by have e:B2=R:=e;have:=HNN.out;omega)
 clear hr hk
 have HQ:=hid (HMAY.out X1 [97,114,114,97,121] Hh1.out HR1.out)
 go_wp2_with fail
 go_at_call 95
 refine HQ.out.mono ?_
 rintro e X2 ⟨rfl,hr,hk⟩
 have HR2:=hid hr;have HK2:=hid (HK1.out.trans hk);have HKB2:=hid (HKB1.out.trans hk);have HB42:=hid (hk.blkE HB41.out fun e=>by have e:B4=R:=e;have:=HNN.out;omega);have HB22:=hid (hk.blkE HB21.out fun e=>by have e:B2=R:=e;have:=HNN.out;omega)
 clear hr hk
 have HQ:=hid (HMAY.out X2 [105,102] Hh2.out HR2.out)
 go_wp2_with fail
 go_at_call 95
 refine HQ.out.mono ?_
 rintro e X3 ⟨rfl,hr,hk⟩
 have HR3:=hid hr;have HK3:=hid (HK2.out.trans hk);have HKB3:=hid (HKB2.out.trans hk);have HB43:=hid (hk.blkE HB42.out fun e=>by have e:B4=R:=e;have:=HNN.out;omega);have HB23:=hid (hk.blkE HB22.out fun e=>by have e:B2=R:=e;have:=HNN.out;omega)
 clear hr hk
 have HQ:=hid (HMAY.out X3 [119,104,105,108,101] Hh3.out HR3.out)
 go_wp2_with fail
 go_at_call 95
 refine HQ.out.mono ?_
 rintro e X4 ⟨rfl,hr,hk⟩
 have HR4:=hid hr;have HK4:=hid (HK3.out.trans hk);have HKB4:=hid (HKB3.out.trans hk);have HB44:=hid (hk.blkE HB43.out fun e=>by have e:B4=R:=e;have:=HNN.out;omega);have HB24:=hid (hk.blkE HB23.out fun e=>by have e:B2=R:=e;have:=HNN.out;omega)
 clear hr hk
 have HQ:=hid (HMAY.out X4 [111,117,116] Hh4.out HR4.out)
 go_wp2_with fail
 go_at_call 95
 refine HQ.out.mono ?_
 rintro e X5 ⟨rfl,hr,hk⟩
 have HR5:=hid hr;have HK5:=hid (HK4.out.trans hk);have HKB5:=hid (HKB4.out.trans hk);have HB45:=hid (hk.blkE HB44.out fun e=>by have e:B4=R:=e;have:=HNN.out;omega);have HB25:=hid (hk.blkE HB24.out fun e=>by have e:B2=R:=e;have:=HNN.out;omega)
 clear hr hk
 have HQ:=hid (HMAY.out X5 [104,97,108,116] Hh5.out HR5.out)
 go_wp2_with fail
 go_at_call 95
 refine HQ.out.mono ?_
 rintro e X6 ⟨rfl,hr,hk⟩
 have HR6:=hid hr;have HK6:=hid (HK5.out.trans hk);have HKB6:=hid (HKB5.out.trans hk);have HB46:=hid (hk.blkE HB45.out fun e=>by have e:B4=R:=e;have:=HNN.out;omega);have HB26:=hid (hk.blkE HB25.out fun e=>by have e:B2=R:=e;have:=HNN.out;omega)
 clear hr hk
 have hq:=HNN.out
 have HPQ:=hid (HPL.out X6 B4 HR6.out HB46.out (by omega))
 have HSZ:=hid (Nat.le_trans (show w.heap.size≤V.heap.size by have:=HN4.out;omega) HKB6.out.size)
 clear hq
 cases o with
 | no=>exact absurd rfl HNO.out
 | bad b'=>
  obtain ⟨FL,hFL⟩:∃ FL:List PanicEntry,FL=fltAt b' el ec:=⟨_,rfl⟩
  have HQ:=hid (show Calls _ _ _ _ fun e w'=>e=.panicked (fltAt b' el ec)∧_ from HPQ.out)
  rw [←hFL] at HQ
  have HFL:=hid hFL
  clear hFL
  go_wp2_with fail
  go_at_call 110
  refine HQ.out.mono ?_
  rintro e We ⟨rfl,hk⟩
  have HKE:=hid ((HK6.out.trans (KeepBut.refl _ _)).newM hk fun b e=>e.elim .inl fun e=>.inr (by have:=HN4.out;omega))
  clear hk
  go_wp2_with fail
  exact ⟨rfl,congrArg Ending.panicked HFL.out,HKE.out⟩
 | ok s r=>
 go_wp2_with fail
 go_at_call 110
 refine HPQ.out.mono ?_
 rintro e W8 ⟨rfl,hr8,hk8,vs,hb8,hst⟩
 obtain ⟨s0,s1,s2,s3,s4,s5,s6,p1,m1,c1,p2,m2,c2,p3,m3,c3,s10,s11,rfl⟩:=st_form hst
 have HB48:=hid hb8;have HR8:=hid hr8;have HST:=hid hst
 have hb28:=hk8.blkE HB26.out (fun e=>by have h:=HNN.out;rcases e with e | e <;> omega)
 have HB28:=hid hb28
 have HK8:=hid (show KeepBut (fun b=>b=R) w W8 from (HK6.out.trans (KeepBut.refl _ _)).newM hk8 fun b e=>e.elim .inl fun e=>.inr (by have:=HN4.out;omega))
 obtain ⟨n0,n1,n2,n3,n4,n5,n6,n7,n8,n9,n10,n11⟩:=blk12 hb8
 obtain ⟨q0,q1,q2,q3,q4,q5,q6,q7,q8,q9,q10,q11⟩:=blk12 hb28
 have fz:=frz12 hb28
 have f0:=fz 0;have f1:=fz 1;have f2:=fz 2;have f3:=fz 3;have f4:=fz 4;have f5:=fz 5;have f6:=fz 6;have f7:=fz 7;have f8:=fz 8;have f9:=fz 9;have f10:=fz 10;have f11:=fz 11
 clear hr8 hk8 hb8 hst hb28 fz
 go_wp2_with fail
 obtain ⟨wf,hwf,hp,hkp⟩:=put12 HB28.out (.int .i64 s0) (.string s1) (.int .i64 s2) (.int .i64 s3) (.string s4) (.string s5) (.string s6) (.slice p1 m1 c1) (.slice p2 m2 c2) (.slice p3 m3 c3) (.int .i64 s10) (.int .i64 s11)
 rw [←hwf]
 obtain ⟨c0,d1,d2,d3,d4,d5,d6,d7,d8,d9,d10,d11⟩:=blk12 hp
 exact bodyPost_ret (v:=.agg #[.int .i64 s0,.string s1,.int .i64 s2,.int .i64 s3,.string s4,.string s5,.string s6,.slice p1 m1 c1,.slice p2 m2 c2,.slice p3 m3 c3,.int .i64 s10,.int .i64 s11]) (by simp [results,Tryz.results97,go_sem,c0,d1,d2,d3,d4,d5,d6,d7,d8,d9,d10,d11]) rfl ⟨_,rfl,(HST.out.keep hkp fun b hb e=>by have e:b=B2:=e;have hb:X6.heap.size≤b:=hb;have h1:=HN4.out;have h2:=HKB6.out.size;omega).mono fun b hb=>(by have hb:X6.heap.size≤b:=hb;have:=HSZ.out;omega),HR8.out.keep hkp fun b hb e=>(by have e:b=B2:=e;have:=HNN.out;omega),HK8.out.newE hkp fun b e=>by have e:b=B2:=e;have:=HN.out;omega⟩
end Go.Proofs.YtknnmidnodeanaaGreatDoor
