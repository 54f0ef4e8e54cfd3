import Derived.Test.YtomlffobbkcmdaaGreatDoorJs40
import Derived.LaidMore
import Derived.Lib.SmallJoins
set_option maxHeartbeats 64000000
set_option maxRecDepth 10000
namespace Go.Proofs.YtomlffobbkcmdaaGreatDoor
open Go Go.RowKit Own
open Go.Lib (hid)
theorem parseBack_walk (hL:∀w,TabS w→TabP w→Calls Tryz.prog 8 #[] w fun e w'=>e=.returned (.bool true)∧BA (fun _=>False) w w')(w:World)(hT:TabS w)(hP:TabP w)(p:Gp)
  (hf:(p.pool≤9223372036854775807∧∀l∈p.threads,DT l)∧∀l∈p.threads,fitSL l) (hb:DQ p.threads≤1048576) (S:Nat→Prop) (v:Value) (h:PAt w S v p) (s:ByteArray):
  Calls Tryz.prog 6 #[v,.string s] w fun e w'=>e=.returned (.bool true)∧BA (fun _=>False) w w':=by
 have h0:=h
 obtain⟨p1,d1,p2,d2,rfl,-,-⟩:=h0
 obtain⟨V,B2,hV,hB2,hb2,hk2,hs2⟩:=BC w (.cells #[.int .i64 p.pool,.slice p1 p.conts.length d1,.slice p2 p.threads.length d2] TPr)
 have HLV:=hid (hL V (hk2.tabS hT) (hk2.tabP hP))
 have HT:=hid (hk2.tabS hT);have HP:=hid (hk2.tabP hP);have HPA:=hid ((h.keep hk2 fun _ _ e=>e).mono (S':=fun _=>True) fun _ _=>trivial)
 have HLI:=hid (fun W (k:BA (fun _=>False) V W)=>lightP_any p hb W _ _ (HPA.out.keep k fun _ _ e=>e))
 have HF:=hid hf
 obtain⟨n1,hn1⟩:∃n,p.conts.length=n:=⟨_,rfl⟩
 obtain⟨n2,hn2⟩:∃n,p.threads.length=n:=⟨_,rfl⟩
 have HN1:=hid hn1;have HN2:=hid hn2
 have HB2:=hid hb2;have HKV:=hid hk2
 clear hL hT hP hf hb h hb2 hk2 hs2
 have HPA0:=hid HPA.out
 rw[hn1,hn2]at HPA HLI HB2 hV ⊢
 clear hn1 hn2
 go_enter Tryz.func6,Tryz.ntmps6
 go_upto_region 1 with fail
 rw[←hV,←hB2]
 clear hV hB2
 go_wp2_with fail
 go_at_call 8
 refine HLV.out.mono ?_
 rintro e w1 ⟨rfl,hk1⟩
 have HK1:=hid hk1
 clear hk1
 obtain⟨c0,c1,c2,-⟩:=BY (HK1.out.blk HB2.out)
 have HLQ:=hid (HLI.out w1 HK1.out)
 cases hl:lightP p with
 | false=>
  rw[hl]at HLQ
  clear hl
  go_wp2_with fail
  go_at_call 22
  refine HLQ.out.mono ?_
  rintro e w2 ⟨rfl,hk2⟩
  have HKE:=hid ((HKV.out.trans HK1.out).trans hk2)
  clear hk2
  go_wp2_with fail
  go_ret
  exact⟨rfl,HKE.out⟩
 |true=>
 rw[hl]at HLQ
 obtain⟨hsm,-⟩:=light_small hl HF.out
 have HSM:=hid hsm
 clear hl hsm
 go_wp2_with fail
 go_at_call 22
 refine HLQ.out.mono ?_
 rintro e w2 ⟨rfl,hk2⟩
 have HK2:=hid (HK1.out.trans hk2)
 clear hk2 c0 c1 c2
 by_cases h9:9000<s.size
 ·have h9i:(9000:Int)<s.size:=by omega
  have HKE:=hid (HKV.out.trans HK2.out)
  go_wp2_with fail
  go_ret
  exact⟨rfl,HKE.out⟩
 have h9i:¬(9000:Int)<s.size:=by omega
 have HPR:=hid (prog_total s w2 (HK2.out.tabS HT.out) (by omega))
 have HCK:=hid (fun W (k:BA (fun _=>False) V W)=>by have h:=check_at p HSM.out W (k.tabS HT.out) _ _ (HPA0.out.keep k fun _ _ e=>e);rw[HN1.out,HN2.out]at h;exact h)
 have HTX:=hid (fun W (k:BA (fun _=>False) V W)=>by have h:=text_at p HSM.out W (k.tabS HT.out) (k.tabP HP.out) _ _ (HPA0.out.keep k fun _ _ e=>e);rw[HN1.out,HN2.out]at h;exact h)
 have HBP:=hid (fun (hc:DY p=true) W (k:BA (fun _=>False) V W)=>by have h:=back_any p HSM.out hc W (k.tabS HT.out) (k.tabP HP.out) _ _ (HPA0.out.keep k fun _ _ e=>e);rw[HN1.out,HN2.out]at h;exact h)
 go_wp2_with fail
 go_at_call 16
 refine HPR.out.mono ?_
 rintro e w3 ⟨hor,hk3⟩
 have HK3:=hid (HK2.out.trans hk3)
 clear hk3 h9 h9i
 have TAIL:∀W,BA (fun _=>False) V W→W.cell? ⟨B2,0,none⟩=some (.int .i64 p.pool)∧W.cell? ⟨B2,1,none⟩=some (.slice p1 n1 d1)∧W.cell? ⟨B2,2,none⟩=some (.slice p2 n2 d2):=fun W k=>by
  obtain⟨c0,c1,c2,-⟩:=BY (k.blk HB2.out)
  exact⟨c0,c1,c2⟩
 have TAIL:=hid TAIL
 rcases hor with⟨er,li,co,her,rfl⟩|⟨vq,q,rfl,hq,hcq,hsq⟩
 ·obtain⟨W4,B5,hW4,hB5,hb5,hk4,hs4⟩:=BC w3 (.cells #[.int .i64 0,.slice none 0 0,.slice none 0 0] TPr)
  obtain⟨W,B6,hW,hB6,hb6,hk5,hs5⟩:=BC W4 (.cells #[.int .i64 er,.int .i64 li,.int .i64 co] TFa)
  have HK:=hid (HK3.out.trans (hk4.trans hk5))
  obtain⟨f0,f1,f2,-⟩:=BY hb6
  have heb:(er==0)=false:=by rw[BF];exact her
  have h56:B5+1=B6:=by omega
  clear hk4 hk5 hb5 hb6 hs4 hs5 her
  go_upto_region 6 with fail
  rw[←hW4,←hB5,←hW,h56]
  clear hW4 hB5 hW hB6 h56
  obtain⟨c0,c1,c2⟩:=TAIL.out W HK.out
  have HCQ:=hid (HCK.out W HK.out)
  by_cases hc:DY p=true
  ·rw[if_pos hc]at HCQ
   have HBQ:=hid (HBP.out hc)
   clear hc
   go_wp2_with fail
   go_at_call 20
   refine HCQ.out.mono ?_
   rintro e w5 ⟨rfl,hk5⟩
   have HK5:=hid (HK.out.trans hk5)
   clear hk5 c0 c1 c2
   obtain⟨c0,c1,c2⟩:=TAIL.out w5 HK5.out
   have HBR:=hid (HBQ.out w5 HK5.out)
   go_wp2_with fail
   go_at_call 23
   refine HBR.out.mono ?_
   rintro e w6 ⟨rfl,hk6⟩
   have HKE:=hid ((HKV.out.trans HK5.out).trans hk6)
   clear hk6
   go_wp2_with fail
   go_ret
   exact⟨rfl,HKE.out⟩
  ·rw[if_neg hc]at HCQ
   have HTQ:=hid (fun W k=>by have h:=HTX.out W k;rw[if_neg hc]at h;exact h)
   clear hc
   go_wp2_with fail
   go_at_call 20
   refine HCQ.out.mono ?_
   rintro e w5 ⟨rfl,hk5⟩
   have HK5:=hid (HK.out.trans hk5)
   clear hk5 c0 c1 c2
   obtain⟨c0,c1,c2⟩:=TAIL.out w5 HK5.out
   have HTR:=hid (HTQ.out w5 HK5.out)
   go_wp2_with fail
   go_at_call 17
   refine HTR.out.mono ?_
   rintro e w6 ⟨rfl,hk6⟩
   have HKE:=hid ((HKV.out.trans HK5.out).trans hk6)
   clear hk6
   go_wp2_with fail
   go_ret
   exact⟨rfl,HKE.out⟩
 ·have hq0:=hq
  obtain⟨q1,e1,q2,e2,rfl,-,-⟩:=hq0
  have HBV:=hid (fun W (k:BA (fun _=>False) V W) (hq:PAt W (fun b=>w2.heap.size≤b) (.agg #[.int .i64 q.pool,.slice q1 q.conts.length e1,.slice q2 q.threads.length e2]) q)=>back_any q hsq hcq W (k.tabS HT.out) (k.tabP HP.out) _ _ hq)
  have HQ:=hid hq
  obtain⟨m1,hm1⟩:∃n,q.conts.length=n:=⟨_,rfl⟩
  obtain⟨m2,hm2⟩:∃n,q.threads.length=n:=⟨_,rfl⟩
  obtain⟨m0,hm0⟩:∃n,q.pool=n:=⟨_,rfl⟩
  rw[hm0,hm1,hm2]at HQ HBV ⊢
  obtain⟨W4,B5,hW4,hB5,hb5,hk4,hs4⟩:=BC w3 (.cells #[.int .i64 m0,.slice q1 m1 e1,.slice q2 m2 e2] TPr)
  obtain⟨W,B6,hW,hB6,hb6,hk5,hs5⟩:=BC W4 (.cells #[.int .i64 0,.int .i64 0,.int .i64 0] TFa)
  have HK:=hid (HK3.out.trans (hk4.trans hk5))
  have HBQ:=hid (HBV.out W HK.out (HQ.out.keep (hk4.trans hk5) fun _ _ e=>e))
  obtain⟨f0,f1,f2,-⟩:=BY hb6
  obtain⟨g0,g1,g2,-⟩:=BY (hk5.blk hb5)
  have h56:B5+1=B6:=by omega
  clear hk4 hk5 hb5 hb6 hs4 hs5 hq hcq hsq hm0 hm1 hm2
  go_upto_region 6 with fail
  rw[←hW4,←hB5,←hW,h56]
  clear hW4 hB5 hW hB6 h56
  go_wp2_with fail
  go_at_call 23
  refine HBQ.out.mono ?_
  rintro e w4 ⟨rfl,hk4⟩
  have HK4:=hid (HK.out.trans hk4)
  clear hk4 f0 f1 f2 g0 g1 g2
  obtain⟨c0,c1,c2⟩:=TAIL.out w4 HK4.out
  have HCQ:=hid (HCK.out w4 HK4.out)
  by_cases hc:DY p=true
  ·rw[if_pos hc]at HCQ
   have HBQ:=hid (HBP.out hc)
   clear hc
   go_wp2_with fail
   go_at_call 20
   refine HCQ.out.mono ?_
   rintro e w5 ⟨rfl,hk5⟩
   have HK5:=hid (HK4.out.trans hk5)
   clear hk5 c0 c1 c2
   obtain⟨c0,c1,c2⟩:=TAIL.out w5 HK5.out
   have HBR:=hid (HBQ.out w5 HK5.out)
   go_wp2_with fail
   go_at_call 23
   refine HBR.out.mono ?_
   rintro e w6 ⟨rfl,hk6⟩
   have HKE:=hid ((HKV.out.trans HK5.out).trans hk6)
   clear hk6
   go_wp2_with fail
   go_ret
   exact⟨rfl,HKE.out⟩
  ·rw[if_neg hc]at HCQ
   have HTQ:=hid (fun W k=>by have h:=HTX.out W k;rw[if_neg hc]at h;exact h)
   clear hc
   go_wp2_with fail
   go_at_call 20
   refine HCQ.out.mono ?_
   rintro e w5 ⟨rfl,hk5⟩
   have HK5:=hid (HK4.out.trans hk5)
   clear hk5 c0 c1 c2
   obtain⟨c0,c1,c2⟩:=TAIL.out w5 HK5.out
   have HTR:=hid (HTQ.out w5 HK5.out)
   go_wp2_with fail
   go_at_call 17
   refine HTR.out.mono ?_
   rintro e w6 ⟨rfl,hk6⟩
   have HKE:=hid ((HKV.out.trans HK5.out).trans hk6)
   clear hk6
   go_wp2_with fail
   go_ret
   exact⟨rfl,HKE.out⟩
def tA:List UInt8:=[49,32,45,32,50,32,45,32,51]
def tB:List UInt8:=[49,32,43,32,50,32,42,32,51]
def tP:List UInt8:=[112,111,111,108,32,52,32,59,32,115,116,97,99,107,32,115,32,59,32,116,104,114,101,97,100,32,123,32,97,32,44,32,98,32,61,32,112,111,112,32,40,32,115,32,41,32,59,32,125]
def iA:List Item:=[⟨⟨3,[49],1⟩,1,1,0⟩,⟨⟨4,[45],0⟩,1,3,0⟩,⟨⟨3,[50],2⟩,1,5,0⟩,⟨⟨4,[45],0⟩,1,7,0⟩,⟨⟨3,[51],3⟩,1,9,0⟩]
def iB:List Item:=[⟨⟨3,[49],1⟩,1,1,0⟩,⟨⟨4,[43],0⟩,1,3,0⟩,⟨⟨3,[50],2⟩,1,5,0⟩,⟨⟨4,[42],0⟩,1,7,0⟩,⟨⟨3,[51],3⟩,1,9,0⟩]
def nX (n l c:Nat):Ex:=.mk 1 0 n [] l c []
def xA:Ex:=.mk 5 5 0 [] 1 7 [.mk 5 5 0 [] 1 3 [nX 1 1 1,nX 2 1 5],nX 3 1 9]
def xB:Ex:=.mk 5 4 0 [] 1 3 [nX 1 1 1,.mk 5 1 0 [] 1 7 [nX 2 1 5,nX 3 1 9]]
theorem allA:allT tA=(iA,⟨0,0,0⟩):=by kernel_rfl
theorem allB:allT tB=(iB,⟨0,0,0⟩):=by kernel_rfl
theorem exA:exP 3 iA=some (xA,[]):=by kernel_rfl
theorem exB:exP 3 iB=some (xB,[]):=by kernel_rfl
def iP2:List Item:=[⟨⟨1,[116,104,114,101,97,100],0⟩,1,20,0⟩,⟨⟨4,[123],0⟩,1,27,0⟩,⟨⟨2,[97],0⟩,1,29,0⟩,⟨⟨4,[44],0⟩,1,31,0⟩,⟨⟨2,[98],0⟩,1,33,0⟩,⟨⟨4,[61],0⟩,1,35,0⟩,⟨⟨1,[112,111,112],0⟩,1,37,0⟩,⟨⟨4,[40],0⟩,1,41,0⟩,⟨⟨2,[115],0⟩,1,43,0⟩,⟨⟨4,[41],0⟩,1,45,0⟩,⟨⟨4,[59],0⟩,1,47,0⟩,⟨⟨4,[125],0⟩,1,49,0⟩]
def iP1:List Item:=⟨⟨1,[115,116,97,99,107],0⟩,1,10,0⟩::⟨⟨2,[115],0⟩,1,16,0⟩::⟨⟨4,[59],0⟩,1,18,0⟩::iP2
def iP:List Item:=⟨⟨1,[112,111,111,108],0⟩,1,1,0⟩::⟨⟨3,[52],4⟩,1,6,0⟩::⟨⟨4,[59],0⟩,1,8,0⟩::iP1
theorem allP:allT tP=(iP,⟨0,0,0⟩):=by kernel_rfl
def sP:St:=.mk 9 [] 0 2 [97] [98] [115] [] [] [] 1 29
def pP:Pr:=⟨4,[⟨1,[115],1,10⟩],[[sP]]⟩
theorem wordPP:WordI iP:=by unfold WordI;decide +kernel
theorem readsPP (R el ec:Nat):ReadsP R el ec iP pP:=progP_reads R el ec 9 iP pP (by decide) wordPP (by kernel_rfl)
theorem itoa_small {n:Nat}(h:n<10):Lib.itoa n=[UInt8.ofNat (48+n)]:=by
 unfold Lib.itoa
 rw[if_neg (by omega)]
 unfold Lib.decDigits
 rw[dif_pos (by simpa using h)]
 simp
theorem textA:mayG (toG xA)=true∧tokG (toG xA)=[[40],[49],[45],[50],[41],[45],[51]]:=by
 refine⟨by decide +kernel,?_⟩
 have h1:=itoa_small (n:=1) (by decide)
 have h2:=itoa_small (n:=2) (by decide)
 have h3:=itoa_small (n:=3) (by decide)
 simp only[xA,nX,toG,toGL]
 show tokG (.mk 5 5 _ _ _ _ [.mk 5 5 _ _ _ _ [.mk 1 _ 1 _ _ _ [],.mk 1 _ 2 _ _ _ []],.mk 1 _ 3 _ _ _ []])=_
 rw[tok_5,tok_5,tok_1,tok_1,tok_1]
 rw[show Lib.itoa 1=_ from h1,show Lib.itoa 2=_ from h2,show Lib.itoa 3=_ from h3]
 rfl
theorem textB:mayG (toG xB)=true∧tokG (toG xB)=[[49],[43],[40],[50],[42],[51],[41]]:=by
 refine⟨by decide +kernel,?_⟩
 have h1:=itoa_small (n:=1) (by decide)
 have h2:=itoa_small (n:=2) (by decide)
 have h3:=itoa_small (n:=3) (by decide)
 simp only[xB,nX,toG,toGL]
 show tokG (.mk 5 4 _ _ _ _ [.mk 1 _ 1 _ _ _ [],.mk 5 1 _ _ _ _ [.mk 1 _ 2 _ _ _ [],.mk 1 _ 3 _ _ _ []]])=_
 rw[tok_5,tok_5,tok_1,tok_1,tok_1]
 rw[show Lib.itoa 1=_ from h1,show Lib.itoa 2=_ from h2,show Lib.itoa 3=_ from h3]
 rfl
theorem exprTextA (w:World)(S:Nat→Prop)(vs:List Value)(hex:ExAt w S vs xA)(hT:TabS w)(hP:TabP w):
  Calls Tryz.prog 10 #[.agg vs.toArray] w fun e w'=>e=.returned (.string ⟨#[40,32,49,32,45,32,50,32,41,32,45,32,51]⟩)∧BA (fun _=>False) w w':=by
 have h:=exprText_any (toG xA) S vs w hex.toG hT hP (by simp[xA,nX,toG,toGL,fitG,DU]) (by decide +kernel) (fun _=>by rw[textA.2];exact⟨by decide,by decide⟩)
 rw[if_pos textA.1,textA.2]at h
 exact h
theorem exprTextB (w:World)(S:Nat→Prop)(vs:List Value)(hex:ExAt w S vs xB)(hT:TabS w)(hP:TabP w):
  Calls Tryz.prog 10 #[.agg vs.toArray] w fun e w'=>e=.returned (.string ⟨#[49,32,43,32,40,32,50,32,42,32,51,32,41]⟩)∧BA (fun _=>False) w w':=by
 have h:=exprText_any (toG xB) S vs w hex.toG hT hP (by simp[xB,nX,toG,toGL,fitG,DU]) (by decide +kernel) (fun _=>by rw[textB.2];exact⟨by decide,by decide⟩)
 rw[if_pos textB.1,textB.2]at h
 exact h
theorem exprA (w:World)(hT:TabS w):Calls Tryz.prog 11 #[.string ⟨#[49,32,45,32,50,32,45,32,51]⟩] w fun e w'=>∃vs,e=.returned (.tuple #[.agg vs.toArray,.agg #[.int .i64 0,.int .i64 0,.int .i64 0]])∧ExAt w' (fun b=>w.heap.size≤b) vs xA∧BA (fun _=>False) w w':=
 expr_any 3 ⟨tA.toArray⟩ iA xA w hT allA (by decide) exA (by decide) (by decide +kernel) (by decide +kernel)
theorem exprB (w:World)(hT:TabS w):Calls Tryz.prog 11 #[.string ⟨#[49,32,43,32,50,32,42,32,51]⟩] w fun e w'=>∃vs,e=.returned (.tuple #[.agg vs.toArray,.agg #[.int .i64 0,.int .i64 0,.int .i64 0]])∧ExAt w' (fun b=>w.heap.size≤b) vs xB∧BA (fun _=>False) w w':=
 expr_any 3 ⟨tB.toArray⟩ iB xB w hT allB (by decide) exB (by decide) (by decide +kernel) (by decide +kernel)
theorem progP_any (w:World)(hT:TabS w):Calls Tryz.prog 16 #[.string ⟨tP.toArray⟩] w fun e w'=>∃vs,e=.returned (.tuple #[.agg vs.toArray,.agg #[.int .i64 0,.int .i64 0,.int .i64 0]])∧PrgAt w' (fun b=>w.heap.size≤b) vs pP∧BA (fun _=>False) w w':=
 prog_any ⟨tP.toArray⟩ iP pP w hT allP (by decide) (fun R el ec=>readsPP R el ec) (by decide) (by decide) (by decide +kernel) (by decide +kernel)
theorem progP2 (w:World)(hT:TabS w):Calls Tryz.prog 16 #[.string ⟨tP.toArray⟩] w fun e w'=>∃p c q d,e=.returned (.tuple #[.agg #[.int .i64 4,.slice p 1 c,.slice q 1 d],.agg #[.int .i64 0,.int .i64 0,.int .i64 0]])∧ThsAt w' (fun b=>w.heap.size≤b) q [[sP]]∧BA (fun _=>False) w w':=by
 refine(progP_any w hT).mono ?_
 rintro e w' ⟨vs,rfl,⟨p,c,q,d,rfl,-,h⟩,hk⟩
 exact⟨p,c,q,d,rfl,h,hk⟩
theorem lives17 (w:World)(hT:TabS w)(hP:TabP w):Calls Tryz.prog 8 #[] w fun e w'=>e=.returned (.bool true)∧BA (fun _=>False) w w':=by
 have HT:=hid hT;have HP:=hid hP
 have HA:=hid (exprA w hT)
 clear hT hP
 go_enter Tryz.func8,Tryz.ntmps8
 go_wp2_with fail
 go_at_call 11
 refine HA.out.mono ?_
 rintro e w1 ⟨vs,rfl,hex,hk⟩
 obtain⟨ak,ao,an,aS,ap,am,ac,al,acl,rfl⟩:=DL hex
 obtain⟨X,E1,hX,hE,hbe,hkx,hsx⟩:=BC w1 (.cells #[.int .i64 ak,.int .i64 ao,.int .i64 an,.string aS,.slice ap am ac,.int .i64 al,.int .i64 acl] TEx)
 obtain⟨W1,F1,hW,hF,hbf,hky,hsy⟩:=BC X (.cells #[.int .i64 0,.int .i64 0,.int .i64 0] TFa)
 have hkk:=hkx.trans hky
 have h12:E1+1=F1:=by omega
 have HK1:=hid (hk.trans hkk);have HE11:=hid (hky.blk hbe);have HF11:=hid hbf;have HXA1:=hid (hex.keep hkk fun _ _ e=>e)
 clear hex
 clear hk hkk hbe hbf hkx hky hsx hsy
 go_upto_region 2 with fail
 rw[←hX,←hW,←hE,h12]
 clear hX hW hE hF h12
 have HB:=hid (exprB W1 (HK1.out.tabS HT.out))
 go_wp2_with fail
 go_at_call 11
 refine HB.out.mono ?_
 rintro e w2 ⟨vs,rfl,hey,hk⟩
 obtain⟨bk,bo,bn,bS,bp,bm,bc,bl,bcl,rfl⟩:=DL hey
 obtain⟨X,E2,hX,hE,hbe,hkx,hsx⟩:=BC w2 (.cells #[.int .i64 bk,.int .i64 bo,.int .i64 bn,.string bS,.slice bp bm bc,.int .i64 bl,.int .i64 bcl] TEx)
 obtain⟨W2,F2,hW,hF,hbf,hky,hsy⟩:=BC X (.cells #[.int .i64 0,.int .i64 0,.int .i64 0] TFa)
 have hkk:=hkx.trans hky
 have h12:E2+1=F2:=by omega
 have hk2:=hk.trans hkk
 have HK2:=hid (HK1.out.trans hk2);have HE12:=hid (hk2.blk HE11.out);have HF12:=hid (hk2.blk HF11.out);have HE22:=hid (hky.blk hbe);have HF22:=hid hbf;have HXA2:=hid (HXA1.out.keep hk2 fun _ _ e=>e);have HXB2:=hid (hey.keep hkk fun _ _ e=>e)
 clear hey hk2
 clear hk hkk hbe hbf hkx hky hsx hsy
 go_upto_region 3 with fail
 rw[←hX,←hW,←hE,h12]
 clear hX hW hE hF h12
 have HC:=hid (by have h:=progP2 W2 (HK2.out.tabS HT.out);unfold tP at h;exact h)
 go_wp2_with fail
 go_at_call 16
 refine HC.out.mono ?_
 rintro e w3 ⟨p,c,q,d,rfl,hth,hk⟩
 obtain⟨X,E3,hX,hE,hbe,hkx,hsx⟩:=BC w3 (.cells #[.int .i64 4,.slice p 1 c,.slice q 1 d] TPr)
 obtain⟨W3,F3,hW,hF,hbf,hky,hsy⟩:=BC X (.cells #[.int .i64 0,.int .i64 0,.int .i64 0] TFa)
 have hkk:=hkx.trans hky
 have h12:E3+1=F3:=by omega
 have hk2:=hk.trans hkk
 have HK3:=hid (HK2.out.trans hk2);have HE13:=hid (hk2.blk HE12.out);have HF13:=hid (hk2.blk HF12.out);have HE23:=hid (hk2.blk HE22.out);have HF23:=hid (hk2.blk HF22.out);have HE33:=hid (hky.blk hbe);have HF33:=hid hbf;have HXA3:=hid (HXA2.out.keep hk2 fun _ _ e=>e);have HXB3:=hid (HXB2.out.keep hk2 fun _ _ e=>e);have HTH:=hid (hth.keepS (w':=W3) (S':=fun b=>W2.heap.size≤b) (fun b o v _ hc=>hkk.stay hc) fun b hb=>hb)
 clear hth hk2
 clear hk hkk hbe hbf hkx hky hsx hsy
 go_upto_region 4 with fail
 rw[←hX,←hW,←hE,h12]
 clear hX hW hE hF h12
 obtain⟨g,p1,c1,rfl,hc1,hst⟩:=ths_get HTH.out 0 (by decide)
 obtain⟨g2,o2,vs,rfl,hc2,hs2⟩:=sts_get hst 0 (by decide)
 obtain⟨s1,d1,s2,d2,s3,d3,rfl,-⟩:=(by unfold sP at hs2;simp only[List.getElem_cons_zero]at hs2;unfold StAt at hs2;exact hs2)
 have e0:W3.cell? ⟨g,0,none⟩=some (.slice (some ⟨g2,o2,none⟩) 1 c1):=hc1
 have y0:W3.cell? ⟨g2,o2,none⟩=some (.int .i64 9):=hc2 0 _ rfl
 have y1:W3.cell? ⟨g2,o2+1,none⟩=some (.string ⟨#[]⟩):=hc2 1 _ rfl
 have y2:W3.cell? ⟨g2,o2+2,none⟩=some (.int .i64 0):=hc2 2 _ rfl
 have y3:W3.cell? ⟨g2,o2+3,none⟩=some (.int .i64 2):=hc2 3 _ rfl
 have y4:W3.cell? ⟨g2,o2+4,none⟩=some (.string ⟨#[97]⟩):=hc2 4 _ rfl
 have y5:W3.cell? ⟨g2,o2+5,none⟩=some (.string ⟨#[98]⟩):=hc2 5 _ rfl
 have y6:W3.cell? ⟨g2,o2+6,none⟩=some (.string ⟨#[115]⟩):=hc2 6 _ rfl
 have y7:W3.cell? ⟨g2,o2+7,none⟩=some (.slice s1 0 d1):=hc2 7 _ rfl
 have y8:W3.cell? ⟨g2,o2+8,none⟩=some (.slice s2 0 d2):=hc2 8 _ rfl
 have y9:W3.cell? ⟨g2,o2+9,none⟩=some (.slice s3 0 d3):=hc2 9 _ rfl
 have y10:W3.cell? ⟨g2,o2+10,none⟩=some (.int .i64 1):=hc2 10 _ rfl
 have y11:W3.cell? ⟨g2,o2+11,none⟩=some (.int .i64 29):=hc2 11 _ rfl
 obtain⟨m0,m1,m2,-⟩:=BY HF13.out
 obtain⟨k0,k1,k2,-⟩:=BY HF23.out
 obtain⟨l0,l1,l2,-⟩:=BY HF33.out
 obtain⟨r0,r1,r2,-⟩:=BY HE33.out
 clear hc1 hc2 hst
 obtain⟨W4,G4,hW4,hG4,hbg,hkg,hsg⟩:=BC W3 (.cells #[.int .i64 9,.string ⟨#[]⟩,.int .i64 0,.int .i64 2,.string ⟨#[97]⟩,.string ⟨#[98]⟩,.string ⟨#[115]⟩,.slice s1 0 d1,.slice s2 0 d2,.slice s3 0 d3,.int .i64 1,.int .i64 29] TSm)
 have HK4:=hid (HK3.out.trans hkg);have HG4:=hid hbg;have HE14:=hid (hkg.blk HE13.out);have HE24:=hid (hkg.blk HE23.out);have HE34:=hid (hkg.blk HE33.out)
 have HXA4:=hid (HXA3.out.keep hkg fun _ _ e=>e);have HXB4:=hid (HXB3.out.keep hkg fun _ _ e=>e)
 clear hbg hkg hsg
 go_upto_region 7 with fail
 rw[←hW4,←hG4]
 clear hW4 hG4 e0 y0 y1 y2 y3 y4 y5 y6 y7 y8 y9 y10 y11 m0 m1 m2 k0 k1 k2 l0 l1 l2 r0 r1 r2
 have HTA:=hid (exprTextA W4 _ _ HXA4.out (HK4.out.tabS HT.out) (HK4.out.tabP HP.out))
 obtain⟨a0,a1,a2,a3,a4,a5,a6,-⟩:=blk7 HE14.out
 go_wp2_with fail
 go_at_call 10
 refine HTA.out.mono ?_
 rintro e W5 ⟨rfl,hk5⟩
 have HTB:=hid (exprTextB W5 _ _ (HXB4.out.keep hk5 fun _ _ e=>e) ((HK4.out.trans hk5).tabS HT.out) ((HK4.out.trans hk5).tabP HP.out))
 have HE25:=hid (hk5.blk HE24.out);have HK5:=hid (HK4.out.trans hk5);have HG5:=hid (hk5.blk HG4.out);have HE35:=hid (hk5.blk HE34.out)
 clear hk5 a0 a1 a2 a3 a4 a5 a6
 obtain⟨a0,a1,a2,a3,a4,a5,a6,-⟩:=blk7 HE25.out
 go_wp2_with fail
 go_at_call 10
 refine HTB.out.mono ?_
 rintro e W6 ⟨rfl,hk6⟩
 have hg6:=hk6.blk HG5.out;have he6:=hk6.blk HE35.out
 have HK6:=hid (HK5.out.trans hk6)
 obtain⟨y0,y1,y2,y3,y4,y5,y6,y7,y8,y9,y10,y11⟩:=BH hg6
 obtain⟨r0,r1,r2,-⟩:=BY he6
 clear hk6 hg6 he6 a0 a1 a2 a3 a4 a5 a6
 go_wp2_with fail
 go_ret
 exact⟨rfl,HK6.out⟩
open Go Go.ChangeShapes Go.WideShapes Go.ChangeAt Go.RowKit
theorem Tryz.own:ownKnob Tryz.prog.godebug=none:=by kernel_rfl
theorem Tryz.laidOut:laidOutB Tryz.prog=true:=by kernel_rfl
theorem tabs_of_laid {W:World}(h:laidMetH Tryz.prog Rows.parseRowsRow.laid W):TabS W∧TabP W:=by
 rw[MakeChecks.laidMetH_plain _ _ _ (by kernel_rfl)]at h
 obtain⟨ps,⟨g0,t0,cs0,f0,p0,q0,hg0,ht0,hv0,hd0,⟨g1,t1,cs1,f1,p1,q1,hg1,ht1,hv1,hd1,⟨g2,t2,cs2,f2,p2,q2,hg2,ht2,hv2,hd2,⟨g3,t3,cs3,f3,p3,q3,hg3,ht3,hv3,hd3,⟨g4,t4,cs4,f4,p4,q4,hg4,ht4,hv4,hd4,_,_⟩,_⟩,_⟩,_⟩,_⟩,_,_⟩:=h
 constructor
 ·obtain rfl := Option.some.inj ((show Tryz.prog.globalNamed "strings.asciiSpace" = some 1 by kernel_rfl).symm.trans hg4)
  obtain rfl:=Option.some.inj ((show (Tryz.prog.globals[1]?).map (·.type)=some 182 by kernel_rfl).symm.trans ht4)
  unfold TabS Lib.TabIs
  have e:(Rows.laid_strings_asciiSpace:DataW Unit)=Lib.tabData .u8 Lib.asciiSpaceTab:=by kernel_rfl
  rw[e]at hd4
  rw[hv4,←Lib.cells_of_tab Tryz.underlying182 Tryz.underlying5 (by kernel_rfl) (by kernel_rfl) hd4]
 ·obtain rfl := Option.some.inj ((show Tryz.prog.globalNamed "internal/strconv.uint64pow10" = some 0 by kernel_rfl).symm.trans hg2)
  obtain rfl:=Option.some.inj ((show (Tryz.prog.globals[0]?).map (·.type)=some 179 by kernel_rfl).symm.trans ht2)
  unfold TabP Lib.TabIs
  have e:(Rows.laid_internal_strconv_uint64pow10:DataW Unit)=Lib.tabData .u64 Lib.pow10Tab:=by kernel_rfl
  rw[e]at hd2
  rw[hv2,←Lib.cells_of_tab Tryz.underlying179 Tryz.underlying168 (by kernel_rfl) (by kernel_rfl) hd2]
theorem trodAll_below {H:Type}{enc:TypeId×Value→H}{P:Program}{W W':World}(hl:laidOutB P=true)(hb:Below W.heap.size W W'):∀(ts:List TypeId) (vs:List Value) (ds:List (DataW H)) (ps:List MemPlace),
  (ts.all fun t=>P.readableRec t && decide (t<P.types.size))=true→DataW.TrodAll enc P W 0 (fun _=>true) true ts vs ds ps→(∀x∈ps,x.block<W.heap.size)→DataW.TrodAll enc P W' 0 (fun b=>decide (b<W.heap.size)) true ts vs ds ps
 |[],[],[],_,_,h,_=>h
 | t::ts,v::vs,d::ds,ps,hr,h,hlt=>by
  obtain⟨p,q,h1,h2,e⟩:=h
  simp only[List.all_cons,Bool.and_eq_true,decide_eq_true_eq]at hr
  exact⟨p,q,Below.trod hl hr.1.1 hr.1.2 h1 hb (fun x hx=>hlt x (by rw[e];exact List.mem_append_left _ hx)),trodAll_below hl hb ts vs ds q hr.2 h2 (fun x hx=>hlt x (by rw[e];exact List.mem_append_right _ hx)),e⟩
 |[],_::_,_,_,_,h,_=>h.elim
 |[],[],_::_,_,_,h,_=>h.elim
 |_::_,[],_,_,_,h,_=>h.elim
 |_::_,_::_,[],_,_,h,_=>h.elim
theorem trodAll_head {H:Type}{enc:TypeId×Value→H}{P:Program}{W:World}{sp:Nat→Bool}{t:TypeId}{ts:List TypeId}{vs:List Value}{ds:List (DataW H)}{ps:List MemPlace}
  (h:DataW.TrodAll enc P W 0 sp true (t::ts) vs ds ps):∃v vs' d ds' p q,vs=v::vs'∧ds=d::ds'∧DataW.Trod enc P W 0 sp true t v d p∧DataW.TrodAll enc P W 0 sp true ts vs' ds' q:=by
 match vs,ds,h with
 |v::vs',d::ds',⟨p,q,h1,h2,_⟩=>exact⟨v,vs',d,ds',p,q,rfl,rfl,h1,h2⟩
 |[],[],h=>exact h.elim
 |[],_::_,h=>exact h.elim
 |_::_,[],h=>exact h.elim
theorem trodAll_end {H:Type}{enc:TypeId×Value→H}{P:Program}{W:World}{sp:Nat→Bool}{vs:List Value}{ds:List (DataW H)}{ps:List MemPlace}
  (h:DataW.TrodAll enc P W 0 sp true [] vs ds ps):vs=[]∧ds=[]:=by
 match vs,ds,h with
 |[],[],_=>exact⟨rfl,rfl⟩
 |[],_::_,h=>exact h.elim
 |_::_,_,h=>exact h.elim
end Go.Proofs.YtomlffobbkcmdaaGreatDoor
