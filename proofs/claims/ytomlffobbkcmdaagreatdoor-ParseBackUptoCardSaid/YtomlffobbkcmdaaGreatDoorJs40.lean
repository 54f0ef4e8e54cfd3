import Derived.Test.YtomlffobbkcmdaaGreatDoorJs39
import Derived.Test.YtomlffobbkcmdaaGreatDoorRows
import Derived.Lib.LaidTab
import Derived.ProofKit
import Derived.OpenShut
import Derived.Lay
import Derived.Stop.Joined
import Derived.Deep.Slices
set_option maxHeartbeats 32000000
set_option maxRecDepth 10000
namespace Go.Proofs.YtomlffobbkcmdaaGreatDoor
open Go Go.RowKit Own
open Go.Lib (hid)
theorem CB {α β:Type}{o:Oc α}{k:α→List Item→Oc β}(ho:o≠.no)(hk:∀a r,o=.ok a r→k a r≠.no):o.bind k≠.no:=by
 cases ho':o with
 |no=>exact absurd ho' ho
 |bad b=>exact fun h=>by cases h
 |ok a r=>rw[CG];exact hk a r ho'
theorem exO_no {g:Nat}{ts:List Item}(h:ts.length<g):exO g (exFo g) ts≠.no:=by
 unfold exO
 split
 ·exact fun h=>by cases h
 ·rename_i he
  have:exFo g ts=some (exF g ts):=by unfold exFo;rw[if_pos ⟨h,by rw[he];rfl⟩]
  rw[this]
  exact fun h=>by cases h
theorem callO_no {g:Nat}{v:List UInt8}{ts:List Item}(h:ts.length<g):callO g (exFo g) v ts≠.no:=by
 unfold callO
 refine CB (opO_no _ _) fun op r0 h1=>CB (CW _ _) fun u r1 h2=>CB (wantO_no _ _) fun c r2 h3=>CB ?_ fun xs r3 _=>CB (CW _ _) fun _ _ _=>fun h=>by cases h
 obtain⟨t,rfl,-⟩:=opO_ok h1
 have l2:=BR h2
 have l3:=wantO_len h3
 rw[LB]at h
 unfold argO
 split
 ·exact fun h=>by cases h
 ·refine CB (CW _ _) fun u r4 h4=>CB (exO_no ?_) fun _ _ _=>fun h=>by cases h
  have l4:=BR h4
  omega
theorem plainO_no {g l c:Nat}{ts:List Item}(h:ts.length<g):plainO g (exFo g) l c ts≠.no:=by
 unfold plainO
 refine CB (wantO_no _ _) fun n r h1=>?_
 have l1:=wantO_len h1
 have lt:=GB r
 split
 ·refine CB (exO_no (by omega)) fun a r1 h2=>CB (CW _ _) fun u r2 h3=>CB (exO_no ?_) fun x r3 h4=>CB (CW _ _) fun _ _ _=>fun h=>by cases h
  have l2:=exO_len h2;have l3:=BR h3
  omega
 ·split
  ·refine CB (wantO_no _ _) fun m r1 h2=>CB (CW _ _) fun u r2 h3=>CB (callO_no ?_) fun _ _ _=>fun h=>by cases h
   have l2:=wantO_len h2;have l3:=BR h3
   omega
  ·refine CB (CW _ _) fun u r1 h2=>?_
   have l2:=BR h2
   split
   ·exact CB (callO_no (by omega)) fun _ _ _=>fun h=>by cases h
   ·exact CB (exO_no (by omega)) fun x r2 h3=>CB (CW _ _) fun _ _ _=>fun h=>by cases h
theorem stmtsO_no {st:List Item→Oc St}(n:Nat)(hst:∀ts,ts.length<n→st ts≠.no)(hlen:∀ts s m,ts.length<n→st ts=.ok s m→m.length<ts.length):∀(f:Nat) (ts:List Item),ts.length<n→ts.length<f→stmtsO st f ts≠.no
 |0,_,_,h=>absurd h (Nat.not_lt_zero _)
 | f+1,ts,hn,hf=>by
  unfold stmtsO
  split
  ·exact fun h=>by cases h
  ·refine CB (hst ts hn) fun s m h1=>CB (stmtsO_no n hst hlen f m ?_ ?_) fun _ _ _=>fun h=>by cases h
   all_goals
    have:=hlen ts s m hn h1
    omega
theorem blockO_no {st:List Item→Oc St}(n:Nat)(hst:∀ts,ts.length<n→st ts≠.no)(hlen:∀ts s m,ts.length<n→st ts=.ok s m→m.length<ts.length){ts:List Item}(h:ts.length<n):FZ st ts≠.no:=by
 unfold FZ
 refine CB (CW _ _) fun u r h1=>stmtsO_no n hst hlen _ r ?_ (by omega)
 have:=BR h1
 omega
theorem stmtO_no (g:Nat)(hg:g≤1000000):∀(f:Nat) (ts:List Item),ts.length<f→ts.length<g→stmtO g (exFo g) f ts≠.no
 |0,_,h,_=>absurd h (Nat.not_lt_zero _)
 | f+1,ts,hf,h=>by
  unfold stmtO stmtB
  cases ts with
  |nil=>exact fun h=>by cases h
  | cons t r0=>
   dsimp only
   rw[LB]at hf h
   have hB:∀r:List Item,r.length≤r0.length→FZ (stmtO g (exFo g) f) r≠.no:=fun r hr=>
    blockO_no (min f g) (fun ts ht=>stmtO_no g hg f ts (by omega) (by omega)) (fun ts s m ht hs=>FX g (exFo g) f ts s m hs) (by omega)
   have hBl:∀(r r':List Item) (l:List St),r.length≤r0.length→FZ (stmtO g (exFo g) f) r=.ok l r'→r'.length<r.length:=fun r r' l hr hb=>blockO_less (FX g (exFo g) f) r l r' hb
   split
   ·refine CB (wantO_no _ _) fun n r1 h1=>CB (CW _ _) fun u r2 h2=>CB (exO_no ?_) fun x r3 h3=>CB (CW _ _) fun _ _ _=>fun h=>by cases h
    have:=wantO_len h1;have:=BR h2
    omega
   split
   ·exact CB (wantO_no _ _) fun n r1 h1=>CB (CW _ _) fun u r2 h2=>CB (wantO_no _ _) fun x r3 h3=>CB (CW _ _) fun _ _ _=>fun h=>by cases h
   split
   ·refine CB (exO_no (by omega)) fun x r1 h1=>?_
    have l1:=exO_len h1
    refine CB (hB r1 l1) fun a r2 h2=>?_
    have l2:=hBl r1 r2 a l1 h2
    have lt:=GB r2
    split
    ·exact CB (hB r2.tail (by omega)) fun _ _ _=>fun h=>by cases h
    ·exact fun h=>by cases h
   split
   ·refine CB (exO_no (by omega)) fun x r1 h1=>?_
    have l1:=exO_len h1
    exact CB (hB r1 l1) fun _ _ _=>fun h=>by cases h
   split
   ·exact CB (exO_no (by omega)) fun x r1 h1=>CB (CW _ _) fun _ _ _=>fun h=>by cases h
   split
   ·exact CB (exO_no (by omega)) fun x r1 h1=>CB (CW _ _) fun _ _ _=>fun h=>by cases h
   ·exact plainO_no (by rw[LB];omega)
theorem contsO_no:∀(f:Nat) (ts:List Item),ts.length<f→contsO f ts≠.no
 |0,_,h=>absurd h (Nat.not_lt_zero _)
 | f+1,ts,hf=>by
  unfold contsO
  cases ts with
  |nil=>exact fun h=>by cases h
  | cons t r=>
   dsimp only
   split
   ·exact fun h=>by cases h
   ·rw[LB]at hf
    refine CB (wantO_no _ _) fun n r1 h1=>CB (CW _ _) fun u r2 h2=>CB (contsO_no f r2 ?_) fun _ _ _=>fun h=>by cases h
    have:=wantO_len h1;have:=BR h2
    omega
theorem threadsO_no {blk:List Item→Oc (List St)}(n:Nat)(hb:∀ts,ts.length<n→blk ts≠.no)(hlen:∀ts l m,ts.length<n→blk ts=.ok l m→m.length<ts.length):∀(f:Nat) (ts:List Item),ts.length<n→ts.length<f→threadsO blk f ts≠.no
 |0,_,_,h=>absurd h (Nat.not_lt_zero _)
 | f+1,ts,hn,hf=>by
  unfold threadsO
  cases ts with
  |nil=>exact fun h=>by cases h
  | cons t r=>
   dsimp only
   refine CB (CW _ _) fun u r1 h1=>?_
   have l1:=BR h1
   refine CB (hb r1 (by omega)) fun b r2 h2=>CB (threadsO_no n hb hlen f r2 ?_ ?_) fun _ _ _=>fun h=>by cases h
   all_goals
    have:=hlen r1 b r2 (by omega) h2
    omega
theorem progO_no {blk:List Item→Oc (List St)}(n:Nat)(hb:∀ts,ts.length<n→blk ts≠.no)(hlen:∀ts l m,ts.length<n→blk ts=.ok l m→m.length<ts.length){its:List Item}(h:its.length<n)(hg:GoodI its):progO blk its≠.no:=by
 unfold progO
 refine CB (CW _ _) fun u r h1=>CB (wantO_no _ _) fun nn r1 h2=>CB (CW _ _) fun u2 r2 h3=>CB (contsO_no _ _ (by omega)) fun cs r3 h4=>CB ?_ fun _ _ _=>fun h=>by cases h
 have l1:=BR h1;have l2:=wantO_len h2;have l3:=BR h3
 have hg1:=hg.sub (DF h1)
 obtain⟨c1,c2,c3,c4⟩:=wantO_tell hg1 h2
 obtain⟨⟨-,l4⟩,-,-⟩:=contsO_tell _ _ _ _ ((hg1.sub c4).sub (DF h3)) h4
 exact threadsO_no n hb hlen _ r3 (by omega) (by omega)
def progG (g:Nat):List Item→Oc Pr:=progO (FZ (stmtO g (exFo g) g))
theorem prog_total (s:ByteArray)(w:World)(hT:TabS w)(hs:s.size≤1000000):
  Calls Tryz.prog 16 #[.string s] w fun e w'=>((∃er li co:Int,er≠0∧e=.returned (.tuple #[.agg #[.int .i64 0,.slice none 0 0,.slice none 0 0],.agg #[.int .i64 er,.int .i64 li,.int .i64 co]]))∨
   ∃v q,e=.returned (.tuple #[v,.agg #[.int .i64 0,.int .i64 0,.int .i64 0]])∧PAt w' (fun b=>w.heap.size≤b) v q∧DY q=true∧Small q)∧BA (fun _=>False) w w':=by
 obtain⟨⟨its,f⟩,hall⟩:∃x,allT s.data.toList=x:=⟨_,rfl⟩
 have he:=allT_err s.data.toList
 rw[hall]at he
 rcases he with⟨-,e1',e2,e3,e4'⟩|⟨e1,e2'⟩
 ·have e1:its=scan s.data.toList 1 1 false:=e1'
  have e4:f=⟨0,0,0⟩:=e4'
  clear e1' e4'
  subst e4
  have hg:GoodI its:=fun i hi=>by rw[e1]at hi;exact scan_good _ _ _ _ i hi (e2 i hi)
  have hl:its.length≤8192:=by rw[e1];exact Nat.le_trans (scan_len s.data.toList 1 1 false).1 e3
  have hw:WordI its:=fun t ht h=>good_kw (hg t ht) h
  cases hp:progG 10000 its with
  | no=>
   refine absurd hp (progO_no 10000 (fun ts ht=>blockO_no 10000 (fun ts ht=>stmtO_no 10000 (by decide) 10000 ts ht ht) (fun ts s m ht h=>FX 10000 (exFo 10000) 10000 ts s m h) ht) (fun ts l m ht h=>blockO_less (FX 10000 (exFo 10000) 10000) ts l m h) (by omega) hg)
  | bad b=>
   refine(prog_gives s its b w hT hall hs fun R el ec W hr=>gives_of (g:=10000) (by omega) hw hp W hr).mono ?_
   rintro e w' ⟨rfl,hk⟩
   exact⟨.inl ⟨9,_,_,by decide,rfl⟩,hk⟩
  | ok pr r=>
   obtain⟨⟨t1,t2⟩,t3,t4,t5⟩:=progO_tell (blockO_tell (stmtO_tell 10000 (exFo 10000) 10000)) hg (by omega) hp
   have hx:∀R el ec,ReadsP R el ec its pr:=fun R el ec=>reads_of (g:=10000) (by omega) hw hp
   by_cases hb:600<CP pr.threads∨24<FI pr.threads
   ·refine(prog_long s its pr w hT hall hs hx (by omega) t5 (by omega) hb).mono ?_
    rintro e w' ⟨rfl,hk⟩
    exact⟨.inl ⟨3,_,_,by decide,rfl⟩,hk⟩
   ·refine(prog_any s its pr w hT hall hs hx (by omega) t5 (by omega) (by omega)).mono ?_
    rintro e w' ⟨vs,rfl,hp,hk⟩
    exact⟨.inr ⟨_,toP pr,rfl,hp.toP,t1,t2⟩,hk⟩
 ·obtain⟨er,li,co⟩:=f
  have e2:its=[]:=e2'
  subst e2
  refine(prog_lex s er li co e1 w hT hall).mono ?_
  rintro e w' ⟨rfl,hk⟩
  exact⟨.inl ⟨er,li,co,by have e1:er≠0:=e1;omega,rfl⟩,hk⟩
theorem back_any (p:Gp)(hs:Small p)(hc:DY p=true)(w:World)(hT:TabS w)(hP:TabP w)(S:Nat→Prop)(v:Value)(h:PAt w S v p):
  Calls Tryz.prog 23 #[v] w fun e w'=>e=.returned (.bool true)∧BA (fun _=>False) w w':=by
 have h0:=h
 obtain⟨p1,d1,p2,d2,rfl,-,-⟩:=h0
 obtain⟨V,B1,hV,hB1,hb1,hk1,hs1⟩:=BC w (.cells #[.int .i64 p.pool,.slice p1 p.conts.length d1,.slice p2 p.threads.length d2] TPr)
 obtain⟨vp,hvp⟩:∃vp:Value,(.agg #[.int .i64 p.pool,.slice p1 p.conts.length d1,.slice p2 p.threads.length d2])=vp:=⟨_,rfl⟩
 have HT:=hid (hk1.tabS hT);have HP:=hid (hk1.tabP hP);have HPA:=hid (h.keep hk1 fun _ _ e=>e);have HSM:=hid hs;have HC:=hid hc
 have HTX:=hid (text_at p hs V HT.out HP.out S _ HPA.out)
 rw[if_pos hc]at HTX
 obtain⟨n1,hn1⟩:∃n,p.conts.length=n:=⟨_,rfl⟩
 obtain⟨n2,hn2⟩:∃n,p.threads.length=n:=⟨_,rfl⟩
 obtain⟨Z,hZ⟩:∃Z:ByteArray,⟨(putL (tokP p)).toArray⟩=Z:=⟨_,rfl⟩
 have hz0:Z≠⟨#[]⟩:=by
  rw[←hZ]
  intro e
  have:=congrArg (fun b:ByteArray=>b.data.toList) e
  exact tokP_ne p (by simpa using this)
 have hz1:(Z.toList==([]:List UInt8))=false:=by
  rw[BF,←hZ]
  intro e
  exact tokP_ne p (by simpa using e)
 have hzz:(Z.toList==Z.toList)=true:=beq_self_eq_true _
 have HZS:=hid (show Z.size=(putL (tokP p)).length by rw[←hZ];simp[ByteArray.size])
 have hzl:Z.size≤100000000:=by have:=hs.len hc;have:=HZS.out;omega
 have HZL:=hid hzl
 have HPR:=hid (fun h1 h2 h3 W hW=>prog_at p hs hc h1 h2 h3 W hW)
 obtain⟨sz,hsz⟩:∃n,DQ p.threads=n:=⟨_,rfl⟩
 obtain⟨dp,hdp⟩:∃n,hDeep p.threads=n:=⟨_,rfl⟩
 have HSZ:=hid (fun W (k:BA (fun _=>False) V W)=>size_at p hs W S _ (HPA.out.keep k fun _ _ e=>e))
 have HDP:=hid (fun W (k:BA (fun _=>False) V W)=>deep_at p hs W S _ (HPA.out.keep k fun _ _ e=>e))
 have HSA:=hid (fun (q:Gp) (T:Nat→Prop) (u:Value) W (k:BA (fun _=>False) V W) (hq:PAt W T u q)=>same_at p q hs W S T _ u (HPA.out.keep k fun _ _ e=>e) hq)
 rw[hsz]at HSZ HPR
 rw[hdp]at HDP HPR
 rw[←HZS.out,hZ]at HPR
 rw[hZ]at HTX
 have HB:=hid hb1;have HK1:=hid hk1
 have HZ:=hid hZ
 clear hs hc hT hP h hb1 hk1 hs1 hsz hdp hZ hzl
 simp only[hn1,hn2]at HB HPA HSZ HDP HSA HTX hV ⊢
 obtain⟨c0,c1,c2,-⟩:=BY HB.out
 go_enter Tryz.func23,Tryz.ntmps23
 go_upto_region 1 with fail
 rw[←hV,←hB1]
 clear hV hB1 hvp
 go_wp2_with fail
 go_at_call 17
 refine HTX.out.mono ?_
 rintro e w1 ⟨rfl,hk2⟩
 have HK2:=hid hk2
 clear hk2 c0 c1 c2
 obtain⟨c0,c1,c2,-⟩:=BY (HK2.out.blk HB.out)
 by_cases hl:(8192:Int)<(Z.size:Int)
 ·go_wp2_with fail
  go_ret
  exact⟨rfl,HK1.out.trans HK2.out⟩
 have HL:=hid hl
 have HSQ:=hid (HSZ.out w1 HK2.out)
 by_cases h6:(600:Int)<(sz:Int)
 ·go_wp2_with fail
  go_at_call 18
  refine(HSQ.out).mono ?_
  rintro e w3 ⟨rfl,hk⟩
  have HK3:=hid (HK2.out.trans hk)
  clear hk c0 c1 c2
  obtain⟨c0,c1,c2,-⟩:=BY (HK3.out.blk HB.out)
  go_wp2_with fail
  go_ret
  exact⟨rfl,HK1.out.trans HK3.out⟩
 have H6:=hid h6
 go_wp2_with fail
 go_at_call 18
 refine(HSQ.out).mono ?_
 rintro e w3 ⟨rfl,hk⟩
 have HK3:=hid (HK2.out.trans hk)
 clear hk c0 c1 c2
 obtain⟨c0,c1,c2,-⟩:=BY (HK3.out.blk HB.out)
 have HDQ:=hid (HDP.out w3 HK3.out)
 by_cases h24:(24:Int)<(dp:Int)
 ·go_wp2_with fail
  go_at_call 19
  refine(HDQ.out).mono ?_
  rintro e w4 ⟨rfl,hk⟩
  have HK4:=hid (HK3.out.trans hk)
  clear hk c0 c1 c2
  obtain⟨c0,c1,c2,-⟩:=BY (HK4.out.blk HB.out)
  go_wp2_with fail
  go_ret
  exact⟨rfl,HK1.out.trans HK4.out⟩
 have H24:=hid h24
 go_wp2_with fail
 go_at_call 19
 refine(HDQ.out).mono ?_
 rintro e w4 ⟨rfl,hk⟩
 have HK4:=hid (HK3.out.trans hk)
 clear hk c0 c1 c2
 obtain⟨c0,c1,c2,-⟩:=BY (HK4.out.blk HB.out)
 have HPQ:=hid (HPR.out (by have:=H6.out;omega) (by have:=H24.out;omega) (by have:=HL.out;omega) w4 (HK4.out.tabS HT.out))
 go_wp2_with fail
 go_at_call 16
 clear hl h6 h24
 refine HPQ.out.mono ?_
 rintro e w5 ⟨vq,q,rfl,hq,hsm,hk⟩
 have hq0:=hq
 obtain⟨q1,e1,q2,e2,rfl,-,-⟩:=hq0
 obtain⟨m0,hm0⟩:∃n,q.pool=n:=⟨_,rfl⟩
 obtain⟨m1,hm1⟩:∃n,q.conts.length=n:=⟨_,rfl⟩
 obtain⟨m2,hm2⟩:∃n,q.threads.length=n:=⟨_,rfl⟩
 obtain⟨V5,B4,hV5,hB4,hb4,hk5,hs5⟩:=BC w5 (.cells #[.int .i64 q.pool,.slice q1 q.conts.length e1,.slice q2 q.threads.length e2] TPr)
 obtain⟨V6,B5,hV6,hB5,hb5,hk6,hs6⟩:=BC V5 (.cells #[.int .i64 0,.int .i64 0,.int .i64 0] TFa)
 have hk56:=hk5.trans hk6
 have HK6:=hid ((HK4.out.trans hk).trans hk56)
 have HQA:=hid (hq.keep hk56 fun _ _ e=>e)
 have HQS:=hid (HSM.out.same hsm)
 obtain⟨g1,g2,-⟩:=same_of hsm
 have HSM2:=hid hsm
 have HQS6:=hid (HSA.out q _ _ V6 HK6.out HQA.out)
 have HQT:=hid (fun W (k:BA (fun _=>False) V6 W)=>text_at q HQS.out W ((HK6.out.trans k).tabS HT.out) ((HK6.out.trans k).tabP HP.out) _ _ (HQA.out.keep k fun _ _ e=>e))
 have HQC:=hid (fun W (k:BA (fun _=>False) V6 W)=>check_at q HQS.out W ((HK6.out.trans k).tabS HT.out) _ _ (HQA.out.keep k fun _ _ e=>e))
 rw[hsm]at HQS6
 rw[g2,HC.out,if_pos rfl]at HQC
 rw[g2,HC.out,if_pos rfl,g1,HZ.out]at HQT
 have HB4:=hid (hk6.blk hb4);have HB5:=hid hb5
 simp only[hm0,hm1,hm2]at HB4 HQS6 HQT HQC hV5 ⊢
 clear c0 c1 c2
 obtain⟨c0,c1,c2,-⟩:=BY (HK6.out.blk HB.out)
 obtain⟨m0',m1',m2',-⟩:=BY HB4.out
 obtain⟨f0,f1,f2,-⟩:=BY HB5.out
 have h45:B4+1=B5:=by omega
 clear hk hq hsm hb4 hk5 hs5 hb5 hk6 hs6 hk56 g1 g2
 go_upto_region 5 with fail
 rw[←hV5,←hB4,←hV6,h45]
 clear hV5 hB4 hV6 hB5 h45
 go_wp2_with fail
 go_at_call 21
 refine HQS6.out.mono ?_
 rintro e w7 ⟨rfl,hk⟩
 have HK7:=hid hk
 clear hk c0 c1 c2 m0' m1' m2' f0 f1 f2
 obtain⟨m0',m1',m2',-⟩:=BY (HK7.out.blk HB4.out)
 go_wp2_with fail
 go_at_call 17
 refine(HQT.out w7 HK7.out).mono ?_
 rintro e w8 ⟨rfl,hk⟩
 have HK8:=hid (HK7.out.trans hk)
 clear hk m0' m1' m2'
 obtain⟨m0',m1',m2',-⟩:=BY (HK8.out.blk HB4.out)
 go_wp2_with fail
 go_at_call 20
 refine(HQC.out w8 HK8.out).mono ?_
 rintro e w9 ⟨rfl,hk⟩
 have HK9:=hid ((HK1.out.trans HK6.out).trans (HK8.out.trans hk))
 clear hk
 go_wp2_with fail
 go_ret
 exact⟨rfl,HK9.out⟩
open Go Go.ChangeShapes Go.WideShapes Go.ChangeAt Go.RowKit Own
mutual
def gW:Gx→Nat
 |.mk _ _ _ nm _ _ kids=>1+nm.length+gWL kids
def gWL:List Gx→Nat
 |[]=>0
 |x::l=>gW x+gWL l
end
mutual
def sW:Gs→Nat
 |.mk _ nm _ _ val into cont xs thn els _ _=>1+nm.length+val.length+into.length+cont.length+gWL xs+sWL thn+sWL els
def sWL:List Gs→Nat
 |[]=>0
 |x::l=>sW x+sWL l
end
def cWL:List Gc→Nat
 |[]=>0
 |c::l=>1+c.name.length+cWL l
def hWL:List (List Gs)→Nat
 |[]=>0
 |l::r=>1+sWL l+hWL r
def pW (p:Gp):Nat:=cWL p.conts+hWL p.threads
section
variable {H : Type}{enc : TypeId×Value→H}{W : World}{base : Nat}{sp : Nat→Bool}{held : Bool}
theorem slice_each {fuel:Nat}{t e:TypeId}{n:Nat}(ht:Tryz.prog.underlying t=some (.slice e))(hn:Tryz.prog.cellsOf e=n)(hn1:0<n){cs:List Value}{x:DataW H×List MemPlace}(h:DataW.trod enc Tryz.prog W base sp held fuel t cs=some x):
  ∃ (p:Option Addr) (len cap:Nat) (ys:List (DataW H×List MemPlace)),cs=[.slice p len cap]∧ys.length=len∧Rows.uptoBulkAll (ys.map (·.1))+1≤Rows.uptoBulk x.1∧
   ∀i (hi:i<ys.length),∃m cs',m<fuel∧DataW.trod enc Tryz.prog W base sp held m e cs'=some ys[i]∧cs'.length=n∧∃g o,p=some ⟨g,o,none⟩∧∀j v,cs'[j]?=some v→W.cell? ⟨g,o+i * n+j,none⟩=some v:=by
 rcases DataW.trod_slice ht h with⟨e4,rfl⟩|⟨a,len,cap,elems,rest,q,hq,e4,rfl,hb,hl,hmax,hel,hee,-,-⟩
 ·exact⟨none,0,0,[],e4,rfl,Nat.le_refl _,fun i hi=>absurd hi (by simp)⟩
 ·obtain⟨b,off,sp'⟩:=a
  refine⟨some ⟨b,off,sp'⟩,len,cap,elems,e4,hel,?_,?_⟩
  ·simp only[Rows.uptoBulk]
   omega
  ·intro i hi
   have h1:=hee i (by omega)
   rw[List.getElem?_eq_getElem hi]at h1
   obtain⟨cs',h2,h3⟩:=Option.bind_eq_some_iff.1 h1
   rw[hn]at h2
   obtain⟨_,hlen',hcell⟩:=World.cells?_some h2
   have hc:∀j v,cs'[j]?=some v→W.cell? (((⟨b,off,sp'⟩:Addr).add (i * n)).add j)=some v:=fun j v hj=>by
    rw[hcell j (by have:=(List.getElem?_eq_some_iff.1 hj).1;omega),hj]
   have hs:sp'=none:=by
    have h10:=hee 0 (by omega)
    rw[List.getElem?_eq_getElem (by omega)]at h10
    obtain⟨cs0,h20,-⟩:=Option.bind_eq_some_iff.1 h10
    rw[hn]at h20
    obtain⟨_,hlen0,hcell0⟩:=World.cells?_some h20
    have h4:=World.cell?_spot ((hcell0 0 (by omega)).trans (List.getElem?_eq_getElem (by omega)))
    simpa [Addr.add]using h4
   subst hs
   refine⟨q,cs',by omega,h3,hlen',b,off,rfl,fun j v hj=>?_⟩
   have h5:=hc j v hj
   rw[add_off,add_off]at h5
   exact h5
theorem bulk_pos (d:DataW H):1≤Rows.uptoBulk d:=by
 cases d with
 |lit l=>cases l<;>simp[Rows.uptoBulk]
 |_=>simp[Rows.uptoBulk]
theorem gW_sum:∀(l:List Gx) (ds:List (DataW H)),l.length=ds.length→(∀i (h:i<l.length) (h':i<ds.length),gW l[i]≤Rows.uptoBulk ds[i])→gWL l≤Rows.uptoBulkAll ds
 |[],[],_,_=>by unfold gWL;omega
 | x::l,d::ds,hl,h=>by
  have h0:=h 0 (by simp) (by simp)
  have hr:=gW_sum l ds (by simpa using hl) fun i a b=>by
   have:=h (i+1) (by simpa using a) (by simpa using b)
   simpa using this
  simp only[List.getElem_cons_zero]at h0
  unfold gWL
  simp only[Rows.uptoBulkAll]
  omega
 |[],d::ds,hl,_=>by simp at hl
 |x::l,[],hl,_=>by simp at hl
theorem sW_sum:∀(l:List Gs) (ds:List (DataW H)),l.length=ds.length→(∀i (h:i<l.length) (h':i<ds.length),sW l[i]≤Rows.uptoBulk ds[i])→sWL l≤Rows.uptoBulkAll ds
 |[],[],_,_=>by unfold sWL;omega
 | x::l,d::ds,hl,h=>by
  have h0:=h 0 (by simp) (by simp)
  have hr:=sW_sum l ds (by simpa using hl) fun i a b=>by
   have:=h (i+1) (by simpa using a) (by simpa using b)
   simpa using this
  simp only[List.getElem_cons_zero]at h0
  unfold sWL
  simp only[Rows.uptoBulkAll]
  omega
 |[],d::ds,hl,_=>by simp at hl
 |x::l,[],hl,_=>by simp at hl
theorem cW_sum:∀(l:List Gc) (ds:List (DataW H)),l.length=ds.length→(∀i (h:i<l.length) (h':i<ds.length),1+l[i].name.length≤Rows.uptoBulk ds[i])→cWL l≤Rows.uptoBulkAll ds
 |[],[],_,_=>by unfold cWL;omega
 | x::l,d::ds,hl,h=>by
  have h0:=h 0 (by simp) (by simp)
  have hr:=cW_sum l ds (by simpa using hl) fun i a b=>by
   have:=h (i+1) (by simpa using a) (by simpa using b)
   simpa using this
  simp only[List.getElem_cons_zero]at h0
  unfold cWL
  simp only[Rows.uptoBulkAll]
  omega
 |[],d::ds,hl,_=>by simp at hl
 |x::l,[],hl,_=>by simp at hl
theorem hW_sum:∀(l:List (List Gs)) (ds:List (DataW H)),l.length=ds.length→(∀i (h:i<l.length) (h':i<ds.length),1+sWL l[i]≤Rows.uptoBulk ds[i])→hWL l≤Rows.uptoBulkAll ds
 |[],[],_,_=>by unfold hWL;omega
 | x::l,d::ds,hl,h=>by
  have h0:=h 0 (by simp) (by simp)
  have hr:=hW_sum l ds (by simpa using hl) fun i a b=>by
   have:=h (i+1) (by simpa using a) (by simpa using b)
   simpa using this
  simp only[List.getElem_cons_zero]at h0
  unfold hWL
  simp only[Rows.uptoBulkAll]
  omega
 |[],d::ds,hl,_=>by simp at hl
 |x::l,[],hl,_=>by simp at hl
theorem gkids_ofB {w:World}{S:Nat→Prop}{p:Option Addr}:∀(l:List Gx) (j:Nat),(∀i (h:i<l.length),∃g o vs,p=some ⟨g,o,none⟩∧S g∧(∀k v,vs[k]?=some v→w.cell? ⟨g,o+(j+i) * 7+k,none⟩=some v)∧GAt w S vs l[i])→FK w S p j l
 |[],_,_=>by unfold FK;trivial
 | x::l,j,h=>by
  unfold FK
  refine⟨?_,gkids_ofB l (j+1) fun i hi=>?_⟩
  ·obtain⟨g,o,vs,h1,h2,h3,h4⟩:=h 0 (by simp)
   exact⟨g,o,vs,h1,h2,h3,h4⟩
  ·obtain⟨g,o,vs,h1,h2,h3,h4⟩:=h (i+1) (by simpa using hi)
   refine⟨g,o,vs,h1,h2,fun k v hk=>?_,by simpa using h4⟩
   rw[show j+1+i=j+(i+1) by omega]
   exact h3 k v hk
instance : Inhabited Gx := ⟨.mk 0 0 0 [] 0 0 []⟩
instance : Inhabited Gs := ⟨.mk 0 [] 0 0 [] [] [] [] [] [] 0 0⟩
instance : Inhabited Gc := ⟨⟨0, [], 0, 0⟩⟩
theorem str_val (s:ByteArray):(Value.string s)=strV s.data.toList:=by
 unfold strV
 cases s
 simp
theorem fitGL_rng {T:Nat→Gx}:∀l:List Nat,(∀i∈l,fitG (T i))→DU (l.map T)
 |[],_=>by unfold DU;trivial
 | x::l,h=>by
  rw[List.map_cons]
  unfold DU
  exact⟨h x (by simp),fitGL_rng l fun y hy=>h y (by simp[hy])⟩
theorem fitNL_rng {T:Nat→Gs}:∀l:List Nat,(∀i∈l,fitN (T i))→DT (l.map T)
 |[],_=>by unfold DT;trivial
 | x::l,h=>by
  rw[List.map_cons]
  unfold DT
  exact⟨h x (by simp),fitNL_rng l fun y hy=>h y (by simp[hy])⟩
theorem wf_le {m:Int}(hm:(Lit.int .i64 m).wf=true):m≤9223372036854775807:=by
 simp only[Lit.wf,Bool.and_eq_true,decide_eq_true_eq]at hm
 exact hm.2
theorem exB_open:∀(fuel:Nat) {cs:List Value}{x:DataW H×List MemPlace},DataW.trod enc Tryz.prog W base sp held fuel 24 cs=some x→
  ∃g:Gx,GAt W (fun _=>True) cs g∧fitG g∧gW g≤Rows.uptoBulk x.1:=by
 intro fuel
 induction fuel using Nat.strongRecOn with
 |_ fuel ih=>
 intro cs x h
 obtain⟨xs,n,rfl,rfl,hlen,hxl,hf⟩:=DataW.trod_struct Tryz.underlying24 h
 rw[show Tryz.prog.cellsOf 24=7 by kernel_rfl]at hlen
 have c3:Tryz.prog.cellsOf 3=1:=by kernel_rfl
 have c9:Tryz.prog.cellsOf 9=1:=by kernel_rfl
 have c6:Tryz.prog.cellsOf 2=1:=by kernel_rfl
 have c2:Tryz.prog.cellsOf 22=1:=by kernel_rfl
 match cs,hlen,xs,hxl with
 | [v0,v1,v2,v3,v4,v5,v6],_,[y0,y1,y2,y3,y4,y5,y6],_=>
  have g0:=hf 0 _ rfl
  have g1:=hf 1 _ rfl
  have g2:=hf 2 _ rfl
  have g3:=hf 3 _ rfl
  have g4:=hf 4 _ rfl
  have g5:=hf 5 _ rfl
  have g6:=hf 6 _ rfl
  simp only[List.getElem?_cons_zero,List.getElem?_cons_succ]at g0 g1 g2 g3 g4 g5 g6
  obtain⟨k,e0,-,_⟩:=DataW.trod_int Tryz.underlying3 g0
  obtain⟨o,e1,-,_⟩:=DataW.trod_int Tryz.underlying3 g1
  obtain⟨m,e2,-,hm⟩:=DataW.trod_int Tryz.underlying2 g2
  obtain⟨s,e3,hy3,_⟩:=DataW.trod_string Tryz.underlying9 g3
  obtain⟨l,e5,-,_⟩:=DataW.trod_int Tryz.underlying3 g5
  obtain⟨c,e6,-,_⟩:=DataW.trod_int Tryz.underlying3 g6
  obtain⟨p,len,cap,ys,e4,hyl,hbk,hys⟩:=slice_each (show Tryz.prog.underlying 22=some (.slice 24) by kernel_rfl) (show Tryz.prog.cellsOf 24=7 by kernel_rfl) (by decide) g4
  cases e0;cases e1;cases e2;cases e3;cases e4;cases e5;cases e6
  have each:∀i,i<ys.length→∃t:Gx,(∃g o vs,p=some ⟨g,o,none⟩∧(∀j v,vs[j]?=some v→W.cell? ⟨g,o+i * 7+j,none⟩=some v)∧GAt W (fun _=>True) vs t∧fitG t)∧∀hi:i<ys.length,gW t≤Rows.uptoBulk ys[i].1:=fun i hi=>by
   obtain⟨q,cs',hq,h3,-,g,o,h4,h5⟩:=hys i hi
   obtain⟨t,ht,hft,hw⟩:=ih q (by omega) h3
   exact⟨t,⟨g,o,cs',h4,h5,ht,hft⟩,fun _=>hw⟩
  obtain⟨T,hT⟩:=Deep.choose_lt each
  refine⟨.mk k o m s.data.toList l c ((List.range ys.length).map T),?_,?_,?_⟩
  ·unfold GAt
   refine⟨p,cap,by rw[str_val,←hyl];simp,gkids_ofB _ 0 fun i hi=>?_⟩
   have hi':i<ys.length:=by simpa using hi
   obtain⟨⟨g,o,vs,h1,h2,h3⟩,-⟩:=hT i hi'
   exact⟨g,o,vs,h1,trivial,fun j v hj=>by rw[Nat.zero_add];exact h2 j v hj,by simpa using h3.1⟩
  ·unfold fitG
   exact⟨wf_le hm,fitGL_rng _ fun i hi=>by obtain⟨⟨-,-,-,-,-,-,h⟩,-⟩:=hT i (by simpa using hi);exact h⟩
  ·have hs:=gW_sum ((List.range ys.length).map T) (ys.map (·.1)) (by simp) fun i h h'=>by
    have hi':i<ys.length:=by simpa using h
    simpa using (hT i hi').2 hi'
   unfold gW
   simp only[List.map_cons,List.map_nil,Rows.uptoBulk,Rows.uptoBulkAll,hy3]
   have:=bulk_pos y0.1
   omega
theorem stB_open:∀(fuel:Nat) {cs:List Value}{x:DataW H×List MemPlace},DataW.trod enc Tryz.prog W base sp held fuel 58 cs=some x→
  ∃g:Gs,SAt W (fun _=>True) cs g∧fitN g∧sW g≤Rows.uptoBulk x.1:=by
 intro fuel
 induction fuel using Nat.strongRecOn with
 |_ fuel ih=>
 intro cs x h
 obtain⟨xs,n,rfl,rfl,hlen,hxl,hf⟩:=DataW.trod_struct Tryz.underlying58 h
 rw[show Tryz.prog.cellsOf 58=12 by kernel_rfl]at hlen
 have c3:Tryz.prog.cellsOf 3=1:=by kernel_rfl
 have c9:Tryz.prog.cellsOf 9=1:=by kernel_rfl
 have c6:Tryz.prog.cellsOf 2=1:=by kernel_rfl
 have c2:Tryz.prog.cellsOf 22=1:=by kernel_rfl
 have c4:Tryz.prog.cellsOf 56=1:=by kernel_rfl
 match cs,hlen,xs,hxl with
 | [v0,v1,v2,v3,v4,v5,v6,v7,v8,v9,v10,v11],_,[y0,y1,y2,y3,y4,y5,y6,y7,y8,y9,y10,y11],_=>
  have g0:=hf 0 _ rfl
  have g1:=hf 1 _ rfl
  have g2:=hf 2 _ rfl
  have g3:=hf 3 _ rfl
  have g4:=hf 4 _ rfl
  have g5:=hf 5 _ rfl
  have g6:=hf 6 _ rfl
  have g7:=hf 7 _ rfl
  have g8:=hf 8 _ rfl
  have g9:=hf 9 _ rfl
  have g10:=hf 10 _ rfl
  have g11:=hf 11 _ rfl
  simp only[List.getElem?_cons_zero,List.getElem?_cons_succ]at g0 g1 g2 g3 g4 g5 g6 g7 g8 g9 g10 g11
  obtain⟨k,e0,-,_⟩:=DataW.trod_int Tryz.underlying3 g0
  obtain⟨nm,e1,z1,_⟩:=DataW.trod_string Tryz.underlying9 g1
  obtain⟨sz,e2,-,hm⟩:=DataW.trod_int Tryz.underlying2 g2
  obtain⟨op,e3,-,_⟩:=DataW.trod_int Tryz.underlying3 g3
  obtain⟨val,e4,z4,_⟩:=DataW.trod_string Tryz.underlying9 g4
  obtain⟨into,e5,z5,_⟩:=DataW.trod_string Tryz.underlying9 g5
  obtain⟨cont,e6,z6,_⟩:=DataW.trod_string Tryz.underlying9 g6
  obtain⟨l,e10,-,_⟩:=DataW.trod_int Tryz.underlying3 g10
  obtain⟨c,e11,-,_⟩:=DataW.trod_int Tryz.underlying3 g11
  obtain⟨p1,n1,cap1,ys1,e7,hyl1,hbk1,hys1⟩:=slice_each (show Tryz.prog.underlying 22=some (.slice 24) by kernel_rfl) (show Tryz.prog.cellsOf 24=7 by kernel_rfl) (by decide) g7
  obtain⟨p2,n2,cap2,ys2,e8,hyl2,hbk2,hys2⟩:=slice_each (show Tryz.prog.underlying 56=some (.slice 58) by kernel_rfl) (show Tryz.prog.cellsOf 58=12 by kernel_rfl) (by decide) g8
  obtain⟨p3,n3,cap3,ys3,e9,hyl3,hbk3,hys3⟩:=slice_each (show Tryz.prog.underlying 56=some (.slice 58) by kernel_rfl) (show Tryz.prog.cellsOf 58=12 by kernel_rfl) (by decide) g9
  cases e0;cases e1;cases e2;cases e3;cases e4;cases e5;cases e6;cases e7;cases e8;cases e9;cases e10;cases e11
  have each1:∀i,i<ys1.length→∃t:Gx,(∃g o vs,p1=some ⟨g,o,none⟩∧(∀j v,vs[j]?=some v→W.cell? ⟨g,o+i * 7+j,none⟩=some v)∧GAt W (fun _=>True) vs t∧fitG t)∧∀hi:i<ys1.length,gW t≤Rows.uptoBulk ys1[i].1:=fun i hi=>by
   obtain⟨q,cs',hq,h3,-,g,o,h4,h5⟩:=hys1 i hi
   obtain⟨t,ht,hft,hw⟩:=exB_open q h3
   exact⟨t,⟨g,o,cs',h4,h5,ht,hft⟩,fun _=>hw⟩
  have each2:∀i,i<ys2.length→∃t:Gs,(∃g o vs,p2=some ⟨g,o,none⟩∧(∀j v,vs[j]?=some v→W.cell? ⟨g,o+i * 12+j,none⟩=some v)∧SAt W (fun _=>True) vs t∧fitN t)∧∀hi:i<ys2.length,sW t≤Rows.uptoBulk ys2[i].1:=fun i hi=>by
   obtain⟨q,cs',hq,h3,-,g,o,h4,h5⟩:=hys2 i hi
   obtain⟨t,ht,hft,hw⟩:=ih q (by omega) h3
   exact⟨t,⟨g,o,cs',h4,h5,ht,hft⟩,fun _=>hw⟩
  have each3:∀i,i<ys3.length→∃t:Gs,(∃g o vs,p3=some ⟨g,o,none⟩∧(∀j v,vs[j]?=some v→W.cell? ⟨g,o+i * 12+j,none⟩=some v)∧SAt W (fun _=>True) vs t∧fitN t)∧∀hi:i<ys3.length,sW t≤Rows.uptoBulk ys3[i].1:=fun i hi=>by
   obtain⟨q,cs',hq,h3,-,g,o,h4,h5⟩:=hys3 i hi
   obtain⟨t,ht,hft,hw⟩:=ih q (by omega) h3
   exact⟨t,⟨g,o,cs',h4,h5,ht,hft⟩,fun _=>hw⟩
  obtain⟨T1,hT1⟩:=Deep.choose_lt each1
  obtain⟨T2,hT2⟩:=Deep.choose_lt each2
  obtain⟨T3,hT3⟩:=Deep.choose_lt each3
  refine⟨.mk k nm.data.toList sz op val.data.toList into.data.toList cont.data.toList ((List.range ys1.length).map T1) ((List.range ys2.length).map T2) ((List.range ys3.length).map T3) l c,?_,?_,?_⟩
  ·unfold SAt
   refine⟨p1,cap1,p2,cap2,p3,cap3,by rw[str_val nm,str_val val,str_val into,str_val cont,←hyl1,←hyl2,←hyl3];simp,gkids_ofB _ 0 fun i hi=>?_,skids_of _ 0 fun i hi=>?_,skids_of _ 0 fun i hi=>?_⟩
   ·have hi':i<ys1.length:=by simpa using hi
    obtain⟨⟨g,o,vs,h1,h2,h3⟩,-⟩:=hT1 i hi'
    exact⟨g,o,vs,h1,trivial,fun j v hj=>by rw[Nat.zero_add];exact h2 j v hj,by simpa using h3.1⟩
   ·have hi':i<ys2.length:=by simpa using hi
    obtain⟨⟨g,o,vs,h1,h2,h3⟩,-⟩:=hT2 i hi'
    exact⟨g,o,vs,h1,trivial,fun j v hj=>by rw[Nat.zero_add];exact h2 j v hj,by simpa using h3.1⟩
   ·have hi':i<ys3.length:=by simpa using hi
    obtain⟨⟨g,o,vs,h1,h2,h3⟩,-⟩:=hT3 i hi'
    exact⟨g,o,vs,h1,trivial,fun j v hj=>by rw[Nat.zero_add];exact h2 j v hj,by simpa using h3.1⟩
  ·unfold fitN
   exact⟨wf_le hm,fitGL_rng _ fun i hi=>by obtain⟨⟨-,-,-,-,-,-,h⟩,-⟩:=hT1 i (by simpa using hi);exact h,
    fitNL_rng _ fun i hi=>by obtain⟨⟨-,-,-,-,-,-,h⟩,-⟩:=hT2 i (by simpa using hi);exact h,
    fitNL_rng _ fun i hi=>by obtain⟨⟨-,-,-,-,-,-,h⟩,-⟩:=hT3 i (by simpa using hi);exact h⟩
  ·have hs1:=gW_sum ((List.range ys1.length).map T1) (ys1.map (·.1)) (by simp) fun i h h'=>by
    have hi':i<ys1.length:=by simpa using h
    simpa using (hT1 i hi').2 hi'
   have hs2:=sW_sum ((List.range ys2.length).map T2) (ys2.map (·.1)) (by simp) fun i h h'=>by
    have hi':i<ys2.length:=by simpa using h
    simpa using (hT2 i hi').2 hi'
   have hs3:=sW_sum ((List.range ys3.length).map T3) (ys3.map (·.1)) (by simp) fun i h h'=>by
    have hi':i<ys3.length:=by simpa using h
    simpa using (hT3 i hi').2 hi'
   unfold sW
   simp only[List.map_cons,List.map_nil,Rows.uptoBulk,Rows.uptoBulkAll,z1,z4,z5,z6]
   omega
theorem ctB_open {fuel:Nat}{cs:List Value}{x:DataW H×List MemPlace}(h:DataW.trod enc Tryz.prog W base sp held fuel 90 cs=some x):
  ∃c:Gc,cs=[.int .i64 c.kind,strV c.name,.int .i64 c.line,.int .i64 c.col]∧1+c.name.length≤Rows.uptoBulk x.1:=by
 obtain⟨xs,n,rfl,rfl,hlen,hxl,hf⟩:=DataW.trod_struct Tryz.underlying90 h
 rw[show Tryz.prog.cellsOf 90=4 by kernel_rfl]at hlen
 have c3:Tryz.prog.cellsOf 3=1:=by kernel_rfl
 have c9:Tryz.prog.cellsOf 9=1:=by kernel_rfl
 match cs,hlen,xs,hxl with
 | [v0,v1,v2,v3],_,[y0,y1,y2,y3],_=>
  have g0:=hf 0 _ rfl
  have g1:=hf 1 _ rfl
  have g2:=hf 2 _ rfl
  have g3:=hf 3 _ rfl
  simp only[List.getElem?_cons_zero,List.getElem?_cons_succ]at g0 g1 g2 g3
  obtain⟨k,e0,-,_⟩:=DataW.trod_int Tryz.underlying3 g0
  obtain⟨nm,e1,z1,_⟩:=DataW.trod_string Tryz.underlying9 g1
  obtain⟨l,e2,-,_⟩:=DataW.trod_int Tryz.underlying3 g2
  obtain⟨c,e3,-,_⟩:=DataW.trod_int Tryz.underlying3 g3
  cases e0;cases e1;cases e2;cases e3
  refine⟨⟨k,nm.data.toList,l,c⟩,by rw[str_val nm],?_⟩
  simp only[List.map_cons,List.map_nil,Rows.uptoBulk,Rows.uptoBulkAll,z1]
  omega
theorem prB_open {fuel:Nat}{cs:List Value}{x:DataW H×List MemPlace}(h:DataW.trod enc Tryz.prog W base sp held fuel 46 cs=some x):
  ∃p:Gp,PAt W (fun _=>True) (.agg cs.toArray) p∧(p.pool≤9223372036854775807∧∀l∈p.threads,DT l)∧pW p≤Rows.uptoBulk x.1:=by
 obtain⟨xs,n,rfl,rfl,hlen,hxl,hf⟩:=DataW.trod_struct Tryz.underlying46 h
 rw[show Tryz.prog.cellsOf 46=3 by kernel_rfl]at hlen
 have c6:Tryz.prog.cellsOf 2=1:=by kernel_rfl
 have c2:Tryz.prog.cellsOf 43=1:=by kernel_rfl
 have c4:Tryz.prog.cellsOf 44=1:=by kernel_rfl
 match cs,hlen,xs,hxl with
 | [v0,v1,v2],_,[y0,y1,y2],_=>
  have g0:=hf 0 _ rfl
  have g1:=hf 1 _ rfl
  have g2:=hf 2 _ rfl
  simp only[List.getElem?_cons_zero,List.getElem?_cons_succ]at g0 g1 g2
  obtain⟨pool,e0,-,hm⟩:=DataW.trod_int Tryz.underlying2 g0
  obtain⟨p1,n1,cap1,ys1,e1,hyl1,hbk1,hys1⟩:=slice_each (show Tryz.prog.underlying 43=some (.slice 90) by kernel_rfl) (show Tryz.prog.cellsOf 90=4 by kernel_rfl) (by decide) g1
  obtain⟨p2,n2,cap2,ys2,e2,hyl2,hbk2,hys2⟩:=slice_each (show Tryz.prog.underlying 44=some (.slice 56) by kernel_rfl) (show Tryz.prog.cellsOf 56=1 by kernel_rfl) (by decide) g2
  cases e0;cases e1;cases e2
  have each1:∀i,i<ys1.length→∃c:Gc,(∃g o,p1=some ⟨g,o,none⟩∧W.cell? ⟨g,o+i * 4,none⟩=some (.int .i64 c.kind)∧W.cell? ⟨g,o+i * 4+1,none⟩=some (strV c.name)∧W.cell? ⟨g,o+i * 4+2,none⟩=some (.int .i64 c.line)∧W.cell? ⟨g,o+i * 4+3,none⟩=some (.int .i64 c.col))∧∀hi:i<ys1.length,1+c.name.length≤Rows.uptoBulk ys1[i].1:=fun i hi=>by
   obtain⟨q,cs',hq,h3,-,g,o,h4,h5⟩:=hys1 i hi
   obtain⟨c,rfl,hw⟩:=ctB_open h3
   exact⟨c,⟨g,o,h4,h5 0 _ rfl,h5 1 _ rfl,h5 2 _ rfl,h5 3 _ rfl⟩,fun _=>hw⟩
  have each2:∀i,i<ys2.length→∃l:List Gs,(∃g o q c,p2=some ⟨g,o,none⟩∧W.cell? ⟨g,o+i,none⟩=some (.slice q l.length c)∧DV W (fun _=>True) q 0 l∧DT l)∧∀hi:i<ys2.length,1+sWL l≤Rows.uptoBulk ys2[i].1:=fun i hi=>by
   obtain⟨q,cs',hq,h3,-,g,o,h4,h5⟩:=hys2 i hi
   obtain⟨p3,n3,cap3,ys3,rfl,hyl3,hbk3,hys3⟩:=slice_each (show Tryz.prog.underlying 56=some (.slice 58) by kernel_rfl) (show Tryz.prog.cellsOf 58=12 by kernel_rfl) (by decide) h3
   have each3:∀i,i<ys3.length→∃t:Gs,(∃g o vs,p3=some ⟨g,o,none⟩∧(∀j v,vs[j]?=some v→W.cell? ⟨g,o+i * 12+j,none⟩=some v)∧SAt W (fun _=>True) vs t∧fitN t)∧∀hi:i<ys3.length,sW t≤Rows.uptoBulk ys3[i].1:=fun i hi=>by
    obtain⟨q,cs',hq,h3,-,g,o,h4,h5⟩:=hys3 i hi
    obtain⟨t,ht,hft,hw⟩:=stB_open q h3
    exact⟨t,⟨g,o,cs',h4,h5,ht,hft⟩,fun _=>hw⟩
   obtain⟨T3,hT3⟩:=Deep.choose_lt each3
   have hs3:=sW_sum ((List.range ys3.length).map T3) (ys3.map (·.1)) (by simp) fun i h h'=>by
    have hi':i<ys3.length:=by simpa using h
    simpa using (hT3 i hi').2 hi'
   refine⟨(List.range ys3.length).map T3,⟨g,o,p3,cap3,h4,?_,skids_of _ 0 fun j hj=>?_,fitNL_rng _ fun i hi=>by obtain⟨⟨-,-,-,-,-,-,h⟩,-⟩:=hT3 i (by simpa using hi);exact h⟩,fun _=>by omega⟩
   ·have h6:=h5 0 _ rfl
    rw[Nat.mul_one,Nat.add_zero]at h6
    rw[h6,←hyl3]
    simp
   ·have hj':j<ys3.length:=by simpa using hj
    obtain⟨⟨g,o,vs,h1,h2,h3⟩,-⟩:=hT3 j hj'
    exact⟨g,o,vs,h1,trivial,fun k v hk=>by rw[Nat.zero_add];exact h2 k v hk,by simpa using h3.1⟩
  obtain⟨T1,hT1⟩:=Deep.choose_lt each1
  obtain⟨T2,hT2⟩:=Deep.choose_lt each2
  have hs1:=cW_sum ((List.range ys1.length).map T1) (ys1.map (·.1)) (by simp) fun i h h'=>by
   have hi':i<ys1.length:=by simpa using h
   simpa using (hT1 i hi').2 hi'
  have hs2:=hW_sum ((List.range ys2.length).map T2) (ys2.map (·.1)) (by simp) fun i h h'=>by
   have hi':i<ys2.length:=by simpa using h
   simpa using (hT2 i hi').2 hi'
  refine⟨⟨pool,(List.range ys1.length).map T1,(List.range ys2.length).map T2⟩,⟨p1,cap1,p2,cap2,by rw[←hyl1,←hyl2];simp,fun i hi=>?_,fun i hi=>?_⟩,⟨wf_le hm,fun l hl=>?_⟩,?_⟩
  ·have hi':i<ys1.length:=by simpa using hi
   obtain⟨⟨g,o,h1,h2,h3,h4,h5⟩,-⟩:=hT1 i hi'
   exact⟨g,o,h1,trivial,by simpa using h2,by simpa using h3,by simpa using h4,by simpa using h5⟩
  ·have hi':i<ys2.length:=by simpa using hi
   obtain⟨⟨g,o,q,c,h1,h2,h3⟩,-⟩:=hT2 i hi'
   exact⟨g,o,q,c,h1,trivial,by simpa using h2,by simpa using h3.1⟩
  ·obtain⟨i,hi,rfl⟩:=List.mem_map.1 hl
   obtain⟨⟨-,-,-,-,-,-,-,h⟩,-⟩:=hT2 i (by simpa using hi)
   exact h
  ·unfold pW
   simp only[List.map_cons,List.map_nil,Rows.uptoBulk,Rows.uptoBulkAll]
   omega
end
mutual
theorem gSize_W:∀x:Gx,CM x≤gW x
 | .mk _ _ _ nm _ _ kids=>by
  unfold CM gW
  have:=gSizeL_W kids
  omega
theorem gSizeL_W:∀l:List Gx,BO l≤gWL l
 |[]=>by unfold BO gWL;omega
 | x::l=>by
  unfold BO gWL
  have:=gSize_W x
  have:=gSizeL_W l
  omega
end
mutual
theorem sSize_W:∀x:Gs,CS x≤sW x
 | .mk _ nm _ _ val into cont xs thn els _ _=>by
  unfold CS sW
  have:=gSizeL_W xs
  have:=sSizeL_W thn
  have:=sSizeL_W els
  omega
theorem sSizeL_W:∀l:List Gs,BN l≤sWL l
 |[]=>by unfold BN sWL;omega
 | x::l=>by
  unfold BN sWL
  have:=sSize_W x
  have:=sSizeL_W l
  omega
end
mutual
theorem fitS_W:∀x:Gs,sW x≤1099511627776→fitS x
 | .mk _ nm _ _ val into cont xs thn els _ _,h=>by
  unfold sW at h
  unfold fitS
  exact⟨by omega,fitSL_W thn (by omega),fitSL_W els (by omega)⟩
theorem fitSL_W:∀l:List Gs,sWL l≤1099511627776→fitSL l
 |[],_=>by unfold fitSL;trivial
 | x::l,h=>by
  unfold sWL at h
  unfold fitSL
  exact⟨fitS_W x (by omega),fitSL_W l (by omega)⟩
end
theorem hSize_W:∀l:List (List Gs),DQ l+l.length≤hWL l
 |[]=>by unfold DQ hWL;simp
 | x::l=>by
  unfold DQ hWL
  have:=sSizeL_W x
  have:=hSize_W l
  rw[LB]
  omega
theorem cLen_W:∀l:List Gc,l.length≤cWL l
 |[]=>by unfold cWL;simp
 | x::l=>by
  unfold cWL
  have:=cLen_W l
  rw[LB]
  omega
theorem hW_mem:∀{l:List (List Gs)}{x:List Gs},x∈l→sWL x≤hWL l
 | y::l,x,h=>by
  unfold hWL
  rcases List.mem_cons.1 h with rfl|h
  ·omega
  ·have:=hW_mem h
   omega
theorem prog_fits {p:Gp}{N:Nat}(h:pW p≤N)(hN:N≤1048576):DQ p.threads≤1048576∧p.conts.length≤1048576∧p.threads.length≤1048576∧∀l∈p.threads,fitSL l∧BN l≤1048576:=by
 unfold pW at h
 have h1:=hSize_W p.threads
 have h2:=cLen_W p.conts
 refine⟨by omega,by omega,by omega,fun l hl=>?_⟩
 have h3:=hW_mem hl
 have h4:=sSizeL_W l
 exact⟨fitSL_W l (by omega),by omega⟩
open Go
theorem light_small {p:Gp}(hl:lightP p=true)(hf:(p.pool≤9223372036854775807∧∀l∈p.threads,DT l)∧∀l∈p.threads,fitSL l):Small p∧DQ p.threads≤90000:=by
 unfold lightP at hl
 simp only[Bool.and_eq_true,decide_eq_true_eq]at hl
 obtain⟨h1,h2,-,h4⟩:=hl
 obtain⟨h5,h6⟩:=ltL_size _ _ h4
 have key:∀l:List (List Gs),(∀x∈l,swL 0 0 x≤2000)→DQ l≤(l.map (swL 0 0)).sum:=by
  intro l
  induction l with
  |nil=>intro _;exact Nat.le_refl _
  | cons x l ih=>
   intro h
   have a1:=ih fun y hy=>h y (List.mem_cons_of_mem _ hy)
   have a2:=(swL_of x 0 0 (by have:=h x List.mem_cons_self;omega)).1
   simp only[List.map_cons,List.sum_cons,DQ]
   omega
 have h7:=key _ h5
 have h8:DQ p.threads≤2000:=by omega
 exact⟨⟨by omega,by omega,by omega,hf.1.1,hf.2,hf.1.2⟩,by omega⟩
end Go.Proofs.YtomlffobbkcmdaaGreatDoor
