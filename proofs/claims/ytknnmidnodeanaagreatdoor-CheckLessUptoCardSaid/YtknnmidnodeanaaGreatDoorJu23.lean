import Derived.Test.YtknnmidnodeanaaGreatDoorJu22
import Derived.Orders
set_option maxHeartbeats 16000000
set_option maxRecDepth 4000
namespace Go.Proofs.YtknnmidnodeanaaGreatDoor
open Go Go.RowKit Own
open Go.Lib (hid)
theorem contI_some {cs:List Gc}{nm:List UInt8}{i:Nat}(h:CZ cs nm=some i):contI cs nm=i∧i<cs.length:=by
 refine⟨by unfold contI;rw[h],?_⟩;unfold CZ at h;exact(List.findIdx?_eq_some_iff_getElem.1 h).1
theorem callF_at {cs:List Gc}{s:Sc}{op li co:Int}{val into cont:List UInt8}{i:Nat}(h:CZ cs cont=some i)(hi:i<cs.length):clF cs s op li co val into cont=
  if fitsB op cs[i].kind=false then .error ⟨2,li,co⟩ else if (val≠[]∧told s val≠1)∨told s into≠1 then .error ⟨6,li,co⟩ else if val=into then .error ⟨2,li,co⟩ else .ok { s with calls:=s.calls+1 }:=by
 unfold clF;rw[h];simp only[Option.bind_some,List.getElem?_eq_getElem hi]
theorem pat_keep {E:Nat→Prop}{w w':World}{S:Nat→Prop}{v:Value}{p:Gp}(h:PAt w S v p)(k:BA E w w')(hE:∀b,S b→¬E b):PAt w' S v p:=by
 obtain⟨p1,c1,p2,c2,h1,h2,h3⟩:=h;exact⟨p1,c1,p2,c2,h1,h2.keep k hE,h3.keep k hE⟩
theorem call_any (p:Gp)(hl:p.conts.length≤1099511627776)(k sz op li co:Int)(nm val into cont:List UInt8)(xs:List Gx)(thn els:List Gs)(w:World)(B M:Nat)(F:Nat→Prop)(s:Sc)(S T:Nat→Prop)(pv:Value)(vs:List Value)
    (hSF:∀b,S b→¬F b) (hca:s.calls≤1099511627776) (hsc:ScAt w B M F s) (hp:PAt w S pv p) (hx:SAt w T vs (.mk k nm sz op val into cont xs thn els li co)):
    Calls Tryz.prog 56 #[.pointer (some ⟨B,0,none⟩),pv,.agg vs.toArray] w fun e w'=>StepF w B M F (clF p.conts s op li co val into cont) e w':=by
  obtain⟨p1,c1,p2,c2,rfl,hc,hth⟩:=id hp;unfold SAt at hx;obtain⟨px,cx,pt,ct,pe,ce,rfl,-⟩:=hx;obtain⟨S1,hS1⟩:∃S,strV nm=.string S:=⟨_,rfl⟩;obtain⟨N,hN⟩:∃N:Int,(p.pool:Int)=N:=⟨_,rfl⟩;obtain⟨n2,hn2⟩:∃n,p.threads.length=n:=⟨_,rfl⟩;have HP:=hid hp;rw[hN,hn2]at HP;rw[hS1,hN,hn2];obtain⟨V1,C1,hV1,hC1,hb1,hk1,hs1⟩:=BD w (.cells #[.int .i64 N,.slice p1 p.conts.length c1,.slice p2 n2 c2] 25);obtain⟨V,C2,hV,hC2,hb2,hk2,hs2⟩:=BD V1 (.cells #[.int .i64 k,.string S1,.int .i64 sz,.int .i64 op,strV val,strV into,strV cont,.slice px xs.length cx,.slice pt thn.length ct,.slice pe els.length ce,.int .i64 li,.int .i64 co] TSm);have h12:C1+1=C2:=by omega
  have hkV:=hk1.trans hk2;obtain⟨ps,cs,pa,ca,hB,hlt,hM,hrv,hra,hdj,f1,f2,f3,f4⟩:=hsc;have hBl:=(AG.1 hB).1;have HSV:=hid (And.intro hB (And.intro hlt (And.intro hM (And.intro hrv (And.intro hra (And.intro hdj (And.intro f1 (And.intro f2 (And.intro f3 f4)))))))));have hBV:=hkV.blk hB;obtain⟨z0,z1,z2,z3⟩:=blk4s hBV;have zf:V.frozen? ⟨B,3,none⟩=false:=by simp[World.frozen?,hBV]
  have hWc:IntKind.i64.wrap ((s.calls:Int)+1)=(s.calls:Int)+1:=IntWalk.i64_in _ (by omega)
  obtain⟨X,hX,hXB,hkX⟩:∃X,X=V.setCell ⟨B,3,none⟩ (.int .i64 ((s.calls:Int)+1))∧X.heap[B]?=some (.cells #[.map (some M),.slice ps s.vars.length cs,.slice pa s.arrays.length ca,.int .i64 ((s.calls:Int)+1)] TScp (0,0))∧BA (fun b=>b=B) V X:=by
    have h0:=put1 (i:=3) hBV (.int .i64 ((s.calls:Int)+1));simp only[LS]at h0;exact⟨_,rfl,h0,BA.setCell _ _ _ rfl⟩
  have hkb:∀b,w.heap.size≤b→b<V.heap.size→X.heap[b]?=V.heap[b]?:=fun b h h'=>hkX.block b h' (by omega);obtain⟨m0,m1,m2,-⟩:=BS ((hkb C1 (by omega) (by omega)).trans (hk2.blk hb1));obtain⟨e0,e1,e2,e3,e4,e5,e6,e7,e8,e9,e10,e11⟩:=BK ((hkb C2 (by omega) (by omega)).trans hb2);obtain⟨x0,x1,x2,x3⟩:=blk4s hXB;obtain⟨t1,ht1⟩:∃t:Nat,told s val=t:=⟨_,rfl⟩;obtain⟨t2,ht2⟩:∃t:Nat,told s into=t:=⟨_,rfl⟩;have hMX:ToldAt X M s:=hM.of_same ((hkX.block M (by have:=hkV.size;omega) (by omega)).trans (hkV.block M hM.lt fun e=>e))
  have HF:=hid (show ∀w',BA (fun _=>False) X w'→(w'.cell? ⟨C2,3,none⟩=some (.int .i64 op)∧w'.cell? ⟨C2,4,none⟩=some (strV val)∧w'.cell? ⟨C2,5,none⟩=some (strV into)∧w'.cell? ⟨C2,6,none⟩=some (strV cont)∧w'.cell? ⟨C2,10,none⟩=some (.int .i64 li)∧w'.cell? ⟨C2,11,none⟩=some (.int .i64 co))∧
      (w'.cell? ⟨C1,0,none⟩=some (.int .i64 N)∧w'.cell? ⟨C1,1,none⟩=some (.slice p1 p.conts.length c1)∧w'.cell? ⟨C1,2,none⟩=some (.slice p2 n2 c2))∧
      w'.cell? ⟨B,0,none⟩=some (.map (some M))∧(Instr.lookup TMp (.map (some M)) (strV val) false).run Tryz.prog w'=.ok (.int .i64 t1) w'∧(Instr.lookup TMp (.map (some M)) (strV into) false).run Tryz.prog w'=.ok (.int .i64 t2) w' from fun w' hk=>by
    have hm:=hMX.of_same (hk.block M hMX.lt fun e=>e);exact⟨⟨hk.stay e3,hk.stay e4,hk.stay e5,hk.stay e6,hk.stay e10,hk.stay e11⟩,⟨hk.stay m0,hk.stay m1,hk.stay m2⟩,hk.stay x0,by rw[←ht1];exact hm.look val,by rw[←ht2];exact hm.look into⟩)
  have hkWX:BA (fun b=>b=B) w X:=(hkV.mono fun _ e=>e.elim).trans hkX;have HCX:=hid (show GCts X (fun b=>S b∧b≠B) p1 p.conts from(hc.keep hkWX fun b hb e=>hSF b hb (by rw[show b=B from e];exact f1)).mono fun b hb=>⟨hb,fun e=>hSF b hb (by rw[e];exact f1)⟩)
  have HFIN:=hid (show ∀W,BA (fun _=>False) X W→clF p.conts s op li co val into cont=.ok { s with calls:=s.calls+1 }→StepF w B M F (clF p.conts s op li co val into cont) (.returned (.tuple #[])) W from fun W hk hf=>by
    have hkF:BA F w W:=(hkWX.mono fun b e=>by rw[e];exact f1).trans (hk.mono fun _ e=>e.elim);refine StepF.ok hkF hf ⟨ps,cs,pa,ca,by simpa using hk.blk hXB,hlt,(show ToldAt W M s from hMX.of_same (hk.block M hMX.lt fun e=>e)),?_,?_,hdj,.inl f1,.inl f2,fun b hb=>.inl (f3 b hb),fun b hb=>.inl (f4 b hb)⟩
    · exact DK hrv fun b hb=>by
        have h1:=row_lt hrv (CL.1 hb);exact(hk.block b (by have:=hkWX.size;omega) fun e=>e).trans (hkWX.block b h1.2 (by omega))
    · exact DK hra fun b hb=>by
        have h1:=row_lt hra (CL.1 hb);exact(hk.block b (by have:=hkWX.size;omega) fun e=>e).trans (hkWX.block b h1.2 (by omega)))
  have HERR:=hid (show ∀W er,BA (fun _=>False) X W→clF p.conts s op li co val into cont=.error ⟨er,li,co⟩→StepF w B M F (clF p.conts s op li co val into cont) (.panicked (fwC er li co)) W from fun W er hk hf=>
    StepF.err ((hkWX.mono fun b e=>by rw[e];exact f1).trans (hk.mono fun _ e=>e.elim)) hf)
  have HPX:=hid (pat_keep HP.out hkWX fun b hb e=>hSF b hb (by rw[show b=B from e];exact f1));obtain⟨q,hq⟩:∃q:Int,contI p.conts cont=q:=⟨_,rfl⟩
  have HCT:=hid (show ∀w',BA (fun _=>False) X w'→Calls Tryz.prog 22 #[.agg #[.int .i64 N,.slice p1 p.conts.length c1,.slice p2 n2 c2],strV cont] w' fun e w''=>e=.returned (.int .i64 q)∧BA (fun _=>False) w' w'' from fun w' hk=>by
    have:=cont_any p cont hl w' S _ (CG HPX.out hk);rw[hq]at this;exact this)
  have HQ:=hid hq;have HT1:=hid ht1;have HT2:=hid ht2;have hb1c:(C1:Nat)<C2:=by omega
  clear HP hp hc hth hb1 hb2 hk1 hk2 hs1 hs2 hkV hB hlt hM hrv hra hdj f1 f2 f3 f4 hBl hBV hXB hkX hkb hMX hkWX e0 e1 e2 e3 e4 e5 e7 e8 e9 x0 x1 x2 x3 z0 z1 z2 hS1 hN hn2 hq ht1 ht2 HSV hSF hca hb1c;have HE:=hid (And.intro m0 (And.intro m1 (And.intro m2 (And.intro e6 (And.intro e10 e11)))));clear m0 m1 m2 e6 e10 e11;unfold strV at HF HCT hV ⊢;go_enter Tryz.func56,Tryz.ntmps56;go_upto_region 1 with fail;rw[←hV1,←hC1,←hV,h12];clear hV1 hC1 hV hC2 h12;go_upto_region 2 with fail;rw[←hX];clear hX z3 zf hWc;obtain⟨m0,m1,m2,e6,e10,e11⟩:=HE.out;clear HE;unfold strV at e6;go_upto_region 3 with (go_at_call 22;refine(HCT.out _ (BA.refl _ _)).mono ?_;rintro e w3 ⟨rfl,hk3⟩;have HK3:=hid hk3;clear hk3);clear m0 m1 m2 e6 e10 e11;have HBY:=hid (fun (er:Int) W b=>bad_any2 b W er li co);simp only[fwC,fwV,TFw]at HBY
  cases hci:CZ p.conts cont with
  | none=>
    have hcf:clF p.conts s op li co val into cont=.error ⟨6,li,co⟩:=by unfold clF;rw[hci];rfl
    have hqv:q=-1:=by rw[←HQ.out];unfold contI;rw[hci]
    subst hqv;have HCF:=hid hcf;obtain⟨⟨y3,y4,y5,y6,y10,y11⟩,-⟩:=HF.out w3 HK3.out;clear hci hcf HF HCT HFIN;go_wp2_with (go_at_call 40;refine(HBY.out 6 _ _).mono ?_;rintro e w5 ⟨rfl,rfl⟩);exact⟨rfl,HERR.out _ 6 HK3.out HCF.out⟩
  | some i=>
    obtain⟨hqi,hil⟩:=contI_some hci;have hqv:q=(i:Int):=by rw[←HQ.out,hqi]
    subst hqv;have hcf:=callF_at (s:=s) (op:=op) (li:=li) (co:=co) (val:=val) (into:=into) hci hil;obtain⟨g,o,hpp,-,-⟩:=HCX.out i hil;subst hpp;obtain⟨K,hK⟩:∃K:Int,p.conts[i].kind=K:=⟨_,rfl⟩;obtain⟨fb,hfb⟩:∃b,fitsB op K=b:=⟨_,rfl⟩
    have HKD:=hid (show ∀w',BA (fun _=>False) X w'→w'.cell? ⟨g,o+i * 4,none⟩=some (.int .i64 K)from fun w' hk=>by
      obtain⟨g',o',h1,-,h2,-⟩:=HCX.out i hil;simp only[Option.some.injEq,Addr.mk.injEq,and_true]at h1;obtain⟨rfl,rfl⟩:=h1;rw[←hK];exact hk.stay h2)
    have HFT:=hid (fun w'=>fits_any w' op K);rw[hfb]at HFT;rw[hK,hfb]at hcf;have HE2:=hid (show (!fb)=true→∀w',BA (fun _=>False) X w'→StepF w B M F (clF p.conts s op li co val into cont) (.panicked (fwC 2 li co)) w' from fun hb w' hk=>HERR.out w' 2 hk (by rw[hcf,if_pos (by simpa using hb)]));have HCF:=hid (show (!fb)=false→clF p.conts s op li co val into cont=if (val≠[]∧told s val≠1)∨told s into≠1 then .error ⟨6,li,co⟩ else if val=into then .error ⟨2,li,co⟩ else .ok { s with calls:=s.calls+1 } from fun hb=>by rw[hcf,if_neg (by simpa using hb)]);have hi0:¬((i:Int)<0):=by omega
    have hi0':(0:Int)≤i:=by omega
    have hili:(i:Int)<p.conts.length:=by omega
    obtain⟨⟨y3,y4,y5,y6,y10,y11⟩,-⟩:=HF.out w3 HK3.out;clear hci hqi hcf hK hfb HCX HPX HQ HCT;go_upto_region 4 with (go_at_call 40;refine(HBY.out 6 _ false).mono ?_;rintro e w5 ⟨rfl,rfl⟩);clear y3 y4 y5 y6 y10 y11;refine OwnX.CN (fun ch w'=>ch=fwC 2 li co∧(!fb)=true∧BA (fun _=>False) X w') (fun ch a' w' hd hx=>by obtain⟨rfl,hb,hk⟩:=hx;exact⟨hd.1,HE2.out hb w' hk⟩) (by kernel_rfl) (fun i=>[[],[0],[],[2],[],[2,3,4],[2,3,4,5],[2,3,4,5,6],[0,1,2,3,4,5,6,7],[0,1,2,3,4,5,6,7,8],[],[10],[],[12],[0,1,2,3,4,5,6,7,8,9,10,11,12,13]].getD i []) (fun _=>[]) (fun _=>[]) [14] (by kernel_rfl) (fun i=>if i=8 then some (BN (.bool fb)) else if i=14 then some (sBad (!fb)) else none) ?_
    iterate 8 (first
      |(apply OwnX.BZ rfl;simp only[Act.put,LS])
      |( apply OwnX.BC rfl rfl;focus (intro w' hk;obtain⟨⟨y3,y4,y5,y6,y10,y11⟩,⟨q0,q1,q2⟩,z0,l1,l2⟩:=HF.out w' ((HK3.out.trans (BA.drew (fun _=>False) _)).trans hk);have yk:=(HKD.out _ ((HK3.out.trans (BA.drew (fun _=>False) _)).trans hk));go_simp;with_reducible rfl)
         simp only[Act.put,LS]))
    refine OwnX.BE rfl rfl (OwnX.CU.of (BR 72 #[.int .i64 op,.int .i64 K] (fun w=>by go_simp) ⟨default,trivial⟩ (fun g _=>BX _) fun w' hk _ _=>(HFT.out w').mono ?_)) fun g0 _=>?_
    · rintro e w'' ⟨rfl,rfl⟩;exact⟨default,trivial,rfl,BA.refl _ _,fun b h=>h.elim,trivial⟩
    simp only[BN,Act.put,LS]
    iterate 5 (first
      |(apply OwnX.BZ rfl;simp only[Act.put,LS])
      |( apply OwnX.BC rfl rfl;focus (intro w' hk;obtain⟨⟨y3,y4,y5,y6,y10,y11⟩,⟨q0,q1,q2⟩,z0,l1,l2⟩:=HF.out w' ((HK3.out.trans (BA.drew (fun _=>False) _)).trans hk);have yk:=(HKD.out _ ((HK3.out.trans (BA.drew (fun _=>False) _)).trans hk));go_simp;with_reducible rfl)
         simp only[Act.put,LS]))
    refine OwnX.BE rfl rfl (DD (!fb) 2 li co (fun w=>by kernel_rfl) fun w' hk hb=>⟨rfl,hb,(HK3.out.trans (BA.drew (fun _=>False) _)).trans hk⟩) fun g _=>?_;refine OwnX.BP ?_;intro W4 hk9 hF hG;have hb0:(!fb)=false:=(hF 14 (by simp)).1;have hk4:=(HK3.out.trans (BA.drew (fun _=>False) _)).trans hk9;clear hF hG hk9;simp only[sBad,Act.put,LS];obtain⟨b5,hb5⟩:∃b:Bool,((!(val.isEmpty) && ((t1:Int) != 1)) || ((t2:Int) != 1))=b:=⟨_,rfl⟩
    have hiff:b5=true↔((val≠[]∧told s val≠1)∨told s into≠1):=by
      rw[←hb5,HT1.out,HT2.out];simp only[Bool.or_eq_true,Bool.and_eq_true,Bool.not_eq_true',List.isEmpty_eq_false_iff,bne_iff_ne,ne_eq];constructor
      · rintro (⟨h1,h2⟩|h)
        · exact .inl ⟨h1,fun e=>h2 (by omega)⟩
        · exact .inr fun e=>h (by omega)
      · rintro (⟨h1,h2⟩|h)
        · exact .inl ⟨h1,fun e=>h2 (by omega)⟩
        · exact .inr fun e=>h (by omega)
    have HE6:=hid (show b5=true→∀w',BA (fun _=>False) X w'→StepF w B M F (clF p.conts s op li co val into cont) (.panicked (fwC 6 li co)) w' from fun hb w' hk=>HERR.out w' 6 hk (by rw[HCF.out hb0,if_pos (hiff.1 hb)]));have HCF2:=hid (show b5=false→clF p.conts s op li co val into cont=if val=into then .error ⟨2,li,co⟩ else .ok { s with calls:=s.calls+1 } from fun hb=>by rw[HCF.out hb0,if_neg (fun h=>by rw[hiff.2 h]at hb;cases hb)]);have HB5:=hid hb5;have HK5:=hid hk4;clear hb5 hiff hb0 hk4 HCF HE2 HKD HFT HT1 HT2;go_upto_region 5 with fail;go_cut [67]from 40 to 67 (fun v67 wx=>b5=false∧BA (fun _=>False) X wx)
    case first=>
      obtain⟨bv,hbv⟩:∃b,val.isEmpty=b:=⟨_,rfl⟩;obtain⟨b1,hb1⟩:∃b,((t1:Int) != 1)=b:=⟨_,rfl⟩;obtain⟨b2,hb2⟩:∃b,((t2:Int) != 1)=b:=⟨_,rfl⟩;have HBB:=hid (show b5=((!bv && b1) || b2) by rw[←HB5.out,hbv,hb1,hb2])
      cases bv
      · cases b1
        · refine OwnX.CN (fun ch w'=>ch=fwC 6 li co∧b2=true∧BA (fun _=>False) X w') (fun ch a' w' hd hx=>by obtain⟨rfl,hb,hk⟩:=hx;exact⟨hd.1,HE6.out (by rw[HBB.out];exact hb) w' hk⟩) (by kernel_rfl) DL8 (fun _=>[]) (fun _=>[]) [27] (by kernel_rfl) (fun i=> if i=27 then some (sBad b2) else none) ?_
          iterate 27 (first
            |(apply OwnX.BZ rfl;simp only[Act.put,LS])
            |( apply OwnX.BC rfl rfl;focus (intro w' hk;obtain⟨⟨y3,y4,y5,y6,y10,y11⟩,⟨q0,q1,q2⟩,z0,l1,l2⟩:=HF.out w' ((HK5.out.trans (BA.drew (fun _=>False) _)).trans hk);go_simp;with_reducible rfl)
               simp only[Act.put,LS]))
          refine OwnX.BE rfl rfl (DD b2 6 li co (fun w=>by kernel_rfl) fun w' hk hb=>⟨rfl,hb,(HK5.out.trans (BA.drew (fun _=>False) _)).trans hk⟩) fun g _=>?_;refine OwnX.BP ?_;intro W4 hk9 hF hG;have hb0:b2=false:=(hF 27 (by simp)).1;have hk4:=(HK5.out.trans (BA.drew (fun _=>False) _)).trans hk9;clear hF hG hk9;simp only[sBad,Act.put,LS];go_wp2_with fail
          go_meet
          exact⟨by rw[HBB.out];exact hb0,hk4⟩
        · refine OwnX.CN (fun ch w'=>ch=fwC 6 li co∧true=true∧BA (fun _=>False) X w') (fun ch a' w' hd hx=>by obtain⟨rfl,hb,hk⟩:=hx;exact⟨hd.1,HE6.out (by rw[HBB.out];rfl) w' hk⟩) (by kernel_rfl) DL8 (fun _=>[]) (fun _=>[]) [27] (by kernel_rfl) (fun i=> if i=27 then some (sBad true) else none) ?_
          iterate 27 (first
            |(apply OwnX.BZ rfl;simp only[Act.put,LS])
            |( apply OwnX.BC rfl rfl;focus (intro w' hk;obtain⟨⟨y3,y4,y5,y6,y10,y11⟩,⟨q0,q1,q2⟩,z0,l1,l2⟩:=HF.out w' ((HK5.out.trans (BA.drew (fun _=>False) _)).trans hk);go_simp;with_reducible rfl)
               simp only[Act.put,LS]))
          refine OwnX.BE rfl rfl (DD true 6 li co (fun w=>by kernel_rfl) fun w' hk hb=>⟨rfl,by trivial,(HK5.out.trans (BA.drew (fun _=>False) _)).trans hk⟩) fun g _=>?_;refine OwnX.BP ?_;intro W4 hk9 hF hG;have hb0:true=false:=(hF 27 (by simp)).1;have hk4:=(HK5.out.trans (BA.drew (fun _=>False) _)).trans hk9;clear hF hG hk9;simp only[sBad,Act.put,LS];exact absurd hb0 (by decide)
      · refine OwnX.CN (fun ch w'=>ch=fwC 6 li co∧b2=true∧BA (fun _=>False) X w') (fun ch a' w' hd hx=>by obtain⟨rfl,hb,hk⟩:=hx;exact⟨hd.1,HE6.out (by rw[HBB.out];exact hb) w' hk⟩) (by kernel_rfl) DL8 (fun _=>[]) (fun _=>[]) [27] (by kernel_rfl) (fun i=> if i=27 then some (sBad b2) else none) ?_
        iterate 27 (first
          |(apply OwnX.BZ rfl;simp only[Act.put,LS])
          |( apply OwnX.BC rfl rfl;focus (intro w' hk;obtain⟨⟨y3,y4,y5,y6,y10,y11⟩,⟨q0,q1,q2⟩,z0,l1,l2⟩:=HF.out w' ((HK5.out.trans (BA.drew (fun _=>False) _)).trans hk);go_simp;with_reducible rfl)
             simp only[Act.put,LS]))
        refine OwnX.BE rfl rfl (DD b2 6 li co (fun w=>by kernel_rfl) fun w' hk hb=>⟨rfl,hb,(HK5.out.trans (BA.drew (fun _=>False) _)).trans hk⟩) fun g _=>?_;refine OwnX.BP ?_;intro W4 hk9 hF hG;have hb0:b2=false:=(hF 27 (by simp)).1;have hk4:=(HK5.out.trans (BA.drew (fun _=>False) _)).trans hk9;clear hF hG hk9;simp only[sBad,Act.put,LS];go_wp2_with fail
        go_meet
        exact⟨by rw[HBB.out];exact hb0,hk4⟩
    case rest=>
      obtain⟨hbf,hkx⟩:=hcut;have HC:=hid (HCF2.out hbf);have HK6:=hid hkx;obtain⟨⟨y3,y4,y5,y6,y10,y11⟩,-⟩:=HF.out wc hkx;clear hbf hkx HCF2 HE6 HB5 HF;by_cases hvi:val=into
      · subst hvi;have HC2:=hid (show clF p.conts s op li co val val cont=.error ⟨2,li,co⟩ by rw[HC.out,if_pos rfl]);clear HC;go_wp2_with (go_at_call 40;refine(HBY.out 2 _ true).mono ?_;rintro e w5 ⟨rfl,rfl⟩);exact⟨rfl,HERR.out _ 2 HK6.out HC2.out⟩
      · have HC2:=hid (show clF p.conts s op li co val into cont=.ok { s with calls:=s.calls+1 } by rw[HC.out,if_neg hvi]);have hvb:(val==into)=false:=BF.2 hvi;clear HC hvi;go_wp2_with (go_at_call 40;refine(HBY.out 2 _ false).mono ?_;rintro e w5 ⟨rfl,rfl⟩)
        go_end0
        exact HFIN.out _ HK6.out HC2.out
end Go.Proofs.YtknnmidnodeanaaGreatDoor
namespace Go.Proofs.YtknnmidnodeanaaGreatDoor.Rf
open Go Go.RowKit
open Go.Lib (hid)
variable {P : Program}{n : Nat}
def endP (P:Program)(l:Nat)(R:Ending→World→Prop):Exit→Act→World→Prop
 |.normal,_,w=>∃v w',(Instr.endRound l none).run P w=.ok v w'∧R (.returned v) w'
 |.panic ch,a,w=>a.defers=[]∧R (.panicked ch) w
 |_,_,_=>False
theorem round_of {F:Fence}{l:Nat}{f:FuncId}{tmps:Array Value}{assign body:Code}{w:World}{R:Ending→World→Prop}(hF:F.fn f)(hfn:∃fn,P.funcs[f]?=some fn)
  (h:assign.wpIn (F.inRound l) n P (Exit.then (fun a₁ w₁=>∃w₂,(Instr.beginRound l).run P w₁=.ok () w₂∧body.wpIn (F.inRound l) n P (endP P l R) a₁ w₂) (fun _ _ _=>False))
   { tmps:=tmps,defers:=[] } w):
  RoundIn F n P l f tmps assign body w R:=by
 refine⟨hF,fun c cs hr=>?_⟩
 let b:Frame:={ (default:Frame)with fn:=f,kind:=.normal,roundOf:=some l }
 have hb0:Frame.round l f tmps assign body .normal=b.atR { tmps:=tmps,defers:=[] } [.code assign,.beginRound,.code body]:=by
  simp[Frame.round,Frame.atR,b]
 have hr':(F.inRound l).room ((c::cs).length+1+n):=hr;have hF':(F.inRound l).fn b.fn:=hF;obtain⟨e,a₁,w₁,hq,harr⟩:=h b [.beginRound,.code body] (c::cs) rfl hF' hr';rw[←hb0]at harr
 cases e with
 | normal=>
  obtain⟨w₂,hbr,hbody⟩:=hq
  have s1:StepsIn (Machine.fenced P (F.inRound l)) P (lone (b.atR a₁ [.beginRound,.code body]) (c::cs) w₁) (lone (b.atR a₁ [.code body]) (c::cs) w₂):=
   .one (fenced_calm (fr:=b.atR a₁ [.beginRound,.code body]) hF' hr' rfl) (stepR_beginRound rfl hbr)
  obtain⟨e₂,a₂,w₃,hq₂,harr₂⟩:=hbody b [] (c::cs) rfl hF' hr'
  cases e₂ with
  | normal=>
   obtain⟨v,w₄,hend,hR⟩:=hq₂;exact⟨.returned v,w₄,hR,(StepsIn.trans harr s1).trans (StepsIn.trans harr₂ (.one (fenced_calm (fr:=b.atR a₂ []) hF' hr' rfl) (stepR_round_end rfl rfl hend)))⟩
  | panic ch=>
   obtain⟨hd,hR⟩:=hq₂;obtain⟨todo,hs⟩:=harr₂;have hl:Frame.leaving P { b.atR a₂ todo with mode:=.panicking ch } w₃ (.panicked ch):=⟨rfl,hd,hfn⟩
   have hone:StepsIn (Machine.fenced P (F.inRound l)) P (lone { b.atR a₂ todo with mode:=.panicking ch } (c::cs) w₃) (lone (c.raise ch) cs w₃):=
    .one (fenced_leaving (n:=n) (fr:={ b.atR a₂ todo with mode:=.panicking ch }) hF' hr' hl) (step_leave_panicked hl)
   exact⟨.panicked ch,w₃,hR,(StepsIn.trans harr s1).trans (StepsIn.trans hs hone)⟩
  |ret=>exact hq₂.elim
  |exit id=>exact hq₂.elim
  |goto t=>exact hq₂.elim
  |outgrown=>exact hq₂.elim
 |exit id=>exact hq.elim
 |goto t=>exact hq.elim
 |ret=>exact hq.elim
 |panic chain=>exact hq.elim
 |outgrown=>exact hq.elim
def rec (fn:FuncId)(tmps:Array Value)(ps:Array Tmp)(assign body:Code)(D:Nat)(st:LoopState)(pe:Option Code):Loop:=
 { state:=st,pending:=pe,fn,tmps,params:=ps,assign,body,defers:=D }
theorem yield_at {F:Fence}{L D:Nat}{fn:FuncId}{tmps:Array Value}{ps:Array Tmp}{assign body:Code}{args:Array Value}{W:World}{R:Ending→World→Prop}(hF:F.fn fn)(hfn:∃f,P.funcs[fn]?=some f)
  (hs:args.size=ps.size) (hL:W.heap[L]?=some (.loop (rec fn tmps ps assign body D .ready none)))
  (h:assign.wpIn (F.inRound L) n P (Exit.then (fun a₁ w₁=>w₁.heap[L]?=some (.loop (rec fn tmps ps assign body D .ready none))∧
   body.wpIn (F.inRound L) n P (fun e a w=>match e with
    |.normal=>w.heap[L]?=some (.loop (rec fn tmps ps assign body D .busy none))∧R (.returned (.bool true)) (w.putObj L (.loop (rec fn tmps ps assign body D .ready none)))
    |.panic ch=>a.defers=[]∧R (.panicked ch) w
    |_=>False) a₁ (w₁.putObj L (.loop (rec fn tmps ps assign body D .busy none)))) (fun _ _ _=>False))
   { tmps:=(ps.zip args).foldl (fun t (p,v)=>t.setIfInBounds p v) tmps,defers:=[] } W):
  YieldAt F n P L args W R:=by
 have hy:=run_yield (P:=P) (args:=args) hL hs;refine⟨fn,_,assign,body,hy,round_of hF hfn (wpIn_mono h ?_)⟩;rintro e a w hq
 cases e with
 | normal=>
  obtain⟨h1,h2⟩:=hq;refine⟨_,run_beginRound h1 rfl,wpIn_mono h2 ?_⟩;rintro e a w hq
  cases e with
  | normal=>
   obtain⟨h3,h4⟩:=hq;exact⟨_,_,run_endRound none h3,h4⟩
  |panic ch=>exact hq
  |_=>exact hq
 |_=>exact hq
def wpB (b:Frame)(P:Program)(c:Code)(Q:Exit→Act→World→Prop)(a:Act)(w:World):Prop:=
 ∀(k:List Go.Item) (cs:List Frame),∃e a' w',Q e a' w'∧ArrivesIn (Machine.fenced P Fence.wide) P (lone (b.atR a (.code c::k)) cs w) b k cs e a' w'
section
variable {b : Frame}{Q : Exit→Act→World→Prop}{a : Act}{w : World}
theorem wpB_of {c:Code}(hb:b.roundOf=none)(h:c.wpIn Fence.wide n P Q a w):wpB b P c Q a w:=fun k cs=>h b k cs hb trivial (room_wide _)
theorem wpB_seq {x y:Code}(h:wpB b P x (Exit.then (wpB b P y Q) Q) a w):wpB b P (Code.seq x y) Q a w:=by
 intro k cs;have h0:(lone (b.atR a (.code (.seq x y)::k)) cs w).fenced P Fence.wide:=fenced_calm (n:=0) (F:=Fence.wide) trivial (room_wide _) rfl;obtain⟨e,a₁,w₁,hq,harr⟩:=h (.code y::k) cs
 cases e with
 | normal=>
  obtain⟨e₂,a₂,w₂,hq₂,harr₂⟩:=hq k cs;exact⟨e₂,a₂,w₂,hq₂,.of_steps (.head h0 stepR_seq harr) harr₂⟩
 |exit id=>exact⟨_,a₁,w₁,hq,.of_steps (.one h0 stepR_seq) (.pass (x:=.code y) rfl (fun _ _=>.inl (by simp)) harr)⟩
 |goto l=>exact⟨_,a₁,w₁,hq,.of_steps (.one h0 stepR_seq) (.pass (x:=.code y) rfl (fun _ _=>.inl (by simp)) harr)⟩
 |ret=>exact⟨_,a₁,w₁,hq,.of_steps (.one h0 stepR_seq) (.pass (x:=.code y) rfl (fun _ _=>.inl (by simp)) harr)⟩
 |panic ch=>exact⟨_,a₁,w₁,hq,.of_steps (.one h0 stepR_seq) (.pass (x:=.code y) rfl (fun _ _=>.inl (by simp)) harr)⟩
 |outgrown=>exact⟨_,a₁,w₁,hq,.of_steps (.one h0 stepR_seq) (.pass (x:=.code y) rfl (fun _ _=>.inl (by simp)) harr)⟩
theorem wpB_block {id:Nat}{c:Code}(h:wpB b P c (fun e a w=>match e with | .normal=>Q .normal a w | .panic ch=>Q (.panic ch) a w|_=>False) a w):wpB b P (Code.block id c) Q a w:=by
 intro k cs;have h0:(lone (b.atR a (.code (.block id c)::k)) cs w).fenced P Fence.wide:=fenced_calm (n:=0) (F:=Fence.wide) trivial (room_wide _) rfl;obtain⟨e,a₁,w₁,hq,harr⟩:=h (.inBlock id::k) cs
 cases e with
 |normal=>exact⟨.normal,a₁,w₁,hq,.head h0 stepR_block (StepsIn.trans harr (.one (fenced_calm (n:=0) (F:=Fence.wide) trivial (room_wide _) rfl) stepR_inBlock))⟩
 |panic ch=>exact⟨_,a₁,w₁,hq,.of_steps (.one h0 stepR_block) harr⟩
 |exit id=>exact(hq:False).elim
 |goto id=>exact(hq:False).elim
 |ret=>exact(hq:False).elim
 |outgrown=>exact(hq:False).elim
theorem wpB_range {g:Operand}{ps:Array Tmp}{assign body:Code}(hb:b.roundOf=none){gf:Nat}{lb:Array Value}(hg:a.eval g=.func (.func gf) #[] lb)(eg:∀args w,(callFunc gf args).run P w=.ok (.enter gf args) w)
  (hcall:Calls P gf (#[.func (.yield (w.heap.size+1)) #[] #[]]++lb) ((w.alloc (.deferred (some []))).alloc (.loop (rec b.fn a.tmps ps assign body w.heap.size .ready none))) fun e W=>match e with
   |.returned _=>W.heap[w.heap.size+1]?=some (.loop (rec b.fn a.tmps ps assign body w.heap.size .ready none))∧Q .normal { a with defers:={ target:=.collected w.heap.size,args:=#[] }::a.defers } (W.putObj (w.heap.size+1) (.loop (rec b.fn a.tmps ps assign body w.heap.size .exhausted none)))
   |.panicked ch=>Q (.panic ch) { a with defers:={ target:=.collected w.heap.size,args:=#[] }::a.defers } W
   |.outgrown=>False):
  wpB b P (.rangeFunc g ps assign body) Q a w:=by
 intro k cs;have he:=run_enterLoop_outer (P:=P) (w:=w) b.fn a.tmps ps assign body;obtain⟨W1,hW1⟩:∃W1,(w.alloc (.deferred (some []))).alloc (.loop (rec b.fn a.tmps ps assign body w.heap.size .ready none))=W1:=⟨_,rfl⟩;have he':(Instr.enterLoop b.fn a.tmps ps assign body b.roundOf).run P w=.ok (w.heap.size+1,[{ target:=.collected w.heap.size,args:=#[] }]) W1:=by rw[hb,he,←hW1];rfl
 rw[hW1]at hcall
 have hres:(resolve a.eval (rangeCall g (w.heap.size+1)) 0).run P W1=.ok { target:=.fn (.func gf) lb,args:=#[.func (.yield (w.heap.size+1)) #[] #[]] } W1:=by
  simp only[resolve,hg];simp[go_sem]
 have hinv:(invoke (.fn (.func gf) lb) #[.func (.yield (w.heap.size+1)) #[] #[]]).run P W1=.ok (.enter gf (#[.func (.yield (w.heap.size+1)) #[] #[]]++lb)) W1:=by
  simp[invoke,go_sem,eg]
 have henter:=stepR_rangeFunc (P:=P) (b:=b) (a:=a) (k:=k) (cs:=cs) (w:=w) he' hres hinv;have fen:∀m:Machine,m.gs=m.gs→True:=fun _ _=>trivial;obtain⟨e,w₃,fr,hR,hsteps,-,hleave⟩:=hcall (b.atR { a with defers:=[{ target:=.collected w.heap.size,args:=#[] }]++a.defers } (.inRangeFunc (w.heap.size+1)::k)::cs)
 cases e with
 |outgrown=>exact hR.elim
 | returned v=>
  obtain⟨hl3,hQ⟩:=hR;have hend:=run_endLoop (P:=P) hl3 (by simp[rec])
  have s2:Steps P (lone (b.atR a (.code (.rangeFunc g ps assign body)::k)) cs w) (lone (b.atR { a with defers:=[{ target:=.collected w.heap.size,args:=#[] }]++a.defers } k) cs (w₃.putObj (w.heap.size+1) (.loop (rec b.fn a.tmps ps assign body w.heap.size .exhausted none)))):=by
   refine Steps.head henter (Steps.trans hsteps (Steps.head (m₁:=lone (b.atR { a with defers:=[{ target:=.collected w.heap.size,args:=#[] }]++a.defers } (.endRangeFunc (w.heap.size+1)::k)) cs w₃) ?_ (Steps.one ?_)))
   ·rw[←finish_atR_inRangeFunc (w.heap.size+1) v];exact step_leave_returned hleave
   ·have:=stepR_endRangeFunc (P:=P) (b:=b) (a:={ a with defers:=[{ target:=.collected w.heap.size,args:=#[] }]++a.defers }) (k:=k) (cs:=cs) hend;simpa [rec]using this
  exact⟨.normal,_,_,hQ,stepsIn_wide.2 s2⟩
 | panicked chain=>
  refine⟨.panic chain,_,w₃,hR,.inRangeFunc (w.heap.size+1)::k,stepsIn_wide.2 (Steps.head henter (Steps.trans hsteps (Steps.one ?_)))⟩;rw[←Frame.raise_atR];exact step_leave_panicked hleave
end
theorem calls_of {f:FuncId}{fn:Func}{c:Code}{args:Array Value}{w:World}{R:Ending→World→Prop}(hf:P.funcs[f]?=some fn)(hb:fn.body=some c)
  (h:wpB { (default:Frame)with fn:=f,kind:=.normal,roundOf:=none } P c (bodyPostM Fence.wide 0 P fn R) { tmps:=args++Array.replicate (fn.ntmps - args.size) undef,defers:=[] } w):Calls P f args w R:=by
 refine(callsIn_wide (n:=0)).1 ⟨trivial,fun cs hr=>?_⟩
 let b:Frame:={ (default:Frame)with fn:=f,kind:=.normal,roundOf:=none }
 have henter:Frame.enter P f args .normal=b.atR { tmps:=args++Array.replicate (fn.ntmps - args.size) undef,defers:=[] } [.code c]:=by
  simp[Frame.enter,Frame.atR,hf,hb,b]
 have hF:Fence.wide.fn b.fn:=trivial;obtain⟨e,a',w',hq,harr⟩:=h [] cs;rw[←henter]at harr
 cases e with
 | normal=>
  obtain⟨e',w'',fr',hR,hs,hfn,hl⟩:=leaves_stepsInM a'.defers .returning w' { b.atR a' []with mode:=.returning } cs rfl rfl rfl hf rfl hF hr hq;exact⟨e',w'',fr',hR,ComesIn.of_steps (StepsIn.trans harr (.one (fenced_calm (fr:=b.atR a' []) hF hr rfl) (stepR_end rfl))) hs,hfn,hl⟩
 | ret=>
  obtain⟨todo,hs₀⟩:=harr.1 rfl;obtain⟨e',w'',fr',hR,hs,hfn,hl⟩:=leaves_stepsInM a'.defers .returning w' { b.atR a' todo with mode:=.returning } cs rfl rfl rfl hf rfl hF hr hq;exact⟨e',w'',fr',hR,ComesIn.of_steps hs₀ hs,hfn,hl⟩
 | panic chain=>
  obtain⟨todo,hs₀⟩:=harr;obtain⟨e',w'',fr',hR,hs,hfn,hl⟩:=leaves_stepsInM a'.defers (.panicking chain) w' { b.atR a' todo with mode:=.panicking chain } cs rfl rfl rfl hf rfl hF hr hq;exact⟨e',w'',fr',hR,ComesIn.of_steps hs₀ hs,hfn,hl⟩
 |exit id=>exact(hq:False).elim
 |goto l=>exact(hq:False).elim
 |outgrown=>exact⟨.outgrown,w',b,hq,harr.resolve_left (by simp),rfl,trivial⟩
theorem opsIn_of {l:Nat}{ops:Array Oper}{Q:Exit→Act→World→Prop}(hd:∀o∈ops,∀c,o.op≠.defer c)(hQ:∀a w,¬Q .outgrown a w):
  ∀(L:List Nat) (a:Act) (w:World),wpOps P ops Q L a w→wpOpsIn (Fence.wide.inRound l) n P ops Q L a w:=by
 intro L
 induction L with
 |nil=>exact fun a w h=>h
 | cons i rest ih=>
  intro a w h;simp only[wpOps,wpOpsIn]at h ⊢
  cases ho:ops[i]? with
  |none=>simp only[ho]at h ⊢;exact ih a w h
  | some o=>
   simp only[ho]at h ⊢;have hno:∀X:Prop,LetsOut Q→X:=fun X h=>let ⟨a,w,q⟩:=h;(hQ a w q).elim
   by_cases hw:Region.wanted o (yielded ops a.tmps)=true
   ·simp only[hw,if_true]at h ⊢;rcases h with h|⟨_,h⟩
    ·refine⟨fun _ _=>trivial,?_⟩;have hs:o.semAt (Fence.wide.inRound l).round a.eval=execOp a.eval o:=Oper.semAt_eq _ _ _ (hd o (by rw[Array.mem_iff_getElem?];exact⟨i,ho⟩));rw[hs];unfold Oper.wp at h;generalize (execOp a.eval o).run P w=r at h ⊢
     cases r with
     | ok x w'=>
      cases x with
      |value v=>exact ih _ _ h
      |skip=>exact ih _ _ h
      |defer d=>exact ih _ _ h
      | enter f args=>
       refine⟨fun _=>by simp[Fence.wide]at *,CallsIn.inRound l (callsIn_wide.2 (Calls.mono h ?_))⟩;rintro e w'' hh
       cases e with
       |returned v=>exact ih _ _ hh
       |panicked c=>exact hh
       |outgrown=>exact hh
      | row r args=>
       refine⟨fun _=>by simp[Fence.wide]at *,fun c cs _=>?_⟩;obtain⟨v,w'',hr,hs⟩:=h c cs;exact⟨v,w'',ih _ _ hr,stepsIn_wide.2 hs⟩
      |_=>exact(h:False).elim
     |halt x w'=>cases x<;>first|exact(h:False).elim|exact h
    ·exact hno _ h
   ·simp only[hw,if_false,Bool.false_eq_true]at h ⊢;exact⟨fun _ _=>trivial,ih _ _ h⟩
theorem region_any {l id:Nat}{ops:Array Oper}{Q:Exit→Act→World→Prop}{a:Act}{w:World}(hm:P.follows .mixedOrders=true)(hd:∀o∈ops,∀c,o.op≠.defer c)(hQ:∀a w,¬Q .outgrown a w)
  (h:wpAny P .any ops Q ops.size (Array.replicate ops.size false) a { w with drawn:=w.drawn+1 }):(Code.region id ops true).wpIn (Fence.wide.inRound l) n P Q a w:=by
 refine wpIn_region_draw fun t=>?_;simp only[Region.schedule,hm,Bool.true_or,if_true];exact opsIn_of hd hQ _ _ _ (wpAny_sound ops.size t _ a _ h)
end Go.Proofs.YtknnmidnodeanaaGreatDoor.Rf
