import Derived.Test.YtknnmidnodeanaaGreatDoorJu21
set_option maxHeartbeats 16000000
set_option maxRecDepth 4000
namespace Go.Proofs.YtknnmidnodeanaaGreatDoor
open Go Go.RowKit Own
open Go.Lib (hid)
theorem contI_ge (cs:List Gc)(nm:List UInt8):decide (0≤contI cs nm)=(CZ cs nm).isSome:=by
 unfold contI
 cases CZ cs nm with
 |none=>rfl
 |some i=>exact decide_eq_true (Int.natCast_nonneg i)
theorem told_var {s:Sc}{nm:List UInt8}(_:told s nm=0)(x:List UInt8):told { s with vars:=s.vars++[nm] } x=if nm=x then 1 else told s x:=by
 unfold told at *;dsimp only;by_cases e:nm=x
 ·subst e;rw[if_pos rfl,if_pos (by simp)]
 ·rw[if_neg e];by_cases h1:x∈s.vars
  ·rw[if_pos (by simp[h1]),if_pos h1]
  ·rw[if_neg (by simp only[List.mem_append,List.mem_singleton,not_or];exact⟨h1,fun h=>e h.symm⟩),if_neg h1]
theorem told_arr {s:Sc}{nm:List UInt8}{z:Int}(h:told s nm=0)(x:List UInt8):told { s with arrays:=s.arrays++[(nm,z)] } x=if nm=x then 2 else told s x:=by
 unfold told at *;dsimp only;by_cases e:nm=x
 ·subst e;have hv:¬nm∈s.vars:=fun h1=>by rw[if_pos h1]at h;cases h
  rw[if_pos rfl,if_neg hv,if_pos (by simp)]
 ·rw[if_neg e];by_cases h1:x∈s.vars
  ·rw[if_pos h1,if_pos h1]
  ·rw[if_neg h1,if_neg h1];by_cases h2:x∈s.arrays.map (·.1)
   ·rw[if_pos (by rw[List.map_append];exact List.mem_append_left _ h2),if_pos h2]
   ·rw[if_neg (by rw[List.map_append,List.mem_append];simp only[List.map_cons,List.map_nil,List.mem_singleton,not_or];exact⟨h2,fun h=>e h.symm⟩),if_neg h2]
theorem mget_one (l:List (List UInt8×Value))(nm:List UInt8)(v:Value)(h:mgetS l nm=none)(x:List UInt8):mgetS (l++[(nm,v)]) x=if nm=x then some v else mgetS l x:=by
 rw[mget_appendS,mget_consS];by_cases e:nm=x
 ·subst e;rw[if_pos rfl,if_pos rfl,h];rfl
 ·rw[if_neg e,if_neg e]
  cases mgetS l x<;>rfl
def StepF (w:World)(B M:Nat)(F:Nat→Prop)(r:Except Fl Sc)(e:Ending)(w':World):Prop:=BA F w w'∧match r with
 |.error f=>e=.panicked (fwC f.err f.line f.col)
 |.ok s'=>e=.returned (.tuple #[])∧ScAt w' B M (fun b=>F b∨w.heap.size≤b) s'
theorem StepF.err {w:World}{B M:Nat}{F:Nat→Prop}{r:Except Fl Sc}{w':World}{er li co:Int}(hk:BA F w w')(h:r=.error ⟨er,li,co⟩):StepF w B M F r (.panicked (fwC er li co)) w':=⟨hk,by rw[h]⟩
theorem StepF.ok {w:World}{B M:Nat}{F:Nat→Prop}{r:Except Fl Sc}{w':World}{s':Sc}(hk:BA F w w')(h:r=.ok s')(hs:ScAt w' B M (fun b=>F b∨w.heap.size≤b) s'):StepF w B M F r (.returned (.tuple #[])) w':=⟨hk,by rw[h];exact⟨rfl,hs⟩⟩
theorem row_lt {w:World}{base size:Nat}{T:TypeId}{p:Option Addr}{n c:Nat}{xs:List Value}(h:w.ownsRow base T size (.slice p n c) n xs){b:Nat}(hb:Of p b):base≤b∧b<w.heap.size:=by
 obtain⟨a,rfl,rfl⟩:=hb;rcases h.2 with⟨h1,-⟩|⟨g,cap,cur,h1,h2,h3,-⟩
 ·cases h1
 ·simp only[Value.slice.injEq,Option.some.injEq]at h1;obtain⟨rfl,-⟩:=h1;exact⟨h2,(AG.1 h3).1⟩
theorem CG {w w':World}{S:Nat→Prop}{v:Value}{p:Gp}(h:PAt w S v p)(k:BA (fun _=>False) w w'):PAt w' S v p:=by
 obtain⟨p1,c1,p2,c2,h1,h2,h3⟩:=h;exact⟨p1,c1,p2,c2,h1,h2.keep k fun _ _ e=>e,h3.keep k fun _ _ e=>e⟩
def sMap (M:Nat)(o:Obj)(v:Value):Loud:={ val:=fun _ _=>v,fp:=fun _ _ k=>k=M,post:=fun _ _ w=>w.heap[M]?=some o }
def ScOk (s:Sc):Prop:=s.vars.length≤16∧s.arrays.length≤4
section
variable {w : World}{B M : Nat}{a b c d : Value}{T : TypeId}
theorem blk4s (h:w.heap[B]?=some (.cells #[a,b,c,d] T (0,0))):w.cell? ⟨B,0,none⟩=some a∧w.cell? ⟨B,1,none⟩=some b∧w.cell? ⟨B,2,none⟩=some c∧w.cell? ⟨B,3,none⟩=some d:=by simp[World.cell?,h]
end
theorem tell_any (p:Gp)(hl:p.conts.length≤1099511627776)(k sz op li co:Int)(nm val into cont:List UInt8)(xs:List Gx)(thn els:List Gs)(hk12:k=1∨k=2)(w:World)(B M:Nat)(F:Nat→Prop)(s:Sc)(S T:Nat→Prop)(pv:Value)(vs:List Value)
    (hso:ScOk s) (hsc:ScAt w B M F s) (hp:PAt w S pv p) (hx:SAt w T vs (.mk k nm sz op val into cont xs thn els li co)):
    Calls Tryz.prog 55 #[.pointer (some ⟨B,0,none⟩),pv,.agg vs.toArray] w fun e w'=>StepF w B M F (DZ p.conts s k sz li co nm) e w':=by
  obtain⟨p1,c1,p2,c2,rfl,hc,hth⟩:=id hp;unfold SAt at hx;obtain⟨px,cx,pt,ct,pe,ce,rfl,-⟩:=hx;obtain⟨S1,hS1⟩:∃S,strV nm=.string S:=⟨_,rfl⟩;obtain⟨S2,hS2⟩:∃S,strV val=.string S:=⟨_,rfl⟩;obtain⟨S3,hS3⟩:∃S,strV into=.string S:=⟨_,rfl⟩;obtain⟨S4,hS4⟩:∃S,strV cont=.string S:=⟨_,rfl⟩;obtain⟨N,hN⟩:∃N:Int,(p.pool:Int)=N:=⟨_,rfl⟩;obtain⟨n1,hn1⟩:∃n,p.conts.length=n:=⟨_,rfl⟩;obtain⟨n2,hn2⟩:∃n,p.threads.length=n:=⟨_,rfl⟩;have HP:=hid hp;rw[hN,hn1,hn2]at HP;rw[hS1,hS2,hS3,hS4,hN,hn1,hn2];obtain⟨V1,C1,hV1,hC1,hb1,hk1,hs1⟩:=BD w (.cells #[.int .i64 N,.slice p1 n1 c1,.slice p2 n2 c2] 25);obtain⟨V,C2,hV,hC2,hb2,hk2,hs2⟩:=BD V1 (.cells #[.int .i64 k,.string S1,.int .i64 sz,.int .i64 op,.string S2,.string S3,.string S4,.slice px xs.length cx,.slice pt thn.length ct,.slice pe els.length ce,.int .i64 li,.int .i64 co] TSm);have h12:C1+1=C2:=by omega
  obtain⟨m0,m1,m2,-⟩:=BS (hk2.blk hb1);obtain⟨e0,e1,e2,e3,e4,e5,e6,e7,e8,e9,e10,e11⟩:=BK hb2;have hkV:=hk1.trans hk2;obtain⟨t,ht⟩:∃t:Nat,told s nm=t:=⟨_,rfl⟩;obtain⟨q,hq⟩:∃q:Int,contI p.conts nm=q:=⟨_,rfl⟩;have hq0:=contI_ge p.conts nm;rw[hq]at hq0;have HKV:=hid hkV;obtain⟨ps,cs,pa,ca,hB,hlt,hM,hrv,hra,hdj,f1,f2,f3,f4⟩:=hsc;have HSV:=hid (And.intro hB (And.intro hlt (And.intro hM (And.intro hrv (And.intro hra (And.intro hdj (And.intro f1 (And.intro f2 (And.intro f3 f4)))))))));obtain⟨z0,z1,z2,z3⟩:=blk4s (hkV.blk hB)
  have HF:=hid (show ∀w',BA (fun _=>False) V w'→(w'.cell? ⟨C2,0,none⟩=some (.int .i64 k)∧w'.cell? ⟨C2,1,none⟩=some (.string S1)∧w'.cell? ⟨C2,2,none⟩=some (.int .i64 sz)∧w'.cell? ⟨C2,10,none⟩=some (.int .i64 li)∧w'.cell? ⟨C2,11,none⟩=some (.int .i64 co))∧
      (w'.cell? ⟨C1,0,none⟩=some (.int .i64 N)∧w'.cell? ⟨C1,1,none⟩=some (.slice p1 n1 c1)∧w'.cell? ⟨C1,2,none⟩=some (.slice p2 n2 c2))∧
      w'.cell? ⟨B,0,none⟩=some (.map (some M))∧w'.cell? ⟨B,1,none⟩=some (.slice ps s.vars.length cs)∧w'.cell? ⟨B,2,none⟩=some (.slice pa s.arrays.length ca)∧(Instr.lookup TMp (.map (some M)) (.string S1) false).run Tryz.prog w'=.ok (.int .i64 t) w' from fun w' hk=>by
    refine⟨⟨hk.stay e0,hk.stay e1,hk.stay e2,hk.stay e10,hk.stay e11⟩,⟨hk.stay m0,hk.stay m1,hk.stay m2⟩,hk.stay z0,hk.stay z1,hk.stay z2,?_⟩;have:=(hM.of_same ((hkV.trans hk).block M hM.lt fun e=>e)).look nm;rw[←hS1,this,ht])
  have HCT:=hid (show ∀w',BA (fun _=>False) V w'→Calls Tryz.prog 22 #[.agg #[.int .i64 N,.slice p1 n1 c1,.slice p2 n2 c2],.string S1] w' fun e w''=>e=.returned (.int .i64 q)∧BA (fun _=>False) w' w'' from fun w' hk=>by
    have:=cont_any p nm hl w' S _ (CG HP.out (hkV.trans hk));rw[hS1,hq]at this;exact this)
  have HS1:=hid hS1;have HT:=hid ht;have HQ0:=hid hq0;have HK12:=hid hk12;have HSO:=hid hso;have HN0:=hid (show w.heap.size≤C1∧C1+1=C2∧C2<V.heap.size by omega);clear hc hth hp hb1 hb2 hk1 hk2 hs1 hs2 m0 m1 m2 e0 e1 e2 e3 e4 e5 e6 e7 e8 e9 e10 e11 hkV hB hlt hM hrv hra hdj f1 f2 f3 f4 z0 z1 z2 z3 hN hn1 hn2 hq hq0 ht hS1 hS2 hS3 hS4 hk12 hso hl;go_enter Tryz.func55,Tryz.ntmps55;go_upto_region 1 with fail;rw[←hV1,←hC1,←hV,h12];clear hV1 hC1 hV hC2 h12;obtain⟨bT,hbT⟩:∃b:Bool,(decide (t≠0) || decide (0≤q))=b:=⟨_,rfl⟩;have HBT:=hid hbT
  have HPAN:=hid (show bT=true→∀w',BA (fun _=>False) V w'→StepF w B M F (DZ p.conts s k sz li co nm) (.panicked (fwC 8 li co)) w' from fun hb w' hk=>by
    refine StepF.err ((HKV.out.trans hk).mono fun _ e=>e.elim) ?_;unfold DZ;rw[HT.out,←HQ0.out];rw[hb]at hbT;simp only[Bool.or_eq_true,decide_eq_true_eq]at hbT;rw[if_pos (hbT.imp id fun h=>decide_eq_true h)])
  have HTL:=hid (show bT=false→t=0∧DZ p.conts s k sz li co nm=if k=1 then (if s.vars.length=16 then .error ⟨3,li,co⟩ else .ok { s with vars:=s.vars++[nm] }) else if sz<1∨16<sz then .error ⟨2,li,co⟩ else if s.arrays.length=4 then .error ⟨3,li,co⟩ else .ok { s with arrays:=s.arrays++[(nm,sz)] } from fun hb=>by
    rw[hb]at hbT;simp only[Bool.or_eq_false_iff,decide_eq_false_iff_not,Classical.not_not]at hbT;refine⟨hbT.1,?_⟩;unfold DZ;rw[HT.out,←HQ0.out,if_neg (fun h=>h.elim (fun h=>h hbT.1) fun h=>hbT.2 (of_decide_eq_true h))])
  have HKX:=hid (BA.refl (fun _=>False) V);clear hbT;go_cut [25]from 6 to 25 (fun v25 wx=>bT=false∧BA (fun _=>False) V wx)
  case first=>
    obtain⟨b0,hb0⟩:∃b,((t:Int) != 0)=b:=⟨_,rfl⟩;obtain⟨b1,hb1⟩:∃b,decide (0≤q)=b:=⟨_,rfl⟩
    have HBB:=hid (show bT=(b0 || b1) by
      rw[←HBT.out,←hb0,←hb1];by_cases h:t=0
      · subst h;rfl
      · rw[decide_eq_true h,show ((t:Int) != 0)=true by rw[bne_iff_ne];omega])
    cases b0 with
    | true=>
      refine OwnX.CN (fun ch w'=>ch=fwC 8 li co∧bT=true∧BA (fun _=>False) V w') (fun ch a' w' hd hx=>by obtain⟨rfl,hb,hk⟩:=hx;exact⟨hd.1,HPAN.out hb w' hk⟩) (by kernel_rfl) DL7 (fun _=>[]) (fun _=>[]) [19] (by kernel_rfl) (fun i=>if i=19 then some (sBad bT) else none) ?_
      iterate 19 (first
        |(apply OwnX.BZ rfl;simp only[Act.put,LS])
        |( apply OwnX.BC rfl rfl;focus (intro w' hk;obtain⟨⟨y0,y1,y2,y10,y11⟩,⟨q0,q1,q2⟩,z0,z1,z2,lk⟩:=HF.out w' ((HKX.out.trans (BA.drew (fun _=>False) _)).trans hk);go_simp;with_reducible rfl)
           simp only[Act.put,LS]))
      refine OwnX.BE rfl rfl (DD bT 8 li co (fun w=>by rw[HBB.out];kernel_rfl) fun w' hk hb=>⟨rfl,hb,(HKX.out.trans (BA.drew (fun _=>False) _)).trans hk⟩) fun g _=>?_;refine OwnX.BP ?_;intro W4 hk9 hF hG;have hb0:bT=false:=(hF 19 (by simp)).1;have hk4:=(HKX.out.trans (BA.drew (fun _=>False) _)).trans hk9;clear hF hG hk9;simp only[sBad,Act.put,LS];go_wp2_with fail
      go_meet
      exact⟨hb0,hk4⟩
    | false=>
      cases b1
      · refine OwnX.CN (fun ch w'=>ch=fwC 8 li co∧bT=true∧BA (fun _=>False) V w') (fun ch a' w' hd hx=>by obtain⟨rfl,hb,hk⟩:=hx;exact⟨hd.1,HPAN.out hb w' hk⟩) (by kernel_rfl) DL7 (fun _=>[]) (fun _=>[]) [19] (by kernel_rfl) (fun i=>if i=12 then some (BN (.int .i64 q)) else if i=19 then some (sBad bT) else none) ?_
        iterate 12 (first
          |(apply OwnX.BZ rfl;simp only[Act.put,LS])
          |( apply OwnX.BC rfl rfl;focus (intro w' hk;obtain⟨⟨y0,y1,y2,y10,y11⟩,⟨q0,q1,q2⟩,z0,z1,z2,lk⟩:=HF.out w' ((HKX.out.trans (BA.drew (fun _=>False) _)).trans hk);go_simp;with_reducible rfl)
             simp only[Act.put,LS]))
        refine OwnX.BE rfl rfl (OwnX.CU.of (BR 22 #[.agg #[.int .i64 N,.slice p1 n1 c1,.slice p2 n2 c2],.string S1] (fun w=>by go_simp) ⟨default,trivial⟩ (fun g _=>BX _) fun w' hk _ _=>(HCT.out w' ((BA.drew (fun _=>False) V).trans hk)).mono ?_)) fun g0 _=>?_
        · rintro e w'' ⟨rfl,hk'⟩;exact⟨default,trivial,rfl,hk'.mono fun _ e=>e.elim,fun b h=>h.elim,trivial⟩
        simp only[BN,Act.put,LS]
        iterate 6 (first
          |(apply OwnX.BZ rfl;simp only[Act.put,LS])
          |( apply OwnX.BC rfl rfl;focus (intro w' hk;obtain⟨⟨y0,y1,y2,y10,y11⟩,⟨q0,q1,q2⟩,z0,z1,z2,lk⟩:=HF.out w' ((HKX.out.trans (BA.drew (fun _=>False) _)).trans hk);go_simp;with_reducible rfl)
             simp only[Act.put,LS]))
        refine OwnX.BE rfl rfl (DD bT 8 li co (fun w=>by rw[HBB.out];kernel_rfl) fun w' hk hb=>⟨rfl,hb,(HKX.out.trans (BA.drew (fun _=>False) _)).trans hk⟩) fun g _=>?_;refine OwnX.BP ?_;intro W4 hk9 hF hG;have hb0:bT=false:=(hF 19 (by simp)).1;have hk4:=(HKX.out.trans (BA.drew (fun _=>False) _)).trans hk9;clear hF hG hk9;simp only[sBad,Act.put,LS];go_wp2_with fail
        go_meet
        exact⟨hb0,hk4⟩
      · refine OwnX.CN (fun ch w'=>ch=fwC 8 li co∧bT=true∧BA (fun _=>False) V w') (fun ch a' w' hd hx=>by obtain⟨rfl,hb,hk⟩:=hx;exact⟨hd.1,HPAN.out hb w' hk⟩) (by kernel_rfl) DL7 (fun _=>[]) (fun _=>[]) [19] (by kernel_rfl) (fun i=>if i=12 then some (BN (.int .i64 q)) else if i=19 then some (sBad bT) else none) ?_
        iterate 12 (first
          |(apply OwnX.BZ rfl;simp only[Act.put,LS])
          |( apply OwnX.BC rfl rfl;focus (intro w' hk;obtain⟨⟨y0,y1,y2,y10,y11⟩,⟨q0,q1,q2⟩,z0,z1,z2,lk⟩:=HF.out w' ((HKX.out.trans (BA.drew (fun _=>False) _)).trans hk);go_simp;with_reducible rfl)
             simp only[Act.put,LS]))
        refine OwnX.BE rfl rfl (OwnX.CU.of (BR 22 #[.agg #[.int .i64 N,.slice p1 n1 c1,.slice p2 n2 c2],.string S1] (fun w=>by go_simp) ⟨default,trivial⟩ (fun g _=>BX _) fun w' hk _ _=>(HCT.out w' ((BA.drew (fun _=>False) V).trans hk)).mono ?_)) fun g0 _=>?_
        · rintro e w'' ⟨rfl,hk'⟩;exact⟨default,trivial,rfl,hk'.mono fun _ e=>e.elim,fun b h=>h.elim,trivial⟩
        simp only[BN,Act.put,LS]
        iterate 6 (first
          |(apply OwnX.BZ rfl;simp only[Act.put,LS])
          |( apply OwnX.BC rfl rfl;focus (intro w' hk;obtain⟨⟨y0,y1,y2,y10,y11⟩,⟨q0,q1,q2⟩,z0,z1,z2,lk⟩:=HF.out w' ((HKX.out.trans (BA.drew (fun _=>False) _)).trans hk);go_simp;with_reducible rfl)
             simp only[Act.put,LS]))
        refine OwnX.BE rfl rfl (DD bT 8 li co (fun w=>by rw[HBB.out];kernel_rfl) fun w' hk hb=>⟨rfl,hb,(HKX.out.trans (BA.drew (fun _=>False) _)).trans hk⟩) fun g _=>?_;refine OwnX.BP ?_;intro W4 hk9 hF hG;have hb0:bT=false:=(hF 19 (by simp)).1;have hk4:=(HKX.out.trans (BA.drew (fun _=>False) _)).trans hk9;clear hF hG hk9;simp only[sBad,Act.put,LS];go_wp2_with fail
        go_meet
        exact⟨hb0,hk4⟩
  case rest=>
    obtain⟨hbf,hkx⟩:=hcut;obtain⟨ht0,htl⟩:=HTL.out hbf;have HT0:=hid ht0;have HTE:=hid htl;have HKC:=hid hkx;obtain⟨⟨y0,y1,y2,y10,y11⟩,⟨q0,q1,q2⟩,z0,z1,z2,lk⟩:=HF.out wc hkx;clear hbf hkx ht0 htl HTL HPAN HKX HBT HCT lk HQ0;by_cases hk1:k=1
    · subst hk1;go_upto_region 3 with fail;clear y0 y1 y2 y10 y11 q0 q1 q2 z0 z1 z2;obtain⟨b3,hb3⟩:∃b,((s.vars.length:Int)==16)=b:=⟨_,rfl⟩
      have HPAN3:=hid (show b3=true→∀w',BA (fun _=>False) V w'→StepF w B M F (DZ p.conts s 1 sz li co nm) (.panicked (fwC 3 li co)) w' from fun hb w' hk=>by
        refine StepF.err ((HKV.out.trans hk).mono fun _ e=>e.elim) ?_;rw[hb,beq_iff_eq]at hb3;rw[HTE.out,if_pos rfl,if_pos (by omega)])
      have HOK:=hid (show b3=false→DZ p.conts s 1 sz li co nm=.ok { s with vars:=s.vars++[nm] } from fun hb=>by
        rw[hb,BF]at hb3;rw[HTE.out,if_pos rfl,if_neg (by omega)])
      have HB3:=hid hb3
      cases b3
      · refine OwnX.CN (fun ch w'=>ch=fwC 3 li co∧false=true∧BA (fun _=>False) V w') (fun ch a' w' hd hx=>by obtain⟨rfl,hb,hk⟩:=hx;exact⟨hd.1,HPAN3.out hb w' hk⟩) (by kernel_rfl) DL3 (fun _=>[]) (fun _=>[]) [10] (by kernel_rfl) (fun i=>if i=10 then some (sBad false) else none) ?_
        iterate 10 (first
          |(apply OwnX.BZ rfl;simp only[Act.put,LS])
          |( apply OwnX.BC rfl rfl;focus (intro w' hk;obtain⟨⟨y0,y1,y2,y10,y11⟩,⟨q0,q1,q2⟩,z0,z1,z2,lk⟩:=HF.out w' ((HKC.out.trans (BA.drew (fun _=>False) _)).trans hk);go_simp;with_reducible rfl)
             simp only[Act.put,LS]))
        refine OwnX.BE rfl rfl (DD false 3 li co (fun w=>by kernel_rfl) fun w' hk hb=>⟨rfl,hb,(HKC.out.trans (BA.drew (fun _=>False) _)).trans hk⟩) fun g _=>?_;refine OwnX.BP ?_;intro W4 hk9 hF hG;have hb0:false=false:=(hF 10 (by simp)).1;have hk4:=(HKC.out.trans (BA.drew (fun _=>False) _)).trans hk9;clear hF hG hk9;simp only[sBad,Act.put,LS];go_upto_region 4 with fail;obtain⟨hB,hlt,hM,hrv,hra,hdj,f1,f2,f3,f4⟩:=HSV.out;have hkW:=HKV.out.trans hk4;have hB4:=hkW.blk hB;have hBl:=(AG.1 hB).1;have hR4:W4.ownsRow (B+1) TStr 1 (.slice ps s.vars.length cs) s.vars.length (varsV s):=DK hrv fun b hb=>hkW.block b (row_lt hrv (CL.1 hb)).2 fun e=>e;obtain⟨l,hl1,hl2⟩:=hM.of_same (hkW.block M hM.lt fun e=>e);have hn0:mgetS l nm=none:=by rw[hl2,HT.out,HT0.out,if_pos rfl]
        obtain⟨o0,o1,o2,ck,g0,g1,g2,g3⟩:=map_enter under_map under_str (.int .i64 0) zero_what (.int .i64 1) hl1 hn0;rw[HS1.out]at g1
        have HFX:=hid (show ∀w',BA (fun b=>b=M∨b=B∨(Value.slice ps s.vars.length cs).ownBlock=some b) W4.drew w'→w'.cell? ⟨C2,1,none⟩=some (.string S1)∧w'.cell? ⟨C2,2,none⟩=some (.int .i64 sz)from fun w' hk=>by
          obtain⟨⟨-,y1,y2,-⟩,-⟩:=HF.out W4.drew (hk4.trans (BA.drew (fun _=>False) W4))
          have hn:¬(C2=M∨C2=B∨(Value.slice ps s.vars.length cs).ownBlock=some C2):=by
            have:=HN0.out;rintro (h|h|h)
            · omega
            · omega
            · have:=(row_lt hrv (CL.1 h)).2;omega
          exact⟨hk.cell y1 hn,hk.cell y2 hn⟩)
        have HG1:=hid g1;have HG2:=hid g2;have HG3:=hid g3;have HL2:=hid hl2;have HKW:=hid hkW;have hn1:s.vars.length≤16:=by have:=HSO.out;unfold ScOk at this;omega
        clear g1 g2 g3 hl2 hl1 hn0 hk4 hM hrv hra hdj f1 f2 f3 f4 hB;refine wp_own3 (by kernel_rfl) M B o0 _ g0 hB4 hlt (B+1) TStr 1 _ _ _ hR4 (by omega) (fun i=>[[],[0],[0,1],[0,1,2],[],[4],[],[],[7],[7,8],[7,8,9],[],[11],[11,12],[7,8,9,10,11,12,13],[0,1,2,3,4,5,7,8,9,10,11,12,13,14],[0,1,2,3,4,5,7,8,9,10,11,12,13,14,15],[0,1,2,3,4,5,7,8,9,10,11,12,13,14,15,16],[0,1,2,3,4,5,6,7,8,9,10,11,12,13,14,15,16,17],[0,1,2,3,4,5,6,7,8,9,10,11,12,13,14,15,16,17,18],[0,1,2,3,4,5,6,7,8,9,10,11,12,13,14,15,16,17,18,19]].getD i []) (fun i=>if i=3 then [22] else if i=10 then [22] else if i=14 then [23,13] else if i=15 then [21] else if i=17 then [15] else if i=20 then [22] else []) (fun i=>if i=14 then [23] else if i=15 then [21] else if i=17 then [15] else if i=20 then [22] else []) [14,17,20] (by kernel_rfl) (fun i=>if i=3 then some (BN (.map (some M))) else if i=10 then some (BN (.slice ps s.vars.length cs)) else if i=13 then some (sOneV TStr #[.string S1]) else if i=14 then some (sRow (B+1) TStr 1 (s.vars.length+1) (varsV s++[.string S1])) else if i=15 then some (sMap M o1 (.tuple #[.int .i64 0,.int .i64 ck])) else if i=17 then some (sMap M o2 undef) else if i=20 then some (CT B 1 TScp #[.map (some M),.slice ps s.vars.length cs,.slice pa s.arrays.length ca,.int .i64 s.calls]) else none) ?_
        iterate 3 (first
          |(apply BZ rfl;simp only[Act.put,LS])
          |( apply BC rfl rfl;focus (intro w' hk;obtain⟨y1,y2⟩:=HFX.out w' hk;go_simp;with_reducible rfl)
             simp only[Act.put,LS]))
        refine BE rfl rfl (BY ⟨default,trivial⟩ (fun g _ w w' _ _ _ _ _=>trivial) fun w' hk hav _=>by
          obtain⟨x0,x1,x2,x3⟩:=blk4s (show w'.heap[B]?=some (.cells #[.map (some M),.slice ps s.vars.length cs,.slice pa s.arrays.length ca,.int .i64 s.calls] TScp (0,0)) from(hav 22 (by decide)).1);exact⟨w',default,trivial,.inl (by go_simp<;>rfl),BA.refl _ _,fun b h=>h.elim,trivial⟩) fun _ _=>?_
        simp only[BN,Act.put,LS]
        iterate 6 (first
          |(apply BZ rfl;simp only[Act.put,LS])
          |( apply BC rfl rfl;focus (intro w' hk;obtain⟨y1,y2⟩:=HFX.out w' hk;go_simp;with_reducible rfl)
             simp only[Act.put,LS]))
        refine BE rfl rfl (BY ⟨default,trivial⟩ (fun g _ w w' _ _ _ _ _=>trivial) fun w' hk hav _=>by
          obtain⟨x0,x1,x2,x3⟩:=blk4s (show w'.heap[B]?=some (.cells #[.map (some M),.slice ps s.vars.length cs,.slice pa s.arrays.length ca,.int .i64 s.calls] TScp (0,0)) from(hav 22 (by decide)).1);exact⟨w',default,trivial,.inl (by go_simp<;>rfl),BA.refl _ _,fun b h=>h.elim,trivial⟩) fun _ _=>?_
        simp only[Act.put,LS]
        iterate 2 (first
          |(apply BZ rfl;simp only[Act.put,LS])
          |( apply BC rfl rfl;focus (intro w' hk;obtain⟨y1,y2⟩:=HFX.out w' hk;go_simp;with_reducible rfl)
             simp only[Act.put,LS]))
        refine BE rfl rfl (loud_oneV TStr #[.string S1] (fun w=>by go_simp)) fun g3 _=>?_;simp only[sOneV,Act.put,LS];refine BE rfl rfl (FC (B+1) TStr 38 (.string ⟨#[]⟩) 1 16 (by kernel_rfl) (by kernel_rfl) rfl (by decide) (.tmp 50) (.tmp 53) rfl (.slice ps s.vars.length cs) s.vars.length (varsV s) g3.b [.string S1] rfl rfl rfl (by simp[Value.oneCell']) (by unfold maxLen;omega) (by omega) (by have:=HKW.out.size;show B+1≤W4.heap.size;omega) 23 (by decide) (by decide) (fun w h=>h) (fun b hb=>.inr (.inr ⟨rfl,hb⟩)) 13 (by decide) (fun w h=>h)) fun g4 _=>?_;simp only[sRow,Act.put,LS]
        refine BE rfl rfl (BY ⟨default,trivial⟩ (fun _ _ _ _ _ _ _ hb hp=>(hb M rfl).trans hp) fun w' hk hav _=>by
          have hv:=hav 21 (by decide);obtain⟨w'',r1,r2,r3⟩:=HG1.out w' hv.1
          exact⟨w'',default,trivial,.inl (by go_simp;rfl),r3.mono fun b e=>⟨21,by decide,.inl ⟨rfl,e⟩⟩,fun b hb=>by
            have e:b=M:=hb;exact⟨.inr ⟨21,by decide,.inl ⟨rfl,e⟩⟩,by rw[e];exact(AG.1 r2).1⟩,r2⟩) fun g5 _=>?_
        simp only[sMap,Act.put,LS]
        iterate 1 (first
          |(apply BZ rfl;simp only[Act.put,LS])
          |( apply BC rfl rfl;focus (intro w' hk;obtain⟨y1,y2⟩:=HFX.out w' hk;go_simp;with_reducible rfl)
             simp only[Act.put,LS]))
        refine BE rfl rfl (BY ⟨default,trivial⟩ (fun _ _ _ _ _ _ _ hb hp=>(hb M rfl).trans hp) fun w' hk hav _=>by
          have hv:=hav 15 (by decide);obtain⟨w'',r1,r2,r3⟩:=HG2.out w' hv.1
          exact⟨w'',default,trivial,.inr ⟨by go_simp,rfl⟩,r3.mono fun b e=>⟨15,by decide,e⟩,fun b hb=>by
            have e:b=M:=hb;exact⟨.inr ⟨15,by decide,e⟩,by rw[e];exact(AG.1 r2).1⟩,r2⟩) fun g6 _=>?_
        simp only[Act.put]
        iterate 2 (first
          |(apply BZ rfl;simp only[Act.put,LS])
          |( apply BC rfl rfl;focus (intro w' hk;obtain⟨y1,y2⟩:=HFX.out w' hk;go_simp;with_reducible rfl)
             simp only[Act.put,LS]))
        refine BE rfl rfl (CS B 1 TScp #[.map (some M),.slice ps s.vars.length cs,.slice pa s.arrays.length ca,.int .i64 s.calls] (.slice g4.p (s.vars.length+1) g4.c) (BV rfl rfl) (fun w u hc hf=>by go_simp<;>rfl) 22 (by decide) (by decide) (fun w h=>h) (.inr (.inl ⟨rfl,rfl⟩)) (by show 1<4;decide)) fun g7 _=>?_;simp only[CT,Act.put,LS];refine BP ?_;intro W6 hk9 hF hG;have fB:W6.heap[B]?=some (.cells #[.map (some M),.slice g4.p (s.vars.length+1) g4.c,.slice pa s.arrays.length ca,.int .i64 s.calls] TScp (0,0)):=(hF 20 (by decide)).1 _ (BV rfl rfl);have fM:=HG3.out W6 (hF 17 (by decide)).1;have fR:W6.ownsRow (B+1) TStr 1 (.slice g4.p (s.vars.length+1) g4.c) (s.vars.length+1) (varsV s++[.string S1]):=(hF 14 (by decide)).1;have fO:∀b,Of g4.p b→(W4.heap.size≤b∨b=M∨b=B∨(Value.slice ps s.vars.length cs).ownBlock=some b):=fun b hb=>((hF 14 (by decide)).2 b hb).2;have fM':∀b,Of g4.p b→b≠M:=fun b hb=>hG 14 (by decide) 17 (by decide) (by decide) b hb;have fB':∀b,Of g4.p b→b≠B:=fun b hb=>hG 14 (by decide) 20 (by decide) (by decide) b hb;clear hF hG
        have HFIN:=hid (show StepF w B M F (DZ p.conts s 1 sz li co nm) (.returned (.tuple #[])) W6 by
          obtain⟨hB,hlt,hM,hrv,hra,hdj,f1,f2,f3,f4⟩:=HSV.out
          have hkF:BA F w W6:=(HKW.out.mono (E':=F) fun _ e=>e.elim).trans ((BA.drew F W4).trans (hk9.mono fun b hb=>by
            rcases hb with h|h|h
            · rw[h];exact f2
            · rw[h];exact f1
            · exact f3 b (CL.1 h)))
          have hsz:=HKW.out.size;refine StepF.ok hkF (HOK.out hb0) ?_;refine⟨g4.p,g4.c,pa,ca,by have h0:=fB;simpa using h0,hlt,⟨_,fM,fun x=>?_⟩,?_,?_,?_,.inl f1,.inl f2,?_,?_⟩
          · rw[mget_one l nm _ (by rw[HL2.out,HT.out,HT0.out,if_pos rfl]),told_var (by rw[HT.out,HT0.out]),HL2.out];by_cases e:nm=x
            · rw[if_pos e,if_pos e];rfl
            · rw[if_neg e,if_neg e]
          · have e1:(s.vars++[nm]).length=s.vars.length+1:=by simp
            have e2:varsV { s with vars:=s.vars++[nm] }=varsV s++[.string S1]:=by unfold varsV;rw[List.map_append,←HS1.out];rfl
            rw[e2];show W6.ownsRow (B+1) TStr 1 (.slice g4.p (s.vars++[nm]).length g4.c) (s.vars++[nm]).length _;rw[e1];exact fR
          · exact DK hra fun b hb=>by
              have hb':=CL.1 hb;have h1:=row_lt hra hb';refine((BA.drew (fun b=>b=M∨b=B∨(Value.slice ps s.vars.length cs).ownBlock=some b) W4).trans hk9).block b (by have:=HKW.out.size;omega) ?_ |>.trans (HKW.out.block b h1.2 fun e=>e);rintro (h|h|h)
              · omega
              · omega
              · exact hdj b (CL.1 h) hb'
          · exact fun b hb hb2=>by
              have hn:=hb;have ho:=hb2;rcases fO b hn with h|h|h|h
              · have:=(row_lt hra ho).2;omega
              · exact fM' b hn h
              · exact fB' b hn h
              · exact hdj b (CL.1 h) hb2
          · exact fun b hb=>by
              rcases fO b hb with h|h|h|h
              · exact .inr (by omega)
              · exact(fM' b hb h).elim
              · exact(fB' b hb h).elim
              · exact .inl (f3 b (CL.1 h))
          · exact fun b hb=>.inl (f4 b hb))
        clear fB fM fR fO fM' fB' hk9 HSV HF HN0 HFX HG1 HG2 HG3 HL2;go_wp2_with fail
        first|go_end0|go_ret|go_ret2
        exact HFIN.out
      · refine OwnX.CN (fun ch w'=>ch=fwC 3 li co∧true=true∧BA (fun _=>False) V w') (fun ch a' w' hd hx=>by obtain⟨rfl,hb,hk⟩:=hx;exact⟨hd.1,HPAN3.out rfl w' hk⟩) (by kernel_rfl) DL3 (fun _=>[]) (fun _=>[]) [10] (by kernel_rfl) (fun i=>if i=10 then some (sBad true) else none) ?_
        iterate 10 (first
          |(apply OwnX.BZ rfl;simp only[Act.put,LS])
          |( apply OwnX.BC rfl rfl;focus (intro w' hk;obtain⟨⟨y0,y1,y2,y10,y11⟩,⟨q0,q1,q2⟩,z0,z1,z2,lk⟩:=HF.out w' ((HKC.out.trans (BA.drew (fun _=>False) _)).trans hk);go_simp;with_reducible rfl)
             simp only[Act.put,LS]))
        refine OwnX.BE rfl rfl (DD true 3 li co (fun w=>by kernel_rfl) fun w' hk hb=>⟨rfl,by trivial,(HKC.out.trans (BA.drew (fun _=>False) _)).trans hk⟩) fun g _=>?_;refine OwnX.BP ?_;intro W4 hk9 hF hG;have hb0:true=false:=(hF 10 (by simp)).1;have hk4:=(HKC.out.trans (BA.drew (fun _=>False) _)).trans hk9;clear hF hG hk9;simp only[sBad,Act.put,LS];exact absurd hb0 (by decide)
    · have hkb:(k==1)=false:=by rw[BF];exact hk1
      have HK1:=hid hk1;obtain⟨b4,hb4⟩:∃b,(decide (sz<1) || decide (16<sz))=b:=⟨_,rfl⟩
      have HPAN4:=hid (show b4=true→∀w',BA (fun _=>False) V w'→StepF w B M F (DZ p.conts s k sz li co nm) (.panicked (fwC 2 li co)) w' from fun hb w' hk=>by
        refine StepF.err ((HKV.out.trans hk).mono fun _ e=>e.elim) ?_;rw[hb]at hb4;simp only[Bool.or_eq_true,decide_eq_true_eq]at hb4;rw[HTE.out,if_neg HK1.out,if_pos hb4])
      have hte4:b4=false→DZ p.conts s k sz li co nm=if s.arrays.length=4 then .error ⟨3,li,co⟩ else .ok { s with arrays:=s.arrays++[(nm,sz)] }:=fun hb=>by
        rw[hb]at hb4;simp only[Bool.or_eq_false_iff,decide_eq_false_iff_not]at hb4;rw[HTE.out,if_neg HK1.out,if_neg (fun h=>h.elim hb4.1 hb4.2)]
      have HTE4:=hid hte4;have HKV4:=hid hb4;have HBY:=hid (fun W b=>bad_any2 b W 2 li co);simp only[fwC,fwV,TFw]at HBY HPAN4;clear hte4 hb4 hk1;go_upto_region 5 with fail;go_cut [71]from 29 to 71 (fun v71 wx=>b4=false∧BA (fun _=>False) V wx)
      case first=>
        by_cases h1:sz<1
        · have hb4:b4=true:=by rw[←HKV4.out,decide_eq_true h1];rfl
          have HB4:=hid hb4;clear hb4 HKV4;go_wp2_with (go_at_call 40;refine(HBY.out _ _).mono ?_;rintro e w5 ⟨rfl,rfl⟩);exact⟨rfl,HPAN4.out HB4.out _ HKC.out⟩
        · have h1d:decide (sz<1)=false:=decide_eq_false h1;by_cases h2:16<sz
          · have hb4:b4=true:=by rw[←HKV4.out,decide_eq_true h2,Bool.or_true]
            have HB4:=hid hb4;clear hb4 HKV4;go_wp2_with (go_at_call 40;refine(HBY.out _ _).mono ?_;rintro e w5 ⟨rfl,rfl⟩);exact⟨rfl,HPAN4.out HB4.out _ HKC.out⟩
          · have h2d:decide (16<sz)=false:=decide_eq_false h2;have hb4:b4=false:=by rw[←HKV4.out,h1d,h2d];rfl
            have HB4:=hid hb4;clear hb4 HKV4;go_wp2_with (go_at_call 40;refine(HBY.out _ _).mono ?_;rintro e w5 ⟨rfl,rfl⟩)
            go_meet
            exact⟨HB4.out,HKC.out⟩
      case rest=>
        obtain⟨hbf4,hkx4⟩:=hcut;have HTE:=hid (HTE4.out hbf4);have HKC:=hid hkx4;clear hbf4 hkx4 HTE4 HPAN4 HKV4 HBY;go_upto_region 6 with fail;clear y0 y1 y2 y10 y11 q0 q1 q2 z0 z1 z2;obtain⟨b3,hb3⟩:∃b,((s.arrays.length:Int)==4)=b:=⟨_,rfl⟩
        have HPAN3:=hid (show b3=true→∀w',BA (fun _=>False) V w'→StepF w B M F (DZ p.conts s k sz li co nm) (.panicked (fwC 3 li co)) w' from fun hb w' hk=>by
          refine StepF.err ((HKV.out.trans hk).mono fun _ e=>e.elim) ?_;rw[hb,beq_iff_eq]at hb3;rw[HTE.out,if_pos (by omega)])
        have HOK:=hid (show b3=false→DZ p.conts s k sz li co nm=.ok { s with arrays:=s.arrays++[(nm,sz)] } from fun hb=>by
          rw[hb,BF]at hb3;rw[HTE.out,if_neg (by omega)])
        have HB3:=hid hb3
        cases b3
        · refine OwnX.CN (fun ch w'=>ch=fwC 3 li co∧false=true∧BA (fun _=>False) V w') (fun ch a' w' hd hx=>by obtain⟨rfl,hb,hk⟩:=hx;exact⟨hd.1,HPAN3.out hb w' hk⟩) (by kernel_rfl) DL3 (fun _=>[]) (fun _=>[]) [10] (by kernel_rfl) (fun i=>if i=10 then some (sBad false) else none) ?_
          iterate 10 (first
            |(apply OwnX.BZ rfl;simp only[Act.put,LS])
            |( apply OwnX.BC rfl rfl;focus (intro w' hk;obtain⟨⟨y0,y1,y2,y10,y11⟩,⟨q0,q1,q2⟩,z0,z1,z2,lk⟩:=HF.out w' ((HKC.out.trans (BA.drew (fun _=>False) _)).trans hk);go_simp;with_reducible rfl)
               simp only[Act.put,LS]))
          refine OwnX.BE rfl rfl (DD false 3 li co (fun w=>by kernel_rfl) fun w' hk hb=>⟨rfl,hb,(HKC.out.trans (BA.drew (fun _=>False) _)).trans hk⟩) fun g _=>?_;refine OwnX.BP ?_;intro W4 hk9 hF hG;have hb0:false=false:=(hF 10 (by simp)).1;have hk4:=(HKC.out.trans (BA.drew (fun _=>False) _)).trans hk9;clear hF hG hk9;simp only[sBad,Act.put,LS];go_upto_region 7 with fail;obtain⟨hB,hlt,hM,hrv,hra,hdj,f1,f2,f3,f4⟩:=HSV.out;have hkW:=HKV.out.trans hk4;have hB4:=hkW.blk hB;have hBl:=(AG.1 hB).1;have hR4:W4.ownsRow (B+1) TAy 2 (.slice pa s.arrays.length ca) s.arrays.length (arrsV s):=DK hra fun b hb=>hkW.block b (row_lt hra (CL.1 hb)).2 fun e=>e;obtain⟨l,hl1,hl2⟩:=hM.of_same (hkW.block M hM.lt fun e=>e);have hn0:mgetS l nm=none:=by rw[hl2,HT.out,HT0.out,if_pos rfl]
          obtain⟨o0,o1,o2,ck,g0,g1,g2,g3⟩:=map_enter under_map under_str (.int .i64 0) zero_what (.int .i64 2) hl1 hn0;rw[HS1.out]at g1
          have HFX:=hid (show ∀w',BA (fun b=>b=M∨b=B∨(Value.slice pa s.arrays.length ca).ownBlock=some b) W4.drew w'→w'.cell? ⟨C2,1,none⟩=some (.string S1)∧w'.cell? ⟨C2,2,none⟩=some (.int .i64 sz)from fun w' hk=>by
            obtain⟨⟨-,y1,y2,-⟩,-⟩:=HF.out W4.drew (hk4.trans (BA.drew (fun _=>False) W4))
            have hn:¬(C2=M∨C2=B∨(Value.slice pa s.arrays.length ca).ownBlock=some C2):=by
              have:=HN0.out;rintro (h|h|h)
              · omega
              · omega
              · have:=(row_lt hra (CL.1 h)).2;omega
            exact⟨hk.cell y1 hn,hk.cell y2 hn⟩)
          have HG1:=hid g1;have HG2:=hid g2;have HG3:=hid g3;have HL2:=hid hl2;have HKW:=hid hkW;have hn1:s.arrays.length≤16:=by have:=HSO.out;unfold ScOk at this;omega
          clear g1 g2 g3 hl2 hl1 hn0 hk4 hM hrv hra hdj f1 f2 f3 f4 hB;refine wp_own3 (by kernel_rfl) M B o0 _ g0 hB4 hlt (B+1) TAy 2 _ _ _ hR4 (by omega) (fun i=>[[],[0],[0,1],[0,1,2],[],[4],[],[],[7],[7,8],[7,8,9],[],[11],[],[13],[11,12,13,14],[11,12,13,14,15],[7,8,9,10,11,12,13,14,15,16],[0,1,2,3,4,5,7,8,9,10,11,12,13,14,15,16,17],[0,1,2,3,4,5,7,8,9,10,11,12,13,14,15,16,17,18],[0,1,2,3,4,5,7,8,9,10,11,12,13,14,15,16,17,18,19],[0,1,2,3,4,5,6,7,8,9,10,11,12,13,14,15,16,17,18,19,20],[0,1,2,3,4,5,6,7,8,9,10,11,12,13,14,15,16,17,18,19,20,21],[0,1,2,3,4,5,6,7,8,9,10,11,12,13,14,15,16,17,18,19,20,21,22]].getD i []) (fun i=>if i=3 then [25] else if i=10 then [25] else if i=17 then [26,16] else if i=18 then [24] else if i=20 then [18] else if i=23 then [25] else []) (fun i=>if i=17 then [26] else if i=18 then [24] else if i=20 then [18] else if i=23 then [25] else []) [17,20,23] (by kernel_rfl) (fun i=>if i=3 then some (BN (.map (some M))) else if i=10 then some (BN (.slice pa s.arrays.length ca)) else if i=16 then some (sOneV TAy #[.string S1,.int .i64 sz]) else if i=17 then some (sRow (B+1) TAy 2 (s.arrays.length+1) (arrsV s++[.string S1,.int .i64 sz])) else if i=18 then some (sMap M o1 (.tuple #[.int .i64 0,.int .i64 ck])) else if i=20 then some (sMap M o2 undef) else if i=23 then some (CT B 2 TScp #[.map (some M),.slice ps s.vars.length cs,.slice pa s.arrays.length ca,.int .i64 s.calls]) else none) ?_
          iterate 3 (first
            |(apply BZ rfl;simp only[Act.put,LS])
            |( apply BC rfl rfl;focus (intro w' hk;obtain⟨y1,y2⟩:=HFX.out w' hk;go_simp;with_reducible rfl)
               simp only[Act.put,LS]))
          refine BE rfl rfl (BY ⟨default,trivial⟩ (fun g _ w w' _ _ _ _ _=>trivial) fun w' hk hav _=>by
            obtain⟨x0,x1,x2,x3⟩:=blk4s (show w'.heap[B]?=some (.cells #[.map (some M),.slice ps s.vars.length cs,.slice pa s.arrays.length ca,.int .i64 s.calls] TScp (0,0)) from(hav 25 (by decide)).1);exact⟨w',default,trivial,.inl (by go_simp<;>rfl),BA.refl _ _,fun b h=>h.elim,trivial⟩) fun _ _=>?_
          simp only[BN,Act.put,LS]
          iterate 6 (first
            |(apply BZ rfl;simp only[Act.put,LS])
            |( apply BC rfl rfl;focus (intro w' hk;obtain⟨y1,y2⟩:=HFX.out w' hk;go_simp;with_reducible rfl)
               simp only[Act.put,LS]))
          refine BE rfl rfl (BY ⟨default,trivial⟩ (fun g _ w w' _ _ _ _ _=>trivial) fun w' hk hav _=>by
            obtain⟨x0,x1,x2,x3⟩:=blk4s (show w'.heap[B]?=some (.cells #[.map (some M),.slice ps s.vars.length cs,.slice pa s.arrays.length ca,.int .i64 s.calls] TScp (0,0)) from(hav 25 (by decide)).1);exact⟨w',default,trivial,.inl (by go_simp<;>rfl),BA.refl _ _,fun b h=>h.elim,trivial⟩) fun _ _=>?_
          simp only[Act.put,LS]
          iterate 5 (first
            |(apply BZ rfl;simp only[Act.put,LS])
            |( apply BC rfl rfl;focus (intro w' hk;obtain⟨y1,y2⟩:=HFX.out w' hk;go_simp;with_reducible rfl)
               simp only[Act.put,LS]))
          refine BE rfl rfl (loud_oneV TAy #[.string S1,.int .i64 sz] (fun w=>by go_simp)) fun g3 _=>?_;simp only[sOneV,Act.put,LS];refine BE rfl rfl (FC (B+1) TAy 43 (.agg #[.string ⟨#[]⟩,.int .i64 0]) 2 24 (by kernel_rfl) (by kernel_rfl) rfl (by decide) (.tmp 93) (.tmp 99) rfl (.slice pa s.arrays.length ca) s.arrays.length (arrsV s) g3.b [.string S1,.int .i64 sz] rfl rfl rfl (by simp[Value.oneCell']) (by unfold maxLen;omega) (by omega) (by have:=HKW.out.size;show B+1≤W4.heap.size;omega) 26 (by decide) (by decide) (fun w h=>h) (fun b hb=>.inr (.inr ⟨rfl,hb⟩)) 16 (by decide) (fun w h=>h)) fun g4 _=>?_;simp only[sRow,Act.put,LS]
          refine BE rfl rfl (BY ⟨default,trivial⟩ (fun _ _ _ _ _ _ _ hb hp=>(hb M rfl).trans hp) fun w' hk hav _=>by
            have hv:=hav 24 (by decide);obtain⟨w'',r1,r2,r3⟩:=HG1.out w' hv.1
            exact⟨w'',default,trivial,.inl (by go_simp;rfl),r3.mono fun b e=>⟨24,by decide,.inl ⟨rfl,e⟩⟩,fun b hb=>by
              have e:b=M:=hb;exact⟨.inr ⟨24,by decide,.inl ⟨rfl,e⟩⟩,by rw[e];exact(AG.1 r2).1⟩,r2⟩) fun g5 _=>?_
          simp only[sMap,Act.put,LS]
          iterate 1 (first
            |(apply BZ rfl;simp only[Act.put,LS])
            |( apply BC rfl rfl;focus (intro w' hk;obtain⟨y1,y2⟩:=HFX.out w' hk;go_simp;with_reducible rfl)
               simp only[Act.put,LS]))
          refine BE rfl rfl (BY ⟨default,trivial⟩ (fun _ _ _ _ _ _ _ hb hp=>(hb M rfl).trans hp) fun w' hk hav _=>by
            have hv:=hav 18 (by decide);obtain⟨w'',r1,r2,r3⟩:=HG2.out w' hv.1
            exact⟨w'',default,trivial,.inr ⟨by go_simp,rfl⟩,r3.mono fun b e=>⟨18,by decide,e⟩,fun b hb=>by
              have e:b=M:=hb;exact⟨.inr ⟨18,by decide,e⟩,by rw[e];exact(AG.1 r2).1⟩,r2⟩) fun g6 _=>?_
          simp only[Act.put]
          iterate 2 (first
            |(apply BZ rfl;simp only[Act.put,LS])
            |( apply BC rfl rfl;focus (intro w' hk;obtain⟨y1,y2⟩:=HFX.out w' hk;go_simp;with_reducible rfl)
               simp only[Act.put,LS]))
          refine BE rfl rfl (CS B 2 TScp #[.map (some M),.slice ps s.vars.length cs,.slice pa s.arrays.length ca,.int .i64 s.calls] (.slice g4.p (s.arrays.length+1) g4.c) (BV rfl rfl) (fun w u hc hf=>by go_simp<;>rfl) 25 (by decide) (by decide) (fun w h=>h) (.inr (.inl ⟨rfl,rfl⟩)) (by show 2<4;decide)) fun g7 _=>?_;simp only[CT,Act.put,LS];refine BP ?_;intro W6 hk9 hF hG;have fB:W6.heap[B]?=some (.cells #[.map (some M),.slice ps s.vars.length cs,.slice g4.p (s.arrays.length+1) g4.c,.int .i64 s.calls] TScp (0,0)):=(hF 23 (by decide)).1 _ (BV rfl rfl);have fM:=HG3.out W6 (hF 20 (by decide)).1;have fR:W6.ownsRow (B+1) TAy 2 (.slice g4.p (s.arrays.length+1) g4.c) (s.arrays.length+1) (arrsV s++[.string S1,.int .i64 sz]):=(hF 17 (by decide)).1;have fO:∀b,Of g4.p b→(W4.heap.size≤b∨b=M∨b=B∨(Value.slice pa s.arrays.length ca).ownBlock=some b):=fun b hb=>((hF 17 (by decide)).2 b hb).2;have fM':∀b,Of g4.p b→b≠M:=fun b hb=>hG 17 (by decide) 20 (by decide) (by decide) b hb;have fB':∀b,Of g4.p b→b≠B:=fun b hb=>hG 17 (by decide) 23 (by decide) (by decide) b hb;clear hF hG
          have HFIN:=hid (show StepF w B M F (DZ p.conts s k sz li co nm) (.returned (.tuple #[])) W6 by
            obtain⟨hB,hlt,hM,hrv,hra,hdj,f1,f2,f3,f4⟩:=HSV.out
            have hkF:BA F w W6:=(HKW.out.mono (E':=F) fun _ e=>e.elim).trans ((BA.drew F W4).trans (hk9.mono fun b hb=>by
              rcases hb with h|h|h
              · rw[h];exact f2
              · rw[h];exact f1
              · exact f4 b (CL.1 h)))
            have hsz:=HKW.out.size;refine StepF.ok hkF (HOK.out hb0) ?_;refine⟨ps,cs,g4.p,g4.c,by have h0:=fB;simpa using h0,hlt,⟨_,fM,fun x=>?_⟩,?_,?_,?_,.inl f1,.inl f2,?_,?_⟩
            · rw[mget_one l nm _ (by rw[HL2.out,HT.out,HT0.out,if_pos rfl]),told_arr (by rw[HT.out,HT0.out]),HL2.out];by_cases e:nm=x
              · rw[if_pos e,if_pos e];rfl
              · rw[if_neg e,if_neg e]
            · exact DK hrv fun b hb=>by
                have hb':=CL.1 hb;have h1:=row_lt hrv hb';refine((BA.drew (fun b=>b=M∨b=B∨(Value.slice pa s.arrays.length ca).ownBlock=some b) W4).trans hk9).block b (by have:=HKW.out.size;omega) ?_ |>.trans (HKW.out.block b h1.2 fun e=>e);rintro (h|h|h)
                · omega
                · omega
                · exact hdj b hb' (CL.1 h)
            · have e1:(s.arrays++[(nm,sz)]).length=s.arrays.length+1:=by simp
              have e2:arrsV { s with arrays:=s.arrays++[(nm,sz)] }=arrsV s++[.string S1,.int .i64 sz]:=by unfold arrsV;rw[List.flatMap_append,←HS1.out];rfl
              rw[e2];show W6.ownsRow (B+1) TAy 2 (.slice g4.p (s.arrays++[(nm,sz)]).length g4.c) (s.arrays++[(nm,sz)]).length _;rw[e1];exact fR
            · exact fun b hb hb2=>by
                have hn:=hb2;have ho:=hb;rcases fO b hn with h|h|h|h
                · have:=(row_lt hrv ho).2;omega
                · exact fM' b hn h
                · exact fB' b hn h
                · exact hdj b hb (CL.1 h)
            · exact fun b hb=>.inl (f3 b hb)
            · exact fun b hb=>by
                rcases fO b hb with h|h|h|h
                · exact .inr (by omega)
                · exact(fM' b hb h).elim
                · exact(fB' b hb h).elim
                · exact .inl (f4 b (CL.1 h)))
          clear fB fM fR fO fM' fB' hk9 HSV HF HN0 HFX HG1 HG2 HG3 HL2;go_wp2_with fail
          first|go_end0|go_ret|go_ret2
          exact HFIN.out
        · refine OwnX.CN (fun ch w'=>ch=fwC 3 li co∧true=true∧BA (fun _=>False) V w') (fun ch a' w' hd hx=>by obtain⟨rfl,hb,hk⟩:=hx;exact⟨hd.1,HPAN3.out rfl w' hk⟩) (by kernel_rfl) DL3 (fun _=>[]) (fun _=>[]) [10] (by kernel_rfl) (fun i=>if i=10 then some (sBad true) else none) ?_
          iterate 10 (first
            |(apply OwnX.BZ rfl;simp only[Act.put,LS])
            |( apply OwnX.BC rfl rfl;focus (intro w' hk;obtain⟨⟨y0,y1,y2,y10,y11⟩,⟨q0,q1,q2⟩,z0,z1,z2,lk⟩:=HF.out w' ((HKC.out.trans (BA.drew (fun _=>False) _)).trans hk);go_simp;with_reducible rfl)
               simp only[Act.put,LS]))
          refine OwnX.BE rfl rfl (DD true 3 li co (fun w=>by kernel_rfl) fun w' hk hb=>⟨rfl,by trivial,(HKC.out.trans (BA.drew (fun _=>False) _)).trans hk⟩) fun g _=>?_;refine OwnX.BP ?_;intro W4 hk9 hF hG;have hb0:true=false:=(hF 10 (by simp)).1;have hk4:=(HKC.out.trans (BA.drew (fun _=>False) _)).trans hk9;clear hF hG hk9;simp only[sBad,Act.put,LS];exact absurd hb0 (by decide)
end Go.Proofs.YtknnmidnodeanaaGreatDoor
