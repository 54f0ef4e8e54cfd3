import Derived.Test.YtknnmidnodeanaaGreatDoorJu13
set_option maxHeartbeats 32000000
set_option maxRecDepth 4000
namespace Go.Proofs.YtknnmidnodeanaaGreatDoor
open Go Go.RowKit Own
open Go.Lib (hid)
section
variable {w : World}{B : Nat}{a b c d e f g : Value}{T : TypeId}
end
def mayK (k o n:Int)(nm:List UInt8)(m:Nat):Bool:=
 if k=1 then decide (0≤n) && (decide (nm=[]) && (decide (o=0) && decide (m=0)))
 else if k=2∨k=3 then nameB nm && (decide (n=0) && (decide (o=0) && decide ((m:Int)=k - 2)))
 else if k=4 then (decide (o=1) || decide (o=2)) && (decide (n=0) && (decide (nm=[]) && decide (m=1)))
 else if k=5 then (decide (1≤o) && decide (o≤13)) && (decide (n=0) && (decide (nm=[]) && decide (m=2)))
 else false
mutual
def mayG:Gx→Bool
 |.mk k o n nm _ _ ks=>mayK k o n nm ks.length && DR ks
def DR:List Gx→Bool
 |[]=>true
 |x::l=>mayG x && DR l
end
theorem mayGL_any:∀l:List Gx,(l.any fun x=>!mayG x)=!DR l
 |[]=>by unfold DR;rfl
 | x::l=>by
  unfold DR;rw[List.any_cons,mayGL_any l]
  cases mayG x<;>rfl
theorem mayG_step (f:Nat)(hf:f≤1099511627776)(ih:∀x,FA x≤f→SaysMayG mayG x)(x:Gx)(hx:FA x≤f+1):SaysMayG mayG x:=by
 intro w S vs hT hex;obtain⟨k,o,n,nm,l,cl,ks⟩:=x;unfold GAt at hex;obtain⟨p,c,rfl,hp⟩:=hex;have hsz:CV ks≤f:=by unfold FA at hx;omega
 have hlen:=glen_size ks;have HKS:=hid (fun (W:World) (hk:BA (fun _=>False) w W)=>hasG_any mayG ks (fun i h=>ih ks[i] (by have:=gsize_mem h;omega)) (by omega) W (hk.tabS hT) S p c (hp.keep hk fun _ _ e=>e));have HNM:=hid (fun (W:World) (hk:BA (fun _=>False) w W)=>BW ⟨nm.toArray⟩ W (hk.tabS hT));obtain⟨V1,B1,hV1,hB1,hb1,hk1,hs1⟩:=BD w (.cells #[.int .i64 k,.int .i64 o,.int .i64 n,strV nm,.slice p ks.length c,.int .i64 l,.int .i64 cl] TEx);obtain⟨V2,B3,hV2,hB3,hb3,hk2,hs2⟩:=BD V1 (.cells #[.int .i64 k,.int .i64 o,.int .i64 n,.string ⟨nm.toArray⟩,.slice none 0 0,.int .i64 0,.int .i64 0] TEx);obtain⟨V7,B4,hV7,hB4,hb4,hk7,hs7⟩:=BD V2 (.cells #[.int .i64 k,.int .i64 0,.int .i64 0,.string ⟨#[]⟩,.slice none 0 0,.int .i64 0,.int .i64 0] TEx);have hkw:=hk1.trans hk2;have hkW:=hkw.trans hk7;have HNN:=hid (show w.heap.size≤B1∧B1<B3∧B3<B4∧B4<V7.heap.size by omega);have h13:B1≠B3:=by omega
 have HKW:=hid hkW;have HB1:=hid (hk7.blk (hk2.blk hb1));have HB3:=hid (hk7.blk hb3);have HB4:=hid hb4;obtain⟨mb,hmb⟩:∃mb,mayG (.mk k o n nm l cl ks)=mb:=⟨_,rfl⟩;have HMB:=hid (show (mayK k o n nm ks.length && DR ks)=mb by rw[←hmb];unfold mayG;rfl);rw[hmb];have HA:=hid (mayGL_any ks);obtain⟨m,hm⟩:∃m,ks.length=m:=⟨_,rfl⟩;rw[hm]at HKS hV1 HB1 HMB ⊢;unfold strV at hV1 HB1 ⊢;have h34:B1+1+1=B4∧B1+1=B3:=by omega
 clear hm hmb hx ih hT hp hsz hlen hb1 hk1 hs1 hb3 hk2 hs2 hb4 hk7 hs7 hkw hkW h13;go_enter Tryz.func93,Tryz.ntmps93;go_upto_region 5 with fail;rw[←hV1,←hV2,←hV7,←hB1,h34.1,h34.2];clear hV1 hV2 hV7 hB1 hB3 hB4 h34;obtain⟨a0,a1,a2,a3,a4,a5,a6,-⟩:=blk7 HB1.out;obtain⟨b0,b1,b2,b3,b4,b5,b6,-⟩:=blk7 HB3.out;obtain⟨c0,c1,c2,c3,c4,c5,c6,f0,f1,f2,f3,f4,f5,f6⟩:=blk7 HB4.out;by_cases k1:k=1
 ·subst k1;go_upto_region 17 with fail;clear a0 a1 a2 a3 a4 a5 a6 b0 b1 b2 b3 b4 b5 b6 c0 c1 c2 c3 c4 c5 c6 f0 f1 f2 f3 f4 f5 f6;obtain⟨WF,hwf,hbf,hkf⟩:=box_put2 HB4.out (.int .i64 (max 0 n));rw[←hwf];have HKF:=hid (HKW.out.new hkf fun b e=>by have e:b=B4:=e;have:=HNN.out;omega);have HB1F:=hid (hkf.blkE HB1.out fun e=>by have e:B1=B4:=e;have:=HNN.out;omega);have HB3F:=hid (hkf.blkE HB3.out fun e=>by have e:B3=B4:=e;have:=HNN.out;omega);have HB4F:=hid hbf;clear hwf hbf hkf;by_cases hn:0≤n
  ·have hmx:max 0 n=n:=by omega
   rw[hmx]at HB4F ⊢;clear hmx;have HN0:=hid hn;clear hn;obtain⟨a0,a1,a2,a3,a4,a5,a6,-⟩:=blk7 HB1F.out;obtain⟨b0,b1,b2,b3,b4,b5,b6,-⟩:=blk7 HB3F.out;obtain⟨c0,c1,c2,c3,c4,c5,c6,-⟩:=blk7 HB4F.out;by_cases e1:m=0
   ·subst e1;by_cases e3:nm=[]
    ·subst e3;by_cases e4:o=0
     ·subst e4;have HKC:=hid (HKS.out WF HKF.out);go_wp2_with fail;go_at_call 91;refine HKC.out.mono ?_;rintro e w9 ⟨rfl,hk9⟩;have HK9:=hid hk9;clear hk9;go_wp2_with fail;go_ret;exact⟨by rw[←HMB.out,HA.out];simp[mayK,HN0.out],HKF.out.trans HK9.out⟩
     ·have e4b:(o==0)=false:=by rw[BF];exact e4
      have e4h:=hid e4;clear e4;go_wp2_with fail;go_ret;exact⟨by rw[←HMB.out];simp[mayK,HN0.out,e4h.out],HKF.out⟩
    ·have e3b:(nm==[])=false:=BF.2 e3;have e3c:nm.isEmpty=false:=by simpa using e3
     have e3h:=hid e3;clear e3;go_wp2_with fail;go_ret;exact⟨by rw[←HMB.out];simp[mayK,HN0.out,e3h.out],HKF.out⟩
   ·have e1b:((m:Int)==0)=false:=by rw[BF];omega
    have e1h:=hid e1;clear e1;go_wp2_with fail;go_ret;exact⟨by rw[←HMB.out];simp[mayK,HN0.out,e1h.out],HKF.out⟩
  ·have hmx:max 0 n=0:=by omega
   rw[hmx]at HB4F ⊢;clear hmx;have HN0:=hid hn;obtain⟨a0,a1,a2,a3,a4,a5,a6,-⟩:=blk7 HB1F.out;obtain⟨b0,b1,b2,b3,b4,b5,b6,-⟩:=blk7 HB3F.out;obtain⟨c0,c1,c2,c3,c4,c5,c6,-⟩:=blk7 HB4F.out;have e2b:(n==0)=false:=by rw[BF];omega
   clear hn;by_cases e1:m=0
   ·subst e1;go_wp2_with fail;go_ret;exact⟨by rw[←HMB.out];simp[mayK,(show ¬(0:Int)≤n by have:=HN0.out;omega)],HKF.out⟩
   ·have e1b:((m:Int)==0)=false:=by rw[BF];omega
    have e1h:=hid e1;clear e1;go_wp2_with fail;go_ret;exact⟨by rw[←HMB.out];simp[mayK,(show ¬(0:Int)≤n by have:=HN0.out;omega)],HKF.out⟩
 ·by_cases k2:k=2
  ·subst k2;go_upto_region 11 with fail;clear a0 a1 a2 a3 a4 a5 a6 b0 b1 b2 b3 b4 b5 b6 c0 c1 c2 c3 c4 c5 c6 f0 f1 f2 f3 f4 f5 f6;obtain⟨nb,hnb⟩:∃nb,nameB nm=nb:=⟨_,rfl⟩;have HNB:=hid hnb;rw[show (⟨nm.toArray⟩:ByteArray).data.toList=nm from rfl,hnb]at HNM;clear hnb;have cc:=fun w' (h:BA (fun b=>b=B4) V7.drew w') (j:Nat) (v:Value) (hj:([.int .i64 2,.int .i64 o,.int .i64 n,.string ⟨nm.toArray⟩,.slice p m c,.int .i64 l,.int .i64 cl]:List Value)[j]?=some v)=>((BA.drew _ V7).trans h).cell (BH (k:=j) HB1.out (by simpa using hj)) (by have:=HNN.out;show ¬B1=B4;omega);refine wp_own1 (by kernel_rfl) B4 _ HB4.out (fun i=>[[],[0],[],[2],[2,3],[0,1],[0,1,2,3,4,5],[0,1,2,3,4,5,6]].getD i []) (fun i=>if i=6 then [8] else []) (fun i=>if i=6 then [8] else []) [6] (by kernel_rfl) (fun i=>if i=4 then some (BN (.bool nb)) else if i=6 then some (sCell B4 3 TEx #[.int .i64 2,.int .i64 0,.int .i64 0,.string ⟨#[]⟩,.slice none 0 0,.int .i64 0,.int .i64 0] (.string ⟨nm.toArray⟩)) else none) ?_;apply BC rfl rfl
   ·intro w' hk;go_simp;with_reducible rfl
   simp only[BN,Act.put,LS];apply BC rfl rfl
   ·intro w' hk;have d3:=cc w' hk 3 _ rfl;go_simp;with_reducible rfl
   simp only[Act.put,LS];apply BC rfl rfl
   ·intro w' hk;go_simp;with_reducible rfl
   simp only[Act.put,LS];apply BC rfl rfl
   ·intro w' hk;have d3:=cc w' hk 3 _ rfl;go_simp;with_reducible rfl
   simp only[Act.put,LS];refine BE rfl rfl (BR 48 #[.string ⟨nm.toArray⟩] (fun w=>by kernel_rfl) ⟨default,trivial⟩ (fun g _=>BX _) fun w' hk _ _=>(HNM.out w' (HKW.out.new ((BA.drew _ V7).trans hk) fun b e=>by have e:b=B4:=e;have:=HNN.out;omega)).mono ?_) fun g _=>?_
   ·rintro e w'' ⟨rfl,hq⟩;exact⟨default,trivial,rfl,hq.mono fun _ e=>e.elim,fun b h=>h.elim,trivial⟩
   simp only[Act.put,LS];apply BC rfl rfl
   ·intro w' hk;go_simp;with_reducible rfl
   simp only[Act.put,LS];refine BE rfl rfl (DW B4 3 TEx _ _ (fun w u hc hf=>by go_simp<;>rfl) 8 (by decide) (by decide) (fun w h=>h) ⟨rfl,rfl⟩ (by show 3<7;decide)) fun g8 _=>?_;simp only[sCell,Act.put,LS];apply BC rfl rfl
   ·intro w' hk;go_simp;with_reducible rfl
   simp only[Act.put,LS];refine BP ?_;intro WF hk9 hF _;have hbf:=(hF 6 (by decide)).1;have hbf:WF.heap[B4]?=some (.cells _ TEx (0,0)):=hbf
   try simp only[LS]at hbf
   have hkf:=(BA.drew (fun b=>b=B4) V7).trans hk9;have HKF:=hid (HKW.out.new hkf fun b e=>by have e:b=B4:=e;have:=HNN.out;omega);have HB1F:=hid (hkf.blkE HB1.out fun e=>by have e:B1=B4:=e;have:=HNN.out;omega);have HB3F:=hid (hkf.blkE HB3.out fun e=>by have e:B3=B4:=e;have:=HNN.out;omega);have HB4F:=hid hbf;clear hk9 hF cc hbf hkf;obtain⟨q0,-⟩:=blk7 HB1F.out;go_upto_region 17 with fail;clear q0
   cases nb with
   | true=>
    obtain⟨a0,a1,a2,a3,a4,a5,a6,-⟩:=blk7 HB1F.out;obtain⟨b0,b1,b2,b3,b4,b5,b6,-⟩:=blk7 HB3F.out;obtain⟨c0,c1,c2,c3,c4,c5,c6,-⟩:=blk7 HB4F.out;by_cases e1:m=0
    ·subst e1;by_cases e2:n=0
     ·subst e2;by_cases e4:o=0
      ·subst e4;have HKC:=hid (HKS.out WF HKF.out);go_wp2_with fail;go_at_call 91;refine HKC.out.mono ?_;rintro e w9 ⟨rfl,hk9⟩;have HK9:=hid hk9;clear hk9;go_wp2_with fail;go_ret;exact⟨by rw[←HMB.out,HA.out];simp[mayK,HNB.out],HKF.out.trans HK9.out⟩
      ·have e4b:(o==0)=false:=by rw[BF];exact e4
       have e4h:=hid e4;clear e4;go_wp2_with fail;go_ret;exact⟨by rw[←HMB.out];simp[mayK,HNB.out,e4h.out],HKF.out⟩
     ·have e2b:(n==0)=false:=by rw[BF];exact e2
      have e2h:=hid e2;clear e2;go_wp2_with fail;go_ret;exact⟨by rw[←HMB.out];simp[mayK,HNB.out,e2h.out],HKF.out⟩
    ·have e1b:((m:Int)==0)=false:=by rw[BF];omega
     have e1h:=hid e1;clear e1;go_wp2_with fail;go_ret;exact⟨by rw[←HMB.out];simp[mayK,HNB.out,e1h.out],HKF.out⟩
   | false=>
    obtain⟨a0,a1,a2,a3,a4,a5,a6,-⟩:=blk7 HB1F.out;obtain⟨b0,b1,b2,b3,b4,b5,b6,-⟩:=blk7 HB3F.out;obtain⟨c0,c1,c2,c3,c4,c5,c6,-⟩:=blk7 HB4F.out;go_wp2_with fail;go_ret;exact⟨by rw[←HMB.out];simp[mayK,HNB.out],HKF.out⟩
  ·by_cases k3:k=3
   ·subst k3;go_upto_region 11 with fail;clear a0 a1 a2 a3 a4 a5 a6 b0 b1 b2 b3 b4 b5 b6 c0 c1 c2 c3 c4 c5 c6 f0 f1 f2 f3 f4 f5 f6;obtain⟨nb,hnb⟩:∃nb,nameB nm=nb:=⟨_,rfl⟩;have HNB:=hid hnb;rw[show (⟨nm.toArray⟩:ByteArray).data.toList=nm from rfl,hnb]at HNM;clear hnb;have cc:=fun w' (h:BA (fun b=>b=B4) V7.drew w') (j:Nat) (v:Value) (hj:([.int .i64 3,.int .i64 o,.int .i64 n,.string ⟨nm.toArray⟩,.slice p m c,.int .i64 l,.int .i64 cl]:List Value)[j]?=some v)=>((BA.drew _ V7).trans h).cell (BH (k:=j) HB1.out (by simpa using hj)) (by have:=HNN.out;show ¬B1=B4;omega);refine wp_own1 (by kernel_rfl) B4 _ HB4.out (fun i=>[[],[0],[],[2],[2,3],[0,1],[0,1,2,3,4,5],[0,1,2,3,4,5,6]].getD i []) (fun i=>if i=6 then [8] else []) (fun i=>if i=6 then [8] else []) [6] (by kernel_rfl) (fun i=>if i=4 then some (BN (.bool nb)) else if i=6 then some (sCell B4 3 TEx #[.int .i64 3,.int .i64 0,.int .i64 0,.string ⟨#[]⟩,.slice none 0 0,.int .i64 0,.int .i64 0] (.string ⟨nm.toArray⟩)) else none) ?_;apply BC rfl rfl
    ·intro w' hk;go_simp;with_reducible rfl
    simp only[BN,Act.put,LS];apply BC rfl rfl
    ·intro w' hk;have d3:=cc w' hk 3 _ rfl;go_simp;with_reducible rfl
    simp only[Act.put,LS];apply BC rfl rfl
    ·intro w' hk;go_simp;with_reducible rfl
    simp only[Act.put,LS];apply BC rfl rfl
    ·intro w' hk;have d3:=cc w' hk 3 _ rfl;go_simp;with_reducible rfl
    simp only[Act.put,LS];refine BE rfl rfl (BR 48 #[.string ⟨nm.toArray⟩] (fun w=>by kernel_rfl) ⟨default,trivial⟩ (fun g _=>BX _) fun w' hk _ _=>(HNM.out w' (HKW.out.new ((BA.drew _ V7).trans hk) fun b e=>by have e:b=B4:=e;have:=HNN.out;omega)).mono ?_) fun g _=>?_
    ·rintro e w'' ⟨rfl,hq⟩;exact⟨default,trivial,rfl,hq.mono fun _ e=>e.elim,fun b h=>h.elim,trivial⟩
    simp only[Act.put,LS];apply BC rfl rfl
    ·intro w' hk;go_simp;with_reducible rfl
    simp only[Act.put,LS];refine BE rfl rfl (DW B4 3 TEx _ _ (fun w u hc hf=>by go_simp<;>rfl) 8 (by decide) (by decide) (fun w h=>h) ⟨rfl,rfl⟩ (by show 3<7;decide)) fun g8 _=>?_;simp only[sCell,Act.put,LS];apply BC rfl rfl
    ·intro w' hk;go_simp;with_reducible rfl
    simp only[Act.put,LS];refine BP ?_;intro WF hk9 hF _;have hbf:=(hF 6 (by decide)).1;have hbf:WF.heap[B4]?=some (.cells _ TEx (0,0)):=hbf
    try simp only[LS]at hbf
    have hkf:=(BA.drew (fun b=>b=B4) V7).trans hk9;have HKF:=hid (HKW.out.new hkf fun b e=>by have e:b=B4:=e;have:=HNN.out;omega);have HB1F:=hid (hkf.blkE HB1.out fun e=>by have e:B1=B4:=e;have:=HNN.out;omega);have HB3F:=hid (hkf.blkE HB3.out fun e=>by have e:B3=B4:=e;have:=HNN.out;omega);have HB4F:=hid hbf;clear hk9 hF cc hbf hkf;obtain⟨q0,-⟩:=blk7 HB1F.out;go_upto_region 17 with fail;clear q0
    cases nb with
    | true=>
     obtain⟨a0,a1,a2,a3,a4,a5,a6,-⟩:=blk7 HB1F.out;obtain⟨b0,b1,b2,b3,b4,b5,b6,-⟩:=blk7 HB3F.out;obtain⟨c0,c1,c2,c3,c4,c5,c6,-⟩:=blk7 HB4F.out;by_cases e1:m=1
     ·subst e1;by_cases e2:n=0
      ·subst e2;by_cases e4:o=0
       ·subst e4;have HKC:=hid (HKS.out WF HKF.out);go_wp2_with fail;go_at_call 91;refine HKC.out.mono ?_;rintro e w9 ⟨rfl,hk9⟩;have HK9:=hid hk9;clear hk9;go_wp2_with fail;go_ret;exact⟨by rw[←HMB.out,HA.out];simp[mayK,HNB.out],HKF.out.trans HK9.out⟩
       ·have e4b:(o==0)=false:=by rw[BF];exact e4
        have e4h:=hid e4;clear e4;go_wp2_with fail;go_ret;exact⟨by rw[←HMB.out];simp[mayK,HNB.out,e4h.out],HKF.out⟩
      ·have e2b:(n==0)=false:=by rw[BF];exact e2
       have e2h:=hid e2;clear e2;go_wp2_with fail;go_ret;exact⟨by rw[←HMB.out];simp[mayK,HNB.out,e2h.out],HKF.out⟩
     ·have e1b:((m:Int)==1)=false:=by rw[BF];omega
      have e1h:=hid e1;clear e1;go_wp2_with fail;go_ret;exact⟨by rw[←HMB.out];simp[mayK,HNB.out,(show ¬(m:Int)=1 by have:=e1h.out;omega)],HKF.out⟩
    | false=>
     obtain⟨a0,a1,a2,a3,a4,a5,a6,-⟩:=blk7 HB1F.out;obtain⟨b0,b1,b2,b3,b4,b5,b6,-⟩:=blk7 HB3F.out;obtain⟨c0,c1,c2,c3,c4,c5,c6,-⟩:=blk7 HB4F.out;go_wp2_with fail;go_ret;exact⟨by rw[←HMB.out];simp[mayK,HNB.out],HKF.out⟩
   ·by_cases k4:k=4
    ·subst k4;by_cases o1:o=1
     ·subst o1;go_upto_region 14 with fail;clear a0 a1 a2 a3 a4 a5 a6 b0 b1 b2 b3 b4 b5 b6 c0 c1 c2 c3 c4 c5 c6 f0 f1 f2 f3 f4 f5 f6;have cc:=fun w' (h:BA (fun b=>b=B4) V7.drew w') (j:Nat) (v:Value) (hj:([.int .i64 4,.int .i64 1,.int .i64 n,.string ⟨nm.toArray⟩,.slice p m c,.int .i64 l,.int .i64 cl]:List Value)[j]?=some v)=>((BA.drew _ V7).trans h).cell (BH (k:=j) HB1.out (by simpa using hj)) (by have:=HNN.out;show ¬B1=B4;omega);refine wp_own1 (by kernel_rfl) B4 _ HB4.out DL0 (fun i=>if i=11 then [14] else []) (fun i=>if i=11 then [14] else []) [11] (by kernel_rfl) (fun i=>if i=11 then some (sCell B4 1 TEx #[.int .i64 4,.int .i64 0,.int .i64 0,.string ⟨#[]⟩,.slice none 0 0,.int .i64 0,.int .i64 0] (.int .i64 1)) else none) ?_;apply BC rfl rfl
      ·intro w' hk;go_simp;with_reducible rfl
      simp only[Act.put,LS];apply BC rfl rfl
      ·intro w' hk;have d1:=cc w' hk 1 _ rfl;go_simp;with_reducible rfl
      simp only[Act.put,LS];apply BC rfl rfl
      ·intro w' hk;go_simp;with_reducible rfl
      simp only[Act.put,LS];apply BC rfl rfl
      ·intro w' hk;have d1:=cc w' hk 1 _ rfl;go_simp;with_reducible rfl
      simp only[Act.put,LS]
      repeat first|apply BZ rfl;simp only[Act.put,LS]|refine BC rfl rfl (fun w' hk=>by go_simp;with_reducible rfl) ?_;simp only[Act.put,LS]
      refine BE rfl rfl (DW B4 1 TEx _ _ (fun w u hc hf=>by go_simp<;>rfl) 14 (by decide) (by decide) (fun w h=>h) ⟨rfl,rfl⟩ (by show 1<7;decide)) fun g8 _=>?_;simp only[sCell,Act.put,LS]
      repeat refine BC rfl rfl (fun w' hk=>by go_simp;with_reducible rfl) ?_;simp only[Act.put,LS]
      refine BP ?_;intro WF hk9 hF _;have hbf:=(hF 11 (by decide)).1;have hbf:WF.heap[B4]?=some (.cells _ TEx (0,0)):=hbf
      try simp only[LS]at hbf
      have hkf:=(BA.drew (fun b=>b=B4) V7).trans hk9;have HKF:=hid (HKW.out.new hkf fun b e=>by have e:b=B4:=e;have:=HNN.out;omega);have HB1F:=hid (hkf.blkE HB1.out fun e=>by have e:B1=B4:=e;have:=HNN.out;omega);have HB3F:=hid (hkf.blkE HB3.out fun e=>by have e:B3=B4:=e;have:=HNN.out;omega);have HB4F:=hid hbf;clear hk9 hF cc hbf hkf;obtain⟨q0,-⟩:=blk7 HB1F.out;go_upto_region 17 with fail;clear q0;obtain⟨a0,a1,a2,a3,a4,a5,a6,-⟩:=blk7 HB1F.out;obtain⟨b0,b1,b2,b3,b4,b5,b6,-⟩:=blk7 HB3F.out;obtain⟨c0,c1,c2,c3,c4,c5,c6,-⟩:=blk7 HB4F.out;by_cases e1:m=1
      ·subst e1;by_cases e2:n=0
       ·subst e2;by_cases e3:nm=[]
        ·subst e3;have HKC:=hid (HKS.out WF HKF.out);go_wp2_with fail;go_at_call 91;refine HKC.out.mono ?_;rintro e w9 ⟨rfl,hk9⟩;have HK9:=hid hk9;clear hk9;go_wp2_with fail;go_ret;exact⟨by rw[←HMB.out,HA.out];simp[mayK],HKF.out.trans HK9.out⟩
        ·have e3b:(nm==[])=false:=BF.2 e3;have e3c:nm.isEmpty=false:=by simpa using e3
         have e3h:=hid e3;clear e3;go_wp2_with fail;go_ret;exact⟨by rw[←HMB.out];simp[mayK,e3h.out],HKF.out⟩
       ·have e2b:(n==0)=false:=by rw[BF];exact e2
        have e2h:=hid e2;clear e2;go_wp2_with fail;go_ret;exact⟨by rw[←HMB.out];simp[mayK,e2h.out],HKF.out⟩
      ·have e1b:((m:Int)==1)=false:=by rw[BF];omega
       have e1h:=hid e1;clear e1;go_wp2_with fail;go_ret;exact⟨by rw[←HMB.out];simp[mayK,e1h.out],HKF.out⟩
     ·by_cases o2:o=2
      ·subst o2;go_upto_region 14 with fail;clear a0 a1 a2 a3 a4 a5 a6 b0 b1 b2 b3 b4 b5 b6 c0 c1 c2 c3 c4 c5 c6 f0 f1 f2 f3 f4 f5 f6;have cc:=fun w' (h:BA (fun b=>b=B4) V7.drew w') (j:Nat) (v:Value) (hj:([.int .i64 4,.int .i64 2,.int .i64 n,.string ⟨nm.toArray⟩,.slice p m c,.int .i64 l,.int .i64 cl]:List Value)[j]?=some v)=>((BA.drew _ V7).trans h).cell (BH (k:=j) HB1.out (by simpa using hj)) (by have:=HNN.out;show ¬B1=B4;omega);refine wp_own1 (by kernel_rfl) B4 _ HB4.out DL0 (fun i=>if i=11 then [14] else []) (fun i=>if i=11 then [14] else []) [11] (by kernel_rfl) (fun i=>if i=11 then some (sCell B4 1 TEx #[.int .i64 4,.int .i64 0,.int .i64 0,.string ⟨#[]⟩,.slice none 0 0,.int .i64 0,.int .i64 0] (.int .i64 2)) else none) ?_;apply BC rfl rfl
       ·intro w' hk;go_simp;with_reducible rfl
       simp only[Act.put,LS];apply BC rfl rfl
       ·intro w' hk;have d1:=cc w' hk 1 _ rfl;go_simp;with_reducible rfl
       simp only[Act.put,LS];apply BC rfl rfl
       ·intro w' hk;go_simp;with_reducible rfl
       simp only[Act.put,LS];apply BC rfl rfl
       ·intro w' hk;have d1:=cc w' hk 1 _ rfl;go_simp;with_reducible rfl
       simp only[Act.put,LS];apply BC rfl rfl
       ·intro w' hk;go_simp;with_reducible rfl
       simp only[Act.put,LS];apply BC rfl rfl
       ·intro w' hk;go_simp;with_reducible rfl
       simp only[Act.put,LS];apply BC rfl rfl
       ·intro w' hk;go_simp;with_reducible rfl
       simp only[Act.put,LS];apply BC rfl rfl
       ·intro w' hk;have d1:=cc w' hk 1 _ rfl;go_simp;with_reducible rfl
       simp only[Act.put,LS]
       repeat refine BC rfl rfl (fun w' hk=>by go_simp;with_reducible rfl) ?_;simp only[Act.put,LS]
       refine BE rfl rfl (DW B4 1 TEx _ _ (fun w u hc hf=>by go_simp<;>rfl) 14 (by decide) (by decide) (fun w h=>h) ⟨rfl,rfl⟩ (by show 1<7;decide)) fun g8 _=>?_;simp only[sCell,Act.put,LS]
       repeat refine BC rfl rfl (fun w' hk=>by go_simp;with_reducible rfl) ?_;simp only[Act.put,LS]
       refine BP ?_;intro WF hk9 hF _;have hbf:=(hF 11 (by decide)).1;have hbf:WF.heap[B4]?=some (.cells _ TEx (0,0)):=hbf
       try simp only[LS]at hbf
       have hkf:=(BA.drew (fun b=>b=B4) V7).trans hk9;have HKF:=hid (HKW.out.new hkf fun b e=>by have e:b=B4:=e;have:=HNN.out;omega);have HB1F:=hid (hkf.blkE HB1.out fun e=>by have e:B1=B4:=e;have:=HNN.out;omega);have HB3F:=hid (hkf.blkE HB3.out fun e=>by have e:B3=B4:=e;have:=HNN.out;omega);have HB4F:=hid hbf;clear hk9 hF cc hbf hkf;obtain⟨q0,-⟩:=blk7 HB1F.out;go_upto_region 17 with fail;clear q0;obtain⟨a0,a1,a2,a3,a4,a5,a6,-⟩:=blk7 HB1F.out;obtain⟨b0,b1,b2,b3,b4,b5,b6,-⟩:=blk7 HB3F.out;obtain⟨c0,c1,c2,c3,c4,c5,c6,-⟩:=blk7 HB4F.out;by_cases e1:m=1
       ·subst e1;by_cases e2:n=0
        ·subst e2;by_cases e3:nm=[]
         ·subst e3;have HKC:=hid (HKS.out WF HKF.out);go_wp2_with fail;go_at_call 91;refine HKC.out.mono ?_;rintro e w9 ⟨rfl,hk9⟩;have HK9:=hid hk9;clear hk9;go_wp2_with fail;go_ret;exact⟨by rw[←HMB.out,HA.out];simp[mayK],HKF.out.trans HK9.out⟩
         ·have e3b:(nm==[])=false:=BF.2 e3;have e3c:nm.isEmpty=false:=by simpa using e3
          have e3h:=hid e3;clear e3;go_wp2_with fail;go_ret;exact⟨by rw[←HMB.out];simp[mayK,e3h.out],HKF.out⟩
        ·have e2b:(n==0)=false:=by rw[BF];exact e2
         have e2h:=hid e2;clear e2;go_wp2_with fail;go_ret;exact⟨by rw[←HMB.out];simp[mayK,e2h.out],HKF.out⟩
       ·have e1b:((m:Int)==1)=false:=by rw[BF];omega
        have e1h:=hid e1;clear e1;go_wp2_with fail;go_ret;exact⟨by rw[←HMB.out];simp[mayK,e1h.out],HKF.out⟩
      ·have HO:=hid (And.intro o1 o2);have o1b:(o==1)=false:=by rw[BF];exact o1
       have o2b:(o==2)=false:=by rw[BF];exact o2
       clear o1 o2;go_upto_region 14 with fail;clear a0 a1 a2 a3 a4 a5 a6 b0 b1 b2 b3 b4 b5 b6 c0 c1 c2 c3 c4 c5 c6 f0 f1 f2 f3 f4 f5 f6;have cc:=fun w' (h:BA (fun b=>b=B4) V7.drew w') (j:Nat) (v:Value) (hj:([.int .i64 4,.int .i64 o,.int .i64 n,.string ⟨nm.toArray⟩,.slice p m c,.int .i64 l,.int .i64 cl]:List Value)[j]?=some v)=>((BA.drew _ V7).trans h).cell (BH (k:=j) HB1.out (by simpa using hj)) (by have:=HNN.out;show ¬B1=B4;omega);refine wp_own1 (by kernel_rfl) B4 _ HB4.out DL0 (fun i=>if i=11 then [14] else []) (fun i=>if i=11 then [14] else []) [11] (by kernel_rfl) (fun i=>if i=11 then some (sCell B4 1 TEx #[.int .i64 4,.int .i64 0,.int .i64 0,.string ⟨#[]⟩,.slice none 0 0,.int .i64 0,.int .i64 0] (.int .i64 o)) else none) ?_;apply BC rfl rfl
       ·intro w' hk;go_simp;with_reducible rfl
       simp only[Act.put,LS];apply BC rfl rfl
       ·intro w' hk;have d1:=cc w' hk 1 _ rfl;go_simp;with_reducible rfl
       simp only[Act.put,LS];apply BC rfl rfl
       ·intro w' hk;go_simp;with_reducible rfl
       simp only[Act.put,LS];apply BC rfl rfl
       ·intro w' hk;have d1:=cc w' hk 1 _ rfl;go_simp;with_reducible rfl
       simp only[Act.put,LS];apply BC rfl rfl
       ·intro w' hk;go_simp;with_reducible rfl
       simp only[Act.put,LS];apply BC rfl rfl
       ·intro w' hk;go_simp;with_reducible rfl
       simp only[Act.put,LS];apply BC rfl rfl
       ·intro w' hk;go_simp;with_reducible rfl
       simp only[Act.put,LS];apply BC rfl rfl
       ·intro w' hk;have d1:=cc w' hk 1 _ rfl;go_simp;with_reducible rfl
       simp only[Act.put,LS]
       repeat refine BC rfl rfl (fun w' hk=>by go_simp;with_reducible rfl) ?_;simp only[Act.put,LS]
       refine BE rfl rfl (DW B4 1 TEx _ _ (fun w u hc hf=>by go_simp<;>rfl) 14 (by decide) (by decide) (fun w h=>h) ⟨rfl,rfl⟩ (by show 1<7;decide)) fun g8 _=>?_;simp only[sCell,Act.put,LS]
       repeat refine BC rfl rfl (fun w' hk=>by go_simp;with_reducible rfl) ?_;simp only[Act.put,LS]
       refine BP ?_;intro WF hk9 hF _;have hbf:=(hF 11 (by decide)).1;have hbf:WF.heap[B4]?=some (.cells _ TEx (0,0)):=hbf
       try simp only[LS]at hbf
       have hkf:=(BA.drew (fun b=>b=B4) V7).trans hk9;have HKF:=hid (HKW.out.new hkf fun b e=>by have e:b=B4:=e;have:=HNN.out;omega);have HB1F:=hid (hkf.blkE HB1.out fun e=>by have e:B1=B4:=e;have:=HNN.out;omega);have HB3F:=hid (hkf.blkE HB3.out fun e=>by have e:B3=B4:=e;have:=HNN.out;omega);have HB4F:=hid hbf;clear hk9 hF cc hbf hkf;obtain⟨q0,-⟩:=blk7 HB1F.out;go_upto_region 17 with fail;clear q0;obtain⟨a0,a1,a2,a3,a4,a5,a6,-⟩:=blk7 HB1F.out;obtain⟨b0,b1,b2,b3,b4,b5,b6,-⟩:=blk7 HB3F.out;obtain⟨c0,c1,c2,c3,c4,c5,c6,-⟩:=blk7 HB4F.out;go_wp2_with fail;go_ret;exact⟨by rw[←HMB.out];simp[mayK,HO.out.1,HO.out.2],HKF.out⟩
    ·by_cases k5:k=5
     ·subst k5;by_cases o1:1≤o
      ·by_cases o2:o≤13
       ·go_upto_region 16 with fail;clear a0 a1 a2 a3 a4 a5 a6 b0 b1 b2 b3 b4 b5 b6 c0 c1 c2 c3 c4 c5 c6 f0 f1 f2 f3 f4 f5 f6;have cc:=fun w' (h:BA (fun b=>b=B4) V7.drew w') (j:Nat) (v:Value) (hj:([.int .i64 5,.int .i64 o,.int .i64 n,.string ⟨nm.toArray⟩,.slice p m c,.int .i64 l,.int .i64 cl]:List Value)[j]?=some v)=>((BA.drew _ V7).trans h).cell (BH (k:=j) HB1.out (by simpa using hj)) (by have:=HNN.out;show ¬B1=B4;omega);refine wp_own1 (by kernel_rfl) B4 _ HB4.out DL0 (fun i=>if i=11 then [14] else []) (fun i=>if i=11 then [14] else []) [11] (by kernel_rfl) (fun i=>if i=11 then some (sCell B4 1 TEx #[.int .i64 5,.int .i64 0,.int .i64 0,.string ⟨#[]⟩,.slice none 0 0,.int .i64 0,.int .i64 0] (.int .i64 o)) else none) ?_;apply BC rfl rfl
        ·intro w' hk;go_simp;with_reducible rfl
        simp only[Act.put,LS];apply BC rfl rfl
        ·intro w' hk;have d1:=cc w' hk 1 _ rfl;go_simp;with_reducible rfl
        simp only[Act.put,LS];apply BC rfl rfl
        ·intro w' hk;go_simp;with_reducible rfl
        simp only[Act.put,LS];apply BC rfl rfl
        ·intro w' hk;have d1:=cc w' hk 1 _ rfl;go_simp;with_reducible rfl
        simp only[Act.put,LS];apply BC rfl rfl
        ·intro w' hk;go_simp;with_reducible rfl
        simp only[Act.put,LS];apply BC rfl rfl
        ·intro w' hk;go_simp;with_reducible rfl
        simp only[Act.put,LS];apply BC rfl rfl
        ·intro w' hk;go_simp;with_reducible rfl
        simp only[Act.put,LS];apply BC rfl rfl
        ·intro w' hk;have d1:=cc w' hk 1 _ rfl;go_simp;with_reducible rfl
        simp only[Act.put,LS]
        repeat refine BC rfl rfl (fun w' hk=>by go_simp;with_reducible rfl) ?_;simp only[Act.put,LS]
        refine BE rfl rfl (DW B4 1 TEx _ _ (fun w u hc hf=>by go_simp<;>rfl) 14 (by decide) (by decide) (fun w h=>h) ⟨rfl,rfl⟩ (by show 1<7;decide)) fun g8 _=>?_;simp only[sCell,Act.put,LS]
        repeat refine BC rfl rfl (fun w' hk=>by go_simp;with_reducible rfl) ?_;simp only[Act.put,LS]
        refine BP ?_;intro WF hk9 hF _;have hbf:=(hF 11 (by decide)).1;have hbf:WF.heap[B4]?=some (.cells _ TEx (0,0)):=hbf
        try simp only[LS]at hbf
        have hkf:=(BA.drew (fun b=>b=B4) V7).trans hk9;have HKF:=hid (HKW.out.new hkf fun b e=>by have e:b=B4:=e;have:=HNN.out;omega);have HB1F:=hid (hkf.blkE HB1.out fun e=>by have e:B1=B4:=e;have:=HNN.out;omega);have HB3F:=hid (hkf.blkE HB3.out fun e=>by have e:B3=B4:=e;have:=HNN.out;omega);have HB4F:=hid hbf;clear hk9 hF cc hbf hkf;have HO:=hid (show 1≤o∧o≤13 from⟨o1,o2⟩);clear o1 o2;obtain⟨q0,-⟩:=blk7 HB1F.out;go_upto_region 17 with fail;clear q0;obtain⟨a0,a1,a2,a3,a4,a5,a6,-⟩:=blk7 HB1F.out;obtain⟨b0,b1,b2,b3,b4,b5,b6,-⟩:=blk7 HB3F.out;obtain⟨c0,c1,c2,c3,c4,c5,c6,-⟩:=blk7 HB4F.out;by_cases e1:m=2
        ·subst e1;by_cases e2:n=0
         ·subst e2;by_cases e3:nm=[]
          ·subst e3;have HKC:=hid (HKS.out WF HKF.out);go_wp2_with fail;go_at_call 91;refine HKC.out.mono ?_;rintro e w9 ⟨rfl,hk9⟩;have HK9:=hid hk9;clear hk9;go_wp2_with fail;go_ret;exact⟨by rw[←HMB.out,HA.out];simp[mayK,decide_eq_true (show 1≤o by have:=HO.out;omega),decide_eq_true (show o≤13 by have:=HO.out;omega)],HKF.out.trans HK9.out⟩
          ·have e3b:(nm==[])=false:=BF.2 e3;have e3c:nm.isEmpty=false:=by simpa using e3
           have e3h:=hid e3;clear e3;go_wp2_with fail;go_ret;exact⟨by rw[←HMB.out];simp[mayK,decide_eq_true (show 1≤o by have:=HO.out;omega),decide_eq_true (show o≤13 by have:=HO.out;omega),e3h.out],HKF.out⟩
         ·have e2b:(n==0)=false:=by rw[BF];exact e2
          have e2h:=hid e2;clear e2;go_wp2_with fail;go_ret;exact⟨by rw[←HMB.out];simp[mayK,decide_eq_true (show 1≤o by have:=HO.out;omega),decide_eq_true (show o≤13 by have:=HO.out;omega),e2h.out],HKF.out⟩
        ·have e1b:((m:Int)==2)=false:=by rw[BF];omega
         have e1h:=hid e1;clear e1;go_wp2_with fail;go_ret;exact⟨by rw[←HMB.out];simp[mayK,decide_eq_true (show 1≤o by have:=HO.out;omega),decide_eq_true (show o≤13 by have:=HO.out;omega),e1h.out],HKF.out⟩
       ·go_upto_region 16 with fail;clear a0 a1 a2 a3 a4 a5 a6 b0 b1 b2 b3 b4 b5 b6 c0 c1 c2 c3 c4 c5 c6 f0 f1 f2 f3 f4 f5 f6;have cc:=fun w' (h:BA (fun b=>b=B4) V7.drew w') (j:Nat) (v:Value) (hj:([.int .i64 5,.int .i64 o,.int .i64 n,.string ⟨nm.toArray⟩,.slice p m c,.int .i64 l,.int .i64 cl]:List Value)[j]?=some v)=>((BA.drew _ V7).trans h).cell (BH (k:=j) HB1.out (by simpa using hj)) (by have:=HNN.out;show ¬B1=B4;omega);refine wp_own1 (by kernel_rfl) B4 _ HB4.out DL0 (fun i=>if i=11 then [14] else []) (fun i=>if i=11 then [14] else []) [11] (by kernel_rfl) (fun i=>if i=11 then some (sCell B4 1 TEx #[.int .i64 5,.int .i64 0,.int .i64 0,.string ⟨#[]⟩,.slice none 0 0,.int .i64 0,.int .i64 0] (.int .i64 o)) else none) ?_;apply BC rfl rfl
        ·intro w' hk;go_simp;with_reducible rfl
        simp only[Act.put,LS];apply BC rfl rfl
        ·intro w' hk;have d1:=cc w' hk 1 _ rfl;go_simp;with_reducible rfl
        simp only[Act.put,LS];apply BC rfl rfl
        ·intro w' hk;go_simp;with_reducible rfl
        simp only[Act.put,LS];apply BC rfl rfl
        ·intro w' hk;have d1:=cc w' hk 1 _ rfl;go_simp;with_reducible rfl
        simp only[Act.put,LS];apply BC rfl rfl
        ·intro w' hk;go_simp;with_reducible rfl
        simp only[Act.put,LS];apply BC rfl rfl
        ·intro w' hk;go_simp;with_reducible rfl
        simp only[Act.put,LS];apply BC rfl rfl
        ·intro w' hk;go_simp;with_reducible rfl
        simp only[Act.put,LS];apply BC rfl rfl
        ·intro w' hk;have d1:=cc w' hk 1 _ rfl;go_simp;with_reducible rfl
        simp only[Act.put,LS]
        repeat refine BC rfl rfl (fun w' hk=>by go_simp;with_reducible rfl) ?_;simp only[Act.put,LS]
        refine BE rfl rfl (DW B4 1 TEx _ _ (fun w u hc hf=>by go_simp<;>rfl) 14 (by decide) (by decide) (fun w h=>h) ⟨rfl,rfl⟩ (by show 1<7;decide)) fun g8 _=>?_;simp only[sCell,Act.put,LS]
        repeat refine BC rfl rfl (fun w' hk=>by go_simp;with_reducible rfl) ?_;simp only[Act.put,LS]
        refine BP ?_;intro WF hk9 hF _;have hbf:=(hF 11 (by decide)).1;have hbf:WF.heap[B4]?=some (.cells _ TEx (0,0)):=hbf
        try simp only[LS]at hbf
        have hkf:=(BA.drew (fun b=>b=B4) V7).trans hk9;have HKF:=hid (HKW.out.new hkf fun b e=>by have e:b=B4:=e;have:=HNN.out;omega);have HB1F:=hid (hkf.blkE HB1.out fun e=>by have e:B1=B4:=e;have:=HNN.out;omega);have HB3F:=hid (hkf.blkE HB3.out fun e=>by have e:B3=B4:=e;have:=HNN.out;omega);have HB4F:=hid hbf;clear hk9 hF cc hbf hkf;have HO:=hid (show ¬o≤13 from o2);clear o1 o2;obtain⟨q0,-⟩:=blk7 HB1F.out;go_upto_region 17 with fail;clear q0;obtain⟨a0,a1,a2,a3,a4,a5,a6,-⟩:=blk7 HB1F.out;obtain⟨b0,b1,b2,b3,b4,b5,b6,-⟩:=blk7 HB3F.out;obtain⟨c0,c1,c2,c3,c4,c5,c6,-⟩:=blk7 HB4F.out;go_wp2_with fail;go_ret;exact⟨by rw[←HMB.out];simp[mayK,decide_eq_false (show ¬o≤13 by have:=HO.out;omega)],HKF.out⟩
      ·go_upto_region 16 with fail;clear a0 a1 a2 a3 a4 a5 a6 b0 b1 b2 b3 b4 b5 b6 c0 c1 c2 c3 c4 c5 c6 f0 f1 f2 f3 f4 f5 f6;have cc:=fun w' (h:BA (fun b=>b=B4) V7.drew w') (j:Nat) (v:Value) (hj:([.int .i64 5,.int .i64 o,.int .i64 n,.string ⟨nm.toArray⟩,.slice p m c,.int .i64 l,.int .i64 cl]:List Value)[j]?=some v)=>((BA.drew _ V7).trans h).cell (BH (k:=j) HB1.out (by simpa using hj)) (by have:=HNN.out;show ¬B1=B4;omega);refine wp_own1 (by kernel_rfl) B4 _ HB4.out DL0 (fun i=>if i=11 then [14] else []) (fun i=>if i=11 then [14] else []) [11] (by kernel_rfl) (fun i=>if i=11 then some (sCell B4 1 TEx #[.int .i64 5,.int .i64 0,.int .i64 0,.string ⟨#[]⟩,.slice none 0 0,.int .i64 0,.int .i64 0] (.int .i64 o)) else none) ?_;apply BC rfl rfl
       ·intro w' hk;go_simp;with_reducible rfl
       simp only[Act.put,LS];apply BC rfl rfl
       ·intro w' hk;have d1:=cc w' hk 1 _ rfl;go_simp;with_reducible rfl
       simp only[Act.put,LS];apply BC rfl rfl
       ·intro w' hk;go_simp;with_reducible rfl
       simp only[Act.put,LS];apply BC rfl rfl
       ·intro w' hk;have d1:=cc w' hk 1 _ rfl;go_simp;with_reducible rfl
       simp only[Act.put,LS]
       repeat first|apply BZ rfl;simp only[Act.put,LS]|refine BC rfl rfl (fun w' hk=>by go_simp;with_reducible rfl) ?_;simp only[Act.put,LS]
       refine BE rfl rfl (DW B4 1 TEx _ _ (fun w u hc hf=>by go_simp<;>rfl) 14 (by decide) (by decide) (fun w h=>h) ⟨rfl,rfl⟩ (by show 1<7;decide)) fun g8 _=>?_;simp only[sCell,Act.put,LS]
       repeat refine BC rfl rfl (fun w' hk=>by go_simp;with_reducible rfl) ?_;simp only[Act.put,LS]
       refine BP ?_;intro WF hk9 hF _;have hbf:=(hF 11 (by decide)).1;have hbf:WF.heap[B4]?=some (.cells _ TEx (0,0)):=hbf
       try simp only[LS]at hbf
       have hkf:=(BA.drew (fun b=>b=B4) V7).trans hk9;have HKF:=hid (HKW.out.new hkf fun b e=>by have e:b=B4:=e;have:=HNN.out;omega);have HB1F:=hid (hkf.blkE HB1.out fun e=>by have e:B1=B4:=e;have:=HNN.out;omega);have HB3F:=hid (hkf.blkE HB3.out fun e=>by have e:B3=B4:=e;have:=HNN.out;omega);have HB4F:=hid hbf;clear hk9 hF cc hbf hkf;have HO:=hid (show ¬1≤o from o1);clear o1;obtain⟨q0,-⟩:=blk7 HB1F.out;go_upto_region 17 with fail;clear q0;obtain⟨a0,a1,a2,a3,a4,a5,a6,-⟩:=blk7 HB1F.out;obtain⟨b0,b1,b2,b3,b4,b5,b6,-⟩:=blk7 HB3F.out;obtain⟨c0,c1,c2,c3,c4,c5,c6,-⟩:=blk7 HB4F.out;go_wp2_with fail;go_ret;exact⟨by rw[←HMB.out];simp[mayK,decide_eq_false (show ¬1≤o by have:=HO.out;omega)],HKF.out⟩
     ·have k1b:(k==1)=false:=by rw[BF];exact k1
      have k2b:(k==2)=false:=by rw[BF];exact k2
      have k3b:(k==3)=false:=by rw[BF];exact k3
      have k4b:(k==4)=false:=by rw[BF];exact k4
      have k5b:(k==5)=false:=by rw[BF];exact k5
      have HK:=hid (And.intro k1 (And.intro k2 (And.intro k3 (And.intro k4 k5))));clear k1 k2 k3 k4 k5;go_wp2_with fail;go_ret;exact⟨by rw[←HMB.out];simp[mayK,HK.out.1,HK.out.2.1,HK.out.2.2.1,HK.out.2.2.2.1,HK.out.2.2.2.2],HKW.out⟩
theorem mayG_any:∀(f:Nat) (x:Gx),FA x≤f→f≤1099511627776→SaysMayG mayG x
 |0,x,hx,_=>by cases x;unfold FA at hx;omega
 |f+1,x,hx,hf=>mayG_step f (by omega) (fun y hy=>mayG_any f y hy (by omega)) x hx
end Go.Proofs.YtknnmidnodeanaaGreatDoor
