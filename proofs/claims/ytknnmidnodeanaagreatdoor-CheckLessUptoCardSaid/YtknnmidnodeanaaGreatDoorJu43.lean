import Derived.Test.YtknnmidnodeanaaGreatDoorJu29
import Derived.Test.YtknnmidnodeanaaGreatDoorJu42
set_option maxHeartbeats 64000000
set_option maxRecDepth 100000
namespace Go.Proofs.YtknnmidnodeanaaGreatDoor
open Go Go.RowKit Own
open Go.Lib (hid)
attribute [local go_sem] Oper.semAt_some
theorem put_cell {w:World}{g i:Nat}{T:TypeId}{cur:Array Value}(h:w.heap[g]?=some (.cells cur T (0,0)))(u:Value):(w.setCell ⟨g,i,none⟩ u).heap[g]?=some (.cells (cur.setIfInBounds i u) T (0,0))∧BA (fun k=>k=g) w (w.setCell ⟨g,i,none⟩ u):=by
 refine⟨by simp[World.setCell,Array.getElem?_modify,h],?_⟩;exact keep_setCells (E:=fun k=>k=g) g rfl [u] i w
theorem ths_set {w w':World}{S:Nat→Prop}{B g t:Nat}{cur:Array Value}{l:List (List Gs)}{x:List Gs}{q:Option Addr}{c:Nat}(hl:l.length≤cur.size)(ht:t<l.length)
  (he:∀j (h:j<l.length),∃q c,cur[j]?=some (.slice q l[j].length c)∧CF w (fun b=>B≤b∧b≠g) q 0 l[j])
  (hk:BA (fun k=>k=g) w w') (hg:w'.heap[g]?=some (.cells (cur.setIfInBounds t (.slice q x.length c)) TSs (0,0))) (hx:CF w' S q 0 x):GThs w' (fun _=>True) (some ⟨g,0,none⟩) (l.set t x):=fun i hi=>by
 have hi':i<l.length:=by simpa using hi
 by_cases e:i=t
 ·subst e;have ei:(l.set i x)[i]=x:=by simp
  refine⟨g,0,q,c,rfl,trivial,?_,?_⟩
  ·rw[ei,Nat.zero_add];exact BH hg (by rw[Array.getElem?_setIfInBounds,if_pos rfl,if_pos (by omega)])
  ·rw[ei];exact hx.mono fun _ _=>trivial
 ·obtain⟨q',c',e1,e2⟩:=he i hi';have ei:(l.set t x)[i]=l[i]:=List.getElem_set_ne (Ne.symm e) _;refine⟨g,0,q',c',rfl,trivial,?_,?_⟩
  ·rw[ei,Nat.zero_add];exact BH hg (by rw[Array.getElem?_setIfInBounds,if_neg (Ne.symm e)];exact e1)
  ·rw[ei];exact(e2.keep hk fun b hb e=>hb.2 e).mono fun _ _=>trivial
theorem getD_at {l:List (List Gs)}{t:Nat}(h:t<l.length):l.getD t []=l[t]:=by
 rw[List.getD_eq_getElem?_getD,List.getElem?_eq_getElem h];rfl
mutual
theorem wS_fit:∀(x:Gs) (n seen:Int),fitS x→DS (wS x n seen).1.toList
 | .mk k nm sz op val into cont xs thn els l c,n,seen,h=>by
  unfold wS;split
  ·show DS [];unfold DS;trivial
  ·dsimp only;unfold fitS at h;generalize (if tlS (.mk k nm sz op val into cont xs thn els l c)=false then seen+1 else seen)=q;show DS [_];unfold DS DS fitS;exact⟨⟨h.1,wL_fit thn _ _ h.2.1,wL_fit els _ _ h.2.2⟩,trivial⟩
theorem wL_fit:∀(l:List Gs) (n seen:Int),DS l→DS (wL l n seen).1
 |[],n,seen,h=>by unfold wL;exact h
 | x::l,n,seen,h=>by
  unfold DS at h;have h1:=wS_fit x n seen h.1;have h2:=wL_fit l n (wS x n seen).2 h.2
  have ha:∀a b:List Gs,DS a→DS b→DS (a++b):=fun a b=>by
   induction a with
   |nil=>intro _ h;exact h
   | cons y a ih=>
    intro h1 h2;unfold DS at h1;rw[List.cons_append];unfold DS;exact⟨h1.1,ih h1.2 h2⟩
  unfold wL;dsimp only;exact ha _ _ h1 h2
end
theorem hSize_set:∀(l:List (List Gs)) (t:Nat) (x:List Gs),DM (l.set t x)≤DM l+BI x
 |[],t,x=>by rw[List.set_nil];exact Nat.le_add_right _ _
 | b::l,0,x=>by
  rw[List.set_cons_zero];have e:∀y,DM (y::l)=BI y+DM l:=fun _=>rfl;rw[e,e];omega
 | b::l,t+1,x=>by
  rw[List.set_cons_succ];have e:∀r,DM (b::r)=BI b+DM r:=fun _=>rfl;have:=hSize_set l t x;rw[e,e];omega
theorem light_size {p:Gp}(hl:lightP p=true):DM p.threads≤2000∧p.conts.length≤40∧p.threads.length≤40:=by
 unfold lightP at hl;simp only[Bool.and_eq_true,decide_eq_true_eq]at hl;obtain⟨h1,h2,-,h4⟩:=hl;obtain⟨h5,h6⟩:=ltL_size _ _ h4
 have key:∀l:List (List Gs),(∀x∈l,swL 0 0 x≤2000)→DM l≤(l.map (swL 0 0)).sum:=by
  intro l
  induction l with
  |nil=>intro _;exact Nat.le_refl _
  | cons x l ih=>
   intro h;have a1:=ih fun y hy=>h y (List.mem_cons_of_mem _ hy);have a2:=(swL_of x 0 0 (by have:=h x List.mem_cons_self;omega)).1;simp only[List.map_cons,List.sum_cons,DM];omega
 have h7:=key _ h5;exact⟨by omega,by omega,by omega⟩
theorem mild_less {p:Gp}(hm:Mild p)(hs:DM p.threads≤2000){t:Nat}(ht:t<p.threads.length)(n:Int):Mild (lessP p t n):=by
 obtain⟨h1,h2,h3,h4⟩:=hm;unfold lessP;rw[getD_at ht];have a1:=hSize_set p.threads t (wL p.threads[t] n 0).1;have a2:=(wL_size p.threads[t] n 0).1;have a3:=hSize_mem ht;refine⟨by dsimp only;omega,h2,by dsimp only;rw[List.length_set];exact h3,fun l hl=>?_⟩;rcases List.mem_or_eq_of_mem_set hl with hl|hl
 ·exact h4 l hl
 ·rw[hl];exact wL_fit _ _ _ (h4 _ (List.getElem_mem ht))
theorem neN (f:Fl)(w:World):(binOp .neq TFa (flV f) (.agg #[.int .i64 0,.int .i64 0,.int .i64 0])).run Tryz.prog w=.ok (.bool (!noB f)) w:=by
 have h9:=eq_no f w;simp only[binOp,Op.equal,Op.maxDepth,Sem.run_bind,h9,Result.andThen_ok];rfl
theorem eql0 (w:World):(binOp .eql TFa (.agg #[.int .i64 0,.int .i64 0,.int .i64 0]) (.agg #[.int .i64 0,.int .i64 0,.int .i64 0])).run Tryz.prog w=.ok (.bool true) w:=by
 have h9:=eqF 0 0 0 0 0 0 w;simp only[binOp,Op.equal,Op.maxDepth,Sem.run_bind,h9,Result.andThen_ok,beq_self_eq_true,Bool.and_self];rfl
theorem scLe_form {s' s:Sc}(h:ScLe s' s):∃k,s'=⟨s.vars,s.arrays,k⟩∧k≤s.calls:=by
 obtain⟨a,b,c⟩:=s';obtain⟨h1,h2,h3⟩:=h;dsimp only at h1 h2 h3;exact⟨c,by rw[h1,h2],h3⟩
def sWo (lo:Nat)(S:Nat→Prop)(L:List Gs)(n:Int):Loud:={ ok:=fun _ g=>lo≤g.b,val:=fun _ g=>.tuple #[.slice g.p L.length g.c,.int .i64 n],fp:=fun _ g k=>g.b≤k∧k<g.d,post:=fun _ g w=>CF w (fun k=>S k∨(g.b≤k∧k<g.d)) g.p 0 L }
theorem stable_wo {w0:World}{S:Nat→Prop}(hS:∀b,S b→b<w0.heap.size)(L:List Gs)(q:Option Addr)(b d:Nat):DT w0 (fun _=>False) (fun k=>b≤k∧k<d) (fun w=>CF w (fun k=>S k∨(b≤k∧k<d)) q 0 L):=fun w w' h1 h2 _ hb h=>sks_same h fun k hk=>by
 rcases hk with hk|hk
 ·rw[h1.block k (hS k hk) (fun e=>e),h2.block k (hS k hk) (fun e=>e)]
 ·exact hb k hk
theorem less_walk (hL:∀w,TabS w→Calls Tryz.prog 6 #[] w fun e w'=>e=.returned (.bool true)∧BA (fun _=>False) w w')(w:World)(hT:TabS w)(p:Gp)
  (hf:∀l∈p.threads,DS l) (hb:DM p.threads≤1048576) (S:Nat→Prop) (v0:Value) (h:PAt w S v0 p) (th n:Int):
  Calls Tryz.prog 3 #[v0,.int .i64 th,.int .i64 n] w fun e w'=>e=.returned (.bool true)∧BA (fun _=>False) w w':=by
 obtain⟨p1,c1,p2,c2,rfl,-,-⟩:=id h;obtain⟨N,hN⟩:∃N:Int,(p.pool:Int)=N:=⟨_,rfl⟩;rw[hN]at h ⊢;obtain⟨V,B1,hV,hB1,hb1,hk1,hs1⟩:=BD w (.cells #[.int .i64 N,.slice p1 p.conts.length c1,.slice p2 p.threads.length c2] TPr);have HLV:=hid (hL V (hk1.tabS hT));have HT:=hid (hk1.tabS hT);have HPA:=hid (CG h hk1);have HLI:=hid (fun W (k:BA (fun _=>False) V W)=>lightP_any p hb W _ _ (CG HPA.out k));have HF:=hid hf;have HNN:=hid hN;have HB1:=hid hb1;have HKV:=hid hk1;clear hL hT hf hb h hb1 hk1 hs1 hN;go_enter Tryz.func3,Tryz.ntmps3;go_upto_region 1 with fail;rw[←hV,←hB1];clear hV hB1;go_wp2_with fail;go_at_call 6;refine HLV.out.mono ?_;rintro e w1 ⟨rfl,hk1⟩;have HK1:=hid hk1;clear hk1;obtain⟨d0,d1,d2,-⟩:=BS (HK1.out.blk HB1.out);have HLQ:=hid (HLI.out w1 HK1.out)
 cases hl:lightP p with
 | false=>
  rw[hl]at HLQ;clear hl;go_wp2_with fail;go_at_call 7;refine HLQ.out.mono ?_;rintro e w2 ⟨rfl,hk2⟩;have HKE:=hid ((HKV.out.trans HK1.out).trans hk2);clear hk2;go_wp2_with fail;go_ret;exact⟨rfl,HKE.out⟩
 |true=>
 rw[hl]at HLQ;have HM:=hid (light_mild hl HF.out);have HSZ:=hid (light_size hl);clear hl;go_wp2_with fail;go_at_call 7;refine HLQ.out.mono ?_;rintro e w2 ⟨rfl,hk2⟩;have HK2:=hid (HK1.out.trans hk2);clear hk2 d0 d1 d2;obtain⟨d0,d1,d2,-⟩:=BS (HK2.out.blk HB1.out);have HPR:=hid (fun W (k:BA (fun _=>False) V W)=>prog18_any p HM.out W (k.tabS HT.out) _ _ (CG HPA.out k));obtain⟨⟨er,li,co⟩,hfl⟩:∃f,pgF p=f:=⟨_,rfl⟩;have HFL:=hid hfl;rw[hfl]at HPR;unfold flV at HPR;dsimp only at HPR;clear hfl;have HPQ:=hid (HPR.out w2 HK2.out);have hneq:∀w,(binOp .neq TFa (.agg #[.int .i64 er,.int .i64 li,.int .i64 co]) (.agg #[.int .i64 0,.int .i64 0,.int .i64 0])).run Tryz.prog w=.ok (.bool (!noB ⟨er,li,co⟩)) w:=fun w=>neN ⟨er,li,co⟩ w;obtain⟨nb,hnb⟩:∃b,noB ⟨er,li,co⟩=b:=⟨_,rfl⟩;rw[hnb]at hneq;have HNB:=hid hnb;clear hnb
 cases nb with
 | false=>
  go_wp2_with (go_at_call 8;refine HPQ.out.mono ?_;rintro e w3 ⟨rfl,hk3⟩;have HK3:=hid (HK2.out.trans hk3);clear hk3);have HKE:=hid (HKV.out.trans HK3.out);go_ret;exact⟨rfl,HKE.out⟩
 |true=>
 have HNO:=hid (HFL.out.trans ((noB_iff _).1 HNB.out));clear HFL HNB;go_wp2_with (go_at_call 8;refine HPQ.out.mono ?_;rintro e w3 ⟨rfl,hk3⟩;have HK3:=hid (HK2.out.trans hk3);clear hk3 d0 d1 d2;obtain⟨d0,d1,d2,-⟩:=BS (HK3.out.blk HB1.out));clear hneq;have HOW:=hid (ownP_own p (by have:=HSZ.out;omega) (by have:=HSZ.out;omega) (by have:=HSZ.out;omega) w3 _ _ (CG HPA.out HK3.out));go_at_call 9;refine HOW.out.mono ?_;rintro e w5 ⟨u,rfl,hu,hk5⟩;obtain⟨pc,cc,p9,c9,rfl,hu⟩:=hu;rw[HNN.out]
 have HTH:=hid (show 1≤p.threads.length from by
  obtain⟨ss,hss⟩:=ok_of HNO.out;obtain⟨a,b,c,d⟩:=parts_of hss;unfold sizesOk at b;simp only[Bool.and_eq_true,decide_eq_true_eq]at b;exact b.2.2.2.2.1)
 rcases hu with⟨h0,-⟩|⟨g,cur,rfl,hg,hcs,hh,hcl,he⟩
 ·exact absurd HTH.out (by rw[h0];simp)
 obtain⟨W6,B6,hW6,hB6,hb6,hk6,hs6⟩:=BD w5 (.cells #[.int .i64 N,.slice pc p.conts.length cc,.slice (some ⟨g,0,none⟩) p.threads.length c9] TPr);have HK6:=hid (HK3.out.trans (hk5.trans hk6));have hgl:=(AG.1 hh).1;have HG:=hid (show w3.heap.size≤g∧g<B6∧V.heap.size≤g by have:=HK3.out.size;omega);have HCS:=hid (hcs.cts.keep hk6 fun _ _ e=>e);have HH:=hid (hk6.blk hh);have HCL:=hid hcl
 have HE:=hid (show ∀j (hj:j<p.threads.length),∃q c,cur[j]?=some (.slice q p.threads[j].length c)∧CF W6 (fun b=>w3.heap.size≤b∧b≠g) q 0 p.threads[j]from fun j hj=>by
  obtain⟨q,c,e1,e2⟩:=he j hj;exact⟨q,c,e1,e2.keep hk6 fun _ _ e=>e⟩)
 have HB6:=hid hb6;obtain⟨rp1,rp2⟩:=pick_range (k:=th) (n:=(p.threads.length:Int)) (by have:=HTH.out;omega);obtain⟨t,ht⟩:∃q:Nat,(q:Int)=pick th p.threads.length:=⟨(pick th p.threads.length).toNat,by omega⟩;have HPK:=hid (fun W=>pick_any W th p.threads.length (by have:=HTH.out;omega) (by have:=HSZ.out;omega));rw[←ht]at rp1 rp2 HPK;have HTL:=hid (show t<p.threads.length by omega);obtain⟨kp1,kp2⟩:=pick_range (k:=n) (n:=(40:Int)) (by decide);have HPN:=hid (fun W=>pick_any W n 40 (by decide) (by decide));obtain⟨m,hm⟩:∃m,pick n 40=m:=⟨_,rfl⟩;rw[hm]at kp1 kp2 HPN;have HMM:=hid (And.intro kp1 kp2);clear hk5 hk6 hs6 hgl hg hcs hh hcl he hb6 rp1 rp2 ht kp1 kp2 hm d0 d1 d2;go_upto_region 6 with fail;rw[←hW6,←hB6];clear hW6 hB6;obtain⟨d0,d1,d2,-⟩:=BS HB6.out;go_wp2_with fail;go_at_call 10;refine(HPK.out _).mono ?_;rintro e w7 ⟨rfl,hw7⟩;obtain rfl:=hw7.symm;clear hw7 HPK;obtain⟨q,c,hq,hsk⟩:=HE.out t HTL.out;have HQ:=hid hq
 have HWO:=hid (show ∀W,BA (fun _=>False) W6.drew W→_ from fun W hk=>woS_any (p.threads[t]'HTL.out) (by have:=hSize_mem HTL.out;have:=HSZ.out;omega) m W (fun b=>w3.heap.size≤b∧b≠g∧b<W6.heap.size) q c (by have:=hSize_mem HTL.out;have:=HSZ.out;have:=HMM.out;omega) (by have:=HMM.out;omega)
  (((hsk.inHeap).mono fun b hb=>⟨hb.1.1,hb.1.2,hb.2⟩).keep ((BA.drew (fun _=>False) W6).trans hk) fun _ _ e=>e))
 have hse:=wL_seen (p.threads[t]'HTL.out) m 0;obtain⟨l0,hl0⟩:∃l,p.threads[t]'HTL.out=l:=⟨_,rfl⟩;have HL0:=hid hl0;rw[hl0]at hq HWO hse;obtain⟨⟨L,sn⟩,hws⟩:∃u,wL l0 m 0=u:=⟨_,rfl⟩;have HWS:=hid hws;rw[hws]at HWO hse;dsimp only at HWO hse;have HSE:=hid hse;have htn:(t:Int)<p.threads.length:=by have:=HTL.out;omega
 have ht0:(0:Int)≤t:=by omega
 clear hsk hl0 hws hse d0 d1 d2;go_upto_region 7 with fail;refine CN (by kernel_rfl) (fun i=>[[],[0],[],[0,1,2],[0,1,2,3],[],[5],[0,1,2,3,4,5,6],[0,1,2,3,4,5,6,7],[0,1,2,3,4,5,6,7,8],[0,1,2,3,4,5,6,7,8],[0,1,2,3,4,5,6,7,8,9],[0,1,2,3,4,5,6,7,8,9,10,11]].getD i []) (fun _=>[]) (fun _=>[]) [7] (by kernel_rfl) (fun i=>if i=6 then some (BN (.int .i64 m)) else if i=7 then some (sWo W6.heap.size (fun b=>w3.heap.size≤b∧b≠g∧b<W6.heap.size) L sn) else none) ?_;apply BC rfl rfl
 ·intro w' hk;go_simp;with_reducible rfl
 simp only[Act.put,LS];apply BC rfl rfl
 ·intro w' hk;have hq6:=(BA.drew (fun _=>False) W6).trans hk;obtain⟨x0,x1,x2,-⟩:=BS (hq6.blk HB6.out);have y:=BH (hq6.blk HH.out) hq;clear hq6;go_simp;with_reducible rfl
 simp only[Act.put,LS];apply BC rfl rfl
 ·intro w' hk;go_simp;with_reducible rfl
 simp only[Act.put,LS];apply BC rfl rfl
 ·intro w' hk;go_simp;with_reducible rfl
 simp only[Act.put,LS];apply BC rfl rfl
 ·intro w' hk;have hq6:=(BA.drew (fun _=>False) W6).trans hk;obtain⟨x0,x1,x2,-⟩:=BS (hq6.blk HB6.out);have y:=BH (hq6.blk HH.out) hq;clear hq6;go_simp;with_reducible rfl
 simp only[Act.put,LS];apply BC rfl rfl
 ·intro w' hk;go_simp;with_reducible rfl
 simp only[Act.put,LS];refine BE rfl rfl (BR 10 #[.int .i64 n,.int .i64 40] (fun w=>by kernel_rfl) ⟨default,trivial⟩ (fun g _=>BX _) fun w' hk _ _=>(HPN.out w').mono ?_) fun _ _=>?_
 ·rintro e w'' ⟨rfl,rfl⟩;exact⟨default,trivial,rfl,BA.refl _ _,fun b h=>h.elim,trivial⟩
 simp only[BN,Act.put,LS];refine BE rfl rfl (BR 11 #[.slice q l0.length c,.int .i64 m] (fun w=>by kernel_rfl) ⟨{ b:=W6.heap.size },Nat.le_refl _⟩ (fun g _=>stable_wo (fun b hb=>hb.2.2) _ _ _ _) fun w' hk _ _=>(HWO.out w' hk).mono ?_) fun g7 h7=>?_
 ·rintro e w'' ⟨q',d',rfl,hs',hk'⟩;refine⟨{ p:=q',c:=d',b:=w'.heap.size,d:=w''.heap.size },hk.size,rfl,hk'.mono fun _ e=>e.elim,fun b hb=>⟨.inl hb.1,hb.2⟩,hs'.inHeap.mono fun b hb=>hb.1.imp id fun h=>⟨h,hb.2⟩⟩
 simp only[sWo,Act.put,LS]
 repeat refine BC rfl rfl (fun w' hk=>by go_simp;with_reducible rfl) ?_;simp only[Act.put,LS]
 refine BP ?_;intro W7 hk7a hF _;have f7:=(hF 7 (by decide)).1;have f7:CF W7 (fun k=>(w3.heap.size≤k∧k≠g∧k<W6.heap.size)∨(g7.b≤k∧k<g7.d)) g7.p 0 L:=f7;have H7:=hid (show W6.heap.size≤g7.b from h7);have HF7:=hid f7;have HK67:=hid ((BA.drew (fun _=>False) W6).trans hk7a);clear hk7a hF f7 h7;obtain⟨d0,d1,d2,-⟩:=BS (HK67.out.blk HB6.out);have y0:=BH (HK67.out.blk HH.out) hq;have fz:W7.frozen? ⟨g,t,none⟩=false:=by have hh:=HK67.out.blk HH.out;simp[World.frozen?,hh]
 go_upto_region 9 with fail;obtain⟨W8,hW8⟩:∃W8,W7.setCell ⟨g,t,none⟩ (.slice g7.p L.length g7.c)=W8:=⟨_,rfl⟩;obtain⟨hb8,hk8⟩:=put_cell (i:=t) (HK67.out.blk HH.out) (.slice g7.p L.length g7.c);rw[hW8]at hb8 hk8 ⊢
 have HQP:=hid (show PAt W8 (fun _=>True) (.agg #[.int .i64 N,.slice pc p.conts.length cc,.slice (some ⟨g,0,none⟩) p.threads.length c9]) (lessP p t m)from by
  refine⟨pc,cc,some ⟨g,0,none⟩,c9,?_,((HCS.out.keep HK67.out fun _ _ e=>e).keep hk8 fun b hb e=>hb.2 e).mono fun _ _=>trivial,?_⟩
  ·unfold lessP;dsimp only;rw[List.length_set,HNN.out]
  ·unfold lessP;dsimp only;rw[getD_at HTL.out,HL0.out,HWS.out]
   exact ths_set (x:=L) (S:=fun _=>True) (q:=g7.p) (c:=g7.c) HCL.out HTL.out (fun j hj=>by
    obtain⟨q,c,e1,e2⟩:=HE.out j hj
    exact⟨q,c,e1,e2.keep HK67.out fun _ _ e=>e⟩) hk8 hb8 ((HF7.out.keep hk8 fun b hb e=>by
     have e:b=g:=e;have h1:=H7.out;have h2:=HG.out;have h3:=(AG.1 HB6.out).1;rcases hb with hb|hb
     ·exact hb.2.1 e
     ·omega).mono fun _ _=>trivial))
 have HB8:=hid (hk8.blkE (HK67.out.blk HB6.out) fun e=>by have e:B6=g:=e;have:=HG.out;omega);have HKV8:=hid (show BA (fun _=>False) V W8 from(HK6.out.trans HK67.out).newM hk8 fun b e=>.inr (by have e:b=g:=e;have:=HG.out;omega));clear hW8 hb8 hk8 y0 fz hq htn ht0 d0 d1 d2;obtain⟨le1,le2⟩:=less_law m HNO.out HTL.out;have HML:=hid (mild_less HM.out HSZ.out.1 HTL.out m);have HOK:=hid (scOf_ok p t);obtain⟨s,hs⟩:∃s,scOf p t=s:=⟨_,rfl⟩;rw[hs]at le2 HOK;obtain⟨k,hk,hkle⟩:=scLe_form le2
 have HPL:=hid (show ∀W,BA (fun _=>False) W8 W→Calls Tryz.prog 8 #[.agg #[.int .i64 N,.slice pc p.conts.length cc,.slice (some ⟨g,0,none⟩) p.threads.length c9]] W fun e w'=>e=.returned (.agg #[.int .i64 0,.int .i64 0,.int .i64 0])∧BA (fun _=>False) W w' from fun W q=>by
  have h:=prog18_any (lessP p t m) HML.out W ((HKV8.out.trans q).tabS HT.out) _ _ (CG HQP.out q);rw[le1]at h;exact h)
 have HVP:=hid (fun W (q:BA (fun _=>False) V W)=>vars_any p HM.out t W (q.tabS HT.out) _ _ (CG HPA.out q));have HAP:=hid (fun W (q:BA (fun _=>False) V W)=>arrays_any p HM.out t W (q.tabS HT.out) _ _ (CG HPA.out q));have HCP:=hid (fun W (q:BA (fun _=>False) V W)=>calls18_any p HM.out t W (q.tabS HT.out) _ _ (CG HPA.out q));have HVQ:=hid (fun W (q:BA (fun _=>False) W8 W)=>vars_any (lessP p t m) HML.out t W ((HKV8.out.trans q).tabS HT.out) _ _ (CG HQP.out q));have HAQ:=hid (fun W (q:BA (fun _=>False) W8 W)=>arrays_any (lessP p t m) HML.out t W ((HKV8.out.trans q).tabS HT.out) _ _ (CG HQP.out q));have HCQ:=hid (fun W (q:BA (fun _=>False) W8 W)=>calls18_any (lessP p t m) HML.out t W ((HKV8.out.trans q).tabS HT.out) _ _ (CG HQP.out q));rw[hs]at HVP HAP HCP;rw[hk]at HVQ HAQ HCQ;dsimp only at HVQ HAQ HCQ;have hkl:(k:Int)≤s.calls:=by omega
 have hsn:(0:Int)≤sn:=HSE.out;have heq0:∀w,(binOp .eql TFa (.agg #[.int .i64 0,.int .i64 0,.int .i64 0]) (.agg #[.int .i64 0,.int .i64 0,.int .i64 0])).run Tryz.prog w=.ok (.bool true) w:=eql0;clear le1 le2 hs hk hkle;refine CN (by kernel_rfl) (fun i=>[[],[0],[],[0,1,2],[0,1,2,3],[0,1,2,3,4],[0,1,2,3,4],[0,1,2,3,4,5,6],[0,1,2,3,4],[0,1,2,3,4],[0,1,2,3,4,5,6,7,8,9],[0,1,2,3,4,5,6,7,8,9,10],[0,1,2,3,4,5,6,7,8,9,10,11],[0,1,2,3,4,5,6,7,8,9,10,11,12],[0,1,2,3,4,5,6,7,8,9,10,11,12,13],[0,1,2,3,4,5,6,7,8,9,10,11,12,13],[0,1,2,3,4,5,6,7,8,9,10,11,12,13,14,15],[0,1,2,3,4,5,6,7,8,9,10,11,12,13],[0,1,2,3,4,5,6,7,8,9,10,11,12,13],[0,1,2,3,4,5,6,7,8,9,10,11,12,13,14,15,16,17,18],[0,1,2,3,4,5,6,7,8,9,10,11,12,13,14,15,16,17,18,19],[0,1,2,3,4,5,6,7,8,9,10,11,12,13,14,15,16,17,18,19,20],[0,1,2,3,4,5,6,7,8,9,10,11,12,13,14,15,16,17,18,19,20,21],[0,1,2,3,4,5,6,7,8,9,10,11,12,13,14,15,16,17,18,19,20,21,22],[0,1,2,3,4,5,6,7,8,9,10,11,12,13,14,15,16,17,18,19,20,21,22],[0,1,2,3,4,5,6,7,8,9,10,11,12,13,14,15,16,17,18,19,20,21,22,23,24],[0,1,2,3,4,5,6,7,8,9,10,11,12,13,14,15,16,17,18,19,20,21,22],[0,1,2,3,4,5,6,7,8,9,10,11,12,13,14,15,16,17,18,19,20,21,22],[0,1,2,3,4,5,6,7,8,9,10,11,12,13,14,15,16,17,18,19,20,21,22,23,24,25,26,27],[0,1,2,3,4,5,6,7,8,9,10,11,12,13,14,15,16,17,18,19,20,21,22,23,24,25,26,27,28],[0,1,2,3,4,5,6,7,8,9,10,11,12,13,14,15,16,17,18,19,20,21,22,23,24,25,26,27,28,29],[0,1,2,3,4,5,6,7,8,9,10,11,12,13,14,15,16,17,18,19,20,21,22,23,24,25,26,27,28,29,30],[0,1,2,3,4,5,6,7,8,9,10,11,12,13,14,15,16,17,18,19,20,21,22,23,24,25,26,27,28,29,30,31],[0,1,2,3,4,5,6,7,8,9,10,11,12,13,14,15,16,17,18,19,20,21,22,23,24,25,26,27,28,29,30,31,32],[0,1,2,3,4,5,6,7,8,9,10,11,12,13,14,15,16,17,18,19,20,21,22,23,24,25,26,27,28,29,30,31,32,33],[0,1,2,3,4,5,6,7,8,9,10,11,12,13,14,15,16,17,18,19,20,21,22,23,24,25,26,27,28,29,30,31,32,33,34]].getD i []) (fun i=>if i=11 then [7,10] else if i=20 then [16,19] else []) (fun _=>[]) [] (by kernel_rfl) (fun i=>if i=1 then some (BN (.agg #[.int .i64 0,.int .i64 0,.int .i64 0])) else if i=7 then some (sRw s.vars.length (varsV s)) else if i=10 then some (sRw s.vars.length (varsV s)) else if i=11 then some (BN (.bool true)) else if i=16 then some (sRw s.arrays.length (arrsV s)) else if i=19 then some (sRw s.arrays.length (arrsV s)) else if i=20 then some (BN (.bool true)) else if i=25 then some (BN (.int .i64 k)) else if i=28 then some (BN (.int .i64 s.calls)) else none) ?_;apply BC rfl rfl
 ·intro w' hk;have hq8:=(BA.drew (fun _=>False) W8).trans hk;obtain⟨x0,x1,x2,-⟩:=BS ((HKV8.out.trans hq8).blk HB1.out);obtain⟨y0,y1,y2,-⟩:=BS (hq8.blk HB8.out);clear hq8;go_simp;with_reducible rfl
 simp only[Act.put,LS];refine BE rfl rfl (BR 8 #[.agg #[.int .i64 N,.slice pc p.conts.length cc,.slice (some ⟨g,0,none⟩) p.threads.length c9]] (fun w=>by kernel_rfl) ⟨default,trivial⟩ (fun g _=>BX _) fun w' hk hav _=>(HPL.out w' ((BA.drew (fun _=>False) W8).trans hk)).mono ?_) fun _ _=>?_
 ·rintro e w'' ⟨rfl,hk'⟩;exact⟨default,trivial,rfl,hk'.mono fun _ e=>e.elim,fun b h=>h.elim,trivial⟩
 simp only[BN,Act.put,LS];apply BC rfl rfl
 ·intro w' hk;go_simp;with_reducible rfl
 simp only[Act.put,LS];apply BC rfl rfl
 ·intro w' hk;go_simp;with_reducible rfl
 simp only[Act.put,LS];apply BC rfl rfl
 ·intro w' hk;go_simp;with_reducible rfl
 simp only[Act.put,LS];apply BC rfl rfl
 ·intro w' hk;have hq8:=(BA.drew (fun _=>False) W8).trans hk;obtain⟨x0,x1,x2,-⟩:=BS ((HKV8.out.trans hq8).blk HB1.out);obtain⟨y0,y1,y2,-⟩:=BS (hq8.blk HB8.out);clear hq8;go_simp;with_reducible rfl
 simp only[Act.put,LS];apply BC rfl rfl
 ·intro w' hk;go_simp;with_reducible rfl
 simp only[Act.put,LS];refine BE rfl rfl (BR 13 #[.agg #[.int .i64 N,.slice p1 p.conts.length c1,.slice p2 p.threads.length c2],.int .i64 t] (fun w=>by kernel_rfl) ⟨default,trivial⟩ (fun g _=>stable_rd _ _) fun w' hk _ _=>(HVP.out w' (HKV8.out.trans ((BA.drew (fun _=>False) W8).trans hk))).mono ?_) fun g7 _=>?_
 ·rintro e w'' ⟨q,c,rfl,hr,hk',hn⟩;exact⟨{ p:=q,c:=c },trivial,rfl,hk'.mono fun _ e=>e.elim,fun b hb=>⟨.inl (hn b hb).1,(hn b hb).2⟩,hr⟩
 simp only[sRw,Act.put,LS];apply BC rfl rfl
 ·intro w' hk;have hq8:=(BA.drew (fun _=>False) W8).trans hk;obtain⟨x0,x1,x2,-⟩:=BS ((HKV8.out.trans hq8).blk HB1.out);obtain⟨y0,y1,y2,-⟩:=BS (hq8.blk HB8.out);clear hq8;go_simp;with_reducible rfl
 simp only[Act.put,LS];apply BC rfl rfl
 ·intro w' hk;go_simp;with_reducible rfl
 simp only[Act.put,LS];refine BE rfl rfl (BR 13 #[.agg #[.int .i64 N,.slice pc p.conts.length cc,.slice (some ⟨g,0,none⟩) p.threads.length c9],.int .i64 t] (fun w=>by kernel_rfl) ⟨default,trivial⟩ (fun g _=>stable_rd _ _) fun w' hk _ _=>(HVQ.out w' ((BA.drew (fun _=>False) W8).trans hk)).mono ?_) fun g10 _=>?_
 ·rintro e w'' ⟨q,c,rfl,hr,hk',hn⟩;exact⟨{ p:=q,c:=c },trivial,rfl,hk'.mono fun _ e=>e.elim,fun b hb=>⟨.inl (hn b hb).1,(hn b hb).2⟩,hr⟩
 simp only[Act.put,LS];refine BE rfl rfl (BR 12 #[.slice g7.p s.vars.length g7.c,.slice g10.p s.vars.length g10.c] (fun w=>by kernel_rfl) ⟨default,trivial⟩ (fun g _=>BX _) fun w' hk hav _=>(sameS_any w' g7.p g10.p g7.c g10.c s.vars (hav 7 (by decide)).1 (hav 10 (by decide)).1 (by have:=HOK.out;unfold ScOk at this;omega)).mono ?_) fun _ _=>?_
 ·rintro e w'' ⟨rfl,hk'⟩;exact⟨default,trivial,rfl,hk'.mono fun _ e=>e.elim,fun b h=>h.elim,trivial⟩
 simp only[Act.put,LS];apply BC rfl rfl
 ·intro w' hk;go_simp;with_reducible rfl
 simp only[Act.put,LS];apply BC rfl rfl
 ·intro w' hk;go_simp;with_reducible rfl
 simp only[Act.put,LS];apply BC rfl rfl
 ·intro w' hk;have hq8:=(BA.drew (fun _=>False) W8).trans hk;obtain⟨x0,x1,x2,-⟩:=BS ((HKV8.out.trans hq8).blk HB1.out);obtain⟨y0,y1,y2,-⟩:=BS (hq8.blk HB8.out);clear hq8;go_simp;with_reducible rfl
 simp only[Act.put,LS];apply BC rfl rfl
 ·intro w' hk;go_simp;with_reducible rfl
 simp only[Act.put,LS];refine BE rfl rfl (BR 15 #[.agg #[.int .i64 N,.slice p1 p.conts.length c1,.slice p2 p.threads.length c2],.int .i64 t] (fun w=>by kernel_rfl) ⟨default,trivial⟩ (fun g _=>stable_rd _ _) fun w' hk _ _=>(HAP.out w' (HKV8.out.trans ((BA.drew (fun _=>False) W8).trans hk))).mono ?_) fun g16 _=>?_
 ·rintro e w'' ⟨q,c,rfl,hr,hk',hn⟩;exact⟨{ p:=q,c:=c },trivial,rfl,hk'.mono fun _ e=>e.elim,fun b hb=>⟨.inl (hn b hb).1,(hn b hb).2⟩,hr⟩
 simp only[Act.put,LS];apply BC rfl rfl
 ·intro w' hk;have hq8:=(BA.drew (fun _=>False) W8).trans hk;obtain⟨x0,x1,x2,-⟩:=BS ((HKV8.out.trans hq8).blk HB1.out);obtain⟨y0,y1,y2,-⟩:=BS (hq8.blk HB8.out);clear hq8;go_simp;with_reducible rfl
 simp only[Act.put,LS];apply BC rfl rfl
 ·intro w' hk;go_simp;with_reducible rfl
 simp only[Act.put,LS];refine BE rfl rfl (BR 15 #[.agg #[.int .i64 N,.slice pc p.conts.length cc,.slice (some ⟨g,0,none⟩) p.threads.length c9],.int .i64 t] (fun w=>by kernel_rfl) ⟨default,trivial⟩ (fun g _=>stable_rd _ _) fun w' hk _ _=>(HAQ.out w' ((BA.drew (fun _=>False) W8).trans hk)).mono ?_) fun g19 _=>?_
 ·rintro e w'' ⟨q,c,rfl,hr,hk',hn⟩;exact⟨{ p:=q,c:=c },trivial,rfl,hk'.mono fun _ e=>e.elim,fun b hb=>⟨.inl (hn b hb).1,(hn b hb).2⟩,hr⟩
 simp only[Act.put,LS];refine BE rfl rfl (BR 14 #[.slice g16.p s.arrays.length g16.c,.slice g19.p s.arrays.length g19.c] (fun w=>by kernel_rfl) ⟨default,trivial⟩ (fun g _=>BX _) fun w' hk hav _=>(sameA_any w' g16.p g19.p g16.c g19.c s.arrays (hav 16 (by decide)).1 (hav 19 (by decide)).1 (by have:=HOK.out;unfold ScOk at this;omega)).mono ?_) fun _ _=>?_
 ·rintro e w'' ⟨rfl,hk'⟩;exact⟨default,trivial,rfl,hk'.mono fun _ e=>e.elim,fun b h=>h.elim,trivial⟩
 simp only[Act.put,LS];apply BC rfl rfl
 ·intro w' hk;go_simp;with_reducible rfl
 simp only[Act.put,LS];apply BC rfl rfl
 ·intro w' hk;go_simp;with_reducible rfl
 simp only[Act.put,LS];apply BC rfl rfl
 ·intro w' hk;have hq8:=(BA.drew (fun _=>False) W8).trans hk;obtain⟨x0,x1,x2,-⟩:=BS ((HKV8.out.trans hq8).blk HB1.out);obtain⟨y0,y1,y2,-⟩:=BS (hq8.blk HB8.out);clear hq8;go_simp;with_reducible rfl
 simp only[Act.put,LS];apply BC rfl rfl
 ·intro w' hk;go_simp;with_reducible rfl
 simp only[Act.put,LS];refine BE rfl rfl (BR 16 #[.agg #[.int .i64 N,.slice pc p.conts.length cc,.slice (some ⟨g,0,none⟩) p.threads.length c9],.int .i64 t] (fun w=>by kernel_rfl) ⟨default,trivial⟩ (fun g _=>BX _) fun w' hk hav _=>(HCQ.out w' ((BA.drew (fun _=>False) W8).trans hk)).mono ?_) fun _ _=>?_
 ·rintro e w'' ⟨rfl,hk'⟩;exact⟨default,trivial,rfl,hk'.mono fun _ e=>e.elim,fun b h=>h.elim,trivial⟩
 simp only[Act.put,LS];apply BC rfl rfl
 ·intro w' hk;have hq8:=(BA.drew (fun _=>False) W8).trans hk;obtain⟨x0,x1,x2,-⟩:=BS ((HKV8.out.trans hq8).blk HB1.out);obtain⟨y0,y1,y2,-⟩:=BS (hq8.blk HB8.out);clear hq8;go_simp;with_reducible rfl
 simp only[Act.put,LS];apply BC rfl rfl
 ·intro w' hk;go_simp;with_reducible rfl
 simp only[Act.put,LS];refine BE rfl rfl (BR 16 #[.agg #[.int .i64 N,.slice p1 p.conts.length c1,.slice p2 p.threads.length c2],.int .i64 t] (fun w=>by kernel_rfl) ⟨default,trivial⟩ (fun g _=>BX _) fun w' hk hav _=>(HCP.out w' (HKV8.out.trans ((BA.drew (fun _=>False) W8).trans hk))).mono ?_) fun _ _=>?_
 ·rintro e w'' ⟨rfl,hk'⟩;exact⟨default,trivial,rfl,hk'.mono fun _ e=>e.elim,fun b h=>h.elim,trivial⟩
 simp only[Act.put,LS]
 repeat refine BC rfl rfl (fun w' hk=>by go_simp;with_reducible rfl) ?_;simp only[Act.put,LS]
 refine BP ?_;intro W9 hk9 _ _;have HKE:=hid (HKV.out.trans (HKV8.out.trans ((BA.drew (fun _=>False) W8).trans hk9)));clear hk9;go_wp2_with fail;go_ret;exact⟨rfl,HKE.out⟩
attribute [local go_sem] Oper.semAt_some
def SrcP (w:World)(p:Gp)(e:Ending)(w':World):Prop:=BA (fun _=>False) w w'∧∃v,e=.returned (.tuple #[v,flV (pgF p)])∧(∃xn xp xm xc yp ym yc,v=.agg #[.int .i64 xn,.slice xp xm xc,.slice yp ym yc])∧((pgF p).err=0→PAt w' (fun b=>w.heap.size≤b) v p)
theorem pat_mono' {w:World}{S S':Nat→Prop}{v:Value}{p:Gp}(h:PAt w S v p)(hS:∀b,S b→S' b):PAt w S' v p:=PAt.mono hS h
theorem source_any (s:ByteArray)(its:List Item)(pr:Pr)(w:World)(hT:TabS w)(hall:allT s.data.toList=(its,⟨0,0,0⟩))(hss:s.size≤1000000)(hx:∀R el ec,ReadsP R el ec its pr)(hthl:pr.threads.length≤1000000)(hne:its≠[])(hsz:DG pr.threads≤600)(hdp:thsDeep pr.threads≤24)(hm:Mild (toP pr)):
  Calls Tryz.prog 37 #[.string s] w fun e w'=>SrcP w (toP pr) e w':=by
 obtain⟨V1,B2,hV1,hB2,hb2,hk1,hs1⟩:=BD w (.cells #[.int .i64 0,.slice none 0 0,.slice none 0 0] TPr);obtain⟨V,B3,hV,hB3,hb3,hk2,hs2⟩:=BD V1 (.cells #[.int .i64 0,.int .i64 0,.int .i64 0] TFa);have hk:=hk1.trans hk2;have HRE:=hid (prog_any s its pr V (hk.tabS hT) hall hss hx hthl hne hsz hdp);have h23:B2+1=B3:=by omega
 have HK:=hid hk;have HB2:=hid (hk2.blk hb2);have HB3:=hid hb3;have HM:=hid hm;have HT:=hid hT;have HN:=hid (show w.heap.size≤B2∧B2<B3∧B3<V.heap.size by omega);clear hT hall hss hx hthl hne hsz hdp hb2 hb3 hk1 hk2 hs1 hs2 hk hm;go_enter Tryz.func37,Tryz.ntmps37;go_upto_region 1 with fail;rw[←hV1,←hB2,←hV,h23];clear hV1 hB2 hV hB3 h23;go_wp2_with fail;go_at_call 46;refine HRE.out.mono ?_;rintro e w1 ⟨vs,rfl,hex,hk1⟩;have hpa:=pat_in hex.toP;obtain⟨xn,xp,xm,xc,yp,ym,yc,rfl⟩:=prg_form hex;obtain⟨X,P4,hX,hP4,hb4,hkx,hsx⟩:=BD w1 (.cells #[.int .i64 xn,.slice xp xm xc,.slice yp ym yc] TPr);obtain⟨W,F5,hW,hF5,hb5,hky,hsy⟩:=BD X (.cells #[.int .i64 0,.int .i64 0,.int .i64 0] TFa);have h45:P4+1=F5:=by omega
 have hkk:=hkx.trans hky;have hk1W:=hk1.trans hkk;have HPA:=hid (CG hpa hkk);have HPR:=hid (prog18_any (toP pr) HM.out W ((HK.out.trans hk1W).tabS HT.out) _ _ (CG hpa hkk));have HKW:=hid (HK.out.trans hk1W);have HW1:=hid (show w1.heap.size≤P4 by omega);have HN4:=hid (show V.heap.size≤P4∧P4<F5∧F5<W.heap.size by have:=hk1.size;omega);have HB4:=hid (hky.blk hb4);have HB5:=hid hb5;have HB2W:=hid (hk1W.blk HB2.out);have HB3W:=hid (hk1W.blk HB3.out);obtain⟨m0,m1,m2,-⟩:=BS (hky.blk hb4);obtain⟨n0,n1,n2,-⟩:=BS hb5;clear hex hpa hb4 hb5 hkx hky hsx hsy hkk hk1W hk1;go_upto_region 2 with fail;rw[←hX,←hW,←hP4,h45];clear hX hW hP4 hF5 h45;go_upto_region 3 with fail;go_wp2_with fail;go_at_call 8;refine HPR.out.mono ?_;rintro e w2 ⟨rfl,hk2⟩;obtain⟨⟨er,li,co⟩,hf⟩:∃f,pgF (toP pr)=f:=⟨_,rfl⟩;rw[hf];unfold flV;dsimp only;have HF:=hid hf;have hb5:=hk2.blk HB5.out;obtain⟨n0',n1',n2',g0,g1,g2⟩:=BS hb5;obtain⟨w3,hw3,hb53,hk3⟩:=put3 hb5 (.int .i64 er) (.int .i64 li) (.int .i64 co);have hn:=HN.out;have hn4:=HN4.out;have HB43:=hid (hk3.blkE (hk2.blk HB4.out) fun e=>by have e:P4=F5:=e;omega);have HB53:=hid hb53;have HB23:=hid (hk3.blkE (hk2.blk HB2W.out) fun e=>by have e:B2=F5:=e;omega);have HB33:=hid (hk3.blkE (hk2.blk HB3W.out) fun e=>by have e:B3=F5:=e;omega);have HK3:=hid ((HKW.out.trans hk2).new hk3 fun b e=>by have e:b=F5:=e;omega);have HPA9:=hid (pat_keep (CG HPA.out hk2) hk3 fun b hb e=>by have e:b=F5:=e;have:=hb.2;have:=HW1.out;omega);obtain⟨k0,k1,k2,-⟩:=BS hb53;clear hf hb5 hk2 hb53 hk3 hn hn4 m0 m1 m2 n0 n1 n2;go_upto_region 4 with fail;rw[←hw3];clear hw3 n0' n1' n2' g0 g1 g2;by_cases he:er=0
 ·subst he;go_upto_region 6 with fail;refine wp_ownB (by kernel_rfl) B2 B3 _ _ HB23.out HB33.out (by have:=HN.out;omega) (fun i=>[[],[],[0],[0,1,2]].getD i []) (fun i=>if i=2 then [4] else if i=3 then [5] else []) (fun i=>if i=2 then [4] else if i=3 then [5] else []) [2,3] (by kernel_rfl) (fun i=>if i=2 then some (sPut B2 TPr) else if i=3 then some (sPut B3 TFa) else none) ?_;apply BC rfl rfl
  ·intro w' hk;obtain⟨x0,x1,x2,-⟩:=BS (((BA.drew (fun b=>b=B2∨b=B3) w3).trans hk).blkE HB43.out fun e=>by have:=HN.out;have:=HN4.out;omega);go_simp;with_reducible rfl
  simp only[Act.put,LS];apply BC rfl rfl
  ·intro w' hk;obtain⟨x0,x1,x2,-⟩:=BS (((BA.drew (fun b=>b=B2∨b=B3) w3).trans hk).blkE HB53.out fun e=>by have:=HN.out;have:=HN4.out;omega);go_simp;with_reducible rfl
  simp only[Act.put,LS];refine BE rfl rfl (loud_put B2 TPr TPr #[.int .i64 xn,.slice xp xm xc,.slice yp ym yc] _ (.tmp 2) (.tmp 21) rfl rfl rfl 4 (by decide) (by decide) (fun w h=>h) (.inl ⟨rfl,rfl⟩) rfl (by kernel_rfl) (by simp[Value.oneCell'])) fun g2 _=>?_;simp only[sPut,Act.put];refine BE rfl rfl (loud_put B3 TFa TFa #[.int .i64 0,.int .i64 li,.int .i64 co] _ (.tmp 3) (.tmp 22) rfl rfl rfl 5 (by decide) (by decide) (fun w h=>h) (.inr ⟨rfl,rfl⟩) rfl (by kernel_rfl) (by simp[Value.oneCell'])) fun g3 _=>?_;simp only[Act.put];refine BP ?_;intro w9 hk9 hF _;have f2:w9.heap[B2]?=some (.cells #[.int .i64 xn,.slice xp xm xc,.slice yp ym yc] TPr (0,0)):=(hF 2 (by decide)).1 _ (BV rfl rfl);have f3:w9.heap[B3]?=some (.cells #[.int .i64 0,.int .i64 li,.int .i64 co] TFa (0,0)):=(hF 3 (by decide)).1 _ (BV rfl rfl);have hkM:=(BA.drew (fun b=>b=B2∨b=B3) w3).trans hk9;have hn:=HN.out;have hn4:=HN4.out;obtain⟨c0,c1,c2,-⟩:=BS f2;obtain⟨d0,d1,d2,-⟩:=BS f3;have HK9:=hid (HK3.out.new hkM fun b hb=>by omega);have HPA10:=hid (pat_keep HPA9.out hkM fun b hb e=>by have h1:=hb.1;omega);clear hk9 hF f2 f3 hkM hn hn4;go_wp2_with fail;exact bodyPost_ret (v:=.tuple #[.agg #[.int .i64 xn,.slice xp xm xc,.slice yp ym yc],.agg #[.int .i64 0,.int .i64 li,.int .i64 co]]) (by simp[results,Tryz.results37,go_sem,c0,c1,c2,d0,d1,d2]) rfl ⟨HK9.out,_,by rw[HF.out],⟨_,_,_,_,_,_,_,rfl⟩,fun _=>pat_mono' HPA10.out fun b hb=>by have:=hb.1;have:=HN.out;omega⟩
 ·have he2:(er != 0)=true:=by simpa using he
  go_upto_region 5 with fail;refine wp_ownB (by kernel_rfl) B2 B3 _ _ HB23.out HB33.out (by have:=HN.out;omega) (fun i=>[[],[],[0],[0,1,2]].getD i []) (fun i=>if i=2 then [4] else if i=3 then [5] else []) (fun i=>if i=2 then [4] else if i=3 then [5] else []) [2,3] (by kernel_rfl) (fun i=>if i=2 then some (sPut B2 TPr) else if i=3 then some (sPut B3 TFa) else none) ?_;apply BC rfl rfl
  ·intro w' hk;go_simp;with_reducible rfl
  simp only[Act.put,LS];apply BC rfl rfl
  ·intro w' hk;obtain⟨x0,x1,x2,-⟩:=BS (((BA.drew (fun b=>b=B2∨b=B3) w3).trans hk).blkE HB53.out fun e=>by have:=HN.out;have:=HN4.out;omega);go_simp;with_reducible rfl
  simp only[Act.put,LS];refine BE rfl rfl (loud_put B2 TPr TPr #[.int .i64 0,.slice none 0 0,.slice none 0 0] _ (.tmp 2) (.tmp 19) rfl rfl rfl 4 (by decide) (by decide) (fun w h=>h) (.inl ⟨rfl,rfl⟩) rfl (by kernel_rfl) (by simp[Value.oneCell'])) fun g2 _=>?_;simp only[sPut,Act.put];refine BE rfl rfl (loud_put B3 TFa TFa #[.int .i64 er,.int .i64 li,.int .i64 co] _ (.tmp 3) (.tmp 20) rfl rfl rfl 5 (by decide) (by decide) (fun w h=>h) (.inr ⟨rfl,rfl⟩) rfl (by kernel_rfl) (by simp[Value.oneCell'])) fun g3 _=>?_;simp only[Act.put];refine BP ?_;intro w9 hk9 hF _;have f2:w9.heap[B2]?=some (.cells #[.int .i64 0,.slice none 0 0,.slice none 0 0] TPr (0,0)):=(hF 2 (by decide)).1 _ (BV rfl rfl);have f3:w9.heap[B3]?=some (.cells #[.int .i64 er,.int .i64 li,.int .i64 co] TFa (0,0)):=(hF 3 (by decide)).1 _ (BV rfl rfl);have hkM:=(BA.drew (fun b=>b=B2∨b=B3) w3).trans hk9;have hn:=HN.out;have hn4:=HN4.out;obtain⟨c0,c1,c2,-⟩:=BS f2;obtain⟨d0,d1,d2,-⟩:=BS f3;have HK9:=hid (HK3.out.new hkM fun b hb=>by omega);have HPA10:=hid (pat_keep HPA9.out hkM fun b hb e=>by have h1:=hb.1;omega);clear hk9 hF f2 f3 hkM hn hn4;go_wp2_with fail;exact bodyPost_ret (v:=.tuple #[.agg #[.int .i64 0,.slice none 0 0,.slice none 0 0],.agg #[.int .i64 er,.int .i64 li,.int .i64 co]]) (by simp[results,Tryz.results37,go_sem,c0,c1,c2,d0,d1,d2]) rfl ⟨HK9.out,_,by rw[HF.out],⟨_,_,_,_,_,_,_,rfl⟩,fun h=>absurd (by rw[HF.out]at h;exact h) he⟩
attribute [local go_sem] Oper.semAt_some
def tx1:List UInt8:=[112,111,111,108,32,49,59,32,115,116,97,99,107,32,115,59,32,116,104,114,101,97,100,32,123,32,97,32,61,32,49,59,32,125]
def ix1:List Item:=(allT tx1).1
def px1:Pr:=(progP 9 ix1).getD ⟨0,[],[]⟩
theorem all_x1:allT tx1=(ix1,⟨0,0,0⟩):=by kernel_rfl
theorem prog_x1:progP 9 ix1=some px1:=by kernel_rfl
theorem word_x1:WordI ix1:=by unfold WordI;decide +kernel
theorem reads_x1 (R el ec:Nat):ReadsP R el ec ix1 px1:=progP_reads R el ec 9 ix1 px1 (by decide +kernel) word_x1 prog_x1
def tx2:List UInt8:=[112,111,111,108,32,49,59,32,115,116,97,99,107,32,115,59,32,116,104,114,101,97,100,32,123,32,118,97,114,32,97,32,61,32,97,59,32,125]
def ix2:List Item:=(allT tx2).1
def px2:Pr:=(progP 9 ix2).getD ⟨0,[],[]⟩
theorem all_x2:allT tx2=(ix2,⟨0,0,0⟩):=by kernel_rfl
theorem prog_x2:progP 9 ix2=some px2:=by kernel_rfl
theorem word_x2:WordI ix2:=by unfold WordI;decide +kernel
theorem reads_x2 (R el ec:Nat):ReadsP R el ec ix2 px2:=progP_reads R el ec 9 ix2 px2 (by decide +kernel) word_x2 prog_x2
def tx3:List UInt8:=[112,111,111,108,32,49,59,32,115,116,97,99,107,32,115,59,32,116,104,114,101,97,100,32,123,32,118,97,114,32,97,32,61,32,49,59,32,97,114,114,97,121,32,98,91,51,93,59,32,97,32,61,32,112,117,115,104,40,115,44,32,98,91,97,93,41,59,32,125]
def ix3:List Item:=(allT tx3).1
def px3:Pr:=(progP 9 ix3).getD ⟨0,[],[]⟩
theorem all_x3:allT tx3=(ix3,⟨0,0,0⟩):=by kernel_rfl
theorem prog_x3:progP 9 ix3=some px3:=by kernel_rfl
theorem word_x3:WordI ix3:=by unfold WordI;decide +kernel
theorem reads_x3 (R el ec:Nat):ReadsP R el ec ix3 px3:=progP_reads R el ec 9 ix3 px3 (by decide +kernel) word_x3 prog_x3
theorem said_1:pgF (toP px1)=⟨6,1,27⟩:=by decide +kernel
theorem said_2:pgF (toP px2)=⟨6,1,35⟩:=by decide +kernel
theorem said_3:pgF (toP px3)=⟨0,0,0⟩:=by decide +kernel
end Go.Proofs.YtknnmidnodeanaaGreatDoor
