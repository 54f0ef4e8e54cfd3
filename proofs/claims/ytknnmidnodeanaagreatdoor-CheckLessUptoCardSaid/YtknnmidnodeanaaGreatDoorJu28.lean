import Derived.Test.YtknnmidnodeanaaGreatDoorJu25
set_option maxHeartbeats 64000000
set_option maxRecDepth 4000
namespace Go.Proofs.YtknnmidnodeanaaGreatDoor
open Go Go.RowKit Own
open Go.Lib (hid)
theorem g_len {w:World}{S:Nat→Prop}{vs:List Value}{x:Gx}(h:GAt w S vs x):vs.length=7:=by
 obtain⟨_,_,_,_,_,_,_,_,_,rfl⟩:=g_form h;rfl
theorem gks_of_row {w:World}{S:Nat→Prop}{g:Nat}(hS:S g):∀(l:List Gx) (cs:List (List Value)) (i:Nat),cs.length=l.length→(∀j (h:j<cs.length) (h':j<l.length),GAt w S cs[j] l[j])→(∀j u,cs.flatten[j]?=some u→w.cell? ⟨g,i * 7+j,none⟩=some u)→DC w S (some ⟨g,0,none⟩) i l
 |[],_,_,_,_,_=>by unfold DC;trivial
 |s::l,[],_,h,_,_=>by simp at h
 | s::l,c::cs,i,hl,hst,hc=>by
  unfold DC;have h0:=hst 0 (by simp) (by simp);have h12:=g_len h0;simp only[List.getElem_cons_zero]at h0 h12;refine⟨⟨g,0,c,rfl,hS,fun j v hj=>?_,h0⟩,gks_of_row hS l cs (i+1) (by simpa using hl) (fun j h h'=>hst (j+1) (by simpa using h) (by simpa using h')) fun j u hj=>?_⟩
  ·have hlt:j<c.length:=(List.getElem?_eq_some_iff.1 hj).1;rw[Nat.zero_add];exact hc j v (by rw[List.flatten_cons,List.getElem?_append_left hlt];exact hj)
  ·have:=hc (7+j) u (by rw[List.flatten_cons,List.getElem?_append_right (by omega),h12,Nat.add_sub_cancel_left];exact hj);rw[show (i+1) * 7+j=i * 7+(7+j) by omega];exact this
theorem gkids_getS {w:World}{S:Nat→Prop}{p:Option Addr}:∀{l:List Gx}{j:Nat},DC w S p j l→∀i (h:i<l.length),∃g o vs,p=some ⟨g,o,none⟩∧S g∧(∀k v,vs[k]?=some v→w.cell? ⟨g,o+(j+i) * 7+k,none⟩=some v)∧GAt w S vs l[i]
 | x::l,j,h,0,_=>by
  unfold DC at h;obtain⟨⟨g,o,vs,h1,h2,h3,h4⟩,_⟩:=h;exact⟨g,o,vs,h1,h2,h3,h4⟩
 | x::l,j,h,i+1,hi=>by
  unfold DC at h;obtain⟨g,o,vs,h1,h2,h3,h4⟩:=gkids_getS h.2 i (by simpa using hi);refine⟨g,o,vs,h1,h2,fun k v hk=>?_,h4⟩;rw[show j+(i+1)=j+1+i by omega];exact h3 k v hk
 |[],_,_,i,hi=>absurd hi (by simp)
def OwnsE (x:Gx):Prop:=∀(w:World) (S:Nat→Prop) (vs:List Value),GAt w S vs x→
 Calls Tryz.prog 44 #[.agg vs.toArray] w fun e w'=>∃us,e=.returned (.agg us.toArray)∧GAt w' (fun b=>w.heap.size≤b) us x∧BA (fun _=>False) w w'
structure OeAt (w wr:World)(B1 B2:Nat)(xk xo xn xl xc:Int)(S0:ByteArray)(kids:List Gx)(v:Value)(i:Nat)(cs:List (List Value)):Prop where
 le:i≤kids.length
 len:cs.length=i
 row:wr.ownsRow (B2+1) TEx 7 v i cs.flatten
 each:∀j (h:j<cs.length) (h':j<kids.length),GAt wr (fun b=>B2<b∧v.ownBlock≠some b) cs[j] kids[j]
 b1:wr.heap[B1]?=some (.cells #[.int .i64 xk,.int .i64 xo,.int .i64 xn,.string S0,v,.int .i64 xl,.int .i64 xc] TEx (0,0))
 b2:wr.heap[B2]?=some (.cells #[.int .i64 0,.int .i64 0,.int .i64 0,.string ⟨#[]⟩,.slice none 0 0,.int .i64 0,.int .i64 0] TEx (0,0))
 keep:BA (fun _=>False) w wr
 lt:w.heap.size≤B1∧B1<B2∧B2<wr.heap.size
theorem OeAt.step {w wr w9:World}{B1 B2 gb gd:Nat}{xk xo xn xl xc:Int}{S0:ByteArray}{kids:List Gx}{v v':Value}{i:Nat}{cs:List (List Value)}{us:List Value}(h:OeAt w wr B1 B2 xk xo xn xl xc S0 kids v i cs)(hi:i<kids.length)
  (hk:BA (fun b=>b=B1∨v.ownBlock=some b) wr w9) (hg:wr.heap.size≤gb) (hst:GAt w9 (fun b=>gb≤b∧b<gd) us kids[i]) (hrow:w9.ownsRow (B2+1) TEx 7 v' (i+1) (cs.flatten++us)) (hb1:w9.heap[B1]?=some (.cells #[.int .i64 xk,.int .i64 xo,.int .i64 xn,.string S0,v',.int .i64 xl,.int .i64 xc] TEx (0,0)))
  (hdis:∀b,v'.ownBlock=some b→¬(gb≤b∧b<gd)) (hnew:∀b,v'.ownBlock=some b→wr.heap.size≤b∨(b=B1∨v.ownBlock=some b)):OeAt w w9 B1 B2 xk xo xn xl xc S0 kids v' (i+1) (cs++[us]):=by
 have hlt:=h.lt;have hs:=hk.size;have hlen:=h.len;have hnv:∀b,v.ownBlock=some b→B2<b:=fun b e=>by have:=(h.row.lt b e).1;omega
 refine⟨hi,by simp[hlen],by simpa using hrow,fun j hj hj'=>?_,hb1,hk.blkE h.b2 (fun e=>e.elim (fun e=>by omega) fun e=>by have:=hnv _ e;omega),h.keep.newM hk fun b e=>.inr (e.elim (fun e=>by omega) fun e=>by have:=hnv _ e;omega),⟨hlt.1,hlt.2.1,by omega⟩⟩;by_cases hji:j<cs.length
 ·rw[List.getElem_append_left hji];refine(h.each j hji hj').inHeap.keepS fun b o u hb hc=>?_;obtain⟨⟨a1,a2⟩,a3⟩:=hb;refine⟨hk.cell hc fun e=>e.elim (fun e=>by have e:b=B1:=e;omega) a2,a1,fun e=>?_⟩;rcases hnew b e with e|e|e
  ·omega
  ·omega
  ·exact a2 e
 ·have hjl:j=cs.length:=by rw[LA]at hj;simp at hj;omega
  have hji2:j=i:=by omega
  subst hji2;rw[List.getElem_append_right (by omega)];simp only[hlen,Nat.sub_self,List.getElem_cons_zero];refine hst.mono fun b hb=>⟨by have h1:gb≤b:=hb.1;omega,fun e=>hdis b e hb⟩
theorem ownE_step (n:Nat)(hn:n≤900000)(ih:∀x,FA x≤n→OwnsE x)(x:Gx)(hx:FA x≤n+1):OwnsE x:=by
 intro w S vs hex;have HIH:=hid ih;have HN:=hid hn;obtain⟨xk,xo,xn,xm,xl,xc,kids⟩:=x;have hu:=hex;unfold GAt at hu;obtain⟨p,cap,rfl,hk⟩:=hu;obtain⟨S0,hS0⟩:∃S,strV xm=.string S:=⟨_,rfl⟩;have hsz:CV kids≤n:=by unfold FA at hx;omega
 have HKI:=hid hk;have HSZ:=hid hsz;have HS0:=hid hS0;have HKL:=hid (glen_size kids);rw[hS0];obtain⟨V1,B1,hV1,hB1,hb1,hk1,hs1⟩:=BD w (.cells #[.int .i64 xk,.int .i64 xo,.int .i64 xn,.string S0,.slice p kids.length cap,.int .i64 xl,.int .i64 xc] TEx);obtain⟨V,B2,hV,hB2,hb2,hk2,hs2⟩:=BD V1 (.cells #[.int .i64 0,.int .i64 0,.int .i64 0,.string ⟨#[]⟩,.slice none 0 0,.int .i64 0,.int .i64 0] TEx);have hb1V:=hk2.blk hb1;obtain⟨n0,n1,n2,n3,n4,n5,n6,f0,f1,f2,f3,f4,f5,f6⟩:=blk7 hb1V;have HB1:=hid hb1V;have HB2:=hid hb2;have HK0:=hid (hk1.trans hk2);have HN2:=hid (show w.heap.size≤B1∧B1<B2∧B2<V.heap.size by omega);have h12:B1+1=B2:=by omega
 clear hx hex hk hs1 hs2 hb1 hb2 hk1 hk2 ih hsz hn hS0 hb1V;go_enter Tryz.func44,Tryz.ntmps44;go_upto_region 1 with fail;rw[←hV1,←hB1,←hV,h12];clear hV1 hB1 hV hB2 h12;go_upto_region 3 with fail;clear n0 n1 n2 n3 n4 n5 n6 f0 f1 f2 f3 f4 f5 f6;obtain⟨W0,hW,hb,hkb⟩:=box_put4 HB1.out (.slice none 0 0);rw[←hW]
 have HAT0:=hid (show OeAt w W0 B1 B2 xk xo xn xl xc S0 kids (.slice none 0 0) 0 [] from
  ⟨Nat.zero_le _,rfl,World.ownsRow_nil _ _ _ _,fun j h=>absurd h (by simp),hb,hkb.blkE HB2.out (fun e=>by have e:B2=B1:=e;have:=HN2.out;omega),HK0.out.newM hkb fun b e=>.inr (by have e:b=B1:=e;have:=HN2.out;omega),by have:=HN2.out;have:=hkb.size;exact⟨by omega,by omega,by omega⟩⟩)
 clear hW hb hkb;go_wp2_with fail;go_loopw [4] (fun v4 wr=>∃(i:Nat) (v:Value) (cs:List (List Value)),v4=.int .i64 i∧OeAt w wr B1 B2 xk xo xn xl xc S0 kids v i cs) (fun v _=>kids.length - (intOf v).toNat)
 case atStart=>exact⟨0,_,_,rfl,HAT0.out⟩
 case round=>
  obtain⟨i,v,cs,rfl,hat⟩:=hrel;have HAT:=hid hat
  clear hat HAT0;by_cases hlt:i<kids.length
  ·have hlti:(i:Int)<kids.length:=by omega
   have hi0:(0:Int)≤i:=by omega
   have hWi:IntKind.i64.wrap ((i:Int)+1)=(i:Int)+1:=IntWalk.i64_in _ (by have:=HSZ.out;have:=HKL.out;have:=HN.out;omega);have HKK:=hid (show ∀w',BA (fun b=>b=B1∨v.ownBlock=some b) wr.drew w'→BA (fun _=>False) w w' from fun w' hk=>HAT.out.keep.newM ((BA.drew _ wr).trans hk) fun b e=>.inr (e.elim (fun e=>by have h1:=HAT.out.lt;omega) fun e=>by have h1:=HAT.out.lt;have:=(HAT.out.row.lt b e).1;omega));obtain⟨g,o,vs,hp,-,hc,hex⟩:=gkids_getS HKI.out i hlt;subst hp;rw[Nat.zero_add]at hc;obtain⟨yk,yo,yn,yS,yp,ym,yc,yl,ycl,rfl⟩:=g_form hex;have HGX:=hid (show ∀w',BA (fun b=>b=B1∨v.ownBlock=some b) wr.drew w'→GAt w' S [.int .i64 yk,.int .i64 yo,.int .i64 yn,.string yS,.slice yp ym yc,.int .i64 yl,.int .i64 ycl] kids[i]from fun w' hk=>hex.keep (HKK.out w' hk) fun _ _ e=>e);have ck:=fun w' (h:BA (fun b=>b=B1∨v.ownBlock=some b) wr.drew w') j u (hj:([.int .i64 yk,.int .i64 yo,.int .i64 yn,.string yS,.slice yp ym yc,.int .i64 yl,.int .i64 ycl]:List Value)[j]?=some u)=>(HKK.out w' h).stay (hc j u hj);have hme:=gsize_mem hlt;have HO:=hid (HIH.out kids[i] (by have:=HSZ.out;omega));obtain⟨x,hx⟩:∃x,kids[i]=x:=⟨_,rfl⟩;have HXE:=hid hx;rw[hx]at HGX HO;obtain⟨zk,zo,zn,zm,zl,zc,zks⟩:=x;obtain⟨S3,hS3⟩:∃S,strV zm=.string S:=⟨_,rfl⟩;have HS3:=hid hS3;have HB1:=hid HAT.out.b1;have HRW:=hid HAT.out.row;have HLT:=hid HAT.out.lt;have HIL:=hid (show i+1≤1000000 by have:=HSZ.out;have:=HKL.out;have:=HN.out;omega);clear hc hex hx hme hS3;go_upto_region 6 with fail
   refine wp_own2 (by kernel_rfl) B1 _ HB1.out (B2+1) TEx 7 v i _ HRW.out (by have:=HLT.out;omega) (fun i=>[[],[0],[],[],[2,3],[2,3,4],[2,3,4,5],[2,3,4,5,6],[0,1,2,3,4,5,6,7],[0,1,2,3,4,5,6,7,8],[0,1,2,3,4,5,6,7,8,9]].getD i []) (fun i=>if i=1 then [11] else if i=8 then [12,6,7] else if i=10 then [11] else []) (fun i=>if i=8 then [12,6] else if i=10 then [11] else []) [8,10] (by kernel_rfl)
    (fun j=>if j=1 then some (BN v) else if j=6 then some { ok:=fun _ g=>wr.heap.size≤g.b,val:=fun _ g=>.agg #[.int .i64 zk,.int .i64 zo,.int .i64 zn,.string S3,.slice g.p zks.length g.c,.int .i64 zl,.int .i64 zc],fp:=fun _ g b=>g.b≤b∧b<g.d,post:=fun _ g w'=>GAt w' (fun b=>g.b≤b∧b<g.d) [.int .i64 zk,.int .i64 zo,.int .i64 zn,.string S3,.slice g.p zks.length g.c,.int .i64 zl,.int .i64 zc] (.mk zk zo zn zm zl zc zks) }
     else if j=7 then some (sOneM TEx) else if j=8 then some (sApp (B2+1) TEx 7 i cs.flatten wr.heap.size (fun w b d us=>GAt w (fun k=>b≤k∧k<d) us (.mk zk zo zn zm zl zc zks))) else if j=10 then some (CT B1 4 TEx #[.int .i64 xk,.int .i64 xo,.int .i64 xn,.string S0,v,.int .i64 xl,.int .i64 xc]) else none) ?_
   apply BC rfl rfl
   ·intro w' hk;go_simp;with_reducible rfl
   simp only[Act.put,LS]
   refine BE rfl rfl (BY ⟨default,trivial⟩ (fun g _ w w' _ _ _ _ _=>trivial) fun w' hk hav _=>by
    obtain⟨x0,x1,x2,x3,x4,x5,x6,-⟩:=blk7 (show w'.heap[B1]?=some (.cells #[.int .i64 xk,.int .i64 xo,.int .i64 xn,.string S0,v,.int .i64 xl,.int .i64 xc] TEx (0,0)) from(hav 11 (by decide)).1);exact⟨w',default,trivial,.inl (by go_simp<;>rfl),BA.refl _ _,fun b h=>h.elim,trivial⟩) fun _ _=>?_
   simp only[BN,Act.put,LS]
   repeat refine BC rfl rfl (fun w' hk=>by go_simp;with_reducible rfl) ?_;simp only[Act.put,LS]
   refine BC rfl rfl (v:=.agg #[.int .i64 yk,.int .i64 yo,.int .i64 yn,.string yS,.slice yp ym yc,.int .i64 yl,.int .i64 ycl]) (fun w' hk=>by
    have x0:w'.cell? ⟨g,o+i * 7,none⟩=some (.int .i64 yk):=ck w' hk 0 _ rfl;have x1:=ck w' hk 1 _ rfl;have x2:=ck w' hk 2 _ rfl;have x3:=ck w' hk 3 _ rfl;have x4:=ck w' hk 4 _ rfl;have x5:=ck w' hk 5 _ rfl;have x6:=ck w' hk 6 _ rfl;go_simp<;>rfl) ?_
   simp only[Act.put,LS];refine BE rfl rfl (BR 44 #[.agg #[.int .i64 yk,.int .i64 yo,.int .i64 yn,.string yS,.slice yp ym yc,.int .i64 yl,.int .i64 ycl]] (fun w=>by kernel_rfl) ⟨{ b:=wr.heap.size },Nat.le_refl _⟩ (fun gs _ w1 w2 _ _ _ hb hp=>hp.keepS fun b o v hS hc=>⟨by simpa [World.cell?,hb b hS]using hc,hS⟩) fun w' hk hav _=>(HO.out w' S _ (HGX.out w' hk)).mono ?_) fun g6 hg6=>?_
   ·rintro e w'' ⟨us,rfl,hg2,hk2⟩;have hg3:=hg2.inHeap;unfold GAt at hg3;obtain⟨p2,cc2,hus,hkids⟩:=hg3;rw[HS3.out]at hus;subst hus;refine⟨{ p:=p2,c:=cc2,b:=w'.heap.size,d:=w''.heap.size },Nat.le_trans (BA.drew (fun _=>False) wr).size hk.size,rfl,hk2.mono fun b e=>e.elim,fun b hb=>⟨.inl hb.1,hb.2⟩,?_⟩;show GAt w'' _ _ _;unfold GAt;exact⟨p2,cc2,by rw[HS3.out],hkids⟩
   simp only[Act.put,LS];refine BE rfl rfl (loud_oneM TEx #[.int .i64 zk,.int .i64 zo,.int .i64 zn,.string S3,.slice g6.p zks.length g6.c,.int .i64 zl,.int .i64 zc] (one_arg rfl rfl) (fun w=>by go_simp)) fun g7 _=>?_;simp only[sOneM,Act.put,LS]
   refine BE rfl rfl (loud_appendM (B2+1) wr.heap.size TEx 62 (.agg #[.int .i64 0,.int .i64 0,.int .i64 0,.string ⟨#[]⟩,.slice none 0 0,.int .i64 0,.int .i64 0]) 7 80 (by kernel_rfl) (by kernel_rfl) rfl (by decide) (.tmp 15) (.tmp 21) rfl v i _ [.int .i64 zk,.int .i64 zo,.int .i64 zn,.string S3,.slice g6.p zks.length g6.c,.int .i64 zl,.int .i64 zc] g6.b g6.d g7.b (fun w b d us=>GAt w (fun k=>b≤k∧k<d) us (.mk zk zo zn zm zl zc zks))
    (fun w1 w2 b d us h hb=>h.keepS fun k o v hS hc=>⟨by simpa [World.cell?,hb k hS.1 hS.2]using hc,hS⟩) rfl rfl rfl (by simp[Value.oneCell']) (by unfold maxLen;have:=HIL.out;omega) (by have:=HIL.out;omega) (by have:=HLT.out;show B2+1≤wr.heap.size;omega) hg6 12 (by decide) (by decide) (fun w h=>h) (fun b hb=>.inr ⟨rfl,hb⟩) 6 (by decide) (by decide) (by decide) (fun w h=>h) (fun b hb=>hb) 7 (by decide) (fun w h=>h _ (one_arg rfl rfl))) fun g8 hg8=>?_
   simp only[sApp,Act.put,LS];apply BC rfl rfl
   ·intro w' hk;go_simp;with_reducible rfl
   simp only[Act.put,LS];refine BE rfl rfl (CS B1 4 TEx #[.int .i64 xk,.int .i64 xo,.int .i64 xn,.string S0,v,.int .i64 xl,.int .i64 xc] (.slice g8.p (i+1) g8.c) (BV rfl rfl) (fun w u hc hf=>by go_simp<;>rfl) 11 (by decide) (by decide) (fun w h=>h) (.inl ⟨rfl,rfl⟩) (by show 4<7;decide)) fun g10 _=>?_;simp only[CT,Act.put,LS];refine BP ?_;intro W9 hk9 hF _;obtain⟨f8d,us,f8r,f8g⟩:=(hF 8 (by decide)).1;have f8n:=(hF 8 (by decide)).2;have f10:W9.heap[B1]?=some (.cells #[.int .i64 xk,.int .i64 xo,.int .i64 xn,.string S0,.slice g8.p (i+1) g8.c,.int .i64 xl,.int .i64 xc] TEx (0,0)):=(hF 10 (by decide)).1 _ (BV rfl rfl);have HNX:=hid (HAT.out.step hlt ((BA.drew (fun b=>b=B1∨v.ownBlock=some b) wr).trans hk9) hg8 (by rw[HXE.out];exact f8g) f8r f10 (fun b e=>f8d b (CL.1 e)) (fun b e=>(f8n b (.inl (CL.1 e))).2));clear f8d f8r f8g f8n f10 hF hk9 ck;go_wp2_with fail;exact⟨⟨i+1,_,_,by simp,HNX.out⟩,by simp only[intOf];omega⟩
  ·have hnl:¬(i:Int)<kids.length:=by omega
   have hi:i=kids.length:=by have:=HAT.out.le;omega
   obtain⟨p2,c2,hv,hrow⟩:=rowS_some HAT.out.row;obtain⟨n0,n1,n2,n3,n4,n5,n6,-⟩:=blk7 (by have h:=HAT.out.b1;rw[hv]at h;exact h);obtain⟨m0,m1,m2,m3,m4,m5,m6,f0,f1,f2,f3,f4,f5,f6⟩:=blk7 HAT.out.b2;have HV:=hid hv;have HROW:=hid hrow;have HIE:=hid hi;clear hv hrow hi hlt;go_wp2_with fail;obtain⟨wf,hwf,hp,hkp⟩:=put7 HAT.out.b2 (.int .i64 xk) (.int .i64 xo) (.int .i64 xn) (.string S0) (.slice p2 i c2) (.int .i64 xl) (.int .i64 xc);rw[←hwf];obtain⟨c0,c1,c2',c3,c4,c5,c6,-⟩:=blk7 hp;have hlt:=HAT.out.lt;refine bodyPost_ret (v:=.agg #[.int .i64 xk,.int .i64 xo,.int .i64 xn,.string S0,.slice p2 i c2,.int .i64 xl,.int .i64 xc]) (by simp[results,Tryz.results44,go_sem,c0,c1,c2',c3,c4,c5,c6]) rfl ⟨[.int .i64 xk,.int .i64 xo,.int .i64 xn,.string S0,.slice p2 i c2,.int .i64 xl,.int .i64 xc],rfl,?_,HAT.out.keep.newM hkp fun b e=>.inr (by have e:b=B2:=e;omega)⟩;have hB2g:∀b,(B2<b∧v.ownBlock≠some b)→¬b=B2:=fun b hb e=>by omega
   have hkids:DC wf (fun b=>w.heap.size≤b) p2 0 kids:=by
    rcases HROW.out with h0|⟨g,rfl,hc⟩
    ·have:kids=[]:=List.eq_nil_of_length_eq_zero (by have:=HIE.out;omega);rw[this];unfold DC;trivial
    ·have hgv:v.ownBlock=some g:=by rw[HV.out];rfl
     have hgb:=(HAT.out.row.lt g hgv).1;refine gks_of_row (by omega) kids cs 0 (by have:=HAT.out.len;have:=HIE.out;omega) (fun j h h'=>(HAT.out.each j h h').keepS fun b o u hb hcc=>⟨hkp.cell hcc (hB2g b hb),by have:=hb.1;omega⟩) fun j u hj=>?_;rw[Nat.zero_mul,Nat.zero_add];exact hkp.cell (hc j u hj) fun e=>by have e:g=B2:=e;omega
   unfold GAt;exact⟨p2,c2,by rw[HS0.out,HIE.out],hkids⟩
theorem ownE_any:∀(n:Nat) (x:Gx),FA x≤n→n≤900000→OwnsE x
 |0,x,hx,_=>by cases x;unfold FA at hx;omega
 |n+1,x,hx,hn=>ownE_step n (by omega) (fun y hy=>ownE_any n y hy (by omega)) x hx
theorem s_len {w:World}{S:Nat→Prop}{vs:List Value}{x:Gs}(h:SAt w S vs x):vs.length=12:=by
 obtain⟨_,_,_,_,_,_,_,_,_,_,_,_,_,_,_,_,_,_,rfl⟩:=s_form h;rfl
theorem s_cells {w:World}{S:Nat→Prop}{vs:List Value}{x:Gs}(h:SAt w S vs x):∀u∈vs,u.oneCell'=true:=by
 obtain⟨_,_,_,_,_,_,_,_,_,_,_,_,_,_,_,_,_,_,rfl⟩:=s_form h;simp[Value.oneCell']
theorem sks_of_row {w:World}{S:Nat→Prop}{g:Nat}(hS:S g):∀(l:List Gs) (cs:List (List Value)) (i:Nat),cs.length=l.length→(∀j (h:j<cs.length) (h':j<l.length),SAt w S cs[j] l[j])→(∀j u,cs.flatten[j]?=some u→w.cell? ⟨g,i * 12+j,none⟩=some u)→CF w S (some ⟨g,0,none⟩) i l
 |[],_,_,_,_,_=>by unfold CF;trivial
 |s::l,[],_,h,_,_=>by simp at h
 | s::l,c::cs,i,hl,hst,hc=>by
  unfold CF;have h0:=hst 0 (by simp) (by simp);have h12:=s_len h0;simp only[List.getElem_cons_zero]at h0 h12;refine⟨⟨g,0,c,rfl,hS,fun j v hj=>?_,h0⟩,sks_of_row hS l cs (i+1) (by simpa using hl) (fun j h h'=>hst (j+1) (by simpa using h) (by simpa using h')) fun j u hj=>?_⟩
  ·have hlt:j<c.length:=(List.getElem?_eq_some_iff.1 hj).1;rw[Nat.zero_add];exact hc j v (by rw[List.flatten_cons,List.getElem?_append_left hlt];exact hj)
  ·have:=hc (12+j) u (by rw[List.flatten_cons,List.getElem?_append_right (by omega),h12,Nat.add_sub_cancel_left];exact hj);rw[show (i+1) * 12+j=i * 12+(12+j) by omega];exact this
theorem CF.inHeap {w:World}{S:Nat→Prop}{p:Option Addr}{i:Nat}{l:List Gs}(h:CF w S p i l):CF w (fun b=>S b∧b<w.heap.size) p i l:=
 h.keepS fun _ _ _ hb hc=>⟨hc,hb,World.block_lt_of_cell? w _ hc⟩
theorem sks_same {w w':World}{S:Nat→Prop}{p:Option Addr}{i:Nat}{l:List Gs}(h:CF w S p i l)(hb:∀b,S b→w'.heap[b]?=w.heap[b]?):CF w' S p i l:=
 h.keepS fun b o v hS hc=>⟨by simpa [World.cell?,hb b hS]using hc,hS⟩
def OwnsS (l:List Gs):Prop:=∀(w:World) (S:Nat→Prop) (p:Option Addr) (c:Nat),CF w S p 0 l→
 Calls Tryz.prog 27 #[.slice p l.length c] w fun e w'=>∃q d,e=.returned (.slice q l.length d)∧CF w' (fun b=>w.heap.size≤b) q 0 l∧BA (fun _=>False) w w'
def sCellB (b i k n:Nat)(T:TypeId)(cs0:Array Value)(lo:Nat)(A:World→Nat→Nat→Option Addr→Prop):Loud:={ ok:=fun _ g=>lo≤g.b,val:=fun _ _=>undef,fp:=fun _ g x=>x=b∨(g.b≤x∧x<g.d),post:=fun args g w=>(∀v,args.getD 1 undef=v→w.heap[b]?=some (.cells ((cs0.setIfInBounds k (.slice g.p n g.c)).setIfInBounds i v) T (0,0)))∧A w g.b g.d g.p }
section
variable {P : Program}{w0 : World}{M : Nat→Prop}{o : Oper}{a : Act}{av ea : List Nat}{F : Nat→World→Prop}{Fp : Nat→Nat→Prop}
theorem loud_cellB (b i k n:Nat)(T:TypeId)(cs0:Array Value)(lo b3 d3 c3:Nat)(q:Option Addr)(A:World→Nat→Nat→Option Addr→Prop)(hA:∀w w' b d p,A w b d p→(∀k,b≤k→k<d→w'.heap[k]?=w.heap[k]?)→A w' b d p)(v:Value)(hv:(BM o a).getD 1 undef=v)
  (hrun:∀w u,w.cell? ⟨b,i,none⟩=some u→w.frozen? ⟨b,i,none⟩=false→(execOp a.eval o).run P w=.ok .skip (w.setCell ⟨b,i,none⟩ v)) (hlo:lo≤b3)
  (j:Nat) (hja:j∈av) (hje:j∈ea) (hF:∀w,F j w→w.heap[b]?=some (.cells (cs0.setIfInBounds k (.slice q n c3)) T (0,0))) (hfp:Fp j b) (hi:i<cs0.size)
  (j3:Nat) (hj3a:j3∈av) (hj3e:j3∈ea) (hne:j3≠j) (hF3:∀w,F j3 w→A w b3 d3 q) (hp3:∀x,(b3≤x∧x<d3)→Fp j3 x):CU P w0 M o a (sCellB b i k n T cs0 lo A) av ea F Fp:=by
 refine BY ⟨{ b:=lo },Nat.le_refl _⟩ (fun g _ w w' _ _ _ h k=>⟨fun v hv=>(h b (.inl rfl)).trans (k.1 v hv),hA _ _ _ _ _ k.2 fun x h1 h2=>h x (.inr ⟨h1,h2⟩)⟩) fun w _ hav hdis=>?_;obtain⟨hj,hb⟩:=hav j hja;have hh:=hF w hj;have hst:=hF3 w (hav j3 hj3a).1;have hsz:i<(cs0.setIfInBounds k (.slice q n c3)).size:=by simpa using hi
 have hbn:¬(b3≤b∧b<d3):=fun h=>hdis j3 hj3a j hja hne b (hp3 b h) hfp;refine⟨w.setCell ⟨b,i,none⟩ v,{ b:=b3,d:=d3,p:=q,c:=c3 },hlo,.inr ⟨hrun w _ (BH hh (Array.getElem?_eq_getElem hsz)) (by simp[World.frozen?,hh]),rfl⟩,BA.setCell _ _ _ ⟨j,hje,hfp⟩,fun x hx=>?_,fun u hu=>?_,hA _ _ _ _ _ hst fun x h1 h2=>?_⟩
 ·rcases hx with hx|hx
  ·rw[hx];exact⟨.inr ⟨j,hje,hfp⟩,Nat.lt_of_lt_of_le (hb b hfp).1 (by simp[World.setCell])⟩
  ·exact⟨.inr ⟨j3,hj3e,hp3 x hx⟩,Nat.lt_of_lt_of_le ((hav j3 hj3a).2 x (hp3 x hx)).1 (by simp[World.setCell])⟩
 ·rw[hv]at hu;rw[←hu];exact put1 hh v
 ·exact(BA.setCell (E:=fun y=>y=b) w ⟨b,i,none⟩ v rfl).block x ((hav j3 hj3a).2 x (hp3 x ⟨h1,h2⟩)).1 fun e=>hbn (by rw[←show x=b from e];exact⟨h1,h2⟩)
end
structure OxAt (wr wx:World)(C:Nat)(k sz op l cl:Int)(N V I T:ByteArray)(xs:List Gx)(v:Value)(th el:Value)(i:Nat)(cs:List (List Value)):Prop where
 le:i≤xs.length
 len:cs.length=i
 row:wx.ownsRow (C+1) TEx 7 v i cs.flatten
 each:∀j (h:j<cs.length) (h':j<xs.length),GAt wx (fun b=>C<b∧v.ownBlock≠some b) cs[j] xs[j]
 b:wx.heap[C]?=some (.cells #[.int .i64 k,.string N,.int .i64 sz,.int .i64 op,.string V,.string I,.string T,v,th,el,.int .i64 l,.int .i64 cl] TSm (0,0))
 keep:BA (fun _=>False) wr wx
 lt:wr.heap.size≤C∧C<wx.heap.size
theorem OxAt.step {wr wx w9:World}{C gb gd:Nat}{k sz op l cl:Int}{N V I T:ByteArray}{xs:List Gx}{v v' th el:Value}{i:Nat}{cs:List (List Value)}{us:List Value}(h:OxAt wr wx C k sz op l cl N V I T xs v th el i cs)(hi:i<xs.length)
  (hk:BA (fun b=>b=C∨v.ownBlock=some b) wx w9) (hg:wx.heap.size≤gb) (hst:GAt w9 (fun b=>gb≤b∧b<gd) us xs[i]) (hrow:w9.ownsRow (C+1) TEx 7 v' (i+1) (cs.flatten++us)) (hb1:w9.heap[C]?=some (.cells #[.int .i64 k,.string N,.int .i64 sz,.int .i64 op,.string V,.string I,.string T,v',th,el,.int .i64 l,.int .i64 cl] TSm (0,0)))
  (hdis:∀b,v'.ownBlock=some b→¬(gb≤b∧b<gd)) (hnew:∀b,v'.ownBlock=some b→wx.heap.size≤b∨(b=C∨v.ownBlock=some b)):OxAt wr w9 C k sz op l cl N V I T xs v' th el (i+1) (cs++[us]):=by
 have hlt:=h.lt;have hs:=hk.size;have hlen:=h.len;have hnv:∀b,v.ownBlock=some b→C<b:=fun b e=>by have:=(h.row.lt b e).1;omega
 refine⟨hi,by simp[hlen],by simpa using hrow,fun j hj hj'=>?_,hb1,h.keep.newM hk fun b e=>.inr (e.elim (fun e=>by omega) fun e=>by have:=hnv _ e;omega),⟨hlt.1,by omega⟩⟩;by_cases hji:j<cs.length
 ·rw[List.getElem_append_left hji];refine(h.each j hji hj').inHeap.keepS fun b o u hb hc=>?_;obtain⟨⟨a1,a2⟩,a3⟩:=hb;refine⟨hk.cell hc fun e=>e.elim (fun e=>by have e:b=C:=e;omega) a2,a1,fun e=>?_⟩;rcases hnew b e with e|e|e
  ·omega
  ·omega
  ·exact a2 e
 ·have hji2:j=i:=by rw[LA]at hj;simp at hj;omega
  subst hji2;rw[List.getElem_append_right (by omega)];simp only[hlen,Nat.sub_self,List.getElem_cons_zero];refine hst.mono fun b hb=>⟨by have h1:gb≤b:=hb.1;omega,fun e=>hdis b e hb⟩
structure OsAt (w wr:World)(l:List Gs)(v:Value)(i:Nat)(cs:List (List Value)):Prop where
 le:i≤l.length
 len:cs.length=i
 row:wr.ownsRow 0 TSm 12 v i cs.flatten
 new:∀b,v.ownBlock=some b→w.heap.size≤b
 each:∀j (h:j<cs.length) (h':j<l.length),SAt wr (fun b=>w.heap.size≤b∧v.ownBlock≠some b) cs[j] l[j]
 keep:BA (fun _=>False) w wr
theorem OsAt.step {w wr W2 w':World}{l:List Gs}{v v':Value}{i:Nat}{cs:List (List Value)}{us:List Value}(h:OsAt w wr l v i cs)(hi:i<l.length)(hst:SAt W2 (fun b=>wr.heap.size≤b) us l[i])(k2:BA (fun _=>False) wr W2)
  (hrow:w'.ownsRow 0 TSm 12 v' (i+1) (cs.flatten++us)) (k3:BA (fun b=>v.ownBlock=some b) W2 w') (ho:v'.ownBlock=v.ownBlock∨v'.ownBlock=some W2.heap.size):OsAt w w' l v' (i+1) (cs++[us]):=by
 have z0:=h.keep.size;have z2:=k2.size;have hlen:=h.len;have lv:∀b,v.ownBlock=some b→w.heap.size≤b∧b<wr.heap.size:=fun b e=>⟨h.new b e,(h.row.lt b e).2⟩;have lv':∀b,v'.ownBlock=some b→v.ownBlock=some b∨W2.heap.size=b:=fun b e=>ho.imp (fun e1=>by rw[←e1];exact e) fun e1=>by rw[e1]at e;exact Option.some.inj e
 have kall:BA (fun b=>v.ownBlock=some b) wr w':=(k2.mono fun _ e=>e.elim).trans k3;refine⟨hi,by simp[hlen],by simpa using hrow,fun b e=>(lv' b e).elim (fun e=>(lv b e).1) fun e=>by omega,fun j hj hj'=>?_,h.keep.newM kall fun b e=>.inr (lv b e).1⟩;by_cases hji:j<cs.length
 ·rw[List.getElem_append_left hji];refine(h.each j hji hj').inHeap.keepS fun b o u hb hc=>?_;obtain⟨⟨a1,a2⟩,a3⟩:=hb;refine⟨kall.cell hc a2,a1,fun e=>?_⟩;rcases lv' b e with e|e
  ·exact a2 e
  ·omega
 ·have hji2:j=i:=by rw[LA]at hj;simp at hj;omega
  subst hji2;rw[List.getElem_append_right (by omega)];simp only[hlen,Nat.sub_self,List.getElem_cons_zero];refine hst.inHeap.keepS fun b o u hb hc=>?_;obtain⟨a1,a2⟩:=hb;have a1:wr.heap.size≤b:=a1;refine⟨k3.cell hc fun e=>by have:=lv b e;omega,by omega,fun e=>?_⟩;rcases lv' b e with e|e
  ·have:=lv b e;omega
  ·omega
theorem ownS_step (l : List Gs)(hb : BI l≤900000)(ih : ∀m, BI m < BI l→OwnsS m) : OwnsS l := by
  intro w S p c hp;have HIH := Lib.hid ih; have HP := Lib.hid hp; have HBD := Lib.hid hb;have HL := Lib.hid (slen_size l);clear ih hp hb;go_enter Tryz.func27, Tryz.ntmps27;go_wp2_with fail;go_loopw [3, 4] (fun v3 v4 wr => ∃(i : Nat) (cs : List (List Value)), v4 = .int .i64 i∧OsAt w wr l v3 i cs) (fun _ v _ => l.length - (intOf v).toNat)
  case atStart => exact⟨0, [], rfl, Nat.zero_le _, rfl, World.ownsRow_nil _ _ _ _, fun b e => by simp[Value.ownBlock]at e, fun j h => absurd h (by simp), BA.refl _ _⟩
  case round =>
    obtain⟨wo, hwo⟩ : ∃x, x = wr := ⟨wr, rfl⟩;subst hwo;obtain⟨i, cs, rfl, hat⟩ := hrel;have HAT := Lib.hid hat
    clear hat
    by_cases hlt : i < l.length
    · have hlti : (i : Int) < l.length := by omega
      have hi0 : (0 : Int)≤i := by omega
      obtain⟨g, o, vs, hp, hc, hst, -⟩ := skids_get (HP.out.keep HAT.out.keep fun _ _ e => e) i hlt;subst hp;rw[Nat.zero_add]at hc;have hme := ssize_mem hlt;obtain⟨s, hs⟩ : ∃s, l[i] = s := ⟨_, rfl⟩;have HLI := Lib.hid hs;rw[hs]at hst hme;clear hs;obtain⟨k, nm, sz, op, val, into, cont, xs, thn, els, ln, col⟩ := s;have hss : CO (.mk k nm sz op val into cont xs thn els ln col) = CV xs + BI thn + BI els + 1 := by unfold CO; rfl
      rw[hss]at hme;unfold SAt at hst;obtain⟨p1, c1, p2, c2, p3, c3, rfl, hx, ht, he⟩ := hst;obtain⟨N, hN⟩ : ∃S, strV nm = .string S := ⟨_, rfl⟩;obtain⟨Vb, hV⟩ : ∃S, strV val = .string S := ⟨_, rfl⟩;obtain⟨I, hI⟩ : ∃S, strV into = .string S := ⟨_, rfl⟩;obtain⟨T, hT⟩ : ∃S, strV cont = .string S := ⟨_, rfl⟩;have HS := Lib.hid (And.intro hN (And.intro hV (And.intro hI hT)));rw[hN, hV, hI, hT]at hc;have x0 : wo.cell? ⟨g, o + i * 12, none⟩ = some (.int .i64 k) := hc 0 _ rfl;have x1 := hc 1 _ rfl; have x2 := hc 2 _ rfl; have x3 := hc 3 _ rfl; have x4 := hc 4 _ rfl; have x5 := hc 5 _ rfl; have x6 := hc 6 _ rfl; have x7 := hc 7 _ rfl; have x8 := hc 8 _ rfl; have x9 := hc 9 _ rfl; have x10 := hc 10 _ rfl; have x11 := hc 11 _ rfl;have HC7 := Lib.hid x7; have HC8 := Lib.hid x8; have HC9 := Lib.hid x9;obtain⟨W, C, hW, hC, hcb, hkc, hsc⟩ := BD wo (.cells #[.int .i64 k, .string N, .int .i64 sz, .int .i64 op, .string Vb, .string I, .string T, .slice p1 xs.length c1, .slice p2 thn.length c2, .slice p3 els.length c3, .int .i64 ln, .int .i64 col] TSm);have HX := Lib.hid hx; have HT := Lib.hid ht; have HE := Lib.hid he;have HB := Lib.hid hcb; have HKC := Lib.hid hkc;have HNC := Lib.hid (show wo.heap.size≤C∧C < W.heap.size by omega);have HWT := Lib.hid (HIH.out thn (by omega)); have HWE := Lib.hid (HIH.out els (by omega));have HSZ := Lib.hid (show CV xs + BI thn + BI els + 1≤900000 by have := HBD.out; omega);have HXL := Lib.hid (glen_size xs);obtain⟨n0, n1, n2, n3, n4, n5, n6, n7, n8, n9, n10, n11⟩ := BK hcb;have f7 := DE hcb 7;clear hc hx ht he hsc hcb hme hss hkc hN hV hI hT;go_upto_region 6 with fail;rw[← hW, ← hC];clear hW hC x0 x1 x2 x3 x4 x5 x6 x7 x8 x9 x10 x11;go_upto_region 7 with fail;clear n0 n1 n2 n3 n4 n5 n6 n7 n8 n9 n10 n11 f7;obtain⟨W1, hW1, hb1, hk1⟩ := s_put7 HB.out (.slice none 0 0);rw[← hW1]
      have HAX0 := Lib.hid (show OxAt wo W1 C k sz op ln col N Vb I T xs (.slice none 0 0) (.slice p2 thn.length c2) (.slice p3 els.length c3) 0 [] from
        ⟨Nat.zero_le _, rfl, World.ownsRow_nil _ _ _ _, fun j h => absurd h (by simp), hb1, HKC.out.newM hk1 fun b e => .inr (by have e : b = C := e; have := HNC.out; omega), by have := HNC.out; have := hk1.size; exact⟨by omega, by omega⟩⟩)
      clear hW1 hb1 hk1;go_wp2_with fail;go_loopw [6] (fun v6 wx => ∃(j : Nat) (v : Value) (cx1 : List (List Value)), v6 = .int .i64 j∧OxAt wo wx C k sz op ln col N Vb I T xs v (.slice p2 thn.length c2) (.slice p3 els.length c3) j cx1) (fun v _ => xs.length - (intOf v).toNat)
      case atStart => exact⟨0, _, _, rfl, HAX0.out⟩
      case round =>
        obtain⟨wx, hwx⟩ : ∃x, x = wr := ⟨wr, rfl⟩;subst hwx;obtain⟨j, v, cx1, rfl, hax⟩ := hrel;have HAX := Lib.hid hax;have x7 := hax.keep.stay HC7.out;clear hax HAX0;by_cases hjl : j < xs.length
        · have hjli : (j : Int) < xs.length := by omega
          have hj0 : (0 : Int)≤j := by omega
          have hWj : IntKind.i64.wrap ((j : Int) + 1) = (j : Int) + 1 := IntWalk.i64_in _ (by have := HXL.out; have := HSZ.out; omega);have HX := Lib.hid (HX.out);have HKK := Lib.hid (show ∀w', BA (fun b => b = C∨v.ownBlock = some b) wx.drew w'→BA (fun _ => False) wo w' from fun w' hk => HAX.out.keep.newM ((BA.drew _ wx).trans hk) fun b e => .inr (e.elim (fun e => by have h1 := HAX.out.lt; omega) fun e => by have h1 := HAX.out.lt; have := (HAX.out.row.lt b e).1; omega));obtain⟨g2, o2, vs2, hp2, -, hc2, hex⟩ := gkids_getS HX.out j hjl;subst hp2;rw[Nat.zero_add]at hc2;obtain⟨yk, yo, yn, yS, yp, ym, yc, yl, ycl, rfl⟩ := g_form hex;have HGX := Lib.hid (show ∀w', BA (fun b => b = C∨v.ownBlock = some b) wx.drew w'→GAt w' S [.int .i64 yk, .int .i64 yo, .int .i64 yn, .string yS, .slice yp ym yc, .int .i64 yl, .int .i64 ycl] xs[j]from fun w' hk => hex.keep (HKK.out w' hk) fun _ _ e => e);have ck := fun w' (h : BA (fun b => b = C∨v.ownBlock = some b) wx.drew w') q u (hj : ([.int .i64 yk, .int .i64 yo, .int .i64 yn, .string yS, .slice yp ym yc, .int .i64 yl, .int .i64 ycl] : List Value)[q]? = some u) => (HKK.out w' h).stay (hc2 q u hj);have cx := fun w' (h : BA (fun b => b = C∨v.ownBlock = some b) wx.drew w') => (HKK.out w' h).stay HC7.out;have hme := gsize_mem hjl;have HO := Lib.hid (ownE_any 900000 xs[j] (by have := HSZ.out; omega) (Nat.le_refl _));obtain⟨x, hx⟩ : ∃x, xs[j] = x := ⟨_, rfl⟩;have HXE := Lib.hid hx;rw[hx]at HGX HO;obtain⟨zk, zo, zn, zm, zl, zc, zks⟩ := x;obtain⟨S3, hS3⟩ : ∃S, strV zm = .string S := ⟨_, rfl⟩;have HS3 := Lib.hid hS3;have HBC := Lib.hid HAX.out.b; have HRW := Lib.hid HAX.out.row;have HLT := Lib.hid HAX.out.lt;have HIL := Lib.hid (show j + 1≤1000000 by have := HSZ.out; have := HXL.out; omega);clear hc2 hex hx hme hS3;go_upto_region 10 with fail
          refine wp_own2 (by kernel_rfl) C _ HBC.out (C + 1) TEx 7 v j _ HRW.out (by omega) (fun i => [[], [0], [], [], [2, 3], [2, 3, 4], [2, 3, 4, 5], [], [2, 3, 4, 5, 6, 7], [2, 3, 4, 5, 6, 7, 8], [2, 3, 4, 5, 6, 7, 8, 9], [2, 3, 4, 5, 6, 7, 8, 9, 10], [0, 1, 2, 3, 4, 5, 6, 7, 8, 9, 10, 11], [0, 1, 2, 3, 4, 5, 6, 7, 8, 9, 10, 11, 12], [0, 1, 2, 3, 4, 5, 6, 7, 8, 9, 10, 11, 12, 13]].getD i []) (fun i => if i = 1 then [15] else if i = 12 then [16, 10, 11] else if i = 14 then [15] else []) (fun i => if i = 12 then [16, 10] else if i = 14 then [15] else []) [12, 14] (by kernel_rfl)
            (fun q => if q = 1 then some (BN v) else if q = 10 then some { ok := fun _ g => wx.heap.size≤g.b, val := fun _ g => .agg #[.int .i64 zk, .int .i64 zo, .int .i64 zn, .string S3, .slice g.p zks.length g.c, .int .i64 zl, .int .i64 zc], fp := fun _ g b => g.b≤b∧b < g.d, post := fun _ g w' => GAt w' (fun b => g.b≤b∧b < g.d) [.int .i64 zk, .int .i64 zo, .int .i64 zn, .string S3, .slice g.p zks.length g.c, .int .i64 zl, .int .i64 zc] (.mk zk zo zn zm zl zc zks) }
              else if q = 11 then some (sOneM TEx) else if q = 12 then some (sApp (C + 1) TEx 7 j cx1.flatten wx.heap.size (fun w b d us => GAt w (fun k => b≤k∧k < d) us (.mk zk zo zn zm zl zc zks))) else if q = 14 then some (CT C 7 TSm #[.int .i64 k, .string N, .int .i64 sz, .int .i64 op, .string Vb, .string I, .string T, v, .slice p2 thn.length c2, .slice p3 els.length c3, .int .i64 ln, .int .i64 col]) else none) ?_
          apply BC rfl rfl
          · intro w' hk; go_simp; with_reducible rfl
          simp only[Act.put, List.setIfInBounds_toArray, List.set_cons_zero, List.set_cons_succ]
          refine BE rfl rfl (BY ⟨default, trivial⟩ (fun g _ w w' _ _ _ _ _ => trivial) fun w' hk hav _ => by
            obtain⟨x0, x1, x2, x3, x4, x5, x6, x7, x8, x9, x10, x11⟩ := BK (show w'.heap[C]? = some (.cells #[.int .i64 k, .string N, .int .i64 sz, .int .i64 op, .string Vb, .string I, .string T, v, .slice p2 thn.length c2, .slice p3 els.length c3, .int .i64 ln, .int .i64 col] TSm (0, 0)) from(hav 15 (by decide)).1);exact⟨w', default, trivial, .inl (by go_simp<;>rfl), BA.refl _ _, fun b h => h.elim, trivial⟩) fun _ _ => ?_
          simp only[BN, Act.put, List.setIfInBounds_toArray, List.set_cons_zero, List.set_cons_succ];apply BC rfl rfl
          · intro w' hk; go_simp; with_reducible rfl
          simp only[Act.put, List.setIfInBounds_toArray, List.set_cons_zero, List.set_cons_succ];apply BC rfl rfl
          · intro w' hk; go_simp; with_reducible rfl
          simp only[Act.put, List.setIfInBounds_toArray, List.set_cons_zero, List.set_cons_succ];apply BC rfl rfl
          · intro w' hk; go_simp; with_reducible rfl
          simp only[Act.put, List.setIfInBounds_toArray, List.set_cons_zero, List.set_cons_succ];apply BC rfl rfl
          · intro w' hk; go_simp; with_reducible rfl
          simp only[Act.put, List.setIfInBounds_toArray, List.set_cons_zero, List.set_cons_succ];apply BC rfl rfl
          · intro w' hk; have e1 := cx w' hk; go_simp; with_reducible rfl
          simp only[Act.put, List.setIfInBounds_toArray, List.set_cons_zero, List.set_cons_succ];apply BC rfl rfl
          · intro w' hk; go_simp; with_reducible rfl
          simp only[Act.put, List.setIfInBounds_toArray, List.set_cons_zero, List.set_cons_succ];apply BC rfl rfl
          · intro w' hk; go_simp; with_reducible rfl
          simp only[Act.put, List.setIfInBounds_toArray, List.set_cons_zero, List.set_cons_succ]
          refine BC rfl rfl (v := .agg #[.int .i64 yk, .int .i64 yo, .int .i64 yn, .string yS, .slice yp ym yc, .int .i64 yl, .int .i64 ycl]) (fun w' hk => by
            have x0 : w'.cell? ⟨g2, o2 + j * 7, none⟩ = some (.int .i64 yk) := ck w' hk 0 _ rfl;have x1 := ck w' hk 1 _ rfl; have x2 := ck w' hk 2 _ rfl; have x3 := ck w' hk 3 _ rfl; have x4 := ck w' hk 4 _ rfl; have x5 := ck w' hk 5 _ rfl; have x6 := ck w' hk 6 _ rfl;go_simp<;>rfl) ?_
          simp only[Act.put, List.setIfInBounds_toArray, List.set_cons_zero, List.set_cons_succ];refine BE rfl rfl (BR 44 #[.agg #[.int .i64 yk, .int .i64 yo, .int .i64 yn, .string yS, .slice yp ym yc, .int .i64 yl, .int .i64 ycl]] (fun w => by kernel_rfl) ⟨{ b := wx.heap.size }, Nat.le_refl _⟩ (fun gs _ w1 w2 _ _ _ hb hp => hp.keepS fun b o v hS hc => ⟨by simpa [World.cell?, hb b hS]using hc, hS⟩) fun w' hk hav _ => (HO.out w' S _ (HGX.out w' hk)).mono ?_) fun g6 hg6 => ?_
          · rintro e w'' ⟨us, rfl, hg2, hk2⟩;have hg3 := hg2.inHeap;unfold GAt at hg3;obtain⟨p2', cc2, hus, hkids⟩ := hg3;rw[HS3.out]at hus;subst hus;refine⟨{ p := p2', c := cc2, b := w'.heap.size, d := w''.heap.size }, Nat.le_trans (BA.drew (fun _ => False) wx).size hk.size, rfl, hk2.mono fun b e => e.elim, fun b hb => ⟨.inl hb.1, hb.2⟩, ?_⟩;show GAt w'' _ _ _;unfold GAt;exact⟨p2', cc2, by rw[HS3.out], hkids⟩
          simp only[Act.put, List.setIfInBounds_toArray, List.set_cons_zero, List.set_cons_succ];refine BE rfl rfl (loud_oneM TEx #[.int .i64 zk, .int .i64 zo, .int .i64 zn, .string S3, .slice g6.p zks.length g6.c, .int .i64 zl, .int .i64 zc] (one_arg rfl rfl) (fun w => by go_simp)) fun g7 _ => ?_;simp only[sOneM, Act.put, List.setIfInBounds_toArray, List.set_cons_zero, List.set_cons_succ]
          refine BE rfl rfl (loud_appendM (C + 1) wx.heap.size TEx 62 (.agg #[.int .i64 0, .int .i64 0, .int .i64 0, .string ⟨#[]⟩, .slice none 0 0, .int .i64 0, .int .i64 0]) 7 80 (by kernel_rfl) (by kernel_rfl) rfl (by decide) (.tmp 29) (.tmp 39) rfl v j _ [.int .i64 zk, .int .i64 zo, .int .i64 zn, .string S3, .slice g6.p zks.length g6.c, .int .i64 zl, .int .i64 zc] g6.b g6.d g7.b (fun w b d us => GAt w (fun k => b≤k∧k < d) us (.mk zk zo zn zm zl zc zks))
            (fun w1 w2 b d us h hb => h.keepS fun k o v hS hc => ⟨by simpa [World.cell?, hb k hS.1 hS.2]using hc, hS⟩) rfl rfl rfl (by simp[Value.oneCell']) (by unfold maxLen; have := HIL.out; omega) (by have := HIL.out; omega) (by have := HLT.out; show C + 1≤wx.heap.size; omega) hg6 16 (by decide) (by decide) (fun w h => h) (fun b hb => .inr ⟨rfl, hb⟩) 10 (by decide) (by decide) (by decide) (fun w h => h) (fun b hb => hb) 11 (by decide) (fun w h => h _ (one_arg rfl rfl))) fun g8 hg8 => ?_
          simp only[sApp, Act.put, List.setIfInBounds_toArray, List.set_cons_zero, List.set_cons_succ];apply BC rfl rfl
          · intro w' hk; go_simp; with_reducible rfl
          simp only[Act.put, List.setIfInBounds_toArray, List.set_cons_zero, List.set_cons_succ];refine BE rfl rfl (CS C 7 TSm #[.int .i64 k, .string N, .int .i64 sz, .int .i64 op, .string Vb, .string I, .string T, v, .slice p2 thn.length c2, .slice p3 els.length c3, .int .i64 ln, .int .i64 col] (.slice g8.p (j + 1) g8.c) (BV rfl rfl) (fun w u hc hf => by go_simp<;>rfl) 15 (by decide) (by decide) (fun w h => h) (.inl ⟨rfl, rfl⟩) (by show 7 < 12; decide)) fun g10 _ => ?_;simp only[CT, Act.put, List.setIfInBounds_toArray, List.set_cons_zero, List.set_cons_succ];refine BP ?_;intro W9 hk9 hF _;obtain⟨f8d, us, f8r, f8g⟩ := (hF 12 (by decide)).1;have f8n := (hF 12 (by decide)).2;have f10 : W9.heap[C]? = some (.cells #[.int .i64 k, .string N, .int .i64 sz, .int .i64 op, .string Vb, .string I, .string T, .slice g8.p (j + 1) g8.c, .slice p2 thn.length c2, .slice p3 els.length c3, .int .i64 ln, .int .i64 col] TSm (0, 0)) := (hF 14 (by decide)).1 _ (BV rfl rfl);have HNX := Lib.hid (HAX.out.step hjl ((BA.drew (fun b => b = C∨v.ownBlock = some b) wx).trans hk9) hg8 (by rw[HXE.out]; exact f8g) f8r f10 (fun b e => f8d b (CL.1 e)) (fun b e => (f8n b (.inl (CL.1 e))).2));clear f8d f8r f8g f8n f10 hF hk9 ck cx;go_wp2_with fail;exact⟨⟨j + 1, _, _, by simp, HNX.out⟩, by simp only[intOf]; omega⟩
        · have hjn : ¬(j : Int) < xs.length := by omega
          have hj : j = xs.length := by have := HAX.out.le; omega
          obtain⟨p4, c4, hv, hrow⟩ := rowS_some HAX.out.row
          have HXK := Lib.hid (show DC wx (fun b => wo.heap.size≤b∧C < b) p4 0 xs from by
            rcases hrow with h0|⟨g4, rfl, hc4⟩
            · have : xs = [] := List.eq_nil_of_length_eq_zero (by omega);rw[this];unfold DC; trivial
            · have hgb := (HAX.out.row.lt g4 (by rw[hv]; rfl)).1;have hlt2 := HAX.out.lt;exact gks_of_row ⟨by omega, by omega⟩ xs cx1 0 (by have := HAX.out.len; omega) (fun q h h' => (HAX.out.each q h h').mono fun b hb => ⟨by have := hb.1; omega, hb.1⟩) fun q u hq => by rw[Nat.zero_mul, Nat.zero_add]; exact hc4 q u hq)
          have HBV := Lib.hid (show wx.heap[C]? = some (.cells #[.int .i64 k, .string N, .int .i64 sz, .int .i64 op, .string Vb, .string I, .string T, .slice p4 xs.length c4, .slice p2 thn.length c2, .slice p3 els.length c3, .int .i64 ln, .int .i64 col] TSm (0, 0)) by have h := HAX.out.b; rw[hv, hj]at h; exact h);clear hv hrow hj;go_upto_region 11 with fail;have HKK := Lib.hid (show ∀w', BA (fun b => b = C) wx.drew w'→BA (fun _ => False) wo w' from fun w' hk => HAX.out.keep.newM ((BA.drew _ wx).trans hk) fun b e => .inr (by have e : b = C := e; have h1 := HAX.out.lt; omega));have c8 := fun w' (h : BA (fun b => b = C) wx.drew w') => (HKK.out w' h).stay HC8.out;have c9 := fun w' (h : BA (fun b => b = C) wx.drew w') => (HKK.out w' h).stay HC9.out;have HLT := Lib.hid HAX.out.lt
          refine wp_own1 (by kernel_rfl) C _ HBV.out (fun i => [[], [], [0, 1], [0, 1, 2], [0, 1, 2, 3], [0, 1, 2, 3, 4], [], [], [6, 7], [6, 7, 8], [6, 7, 8, 9], [0, 1, 2, 3, 4, 5, 6, 7, 8, 9, 10], [0, 1, 2, 3, 4, 5], [0, 1, 2, 3, 4, 5, 6, 7, 8, 9, 10, 11, 12], [0, 1, 2, 3, 4, 5, 6, 7, 8, 9, 10, 11, 12, 13], [0, 1, 2, 3, 4, 5, 6, 7, 8, 9, 10, 11, 12, 13, 14]].getD i []) (fun i => if i = 13 then [16] else if i = 15 then [13, 5] else []) (fun i => if i = 13 then [16] else if i = 15 then [13, 5] else []) [11, 15] (by kernel_rfl)
            (fun q => if q = 5 then some { ok := fun _ g => wx.heap.size≤g.b, val := fun _ g => .slice g.p thn.length g.c, fp := fun _ g b => g.b≤b∧b < g.d, post := fun _ g w' => CF w' (fun b => g.b≤b∧b < g.d) g.p 0 thn }
              else if q = 11 then some { ok := fun _ g => wx.heap.size≤g.b, val := fun _ g => .slice g.p els.length g.c, fp := fun _ g b => g.b≤b∧b < g.d, post := fun _ g w' => CF w' (fun b => g.b≤b∧b < g.d) g.p 0 els }
              else if q = 13 then some (CT C 8 TSm #[.int .i64 k, .string N, .int .i64 sz, .int .i64 op, .string Vb, .string I, .string T, .slice p4 xs.length c4, .slice p2 thn.length c2, .slice p3 els.length c3, .int .i64 ln, .int .i64 col]) else if q = 15 then some (sCellB C 9 8 thn.length TSm #[.int .i64 k, .string N, .int .i64 sz, .int .i64 op, .string Vb, .string I, .string T, .slice p4 xs.length c4, .slice p2 thn.length c2, .slice p3 els.length c3, .int .i64 ln, .int .i64 col] wx.heap.size (fun w b d p => CF w (fun k => b≤k∧k < d) p 0 thn)) else none) ?_
          apply BC rfl rfl
          · intro w' hk; go_simp; with_reducible rfl
          simp only[Act.put, List.setIfInBounds_toArray, List.set_cons_zero, List.set_cons_succ];apply BC rfl rfl
          · intro w' hk; go_simp; with_reducible rfl
          simp only[Act.put, List.setIfInBounds_toArray, List.set_cons_zero, List.set_cons_succ];apply BC rfl rfl
          · intro w' hk; go_simp; with_reducible rfl
          simp only[Act.put, List.setIfInBounds_toArray, List.set_cons_zero, List.set_cons_succ];apply BC rfl rfl
          · intro w' hk; go_simp; with_reducible rfl
          simp only[Act.put, List.setIfInBounds_toArray, List.set_cons_zero, List.set_cons_succ];apply BC rfl rfl
          · intro w' hk; have e1 := c8 w' hk; go_simp; with_reducible rfl
          simp only[Act.put, List.setIfInBounds_toArray, List.set_cons_zero, List.set_cons_succ];refine BE rfl rfl (BR 27 #[.slice p2 thn.length c2] (fun w => by kernel_rfl) ⟨{ b := wx.heap.size }, Nat.le_refl _⟩ (fun gs _ w1 w2 _ _ _ hb hp => sks_same hp hb) fun w' hk hav _ => (HWT.out w' S _ _ (HT.out.keep (HKK.out w' hk) fun _ _ e => e)).mono ?_) fun g5 hg5 => ?_
          · rintro e w'' ⟨q, d, rfl, hg2, hk2⟩;exact⟨{ p := q, c := d, b := w'.heap.size, d := w''.heap.size }, Nat.le_trans (BA.drew (fun _ => False) wx).size hk.size, rfl, hk2.mono fun b e => e.elim, fun b hb => ⟨.inl hb.1, hb.2⟩, hg2.inHeap⟩
          simp only[Act.put, List.setIfInBounds_toArray, List.set_cons_zero, List.set_cons_succ];apply BC rfl rfl
          · intro w' hk; go_simp; with_reducible rfl
          simp only[Act.put, List.setIfInBounds_toArray, List.set_cons_zero, List.set_cons_succ];apply BC rfl rfl
          · intro w' hk; go_simp; with_reducible rfl
          simp only[Act.put, List.setIfInBounds_toArray, List.set_cons_zero, List.set_cons_succ];apply BC rfl rfl
          · intro w' hk; go_simp; with_reducible rfl
          simp only[Act.put, List.setIfInBounds_toArray, List.set_cons_zero, List.set_cons_succ];apply BC rfl rfl
          · intro w' hk; go_simp; with_reducible rfl
          simp only[Act.put, List.setIfInBounds_toArray, List.set_cons_zero, List.set_cons_succ];apply BC rfl rfl
          · intro w' hk; have e1 := c9 w' hk; go_simp; with_reducible rfl
          simp only[Act.put, List.setIfInBounds_toArray, List.set_cons_zero, List.set_cons_succ];refine BE rfl rfl (BR 27 #[.slice p3 els.length c3] (fun w => by kernel_rfl) ⟨{ b := wx.heap.size }, Nat.le_refl _⟩ (fun gs _ w1 w2 _ _ _ hb hp => sks_same hp hb) fun w' hk hav _ => (HWE.out w' S _ _ (HE.out.keep (HKK.out w' hk) fun _ _ e => e)).mono ?_) fun g11 hg11 => ?_
          · rintro e w'' ⟨q, d, rfl, hg2, hk2⟩;exact⟨{ p := q, c := d, b := w'.heap.size, d := w''.heap.size }, Nat.le_trans (BA.drew (fun _ => False) wx).size hk.size, rfl, hk2.mono fun b e => e.elim, fun b hb => ⟨.inl hb.1, hb.2⟩, hg2.inHeap⟩
          simp only[Act.put, List.setIfInBounds_toArray, List.set_cons_zero, List.set_cons_succ];apply BC rfl rfl
          · intro w' hk; go_simp; with_reducible rfl
          simp only[Act.put, List.setIfInBounds_toArray, List.set_cons_zero, List.set_cons_succ];refine BE rfl rfl (CS C 8 TSm #[.int .i64 k, .string N, .int .i64 sz, .int .i64 op, .string Vb, .string I, .string T, .slice p4 xs.length c4, .slice p2 thn.length c2, .slice p3 els.length c3, .int .i64 ln, .int .i64 col] (.slice g5.p thn.length g5.c) (BV rfl rfl) (fun w u hc hf => by go_simp<;>rfl) 16 (by decide) (by decide) (fun w h => h) ⟨rfl, rfl⟩ (by show 8 < 12; decide)) fun g13 _ => ?_;simp only[CT, Act.put, List.setIfInBounds_toArray, List.set_cons_zero, List.set_cons_succ];apply BC rfl rfl
          · intro w' hk; go_simp; with_reducible rfl
          simp only[Act.put, List.setIfInBounds_toArray, List.set_cons_zero, List.set_cons_succ];refine BE rfl rfl (loud_cellB C 9 8 thn.length TSm #[.int .i64 k, .string N, .int .i64 sz, .int .i64 op, .string Vb, .string I, .string T, .slice p4 xs.length c4, .slice p2 thn.length c2, .slice p3 els.length c3, .int .i64 ln, .int .i64 col] wx.heap.size g5.b g5.d g5.c g5.p (fun w b d p => CF w (fun k => b≤k∧k < d) p 0 thn) (fun w1 w2 b d p h hb => sks_same h fun k hk => hb k hk.1 hk.2) (.slice g11.p els.length g11.c) (BV rfl rfl) (fun w u hc hf => by go_simp<;>rfl) hg5 13 (by decide) (by decide) (fun w h => h _ (BV rfl rfl)) rfl (by show 9 < 12; decide) 5 (by decide) (by decide) (by decide) (fun w h => h) (fun x hx => hx)) fun g15 hg15 => ?_;simp only[sCellB, Act.put, List.setIfInBounds_toArray, List.set_cons_zero, List.set_cons_succ];refine BP ?_;intro W9 hk9 hF _;have f11 := (hF 11 (by decide)).1;obtain⟨f15, f15t⟩ := (hF 15 (by decide)).1;have f15 : W9.heap[C]? = some (.cells #[.int .i64 k, .string N, .int .i64 sz, .int .i64 op, .string Vb, .string I, .string T, .slice p4 xs.length c4, .slice g15.p thn.length g15.c, .slice g11.p els.length g11.c, .int .i64 ln, .int .i64 col] TSm (0, 0)) := f15 _ (BV rfl rfl);have hkW := HKK.out W9 hk9;have HKW := Lib.hid hkW;have HB9 := Lib.hid f15
          have HST := Lib.hid (show SAt W9 (fun b => wo.heap.size≤b) [.int .i64 k, .string N, .int .i64 sz, .int .i64 op, .string Vb, .string I, .string T, .slice p4 xs.length c4, .slice g15.p thn.length g15.c, .slice g11.p els.length g11.c, .int .i64 ln, .int .i64 col] (.mk k nm sz op val into cont xs thn els ln col)from by
            unfold SAt;refine⟨p4, c4, g15.p, g15.c, g11.p, g11.c, by rw[← HS.out.1, ← HS.out.2.1, ← HS.out.2.2.1, ← HS.out.2.2.2], ?_, f15t.mono fun b hb => ?_, f11.mono fun b hb => ?_⟩
            · exact HXK.out.keep ((BA.drew (fun b => b = C) wx).trans hk9) (fun b hb e => by have e : b = C := e; have := hb.2; omega) |>.mono fun b hb => hb.1
            · have h1 : g15.b≤b := hb.1;have h2 := HAX.out.keep.size;have h3 : wx.heap.size≤g15.b := hg15;omega
            · have h1 : g11.b≤b := hb.1;have h2 := HAX.out.keep.size;have h3 : wx.heap.size≤g11.b := hg11;omega)
          clear f11 f15 f15t hkW hF hk9 c8 c9;obtain⟨n0, n1, n2, n3, n4, n5, n6, n7, n8, n9, n10, n11⟩ := BK HB9.out;obtain⟨W4, G, hW4, hG, hbG, hkG, hsG⟩ := BD W9 (.cells #[.int .i64 k, .string N, .int .i64 sz, .int .i64 op, .string Vb, .string I, .string T, .slice p4 xs.length c4, .slice g15.p thn.length g15.c, .slice g11.p els.length g11.c, .int .i64 ln, .int .i64 col] TSm);have HROW := Lib.hid (DO (DO HAT.out.row HKW.out fun _ _ e => e) hkG fun _ _ e => e);have HBG := Lib.hid hbG; have HW4 := Lib.hid hW4; have HE4 := Lib.hid hG; have HKG := Lib.hid (HKW.out.trans hkG);have HSTG := Lib.hid (HST.out.keep hkG fun _ _ e => e);have HCL := Lib.hid (s_cells HST.out);have HLL := Lib.hid (show i + 1≤1000000 by have := HL.out; have := HBD.out; omega);clear hbG hkG hsG hW4 hG
          go_wp2_with (at_builtin; rw[← HW4.out, ← HE4.out]
                       refine DX rfl (.tmp 56) (.tmp 58) 34 rfl TSm (.agg #[.int .i64 0, .string ⟨#[]⟩, .int .i64 0, .int .i64 0, .string ⟨#[]⟩, .string ⟨#[]⟩, .string ⟨#[]⟩, .slice none 0 0, .slice none 0 0, .slice none 0 0, .int .i64 0, .int .i64 0]) 12 176 (by kernel_rfl) (by kernel_rfl) rfl (by decide) u3 i cs.flatten HROW.out G 1 [.int .i64 k, .string N, .int .i64 sz, .int .i64 op, .string Vb, .string I, .string T, .slice p4 xs.length c4, .slice g15.p thn.length g15.c, .slice g11.p els.length g11.c, .int .i64 ln, .int .i64 col] rfl HBG.out HCL.out (by unfold maxLen; have := HLL.out; omega) (by have := HLL.out; omega) rfl rfl ?_;intro v3' w8 hr8 hk8 ho8;have HR8 := Lib.hid hr8; have HK8 := Lib.hid hk8; have HO8 := Lib.hid ho8;clear hr8 hk8 ho8;have hWi : IntKind.i64.wrap ((i : Int) + 1) = (i : Int) + 1 := IntWalk.i64_in _ (by have := HLL.out; omega);go_wp2_with fail)
          have hnext := HAT.out.step hlt (by rw[HLI.out]; exact HSTG.out) HKG.out HR8.out HK8.out HO8.out;exact⟨⟨i + 1, _, by simp, hnext⟩, by simp only[intOf]; omega⟩
    · have hnl : ¬(i : Int) < l.length := by omega
      have hi : i = l.length := by have := HAT.out.le; omega
      obtain⟨p2, c2, hv, hrow⟩ := rowS_some HAT.out.row;have HV := Lib.hid hv; have HROW := Lib.hid hrow;subst hv;subst hi;clear hrow hlt;go_wp2_with fail;go_ret;refine⟨p2, ⟨c2, rfl⟩, ?_, HAT.out.keep⟩;rcases HROW.out with h0|⟨g, rfl, hc⟩
      · rw[List.eq_nil_of_length_eq_zero h0];unfold CF; trivial
      · have hgb := HAT.out.new g rfl;exact sks_of_row hgb l cs 0 HAT.out.len (fun j h h' => (HAT.out.each j h h').mono fun b hb => hb.1) fun j u hj => by rw[Nat.zero_mul, Nat.zero_add]; exact hc j u hj
theorem ownS_any (l:List Gs)(hb:BI l≤900000):OwnsS l:=by
 induction h:BI l using Nat.strongRecOn generalizing l with
 |_ n ih=>exact ownS_step l hb fun m hm=>ih _ (by omega) m (by omega) rfl
end Go.Proofs.YtknnmidnodeanaaGreatDoor
