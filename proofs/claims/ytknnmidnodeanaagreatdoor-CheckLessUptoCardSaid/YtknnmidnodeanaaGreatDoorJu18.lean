import Derived.Test.YtknnmidnodeanaaGreatDoorJu13
set_option maxHeartbeats 32000000
set_option maxRecDepth 4000
namespace Go.Proofs.YtknnmidnodeanaaGreatDoor
open Go Go.RowKit Own
open Go.Lib (hid)
mutual
def wgt:Nat→Gx→Nat
 |d,.mk _ _ _ nm _ _ kids=>if 60<d∨60<nm.length then 1048576 else wgtL d 1 kids
def wgtL:Nat→Nat→List Gx→Nat
 |_,n,[]=>n
 |d,n,x::l=>if n<65536 then wgtL d (n+wgt (d+1) x) l else n
end
mutual
theorem wgt_le:∀(x:Gx) (d:Nat),wgt d x≤1048576+65536 * (61 - d)
 | .mk _ _ _ nm _ _ kids,d=>by
  unfold wgt;split
  ·omega
  ·exact wgtL_le kids d 1 (by omega) (by omega)
theorem wgtL_le:∀(l:List Gx) (d n:Nat),d≤60→n≤1048576+65536 * (61 - d)→wgtL d n l≤1048576+65536 * (61 - d)
 |[],d,n,_,hn=>by unfold wgtL;exact hn
 | x::l,d,n,hd,hn=>by
  unfold wgtL;split
  ·have:=wgt_le x (d+1);exact wgtL_le l d _ hd (by omega)
  ·exact hn
end
theorem wgt_pos (x:Gx)(d:Nat):1≤wgt d x:=by
 have key:∀(l:List Gx) (n:Nat),1≤n→1≤wgtL d n l:=by
  intro l
  induction l with
  |nil=>intro n hn;unfold wgtL;exact hn
  | cons x l ih=>
   intro n hn;unfold wgtL;split
   ·exact ih _ (by omega)
   ·exact hn
 cases x;unfold wgt;split
 ·omega
 ·exact key _ _ (by omega)
theorem wgtL_end {d n:Nat}(l:List Gx)(h:65536≤n):wgtL d n l=n:=by
 cases l with
 |nil=>rfl
 |cons x l=>unfold wgtL;rw[if_neg (by omega)]
mutual
def shortG:Gx→Prop
 |.mk _ _ _ nm _ _ kids=>nm.length≤60∧shortL kids
def shortL:List Gx→Prop
 |[]=>True
 |x::l=>shortG x∧shortL l
end
mutual
theorem light_of:∀(x:Gx) (d:Nat),wgt d x<65536→FA x≤wgt d x∧d+gDeep x≤61∧shortG x
 | .mk k o n nm l c kids,d,h=>by
  unfold wgt at h ⊢;split at h
  ·omega
  ·rename_i hc
   rw[if_neg hc];unfold FA gDeep shortG;have h2:=lightL_of kids d 1 h;exact⟨by omega,by have:=h2.2.1 (by omega);omega,by omega,h2.2.2⟩
theorem lightL_of:∀(l:List Gx) (d n:Nat),wgtL d n l<65536→CV l+n≤wgtL d n l∧(d≤60→d+1+gDeepL l≤61)∧shortL l
 | [],d,n,h=>by
  unfold wgtL CV gDeepL shortL;exact⟨by omega,fun _=>by omega,trivial⟩
 | x::l,d,n,h=>by
  unfold wgtL at h ⊢;split at h
  ·rename_i hc
   rw[if_pos hc];have h2:=lightL_of l d _ h;have h1:=light_of x (d+1) (by omega);unfold CV gDeepL shortL;refine⟨by omega,fun hd=>?_,h1.2.2,h2.2.2⟩;have:=h2.2.1 hd;have:=h1.2.1;omega
  ·omega
end
def WgR (V:World)(kids:List Gx)(d m:Nat)(v5 v6:Value)(wr:World):Prop:=
 ∃i q:Nat,v5=.int .i64 q∧v6=.int .i64 i∧i≤kids.length∧i+1≤q∧wgtL d q (kids.drop i)=m∧BA (fun _=>False) V wr
theorem wgt_any:∀(n:Nat) (x:Gx),FA x≤n→∀(d:Nat),d≤61→∀(w:World) (S:Nat→Prop) (vs:List Value),GAt w S vs x→
  Calls Tryz.prog 38 #[.agg vs.toArray,.int .i64 d] w fun e w'=>e=.returned (.int .i64 (wgt d x))∧BA (fun _=>False) w w':=by
 intro n
 induction n with
 |zero=>intro x hx;cases x;unfold FA at hx;omega
 | succ n ih=>
  intro x hx d hd w S vs hex;have HIH:=hid ih;obtain⟨xk,xo,xn,xm,xl,xc,kids⟩:=x;have hu:=hex;unfold GAt at hu;obtain⟨p,cap,rfl,hk⟩:=hu;have hsz:CV kids≤n:=by unfold FA at hx;omega
  obtain⟨S0,hS0,hs0⟩:∃S:ByteArray,strV xm=.string S∧S.size=xm.length:=⟨_,rfl,by simp[ByteArray.size]⟩;obtain⟨m,hm⟩:∃m:Nat,m=wgt d (.mk xk xo xn xm xl xc kids):=⟨_,rfl⟩;rw[hS0,←hm];obtain⟨V,B,hV,hB,hb,hk0,hsz0⟩:=BD w (.cells #[.int .i64 xk,.int .i64 xo,.int .i64 xn,.string S0,.slice p kids.length cap,.int .i64 xl,.int .i64 xc] TEx);obtain⟨n0,n1,n2,n3,n4,n5,n6,-⟩:=blk7 hb;have HKI:=hid (hk.keep hk0 fun _ _ e=>e);have HK0:=hid hk0;have HSZ:=hid hsz;have HM:=hid hm;have HS0:=hid hs0;have HD:=hid hd;have HB:=hid hb;clear hk hx hex hk0 hsz0 hb ih hsz hm hd;go_enter Tryz.func38,Tryz.ntmps38;by_cases hd:60<d
  ·have hdi:(60:Int)<d:=by omega
   clear hs0;go_upto_region 1 with fail;rw[←hV,←hB];clear hV hB hS0;go_wp2_with fail;go_ret;refine⟨?_,HK0.out⟩;rw[HM.out];unfold wgt;rw[if_pos (Or.inl hd)];rfl
  ·have hdi:¬(60:Int)<d:=by omega
   by_cases hl:60<xm.length
   ·have hli:(60:Int)<S0.size:=by rw[hs0];omega
    clear hs0;go_upto_region 1 with fail;rw[←hV,←hB];clear hV hB hS0;go_wp2_with fail;go_ret;refine⟨?_,HK0.out⟩;rw[HM.out];unfold wgt;rw[if_pos (Or.inr hl)];rfl
   ·have hli:¬(60:Int)<S0.size:=by rw[hs0];omega
    clear hs0
    have hmw:m=wgtL d 1 kids:=by
     rw[HM.out];unfold wgt;rw[if_neg (by omega)]
    have HMW:=hid hmw;clear hmw;go_upto_region 1 with fail;rw[←hV,←hB];clear hV hB hS0;go_wp2_with fail;go_loopw [5,6] (fun v5 v6 wr=>WgR V kids d m v5 v6 wr) (fun _ v _=>kids.length - (intOf v).toNat)
    case atStart=>exact⟨0,1,rfl,rfl,Nat.zero_le _,by omega,HMW.out.symm,BA.refl _ _⟩
    case round=>
     obtain⟨i,q,rfl,rfl,hi,hiq,hw,hk⟩:=hrel;have HK:=hid hk;have HW:=hid hw;clear hw;obtain⟨a0,a1,a2,a3,a4,a5,a6,-⟩:=blk7 (hk.blk HB.out);by_cases hlt:i<kids.length
     ·have hlti:(i:Int)<kids.length:=by omega
      by_cases hq6:q<65536
      ·have hqi:(q:Int)<65536:=by omega
       have hi0:(0:Int)≤i:=by omega
       have hWi:IntKind.i64.wrap ((i:Int)+1)=(i:Int)+1:=IntWalk.i64_in _ (by omega);have hWd:IntKind.i64.wrap ((d:Int)+1)=(d:Int)+1:=IntWalk.i64_in _ (by omega);obtain⟨g,o,vs,hp,hc,hex⟩:=gkids_get (HKI.out.keep hk fun _ _ e=>e) i hlt;subst hp;rw[Nat.zero_add]at hc;obtain⟨yk,yo,yn,yS,yp,ym,yc,yl,ycl,rfl⟩:=g_form hex;have x0:wr.cell? ⟨g,o+i * 7,none⟩=some (.int .i64 yk):=hc 0 _ rfl;have x1:=hc 1 _ rfl;have x2:=hc 2 _ rfl;have x3:=hc 3 _ rfl;have x4:=hc 4 _ rfl;have x5:=hc 5 _ rfl;have x6:=hc 6 _ rfl;have hme:=gsize_mem hlt;have hca:=HIH.out kids[i] (by have:=HSZ.out;omega) (d+1) (by omega) wr S _ hex;have hd1:((d+1:Nat):Int)=(d:Int)+1:=by omega
       rw[hd1]at hca;have hle:=wgt_le kids[i] (d+1);have hge:=wgt_pos kids[i] (d+1)
       have hst:wgtL d (q+wgt (d+1) kids[i]) (kids.drop (i+1))=m:=by
        have h:=HW.out;rw[List.drop_eq_getElem_cons hlt]at h;unfold wgtL at h
        rwa [if_pos hq6]at h
       obtain⟨s1,hs1⟩:∃s,wgt (d+1) kids[i]=s:=⟨_,rfl⟩;rw[hs1]at hca hle hst hge;have hWs:IntKind.i64.wrap ((q:Int)+s1)=(q:Int)+s1:=IntWalk.i64_in _ (by omega);have HCA:=hid hca;have HST:=hid hst;have HLE:=hid (And.intro hle hge);clear hc hex hk hme hst hle hs1 hca hd1 hge;go_wp2_with fail;go_at_call 38;refine HCA.out.mono ?_;rintro e w5 ⟨rfl,hk5⟩;have HK5:=hid hk5;clear hk5;have HQ:=hid (And.intro hi (And.intro hiq (And.intro hq6 (And.intro hlt hd))));clear hi hiq hq6 hlt hqi hlti x0 x1 x2 x3 x4 x5 x6 a0 a1 a2 a3 a4 a5 a6 n0 n1 n2 n3 n4 n5 n6 hd hl hdi hli hWd hi0;go_wp2_with fail;have hle:=HLE.out;obtain⟨hi,hiq,hq6,hlt,hd⟩:=HQ.out;refine⟨⟨i+1,q+s1,by simp,by simp,by omega,by omega,HST.out,HK.out.trans HK5.out⟩,by simp only[intOf];omega⟩
      ·have hqi:¬(q:Int)<65536:=by omega
       have HE:=hid (show q=m by rw[←HW.out];exact(wgtL_end _ (by omega)).symm);clear hk hiq hq6 hi hlt;go_wp2_with fail;go_ret;exact⟨by rw[HE.out];rfl,HK0.out.trans HK.out⟩
     ·have hnl:¬(i:Int)<kids.length:=by omega
      have HE:=hid (show q=m by
       rw[←HW.out,List.drop_eq_nil_of_le (by omega)];rfl)
      clear hk hiq hi hlt;go_wp2_with fail;go_ret;exact⟨by rw[HE.out];rfl,HK0.out.trans HK.out⟩
def longS:Gs→Bool
 |.mk _ nm _ _ val into cont _ _ _ _ _=>decide (60<nm.length) || decide (60<val.length) || decide (60<into.length) || decide (60<cont.length)
mutual
def swL:Nat→Nat→List Gs→Nat
 |_,n,[]=>n
 |d,n,s::l=>if n<65536 then (if decide (60<d) || longS s then 1048576 else swL d (sw1 d n s) l) else n
def sw1:Nat→Nat→Gs→Nat
 |d,n,.mk _ _ _ _ _ _ _ xs thn els _ _=>wgtL d (n+1) xs+swL (d+1) 0 thn+swL (d+1) 0 els
end
theorem wgtL_lt {d n:Nat}(xs:List Gx)(hd:d≤60)(hn:n≤65536):wgtL d n xs≤5046272:=by
 have:=wgtL_le xs d n hd (by omega);omega
theorem wgtL_ge:∀(l:List Gx) (d n:Nat),n≤wgtL d n l
 |[],d,n=>by unfold wgtL;exact Nat.le_refl _
 | x::l,d,n=>by
  unfold wgtL;split
  ·have:=wgtL_ge l d (n+wgt (d+1) x);omega
  ·exact Nat.le_refl _
mutual
theorem swL_le:∀(l:List Gs) (d n:Nat),swL d n l≤n+8388608 * BI l
 |[],d,n=>by unfold swL;omega
 | s::l,d,n=>by
  unfold swL BI;split
  ·rename_i hn
   split
   ·have h1:1≤CO s:=by cases s;unfold CO;omega
    omega
   ·rename_i hc
    have hd:d≤60:=by
     simp only[Bool.or_eq_true,decide_eq_true_eq,not_or]at hc;omega
    have h1:=sw1_le s d n hd (by omega);have h2:=swL_le l d (sw1 d n s);omega
  ·omega
theorem sw1_le:∀(s:Gs) (d n:Nat),d≤60→n<65536→sw1 d n s≤n+8388608 * CO s
 | .mk _ _ _ _ _ _ _ xs thn els _ _,d,n,hd,hn=>by
  unfold sw1 CO;have h1:=wgtL_lt xs hd (show n+1≤65536 by omega);have h2:=swL_le thn (d+1) 0;have h3:=swL_le els (d+1) 0;omega
end
theorem swL_end {d n:Nat}(l:List Gs)(h:65536≤n):swL d n l=n:=by
 cases l with
 |nil=>rfl
 |cons x l=>unfold swL;rw[if_neg (by omega)]
def WgS (l:List Gs)(d:Nat):Prop:=∀(w:World) (S:Nat→Prop) (p:Option Addr) (c:Nat),CF w S p 0 l→
 Calls Tryz.prog 24 #[.slice p l.length c,.int .i64 d] w fun e w'=>e=.returned (.int .i64 (swL d 0 l))∧BA (fun _=>False) w w'
def WsR (V:World)(l:List Gs)(d m:Nat)(v5 v6:Value)(wr:World):Prop:=
 ∃i q:Nat,v5=.int .i64 q∧v6=.int .i64 i∧i≤l.length∧q≤8388608 * BI (l.take i)∧swL d q (l.drop i)=m∧BA (fun _=>False) V wr
def WxR (V:World)(xs:List Gx)(d m:Nat)(v5 v8:Value)(wr:World):Prop:=
 ∃j q:Nat,v5=.int .i64 q∧v8=.int .i64 j∧j≤xs.length∧q≤m∧wgtL d q (xs.drop j)=m∧BA (fun _=>False) V wr
theorem sw_step (l:List Gs)(d:Nat)(hd:d≤61)(hb:BI l≤1048576)(ih:∀m,BI m<BI l→∀d,d≤61→WgS m d):WgS l d:=by
 intro w S p c hp;have HIH:=hid ih;have HP:=hid hp;have HBD:=hid hb;have HD0:=hid hd;have HL:=hid (slen_size l);obtain⟨m,hm⟩:∃m:Nat,swL d 0 l=m:=⟨_,rfl⟩;rw[hm];have HM:=hid hm;clear ih hp hb hm hd;go_enter Tryz.func24,Tryz.ntmps24;go_wp2_with fail;go_loopw [5,6] (fun v5 v6 wr=>WsR w l d m v5 v6 wr) (fun _ v _=>l.length - (intOf v).toNat)
 case atStart=>exact⟨0,0,rfl,rfl,Nat.zero_le _,by simp[BI],HM.out,BA.refl _ _⟩
 case round=>
  obtain⟨i,q,rfl,rfl,hi,hq,hw,hk⟩:=hrel;have HK:=hid hk;have HW:=hid hw;have HQ:=hid hq;clear hw hq;by_cases hlt:i<l.length
  ·have hlti:(i:Int)<l.length:=by omega
   by_cases hq6:q<65536
   ·have hqi:(q:Int)<65536:=by omega
    have hi0:(0:Int)≤i:=by omega
    have hWi:IntKind.i64.wrap ((i:Int)+1)=(i:Int)+1:=IntWalk.i64_in _ (by have:=HL.out;have:=HBD.out;omega);have hWq:IntKind.i64.wrap ((q:Int)+1)=(q:Int)+1:=IntWalk.i64_in _ (by omega);obtain⟨g,o,vs,hp,hc,hst,-⟩:=skids_get (HP.out.keep hk fun _ _ e=>e) i hlt;subst hp;rw[Nat.zero_add]at hc;have hme:=ssize_mem hlt;have htk:=sSizeL_take hlt;have hle:=sSizeL_le (l:=l) (i+1);have hw:=HW.out;rw[List.drop_eq_getElem_cons hlt]at hw;unfold swL at hw;rw[if_pos hq6]at hw;obtain⟨s,hs⟩:∃s,l[i]=s:=⟨_,rfl⟩;rw[hs]at hst hme htk hw;clear hs;obtain⟨k,nm,sz,op,val,into,cont,xs,thn,els,ln,col⟩:=s;have hss:CO (.mk k nm sz op val into cont xs thn els ln col)=CV xs+BI thn+BI els+1:=by unfold CO;rfl
    rw[hss]at hme htk;unfold SAt at hst;obtain⟨p1,c1,p2,c2,p3,c3,rfl,hx,ht,he⟩:=hst;obtain⟨S1,hS1,hz1⟩:∃S:ByteArray,strV nm=.string S∧S.size=nm.length:=⟨_,rfl,by simp[ByteArray.size]⟩;obtain⟨S2,hS2,hz2⟩:∃S:ByteArray,strV val=.string S∧S.size=val.length:=⟨_,rfl,by simp[ByteArray.size]⟩;obtain⟨S3,hS3,hz3⟩:∃S:ByteArray,strV into=.string S∧S.size=into.length:=⟨_,rfl,by simp[ByteArray.size]⟩;obtain⟨S4,hS4,hz4⟩:∃S:ByteArray,strV cont=.string S∧S.size=cont.length:=⟨_,rfl,by simp[ByteArray.size]⟩;rw[hS1,hS2,hS3,hS4]at hc;have x0:wr.cell? ⟨g,o+i * 12,none⟩=some (.int .i64 k):=hc 0 _ rfl;have x1:=hc 1 _ rfl;have x2:=hc 2 _ rfl;have x3:=hc 3 _ rfl;have x4:=hc 4 _ rfl;have x5:=hc 5 _ rfl;have x6:=hc 6 _ rfl;have x7:=hc 7 _ rfl;have x8:=hc 8 _ rfl;have x9:=hc 9 _ rfl;have x10:=hc 10 _ rfl;have x11:=hc 11 _ rfl;obtain⟨W,C,hW,hC,hcb,hkc,hsc⟩:=BD wr (.cells #[.int .i64 k,.string S1,.int .i64 sz,.int .i64 op,.string S2,.string S3,.string S4,.slice p1 xs.length c1,.slice p2 thn.length c2,.slice p3 els.length c3,.int .i64 ln,.int .i64 col] TSm);have HX:=hid (hx.keep hkc fun _ _ e=>e);have HT:=hid (ht.keep hkc fun _ _ e=>e);have HEL:=hid (he.keep hkc fun _ _ e=>e);have HB:=hid hcb;have HKC:=hid hkc;have HMW:=hid hw;have HWT:=hid (HIH.out thn (by omega));have HWE:=hid (HIH.out els (by omega));have HSZ:=hid (show CV xs+BI thn+BI els+1≤1048576 by have:=HBD.out;omega);have HXL:=hid (glen_size xs);have HQ1:=hid (show q+8388608 * (CV xs+BI thn+BI els+1)≤8388608 * BI (l.take (i+1))∧BI (l.take (i+1))≤1048576 by have:=HQ.out;have:=HBD.out;omega);have HZ:=hid (And.intro hz1 (And.intro hz2 (And.intro hz3 hz4)));obtain⟨n0,n1,n2,n3,n4,n5,n6,n7,n8,n9,n10,n11⟩:=BK hcb;clear hc hx ht he hsc hcb hme htk hle hss hkc hw hS1 hS2 hS3 hS4 hz1 hz2 hz3 hz4;go_upto_region 6 with fail;rw[←hW,←hC];clear hW hC x0 x1 x2 x3 x4 x5 x6 x7 x8 x9 x10 x11;by_cases hd:60<d
    ·have HD:=hid (And.intro hd trivial);have hdi:(60:Int)<d:=by omega
     have hm9:m=1048576:=by
      rw[←HMW.out];rw[if_pos (by simp only[longS,Bool.or_eq_true,decide_eq_true_eq];exact .inl HD.out.1)]
     clear hk;go_wp2_with fail;go_ret;exact⟨by first|rfl|(rw[hm9];rfl),(HK.out.trans HKC.out)⟩
    ·have hdi:¬(60:Int)<d:=by omega
     by_cases hl1:60<nm.length
     ·have HL1:=hid hl1;have hli1:(60:Int)<S1.size:=by have:=HZ.out;omega
      have hm9:m=1048576:=by
       rw[←HMW.out];rw[if_pos (by simp only[longS,Bool.or_eq_true,decide_eq_true_eq];right;have:=HL1.out;omega)]
      clear hk;go_wp2_with fail;go_ret;exact⟨by first|rfl|(rw[hm9];rfl),(HK.out.trans HKC.out)⟩
     ·have hli1:¬(60:Int)<S1.size:=by have:=HZ.out;omega
      by_cases hl2:60<val.length
      ·have HL2:=hid hl2;have hli2:(60:Int)<S2.size:=by have:=HZ.out;omega
       have hm9:m=1048576:=by
        rw[←HMW.out];rw[if_pos (by simp only[longS,Bool.or_eq_true,decide_eq_true_eq];right;have:=HL2.out;omega)]
       clear hk;go_wp2_with fail;go_ret;exact⟨by first|rfl|(rw[hm9];rfl),(HK.out.trans HKC.out)⟩
      ·have hli2:¬(60:Int)<S2.size:=by have:=HZ.out;omega
       by_cases hl3:60<into.length
       ·have HL3:=hid hl3;have hli3:(60:Int)<S3.size:=by have:=HZ.out;omega
        have hm9:m=1048576:=by
         rw[←HMW.out];rw[if_pos (by simp only[longS,Bool.or_eq_true,decide_eq_true_eq];right;have:=HL3.out;omega)]
        clear hk;go_wp2_with fail;go_ret;exact⟨by first|rfl|(rw[hm9];rfl),(HK.out.trans HKC.out)⟩
       ·have hli3:¬(60:Int)<S3.size:=by have:=HZ.out;omega
        by_cases hl4:60<cont.length
        ·have HL4:=hid hl4;have hli4:(60:Int)<S4.size:=by have:=HZ.out;omega
         have hm9:m=1048576:=by
          rw[←HMW.out];rw[if_pos (by simp only[longS,Bool.or_eq_true,decide_eq_true_eq];right;have:=HL4.out;omega)]
         clear hk;go_wp2_with fail;go_ret;exact⟨by first|rfl|(rw[hm9];rfl),(HK.out.trans HKC.out)⟩
        ·have hli4:¬(60:Int)<S4.size:=by have:=HZ.out;omega
         have hwm:swL d (wgtL d (q+1) xs+swL (d+1) 0 thn+swL (d+1) 0 els) (l.drop (i+1))=m:=by
          rw[←HMW.out,if_neg (by simp only[longS,Bool.or_eq_true,decide_eq_true_eq];omega)];unfold sw1;rfl
         obtain⟨m1,hm1⟩:∃m1,wgtL d (q+1) xs=m1:=⟨_,rfl⟩;obtain⟨m2,hm2⟩:∃m1,swL (d+1) 0 thn=m1:=⟨_,rfl⟩;obtain⟨m3,hm3⟩:∃m1,swL (d+1) 0 els=m1:=⟨_,rfl⟩;have hb1:=wgtL_lt xs (show d≤60 by omega) (show q+1≤65536 by omega);have hb2:=swL_le thn (d+1) 0;have hb3:=swL_le els (d+1) 0;rw[hm1]at hwm hb1;rw[hm2]at hwm hb2;rw[hm3]at hwm hb3;have hq1:q+1≤m1:=by rw[←hm1];exact wgtL_ge xs d (q+1)
         have HWM:=hid hwm;have HM1:=hid hm1;have HM2:=hid hm2;have HM3:=hid hm3;have HBS:=hid (And.intro hb1 (And.intro hb2 (And.intro hb3 hq1)));have HDL:=hid (show d+1≤61 by omega);have HI:=hid (And.intro hi hlt);clear hwm hm1 hm2 hm3 hb1 hb2 hb3 hq1 hk hi;go_upto_region 9 with fail;clear n0 n1 n2 n3 n4 n5 n6 n7 n8 n9 n10 n11 hli1 hli2 hli3 hli4 hdi hl1 hl2 hl3 hl4;go_wp2_with fail;go_loopw [5,8] (fun v5 v8 wy=>WxR W xs d m1 v5 v8 wy) (fun _ v _=>xs.length - (intOf v).toNat)
         case atStart=>exact⟨0,q+1,by simp,rfl,Nat.zero_le _,HBS.out.2.2.2,HM1.out,BA.refl _ _⟩
         case round=>
          obtain⟨j,r,rfl,rfl,hj,hr,hwx,hky⟩:=hrel;have HKY:=hid hky;have HWX:=hid hwx;have HR:=hid hr;have hcy:=hky.blk HB.out;obtain⟨-,-,-,-,-,-,-,n7,n8,n9,-⟩:=BK hcy;have HCY:=hid hcy;clear hwx hcy hr;by_cases hjl:j<xs.length
          ·have hjli:(j:Int)<xs.length:=by omega
           by_cases hr6:r<65536
           ·have hri:(r:Int)<65536:=by omega
            have hj0:(0:Int)≤j:=by omega
            have hWj:IntKind.i64.wrap ((j:Int)+1)=(j:Int)+1:=IntWalk.i64_in _ (by have:=HXL.out;have:=HSZ.out;omega);have hWd:IntKind.i64.wrap ((d:Int)+1)=(d:Int)+1:=IntWalk.i64_in _ (by have:=HDL.out;omega);obtain⟨g2,o2,vs2,hp2,hc2,hex⟩:=gkids_get (HX.out.keep hky fun _ _ e=>e) j hjl;subst hp2;rw[Nat.zero_add]at hc2;obtain⟨yk,yo,yn,yS,yp,ym,yc,yl,ycl,rfl⟩:=g_form hex;have x0:wr.cell? ⟨g2,o2+j * 7,none⟩=some (.int .i64 yk):=hc2 0 _ rfl;have x1:=hc2 1 _ rfl;have x2:=hc2 2 _ rfl;have x3:=hc2 3 _ rfl;have x4:=hc2 4 _ rfl;have x5:=hc2 5 _ rfl;have x6:=hc2 6 _ rfl;have hca:=wgt_any (FA xs[j]) xs[j] (Nat.le_refl _) (d+1) (by have:=HDL.out;omega) wr S _ hex;have hd1:((d+1:Nat):Int)=(d:Int)+1:=by omega
            rw[hd1]at hca;have hle:=wgt_le xs[j] (d+1)
            have hst:wgtL d (r+wgt (d+1) xs[j]) (xs.drop (j+1))=m1:=by
             have h:=HWX.out;rw[List.drop_eq_getElem_cons hjl]at h;unfold wgtL at h
             rwa [if_pos hr6]at h
            have hge:=wgtL_ge (xs.drop (j+1)) d (r+wgt (d+1) xs[j]);rw[hst]at hge;obtain⟨s1,hs1⟩:∃s,wgt (d+1) xs[j]=s:=⟨_,rfl⟩;rw[hs1]at hca hle hst hge;have hWs:IntKind.i64.wrap ((r:Int)+s1)=(r:Int)+s1:=IntWalk.i64_in _ (by omega);have HCA:=hid hca;have HST:=hid hst;have HGE:=hid hge;clear hc2 hex hky hst hle hs1 hca hd1 hge;go_wp2_with (go_at_call 38;refine HCA.out.mono ?_;rintro e w5 ⟨rfl,hk5⟩;have HK5:=hid hk5;clear hk5);refine⟨⟨j+1,r+s1,by simp,by simp,by omega,HGE.out,HST.out,HKY.out.trans HK5.out⟩,by simp only[intOf];omega⟩
           ·have hri:¬(r:Int)<65536:=by omega
            have HE:=hid (show r=m1 by rw[←HWX.out];exact(wgtL_end _ (by omega)).symm);clear hky hr6 hj;go_upto_region 13 with fail;have hWd:IntKind.i64.wrap ((d:Int)+1)=(d:Int)+1:=IntWalk.i64_in _ (by have:=HDL.out;omega);have hWa:IntKind.i64.wrap ((r:Int)+m2)=(r:Int)+m2:=IntWalk.i64_in _ (by have:=HE.out;have:=HBS.out;have:=HSZ.out;omega);have hWb:IntKind.i64.wrap ((r:Int)+m2+m3)=(r:Int)+m2+m3:=IntWalk.i64_in _ (by have:=HE.out;have:=HBS.out;have:=HSZ.out;omega);have d8:=fun w' (h:BA (fun _=>False) wr.drew w')=>((BA.drew _ wr).trans h).stay n8;have d9:=fun w' (h:BA (fun _=>False) wr.drew w')=>((BA.drew _ wr).trans h).stay n9
            have HCT:=hid (fun w' (h:BA (fun _=>False) wr.drew w')=>by
             have h:=HWT.out (d+1) HDL.out w' S p2 c2 (HT.out.keep (HKY.out.trans ((BA.drew _ wr).trans h)) fun _ _ e=>e);rw[HM2.out,show ((d+1:Nat):Int)=(d:Int)+1 by omega]at h;exact h)
            have HCE:=hid (fun w' (h:BA (fun _=>False) wr.drew w')=>by
             have h:=HWE.out (d+1) HDL.out w' S p3 c3 (HEL.out.keep (HKY.out.trans ((BA.drew _ wr).trans h)) fun _ _ e=>e);rw[HM3.out,show ((d+1:Nat):Int)=(d:Int)+1 by omega]at h;exact h)
            clear n7 n8 n9
            refine CN (by kernel_rfl) DL9 (fun _=>[]) (fun _=>[]) [] (by kernel_rfl)
             (fun i=>if i=5 then some (BN (.int .i64 m2)) else if i=11 then some (BN (.int .i64 m3)) else none) ?_
            apply BC rfl rfl
            ·intro w' hk;go_simp;with_reducible rfl
            simp only[Act.put,LS];apply BC rfl rfl
            ·intro w' hk;go_simp;with_reducible rfl
            simp only[Act.put,LS];apply BC rfl rfl
            ·intro w' hk;have e8:=d8 w' hk;go_simp;with_reducible rfl
            simp only[Act.put,LS]
            repeat refine BC rfl rfl (fun w' hk=>by go_simp;with_reducible rfl) ?_;simp only[Act.put,LS]
            refine BE rfl rfl (BR 24 #[.slice p2 thn.length c2,.int .i64 ((d:Int)+1)] (fun w=>by kernel_rfl) ⟨default,trivial⟩ (fun g _=>BX _) fun w' hk _ _=>(HCT.out w' hk).mono ?_) fun gs _=>?_
            ·rintro e w'' ⟨rfl,hk⟩;exact⟨default,trivial,rfl,hk.mono fun _ e=>e.elim,fun b h=>h.elim,trivial⟩
            simp only[BN,Act.put,LS];apply BC rfl rfl
            ·intro w' hk;go_simp;with_reducible rfl
            simp only[Act.put,LS];apply BC rfl rfl
            ·intro w' hk;go_simp;with_reducible rfl
            simp only[Act.put,LS];apply BC rfl rfl
            ·intro w' hk;have e9:=d9 w' hk;go_simp;with_reducible rfl
            simp only[Act.put,LS]
            repeat refine BC rfl rfl (fun w' hk=>by go_simp;with_reducible rfl) ?_;simp only[Act.put,LS]
            refine BE rfl rfl (BR 24 #[.slice p3 els.length c3,.int .i64 ((d:Int)+1)] (fun w=>by kernel_rfl) ⟨default,trivial⟩ (fun g _=>BX _) fun w' hk _ _=>(HCE.out w' hk).mono ?_) fun gs2 _=>?_
            ·rintro e w'' ⟨rfl,hk⟩;exact⟨default,trivial,rfl,hk.mono fun _ e=>e.elim,fun b h=>h.elim,trivial⟩
            simp only[Act.put,LS]
            repeat refine BC rfl rfl (fun w' hk=>by go_simp;with_reducible rfl) ?_;simp only[Act.put,LS]
            refine BP ?_;intro W4 hk9 _ _;have HKZ:=hid ((HKY.out.trans (BA.drew _ wr)).trans hk9);clear hk9 d8 d9;have hWi:IntKind.i64.wrap ((i:Int)+1)=(i:Int)+1:=IntWalk.i64_in _ (by have:=HL.out;have:=HBD.out;have:=HI.out;omega);go_wp2_with fail;have hbs:=HBS.out;have he:=HE.out;have hi2:=HI.out;have hq1:=HQ1.out;refine⟨⟨i+1,m1+m2+m3,by simp[he],by simp,by omega,by omega,HWM.out,(HK.out.trans HKC.out).trans HKZ.out⟩,by simp only[intOf];omega⟩
          ·have hjl2:¬(j:Int)<xs.length:=by omega
           have HE:=hid (show r=m1 by
            rw[←HWX.out,List.drop_eq_nil_of_le (by omega)];rfl)
           clear hky hj;go_upto_region 13 with fail;have hWd:IntKind.i64.wrap ((d:Int)+1)=(d:Int)+1:=IntWalk.i64_in _ (by have:=HDL.out;omega);have hWa:IntKind.i64.wrap ((r:Int)+m2)=(r:Int)+m2:=IntWalk.i64_in _ (by have:=HE.out;have:=HBS.out;have:=HSZ.out;omega);have hWb:IntKind.i64.wrap ((r:Int)+m2+m3)=(r:Int)+m2+m3:=IntWalk.i64_in _ (by have:=HE.out;have:=HBS.out;have:=HSZ.out;omega);have d8:=fun w' (h:BA (fun _=>False) wr.drew w')=>((BA.drew _ wr).trans h).stay n8;have d9:=fun w' (h:BA (fun _=>False) wr.drew w')=>((BA.drew _ wr).trans h).stay n9
           have HCT:=hid (fun w' (h:BA (fun _=>False) wr.drew w')=>by
            have h:=HWT.out (d+1) HDL.out w' S p2 c2 (HT.out.keep (HKY.out.trans ((BA.drew _ wr).trans h)) fun _ _ e=>e);rw[HM2.out,show ((d+1:Nat):Int)=(d:Int)+1 by omega]at h;exact h)
           have HCE:=hid (fun w' (h:BA (fun _=>False) wr.drew w')=>by
            have h:=HWE.out (d+1) HDL.out w' S p3 c3 (HEL.out.keep (HKY.out.trans ((BA.drew _ wr).trans h)) fun _ _ e=>e);rw[HM3.out,show ((d+1:Nat):Int)=(d:Int)+1 by omega]at h;exact h)
           clear n7 n8 n9
           refine CN (by kernel_rfl) DL9 (fun _=>[]) (fun _=>[]) [] (by kernel_rfl)
            (fun i=>if i=5 then some (BN (.int .i64 m2)) else if i=11 then some (BN (.int .i64 m3)) else none) ?_
           apply BC rfl rfl
           ·intro w' hk;go_simp;with_reducible rfl
           simp only[Act.put,LS];apply BC rfl rfl
           ·intro w' hk;go_simp;with_reducible rfl
           simp only[Act.put,LS];apply BC rfl rfl
           ·intro w' hk;have e8:=d8 w' hk;go_simp;with_reducible rfl
           simp only[Act.put,LS]
           repeat refine BC rfl rfl (fun w' hk=>by go_simp;with_reducible rfl) ?_;simp only[Act.put,LS]
           refine BE rfl rfl (BR 24 #[.slice p2 thn.length c2,.int .i64 ((d:Int)+1)] (fun w=>by kernel_rfl) ⟨default,trivial⟩ (fun g _=>BX _) fun w' hk _ _=>(HCT.out w' hk).mono ?_) fun gs _=>?_
           ·rintro e w'' ⟨rfl,hk⟩;exact⟨default,trivial,rfl,hk.mono fun _ e=>e.elim,fun b h=>h.elim,trivial⟩
           simp only[BN,Act.put,LS];apply BC rfl rfl
           ·intro w' hk;go_simp;with_reducible rfl
           simp only[Act.put,LS];apply BC rfl rfl
           ·intro w' hk;go_simp;with_reducible rfl
           simp only[Act.put,LS];apply BC rfl rfl
           ·intro w' hk;have e9:=d9 w' hk;go_simp;with_reducible rfl
           simp only[Act.put,LS]
           repeat refine BC rfl rfl (fun w' hk=>by go_simp;with_reducible rfl) ?_;simp only[Act.put,LS]
           refine BE rfl rfl (BR 24 #[.slice p3 els.length c3,.int .i64 ((d:Int)+1)] (fun w=>by kernel_rfl) ⟨default,trivial⟩ (fun g _=>BX _) fun w' hk _ _=>(HCE.out w' hk).mono ?_) fun gs2 _=>?_
           ·rintro e w'' ⟨rfl,hk⟩;exact⟨default,trivial,rfl,hk.mono fun _ e=>e.elim,fun b h=>h.elim,trivial⟩
           simp only[Act.put,LS]
           repeat refine BC rfl rfl (fun w' hk=>by go_simp;with_reducible rfl) ?_;simp only[Act.put,LS]
           refine BP ?_;intro W4 hk9 _ _;have HKZ:=hid ((HKY.out.trans (BA.drew _ wr)).trans hk9);clear hk9 d8 d9;have hWi:IntKind.i64.wrap ((i:Int)+1)=(i:Int)+1:=IntWalk.i64_in _ (by have:=HL.out;have:=HBD.out;have:=HI.out;omega);go_wp2_with fail;have hbs:=HBS.out;have he:=HE.out;have hi2:=HI.out;have hq1:=HQ1.out;refine⟨⟨i+1,m1+m2+m3,by simp[he],by simp,by omega,by omega,HWM.out,(HK.out.trans HKC.out).trans HKZ.out⟩,by simp only[intOf];omega⟩
   ·have hqi:¬(q:Int)<65536:=by omega
    have HE:=hid (show q=m by rw[←HW.out];exact(swL_end _ (by omega)).symm);clear hk hq6 hi hlt;go_wp2_with fail;go_ret;exact⟨by rw[HE.out];rfl,HK.out⟩
  ·have hnl:¬(i:Int)<l.length:=by omega
   have HE:=hid (show q=m by
    rw[←HW.out,List.drop_eq_nil_of_le (by omega)];rfl)
   clear hk hi hlt;go_wp2_with fail;go_ret;exact⟨by rw[HE.out];rfl,HK.out⟩
theorem sw_any (l:List Gs)(hb:BI l≤1048576)(d:Nat)(hd:d≤61):WgS l d:=by
 induction h:BI l using Nat.strongRecOn generalizing l d with
 |_ n ih=>exact sw_step l d hd hb fun m hm d hd=>ih _ (by omega) m (by omega) d hd rfl
def ltL:Nat→List (List Gs)→Bool
 |_,[]=>true
 |n,l::r=>if 2000<n+swL 0 0 l then false else ltL (n+swL 0 0 l) r
def okNm (c:Gc):Bool:=decide (c.name.length≤60)
def lightP (p:Gp):Bool:=decide (p.conts.length≤40) && (decide (p.threads.length≤40) && (p.conts.all okNm && ltL 0 p.threads))
theorem hSize_mem {l:List (List Gs)}{i:Nat}(h:i<l.length):BI l[i]≤DM l:=by
 have h1:=hSize_take h;have h2:=hSize_le (l:=l) (i+1);omega
theorem lightP_any (p:Gp)(hb:DM p.threads≤1048576)(w:World)(S:Nat→Prop)(v:Value)(h:PAt w S v p):
  Calls Tryz.prog 7 #[v] w fun e w'=>e=.returned (.bool (lightP p))∧BA (fun _=>False) w w':=by
 obtain⟨pool,conts,threads⟩:=p;obtain⟨p1,c1,p2,c2,rfl,hc,ht⟩:=h;dsimp only at hb hc ht ⊢;obtain⟨V,B1,hV,hB1,hb1,hk1,hs1⟩:=BD w (.cells #[.int .i64 pool,.slice p1 conts.length c1,.slice p2 threads.length c2] TPr);have HC:=hid (hc.keep hk1 fun _ _ e=>e);have HT:=hid (ht.keep hk1 fun _ _ e=>e);have HK1:=hid hk1;have HB:=hid hb1;have HSZ:=hid hb;obtain⟨res,hres⟩:∃r,lightP ⟨pool,conts,threads⟩=r:=⟨_,rfl⟩;rw[hres];unfold lightP at hres;dsimp only at hres;obtain⟨n0,n1,n2,-⟩:=BS hb1;clear hc ht hk1 hb1 hs1 hb;go_enter Tryz.func7,Tryz.ntmps7;go_upto_region 1 with fail;rw[←hV,←hB1];clear hV hB1;by_cases h1:40<conts.length
 ·have h1i:(40:Int)<conts.length:=by omega
  rw[decide_eq_false (by omega),Bool.false_and]at hres;subst hres;go_wp2_with fail;go_ret;exact⟨rfl,HK1.out⟩
 have h1i:¬(40:Int)<conts.length:=by omega
 by_cases h2:40<threads.length
 ·have h2i:(40:Int)<threads.length:=by omega
  rw[decide_eq_false (p:=threads.length≤40) (by omega),Bool.false_and,Bool.and_false]at hres;subst hres;go_wp2_with fail;go_ret;exact⟨rfl,HK1.out⟩
 have h2i:¬(40:Int)<threads.length:=by omega
 rw[decide_eq_true (p:=conts.length≤40) (by omega),decide_eq_true (p:=threads.length≤40) (by omega),Bool.true_and,Bool.true_and]at hres;have HRES:=hid hres;have HLN:=hid (show conts.length≤40∧threads.length≤40 by omega);clear hres;go_upto_region 3 with fail;clear h1 h1i h2 h2i n0 n1 n2;go_wp2_with fail;go_loopw [3] (fun v3 wr=>∃i:Nat,v3=.int .i64 i∧i≤conts.length∧((conts.drop i).all okNm && ltL 0 threads)=res∧BA (fun _=>False) V wr) (fun v _=>conts.length - (intOf v).toNat)
 case atStart=>exact⟨0,rfl,Nat.zero_le _,HRES.out,BA.refl _ _⟩
 case round=>
  obtain⟨i,rfl,hi,hr,hk⟩:=hrel;have HK:=hid hk;have HR:=hid hr;obtain⟨n0,n1,n2,-⟩:=BS (hk.blk HB.out);by_cases hlt:i<conts.length
  ·have hlti:(i:Int)<conts.length:=by omega
   have hi0:(0:Int)≤i:=by omega
   have hWi:IntKind.i64.wrap ((i:Int)+1)=(i:Int)+1:=IntWalk.i64_in _ (by have:=HLN.out;omega);obtain⟨g,o,hp,-,y0,y1,y2,y3⟩:=(HC.out.keep hk fun _ _ e=>e) i hlt;subst hp;rw[List.drop_eq_getElem_cons hlt,List.all_cons]at hr;obtain⟨c,hc⟩:∃c,conts[i]=c:=⟨_,rfl⟩;rw[hc]at y0 y1 y2 y3 hr;obtain⟨S1,hS1,hz1⟩:∃S:ByteArray,strV c.name=.string S∧S.size=c.name.length:=⟨_,rfl,by simp[ByteArray.size]⟩;rw[hS1]at y1;by_cases hl:60<c.name.length
   ·have hli:(60:Int)<S1.size:=by omega
    have he:res=false:=by
     rw[←hr];unfold okNm;rw[decide_eq_false (by omega),Bool.false_and,Bool.false_and]
    clear hk hr hc hS1 hz1 hl;go_wp2_with fail;go_ret;exact⟨by subst he;rfl,HK1.out.trans HK.out⟩
   ·have hli:¬(60:Int)<S1.size:=by omega
    have HN:=hid (show ((conts.drop (i+1)).all okNm && ltL 0 threads)=res by
     rw[←hr];unfold okNm;rw[decide_eq_true (p:=c.name.length≤60) (by omega),Bool.true_and])
    clear hk hr hc hS1 hz1 hl;go_wp2_with fail;exact⟨⟨i+1,by simp,by omega,HN.out,HK.out⟩,by simp only[intOf];omega⟩
  ·have hnl:¬(i:Int)<conts.length:=by omega
   rw[List.drop_eq_nil_of_le (by omega),List.all_nil,Bool.true_and]at hr;have HR2:=hid hr;have HB2:=hid (hk.blk HB.out);clear hk hr hi hlt;go_upto_region 9 with fail;clear n0 n1 n2 hnl;go_wp2_with fail;go_loopw [4,5] (fun v4 v5 wy=>∃j n:Nat,v4=.int .i64 n∧v5=.int .i64 j∧j≤threads.length∧n≤2000∧ltL n (threads.drop j)=res∧BA (fun _=>False) wr wy) (fun _ v _=>threads.length - (intOf v).toNat)
   case atStart=>exact⟨0,0,rfl,rfl,Nat.zero_le _,by omega,HR2.out,BA.refl _ _⟩
   case round=>
    obtain⟨j,n,rfl,rfl,hj,hn,hr,hk⟩:=hrel;have HKY:=hid hk;have HRJ:=hid hr;obtain⟨n0,n1,n2,-⟩:=BS (hk.blk HB2.out);by_cases hlt:j<threads.length
    ·have hlti:(j:Int)<threads.length:=by omega
     have hj0:(0:Int)≤j:=by omega
     have hWj:IntKind.i64.wrap ((j:Int)+1)=(j:Int)+1:=IntWalk.i64_in _ (by have:=HLN.out;omega);obtain⟨g,o,q,cq,hp,-,y0,hsk⟩:=(HT.out.keep (HK.out.trans hk) fun _ _ e=>e) j hlt;subst hp;rw[List.drop_eq_getElem_cons hlt]at hr;have hme:=hSize_mem hlt;have HCA:=hid (sw_any threads[j] (by have:=HSZ.out;omega) 0 (by omega) wr S q cq hsk);have hle:=swL_le threads[j] 0 0;unfold ltL at hr;obtain⟨l,hl⟩:∃l,threads[j]=l:=⟨_,rfl⟩;rw[hl]at y0 HCA hle hr hme;obtain⟨s,hs⟩:∃s,swL 0 0 l=s:=⟨_,rfl⟩;rw[hs]at HCA hle hr;rw[show ((0:Nat):Int)=0 from rfl]at HCA;have hWs:IntKind.i64.wrap ((n:Int)+s)=(n:Int)+s:=IntWalk.i64_in _ (by have:=HSZ.out;omega);by_cases hq:2000<n+s
     ·have hqi:(2000:Int)<(n:Int)+s:=by omega
      rw[if_pos hq]at hr;have HRF:=hid hr;clear hsk hk hr hl hs hle hme hq;go_wp2_with (go_at_call 24;refine HCA.out.mono ?_;rintro e w5 ⟨rfl,hk5⟩;have HK5:=hid hk5;clear hk5);go_ret;exact⟨by have h:=HRF.out;subst h;rfl,((HK1.out.trans HK.out).trans HKY.out).trans HK5.out⟩
     ·have hqi:¬(2000:Int)<(n:Int)+s:=by omega
      rw[if_neg hq]at hr;have HRF:=hid hr;clear hsk hk hr hl hs hle hme;go_wp2_with (go_at_call 24;refine HCA.out.mono ?_;rintro e w5 ⟨rfl,hk5⟩;have HK5:=hid hk5;clear hk5);exact⟨⟨j+1,n+s,by simp,by simp,by omega,by omega,HRF.out,HKY.out.trans HK5.out⟩,by simp only[intOf];omega⟩
    ·have hnl:¬(j:Int)<threads.length:=by omega
     rw[List.drop_eq_nil_of_le (by omega)]at hr;unfold ltL at hr;have HRF:=hid hr;clear hk hr;go_wp2_with fail;go_ret;exact⟨by have h:=HRF.out;subst h;rfl,(HK1.out.trans HK.out).trans HKY.out⟩
theorem ltL_size:∀(l:List (List Gs)) (n:Nat),ltL n l=true→(∀x∈l,swL 0 0 x≤2000)∧n+(l.map (swL 0 0)).sum≤max n 2000
 |[],n,_=>⟨fun x h=>by simp at h,by simp;omega⟩
 | x::l,n,h=>by
  unfold ltL at h;split at h
  ·cases h
  ·obtain⟨h1,h2⟩:=ltL_size l _ h;refine⟨fun y hy=>?_,?_⟩
   ·rcases List.mem_cons.1 hy with rfl|hy
    ·omega
    ·exact h1 y hy
   ·simp only[List.map_cons,List.sum_cons];omega
mutual
def shortS:Gs→Prop
 |.mk _ nm _ _ val into cont xs thn els _ _=>nm.length≤60∧val.length≤60∧into.length≤60∧cont.length≤60∧shortL xs∧shortSL thn∧shortSL els
def shortSL:List Gs→Prop
 |[]=>True
 |s::l=>shortS s∧shortSL l
end
mutual
theorem swL_of:∀(l:List Gs) (d n:Nat),swL d n l<65536→BI l+n≤swL d n l∧(d≤61→d+sDeepL l≤61)∧shortSL l
 | [],d,n,h=>by
  unfold swL BI sDeepL shortSL;exact⟨by omega,fun _=>by omega,trivial⟩
 | s::l,d,n,h=>by
  unfold swL at h ⊢;split at h
  ·rename_i hn
   rw[if_pos hn];split at h
   ·omega
   ·rename_i hc
    rw[if_neg hc];simp only[Bool.or_eq_true,decide_eq_true_eq,not_or]at hc;obtain⟨h1,h2,h3⟩:=swL_of l d _ h;obtain⟨h4,h5,h6⟩:=sw1_of s d n (by omega) (by omega) (Bool.eq_false_iff.2 hc.2);unfold BI sDeepL shortSL;exact⟨by omega,fun hd=>by have:=h2 hd;omega,h6,h3⟩
  ·omega
theorem sw1_of:∀(s:Gs) (d n:Nat),d≤60→sw1 d n s<65536→longS s=false→CO s+n≤sw1 d n s∧d+sDeep s≤61∧shortS s
 | .mk k nm sz op val into cont xs thn els ln cl,d,n,hd,h,hl=>by
  unfold sw1 at h ⊢;unfold longS at hl;simp only[Bool.or_eq_false_iff,decide_eq_false_iff_not]at hl;obtain⟨a1,a2,a3⟩:=lightL_of xs d (n+1) (by omega);obtain⟨b1,b2,b3⟩:=swL_of thn (d+1) 0 (by omega);obtain⟨c1,c2,c3⟩:=swL_of els (d+1) 0 (by omega);unfold CO sDeep shortS;have e1:=a2 hd;have e2:=b2 (by omega);have e3:=c2 (by omega);exact⟨by omega,by omega,by omega,by omega,by omega,by omega,a3,b3,c3⟩
end
end Go.Proofs.YtknnmidnodeanaaGreatDoor
