import Derived.Test.YtomlffobbkcmdaaGreatDoorJs28
set_option maxHeartbeats 32000000
set_option maxRecDepth 4000
namespace Go.Proofs.YtomlffobbkcmdaaGreatDoor
open Go Go.RowKit Own
open Go.Lib (hid)
theorem gDeepL_take {l:List Gx}{i:Nat}(h:i<l.length):CH (l.take (i+1))=max (CH (l.take i)) (FY l[i]):=by
 induction l generalizing i with
 |nil=>cases h
 | cons x l ih=>
  cases i with
  |zero=>simp[CH]
  | succ i=>
   have h':i<l.length:=by simpa using h
   simp only[List.take_succ_cons,CH,List.getElem_cons_succ]
   rw[ih h']
   omega
theorem skids_gt {w:World}{S:Nat→Prop}{p:Option Addr}{l:List Gs}{j:Nat}(h:DV w S p j l)(i:Nat)(hi:i<l.length):∃g o vs,p=some ⟨g,o,none⟩∧(∀k v,vs[k]?=some v→w.cell? ⟨g,o+(j+i) * 12+k,none⟩=some v)∧SAt w S vs l[i]:=by
 obtain⟨g,o,vs,h1,h2,h3,-⟩:=skids_get h i hi
 exact⟨g,o,vs,h1,h2,h3⟩
theorem weighG_any:∀(n:Nat) (x:Gx),CM x≤n→n≤1099511627776→∀(w:World) (S:Nat→Prop) (vs:List Value),GAt w S vs x→
  Calls Tryz.prog 34 #[.agg vs.toArray] w fun e w'=>e=.returned (.tuple #[.int .i64 (CM x),.int .i64 (FY x)])∧BA (fun _=>False) w w':=by
 intro n
 induction n with
 |zero=>intro x hx;cases x;unfold CM at hx;omega
 | succ n ih=>
  intro x hx hn w S vs hex
  have HIH:=hid ih
  obtain⟨xk,xo,xn,xm,xl,xc,kids⟩:=x
  have hu:=hex
  unfold GAt at hu
  obtain⟨p,cap,rfl,hk⟩:=hu
  obtain⟨S0,hS0⟩:∃S,strV xm=.string S:=⟨_,rfl⟩
  have hsz:BO kids≤n:=by unfold CM at hx;omega
  have hdp:=gDeepL_le kids
  have e1:(CM (.mk xk xo xn xm xl xc kids):Int)=(BO kids:Int)+1:=by unfold CM;omega
  have e2:(FY (.mk xk xo xn xm xl xc kids):Int)=(CH kids:Int)+1:=by unfold FY;omega
  rw[e1,e2,hS0]
  obtain⟨V,B,hV,hB,hb,hk0,hs0⟩:=BC w (.cells #[.int .i64 xk,.int .i64 xo,.int .i64 xn,.string S0,.slice p kids.length cap,.int .i64 xl,.int .i64 xc] TEx)
  obtain⟨n0,n1,n2,n3,n4,n5,n6,-⟩:=blk7 hb
  have HKI:=hid (hk.keep hk0 fun _ _ e=>e);have HK0:=hid hk0;have HSZ:=hid hsz;have HN:=hid hn;have HDP:=hid hdp
  have hkl:=glen_size kids
  have HKL:=hid hkl
  clear hk hx hex hk0 hs0 hb ih hn hsz hdp e1 e2 hkl
  go_enter Tryz.func34,Tryz.ntmps34
  go_upto_region 1 with fail
  rw[←hV,←hB]
  clear hV hB hS0
  go_wp2_with fail
  go_loopw [2,3,11] (fun v2 v3 v11 wr=>∃i:Nat,v2=.int .i64 (BO (kids.take i))∧v3=.int .i64 (CH (kids.take i))∧v11=.int .i64 i∧i≤kids.length∧BA (fun _=>False) V wr) (fun _ _ v _=>kids.length - (intOf v).toNat)
  case atStart=>exact⟨0,rfl,rfl,rfl,Nat.zero_le _,BA.refl _ _⟩
  case round=>
   obtain⟨i,rfl,rfl,rfl,hi,hk⟩:=hrel
   have HK:=hid hk
   by_cases hlt:i<kids.length
   ·have hlti:(i:Int)<kids.length:=by omega
    have hi0:(0:Int)≤i:=by omega
    have hWi:IntKind.i64.wrap ((i:Int)+1)=(i:Int)+1:=IntWalk.i64_in _ (by have:=HKL.out;have:=HSZ.out;have:=HN.out;omega)
    obtain⟨g,o,vs,hp,hc,hex⟩:=gkids_get (HKI.out.keep hk fun _ _ e=>e) i hlt
    subst hp
    rw[Nat.zero_add]at hc
    obtain⟨yk,yo,yn,yS,yp,ym,yc,yl,ycl,rfl⟩:=FN hex
    have x0:wr.cell? ⟨g,o+i * 7,none⟩=some (.int .i64 yk):=hc 0 _ rfl;have x1:=hc 1 _ rfl;have x2:=hc 2 _ rfl;have x3:=hc 3 _ rfl;have x4:=hc 4 _ rfl;have x5:=hc 5 _ rfl;have x6:=hc 6 _ rfl
    obtain⟨W,C,hW,hC,hcb,hkc,hsc⟩:=BC wr (.cells #[.int .i64 yk,.int .i64 yo,.int .i64 yn,.string yS,.slice yp ym yc,.int .i64 yl,.int .i64 ycl] TEx)
    have hme:=gsize_mem hlt
    have HCA:=hid (HIH.out kids[i] (by have:=HSZ.out;omega) (by have:=HN.out;omega) W S _ (hex.keep hkc fun _ _ e=>e))
    have HKC:=hid hkc
    have hst:=gSizeL_take hlt
    have hdt:=gDeepL_take hlt
    have hle:=gSizeL_le (l:=kids) (i+1)
    have hdl:=gDeepL_le (kids.take (i+1))
    obtain⟨s1,hs1⟩:∃s,CM kids[i]=s:=⟨_,rfl⟩
    obtain⟨d1,hd1⟩:∃s,FY kids[i]=s:=⟨_,rfl⟩
    obtain⟨s0,hs0⟩:∃s,BO (kids.take i)=s:=⟨_,rfl⟩
    obtain⟨d0,hd0⟩:∃s,CH (kids.take i)=s:=⟨_,rfl⟩
    rw[hs1,hs0]at hst
    rw[hd1,hd0]at hdt
    rw[hs1,hd1]at HCA
    rw[hs0,hd0]
    have hWs:IntKind.i64.wrap ((s0:Int)+s1)=(s0:Int)+s1:=IntWalk.i64_in _ (by have:=HSZ.out;have:=HN.out;omega)
    have HST:=hid hst;have HDT:=hid hdt
    obtain⟨m0,m1,m2,m3,m4,m5,m6,-⟩:=blk7 hcb
    clear hc hex hk hsc hcb hme hst hdt hle hdl hs1 hd1 hs0 hd0 hkc
    go_upto_region 4 with fail
    rw[←hW,←hC]
    clear hW hC x0 x1 x2 x3 x4 x5 x6
    go_wp2_with (go_at_call 34;refine HCA.out.mono ?_;rintro e w5 ⟨rfl,hk5⟩;have HK5:=hid hk5;clear hk5)
    refine⟨⟨i+1,by rw[HST.out];simp,?_,by simp,by omega,(HK.out.trans HKC.out).trans HK5.out⟩,by simp only[intOf];omega⟩
    rw[HDT.out]
    show Value.int _ _=_
    congr 1
    omega
   ·have hnl:¬(i:Int)<kids.length:=by omega
    have e:i=kids.length:=by omega
    rw[e,List.take_length]
    have hW1:IntKind.i64.wrap ((BO kids:Int)+1)=(BO kids:Int)+1:=IntWalk.i64_in _ (by have:=HSZ.out;have:=HN.out;omega)
    have hW2:IntKind.i64.wrap ((CH kids:Int)+1)=(CH kids:Int)+1:=IntWalk.i64_in _ (by have:=HSZ.out;have:=HN.out;have:=HDP.out;omega)
    clear hk e
    go_wp2_with fail
    go_ret2
    exact⟨rfl,HK0.out.trans HK.out⟩
def gz2 (thn els:List Gs):Nat→Nat
 |0=>0
 |1=>BN thn
 |_=>BN thn+BN els
def gp2 (thn els:List Gs)(d:Nat):Nat→Nat
 |0=>d
 |1=>max d (DC thn)
 |_=>max (max d (DC thn)) (DC els)
def WeighsG (l:List Gs):Prop:=∀(w:World) (S:Nat→Prop) (p:Option Addr) (c:Nat),DV w S p 0 l→
 Calls Tryz.prog 43 #[.slice p l.length c] w fun e w'=>e=.returned (.tuple #[.int .i64 (BN l),.int .i64 (DC l)])∧BA (fun _=>False) w w'
theorem weighsG_step (l:List Gs)(hb:BN l≤1099511627776)(ih:∀m,BN m<BN l→WeighsG m):WeighsG l:=by
 intro w S p c hp
 have HIH:=hid ih;have HP:=hid hp;have HBD:=hid hb
 have HL:=hid (FV l);have HDL:=hid (sDeepL_le l)
 clear ih hp hb
 go_enter Tryz.func43,Tryz.ntmps43
 go_wp2_with fail
 go_loopw [2,3,17] (fun v2 v3 v17 wr=>∃i:Nat,v2=.int .i64 (BN (l.take i))∧v3=.int .i64 (DC (l.take i))∧v17=.int .i64 i∧i≤l.length∧BA (fun _=>False) w wr) (fun _ _ v _=>l.length - (intOf v).toNat)
 case atStart=>exact⟨0,rfl,rfl,rfl,Nat.zero_le _,BA.refl _ _⟩
 case round=>
  obtain⟨i,rfl,rfl,rfl,hi,hk⟩:=hrel
  have HK:=hid hk
  by_cases hlt:i<l.length
  ·have hlti:(i:Int)<l.length:=by omega
   have hi0:(0:Int)≤i:=by omega
   have hWi:IntKind.i64.wrap ((i:Int)+1)=(i:Int)+1:=IntWalk.i64_in _ (by have:=HL.out;have:=HBD.out;omega)
   obtain⟨g,o,vs,hp,hc,hst⟩:=skids_gt (HP.out.keep hk fun _ _ e=>e) i hlt
   subst hp
   rw[Nat.zero_add]at hc
   have hme:=GA hlt
   have htk:=sSizeL_take hlt
   have hdt:=sDeepL_take hlt
   have hle:=sSizeL_le (l:=l) (i+1)
   have hdl:=sDeepL_le (l.take (i+1))
   have hdl0:=sDeepL_le (l.take i)
   obtain⟨s,hs⟩:∃s,l[i]=s:=⟨_,rfl⟩
   rw[hs]at hst hme htk hdt
   clear hs
   obtain⟨k,nm,sz,op,val,into,cont,xs,thn,els,ln,col⟩:=s
   have hss:CS (.mk k nm sz op val into cont xs thn els ln col)=BO xs+BN thn+BN els+1:=by unfold CS;rfl
   have hsd:sDeep (.mk k nm sz op val into cont xs thn els ln col)=max (max (CH xs) (DC thn)) (DC els)+1:=by unfold sDeep;rfl
   rw[hss]at hme htk
   rw[hsd]at hdt
   unfold SAt at hst
   obtain⟨p1,c1,p2,c2,p3,c3,rfl,hx,ht,he⟩:=hst
   unfold strV at hc
   obtain⟨s0,hs0⟩:∃s,BN (l.take i)=s:=⟨_,rfl⟩
   obtain⟨d0,hd0⟩:∃s,DC (l.take i)=s:=⟨_,rfl⟩
   rw[hs0]at htk hdl0
   rw[hd0]at hdt hdl0
   rw[hs0,hd0]
   have x0:wr.cell? ⟨g,o+i * 12,none⟩=some (.int .i64 k):=hc 0 _ rfl
   have x1:=hc 1 _ rfl;have x2:=hc 2 _ rfl;have x3:=hc 3 _ rfl;have x4:=hc 4 _ rfl;have x5:=hc 5 _ rfl;have x6:=hc 6 _ rfl;have x7:=hc 7 _ rfl;have x8:=hc 8 _ rfl;have x9:=hc 9 _ rfl;have x10:=hc 10 _ rfl;have x11:=hc 11 _ rfl
   obtain⟨W,C,hW,hC,hcb,hkc,hsc⟩:=BC wr (.cells #[.int .i64 k,.string ⟨nm.toArray⟩,.int .i64 sz,.int .i64 op,.string ⟨val.toArray⟩,.string ⟨into.toArray⟩,.string ⟨cont.toArray⟩,.slice p1 xs.length c1,.slice p2 thn.length c2,.slice p3 els.length c3,.int .i64 ln,.int .i64 col] TSm)
   have HX:=hid (hx.keep hkc fun _ _ e=>e);have HT:=hid (ht.keep hkc fun _ _ e=>e);have HE:=hid (he.keep hkc fun _ _ e=>e)
   have HWT:=hid (HIH.out thn (by omega));have HWE:=hid (HIH.out els (by omega))
   have HB:=hid hcb
   have HKC:=hid (hk.trans hkc)
   have hxl:=glen_size xs
   have hxd:=gDeepL_le xs
   have htd:=sDeepL_le thn
   have hed:=sDeepL_le els
   have HSZ:=hid (show s0+BO xs+BN thn+BN els+1≤1099511627776 by have:=HBD.out;omega)
   have HDP:=hid (And.intro hxl (And.intro hxd (And.intro htd (And.intro hed hdl0))))
   have HTK:=hid htk;have HDT:=hid hdt
   obtain⟨lx,hlx⟩:∃n,xs.length=n:=⟨_,rfl⟩
   obtain⟨n0,n1,n2,n3,n4,n5,n6,n7,n8,n9,n10,n11⟩:=BH hcb
   clear hc hx ht he hk hkc hsc hcb hme htk hdt hle hdl hdl0 hs0 hd0 hss hsd hxl hxd htd hed hlx
   go_upto_region 4 with fail
   rw[←hW,←hC]
   clear hW hC x0 x1 x2 x3 x4 x5 x6 x7 x8 x9 x10 x11
   go_wp2_with fail
   go_loopw [2,6,24] (fun v2 v6 v24 wx=>∃j:Nat,v2=.int .i64 ((s0+BO (xs.take j):Nat):Int)∧v6=.int .i64 (CH (xs.take j))∧v24=.int .i64 j∧j≤xs.length∧BA (fun _=>False) W wx) (fun _ _ v _=>xs.length - (intOf v).toNat)
   case atStart=>exact⟨0,by simp[BO],rfl,rfl,Nat.zero_le _,BA.refl _ _⟩
   case round=>
    obtain⟨j,rfl,rfl,rfl,hj,hk⟩:=hrel
    have HKX:=hid hk
    by_cases hjl:j<xs.length
    ·have hjli:(j:Int)<xs.length:=by omega
     have hj0:(0:Int)≤j:=by omega
     have hWj:IntKind.i64.wrap ((j:Int)+1)=(j:Int)+1:=IntWalk.i64_in _ (by have:=HDP.out.1;have:=HSZ.out;omega)
     obtain⟨g,o,vs,hp,hc,hex⟩:=gkids_get (HX.out.keep hk fun _ _ e=>e) j hjl
     subst hp
     rw[Nat.zero_add]at hc
     obtain⟨yk,yo,yn,yS,yp,ym,yc,yl,ycl,rfl⟩:=FN hex
     have x0:wr.cell? ⟨g,o+j * 7,none⟩=some (.int .i64 yk):=hc 0 _ rfl
     have x1:=hc 1 _ rfl;have x2:=hc 2 _ rfl;have x3:=hc 3 _ rfl;have x4:=hc 4 _ rfl;have x5:=hc 5 _ rfl;have x6:=hc 6 _ rfl
     obtain⟨W2,C2,hW,hC,hcb,hkc,hsc⟩:=BC wr (.cells #[.int .i64 yk,.int .i64 yo,.int .i64 yn,.string yS,.slice yp ym yc,.int .i64 yl,.int .i64 ycl] TEx)
     have hme:=gsize_mem hjl
     have HCA:=hid (weighG_any 1099511627776 xs[j] (by have:=HSZ.out;omega) (Nat.le_refl _) W2 S _ (hex.keep hkc fun _ _ e=>e))
     have HKC2:=hid hkc
     have hst:=gSizeL_take hjl
     have hdt:=gDeepL_take hjl
     have hle:=gSizeL_le (l:=xs) (j+1)
     obtain⟨s1,hs1⟩:∃s,CM xs[j]=s:=⟨_,rfl⟩
     obtain⟨d1,hd1⟩:∃s,FY xs[j]=s:=⟨_,rfl⟩
     obtain⟨t0,ht0⟩:∃s,s0+BO (xs.take j)=s:=⟨_,rfl⟩
     obtain⟨e0,he0⟩:∃s,CH (xs.take j)=s:=⟨_,rfl⟩
     rw[hs1]at hst
     rw[hd1,he0]at hdt
     rw[hs1,hd1]at HCA
     rw[ht0,he0]
     have hWs:IntKind.i64.wrap ((t0:Int)+s1)=(t0:Int)+s1:=IntWalk.i64_in _ (by have:=HSZ.out;omega)
     have HST:=hid (show s0+BO (xs.take (j+1))=t0+s1 by omega);have HDT2:=hid hdt
     obtain⟨m0,m1,m2,m3,m4,m5,m6,-⟩:=blk7 hcb
     clear hc hex hk hsc hcb hme hst hdt hle hs1 hd1 ht0 he0 hkc
     go_upto_region 8 with fail
     rw[←hW,←hC]
     clear hW hC x0 x1 x2 x3 x4 x5 x6
     go_wp2_with (go_at_call 34;refine HCA.out.mono ?_;rintro e w5 ⟨rfl,hk5⟩;have HK5:=hid hk5;clear hk5)
     refine⟨⟨j+1,by rw[HST.out];simp,?_,by simp,by omega,(HKX.out.trans HKC2.out).trans HK5.out⟩,by simp only[intOf];omega⟩
     rw[HDT2.out]
     show Value.int _ _=_
     congr 1
     omega
    ·have hnl:¬(j:Int)<xs.length:=by omega
     have e:j=xs.length:=by omega
     rw[e,List.take_length]
     have hb0:=hk.blk HB.out
     obtain⟨n0,n1,n2,n3,n4,n5,n6,n7,n8,n9,n10,n11⟩:=BH hb0
     clear e hb0
     obtain⟨t0,ht0⟩:∃s,s0+BO xs=s:=⟨_,rfl⟩
     obtain⟨e0,he0⟩:∃s,CH xs=s:=⟨_,rfl⟩
     rw[ht0,he0]
     have HSZ2:=hid (show t0+(BN thn+BN els)+1≤1099511627776∧e0≤t0 by have:=HSZ.out;have:=HDP.out;omega)
     have HTT:=hid (And.intro ht0 he0)
     obtain⟨W3,D,hW3,hD,hbd,hkd,hsd⟩:=BC wr (.cells #[.slice p2 thn.length c2,.slice p3 els.length c3] TSs)
     have HBD2:=hid hbd;have HKB:=hid (hk.trans hkd)
     clear hk hbd hkd hsd ht0 he0
     go_wp2_with fail
     rw[←hW3,←hD]
     clear hW3 hD n0 n1 n2 n3 n4 n5 n6 n7 n8 n9 n10 n11
     go_loopw [2,6,46] (fun v2 v6 v46 wy=>∃j:Nat,v2=.int .i64 ((t0+gz2 thn els j:Nat):Int)∧v6=.int .i64 (gp2 thn els e0 j)∧v46=.int .i64 j∧j≤2∧BA (fun _=>False) W3 wy) (fun _ _ v _=>2 - (intOf v).toNat)
     case atStart=>exact⟨0,rfl,rfl,rfl,by omega,BA.refl _ _⟩
     case round=>
      obtain⟨j,rfl,rfl,rfl,hj,hk⟩:=hrel
      have HKX:=hid hk
      by_cases j0:j=0
      ·subst j0
       have HCA:=hid (HWT.out wr S p2 c2 (HT.out.keep (HKB.out.trans hk) fun _ _ e=>e))
       have hy:=hk.blk HBD2.out
       obtain⟨y0,y1⟩:=blk2 hy
       obtain⟨z1,hz1⟩:∃s,BN thn=s:=⟨_,rfl⟩
       obtain⟨e1,he1⟩:∃s,DC thn=s:=⟨_,rfl⟩
       rw[hz1,he1]at HCA
       obtain⟨t1,ht1⟩:∃s,t0+gz2 thn els 0=s:=⟨_,rfl⟩
       obtain⟨f1,hf1⟩:∃s,gp2 thn els e0 0=s:=⟨_,rfl⟩
       rw[ht1,hf1]
       have HST:=hid (show t0+gz2 thn els (0+1)=t1+z1 by rw[←ht1,←hz1];simp only[gz2];omega)
       have HDT2:=hid (show gp2 thn els e0 (0+1)=max f1 e1 by rw[←hf1,←he1];rfl)
       have hWs:IntKind.i64.wrap ((t1:Int)+z1)=(t1:Int)+z1:=IntWalk.i64_in _ (by have h:=HSZ2.out;have h2:=HST.out;simp only[gz2]at h2;omega)
       clear hk hy hz1 he1 ht1 hf1
       go_wp2_with (go_at_call 43;refine HCA.out.mono ?_;rintro e w5 ⟨rfl,hk5⟩;have HK5:=hid hk5;clear hk5)
       refine⟨⟨0+1,by rw[HST.out];simp,?_,by simp,by omega,HKX.out.trans HK5.out⟩,by simp only[intOf];omega⟩
       rw[HDT2.out]
       show Value.int _ _=_
       congr 1
       omega
      ·by_cases j1:j=1
       ·subst j1
        have HCA:=hid (HWE.out wr S p3 c3 (HE.out.keep (HKB.out.trans hk) fun _ _ e=>e))
        have hy:=hk.blk HBD2.out
        obtain⟨y0,y1⟩:=blk2 hy
        obtain⟨z1,hz1⟩:∃s,BN els=s:=⟨_,rfl⟩
        obtain⟨e1,he1⟩:∃s,DC els=s:=⟨_,rfl⟩
        rw[hz1,he1]at HCA
        obtain⟨t1,ht1⟩:∃s,t0+gz2 thn els 1=s:=⟨_,rfl⟩
        obtain⟨f1,hf1⟩:∃s,gp2 thn els e0 1=s:=⟨_,rfl⟩
        rw[ht1,hf1]
        have HST:=hid (show t0+gz2 thn els (1+1)=t1+z1 by rw[←ht1,←hz1];simp only[gz2];omega)
        have HDT2:=hid (show gp2 thn els e0 (1+1)=max f1 e1 by rw[←hf1,←he1];rfl)
        have hWs:IntKind.i64.wrap ((t1:Int)+z1)=(t1:Int)+z1:=IntWalk.i64_in _ (by have h:=HSZ2.out;have h2:=HST.out;simp only[gz2]at h2;omega)
        clear hk hy hz1 he1 ht1 hf1
        go_wp2_with (go_at_call 43;refine HCA.out.mono ?_;rintro e w5 ⟨rfl,hk5⟩;have HK5:=hid hk5;clear hk5)
        refine⟨⟨1+1,by rw[HST.out];simp,?_,by simp,by omega,HKX.out.trans HK5.out⟩,by simp only[intOf];omega⟩
        rw[HDT2.out]
        show Value.int _ _=_
        congr 1
        omega
       ·have j2:j=2:=by omega
        subst j2
        have hd9:=HDP.out
        have hw1:IntKind.i64.wrap (((t0+gz2 thn els 2:Nat):Int)+1)=((t0+gz2 thn els 2:Nat):Int)+1:=IntWalk.i64_in _ (by have:=HSZ2.out;simp only[gz2];omega)
        have hw2:IntKind.i64.wrap (((gp2 thn els e0 2:Nat):Int)+1)=((gp2 thn els e0 2:Nat):Int)+1:=IntWalk.i64_in _ (by have:=HSZ2.out;simp only[gp2];omega)
        have HST:=hid (show BN (l.take (i+1))=(t0+gz2 thn els 2)+1 by rw[HTK.out,←HTT.out.1];simp only[gz2];omega)
        have HDT3:=hid (show DC (l.take (i+1))=max d0 (gp2 thn els e0 2+1) by rw[HDT.out,←HTT.out.2];simp only[gp2])
        obtain⟨z9,hz9⟩:∃s,t0+gz2 thn els 2=s:=⟨_,rfl⟩
        obtain⟨f9,hf9⟩:∃s,gp2 thn els e0 2=s:=⟨_,rfl⟩
        rw[hz9]at hw1 HST ⊢
        rw[hf9]at hw2 HDT3 ⊢
        clear hk hd9 hz9 hf9
        go_wp2_with fail
        refine⟨⟨i+1,by rw[HST.out];simp,?_,by simp,by omega,(HKC.out.trans HKB.out).trans HKX.out⟩,by simp only[intOf];omega⟩
        rw[HDT3.out]
        show Value.int _ _=_
        congr 1
        omega
  ·have hnl:¬(i:Int)<l.length:=by omega
   have e:i=l.length:=by omega
   rw[e,List.take_length]
   clear hk e
   go_wp2_with fail
   go_ret2
   exact⟨rfl,HK.out⟩
theorem weighsG_any (l:List Gs)(hb:BN l≤1099511627776):WeighsG l:=by
 induction h:BN l using Nat.strongRecOn generalizing l with
 |_ n ih=>exact weighsG_step l hb fun m hm=>ih _ (by omega) m (by omega) rfl
def DQ:List (List Gs)→Nat
 |[]=>0
 |b::l=>BN b+DQ l
def hDeep:List (List Gs)→Nat
 |[]=>0
 |b::l=>max (DC b) (hDeep l)
theorem hSize_take {l:List (List Gs)}{i:Nat}(h:i<l.length):DQ (l.take (i+1))=DQ (l.take i)+BN l[i]:=by
 induction l generalizing i with
 |nil=>cases h
 | cons x l ih=>
  cases i with
  |zero=>simp[DQ]
  | succ i=>
   have h':i<l.length:=by simpa using h
   simp only[List.take_succ_cons,DQ,List.getElem_cons_succ]
   rw[ih h']
   omega
theorem hDeep_take {l:List (List Gs)}{i:Nat}(h:i<l.length):hDeep (l.take (i+1))=max (hDeep (l.take i)) (DC l[i]):=by
 induction l generalizing i with
 |nil=>cases h
 | cons x l ih=>
  cases i with
  |zero=>simp[hDeep]
  | succ i=>
   have h':i<l.length:=by simpa using h
   simp only[List.take_succ_cons,hDeep,List.getElem_cons_succ]
   rw[ih h']
   omega
theorem hSize_le {l:List (List Gs)}(i:Nat):DQ (l.take i)≤DQ l:=by
 induction l generalizing i with
 |nil=>simp[DQ]
 | cons x l ih=>
  cases i with
  |zero=>simp[DQ]
  | succ i=>
   have:=ih i
   simp only[List.take_succ_cons,DQ]
   omega
theorem gths_get {w:World}{S:Nat→Prop}{q:Option Addr}{l:List (List Gs)}(h:GThs w S q l)(i:Nat)(hi:i<l.length):∃g o p c,q=some ⟨g,o,none⟩∧w.cell? ⟨g,o+i,none⟩=some (.slice p l[i].length c)∧DV w S p 0 l[i]:=by
 obtain⟨g,o,p,c,h1,-,h3,h4⟩:=h i hi
 exact⟨g,o,p,c,h1,h3,h4⟩
theorem sizeG_any (ths:List (List Gs))(hb:DQ ths≤1099511627776)(hl:ths.length≤1000000)(w:World)(S:Nat→Prop)(q:Option Addr)(d:Nat)(pool:Int)(p:Option Addr)(n c:Nat)(h:GThs w S q ths):
  Calls Tryz.prog 18 #[.agg #[.int .i64 pool,.slice p n c,.slice q ths.length d]] w fun e w'=>e=.returned (.int .i64 (DQ ths))∧BA (fun _=>False) w w':=by
 obtain⟨V,B1,hV,hB1,hb1,hk1,hs1⟩:=BC w (.cells #[.int .i64 pool,.slice p n c,.slice q ths.length d] TPr)
 have HTH:=hid (h.keep hk1 fun _ _ e=>e)
 have HB:=hid hb;have HL:=hid hl;have HK1:=hid hk1
 obtain⟨n0,n1,n2,-⟩:=BY hb1
 clear h hb hl hb1 hk1 hs1
 go_enter Tryz.func18,Tryz.ntmps18
 go_upto_region 1 with fail
 rw[←hV,←hB1]
 clear hV hB1
 go_wp2_with fail
 go_loopw [2,10] (fun v2 v10 wr=>∃i:Nat,v2=.int .i64 (DQ (ths.take i))∧v10=.int .i64 i∧i≤ths.length∧BA (fun _=>False) V wr) (fun _ v _=>ths.length - (intOf v).toNat)
 case atStart=>exact⟨0,rfl,rfl,Nat.zero_le _,BA.refl _ _⟩
 case round=>
  obtain⟨i,rfl,rfl,hi,hk⟩:=hrel
  have HK:=hid hk
  by_cases hlt:i<ths.length
  ·have hlti:(i:Int)<ths.length:=by omega
   have hi0:(0:Int)≤i:=by omega
   have hWi:IntKind.i64.wrap ((i:Int)+1)=(i:Int)+1:=IntWalk.i64_in _ (by have:=HL.out;omega)
   obtain⟨g,o,p',c',rfl,hc,hst⟩:=gths_get (HTH.out.keep hk fun _ _ e=>e) i hlt
   have htk:=hSize_take hlt
   have hle:=hSize_le (l:=ths) (i+1)
   have hdt:=hSize_take hlt
   have HCA:=hid (weighsG_any ths[i] (by have:=HB.out;omega) wr S p' c' hst)
   obtain⟨s1,hs1⟩:∃s,BN ths[i]=s:=⟨_,rfl⟩
   obtain⟨d1,hd1⟩:∃s,DC ths[i]=s:=⟨_,rfl⟩
   obtain⟨s0,hs0⟩:∃s,DQ (ths.take i)=s:=⟨_,rfl⟩
   rw[hs1,hd1]at HCA
   rw[hs1,hs0]at hdt
   rw[hs1]at htk
   rw[hs0]
   have hWs:IntKind.i64.wrap ((s0:Int)+s1)=(s0:Int)+s1:=IntWalk.i64_in _ (by have:=HB.out;omega)
   have HST:=hid hdt
   clear hst hk htk hdt hle hs1 hd1 hs0
   go_wp2_with (go_at_call 43;refine HCA.out.mono ?_;rintro e w5 ⟨rfl,hk5⟩;have HK5:=hid hk5;clear hk5)
   refine⟨⟨i+1,?_,by simp,by omega,HK.out.trans HK5.out⟩,by simp only[intOf];omega⟩
   rw[HST.out]
   show Value.int _ _=_
   congr 1
   all_goals omega
  ·have hnl:¬(i:Int)<ths.length:=by omega
   have e:i=ths.length:=by omega
   rw[e,List.take_length]
   clear hk e
   go_wp2_with fail
   go_ret
   exact⟨rfl,HK1.out.trans HK.out⟩
theorem deepG_any (ths:List (List Gs))(hb:DQ ths≤1099511627776)(hl:ths.length≤1000000)(w:World)(S:Nat→Prop)(q:Option Addr)(d:Nat)(pool:Int)(p:Option Addr)(n c:Nat)(h:GThs w S q ths):
  Calls Tryz.prog 19 #[.agg #[.int .i64 pool,.slice p n c,.slice q ths.length d]] w fun e w'=>e=.returned (.int .i64 (hDeep ths))∧BA (fun _=>False) w w':=by
 obtain⟨V,B1,hV,hB1,hb1,hk1,hs1⟩:=BC w (.cells #[.int .i64 pool,.slice p n c,.slice q ths.length d] TPr)
 have HTH:=hid (h.keep hk1 fun _ _ e=>e)
 have HB:=hid hb;have HL:=hid hl;have HK1:=hid hk1
 obtain⟨n0,n1,n2,-⟩:=BY hb1
 clear h hb hl hb1 hk1 hs1
 go_enter Tryz.func19,Tryz.ntmps19
 go_upto_region 1 with fail
 rw[←hV,←hB1]
 clear hV hB1
 go_wp2_with fail
 go_loopw [2,10] (fun v2 v10 wr=>∃i:Nat,v2=.int .i64 (hDeep (ths.take i))∧v10=.int .i64 i∧i≤ths.length∧BA (fun _=>False) V wr) (fun _ v _=>ths.length - (intOf v).toNat)
 case atStart=>exact⟨0,rfl,rfl,Nat.zero_le _,BA.refl _ _⟩
 case round=>
  obtain⟨i,rfl,rfl,hi,hk⟩:=hrel
  have HK:=hid hk
  by_cases hlt:i<ths.length
  ·have hlti:(i:Int)<ths.length:=by omega
   have hi0:(0:Int)≤i:=by omega
   have hWi:IntKind.i64.wrap ((i:Int)+1)=(i:Int)+1:=IntWalk.i64_in _ (by have:=HL.out;omega)
   obtain⟨g,o,p',c',rfl,hc,hst⟩:=gths_get (HTH.out.keep hk fun _ _ e=>e) i hlt
   have htk:=hSize_take hlt
   have hle:=hSize_le (l:=ths) (i+1)
   have hdt:=hDeep_take hlt
   have HCA:=hid (weighsG_any ths[i] (by have:=HB.out;omega) wr S p' c' hst)
   obtain⟨s1,hs1⟩:∃s,BN ths[i]=s:=⟨_,rfl⟩
   obtain⟨d1,hd1⟩:∃s,DC ths[i]=s:=⟨_,rfl⟩
   obtain⟨s0,hs0⟩:∃s,hDeep (ths.take i)=s:=⟨_,rfl⟩
   rw[hs1,hd1]at HCA
   rw[hd1,hs0]at hdt
   rw[hs1]at htk
   rw[hs0]
   skip
   have HST:=hid hdt
   clear hst hk htk hdt hle hs1 hd1 hs0
   go_wp2_with (go_at_call 43;refine HCA.out.mono ?_;rintro e w5 ⟨rfl,hk5⟩;have HK5:=hid hk5;clear hk5)
   refine⟨⟨i+1,?_,by simp,by omega,HK.out.trans HK5.out⟩,by simp only[intOf];omega⟩
   rw[HST.out]
   show Value.int _ _=_
   congr 1
   all_goals omega
  ·have hnl:¬(i:Int)<ths.length:=by omega
   have e:i=ths.length:=by omega
   rw[e,List.take_length]
   clear hk e
   go_wp2_with fail
   go_ret
   exact⟨rfl,HK1.out.trans HK.out⟩
def SaysS (mb:Gs→Bool)(x:Gs):Prop:=∀(w:World) (S:Nat→Prop) (vs:List Value),TabS w→SAt w S vs x→
 Calls Tryz.prog 93 #[.agg vs.toArray] w fun e w'=>e=.returned (.bool (mb x))∧BA (fun _=>False) w w'
theorem mayFnS_any (mb:Gs→Bool)(x:Gs)(hS:SaysS mb x)(w:World)(hT:TabS w)(S:Nat→Prop)(vs:List Value)(hex:SAt w S vs x):
  Calls Tryz.prog 92 #[.agg vs.toArray] w fun e w'=>e=.returned (.bool (!mb x))∧BA (fun _=>False) w w':=by
 obtain⟨s0,s1,s2,s3,s4,s5,s6,p1,m1,c1,p2,m2,c2,p3,m3,c3,s10,s11,rfl⟩:=s_form hex
 obtain⟨W,C,hW,hC,hcb,hkc,hsc⟩:=BC w (.cells #[.int .i64 s0,.string s1,.int .i64 s2,.int .i64 s3,.string s4,.string s5,.string s6,.slice p1 m1 c1,.slice p2 m2 c2,.slice p3 m3 c3,.int .i64 s10,.int .i64 s11] TSm)
 have HM:=hid (hS W S _ (hkc.tabS hT) (hex.keep hkc fun _ _ e=>e))
 have HK:=hid hkc
 obtain⟨n0,n1,n2,n3,n4,n5,n6,n7,n8,n9,n10,n11⟩:=BH hcb
 obtain⟨b,hb⟩:∃b,mb x=b:=⟨_,rfl⟩
 rw[hb]at HM ⊢
 clear hS hT hex hcb hkc hsc hb
 go_enter Tryz.func92,Tryz.ntmps92
 go_upto_region 1 with fail
 rw[←hW,←hC]
 clear hW hC
 go_wp2_with (go_at_call 93;refine HM.out.mono ?_;rintro e w5 ⟨rfl,hk5⟩;have HK5:=hid hk5;clear hk5)
 go_ret
 exact⟨rfl,HK.out.trans HK5.out⟩
def IdxL {α:Type}(bad:α→Bool)(l:List α)(w:World)(e:Ending)(w':World):Prop:=∃k:Int,e=.returned (.int .i64 k)∧decide (0≤k)=l.any bad∧BA (fun _=>False) w w'
theorem idxS_any (bad:Gs→Bool)(l:List (Gs))(hS:∀i (h:i<l.length) (W:World) (S:Nat→Prop) (vs:List Value),TabS W→SAt W S vs l[i]→Calls Tryz.prog 92 #[.agg vs.toArray] W fun e w'=>e=.returned (.bool (bad l[i]))∧BA (fun _=>False) W w')(hl:l.length≤1099511627776)(w:World)(hT:TabS w)(S:Nat→Prop)(p:Option Addr)(c:Nat)(hp:DV w S p 0 l):
  Calls Tryz.prog 111 #[.slice p l.length c,.func (.func 92) #[] #[]] w fun e w'=>IdxL bad l w e w':=by
 have HS:=hid hS;have HP:=hid hp;have HT:=hid hT
 clear hS hp hT
 go_enter Tryz.func111,Tryz.ntmps111
 go_wp2_with fail
 go_loopw [8] (fun v8 wr=>∃k:Nat,v8=.int .i64 k∧k≤l.length∧(∀j,(hj:j<k)→(h:j<l.length)→bad l[j]=false)∧BA (fun _=>False) w wr) (fun v _=>l.length - (intOf v).toNat)
 case atStart=>exact⟨0,rfl,Nat.zero_le _,fun j h=>absurd h (Nat.not_lt_zero _),BA.refl _ _⟩
 case round=>
  obtain⟨k,rfl,hk,hall,hkk⟩:=hrel
  have HALL:=hid hall;have HK:=hid hkk
  by_cases hlt:k<l.length
  ·have hlti:(k:Int)<l.length:=by omega
   have hi0:(0:Int)≤k:=by omega
   have hWi:IntKind.i64.wrap ((k:Int)+1)=(k:Int)+1:=IntWalk.i64_in _ (by omega)
   obtain⟨g,o,vs,hp,hc,hex⟩:=skids_gt (HP.out.keep hkk fun _ _ e=>e) k hlt
   subst hp
   rw[Nat.zero_add]at hc
   have HFN:=hid (HS.out k hlt wr S vs (hkk.tabS HT.out) hex)
   obtain⟨s0,s1,s2,s3,s4,s5,s6,p1,m1,c1,p2,m2,c2,p3,m3,c3,s10,s11,rfl⟩:=s_form hex
   have x0:wr.cell? ⟨g,o+k * 12,none⟩=some (.int .i64 s0):=hc 0 _ rfl
   have x1:=hc 1 _ rfl;have x2:=hc 2 _ rfl;have x3:=hc 3 _ rfl;have x4:=hc 4 _ rfl;have x5:=hc 5 _ rfl;have x6:=hc 6 _ rfl;have x7:=hc 7 _ rfl;have x8:=hc 8 _ rfl;have x9:=hc 9 _ rfl;have x10:=hc 10 _ rfl;have x11:=hc 11 _ rfl
   clear hc hex
   obtain⟨a,ha⟩:∃a,bad l[k]=a:=⟨_,rfl⟩
   have HA:=hid ha
   rw[ha]at HFN
   clear hkk hall ha
   cases a with
   | false=>
    go_wp2_with (go_at_call 92;refine HFN.out.mono ?_;rintro e w2 ⟨rfl,hk2⟩;have HK2:=hid hk2;clear hk2)
    exact⟨⟨k+1,by simp,by omega,fun j hj h=>by
     by_cases e:j=k
     ·subst e;exact HA.out
     ·exact HALL.out j (by omega) h,HK.out.trans HK2.out⟩,by simp only[intOf];omega⟩
   | true=>
    go_wp2_with (go_at_call 92;refine HFN.out.mono ?_;rintro e w2 ⟨rfl,hk2⟩;have HK2:=hid hk2;clear hk2)
    go_ret
    refine⟨k,rfl,?_,HK.out.trans HK2.out⟩
    rw[decide_eq_true (by omega:(0:Int)≤k)]
    exact(List.any_eq_true.2 ⟨l[k],List.getElem_mem hlt,HA.out⟩).symm
  ·have hnl:¬(k:Int)<l.length:=by omega
   clear hkk hall
   go_wp2_with fail
   go_ret
   refine⟨-1,rfl,?_,HK.out⟩
   rw[decide_eq_false (by omega:¬(0:Int)≤-1)]
   symm
   rw[List.any_eq_false]
   intro x hx
   obtain⟨j,hj,e⟩:=List.getElem_of_mem hx
   rw[←e,HALL.out j (by omega) hj]
   exact NT
theorem hasS_any (bad:Gs→Bool)(l:List (Gs))(hS:∀i (h:i<l.length) (W:World) (S:Nat→Prop) (vs:List Value),TabS W→SAt W S vs l[i]→Calls Tryz.prog 92 #[.agg vs.toArray] W fun e w'=>e=.returned (.bool (bad l[i]))∧BA (fun _=>False) W w')(hl:l.length≤1099511627776)(w:World)(hT:TabS w)(S:Nat→Prop)(p:Option Addr)(c:Nat)(hp:DV w S p 0 l):
  Calls Tryz.prog 91 #[.slice p l.length c,.func (.func 92) #[] #[]] w fun e w'=>e=.returned (.bool (l.any bad))∧BA (fun _=>False) w w':=by
 have HI:=hid (idxS_any bad l hS hl w hT S p c hp)
 clear hS hp hT
 go_enter Tryz.func91,Tryz.ntmps91
 go_wp2_with (go_at_call 111;refine HI.out.mono ?_;rintro e w2 ⟨k,rfl,hd,hk⟩;have HD:=hid hd;have HK:=hid hk;clear hd hk)
 go_ret
 exact⟨by rw[←HD.out];rfl,HK.out⟩
theorem CT (mb:Gs→Bool)(l:List Gs)(hS:∀i (h:i<l.length),SaysS mb l[i])(hl:l.length≤1099511627776)(w:World)(hT:TabS w)(S:Nat→Prop)(p:Option Addr)(c:Nat)(hp:DV w S p 0 l):
  Calls Tryz.prog 49 #[.slice p l.length c] w fun e w'=>e=.returned (.bool (!(l.any fun x=>!mb x)))∧BA (fun _=>False) w w':=by
 have HI:=hid (hasS_any (fun x=>!mb x) l (fun i h W S vs hT hex=>mayFnS_any mb l[i] (hS i h) W hT S vs hex) hl w hT S p c hp)
 clear hS hp hT
 go_enter Tryz.func49,Tryz.ntmps49
 go_wp2_with (go_at_call 91;refine HI.out.mono ?_;rintro e w2 ⟨rfl,hk⟩;have HK:=hid hk;clear hk)
 go_ret
 exact⟨rfl,HK.out⟩
theorem mayFnT_any (b:Bool)(w:World)(q:Option Addr)(n c:Nat)(hB:Calls Tryz.prog 49 #[.slice q n c] w fun e w'=>e=.returned (.bool b)∧BA (fun _=>False) w w'):
  Calls Tryz.prog 48 #[.slice q n c] w fun e w'=>e=.returned (.bool (!b))∧BA (fun _=>False) w w':=by
 have HI:=hid hB
 clear hB
 go_enter Tryz.func48,Tryz.ntmps48
 go_wp2_with (go_at_call 49;refine HI.out.mono ?_;rintro e w2 ⟨rfl,hk⟩;have HK:=hid hk;clear hk)
 go_ret
 exact⟨rfl,HK.out⟩
theorem idxT_any (bad:List Gs→Bool)(l:List (List Gs))(hS:∀i (h:i<l.length) (W:World) (S:Nat→Prop) (q:Option Addr) (cq:Nat),TabS W→DV W S q 0 l[i]→Calls Tryz.prog 48 #[.slice q l[i].length cq] W fun e w'=>e=.returned (.bool (bad l[i]))∧BA (fun _=>False) W w')(hl:l.length≤1099511627776)(w:World)(hT:TabS w)(S:Nat→Prop)(p:Option Addr)(c:Nat)(hp:GThs w S p l):
  Calls Tryz.prog 90 #[.slice p l.length c,.func (.func 48) #[] #[]] w fun e w'=>IdxL bad l w e w':=by
 have HS:=hid hS;have HP:=hid hp;have HT:=hid hT
 clear hS hp hT
 go_enter Tryz.func90,Tryz.ntmps90
 go_wp2_with fail
 go_loopw [8] (fun v8 wr=>∃k:Nat,v8=.int .i64 k∧k≤l.length∧(∀j,(hj:j<k)→(h:j<l.length)→bad l[j]=false)∧BA (fun _=>False) w wr) (fun v _=>l.length - (intOf v).toNat)
 case atStart=>exact⟨0,rfl,Nat.zero_le _,fun j h=>absurd h (Nat.not_lt_zero _),BA.refl _ _⟩
 case round=>
  obtain⟨k,rfl,hk,hall,hkk⟩:=hrel
  have HALL:=hid hall;have HK:=hid hkk
  by_cases hlt:k<l.length
  ·have hlti:(k:Int)<l.length:=by omega
   have hi0:(0:Int)≤k:=by omega
   have hWi:IntKind.i64.wrap ((k:Int)+1)=(k:Int)+1:=IntWalk.i64_in _ (by omega)
   obtain⟨g,o,q,cq,hp,-,y0,hsk⟩:=(HP.out.keep hkk fun _ _ e=>e) k hlt
   subst hp
   have HFN:=hid (HS.out k hlt wr S q cq (hkk.tabS HT.out) hsk)
   clear hsk
   obtain⟨a,ha⟩:∃a,bad l[k]=a:=⟨_,rfl⟩
   have HA:=hid ha
   rw[ha]at HFN
   clear hkk hall ha
   cases a with
   | false=>
    go_wp2_with (go_at_call 48;refine HFN.out.mono ?_;rintro e w2 ⟨rfl,hk2⟩;have HK2:=hid hk2;clear hk2)
    exact⟨⟨k+1,by simp,by omega,fun j hj h=>by
     by_cases e:j=k
     ·subst e;exact HA.out
     ·exact HALL.out j (by omega) h,HK.out.trans HK2.out⟩,by simp only[intOf];omega⟩
   | true=>
    go_wp2_with (go_at_call 48;refine HFN.out.mono ?_;rintro e w2 ⟨rfl,hk2⟩;have HK2:=hid hk2;clear hk2)
    go_ret
    refine⟨k,rfl,?_,HK.out.trans HK2.out⟩
    rw[decide_eq_true (by omega:(0:Int)≤k)]
    exact(List.any_eq_true.2 ⟨l[k],List.getElem_mem hlt,HA.out⟩).symm
  ·have hnl:¬(k:Int)<l.length:=by omega
   clear hkk hall
   go_wp2_with fail
   go_ret
   refine⟨-1,rfl,?_,HK.out⟩
   rw[decide_eq_false (by omega:¬(0:Int)≤-1)]
   symm
   rw[List.any_eq_false]
   intro x hx
   obtain⟨j,hj,e⟩:=List.getElem_of_mem hx
   rw[←e,HALL.out j (by omega) hj]
   exact NT
theorem hasT_any (bad:List Gs→Bool)(l:List (List Gs))(hS:∀i (h:i<l.length) (W:World) (S:Nat→Prop) (q:Option Addr) (cq:Nat),TabS W→DV W S q 0 l[i]→Calls Tryz.prog 48 #[.slice q l[i].length cq] W fun e w'=>e=.returned (.bool (bad l[i]))∧BA (fun _=>False) W w')(hl:l.length≤1099511627776)(w:World)(hT:TabS w)(S:Nat→Prop)(p:Option Addr)(c:Nat)(hp:GThs w S p l):
  Calls Tryz.prog 47 #[.slice p l.length c,.func (.func 48) #[] #[]] w fun e w'=>e=.returned (.bool (l.any bad))∧BA (fun _=>False) w w':=by
 have HI:=hid (idxT_any bad l hS hl w hT S p c hp)
 clear hS hp hT
 go_enter Tryz.func47,Tryz.ntmps47
 go_wp2_with (go_at_call 90;refine HI.out.mono ?_;rintro e w2 ⟨k,rfl,hd,hk⟩;have HD:=hid hd;have HK:=hid hk;clear hd hk)
 go_ret
 exact⟨by rw[←HD.out];rfl,HK.out⟩
theorem blk4 {w:World}{B:Nat}{a b c d:Value}{T:TypeId}(h:w.heap[B]?=some (.cells #[a,b,c,d] T (0,0))):w.cell? ⟨B,0,none⟩=some a∧w.cell? ⟨B,1,none⟩=some b∧w.cell? ⟨B,2,none⟩=some c∧w.cell? ⟨B,3,none⟩=some d:=by
 simp[World.cell?,h]
def gcV (c:Gc):Value:=.agg #[.int .i64 c.kind,strV c.name,.int .i64 c.line,.int .i64 c.col]
def mayC (c:Gc):Bool:=!(decide (c.kind<1) || (decide (3<c.kind) || !CV c.name))
theorem mayFnC_any (c:Gc)(w:World)(hT:TabS w):
  Calls Tryz.prog 44 #[gcV c] w fun e w'=>e=.returned (.bool (!mayC c))∧BA (fun _=>False) w w':=by
 obtain⟨k,nm,l,cl⟩:=c
 obtain⟨S1,hS1,hl1⟩:∃S:ByteArray,strV nm=.string S∧S.data.toList=nm:=⟨_,rfl,by simp⟩
 unfold gcV
 dsimp only
 rw[hS1]
 obtain⟨W,C,hW,hC,hcb,hkc,hsc⟩:=BC w (.cells #[.int .i64 k,.string S1,.int .i64 l,.int .i64 cl] TCt)
 have hnm:=CA S1 W (hkc.tabS hT)
 rw[hl1]at hnm
 obtain⟨b,hb⟩:∃b,CV nm=b:=⟨_,rfl⟩
 rw[hb]at hnm
 have HM:=hid hnm
 have HK:=hid hkc
 have hres:(!mayC ⟨k,nm,l,cl⟩)=(decide (k<1) || (decide (3<k) || !b)):=by unfold mayC;dsimp only;rw[hb,Bool.not_not]
 obtain⟨r,hr⟩:∃r,(!mayC ⟨k,nm,l,cl⟩)=r:=⟨_,rfl⟩
 rw[hr]
 rw[hr]at hres
 have HRES:=hid hres
 obtain⟨n0,n1,n2,n3⟩:=blk4 hcb
 clear hT hcb hkc hsc hb hS1 hl1 hnm hres hr
 go_enter Tryz.func44,Tryz.ntmps44
 go_upto_region 1 with fail
 rw[←hW,←hC]
 clear hW hC
 by_cases h1:k<1
 ·go_wp2_with fail
  go_ret
  exact⟨by rw[HRES.out,decide_eq_true (p:=k<1) (by omega)];rfl,HK.out⟩
 by_cases h2:3<k
 ·go_wp2_with fail
  go_ret
  exact⟨by rw[HRES.out,decide_eq_false (p:=k<1) (by omega),decide_eq_true (p:=3<k) (by omega)];rfl,HK.out⟩
 go_wp2_with (go_at_call 45;refine HM.out.mono ?_;rintro e w5 ⟨rfl,hk5⟩;have HK5:=hid hk5;clear hk5)
 go_ret
 exact⟨by rw[HRES.out,decide_eq_false (p:=k<1) (by omega),decide_eq_false (p:=3<k) (by omega)];rfl,HK.out.trans HK5.out⟩
theorem idxC_any (bad:Gc→Bool)(l:List (Gc))(hS:∀i (h:i<l.length) (W:World),TabS W→Calls Tryz.prog 44 #[gcV l[i]] W fun e w'=>e=.returned (.bool (bad l[i]))∧BA (fun _=>False) W w')(hl:l.length≤1099511627776)(w:World)(hT:TabS w)(S:Nat→Prop)(p:Option Addr)(c:Nat)(hp:GCts w S p l):
  Calls Tryz.prog 89 #[.slice p l.length c,.func (.func 44) #[] #[]] w fun e w'=>IdxL bad l w e w':=by
 have HS:=hid hS;have HP:=hid hp;have HT:=hid hT
 clear hS hp hT
 go_enter Tryz.func89,Tryz.ntmps89
 go_wp2_with fail
 go_loopw [8] (fun v8 wr=>∃k:Nat,v8=.int .i64 k∧k≤l.length∧(∀j,(hj:j<k)→(h:j<l.length)→bad l[j]=false)∧BA (fun _=>False) w wr) (fun v _=>l.length - (intOf v).toNat)
 case atStart=>exact⟨0,rfl,Nat.zero_le _,fun j h=>absurd h (Nat.not_lt_zero _),BA.refl _ _⟩
 case round=>
  obtain⟨k,rfl,hk,hall,hkk⟩:=hrel
  have HALL:=hid hall;have HK:=hid hkk
  by_cases hlt:k<l.length
  ·have hlti:(k:Int)<l.length:=by omega
   have hi0:(0:Int)≤k:=by omega
   have hWi:IntKind.i64.wrap ((k:Int)+1)=(k:Int)+1:=IntWalk.i64_in _ (by omega)
   obtain⟨g,o,hp,-,y0,y1,y2,y3⟩:=(HP.out.keep hkk fun _ _ e=>e) k hlt
   subst hp
   have HFN:=hid (HS.out k hlt wr (hkk.tabS HT.out))
   obtain⟨S1,hS1⟩:∃s,strV l[k].name=.string s:=⟨_,rfl⟩
   obtain⟨i1,hi1⟩:∃s,l[k].kind=s:=⟨_,rfl⟩
   obtain⟨i2,hi2⟩:∃s,l[k].line=s:=⟨_,rfl⟩
   obtain⟨i3,hi3⟩:∃s,l[k].col=s:=⟨_,rfl⟩
   unfold gcV at HFN
   rw[hS1,hi1,hi2,hi3]at HFN
   rw[hi1]at y0
   rw[hS1]at y1
   rw[hi2]at y2
   rw[hi3]at y3
   clear hS1 hi1 hi2 hi3
   obtain⟨a,ha⟩:∃a,bad l[k]=a:=⟨_,rfl⟩
   have HA:=hid ha
   rw[ha]at HFN
   clear hkk hall ha
   cases a with
   | false=>
    go_wp2_with (go_at_call 44;refine HFN.out.mono ?_;rintro e w2 ⟨rfl,hk2⟩;have HK2:=hid hk2;clear hk2)
    exact⟨⟨k+1,by simp,by omega,fun j hj h=>by
     by_cases e:j=k
     ·subst e;exact HA.out
     ·exact HALL.out j (by omega) h,HK.out.trans HK2.out⟩,by simp only[intOf];omega⟩
   | true=>
    go_wp2_with (go_at_call 44;refine HFN.out.mono ?_;rintro e w2 ⟨rfl,hk2⟩;have HK2:=hid hk2;clear hk2)
    go_ret
    refine⟨k,rfl,?_,HK.out.trans HK2.out⟩
    rw[decide_eq_true (by omega:(0:Int)≤k)]
    exact(List.any_eq_true.2 ⟨l[k],List.getElem_mem hlt,HA.out⟩).symm
  ·have hnl:¬(k:Int)<l.length:=by omega
   clear hkk hall
   go_wp2_with fail
   go_ret
   refine⟨-1,rfl,?_,HK.out⟩
   rw[decide_eq_false (by omega:¬(0:Int)≤-1)]
   symm
   rw[List.any_eq_false]
   intro x hx
   obtain⟨j,hj,e⟩:=List.getElem_of_mem hx
   rw[←e,HALL.out j (by omega) hj]
   exact NT
theorem hasC_any (bad:Gc→Bool)(l:List (Gc))(hS:∀i (h:i<l.length) (W:World),TabS W→Calls Tryz.prog 44 #[gcV l[i]] W fun e w'=>e=.returned (.bool (bad l[i]))∧BA (fun _=>False) W w')(hl:l.length≤1099511627776)(w:World)(hT:TabS w)(S:Nat→Prop)(p:Option Addr)(c:Nat)(hp:GCts w S p l):
  Calls Tryz.prog 46 #[.slice p l.length c,.func (.func 44) #[] #[]] w fun e w'=>e=.returned (.bool (l.any bad))∧BA (fun _=>False) w w':=by
 have HI:=hid (idxC_any bad l hS hl w hT S p c hp)
 clear hS hp hT
 go_enter Tryz.func46,Tryz.ntmps46
 go_wp2_with (go_at_call 89;refine HI.out.mono ?_;rintro e w2 ⟨k,rfl,hd,hk⟩;have HD:=hid hd;have HK:=hid hk;clear hd hk)
 go_ret
 exact⟨by rw[←HD.out];rfl,HK.out⟩
end Go.Proofs.YtomlffobbkcmdaaGreatDoor
