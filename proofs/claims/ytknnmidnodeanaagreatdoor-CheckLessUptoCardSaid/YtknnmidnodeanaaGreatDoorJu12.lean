import Derived.Test.YtknnmidnodeanaaGreatDoorJu11
set_option maxHeartbeats 32000000
set_option maxRecDepth 4000
namespace Go.Proofs.YtknnmidnodeanaaGreatDoor
open Go Go.RowKit Own
open Go.Lib (hid)
mutual
def stSize:St→Nat
 |.mk _ _ _ _ _ _ _ xs thn els _ _=>DU xs+CE thn+CE els+1
def CE:List St→Nat
 |[]=>0
 |s::l=>stSize s+CE l
end
mutual
def stDeep:St→Nat
 |.mk _ _ _ _ _ _ _ xs thn els _ _=>max (max (deepL xs) (DA thn)) (DA els)+1
def DA:List St→Nat
 |[]=>0
 |s::l=>max (stDeep s) (DA l)
end
theorem stsSize_take {l:List St}{i:Nat}(h:i<l.length):CE (l.take (i+1))=CE (l.take i)+stSize l[i]:=by
 induction l generalizing i with
 |nil=>cases h
 | cons x l ih=>
  cases i with
  |zero=>simp[CE]
  | succ i=>
   have h':i<l.length:=by simpa using h
   simp only[List.take_succ_cons,CE,List.getElem_cons_succ];rw[ih h'];omega
theorem stsDeep_take {l:List St}{i:Nat}(h:i<l.length):DA (l.take (i+1))=max (DA (l.take i)) (stDeep l[i]):=by
 induction l generalizing i with
 |nil=>cases h
 | cons x l ih=>
  cases i with
  |zero=>simp[DA]
  | succ i=>
   have h':i<l.length:=by simpa using h
   simp only[List.take_succ_cons,DA,List.getElem_cons_succ];rw[ih h'];omega
theorem stsSize_mem {l:List St}{i:Nat}(h:i<l.length):stSize l[i]≤CE l:=by
 induction l generalizing i with
 |nil=>cases h
 | cons x l ih=>
  cases i with
  |zero=>simp[CE]
  | succ i=>
   have:=ih (i:=i) (by simpa using h);simp only[CE,List.getElem_cons_succ];omega
theorem stsSize_le {l:List St}(i:Nat):CE (l.take i)≤CE l:=by
 induction l generalizing i with
 |nil=>simp[CE]
 | cons x l ih=>
  cases i with
  |zero=>simp[CE]
  | succ i=>
   have:=ih i;simp only[List.take_succ_cons,CE];omega
theorem stsLen:∀l:List St,l.length≤CE l
 |[]=>Nat.zero_le _
 | x::l=>by
  have:=stsLen l;have h1:1≤stSize x:=by cases x;unfold stSize;omega
  unfold CE;rw[LC];omega
mutual
theorem stDeep_le:∀s:St,stDeep s≤stSize s
 | .mk _ _ _ _ _ _ _ xs thn els _ _=>by
  have h1:=deepL_le xs;have h2:=stsDeep_le thn;have h3:=stsDeep_le els;unfold stDeep stSize;omega
theorem stsDeep_le:∀l:List St,DA l≤CE l
 |[]=>Nat.le_refl _
 | x::l=>by
  have h1:=stDeep_le x;have h2:=stsDeep_le l;unfold DA CE;omega
end
theorem sts_get {w:World}{S:Nat→Prop}{p:Option Addr}:∀{l:List St}{j:Nat},CJ w S p j l→∀i (h:i<l.length),∃g o vs,p=some ⟨g,o,none⟩∧(∀k v,vs[k]?=some v→w.cell? ⟨g,o+(j+i) * 12+k,none⟩=some v)∧StAt w S vs l[i]
 | x::l,j,h,0,_=>by
  unfold CJ at h;obtain⟨⟨g,o,vs,h1,_,h3,h4⟩,_⟩:=h;exact⟨g,o,vs,h1,h3,h4⟩
 | x::l,j,h,i+1,hi=>by
  unfold CJ at h;obtain⟨g,o,vs,h1,h3,h4⟩:=sts_get h.2 i (by simpa using hi);refine⟨g,o,vs,h1,fun k v hk=>?_,h4⟩;rw[show j+(i+1)=j+1+i by omega];exact h3 k v hk
 |[],_,_,i,hi=>absurd hi (by simp)
def sz2 (thn els:List St):Nat→Nat
 |0=>0
 |1=>CE thn
 |_=>CE thn+CE els
def dp2 (thn els:List St)(d:Nat):Nat→Nat
 |0=>d
 |1=>max d (DA thn)
 |_=>max (max d (DA thn)) (DA els)
theorem blk2 {w:World}{B:Nat}{a b:Value}{T:TypeId}(h:w.heap[B]?=some (.cells #[a,b] T (0,0))):w.cell? ⟨B,0,none⟩=some a∧w.cell? ⟨B,1,none⟩=some b:=by
 simp[World.cell?,h]
def Weighs (l:List St):Prop:=∀(w:World) (S:Nat→Prop) (p:Option Addr) (c:Nat),CJ w S p 0 l→
 Calls Tryz.prog 83 #[.slice p l.length c] w fun e w'=>e=.returned (.tuple #[.int .i64 (CE l),.int .i64 (DA l)])∧BA (fun _=>False) w w'
theorem weighs_step (l:List St)(hb:CE l≤1099511627776)(ih:∀m,CE m<CE l→Weighs m):Weighs l:=by
 intro w S p c hp;have HIH:=hid ih;have HP:=hid hp;have HBD:=hid hb;have HL:=hid (stsLen l);have HDL:=hid (stsDeep_le l);clear ih hp hb;go_enter Tryz.func83,Tryz.ntmps83;go_wp2_with fail;go_loopw [2,3,17] (fun v2 v3 v17 wr=>∃i:Nat,v2=.int .i64 (CE (l.take i))∧v3=.int .i64 (DA (l.take i))∧v17=.int .i64 i∧i≤l.length∧BA (fun _=>False) w wr) (fun _ _ v _=>l.length - (intOf v).toNat)
 case atStart=>exact⟨0,rfl,rfl,rfl,Nat.zero_le _,BA.refl _ _⟩
 case round=>
  obtain⟨i,rfl,rfl,rfl,hi,hk⟩:=hrel;have HK:=hid hk;by_cases hlt:i<l.length
  ·have hlti:(i:Int)<l.length:=by omega
   have hi0:(0:Int)≤i:=by omega
   have hWi:IntKind.i64.wrap ((i:Int)+1)=(i:Int)+1:=IntWalk.i64_in _ (by have:=HL.out;have:=HBD.out;omega);obtain⟨g,o,vs,hp,hc,hst⟩:=sts_get (HP.out.keep hk fun _ _ e=>e) i hlt;subst hp;rw[Nat.zero_add]at hc;have hme:=stsSize_mem hlt;have htk:=stsSize_take hlt;have hdt:=stsDeep_take hlt;have hle:=stsSize_le (l:=l) (i+1);have hdl:=stsDeep_le (l.take (i+1));have hdl0:=stsDeep_le (l.take i);obtain⟨s,hs⟩:∃s,l[i]=s:=⟨_,rfl⟩;rw[hs]at hst hme htk hdt;clear hs;obtain⟨k,nm,sz,op,val,into,cont,xs,thn,els,ln,col⟩:=s;have hss:stSize (.mk k nm sz op val into cont xs thn els ln col)=DU xs+CE thn+CE els+1:=by unfold stSize;rfl
   have hsd:stDeep (.mk k nm sz op val into cont xs thn els ln col)=max (max (deepL xs) (DA thn)) (DA els)+1:=by unfold stDeep;rfl
   rw[hss]at hme htk;rw[hsd]at hdt;unfold StAt at hst;obtain⟨p1,c1,p2,c2,p3,c3,rfl,hx,ht,he⟩:=hst;unfold strV at hc;obtain⟨s0,hs0⟩:∃s,CE (l.take i)=s:=⟨_,rfl⟩;obtain⟨d0,hd0⟩:∃s,DA (l.take i)=s:=⟨_,rfl⟩;rw[hs0]at htk hdl0;rw[hd0]at hdt hdl0;rw[hs0,hd0];have x0:wr.cell? ⟨g,o+i * 12,none⟩=some (.int .i64 k):=hc 0 _ rfl;have x1:=hc 1 _ rfl;have x2:=hc 2 _ rfl;have x3:=hc 3 _ rfl;have x4:=hc 4 _ rfl;have x5:=hc 5 _ rfl;have x6:=hc 6 _ rfl;have x7:=hc 7 _ rfl;have x8:=hc 8 _ rfl;have x9:=hc 9 _ rfl;have x10:=hc 10 _ rfl;have x11:=hc 11 _ rfl;obtain⟨W,C,hW,hC,hcb,hkc,hsc⟩:=BD wr (.cells #[.int .i64 k,.string ⟨nm.toArray⟩,.int .i64 sz,.int .i64 op,.string ⟨val.toArray⟩,.string ⟨into.toArray⟩,.string ⟨cont.toArray⟩,.slice p1 xs.length c1,.slice p2 thn.length c2,.slice p3 els.length c3,.int .i64 ln,.int .i64 col] TSm);have HX:=hid (hx.keep hkc fun _ _ e=>e);have HT:=hid (ht.keep hkc fun _ _ e=>e);have HE:=hid (he.keep hkc fun _ _ e=>e);have HWT:=hid (HIH.out thn (by omega));have HWE:=hid (HIH.out els (by omega));have HB:=hid hcb;have HKC:=hid (hk.trans hkc);have hxl:=len_size xs;have hxd:=deepL_le xs;have htd:=stsDeep_le thn;have hed:=stsDeep_le els;have HSZ:=hid (show s0+DU xs+CE thn+CE els+1≤1099511627776 by have:=HBD.out;omega);have HDP:=hid (And.intro hxl (And.intro hxd (And.intro htd (And.intro hed hdl0))));have HTK:=hid htk;have HDT:=hid hdt;obtain⟨lx,hlx⟩:∃n,xs.length=n:=⟨_,rfl⟩;obtain⟨n0,n1,n2,n3,n4,n5,n6,n7,n8,n9,n10,n11⟩:=BK hcb;clear hc hx ht he hk hkc hsc hcb hme htk hdt hle hdl hdl0 hs0 hd0 hss hsd hxl hxd htd hed hlx;go_upto_region 4 with fail;rw[←hW,←hC];clear hW hC x0 x1 x2 x3 x4 x5 x6 x7 x8 x9 x10 x11;go_wp2_with fail;go_loopw [2,6,24] (fun v2 v6 v24 wx=>∃j:Nat,v2=.int .i64 ((s0+DU (xs.take j):Nat):Int)∧v6=.int .i64 (deepL (xs.take j))∧v24=.int .i64 j∧j≤xs.length∧BA (fun _=>False) W wx) (fun _ _ v _=>xs.length - (intOf v).toNat)
   case atStart=>exact⟨0,by simp[DU],rfl,rfl,Nat.zero_le _,BA.refl _ _⟩
   case round=>
    obtain⟨j,rfl,rfl,rfl,hj,hk⟩:=hrel;have HKX:=hid hk;by_cases hjl:j<xs.length
    ·have hjli:(j:Int)<xs.length:=by omega
     have hj0:(0:Int)≤j:=by omega
     have hWj:IntKind.i64.wrap ((j:Int)+1)=(j:Int)+1:=IntWalk.i64_in _ (by have:=HDP.out.1;have:=HSZ.out;omega);obtain⟨g,o,vs,hp,hc,hex⟩:=kids_get (HX.out.keep hk fun _ _ e=>e) j hjl;subst hp;rw[Nat.zero_add]at hc;obtain⟨yk,yo,yn,yS,yp,ym,yc,yl,ycl,rfl⟩:=DH hex;have x0:wr.cell? ⟨g,o+j * 7,none⟩=some (.int .i64 yk):=hc 0 _ rfl;have x1:=hc 1 _ rfl;have x2:=hc 2 _ rfl;have x3:=hc 3 _ rfl;have x4:=hc 4 _ rfl;have x5:=hc 5 _ rfl;have x6:=hc 6 _ rfl;obtain⟨W2,C2,hW,hC,hcb,hkc,hsc⟩:=BD wr (.cells #[.int .i64 yk,.int .i64 yo,.int .i64 yn,.string yS,.slice yp ym yc,.int .i64 yl,.int .i64 ycl] TEx);have hme:=size_mem hjl;have HCA:=hid (weigh_any 1099511627776 xs[j] (by have:=HSZ.out;omega) (Nat.le_refl _) W2 S _ (hex.keep hkc fun _ _ e=>e));have HKC2:=hid hkc;have hst:=sizeL_take hjl;have hdt:=deepL_take hjl;have hle:=sizeL_le (l:=xs) (j+1);obtain⟨s1,hs1⟩:∃s,exSize xs[j]=s:=⟨_,rfl⟩;obtain⟨d1,hd1⟩:∃s,exDeep xs[j]=s:=⟨_,rfl⟩;obtain⟨t0,ht0⟩:∃s,s0+DU (xs.take j)=s:=⟨_,rfl⟩;obtain⟨e0,he0⟩:∃s,deepL (xs.take j)=s:=⟨_,rfl⟩;rw[hs1]at hst;rw[hd1,he0]at hdt;rw[hs1,hd1]at HCA;rw[ht0,he0];have hWs:IntKind.i64.wrap ((t0:Int)+s1)=(t0:Int)+s1:=IntWalk.i64_in _ (by have:=HSZ.out;omega);have HST:=hid (show s0+DU (xs.take (j+1))=t0+s1 by omega);have HDT2:=hid hdt;obtain⟨m0,m1,m2,m3,m4,m5,m6,-⟩:=blk7 hcb;clear hc hex hk hsc hcb hme hst hdt hle hs1 hd1 ht0 he0 hkc;go_upto_region 8 with fail;rw[←hW,←hC];clear hW hC x0 x1 x2 x3 x4 x5 x6;go_wp2_with (go_at_call 98;refine HCA.out.mono ?_;rintro e w5 ⟨rfl,hk5⟩;have HK5:=hid hk5;clear hk5);refine⟨⟨j+1,by rw[HST.out];simp,?_,by simp,by omega,(HKX.out.trans HKC2.out).trans HK5.out⟩,by simp only[intOf];omega⟩;rw[HDT2.out];show Value.int _ _=_
     congr 1
     omega
    ·have hnl:¬(j:Int)<xs.length:=by omega
     have e:j=xs.length:=by omega
     rw[e,List.take_length];have hb0:=hk.blk HB.out;obtain⟨n0,n1,n2,n3,n4,n5,n6,n7,n8,n9,n10,n11⟩:=BK hb0;clear e hb0;obtain⟨t0,ht0⟩:∃s,s0+DU xs=s:=⟨_,rfl⟩;obtain⟨e0,he0⟩:∃s,deepL xs=s:=⟨_,rfl⟩;rw[ht0,he0];have HSZ2:=hid (show t0+(CE thn+CE els)+1≤1099511627776∧e0≤t0 by have:=HSZ.out;have:=HDP.out;omega);have HTT:=hid (And.intro ht0 he0);obtain⟨W3,D,hW3,hD,hbd,hkd,hsd⟩:=BD wr (.cells #[.slice p2 thn.length c2,.slice p3 els.length c3] TSs);have HBD2:=hid hbd;have HKB:=hid (hk.trans hkd);clear hk hbd hkd hsd ht0 he0;go_wp2_with fail;rw[←hW3,←hD];clear hW3 hD n0 n1 n2 n3 n4 n5 n6 n7 n8 n9 n10 n11;go_loopw [2,6,46] (fun v2 v6 v46 wy=>∃j:Nat,v2=.int .i64 ((t0+sz2 thn els j:Nat):Int)∧v6=.int .i64 (dp2 thn els e0 j)∧v46=.int .i64 j∧j≤2∧BA (fun _=>False) W3 wy) (fun _ _ v _=>2 - (intOf v).toNat)
     case atStart=>exact⟨0,rfl,rfl,rfl,by omega,BA.refl _ _⟩
     case round=>
      obtain⟨j,rfl,rfl,rfl,hj,hk⟩:=hrel;have HKX:=hid hk;by_cases j0:j=0
      ·subst j0;have HCA:=hid (HWT.out wr S p2 c2 (HT.out.keep (HKB.out.trans hk) fun _ _ e=>e));have hy:=hk.blk HBD2.out;obtain⟨y0,y1⟩:=blk2 hy;obtain⟨z1,hz1⟩:∃s,CE thn=s:=⟨_,rfl⟩;obtain⟨e1,he1⟩:∃s,DA thn=s:=⟨_,rfl⟩;rw[hz1,he1]at HCA;obtain⟨t1,ht1⟩:∃s,t0+sz2 thn els 0=s:=⟨_,rfl⟩;obtain⟨f1,hf1⟩:∃s,dp2 thn els e0 0=s:=⟨_,rfl⟩;rw[ht1,hf1];have HST:=hid (show t0+sz2 thn els (0+1)=t1+z1 by rw[←ht1,←hz1];simp only[sz2];omega);have HDT2:=hid (show dp2 thn els e0 (0+1)=max f1 e1 by rw[←hf1,←he1];rfl);have hWs:IntKind.i64.wrap ((t1:Int)+z1)=(t1:Int)+z1:=IntWalk.i64_in _ (by have h:=HSZ2.out;have h2:=HST.out;simp only[sz2]at h2;omega);clear hk hy hz1 he1 ht1 hf1;go_wp2_with (go_at_call 83;refine HCA.out.mono ?_;rintro e w5 ⟨rfl,hk5⟩;have HK5:=hid hk5;clear hk5);refine⟨⟨0+1,by rw[HST.out];simp,?_,by simp,by omega,HKX.out.trans HK5.out⟩,by simp only[intOf];omega⟩;rw[HDT2.out];show Value.int _ _=_
       congr 1
       omega
      ·by_cases j1:j=1
       ·subst j1;have HCA:=hid (HWE.out wr S p3 c3 (HE.out.keep (HKB.out.trans hk) fun _ _ e=>e));have hy:=hk.blk HBD2.out;obtain⟨y0,y1⟩:=blk2 hy;obtain⟨z1,hz1⟩:∃s,CE els=s:=⟨_,rfl⟩;obtain⟨e1,he1⟩:∃s,DA els=s:=⟨_,rfl⟩;rw[hz1,he1]at HCA;obtain⟨t1,ht1⟩:∃s,t0+sz2 thn els 1=s:=⟨_,rfl⟩;obtain⟨f1,hf1⟩:∃s,dp2 thn els e0 1=s:=⟨_,rfl⟩;rw[ht1,hf1];have HST:=hid (show t0+sz2 thn els (1+1)=t1+z1 by rw[←ht1,←hz1];simp only[sz2];omega);have HDT2:=hid (show dp2 thn els e0 (1+1)=max f1 e1 by rw[←hf1,←he1];rfl);have hWs:IntKind.i64.wrap ((t1:Int)+z1)=(t1:Int)+z1:=IntWalk.i64_in _ (by have h:=HSZ2.out;have h2:=HST.out;simp only[sz2]at h2;omega);clear hk hy hz1 he1 ht1 hf1;go_wp2_with (go_at_call 83;refine HCA.out.mono ?_;rintro e w5 ⟨rfl,hk5⟩;have HK5:=hid hk5;clear hk5);refine⟨⟨1+1,by rw[HST.out];simp,?_,by simp,by omega,HKX.out.trans HK5.out⟩,by simp only[intOf];omega⟩;rw[HDT2.out];show Value.int _ _=_
        congr 1
        omega
       ·have j2:j=2:=by omega
        subst j2;have hd9:=HDP.out;have hw1:IntKind.i64.wrap (((t0+sz2 thn els 2:Nat):Int)+1)=((t0+sz2 thn els 2:Nat):Int)+1:=IntWalk.i64_in _ (by have:=HSZ2.out;simp only[sz2];omega);have hw2:IntKind.i64.wrap (((dp2 thn els e0 2:Nat):Int)+1)=((dp2 thn els e0 2:Nat):Int)+1:=IntWalk.i64_in _ (by have:=HSZ2.out;simp only[dp2];omega);have HST:=hid (show CE (l.take (i+1))=(t0+sz2 thn els 2)+1 by rw[HTK.out,←HTT.out.1];simp only[sz2];omega);have HDT3:=hid (show DA (l.take (i+1))=max d0 (dp2 thn els e0 2+1) by rw[HDT.out,←HTT.out.2];simp only[dp2]);obtain⟨z9,hz9⟩:∃s,t0+sz2 thn els 2=s:=⟨_,rfl⟩;obtain⟨f9,hf9⟩:∃s,dp2 thn els e0 2=s:=⟨_,rfl⟩;rw[hz9]at hw1 HST ⊢;rw[hf9]at hw2 HDT3 ⊢;clear hk hd9 hz9 hf9;go_wp2_with fail;refine⟨⟨i+1,by rw[HST.out];simp,?_,by simp,by omega,(HKC.out.trans HKB.out).trans HKX.out⟩,by simp only[intOf];omega⟩;rw[HDT3.out];show Value.int _ _=_
        congr 1
        omega
  ·have hnl:¬(i:Int)<l.length:=by omega
   have e:i=l.length:=by omega
   rw[e,List.take_length];clear hk e;go_wp2_with fail
   go_ret2
   exact⟨rfl,HK.out⟩
theorem weighs_any (l:List St)(hb:CE l≤1099511627776):Weighs l:=by
 induction h:CE l using Nat.strongRecOn generalizing l with
 |_ n ih=>exact weighs_step l hb fun m hm=>ih _ (by omega) m (by omega) rfl
inductive Gs where
 |mk (kind:Int) (name:List UInt8) (size op:Int) (value into cont:List UInt8) (exprs:List Gx) (thn els:List Gs) (line col:Int)
structure Gc where
 kind:Int
 name:List UInt8
 line:Int
 col:Int
structure Gp where
 pool:Int
 conts:List Gc
 threads:List (List Gs)
mutual
def SAt (w:World)(S:Nat→Prop):List Value→Gs→Prop
 |vs,.mk k nm sz op val into cont xs thn els l c=>∃p1 c1 p2 c2 p3 c3,vs=[.int .i64 k,strV nm,.int .i64 sz,.int .i64 op,strV val,strV into,strV cont,.slice p1 xs.length c1,.slice p2 thn.length c2,.slice p3 els.length c3,.int .i64 l,.int .i64 c]∧DC w S p1 0 xs∧CF w S p2 0 thn∧CF w S p3 0 els
def CF (w:World)(S:Nat→Prop)(p:Option Addr):Nat→List Gs→Prop
 |_,[]=>True
 |i,x::l=>(∃g o vs,p=some ⟨g,o,none⟩∧S g∧(∀j v,vs[j]?=some v→w.cell? ⟨g,o+i * 12+j,none⟩=some v)∧SAt w S vs x)∧CF w S p (i+1) l
end
theorem s_form {w:World}{S:Nat→Prop}{vs:List Value}{x:Gs}(h:SAt w S vs x):∃a n b c s1 s2 s3 p1 m1 c1 p2 m2 c2 p3 m3 c3 l cl,vs=[.int .i64 a,.string n,.int .i64 b,.int .i64 c,.string s1,.string s2,.string s3,.slice p1 m1 c1,.slice p2 m2 c2,.slice p3 m3 c3,.int .i64 l,.int .i64 cl]:=by
 cases x with
 | mk k nm sz op val into cont xs thn els l c=>
  unfold SAt at h;obtain⟨p1,c1,p2,c2,p3,c3,h1,-⟩:=h;exact⟨_,_,_,_,_,_,_,_,_,_,_,_,_,_,_,_,_,_,h1⟩
mutual
theorem SAt.keepS {w w':World}{S S':Nat→Prop}(hk:∀b o v,S b→w.cell? ⟨b,o,none⟩=some v→w'.cell? ⟨b,o,none⟩=some v∧S' b):∀{vs:List Value}{e:Gs},SAt w S vs e→SAt w' S' vs e
 | vs,.mk k nm sz op val into cont xs thn els l c,h=>by
  unfold SAt at h ⊢;obtain⟨p1,c1,p2,c2,p3,c3,h1,h2,h3,h4⟩:=h;exact⟨p1,c1,p2,c2,p3,c3,h1,DC.keepS hk h2,CF.keepS hk h3,CF.keepS hk h4⟩
theorem CF.keepS {w w':World}{S S':Nat→Prop}(hk:∀b o v,S b→w.cell? ⟨b,o,none⟩=some v→w'.cell? ⟨b,o,none⟩=some v∧S' b):∀{p:Option Addr}{i:Nat}{l:List Gs},CF w S p i l→CF w' S' p i l
 |p,i,[],_=>by unfold CF;trivial
 | p,i,x::l,h=>by
  unfold CF at h ⊢;obtain⟨⟨g,o,vs,h1,h2,h3,h4⟩,h5⟩:=h
  have hv:∃v,vs[0]?=some v:=by
   obtain⟨_,_,_,_,_,_,_,_,_,_,_,_,_,_,_,_,_,_,h6⟩:=s_form h4;exact⟨_,by rw[h6];rfl⟩
  obtain⟨v0,hv0⟩:=hv;exact⟨⟨g,o,vs,h1,(hk g _ _ h2 (h3 0 v0 hv0)).2,fun j v hj=>(hk g _ _ h2 (h3 j v hj)).1,SAt.keepS hk h4⟩,CF.keepS hk h5⟩
end
theorem SAt.keep {E:Nat→Prop}{w w':World}{S:Nat→Prop}(k:BA E w w')(hE:∀b,S b→¬E b){vs:List Value}{e:Gs}(h:SAt w S vs e):SAt w' S vs e:=
 h.keepS fun b _ _ hb hc=>⟨k.cell hc (hE b hb),hb⟩
theorem SAt.inHeap {w:World}{S:Nat→Prop}{vs:List Value}{e:Gs}(h:SAt w S vs e):SAt w (fun b=>S b∧b<w.heap.size) vs e:=
 h.keepS fun _ _ _ hb hc=>⟨hc,hb,World.block_lt_of_cell? w _ hc⟩
theorem SAt.mono {w:World}{S S':Nat→Prop}(hS:∀b,S b→S' b){vs:List Value}{e:Gs}(h:SAt w S vs e):SAt w S' vs e:=
 h.keepS fun _ _ _ hb hc=>⟨hc,hS _ hb⟩
theorem CF.mono {w:World}{S S':Nat→Prop}(hS:∀b,S b→S' b){p:Option Addr}{i:Nat}{l:List Gs}(h:CF w S p i l):CF w S' p i l:=
 h.keepS fun _ _ _ hb hc=>⟨hc,hS _ hb⟩
theorem CF.keep {E:Nat→Prop}{w w':World}{S:Nat→Prop}(k:BA E w w')(hE:∀b,S b→¬E b){p:Option Addr}{i:Nat}{l:List Gs}(h:CF w S p i l):CF w' S p i l:=
 h.keepS fun b _ _ hb hc=>⟨k.cell hc (hE b hb),hb⟩
theorem skids_get {w:World}{S:Nat→Prop}{p:Option Addr}:∀{l:List Gs}{j:Nat},CF w S p j l→∀i (h:i<l.length),∃g o vs,p=some ⟨g,o,none⟩∧(∀k v,vs[k]?=some v→w.cell? ⟨g,o+(j+i) * 12+k,none⟩=some v)∧SAt w S vs l[i]∧S g
 | x::l,j,h,0,_=>by
  unfold CF at h;obtain⟨⟨g,o,vs,h1,h2,h3,h4⟩,_⟩:=h;exact⟨g,o,vs,h1,h3,h4,h2⟩
 | x::l,j,h,i+1,hi=>by
  unfold CF at h;obtain⟨g,o,vs,h1,h3,h4,h5⟩:=skids_get h.2 i (by simpa using hi);refine⟨g,o,vs,h1,fun k v hk=>?_,h4,h5⟩;rw[show j+(i+1)=j+1+i by omega];exact h3 k v hk
 |[],_,_,i,hi=>absurd hi (by simp)
theorem skids_of {w:World}{S:Nat→Prop}{p:Option Addr}:∀(l:List Gs) (j:Nat),(∀i (h:i<l.length),∃g o vs,p=some ⟨g,o,none⟩∧S g∧(∀k v,vs[k]?=some v→w.cell? ⟨g,o+(j+i) * 12+k,none⟩=some v)∧SAt w S vs l[i])→CF w S p j l
 |[],_,_=>by unfold CF;trivial
 | x::l,j,h=>by
  unfold CF;refine⟨?_,skids_of l (j+1) fun i hi=>?_⟩
  ·obtain⟨g,o,vs,h1,h2,h3,h4⟩:=h 0 (by simp);exact⟨g,o,vs,h1,h2,h3,h4⟩
  ·obtain⟨g,o,vs,h1,h2,h3,h4⟩:=h (i+1) (by simpa using hi);refine⟨g,o,vs,h1,h2,fun k v hk=>?_,by simpa using h4⟩;rw[show j+1+i=j+(i+1) by omega];exact h3 k v hk
mutual
def CO:Gs→Nat
 |.mk _ _ _ _ _ _ _ xs thn els _ _=>CV xs+BI thn+BI els+1
def BI:List Gs→Nat
 |[]=>0
 |s::l=>CO s+BI l
end
mutual
def sDeep:Gs→Nat
 |.mk _ _ _ _ _ _ _ xs thn els _ _=>max (max (gDeepL xs) (sDeepL thn)) (sDeepL els)+1
def sDeepL:List Gs→Nat
 |[]=>0
 |s::l=>max (sDeep s) (sDeepL l)
end
theorem sSizeL_take {l:List Gs}{i:Nat}(h:i<l.length):BI (l.take (i+1))=BI (l.take i)+CO l[i]:=by
 induction l generalizing i with
 |nil=>cases h
 | cons x l ih=>
  cases i with
  |zero=>simp[BI]
  | succ i=>
   have h':i<l.length:=by simpa using h
   simp only[List.take_succ_cons,BI,List.getElem_cons_succ];rw[ih h'];omega
theorem ssize_mem {l:List Gs}{i:Nat}(h:i<l.length):CO l[i]≤BI l:=by
 induction l generalizing i with
 |nil=>cases h
 | cons x l ih=>
  cases i with
  |zero=>simp[BI]
  | succ i=>
   have:=ih (i:=i) (by simpa using h);simp only[BI,List.getElem_cons_succ];omega
theorem sSizeL_le {l:List Gs}(i:Nat):BI (l.take i)≤BI l:=by
 induction l generalizing i with
 |nil=>simp[BI]
 | cons x l ih=>
  cases i with
  |zero=>simp[BI]
  | succ i=>
   have:=ih i;simp only[List.take_succ_cons,BI];omega
theorem slen_size:∀l:List Gs,l.length≤BI l
 |[]=>by simp
 | x::l=>by
  have h1:1≤CO x:=by cases x;unfold CO;omega
  have:=slen_size l;simp only[LC,BI];omega
mutual
def toS:St→Gs
 |.mk k nm sz op val into cont xs thn els l c=>.mk k nm sz op val into cont (toGL xs) (toSL thn) (toSL els) l c
def toSL:List St→List Gs
 |[]=>[]
 |x::l=>toS x::toSL l
end
theorem toSL_len:∀l:List St,(toSL l).length=l.length
 |[]=>rfl
 |x::l=>by unfold toSL;simp[toSL_len l]
mutual
theorem StAt.toS {w:World}{S:Nat→Prop}:∀{vs:List Value}{x:St},StAt w S vs x→SAt w S vs (toS x)
 | vs,.mk k nm sz op val into cont xs thn els l c,h=>by
  unfold StAt at h;obtain⟨p1,c1,p2,c2,p3,c3,h1,h2,h3,h4⟩:=h;unfold Go.Proofs.YtknnmidnodeanaaGreatDoor.toS SAt;exact⟨p1,c1,p2,c2,p3,c3,by rw[toGL_len,toSL_len,toSL_len];exact h1,CB.toG h2,CJ.toS h3,CJ.toS h4⟩
theorem CJ.toS {w:World}{S:Nat→Prop}:∀{p:Option Addr}{i:Nat}{l:List St},CJ w S p i l→CF w S p i (toSL l)
 |p,i,[],_=>by unfold toSL CF;trivial
 | p,i,x::l,h=>by
  unfold CJ at h;obtain⟨⟨g,o,vs,h1,h2,h3,h4⟩,h5⟩:=h;unfold toSL CF;exact⟨⟨g,o,vs,h1,h2,h3,StAt.toS h4⟩,CJ.toS h5⟩
end
def GCts (w:World)(S:Nat→Prop)(p:Option Addr)(l:List Gc):Prop:=∀i (h:i<l.length),∃g o,p=some ⟨g,o,none⟩∧S g∧
 w.cell? ⟨g,o+i * 4,none⟩=some (.int .i64 l[i].kind)∧w.cell? ⟨g,o+i * 4+1,none⟩=some (strV l[i].name)∧w.cell? ⟨g,o+i * 4+2,none⟩=some (.int .i64 l[i].line)∧w.cell? ⟨g,o+i * 4+3,none⟩=some (.int .i64 l[i].col)
def GThs (w:World)(S:Nat→Prop)(p:Option Addr)(l:List (List Gs)):Prop:=∀i (h:i<l.length),∃g o q c,p=some ⟨g,o,none⟩∧S g∧
 w.cell? ⟨g,o+i,none⟩=some (.slice q l[i].length c)∧CF w S q 0 l[i]
theorem GCts.keepS {w w':World}{S S':Nat→Prop}(hk:∀b o v,S b→w.cell? ⟨b,o,none⟩=some v→w'.cell? ⟨b,o,none⟩=some v∧S' b){p:Option Addr}{l:List Gc}(h:GCts w S p l):GCts w' S' p l:=fun i hi=>by
 obtain⟨g,o,h1,h2,h3,h4,h5,h6⟩:=h i hi;exact⟨g,o,h1,(hk _ _ _ h2 h3).2,(hk _ _ _ h2 h3).1,(hk _ _ _ h2 h4).1,(hk _ _ _ h2 h5).1,(hk _ _ _ h2 h6).1⟩
theorem GThs.keepS {w w':World}{S S':Nat→Prop}(hk:∀b o v,S b→w.cell? ⟨b,o,none⟩=some v→w'.cell? ⟨b,o,none⟩=some v∧S' b){p:Option Addr}{l:List (List Gs)}(h:GThs w S p l):GThs w' S' p l:=fun i hi=>by
 obtain⟨g,o,q,c,h1,h2,h3,h4⟩:=h i hi;exact⟨g,o,q,c,h1,(hk _ _ _ h2 h3).2,(hk _ _ _ h2 h3).1,h4.keepS hk⟩
theorem GCts.keep {E:Nat→Prop}{w w':World}{S:Nat→Prop}(k:BA E w w')(hE:∀b,S b→¬E b){p:Option Addr}{l:List Gc}(h:GCts w S p l):GCts w' S p l:=
 h.keepS fun b _ _ hb hc=>⟨k.cell hc (hE b hb),hb⟩
theorem GThs.keep {E:Nat→Prop}{w w':World}{S:Nat→Prop}(k:BA E w w')(hE:∀b,S b→¬E b){p:Option Addr}{l:List (List Gs)}(h:GThs w S p l):GThs w' S p l:=
 h.keepS fun b _ _ hb hc=>⟨k.cell hc (hE b hb),hb⟩
theorem GCts.mono {w:World}{S S':Nat→Prop}(hS:∀b,S b→S' b){p:Option Addr}{l:List Gc}(h:GCts w S p l):GCts w S' p l:=
 h.keepS fun _ _ _ hb hc=>⟨hc,hS _ hb⟩
theorem GThs.mono {w:World}{S S':Nat→Prop}(hS:∀b,S b→S' b){p:Option Addr}{l:List (List Gs)}(h:GThs w S p l):GThs w S' p l:=
 h.keepS fun _ _ _ hb hc=>⟨hc,hS _ hb⟩
def PAt (w:World)(S:Nat→Prop)(v:Value)(p:Gp):Prop:=∃p1 c1 p2 c2,v=.agg #[.int .i64 p.pool,.slice p1 p.conts.length c1,.slice p2 p.threads.length c2]∧GCts w S p1 p.conts∧GThs w S p2 p.threads
def toC (c:Ct):Gc:=⟨c.kind,c.name,c.line,c.col⟩
def toP (p:Pr):Gp:=⟨p.pool,p.conts.map toC,p.threads.map toSL⟩
open Go
structure Sc where
 vars:List (List UInt8)
 arrays:List (List UInt8×Int)
 calls:Nat
structure Fl where
 err:Int
 line:Int
 col:Int
deriving DecidableEq
def Fl.no:Fl:=⟨0,0,0⟩
def told (s:Sc)(nm:List UInt8):Nat:=if nm∈s.vars then 1 else if nm∈s.arrays.map (·.1) then 2 else 0
mutual
def xkF (s:Sc):Gx→Option Fl
 |.mk k _ _ nm l c kids=>if (k=2∧told s nm≠1)∨(k=3∧told s nm≠2) then some ⟨6,l,c⟩ else exFL s kids
def exFL (s:Sc):List Gx→Option Fl
 |[]=>none
 | x::l=>
  match xkF s x with
  |some f=>some f
  |none=>exFL s l
end
def CZ (cs:List Gc)(nm:List UInt8):Option Nat:=cs.findIdx? fun c=>c.name==nm
def fitsB (op kind:Int):Bool:=if op=1∨op=2 then kind==1 else if op=3∨op=4 then kind==2 else if op=5∨op=6∨op=7 then kind==3 else false
def DZ (cs:List Gc)(s:Sc)(k sz l c:Int)(nm:List UInt8):Except Fl Sc:=
 if told s nm≠0∨(CZ cs nm).isSome=true then .error ⟨8,l,c⟩
 else if k=1 then (if s.vars.length=16 then .error ⟨3,l,c⟩ else .ok { s with vars:=s.vars++[nm] })
 else if sz<1∨16<sz then .error ⟨2,l,c⟩
 else if s.arrays.length=4 then .error ⟨3,l,c⟩ else .ok { s with arrays:=s.arrays++[(nm,sz)] }
def clF (cs:List Gc)(s:Sc)(op l c:Int)(val into cont:List UInt8):Except Fl Sc:=
 match (CZ cs cont).bind fun i=>cs[i]? with
 |none=>.error ⟨6,l,c⟩
 | some q=>
  if fitsB op q.kind=false then .error ⟨2,l,c⟩
  else if (val≠[]∧told s val≠1)∨told s into≠1 then .error ⟨6,l,c⟩
  else if val=into then .error ⟨2,l,c⟩
  else .ok { s with calls:=s.calls+1 }
def stF (cs:List Gc)(s:Sc):Gs→Except Fl Sc
 | .mk k nm sz op val into cont xs _ _ l c=>
  match exFL s xs with
  |some f=>.error f
  | none=>
   if k=1∨k=2 then DZ cs s k sz l c nm
   else if k=3 then (if told s nm≠1 then .error ⟨6,l,c⟩ else .ok s)
   else if k=4 then (if told s nm≠2 then .error ⟨6,l,c⟩ else .ok s)
   else if k=9 then clF cs s op l c val into cont
   else .ok s
mutual
def flat:Gs→List Gs
 |.mk k nm sz op val into cont xs thn els l c=>.mk k nm sz op val into cont xs thn els l c::(CI thn++CI els)
def CI:List Gs→List Gs
 |[]=>[]
 |s::l=>flat s++CI l
end
def CK (cs:List Gc):Sc→List Gs→Except Fl Sc
 |s,[]=>.ok s
 | s,x::l=>
  match stF cs s x with
  |.error f=>.error f
  |.ok s'=>CK cs s' l
def thrF (cs:List Gc)(l:List Gs):Except Fl Sc:=CK cs ⟨[],[],0⟩ (CI l)
def contF (cs:List Gc):Nat→List Gc→Option Fl
 |_,[]=>none
 |i,c::l=>if (CZ cs c.name).getD 0<i then some ⟨8,c.line,c.col⟩ else contF cs (i+1) l
def DQ (cs:List Gc):List (List Gs)→Except Fl (List Sc)
 |[]=>.ok []
 | l::r=>
  match thrF cs l with
  |.error f=>.error f
  | .ok s=>
   match DQ cs r with
   |.error f=>.error f
   |.ok q=>.ok (s::q)
def DG:List (List St)→Nat
 |[]=>0
 |b::l=>CE b+DG l
def thsDeep:List (List St)→Nat
 |[]=>0
 |b::l=>max (DA b) (thsDeep l)
theorem thsSize_take {l:List (List St)}{i:Nat}(h:i<l.length):DG (l.take (i+1))=DG (l.take i)+CE l[i]:=by
 induction l generalizing i with
 |nil=>cases h
 | cons x l ih=>
  cases i with
  |zero=>simp[DG]
  | succ i=>
   have h':i<l.length:=by simpa using h
   simp only[List.take_succ_cons,DG,List.getElem_cons_succ];rw[ih h'];omega
theorem thsDeep_take {l:List (List St)}{i:Nat}(h:i<l.length):thsDeep (l.take (i+1))=max (thsDeep (l.take i)) (DA l[i]):=by
 induction l generalizing i with
 |nil=>cases h
 | cons x l ih=>
  cases i with
  |zero=>simp[thsDeep]
  | succ i=>
   have h':i<l.length:=by simpa using h
   simp only[List.take_succ_cons,thsDeep,List.getElem_cons_succ];rw[ih h'];omega
theorem thsSize_le {l:List (List St)}(i:Nat):DG (l.take i)≤DG l:=by
 induction l generalizing i with
 |nil=>simp[DG]
 | cons x l ih=>
  cases i with
  |zero=>simp[DG]
  | succ i=>
   have:=ih i;simp only[List.take_succ_cons,DG];omega
theorem ths_get {w:World}{S:Nat→Prop}{q:Option Addr}{l:List (List St)}(h:ThsAt w S q l)(i:Nat)(hi:i<l.length):∃g p c,q=some ⟨g,0,none⟩∧w.cell? ⟨g,i,none⟩=some (.slice p l[i].length c)∧CJ w S p 0 l[i]:=by
 obtain⟨sl,h1,h2,h3⟩:=h;rcases h2 with rfl|⟨g,e,-,hc⟩
 ·cases hi
 ·obtain⟨p,c,e1,e2⟩:=h3 i (by omega) hi;exact⟨g,p,c,e,hc i _ (by rw[←e1];exact List.getElem?_eq_getElem (by omega)),e2⟩
theorem size_any (ths:List (List St))(hb:DG ths≤1099511627776)(hl:ths.length≤1000000)(w:World)(S:Nat→Prop)(q:Option Addr)(d:Nat)(pool:Int)(p:Option Addr)(n c:Nat)(h:ThsAt w S q ths):
  Calls Tryz.prog 60 #[.agg #[.int .i64 pool,.slice p n c,.slice q ths.length d]] w fun e w'=>e=.returned (.int .i64 (DG ths))∧BA (fun _=>False) w w':=by
 obtain⟨V,B1,hV,hB1,hb1,hk1,hs1⟩:=BD w (.cells #[.int .i64 pool,.slice p n c,.slice q ths.length d] TPr);have HTH:=hid (h.keepS (w':=V) (S':=S) (fun b o v _ hc=>hk1.stay hc) fun b hb=>hb);have HB:=hid hb;have HL:=hid hl;have HK1:=hid hk1;obtain⟨n0,n1,n2,-⟩:=BS hb1;clear h hb hl hb1 hk1 hs1;go_enter Tryz.func60,Tryz.ntmps60;go_upto_region 1 with fail;rw[←hV,←hB1];clear hV hB1;go_wp2_with fail;go_loopw [2,10] (fun v2 v10 wr=>∃i:Nat,v2=.int .i64 (DG (ths.take i))∧v10=.int .i64 i∧i≤ths.length∧BA (fun _=>False) V wr) (fun _ v _=>ths.length - (intOf v).toNat)
 case atStart=>exact⟨0,rfl,rfl,Nat.zero_le _,BA.refl _ _⟩
 case round=>
  obtain⟨i,rfl,rfl,hi,hk⟩:=hrel;have HK:=hid hk;by_cases hlt:i<ths.length
  ·have hlti:(i:Int)<ths.length:=by omega
   have hi0:(0:Int)≤i:=by omega
   have hWi:IntKind.i64.wrap ((i:Int)+1)=(i:Int)+1:=IntWalk.i64_in _ (by have:=HL.out;omega);obtain⟨g,p',c',rfl,hc,hst⟩:=ths_get (HTH.out.keepS (w':=wr) (S':=S) (fun b o v _ hc=>hk.stay hc) fun b hb=>hb) i hlt;have htk:=thsSize_take hlt;have hle:=thsSize_le (l:=ths) (i+1);have hdt:=thsSize_take hlt;have HCA:=hid (weighs_any ths[i] (by have:=HB.out;omega) wr S p' c' hst);obtain⟨s1,hs1⟩:∃s,CE ths[i]=s:=⟨_,rfl⟩;obtain⟨d1,hd1⟩:∃s,DA ths[i]=s:=⟨_,rfl⟩;obtain⟨s0,hs0⟩:∃s,DG (ths.take i)=s:=⟨_,rfl⟩;rw[hs1,hd1]at HCA;rw[hs1,hs0]at hdt;rw[hs1]at htk;rw[hs0];have hWs:IntKind.i64.wrap ((s0:Int)+s1)=(s0:Int)+s1:=IntWalk.i64_in _ (by have:=HB.out;omega);have HST:=hid hdt;clear hst hk htk hdt hle hs1 hd1 hs0;go_wp2_with (go_at_call 83;refine HCA.out.mono ?_;rintro e w5 ⟨rfl,hk5⟩;have HK5:=hid hk5;clear hk5);refine⟨⟨i+1,?_,by simp,by omega,HK.out.trans HK5.out⟩,by simp only[intOf];omega⟩;rw[HST.out];show Value.int _ _=_
   congr 1
   all_goals omega
  ·have hnl:¬(i:Int)<ths.length:=by omega
   have e:i=ths.length:=by omega
   rw[e,List.take_length];clear hk e;go_wp2_with fail;go_ret;exact⟨rfl,HK1.out.trans HK.out⟩
theorem deep_any (ths:List (List St))(hb:DG ths≤1099511627776)(hl:ths.length≤1000000)(w:World)(S:Nat→Prop)(q:Option Addr)(d:Nat)(pool:Int)(p:Option Addr)(n c:Nat)(h:ThsAt w S q ths):
  Calls Tryz.prog 61 #[.agg #[.int .i64 pool,.slice p n c,.slice q ths.length d]] w fun e w'=>e=.returned (.int .i64 (thsDeep ths))∧BA (fun _=>False) w w':=by
 obtain⟨V,B1,hV,hB1,hb1,hk1,hs1⟩:=BD w (.cells #[.int .i64 pool,.slice p n c,.slice q ths.length d] TPr);have HTH:=hid (h.keepS (w':=V) (S':=S) (fun b o v _ hc=>hk1.stay hc) fun b hb=>hb);have HB:=hid hb;have HL:=hid hl;have HK1:=hid hk1;obtain⟨n0,n1,n2,-⟩:=BS hb1;clear h hb hl hb1 hk1 hs1;go_enter Tryz.func61,Tryz.ntmps61;go_upto_region 1 with fail;rw[←hV,←hB1];clear hV hB1;go_wp2_with fail;go_loopw [2,10] (fun v2 v10 wr=>∃i:Nat,v2=.int .i64 (thsDeep (ths.take i))∧v10=.int .i64 i∧i≤ths.length∧BA (fun _=>False) V wr) (fun _ v _=>ths.length - (intOf v).toNat)
 case atStart=>exact⟨0,rfl,rfl,Nat.zero_le _,BA.refl _ _⟩
 case round=>
  obtain⟨i,rfl,rfl,hi,hk⟩:=hrel;have HK:=hid hk;by_cases hlt:i<ths.length
  ·have hlti:(i:Int)<ths.length:=by omega
   have hi0:(0:Int)≤i:=by omega
   have hWi:IntKind.i64.wrap ((i:Int)+1)=(i:Int)+1:=IntWalk.i64_in _ (by have:=HL.out;omega);obtain⟨g,p',c',rfl,hc,hst⟩:=ths_get (HTH.out.keepS (w':=wr) (S':=S) (fun b o v _ hc=>hk.stay hc) fun b hb=>hb) i hlt;have htk:=thsSize_take hlt;have hle:=thsSize_le (l:=ths) (i+1);have hdt:=thsDeep_take hlt;have HCA:=hid (weighs_any ths[i] (by have:=HB.out;omega) wr S p' c' hst);obtain⟨s1,hs1⟩:∃s,CE ths[i]=s:=⟨_,rfl⟩;obtain⟨d1,hd1⟩:∃s,DA ths[i]=s:=⟨_,rfl⟩;obtain⟨s0,hs0⟩:∃s,thsDeep (ths.take i)=s:=⟨_,rfl⟩;rw[hs1,hd1]at HCA;rw[hd1,hs0]at hdt;rw[hs1]at htk;rw[hs0]
   skip
   have HST:=hid hdt;clear hst hk htk hdt hle hs1 hd1 hs0;go_wp2_with (go_at_call 83;refine HCA.out.mono ?_;rintro e w5 ⟨rfl,hk5⟩;have HK5:=hid hk5;clear hk5);refine⟨⟨i+1,?_,by simp,by omega,HK.out.trans HK5.out⟩,by simp only[intOf];omega⟩;rw[HST.out];show Value.int _ _=_
   congr 1
   all_goals omega
  ·have hnl:¬(i:Int)<ths.length:=by omega
   have e:i=ths.length:=by omega
   rw[e,List.take_length];clear hk e;go_wp2_with fail;go_ret;exact⟨rfl,HK1.out.trans HK.out⟩
def PrgAt (w:World)(S:Nat→Prop)(vs:List Value)(pr:Pr):Prop:=∃p c q d,vs=[.int .i64 pr.pool,.slice p pr.conts.length c,.slice q pr.threads.length d]∧CtsAt w S p pr.conts∧ThsAt w S q pr.threads
theorem PrgAt.keep {E:Nat→Prop}{w w':World}{S:Nat→Prop}(k:BA E w w')(hE:∀b,S b→¬E b){vs:List Value}{e:Pr}(h:PrgAt w S vs e):PrgAt w' S vs e:=by
 obtain⟨p,c,q,d,h1,h2,h3⟩:=h;exact⟨p,c,q,d,h1,h2.keepS (fun b _ _ hb hc=>k.cell hc (hE b hb)) fun b hb=>hb,h3.keepS (fun b _ _ hb hc=>k.cell hc (hE b hb)) fun b hb=>hb⟩
theorem PrgAt.mono {w:World}{S S':Nat→Prop}(hS:∀b,S b→S' b){vs:List Value}{e:Pr}(h:PrgAt w S vs e):PrgAt w S' vs e:=by
 obtain⟨p,c,q,d,h1,h2,h3⟩:=h;exact⟨p,c,q,d,h1,h2.keepS (fun _ _ _ _ hc=>hc) hS,h3.keepS (fun _ _ _ _ hc=>hc) hS⟩
theorem prg_form {w:World}{S:Nat→Prop}{vs:List Value}{pr:Pr}(h:PrgAt w S vs pr):∃n p k c q m d,vs=[.int .i64 n,.slice p k c,.slice q m d]:=by
 obtain⟨p,c,q,d,h1,-⟩:=h;exact⟨_,_,_,_,_,_,_,h1⟩
def ReadsP (R el ec:Nat)(its:List Item)(pr:Pr):Prop:=∀(w:World),BG w R its el ec→
  Calls Tryz.prog 58 #[rdV R] w fun e w'=>∃vs,e=.returned (.agg vs.toArray)∧PrgAt w' (fun b=>w.heap.size≤b) vs pr∧BA (fun b=>b=R) w w'
theorem weighP_any (pr:Pr)(hb:DG pr.threads≤1099511627776)(hl:pr.threads.length≤1000000)(w:World)(S:Nat→Prop)(vs:List Value)(h:PrgAt w S vs pr):
  Calls Tryz.prog 59 #[.agg vs.toArray] w fun e w'=>e=.returned (.tuple #[.int .i64 (DG pr.threads),.int .i64 (thsDeep pr.threads)])∧BA (fun _=>False) w w':=by
 obtain⟨p,c,q,d,rfl,-,hth⟩:=h;obtain⟨V,B1,hV,hB1,hb1,hk1,hs1⟩:=BD w (.cells #[.int .i64 pr.pool,.slice p pr.conts.length c,.slice q pr.threads.length d] TPr);have HTH:=hid (fun W (k:BA (fun _=>False) V W)=>hth.keepS (w':=W) (S':=S) (fun b o v _ hc=>(hk1.trans k).stay hc) fun b hb=>hb);have HSI:=hid (fun W (k:BA (fun _=>False) V W)=>size_any pr.threads hb hl W S q d pr.pool p pr.conts.length c (HTH.out W k));have HDE:=hid (fun W (k:BA (fun _=>False) V W)=>deep_any pr.threads hb hl W S q d pr.pool p pr.conts.length c (HTH.out W k));have HB1:=hid hb1;have HK1:=hid hk1;clear hth hb hl hb1 hk1 hs1;go_enter Tryz.func59,Tryz.ntmps59;go_upto_region 1 with fail;rw[←hV,←hB1];clear hV hB1;have bb:=fun w' (h:BA (fun _=>False) V.drew w')=>BS (((BA.drew _ V).trans h).blk HB1.out);refine CN (by kernel_rfl) (fun i=>[[],[0],[],[0,1,2],[0,1,2,3],[0,1,2,3,4]].getD i []) (fun _=>[]) (fun _=>[]) [] (by kernel_rfl) (fun i=>if i=1 then some (BN (.int .i64 (DG pr.threads))) else if i=3 then some (BN (.int .i64 (thsDeep pr.threads))) else none) ?_;apply BC rfl rfl
 ·intro w' hk;obtain⟨y0,y1,y2,-⟩:=bb w' hk;go_simp;with_reducible rfl
 simp only[Act.put,LS];refine BE rfl rfl (BR 60 #[.agg #[.int .i64 pr.pool,.slice p pr.conts.length c,.slice q pr.threads.length d]] (fun w=>by kernel_rfl) ⟨default,trivial⟩ (fun g _=>BX _) fun w' hk _ _=>(HSI.out w' ((BA.drew _ V).trans hk)).mono ?_) fun gs _=>?_
 ·rintro e w'' ⟨rfl,hq⟩;exact⟨default,trivial,rfl,hq.mono fun _ e=>e.elim,fun b h=>h.elim,trivial⟩
 simp only[BN,Act.put,LS];apply BC rfl rfl
 ·intro w' hk;obtain⟨y0,y1,y2,-⟩:=bb w' hk;go_simp;with_reducible rfl
 simp only[Act.put,LS];refine BE rfl rfl (BR 61 #[.agg #[.int .i64 pr.pool,.slice p pr.conts.length c,.slice q pr.threads.length d]] (fun w=>by kernel_rfl) ⟨default,trivial⟩ (fun g _=>BX _) fun w' hk _ _=>(HDE.out w' ((BA.drew _ V).trans hk)).mono ?_) fun gs _=>?_
 ·rintro e w'' ⟨rfl,hq⟩;exact⟨default,trivial,rfl,hq.mono fun _ e=>e.elim,fun b h=>h.elim,trivial⟩
 simp only[Act.put,LS]
 repeat refine BC rfl rfl (fun w' hk=>by go_simp;with_reducible rfl) ?_;simp only[Act.put,LS]
 refine BP ?_;intro w9 hk9 _ _;have HFIN:=hid (HK1.out.trans ((BA.drew (fun _=>False) V).trans hk9));clear bb hk9;go_wp2_with fail
 go_ret2
 exact⟨rfl,HFIN.out⟩
theorem catch_idleP (a b:Addr)(w:World):
  CallsD Tryz.prog 74 #[.pointer (some a),.pointer (some b)] .returning w fun e u' w'=>e=.returned (.tuple #[])∧u'=.returning∧w'=w:=by
 refine callsD_of_wpS Tryz.func74 rfl fun c₀ cs hu=>?_;apply wpS_seq;apply wpS_region;simp[wpOpsS,go_sem,recoverD,hu,Tryz.ntmps74,Exit.thenS];refine wpS_of_wp ?_;simp only[Array.setIfInBounds,Array.replicate];go_wp2_with fail
 cases c₀
 simp_all [bodyPostS,results,Tryz.results74]
end Go.Proofs.YtknnmidnodeanaaGreatDoor
