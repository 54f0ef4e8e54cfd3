/- Joined texts of this work: Sa7, Gs, Sa8. -/
import Derived.Test.YtomlffobbkcmdaaGreatDoorJq20
import Derived.Test.YtomlffobbkcmdaaGreatDoorJq12
/-
  Package parse: weighAll.
-/
namespace Go.Proofs.YtomlffobbkcmdaaGreatDoor
open Go Go.RowKit Own
open Go.Lib (hid)
mutual
def stSize:St→Nat
 | .mk _ _ _ _ _ _ _ xs thn els _ _=>sizeL xs+stsSize thn+stsSize els+1
def stsSize:List St→Nat
 | []=>0
 | s::l=>stSize s+stsSize l
end
mutual
def stDeep:St→Nat
 | .mk _ _ _ _ _ _ _ xs thn els _ _=>max (max (deepL xs) (stsDeep thn)) (stsDeep els)+1
def stsDeep:List St→Nat
 | []=>0
 | s::l=>max (stDeep s) (stsDeep l)
end
theorem stsSize_take {l:List St} {i:Nat} (h:i<l.length):stsSize (l.take (i+1))=stsSize (l.take i)+stSize l[i]:=by
 induction l generalizing i with
 | nil=>cases h
 | cons x l ih=>
  cases i with
  | zero=>simp [stsSize]
  | succ i=>
   have h':i<l.length:=by simpa using h
   simp only [List.take_succ_cons,stsSize,List.getElem_cons_succ]
   rw [ih h']
   omega
theorem stsDeep_take {l:List St} {i:Nat} (h:i<l.length):stsDeep (l.take (i+1))=max (stsDeep (l.take i)) (stDeep l[i]):=by
 induction l generalizing i with
 | nil=>cases h
 | cons x l ih=>
  cases i with
  | zero=>simp [stsDeep]
  | succ i=>
   have h':i<l.length:=by simpa using h
   simp only [List.take_succ_cons,stsDeep,List.getElem_cons_succ]
   rw [ih h']
   omega
theorem stsSize_mem {l:List St} {i:Nat} (h:i<l.length):stSize l[i]≤stsSize l:=by
 induction l generalizing i with
 | nil=>cases h
 | cons x l ih=>
  cases i with
  | zero=>simp [stsSize]
  | succ i=>
   have:=ih (i:=i) (by simpa using h)
   simp only [stsSize,List.getElem_cons_succ]
   omega
theorem stsSize_le {l:List St} (i:Nat):stsSize (l.take i)≤stsSize l:=by
 induction l generalizing i with
 | nil=>simp [stsSize]
 | cons x l ih=>
  cases i with
  | zero=>simp [stsSize]
  | succ i=>
   have:=ih i
   simp only [List.take_succ_cons,stsSize]
   omega
theorem stsLen:∀ l:List St,l.length≤stsSize l
 | []=>Nat.zero_le _
 | x::l=>by
  have:=stsLen l
  have h1:1≤stSize x:=by cases x;unfold stSize;omega
  unfold stsSize
  rw [List.length_cons];omega
mutual
theorem stDeep_le:∀ s:St,stDeep s≤stSize s
 | .mk _ _ _ _ _ _ _ xs thn els _ _=>by
  have h1:=deepL_le xs
  have h2:=stsDeep_le thn
  have h3:=stsDeep_le els
  unfold stDeep stSize
  omega
theorem stsDeep_le:∀ l:List St,stsDeep l≤stsSize l
 | []=>Nat.le_refl _
 | x::l=>by
  have h1:=stDeep_le x
  have h2:=stsDeep_le l
  unfold stsDeep stsSize
  omega
end
theorem sts_get {w:World} {S:Nat→Prop} {p:Option Addr}:∀ {l:List St} {j:Nat},StsAt w S p j l→∀ i (h:i<l.length),∃ g o vs,p=some ⟨g,o,none⟩∧(∀ k v,vs[k]?=some v→w.cell? ⟨g,o+(j+i) * 12+k,none⟩=some v)∧StAt w S vs l[i]
 | x::l,j,h,0,_=>by
  unfold StsAt at h
  obtain ⟨⟨g,o,vs,h1,_,h3,h4⟩,_⟩:=h
  exact ⟨g,o,vs,h1,h3,h4⟩
 | x::l,j,h,i+1,hi=>by
  unfold StsAt at h
  obtain ⟨g,o,vs,h1,h3,h4⟩:=sts_get h.2 i (by simpa using hi)
  refine ⟨g,o,vs,h1,fun k v hk=>?_,h4⟩
  rw [show j+(i+1)=j+1+i by omega]
  exact h3 k v hk
 | [],_,_,i,hi=>absurd hi (by simp)
def sz2 (thn els:List St):Nat→Nat
 | 0=>0
 | 1=>stsSize thn
 | _=>stsSize thn+stsSize els
def dp2 (thn els:List St) (d:Nat):Nat→Nat
 | 0=>d
 | 1=>max d (stsDeep thn)
 | _=>max (max d (stsDeep thn)) (stsDeep els)
theorem blk2 {w:World} {B:Nat} {a b:Value} {T:TypeId} (h:w.heap[B]?=some (.cells #[a,b] T (0,0))):w.cell? ⟨B,0,none⟩=some a∧w.cell? ⟨B,1,none⟩=some b:=by
 simp [World.cell?,h]
/-- what weighAll says of statements -/
def Weighs (l:List St):Prop:=∀ (w:World) (S:Nat→Prop) (p:Option Addr) (c:Nat),StsAt w S p 0 l→
 Calls Tryz.prog 43 #[.slice p l.length c] w fun e w'=>e=.returned (.tuple #[.int .i64 (stsSize l),.int .i64 (stsDeep l)])∧KeepBut (fun _=>False) w w'
set_option maxRecDepth 4000 in
set_option maxHeartbeats 32000000 in
theorem weighs_step (l:List St) (hb:stsSize l≤1099511627776) (ih:∀ m,stsSize m<stsSize l→Weighs m):Weighs l:=by
 intro w S p c hp
 have HIH:=hid ih;have HP:=hid hp;have HBD:=hid hb
 have HL:=hid (stsLen l);have HDL:=hid (stsDeep_le l)
 clear ih hp hb
 go_enter Tryz.func43,Tryz.ntmps43
 go_wp2_with fail
 go_loopw [2,3,17] (fun v2 v3 v17 wr=>∃ i:Nat,v2=.int .i64 (stsSize (l.take i))∧v3=.int .i64 (stsDeep (l.take i))∧v17=.int .i64 i∧i≤l.length∧KeepBut (fun _=>False) w wr) (fun _ _ v _=>l.length - (intOf v).toNat)
 case atStart=>exact ⟨0,rfl,rfl,rfl,Nat.zero_le _,KeepBut.refl _ _⟩
 case round=>
  obtain ⟨i,rfl,rfl,rfl,hi,hk⟩:=hrel
  have HK:=hid hk
  by_cases hlt:i<l.length
  ·have hlti:(i:Int)<l.length:=by omega
   have hi0:(0:Int)≤i:=by omega
   have hWi:IntKind.i64.wrap ((i:Int)+1)=(i:Int)+1:=IntWalk.i64_in _ (by have:=HL.out;have:=HBD.out;omega)
   obtain ⟨g,o,vs,hp,hc,hst⟩:=sts_get (HP.out.keep hk fun _ _ e=>e) i hlt
   subst hp
   rw [Nat.zero_add] at hc
   have hme:=stsSize_mem hlt
   have htk:=stsSize_take hlt
   have hdt:=stsDeep_take hlt
   have hle:=stsSize_le (l:=l) (i+1)
   have hdl:=stsDeep_le (l.take (i+1))
   have hdl0:=stsDeep_le (l.take i)
   obtain ⟨s,hs⟩:∃ s,l[i]=s:=⟨_,rfl⟩
   rw [hs] at hst hme htk hdt
   clear hs
   obtain ⟨k,nm,sz,op,val,into,cont,xs,thn,els,ln,col⟩:=s
   have hss:stSize (.mk k nm sz op val into cont xs thn els ln col)=sizeL xs+stsSize thn+stsSize els+1:=by unfold stSize;rfl
   have hsd:stDeep (.mk k nm sz op val into cont xs thn els ln col)=max (max (deepL xs) (stsDeep thn)) (stsDeep els)+1:=by unfold stDeep;rfl
   rw [hss] at hme htk
   rw [hsd] at hdt
   unfold StAt at hst
   obtain ⟨p1,c1,p2,c2,p3,c3,rfl,hx,ht,he⟩:=hst
   unfold strV at hc
   obtain ⟨s0,hs0⟩:∃ s,stsSize (l.take i)=s:=⟨_,rfl⟩
   obtain ⟨d0,hd0⟩:∃ s,stsDeep (l.take i)=s:=⟨_,rfl⟩
   rw [hs0] at htk hdl0
   rw [hd0] at hdt hdl0
   rw [hs0,hd0]
   have x0:wr.cell? ⟨g,o+i * 12,none⟩=some (.int .i64 k):=hc 0 _ rfl
   have x1:=hc 1 _ rfl;have x2:=hc 2 _ rfl;have x3:=hc 3 _ rfl;have x4:=hc 4 _ rfl;have x5:=hc 5 _ rfl;have x6:=hc 6 _ rfl;have x7:=hc 7 _ rfl;have x8:=hc 8 _ rfl;have x9:=hc 9 _ rfl;have x10:=hc 10 _ rfl;have x11:=hc 11 _ rfl
   obtain ⟨W,C,hW,hC,hcb,hkc,hsc⟩:=fresh_block wr (.cells #[.int .i64 k,.string ⟨nm.toArray⟩,.int .i64 sz,.int .i64 op,.string ⟨val.toArray⟩,.string ⟨into.toArray⟩,.string ⟨cont.toArray⟩,.slice p1 xs.length c1,.slice p2 thn.length c2,.slice p3 els.length c3,.int .i64 ln,.int .i64 col] TSm)
   have HX:=hid (hx.keep hkc fun _ _ e=>e);have HT:=hid (ht.keep hkc fun _ _ e=>e);have HE:=hid (he.keep hkc fun _ _ e=>e)
   have HWT:=hid (HIH.out thn (by omega));have HWE:=hid (HIH.out els (by omega))
   have HB:=hid hcb
   have HKC:=hid (hk.trans hkc)
   have hxl:=len_size xs
   have hxd:=deepL_le xs
   have htd:=stsDeep_le thn
   have hed:=stsDeep_le els
   have HSZ:=hid (show s0+sizeL xs+stsSize thn+stsSize els+1≤1099511627776 by have:=HBD.out;omega)
   have HDP:=hid (And.intro hxl (And.intro hxd (And.intro htd (And.intro hed hdl0))))
   have HTK:=hid htk;have HDT:=hid hdt
   obtain ⟨lx,hlx⟩:∃ n,xs.length=n:=⟨_,rfl⟩
   obtain ⟨n0,n1,n2,n3,n4,n5,n6,n7,n8,n9,n10,n11⟩:=blk12 hcb
   clear hc hx ht he hk hkc hsc hcb hme htk hdt hle hdl hdl0 hs0 hd0 hss hsd hxl hxd htd hed hlx
   go_upto_region 4 with fail
   rw [←hW,←hC]
   clear hW hC x0 x1 x2 x3 x4 x5 x6 x7 x8 x9 x10 x11
   go_wp2_with fail
   go_loopw [2,6,24] (fun v2 v6 v24 wx=>∃ j:Nat,v2=.int .i64 ((s0+sizeL (xs.take j):Nat):Int)∧v6=.int .i64 (deepL (xs.take j))∧v24=.int .i64 j∧j≤xs.length∧KeepBut (fun _=>False) W wx) (fun _ _ v _=>xs.length - (intOf v).toNat)
   case atStart=>exact ⟨0,by simp [sizeL],rfl,rfl,Nat.zero_le _,KeepBut.refl _ _⟩
   case round=>
    obtain ⟨j,rfl,rfl,rfl,hj,hk⟩:=hrel
    have HKX:=hid hk
    by_cases hjl:j<xs.length
    ·have hjli:(j:Int)<xs.length:=by omega
     have hj0:(0:Int)≤j:=by omega
     have hWj:IntKind.i64.wrap ((j:Int)+1)=(j:Int)+1:=IntWalk.i64_in _ (by have:=HDP.out.1;have:=HSZ.out;omega)
     obtain ⟨g,o,vs,hp,hc,hex⟩:=kids_get (HX.out.keep hk fun _ _ e=>e) j hjl
     subst hp
     rw [Nat.zero_add] at hc
     obtain ⟨yk,yo,yn,yS,yp,ym,yc,yl,ycl,rfl⟩:=ex_form hex
     have x0:wr.cell? ⟨g,o+j * 7,none⟩=some (.int .i64 yk):=hc 0 _ rfl
     have x1:=hc 1 _ rfl;have x2:=hc 2 _ rfl;have x3:=hc 3 _ rfl;have x4:=hc 4 _ rfl;have x5:=hc 5 _ rfl;have x6:=hc 6 _ rfl
     obtain ⟨W2,C2,hW,hC,hcb,hkc,hsc⟩:=fresh_block wr (.cells #[.int .i64 yk,.int .i64 yo,.int .i64 yn,.string yS,.slice yp ym yc,.int .i64 yl,.int .i64 ycl] TEx)
     have hme:=size_mem hjl
     have HCA:=hid (weigh_any 1099511627776 xs[j] (by have:=HSZ.out;omega) (Nat.le_refl _) W2 S _ (hex.keep hkc fun _ _ e=>e))
     have HKC2:=hid hkc
     have hst:=sizeL_take hjl
     have hdt:=deepL_take hjl
     have hle:=sizeL_le (l:=xs) (j+1)
     obtain ⟨s1,hs1⟩:∃ s,exSize xs[j]=s:=⟨_,rfl⟩
     obtain ⟨d1,hd1⟩:∃ s,exDeep xs[j]=s:=⟨_,rfl⟩
     obtain ⟨t0,ht0⟩:∃ s,s0+sizeL (xs.take j)=s:=⟨_,rfl⟩
     obtain ⟨e0,he0⟩:∃ s,deepL (xs.take j)=s:=⟨_,rfl⟩
     rw [hs1] at hst
     rw [hd1,he0] at hdt
     rw [hs1,hd1] at HCA
     rw [ht0,he0]
     have hWs:IntKind.i64.wrap ((t0:Int)+s1)=(t0:Int)+s1:=IntWalk.i64_in _ (by have:=HSZ.out;omega)
     have HST:=hid (show s0+sizeL (xs.take (j+1))=t0+s1 by omega);have HDT2:=hid hdt
     obtain ⟨m0,m1,m2,m3,m4,m5,m6,-⟩:=blk7 hcb
     clear hc hex hk hsc hcb hme hst hdt hle hs1 hd1 ht0 he0 hkc
     go_upto_region 8 with fail
     rw [←hW,←hC]
     clear hW hC x0 x1 x2 x3 x4 x5 x6
     go_wp2_with (go_at_call 34;refine HCA.out.mono ?_;rintro e w5 ⟨rfl,hk5⟩;have HK5:=hid hk5;clear hk5)
     refine ⟨⟨j+1,by rw [HST.out];simp,?_,by simp,by omega,(HKX.out.trans HKC2.out).trans HK5.out⟩,by simp only [intOf];omega⟩
     rw [HDT2.out]
     show Value.int _ _=_
     congr 1
     omega
    ·have hnl:¬(j:Int)<xs.length:=by omega
     have e:j=xs.length:=by omega
     rw [e,List.take_length]
     have hb0:=hk.blk HB.out
     obtain ⟨n0,n1,n2,n3,n4,n5,n6,n7,n8,n9,n10,n11⟩:=blk12 hb0
     clear e hb0
     obtain ⟨t0,ht0⟩:∃ s,s0+sizeL xs=s:=⟨_,rfl⟩
     obtain ⟨e0,he0⟩:∃ s,deepL xs=s:=⟨_,rfl⟩
     rw [ht0,he0]
     have HSZ2:=hid (show t0+(stsSize thn+stsSize els)+1≤1099511627776∧e0≤t0 by have:=HSZ.out;have:=HDP.out;omega)
     have HTT:=hid (And.intro ht0 he0)
     obtain ⟨W3,D,hW3,hD,hbd,hkd,hsd⟩:=fresh_block wr (.cells #[.slice p2 thn.length c2,.slice p3 els.length c3] TSs)
     have HBD2:=hid hbd;have HKB:=hid (hk.trans hkd)
     clear hk hbd hkd hsd ht0 he0
     go_wp2_with fail
     rw [←hW3,←hD]
     clear hW3 hD n0 n1 n2 n3 n4 n5 n6 n7 n8 n9 n10 n11
     go_loopw [2,6,46] (fun v2 v6 v46 wy=>∃ j:Nat,v2=.int .i64 ((t0+sz2 thn els j:Nat):Int)∧v6=.int .i64 (dp2 thn els e0 j)∧v46=.int .i64 j∧j≤2∧KeepBut (fun _=>False) W3 wy) (fun _ _ v _=>2 - (intOf v).toNat)
     case atStart=>exact ⟨0,rfl,rfl,rfl,by omega,KeepBut.refl _ _⟩
     case round=>
      obtain ⟨j,rfl,rfl,rfl,hj,hk⟩:=hrel
      have HKX:=hid hk
      by_cases j0:j=0
      ·subst j0
       have HCA:=hid (HWT.out wr S p2 c2 (HT.out.keep (HKB.out.trans hk) fun _ _ e=>e))
       have hy:=hk.blk HBD2.out
       obtain ⟨y0,y1⟩:=blk2 hy
       obtain ⟨z1,hz1⟩:∃ s,stsSize thn=s:=⟨_,rfl⟩
       obtain ⟨e1,he1⟩:∃ s,stsDeep thn=s:=⟨_,rfl⟩
       rw [hz1,he1] at HCA
       obtain ⟨t1,ht1⟩:∃ s,t0+sz2 thn els 0=s:=⟨_,rfl⟩
       obtain ⟨f1,hf1⟩:∃ s,dp2 thn els e0 0=s:=⟨_,rfl⟩
       rw [ht1,hf1]
       have HST:=hid (show t0+sz2 thn els (0+1)=t1+z1 by rw [←ht1,←hz1];simp only [sz2];omega)
       have HDT2:=hid (show dp2 thn els e0 (0+1)=max f1 e1 by rw [←hf1,←he1];rfl)
       have hWs:IntKind.i64.wrap ((t1:Int)+z1)=(t1:Int)+z1:=IntWalk.i64_in _ (by have h:=HSZ2.out;have h2:=HST.out;simp only [sz2] at h2;omega)
       clear hk hy hz1 he1 ht1 hf1
       go_wp2_with (go_at_call 43;refine HCA.out.mono ?_;rintro e w5 ⟨rfl,hk5⟩;have HK5:=hid hk5;clear hk5)
       refine ⟨⟨0+1,by rw [HST.out];simp,?_,by simp,by omega,HKX.out.trans HK5.out⟩,by simp only [intOf];omega⟩
       rw [HDT2.out]
       show Value.int _ _=_
       congr 1
       omega
      ·by_cases j1:j=1
       ·subst j1
        have HCA:=hid (HWE.out wr S p3 c3 (HE.out.keep (HKB.out.trans hk) fun _ _ e=>e))
        have hy:=hk.blk HBD2.out
        obtain ⟨y0,y1⟩:=blk2 hy
        obtain ⟨z1,hz1⟩:∃ s,stsSize els=s:=⟨_,rfl⟩
        obtain ⟨e1,he1⟩:∃ s,stsDeep els=s:=⟨_,rfl⟩
        rw [hz1,he1] at HCA
        obtain ⟨t1,ht1⟩:∃ s,t0+sz2 thn els 1=s:=⟨_,rfl⟩
        obtain ⟨f1,hf1⟩:∃ s,dp2 thn els e0 1=s:=⟨_,rfl⟩
        rw [ht1,hf1]
        have HST:=hid (show t0+sz2 thn els (1+1)=t1+z1 by rw [←ht1,←hz1];simp only [sz2];omega)
        have HDT2:=hid (show dp2 thn els e0 (1+1)=max f1 e1 by rw [←hf1,←he1];rfl)
        have hWs:IntKind.i64.wrap ((t1:Int)+z1)=(t1:Int)+z1:=IntWalk.i64_in _ (by have h:=HSZ2.out;have h2:=HST.out;simp only [sz2] at h2;omega)
        clear hk hy hz1 he1 ht1 hf1
        go_wp2_with (go_at_call 43;refine HCA.out.mono ?_;rintro e w5 ⟨rfl,hk5⟩;have HK5:=hid hk5;clear hk5)
        refine ⟨⟨1+1,by rw [HST.out];simp,?_,by simp,by omega,HKX.out.trans HK5.out⟩,by simp only [intOf];omega⟩
        rw [HDT2.out]
        show Value.int _ _=_
        congr 1
        omega
       ·have j2:j=2:=by omega
        subst j2
        have hd9:=HDP.out
        have hw1:IntKind.i64.wrap (((t0+sz2 thn els 2:Nat):Int)+1)=((t0+sz2 thn els 2:Nat):Int)+1:=IntWalk.i64_in _ (by have:=HSZ2.out;simp only [sz2];omega)
        have hw2:IntKind.i64.wrap (((dp2 thn els e0 2:Nat):Int)+1)=((dp2 thn els e0 2:Nat):Int)+1:=IntWalk.i64_in _ (by have:=HSZ2.out;simp only [dp2];omega)
        have HST:=hid (show stsSize (l.take (i+1))=(t0+sz2 thn els 2)+1 by rw [HTK.out,←HTT.out.1];simp only [sz2];omega)
        have HDT3:=hid (show stsDeep (l.take (i+1))=max d0 (dp2 thn els e0 2+1) by rw [HDT.out,←HTT.out.2];simp only [dp2])
        obtain ⟨z9,hz9⟩:∃ s,t0+sz2 thn els 2=s:=⟨_,rfl⟩
        obtain ⟨f9,hf9⟩:∃ s,dp2 thn els e0 2=s:=⟨_,rfl⟩
        rw [hz9] at hw1 HST ⊢
        rw [hf9] at hw2 HDT3 ⊢
        clear hk hd9 hz9 hf9
        go_wp2_with fail
        refine ⟨⟨i+1,by rw [HST.out];simp,?_,by simp,by omega,(HKC.out.trans HKB.out).trans HKX.out⟩,by simp only [intOf];omega⟩
        rw [HDT3.out]
        show Value.int _ _=_
        congr 1
        omega
  ·have hnl:¬(i:Int)<l.length:=by omega
   have e:i=l.length:=by omega
   rw [e,List.take_length]
   clear hk e
   go_wp2_with fail
   go_ret2
   exact ⟨rfl,HK.out⟩
theorem weighs_any (l:List St) (hb:stsSize l≤1099511627776):Weighs l:=by
 induction h:stsSize l using Nat.strongRecOn generalizing l with
 | _ n ih=>exact weighs_step l hb fun m hm=>ih _ (by omega) m (by omega) rfl
/-
  Statements and programs as they may stand in memory, whatever their fields hold.
-/
inductive Gs where
 | mk (kind:Int) (name:List UInt8) (size op:Int) (value into cont:List UInt8) (exprs:List Gx) (thn els:List Gs) (line col:Int)
structure Gc where
 kind:Int
 name:List UInt8
 line:Int
 col:Int
structure Gp where
 pool:Int
 conts:List Gc
 threads:List (List Gs)
mutual
/-- the cells of a statement; what it holds lies in blocks of S -/
def SAt (w:World) (S:Nat→Prop):List Value→Gs→Prop
 | vs,.mk k nm sz op val into cont xs thn els l c=>∃ p1 c1 p2 c2 p3 c3,vs=[.int .i64 k,strV nm,.int .i64 sz,.int .i64 op,strV val,strV into,strV cont,.slice p1 xs.length c1,.slice p2 thn.length c2,.slice p3 els.length c3,.int .i64 l,.int .i64 c]∧GKids w S p1 0 xs∧SKids w S p2 0 thn∧SKids w S p3 0 els
def SKids (w:World) (S:Nat→Prop) (p:Option Addr):Nat→List Gs→Prop
 | _,[]=>True
 | i,x::l=>(∃ g o vs,p=some ⟨g,o,none⟩∧S g∧(∀ j v,vs[j]?=some v→w.cell? ⟨g,o+i * 12+j,none⟩=some v)∧SAt w S vs x)∧SKids w S p (i+1) l
end
theorem s_form {w:World} {S:Nat→Prop} {vs:List Value} {x:Gs} (h:SAt w S vs x):∃ a n b c s1 s2 s3 p1 m1 c1 p2 m2 c2 p3 m3 c3 l cl,vs=[.int .i64 a,.string n,.int .i64 b,.int .i64 c,.string s1,.string s2,.string s3,.slice p1 m1 c1,.slice p2 m2 c2,.slice p3 m3 c3,.int .i64 l,.int .i64 cl]:=by
 cases x with
 | mk k nm sz op val into cont xs thn els l c=>
  unfold SAt at h
  obtain ⟨p1,c1,p2,c2,p3,c3,h1,-⟩:=h
  exact ⟨_,_,_,_,_,_,_,_,_,_,_,_,_,_,_,_,_,_,h1⟩
mutual
theorem SAt.keepS {w w':World} {S S':Nat→Prop} (hk:∀ b o v,S b→w.cell? ⟨b,o,none⟩=some v→w'.cell? ⟨b,o,none⟩=some v∧S' b):∀ {vs:List Value} {e:Gs},SAt w S vs e→SAt w' S' vs e
 | vs,.mk k nm sz op val into cont xs thn els l c,h=>by
  unfold SAt at h ⊢
  obtain ⟨p1,c1,p2,c2,p3,c3,h1,h2,h3,h4⟩:=h
  exact ⟨p1,c1,p2,c2,p3,c3,h1,GKids.keepS hk h2,SKids.keepS hk h3,SKids.keepS hk h4⟩
theorem SKids.keepS {w w':World} {S S':Nat→Prop} (hk:∀ b o v,S b→w.cell? ⟨b,o,none⟩=some v→w'.cell? ⟨b,o,none⟩=some v∧S' b):∀ {p:Option Addr} {i:Nat} {l:List Gs},SKids w S p i l→SKids w' S' p i l
 | p,i,[],_=>by unfold SKids;trivial
 | p,i,x::l,h=>by
  unfold SKids at h ⊢
  obtain ⟨⟨g,o,vs,h1,h2,h3,h4⟩,h5⟩:=h
  have hv:∃ v,vs[0]?=some v:=by
   obtain ⟨_,_,_,_,_,_,_,_,_,_,_,_,_,_,_,_,_,_,h6⟩:=s_form h4
   exact ⟨_,by rw [h6];rfl⟩
  obtain ⟨v0,hv0⟩:=hv
  exact ⟨⟨g,o,vs,h1,(hk g _ _ h2 (h3 0 v0 hv0)).2,fun j v hj=>(hk g _ _ h2 (h3 j v hj)).1,SAt.keepS hk h4⟩,SKids.keepS hk h5⟩
end
theorem SAt.keep {E:Nat→Prop} {w w':World} {S:Nat→Prop} (k:KeepBut E w w') (hE:∀ b,S b→¬E b) {vs:List Value} {e:Gs} (h:SAt w S vs e):SAt w' S vs e:=
 h.keepS fun b _ _ hb hc=>⟨k.cell hc (hE b hb),hb⟩
theorem SAt.inHeap {w:World} {S:Nat→Prop} {vs:List Value} {e:Gs} (h:SAt w S vs e):SAt w (fun b=>S b∧b<w.heap.size) vs e:=
 h.keepS fun _ _ _ hb hc=>⟨hc,hb,World.block_lt_of_cell? w _ hc⟩
theorem SAt.mono {w:World} {S S':Nat→Prop} (hS:∀ b,S b→S' b) {vs:List Value} {e:Gs} (h:SAt w S vs e):SAt w S' vs e:=
 h.keepS fun _ _ _ hb hc=>⟨hc,hS _ hb⟩
theorem SKids.mono {w:World} {S S':Nat→Prop} (hS:∀ b,S b→S' b) {p:Option Addr} {i:Nat} {l:List Gs} (h:SKids w S p i l):SKids w S' p i l:=
 h.keepS fun _ _ _ hb hc=>⟨hc,hS _ hb⟩
theorem SKids.keep {E:Nat→Prop} {w w':World} {S:Nat→Prop} (k:KeepBut E w w') (hE:∀ b,S b→¬E b) {p:Option Addr} {i:Nat} {l:List Gs} (h:SKids w S p i l):SKids w' S p i l:=
 h.keepS fun b _ _ hb hc=>⟨k.cell hc (hE b hb),hb⟩
theorem skids_get {w:World} {S:Nat→Prop} {p:Option Addr}:∀ {l:List Gs} {j:Nat},SKids w S p j l→∀ i (h:i<l.length),∃ g o vs,p=some ⟨g,o,none⟩∧(∀ k v,vs[k]?=some v→w.cell? ⟨g,o+(j+i) * 12+k,none⟩=some v)∧SAt w S vs l[i]∧S g
 | x::l,j,h,0,_=>by
  unfold SKids at h
  obtain ⟨⟨g,o,vs,h1,h2,h3,h4⟩,_⟩:=h
  exact ⟨g,o,vs,h1,h3,h4,h2⟩
 | x::l,j,h,i+1,hi=>by
  unfold SKids at h
  obtain ⟨g,o,vs,h1,h3,h4,h5⟩:=skids_get h.2 i (by simpa using hi)
  refine ⟨g,o,vs,h1,fun k v hk=>?_,h4,h5⟩
  rw [show j+(i+1)=j+1+i by omega]
  exact h3 k v hk
 | [],_,_,i,hi=>absurd hi (by simp)
theorem skids_of {w:World} {S:Nat→Prop} {p:Option Addr}:∀ (l:List Gs) (j:Nat),(∀ i (h:i<l.length),∃ g o vs,p=some ⟨g,o,none⟩∧S g∧(∀ k v,vs[k]?=some v→w.cell? ⟨g,o+(j+i) * 12+k,none⟩=some v)∧SAt w S vs l[i])→SKids w S p j l
 | [],_,_=>by unfold SKids;trivial
 | x::l,j,h=>by
  unfold SKids
  refine ⟨?_,skids_of l (j+1) fun i hi=>?_⟩
  ·obtain ⟨g,o,vs,h1,h2,h3,h4⟩:=h 0 (by simp)
   exact ⟨g,o,vs,h1,h2,h3,h4⟩
  ·obtain ⟨g,o,vs,h1,h2,h3,h4⟩:=h (i+1) (by simpa using hi)
   refine ⟨g,o,vs,h1,h2,fun k v hk=>?_,by simpa using h4⟩
   rw [show j+1+i=j+(i+1) by omega]
   exact h3 k v hk
mutual
def sSize:Gs→Nat
 | .mk _ _ _ _ _ _ _ xs thn els _ _=>gSizeL xs+sSizeL thn+sSizeL els+1
def sSizeL:List Gs→Nat
 | []=>0
 | s::l=>sSize s+sSizeL l
end
mutual
def sDeep:Gs→Nat
 | .mk _ _ _ _ _ _ _ xs thn els _ _=>max (max (gDeepL xs) (sDeepL thn)) (sDeepL els)+1
def sDeepL:List Gs→Nat
 | []=>0
 | s::l=>max (sDeep s) (sDeepL l)
end
theorem sSizeL_take {l:List Gs} {i:Nat} (h:i<l.length):sSizeL (l.take (i+1))=sSizeL (l.take i)+sSize l[i]:=by
 induction l generalizing i with
 | nil=>cases h
 | cons x l ih=>
  cases i with
  | zero=>simp [sSizeL]
  | succ i=>
   have h':i<l.length:=by simpa using h
   simp only [List.take_succ_cons,sSizeL,List.getElem_cons_succ]
   rw [ih h']
   omega
theorem sDeepL_take {l:List Gs} {i:Nat} (h:i<l.length):sDeepL (l.take (i+1))=max (sDeepL (l.take i)) (sDeep l[i]):=by
 induction l generalizing i with
 | nil=>cases h
 | cons x l ih=>
  cases i with
  | zero=>simp [sDeepL]
  | succ i=>
   have h':i<l.length:=by simpa using h
   simp only [List.take_succ_cons,sDeepL,List.getElem_cons_succ]
   rw [ih h']
   omega
theorem ssize_mem {l:List Gs} {i:Nat} (h:i<l.length):sSize l[i]≤sSizeL l:=by
 induction l generalizing i with
 | nil=>cases h
 | cons x l ih=>
  cases i with
  | zero=>simp [sSizeL]
  | succ i=>
   have:=ih (i:=i) (by simpa using h)
   simp only [sSizeL,List.getElem_cons_succ]
   omega
theorem sSizeL_le {l:List Gs} (i:Nat):sSizeL (l.take i)≤sSizeL l:=by
 induction l generalizing i with
 | nil=>simp [sSizeL]
 | cons x l ih=>
  cases i with
  | zero=>simp [sSizeL]
  | succ i=>
   have:=ih i
   simp only [List.take_succ_cons,sSizeL]
   omega
theorem slen_size:∀ l:List Gs,l.length≤sSizeL l
 | []=>by simp
 | x::l=>by
  have h1:1≤sSize x:=by cases x;unfold sSize;omega
  have:=slen_size l
  simp only [List.length_cons,sSizeL]
  omega
mutual
theorem sdeep_le:∀ x:Gs,sDeep x≤sSize x
 | .mk _ _ _ _ _ _ _ xs thn els _ _=>by
  unfold sDeep sSize
  have:=gDeepL_le xs
  have:=sDeepL_le thn
  have:=sDeepL_le els
  omega
theorem sDeepL_le:∀ l:List Gs,sDeepL l≤sSizeL l
 | []=>by simp [sDeepL]
 | x::l=>by
  unfold sDeepL sSizeL
  have:=sdeep_le x
  have:=sDeepL_le l
  omega
end
mutual
def toS:St→Gs
 | .mk k nm sz op val into cont xs thn els l c=>.mk k nm sz op val into cont (toGL xs) (toSL thn) (toSL els) l c
def toSL:List St→List Gs
 | []=>[]
 | x::l=>toS x::toSL l
end
theorem toSL_len:∀ l:List St,(toSL l).length=l.length
 | []=>rfl
 | x::l=>by unfold toSL;simp [toSL_len l]
mutual
theorem StAt.toS {w:World} {S:Nat→Prop}:∀ {vs:List Value} {x:St},StAt w S vs x→SAt w S vs (toS x)
 | vs,.mk k nm sz op val into cont xs thn els l c,h=>by
  unfold StAt at h
  obtain ⟨p1,c1,p2,c2,p3,c3,h1,h2,h3,h4⟩:=h
  unfold Go.Proofs.YtomlffobbkcmdaaGreatDoor.toS SAt
  exact ⟨p1,c1,p2,c2,p3,c3,by rw [toGL_len,toSL_len,toSL_len];exact h1,KidsAt.toG h2,StsAt.toS h3,StsAt.toS h4⟩
theorem StsAt.toS {w:World} {S:Nat→Prop}:∀ {p:Option Addr} {i:Nat} {l:List St},StsAt w S p i l→SKids w S p i (toSL l)
 | p,i,[],_=>by unfold toSL SKids;trivial
 | p,i,x::l,h=>by
  unfold StsAt at h
  obtain ⟨⟨g,o,vs,h1,h2,h3,h4⟩,h5⟩:=h
  unfold toSL SKids
  exact ⟨⟨g,o,vs,h1,h2,h3,StAt.toS h4⟩,StsAt.toS h5⟩
end
mutual
theorem toS_size:∀ x:St,sSize (toS x)=stSize x
 | .mk k nm sz op val into cont xs thn els l c=>by unfold toS sSize stSize;rw [toGL_size xs,toSL_size thn,toSL_size els]
theorem toSL_size:∀ l:List St,sSizeL (toSL l)=stsSize l
 | []=>rfl
 | x::l=>by unfold toSL sSizeL stsSize;rw [toS_size x,toSL_size l]
end
/-- containers in memory -/
def GCts (w:World) (S:Nat→Prop) (p:Option Addr) (l:List Gc):Prop:=∀ i (h:i<l.length),∃ g o,p=some ⟨g,o,none⟩∧S g∧
 w.cell? ⟨g,o+i * 4,none⟩=some (.int .i64 l[i].kind)∧w.cell? ⟨g,o+i * 4+1,none⟩=some (strV l[i].name)∧w.cell? ⟨g,o+i * 4+2,none⟩=some (.int .i64 l[i].line)∧w.cell? ⟨g,o+i * 4+3,none⟩=some (.int .i64 l[i].col)
/-- threads in memory -/
def GThs (w:World) (S:Nat→Prop) (p:Option Addr) (l:List (List Gs)):Prop:=∀ i (h:i<l.length),∃ g o q c,p=some ⟨g,o,none⟩∧S g∧
 w.cell? ⟨g,o+i,none⟩=some (.slice q l[i].length c)∧SKids w S q 0 l[i]
theorem GCts.keepS {w w':World} {S S':Nat→Prop} (hk:∀ b o v,S b→w.cell? ⟨b,o,none⟩=some v→w'.cell? ⟨b,o,none⟩=some v∧S' b) {p:Option Addr} {l:List Gc} (h:GCts w S p l):GCts w' S' p l:=fun i hi=>by
 obtain ⟨g,o,h1,h2,h3,h4,h5,h6⟩:=h i hi
 exact ⟨g,o,h1,(hk _ _ _ h2 h3).2,(hk _ _ _ h2 h3).1,(hk _ _ _ h2 h4).1,(hk _ _ _ h2 h5).1,(hk _ _ _ h2 h6).1⟩
theorem GThs.keepS {w w':World} {S S':Nat→Prop} (hk:∀ b o v,S b→w.cell? ⟨b,o,none⟩=some v→w'.cell? ⟨b,o,none⟩=some v∧S' b) {p:Option Addr} {l:List (List Gs)} (h:GThs w S p l):GThs w' S' p l:=fun i hi=>by
 obtain ⟨g,o,q,c,h1,h2,h3,h4⟩:=h i hi
 exact ⟨g,o,q,c,h1,(hk _ _ _ h2 h3).2,(hk _ _ _ h2 h3).1,h4.keepS hk⟩
theorem GCts.keep {E:Nat→Prop} {w w':World} {S:Nat→Prop} (k:KeepBut E w w') (hE:∀ b,S b→¬E b) {p:Option Addr} {l:List Gc} (h:GCts w S p l):GCts w' S p l:=
 h.keepS fun b _ _ hb hc=>⟨k.cell hc (hE b hb),hb⟩
theorem GThs.keep {E:Nat→Prop} {w w':World} {S:Nat→Prop} (k:KeepBut E w w') (hE:∀ b,S b→¬E b) {p:Option Addr} {l:List (List Gs)} (h:GThs w S p l):GThs w' S p l:=
 h.keepS fun b _ _ hb hc=>⟨k.cell hc (hE b hb),hb⟩
theorem GCts.mono {w:World} {S S':Nat→Prop} (hS:∀ b,S b→S' b) {p:Option Addr} {l:List Gc} (h:GCts w S p l):GCts w S' p l:=
 h.keepS fun _ _ _ hb hc=>⟨hc,hS _ hb⟩
theorem GThs.mono {w:World} {S S':Nat→Prop} (hS:∀ b,S b→S' b) {p:Option Addr} {l:List (List Gs)} (h:GThs w S p l):GThs w S' p l:=
 h.keepS fun _ _ _ hb hc=>⟨hc,hS _ hb⟩
/-- a program's cells -/
def PAt (w:World) (S:Nat→Prop) (v:Value) (p:Gp):Prop:=∃ p1 c1 p2 c2,v=.agg #[.int .i64 p.pool,.slice p1 p.conts.length c1,.slice p2 p.threads.length c2]∧GCts w S p1 p.conts∧GThs w S p2 p.threads
def toC (c:Ct):Gc:=⟨c.kind,c.name,c.line,c.col⟩
def toP (p:Pr):Gp:=⟨p.pool,p.conts.map toC,p.threads.map toSL⟩
/-
  Package parse: Size, Deep; reading a program.
-/
def thsSize:List (List St)→Nat
 | []=>0
 | b::l=>stsSize b+thsSize l
def thsDeep:List (List St)→Nat
 | []=>0
 | b::l=>max (stsDeep b) (thsDeep l)
theorem thsSize_take {l:List (List St)} {i:Nat} (h:i<l.length):thsSize (l.take (i+1))=thsSize (l.take i)+stsSize l[i]:=by
 induction l generalizing i with
 | nil=>cases h
 | cons x l ih=>
  cases i with
  | zero=>simp [thsSize]
  | succ i=>
   have h':i<l.length:=by simpa using h
   simp only [List.take_succ_cons,thsSize,List.getElem_cons_succ]
   rw [ih h']
   omega
theorem thsDeep_take {l:List (List St)} {i:Nat} (h:i<l.length):thsDeep (l.take (i+1))=max (thsDeep (l.take i)) (stsDeep l[i]):=by
 induction l generalizing i with
 | nil=>cases h
 | cons x l ih=>
  cases i with
  | zero=>simp [thsDeep]
  | succ i=>
   have h':i<l.length:=by simpa using h
   simp only [List.take_succ_cons,thsDeep,List.getElem_cons_succ]
   rw [ih h']
   omega
theorem thsSize_le {l:List (List St)} (i:Nat):thsSize (l.take i)≤thsSize l:=by
 induction l generalizing i with
 | nil=>simp [thsSize]
 | cons x l ih=>
  cases i with
  | zero=>simp [thsSize]
  | succ i=>
   have:=ih i
   simp only [List.take_succ_cons,thsSize]
   omega
theorem ths_get {w:World} {S:Nat→Prop} {q:Option Addr} {l:List (List St)} (h:ThsAt w S q l) (i:Nat) (hi:i<l.length):∃ g p c,q=some ⟨g,0,none⟩∧w.cell? ⟨g,i,none⟩=some (.slice p l[i].length c)∧StsAt w S p 0 l[i]:=by
 obtain ⟨sl,h1,h2,h3⟩:=h
 rcases h2 with rfl | ⟨g,e,-,hc⟩
 ·cases hi
 ·obtain ⟨p,c,e1,e2⟩:=h3 i (by omega) hi
  exact ⟨g,p,c,e,hc i _ (by rw [←e1];exact List.getElem?_eq_getElem (by omega)),e2⟩
set_option maxHeartbeats 8000000 in
theorem size_any (ths:List (List St)) (hb:thsSize ths≤1099511627776) (hl:ths.length≤1000000) (w:World) (S:Nat→Prop) (q:Option Addr) (d:Nat) (pool:Int) (p:Option Addr) (n c:Nat) (h:ThsAt w S q ths):
  Calls Tryz.prog 18 #[.agg #[.int .i64 pool,.slice p n c,.slice q ths.length d]] w fun e w'=>e=.returned (.int .i64 (thsSize ths))∧KeepBut (fun _=>False) w w':=by
 obtain ⟨V,B1,hV,hB1,hb1,hk1,hs1⟩:=fresh_block w (.cells #[.int .i64 pool,.slice p n c,.slice q ths.length d] TPr)
 have HTH:=hid (h.keepS (w':=V) (S':=S) (fun b o v _ hc=>hk1.stay hc) fun b hb=>hb)
 have HB:=hid hb;have HL:=hid hl;have HK1:=hid hk1
 obtain ⟨n0,n1,n2,-⟩:=blk3f hb1
 clear h hb hl hb1 hk1 hs1
 go_enter Tryz.func18,Tryz.ntmps18
 go_upto_region 1 with fail
 rw [←hV,←hB1]
 clear hV hB1
 go_wp2_with fail
 go_loopw [2,10] (fun v2 v10 wr=>∃ i:Nat,v2=.int .i64 (thsSize (ths.take i))∧v10=.int .i64 i∧i≤ths.length∧KeepBut (fun _=>False) V wr) (fun _ v _=>ths.length - (intOf v).toNat)
 case atStart=>exact ⟨0,rfl,rfl,Nat.zero_le _,KeepBut.refl _ _⟩
 case round=>
  obtain ⟨i,rfl,rfl,hi,hk⟩:=hrel
  have HK:=hid hk
  by_cases hlt:i<ths.length
  ·have hlti:(i:Int)<ths.length:=by omega
   have hi0:(0:Int)≤i:=by omega
   have hWi:IntKind.i64.wrap ((i:Int)+1)=(i:Int)+1:=IntWalk.i64_in _ (by have:=HL.out;omega)
   obtain ⟨g,p',c',rfl,hc,hst⟩:=ths_get (HTH.out.keepS (w':=wr) (S':=S) (fun b o v _ hc=>hk.stay hc) fun b hb=>hb) i hlt
   have htk:=thsSize_take hlt
   have hle:=thsSize_le (l:=ths) (i+1)
   have hdt:=thsSize_take hlt
   have HCA:=hid (weighs_any ths[i] (by have:=HB.out;omega) wr S p' c' hst)
   obtain ⟨s1,hs1⟩:∃ s,stsSize ths[i]=s:=⟨_,rfl⟩
   obtain ⟨d1,hd1⟩:∃ s,stsDeep ths[i]=s:=⟨_,rfl⟩
   obtain ⟨s0,hs0⟩:∃ s,thsSize (ths.take i)=s:=⟨_,rfl⟩
   rw [hs1,hd1] at HCA
   rw [hs1,hs0] at hdt
   rw [hs1] at htk
   rw [hs0]
   have hWs:IntKind.i64.wrap ((s0:Int)+s1)=(s0:Int)+s1:=IntWalk.i64_in _ (by have:=HB.out;omega)
   have HST:=hid hdt
   clear hst hk htk hdt hle hs1 hd1 hs0
   go_wp2_with (go_at_call 43;refine HCA.out.mono ?_;rintro e w5 ⟨rfl,hk5⟩;have HK5:=hid hk5;clear hk5)
   refine ⟨⟨i+1,?_,by simp,by omega,HK.out.trans HK5.out⟩,by simp only [intOf];omega⟩
   rw [HST.out]
   show Value.int _ _=_
   congr 1
   all_goals omega
  ·have hnl:¬(i:Int)<ths.length:=by omega
   have e:i=ths.length:=by omega
   rw [e,List.take_length]
   clear hk e
   go_wp2_with fail
   go_ret
   exact ⟨rfl,HK1.out.trans HK.out⟩
set_option maxHeartbeats 8000000 in
theorem deep_any (ths:List (List St)) (hb:thsSize ths≤1099511627776) (hl:ths.length≤1000000) (w:World) (S:Nat→Prop) (q:Option Addr) (d:Nat) (pool:Int) (p:Option Addr) (n c:Nat) (h:ThsAt w S q ths):
  Calls Tryz.prog 19 #[.agg #[.int .i64 pool,.slice p n c,.slice q ths.length d]] w fun e w'=>e=.returned (.int .i64 (thsDeep ths))∧KeepBut (fun _=>False) w w':=by
 obtain ⟨V,B1,hV,hB1,hb1,hk1,hs1⟩:=fresh_block w (.cells #[.int .i64 pool,.slice p n c,.slice q ths.length d] TPr)
 have HTH:=hid (h.keepS (w':=V) (S':=S) (fun b o v _ hc=>hk1.stay hc) fun b hb=>hb)
 have HB:=hid hb;have HL:=hid hl;have HK1:=hid hk1
 obtain ⟨n0,n1,n2,-⟩:=blk3f hb1
 clear h hb hl hb1 hk1 hs1
 go_enter Tryz.func19,Tryz.ntmps19
 go_upto_region 1 with fail
 rw [←hV,←hB1]
 clear hV hB1
 go_wp2_with fail
 go_loopw [2,10] (fun v2 v10 wr=>∃ i:Nat,v2=.int .i64 (thsDeep (ths.take i))∧v10=.int .i64 i∧i≤ths.length∧KeepBut (fun _=>False) V wr) (fun _ v _=>ths.length - (intOf v).toNat)
 case atStart=>exact ⟨0,rfl,rfl,Nat.zero_le _,KeepBut.refl _ _⟩
 case round=>
  obtain ⟨i,rfl,rfl,hi,hk⟩:=hrel
  have HK:=hid hk
  by_cases hlt:i<ths.length
  ·have hlti:(i:Int)<ths.length:=by omega
   have hi0:(0:Int)≤i:=by omega
   have hWi:IntKind.i64.wrap ((i:Int)+1)=(i:Int)+1:=IntWalk.i64_in _ (by have:=HL.out;omega)
   obtain ⟨g,p',c',rfl,hc,hst⟩:=ths_get (HTH.out.keepS (w':=wr) (S':=S) (fun b o v _ hc=>hk.stay hc) fun b hb=>hb) i hlt
   have htk:=thsSize_take hlt
   have hle:=thsSize_le (l:=ths) (i+1)
   have hdt:=thsDeep_take hlt
   have HCA:=hid (weighs_any ths[i] (by have:=HB.out;omega) wr S p' c' hst)
   obtain ⟨s1,hs1⟩:∃ s,stsSize ths[i]=s:=⟨_,rfl⟩
   obtain ⟨d1,hd1⟩:∃ s,stsDeep ths[i]=s:=⟨_,rfl⟩
   obtain ⟨s0,hs0⟩:∃ s,thsDeep (ths.take i)=s:=⟨_,rfl⟩
   rw [hs1,hd1] at HCA
   rw [hd1,hs0] at hdt
   rw [hs1] at htk
   rw [hs0]
   skip
   have HST:=hid hdt
   clear hst hk htk hdt hle hs1 hd1 hs0
   go_wp2_with (go_at_call 43;refine HCA.out.mono ?_;rintro e w5 ⟨rfl,hk5⟩;have HK5:=hid hk5;clear hk5)
   refine ⟨⟨i+1,?_,by simp,by omega,HK.out.trans HK5.out⟩,by simp only [intOf];omega⟩
   rw [HST.out]
   show Value.int _ _=_
   congr 1
   all_goals omega
  ·have hnl:¬(i:Int)<ths.length:=by omega
   have e:i=ths.length:=by omega
   rw [e,List.take_length]
   clear hk e
   go_wp2_with fail
   go_ret
   exact ⟨rfl,HK1.out.trans HK.out⟩
/-- a program in memory -/
def PrgAt (w:World) (S:Nat→Prop) (vs:List Value) (pr:Pr):Prop:=∃ p c q d,vs=[.int .i64 pr.pool,.slice p pr.conts.length c,.slice q pr.threads.length d]∧CtsAt w S p pr.conts∧ThsAt w S q pr.threads
theorem PrgAt.keep {E:Nat→Prop} {w w':World} {S:Nat→Prop} (k:KeepBut E w w') (hE:∀ b,S b→¬E b) {vs:List Value} {e:Pr} (h:PrgAt w S vs e):PrgAt w' S vs e:=by
 obtain ⟨p,c,q,d,h1,h2,h3⟩:=h
 exact ⟨p,c,q,d,h1,h2.keepS (fun b _ _ hb hc=>k.cell hc (hE b hb)) fun b hb=>hb,h3.keepS (fun b _ _ hb hc=>k.cell hc (hE b hb)) fun b hb=>hb⟩
theorem PrgAt.mono {w:World} {S S':Nat→Prop} (hS:∀ b,S b→S' b) {vs:List Value} {e:Pr} (h:PrgAt w S vs e):PrgAt w S' vs e:=by
 obtain ⟨p,c,q,d,h1,h2,h3⟩:=h
 exact ⟨p,c,q,d,h1,h2.keepS (fun _ _ _ _ hc=>hc) hS,h3.keepS (fun _ _ _ _ hc=>hc) hS⟩
theorem prg_form {w:World} {S:Nat→Prop} {vs:List Value} {pr:Pr} (h:PrgAt w S vs pr):∃ n p k c q m d,vs=[.int .i64 n,.slice p k c,.slice q m d]:=by
 obtain ⟨p,c,q,d,h1,-⟩:=h
 exact ⟨_,_,_,_,_,_,_,h1⟩
/-- what program does with these tokens -/
def ReadsP (R el ec:Nat) (its:List Item) (pr:Pr):Prop:=∀ (w:World),ReaderAt w R its el ec→
  Calls Tryz.prog 37 #[rdV R] w fun e w'=>∃ vs,e=.returned (.agg vs.toArray)∧PrgAt w' (fun b=>w.heap.size≤b) vs pr∧KeepBut (fun b=>b=R) w w'
set_option maxHeartbeats 8000000 in
theorem weighP_any (pr:Pr) (hb:thsSize pr.threads≤1099511627776) (hl:pr.threads.length≤1000000) (w:World) (S:Nat→Prop) (vs:List Value) (h:PrgAt w S vs pr):
  Calls Tryz.prog 38 #[.agg vs.toArray] w fun e w'=>e=.returned (.tuple #[.int .i64 (thsSize pr.threads),.int .i64 (thsDeep pr.threads)])∧KeepBut (fun _=>False) w w':=by
 obtain ⟨p,c,q,d,rfl,-,hth⟩:=h
 obtain ⟨V,B1,hV,hB1,hb1,hk1,hs1⟩:=fresh_block w (.cells #[.int .i64 pr.pool,.slice p pr.conts.length c,.slice q pr.threads.length d] TPr)
 have HTH:=hid (fun W (k:KeepBut (fun _=>False) V W)=>hth.keepS (w':=W) (S':=S) (fun b o v _ hc=>(hk1.trans k).stay hc) fun b hb=>hb)
 have HSI:=hid (fun W (k:KeepBut (fun _=>False) V W)=>size_any pr.threads hb hl W S q d pr.pool p pr.conts.length c (HTH.out W k))
 have HDE:=hid (fun W (k:KeepBut (fun _=>False) V W)=>deep_any pr.threads hb hl W S q d pr.pool p pr.conts.length c (HTH.out W k))
 have HB1:=hid hb1;have HK1:=hid hk1
 clear hth hb hl hb1 hk1 hs1
 go_enter Tryz.func38,Tryz.ntmps38
 go_upto_region 1 with fail
 rw [←hV,←hB1]
 clear hV hB1
 have bb:=fun w' (h:KeepBut (fun _=>False) V.drew w')=>blk3f (((KeepBut.drew _ V).trans h).blk HB1.out)
 refine wp_own0 (by kernel_rfl) (fun i=>[[],[0],[],[0,1,2],[0,1,2,3],[0,1,2,3,4]].getD i []) (fun _=>[]) (fun _=>[]) [] (by kernel_rfl) (fun i=>if i=1 then some (sConst (.int .i64 (thsSize pr.threads))) else if i=3 then some (sConst (.int .i64 (thsDeep pr.threads))) else none) ?_
 apply lex_quiet rfl rfl
 ·intro w' hk;obtain ⟨y0,y1,y2,-⟩:=bb w' hk;go_simp;with_reducible rfl
 simp only [Act.put,LS]
 refine lex_loud rfl rfl (loud_call 18 #[.agg #[.int .i64 pr.pool,.slice p pr.conts.length c,.slice q pr.threads.length d]] (fun w=>by kernel_rfl) ⟨default,trivial⟩ (fun g _=>stable_true _) fun w' hk _ _=>(HSI.out w' ((KeepBut.drew _ V).trans hk)).mono ?_) fun gs _=>?_
 ·rintro e w'' ⟨rfl,hq⟩
  exact ⟨default,trivial,rfl,hq.mono fun _ e=>e.elim,fun b h=>h.elim,trivial⟩
 simp only [sConst,Act.put,LS]
 apply lex_quiet rfl rfl
 ·intro w' hk;obtain ⟨y0,y1,y2,-⟩:=bb w' hk;go_simp;with_reducible rfl
 simp only [Act.put,LS]
 refine lex_loud rfl rfl (loud_call 19 #[.agg #[.int .i64 pr.pool,.slice p pr.conts.length c,.slice q pr.threads.length d]] (fun w=>by kernel_rfl) ⟨default,trivial⟩ (fun g _=>stable_true _) fun w' hk _ _=>(HDE.out w' ((KeepBut.drew _ V).trans hk)).mono ?_) fun gs _=>?_
 ·rintro e w'' ⟨rfl,hq⟩
  exact ⟨default,trivial,rfl,hq.mono fun _ e=>e.elim,fun b h=>h.elim,trivial⟩
 simp only [Act.put,LS]
 apply lex_quiet rfl rfl
 ·intro w' hk;go_simp;with_reducible rfl
 simp only [Act.put,LS]
 apply lex_quiet rfl rfl
 ·intro w' hk;go_simp;with_reducible rfl
 simp only [Act.put,LS]
 refine lex_nil ?_
 intro w9 hk9 _ _
 have HFIN:=hid (HK1.out.trans ((KeepBut.drew (fun _=>False) V).trans hk9))
 clear bb hk9
 go_wp2_with fail
 go_ret2
 exact ⟨rfl,HFIN.out⟩
/-- what reading a program defers, where nothing has been given up -/
theorem catch_idleP (a b:Addr) (w:World):
  CallsD Tryz.prog 75 #[.pointer (some a),.pointer (some b)] .returning w fun e u' w'=>e=.returned (.tuple #[])∧u'=.returning∧w'=w:=by
 refine callsD_of_wpS Tryz.func75 rfl fun c₀ cs hu=>?_
 apply wpS_seq
 apply wpS_region
 simp [wpOpsS,go_sem,recoverD,hu,Tryz.ntmps75,Exit.thenS]
 refine wpS_of_wp ?_
 simp only [Array.setIfInBounds,Array.replicate]
 go_wp2_with fail
 cases c₀
 simp_all [bodyPostS,results,Tryz.results75]
set_option maxRecDepth 100000 in
set_option maxHeartbeats 32000000 in
theorem readingP_any (s:ByteArray) (its:List Item) (pr:Pr) (w:World) (hT:TabS w) (hall:allT s.data.toList=(its,⟨0,0,0⟩)) (hss:s.size≤1000000) (hx:∀ R el ec,ReadsP R el ec its pr) (hthl:pr.threads.length≤1000000) (hne:its≠[]) (hsz:thsSize pr.threads≤600) (hdp:thsDeep pr.threads≤24):
  Calls Tryz.prog 36 #[.string s,.func (.func 37) #[] #[],.func (.func 38) #[] #[]] w fun e w'=>∃ vs,e=.returned (.tuple #[.agg vs.toArray,.agg #[.int .i64 0,.int .i64 0,.int .i64 0]])∧PrgAt w' (fun b=>w.heap.size≤b) vs pr∧KeepBut (fun _=>False) w w':=by
 obtain ⟨V1,B6,hV1,hB6,hb6,hk1,hs1⟩:=fresh_block w (.cells #[.int .i64 0,.slice none 0 0,.slice none 0 0] TPr)
 obtain ⟨V,B7,hV,hB7,hb7,hk2,hs2⟩:=fresh_block V1 (.cells #[.int .i64 0,.int .i64 0,.int .i64 0] TFa)
 have hk:=hk1.trans hk2
 have hALL:=all_room hall hne V (hk.tabS hT)
 have HALL:=hid hALL
 have HBE:=hid fun W=>behind_any s hss W
 have h67:B6+1=B7:=by omega
 have HK:=hid hk;have HB6:=hid (hk2.blk hb6);have HB7:=hid hb7;have HX:=hid hx;have HTHL:=hid hthl;have HSZ:=hid hsz;have HDP:=hid hdp
 have HN:=hid (show w.heap.size≤B6∧B6<B7∧B7<V.heap.size by omega)
 clear hT hall hss hx hthl hne hsz hdp hb6 hb7 hk1 hk2 hs1 hs2 hk hALL
 go_enter_defers Tryz.func36,Tryz.ntmps36
 go_upto_region 1 with fail
 rw [←hV1,←hB6,←hV,h67]
 clear hV1 hB6 hV hB7 h67
 go_wp2_with fail
 go_at_call 64
 refine HALL.out.mono ?_
 rintro e w1 ⟨g,cap,rfl,hrow,hc1,hc2,hg,hk⟩
 have HK1:=hid hk;have HROW:=hid hrow;have HCAP:=hid (And.intro hc1 hc2);have HG:=hid hg
 have hb71:=hk.blk HB7.out
 have HB71:=hid hb71
 obtain ⟨n0,n1,n2,f0,f1,f2⟩:=blk3f hb71
 clear hk hrow hc1 hc2 hg hb71
 go_upto_region 2 with fail
 obtain ⟨w2,hw2,hb2,hk2⟩:=put3 HB71.out (.int .i64 0) (.int .i64 0) (.int .i64 0)
 rw [←hw2]
 have hn:=HN.out
 have HB72:=hid hb2
 have HB62:=hid (hk2.blkE (HK1.out.blk HB6.out) fun e=>by have e:B6=B7:=e;omega)
 have HROW2:=hid (show RowI w2 (some ⟨g,0,none⟩) its∧g<w2.heap.size∧g≠B7∧g≠B6 from by
  have hg:=HG.out
  have h7:g≠B7:=by omega
  exact ⟨HROW.out.keep hk2 (fun a ha e=>by cases ha;exact h7 e),Nat.lt_of_lt_of_le hg.1 hk2.size,h7,by omega⟩)
 have HK2:=hid (show KeepBut (fun b=>b=B7) w w2 from ((HK.out.trans HK1.out).mono fun _ e=>e.elim).trans hk2)
 clear hw2 hb2 hk2 hn n0 n1 n2 f0 f1 f2
 obtain ⟨n0,n1,n2,-⟩:=blk3f HB72.out
 go_upto_region 5 with fail
 clear n0 n1 n2
 go_wp2_with fail
 go_at_call 66
 refine (HBE.out w2).mono ?_
 rintro e w3 ⟨el,ec,rfl,hk3⟩
 obtain ⟨W4,R,hW4,hR,hbr,hk4,hs4⟩:=fresh_block w3 (.cells #[.slice (some ⟨g,0,none⟩) its.length cap,.int .i64 0,.string ⟨#[]⟩,.int .i64 0,.int .i64 el,.int .i64 ec] TRd)
 have hk34:=hk3.trans hk4
 have HR4:=hid (show ReaderAt W4 R its el ec from ⟨some ⟨g,0,none⟩,cap,hbr,HROW2.out.1.keep hk34 (fun _ _ e=>e),fun a ha=>by cases ha;have:=HROW2.out.2.1;have:=hk3.size;show g<R;omega,HCAP.out⟩)
 have HRE:=hid (HX.out R el ec W4 HR4.out)
 have HB64:=hid (hk34.blk HB62.out);have HB74:=hid (hk34.blk HB72.out)
 have HK4:=hid (HK2.out.newM hk34 fun _ e=>e.elim)
 have HN4:=hid (show B7<R∧R<W4.heap.size∧w2.heap.size≤R by
  have h1:=(Array.getElem?_eq_some_iff.1 HB72.out).1
  have h2:=hk3.size
  omega)
 clear hk3 hk4 hk34 hbr hs4
 go_wp2_with fail
 rw [←hW4,←hR]
 clear hW4 hR
 go_at_call 37
 refine HRE.out.mono ?_
 rintro e w5 ⟨vs,rfl,hex,hk5⟩
 obtain ⟨xn,xp,xm,xc,yp,ym,yc,rfl⟩:=prg_form hex
 have hn:=HN.out;have hn4:=HN4.out
 have hb65:=hk5.blkE HB64.out fun e=>by have e:B6=R:=e;omega
 have HB65:=hid hb65
 have HB75:=hid (hk5.blkE HB74.out fun e=>by have e:B7=R:=e;omega)
 have HEX:=hid hex;have HK5:=hid hk5
 obtain ⟨m0,m1,m2,f0,f1,f2⟩:=blk3f hb65
 clear hex hk5 hb65 hn hn4
 go_upto_region 6 with fail
 obtain ⟨w6,hw6,hb6,hk6⟩:=put3 HB65.out (.int .i64 xn) (.slice xp xm xc) (.slice yp ym yc)
 rw [←hw6]
 have hn:=HN.out;have hn4:=HN4.out
 have HB66:=hid hb6
 have HB76:=hid (hk6.blkE HB75.out fun e=>by have e:B7=B6:=e;omega)
 have HEX6:=hid (HEX.out.keep hk6 fun b hb e=>by have e:b=B6:=e;have hb:W4.heap.size≤b:=hb;omega)
 have HKW6:=hid (show KeepBut (fun _=>False) w w6 from ⟨hk6.os.trans (HK5.out.os.trans HK4.out.os),hk6.tape.trans (HK5.out.tape.trans HK4.out.tape),hk6.output.trans (HK5.out.output.trans HK4.out.output),Nat.le_trans HK4.out.size (Nat.le_trans HK5.out.size hk6.size),fun b hb _=>by
  have h1:=HK4.out.size
  rw [hk6.block b (Nat.lt_of_lt_of_le hb (Nat.le_trans HK4.out.size HK5.out.size)) (show ¬b=B6 by omega),HK5.out.block b (by omega) (show ¬b=R by omega),HK4.out.block b hb (show ¬b=B7 by omega)]⟩)
 have HWG:=hid (weighP_any pr (by have:=HSZ.out;omega) HTHL.out w6 _ _ HEX6.out)
 obtain ⟨c0,c1,c2,-⟩:=blk3f hb6
 clear hw6 hb6 hk6 hn hn4 m0 m1 m2 f0 f1 f2
 go_wp2_with fail
 go_at_call 38
 refine HWG.out.mono ?_
 rintro e w7 ⟨rfl,hk7⟩
 have HKW7:=hid (HKW6.out.trans hk7)
 have HB67:=hid (hk7.blk HB66.out);have HB77:=hid (hk7.blk HB76.out);have HEX7:=hid (HEX6.out.keep hk7 fun _ _ e=>e)
 have h600:decide ((600:Int)<(thsSize pr.threads:Int))=false:=decide_eq_false (by have:=HSZ.out;omega)
 have h24:decide ((24:Int)<(thsDeep pr.threads:Int))=false:=decide_eq_false (by have:=HDP.out;omega)
 clear hk7 c0 c1 c2
 go_upto_region 9 with fail
 refine wp_ownB (by kernel_rfl) B6 B7 _ _ HB67.out HB77.out (by have:=HN.out;omega) (fun i=>[[],[],[0],[0,1,2]].getD i []) (fun i=>if i=0 then [4] else if i=1 then [5] else if i=2 then [4] else if i=3 then [5] else []) (fun i=>if i=2 then [4] else if i=3 then [5] else []) [2,3] (by kernel_rfl)
  (fun i=>if i=0 then some (sConst (.agg #[.int .i64 xn,.slice xp xm xc,.slice yp ym yc])) else if i=1 then some (sConst (.agg #[.int .i64 0,.int .i64 0,.int .i64 0])) else if i=2 then some (sPut B6 TPr) else if i=3 then some (sPut B7 TFa) else none) ?_
 refine lex_loud rfl rfl (loud_run ⟨default,trivial⟩ (fun g _ w w' _ _ _ _ _=>trivial) fun w' hk hav _=>by
  obtain ⟨x0,x1,x2,-⟩:=blk3f (show w'.heap[B6]?=some (.cells #[.int .i64 xn,.slice xp xm xc,.slice yp ym yc] TPr (0,0)) from (hav 4 (by decide)).1)
  exact ⟨w',default,trivial,.inl (by go_simp <;> rfl),KeepBut.refl _ _,fun b h=>h.elim,trivial⟩) fun _ _=>?_
 simp only [sConst,Act.put,LS]
 refine lex_loud rfl rfl (loud_run ⟨default,trivial⟩ (fun g _ w w' _ _ _ _ _=>trivial) fun w' hk hav _=>by
  obtain ⟨x0,x1,x2,-⟩:=blk3f (show w'.heap[B7]?=some (.cells #[.int .i64 0,.int .i64 0,.int .i64 0] TFa (0,0)) from (hav 5 (by decide)).1)
  exact ⟨w',default,trivial,.inl (by go_simp <;> rfl),KeepBut.refl _ _,fun b h=>h.elim,trivial⟩) fun _ _=>?_
 simp only [Act.put,LS]
 refine lex_loud rfl rfl (loud_put B6 TPr TPr #[.int .i64 xn,.slice xp xm xc,.slice yp ym yc] _ (.tmp 6) (.tmp 44) rfl rfl rfl 4 (by decide) (by decide) (fun w h=>h) (.inl ⟨rfl,rfl⟩) rfl (by kernel_rfl) (by simp [Value.oneCell'])) fun g2 _=>?_
 simp only [sPut,Act.put]
 refine lex_loud rfl rfl (loud_put B7 TFa TFa #[.int .i64 0,.int .i64 0,.int .i64 0] _ (.tmp 7) (.tmp 45) rfl rfl rfl 5 (by decide) (by decide) (fun w h=>h) (.inr ⟨rfl,rfl⟩) rfl (by kernel_rfl) (by simp [Value.oneCell'])) fun g3 _=>?_
 simp only [Act.put]
 refine lex_nil ?_
 intro w9 hk9 hF _
 have f2:w9.heap[B6]?=some (.cells #[.int .i64 xn,.slice xp xm xc,.slice yp ym yc] TPr (0,0)):=(hF 2 (by decide)).1 _ (put_args rfl rfl)
 have f3:w9.heap[B7]?=some (.cells #[.int .i64 0,.int .i64 0,.int .i64 0] TFa (0,0)):=(hF 3 (by decide)).1 _ (put_args rfl rfl)
 have hkM:=(KeepBut.drew (fun b=>b=B6∨b=B7) w7).trans hk9
 have hn:=HN.out;have hn4:=HN4.out
 have HEX9:=hid ((HEX7.out.keep hkM fun b hb e=>by have hb:W4.heap.size≤b:=hb;omega).mono (S':=fun b=>w.heap.size≤b) fun b hb=>by have hb:W4.heap.size≤b:=hb;omega)
 have HK9:=hid (HKW7.out.new hkM fun b hb=>by omega)
 obtain ⟨c0,c1,c2,-⟩:=blk3f f2
 obtain ⟨d0,d1,d2,-⟩:=blk3f f3
 clear hk9 hF f2 f3 hkM hn hn4
 go_wp2_with fail
 refine leaves_cons (f:=75) (args:=#[.pointer (some ⟨B6,0,none⟩),.pointer (some ⟨B7,0,none⟩)]) (by simp) (by simp [go_sem]) ?_
 refine (catch_idleP ⟨B6,0,none⟩ ⟨B7,0,none⟩ _).mono ?_
 rintro e u' w'' ⟨rfl,rfl,rfl⟩
 exact ⟨.tuple #[.agg #[.int .i64 xn,.slice xp xm xc,.slice yp ym yc],.agg #[.int .i64 0,.int .i64 0,.int .i64 0]],by simp [results,Tryz.results36,go_sem,c0,c1,c2,d0,d1,d2],_,rfl,HEX9.out,HK9.out⟩
set_option maxHeartbeats 8000000 in
/-- Expr, of a text that is an expression -/
theorem prog_any (s:ByteArray) (its:List Item) (pr:Pr) (w:World) (hT:TabS w) (hall:allT s.data.toList=(its,⟨0,0,0⟩)) (hss:s.size≤1000000) (hx:∀ R el ec,ReadsP R el ec its pr) (hthl:pr.threads.length≤1000000) (hne:its≠[]) (hsz:thsSize pr.threads≤600) (hdp:thsDeep pr.threads≤24):
  Calls Tryz.prog 16 #[.string s] w fun e w'=>∃ vs,e=.returned (.tuple #[.agg vs.toArray,.agg #[.int .i64 0,.int .i64 0,.int .i64 0]])∧PrgAt w' (fun b=>w.heap.size≤b) vs pr∧KeepBut (fun _=>False) w w':=by
 obtain ⟨V1,B2,hV1,hB2,hb2,hk1,hs1⟩:=fresh_block w (.cells #[.int .i64 0,.slice none 0 0,.slice none 0 0] TPr)
 obtain ⟨V,B3,hV,hB3,hb3,hk2,hs2⟩:=fresh_block V1 (.cells #[.int .i64 0,.int .i64 0,.int .i64 0] TFa)
 have hk:=hk1.trans hk2
 have HRE:=hid (readingP_any s its pr V (hk.tabS hT) hall hss hx hthl hne hsz hdp)
 have h23:B2+1=B3:=by omega
 have HK:=hid hk;have HB2:=hid (hk2.blk hb2);have HB3:=hid hb3
 have HN:=hid (show w.heap.size≤B2∧B2<B3∧B3<V.heap.size by omega)
 clear hT hall hss hx hthl hne hsz hdp hb2 hb3 hk1 hk2 hs1 hs2 hk
 go_enter Tryz.func16,Tryz.ntmps16
 go_upto_region 1 with fail
 rw [←hV1,←hB2,←hV,h23]
 clear hV1 hB2 hV hB3 h23
 go_wp2_with fail
 go_at_call 36
 refine HRE.out.mono ?_
 rintro e w1 ⟨vs,rfl,hex,hk1⟩
 obtain ⟨xn,xp,xm,xc,yp,ym,yc,rfl⟩:=prg_form hex
 have HEX:=hid hex;have HK1:=hid hk1
 have hb2:=hk1.blk HB2.out;have hb3:=hk1.blk HB3.out
 have HB2:=hid hb2;have HB3:=hid hb3
 obtain ⟨m0,m1,m2,f0,f1,f2⟩:=blk3f hb2
 obtain ⟨q0,q1,q2,g0,g1,g2⟩:=blk3f hb3
 have hne23:B2≠B3:=by have:=HN.out;omega
 have hne32:B3≠B2:=by have:=HN.out;omega
 clear hex hk1 hb2 hb3
 go_wp2_with fail
 obtain ⟨wa,hwa,hba,hka⟩:=put3 HB2.out (.int .i64 xn) (.slice xp xm xc) (.slice yp ym yc)
 rw [←hwa]
 have hn:=HN.out
 obtain ⟨wf,hwf,hbf,hkf⟩:=put3 (hka.blkE HB3.out fun e=>by have e:B3=B2:=e;omega) (.int .i64 0) (.int .i64 0) (.int .i64 0)
 rw [←hwf]
 obtain ⟨c0,c1,c2,-⟩:=blk3f (hkf.blkE hba fun e=>by have e:B2=B3:=e;omega)
 obtain ⟨d0,d1,d2,-⟩:=blk3f hbf
 clear hwa hwf
 exact bodyPost_ret (v:=.tuple #[.agg #[.int .i64 xn,.slice xp xm xc,.slice yp ym yc],.agg #[.int .i64 0,.int .i64 0,.int .i64 0]]) (by simp [results,Tryz.results16,go_sem,c0,c1,c2,d0,d1,d2]) rfl ⟨_,rfl,((HEX.out.keep hka fun b hb e=>by have e:b=B2:=e;have hb:V.heap.size≤b:=hb;omega).keep hkf fun b hb e=>by have e:b=B3:=e;have hb:V.heap.size≤b:=hb;omega).mono fun b hb=>by have hb:V.heap.size≤b:=hb;omega,((HK.out.trans HK1.out).new hka fun b e=>by have e:b=B2:=e;omega).new hkf fun b e=>by have e:b=B3:=e;omega⟩
end Go.Proofs.YtomlffobbkcmdaaGreatDoor
