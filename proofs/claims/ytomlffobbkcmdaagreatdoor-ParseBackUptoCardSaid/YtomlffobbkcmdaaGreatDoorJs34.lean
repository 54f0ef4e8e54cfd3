import Derived.Test.YtomlffobbkcmdaaGreatDoorJs31
import Derived.Test.YtomlffobbkcmdaaGreatDoorJs32
import Derived.Test.YtomlffobbkcmdaaGreatDoorJs33
set_option maxHeartbeats 8000000
namespace Go.Proofs.YtomlffobbkcmdaaGreatDoor
open Go Go.RowKit Own
open Go.Lib (hid)
theorem mayS_out (x:Gs)(k sz op l cl:Int)(nm val into cont:List UInt8)(xs:List Gx)(thn els:List Gs)(hx:x=.mk k nm sz op val into cont xs thn els l cl)(hk:¬(1≤k∧k≤9))(w:World)(S:Nat→Prop)(vs:List Value)(hs:SAt w S vs x):
  Calls Tryz.prog 93 #[.agg vs.toArray] w fun e w'=>e=.returned (.bool false)∧BA (fun _=>False) w w':=by
 subst hx
 unfold SAt at hs
 obtain⟨p1,c1,p2,c2,p3,c3,rfl,-⟩:=hs
 unfold strV
 obtain⟨V,B1,hV,hB1,hb1,hk1,hs1⟩:=BC w (.cells #[.int .i64 k,.string ⟨nm.toArray⟩,.int .i64 sz,.int .i64 op,.string ⟨val.toArray⟩,.string ⟨into.toArray⟩,.string ⟨cont.toArray⟩,.slice p1 xs.length c1,.slice p2 thn.length c2,.slice p3 els.length c3,.int .i64 l,.int .i64 cl] TSm)
 have HK:=hid hk1
 obtain⟨n0,n1,n2,n3,n4,n5,n6,n7,n8,n9,n10,n11⟩:=BH hb1
 clear hb1 hk1 hs1
 go_enter Tryz.func93,Tryz.ntmps93
 go_upto_region 1 with fail
 rw[←hV,←hB1]
 clear hV hB1
 by_cases h1:k<1
 ·go_wp2_with fail
  go_ret
  exact⟨rfl,HK.out⟩
 ·have h9:9<k:=by omega
  go_wp2_with fail
  go_ret
  exact⟨rfl,HK.out⟩
mutual
def fitS:Gs→Prop
 |.mk _ _ _ _ val into cont _ thn els _ _=>val.length+into.length+cont.length≤1099511627776∧fitSL thn∧fitSL els
def fitSL:List Gs→Prop
 |[]=>True
 |s::l=>fitS s∧fitSL l
end
theorem fitSL_get:∀{l:List Gs},fitSL l→∀i (h:i<l.length),fitS l[i]
 |[],_,i,h=>absurd h (by simp)
 |s::l,hf,0,_=>by unfold fitSL at hf;exact hf.1
 |s::l,hf,i+1,h=>by unfold fitSL at hf;exact fitSL_get hf.2 i (by simpa using h)
theorem says_mayS:∀(n:Nat) (x:Gs),CS x≤n→n≤1099511627776→fitS x→SaysS mayS x
 |0,x,hx,_,_=>by cases x;unfold CS at hx;omega
 | n+1,.mk k nm sz op val into cont xs thn els l cl,hx,hn,hf=>by
  unfold fitS at hf
  obtain⟨hf1,hf2,hf3⟩:=hf
  have hss:CS (.mk k nm sz op val into cont xs thn els l cl)=BO xs+BN thn+BN els+1:=by unfold CS;rfl
  rw[hss]at hx
  have hX:∀i (h:i<xs.length),SaysMayG mayG xs[i]:=fun i h=>mayG_any 1099511627776 xs[i] (by have:=gsize_mem h;omega) (Nat.le_refl _)
  have hT:∀i (h:i<thn.length),SaysS mayS thn[i]:=fun i h=>says_mayS n thn[i] (by have:=GA h;omega) (by omega) (fitSL_get hf2 i h)
  have hE:∀i (h:i<els.length),SaysS mayS els[i]:=fun i h=>says_mayS n els[i] (by have:=GA h;omega) (by omega) (fitSL_get hf3 i h)
  have lx:=glen_size xs
  have lt:=FV thn
  have le:=FV els
  intro w S vs hT' hs
  by_cases hk:1≤k∧k≤9
  ·have hm:mayS (.mk k nm sz op val into cont xs thn els l cl)=(GF k sz op nm val into cont xs.length thn.length els.length && (CR xs && (BX thn && BX els))):=by
    unfold mayS
    rw[decide_eq_true hk.1,decide_eq_true hk.2,Bool.true_and,Bool.true_and]
   rw[hm]
   unfold GF
   by_cases h13:k=1∨k=3
   ·rw[if_pos h13]
    exact ms_A1 k sz op l cl nm val into cont xs thn els hk (by unfold needV;rw[if_pos h13]) trivial hX hT hE hf1 (by omega) (by omega) (by omega) w S vs hT' hs
   rw[if_neg h13]
   by_cases h2:k=2
   ·rw[if_pos h2]
    exact ms_B k sz op l cl nm val into cont xs thn els hk (by unfold needV;rw[if_neg h13,if_pos h2]) trivial hX hT hE hf1 (by omega) (by omega) (by omega) w S vs hT' hs
   rw[if_neg h2]
   by_cases h4:k=4
   ·rw[if_pos h4]
    exact ms_A2 k sz op l cl nm val into cont xs thn els hk (by unfold needV;rw[if_neg h13,if_neg h2,if_pos h4]) trivial hX hT hE hf1 (by omega) (by omega) (by omega) w S vs hT' hs
   rw[if_neg h4]
   by_cases h5:k=5
   ·rw[if_pos h5]
    exact ms_C1 k sz op l cl nm val into cont xs thn els hk (by unfold needV;rw[if_neg h13,if_neg h2,if_neg h4,if_pos h5]) trivial hX hT hE hf1 (by omega) (by omega) (by omega) w S vs hT' hs
   rw[if_neg h5]
   by_cases h6:k=6
   ·rw[if_pos h6]
    exact ms_C2 k sz op l cl nm val into cont xs thn els hk (by unfold needV;rw[if_neg h13,if_neg h2,if_neg h4,if_neg h5,if_pos h6]) trivial hX hT hE hf1 (by omega) (by omega) (by omega) w S vs hT' hs
   rw[if_neg h6]
   by_cases h9:k=9
   ·rw[if_pos h9]
    by_cases ht:op=2∨op=4
    ·rw[if_pos ht]
     exact ms_D k sz op l cl nm val into cont xs thn els hk (by unfold needV;rw[if_neg h13,if_neg h2,if_neg h4,if_neg h5,if_neg h6,if_pos h9,if_pos ht]) ht hX hT hE hf1 (by omega) (by omega) (by omega) w S vs hT' hs
    ·rw[if_neg ht]
     exact ms_E k sz op l cl nm val into cont xs thn els hk (by unfold needV;rw[if_neg h13,if_neg h2,if_neg h4,if_neg h5,if_neg h6,if_pos h9,if_neg ht]) ht hX hT hE hf1 (by omega) (by omega) (by omega) w S vs hT' hs
   rw[if_neg h9]
   exact ms_C3 k sz op l cl nm val into cont xs thn els hk (by unfold needV;rw[if_neg h13,if_neg h2,if_neg h4,if_neg h5,if_neg h6,if_neg h9]) trivial hX hT hE hf1 (by omega) (by omega) (by omega) w S vs hT' hs
  ·have hm:mayS (.mk k nm sz op val into cont xs thn els l cl)=false:=by
    unfold mayS
    by_cases h1:1≤k
    ·rw[decide_eq_false (p:=k≤9) (by omega),Bool.false_and,Bool.and_false]
    ·rw[decide_eq_false h1,Bool.false_and]
   rw[hm]
   exact mayS_out _ k sz op l cl nm val into cont xs thn els rfl hk w S vs hs
theorem mayBlk_any (l:List Gs)(hb:BN l≤1099511627776)(hf:fitSL l)(w:World)(hT:TabS w)(S:Nat→Prop)(p:Option Addr)(c:Nat)(hp:DV w S p 0 l):
  Calls Tryz.prog 49 #[.slice p l.length c] w fun e w'=>e=.returned (.bool (BX l))∧BA (fun _=>False) w w':=by
 have h:=CT mayS l (fun i h=>says_mayS 1099511627776 l[i] (by have:=GA h;omega) (Nat.le_refl _) (fitSL_get hf i h)) (by have:=FV l;omega) w hT S p c hp
 rw[maySL_any]at h
 exact h
def DY (p:Gp):Bool:=decide (0≤p.pool) && (p.conts.all mayC && p.threads.all BX)
theorem any_not {α:Type}(f:α→Bool):∀l:List α,(l.any fun x=>!f x)=!(l.all f)
 |[]=>rfl
 |x::l=>by rw[List.any_cons,List.all_cons,any_not f l,Bool.not_and]
theorem check_any (p:Gp)(hb:DQ p.threads≤1099511627776)(hc:p.conts.length≤2000000)(hl:p.threads.length≤2000000)(hf:∀l∈p.threads,fitSL l)(w:World)(hT:TabS w)(S:Nat→Prop)(v:Value)(h:PAt w S v p):
  Calls Tryz.prog 20 #[v] w fun e w'=>e=.returned (.int .i64 (if DY p=true then 0 else 9))∧BA (fun _=>False) w w':=by
 obtain⟨pool,conts,threads⟩:=p
 obtain⟨p1,c1,p2,c2,rfl,hcs,hts⟩:=h
 dsimp only at hb hc hl hf hcs hts ⊢
 obtain⟨V,B1,hV,hB1,hb1,hk1,hs1⟩:=BC w (.cells #[.int .i64 pool,.slice p1 conts.length c1,.slice p2 threads.length c2] TPr)
 have HCC:=hid (hasC_any (fun c=>!mayC c) conts (fun i h W hT=>mayFnC_any conts[i] W hT) (by omega) V (hk1.tabS hT) S p1 c1 (hcs.keep hk1 fun _ _ e=>e))
 have HTT:=hid (fun W (k:BA (fun _=>False) V W)=>hasT_any (fun l=>!BX l) threads (fun i h W S q cq hT hsk=>mayFnT_any _ W q _ cq (mayBlk_any threads[i] (by have:=hSize_mem h;omega) (hf _ (List.getElem_mem h)) W hT S q cq hsk)) (by omega) W ((hk1.trans k).tabS hT) S p2 c2 (hts.keep (hk1.trans k) fun _ _ e=>e))
 rw[any_not]at HCC
 have HB:=hid hb1;have HK1:=hid hk1
 obtain⟨res,hres⟩:∃r:Int,(if DY ⟨pool,conts,threads⟩=true then (0:Int) else 9)=r:=⟨_,rfl⟩
 rw[hres]
 unfold DY at hres
 dsimp only at hres
 obtain⟨n0,n1,n2,-⟩:=BY hb1
 clear hcs hts hb1 hk1 hs1 hb hc hl hf
 go_enter Tryz.func20,Tryz.ntmps20
 go_upto_region 1 with fail
 rw[←hV,←hB1]
 clear hV hB1
 by_cases h0:0≤pool
 ·have h0i:¬pool<0:=by omega
  rw[decide_eq_true h0,Bool.true_and]at hres
  cases hcc:conts.all mayC with
  | false=>
   rw[hcc,Bool.false_and,if_neg NT]at hres
   have HQ:=hid (by have h:=HCC.out;rw[hcc]at h;exact h)
   subst hres
   go_wp2_with fail
   go_at_call 46
   refine HQ.out.mono ?_
   rintro e w2 ⟨rfl,hk2⟩
   have HK2:=hid hk2
   clear hk2
   go_wp2_with fail
   go_ret
   exact⟨rfl,HK1.out.trans HK2.out⟩
  | true=>
   rw[hcc,Bool.true_and]at hres
   have HQ:=hid (by have h:=HCC.out;rw[hcc]at h;exact h)
   have HRES:=hid hres
   clear hres
   go_wp2_with fail
   go_at_call 46
   refine HQ.out.mono ?_
   rintro e w2 ⟨rfl,hk2⟩
   have HK2:=hid hk2
   have HT2:=hid (HTT.out w2 hk2)
   clear n0 n1 n2
   obtain⟨n0,n1,n2,-⟩:=BY (hk2.blk HB.out)
   clear hk2
   rw[any_not]at HT2
   cases htt:threads.all BX with
   | false=>
    have hres:=HRES.out
    rw[htt,if_neg NT]at hres
    rw[htt]at HT2
    subst hres
    go_wp2_with fail
    go_at_call 47
    refine HT2.out.mono ?_
    rintro e w3 ⟨rfl,hk3⟩
    have HK3:=hid hk3
    clear hk3
    go_wp2_with fail
    go_ret
    exact⟨rfl,(HK1.out.trans HK2.out).trans HK3.out⟩
   | true=>
    have hres:=HRES.out
    rw[htt,if_pos rfl]at hres
    rw[htt]at HT2
    subst hres
    go_wp2_with fail
    go_at_call 47
    refine HT2.out.mono ?_
    rintro e w3 ⟨rfl,hk3⟩
    have HK3:=hid hk3
    clear hk3
    go_wp2_with fail
    go_ret
    exact⟨rfl,(HK1.out.trans HK2.out).trans HK3.out⟩
 ·have h0i:pool<0:=by omega
  rw[decide_eq_false h0,Bool.false_and,if_neg NT]at hres
  subst hres
  go_wp2_with fail
  go_ret
  exact⟨rfl,HK1.out⟩
open Go
mutual
def eG:Gx→Gx
 |.mk k o n nm _ _ ks=>.mk k o n nm 0 0 (eGL ks)
def eGL:List Gx→List Gx
 |[]=>[]
 |x::l=>eG x::eGL l
end
mutual
def eS:Gs→Gs
 |.mk k nm sz op val into cont xs thn els _ _=>.mk k nm sz op val into cont (eGL xs) (eSL thn) (eSL els) 0 0
def eSL:List Gs→List Gs
 |[]=>[]
 |x::l=>eS x::eSL l
end
def eC (c:Gc):Gc:=⟨c.kind,c.name,0,0⟩
def eP (p:Gp):Gp:=⟨p.pool,p.conts.map eC,p.threads.map eSL⟩
mutual
theorem sameG_iff:∀x y:Gx,sameG x y=true↔eG x=eG y
 | .mk k o n nm _ _ ks,.mk k' o' n' nm' _ _ ks'=>by
  unfold sameG eG
  simp only[Bool.and_eq_true,decide_eq_true_eq,Gx.mk.injEq,sameGL_iff ks ks',true_and]
theorem sameGL_iff:∀a b:List Gx,DM a b=true↔eGL a=eGL b
 |[],[]=>by unfold DM eGL;simp
 | x::a,y::b=>by
  unfold DM eGL
  simp only[Bool.and_eq_true,List.cons.injEq,sameG_iff x y,sameGL_iff a b]
 |[],_::_=>by unfold DM eGL;simp
 |_::_,[]=>by unfold DM eGL;simp
end
mutual
theorem sameS_iff:∀x y:Gs,sameS x y=true↔eS x=eS y
 | .mk k nm sz op val into cont xs thn els _ _,.mk k' nm' sz' op' val' into' cont' xs' thn' els' _ _=>by
  unfold sameS eS
  simp only[Bool.and_eq_true,decide_eq_true_eq,Gs.mk.injEq,sameGL_iff xs xs',sameSL_iff thn thn',sameSL_iff els els',and_true]
theorem sameSL_iff:∀a b:List Gs,DX a b=true↔eSL a=eSL b
 |[],[]=>by unfold DX eSL;simp
 | x::a,y::b=>by
  unfold DX eSL
  simp only[Bool.and_eq_true,List.cons.injEq,sameS_iff x y,sameSL_iff a b]
 |[],_::_=>by unfold DX eSL;simp
 |_::_,[]=>by unfold DX eSL;simp
end
theorem alls_iff {α β:Type}{f:α→α→Bool}{e:α→β}(h:∀x y,f x y=true↔e x=e y):∀a b:List α,alls f a b=true↔a.map e=b.map e
 |[],[]=>by unfold alls;simp
 | x::a,y::b=>by
  unfold alls
  simp only[Bool.and_eq_true,List.map_cons,List.cons.injEq,h x y,alls_iff h a b]
 |[],_::_=>by unfold alls;simp
 |_::_,[]=>by unfold alls;simp
theorem sameC_iff (a b:Gc):sameC a b=true↔eC a=eC b:=by
 unfold sameC eC
 simp
theorem sameP_iff (a b:Gp):sameP a b=true↔eP a=eP b:=by
 unfold sameP eP
 simp only[Bool.and_eq_true,decide_eq_true_eq,Gp.mk.injEq,alls_iff sameC_iff,alls_iff sameSL_iff]
theorem kindG_e (x:Gx):kindG (eG x)=kindG x:=by cases x;unfold eG;rfl
mutual
theorem tokG_e:∀x:Gx,tokG (eG x)=tokG x
 |.mk k o n nm _ _ ks=>by unfold eG tokG;rw[tokA_e ks,kidA_e ks,kidB_e ks]
theorem tokA_e:∀l:List Gx,tokA (eGL l)=tokA l
 |[]=>by unfold eGL;rfl
 |x::l=>by unfold eGL tokA;exact tokG_e x
theorem kidA_e:∀l:List Gx,kidA (eGL l)=kidA l
 |[]=>by unfold eGL;rfl
 |x::l=>by unfold eGL kidA;rw[tokG_e x,kindG_e x]
theorem kidB_e:∀l:List Gx,kidB (eGL l)=kidB l
 |[]=>by unfold eGL;rfl
 |_::l=>by unfold eGL kidB;exact kidA_e l
end
theorem eGL_len:∀l:List Gx,(eGL l).length=l.length
 |[]=>by unfold eGL;rfl
 |x::l=>by unfold eGL;simp[eGL_len l]
theorem eSL_len:∀l:List Gs,(eSL l).length=l.length
 |[]=>by unfold eSL;rfl
 |x::l=>by unfold eSL;simp[eSL_len l]
theorem eGL_tail (l : List Gx) : (eGL l).tail = eGL l.tail := by
  cases l with
  |nil => unfold eGL; rfl
  |cons x l =>  conv => lhs; unfold eGL
                rfl
mutual
theorem mayG_e:∀x:Gx,mayG (eG x)=mayG x
 |.mk k o n nm _ _ ks=>by unfold eG mayG;rw[eGL_len,mayGL_e ks]
theorem mayGL_e:∀l:List Gx,CR (eGL l)=CR l
 |[]=>by unfold eGL;rfl
 |x::l=>by unfold eGL CR;rw[mayG_e x,mayGL_e l]
end
mutual
theorem gSize_e:∀x:Gx,CM (eG x)=CM x
 |.mk k o n nm _ _ ks=>by unfold eG CM;rw[gSizeL_e ks]
theorem gSizeL_e:∀l:List Gx,BO (eGL l)=BO l
 |[]=>by unfold eGL;rfl
 |x::l=>by unfold eGL BO;rw[gSize_e x,gSizeL_e l]
end
mutual
theorem gDeep_e:∀x:Gx,FY (eG x)=FY x
 |.mk k o n nm _ _ ks=>by unfold eG FY;rw[gDeepL_e ks]
theorem gDeepL_e:∀l:List Gx,CH (eGL l)=CH l
 |[]=>by unfold eGL;rfl
 |x::l=>by unfold eGL CH;rw[gDeep_e x,gDeepL_e l]
end
mutual
theorem fitG_e:∀x:Gx,fitG (eG x)↔fitG x
 |.mk k o n nm _ _ ks=>by unfold eG fitG;rw[fitGL_e ks]
theorem fitGL_e:∀l:List Gx,DU (eGL l)↔DU l
 |[]=>by unfold eGL;exact Iff.rfl
 |x::l=>by unfold eGL DU;rw[fitG_e x,fitGL_e l]
end
mutual
theorem tokS_e:∀x:Gs,tokS (eS x)=tokS x
 | .mk k nm sz op val into cont xs thn els _ _=>by
  unfold eS tokS callT
  rw[eGL_tail,tokA_e,tokA_e,tokSL_e thn,elsT_e els]
theorem elsT_e:∀l:List Gs,elsT (eSL l)=elsT l
 |[]=>by unfold eSL;rfl
 |x::l=>by unfold eSL elsT;rw[tokS_e x,tokSL_e l]
theorem tokSL_e:∀l:List Gs,FH (eSL l)=FH l
 |[]=>by unfold eSL;rfl
 |x::l=>by unfold eSL FH;rw[tokS_e x,tokSL_e l]
end
mutual
theorem mayS_e:∀x:Gs,mayS (eS x)=mayS x
 |.mk k nm sz op val into cont xs thn els _ _=>by unfold eS mayS;rw[eGL_len,eSL_len,eSL_len,mayGL_e,maySL_e thn,maySL_e els]
theorem maySL_e:∀l:List Gs,BX (eSL l)=BX l
 |[]=>by unfold eSL;rfl
 |x::l=>by unfold eSL BX;rw[mayS_e x,maySL_e l]
end
mutual
theorem sSize_e:∀x:Gs,CS (eS x)=CS x
 |.mk k nm sz op val into cont xs thn els _ _=>by unfold eS CS;rw[gSizeL_e,sSizeL_e thn,sSizeL_e els]
theorem sSizeL_e:∀l:List Gs,BN (eSL l)=BN l
 |[]=>by unfold eSL;rfl
 |x::l=>by unfold eSL BN;rw[sSize_e x,sSizeL_e l]
end
mutual
theorem sDeep_e:∀x:Gs,sDeep (eS x)=sDeep x
 |.mk k nm sz op val into cont xs thn els _ _=>by unfold eS sDeep;rw[gDeepL_e,sDeepL_e thn,sDeepL_e els]
theorem sDeepL_e:∀l:List Gs,DC (eSL l)=DC l
 |[]=>by unfold eSL;rfl
 |x::l=>by unfold eSL DC;rw[sDeep_e x,sDeepL_e l]
end
mutual
theorem fitN_e:∀x:Gs,fitN (eS x)↔fitN x
 |.mk k nm sz op val into cont xs thn els _ _=>by unfold eS fitN;rw[fitGL_e,fitNL_e thn,fitNL_e els]
theorem fitNL_e:∀l:List Gs,DT (eSL l)↔DT l
 |[]=>by unfold eSL;exact Iff.rfl
 |x::l=>by unfold eSL DT;rw[fitN_e x,fitNL_e l]
end
mutual
theorem fitS_e:∀x:Gs,fitS (eS x)↔fitS x
 |.mk k nm sz op val into cont xs thn els _ _=>by unfold eS fitS;rw[fitSL_e thn,fitSL_e els]
theorem fitSL_e:∀l:List Gs,fitSL (eSL l)↔fitSL l
 |[]=>by unfold eSL;exact Iff.rfl
 |x::l=>by unfold eSL fitSL;rw[fitS_e x,fitSL_e l]
end
theorem hSize_e:∀l:List (List Gs),DQ (l.map eSL)=DQ l
 |[]=>rfl
 |x::l=>by rw[List.map_cons];unfold DQ;rw[sSizeL_e,hSize_e l]
theorem hDeep_e:∀l:List (List Gs),hDeep (l.map eSL)=hDeep l
 |[]=>rfl
 |x::l=>by rw[List.map_cons];unfold hDeep;rw[sDeepL_e,hDeep_e l]
theorem tokP_e (p:Gp):tokP (eP p)=tokP p:=by
 have h1:(p.conts.map eC).flatMap tokCt=p.conts.flatMap tokCt:=by rw[List.flatMap_map];rfl
 have h2:((p.threads.map eSL).flatMap fun l=>[[116,104,114,101,97,100]]++FT l)=p.threads.flatMap fun l=>[[116,104,114,101,97,100]]++FT l:=by
  rw[List.flatMap_map]
  congr 1
  funext l
  unfold FT
  rw[tokSL_e]
 unfold tokP eP
 dsimp only
 rw[h1,h2]
theorem checkP_e (p:Gp):DY (eP p)=DY p:=by
 unfold DY eP
 dsimp only
 rw[List.all_map,List.all_map,show mayC ∘ eC=mayC from rfl,show BX ∘ eSL=BX from funext maySL_e]
theorem same_of {p q:Gp}(h:sameP p q=true):tokP q=tokP p∧DY q=DY p∧q.pool=p.pool∧DQ q.threads=DQ p.threads∧hDeep q.threads=hDeep p.threads∧q.conts.length=p.conts.length∧q.threads.length=p.threads.length∧
  ((∀l∈p.threads,fitSL l)→∀l∈q.threads,fitSL l)∧((∀l∈p.threads,DT l)→∀l∈q.threads,DT l):=by
 have e:=(sameP_iff p q).1 h
 have h3:=congrArg Gp.pool e
 have h1:=congrArg Gp.conts e
 have h2:=congrArg Gp.threads e
 unfold eP at h1 h2 h3
 dsimp only at h1 h2 h3
 have mem:∀(P:List Gs→Prop),(∀l,P (eSL l)↔P l)→(∀l∈p.threads,P l)→∀l∈q.threads,P l:=fun P hP ha l hl=>by
  have hm:eSL l∈q.threads.map eSL:=List.mem_map.2 ⟨l,hl,rfl⟩
  rw[←h2]at hm
  obtain⟨m,hm1,hm2⟩:=List.mem_map.1 hm
  rw[←hP l,←hm2,hP m]
  exact ha m hm1
 refine⟨by rw[←tokP_e q,←e,tokP_e],by rw[←checkP_e q,←e,checkP_e],h3.symm,by rw[←hSize_e q.threads,←h2,hSize_e],by rw[←hDeep_e q.threads,←h2,hDeep_e],by simpa using (congrArg List.length h1).symm,by simpa using (congrArg List.length h2).symm,mem fitSL fitSL_e,mem DT fitNL_e⟩
mutual
theorem toG_deep:∀x:Ex,FY (toG x)=exDeep x
 |.mk k o n nm l c ks=>by unfold toG FY exDeep;rw[toGL_deep ks]
theorem toGL_deep:∀l:List Ex,CH (toGL l)=deepL l
 |[]=>rfl
 |x::l=>by unfold toGL CH deepL;rw[toG_deep x,toGL_deep l]
end
mutual
theorem toS_deep:∀x:St,sDeep (toS x)=stDeep x
 |.mk k nm sz op val into cont xs thn els l c=>by unfold toS sDeep stDeep;rw[toGL_deep xs,toSL_deep thn,toSL_deep els]
theorem toSL_deep:∀l:List St,DC (toSL l)=DN l
 |[]=>rfl
 |x::l=>by unfold toSL DC DN;rw[toS_deep x,toSL_deep l]
end
theorem toP_size:∀l:List (List St),DQ (l.map toSL)=CP l
 |[]=>rfl
 |x::l=>by rw[List.map_cons];unfold DQ CP;rw[toSL_size,toP_size l]
theorem toP_deep:∀l:List (List St),hDeep (l.map toSL)=FI l
 |[]=>rfl
 |x::l=>by rw[List.map_cons];unfold hDeep FI;rw[toSL_deep,toP_deep l]
def wdT (s:List UInt8):Tok:=⟨1,s,0⟩
def nmT (s:List UInt8):Tok:=⟨2,s,0⟩
def nuT (n:Int):Tok:=⟨3,digL n.toNat,n.toNat⟩
theorem good_word {s:List UInt8}(h:DG s=true):Good (wdT s):=by
 have hm:s∈wordsL:=List.contains_iff_mem.1 h
 have h1:CQ (s.headD 0)=true∧s.length≤16∧s.length≠0∧s.all FU=true:=by
  have key:∀l∈wordsL,CQ (l.headD 0)=true∧l.length≤16∧l.length≠0∧l.all FU=true:=by decide
  exact key s hm
 obtain⟨h3,h2,h0,h4⟩:=h1
 cases s with
 |nil=>exact absurd rfl h0
 | cons c l=>
  have h3:CQ c=true:=h3
  have h3':=h3
  unfold CQ at h3'
  simp only[Bool.and_eq_true,decide_eq_true_eq]at h3'
  refine⟨⟨c,l,rfl,?_,?_⟩,fun r hr=>?_⟩
  ·unfold FD
   simp only[Bool.or_eq_false_iff,BF]
   omega
  ·rintro rfl;exact absurd h3 (by decide)
  ·have hall:∀x∈c::l,FU x=true:=List.all_eq_true.1 h4
   have htw:((c::l)++r).takeWhile FU=c::l:=takeWhile_stop hall fun d hd=>(stop_word (stopped_head hr hd)).1
   show tokT (c::(l++r))=_
   rw[DO,if_pos h3]
   unfold wordT
   rw[←List.cons_append,htw,if_neg (by omega),if_pos h]
   rfl
theorem good_sg {s:List UInt8}(hk:s=[59]∨s=[123]∨s=[125]∨s=[44]∨s=[61]∨s=[40]∨s=[41]∨s=[91]∨s=[93]):Good (sgT s):=by
 refine⟨?_,fun r' hr=>?_⟩
 ·rcases hk with rfl|rfl|rfl|rfl|rfl|rfl|rfl|rfl|rfl<;>exact⟨_,_,rfl,by decide,by decide⟩
 ·have hd:∀d l,r'=d::l→d≠61:=fun d l e=>(stop_word (stopped_head hr (by rw[e];rfl))).2.2
  cases r' with
  |nil=>rcases hk with rfl|rfl|rfl|rfl|rfl|rfl|rfl|rfl|rfl<;>rfl
  | cons d l=>
   have h61:=hd d l rfl
   rcases hk with rfl|rfl|rfl|rfl|rfl|rfl|rfl|rfl|rfl <;>
    (show tokT (_::_)=_;rw[DO,if_neg (by decide),if_neg (by decide),signT_cons,if_pos (by decide)];simp[signN,h61,equalsL,sgT])
def callK (op:Int)(val into cont:List UInt8)(xs:List Gx):List Tok:=
 (if op=2∨op=4 then [nmT val,sgT [44]] else [])++([nmT into,sgT [61],wdT (opL.getD op.toNat []),sgT [40],nmT cont]++((if op=2∨op=4 then [] else sgT [44]::tksA xs)++[sgT [41]]))
mutual
def tksS:Gs→List Tok
 | .mk k nm sz op val into cont xs thn els _ _=>
  if k=5∨k=6 then [wdT (if k=5 then [105,102] else [119,104,105,108,101])]++(tksA xs++([sgT [123]]++(tksSL thn++([sgT [125]]++elsK els))))
  else if k=1 then [wdT [118,97,114],nmT nm,sgT [61]]++(tksA xs++[sgT [59]])
  else if k=3 then [nmT nm,sgT [61]]++(tksA xs++[sgT [59]])
  else if k=2 then [wdT [97,114,114,97,121],nmT nm,sgT [91]]++([nuT sz]++([sgT [93]]++[sgT [59]]))
  else if k=4 then [nmT nm,sgT [91]]++(tksA xs++([sgT [93],sgT [61]]++(tksA xs.tail++[sgT [59]])))
  else if k=7 then [wdT [111,117,116]]++(tksA xs++[sgT [59]])
  else if k=8 then [wdT [104,97,108,116]]++(tksA xs++[sgT [59]])
  else callK op val into cont xs++[sgT [59]]
def elsK:List Gs→List Tok
 |[]=>[]
 |x::l=>[wdT [101,108,115,101]]++([sgT [123]]++(tksS x++(tksSL l++[sgT [125]])))
def tksSL:List Gs→List Tok
 |[]=>[]
 |s::l=>tksS s++tksSL l
end
def blockK (l:List Gs):List Tok:=[sgT [123]]++(tksSL l++[sgT [125]])
theorem elsK_cons (x:Gs)(l:List Gs):elsK (x::l)=[wdT [101,108,115,101]]++blockK (x::l):=by
 unfold elsK blockK
 conv=>rhs;unfold tksSL
 simp only[List.append_assoc]
def contK (c:Gc):List Tok:=[wdT (DE.getD c.kind.toNat []),nmT c.name,sgT [59]]
def thK (l:List Gs):List Tok:=[wdT [116,104,114,101,97,100]]++blockK l
def tksP (p:Gp):List Tok:=[wdT [112,111,111,108]]++([nuT p.pool]++([sgT [59]]++(p.conts.flatMap contK++p.threads.flatMap thK)))
def FF (ts:List Tok)(ss:List (List UInt8)):Prop:=ts.map Tok.text=ss∧∀t∈ts,Good t
theorem FF.app {a b:List Tok}{c d:List (List UInt8)}(h:FF a c)(h':FF b d):FF (a++b) (c++d):=
 ⟨by rw[List.map_append,h.1,h'.1],fun t ht=>(List.mem_append.1 ht).elim (h.2 t) (h'.2 t)⟩
theorem FF.nil:FF [] []:=⟨rfl,fun _ h=>by cases h⟩
theorem FF.one {t:Tok}(h:Good t):FF [t] [t.text]:=⟨rfl,fun u hu=>by rw[List.mem_singleton]at hu;subst hu;exact h⟩
theorem FF.cons {t:Tok}{b:List Tok}{d:List (List UInt8)}(h:Good t)(h':FF b d):FF (t::b) (t.text::d):=FF.app (FF.one h) h'
theorem CZ {s:List UInt8}(hk:s=[59]∨s=[123]∨s=[125]∨s=[44]∨s=[61]∨s=[40]∨s=[41]∨s=[91]∨s=[93]):FF [sgT s] [s]:=.one (good_sg hk)
theorem tells_wd {s:List UInt8}(h:DG s=true):FF [wdT s] [s]:=.one (good_word h)
theorem tells_nm {s:List UInt8}(h:CV s=true):FF [nmT s] [s]:=.one (good_name h)
theorem tells_nu {n:Int}(h0:0≤n)(h:n≤9223372036854775807):FF [nuT n] [Lib.itoa n]:=by
 obtain⟨m,rfl⟩:∃m:Nat,n=m:=⟨n.toNat,by omega⟩
 have:=FF.one (good_num (n:=m) (by omega))
 rw[itoa_dig]
 exact this
theorem tells_ex {x:Gx}(hm:mayG x=true)(hf:fitG x):FF (tksG x) (tokG x):=by
 obtain⟨h1,h2,-⟩:=tks_all (CM x) x (Nat.le_refl _) hm hf
 exact⟨h1,fun t ht=>(h2 t ht).1⟩
theorem DP (x:Gx)(l:List Gx):tksA (x::l)=tksG x:=by conv=>lhs;unfold tksA
theorem op_res {op:Int}(h1:1≤op)(h7:op≤7):DG (opL.getD op.toNat [])=true:=by
 have key:∀q:Nat,q<8→1≤q→DG (opL.getD q [])=true:=by decide
 exact key _ (by omega) (by omega)
theorem kind_res {k:Int}(h1:1≤k)(h3:k≤3):DG (DE.getD k.toNat [])=true:=by
 have key:∀q:Nat,q<4→1≤q→DG (DE.getD q [])=true:=by decide
 exact key _ (by omega) (by omega)
theorem fitGL_1 {x:Gx}{l:List Gx}(h:DU (x::l)):fitG x:=by unfold DU at h;exact h.1
theorem fitGL_2 {x y:Gx}{l:List Gx}(h:DU (x::y::l)):fitG y:=by unfold DU DU at h;exact h.2.1
mutual
theorem tksS_all:∀s:Gs,mayS s=true→fitN s→FF (tksS s) (tokS s)
 | .mk k nm sz op val into cont xs thn els a b,hm,hf=>by
  have hth:BX thn=true→DT thn→FF (tksSL thn) (FH thn):=tksSL_all thn
  have hel:BX els=true→DT els→FF (elsK els) (elsT els):=elsK_all els
  have hms:=mayS_iff _ hm
  unfold fitN at hf
  obtain⟨hf0,hf1,hf2,hf3⟩:=hf
  cases hms with
  | var _ x _ _ h1 h2=>
   unfold tksS tokS
   rw[if_neg (by decide),if_pos rfl,if_neg (by decide),if_pos rfl,DP,CI]
   exact .app (.cons (good_word (by decide)) (.cons (good_name h1) (CZ (by simp)))) (.app (tells_ex h2 (fitGL_1 hf1)) (CZ (by simp)))
  | set _ x _ _ h1 h2=>
   unfold tksS tokS
   rw[if_neg (by decide),if_neg (by decide),if_pos rfl,if_neg (by decide),if_neg (by decide),if_pos rfl,DP,CI]
   exact .app (.cons (good_name h1) (CZ (by simp))) (.app (tells_ex h2 (fitGL_1 hf1)) (CZ (by simp)))
  | array _ _ _ _ h1 h2=>
   unfold tksS tokS
   rw[if_neg (by decide),if_neg (by decide),if_neg (by decide),if_pos rfl,if_neg (by decide),if_neg (by decide),if_neg (by decide),if_pos rfl]
   exact .app (.cons (good_word (by decide)) (.cons (good_name h1) (CZ (by simp)))) (.app (tells_nu h2 hf0) (.app (CZ (by simp)) (CZ (by simp))))
  | put _ x y _ _ h1 h2 h3=>
   unfold tksS tokS
   rw[if_neg (by decide),if_neg (by decide),if_neg (by decide),if_neg (by decide),if_pos rfl,if_neg (by decide),if_neg (by decide),if_neg (by decide),if_neg (by decide),if_pos rfl,DP,CI,List.tail_cons,DP,CI]
   exact .app (.cons (good_name h1) (CZ (by simp))) (.app (tells_ex h2 (fitGL_1 hf1)) (.app (.cons (good_sg (by simp)) (CZ (by simp))) (.app (tells_ex h3 (fitGL_2 hf1)) (CZ (by simp)))))
  | ifs x _ _ _ _ h1 h2 h3=>
   unfold tksS tokS
   rw[if_pos (by decide),if_pos rfl,if_pos (by decide),DP,CI]
   exact .app (tells_wd (by decide)) (.app (tells_ex h1 (fitGL_1 hf1)) (.app (CZ (by simp)) (.app (hth h2 hf2) (.app (CZ (by simp)) (hel h3 hf3)))))
  | whil x _ _ _ h1 h2=>
   unfold tksS tokS
   rw[if_pos (by decide),if_neg (by decide),if_pos (by decide),DP,CI]
   exact .app (tells_wd (by decide)) (.app (tells_ex h1 (fitGL_1 hf1)) (.app (CZ (by simp)) (.app (hth h2 hf2) (.app (CZ (by simp)) (by unfold elsK elsT;exact .nil)))))
  | out x _ _ h1=>
   unfold tksS tokS
   rw[if_neg (by decide),if_neg (by decide),if_neg (by decide),if_neg (by decide),if_neg (by decide),if_pos rfl,if_neg (by decide),if_neg (by decide),if_neg (by decide),if_neg (by decide),if_neg (by decide),if_pos rfl,DP,CI]
   exact .app (tells_wd (by decide)) (.app (tells_ex h1 (fitGL_1 hf1)) (CZ (by simp)))
  | halt x _ _ h1=>
   unfold tksS tokS
   rw[if_neg (by decide),if_neg (by decide),if_neg (by decide),if_neg (by decide),if_neg (by decide),if_neg (by decide),if_pos rfl,if_neg (by decide),if_neg (by decide),if_neg (by decide),if_neg (by decide),if_neg (by decide),if_neg (by decide),if_pos rfl,DP,CI]
   exact .app (tells_wd (by decide)) (.app (tells_ex h1 (fitGL_1 hf1)) (CZ (by simp)))
  | pop _ _ _ _ _ _ h0 h1 h2 h3=>
   unfold tksS
   rw[if_neg (by decide),if_neg (by decide),if_neg (by decide),if_neg (by decide),if_neg (by decide),if_neg (by decide),if_neg (by decide)]
   unfold tokS
   rw[if_neg (by decide),if_neg (by decide),if_neg (by decide),if_neg (by decide),if_neg (by decide),if_neg (by decide),if_neg (by decide)]
   unfold callK callT
   rw[if_pos h0,if_pos h0,if_pos h0,if_pos h0]
   exact .app (.app (.cons (good_name h1) (CZ (by simp))) (.app (.cons (good_name h2) (.cons (good_sg (by simp)) (.cons (good_word (op_res (by omega) (by omega))) (.cons (good_sg (by simp)) (tells_nm h3))))) (.app .nil (CZ (by simp))))) (CZ (by simp))
  | call _ _ _ x _ _ h0 h24 h2 h3 h4=>
   unfold tksS
   rw[if_neg (by decide),if_neg (by decide),if_neg (by decide),if_neg (by decide),if_neg (by decide),if_neg (by decide),if_neg (by decide)]
   unfold tokS
   rw[if_neg (by decide),if_neg (by decide),if_neg (by decide),if_neg (by decide),if_neg (by decide),if_neg (by decide),if_neg (by decide)]
   unfold callK callT
   rw[if_neg h24,if_neg h24,if_neg h24,if_neg h24,DP,CI]
   exact .app (.app .nil (.app (.cons (good_name h2) (.cons (good_sg (by simp)) (.cons (good_word (op_res (by omega) (by omega))) (.cons (good_sg (by simp)) (tells_nm h3))))) (.app (.cons (good_sg (by simp)) (tells_ex h4 (fitGL_1 hf1))) (CZ (by simp))))) (CZ (by simp))
theorem elsK_all:∀l:List Gs,BX l=true→DT l→FF (elsK l) (elsT l)
 |[],_,_=>by unfold elsK elsT;exact .nil
 | x::l,hm,hf=>by
  unfold BX at hm
  unfold DT at hf
  rw[Bool.and_eq_true]at hm
  unfold elsK elsT
  exact .app (tells_wd (by decide)) (.app (CZ (by simp)) (.app (tksS_all x hm.1 hf.1) (.app (tksSL_all l hm.2 hf.2) (CZ (by simp)))))
theorem tksSL_all:∀l:List Gs,BX l=true→DT l→FF (tksSL l) (FH l)
 |[],_,_=>by unfold tksSL FH;exact .nil
 | x::l,hm,hf=>by
  unfold BX at hm
  unfold DT at hf
  rw[Bool.and_eq_true]at hm
  unfold tksSL FH
  exact .app (tksS_all x hm.1 hf.1) (tksSL_all l hm.2 hf.2)
end
theorem tells_flat {α:Type}(f:α→List Tok)(g:α→List (List UInt8)):∀l:List α,(∀x∈l,FF (f x) (g x))→FF (l.flatMap f) (l.flatMap g)
 |[],_=>.nil
 | x::l,h=>by
  rw[List.flatMap_cons,List.flatMap_cons]
  exact .app (h x List.mem_cons_self) (tells_flat f g l fun y hy=>h y (List.mem_cons_of_mem _ hy))
theorem tksP_all (p:Gp)(hc:DY p=true)(hp:p.pool≤9223372036854775807)(hf:∀l∈p.threads,DT l):FF (tksP p) (tokP p):=by
 unfold DY at hc
 simp only[Bool.and_eq_true,decide_eq_true_eq,List.all_eq_true]at hc
 obtain⟨h0,h1,h2⟩:=hc
 refine .app (tells_wd (by decide)) (.app (tells_nu h0 hp) (.app (CZ (by simp)) (.app ?_ ?_)))
 ·refine tells_flat _ _ _ fun c hcm=>?_
  have h:=h1 c hcm
  unfold mayC at h
  simp only[Bool.not_eq_true',Bool.or_eq_false_iff,decide_eq_false_iff_not,Bool.not_eq_false']at h
  exact .cons (good_word (kind_res (by omega) (by omega))) (.cons (good_name h.2.2) (CZ (by simp)))
 ·exact tells_flat _ _ _ fun l hl=>.app (tells_wd (by decide)) (.app (CZ (by simp)) (.app (tksSL_all l (h2 l hl) (hf l hl)) (CZ (by simp))))
theorem put_gapped (ts:List Tok):putL (ts.map Tok.text)=gapped (ts.map fun t=>(t,[sepL t.text])):=by
 induction ts with
 |nil=>rfl
 | cons t l ih=>
  unfold putL at ih ⊢
  rw[List.map_cons,List.flatMap_cons,ih,List.map_cons]
  show _=t.text++([sepL t.text]++gapped _)
  rw[List.append_assoc]
theorem text_toks (p:Gp)(hc:DY p=true)(hp:p.pool≤9223372036854775807)(hf:∀l∈p.threads,DT l)(hlen:(putL (tokP p)).length≤8192):
  ∃its,allT (putL (tokP p))=(its,⟨0,0,0⟩)∧toks its=tksP p∧okS its∧its.length≤8192∧its≠[]∧∀t∈its,ofL DE t.tok.text≠0→t.tok.kind=1:=by
 obtain⟨h1,h2⟩:=tksP_all p hc hp hf
 have hg:=gapped_law ((tksP p).map fun t=>(t,[sepL t.text])) (fun t ht=>by
  obtain⟨u,hu,rfl⟩:=List.mem_map.1 ht
  refine⟨h2 u hu,?_⟩
  show Gap [sepL u.text]
  unfold sepL
  split
  ·exact gap_2
  ·exact gap_1) 1 1
 rw[←put_gapped,h1,List.map_map,show (Prod.fst ∘ fun t:Tok=>(t,[sepL t.text]))=id from rfl,List.map_id]at hg
 refine⟨scanS (putL (tokP p)),?_,hg.1,hg.2,Nat.le_trans (scan_len (putL (tokP p)) 1 1 false).1 hlen,fun e=>?_,fun t ht hk=>?_⟩
 ·unfold allT
  rw[if_neg (by omega)]
  have hn:(scanS (putL (tokP p))).find? (fun i=>i.err != 0)=none:=by
   rw[List.find?_eq_none]
   intro i hi
   have:i.err=0:=hg.2 i hi
   simp[this]
  rw[hn]
 ·have h4:=hg.1
  rw[show scan (putL (tokP p)) 1 1 false=scanS (putL (tokP p))from rfl,e]at h4
  unfold tksP at h4
  cases h4
 ·have hgd:=good_names (scan_good (putL (tokP p)) 1 1 false t ht (hg.2 t ht))
  have hr:DG t.tok.text=true:=by
   unfold ofL at hk
   split at hk
   ·exact absurd rfl hk
   ·split at hk
    ·rename_i hne hc2
     have hm:t.tok.text∈DE:=List.contains_iff_mem.1 hc2
     have key:∀l∈DE,l≠[]→DG l=true:=by decide
     exact key _ hm hne
    ·exact absurd rfl hk
  rw[hr]at hgd
  simpa using hgd.2.symm
end Go.Proofs.YtomlffobbkcmdaaGreatDoor
