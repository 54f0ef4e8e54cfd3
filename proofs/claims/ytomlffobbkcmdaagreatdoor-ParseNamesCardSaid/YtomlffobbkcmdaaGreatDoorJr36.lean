/- Joined texts of this work: Ms3, Np1, Np2. -/
import Derived.Test.YtomlffobbkcmdaaGreatDoorJr33
import Derived.Test.YtomlffobbkcmdaaGreatDoorJr34
import Derived.Test.YtomlffobbkcmdaaGreatDoorJr35
import Derived.Test.YtomlffobbkcmdaaGreatDoorJr32
import Derived.Test.YtomlffobbkcmdaaGreatDoorJr30
/-
  Package parse: mayStmt, mayBlock, Check: which programs are some text's.
-/
namespace Go.Proofs.YtomlffobbkcmdaaGreatDoor
open Go Go.RowKit Own
open Go.Lib (hid)
set_option maxHeartbeats 8000000 in
theorem mayS_out (x:Gs) (k sz op l cl:Int) (nm val into cont:List UInt8) (xs:List Gx) (thn els:List Gs) (hx:x=.mk k nm sz op val into cont xs thn els l cl) (hk:¬(1≤k∧k≤9)) (w:World) (S:Nat→Prop) (vs:List Value) (hs:SAt w S vs x):
  Calls Tryz.prog 93 #[.agg vs.toArray] w fun e w'=>e=.returned (.bool false)∧KeepBut (fun _=>False) w w':=by
 subst hx
 unfold SAt at hs
 obtain ⟨p1,c1,p2,c2,p3,c3,rfl,-⟩:=hs
 unfold strV
 obtain ⟨V,B1,hV,hB1,hb1,hk1,hs1⟩:=fresh_block w (.cells #[.int .i64 k,.string ⟨nm.toArray⟩,.int .i64 sz,.int .i64 op,.string ⟨val.toArray⟩,.string ⟨into.toArray⟩,.string ⟨cont.toArray⟩,.slice p1 xs.length c1,.slice p2 thn.length c2,.slice p3 els.length c3,.int .i64 l,.int .i64 cl] TSm)
 have HK:=hid hk1
 obtain ⟨n0,n1,n2,n3,n4,n5,n6,n7,n8,n9,n10,n11⟩:=blk12 hb1
 clear hb1 hk1 hs1
 go_enter Tryz.func93,Tryz.ntmps93
 go_upto_region 1 with fail
 rw [←hV,←hB1]
 clear hV hB1
 by_cases h1:k<1
 ·go_wp2_with fail
  go_ret
  exact ⟨rfl,HK.out⟩
 ·have h9:9<k:=by omega
  go_wp2_with fail
  go_ret
  exact ⟨rfl,HK.out⟩
mutual
/-- the texts of a statement are no longer than any machine holds -/
def fitS:Gs→Prop
 | .mk _ _ _ _ val into cont _ thn els _ _=>val.length+into.length+cont.length≤1099511627776∧fitSL thn∧fitSL els
def fitSL:List Gs→Prop
 | []=>True
 | s::l=>fitS s∧fitSL l
end
theorem fitSL_get:∀ {l:List Gs},fitSL l→∀ i (h:i<l.length),fitS l[i]
 | [],_,i,h=>absurd h (by simp)
 | s::l,hf,0,_=>by unfold fitSL at hf;exact hf.1
 | s::l,hf,i+1,h=>by unfold fitSL at hf;exact fitSL_get hf.2 i (by simpa using h)
theorem says_mayS:∀ (n:Nat) (x:Gs),sSize x≤n→n≤1099511627776→fitS x→SaysS mayS x
 | 0,x,hx,_,_=>by cases x;unfold sSize at hx;omega
 | n+1,.mk k nm sz op val into cont xs thn els l cl,hx,hn,hf=>by
  unfold fitS at hf
  obtain ⟨hf1,hf2,hf3⟩:=hf
  have hss:sSize (.mk k nm sz op val into cont xs thn els l cl)=gSizeL xs+sSizeL thn+sSizeL els+1:=by unfold sSize;rfl
  rw [hss] at hx
  have hX:∀ i (h:i<xs.length),SaysMayG mayG xs[i]:=fun i h=>mayG_any 1099511627776 xs[i] (by have:=gsize_mem h;omega) (Nat.le_refl _)
  have hT:∀ i (h:i<thn.length),SaysS mayS thn[i]:=fun i h=>says_mayS n thn[i] (by have:=ssize_mem h;omega) (by omega) (fitSL_get hf2 i h)
  have hE:∀ i (h:i<els.length),SaysS mayS els[i]:=fun i h=>says_mayS n els[i] (by have:=ssize_mem h;omega) (by omega) (fitSL_get hf3 i h)
  have lx:=glen_size xs
  have lt:=slen_size thn
  have le:=slen_size els
  intro w S vs hT' hs
  by_cases hk:1≤k∧k≤9
  ·have hm:mayS (.mk k nm sz op val into cont xs thn els l cl)=(fieldsK k sz op nm val into cont xs.length thn.length els.length && (mayGL xs && (maySL thn && maySL els))):=by
    unfold mayS
    rw [decide_eq_true hk.1,decide_eq_true hk.2,Bool.true_and,Bool.true_and]
   rw [hm]
   unfold fieldsK
   by_cases h13:k=1∨k=3
   ·rw [if_pos h13]
    exact ms_A1 k sz op l cl nm val into cont xs thn els hk (by unfold needV;rw [if_pos h13]) trivial hX hT hE hf1 (by omega) (by omega) (by omega) w S vs hT' hs
   rw [if_neg h13]
   by_cases h2:k=2
   ·rw [if_pos h2]
    exact ms_B k sz op l cl nm val into cont xs thn els hk (by unfold needV;rw [if_neg h13,if_pos h2]) trivial hX hT hE hf1 (by omega) (by omega) (by omega) w S vs hT' hs
   rw [if_neg h2]
   by_cases h4:k=4
   ·rw [if_pos h4]
    exact ms_A2 k sz op l cl nm val into cont xs thn els hk (by unfold needV;rw [if_neg h13,if_neg h2,if_pos h4]) trivial hX hT hE hf1 (by omega) (by omega) (by omega) w S vs hT' hs
   rw [if_neg h4]
   by_cases h5:k=5
   ·rw [if_pos h5]
    exact ms_C1 k sz op l cl nm val into cont xs thn els hk (by unfold needV;rw [if_neg h13,if_neg h2,if_neg h4,if_pos h5]) trivial hX hT hE hf1 (by omega) (by omega) (by omega) w S vs hT' hs
   rw [if_neg h5]
   by_cases h6:k=6
   ·rw [if_pos h6]
    exact ms_C2 k sz op l cl nm val into cont xs thn els hk (by unfold needV;rw [if_neg h13,if_neg h2,if_neg h4,if_neg h5,if_pos h6]) trivial hX hT hE hf1 (by omega) (by omega) (by omega) w S vs hT' hs
   rw [if_neg h6]
   by_cases h9:k=9
   ·rw [if_pos h9]
    by_cases ht:op=2∨op=4
    ·rw [if_pos ht]
     exact ms_D k sz op l cl nm val into cont xs thn els hk (by unfold needV;rw [if_neg h13,if_neg h2,if_neg h4,if_neg h5,if_neg h6,if_pos h9,if_pos ht]) ht hX hT hE hf1 (by omega) (by omega) (by omega) w S vs hT' hs
    ·rw [if_neg ht]
     exact ms_E k sz op l cl nm val into cont xs thn els hk (by unfold needV;rw [if_neg h13,if_neg h2,if_neg h4,if_neg h5,if_neg h6,if_pos h9,if_neg ht]) ht hX hT hE hf1 (by omega) (by omega) (by omega) w S vs hT' hs
   rw [if_neg h9]
   exact ms_C3 k sz op l cl nm val into cont xs thn els hk (by unfold needV;rw [if_neg h13,if_neg h2,if_neg h4,if_neg h5,if_neg h6,if_neg h9]) trivial hX hT hE hf1 (by omega) (by omega) (by omega) w S vs hT' hs
  ·have hm:mayS (.mk k nm sz op val into cont xs thn els l cl)=false:=by
    unfold mayS
    by_cases h1:1≤k
    ·rw [decide_eq_false (p:=k≤9) (by omega),Bool.false_and,Bool.and_false]
    ·rw [decide_eq_false h1,Bool.false_and]
   rw [hm]
   exact mayS_out _ k sz op l cl nm val into cont xs thn els rfl hk w S vs hs
/-- mayBlock -/
theorem mayBlk_any (l:List Gs) (hb:sSizeL l≤1099511627776) (hf:fitSL l) (w:World) (hT:TabS w) (S:Nat→Prop) (p:Option Addr) (c:Nat) (hp:SKids w S p 0 l):
  Calls Tryz.prog 49 #[.slice p l.length c] w fun e w'=>e=.returned (.bool (maySL l))∧KeepBut (fun _=>False) w w':=by
 have h:=mayBlock_any mayS l (fun i h=>says_mayS 1099511627776 l[i] (by have:=ssize_mem h;omega) (Nat.le_refl _) (fitSL_get hf i h)) (by have:=slen_size l;omega) w hT S p c hp
 rw [maySL_any] at h
 exact h
def checkP (p:Gp):Bool:=decide (0≤p.pool) && (p.conts.all mayC && p.threads.all maySL)
theorem any_not {α:Type} (f:α→Bool):∀ l:List α,(l.any fun x=>!f x)=!(l.all f)
 | []=>rfl
 | x::l=>by rw [List.any_cons,List.all_cons,any_not f l,Bool.not_and]
set_option maxHeartbeats 8000000 in
/-- Check -/
theorem check_any (p:Gp) (hb:hSize p.threads≤1099511627776) (hc:p.conts.length≤2000000) (hl:p.threads.length≤2000000) (hf:∀ l∈p.threads,fitSL l) (w:World) (hT:TabS w) (S:Nat→Prop) (v:Value) (h:PAt w S v p):
  Calls Tryz.prog 20 #[v] w fun e w'=>e=.returned (.int .i64 (if checkP p=true then 0 else 9))∧KeepBut (fun _=>False) w w':=by
 obtain ⟨pool,conts,threads⟩:=p
 obtain ⟨p1,c1,p2,c2,rfl,hcs,hts⟩:=h
 dsimp only at hb hc hl hf hcs hts ⊢
 obtain ⟨V,B1,hV,hB1,hb1,hk1,hs1⟩:=fresh_block w (.cells #[.int .i64 pool,.slice p1 conts.length c1,.slice p2 threads.length c2] TPr)
 have HCC:=hid (hasC_any (fun c=>!mayC c) conts (fun i h W hT=>mayFnC_any conts[i] W hT) (by omega) V (hk1.tabS hT) S p1 c1 (hcs.keep hk1 fun _ _ e=>e))
 have HTT:=hid (fun W (k:KeepBut (fun _=>False) V W)=>hasT_any (fun l=>!maySL l) threads (fun i h W S q cq hT hsk=>mayFnT_any _ W q _ cq (mayBlk_any threads[i] (by have:=hSize_mem h;omega) (hf _ (List.getElem_mem h)) W hT S q cq hsk)) (by omega) W ((hk1.trans k).tabS hT) S p2 c2 (hts.keep (hk1.trans k) fun _ _ e=>e))
 rw [any_not] at HCC
 have HB:=hid hb1;have HK1:=hid hk1
 obtain ⟨res,hres⟩:∃ r:Int,(if checkP ⟨pool,conts,threads⟩=true then (0:Int) else 9)=r:=⟨_,rfl⟩
 rw [hres]
 unfold checkP at hres
 dsimp only at hres
 obtain ⟨n0,n1,n2,-⟩:=blk3f hb1
 clear hcs hts hb1 hk1 hs1 hb hc hl hf
 go_enter Tryz.func20,Tryz.ntmps20
 go_upto_region 1 with fail
 rw [←hV,←hB1]
 clear hV hB1
 by_cases h0:0≤pool
 ·have h0i:¬pool<0:=by omega
  rw [decide_eq_true h0,Bool.true_and] at hres
  cases hcc:conts.all mayC with
  | false=>
   rw [hcc,Bool.false_and,if_neg Bool.false_ne_true] at hres
   have HQ:=hid (by have h:=HCC.out;rw [hcc] at h;exact h)
   subst hres
   go_wp2_with fail
   go_at_call 46
   refine HQ.out.mono ?_
   rintro e w2 ⟨rfl,hk2⟩
   have HK2:=hid hk2
   clear hk2
   go_wp2_with fail
   go_ret
   exact ⟨rfl,HK1.out.trans HK2.out⟩
  | true=>
   rw [hcc,Bool.true_and] at hres
   have HQ:=hid (by have h:=HCC.out;rw [hcc] at h;exact h)
   have HRES:=hid hres
   clear hres
   go_wp2_with fail
   go_at_call 46
   refine HQ.out.mono ?_
   rintro e w2 ⟨rfl,hk2⟩
   have HK2:=hid hk2
   have HT2:=hid (HTT.out w2 hk2)
   clear n0 n1 n2
   obtain ⟨n0,n1,n2,-⟩:=blk3f (hk2.blk HB.out)
   clear hk2
   rw [any_not] at HT2
   cases htt:threads.all maySL with
   | false=>
    have hres:=HRES.out
    rw [htt,if_neg Bool.false_ne_true] at hres
    rw [htt] at HT2
    subst hres
    go_wp2_with fail
    go_at_call 47
    refine HT2.out.mono ?_
    rintro e w3 ⟨rfl,hk3⟩
    have HK3:=hid hk3
    clear hk3
    go_wp2_with fail
    go_ret
    exact ⟨rfl,(HK1.out.trans HK2.out).trans HK3.out⟩
   | true=>
    have hres:=HRES.out
    rw [htt,if_pos rfl] at hres
    rw [htt] at HT2
    subst hres
    go_wp2_with fail
    go_at_call 47
    refine HT2.out.mono ?_
    rintro e w3 ⟨rfl,hk3⟩
    have HK3:=hid hk3
    clear hk3
    go_wp2_with fail
    go_ret
    exact ⟨rfl,(HK1.out.trans HK2.out).trans HK3.out⟩
 ·have h0i:pool<0:=by omega
  rw [decide_eq_false h0,Bool.false_and,if_neg Bool.false_ne_true] at hres
  subst hres
  go_wp2_with fail
  go_ret
  exact ⟨rfl,HK1.out⟩
/-
  Programs that are the same, wherever things stand: what they are alike in. No program in sight.
-/
open Go
theorem toP_size:∀ l:List (List St),hSize (l.map toSL)=thsSize l
 | []=>rfl
 | x::l=>by rw [List.map_cons];unfold hSize thsSize;rw [toSL_size,toP_size l]
/-
  ParseNested in plain: the tokens of a program's text. No program in sight.
-/
theorem fitGL_1 {x:Gx} {l:List Gx} (h:fitGL (x::l)):fitG x:=by unfold fitGL at h;exact h.1
theorem fitGL_2 {x y:Gx} {l:List Gx} (h:fitGL (x::y::l)):fitG y:=by unfold fitGL fitGL at h;exact h.2.1
end Go.Proofs.YtomlffobbkcmdaaGreatDoor
