import Derived.Test.YtknnmidnodeanaaGreatDoorJu17
import Derived.Test.YtknnmidnodeanaaGreatDoorJu18
import Derived.WalkSmall
import Derived.MapKept
set_option maxHeartbeats 16000000
namespace Go.Proofs.YtknnmidnodeanaaGreatDoor
open Go Go.RowKit Own
open Go.Lib (hid)
theorem mayS_out (x:Gs)(k sz op l cl:Int)(nm val into cont:List UInt8)(xs:List Gx)(thn els:List Gs)(hx:x=.mk k nm sz op val into cont xs thn els l cl)(hk:¬(1≤k∧k≤9))(w:World)(S:Nat→Prop)(vs:List Value)(hs:SAt w S vs x):
  Calls Tryz.prog 69 #[.agg vs.toArray] w fun e w'=>e=.returned (.bool false)∧BA (fun _=>False) w w':=by
 subst hx;unfold SAt at hs;obtain⟨p1,c1,p2,c2,p3,c3,rfl,-⟩:=hs;unfold strV;obtain⟨V,B1,hV,hB1,hb1,hk1,hs1⟩:=BD w (.cells #[.int .i64 k,.string ⟨nm.toArray⟩,.int .i64 sz,.int .i64 op,.string ⟨val.toArray⟩,.string ⟨into.toArray⟩,.string ⟨cont.toArray⟩,.slice p1 xs.length c1,.slice p2 thn.length c2,.slice p3 els.length c3,.int .i64 l,.int .i64 cl] TSm);have HK:=hid hk1;obtain⟨n0,n1,n2,n3,n4,n5,n6,n7,n8,n9,n10,n11⟩:=BK hb1;clear hb1 hk1 hs1;go_enter Tryz.func69,Tryz.ntmps69;go_upto_region 1 with fail;rw[←hV,←hB1];clear hV hB1;by_cases h1:k<1
 ·go_wp2_with fail;go_ret;exact⟨rfl,HK.out⟩
 ·have h9:9<k:=by omega
  go_wp2_with fail;go_ret;exact⟨rfl,HK.out⟩
mutual
def fitS:Gs→Prop
 |.mk _ _ _ _ val into cont _ thn els _ _=>val.length+into.length+cont.length≤1099511627776∧DS thn∧DS els
def DS:List Gs→Prop
 |[]=>True
 |s::l=>fitS s∧DS l
end
theorem fitSL_get:∀{l:List Gs},DS l→∀i (h:i<l.length),fitS l[i]
 |[],_,i,h=>absurd h (by simp)
 |s::l,hf,0,_=>by unfold DS at hf;exact hf.1
 |s::l,hf,i+1,h=>by unfold DS at hf;exact fitSL_get hf.2 i (by simpa using h)
theorem says_mayS:∀(n:Nat) (x:Gs),CO x≤n→n≤1099511627776→fitS x→SaysS mayS x
 |0,x,hx,_,_=>by cases x;unfold CO at hx;omega
 | n+1,.mk k nm sz op val into cont xs thn els l cl,hx,hn,hf=>by
  unfold fitS at hf;obtain⟨hf1,hf2,hf3⟩:=hf;have hss:CO (.mk k nm sz op val into cont xs thn els l cl)=CV xs+BI thn+BI els+1:=by unfold CO;rfl
  rw[hss]at hx;have hX:∀i (h:i<xs.length),SaysMayG mayG xs[i]:=fun i h=>mayG_any 1099511627776 xs[i] (by have:=gsize_mem h;omega) (Nat.le_refl _);have hT:∀i (h:i<thn.length),SaysS mayS thn[i]:=fun i h=>says_mayS n thn[i] (by have:=ssize_mem h;omega) (by omega) (fitSL_get hf2 i h);have hE:∀i (h:i<els.length),SaysS mayS els[i]:=fun i h=>says_mayS n els[i] (by have:=ssize_mem h;omega) (by omega) (fitSL_get hf3 i h);have lx:=glen_size xs;have lt:=slen_size thn;have le:=slen_size els;intro w S vs hT' hs;by_cases hk:1≤k∧k≤9
  ·have hm:mayS (.mk k nm sz op val into cont xs thn els l cl)=(fieldsK k sz op nm val into cont xs.length thn.length els.length && (DR xs && (CC thn && CC els))):=by
    unfold mayS;rw[decide_eq_true hk.1,decide_eq_true hk.2,Bool.true_and,Bool.true_and]
   rw[hm];unfold fieldsK;by_cases h13:k=1∨k=3
   ·rw[if_pos h13];exact ms_A1 k sz op l cl nm val into cont xs thn els hk (by unfold needV;rw[if_pos h13]) trivial hX hT hE hf1 (by omega) (by omega) (by omega) w S vs hT' hs
   rw[if_neg h13];by_cases h2:k=2
   ·rw[if_pos h2];exact ms_B k sz op l cl nm val into cont xs thn els hk (by unfold needV;rw[if_neg h13,if_pos h2]) trivial hX hT hE hf1 (by omega) (by omega) (by omega) w S vs hT' hs
   rw[if_neg h2];by_cases h4:k=4
   ·rw[if_pos h4];exact ms_A2 k sz op l cl nm val into cont xs thn els hk (by unfold needV;rw[if_neg h13,if_neg h2,if_pos h4]) trivial hX hT hE hf1 (by omega) (by omega) (by omega) w S vs hT' hs
   rw[if_neg h4];by_cases h5:k=5
   ·rw[if_pos h5];exact ms_C1 k sz op l cl nm val into cont xs thn els hk (by unfold needV;rw[if_neg h13,if_neg h2,if_neg h4,if_pos h5]) trivial hX hT hE hf1 (by omega) (by omega) (by omega) w S vs hT' hs
   rw[if_neg h5];by_cases h6:k=6
   ·rw[if_pos h6];exact ms_C2 k sz op l cl nm val into cont xs thn els hk (by unfold needV;rw[if_neg h13,if_neg h2,if_neg h4,if_neg h5,if_pos h6]) trivial hX hT hE hf1 (by omega) (by omega) (by omega) w S vs hT' hs
   rw[if_neg h6];by_cases h9:k=9
   ·rw[if_pos h9];by_cases ht:op=2∨op=4
    ·rw[if_pos ht];exact ms_D k sz op l cl nm val into cont xs thn els hk (by unfold needV;rw[if_neg h13,if_neg h2,if_neg h4,if_neg h5,if_neg h6,if_pos h9,if_pos ht]) ht hX hT hE hf1 (by omega) (by omega) (by omega) w S vs hT' hs
    ·rw[if_neg ht];exact ms_E k sz op l cl nm val into cont xs thn els hk (by unfold needV;rw[if_neg h13,if_neg h2,if_neg h4,if_neg h5,if_neg h6,if_pos h9,if_neg ht]) ht hX hT hE hf1 (by omega) (by omega) (by omega) w S vs hT' hs
   rw[if_neg h9];exact ms_C3 k sz op l cl nm val into cont xs thn els hk (by unfold needV;rw[if_neg h13,if_neg h2,if_neg h4,if_neg h5,if_neg h6,if_neg h9]) trivial hX hT hE hf1 (by omega) (by omega) (by omega) w S vs hT' hs
  ·have hm:mayS (.mk k nm sz op val into cont xs thn els l cl)=false:=by
    unfold mayS;by_cases h1:1≤k
    ·rw[decide_eq_false (p:=k≤9) (by omega),Bool.false_and,Bool.and_false]
    ·rw[decide_eq_false h1,Bool.false_and]
   rw[hm];exact mayS_out _ k sz op l cl nm val into cont xs thn els rfl hk w S vs hs
theorem mayBlk_any (l:List Gs)(hb:BI l≤1099511627776)(hf:DS l)(w:World)(hT:TabS w)(S:Nat→Prop)(p:Option Addr)(c:Nat)(hp:CF w S p 0 l):
  Calls Tryz.prog 52 #[.slice p l.length c] w fun e w'=>e=.returned (.bool (CC l))∧BA (fun _=>False) w w':=by
 have h:=CM mayS l (fun i h=>says_mayS 1099511627776 l[i] (by have:=ssize_mem h;omega) (Nat.le_refl _) (fitSL_get hf i h)) (by have:=slen_size l;omega) w hT S p c hp;rw[maySL_any]at h;exact h
def checkP (p:Gp):Bool:=decide (0≤p.pool) && (p.conts.all mayC && p.threads.all CC)
theorem any_not {α:Type}(f:α→Bool):∀l:List α,(l.any fun x=>!f x)=!(l.all f)
 |[]=>rfl
 |x::l=>by rw[List.any_cons,List.all_cons,any_not f l,Bool.not_and]
theorem check_any (p:Gp)(hb:DM p.threads≤1099511627776)(hc:p.conts.length≤2000000)(hl:p.threads.length≤2000000)(hf:∀l∈p.threads,DS l)(w:World)(hT:TabS w)(S:Nat→Prop)(v:Value)(h:PAt w S v p):
  Calls Tryz.prog 41 #[v] w fun e w'=>e=.returned (.int .i64 (if checkP p=true then 0 else 9))∧BA (fun _=>False) w w':=by
 obtain⟨pool,conts,threads⟩:=p;obtain⟨p1,c1,p2,c2,rfl,hcs,hts⟩:=h;dsimp only at hb hc hl hf hcs hts ⊢;obtain⟨V,B1,hV,hB1,hb1,hk1,hs1⟩:=BD w (.cells #[.int .i64 pool,.slice p1 conts.length c1,.slice p2 threads.length c2] TPr);have HCC:=hid (hasC_any (fun c=>!mayC c) conts (fun i h W hT=>mayFnC_any conts[i] W hT) (by omega) V (hk1.tabS hT) S p1 c1 (hcs.keep hk1 fun _ _ e=>e));have HTT:=hid (fun W (k:BA (fun _=>False) V W)=>hasT_any (fun l=>!CC l) threads (fun i h W S q cq hT hsk=>mayFnT_any _ W q _ cq (mayBlk_any threads[i] (by have:=hSize_mem h;omega) (hf _ (List.getElem_mem h)) W hT S q cq hsk)) (by omega) W ((hk1.trans k).tabS hT) S p2 c2 (hts.keep (hk1.trans k) fun _ _ e=>e));rw[any_not]at HCC;have HB:=hid hb1;have HK1:=hid hk1;obtain⟨res,hres⟩:∃r:Int,(if checkP ⟨pool,conts,threads⟩=true then (0:Int) else 9)=r:=⟨_,rfl⟩;rw[hres];unfold checkP at hres;dsimp only at hres;obtain⟨n0,n1,n2,-⟩:=BS hb1;clear hcs hts hb1 hk1 hs1 hb hc hl hf;go_enter Tryz.func41,Tryz.ntmps41;go_upto_region 1 with fail;rw[←hV,←hB1];clear hV hB1;by_cases h0:0≤pool
 ·have h0i:¬pool<0:=by omega
  rw[decide_eq_true h0,Bool.true_and]at hres
  cases hcc:conts.all mayC with
  | false=>
   rw[hcc,Bool.false_and,if_neg NT]at hres;have HQ:=hid (by have h:=HCC.out;rw[hcc]at h;exact h);subst hres;go_wp2_with fail;go_at_call 49;refine HQ.out.mono ?_;rintro e w2 ⟨rfl,hk2⟩;have HK2:=hid hk2;clear hk2;go_wp2_with fail;go_ret;exact⟨rfl,HK1.out.trans HK2.out⟩
  | true=>
   rw[hcc,Bool.true_and]at hres;have HQ:=hid (by have h:=HCC.out;rw[hcc]at h;exact h);have HRES:=hid hres;clear hres;go_wp2_with fail;go_at_call 49;refine HQ.out.mono ?_;rintro e w2 ⟨rfl,hk2⟩;have HK2:=hid hk2;have HT2:=hid (HTT.out w2 hk2);clear n0 n1 n2;obtain⟨n0,n1,n2,-⟩:=BS (hk2.blk HB.out);clear hk2;rw[any_not]at HT2
   cases htt:threads.all CC with
   | false=>
    have hres:=HRES.out;rw[htt,if_neg NT]at hres;rw[htt]at HT2;subst hres;go_wp2_with fail;go_at_call 50;refine HT2.out.mono ?_;rintro e w3 ⟨rfl,hk3⟩;have HK3:=hid hk3;clear hk3;go_wp2_with fail;go_ret;exact⟨rfl,(HK1.out.trans HK2.out).trans HK3.out⟩
   | true=>
    have hres:=HRES.out;rw[htt,if_pos rfl]at hres;rw[htt]at HT2;subst hres;go_wp2_with fail;go_at_call 50;refine HT2.out.mono ?_;rintro e w3 ⟨rfl,hk3⟩;have HK3:=hid hk3;clear hk3;go_wp2_with fail;go_ret;exact⟨rfl,(HK1.out.trans HK2.out).trans HK3.out⟩
 ·have h0i:pool<0:=by omega
  rw[decide_eq_false h0,Bool.false_and,if_neg NT]at hres;subst hres;go_wp2_with fail;go_ret;exact⟨rfl,HK1.out⟩
open Go
def sizesOk (p:Gp):Bool:=decide (1≤p.pool) && (decide (p.pool≤32) && (decide (1≤p.conts.length) && (decide (p.conts.length≤4) && (decide (1≤p.threads.length) && decide (p.threads.length≤4)))))
def allF (p:Gp):Except Fl (List Sc):=
 if checkP p=false then .error ⟨9,0,0⟩
 else if sizesOk p=false then .error ⟨2,0,0⟩
 else
  match contF p.conts 0 p.conts with
  |some f=>.error f
  |none=>DQ p.conts p.threads
def pgF (p:Gp):Fl:=
 match allF p with
 |.error f=>f
 |.ok _=>Fl.no
theorem exF_err : ∀(n : Nat) (s : Sc) (l : List Gx), CV l≤n→∀f, exFL s l = some f→f.err≠0
  | 0, s, l, hn, f, h => by
    cases l with
    |nil => unfold exFL at h; cases h
    |cons x l =>  have h1 : 1≤FA x := by cases x; unfold FA; omega
                  unfold CV at hn; omega
  | n + 1, s, l, hn, f, h => by
    cases l with
    |nil => unfold exFL at h; cases h
    | cons x l =>
      have e : exFL s (x :: l) = match xkF s x with|some f => some f|none => exFL s l := by
        conv => lhs; unfold exFL
        rfl
      have e2 : CV (x :: l) = FA x + CV l := by conv => lhs; unfold CV
      rw[e]at h;rw[e2]at hn;obtain⟨k, o, m, nm, li, co, kids⟩ := x;have e3 : FA (.mk k o m nm li co kids) = CV kids + 1 := by conv => lhs; unfold FA
      have e4 : xkF s (.mk k o m nm li co kids) = if (k = 2∧told s nm≠1)∨(k = 3∧told s nm≠2) then some ⟨6, li, co⟩ else exFL s kids := by
        conv => lhs; unfold xkF
      rw[e3]at hn;rw[e4]at h;by_cases hc : (k = 2∧told s nm≠1)∨(k = 3∧told s nm≠2)
      · rw[if_pos hc]at h;simp only[Option.some.injEq]at h;rw[← h];show (6 : Int)≠0;decide
      · rw[if_neg hc]at h
        cases hk : exFL s kids with
        | some g =>
          rw[hk]at h;simp only[Option.some.injEq]at h;rw[← h];exact exF_err n s kids (by omega) g hk
        | none =>
          rw[hk]at h;exact exF_err n s l (by omega) f h
theorem err_of {er li co:Int}{f:Fl}{α:Type}(h:(.error ⟨er,li,co⟩:Except Fl α)=.error f)(he:er≠0):f.err≠0:=by
 simp only[Except.error.injEq]at h;rw[←h];exact he
theorem tellF_err {cs:List Gc}{s:Sc}{k sz l c:Int}{nm:List UInt8}{f:Fl}(h:DZ cs s k sz l c nm=.error f):f.err≠0:=by
 unfold DZ at h;split at h
 ·exact err_of h (by decide)
 ·split at h
  ·split at h
   ·exact err_of h (by decide)
   ·cases h
  ·split at h
   ·exact err_of h (by decide)
   ·split at h
    ·exact err_of h (by decide)
    ·cases h
theorem callF_err {cs:List Gc}{s:Sc}{op l c:Int}{val into cont:List UInt8}{f:Fl}(h:clF cs s op l c val into cont=.error f):f.err≠0:=by
 unfold clF at h;split at h
 ·exact err_of h (by decide)
 ·split at h
  ·exact err_of h (by decide)
  ·split at h
   ·exact err_of h (by decide)
   ·split at h
    ·exact err_of h (by decide)
    ·cases h
theorem stF_err {cs:List Gc}{s:Sc}{x:Gs}{f:Fl}(h:stF cs s x=.error f):f.err≠0:=by
 obtain⟨k,nm,sz,op,val,into,cont,xs,thn,els,l,c⟩:=x
 have e:stF cs s (.mk k nm sz op val into cont xs thn els l c)=match exFL s xs with
   |some f=>.error f
   | none=>
    if k=1∨k=2 then DZ cs s k sz l c nm
    else if k=3 then (if told s nm≠1 then .error ⟨6,l,c⟩ else .ok s)
    else if k=4 then (if told s nm≠2 then .error ⟨6,l,c⟩ else .ok s)
    else if k=9 then clF cs s op l c val into cont
    else .ok s:=rfl
 rw[e]at h
 cases hx:exFL s xs with
 | some g=>
  rw[hx]at h;simp only[Except.error.injEq]at h;rw[←h];exact exF_err _ s xs (Nat.le_refl _) g hx
 | none=>
  rw[hx]at h;dsimp only at h;split at h
  ·exact tellF_err h
  ·split at h
   ·split at h
    ·exact err_of h (by decide)
    ·cases h
   ·split at h
    ·split at h
     ·exact err_of h (by decide)
     ·cases h
    ·split at h
     ·exact callF_err h
     ·cases h
theorem foldF_err {cs:List Gc}:∀{l:List Gs}{s:Sc}{f:Fl},CK cs s l=.error f→f.err≠0
 |[],s,f,h=>by unfold CK at h;cases h
 | x::l,s,f,h=>by
  have e:CK cs s (x::l)=(match stF cs s x with | .error f=>(.error f:Except Fl Sc) | .ok s'=>CK cs s' l):=rfl;rw[e]at h
  cases hs:stF cs s x with
  | error g=>
   rw[hs]at h;simp only[Except.error.injEq]at h;rw[←h];exact stF_err hs
  | ok s'=>
   rw[hs]at h;exact foldF_err h
theorem contF_err {cs:List Gc}:∀{l:List Gc}{i:Nat}{f:Fl},contF cs i l=some f→f.err≠0
 |[],i,f,h=>by unfold contF at h;cases h
 | c::l,i,f,h=>by
  unfold contF at h;split at h
  ·simp only[Option.some.injEq]at h;rw[←h];show (8:Int)≠0;decide
  ·exact contF_err h
theorem thrsF_get {cs:List Gc}:∀{r:List (List Gs)}{q:List Sc},DQ cs r=.ok q→q.length=r.length∧∀i (h:i<r.length) (h':i<q.length),thrF cs r[i]=.ok q[i]
 |[],q,h=>by cases h;exact⟨rfl,fun i h=>absurd h (by simp)⟩
 | l::r,q,h=>by
  unfold DQ at h;split at h
  ·cases h
  ·rename_i s hs
   split at h
   ·cases h
   ·rename_i q2 hq
    cases h;obtain⟨h1,h2⟩:=thrsF_get hq;refine⟨by simp[h1],fun i hi hi'=>?_⟩
    cases i with
    |zero=>exact hs
    |succ i=>exact h2 i (by simpa using hi) (by simpa using hi')
mutual
def tlS:Gs→Bool
 |.mk k _ _ _ _ _ _ _ thn els _ _=>k==1 || (k==2 || (tlL thn || tlL els))
def tlL:List Gs→Bool
 |[]=>false
 |s::l=>tlS s || tlL l
end
mutual
def wS:Gs→Int→Int→Option Gs×Int
 | .mk k nm sz op val into cont xs thn els l c,n,seen=>
  if tlS (.mk k nm sz op val into cont xs thn els l c)=false∧seen=n then (none,seen+1)
  else
   let s1:=if tlS (.mk k nm sz op val into cont xs thn els l c)=false then seen+1 else seen
   let a:=wL thn (n - s1) 0
   let b:=wL els (n - (s1+a.2)) 0
   (some (.mk k nm sz op val into cont xs a.1 b.1 l c),s1+a.2+b.2)
def wL:List Gs→Int→Int→List Gs×Int
 |[],_,seen=>([],seen)
 | s::l,n,seen=>
  let a:=wS s n seen
  let b:=wL l n a.2
  (a.1.toList++b.1,b.2)
end
def ScLe (s' s:Sc):Prop:=s'.vars=s.vars∧s'.arrays=s.arrays∧s'.calls≤s.calls
theorem ScLe.refl (s:Sc):ScLe s s:=⟨rfl,rfl,Nat.le_refl _⟩
theorem ScLe.trans {a b c:Sc}(h:ScLe a b)(k:ScLe b c):ScLe a c:=⟨h.1.trans k.1,h.2.1.trans k.2.1,Nat.le_trans h.2.2 k.2.2⟩
theorem told_le {s' s:Sc}(h:ScLe s' s)(nm:List UInt8):told s' nm=told s nm:=by unfold told;rw[h.1,h.2.1]
mutual
theorem exF_le {s' s:Sc}(h:ScLe s' s):∀x:Gx,xkF s' x=xkF s x
 | .mk k _ _ nm l c kids=>by
  conv=>lhs;unfold xkF
  conv=>rhs;unfold xkF
  rw[told_le h,exFL_le h kids]
theorem exFL_le {s' s:Sc}(h:ScLe s' s):∀l:List Gx,exFL s' l=exFL s l
 | []=>by
  conv=>lhs;unfold exFL
  conv=>rhs;unfold exFL
 | x::l=>by
  conv=>lhs;unfold exFL
  conv=>rhs;unfold exFL
  rw[exF_le h x,exFL_le h l]
end
theorem tellF_le {cs:List Gc}{s' s s2:Sc}{k sz l c:Int}{nm:List UInt8}(h:ScLe s' s)(ht:DZ cs s k sz l c nm=.ok s2):∃s2',DZ cs s' k sz l c nm=.ok s2'∧ScLe s2' s2:=by
 unfold DZ at ht ⊢;rw[told_le h,h.1,h.2.1];split at ht
 ·cases ht
 ·rename_i h0
  rw[if_neg h0];split at ht
  ·rename_i h1
   rw[if_pos h1];split at ht
   ·cases ht
   ·rename_i h2
    rw[if_neg h2]
    cases ht;exact⟨_,rfl,rfl,rfl,h.2.2⟩
  ·rename_i h1
   rw[if_neg h1];split at ht
   ·cases ht
   ·rename_i h2
    rw[if_neg h2];split at ht
    ·cases ht
    ·rename_i h3
     rw[if_neg h3]
     cases ht;exact⟨_,rfl,rfl,rfl,h.2.2⟩
theorem callF_le {cs:List Gc}{s' s s2:Sc}{op l c:Int}{val into cont:List UInt8}(h:ScLe s' s)(ht:clF cs s op l c val into cont=.ok s2):(∃s2',clF cs s' op l c val into cont=.ok s2'∧ScLe s2' s2)∧ScLe s s2:=by
 unfold clF at ht ⊢;rw[told_le h,told_le h];split at ht
 ·cases ht
 ·split at ht
  ·cases ht
  ·rename_i h1
   rw[if_neg h1];split at ht
   ·cases ht
   ·rename_i h2
    rw[if_neg h2];split at ht
    ·cases ht
    ·rename_i h3
     rw[if_neg h3]
     cases ht;exact⟨⟨_,rfl,h.1,h.2.1,Nat.succ_le_succ h.2.2⟩,rfl,rfl,Nat.le_succ _⟩
theorem stF_eq (cs : List Gc)(s : Sc)(k sz op : Int)(nm val into cont : List UInt8)(xs : List Gx)(thn els : List Gs)(l c : Int) : stF cs s (.mk k nm sz op val into cont xs thn els l c) = match exFL s xs with
      |some f => .error f
      | none =>
        if k = 1∨k = 2 then DZ cs s k sz l c nm
        else if k = 3 then (if told s nm≠1 then .error ⟨6, l, c⟩ else .ok s)
        else if k = 4 then (if told s nm≠2 then .error ⟨6, l, c⟩ else .ok s)
        else if k = 9 then clF cs s op l c val into cont
        else .ok s := rfl
theorem stF_le {cs:List Gc}{s' s s2:Sc}{x:Gs}(h:ScLe s' s)(ht:stF cs s x=.ok s2):∃s2',stF cs s' x=.ok s2'∧ScLe s2' s2:=by
 obtain⟨k,nm,sz,op,val,into,cont,xs,thn,els,l,c⟩:=x;rw[stF_eq]at ht ⊢;rw[exFL_le h xs]
 cases hx:exFL s xs with
 |some f=>rw[hx]at ht;cases ht
 | none=>
  rw[hx]at ht;dsimp only at ht ⊢;rw[told_le h];split at ht
  ·rename_i h1
   rw[if_pos h1];exact tellF_le h ht
  ·rename_i h1
   rw[if_neg h1];split at ht
   ·rename_i h2
    rw[if_pos h2];split at ht
    ·cases ht
    ·rename_i h3
     rw[if_neg h3]
     cases ht;exact⟨_,rfl,h⟩
   ·rename_i h2
    rw[if_neg h2];split at ht
    ·rename_i h3
     rw[if_pos h3];split at ht
     ·cases ht
     ·rename_i h4
      rw[if_neg h4]
      cases ht;exact⟨_,rfl,h⟩
    ·rename_i h3
     rw[if_neg h3];split at ht
     ·rename_i h4
      rw[if_pos h4];exact(callF_le h ht).1
     ·rename_i h4
      rw[if_neg h4]
      cases ht;exact⟨_,rfl,h⟩
theorem stF_quiet {cs:List Gc}{s s2:Sc}{x:Gs}(hq:tlS x=false)(ht:stF cs s x=.ok s2):ScLe s s2:=by
 obtain⟨k,nm,sz,op,val,into,cont,xs,thn,els,l,c⟩:=x
 have hk:¬(k=1∨k=2):=by
  unfold tlS at hq;simp only[Bool.or_eq_false_iff,BF]at hq;intro h;rcases h with h|h
  ·exact hq.1 h
  ·exact hq.2.1 h
 rw[stF_eq]at ht
 cases hx:exFL s xs with
 |some f=>rw[hx]at ht;cases ht
 | none=>
  rw[hx]at ht;dsimp only at ht;rw[if_neg hk]at ht;split at ht
  ·split at ht
   ·cases ht
   ·cases ht;exact ScLe.refl _
  ·split at ht
   ·split at ht
    ·cases ht
    ·cases ht;exact ScLe.refl _
   ·split at ht
    ·exact(callF_le (ScLe.refl s) ht).2
    ·cases ht;exact ScLe.refl _
theorem foldF_appL (cs:List Gc):∀(a b:List Gs) (s:Sc),CK cs s (a++b)=match CK cs s a with | .error f=>.error f | .ok s'=>CK cs s' b
 |[],b,s=>rfl
 | x::a,b,s=>by
  have e:∀l,CK cs s (x::l)=(match stF cs s x with | .error f=>(.error f:Except Fl Sc) | .ok s'=>CK cs s' l):=fun l=>rfl;rw[List.cons_append,e,e]
  cases stF cs s x with
  |error f=>rfl
  |ok s'=>exact foldF_appL cs a b s'
theorem foldF_two {cs:List Gc}{a b:List Gs}{s s2:Sc}(h:CK cs s (a++b)=.ok s2):∃s1,CK cs s a=.ok s1∧CK cs s1 b=.ok s2:=by
 rw[foldF_appL]at h
 cases ha:CK cs s a with
 |error f=>rw[ha]at h;cases h
 |ok s1=>rw[ha]at h;exact⟨s1,rfl,h⟩
theorem foldF_consL {cs:List Gc}{x:Gs}{b:List Gs}{s s2:Sc}(h:CK cs s (x::b)=.ok s2):∃s1,stF cs s x=.ok s1∧CK cs s1 b=.ok s2:=by
 have e:CK cs s (x::b)=(match stF cs s x with | .error f=>(.error f:Except Fl Sc) | .ok s'=>CK cs s' b):=rfl;rw[e]at h
 cases ha:stF cs s x with
 |error f=>rw[ha]at h;cases h
 |ok s1=>rw[ha]at h;exact⟨s1,rfl,h⟩
theorem foldF_mk {cs:List Gc}{x:Gs}{b:List Gs}{s s1:Sc}(h:stF cs s x=.ok s1):CK cs s (x::b)=CK cs s1 b:=by
 have e:CK cs s (x::b)=(match stF cs s x with | .error f=>(.error f:Except Fl Sc) | .ok s'=>CK cs s' b):=rfl;rw[e,h]
theorem foldF_join {cs:List Gc}{a b:List Gs}{s s1:Sc}(h:CK cs s a=.ok s1):CK cs s (a++b)=CK cs s1 b:=by rw[foldF_appL,h]
mutual
theorem flat_quiet {cs:List Gc}:∀{x:Gs}{s s2:Sc},tlS x=false→CK cs s (flat x)=.ok s2→ScLe s s2
 | .mk k nm sz op val into cont xs thn els l c,s,s2,hq,h=>by
  have hq2:=hq;unfold flat at h;obtain⟨s1,h1,h2⟩:=foldF_consL h;obtain⟨s3,h3,h4⟩:=foldF_two h2;unfold tlS at hq2;simp only[Bool.or_eq_false_iff]at hq2;exact(stF_quiet hq h1).trans ((flatL_quiet hq2.2.2.1 h3).trans (flatL_quiet hq2.2.2.2 h4))
theorem flatL_quiet {cs:List Gc}:∀{l:List Gs}{s s2:Sc},tlL l=false→CK cs s (CI l)=.ok s2→ScLe s s2
 |[],s,s2,hq,h=>by unfold CI CK at h;cases h;exact ScLe.refl _
 | x::l,s,s2,hq,h=>by
  unfold CI at h;obtain⟨s1,h1,h2⟩:=foldF_two h;unfold tlL at hq;simp only[Bool.or_eq_false_iff]at hq;exact(flat_quiet hq.1 h1).trans (flatL_quiet hq.2 h2)
end
theorem flatL_nilL:CI []=[]:=by unfold CI;rfl
theorem flatL_consL (x:Gs)(l:List Gs):CI (x::l)=flat x++CI l:=by conv=>lhs;unfold CI
theorem flatL_appL:∀a b:List Gs,CI (a++b)=CI a++CI b
 |[],b=>by rw[List.nil_append,flatL_nilL,List.nil_append]
 |x::a,b=>by rw[List.cons_append,flatL_consL,flatL_consL,flatL_appL a b,List.append_assoc]
mutual
theorem wS_fold {cs:List Gc}:∀(x:Gs) (n seen:Int) {s' s s2:Sc},ScLe s' s→CK cs s (flat x)=.ok s2→∃s2',CK cs s' (CI (wS x n seen).1.toList)=.ok s2'∧ScLe s2' s2
 | .mk k nm sz op val into cont xs thn els l c,n,seen,s',s,s2,hs,h=>by
  unfold wS;split
  ·rename_i hc
   refine⟨s',by unfold CI CK;rfl,hs.trans (flat_quiet hc.1 h)⟩
  ·dsimp only;unfold flat at h;obtain⟨s1,h1,h2⟩:=foldF_consL h;obtain⟨s3,h3,h4⟩:=foldF_two h2;generalize (if tlS (.mk k nm sz op val into cont xs thn els l c)=false then seen+1 else seen)=q;obtain⟨t1,k1,e1⟩:=stF_le hs h1;obtain⟨t3,k3,e3⟩:=wL_fold thn (n - q) 0 e1 h3;obtain⟨t4,k4,e4⟩:=wL_fold els (n - (q+(wL thn (n - q) 0).2)) 0 e3 h4;refine⟨t4,?_,e4⟩;have hst:stF cs s' (.mk k nm sz op val into cont xs (wL thn (n - q) 0).1 (wL els (n - (q+(wL thn (n - q) 0).2)) 0).1 l c)=.ok t1:=by rw[stF_eq]at k1 ⊢;exact k1
   show CK cs s' (CI [_])=_;have hfl:∀y:Gs,CI [y]=flat y:=fun y=>by unfold CI CI;rw[List.append_nil]
   rw[hfl];unfold flat
   rw[foldF_mk hst,foldF_join k3,k4]
theorem wL_fold {cs:List Gc}:∀(l:List Gs) (n seen:Int) {s' s s2:Sc},ScLe s' s→CK cs s (CI l)=.ok s2→∃s2',CK cs s' (CI (wL l n seen).1)=.ok s2'∧ScLe s2' s2
 | [],n,seen,s',s,s2,hs,h=>by
  unfold CI CK at h
  cases h;exact⟨s',by unfold wL CI CK;rfl,hs⟩
 | x::l,n,seen,s',s,s2,hs,h=>by
  unfold CI at h;obtain⟨s1,h1,h2⟩:=foldF_two h;obtain⟨t1,k1,e1⟩:=wS_fold x n seen hs h1;obtain⟨t2,k2,e2⟩:=wL_fold l n (wS x n seen).2 e1 h2;refine⟨t2,?_,e2⟩;unfold wL;dsimp only;rw[flatL_appL,foldF_join k1,k2]
end
mutual
theorem wS_seen:∀(x:Gs) (n seen:Int),seen≤(wS x n seen).2
 | .mk k nm sz op val into cont xs thn els l c,n,seen=>by
  unfold wS;split
  ·show seen≤seen+1;omega
  ·dsimp only;generalize hq:(if tlS (.mk k nm sz op val into cont xs thn els l c)=false then seen+1 else seen)=q;have h0:seen≤q:=by rw[←hq];split<;>omega
   have h1:=wL_seen thn (n - q) 0;have h2:=wL_seen els (n - (q+(wL thn (n - q) 0).2)) 0;omega
theorem wL_seen:∀(l:List Gs) (n seen:Int),seen≤(wL l n seen).2
 |[],n,seen=>by unfold wL;exact Int.le_refl _
 | x::l,n,seen=>by
  unfold wL;dsimp only;exact Int.le_trans (wS_seen x n seen) (wL_seen l n _)
end
mutual
theorem wS_size:∀(x:Gs) (n seen:Int),BI (wS x n seen).1.toList≤CO x∧(wS x n seen).2 - seen≤CO x
 | .mk k nm sz op val into cont xs thn els l c,n,seen=>by
  have e:CO (.mk k nm sz op val into cont xs thn els l c)=CV xs+BI thn+BI els+1:=by conv=>lhs;unfold CO
  unfold wS;split
  ·exact⟨by unfold BI;exact Nat.zero_le _,by rw[e];show seen+1 - seen≤_;omega⟩
  ·dsimp only;generalize hq:(if tlS (.mk k nm sz op val into cont xs thn els l c)=false then seen+1 else seen)=q;have h0:q≤seen+1:=by rw[←hq];split<;>omega
   have h1:=wL_size thn (n - q) 0;have h2:=wL_size els (n - (q+(wL thn (n - q) 0).2)) 0;have e1:∀y:Gs,BI [y]=CO y:=fun y=>by unfold BI BI;rfl
   have e2:∀a b,CO (.mk k nm sz op val into cont xs a b l c)=CV xs+BI a+BI b+1:=fun a b=>by conv=>lhs;unfold CO
   refine⟨?_,?_⟩
   ·show BI [_]≤_;rw[e1,e2,e];omega
   ·rw[e];omega
theorem wL_size : ∀(l : List Gs) (n seen : Int), BI (wL l n seen).1≤BI l∧(wL l n seen).2 - seen≤BI l
  |[], n, seen => by unfold wL BI; exact⟨Nat.le_refl _, by omega⟩
  | x :: l, n, seen => by
    have h1 := wS_size x n seen;have h2 := wL_size l n (wS x n seen).2;have e : BI (x :: l) = CO x + BI l := by conv => lhs; unfold BI
    have ha : ∀a b : List Gs, BI (a ++ b) = BI a + BI b := fun a b => by
      induction a with
      |nil =>  rw[List.nil_append]; have : BI [] = 0 := by unfold BI; rfl
               omega
      | cons y a ih =>
        have e3 : ∀r, BI (y :: r) = CO y + BI r := fun r => by conv => lhs; unfold BI
        rw[List.cons_append, e3, e3, ih]; omega
    unfold wL;dsimp only;rw[ha, e];omega
end
abbrev TFw:TypeId:=81
abbrev fwV (er li co:Int):Value:=.iface TFw (.agg #[.int .i64 er,.int .i64 li,.int .i64 co])
abbrev fwC (er li co:Int):List PanicEntry:=[{ v:=fwV er li co,recovered:=false }]
theorem bad_no (w:World)(er li co:Int):Calls Tryz.prog 40 #[.bool false,.int .i64 er,.int .i64 li,.int .i64 co] w fun e w'=>e=.returned (.tuple #[])∧w'=w:=by
 go_enter Tryz.func40,Tryz.ntmps40;go_wp2_with fail
 go_end0
 exact⟨rfl,rfl⟩
theorem bad_yes (w:World)(er li co:Int):Calls Tryz.prog 40 #[.bool true,.int .i64 er,.int .i64 li,.int .i64 co] w fun e w'=>e=.panicked (fwC er li co)∧w'=w:=by
 simp only[fwC,fwV,TFw];go_enter Tryz.func40,Tryz.ntmps40;go_wp2_with fail;exact⟨rfl,rfl,rfl⟩
theorem bad_any2 (b:Bool)(w:World)(er li co:Int):Calls Tryz.prog 40 #[.bool b,.int .i64 er,.int .i64 li,.int .i64 co] w fun e w'=>e=(if b then .panicked (fwC er li co) else .returned (.tuple #[]))∧w'=w:=by
 cases b
 ·exact bad_no w er li co
 ·exact bad_yes w er li co
theorem within_any (w:World)(n m:Int):Calls Tryz.prog 42 #[.int .i64 n,.int .i64 m] w fun e w'=>e=.returned (.bool (decide (1≤n) && decide (n≤m)))∧w'=w:=by
 by_cases h1:1≤n
 ·rw[decide_eq_true h1,Bool.true_and];by_cases h2:n≤m
  ·rw[decide_eq_true h2];go_enter Tryz.func42,Tryz.ntmps42;go_wp2_with fail;go_ret;exact⟨rfl,rfl⟩
  ·rw[decide_eq_false h2];go_enter Tryz.func42,Tryz.ntmps42;go_wp2_with fail;go_ret;exact⟨rfl,rfl⟩
 ·rw[decide_eq_false h1,Bool.false_and];go_enter Tryz.func42,Tryz.ntmps42;go_wp2_with fail;go_ret;exact⟨rfl,rfl⟩
theorem fits_1 {op kind:Int}(h:op=1∨op=2):fitsB op kind=(kind==1):=by unfold fitsB;rw[if_pos h]
theorem fits_2 {op kind:Int}(h:op=3∨op=4):fitsB op kind=(kind==2):=by unfold fitsB;rw[if_neg (by omega),if_pos h]
theorem fits_3 {op kind:Int}(h:op=5∨op=6∨op=7):fitsB op kind=(kind==3):=by unfold fitsB;rw[if_neg (by omega),if_neg (by omega),if_pos h]
theorem fits_0 {op kind:Int}(h:¬(1≤op∧op≤7)):fitsB op kind=false:=by unfold fitsB;rw[if_neg (by omega),if_neg (by omega),if_neg (by omega)]
theorem fits_any (w:World)(op kind:Int):Calls Tryz.prog 72 #[.int .i64 op,.int .i64 kind] w fun e w'=>e=.returned (.bool (fitsB op kind))∧w'=w:=by
 by_cases h:1≤op∧op≤7
 ·have hc:op=1∨op=2∨op=3∨op=4∨op=5∨op=6∨op=7:=by omega
  rcases hc with rfl|rfl|rfl|rfl|rfl|rfl|rfl
  all_goals first|rw[fits_1 (by decide)]|rw[fits_2 (by decide)]|rw[fits_3 (by decide)]
  all_goals
   clear h;go_enter Tryz.func72,Tryz.ntmps72;go_wp2_with fail;go_ret;exact⟨rfl,rfl⟩
 ·rw[fits_0 h];have b1:(op==1)=false:=by rw[BF];omega
  have b2:(op==2)=false:=by rw[BF];omega
  have b3:(op==3)=false:=by rw[BF];omega
  have b4:(op==4)=false:=by rw[BF];omega
  have b5:(op==5)=false:=by rw[BF];omega
  have b6:(op==6)=false:=by rw[BF];omega
  have b7:(op==7)=false:=by rw[BF];omega
  clear h;go_enter Tryz.func72,Tryz.ntmps72;go_wp2_with fail;go_ret;exact⟨rfl,rfl⟩
def contI (cs:List Gc)(nm:List UInt8):Int:=match CZ cs nm with|some i=>(i:Int)|none=>-1
abbrev TStr:TypeId:=9
theorem contFn_any (a:Gc)(nm:List UInt8)(B:Nat)(w:World)(hB:w.heap[B]?=some (.cells #[strV nm] TStr (0,0))):
  Calls Tryz.prog 36 #[gcV a,.pointer (some ⟨B,0,none⟩)] w fun e w'=>e=.returned (.bool (a.name==nm))∧BA (fun _=>False) w w':=by
 obtain⟨ak,an,al,ac⟩:=a;unfold gcV;dsimp only;obtain⟨V,B1,hV,hB1,hb1,hk1,hs1⟩:=BD w (.cells #[.int .i64 ak,strV an,.int .i64 al,.int .i64 ac] TCt);have HK:=hid hk1;have hx:V.cell? ⟨B,0,none⟩=some (strV nm):=by have:=hk1.blk hB;simp[World.cell?,this]
 have hb:=hb1;unfold strV at hb hV hx ⊢;clear hb1 hk1 hs1 hB;by_cases h2:an=nm
 ·subst h2;rw[beq_self_eq_true];obtain⟨n0,n1,n2,n3⟩:=blk4 hb;go_enter Tryz.func36,Tryz.ntmps36;go_upto_region 1 with fail;rw[←hV,←hB1];clear hV hB1;go_wp2_with fail;go_ret;exact⟨rfl,HK.out⟩
 ·have h3:(an==nm)=false:=BF.2 h2;obtain⟨n0,n1,n2,n3⟩:=blk4 hb;go_enter Tryz.func36,Tryz.ntmps36;go_upto_region 1 with fail;rw[←hV,←hB1];clear hV hB1;go_wp2_with fail;go_ret;exact⟨by rw[h3];rfl,HK.out⟩
theorem contI_hit {cs:List Gc}{nm:List UInt8}{k:Nat}(h:k<cs.length)(hk:(cs[k].name==nm)=true)(hb:∀j,(hj:j<k)→(h:j<cs.length)→(cs[j].name==nm)=false):contI cs nm=k:=by
 have:CZ cs nm=some k:=by
  unfold CZ;rw[List.findIdx?_eq_some_iff_getElem];exact⟨h,hk,fun j hj=>by rw[hb j hj (by omega)];exact NT⟩
 unfold contI;rw[this]
theorem contI_miss {cs:List Gc}{nm:List UInt8}(hb:∀j,(h:j<cs.length)→(cs[j].name==nm)=false):contI cs nm=-1:=by
 have:CZ cs nm=none:=by
  unfold CZ;rw[List.findIdx?_eq_none_iff];intro x hx;obtain⟨j,hj,e⟩:=List.getElem_of_mem hx;rw[←e,hb j hj]
 unfold contI;rw[this]
theorem contAt_any (l:List Gc)(nm:List UInt8)(B:Nat)(hl:l.length≤1099511627776)(w:World)(hB:w.heap[B]?=some (.cells #[strV nm] TStr (0,0)))(S:Nat→Prop)(p:Option Addr)(c:Nat)(hp:GCts w S p l):
  Calls Tryz.prog 35 #[.slice p l.length c,.func (.func 36) #[] #[.pointer (some ⟨B,0,none⟩)]] w fun e w'=>e=.returned (.int .i64 (contI l nm))∧BA (fun _=>False) w w':=by
 have HP:=hid hp;have HB:=hid hB;clear hp hB;go_enter Tryz.func35,Tryz.ntmps35;go_wp2_with fail;go_loopw [8] (fun v8 wr=>∃k:Nat,v8=.int .i64 k∧k≤l.length∧(∀j,(hj:j<k)→(h:j<l.length)→(l[j].name==nm)=false)∧BA (fun _=>False) w wr) (fun v _=>l.length - (intOf v).toNat)
 case atStart=>exact⟨0,rfl,Nat.zero_le _,fun j h=>absurd h (Nat.not_lt_zero _),BA.refl _ _⟩
 case round=>
  obtain⟨k,rfl,hk,hall,hkk⟩:=hrel;have HALL:=hid hall;have HK:=hid hkk;by_cases hlt:k<l.length
  ·have hlti:(k:Int)<l.length:=by omega
   have hi0:(0:Int)≤k:=by omega
   have hWi:IntKind.i64.wrap ((k:Int)+1)=(k:Int)+1:=IntWalk.i64_in _ (by omega);obtain⟨g,o,hp,-,y0,y1,y2,y3⟩:=(HP.out.keep hkk fun _ _ e=>e) k hlt;subst hp;have HFN:=hid (contFn_any l[k] nm B wr (hkk.blk HB.out));obtain⟨a,ha⟩:∃a,(l[k].name==nm)=a:=⟨_,rfl⟩;have HA:=hid ha;rw[ha]at HFN;obtain⟨S1,hS1⟩:∃s,strV l[k].name=.string s:=⟨_,rfl⟩;obtain⟨i1,hi1⟩:∃s,l[k].kind=s:=⟨_,rfl⟩;obtain⟨i2,hi2⟩:∃s,l[k].line=s:=⟨_,rfl⟩;obtain⟨i3,hi3⟩:∃s,l[k].col=s:=⟨_,rfl⟩;unfold gcV at HFN;rw[hS1,hi1,hi2,hi3]at HFN;rw[hi1]at y0;rw[hS1]at y1;rw[hi2]at y2;rw[hi3]at y3;clear hS1 hi1 hi2 hi3;clear hkk hall ha
   cases a with
   | false=>
    go_wp2_with (go_at_call 36;refine HFN.out.mono ?_;rintro e w2 ⟨rfl,hk2⟩;have HK2:=hid hk2;clear hk2)
    exact⟨⟨k+1,by simp,by omega,fun j hj h=>by
     by_cases e:j=k
     ·subst e;exact HA.out
     ·exact HALL.out j (by omega) h,HK.out.trans HK2.out⟩,by simp only[intOf];omega⟩
   | true=>
    go_wp2_with (go_at_call 36;refine HFN.out.mono ?_;rintro e w2 ⟨rfl,hk2⟩;have HK2:=hid hk2;clear hk2);go_ret;exact⟨by rw[contI_hit hlt HA.out HALL.out];rfl,HK.out.trans HK2.out⟩
  ·have hnl:¬(k:Int)<l.length:=by omega
   clear hkk hall;go_wp2_with fail;go_ret;exact⟨by rw[contI_miss fun j hj=>HALL.out j (by omega) hj];rfl,HK.out⟩
theorem cont_any (p:Gp)(nm:List UInt8)(hl:p.conts.length≤1099511627776)(w:World)(S:Nat→Prop)(v:Value)(hp:PAt w S v p):
  Calls Tryz.prog 22 #[v,strV nm] w fun e w'=>e=.returned (.int .i64 (contI p.conts nm))∧BA (fun _=>False) w w':=by
 obtain⟨p1,c1,p2,c2,rfl,hc,-⟩:=hp;obtain⟨V1,B1,hV1,hB1,hb1,hk1,hs1⟩:=BD w (.cells #[.int .i64 p.pool,.slice p1 p.conts.length c1,.slice p2 p.threads.length c2] 25);obtain⟨V,B2,hV,hB2,hb2,hk2,hs2⟩:=BD V1 (.cells #[strV nm] TStr);have HI:=hid (contAt_any p.conts nm B2 hl V hb2 S p1 c1 ((hc.keep hk1 fun _ _ e=>e).keep hk2 fun _ _ e=>e));have HK:=hid (hk1.trans hk2);have h12:B1+1=B2:=by omega
 obtain⟨n0,n1,n2,-⟩:=BS (hk2.blk hb1);obtain⟨N,hN⟩:∃N:Int,(p.pool:Int)=N:=⟨_,rfl⟩;rw[hN]at hV1 n0 ⊢;unfold strV at hV ⊢;clear hc hb1 hb2 hk1 hk2 hs1 hs2 hN;go_enter Tryz.func22,Tryz.ntmps22;go_upto_region 1 with fail;rw[←hV1,←hB1,←hV,h12];clear hV1 hB1 hV hB2 h12;go_wp2_with (go_at_call 35;refine HI.out.mono ?_;rintro e w5 ⟨rfl,hk5⟩;have HK5:=hid hk5;clear hk5);go_ret;exact⟨rfl,HK.out.trans HK5.out⟩
def mixS (k:List UInt8):List (List UInt8×Value)→Nat→Option (Nat×Value)
 |[],_=>none
 |p::l,i=>if p.1=k then some (i,p.2) else mixS k l (i+1)
def mgetS (l:List (List UInt8×Value))(k:List UInt8):Option Value:=(mixS k l 0).map (·.2)
def msetS (l:List (List UInt8×Value))(k:List UInt8)(v:Value):List (List UInt8×Value):=match mixS k l 0 with
 |some (i,_)=>l.set i (k,v)
 |none=>l++[(k,v)]
theorem mix_shiftS (k:List UInt8):∀(l:List (List UInt8×Value)) (i:Nat),mixS k l i=(mixS k l 0).map fun p=>(p.1+i,p.2)
 |[],_=>rfl
 | p::l,i=>by
  unfold mixS;split
  ·simp
  ·rw[mix_shiftS k l (i+1),mix_shiftS k l (0+1)]
   cases mixS k l 0<;>simp;omega
theorem mix_noneS {k:List UInt8}{l:List (List UInt8×Value)}{i:Nat}:mixS k l i=none↔∀p∈l,p.1≠k:=by
 induction l generalizing i with
 |nil=>simp[mixS]
 | cons p l ih=>
  unfold mixS;split
  ·rename_i h;simp[h]
  ·rename_i h;simp[ih,h]
theorem mix_someS {k:List UInt8}{l:List (List UInt8×Value)}{i:Nat}{v:Value}(h:mixS k l 0=some (i,v)):l[i]?=some (k,v):=by
 induction l generalizing i with
 |nil=>simp[mixS]at h
 | cons p l ih=>
  unfold mixS at h;split at h
  ·rename_i hp
   simp only[Option.some.injEq,Prod.mk.injEq]at h;obtain⟨rfl,rfl⟩:=h;simp[←hp]
  ·rw[mix_shiftS]at h
   cases hm:mixS k l 0 with
   |none=>simp[hm]at h
   | some q=>
    obtain⟨j,u⟩:=q;simp only[hm,Option.map_some,Option.some.injEq,Prod.mk.injEq]at h;obtain⟨rfl,rfl⟩:=h;simpa using ih hm
theorem mget_consS (p:List UInt8×Value)(l:List (List UInt8×Value))(k:List UInt8):mgetS (p::l) k=if p.1=k then some p.2 else mgetS l k:=by
 show (if p.1=k then some (0,p.2) else mixS k l (0+1)).map (·.2)=if p.1=k then some p.2 else (mixS k l 0).map (·.2)
 split
 ·rfl
 ·rw[mix_shiftS]
  cases mixS k l 0<;>simp
theorem mget_appendS (l m:List (List UInt8×Value))(k:List UInt8):mgetS (l++m) k=(mgetS l k).or (mgetS m k):=by
 induction l with
 |nil=>simp[mgetS,mixS]
 |cons p l ih=>rw[List.cons_append,mget_consS,mget_consS,ih];split<;>simp
theorem mset_nodupS {l:List (List UInt8×Value)}(hd:(l.map (·.1)).Nodup)(k:List UInt8)(v:Value):((msetS l k v).map (·.1)).Nodup:=by
 unfold msetS
 cases hm:mixS k l 0 with
 | some p=>
  obtain⟨i,u⟩:=p;have h:=mix_someS hm
  have:(l.set i (k,v)).map (·.1)=l.map (·.1):=by
   apply List.ext_getElem?;intro n;rw[List.getElem?_map,List.getElem?_set,List.getElem?_map];split
   ·rename_i hn
    subst hn;rw[h];split<;>simp_all
   ·rfl
  simp only;rw[this];exact hd
 | none=>
  simp only[List.map_append,List.map_cons,List.map_nil];rw[List.nodup_append];refine⟨hd,by simp,?_⟩;intro a ha b hb;simp only[List.mem_singleton]at hb;subst hb;obtain⟨p,hp,rfl⟩:=List.mem_map.1 ha;exact mix_noneS.1 hm p hp
def MapS (w:World)(b:Nat)(l:List (List UInt8×Value)):Prop:=
 (l.map (·.1)).Nodup∧∃es clock,w.heap[b]?=some (.map es clock)∧es.toList.map (fun e=>(e.key,e.val))=l.map (fun p=>(strV p.1,p.2))
section
variable {P : Program}{w : World}{b : Nat}{l : List (List UInt8×Value)}
theorem MapS.of_same {w':World}(h:MapS w b l)(hb:w'.heap[b]?=w.heap[b]?):MapS w' b l:=by
 obtain⟨h1,es,c,h2,h3⟩:=h;exact⟨h1,es,c,hb.trans h2,h3⟩
theorem MapS.lt (h:MapS w b l):b<w.heap.size:=by
 obtain⟨h1,es,c,h2,h3⟩:=h;rcases Nat.lt_or_ge b w.heap.size with h' | h'
 ·exact h'
 ·rw[Array.getElem?_eq_none h']at h2;cases h2
theorem findNow_mixS (k:List UInt8):∀(es:List MapEntry) (l:List (List UInt8×Value)) (i:Nat),es.map (fun e=>(e.key,e.val))=l.map (fun p=>(strV p.1,p.2))→Instr.findNow .string (strV k) es i=some (mixS k l i)
 |[],[],_,_=>rfl
 |[],p::l,_,h=>by simp at h
 |e::es,[],_,h=>by simp at h
 | e::es,p::l,i,h=>by
  simp only[List.map_cons,List.cons.injEq,Prod.mk.injEq]at h;obtain⟨⟨h1,h2⟩,h3⟩:=h;unfold Instr.findNow mixS;rw[h1]
  have hs:Instr.sameNow .string (strV k) (strV p.1)=some (decide (p.1=k)):=by
   show some ((⟨k.toArray⟩:ByteArray)==(⟨p.1.toArray⟩:ByteArray))=_
   congr 1
   rw[Bool.eq_iff_iff,MapKept.bytes_beq,decide_eq_true_iff];constructor
   ·intro h;have h:=congrArg (fun x:ByteArray=>x.data.toList) h;simpa using h.symm
   ·rintro rfl;rfl
  rw[hs];by_cases hk:p.1=k
  ·subst hk;simp[h2]
  ·simp only[decide_eq_false hk,if_neg hk];exact findNow_mixS k es l (i+1) h3
theorem run_makeMapS (t:TypeId)(w:World):(Instr.makeMap t none).run P w=.ok (.map (some w.heap.size)) (w.alloc (.map #[] 0)):=by
 simp[Instr.makeMap,Result.andThen]
theorem MapS.look (h:MapS w b l){mt kt e:TypeId}(ht:P.underlying mt=some (.map kt e))(hk:P.underlying kt=some .string)(k:List UInt8)(z:Value)(hz:(zeroValue e).run P w=.ok z w):
  (Instr.lookup mt (.map (some b)) (strV k) false).run P w=.ok ((mgetS l k).getD z) w:=by
 obtain⟨h1,es,c,h2,h3⟩:=h;have hf:=findNow_mixS k es.toList l 0 h3;have hr:=MapKept.run_findKey (w:=w) hk hf;have hc:=MapKept.run_checkKey (w:=w) (k:=strV k) hk (by simp[MapKept.IsKey,strV]) es.isEmpty 9999
 cases hm:mixS k l 0 with
 | some p=>
  rw[hm]at hr;simp[Instr.lookup,run_underlying ht,MapKept.run_getObj_map h2,Result.andThen,hc,hr,mgetS,hm]
 | none=>
  rw[hm]at hr;simp[Instr.lookup,run_underlying ht,MapKept.run_getObj_map h2,Result.andThen,hc,hr,mgetS,hm,hz]
theorem heap_putS (w:World)(b:Nat)(o:Obj):BA (fun k=>k=b) w { w with heap:=w.heap.setIfInBounds b o }:=
 ⟨rfl,rfl,rfl,by simp,fun k _ hn=>by simp[Array.getElem?_setIfInBounds_ne (fun e=>hn e.symm)]⟩
end
end Go.Proofs.YtknnmidnodeanaaGreatDoor
