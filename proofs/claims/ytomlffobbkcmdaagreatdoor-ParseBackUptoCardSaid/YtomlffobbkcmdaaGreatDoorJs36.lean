import Derived.Test.YtomlffobbkcmdaaGreatDoorJs35
set_option maxHeartbeats 32000000
set_option maxRecDepth 4000
namespace Go.Proofs.YtomlffobbkcmdaaGreatDoor
open Go
open Go.Lib (hid)
def GoodI (its:List Item):Prop:=∀i∈its,Good i.tok
theorem GoodI.tail {t:Item}{r:List Item}(h:GoodI (t::r)):GoodI r:=fun i hi=>h i (List.mem_cons_of_mem _ hi)
theorem GoodI.drop {l:List Item}(h:GoodI l):GoodI l.tail:=fun i hi=>h i (List.mem_of_mem_tail hi)
theorem good_nm {t:Tok}(h:Good t)(hk:t.kind=2):CV t.text=true:=by
 rw[(good_names h).1,hk];rfl
theorem good_nu {t:Tok}(h:Good t)(hk:t.kind=3):t.num≤9223372036854775807:=by
 have h1:=h.again [] rfl
 rw[List.append_nil]at h1
 unfold tokT at h1
 split at h1
 ·unfold wordT at h1
  split at h1
  ·exact absurd (show (_:Nat)=0 from congrArg Prod.snd h1) (by decide)
  ·have:=congrArg (fun x=>x.1.kind) h1
   dsimp only at this
   rw[hk]at this
   split at this<;>omega
 ·split at h1
  ·unfold numT at h1
   split at h1
   ·exact absurd (show (_:Nat)=0 from congrArg Prod.snd h1) (by decide)
   ·split at h1
    ·exact absurd (show (_:Nat)=0 from congrArg Prod.snd h1) (by decide)
    ·rename_i h3
     have:=congrArg (fun x=>x.1.num) h1
     dsimp only at this
     omega
  ·unfold signT at h1
   split at h1
   ·have:=congrArg (fun x=>x.1.kind) h1
    dsimp only at this
    omega
   ·exact absurd (show (_:Nat)=0 from congrArg Prod.snd h1) (by decide)
theorem kind_lt (s:List UInt8):ofL DE s<4:=ofK_lt s
theorem ofL_mem {l:List (List UInt8)}{s:List UInt8}(h:ofL l s≠0):s∈l:=by
 unfold ofL at h
 split at h
 ·exact absurd rfl h
 ·split at h
  ·rename_i hc;simpa using hc
  ·exact absurd rfl h
theorem good_kw {t:Tok}(h:Good t)(hk:ofL DE t.text≠0):t.kind=1:=by
 have h1:t.text∈DE:=ofL_mem hk
 have h2:DG t.text=true:=by
  have hne:t.text≠[]:=fun e=>hk (by unfold ofL;rw[if_pos e])
  have hm:t.text=[]∨t.text=[115,116,97,99,107]∨t.text=[113,117,101,117,101]∨t.text=[115,101,116]:=by simpa [DE]using h1
  rcases hm with e|e|e|e
  ·exact absurd e hne
  all_goals rw[e];decide
 have:=(good_names h).2
 rw[h2]at this
 simpa using this.symm
theorem DF {L:List (List UInt8)}{ts r:List Item}{u:Unit}(h:CF L ts=.ok u r):∀i∈r,i∈ts:=by
 induction L generalizing ts with
 |nil=>unfold CF at h;cases h;exact fun i hi=>hi
 | cons s l ih=>
  unfold CF at h
  split at h
  ·exact fun i hi=>List.mem_of_mem_tail (ih h i hi)
  ·cases h
theorem GoodI.sub {a b:List Item}(h:GoodI a)(hs:∀i∈b,i∈a):GoodI b:=fun i hi=>h i (hs i hi)
def Tellable (nx:List Item→Option (Ex×List Item)):Prop:=∀its x r,GoodI its→nx its=some (x,r)→(mayG (toG x)=true∧fitG (toG x))∧(DK x+r.length≤its.length∧∀i∈r,i∈its)
theorem toG1 (x:Ex):toGL [x]=[toG x]:=by unfold toGL toGL;rfl
theorem toG2 (x y:Ex):toGL [x,y]=[toG x,toG y]:=by unfold toGL toGL toGL;rfl
theorem tell_bin {op l c:Nat}{x y:Ex}(h1:1≤op)(h13:op≤13)(hx:mayG (toG x)=true∧fitG (toG x))(hy:mayG (toG y)=true∧fitG (toG y)):mayG (toG (.mk 5 op 0 [] l c [x,y]))=true∧fitG (toG (.mk 5 op 0 [] l c [x,y])):=by
 unfold toG
 rw[toG2]
 constructor
 ·unfold mayG CR CR CR mayK
  simp[hx.1,hy.1]
  omega
 ·unfold fitG DU DU DU
  exact⟨by decide,hx.2,hy.2,trivial⟩
theorem rowL_tell {nx:List Item→Option (Ex×List Item)}(h:Tellable nx){ops:List Nat}(ho:∀op∈ops,1≤op∧op≤13):∀(f:Nat) (x:Ex) (its:List Item) (y:Ex) (r:List Item),GoodI its→mayG (toG x)=true∧fitG (toG x)→rowL nx ops f x its=some (y,r)→
  (mayG (toG y)=true∧fitG (toG y))∧(DK y+r.length≤DK x+its.length∧∀i∈r,i∈its)
 |0,_,_,_,_,_,_,e=>by cases e
 | f+1,x,its,y,r,hg,hx,e=>by
  unfold rowL at e
  split at e
  ·cases e;exact⟨hx,Nat.le_refl _,fun i hi=>hi⟩
  ·rename_i op hop
   split at e
   ·cases e
   ·rename_i t r0
    split at e
    ·cases e
    ·rename_i z r1 h1
     obtain⟨hz,hl,hs⟩:=h _ _ _ hg.tail h1
     have hr:=ho op (List.mem_of_find?_eq_some hop)
     obtain⟨a1,a2,a3⟩:=rowL_tell h ho f _ _ _ _ (hg.tail.sub hs) (tell_bin (l:=t.line) (c:=t.col) hr.1 hr.2 hx hz) e
     refine⟨a1,?_,fun i hi=>List.mem_cons_of_mem _ (hs i (a3 i hi))⟩
     have e2:DK (.mk 5 op 0 [] t.line t.col [x,z])=DK x+DK z+1:=by simp[DK,CX]
     rw[LB]
     omega
theorem rowN_tell {nx:List Item→Option (Ex×List Item)}(h:Tellable nx){ops:List Nat}(ho:∀op∈ops,1≤op∧op≤13):Tellable (rowN nx ops):=fun its x r hg e=>by
 unfold rowN at e
 split at e
 ·cases e
 ·rename_i z r1 h1
  obtain⟨hz,hl,hs⟩:=h _ _ _ hg h1
  obtain⟨a1,a2,a3⟩:=rowL_tell h ho _ _ _ _ _ (hg.sub hs) hz e
  exact⟨a1,by omega,fun i hi=>hs i (a3 i hi)⟩
theorem rowsN_tell {nx:List Item→Option (Ex×List Item)}(h:Tellable nx):Tellable (rowsN nx):=
 rowN_tell (rowN_tell (rowN_tell (rowN_tell (rowN_tell (rowN_tell h (by decide)) (by decide)) (by decide)) (by decide)) (by decide)) (by decide)
theorem oneOf_tell {one expr:List Item→Option (Ex×List Item)}(h1:Tellable one)(h2:Tellable expr):Tellable (oneOf one expr):=fun its x r hg e=>by
 unfold oneOf at e
 cases its with
 |nil=>cases e
 | cons t r0=>
  dsimp only at e
  rw[LB]
  have un:∀(op:Nat) (z:Ex) (r1:List Item),1≤op→op≤2→one r0=some (z,r1)→(mayG (toG (.mk 4 op 0 [] t.line t.col [z]))=true∧fitG (toG (.mk 4 op 0 [] t.line t.col [z])))∧(DK (.mk 4 op 0 [] t.line t.col [z])+r1.length≤r0.length+1∧∀i∈r1,i∈t::r0):=by
   intro op z r1 o1 o2 hz
   obtain⟨a1,a2,a3⟩:=h1 _ _ _ hg.tail hz
   refine⟨?_,by simp only[DK,CX];omega,fun i hi=>List.mem_cons_of_mem _ (a3 i hi)⟩
   unfold toG
   rw[toG1]
   constructor
   ·unfold mayG CR CR mayK
    simp[a1.1]
    omega
   ·unfold fitG DU DU
    exact⟨by decide,a1.2,trivial⟩
  split at e
  ·split at e
   ·cases e
   ·rename_i hz
    cases e
    exact un 1 _ _ (by decide) (by decide) hz
  ·split at e
   ·split at e
    ·cases e
    ·rename_i hz
     cases e
     exact un 2 _ _ (by decide) (by decide) hz
   ·split at e
    ·split at e
     ·cases e
     ·rename_i z r1 hz
      split at e
      ·cases e
       obtain⟨a1,a2,a3⟩:=h2 _ _ _ hg.tail hz
       have:=GB r1
       exact⟨a1,by omega,fun i hi=>List.mem_cons_of_mem _ (a3 i (List.mem_of_mem_tail hi))⟩
      ·cases e
    ·split at e
     ·rename_i hk
      cases e
      refine⟨?_,by simp only[DK,CX];omega,fun i hi=>List.mem_cons_of_mem _ hi⟩
      have hn:=good_nu (hg t (by simp)) hk
      unfold toG toGL
      constructor
      ·unfold mayG CR mayK
       simp
      ·unfold fitG DU
       exact⟨by omega,trivial⟩
     ·split at e
      ·rename_i hk
       have hn:=good_nm (hg t (by simp)) hk
       split at e
       ·split at e
        ·cases e
        ·rename_i z r1 hz
         split at e
         ·cases e
          obtain⟨a1,a2,a3⟩:=h2 _ _ _ hg.tail.drop hz
          have d1:=GB r1
          have d2:=GB r0
          refine⟨?_,by simp only[DK,CX];omega,fun i hi=>List.mem_cons_of_mem _ (List.mem_of_mem_tail (a3 i (List.mem_of_mem_tail hi)))⟩
          unfold toG
          rw[toG1]
          constructor
          ·unfold mayG CR CR mayK
           simp[a1.1,hn]
          ·unfold fitG DU DU
           exact⟨by decide,a1.2,trivial⟩
         ·cases e
       ·cases e
        refine⟨?_,by simp only[DK,CX];omega,fun i hi=>List.mem_cons_of_mem _ hi⟩
        unfold toG toGL
        constructor
        ·unfold mayG CR mayK
         simp[hn]
        ·unfold fitG DU
         exact⟨by decide,trivial⟩
      ·cases e
theorem oneP_tell:∀f,Tellable (oneP f)
 |0=>fun _ _ _ _ e=>by cases e
 |f+1=>oneOf_tell (oneP_tell f) (rowsN_tell (oneP_tell f))
theorem exP_tell (f:Nat):Tellable (exP f):=rowsN_tell (oneP_tell f)
theorem exO_tell {f:Nat}{F:List Item→Option (List Item)}{its r:List Item}{x:Ex}(hg:GoodI its)(h:exO f F its=.ok x r):(mayG (toG x)=true∧fitG (toG x))∧(DK x+r.length≤its.length∧∀i∈r,i∈its):=exP_tell f its x r hg (exO_ok h)
def MtL (l:List St):Prop:=BX (toSL l)=true∧(DT (toSL l)∧fitSL (toSL l))
def MtS (s:St):Prop:=mayS (toS s)=true∧(fitN (toS s)∧fitS (toS s))
theorem MtL.nil:MtL []:=by unfold MtL toSL BX DT fitSL;exact⟨rfl,trivial,trivial⟩
theorem MtL.cons {s:St}{l:List St}(h:MtS s)(h':MtL l):MtL (s::l):=by
 unfold MtL toSL BX DT fitSL
 exact⟨by rw[h.1,h'.1];rfl,⟨h.2.1,h'.2.1⟩,⟨h.2.2,h'.2.2⟩⟩
def MtX (l:List Ex):Prop:=CR (toGL l)=true∧DU (toGL l)
theorem MtX.nil:MtX []:=by unfold MtX toGL CR DU;exact⟨rfl,trivial⟩
theorem MtX.cons {x:Ex}{l:List Ex}(h:mayG (toG x)=true∧fitG (toG x))(h':MtX l):MtX (x::l):=by
 unfold MtX toGL CR DU
 exact⟨by rw[h.1,h'.1];rfl,h.2,h'.2⟩
theorem tell_st {k sz op l c:Nat}{nm val into cont:List UInt8}{xs:List Ex}{thn els:List St}(hk:1≤k∧k≤9)(hf:GF k sz op nm val into cont xs.length thn.length els.length=true)
  (hx:MtX xs) (ht:MtL thn) (he:MtL els) (hs:sz≤9223372036854775807) (hl:val.length+into.length+cont.length≤1099511627776):MtS (.mk k nm sz op val into cont xs thn els l c):=by
 unfold MtS toS
 refine⟨?_,?_,?_⟩
 ·unfold mayS
  rw[toGL_len,toSL_len,toSL_len,hf,hx.1,ht.1,he.1]
  simp
  omega
 ·unfold fitN
  exact⟨by omega,hx.2,ht.2.1,he.2.1⟩
 ·unfold fitS
  exact⟨hl,ht.2.2,he.2.2⟩
theorem wantO_tell {k:Nat}{ts r:List Item}{t:Item}(hg:GoodI ts)(h:FB k ts=.ok t r):Good t.tok∧t.tok.kind=k∧r.length+1=ts.length∧∀i∈r,i∈ts:=by
 obtain⟨rfl,hk⟩:=FP h
 exact⟨hg t (by simp),hk,by rw[LB],fun i hi=>List.mem_cons_of_mem _ hi⟩
structure MtC (value:List UInt8)(q:Nat×List UInt8×List Ex):Prop where
 op:1≤q.1∧q.1≤7
 tk:(q.1=2∨q.1=4)↔value≠[]
 cont:CV q.2.1=true
 xs:MtX q.2.2
 n:q.2.2.length=if q.1=2∨q.1=4 then 0 else 1
theorem callO_tell {f:Nat}{F:List Item→Option (List Item)}{v:List UInt8}{ts r:List Item}{q:Nat×List UInt8×List Ex}(hg:GoodI ts)(h:callO f F v ts=.ok q r):MtC v q∧CX q.2.2+r.length+1≤ts.length∧∀i∈r,i∈ts:=by
 unfold callO at h
 obtain⟨op,r0,h1,g1⟩:=Oc.bind_ok h
 obtain⟨u,r1,h2,g2⟩:=Oc.bind_ok g1
 obtain⟨c,r2,h3,g3⟩:=Oc.bind_ok g2
 obtain⟨xs,r3,h4,g4⟩:=Oc.bind_ok g3
 obtain⟨u2,r4,h5,g5⟩:=Oc.bind_ok g4
 obtain⟨t,ht,e1,e2,e3,e4⟩:=opO_ok h1
 subst ht
 cases g5
 have s1:=DF h2;have s5:=DF h5
 have l1:=BR h2;have l5:=BR h5
 obtain⟨c1,c2,c3,c4⟩:=wantO_tell (hg.tail.sub s1) h3
 have hop:op<8:=by rw[←e1];exact ofL_lt _
 rw[LB]
 unfold argO at h4
 split at h4
 ·rename_i h24
  cases h4
  exact⟨⟨by dsimp only;omega,e4,good_nm c1 c2,MtX.nil,by dsimp only;rw[if_pos h24];rfl⟩,by simp only[CX];omega,fun i hi=>List.mem_cons_of_mem _ (s1 i (c4 i (s5 i hi)))⟩
 ·rename_i h24
  obtain⟨u3,r5,h6,k1⟩:=Oc.bind_ok h4
  obtain⟨x,r6,h7,k2⟩:=Oc.bind_ok k1
  cases k2
  have s6:=DF h6;have l6:=BR h6
  obtain⟨a1,a2,a3⟩:=exO_tell (((hg.tail.sub s1).sub c4).sub s6) h7
  exact⟨⟨by dsimp only;omega,e4,good_nm c1 c2,MtX.cons a1 MtX.nil,by dsimp only;rw[if_neg h24];rfl⟩,by simp only[CX];omega,fun i hi=>List.mem_cons_of_mem _ (s1 i (c4 i (s6 i (a3 i (s5 i hi)))))⟩
def MtsS (st:List Item→Oc St):Prop:=∀ts s r,GoodI ts→st ts=.ok s r→MtS s∧FS s+r.length≤ts.length∧∀i∈r,i∈ts
theorem fields_call {op:Nat}{val into cont:List UInt8}{n:Nat}(h1:1≤op∧op≤7)(htk:(op=2∨op=4)↔val≠[])(hv:val=[]∨CV val=true)(hi:CV into=true)(hc:CV cont=true)(hn:n=if op=2∨op=4 then 0 else 1):
  GF (9:Nat) (0:Nat) op [] val into cont n 0 0=true:=by
 by_cases h24:op=2∨op=4
 ·have hv2:CV val=true:=hv.resolve_left (htk.1 h24)
  rw[if_pos h24]at hn
  subst hn
  have h24':(op:Int)=2∨(op:Int)=4:=by omega
  unfold GF BK
  simp[h24',hv2,hi,hc]
  omega
 ·have hv2:val=[]:=Classical.byContradiction fun e=>h24 (htk.2 e)
  subst hv2
  rw[if_neg h24]at hn
  subst hn
  have h24':¬((op:Int)=2∨(op:Int)=4):=by omega
  unfold GF BK
  simp[h24',hi,hc]
  omega
theorem plainO_tell {f:Nat}{F:List Item→Option (List Item)}{l c:Nat}{ts r:List Item}{s:St}(hg:GoodI ts)(h:plainO f F l c ts=.ok s r):MtS s∧FS s+r.length≤ts.length∧∀i∈r,i∈ts:=by
 unfold plainO at h
 obtain⟨n,r0,h1,g1⟩:=Oc.bind_ok h
 clear h
 obtain⟨c1,c2,c3,c4⟩:=wantO_tell hg h1
 have hn:=good_nm c1 c2
 have hl:=GE hn
 have hg0:=hg.sub c4
 split at g1
 ·obtain⟨a,r1,h2,g2⟩:=Oc.bind_ok g1
  obtain⟨u,r2,h3,g3⟩:=Oc.bind_ok g2
  obtain⟨x,r3,h4,g4⟩:=Oc.bind_ok g3
  obtain⟨u2,r4,h5,g5⟩:=Oc.bind_ok g4
  cases g5
  obtain⟨a1,a2,a3⟩:=exO_tell hg0.drop h2
  have s3:=DF h3;have l3:=BR h3;have s5:=DF h5;have l5:=BR h5
  obtain⟨b1,b2,b3⟩:=exO_tell ((hg0.drop.sub a3).sub s3) h4
  have hh:BI r0 [91]=true:=by assumption
  have d:r0.tail.length+1=r0.length:=by cases r0 with
   |nil=>cases hh
   |cons _ _=>rw[List.tail_cons,LB]
  refine⟨tell_st (by decide) (by unfold GF BK;simp[hn]) (MtX.cons a1 (MtX.cons b1 MtX.nil)) MtL.nil MtL.nil (by decide) (by simp),by simp only[FS,CX,BV];omega,fun i hi=>c4 i (List.mem_of_mem_tail (a3 i (s3 i (b3 i (s5 i hi)))))⟩
 ·split at g1
  ·obtain⟨m,r1,h2,g2⟩:=Oc.bind_ok g1
   obtain⟨u,r2,h3,g3⟩:=Oc.bind_ok g2
   obtain⟨q,r3,h4,g4⟩:=Oc.bind_ok g3
   cases g4
   obtain⟨m1,m2,m3,m4⟩:=wantO_tell hg0.drop h2
   have s3:=DF h3;have l3:=BR h3
   obtain⟨k1,k2,k3⟩:=callO_tell ((hg0.drop.sub m4).sub s3) h4
   have hm:=good_nm m1 m2
   have l1:=GE hm;have l2:=GE k1.cont
   have d:=GB r0
   refine⟨tell_st (by decide) (fields_call k1.op k1.tk (.inr hn) hm k1.cont k1.n) k1.xs MtL.nil MtL.nil (by decide) (by omega),by simp only[FS,BV];omega,fun i hi=>c4 i (List.mem_of_mem_tail (m4 i (s3 i (k3 i hi))))⟩
  ·obtain⟨u,r1,h3,g2⟩:=Oc.bind_ok g1
   have s3:=DF h3;have l3:=BR h3
   split at g2
   ·obtain⟨q,r3,h4,g4⟩:=Oc.bind_ok g2
    cases g4
    obtain⟨k1,k2,k3⟩:=callO_tell (hg0.sub s3) h4
    have l2:=GE k1.cont
    refine⟨tell_st (by decide) (fields_call k1.op k1.tk (.inl rfl) hn k1.cont k1.n) k1.xs MtL.nil MtL.nil (by decide) (by simp;omega),by simp only[FS,BV];omega,fun i hi=>c4 i (s3 i (k3 i hi))⟩
   ·obtain⟨x,r3,h4,g4⟩:=Oc.bind_ok g2
    obtain⟨u2,r4,h5,g5⟩:=Oc.bind_ok g4
    cases g5
    obtain⟨a1,a2,a3⟩:=exO_tell (hg0.sub s3) h4
    have s5:=DF h5;have l5:=BR h5
    refine⟨tell_st (by decide) (by unfold GF BK;simp[hn]) (MtX.cons a1 MtX.nil) MtL.nil MtL.nil (by decide) (by simp),by simp only[FS,CX,BV];omega,fun i hi=>c4 i (s3 i (a3 i (s5 i hi)))⟩
theorem stmtsO_tell {st:List Item→Oc St}(hst:MtsS st):∀(f:Nat) (ts:List Item) (l:List St) (r:List Item),GoodI ts→stmtsO st f ts=.ok l r→MtL l∧BV l+r.length≤ts.length∧∀i∈r,i∈ts
 |0,_,_,_,_,h=>by cases h
 | f+1,ts,l,r,hg,h=>by
  unfold stmtsO at h
  split at h
  ·cases h
   have:=GB ts
   exact⟨MtL.nil,by simp only[BV];omega,fun i hi=>List.mem_of_mem_tail hi⟩
  ·obtain⟨s,m,h1,g1⟩:=Oc.bind_ok h
   obtain⟨l2,r2,h2,g2⟩:=Oc.bind_ok g1
   cases g2
   obtain⟨a1,a2,a3⟩:=hst _ _ _ hg h1
   obtain⟨b1,b2,b3⟩:=stmtsO_tell hst f _ _ _ (hg.sub a3) h2
   exact⟨MtL.cons a1 b1,by simp only[BV];omega,fun i hi=>a3 i (b3 i hi)⟩
def MtsB (blk:List Item→Oc (List St)):Prop:=∀ts l r,GoodI ts→blk ts=.ok l r→MtL l∧BV l+r.length≤ts.length∧∀i∈r,i∈ts
theorem blockO_tell {st:List Item→Oc St}(hst:MtsS st):MtsB (FZ st):=fun ts l r hg h=>by
 unfold FZ at h
 obtain⟨u,r0,h1,g1⟩:=Oc.bind_ok h
 have s1:=DF h1;have l1:=BR h1
 obtain⟨a1,a2,a3⟩:=stmtsO_tell hst _ _ _ _ (hg.sub s1) g1
 exact⟨a1,by omega,fun i hi=>s1 i (a3 i hi)⟩
theorem stmtB_tell {g:Nat}{F:List Item→Option (List Item)}{blk:List Item→Oc (List St)}(hB:MtsB blk):MtsS (stmtB (exO g F) blk (plainO g F)):=fun ts s r hg h=>by
 unfold stmtB at h
 cases ts with
 |nil=>cases h
 | cons t r0=>
  dsimp only at h
  rw[LB]
  split at h
  ·obtain⟨n,r1,h1,g1⟩:=Oc.bind_ok h
   obtain⟨u,r2,h2,g2⟩:=Oc.bind_ok g1
   obtain⟨x,r3,h3,g3⟩:=Oc.bind_ok g2
   obtain⟨u2,r4,h4,g4⟩:=Oc.bind_ok g3
   cases g4
   obtain⟨c1,c2,c3,c4⟩:=wantO_tell hg.tail h1
   have s2:=DF h2;have l2:=BR h2;have s4:=DF h4;have l4:=BR h4
   obtain⟨a1,a2,a3⟩:=exO_tell ((hg.tail.sub c4).sub s2) h3
   have hn:=good_nm c1 c2
   exact⟨tell_st (by decide) (by unfold GF BK;simp[hn]) (MtX.cons a1 MtX.nil) MtL.nil MtL.nil (by decide) (by simp),by simp only[FS,CX,BV];omega,fun i hi=>List.mem_cons_of_mem _ (c4 i (s2 i (a3 i (s4 i hi))))⟩
  split at h
  ·obtain⟨n,r1,h1,g1⟩:=Oc.bind_ok h
   obtain⟨u,r2,h2,g2⟩:=Oc.bind_ok g1
   obtain⟨m,r3,h3,g3⟩:=Oc.bind_ok g2
   obtain⟨u2,r4,h4,g4⟩:=Oc.bind_ok g3
   cases g4
   obtain⟨c1,c2,c3,c4⟩:=wantO_tell hg.tail h1
   have s2:=DF h2;have l2:=BR h2;have s4:=DF h4;have l4:=BR h4
   obtain⟨m1,m2,m3,m4⟩:=wantO_tell ((hg.tail.sub c4).sub s2) h3
   have hn:=good_nm c1 c2
   have hm:=good_nu m1 m2
   exact⟨tell_st (by decide) (by unfold GF BK;simp[hn]) MtX.nil MtL.nil MtL.nil hm (by simp),by simp only[FS,CX,BV];omega,fun i hi=>List.mem_cons_of_mem _ (c4 i (s2 i (m4 i (s4 i hi))))⟩
  split at h
  ·obtain⟨x,r1,h1,g1⟩:=Oc.bind_ok h
   obtain⟨a,r2,h2,g2⟩:=Oc.bind_ok g1
   obtain⟨a1,a2,a3⟩:=exO_tell hg.tail h1
   obtain⟨b1,b2,b3⟩:=hB _ _ _ (hg.tail.sub a3) h2
   split at g2
   ·obtain⟨b,r3,h3,g3⟩:=Oc.bind_ok g2
    cases g3
    obtain⟨d1,d2,d3⟩:=hB _ _ _ ((hg.tail.sub a3).sub b3).drop h3
    have:=GB r2
    exact⟨tell_st (by decide) (by unfold GF BK;simp) (MtX.cons a1 MtX.nil) b1 d1 (by decide) (by simp),by simp only[FS,CX];omega,fun i hi=>List.mem_cons_of_mem _ (a3 i (b3 i (List.mem_of_mem_tail (d3 i hi))))⟩
   ·cases g2
    exact⟨tell_st (by decide) (by unfold GF BK;simp) (MtX.cons a1 MtX.nil) b1 MtL.nil (by decide) (by simp),by simp only[FS,CX,BV];omega,fun i hi=>List.mem_cons_of_mem _ (a3 i (b3 i hi))⟩
  split at h
  ·obtain⟨x,r1,h1,g1⟩:=Oc.bind_ok h
   obtain⟨a,r2,h2,g2⟩:=Oc.bind_ok g1
   cases g2
   obtain⟨a1,a2,a3⟩:=exO_tell hg.tail h1
   obtain⟨b1,b2,b3⟩:=hB _ _ _ (hg.tail.sub a3) h2
   exact⟨tell_st (by decide) (by unfold GF BK;simp) (MtX.cons a1 MtX.nil) b1 MtL.nil (by decide) (by simp),by simp only[FS,CX,BV];omega,fun i hi=>List.mem_cons_of_mem _ (a3 i (b3 i hi))⟩
  split at h
  ·obtain⟨x,r1,h1,g1⟩:=Oc.bind_ok h
   obtain⟨u,r2,h2,g2⟩:=Oc.bind_ok g1
   cases g2
   obtain⟨a1,a2,a3⟩:=exO_tell hg.tail h1
   have s2:=DF h2;have l2:=BR h2
   exact⟨tell_st (by decide) (by unfold GF BK;simp) (MtX.cons a1 MtX.nil) MtL.nil MtL.nil (by decide) (by simp),by simp only[FS,CX,BV];omega,fun i hi=>List.mem_cons_of_mem _ (a3 i (s2 i hi))⟩
  split at h
  ·obtain⟨x,r1,h1,g1⟩:=Oc.bind_ok h
   obtain⟨u,r2,h2,g2⟩:=Oc.bind_ok g1
   cases g2
   obtain⟨a1,a2,a3⟩:=exO_tell hg.tail h1
   have s2:=DF h2;have l2:=BR h2
   exact⟨tell_st (by decide) (by unfold GF BK;simp) (MtX.cons a1 MtX.nil) MtL.nil MtL.nil (by decide) (by simp),by simp only[FS,CX,BV];omega,fun i hi=>List.mem_cons_of_mem _ (a3 i (s2 i hi))⟩
  ·have:=plainO_tell hg h
   rw[LB]at this
   exact this
theorem stmtO_tell (g:Nat)(F:List Item→Option (List Item)):∀f,MtsS (stmtO g F f)
 |0=>fun _ _ _ _ h=>by cases h
 |f+1=>stmtB_tell (blockO_tell (stmtO_tell g F f))
theorem contsO_tell:∀(f:Nat) (ts:List Item) (l:List Ct) (r:List Item),GoodI ts→contsO f ts=.ok l r→((l.map toC).all mayC=true∧l.length+r.length≤ts.length)∧((∀i∈r,i∈ts)∧ChainC l ts r)
 |0,_,_,_,_,h=>by cases h
 | f+1,ts,l,r,hg,h=>by
  unfold contsO at h
  cases ts with
  |nil=>cases h;exact⟨⟨rfl,Nat.le_refl _⟩,fun i hi=>hi,rfl,fun t r0 e=>by cases e⟩
  | cons t r0=>
   dsimp only at h
   split at h
   ·rename_i hc
    cases h
    refine⟨⟨rfl,by simp⟩,fun i hi=>hi,rfl,fun t' r' e=>?_⟩
    cases e
    exact Classical.byContradiction fun h0=>hc.elim h0 fun h1=>h1 (good_kw (hg t (by simp)) h0)
   ·rename_i hc
    obtain⟨n,r1,h1,g1⟩:=Oc.bind_ok h
    obtain⟨u,r2,h2,g2⟩:=Oc.bind_ok g1
    obtain⟨l2,r3,h3,g3⟩:=Oc.bind_ok g2
    cases g3
    obtain⟨c1,c2,c3,c4⟩:=wantO_tell hg.tail h1
    obtain⟨e1,-⟩:=FP h1
    have s2:=DF h2;have l2':=BR h2
    obtain⟨⟨a1,a2⟩,a3,a4⟩:=contsO_tell f _ _ _ ((hg.tail.sub c4).sub s2) h3
    have hk:=kind_lt t.tok.text
    have h0:ofL DE t.tok.text≠0:=fun e=>hc (.inl e)
    have hn:=good_nm c1 c2
    subst e1
    refine⟨⟨?_,by simp only[LB]at *;omega⟩,fun i hi=>List.mem_cons_of_mem _ (c4 i (s2 i (a3 i hi))),t,n,r1,r2,rfl,Classical.byContradiction fun e=>hc (.inr e),h0,c2,DI h2,rfl,a4⟩
    rw[List.map_cons,List.all_cons,a1,Bool.and_true]
    unfold mayC toC
    simp[hn]
    omega
theorem threadsO_tell {blk:List Item→Oc (List St)}(hB:MtsB blk):∀(f:Nat) (ts:List Item) (l:List (List St)) (r:List Item),GoodI ts→threadsO blk f ts=.ok l r→(∀b∈l,MtL b)∧CP l+l.length≤ts.length
 |0,_,_,_,_,h=>by cases h
 | f+1,ts,l,r,hg,h=>by
  unfold threadsO at h
  cases ts with
  |nil=>cases h;exact⟨(fun b hb=>absurd hb (by simp)),by simp[CP]⟩
  | cons t r0=>
   dsimp only at h
   obtain⟨u,r1,h1,g1⟩:=Oc.bind_ok h
   obtain⟨b,r2,h2,g2⟩:=Oc.bind_ok g1
   obtain⟨l2,r3,h3,g3⟩:=Oc.bind_ok g2
   cases g3
   obtain⟨-,e1⟩:=head_of_must h1
   have s1:=DF h1
   obtain⟨a1,a2,a3⟩:=hB _ _ _ (hg.sub s1) h2
   obtain⟨b1,b2⟩:=threadsO_tell hB f _ _ _ ((hg.sub s1).sub a3) h3
   rw[e1,List.tail_cons]at a2
   refine⟨fun x hx=>?_,by simp only[CP,LB]at *;omega⟩
   rcases List.mem_cons.1 hx with rfl|hx
   ·exact a1
   ·exact b1 x hx
theorem progO_tell {blk:List Item→Oc (List St)}(hB:MtsB blk){its r:List Item}{pr:Pr}(hg:GoodI its)(hl:its.length≤100000)(h:progO blk its=.ok pr r):(DY (toP pr)=true∧Small (toP pr))∧(CP pr.threads≤its.length∧(pr.threads.length≤its.length∧its≠[])):=by
 unfold progO at h
 obtain⟨u,r0,h1,g1⟩:=Oc.bind_ok h
 obtain⟨n,r1,h2,g2⟩:=Oc.bind_ok g1
 obtain⟨u2,r2,h3,g3⟩:=Oc.bind_ok g2
 obtain⟨cs,r3,h4,g4⟩:=Oc.bind_ok g3
 obtain⟨ths,r4,h5,g5⟩:=Oc.bind_ok g4
 cases g5
 have s1:=DF h1;have l1:=BR h1;have s3:=DF h3;have l3:=BR h3
 obtain⟨c1,c2,c3,c4⟩:=wantO_tell (hg.sub s1) h2
 obtain⟨⟨a1,a2⟩,a3,-⟩:=contsO_tell _ _ _ _ (((hg.sub s1).sub c4).sub s3) h4
 obtain⟨b1,b2⟩:=threadsO_tell hB _ _ _ _ ((((hg.sub s1).sub c4).sub s3).sub a3) h5
 have hn:=good_nu c1 c2
 have hsz:DQ (ths.map toSL)=CP ths:=toP_size ths
 refine⟨⟨?_,⟨?_,?_,?_,?_,?_,?_⟩⟩,by dsimp only;omega,by dsimp only;omega,fun e=>?_⟩
 ·unfold DY toP
  dsimp only
  rw[a1]
  simp only[Bool.true_and,Bool.and_eq_true,decide_eq_true_eq,List.all_eq_true,List.mem_map]
  refine⟨by omega,fun x hx=>?_⟩
  obtain⟨b,hb,e⟩:=hx
  rw[←e];exact(b1 b hb).1
 ·unfold toP;dsimp only;omega
 ·unfold toP;dsimp only;rw[List.length_map];omega
 ·unfold toP;dsimp only;rw[List.length_map];omega
 ·unfold toP;dsimp only;omega
 ·unfold toP;dsimp only
  intro x hx
  obtain⟨b,hb,e⟩:=List.mem_map.1 hx
  rw[←e];exact(b1 b hb).2.2
 ·unfold toP;dsimp only
  intro x hx
  obtain⟨b,hb,e⟩:=List.mem_map.1 hx
  rw[←e];exact(b1 b hb).2.1
 ·rw[e]at h1
  cases h1
open Go Go.RowKit Own
def TellsS (w0:World)(x:Gs):Prop:=∀(S:Nat→Prop) (vs:List Value),SAt w0 S vs x→∀(b:Nat) (l:List UInt8) (w:World),TS w0 b l w→l.length+(putL (tokS x)).length≤100000000→
 Calls Tryz.prog 84 #[.pointer (some ⟨b,0,none⟩),.agg vs.toArray] w fun e w'=>e=.returned (.tuple #[])∧TS w0 b (l++putL (tokS x)) w'∧TelK b w w'
def TellsB (w0:World)(ss:List Gs):Prop:=∀(S:Nat→Prop) (p:Option Addr) (c:Nat),DV w0 S p 0 ss→∀(b:Nat) (l:List UInt8) (w:World),TS w0 b l w→l.length+(putL (FT ss)).length≤100000000→
 Calls Tryz.prog 42 #[.pointer (some ⟨b,0,none⟩),.slice p ss.length c] w fun e w'=>e=.returned (.tuple #[])∧TS w0 b (l++putL (FT ss)) w'∧TelK b w w'
theorem TelK.boxedS {w0:World}{b k:Nat}{l:List UInt8}{w w':World}{cs:Array Value}(h:TelK b w w')(ht:TS w0 b l w)(hk:k≠b)(hb:w.heap[k]?=some (.cells cs TSm (0,0))):w'.heap[k]?=some (.cells cs TSm (0,0)):=h.blk ht.tel (by decide) hk hb
theorem TS.put3 {w0:World}{b:Nat}{l:List UInt8}{w:World}(h:TS w0 b l w)(s t u:List UInt8)(hlen:l.length+(putL [s,t,u]).length≤100000000):
  Calls Tryz.prog 39 #[.pointer (some ⟨b,0,none⟩),.slice (some ⟨w.heap.size,0,none⟩) 3 3] (w.alloc (.cells #[.string ⟨s.toArray⟩,.string ⟨t.toArray⟩,.string ⟨u.toArray⟩] TStr)) fun e w'=>e=.returned (.tuple #[])∧TS w0 b (l++putL [s,t,u]) w'∧TelK b w w':=h.puts [s,t,u] hlen
theorem ops_at {op:Nat}(h:op<8):opsV[op]?=some (.string ⟨(opL.getD op []).toArray⟩):=by
 match op,h with
 |0,_|1,_|2,_|3,_|4,_|5,_|6,_|7,_=>rfl
theorem run_index_ops {op:Nat}(h:op<8)(w:World):(Instr.index 173 (.agg opsV) (.int .i64 op)).run Tryz.prog w=.ok (.string ⟨(opL.getD op []).toArray⟩) w:=
 run_index_arr Tryz.underlying173 Tryz.sizeOf9 Tryz.isAgg9 h (ops_at h) w
theorem run_index_kw5 (w:World):(Instr.index 149 (.agg #[.string ⟨#[]⟩,.string ⟨#[]⟩,.string ⟨#[]⟩,.string ⟨#[]⟩,.string ⟨#[]⟩,.string ⟨#[105,102]⟩,.string ⟨#[119,104,105,108,101]⟩]) (.int .i64 5)).run Tryz.prog w=.ok (.string ⟨#[105,102]⟩) w:=
 run_index_arr (i:=5) Tryz.underlying149 Tryz.sizeOf9 Tryz.isAgg9 (by decide) rfl w
theorem run_index_kw6 (w:World):(Instr.index 149 (.agg #[.string ⟨#[]⟩,.string ⟨#[]⟩,.string ⟨#[]⟩,.string ⟨#[]⟩,.string ⟨#[]⟩,.string ⟨#[105,102]⟩,.string ⟨#[119,104,105,108,101]⟩]) (.int .i64 6)).run Tryz.prog w=.ok (.string ⟨#[119,104,105,108,101]⟩) w:=
 run_index_arr (i:=6) Tryz.underlying149 Tryz.sizeOf9 Tryz.isAgg9 (by decide) rfl w
def sStr5 (a b c d e:List UInt8):Loud:={ val:=fun _ g=>.slice (some ⟨g.b,0,none⟩) 5 5,fp:=fun _ g k=>k=g.b,post:=fun _ g w=>w.heap[g.b]?=some (.cells #[.string ⟨a.toArray⟩,.string ⟨b.toArray⟩,.string ⟨c.toArray⟩,.string ⟨d.toArray⟩,.string ⟨e.toArray⟩] TStr (0,0)) }
theorem loud_str5 {P:Program}{w0:World}{M:Nat→Prop}{o:Oper}{a:Act}{av ea:List Nat}{F:Nat→World→Prop}{Fp:Nat→Nat→Prop}(p q r s t:List UInt8)(hrun:∀w,(execOp a.eval o).run P w=.ok (.value (.slice (some ⟨w.heap.size,0,none⟩) 5 5)) (w.alloc (.cells #[.string ⟨p.toArray⟩,.string ⟨q.toArray⟩,.string ⟨r.toArray⟩,.string ⟨s.toArray⟩,.string ⟨t.toArray⟩] TStr))):FO P w0 M o a (sStr5 p q r s t) av ea F Fp:=
 loud_new (fun b=>.slice (some ⟨b,0,none⟩) 5 5) _ rfl (fun _ _=>rfl) (fun _ _ _=>Iff.rfl) (fun _ _ _=>Iff.rfl) hrun
theorem tells_pop (w0:World)(op:Nat)(hop:op<8)(val into cont:List UInt8)(a d:Int)(h24:op=2∨op=4)(p1 p2 p3:Option Addr)(c1 c2 c3 b:Nat)(l:List UInt8)(w:World)(ht:TS w0 b l w)(hlen:l.length+(putL (callT op val into cont [])).length≤100000000):
  Calls Tryz.prog 106 #[.pointer (some ⟨b,0,none⟩),.agg #[.int .i64 9,.string ⟨#[]⟩,.int .i64 0,.int .i64 op,.string ⟨val.toArray⟩,.string ⟨into.toArray⟩,.string ⟨cont.toArray⟩,.slice p1 0 c1,.slice p2 0 c2,.slice p3 0 c3,.int .i64 a,.int .i64 d]] w fun e w'=>e=.returned (.tuple #[])∧TS w0 b (l++putL (callT op val into cont [])) w'∧TelK b w w':=by
 obtain⟨LT,hLT⟩:∃L,putL (callT op val into cont [])=L:=⟨_,rfl⟩
 rw[hLT]at hlen ⊢
 have HLT:=hid hLT;have HLEN0:=hid hlen
 clear hLT hlen
 obtain⟨W0,B3,hW,hB,hb3,hk3,hs3⟩:=BC w (.cells #[.int .i64 9,.string ⟨#[]⟩,.int .i64 0,.int .i64 op,.string ⟨val.toArray⟩,.string ⟨into.toArray⟩,.string ⟨cont.toArray⟩,.slice p1 0 c1,.slice p2 0 c2,.slice p3 0 c3,.int .i64 a,.int .i64 d] TSm)
 have HTW0:=hid (ht.on hk3);have HKW0:=hid (ht.onK hk3);have HBW0:=hid hb3
 have HNE:=hid (show B3≠b by have:=ht.tel.le;omega)
 clear ht hk3 hs3
 have HOB:=hid (show ((op:Int)==2 || (op:Int)==4)=true by rcases h24 with rfl|rfl<;>rfl)
 have h24i:(op:Int)=2∨(op:Int)=4:=by omega
 have HE:=hid (show LT=putL [val,[44]]++(putL [into,[61],opL.getD op [],[40],cont]++putL [[41]]) by rw[←HLT.out];unfold callT;rw[if_pos h24i,if_pos h24i,BQ,BQ];rfl)
 have HLEN:=hid (by have h:=HLEN0.out;rw[HE.out]at h;exact h)
 clear h24 h24i
 obtain⟨c0,c1,c2,c3,c4,c5,c6,c7,c8,c9,c10,c11⟩:=BH hb3
 clear hb3
 go_enter Tryz.func106,Tryz.ntmps106
 go_upto_region 1 with fail
 rw[←hW,←hB]
 clear hW hB
 have HTK:=hid (fun w'=>by have h:=DS op w';rw[HOB.out]at h;exact h)
 go_wp2_with fail
 go_at_call 113
 refine(HTK.out _).mono ?_
 rintro e w5 ⟨rfl,hw5⟩
 obtain rfl:=hw5.symm
 clear hw5 HTK
 have HPw2:=hid (HTW0.out.put2 (val) ([44]) (by have:=HLEN.out;(try simp only[LA]at this ⊢);omega))
 go_wp2_with fail
 go_at_call 39
 refine HPw2.out.mono ?_
 rintro e w2 ⟨rfl,ht,hk⟩
 have hb:=hk.boxedS HTW0.out HNE.out HBW0.out
 have HBw2:=hid hb;have HTw2:=hid ht;have HKw2:=hid (HKW0.out.trans hk)
 clear ht hk
 clear c0 c1 c2 c3 c4 c5 c6 c7 c8 c9 c10 c11
 obtain⟨c0,c1,c2,c3,c4,c5,c6,c7,c8,c9,c10,c11⟩:=BH hb
 clear hb
 go_upto_region 3 with fail
 obtain⟨s,hs⟩:∃s,opL.getD op []=s:=⟨_,rfl⟩
 have HIX:=hid (fun W=>run_index_ops hop W)
 rw[hs]at HIX HLEN HE
 clear hs hop
 have d3:=fun W (h:BA (fun k=>k=b∨DZ w2 b=some k) w2.drew W)=>((BA.drew _ w2).trans h).cell c3 (fun e=>e.elim (fun e=>HNE.out e) fun e=>by obtain⟨-,-,cs,fz,hc⟩:=HTw2.out.tel.buf e;have h2:=HBw2.out;rw[hc]at h2;cases h2)
 have d5:=fun W (h:BA (fun k=>k=b∨DZ w2 b=some k) w2.drew W)=>((BA.drew _ w2).trans h).cell c5 (fun e=>e.elim (fun e=>HNE.out e) fun e=>by obtain⟨-,-,cs,fz,hc⟩:=HTw2.out.tel.buf e;have h2:=HBw2.out;rw[hc]at h2;cases h2)
 have d6:=fun W (h:BA (fun k=>k=b∨DZ w2 b=some k) w2.drew W)=>((BA.drew _ w2).trans h).cell c6 (fun e=>e.elim (fun e=>HNE.out e) fun e=>by obtain⟨-,-,cs,fz,hc⟩:=HTw2.out.tel.buf e;have h2:=HBw2.out;rw[hc]at h2;cases h2)
 refine wp_ownA (by kernel_rfl) (fun k=>k=b∨DZ w2 b=some k) (fun k hk=>hk.elim (fun e=>by rw[e];exact HTw2.out.tel.le.2) fun e=>by obtain⟨-,-,cs,fz,hc⟩:=HTw2.out.tel.buf e;exact(AG.1 hc).1) (fun i=>[[],[],[1],[],[],[4],[3,4,5],[],[7],[1,2,3,4,5,6,7,8],[0,1,2,3,4,5,6,7,8,9]].getD i []) (fun i=>if i=10 then [9,11] else []) (fun i=>if i=10 then [11] else []) [10] (by kernel_rfl) (fun i=>if i=3 then some (BW (.agg opsV)) else if i=9 then some (sStr5 into [61] s [40] cont) else if i=10 then some (sTel w0.heap.size b ((l++putL [val,[44]])++putL [into,[61],s,[40],cont])) else none) ?_
 apply BD rfl rfl
 ·intro w' hk;go_simp;with_reducible rfl
 simp only[Act.put,LS]
 apply BD rfl rfl
 ·intro w' hk;go_simp;with_reducible rfl
 simp only[Act.put,LS]
 apply BD rfl rfl
 ·intro w' hk;have e1:=d5 w' hk;go_simp;with_reducible rfl
 simp only[Act.put,LS]
 refine BG rfl rfl (CL 126 #[] (fun w=>by kernel_rfl) ⟨default,trivial⟩ (fun g _=>CN _) fun w' hk _ _=>(words_any w').mono ?_) fun gs _=>?_
 ·rintro e w'' ⟨rfl,hq⟩
  exact⟨default,trivial,rfl,hq.mono fun _ e=>e.elim,fun b h=>h.elim,trivial⟩
 simp only[BW,Act.put,LS]
 apply BD rfl rfl
 ·intro w' hk;go_simp;with_reducible rfl
 simp only[Act.put,LS]
 apply BD rfl rfl
 ·intro w' hk;have e1:=d3 w' hk;go_simp;with_reducible rfl
 simp only[Act.put,LS]
 apply BD rfl rfl
 ·intro w' hk;have e2:=HIX.out w';go_simp;with_reducible rfl
 simp only[Act.put,LS]
 apply BD rfl rfl
 ·intro w' hk;go_simp;with_reducible rfl
 simp only[Act.put,LS]
 apply BD rfl rfl
 ·intro w' hk;have e1:=d6 w' hk;go_simp;with_reducible rfl
 simp only[Act.put,LS]
 refine BG rfl rfl (loud_str5 into [61] s [40] cont (fun w=>by go_simp)) fun g5 _=>?_
 simp only[sStr5,Act.put,LS]
 refine BG rfl rfl (loud_tel HTw2.out.tel [into,[61],s,[40],cont] (by have:=HLEN.out;(try simp only[LA]at this ⊢);omega) g5.b 5 (fun W=>by kernel_rfl) 9 11 (by decide) (by decide) (by decide) (by decide) (fun W h=>h) rfl (fun W h=>h rfl) (fun k=>⟨fun h=>h.2,fun h=>⟨rfl,h⟩⟩)) fun g6 _=>?_
 simp only[sTel,Act.put,LS]
 refine CE ?_
 intro WR hkr hF _
 obtain⟨htr,hkr2⟩:=HTw2.out.region (args:=#[]) hkr (hF 10 (by decide)).1 (hF 10 (by decide)).2
 have hb:=hkr2.boxedS HTw2.out HNE.out HBw2.out
 have HBWR:=hid hb;have HTWR:=hid htr;have HKWR:=hid (HKw2.out.trans hkr2)
 clear hkr hF htr hkr2 d3 d5 d6
 clear c0 c1 c2 c3 c4 c5 c6 c7 c8 c9 c10 c11
 obtain⟨c0,c1,c2,c3,c4,c5,c6,c7,c8,c9,c10,c11⟩:=BH hb
 clear hb
 have HTK:=hid (fun w'=>by have h:=DS op w';rw[HOB.out]at h;exact h)
 go_wp2_with fail
 go_at_call 113
 refine(HTK.out _).mono ?_
 rintro e w5 ⟨rfl,hw5⟩
 obtain rfl:=hw5.symm
 clear hw5 HTK
 have HPw4:=hid (HTWR.out.put1 ([41]) (by have:=HLEN.out;(try simp only[LA]at this ⊢);omega))
 go_wp2_with fail
 go_at_call 39
 refine HPw4.out.mono ?_
 rintro e w4 ⟨rfl,ht,hk⟩
 have hb:=hk.boxedS HTWR.out HNE.out HBWR.out
 have HBw4:=hid hb;have HTw4:=hid ht;have HKw4:=hid (HKWR.out.trans hk)
 clear ht hk
 clear c0 c1 c2 c3 c4 c5 c6 c7 c8 c9 c10 c11
 obtain⟨c0,c1,c2,c3,c4,c5,c6,c7,c8,c9,c10,c11⟩:=BH hb
 clear hb
 go_wp2_with fail
 go_end0
 exact⟨rfl,by have h:=HTw4.out;rw[HE.out];simpa only[List.append_assoc]using h,HKw4.out⟩
theorem tells_call (w0:World)(op:Nat)(hop:op<8)(into cont:List UInt8)(x:Gx)(a d:Int)(h24:¬(op=2∨op=4))(g go:Nat)(S:Nat→Prop)(vs:List Value)(hX:Tells w0 x)(hx:∀j v,vs[j]?=some v→w0.cell? ⟨g,go+j,none⟩=some v)(hy:GAt w0 S vs x)(p2 p3:Option Addr)(c1 c2 c3 b:Nat)(l:List UInt8)(w:World)(ht:TS w0 b l w)(hlen:l.length+(putL (callT op [] into cont [x])).length≤100000000):
  Calls Tryz.prog 106 #[.pointer (some ⟨b,0,none⟩),.agg #[.int .i64 9,.string ⟨#[]⟩,.int .i64 0,.int .i64 op,.string ⟨#[]⟩,.string ⟨into.toArray⟩,.string ⟨cont.toArray⟩,.slice (some ⟨g,go,none⟩) 1 c1,.slice p2 0 c2,.slice p3 0 c3,.int .i64 a,.int .i64 d]] w fun e w'=>e=.returned (.tuple #[])∧TS w0 b (l++putL (callT op [] into cont [x])) w'∧TelK b w w':=by
 obtain⟨LT,hLT⟩:∃L,putL (callT op [] into cont [x])=L:=⟨_,rfl⟩
 rw[hLT]at hlen ⊢
 have HLT:=hid hLT;have HLEN0:=hid hlen
 clear hLT hlen
 obtain⟨W0,B3,hW,hB,hb3,hk3,hs3⟩:=BC w (.cells #[.int .i64 9,.string ⟨#[]⟩,.int .i64 0,.int .i64 op,.string ⟨#[]⟩,.string ⟨into.toArray⟩,.string ⟨cont.toArray⟩,.slice (some ⟨g,go,none⟩) 1 c1,.slice p2 0 c2,.slice p3 0 c3,.int .i64 a,.int .i64 d] TSm)
 have HTW0:=hid (ht.on hk3);have HKW0:=hid (ht.onK hk3);have HBW0:=hid hb3
 have HNE:=hid (show B3≠b by have:=ht.tel.le;omega)
 clear ht hk3 hs3
 have HOB:=hid (show ((op:Int)==2 || (op:Int)==4)=false by rw[Bool.or_eq_false_iff,BF,BF];omega)
 have h24i:¬((op:Int)=2∨(op:Int)=4):=by omega
 have HX:=hid hx;have HYA:=hid hy;have HY:=hid hX
 obtain⟨yk,yo,yn,yS,yp,ym,yc,yl,ycl,rfl⟩:=FN hy
 have HE:=hid (show LT=putL [into,[61],opL.getD op [],[40],cont]++(putL [[44]]++(putL (tokG x)++putL [[41]])) by rw[←HLT.out];unfold callT;rw[if_neg h24i,if_neg h24i,CI,List.nil_append,BQ,List.cons_append,show [44]::(tokG x++[[41]])=[[44]]++(tokG x++[[41]])from rfl,BQ,BQ];rfl)
 have HLEN:=hid (by have h:=HLEN0.out;rw[HE.out]at h;exact h)
 clear h24 h24i hX hx hy
 obtain⟨c0,c1,c2,c3,c4,c5,c6,c7,c8,c9,c10,c11⟩:=BH hb3
 clear hb3
 go_enter Tryz.func106,Tryz.ntmps106
 go_upto_region 1 with fail
 rw[←hW,←hB]
 clear hW hB
 have HTK:=hid (fun w'=>by have h:=DS op w';rw[HOB.out]at h;exact h)
 go_wp2_with fail
 go_at_call 113
 refine(HTK.out _).mono ?_
 rintro e w5 ⟨rfl,hw5⟩
 obtain rfl:=hw5.symm
 clear hw5 HTK
 go_upto_region 3 with fail
 obtain⟨s,hs⟩:∃s,opL.getD op []=s:=⟨_,rfl⟩
 have HIX:=hid (fun W=>run_index_ops hop W)
 rw[hs]at HIX HLEN HE
 clear hs hop
 have d3:=fun W (h:BA (fun k=>k=b∨DZ W0 b=some k) W0.drew W)=>((BA.drew _ W0).trans h).cell c3 (fun e=>e.elim (fun e=>HNE.out e) fun e=>by obtain⟨-,-,cs,fz,hc⟩:=HTW0.out.tel.buf e;have h2:=HBW0.out;rw[hc]at h2;cases h2)
 have d5:=fun W (h:BA (fun k=>k=b∨DZ W0 b=some k) W0.drew W)=>((BA.drew _ W0).trans h).cell c5 (fun e=>e.elim (fun e=>HNE.out e) fun e=>by obtain⟨-,-,cs,fz,hc⟩:=HTW0.out.tel.buf e;have h2:=HBW0.out;rw[hc]at h2;cases h2)
 have d6:=fun W (h:BA (fun k=>k=b∨DZ W0 b=some k) W0.drew W)=>((BA.drew _ W0).trans h).cell c6 (fun e=>e.elim (fun e=>HNE.out e) fun e=>by obtain⟨-,-,cs,fz,hc⟩:=HTW0.out.tel.buf e;have h2:=HBW0.out;rw[hc]at h2;cases h2)
 refine wp_ownA (by kernel_rfl) (fun k=>k=b∨DZ W0 b=some k) (fun k hk=>hk.elim (fun e=>by rw[e];exact HTW0.out.tel.le.2) fun e=>by obtain⟨-,-,cs,fz,hc⟩:=HTW0.out.tel.buf e;exact(AG.1 hc).1) (fun i=>[[],[],[1],[],[],[4],[3,4,5],[],[7],[1,2,3,4,5,6,7,8],[0,1,2,3,4,5,6,7,8,9]].getD i []) (fun i=>if i=10 then [9,11] else []) (fun i=>if i=10 then [11] else []) [10] (by kernel_rfl) (fun i=>if i=3 then some (BW (.agg opsV)) else if i=9 then some (sStr5 into [61] s [40] cont) else if i=10 then some (sTel w0.heap.size b (l++putL [into,[61],s,[40],cont])) else none) ?_
 apply BD rfl rfl
 ·intro w' hk;go_simp;with_reducible rfl
 simp only[Act.put,LS]
 apply BD rfl rfl
 ·intro w' hk;go_simp;with_reducible rfl
 simp only[Act.put,LS]
 apply BD rfl rfl
 ·intro w' hk;have e1:=d5 w' hk;go_simp;with_reducible rfl
 simp only[Act.put,LS]
 refine BG rfl rfl (CL 126 #[] (fun w=>by kernel_rfl) ⟨default,trivial⟩ (fun g _=>CN _) fun w' hk _ _=>(words_any w').mono ?_) fun gs _=>?_
 ·rintro e w'' ⟨rfl,hq⟩
  exact⟨default,trivial,rfl,hq.mono fun _ e=>e.elim,fun b h=>h.elim,trivial⟩
 simp only[BW,Act.put,LS]
 apply BD rfl rfl
 ·intro w' hk;go_simp;with_reducible rfl
 simp only[Act.put,LS]
 apply BD rfl rfl
 ·intro w' hk;have e1:=d3 w' hk;go_simp;with_reducible rfl
 simp only[Act.put,LS]
 apply BD rfl rfl
 ·intro w' hk;have e2:=HIX.out w';go_simp;with_reducible rfl
 simp only[Act.put,LS]
 apply BD rfl rfl
 ·intro w' hk;go_simp;with_reducible rfl
 simp only[Act.put,LS]
 apply BD rfl rfl
 ·intro w' hk;have e1:=d6 w' hk;go_simp;with_reducible rfl
 simp only[Act.put,LS]
 refine BG rfl rfl (loud_str5 into [61] s [40] cont (fun w=>by go_simp)) fun g5 _=>?_
 simp only[sStr5,Act.put,LS]
 refine BG rfl rfl (loud_tel HTW0.out.tel [into,[61],s,[40],cont] (by have:=HLEN.out;(try simp only[LA]at this ⊢);omega) g5.b 5 (fun W=>by kernel_rfl) 9 11 (by decide) (by decide) (by decide) (by decide) (fun W h=>h) rfl (fun W h=>h rfl) (fun k=>⟨fun h=>h.2,fun h=>⟨rfl,h⟩⟩)) fun g6 _=>?_
 simp only[sTel,Act.put,LS]
 refine CE ?_
 intro WR hkr hF _
 obtain⟨htr,hkr2⟩:=HTW0.out.region (args:=#[]) hkr (hF 10 (by decide)).1 (hF 10 (by decide)).2
 have hb:=hkr2.boxedS HTW0.out HNE.out HBW0.out
 have HBWR:=hid hb;have HTWR:=hid htr;have HKWR:=hid (HKW0.out.trans hkr2)
 clear hkr hF htr hkr2 d3 d5 d6
 clear c0 c1 c2 c3 c4 c5 c6 c7 c8 c9 c10 c11
 obtain⟨c0,c1,c2,c3,c4,c5,c6,c7,c8,c9,c10,c11⟩:=BH hb
 clear hb
 have HTK:=hid (fun w'=>by have h:=DS op w';rw[HOB.out]at h;exact h)
 go_wp2_with fail
 go_at_call 113
 refine(HTK.out _).mono ?_
 rintro e w5 ⟨rfl,hw5⟩
 obtain rfl:=hw5.symm
 clear hw5 HTK
 have HPw7:=hid (HTWR.out.put1 ([44]) (by have:=HLEN.out;(try simp only[LA]at this ⊢);omega))
 go_wp2_with fail
 go_at_call 39
 refine HPw7.out.mono ?_
 rintro e w7 ⟨rfl,ht,hk⟩
 have hb:=hk.boxedS HTWR.out HNE.out HBWR.out
 have HBw7:=hid hb;have HTw7:=hid ht;have HKw7:=hid (HKWR.out.trans hk)
 clear ht hk
 clear c0 c1 c2 c3 c4 c5 c6 c7 c8 c9 c10 c11
 obtain⟨c0,c1,c2,c3,c4,c5,c6,c7,c8,c9,c10,c11⟩:=BH hb
 clear hb
 have x0:=HTw7.out.keep.stay (show w0.cell? ⟨g,go,none⟩=some _ from HX.out 0 _ rfl)
 have x1:=HTw7.out.keep.stay (show w0.cell? ⟨g,go+1,none⟩=some _ from HX.out 1 _ rfl)
 have x2:=HTw7.out.keep.stay (show w0.cell? ⟨g,go+2,none⟩=some _ from HX.out 2 _ rfl)
 have x3:=HTw7.out.keep.stay (show w0.cell? ⟨g,go+3,none⟩=some _ from HX.out 3 _ rfl)
 have x4:=HTw7.out.keep.stay (show w0.cell? ⟨g,go+4,none⟩=some _ from HX.out 4 _ rfl)
 have x5:=HTw7.out.keep.stay (show w0.cell? ⟨g,go+5,none⟩=some _ from HX.out 5 _ rfl)
 have x6:=HTw7.out.keep.stay (show w0.cell? ⟨g,go+6,none⟩=some _ from HX.out 6 _ rfl)
 have HPw8:=hid (HY.out _ _ HYA.out _ _ _ HTw7.out (by have:=HLEN.out;(try simp only[LA]at this ⊢);omega))
 go_wp2_with fail
 go_at_call 27
 refine HPw8.out.mono ?_
 rintro e w8 ⟨rfl,ht,hk⟩
 have hb:=hk.boxedS HTw7.out HNE.out HBw7.out
 have HBw8:=hid hb;have HTw8:=hid ht;have HKw8:=hid (HKw7.out.trans hk)
 clear ht hk
 clear c0 c1 c2 c3 c4 c5 c6 c7 c8 c9 c10 c11
 obtain⟨c0,c1,c2,c3,c4,c5,c6,c7,c8,c9,c10,c11⟩:=BH hb
 clear hb
 clear x0 x1 x2 x3 x4 x5 x6
 have HPw9:=hid (HTw8.out.put1 ([41]) (by have:=HLEN.out;(try simp only[LA]at this ⊢);omega))
 go_wp2_with fail
 go_at_call 39
 refine HPw9.out.mono ?_
 rintro e w9 ⟨rfl,ht,hk⟩
 have hb:=hk.boxedS HTw8.out HNE.out HBw8.out
 have HBw9:=hid hb;have HTw9:=hid ht;have HKw9:=hid (HKw8.out.trans hk)
 clear ht hk
 clear c0 c1 c2 c3 c4 c5 c6 c7 c8 c9 c10 c11
 obtain⟨c0,c1,c2,c3,c4,c5,c6,c7,c8,c9,c10,c11⟩:=BH hb
 clear hb
 go_wp2_with fail
 go_end0
 exact⟨rfl,by have h:=HTw9.out;rw[HE.out];simpa only[List.append_assoc]using h,HKw9.out⟩
theorem tokSL_take {l:List Gs}{i:Nat}(h:i<l.length):FH (l.take (i+1))=FH (l.take i)++tokS l[i]:=by
 induction l generalizing i with
 |nil=>cases h
 | cons x l ih=>
  cases i with
  |zero=>simp[FH]
  | succ i=>
   have h':i<l.length:=by simpa using h
   simp only[List.take_succ_cons,FH,List.getElem_cons_succ]
   rw[ih h',List.append_assoc]
theorem tokSL_le (l:List Gs)(i:Nat):(putL (FH (l.take i))).length≤(putL (FH l)).length:=by
 have h:FH l=FH (l.take i)++FH (l.drop i):=by
  induction l generalizing i with
  |nil=>simp[FH]
  | cons x l ih=>
   cases i with
   |zero=>simp[FH]
   | succ i=>
    simp only[List.take_succ_cons,FH,List.drop_succ_cons]
    rw[List.append_assoc,←ih i]
 rw[h,BQ,LA]
 omega
theorem tells_block (w0:World)(ss:List Gs)(hl:ss.length≤1099511627776)(hS:∀i (h:i<ss.length),TellsS w0 ss[i]):TellsB w0 ss:=by
 intro S p c hp b l w ht hlen
 have HS:=hid hS;have HP:=hid hp
 have HLEN:=hid (show l.length+((putL [[123]]).length+((putL (FH ss)).length+(putL [[125]]).length))≤100000000 by
  unfold FT at hlen
  rw[BQ,BQ,LA,LA]at hlen
  exact hlen)
 rw[show l++putL (FT ss)=(l++putL [[123]]++putL (FH ss))++putL [[125]] by unfold FT;rw[BQ,BQ];simp only[List.append_assoc]]
 have HTW0:=hid ht
 clear hS hp hlen ht
 have HPw1:=hid (HTW0.out.put1 [123] (by have:=HLEN.out;omega))
 go_enter Tryz.func42,Tryz.ntmps42
 go_wp2_with fail
 go_at_call 39
 refine HPw1.out.mono ?_
 rintro e w1 ⟨rfl,ht,hk⟩
 have HT1:=hid ht;have HK1:=hid hk
 clear ht hk
 go_wp2_with fail
 go_loopw [11] (fun v11 wr=>∃i:Nat,v11=.int .i64 i∧i≤ss.length∧TS w0 b (l++putL [[123]]++putL (FH (ss.take i))) wr∧TelK b w wr) (fun v _=>ss.length - (intOf v).toNat)
 case atStart=>exact⟨0,rfl,Nat.zero_le _,by have h:=HT1.out;simpa [FH,putL]using h,HK1.out⟩
 case round=>
  obtain⟨i,rfl,hi,ht,hk⟩:=hrel
  have HT2:=hid ht;have HK2:=hid hk
  by_cases hlt:i<ss.length
  ·have hlti:(i:Int)<ss.length:=by omega
   have hi0:(0:Int)≤i:=by omega
   have hWi:IntKind.i64.wrap ((i:Int)+1)=(i:Int)+1:=IntWalk.i64_in _ (by omega)
   obtain⟨g,o,vs,hp,hc,hex,-⟩:=skids_get HP.out i hlt
   subst hp
   rw[Nat.zero_add]at hc
   have HSI:=hid (HS.out i hlt S vs hex b)
   obtain⟨sk,ss',sz,so,sv,si,st,sp1,sm1,sc1,sp2,sm2,sc2,sp3,sm3,sc3,sl,scl,rfl⟩:=s_form hex
   have x0:=ht.keep.stay (show w0.cell? ⟨g,o+i * 12,none⟩=some _ from hc 0 _ rfl)
   have x1:=ht.keep.stay (show w0.cell? ⟨g,o+i * 12+1,none⟩=some _ from hc 1 _ rfl);have x2:=ht.keep.stay (show w0.cell? ⟨g,o+i * 12+2,none⟩=some _ from hc 2 _ rfl);have x3:=ht.keep.stay (show w0.cell? ⟨g,o+i * 12+3,none⟩=some _ from hc 3 _ rfl);have x4:=ht.keep.stay (show w0.cell? ⟨g,o+i * 12+4,none⟩=some _ from hc 4 _ rfl);have x5:=ht.keep.stay (show w0.cell? ⟨g,o+i * 12+5,none⟩=some _ from hc 5 _ rfl);have x6:=ht.keep.stay (show w0.cell? ⟨g,o+i * 12+6,none⟩=some _ from hc 6 _ rfl);have x7:=ht.keep.stay (show w0.cell? ⟨g,o+i * 12+7,none⟩=some _ from hc 7 _ rfl);have x8:=ht.keep.stay (show w0.cell? ⟨g,o+i * 12+8,none⟩=some _ from hc 8 _ rfl);have x9:=ht.keep.stay (show w0.cell? ⟨g,o+i * 12+9,none⟩=some _ from hc 9 _ rfl);have x10:=ht.keep.stay (show w0.cell? ⟨g,o+i * 12+10,none⟩=some _ from hc 10 _ rfl);have x11:=ht.keep.stay (show w0.cell? ⟨g,o+i * 12+11,none⟩=some _ from hc 11 _ rfl)
   obtain⟨W,C,hW,hC,hcb,hkc,hsc⟩:=BC wr (.cells #[.int .i64 sk,.string ss',.int .i64 sz,.int .i64 so,.string sv,.string si,.string st,.slice sp1 sm1 sc1,.slice sp2 sm2 sc2,.slice sp3 sm3 sc3,.int .i64 sl,.int .i64 scl] TSm)
   have HCA:=hid (HSI.out _ W (ht.on hkc) (by
    have h1:=HLEN.out
    have h2:=tokSL_le ss (i+1)
    rw[tokSL_take hlt,BQ]at h2
    simp only[LA]at h2 ⊢
    omega))
   have HKC:=hid (ht.onK hkc)
   obtain⟨n0,n1,n2,n3,n4,n5,n6,n7,n8,n9,n10,n11⟩:=BH hcb
   clear ht hk hc hex hcb hkc hsc
   go_upto_region 4 with fail
   rw[←hW,←hC]
   clear hW hC x0 x1 x2 x3 x4 x5 x6 x7 x8 x9 x10 x11
   go_wp2_with (go_at_call 84;refine HCA.out.mono ?_;rintro e w5 ⟨rfl,ht5,hk5⟩;have HT5:=hid ht5;have HK5:=hid hk5;clear ht5 hk5)
   exact⟨⟨i+1,by simp,by omega,by have h:=HT5.out;rw[tokSL_take hlt,BQ];simpa only[List.append_assoc]using h,(HK2.out.trans HKC.out).trans HK5.out⟩,by simp only[intOf];omega⟩
  ·have hnl:¬(i:Int)<ss.length:=by omega
   obtain rfl:i=ss.length:=by omega
   rw[List.take_length]at ht
   have HT3:=hid ht
   have HPw2:=hid (HT3.out.put1 [125] (by have:=HLEN.out;simp only[LA];omega))
   clear ht hk hlt hi
   go_wp2_with fail
   go_at_call 39
   refine HPw2.out.mono ?_
   rintro e w6 ⟨rfl,ht,hk⟩
   have HT6:=hid ht;have HK6:=hid hk
   clear ht hk
   go_wp2_with fail
   go_end0
   exact⟨rfl,HT6.out,HK2.out.trans HK6.out⟩
end Go.Proofs.YtomlffobbkcmdaaGreatDoor
