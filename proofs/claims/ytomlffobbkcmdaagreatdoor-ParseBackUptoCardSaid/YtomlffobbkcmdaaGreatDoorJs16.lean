import Derived.Test.YtomlffobbkcmdaaGreatDoorJs14
namespace Go.Proofs.YtomlffobbkcmdaaGreatDoor
open Go Go.RowKit Own
theorem stC_call {w:World}{S:Nat→Prop}{op l cl:Nat}{val into cont:List UInt8}{p:Option Addr}{cap:Nat}{xs:List Ex}(h:CD w S p 0 xs):
  ∃vs:List Value,stC 9 0 op [] val into cont (.slice p xs.length cap) l cl=vs.toArray∧StAt w S vs (.mk 9 [] 0 op val into cont xs [] [] l cl):=by
 refine⟨_,rfl,?_⟩
 unfold StAt
 exact⟨p,cap,none,0,none,0,rfl,h,by unfold CJ;trivial,by unfold CJ;trivial⟩
def ReadsS (R el ec:Nat)(its r:List Item)(s:St):Prop:=∀(w:World),BE w R its el ec→
  Calls Tryz.prog 103 #[rdV R] w fun e w'=>∃vs,e=.returned (.agg vs.toArray)∧StAt w' (fun b=>w.heap.size≤b) vs s∧BE w' R r el ec∧BA (fun b=>b=R) w w'
theorem put12 {w:World}{B:Nat}{a b c d e f g h i j k l:Value}{T:TypeId}(hh:w.heap[B]?=some (.cells #[a,b,c,d,e,f,g,h,i,j,k,l] T (0,0)))(v0 v1 v2 v3 v4 v5 v6 v7 v8 v9 v10 v11:Value):
  ∃ wf,wf=(((((((((((w.setCell ⟨B,0,none⟩ v0).setCell ⟨B,1,none⟩ v1).setCell ⟨B,2,none⟩ v2).setCell ⟨B,3,none⟩ v3).setCell ⟨B,4,none⟩ v4).setCell ⟨B,5,none⟩ v5).setCell ⟨B,6,none⟩ v6).setCell ⟨B,7,none⟩ v7).setCell ⟨B,8,none⟩ v8).setCell ⟨B,9,none⟩ v9).setCell ⟨B,10,none⟩ v10).setCell ⟨B,11,none⟩ v11∧
   wf.heap[B]?=some (.cells #[v0,v1,v2,v3,v4,v5,v6,v7,v8,v9,v10,v11] T (0,0))∧BA (fun k=>k=B) w wf:=by
 obtain⟨w0,rfl,h0,k0⟩:=s_put0 hh v0
 obtain⟨w1,rfl,h1,k1⟩:=s_put1 h0 v1
 obtain⟨w2,rfl,h2,k2⟩:=s_put2 h1 v2
 obtain⟨w3,rfl,h3,k3⟩:=s_put3 h2 v3
 obtain⟨w4,rfl,h4,k4⟩:=s_put4 h3 v4
 obtain⟨w5,rfl,h5,k5⟩:=s_put5 h4 v5
 obtain⟨w6,rfl,h6,k6⟩:=s_put6 h5 v6
 obtain⟨w7,rfl,h7,k7⟩:=s_put7 h6 v7
 obtain⟨w8,rfl,h8,k8⟩:=s_put8 h7 v8
 obtain⟨w9,rfl,h9,k9⟩:=s_put9 h8 v9
 obtain⟨w10,rfl,h10,k10⟩:=s_put10 h9 v10
 obtain⟨w11,rfl,h11,k11⟩:=s_put11 h10 v11
 exact⟨_,rfl,h11,(((((((((((k0.trans k1).trans k2).trans k3).trans k4).trans k5).trans k6).trans k7).trans k8).trans k9).trans k10).trans k11)⟩
theorem st_len {w:World}{S:Nat→Prop}{vs:List Value}{x:St}(h:StAt w S vs x):vs.length=12:=by
 obtain⟨_,_,_,_,_,_,_,_,_,_,_,_,_,_,_,_,_,_,rfl⟩:=st_form h
 rfl
theorem st_cells {w:World}{S:Nat→Prop}{vs:List Value}{x:St}(h:StAt w S vs x):∀u∈vs,u.oneCell'=true:=by
 obtain⟨_,_,_,_,_,_,_,_,_,_,_,_,_,_,_,_,_,_,rfl⟩:=st_form h
 simp[Value.oneCell']
theorem sts_of_row {w:World}{S:Nat→Prop}{g:Nat}(hS:S g):∀(l:List St) (cs:List (List Value)) (i:Nat),cs.length=l.length→(∀j (h:j<cs.length) (h':j<l.length),StAt w S cs[j] l[j])→(∀j u,cs.flatten[j]?=some u→w.cell? ⟨g,i * 12+j,none⟩=some u)→CJ w S (some ⟨g,0,none⟩) i l
 |[],_,_,_,_,_=>by unfold CJ;trivial
 |s::l,[],_,h,_,_=>by simp at h
 | s::l,c::cs,i,hl,hst,hc=>by
  unfold CJ
  have h0:=hst 0 (by simp) (by simp)
  have h12:=st_len h0
  simp only[List.getElem_cons_zero]at h0 h12
  refine⟨⟨g,0,c,rfl,hS,fun j v hj=>?_,h0⟩,sts_of_row hS l cs (i+1) (by simpa using hl) (fun j h h'=>hst (j+1) (by simpa using h) (by simpa using h')) fun j u hj=>?_⟩
  ·have hlt:j<c.length:=(List.getElem?_eq_some_iff.1 hj).1
   rw[Nat.zero_add]
   exact hc j v (by rw[List.flatten_cons,List.getElem?_append_left hlt];exact hj)
  ·have:=hc (12+j) u (by rw[List.flatten_cons,List.getElem?_append_right (by omega),h12,Nat.add_sub_cancel_left];exact hj)
   rw[show (i+1) * 12+j=i * 12+(12+j) by omega]
   exact this
theorem rowS_keep {E:Nat→Prop}{w w':World}{base size n:Nat}{e:TypeId}{v:Value}{xs:List Value}(h:w.ownsRow base e size v n xs)(k:BA E w w')(hE:∀b,v.ownBlock=some b→¬E b):w'.ownsRow base e size v n xs:=by
 refine⟨h.1,?_⟩
 rcases h.2 with h|⟨g,cap,cur,h1,h2,h3,h4⟩
 ·exact .inl h
 ·exact .inr ⟨g,cap,cur,h1,h2,k.blkE h3 (hE g (by rw[h1];rfl)),h4⟩
theorem rowS_lt {w:World}{base size n b:Nat}{e:TypeId}{v:Value}{xs:List Value}(h:w.ownsRow base e size v n xs)(hb:v.ownBlock=some b):b<w.heap.size:=by
 rcases h.2 with⟨rfl,-⟩|⟨g,cap,cur,rfl,h2,h3,h4⟩
 ·cases hb
 ·simp only[Value.ownBlock,Option.some.injEq]at hb
  subst hb
  exact(AG.1 h3).1
theorem rowS_some {w:World}{base size n:Nat}{e:TypeId}{v:Value}{xs:List Value}(h:w.ownsRow base e size v n xs):∃p cap,v=.slice p n cap∧(n=0∨∃g,p=some ⟨g,0,none⟩∧∀j u,xs[j]?=some u→w.cell? ⟨g,j,none⟩=some u):=by
 rcases h.2 with⟨rfl,h0⟩|⟨g,cap,cur,h1,h2,h3,h4,h5,h6,h7⟩
 ·subst h0
  exact⟨none,0,rfl,.inl rfl⟩
 ·refine⟨_,cap,h1,.inr ⟨g,rfl,fun j u hj=>BJ h3 ?_⟩⟩
  rw[←h7,List.getElem?_take]at hj
  split at hj
  ·simpa using hj
  ·cases hj
abbrev zero12:Array Value:=#[.int .i64 0,.string ⟨#[]⟩,.int .i64 0,.int .i64 0,.string ⟨#[]⟩,.string ⟨#[]⟩,.string ⟨#[]⟩,.slice none 0 0,.slice none 0 0,.slice none 0 0,.int .i64 0,.int .i64 0]
structure SmAt (Z:Prop)(M:Nat→Prop)(w wr:World)(R el ec B B2:Nat)(its:List Item)(k sz op l cl:Int)(nm val into cont:List UInt8)(xs:List Ex)(thn els:List St):Prop where
 rd:BE wr R its el ec
 ex:∃p1 c1 p2 c2 p3 c3,wr.heap[B]?=some (.cells #[.int .i64 k,.string ⟨nm.toArray⟩,.int .i64 sz,.int .i64 op,.string ⟨val.toArray⟩,.string ⟨into.toArray⟩,.string ⟨cont.toArray⟩,.slice p1 xs.length c1,.slice p2 thn.length c2,.slice p3 els.length c3,.int .i64 l,.int .i64 cl] TSm (0,0))∧
  CD wr (fun b=>w.heap.size≤b∧b≠B∧b≠B2) p1 0 xs∧CJ wr (fun b=>w.heap.size≤b∧b≠B∧b≠B2) p2 0 thn∧CJ wr (fun b=>w.heap.size≤b∧b≠B∧b≠B2) p3 0 els
 b2:Z→wr.heap[B2]?=some (.cells zero12 TSm (0,0))∧B2≠R∧B2≠B
 keep:BA M w wr
 lt:R<w.heap.size∧R<B∧B<wr.heap.size∧B2<wr.heap.size
 hm:∀b,b=R∨b=B→M b∨w.heap.size≤b
section
variable {Z : Prop}{M : Nat→Prop}{w wr w' : World}{R el ec B B2 : Nat}{its r : List Item}{k sz op l cl k' sz' op' : Int}{nm val into cont nm' val' into' cont' : List UInt8}{xs xs' : List Ex}{thn els thn' els' : List St}
theorem SmAt.call (h:SmAt Z M w wr R el ec B B2 its k sz op l cl nm val into cont xs thn els)(hr:BE w' R r el ec)(hk:BA (fun b=>b=R) wr w'):SmAt Z M w w' R el ec B B2 r k sz op l cl nm val into cont xs thn els:=by
 obtain⟨p1,c1,p2,c2,p3,c3,h1,h2,h3,h4⟩:=h.ex
 have hlt:=h.lt
 have hs:=hk.size
 have hno:∀b,(w.heap.size≤b∧b≠B∧b≠B2)→¬b=R:=fun b hb e=>by have:=hb.1;omega
 refine⟨hr,⟨p1,c1,p2,c2,p3,c3,hk.blkE h1 fun e=>by have e:B=R:=e;omega,h2.keep hk hno,h3.keep hk hno,h4.keep hk hno⟩,fun z=>?_,h.keep.newM hk fun b e=>h.hm b (.inl e),⟨hlt.1,hlt.2.1,by omega,by omega⟩,h.hm⟩
 exact⟨hk.blkE (h.b2 z).1 (h.b2 z).2.1,(h.b2 z).2⟩
theorem SmAt.stay (h:SmAt Z M w wr R el ec B B2 its k sz op l cl nm val into cont xs thn els)(hk:BA (fun _=>False) wr w'):SmAt Z M w w' R el ec B B2 its k sz op l cl nm val into cont xs thn els:=
 h.call (h.rd.keep hk fun _ _ e=>e) (hk.mono fun _ e=>e.elim)
theorem SmAt.put (h:SmAt Z M w wr R el ec B B2 its k sz op l cl nm val into cont xs thn els)(hk:BA (fun b=>b=B) wr w'){p1 p2 p3:Option Addr}{c1 c2 c3:Nat}
  (hb:w'.heap[B]?=some (.cells #[.int .i64 k',.string ⟨nm'.toArray⟩,.int .i64 sz',.int .i64 op',.string ⟨val'.toArray⟩,.string ⟨into'.toArray⟩,.string ⟨cont'.toArray⟩,.slice p1 xs'.length c1,.slice p2 thn'.length c2,.slice p3 els'.length c3,.int .i64 l,.int .i64 cl] TSm (0,0)))
  (hx:CD wr (fun b=>w.heap.size≤b∧b≠B∧b≠B2) p1 0 xs') (ht:CJ wr (fun b=>w.heap.size≤b∧b≠B∧b≠B2) p2 0 thn') (he:CJ wr (fun b=>w.heap.size≤b∧b≠B∧b≠B2) p3 0 els'):
  SmAt Z M w w' R el ec B B2 its k' sz' op' l cl nm' val' into' cont' xs' thn' els':=by
 have hlt:=h.lt
 have hs:=hk.size
 have hno:∀b,(w.heap.size≤b∧b≠B∧b≠B2)→¬b=B:=fun b hb e=>hb.2.1 e
 have hrd:=h.rd
 refine⟨?_,⟨p1,c1,p2,c2,p3,c3,hb,hx.keep hk hno,ht.keep hk hno,he.keep hk hno⟩,fun z=>?_,h.keep.newM hk fun b e=>h.hm b (.inr e),⟨hlt.1,hlt.2.1,by omega,by omega⟩,h.hm⟩
 ·exact hrd.keep hk fun b hb e=>by have e:b=B:=e;omega
 ·exact⟨hk.blkE (h.b2 z).1 fun e=>(h.b2 z).2.2 e,(h.b2 z).2⟩
theorem SmAt.expr {w1 w2:World}{G:Nat}{vs:List Value}{x:Ex}(h:SmAt Z M w wr R el ec B B2 its k sz op l cl nm val into cont xs thn els)(hex:ExAt w1 (fun b=>wr.heap.size≤b) vs x)(hr:BE w1 R r el ec)(hk:BA (fun b=>b=R) wr w1)(hg:BA (fun _=>False) w1 w2)(hb:w2.heap[G]?=some (.cells vs.toArray TEx (0,0)))(hG:w1.heap.size≤G):
  SmAt Z M w w2 R el ec B B2 r k sz op l cl nm val into cont xs thn els∧CD w2 (fun b=>w.heap.size≤b∧b≠B∧b≠B2) (some ⟨G,0,none⟩) 0 [x]:=by
 have hlt:=h.lt
 have hs:=hk.size
 have hs0:=h.keep.size
 refine⟨(h.call hr hk).stay hg,kids_one hb ⟨by omega,by omega,by omega⟩ ((hex.keep hg fun _ _ e=>e).mono fun b hb=>?_)⟩
 have hb:wr.heap.size≤b:=hb
 exact⟨by omega,by omega,by omega⟩
theorem SmAt.exA {w1 w2:World}{vs:List Value}{x:Ex}(h:SmAt Z M w wr R el ec B B2 its k sz op l cl nm val into cont xs thn els)(hex:ExAt w1 (fun b=>wr.heap.size≤b) vs x)(hr:BE w1 R r el ec)(hk:BA (fun b=>b=R) wr w1)(hg:BA (fun _=>False) w1 w2):
  SmAt Z M w w2 R el ec B B2 r k sz op l cl nm val into cont xs thn els∧ExAt w2 (fun b=>w.heap.size≤b∧b≠B∧b≠B2) vs x:=by
 have hlt:=h.lt
 have hs0:=h.keep.size
 refine⟨(h.call hr hk).stay hg,(hex.keep hg fun _ _ e=>e).mono fun b hb=>?_⟩
 have hb:wr.heap.size≤b:=hb
 exact⟨by omega,by omega,by omega⟩
theorem SmAt.block {w1:World}{p:Option Addr}{q:List St}(h:SmAt Z M w wr R el ec B B2 its k sz op l cl nm val into cont xs thn els)(hst:CJ w1 (fun b=>wr.heap.size≤b) p 0 q)(hr:BE w1 R r el ec)(hk:BA (fun b=>b=R) wr w1):
  SmAt Z M w w1 R el ec B B2 r k sz op l cl nm val into cont xs thn els∧CJ w1 (fun b=>w.heap.size≤b∧b≠B∧b≠B2) p 0 q:=by
 have hlt:=h.lt
 have hs0:=h.keep.size
 refine⟨h.call hr hk,hst.mono fun b hb=>?_⟩
 have hb:wr.heap.size≤b:=hb
 exact⟨by omega,by omega,by omega⟩
end
theorem SmAt.st {Z:Prop}{M:Nat→Prop}{w wr:World}{R el ec B B2:Nat}{its:List Item}{k sz op l cl:Nat}{nm val into cont:List UInt8}{xs:List Ex}{thn els:List St}(h:SmAt Z M w wr R el ec B B2 its k sz op l cl nm val into cont xs thn els):
  ∃vs:List Value,wr.heap[B]?=some (.cells vs.toArray TSm (0,0))∧StAt wr (fun b=>w.heap.size≤b∧b≠B∧b≠B2) vs (.mk k nm sz op val into cont xs thn els l cl):=by
 obtain⟨p1,c1,p2,c2,p3,c3,h1,h2,h3,h4⟩:=h.ex
 refine⟨_,h1,?_⟩
 unfold StAt
 exact⟨p1,c1,p2,c2,p3,c3,rfl,h2,h3,h4⟩
theorem row_same {w w':World}{base size:Nat}{T:TypeId}{v:Value}{n:Nat}{xs:List Value}(h:w.ownsRow base T size v n xs)(hb:∀b,v.ownBlock=some b→w'.heap[b]?=w.heap[b]?):w'.ownsRow base T size v n xs:=by
 obtain⟨h0,h1|⟨g,cap,cur,h1,h2,h3,h4⟩⟩:=h
 ·exact⟨h0,.inl h1⟩
 ·exact⟨h0,.inr ⟨g,cap,cur,h1,h2,(hb g (by rw[h1];rfl)).trans h3,h4⟩⟩
def aside3 (n m1 m2:Nat)(x1 x2:Obj)(base:Nat)(T:TypeId)(size:Nat)(v:Value)(k:Nat)(xs:List Value)(j:Nat)(w:World):Prop:=
 if j=n then w.heap[m1]?=some x1 else if j=n+1 then w.heap[m2]?=some x2 else if j=n+2 then w.ownsRow base T size v k xs else True
def aside3Fp (n m1 m2:Nat)(v:Value)(j b:Nat):Prop:=(j=n∧b=m1)∨(j=n+1∧b=m2)∨(j=n+2∧v.ownBlock=some b)
theorem wp_own3 {P:Program}{l:List Oper}{Q:Exit→Act→World→Prop}{id:Nat}{a:Act}{w:World}(hm:P.follows .mixedOrders=true)
  (m1 m2:Nat) (x1 x2:Obj) (hx1:w.heap[m1]?=some x1) (hx2:w.heap[m2]?=some x2) (hne:m1<m2) (base:Nat) (T:TypeId) (size:Nat) (v:Value) (k:Nat) (xs:List Value) (hrow:w.ownsRow base T size v k xs) (hlt:m2<base)
  (D av ea:Nat→List Nat) (keep:List Nat) (hok:okB l.toArray D av ea keep=true) (sp:Nat→Option Loud)
  (hlex:Lex P l.toArray w.drew (fun b=>b=m1∨b=m2∨v.ownBlock=some b) sp av ea (fun a F Fp=>Done w.drew (fun b=>b=m1∨b=m2∨v.ownBlock=some b) Q keep a F Fp) l 0 a (aside3 l.length m1 m2 x1 x2 base T size v k xs) (aside3Fp l.length m1 m2 v)):(Code.region id l.toArray true).wp P Q a w:=by
 have lt:∀{m:Nat}{x:Obj},w.heap[m]?=some x→m<w.heap.size:=fun h=>(AG.1 h).1
 refine wp_own_lit hm D av ea keep hok sp _ _ _ ?_ ?_ ?_ ?_ hlex
 ·intro j hj
  have hj':j<l.length:=by simpa using hj
  funext w';unfold aside3;rw[if_neg (by omega),if_neg (by omega),if_neg (by omega)]
 ·intro j hj
  have hj':j<l.length:=by simpa using hj
  funext b;unfold aside3Fp
  exact propext ⟨fun h=>by rcases h with h|h|h<;>omega,fun h=>h.elim⟩
 ·intro j hj
  refine⟨fun w1 w2 _ _ _ h hk=>?_,?_,fun b hb=>?_⟩
  ·unfold aside3 at hk ⊢
   by_cases e1:j=l.length
   ·rw[if_pos e1]at hk ⊢
    rw[←hk];exact h m1 (.inl ⟨e1,rfl⟩)
   ·rw[if_neg e1]at hk ⊢
    by_cases e2:j=l.length+1
    ·rw[if_pos e2]at hk ⊢
     rw[←hk];exact h m2 (.inr (.inl ⟨e2,rfl⟩))
    ·rw[if_neg e2]at hk ⊢
     by_cases e3:j=l.length+2
     ·rw[if_pos e3]at hk ⊢
      exact row_same hk fun b hb=>h b (.inr (.inr ⟨e3,hb⟩))
     ·rw[if_neg e3];trivial
  ·unfold aside3
   by_cases e1:j=l.length
   ·rw[if_pos e1];exact hx1
   ·rw[if_neg e1]
    by_cases e2:j=l.length+1
    ·rw[if_pos e2];exact hx2
    ·rw[if_neg e2]
     by_cases e3:j=l.length+2
     ·rw[if_pos e3];exact hrow
     ·rw[if_neg e3];trivial
  ·rcases hb with⟨_,hb⟩|⟨_,hb⟩|⟨_,hb⟩
   ·exact⟨by rw[hb];exact lt hx1,.inl hb⟩
   ·exact⟨by rw[hb];exact lt hx2,.inr (.inl hb)⟩
   ·exact⟨(hrow.lt b hb).2,.inr (.inr hb)⟩
 ·intro i j _ _ hij b h1 h2
  rcases h1 with⟨a1,a2⟩|⟨a1,a2⟩|⟨a1,a2⟩<;>rcases h2 with⟨b1,b2⟩|⟨b1,b2⟩|⟨b1,b2⟩
  ·omega
  ·omega
  ·have:=(hrow.lt b b2).1;omega
  ·omega
  ·omega
  ·have:=(hrow.lt b b2).1;omega
  ·have:=(hrow.lt b a2).1;omega
  ·have:=(hrow.lt b a2).1;omega
  ·omega
def sRow (base:Nat)(T:TypeId)(size n:Nat)(xs:List Value):Loud:={ val:=fun _ g=>.slice g.p n g.c,fp:=fun _ g=>Of g.p,post:=fun _ g w=>w.ownsRow base T size (.slice g.p n g.c) n xs }
theorem own_of {p:Option Addr}{n c b:Nat}:(Value.slice p n c).ownBlock=some b↔Of p b:=by
 cases p with
 |none=>exact⟨fun h=>by simp[Value.ownBlock]at h,fun ⟨a,h,_⟩=>by cases h⟩
 |some a=>exact⟨fun h=>⟨a,rfl,by simpa [Value.ownBlock]using h.symm⟩,fun ⟨a',h1,h2⟩=>by cases h1;rw[h2];rfl⟩
theorem loud_appendR {P:Program}{w0:World}{M:Nat→Prop}{o:Oper}{a:Act}{av ea:List Nat}{F:Nat→World→Prop}{Fp:Nat→Nat→Prop}(base:Nat)(T t:TypeId)(z:Value)(size bytes:Nat)
  (ht:P.underlying t=some (.slice T)) (hinfo:(P.info? T).map (fun i=>(i.zero,i.size,i.bytes))=some (some z,size,bytes)) (hzs:z.cells.size=size) (hsz:0<size)
  (x y:Operand) (ho:o.op=.call { callee:=.builtin .append,args:=#[x,y],argTypes:=#[t,t] }) (v:Value) (n:Nat) (xs:List Value) (b2:Nat) (news:List Value)
  (hx:a.eval x=v) (hy:a.eval y=.slice (some ⟨b2,0,none⟩) 1 1) (hl:news.length=size) (h1:∀u∈news,u.oneCell'=true) (hn:n+1≤maxLen) (hb:(n+1) * bytes≤140737488355328) (hbase:base≤w0.heap.size)
  (j1:Nat) (hj1a:j1∈av) (hj1e:j1∈ea) (hF1:∀w,F j1 w→w.ownsRow base T size v n xs) (hp1:∀b,v.ownBlock=some b→Fp j1 b)
  (j2:Nat) (hj2a:j2∈av) (hF2:∀w,F j2 w→w.heap[b2]?=some (.cells news.toArray T (0,0))):FO P w0 M o a (sRow base T size (n+1) (xs++news)) av ea F Fp:=by
 obtain⟨i0,hi,hz,hsize,hby⟩:∃i0,P.info? T=some i0∧i0.zero=some z∧i0.size=size∧i0.bytes=bytes:=by
  cases hi:P.info? T with
  |none=>rw[hi]at hinfo;cases hinfo
  | some i0=>
   rw[hi]at hinfo
   simp only[Option.map_some,Option.some.injEq,Prod.mk.injEq]at hinfo
   exact⟨i0,rfl,hinfo.1,hinfo.2.1,hinfo.2.2⟩
 refine DB ⟨default,trivial⟩ (fun g _ w w' _ _ _ h k=>row_same k fun b hb=>h b (own_of.1 hb)) fun w hw hav _=>?_
 have hrow:=hF1 w (hav j1 hj1a).1
 have hsrc:=hF2 w (hav j2 hj2a).1
 obtain⟨v',w',r1,r2,r3,-,r5⟩:=run_append_own_at (P:=P) (w:=w) base t o.type T i0 z size bytes ht hi hz hsize hby hzs hsz v n xs hrow ⟨b2,0,none⟩ 1 1 news (by rw[hl];omega)
  (fun j u hj=>by
   rw[add_off]
   exact BJ hsrc (by simpa using hj)) h1 hn hb (Nat.le_trans hbase hw.size)
 obtain⟨p,c,rfl⟩:∃p c,v'=.slice p (n+1) c:=by
  rcases r2.2 with⟨rfl,h0⟩|⟨g,cap,cur,rfl,-⟩
  ·exact absurd h0 (by omega)
  ·exact⟨_,_,rfl⟩
 refine⟨w',{ p:=p,c:=c },trivial,.inl ?_,BA.grown r3 fun b hb=>⟨j1,hj1e,hp1 b hb⟩,fun b hb=>⟨?_,(r2.lt b (own_of.2 hb)).2⟩,r2⟩
 ·unfold execOp
  simp only[ho,resolve,invoke,builtin,Sem.run_bind,Sem.run_pure,Result.andThen_ok,List.map_toArray,List.map_cons,List.map_nil,hx,hy,r1,sRow]
 ·have hb':=own_of (n:=n+1) (c:=c).2 hb
  rcases r5 with r5|r5
  ·rw[r5]at hb';exact .inr ⟨j1,hj1e,hp1 b hb'⟩
  ·rw[r5]at hb'
   have:w.heap.size=b:=Option.some.inj hb'
   exact .inl (by omega)
section
variable {P : Program}{w0 : World}{M : Nat→Prop}{o : Oper}{a : Act}{av ea : List Nat}{F : Nat→World→Prop}{Fp : Nat→Nat→Prop}
def sCellA (b i:Nat)(T:TypeId)(cs0:Array Value):Loud:={ val:=fun _ _=>undef,fp:=fun _ _ k=>k=b,post:=fun args _ w=>∀v,args.getD 1 undef=v→w.heap[b]?=some (.cells (cs0.setIfInBounds i v) T (0,0)) }
theorem loud_cellA (b i:Nat)(T:TypeId)(cs0:Array Value)(v:Value)(hv:(BS o a).getD 1 undef=v)(hrun:∀w u,w.cell? ⟨b,i,none⟩=some u→w.frozen? ⟨b,i,none⟩=false→(execOp a.eval o).run P w=.ok .skip (w.setCell ⟨b,i,none⟩ v))
  (j:Nat) (hja:j∈av) (hje:j∈ea) (hF:∀w,F j w→w.heap[b]?=some (.cells cs0 T (0,0))) (hfp:Fp j b) (hi:i<cs0.size):FO P w0 M o a (sCellA b i T cs0) av ea F Fp:=by
 refine DB ⟨default,trivial⟩ (fun g _ w w' _ _ _ h k u hu=>(h b rfl).trans (k u hu)) fun w _ hav _=>?_
 obtain⟨hj,hb⟩:=hav j hja
 have hh:=hF w hj
 refine⟨w.setCell ⟨b,i,none⟩ v,default,trivial,.inr ⟨hrun w _ (BJ hh (Array.getElem?_eq_getElem hi)) (by simp[World.frozen?,hh]),rfl⟩,BA.setCell _ _ _ ⟨j,hje,hfp⟩,fun k hk=>⟨.inr ⟨j,hje,by rw[show k=b from hk];exact hfp⟩,?_⟩,fun u hu=>?_⟩
 ·rw[show k=b from hk]
  exact Nat.lt_of_lt_of_le (hb b hfp).1 (by simp[World.setCell])
 ·rw[hv]at hu
  rw[←hu]
  exact put1 hh v
def sOneV (E:TypeId)(cs:Array Value):Loud:={ val:=fun _ g=>.slice (some ⟨g.b,0,none⟩) 1 1,fp:=fun _ g k=>k=g.b,post:=fun _ g w=>w.heap[g.b]?=some (.cells cs E (0,0)) }
theorem loud_oneV (E:TypeId)(cs:Array Value)(hrun:∀w,(execOp a.eval o).run P w=.ok (.value (.slice (some ⟨w.heap.size,0,none⟩) 1 1)) (w.alloc (.cells cs E))):FO P w0 M o a (sOneV E cs) av ea F Fp:=
 loud_new (fun b=>.slice (some ⟨b,0,none⟩) 1 1) _ rfl (fun _ _=>rfl) (fun _ _ _=>Iff.rfl) (fun _ _ _=>Iff.rfl) hrun
end
theorem field_kind (a b c d e:Value)(w:World):(Instr.field TTk (.agg #[a,b,c,d,e]) 0).run Tryz.prog w=.ok a w:=by kernel_rfl
theorem sm_start {w:World}{R el ec Bs l cl:Nat}{its:List Item}(hr:BE w R its el ec)(hB:w.heap[Bs]?=some (.cells (stC 0 0 0 [] [] [] [] (.slice none 0 0) l cl) TSm (0,0)))(hRB:R<Bs):
  SmAt False (fun b=>b=R∨b=Bs) w w R el ec Bs R its 0 0 0 l cl [] [] [] [] [] [] []:=by
 unfold stC at hB
 exact⟨hr,⟨none,0,none,0,none,0,hB,by unfold CD;trivial,by unfold CJ;trivial,by unfold CJ;trivial⟩,fun z=>z.elim,BA.refl _ _,⟨hr.lt,hRB,(AG.1 hB).1,hr.lt⟩,fun b e=>.inl e⟩
end Go.Proofs.YtomlffobbkcmdaaGreatDoor
