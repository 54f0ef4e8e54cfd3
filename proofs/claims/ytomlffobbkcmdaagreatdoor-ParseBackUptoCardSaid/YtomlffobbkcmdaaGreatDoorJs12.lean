import Derived.Test.YtomlffobbkcmdaaGreatDoorJs11
import Derived.WalkSmall
set_option maxHeartbeats 8000000
namespace Go.Proofs.YtomlffobbkcmdaaGreatDoor
open Go Go.RowKit Own
open Go.Lib (hid)
abbrev fltC (er li co:Int):List PanicEntry:=[{ v:=fltV er li co,recovered:=false }]
theorem bad_any (w:World)(R:Nat)(its:List Item)(el ec:Nat)(h:BE w R its el ec)(k n l c:Int)(S:ByteArray)(hp:peekV its el ec=.agg #[.int .i64 k,.string S,.int .i64 n,.int .i64 l,.int .i64 c]):
  Calls Tryz.prog 33 #[rdV R] w fun e w'=>e=.panicked (fltC 9 l c)∧BA (fun _=>False) w w':=by
 have HP:=hid (peek_any w R its el ec h)
 rw[hp]at HP
 clear h hp
 simp only[fltC,fltV,TFt]
 go_enter Tryz.func33,Tryz.ntmps33
 go_wp2_with fail
 go_at_call 74
 refine HP.out.mono ?_
 rintro e w1 ⟨rfl,hk⟩
 obtain⟨V,B,hV,hB,hb,hk1,hs⟩:=BC w1 (.cells #[.int .i64 k,.string S,.int .i64 n,.int .i64 l,.int .i64 c] TTk)
 have HK:=hid (hk.trans hk1)
 obtain⟨n0,n1,n2,n3,n4,-⟩:=blk5 hb
 clear hk hk1 hb hs HP
 go_upto_region 1 with fail
 rw[←hV,←hB]
 clear hV hB
 go_wp2_with fail
 exact⟨rfl,rfl,HK.out⟩
theorem want_bad (w:World)(R:Nat)(its:List Item)(el ec:Nat)(h:BE w R its el ec)(k n l c:Int)(S:ByteArray)(hp:peekV its el ec=.agg #[.int .i64 k,.string S,.int .i64 n,.int .i64 l,.int .i64 c])(q:Int)(hq:k≠q):
  Calls Tryz.prog 77 #[rdV R,.int .i64 q] w fun e w'=>e=.panicked (fltC 9 l c)∧BA (fun _=>False) w w':=by
 obtain⟨V,B,hV,hB,hb,hk0,hs⟩:=BC w (.cells #[.int .i64 0,.string ⟨#[]⟩,.int .i64 0,.int .i64 0,.int .i64 0] TTk)
 have hR:=h.keep hk0 fun _ _ e=>e
 have HP:=hid (peek_any V R its el ec hR)
 have HBD:=hid fun W (hk:BA (fun _=>False) V W)=>bad_any W R its el ec (hR.keep hk fun _ _ e=>e) k n l c S hp
 rw[hp]at HP
 have HK0:=hid hk0
 have hqb:(k==q)=false:=by rw[BF];exact hq
 clear h hp hR hk0 hb hs
 go_enter Tryz.func77,Tryz.ntmps77
 go_upto_region 1 with fail
 rw[←hV]
 clear hV hB
 go_wp2_with fail
 go_at_call 74
 refine HP.out.mono ?_
 rintro e w1 ⟨rfl,hk⟩
 obtain⟨W,C,hW,hC,hc,hk1,hs⟩:=BC w1 (.cells #[.int .i64 k,.string S,.int .i64 n,.int .i64 l,.int .i64 c] TTk)
 have HK:=hid (hk.trans hk1)
 have HBD1:=hid (HBD.out W (hk.trans hk1))
 obtain⟨n0,n1,n2,n3,n4,-⟩:=blk5 hc
 clear hk hk1 hc hs HP
 go_upto_region 2 with fail
 rw[←hW,←hC]
 clear hW hC
 go_wp2_with fail
 go_at_call 33
 refine HBD1.out.mono ?_
 rintro e w2 ⟨rfl,hk2⟩
 have HK2:=hid ((HK0.out.trans HK.out).trans hk2)
 clear hk2
 go_wp2_with fail
 exact⟨rfl,rfl,HK2.out⟩
theorem name_bad (w:World)(R:Nat)(its:List Item)(el ec:Nat)(h:BE w R its el ec)(k n l c:Int)(S:ByteArray)(hp:peekV its el ec=.agg #[.int .i64 k,.string S,.int .i64 n,.int .i64 l,.int .i64 c])(hq:k≠2):
  Calls Tryz.prog 79 #[rdV R] w fun e w'=>e=.panicked (fltC 9 l c)∧BA (fun _=>False) w w':=by
 have HW:=hid (want_bad w R its el ec h k n l c S hp 2 hq)
 clear h hp hq
 go_enter Tryz.func79,Tryz.ntmps79
 go_wp2_with fail
 go_at_call 77
 refine HW.out.mono ?_
 rintro e w1 ⟨rfl,hk⟩
 have HK:=hid hk
 clear hk
 go_wp2_with fail
 exact⟨rfl,rfl,HK.out⟩
theorem DS (op:Int)(w:World):Calls Tryz.prog 113 #[.int .i64 op] w fun e w'=>e=.returned (.bool (op==2 || op==4))∧w'=w:=by
 by_cases h2:op=2
 ·subst h2
  go_enter Tryz.func113,Tryz.ntmps113
  go_wp2_with fail
  go_ret
  exact⟨rfl,rfl⟩
 ·have h2b:(op==2)=false:=by simpa using h2
  rw[h2b,Bool.false_or]
  go_enter Tryz.func113,Tryz.ntmps113
  go_wp2_with fail
  go_ret
  exact⟨rfl,rfl⟩
def opsV:Array Value:=#[.string ⟨#[]⟩,.string ⟨#[112,117,115,104]⟩,.string ⟨#[112,111,112]⟩,.string ⟨#[101,110,113]⟩,.string ⟨#[100,101,113]⟩,.string ⟨#[97,100,100]⟩,.string ⟨#[114,101,109,111,118,101]⟩,.string ⟨#[104,97,115]⟩]
theorem words_any (w:World):Calls Tryz.prog 126 #[] w fun e w'=>e=.returned (.agg opsV)∧BA (fun _=>False) w w':=by
 obtain⟨V,B,hV,hB,hb,hk,hs⟩:=BC w (.cells opsV 173)
 have HK:=hid hk
 unfold opsV at hV hb ⊢
 clear hk hs
 go_enter Tryz.func126,Tryz.ntmps126
 go_wp2_with fail
 rw[←hV,←hB]
 refine bodyPost_ret (v:=.agg opsV) ?_ rfl ⟨rfl,HK.out⟩
 unfold opsV
 simp[results,Tryz.results126,go_sem,World.cell?,hb]
def kindsV:Array Value:=#[.string ⟨#[]⟩,.string ⟨#[115,116,97,99,107]⟩,.string ⟨#[113,117,101,117,101]⟩,.string ⟨#[115,101,116]⟩]
theorem kinds_any (w:World):Calls Tryz.prog 41 #[] w fun e w'=>e=.returned (.agg kindsV)∧BA (fun _=>False) w w':=by
 obtain⟨V,B,hV,hB,hb,hk,hs⟩:=BC w (.cells kindsV 91)
 have HK:=hid hk
 unfold kindsV at hV hb ⊢
 clear hk hs
 go_enter Tryz.func41,Tryz.ntmps41
 go_wp2_with fail
 rw[←hV,←hB]
 refine bodyPost_ret (v:=.agg kindsV) ?_ rfl ⟨rfl,HK.out⟩
 unfold kindsV
 simp[results,Tryz.results41,go_sem,World.cell?,hb]
theorem ba_inj {a b:List UInt8}(h:(⟨a.toArray⟩:ByteArray)=⟨b.toArray⟩):a=b:=by
 have:=congrArg (fun x:ByteArray=>x.data.toList) h
 simpa using this
theorem idxFrom_list (s:List UInt8):∀(L:List (List UInt8)) (i:Nat),Lib.idxFromS (L.map fun l=>(⟨l.toArray⟩:ByteArray)) ⟨s.toArray⟩ i=if L.contains s=true then ((i+L.idxOf s:Nat):Int) else -1
 |[],i=>by simp[Lib.idxFromS]
 | l::L,i=>by
  rw[List.map_cons]
  unfold Lib.idxFromS
  by_cases h:l=s
  ·subst h
   simp
  ·have h1:¬(⟨l.toArray⟩:ByteArray)=⟨s.toArray⟩:=fun e=>h (ba_inj e)
   have h2:¬s=l:=fun e=>h e.symm
   rw[if_neg h1,idxFrom_list s L (i+1)]
   simp only[List.contains_cons,List.idxOf_cons,Bool.or_eq_true,beq_iff_eq]
   by_cases hc:L.contains s=true
   ·rw[if_pos hc,if_pos (.inr hc),show (l==s)=false by simpa using h]
    simp only[cond_false]
    omega
   ·rw[if_neg hc,if_neg (fun e=>e.elim h2 hc)]
theorem of_any (L:List (List UInt8))(hlen:L.length≤1000)(g o c:Nat)(w:World)(hc:∀j (h:j<L.length),w.cell? ⟨g,o+j,none⟩=some (.string ⟨L[j].toArray⟩))(s:List UInt8):
  Calls Tryz.prog 78 #[.slice (some ⟨g,o,none⟩) L.length c,.string ⟨s.toArray⟩] w fun e w'=>e=.returned (.int .i64 (ofL L s))∧w'=w:=by
 have hI:=Tryz.slices_Index_string g o L.length c (L.map fun l=>(⟨l.toArray⟩:ByteArray)) ⟨s.toArray⟩ w (by simp) (by omega) (fun j hj=>by
  have hj':j<L.length:=by simpa using hj
  rw[hc j hj']
  simp[List.getD,hj'])
 rw[List.take_of_length_le (by simp),show Lib.idxOfS (L.map fun l=>(⟨l.toArray⟩:ByteArray)) ⟨s.toArray⟩=_ from idxFrom_list s L 0,Nat.zero_add]at hI
 clear hc
 unfold ofL
 by_cases h0:s=[]
 ·subst h0
  rw[if_pos rfl]
  obtain⟨k,hk⟩:∃k:Int,(if L.contains []=true then ((L.idxOf ([]:List UInt8):Nat):Int) else -1)=k:=⟨_,rfl⟩
  rw[hk]at hI
  have HI:=hid hI
  clear hI hk
  by_cases hp:0<k
  ·go_enter Tryz.func78,Tryz.ntmps78
   go_wp2_with (go_at_call 102;refine HI.out.mono ?_;rintro e w' ⟨rfl,rfl⟩)
   go_ret
   exact⟨rfl,rfl⟩
  ·go_enter Tryz.func78,Tryz.ntmps78
   go_wp2_with (go_at_call 102;refine HI.out.mono ?_;rintro e w' ⟨rfl,rfl⟩)
   go_ret
   exact⟨rfl,rfl⟩
 ·rw[if_neg h0]
  by_cases hh:L.contains s=true
  ·rw[if_pos hh]at hI ⊢
   obtain⟨k,hk⟩:∃k,L.idxOf s=k:=⟨_,rfl⟩
   rw[hk]at hI ⊢
   have HI:=hid hI
   clear hI hk hh
   by_cases hp:0<k
   ·have hpi:(0:Int)<k:=by omega
    have he:s.isEmpty=false:=by
     cases s with
     |nil=>exact absurd rfl h0
     |cons _ _=>rfl
    go_enter Tryz.func78,Tryz.ntmps78
    go_wp2_with (go_at_call 102;refine HI.out.mono ?_;rintro e w' ⟨rfl,rfl⟩)
    go_ret
    exact⟨rfl,rfl⟩
   ·have hpi:k=0:=by omega
    subst hpi
    go_enter Tryz.func78,Tryz.ntmps78
    go_wp2_with (go_at_call 102;refine HI.out.mono ?_;rintro e w' ⟨rfl,rfl⟩)
    go_ret
    exact⟨rfl,rfl⟩
  ·rw[if_neg hh]at hI ⊢
   have HI:=hid hI
   clear hI hh
   go_enter Tryz.func78,Tryz.ntmps78
   go_wp2_with (go_at_call 102;refine HI.out.mono ?_;rintro e w' ⟨rfl,rfl⟩)
   go_ret
   exact⟨rfl,rfl⟩
theorem wpList_appendV {P:Program}{w:World}{ops:Array Oper}{rest:List Oper}{o:Oper}{a:Act}{Q:Exit→Act→World→Prop}(hgd:o.guard=none)(s x:Operand)(t:TypeId)
  (ho:o.op=.call { callee:=.builtin .append,args:=#[s,x],argTypes:=#[t,t] }) (E:TypeId) (z:Value) (size bytes:Nat) (ht:P.underlying t=some (.slice E))
  (hinfo:(P.info? E).map (fun i=>(i.zero,i.size,i.bytes))=some (some z,size,bytes)) (hzs:z.cells.size=size) (hsz:0<size)
  (v:Value) (n:Nat) (xs:List Value) (hown:w.ownsRow 0 E size v n xs) (vb c:Nat) (news:List Value) (hl:news.length=size) (hv:w.heap[vb]?=some (.cells news.toArray E (0,0))) (h1:∀u∈news,u.oneCell'=true)
  (h63:n+1≤maxLen) (hbytes:(n+1) * bytes≤140737488355328) (hs:a.eval s=v) (hx:a.eval x=.slice (some ⟨vb,0,none⟩) 1 c)
  (h:∀v' w',w'.ownsRow 0 E size v' (n+1) (xs++news)→BA (fun b=>v.ownBlock=some b) w w'→(v'.ownBlock=v.ownBlock∨v'.ownBlock=some w.heap.size)→wpList P ops Q rest (a.put o.dst v') w'):
  wpList P ops Q (o::rest) a w:=by
 obtain⟨i0,hi,hz0,hz1,hz2⟩:∃i0,P.info? E=some i0∧i0.zero=some z∧i0.size=size∧i0.bytes=bytes:=by
  cases hi:P.info? E with
  |none=>rw[hi]at hinfo;cases hinfo
  | some i0=>
   rw[hi]at hinfo
   simp only[Option.map_some,Option.some.injEq,Prod.mk.injEq]at hinfo
   exact⟨i0,rfl,hinfo.1,hinfo.2.1,hinfo.2.2⟩
 obtain⟨v',w',e1,e2,e3,e4,e5⟩:=run_append_own_at (P:=P) w 0 t o.type E i0 z size bytes ht hi hz0 hz1 hz2 hzs hsz v n xs hown ⟨vb,0,none⟩ 1 c news (by rw[hl,Nat.one_mul])
  (fun j u hj=>by
   rw[add_off]
   exact BJ hv (by simpa using hj)) h1 h63 hbytes (Nat.zero_le _)
 refine wpList_plain hgd fun K hK=>?_
 unfold Oper.wp execOp
 simp only[ho,resolve,invoke,builtin,Sem.run_bind,Sem.run_pure,Result.andThen_ok,List.map_toArray,List.map_cons,List.map_nil,hs,hx,e1]
 exact hK _ _ (h v' w' e2 (BA.grown e3 fun k hk=>hk) e5)
abbrev TSm:TypeId:=58
abbrev TStg:TypeId:=9
mutual
def StAt (w:World)(S:Nat→Prop):List Value→St→Prop
 |vs,.mk k nm sz op val into cont xs thn els l c=>∃p1 c1 p2 c2 p3 c3,vs=[.int .i64 k,strV nm,.int .i64 sz,.int .i64 op,strV val,strV into,strV cont,.slice p1 xs.length c1,.slice p2 thn.length c2,.slice p3 els.length c3,.int .i64 l,.int .i64 c]∧CD w S p1 0 xs∧CJ w S p2 0 thn∧CJ w S p3 0 els
def CJ (w:World)(S:Nat→Prop)(p:Option Addr):Nat→List St→Prop
 |_,[]=>True
 |i,x::l=>(∃g o vs,p=some ⟨g,o,none⟩∧S g∧(∀j v,vs[j]?=some v→w.cell? ⟨g,o+i * 12+j,none⟩=some v)∧StAt w S vs x)∧CJ w S p (i+1) l
end
mutual
theorem StAt.keepS {w w':World}{S S':Nat→Prop}(hk:∀b o v,S b→w.cell? ⟨b,o,none⟩=some v→w'.cell? ⟨b,o,none⟩=some v∧S' b):∀{vs:List Value}{e:St},StAt w S vs e→StAt w' S' vs e
 | vs,.mk k nm sz op val into cont xs thn els l c,h=>by
  unfold StAt at h ⊢
  obtain⟨p1,c1,p2,c2,p3,c3,h1,h2,h3,h4⟩:=h
  exact⟨p1,c1,p2,c2,p3,c3,h1,CD.keepS hk h2,CJ.keepS hk h3,CJ.keepS hk h4⟩
theorem CJ.keepS {w w':World}{S S':Nat→Prop}(hk:∀b o v,S b→w.cell? ⟨b,o,none⟩=some v→w'.cell? ⟨b,o,none⟩=some v∧S' b):∀{p:Option Addr}{i:Nat}{l:List St},CJ w S p i l→CJ w' S' p i l
 |p,i,[],_=>by unfold CJ;trivial
 | p,i,x::l,h=>by
  unfold CJ at h ⊢
  obtain⟨⟨g,o,vs,h1,h2,h3,h4⟩,h5⟩:=h
  have hv:∃v,vs[0]?=some v:=by
   cases x with
   | mk k nm sz op val into cont xs thn els l c=>
    unfold StAt at h4
    obtain⟨p1,c1,p2,c2,p3,c3,h6,-⟩:=h4
    exact⟨_,by rw[h6];rfl⟩
  obtain⟨v0,hv0⟩:=hv
  exact⟨⟨g,o,vs,h1,(hk g _ _ h2 (h3 0 v0 hv0)).2,fun j v hj=>(hk g _ _ h2 (h3 j v hj)).1,StAt.keepS hk h4⟩,CJ.keepS hk h5⟩
end
theorem StAt.keep {E:Nat→Prop}{w w':World}{S:Nat→Prop}(k:BA E w w')(hE:∀b,S b→¬E b){vs:List Value}{e:St}(h:StAt w S vs e):StAt w' S vs e:=
 h.keepS fun b _ _ hb hc=>⟨k.cell hc (hE b hb),hb⟩
theorem StAt.inHeap {w:World}{S:Nat→Prop}{vs:List Value}{e:St}(h:StAt w S vs e):StAt w (fun b=>S b∧b<w.heap.size) vs e:=
 h.keepS fun _ _ _ hb hc=>⟨hc,hb,World.block_lt_of_cell? w _ hc⟩
theorem StAt.mono {w:World}{S S':Nat→Prop}(hS:∀b,S b→S' b){vs:List Value}{e:St}(h:StAt w S vs e):StAt w S' vs e:=
 h.keepS fun _ _ _ hb hc=>⟨hc,hS _ hb⟩
theorem CJ.keep {E:Nat→Prop}{w w':World}{S:Nat→Prop}(k:BA E w w')(hE:∀b,S b→¬E b){p:Option Addr}{i:Nat}{l:List St}(h:CJ w S p i l):CJ w' S p i l:=
 h.keepS fun b _ _ hb hc=>⟨k.cell hc (hE b hb),hb⟩
theorem CJ.mono {w:World}{S S':Nat→Prop}(hS:∀b,S b→S' b){p:Option Addr}{i:Nat}{l:List St}(h:CJ w S p i l):CJ w S' p i l:=
 h.keepS fun _ _ _ hb hc=>⟨hc,hS _ hb⟩
theorem st_form {w:World}{S:Nat→Prop}{vs:List Value}{x:St}(h:StAt w S vs x):∃a n b c s1 s2 s3 p1 m1 c1 p2 m2 c2 p3 m3 c3 l cl,vs=[.int .i64 a,.string n,.int .i64 b,.int .i64 c,.string s1,.string s2,.string s3,.slice p1 m1 c1,.slice p2 m2 c2,.slice p3 m3 c3,.int .i64 l,.int .i64 cl]:=by
 cases x with
 | mk k nm sz op val into cont xs thn els l c=>
  unfold StAt at h
  obtain⟨p1,c1,p2,c2,p3,c3,h1,-⟩:=h
  exact⟨_,_,_,_,_,_,_,_,_,_,_,_,_,_,_,_,_,_,h1⟩
section
variable {w : World}{B : Nat}{a b c d e f g h i j k l : Value}{T : TypeId}
theorem BH (hh:w.heap[B]?=some (.cells #[a,b,c,d,e,f,g,h,i,j,k,l] T (0,0))):
  w.cell? ⟨B,0,none⟩=some a∧w.cell? ⟨B,1,none⟩=some b∧w.cell? ⟨B,2,none⟩=some c∧w.cell? ⟨B,3,none⟩=some d∧w.cell? ⟨B,4,none⟩=some e∧w.cell? ⟨B,5,none⟩=some f∧w.cell? ⟨B,6,none⟩=some g∧w.cell? ⟨B,7,none⟩=some h∧w.cell? ⟨B,8,none⟩=some i∧w.cell? ⟨B,9,none⟩=some j∧w.cell? ⟨B,10,none⟩=some k∧w.cell? ⟨B,11,none⟩=some l:=by
 simp[World.cell?,hh]
theorem FC (hh:w.heap[B]?=some (.cells #[a,b,c,d,e,f,g,h,i,j,k,l] T (0,0)))(n:Nat):w.frozen? ⟨B,n,none⟩=false:=by simp[World.frozen?,hh]
theorem s_put0 (hh:w.heap[B]?=some (.cells #[a,b,c,d,e,f,g,h,i,j,k,l] T (0,0)))(v:Value):∃w',w'=w.setCell ⟨B,0,none⟩ v∧w'.heap[B]?=some (.cells #[v,b,c,d,e,f,g,h,i,j,k,l] T (0,0))∧BA (fun k=>k=B) w w':=by
 have h0:=put1 (i:=0) hh v
 simp only[List.setIfInBounds_toArray,List.set_cons_zero]at h0
 exact⟨_,rfl,h0,BA.setCell _ _ _ rfl⟩
theorem s_put1 (hh:w.heap[B]?=some (.cells #[a,b,c,d,e,f,g,h,i,j,k,l] T (0,0)))(v:Value):∃w',w'=w.setCell ⟨B,1,none⟩ v∧w'.heap[B]?=some (.cells #[a,v,c,d,e,f,g,h,i,j,k,l] T (0,0))∧BA (fun k=>k=B) w w':=by
 have h0:=put1 (i:=1) hh v
 simp only[LS]at h0
 exact⟨_,rfl,h0,BA.setCell _ _ _ rfl⟩
theorem s_put2 (hh:w.heap[B]?=some (.cells #[a,b,c,d,e,f,g,h,i,j,k,l] T (0,0)))(v:Value):∃w',w'=w.setCell ⟨B,2,none⟩ v∧w'.heap[B]?=some (.cells #[a,b,v,d,e,f,g,h,i,j,k,l] T (0,0))∧BA (fun k=>k=B) w w':=by
 have h0:=put1 (i:=2) hh v
 simp only[LS]at h0
 exact⟨_,rfl,h0,BA.setCell _ _ _ rfl⟩
theorem s_put3 (hh:w.heap[B]?=some (.cells #[a,b,c,d,e,f,g,h,i,j,k,l] T (0,0)))(v:Value):∃w',w'=w.setCell ⟨B,3,none⟩ v∧w'.heap[B]?=some (.cells #[a,b,c,v,e,f,g,h,i,j,k,l] T (0,0))∧BA (fun k=>k=B) w w':=by
 have h0:=put1 (i:=3) hh v
 simp only[LS]at h0
 exact⟨_,rfl,h0,BA.setCell _ _ _ rfl⟩
theorem s_put4 (hh:w.heap[B]?=some (.cells #[a,b,c,d,e,f,g,h,i,j,k,l] T (0,0)))(v:Value):∃w',w'=w.setCell ⟨B,4,none⟩ v∧w'.heap[B]?=some (.cells #[a,b,c,d,v,f,g,h,i,j,k,l] T (0,0))∧BA (fun k=>k=B) w w':=by
 have h0:=put1 (i:=4) hh v
 simp only[LS]at h0
 exact⟨_,rfl,h0,BA.setCell _ _ _ rfl⟩
theorem s_put5 (hh:w.heap[B]?=some (.cells #[a,b,c,d,e,f,g,h,i,j,k,l] T (0,0)))(v:Value):∃w',w'=w.setCell ⟨B,5,none⟩ v∧w'.heap[B]?=some (.cells #[a,b,c,d,e,v,g,h,i,j,k,l] T (0,0))∧BA (fun k=>k=B) w w':=by
 have h0:=put1 (i:=5) hh v
 simp only[LS]at h0
 exact⟨_,rfl,h0,BA.setCell _ _ _ rfl⟩
theorem s_put6 (hh:w.heap[B]?=some (.cells #[a,b,c,d,e,f,g,h,i,j,k,l] T (0,0)))(v:Value):∃w',w'=w.setCell ⟨B,6,none⟩ v∧w'.heap[B]?=some (.cells #[a,b,c,d,e,f,v,h,i,j,k,l] T (0,0))∧BA (fun k=>k=B) w w':=by
 have h0:=put1 (i:=6) hh v
 simp only[LS]at h0
 exact⟨_,rfl,h0,BA.setCell _ _ _ rfl⟩
theorem s_put7 (hh:w.heap[B]?=some (.cells #[a,b,c,d,e,f,g,h,i,j,k,l] T (0,0)))(v:Value):∃w',w'=w.setCell ⟨B,7,none⟩ v∧w'.heap[B]?=some (.cells #[a,b,c,d,e,f,g,v,i,j,k,l] T (0,0))∧BA (fun k=>k=B) w w':=by
 have h0:=put1 (i:=7) hh v
 simp only[LS]at h0
 exact⟨_,rfl,h0,BA.setCell _ _ _ rfl⟩
theorem s_put8 (hh:w.heap[B]?=some (.cells #[a,b,c,d,e,f,g,h,i,j,k,l] T (0,0)))(v:Value):∃w',w'=w.setCell ⟨B,8,none⟩ v∧w'.heap[B]?=some (.cells #[a,b,c,d,e,f,g,h,v,j,k,l] T (0,0))∧BA (fun k=>k=B) w w':=by
 have h0:=put1 (i:=8) hh v
 simp only[LS]at h0
 exact⟨_,rfl,h0,BA.setCell _ _ _ rfl⟩
theorem s_put9 (hh:w.heap[B]?=some (.cells #[a,b,c,d,e,f,g,h,i,j,k,l] T (0,0)))(v:Value):∃w',w'=w.setCell ⟨B,9,none⟩ v∧w'.heap[B]?=some (.cells #[a,b,c,d,e,f,g,h,i,v,k,l] T (0,0))∧BA (fun k=>k=B) w w':=by
 have h0:=put1 (i:=9) hh v
 simp only[LS]at h0
 exact⟨_,rfl,h0,BA.setCell _ _ _ rfl⟩
theorem s_put10 (hh:w.heap[B]?=some (.cells #[a,b,c,d,e,f,g,h,i,j,k,l] T (0,0)))(v:Value):∃w',w'=w.setCell ⟨B,10,none⟩ v∧w'.heap[B]?=some (.cells #[a,b,c,d,e,f,g,h,i,j,v,l] T (0,0))∧BA (fun k=>k=B) w w':=by
 have h0:=put1 (i:=10) hh v
 simp only[LS]at h0
 exact⟨_,rfl,h0,BA.setCell _ _ _ rfl⟩
theorem s_put11 (hh:w.heap[B]?=some (.cells #[a,b,c,d,e,f,g,h,i,j,k,l] T (0,0)))(v:Value):∃w',w'=w.setCell ⟨B,11,none⟩ v∧w'.heap[B]?=some (.cells #[a,b,c,d,e,f,g,h,i,j,k,v] T (0,0))∧BA (fun k=>k=B) w w':=by
 have h0:=put1 (i:=11) hh v
 simp only[LS]at h0
 exact⟨_,rfl,h0,BA.setCell _ _ _ rfl⟩
end
theorem must_new {w:World}{R:Nat}{its:List Item}{el ec:Nat}(h:BE w R its el ec)(L:List (List UInt8))(hl:L.length≤1000)(r:List Item)(hm:CY L its=some r):
  Calls Tryz.prog 76 #[rdV R,.slice (some ⟨w.heap.size,0,none⟩) L.length L.length] (w.alloc (.cells (L.map strV).toArray TStg)) fun e w'=>e=.returned (.tuple #[])∧BE w' R r el ec∧BA (fun b=>b=R) w w':=by
 have hk:=BA.alloc (fun _=>False) w (.cells (L.map strV).toArray TStg)
 have hR:=h.lt
 refine(must_any (w.alloc (.cells (L.map strV).toArray TStg)) R its el ec (h.keep hk fun _ _ e=>e) (some ⟨w.heap.size,0,none⟩) L.length L (fun i hi=>⟨w.heap.size,0,rfl,?_⟩) (fun a ha=>by cases ha;show w.heap.size≠R;omega) hl r hm).mono ?_
 ·rw[Nat.zero_add]
  exact BJ (heap_alloc_new w _) (by simp[strV,hi])
 ·rintro e w' ⟨rfl,h1,h2⟩
  exact⟨rfl,h1,(hk.mono fun _ e=>e.elim).trans h2⟩
theorem must1 {w:World}{R:Nat}{its:List Item}{el ec:Nat}(h:BE w R its el ec)(s:List UInt8)(r:List Item)(hm:CY [s] its=some r):
  Calls Tryz.prog 76 #[rdV R,.slice (some ⟨w.heap.size,0,none⟩) 1 1] (w.alloc (.cells #[.string ⟨s.toArray⟩] TStg)) fun e w'=>e=.returned (.tuple #[])∧BE w' R r el ec∧BA (fun b=>b=R) w w':=must_new h [s] (by simp) r hm
theorem must2 {w:World}{R:Nat}{its:List Item}{el ec:Nat}(h:BE w R its el ec)(s t:List UInt8)(r:List Item)(hm:CY [s,t] its=some r):
  Calls Tryz.prog 76 #[rdV R,.slice (some ⟨w.heap.size,0,none⟩) 2 2] (w.alloc (.cells #[.string ⟨s.toArray⟩,.string ⟨t.toArray⟩] TStg)) fun e w'=>e=.returned (.tuple #[])∧BE w' R r el ec∧BA (fun b=>b=R) w w':=must_new h [s,t] (by simp) r hm
theorem name_str {w:World}{R:Nat}{t:Item}{r:List Item}{el ec:Nat}(h:BE w R (t::r) el ec)(hk:t.tok.kind=2):
  Calls Tryz.prog 79 #[rdV R] w fun e w'=>e=.returned (.string ⟨t.tok.text.toArray⟩)∧BE w' R r el ec∧BA (fun b=>b=R) w w':=name_any w R t r el ec h hk
theorem peek_cons {w:World}{R:Nat}{t:Item}{r:List Item}{el ec:Nat}(h:BE w R (t::r) el ec):
  Calls Tryz.prog 74 #[rdV R] w fun e w'=>e=.returned (.agg #[.int .i64 t.tok.kind,.string ⟨t.tok.text.toArray⟩,.int .i64 t.tok.num,.int .i64 t.line,.int .i64 t.col])∧BA (fun _=>False) w w':=peek_any w R (t::r) el ec h
theorem want_cons {w:World}{R:Nat}{t:Item}{r:List Item}{el ec:Nat}(h:BE w R (t::r) el ec)(k:Int)(hk:(t.tok.kind:Int)=k):
  Calls Tryz.prog 77 #[rdV R,.int .i64 k] w fun e w'=>e=.returned (.agg #[.int .i64 t.tok.kind,.string ⟨t.tok.text.toArray⟩,.int .i64 t.tok.num,.int .i64 t.line,.int .i64 t.col])∧BE w' R r el ec∧BA (fun b=>b=R) w w':=want_any w R t r el ec h k hk
abbrev DJ (b:List Item)(el ec:Nat):List PanicEntry:=fltC 9 (lineOf b el) (colOf b ec)
theorem peekV_at (its:List Item)(el ec:Nat):∃k n S,peekV its el ec=.agg #[.int .i64 k,.string S,.int .i64 n,.int .i64 (lineOf its el),.int .i64 (colOf its ec)]∧(k:Int)=FE its:=by
 cases its with
 |nil=>exact⟨0,0,_,rfl,rfl⟩
 |cons t r=>exact⟨t.tok.kind,t.tok.num,_,rfl,rfl⟩
theorem bad_at {w:World}{R:Nat}{its:List Item}{el ec:Nat}(h:BE w R its el ec):
  Calls Tryz.prog 33 #[rdV R] w fun e w'=>e=.panicked (DJ its el ec)∧BA (fun b=>b=R) w w':=by
 obtain⟨k,n,S,hp,-⟩:=peekV_at its el ec
 exact(bad_any w R its el ec h k n _ _ S hp).mono fun e w' h=>⟨h.1,h.2.mono fun _ e=>e.elim⟩
theorem want_at {w:World}{R:Nat}{its:List Item}{el ec k:Nat}{b:List Item}(h:BE w R its el ec)(hk:0<k)(hb:FB k its=.bad b):
  Calls Tryz.prog 77 #[rdV R,.int .i64 k] w fun e w'=>e=.panicked (DJ b el ec)∧BA (fun b=>b=R) w w':=by
 obtain⟨q,n,S,hp,hq⟩:=peekV_at its el ec
 have e:b=its∧FE its≠k:=by
  unfold FB at hb
  cases its with
  |nil=>cases hb;exact⟨rfl,fun e=>by have e:0=k:=e;omega⟩
  | cons t r=>
   dsimp only at hb
   split at hb
   ·cases hb
   ·rename_i h9
    cases hb
    exact⟨rfl,h9⟩
 obtain⟨rfl,hne⟩:=e
 exact(want_bad w R b el ec h q n _ _ S hp k (by omega)).mono fun e w' h=>⟨h.1,h.2.mono fun _ e=>e.elim⟩
theorem name_at {w:World}{R:Nat}{its:List Item}{el ec:Nat}{b:List Item}(h:BE w R its el ec)(hb:FB 2 its=.bad b):
  Calls Tryz.prog 79 #[rdV R] w fun e w'=>e=.panicked (DJ b el ec)∧BA (fun b=>b=R) w w':=by
 obtain⟨q,n,S,hp,hq⟩:=peekV_at its el ec
 have e:b=its∧FE its≠2:=by
  unfold FB at hb
  cases its with
  |nil=>cases hb;exact⟨rfl,by decide⟩
  | cons t r=>
   dsimp only at hb
   split at hb
   ·cases hb
   ·rename_i h9
    cases hb
    exact⟨rfl,h9⟩
 obtain⟨rfl,hne⟩:=e
 exact(name_bad w R b el ec h q n _ _ S hp (by omega)).mono fun e w' h=>⟨h.1,h.2.mono fun _ e=>e.elim⟩
theorem FP {k:Nat}{ts r:List Item}{t:Item}(h:FB k ts=.ok t r):ts=t::r∧t.tok.kind=k:=by
 unfold FB at h
 cases ts with
 |nil=>cases h
 | cons u l=>
  dsimp only at h
  split at h
  ·rename_i hk;cases h;exact⟨rfl,hk⟩
  ·cases h
theorem name_ok {w:World}{R:Nat}{its r:List Item}{t:Item}{el ec:Nat}(h:BE w R its el ec)(hb:FB 2 its=.ok t r):
  Calls Tryz.prog 79 #[rdV R] w fun e w'=>e=.returned (.string ⟨t.tok.text.toArray⟩)∧BE w' R r el ec∧BA (fun b=>b=R) w w':=by
 obtain⟨rfl,hk⟩:=FP hb
 exact name_str h hk
theorem want_ok {w:World}{R k:Nat}{its r:List Item}{t:Item}{el ec:Nat}(h:BE w R its el ec)(hb:FB k its=.ok t r):
  Calls Tryz.prog 77 #[rdV R,.int .i64 k] w fun e w'=>e=.returned (.agg #[.int .i64 t.tok.kind,.string ⟨t.tok.text.toArray⟩,.int .i64 t.tok.num,.int .i64 t.line,.int .i64 t.col])∧BE w' R r el ec∧BA (fun b=>b=R) w w':=by
 obtain⟨rfl,hk⟩:=FP hb
 exact want_cons h k (by omega)
theorem must_bad (w:World)(R:Nat)(its:List Item)(el ec:Nat)(h:BE w R its el ec)(p:Option Addr)(c:Nat)(L:List (List UInt8))(hp:RowS w p L)(hpR:∀a,p=some a→a.block≠R)(hl:L.length≤1000)(b:List Item)(hm:CF L its=.bad b):
  Calls Tryz.prog 76 #[rdV R,.slice p L.length c] w fun e w'=>e=.panicked (DJ b el ec)∧BA (fun b=>b=R) w w':=by
 have HR:=hid h;have HP:=hid hp;have HPR:=hid hpR;have HM:=hid hm
 obtain⟨FL,hFL⟩:∃FL:List PanicEntry,FL=DJ b el ec:=⟨_,rfl⟩
 rw[←hFL]
 have HFL:=hid hFL
 clear h hp hpR hm hFL
 go_enter Tryz.func76,Tryz.ntmps76
 go_wp2_with fail
 go_loopw [8] (fun v8 wr=>∃(i:Nat) (its':List Item),v8=.int .i64 i∧i≤L.length∧CF (L.drop i) its'=.bad b∧BE wr R its' el ec∧BA (fun b=>b=R) w wr) (fun v _=>L.length - (intOf v).toNat)
 case atStart=>exact⟨0,its,rfl,Nat.zero_le _,HM.out,HR.out,BA.refl _ _⟩
 case round=>
  obtain⟨i,its',rfl,hi,hm,hr,hk⟩:=hrel
  have HM:=hid hm;have HR:=hid hr;have HK:=hid hk
  by_cases hlt:i<L.length
  ·have hlti:(i:Int)<L.length:=by omega
   have hi0:(0:Int)≤i:=by omega
   have hWi:IntKind.i64.wrap ((i:Int)+1)=(i:Int)+1:=IntWalk.i64_in _ (by omega)
   obtain⟨g,o,hp,hc⟩:=HP.out.keep hk HPR.out i hlt
   have HMY:=hid (CC wr R its' el ec hr L[i])
   subst hp
   rw[List.drop_eq_getElem_cons hlt]at hm
   obtain⟨s,hs⟩:∃s,L[i]=s:=⟨_,rfl⟩
   rw[hs]at hm hc HMY
   unfold CF at hm
   cases hh:BI its' s with
   | false=>
    rw[hh,if_neg NT]at hm
    rw[hh,if_neg NT]at HMY
    have e:its'=b:=by cases hm;rfl
    subst e
    clear hm hr hk hs hh
    go_wp2_with fail
    go_at_call 101
    refine HMY.out.mono ?_
    rintro e w1 ⟨rfl,hr,hk⟩
    have HB:=hid (bad_at hr)
    rw[←HFL.out]at HB
    have HK2:=hid (HK.out.trans hk)
    clear hr hk
    go_wp2_with fail
    go_at_call 33
    refine HB.out.mono ?_
    rintro e w2 ⟨rfl,hk⟩
    have HK3:=hid (HK2.out.trans hk)
    clear hk
    go_wp2_with fail
    exact⟨rfl,rfl,HK3.out⟩
   | true=>
    rw[hh]at hm HMY
    have HM2:=hid hm
    clear hm hr hk hs hh
    go_wp2_with (go_at_call 101;refine HMY.out.mono ?_;rintro e w1 ⟨rfl,hr,hk⟩;have HR2:=hid hr;have HK2:=hid hk;clear hr hk)
    exact⟨⟨i+1,its'.tail,by simp,by omega,HM2.out,HR2.out,HK.out.trans HK2.out⟩,by simp only[intOf];omega⟩
  ·exfalso
   have e:i=L.length:=by omega
   rw[e,List.drop_length]at hm
   unfold CF at hm
   cases hm
theorem must_newB {w:World}{R:Nat}{its:List Item}{el ec:Nat}(h:BE w R its el ec)(L:List (List UInt8))(hl:L.length≤1000)(b:List Item)(hm:CF L its=.bad b):
  Calls Tryz.prog 76 #[rdV R,.slice (some ⟨w.heap.size,0,none⟩) L.length L.length] (w.alloc (.cells (L.map strV).toArray TStg)) fun e w'=>e=.panicked (DJ b el ec)∧BA (fun b=>b=R) w w':=by
 have hk:=BA.alloc (fun _=>False) w (.cells (L.map strV).toArray TStg)
 have hR:=h.lt
 refine(must_bad (w.alloc (.cells (L.map strV).toArray TStg)) R its el ec (h.keep hk fun _ _ e=>e) (some ⟨w.heap.size,0,none⟩) L.length L (fun i hi=>⟨w.heap.size,0,rfl,?_⟩) (fun a ha=>by cases ha;show w.heap.size≠R;omega) hl b hm).mono ?_
 ·rw[Nat.zero_add]
  exact BJ (heap_alloc_new w _) (by simp[strV,hi])
 ·rintro e w' ⟨rfl,h2⟩
  exact⟨rfl,(hk.mono fun _ e=>e.elim).trans h2⟩
theorem must1b {w:World}{R:Nat}{its:List Item}{el ec:Nat}(h:BE w R its el ec)(s:List UInt8)(b:List Item)(hm:CF [s] its=.bad b):
  Calls Tryz.prog 76 #[rdV R,.slice (some ⟨w.heap.size,0,none⟩) 1 1] (w.alloc (.cells #[.string ⟨s.toArray⟩] TStg)) fun e w'=>e=.panicked (DJ b el ec)∧BA (fun b=>b=R) w w':=must_newB h [s] (by simp) b hm
theorem must2b {w:World}{R:Nat}{its:List Item}{el ec:Nat}(h:BE w R its el ec)(s t:List UInt8)(b:List Item)(hm:CF [s,t] its=.bad b):
  Calls Tryz.prog 76 #[rdV R,.slice (some ⟨w.heap.size,0,none⟩) 2 2] (w.alloc (.cells #[.string ⟨s.toArray⟩,.string ⟨t.toArray⟩] TStg)) fun e w'=>e=.panicked (DJ b el ec)∧BA (fun b=>b=R) w w':=must_newB h [s,t] (by simp) b hm
theorem must1o {w:World}{R:Nat}{its:List Item}{el ec:Nat}(h:BE w R its el ec)(s:List UInt8)(r:List Item)(hm:CF [s] its=.ok () r):
  Calls Tryz.prog 76 #[rdV R,.slice (some ⟨w.heap.size,0,none⟩) 1 1] (w.alloc (.cells #[.string ⟨s.toArray⟩] TStg)) fun e w'=>e=.returned (.tuple #[])∧BE w' R r el ec∧BA (fun b=>b=R) w w':=must1 h s r (DI hm)
def Faults (g:Nat)(args:Array Value)(F:List Item→Option (List Item))(w0:World)(R el ec:Nat):Prop:=
 ∀w its b,BA (fun b=>b=R) w0 w→BE w R its el ec→F its=some b→Calls Tryz.prog g args w fun e w'=>e=.panicked (DJ b el ec)∧BA (fun b=>b=R) w w'
def GG (F:List Item→Option (List Item))(R el ec:Nat):Prop:=∀w0,Faults 32 #[rdV R] F w0 R el ec
theorem exO_ok {f:Nat}{F:List Item→Option (List Item)}{its r:List Item}{x:Ex}(h:exO f F its=.ok x r):exP f its=some (x,r):=by
 unfold exO at h
 split at h
 ·rename_i e;cases h;exact e
 ·split at h<;>cases h
theorem exO_bad {f:Nat}{F:List Item→Option (List Item)}{its b:List Item}(h:exO f F its=.bad b):F its=some b:=by
 unfold exO at h
 split at h
 ·cases h
 ·split at h
  ·rename_i e;cases h;exact e
  ·cases h
theorem expr_ok {w:World}{R f:Nat}{F:List Item→Option (List Item)}{its r:List Item}{x:Ex}{el ec:Nat}(h:BE w R its el ec)(hx:exO f F its=.ok x r):
  Calls Tryz.prog 32 #[rdV R] w fun e w'=>∃vs,e=.returned (.agg vs.toArray)∧ExAt w' (fun b=>w.heap.size≤b) vs x∧BE w' R r el ec∧BA (fun b=>b=R) w w':=
 exP_reads R el ec f w w its x r (BA.refl _ _) h (exO_ok hx)
theorem expr_bad {w:World}{R f:Nat}{F:List Item→Option (List Item)}{its b:List Item}{el ec:Nat}(hF:GG F R el ec)(h:BE w R its el ec)(hx:exO f F its=.bad b):
  Calls Tryz.prog 32 #[rdV R] w fun e w'=>e=.panicked (DJ b el ec)∧BA (fun b=>b=R) w w':=
 hF w w its b (BA.refl _ _) h (exO_bad hx)
end Go.Proofs.YtomlffobbkcmdaaGreatDoor
