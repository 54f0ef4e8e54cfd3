import Derived.Test.YtknnmidnodeanaaGreatDoorJu5
namespace Go.Proofs.YtknnmidnodeanaaGreatDoor.OwnX
open Go Go.RowKit Own
def Fr (ops:Array Oper)(a0 a:Act):Prop:=a.defers=a0.defers∧∀t:Tmp,(∀(i:Nat) o,ops[i]?=some o→o.dst≠some t)→a.tmps[t]?=a0.tmps[t]?
theorem Fr.slot {l:List Oper}{a0 a:Act}(h:Fr l.toArray a0 a)(t:Tmp)(hb:(l.all fun o=>o.dst != some t)=true):a.tmps[t]?=a0.tmps[t]?:=
 h.2 t fun i o ho e=>by
  have h1:o∈l:=List.mem_of_getElem? (by simpa using ho);have h2:=List.all_eq_true.1 hb o h1;rw[e]at h2;simp at h2
def XX (X:List PanicEntry→World→Prop):Exit→Act→World→Prop:=fun e _ w=>∃ch,e=.panic ch∧X ch w
section
variable (P : Program)(ops : Array Oper)(w0 : World)(M : Nat→Prop)(X : List PanicEntry→World→Prop)
structure CU (o:Oper)(a:Act)(s:Loud)(av ea:List Nat)(F:Nat→World→Prop)(Fp:Nat→Nat→Prop):Prop where
 some:∃g,s.ok (BM o a) g
 stable:∀g,s.ok (BM o a) g→DT w0 M (s.fp (BM o a) g) (s.post (BM o a) g)
 runs:∀w,BA M w0 w→(∀j∈av,F j w∧∀b,Fp j b→b<w.heap.size∧(w0.heap.size≤b∨M b))→
  (∀j∈av,∀k∈av,j≠k→∀b,Fp j b→¬Fp k b)→
  o.wp P a w (fun a' w'=>∃g,s.ok (BM o a) g∧a'=a.put o.dst (s.val (BM o a) g)∧BA (fun b=>∃j∈ea,Fp j b) w w'∧
   (∀b,s.fp (BM o a) g b→(w.heap.size≤b∨∃j∈ea,Fp j b)∧b<w'.heap.size)∧s.post (BM o a) g w') (XX X)
def LexD (sp:Nat→Option Loud)(av ea:Nat→List Nat)(Fin:Act→(Nat→World→Prop)→(Nat→Nat→Prop)→Prop):
  List Oper→Nat→Act→(Nat→World→Prop)→(Nat→Nat→Prop)→Prop
 |[],_,a,F,Fp=>Fin a F Fp
 | o::rest,i,a,F,Fp=>
  if Region.wanted o (yielded ops a.tmps)=true then
   match sp i with
   |none=>∃v,(∀w,BA M w0 w→Yields1 P (execOp a.eval o) w v)∧LexD sp av ea Fin rest (i+1) (a.put o.dst v) F Fp
   | some s=>CU P w0 M X o a s (av i) (ea i) F Fp∧
     ∀g,s.ok (BM o a) g→LexD sp av ea Fin rest (i+1) (a.put o.dst (s.val (BM o a) g)) (upd F i (s.post (BM o a) g)) (upd Fp i (s.fp (BM o a) g))
  else LexD sp av ea Fin rest (i+1) (a.put o.dst undef) F Fp
end
theorem wp_transfer {P:Program}{o:Oper}{a A:Act}{w:World}{Q:Exit→Act→World→Prop}{K:Act→World→Prop}{ok:Gh→Prop}{mk:Gh→Value}{R:Gh→World→Prop}{X:List PanicEntry→World→Prop}
  (he:execOp a.eval o=execOp A.eval o) (hsz:a.tmps.size=A.tmps.size)
  (h:o.wp P A w (fun a' w'=>∃g,ok g∧a'=A.put o.dst (mk g)∧R g w') (XX X))
  (hX:∀ch w',X ch w'→Q (.panic ch) a w') (hK:∀g w',ok g→R g w'→K (a.put o.dst (mk g)) w'):o.wp P a w K Q:=by
 have key:∀v w',(∃g,ok g∧A.put o.dst v=A.put o.dst (mk g)∧R g w')→K (a.put o.dst v) w':=fun v w' ⟨g,h1,h2,h3⟩=>by
  rw[act_put_same a hsz h2];exact hK g w' h1 h3
 unfold Oper.wp at *;rw[he];generalize (execOp A.eval o).run P w=r at *
 cases r with
 | ok n w'=>
  cases n with
  |value v=>exact key v w' h
  |skip=>exact key undef w' h
  | defer d=>
   obtain⟨g,_,h2,_⟩:=h
   have:d::A.defers=A.defers:=by
    have h3:=congrArg Act.defers h2
    cases hd:o.dst<;>simp[hd,Act.put]at h3
   exact absurd this (List.cons_ne_self d A.defers)
  | enter f args=>
   exact Calls.mono h fun e w'' hh=>by
    cases e with
    |returned v=>exact key v w'' hh
    |panicked c=>obtain⟨ch,e1,e2⟩:=(hh:XX X (.panic c) A w'');cases e1;exact hX _ _ e2
    |outgrown=>obtain⟨_,_,ch,e1,_⟩:=(hh:LetsOut (XX X));cases e1
  |row r args=>exact Rows.mono h fun v w'' hh=>key v w'' hh
  |_=>exact(h:False).elim
 | halt x w'=>
  cases x<;>first|exact(h:False).elim|exact h.elim|(obtain⟨ch,e1,e2⟩:=(h:XX X (.panic _) A w');cases e1;exact hX _ _ e2)
section
variable (P : Program)(ops : Array Oper)(w0 : World)(M : Nat→Prop)(X : List PanicEntry→World→Prop)(sp : Nat→Option Loud)(a0 : Act)(F0 : Nat→World→Prop)(Fp0 : Nat→Nat→Prop)
def StageOk (av ea:Nat→List Nat)(c:Nat→Gh)(i:Nat):Prop:=
 ∀ o,ops[i]?=some o→Region.wanted o (yielded ops (BT P ops w0 M sp a0 c i).tmps)=true→
  match sp i with
  |none=>∃v,∀w,BA M w0 w→Yields1 P (execOp (BT P ops w0 M sp a0 c i).eval o) w v
  | some s=>CU P w0 M X o (BT P ops w0 M sp a0 c i) s (av i) (ea i)
    (pre i (BQ P ops w0 M sp a0 F0 c) F0) (pre i (BO P ops w0 M sp a0 Fp0 c) Fp0)
theorem lex_stages {av ea:Nat→List Nat}{Fin:Act→(Nat→World→Prop)→(Nat→Nat→Prop)→Prop}
  (hF:∀j,j<ops.size→F0 j=fun _=>True) (hFp:∀j,j<ops.size→Fp0 j=fun _=>False) (c:Nat→Gh):
  ∀ (l:List Oper) (i:Nat),(∀k,l[k]?=ops[i+k]?)→i≤ops.size→
   LexD P ops w0 M X sp av ea Fin l i (BT P ops w0 M sp a0 c i) (pre i (BQ P ops w0 M sp a0 F0 c) F0) (pre i (BO P ops w0 M sp a0 Fp0 c) Fp0)→
   (∀k,i≤k→k<ops.size→StageOk P ops w0 M X sp a0 F0 Fp0 av ea c k)∧
   Fin (BT P ops w0 M sp a0 c ops.size) (BQ P ops w0 M sp a0 F0 c) (BO P ops w0 M sp a0 Fp0 c):=by
 intro l
 induction l with
 | nil=>
  intro i hl hi h
  have hn:i=ops.size:=by
   have h0:=hl 0
   have:ops.size≤i:=by
    rcases Nat.lt_or_ge i ops.size with h' | h'
    ·rw[Nat.add_zero,Array.getElem?_eq_getElem h']at h0;simp at h0
    ·exact h'
   omega
  subst hn;refine⟨fun k h1 h2=>by omega,?_⟩
  have e1:pre ops.size (BQ P ops w0 M sp a0 F0 c) F0=BQ P ops w0 M sp a0 F0 c:=by
   funext j
   by_cases hj:j<ops.size
   ·rw[pre_lt _ _ hj]
   ·rw[pre_ge _ _ hj];unfold BQ;rw[Array.getElem?_eq_none (by omega)]
  have e2:pre ops.size (BO P ops w0 M sp a0 Fp0 c) Fp0=BO P ops w0 M sp a0 Fp0 c:=by
   funext j
   by_cases hj:j<ops.size
   ·rw[pre_lt _ _ hj]
   ·rw[pre_ge _ _ hj];unfold BO;rw[Array.getElem?_eq_none (by omega)]
  simp only[LexD]at h;rw[e1,e2]at h;exact h
 | cons o rest ih=>
  intro i hl hi h;have ho:ops[i]?=some o:=by simpa using (hl 0).symm
  have hin:=CR ho;have hl':∀k,rest[k]?=ops[i+1+k]?:=fun k=>by have:=hl (k+1);simpa [Nat.add_assoc,Nat.add_comm 1 k]using this
  have hact:BT P ops w0 M sp a0 c (i+1)=(BT P ops w0 M sp a0 c i).put o.dst (DF P ops w0 M sp a0 c i o):=by
   rw[BT];simp only[ho];rfl
  have f1:∀x,BQ P ops w0 M sp a0 F0 c i=x→upd (pre i (BQ P ops w0 M sp a0 F0 c) F0) i x=(pre (i+1) (BQ P ops w0 M sp a0 F0 c) F0):=fun x hx=>upd_pre _ _ _ _ hx;have f2:∀x,BO P ops w0 M sp a0 Fp0 c i=x→upd (pre i (BO P ops w0 M sp a0 Fp0 c) Fp0) i x=(pre (i+1) (BO P ops w0 M sp a0 Fp0 c) Fp0):=fun x hx=>upd_pre _ _ _ _ hx;have g1:BQ P ops w0 M sp a0 F0 c i=(fun _=>True)→(pre i (BQ P ops w0 M sp a0 F0 c) F0)=(pre (i+1) (BQ P ops w0 M sp a0 F0 c) F0):=fun hx=>pre_succ _ _ _ (by rw[hx,hF i hin]);have g2:BO P ops w0 M sp a0 Fp0 c i=(fun _=>False)→(pre i (BO P ops w0 M sp a0 Fp0 c) Fp0)=(pre (i+1) (BO P ops w0 M sp a0 Fp0 c) Fp0):=fun hx=>pre_succ _ _ _ (by rw[hx,hFp i hin])
  have fin:∀st:StageOk P ops w0 M X sp a0 F0 Fp0 av ea c i,
    LexD P ops w0 M X sp av ea Fin rest (i+1) (BT P ops w0 M sp a0 c (i+1)) (pre (i+1) (BQ P ops w0 M sp a0 F0 c) F0) (pre (i+1) (BO P ops w0 M sp a0 Fp0 c) Fp0)→
    (∀k,i≤k→k<ops.size→StageOk P ops w0 M X sp a0 F0 Fp0 av ea c k)∧Fin (BT P ops w0 M sp a0 c ops.size) (BQ P ops w0 M sp a0 F0 c) (BO P ops w0 M sp a0 Fp0 c):=by
   intro st hlex;obtain⟨h1,h2⟩:=ih (i+1) hl' (by omega) hlex;refine⟨fun k hk1 hk2=>?_,h2⟩;by_cases hk:k=i
   ·subst hk;exact st
   ·exact h1 k (by omega) hk2
  rw[LexD]at h;by_cases hw:Region.wanted o (yielded ops (BT P ops w0 M sp a0 c i).tmps)=true
  ·rw[if_pos hw]at h
   cases hsp:sp i with
   | none=>
    rw[hsp]at h;obtain⟨v,hv,hlex⟩:=h
    have hval:DF P ops w0 M sp a0 c i o=v:=by
     unfold DF Own.valOf;rw[if_pos hw,hsp];have he:=Classical.epsilon_spec (p:=fun v=>∀w,BA M w0 w→Yields1 P (execOp (BT P ops w0 M sp a0 c i).eval o) w v) ⟨v,hv⟩;have h1:=he w0 (BA.refl _ _);have h2:=hv w0 (BA.refl _ _);rcases h1 with h1|⟨h1,e1⟩<;>rcases h2 with h2|⟨h2,e2⟩
     ·rw[h1]at h2;exact Next.value.inj (Result.ok.inj h2).1
     ·rw[h1]at h2;cases h2
     ·rw[h1]at h2;cases h2
     ·exact e1.trans e2.symm
    have fa:BQ P ops w0 M sp a0 F0 c i=fun _=>True:=by unfold BQ;simp only[ho,hw,if_true,hsp]
    have fo:BO P ops w0 M sp a0 Fp0 c i=fun _=>False:=by unfold BO;simp only[ho,hw,if_true,hsp]
    refine fin (fun o' ho' _=>?_) ?_
    ·rw[ho]at ho';cases ho';rw[hsp];exact⟨v,hv⟩
    ·rw[hact,hval,←g1 fa,←g2 fo];exact hlex
   | some s=>
    rw[hsp]at h;obtain⟨hloud,hlex⟩:=h;have hn:=normOf_ok hloud.some (c i)
    have hval:DF P ops w0 M sp a0 c i o=s.val (BM o (BT P ops w0 M sp a0 c i)) (normOf s (BM o (BT P ops w0 M sp a0 c i)) (c i)):=by
     unfold DF Own.valOf;rw[if_pos hw,hsp]
    have fa:BQ P ops w0 M sp a0 F0 c i=s.post (BM o (BT P ops w0 M sp a0 c i)) (normOf s (BM o (BT P ops w0 M sp a0 c i)) (c i)):=by
     unfold BQ;simp only[ho,hw,if_true,hsp]
    have fo:BO P ops w0 M sp a0 Fp0 c i=s.fp (BM o (BT P ops w0 M sp a0 c i)) (normOf s (BM o (BT P ops w0 M sp a0 c i)) (c i)):=by
     unfold BO;simp only[ho,hw,if_true,hsp]
    refine fin (fun o' ho' _=>?_) ?_
    ·rw[ho]at ho';cases ho';rw[hsp];exact hloud
    ·rw[hact,hval,←f1 _ fa,←f2 _ fo];exact hlex _ hn
  ·rw[if_neg hw]at h;have hval:DF P ops w0 M sp a0 c i o=undef:=by unfold DF Own.valOf;rw[if_neg hw]
   have fa:BQ P ops w0 M sp a0 F0 c i=fun _=>True:=by unfold BQ;simp only[ho];rw[if_neg hw]
   have fo:BO P ops w0 M sp a0 Fp0 c i=fun _=>False:=by unfold BO;simp only[ho];rw[if_neg hw]
   refine fin (fun o' ho' hw'=>?_) ?_
   ·rw[ho]at ho';cases ho';exact absurd hw' hw
   ·rw[hact,hval,←g1 fa,←g2 fo];exact h
variable {P ops w0 M X sp a0 F0 Fp0}
variable {D av ea : Nat→List Nat}{keep : List Nat}
theorem fact_stable (st:∀c k,k<ops.size→StageOk P ops w0 M X sp a0 F0 Fp0 av ea c k)(hV:∀j,ops.size≤j→DT w0 M (Fp0 j) (F0 j))(c:Nat→Gh)(j:Nat):
  DT w0 M (BO P ops w0 M sp a0 Fp0 c j) (BQ P ops w0 M sp a0 F0 c j):=by
 unfold BQ BO
 cases ho:ops[j]? with
 | none=>
  refine hV j ?_;rcases Nat.lt_or_ge j ops.size with h' | h'
  ·rw[Array.getElem?_eq_getElem h']at ho;cases ho
  ·exact h'
 | some o=>
  simp only[];by_cases hw:Region.wanted o (yielded ops (BT P ops w0 M sp a0 c j).tmps)=true
  ·rw[if_pos hw,if_pos hw];have h:=st c j (CR ho) o ho hw
   cases hs:sp j with
   |none=>exact fun _ _ _ _ _ _ _=>trivial
   | some l=>
    rw[hs]at h;exact h.stable _ (normOf_ok h.some (c j))
  ·rw[if_neg hw,if_neg hw];exact fun _ _ _ _ _ _ _=>trivial
theorem Mid_add {c:Nat→Gh}{L:Nat→Prop}{a:Act}{w:World}(m:Mid P ops w0 M sp a0 F0 Fp0 D ea c L a w)(K:OkP ops D av ea keep)(st:∀c k,k<ops.size→StageOk P ops w0 M X sp a0 F0 Fp0 av ea c k)(hV:∀j,ops.size≤j→DT w0 M (Fp0 j) (F0 j))
  {i:Nat}{o:Oper}(ho:ops[i]?=some o) (hL:¬L i) (hD:∀j∈D i,L j)
  {w':World}(hk:BA (fun b=>∃j∈ea i,BO P ops w0 M sp a0 Fp0 c j b) w w')
  (hf:BQ P ops w0 M sp a0 F0 c i w') (hb:∀b,BO P ops w0 M sp a0 Fp0 c i b→(w.heap.size≤b∨∃j∈ea i,BO P ops w0 M sp a0 Fp0 c j b)∧b<w'.heap.size):
  Mid P ops w0 M sp a0 F0 Fp0 D ea c (fun j=>L j∨j=i) (a.put o.dst (DF P ops w0 M sp a0 c i o)) w':=by
 have hin:=CR ho
 have hea:∀j∈ea i,(j<ops.size→L j)∧∀k,k<ops.size→L k→j∉ea k:=fun j hj=>by
  refine⟨fun hjn=>?_,fun k hkn hLk=>?_⟩
  ·rcases K.avIn i hin j (K.eaAv i hin j hj)with h|h
   ·exact hD j h
   ·omega
  ·exact K.eaOnce i hin j hj k hkn fun e=>hL (e▸hLk)
 have hold:BA M w0 w':=by
  refine⟨hk.os.trans m.keep.os,hk.tape.trans m.keep.tape,hk.output.trans m.keep.output,Nat.le_trans m.keep.size hk.size,fun k hks hM=>?_⟩;rw[hk.block k (Nat.lt_of_lt_of_le hks m.keep.size) ?_,m.keep.block k hks hM];rintro⟨j,hj,hfb⟩;obtain⟨h1,h2⟩:=hea j hj;rcases ((m.fact j h1 h2).2 k hfb).2 with h|h
  ·omega
  ·exact hM h
 have live:∀j,j≠i→(j<ops.size→L j∨j=i)→(∀k,k<ops.size→(L k∨k=i)→j∉ea k)→(j<ops.size→L j)∧(∀k,k<ops.size→L k→j∉ea k)∧j∉ea i:=
  fun j hji h1 h2=>⟨fun hjn=>(h1 hjn).resolve_right hji,fun k hkn hLk=>h2 k hkn (.inl hLk),h2 i hin (.inr rfl)⟩
 have same:∀j,(j<ops.size→L j)→(∀k,k<ops.size→L k→j∉ea k)→j∉ea i→∀b,BO P ops w0 M sp a0 Fp0 c j b→w'.heap[b]?=w.heap[b]?:=by
  intro j h1 h2 h3 b hfb;refine hk.block b ((m.fact j h1 h2).2 b hfb).1 ?_;rintro⟨e,he,hfe⟩;obtain⟨h4,h5⟩:=hea e he;exact m.apart e j h4 h1 h5 h2 (fun x=>h3 (x▸he)) b hfe hfb
 refine⟨hold,?_,?_,?_,?_,?_,?_,?_⟩
 ·intro k hkn hLk j hj;rcases hLk with h|h
  ·exact .inl (m.closed k hkn h j hj)
  ·subst h;exact .inl (hD j hj)
 ·rw[put_defers];exact m.defers
 ·rw[act_put_size];exact m.size
 ·intro k ok hok hLk d hd hs;by_cases hki:k=i
  ·subst hki;rw[ho]at hok;cases hok;rw[hd];exact act_put_at _ _ _ (by rw[m.size];exact hs)
  ·have hLk':=hLk.resolve_right hki;rw[act_put_other _ _ _ _ (K.slot i o ho k ok hok hki d hd).2];exact m.slot k ok hok hLk' d hd hs
 ·intro t ht;rw[act_put_other _ _ _ _ (ht i o ho (.inr rfl))];exact m.free t fun k ok hok hLk=>ht k ok hok (.inl hLk)
 ·intro j h1 h2;by_cases hji:j=i
  ·subst hji;refine⟨hf,fun b hfb=>⟨(hb b hfb).2,?_⟩⟩;rcases (hb b hfb).1 with h|⟨e,he,hfe⟩
   ·exact .inl (Nat.le_trans m.keep.size h)
   ·obtain⟨h4,h5⟩:=hea e he;exact((m.fact e h4 h5).2 b hfe).2
  ·obtain⟨h3,h4,h5⟩:=live j hji h1 h2;obtain⟨h6,h7⟩:=m.fact j h3 h4;refine⟨fact_stable st hV c j w w' m.keep hold hk.size (same j h3 h4 h5) h6,fun b hfb=>⟨Nat.lt_of_lt_of_le (h7 b hfb).1 hk.size,(h7 b hfb).2⟩⟩
 ·intro j k h1 h1' h2 h2' hjk b hfj hfk;by_cases hji:j=i
  ·have hki:k≠i:=fun e=>hjk (hji.trans e.symm);obtain⟨h3,h4,h5⟩:=live k hki h1' h2';rw[hji]at hfj;rcases (hb b hfj).1 with h|⟨e,he,hfe⟩
   ·have:=((m.fact k h3 h4).2 b hfk).1;omega
   ·obtain⟨h6,h7⟩:=hea e he;exact m.apart e k h6 h3 h7 h4 (fun x=>h5 (x▸he)) b hfe hfk
  ·obtain⟨h3,h4,h5⟩:=live j hji h1 h2;by_cases hki:k=i
   ·rw[hki]at hfk;rcases (hb b hfk).1 with h|⟨e,he,hfe⟩
    ·have:=((m.fact j h3 h4).2 b hfj).1;omega
    ·obtain⟨h6,h7⟩:=hea e he;exact m.apart e j h6 h3 h7 h4 (fun x=>h5 (x▸he)) b hfe hfj
   ·obtain⟨h3',h4',_⟩:=live k hki h1' h2';exact m.apart j k h3 h3' h4 h4' hjk b hfj hfk
theorem Mid_step {Q:Exit→Act→World→Prop}(hX:∀ch a w,Fr ops a0 a→X ch w→Q (.panic ch) a w){c:Nat→Gh}{L:Nat→Prop}{a:Act}{w:World}(m:Mid P ops w0 M sp a0 F0 Fp0 D ea c L a w)(K:OkP ops D av ea keep)(st:∀c k,k<ops.size→StageOk P ops w0 M X sp a0 F0 Fp0 av ea c k)(hV:∀j,ops.size≤j→DT w0 M (Fp0 j) (F0 j))
  {i:Nat}(hi:i<ops.size) (hL:¬L i) (hD:∀j∈D i,L j):
  wpOp P ops Q i (fun a' w'=>∃c',Mid P ops w0 M sp a0 F0 Fp0 D ea c' (fun j=>L j∨j=i) a' w') a w:=by
 obtain⟨o,ho⟩:∃o,ops[i]?=some o:=⟨_,Array.getElem?_eq_getElem hi⟩;have hlook:=m.looks K ho hL hD;have hex:=exec_of_slots (K.sel i o ho) hlook;have hwt:=wanted_of_slots hlook;have hsz:a.tmps.size=(BT P ops w0 M sp a0 c i).tmps.size:=by rw[m.size,actAt_size]
 have plain:BQ P ops w0 M sp a0 F0 c i=(fun _=>True)→BO P ops w0 M sp a0 Fp0 c i=(fun _=>False)→
   ∃c',Mid P ops w0 M sp a0 F0 Fp0 D ea c' (fun j=>L j∨j=i) (a.put o.dst (DF P ops w0 M sp a0 c i o)) w:=fun e1 e2=>
  ⟨c,Mid_add m K st hV ho hL hD (BA.refl _ _) (by rw[e1];trivial) (fun b hb=>by rw[e2]at hb;exact hb.elim)⟩
 unfold wpOp;simp only[ho];rw[hwt];by_cases hw:Region.wanted o (yielded ops (BT P ops w0 M sp a0 c i).tmps)=true
 ·rw[if_pos hw];refine .inl ?_;have h:=st c i hi o ho hw
  cases hs:sp i with
  | none=>
   rw[hs]at h;obtain⟨v,hv⟩:=h
   have hval:DF P ops w0 M sp a0 c i o=v:=by
    unfold DF Own.valOf;rw[if_pos hw,hs];have he:=Classical.epsilon_spec (p:=fun v=>∀w,BA M w0 w→Yields1 P (execOp (BT P ops w0 M sp a0 c i).eval o) w v) ⟨v,hv⟩;have h1:=he w m.keep;have h2:=hv w m.keep;rcases h1 with h1|⟨h1,e1⟩<;>rcases h2 with h2|⟨h2,e2⟩
    ·rw[h1]at h2;exact Next.value.inj (Result.ok.inj h2).1
    ·rw[h1]at h2;cases h2
    ·rw[h1]at h2;cases h2
    ·exact e1.trans e2.symm
   have fa:BQ P ops w0 M sp a0 F0 c i=fun _=>True:=by unfold BQ;simp only[ho,hw,if_true,hs]
   have fo:BO P ops w0 M sp a0 Fp0 c i=fun _=>False:=by unfold BO;simp only[ho,hw,if_true,hs]
   have hp:=plain fa fo;rw[hval]at hp;unfold Oper.wp;rw[hex];rcases hv w m.keep with h1|⟨h1,e1⟩
   ·rw[h1];exact hp
   ·rw[h1];rw[e1]at hp;exact hp
  | some l=>
   rw[hs]at h
   have hav:∀j∈av i,(j<ops.size→L j)∧∀k,k<ops.size→L k→j∉ea k:=fun j hj=>by
    refine⟨fun hjn=>?_,fun k hkn hLk hjk=>?_⟩
    ·rcases K.avIn i hi j hj with h|h
     ·exact hD j h
     ·omega
    ·rcases K.avEa i hi j hj k hkn hjk with h|h
     ·exact hL (h▸hLk)
     ·exact hL (m.closed k hkn hLk i h)
   have hfs:∀j∈av i,pre i (BQ P ops w0 M sp a0 F0 c) F0 j=BQ P ops w0 M sp a0 F0 c j∧pre i (BO P ops w0 M sp a0 Fp0 c) Fp0 j=BO P ops w0 M sp a0 Fp0 c j:=fun j hj=>by
    rcases K.avIn i hi j hj with h|h
    ·have:=K.lt i hi j h;exact⟨pre_lt _ _ this,pre_lt _ _ this⟩
    ·refine⟨?_,?_⟩
     ·rw[pre_ge _ _ (by omega)];unfold BQ;rw[Array.getElem?_eq_none h]
     ·rw[pre_ge _ _ (by omega)];unfold BO;rw[Array.getElem?_eq_none h]
   have hr:=h.runs w m.keep (fun j hj=>by rw[(hfs j hj).1,(hfs j hj).2];exact m.fact j (hav j hj).1 (hav j hj).2)
    (fun j hj k hk hjk b=>by rw[(hfs j hj).2,(hfs k hk).2];exact m.apart j k (hav j hj).1 (hav k hk).1 (hav j hj).2 (hav k hk).2 hjk b)
   refine wp_transfer hex hsz hr (fun ch w' h=>hX ch a w' ⟨m.defers,fun t ht=>m.free t fun i o h _=>ht i o h⟩ h) ?_;rintro g w' hok ⟨hk,hb,hpost⟩
   let c':Nat→Gh:=fun j=>if j=i then g else c j
   have hc:∀j,j≠i→c j=c' j:=fun j hj=>by simp[c',hj]
   have hci:c' i=g:=by simp[c']
   have hroad:BT P ops w0 M sp a0 c' i=BT P ops w0 M sp a0 c i:=by
    have:∀n,n≤i→BT P ops w0 M sp a0 c' n=BT P ops w0 M sp a0 c n:=by
     intro n
     induction n with
     |zero=>intro _;rfl
     | succ n ih=>
      intro hn;have h1:=ih (by omega);have h2:c' n=c n:=(hc n (by omega)).symm
      cases hon:ops[n]? with
      |none=>rw[BT,BT];simp only[hon];exact h1
      |some on=>rw[act_succ c' n on hon,act_succ c n on hon];unfold DF;rw[h1,h2]
    exact this i (Nat.le_refl _)
   have hval:DF P ops w0 M sp a0 c' i o=l.val (BM o (BT P ops w0 M sp a0 c i)) g:=by
    unfold DF Own.valOf;rw[hroad,if_pos hw,hs];simp only[];rw[hci,normOf_same hok]
   have fa:BQ P ops w0 M sp a0 F0 c' i=l.post (BM o (BT P ops w0 M sp a0 c i)) g:=by
    unfold BQ;rw[hroad];simp only[ho,hw,if_true,hs];rw[hci,normOf_same hok]
   have fo:BO P ops w0 M sp a0 Fp0 c' i=l.fp (BM o (BT P ops w0 M sp a0 c i)) g:=by
    unfold BO;rw[hroad];simp only[ho,hw,if_true,hs];rw[hci,normOf_same hok]
   have hfoot:∀j∈ea i,BO P ops w0 M sp a0 Fp0 c' j=pre i (BO P ops w0 M sp a0 Fp0 c) Fp0 j:=fun j hj=>by
    have hja:=K.eaAv i hi j hj;rw[(hfs j hja).2]
    have hji:j≠i:=fun e=>by
     rcases K.avIn i hi j hja with h|h
     ·have:=K.lt i hi j h;omega
     ·omega
    have hnd:j<ops.size→i∉D j:=fun hjn hd=>by
     rcases K.avIn i hi j hja with h|h
     ·have h1:=K.lt i hi j h;have h2:=K.lt j hjn i hd;omega
     ·omega
    exact(road_fact (P:=P) (w0:=w0) (M:=M) (sp:=sp) (a0:=a0) (F0:=F0) (Fp0:=Fp0) K c c' i hc j hji hnd).2.symm
   have m':=m.turn K hi hL hc;refine⟨c',?_⟩;rw[←hval];refine Mid_add m' K st hV ho hL hD ?_ ?_ ?_
   ·refine hk.mono ?_;rintro b ⟨j,hj,hfb⟩;exact⟨j,hj,by rw[hfoot j hj];exact hfb⟩
   ·rw[fa];exact hpost
   ·intro b hfb;rw[fo]at hfb;refine⟨?_,(hb b hfb).2⟩;rcases (hb b hfb).1 with h|⟨j,hj,hfj⟩
    ·exact .inl h
    ·exact .inr ⟨j,hj,by rw[hfoot j hj];exact hfj⟩
 ·rw[if_neg hw];have hval:DF P ops w0 M sp a0 c i o=undef:=by unfold DF Own.valOf;rw[if_neg hw]
  have fa:BQ P ops w0 M sp a0 F0 c i=fun _=>True:=by unfold BQ;simp only[ho];rw[if_neg hw]
  have fo:BO P ops w0 M sp a0 Fp0 c i=fun _=>False:=by unfold BO;simp only[ho];rw[if_neg hw]
  have hp:=plain fa fo;rw[hval]at hp;exact hp
theorem any_of_mid {Q:Exit→Act→World→Prop}(hX:∀ch a w,Fr ops a0 a→X ch w→Q (.panic ch) a w)(K:OkP ops D av ea keep)(G:EdgeP ops D)(st:∀c k,k<ops.size→StageOk P ops w0 M X sp a0 F0 Fp0 av ea c k)(hV:∀j,ops.size≤j→DT w0 M (Fp0 j) (F0 j))
  (fin:∀c,Done w0 M Q keep (BT P ops w0 M sp a0 c ops.size) (BQ P ops w0 M sp a0 F0 c) (BO P ops w0 M sp a0 Fp0 c)):
  ∀ (fuel:Nat) (listed:Array Bool) (a:Act) (w:World) (c:Nat→Gh),listed.size=ops.size→
   ((List.range ops.size).filter fun j=>listed.getD j true==false).length≤fuel→Mid P ops w0 M sp a0 F0 Fp0 D ea c (CP listed) a w→wpAny P .any ops Q fuel listed a w:=by
 have hready:∀(listed:Array Bool),listed.size=ops.size→∀i,i∈Region.ready .any ops listed→i<ops.size∧¬CP listed i∧∀o,ops[i]?=some o→∀e∈o.after,Region.binds .any e=true→CP listed e.on:=by
  intro listed hsz i hi;simp only[Region.ready,List.mem_filter,List.mem_range,Bool.and_eq_true,Bool.not_eq_true']at hi;refine⟨hi.1,fun h=>?_,fun o ho e he hb=>?_⟩
  ·unfold CP at h;rw[Array.getD_eq_getD_getElem?,h]at hi;simp at hi
  ·have h2:=hi.2.2;rw[ho]at h2;simp only[Option.map_some,Option.getD_some,Array.all_eq_true_iff_forall_mem]at h2;have:=h2 e he;rw[hb]at this;simp only[Bool.not_true,Bool.false_or,Array.getD_eq_getD_getElem?]at this;unfold CP
   cases hx:listed[e.on]? with
   |none=>rw[hx]at this;simp at this
   |some x=>rw[hx]at this;simp at this;rw[this]
 have hall:∀(listed:Array Bool),listed.size=ops.size→(∀i,i<ops.size→CP listed i→∀j∈D i,CP listed j)→Region.ready .any ops listed=[]→∀i,i<ops.size→CP listed i:=by
  intro listed hsz hcl hr i
  induction i using Nat.strongRecOn with
  | _ i ih=>
   intro hi;apply Classical.byContradiction;intro hn
   have:i∈Region.ready .any ops listed:=by
    simp only[Region.ready,List.mem_filter,List.mem_range,Bool.and_eq_true,Bool.not_eq_true'];refine⟨hi,?_,?_⟩
    ·unfold CP at hn;rw[Array.getD_eq_getD_getElem?,Array.getElem?_eq_getElem (by omega)];rw[Array.getElem?_eq_getElem (by omega)]at hn;simpa using hn
    ·rw[Array.getElem?_eq_getElem hi];simp only[Option.map_some,Option.getD_some,Array.all_eq_true_iff_forall_mem];intro e he
     cases hb:Region.binds .any e with
     |false=>rfl
     | true=>
      have hed:=G.edge i ops[i] (Array.getElem?_eq_getElem hi) e he hb;have hlt:=K.lt i hi e.on hed;have:=ih e.on hlt (by omega);unfold CP at this;simp[Array.getD_eq_getD_getElem?,this]
   rw[hr]at this
   cases this
 have hdeps:∀(listed:Array Bool),listed.size=ops.size→(∀i,i<ops.size→CP listed i→∀j∈D i,CP listed j)→∀i,i∈Region.ready .any ops listed→∀j∈D i,CP listed j:=by
  intro listed hsz hcl i hi j hj;obtain⟨hin,_,he⟩:=hready listed hsz i hi;obtain⟨e,hem,hb,h⟩:=G.reach i ops[i] (Array.getElem?_eq_getElem hin) j hj;have hon:=he ops[i] (Array.getElem?_eq_getElem hin) e hem hb;rcases h with h|h
  ·exact h▸hon
  ·have:=K.lt i hin e.on (G.edge i ops[i] (Array.getElem?_eq_getElem hin) e hem hb);exact hcl e.on (by omega) hon j h
 intro fuel
 induction fuel with
 | zero=>
  intro listed a w c hsz hf m
  have hr:Region.ready .any ops listed=[]:=by
   apply List.eq_nil_iff_forall_not_mem.2;intro i hi;obtain⟨hin,hn,_⟩:=hready listed hsz i hi;have h0:=List.eq_nil_of_length_eq_zero (Nat.le_zero.1 hf)
   have:i∈(List.range ops.size).filter fun j=>listed.getD j true==false:=by
    simp only[List.mem_filter,List.mem_range];refine⟨hin,?_⟩;unfold CP at hn;rw[Array.getElem?_eq_getElem (by omega)]at hn;rw[Array.getD_eq_getD_getElem?,Array.getElem?_eq_getElem (by omega)];simpa using hn
   rw[h0]at this
   cases this
  exact⟨hr,m.done K (hall listed hsz m.closed hr) (fin c)⟩
 | succ fuel ih=>
  intro listed a w c hsz hf m;refine⟨fun hr=>m.done K (hall listed hsz m.closed hr) (fin c),fun i hi=>?_⟩;obtain⟨hin,hn,_⟩:=hready listed hsz i hi;refine wpOp_mono ?_ (Mid_step hX m K st hV hin hn (hdeps listed hsz m.closed i hi));rintro a' w' ⟨c',m'⟩;refine ih _ a' w' c' (by simpa using hsz) ?_ (m'.congr fun j=>(onList_set listed i j (by omega)).symm)
  have hmem:i∈(List.range ops.size).filter fun j=>listed.getD j true==false:=by
   simp only[List.mem_filter,List.mem_range];refine⟨hin,?_⟩;unfold CP at hn;rw[Array.getElem?_eq_getElem (by omega)]at hn;rw[Array.getD_eq_getD_getElem?,Array.getElem?_eq_getElem (by omega)];simpa using hn
  have he:((List.range ops.size).filter fun j=>(listed.setIfInBounds i true).getD j true==false)=((List.range ops.size).filter fun j=>listed.getD j true==false).filter fun j=>j != i:=by
   rw[List.filter_filter];refine List.filter_congr fun j hj=>?_;rw[Array.getD_eq_getD_getElem?,Array.getD_eq_getD_getElem?];by_cases h:j=i
   ·subst h;simp[show j<listed.size by omega]
   ·rw[Array.getElem?_setIfInBounds_ne (by omega)];simp[h]
  rw[he];have:=List.length_filter_lt_length_iff_exists (p:=fun j=>j != i) (l:=(List.range ops.size).filter fun j=>listed.getD j true==false);have h2:=this.2 ⟨i,hmem,by simp⟩;omega
end
theorem any_own {P:Program}{ops:Array Oper}{Q:Exit→Act→World→Prop}{a:Act}{w:World}{X:List PanicEntry→World→Prop}(hX:∀ch a' w',Fr ops a a'→X ch w'→Q (.panic ch) a' w')
  (D av ea:Nat→List Nat) (keep:List Nat) (hok:okB ops D av ea keep=true) (sp:Nat→Option Loud) (M:Nat→Prop) (F0:Nat→World→Prop) (Fp0:Nat→Nat→Prop)
  (hF:∀j,j<ops.size→F0 j=fun _=>True) (hFp:∀j,j<ops.size→Fp0 j=fun _=>False)
  (hV:∀j,ops.size≤j→DT w.drew M (Fp0 j) (F0 j)∧F0 j w.drew∧∀b,Fp0 j b→b<w.heap.size∧M b)
  (hVd:∀j k,ops.size≤j→ops.size≤k→j≠k→∀b,Fp0 j b→¬Fp0 k b)
  (hlex:LexD P ops w.drew M X sp av ea (fun a F Fp=>Done w.drew M Q keep a F Fp) ops.toList 0 a F0 Fp0):wpAny P .any ops Q ops.size (Array.replicate ops.size false) a w.drew:=by
 obtain⟨K,G⟩:=OkP.of_okB hok
 have H:∀c,_:=fun c=>lex_stages (X:=X) (P:=P) (ops:=ops) (w0:=w.drew) (M:=M) (sp:=sp) (a0:=a) (F0:=F0) (Fp0:=Fp0) (av:=av) (ea:=ea) hF hFp c ops.toList 0 (by simp) (Nat.zero_le _)
  (show LexD P ops w.drew M X sp av ea (fun a F Fp=>Done w.drew M Q keep a F Fp) ops.toList 0 (BT P ops w.drew M sp a c 0) (pre 0 (BQ P ops w.drew M sp a F0 c) F0) (pre 0 (BO P ops w.drew M sp a Fp0 c) Fp0)from by
   have e1:pre 0 (BQ P ops w.drew M sp a F0 c) F0=F0:=funext fun j=>pre_ge _ _ (by omega);have e2:pre 0 (BO P ops w.drew M sp a Fp0 c) Fp0=Fp0:=funext fun j=>pre_ge _ _ (by omega);rw[e1,e2];exact hlex)
 have hf:∀j,(j<ops.size→False)→∀c,BQ P ops w.drew M sp a F0 c j=F0 j∧BO P ops w.drew M sp a Fp0 c j=Fp0 j:=fun j hj c=>by
  have hj':ops.size≤j:=by
   rcases Nat.lt_or_ge j ops.size with h|h
   ·exact(hj h).elim
   ·exact h
  unfold BQ BO;rw[Array.getElem?_eq_none hj'];exact⟨rfl,rfl⟩
 have hno:∀j,¬CP (Array.replicate ops.size false) j:=fun j h=>by
  unfold CP at h;rw[Array.getElem?_replicate]at h;split at h<;>simp at h
 have hlt:∀j,(j<ops.size→CP (Array.replicate ops.size false) j)→(j<ops.size→False):=fun j h hj=>hno j (h hj)
 have hge:∀j,(j<ops.size→False)→ops.size≤j:=fun j h=>by
  rcases Nat.lt_or_ge j ops.size with h' | h'
  ·exact(h h').elim
  ·exact h'
 refine any_of_mid (X:=X) hX (w0:=w.drew) (M:=M) (sp:=sp) (a0:=a) (F0:=F0) (Fp0:=Fp0) K G (fun c k hk=>(H c).1 k (Nat.zero_le _) hk) (fun j hj=>(hV j hj).1) (fun c=>(H c).2) _ _ _ _ (fun _=>default) (by simp) ?_ ?_
 ·refine Nat.le_trans (List.length_filter_le _ _) (by simp)
 ·refine⟨BA.refl _ _,fun i _ h=>(hno i h).elim,rfl,rfl,fun i _ _ h=>(hno i h).elim,fun _ _=>rfl,fun j h1 _=>?_,fun j k h1 h2 _ _ hjk b=>?_⟩
  ·obtain⟨e1,e2⟩:=hf j (hlt j h1) fun _=>default;obtain⟨_,h3,h4⟩:=hV j (hge j (hlt j h1));rw[e1,e2];exact⟨h3,fun b hb=>⟨(h4 b hb).1,.inr (h4 b hb).2⟩⟩
  ·obtain⟨_,e2⟩:=hf j (hlt j h1) fun _=>default;obtain⟨_,e3⟩:=hf k (hlt k h2) fun _=>default;rw[e2,e3];exact hVd j k (hge j (hlt j h1)) (hge k (hlt k h2)) hjk b
theorem wp_own {P:Program}{ops:Array Oper}{Q:Exit→Act→World→Prop}{id:Nat}{a:Act}{w:World}{X:List PanicEntry→World→Prop}(hX:∀ch a' w',Fr ops a a'→X ch w'→Q (.panic ch) a' w')(hm:P.follows .mixedOrders=true)
  (D av ea:Nat→List Nat) (keep:List Nat) (hok:okB ops D av ea keep=true) (sp:Nat→Option Loud) (M:Nat→Prop) (F0:Nat→World→Prop) (Fp0:Nat→Nat→Prop)
  (hF:∀j,j<ops.size→F0 j=fun _=>True) (hFp:∀j,j<ops.size→Fp0 j=fun _=>False)
  (hV:∀j,ops.size≤j→DT w.drew M (Fp0 j) (F0 j)∧F0 j w.drew∧∀b,Fp0 j b→b<w.heap.size∧M b)
  (hVd:∀j k,ops.size≤j→ops.size≤k→j≠k→∀b,Fp0 j b→¬Fp0 k b)
  (hlex:LexD P ops w.drew M X sp av ea (fun a F Fp=>Done w.drew M Q keep a F Fp) ops.toList 0 a F0 Fp0):(Code.region id ops true).wp P Q a w:=
 wp_region_any hm (any_own hX D av ea keep hok sp M F0 Fp0 hF hFp hV hVd hlex)
structure Lex (P:Program)(ops:Array Oper)(w0:World)(M:Nat→Prop)(X:List PanicEntry→World→Prop)(sp:Nat→Option Loud)(av ea:Nat→List Nat)(Fin:Act→(Nat→World→Prop)→(Nat→Nat→Prop)→Prop)
  (l:List Oper) (i:Nat) (a:Act) (F:Nat→World→Prop) (Fp:Nat→Nat→Prop):Prop where
 out:LexD P ops w0 M X sp av ea Fin l i a F Fp
theorem wp_own_lit {P:Program}{l:List Oper}{Q:Exit→Act→World→Prop}{id:Nat}{a:Act}{w:World}(X:List PanicEntry→World→Prop)(hX:∀ch a' w',Fr l.toArray a a'→X ch w'→Q (.panic ch) a' w')(hm:P.follows .mixedOrders=true)
  (D av ea:Nat→List Nat) (keep:List Nat) (hok:okB l.toArray D av ea keep=true) (sp:Nat→Option Loud) (M:Nat→Prop) (F0:Nat→World→Prop) (Fp0:Nat→Nat→Prop)
  (hF:∀j,j<l.toArray.size→F0 j=fun _=>True) (hFp:∀j,j<l.toArray.size→Fp0 j=fun _=>False)
  (hV:∀j,l.toArray.size≤j→DT w.drew M (Fp0 j) (F0 j)∧F0 j w.drew∧∀b,Fp0 j b→b<w.heap.size∧M b)
  (hVd:∀j k,l.toArray.size≤j→l.toArray.size≤k→j≠k→∀b,Fp0 j b→¬Fp0 k b)
  (hlex:Lex P l.toArray w.drew M X sp av ea (fun a F Fp=>Done w.drew M Q keep a F Fp) l 0 a F0 Fp0):(Code.region id l.toArray true).wp P Q a w:=
 wp_own (X:=X) hX hm D av ea keep hok sp M F0 Fp0 hF hFp hV hVd hlex.out
theorem CN {P:Program}{l:List Oper}{Q:Exit→Act→World→Prop}{id:Nat}{a:Act}{w:World}(X:List PanicEntry→World→Prop)(hX:∀ch a' w',Fr l.toArray a a'→X ch w'→Q (.panic ch) a' w')(hm:P.follows .mixedOrders=true)
  (D av ea:Nat→List Nat) (keep:List Nat) (hok:okB l.toArray D av ea keep=true) (sp:Nat→Option Loud)
  (hlex:Lex P l.toArray w.drew (fun _=>False) X sp av ea (fun a F Fp=>Done w.drew (fun _=>False) Q keep a F Fp) l 0 a (fun _ _=>True) (fun _ _=>False)):(Code.region id l.toArray true).wp P Q a w:=
 wp_own_lit X hX hm D av ea keep hok sp _ _ _ (fun _ _=>rfl) (fun _ _=>rfl) (fun _ _=>⟨fun _ _ _ _ _ _ _=>trivial,trivial,fun _ h=>h.elim⟩) (fun _ _ _ _ _ _ h=>h.elim) hlex
theorem wp_own1 {P:Program}{l:List Oper}{Q:Exit→Act→World→Prop}{id:Nat}{a:Act}{w:World}(X:List PanicEntry→World→Prop)(hX:∀ch a' w',Fr l.toArray a a'→X ch w'→Q (.panic ch) a' w')(hm:P.follows .mixedOrders=true)
  (m:Nat) (x:Obj) (hx:w.heap[m]?=some x)
  (D av ea:Nat→List Nat) (keep:List Nat) (hok:okB l.toArray D av ea keep=true) (sp:Nat→Option Loud)
  (hlex:Lex P l.toArray w.drew (fun k=>k=m) X sp av ea (fun a F Fp=>Done w.drew (fun k=>k=m) Q keep a F Fp) l 0 a (aside l.length m x) (asideFp l.length m)):(Code.region id l.toArray true).wp P Q a w:=by
 refine wp_own_lit X hX hm D av ea keep hok sp _ _ _ ?_ ?_ (fun j _=>aside_paid l.length m x w w.drew rfl hx j) ?_ hlex
 ·intro j hj;have hj':j<l.length:=by simpa using hj
  funext w';unfold aside;rw[if_neg (by omega)]
 ·intro j hj;have hj':j<l.length:=by simpa using hj
  funext w';unfold asideFp
  exact propext ⟨fun h=>by have:=h.1;omega,fun h=>h.elim⟩
 ·intro j k _ _ hjk b h1 h2;exact hjk (h1.1.trans h2.1.symm)
theorem wp_ownB {P:Program}{l:List Oper}{Q:Exit→Act→World→Prop}{id:Nat}{a:Act}{w:World}(X:List PanicEntry→World→Prop)(hX:∀ch a' w',Fr l.toArray a a'→X ch w'→Q (.panic ch) a' w')(hm:P.follows .mixedOrders=true)
  (m1 m2:Nat) (x1 x2:Obj) (h1:w.heap[m1]?=some x1) (h2:w.heap[m2]?=some x2) (hne:m1≠m2) (D av ea:Nat→List Nat) (keep:List Nat) (hok:okB l.toArray D av ea keep=true) (sp:Nat→Option Loud)
  (hlex:Lex P l.toArray w.drew (fun b=>b=m1∨b=m2) X sp av ea (fun a F Fp=>Done w.drew (fun b=>b=m1∨b=m2) Q keep a F Fp) l 0 a (asideB l.length m1 m2 x1 x2) (asideBFp l.length m1 m2)):(Code.region id l.toArray true).wp P Q a w:=by
 have lt:∀{m:Nat}{x:Obj},w.heap[m]?=some x→m<w.heap.size:=fun h=>(AG.1 h).1;refine wp_own_lit X hX hm D av ea keep hok sp _ _ _ ?_ ?_ ?_ ?_ hlex
 ·intro j hj;have hj':j<l.length:=by simpa using hj
  funext w';unfold asideB;rw[if_neg (by omega),if_neg (by omega)]
 ·intro j hj;have hj':j<l.length:=by simpa using hj
  funext b;unfold asideBFp
  exact propext ⟨fun h=>by rcases h with h|h<;>omega,fun h=>h.elim⟩
 ·intro j hj;refine⟨fun w1 w2 _ _ _ h hk=>?_,?_,fun b hb=>?_⟩
  ·unfold asideB at hk ⊢;by_cases e1:j=l.length
   ·rw[if_pos e1]at hk ⊢;rw[←hk];exact h m1 (.inl ⟨e1,rfl⟩)
   ·rw[if_neg e1]at hk ⊢;by_cases e2:j=l.length+1
    ·rw[if_pos e2]at hk ⊢;rw[←hk];exact h m2 (.inr ⟨e2,rfl⟩)
    ·rw[if_neg e2];trivial
  ·unfold asideB;by_cases e1:j=l.length
   ·rw[if_pos e1];exact h1
   ·rw[if_neg e1];by_cases e2:j=l.length+1
    ·rw[if_pos e2];exact h2
    ·rw[if_neg e2];trivial
  ·rcases hb with⟨_,hb⟩|⟨_,hb⟩
   ·exact⟨by rw[hb];exact lt h1,.inl hb⟩
   ·exact⟨by rw[hb];exact lt h2,.inr hb⟩
 ·intro i j _ _ hij b e1 e2;rcases e1 with⟨a1,a2⟩|⟨a1,a2⟩<;>rcases e2 with⟨b1,b2⟩|⟨b1,b2⟩<;>omega
section
variable {P : Program}{ops : Array Oper}{w0 : World}{M : Nat→Prop}{X : List PanicEntry→World→Prop}{sp : Nat→Option Loud}{av ea : Nat→List Nat}{Fin : Act→(Nat→World→Prop)→(Nat→Nat→Prop)→Prop}
  {o : Oper}{rest : List Oper}{i : Nat}{a : Act}{F : Nat→World→Prop}{Fp : Nat→Nat→Prop}
theorem BP (h:Fin a F Fp):Lex P ops w0 M X sp av ea Fin [] i a F Fp:=⟨h⟩
theorem BZ (hw:Region.wanted o (yielded ops a.tmps)=false)(h:Lex P ops w0 M X sp av ea Fin rest (i+1) (a.put o.dst undef) F Fp):Lex P ops w0 M X sp av ea Fin (o::rest) i a F Fp:=by
 refine⟨?_⟩;rw[LexD,if_neg (by rw[hw];exact NT)];exact h.out
theorem BC (hw:Region.wanted o (yielded ops a.tmps)=true)(hs:sp i=none){v:Value}(hv:∀w,BA M w0 w→(execOp a.eval o).run P w=.ok (.value v) w)
  (h:Lex P ops w0 M X sp av ea Fin rest (i+1) (a.put o.dst v) F Fp):Lex P ops w0 M X sp av ea Fin (o::rest) i a F Fp:=by
 refine⟨?_⟩;rw[LexD,if_pos hw,hs];exact⟨v,fun w hk=>.inl (hv w hk),h.out⟩
theorem BE (hw:Region.wanted o (yielded ops a.tmps)=true){s:Loud}(hs:sp i=some s)(hl:CU P w0 M X o a s (av i) (ea i) F Fp)
  (h:∀g,s.ok (BM o a) g→Lex P ops w0 M X sp av ea Fin rest (i+1) (a.put o.dst (s.val (BM o a) g)) (upd F i (s.post (BM o a) g)) (upd Fp i (s.fp (BM o a) g))):
  Lex P ops w0 M X sp av ea Fin (o::rest) i a F Fp:=by
 refine⟨?_⟩;rw[LexD,if_pos hw,hs];exact⟨hl,fun g hg=>(h g hg).out⟩
end
section
variable {P : Program}{w0 : World}{M : Nat→Prop}{X : List PanicEntry→World→Prop}{o : Oper}{a : Act}{s : Loud}{av ea : List Nat}{F : Nat→World→Prop}{Fp : Nat→Nat→Prop}
theorem upon_mono {P:Program}{o:Oper}{a:Act}{n n':Act→World→Prop}{Q Q':Exit→Act→World→Prop}(hn:∀a w,n a w→n' a w)(hQ:∀e a w,Q e a w→Q' e a w){w:World}(h:o.wp P a w n Q):o.wp P a w n' Q':=by
 unfold Oper.wp at *;generalize (execOp a.eval o).run P w=r at *
 cases r with
 | ok x w'=>
  cases x with
  |value v=>exact hn _ _ h
  |skip=>exact hn _ _ h
  |defer d=>exact hn _ _ h
  | enter f args=>
   exact Calls.mono h fun e w'' hh=>by
    cases e with
    |returned v=>exact hn _ _ hh
    |panicked c=>exact hQ _ _ _ hh
    |outgrown=>obtain⟨a1,w1,hh⟩:=(hh:LetsOut Q);exact⟨a1,w1,hQ _ _ _ hh⟩
  |row r args=>exact Rows.mono h fun v w'' hh=>hn _ _ hh
  |_=>exact(h:False).elim
 |halt x w'=>cases x<;>first|exact(h:False).elim|exact hQ _ _ _ h
theorem CU.of (h:Own.CU P w0 M o a s av ea F Fp):CU P w0 M X o a s av ea F Fp:=
 ⟨h.some,h.stable,fun w h1 h2 h3=>upon_mono (fun _ _ h=>h) (fun _ _ _ h=>h.elim) (h.runs w h1 h2 h3)⟩
def sNo (v:Value):Loud:={ val:=fun _ _=>v,post:=fun _ _ _=>False }
theorem loud_gives (f:FuncId)(args:Array Value)(v:Value)(hrun:∀w,(execOp a.eval o).run P w=.ok (.enter f args) w)
  (hc:∀w,BA M w0 w→(∀j∈av,F j w∧∀b,Fp j b→b<w.heap.size∧(w0.heap.size≤b∨M b))→Calls P f args w fun e w'=>∃ch,e=.panicked ch∧X ch w'):CU P w0 M X o a (sNo v) av ea F Fp:=
 ⟨⟨default,trivial⟩,fun _ _ _ _ _ _ _ _ h=>h,fun w h1 h2 _=>by
  unfold Oper.wp;rw[hrun w];refine(hc w h1 h2).mono ?_;rintro e w' ⟨ch,rfl,h4⟩;exact⟨ch,rfl,h4⟩⟩
end
end Go.Proofs.YtknnmidnodeanaaGreatDoor.OwnX
