import Derived.Test.YtomlffobbkcmdaaGreatDoorJs1
import Derived.Sort.Row
import Derived.Deep.AppendLies
import Derived.Deep.Quiet
import Derived.KernelRfl
import Derived.Deep.MidRow
import Derived.Maps.AppendAt
namespace Go.Proofs.YtomlffobbkcmdaaGreatDoor
open Go Go.RowKit Own
def Of (p:Option Addr)(g:Nat):Prop:=∃a,p=some a∧g=a.block
def nth (xs:List Int)(j:Nat):Int:=xs.getD j 0
def Rd (w:World)(p:Option Addr)(cs:List Value):Prop:=∀j v,cs[j]?=some v→∃b o,p=some ⟨b,o,none⟩∧w.cell? ⟨b,o+j,none⟩=some v
def ints (xs:List Int):List Value:=xs.map (Value.int .i64)
theorem ints_length (xs:List Int):(ints xs).length=xs.length:=by simp[ints]
theorem Rd.ptr {w:World}{p:Option Addr}{cs:List Value}(h:Rd w p cs)(hp:0<cs.length):∃b o,p=some ⟨b,o,none⟩∧b<w.heap.size:=by
 obtain⟨b,o,h1,h2⟩:=h 0 cs[0] (by simp[hp])
 exact⟨b,o,h1,World.block_lt_of_cell? w _ h2⟩
theorem Rd.cell {w:World}{b o:Nat}{cs:List Value}(h:Rd w (some ⟨b,o,none⟩) cs)(j:Nat)(v:Value)(hj:cs[j]?=some v):w.cell? ⟨b,o+j,none⟩=some v:=by
 obtain⟨b',o',h1,h2⟩:=h j v hj
 cases h1
 exact h2
theorem Rd.int {w:World}{b o:Nat}{xs:List Int}(h:Rd w (some ⟨b,o,none⟩) (ints xs))(j:Nat)(hj:j<xs.length):w.cell? ⟨b,o+j,none⟩=some (.int .i64 (nth xs j)):=
 h.cell j _ (by simp[ints,nth,List.getElem?_map,List.getElem?_eq_getElem hj])
theorem Own.BA.cell {E:Nat→Prop}{w w':World}(h:BA E w w'){a:Addr}{v:Value}(hc:w.cell? a=some v)(hE:¬E a.block):w'.cell? a=some v:=
 (World.cell?_of_block (h.block a.block (World.block_lt_of_cell? w a hc) hE)).trans hc
theorem Rd.keep {E:Nat→Prop}{w w':World}{p:Option Addr}{cs:List Value}(h:Rd w p cs)(hk:BA E w w')(hE:∀a,p=some a→¬E a.block):Rd w' p cs:=fun j v hj=>by
 obtain⟨b,o,h1,h2⟩:=h j v hj
 exact⟨b,o,h1,BA.cell hk h2 (show ¬E b from hE _ h1)⟩
theorem Own.BA.drew (E:Nat→Prop)(w:World):BA E w w.drew:=⟨rfl,rfl,rfl,Nat.le_refl _,fun _ _ _=>rfl⟩
theorem Own.BA.alloc (E:Nat→Prop)(w:World)(o:Obj):BA E w (w.alloc o):=BA.of_below ((Below.refl _ w).alloc (Nat.le_refl _) o)
theorem Own.BA.setCell {E:Nat→Prop}(w:World)(a:Addr)(v:Value)(h:E a.block):BA E w (w.setCell a v):=
 ⟨rfl,rfl,rfl,by simp[World.setCell],fun k _ hE=>Below.heap_setCell _ _ _ _ (fun e=>hE (e▸h))⟩
theorem Own.BA.grown {E:Nat→Prop}{w w':World}{row:Option Nat}(h:w.grownBy w' row)(hE:∀k,row=some k→E k):BA E w w':=
 ⟨h.os,h.tape,h.output,h.size,fun k hk hn=>h.block k hk fun e=>hn (hE k e.symm)⟩
theorem Own.BA.new {E:Nat→Prop}{w w1 w2:World}(h:BA (fun _=>False) w w1)(k:BA E w1 w2)(hE:∀b,E b→w.heap.size≤b):BA (fun _=>False) w w2:=
 ⟨k.os.trans h.os,k.tape.trans h.tape,k.output.trans h.output,Nat.le_trans h.size k.size,fun i hi _=>(k.block i (Nat.lt_of_lt_of_le hi h.size) fun e=>by have:=hE i e;omega).trans (h.block i hi fun e=>e)⟩
theorem Rd.stay {w w':World}{p:Option Addr}{cs:List Value}(h:Rd w p cs)(hk:BA (fun _=>False) w w'):Rd w' p cs:=h.keep hk fun _ _ e=>e
theorem Own.BA.stay {w w':World}(h:BA (fun _=>False) w w'){a:Addr}{v:Value}(hc:w.cell? a=some v):w'.cell? a=some v:=h.cell hc fun e=>e
theorem Own.BA.blk {w w':World}(h:BA (fun _=>False) w w'){b:Nat}{x:Obj}(hc:w.heap[b]?=some x):w'.heap[b]?=some x:=by
 rw[h.block b ?_ fun e=>e]
 ·exact hc
 ·rcases Nat.lt_or_ge b w.heap.size with h' | h'
  ·exact h'
  ·rw[Array.getElem?_eq_none h']at hc;cases hc
theorem heap_setCells (b:Nat):∀(vs:List Value) (o:Nat) (w:World) (cur:Array Value) (e:TypeId) (fr:Nat×Nat),w.heap[b]?=some (.cells cur e fr)→
  ∃cur',(w.setCells b o vs).heap[b]?=some (.cells cur' e fr)∧cur'.size=cur.size∧∀k,k<cur.size→cur'[k]?=if o≤k∧k<o+vs.length then vs[k - o]? else cur[k]?
 |[],o,w,cur,e,fr,h=>⟨cur,h,rfl,fun k _=>by rw[if_neg (by simp)]⟩
 | v::r,o,w,cur,e,fr,h=>by
  have h1:(w.setCell ⟨b,o,none⟩ v).heap[b]?=some (.cells (cur.setIfInBounds o v) e fr):=by
   simp[World.setCell,Array.getElem?_modify,h]
  obtain⟨cur',h2,h3,h4⟩:=heap_setCells b r (o+1) _ _ _ _ h1
  refine⟨cur',h2,by rw[h3];simp,fun k hk=>?_⟩
  rw[h4 k (by simpa using hk)]
  simp only[LB]
  by_cases hko:k=o
  ·subst hko
   rw[if_neg (by omega),if_pos (by omega)]
   simp[hk]
  ·by_cases hin:o+1≤k∧k<o+1+r.length
   ·rw[if_pos hin,if_pos (by omega)]
    obtain⟨j,rfl⟩:∃j,k=o+1+j:=⟨k - (o+1),by omega⟩
    rw[show o+1+j - (o+1)=j by omega,show o+1+j - o=j+1 by omega,List.getElem?_cons_succ]
   ·rw[if_neg hin,if_neg (by omega),Array.getElem?_setIfInBounds_ne (fun e=>hko e.symm)]
theorem keep_setCells {E:Nat→Prop}(b:Nat)(hE:E b):∀(vs:List Value) (o:Nat) (w:World),BA E w (w.setCells b o vs)
 |[],_,w=>BA.refl E w
 |v::r,o,w=>(BA.setCell w ⟨b,o,none⟩ v hE).trans (keep_setCells b hE r (o+1) _)
theorem BC (w:World)(x:Obj):∃W N,W=w.alloc x∧N=w.heap.size∧W.heap[N]?=some x∧BA (fun _=>False) w W∧W.heap.size=N+1:=
 ⟨_,_,rfl,rfl,heap_alloc_new w x,BA.alloc _ _ _,by simp⟩
def BW (v:Value):Loud:={ val:=fun _ _=>v }
def sPut (b:Nat)(T:TypeId):Loud:={ val:=fun _ _=>undef,fp:=fun _ _ k=>k=b,post:=fun args _ w=>∀vs,args.getD 1 undef=.agg vs→w.heap[b]?=some (.cells vs T (0,0)) }
section
variable {P : Program}{w0 : World}{M : Nat→Prop}{o : Oper}{a : Act}{s : Loud}{av ea : List Nat}{F : Nat→World→Prop}{Fp : Nat→Nat→Prop}
theorem CN (fp:Nat→Prop):Stable w0 M fp (fun _=>True):=fun _ _ _ _ _ _ _=>trivial
theorem CL (f:FuncId)(args:Array Value)(hrun:∀w,(execOp a.eval o).run P w=.ok (.enter f args) w)(hsome:∃g,s.ok (BS o a) g)
  (hst:∀g,s.ok (BS o a) g→Stable w0 M (s.fp (BS o a) g) (s.post (BS o a) g))
  (hc:∀w,BA M w0 w→(∀j∈av,F j w∧∀b,Fp j b→b<w.heap.size∧(w0.heap.size≤b∨M b))→(∀j∈av,∀k∈av,j≠k→∀b,Fp j b→¬Fp k b)→
   Calls P f args w fun e w'=>∃g,s.ok (BS o a) g∧e=.returned (s.val (BS o a) g)∧BA (fun b=>∃j∈ea,Fp j b) w w'∧
    (∀b,s.fp (BS o a) g b→(w.heap.size≤b∨∃j∈ea,Fp j b)∧b<w'.heap.size)∧s.post (BS o a) g w'):FO P w0 M o a s av ea F Fp:=
 ⟨hsome,hst,fun w h1 h2 h3=>by
  unfold Oper.wp
  rw[hrun w]
  refine(hc w h1 h2 h3).mono ?_
  rintro e w' ⟨g,h4,rfl,h5,h6,h7⟩
  exact⟨g,h4,rfl,h5,h6,h7⟩⟩
theorem DB (hsome:∃g,s.ok (BS o a) g)
  (hst:∀g,s.ok (BS o a) g→Stable w0 M (s.fp (BS o a) g) (s.post (BS o a) g))
  (hc:∀w,BA M w0 w→(∀j∈av,F j w∧∀b,Fp j b→b<w.heap.size∧(w0.heap.size≤b∨M b))→(∀j∈av,∀k∈av,j≠k→∀b,Fp j b→¬Fp k b)→
   ∃ w' g,s.ok (BS o a) g∧Yields2 P (execOp a.eval o) w (s.val (BS o a) g) w'∧BA (fun b=>∃j∈ea,Fp j b) w w'∧
    (∀b,s.fp (BS o a) g b→(w.heap.size≤b∨∃j∈ea,Fp j b)∧b<w'.heap.size)∧s.post (BS o a) g w'):FO P w0 M o a s av ea F Fp:=
 ⟨hsome,hst,fun w h1 h2 h3=>by
  obtain⟨w',g,h4,h5,h6,h7,h8⟩:=hc w h1 h2 h3
  unfold Oper.wp
  rcases h5 with h5|⟨h5,h9⟩
  ·rw[h5];exact⟨g,h4,rfl,h6,h7,h8⟩
  ·rw[h5];exact⟨g,h4,by rw[h9],h6,h7,h8⟩⟩
theorem yields_put {ρ:Operand→Value}{w:World}{b:Nat}{T ty:TypeId}{vs cs0:Array Value}(x y:Operand)(ho:o.op=.store ty x y)(hx:ρ x=.pointer (some ⟨b,0,none⟩))(hy:ρ y=.agg vs)
  (h:w.heap[b]?=some (.cells cs0 T (0,0))) (hs:cs0.size=vs.size) (hi:(P.info? ty).map (·.size)=some vs.size) (h1:vs.all (·.oneCell')=true):
  ∃w',Yields2 P (execOp ρ o) w undef w'∧BA (fun k=>k=b) w w'∧w'.heap[b]?=some (.cells vs T (0,0)):=by
 obtain⟨cur',h2,h3,h4⟩:=heap_setCells b vs.toList 0 w cs0 T (0,0) h
 have he:cur'=vs:=by
  apply Array.ext_getElem?
  intro k
  by_cases hk:k<cs0.size
  ·rw[h4 k hk,if_pos ⟨Nat.zero_le _,by simpa using (by omega:k<vs.size)⟩]
   simp
  ·rw[Array.getElem?_eq_none (by omega),Array.getElem?_eq_none (by omega)]
 subst he
 refine⟨_,.inr ⟨?_,rfl⟩,keep_setCells (E:=fun k=>k=b) b rfl cur'.toList 0 w,h2⟩
 unfold execOp
 simp only[ho,hx,hy]
 have:=run_storeAt_mid (P:=P) w b 0 ty cur' (fun j hj=>⟨by simp[World.cell?,h];omega,by simp[World.frozen?,h]⟩) hi h1
 simp only[Sem.run_bind,this,Result.andThen_ok,Sem.run_pure]
theorem DH {ty:TypeId}{x y:Operand}{v:Value}(ho:o.op=.store ty x y)(hy:a.eval y=v):(BS o a).getD 1 undef=v:=by simp[BS,ho,Op.operands,hy]
theorem loud_put (b:Nat)(T ty:TypeId)(vs cs0:Array Value)(x y:Operand)(ho:o.op=.store ty x y)(hx:a.eval x=.pointer (some ⟨b,0,none⟩))(hy:a.eval y=.agg vs)
  (j:Nat) (hja:j∈av) (hje:j∈ea) (hF:∀w,F j w→w.heap[b]?=some (.cells cs0 T (0,0))) (hfp:Fp j b) (hs:cs0.size=vs.size) (hi:(P.info? ty).map (·.size)=some vs.size) (h1:vs.all (·.oneCell')=true):
  FO P w0 M o a (sPut b T) av ea F Fp:=by
 have harg:(BS o a).getD 1 undef=.agg vs:=by simp[BS,ho,Op.operands,hy]
 refine DB ⟨default,trivial⟩ (fun g _ w w' _ _ _ h k vs' hv=>(h b rfl).trans (k vs' hv)) fun w _ hav _=>?_
 obtain⟨hj,hb⟩:=hav j hja
 obtain⟨w',h2,h3,h4⟩:=yields_put (P:=P) (o:=o) (ρ:=a.eval) (w:=w) x y ho hx hy (hF w hj) hs hi h1
 refine⟨w',default,trivial,h2,h3.mono fun k hk=>⟨j,hje,by rw[hk];exact hfp⟩,fun k hk=>⟨.inr ⟨j,hje,by rw[show k=b from hk];exact hfp⟩,?_⟩,fun vs' hv=>by rw[harg]at hv;cases hv;exact h4⟩
 rw[show k=b from hk]
 exact Nat.lt_of_lt_of_le (hb b hfp).1 h3.size
theorem loud_new (mk:Nat→Value)(x:Obj)(hs:s.ok=fun _ _=>True)(hm:∀args g,s.val args g=mk g.b)(hfp:∀args g k,s.fp args g k↔k=g.b)(hp:∀args g w,s.post args g w↔w.heap[g.b]?=some x)
  (hrun:∀w,(execOp a.eval o).run P w=.ok (.value (mk w.heap.size)) (w.alloc x)):FO P w0 M o a s av ea F Fp:=by
 refine DB ⟨default,by rw[hs];trivial⟩ (fun g _ w w' _ _ _ h k=>?_) fun w _ _ _=>?_
 ·rw[hp]at k ⊢
  rw[h g.b ((hfp _ _ _).2 rfl)];exact k
 ·refine⟨w.alloc x,{ b:=w.heap.size },by rw[hs];trivial,.inl (by rw[hm];exact hrun w),BA.alloc _ _ _,fun b hb=>?_,(hp _ _ _).2 (heap_alloc_new w x)⟩
  have:b=w.heap.size:=(hfp _ _ _).1 hb
  subst this
  exact⟨.inl (Nat.le_refl _),by simp⟩
end
end Go.Proofs.YtomlffobbkcmdaaGreatDoor
