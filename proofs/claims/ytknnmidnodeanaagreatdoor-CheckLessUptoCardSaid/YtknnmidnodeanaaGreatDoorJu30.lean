import Derived.Test.YtknnmidnodeanaaGreatDoorJu27
namespace Go.Proofs.YtknnmidnodeanaaGreatDoor
open Go Go.RowKit Own
def sPutN (T:TypeId):Loud:={ val:=fun _ _=>undef,fp:=fun args _ k=>args.getD 0 undef=.pointer (some ⟨k,0,none⟩),post:=fun args _ w=>∀b vs,args.getD 0 undef=.pointer (some ⟨b,0,none⟩)→args.getD 1 undef=.agg vs→w.heap[b]?=some (.cells vs T (0,0)) }
theorem putn_args0 {o:Oper}{a:Act}{ty:TypeId}{x y:Operand}{v:Value}(ho:o.op=.store ty x y)(hy:a.eval x=v):(BM o a).getD 0 undef=v:=by simp[BM,ho,Op.operands,hy]
theorem loud_putN {P:Program}{w0:World}{M:Nat→Prop}{o:Oper}{a:Act}{av ea:List Nat}{F:Nat→World→Prop}{Fp:Nat→Nat→Prop}(b:Nat)(T ty:TypeId)(vs cs0:Array Value)(x y:Operand)(ho:o.op=.store ty x y)(hx:a.eval x=.pointer (some ⟨b,0,none⟩))(hy:a.eval y=.agg vs)
  (j:Nat) (hja:j∈av) (hje:j∈ea) (hF:∀w,F j w→w.heap[b]?=some (.cells cs0 T (0,0))) (hfp:Fp j b) (hs:cs0.size=vs.size) (hi:(P.info? ty).map (·.size)=some vs.size) (h1:vs.all (·.oneCell')=true):
  CU P w0 M o a (sPutN T) av ea F Fp:=by
 have harg:(BM o a).getD 1 undef=.agg vs:=BV ho hy;have harg0:(BM o a).getD 0 undef=.pointer (some ⟨b,0,none⟩):=putn_args0 ho hx;refine BY ⟨default,trivial⟩ (fun g _ w w' _ _ _ h k b' vs' hb hv=>(h b' hb).trans (k b' vs' hb hv)) fun w _ hav _=>?_;obtain⟨hj,hb⟩:=hav j hja;obtain⟨w',h2,h3,h4⟩:=yields_put (P:=P) (o:=o) (ρ:=a.eval) (w:=w) x y ho hx hy (hF w hj) hs hi h1;refine⟨w',default,trivial,h2,h3.mono fun k hk=>⟨j,hje,by rw[hk];exact hfp⟩,fun k hk=>?_,fun b' vs' hb' hv=>by rw[harg]at hv;cases hv;rw[harg0]at hb';cases hb';exact h4⟩
 have hkb:k=b:=by
  have:(BM o a).getD 0 undef=.pointer (some ⟨k,0,none⟩):=hk;rw[harg0]at this;cases this;rfl
 subst hkb;exact⟨.inr ⟨j,hje,hfp⟩,Nat.lt_of_lt_of_le (hb k hfp).1 h3.size⟩
attribute [local go_sem] Oper.semAt_some
def noB (f:Fl):Bool:=f.err==0 && (f.line==0 && f.col==0)
theorem noB_iff (f:Fl):noB f=true↔f=Fl.no:=by
 obtain⟨a,b,c⟩:=f;unfold noB Fl.no;simp only[Bool.and_eq_true,beq_iff_eq,Fl.mk.injEq]
theorem eq_no (f:Fl)(w:World):(Op.equalIn 10000 TFa (flV f) (.agg #[.int .i64 0,.int .i64 0,.int .i64 0])).run Tryz.prog w=.ok (noB f) w:=eqF _ _ _ _ _ _ w
def sRw (n:Nat)(xs:List Value):Loud:={ val:=fun _ g=>.slice g.p n g.c,fp:=fun _ g=>Of g.p,post:=fun _ g w=>Rd w g.p xs }
theorem stable_rd {w0:World}{M:Nat→Prop}(p:Option Addr)(xs:List Value):DT w0 M (Of p) (fun w=>Rd w p xs):=fun w w' _ _ _ h k j v hj=>by
 obtain⟨b,o,hp,hc⟩:=k j v hj;refine⟨b,o,hp,?_⟩;have hh:=h b ⟨_,hp,rfl⟩;unfold World.cell? at hc ⊢;rw[hh];exact hc
open Go
def rowLF (next:List Item→Option (Ex×List Item))(nextF:List Item→List Item)(ops:List Nat):Nat→List Item→List Item
 |0,ts=>ts
 | f+1,ts=>
  match opOf ops ts with
  |none=>ts
  | some _=>
   match ts with
   |[]=>ts
   | _::r=>
    match next r with
    |none=>nextF r
    |some (_,r')=>rowLF next nextF ops f r'
def rowNF (next:List Item→Option (Ex×List Item))(nextF:List Item→List Item)(ops:List Nat)(ts:List Item):List Item:=
 match next ts with
 |none=>nextF ts
 |some (_,r)=>rowLF next nextF ops (r.length+1) r
def rowsF (one:List Item→Option (Ex×List Item))(oneF:List Item→List Item):List Item→List Item:=
 rowNF (rowN (rowN (rowN (rowN (rowN one [1,2,3]) [4,5]) [6,7,8,9]) [10,11]) [12])
  (rowNF (rowN (rowN (rowN (rowN one [1,2,3]) [4,5]) [6,7,8,9]) [10,11])
   (rowNF (rowN (rowN (rowN one [1,2,3]) [4,5]) [6,7,8,9])
    (rowNF (rowN (rowN one [1,2,3]) [4,5])
     (rowNF (rowN one [1,2,3]) (rowNF one oneF [1,2,3]) [4,5]) [6,7,8,9]) [10,11]) [12]) [13]
def oneOfF (oneF:List Item→List Item)(expr:List Item→Option (Ex×List Item))(exprF:List Item→List Item)(ts:List Item):List Item:=
 match ts with
 |[]=>ts
 | t::r=>
  if isT t.tok [45]=true then oneF r
  else if isT t.tok [33]=true then oneF r
  else if isT t.tok [40]=true then
   match expr r with
   |none=>exprF r
   |some (_,r')=>r'
  else if t.tok.kind=2 then
   if BJ r [91]=true then
    match expr r.tail with
    |none=>exprF r.tail
    |some (_,r')=>r'
   else ts
  else ts
def oneF:Nat→List Item→List Item
 |0=>fun ts=>ts
 |f+1=>oneOfF (oneF f) (rowsN (oneP f)) (rowsF (oneP f) (oneF f))
def exF (f:Nat):List Item→List Item:=rowsF (oneP f) (oneF f)
inductive Oc (α:Type) where
 |ok (a:α) (r:List Item)
 |bad (b:List Item)
 |no
def Oc.bind {α β:Type}(o:Oc α)(k:α→List Item→Oc β):Oc β:=
 match o with
 |.ok a r=>k a r
 |.bad b=>.bad b
 |.no=>.no
def CD:List (List UInt8)→List Item→Oc Unit
 |[],ts=>.ok () ts
 |s::l,ts=>if BJ ts s=true then CD l ts.tail else .bad ts
def DI (k:Nat)(ts:List Item):Oc Item:=
 match ts with
 |t::r=>if t.tok.kind=k then .ok t r else .bad ts
 |[]=>.bad []
def exO (f:Nat)(F:List Item→Option (List Item))(ts:List Item):Oc Ex:=
 match exP f ts with
 |some (x,r)=>.ok x r
 | none=>
  match F ts with
  |some b=>.bad b
  |none=>.no
def opO (value:List UInt8)(ts:List Item):Oc Nat:=
 match ts with
 |[]=>.bad []
 |t::r=>if ofL opL t.tok.text=0∨t.tok.kind≠1∨(ofL opL t.tok.text=2∨ofL opL t.tok.text=4)≠(value≠[]) then .bad ts else .ok (ofL opL t.tok.text) r
def argO (f:Nat)(F:List Item→Option (List Item))(op:Nat)(ts:List Item):Oc (List Ex):=
 if op=2∨op=4 then .ok [] ts
 else (CD [[44]] ts).bind fun _ r=>(exO f F r).bind fun x r=>.ok [x] r
def callO (f:Nat)(F:List Item→Option (List Item))(value:List UInt8)(ts:List Item):Oc (Nat×List UInt8×List Ex):=
 (opO value ts).bind fun op r=>(CD [[40]] r).bind fun _ r=>(DI 2 r).bind fun c r=>(argO f F op r).bind fun xs r=>(CD [[41],[59]] r).bind fun _ r=>.ok (op,c.tok.text,xs) r
def DJ (ts:List Item):Nat:=
 match ts with
 |t::_=>t.tok.kind
 |[]=>0
def plainO (f:Nat)(F:List Item→Option (List Item))(l c:Nat)(ts:List Item):Oc St:=
 (DI 2 ts).bind fun n r=>
  if BJ r [91]=true then
   (exO f F r.tail).bind fun a r=>(CD [[93],[61]] r).bind fun _ r=>(exO f F r).bind fun x r=>(CD [[59]] r).bind fun _ r=>.ok (.mk 4 n.tok.text 0 0 [] [] [] [a,x] [] [] l c) r
  else if BJ r [44]=true then
   (DI 2 r.tail).bind fun m r=>(CD [[61]] r).bind fun _ r=>(callO f F n.tok.text r).bind fun q r=>.ok (.mk 9 [] 0 q.1 n.tok.text m.tok.text q.2.1 q.2.2 [] [] l c) r
  else
   (CD [[61]] r).bind fun _ r=>
    if DJ r=1 then (callO f F [] r).bind fun q r=>.ok (.mk 9 [] 0 q.1 [] n.tok.text q.2.1 q.2.2 [] [] l c) r
    else (exO f F r).bind fun x r=>(CD [[59]] r).bind fun _ r=>.ok (.mk 3 n.tok.text 0 0 [] [] [] [x] [] [] l c) r
def stmtsO (stmt:List Item→Oc St):Nat→List Item→Oc (List St)
 |0,_=>.no
 | f+1,ts=>
  if BJ ts [125]=true then .ok [] ts.tail
  else (stmt ts).bind fun s r=>(stmtsO stmt f r).bind fun l r=>.ok (s::l) r
def blockO (stmt:List Item→Oc St)(ts:List Item):Oc (List St):=(CD [[123]] ts).bind fun _ r=>stmtsO stmt (r.length+1) r
def stmtB (ex:List Item→Oc Ex)(block:List Item→Oc (List St))(plain:Nat→Nat→List Item→Oc St)(ts:List Item):Oc St:=
 match ts with
 |[]=>.bad []
 | t::r=>
  if isT t.tok [118,97,114]=true then
   (DI 2 r).bind fun n r=>(CD [[61]] r).bind fun _ r=>(ex r).bind fun x r=>(CD [[59]] r).bind fun _ r=>.ok (.mk 1 n.tok.text 0 0 [] [] [] [x] [] [] t.line t.col) r
  else if isT t.tok [97,114,114,97,121]=true then
   (DI 2 r).bind fun n r=>(CD [[91]] r).bind fun _ r=>(DI 3 r).bind fun m r=>(CD [[93],[59]] r).bind fun _ r=>.ok (.mk 2 n.tok.text m.tok.num 0 [] [] [] [] [] [] t.line t.col) r
  else if isT t.tok [105,102]=true then
   (ex r).bind fun x r=>(block r).bind fun a r=>
    if BJ r [101,108,115,101]=true then (block r.tail).bind fun b r=>.ok (.mk 5 [] 0 0 [] [] [] [x] a b t.line t.col) r
    else .ok (.mk 5 [] 0 0 [] [] [] [x] a [] t.line t.col) r
  else if isT t.tok [119,104,105,108,101]=true then
   (ex r).bind fun x r=>(block r).bind fun a r=>.ok (.mk 6 [] 0 0 [] [] [] [x] a [] t.line t.col) r
  else if isT t.tok [111,117,116]=true then
   (ex r).bind fun x r=>(CD [[59]] r).bind fun _ r=>.ok (.mk 7 [] 0 0 [] [] [] [x] [] [] t.line t.col) r
  else if isT t.tok [104,97,108,116]=true then
   (ex r).bind fun x r=>(CD [[59]] r).bind fun _ r=>.ok (.mk 8 [] 0 0 [] [] [] [x] [] [] t.line t.col) r
  else plain t.line t.col ts
def stmtO (g:Nat)(F:List Item→Option (List Item)):Nat→List Item→Oc St
 |0,_=>.no
 |f+1,ts=>stmtB (exO g F) (blockO (stmtO g F f)) (plainO g F) ts
def lineOf (ts:List Item)(el:Nat):Nat:=
 match ts with
 |t::_=>t.line
 |[]=>el
def colOf (ts:List Item)(ec:Nat):Nat:=
 match ts with
 |t::_=>t.col
 |[]=>ec
theorem Oc.bind_ok {α β:Type}{o:Oc α}{k:α→List Item→Oc β}{b:β}{s:List Item}(h:o.bind k=.ok b s):∃a r,o=.ok a r∧k a r=.ok b s:=by
 cases o with
 |ok a r=>exact⟨a,r,rfl,h⟩
 |bad _=>cases h
 |no=>cases h
theorem mustO_no:∀(L:List (List UInt8)) (ts:List Item),CD L ts≠.no
 |[],_=>fun h=>by cases h
 | s::l,ts=>fun h=>by
  unfold CD at h;split at h
  ·exact mustO_no l _ h
  ·cases h
theorem wantO_no (k:Nat)(ts:List Item):DI k ts≠.no:=fun h=>by
 unfold DI at h;split at h
 ·split at h<;>cases h
 ·cases h
theorem opO_no (v:List UInt8)(ts:List Item):opO v ts≠.no:=fun h=>by
 unfold opO at h;split at h
 ·cases h
 ·split at h<;>cases h
theorem mustO_of {L:List (List UInt8)}{ts r:List Item}(h:CQ L ts=some r):CD L ts=.ok () r:=by
 induction L generalizing ts with
 |nil=>unfold CQ at h;cases h;rfl
 | cons s l ih=>
  unfold CQ at h;unfold CD;split at h
  ·rename_i hh
   rw[if_pos hh];exact ih h
  ·cases h
theorem CW {L:List (List UInt8)}{ts r:List Item}(h:CD L ts=.ok () r):CQ L ts=some r:=by
 induction L generalizing ts with
 |nil=>unfold CD at h;cases h;rfl
 | cons s l ih=>
  unfold CD at h;unfold CQ;split at h
  ·rename_i hh
   rw[if_pos hh];exact ih h
  ·cases h
abbrev TFt:TypeId:=115
abbrev fltV (er li co:Int):Value:=.iface TFt (.agg #[.int .i64 er,.int .i64 li,.int .i64 co])
end Go.Proofs.YtknnmidnodeanaaGreatDoor
