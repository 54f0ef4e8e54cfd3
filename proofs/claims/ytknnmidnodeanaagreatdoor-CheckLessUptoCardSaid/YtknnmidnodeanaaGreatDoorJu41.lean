import Derived.Test.YtknnmidnodeanaaGreatDoorJu40
import Derived.Test.YtknnmidnodeanaaGreatDoorJu28
import Derived.Laws.AppendOwn
set_option maxHeartbeats 8000000
set_option maxRecDepth 100000
namespace Go.Proofs.YtknnmidnodeanaaGreatDoor
open Go Go.RowKit Own
open Go.Lib (hid)
theorem wantO_of {k:Nat}{ts r:List Item}{t:Item}(h:wantT k ts=some (t,r)):DI k ts=.ok t r:=by
 unfold wantT at h;unfold DI
 cases ts with
 |nil=>cases h
 | cons a b=>
  dsimp only at h ⊢;split at h
  ·rename_i e;rw[if_pos e];cases h;rfl
  ·cases h
theorem mustO_sub {L:List (List UInt8)}{ts r:List Item}{u:Unit}(h:CD L ts=.ok u r):∀i∈r,i∈ts:=by
 induction L generalizing ts with
 |nil=>unfold CD at h;cases h;exact fun i hi=>hi
 | cons s l ih=>
  unfold CD at h;split at h
  ·exact fun i hi=>List.mem_of_mem_tail (ih h i hi)
  ·cases h
def Sub {α:Type}(p q:List Item→Option (α×List Item)):Prop:=∀ts x,p ts=some x→q ts=some x
theorem rowL_sub {p q:List Item→Option (Ex×List Item)}(h:Sub p q)(ops:List Nat):∀(f:Nat) (x:Ex) (ts:List Item) (y:Ex×List Item),rowL p ops f x ts=some y→rowL q ops f x ts=some y
 |0,_,_,_,e=>by cases e
 | f+1,x,ts,y,e=>by
  unfold rowL at e ⊢
  cases ho:opOf ops ts with
  |none=>rw[ho]at e;exact e
  | some op=>
   rw[ho]at e;dsimp only at e ⊢
   cases ts with
   |nil=>cases e
   | cons t r=>
    dsimp only at e ⊢
    cases hp:p r with
    |none=>rw[hp]at e;cases e
    | some z=>
     rw[hp]at e;rw[h r z hp];exact rowL_sub h ops f _ _ _ e
theorem rowN_sub {p q:List Item→Option (Ex×List Item)}(h:Sub p q)(ops:List Nat):Sub (rowN p ops) (rowN q ops):=fun ts y e=>by
 unfold rowN at e ⊢
 cases hp:p ts with
 |none=>rw[hp]at e;cases e
 | some z=>
  rw[hp]at e;rw[h ts z hp];exact rowL_sub h ops _ _ _ _ e
theorem rowsN_sub {p q:List Item→Option (Ex×List Item)}(h:Sub p q):Sub (rowsN p) (rowsN q):=
 rowN_sub (rowN_sub (rowN_sub (rowN_sub (rowN_sub (rowN_sub h _) _) _) _) _) _
theorem oneOf_sub {p q p' q':List Item→Option (Ex×List Item)}(h:Sub p q)(h':Sub p' q'):Sub (oneOf p p') (oneOf q q'):=fun ts y e=>by
 unfold oneOf at e ⊢
 cases ts with
 |nil=>cases e
 | cons t r=>
  dsimp only at e ⊢;split
  ·rename_i k;rw[if_pos k]at e
   cases hp:p r with
   |none=>rw[hp]at e;cases e
   |some z=>rw[hp]at e;rw[h r z hp];exact e
  rename_i k;rw[if_neg k]at e
  split
  ·rename_i k;rw[if_pos k]at e
   cases hp:p r with
   |none=>rw[hp]at e;cases e
   |some z=>rw[hp]at e;rw[h r z hp];exact e
  rename_i k;rw[if_neg k]at e
  split
  ·rename_i k;rw[if_pos k]at e
   cases hp:p' r with
   |none=>rw[hp]at e;cases e
   |some z=>rw[hp]at e;rw[h' r z hp];exact e
  rename_i k;rw[if_neg k]at e
  split
  ·rename_i k;rw[if_pos k]at e;exact e
  rename_i k;rw[if_neg k]at e
  split
  ·rename_i k;rw[if_pos k]at e
   split
   ·rename_i k;rw[if_pos k]at e
    cases hp:p' r.tail with
    |none=>rw[hp]at e;cases e
    |some z=>rw[hp]at e;rw[h' r.tail z hp];exact e
   ·rename_i k;rw[if_neg k]at e;exact e
  ·rename_i k;rw[if_neg k]at e;cases e
theorem oneP_sub:∀f g:Nat,f≤g→Sub (oneP f) (oneP g)
 |0,_,_=>fun ts y e=>by cases e
 |f+1,0,h=>absurd h (by omega)
 | f+1,g+1,h=>by
  have:=oneP_sub f g (by omega);exact oneOf_sub this (rowsN_sub this)
theorem exO_of {f g:Nat}{F:List Item→Option (List Item)}{ts r:List Item}{x:Ex}(hfg:f≤g)(h:exP f ts=some (x,r)):exO g F ts=.ok x r:=by
 unfold exO;rw[show exP g ts=some (x,r)from rowsN_sub (oneP_sub f g hfg) ts _ h]
section
variable {f g : Nat}{F : List Item→Option (List Item)}(hfg : f≤g)
theorem goM {β γ:Type}{L:List (List UInt8)}{ts:List Item}{k:List Item→Option β}{k':Unit→List Item→Oc γ}{q:β}{o:Oc γ}(h:(match CQ L ts with|none=>none|some r=>k r)=some q)(hk:∀r,k r=some q→k' () r=o):(CD L ts).bind k'=o:=by
 cases e:CQ L ts with
 |none=>rw[e]at h;cases h
 |some r=>rw[e]at h;rw[mustO_of e];exact hk r h
theorem goW {β γ:Type}{n:Nat}{ts:List Item}{k:Item→List Item→Option β}{k':Item→List Item→Oc γ}{q:β}{o:Oc γ}(h:(match wantT n ts with|none=>none|some (t,r)=>k t r)=some q)(hk:∀t r,k t r=some q→k' t r=o):(DI n ts).bind k'=o:=by
 cases e:wantT n ts with
 |none=>rw[e]at h;cases h
 |some x=>rw[e]at h;rw[wantO_of (t:=x.1) (r:=x.2) e];exact hk x.1 x.2 h
include hfg in
theorem goX {β γ:Type}{ts:List Item}{k:Ex→List Item→Option β}{k':Ex→List Item→Oc γ}{q:β}{o:Oc γ}(h:(match exP f ts with|none=>none|some (x,r)=>k x r)=some q)(hk:∀x r,k x r=some q→k' x r=o):(exO g F ts).bind k'=o:=by
 cases e:exP f ts with
 |none=>rw[e]at h;cases h
 |some x=>rw[e]at h;rw[exO_of (x:=x.1) (r:=x.2) hfg e];exact hk x.1 x.2 h
theorem goB {β γ:Type}{p:List Item→Option (List St×List Item)}{p':List Item→Oc (List St)}(hp:∀ts x r,p ts=some (x,r)→p' ts=.ok x r){ts:List Item}{k:List St→List Item→Option β}{k':List St→List Item→Oc γ}{q:β}{o:Oc γ}(h:(match p ts with|none=>none|some (x,r)=>k x r)=some q)(hk:∀x r,k x r=some q→k' x r=o):(p' ts).bind k'=o:=by
 cases e:p ts with
 |none=>rw[e]at h;cases h
 |some x=>rw[e]at h;rw[hp ts x.1 x.2 e];exact hk x.1 x.2 h
theorem goK {β γ:Type}{p:List Item→Option (List Ct×List Item)}{p':List Item→Oc (List Ct)}(hp:∀ts x r,p ts=some (x,r)→p' ts=.ok x r){ts:List Item}{k:List Ct→List Item→Option β}{k':List Ct→List Item→Oc γ}{q:β}{o:Oc γ}(h:(match p ts with|none=>none|some (x,r)=>k x r)=some q)(hk:∀x r,k x r=some q→k' x r=o):(p' ts).bind k'=o:=by
 cases e:p ts with
 |none=>rw[e]at h;cases h
 |some x=>rw[e]at h;rw[hp ts x.1 x.2 e];exact hk x.1 x.2 h
theorem goC {β γ:Type}{p:List Item→Option ((Nat×List UInt8×List Ex)×List Item)}{p':List Item→Oc (Nat×List UInt8×List Ex)}(hp:∀ts x r,p ts=some (x,r)→p' ts=.ok x r){ts:List Item}{k:Nat→List UInt8→List Ex→List Item→Option β}{k':Nat×List UInt8×List Ex→List Item→Oc γ}{q:β}{o:Oc γ}(h:(match p ts with|none=>none|some ((a,b,c),r)=>k a b c r)=some q)(hk:∀a b c r,k a b c r=some q→k' (a,b,c) r=o):(p' ts).bind k'=o:=by
 cases e:p ts with
 |none=>rw[e]at h;cases h
 |some x=>obtain⟨⟨a,b,c⟩,r⟩:=x;rw[e]at h;rw[hp ts _ _ e];exact hk a b c r h
include hfg in
theorem callP_O {v:List UInt8}(ts:List Item)(q:Nat×List UInt8×List Ex)(r:List Item)(h:callP f v ts=some (q,r)):callO g F v ts=.ok q r:=by
 unfold callP at h
 cases ts with
 |nil=>cases h
 | cons t r0=>
  dsimp only at h;split at h
  ·cases h
  ·rename_i hop
   unfold callO opO;dsimp only;rw[if_neg hop,CH];refine goM h fun r1 h=>goW h fun c r2 h=>?_;unfold argO;split at h
   ·rename_i k;rw[if_pos k,CH];exact goM h fun r3 h=>by cases h;rfl
   ·rename_i k;rw[if_neg k,Oc.assoc]
    refine goM h fun r3 h=>?_;rw[Oc.assoc];exact goX hfg h fun x r4 h=>goM h fun r3 h=>by cases h;rfl
include hfg in
theorem plainP_O (t0:Item)(ts r:List Item)(s:St)(h:plainP f t0 ts=some (s,r)):plainO g F t0.line t0.col ts=.ok s r:=by
 unfold plainP at h;unfold plainO;refine goW h fun n r1 h=>?_;split at h
 ·rename_i k;rw[if_pos k]
  exact goX hfg h fun a r h=>goM h fun r h=>goX hfg h fun x r h=>goM h fun r h=>by cases h;rfl
 rename_i k;rw[if_neg k]
 split at h
 ·rename_i k;rw[if_pos k]
  refine goW h fun m r h=>goM h fun r h=>goC (callP_O (g:=g) (F:=F) hfg) h fun a b c r h=>?_
  cases h;rfl
 ·rename_i k;rw[if_neg k]
  refine goM h fun r h=>?_
  cases r with
  |nil=>cases h
  | cons t1 r1=>
   dsimp only at h;split at h
   ·rename_i k;rw[if_pos (show DJ (t1::r1)=1 from k)]
    refine goC (callP_O (g:=g) (F:=F) hfg) h fun a b c r h=>?_
    cases h;rfl
   ·rename_i k;rw[if_neg (show ¬DJ (t1::r1)=1 from k)]
    exact goX hfg h fun x r h=>goM h fun r h=>by cases h;rfl
end
theorem stmtsL_O {p:List Item→Option (St×List Item)}{p':List Item→Oc St}(hp:∀ts x r,p ts=some (x,r)→p' ts=.ok x r)(hd:LessS p'):∀(f f':Nat) (ts:List Item) (l:List St) (r:List Item),ts.length<f'→stmtsL p f ts=some (l,r)→stmtsO p' f' ts=.ok l r
 |0,_,_,_,_,_,h=>by cases h
 |f+1,0,_,_,_,hf,_=>absurd hf (Nat.not_lt_zero _)
 | f+1,f'+1,ts,l,r,hf,h=>by
  unfold stmtsL at h;unfold stmtsO;split at h
  ·rename_i k;rw[if_pos k];cases h;rfl
  ·rename_i k;rw[if_neg k]
   cases e:p ts with
   |none=>rw[e]at h;cases h
   | some x=>
    obtain⟨s,m⟩:=x;rw[e]at h;have:=hd _ _ _ (hp _ _ _ e);rw[hp _ _ _ e,CH];dsimp only at h
    cases e2:stmtsL p f m with
    |none=>rw[e2]at h;cases h
    | some y=>
     rw[e2]at h;rw[stmtsL_O hp hd f f' m y.1 y.2 (by omega) e2]
     cases h;rfl
theorem blockOf_O {p:List Item→Option (St×List Item)}{p':List Item→Oc St}(hp:∀ts x r,p ts=some (x,r)→p' ts=.ok x r)(hd:LessS p')(ts:List Item)(l:List St)(r:List Item)(h:blockOf p ts=some (l,r)):blockO p' ts=.ok l r:=by
 unfold blockOf at h;split at h
 ·rename_i k
  unfold blockO;rw[show CD [[123]] ts=.ok () ts.tail from mustO_of (by unfold CQ;rw[if_pos k];rfl),CH];exact stmtsL_O hp hd _ _ _ _ _ (Nat.lt_succ_self _) h
 ·cases h
theorem stmtP_O (g:Nat)(F:List Item→Option (List Item)):∀f:Nat,f≤g+1→∀(ts:List Item) (s:St) (r:List Item),stmtP f ts=some (s,r)→∀f',f≤f'→stmtO g F f' ts=.ok s r
 |0,_,_,_,_,h,_,_=>by cases h
 |f+1,_,_,_,_,_,0,h=>absurd h (by omega)
 | f+1,hg,ts,s,r,h,f'+1,hf=>by
  have hfg:f≤g:=by omega
  have HB:∀ts x r,blockOf (stmtP f) ts=some (x,r)→blockO (stmtO g F f') ts=.ok x r:=blockOf_O (fun ts x r h=>stmtP_O g F f (by omega) ts x r h f' (by omega)) (stmtO_less g F f');unfold stmtP at h;unfold stmtO stmtB
  cases ts with
  |nil=>cases h
  | cons t r0=>
   dsimp only at h ⊢;split at h
   ·rename_i k;rw[if_pos k]
    exact goW h fun n r h=>goM h fun r h=>goX hfg h fun x r h=>goM h fun r h=>by cases h;rfl
   rename_i k;rw[if_neg k]
   split at h
   ·rename_i k;rw[if_pos k]
    exact goW h fun n r h=>goM h fun r h=>goW h fun x r h=>goM h fun r h=>by cases h;rfl
   rename_i k;rw[if_neg k]
   split at h
   ·rename_i k;rw[if_pos k]
    refine goX hfg h fun x r h=>goB HB h fun a r h=>?_;split at h
    ·rename_i k;rw[if_pos k];exact goB HB h fun b r h=>by cases h;rfl
    ·rename_i k;rw[if_neg k];cases h;rfl
   rename_i k;rw[if_neg k]
   split at h
   ·rename_i k;rw[if_pos k]
    exact goX hfg h fun x r h=>goB HB h fun a r h=>by cases h;rfl
   rename_i k;rw[if_neg k]
   split at h
   ·rename_i k;rw[if_pos k]
    exact goX hfg h fun x r h=>goM h fun r h=>by cases h;rfl
   rename_i k;rw[if_neg k]
   split at h
   ·rename_i k;rw[if_pos k]
    exact goX hfg h fun x r h=>goM h fun r h=>by cases h;rfl
   rename_i k;rw[if_neg k]
   exact plainP_O hfg t _ _ _ h
theorem contsP_O:∀(f:Nat) (ts:List Item) (l:List Ct) (r:List Item),contsP f ts=some (l,r)→contsO f ts=.ok l r
 |0,_,_,_,h=>by cases h
 | f+1,ts,l,r,h=>by
  unfold contsP at h;unfold contsO
  cases ts with
  |nil=>cases h;rfl
  | cons t r0=>
   dsimp only at h ⊢;split at h
   ·rename_i k;rw[if_pos k];cases h;rfl
   ·rename_i k;rw[if_neg k]
    exact goW h fun n r h=>goM h fun r h=>goK (contsP_O f) h fun x r h=>by cases h;rfl
theorem threadsP_O {g:Nat}{blk:List Item→Oc (List St)}(hb:∀ts x r,blockP g ts=some (x,r)→blk ts=.ok x r):∀(f:Nat) (ts:List Item) (l:List (List St)),threadsP g f ts=some l→threadsO blk f ts=.ok l []
 |0,_,_,h=>by cases h
 | f+1,ts,l,h=>by
  unfold threadsP at h;unfold threadsO
  cases ts with
  |nil=>cases h;rfl
  | cons t r0=>
   dsimp only at h ⊢;refine goM h fun r h=>goB hb h fun b r h=>?_
   cases e:threadsP g f r with
   |none=>rw[e]at h;cases h
   |some x=>rw[e]at h;rw[threadsP_O hb f r x e];cases h;rfl
theorem progP_O {f g:Nat}(F:List Item→Option (List Item))(hg:f≤g){ts:List Item}{pr:Pr}(h:progP f ts=some pr):progO (blockO (stmtO g F g)) ts=.ok pr []:=by
 unfold progP at h;unfold progO;refine goM h fun r h=>goW h fun n r h=>goM h fun r h=>goK (contsP_O _) h fun cs r h=>?_
 cases e:threadsP f (r.length+1) r with
 |none=>rw[e]at h;cases h
 |some x=>rw[e]at h;rw[threadsP_O (blk:=blockO (stmtO g F g)) (fun ts x r h=>blockOf_O (fun ts x r h=>stmtP_O g F f (by omega) ts x r h g hg) (stmtO_less g F g) ts x r h) _ _ _ e];cases h;rfl
theorem ChainCE.mono {E E':List Item→Prop}(h:∀ts,E ts→E' ts):∀(l:List Ct) (ts:List Item),ChainCE E l ts→ChainCE E' l ts
 |[],ts,hc=>h ts hc
 | _::l,_,hc=>by
  obtain⟨t,n,r1,r2,h1,h2,h3,h4,h5,h6,h7⟩:=hc;exact⟨t,n,r1,r2,h1,h2,h3,h4,h5,h6,ChainCE.mono h l r2 h7⟩
theorem ChainTE.mono {P:List Item→List St→List Item→Prop}{E E':List Item→Prop}(h:∀ts,E ts→E' ts):∀(l:List (List St)) (ts:List Item),ChainTE P E l ts→ChainTE P E' l ts
 |[],ts,hc=>h ts hc
 | _::l,_,hc=>by
  obtain⟨r,m,h1,h2,h3,h4⟩:=hc;exact⟨r,m,h1,h2,h3,ChainTE.mono h l m h4⟩
def WordI (its:List Item):Prop:=∀t∈its,ofL kindL t.tok.text≠0→t.tok.kind=1
def EndC2 (o:Oc (List Ct))(cs:List Ct)(ts:List Item):Prop:=
 (o=.ok cs ts∧ts.length≤1000000∧∀t r0,ts=t::r0→ofL kindL t.tok.text=0)∨
 ∃t r bb,ts=t::r∧t.tok.kind=1∧ofL kindL t.tok.text≠0∧o=.bad bb∧(DI 2 r=.bad bb∨∃n r1,DI 2 r=.ok n r1∧CD [[59]] r1=.bad bb)
theorem contsJ:∀(f:Nat) (ts:List Item),ts.length≤1000000→WordI ts→contsO f ts≠.no→∃cs,cs.length≤ts.length∧ChainCE (EndC2 (contsO f ts) cs) cs ts
 |0,_,_,_,h=>absurd rfl h
 | f+1,ts,hl,hk,hn=>by
  unfold contsO at hn ⊢
  cases ts with
  |nil=>exact⟨[],Nat.zero_le _,.inl ⟨rfl,hl,fun t r0 e=>by cases e⟩⟩
  | cons t r=>
   rw[LC]at hl;dsimp only at hn ⊢;by_cases hc:ofL kindL t.tok.text=0∨t.tok.kind≠1
   ·rw[if_pos hc];refine⟨[],Nat.zero_le _,.inl ⟨rfl,by rw[LC];omega,fun t' r' e=>?_⟩⟩
    cases e;rcases hc with h|h
    ·exact h
    ·exact Classical.byContradiction fun e=>h (hk t (List.mem_cons_self ..) e)
   ·rw[if_neg hc]at hn ⊢;have hk1:t.tok.kind=1:=Classical.byContradiction fun e=>hc (.inr e);have h0:ofL kindL t.tok.text≠0:=fun e=>hc (.inl e)
    cases h1:DI 2 r with
    |no=>exact absurd h1 (wantO_no _ _)
    |bad b=>exact⟨[],Nat.zero_le _,.inr ⟨t,r,b,rfl,hk1,h0,rfl,.inl h1⟩⟩
    | ok n r1=>
     rw[h1,CH]at hn;rw[CH];obtain⟨e1,e2⟩:=FB h1
     cases h2:CD [[59]] r1 with
     |no=>exact absurd h2 (mustO_no _ _)
     |bad b=>exact⟨[],Nat.zero_le _,.inr ⟨t,r,b,rfl,hk1,h0,rfl,.inr ⟨n,r1,h1,h2⟩⟩⟩
     | ok u r2=>
      rw[h2,CH]at hn;rw[CH];have l1:=wantO_len h1;have l2:=CX h2;obtain⟨cs,a1,a2⟩:=contsJ f r2 (by omega) (fun i hi=>hk i (List.mem_cons_of_mem _ (by rw[e1];exact List.mem_cons_of_mem _ (mustO_sub h2 i hi)))) (fun e=>hn (by rw[e];rfl));refine⟨⟨ofL kindL t.tok.text,n.tok.text,t.line,t.col⟩::cs,by simp only[LC];omega,t,n,r1,r2,by rw[e1],hk1,h0,e2,CW h2,rfl,ChainCE.mono (fun ts h=>?_) _ _ a2⟩;rcases h with⟨h,h'⟩|⟨t,r,bb,g1,g2,g3,g4,g5⟩
      ·exact .inl ⟨by rw[h];rfl,h'⟩
      ·exact .inr ⟨t,r,bb,g1,g2,g3,by rw[g4];rfl,g5⟩
section
variable {R el ec : Nat}{blk : List Item→Oc (List St)}(hL : LessB blk)(hB : ∀ts, ts.length≤1000000→blk ts≠.no→DoesB R el ec ts (blk ts))
include hL hB
theorem threadsJ:∀(f:Nat) (ts:List Item),ts.length≤1000000→threadsO blk f ts≠.no→∃l,l.length≤ts.length∧ChainTE (fun ts b m=>DoesB R el ec ts (.ok b m)) (fun r=>(r=[]∧threadsO blk f ts=.ok l [])∨(r≠[]∧∃b,threadsO blk f ts=.bad b∧(CD [[116,104,114,101,97,100]] r=.bad b∨∃ts1,CQ [[116,104,114,101,97,100]] r=some ts1∧DoesB R el ec ts1 (.bad b)))) l ts
 |0,_,_,h=>absurd rfl h
 | f+1,ts,hl,hn=>by
  unfold threadsO at hn ⊢
  cases ts with
  |nil=>exact⟨[],Nat.zero_le _,.inl ⟨rfl,rfl⟩⟩
  | cons t r0=>
   dsimp only at hn ⊢
   cases h1:CD [[116,104,114,101,97,100]] (t::r0) with
   |no=>exact absurd h1 (mustO_no _ _)
   |bad b=>exact⟨[],Nat.zero_le _,.inr ⟨by simp,b,rfl,.inl h1⟩⟩
   | ok u r1=>
    rw[h1,CH]at hn;rw[CH];have l1:=CX h1;have hd:=hB r1 (by omega)
    cases h2:blk r1 with
    |no=>rw[h2]at hn;exact absurd rfl hn
    | bad b=>
     rw[h2]at hd;exact⟨[],Nat.zero_le _,.inr ⟨by simp,b,rfl,.inr ⟨r1,CW h1,hd fun h=>by cases h⟩⟩⟩
    | ok s r2=>
     rw[h2,CH]at hn;rw[h2]at hd;rw[CH];have l2:=hL _ _ _ h2;obtain⟨l,a1,a2⟩:=threadsJ f r2 (by omega) (fun e=>hn (by rw[e];rfl));refine⟨s::l,by rw[LC];omega,r1,r2,CW h1,hd (fun h=>by cases h),by omega,ChainTE.mono (fun ts h=>?_) _ _ a2⟩;rcases h with⟨g1,g2⟩|⟨g1,b,g2,g3⟩
     ·exact .inl ⟨g1,by rw[g2];rfl⟩
     ·exact .inr ⟨g1,b,by rw[g2];rfl,g3⟩
theorem progO_does (its:List Item)(hl:its.length≤1000000)(hk:WordI its)(hn:progO blk its≠.no)(w:World)(hr:BG w R its el ec):
  Calls Tryz.prog 58 #[rdV R] w fun e w'=>OutG w R el ec (progO blk its) e w':=by
 unfold progO at hn ⊢
 cases h1:CD [[112,111,111,108]] its with
 |no=>exact absurd h1 (mustO_no _ _)
 |bad b=>exact program_headF R el ec its b (by rw[h1];rfl) w hr
 | ok u r0=>
  rw[h1,CH]at hn;rw[CH];have l1:=CX h1
  cases h2:DI 3 r0 with
  |no=>exact absurd h2 (wantO_no _ _)
  |bad b=>exact program_headF R el ec its b (by rw[h1,CH,h2];rfl) w hr
  | ok n r1=>
   rw[h2,CH]at hn;rw[CH];have l2:=wantO_len h2;obtain⟨e1,e2⟩:=FB h2
   cases h3:CD [[59]] r1 with
   |no=>exact absurd h3 (mustO_no _ _)
   |bad b=>exact program_headF R el ec its b (by rw[h1,CH,h2,CH,h3];rfl) w hr
   | ok u2 r2=>
    rw[h3,CH]at hn;rw[CH];have l3:=CX h3;have hk2:WordI r2:=fun i hi=>hk i (mustO_sub h1 i (by rw[e1];exact List.mem_cons_of_mem _ (mustO_sub h3 i hi)));obtain⟨cs,a1,a2⟩:=contsJ (r2.length+1) r2 (by omega) hk2 (fun e=>hn (by rw[e];rfl));refine programJ R el ec its r1 r2 n cs _ (fun ts b m=>DoesB R el ec ts (.ok b m)) (fun _ _ _ h=>h) (by rw[←e1];exact CW h1) e2 (CW h3) (ChainCE.mono (fun ts h=>?_) _ _ a2) (by omega) w hr;rcases h with⟨g1,g2,g3⟩|⟨t,r,bb,g1,g2,g3,g4,g5⟩
    ·rw[g1,CH]at hn ⊢;obtain⟨ths,b1,b2⟩:=threadsJ hL hB (ts.length+1) ts g2 (fun e=>hn (by rw[e];rfl));refine .inl ⟨g3,ths,by omega,ChainTE.mono (fun ts h=>?_) _ _ b2⟩;rcases h with⟨f1,f2⟩|⟨f1,b,f2,f3⟩
     ·exact .inl ⟨f1,by rw[f2];rfl⟩
     ·exact .inr ⟨f1,b,by rw[f2];rfl,f3⟩
    ·exact .inr ⟨t,r,bb,g1,g2,g3,by rw[g4];rfl,g5⟩
end
theorem progG_does (g R el ec:Nat)(its:List Item)(hl:its.length≤1000000)(hk:WordI its)(hn:progO (blockO (stmtO g (exFo g) g)) its≠.no)(w:World)(hr:BG w R its el ec):
  Calls Tryz.prog 58 #[rdV R] w fun e w'=>OutG w R el ec (progO (blockO (stmtO g (exFo g) g)) its) e w':=
 progO_does (blockO_less (stmtO_less g (exFo g) g)) (fun ts hl h=>blockO_does R el ec (stmtO_less g (exFo g) g) (stmtO_does R el ec g (exFo g) (faultsE_ex g R el ec) g) ts hl h) its hl hk hn w hr
theorem reads_of {g R el ec:Nat}{its r:List Item}{pr:Pr}(hl:its.length≤1000000)(hk:WordI its)(h:progO (blockO (stmtO g (exFo g) g)) its=.ok pr r):ReadsP R el ec its pr:=fun w hr=>by
 have:=progG_does g R el ec its hl hk (by rw[h];exact fun e=>by cases e) w hr;rw[h]at this;exact this
theorem progP_reads (R el ec f:Nat)(its:List Item)(pr:Pr)(hl:its.length≤1000000)(hk:WordI its)(h:progP f its=some pr):ReadsP R el ec its pr:=
 reads_of hl hk (progP_O (exFo f) (Nat.le_refl f) h)
def gcL (c:Gc):List Value:=[.int .i64 c.kind,strV c.name,.int .i64 c.line,.int .i64 c.col]
def gcCells (l:List Gc):List Value:=(l.map gcL).flatten
theorem gcCells_length (l:List Gc):(gcCells l).length=l.length * 4:=by
 unfold gcCells
 induction l with
 |nil=>rfl
 |cons c l ih=>rw[List.map_cons,List.flatten_cons,LA,ih,LC];simp only[gcL,LC,List.length_nil];omega
theorem gcCells_one (l:List Gc):∀u∈gcCells l,u.oneCell'=true:=by
 intro u hu;unfold gcCells at hu;obtain⟨x,hx,hu⟩:=List.mem_flatten.1 hu;obtain⟨c,-,rfl⟩:=List.mem_map.1 hx;unfold gcL strV at hu;simp only[List.mem_cons,List.not_mem_nil,or_false]at hu;rcases hu with rfl|rfl|rfl|rfl<;>rfl
theorem gcCells_at:∀(l:List Gc) (i t:Nat) (hi:i<l.length),t<4→(gcCells l)[i * 4+t]?=(gcL l[i])[t]?
 | c::l,0,t,_,ht=>by
  unfold gcCells;rw[List.map_cons,List.flatten_cons,Nat.zero_mul,Nat.zero_add,List.getElem?_append_left (by simp[gcL];omega)];rfl
 | c::l,i+1,t,hi,ht=>by
  have h:=gcCells_at l i t (by simpa using hi) ht;unfold gcCells at h ⊢;rw[List.map_cons,List.flatten_cons,List.getElem?_append_right (by simp[gcL];omega)];rw[show (i+1) * 4+t - (gcL c).length=i * 4+t by simp[gcL];omega];simpa using h
 |[],i,_,hi,_=>absurd hi (by simp)
theorem GCts.adds {w:World}{S:Nat→Prop}{a:Addr}{l:List Gc}(h:GCts w S (some a) l):∀j u,(gcCells l)[j]?=some u→w.cell? (a.add j)=some u:=fun j u hj=>by
 have hlt:j<l.length * 4:=by rw[←gcCells_length];exact(List.getElem?_eq_some_iff.1 hj).1
 have hi:j / 4<l.length:=by omega
 have ht:j % 4<4:=Nat.mod_lt _ (by decide);obtain⟨g,o,e,-,x0,x1,x2,x3⟩:=h (j / 4) hi
 cases e;rw[add_off];have h4:=gcCells_at l (j / 4) (j % 4) hi ht;rw[show j / 4 * 4+j % 4=j by omega,hj]at h4;have hd:o+j=o+j / 4 * 4+j % 4:=by omega
 rw[hd];generalize j % 4=t at *;unfold gcL at h4
 match t,ht with
 |0,_=>cases h4;exact x0
 |1,_=>cases h4;exact x1
 |2,_=>cases h4;exact x2
 |3,_=>cases h4;exact x3
theorem GCts.of_cells {w:World}{S:Nat→Prop}{g:Nat}(hS:S g){l:List Gc}(h:∀j u,(gcCells l)[j]?=some u→w.cell? ⟨g,j,none⟩=some u):GCts w S (some ⟨g,0,none⟩) l:=fun i hi=>by
 have hc:=fun t (ht:t<4)=>gcCells_at l i t hi ht;have h0:=h (i * 4+0) _ ((hc 0 (by decide)).trans rfl);have h1:=h (i * 4+1) _ ((hc 1 (by decide)).trans rfl);have h2:=h (i * 4+2) _ ((hc 2 (by decide)).trans rfl);have h3:=h (i * 4+3) _ ((hc 3 (by decide)).trans rfl);refine⟨g,0,rfl,hS,?_,?_,?_,?_⟩
 ·rw[Nat.zero_add];exact h0
 ·rw[Nat.zero_add];exact h1
 ·rw[Nat.zero_add];exact h2
 ·rw[Nat.zero_add];exact h3
theorem GCts.inHeap {w:World}{S:Nat→Prop}{p:Option Addr}{l:List Gc}(h:GCts w S p l):GCts w (fun b=>S b∧b<w.heap.size) p l:=
 h.keepS fun _ _ _ hb hc=>⟨hc,hb,World.block_lt_of_cell? w _ hc⟩
theorem PAt.mono {w:World}{S S':Nat→Prop}(hS:∀b,S b→S' b){v:Value}{p:Gp}(h:PAt w S v p):PAt w S' v p:=by
 obtain⟨p1,c1,p2,c2,h1,h2,h3⟩:=h;exact⟨p1,c1,p2,c2,h1,h2.mono hS,h3.mono hS⟩
theorem PrgAt.toP {w:World}{S:Nat→Prop}{vs:List Value}{pr:Pr}(h:PrgAt w S vs pr):PAt w S (.agg vs.toArray) (toP pr):=by
 obtain⟨p,c,q,d,rfl,hc,ht⟩:=h;refine⟨p,c,q,d,by unfold Go.Proofs.YtknnmidnodeanaaGreatDoor.toP;simp,?_,?_⟩
 ·rcases hc with h0|⟨g,rfl,hS,hg⟩
  ·unfold Go.Proofs.YtknnmidnodeanaaGreatDoor.toP;rw[h0];exact fun i hi=>absurd hi (by simp)
  ·refine GCts.of_cells hS ?_
   have e:gcCells (Go.Proofs.YtknnmidnodeanaaGreatDoor.toP pr).conts=(pr.conts.map ctV).flatten:=by
    unfold gcCells Go.Proofs.YtknnmidnodeanaaGreatDoor.toP;rw[List.map_map];rfl
   rw[e];exact hg
 ·obtain⟨sl,hl,hg,he⟩:=ht;rcases hg with h0|⟨g,rfl,hS,hg⟩
  ·unfold Go.Proofs.YtknnmidnodeanaaGreatDoor.toP;rw[h0];exact fun i hi=>absurd hi (by simp)
  ·intro i hi;have hi':i<pr.threads.length:=by unfold Go.Proofs.YtknnmidnodeanaaGreatDoor.toP at hi;simpa using hi
   obtain⟨q2,c2,e1,e2⟩:=he i (by omega) hi';have ei:(Go.Proofs.YtknnmidnodeanaaGreatDoor.toP pr).threads[i]=toSL pr.threads[i]:=by simp only[Go.Proofs.YtknnmidnodeanaaGreatDoor.toP,List.getElem_map]
   refine⟨g,0,q2,c2,rfl,hS,?_,?_⟩
   ·rw[ei,toSL_len,Nat.zero_add];exact hg i _ (by rw[List.getElem?_eq_getElem (by omega),e1])
   ·rw[ei];exact e2.toS
theorem gcts_same {w w':World}{S:Nat→Prop}{p:Option Addr}{l:List Gc}(h:GCts w S p l)(hb:∀b,S b→w'.heap[b]?=w.heap[b]?):GCts w' S p l:=
 h.keepS fun b o v hS hc=>⟨by simpa [World.cell?,hb b hS]using hc,hS⟩
structure GCw (w:World)(S:Nat→Prop)(p:Option Addr)(l:List Gc):Prop where
 cts:GCts w S p l
 row:l≠[]→∃g cur,p=some ⟨g,0,none⟩∧S g∧w.heap[g]?=some (.cells cur TCt (0,0))
theorem GCw.same {w w':World}{S:Nat→Prop}{p:Option Addr}{l:List Gc}(h:GCw w S p l)(hb:∀b,S b→w'.heap[b]?=w.heap[b]?):GCw w' S p l:=
 ⟨gcts_same h.cts hb,fun hl=>by obtain⟨g,cur,h1,h2,h3⟩:=h.row hl;exact⟨g,cur,h1,h2,(hb g h2).trans h3⟩⟩
theorem GCw.mono {w:World}{S S':Nat→Prop}(hS:∀b,S b→S' b){p:Option Addr}{l:List Gc}(h:GCw w S p l):GCw w S' p l:=
 ⟨h.cts.mono hS,fun hl=>by obtain⟨g,cur,h1,h2,h3⟩:=h.row hl;exact⟨g,cur,h1,hS _ h2,h3⟩⟩
theorem GCw.inHeap {w:World}{S:Nat→Prop}{p:Option Addr}{l:List Gc}(h:GCw w S p l):GCw w (fun b=>S b∧b<w.heap.size) p l:=
 ⟨h.cts.inHeap,fun hl=>by obtain⟨g,cur,h1,h2,h3⟩:=h.row hl;exact⟨g,cur,h1,⟨h2,(AG.1 h3).1⟩,h3⟩⟩
theorem GCw.keep {E:Nat→Prop}{w w':World}{S:Nat→Prop}(k:BA E w w')(hE:∀b,S b→¬E b){p:Option Addr}{l:List Gc}(h:GCw w S p l):GCw w' S p l:=
 ⟨h.cts.keep k hE,fun hl=>by obtain⟨g,cur,h1,h2,h3⟩:=h.row hl;exact⟨g,cur,h1,h2,k.blkE h3 (hE g h2)⟩⟩
theorem row_blk {w:World}{base k n c g:Nat}{e:TypeId}{xs:List Value}(h:w.ownsRow base e k (.slice (some ⟨g,0,none⟩) n c) n xs):∃cur,w.heap[g]?=some (.cells cur e (0,0)):=by
 rcases h.2 with⟨h1,-⟩|⟨g',cap,cur,h1,h2,h3,-⟩
 ·cases h1
 ·cases h1;exact⟨cur,h3⟩
theorem ct_slice:Tryz.prog.underlying 22=some (.slice TCt):=by kernel_rfl
theorem info_ct:(Tryz.prog.info? TCt).map (fun i=>(i.zero,i.size,i.bytes))=some (some (.agg #[.int .i64 0,.string ⟨#[]⟩,.int .i64 0,.int .i64 0]),4,40):=by kernel_rfl
theorem ownCt_any (w : World)(S : Nat→Prop)(p : Option Addr)(c : Nat)(l : List Gc)(hrd : GCts w S p l)(hl : l.length≤1099511627776) :
    Calls Tryz.prog 26 #[.slice p l.length c] w fun e w' => ∃q d, e = .returned (.slice q l.length d)∧GCw w' (fun b => w.heap.size≤b) q l∧BA (fun _ => False) w w' := by
  have done : ∀(v' : Value) (w' : World), w'.ownsRow w.heap.size TCt 4 v' l.length (gcCells l)→∃q d, v' = .slice q l.length d∧GCw w' (fun b => w.heap.size≤b) q l := fun v' w' h => by
    obtain⟨q, d, hv, hc⟩ := rowS_some h;refine⟨q, d, hv, ?_⟩;rcases hc with h0|⟨g, rfl, hc⟩
    · rw[List.eq_nil_of_length_eq_zero h0];exact⟨fun i hi => absurd hi (by simp), fun h => absurd rfl h⟩
    · rw[hv]at h;obtain⟨cur, h3⟩ := row_blk h;have hb := (h.lt g rfl).1;exact⟨GCts.of_cells hb hc, fun _ => ⟨g, cur, rfl, hb, h3⟩⟩
  cases p with
  | none =>
    have : l = [] := by
      cases l with
      |nil => rfl
      | cons x l =>
        obtain⟨g, o, e, _⟩ := hrd 0 (by simp)
        cases e
    subst this;go_enter Tryz.func26, Tryz.ntmps26;go_wp2_with fail;go_ret;exact⟨some ⟨w.heap.size, 0, none⟩, 0, rfl, ⟨fun i hi => absurd hi (Nat.not_lt_zero _), fun h => absurd rfl h⟩, BA.alloc _ _ _⟩
  | some a =>
    have hA := BA.alloc (fun _ => False) w (.cells #[] TCt);have hr := Lib.hid ((hrd.keep hA fun _ _ e => e).adds);have ho := Lib.hid (show (w.alloc (.cells #[] TCt)).ownsRow w.heap.size TCt 4 (.slice (some ⟨w.heap.size, 0, none⟩) 0 0) 0 (gcCells []) from⟨rfl, .inr ⟨w.heap.size, 0, #[], rfl, Nat.le_refl _, heap_alloc_new w _, Nat.le_refl _, Nat.zero_le _, rfl, rfl⟩⟩);obtain⟨i0, hi, hz0, hz1, hz2⟩ := info_parts info_ct;have HI := Lib.hid hi; have HZ0 := Lib.hid hz0; have HZ1 := Lib.hid hz1; have HZ2 := Lib.hid hz2; have HDN := Lib.hid done;clear hrd hA hi hz0 hz1 hz2 done;go_enter Tryz.func26, Tryz.ntmps26
    go_wp2_with (at_builtin; go_loud (refine wpList_append_own _ rfl (.tmp 3) (.tmp 4) 22 rfl w.heap.size TCt i0 _ 4 40 ct_slice HI.out HZ0.out HZ1.out HZ2.out rfl (by decide) (.slice (some ⟨w.heap.size, 0, none⟩) 0 0) 0 (gcCells []) rfl ho.out a l.length c (gcCells l) rfl (gcCells_length l) hr.out (gcCells_one l) (by unfold maxLen; omega) (by omega) (by simp) ?_)
                 intro v' w' h1 h2 _;have H1 := Lib.hid h1; have H2 := Lib.hid h2;clear h1 h2)
    go_ret;have h9 := H1.out;rw[Nat.zero_add]at h9;obtain⟨q, d, hv, hc⟩ := HDN.out _ _ h9;subst hv;exact⟨q, d, rfl, hc, BA.of_below (((Below.refl w.heap.size w).alloc (Nat.le_refl _) _).grown H2.out (by simp) (fun k hk => by cases hk; exact Nat.le_refl _))⟩
end Go.Proofs.YtknnmidnodeanaaGreatDoor
