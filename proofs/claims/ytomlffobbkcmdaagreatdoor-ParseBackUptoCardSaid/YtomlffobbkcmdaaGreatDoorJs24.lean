import Derived.Test.YtomlffobbkcmdaaGreatDoorJs23
import Derived.Lib.FrozenHead2
namespace Go.Proofs.YtomlffobbkcmdaaGreatDoor
open Go Go.RowKit Own
theorem wantO_of {k:Nat}{ts r:List Item}{t:Item}(h:wantT k ts=some (t,r)):FB k ts=.ok t r:=by
 unfold wantT at h
 unfold FB
 cases ts with
 |nil=>cases h
 | cons a b=>
  dsimp only at h ⊢
  split at h
  ·rename_i e;rw[if_pos e];cases h;rfl
  ·cases h
theorem mustO_sub {L:List (List UInt8)}{ts r:List Item}{u:Unit}(h:CF L ts=.ok u r):∀i∈r,i∈ts:=by
 induction L generalizing ts with
 |nil=>unfold CF at h;cases h;exact fun i hi=>hi
 | cons s l ih=>
  unfold CF at h
  split at h
  ·exact fun i hi=>List.mem_of_mem_tail (ih h i hi)
  ·cases h
def Sub {α:Type}(p q:List Item→Option (α×List Item)):Prop:=∀ts x,p ts=some x→q ts=some x
theorem rowL_sub {p q:List Item→Option (Ex×List Item)}(h:Sub p q)(ops:List Nat):∀(f:Nat) (x:Ex) (ts:List Item) (y:Ex×List Item),rowL p ops f x ts=some y→rowL q ops f x ts=some y
 |0,_,_,_,e=>by cases e
 | f+1,x,ts,y,e=>by
  unfold rowL at e ⊢
  cases ho:opOf ops ts with
  |none=>rw[ho]at e;exact e
  | some op=>
   rw[ho]at e
   dsimp only at e ⊢
   cases ts with
   |nil=>cases e
   | cons t r=>
    dsimp only at e ⊢
    cases hp:p r with
    |none=>rw[hp]at e;cases e
    | some z=>
     rw[hp]at e
     rw[h r z hp]
     exact rowL_sub h ops f _ _ _ e
theorem rowN_sub {p q:List Item→Option (Ex×List Item)}(h:Sub p q)(ops:List Nat):Sub (rowN p ops) (rowN q ops):=fun ts y e=>by
 unfold rowN at e ⊢
 cases hp:p ts with
 |none=>rw[hp]at e;cases e
 | some z=>
  rw[hp]at e
  rw[h ts z hp]
  exact rowL_sub h ops _ _ _ _ e
theorem rowsN_sub {p q:List Item→Option (Ex×List Item)}(h:Sub p q):Sub (rowsN p) (rowsN q):=
 rowN_sub (rowN_sub (rowN_sub (rowN_sub (rowN_sub (rowN_sub h _) _) _) _) _) _
theorem oneOf_sub {p q p' q':List Item→Option (Ex×List Item)}(h:Sub p q)(h':Sub p' q'):Sub (oneOf p p') (oneOf q q'):=fun ts y e=>by
 unfold oneOf at e ⊢
 cases ts with
 |nil=>cases e
 | cons t r=>
  dsimp only at e ⊢
  split
  ·rename_i k;rw[if_pos k]at e
   cases hp:p r with
   |none=>rw[hp]at e;cases e
   |some z=>rw[hp]at e;rw[h r z hp];exact e
  rename_i k;rw[if_neg k]at e
  split
  ·rename_i k;rw[if_pos k]at e
   cases hp:p r with
   |none=>rw[hp]at e;cases e
   |some z=>rw[hp]at e;rw[h r z hp];exact e
  rename_i k;rw[if_neg k]at e
  split
  ·rename_i k;rw[if_pos k]at e
   cases hp:p' r with
   |none=>rw[hp]at e;cases e
   |some z=>rw[hp]at e;rw[h' r z hp];exact e
  rename_i k;rw[if_neg k]at e
  split
  ·rename_i k;rw[if_pos k]at e;exact e
  rename_i k;rw[if_neg k]at e
  split
  ·rename_i k;rw[if_pos k]at e
   split
   ·rename_i k;rw[if_pos k]at e
    cases hp:p' r.tail with
    |none=>rw[hp]at e;cases e
    |some z=>rw[hp]at e;rw[h' r.tail z hp];exact e
   ·rename_i k;rw[if_neg k]at e;exact e
  ·rename_i k;rw[if_neg k]at e;cases e
theorem oneP_sub:∀f g:Nat,f≤g→Sub (oneP f) (oneP g)
 |0,_,_=>fun ts y e=>by cases e
 |f+1,0,h=>absurd h (by omega)
 | f+1,g+1,h=>by
  have:=oneP_sub f g (by omega)
  exact oneOf_sub this (rowsN_sub this)
theorem exO_of {f g:Nat}{F:List Item→Option (List Item)}{ts r:List Item}{x:Ex}(hfg:f≤g)(h:exP f ts=some (x,r)):exO g F ts=.ok x r:=by
 unfold exO
 rw[show exP g ts=some (x,r)from rowsN_sub (oneP_sub f g hfg) ts _ h]
section
variable {f g : Nat}{F : List Item→Option (List Item)}(hfg : f≤g)
theorem goM {β γ:Type}{L:List (List UInt8)}{ts:List Item}{k:List Item→Option β}{k':Unit→List Item→Oc γ}{q:β}{o:Oc γ}(h:(match CY L ts with|none=>none|some r=>k r)=some q)(hk:∀r,k r=some q→k' () r=o):(CF L ts).bind k'=o:=by
 cases e:CY L ts with
 |none=>rw[e]at h;cases h
 |some r=>rw[e]at h;rw[mustO_of e];exact hk r h
theorem goW {β γ:Type}{n:Nat}{ts:List Item}{k:Item→List Item→Option β}{k':Item→List Item→Oc γ}{q:β}{o:Oc γ}(h:(match wantT n ts with|none=>none|some (t,r)=>k t r)=some q)(hk:∀t r,k t r=some q→k' t r=o):(FB n ts).bind k'=o:=by
 cases e:wantT n ts with
 |none=>rw[e]at h;cases h
 |some x=>rw[e]at h;rw[wantO_of (t:=x.1) (r:=x.2) e];exact hk x.1 x.2 h
include hfg in
theorem goX {β γ:Type}{ts:List Item}{k:Ex→List Item→Option β}{k':Ex→List Item→Oc γ}{q:β}{o:Oc γ}(h:(match exP f ts with|none=>none|some (x,r)=>k x r)=some q)(hk:∀x r,k x r=some q→k' x r=o):(exO g F ts).bind k'=o:=by
 cases e:exP f ts with
 |none=>rw[e]at h;cases h
 |some x=>rw[e]at h;rw[exO_of (x:=x.1) (r:=x.2) hfg e];exact hk x.1 x.2 h
theorem goB {β γ:Type}{p:List Item→Option (List St×List Item)}{p':List Item→Oc (List St)}(hp:∀ts x r,p ts=some (x,r)→p' ts=.ok x r){ts:List Item}{k:List St→List Item→Option β}{k':List St→List Item→Oc γ}{q:β}{o:Oc γ}(h:(match p ts with|none=>none|some (x,r)=>k x r)=some q)(hk:∀x r,k x r=some q→k' x r=o):(p' ts).bind k'=o:=by
 cases e:p ts with
 |none=>rw[e]at h;cases h
 |some x=>rw[e]at h;rw[hp ts x.1 x.2 e];exact hk x.1 x.2 h
theorem goK {β γ:Type}{p:List Item→Option (List Ct×List Item)}{p':List Item→Oc (List Ct)}(hp:∀ts x r,p ts=some (x,r)→p' ts=.ok x r){ts:List Item}{k:List Ct→List Item→Option β}{k':List Ct→List Item→Oc γ}{q:β}{o:Oc γ}(h:(match p ts with|none=>none|some (x,r)=>k x r)=some q)(hk:∀x r,k x r=some q→k' x r=o):(p' ts).bind k'=o:=by
 cases e:p ts with
 |none=>rw[e]at h;cases h
 |some x=>rw[e]at h;rw[hp ts x.1 x.2 e];exact hk x.1 x.2 h
theorem goC {β γ:Type}{p:List Item→Option ((Nat×List UInt8×List Ex)×List Item)}{p':List Item→Oc (Nat×List UInt8×List Ex)}(hp:∀ts x r,p ts=some (x,r)→p' ts=.ok x r){ts:List Item}{k:Nat→List UInt8→List Ex→List Item→Option β}{k':Nat×List UInt8×List Ex→List Item→Oc γ}{q:β}{o:Oc γ}(h:(match p ts with|none=>none|some ((a,b,c),r)=>k a b c r)=some q)(hk:∀a b c r,k a b c r=some q→k' (a,b,c) r=o):(p' ts).bind k'=o:=by
 cases e:p ts with
 |none=>rw[e]at h;cases h
 |some x=>obtain⟨⟨a,b,c⟩,r⟩:=x;rw[e]at h;rw[hp ts _ _ e];exact hk a b c r h
include hfg in
theorem callP_O {v:List UInt8}(ts:List Item)(q:Nat×List UInt8×List Ex)(r:List Item)(h:callP f v ts=some (q,r)):callO g F v ts=.ok q r:=by
 unfold callP at h
 cases ts with
 |nil=>cases h
 | cons t r0=>
  dsimp only at h
  split at h
  ·cases h
  ·rename_i hop
   unfold callO opO
   dsimp only
   rw[if_neg hop,CG]
   refine goM h fun r1 h=>goW h fun c r2 h=>?_
   unfold argO
   split at h
   ·rename_i k;rw[if_pos k,CG];exact goM h fun r3 h=>by cases h;rfl
   ·rename_i k;rw[if_neg k,Oc.assoc]
    refine goM h fun r3 h=>?_
    rw[Oc.assoc]
    exact goX hfg h fun x r4 h=>goM h fun r3 h=>by cases h;rfl
include hfg in
theorem plainP_O (t0:Item)(ts r:List Item)(s:St)(h:plainP f t0 ts=some (s,r)):plainO g F t0.line t0.col ts=.ok s r:=by
 unfold plainP at h
 unfold plainO
 refine goW h fun n r1 h=>?_
 split at h
 ·rename_i k;rw[if_pos k]
  exact goX hfg h fun a r h=>goM h fun r h=>goX hfg h fun x r h=>goM h fun r h=>by cases h;rfl
 rename_i k;rw[if_neg k]
 split at h
 ·rename_i k;rw[if_pos k]
  refine goW h fun m r h=>goM h fun r h=>goC (callP_O (g:=g) (F:=F) hfg) h fun a b c r h=>?_
  cases h;rfl
 ·rename_i k;rw[if_neg k]
  refine goM h fun r h=>?_
  cases r with
  |nil=>cases h
  | cons t1 r1=>
   dsimp only at h
   split at h
   ·rename_i k;rw[if_pos (show FE (t1::r1)=1 from k)]
    refine goC (callP_O (g:=g) (F:=F) hfg) h fun a b c r h=>?_
    cases h;rfl
   ·rename_i k;rw[if_neg (show ¬FE (t1::r1)=1 from k)]
    exact goX hfg h fun x r h=>goM h fun r h=>by cases h;rfl
end
theorem stmtsL_O {p:List Item→Option (St×List Item)}{p':List Item→Oc St}(hp:∀ts x r,p ts=some (x,r)→p' ts=.ok x r)(hd:LessS p'):∀(f f':Nat) (ts:List Item) (l:List St) (r:List Item),ts.length<f'→stmtsL p f ts=some (l,r)→stmtsO p' f' ts=.ok l r
 |0,_,_,_,_,_,h=>by cases h
 |f+1,0,_,_,_,hf,_=>absurd hf (Nat.not_lt_zero _)
 | f+1,f'+1,ts,l,r,hf,h=>by
  unfold stmtsL at h
  unfold stmtsO
  split at h
  ·rename_i k;rw[if_pos k];cases h;rfl
  ·rename_i k;rw[if_neg k]
   cases e:p ts with
   |none=>rw[e]at h;cases h
   | some x=>
    obtain⟨s,m⟩:=x
    rw[e]at h
    have:=hd _ _ _ (hp _ _ _ e)
    rw[hp _ _ _ e,CG]
    dsimp only at h
    cases e2:stmtsL p f m with
    |none=>rw[e2]at h;cases h
    | some y=>
     rw[e2]at h
     rw[stmtsL_O hp hd f f' m y.1 y.2 (by omega) e2]
     cases h;rfl
theorem blockOf_O {p:List Item→Option (St×List Item)}{p':List Item→Oc St}(hp:∀ts x r,p ts=some (x,r)→p' ts=.ok x r)(hd:LessS p')(ts:List Item)(l:List St)(r:List Item)(h:blockOf p ts=some (l,r)):FZ p' ts=.ok l r:=by
 unfold blockOf at h
 split at h
 ·rename_i k
  unfold FZ
  rw[show CF [[123]] ts=.ok () ts.tail from mustO_of (by unfold CY;rw[if_pos k];rfl),CG]
  exact stmtsL_O hp hd _ _ _ _ _ (Nat.lt_succ_self _) h
 ·cases h
theorem stmtP_O (g:Nat)(F:List Item→Option (List Item)):∀f:Nat,f≤g+1→∀(ts:List Item) (s:St) (r:List Item),stmtP f ts=some (s,r)→∀f',f≤f'→stmtO g F f' ts=.ok s r
 |0,_,_,_,_,h,_,_=>by cases h
 |f+1,_,_,_,_,_,0,h=>absurd h (by omega)
 | f+1,hg,ts,s,r,h,f'+1,hf=>by
  have hfg:f≤g:=by omega
  have HB:∀ts x r,blockOf (stmtP f) ts=some (x,r)→FZ (stmtO g F f') ts=.ok x r:=blockOf_O (fun ts x r h=>stmtP_O g F f (by omega) ts x r h f' (by omega)) (FX g F f')
  unfold stmtP at h
  unfold stmtO stmtB
  cases ts with
  |nil=>cases h
  | cons t r0=>
   dsimp only at h ⊢
   split at h
   ·rename_i k;rw[if_pos k]
    exact goW h fun n r h=>goM h fun r h=>goX hfg h fun x r h=>goM h fun r h=>by cases h;rfl
   rename_i k;rw[if_neg k]
   split at h
   ·rename_i k;rw[if_pos k]
    exact goW h fun n r h=>goM h fun r h=>goW h fun x r h=>goM h fun r h=>by cases h;rfl
   rename_i k;rw[if_neg k]
   split at h
   ·rename_i k;rw[if_pos k]
    refine goX hfg h fun x r h=>goB HB h fun a r h=>?_
    split at h
    ·rename_i k;rw[if_pos k];exact goB HB h fun b r h=>by cases h;rfl
    ·rename_i k;rw[if_neg k];cases h;rfl
   rename_i k;rw[if_neg k]
   split at h
   ·rename_i k;rw[if_pos k]
    exact goX hfg h fun x r h=>goB HB h fun a r h=>by cases h;rfl
   rename_i k;rw[if_neg k]
   split at h
   ·rename_i k;rw[if_pos k]
    exact goX hfg h fun x r h=>goM h fun r h=>by cases h;rfl
   rename_i k;rw[if_neg k]
   split at h
   ·rename_i k;rw[if_pos k]
    exact goX hfg h fun x r h=>goM h fun r h=>by cases h;rfl
   rename_i k;rw[if_neg k]
   exact plainP_O hfg t _ _ _ h
theorem contsP_O:∀(f:Nat) (ts:List Item) (l:List Ct) (r:List Item),contsP f ts=some (l,r)→contsO f ts=.ok l r
 |0,_,_,_,h=>by cases h
 | f+1,ts,l,r,h=>by
  unfold contsP at h
  unfold contsO
  cases ts with
  |nil=>cases h;rfl
  | cons t r0=>
   dsimp only at h ⊢
   split at h
   ·rename_i k;rw[if_pos k];cases h;rfl
   ·rename_i k;rw[if_neg k]
    exact goW h fun n r h=>goM h fun r h=>goK (contsP_O f) h fun x r h=>by cases h;rfl
theorem threadsP_O {g:Nat}{blk:List Item→Oc (List St)}(hb:∀ts x r,blockP g ts=some (x,r)→blk ts=.ok x r):∀(f:Nat) (ts:List Item) (l:List (List St)),threadsP g f ts=some l→threadsO blk f ts=.ok l []
 |0,_,_,h=>by cases h
 | f+1,ts,l,h=>by
  unfold threadsP at h
  unfold threadsO
  cases ts with
  |nil=>cases h;rfl
  | cons t r0=>
   dsimp only at h ⊢
   refine goM h fun r h=>goB hb h fun b r h=>?_
   cases e:threadsP g f r with
   |none=>rw[e]at h;cases h
   |some x=>rw[e]at h;rw[threadsP_O hb f r x e];cases h;rfl
theorem progP_O {f g:Nat}(F:List Item→Option (List Item))(hg:f≤g){ts:List Item}{pr:Pr}(h:progP f ts=some pr):progO (FZ (stmtO g F g)) ts=.ok pr []:=by
 unfold progP at h
 unfold progO
 refine goM h fun r h=>goW h fun n r h=>goM h fun r h=>goK (contsP_O _) h fun cs r h=>?_
 cases e:threadsP f (r.length+1) r with
 |none=>rw[e]at h;cases h
 |some x=>rw[e]at h;rw[threadsP_O (blk:=FZ (stmtO g F g)) (fun ts x r h=>blockOf_O (fun ts x r h=>stmtP_O g F f (by omega) ts x r h g hg) (FX g F g) ts x r h) _ _ _ e];cases h;rfl
theorem ChainCE.mono {E E':List Item→Prop}(h:∀ts,E ts→E' ts):∀(l:List Ct) (ts:List Item),ChainCE E l ts→ChainCE E' l ts
 |[],ts,hc=>h ts hc
 | _::l,_,hc=>by
  obtain⟨t,n,r1,r2,h1,h2,h3,h4,h5,h6,h7⟩:=hc
  exact⟨t,n,r1,r2,h1,h2,h3,h4,h5,h6,ChainCE.mono h l r2 h7⟩
theorem ChainTE.mono {P:List Item→List St→List Item→Prop}{E E':List Item→Prop}(h:∀ts,E ts→E' ts):∀(l:List (List St)) (ts:List Item),ChainTE P E l ts→ChainTE P E' l ts
 |[],ts,hc=>h ts hc
 | _::l,_,hc=>by
  obtain⟨r,m,h1,h2,h3,h4⟩:=hc
  exact⟨r,m,h1,h2,h3,ChainTE.mono h l m h4⟩
def WordI (its:List Item):Prop:=∀t∈its,ofL DE t.tok.text≠0→t.tok.kind=1
def EndC2 (o:Oc (List Ct))(cs:List Ct)(ts:List Item):Prop:=
 (o=.ok cs ts∧ts.length≤1000000∧∀t r0,ts=t::r0→ofL DE t.tok.text=0)∨
 ∃t r bb,ts=t::r∧t.tok.kind=1∧ofL DE t.tok.text≠0∧o=.bad bb∧(FB 2 r=.bad bb∨∃n r1,FB 2 r=.ok n r1∧CF [[59]] r1=.bad bb)
theorem contsJ:∀(f:Nat) (ts:List Item),ts.length≤1000000→WordI ts→contsO f ts≠.no→∃cs,cs.length≤ts.length∧ChainCE (EndC2 (contsO f ts) cs) cs ts
 |0,_,_,_,h=>absurd rfl h
 | f+1,ts,hl,hk,hn=>by
  unfold contsO at hn ⊢
  cases ts with
  |nil=>exact⟨[],Nat.zero_le _,.inl ⟨rfl,hl,fun t r0 e=>by cases e⟩⟩
  | cons t r=>
   rw[LB]at hl
   dsimp only at hn ⊢
   by_cases hc:ofL DE t.tok.text=0∨t.tok.kind≠1
   ·rw[if_pos hc]
    refine⟨[],Nat.zero_le _,.inl ⟨rfl,by rw[LB];omega,fun t' r' e=>?_⟩⟩
    cases e
    rcases hc with h|h
    ·exact h
    ·exact Classical.byContradiction fun e=>h (hk t (List.mem_cons_self ..) e)
   ·rw[if_neg hc]at hn ⊢
    have hk1:t.tok.kind=1:=Classical.byContradiction fun e=>hc (.inr e)
    have h0:ofL DE t.tok.text≠0:=fun e=>hc (.inl e)
    cases h1:FB 2 r with
    |no=>exact absurd h1 (wantO_no _ _)
    |bad b=>exact⟨[],Nat.zero_le _,.inr ⟨t,r,b,rfl,hk1,h0,rfl,.inl h1⟩⟩
    | ok n r1=>
     rw[h1,CG]at hn
     rw[CG]
     obtain⟨e1,e2⟩:=FP h1
     cases h2:CF [[59]] r1 with
     |no=>exact absurd h2 (CW _ _)
     |bad b=>exact⟨[],Nat.zero_le _,.inr ⟨t,r,b,rfl,hk1,h0,rfl,.inr ⟨n,r1,h1,h2⟩⟩⟩
     | ok u r2=>
      rw[h2,CG]at hn
      rw[CG]
      have l1:=wantO_len h1;have l2:=BR h2
      obtain⟨cs,a1,a2⟩:=contsJ f r2 (by omega) (fun i hi=>hk i (List.mem_cons_of_mem _ (by rw[e1];exact List.mem_cons_of_mem _ (mustO_sub h2 i hi)))) (fun e=>hn (by rw[e];rfl))
      refine⟨⟨ofL DE t.tok.text,n.tok.text,t.line,t.col⟩::cs,by simp only[LB];omega,t,n,r1,r2,by rw[e1],hk1,h0,e2,DI h2,rfl,ChainCE.mono (fun ts h=>?_) _ _ a2⟩
      rcases h with⟨h,h'⟩|⟨t,r,bb,g1,g2,g3,g4,g5⟩
      ·exact .inl ⟨by rw[h];rfl,h'⟩
      ·exact .inr ⟨t,r,bb,g1,g2,g3,by rw[g4];rfl,g5⟩
section
variable {R el ec : Nat}{blk : List Item→Oc (List St)}(hL : LessB blk)(hB : ∀ts, ts.length≤1000000→blk ts≠.no→DoesB R el ec ts (blk ts))
include hL hB
theorem threadsJ:∀(f:Nat) (ts:List Item),ts.length≤1000000→threadsO blk f ts≠.no→∃l,l.length≤ts.length∧ChainTE (fun ts b m=>DoesB R el ec ts (.ok b m)) (fun r=>(r=[]∧threadsO blk f ts=.ok l [])∨(r≠[]∧∃b,threadsO blk f ts=.bad b∧(CF [[116,104,114,101,97,100]] r=.bad b∨∃ts1,CY [[116,104,114,101,97,100]] r=some ts1∧DoesB R el ec ts1 (.bad b)))) l ts
 |0,_,_,h=>absurd rfl h
 | f+1,ts,hl,hn=>by
  unfold threadsO at hn ⊢
  cases ts with
  |nil=>exact⟨[],Nat.zero_le _,.inl ⟨rfl,rfl⟩⟩
  | cons t r0=>
   dsimp only at hn ⊢
   cases h1:CF [[116,104,114,101,97,100]] (t::r0) with
   |no=>exact absurd h1 (CW _ _)
   |bad b=>exact⟨[],Nat.zero_le _,.inr ⟨by simp,b,rfl,.inl h1⟩⟩
   | ok u r1=>
    rw[h1,CG]at hn
    rw[CG]
    have l1:=BR h1
    have hd:=hB r1 (by omega)
    cases h2:blk r1 with
    |no=>rw[h2]at hn;exact absurd rfl hn
    | bad b=>
     rw[h2]at hd
     exact⟨[],Nat.zero_le _,.inr ⟨by simp,b,rfl,.inr ⟨r1,DI h1,hd fun h=>by cases h⟩⟩⟩
    | ok s r2=>
     rw[h2,CG]at hn
     rw[h2]at hd
     rw[CG]
     have l2:=hL _ _ _ h2
     obtain⟨l,a1,a2⟩:=threadsJ f r2 (by omega) (fun e=>hn (by rw[e];rfl))
     refine⟨s::l,by rw[LB];omega,r1,r2,DI h1,hd (fun h=>by cases h),by omega,ChainTE.mono (fun ts h=>?_) _ _ a2⟩
     rcases h with⟨g1,g2⟩|⟨g1,b,g2,g3⟩
     ·exact .inl ⟨g1,by rw[g2];rfl⟩
     ·exact .inr ⟨g1,b,by rw[g2];rfl,g3⟩
theorem progO_does (its:List Item)(hl:its.length≤1000000)(hk:WordI its)(hn:progO blk its≠.no)(w:World)(hr:BE w R its el ec):
  Calls Tryz.prog 37 #[rdV R] w fun e w'=>OutG w R el ec (progO blk its) e w':=by
 unfold progO at hn ⊢
 cases h1:CF [[112,111,111,108]] its with
 |no=>exact absurd h1 (CW _ _)
 |bad b=>exact program_headF R el ec its b (by rw[h1];rfl) w hr
 | ok u r0=>
  rw[h1,CG]at hn
  rw[CG]
  have l1:=BR h1
  cases h2:FB 3 r0 with
  |no=>exact absurd h2 (wantO_no _ _)
  |bad b=>exact program_headF R el ec its b (by rw[h1,CG,h2];rfl) w hr
  | ok n r1=>
   rw[h2,CG]at hn
   rw[CG]
   have l2:=wantO_len h2
   obtain⟨e1,e2⟩:=FP h2
   cases h3:CF [[59]] r1 with
   |no=>exact absurd h3 (CW _ _)
   |bad b=>exact program_headF R el ec its b (by rw[h1,CG,h2,CG,h3];rfl) w hr
   | ok u2 r2=>
    rw[h3,CG]at hn
    rw[CG]
    have l3:=BR h3
    have hk2:WordI r2:=fun i hi=>hk i (mustO_sub h1 i (by rw[e1];exact List.mem_cons_of_mem _ (mustO_sub h3 i hi)))
    obtain⟨cs,a1,a2⟩:=contsJ (r2.length+1) r2 (by omega) hk2 (fun e=>hn (by rw[e];rfl))
    refine programJ R el ec its r1 r2 n cs _ (fun ts b m=>DoesB R el ec ts (.ok b m)) (fun _ _ _ h=>h) (by rw[←e1];exact DI h1) e2 (DI h3) (ChainCE.mono (fun ts h=>?_) _ _ a2) (by omega) w hr
    rcases h with⟨g1,g2,g3⟩|⟨t,r,bb,g1,g2,g3,g4,g5⟩
    ·rw[g1,CG]at hn ⊢
     obtain⟨ths,b1,b2⟩:=threadsJ hL hB (ts.length+1) ts g2 (fun e=>hn (by rw[e];rfl))
     refine .inl ⟨g3,ths,by omega,ChainTE.mono (fun ts h=>?_) _ _ b2⟩
     rcases h with⟨f1,f2⟩|⟨f1,b,f2,f3⟩
     ·exact .inl ⟨f1,by rw[f2];rfl⟩
     ·exact .inr ⟨f1,b,by rw[f2];rfl,f3⟩
    ·exact .inr ⟨t,r,bb,g1,g2,g3,by rw[g4];rfl,g5⟩
end
theorem progG_does (g R el ec:Nat)(its:List Item)(hl:its.length≤1000000)(hk:WordI its)(hn:progO (FZ (stmtO g (exFo g) g)) its≠.no)(w:World)(hr:BE w R its el ec):
  Calls Tryz.prog 37 #[rdV R] w fun e w'=>OutG w R el ec (progO (FZ (stmtO g (exFo g) g)) its) e w':=
 progO_does (blockO_less (FX g (exFo g) g)) (fun ts hl h=>blockO_does R el ec (FX g (exFo g) g) (stmtO_does R el ec g (exFo g) (faultsE_ex g R el ec) g) ts hl h) its hl hk hn w hr
theorem reads_of {g R el ec:Nat}{its r:List Item}{pr:Pr}(hl:its.length≤1000000)(hk:WordI its)(h:progO (FZ (stmtO g (exFo g) g)) its=.ok pr r):ReadsP R el ec its pr:=fun w hr=>by
 have:=progG_does g R el ec its hl hk (by rw[h];exact fun e=>by cases e) w hr
 rw[h]at this
 exact this
theorem gives_of {g R el ec:Nat}{its b:List Item}(hl:its.length≤1000000)(hk:WordI its)(h:progO (FZ (stmtO g (exFo g) g)) its=.bad b)(w:World)(hr:BE w R its el ec):
  Calls Tryz.prog 37 #[rdV R] w fun e w'=>e=.panicked (DJ b el ec)∧BA (fun b=>b=R) w w':=by
 have:=progG_does g R el ec its hl hk (by rw[h];exact fun e=>by cases e) w hr
 rw[h]at this
 exact this
theorem progP_reads (R el ec f:Nat)(its:List Item)(pr:Pr)(hl:its.length≤1000000)(hk:WordI its)(h:progP f its=some pr):ReadsP R el ec its pr:=
 reads_of hl hk (progP_O (exFo f) (Nat.le_refl f) h)
open Go
theorem head_app {a b:List UInt8}(h:a≠[]):(a++b).head?=a.head?:=by
 cases a with
 |nil=>exact absurd rfl h
 |cons x l=>rfl
def digL (n:Nat):List UInt8:=if h:n≤9 then [UInt8.ofNat (48+n)] else digL (n / 10)++[UInt8.ofNat (48+n % 10)]
 termination_by n
 decreasing_by omega
theorem digL_small {n:Nat}(h:n≤9):digL n=[UInt8.ofNat (48+n)]:=by rw[digL,dif_pos h]
theorem digL_big {n:Nat}(h:¬n≤9):digL n=digL (n / 10)++[UInt8.ofNat (48+n % 10)]:=by rw[digL,dif_neg h]
theorem dig_nat {k:Nat}(h:k≤9):(UInt8.ofNat (48+k)).toNat=48+k:=by
 rw[UInt8.toNat_ofNat']
 omega
theorem dig_is {k:Nat}(h:k≤9):DA (UInt8.ofNat (48+k))=true:=by
 unfold DA
 rw[dig_nat h,decide_eq_true (by omega),decide_eq_true (by omega)]
 rfl
theorem digL_all (n:Nat):∀c∈digL n,DA c=true:=by
 induction n using Nat.strongRecOn with
 | _ n ih=>
  intro c hc
  by_cases h:n≤9
  ·rw[digL_small h,List.mem_singleton]at hc
   rw[hc];exact dig_is h
  ·rw[digL_big h,List.mem_append,List.mem_singleton]at hc
   rcases hc with hc|hc
   ·exact ih (n / 10) (by omega) c hc
   ·rw[hc];exact dig_is (by omega)
theorem val10_snoc (l:List UInt8)(c:UInt8):val10 (l++[c])=10 * val10 l+(c.toNat - 48):=by simp[val10]
theorem digL_val (n:Nat):val10 (digL n)=n:=by
 induction n using Nat.strongRecOn with
 | _ n ih=>
  by_cases h:n≤9
  ·rw[digL_small h]
   show 10 * 0+((UInt8.ofNat (48+n)).toNat - 48)=n
   rw[dig_nat h];omega
  ·rw[digL_big h,val10_snoc,ih (n / 10) (by omega),dig_nat (by omega)]
   omega
theorem digL_ne (n:Nat):digL n≠[]:=by
 by_cases h:n≤9
 ·rw[digL_small h];simp
 ·rw[digL_big h];simp
theorem digL_head (n:Nat):9<n→(digL n).head?≠some 48:=by
 induction n using Nat.strongRecOn with
 | _ n ih=>
  intro hn
  rw[digL_big (by omega),head_app (digL_ne _)]
  by_cases h:n / 10≤9
  ·rw[digL_small h]
   intro e
   have e:=Option.some.inj e
   have h2:=dig_nat h
   rw[e]at h2
   have h3:(48:UInt8).toNat=48:=rfl
   omega
  ·exact ih (n / 10) (by omega) (by omega)
theorem digL_one {n:Nat}:¬(1<(digL n).length∧(digL n).head?=some 48):=by
 rintro⟨h1,h2⟩
 by_cases h:n≤9
 ·rw[digL_small h]at h1;simp at h1
 ·exact digL_head n (by omega) h2
theorem digL_len:∀(k n:Nat),n<10 ^ (k+1)→(digL n).length≤k+1
 |0,n,h=>by rw[digL_small (by omega)];simp
 | k+1,n,h=>by
  by_cases h9:n≤9
  ·rw[digL_small h9];simp
  ·rw[digL_big h9,LA]
   have:=digL_len k (n / 10) (by rw[Nat.pow_succ]at h;omega)
   simp;omega
def signed (s:List UInt8):Bool:=([[42],[47],[37],[43],[45],[60],[60,61],[62],[62,61],[61,61],[33,61],[38],[124],[33]]:List (List UInt8)).contains s
def opsAt:Nat→List Nat
 |0=>[1,2,3]
 |1=>[4,5]
 |2=>[6,7,8,9]
 |3=>[10,11]
 |4=>[12]
 |_=>[13]
def nxt (one:List Item→Option (Ex×List Item)):Nat→List Item→Option (Ex×List Item)
 |0=>one
 |l+1=>rowN (nxt one l) (opsAt l)
def levT (op:Nat):Nat:=if op≤3 then 0 else if op≤5 then 1 else if op≤9 then 2 else if op≤11 then 3 else if op=12 then 4 else 5
theorem levT_le (op:Nat):levT op≤5:=by
 unfold levT
 split
 ·omega
 ·split
  ·omega
  ·split
   ·omega
   ·split
    ·omega
    ·split<;>omega
def opTok (op line col:Nat):Item:=⟨⟨4,GC.getD op [],0⟩,line,col,0⟩
theorem opOf_tok {op:Nat}(h1:1≤op)(h2:op≤13)(l line col:Nat)(hl:l≤5)(r:List Item):opOf (opsAt l) (opTok op line col::r)=if levT op=l then some op else none:=by
 have key:∀op:Nat,op<14→∀l:Nat,l<6→1≤op→(opsAt l).find? (fun k=>isT ⟨4,GC.getD op [],0⟩ (GC.getD k []))=if levT op=l then some op else none:=by decide +kernel
 exact key op (by omega) l (by omega) h1
theorem opOf_nil (ops:List Nat):opOf ops []=none:=by
 unfold opOf BI
 simp
variable {one : List Item→Option (Ex×List Item)}
theorem nxt_pass {l:Nat}{ts r:List Item}{x:Ex}(h:nxt one l ts=some (x,r))(hr:opOf (opsAt l) r=none):nxt one (l+1) ts=some (x,r):=by
 show rowN (nxt one l) (opsAt l) ts=_
 unfold rowN
 rw[h]
 show rowL _ _ (r.length+1) x r=_
 unfold rowL
 rw[hr]
theorem nxt_up {l:Nat}{ts r:List Item}{x:Ex}(h:nxt one l ts=some (x,r)):∀k,(∀j,l≤j→j<l+k→opOf (opsAt j) r=none)→nxt one (l+k) ts=some (x,r)
 |0,_=>h
 |k+1,hk=>nxt_pass (nxt_up h k fun j h1 h2=>hk j h1 (by omega)) (hk (l+k) (by omega) (by omega))
theorem nxt_up' {l m:Nat}{ts r:List Item}{x:Ex}(h:nxt one l ts=some (x,r))(hm:l≤m)(hk:∀j,l≤j→j<m→opOf (opsAt j) r=none):nxt one m ts=some (x,r):=by
 have:=nxt_up h (m - l) fun j h1 h2=>hk j h1 (by omega)
 rwa [show l+(m - l)=m by omega]at this
def binX (op line col:Nat)(x y:Ex):Ex:=.mk 5 op 0 [] line col [x,y]
theorem nxt_op {op line col:Nat}(h1:1≤op)(h2:op≤13){ts r1 r2:List Item}{x y:Ex}(hx:nxt one (levT op) ts=some (x,opTok op line col::r1))(hy:nxt one (levT op) r1=some (y,r2))(hr:opOf (opsAt (levT op)) r2=none):
  nxt one (levT op+1) ts=some (binX op line col x y,r2):=by
 show rowN (nxt one (levT op)) (opsAt (levT op)) ts=_
 unfold rowN
 rw[hx]
 show rowL _ _ ((opTok op line col::r1).length+1) x _=_
 rw[LB]
 unfold rowL
 rw[opOf_tok h1 h2 _ _ _ (levT_le op),if_pos rfl]
 dsimp only
 rw[hy]
 dsimp only
 unfold rowL
 rw[hr]
 rfl
theorem sign_signed {op:Nat}(h1:1≤op)(h2:op≤13):signed (GC.getD op [])=true:=by
 have key:∀op:Nat,op<14→1≤op→signed (GC.getD op [])=true:=by decide
 exact key op (by omega) h1
open Go Go.RowKit
section
variable {P : Program}(w : World)
theorem own_string_at (base:Nat)(t u ty e:TypeId)(i:TypeInfo)(ht:P.underlying t=some (.slice e))(hu:P.underlying u=some .string)(hi:P.info? e=some i)(hz:i.zero=some (.int .u8 0))(hsize:i.size=1)(hby:i.bytes=1)
  (v:Value) (n:Nat) (xs:List Value) (hown:w.ownsRowF base e 1 v n xs) (s:ByteArray) (h63:n+s.size≤maxLen) (hbytes:n+s.size≤140737488355328) (hbase:base≤w.heap.size):
  ∃v' w',(Builtin.append_ #[t,u] ty #[v,.string s]).run P w=.ok v' w'∧w'.ownsRowF base e 1 v' (n+s.size) (xs++Lib.strCells s)∧w.grownBy w' v.ownBlock∧∀k,v'.ownBlock=some k→v.ownBlock=some k∨w.heap.size≤k:=by
 obtain⟨v',w',hr,h2,h3,-⟩:=Lib.run_append_own_stringF (P:=P) w base t u ty e i ht hu hi hz hsize hby v n xs hown s h63 hbytes hbase
 refine⟨v',w',hr,h2,h3,fun k hk=>?_⟩
 rcases hown.2 with⟨rfl,rfl⟩|⟨g,cap,cur,fz,rfl,hbg,hg,hfz,hnc,hcm,hcs,htake⟩
 ·obtain⟨v2,w2,hr2,h22,-⟩:=Lib.run_append_own_stringF (P:=P) w w.heap.size t u ty e i ht hu hi hz hsize hby (.slice none 0 0) 0 xs ⟨hown.1,.inl ⟨rfl,rfl⟩⟩ s h63 hbytes (Nat.le_refl _)
  rw[hr]at hr2
  cases hr2
  rcases h22.2 with⟨rfl,-⟩|⟨g,cap,cur,fz,rfl,hbg,-⟩
  ·cases hk
  ·cases hk;exact .inr hbg
 ·have hxl:xs.length=n:=by simpa using hown.1
  by_cases hroom:n+s.size≤cap
  ·have hr2:=Lib.run_append_room_stringF (P:=P) w t u ty e i ht hu hi hsize g n cap cur fz hg (by simpa using hfz) s hroom (by omega)
   rw[hr]at hr2
   cases hr2
   exact .inl hk
  ·have hr2:=Lib.run_append_grow_string (P:=P) w t u ty e i (.int .u8 0) ht hu hi hz ⟨g,0,none⟩ n cap xs (by rw[hsize];simpa using hxl) (hown.cells (g:=g) rfl) s (by omega) (by unfold maxLen at h63;omega) (by rw[hby];exact growslice_fits (by omega) (by omega))
   rw[hr]at hr2
   cases hr2
   cases hk
   exact .inr (Nat.le_refl _)
theorem own_slice_at (base:Nat)(t ty e:TypeId)(i:TypeInfo)(z:Value)(size bytes:Nat)(ht:P.underlying t=some (.slice e))(hi:P.info? e=some i)(hz:i.zero=some z)
  (hsize:i.size=size) (hby:i.bytes=bytes) (hzs:z.cells.size=size) (hsz:0<size)
  (v:Value) (n:Nat) (xs:List Value) (hown:w.ownsRowF base e size v n xs)
  (a:Addr) (m c:Nat) (news:List Value) (hl:news.length=m * size) (hnews:∀j u,news[j]?=some u→w.cell? (a.add j)=some u) (h1:∀u∈news,u.oneCell'=true)
  (h63:n+m≤maxLen) (hbytes:(n+m) * bytes≤140737488355328) (hbase:base≤w.heap.size):
  ∃v' w',(Builtin.append_ #[t,t] ty #[v,.slice (some a) m c]).run P w=.ok v' w'∧w'.ownsRowF base e size v' (n+m) (xs++news)∧w.grownBy w' v.ownBlock∧∀k,v'.ownBlock=some k→v.ownBlock=some k∨w.heap.size≤k:=by
 obtain⟨v',w',hr,h2,h3,-⟩:=run_append_ownF (P:=P) w base t ty e i z size bytes ht hi hz hsize hby hzs hsz v n xs hown a m c news hl hnews h1 h63 hbytes hbase
 refine⟨v',w',hr,h2,h3,fun k hk=>?_⟩
 rcases hown.2 with⟨rfl,rfl⟩|⟨g,cap,cur,fz,rfl,hbg,hg,hfz,hnc,hcm,hcs,htake⟩
 ·obtain⟨v2,w2,hr2,h22,-⟩:=run_append_ownF (P:=P) w w.heap.size t ty e i z size bytes ht hi hz hsize hby hzs hsz (.slice none 0 0) 0 xs ⟨hown.1,.inl ⟨rfl,rfl⟩⟩ a m c news hl hnews h1 h63 hbytes (Nat.le_refl _)
  rw[hr]at hr2
  cases hr2
  rcases h22.2 with⟨rfl,-⟩|⟨g,cap,cur,fz,rfl,hbg,-⟩
  ·cases hk
  ·cases hk;exact .inr hbg
 ·subst hsize
  subst hby
  by_cases hroom:n+m≤cap
  ·have hr2:=run_append_roomF (P:=P) w t ty e i ht hi g n cap cur fz hg hfz a m c news hl hnews h1 hroom (by rw[hl,hcs,←Nat.add_mul];exact Nat.mul_le_mul_right _ hroom)
   rw[hr]at hr2
   cases hr2
   exact .inl hk
  ·have hr2:=run_append_grow (P:=P) w t ty e i z ht hi hz ⟨g,0,none⟩ n cap xs hown.1 (hown.cells (g:=g) rfl) a m c news hl hnews (by omega) (by unfold maxLen at h63;omega) (growslice_fits (by omega) hbytes)
   rw[hr]at hr2
   cases hr2
   cases hk
   exact .inr (Nat.le_refl _)
end
section
variable {P : Program}{w : World}{ops : Array Oper}{rest : List Oper}{o : Oper}{a : Act}{Q : Exit→Act→World→Prop}
theorem wpList_own_string_at (hgd:o.guard=none)(sl x:Operand)(t u:TypeId)(ho:o.op=.call { callee:=.builtin .append,args:=#[sl,x],argTypes:=#[t,u] })
  (base:Nat) (e:TypeId) (i:TypeInfo) (ht:P.underlying t=some (.slice e)) (hu:P.underlying u=some .string) (hi:P.info? e=some i) (hz:i.zero=some (.int .u8 0)) (hsize:i.size=1) (hby:i.bytes=1)
  (v:Value) (n:Nat) (xs:List Value) (hs:a.eval sl=v) (hown:w.ownsRowF base e 1 v n xs) (s:ByteArray) (hx:a.eval x=.string s)
  (h63:n+s.size≤maxLen) (hbytes:n+s.size≤140737488355328) (hbase:base≤w.heap.size)
  (h:∀v' w',w'.ownsRowF base e 1 v' (n+s.size) (xs++Lib.strCells s)→w.grownBy w' v.ownBlock→(∀k,v'.ownBlock=some k→v.ownBlock=some k∨w.heap.size≤k)→wpList P ops Q rest (a.put o.dst v') w'):wpList P ops Q (o::rest) a w:=by
 refine wpList_plain hgd fun K hK=>?_
 obtain⟨v',w',hr,h2,h3,h4⟩:=own_string_at (P:=P) w base t u o.type e i ht hu hi hz hsize hby v n xs hown s h63 hbytes hbase
 unfold Oper.wp execOp
 simp only[ho,resolve,invoke,builtin,Sem.run_bind,Sem.run_pure,Result.andThen_ok,List.map_toArray,List.map_cons,List.map_nil,hs,hx,hr]
 exact hK _ _ (h v' w' h2 h3 h4)
theorem wpList_own_slice_at (hgd:o.guard=none)(sl x:Operand)(t:TypeId)(ho:o.op=.call { callee:=.builtin .append,args:=#[sl,x],argTypes:=#[t,t] })
  (base:Nat) (e:TypeId) (i:TypeInfo) (z:Value) (size bytes:Nat) (ht:P.underlying t=some (.slice e)) (hi:P.info? e=some i) (hz:i.zero=some z)
  (hsize:i.size=size) (hby:i.bytes=bytes) (hzs:z.cells.size=size) (hsz:0<size)
  (v:Value) (n:Nat) (xs:List Value) (hs:a.eval sl=v) (hown:w.ownsRowF base e size v n xs)
  (ad:Addr) (m c:Nat) (news:List Value) (hx:a.eval x=.slice (some ad) m c) (hl:news.length=m * size) (hnews:∀j u,news[j]?=some u→w.cell? (ad.add j)=some u) (h1:∀u∈news,u.oneCell'=true)
  (h63:n+m≤maxLen) (hbytes:(n+m) * bytes≤140737488355328) (hbase:base≤w.heap.size)
  (h:∀v' w',w'.ownsRowF base e size v' (n+m) (xs++news)→w.grownBy w' v.ownBlock→(∀k,v'.ownBlock=some k→v.ownBlock=some k∨w.heap.size≤k)→wpList P ops Q rest (a.put o.dst v') w'):wpList P ops Q (o::rest) a w:=by
 refine wpList_plain hgd fun K hK=>?_
 obtain⟨v',w',hr,h2,h3,h4⟩:=own_slice_at (P:=P) w base t o.type e i z size bytes ht hi hz hsize hby hzs hsz v n xs hown ad m c news hl hnews h1 h63 hbytes hbase
 unfold Oper.wp execOp
 simp only[ho,resolve,invoke,builtin,Sem.run_bind,Sem.run_pure,Result.andThen_ok,List.map_toArray,List.map_cons,List.map_nil,hs,hx,hr]
 exact hK _ _ (h v' w' h2 h3 h4)
end
end Go.Proofs.YtomlffobbkcmdaaGreatDoor
