/- Joined texts of this work: PjO, Wkp, WkC, Lv18, WkD, Fit18. -/
import Derived.Test.YtknnmidnodeanaaGreatDoorJt37
import Derived.Test.YtknnmidnodeanaaGreatDoorJt13
import Derived.Test.YtknnmidnodeanaaGreatDoorJt27
import Derived.Test.YtknnmidnodeanaaGreatDoorJt12
/-
  Package parse: what the plain reader of programs comes to, program comes to.
-/
namespace Go.Proofs.YtknnmidnodeanaaGreatDoor
open Go Go.RowKit Own
open Go.Lib (hid)
theorem wantO_of {k:Nat} {ts r:List Item} {t:Item} (h:wantT k ts=some (t,r)):wantO k ts=.ok t r:=by
 unfold wantT at h
 unfold wantO
 cases ts with
 | nil=>cases h
 | cons a b=>
  dsimp only at h ⊢
  split at h
  ·rename_i e;rw [if_pos e];cases h;rfl
  ·cases h
theorem mustO_sub {L:List (List UInt8)} {ts r:List Item} {u:Unit} (h:mustO L ts=.ok u r):∀ i∈r,i∈ts:=by
 induction L generalizing ts with
 | nil=>unfold mustO at h;cases h;exact fun i hi=>hi
 | cons s l ih=>
  unfold mustO at h
  split at h
  ·exact fun i hi=>List.mem_of_mem_tail (ih h i hi)
  ·cases h
/-- what one reader reads, the other reads -/
def Sub {α:Type} (p q:List Item→Option (α × List Item)):Prop:=∀ ts x,p ts=some x→q ts=some x
theorem rowL_sub {p q:List Item→Option (Ex × List Item)} (h:Sub p q) (ops:List Nat):∀ (f:Nat) (x:Ex) (ts:List Item) (y:Ex × List Item),rowL p ops f x ts=some y→rowL q ops f x ts=some y
 | 0,_,_,_,e=>by cases e
 | f+1,x,ts,y,e=>by
  unfold rowL at e ⊢
  cases ho:opOf ops ts with
  | none=>rw [ho] at e;exact e
  | some op=>
   rw [ho] at e
   dsimp only at e ⊢
   cases ts with
   | nil=>cases e
   | cons t r=>
    dsimp only at e ⊢
    cases hp:p r with
    | none=>rw [hp] at e;cases e
    | some z=>
     rw [hp] at e
     rw [h r z hp]
     exact rowL_sub h ops f _ _ _ e
theorem rowN_sub {p q:List Item→Option (Ex × List Item)} (h:Sub p q) (ops:List Nat):Sub (rowN p ops) (rowN q ops):=fun ts y e=>by
 unfold rowN at e ⊢
 cases hp:p ts with
 | none=>rw [hp] at e;cases e
 | some z=>
  rw [hp] at e
  rw [h ts z hp]
  exact rowL_sub h ops _ _ _ _ e
theorem rowsN_sub {p q:List Item→Option (Ex × List Item)} (h:Sub p q):Sub (rowsN p) (rowsN q):=
 rowN_sub (rowN_sub (rowN_sub (rowN_sub (rowN_sub (rowN_sub h _) _) _) _) _) _
theorem oneOf_sub {p q p' q':List Item→Option (Ex × List Item)} (h:Sub p q) (h':Sub p' q'):Sub (oneOf p p') (oneOf q q'):=fun ts y e=>by
 unfold oneOf at e ⊢
 cases ts with
 | nil=>cases e
 | cons t r=>
  dsimp only at e ⊢
  split
  ·rename_i k;rw [if_pos k] at e
   cases hp:p r with
   | none=>rw [hp] at e;cases e
   | some z=>rw [hp] at e;rw [h r z hp];exact e
  rename_i k;rw [if_neg k] at e
  split
  ·rename_i k;rw [if_pos k] at e
   cases hp:p r with
   | none=>rw [hp] at e;cases e
   | some z=>rw [hp] at e;rw [h r z hp];exact e
  rename_i k;rw [if_neg k] at e
  split
  ·rename_i k;rw [if_pos k] at e
   cases hp:p' r with
   | none=>rw [hp] at e;cases e
   | some z=>rw [hp] at e;rw [h' r z hp];exact e
  rename_i k;rw [if_neg k] at e
  split
  ·rename_i k;rw [if_pos k] at e;exact e
  rename_i k;rw [if_neg k] at e
  split
  ·rename_i k;rw [if_pos k] at e
   split
   ·rename_i k;rw [if_pos k] at e
    cases hp:p' r.tail with
    | none=>rw [hp] at e;cases e
    | some z=>rw [hp] at e;rw [h' r.tail z hp];exact e
   ·rename_i k;rw [if_neg k] at e;exact e
  ·rename_i k;rw [if_neg k] at e;cases e
theorem oneP_sub:∀ f g:Nat,f≤g→Sub (oneP f) (oneP g)
 | 0,_,_=>fun ts y e=>by cases e
 | f+1,0,h=>absurd h (by omega)
 | f+1,g+1,h=>by
  have:=oneP_sub f g (by omega)
  exact oneOf_sub this (rowsN_sub this)
theorem exO_of {f g:Nat} {F:List Item→Option (List Item)} {ts r:List Item} {x:Ex} (hfg:f≤g) (h:exP f ts=some (x,r)):exO g F ts=.ok x r:=by
 unfold exO
 rw [show exP g ts=some (x,r) from rowsN_sub (oneP_sub f g hfg) ts _ h]
section
variable {f g : Nat} {F : List Item → Option (List Item)} (hfg : f ≤ g)
theorem goM {β γ:Type} {L:List (List UInt8)} {ts:List Item} {k:List Item→Option β} {k':Unit→List Item→Oc γ} {q:β} {o:Oc γ} (h:(match mustT L ts with | none=>none | some r=>k r)=some q) (hk:∀ r,k r=some q→k' () r=o):(mustO L ts).bind k'=o:=by
 cases e:mustT L ts with
 | none=>rw [e] at h;cases h
 | some r=>rw [e] at h;rw [mustO_of e];exact hk r h
theorem goW {β γ:Type} {n:Nat} {ts:List Item} {k:Item→List Item→Option β} {k':Item→List Item→Oc γ} {q:β} {o:Oc γ} (h:(match wantT n ts with | none=>none | some (t,r)=>k t r)=some q) (hk:∀ t r,k t r=some q→k' t r=o):(wantO n ts).bind k'=o:=by
 cases e:wantT n ts with
 | none=>rw [e] at h;cases h
 | some x=>rw [e] at h;rw [wantO_of (t:=x.1) (r:=x.2) e];exact hk x.1 x.2 h
include hfg in
theorem goX {β γ:Type} {ts:List Item} {k:Ex→List Item→Option β} {k':Ex→List Item→Oc γ} {q:β} {o:Oc γ} (h:(match exP f ts with | none=>none | some (x,r)=>k x r)=some q) (hk:∀ x r,k x r=some q→k' x r=o):(exO g F ts).bind k'=o:=by
 cases e:exP f ts with
 | none=>rw [e] at h;cases h
 | some x=>rw [e] at h;rw [exO_of (x:=x.1) (r:=x.2) hfg e];exact hk x.1 x.2 h
theorem goB {β γ:Type} {p:List Item→Option (List St × List Item)} {p':List Item→Oc (List St)} (hp:∀ ts x r,p ts=some (x,r)→p' ts=.ok x r) {ts:List Item} {k:List St→List Item→Option β} {k':List St→List Item→Oc γ} {q:β} {o:Oc γ} (h:(match p ts with | none=>none | some (x,r)=>k x r)=some q) (hk:∀ x r,k x r=some q→k' x r=o):(p' ts).bind k'=o:=by
 cases e:p ts with
 | none=>rw [e] at h;cases h
 | some x=>rw [e] at h;rw [hp ts x.1 x.2 e];exact hk x.1 x.2 h
theorem goK {β γ:Type} {p:List Item→Option (List Ct × List Item)} {p':List Item→Oc (List Ct)} (hp:∀ ts x r,p ts=some (x,r)→p' ts=.ok x r) {ts:List Item} {k:List Ct→List Item→Option β} {k':List Ct→List Item→Oc γ} {q:β} {o:Oc γ} (h:(match p ts with | none=>none | some (x,r)=>k x r)=some q) (hk:∀ x r,k x r=some q→k' x r=o):(p' ts).bind k'=o:=by
 cases e:p ts with
 | none=>rw [e] at h;cases h
 | some x=>rw [e] at h;rw [hp ts x.1 x.2 e];exact hk x.1 x.2 h
theorem goC {β γ:Type} {p:List Item→Option ((Nat × List UInt8 × List Ex) × List Item)} {p':List Item→Oc (Nat × List UInt8 × List Ex)} (hp:∀ ts x r,p ts=some (x,r)→p' ts=.ok x r) {ts:List Item} {k:Nat→List UInt8→List Ex→List Item→Option β} {k':Nat × List UInt8 × List Ex→List Item→Oc γ} {q:β} {o:Oc γ} (h:(match p ts with | none=>none | some ((a,b,c),r)=>k a b c r)=some q) (hk:∀ a b c r,k a b c r=some q→k' (a,b,c) r=o):(p' ts).bind k'=o:=by
 cases e:p ts with
 | none=>rw [e] at h;cases h
 | some x=>obtain ⟨⟨a,b,c⟩,r⟩:=x;rw [e] at h;rw [hp ts _ _ e];exact hk a b c r h
include hfg in
theorem callP_O {v:List UInt8} (ts:List Item) (q:Nat × List UInt8 × List Ex) (r:List Item) (h:callP f v ts=some (q,r)):callO g F v ts=.ok q r:=by
 unfold callP at h
 cases ts with
 | nil=>cases h
 | cons t r0=>
  dsimp only at h
  split at h
  ·cases h
  ·rename_i hop
   unfold callO opO
   dsimp only
   rw [if_neg hop,ok_bind]
   refine goM h fun r1 h=>goW h fun c r2 h=>?_
   unfold argO
   split at h
   ·rename_i k;rw [if_pos k,ok_bind];exact goM h fun r3 h=>by cases h;rfl
   ·rename_i k;rw [if_neg k,Oc.assoc]
    refine goM h fun r3 h=>?_
    rw [Oc.assoc]
    exact goX hfg h fun x r4 h=>goM h fun r3 h=>by cases h;rfl
include hfg in
theorem plainP_O (t0:Item) (ts r:List Item) (s:St) (h:plainP f t0 ts=some (s,r)):plainO g F t0.line t0.col ts=.ok s r:=by
 unfold plainP at h
 unfold plainO
 refine goW h fun n r1 h=>?_
 split at h
 ·rename_i k;rw [if_pos k]
  exact goX hfg h fun a r h=>goM h fun r h=>goX hfg h fun x r h=>goM h fun r h=>by cases h;rfl
 rename_i k;rw [if_neg k]
 split at h
 ·rename_i k;rw [if_pos k]
  refine goW h fun m r h=>goM h fun r h=>goC (callP_O (g:=g) (F:=F) hfg) h fun a b c r h=>?_
  cases h;rfl
 ·rename_i k;rw [if_neg k]
  refine goM h fun r h=>?_
  cases r with
  | nil=>cases h
  | cons t1 r1=>
   dsimp only at h
   split at h
   ·rename_i k;rw [if_pos (show headKind (t1::r1)=1 from k)]
    refine goC (callP_O (g:=g) (F:=F) hfg) h fun a b c r h=>?_
    cases h;rfl
   ·rename_i k;rw [if_neg (show ¬headKind (t1::r1)=1 from k)]
    exact goX hfg h fun x r h=>goM h fun r h=>by cases h;rfl
end
theorem stmtsL_O {p:List Item→Option (St × List Item)} {p':List Item→Oc St} (hp:∀ ts x r,p ts=some (x,r)→p' ts=.ok x r) (hd:LessS p'):∀ (f f':Nat) (ts:List Item) (l:List St) (r:List Item),ts.length<f'→stmtsL p f ts=some (l,r)→stmtsO p' f' ts=.ok l r
 | 0,_,_,_,_,_,h=>by cases h
 | f+1,0,_,_,_,hf,_=>absurd hf (Nat.not_lt_zero _)
 | f+1,f'+1,ts,l,r,hf,h=>by
  unfold stmtsL at h
  unfold stmtsO
  split at h
  ·rename_i k;rw [if_pos k];cases h;rfl
  ·rename_i k;rw [if_neg k]
   cases e:p ts with
   | none=>rw [e] at h;cases h
   | some x=>
    obtain ⟨s,m⟩:=x
    rw [e] at h
    have:=hd _ _ _ (hp _ _ _ e)
    rw [hp _ _ _ e,ok_bind]
    dsimp only at h
    cases e2:stmtsL p f m with
    | none=>rw [e2] at h;cases h
    | some y=>
     rw [e2] at h
     rw [stmtsL_O hp hd f f' m y.1 y.2 (by omega) e2]
     cases h;rfl
theorem blockOf_O {p:List Item→Option (St × List Item)} {p':List Item→Oc St} (hp:∀ ts x r,p ts=some (x,r)→p' ts=.ok x r) (hd:LessS p') (ts:List Item) (l:List St) (r:List Item) (h:blockOf p ts=some (l,r)):blockO p' ts=.ok l r:=by
 unfold blockOf at h
 split at h
 ·rename_i k
  unfold blockO
  rw [show mustO [[123]] ts=.ok () ts.tail from mustO_of (by unfold mustT;rw [if_pos k];rfl),ok_bind]
  exact stmtsL_O hp hd _ _ _ _ _ (Nat.lt_succ_self _) h
 ·cases h
theorem stmtP_O (g:Nat) (F:List Item→Option (List Item)):∀ f:Nat,f≤g+1→∀ (ts:List Item) (s:St) (r:List Item),stmtP f ts=some (s,r)→∀ f',f≤f'→stmtO g F f' ts=.ok s r
 | 0,_,_,_,_,h,_,_=>by cases h
 | f+1,_,_,_,_,_,0,h=>absurd h (by omega)
 | f+1,hg,ts,s,r,h,f'+1,hf=>by
  have hfg:f≤g:=by omega
  have HB:∀ ts x r,blockOf (stmtP f) ts=some (x,r)→blockO (stmtO g F f') ts=.ok x r:=blockOf_O (fun ts x r h=>stmtP_O g F f (by omega) ts x r h f' (by omega)) (stmtO_less g F f')
  unfold stmtP at h
  unfold stmtO stmtB
  cases ts with
  | nil=>cases h
  | cons t r0=>
   dsimp only at h ⊢
   split at h
   ·rename_i k;rw [if_pos k]
    exact goW h fun n r h=>goM h fun r h=>goX hfg h fun x r h=>goM h fun r h=>by cases h;rfl
   rename_i k;rw [if_neg k]
   split at h
   ·rename_i k;rw [if_pos k]
    exact goW h fun n r h=>goM h fun r h=>goW h fun x r h=>goM h fun r h=>by cases h;rfl
   rename_i k;rw [if_neg k]
   split at h
   ·rename_i k;rw [if_pos k]
    refine goX hfg h fun x r h=>goB HB h fun a r h=>?_
    split at h
    ·rename_i k;rw [if_pos k];exact goB HB h fun b r h=>by cases h;rfl
    ·rename_i k;rw [if_neg k];cases h;rfl
   rename_i k;rw [if_neg k]
   split at h
   ·rename_i k;rw [if_pos k]
    exact goX hfg h fun x r h=>goB HB h fun a r h=>by cases h;rfl
   rename_i k;rw [if_neg k]
   split at h
   ·rename_i k;rw [if_pos k]
    exact goX hfg h fun x r h=>goM h fun r h=>by cases h;rfl
   rename_i k;rw [if_neg k]
   split at h
   ·rename_i k;rw [if_pos k]
    exact goX hfg h fun x r h=>goM h fun r h=>by cases h;rfl
   rename_i k;rw [if_neg k]
   exact plainP_O hfg t _ _ _ h
theorem contsP_O:∀ (f:Nat) (ts:List Item) (l:List Ct) (r:List Item),contsP f ts=some (l,r)→contsO f ts=.ok l r
 | 0,_,_,_,h=>by cases h
 | f+1,ts,l,r,h=>by
  unfold contsP at h
  unfold contsO
  cases ts with
  | nil=>cases h;rfl
  | cons t r0=>
   dsimp only at h ⊢
   split at h
   ·rename_i k;rw [if_pos k];cases h;rfl
   ·rename_i k;rw [if_neg k]
    exact goW h fun n r h=>goM h fun r h=>goK (contsP_O f) h fun x r h=>by cases h;rfl
theorem threadsP_O {g:Nat} {blk:List Item→Oc (List St)} (hb:∀ ts x r,blockP g ts=some (x,r)→blk ts=.ok x r):∀ (f:Nat) (ts:List Item) (l:List (List St)),threadsP g f ts=some l→threadsO blk f ts=.ok l []
 | 0,_,_,h=>by cases h
 | f+1,ts,l,h=>by
  unfold threadsP at h
  unfold threadsO
  cases ts with
  | nil=>cases h;rfl
  | cons t r0=>
   dsimp only at h ⊢
   refine goM h fun r h=>goB hb h fun b r h=>?_
   cases e:threadsP g f r with
   | none=>rw [e] at h;cases h
   | some x=>rw [e] at h;rw [threadsP_O hb f r x e];cases h;rfl
/-- what is read as a program, the other reader reads -/
theorem progP_O {f g:Nat} (F:List Item→Option (List Item)) (hg:f≤g) {ts:List Item} {pr:Pr} (h:progP f ts=some pr):progO (blockO (stmtO g F g)) ts=.ok pr []:=by
 unfold progP at h
 unfold progO
 refine goM h fun r h=>goW h fun n r h=>goM h fun r h=>goK (contsP_O _) h fun cs r h=>?_
 cases e:threadsP f (r.length+1) r with
 | none=>rw [e] at h;cases h
 | some x=>rw [e] at h;rw [threadsP_O (blk:=blockO (stmtO g F g)) (fun ts x r h=>blockOf_O (fun ts x r h=>stmtP_O g F f (by omega) ts x r h g hg) (stmtO_less g F g) ts x r h) _ _ _ e];cases h;rfl
/-- what holds behind the last one may be told in other words -/
theorem ChainCE.mono {E E':List Item→Prop} (h:∀ ts,E ts→E' ts):∀ (l:List Ct) (ts:List Item),ChainCE E l ts→ChainCE E' l ts
 | [],ts,hc=>h ts hc
 | _::l,_,hc=>by
  obtain ⟨t,n,r1,r2,h1,h2,h3,h4,h5,h6,h7⟩:=hc
  exact ⟨t,n,r1,r2,h1,h2,h3,h4,h5,h6,ChainCE.mono h l r2 h7⟩
theorem ChainTE.mono {P:List Item→List St→List Item→Prop} {E E':List Item→Prop} (h:∀ ts,E ts→E' ts):∀ (l:List (List St)) (ts:List Item),ChainTE P E l ts→ChainTE P E' l ts
 | [],ts,hc=>h ts hc
 | _::l,_,hc=>by
  obtain ⟨r,m,h1,h2,h3,h4⟩:=hc
  exact ⟨r,m,h1,h2,h3,ChainTE.mono h l m h4⟩
/-- words that are of a kind of container are keywords -/
def WordI (its:List Item):Prop:=∀ t∈its,ofL kindL t.tok.text≠0→t.tok.kind=1
/-- what the reader of containers comes to -/
def EndC2 (o:Oc (List Ct)) (cs:List Ct) (ts:List Item):Prop:=
 (o=.ok cs ts∧ts.length≤1000000∧∀ t r0,ts=t::r0→ofL kindL t.tok.text=0)∨
 ∃ t r bb,ts=t::r∧t.tok.kind=1∧ofL kindL t.tok.text≠0∧o=.bad bb∧(wantO 2 r=.bad bb∨∃ n r1,wantO 2 r=.ok n r1∧mustO [[59]] r1=.bad bb)
theorem contsJ:∀ (f:Nat) (ts:List Item),ts.length≤1000000→WordI ts→contsO f ts≠.no→∃ cs,cs.length≤ts.length∧ChainCE (EndC2 (contsO f ts) cs) cs ts
 | 0,_,_,_,h=>absurd rfl h
 | f+1,ts,hl,hk,hn=>by
  unfold contsO at hn ⊢
  cases ts with
  | nil=>exact ⟨[],Nat.zero_le _,.inl ⟨rfl,hl,fun t r0 e=>by cases e⟩⟩
  | cons t r=>
   rw [List.length_cons] at hl
   dsimp only at hn ⊢
   by_cases hc:ofL kindL t.tok.text=0∨t.tok.kind≠1
   ·rw [if_pos hc]
    refine ⟨[],Nat.zero_le _,.inl ⟨rfl,by rw [List.length_cons];omega,fun t' r' e=>?_⟩⟩
    cases e
    rcases hc with h | h
    ·exact h
    ·exact Classical.byContradiction fun e=>h (hk t (List.mem_cons_self ..) e)
   ·rw [if_neg hc] at hn ⊢
    have hk1:t.tok.kind=1:=Classical.byContradiction fun e=>hc (.inr e)
    have h0:ofL kindL t.tok.text≠0:=fun e=>hc (.inl e)
    cases h1:wantO 2 r with
    | no=>exact absurd h1 (wantO_no _ _)
    | bad b=>exact ⟨[],Nat.zero_le _,.inr ⟨t,r,b,rfl,hk1,h0,rfl,.inl h1⟩⟩
    | ok n r1=>
     rw [h1,ok_bind] at hn
     rw [ok_bind]
     obtain ⟨e1,e2⟩:=wantO_ok h1
     cases h2:mustO [[59]] r1 with
     | no=>exact absurd h2 (mustO_no _ _)
     | bad b=>exact ⟨[],Nat.zero_le _,.inr ⟨t,r,b,rfl,hk1,h0,rfl,.inr ⟨n,r1,h1,h2⟩⟩⟩
     | ok u r2=>
      rw [h2,ok_bind] at hn
      rw [ok_bind]
      have l1:=wantO_len h1;have l2:=mustO_len h2
      obtain ⟨cs,a1,a2⟩:=contsJ f r2 (by omega) (fun i hi=>hk i (List.mem_cons_of_mem _ (by rw [e1];exact List.mem_cons_of_mem _ (mustO_sub h2 i hi)))) (fun e=>hn (by rw [e];rfl))
      refine ⟨⟨ofL kindL t.tok.text,n.tok.text,t.line,t.col⟩::cs,by simp only [List.length_cons];omega,t,n,r1,r2,by rw [e1],hk1,h0,e2,mustT_of h2,rfl,ChainCE.mono (fun ts h=>?_) _ _ a2⟩
      rcases h with ⟨h,h'⟩ | ⟨t,r,bb,g1,g2,g3,g4,g5⟩
      ·exact .inl ⟨by rw [h];rfl,h'⟩
      ·exact .inr ⟨t,r,bb,g1,g2,g3,by rw [g4];rfl,g5⟩
section
variable {R el ec : Nat} {blk : List Item → Oc (List St)} (hL : LessB blk) (hB : ∀ ts, ts.length ≤ 1000000 → blk ts ≠ .no → DoesB R el ec ts (blk ts))
include hL hB
/-- what the reader of threads comes to -/
theorem threadsJ:∀ (f:Nat) (ts:List Item),ts.length≤1000000→threadsO blk f ts≠.no→∃ l,l.length≤ts.length∧ChainTE (fun ts b m=>DoesB R el ec ts (.ok b m)) (fun r=>(r=[]∧threadsO blk f ts=.ok l [])∨(r≠[]∧∃ b,threadsO blk f ts=.bad b∧(mustO [[116,104,114,101,97,100]] r=.bad b∨∃ ts1,mustT [[116,104,114,101,97,100]] r=some ts1∧DoesB R el ec ts1 (.bad b)))) l ts
 | 0,_,_,h=>absurd rfl h
 | f+1,ts,hl,hn=>by
  unfold threadsO at hn ⊢
  cases ts with
  | nil=>exact ⟨[],Nat.zero_le _,.inl ⟨rfl,rfl⟩⟩
  | cons t r0=>
   dsimp only at hn ⊢
   cases h1:mustO [[116,104,114,101,97,100]] (t::r0) with
   | no=>exact absurd h1 (mustO_no _ _)
   | bad b=>exact ⟨[],Nat.zero_le _,.inr ⟨by simp,b,rfl,.inl h1⟩⟩
   | ok u r1=>
    rw [h1,ok_bind] at hn
    rw [ok_bind]
    have l1:=mustO_len h1
    have hd:=hB r1 (by omega)
    cases h2:blk r1 with
    | no=>rw [h2] at hn;exact absurd rfl hn
    | bad b=>
     rw [h2] at hd
     exact ⟨[],Nat.zero_le _,.inr ⟨by simp,b,rfl,.inr ⟨r1,mustT_of h1,hd fun h=>by cases h⟩⟩⟩
    | ok s r2=>
     rw [h2,ok_bind] at hn
     rw [h2] at hd
     rw [ok_bind]
     have l2:=hL _ _ _ h2
     obtain ⟨l,a1,a2⟩:=threadsJ f r2 (by omega) (fun e=>hn (by rw [e];rfl))
     refine ⟨s::l,by rw [List.length_cons];omega,r1,r2,mustT_of h1,hd (fun h=>by cases h),by omega,ChainTE.mono (fun ts h=>?_) _ _ a2⟩
     rcases h with ⟨g1,g2⟩ | ⟨g1,b,g2,g3⟩
     ·exact .inl ⟨g1,by rw [g2];rfl⟩
     ·exact .inr ⟨g1,b,by rw [g2];rfl,g3⟩
/-- what the plain reader of programs comes to, program comes to -/
theorem progO_does (its:List Item) (hl:its.length≤1000000) (hk:WordI its) (hn:progO blk its≠.no) (w:World) (hr:ReaderAt w R its el ec):
  Calls Tryz.prog 58 #[rdV R] w fun e w'=>OutG w R el ec (progO blk its) e w':=by
 unfold progO at hn ⊢
 cases h1:mustO [[112,111,111,108]] its with
 | no=>exact absurd h1 (mustO_no _ _)
 | bad b=>exact program_headF R el ec its b (by rw [h1];rfl) w hr
 | ok u r0=>
  rw [h1,ok_bind] at hn
  rw [ok_bind]
  have l1:=mustO_len h1
  cases h2:wantO 3 r0 with
  | no=>exact absurd h2 (wantO_no _ _)
  | bad b=>exact program_headF R el ec its b (by rw [h1,ok_bind,h2];rfl) w hr
  | ok n r1=>
   rw [h2,ok_bind] at hn
   rw [ok_bind]
   have l2:=wantO_len h2
   obtain ⟨e1,e2⟩:=wantO_ok h2
   cases h3:mustO [[59]] r1 with
   | no=>exact absurd h3 (mustO_no _ _)
   | bad b=>exact program_headF R el ec its b (by rw [h1,ok_bind,h2,ok_bind,h3];rfl) w hr
   | ok u2 r2=>
    rw [h3,ok_bind] at hn
    rw [ok_bind]
    have l3:=mustO_len h3
    have hk2:WordI r2:=fun i hi=>hk i (mustO_sub h1 i (by rw [e1];exact List.mem_cons_of_mem _ (mustO_sub h3 i hi)))
    obtain ⟨cs,a1,a2⟩:=contsJ (r2.length+1) r2 (by omega) hk2 (fun e=>hn (by rw [e];rfl))
    refine programJ R el ec its r1 r2 n cs _ (fun ts b m=>DoesB R el ec ts (.ok b m)) (fun _ _ _ h=>h) (by rw [←e1];exact mustT_of h1) e2 (mustT_of h3) (ChainCE.mono (fun ts h=>?_) _ _ a2) (by omega) w hr
    rcases h with ⟨g1,g2,g3⟩ | ⟨t,r,bb,g1,g2,g3,g4,g5⟩
    ·rw [g1,ok_bind] at hn ⊢
     obtain ⟨ths,b1,b2⟩:=threadsJ hL hB (ts.length+1) ts g2 (fun e=>hn (by rw [e];rfl))
     refine .inl ⟨g3,ths,by omega,ChainTE.mono (fun ts h=>?_) _ _ b2⟩
     rcases h with ⟨f1,f2⟩ | ⟨f1,b,f2,f3⟩
     ·exact .inl ⟨f1,by rw [f2];rfl⟩
     ·exact .inr ⟨f1,b,by rw [f2];rfl,f3⟩
    ·exact .inr ⟨t,r,bb,g1,g2,g3,by rw [g4];rfl,g5⟩
end
/-- what the plain reader of programs comes to, program comes to: over expressions -/
theorem progG_does (g R el ec:Nat) (its:List Item) (hl:its.length≤1000000) (hk:WordI its) (hn:progO (blockO (stmtO g (exFo g) g)) its≠.no) (w:World) (hr:ReaderAt w R its el ec):
  Calls Tryz.prog 58 #[rdV R] w fun e w'=>OutG w R el ec (progO (blockO (stmtO g (exFo g) g)) its) e w':=
 progO_does (blockO_less (stmtO_less g (exFo g) g)) (fun ts hl h=>blockO_does R el ec (stmtO_less g (exFo g) g) (stmtO_does R el ec g (exFo g) (faultsE_ex g R el ec) g) ts hl h) its hl hk hn w hr
theorem reads_of {g R el ec:Nat} {its r:List Item} {pr:Pr} (hl:its.length≤1000000) (hk:WordI its) (h:progO (blockO (stmtO g (exFo g) g)) its=.ok pr r):ReadsP R el ec its pr:=fun w hr=>by
 have:=progG_does g R el ec its hl hk (by rw [h];exact fun e=>by cases e) w hr
 rw [h] at this
 exact this
theorem progP_reads (R el ec f:Nat) (its:List Item) (pr:Pr) (hl:its.length≤1000000) (hk:WordI its) (h:progP f its=some pr):ReadsP R el ec its pr:=
 reads_of hl hk (progP_O (exFo f) (Nat.le_refl f) h)
/-
  Programs in memory: what was read is what is checked.
-/
def gcL (c:Gc):List Value:=[.int .i64 c.kind,strV c.name,.int .i64 c.line,.int .i64 c.col]
def gcCells (l:List Gc):List Value:=(l.map gcL).flatten
theorem gcCells_at:∀ (l:List Gc) (i t:Nat) (hi:i<l.length),t<4→(gcCells l)[i * 4+t]?=(gcL l[i])[t]?
 | c::l,0,t,_,ht=>by
  unfold gcCells
  rw [List.map_cons,List.flatten_cons,Nat.zero_mul,Nat.zero_add,List.getElem?_append_left (by simp [gcL];omega)]
  rfl
 | c::l,i+1,t,hi,ht=>by
  have h:=gcCells_at l i t (by simpa using hi) ht
  unfold gcCells at h ⊢
  rw [List.map_cons,List.flatten_cons,List.getElem?_append_right (by simp [gcL];omega)]
  rw [show (i+1) * 4+t - (gcL c).length=i * 4+t by simp [gcL];omega]
  simpa using h
 | [],i,_,hi,_=>absurd hi (by simp)
theorem GCts.of_cells {w:World} {S:Nat→Prop} {g:Nat} (hS:S g) {l:List Gc} (h:∀ j u,(gcCells l)[j]?=some u→w.cell? ⟨g,j,none⟩=some u):GCts w S (some ⟨g,0,none⟩) l:=fun i hi=>by
 have hc:=fun t (ht:t<4)=>gcCells_at l i t hi ht
 have h0:=h (i * 4+0) _ ((hc 0 (by decide)).trans rfl)
 have h1:=h (i * 4+1) _ ((hc 1 (by decide)).trans rfl)
 have h2:=h (i * 4+2) _ ((hc 2 (by decide)).trans rfl)
 have h3:=h (i * 4+3) _ ((hc 3 (by decide)).trans rfl)
 refine ⟨g,0,rfl,hS,?_,?_,?_,?_⟩
 ·rw [Nat.zero_add];exact h0
 ·rw [Nat.zero_add];exact h1
 ·rw [Nat.zero_add];exact h2
 ·rw [Nat.zero_add];exact h3
theorem PAt.mono {w:World} {S S':Nat→Prop} (hS:∀ b,S b→S' b) {v:Value} {p:Gp} (h:PAt w S v p):PAt w S' v p:=by
 obtain ⟨p1,c1,p2,c2,h1,h2,h3⟩:=h
 exact ⟨p1,c1,p2,c2,h1,h2.mono hS,h3.mono hS⟩
theorem PrgAt.toP {w:World} {S:Nat→Prop} {vs:List Value} {pr:Pr} (h:PrgAt w S vs pr):PAt w S (.agg vs.toArray) (toP pr):=by
 obtain ⟨p,c,q,d,rfl,hc,ht⟩:=h
 refine ⟨p,c,q,d,by unfold Go.Proofs.YtknnmidnodeanaaGreatDoor.toP;simp,?_,?_⟩
 ·rcases hc with h0 | ⟨g,rfl,hS,hg⟩
  ·unfold Go.Proofs.YtknnmidnodeanaaGreatDoor.toP
   rw [h0]
   exact fun i hi=>absurd hi (by simp)
  ·refine GCts.of_cells hS ?_
   have e:gcCells (Go.Proofs.YtknnmidnodeanaaGreatDoor.toP pr).conts=(pr.conts.map ctV).flatten:=by
    unfold gcCells Go.Proofs.YtknnmidnodeanaaGreatDoor.toP
    rw [List.map_map]
    rfl
   rw [e]
   exact hg
 ·obtain ⟨sl,hl,hg,he⟩:=ht
  rcases hg with h0 | ⟨g,rfl,hS,hg⟩
  ·unfold Go.Proofs.YtknnmidnodeanaaGreatDoor.toP
   rw [h0]
   exact fun i hi=>absurd hi (by simp)
  ·intro i hi
   have hi':i<pr.threads.length:=by unfold Go.Proofs.YtknnmidnodeanaaGreatDoor.toP at hi;simpa using hi
   obtain ⟨q2,c2,e1,e2⟩:=he i (by omega) hi'
   have ei:(Go.Proofs.YtknnmidnodeanaaGreatDoor.toP pr).threads[i]=toSL pr.threads[i]:=by simp only [Go.Proofs.YtknnmidnodeanaaGreatDoor.toP,List.getElem_map]
   refine ⟨g,0,q2,c2,rfl,hS,?_,?_⟩
   ·rw [ei,toSL_len,Nat.zero_add]
    exact hg i _ (by rw [List.getElem?_eq_getElem (by omega),e1])
   ·rw [ei]
    exact e2.toS
/-
  Package check: Source of a text that parse.Program reads.
-/
attribute [local go_sem] Oper.semAt_some
/-- what Source tells -/
def SrcP (w:World) (p:Gp) (e:Ending) (w':World):Prop:=KeepBut (fun _=>False) w w'∧∃ v,e=.returned (.tuple #[v,flV (pgF p)])∧(∃ xn xp xm xc yp ym yc,v=.agg #[.int .i64 xn,.slice xp xm xc,.slice yp ym yc])∧((pgF p).err=0→PAt w' (fun b=>w.heap.size≤b) v p)
theorem pat_mono' {w:World} {S S':Nat→Prop} {v:Value} {p:Gp} (h:PAt w S v p) (hS:∀ b,S b→S' b):PAt w S' v p:=PAt.mono hS h
set_option maxRecDepth 100000 in
set_option maxHeartbeats 8000000 in
theorem source_any (s:ByteArray) (its:List Item) (pr:Pr) (w:World) (hT:TabS w) (hall:allT s.data.toList=(its,⟨0,0,0⟩)) (hss:s.size≤1000000) (hx:∀ R el ec,ReadsP R el ec its pr) (hthl:pr.threads.length≤1000000) (hne:its≠[]) (hsz:thsSize pr.threads≤600) (hdp:thsDeep pr.threads≤24) (hm:Mild (toP pr)):
  Calls Tryz.prog 37 #[.string s] w fun e w'=>SrcP w (toP pr) e w':=by
 obtain ⟨V1,B2,hV1,hB2,hb2,hk1,hs1⟩:=fresh_block w (.cells #[.int .i64 0,.slice none 0 0,.slice none 0 0] TPr)
 obtain ⟨V,B3,hV,hB3,hb3,hk2,hs2⟩:=fresh_block V1 (.cells #[.int .i64 0,.int .i64 0,.int .i64 0] TFa)
 have hk:=hk1.trans hk2
 have HRE:=hid (prog_any s its pr V (hk.tabS hT) hall hss hx hthl hne hsz hdp)
 have h23:B2+1=B3:=by omega
 have HK:=hid hk;have HB2:=hid (hk2.blk hb2);have HB3:=hid hb3;have HM:=hid hm;have HT:=hid hT
 have HN:=hid (show w.heap.size≤B2∧B2<B3∧B3<V.heap.size by omega)
 clear hT hall hss hx hthl hne hsz hdp hb2 hb3 hk1 hk2 hs1 hs2 hk hm
 go_enter Tryz.func37,Tryz.ntmps37
 go_upto_region 1 with fail
 rw [←hV1,←hB2,←hV,h23]
 clear hV1 hB2 hV hB3 h23
 go_wp2_with fail
 go_at_call 46
 refine HRE.out.mono ?_
 rintro e w1 ⟨vs,rfl,hex,hk1⟩
 have hpa:=pat_in hex.toP
 obtain ⟨xn,xp,xm,xc,yp,ym,yc,rfl⟩:=prg_form hex
 obtain ⟨X,P4,hX,hP4,hb4,hkx,hsx⟩:=fresh_block w1 (.cells #[.int .i64 xn,.slice xp xm xc,.slice yp ym yc] TPr)
 obtain ⟨W,F5,hW,hF5,hb5,hky,hsy⟩:=fresh_block X (.cells #[.int .i64 0,.int .i64 0,.int .i64 0] TFa)
 have h45:P4+1=F5:=by omega
 have hkk:=hkx.trans hky
 have hk1W:=hk1.trans hkk
 have HPA:=hid (pat_stay hpa hkk)
 have HPR:=hid (prog18_any (toP pr) HM.out W ((HK.out.trans hk1W).tabS HT.out) _ _ (pat_stay hpa hkk))
 have HKW:=hid (HK.out.trans hk1W)
 have HW1:=hid (show w1.heap.size≤P4 by omega)
 have HN4:=hid (show V.heap.size≤P4∧P4<F5∧F5<W.heap.size by have:=hk1.size;omega)
 have HB4:=hid (hky.blk hb4);have HB5:=hid hb5;have HB2W:=hid (hk1W.blk HB2.out);have HB3W:=hid (hk1W.blk HB3.out)
 obtain ⟨m0,m1,m2,-⟩:=blk3f (hky.blk hb4)
 obtain ⟨n0,n1,n2,-⟩:=blk3f hb5
 clear hex hpa hb4 hb5 hkx hky hsx hsy hkk hk1W hk1
 go_upto_region 2 with fail
 rw [←hX,←hW,←hP4,h45]
 clear hX hW hP4 hF5 h45
 go_upto_region 3 with fail
 go_wp2_with fail
 go_at_call 8
 refine HPR.out.mono ?_
 rintro e w2 ⟨rfl,hk2⟩
 obtain ⟨⟨er,li,co⟩,hf⟩:∃ f,pgF (toP pr)=f:=⟨_,rfl⟩
 rw [hf]
 unfold flV
 dsimp only
 have HF:=hid hf
 have hb5:=hk2.blk HB5.out
 obtain ⟨n0',n1',n2',g0,g1,g2⟩:=blk3f hb5
 obtain ⟨w3,hw3,hb53,hk3⟩:=put3 hb5 (.int .i64 er) (.int .i64 li) (.int .i64 co)
 have hn:=HN.out;have hn4:=HN4.out
 have HB43:=hid (hk3.blkE (hk2.blk HB4.out) fun e=>by have e:P4=F5:=e;omega)
 have HB53:=hid hb53
 have HB23:=hid (hk3.blkE (hk2.blk HB2W.out) fun e=>by have e:B2=F5:=e;omega)
 have HB33:=hid (hk3.blkE (hk2.blk HB3W.out) fun e=>by have e:B3=F5:=e;omega)
 have HK3:=hid ((HKW.out.trans hk2).new hk3 fun b e=>by have e:b=F5:=e;omega)
 have HPA9:=hid (pat_keep (pat_stay HPA.out hk2) hk3 fun b hb e=>by have e:b=F5:=e;have:=hb.2;have:=HW1.out;omega)
 obtain ⟨k0,k1,k2,-⟩:=blk3f hb53
 clear hf hb5 hk2 hb53 hk3 hn hn4 m0 m1 m2 n0 n1 n2
 go_upto_region 4 with fail
 rw [←hw3]
 clear hw3 n0' n1' n2' g0 g1 g2
 by_cases he:er=0
 ·subst he
  go_upto_region 6 with fail
  refine wp_ownB (by kernel_rfl) B2 B3 _ _ HB23.out HB33.out (by have:=HN.out;omega) (fun i=>[[],[],[0],[0,1,2]].getD i []) (fun i=>if i=2 then [4] else if i=3 then [5] else []) (fun i=>if i=2 then [4] else if i=3 then [5] else []) [2,3] (by kernel_rfl) (fun i=>if i=2 then some (sPut B2 TPr) else if i=3 then some (sPut B3 TFa) else none) ?_
  apply lex_quiet rfl rfl
  ·intro w' hk;obtain ⟨x0,x1,x2,-⟩:=blk3f (((KeepBut.drew (fun b=>b=B2∨b=B3) w3).trans hk).blkE HB43.out fun e=>by have:=HN.out;have:=HN4.out;omega);go_simp;with_reducible rfl
  simp only [Act.put,LS]
  apply lex_quiet rfl rfl
  ·intro w' hk;obtain ⟨x0,x1,x2,-⟩:=blk3f (((KeepBut.drew (fun b=>b=B2∨b=B3) w3).trans hk).blkE HB53.out fun e=>by have:=HN.out;have:=HN4.out;omega);go_simp;with_reducible rfl
  simp only [Act.put,LS]
  refine lex_loud rfl rfl (loud_put B2 TPr TPr #[.int .i64 xn,.slice xp xm xc,.slice yp ym yc] _ (.tmp 2) (.tmp 21) rfl rfl rfl 4 (by decide) (by decide) (fun w h=>h) (.inl ⟨rfl,rfl⟩) rfl (by kernel_rfl) (by simp [Value.oneCell'])) fun g2 _=>?_
  simp only [sPut,Act.put]
  refine lex_loud rfl rfl (loud_put B3 TFa TFa #[.int .i64 0,.int .i64 li,.int .i64 co] _ (.tmp 3) (.tmp 22) rfl rfl rfl 5 (by decide) (by decide) (fun w h=>h) (.inr ⟨rfl,rfl⟩) rfl (by kernel_rfl) (by simp [Value.oneCell'])) fun g3 _=>?_
  simp only [Act.put]
  refine lex_nil ?_
  intro w9 hk9 hF _
  have f2:w9.heap[B2]?=some (.cells #[.int .i64 xn,.slice xp xm xc,.slice yp ym yc] TPr (0,0)):=(hF 2 (by decide)).1 _ (put_args rfl rfl)
  have f3:w9.heap[B3]?=some (.cells #[.int .i64 0,.int .i64 li,.int .i64 co] TFa (0,0)):=(hF 3 (by decide)).1 _ (put_args rfl rfl)
  have hkM:=(KeepBut.drew (fun b=>b=B2∨b=B3) w3).trans hk9
  have hn:=HN.out;have hn4:=HN4.out
  obtain ⟨c0,c1,c2,-⟩:=blk3f f2
  obtain ⟨d0,d1,d2,-⟩:=blk3f f3
  have HK9:=hid (HK3.out.new hkM fun b hb=>by omega)
  have HPA10:=hid (pat_keep HPA9.out hkM fun b hb e=>by have h1:=hb.1;omega)
  clear hk9 hF f2 f3 hkM hn hn4
  go_wp2_with fail
  exact bodyPost_ret (v:=.tuple #[.agg #[.int .i64 xn,.slice xp xm xc,.slice yp ym yc],.agg #[.int .i64 0,.int .i64 li,.int .i64 co]]) (by simp [results,Tryz.results37,go_sem,c0,c1,c2,d0,d1,d2]) rfl ⟨HK9.out,_,by rw [HF.out],⟨_,_,_,_,_,_,_,rfl⟩,fun _=>pat_mono' HPA10.out fun b hb=>by have:=hb.1;have:=HN.out;omega⟩
 ·have he2:(er != 0)=true:=by simpa using he
  go_upto_region 5 with fail
  refine wp_ownB (by kernel_rfl) B2 B3 _ _ HB23.out HB33.out (by have:=HN.out;omega) (fun i=>[[],[],[0],[0,1,2]].getD i []) (fun i=>if i=2 then [4] else if i=3 then [5] else []) (fun i=>if i=2 then [4] else if i=3 then [5] else []) [2,3] (by kernel_rfl) (fun i=>if i=2 then some (sPut B2 TPr) else if i=3 then some (sPut B3 TFa) else none) ?_
  apply lex_quiet rfl rfl
  ·intro w' hk;go_simp;with_reducible rfl
  simp only [Act.put,LS]
  apply lex_quiet rfl rfl
  ·intro w' hk;obtain ⟨x0,x1,x2,-⟩:=blk3f (((KeepBut.drew (fun b=>b=B2∨b=B3) w3).trans hk).blkE HB53.out fun e=>by have:=HN.out;have:=HN4.out;omega);go_simp;with_reducible rfl
  simp only [Act.put,LS]
  refine lex_loud rfl rfl (loud_put B2 TPr TPr #[.int .i64 0,.slice none 0 0,.slice none 0 0] _ (.tmp 2) (.tmp 19) rfl rfl rfl 4 (by decide) (by decide) (fun w h=>h) (.inl ⟨rfl,rfl⟩) rfl (by kernel_rfl) (by simp [Value.oneCell'])) fun g2 _=>?_
  simp only [sPut,Act.put]
  refine lex_loud rfl rfl (loud_put B3 TFa TFa #[.int .i64 er,.int .i64 li,.int .i64 co] _ (.tmp 3) (.tmp 20) rfl rfl rfl 5 (by decide) (by decide) (fun w h=>h) (.inr ⟨rfl,rfl⟩) rfl (by kernel_rfl) (by simp [Value.oneCell'])) fun g3 _=>?_
  simp only [Act.put]
  refine lex_nil ?_
  intro w9 hk9 hF _
  have f2:w9.heap[B2]?=some (.cells #[.int .i64 0,.slice none 0 0,.slice none 0 0] TPr (0,0)):=(hF 2 (by decide)).1 _ (put_args rfl rfl)
  have f3:w9.heap[B3]?=some (.cells #[.int .i64 er,.int .i64 li,.int .i64 co] TFa (0,0)):=(hF 3 (by decide)).1 _ (put_args rfl rfl)
  have hkM:=(KeepBut.drew (fun b=>b=B2∨b=B3) w3).trans hk9
  have hn:=HN.out;have hn4:=HN4.out
  obtain ⟨c0,c1,c2,-⟩:=blk3f f2
  obtain ⟨d0,d1,d2,-⟩:=blk3f f3
  have HK9:=hid (HK3.out.new hkM fun b hb=>by omega)
  have HPA10:=hid (pat_keep HPA9.out hkM fun b hb e=>by have h1:=hb.1;omega)
  clear hk9 hF f2 f3 hkM hn hn4
  go_wp2_with fail
  exact bodyPost_ret (v:=.tuple #[.agg #[.int .i64 0,.slice none 0 0,.slice none 0 0],.agg #[.int .i64 er,.int .i64 li,.int .i64 co]]) (by simp [results,Tryz.results37,go_sem,c0,c1,c2,d0,d1,d2]) rfl ⟨HK9.out,_,by rw [HF.out],⟨_,_,_,_,_,_,_,rfl⟩,fun h=>absurd (by rw [HF.out] at h;exact h) he⟩
/-
  The chapter's examples: what is read out of them, what package check says.
-/
attribute [local go_sem] Oper.semAt_some
def tx1:List UInt8:=[112,111,111,108,32,49,59,32,115,116,97,99,107,32,115,59,32,116,104,114,101,97,100,32,123,32,97,32,61,32,49,59,32,125]
def ix1:List Item:=(allT tx1).1
def px1:Pr:=(progP 9 ix1).getD ⟨0,[],[]⟩
theorem all_x1:allT tx1=(ix1,⟨0,0,0⟩):=by kernel_rfl
theorem prog_x1:progP 9 ix1=some px1:=by kernel_rfl
theorem word_x1:WordI ix1:=by unfold WordI;decide +kernel
theorem reads_x1 (R el ec:Nat):ReadsP R el ec ix1 px1:=progP_reads R el ec 9 ix1 px1 (by decide +kernel) word_x1 prog_x1
def tx2:List UInt8:=[112,111,111,108,32,49,59,32,115,116,97,99,107,32,115,59,32,116,104,114,101,97,100,32,123,32,118,97,114,32,97,32,61,32,97,59,32,125]
def ix2:List Item:=(allT tx2).1
def px2:Pr:=(progP 9 ix2).getD ⟨0,[],[]⟩
theorem all_x2:allT tx2=(ix2,⟨0,0,0⟩):=by kernel_rfl
theorem prog_x2:progP 9 ix2=some px2:=by kernel_rfl
theorem word_x2:WordI ix2:=by unfold WordI;decide +kernel
theorem reads_x2 (R el ec:Nat):ReadsP R el ec ix2 px2:=progP_reads R el ec 9 ix2 px2 (by decide +kernel) word_x2 prog_x2
def tx3:List UInt8:=[112,111,111,108,32,49,59,32,115,116,97,99,107,32,115,59,32,116,104,114,101,97,100,32,123,32,118,97,114,32,97,32,61,32,49,59,32,97,114,114,97,121,32,98,91,51,93,59,32,97,32,61,32,112,117,115,104,40,115,44,32,98,91,97,93,41,59,32,125]
def ix3:List Item:=(allT tx3).1
def px3:Pr:=(progP 9 ix3).getD ⟨0,[],[]⟩
theorem all_x3:allT tx3=(ix3,⟨0,0,0⟩):=by kernel_rfl
theorem prog_x3:progP 9 ix3=some px3:=by kernel_rfl
theorem word_x3:WordI ix3:=by unfold WordI;decide +kernel
theorem reads_x3 (R el ec:Nat):ReadsP R el ec ix3 px3:=progP_reads R el ec 9 ix3 px3 (by decide +kernel) word_x3 prog_x3
theorem said_1:pgF (toP px1)=⟨6,1,27⟩:=by decide +kernel
theorem said_2:pgF (toP px2)=⟨6,1,35⟩:=by decide +kernel
theorem said_3:pgF (toP px3)=⟨0,0,0⟩:=by decide +kernel
/-
  The chapter's examples: lives.
-/
attribute [local go_sem] Oper.semAt_some
mutual
def fitB:Gs→Bool
 | .mk _ _ _ _ val into cont _ thn els _ _=>decide (val.length+into.length+cont.length≤1099511627776) && (fitLB thn && fitLB els)
def fitLB:List Gs→Bool
 | []=>true
 | s::l=>fitB s && fitLB l
end
mutual
theorem fitB_fit:∀ {s:Gs},fitB s=true→fitS s
 | .mk _ _ _ _ val into cont _ thn els _ _,h=>by
  unfold fitB at h
  simp only [Bool.and_eq_true,decide_eq_true_eq] at h
  unfold fitS
  exact ⟨h.1,fitLB_fit h.2.1,fitLB_fit h.2.2⟩
theorem fitLB_fit:∀ {l:List Gs},fitLB l=true→fitSL l
 | [],_=>by unfold fitSL;trivial
 | s::l,h=>by
  unfold fitLB at h
  simp only [Bool.and_eq_true] at h
  unfold fitSL
  exact ⟨fitB_fit h.1,fitLB_fit h.2⟩
end
def mildB (p:Gp):Bool:=decide (hSize p.threads≤1000000000) && (decide (p.conts.length≤2000000) && (decide (p.threads.length≤2000000) && p.threads.all fitLB))
theorem mild_of {p:Gp} (h:mildB p=true):Mild p:=by
 unfold mildB at h
 simp only [Bool.and_eq_true,decide_eq_true_eq,List.all_eq_true] at h
 exact ⟨h.1,h.2.1,h.2.2.1,fun l hl=>fitLB_fit (h.2.2.2 l hl)⟩
set_option maxRecDepth 100000 in
set_option maxHeartbeats 8000000 in
theorem program18_any (s:ByteArray) (p:Gp) (w:World) (hT:TabS w) (h:∀ w,TabS w→Calls Tryz.prog 37 #[.string s] w fun e w'=>SrcP w p e w'):
  Calls Tryz.prog 23 #[.string s] w fun e w'=>SrcP w p e w':=by
 obtain ⟨V1,B2,hV1,hB2,hb2,hk1,hs1⟩:=fresh_block w (.cells #[.int .i64 0,.slice none 0 0,.slice none 0 0] TPr)
 obtain ⟨V,B3,hV,hB3,hb3,hk2,hs2⟩:=fresh_block V1 (.cells #[.int .i64 0,.int .i64 0,.int .i64 0] TFa)
 have hk:=hk1.trans hk2
 have HRE:=hid (h V (hk.tabS hT))
 have h23:B2+1=B3:=by omega
 have HK:=hid hk;have HB2:=hid (hk2.blk hb2);have HB3:=hid hb3
 have HN:=hid (show w.heap.size≤B2∧B2<B3∧B3<V.heap.size by omega)
 clear hT h hb2 hb3 hk1 hk2 hs1 hs2 hk
 go_enter Tryz.func23,Tryz.ntmps23
 go_upto_region 1 with fail
 rw [←hV1,←hB2,←hV,h23]
 clear hV1 hB2 hV hB3 h23
 go_wp2_with fail
 go_at_call 37
 refine HRE.out.mono ?_
 rintro e w1 ⟨hk1,v,rfl,⟨xn,xp,xm,xc,yp,ym,yc,rfl⟩,hpa⟩
 obtain ⟨⟨er,li,co⟩,hf⟩:∃ f,pgF p=f:=⟨_,rfl⟩
 rw [hf] at hpa ⊢
 unfold flV
 dsimp only at hpa ⊢
 have HF:=hid hf;have HPA:=hid hpa;have HK1:=hid hk1
 have hb2:=hk1.blk HB2.out;have hb3:=hk1.blk HB3.out
 have HB2:=hid hb2;have HB3:=hid hb3
 obtain ⟨m0,m1,m2,f0,f1,f2⟩:=blk3f hb2
 obtain ⟨q0,q1,q2,g0,g1,g2⟩:=blk3f hb3
 have hne23:B2≠B3:=by have:=HN.out;omega
 have hne32:B3≠B2:=by have:=HN.out;omega
 clear hk1 hb2 hb3 hf hpa
 go_wp2_with fail
 obtain ⟨wa,hwa,hba,hka⟩:=put3 HB2.out (.int .i64 xn) (.slice xp xm xc) (.slice yp ym yc)
 rw [←hwa]
 have hn:=HN.out
 obtain ⟨wf,hwf,hbf,hkf⟩:=put3 (hka.blkE HB3.out fun e=>by have e:B3=B2:=e;omega) (.int .i64 er) (.int .i64 li) (.int .i64 co)
 rw [←hwf]
 obtain ⟨c0,c1,c2,-⟩:=blk3f (hkf.blkE hba fun e=>by have e:B2=B3:=e;omega)
 obtain ⟨d0,d1,d2,-⟩:=blk3f hbf
 clear hwa hwf
 exact bodyPost_ret (v:=.tuple #[.agg #[.int .i64 xn,.slice xp xm xc,.slice yp ym yc],.agg #[.int .i64 er,.int .i64 li,.int .i64 co]]) (by simp [results,Tryz.results23,go_sem,c0,c1,c2,d0,d1,d2]) rfl ⟨((HK.out.trans HK1.out).new hka fun b e=>by have e:b=B2:=e;omega).new hkf fun b e=>by have e:b=B3:=e;omega,_,by rw [HF.out],⟨_,_,_,_,_,_,_,rfl⟩,fun h=>by
  rw [HF.out] at h
  exact pat_mono' (pat_keep (pat_keep (HPA.out h) hka fun b hb e=>by have e:b=B2:=e;have hb:V.heap.size≤b:=hb;omega) hkf fun b hb e=>by have e:b=B3:=e;have hb:V.heap.size≤b:=hb;omega) fun b hb=>by have hb:V.heap.size≤b:=hb;omega⟩
theorem mild_x1:Mild (toP px1):=mild_of (by decide +kernel)
theorem src_x1 (w:World) (hT:TabS w):Calls Tryz.prog 23 #[.string ⟨#[112,111,111,108,32,49,59,32,115,116,97,99,107,32,115,59,32,116,104,114,101,97,100,32,123,32,97,32,61,32,49,59,32,125]⟩] w fun e w'=>SrcP w (toP px1) e w':=
 program18_any ⟨tx1.toArray⟩ _ w hT fun w hT=>source_any ⟨tx1.toArray⟩ ix1 px1 w hT all_x1 (by decide) (fun R el ec=>reads_x1 R el ec) (by decide +kernel) (by decide +kernel) (by decide +kernel) (by decide +kernel) mild_x1
theorem mild_x2:Mild (toP px2):=mild_of (by decide +kernel)
theorem src_x2 (w:World) (hT:TabS w):Calls Tryz.prog 23 #[.string ⟨#[112,111,111,108,32,49,59,32,115,116,97,99,107,32,115,59,32,116,104,114,101,97,100,32,123,32,118,97,114,32,97,32,61,32,97,59,32,125]⟩] w fun e w'=>SrcP w (toP px2) e w':=
 program18_any ⟨tx2.toArray⟩ _ w hT fun w hT=>source_any ⟨tx2.toArray⟩ ix2 px2 w hT all_x2 (by decide) (fun R el ec=>reads_x2 R el ec) (by decide +kernel) (by decide +kernel) (by decide +kernel) (by decide +kernel) mild_x2
theorem mild_x3:Mild (toP px3):=mild_of (by decide +kernel)
theorem src_x3 (w:World) (hT:TabS w):Calls Tryz.prog 23 #[.string ⟨#[112,111,111,108,32,49,59,32,115,116,97,99,107,32,115,59,32,116,104,114,101,97,100,32,123,32,118,97,114,32,97,32,61,32,49,59,32,97,114,114,97,121,32,98,91,51,93,59,32,97,32,61,32,112,117,115,104,40,115,44,32,98,91,97,93,41,59,32,125]⟩] w fun e w'=>SrcP w (toP px3) e w':=
 program18_any ⟨tx3.toArray⟩ _ w hT fun w hT=>source_any ⟨tx3.toArray⟩ ix3 px3 w hT all_x3 (by decide) (fun R el ec=>reads_x3 R el ec) (by decide +kernel) (by decide +kernel) (by decide +kernel) (by decide +kernel) mild_x3
theorem src1 (w:World) (hT:TabS w):Calls Tryz.prog 23 #[.string ⟨#[112,111,111,108,32,49,59,32,115,116,97,99,107,32,115,59,32,116,104,114,101,97,100,32,123,32,97,32,61,32,49,59,32,125]⟩] w fun e w'=>KeepBut (fun _=>False) w w'∧∃ xn xp xm xc yp ym yc,e=.returned (.tuple #[.agg #[.int .i64 xn,.slice xp xm xc,.slice yp ym yc],.agg #[.int .i64 6,.int .i64 1,.int .i64 27]]):=by
 refine (src_x1 w hT).mono ?_
 rintro e w' ⟨hk,v,rfl,⟨xn,xp,xm,xc,yp,ym,yc,rfl⟩,-⟩
 exact ⟨hk,_,_,_,_,_,_,_,by rw [said_1]⟩
theorem src2 (w:World) (hT:TabS w):Calls Tryz.prog 23 #[.string ⟨#[112,111,111,108,32,49,59,32,115,116,97,99,107,32,115,59,32,116,104,114,101,97,100,32,123,32,118,97,114,32,97,32,61,32,97,59,32,125]⟩] w fun e w'=>KeepBut (fun _=>False) w w'∧∃ xn xp xm xc yp ym yc,e=.returned (.tuple #[.agg #[.int .i64 xn,.slice xp xm xc,.slice yp ym yc],.agg #[.int .i64 6,.int .i64 1,.int .i64 35]]):=by
 refine (src_x2 w hT).mono ?_
 rintro e w' ⟨hk,v,rfl,⟨xn,xp,xm,xc,yp,ym,yc,rfl⟩,-⟩
 exact ⟨hk,_,_,_,_,_,_,_,by rw [said_2]⟩
theorem src3 (w:World) (hT:TabS w):Calls Tryz.prog 23 #[.string ⟨#[112,111,111,108,32,49,59,32,115,116,97,99,107,32,115,59,32,116,104,114,101,97,100,32,123,32,118,97,114,32,97,32,61,32,49,59,32,97,114,114,97,121,32,98,91,51,93,59,32,97,32,61,32,112,117,115,104,40,115,44,32,98,91,97,93,41,59,32,125]⟩] w fun e w'=>KeepBut (fun _=>False) w w'∧∃ xn xp xm xc yp ym yc,e=.returned (.tuple #[.agg #[.int .i64 xn,.slice xp xm xc,.slice yp ym yc],.agg #[.int .i64 0,.int .i64 0,.int .i64 0]])∧PAt w' (fun b=>w.heap.size≤b) (.agg #[.int .i64 xn,.slice xp xm xc,.slice yp ym yc]) (toP px3):=by
 refine (src_x3 w hT).mono ?_
 rintro e w' ⟨hk,v,rfl,⟨xn,xp,xm,xc,yp,ym,yc,rfl⟩,hp⟩
 exact ⟨hk,_,_,_,_,_,_,_,by rw [said_3],hp (by rw [said_3])⟩
theorem sc3:scOf (toP px3) 0=⟨[[97]],[([98],3)],1⟩:=by
 have h:(allF (toP px3))=.ok [⟨[[97]],[([98],3)],1⟩]:=by kernel_rfl
 unfold scOf
 rw [h]
 rfl
set_option maxRecDepth 100000 in
set_option maxHeartbeats 32000000 in
theorem lives18 (w:World) (hT:TabS w):Calls Tryz.prog 6 #[] w fun e w'=>e=.returned (.bool true)∧KeepBut (fun _=>False) w w':=by
 have HT:=hid hT
 have HA:=hid (src1 w hT)
 clear hT
 go_enter Tryz.func6,Tryz.ntmps6
 go_wp2_with fail
 go_at_call 23
 refine HA.out.mono ?_
 rintro e w1 ⟨hk,xn,xp,xm,xc,yp,ym,yc,rfl⟩
 obtain ⟨X,E1,hX,hE,hbe,hkx,hsx⟩:=fresh_block w1 (.cells #[.int .i64 xn,.slice xp xm xc,.slice yp ym yc] TPr)
 obtain ⟨W1,F1,hW,hF,hbf,hky,hsy⟩:=fresh_block X (.cells #[.int .i64 6,.int .i64 1,.int .i64 27] TFa)
 have hkk:=hkx.trans hky
 have h12:E1+1=F1:=by omega
 have HK1:=hid (hk.trans hkk)
 have HF11:=hid hbf
 clear hk hkk hbe hbf hkx hky hsx hsy
 go_upto_region 2 with fail
 rw [←hX,←hW,←hE,h12]
 clear hX hW hE hF h12
 have HS2:=hid (src2 W1 (HK1.out.tabS HT.out))
 go_wp2_with fail
 go_at_call 23
 refine HS2.out.mono ?_
 rintro e w2 ⟨hk,xn,xp,xm,xc,yp,ym,yc,rfl⟩
 obtain ⟨X,E2,hX,hE,hbe,hkx,hsx⟩:=fresh_block w2 (.cells #[.int .i64 xn,.slice xp xm xc,.slice yp ym yc] TPr)
 obtain ⟨W2,F2,hW,hF,hbf,hky,hsy⟩:=fresh_block X (.cells #[.int .i64 6,.int .i64 1,.int .i64 35] TFa)
 have hkk:=hkx.trans hky
 have h12:E2+1=F2:=by omega
 have HK2:=hid (HK1.out.trans (hk.trans hkk))
 have HF22:=hid hbf
 have HF12:=hid ((hk.trans hkk).blk HF11.out)
 clear hk hkk hbe hbf hkx hky hsx hsy
 go_upto_region 3 with fail
 rw [←hX,←hW,←hE,h12]
 clear hX hW hE hF h12
 have HS3:=hid (src3 W2 (HK2.out.tabS HT.out))
 go_wp2_with fail
 go_at_call 23
 refine HS3.out.mono ?_
 rintro e w3 ⟨hk,xn,xp,xm,xc,yp,ym,yc,rfl,hpa⟩
 obtain ⟨X,E3,hX,hE,hbe,hkx,hsx⟩:=fresh_block w3 (.cells #[.int .i64 xn,.slice xp xm xc,.slice yp ym yc] TPr)
 obtain ⟨W3,F3,hW,hF,hbf,hky,hsy⟩:=fresh_block X (.cells #[.int .i64 0,.int .i64 0,.int .i64 0] TFa)
 have hkk:=hkx.trans hky
 have h12:E3+1=F3:=by omega
 have HK3:=hid (HK2.out.trans (hk.trans hkk))
 have HF33:=hid hbf
 have HF13:=hid ((hk.trans hkk).blk HF12.out)
 have HF23:=hid ((hk.trans hkk).blk HF22.out)
 have HE3:=hid (hky.blk hbe);have HPA:=hid (pat_stay hpa hkk)
 clear hpa
 clear hk hkk hbe hbf hkx hky hsx hsy
 go_upto_region 4 with fail
 rw [←hX,←hW,←hE,h12]
 clear hX hW hE hF h12
 obtain ⟨r0,r1,r2,-⟩:=blk3f HE3.out
 obtain ⟨m0,m1,m2,-⟩:=blk3f HF13.out
 obtain ⟨k0,k1,k2,-⟩:=blk3f HF23.out
 obtain ⟨l0,l1,l2,-⟩:=blk3f HF33.out
 have HV:=hid (fun W hk=>vars_any (toP px3) mild_x3 0 W ((HK3.out.trans hk).tabS HT.out) _ _ (pat_stay HPA.out hk))
 have HAR:=hid (fun W hk=>array_any (toP px3) mild_x3 0 [98] (by rw [sc3];decide) W ((HK3.out.trans hk).tabS HT.out) _ _ (pat_stay HPA.out hk))
 have HCL:=hid (fun W hk=>calls18_any (toP px3) mild_x3 0 W ((HK3.out.trans hk).tabS HT.out) _ _ (pat_stay HPA.out hk))
 rw [sc3] at HV HAR HCL
 have h1:=fun w=>eqF 6 1 27 6 1 27 w
 have h2:=fun w=>eqF 6 1 35 6 1 35 w
 have h3:=fun w=>eqF 0 0 0 0 0 0 w
 unfold strV at HAR
 dsimp only [List.length_cons,List.length_nil] at HV
 go_wp2_with (first
  | (go_at_call 13;refine (HV.out W3 (KeepBut.refl _ _)).mono ?_;rintro e w4 ⟨q,c,rfl,-,hk4,-⟩;have HK4:=hid hk4;clear r0 r1 r2 hk4;obtain ⟨r0,r1,r2,-⟩:=blk3f (HK4.out.blk HE3.out))
  | (go_at_call 21;refine (HAR.out w4 HK4.out).mono ?_;rintro e w5 ⟨rfl,hk5⟩;have HK5:=hid (HK4.out.trans hk5);clear r0 r1 r2 hk5;obtain ⟨r0,r1,r2,-⟩:=blk3f (HK5.out.blk HE3.out))
  | (go_at_call 16;refine (HCL.out w5 HK5.out).mono ?_;rintro e w6 ⟨rfl,hk6⟩;have HK6:=hid (HK5.out.trans hk6);clear r0 r1 r2 hk6))
 trace_state
 go_ret
 exact ⟨rfl,HK3.out.trans HK6.out⟩
/-
  Numbers that fit. No program in sight.
-/
open Go
mutual
/-- all numbers fit -/
def fitG:Gx→Prop
 | .mk _ _ n _ _ _ ks=>n≤9223372036854775807∧fitGL ks
def fitGL:List Gx→Prop
 | []=>True
 | x::l=>fitG x∧fitGL l
end
mutual
/-- all numbers fit -/
def fitN:Gs→Prop
 | .mk _ _ sz _ _ _ _ xs thn els _ _=>sz≤9223372036854775807∧fitGL xs∧fitNL thn∧fitNL els
def fitNL:List Gs→Prop
 | []=>True
 | s::l=>fitN s∧fitNL l
end
end Go.Proofs.YtknnmidnodeanaaGreatDoor
