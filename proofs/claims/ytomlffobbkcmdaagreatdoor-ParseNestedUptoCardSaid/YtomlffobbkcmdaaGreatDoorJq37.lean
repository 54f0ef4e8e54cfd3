/- Joined texts of this work: Sb4, Bk1, Bk2, Pick16. -/
import Derived.Test.YtomlffobbkcmdaaGreatDoorJq35
import Derived.Test.YtomlffobbkcmdaaGreatDoorJq36
import Derived.Test.YtomlffobbkcmdaaGreatDoorJq21
import Derived.Test.YtomlffobbkcmdaaGreatDoorJq29
import Derived.Test.YtomlffobbkcmdaaGreatDoorJq32
import Derived.Test.YtomlffobbkcmdaaGreatDoorJq6
/-
  Package parse: what statements, blocks and programs are read as, by the plain reader.
-/
namespace Go.Proofs.YtomlffobbkcmdaaGreatDoor
open Go Go.RowKit Own
open Go.Lib (hid)
theorem want_dec {k:Nat} {its r:List Item} {t:Item} (h:wantT k its=some (t,r)):its=t::r∧t.tok.kind=k:=by
 unfold wantT at h
 cases its with
 | nil=>cases h
 | cons u l=>
  dsimp only at h
  split at h
  ·rename_i hk;cases h;exact ⟨rfl,hk⟩
  ·cases h
theorem exP_dec (f:Nat):Dec (exP f):=rowsN_dec (oneP_dec f)
theorem tail_dec (l:List Item):l.tail.length≤l.length:=by rw [List.length_tail];omega
theorem callP_dec {f:Nat} {v:List UInt8} {ts r:List Item} {q:Nat × List UInt8 × List Ex} (h:callP f v ts=some (q,r)):r.length<ts.length:=by
 obtain ⟨op,c,xs⟩:=q
 obtain ⟨t,r0,r1,tc,r2,rfl,-,-,-,-,h1,rfl,-,-,h2⟩:=callP_some h
 have a1:=must_len h1
 rw [List.length_cons] at a1 ⊢
 rcases h2 with ⟨-,h3,-⟩ | ⟨-,r3,x,r4,h3,h4,h5,-⟩
 ·have:=must_len h3;omega
 ·have b1:=must_len h3
  have b2:=exP_dec f _ _ _ h4
  have b3:=must_len h5
  omega
/-- the forms of a statement that begins with a name -/
theorem plainP_some {f:Nat} {t0:Item} {its r:List Item} {s:St} (h:plainP f t0 its=some (s,r)):∃ n r0,its=n::r0∧n.tok.kind=2∧
    ((headIs r0 [91]=true∧∃ a r1 r2 x r3,exP f r0.tail=some (a,r1)∧mustT [[93],[61]] r1=some r2∧exP f r2=some (x,r3)∧mustT [[59]] r3=some r∧s=.mk 4 n.tok.text 0 0 [] [] [] [a,x] [] [] t0.line t0.col)∨
     (headIs r0 [91]=false∧headIs r0 [44]=true∧∃ m r1 r2 op c xs,r0.tail=m::r1∧m.tok.kind=2∧mustT [[61]] r1=some r2∧callP f n.tok.text r2=some ((op,c,xs),r)∧s=.mk 9 [] 0 op n.tok.text m.tok.text c xs [] [] t0.line t0.col)∨
     (headIs r0 [91]=false∧headIs r0 [44]=false∧∃ t1 r1,mustT [[61]] r0=some (t1::r1)∧
       ((t1.tok.kind=1∧∃ op c xs,callP f [] (t1::r1)=some ((op,c,xs),r)∧s=.mk 9 [] 0 op [] n.tok.text c xs [] [] t0.line t0.col)∨
        (t1.tok.kind≠1∧∃ x r2,exP f (t1::r1)=some (x,r2)∧mustT [[59]] r2=some r∧s=.mk 3 n.tok.text 0 0 [] [] [] [x] [] [] t0.line t0.col)))):=by
  unfold plainP at h
  cases hw:wantT 2 its with
  | none=>rw [hw] at h;cases h
  | some nr=>
    obtain ⟨n,r0⟩:=nr
    obtain ⟨rfl,hk⟩:=want_dec hw
    rw [hw] at h
    dsimp only at h
    refine ⟨n,r0,rfl,hk,?_⟩
    by_cases h1:headIs r0 [91]=true
    · rw [if_pos h1] at h
      refine .inl ⟨h1,?_⟩
      split at h
      · cases h
      · rename_i a r1 e1
        split at h
        · cases h
        · rename_i r2 e2
          split at h
          · cases h
          · rename_i x r3 e3
            split at h
            · cases h
            · rename_i r4 e4
              cases h
              exact ⟨a,r1,r2,x,r3,e1,e2,e3,e4,rfl⟩
    · rw [if_neg h1] at h
      have h1':headIs r0 [91]=false:=Bool.eq_false_iff.2 h1
      by_cases h2:headIs r0 [44]=true
      · rw [if_pos h2] at h
        refine .inr (.inl ⟨h1',h2,?_⟩)
        split at h
        · cases h
        · rename_i m r1 e1
          obtain ⟨e0,hm⟩:=want_dec e1
          split at h
          · cases h
          · rename_i r2 e2
            split at h
            · cases h
            · rename_i op c xs r3 e3
              cases h
              exact ⟨m,r1,r2,op,c,xs,e0,hm,e2,e3,rfl⟩
      · rw [if_neg h2] at h
        refine .inr (.inr ⟨h1',Bool.eq_false_iff.2 h2,?_⟩)
        split at h
        · cases h
        · rename_i r1 e1
          cases r1 with
          | nil=>cases h
          | cons t1 r1=>
            dsimp only at h
            refine ⟨t1,r1,e1,?_⟩
            by_cases h3:t1.tok.kind=1
            · rw [if_pos h3] at h
              refine .inl ⟨h3,?_⟩
              split at h
              · cases h
              · rename_i op c xs r3 e3
                cases h
                exact ⟨op,c,xs,e3,rfl⟩
            · rw [if_neg h3] at h
              refine .inr ⟨h3,?_⟩
              split at h
              · cases h
              · rename_i x r2 e2
                split at h
                · cases h
                · rename_i r3 e3
                  cases h
                  exact ⟨x,r2,e2,e3,rfl⟩
theorem plainP_dec {f:Nat} {t0:Item} {its r:List Item} {s:St} (h:plainP f t0 its=some (s,r)):r.length<its.length:=by
 obtain ⟨n,r0,rfl,-,h⟩:=plainP_some h
 rw [List.length_cons]
 have ht:=tail_dec r0
 rcases h with ⟨-,a,r1,r2,x,r3,e1,e2,e3,e4,-⟩ | ⟨-,-,m,r1,r2,op,c,xs,e0,-,e2,e3,-⟩ | ⟨-,-,t1,r1,e1,⟨-,op,c,xs,e3,-⟩ | ⟨-,x,r2,e2,e3,-⟩⟩
 ·have:=exP_dec f _ _ _ e1
  have:=must_len e2
  have:=exP_dec f _ _ _ e3
  have:=must_len e4
  omega
 ·have:=must_len e2
  have:=callP_dec e3
  rw [e0,List.length_cons] at ht
  omega
 ·have:=must_len e1
  have:=callP_dec e3
  omega
 ·have:=must_len e1
  have:=exP_dec f _ _ _ e2
  have:=must_len e3
  omega
theorem plainP_reads (R el ec f:Nat) (t0:Item) (its r:List Item) (s:St) (h:plainP f t0 its=some (s,r)):Plains R el ec its r t0.line t0.col s:=by
 obtain ⟨n,r0,rfl,hk,h⟩:=plainP_some h
 intro w Bs hr hB hRB
 rcases h with ⟨h1,a,r1,r2,x,r3,e1,e2,e3,e4,rfl⟩ | ⟨h1,h2,m,r1,r2,op,c,xs,e0,hm,e2,e3,rfl⟩ | ⟨h1,h2,t1,r1,e1,⟨h3,op,c,xs,e3,rfl⟩ | ⟨h3,x,r2,e2,e3,rfl⟩⟩
 ·exact plain_put w R el ec f Bs n r0 r _ _ r1 r2 r3 a x h1 e1 e2 e3 e4 hr hB hRB hk
 ·exact plain_two w R el ec f Bs n m r0 r1 r2 r op _ _ c xs hr hB hRB hk h1 h2 e0 hm e2 e3
 ·exact plain_one w R el ec f Bs n r0 r _ _ t1 r1 op c xs h1 h2 e1 h3 e3 hr hB hRB hk
 ·exact plain_set w R el ec f Bs n r0 r _ _ t1 r1 r2 x h1 h2 e1 h3 e2 e3 hr hB hRB hk
theorem stmtsL_dec {st:List Item→Option (St × List Item)} (hst:∀ ts s m,st ts=some (s,m)→m.length<ts.length):∀ (f:Nat) (ts:List Item) (l:List St) (r:List Item),stmtsL st f ts=some (l,r)→r.length≤ts.length
 | 0,_,_,_,h=>by cases h
 | f+1,ts,l,r,h=>by
  unfold stmtsL at h
  split at h
  ·cases h;exact tail_dec ts
  ·split at h
   ·cases h
   ·rename_i s m e1
    split at h
    ·cases h
    ·rename_i l2 r2 e2
     cases h
     have:=hst _ _ _ e1
     have:=stmtsL_dec hst f _ _ _ e2
     omega
theorem stmtsL_chain {st:List Item→Option (St × List Item)} (hst:∀ ts s m,st ts=some (s,m)→m.length<ts.length) (N:Nat):∀ (f:Nat) (ts:List Item) (l:List St) (r:List Item),ts.length≤N→stmtsL st f ts=some (l,r)→ChainS (fun ts s m=>ts.length≤N∧st ts=some (s,m)) l ts r∧l.length≤ts.length
 | 0,_,_,_,_,h=>by cases h
 | f+1,ts,l,r,hN,h=>by
  unfold stmtsL at h
  split at h
  ·rename_i hh
   cases h
   exact ⟨⟨hh,rfl⟩,Nat.zero_le _⟩
  ·rename_i hh
   split at h
   ·cases h
   ·rename_i s m e1
    split at h
    ·cases h
    ·rename_i l2 r2 e2
     cases h
     have h1:=hst _ _ _ e1
     obtain ⟨h2,h3⟩:=stmtsL_chain hst N f _ _ _ (by omega) e2
     exact ⟨⟨Bool.eq_false_iff.2 hh,m,⟨hN,e1⟩,h1,h2⟩,by rw [List.length_cons];omega⟩
theorem blockOf_some {st:List Item→Option (St × List Item)} {ts r:List Item} {l:List St} (h:blockOf st ts=some (l,r)):headIs ts [123]=true∧stmtsL st (ts.length+1) ts.tail=some (l,r):=by
 unfold blockOf at h
 split at h
 ·rename_i hh;exact ⟨hh,h⟩
 ·cases h
theorem blockOf_dec {st:List Item→Option (St × List Item)} (hst:∀ ts s m,st ts=some (s,m)→m.length<ts.length) {ts r:List Item} {l:List St} (h:blockOf st ts=some (l,r)):r.length<ts.length:=by
 obtain ⟨h1,h2⟩:=blockOf_some h
 have:=stmtsL_dec hst _ _ _ _ h2
 cases ts with
 | nil=>cases h1
 | cons t r0=>rw [List.tail_cons] at this;rw [List.length_cons];omega
/-- the forms of a statement -/
theorem stmtP_some {f:Nat} {its r:List Item} {s:St} (h:stmtP (f+1) its=some (s,r)):∃ t r0,its=t::r0∧
    ((headIs its [118,97,114]=true∧∃ n r1 r2 x r3,r0=n::r1∧n.tok.kind=2∧mustT [[61]] r1=some r2∧exP f r2=some (x,r3)∧mustT [[59]] r3=some r∧s=.mk 1 n.tok.text 0 0 [] [] [] [x] [] [] t.line t.col)∨
     (headIs its [118,97,114]=false∧
     ((headIs its [97,114,114,97,121]=true∧∃ n r1 m r3,r0=n::r1∧n.tok.kind=2∧mustT [[91]] r1=some (m::r3)∧m.tok.kind=3∧mustT [[93],[59]] r3=some r∧s=.mk 2 n.tok.text m.tok.num 0 [] [] [] [] [] [] t.line t.col)∨
     (headIs its [97,114,114,97,121]=false∧
     ((headIs its [105,102]=true∧∃ x r1 a r2,exP f r0=some (x,r1)∧blockOf (stmtP f) r1=some (a,r2)∧
        ((headIs r2 [101,108,115,101]=true∧∃ b,blockOf (stmtP f) r2.tail=some (b,r)∧s=.mk 5 [] 0 0 [] [] [] [x] a b t.line t.col)∨
         (headIs r2 [101,108,115,101]=false∧r2=r∧s=.mk 5 [] 0 0 [] [] [] [x] a [] t.line t.col)))∨
     (headIs its [105,102]=false∧
     ((headIs its [119,104,105,108,101]=true∧∃ x r1 a,exP f r0=some (x,r1)∧blockOf (stmtP f) r1=some (a,r)∧s=.mk 6 [] 0 0 [] [] [] [x] a [] t.line t.col)∨
     (headIs its [119,104,105,108,101]=false∧
     ((headIs its [111,117,116]=true∧∃ x r1,exP f r0=some (x,r1)∧mustT [[59]] r1=some r∧s=.mk 7 [] 0 0 [] [] [] [x] [] [] t.line t.col)∨
     (headIs its [111,117,116]=false∧
     ((headIs its [104,97,108,116]=true∧∃ x r1,exP f r0=some (x,r1)∧mustT [[59]] r1=some r∧s=.mk 8 [] 0 0 [] [] [] [x] [] [] t.line t.col)∨
     (headIs its [104,97,108,116]=false∧plainP f t its=some (s,r))))))))))))):=by
  unfold stmtP at h
  cases its with
  | nil=>cases h
  | cons t r0=>
    dsimp only at h
    refine ⟨t,r0,rfl,?_⟩
    have hd:∀ k,headIs (t::r0) k=isT t.tok k:=fun k=>rfl
    simp only [hd]
    cases h1:isT t.tok [118,97,114] with
    | true=>
      rw [h1,if_pos rfl] at h
      refine .inl ⟨rfl,?_⟩
      split at h
      · cases h
      · rename_i n r1 e0
        obtain ⟨e0,hn⟩:=want_dec e0
        split at h
        · cases h
        · rename_i r2 e1
          split at h
          · cases h
          · rename_i x r3 e2
            split at h
            · cases h
            · rename_i r4 e3
              cases h
              exact ⟨n,r1,r2,x,r3,e0,hn,e1,e2,e3,rfl⟩
    | false=>
    rw [h1,if_neg Bool.false_ne_true] at h
    refine .inr ⟨rfl,?_⟩
    cases h2:isT t.tok [97,114,114,97,121] with
    | true=>
      rw [h2,if_pos rfl] at h
      refine .inl ⟨rfl,?_⟩
      split at h
      · cases h
      · rename_i n r1 e0
        obtain ⟨e0,hn⟩:=want_dec e0
        split at h
        · cases h
        · rename_i r2 e1
          split at h
          · cases h
          · rename_i m r3 e2
            obtain ⟨e2,hm⟩:=want_dec e2
            split at h
            · cases h
            · rename_i r4 e3
              cases h
              exact ⟨n,r1,m,r3,e0,hn,by rw [←e2];exact e1,hm,e3,rfl⟩
    | false=>
    rw [h2,if_neg Bool.false_ne_true] at h
    refine .inr ⟨rfl,?_⟩
    cases h3:isT t.tok [105,102] with
    | true=>
      rw [h3,if_pos rfl] at h
      refine .inl ⟨rfl,?_⟩
      split at h
      · cases h
      · rename_i x r1 e1
        split at h
        · cases h
        · rename_i a r2 e2
          refine ⟨x,r1,a,r2,e1,e2,?_⟩
          cases h4:headIs r2 [101,108,115,101] with
          | true=>
            rw [h4,if_pos rfl] at h
            refine .inl ⟨rfl,?_⟩
            split at h
            · cases h
            · rename_i b r3 e3
              cases h
              exact ⟨b,e3,rfl⟩
          | false=>
            rw [h4,if_neg Bool.false_ne_true] at h
            cases h
            exact .inr ⟨rfl,rfl,rfl⟩
    | false=>
    rw [h3,if_neg Bool.false_ne_true] at h
    refine .inr ⟨rfl,?_⟩
    cases h4:isT t.tok [119,104,105,108,101] with
    | true=>
      rw [h4,if_pos rfl] at h
      refine .inl ⟨rfl,?_⟩
      split at h
      · cases h
      · rename_i x r1 e1
        split at h
        · cases h
        · rename_i a r2 e2
          cases h
          exact ⟨x,r1,a,e1,e2,rfl⟩
    | false=>
    rw [h4,if_neg Bool.false_ne_true] at h
    refine .inr ⟨rfl,?_⟩
    cases h5:isT t.tok [111,117,116] with
    | true=>
      rw [h5,if_pos rfl] at h
      refine .inl ⟨rfl,?_⟩
      split at h
      · cases h
      · rename_i x r1 e1
        split at h
        · cases h
        · rename_i r2 e2
          cases h
          exact ⟨x,r1,e1,e2,rfl⟩
    | false=>
    rw [h5,if_neg Bool.false_ne_true] at h
    refine .inr ⟨rfl,?_⟩
    cases h6:isT t.tok [104,97,108,116] with
    | true=>
      rw [h6,if_pos rfl] at h
      refine .inl ⟨rfl,?_⟩
      split at h
      · cases h
      · rename_i x r1 e1
        split at h
        · cases h
        · rename_i r2 e2
          cases h
          exact ⟨x,r1,e1,e2,rfl⟩
    | false=>
    rw [h6,if_neg Bool.false_ne_true] at h
    exact .inr ⟨rfl,h⟩
theorem stmtP_dec:∀ (f:Nat) (ts:List Item) (s:St) (m:List Item),stmtP f ts=some (s,m)→m.length<ts.length
 | 0,_,_,_,h=>by cases h
 | f+1,ts,s,m,h=>by
  obtain ⟨t,r0,rfl,h⟩:=stmtP_some h
  rw [List.length_cons]
  have ih:=stmtP_dec f
  rcases h with ⟨-,n,r1,r2,x,r3,rfl,-,e1,e2,e3,-⟩ | ⟨-,h⟩
  ·have:=must_len e1;have:=exP_dec f _ _ _ e2;have:=must_len e3
   rw [List.length_cons];omega
  rcases h with ⟨-,n,r1,m',r3,rfl,-,e1,-,e3,-⟩ | ⟨-,h⟩
  ·have:=must_len e1;have:=must_len e3
   rw [List.length_cons] at *;omega
  rcases h with ⟨-,x,r1,a,r2,e1,e2,⟨-,b,e3,-⟩ | ⟨-,rfl,-⟩⟩ | ⟨-,h⟩
  ·have:=exP_dec f _ _ _ e1;have:=blockOf_dec ih e2;have:=blockOf_dec ih e3;have:=tail_dec r2;omega
  ·have:=exP_dec f _ _ _ e1;have:=blockOf_dec ih e2;omega
  rcases h with ⟨-,x,r1,a,e1,e2,-⟩ | ⟨-,h⟩
  ·have:=exP_dec f _ _ _ e1;have:=blockOf_dec ih e2;omega
  rcases h with ⟨-,x,r1,e1,e2,-⟩ | ⟨-,h⟩
  ·have:=exP_dec f _ _ _ e1;have:=must_len e2;omega
  rcases h with ⟨-,x,r1,e1,e2,-⟩ | ⟨-,h⟩
  ·have:=exP_dec f _ _ _ e1;have:=must_len e2;omega
  ·have:=plainP_dec h
   rw [List.length_cons] at this
   exact this
theorem blockP_reads (R el ec f:Nat) (ih:∀ its s r,its.length≤1000000→stmtP f its=some (s,r)→ReadsS R el ec its r s) (its r:List Item) (l:List St) (hl:its.length≤1000000) (h:blockOf (stmtP f) its=some (l,r)):ReadsB R el ec its r l:=by
 obtain ⟨h1,h2⟩:=blockOf_some h
 obtain ⟨h3,h4⟩:=stmtsL_chain (stmtP_dec f) 1000000 _ _ _ _ (Nat.le_trans (tail_dec its) hl) h2
 have:=tail_dec its
 exact fun w hr=>block_reads R el ec its r l _ (fun ts s m hp=>ih ts s m hp.1 hp.2) h1 h3 (by omega) w hr
theorem noKey {t:Item} {r:List Item} (h:t.tok.kind=2) (k:List UInt8):headIs (t::r) k=false:=by
 unfold headIs isT
 simp [h]
theorem stmtP_reads (R el ec:Nat):∀ (f:Nat) (its:List Item) (s:St) (r:List Item),its.length≤1000000→stmtP f its=some (s,r)→ReadsS R el ec its r s
 | 0,_,_,_,_,h=>by cases h
 | f+1,its,s,r,hl,h=>by
  obtain ⟨t,r0,rfl,h⟩:=stmtP_some h
  have ih:=stmtP_reads R el ec f
  rw [List.length_cons] at hl
  rcases h with ⟨k1,n,r1,r2,x,r3,e0,hn,e1,e2,e3,rfl⟩ | ⟨k1,h⟩
  ·exact stmt_var R el ec f t r0 r k1 n r1 r2 r3 x e0 hn e1 e2 e3
  rcases h with ⟨k2,n,r1,m',r3,e0,hn,e1,hm,e3,rfl⟩ | ⟨k2,h⟩
  ·exact stmt_array R el ec f t r0 r k1 k2 n m' r1 r3 r3 e0 hn e1 hm e3
  rcases h with ⟨k3,x,r1,a,r2,e1,e2,⟨k4,b,e3,rfl⟩ | ⟨k4,rfl,rfl⟩⟩ | ⟨k3,h⟩
  ·have d1:=exP_dec f _ _ _ e1
   have d2:=blockOf_dec (stmtP_dec f) e2
   have d3:=tail_dec r2
   exact stmt_else R el ec f t r0 r k1 k2 k3 r1 r2 x a b e1 (blockP_reads R el ec f ih r1 r2 a (by omega) e2) k4 (blockP_reads R el ec f ih r2.tail r b (by omega) e3)
  ·have d1:=exP_dec f _ _ _ e1
   exact stmt_if R el ec f t r0 r2 k1 k2 k3 r1 x a e1 (blockP_reads R el ec f ih r1 r2 a (by omega) e2) k4
  rcases h with ⟨k4,x,r1,a,e1,e2,rfl⟩ | ⟨k4,h⟩
  ·have d1:=exP_dec f _ _ _ e1
   exact stmt_while R el ec f t r0 r k1 k2 k3 k4 r1 x a e1 (blockP_reads R el ec f ih r1 r a (by omega) e2)
  rcases h with ⟨k5,x,r1,e1,e2,rfl⟩ | ⟨k5,h⟩
  ·exact stmt_out R el ec f t r0 r k1 k2 k3 k4 k5 r1 x e1 e2
  rcases h with ⟨k6,x,r1,e1,e2,rfl⟩ | ⟨k6,h⟩
  ·exact stmt_halt R el ec f t r0 r k1 k2 k3 k4 k5 k6 r1 x e1 e2
  ·obtain ⟨n,r1,e,hk,-⟩:=plainP_some h
   cases e
   exact stmt_plain R el ec t r0 r s (fun k=>noKey hk k) (plainP_reads R el ec f t (t::r0) r s h)
theorem contsP_chain:∀ (f:Nat) (ts:List Item) (l:List Ct) (r:List Item),(∀ t∈ts,ofL kindL t.tok.text≠0→t.tok.kind=1)→contsP f ts=some (l,r)→ChainC l ts r∧l.length≤ts.length∧r.length≤ts.length
 | 0,_,_,_,_,h=>by cases h
 | f+1,ts,l,r,hk,h=>by
  unfold contsP at h
  cases ts with
  | nil=>cases h;exact ⟨⟨rfl,fun t r0 e=>by cases e⟩,Nat.zero_le _,Nat.le_refl _⟩
  | cons t r0=>
   dsimp only at h
   by_cases hc:ofL kindL t.tok.text=0∨t.tok.kind≠1
   ·rw [if_pos hc] at h
    cases h
    refine ⟨⟨rfl,fun t' r' e=>?_⟩,Nat.zero_le _,Nat.le_refl _⟩
    cases e
    exact Classical.byContradiction fun h0=>hc.elim h0 fun h1=>h1 (hk t (by simp) h0)
   ·rw [if_neg hc] at h
    split at h
    ·cases h
    ·rename_i n r1 e0
     obtain ⟨rfl,hn⟩:=want_dec e0
     split at h
     ·cases h
     ·rename_i r2 e1
      split at h
      ·cases h
      ·rename_i l2 r3 e2
       cases h
       have d1:=must_len e1
       have hsub:∀ t∈r2,ofL kindL t.tok.text≠0→t.tok.kind=1:=fun t ht=>hk t (by
        have hs:∀ (L:List (List UInt8)) (a b:List Item),mustT L a=some b→∀ t∈b,t∈a:=by
         intro L
         induction L with
         | nil=>intro a b e t ht;unfold mustT at e;cases e;exact ht
         | cons s L ih=>
          intro a b e t ht
          unfold mustT at e
          split at e
          ·exact List.mem_of_mem_tail (ih _ _ e t ht)
          ·cases e
        have:=hs _ _ _ e1 t ht
        simp [this])
       obtain ⟨h1,h2,h3⟩:=contsP_chain f r2 l2 r hsub e2
       simp only [List.length_cons]
       exact ⟨⟨t,n,r1,r2,rfl,Classical.byContradiction fun e=>hc (.inr e),fun e=>hc (.inl e),hn,e1,rfl,h1⟩,by omega,by omega⟩
theorem threadsP_chain (R el ec g:Nat):∀ (f:Nat) (ts:List Item) (l:List (List St)),ts.length≤1000000→threadsP g f ts=some l→ChainT (fun ts b m=>ReadsB R el ec ts m b) l ts∧l.length≤ts.length
 | 0,_,_,_,h=>by cases h
 | f+1,ts,l,hl,h=>by
  unfold threadsP at h
  cases ts with
  | nil=>cases h;exact ⟨rfl,Nat.le_refl _⟩
  | cons t r0=>
   dsimp only at h
   split at h
   ·cases h
   ·rename_i r e1
    have d1:=must_len e1
    split at h
    ·cases h
    ·rename_i b r1 e2
     have d2:=blockOf_dec (stmtP_dec g) e2
     split at h
     ·cases h
     ·rename_i l2 e3
      cases h
      obtain ⟨h1,h2⟩:=threadsP_chain R el ec g f r1 l2 (by omega) e3
      exact ⟨⟨r,r1,e1,blockP_reads R el ec g (stmtP_reads R el ec g) r r1 b (by omega) e2,by omega,h1⟩,by rw [List.length_cons];omega⟩
/-- what program reads, by the plain reader -/
theorem progP_reads (R el ec f:Nat) (its:List Item) (pr:Pr) (hl:its.length≤1000000) (hk:∀ t∈its,ofL kindL t.tok.text≠0→t.tok.kind=1) (h:progP f its=some pr):ReadsP R el ec its pr:=by
 have hs:∀ (L:List (List UInt8)) (a b:List Item),mustT L a=some b→∀ t∈b,t∈a:=by
  intro L
  induction L with
  | nil=>intro a b e t ht;unfold mustT at e;cases e;exact ht
  | cons s L ih=>
   intro a b e t ht
   unfold mustT at e
   split at e
   ·exact List.mem_of_mem_tail (ih _ _ e t ht)
   ·cases e
 unfold progP at h
 split at h
 ·cases h
 ·rename_i r e1
  split at h
  ·cases h
  ·rename_i n r1 e2
   obtain ⟨rfl,hn⟩:=want_dec e2
   split at h
   ·cases h
   ·rename_i r2 e3
    split at h
    ·cases h
    ·rename_i cs r3 e4
     split at h
     ·cases h
     ·rename_i ths e5
      cases h
      have d1:=must_len e1
      have d3:=must_len e3
      rw [List.length_cons] at d1
      obtain ⟨h1,h2,h3⟩:=contsP_chain _ r2 cs r3 (fun t ht=>hk t (hs _ _ _ e1 t (List.mem_cons_of_mem _ (hs _ _ _ e3 t ht)))) e4
      obtain ⟨h4,h5⟩:=threadsP_chain R el ec f _ r3 ths (by omega) e5
      intro w hr
      refine (program_reads R el ec its r1 r2 r3 [] n cs ths (fun ts b m=>ReadsB R el ec ts m b) (fun _ _ _ h=>h) e1 hn e3 h1 h4 (by omega) (by omega) w hr).mono ?_
      rintro e w' ⟨p,c,q,d,rfl,a1,a2,-,a3⟩
      exact ⟨_,rfl,⟨p,c,q,d,rfl,a1,a2⟩,a3⟩
/-
  Package parse over programs in memory: Size, Deep, Check, Text, Same, Program of a text.
-/
theorem PAt.keep {E:Nat→Prop} {w w':World} {S:Nat→Prop} (k:KeepBut E w w') (hE:∀ b,S b→¬E b) {v:Value} {p:Gp} (h:PAt w S v p):PAt w' S v p:=by
 obtain ⟨p1,c1,p2,c2,h1,h2,h3⟩:=h
 exact ⟨p1,c1,p2,c2,h1,h2.keep k hE,h3.keep k hE⟩
theorem PAt.mono {w:World} {S S':Nat→Prop} (hS:∀ b,S b→S' b) {v:Value} {p:Gp} (h:PAt w S v p):PAt w S' v p:=by
 obtain ⟨p1,c1,p2,c2,h1,h2,h3⟩:=h
 exact ⟨p1,c1,p2,c2,h1,h2.mono hS,h3.mono hS⟩
theorem PrgAt.toP {w:World} {S:Nat→Prop} {vs:List Value} {pr:Pr} (h:PrgAt w S vs pr):PAt w S (.agg vs.toArray) (toP pr):=by
 obtain ⟨p,c,q,d,rfl,hc,ht⟩:=h
 refine ⟨p,c,q,d,by unfold Go.Proofs.YtomlffobbkcmdaaGreatDoor.toP;simp,?_,?_⟩
 ·rcases hc with h0 | ⟨g,rfl,hS,hg⟩
  ·unfold Go.Proofs.YtomlffobbkcmdaaGreatDoor.toP
   rw [h0]
   exact fun i hi=>absurd hi (by simp)
  ·refine GCts.of_cells hS ?_
   have e:gcCells (Go.Proofs.YtomlffobbkcmdaaGreatDoor.toP pr).conts=(pr.conts.map ctV).flatten:=by
    unfold gcCells Go.Proofs.YtomlffobbkcmdaaGreatDoor.toP
    rw [List.map_map]
    rfl
   rw [e]
   exact hg
 ·obtain ⟨sl,hl,hg,he⟩:=ht
  rcases hg with h0 | ⟨g,rfl,hS,hg⟩
  ·unfold Go.Proofs.YtomlffobbkcmdaaGreatDoor.toP
   rw [h0]
   exact fun i hi=>absurd hi (by simp)
  ·intro i hi
   have hi':i<pr.threads.length:=by unfold Go.Proofs.YtomlffobbkcmdaaGreatDoor.toP at hi;simpa using hi
   obtain ⟨q2,c2,e1,e2⟩:=he i (by omega) hi'
   have ei:(Go.Proofs.YtomlffobbkcmdaaGreatDoor.toP pr).threads[i]=toSL pr.threads[i]:=by simp only [Go.Proofs.YtomlffobbkcmdaaGreatDoor.toP,List.getElem_map]
   refine ⟨g,0,q2,c2,rfl,hS,?_,?_⟩
   ·rw [ei,toSL_len,Nat.zero_add]
    exact hg i _ (by rw [List.getElem?_eq_getElem (by omega),e1])
   ·rw [ei]
    exact e2.toS
theorem size_at (p:Gp) (hs:Small p) (w:World) (S:Nat→Prop) (v:Value) (h:PAt w S v p):
  Calls Tryz.prog 18 #[v] w fun e w'=>e=.returned (.int .i64 (hSize p.threads))∧KeepBut (fun _=>False) w w':=by
 obtain ⟨p1,c1,p2,c2,rfl,-,h3⟩:=h
 exact sizeG_any p.threads (by have:=hs.size;omega) (by have:=hs.threads;omega) w S p2 c2 p.pool p1 _ c1 h3
theorem deep_at (p:Gp) (hs:Small p) (w:World) (S:Nat→Prop) (v:Value) (h:PAt w S v p):
  Calls Tryz.prog 19 #[v] w fun e w'=>e=.returned (.int .i64 (hDeep p.threads))∧KeepBut (fun _=>False) w w':=by
 obtain ⟨p1,c1,p2,c2,rfl,-,h3⟩:=h
 exact deepG_any p.threads (by have:=hs.size;omega) (by have:=hs.threads;omega) w S p2 c2 p.pool p1 _ c1 h3
theorem check_at (p:Gp) (hs:Small p) (w:World) (hT:TabS w) (S:Nat→Prop) (v:Value) (h:PAt w S v p):
  Calls Tryz.prog 20 #[v] w fun e w'=>e=.returned (.int .i64 (if checkP p=true then 0 else 9))∧KeepBut (fun _=>False) w w':=
 check_any p (by have:=hs.size;omega) (by have:=hs.conts;omega) (by have:=hs.threads;omega) hs.fitS w hT S v h
theorem text_at (p:Gp) (hs:Small p) (w:World) (hT:TabS w) (hP:TabP w) (S:Nat→Prop) (v:Value) (h:PAt w S v p):
  Calls Tryz.prog 17 #[v] w fun e w'=>e=.returned (.string ⟨(if checkP p=true then putL (tokP p) else []).toArray⟩)∧KeepBut (fun _=>False) w w':=
 text_any p (by have:=hs.size;omega) (by have:=hs.conts;omega) (by have:=hs.threads;omega) hs.fitS hs.pool hs.fitN hs.len w hT hP S v h
theorem same_at (x y:Gp) (hs:Small x) (w:World) (S T:Nat→Prop) (vx vy:Value) (hx:PAt w S vx x) (hy:PAt w T vy y):
  Calls Tryz.prog 21 #[vx,vy] w fun e w'=>e=.returned (.bool (sameP x y))∧KeepBut (fun _=>False) w w':=
 same_any x y ⟨by have:=hs.conts;omega,by have:=hs.threads;omega,fun i h=>by have:=hSize_mem h;have:=hs.size;omega⟩ w S T vx vy hx hy
/-- Program of the text of a program that may be -/
theorem prog_at (p:Gp) (hs:Small p) (hc:checkP p=true) (hsz:hSize p.threads≤600) (hd:hDeep p.threads≤24) (hlen:(putL (tokP p)).length≤8192) (w:World) (hT:TabS w):
  Calls Tryz.prog 16 #[.string ⟨(putL (tokP p)).toArray⟩] w fun e w'=>∃ v q,e=.returned (.tuple #[v,.agg #[.int .i64 0,.int .i64 0,.int .i64 0]])∧PAt w' (fun b=>w.heap.size≤b) v q∧sameP p q=true∧KeepBut (fun _=>False) w w':=by
 obtain ⟨its,pr,h1,h2,h3,h4,h5,h6⟩:=prog_read p hc hs.pool hs.fitN hlen
 obtain ⟨-,-,-,g4,g5,-,g7,-⟩:=same_of h3
 have e1:thsSize pr.threads=hSize p.threads:=by rw [←g4,←toP_size];rfl
 have e2:thsDeep pr.threads=hDeep p.threads:=by rw [←g5,←toP_deep];rfl
 have e3:pr.threads.length=p.threads.length:=by rw [←g7];unfold toP;simp
 refine (prog_any ⟨(putL (tokP p)).toArray⟩ its pr w hT (by simpa using h1) (by simp [ByteArray.size];omega) (fun R el ec=>progP_reads R el ec _ its pr (by omega) h6 h2) (by have:=hs.threads;omega) h5 (by omega) (by omega)).mono ?_
 rintro e w' ⟨vs,rfl,hp,hk⟩
 exact ⟨_,toP pr,rfl,hp.toP,h3,hk⟩
/-
  fencepostlaw17.back of a program that may be.
-/
set_option maxRecDepth 4000 in
set_option maxHeartbeats 32000000 in
theorem back_any (p:Gp) (hs:Small p) (hc:checkP p=true) (w:World) (hT:TabS w) (hP:TabP w) (S:Nat→Prop) (v:Value) (h:PAt w S v p):
  Calls Tryz.prog 23 #[v] w fun e w'=>e=.returned (.bool true)∧KeepBut (fun _=>False) w w':=by
 have h0:=h
 obtain ⟨p1,d1,p2,d2,rfl,-,-⟩:=h0
 obtain ⟨V,B1,hV,hB1,hb1,hk1,hs1⟩:=fresh_block w (.cells #[.int .i64 p.pool,.slice p1 p.conts.length d1,.slice p2 p.threads.length d2] TPr)
 obtain ⟨vp,hvp⟩:∃ vp:Value,(.agg #[.int .i64 p.pool,.slice p1 p.conts.length d1,.slice p2 p.threads.length d2])=vp:=⟨_,rfl⟩
 have HT:=hid (hk1.tabS hT);have HP:=hid (hk1.tabP hP);have HPA:=hid (h.keep hk1 fun _ _ e=>e);have HSM:=hid hs;have HC:=hid hc
 have HTX:=hid (text_at p hs V HT.out HP.out S _ HPA.out)
 rw [if_pos hc] at HTX
 obtain ⟨n1,hn1⟩:∃ n,p.conts.length=n:=⟨_,rfl⟩
 obtain ⟨n2,hn2⟩:∃ n,p.threads.length=n:=⟨_,rfl⟩
 obtain ⟨Z,hZ⟩:∃ Z:ByteArray,⟨(putL (tokP p)).toArray⟩=Z:=⟨_,rfl⟩
 have hz0:Z≠⟨#[]⟩:=by
  rw [←hZ]
  intro e
  have:=congrArg (fun b:ByteArray=>b.data.toList) e
  exact tokP_ne p (by simpa using this)
 have hz1:(Z.toList==([]:List UInt8))=false:=by
  rw [beq_eq_false_iff_ne,←hZ]
  intro e
  exact tokP_ne p (by simpa using e)
 have hzz:(Z.toList==Z.toList)=true:=beq_self_eq_true _
 have HZS:=hid (show Z.size=(putL (tokP p)).length by rw [←hZ];simp [ByteArray.size])
 have hzl:Z.size≤100000000:=by have:=hs.len hc;have:=HZS.out;omega
 have HZL:=hid hzl
 have HPR:=hid (fun h1 h2 h3 W hW=>prog_at p hs hc h1 h2 h3 W hW)
 obtain ⟨sz,hsz⟩:∃ n,hSize p.threads=n:=⟨_,rfl⟩
 obtain ⟨dp,hdp⟩:∃ n,hDeep p.threads=n:=⟨_,rfl⟩
 have HSZ:=hid (fun W (k:KeepBut (fun _=>False) V W)=>size_at p hs W S _ (HPA.out.keep k fun _ _ e=>e))
 have HDP:=hid (fun W (k:KeepBut (fun _=>False) V W)=>deep_at p hs W S _ (HPA.out.keep k fun _ _ e=>e))
 have HSA:=hid (fun (q:Gp) (T:Nat→Prop) (u:Value) W (k:KeepBut (fun _=>False) V W) (hq:PAt W T u q)=>same_at p q hs W S T _ u (HPA.out.keep k fun _ _ e=>e) hq)
 rw [hsz] at HSZ HPR
 rw [hdp] at HDP HPR
 rw [←HZS.out,hZ] at HPR
 rw [hZ] at HTX
 have HB:=hid hb1;have HK1:=hid hk1
 have HZ:=hid hZ
 clear hs hc hT hP h hb1 hk1 hs1 hsz hdp hZ hzl
 simp only [hn1,hn2] at HB HPA HSZ HDP HSA HTX hV ⊢
 obtain ⟨c0,c1,c2,-⟩:=blk3f HB.out
 go_enter Tryz.func23,Tryz.ntmps23
 go_upto_region 1 with fail
 rw [←hV,←hB1]
 clear hV hB1 hvp
 go_wp2_with fail
 go_at_call 17
 refine HTX.out.mono ?_
 rintro e w1 ⟨rfl,hk2⟩
 have HK2:=hid hk2
 clear hk2 c0 c1 c2
 obtain ⟨c0,c1,c2,-⟩:=blk3f (HK2.out.blk HB.out)
 by_cases hl:(8192:Int)<(Z.size:Int)
 ·go_wp2_with fail
  go_ret
  exact ⟨rfl,HK1.out.trans HK2.out⟩
 have HL:=hid hl
 have HSQ:=hid (HSZ.out w1 HK2.out)
 by_cases h6:(600:Int)<(sz:Int)
 ·go_wp2_with fail
  go_at_call 18
  refine (HSQ.out).mono ?_
  rintro e w3 ⟨rfl,hk⟩
  have HK3:=hid (HK2.out.trans hk)
  clear hk c0 c1 c2
  obtain ⟨c0,c1,c2,-⟩:=blk3f (HK3.out.blk HB.out)
  go_wp2_with fail
  go_ret
  exact ⟨rfl,HK1.out.trans HK3.out⟩
 have H6:=hid h6
 go_wp2_with fail
 go_at_call 18
 refine (HSQ.out).mono ?_
 rintro e w3 ⟨rfl,hk⟩
 have HK3:=hid (HK2.out.trans hk)
 clear hk c0 c1 c2
 obtain ⟨c0,c1,c2,-⟩:=blk3f (HK3.out.blk HB.out)
 have HDQ:=hid (HDP.out w3 HK3.out)
 by_cases h24:(24:Int)<(dp:Int)
 ·go_wp2_with fail
  go_at_call 19
  refine (HDQ.out).mono ?_
  rintro e w4 ⟨rfl,hk⟩
  have HK4:=hid (HK3.out.trans hk)
  clear hk c0 c1 c2
  obtain ⟨c0,c1,c2,-⟩:=blk3f (HK4.out.blk HB.out)
  go_wp2_with fail
  go_ret
  exact ⟨rfl,HK1.out.trans HK4.out⟩
 have H24:=hid h24
 go_wp2_with fail
 go_at_call 19
 refine (HDQ.out).mono ?_
 rintro e w4 ⟨rfl,hk⟩
 have HK4:=hid (HK3.out.trans hk)
 clear hk c0 c1 c2
 obtain ⟨c0,c1,c2,-⟩:=blk3f (HK4.out.blk HB.out)
 have HPQ:=hid (HPR.out (by have:=H6.out;omega) (by have:=H24.out;omega) (by have:=HL.out;omega) w4 (HK4.out.tabS HT.out))
 go_wp2_with fail
 go_at_call 16
 clear hl h6 h24
 refine HPQ.out.mono ?_
 rintro e w5 ⟨vq,q,rfl,hq,hsm,hk⟩
 have hq0:=hq
 obtain ⟨q1,e1,q2,e2,rfl,-,-⟩:=hq0
 obtain ⟨m0,hm0⟩:∃ n,q.pool=n:=⟨_,rfl⟩
 obtain ⟨m1,hm1⟩:∃ n,q.conts.length=n:=⟨_,rfl⟩
 obtain ⟨m2,hm2⟩:∃ n,q.threads.length=n:=⟨_,rfl⟩
 obtain ⟨V5,B4,hV5,hB4,hb4,hk5,hs5⟩:=fresh_block w5 (.cells #[.int .i64 q.pool,.slice q1 q.conts.length e1,.slice q2 q.threads.length e2] TPr)
 obtain ⟨V6,B5,hV6,hB5,hb5,hk6,hs6⟩:=fresh_block V5 (.cells #[.int .i64 0,.int .i64 0,.int .i64 0] TFa)
 have hk56:=hk5.trans hk6
 have HK6:=hid ((HK4.out.trans hk).trans hk56)
 have HQA:=hid (hq.keep hk56 fun _ _ e=>e)
 have HQS:=hid (HSM.out.same hsm)
 obtain ⟨g1,g2,-⟩:=same_of hsm
 have HSM2:=hid hsm
 have HQS6:=hid (HSA.out q _ _ V6 HK6.out HQA.out)
 have HQT:=hid (fun W (k:KeepBut (fun _=>False) V6 W)=>text_at q HQS.out W ((HK6.out.trans k).tabS HT.out) ((HK6.out.trans k).tabP HP.out) _ _ (HQA.out.keep k fun _ _ e=>e))
 have HQC:=hid (fun W (k:KeepBut (fun _=>False) V6 W)=>check_at q HQS.out W ((HK6.out.trans k).tabS HT.out) _ _ (HQA.out.keep k fun _ _ e=>e))
 rw [hsm] at HQS6
 rw [g2,HC.out,if_pos rfl] at HQC
 rw [g2,HC.out,if_pos rfl,g1,HZ.out] at HQT
 have HB4:=hid (hk6.blk hb4);have HB5:=hid hb5
 simp only [hm0,hm1,hm2] at HB4 HQS6 HQT HQC hV5 ⊢
 clear c0 c1 c2
 obtain ⟨c0,c1,c2,-⟩:=blk3f (HK6.out.blk HB.out)
 obtain ⟨m0',m1',m2',-⟩:=blk3f HB4.out
 obtain ⟨f0,f1,f2,-⟩:=blk3f HB5.out
 have h45:B4+1=B5:=by omega
 clear hk hq hsm hb4 hk5 hs5 hb5 hk6 hs6 hk56 g1 g2
 go_upto_region 5 with fail
 rw [←hV5,←hB4,←hV6,h45]
 clear hV5 hB4 hV6 hB5 h45
 go_wp2_with fail
 go_at_call 21
 refine HQS6.out.mono ?_
 rintro e w7 ⟨rfl,hk⟩
 have HK7:=hid hk
 clear hk c0 c1 c2 m0' m1' m2' f0 f1 f2
 obtain ⟨m0',m1',m2',-⟩:=blk3f (HK7.out.blk HB4.out)
 go_wp2_with fail
 go_at_call 17
 refine (HQT.out w7 HK7.out).mono ?_
 rintro e w8 ⟨rfl,hk⟩
 have HK8:=hid (HK7.out.trans hk)
 clear hk m0' m1' m2'
 obtain ⟨m0',m1',m2',-⟩:=blk3f (HK8.out.blk HB4.out)
 go_wp2_with fail
 go_at_call 20
 refine (HQC.out w8 HK8.out).mono ?_
 rintro e w9 ⟨rfl,hk⟩
 have HK9:=hid ((HK1.out.trans HK6.out).trans (HK8.out.trans hk))
 clear hk
 go_wp2_with fail
 go_ret
 exact ⟨rfl,HK9.out⟩
/-
  fencepostkit.Pick.
-/
/-- fencepostkit.Pick -/
def pick (k n:Int):Int:=if k.tmod n<0 then k.tmod n+n else k.tmod n
theorem pick_range {k n:Int} (hn:0<n):0≤pick k n∧pick k n<n:=by
 have h1:=Int.tmod_lt_of_pos k hn
 have h2:=Int.lt_tmod_of_pos k hn
 unfold pick
 split <;> omega
set_option maxHeartbeats 1000000 in
theorem pick_any (w:World) (k n:Int) (hn:0<n) (hn2:n≤9223372036854775807):
  Calls Tryz.prog 12 #[.int .i64 k,.int .i64 n] w fun e w'=>e=.returned (.int .i64 (pick k n))∧w'=w:=by
 have h1:=Int.tmod_lt_of_pos k hn
 have h2:=Int.lt_tmod_of_pos k hn
 have hW:IntKind.i64.wrap (k.tmod n)=k.tmod n:=IntWalk.i64_in _ (by omega)
 have hn0:¬n=0:=by omega
 have hn1:¬n<1:=by omega
 by_cases h:k.tmod n<0
 ·have hW2:IntKind.i64.wrap (k.tmod n+n)=k.tmod n+n:=IntWalk.i64_in _ (by omega)
  have HF:=hid (show pick k n=k.tmod n+n from if_pos h)
  go_enter Tryz.func12,Tryz.ntmps12
  go_wp2_with fail
  go_ret
  exact ⟨ret_int HF.out.symm,rfl⟩
 ·have HF:=hid (show pick k n=k.tmod n from if_neg h)
  go_enter Tryz.func12,Tryz.ntmps12
  go_wp2_with fail
  go_ret
  exact ⟨ret_int HF.out.symm,rfl⟩
end Go.Proofs.YtomlffobbkcmdaaGreatDoor
