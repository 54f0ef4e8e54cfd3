/- Joined texts of this work: Np3, Np4, Pq4, Pq5, Np5. -/
import Derived.Test.YtomlffobbkcmdaaGreatDoorJr36
import Derived.Test.YtomlffobbkcmdaaGreatDoorJr30
import Derived.Test.YtomlffobbkcmdaaGreatDoorJr24
/-
  ParseNested in plain: a program's text is read back. No program in sight.
-/
namespace Go.Proofs.YtomlffobbkcmdaaGreatDoor
open Go
/-
  ParseNested in plain: Program of Text of a program that may be is the same. No program in sight.
-/
/-
  ParseParens in plain: an expression's text in parentheses is read back. No program in sight.
-/
/-
  parse.Expr of an expression's own text, in parentheses, too.
-/
open Go Go.RowKit Own
theorem putL_one (s:List UInt8):(putL [s]).length=s.length+1:=by simp [putL]
theorem putL_wrap (k:Int) (ts:List (List UInt8)):(putL (wrapK k ts)).length≤(putL ts).length+4:=by
 unfold wrapK
 split
 ·rw [show [40]::(ts++[[41]])=[[40]]++(ts++[[41]]) from rfl,putL_app,putL_app]
  simp only [List.length_append,putL_one,List.length_cons,List.length_nil]
  omega
 ·omega
theorem sign_len {q:Nat} (h1:1≤q) (h2:q≤13):(signL.getD q []).length≤2:=by
 have key:∀ q:Nat,q<14→(signL.getD q []).length≤2:=by decide
 exact key q (by omega)
/-- how long an expression's text is -/
theorem text_len:∀ (m:Nat) (x:Gx),gSize x≤m→mayG x=true→fitG x→(putL (tokG x)).length+4≤40 * gSize x
 | 0,x,h,_,_=>by cases x;unfold gSize at h;omega
 | f+1,.mk k o n nm l c ks,h,hm,hf=>by
  unfold fitG at hf
  unfold gSize at h ⊢
  rcases may_kinds hm with ⟨rfl,h1,rfl,rfl,rfl⟩ | ⟨rfl,h1,rfl,rfl,rfl⟩ | ⟨rfl,h1,rfl,rfl,a,rfl,ha⟩ | ⟨rfl,h1,rfl,rfl,a,rfl,ha⟩ | ⟨rfl,h1,h2,rfl,rfl,a,b,rfl,ha,hb⟩
  ·unfold tokG
   rw [if_pos rfl,putL_one]
   obtain ⟨m,rfl⟩:∃ m:Nat,n=m:=⟨n.toNat,by omega⟩
   rw [itoa_dig]
   have:=digL_len 18 m (by have:=hf.1;omega)
   unfold gSizeL
   omega
  ·unfold tokG
   rw [if_neg (by decide),if_pos rfl,putL_one]
   have:nm.length≤16:=by unfold nameB at h1;simp only [Bool.and_eq_true,decide_eq_true_eq] at h1;exact h1.2.1
   unfold gSizeL
   omega
  ·have hfa:fitG a:=by have:=hf.2;unfold fitGL at this;exact this.1
   unfold gSizeL gSizeL at h ⊢
   have ih:=text_len f a (by omega) ha hfa
   have:nm.length≤16:=by unfold nameB at h1;simp only [Bool.and_eq_true,decide_eq_true_eq] at h1;exact h1.2.1
   unfold tokG tokA
   rw [if_neg (by decide),if_neg (by decide),if_pos rfl,putL_app,putL_app,show [nm,[91]]=[nm]++[[91]] from rfl,putL_app]
   simp only [List.length_append,putL_one,List.length_cons,List.length_nil]
   omega
  ·have hfa:fitG a:=by have:=hf.2;unfold fitGL at this;exact this.1
   unfold gSizeL gSizeL at h ⊢
   have ih:=text_len f a (by omega) ha hfa
   have hw:=putL_wrap (kindG a) (tokG a)
   have hu:(unL o).length=1:=by unfold unL;split <;> rfl
   unfold tokG kidA
   rw [if_neg (by decide),if_neg (by decide),if_neg (by decide),if_pos rfl,putL_app]
   simp only [List.length_append,putL_one,hu]
   omega
  ·have hfa:fitG a∧fitG b:=by have:=hf.2;unfold fitGL fitGL at this;exact ⟨this.1,this.2.1⟩
   unfold gSizeL gSizeL gSizeL at h ⊢
   have iha:=text_len f a (by omega) ha hfa.1
   have ihb:=text_len f b (by omega) hb hfa.2
   have hwa:=putL_wrap (kindG a) (tokG a)
   have hwb:=putL_wrap (kindG b) (tokG b)
   have hs:(signG o).length≤2:=by unfold signG;exact sign_len (by omega) (by omega)
   unfold tokG kidA kidB kidA
   rw [if_neg (by decide),if_neg (by decide),if_neg (by decide),if_neg (by decide),putL_app,putL_app]
   simp only [List.length_append,putL_one]
   omega
/-
  ParseNested in plain: how long a text may be; programs that are small enough. No program in sight.
-/
theorem putL_cons (s:List UInt8) (l:List (List UInt8)):(putL (s::l)).length=s.length+1+(putL l).length:=by simp [putL];omega
theorem putL_nil:(putL []).length=0:=rfl
theorem putL_appl (a b:List (List UInt8)):(putL (a++b)).length=(putL a).length+(putL b).length:=by rw [putL_app,List.length_append]
theorem name_len {nm:List UInt8} (h:nameB nm=true):nm.length≤16:=by
 unfold nameB at h
 simp only [Bool.and_eq_true,decide_eq_true_eq] at h
 exact h.2.1
theorem ex_len {x:Gx} (hm:mayG x=true) (hf:fitG x):(putL (tokG x)).length+4≤40 * gSize x:=text_len (gSize x) x (Nat.le_refl _) hm hf
theorem op_len {op:Int} (h1:1≤op) (h7:op≤7):(opL.getD op.toNat []).length≤6:=by
 have key:∀ q:Nat,q<8→(opL.getD q []).length≤6:=by decide
 exact key _ (by omega)
theorem kind_len {k:Int} (h1:1≤k) (h3:k≤3):(kindL.getD k.toNat []).length≤6:=by
 have key:∀ q:Nat,q<4→(kindL.getD q []).length≤6:=by decide
 exact key _ (by omega)
theorem dig_len:∀ (k n:Nat),n<10 ^ k→(digL n).length≤max k 1
 | 0,n,h=>by
  obtain rfl:n=0:=by simpa using h
  rw [digL_small (by omega)];simp
 | k+1,n,h=>by
  by_cases h9:n≤9
  ·rw [digL_small h9];simp
  ·rw [digL_big h9]
   have:=dig_len k (n / 10) (by rw [Nat.pow_succ] at h;omega)
   have hk:k≠0:=by rintro rfl;omega
   simp only [List.length_append,List.length_cons,List.length_nil]
   omega
theorem itoa_len {n:Int} (h0:0≤n) (h:n≤9223372036854775807):(Lib.itoa n).length≤20:=by
 obtain ⟨m,rfl⟩:∃ m:Nat,n=m:=⟨n.toNat,by omega⟩
 rw [itoa_dig]
 have:=dig_len 19 m (by omega)
 omega
mutual
theorem lenS:∀ s:Gs,mayS s=true→fitN s→(putL (tokS s)).length≤100 * sSize s
 | .mk k nm sz op val into cont xs thn els a b,hm,hf=>by
  have hth:maySL thn=true→fitNL thn→(putL (tokSL thn)).length≤100 * sSizeL thn:=lenSL thn
  have hel:maySL els=true→fitNL els→(putL (elsT els)).length≤100 * sSizeL els+9:=lenE els
  have hms:=mayS_iff _ hm
  unfold fitN at hf
  obtain ⟨hf0,hf1,hf2,hf3⟩:=hf
  cases hms with
  | var _ x _ _ h1 h2=>
   have e1:=name_len h1
   have e2:=ex_len h2 (fitGL_1 hf1)
   unfold tokS sSize gSizeL gSizeL sSizeL
   rw [if_neg (by decide),if_pos rfl,tokA_cons]
   simp only [putL_appl,putL_cons,putL_nil,List.length_cons,List.length_nil]
   omega
  | set _ x _ _ h1 h2=>
   have e1:=name_len h1
   have e2:=ex_len h2 (fitGL_1 hf1)
   unfold tokS sSize gSizeL gSizeL sSizeL
   rw [if_neg (by decide),if_neg (by decide),if_pos rfl,tokA_cons]
   simp only [putL_appl,putL_cons,putL_nil,List.length_cons,List.length_nil]
   omega
  | array _ _ _ _ h1 h2=>
   have e1:=name_len h1
   have e2:=itoa_len h2 hf0
   unfold tokS sSize gSizeL sSizeL
   rw [if_neg (by decide),if_neg (by decide),if_neg (by decide),if_pos rfl]
   simp only [putL_appl,putL_cons,putL_nil,List.length_cons,List.length_nil]
   omega
  | put _ x y _ _ h1 h2 h3=>
   have e1:=name_len h1
   have e2:=ex_len h2 (fitGL_1 hf1)
   have e3:=ex_len h3 (fitGL_2 hf1)
   unfold tokS sSize gSizeL gSizeL gSizeL sSizeL
   rw [if_neg (by decide),if_neg (by decide),if_neg (by decide),if_neg (by decide),if_pos rfl,tokA_cons,List.tail_cons,tokA_cons]
   simp only [putL_appl,putL_cons,putL_nil,List.length_cons,List.length_nil]
   omega
  | ifs x _ _ _ _ h1 h2 h3=>
   have e2:=ex_len h1 (fitGL_1 hf1)
   have e3:=hth h2 hf2
   have e4:=hel h3 hf3
   unfold tokS sSize gSizeL gSizeL
   rw [if_pos (by decide),if_pos rfl,tokA_cons]
   simp only [putL_appl,putL_cons,putL_nil,List.length_cons,List.length_nil]
   omega
  | whil x _ _ _ h1 h2=>
   have e2:=ex_len h1 (fitGL_1 hf1)
   have e3:=hth h2 hf2
   have z:sSizeL ([]:List Gs)=0:=rfl
   unfold tokS sSize gSizeL gSizeL elsT
   rw [if_pos (by decide),if_neg (by decide),tokA_cons]
   simp only [putL_appl,putL_cons,putL_nil,List.length_cons,List.length_nil]
   omega
  | out x _ _ h1=>
   have e2:=ex_len h1 (fitGL_1 hf1)
   unfold tokS sSize gSizeL gSizeL sSizeL
   rw [if_neg (by decide),if_neg (by decide),if_neg (by decide),if_neg (by decide),if_neg (by decide),if_pos rfl,tokA_cons]
   simp only [putL_appl,putL_cons,putL_nil,List.length_cons,List.length_nil]
   omega
  | halt x _ _ h1=>
   have e2:=ex_len h1 (fitGL_1 hf1)
   unfold tokS sSize gSizeL gSizeL sSizeL
   rw [if_neg (by decide),if_neg (by decide),if_neg (by decide),if_neg (by decide),if_neg (by decide),if_neg (by decide),if_pos rfl,tokA_cons]
   simp only [putL_appl,putL_cons,putL_nil,List.length_cons,List.length_nil]
   omega
  | pop _ _ _ _ _ _ h0 h1 h2 h3=>
   have e1:=name_len h1
   have e2:=name_len h2
   have e3:=name_len h3
   have e4:=op_len (op:=op) (by omega) (by omega)
   unfold tokS sSize gSizeL sSizeL
   rw [if_neg (by decide),if_neg (by decide),if_neg (by decide),if_neg (by decide),if_neg (by decide),if_neg (by decide),if_neg (by decide)]
   unfold callT
   rw [if_pos h0,if_pos h0]
   simp only [putL_appl,putL_cons,putL_nil,List.length_cons,List.length_nil]
   omega
  | call _ _ _ x _ _ h0 h24 h2 h3 h4=>
   have e2:=name_len h2
   have e3:=name_len h3
   have e4:=op_len (op:=op) (by omega) (by omega)
   have e5:=ex_len h4 (fitGL_1 hf1)
   unfold tokS sSize gSizeL gSizeL sSizeL
   rw [if_neg (by decide),if_neg (by decide),if_neg (by decide),if_neg (by decide),if_neg (by decide),if_neg (by decide),if_neg (by decide)]
   unfold callT
   rw [if_neg h24,if_neg h24,tokA_cons]
   simp only [putL_appl,putL_cons,putL_nil,List.length_cons,List.length_nil]
   omega
theorem lenE:∀ l:List Gs,maySL l=true→fitNL l→(putL (elsT l)).length≤100 * sSizeL l+9
 | [],_,_=>by unfold elsT;simp [putL]
 | x::l,hm,hf=>by
  unfold maySL at hm
  unfold fitNL at hf
  rw [Bool.and_eq_true] at hm
  have h1:=lenS x hm.1 hf.1
  have h2:=lenSL l hm.2 hf.2
  unfold elsT sSizeL
  simp only [putL_appl,putL_cons,putL_nil,List.length_cons,List.length_nil]
  omega
theorem lenSL:∀ l:List Gs,maySL l=true→fitNL l→(putL (tokSL l)).length≤100 * sSizeL l
 | [],_,_=>by unfold tokSL;simp [putL]
 | x::l,hm,hf=>by
  unfold maySL at hm
  unfold fitNL at hf
  rw [Bool.and_eq_true] at hm
  have h1:=lenS x hm.1 hf.1
  have h2:=lenSL l hm.2 hf.2
  unfold tokSL sSizeL
  rw [putL_appl]
  omega
end
theorem lenC:∀ l:List Gc,(∀ c∈l,mayC c=true)→(putL (l.flatMap tokCt)).length≤40 * l.length
 | [],_=>by simp [putL]
 | c::l,h=>by
  have h1:=lenC l fun d hd=>h d (List.mem_cons_of_mem _ hd)
  have h2:=h c List.mem_cons_self
  unfold mayC at h2
  simp only [Bool.not_eq_true',Bool.or_eq_false_iff,decide_eq_false_iff_not,Bool.not_eq_false'] at h2
  have e1:=name_len h2.2.2
  have e2:=kind_len (k:=c.kind) (by omega) (by omega)
  rw [List.flatMap_cons,putL_appl]
  have ec:(putL (tokCt c)).length=(kindL.getD c.kind.toNat []).length+1+(c.name.length+1+2):=by
   unfold tokCt
   simp only [putL_cons,putL_nil,List.length_cons,List.length_nil]
  simp only [List.length_cons]
  omega
theorem lenT:∀ l:List (List Gs),(∀ b∈l,maySL b=true)→(∀ b∈l,fitNL b)→(putL (l.flatMap fun l=>[[116,104,114,101,97,100]]++blockT l)).length≤100 * hSize l+40 * l.length
 | [],_,_=>by simp [putL]
 | b::l,h,h'=>by
  have h1:=lenT l (fun d hd=>h d (List.mem_cons_of_mem _ hd)) fun d hd=>h' d (List.mem_cons_of_mem _ hd)
  have h2:=lenSL b (h b List.mem_cons_self) (h' b List.mem_cons_self)
  rw [List.flatMap_cons,putL_appl]
  have eb:(putL ([[116,104,114,101,97,100]]++blockT b)).length=11+(putL (tokSL b)).length:=by
   unfold blockT
   simp only [putL_appl,putL_cons,putL_nil,List.length_cons,List.length_nil]
   omega
  unfold hSize
  simp only [List.length_cons]
  omega
/-- a program that is small enough for all that is done with it here -/
structure Small (p:Gp):Prop where
 size:hSize p.threads≤100000
 conts:p.conts.length≤100000
 threads:p.threads.length≤100000
 pool:p.pool≤9223372036854775807
 fitS:∀ l∈p.threads,fitSL l
 fitN:∀ l∈p.threads,fitNL l
theorem Small.len {p:Gp} (h:Small p) (hc:checkP p=true):(putL (tokP p)).length≤100000000:=by
 unfold checkP at hc
 simp only [Bool.and_eq_true,decide_eq_true_eq,List.all_eq_true] at hc
 obtain ⟨c0,c1,c2⟩:=hc
 have h1:=lenC p.conts c1
 have h2:=lenT p.threads c2 h.fitN
 have h3:=itoa_len c0 h.pool
 have h4:=h.size
 have h5:=h.conts
 have h6:=h.threads
 unfold tokP
 simp only [putL_appl,putL_cons,putL_nil,List.length_cons,List.length_nil]
 omega
end Go.Proofs.YtomlffobbkcmdaaGreatDoor
