import Derived.Lib.Bytealg
import Derived.Lib.SlicesS
import Derived.Lib.Fields
import Derived.Test.YtomlffobbkcmdaaGreatDoorJs2
import Derived.Test.YtomlffobbkcmdaaGreatDoorProg
import Derived.Lib.Hide
import Derived.Lib.DecodeN
import Derived.Shelf.GgClosure.StringsIndexFunc
namespace Go.Proofs.YtomlffobbkcmdaaGreatDoor
open Go
open Go.Lib (hid)
def CQ (c:UInt8):Bool:=decide (97≤c.toNat) && decide (c.toNat≤122)
def DA (c:UInt8):Bool:=decide (48≤c.toNat) && decide (c.toNat≤57)
def FU (c:UInt8):Bool:=CQ c || DA c || c.toNat==95
def FD (c:UInt8):Bool:=c.toNat==9 || c.toNat==10 || c.toNat==13 || c.toNat==32
def wordsL:List (List UInt8):=[[112,111,111,108],[115,116,97,99,107],[113,117,101,117,101],[115,101,116],[116,104,114,101,97,100],[118,97,114],[97,114,114,97,121],[105,102],[101,108,115,101],[119,104,105,108,101],[111,117,116],[104,97,108,116],[112,117,115,104],[112,111,112],[101,110,113],[100,101,113],[97,100,100],[114,101,109,111,118,101],[104,97,115]]
def DG (l:List UInt8):Bool:=wordsL.contains l
def signsL:List UInt8:=[43,45,42,47,37,40,41,123,125,91,93,59,44,61,60,62,33,38,124]
def equalsL:List UInt8:=[61,33,60,62]
structure Tok where
 kind:Nat
 text:List UInt8
 num:Nat
def Tok.zero:Tok:=⟨0,[],0⟩
def val10 (l:List UInt8):Nat:=l.foldl (fun a c=>10 * a+(c.toNat - 48)) 0
def wordT (l:List UInt8):Tok×Nat:=
 if 16<(l.takeWhile FU).length then (Tok.zero,3) else (⟨if DG (l.takeWhile FU)=true then 1 else 2,l.takeWhile FU,0⟩,0)
def numT (l:List UInt8):Tok×Nat:=
 if 1<(l.takeWhile DA).length∧l.head?=some 48 then (Tok.zero,9) else if 9223372036854775807<val10 (l.takeWhile DA) then (Tok.zero,3) else (⟨3,l.takeWhile DA,val10 (l.takeWhile DA)⟩,0)
def signN:List UInt8→Nat
 |c::d::_=>if d=61∧equalsL.contains c=true then 2 else 1
 |_=>1
def signT (l:List UInt8):Tok×Nat:=
 if signsL.contains (l.headD 0)=true then (⟨4,l.take (signN l),0⟩,0) else (Tok.zero,9)
def tokT (l:List UInt8):Tok×Nat:=
 if CQ (l.headD 0)=true then wordT l else if DA (l.headD 0)=true then numT l else signT l
structure Item where
 tok:Tok
 line:Nat
 col:Nat
 err:Nat
def noteN (l:List UInt8):Nat:=(l.takeWhile fun c=>c != 10).length
def scanL:Nat→List UInt8→Nat→Nat→Bool→List Item
 |0,_,_,_,_=>[]
 |_+1,[],_,_,_=>[]
 | f+1,c::r,line,col,num=>
  if FD c=true then (if c=10 then scanL f r (line+1) 1 false else scanL f r line (col+1) false)
  else if c=35 then scanL f ((c::r).drop (noteN (c::r))) line (col+noteN (c::r)) false
  else
   if CQ c=true∧num=true then [⟨(tokT (c::r)).1,line,col,9⟩]
   else if (tokT (c::r)).2≠0 then [⟨(tokT (c::r)).1,line,col,(tokT (c::r)).2⟩]
   else⟨(tokT (c::r)).1,line,col,0⟩::scanL f ((c::r).drop (tokT (c::r)).1.text.length) line (col+(tokT (c::r)).1.text.length) ((tokT (c::r)).1.kind==3)
def scanS (l:List UInt8):List Item:=scanL l.length l 1 1 false
structure Fault where
 err:Nat
 line:Nat
 col:Nat
def allT (l:List UInt8):List Item×Fault:=
 if 8192<l.length then ([],⟨3,0,0⟩) else
 match (scanS l).find? (fun i=>i.err != 0) with
 |some i=>([],⟨i.err,i.line,i.col⟩)
 |none=>(scanS l,⟨0,0,0⟩)
theorem DW {p:UInt8→Bool}{c:UInt8}{r:List UInt8}(h:p c=true):(c::r).takeWhile p=c::r.takeWhile p:=by simp[List.takeWhile,h]
theorem takeWhile_take (p:UInt8→Bool):∀l:List UInt8,l.take (l.takeWhile p).length=l.takeWhile p
 |[]=>rfl
 | c::r=>by
  by_cases h:p c=true
  ·simp[List.takeWhile,h,takeWhile_take p r]
  ·simp[List.takeWhile,h]
theorem takeWhile_le (p:UInt8→Bool)(l:List UInt8):(l.takeWhile p).length≤l.length:=(List.takeWhile_prefix p).length_le
theorem letter_word {c:UInt8}(h:CQ c=true):FU c=true:=by simp[FU,h]
theorem signN_le {c:UInt8}{r:List UInt8}:1≤signN (c::r)∧signN (c::r)≤(c::r).length:=by
 cases r with
 |nil=>simp[signN]
 |cons d r=>simp only[signN];split<;>simp
theorem DO (c:UInt8)(r:List UInt8):tokT (c::r)=if CQ c=true then wordT (c::r) else if DA c=true then numT (c::r) else signT (c::r):=rfl
theorem signT_cons (c:UInt8)(r:List UInt8):signT (c::r)=if signsL.contains c=true then (⟨4,(c::r).take (signN (c::r)),0⟩,0) else (Tok.zero,9):=rfl
theorem tokT_ok {c:UInt8}{r:List UInt8}(h:(tokT (c::r)).2=0):
  1≤(tokT (c::r)).1.text.length∧(tokT (c::r)).1.text.length≤(c::r).length∧(tokT (c::r)).1.text=(c::r).take (tokT (c::r)).1.text.length:=by
 rw[DO]at h ⊢
 by_cases h1:CQ c=true
 ·rw[if_pos h1]at h ⊢
  unfold wordT at h ⊢
  by_cases h2:16<((c::r).takeWhile FU).length
  ·rw[if_pos h2]at h;simp at h
  ·rw[if_neg h2]at h ⊢
   simp only
   exact⟨by rw[DW (letter_word h1)];simp,takeWhile_le _ _,(takeWhile_take _ _).symm⟩
 ·rw[if_neg h1]at h ⊢
  by_cases h2:DA c=true
  ·rw[if_pos h2]at h ⊢
   unfold numT at h ⊢
   by_cases h3:1<((c::r).takeWhile DA).length∧(c::r).head?=some 48
   ·rw[if_pos h3]at h;simp at h
   ·rw[if_neg h3]at h ⊢
    by_cases h4:9223372036854775807<val10 ((c::r).takeWhile DA)
    ·rw[if_pos h4]at h;simp at h
    ·rw[if_neg h4]at h ⊢
     simp only
     exact⟨by rw[DW h2];simp,takeWhile_le _ _,(takeWhile_take _ _).symm⟩
  ·rw[if_neg h2]at h ⊢
   rw[signT_cons]at h ⊢
   by_cases h3:signsL.contains c=true
   ·rw[if_pos h3]at h ⊢
    simp only
    have:=signN_le (c:=c) (r:=r)
    have e:((c::r).take (signN (c::r))).length=signN (c::r):=by rw[List.length_take];omega
    rw[e]
    exact⟨this.1,this.2,rfl⟩
   ·rw[if_neg h3]at h;simp at h
theorem noteN_le (l:List UInt8):noteN l≤l.length:=takeWhile_le _ _
theorem noteN_pos (r:List UInt8):1≤noteN (35::r):=by unfold noteN;rw[DW (by decide)];simp
theorem scanL_fuel:∀(n:Nat) (l:List UInt8),l.length≤n→∀(f g:Nat),l.length≤f→l.length≤g→∀line col num,scanL f l line col num=scanL g l line col num
 |_,[],_,f,g,_,_,line,col,num=>by cases f<;>cases g<;>rfl
 |0,_::_,hn,_,_,_,_,_,_,_=>absurd hn (by simp)
 |n+1,c::r,hn,0,_,hf,_,_,_,_=>absurd hf (by simp)
 |n+1,c::r,hn,_+1,0,_,hg,_,_,_=>absurd hg (by simp)
 | n+1,c::r,hn,f+1,g+1,hf,hg,line,col,num=>by
  simp only[LB]at hn hf hg
  unfold scanL
  by_cases h1:FD c=true
  ·rw[if_pos h1,if_pos h1]
   rw[scanL_fuel n r (by omega) f g (by omega) (by omega) (line+1) 1 false,scanL_fuel n r (by omega) f g (by omega) (by omega) line (col+1) false]
  ·rw[if_neg h1,if_neg h1]
   by_cases h2:c=35
   ·rw[if_pos h2,if_pos h2]
    subst h2
    have:=noteN_pos r
    have hd:((35::r).drop (noteN (35::r))).length≤r.length:=by rw[List.length_drop,LB];omega
    exact scanL_fuel n _ (by omega) f g (by omega) (by omega) _ _ _
   ·rw[if_neg h2,if_neg h2]
    by_cases h3:CQ c=true∧num=true
    ·rw[if_pos h3,if_pos h3]
    ·rw[if_neg h3,if_neg h3]
     by_cases h4:(tokT (c::r)).2≠0
     ·rw[if_pos h4,if_pos h4]
     ·rw[if_neg h4,if_neg h4]
      have hp:=(tokT_ok (Classical.not_not.1 h4)).1
      have hd:((c::r).drop (tokT (c::r)).1.text.length).length≤r.length:=by rw[List.length_drop,LB];omega
      rw[scanL_fuel n _ (by omega) f g (by omega) (by omega)]
def scan (l:List UInt8)(line col:Nat)(num:Bool):List Item:=scanL l.length l line col num
theorem scan_nil (line col:Nat)(num:Bool):scan [] line col num=[]:=rfl
theorem scan_cons (c:UInt8)(r:List UInt8)(line col:Nat)(num:Bool):
  scan (c::r) line col num=
   if FD c=true then (if c=10 then scan r (line+1) 1 false else scan r line (col+1) false)
   else if c=35 then scan ((c::r).drop (noteN (c::r))) line (col+noteN (c::r)) false
   else if CQ c=true∧num=true then [⟨(tokT (c::r)).1,line,col,9⟩]
   else if (tokT (c::r)).2≠0 then [⟨(tokT (c::r)).1,line,col,(tokT (c::r)).2⟩]
   else⟨(tokT (c::r)).1,line,col,0⟩::scan ((c::r).drop (tokT (c::r)).1.text.length) line (col+(tokT (c::r)).1.text.length) ((tokT (c::r)).1.kind==3):=by
 unfold scan
 rw[LB,scanL]
 split
 ·rfl
 ·split
  ·rename_i h2
   subst h2
   have:=noteN_pos r
   exact scanL_fuel r.length _ (by rw[List.length_drop,LB];omega) _ _ (by rw[List.length_drop,LB];omega) (Nat.le_refl _) _ _ _
  ·split
   ·rfl
   ·split
    ·rfl
    ·rename_i h4
     have hp:=(tokT_ok (Classical.not_not.1 h4)).1
     rw[scanL_fuel r.length _ (by rw[List.length_drop,LB];omega) _ _ (by rw[List.length_drop,LB];omega) (Nat.le_refl _)]
def stopB (c:UInt8):Bool:=FD c || c==35
def stopped:List UInt8→Bool
 |[]=>true
 |c::_=>stopB c
theorem stop_word {c:UInt8}(h:stopB c=true):FU c=false∧DA c=false∧c≠61:=by
 have h1:c=9∨c=10∨c=13∨c=32∨c=35:=by
  simp only[stopB,FD,Bool.or_eq_true,beq_iff_eq]at h
  rcases h with (((h|h)|h)|h)|h
  ·exact .inl (UInt8.toNat_inj.1 h)
  ·exact .inr (.inl (UInt8.toNat_inj.1 h))
  ·exact .inr (.inr (.inl (UInt8.toNat_inj.1 h)))
  ·exact .inr (.inr (.inr (.inl (UInt8.toNat_inj.1 h))))
  ·exact .inr (.inr (.inr (.inr h)))
 rcases h1 with h|h|h|h|h<;>subst h<;>exact⟨by decide,by decide,by decide⟩
theorem takeWhile_stop {p:UInt8→Bool}:∀{a b:List UInt8},(∀x∈a,p x=true)→(∀d,b.head?=some d→p d=false)→(a++b).takeWhile p=a
 |[],[],_,_=>rfl
 |[],d::b,_,h=>by simp[h d rfl]
 | c::a,b,h,h'=>by
  rw[List.cons_append,DW (h c List.mem_cons_self),takeWhile_stop (fun x hx=>h x (List.mem_cons_of_mem _ hx)) h']
theorem takeWhile_all {p:UInt8→Bool}:∀{l:List UInt8},∀x∈l.takeWhile p,p x=true
 |[],_,h=>by cases h
 | c::l,x,h=>by
  by_cases hc:p c=true
  ·rw[DW hc]at h
   rcases List.mem_cons.1 h with rfl|h
   ·exact hc
   ·exact takeWhile_all x h
  ·simp[List.takeWhile,hc]at h
structure Good (t:Tok):Prop where
 ne:∃c r,t.text=c::r∧FD c=false∧c≠35
 again:∀r',stopped r'=true→tokT (t.text++r')=(t,0)
theorem stopped_head {r':List UInt8}(h:stopped r'=true){d:UInt8}(hd:r'.head?=some d):stopB d=true:=by
 cases r' with
 |nil=>cases hd
 |cons c r=>simp only[List.head?_cons,Option.some.injEq]at hd;subst hd;exact h
theorem tokT_good {c:UInt8}{r:List UInt8}(hb:FD c=false)(h35:c≠35)(h:(tokT (c::r)).2=0):Good (tokT (c::r)).1:=by
 rw[DO]at h ⊢
 by_cases h1:CQ c=true
 ·rw[if_pos h1]at h ⊢
  unfold wordT at h ⊢
  by_cases h2:16<((c::r).takeWhile FU).length
  ·rw[if_pos h2]at h;simp at h
  ·rw[if_neg h2]
   have e:(c::r).takeWhile FU=c::r.takeWhile FU:=DW (letter_word h1)
   refine⟨⟨c,r.takeWhile FU,e,hb,h35⟩,fun r' hs=>?_⟩
   have e2:((c::r).takeWhile FU++r').takeWhile FU=(c::r).takeWhile FU:=takeWhile_stop takeWhile_all fun d hd=>(stop_word (stopped_head hs hd)).1
   simp only
   rw[e]at e2 ⊢
   rw[List.cons_append]at e2 ⊢
   rw[DO,if_pos h1]
   unfold wordT
   rw[e2,if_neg (by rw[←e];exact h2)]
 ·rw[if_neg h1]at h ⊢
  by_cases h2:DA c=true
  ·rw[if_pos h2]at h ⊢
   unfold numT at h ⊢
   have e:(c::r).takeWhile DA=c::r.takeWhile DA:=DW h2
   by_cases h3:1<((c::r).takeWhile DA).length∧(c::r).head?=some 48
   ·rw[if_pos h3]at h;simp at h
   ·rw[if_neg h3]at h ⊢
    by_cases h4:9223372036854775807<val10 ((c::r).takeWhile DA)
    ·rw[if_pos h4]at h;simp at h
    ·rw[if_neg h4]
     refine⟨⟨c,r.takeWhile DA,e,hb,h35⟩,fun r' hs=>?_⟩
     have e2:((c::r).takeWhile DA++r').takeWhile DA=(c::r).takeWhile DA:=takeWhile_stop takeWhile_all fun d hd=>(stop_word (stopped_head hs hd)).2.1
     simp only
     rw[e]at e2 ⊢
     rw[List.cons_append]at e2 ⊢
     rw[DO,if_neg h1,if_pos h2]
     unfold numT
     rw[e2,if_neg (by rw[←e];exact h3),if_neg (by rw[←e];exact h4)]
  ·rw[if_neg h2]at h ⊢
   rw[signT_cons]at h ⊢
   by_cases h3:signsL.contains c=true
   ·rw[if_pos h3]
    simp only
    have hle:=signN_le (c:=c) (r:=r)
    refine⟨⟨c,r.take (signN (c::r) - 1),?_,hb,h35⟩,fun r' hs=>?_⟩
    ·obtain⟨k,hk⟩:∃k,signN (c::r)=k+1:=⟨signN (c::r) - 1,by omega⟩
     simp only
     rw[hk];rfl
    ·cases r with
     | nil=>
      have e:signN [c]=1:=rfl
      rw[e]
      show tokT (c::r')=_
      rw[DO,if_neg h1,if_neg h2,signT_cons,if_pos h3]
      have e1:signN (c::r')=1:=by
       cases r' with
       |nil=>rfl
       |cons d r'=>simp only[signN];rw[if_neg fun hh=>(stop_word hs).2.2 hh.1]
      rw[e1];rfl
     | cons d r=>
      by_cases hd:d=61∧equalsL.contains c=true
      ·have e:signN (c::d::r)=2:=by simp only[signN];rw[if_pos hd]
       rw[e]
       show tokT (c::d::r')=_
       rw[DO,if_neg h1,if_neg h2,signT_cons,if_pos h3]
       have e1:signN (c::d::r')=2:=by simp only[signN];rw[if_pos hd]
       rw[e1];rfl
      ·have e:signN (c::d::r)=1:=by simp only[signN];rw[if_neg hd]
       rw[e]
       show tokT (c::r')=_
       rw[DO,if_neg h1,if_neg h2,signT_cons,if_pos h3]
       have e1:signN (c::r')=1:=by
        cases r' with
        |nil=>rfl
        |cons d r'=>simp only[signN];rw[if_neg fun hh=>(stop_word hs).2.2 hh.1]
       rw[e1];rfl
   ·rw[if_neg h3]at h;simp at h
theorem good_scan {t:Tok}(h:Good t){r':List UInt8}(hs:stopped r'=true)(line col:Nat):scan (t.text++r') line col false=⟨t,line,col,0⟩::scan r' line (col+t.text.length) (t.kind==3):=by
 obtain⟨c,r,e,hb,h35⟩:=h.ne
 have ha:=h.again r' hs
 have ed:(t.text++r').drop t.text.length=r':=List.drop_left
 have e2:t.text++r'=c::(r++r'):=by rw[e];rfl
 rw[e2]at ha ed ⊢
 rw[scan_cons,if_neg (by rw[hb];exact NT),if_neg h35,if_neg (by simp),if_neg (by rw[ha];simp),ha]
 simp only
 rw[ed]
theorem scan_ind {M:List UInt8→Nat→Nat→Bool→Prop}(hnil:∀line col num,M [] line col num)
  (hnl:∀r line col num,M r (line+1) 1 false→M (10::r) line col num)
  (hblank:∀c r line col num,FD c=true→c≠10→M r line (col+1) false→M (c::r) line col num)
  (hnote:∀r line col num,M ((35::r).drop (noteN (35::r))) line (col+noteN (35::r)) false→M (35::r) line col num)
  (hbad:∀c r line col num,FD c=false→c≠35→CQ c=true→num=true→M (c::r) line col num)
  (herr:∀c r line col num,FD c=false→c≠35→¬(CQ c=true∧num=true)→(tokT (c::r)).2≠0→M (c::r) line col num)
  (htok:∀c r line col num,FD c=false→c≠35→¬(CQ c=true∧num=true)→(tokT (c::r)).2=0→
   M ((c::r).drop (tokT (c::r)).1.text.length) line (col+(tokT (c::r)).1.text.length) ((tokT (c::r)).1.kind==3)→M (c::r) line col num):
  ∀(n:Nat) (l:List UInt8),l.length≤n→∀line col num,M l line col num
 |_,[],_,line,col,num=>hnil line col num
 |0,_::_,hn,_,_,_=>absurd hn (by simp)
 | n+1,c::r,hn,line,col,num=>by
  simp only[LB]at hn
  have ih:=scan_ind hnil hnl hblank hnote hbad herr htok n
  by_cases h1:FD c=true
  ·by_cases h10:c=10
   ·subst h10;exact hnl r line col num (ih r (by omega) _ _ _)
   ·exact hblank c r line col num h1 h10 (ih r (by omega) _ _ _)
  ·have h1':FD c=false:=by simpa using h1
   by_cases h2:c=35
   ·subst h2
    have:=noteN_pos r
    exact hnote r line col num (ih _ (by rw[List.length_drop,LB];omega) _ _ _)
   ·by_cases h3:CQ c=true∧num=true
    ·exact hbad c r line col num h1' h2 h3.1 h3.2
    ·by_cases h4:(tokT (c::r)).2=0
     ·have:=(tokT_ok h4).1
      exact htok c r line col num h1' h2 h3 h4 (ih _ (by rw[List.length_drop,LB];omega) _ _ _)
     ·exact herr c r line col num h1' h2 h3 h4
theorem scan_nl (r:List UInt8)(line col:Nat)(num:Bool):scan (10::r) line col num=scan r (line+1) 1 false:=by rw[scan_cons,if_pos (by decide),if_pos rfl]
theorem scan_blank {c:UInt8}(r:List UInt8)(line col:Nat)(num:Bool)(h:FD c=true)(h':c≠10):scan (c::r) line col num=scan r line (col+1) false:=by rw[scan_cons,if_pos h,if_neg h']
theorem scan_note (r:List UInt8)(line col:Nat)(num:Bool):scan (35::r) line col num=scan ((35::r).drop (noteN (35::r))) line (col+noteN (35::r)) false:=by rw[scan_cons,if_neg (by decide),if_pos rfl]
theorem scan_bad {c:UInt8}(r:List UInt8)(line col:Nat)(num:Bool)(h1:FD c=false)(h2:c≠35)(h3:CQ c=true)(h4:num=true):scan (c::r) line col num=[⟨(tokT (c::r)).1,line,col,9⟩]:=by
 rw[scan_cons,if_neg (by rw[h1];exact NT),if_neg h2,if_pos ⟨h3,h4⟩]
theorem scan_err {c:UInt8}{r:List UInt8}(line col:Nat)(num:Bool)(h1:FD c=false)(h2:c≠35)(h3:¬(CQ c=true∧num=true))(h4:(tokT (c::r)).2≠0):scan (c::r) line col num=[⟨(tokT (c::r)).1,line,col,(tokT (c::r)).2⟩]:=by
 rw[scan_cons,if_neg (by rw[h1];exact NT),if_neg h2,if_neg h3,if_pos h4]
theorem scan_tok {c:UInt8}{r:List UInt8}(line col:Nat)(num:Bool)(h1:FD c=false)(h2:c≠35)(h3:¬(CQ c=true∧num=true))(h4:(tokT (c::r)).2=0):
  scan (c::r) line col num=⟨(tokT (c::r)).1,line,col,0⟩::scan ((c::r).drop (tokT (c::r)).1.text.length) line (col+(tokT (c::r)).1.text.length) ((tokT (c::r)).1.kind==3):=by
 rw[scan_cons,if_neg (by rw[h1];exact NT),if_neg h2,if_neg h3,if_neg (fun h=>h h4)]
theorem scan_good (l:List UInt8)(line col:Nat)(num:Bool):∀i∈scan l line col num,i.err=0→Good i.tok:=by
 refine scan_ind (M:=fun l line col num=>∀i∈scan l line col num,i.err=0→Good i.tok) ?_ ?_ ?_ ?_ ?_ ?_ ?_ l.length l (Nat.le_refl _) line col num
 ·intro _ _ _ i hi;rw[scan_nil]at hi;cases hi
 ·intro r line col num ih;rw[scan_nl];exact ih
 ·intro c r line col num h h' ih;rw[scan_blank r line col num h h'];exact ih
 ·intro r line col num ih;rw[scan_note];exact ih
 ·intro c r line col num h1 h2 h3 h4 i hi he
  rw[scan_bad r line col num h1 h2 h3 h4,List.mem_singleton]at hi
  subst hi;cases he
 ·intro c r line col num h1 h2 h3 h4 i hi he
  rw[scan_err line col num h1 h2 h3 h4,List.mem_singleton]at hi
  subst hi;exact absurd he h4
 ·intro c r line col num h1 h2 h3 h4 ih i hi he
  rw[scan_tok line col num h1 h2 h3 h4]at hi
  rcases List.mem_cons.1 hi with rfl|hi
  ·exact tokT_good h1 h2 h4
  ·exact ih i hi he
def okS (l:List Item):Prop:=∀i∈l,i.err=0
def toks (l:List Item):List Tok:=l.map Item.tok
structure Gap (g:List UInt8):Prop where
 stop:∀l,stopped (g++l)=true
 skip:∀l line col num,∃line' col',scan (g++l) line col num=scan l line' col' false
theorem gap_1:Gap [32]:=⟨fun _=>rfl,fun l line col num=>⟨_,_,scan_blank l line col num (by decide) (by decide)⟩⟩
theorem gap_2:Gap [10]:=⟨fun _=>rfl,fun l line col num=>⟨_,_,scan_nl l line col num⟩⟩
def gapped:List (Tok×List UInt8)→List UInt8
 |[]=>[]
 |(t,g)::r=>t.text++(g++gapped r)
theorem gapped_law:∀(ts:List (Tok×List UInt8)),(∀t∈ts,Good t.1∧Gap t.2)→∀line col,toks (scan (gapped ts) line col false)=ts.map Prod.fst∧okS (scan (gapped ts) line col false)
 |[],_,_,_=>⟨rfl,fun _ h=>by cases h⟩
 | (t,g)::r,h,line,col=>by
  obtain⟨ht,hg⟩:=h _ List.mem_cons_self
  have e:=good_scan ht (hg.stop (gapped r)) line col
  obtain⟨line',col',e2⟩:=hg.skip (gapped r) line (col+t.text.length) (t.kind==3)
  have ih:=gapped_law r (fun x hx=>h x (List.mem_cons_of_mem _ hx)) line' col'
  show toks (scan (t.text++(g++gapped r)) line col false)=_∧okS (scan (t.text++(g++gapped r)) line col false)
  rw[e,e2]
  refine⟨?_,fun i hi=>?_⟩
  ·show t::toks _=_
   rw[ih.1];rfl
  ·rcases List.mem_cons.1 hi with rfl|hi
   ·rfl
   ·exact ih.2 i hi
def CV (l:List UInt8):Bool:=decide (0<l.length) && (decide (l.length≤16) && (CQ (l.headD 0) && (decide ((l.takeWhile FU).length=l.length) && !DG l)))
theorem takeWhile_full {p:UInt8→Bool}{l:List UInt8}(h:(l.takeWhile p).length=l.length):l.takeWhile p=l:=(List.takeWhile_prefix p).eq_of_length h
theorem good_names {t:Tok}(h:Good t):CV t.text=(t.kind==2)∧DG t.text=(t.kind==1):=by
 have e:=h.again [] rfl
 rw[List.append_nil]at e
 obtain⟨c,r,et,_,_⟩:=h.ne
 rw[et]at e ⊢
 rw[DO]at e
 have hw:∀d r',CQ d=false→DG (d::r')=false:=fun d r' hd=>by
  unfold DG
  rw[←Bool.not_eq_true]
  intro hc
  have hm:(d::r')∈wordsL:=List.contains_iff_mem.1 hc
  have hall:∀l∈wordsL,CQ (l.headD 0)=true:=by decide
  have:=hall _ hm
  simp only[List.headD_cons]at this
  rw[hd]at this;cases this
 by_cases h1:CQ c=true
 ·rw[if_pos h1]at e
  unfold wordT at e
  by_cases h2:16<((c::r).takeWhile FU).length
  ·rw[if_pos h2]at e;cases e
  ·rw[if_neg h2]at e
   have ek:=congrArg (fun x=>x.1.kind) e
   have ex:=congrArg (fun x=>x.1.text) e
   simp only at ek ex
   rw[et]at ex
   rw[ex]at ek h2
   have hl:(c::r).length≤16:=by omega
   unfold CV
   rw[ex]
   simp only[List.headD_cons,h1,decide_eq_true hl]
   rw[←ek]
   cases hr:DG (c::r)<;>simp
 ·have h1':CQ c=false:=by simpa using h1
  rw[if_neg h1]at e
  have hk:t.kind≠1∧t.kind≠2:=by
   by_cases h2:DA c=true
   ·rw[if_pos h2]at e
    unfold numT at e
    split at e
    ·cases e
    ·split at e
     ·cases e
     ·have ek:=congrArg (fun x=>x.1.kind) e
      simp only at ek
      omega
   ·rw[if_neg h2,signT_cons]at e
    split at e
    ·have ek:=congrArg (fun x=>x.1.kind) e
     simp only at ek
     omega
    ·cases e
  refine⟨?_,?_⟩
  ·unfold CV
   simp[h1',hk.2]
  ·rw[hw c r h1']
   simp[hk.1]
theorem noteN_nl (r:List UInt8):noteN (10::r)=0:=rfl
theorem noteN_in {c:UInt8}(h:c≠10)(r:List UInt8):noteN (c::r)=1+noteN r:=by
 unfold noteN;rw[DW (by simpa using h),LB];omega
theorem scan_len (l:List UInt8)(line col:Nat)(num:Bool):(scan l line col num).length≤l.length∧∀i∈scan l line col num,i.tok.text.length≤l.length∧i.line≤line+l.length∧i.col≤col+l.length∧i.tok.num≤9223372036854775807∧i.tok.kind≤4∧i.err≤9:=by
 have hz:∀c r,((tokT (c::r)).1.text.length≤(c::r).length)∧(tokT (c::r)).1.num≤9223372036854775807∧(tokT (c::r)).1.kind≤4∧(tokT (c::r)).2≤9:=fun c r=>by
  rw[DO]
  have hz0:Tok.zero.text.length≤(c::r).length∧Tok.zero.num≤9223372036854775807∧Tok.zero.kind≤4:=by simp[Tok.zero]
  split
  ·unfold wordT;split
   ·exact⟨hz0.1,hz0.2.1,hz0.2.2,by decide⟩
   ·exact⟨takeWhile_le _ _,by simp,by simp only;split<;>simp,by simp⟩
  ·split
   ·unfold numT;split
    ·exact⟨hz0.1,hz0.2.1,hz0.2.2,by decide⟩
    ·split
     ·exact⟨hz0.1,hz0.2.1,hz0.2.2,by decide⟩
     ·exact⟨takeWhile_le _ _,by simp only;omega,by simp,by simp⟩
   ·rw[signT_cons];split
    ·exact⟨by simp only;rw[List.length_take];omega,by simp,by simp,by simp⟩
    ·exact⟨hz0.1,hz0.2.1,hz0.2.2,by decide⟩
 refine scan_ind (M:=fun l line col num=>(scan l line col num).length≤l.length∧∀i∈scan l line col num,i.tok.text.length≤l.length∧i.line≤line+l.length∧i.col≤col+l.length∧i.tok.num≤9223372036854775807∧i.tok.kind≤4∧i.err≤9) ?_ ?_ ?_ ?_ ?_ ?_ ?_ l.length l (Nat.le_refl _) line col num
 ·intro _ _ _;rw[scan_nil];exact⟨Nat.le_refl _,fun i h=>by cases h⟩
 ·intro r line col num ih
  rw[scan_nl,LB]
  exact⟨by omega,fun i hi=>by obtain⟨a,b,d,e⟩:=ih.2 i hi;exact⟨by omega,by omega,by omega,e⟩⟩
 ·intro c r line col num h1 h2 ih
  rw[scan_blank _ _ _ _ h1 h2,LB]
  exact⟨by omega,fun i hi=>by obtain⟨a,b,d,e⟩:=ih.2 i hi;exact⟨by omega,by omega,by omega,e⟩⟩
 ·intro r line col num ih
  rw[scan_note]
  have:=noteN_le (35::r)
  rw[List.length_drop]at ih
  exact⟨by omega,fun i hi=>by obtain⟨a,b,d,e⟩:=ih.2 i hi;exact⟨by omega,by omega,by omega,e⟩⟩
 ·intro c r line col num h1 h2 h3 h4
  rw[scan_bad _ _ _ _ h1 h2 h3 h4]
  refine⟨by simp,fun i hi=>?_⟩
  rw[List.mem_singleton]at hi
  subst hi
  obtain⟨a,b,d,e⟩:=hz c r
  exact⟨a,by simp,by simp,b,d,by simp⟩
 ·intro c r line col num h1 h2 h3 h4
  rw[scan_err _ _ _ h1 h2 h3 h4]
  refine⟨by simp,fun i hi=>?_⟩
  rw[List.mem_singleton]at hi
  subst hi
  obtain⟨a,b,d,e⟩:=hz c r
  exact⟨a,by simp,by simp,b,d,e⟩
 ·intro c r line col num h1 h2 h3 h4 ih
  rw[scan_tok _ _ _ h1 h2 h3 h4]
  obtain⟨a,b,d,e⟩:=hz c r
  have hp:=(tokT_ok h4).1
  rw[List.length_drop]at ih
  refine⟨by rw[LB];omega,fun i hi=>?_⟩
  rcases List.mem_cons.1 hi with rfl|hi
  ·exact⟨a,by simp,by simp,b,d,by simp⟩
  ·obtain⟨x,y,z,u⟩:=ih.2 i hi
   exact⟨by omega,by omega,by omega,u⟩
theorem idx_note:∀l:List UInt8,Lib.indexByte l 10=if noteN l=l.length then -1 else ((noteN l:Nat):Int)
 |[]=>rfl
 | b::l=>by
  unfold Lib.indexByte
  by_cases h:b=10
  ·subst h
   rw[if_pos (by decide),noteN_nl,if_neg (by simp)];rfl
  ·rw[if_neg (by simpa using h),noteN_in h,idx_note l,LB]
   by_cases h2:noteN l=l.length
   ·rw[if_pos h2,if_pos (by decide),if_pos (by omega)]
   ·rw[if_neg h2,if_neg (by simp),if_neg (by omega)]
    omega
theorem idx_mem:∀(l:List UInt8) (c:UInt8),(0≤Lib.indexByte l c↔l.contains c=true)
 |[],c=>by simp[Lib.indexByte]
 | b::l,c=>by
  have ih:=idx_mem l c
  unfold Lib.indexByte
  by_cases h:b=c
  ·subst h;simp
  ·rw[if_neg (by simpa using h)]
   have hc:(b::l).contains c=l.contains c:=by
    rw[List.contains_cons]
    have:(c==b)=false:=by simpa using fun e=>h e.symm
    rw[this,Bool.false_or]
   rw[hc,←ih]
   have hg:=Lib.indexByte_ge l c
   by_cases h2:Lib.indexByte l c=-1
   ·rw[if_pos (by rw[h2];decide),h2]
   ·rw[if_neg (by simpa using h2)];omega
theorem reserved_contains (zs:List (List UInt8))(x:ByteArray):Lib.containsS (zs.map fun l=>⟨l.toArray⟩) x=zs.contains x.data.toList:=by
 rw[Bool.eq_iff_iff,Lib.containsS_iff,List.contains_iff_mem,List.mem_map]
 constructor
 ·rintro⟨l,h,e⟩
  rw[←e];simpa using h
 ·intro h
  exact⟨_,h,by simp⟩
open Go Go.RowKit Own
theorem ret_int {k:IntKind}{a b:Int}(h:a=b):Ending.returned (.int k a)=.returned (.int k b):=by rw[h]
theorem ret_bool {a b:Bool}(h:a=b):Ending.returned (.bool a)=.returned (.bool b):=by rw[h]
def byteV (c:UInt8):Value:=.int .u8 (c.toNat:Int)
def kindI (n:Int):Int:=if n=9∨n=10∨n=13∨n=32 then 1 else if n=35 then 2 else if 97≤n∧n≤122 then 3 else if 48≤n∧n≤57 then 4 else 0
theorem kind_letter (c:UInt8):(kindI (c.toNat:Int)==3)=CQ c:=by
 unfold kindI CQ
 repeat' split
 all_goals simp
 all_goals omega
theorem kind_digit (c:UInt8):(kindI (c.toNat:Int)==4)=DA c:=by
 unfold kindI DA
 repeat' split
 all_goals simp
 all_goals omega
theorem kind_blank (c:UInt8):(kindI (c.toNat:Int)==1)=FD c:=by
 unfold kindI FD
 have e:∀k:Nat,(c.toNat==k)=decide ((c.toNat:Int)=k):=fun k=>by
  rw[Bool.eq_iff_iff];simp
  omega
 rw[e,e,e,e]
 by_cases h:(c.toNat:Int)=9∨(c.toNat:Int)=10∨(c.toNat:Int)=13∨(c.toNat:Int)=32
 ·rw[if_pos h]
  rcases h with h|h|h|h<;>simp[h]
 ·rw[if_neg h]
  simp only[not_or]at h
  obtain⟨h1,h2,h3,h4⟩:=h
  have:(if (c.toNat:Int)=35 then (2:Int) else if 97≤(c.toNat:Int)∧(c.toNat:Int)≤122 then 3 else if 48≤(c.toNat:Int)∧(c.toNat:Int)≤57 then 4 else 0)≠1:=by
   repeat' split
   all_goals decide
  rw[BF.2 this]
  simp[h1,h2,h3,h4]
theorem kind_note (c:UInt8):(kindI (c.toNat:Int)==2)=(c==35):=by
 by_cases h:c=35
 ·subst h;rfl
 ·have hn:(c.toNat:Int)≠35:=fun e=>h (UInt8.toNat_inj.1 (show c.toNat=35 by omega))
  have:kindI (c.toNat:Int)≠2:=by
   unfold kindI
   rw[if_neg (show ¬(c.toNat:Int)=35 from hn)]
   repeat' split
   all_goals decide
  rw[BF.2 this,BF.2 h]
theorem of_int (n:Int)(w:World):
  Calls Tryz.prog 85 #[.int .u8 n] w fun e w'=>e=.returned (.int .i64 (kindI n))∧w'=w:=by
 by_cases h1:n=9
 ·subst h1
  go_enter Tryz.func85,Tryz.ntmps85
  go_wp2
  go_ret
  exact⟨rfl,rfl⟩
 by_cases h2:n=10
 ·subst h2
  go_enter Tryz.func85,Tryz.ntmps85
  go_wp2
  go_ret
  exact⟨rfl,rfl⟩
 by_cases h3:n=13
 ·subst h3
  go_enter Tryz.func85,Tryz.ntmps85
  go_wp2
  go_ret
  exact⟨rfl,rfl⟩
 by_cases h4:n=32
 ·subst h4
  go_enter Tryz.func85,Tryz.ntmps85
  go_wp2
  go_ret
  exact⟨rfl,rfl⟩
 by_cases h5:n=35
 ·subst h5
  go_enter Tryz.func85,Tryz.ntmps85
  go_wp2
  go_ret
  exact⟨rfl,rfl⟩
 have b1:(n==9)=false:=by simpa using h1
 have b2:(n==10)=false:=by simpa using h2
 have b3:(n==13)=false:=by simpa using h3
 have b4:(n==32)=false:=by simpa using h4
 have b5:(n==35)=false:=by simpa using h5
 have e0:kindI n=if 97≤n∧n≤122 then 3 else if 48≤n∧n≤57 then 4 else 0:=by
  unfold kindI
  rw[if_neg (by omega),if_neg h5]
 by_cases h6:97≤n
 ·by_cases h7:n≤122
  ·have HE:=hid (show kindI n=3 by rw[e0,if_pos ⟨h6,h7⟩])
   clear h1 h2 h3 h4 h5 e0
   go_enter Tryz.func85,Tryz.ntmps85
   go_wp2
   go_ret
   exact⟨ret_int HE.out.symm,rfl⟩
  ·have h8:48≤n:=by omega
   have h9:¬n≤57:=by omega
   have HE:=hid (show kindI n=0 by rw[e0,if_neg (by omega),if_neg (by omega)])
   clear h1 h2 h3 h4 h5 e0
   go_enter Tryz.func85,Tryz.ntmps85
   go_wp2
   go_ret
   exact⟨ret_int HE.out.symm,rfl⟩
 ·by_cases h8:48≤n
  ·by_cases h9:n≤57
   ·have HE:=hid (show kindI n=4 by rw[e0,if_neg (by omega),if_pos ⟨h8,h9⟩])
    clear h1 h2 h3 h4 h5 e0
    go_enter Tryz.func85,Tryz.ntmps85
    go_wp2
    go_ret
    exact⟨ret_int HE.out.symm,rfl⟩
   ·have HE:=hid (show kindI n=0 by rw[e0,if_neg (by omega),if_neg (by omega)])
    clear h1 h2 h3 h4 h5 e0
    go_enter Tryz.func85,Tryz.ntmps85
    go_wp2
    go_ret
    exact⟨ret_int HE.out.symm,rfl⟩
  ·have HE:=hid (show kindI n=0 by rw[e0,if_neg (by omega),if_neg (by omega)])
   clear h1 h2 h3 h4 h5 e0
   go_enter Tryz.func85,Tryz.ntmps85
   go_wp2
   go_ret
   exact⟨ret_int HE.out.symm,rfl⟩
theorem byte_beq (c:UInt8)(k:Nat)(hk:k<256):((c.toNat:Int)==(k:Int))=(c.toNat==k):=by
 rw[Bool.eq_iff_iff];simp;omega
theorem inWord_any (c:UInt8)(w:World):
    Calls Tryz.prog 87 #[byteV c] w fun e w'=>e=.returned (.bool (FU c))∧w'=w:=by
  unfold FU byteV
  have e5:=byte_beq c 95 (by decide)
  rw[←kind_letter,←kind_digit,←e5]
  obtain⟨n,hn⟩:∃n:Int,(c.toNat:Int)=n:=⟨_,rfl⟩
  rw[hn]
  clear hn e5
  obtain⟨k,hk⟩:∃k:Int,kindI n=k:=⟨_,rfl⟩
  have hO:=hid (fun w=>of_int n w)
  rw[hk]at hO ⊢
  clear hk
  cases h3:(k==3)<;>cases h4:(k==4)<;>cases h95:(n==95) <;>
    (go_enter Tryz.func87,Tryz.ntmps87
     go_wp2_with (go_at_call 85;refine(hO.out _).mono ?_;rintro e w' ⟨rfl,rfl⟩)
     go_ret
     exact⟨by simp_all,rfl⟩)
theorem isDigit_any (c:UInt8)(w:World):
  Calls Tryz.prog 130 #[byteV c] w fun e w'=>e=.returned (.bool (DA c))∧w'=w:=by
 unfold byteV
 rw[←kind_digit]
 go_enter Tryz.func130,Tryz.ntmps130
 go_wp2_with (go_at_call 85;refine(of_int _ _).mono ?_;rintro e w' ⟨rfl,rfl⟩)
 go_ret
 exact⟨rfl,rfl⟩
theorem drop_at {s:ByteArray}{i:Nat}(h:i<s.size):s.data.toList.drop i=s.get! i::s.data.toList.drop (i+1):=by
 have hl:i<s.data.toList.length:=by simpa using h
 rw[List.drop_eq_getElem_cons hl]
 congr 1
 simp[ByteArray.get!,h]
theorem decode_small (s:ByteArray)(i:Nat)(h:(s.get! i).toNat<128):Utf8.decode s i=((s.get! i).toNat,1):=by
 rw[Lib.decode_at];unfold Lib.decodeN;rw[if_pos h]
theorem decode_big (s:ByteArray)(i:Nat)(h:128≤(s.get! i).toNat):128≤(Utf8.decode s i).1:=by
 rw[Lib.decode_at];unfold Lib.decodeN;rw[if_neg (by omega)]
 repeat' split
 all_goals simp only
 all_goals omega
theorem idx_span {q:UInt8→Bool}{p:Nat→Bool}(hq:∀c:UInt8,128≤c.toNat→q c=false)(hp:∀c:UInt8,c.toNat<128→p c.toNat=!q c)(hp2:∀r,128≤r→p r=true)(s:ByteArray):
  ∀ f pos,s.size≤pos+f→pos≤s.size→Lib.idxFuncFrom p true s f pos=
   if ((s.data.toList.drop pos).takeWhile q).length=(s.data.toList.drop pos).length then -1 else ((pos+((s.data.toList.drop pos).takeWhile q).length:Nat):Int)
 | 0,pos,h1,h2=>by
  have:pos=s.size:=by omega
  subst this
  have e:s.data.toList.drop s.size=[]:=List.drop_eq_nil_of_le (by simp)
  rw[e]
  simp[Lib.idxFuncFrom]
 | f+1,pos,h1,h2=>by
  unfold Lib.idxFuncFrom
  by_cases h:pos<s.size
  ·rw[if_pos h,drop_at h]
   by_cases hb:(s.get! pos).toNat<128
   ·rw[decode_small s pos hb]
    simp only
    rw[hp _ hb]
    cases hc:q (s.get! pos)
    ·simp[List.takeWhile,hc]
    ·rw[if_neg (by simp),idx_span hq hp hp2 s f (pos+1) (by omega) (by omega),DW hc,LB,LB]
     by_cases he:((s.data.toList.drop (pos+1)).takeWhile q).length=(s.data.toList.drop (pos+1)).length
     ·rw[if_pos he,if_pos (by omega)]
     ·rw[if_neg he,if_neg (by omega)]
      congr 1
      omega
   ·rw[hp2 _ (decode_big s pos (by omega)),if_pos rfl]
    have hc:=hq (s.get! pos) (by omega)
    simp[List.takeWhile,hc]
  ·rw[if_neg h]
   have:pos=s.size:=by omega
   subst this
   have e:s.data.toList.drop s.size=[]:=List.drop_eq_nil_of_le (by simp)
   rw[e]
   simp
theorem word_small (c:UInt8)(h:128≤c.toNat):FU c=false:=by
 unfold FU CQ DA
 simp
 omega
theorem digit_small (c:UInt8)(h:128≤c.toNat):DA c=false:=by
 unfold DA
 simp
 omega
end Go.Proofs.YtomlffobbkcmdaaGreatDoor
