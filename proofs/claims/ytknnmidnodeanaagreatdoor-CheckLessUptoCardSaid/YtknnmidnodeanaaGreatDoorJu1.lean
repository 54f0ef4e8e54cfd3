import Derived.Lib.Bytealg
import Derived.Lib.SlicesS
import Derived.Lib.Fields
namespace Go.Proofs.YtknnmidnodeanaaGreatDoor
theorem LA{α:Type _}{a b:List α}:(a++b).length=a.length+b.length:=List.length_append
theorem LC{α:Type _}{a:α}{l:List α}:(a::l).length=l.length+1:=List.length_cons
theorem BF{α:Type _} [BEq α] [LawfulBEq α]{a b:α}:(a==b)=false↔a ≠ b:=beq_eq_false_iff_ne
theorem NT:¬false=true:=Bool.false_ne_true
theorem AG{α:Type _}{xs:Array α}{i:Nat}{b:α}:xs[i]?=some b↔∃ h:i<xs.size,xs[i]=b:=Array.getElem?_eq_some_iff
end Go.Proofs.YtknnmidnodeanaaGreatDoor
namespace Go.Proofs.YtknnmidnodeanaaGreatDoor
open Go
def DB (c:UInt8):Bool:=decide (97≤c.toNat) && decide (c.toNat≤122)
def DY (c:UInt8):Bool:=decide (48≤c.toNat) && decide (c.toNat≤57)
def wordB (c:UInt8):Bool:=DB c || DY c || c.toNat==95
def blankB (c:UInt8):Bool:=c.toNat==9 || c.toNat==10 || c.toNat==13 || c.toNat==32
def wordsL:List (List UInt8):=[[112,111,111,108],[115,116,97,99,107],[113,117,101,117,101],[115,101,116],[116,104,114,101,97,100],[118,97,114],[97,114,114,97,121],[105,102],[101,108,115,101],[119,104,105,108,101],[111,117,116],[104,97,108,116],[112,117,115,104],[112,111,112],[101,110,113],[100,101,113],[97,100,100],[114,101,109,111,118,101],[104,97,115]]
def reservedB (l:List UInt8):Bool:=wordsL.contains l
def signsL:List UInt8:=[43,45,42,47,37,40,41,123,125,91,93,59,44,61,60,62,33,38,124]
def equalsL:List UInt8:=[61,33,60,62]
structure Tok where
 kind:Nat
 text:List UInt8
 num:Nat
def Tok.zero:Tok:=⟨0,[],0⟩
def val10 (l:List UInt8):Nat:=l.foldl (fun a c=>10 * a+(c.toNat - 48)) 0
def wordT (l:List UInt8):Tok×Nat:=
 if 16<(l.takeWhile wordB).length then (Tok.zero,3) else (⟨if reservedB (l.takeWhile wordB)=true then 1 else 2,l.takeWhile wordB,0⟩,0)
def numT (l:List UInt8):Tok×Nat:=
 if 1<(l.takeWhile DY).length∧l.head?=some 48 then (Tok.zero,9) else if 9223372036854775807<val10 (l.takeWhile DY) then (Tok.zero,3) else (⟨3,l.takeWhile DY,val10 (l.takeWhile DY)⟩,0)
def signN:List UInt8→Nat
 |c::d::_=>if d=61∧equalsL.contains c=true then 2 else 1
 |_=>1
def signT (l:List UInt8):Tok×Nat:=
 if signsL.contains (l.headD 0)=true then (⟨4,l.take (signN l),0⟩,0) else (Tok.zero,9)
def tokT (l:List UInt8):Tok×Nat:=
 if DB (l.headD 0)=true then wordT l else if DY (l.headD 0)=true then numT l else signT l
structure Item where
 tok:Tok
 line:Nat
 col:Nat
 err:Nat
def noteN (l:List UInt8):Nat:=(l.takeWhile fun c=>c != 10).length
def scanL:Nat→List UInt8→Nat→Nat→Bool→List Item
 |0,_,_,_,_=>[]
 |_+1,[],_,_,_=>[]
 | f+1,c::r,line,col,num=>
  if blankB c=true then (if c=10 then scanL f r (line+1) 1 false else scanL f r line (col+1) false)
  else if c=35 then scanL f ((c::r).drop (noteN (c::r))) line (col+noteN (c::r)) false
  else
   if DB c=true∧num=true then [⟨(tokT (c::r)).1,line,col,9⟩]
   else if (tokT (c::r)).2≠0 then [⟨(tokT (c::r)).1,line,col,(tokT (c::r)).2⟩]
   else⟨(tokT (c::r)).1,line,col,0⟩::scanL f ((c::r).drop (tokT (c::r)).1.text.length) line (col+(tokT (c::r)).1.text.length) ((tokT (c::r)).1.kind==3)
def scanS (l:List UInt8):List Item:=scanL l.length l 1 1 false
structure Fault where
 err:Nat
 line:Nat
 col:Nat
def allT (l:List UInt8):List Item×Fault:=
 if 8192<l.length then ([],⟨3,0,0⟩) else
 match (scanS l).find? (fun i=>i.err != 0) with
 |some i=>([],⟨i.err,i.line,i.col⟩)
 |none=>(scanS l,⟨0,0,0⟩)
theorem takeWhile_pos {p:UInt8→Bool}{c:UInt8}{r:List UInt8}(h:p c=true):(c::r).takeWhile p=c::r.takeWhile p:=by simp[List.takeWhile,h]
theorem takeWhile_take (p:UInt8→Bool):∀l:List UInt8,l.take (l.takeWhile p).length=l.takeWhile p
 |[]=>rfl
 | c::r=>by
  by_cases h:p c=true
  ·simp[List.takeWhile,h,takeWhile_take p r]
  ·simp[List.takeWhile,h]
theorem takeWhile_le (p:UInt8→Bool)(l:List UInt8):(l.takeWhile p).length≤l.length:=(List.takeWhile_prefix p).length_le
theorem letter_word {c:UInt8}(h:DB c=true):wordB c=true:=by simp[wordB,h]
theorem signN_le {c:UInt8}{r:List UInt8}:1≤signN (c::r)∧signN (c::r)≤(c::r).length:=by
 cases r with
 |nil=>simp[signN]
 |cons d r=>simp only[signN];split<;>simp
theorem tokT_cons (c:UInt8)(r:List UInt8):tokT (c::r)=if DB c=true then wordT (c::r) else if DY c=true then numT (c::r) else signT (c::r):=rfl
theorem signT_cons (c:UInt8)(r:List UInt8):signT (c::r)=if signsL.contains c=true then (⟨4,(c::r).take (signN (c::r)),0⟩,0) else (Tok.zero,9):=rfl
theorem tokT_ok {c:UInt8}{r:List UInt8}(h:(tokT (c::r)).2=0):
  1≤(tokT (c::r)).1.text.length∧(tokT (c::r)).1.text.length≤(c::r).length∧(tokT (c::r)).1.text=(c::r).take (tokT (c::r)).1.text.length:=by
 rw[tokT_cons]at h ⊢;by_cases h1:DB c=true
 ·rw[if_pos h1]at h ⊢;unfold wordT at h ⊢;by_cases h2:16<((c::r).takeWhile wordB).length
  ·rw[if_pos h2]at h;simp at h
  ·rw[if_neg h2]at h ⊢;simp only;exact⟨by rw[takeWhile_pos (letter_word h1)];simp,takeWhile_le _ _,(takeWhile_take _ _).symm⟩
 ·rw[if_neg h1]at h ⊢;by_cases h2:DY c=true
  ·rw[if_pos h2]at h ⊢;unfold numT at h ⊢;by_cases h3:1<((c::r).takeWhile DY).length∧(c::r).head?=some 48
   ·rw[if_pos h3]at h;simp at h
   ·rw[if_neg h3]at h ⊢;by_cases h4:9223372036854775807<val10 ((c::r).takeWhile DY)
    ·rw[if_pos h4]at h;simp at h
    ·rw[if_neg h4]at h ⊢;simp only;exact⟨by rw[takeWhile_pos h2];simp,takeWhile_le _ _,(takeWhile_take _ _).symm⟩
  ·rw[if_neg h2]at h ⊢;rw[signT_cons]at h ⊢;by_cases h3:signsL.contains c=true
   ·rw[if_pos h3]at h ⊢;simp only;have:=signN_le (c:=c) (r:=r);have e:((c::r).take (signN (c::r))).length=signN (c::r):=by rw[List.length_take];omega
    rw[e];exact⟨this.1,this.2,rfl⟩
   ·rw[if_neg h3]at h;simp at h
theorem noteN_le (l:List UInt8):noteN l≤l.length:=takeWhile_le _ _
theorem noteN_pos (r:List UInt8):1≤noteN (35::r):=by unfold noteN;rw[takeWhile_pos (by decide)];simp
theorem scanL_fuel:∀(n:Nat) (l:List UInt8),l.length≤n→∀(f g:Nat),l.length≤f→l.length≤g→∀line col num,scanL f l line col num=scanL g l line col num
 |_,[],_,f,g,_,_,line,col,num=>by cases f<;>cases g<;>rfl
 |0,_::_,hn,_,_,_,_,_,_,_=>absurd hn (by simp)
 |n+1,c::r,hn,0,_,hf,_,_,_,_=>absurd hf (by simp)
 |n+1,c::r,hn,_+1,0,_,hg,_,_,_=>absurd hg (by simp)
 | n+1,c::r,hn,f+1,g+1,hf,hg,line,col,num=>by
  simp only[LC]at hn hf hg;unfold scanL;by_cases h1:blankB c=true
  ·rw[if_pos h1,if_pos h1];rw[scanL_fuel n r (by omega) f g (by omega) (by omega) (line+1) 1 false,scanL_fuel n r (by omega) f g (by omega) (by omega) line (col+1) false]
  ·rw[if_neg h1,if_neg h1];by_cases h2:c=35
   ·rw[if_pos h2,if_pos h2];subst h2;have:=noteN_pos r;have hd:((35::r).drop (noteN (35::r))).length≤r.length:=by rw[List.length_drop,LC];omega
    exact scanL_fuel n _ (by omega) f g (by omega) (by omega) _ _ _
   ·rw[if_neg h2,if_neg h2];by_cases h3:DB c=true∧num=true
    ·rw[if_pos h3,if_pos h3]
    ·rw[if_neg h3,if_neg h3];by_cases h4:(tokT (c::r)).2≠0
     ·rw[if_pos h4,if_pos h4]
     ·rw[if_neg h4,if_neg h4];have hp:=(tokT_ok (Classical.not_not.1 h4)).1;have hd:((c::r).drop (tokT (c::r)).1.text.length).length≤r.length:=by rw[List.length_drop,LC];omega
      rw[scanL_fuel n _ (by omega) f g (by omega) (by omega)]
def scan (l:List UInt8)(line col:Nat)(num:Bool):List Item:=scanL l.length l line col num
theorem scan_nil (line col:Nat)(num:Bool):scan [] line col num=[]:=rfl
theorem scan_cons (c:UInt8)(r:List UInt8)(line col:Nat)(num:Bool):
  scan (c::r) line col num=
   if blankB c=true then (if c=10 then scan r (line+1) 1 false else scan r line (col+1) false)
   else if c=35 then scan ((c::r).drop (noteN (c::r))) line (col+noteN (c::r)) false
   else if DB c=true∧num=true then [⟨(tokT (c::r)).1,line,col,9⟩]
   else if (tokT (c::r)).2≠0 then [⟨(tokT (c::r)).1,line,col,(tokT (c::r)).2⟩]
   else⟨(tokT (c::r)).1,line,col,0⟩::scan ((c::r).drop (tokT (c::r)).1.text.length) line (col+(tokT (c::r)).1.text.length) ((tokT (c::r)).1.kind==3):=by
 unfold scan;rw[LC,scanL];split
 ·rfl
 ·split
  ·rename_i h2
   subst h2;have:=noteN_pos r;exact scanL_fuel r.length _ (by rw[List.length_drop,LC];omega) _ _ (by rw[List.length_drop,LC];omega) (Nat.le_refl _) _ _ _
  ·split
   ·rfl
   ·split
    ·rfl
    ·rename_i h4
     have hp:=(tokT_ok (Classical.not_not.1 h4)).1;rw[scanL_fuel r.length _ (by rw[List.length_drop,LC];omega) _ _ (by rw[List.length_drop,LC];omega) (Nat.le_refl _)]
theorem takeWhile_all {p:UInt8→Bool}:∀{l:List UInt8},∀x∈l.takeWhile p,p x=true
 |[],_,h=>by cases h
 | c::l,x,h=>by
  by_cases hc:p c=true
  ·rw[takeWhile_pos hc]at h;rcases List.mem_cons.1 h with rfl|h
   ·exact hc
   ·exact takeWhile_all x h
  ·simp[List.takeWhile,hc]at h
theorem scan_ind {M:List UInt8→Nat→Nat→Bool→Prop}(hnil:∀line col num,M [] line col num)
  (hnl:∀r line col num,M r (line+1) 1 false→M (10::r) line col num)
  (hblank:∀c r line col num,blankB c=true→c≠10→M r line (col+1) false→M (c::r) line col num)
  (hnote:∀r line col num,M ((35::r).drop (noteN (35::r))) line (col+noteN (35::r)) false→M (35::r) line col num)
  (hbad:∀c r line col num,blankB c=false→c≠35→DB c=true→num=true→M (c::r) line col num)
  (herr:∀c r line col num,blankB c=false→c≠35→¬(DB c=true∧num=true)→(tokT (c::r)).2≠0→M (c::r) line col num)
  (htok:∀c r line col num,blankB c=false→c≠35→¬(DB c=true∧num=true)→(tokT (c::r)).2=0→
   M ((c::r).drop (tokT (c::r)).1.text.length) line (col+(tokT (c::r)).1.text.length) ((tokT (c::r)).1.kind==3)→M (c::r) line col num):
  ∀(n:Nat) (l:List UInt8),l.length≤n→∀line col num,M l line col num
 |_,[],_,line,col,num=>hnil line col num
 |0,_::_,hn,_,_,_=>absurd hn (by simp)
 | n+1,c::r,hn,line,col,num=>by
  simp only[LC]at hn;have ih:=scan_ind hnil hnl hblank hnote hbad herr htok n;by_cases h1:blankB c=true
  ·by_cases h10:c=10
   ·subst h10;exact hnl r line col num (ih r (by omega) _ _ _)
   ·exact hblank c r line col num h1 h10 (ih r (by omega) _ _ _)
  ·have h1':blankB c=false:=by simpa using h1
   by_cases h2:c=35
   ·subst h2;have:=noteN_pos r;exact hnote r line col num (ih _ (by rw[List.length_drop,LC];omega) _ _ _)
   ·by_cases h3:DB c=true∧num=true
    ·exact hbad c r line col num h1' h2 h3.1 h3.2
    ·by_cases h4:(tokT (c::r)).2=0
     ·have:=(tokT_ok h4).1;exact htok c r line col num h1' h2 h3 h4 (ih _ (by rw[List.length_drop,LC];omega) _ _ _)
     ·exact herr c r line col num h1' h2 h3 h4
theorem scan_nl (r:List UInt8)(line col:Nat)(num:Bool):scan (10::r) line col num=scan r (line+1) 1 false:=by rw[scan_cons,if_pos (by decide),if_pos rfl]
theorem scan_blank {c:UInt8}(r:List UInt8)(line col:Nat)(num:Bool)(h:blankB c=true)(h':c≠10):scan (c::r) line col num=scan r line (col+1) false:=by rw[scan_cons,if_pos h,if_neg h']
theorem scan_note (r:List UInt8)(line col:Nat)(num:Bool):scan (35::r) line col num=scan ((35::r).drop (noteN (35::r))) line (col+noteN (35::r)) false:=by rw[scan_cons,if_neg (by decide),if_pos rfl]
theorem scan_bad {c:UInt8}(r:List UInt8)(line col:Nat)(num:Bool)(h1:blankB c=false)(h2:c≠35)(h3:DB c=true)(h4:num=true):scan (c::r) line col num=[⟨(tokT (c::r)).1,line,col,9⟩]:=by
 rw[scan_cons,if_neg (by rw[h1];exact NT),if_neg h2,if_pos ⟨h3,h4⟩]
theorem scan_err {c:UInt8}{r:List UInt8}(line col:Nat)(num:Bool)(h1:blankB c=false)(h2:c≠35)(h3:¬(DB c=true∧num=true))(h4:(tokT (c::r)).2≠0):scan (c::r) line col num=[⟨(tokT (c::r)).1,line,col,(tokT (c::r)).2⟩]:=by
 rw[scan_cons,if_neg (by rw[h1];exact NT),if_neg h2,if_neg h3,if_pos h4]
theorem scan_tok {c:UInt8}{r:List UInt8}(line col:Nat)(num:Bool)(h1:blankB c=false)(h2:c≠35)(h3:¬(DB c=true∧num=true))(h4:(tokT (c::r)).2=0):
  scan (c::r) line col num=⟨(tokT (c::r)).1,line,col,0⟩::scan ((c::r).drop (tokT (c::r)).1.text.length) line (col+(tokT (c::r)).1.text.length) ((tokT (c::r)).1.kind==3):=by
 rw[scan_cons,if_neg (by rw[h1];exact NT),if_neg h2,if_neg h3,if_neg (fun h=>h h4)]
def okS (l:List Item):Prop:=∀i∈l,i.err=0
def nameB (l:List UInt8):Bool:=decide (0<l.length) && (decide (l.length≤16) && (DB (l.headD 0) && (decide ((l.takeWhile wordB).length=l.length) && !reservedB l)))
theorem noteN_nl (r:List UInt8):noteN (10::r)=0:=rfl
theorem noteN_in {c:UInt8}(h:c≠10)(r:List UInt8):noteN (c::r)=1+noteN r:=by
 unfold noteN;rw[takeWhile_pos (by simpa using h),LC];omega
theorem scan_len (l:List UInt8)(line col:Nat)(num:Bool):(scan l line col num).length≤l.length∧∀i∈scan l line col num,i.tok.text.length≤l.length∧i.line≤line+l.length∧i.col≤col+l.length∧i.tok.num≤9223372036854775807∧i.tok.kind≤4∧i.err≤9:=by
 have hz:∀c r,((tokT (c::r)).1.text.length≤(c::r).length)∧(tokT (c::r)).1.num≤9223372036854775807∧(tokT (c::r)).1.kind≤4∧(tokT (c::r)).2≤9:=fun c r=>by
  rw[tokT_cons];have hz0:Tok.zero.text.length≤(c::r).length∧Tok.zero.num≤9223372036854775807∧Tok.zero.kind≤4:=by simp[Tok.zero]
  split
  ·unfold wordT;split
   ·exact⟨hz0.1,hz0.2.1,hz0.2.2,by decide⟩
   ·exact⟨takeWhile_le _ _,by simp,by simp only;split<;>simp,by simp⟩
  ·split
   ·unfold numT;split
    ·exact⟨hz0.1,hz0.2.1,hz0.2.2,by decide⟩
    ·split
     ·exact⟨hz0.1,hz0.2.1,hz0.2.2,by decide⟩
     ·exact⟨takeWhile_le _ _,by simp only;omega,by simp,by simp⟩
   ·rw[signT_cons];split
    ·exact⟨by simp only;rw[List.length_take];omega,by simp,by simp,by simp⟩
    ·exact⟨hz0.1,hz0.2.1,hz0.2.2,by decide⟩
 refine scan_ind (M:=fun l line col num=>(scan l line col num).length≤l.length∧∀i∈scan l line col num,i.tok.text.length≤l.length∧i.line≤line+l.length∧i.col≤col+l.length∧i.tok.num≤9223372036854775807∧i.tok.kind≤4∧i.err≤9) ?_ ?_ ?_ ?_ ?_ ?_ ?_ l.length l (Nat.le_refl _) line col num
 ·intro _ _ _;rw[scan_nil];exact⟨Nat.le_refl _,fun i h=>by cases h⟩
 ·intro r line col num ih;rw[scan_nl,LC];exact⟨by omega,fun i hi=>by obtain⟨a,b,d,e⟩:=ih.2 i hi;exact⟨by omega,by omega,by omega,e⟩⟩
 ·intro c r line col num h1 h2 ih;rw[scan_blank _ _ _ _ h1 h2,LC];exact⟨by omega,fun i hi=>by obtain⟨a,b,d,e⟩:=ih.2 i hi;exact⟨by omega,by omega,by omega,e⟩⟩
 ·intro r line col num ih;rw[scan_note];have:=noteN_le (35::r);rw[List.length_drop]at ih;exact⟨by omega,fun i hi=>by obtain⟨a,b,d,e⟩:=ih.2 i hi;exact⟨by omega,by omega,by omega,e⟩⟩
 ·intro c r line col num h1 h2 h3 h4;rw[scan_bad _ _ _ _ h1 h2 h3 h4];refine⟨by simp,fun i hi=>?_⟩;rw[List.mem_singleton]at hi;subst hi;obtain⟨a,b,d,e⟩:=hz c r;exact⟨a,by simp,by simp,b,d,by simp⟩
 ·intro c r line col num h1 h2 h3 h4;rw[scan_err _ _ _ h1 h2 h3 h4];refine⟨by simp,fun i hi=>?_⟩;rw[List.mem_singleton]at hi;subst hi;obtain⟨a,b,d,e⟩:=hz c r;exact⟨a,by simp,by simp,b,d,e⟩
 ·intro c r line col num h1 h2 h3 h4 ih;rw[scan_tok _ _ _ h1 h2 h3 h4];obtain⟨a,b,d,e⟩:=hz c r;have hp:=(tokT_ok h4).1;rw[List.length_drop]at ih;refine⟨by rw[LC];omega,fun i hi=>?_⟩;rcases List.mem_cons.1 hi with rfl|hi
  ·exact⟨a,by simp,by simp,b,d,by simp⟩
  ·obtain⟨x,y,z,u⟩:=ih.2 i hi;exact⟨by omega,by omega,by omega,u⟩
theorem idx_note:∀l:List UInt8,Lib.indexByte l 10=if noteN l=l.length then -1 else ((noteN l:Nat):Int)
 |[]=>rfl
 | b::l=>by
  unfold Lib.indexByte;by_cases h:b=10
  ·subst h;rw[if_pos (by decide),noteN_nl,if_neg (by simp)];rfl
  ·rw[if_neg (by simpa using h),noteN_in h,idx_note l,LC];by_cases h2:noteN l=l.length
   ·rw[if_pos h2,if_pos (by decide),if_pos (by omega)]
   ·rw[if_neg h2,if_neg (by simp),if_neg (by omega)];omega
theorem idx_mem:∀(l:List UInt8) (c:UInt8),(0≤Lib.indexByte l c↔l.contains c=true)
 |[],c=>by simp[Lib.indexByte]
 | b::l,c=>by
  have ih:=idx_mem l c;unfold Lib.indexByte;by_cases h:b=c
  ·subst h;simp
  ·rw[if_neg (by simpa using h)]
   have hc:(b::l).contains c=l.contains c:=by
    rw[List.contains_cons];have:(c==b)=false:=by simpa using fun e=>h e.symm
    rw[this,Bool.false_or]
   rw[hc,←ih];have hg:=Lib.indexByte_ge l c;by_cases h2:Lib.indexByte l c=-1
   ·rw[if_pos (by rw[h2];decide),h2]
   ·rw[if_neg (by simpa using h2)];omega
theorem reserved_contains (zs:List (List UInt8))(x:ByteArray):Lib.containsS (zs.map fun l=>⟨l.toArray⟩) x=zs.contains x.data.toList:=by
 rw[Bool.eq_iff_iff,Lib.containsS_iff,List.contains_iff_mem,List.mem_map];constructor
 ·rintro⟨l,h,e⟩;rw[←e];simpa using h
 ·intro h;exact⟨_,h,by simp⟩
end Go.Proofs.YtknnmidnodeanaaGreatDoor
namespace Go.Proofs.YtknnmidnodeanaaGreatDoor
theorem LS {α : Type _} : (∀(l : List α) (i : Nat) (a : α), l.toArray.setIfInBounds i a = (l.set i a).toArray)∧(∀(x a : α) (xs : List α), (x :: xs).set 0 a = a :: xs)∧∀(x a : α) (xs : List α) (n : Nat), (x :: xs).set (n + 1) a = x :: xs.set n a := ⟨fun _ _ _ => List.setIfInBounds_toArray .., fun _ _ _ => rfl, fun _ _ _ _ => rfl⟩
end Go.Proofs.YtknnmidnodeanaaGreatDoor

namespace Go.Proofs.YtknnmidnodeanaaGreatDoor
abbrev DL0:Nat→List Nat:=fun i=>[[],[0],[],[2],[2,3],[2,3,4],[2,3,4,5],[2,3,4,5,6],[2,3,4,5,6,7],[2,3,4,5,6,7,8],[0,1],[0,1,2,3,4,5,10],[0,1,2,3,4,5,10,11],[0,1,2,3,4,5,6,7,8,9,10,11,12]].getD i []
abbrev DL1:Nat→List Nat:=fun i=>[[],[0],[0,1],[0,1,2],[0,1,2,3],[0,1,2,3,4],[0,1,2,3,4,5],[0,1,2,3,4,5,6],[0,1,2,3,4,5,6,7],[0,1,2,3,4,5,6,7,8],[0,1,2,3,4,5,6,7,8,9],[0,1,2,3,4,5,6,7,8,9,10],[0,1,2,3,4,5,6,7,8,9,10,11],[0,1,2,3,4,5,6,7,8,9,10,11,12],[0,1,2,3,4,5,6,7,8,9,10,11,12,13],[0,1,2,3,4,5,6,7,8,9,10,11,12,13,14],[0,1,2,3,4,5,6,7,8,9,10],[0,1,2,3,4,5,6,7,8,9,10,16],[0,1,2,3,4,5,6,7,8,9,10,16,17],[0,1,2,3,4,5,6,7,8,9,10,16,17,18],[0,1,2,3,4,5,6,7,8,9,10,16,17,18,19],[0,1,2,3,4,5,6,7,8,9,10,11,12,13,14,15,16,17,18,19,20],[0,1,2,3,4,5,6,7,8,9,10,11,12,13,14,15,16,17,18,19,20,21]].getD i []
abbrev DL2:Nat→List Nat:=fun i=>[[],[0],[0,1],[0,1,2],[0,1,2,3],[0,1,2,3,4],[0,1,2,3,4,5],[0,1,2,3,4,5,6],[0,1,2,3],[0,1,2,3,8],[0,1,2,3,4,5,6,7,8,9],[0,1,2,3,4,5,6,7,8,9,10],[0,1,2,3,4,5,6,7,8,9,10,11],[0,1,2,3,4,5,6,7,8,9,10,11,12],[0,1,2,3,4,5,6,7,8,9,10,11,12,13],[0,1,2,3,4,5,6,7,8,9,10,11,12,13,14],[0,1,2,3,4,5,6,7,8,9,10,11,12,13,14,15],[0,1,2,3,4,5,6,7,8,9,10,11,12,13,14,15,16],[0,1,2,3,4,5,6,7,8,9,10,11,12,13,14,15,16,17],[0,1,2,3,4,5,6,7,8,9,10,11,12,13,14,15,16,17,18],[0,1,2,3,4,5,6,7,8,9,10,11,12,13,14,15,16,17,18,19],[0,1,2,3,4,5,6,7,8,9,10,11,12,13,14,15,16,17,18,19,20],[0,1,2,3,4,5,6,7,8,9,10,11,12,13,14,15,16,17],[0,1,2,3,4,5,6,7,8,9,10,11,12,13,14,15,16,17,22],[0,1,2,3,4,5,6,7,8,9,10,11,12,13,14,15,16,17,18,19,20,21,22,23],[0,1,2,3,4,5,6,7,8,9,10,11,12,13,14,15,16,17,18,19,20,21,22,23,24],[0,1,2,3,4,5,6,7,8,9,10,11,12,13,14,15,16,17,18,19,20,21,22,23,24,25],[0,1,2,3,4,5,6,7,8,9,10,11,12,13,14,15,16,17,18,19,20,21,22,23,24,25,26],[],[28],[],[30],[0,1,2,3,4,5,6,7,8,9,10,11,12,13,14,15,16,17,18,19,20,21,22,23,24,25,26,27,28,29,30,31]].getD i []
abbrev DL3:Nat→List Nat:=fun i=>[[],[0],[0,1],[0,1,2],[0,1,2,3],[0,1,2,3,4],[],[6],[],[8],[0,1,2,3,4,5,6,7,8,9]].getD i []
abbrev DL4:Nat→List Nat:=fun i=>[[],[0],[],[],[3],[],[5],[],[7],[2,3,4,5,6,7,8],[2,3,4,5,6,7,8,9],[0,1,2,3,4,5,6,7,8,9,10],[0,1,2,3,4,5,6,7,8,9,10,11],[0,1,2,3,4,5,6,7,8,9,10,11,12]].getD i []
abbrev DL5:Nat→List Nat:=fun i=>[[],[],[1],[1,2],[1,2,3],[1,2,3,4],[0,1,2,3,4,5],[0,1,2,3,4,5,6],[0,1,2,3,4,5,6,7]].getD i []
abbrev DL6:Nat→List Nat:=fun i=>[[],[],[0,1],[0,1,2],[],[],[5],[4,5,6],[],[8],[],[10],[0,1,2,3,4,5,6,7,8,9,10,11],[0,1,2,3,4,5,6,7,8,9,10,11,12]].getD i []
abbrev DL7:Nat→List Nat:=fun i=>[[],[0],[0,1],[0,1,2],[],[4],[0,1,2,3,4,5],[0,1,2,3,4,5,6],[0,1,2,3,4,5,6,7],[0,1,2,3,4,5,6,7,8],[0,1,2,3,4,5,6,7,8],[0,1,2,3,4,5,6,7,8,10],[0,1,2,3,4,5,6,7,8,9,10,11],[0,1,2,3,4,5,6,7,8,9,10,11,12],[0,1,2,3,4,5,6,7,8,9,10,11,12,13],[],[15],[],[17],[0,1,2,3,4,5,6,7,8,9,10,11,12,13,14,15,16,17,18]].getD i []
abbrev DL8:Nat→List Nat:=fun i=>[[],[0],[0,1],[0,1,2],[0,1,2,3],[0,1,2,3,4],[0,1,2,3,4,5],[0,1,2,3,4,5,6],[0,1,2,3],[0,1,2,3,8],[0,1,2,3,4,5,6,7,8,9],[0,1,2,3,4,5,6,7,8,9,10],[0,1,2,3,4,5,6,7,8,9,10,11],[0,1,2,3,4,5,6,7,8,9,10,11,12],[0,1,2,3,4,5,6,7,8,9,10,11,12,13],[0,1,2,3,4,5,6,7,8,9,10,11,12,13,14],[0,1,2,3,4,5,6,7,8,9,10,11,12,13,14,15],[0,1,2,3,4,5,6,7,8,9,10,11,12,13,14,15,16],[0,1,2,3,4,5,6,7,8,9,10,11,12,13],[0,1,2,3,4,5,6,7,8,9,10,11,12,13,18],[0,1,2,3,4,5,6,7,8,9,10,11,12,13,14,15,16,17,18,19],[0,1,2,3,4,5,6,7,8,9,10,11,12,13,14,15,16,17,18,19,20],[0,1,2,3,4,5,6,7,8,9,10,11,12,13,14,15,16,17,18,19,20,21],[],[23],[],[25],[0,1,2,3,4,5,6,7,8,9,10,11,12,13,14,15,16,17,18,19,20,21,22,23,24,25,26]].getD i []
abbrev DL9:Nat→List Nat:=fun i=>[[],[],[1],[],[3],[1,2,3,4],[0,1,2,3,4,5],[],[7],[],[9],[1,2,3,4,5,7,8,9,10],[0,1,2,3,4,5,6,7,8,9,10,11],[0,1,2,3,4,5,6,7,8,9,10,11,12]].getD i []
end Go.Proofs.YtknnmidnodeanaaGreatDoor
