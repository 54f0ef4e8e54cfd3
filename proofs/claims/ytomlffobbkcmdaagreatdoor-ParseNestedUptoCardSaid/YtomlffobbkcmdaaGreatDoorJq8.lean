/- Joined texts of this work: Lx5, BldT. -/
import Derived.Test.YtomlffobbkcmdaaGreatDoorJq7
import Derived.RangeFuncBound
import Derived.RangeFuncCalls
import Derived.RangeFuncLeaves
import Derived.Shelf.Abstract
import Derived.OwnWalkIn
import Derived.TacticsInMore
import Derived.LoopNIn
import Derived.LoopIn
import Derived.Sort.CutIn
import Derived.Test.YtomlffobbkcmdaaGreatDoorJq3
import Derived.Lib.Builder
import Derived.Lib.FrozenHead2
import Derived.Lib.OthersKept
import Derived.Lib.UnsafeStr
import Derived.Laws.Externs
import Derived.OwnWalk
import Derived.Test.YtomlffobbkcmdaaGreatDoorJq4
/-
  lex: scan, the iterator's contract.
-/
namespace Go.Proofs.YtomlffobbkcmdaaGreatDoor
open Go Go.RowKit Own Go.Shelf
open Go.Lib (hid)
attribute [local go_sem] Oper.semAt_some
structure Inv (B Bs:Nat) (s:ByteArray) (w0 W X:World):Prop where
 str:X.heap[Bs]?=some (.cells #[.string s] 9 (0,0))
 size:W.heap.size≤X.heap.size
 ptr:∀ g,ptrAt B X=some g→W.heap.size≤g∧g<X.heap.size
 box:∃ cs e z,X.heap[B]?=some (.cells cs e z)
 below:Below w0.heap.size w0 X
theorem Inv.grow {B Bs:Nat} {s:ByteArray} {w0 W X Y:World} (h:Inv B Bs s w0 W X) (k:KeepBut (fun _=>False) X Y):Inv B Bs s w0 W Y:=by
 obtain ⟨cs,e,z,hb⟩:=h.box
 have hb2:=k.blk hb
 have hp:ptrAt B Y=ptrAt B X:=ptrAt_same (hb2.trans hb.symm)
 exact ⟨k.blk h.str,Nat.le_trans h.size k.size,fun g hg=>by have:=h.ptr g (by rw [←hp];exact hg);have:=k.size;omega,⟨cs,e,z,hb2⟩,h.below.trans (k.below.mono h.below.size)⟩
theorem Inv.out {B Bs:Nat} {s:ByteArray} {w0 W X Y:World} (h:Inv B Bs s w0 W X) (k:OutKp B X Y) (kb:Below w0.heap.size X Y) (kB:∃ cs e z,Y.heap[B]?=some (.cells cs e z)) (hBs:Bs<W.heap.size) (hne:Bs≠B):Inv B Bs s w0 W Y where
 str:=k.kept Bs _ _ _ h.str hne (fun e=>by have:=(h.ptr Bs e).1;omega)
 size:=Nat.le_trans h.size k.size
 ptr:=fun g hg=>by
  refine ⟨?_,k.lt (fun g hg=>(h.ptr g hg).2) g hg⟩
  rcases k.ptr with e | ⟨g',e,hg'⟩
  ·exact (h.ptr g (by rw [←e];exact hg)).1
  ·rw [e] at hg;cases hg;have:=h.size;omega
 box:=kB
 below:=h.below.trans kb
theorem grown_of_keep {X Y:World} (k:KeepBut (fun _=>False) X Y):X.grownBy Y none:=⟨k.os,k.tape,k.output,k.size,fun j hj _=>k.block j hj fun e=>e⟩
theorem extract_drop (s:ByteArray) (at_:Nat):(s.extract at_ s.size).data.toList=s.data.toList.drop at_:=by
 rw [ByteArray.data_extract]
 simp [List.take_of_length_le]
def encI (x:Item):Array Value:=#[tokV x.tok x.line x.col,.int .i64 x.err]
/-- where the scan is -/
structure Where (L:List UInt8) (at_ line col:Nat) (num:Bool) (n0 first:Int) (pre:List Item):Prop where
 hle:at_≤L.length
 hfull:scan L 1 1 false=pre++scan (L.drop at_) line col num
 hfirst:first+col=at_+1
 hcol:1≤col
 hline:line≤at_+1
 hnum:(n0==(at_:Int))=num
 hn0:n0≤at_
 hpos:0≤first∧-1≤n0
section
variable {L : List UInt8} {at_ line col : Nat} {num : Bool} {n0 first : Int} {pre : List Item} {c : UInt8} {r : List UInt8}
theorem drop_len (hd:L.drop at_=c::r):at_+r.length+1=L.length:=by
 have:=congrArg List.length hd
 rw [List.length_drop,List.length_cons] at this
 omega
theorem drop_add (hd:L.drop at_=c::r) (k:Nat):L.drop (at_+k)=(c::r).drop k:=by rw [←hd,List.drop_drop]
theorem not_there {n0:Int} {m:Nat} (h:n0≤(at_:Int)) (hm:at_<m):(n0==(m:Int))=false:=beq_eq_false_iff_ne.2 (by omega)
theorem Where.nl (h:Where L at_ line col num n0 first pre) (hd:L.drop at_=10::r):Where L (at_+1) (line+1) 1 false n0 (at_+1:Nat) pre:=by
 have hl:=drop_len hd
 have h2:=h.hfull
 rw [hd,scan_nl] at h2
 exact ⟨by omega,by rw [drop_add hd];exact h2,by omega,by omega,by have:=h.hline;omega,not_there h.hn0 (by omega),by have:=h.hn0;omega,⟨by omega,h.hpos.2⟩⟩
theorem Where.blank (h:Where L at_ line col num n0 first pre) (hd:L.drop at_=c::r) (hb:blankB c=true) (hc:c≠10):Where L (at_+1) line (col+1) false n0 first pre:=by
 have hl:=drop_len hd
 have h2:=h.hfull
 rw [hd,scan_blank _ _ _ _ hb hc] at h2
 exact ⟨by omega,by rw [drop_add hd];exact h2,by have:=h.hfirst;omega,by omega,by have:=h.hline;omega,not_there h.hn0 (by omega),by have:=h.hn0;omega,h.hpos⟩
theorem Where.note (h:Where L at_ line col num n0 first pre) (hd:L.drop at_=35::r):Where L (at_+noteN (35::r)) line (col+noteN (35::r)) false n0 first pre:=by
 have hl:=drop_len hd
 have h2:=h.hfull
 have hp:=noteN_pos r
 have hle:=noteN_le (35::r)
 rw [List.length_cons] at hle
 rw [hd,scan_note] at h2
 exact ⟨by omega,by rw [drop_add hd];exact h2,by have:=h.hfirst;omega,by omega,by have:=h.hline;omega,not_there h.hn0 (by omega),by have:=h.hn0;omega,h.hpos⟩
theorem Where.tok (h:Where L at_ line col num n0 first pre) (hd:L.drop at_=c::r) (h1:blankB c=false) (h2:c≠35) (h3:¬(letterB c=true∧num=true)) (h4:(tokT (c::r)).2=0) (n1:Int) (hn1:n1=if (tokT (c::r)).1.kind==3 then ((at_+(tokT (c::r)).1.text.length:Nat):Int) else n0):
  Where L (at_+(tokT (c::r)).1.text.length) line (col+(tokT (c::r)).1.text.length) ((tokT (c::r)).1.kind==3) n1 first (pre++[⟨(tokT (c::r)).1,line,col,0⟩]):=by
 have hl:=drop_len hd
 have hf:=h.hfull
 rw [hd,scan_tok _ _ _ h1 h2 h3 h4] at hf
 obtain ⟨a,b,_⟩:=tokT_ok h4
 rw [List.length_cons] at b
 refine ⟨by omega,by rw [drop_add hd,hf,List.append_assoc];rfl,by have:=h.hfirst;omega,by have:=h.hcol;omega,by have:=h.hline;omega,?_,?_,h.hpos.1,?_⟩
 ·subst hn1
  cases hk:((tokT (c::r)).1.kind==3)
  ·simp only [Bool.false_eq_true,if_false]
   exact not_there h.hn0 (by omega)
  ·simp
 ·subst hn1
  have:=h.hn0
  split <;> omega
 ·subst hn1
  have:=h.hpos.2
  split <;> omega
/-- the fault, the last -/
theorem Where.last (h:Where L at_ line col num n0 first pre) (hd:L.drop at_=c::r) (h1:blankB c=false) (h2:c≠35) {e:Nat} (he:e≠0) (h3:(letterB c=true∧num=true∧e=9)∨(¬(letterB c=true∧num=true)∧(tokT (c::r)).2=e)):
  scan L 1 1 false=pre++[⟨(tokT (c::r)).1,line,col,e⟩]:=by
 have hf:=h.hfull
 rw [hd] at hf
 rcases h3 with ⟨a,b,rfl⟩ | ⟨a,rfl⟩
 ·rw [scan_bad _ _ _ _ h1 h2 a b] at hf;exact hf
 ·rw [scan_err _ _ _ h1 h2 a he] at hf;exact hf
end
set_option maxRecDepth 100000 in
set_option maxHeartbeats 16000000 in
theorem scan1_in (n:Nat) (hn:1≤n) (l B Bs:Nat) (s:ByteArray) (w0 W:World) (hT:TabS w0) (hlen:s.size≤8192) (J Jx:List Item→World→Prop) (hJ:AbidesFrom W.heap.size J) (hBs:Bs<W.heap.size) (hne:Bs≠B)
    (hY:∀ pre x W1,J pre W1→pre.length<(scan s.data.toList 1 1 false).length→YieldAt Fence.wide (n - 1) Tryz.prog l (encI x) W1 fun e W'=>
      (e=.returned (.bool true)∧J (pre++[x]) W'∧(OutKp B W1 W'∧Below w0.heap.size W1 W'∧((∃ cs e z,W1.heap[B]?=some (.cells cs e z))→∃ cs e z,W'.heap[B]?=some (.cells cs e z))))∨(e=.returned (.bool false)∧Jx (pre++[x]) W'))
    (hI:Inv B Bs s w0 W W) (h0:J [] W):
    CallsIn Fence.wide n Tryz.prog 115 #[.func (.yield l) #[] #[],.pointer (some ⟨Bs,0,none⟩)] W fun e W'=>(∃ v,e=.returned v)∧
      ((∃ ys,ys=scan s.data.toList 1 1 false∧J ys W')∨(∃ pre,pre <+: scan s.data.toList 1 1 false∧Jx pre W')):=by
  have HJ:=hid hJ;have HY:=hid hY;have HI:=hid hI;have H0:=hid h0
  have hsl:s.data.toList.length=s.size:=by simp
  obtain ⟨L,hL⟩:∃ L,s.data.toList=L:=⟨_,rfl⟩
  rw [hL] at hsl HY ⊢
  have HTB:=hid (Lib.tabBelow_of_tabIs hT)
  clear hJ hY hI h0 hT
  refine callsIn_of_wp Tryz.func115 rfl trivial ?_ rfl
  simp only [Tryz.ntmps115,List.size_toArray,List.length_cons,List.length_nil,Nat.reduceAdd,Nat.reduceSub,Array.replicate_succ,Array.replicate_zero,List.push_toArray,List.append_toArray,List.nil_append,List.cons_append]
  gi_upto_region 2 with fail
  gi_loopw [3,4,5,6] (fun v3 v4 v5 v6 wr=>∃ (at_ line col:Nat) (num:Bool) (n0 first:Int) (pre:List Item),v3=.int .i64 line∧v4=.int .i64 first∧v5=.int .i64 n0∧v6=.int .i64 at_∧Where L at_ line col num n0 first pre∧J pre wr∧Inv B Bs s w0 W wr)
    (fun _ _ _ v6 _=>s.size - (intOf v6).toNat)
  case atStart=>exact ⟨0,1,1,false,-1,0,[],rfl,rfl,rfl,rfl,⟨Nat.zero_le _,by simp,by decide,by decide,by decide,by decide,by decide,by decide⟩,H0.out,HI.out⟩
  case round=>
    obtain ⟨at_,line,col,num,n0,first,pre,rfl,rfl,rfl,rfl,hW,hJp,hIw⟩:=hrel
    have HW:=hid hW;have HJP:=hid hJp;have HIW:=hid hIw
    have hstr:wr.cell? ⟨Bs,0,none⟩=some (.string s):=blk_cell (k:=0) hIw.str rfl
    have hle:=hW.hle
    clear hW hJp hIw
    by_cases hlt:at_<s.size
    · have hlti:(at_:Int)<(s.size:Int):=by omega
      have hat0:(0:Int)≤(at_:Int):=by omega
      obtain ⟨c,r,hd⟩:∃ c r,L.drop at_=c::r:=⟨_,_,List.drop_eq_getElem_cons (by omega)⟩
      have hix:∀ h:at_<s.size,(s[at_]'h).toNat=c.toNat:=fun h=>by
        have e:s.data.toList.drop at_=c::r:=by rw [hL];exact hd
        rw [drop_at h] at e
        have e2:=(List.cons.inj e).1
        rw [←e2]
        simp [ByteArray.get!,h]
        rfl
      have hO:=hid (fun w=>of_int (c.toNat:Int) w)
      obtain ⟨k,hk⟩:∃ k,kindI (c.toNat:Int)=k:=⟨_,rfl⟩
      rw [hk] at hO
      have k1:(k==1)=blankB c:=by rw [←hk];exact kind_blank c
      have k2:(k==2)=(c==35):=by rw [←hk];exact kind_note c
      have k3:(k==3)=letterB c:=by rw [←hk];exact kind_letter c
      have k4:(k==4)=digitB c:=by rw [←hk];exact kind_digit c
      have hz:=hix hlt
      have HJN:=hid (show ∀ Y,KeepBut (fun _=>False) wr Y→J pre Y from fun Y kk=>HJ.out pre wr Y none HJP.out (grown_of_keep kk) (fun r e=>by cases e))
      have HD:=hid hd
      have hlin:=HW.out.hline
      clear hk hd hix
      obtain ⟨W3,Bt,hW3,hBt,hbt,hk3,hs3⟩:=fresh_block wr (.cells #[.int .i64 0,.string ⟨#[]⟩,.int .i64 0,.int .i64 0,.int .i64 0] 76)
      have HBT:=hid hbt;have HK3:=hid hk3
      have HS3:=hid (show wr.heap.size=Bt∧Bt<W3.heap.size by omega)
      have hstr3:=hk3.stay hstr
      clear hbt hk3 hs3
      gi_upto_region 4 with fail
      rw [←hW3,←hBt]
      clear hW3 hBt hstr
      cases hb:blankB c with
      | true=>
        rw [hb] at k1
        by_cases h10:c=10
        · have e10:((c.toNat:Int)==10)=true:=by rw [h10];rfl
          have HW2:=hid (HW.out.nl (r:=r) (by rw [←h10];exact HD.out))
          clear k2 k3 k4 hb h10
          as_aux_lemma=>
            gi_wp2_with (refine ⟨trivial,?_⟩;gi_at_call 85;refine (callsIn_wide.2 (hO.out _)).mono ?_;rintro e w' ⟨rfl,rfl⟩)
            exact ⟨⟨at_+1,line+1,1,false,n0,(at_+1:Nat),pre,by simp,by simp,rfl,by simp,HW2.out,HJN.out _ HK3.out,HIW.out.grow HK3.out⟩,by simp only [intOf];omega⟩
        · have e10:((c.toNat:Int)==10)=false:=by
            rw [show ((c.toNat:Int)==10)=(c.toNat==10) from byte_beq c 10 (by decide)]
            simpa using fun h=>h10 (UInt8.toNat_inj.1 h)
          have HW2:=hid (HW.out.blank HD.out hb h10)
          clear k2 k3 k4 hb h10
          as_aux_lemma=>
            gi_wp2_with (refine ⟨trivial,?_⟩;gi_at_call 85;refine (callsIn_wide.2 (hO.out _)).mono ?_;rintro e w' ⟨rfl,rfl⟩)
            exact ⟨⟨at_+1,line,col+1,false,n0,first,pre,rfl,rfl,rfl,by simp,HW2.out,HJN.out _ HK3.out,HIW.out.grow HK3.out⟩,by simp only [intOf];omega⟩
      | false=>
        rw [hb] at k1
        by_cases h35:c=35
        · have e35:(c==35)=true:=by rw [h35];rfl
          rw [e35] at k2
          have HD2:=hid (show L.drop at_=35::r by rw [←h35];exact HD.out)
          obtain ⟨q,hq⟩:∃ q,noteN (35::r)=q:=⟨_,rfl⟩
          have hsp:=fun w=>span2_any (s.extract at_ s.size) w
          rw [extract_drop,hL,HD2.out,hq] at hsp
          have HSP:=hid hsp
          have hw2:=HW.out.note HD2.out
          have hqp:=noteN_pos r
          have hql:=noteN_le (35::r)
          rw [hq] at hw2 hqp hql
          have hdl:=drop_len HD2.out
          have HW2:=hid hw2
          have hqs:at_+q≤s.size:=by rw [List.length_cons] at hql;omega
          clear k3 k4 hb h35 e35 hsp hw2 hql hdl hq
          as_aux_lemma=>
            gi_wp2_with (first
              | (refine ⟨trivial,?_⟩;gi_at_call 85;refine (callsIn_wide.2 (hO.out _)).mono ?_;rintro e w' ⟨rfl,rfl⟩)
              | (refine ⟨trivial,?_⟩;gi_at_call 116;refine (callsIn_wide.2 (HSP.out _)).mono ?_;rintro e w' ⟨rfl,rfl⟩))
            exact ⟨⟨at_+q,line,col+q,false,n0,first,pre,rfl,rfl,rfl,by simp,HW2.out,HJN.out _ HK3.out,HIW.out.grow HK3.out⟩,by simp only [intOf];omega⟩
        · have e35:(c==35)=false:=by simpa using h35
          rw [e35] at k2
          cases hlet:letterB c with
          | true=>
            rw [hlet] at k3
            cases hnm:num with
            | true=>
              obtain ⟨t,ht⟩:∃ t,(tokT (c::r)).1=t:=⟨_,rfl⟩
              obtain ⟨e0,he0⟩:∃ e0,(tokT (c::r)).2=e0:=⟨_,rfl⟩
              have HTT:=hid ht;have HE0:=hid he0
              have hfn:∀ X,TabS X→Calls Tryz.prog 117 #[.string (s.extract at_ s.size)] X fun e w'=>e=.returned (.tuple #[.agg #[.int .i64 (t.kind:Int),.string ⟨t.text.toArray⟩,.int .i64 (t.num:Int),.int .i64 0,.int .i64 0],.int .i64 (e0:Int)])∧KeepBut (fun _=>False) X w':=fun X hX=>by
                have h:=word_any (s.extract at_ s.size) X hX
                rw [extract_drop,hL,HD.out,show wordT (c::r)=tokT (c::r) by rw [tokT_cons];exact (if_pos hlet).symm,ht,he0] at h
                exact h
              have HFN:=hid hfn
              have HT3:=hid (HTB.out _ (HIW.out.grow HK3.out).below)
              obtain ⟨K,hK⟩:∃ K:Int,(t.kind:Int)=K:=⟨_,rfl⟩
              obtain ⟨TX,hTX⟩:∃ TX:ByteArray,(⟨t.text.toArray⟩:ByteArray)=TX:=⟨_,rfl⟩
              obtain ⟨M,hM⟩:∃ M:Int,(t.num:Int)=M:=⟨_,rfl⟩
              rw [hK,hTX,hM] at HFN
              have HTX:=hid (show TX.size=t.text.length by rw [←hTX];rfl)
              have hnum2:((at_:Int)==n0)=true:=by
                have h:=HW.out.hnum
                rw [hnm] at h
                rw [←h,Bool.eq_iff_iff]
                simp only [beq_iff_eq]
                omega
              clear hfn ht he0
              gi_upto_region 19 with (first
                | (refine ⟨trivial,?_⟩;gi_at_call 85;refine (callsIn_wide.2 (hO.out _)).mono ?_;rintro e w' ⟨rfl,rfl⟩)
                | (refine ⟨trivial,?_⟩;gi_at_call 117;refine (callsIn_wide.2 (HFN.out _ HT3.out)).mono ?_;rintro e w4 ⟨rfl,hk4⟩
                   have HB4:=hid (hk4.blk HBT.out)
                   obtain ⟨n0',n1,n2,n3,n4,f0,f1,f2,f3,f4⟩:=blk5 HB4.out
                   have HK4:=hid (HK3.out.trans hk4)
                   clear hk4))
              obtain ⟨w5,hw5,hb5,hk5⟩:=put5 HB4.out (.int .i64 K) (.string TX) (.int .i64 M) (.int .i64 0) (.int .i64 0)
              rw [←hw5]
              clear hw5 n0' n1 n2 n3 n4 f0 f1 f2 f3 f4
              obtain ⟨-,-,-,n3,n4,-,-,-,f3,f4⟩:=blk5 hb5
              have hb6:=put1 (i:=4) (put1 (i:=3) hb5 (.int .i64 line)) (.int .i64 col)
              have hk6:KeepBut (fun k=>k=Bt) w5 ((w5.setCell ⟨Bt,3,none⟩ (.int .i64 line)).setCell ⟨Bt,4,none⟩ (.int .i64 col)):=(show KeepBut (fun k=>k=Bt) _ _ from KeepBut.setCell _ ⟨Bt,3,none⟩ _ rfl).trans (KeepBut.setCell _ ⟨Bt,4,none⟩ _ rfl)
              have hcc:(at_:Int) - first+1=(col:Int):=by have:=HW.out.hfirst;omega
              obtain ⟨w6,hw6⟩:∃ w6,(w5.setCell ⟨Bt,3,none⟩ (.int .i64 line)).setCell ⟨Bt,4,none⟩ (.int .i64 col)=w6:=⟨_,rfl⟩
              rw [hw6] at hb6 hk6
              have HK6:=hid (HK4.out.new (E:=fun k=>k=Bt) (hk5.trans hk6) fun b hb=>by have h2:b=Bt:=hb;have:=HS3.out;omega)
              have HB6:=hid (show w6.heap[Bt]?=some (.cells #[.int .i64 K,.string TX,.int .i64 M,.int .i64 line,.int .i64 col] 76 (0,0)) from hb6)
              have hpos:=HW.out.hpos
              have hbnd:first≤at_∧(col:Int)≤at_+1:=by have:=HW.out.hfirst;have:=HW.out.hcol;omega
              have HI6:=hid (HIW.out.grow HK6.out)
              clear hb5 hk5 hb6 hk6
              gi_upto_region 20 with fail
              obtain ⟨g0,g1,g2,g3,g4,-⟩:=blk5 HB6.out
              have HIT:=hid (show K=(t.kind:Int)∧TX=⟨t.text.toArray⟩∧M=(t.num:Int) from ⟨hK.symm,hTX.symm,hM.symm⟩)
              clear hw6 hcc n3 n4 f3 f4
              have HLAST:=hid (HW.out.last HD.out hb h35 (e:=9) (by decide) (.inl ⟨hlet,hnm,rfl⟩))
              rw [HTT.out] at HLAST
              obtain ⟨fn,tmps,assign,bod,hy,hR⟩:=HY.out pre ⟨t,line,col,9⟩ w6 (HJN.out _ HK6.out) (by rw [HLAST.out,List.length_append];simp)
              have hy:(Instr.yield l #[.agg #[.int .i64 K,.string TX,.int .i64 M,.int .i64 line,.int .i64 col],.int .i64 9]).run Tryz.prog w6=.ok (.round l fn tmps assign bod) w6:=by
                obtain ⟨a,b,d⟩:=HIT.out
                rw [a,b,d];exact hy
              skip
              clear hK hTX hM
              as_aux_lemma=>
                gi_wp2
                refine hR.mono ?_
                rintro e W7 (⟨rfl,hJ7,-,-,-⟩ | ⟨rfl,hJx⟩)
                · have h:J (scan L 1 1 false) W7:=by rw [HLAST.out];exact hJ7
                  have HF:=hid h
                  clear h hJ7
                  gi_wp2
                  refine bodyPost_ret (results_none rfl _ _ _) rfl ?_
                  exact ⟨⟨_,rfl⟩,.inl (by first | exact HF.out | exact ⟨_,rfl,HF.out⟩)⟩
                · have HF:=hid (show pre++[⟨t,line,col,9⟩] <+: scan L 1 1 false by rw [HLAST.out];exact List.prefix_rfl)
                  have HJX:=hid hJx
                  clear hJx
                  gi_wp2
                  refine bodyPost_ret (results_none rfl _ _ _) rfl ?_
                  exact ⟨⟨_,rfl⟩,.inr ⟨_,HF.out,HJX.out⟩⟩
            | false=>
              obtain ⟨t,ht⟩:∃ t,(tokT (c::r)).1=t:=⟨_,rfl⟩
              obtain ⟨e0,he0⟩:∃ e0,(tokT (c::r)).2=e0:=⟨_,rfl⟩
              have HTT:=hid ht;have HE0:=hid he0
              have hfn:∀ X,TabS X→Calls Tryz.prog 117 #[.string (s.extract at_ s.size)] X fun e w'=>e=.returned (.tuple #[.agg #[.int .i64 (t.kind:Int),.string ⟨t.text.toArray⟩,.int .i64 (t.num:Int),.int .i64 0,.int .i64 0],.int .i64 (e0:Int)])∧KeepBut (fun _=>False) X w':=fun X hX=>by
                have h:=word_any (s.extract at_ s.size) X hX
                rw [extract_drop,hL,HD.out,show wordT (c::r)=tokT (c::r) by rw [tokT_cons];exact (if_pos hlet).symm,ht,he0] at h
                exact h
              have HFN:=hid hfn
              have HT3:=hid (HTB.out _ (HIW.out.grow HK3.out).below)
              obtain ⟨K,hK⟩:∃ K:Int,(t.kind:Int)=K:=⟨_,rfl⟩
              obtain ⟨TX,hTX⟩:∃ TX:ByteArray,(⟨t.text.toArray⟩:ByteArray)=TX:=⟨_,rfl⟩
              obtain ⟨M,hM⟩:∃ M:Int,(t.num:Int)=M:=⟨_,rfl⟩
              rw [hK,hTX,hM] at HFN
              have HTX:=hid (show TX.size=t.text.length by rw [←hTX];rfl)
              have hnum2:((at_:Int)==n0)=false:=by
                have h:=HW.out.hnum
                rw [hnm] at h
                rw [←h,Bool.eq_iff_iff]
                simp only [beq_iff_eq]
                omega
              clear hfn ht he0
              gi_upto_region 19 with (first
                | (refine ⟨trivial,?_⟩;gi_at_call 85;refine (callsIn_wide.2 (hO.out _)).mono ?_;rintro e w' ⟨rfl,rfl⟩)
                | (refine ⟨trivial,?_⟩;gi_at_call 117;refine (callsIn_wide.2 (HFN.out _ HT3.out)).mono ?_;rintro e w4 ⟨rfl,hk4⟩
                   have HB4:=hid (hk4.blk HBT.out)
                   obtain ⟨n0',n1,n2,n3,n4,f0,f1,f2,f3,f4⟩:=blk5 HB4.out
                   have HK4:=hid (HK3.out.trans hk4)
                   clear hk4))
              obtain ⟨w5,hw5,hb5,hk5⟩:=put5 HB4.out (.int .i64 K) (.string TX) (.int .i64 M) (.int .i64 0) (.int .i64 0)
              rw [←hw5]
              clear hw5 n0' n1 n2 n3 n4 f0 f1 f2 f3 f4
              obtain ⟨-,-,-,n3,n4,-,-,-,f3,f4⟩:=blk5 hb5
              have hb6:=put1 (i:=4) (put1 (i:=3) hb5 (.int .i64 line)) (.int .i64 col)
              have hk6:KeepBut (fun k=>k=Bt) w5 ((w5.setCell ⟨Bt,3,none⟩ (.int .i64 line)).setCell ⟨Bt,4,none⟩ (.int .i64 col)):=(show KeepBut (fun k=>k=Bt) _ _ from KeepBut.setCell _ ⟨Bt,3,none⟩ _ rfl).trans (KeepBut.setCell _ ⟨Bt,4,none⟩ _ rfl)
              have hcc:(at_:Int) - first+1=(col:Int):=by have:=HW.out.hfirst;omega
              obtain ⟨w6,hw6⟩:∃ w6,(w5.setCell ⟨Bt,3,none⟩ (.int .i64 line)).setCell ⟨Bt,4,none⟩ (.int .i64 col)=w6:=⟨_,rfl⟩
              rw [hw6] at hb6 hk6
              have HK6:=hid (HK4.out.new (E:=fun k=>k=Bt) (hk5.trans hk6) fun b hb=>by have h2:b=Bt:=hb;have:=HS3.out;omega)
              have HB6:=hid (show w6.heap[Bt]?=some (.cells #[.int .i64 K,.string TX,.int .i64 M,.int .i64 line,.int .i64 col] 76 (0,0)) from hb6)
              have hpos:=HW.out.hpos
              have hbnd:first≤at_∧(col:Int)≤at_+1:=by have:=HW.out.hfirst;have:=HW.out.hcol;omega
              have HI6:=hid (HIW.out.grow HK6.out)
              clear hb5 hk5 hb6 hk6
              gi_upto_region 20 with fail
              obtain ⟨g0,g1,g2,g3,g4,-⟩:=blk5 HB6.out
              have HIT:=hid (show K=(t.kind:Int)∧TX=⟨t.text.toArray⟩∧M=(t.num:Int) from ⟨hK.symm,hTX.symm,hM.symm⟩)
              clear hw6 hcc n3 n4 f3 f4
              by_cases hz0:e0=0
              · subst hz0
                have he0':(tokT (c::r)).2=0:=by rw [HE0.out]
                have HOK:=hid (tokT_ok he0')
                have htok:=fun n1 h=>HW.out.tok HD.out hb h35 (fun h=>(by rw [h.2] at hnm;cases hnm)) he0' n1 h
                rw [HTT.out] at htok HOK
                have HTOK:=hid htok
                obtain ⟨fn,tmps,assign,bod,hy,hR⟩:=HY.out pre ⟨t,line,col,0⟩ w6 (HJN.out _ HK6.out) (by rw [(HTOK.out _ rfl).hfull,List.length_append,List.length_append];simp;omega)
                have hy:(Instr.yield l #[.agg #[.int .i64 K,.string TX,.int .i64 M,.int .i64 line,.int .i64 col],.int .i64 0]).run Tryz.prog w6=.ok (.round l fn tmps assign bod) w6:=by
                  obtain ⟨a,b,d⟩:=HIT.out
                  rw [a,b,d];exact hy
                have HNB:=hid (show Bt≠B∧ptrAt B w6≠some Bt from by
                  obtain ⟨cs,e,z,hbx⟩:=HIW.out.box
                  have h1:=heap_lt hbx
                  have h2:ptrAt B w6=ptrAt B wr:=ptrAt_same ((HK6.out.blk hbx).trans hbx.symm)
                  refine ⟨by have:=HS3.out;omega,fun h=>?_⟩
                  rw [h2] at h
                  have:=(HIW.out.ptr Bt h).2
                  have:=HS3.out
                  omega)
                have kk:(K==3)=(t.kind==3):=by
                  rw [HIT.out.1,Bool.eq_iff_iff]
                  simp only [beq_iff_eq]
                  omega
                have hqb:at_+TX.size≤8192∧1≤TX.size:=by
                  have h1:=HOK.out
                  have h2:=drop_len HD.out
                  have h3:=HTX.out
                  have h4:=HOK.out.2.1
                  rw [List.length_cons] at h4
                  omega
                clear hK hTX hM htok
                as_aux_lemma=>
                  gi_wp2
                  refine hR.mono ?_
                  rintro e W7 (⟨rfl,hJ7,hk7,hb7,hB7⟩ | ⟨rfl,hJx⟩)
                  · have h7:=hk7.kept Bt _ _ _ HB6.out HNB.out.1 HNB.out.2
                    obtain ⟨c0,c1,-⟩:=blk5 h7
                    have HI7:=hid (HI6.out.out hk7 hb7 (hB7 HI6.out.box) hBs hne)
                    have HJ7:=hid hJ7
                    clear hJ7 hk7 hb7 hB7 h7 g0 g1 g2 g3 g4
                    cases h3:(t.kind==3) with
                    | true=>
                      rw [h3] at kk
                      have HW7:=hid (HTOK.out ((at_+t.text.length:Nat):Int) (by rw [h3];rfl))
                      rw [←HTX.out] at HW7
                      rw [h3] at HW7
                      clear h3
                      gi_wp2
                      exact ⟨⟨at_+TX.size,line,col+TX.size,true,((at_+TX.size:Nat):Int),first,_,rfl,rfl,by simp,by simp,HW7.out,HJ7.out,HI7.out⟩,by simp only [intOf];omega⟩
                    | false=>
                      rw [h3] at kk
                      have HW7:=hid (HTOK.out n0 (by rw [h3];rfl))
                      rw [←HTX.out] at HW7
                      rw [h3] at HW7
                      clear h3
                      gi_wp2
                      exact ⟨⟨at_+TX.size,line,col+TX.size,false,n0,first,_,rfl,rfl,rfl,by simp,HW7.out,HJ7.out,HI7.out⟩,by simp only [intOf];omega⟩
                  · have HF:=hid (show pre++[⟨t,line,col,0⟩] <+: scan L 1 1 false from ⟨_,((HTOK.out _ rfl).hfull).symm⟩)
                    have HJX:=hid hJx
                    clear hJx
                    gi_wp2
                    refine bodyPost_ret (results_none rfl _ _ _) rfl ?_
                    exact ⟨⟨_,rfl⟩,.inr ⟨_,HF.out,HJX.out⟩⟩
              · have hz1:((e0:Int) != 0)=true:=by simpa using hz0
                have HLAST:=hid (HW.out.last HD.out hb h35 (e:=e0) hz0 (.inr ⟨(fun h=>(by rw [h.2] at hnm;cases hnm)),HE0.out⟩))
                rw [HTT.out] at HLAST
                obtain ⟨fn,tmps,assign,bod,hy,hR⟩:=HY.out pre ⟨t,line,col,e0⟩ w6 (HJN.out _ HK6.out) (by rw [HLAST.out,List.length_append];simp)
                have hy:(Instr.yield l #[.agg #[.int .i64 K,.string TX,.int .i64 M,.int .i64 line,.int .i64 col],.int .i64 (e0:Int)]).run Tryz.prog w6=.ok (.round l fn tmps assign bod) w6:=by
                  obtain ⟨a,b,d⟩:=HIT.out
                  rw [a,b,d];exact hy
                skip
                clear hK hTX hM
                as_aux_lemma=>
                  gi_wp2
                  refine hR.mono ?_
                  rintro e W7 (⟨rfl,hJ7,-,-,-⟩ | ⟨rfl,hJx⟩)
                  · have h:J (scan L 1 1 false) W7:=by rw [HLAST.out];exact hJ7
                    have HF:=hid h
                    clear h hJ7
                    gi_wp2
                    refine bodyPost_ret (results_none rfl _ _ _) rfl ?_
                    exact ⟨⟨_,rfl⟩,.inl (by first | exact HF.out | exact ⟨_,rfl,HF.out⟩)⟩
                  · have HF:=hid (show pre++[⟨t,line,col,e0⟩] <+: scan L 1 1 false by rw [HLAST.out];exact List.prefix_rfl)
                    have HJX:=hid hJx
                    clear hJx
                    gi_wp2
                    refine bodyPost_ret (results_none rfl _ _ _) rfl ?_
                    exact ⟨⟨_,rfl⟩,.inr ⟨_,HF.out,HJX.out⟩⟩
          | false=>
            rw [hlet] at k3
            cases hdig:digitB c with
            | true=>
              rw [hdig] at k4
              obtain ⟨t,ht⟩:∃ t,(tokT (c::r)).1=t:=⟨_,rfl⟩
              obtain ⟨e0,he0⟩:∃ e0,(tokT (c::r)).2=e0:=⟨_,rfl⟩
              have HTT:=hid ht;have HE0:=hid he0
              have hfn:∀ X,TabS X→Calls Tryz.prog 118 #[.string (s.extract at_ s.size)] X fun e w'=>e=.returned (.tuple #[.agg #[.int .i64 (t.kind:Int),.string ⟨t.text.toArray⟩,.int .i64 (t.num:Int),.int .i64 0,.int .i64 0],.int .i64 (e0:Int)])∧KeepBut (fun _=>False) X w':=fun X hX=>by
                have h:=number_any (s.extract at_ s.size) c r (by rw [extract_drop,hL,HD.out]) hdig (by rw [ByteArray.size_extract];omega) X
                rw [extract_drop,hL,HD.out,show numT (c::r)=tokT (c::r) by rw [tokT_cons];rw [if_neg (by rw [hlet];exact Bool.false_ne_true),if_pos hdig],ht,he0] at h
                exact h
              have HFN:=hid hfn
              have HT3:=hid (HTB.out _ (HIW.out.grow HK3.out).below)
              obtain ⟨K,hK⟩:∃ K:Int,(t.kind:Int)=K:=⟨_,rfl⟩
              obtain ⟨TX,hTX⟩:∃ TX:ByteArray,(⟨t.text.toArray⟩:ByteArray)=TX:=⟨_,rfl⟩
              obtain ⟨M,hM⟩:∃ M:Int,(t.num:Int)=M:=⟨_,rfl⟩
              rw [hK,hTX,hM] at HFN
              have HTX:=hid (show TX.size=t.text.length by rw [←hTX];rfl)
              skip
              clear hfn ht he0
              gi_upto_region 19 with (first
                | (refine ⟨trivial,?_⟩;gi_at_call 85;refine (callsIn_wide.2 (hO.out _)).mono ?_;rintro e w' ⟨rfl,rfl⟩)
                | (refine ⟨trivial,?_⟩;gi_at_call 118;refine (callsIn_wide.2 (HFN.out _ HT3.out)).mono ?_;rintro e w4 ⟨rfl,hk4⟩
                   have HB4:=hid (hk4.blk HBT.out)
                   obtain ⟨n0',n1,n2,n3,n4,f0,f1,f2,f3,f4⟩:=blk5 HB4.out
                   have HK4:=hid (HK3.out.trans hk4)
                   clear hk4))
              obtain ⟨w5,hw5,hb5,hk5⟩:=put5 HB4.out (.int .i64 K) (.string TX) (.int .i64 M) (.int .i64 0) (.int .i64 0)
              rw [←hw5]
              clear hw5 n0' n1 n2 n3 n4 f0 f1 f2 f3 f4
              obtain ⟨-,-,-,n3,n4,-,-,-,f3,f4⟩:=blk5 hb5
              have hb6:=put1 (i:=4) (put1 (i:=3) hb5 (.int .i64 line)) (.int .i64 col)
              have hk6:KeepBut (fun k=>k=Bt) w5 ((w5.setCell ⟨Bt,3,none⟩ (.int .i64 line)).setCell ⟨Bt,4,none⟩ (.int .i64 col)):=(show KeepBut (fun k=>k=Bt) _ _ from KeepBut.setCell _ ⟨Bt,3,none⟩ _ rfl).trans (KeepBut.setCell _ ⟨Bt,4,none⟩ _ rfl)
              have hcc:(at_:Int) - first+1=(col:Int):=by have:=HW.out.hfirst;omega
              obtain ⟨w6,hw6⟩:∃ w6,(w5.setCell ⟨Bt,3,none⟩ (.int .i64 line)).setCell ⟨Bt,4,none⟩ (.int .i64 col)=w6:=⟨_,rfl⟩
              rw [hw6] at hb6 hk6
              have HK6:=hid (HK4.out.new (E:=fun k=>k=Bt) (hk5.trans hk6) fun b hb=>by have h2:b=Bt:=hb;have:=HS3.out;omega)
              have HB6:=hid (show w6.heap[Bt]?=some (.cells #[.int .i64 K,.string TX,.int .i64 M,.int .i64 line,.int .i64 col] 76 (0,0)) from hb6)
              have hpos:=HW.out.hpos
              have hbnd:first≤at_∧(col:Int)≤at_+1:=by have:=HW.out.hfirst;have:=HW.out.hcol;omega
              have HI6:=hid (HIW.out.grow HK6.out)
              clear hb5 hk5 hb6 hk6
              gi_upto_region 20 with fail
              obtain ⟨g0,g1,g2,g3,g4,-⟩:=blk5 HB6.out
              have HIT:=hid (show K=(t.kind:Int)∧TX=⟨t.text.toArray⟩∧M=(t.num:Int) from ⟨hK.symm,hTX.symm,hM.symm⟩)
              clear hw6 hcc n3 n4 f3 f4
              by_cases hz0:e0=0
              · subst hz0
                have he0':(tokT (c::r)).2=0:=by rw [HE0.out]
                have HOK:=hid (tokT_ok he0')
                have htok:=fun n1 h=>HW.out.tok HD.out hb h35 (fun h=>(by rw [h.1] at hlet;cases hlet)) he0' n1 h
                rw [HTT.out] at htok HOK
                have HTOK:=hid htok
                obtain ⟨fn,tmps,assign,bod,hy,hR⟩:=HY.out pre ⟨t,line,col,0⟩ w6 (HJN.out _ HK6.out) (by rw [(HTOK.out _ rfl).hfull,List.length_append,List.length_append];simp;omega)
                have hy:(Instr.yield l #[.agg #[.int .i64 K,.string TX,.int .i64 M,.int .i64 line,.int .i64 col],.int .i64 0]).run Tryz.prog w6=.ok (.round l fn tmps assign bod) w6:=by
                  obtain ⟨a,b,d⟩:=HIT.out
                  rw [a,b,d];exact hy
                have HNB:=hid (show Bt≠B∧ptrAt B w6≠some Bt from by
                  obtain ⟨cs,e,z,hbx⟩:=HIW.out.box
                  have h1:=heap_lt hbx
                  have h2:ptrAt B w6=ptrAt B wr:=ptrAt_same ((HK6.out.blk hbx).trans hbx.symm)
                  refine ⟨by have:=HS3.out;omega,fun h=>?_⟩
                  rw [h2] at h
                  have:=(HIW.out.ptr Bt h).2
                  have:=HS3.out
                  omega)
                have kk:(K==3)=(t.kind==3):=by
                  rw [HIT.out.1,Bool.eq_iff_iff]
                  simp only [beq_iff_eq]
                  omega
                have hqb:at_+TX.size≤8192∧1≤TX.size:=by
                  have h1:=HOK.out
                  have h2:=drop_len HD.out
                  have h3:=HTX.out
                  have h4:=HOK.out.2.1
                  rw [List.length_cons] at h4
                  omega
                clear hK hTX hM htok
                as_aux_lemma=>
                  gi_wp2
                  refine hR.mono ?_
                  rintro e W7 (⟨rfl,hJ7,hk7,hb7,hB7⟩ | ⟨rfl,hJx⟩)
                  · have h7:=hk7.kept Bt _ _ _ HB6.out HNB.out.1 HNB.out.2
                    obtain ⟨c0,c1,-⟩:=blk5 h7
                    have HI7:=hid (HI6.out.out hk7 hb7 (hB7 HI6.out.box) hBs hne)
                    have HJ7:=hid hJ7
                    clear hJ7 hk7 hb7 hB7 h7 g0 g1 g2 g3 g4
                    cases h3:(t.kind==3) with
                    | true=>
                      rw [h3] at kk
                      have HW7:=hid (HTOK.out ((at_+t.text.length:Nat):Int) (by rw [h3];rfl))
                      rw [←HTX.out] at HW7
                      rw [h3] at HW7
                      clear h3
                      gi_wp2
                      exact ⟨⟨at_+TX.size,line,col+TX.size,true,((at_+TX.size:Nat):Int),first,_,rfl,rfl,by simp,by simp,HW7.out,HJ7.out,HI7.out⟩,by simp only [intOf];omega⟩
                    | false=>
                      rw [h3] at kk
                      have HW7:=hid (HTOK.out n0 (by rw [h3];rfl))
                      rw [←HTX.out] at HW7
                      rw [h3] at HW7
                      clear h3
                      gi_wp2
                      exact ⟨⟨at_+TX.size,line,col+TX.size,false,n0,first,_,rfl,rfl,rfl,by simp,HW7.out,HJ7.out,HI7.out⟩,by simp only [intOf];omega⟩
                  · have HF:=hid (show pre++[⟨t,line,col,0⟩] <+: scan L 1 1 false from ⟨_,((HTOK.out _ rfl).hfull).symm⟩)
                    have HJX:=hid hJx
                    clear hJx
                    gi_wp2
                    refine bodyPost_ret (results_none rfl _ _ _) rfl ?_
                    exact ⟨⟨_,rfl⟩,.inr ⟨_,HF.out,HJX.out⟩⟩
              · have hz1:((e0:Int) != 0)=true:=by simpa using hz0
                have HLAST:=hid (HW.out.last HD.out hb h35 (e:=e0) hz0 (.inr ⟨(fun h=>(by rw [h.1] at hlet;cases hlet)),HE0.out⟩))
                rw [HTT.out] at HLAST
                obtain ⟨fn,tmps,assign,bod,hy,hR⟩:=HY.out pre ⟨t,line,col,e0⟩ w6 (HJN.out _ HK6.out) (by rw [HLAST.out,List.length_append];simp)
                have hy:(Instr.yield l #[.agg #[.int .i64 K,.string TX,.int .i64 M,.int .i64 line,.int .i64 col],.int .i64 (e0:Int)]).run Tryz.prog w6=.ok (.round l fn tmps assign bod) w6:=by
                  obtain ⟨a,b,d⟩:=HIT.out
                  rw [a,b,d];exact hy
                skip
                clear hK hTX hM
                as_aux_lemma=>
                  gi_wp2
                  refine hR.mono ?_
                  rintro e W7 (⟨rfl,hJ7,-,-,-⟩ | ⟨rfl,hJx⟩)
                  · have h:J (scan L 1 1 false) W7:=by rw [HLAST.out];exact hJ7
                    have HF:=hid h
                    clear h hJ7
                    gi_wp2
                    refine bodyPost_ret (results_none rfl _ _ _) rfl ?_
                    exact ⟨⟨_,rfl⟩,.inl (by first | exact HF.out | exact ⟨_,rfl,HF.out⟩)⟩
                  · have HF:=hid (show pre++[⟨t,line,col,e0⟩] <+: scan L 1 1 false by rw [HLAST.out];exact List.prefix_rfl)
                    have HJX:=hid hJx
                    clear hJx
                    gi_wp2
                    refine bodyPost_ret (results_none rfl _ _ _) rfl ?_
                    exact ⟨⟨_,rfl⟩,.inr ⟨_,HF.out,HJX.out⟩⟩
            | false=>
              rw [hdig] at k4
              obtain ⟨t,ht⟩:∃ t,(tokT (c::r)).1=t:=⟨_,rfl⟩
              obtain ⟨e0,he0⟩:∃ e0,(tokT (c::r)).2=e0:=⟨_,rfl⟩
              have HTT:=hid ht;have HE0:=hid he0
              have hfn:∀ X,TabS X→Calls Tryz.prog 119 #[.string (s.extract at_ s.size)] X fun e w'=>e=.returned (.tuple #[.agg #[.int .i64 (t.kind:Int),.string ⟨t.text.toArray⟩,.int .i64 (t.num:Int),.int .i64 0,.int .i64 0],.int .i64 (e0:Int)])∧KeepBut (fun _=>False) X w':=fun X hX=>by
                have h:=sign_any (s.extract at_ s.size) c r (by rw [extract_drop,hL,HD.out]) X
                rw [extract_drop,hL,HD.out,show signT (c::r)=tokT (c::r) by rw [tokT_cons];rw [if_neg (by rw [hlet];exact Bool.false_ne_true),if_neg (by rw [hdig];exact Bool.false_ne_true)],ht,he0] at h
                exact h
              have HFN:=hid hfn
              have HT3:=hid (HTB.out _ (HIW.out.grow HK3.out).below)
              obtain ⟨K,hK⟩:∃ K:Int,(t.kind:Int)=K:=⟨_,rfl⟩
              obtain ⟨TX,hTX⟩:∃ TX:ByteArray,(⟨t.text.toArray⟩:ByteArray)=TX:=⟨_,rfl⟩
              obtain ⟨M,hM⟩:∃ M:Int,(t.num:Int)=M:=⟨_,rfl⟩
              rw [hK,hTX,hM] at HFN
              have HTX:=hid (show TX.size=t.text.length by rw [←hTX];rfl)
              skip
              clear hfn ht he0
              gi_upto_region 19 with (first
                | (refine ⟨trivial,?_⟩;gi_at_call 85;refine (callsIn_wide.2 (hO.out _)).mono ?_;rintro e w' ⟨rfl,rfl⟩)
                | (refine ⟨trivial,?_⟩;gi_at_call 119;refine (callsIn_wide.2 (HFN.out _ HT3.out)).mono ?_;rintro e w4 ⟨rfl,hk4⟩
                   have HB4:=hid (hk4.blk HBT.out)
                   obtain ⟨n0',n1,n2,n3,n4,f0,f1,f2,f3,f4⟩:=blk5 HB4.out
                   have HK4:=hid (HK3.out.trans hk4)
                   clear hk4))
              obtain ⟨w5,hw5,hb5,hk5⟩:=put5 HB4.out (.int .i64 K) (.string TX) (.int .i64 M) (.int .i64 0) (.int .i64 0)
              rw [←hw5]
              clear hw5 n0' n1 n2 n3 n4 f0 f1 f2 f3 f4
              obtain ⟨-,-,-,n3,n4,-,-,-,f3,f4⟩:=blk5 hb5
              have hb6:=put1 (i:=4) (put1 (i:=3) hb5 (.int .i64 line)) (.int .i64 col)
              have hk6:KeepBut (fun k=>k=Bt) w5 ((w5.setCell ⟨Bt,3,none⟩ (.int .i64 line)).setCell ⟨Bt,4,none⟩ (.int .i64 col)):=(show KeepBut (fun k=>k=Bt) _ _ from KeepBut.setCell _ ⟨Bt,3,none⟩ _ rfl).trans (KeepBut.setCell _ ⟨Bt,4,none⟩ _ rfl)
              have hcc:(at_:Int) - first+1=(col:Int):=by have:=HW.out.hfirst;omega
              obtain ⟨w6,hw6⟩:∃ w6,(w5.setCell ⟨Bt,3,none⟩ (.int .i64 line)).setCell ⟨Bt,4,none⟩ (.int .i64 col)=w6:=⟨_,rfl⟩
              rw [hw6] at hb6 hk6
              have HK6:=hid (HK4.out.new (E:=fun k=>k=Bt) (hk5.trans hk6) fun b hb=>by have h2:b=Bt:=hb;have:=HS3.out;omega)
              have HB6:=hid (show w6.heap[Bt]?=some (.cells #[.int .i64 K,.string TX,.int .i64 M,.int .i64 line,.int .i64 col] 76 (0,0)) from hb6)
              have hpos:=HW.out.hpos
              have hbnd:first≤at_∧(col:Int)≤at_+1:=by have:=HW.out.hfirst;have:=HW.out.hcol;omega
              have HI6:=hid (HIW.out.grow HK6.out)
              clear hb5 hk5 hb6 hk6
              gi_upto_region 20 with fail
              obtain ⟨g0,g1,g2,g3,g4,-⟩:=blk5 HB6.out
              have HIT:=hid (show K=(t.kind:Int)∧TX=⟨t.text.toArray⟩∧M=(t.num:Int) from ⟨hK.symm,hTX.symm,hM.symm⟩)
              clear hw6 hcc n3 n4 f3 f4
              by_cases hz0:e0=0
              · subst hz0
                have he0':(tokT (c::r)).2=0:=by rw [HE0.out]
                have HOK:=hid (tokT_ok he0')
                have htok:=fun n1 h=>HW.out.tok HD.out hb h35 (fun h=>(by rw [h.1] at hlet;cases hlet)) he0' n1 h
                rw [HTT.out] at htok HOK
                have HTOK:=hid htok
                obtain ⟨fn,tmps,assign,bod,hy,hR⟩:=HY.out pre ⟨t,line,col,0⟩ w6 (HJN.out _ HK6.out) (by rw [(HTOK.out _ rfl).hfull,List.length_append,List.length_append];simp;omega)
                have hy:(Instr.yield l #[.agg #[.int .i64 K,.string TX,.int .i64 M,.int .i64 line,.int .i64 col],.int .i64 0]).run Tryz.prog w6=.ok (.round l fn tmps assign bod) w6:=by
                  obtain ⟨a,b,d⟩:=HIT.out
                  rw [a,b,d];exact hy
                have HNB:=hid (show Bt≠B∧ptrAt B w6≠some Bt from by
                  obtain ⟨cs,e,z,hbx⟩:=HIW.out.box
                  have h1:=heap_lt hbx
                  have h2:ptrAt B w6=ptrAt B wr:=ptrAt_same ((HK6.out.blk hbx).trans hbx.symm)
                  refine ⟨by have:=HS3.out;omega,fun h=>?_⟩
                  rw [h2] at h
                  have:=(HIW.out.ptr Bt h).2
                  have:=HS3.out
                  omega)
                have kk:(K==3)=(t.kind==3):=by
                  rw [HIT.out.1,Bool.eq_iff_iff]
                  simp only [beq_iff_eq]
                  omega
                have hqb:at_+TX.size≤8192∧1≤TX.size:=by
                  have h1:=HOK.out
                  have h2:=drop_len HD.out
                  have h3:=HTX.out
                  have h4:=HOK.out.2.1
                  rw [List.length_cons] at h4
                  omega
                clear hK hTX hM htok
                as_aux_lemma=>
                  gi_wp2
                  refine hR.mono ?_
                  rintro e W7 (⟨rfl,hJ7,hk7,hb7,hB7⟩ | ⟨rfl,hJx⟩)
                  · have h7:=hk7.kept Bt _ _ _ HB6.out HNB.out.1 HNB.out.2
                    obtain ⟨c0,c1,-⟩:=blk5 h7
                    have HI7:=hid (HI6.out.out hk7 hb7 (hB7 HI6.out.box) hBs hne)
                    have HJ7:=hid hJ7
                    clear hJ7 hk7 hb7 hB7 h7 g0 g1 g2 g3 g4
                    cases h3:(t.kind==3) with
                    | true=>
                      rw [h3] at kk
                      have HW7:=hid (HTOK.out ((at_+t.text.length:Nat):Int) (by rw [h3];rfl))
                      rw [←HTX.out] at HW7
                      rw [h3] at HW7
                      clear h3
                      gi_wp2
                      exact ⟨⟨at_+TX.size,line,col+TX.size,true,((at_+TX.size:Nat):Int),first,_,rfl,rfl,by simp,by simp,HW7.out,HJ7.out,HI7.out⟩,by simp only [intOf];omega⟩
                    | false=>
                      rw [h3] at kk
                      have HW7:=hid (HTOK.out n0 (by rw [h3];rfl))
                      rw [←HTX.out] at HW7
                      rw [h3] at HW7
                      clear h3
                      gi_wp2
                      exact ⟨⟨at_+TX.size,line,col+TX.size,false,n0,first,_,rfl,rfl,rfl,by simp,HW7.out,HJ7.out,HI7.out⟩,by simp only [intOf];omega⟩
                  · have HF:=hid (show pre++[⟨t,line,col,0⟩] <+: scan L 1 1 false from ⟨_,((HTOK.out _ rfl).hfull).symm⟩)
                    have HJX:=hid hJx
                    clear hJx
                    gi_wp2
                    refine bodyPost_ret (results_none rfl _ _ _) rfl ?_
                    exact ⟨⟨_,rfl⟩,.inr ⟨_,HF.out,HJX.out⟩⟩
              · have hz1:((e0:Int) != 0)=true:=by simpa using hz0
                have HLAST:=hid (HW.out.last HD.out hb h35 (e:=e0) hz0 (.inr ⟨(fun h=>(by rw [h.1] at hlet;cases hlet)),HE0.out⟩))
                rw [HTT.out] at HLAST
                obtain ⟨fn,tmps,assign,bod,hy,hR⟩:=HY.out pre ⟨t,line,col,e0⟩ w6 (HJN.out _ HK6.out) (by rw [HLAST.out,List.length_append];simp)
                have hy:(Instr.yield l #[.agg #[.int .i64 K,.string TX,.int .i64 M,.int .i64 line,.int .i64 col],.int .i64 (e0:Int)]).run Tryz.prog w6=.ok (.round l fn tmps assign bod) w6:=by
                  obtain ⟨a,b,d⟩:=HIT.out
                  rw [a,b,d];exact hy
                skip
                clear hK hTX hM
                as_aux_lemma=>
                  gi_wp2
                  refine hR.mono ?_
                  rintro e W7 (⟨rfl,hJ7,-,-,-⟩ | ⟨rfl,hJx⟩)
                  · have h:J (scan L 1 1 false) W7:=by rw [HLAST.out];exact hJ7
                    have HF:=hid h
                    clear h hJ7
                    gi_wp2
                    refine bodyPost_ret (results_none rfl _ _ _) rfl ?_
                    exact ⟨⟨_,rfl⟩,.inl (by first | exact HF.out | exact ⟨_,rfl,HF.out⟩)⟩
                  · have HF:=hid (show pre++[⟨t,line,col,e0⟩] <+: scan L 1 1 false by rw [HLAST.out];exact List.prefix_rfl)
                    have HJX:=hid hJx
                    clear hJx
                    gi_wp2
                    refine bodyPost_ret (results_none rfl _ _ _) rfl ?_
                    exact ⟨⟨_,rfl⟩,.inr ⟨_,HF.out,HJX.out⟩⟩
    · have hlti:¬(at_:Int)<(s.size:Int):=by omega
      have hfin:J (scan L 1 1 false) wr:=by
        have h:=HW.out.hfull
        rw [List.drop_eq_nil_of_le (by omega),scan_nil,List.append_nil] at h
        rw [h];exact HJP.out
      have HF:=hid hfin
      clear hfin
      gi_wp2
      go_end0
      exact ⟨⟨_,rfl⟩,.inl HF.out⟩
/-
  The writing methods of the Builder that a teller holds (copyCheck's branch for a copied builder is not reached).
-/
open Go Go.RowKit Own
abbrev BT:TypeId:=65
/-- a teller: a struct around a Builder -/
abbrev TT:TypeId:=67
abbrev B8:TypeId:=5
abbrev BP:TypeId:=62
abbrev BU:TypeId:=164
abbrev BL:TypeId:=63
/-- the block in which a Builder's bytes lie -/
def bufOf (w:World) (b:Nat):Option Nat:=(w.cell? ⟨b,1,none⟩).bind Value.ownBlock
/-- what a Builder's methods leave as it was: all but it and its bytes -/
structure TelK (b:Nat) (w w':World):Prop where
 keep:KeepBut (fun k=>k=b∨bufOf w b=some k) w w'
 buf:∀ k,bufOf w' b=some k→bufOf w b=some k∨w.heap.size≤k
theorem TelK.refl (b:Nat) (w:World):TelK b w w:=⟨KeepBut.refl _ _,fun _ h=>.inl h⟩
theorem TelK.trans {b:Nat} {u v w:World} (h:TelK b u v) (k:TelK b v w):TelK b u w:=
 ⟨⟨k.keep.os.trans h.keep.os,k.keep.tape.trans h.keep.tape,k.keep.output.trans h.keep.output,Nat.le_trans h.keep.size k.keep.size,fun j hj hn=>by
  rw [k.keep.block j (Nat.lt_of_lt_of_le hj h.keep.size) (fun e=>e.elim (fun e=>hn (.inl e)) fun e=>(h.buf j e).elim (fun e=>hn (.inr e)) fun e=>by omega)]
  exact h.keep.block j hj hn⟩,fun j hj=>(k.buf j hj).elim (fun e=>h.buf j e) fun e=>.inr (Nat.le_trans h.keep.size e)⟩
theorem TelK.of_keep {b:Nat} {w w':World} (k:KeepBut (fun _=>False) w w') (hb:b<w.heap.size):TelK b w w':=
 ⟨k.mono fun _ h=>h.elim,fun j hj=>.inl (by
  unfold bufOf World.cell? at hj ⊢
  rw [k.block b hb fun e=>e] at hj
  exact hj)⟩
theorem TelK.of_keepB {b:Nat} {w w':World} (k:KeepBut (fun j=>j=b) w w') (hb:w'.cell? ⟨b,1,none⟩=w.cell? ⟨b,1,none⟩):TelK b w w':=
 ⟨k.mono fun _ h=>.inl h,fun j hj=>.inl (by
  unfold bufOf at hj ⊢
  rw [hb] at hj
  exact hj)⟩
theorem TelK.wrote {b:Nat} {w w2:World} {p v v':Value} {T:TypeId} (hb:w.heap[b]?=some (.cells #[p,v] T (0,0))) (hg:w.grownBy w2 v.ownBlock) (hb2:w2.heap[b]?=some (.cells #[p,v] T (0,0))) (hv:∀ k,v'.ownBlock=some k→v.ownBlock=some k∨w.heap.size≤k):
  TelK b w (w2.setCell ⟨b,1,none⟩ v'):=by
 have h1:bufOf w b=v.ownBlock:=by simp [bufOf,World.cell?,hb]
 have h3:=put1 (i:=1) hb2 v'
 have h2:bufOf (w2.setCell ⟨b,1,none⟩ v') b=v'.ownBlock:=by
  unfold bufOf World.cell?
  rw [h3]
  simp
 have k2:KeepBut (fun j=>j=b∨bufOf w b=some j) w w2:=⟨hg.os,hg.tape,hg.output,hg.size,fun j hj hn=>hg.block j hj fun e=>hn (.inr (by rw [h1];exact e.symm))⟩
 exact ⟨k2.trans (KeepBut.setCell _ _ _ (.inl rfl)),fun k hk=>by rw [h1];rw [h2] at hk;exact hv k hk⟩
theorem bt_info:∃ j,Tryz.prog.info? BT=some j∧j.size=2:=
 Option.map_eq_some_iff.1 (show (Tryz.prog.info? BT).map (·.size)=some 2 by kernel_rfl)
theorem tt_ne:TT≠B8:=by decide
theorem bp_ty:Tryz.prog.underlying BP=some (.pointer BT):=by kernel_rfl
theorem bu_ty:Tryz.prog.underlying BU=some .unsafePointer:=by kernel_rfl
theorem bl_ty:Tryz.prog.underlying BL=some (.slice B8):=by kernel_rfl
theorem bs_ty:Tryz.prog.underlying 9=some .string:=by kernel_rfl
theorem b8_info:∃ i,Tryz.prog.info? B8=some i∧i.zero=some (.int .u8 0)∧i.size=1∧i.bytes=1:=
 info_parts (show (Tryz.prog.info? B8).map (fun i=>(i.zero,i.size,i.bytes))=some (some (.int .u8 0),1,1) by kernel_rfl)
set_option maxHeartbeats 1000000 in
set_option maxRecDepth 100000 in
theorem bld_check_used (b:Nat) (w:World) (h0:w.cell? ⟨b,0,none⟩=some (.pointer (some ⟨b,0,none⟩))):
  Calls Tryz.prog 104 #[.pointer (some ⟨b,0,none⟩)] w fun e w'=>e=.returned (.tuple #[])∧w'=w:=by
 obtain ⟨j,hj,_⟩:=bt_info
 go_enter Tryz.func104,Tryz.ntmps104
 go_wp2
 rw [Lib.run_neq_ptr_same w _ bp_ty hj]
 go_wp2
 go_end0
 exact ⟨rfl,rfl⟩
set_option maxHeartbeats 1000000 in
set_option maxRecDepth 100000 in
theorem bld_check_fresh (b:Nat) (w:World) (h0:w.cell? ⟨b,0,none⟩=some (.pointer none)) (hsh:w.shape? b=some (TT,2)) (hfz:w.frozen? ⟨b,0,none⟩=false):
  Calls Tryz.prog 104 #[.pointer (some ⟨b,0,none⟩)] w fun e w'=>e=.returned (.tuple #[])∧w'=w.setCell ⟨b,0,none⟩ (.pointer (some ⟨b,0,none⟩)):=by
 obtain ⟨j,hj,hjs⟩:=bt_info
 have hl:liesAt Tryz.prog Tryz.prog.depth TT (2 / Tryz.prog.cellsOf TT) 0 BT 1=true:=by kernel_rfl
 go_enter Tryz.func104,Tryz.ntmps104
 go_wp2
 rw [Lib.run_to_unsafe w ⟨b,0,none⟩ bp_ty bu_ty hj (by rw [hjs];decide) hsh (Nat.zero_lt_succ 1)]
 simp only [Result.andThen]
 rw [Oper.upon_value]
 go_wp2
 rw [run_callFunc_extern Tryz.func121 (by kernel_rfl) (by kernel_rfl) (by kernel_rfl) (e:=Extern.AbiNoEscape.same) (by kernel_rfl)]
 rw [Lib.run_noEscape]
 simp only [Result.andThen]
 rw [Oper.upon_value]
 go_wp2
 rw [Lib.run_from_unsafe w ⟨b,0,none⟩ bu_ty bp_ty hj hsh hl]
 simp only [Result.andThen]
 rw [Oper.upon_value]
 go_wp2
 go_end0
 exact ⟨rfl,rfl⟩
theorem bld_check (B b:Nat) (bs:List Value) (w:World) (h:Lib.IsBuilderF TT B8 B b bs w):
  Calls Tryz.prog 104 #[.pointer (some ⟨b,0,none⟩)] w fun e w'=>e=.returned (.tuple #[])∧
   (Lib.BuilderAtF TT B8 B b (.pointer (some ⟨b,0,none⟩)) bs w'∧Below B w w'∧TelK b w w'):=by
 rcases h with h | h
 ·refine (bld_check_fresh b w h.cell0 h.shape h.frozen0).mono ?_
  rintro e w' ⟨rfl,rfl⟩
  exact ⟨rfl,h.used _,(Below.refl B w).setCell (p:=⟨b,0,none⟩) h.1 _,.of_keepB (KeepBut.setCell _ _ _ rfl) (by obtain ⟨_,v,hb,_⟩:=h;rw [blk_cell (put1 (i:=0) hb _) rfl,blk_cell hb rfl];rfl)⟩
 ·refine (bld_check_used b w h.cell0).mono ?_
  rintro e w' ⟨rfl,rfl⟩
  exact ⟨rfl,h,Below.refl B _,TelK.refl _ _⟩
set_option maxHeartbeats 2000000 in
set_option maxRecDepth 100000 in
theorem bld_byte (B b:Nat) (bs:List Value) (c:Int) (w:World) (h:Lib.IsBuilderF TT B8 B b bs w) (hlen:bs.length+1≤140737488355328) (hBw:B≤w.heap.size):
  Calls Tryz.prog 82 #[.pointer (some ⟨b,0,none⟩),.int .u8 c] w fun e w'=>e=.returned .nilIface∧
   (Lib.BuilderAtF TT B8 B b (.pointer (some ⟨b,0,none⟩)) (bs++[.int .u8 c]) w'∧Below B w w'∧TelK b w w'):=by
 obtain ⟨i0,hi,hz0,hz1,hz2⟩:=b8_info
 go_enter Tryz.func82,Tryz.ntmps82
 go_wp2_with (go_at_call 104;refine (bld_check B b bs _ h).mono ?_)
 rintro e w1 ⟨rfl,h1,hb1,hk1⟩
 obtain ⟨hB,v,hbk,hown,hne⟩:=h1
 have c0:w1.cell? ⟨b,0,none⟩=some (.pointer (some ⟨b,0,none⟩)):=by rw [Lib.cell_of_heap hbk];rfl
 have c1:w1.cell? ⟨b,1,none⟩=some v:=by rw [Lib.cell_of_heap hbk];rfl
 go_wp2_with (at_builtin;refine wpList_own_slice_at rfl _ _ BL rfl B B8 i0 (.int .u8 0) 1 1 bl_ty hi hz0 hz1 hz2 rfl (by decide) _ _ _ rfl (hown.alloc _) ⟨w1.heap.size,0,none⟩ 1 1 [.int .u8 c] rfl rfl ?c1 ?c2 ?c3 ?c4 ?c5 ?_)
 case c1=>
  intro j u hj
  match j,hj with
  | 0,hj=>simp at hj;subst hj;simp [Addr.add]
 case c2=>intro u hu;simp at hu;subst hu;rfl
 case c3=>unfold maxLen;omega
 case c4=>omega
 case c5=>have:=hb1.size;simp;omega
 intro v' w2 hown' hgrow hat
 have hlt:b<w1.heap.size:=by
  rcases Nat.lt_or_ge b w1.heap.size with h' | h'
  ·exact h'
  ·simp [Array.getElem?_eq_none h'] at hbk
 have hb2:w2.heap[b]?=some (.cells #[.pointer (some ⟨b,0,none⟩),v] TT (0,0)):=by
  rw [hgrow.block b (by simp;omega) (fun e=>hne e.symm),Lib.alloc_old w1 _ b hlt]
  exact hbk
 have d0:w2.cell? ⟨b,0,none⟩=some (.pointer (some ⟨b,0,none⟩)):=by rw [Lib.cell_of_heap hb2];rfl
 have d1:w2.cell? ⟨b,1,none⟩=some v:=by rw [Lib.cell_of_heap hb2];rfl
 have f1:w2.frozen? ⟨b,1,none⟩=false:=Lib.frozen_of_heap hb2 1
 obtain ⟨g,cap,rfl⟩:∃ g cap,v'=.slice (some ⟨g,0,none⟩) (bs.length+1) cap:=by
  rcases hown'.2 with ⟨_,h0⟩ | ⟨g,cap,cur,fz,hv,_⟩
  ·omega
  ·exact ⟨g,cap,hv⟩
 go_wp2
 go_ret
 refine ⟨rfl,?_,?_,hk1.trans ((TelK.of_keep (KeepBut.alloc _ _ _) hlt).trans (TelK.wrote ((Lib.alloc_old w1 _ b hlt).trans hbk) hgrow hb2 fun k hk=>(hat k hk).imp id fun e=>by simpa using e))⟩
 ·exact Lib.BuilderAtF.put (T:=TT) (e:=B8) hB hb2 (bs':=bs++[.int .u8 c]) (by simpa using hown') tt_ne
 ·exact ((hb1.alloc (by have:=hb1.size;omega) _).grown hgrow (by have:=hb1.size;simp;omega) (fun k hk=>(hown.lt k hk).1)).setCell (p:=⟨b,1,none⟩) hB _
set_option maxHeartbeats 2000000 in
set_option maxRecDepth 100000 in
theorem bld_str (B b:Nat) (bs:List Value) (s:ByteArray) (w:World) (h:Lib.IsBuilderF TT B8 B b bs w) (hlen:bs.length+s.size≤140737488355328) (hBw:B≤w.heap.size):
  Calls Tryz.prog 81 #[.pointer (some ⟨b,0,none⟩),.string s] w fun e w'=>e=.returned (.tuple #[.int .i64 s.size,.nilIface])∧
   (Lib.BuilderAtF TT B8 B b (.pointer (some ⟨b,0,none⟩)) (bs++Lib.strCells s) w'∧Below B w w'∧TelK b w w'):=by
 obtain ⟨i0,hi,hz0,hz1,hz2⟩:=b8_info
 go_enter Tryz.func81,Tryz.ntmps81
 go_wp2_with (go_at_call 104;refine (bld_check B b bs _ h).mono ?_)
 rintro e w1 ⟨rfl,h1,hb1,hk1⟩
 obtain ⟨hB,v,hbk,hown,hne⟩:=h1
 have c0:w1.cell? ⟨b,0,none⟩=some (.pointer (some ⟨b,0,none⟩)):=by rw [Lib.cell_of_heap hbk];rfl
 have c1:w1.cell? ⟨b,1,none⟩=some v:=by rw [Lib.cell_of_heap hbk];rfl
 go_wp2_with (at_builtin;refine wpList_own_string_at rfl _ _ BL 9 rfl B B8 i0 bl_ty bs_ty hi hz0 hz1 hz2 _ _ _ rfl hown s rfl ?c3 ?c4 ?c5 ?_)
 case c3=>unfold maxLen;omega
 case c4=>omega
 case c5=>have:=hb1.size;omega
 intro v' w2 hown' hgrow hat
 have hlt:b<w1.heap.size:=by
  rcases Nat.lt_or_ge b w1.heap.size with h' | h'
  ·exact h'
  ·simp [Array.getElem?_eq_none h'] at hbk
 have hb2:w2.heap[b]?=some (.cells #[.pointer (some ⟨b,0,none⟩),v] TT (0,0)):=by
  rw [hgrow.block b hlt (fun e=>hne e.symm)]
  exact hbk
 have d0:w2.cell? ⟨b,0,none⟩=some (.pointer (some ⟨b,0,none⟩)):=by rw [Lib.cell_of_heap hb2];rfl
 have d1:w2.cell? ⟨b,1,none⟩=some v:=by rw [Lib.cell_of_heap hb2];rfl
 have f1:w2.frozen? ⟨b,1,none⟩=false:=Lib.frozen_of_heap hb2 1
 obtain ⟨ao,n',cap,rfl⟩:∃ ao n' cap,v'=.slice ao n' cap:=by
  rcases hown'.2 with ⟨hv,_⟩ | ⟨g,cap,cur,fz,hv,_⟩
  ·exact ⟨_,_,_,hv⟩
  ·exact ⟨_,_,_,hv⟩
 go_wp2
 go_ret2
 refine ⟨rfl,?_,?_,hk1.trans (TelK.wrote hbk hgrow hb2 hat)⟩
 ·exact Lib.BuilderAtF.put (T:=TT) (e:=B8) hB hb2 (bs':=bs++Lib.strCells s) (by simpa [Lib.strCells_length] using hown') tt_ne
 ·exact (hb1.grown hgrow (by have:=hb1.size;omega) (fun k hk=>(hown.lt k hk).1)).setCell (p:=⟨b,1,none⟩) hB _
end Go.Proofs.YtomlffobbkcmdaaGreatDoor
