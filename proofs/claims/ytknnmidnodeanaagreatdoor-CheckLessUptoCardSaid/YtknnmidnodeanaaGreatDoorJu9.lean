import Derived.Test.YtknnmidnodeanaaGreatDoorJu8
import Derived.RangeFuncBound
import Derived.RangeFuncCalls
import Derived.RangeFuncLeaves
import Derived.Shelf.Abstract
import Derived.TacticsInMore
import Derived.LoopNIn
import Derived.LoopIn
import Derived.Sort.CutIn
set_option maxHeartbeats 16000000
set_option maxRecDepth 100000
namespace Go.Proofs.YtknnmidnodeanaaGreatDoor
open Go Go.RowKit Own Go.Shelf
open Go.Lib (hid)
attribute [local go_sem] Oper.semAt_some
structure Inv (B Bs:Nat)(s:ByteArray)(w0 W X:World):Prop where
 str:X.heap[Bs]?=some (.cells #[.string s] 9 (0,0))
 size:W.heap.size≤X.heap.size
 ptr:∀g,ptrAt B X=some g→W.heap.size≤g∧g<X.heap.size
 box:∃cs e z,X.heap[B]?=some (.cells cs e z)
 below:Below w0.heap.size w0 X
theorem Inv.grow {B Bs:Nat}{s:ByteArray}{w0 W X Y:World}(h:Inv B Bs s w0 W X)(k:BA (fun _=>False) X Y):Inv B Bs s w0 W Y:=by
 obtain⟨cs,e,z,hb⟩:=h.box;have hb2:=k.blk hb;have hp:ptrAt B Y=ptrAt B X:=ptrAt_same (hb2.trans hb.symm);exact⟨k.blk h.str,Nat.le_trans h.size k.size,fun g hg=>by have:=h.ptr g (by rw[←hp];exact hg);have:=k.size;omega,⟨cs,e,z,hb2⟩,h.below.trans (k.below.mono h.below.size)⟩
theorem Inv.out {B Bs:Nat}{s:ByteArray}{w0 W X Y:World}(h:Inv B Bs s w0 W X)(k:OutKp B X Y)(kb:Below w0.heap.size X Y)(kB:∃cs e z,Y.heap[B]?=some (.cells cs e z))(hBs:Bs<W.heap.size)(hne:Bs≠B):Inv B Bs s w0 W Y where
 str:=k.kept Bs _ _ _ h.str hne (fun e=>by have:=(h.ptr Bs e).1;omega)
 size:=Nat.le_trans h.size k.size
 ptr:=fun g hg=>by
  refine⟨?_,k.lt (fun g hg=>(h.ptr g hg).2) g hg⟩;rcases k.ptr with e|⟨g',e,hg'⟩
  ·exact(h.ptr g (by rw[←e];exact hg)).1
  ·rw[e]at hg;cases hg;have:=h.size;omega
 box:=kB
 below:=h.below.trans kb
theorem grown_of_keep {X Y:World}(k:BA (fun _=>False) X Y):X.grownBy Y none:=⟨k.os,k.tape,k.output,k.size,fun j hj _=>k.block j hj fun e=>e⟩
theorem extract_drop (s:ByteArray)(at_:Nat):(s.extract at_ s.size).data.toList=s.data.toList.drop at_:=by
 rw[ByteArray.data_extract];simp[List.take_of_length_le]
def encI (x:Item):Array Value:=#[tokV x.tok x.line x.col,.int .i64 x.err]
structure Where (L:List UInt8)(at_ line col:Nat)(num:Bool)(n0 first:Int)(pre:List Item):Prop where
 hle:at_≤L.length
 hfull:scan L 1 1 false=pre++scan (L.drop at_) line col num
 hfirst:first+col=at_+1
 hcol:1≤col
 hline:line≤at_+1
 hnum:(n0==(at_:Int))=num
 hn0:n0≤at_
 hpos:0≤first∧-1≤n0
section
variable {L : List UInt8}{at_ line col : Nat}{num : Bool}{n0 first : Int}{pre : List Item}{c : UInt8}{r : List UInt8}
theorem drop_len (hd:L.drop at_=c::r):at_+r.length+1=L.length:=by
 have:=congrArg List.length hd;rw[List.length_drop,LC]at this;omega
theorem drop_add (hd:L.drop at_=c::r)(k:Nat):L.drop (at_+k)=(c::r).drop k:=by rw[←hd,List.drop_drop]
theorem not_there {n0:Int}{m:Nat}(h:n0≤(at_:Int))(hm:at_<m):(n0==(m:Int))=false:=BF.2 (by omega)
theorem Where.nl (h:Where L at_ line col num n0 first pre)(hd:L.drop at_=10::r):Where L (at_+1) (line+1) 1 false n0 (at_+1:Nat) pre:=by
 have hl:=drop_len hd;have h2:=h.hfull;rw[hd,scan_nl]at h2;exact⟨by omega,by rw[drop_add hd];exact h2,by omega,by omega,by have:=h.hline;omega,not_there h.hn0 (by omega),by have:=h.hn0;omega,⟨by omega,h.hpos.2⟩⟩
theorem Where.blank (h:Where L at_ line col num n0 first pre)(hd:L.drop at_=c::r)(hb:blankB c=true)(hc:c≠10):Where L (at_+1) line (col+1) false n0 first pre:=by
 have hl:=drop_len hd;have h2:=h.hfull;rw[hd,scan_blank _ _ _ _ hb hc]at h2;exact⟨by omega,by rw[drop_add hd];exact h2,by have:=h.hfirst;omega,by omega,by have:=h.hline;omega,not_there h.hn0 (by omega),by have:=h.hn0;omega,h.hpos⟩
theorem Where.note (h:Where L at_ line col num n0 first pre)(hd:L.drop at_=35::r):Where L (at_+noteN (35::r)) line (col+noteN (35::r)) false n0 first pre:=by
 have hl:=drop_len hd;have h2:=h.hfull;have hp:=noteN_pos r;have hle:=noteN_le (35::r);rw[LC]at hle;rw[hd,scan_note]at h2;exact⟨by omega,by rw[drop_add hd];exact h2,by have:=h.hfirst;omega,by omega,by have:=h.hline;omega,not_there h.hn0 (by omega),by have:=h.hn0;omega,h.hpos⟩
theorem Where.tok (h:Where L at_ line col num n0 first pre)(hd:L.drop at_=c::r)(h1:blankB c=false)(h2:c≠35)(h3:¬(DB c=true∧num=true))(h4:(tokT (c::r)).2=0)(n1:Int)(hn1:n1=if (tokT (c::r)).1.kind==3 then ((at_+(tokT (c::r)).1.text.length:Nat):Int) else n0):
  Where L (at_+(tokT (c::r)).1.text.length) line (col+(tokT (c::r)).1.text.length) ((tokT (c::r)).1.kind==3) n1 first (pre++[⟨(tokT (c::r)).1,line,col,0⟩]):=by
 have hl:=drop_len hd;have hf:=h.hfull;rw[hd,scan_tok _ _ _ h1 h2 h3 h4]at hf;obtain⟨a,b,_⟩:=tokT_ok h4;rw[LC]at b;refine⟨by omega,by rw[drop_add hd,hf,List.append_assoc];rfl,by have:=h.hfirst;omega,by have:=h.hcol;omega,by have:=h.hline;omega,?_,?_,h.hpos.1,?_⟩
 ·subst hn1
  cases hk:((tokT (c::r)).1.kind==3)
  ·simp only[Bool.false_eq_true,if_false];exact not_there h.hn0 (by omega)
  ·simp
 ·subst hn1;have:=h.hn0;split<;>omega
 ·subst hn1;have:=h.hpos.2;split<;>omega
theorem Where.last (h:Where L at_ line col num n0 first pre)(hd:L.drop at_=c::r)(h1:blankB c=false)(h2:c≠35){e:Nat}(he:e≠0)(h3:(DB c=true∧num=true∧e=9)∨(¬(DB c=true∧num=true)∧(tokT (c::r)).2=e)):
  scan L 1 1 false=pre++[⟨(tokT (c::r)).1,line,col,e⟩]:=by
 have hf:=h.hfull;rw[hd]at hf;rcases h3 with⟨a,b,rfl⟩|⟨a,rfl⟩
 ·rw[scan_bad _ _ _ _ h1 h2 a b]at hf;exact hf
 ·rw[scan_err _ _ _ h1 h2 a he]at hf;exact hf
end
theorem scan1_in (n:Nat)(hn:1≤n)(l B Bs:Nat)(s:ByteArray)(w0 W:World)(hT:TabS w0)(hlen:s.size≤8192)(J Jx:List Item→World→Prop)(hJ:AbidesFrom W.heap.size J)(hBs:Bs<W.heap.size)(hne:Bs≠B)
    (hY:∀pre x W1,J pre W1→pre.length<(scan s.data.toList 1 1 false).length→YieldAt Fence.wide (n - 1) Tryz.prog l (encI x) W1 fun e W'=>
      (e=.returned (.bool true)∧J (pre++[x]) W'∧(OutKp B W1 W'∧Below w0.heap.size W1 W'∧((∃cs e z,W1.heap[B]?=some (.cells cs e z))→∃cs e z,W'.heap[B]?=some (.cells cs e z))))∨(e=.returned (.bool false)∧Jx (pre++[x]) W'))
    (hI:Inv B Bs s w0 W W) (h0:J [] W):
    CallsIn Fence.wide n Tryz.prog 103 #[.func (.yield l) #[] #[],.pointer (some ⟨Bs,0,none⟩)] W fun e W'=>(∃v,e=.returned v)∧
      ((∃ys,ys=scan s.data.toList 1 1 false∧J ys W')∨(∃pre,pre <+: scan s.data.toList 1 1 false∧Jx pre W')):=by
  have HJ:=hid hJ;have HY:=hid hY;have HI:=hid hI;have H0:=hid h0;have hsl:s.data.toList.length=s.size:=by simp
  obtain⟨L,hL⟩:∃L,s.data.toList=L:=⟨_,rfl⟩;rw[hL]at hsl HY ⊢;have HTB:=hid (Lib.tabBelow_of_tabIs hT);clear hJ hY hI h0 hT;refine callsIn_of_wp Tryz.func103 rfl trivial ?_ rfl;simp only[Tryz.ntmps103,List.size_toArray,LC,List.length_nil,Nat.reduceAdd,Nat.reduceSub,Array.replicate_succ,Array.replicate_zero,List.push_toArray,List.append_toArray,List.nil_append,List.cons_append]
  gi_upto_region 2 with fail
  gi_loopw [3,4,5,6] (fun v3 v4 v5 v6 wr=>∃(at_ line col:Nat) (num:Bool) (n0 first:Int) (pre:List Item),v3=.int .i64 line∧v4=.int .i64 first∧v5=.int .i64 n0∧v6=.int .i64 at_∧Where L at_ line col num n0 first pre∧J pre wr∧Inv B Bs s w0 W wr)
    (fun _ _ _ v6 _=>s.size - (intOf v6).toNat)
  case atStart=>exact⟨0,1,1,false,-1,0,[],rfl,rfl,rfl,rfl,⟨Nat.zero_le _,by simp,by decide,by decide,by decide,by decide,by decide,by decide⟩,H0.out,HI.out⟩
  case round=>
    obtain⟨at_,line,col,num,n0,first,pre,rfl,rfl,rfl,rfl,hW,hJp,hIw⟩:=hrel;have HW:=hid hW;have HJP:=hid hJp;have HIW:=hid hIw;have hstr:wr.cell? ⟨Bs,0,none⟩=some (.string s):=BH (k:=0) hIw.str rfl;have hle:=hW.hle;clear hW hJp hIw;by_cases hlt:at_<s.size
    · have hlti:(at_:Int)<(s.size:Int):=by omega
      have hat0:(0:Int)≤(at_:Int):=by omega
      obtain⟨c,r,hd⟩:∃c r,L.drop at_=c::r:=⟨_,_,List.drop_eq_getElem_cons (by omega)⟩
      have hix:∀h:at_<s.size,(s[at_]'h).toNat=c.toNat:=fun h=>by
        have e:s.data.toList.drop at_=c::r:=by rw[hL];exact hd
        rw[drop_at h]at e;have e2:=(List.cons.inj e).1;rw[←e2];simp[ByteArray.get!,h];rfl
      have hO:=hid (fun w=>of_int (c.toNat:Int) w);obtain⟨k,hk⟩:∃k,kindI (c.toNat:Int)=k:=⟨_,rfl⟩;rw[hk]at hO;have k1:(k==1)=blankB c:=by rw[←hk];exact kind_blank c
      have k2:(k==2)=(c==35):=by rw[←hk];exact kind_note c
      have k3:(k==3)=DB c:=by rw[←hk];exact kind_letter c
      have k4:(k==4)=DY c:=by rw[←hk];exact kind_digit c
      have hz:=hix hlt;have HJN:=hid (show ∀Y,BA (fun _=>False) wr Y→J pre Y from fun Y kk=>HJ.out pre wr Y none HJP.out (grown_of_keep kk) (fun r e=>by cases e));have HD:=hid hd;have hlin:=HW.out.hline;clear hk hd hix;obtain⟨W3,Bt,hW3,hBt,hbt,hk3,hs3⟩:=BD wr (.cells #[.int .i64 0,.string ⟨#[]⟩,.int .i64 0,.int .i64 0,.int .i64 0] 117);have HBT:=hid hbt;have HK3:=hid hk3;have HS3:=hid (show wr.heap.size=Bt∧Bt<W3.heap.size by omega);have hstr3:=hk3.stay hstr;clear hbt hk3 hs3
      gi_upto_region 4 with fail
      rw[←hW3,←hBt];clear hW3 hBt hstr
      cases hb:blankB c with
      | true=>
        rw[hb]at k1;by_cases h10:c=10
        · have e10:((c.toNat:Int)==10)=true:=by rw[h10];rfl
          have HW2:=hid (HW.out.nl (r:=r) (by rw[←h10];exact HD.out));clear k2 k3 k4 hb h10
          as_aux_lemma=>
            gi_wp2_with (refine⟨trivial,?_⟩;gi_at_call 62;refine(callsIn_wide.2 (hO.out _)).mono ?_;rintro e w' ⟨rfl,rfl⟩)
            exact⟨⟨at_+1,line+1,1,false,n0,(at_+1:Nat),pre,by simp,by simp,rfl,by simp,HW2.out,HJN.out _ HK3.out,HIW.out.grow HK3.out⟩,by simp only[intOf];omega⟩
        · have e10:((c.toNat:Int)==10)=false:=by
            rw[show ((c.toNat:Int)==10)=(c.toNat==10)from byte_beq c 10 (by decide)];simpa using fun h=>h10 (UInt8.toNat_inj.1 h)
          have HW2:=hid (HW.out.blank HD.out hb h10);clear k2 k3 k4 hb h10
          as_aux_lemma=>
            gi_wp2_with (refine⟨trivial,?_⟩;gi_at_call 62;refine(callsIn_wide.2 (hO.out _)).mono ?_;rintro e w' ⟨rfl,rfl⟩)
            exact⟨⟨at_+1,line,col+1,false,n0,first,pre,rfl,rfl,rfl,by simp,HW2.out,HJN.out _ HK3.out,HIW.out.grow HK3.out⟩,by simp only[intOf];omega⟩
      | false=>
        rw[hb]at k1;by_cases h35:c=35
        · have e35:(c==35)=true:=by rw[h35];rfl
          rw[e35]at k2;have HD2:=hid (show L.drop at_=35::r by rw[←h35];exact HD.out);obtain⟨q,hq⟩:∃q,noteN (35::r)=q:=⟨_,rfl⟩;have hsp:=fun w=>span2_any (s.extract at_ s.size) w;rw[extract_drop,hL,HD2.out,hq]at hsp;have HSP:=hid hsp;have hw2:=HW.out.note HD2.out;have hqp:=noteN_pos r;have hql:=noteN_le (35::r);rw[hq]at hw2 hqp hql;have hdl:=drop_len HD2.out;have HW2:=hid hw2;have hqs:at_+q≤s.size:=by rw[LC]at hql;omega
          clear k3 k4 hb h35 e35 hsp hw2 hql hdl hq
          as_aux_lemma=>
            gi_wp2_with (first
              |(refine⟨trivial,?_⟩;gi_at_call 62;refine(callsIn_wide.2 (hO.out _)).mono ?_;rintro e w' ⟨rfl,rfl⟩)
              |(refine⟨trivial,?_⟩;gi_at_call 104;refine(callsIn_wide.2 (HSP.out _)).mono ?_;rintro e w' ⟨rfl,rfl⟩))
            exact⟨⟨at_+q,line,col+q,false,n0,first,pre,rfl,rfl,rfl,by simp,HW2.out,HJN.out _ HK3.out,HIW.out.grow HK3.out⟩,by simp only[intOf];omega⟩
        · have e35:(c==35)=false:=by simpa using h35
          rw[e35]at k2
          cases hlet:DB c with
          | true=>
            rw[hlet]at k3
            cases hnm:num with
            | true=>
              obtain⟨t,ht⟩:∃t,(tokT (c::r)).1=t:=⟨_,rfl⟩;obtain⟨e0,he0⟩:∃e0,(tokT (c::r)).2=e0:=⟨_,rfl⟩;have HTT:=hid ht;have HE0:=hid he0
              have hfn:∀X,TabS X→Calls Tryz.prog 105 #[.string (s.extract at_ s.size)] X fun e w'=>e=.returned (.tuple #[.agg #[.int .i64 (t.kind:Int),.string ⟨t.text.toArray⟩,.int .i64 (t.num:Int),.int .i64 0,.int .i64 0],.int .i64 (e0:Int)])∧BA (fun _=>False) X w':=fun X hX=>by
                have h:=word_any (s.extract at_ s.size) X hX;rw[extract_drop,hL,HD.out,show wordT (c::r)=tokT (c::r) by rw[tokT_cons];exact(if_pos hlet).symm,ht,he0]at h;exact h
              have HFN:=hid hfn;have HT3:=hid (HTB.out _ (HIW.out.grow HK3.out).below);obtain⟨K,hK⟩:∃K:Int,(t.kind:Int)=K:=⟨_,rfl⟩;obtain⟨TX,hTX⟩:∃TX:ByteArray,(⟨t.text.toArray⟩:ByteArray)=TX:=⟨_,rfl⟩;obtain⟨M,hM⟩:∃M:Int,(t.num:Int)=M:=⟨_,rfl⟩;rw[hK,hTX,hM]at HFN;have HTX:=hid (show TX.size=t.text.length by rw[←hTX];rfl)
              have hnum2:((at_:Int)==n0)=true:=by
                have h:=HW.out.hnum;rw[hnm]at h;rw[←h,Bool.eq_iff_iff];simp only[beq_iff_eq];omega
              clear hfn ht he0
              gi_upto_region 19 with (first
                |(refine⟨trivial,?_⟩;gi_at_call 62;refine(callsIn_wide.2 (hO.out _)).mono ?_;rintro e w' ⟨rfl,rfl⟩)
                |( refine⟨trivial,?_⟩;gi_at_call 105;refine(callsIn_wide.2 (HFN.out _ HT3.out)).mono ?_;rintro e w4 ⟨rfl,hk4⟩
                   have HB4:=hid (hk4.blk HBT.out);obtain⟨n0',n1,n2,n3,n4,f0,f1,f2,f3,f4⟩:=blk5 HB4.out;have HK4:=hid (HK3.out.trans hk4);clear hk4))
              obtain⟨w5,hw5,hb5,hk5⟩:=put5 HB4.out (.int .i64 K) (.string TX) (.int .i64 M) (.int .i64 0) (.int .i64 0);rw[←hw5];clear hw5 n0' n1 n2 n3 n4 f0 f1 f2 f3 f4;obtain⟨-,-,-,n3,n4,-,-,-,f3,f4⟩:=blk5 hb5;have hb6:=put1 (i:=4) (put1 (i:=3) hb5 (.int .i64 line)) (.int .i64 col);have hk6:BA (fun k=>k=Bt) w5 ((w5.setCell ⟨Bt,3,none⟩ (.int .i64 line)).setCell ⟨Bt,4,none⟩ (.int .i64 col)):=(show BA (fun k=>k=Bt) _ _ from BA.setCell _ ⟨Bt,3,none⟩ _ rfl).trans (BA.setCell _ ⟨Bt,4,none⟩ _ rfl);have hcc:(at_:Int) - first+1=(col:Int):=by have:=HW.out.hfirst;omega
              obtain⟨w6,hw6⟩:∃w6,(w5.setCell ⟨Bt,3,none⟩ (.int .i64 line)).setCell ⟨Bt,4,none⟩ (.int .i64 col)=w6:=⟨_,rfl⟩;rw[hw6]at hb6 hk6;have HK6:=hid (HK4.out.new (E:=fun k=>k=Bt) (hk5.trans hk6) fun b hb=>by have h2:b=Bt:=hb;have:=HS3.out;omega);have HB6:=hid (show w6.heap[Bt]?=some (.cells #[.int .i64 K,.string TX,.int .i64 M,.int .i64 line,.int .i64 col] 117 (0,0))from hb6);have hpos:=HW.out.hpos;have hbnd:first≤at_∧(col:Int)≤at_+1:=by have:=HW.out.hfirst;have:=HW.out.hcol;omega
              have HI6:=hid (HIW.out.grow HK6.out);clear hb5 hk5 hb6 hk6
              gi_upto_region 20 with fail
              obtain⟨g0,g1,g2,g3,g4,-⟩:=blk5 HB6.out;have HIT:=hid (show K=(t.kind:Int)∧TX=⟨t.text.toArray⟩∧M=(t.num:Int) from⟨hK.symm,hTX.symm,hM.symm⟩);clear hw6 hcc n3 n4 f3 f4;have HLAST:=hid (HW.out.last HD.out hb h35 (e:=9) (by decide) (.inl ⟨hlet,hnm,rfl⟩));rw[HTT.out]at HLAST;obtain⟨fn,tmps,assign,bod,hy,hR⟩:=HY.out pre ⟨t,line,col,9⟩ w6 (HJN.out _ HK6.out) (by rw[HLAST.out,LA];simp)
              have hy:(Instr.yield l #[.agg #[.int .i64 K,.string TX,.int .i64 M,.int .i64 line,.int .i64 col],.int .i64 9]).run Tryz.prog w6=.ok (.round l fn tmps assign bod) w6:=by
                obtain⟨a,b,d⟩:=HIT.out;rw[a,b,d];exact hy
              skip
              clear hK hTX hM
              as_aux_lemma=>
                gi_wp2
                refine hR.mono ?_;rintro e W7 (⟨rfl,hJ7,-,-,-⟩|⟨rfl,hJx⟩)
                · have h:J (scan L 1 1 false) W7:=by rw[HLAST.out];exact hJ7
                  have HF:=hid h;clear h hJ7
                  gi_wp2
                  refine bodyPost_ret (results_none rfl _ _ _) rfl ?_;exact⟨⟨_,rfl⟩,.inl (by first|exact HF.out|exact⟨_,rfl,HF.out⟩)⟩
                · have HF:=hid (show pre++[⟨t,line,col,9⟩] <+: scan L 1 1 false by rw[HLAST.out];exact List.prefix_rfl);have HJX:=hid hJx;clear hJx
                  gi_wp2
                  refine bodyPost_ret (results_none rfl _ _ _) rfl ?_;exact⟨⟨_,rfl⟩,.inr ⟨_,HF.out,HJX.out⟩⟩
            | false=>
              obtain⟨t,ht⟩:∃t,(tokT (c::r)).1=t:=⟨_,rfl⟩;obtain⟨e0,he0⟩:∃e0,(tokT (c::r)).2=e0:=⟨_,rfl⟩;have HTT:=hid ht;have HE0:=hid he0
              have hfn:∀X,TabS X→Calls Tryz.prog 105 #[.string (s.extract at_ s.size)] X fun e w'=>e=.returned (.tuple #[.agg #[.int .i64 (t.kind:Int),.string ⟨t.text.toArray⟩,.int .i64 (t.num:Int),.int .i64 0,.int .i64 0],.int .i64 (e0:Int)])∧BA (fun _=>False) X w':=fun X hX=>by
                have h:=word_any (s.extract at_ s.size) X hX;rw[extract_drop,hL,HD.out,show wordT (c::r)=tokT (c::r) by rw[tokT_cons];exact(if_pos hlet).symm,ht,he0]at h;exact h
              have HFN:=hid hfn;have HT3:=hid (HTB.out _ (HIW.out.grow HK3.out).below);obtain⟨K,hK⟩:∃K:Int,(t.kind:Int)=K:=⟨_,rfl⟩;obtain⟨TX,hTX⟩:∃TX:ByteArray,(⟨t.text.toArray⟩:ByteArray)=TX:=⟨_,rfl⟩;obtain⟨M,hM⟩:∃M:Int,(t.num:Int)=M:=⟨_,rfl⟩;rw[hK,hTX,hM]at HFN;have HTX:=hid (show TX.size=t.text.length by rw[←hTX];rfl)
              have hnum2:((at_:Int)==n0)=false:=by
                have h:=HW.out.hnum;rw[hnm]at h;rw[←h,Bool.eq_iff_iff];simp only[beq_iff_eq];omega
              clear hfn ht he0
              gi_upto_region 19 with (first
                |(refine⟨trivial,?_⟩;gi_at_call 62;refine(callsIn_wide.2 (hO.out _)).mono ?_;rintro e w' ⟨rfl,rfl⟩)
                |( refine⟨trivial,?_⟩;gi_at_call 105;refine(callsIn_wide.2 (HFN.out _ HT3.out)).mono ?_;rintro e w4 ⟨rfl,hk4⟩
                   have HB4:=hid (hk4.blk HBT.out);obtain⟨n0',n1,n2,n3,n4,f0,f1,f2,f3,f4⟩:=blk5 HB4.out;have HK4:=hid (HK3.out.trans hk4);clear hk4))
              obtain⟨w5,hw5,hb5,hk5⟩:=put5 HB4.out (.int .i64 K) (.string TX) (.int .i64 M) (.int .i64 0) (.int .i64 0);rw[←hw5];clear hw5 n0' n1 n2 n3 n4 f0 f1 f2 f3 f4;obtain⟨-,-,-,n3,n4,-,-,-,f3,f4⟩:=blk5 hb5;have hb6:=put1 (i:=4) (put1 (i:=3) hb5 (.int .i64 line)) (.int .i64 col);have hk6:BA (fun k=>k=Bt) w5 ((w5.setCell ⟨Bt,3,none⟩ (.int .i64 line)).setCell ⟨Bt,4,none⟩ (.int .i64 col)):=(show BA (fun k=>k=Bt) _ _ from BA.setCell _ ⟨Bt,3,none⟩ _ rfl).trans (BA.setCell _ ⟨Bt,4,none⟩ _ rfl);have hcc:(at_:Int) - first+1=(col:Int):=by have:=HW.out.hfirst;omega
              obtain⟨w6,hw6⟩:∃w6,(w5.setCell ⟨Bt,3,none⟩ (.int .i64 line)).setCell ⟨Bt,4,none⟩ (.int .i64 col)=w6:=⟨_,rfl⟩;rw[hw6]at hb6 hk6;have HK6:=hid (HK4.out.new (E:=fun k=>k=Bt) (hk5.trans hk6) fun b hb=>by have h2:b=Bt:=hb;have:=HS3.out;omega);have HB6:=hid (show w6.heap[Bt]?=some (.cells #[.int .i64 K,.string TX,.int .i64 M,.int .i64 line,.int .i64 col] 117 (0,0))from hb6);have hpos:=HW.out.hpos;have hbnd:first≤at_∧(col:Int)≤at_+1:=by have:=HW.out.hfirst;have:=HW.out.hcol;omega
              have HI6:=hid (HIW.out.grow HK6.out);clear hb5 hk5 hb6 hk6
              gi_upto_region 20 with fail
              obtain⟨g0,g1,g2,g3,g4,-⟩:=blk5 HB6.out;have HIT:=hid (show K=(t.kind:Int)∧TX=⟨t.text.toArray⟩∧M=(t.num:Int) from⟨hK.symm,hTX.symm,hM.symm⟩);clear hw6 hcc n3 n4 f3 f4;by_cases hz0:e0=0
              · subst hz0;have he0':(tokT (c::r)).2=0:=by rw[HE0.out]
                have HOK:=hid (tokT_ok he0');have htok:=fun n1 h=>HW.out.tok HD.out hb h35 (fun h=>(by rw[h.2]at hnm;cases hnm)) he0' n1 h;rw[HTT.out]at htok HOK;have HTOK:=hid htok;obtain⟨fn,tmps,assign,bod,hy,hR⟩:=HY.out pre ⟨t,line,col,0⟩ w6 (HJN.out _ HK6.out) (by rw[(HTOK.out _ rfl).hfull,LA,LA];simp;omega)
                have hy:(Instr.yield l #[.agg #[.int .i64 K,.string TX,.int .i64 M,.int .i64 line,.int .i64 col],.int .i64 0]).run Tryz.prog w6=.ok (.round l fn tmps assign bod) w6:=by
                  obtain⟨a,b,d⟩:=HIT.out;rw[a,b,d];exact hy
                have HNB:=hid (show Bt≠B∧ptrAt B w6≠some Bt from by
                  obtain⟨cs,e,z,hbx⟩:=HIW.out.box;have h1:=heap_lt hbx;have h2:ptrAt B w6=ptrAt B wr:=ptrAt_same ((HK6.out.blk hbx).trans hbx.symm);refine⟨by have:=HS3.out;omega,fun h=>?_⟩;rw[h2]at h;have:=(HIW.out.ptr Bt h).2;have:=HS3.out;omega)
                have kk:(K==3)=(t.kind==3):=by
                  rw[HIT.out.1,Bool.eq_iff_iff];simp only[beq_iff_eq];omega
                have hqb:at_+TX.size≤8192∧1≤TX.size:=by
                  have h1:=HOK.out;have h2:=drop_len HD.out;have h3:=HTX.out;have h4:=HOK.out.2.1;rw[LC]at h4;omega
                clear hK hTX hM htok
                as_aux_lemma=>
                  gi_wp2
                  refine hR.mono ?_;rintro e W7 (⟨rfl,hJ7,hk7,hb7,hB7⟩|⟨rfl,hJx⟩)
                  · have h7:=hk7.kept Bt _ _ _ HB6.out HNB.out.1 HNB.out.2;obtain⟨c0,c1,-⟩:=blk5 h7;have HI7:=hid (HI6.out.out hk7 hb7 (hB7 HI6.out.box) hBs hne);have HJ7:=hid hJ7;clear hJ7 hk7 hb7 hB7 h7 g0 g1 g2 g3 g4
                    cases h3:(t.kind==3) with
                    | true=>
                      rw[h3]at kk;have HW7:=hid (HTOK.out ((at_+t.text.length:Nat):Int) (by rw[h3];rfl));rw[←HTX.out]at HW7;rw[h3]at HW7;clear h3
                      gi_wp2
                      exact⟨⟨at_+TX.size,line,col+TX.size,true,((at_+TX.size:Nat):Int),first,_,rfl,rfl,by simp,by simp,HW7.out,HJ7.out,HI7.out⟩,by simp only[intOf];omega⟩
                    | false=>
                      rw[h3]at kk;have HW7:=hid (HTOK.out n0 (by rw[h3];rfl));rw[←HTX.out]at HW7;rw[h3]at HW7;clear h3
                      gi_wp2
                      exact⟨⟨at_+TX.size,line,col+TX.size,false,n0,first,_,rfl,rfl,rfl,by simp,HW7.out,HJ7.out,HI7.out⟩,by simp only[intOf];omega⟩
                  · have HF:=hid (show pre++[⟨t,line,col,0⟩] <+: scan L 1 1 false from⟨_,((HTOK.out _ rfl).hfull).symm⟩);have HJX:=hid hJx;clear hJx
                    gi_wp2
                    refine bodyPost_ret (results_none rfl _ _ _) rfl ?_;exact⟨⟨_,rfl⟩,.inr ⟨_,HF.out,HJX.out⟩⟩
              · have hz1:((e0:Int) != 0)=true:=by simpa using hz0
                have HLAST:=hid (HW.out.last HD.out hb h35 (e:=e0) hz0 (.inr ⟨(fun h=>(by rw[h.2]at hnm;cases hnm)),HE0.out⟩));rw[HTT.out]at HLAST;obtain⟨fn,tmps,assign,bod,hy,hR⟩:=HY.out pre ⟨t,line,col,e0⟩ w6 (HJN.out _ HK6.out) (by rw[HLAST.out,LA];simp)
                have hy:(Instr.yield l #[.agg #[.int .i64 K,.string TX,.int .i64 M,.int .i64 line,.int .i64 col],.int .i64 (e0:Int)]).run Tryz.prog w6=.ok (.round l fn tmps assign bod) w6:=by
                  obtain⟨a,b,d⟩:=HIT.out;rw[a,b,d];exact hy
                skip
                clear hK hTX hM
                as_aux_lemma=>
                  gi_wp2
                  refine hR.mono ?_;rintro e W7 (⟨rfl,hJ7,-,-,-⟩|⟨rfl,hJx⟩)
                  · have h:J (scan L 1 1 false) W7:=by rw[HLAST.out];exact hJ7
                    have HF:=hid h;clear h hJ7
                    gi_wp2
                    refine bodyPost_ret (results_none rfl _ _ _) rfl ?_;exact⟨⟨_,rfl⟩,.inl (by first|exact HF.out|exact⟨_,rfl,HF.out⟩)⟩
                  · have HF:=hid (show pre++[⟨t,line,col,e0⟩] <+: scan L 1 1 false by rw[HLAST.out];exact List.prefix_rfl);have HJX:=hid hJx;clear hJx
                    gi_wp2
                    refine bodyPost_ret (results_none rfl _ _ _) rfl ?_;exact⟨⟨_,rfl⟩,.inr ⟨_,HF.out,HJX.out⟩⟩
          | false=>
            rw[hlet]at k3
            cases hdig:DY c with
            | true=>
              rw[hdig]at k4;obtain⟨t,ht⟩:∃t,(tokT (c::r)).1=t:=⟨_,rfl⟩;obtain⟨e0,he0⟩:∃e0,(tokT (c::r)).2=e0:=⟨_,rfl⟩;have HTT:=hid ht;have HE0:=hid he0
              have hfn:∀X,TabS X→Calls Tryz.prog 106 #[.string (s.extract at_ s.size)] X fun e w'=>e=.returned (.tuple #[.agg #[.int .i64 (t.kind:Int),.string ⟨t.text.toArray⟩,.int .i64 (t.num:Int),.int .i64 0,.int .i64 0],.int .i64 (e0:Int)])∧BA (fun _=>False) X w':=fun X hX=>by
                have h:=number_any (s.extract at_ s.size) c r (by rw[extract_drop,hL,HD.out]) hdig (by rw[ByteArray.size_extract];omega) X;rw[extract_drop,hL,HD.out,show numT (c::r)=tokT (c::r) by rw[tokT_cons];rw[if_neg (by rw[hlet];exact NT),if_pos hdig],ht,he0]at h;exact h
              have HFN:=hid hfn;have HT3:=hid (HTB.out _ (HIW.out.grow HK3.out).below);obtain⟨K,hK⟩:∃K:Int,(t.kind:Int)=K:=⟨_,rfl⟩;obtain⟨TX,hTX⟩:∃TX:ByteArray,(⟨t.text.toArray⟩:ByteArray)=TX:=⟨_,rfl⟩;obtain⟨M,hM⟩:∃M:Int,(t.num:Int)=M:=⟨_,rfl⟩;rw[hK,hTX,hM]at HFN;have HTX:=hid (show TX.size=t.text.length by rw[←hTX];rfl)
              skip
              clear hfn ht he0
              gi_upto_region 19 with (first
                |(refine⟨trivial,?_⟩;gi_at_call 62;refine(callsIn_wide.2 (hO.out _)).mono ?_;rintro e w' ⟨rfl,rfl⟩)
                |( refine⟨trivial,?_⟩;gi_at_call 106;refine(callsIn_wide.2 (HFN.out _ HT3.out)).mono ?_;rintro e w4 ⟨rfl,hk4⟩
                   have HB4:=hid (hk4.blk HBT.out);obtain⟨n0',n1,n2,n3,n4,f0,f1,f2,f3,f4⟩:=blk5 HB4.out;have HK4:=hid (HK3.out.trans hk4);clear hk4))
              obtain⟨w5,hw5,hb5,hk5⟩:=put5 HB4.out (.int .i64 K) (.string TX) (.int .i64 M) (.int .i64 0) (.int .i64 0);rw[←hw5];clear hw5 n0' n1 n2 n3 n4 f0 f1 f2 f3 f4;obtain⟨-,-,-,n3,n4,-,-,-,f3,f4⟩:=blk5 hb5;have hb6:=put1 (i:=4) (put1 (i:=3) hb5 (.int .i64 line)) (.int .i64 col);have hk6:BA (fun k=>k=Bt) w5 ((w5.setCell ⟨Bt,3,none⟩ (.int .i64 line)).setCell ⟨Bt,4,none⟩ (.int .i64 col)):=(show BA (fun k=>k=Bt) _ _ from BA.setCell _ ⟨Bt,3,none⟩ _ rfl).trans (BA.setCell _ ⟨Bt,4,none⟩ _ rfl);have hcc:(at_:Int) - first+1=(col:Int):=by have:=HW.out.hfirst;omega
              obtain⟨w6,hw6⟩:∃w6,(w5.setCell ⟨Bt,3,none⟩ (.int .i64 line)).setCell ⟨Bt,4,none⟩ (.int .i64 col)=w6:=⟨_,rfl⟩;rw[hw6]at hb6 hk6;have HK6:=hid (HK4.out.new (E:=fun k=>k=Bt) (hk5.trans hk6) fun b hb=>by have h2:b=Bt:=hb;have:=HS3.out;omega);have HB6:=hid (show w6.heap[Bt]?=some (.cells #[.int .i64 K,.string TX,.int .i64 M,.int .i64 line,.int .i64 col] 117 (0,0))from hb6);have hpos:=HW.out.hpos;have hbnd:first≤at_∧(col:Int)≤at_+1:=by have:=HW.out.hfirst;have:=HW.out.hcol;omega
              have HI6:=hid (HIW.out.grow HK6.out);clear hb5 hk5 hb6 hk6
              gi_upto_region 20 with fail
              obtain⟨g0,g1,g2,g3,g4,-⟩:=blk5 HB6.out;have HIT:=hid (show K=(t.kind:Int)∧TX=⟨t.text.toArray⟩∧M=(t.num:Int) from⟨hK.symm,hTX.symm,hM.symm⟩);clear hw6 hcc n3 n4 f3 f4;by_cases hz0:e0=0
              · subst hz0;have he0':(tokT (c::r)).2=0:=by rw[HE0.out]
                have HOK:=hid (tokT_ok he0');have htok:=fun n1 h=>HW.out.tok HD.out hb h35 (fun h=>(by rw[h.1]at hlet;cases hlet)) he0' n1 h;rw[HTT.out]at htok HOK;have HTOK:=hid htok;obtain⟨fn,tmps,assign,bod,hy,hR⟩:=HY.out pre ⟨t,line,col,0⟩ w6 (HJN.out _ HK6.out) (by rw[(HTOK.out _ rfl).hfull,LA,LA];simp;omega)
                have hy:(Instr.yield l #[.agg #[.int .i64 K,.string TX,.int .i64 M,.int .i64 line,.int .i64 col],.int .i64 0]).run Tryz.prog w6=.ok (.round l fn tmps assign bod) w6:=by
                  obtain⟨a,b,d⟩:=HIT.out;rw[a,b,d];exact hy
                have HNB:=hid (show Bt≠B∧ptrAt B w6≠some Bt from by
                  obtain⟨cs,e,z,hbx⟩:=HIW.out.box;have h1:=heap_lt hbx;have h2:ptrAt B w6=ptrAt B wr:=ptrAt_same ((HK6.out.blk hbx).trans hbx.symm);refine⟨by have:=HS3.out;omega,fun h=>?_⟩;rw[h2]at h;have:=(HIW.out.ptr Bt h).2;have:=HS3.out;omega)
                have kk:(K==3)=(t.kind==3):=by
                  rw[HIT.out.1,Bool.eq_iff_iff];simp only[beq_iff_eq];omega
                have hqb:at_+TX.size≤8192∧1≤TX.size:=by
                  have h1:=HOK.out;have h2:=drop_len HD.out;have h3:=HTX.out;have h4:=HOK.out.2.1;rw[LC]at h4;omega
                clear hK hTX hM htok
                as_aux_lemma=>
                  gi_wp2
                  refine hR.mono ?_;rintro e W7 (⟨rfl,hJ7,hk7,hb7,hB7⟩|⟨rfl,hJx⟩)
                  · have h7:=hk7.kept Bt _ _ _ HB6.out HNB.out.1 HNB.out.2;obtain⟨c0,c1,-⟩:=blk5 h7;have HI7:=hid (HI6.out.out hk7 hb7 (hB7 HI6.out.box) hBs hne);have HJ7:=hid hJ7;clear hJ7 hk7 hb7 hB7 h7 g0 g1 g2 g3 g4
                    cases h3:(t.kind==3) with
                    | true=>
                      rw[h3]at kk;have HW7:=hid (HTOK.out ((at_+t.text.length:Nat):Int) (by rw[h3];rfl));rw[←HTX.out]at HW7;rw[h3]at HW7;clear h3
                      gi_wp2
                      exact⟨⟨at_+TX.size,line,col+TX.size,true,((at_+TX.size:Nat):Int),first,_,rfl,rfl,by simp,by simp,HW7.out,HJ7.out,HI7.out⟩,by simp only[intOf];omega⟩
                    | false=>
                      rw[h3]at kk;have HW7:=hid (HTOK.out n0 (by rw[h3];rfl));rw[←HTX.out]at HW7;rw[h3]at HW7;clear h3
                      gi_wp2
                      exact⟨⟨at_+TX.size,line,col+TX.size,false,n0,first,_,rfl,rfl,rfl,by simp,HW7.out,HJ7.out,HI7.out⟩,by simp only[intOf];omega⟩
                  · have HF:=hid (show pre++[⟨t,line,col,0⟩] <+: scan L 1 1 false from⟨_,((HTOK.out _ rfl).hfull).symm⟩);have HJX:=hid hJx;clear hJx
                    gi_wp2
                    refine bodyPost_ret (results_none rfl _ _ _) rfl ?_;exact⟨⟨_,rfl⟩,.inr ⟨_,HF.out,HJX.out⟩⟩
              · have hz1:((e0:Int) != 0)=true:=by simpa using hz0
                have HLAST:=hid (HW.out.last HD.out hb h35 (e:=e0) hz0 (.inr ⟨(fun h=>(by rw[h.1]at hlet;cases hlet)),HE0.out⟩));rw[HTT.out]at HLAST;obtain⟨fn,tmps,assign,bod,hy,hR⟩:=HY.out pre ⟨t,line,col,e0⟩ w6 (HJN.out _ HK6.out) (by rw[HLAST.out,LA];simp)
                have hy:(Instr.yield l #[.agg #[.int .i64 K,.string TX,.int .i64 M,.int .i64 line,.int .i64 col],.int .i64 (e0:Int)]).run Tryz.prog w6=.ok (.round l fn tmps assign bod) w6:=by
                  obtain⟨a,b,d⟩:=HIT.out;rw[a,b,d];exact hy
                skip
                clear hK hTX hM
                as_aux_lemma=>
                  gi_wp2
                  refine hR.mono ?_;rintro e W7 (⟨rfl,hJ7,-,-,-⟩|⟨rfl,hJx⟩)
                  · have h:J (scan L 1 1 false) W7:=by rw[HLAST.out];exact hJ7
                    have HF:=hid h;clear h hJ7
                    gi_wp2
                    refine bodyPost_ret (results_none rfl _ _ _) rfl ?_;exact⟨⟨_,rfl⟩,.inl (by first|exact HF.out|exact⟨_,rfl,HF.out⟩)⟩
                  · have HF:=hid (show pre++[⟨t,line,col,e0⟩] <+: scan L 1 1 false by rw[HLAST.out];exact List.prefix_rfl);have HJX:=hid hJx;clear hJx
                    gi_wp2
                    refine bodyPost_ret (results_none rfl _ _ _) rfl ?_;exact⟨⟨_,rfl⟩,.inr ⟨_,HF.out,HJX.out⟩⟩
            | false=>
              rw[hdig]at k4;obtain⟨t,ht⟩:∃t,(tokT (c::r)).1=t:=⟨_,rfl⟩;obtain⟨e0,he0⟩:∃e0,(tokT (c::r)).2=e0:=⟨_,rfl⟩;have HTT:=hid ht;have HE0:=hid he0
              have hfn:∀X,TabS X→Calls Tryz.prog 107 #[.string (s.extract at_ s.size)] X fun e w'=>e=.returned (.tuple #[.agg #[.int .i64 (t.kind:Int),.string ⟨t.text.toArray⟩,.int .i64 (t.num:Int),.int .i64 0,.int .i64 0],.int .i64 (e0:Int)])∧BA (fun _=>False) X w':=fun X hX=>by
                have h:=sign_any (s.extract at_ s.size) c r (by rw[extract_drop,hL,HD.out]) X;rw[extract_drop,hL,HD.out,show signT (c::r)=tokT (c::r) by rw[tokT_cons];rw[if_neg (by rw[hlet];exact NT),if_neg (by rw[hdig];exact NT)],ht,he0]at h;exact h
              have HFN:=hid hfn;have HT3:=hid (HTB.out _ (HIW.out.grow HK3.out).below);obtain⟨K,hK⟩:∃K:Int,(t.kind:Int)=K:=⟨_,rfl⟩;obtain⟨TX,hTX⟩:∃TX:ByteArray,(⟨t.text.toArray⟩:ByteArray)=TX:=⟨_,rfl⟩;obtain⟨M,hM⟩:∃M:Int,(t.num:Int)=M:=⟨_,rfl⟩;rw[hK,hTX,hM]at HFN;have HTX:=hid (show TX.size=t.text.length by rw[←hTX];rfl)
              skip
              clear hfn ht he0
              gi_upto_region 19 with (first
                |(refine⟨trivial,?_⟩;gi_at_call 62;refine(callsIn_wide.2 (hO.out _)).mono ?_;rintro e w' ⟨rfl,rfl⟩)
                |( refine⟨trivial,?_⟩;gi_at_call 107;refine(callsIn_wide.2 (HFN.out _ HT3.out)).mono ?_;rintro e w4 ⟨rfl,hk4⟩
                   have HB4:=hid (hk4.blk HBT.out);obtain⟨n0',n1,n2,n3,n4,f0,f1,f2,f3,f4⟩:=blk5 HB4.out;have HK4:=hid (HK3.out.trans hk4);clear hk4))
              obtain⟨w5,hw5,hb5,hk5⟩:=put5 HB4.out (.int .i64 K) (.string TX) (.int .i64 M) (.int .i64 0) (.int .i64 0);rw[←hw5];clear hw5 n0' n1 n2 n3 n4 f0 f1 f2 f3 f4;obtain⟨-,-,-,n3,n4,-,-,-,f3,f4⟩:=blk5 hb5;have hb6:=put1 (i:=4) (put1 (i:=3) hb5 (.int .i64 line)) (.int .i64 col);have hk6:BA (fun k=>k=Bt) w5 ((w5.setCell ⟨Bt,3,none⟩ (.int .i64 line)).setCell ⟨Bt,4,none⟩ (.int .i64 col)):=(show BA (fun k=>k=Bt) _ _ from BA.setCell _ ⟨Bt,3,none⟩ _ rfl).trans (BA.setCell _ ⟨Bt,4,none⟩ _ rfl);have hcc:(at_:Int) - first+1=(col:Int):=by have:=HW.out.hfirst;omega
              obtain⟨w6,hw6⟩:∃w6,(w5.setCell ⟨Bt,3,none⟩ (.int .i64 line)).setCell ⟨Bt,4,none⟩ (.int .i64 col)=w6:=⟨_,rfl⟩;rw[hw6]at hb6 hk6;have HK6:=hid (HK4.out.new (E:=fun k=>k=Bt) (hk5.trans hk6) fun b hb=>by have h2:b=Bt:=hb;have:=HS3.out;omega);have HB6:=hid (show w6.heap[Bt]?=some (.cells #[.int .i64 K,.string TX,.int .i64 M,.int .i64 line,.int .i64 col] 117 (0,0))from hb6);have hpos:=HW.out.hpos;have hbnd:first≤at_∧(col:Int)≤at_+1:=by have:=HW.out.hfirst;have:=HW.out.hcol;omega
              have HI6:=hid (HIW.out.grow HK6.out);clear hb5 hk5 hb6 hk6
              gi_upto_region 20 with fail
              obtain⟨g0,g1,g2,g3,g4,-⟩:=blk5 HB6.out;have HIT:=hid (show K=(t.kind:Int)∧TX=⟨t.text.toArray⟩∧M=(t.num:Int) from⟨hK.symm,hTX.symm,hM.symm⟩);clear hw6 hcc n3 n4 f3 f4;by_cases hz0:e0=0
              · subst hz0;have he0':(tokT (c::r)).2=0:=by rw[HE0.out]
                have HOK:=hid (tokT_ok he0');have htok:=fun n1 h=>HW.out.tok HD.out hb h35 (fun h=>(by rw[h.1]at hlet;cases hlet)) he0' n1 h;rw[HTT.out]at htok HOK;have HTOK:=hid htok;obtain⟨fn,tmps,assign,bod,hy,hR⟩:=HY.out pre ⟨t,line,col,0⟩ w6 (HJN.out _ HK6.out) (by rw[(HTOK.out _ rfl).hfull,LA,LA];simp;omega)
                have hy:(Instr.yield l #[.agg #[.int .i64 K,.string TX,.int .i64 M,.int .i64 line,.int .i64 col],.int .i64 0]).run Tryz.prog w6=.ok (.round l fn tmps assign bod) w6:=by
                  obtain⟨a,b,d⟩:=HIT.out;rw[a,b,d];exact hy
                have HNB:=hid (show Bt≠B∧ptrAt B w6≠some Bt from by
                  obtain⟨cs,e,z,hbx⟩:=HIW.out.box;have h1:=heap_lt hbx;have h2:ptrAt B w6=ptrAt B wr:=ptrAt_same ((HK6.out.blk hbx).trans hbx.symm);refine⟨by have:=HS3.out;omega,fun h=>?_⟩;rw[h2]at h;have:=(HIW.out.ptr Bt h).2;have:=HS3.out;omega)
                have kk:(K==3)=(t.kind==3):=by
                  rw[HIT.out.1,Bool.eq_iff_iff];simp only[beq_iff_eq];omega
                have hqb:at_+TX.size≤8192∧1≤TX.size:=by
                  have h1:=HOK.out;have h2:=drop_len HD.out;have h3:=HTX.out;have h4:=HOK.out.2.1;rw[LC]at h4;omega
                clear hK hTX hM htok
                as_aux_lemma=>
                  gi_wp2
                  refine hR.mono ?_;rintro e W7 (⟨rfl,hJ7,hk7,hb7,hB7⟩|⟨rfl,hJx⟩)
                  · have h7:=hk7.kept Bt _ _ _ HB6.out HNB.out.1 HNB.out.2;obtain⟨c0,c1,-⟩:=blk5 h7;have HI7:=hid (HI6.out.out hk7 hb7 (hB7 HI6.out.box) hBs hne);have HJ7:=hid hJ7;clear hJ7 hk7 hb7 hB7 h7 g0 g1 g2 g3 g4
                    cases h3:(t.kind==3) with
                    | true=>
                      rw[h3]at kk;have HW7:=hid (HTOK.out ((at_+t.text.length:Nat):Int) (by rw[h3];rfl));rw[←HTX.out]at HW7;rw[h3]at HW7;clear h3
                      gi_wp2
                      exact⟨⟨at_+TX.size,line,col+TX.size,true,((at_+TX.size:Nat):Int),first,_,rfl,rfl,by simp,by simp,HW7.out,HJ7.out,HI7.out⟩,by simp only[intOf];omega⟩
                    | false=>
                      rw[h3]at kk;have HW7:=hid (HTOK.out n0 (by rw[h3];rfl));rw[←HTX.out]at HW7;rw[h3]at HW7;clear h3
                      gi_wp2
                      exact⟨⟨at_+TX.size,line,col+TX.size,false,n0,first,_,rfl,rfl,rfl,by simp,HW7.out,HJ7.out,HI7.out⟩,by simp only[intOf];omega⟩
                  · have HF:=hid (show pre++[⟨t,line,col,0⟩] <+: scan L 1 1 false from⟨_,((HTOK.out _ rfl).hfull).symm⟩);have HJX:=hid hJx;clear hJx
                    gi_wp2
                    refine bodyPost_ret (results_none rfl _ _ _) rfl ?_;exact⟨⟨_,rfl⟩,.inr ⟨_,HF.out,HJX.out⟩⟩
              · have hz1:((e0:Int) != 0)=true:=by simpa using hz0
                have HLAST:=hid (HW.out.last HD.out hb h35 (e:=e0) hz0 (.inr ⟨(fun h=>(by rw[h.1]at hlet;cases hlet)),HE0.out⟩));rw[HTT.out]at HLAST;obtain⟨fn,tmps,assign,bod,hy,hR⟩:=HY.out pre ⟨t,line,col,e0⟩ w6 (HJN.out _ HK6.out) (by rw[HLAST.out,LA];simp)
                have hy:(Instr.yield l #[.agg #[.int .i64 K,.string TX,.int .i64 M,.int .i64 line,.int .i64 col],.int .i64 (e0:Int)]).run Tryz.prog w6=.ok (.round l fn tmps assign bod) w6:=by
                  obtain⟨a,b,d⟩:=HIT.out;rw[a,b,d];exact hy
                skip
                clear hK hTX hM
                as_aux_lemma=>
                  gi_wp2
                  refine hR.mono ?_;rintro e W7 (⟨rfl,hJ7,-,-,-⟩|⟨rfl,hJx⟩)
                  · have h:J (scan L 1 1 false) W7:=by rw[HLAST.out];exact hJ7
                    have HF:=hid h;clear h hJ7
                    gi_wp2
                    refine bodyPost_ret (results_none rfl _ _ _) rfl ?_;exact⟨⟨_,rfl⟩,.inl (by first|exact HF.out|exact⟨_,rfl,HF.out⟩)⟩
                  · have HF:=hid (show pre++[⟨t,line,col,e0⟩] <+: scan L 1 1 false by rw[HLAST.out];exact List.prefix_rfl);have HJX:=hid hJx;clear hJx
                    gi_wp2
                    refine bodyPost_ret (results_none rfl _ _ _) rfl ?_;exact⟨⟨_,rfl⟩,.inr ⟨_,HF.out,HJX.out⟩⟩
    · have hlti:¬(at_:Int)<(s.size:Int):=by omega
      have hfin:J (scan L 1 1 false) wr:=by
        have h:=HW.out.hfull;rw[List.drop_eq_nil_of_le (by omega),scan_nil,List.append_nil]at h;rw[h];exact HJP.out
      have HF:=hid hfin;clear hfin
      gi_wp2
      go_end0
      exact⟨⟨_,rfl⟩,.inl HF.out⟩
open Go Go.RowKit Own
theorem upon_in {l n:Nat}{P:Program}{o:Oper}{a:Act}{K:Act→World→Prop}{Q:Exit→Act→World→Prop}:∀(r:Result Next),o.upon P a K Q r→o.uponIn (Fence.wide.inRound l) n P a K Q r
 |.ok (.value _) _,h=>h
 |.ok .skip _,h=>h
 |.ok (.defer _) _,h=>h
 |.ok (.enter f args) _,h=>⟨fun e=>(by cases e),CallsIn.inRound l (callsIn_wide.2 h)⟩
 | .ok (.row row args) _,h=>⟨fun e=>(by cases e),fun c cs _=>by
   obtain⟨v,w',r,s⟩:=h c cs;exact⟨v,w',r,stepsIn_wide.2 s⟩⟩
 |.ok (.round _ _ _ _ _) _,h=>h.elim
 |.halt x _,h=>by cases x<;>first|exact h|exact h.elim
theorem wpOp_in {l n:Nat}{P:Program}{ops:Array Oper}{Q:Exit→Act→World→Prop}(hd:∀o∈ops.toList,∀c,o.op≠.defer c)(hq:¬LetsOut Q)(i:Nat){K K':Act→World→Prop}(hK:∀a w,K a w→K' a w)(a:Act)(w:World)
  (h:wpOp P ops Q i K a w):wpOpIn (Fence.wide.inRound l) n P ops Q i K' a w:=by
 unfold wpOp at h;unfold wpOpIn
 cases ho:ops[i]? with
 |none=>rw[ho]at h;exact hK _ _ h
 | some o=>
  rw[ho]at h;simp only at h ⊢;by_cases hw:Region.wanted o (yielded ops a.tmps)=true
  ·rw[if_pos hw]at h ⊢;rcases h with h|h
   ·refine Oper.wpIn_mono hK (K:=K) ?_;refine⟨fun _ _=>trivial,?_⟩;rw[Oper.semAt_plain _ _ _ (hd o (List.mem_of_getElem? (by rw[Array.getElem?_toList];exact ho)))];exact upon_in _ h
   ·exact absurd h.2 hq
  ·rw[if_neg hw]at h ⊢;exact⟨fun _ _=>trivial,hK _ _ h⟩
theorem wpAny_in {l n:Nat}{P:Program}{md:Region.Mode}{ops:Array Oper}{Q:Exit→Act→World→Prop}(hd:∀o∈ops.toList,∀c,o.op≠.defer c)(hq:¬LetsOut Q):∀(fuel:Nat) (listed:Array Bool) (a:Act) (w:World),
  wpAny P md ops Q fuel listed a w→wpAnyIn (Fence.wide.inRound l) n P md ops Q fuel listed a w
 |0,_,_,_,h=>h
 |fuel+1,listed,a,w,⟨h0,h1⟩=>⟨h0,fun i hi=>wpOp_in hd hq i (fun a w h=>wpAny_in hd hq fuel _ a w h) a w (h1 i hi)⟩
def noDefer:Op→Bool
 |.defer _=>false
 |_=>true
theorem wpIn_own1 {l n:Nat}{P:Program}{L:List Oper}{Q:Exit→Act→World→Prop}{id:Nat}{a:Act}{w:World}(hm:P.follows .mixedOrders=true)(hd:(L.all fun o=>noDefer o.op)=true)(hq:¬LetsOut Q)
  (m:Nat) (x:Obj) (hx:w.heap[m]?=some x)
  (D av ea:Nat→List Nat) (keep:List Nat) (hok:okB L.toArray D av ea keep=true) (sp:Nat→Option Loud)
  (hlex:Lex P L.toArray w.drew (fun k=>k=m) sp av ea (fun a F Fp=>Done w.drew (fun k=>k=m) Q keep a F Fp) L 0 a (aside L.length m x) (asideFp L.length m)):(Code.region id L.toArray true).wpIn (Fence.wide.inRound l) n P Q a w:=by
 refine wpIn_region_any hm (wpAny_in (fun o ho c e=>by have:=List.all_eq_true.1 hd o ho;rw[e]at this;cases this) hq _ _ _ _ ?_);refine any_own (w:=w) D av ea keep hok sp (fun k=>k=m) (aside L.length m x) (asideFp L.length m) ?_ ?_ (fun j _=>aside_paid L.length m x w w.drew rfl hx j) ?_ hlex.out
 ·intro j hj;have hj':j<L.length:=by simpa using hj
  funext w';unfold aside;rw[if_neg (by omega)]
 ·intro j hj;have hj':j<L.length:=by simpa using hj
  funext w';unfold asideFp
  exact propext ⟨fun h=>by have:=h.1;omega,fun h=>h.elim⟩
 ·intro j k _ _ hjk b h1 h2;exact hjk (h1.1.trans h2.1.symm)
theorem lex_still {P:Program}{ops:Array Oper}{w0:World}{M:Nat→Prop}{sp:Nat→Option Loud}{av ea:Nat→List Nat}{Fin:Act→(Nat→World→Prop)→(Nat→Nat→Prop)→Prop}
  {o:Oper}{rest:List Oper}{i:Nat}{a:Act}{F:Nat→World→Prop}{Fp:Nat→Nat→Prop}(hw:Region.wanted o (yielded ops a.tmps)=true) (hs:sp i=none) (hv:∀w,BA M w0 w→(execOp a.eval o).run P w=.ok .skip w)
  (h:Lex P ops w0 M sp av ea Fin rest (i+1) (a.put o.dst undef) F Fp):Lex P ops w0 M sp av ea Fin (o::rest) i a F Fp:=by
 refine⟨?_⟩;rw[LexD,if_pos hw,hs];exact⟨undef,fun w hk=>.inr ⟨hv w hk,rfl⟩,h.out⟩
theorem Own.BA.below_one {b n₀:Nat}{W W':World}(h:BA (fun k=>k=b) W W')(h1:n₀≤b)(h2:n₀≤W.heap.size):Below n₀ W W':=
 ⟨h.os,h.tape,h.output,h.size,fun k hk=>h.block k (by omega) (fun e=>by have e2:k=b:=e;omega)⟩
theorem Own.BA.from_one {b B:Nat}{W W':World}{cs:Array Value}{e:TypeId}{z:Nat×Nat}(h:BA (fun k=>k=b) W W')(hb:W.heap[b]?=some (.cells cs e z)):KeepsFrom B W W':=
 ⟨h.size,fun k o _ hk ho=>(h.block k (AG.1 hk).1 (fun e2=>by have e3:k=b:=e2;subst e3;rw[hb]at hk;cases hk;cases ho)).trans hk⟩
theorem setCell_same {w:World}{b:Nat}{v:Value}{t:TypeId}{z:Nat×Nat}(h:w.heap[b]?=some (.cells #[v] t z)):w.setCell ⟨b,0,none⟩ v=w:=by
 have e:(w.setCell ⟨b,0,none⟩ v).heap=w.heap:=by
  apply Array.ext_getElem?;intro k;by_cases hk:k=b
  ·subst hk;obtain⟨hlt,he⟩:=AG.1 h;show (w.heap.modify k _)[k]?=_;rw[Array.getElem?_eq_getElem (by rw[Array.size_modify];exact hlt),Array.getElem_modify_self,he,h];rfl
  ·exact Below.heap_setCell _ _ _ k hk
 show ({ w with heap:=(w.setCell ⟨b,0,none⟩ v).heap }:World)=w;rw[e]
end Go.Proofs.YtknnmidnodeanaaGreatDoor
