import Derived.Laws.IdiomStrings
import Derived.Test.YtknnmidnodeanaaGreatDoorJu7
import Derived.Defers
import Derived.Recover
import Derived.RangeFuncBox
import Derived.RangeFuncNested
import Derived.OwnWalkIn
set_option maxHeartbeats 8000000
set_option maxRecDepth 100000
namespace Go.Proofs.YtknnmidnodeanaaGreatDoor
open Go Go.RowKit Own
open Go.Lib (hid)
theorem span2_any (s:ByteArray)(w:World):
  Calls Tryz.prog 104 #[.string s] w fun e w'=>e=.returned (.int .i64 (noteN s.data.toList:Nat))∧w'=w:=by
 have hI:=hid (fun w=>Tryz.strings_IndexByte s 10 w);have e:=idx_note s.data.toList;have hl:s.data.toList.length=s.size:=by simp
 rw[hl]at e;have e10:(10:Int).toNat.toUInt8=10:=rfl;rw[e10]at hI;obtain⟨I,hI'⟩:∃I,Lib.indexByte s.data.toList 10=I:=⟨_,rfl⟩;obtain⟨m,hm⟩:∃m,noteN s.data.toList=m:=⟨_,rfl⟩;rw[hI']at hI e;rw[hm]at e ⊢;clear hI' hm hl e10;by_cases h:m=s.size
 ·rw[if_pos h]at e;subst e;have HM:=hid h;clear h;go_enter Tryz.func104,Tryz.ntmps104;go_wp2_with (go_at_call 113;refine(hI.out _).mono ?_;rintro e w' ⟨rfl,rfl⟩);go_ret;exact⟨ret_int (by rw[HM.out]),rfl⟩
 ·rw[if_neg h]at e;have h0:(0:Int)≤I:=by omega
  have HE:=hid e;clear h e;go_enter Tryz.func104,Tryz.ntmps104;go_wp2_with (go_at_call 113;refine(hI.out _).mono ?_;rintro e w' ⟨rfl,rfl⟩);go_ret;exact⟨ret_int HE.out,rfl⟩
theorem conv_bytes (w:World)(S:ByteArray):∃W3 G cap,(convert 9 144 (.string S)).run Tryz.prog w=.ok (.slice (some ⟨G,0,none⟩) S.size cap) W3∧G=w.heap.size∧(∀j (h:j<S.data.size),W3.cell? ⟨G,j,none⟩=some (.int .u8 (S.data[j].toNat:Int)))∧BA (fun _=>False) w W3∧G<W3.heap.size:=by
 refine⟨_,_,_,run_bytes_of_string w 9 144 5 S Tryz.underlying9 Tryz.underlying144 Tryz.underlying5,rfl,fun j h=>?_,(BA.drew _ w).trans (BA.alloc _ _ _),?_⟩
 ·have hb:=heap_alloc_new w.drew (.cells (bytesRow S (grownCap w S.size 0 5)) 5 ((bytesRow S (grownCap w S.size 0 5)).size,(bytesRow S (grownCap w S.size 0 5)).size+1));have hb':(w.drew.alloc (.cells (bytesRow S (grownCap w S.size 0 5)) 5 ((bytesRow S (grownCap w S.size 0 5)).size,(bytesRow S (grownCap w S.size 0 5)).size+1))).heap[w.heap.size]?=_:=hb;simp only[World.cell?,hb'];simp[bytesRow_at S _ j h]
 ·rw[World.size_alloc];exact Nat.lt_succ_self _
theorem foldl_ge:∀(l:List UInt8) (acc:Nat),acc≤l.foldl (fun a c=>10 * a+(c.toNat - 48)) acc
 |[],acc=>Nat.le_refl _
 | c::l,acc=>by
  have:=foldl_ge l (10 * acc+(c.toNat - 48));simp only[List.foldl_cons];omega
theorem val10_take (l:List UInt8)(i:Nat):val10 (l.take i)≤val10 l:=by
 unfold val10;conv=>rhs;rw[←List.take_append_drop i l,List.foldl_append]
 exact foldl_ge _ _
theorem val10_step (l:List UInt8)(i:Nat)(h:i<l.length):val10 (l.take (i+1))=10 * val10 (l.take i)+(l[i].toNat - 48):=by
 unfold val10;rw[List.take_succ_eq_append_getElem h,List.foldl_append];rfl
theorem number_any (s:ByteArray)(c:UInt8)(r:List UInt8)(hs:s.data.toList=c::r)(hd:DY c=true)(hsz:s.size≤1099511627776)(w:World):
  Calls Tryz.prog 106 #[.string s] w fun e w'=>e=.returned (.tuple #[tokV (numT s.data.toList).1 0 0,.int .i64 (numT s.data.toList).2])∧BA (fun _=>False) w w':=by
 obtain⟨tx,htx⟩:∃tx,s.data.toList.takeWhile DY=tx:=⟨_,rfl⟩;obtain⟨m,hm⟩:∃m,tx.length=m:=⟨_,rfl⟩;have hsl:s.data.toList.length=s.size:=by simp
 have hms:m≤s.size:=by rw[←hm,←htx,←hsl];exact takeWhile_le _ _
 have het:s.extract 0 m=⟨tx.toArray⟩:=by rw[extract_take,←hm,←htx,takeWhile_take]
 have hcons:∃t,tx=c::t:=⟨_,by rw[←htx,hs,takeWhile_pos hd]⟩;obtain⟨W0,B,hW0,hB,hb,hk0,hs0⟩:=BD w (.cells #[.int .i64 0,.string ⟨#[]⟩,.int .i64 0,.int .i64 0,.int .i64 0] 117);have hS:=span_any DY digit_small 114 (enters_of Tryz.func114 (by kernel_rfl) rfl) isDigit_any s W0;rw[htx,hm]at hS;have HS:=hid hS;have HB:=hid hb;have HK:=hid hk0;have HN:=hid (show w.heap.size=B∧B<W0.heap.size by omega);have h0:(0:Int)≤m:=by omega
 have hmi:(m:Int)≤s.size:=by omega
 have HM:=hid hm;have HC:=hid hcons;have HDG:=hid (show ∀x∈tx,DY x=true from fun x hx=>takeWhile_all x (by rw[htx];exact hx))
 have hn:numT s.data.toList=if 1<tx.length∧c=48 then (Tok.zero,9) else if 9223372036854775807<val10 tx then (Tok.zero,3) else (⟨3,tx,val10 tx⟩,0):=by
  unfold numT;rw[htx,hs];simp
 have HE:=hid hn;clear hS hsl hb hk0 hs0 hms hm hcons hn htx hs;go_enter Tryz.func106,Tryz.ntmps106;go_upto_region 1 with fail;rw[←hW0,←hB];clear hW0 hB;go_upto_region 2 with (go_at_call 63;refine HS.out.mono ?_;rintro e w1 ⟨rfl,hk1⟩;have HB1:=hid (hk1.blk HB.out);have HK1:=hid hk1;clear hk1);obtain⟨W2,B4,hW2,hB4,hb4,hk2,-⟩:=BD w1 (.cells #[.int .i64 3,.string ⟨tx.toArray⟩,.int .i64 0,.int .i64 0,.int .i64 0] 117);rw[←hW2,←hB4];have HB4:=hid hb4;have HK2:=hid (HK1.out.trans hk2);have HL4:=hid (show W0.heap.size≤B4∧B<B4 by have:=HK1.out.size;have:=HN.out;omega);have n1:=(blk5 hb4).2.1;obtain⟨S,hS⟩:∃S:ByteArray,⟨tx.toArray⟩=S:=⟨_,rfl⟩;have HSS:=hid hS;have hSz:S.size=m:=by rw[←hS,←HM.out];rfl
 rw[hS]at n1 HB4 ⊢;clear hW2 hB4 hb4 hk2 het hS;obtain⟨q,hq⟩:∃q,decide (1<tx.length∧c=48)=q:=⟨_,rfl⟩;have HQ:=hid hq
 have hS0:∀h:0<S.size,(S[0]'h).toNat=c.toNat:=fun h=>by
  obtain⟨t,ht⟩:=HC.out;have e:S.data=(c::t).toArray:=by rw[←HSS.out,ht]
  have e2:S[0]'h=S.data[0]'h:=rfl;simp only[e2,e];rfl
 have HS0:=hid hS0;clear hq hS0;go_cut [22]from 13 to 49 (fun v22 wx=>v22=.bool q∧wx=W2)
 case first=>
  by_cases h1:1<m
  ·have h1i:(1:Int)<(m:Int):=by omega
   have hz:0<S.size:=by omega
   have hz2:0<m:=by omega
   have hz3:(0:Int)<(m:Int):=by omega
   have e0:=HS0.out hz
   have e1:((c.toNat:Int)==48)=q:=by
    rw[←HQ.out,show ((c.toNat:Int)==48)=(c.toNat==48)from byte_beq c 48 (by decide),HM.out,Bool.eq_iff_iff];simp only[h1,true_and,decide_eq_true_eq,beq_iff_eq];exact⟨fun h=>UInt8.toNat_inj.1 h,fun h=>by rw[h];rfl⟩
   go_wp2_with fail
   go_meet
   case rel=>exact⟨rfl,rfl⟩
  ·have h1i:¬(1:Int)<(m:Int):=by omega
   have e1:q=false:=by rw[←HQ.out,HM.out];simp[h1]
   go_wp2_with fail
   go_meet
   case rel=>exact⟨by rw[e1],rfl⟩
 case rest=>
  obtain⟨rfl,hww⟩:=hcut;have hww:=hww.symm;subst hww
  cases q with
  | true=>
   have HBB:=hid (HK2.out.blk HB.out);obtain⟨n0,n1',n2,n3,n4,f0,f1,f2,f3,f4⟩:=blk5 HBB.out;clear n1;go_wp2_with fail;obtain⟨wf,hwf,hp,hkp⟩:=put5 HBB.out (.int .i64 0) (.string ⟨#[]⟩) (.int .i64 0) (.int .i64 0) (.int .i64 0);rw[←hwf];obtain⟨c0,c1,c2,c3,c4,-⟩:=blk5 hp;refine bodyPost_ret (v:=.tuple #[.agg #[.int .i64 0,.string ⟨#[]⟩,.int .i64 0,.int .i64 0,.int .i64 0],.int .i64 9]) (by simp[results,Tryz.results106,go_sem,c0,c1,c2,c3,c4]) rfl ⟨by rw[HE.out,if_pos (of_decide_eq_true HQ.out)];rfl,?_⟩;exact(HK.out.trans HK2.out).new hkp fun k e=>by have h2:k=B:=e;have:=HN.out;omega
  | false=>
   obtain⟨W3,G,cap,hcv,hG,hcells,hk3,hG3⟩:=conv_bytes W2 S;go_upto_region 5 with fail;have HK3:=hid (HK2.out.trans hk3);have HB3:=hid (HK3.out.blk HB.out);have HB43:=hid (hk3.blk HB4.out);have HCE:=hid hcells;have HG:=hid (show B4<G by have:=(AG.1 HB4.out).1;omega);rw[←hG]
   have HTX:=hid (show ∀x∈tx,48≤x.toNat∧x.toNat≤57 from fun x hx=>by
    have:=HDG.out x hx;simpa [DY]using this)
   clear n1 hcv hcells hk3 hG3 hG;go_loopw [28] (fun v28 wr=>∃i:Nat,i≤m∧v28=.int .i64 i∧wr.heap[B4]?=some (.cells #[.int .i64 3,.string S,.int .i64 (val10 (tx.take i):Nat),.int .i64 0,.int .i64 0] 117 (0,0))∧BA (fun k=>k=B4) W3 wr∧val10 (tx.take i)≤9223372036854775807) (fun v _=>m - (intOf v).toNat)
   case atStart=>exact⟨0,Nat.zero_le _,rfl,HB43.out,BA.refl _ _,by simp[val10]⟩
   case round=>
    obtain⟨i,hi,rfl,hB4i,hki,hvi⟩:=hrel;have HB4i:=hid hB4i;have HKi:=hid hki;have HVi:=hid hvi;have HBi:=hid (BA.blkE hki HB3.out (fun e=>by have:=HL4.out;omega));obtain⟨m0,m1,m2,m3,m4,g0,g1,g2,g3,g4⟩:=blk5 hB4i;clear hB4i hki;by_cases hlt:i<m
    ·have hlti:(i:Int)<(m:Int):=by omega
     have hi0:(0:Int)≤(i:Int):=by omega
     obtain⟨b,hb⟩:∃b:Nat,(tx[i]'(by have:=HM.out;omega)).toNat=b:=⟨_,rfl⟩;have hbr:48≤b∧b≤57:=by rw[←hb];exact HTX.out _ (List.getElem_mem _)
     have hst:val10 (tx.take (i+1))=10 * val10 (tx.take i)+(b - 48):=by rw[val10_step tx i (by have:=HM.out;omega),hb]
     have hle:val10 (tx.take (i+1))≤val10 tx:=val10_take _ _
     have hcell:wr.cell? ⟨G,i,none⟩=some (.int .u8 (b:Int)):=by
      have hsz:i<S.data.size:=by have:=HM.out;have h2:=HSS.out;subst h2;simpa [this]using hlt
      have h:=HKi.out.cell (HCE.out i hsz) (by have:=HG.out;show ¬G=B4;omega);rw[h,←hb]
      congr 2
      have e:S.data=tx.toArray:=by rw[←HSS.out]
      simp only[e];rfl
     obtain⟨d,hd'⟩:∃d:Nat,b - 48=d:=⟨_,rfl⟩
     have hw1:IntKind.u8.wrap ((b:Int) - 48)=(d:Int):=by
      have e:(b:Int) - 48=(d:Int):=by omega
      rw[e];exact u8_in (by omega)
     have hw2:IntKind.i64.wrap (d:Int)=d:=IntWalk.i64_in _ (by omega);have hw3:IntKind.i64.wrap (9223372036854775807 - (d:Int))=9223372036854775807 - (d:Int):=IntWalk.i64_in _ (by omega);have hWi:IntKind.i64.wrap ((i:Int)+1)=((i+1:Nat):Int):=by rw[IntWalk.i64_in _ (by omega)];omega
     obtain⟨vv,hvv⟩:∃vv,val10 (tx.take i)=vv:=⟨_,rfl⟩;rw[hvv]at m2 hst hvi;rw[hd']at hst;have HST:=hid hst;have HLE:=hid hle;clear hle;by_cases hof:9223372036854775807<10 * vv+d
     ·clear hst hvi;have htest:(9223372036854775807 - (d:Int)) / 10<(vv:Int):=by omega
      obtain⟨n0,n1',n2,n3,n4,f0,f1,f2,f3,f4⟩:=blk5 HBi.out;have HOF:=hid (show 9223372036854775807<val10 tx by have:=HST.out;have:=HLE.out;omega);clear hof;go_wp2_with fail;obtain⟨wf,hwf,hp,hkp⟩:=put5 HBi.out (.int .i64 0) (.string ⟨#[]⟩) (.int .i64 0) (.int .i64 0) (.int .i64 0);rw[←hwf];obtain⟨c0,c1,c2,c3,c4,-⟩:=blk5 hp;refine bodyPost_ret (v:=.tuple #[.agg #[.int .i64 0,.string ⟨#[]⟩,.int .i64 0,.int .i64 0,.int .i64 0],.int .i64 3]) (by simp[results,Tryz.results106,go_sem,c0,c1,c2,c3,c4]) rfl ⟨?_,?_⟩
      ·rw[HE.out,if_neg (of_decide_eq_false HQ.out),if_pos HOF.out];rfl
      ·exact(HK.out.trans (HK3.out.new HKi.out fun k e=>by have h2:k=B4:=e;have:=HL4.out;omega)).new hkp fun k e=>by have h2:k=B:=e;have:=HN.out;omega
     ·clear hst;have htest:¬(9223372036854775807 - (d:Int)) / 10<(vv:Int):=by omega
      go_wp2_with fail;refine⟨⟨i+1,by omega,by simp,?_,?_,by rw[HST.out];omega⟩,by simp only[intOf];omega⟩
      ·rw[HST.out];have e:((10 * (vv:Int)+(d:Int)))=((10 * vv+d:Nat):Int):=by omega
       rw[e];exact put1 (i:=2) HB4i.out _
      ·exact HKi.out.trans (BA.setCell _ _ _ rfl)
    ·have hnl:¬(i:Int)<(m:Int):=by omega
     have HMI:=hid (show i=m by omega);obtain⟨n0,n1',n2,n3,n4,f0,f1,f2,f3,f4⟩:=blk5 HBi.out;go_wp2_with fail;obtain⟨wf,hwf,hp,hkp⟩:=put5 HBi.out (.int .i64 3) (.string S) (.int .i64 (val10 (tx.take i):Nat)) (.int .i64 0) (.int .i64 0);rw[←hwf];obtain⟨c0,c1,c2,c3,c4,-⟩:=blk5 hp;have htk:tx.take i=tx:=by rw[List.take_of_length_le];have:=HM.out;have:=HMI.out;omega
     refine bodyPost_ret (v:=.tuple #[.agg #[.int .i64 3,.string S,.int .i64 (val10 (tx.take i):Nat),.int .i64 0,.int .i64 0],.int .i64 0]) (by simp[results,Tryz.results106,go_sem,c0,c1,c2,c3,c4]) rfl ⟨?_,?_⟩
     ·rw[HE.out,if_neg (of_decide_eq_false HQ.out),if_neg (by have:=HVi.out;rw[htk]at this;omega),htk,←HSS.out];rfl
     ·exact(HK.out.trans (HK3.out.new HKi.out fun k e=>by have h2:k=B4:=e;have:=HL4.out;omega)).new hkp fun k e=>by have h2:k=B:=e;have:=HN.out;omega
def eqS:ByteArray:=⟨#[61,33,60,62]⟩
def sgS:ByteArray:=⟨#[43,45,42,47,37,40,41,123,125,91,93,59,44,61,60,62,33,38,124]⟩
theorem toByte (c:UInt8):((c.toNat:Int)).toNat.toUInt8=c:=by
 simp
theorem sign_any (s:ByteArray)(c:UInt8)(r:List UInt8)(hs:s.data.toList=c::r)(w:World):
  Calls Tryz.prog 107 #[.string s] w fun e w'=>e=.returned (.tuple #[tokV (signT s.data.toList).1 0 0,.int .i64 (signT s.data.toList).2])∧BA (fun _=>False) w w':=by
 have hsl:s.data.toList.length=s.size:=by simp
 have hsz:s.size=r.length+1:=by rw[←hsl,hs];rfl
 have hS0:∀h:0<s.size,(s[0]'h).toNat=c.toNat:=fun h=>by
  have e:s.data=(c::r).toArray:=by rw[←hs]
  have e2:s[0]'h=s.data[0]'h:=rfl;simp only[e2,e];rfl
 have hS1:∀d t,r=d::t→∀h:1<s.size,(s[1]'h).toNat=d.toNat:=fun d t hr h=>by
  have e:s.data=(c::d::t).toArray:=by rw[←hr,←hs]
  have e2:s[1]'h=s.data[1]'h:=rfl;simp only[e2,e];rfl
 have hI1:=hid (fun w=>Tryz.strings_IndexByte eqS (c.toNat:Int) w);have hI2:=hid (fun w=>Tryz.strings_IndexByte sgS (c.toNat:Int) w);rw[toByte]at hI1 hI2;have m1:=idx_mem eqS.data.toList c;have m2:=idx_mem sgS.data.toList c;obtain⟨J1,hJ1⟩:∃J,Lib.indexByte eqS.data.toList c=J:=⟨_,rfl⟩;obtain⟨J2,hJ2⟩:∃J,Lib.indexByte sgS.data.toList c=J:=⟨_,rfl⟩;rw[hJ1]at hI1 m1;rw[hJ2]at hI2 m2;obtain⟨W0,B,hW0,hB,hb,hk0,hs0⟩:=BD w (.cells #[.int .i64 0,.string ⟨#[]⟩,.int .i64 0,.int .i64 0,.int .i64 0] 117);have HB:=hid hb;have HK:=hid hk0;have HN:=hid (show w.heap.size=B∧B<W0.heap.size by omega);obtain⟨n0,n1,n2,n3,n4,f0,f1,f2,f3,f4⟩:=blk5 hb;have hz:0<s.size:=by omega
 have hzi:(0:Int)<(s.size:Int):=by omega
 have e0:=hS0 hz;obtain⟨g,hg⟩:∃g,signsL.contains c=g:=⟨_,rfl⟩;obtain⟨q,hq⟩:∃q,signN (c::r)=q:=⟨_,rfl⟩;have hql:=signN_le (c:=c) (r:=r);rw[hq]at hql;have HE:=hid (show signT s.data.toList=if g=true then (⟨4,s.data.toList.take q,0⟩,0) else (Tok.zero,9) by rw[hs,signT_cons,hg,hq])
 have hq2:(1<s.size∧(∃d t,r=d::t∧d=61)∧equalsL.contains c=true→q=2)∧(¬(1<s.size∧(∃d t,r=d::t∧d=61)∧equalsL.contains c=true)→q=1):=by
  rw[←hq]
  cases r with
  |nil=>exact⟨fun h=>(by obtain⟨_,⟨d,t,e,_⟩,_⟩:=h;cases e),fun _=>rfl⟩
  | cons d t=>
   simp only[signN];refine⟨fun h=>?_,fun h=>?_⟩
   ·obtain⟨_,⟨d',t',e,h1⟩,h2⟩:=h
    cases e;rw[if_pos ⟨h1,h2⟩]
   ·rw[if_neg];rintro⟨h1,h2⟩;exact h ⟨by rw[hsz];simp,⟨d,t,rfl,h1⟩,h2⟩
 have HET:=hid (extract_take s q);have hqi:(q:Int)≤s.size:=by rw[hsz];simp only[LC]at hql;omega
 have hq0:(0:Int)≤q:=by omega
 clear hsl hs hS0 hJ1 hJ2 hb hk0 hs0 hq;go_enter Tryz.func107,Tryz.ntmps107;go_upto_region 2 with fail;rw[←hW0,←hB];clear hW0 hB;go_cut [18]from 5 to 27 (fun v18 wx=>v18=.bool (decide (q=2))∧wx=W0)
 case first=>
  by_cases h1:1<s.size
  ·have h1i:(1:Int)<(s.size:Int):=by omega
   obtain⟨d,t,hr⟩:∃d t,r=d::t:=by
    cases r with
    |nil=>simp at hsz;omega
    |cons d t=>exact⟨d,t,rfl⟩
   have e1:=hS1 d t hr h1;by_cases hd:d=61
   ·have e2:((d.toNat:Int)==61)=true:=by rw[hd];rfl
    by_cases hc:equalsL.contains c=true
    ·have hj:(0:Int)≤J1:=m1.2 hc;have HQ:=hid (show q=2 by exact hq2.1 ⟨h1,⟨d,t,hr,hd⟩,hc⟩);clear hq2 m1 m2 hc;go_wp2_with (go_at_call 113;refine(hI1.out _).mono ?_;rintro e w' ⟨rfl,rfl⟩)
     go_meet
     case rel=>exact⟨by rw[HQ.out];first|rfl|(simp;done)|(simp;omega),rfl⟩
    ·have hj:J1<0:=by
      apply Classical.byContradiction;intro h;exact hc (m1.1 (by omega))
     have HQ:=hid (show q=1 by exact hq2.2 fun h=>hc h.2.2);clear hq2 m1 m2 hc;go_wp2_with (go_at_call 113;refine(hI1.out _).mono ?_;rintro e w' ⟨rfl,rfl⟩)
     go_meet
     case rel=>exact⟨by rw[HQ.out];first|rfl|(simp;done)|(simp;omega),rfl⟩
   ·have e2:((d.toNat:Int)==61)=false:=by
     rw[show ((d.toNat:Int)==61)=(d.toNat==61)from byte_beq d 61 (by decide)];simpa using fun h=>hd (UInt8.toNat_inj.1 h)
    have HQ:=hid (show q=1 by
     refine hq2.2 ?_;rintro⟨_,⟨d',t',e,h1⟩,_⟩;rw[hr]at e;cases e;exact hd h1)
    clear hq2 m1 m2 hd;go_wp2_with fail
    go_meet
    case rel=>exact⟨by rw[HQ.out];first|rfl|(simp;done)|(simp;omega),rfl⟩
  ·have h1i:¬(1:Int)<(s.size:Int):=by omega
   have HQ:=hid (show q=1 by exact hq2.2 fun h=>h1 h.1);clear hq2 m1 m2;go_wp2_with fail
   go_meet
   case rel=>exact⟨by rw[HQ.out];first|rfl|(simp;done)|(simp;omega),rfl⟩
 case rest=>
  obtain⟨rfl,hww⟩:=hcut;have hww:=hww.symm;subst hww;clear m1 hS1
  go_upto_if 18 with fail
  go_cut [4]from 5 to 27 (fun v4 wx=>v4=.int .i64 q∧wx=W0)
  case first=>
   by_cases h2:q=2
   ·have HQ:=hid h2;have hd2:decide (q=2)=true:=decide_eq_true h2;rw[hd2];clear hd2 h2 hq2;go_wp2_with fail
    go_meet
    case rel=>exact⟨by rw[HQ.out];rfl,rfl⟩
   ·have HQ:=hid (show q=1 from hq2.2 fun h=>h2 (hq2.1 h));have hd2:decide (q=2)=false:=decide_eq_false h2;rw[hd2];clear hd2 h2 hq2;go_wp2_with fail
    go_meet
    case rel=>exact⟨by rw[HQ.out];rfl,rfl⟩
  case rest=>
   obtain⟨rfl,hww⟩:=hcut;have hww:=hww.symm;subst hww;clear hq2
   cases g with
   | true=>
    have HE:=hid (show signT s.data.toList=(⟨4,s.data.toList.take q,0⟩,0) by have:=HE.out;simpa using this);have hj:¬J2<0:=by have:=m2.2 hg;omega
    have et:=HET.out;clear m2 hg;go_wp2_with (go_at_call 113;refine(hI2.out _).mono ?_;rintro e w' ⟨rfl,rfl⟩);obtain⟨wf,hwf,hp,hkp⟩:=put5 HB.out (.int .i64 4) (.string ⟨(s.data.toList.take q).toArray⟩) (.int .i64 0) (.int .i64 0) (.int .i64 0);rw[←hwf];obtain⟨c0,c1,c2,c3,c4,-⟩:=blk5 hp;refine bodyPost_ret (v:=.tuple #[.agg #[.int .i64 4,.string ⟨(s.data.toList.take q).toArray⟩,.int .i64 0,.int .i64 0,.int .i64 0],.int .i64 0]) (by simp[results,Tryz.results107,go_sem,c0,c1,c2,c3,c4]) rfl ⟨?_,?_⟩
    ·rw[HE.out];rfl
    ·exact HK.out.new hkp fun k e=>by have h2:k=B:=e;have:=HN.out;omega
   | false=>
    have HE:=hid (show signT s.data.toList=(Tok.zero,9) by have:=HE.out;simpa using this)
    have hj:J2<0:=by
     apply Classical.byContradiction;intro h;have:=m2.1 (by omega);rw[show sgS.data.toList.contains c=false from hg]at this;cases this
    clear m2 hg;go_wp2_with (go_at_call 113;refine(hI2.out _).mono ?_;rintro e w' ⟨rfl,rfl⟩);obtain⟨wf,hwf,hp,hkp⟩:=put5 HB.out (.int .i64 0) (.string ⟨#[]⟩) (.int .i64 0) (.int .i64 0) (.int .i64 0);rw[←hwf];obtain⟨c0,c1,c2,c3,c4,-⟩:=blk5 hp;refine bodyPost_ret (v:=.tuple #[.agg #[.int .i64 0,.string ⟨#[]⟩,.int .i64 0,.int .i64 0,.int .i64 0],.int .i64 9]) (by simp[results,Tryz.results107,go_sem,c0,c1,c2,c3,c4]) rfl ⟨?_,?_⟩
    ·rw[HE.out];rfl
    ·exact HK.out.new hkp fun k e=>by have h2:k=B:=e;have:=HN.out;omega
mutual
def exSize:Ex→Nat
 |.mk _ _ _ _ _ _ kids=>DU kids+1
def DU:List Ex→Nat
 |[]=>0
 |x::l=>exSize x+DU l
end
mutual
def exDeep:Ex→Nat
 |.mk _ _ _ _ _ _ kids=>deepL kids+1
def deepL:List Ex→Nat
 |[]=>0
 |x::l=>max (exDeep x) (deepL l)
end
theorem sizeL_take {l:List Ex}{i:Nat}(h:i<l.length):DU (l.take (i+1))=DU (l.take i)+exSize l[i]:=by
 induction l generalizing i with
 |nil=>cases h
 | cons x l ih=>
  cases i with
  |zero=>simp[DU]
  | succ i=>
   have h':i<l.length:=by simpa using h
   simp only[List.take_succ_cons,DU,List.getElem_cons_succ];rw[ih h'];omega
theorem deepL_take {l:List Ex}{i:Nat}(h:i<l.length):deepL (l.take (i+1))=max (deepL (l.take i)) (exDeep l[i]):=by
 induction l generalizing i with
 |nil=>cases h
 | cons x l ih=>
  cases i with
  |zero=>simp[deepL]
  | succ i=>
   have h':i<l.length:=by simpa using h
   simp only[List.take_succ_cons,deepL,List.getElem_cons_succ];rw[ih h'];omega
theorem size_mem {l:List Ex}{i:Nat}(h:i<l.length):exSize l[i]≤DU l:=by
 induction l generalizing i with
 |nil=>cases h
 | cons x l ih=>
  cases i with
  |zero=>simp[DU]
  | succ i=>
   have:=ih (i:=i) (by simpa using h);simp only[DU,List.getElem_cons_succ];omega
theorem sizeL_le {l:List Ex}(i:Nat):DU (l.take i)≤DU l:=by
 induction l generalizing i with
 |nil=>simp[DU]
 | cons x l ih=>
  cases i with
  |zero=>simp[DU]
  | succ i=>
   have:=ih i;simp only[List.take_succ_cons,DU];omega
mutual
theorem deep_le:∀x:Ex,exDeep x≤exSize x
 | .mk _ _ _ _ _ _ kids=>by
  unfold exDeep exSize;have:=deepL_le kids;omega
theorem deepL_le:∀l:List Ex,deepL l≤DU l
 |[]=>by simp[deepL]
 | x::l=>by
  unfold deepL DU;have:=deep_le x;have:=deepL_le l;omega
end
theorem len_size:∀l:List Ex,l.length≤DU l
 |[]=>by simp
 | x::l=>by
  have h1:1≤exSize x:=by cases x;unfold exSize;omega
  have:=len_size l;simp only[LC,DU];omega
theorem kids_get {w:World}{S:Nat→Prop}{p:Option Addr}:∀{l:List Ex}{j:Nat},CB w S p j l→∀i (h:i<l.length),∃g o vs,p=some ⟨g,o,none⟩∧(∀k v,vs[k]?=some v→w.cell? ⟨g,o+(j+i) * 7+k,none⟩=some v)∧ExAt w S vs l[i]
 | x::l,j,h,0,_=>by
  unfold CB at h;obtain⟨⟨g,o,vs,h1,_,h3,h4⟩,_⟩:=h;exact⟨g,o,vs,h1,h3,h4⟩
 | x::l,j,h,i+1,hi=>by
  unfold CB at h;obtain⟨g,o,vs,h1,h3,h4⟩:=kids_get h.2 i (by simpa using hi);refine⟨g,o,vs,h1,fun k v hk=>?_,h4⟩;rw[show j+(i+1)=j+1+i by omega];exact h3 k v hk
 |[],_,_,i,hi=>absurd hi (by simp)
theorem weigh_any:∀(n:Nat) (x:Ex),exSize x≤n→n≤1099511627776→∀(w:World) (S:Nat→Prop) (vs:List Value),ExAt w S vs x→
  Calls Tryz.prog 98 #[.agg vs.toArray] w fun e w'=>e=.returned (.tuple #[.int .i64 (exSize x),.int .i64 (exDeep x)])∧BA (fun _=>False) w w':=by
 intro n
 induction n with
 |zero=>intro x hx;cases x;unfold exSize at hx;omega
 | succ n ih=>
  intro x hx hn w S vs hex;have HIH:=hid ih;obtain⟨xk,xo,xn,xm,xl,xc,kids⟩:=x;have hu:=hex;unfold ExAt at hu;obtain⟨p,cap,rfl,hk⟩:=hu;obtain⟨S0,hS0⟩:∃S,strV xm=.string S:=⟨_,rfl⟩;have hsz:DU kids≤n:=by unfold exSize at hx;omega
  have hdp:=deepL_le kids;have e1:(exSize (.mk xk xo xn xm xl xc kids):Int)=(DU kids:Int)+1:=by unfold exSize;omega
  have e2:(exDeep (.mk xk xo xn xm xl xc kids):Int)=(deepL kids:Int)+1:=by unfold exDeep;omega
  rw[e1,e2,hS0];obtain⟨V,B,hV,hB,hb,hk0,hs0⟩:=BD w (.cells #[.int .i64 xk,.int .i64 xo,.int .i64 xn,.string S0,.slice p kids.length cap,.int .i64 xl,.int .i64 xc] TEx);obtain⟨n0,n1,n2,n3,n4,n5,n6,-⟩:=blk7 hb;have HKI:=hid (hk.keep hk0 fun _ _ e=>e);have HK0:=hid hk0;have HSZ:=hid hsz;have HN:=hid hn;have HDP:=hid hdp;have hkl:=len_size kids;have HKL:=hid hkl;clear hk hx hex hk0 hs0 hb ih hn hsz hdp e1 e2 hkl;go_enter Tryz.func98,Tryz.ntmps98;go_upto_region 1 with fail;rw[←hV,←hB];clear hV hB hS0;go_wp2_with fail;go_loopw [2,3,11] (fun v2 v3 v11 wr=>∃i:Nat,v2=.int .i64 (DU (kids.take i))∧v3=.int .i64 (deepL (kids.take i))∧v11=.int .i64 i∧i≤kids.length∧BA (fun _=>False) V wr) (fun _ _ v _=>kids.length - (intOf v).toNat)
  case atStart=>exact⟨0,rfl,rfl,rfl,Nat.zero_le _,BA.refl _ _⟩
  case round=>
   obtain⟨i,rfl,rfl,rfl,hi,hk⟩:=hrel;have HK:=hid hk;by_cases hlt:i<kids.length
   ·have hlti:(i:Int)<kids.length:=by omega
    have hi0:(0:Int)≤i:=by omega
    have hWi:IntKind.i64.wrap ((i:Int)+1)=(i:Int)+1:=IntWalk.i64_in _ (by have:=HKL.out;have:=HSZ.out;have:=HN.out;omega);obtain⟨g,o,vs,hp,hc,hex⟩:=kids_get (HKI.out.keep hk fun _ _ e=>e) i hlt;subst hp;rw[Nat.zero_add]at hc;obtain⟨yk,yo,yn,yS,yp,ym,yc,yl,ycl,rfl⟩:=DH hex;have x0:wr.cell? ⟨g,o+i * 7,none⟩=some (.int .i64 yk):=hc 0 _ rfl;have x1:=hc 1 _ rfl;have x2:=hc 2 _ rfl;have x3:=hc 3 _ rfl;have x4:=hc 4 _ rfl;have x5:=hc 5 _ rfl;have x6:=hc 6 _ rfl;obtain⟨W,C,hW,hC,hcb,hkc,hsc⟩:=BD wr (.cells #[.int .i64 yk,.int .i64 yo,.int .i64 yn,.string yS,.slice yp ym yc,.int .i64 yl,.int .i64 ycl] TEx);have hme:=size_mem hlt;have HCA:=hid (HIH.out kids[i] (by have:=HSZ.out;omega) (by have:=HN.out;omega) W S _ (hex.keep hkc fun _ _ e=>e));have HKC:=hid hkc;have hst:=sizeL_take hlt;have hdt:=deepL_take hlt;have hle:=sizeL_le (l:=kids) (i+1);have hdl:=deepL_le (kids.take (i+1));obtain⟨s1,hs1⟩:∃s,exSize kids[i]=s:=⟨_,rfl⟩;obtain⟨d1,hd1⟩:∃s,exDeep kids[i]=s:=⟨_,rfl⟩;obtain⟨s0,hs0⟩:∃s,DU (kids.take i)=s:=⟨_,rfl⟩;obtain⟨d0,hd0⟩:∃s,deepL (kids.take i)=s:=⟨_,rfl⟩;rw[hs1,hs0]at hst;rw[hd1,hd0]at hdt;rw[hs1,hd1]at HCA;rw[hs0,hd0];have hWs:IntKind.i64.wrap ((s0:Int)+s1)=(s0:Int)+s1:=IntWalk.i64_in _ (by have:=HSZ.out;have:=HN.out;omega);have HST:=hid hst;have HDT:=hid hdt;obtain⟨m0,m1,m2,m3,m4,m5,m6,-⟩:=blk7 hcb;clear hc hex hk hsc hcb hme hst hdt hle hdl hs1 hd1 hs0 hd0 hkc;go_upto_region 4 with fail;rw[←hW,←hC];clear hW hC x0 x1 x2 x3 x4 x5 x6;go_wp2_with (go_at_call 98;refine HCA.out.mono ?_;rintro e w5 ⟨rfl,hk5⟩;have HK5:=hid hk5;clear hk5);refine⟨⟨i+1,by rw[HST.out];simp,?_,by simp,by omega,(HK.out.trans HKC.out).trans HK5.out⟩,by simp only[intOf];omega⟩;rw[HDT.out];show Value.int _ _=_
    congr 1
    omega
   ·have hnl:¬(i:Int)<kids.length:=by omega
    have e:i=kids.length:=by omega
    rw[e,List.take_length];have hW1:IntKind.i64.wrap ((DU kids:Int)+1)=(DU kids:Int)+1:=IntWalk.i64_in _ (by have:=HSZ.out;have:=HN.out;omega);have hW2:IntKind.i64.wrap ((deepL kids:Int)+1)=(deepL kids:Int)+1:=IntWalk.i64_in _ (by have:=HSZ.out;have:=HN.out;have:=HDP.out;omega);clear hk e;go_wp2_with fail
    go_ret2
    exact⟨rfl,HK0.out.trans HK.out⟩
inductive Gx where
 |mk (kind op num:Int) (name:List UInt8) (line col:Int) (kids:List Gx)
mutual
def GAt (w:World)(S:Nat→Prop):List Value→Gx→Prop
 |vs,.mk k o n nm l c kids=>∃p cap,vs=[.int .i64 k,.int .i64 o,.int .i64 n,strV nm,.slice p kids.length cap,.int .i64 l,.int .i64 c]∧DC w S p 0 kids
def DC (w:World)(S:Nat→Prop)(p:Option Addr):Nat→List Gx→Prop
 |_,[]=>True
 |i,x::l=>(∃g o vs,p=some ⟨g,o,none⟩∧S g∧(∀j v,vs[j]?=some v→w.cell? ⟨g,o+i * 7+j,none⟩=some v)∧GAt w S vs x)∧DC w S p (i+1) l
end
mutual
theorem GAt.keepS {w w':World}{S S':Nat→Prop}(hk:∀b o v,S b→w.cell? ⟨b,o,none⟩=some v→w'.cell? ⟨b,o,none⟩=some v∧S' b):∀{vs:List Value}{e:Gx},GAt w S vs e→GAt w' S' vs e
 | vs,.mk kk o n nm l c kids,h=>by
  unfold GAt at h ⊢;obtain⟨p,cap,h1,h2⟩:=h;exact⟨p,cap,h1,DC.keepS hk h2⟩
theorem DC.keepS {w w':World}{S S':Nat→Prop}(hk:∀b o v,S b→w.cell? ⟨b,o,none⟩=some v→w'.cell? ⟨b,o,none⟩=some v∧S' b):∀{p:Option Addr}{i:Nat}{l:List Gx},DC w S p i l→DC w' S' p i l
 |p,i,[],_=>by unfold DC;trivial
 | p,i,x::l,h=>by
  unfold DC at h ⊢;obtain⟨⟨g,o,vs,h1,h2,h3,h4⟩,h5⟩:=h
  have hv:∃v,vs[0]?=some v:=by
   cases x with
   | mk k o n nm l c kids=>
    unfold GAt at h4;obtain⟨p,cap,h6,-⟩:=h4;exact⟨_,by rw[h6];rfl⟩
  obtain⟨v0,hv0⟩:=hv;exact⟨⟨g,o,vs,h1,(hk g _ _ h2 (h3 0 v0 hv0)).2,fun j v hj=>(hk g _ _ h2 (h3 j v hj)).1,GAt.keepS hk h4⟩,DC.keepS hk h5⟩
end
theorem GAt.keep {E:Nat→Prop}{w w':World}{S:Nat→Prop}(k:BA E w w')(hE:∀b,S b→¬E b){vs:List Value}{e:Gx}(h:GAt w S vs e):GAt w' S vs e:=
 h.keepS fun b _ _ hb hc=>⟨k.cell hc (hE b hb),hb⟩
theorem GAt.inHeap {w:World}{S:Nat→Prop}{vs:List Value}{e:Gx}(h:GAt w S vs e):GAt w (fun b=>S b∧b<w.heap.size) vs e:=
 h.keepS fun _ _ _ hb hc=>⟨hc,hb,World.block_lt_of_cell? w _ hc⟩
theorem GAt.mono {w:World}{S S':Nat→Prop}(hS:∀b,S b→S' b){vs:List Value}{e:Gx}(h:GAt w S vs e):GAt w S' vs e:=
 h.keepS fun _ _ _ hb hc=>⟨hc,hS _ hb⟩
theorem DC.mono {w:World}{S S':Nat→Prop}(hS:∀b,S b→S' b){p:Option Addr}{i:Nat}{l:List Gx}(h:DC w S p i l):DC w S' p i l:=
 h.keepS fun _ _ _ hb hc=>⟨hc,hS _ hb⟩
theorem DC.keep {E:Nat→Prop}{w w':World}{S:Nat→Prop}(k:BA E w w')(hE:∀b,S b→¬E b){p:Option Addr}{i:Nat}{l:List Gx}(h:DC w S p i l):DC w' S p i l:=
 h.keepS fun b _ _ hb hc=>⟨k.cell hc (hE b hb),hb⟩
mutual
def FA:Gx→Nat
 |.mk _ _ _ _ _ _ kids=>CV kids+1
def CV:List Gx→Nat
 |[]=>0
 |x::l=>FA x+CV l
end
mutual
def gDeep:Gx→Nat
 |.mk _ _ _ _ _ _ kids=>gDeepL kids+1
def gDeepL:List Gx→Nat
 |[]=>0
 |x::l=>max (gDeep x) (gDeepL l)
end
theorem gsize_mem {l:List Gx}{i:Nat}(h:i<l.length):FA l[i]≤CV l:=by
 induction l generalizing i with
 |nil=>cases h
 | cons x l ih=>
  cases i with
  |zero=>simp[CV]
  | succ i=>
   have:=ih (i:=i) (by simpa using h);simp only[CV,List.getElem_cons_succ];omega
theorem glen_size:∀l:List Gx,l.length≤CV l
 |[]=>by simp
 | x::l=>by
  have h1:1≤FA x:=by cases x;unfold FA;omega
  have:=glen_size l;simp only[LC,CV];omega
theorem gkids_get {w:World}{S:Nat→Prop}{p:Option Addr}:∀{l:List Gx}{j:Nat},DC w S p j l→∀i (h:i<l.length),∃g o vs,p=some ⟨g,o,none⟩∧(∀k v,vs[k]?=some v→w.cell? ⟨g,o+(j+i) * 7+k,none⟩=some v)∧GAt w S vs l[i]
 | x::l,j,h,0,_=>by
  unfold DC at h;obtain⟨⟨g,o,vs,h1,_,h3,h4⟩,_⟩:=h;exact⟨g,o,vs,h1,h3,h4⟩
 | x::l,j,h,i+1,hi=>by
  unfold DC at h;obtain⟨g,o,vs,h1,h3,h4⟩:=gkids_get h.2 i (by simpa using hi);refine⟨g,o,vs,h1,fun k v hk=>?_,h4⟩;rw[show j+(i+1)=j+1+i by omega];exact h3 k v hk
 |[],_,_,i,hi=>absurd hi (by simp)
theorem g_form {w:World}{S:Nat→Prop}{vs:List Value}{x:Gx}(h:GAt w S vs x):∃k o n S2 p m c l cl,vs=[.int .i64 k,.int .i64 o,.int .i64 n,.string S2,.slice p m c,.int .i64 l,.int .i64 cl]:=by
 cases x with
 | mk k o n nm l c kids=>
  unfold GAt at h;obtain⟨p,cap,h1,-⟩:=h;exact⟨_,_,_,_,_,_,_,_,_,h1⟩
mutual
def toG:Ex→Gx
 |.mk k o n nm l c ks=>.mk k o n nm l c (toGL ks)
def toGL:List Ex→List Gx
 |[]=>[]
 |x::l=>toG x::toGL l
end
theorem toGL_len:∀l:List Ex,(toGL l).length=l.length
 |[]=>rfl
 |x::l=>by unfold toGL;simp[toGL_len l]
mutual
theorem ExAt.toG {w:World}{S:Nat→Prop}:∀{vs:List Value}{x:Ex},ExAt w S vs x→GAt w S vs (toG x)
 | vs,.mk k o n nm l c ks,h=>by
  unfold ExAt at h;obtain⟨p,cap,h1,h2⟩:=h;unfold Go.Proofs.YtknnmidnodeanaaGreatDoor.toG GAt;exact⟨p,cap,by rw[toGL_len];exact h1,CB.toG h2⟩
theorem CB.toG {w:World}{S:Nat→Prop}:∀{p:Option Addr}{i:Nat}{l:List Ex},CB w S p i l→DC w S p i (toGL l)
 |p,i,[],_=>by unfold toGL DC;trivial
 | p,i,x::l,h=>by
  unfold CB at h;obtain⟨⟨g,o,vs,h1,h2,h3,h4⟩,h5⟩:=h;unfold toGL DC;exact⟨⟨g,o,vs,h1,h2,h3,ExAt.toG h4⟩,CB.toG h5⟩
end
theorem box_put3' {w:World}{B:Nat}{a b c d e:Value}{T:TypeId}(h:w.heap[B]?=some (.cells #[a,b,c,d,e] T (0,0)))(v:Value):∃w',w'=w.setCell ⟨B,3,none⟩ v∧w'.heap[B]?=some (.cells #[a,b,c,v,e] T (0,0))∧BA (fun k=>k=B) w w':=by
 have h0:=put1 (i:=3) h v;simp only[LS]at h0;exact⟨_,rfl,h0,BA.setCell _ _ _ rfl⟩
theorem box_put4' {w:World}{B:Nat}{a b c d e:Value}{T:TypeId}(h:w.heap[B]?=some (.cells #[a,b,c,d,e] T (0,0)))(v:Value):∃w',w'=w.setCell ⟨B,4,none⟩ v∧w'.heap[B]?=some (.cells #[a,b,c,d,v] T (0,0))∧BA (fun k=>k=B) w w':=by
 have h0:=put1 (i:=4) h v;simp only[LS]at h0;exact⟨_,rfl,h0,BA.setCell _ _ _ rfl⟩
theorem behind_any (s:ByteArray)(hs:s.size≤1000000)(w:World):
  Calls Tryz.prog 75 #[.string s] w fun e w'=>∃el ec:Nat,e=.returned (.agg #[.int .i64 0,.string ⟨#[]⟩,.int .i64 0,.int .i64 el,.int .i64 ec])∧BA (fun _=>False) w w':=by
 obtain⟨V1,B,hV1,hB,hb,hk1,hs1⟩:=BD w (.cells #[.int .i64 0,.string ⟨#[]⟩,.int .i64 0,.int .i64 0,.int .i64 0] TTk);obtain⟨V,C,hV,hC,hc,hk2,hs2⟩:=BD V1 (.cells #[.int .i64 0,.string ⟨#[]⟩,.int .i64 0,.int .i64 1,.int .i64 1] TTk);obtain⟨W3,G,cap,hcv,hG,hby,hk3,-⟩:=conv_bytes V s;have hBC:B+1=C:=by omega
 have HK:=hid ((hk1.trans hk2).trans hk3);have HB:=hid (hk3.blk (hk2.blk hb));have HC:=hid (hk3.blk hc);have HN:=hid (show w.heap.size≤B∧B<C∧C<G by omega);have HBY:=hid hby
 have hds:s.data.size=s.size:=rfl;clear hb hc hk1 hk2 hk3 hs1 hs2 hby hG;go_enter Tryz.func75,Tryz.ntmps75;go_upto_region 1 with fail;rw[←hV1,←hB];clear hV1 hB;go_upto_region 2 with fail;rw[←hV,←hC];clear hV hC hBC;go_wp2_with fail;clear hcv;go_loopw [10] (fun v10 wr=>∃(i el ec:Nat),v10=.int .i64 i∧i≤s.size∧el≤i+1∧ec≤i+1∧wr.heap[C]?=some (.cells #[.int .i64 0,.string ⟨#[]⟩,.int .i64 0,.int .i64 el,.int .i64 ec] TTk (0,0))∧BA (fun b=>b=C) W3 wr) (fun v _=>s.size - (intOf v).toNat)
 case atStart=>exact⟨0,1,1,rfl,Nat.zero_le _,Nat.le_refl _,Nat.le_refl _,HC.out,BA.refl _ _⟩
 case round=>
  obtain⟨i,el,ec,rfl,hi,hel,hec,hbc,hk⟩:=hrel;have HBC:=hid hbc;have HKR:=hid hk;obtain⟨n0,n1,n2,n3,n4,f0,f1,f2,f3,f4⟩:=blk5 hbc;have hn:=HN.out;by_cases hlt:i<s.size
  ·have hlti:(i:Int)<s.size:=by omega
   have hi0:(0:Int)≤i:=by omega
   have hWi:IntKind.i64.wrap ((i:Int)+1)=(i:Int)+1:=IntWalk.i64_in _ (by omega);have hWc:IntKind.i64.wrap ((ec:Int)+1)=(ec:Int)+1:=IntWalk.i64_in _ (by omega);have hWl:IntKind.i64.wrap ((el:Int)+1)=(el:Int)+1:=IntWalk.i64_in _ (by omega);have hcb:=hk.cell (HBY.out i (by rw[hds];exact hlt)) (show ¬G=C by omega);obtain⟨bt,hbt⟩:∃b,s.data[i]'(by rw[hds];exact hlt)=b:=⟨_,rfl⟩;rw[hbt]at hcb;clear hbc hk hbt hn hds;go_upto_region 6 with fail;obtain⟨wa,hwa,hba,hka⟩:=box_put4' HBC.out (.int .i64 ((ec:Int)+1));rw[←hwa];have HBA:=hid hba;have HKA:=hid hka;clear hwa hba hka n0 n1 n2 n3 n4 f0 f1 f2 f3 f4;obtain⟨n0,n1,n2,n3,n4,f0,f1,f2,f3,f4⟩:=blk5 HBA.out;by_cases h10:bt.toNat=10
   ·have h10b:((bt.toNat:Int)==10)=true:=by rw[h10];rfl
    go_upto_region 8 with fail;obtain⟨wb,hwb,hbb,hkb⟩:=box_put3' HBA.out (.int .i64 ((el:Int)+1));rw[←hwb];obtain⟨wc,hwc,hbc2,hkc⟩:=box_put4' hbb (.int .i64 1);rw[←hwc];have HBF:=hid hbc2;have HKF:=hid ((HKR.out.trans HKA.out).trans (hkb.trans hkc));clear hwb hbb hkb hwc hbc2 hkc n0 n1 n2 n3 n4 f0 f1 f2 f3 f4;go_wp2_with fail;exact⟨⟨i+1,el+1,1,by simp,by omega,by omega,by omega,by simpa using HBF.out,HKF.out⟩,by simp only[intOf];omega⟩
   ·have h10b:((bt.toNat:Int)==10)=false:=by rw[BF];omega
    have HKF:=hid (HKR.out.trans HKA.out);clear n0 n1 n2 n3 n4 f0 f1 f2 f3 f4;go_wp2_with fail;exact⟨⟨i+1,el,ec+1,by simp,by omega,by omega,by omega,by simpa using HBA.out,HKF.out⟩,by simp only[intOf];omega⟩
  ·have hnl:¬(i:Int)<s.size:=by omega
   have hbb:=hk.blkE HB.out (show ¬B=C by omega);have HBB:=hid hbb;obtain⟨m0,m1,m2,m3,m4,e0,e1,e2,e3,e4⟩:=blk5 hbb;clear hbc hk hbb hn;go_wp2_with fail;obtain⟨wf,hwf,hp,hkp⟩:=put5 HBB.out (.int .i64 0) (.string ⟨#[]⟩) (.int .i64 0) (.int .i64 el) (.int .i64 ec);rw[←hwf];obtain⟨c0,c1,c2,c3,c4,-⟩:=blk5 hp;have hn:=HN.out;exact bodyPost_ret (v:=.agg #[.int .i64 0,.string ⟨#[]⟩,.int .i64 0,.int .i64 el,.int .i64 ec]) (by simp[results,Tryz.results75,go_sem,c0,c1,c2,c3,c4]) rfl ⟨⟨el,ec,rfl⟩,(HK.out.new HKR.out fun b e=>by have e:b=C:=e;omega).new hkp fun b e=>by have e:b=B:=e;omega⟩
def ptrAt (B:Nat)(W:World):Option Nat:=(W.cell? ⟨B,0,none⟩).bind Value.ownBlock
structure OutKp (B:Nat)(W W':World):Prop where
 size:W.heap.size≤W'.heap.size
 kept:∀(k:Nat) cs e z,W.heap[k]?=some (.cells cs e z)→k≠B→ptrAt B W≠some k→W'.heap[k]?=some (.cells cs e z)
 ptr:ptrAt B W'=ptrAt B W∨∃g,ptrAt B W'=some g∧W.heap.size≤g
 lt:(∀g,ptrAt B W=some g→g<W.heap.size)→∀g,ptrAt B W'=some g→g<W'.heap.size
theorem heap_lt {W:World}{k:Nat}{o:Obj}(h:W.heap[k]?=some o):k<W.heap.size:=(AG.1 h).1
theorem OutKp.trans {B:Nat}{X Y Z:World}(h:OutKp B X Y)(k:OutKp B Y Z):OutKp B X Z where
 size:=Nat.le_trans h.size k.size
 kept:=fun j cs e z hj hB hp=>k.kept j cs e z (h.kept j cs e z hj hB hp) hB (by
  rcases h.ptr with e1|⟨g,e1,hg⟩
  ·rw[e1];exact hp
  ·rw[e1];intro e2;have:=heap_lt hj;cases e2;omega)
 ptr:=by
  rcases k.ptr with e1|⟨g,e1,hg⟩
  ·rcases h.ptr with e2|⟨g,e2,hg⟩
   ·exact .inl (e1.trans e2)
   ·exact .inr ⟨g,e1.trans e2,hg⟩
  ·exact .inr ⟨g,e1,Nat.le_trans h.size hg⟩
 lt:=fun hl=>k.lt (h.lt hl)
theorem ptrAt_same {B:Nat}{W W':World}(h:W'.heap[B]?=W.heap[B]?):ptrAt B W'=ptrAt B W:=by
 unfold ptrAt World.cell?;simp only[h]
theorem OutKp.of_blocks {B:Nat}{W W':World}(hs:W.heap.size≤W'.heap.size)(hB:∃o,W.heap[B]?=some o)(h:∀k<W.heap.size,W'.heap[k]?=W.heap[k]?):OutKp B W W':=by
 obtain⟨o,ho⟩:=hB;have e:=ptrAt_same (h B (heap_lt ho));exact⟨hs,fun k cs e z hk _ _=>(h k (heap_lt hk)).trans hk,.inl e,fun hl g hg=>Nat.lt_of_lt_of_le (hl g (by rw[←e];exact hg)) hs⟩
theorem OutKp.put {B:Nat}{W:World}{l:Nat}{o:Obj}(o':Obj)(hl:W.heap[l]?=some o)(ho:o.isCells=false)(hB:l≠B):OutKp B W (W.putObj l o'):=by
 have e:ptrAt B (W.putObj l o')=ptrAt B W:=ptrAt_same (World.putObj_heap_other (by omega));refine⟨by simp,fun k cs t z hk _ _=>?_,.inl e,fun h g hg=>Nat.lt_of_lt_of_le (h g (by rw[←e];exact hg)) (by simp)⟩;rw[World.putObj_heap_other (fun e2=>?_)]
 ·exact hk
 ·subst e2;rw[hl]at hk;cases hk;cases ho
theorem ptrAt_box {W:World}{B:Nat}{t:TypeId}{v:Value}(h:Boxed W B t v):ptrAt B W=v.ownBlock:=by unfold ptrAt;rw[h.cell];rfl
theorem setCell_other {W:World}{B k:Nat}(v:Value)(h:k≠B):(W.setCell ⟨B,0,none⟩ v).heap[k]?=W.heap[k]?:=Below.heap_setCell _ _ _ k h
theorem OutKp.appended {W w1:World}{n₀ B:Nat}{t e:TypeId}{size:Nat}{v v':Value}{k m:Nat}{xs ys:List Value}{tmp:Obj}
  (hv:Boxed W B t v) (hte:t≠e) (hrow:W.ownsRow n₀ e size v k xs) (hown':w1.ownsRow n₀ e size v' m ys) (hgrow:(W.alloc tmp).grownBy w1 v.ownBlock)
  (hat:v'.ownBlock=v.ownBlock∨v'.ownBlock=some (W.alloc tmp).heap.size):OutKp B W (w1.setCell ⟨B,0,none⟩ v'):=by
 have hv1:Boxed w1 B t v:=(hv.alloc tmp).kept hgrow (hv.not_row hte hrow);have hv2:=hv1.set v';have hp:=ptrAt_box hv;have hp2:=ptrAt_box hv2;have hsz:W.heap.size≤w1.heap.size:=by have:=hgrow.size;rw[World.size_alloc]at this;omega
 refine⟨by rw[World.size_setCell];exact hsz,fun j cs et z hj hB hne=>?_,?_,fun _ g hg=>?_⟩
 ·rw[setCell_other _ hB,hgrow.block j (by rw[World.size_alloc];exact Nat.lt_succ_of_lt (heap_lt hj)) (by rw[←hp];exact fun e=>hne e.symm)];exact(Below.heap_alloc W tmp j (heap_lt hj)).trans hj
 ·rw[hp,hp2];rcases hat with h|h
  ·exact .inl h
  ·exact .inr ⟨_,h,by rw[World.size_alloc];omega⟩
 ·rw[hp2]at hg;rw[World.size_setCell];rcases hown'.2 with⟨rfl,_⟩|⟨g',cap,cur,rfl,_,hgb,_⟩
  ·cases hg
  ·simp only[Value.ownBlock,Option.some.injEq]at hg;subst hg;exact heap_lt hgb
theorem wpListIn_append_own' {F:Fence}{n:Nat}{P:Program}(w:World){ops:Array Oper}{rest:List Oper}{o:Oper}{a:Act}{Q:Exit→Act→World→Prop}
  (hg:o.guard=none) (s x:Operand) (t:TypeId) (hop:o.op=Op.call { callee:=Callee.builtin Builtin.append,args:=#[s,x],argTypes:=#[t,t] })
  (base:Nat) (e:TypeId) (i:TypeInfo) (z:Value) (size bytes:Nat) (h1:P.underlying t=some (.slice e)) (h2:P.info? e=some i) (h3:i.zero=some z) (h4:i.size=size) (h5:i.bytes=bytes) (h6:z.cells.size=size) (h7:0<size)
  (v:Value) (k:Nat) (xs:List Value) (hs:a.eval s=v) (hown:w.ownsRow base e size v k xs) (ad:Addr) (m c:Nat) (news:List Value) (hx:a.eval x=.slice (some ad) m c) (hn:news.length=m * size)
  (hc:∀j u,news[j]?=some u→w.cell? (ad.add j)=some u) (h1c:∀u∈news,u.oneCell'=true) (b1:k+m≤maxLen) (b2:(k+m) * bytes≤140737488355328) (b3:base≤w.heap.size)
  (hK:∀v' w',w'.ownsRow base e size v' (k+m) (xs++news)→w.grownBy w' v.ownBlock→(v'=.slice none 0 0↔v=.slice none 0 0∧m=0)→(v'.ownBlock=v.ownBlock∨v'.ownBlock=some w.heap.size)→wpListIn F n P ops Q rest (a.put o.dst v') w'):
  wpListIn F n P ops Q (o::rest) a w:=by
 refine wpListIn_plain hg fun K hK'=>?_;obtain⟨v',w',hrun,r1,r2,r3,r4⟩:=run_append_own_at (P:=P) w base t o.type e i z size bytes h1 h2 h3 h4 h5 h6 h7 v k xs hown ad m c news hn hc h1c b1 b2 b3;unfold Oper.wpIn;refine⟨?_,?_⟩
 ·simp[Oper.about,hop,resolve,Target.leads,Sem.run_pure]
 ·rw[Oper.semAt_plain F _ _ (by rw[hop];intro c hc';cases hc')];simp[execOp,hop,resolve,invoke,builtin,hs,hx,hrun,Result.andThen];exact hK' _ _ (hK v' w' r1 r2 r3 r4)
end Go.Proofs.YtknnmidnodeanaaGreatDoor
