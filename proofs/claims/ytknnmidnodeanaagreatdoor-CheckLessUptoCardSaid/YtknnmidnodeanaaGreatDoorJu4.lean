import Derived.Test.YtknnmidnodeanaaGreatDoorJu3
import Derived.Lib.AppendIntMem
set_option maxHeartbeats 4000000
namespace Go.Proofs.YtknnmidnodeanaaGreatDoor
open Go Go.RowKit Own
open Go.Lib (hid)
def runeP (q:UInt8→Bool)(r:Nat):Bool:=decide (127<r) || !q (UInt8.ofNat r)
theorem byteV_ofNat {r:Nat}(h:r≤127):byteV (UInt8.ofNat r)=.int .u8 (r:Int):=by
 unfold byteV;rw[UInt8.toNat_ofNat']
 congr 1
 omega
theorem u8_in {r:Nat}(h:r≤127):IntKind.u8.wrap (r:Int)=(r:Int):=by
 have e:∀n:Int,0≤n→n<256→IntKind.u8.wrap n=n:=fun n h1 h2=>by
  simp[IntKind.wrap,IntKind.bits,IntKind.signed];omega
 exact e _ (by omega) (by omega)
theorem spanP_any (q:UInt8→Bool)(fid:Nat)(eg:∀args w,(callFunc fid args).run Tryz.prog w=.ok (.enter fid args) w)(hq:∀(c:UInt8) (w:World),Calls Tryz.prog fid #[byteV c] w fun e w'=>e=.returned (.bool (q c))∧w'=w)
  (w:World) (B:Nat) (hB:B<w.heap.size) (hc:w.cell? ⟨B,0,none⟩=some (.func (.func fid) #[] #[])):
  PredAt Tryz.prog 85 #[.pointer (some ⟨B,0,none⟩)] encR (runeP q) w:=fun W r hb=>by
 have hc':W.cell? ⟨B,0,none⟩=some (.func (.func fid) #[] #[]):=(hb.cell (p:=⟨B,0,none⟩) hB).trans hc;clear hc hb;unfold FnGives;by_cases h:r≤127
 ·have h1:¬(127:Int)<(r:Int):=by omega
  have hw:=u8_in h;have hQ:=hid (hq (UInt8.ofNat r));have hE:=hid (show runeP q r=!q (UInt8.ofNat r) by unfold runeP;rw[decide_eq_false (by omega)];rfl);rw[byteV_ofNat h]at hQ;clear hq;go_enter Tryz.func85,Tryz.ntmps85;go_wp2_with (go_at_fn fid;refine(hQ.out _).mono ?_;rintro e w' ⟨rfl,rfl⟩);go_ret;exact⟨ret_bool hE.out.symm,0,rfl⟩
 ·have h1:(127:Int)<(r:Int):=by omega
  have hE:=hid (show runeP q r=true by unfold runeP;rw[decide_eq_true (by omega)];rfl);clear hq;go_enter Tryz.func85,Tryz.ntmps85;go_wp2
  go_ret;exact⟨ret_bool hE.out.symm,0,rfl⟩
theorem runeP_small {q:UInt8→Bool}(c:UInt8)(h:c.toNat<128):runeP q c.toNat=!q c:=by
 unfold runeP;rw[decide_eq_false (by omega),UInt8.ofNat_toNat];rfl
theorem runeP_big {q:UInt8→Bool}(r:Nat)(h:128≤r):runeP q r=true:=by
 unfold runeP;rw[decide_eq_true (by omega)];rfl
theorem span_any (q:UInt8→Bool)(hs:∀c:UInt8,128≤c.toNat→q c=false)(fid:Nat)(eg:∀args w,(callFunc fid args).run Tryz.prog w=.ok (.enter fid args) w)(hq:∀(c:UInt8) (w:World),Calls Tryz.prog fid #[byteV c] w fun e w'=>e=.returned (.bool (q c))∧w'=w)
  (s:ByteArray) (w:World):
  Calls Tryz.prog 63 #[.string s,.func (.func fid) #[] #[]] w fun e w'=>e=.returned (.int .i64 ((s.data.toList.takeWhile q).length:Nat))∧BA (fun _=>False) w w':=by
 have hC:=hid fun W hB hc=>Tryz.strings_IndexFunc 85 #[.pointer (some ⟨w.heap.size,0,none⟩)] (enters_of Tryz.func85 (by kernel_rfl) rfl) _ s W (spanP_any q fid eg hq W w.heap.size hB hc);have hI:=idx_span (p:=runeP q) hs runeP_small runeP_big s s.size 0 (by omega) (by omega);rw[List.drop_zero]at hI;have hl:s.data.toList.length=s.size:=by simp
 rw[hl]at hI;obtain⟨I,hI'⟩:∃I,Lib.idxFunc (runeP q) true s=I:=⟨_,rfl⟩;obtain⟨m,hm⟩:∃m,(s.data.toList.takeWhile q).length=m:=⟨_,rfl⟩;rw[show Lib.idxFuncFrom (runeP q) true s s.size 0=I from hI',hm,Nat.zero_add]at hI;rw[hm]
 have hC2:Hid (∀W:World,w.heap.size<W.heap.size→W.cell? ⟨w.heap.size,0,none⟩=some (.func (.func fid) #[] #[])→Calls Tryz.prog 84 #[.string s,.func (.func 85) #[] #[.pointer (some ⟨w.heap.size,0,none⟩)]] W fun e w'=>e=.returned (.int .i64 I)∧Below W.heap.size W w'):=fun W hB hc=>by
  have:=hC.out W hB hc;rw[hI']at this;exact this
 clear hC hI' hl hm;by_cases h:m=s.size
 ·rw[if_pos h]at hI;have hI:=hI;subst hI;have HM:=hid h;clear h hs hq;go_enter Tryz.func63,Tryz.ntmps63;go_wp2_with (go_at_call 84;refine(hC2.out _ (by simp) (by simp)).mono ?_;rintro e w' ⟨rfl,hb⟩);go_ret;exact⟨ret_int (by rw[HM.out]),(BA.alloc _ w _).trans (BA.of_below hb)⟩
 ·rw[if_neg h]at hI;have hI0:¬I<0:=by omega
  have HI:=hid hI;clear h hI hs hq;go_enter Tryz.func63,Tryz.ntmps63;go_wp2_with (go_at_call 84;refine(hC2.out _ (by simp) (by simp)).mono ?_;rintro e w' ⟨rfl,hb⟩);go_ret;exact⟨ret_int HI.out,(BA.alloc _ w _).trans (BA.of_below hb)⟩
theorem BH {w:World}{b k:Nat}{cs:Array Value}{T:TypeId}{v:Value}(h:w.heap[b]?=some (.cells cs T (0,0)))(hk:cs[k]?=some v):w.cell? ⟨b,k,none⟩=some v:=by
 simp[World.cell?,h,hk]
def strV (l:List UInt8):Value:=.string ⟨l.toArray⟩
def tokV (t:Tok)(line col:Nat):Value:=.agg #[.int .i64 t.kind,strV t.text,.int .i64 t.num,.int .i64 line,.int .i64 col]
def wordsS:ByteArray:=⟨#[112,111,111,108,32,115,116,97,99,107,32,113,117,101,117,101,32,115,101,116,32,116,104,114,101,97,100,32,118,97,114,32,97,114,114,97,121,32,105,102,32,101,108,115,101,32,119,104,105,108,101,32,111,117,116,32,104,97,108,116,32,112,117,115,104,32,112,111,112,32,101,110,113,32,100,101,113,32,97,100,100,32,114,101,109,111,118,101,32,104,97,115]⟩
theorem fields_words:Lib.fields wordsS.data.toList=wordsL:=by decide +kernel
theorem extract_take (s:ByteArray)(m:Nat):s.extract 0 m=⟨(s.data.toList.take m).toArray⟩:=by
 apply ByteArray.ext;rw[ByteArray.data_extract];apply Array.toList_inj.1;simp
abbrev TabS (w : World) : Prop := Lib.TabIs Tryz.prog w "strings.asciiSpace" .u8 Lib.asciiSpaceTab
theorem Own.BA.tabS {w w':World}(h:BA (fun _=>False) w w')(t:TabS w):TabS w':=
 Lib.tabBelow_of_tabIs t w' ⟨h.os,h.tape,h.output,h.size,fun j hj=>h.block j hj fun e=>e⟩
theorem reserved_any (w:World)(htab:TabS w):
  Calls Tryz.prog 87 #[] w fun e w'=>e=.returned (.slice (some ⟨w.heap.size,0,none⟩) 19 19)∧w'=w.alloc (.cells (wordsL.map fun l=>Value.string ⟨l.toArray⟩).toArray 9):=by
 have hF:=Tryz.strings_Fields wordsS w (by decide) (fun j b h=>by
  have hm:=List.mem_of_getElem? h;have hall:∀b∈wordsS.data.toList,b.toNat<128:=by decide +kernel
  exact hall b hm) htab
 rw[fields_words]at hF;have HF:=hid hF;clear hF;go_enter Tryz.func87,Tryz.ntmps87;go_wp2_with (go_at_call 100;refine HF.out.mono ?_;rintro e w' ⟨rfl,rfl⟩);go_ret;exact⟨rfl,rfl⟩
theorem words_cells (w:World)(j:Nat)(h:j<(wordsL.map fun l=>(⟨l.toArray⟩:ByteArray)).length):
  (w.alloc (.cells (wordsL.map fun l=>Value.string ⟨l.toArray⟩).toArray 9)).cell? ⟨w.heap.size,0+j,none⟩=some (.string ((wordsL.map fun l=>(⟨l.toArray⟩:ByteArray)).getD j ByteArray.empty)):=by
 refine BH (heap_alloc_new w _) ?_;rw[Nat.zero_add];rw[List.length_map]at h;simp[List.getD,h]
theorem isReserved_any (s:ByteArray)(w:World)(htab:TabS w):
  Calls Tryz.prog 65 #[.string s] w fun e w'=>e=.returned (.bool (reservedB s.data.toList))∧BA (fun _=>False) w w':=by
 have hR:=hid (reserved_any w htab);have hC:=Tryz.slices_Contains_string w.heap.size 0 19 19 (wordsL.map fun l=>(⟨l.toArray⟩:ByteArray)) s (w.alloc (.cells (wordsL.map fun l=>Value.string ⟨l.toArray⟩).toArray 9)) (by decide) (by decide) (words_cells w);rw[List.take_of_length_le (by decide),reserved_contains]at hC;obtain⟨r,hr⟩:∃r,reservedB s.data.toList=r:=⟨_,rfl⟩;rw[show wordsL.contains s.data.toList=r from hr]at hC;rw[hr];have HC:=hid hC;clear hC;obtain⟨W,hW⟩:∃W,w.alloc (.cells (wordsL.map fun l=>Value.string ⟨l.toArray⟩).toArray 9)=W:=⟨_,rfl⟩;have HK:=hid (show BA (fun _=>False) w W by rw[←hW];exact BA.alloc _ _ _);rw[hW]at hR HC;clear hW;go_enter Tryz.func65,Tryz.ntmps65
 go_wp2_with (first
  |(go_at_call 87;refine hR.out.mono ?_;rintro e w' ⟨rfl,rfl⟩)
  |(go_at_call 86;refine HC.out.mono ?_;rintro e w' ⟨rfl,rfl⟩))
 go_ret;exact⟨rfl,HK.out⟩
theorem Own.BA.blkE {E:Nat→Prop}{w w':World}(h:BA E w w'){b:Nat}{x:Obj}(hc:w.heap[b]?=some x)(hE:¬E b):w'.heap[b]?=some x:=by
 rw[h.block b (AG.1 hc).1 hE];exact hc
theorem blk5 {w:World}{B:Nat}{a b c d e:Value}{T:TypeId}(h:w.heap[B]?=some (.cells #[a,b,c,d,e] T (0,0))):
  w.cell? ⟨B,0,none⟩=some a∧w.cell? ⟨B,1,none⟩=some b∧w.cell? ⟨B,2,none⟩=some c∧w.cell? ⟨B,3,none⟩=some d∧w.cell? ⟨B,4,none⟩=some e∧
  w.frozen? ⟨B,0,none⟩=false∧w.frozen? ⟨B,1,none⟩=false∧w.frozen? ⟨B,2,none⟩=false∧w.frozen? ⟨B,3,none⟩=false∧w.frozen? ⟨B,4,none⟩=false:=by
 simp[World.cell?,World.frozen?,h]
theorem put1 {w:World}{B i:Nat}{cs:Array Value}{T:TypeId}(h:w.heap[B]?=some (.cells cs T (0,0)))(v:Value):(w.setCell ⟨B,i,none⟩ v).heap[B]?=some (.cells (cs.setIfInBounds i v) T (0,0)):=by
 obtain⟨hlt,hk⟩:=AG.1 h;show (w.heap.modify B _)[B]?=_;rw[Array.getElem?_eq_getElem (by rw[Array.size_modify];exact hlt),Array.getElem_modify_self,hk];rfl
theorem put5 {w:World}{B:Nat}{a b c d e:Value}{T:TypeId}(h:w.heap[B]?=some (.cells #[a,b,c,d,e] T (0,0)))(v0 v1 v2 v3 v4:Value):
  ∃wf,wf=(((((w.setCell ⟨B,0,none⟩ v0).setCell ⟨B,1,none⟩ v1).setCell ⟨B,2,none⟩ v2).setCell ⟨B,3,none⟩ v3).setCell ⟨B,4,none⟩ v4)∧wf.heap[B]?=some (.cells #[v0,v1,v2,v3,v4] T (0,0))∧BA (fun k=>k=B) w wf:=by
 refine⟨_,rfl,?_,?_⟩
 ·have h1:=put1 (i:=4) (put1 (i:=3) (put1 (i:=2) (put1 (i:=1) (put1 (i:=0) h v0) v1) v2) v3) v4;exact h1
 ·have s:∀(w:World) (i:Nat) (v:Value),BA (fun k=>k=B) w (w.setCell ⟨B,i,none⟩ v):=fun w i v=>BA.setCell _ _ _ rfl;exact((((s _ _ _).trans (s _ _ _)).trans (s _ _ _)).trans (s _ _ _)).trans (s _ _ _)
theorem word_any (s:ByteArray)(w:World)(htab:TabS w):
  Calls Tryz.prog 105 #[.string s] w fun e w'=>e=.returned (.tuple #[tokV (wordT s.data.toList).1 0 0,.int .i64 (wordT s.data.toList).2])∧BA (fun _=>False) w w':=by
 obtain⟨m,hm⟩:∃m,(s.data.toList.takeWhile wordB).length=m:=⟨_,rfl⟩;have hsl:s.data.toList.length=s.size:=by simp
 have hms:m≤s.size:=by rw[←hm,←hsl];exact takeWhile_le _ _
 have het:s.extract 0 m=⟨(s.data.toList.takeWhile wordB).toArray⟩:=by rw[extract_take,←hm,takeWhile_take]
 obtain⟨W0,B,hW0,hB,hb,hk0,hs0⟩:=BD w (.cells #[.int .i64 0,.string ⟨#[]⟩,.int .i64 0,.int .i64 0,.int .i64 0] 117);have hS:=span_any wordB word_small 64 (enters_of Tryz.func64 (by kernel_rfl) rfl) inWord_any s W0;rw[hm]at hS;have HS:=hid hS;have HB:=hid hb;have HK:=hid hk0;have HT:=hid (hk0.tabS htab);have HN:=hid (show w.heap.size=B∧B<W0.heap.size by omega);clear hS hsl hb hk0 hs0 htab;by_cases h16:16<m
 ·have h16i:(16:Int)<m:=by omega
  have HE:=hid (show wordT s.data.toList=(Tok.zero,3) by unfold wordT;rw[hm,if_pos h16]);clear hm het hms;go_enter Tryz.func105,Tryz.ntmps105;go_upto_region 1 with fail;rw[←hW0,←hB];clear hW0 hB;go_wp2_with (go_at_call 63;refine HS.out.mono ?_;rintro e w1 ⟨rfl,hk1⟩;have HB1:=hid (hk1.blk HB.out);obtain⟨n0,n1,n2,n3,n4,f0,f1,f2,f3,f4⟩:=blk5 HB1.out;have HK1:=hid hk1;clear hk1);obtain⟨wf,hwf,hp,hkp⟩:=put5 HB1.out (.int .i64 0) (.string ⟨#[]⟩) (.int .i64 0) (.int .i64 0) (.int .i64 0);rw[←hwf];obtain⟨c0,c1,c2,c3,c4,-⟩:=blk5 hp;refine bodyPost_ret (v:=.tuple #[.agg #[.int .i64 0,.string ⟨#[]⟩,.int .i64 0,.int .i64 0,.int .i64 0],.int .i64 3]) (by simp[results,Tryz.results105,go_sem,c0,c1,c2,c3,c4]) rfl ⟨by rw[HE.out];rfl,?_⟩;exact(HK.out.trans HK1.out).new hkp fun k e=>by have h2:k=B:=e;have:=HN.out;omega
 ·have h16i:¬(16:Int)<m:=by omega
  have h0:(0:Int)≤m:=by omega
  have hmi:(m:Int)≤s.size:=by omega
  obtain⟨tx,htx⟩:∃tx,s.data.toList.takeWhile wordB=tx:=⟨_,rfl⟩;rw[htx]at het
  have hre:∀W:World,TabS W→Calls Tryz.prog 65 #[.string ⟨tx.toArray⟩] W fun e w'=>e=.returned (.bool (reservedB tx))∧BA (fun _=>False) W w':=fun W h=>by
   have:=isReserved_any ⟨tx.toArray⟩ W h;simpa using this
  obtain⟨r,hr⟩:∃r,reservedB tx=r:=⟨_,rfl⟩;rw[hr]at hre;have HR:=hid hre;have HE:=hid (show wordT s.data.toList=(⟨if r=true then 1 else 2,tx,0⟩,0) by unfold wordT;rw[hm,if_neg h16,htx,hr]);clear h16 hm htx hre hr;go_enter Tryz.func105,Tryz.ntmps105;go_upto_region 1 with fail;rw[←hW0,←hB];clear hW0 hB;go_upto_region 5 with (go_at_call 63;refine HS.out.mono ?_;rintro e w1 ⟨rfl,hk1⟩;have HB1:=hid (hk1.blk HB.out);have HK1:=hid hk1;clear hk1);obtain⟨W2,B5,hW2,hB5,hb5,hk2,-⟩:=BD w1 (.cells #[.int .i64 2,.string ⟨tx.toArray⟩,.int .i64 0,.int .i64 0,.int .i64 0] 117);rw[←hW2,←hB5];have HB5:=hid hb5;have HK2:=hid (HK1.out.trans hk2);have HL5:=hid (show W0.heap.size≤B5∧B<B5 by have:=HK1.out.size;have:=HN.out;omega);have HT2:=hid (HK2.out.tabS HT.out);have n1:=(blk5 hb5).2.1;clear hW2 hB5 hb5 hk2 het hmi h0
  cases r with
  | false=>
   go_upto_region 7 with (go_at_call 65;refine(HR.out _ HT2.out).mono ?_;rintro e w3 ⟨rfl,hk3⟩;have HB3:=hid (hk3.blk (HK2.out.blk HB.out));have HB53:=hid (hk3.blk HB5.out);have HK3:=hid (HK2.out.trans hk3);clear hk3);obtain⟨n0,n1,n2,n3,n4,f0,f1,f2,f3,f4⟩:=blk5 HB3.out;obtain⟨m0,m1,m2,m3,m4,-⟩:=blk5 HB53.out;go_wp2_with fail;obtain⟨wf,hwf,hp,hkp⟩:=put5 HB3.out (.int .i64 2) (.string ⟨tx.toArray⟩) (.int .i64 0) (.int .i64 0) (.int .i64 0);rw[←hwf];obtain⟨c0,c1,c2,c3,c4,-⟩:=blk5 hp;refine bodyPost_ret (v:=.tuple #[.agg #[.int .i64 2,.string ⟨tx.toArray⟩,.int .i64 0,.int .i64 0,.int .i64 0],.int .i64 0]) (by simp[results,Tryz.results105,go_sem,c0,c1,c2,c3,c4]) rfl ⟨by rw[HE.out];rfl,?_⟩;exact(HK.out.trans HK3.out).new hkp fun k e=>by have h2:k=B:=e;have:=HN.out;omega
  | true=>
   go_upto_region 7 with (go_at_call 65;refine(HR.out _ HT2.out).mono ?_;rintro e w3 ⟨rfl,hk3⟩;have HB3:=hid (hk3.blk (HK2.out.blk HB.out));have HB53:=hid (hk3.blk HB5.out);have HK3:=hid (HK2.out.trans hk3);clear hk3;obtain⟨n0,-,-,-,-,f0,-⟩:=blk5 HB53.out);have hb6:=put1 (i:=0) HB53.out (.int .i64 1);have hk6:BA (fun k=>k=B5) w3 (w3.setCell ⟨B5,0,none⟩ (.int .i64 1)):=BA.setCell _ _ _ rfl;obtain⟨w6,hw6⟩:∃w6,w3.setCell ⟨B5,0,none⟩ (.int .i64 1)=w6:=⟨_,rfl⟩;rw[hw6]at hb6 hk6 ⊢;have HB6:=hid (BA.blkE hk6 HB3.out (fun e=>by have h1:=hk6.size;have:=HL5.out;omega));clear n0 f0;obtain⟨n0,n1,n2,n3,n4,f0,f1,f2,f3,f4⟩:=blk5 HB6.out;obtain⟨m0,m1,m2,m3,m4,-⟩:=blk5 (a:=.int .i64 1) hb6;have HK6:=hid (HK3.out.new hk6 fun k e=>by have h2:k=B5:=e;have:=HL5.out;omega);clear hw6 hb6 hk6;go_wp2_with fail;obtain⟨wf,hwf,hp,hkp⟩:=put5 HB6.out (.int .i64 1) (.string ⟨tx.toArray⟩) (.int .i64 0) (.int .i64 0) (.int .i64 0);rw[←hwf];obtain⟨c0,c1,c2,c3,c4,-⟩:=blk5 hp;refine bodyPost_ret (v:=.tuple #[.agg #[.int .i64 1,.string ⟨tx.toArray⟩,.int .i64 0,.int .i64 0,.int .i64 0],.int .i64 0]) (by simp[results,Tryz.results105,go_sem,c0,c1,c2,c3,c4]) rfl ⟨by rw[HE.out];rfl,?_⟩;exact(HK.out.trans HK6.out).new hkp fun k e=>by have h2:k=B:=e;have:=HN.out;omega
open Go
inductive Ex where
 |mk (kind op:Nat) (num:Nat) (name:List UInt8) (line col:Nat) (kids:List Ex)
inductive St where
 |mk (kind:Nat) (name:List UInt8) (size op:Nat) (value into cont:List UInt8) (exprs:List Ex) (thn els:List St) (line col:Nat)
structure Ct where
 kind:Nat
 name:List UInt8
 line:Nat
 col:Nat
structure Pr where
 pool:Nat
 conts:List Ct
 threads:List (List St)
def signL:List (List UInt8):=[[],[42],[47],[37],[43],[45],[60],[60,61],[62],[62,61],[61,61],[33,61],[38],[124]]
def opL:List (List UInt8):=[[],[112,117,115,104],[112,111,112],[101,110,113],[100,101,113],[97,100,100],[114,101,109,111,118,101],[104,97,115]]
def kindL:List (List UInt8):=[[],[115,116,97,99,107],[113,117,101,117,101],[115,101,116]]
def ofL (l:List (List UInt8))(s:List UInt8):Nat:=if s=[] then 0 else if l.contains s=true then l.idxOf s else 0
def isT (t:Tok)(s:List UInt8):Bool:=t.text==s && (t.kind==4 || t.kind==1)
def BJ (ts:List Item)(s:List UInt8):Bool:=
 match ts with
 |t::_=>isT t.tok s
 |[]=>false
def CQ:List (List UInt8)→List Item→Option (List Item)
 |[],ts=>some ts
 |s::l,ts=>if BJ ts s=true then CQ l ts.tail else none
def wantT (k:Nat)(ts:List Item):Option (Item×List Item):=
 match ts with
 |t::r=>if t.tok.kind=k then some (t,r) else none
 |[]=>none
def opOf (ops:List Nat)(ts:List Item):Option Nat:=ops.find? fun op=>BJ ts (signL.getD op [])
def rowL (next:List Item→Option (Ex×List Item))(ops:List Nat):Nat→Ex→List Item→Option (Ex×List Item)
 |0,_,_=>none
 | f+1,x,ts=>
  match opOf ops ts with
  |none=>some (x,ts)
  | some op=>
   match ts with
   |[]=>none
   | t::r=>
    match next r with
    |none=>none
    |some (y,r')=>rowL next ops f (.mk 5 op 0 [] t.line t.col [x,y]) r'
def rowN (next:List Item→Option (Ex×List Item))(ops:List Nat)(ts:List Item):Option (Ex×List Item):=
 match next ts with
 |none=>none
 |some (x,r)=>rowL next ops (r.length+1) x r
def rowsN (one:List Item→Option (Ex×List Item)):List Item→Option (Ex×List Item):=
 rowN (rowN (rowN (rowN (rowN (rowN one [1,2,3]) [4,5]) [6,7,8,9]) [10,11]) [12]) [13]
def oneOf (one expr:List Item→Option (Ex×List Item))(ts:List Item):Option (Ex×List Item):=
 match ts with
 |[]=>none
 | t::r=>
  if isT t.tok [45]=true then
   match one r with
   |none=>none
   |some (x,r')=>some (.mk 4 1 0 [] t.line t.col [x],r')
  else if isT t.tok [33]=true then
   match one r with
   |none=>none
   |some (x,r')=>some (.mk 4 2 0 [] t.line t.col [x],r')
  else if isT t.tok [40]=true then
   match expr r with
   |none=>none
   |some (x,r')=>if BJ r' [41]=true then some (x,r'.tail) else none
  else if t.tok.kind=3 then some (.mk 1 0 t.tok.num [] t.line t.col [],r)
  else if t.tok.kind=2 then
   if BJ r [91]=true then
    match expr r.tail with
    |none=>none
    |some (x,r')=>if BJ r' [93]=true then some (.mk 3 0 0 t.tok.text t.line t.col [x],r'.tail) else none
   else some (.mk 2 0 0 t.tok.text t.line t.col [],r)
  else none
def oneP:Nat→List Item→Option (Ex×List Item)
 |0=>fun _=>none
 |f+1=>oneOf (oneP f) (rowsN (oneP f))
def exP (f:Nat):List Item→Option (Ex×List Item):=rowsN (oneP f)
def callP (f:Nat)(value:List UInt8)(ts:List Item):Option ((Nat×List UInt8×List Ex)×List Item):=
 match ts with
 |[]=>none
 | t::r=>
  let op:=ofL opL t.tok.text
  if op=0∨t.tok.kind≠1∨(op=2∨op=4)≠(value≠[]) then none
  else
   match CQ [[40]] r with
   |none=>none
   | some r1=>
    match wantT 2 r1 with
    |none=>none
    | some (c,r2)=>
     if op=2∨op=4 then
      match CQ [[41],[59]] r2 with
      |none=>none
      |some r3=>some ((op,c.tok.text,[]),r3)
     else
      match CQ [[44]] r2 with
      |none=>none
      | some r3=>
       match exP f r3 with
       |none=>none
       | some (x,r4)=>
        match CQ [[41],[59]] r4 with
        |none=>none
        |some r5=>some ((op,c.tok.text,[x]),r5)
def plainP (f:Nat)(t0:Item)(ts:List Item):Option (St×List Item):=
 match wantT 2 ts with
 |none=>none
 | some (n,r)=>
  if BJ r [91]=true then
   match exP f r.tail with
   |none=>none
   | some (a,r1)=>
    match CQ [[93],[61]] r1 with
    |none=>none
    | some r2=>
     match exP f r2 with
     |none=>none
     | some (x,r3)=>
      match CQ [[59]] r3 with
      |none=>none
      |some r4=>some (.mk 4 n.tok.text 0 0 [] [] [] [a,x] [] [] t0.line t0.col,r4)
  else if BJ r [44]=true then
   match wantT 2 r.tail with
   |none=>none
   | some (m,r1)=>
    match CQ [[61]] r1 with
    |none=>none
    | some r2=>
     match callP f n.tok.text r2 with
     |none=>none
     |some ((op,c,xs),r3)=>some (.mk 9 [] 0 op n.tok.text m.tok.text c xs [] [] t0.line t0.col,r3)
  else
   match CQ [[61]] r with
   |none=>none
   | some r1=>
    match r1 with
    |[]=>none
    | t1::_=>
     if t1.tok.kind=1 then
      match callP f [] r1 with
      |none=>none
      |some ((op,c,xs),r3)=>some (.mk 9 [] 0 op [] n.tok.text c xs [] [] t0.line t0.col,r3)
     else
      match exP f r1 with
      |none=>none
      | some (x,r2)=>
       match CQ [[59]] r2 with
       |none=>none
       |some r3=>some (.mk 3 n.tok.text 0 0 [] [] [] [x] [] [] t0.line t0.col,r3)
def stmtsL (stmt:List Item→Option (St×List Item)):Nat→List Item→Option (List St×List Item)
 |0,_=>none
 | f+1,ts=>
  if BJ ts [125]=true then some ([],ts.tail)
  else
   match stmt ts with
   |none=>none
   | some (s,r)=>
    match stmtsL stmt f r with
    |none=>none
    |some (l,r')=>some (s::l,r')
def blockOf (stmt:List Item→Option (St×List Item))(ts:List Item):Option (List St×List Item):=
 if BJ ts [123]=true then stmtsL stmt (ts.length+1) ts.tail else none
def stmtP:Nat→List Item→Option (St×List Item)
 |0,_=>none
 | f+1,ts=>
  match ts with
  |[]=>none
  | t::r=>
   if isT t.tok [118,97,114]=true then
    match wantT 2 r with
    |none=>none
    | some (n,r1)=>
     match CQ [[61]] r1 with
     |none=>none
     | some r2=>
      match exP f r2 with
      |none=>none
      | some (x,r3)=>
       match CQ [[59]] r3 with
       |none=>none
       |some r4=>some (.mk 1 n.tok.text 0 0 [] [] [] [x] [] [] t.line t.col,r4)
   else if isT t.tok [97,114,114,97,121]=true then
    match wantT 2 r with
    |none=>none
    | some (n,r1)=>
     match CQ [[91]] r1 with
     |none=>none
     | some r2=>
      match wantT 3 r2 with
      |none=>none
      | some (m,r3)=>
       match CQ [[93],[59]] r3 with
       |none=>none
       |some r4=>some (.mk 2 n.tok.text m.tok.num 0 [] [] [] [] [] [] t.line t.col,r4)
   else if isT t.tok [105,102]=true then
    match exP f r with
    |none=>none
    | some (x,r1)=>
     match blockOf (stmtP f) r1 with
     |none=>none
     | some (a,r2)=>
      if BJ r2 [101,108,115,101]=true then
       match blockOf (stmtP f) r2.tail with
       |none=>none
       |some (b,r3)=>some (.mk 5 [] 0 0 [] [] [] [x] a b t.line t.col,r3)
      else some (.mk 5 [] 0 0 [] [] [] [x] a [] t.line t.col,r2)
   else if isT t.tok [119,104,105,108,101]=true then
    match exP f r with
    |none=>none
    | some (x,r1)=>
     match blockOf (stmtP f) r1 with
     |none=>none
     |some (a,r2)=>some (.mk 6 [] 0 0 [] [] [] [x] a [] t.line t.col,r2)
   else if isT t.tok [111,117,116]=true then
    match exP f r with
    |none=>none
    | some (x,r1)=>
     match CQ [[59]] r1 with
     |none=>none
     |some r2=>some (.mk 7 [] 0 0 [] [] [] [x] [] [] t.line t.col,r2)
   else if isT t.tok [104,97,108,116]=true then
    match exP f r with
    |none=>none
    | some (x,r1)=>
     match CQ [[59]] r1 with
     |none=>none
     |some r2=>some (.mk 8 [] 0 0 [] [] [] [x] [] [] t.line t.col,r2)
   else plainP f t ts
def blockP (f:Nat):List Item→Option (List St×List Item):=blockOf (stmtP f)
def contsP:Nat→List Item→Option (List Ct×List Item)
 |0,_=>none
 | f+1,ts=>
  match ts with
  |[]=>some ([],ts)
  | t::r=>
   if ofL kindL t.tok.text=0∨t.tok.kind≠1 then some ([],ts)
   else
    match wantT 2 r with
    |none=>none
    | some (n,r1)=>
     match CQ [[59]] r1 with
     |none=>none
     | some r2=>
      match contsP f r2 with
      |none=>none
      |some (l,r3)=>some (⟨ofL kindL t.tok.text,n.tok.text,t.line,t.col⟩::l,r3)
def threadsP (g:Nat):Nat→List Item→Option (List (List St))
 |0,_=>none
 | f+1,ts=>
  match ts with
  |[]=>some []
  | _::_=>
   match CQ [[116,104,114,101,97,100]] ts with
   |none=>none
   | some r=>
    match blockP g r with
    |none=>none
    | some (b,r1)=>
     match threadsP g f r1 with
     |none=>none
     |some l=>some (b::l)
def progP (f:Nat)(ts:List Item):Option Pr:=
 match CQ [[112,111,111,108]] ts with
 |none=>none
 | some r=>
  match wantT 3 r with
  |none=>none
  | some (n,r1)=>
   match CQ [[59]] r1 with
   |none=>none
   | some r2=>
    match contsP (r2.length+1) r2 with
    |none=>none
    | some (cs,r3)=>
     match threadsP f (r3.length+1) r3 with
     |none=>none
     |some ths=>some ⟨n.tok.num,cs,ths⟩
def Ex.weigh:Ex→Nat×Nat
 |.mk _ _ _ _ _ _ kids=>(weighL kids |>.1 |> (·+1),weighL kids |>.2 |> (·+1))
 where weighL:List Ex→Nat×Nat
 |[]=>(0,0)
 |k::l=>(k.weigh.1+(weighL l).1,max k.weigh.2 (weighL l).2)
def RowI (w:World)(p:Option Addr)(its:List Item):Prop:=∀i (h:i<its.length),∃g o,p=some ⟨g,o,none⟩∧
 w.cell? ⟨g,o+i * 5,none⟩=some (.int .i64 its[i].tok.kind)∧w.cell? ⟨g,o+i * 5+1,none⟩=some (strV its[i].tok.text)∧w.cell? ⟨g,o+i * 5+2,none⟩=some (.int .i64 its[i].tok.num)∧
 w.cell? ⟨g,o+i * 5+3,none⟩=some (.int .i64 its[i].line)∧w.cell? ⟨g,o+i * 5+4,none⟩=some (.int .i64 its[i].col)
theorem RowI.keep {E:Nat→Prop}{w w':World}{p:Option Addr}{its:List Item}(h:RowI w p its)(k:BA E w w')(hE:∀a,p=some a→¬E a.block):RowI w' p its:=fun i hi=>by
 obtain⟨g,o,h1,h2,h3,h4,h5,h6⟩:=h i hi;have hn:¬E g:=hE _ h1;exact⟨g,o,h1,k.cell h2 hn,k.cell h3 hn,k.cell h4 hn,k.cell h5 hn,k.cell h6 hn⟩
theorem RowI.tail {w:World}{g o:Nat}{t:Item}{its:List Item}(h:RowI w (some ⟨g,o,none⟩) (t::its)):RowI w (some ⟨g,o+5,none⟩) its:=fun i hi=>by
 obtain⟨g',o',h1,h2,h3,h4,h5,h6⟩:=h (i+1) (by simpa using hi)
 cases h1;refine⟨g,o+5,rfl,?_⟩;simp only[List.getElem_cons_succ]at h2 h3 h4 h5 h6;rw[show o+5+i * 5=o+(i+1) * 5 by omega];exact⟨h2,h3,h4,h5,h6⟩
abbrev TEx:TypeId:=79
mutual
def ExAt (w:World)(S:Nat→Prop):List Value→Ex→Prop
 |vs,.mk k o n nm l c kids=>∃p cap,vs=[.int .i64 k,.int .i64 o,.int .i64 n,strV nm,.slice p kids.length cap,.int .i64 l,.int .i64 c]∧CB w S p 0 kids
def CB (w:World)(S:Nat→Prop)(p:Option Addr):Nat→List Ex→Prop
 |_,[]=>True
 |i,x::l=>(∃g o vs,p=some ⟨g,o,none⟩∧S g∧(∀j v,vs[j]?=some v→w.cell? ⟨g,o+i * 7+j,none⟩=some v)∧ExAt w S vs x)∧CB w S p (i+1) l
end
mutual
theorem ExAt.keepS {w w':World}{S S':Nat→Prop}(hk:∀b o v,S b→w.cell? ⟨b,o,none⟩=some v→w'.cell? ⟨b,o,none⟩=some v∧S' b):∀{vs:List Value}{e:Ex},ExAt w S vs e→ExAt w' S' vs e
 | vs,.mk kk o n nm l c kids,h=>by
  unfold ExAt at h ⊢;obtain⟨p,cap,h1,h2⟩:=h;exact⟨p,cap,h1,CB.keepS hk h2⟩
theorem CB.keepS {w w':World}{S S':Nat→Prop}(hk:∀b o v,S b→w.cell? ⟨b,o,none⟩=some v→w'.cell? ⟨b,o,none⟩=some v∧S' b):∀{p:Option Addr}{i:Nat}{l:List Ex},CB w S p i l→CB w' S' p i l
 |p,i,[],_=>by unfold CB;trivial
 | p,i,x::l,h=>by
  unfold CB at h ⊢;obtain⟨⟨g,o,vs,h1,h2,h3,h4⟩,h5⟩:=h
  have hv:∃v,vs[0]?=some v:=by
   cases x with
   | mk k o n nm l c kids=>
    unfold ExAt at h4;obtain⟨p,cap,h6,-⟩:=h4;exact⟨_,by rw[h6];rfl⟩
  obtain⟨v0,hv0⟩:=hv;exact⟨⟨g,o,vs,h1,(hk g _ _ h2 (h3 0 v0 hv0)).2,fun j v hj=>(hk g _ _ h2 (h3 j v hj)).1,ExAt.keepS hk h4⟩,CB.keepS hk h5⟩
end
theorem ExAt.keep {E:Nat→Prop}{w w':World}{S:Nat→Prop}(k:BA E w w')(hE:∀b,S b→¬E b){vs:List Value}{e:Ex}(h:ExAt w S vs e):ExAt w' S vs e:=
 h.keepS fun b _ _ hb hc=>⟨k.cell hc (hE b hb),hb⟩
theorem ExAt.inHeap {w:World}{S:Nat→Prop}{vs:List Value}{e:Ex}(h:ExAt w S vs e):ExAt w (fun b=>S b∧b<w.heap.size) vs e:=
 h.keepS fun _ _ _ hb hc=>⟨hc,hb,World.block_lt_of_cell? w _ hc⟩
theorem ExAt.mono {w:World}{S S':Nat→Prop}(hS:∀b,S b→S' b){vs:List Value}{e:Ex}(h:ExAt w S vs e):ExAt w S' vs e:=
 h.keepS fun _ _ _ hb hc=>⟨hc,hS _ hb⟩
theorem CB.mono {w:World}{S S':Nat→Prop}(hS:∀b,S b→S' b){p:Option Addr}{i:Nat}{l:List Ex}(h:CB w S p i l):CB w S' p i l:=
 h.keepS fun _ _ _ hb hc=>⟨hc,hS _ hb⟩
theorem CB.keep {E:Nat→Prop}{w w':World}{S:Nat→Prop}(k:BA E w w')(hE:∀b,S b→¬E b){p:Option Addr}{i:Nat}{l:List Ex}(h:CB w S p i l):CB w' S p i l:=
 h.keepS fun b _ _ hb hc=>⟨k.cell hc (hE b hb),hb⟩
theorem kids_two {w:World}{S:Nat→Prop}{G:Nat}{vs us:List Value}{x y:Ex}(hG:w.heap[G]?=some (.cells (vs++us).toArray TEx (0,0)))(hS:S G)(hv:vs.length=7)(hx:ExAt w S vs x)(hy:ExAt w S us y):CB w S (some ⟨G,0,none⟩) 0 [x,y]:=by
 have hc:∀j v,(vs++us)[j]?=some v→w.cell? ⟨G,j,none⟩=some v:=fun j v hj=>BH hG (by simpa using hj);unfold CB;refine⟨⟨G,0,vs,rfl,hS,fun j v hj=>?_,hx⟩,?_⟩
 ·have hlt:j<vs.length:=(List.getElem?_eq_some_iff.1 hj).1;rw[show 0+0 * 7+j=j by omega];exact hc j v (by rw[List.getElem?_append_left hlt];exact hj)
 ·unfold CB;refine⟨⟨G,0,us,rfl,hS,fun j v hj=>?_,hy⟩,by unfold CB;trivial⟩;rw[show 0+(0+1) * 7+j=7+j by omega];exact hc (7+j) v (by rw[List.getElem?_append_right (by omega),hv,Nat.add_sub_cancel_left];exact hj)
theorem kids_one {w:World}{S:Nat→Prop}{G:Nat}{vs:List Value}{x:Ex}(hG:w.heap[G]?=some (.cells vs.toArray TEx (0,0)))(hS:S G)(hx:ExAt w S vs x):CB w S (some ⟨G,0,none⟩) 0 [x]:=by
 unfold CB;refine⟨⟨G,0,vs,rfl,hS,fun j v hj=>?_,hx⟩,by unfold CB;trivial⟩;rw[show 0+0 * 7+j=j by omega];exact BH hG (by simpa using hj)
theorem Own.BA.newM {E F:Nat→Prop}{w w' w'':World}(h:BA E w w')(k:BA F w' w'')(hF:∀b,F b→E b∨w.heap.size≤b):BA E w w'':=
 ⟨k.os.trans h.os,k.tape.trans h.tape,k.output.trans h.output,Nat.le_trans h.size k.size,fun b hb hE=>(k.block b (Nat.lt_of_lt_of_le hb h.size) fun e=>(hF b e).elim hE fun h=>absurd hb (by omega)).trans (h.block b hb hE)⟩
theorem Own.BA.newE {E F:Nat→Prop}{w w' w'':World}(h:BA E w w')(k:BA F w' w'')(hF:∀b,F b→w.heap.size≤b):BA E w w'':=
 ⟨k.os.trans h.os,k.tape.trans h.tape,k.output.trans h.output,Nat.le_trans h.size k.size,fun b hb hE=>(k.block b (Nat.lt_of_lt_of_le hb h.size) fun e=>by have:=hF b e;omega).trans (h.block b hb hE)⟩
abbrev TRd:TypeId:=120
structure BG (w:World)(R:Nat)(its:List Item)(el ec:Nat):Prop where
 ex:∃p c,w.heap[R]?=some (.cells #[.slice p its.length c,.int .i64 0,.string ⟨#[]⟩,.int .i64 0,.int .i64 el,.int .i64 ec] TRd (0,0))∧RowI w p its∧(∀a,p=some a→a.block<R)∧its.length≤c∧c≤9223372036854775807
theorem BG.keep {E:Nat→Prop}{w w':World}{R:Nat}{its:List Item}{el ec:Nat}(h:BG w R its el ec)(k:BA E w w')(hE:∀b,b≤R→¬E b):BG w' R its el ec:=by
 obtain⟨p,c,h1,h2,h3,h4⟩:=h.ex;exact⟨p,c,k.blkE h1 (hE R (Nat.le_refl _)),h2.keep k fun a ha=>hE _ (by have:=h3 a ha;omega),h3,h4⟩
theorem BG.lt {w:World}{R:Nat}{its:List Item}{el ec:Nat}(h:BG w R its el ec):R<w.heap.size:=by
 obtain⟨p,c,h1,-⟩:=h.ex;exact(AG.1 h1).1
theorem blk6 {w:World}{B:Nat}{a b c d e f:Value}{T:TypeId}(h:w.heap[B]?=some (.cells #[a,b,c,d,e,f] T (0,0))):
  w.cell? ⟨B,0,none⟩=some a∧w.cell? ⟨B,1,none⟩=some b∧w.cell? ⟨B,2,none⟩=some c∧w.cell? ⟨B,3,none⟩=some d∧w.cell? ⟨B,4,none⟩=some e∧w.cell? ⟨B,5,none⟩=some f∧w.frozen? ⟨B,0,none⟩=false:=by
 simp[World.cell?,World.frozen?,h]
theorem blk7 {w:World}{B:Nat}{a b c d e f g:Value}{T:TypeId}(h:w.heap[B]?=some (.cells #[a,b,c,d,e,f,g] T (0,0))):
  w.cell? ⟨B,0,none⟩=some a∧w.cell? ⟨B,1,none⟩=some b∧w.cell? ⟨B,2,none⟩=some c∧w.cell? ⟨B,3,none⟩=some d∧w.cell? ⟨B,4,none⟩=some e∧w.cell? ⟨B,5,none⟩=some f∧w.cell? ⟨B,6,none⟩=some g∧
  (w.frozen? ⟨B,0,none⟩=false∧w.frozen? ⟨B,1,none⟩=false∧w.frozen? ⟨B,2,none⟩=false∧w.frozen? ⟨B,3,none⟩=false∧w.frozen? ⟨B,4,none⟩=false∧w.frozen? ⟨B,5,none⟩=false∧w.frozen? ⟨B,6,none⟩=false):=by
 simp[World.cell?,World.frozen?,h]
theorem put7 {w:World}{B:Nat}{a b c d e f g:Value}{T:TypeId}(h:w.heap[B]?=some (.cells #[a,b,c,d,e,f,g] T (0,0)))(v0 v1 v2 v3 v4 v5 v6:Value):
  ∃wf,wf=((((((w.setCell ⟨B,0,none⟩ v0).setCell ⟨B,1,none⟩ v1).setCell ⟨B,2,none⟩ v2).setCell ⟨B,3,none⟩ v3).setCell ⟨B,4,none⟩ v4).setCell ⟨B,5,none⟩ v5).setCell ⟨B,6,none⟩ v6∧wf.heap[B]?=some (.cells #[v0,v1,v2,v3,v4,v5,v6] T (0,0))∧BA (fun k=>k=B) w wf:=by
 refine⟨_,rfl,?_,?_⟩
 ·have h0:=put1 (i:=0) h v0;simp only[List.setIfInBounds_toArray,List.set_cons_zero]at h0;have h1:=put1 (i:=1) h0 v1;simp only[LS]at h1;have h2:=put1 (i:=2) h1 v2;simp only[LS]at h2;have h3:=put1 (i:=3) h2 v3;simp only[LS]at h3;have h4:=put1 (i:=4) h3 v4;simp only[LS]at h4;have h5:=put1 (i:=5) h4 v5;simp only[LS]at h5;have h6:=put1 (i:=6) h5 v6;simp only[LS]at h6;exact h6
 ·have s:=fun (w:World) (i:Nat) (v:Value)=>BA.setCell (E:=fun k=>k=B) w ⟨B,i,none⟩ v rfl;exact((((((s _ _ _).trans (s _ _ _)).trans (s _ _ _)).trans (s _ _ _)).trans (s _ _ _)).trans (s _ _ _)).trans (s _ _ _)
def peekV (its:List Item)(el ec:Nat):Value:=
 match its with
 |t::_=>.agg #[.int .i64 t.tok.kind,strV t.tok.text,.int .i64 t.tok.num,.int .i64 t.line,.int .i64 t.col]
 |[]=>.agg #[.int .i64 0,.string ⟨#[]⟩,.int .i64 0,.int .i64 el,.int .i64 ec]
theorem BG.took {w:World}{R:Nat}{t:Item}{its:List Item}{el ec:Nat}(h:BG w R (t::its) el ec):∃g o c,w.heap[R]?=some (.cells #[.slice (some ⟨g,o,none⟩) (its.length+1) c,.int .i64 0,.string ⟨#[]⟩,.int .i64 0,.int .i64 el,.int .i64 ec] TRd (0,0))∧its.length+1≤c∧(c≤9223372036854775807∧g<R)∧
  (w.cell? ⟨g,o,none⟩=some (.int .i64 t.tok.kind)∧w.cell? ⟨g,o+1,none⟩=some (strV t.tok.text)∧w.cell? ⟨g,o+2,none⟩=some (.int .i64 t.tok.num)∧w.cell? ⟨g,o+3,none⟩=some (.int .i64 t.line)∧w.cell? ⟨g,o+4,none⟩=some (.int .i64 t.col))∧
  ∀q c',(its=[]∨q=some ⟨g,o+5,none⟩)→(∀a,q=some a→a.block<R)→its.length≤c'→c'≤9223372036854775807→BG (w.setCell ⟨R,0,none⟩ (.slice q its.length c')) R its el ec:=by
 obtain⟨p,c,h1,h2,h3,h4,h5⟩:=h.ex;obtain⟨g,o,hp,q1,q2,q3,q4,q5⟩:=h2 0 (by simp);subst hp;simp only[List.getElem_cons_zero,Nat.zero_mul,Nat.add_zero]at q1 q2 q3 q4 q5;refine⟨g,o,c,h1,h4,⟨h5,h3 _ rfl⟩,⟨q1,q2,q3,q4,q5⟩,fun q c' hq hb hc hc2=>⟨q,c',put1 (i:=0) h1 _,?_,hb,hc,hc2⟩⟩;rcases hq with rfl|rfl
 ·exact fun i hi=>absurd hi (by simp)
 ·exact h2.tail.keep (BA.setCell (E:=fun b=>b=R) _ _ _ rfl) fun a ha e=>by
   have:=hb a ha;have e:a.block=R:=e;omega
theorem BG.took2 {w:World}{R:Nat}{t:Item}{its:List Item}{el ec:Nat}(h:BG w R (t::its) el ec):∃g o c,w.heap[R]?=some (.cells #[.slice (some ⟨g,o,none⟩) (its.length+1) c,.int .i64 0,.string ⟨#[]⟩,.int .i64 0,.int .i64 el,.int .i64 ec] TRd (0,0))∧its.length+1≤c∧(c≤9223372036854775807∧g<R)∧
  ∀ w' q c',(its=[]∨q=some ⟨g,o+5,none⟩)→(∀a,q=some a→a.block<R)→its.length≤c'→c'≤9223372036854775807→BA (fun b=>b=R) w w'→
   w'.heap[R]?=some (.cells #[.slice q its.length c',.int .i64 0,.string ⟨#[]⟩,.int .i64 0,.int .i64 el,.int .i64 ec] TRd (0,0))→BG w' R its el ec:=by
 obtain⟨p,c,h1,h2,h3,h4,h5⟩:=h.ex;obtain⟨g,o,hp,-⟩:=h2 0 (by simp);subst hp;refine⟨g,o,c,h1,h4,⟨h5,h3 _ rfl⟩,fun w' q c' hq hb hc hc2 k hw=>⟨q,c',hw,?_,hb,hc,hc2⟩⟩;rcases hq with rfl|rfl
 ·exact fun i hi=>absurd hi (by simp)
 ·exact h2.tail.keep k fun a ha e=>by
   have:=hb a ha;have e:a.block=R:=e;omega
abbrev rdV (R:Nat):Value:=.pointer (some ⟨R,0,none⟩)
abbrev TTk:TypeId:=117
theorem peek_any (w:World)(R:Nat)(its:List Item)(el ec:Nat)(h:BG w R its el ec):
  Calls Tryz.prog 79 #[rdV R] w fun e w'=>e=.returned (peekV its el ec)∧BA (fun _=>False) w w':=by
 obtain⟨V,B,hV,hB,hb,hk,hs⟩:=BD w (.cells #[.int .i64 0,.string ⟨#[]⟩,.int .i64 0,.int .i64 0,.int .i64 0] TTk);have HK:=hid hk;have HB:=hid hb;have HN:=hid (show w.heap.size≤B by omega);have hR:=h.keep hk fun _ _ e=>e;obtain⟨n0,n1,n2,n3,n4,f0,f1,f2,f3,f4⟩:=blk5 hb
 cases its with
 | nil=>
  obtain⟨p,c,h1,-⟩:=hR.ex;obtain⟨b0,b1,b2,b3,b4,b5,-⟩:=blk6 h1;clear h hR h1 hk hs hb;go_enter Tryz.func79,Tryz.ntmps79;go_upto_region 1 with fail;rw[←hV,←hB];clear hV hB;go_wp2_with fail;obtain⟨wf,hwf,hp,hkp⟩:=put5 HB.out (.int .i64 0) (.string ⟨#[]⟩) (.int .i64 0) (.int .i64 el) (.int .i64 ec);rw[←hwf];obtain⟨c0,c1,c2,c3,c4,-⟩:=blk5 hp;exact bodyPost_ret (v:=peekV [] el ec) (by simp[results,Tryz.results79,go_sem,c0,c1,c2,c3,c4,peekV]) rfl ⟨rfl,HK.out.new hkp fun k e=>by have h2:k=B:=e;have:=HN.out;omega⟩
 | cons t r=>
  obtain⟨g,o,c,h1,h2,h3,⟨q0,q1,q2,q3,q4⟩,-⟩:=hR.took;obtain⟨b0,-⟩:=blk6 h1;obtain⟨S,hS⟩:∃S,strV t.tok.text=.string S:=⟨_,rfl⟩;have HPV:=hid (show peekV (t::r) el ec=.agg #[.int .i64 t.tok.kind,.string S,.int .i64 t.tok.num,.int .i64 t.line,.int .i64 t.col] by show Value.agg #[_,strV t.tok.text,_,_,_]=_;rw[hS]);rw[hS]at q1;have hlen:¬((r.length:Int)+1=0):=by omega
  have hl0:(0:Int)<(r.length:Int)+1:=by omega
  clear h hR h1 h2 h3 hk hs hb hS;go_enter Tryz.func79,Tryz.ntmps79;go_upto_region 1 with fail;rw[←hV,←hB];clear hV hB;go_wp2_with fail;obtain⟨wf,hwf,hp,hkp⟩:=put5 HB.out (.int .i64 t.tok.kind) (.string S) (.int .i64 t.tok.num) (.int .i64 t.line) (.int .i64 t.col);rw[←hwf];obtain⟨c0,c1,c2,c3,c4,-⟩:=blk5 hp;exact bodyPost_ret (v:=peekV (t::r) el ec) (by rw[HPV.out];simp[results,Tryz.results79,go_sem,c0,c1,c2,c3,c4]) rfl ⟨rfl,HK.out.new hkp fun k e=>by have h2:k=B:=e;have:=HN.out;omega⟩
theorem str_list (l:List UInt8):(⟨l.toArray⟩:ByteArray).toList=l:=by simp
theorem headIs_peek {its:List Item}{s:List UInt8}{k n l c:Int}{S:ByteArray}{el ec:Nat}(h:peekV its el ec=.agg #[.int .i64 k,.string S,.int .i64 n,.int .i64 l,.int .i64 c]):BJ its s=(decide (S.toList=s) && (decide (k=4) || decide (k=1))):=by
 cases its with
 | nil=>
  unfold peekV at h;simp only[Value.agg.injEq,Array.mk.injEq,List.cons.injEq,Value.int.injEq,Value.string.injEq,true_and]at h;obtain⟨rfl,rfl,-⟩:=h;simp[BJ]
 | cons t r=>
  unfold peekV strV at h;simp only[Value.agg.injEq,Array.mk.injEq,List.cons.injEq,Value.int.injEq,Value.string.injEq,true_and]at h;obtain⟨rfl,rfl,-⟩:=h;rw[str_list];unfold BJ isT;dsimp only
  congr 1
  ·rw[Bool.eq_iff_iff,beq_iff_eq,decide_eq_true_eq]
  rw[Bool.eq_iff_iff,Bool.or_eq_true,Bool.or_eq_true,beq_iff_eq,beq_iff_eq,decide_eq_true_eq,decide_eq_true_eq];omega
theorem peekV_form (its:List Item)(el ec:Nat):∃k n l c S,peekV its el ec=.agg #[.int .i64 k,.string S,.int .i64 n,.int .i64 l,.int .i64 c]:=by
 cases its with
 |nil=>exact⟨_,_,_,_,_,rfl⟩
 |cons t r=>exact⟨_,_,_,_,_,rfl⟩
theorem is_any (w:World)(R:Nat)(its:List Item)(el ec:Nat)(h:BG w R its el ec)(s:List UInt8):
  Calls Tryz.prog 108 #[rdV R,.string ⟨s.toArray⟩] w fun e w'=>e=.returned (.bool (BJ its s))∧BA (fun _=>False) w w':=by
 have HP:=hid (peek_any w R its el ec h);obtain⟨k,n,l,c,S,hp⟩:=peekV_form its el ec;have HH:=hid (headIs_peek (s:=s) hp);rw[hp]at HP;rw[HH.out];clear hp h HH;by_cases h1:S.toList=s
 ·rw[decide_eq_true h1,Bool.true_and];by_cases h2:k=4
  ·subst h2;go_enter Tryz.func108,Tryz.ntmps108;go_wp2_with fail;go_at_call 79;refine HP.out.mono ?_;rintro e w1 ⟨rfl,hk⟩;obtain⟨V,B,hV,hB,hb,hk1,hs⟩:=BD w1 (.cells #[.int .i64 4,.string S,.int .i64 n,.int .i64 l,.int .i64 c] TTk);have HK:=hid (hk.trans hk1);obtain⟨n0,n1,-⟩:=blk5 hb;clear hb hs hk hk1;go_upto_region 2 with fail;rw[←hV,←hB];clear hV hB;go_wp2_with fail;go_ret;exact⟨rfl,HK.out⟩
  ·rw[decide_eq_false h2,Bool.false_or];by_cases h3:k=1
   ·subst h3;go_enter Tryz.func108,Tryz.ntmps108;go_wp2_with fail;go_at_call 79;refine HP.out.mono ?_;rintro e w1 ⟨rfl,hk⟩;obtain⟨V,B,hV,hB,hb,hk1,hs⟩:=BD w1 (.cells #[.int .i64 1,.string S,.int .i64 n,.int .i64 l,.int .i64 c] TTk);have HK:=hid (hk.trans hk1);obtain⟨n0,n1,-⟩:=blk5 hb;clear hb hs hk hk1;go_upto_region 2 with fail;rw[←hV,←hB];clear hV hB;go_wp2_with fail;go_ret;exact⟨rfl,HK.out⟩
   ·rw[decide_eq_false h3];go_enter Tryz.func108,Tryz.ntmps108;go_wp2_with fail;go_at_call 79;refine HP.out.mono ?_;rintro e w1 ⟨rfl,hk⟩;obtain⟨V,B,hV,hB,hb,hk1,hs⟩:=BD w1 (.cells #[.int .i64 k,.string S,.int .i64 n,.int .i64 l,.int .i64 c] TTk);have HK:=hid (hk.trans hk1);obtain⟨n0,n1,-⟩:=blk5 hb;clear hb hs hk hk1;go_upto_region 2 with fail;rw[←hV,←hB];clear hV hB;go_wp2_with fail;go_ret;have h2b:(k==4)=false:=by simpa using h2
    have h3b:(k==1)=false:=by simpa using h3
    exact⟨by show Ending.returned (.bool (k==4 || k==1))=_;rw[h2b,h3b];rfl,HK.out⟩
 ·rw[decide_eq_false h1,Bool.false_and];go_enter Tryz.func108,Tryz.ntmps108;go_wp2_with fail;go_at_call 79;refine HP.out.mono ?_;rintro e w1 ⟨rfl,hk⟩;obtain⟨V,B,hV,hB,hb,hk1,hs⟩:=BD w1 (.cells #[.int .i64 k,.string S,.int .i64 n,.int .i64 l,.int .i64 c] TTk);have HK:=hid (hk.trans hk1);obtain⟨n0,n1,-⟩:=blk5 hb;clear hb hs hk hk1;go_upto_region 2 with fail;rw[←hV,←hB];clear hV hB;go_wp2_with fail;go_ret;exact⟨rfl,HK.out⟩
theorem CA (w:World)(R:Nat)(its:List Item)(el ec:Nat)(h:BG w R its el ec)(s:List UInt8):
  Calls Tryz.prog 95 #[rdV R,.string ⟨s.toArray⟩] w fun e w'=>e=.returned (.bool (BJ its s))∧BG w' R (if BJ its s=true then its.tail else its) el ec∧BA (fun b=>b=R) w w':=by
 have HI:=hid (is_any w R its el ec h s);have HR:=hid h;clear h
 cases hb:BJ its s with
 | false=>
  rw[hb]at HI;go_enter Tryz.func95,Tryz.ntmps95;go_wp2_with (go_at_call 108;refine HI.out.mono ?_;rintro e w1 ⟨rfl,hk⟩;have HK:=hid hk;clear hk);go_ret;exact⟨rfl,HR.out.keep HK.out fun _ _ e=>e,HK.out.mono fun _ e=>e.elim⟩
 | true=>
  rw[hb]at HI
  cases its with
  |nil=>cases hb
  | cons t r=>
   clear hb;go_enter Tryz.func95,Tryz.ntmps95;go_wp2_with fail;go_at_call 108;refine HI.out.mono ?_;rintro e w1 ⟨rfl,hk⟩;have HK:=hid hk;obtain⟨g,o,c,h1,h2,⟨h3,hg⟩,-,htk⟩:=(HR.out.keep hk fun _ _ e=>e).took;have HTK:=hid htk;have HG:=hid hg;have H23:=hid (And.intro h2 h3);obtain⟨b0,-,-,-,-,-,f0⟩:=blk6 h1;clear hk h1 htk hg h3;by_cases hc:c=1
   ·subst hc;obtain rfl:r=[]:=List.eq_nil_of_length_eq_zero (by omega);go_wp2_with fail;go_ret;exact⟨rfl,HTK.out (some ⟨g,o,none⟩) 0 (by simp) (fun a ha=>by cases ha;exact HG.out) (Nat.le_refl _) (by decide),(HK.out.mono fun _ e=>e.elim).trans (BA.setCell _ _ _ rfl)⟩
   ·go_wp2_with fail;go_ret;exact⟨rfl,HTK.out (some ⟨g,o+5,none⟩) (c - 1) (.inr rfl) (fun a ha=>by cases ha;exact HG.out) (by have:=H23.out;omega) (by have:=H23.out;omega),(HK.out.mono fun _ e=>e.elim).trans (BA.setCell _ _ _ rfl)⟩
theorem want_any (w:World)(R:Nat)(t:Item)(r:List Item)(el ec:Nat)(h:BG w R (t::r) el ec)(k:Int)(hk:(t.tok.kind:Int)=k):
  Calls Tryz.prog 78 #[rdV R,.int .i64 k] w fun e w'=>e=.returned (.agg #[.int .i64 t.tok.kind,strV t.tok.text,.int .i64 t.tok.num,.int .i64 t.line,.int .i64 t.col])∧BG w' R r el ec∧BA (fun b=>b=R) w w':=by
 obtain⟨V,B,hV,hB,hb,hk0,hs⟩:=BD w (.cells #[.int .i64 0,.string ⟨#[]⟩,.int .i64 0,.int .i64 0,.int .i64 0] TTk);have hR:=h.keep hk0 fun _ _ e=>e;have HP:=hid (peek_any V R (t::r) el ec hR);have HR:=hid hR;obtain⟨S,hS⟩:∃S,strV t.tok.text=.string S:=⟨_,rfl⟩
 have hpv:peekV (t::r) el ec=.agg #[.int .i64 t.tok.kind,.string S,.int .i64 t.tok.num,.int .i64 t.line,.int .i64 t.col]:=by
  show Value.agg #[_,strV t.tok.text,_,_,_]=_;rw[hS]
 rw[hpv,hk]at HP;rw[hS,hk];obtain⟨tn,htn⟩:∃n:Int,(t.tok.num:Int)=n:=⟨_,rfl⟩;obtain⟨tl,htl⟩:∃n:Int,(t.line:Int)=n:=⟨_,rfl⟩;obtain⟨tc,htc⟩:∃n:Int,(t.col:Int)=n:=⟨_,rfl⟩;rw[htn,htl,htc]at HP ⊢;have HK0:=hid hk0;have HB:=hid hb;have HN:=hid (show R<w.heap.size∧w.heap.size=B∧B<V.heap.size from⟨h.lt,by omega,by omega⟩);clear hR hk hk0 hb hs h hpv hS htn htl htc;go_enter Tryz.func78,Tryz.ntmps78;go_upto_region 1 with fail;rw[←hV,←hB];clear hV hB;go_wp2_with fail;go_at_call 79;refine HP.out.mono ?_;rintro e w1 ⟨rfl,hk⟩;obtain⟨W,C,hW,hC,hc,hk1,hs1⟩:=BD w1 (.cells #[.int .i64 k,.string S,.int .i64 tn,.int .i64 tl,.int .i64 tc] TTk);have HK1:=hid (hk.trans hk1);have HC:=hid hc;have HCS:=hid (show V.heap.size≤C from by have:=hk.size;omega);obtain⟨g,o,c,h1,h2,⟨h3,hg⟩,-,htk⟩:=(HR.out.keep HK1.out fun _ _ e=>e).took;have HTK:=hid htk;have HG:=hid hg;have H23:=hid (And.intro h2 h3);obtain⟨b0,-,-,-,-,-,f0⟩:=blk6 h1;obtain⟨n0,n1,n2,n3,n4,-⟩:=blk5 hc;clear hk hk1 hs1 hc h1 htk hg h3;go_upto_region 2 with fail;rw[←hW,←hC];clear hW hC;go_upto_region 4 with fail;clear n0 n1 n2 n3 n4
 have hfin:∀q c',BG (W.setCell ⟨R,0,none⟩ (.slice q r.length c')) R r el ec→Hid (∃wq,wq=W.setCell ⟨R,0,none⟩ (.slice q r.length c')∧BG wq R r el ec∧BA (fun b=>b=R) w wq∧wq.heap[C]?=some (.cells #[.int .i64 k,.string S,.int .i64 tn,.int .i64 tl,.int .i64 tc] TTk (0,0))∧wq.heap[B]?=some (.cells #[.int .i64 0,.string ⟨#[]⟩,.int .i64 0,.int .i64 0,.int .i64 0] TTk (0,0))):=fun q c' hq=>by
  have ks:BA (fun b=>b=R) W (W.setCell ⟨R,0,none⟩ (.slice q r.length c')):=BA.setCell _ _ _ rfl;have hn:=HN.out;have hcs:=HCS.out;exact hid ⟨_,rfl,hq,((HK0.out.trans HK1.out).mono fun _ e=>e.elim).trans ks,ks.blkE HC.out fun e=>by have e:C=R:=e;omega,ks.blkE (HK1.out.blk HB.out) fun e=>by have e:B=R:=e;omega⟩
 have hend:∀wq,BG wq R r el ec→BA (fun b=>b=R) w wq→wq.heap[B]?=some (.cells #[.int .i64 0,.string ⟨#[]⟩,.int .i64 0,.int .i64 0,.int .i64 0] TTk (0,0))→∃wf,wf=((((wq.setCell ⟨B,0,none⟩ (.int .i64 k)).setCell ⟨B,1,none⟩ (.string S)).setCell ⟨B,2,none⟩ (.int .i64 tn)).setCell ⟨B,3,none⟩ (.int .i64 tl)).setCell ⟨B,4,none⟩ (.int .i64 tc)∧wf.heap[B]?=some (.cells #[.int .i64 k,.string S,.int .i64 tn,.int .i64 tl,.int .i64 tc] TTk (0,0))∧BG wf R r el ec∧BA (fun b=>b=R) w wf:=fun wq hr hkw hbq=>by
  obtain⟨wf,hwf,hp,hkp⟩:=put5 hbq (.int .i64 k) (.string S) (.int .i64 tn) (.int .i64 tl) (.int .i64 tc);have hn:=HN.out;exact⟨wf,hwf,hp,hr.keep hkp fun b hb e=>by have e:b=B:=e;omega,hkw.newE hkp fun b e=>by have e:b=B:=e;omega⟩
 have HEND:=hid hend;by_cases hc:c=1
 ·subst hc;obtain rfl:r=[]:=List.eq_nil_of_length_eq_zero (by omega);have hq:Hid (∃wq,wq=W.setCell ⟨R,0,none⟩ (.slice (some ⟨g,o,none⟩) 0 0)∧BG wq R [] el ec∧BA (fun b=>b=R) w wq∧wq.heap[C]?=some (.cells #[.int .i64 k,.string S,.int .i64 tn,.int .i64 tl,.int .i64 tc] TTk (0,0))∧wq.heap[B]?=some (.cells #[.int .i64 0,.string ⟨#[]⟩,.int .i64 0,.int .i64 0,.int .i64 0] TTk (0,0))):=hfin _ _ (HTK.out (some ⟨g,o,none⟩) 0 (.inl rfl) (fun a ha=>by cases ha;exact HG.out) (Nat.le_refl _) (by decide));clear hfin hend;go_upto_region 5 with fail;obtain⟨wq,hwq,hr,hkw,hcq,hbq⟩:=hq.out;rw[←hwq];clear hq hwq;obtain⟨n0,n1,n2,n3,n4,-⟩:=blk5 hcq;obtain⟨m0,m1,m2,m3,m4,f0,f1,f2,f3,f4⟩:=blk5 hbq;have HR9:=hid hr;have HK9:=hid hkw;have HB9:=hid hbq;clear hr hkw hcq hbq b0;go_wp2_with fail;obtain⟨wf,hwf,hp,hrf,hkf⟩:=HEND.out _ HR9.out HK9.out HB9.out;rw[←hwf];obtain⟨c0,c1,c2,c3,c4,-⟩:=blk5 hp;exact bodyPost_ret (v:=.agg #[.int .i64 k,.string S,.int .i64 tn,.int .i64 tl,.int .i64 tc]) (by simp[results,Tryz.results78,go_sem,c0,c1,c2,c3,c4]) rfl ⟨rfl,hrf,hkf⟩
 ·have hq:=hfin _ _ (HTK.out (some ⟨g,o+5,none⟩) (c - 1) (.inr rfl) (fun a ha=>by cases ha;exact HG.out) (by omega) (by have:=H23.out;omega));clear hfin hend;go_upto_region 5 with fail;obtain⟨wq,hwq,hr,hkw,hcq,hbq⟩:=hq.out;rw[←hwq];clear hq hwq;obtain⟨n0,n1,n2,n3,n4,-⟩:=blk5 hcq;obtain⟨m0,m1,m2,m3,m4,f0,f1,f2,f3,f4⟩:=blk5 hbq;have HR9:=hid hr;have HK9:=hid hkw;have HB9:=hid hbq;clear hr hkw hcq hbq b0;go_wp2_with fail;obtain⟨wf,hwf,hp,hrf,hkf⟩:=HEND.out _ HR9.out HK9.out HB9.out;rw[←hwf];obtain⟨c0,c1,c2,c3,c4,-⟩:=blk5 hp;exact bodyPost_ret (v:=.agg #[.int .i64 k,.string S,.int .i64 tn,.int .i64 tl,.int .i64 tc]) (by simp[results,Tryz.results78,go_sem,c0,c1,c2,c3,c4]) rfl ⟨rfl,hrf,hkf⟩
end Go.Proofs.YtknnmidnodeanaaGreatDoor
