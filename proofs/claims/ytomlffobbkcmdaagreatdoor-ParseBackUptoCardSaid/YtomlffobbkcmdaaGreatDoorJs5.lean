import Derived.Test.YtomlffobbkcmdaaGreatDoorJs3
import Derived.Test.YtomlffobbkcmdaaGreatDoorJs4
import Derived.Lib.AppendIntMem
set_option maxHeartbeats 4000000
namespace Go.Proofs.YtomlffobbkcmdaaGreatDoor
open Go Go.RowKit Own
open Go.Lib (hid)
def runeP (q:UInt8→Bool)(r:Nat):Bool:=decide (127<r) || !q (UInt8.ofNat r)
theorem byteV_ofNat {r:Nat}(h:r≤127):byteV (UInt8.ofNat r)=.int .u8 (r:Int):=by
 unfold byteV
 rw[UInt8.toNat_ofNat']
 congr 1
 omega
theorem u8_in {r:Nat}(h:r≤127):IntKind.u8.wrap (r:Int)=(r:Int):=by
 have e:∀n:Int,0≤n→n<256→IntKind.u8.wrap n=n:=fun n h1 h2=>by
  simp[IntKind.wrap,IntKind.bits,IntKind.signed]
  omega
 exact e _ (by omega) (by omega)
theorem spanP_any (q:UInt8→Bool)(fid:Nat)(eg:∀args w,(callFunc fid args).run Tryz.prog w=.ok (.enter fid args) w)(hq:∀(c:UInt8) (w:World),Calls Tryz.prog fid #[byteV c] w fun e w'=>e=.returned (.bool (q c))∧w'=w)
  (w:World) (B:Nat) (hB:B<w.heap.size) (hc:w.cell? ⟨B,0,none⟩=some (.func (.func fid) #[] #[])):
  PredAt Tryz.prog 108 #[.pointer (some ⟨B,0,none⟩)] encR (runeP q) w:=fun W r hb=>by
 have hc':W.cell? ⟨B,0,none⟩=some (.func (.func fid) #[] #[]):=(hb.cell (p:=⟨B,0,none⟩) hB).trans hc
 clear hc hb
 unfold FnGives
 by_cases h:r≤127
 ·have h1:¬(127:Int)<(r:Int):=by omega
  have hw:=u8_in h
  have hQ:=hid (hq (UInt8.ofNat r))
  have hE:=hid (show runeP q r=!q (UInt8.ofNat r) by unfold runeP;rw[decide_eq_false (by omega)];rfl)
  rw[byteV_ofNat h]at hQ
  clear hq
  go_enter Tryz.func108,Tryz.ntmps108
  go_wp2_with (go_at_fn fid;refine(hQ.out _).mono ?_;rintro e w' ⟨rfl,rfl⟩)
  go_ret
  exact⟨ret_bool hE.out.symm,0,rfl⟩
 ·have h1:(127:Int)<(r:Int):=by omega
  have hE:=hid (show runeP q r=true by unfold runeP;rw[decide_eq_true (by omega)];rfl)
  clear hq
  go_enter Tryz.func108,Tryz.ntmps108
  go_wp2
  go_ret
  exact⟨ret_bool hE.out.symm,0,rfl⟩
theorem runeP_small {q:UInt8→Bool}(c:UInt8)(h:c.toNat<128):runeP q c.toNat=!q c:=by
 unfold runeP
 rw[decide_eq_false (by omega),UInt8.ofNat_toNat];rfl
theorem runeP_big {q:UInt8→Bool}(r:Nat)(h:128≤r):runeP q r=true:=by
 unfold runeP
 rw[decide_eq_true (by omega)];rfl
theorem span_any (q:UInt8→Bool)(hs:∀c:UInt8,128≤c.toNat→q c=false)(fid:Nat)(eg:∀args w,(callFunc fid args).run Tryz.prog w=.ok (.enter fid args) w)(hq:∀(c:UInt8) (w:World),Calls Tryz.prog fid #[byteV c] w fun e w'=>e=.returned (.bool (q c))∧w'=w)
  (s:ByteArray) (w:World):
  Calls Tryz.prog 86 #[.string s,.func (.func fid) #[] #[]] w fun e w'=>e=.returned (.int .i64 ((s.data.toList.takeWhile q).length:Nat))∧BA (fun _=>False) w w':=by
 have hC:=hid fun W hB hc=>Tryz.strings_IndexFunc 108 #[.pointer (some ⟨w.heap.size,0,none⟩)] (enters_of Tryz.func108 (by kernel_rfl) rfl) _ s W (spanP_any q fid eg hq W w.heap.size hB hc)
 have hI:=idx_span (p:=runeP q) hs runeP_small runeP_big s s.size 0 (by omega) (by omega)
 rw[List.drop_zero]at hI
 have hl:s.data.toList.length=s.size:=by simp
 rw[hl]at hI
 obtain⟨I,hI'⟩:∃I,Lib.idxFunc (runeP q) true s=I:=⟨_,rfl⟩
 obtain⟨m,hm⟩:∃m,(s.data.toList.takeWhile q).length=m:=⟨_,rfl⟩
 rw[show Lib.idxFuncFrom (runeP q) true s s.size 0=I from hI',hm,Nat.zero_add]at hI
 rw[hm]
 have hC2:Hid (∀W:World,w.heap.size<W.heap.size→W.cell? ⟨w.heap.size,0,none⟩=some (.func (.func fid) #[] #[])→Calls Tryz.prog 107 #[.string s,.func (.func 108) #[] #[.pointer (some ⟨w.heap.size,0,none⟩)]] W fun e w'=>e=.returned (.int .i64 I)∧Below W.heap.size W w'):=fun W hB hc=>by
  have:=hC.out W hB hc
  rw[hI']at this;exact this
 clear hC hI' hl hm
 by_cases h:m=s.size
 ·rw[if_pos h]at hI
  have hI:=hI
  subst hI
  have HM:=hid h
  clear h hs hq
  go_enter Tryz.func86,Tryz.ntmps86
  go_wp2_with (go_at_call 107;refine(hC2.out _ (by simp) (by simp)).mono ?_;rintro e w' ⟨rfl,hb⟩)
  go_ret
  exact⟨ret_int (by rw[HM.out]),(BA.alloc _ w _).trans (BA.of_below hb)⟩
 ·rw[if_neg h]at hI
  have hI0:¬I<0:=by omega
  have HI:=hid hI
  clear h hI hs hq
  go_enter Tryz.func86,Tryz.ntmps86
  go_wp2_with (go_at_call 107;refine(hC2.out _ (by simp) (by simp)).mono ?_;rintro e w' ⟨rfl,hb⟩)
  go_ret
  exact⟨ret_int HI.out,(BA.alloc _ w _).trans (BA.of_below hb)⟩
theorem BJ {w:World}{b k:Nat}{cs:Array Value}{T:TypeId}{v:Value}(h:w.heap[b]?=some (.cells cs T (0,0)))(hk:cs[k]?=some v):w.cell? ⟨b,k,none⟩=some v:=by
 simp[World.cell?,h,hk]
def strV (l:List UInt8):Value:=.string ⟨l.toArray⟩
def tokV (t:Tok)(line col:Nat):Value:=.agg #[.int .i64 t.kind,strV t.text,.int .i64 t.num,.int .i64 line,.int .i64 col]
def wordsS:ByteArray:=⟨#[112,111,111,108,32,115,116,97,99,107,32,113,117,101,117,101,32,115,101,116,32,116,104,114,101,97,100,32,118,97,114,32,97,114,114,97,121,32,105,102,32,101,108,115,101,32,119,104,105,108,101,32,111,117,116,32,104,97,108,116,32,112,117,115,104,32,112,111,112,32,101,110,113,32,100,101,113,32,97,100,100,32,114,101,109,111,118,101,32,104,97,115]⟩
theorem fields_words:Lib.fields wordsS.data.toList=wordsL:=by decide +kernel
theorem extract_take (s:ByteArray)(m:Nat):s.extract 0 m=⟨(s.data.toList.take m).toArray⟩:=by
 apply ByteArray.ext
 rw[ByteArray.data_extract]
 apply Array.toList_inj.1
 simp
abbrev TabS (w : World) : Prop := Lib.TabIs Tryz.prog w "strings.asciiSpace" .u8 Lib.asciiSpaceTab
theorem Own.BA.tabS {w w':World}(h:BA (fun _=>False) w w')(t:TabS w):TabS w':=
 Lib.tabBelow_of_tabIs t w' ⟨h.os,h.tape,h.output,h.size,fun j hj=>h.block j hj fun e=>e⟩
theorem reserved_any (w:World)(htab:TabS w):
  Calls Tryz.prog 110 #[] w fun e w'=>e=.returned (.slice (some ⟨w.heap.size,0,none⟩) 19 19)∧w'=w.alloc (.cells (wordsL.map fun l=>Value.string ⟨l.toArray⟩).toArray 9):=by
 have hF:=Tryz.strings_Fields wordsS w (by decide) (fun j b h=>by
  have hm:=List.mem_of_getElem? h
  have hall:∀b∈wordsS.data.toList,b.toNat<128:=by decide +kernel
  exact hall b hm) htab
 rw[fields_words]at hF
 have HF:=hid hF
 clear hF
 go_enter Tryz.func110,Tryz.ntmps110
 go_wp2_with (go_at_call 128;refine HF.out.mono ?_;rintro e w' ⟨rfl,rfl⟩)
 go_ret
 exact⟨rfl,rfl⟩
theorem words_cells (w:World)(j:Nat)(h:j<(wordsL.map fun l=>(⟨l.toArray⟩:ByteArray)).length):
  (w.alloc (.cells (wordsL.map fun l=>Value.string ⟨l.toArray⟩).toArray 9)).cell? ⟨w.heap.size,0+j,none⟩=some (.string ((wordsL.map fun l=>(⟨l.toArray⟩:ByteArray)).getD j ByteArray.empty)):=by
 refine BJ (heap_alloc_new w _) ?_
 rw[Nat.zero_add]
 rw[List.length_map]at h
 simp[List.getD,h]
theorem isReserved_any (s:ByteArray)(w:World)(htab:TabS w):
  Calls Tryz.prog 88 #[.string s] w fun e w'=>e=.returned (.bool (DG s.data.toList))∧BA (fun _=>False) w w':=by
 have hR:=hid (reserved_any w htab)
 have hC:=Tryz.slices_Contains_string w.heap.size 0 19 19 (wordsL.map fun l=>(⟨l.toArray⟩:ByteArray)) s (w.alloc (.cells (wordsL.map fun l=>Value.string ⟨l.toArray⟩).toArray 9)) (by decide) (by decide) (words_cells w)
 rw[List.take_of_length_le (by decide),reserved_contains]at hC
 obtain⟨r,hr⟩:∃r,DG s.data.toList=r:=⟨_,rfl⟩
 rw[show wordsL.contains s.data.toList=r from hr]at hC
 rw[hr]
 have HC:=hid hC
 clear hC
 obtain⟨W,hW⟩:∃W,w.alloc (.cells (wordsL.map fun l=>Value.string ⟨l.toArray⟩).toArray 9)=W:=⟨_,rfl⟩
 have HK:=hid (show BA (fun _=>False) w W by rw[←hW];exact BA.alloc _ _ _)
 rw[hW]at hR HC
 clear hW
 go_enter Tryz.func88,Tryz.ntmps88
 go_wp2_with (first
  |(go_at_call 110;refine hR.out.mono ?_;rintro e w' ⟨rfl,rfl⟩)
  |(go_at_call 109;refine HC.out.mono ?_;rintro e w' ⟨rfl,rfl⟩))
 go_ret
 exact⟨rfl,HK.out⟩
theorem Own.BA.blkE {E:Nat→Prop}{w w':World}(h:BA E w w'){b:Nat}{x:Obj}(hc:w.heap[b]?=some x)(hE:¬E b):w'.heap[b]?=some x:=by
 rw[h.block b (AG.1 hc).1 hE]
 exact hc
theorem blk5 {w:World}{B:Nat}{a b c d e:Value}{T:TypeId}(h:w.heap[B]?=some (.cells #[a,b,c,d,e] T (0,0))):
  w.cell? ⟨B,0,none⟩=some a∧w.cell? ⟨B,1,none⟩=some b∧w.cell? ⟨B,2,none⟩=some c∧w.cell? ⟨B,3,none⟩=some d∧w.cell? ⟨B,4,none⟩=some e∧
  w.frozen? ⟨B,0,none⟩=false∧w.frozen? ⟨B,1,none⟩=false∧w.frozen? ⟨B,2,none⟩=false∧w.frozen? ⟨B,3,none⟩=false∧w.frozen? ⟨B,4,none⟩=false:=by
 simp[World.cell?,World.frozen?,h]
theorem put1 {w:World}{B i:Nat}{cs:Array Value}{T:TypeId}(h:w.heap[B]?=some (.cells cs T (0,0)))(v:Value):(w.setCell ⟨B,i,none⟩ v).heap[B]?=some (.cells (cs.setIfInBounds i v) T (0,0)):=by
 obtain⟨hlt,hk⟩:=AG.1 h
 show (w.heap.modify B _)[B]?=_
 rw[Array.getElem?_eq_getElem (by rw[Array.size_modify];exact hlt),Array.getElem_modify_self,hk]
 rfl
theorem put5 {w:World}{B:Nat}{a b c d e:Value}{T:TypeId}(h:w.heap[B]?=some (.cells #[a,b,c,d,e] T (0,0)))(v0 v1 v2 v3 v4:Value):
  ∃wf,wf=(((((w.setCell ⟨B,0,none⟩ v0).setCell ⟨B,1,none⟩ v1).setCell ⟨B,2,none⟩ v2).setCell ⟨B,3,none⟩ v3).setCell ⟨B,4,none⟩ v4)∧wf.heap[B]?=some (.cells #[v0,v1,v2,v3,v4] T (0,0))∧BA (fun k=>k=B) w wf:=by
 refine⟨_,rfl,?_,?_⟩
 ·have h1:=put1 (i:=4) (put1 (i:=3) (put1 (i:=2) (put1 (i:=1) (put1 (i:=0) h v0) v1) v2) v3) v4
  exact h1
 ·have s:∀(w:World) (i:Nat) (v:Value),BA (fun k=>k=B) w (w.setCell ⟨B,i,none⟩ v):=fun w i v=>BA.setCell _ _ _ rfl
  exact((((s _ _ _).trans (s _ _ _)).trans (s _ _ _)).trans (s _ _ _)).trans (s _ _ _)
theorem word_any (s:ByteArray)(w:World)(htab:TabS w):
  Calls Tryz.prog 117 #[.string s] w fun e w'=>e=.returned (.tuple #[tokV (wordT s.data.toList).1 0 0,.int .i64 (wordT s.data.toList).2])∧BA (fun _=>False) w w':=by
 obtain⟨m,hm⟩:∃m,(s.data.toList.takeWhile FU).length=m:=⟨_,rfl⟩
 have hsl:s.data.toList.length=s.size:=by simp
 have hms:m≤s.size:=by rw[←hm,←hsl];exact takeWhile_le _ _
 have het:s.extract 0 m=⟨(s.data.toList.takeWhile FU).toArray⟩:=by rw[extract_take,←hm,takeWhile_take]
 obtain⟨W0,B,hW0,hB,hb,hk0,hs0⟩:=BC w (.cells #[.int .i64 0,.string ⟨#[]⟩,.int .i64 0,.int .i64 0,.int .i64 0] 76)
 have hS:=span_any FU word_small 87 (enters_of Tryz.func87 (by kernel_rfl) rfl) inWord_any s W0
 rw[hm]at hS
 have HS:=hid hS
 have HB:=hid hb;have HK:=hid hk0;have HT:=hid (hk0.tabS htab)
 have HN:=hid (show w.heap.size=B∧B<W0.heap.size by omega)
 clear hS hsl hb hk0 hs0 htab
 by_cases h16:16<m
 ·have h16i:(16:Int)<m:=by omega
  have HE:=hid (show wordT s.data.toList=(Tok.zero,3) by unfold wordT;rw[hm,if_pos h16])
  clear hm het hms
  go_enter Tryz.func117,Tryz.ntmps117
  go_upto_region 1 with fail
  rw[←hW0,←hB]
  clear hW0 hB
  go_wp2_with (go_at_call 86;refine HS.out.mono ?_;rintro e w1 ⟨rfl,hk1⟩;have HB1:=hid (hk1.blk HB.out);obtain⟨n0,n1,n2,n3,n4,f0,f1,f2,f3,f4⟩:=blk5 HB1.out;have HK1:=hid hk1;clear hk1)
  obtain⟨wf,hwf,hp,hkp⟩:=put5 HB1.out (.int .i64 0) (.string ⟨#[]⟩) (.int .i64 0) (.int .i64 0) (.int .i64 0)
  rw[←hwf]
  obtain⟨c0,c1,c2,c3,c4,-⟩:=blk5 hp
  refine bodyPost_ret (v:=.tuple #[.agg #[.int .i64 0,.string ⟨#[]⟩,.int .i64 0,.int .i64 0,.int .i64 0],.int .i64 3]) (by simp[results,Tryz.results117,go_sem,c0,c1,c2,c3,c4]) rfl ⟨by rw[HE.out];rfl,?_⟩
  exact(HK.out.trans HK1.out).new hkp fun k e=>by have h2:k=B:=e;have:=HN.out;omega
 ·have h16i:¬(16:Int)<m:=by omega
  have h0:(0:Int)≤m:=by omega
  have hmi:(m:Int)≤s.size:=by omega
  obtain⟨tx,htx⟩:∃tx,s.data.toList.takeWhile FU=tx:=⟨_,rfl⟩
  rw[htx]at het
  have hre:∀W:World,TabS W→Calls Tryz.prog 88 #[.string ⟨tx.toArray⟩] W fun e w'=>e=.returned (.bool (DG tx))∧BA (fun _=>False) W w':=fun W h=>by
   have:=isReserved_any ⟨tx.toArray⟩ W h
   simpa using this
  obtain⟨r,hr⟩:∃r,DG tx=r:=⟨_,rfl⟩
  rw[hr]at hre
  have HR:=hid hre
  have HE:=hid (show wordT s.data.toList=(⟨if r=true then 1 else 2,tx,0⟩,0) by unfold wordT;rw[hm,if_neg h16,htx,hr])
  clear h16 hm htx hre hr
  go_enter Tryz.func117,Tryz.ntmps117
  go_upto_region 1 with fail
  rw[←hW0,←hB]
  clear hW0 hB
  go_upto_region 5 with (go_at_call 86;refine HS.out.mono ?_;rintro e w1 ⟨rfl,hk1⟩;have HB1:=hid (hk1.blk HB.out);have HK1:=hid hk1;clear hk1)
  obtain⟨W2,B5,hW2,hB5,hb5,hk2,-⟩:=BC w1 (.cells #[.int .i64 2,.string ⟨tx.toArray⟩,.int .i64 0,.int .i64 0,.int .i64 0] 76)
  rw[←hW2,←hB5]
  have HB5:=hid hb5
  have HK2:=hid (HK1.out.trans hk2)
  have HL5:=hid (show W0.heap.size≤B5∧B<B5 by have:=HK1.out.size;have:=HN.out;omega)
  have HT2:=hid (HK2.out.tabS HT.out)
  have n1:=(blk5 hb5).2.1
  clear hW2 hB5 hb5 hk2 het hmi h0
  cases r with
  | false=>
   go_upto_region 7 with (go_at_call 88;refine(HR.out _ HT2.out).mono ?_;rintro e w3 ⟨rfl,hk3⟩;have HB3:=hid (hk3.blk (HK2.out.blk HB.out));have HB53:=hid (hk3.blk HB5.out);have HK3:=hid (HK2.out.trans hk3);clear hk3)
   obtain⟨n0,n1,n2,n3,n4,f0,f1,f2,f3,f4⟩:=blk5 HB3.out
   obtain⟨m0,m1,m2,m3,m4,-⟩:=blk5 HB53.out
   go_wp2_with fail
   obtain⟨wf,hwf,hp,hkp⟩:=put5 HB3.out (.int .i64 2) (.string ⟨tx.toArray⟩) (.int .i64 0) (.int .i64 0) (.int .i64 0)
   rw[←hwf]
   obtain⟨c0,c1,c2,c3,c4,-⟩:=blk5 hp
   refine bodyPost_ret (v:=.tuple #[.agg #[.int .i64 2,.string ⟨tx.toArray⟩,.int .i64 0,.int .i64 0,.int .i64 0],.int .i64 0]) (by simp[results,Tryz.results117,go_sem,c0,c1,c2,c3,c4]) rfl ⟨by rw[HE.out];rfl,?_⟩
   exact(HK.out.trans HK3.out).new hkp fun k e=>by have h2:k=B:=e;have:=HN.out;omega
  | true=>
   go_upto_region 7 with (go_at_call 88;refine(HR.out _ HT2.out).mono ?_;rintro e w3 ⟨rfl,hk3⟩;have HB3:=hid (hk3.blk (HK2.out.blk HB.out));have HB53:=hid (hk3.blk HB5.out);have HK3:=hid (HK2.out.trans hk3);clear hk3;obtain⟨n0,-,-,-,-,f0,-⟩:=blk5 HB53.out)
   have hb6:=put1 (i:=0) HB53.out (.int .i64 1)
   have hk6:BA (fun k=>k=B5) w3 (w3.setCell ⟨B5,0,none⟩ (.int .i64 1)):=BA.setCell _ _ _ rfl
   obtain⟨w6,hw6⟩:∃w6,w3.setCell ⟨B5,0,none⟩ (.int .i64 1)=w6:=⟨_,rfl⟩
   rw[hw6]at hb6 hk6 ⊢
   have HB6:=hid (BA.blkE hk6 HB3.out (fun e=>by have h1:=hk6.size;have:=HL5.out;omega))
   clear n0 f0
   obtain⟨n0,n1,n2,n3,n4,f0,f1,f2,f3,f4⟩:=blk5 HB6.out
   obtain⟨m0,m1,m2,m3,m4,-⟩:=blk5 (a:=.int .i64 1) hb6
   have HK6:=hid (HK3.out.new hk6 fun k e=>by have h2:k=B5:=e;have:=HL5.out;omega)
   clear hw6 hb6 hk6
   go_wp2_with fail
   obtain⟨wf,hwf,hp,hkp⟩:=put5 HB6.out (.int .i64 1) (.string ⟨tx.toArray⟩) (.int .i64 0) (.int .i64 0) (.int .i64 0)
   rw[←hwf]
   obtain⟨c0,c1,c2,c3,c4,-⟩:=blk5 hp
   refine bodyPost_ret (v:=.tuple #[.agg #[.int .i64 1,.string ⟨tx.toArray⟩,.int .i64 0,.int .i64 0,.int .i64 0],.int .i64 0]) (by simp[results,Tryz.results117,go_sem,c0,c1,c2,c3,c4]) rfl ⟨by rw[HE.out];rfl,?_⟩
   exact(HK.out.trans HK6.out).new hkp fun k e=>by have h2:k=B:=e;have:=HN.out;omega
def asideB (n m1 m2:Nat)(x1 x2:Obj)(j:Nat)(w:World):Prop:=if j=n then w.heap[m1]?=some x1 else if j=n+1 then w.heap[m2]?=some x2 else True
def asideBFp (n m1 m2:Nat)(j b:Nat):Prop:=(j=n∧b=m1)∨(j=n+1∧b=m2)
theorem wp_ownB {P:Program}{l:List Oper}{Q:Exit→Act→World→Prop}{id:Nat}{a:Act}{w:World}(hm:P.follows .mixedOrders=true)
  (m1 m2:Nat) (x1 x2:Obj) (h1:w.heap[m1]?=some x1) (h2:w.heap[m2]?=some x2) (hne:m1≠m2) (D av ea:Nat→List Nat) (keep:List Nat) (hok:okB l.toArray D av ea keep=true) (sp:Nat→Option Loud)
  (hlex:Lex P l.toArray w.drew (fun b=>b=m1∨b=m2) sp av ea (fun a F Fp=>Done w.drew (fun b=>b=m1∨b=m2) Q keep a F Fp) l 0 a (asideB l.length m1 m2 x1 x2) (asideBFp l.length m1 m2)):(Code.region id l.toArray true).wp P Q a w:=by
 have lt:∀{m:Nat}{x:Obj},w.heap[m]?=some x→m<w.heap.size:=fun h=>(AG.1 h).1
 refine wp_own_lit hm D av ea keep hok sp _ _ _ ?_ ?_ ?_ ?_ hlex
 ·intro j hj
  have hj':j<l.length:=by simpa using hj
  funext w';unfold asideB;rw[if_neg (by omega),if_neg (by omega)]
 ·intro j hj
  have hj':j<l.length:=by simpa using hj
  funext b;unfold asideBFp
  exact propext ⟨fun h=>by rcases h with h|h<;>omega,fun h=>h.elim⟩
 ·intro j hj
  refine⟨fun w1 w2 _ _ _ h hk=>?_,?_,fun b hb=>?_⟩
  ·unfold asideB at hk ⊢
   by_cases e1:j=l.length
   ·rw[if_pos e1]at hk ⊢
    rw[←hk];exact h m1 (.inl ⟨e1,rfl⟩)
   ·rw[if_neg e1]at hk ⊢
    by_cases e2:j=l.length+1
    ·rw[if_pos e2]at hk ⊢
     rw[←hk];exact h m2 (.inr ⟨e2,rfl⟩)
    ·rw[if_neg e2];trivial
  ·unfold asideB
   by_cases e1:j=l.length
   ·rw[if_pos e1];exact h1
   ·rw[if_neg e1]
    by_cases e2:j=l.length+1
    ·rw[if_pos e2];exact h2
    ·rw[if_neg e2];trivial
  ·rcases hb with⟨_,hb⟩|⟨_,hb⟩
   ·exact⟨by rw[hb];exact lt h1,.inl hb⟩
   ·exact⟨by rw[hb];exact lt h2,.inr hb⟩
 ·intro i j _ _ hij b e1 e2
  rcases e1 with⟨a1,a2⟩|⟨a1,a2⟩<;>rcases e2 with⟨b1,b2⟩|⟨b1,b2⟩<;>omega
section
variable {P : Program}{w0 : World}{M : Nat→Prop}{o : Oper}{a : Act}{av ea : List Nat}{F : Nat→World→Prop}{Fp : Nat→Nat→Prop}
def sCell (b i:Nat)(T:TypeId)(cs0:Array Value)(v:Value):Loud:={ val:=fun _ _=>undef,fp:=fun _ _ k=>k=b,post:=fun _ _ w=>w.heap[b]?=some (.cells (cs0.setIfInBounds i v) T (0,0)) }
theorem FW (b i:Nat)(T:TypeId)(cs0:Array Value)(v:Value)(hrun:∀w u,w.cell? ⟨b,i,none⟩=some u→w.frozen? ⟨b,i,none⟩=false→(execOp a.eval o).run P w=.ok .skip (w.setCell ⟨b,i,none⟩ v))
  (j:Nat) (hja:j∈av) (hje:j∈ea) (hF:∀w,F j w→w.heap[b]?=some (.cells cs0 T (0,0))) (hfp:Fp j b) (hi:i<cs0.size):FO P w0 M o a (sCell b i T cs0 v) av ea F Fp:=by
 refine DB ⟨default,trivial⟩ (fun g _ w w' _ _ _ h k=>(h b rfl).trans k) fun w _ hav _=>?_
 obtain⟨hj,hb⟩:=hav j hja
 have hh:=hF w hj
 refine⟨w.setCell ⟨b,i,none⟩ v,default,trivial,.inr ⟨hrun w _ (BJ hh (Array.getElem?_eq_getElem hi)) (by simp[World.frozen?,hh]),rfl⟩,BA.setCell _ _ _ ⟨j,hje,hfp⟩,fun k hk=>⟨.inr ⟨j,hje,by rw[show k=b from hk];exact hfp⟩,?_⟩,put1 hh v⟩
 rw[show k=b from hk]
 exact Nat.lt_of_lt_of_le (hb b hfp).1 (by simp[World.setCell])
end
end Go.Proofs.YtomlffobbkcmdaaGreatDoor
namespace Go.Proofs.YtomlffobbkcmdaaGreatDoor.OwnX
open Go Go.RowKit Own
open Go.Lib (hid)
theorem wp_ownB {P:Program}{l:List Oper}{Q:Exit→Act→World→Prop}{id:Nat}{a:Act}{w:World}(X:List PanicEntry→World→Prop)(hX:∀ch a' w',a'.defers=a.defers→X ch w'→Q (.panic ch) a' w')(hm:P.follows .mixedOrders=true)
  (m1 m2:Nat) (x1 x2:Obj) (h1:w.heap[m1]?=some x1) (h2:w.heap[m2]?=some x2) (hne:m1≠m2) (D av ea:Nat→List Nat) (keep:List Nat) (hok:okB l.toArray D av ea keep=true) (sp:Nat→Option Loud)
  (hlex:Lex P l.toArray w.drew (fun b=>b=m1∨b=m2) X sp av ea (fun a F Fp=>Done w.drew (fun b=>b=m1∨b=m2) Q keep a F Fp) l 0 a (asideB l.length m1 m2 x1 x2) (asideBFp l.length m1 m2)):(Code.region id l.toArray true).wp P Q a w:=by
 have lt:∀{m:Nat}{x:Obj},w.heap[m]?=some x→m<w.heap.size:=fun h=>(AG.1 h).1
 refine wp_own_lit X hX hm D av ea keep hok sp _ _ _ ?_ ?_ ?_ ?_ hlex
 ·intro j hj
  have hj':j<l.length:=by simpa using hj
  funext w';unfold asideB;rw[if_neg (by omega),if_neg (by omega)]
 ·intro j hj
  have hj':j<l.length:=by simpa using hj
  funext b;unfold asideBFp
  exact propext ⟨fun h=>by rcases h with h|h<;>omega,fun h=>h.elim⟩
 ·intro j hj
  refine⟨fun w1 w2 _ _ _ h hk=>?_,?_,fun b hb=>?_⟩
  ·unfold asideB at hk ⊢
   by_cases e1:j=l.length
   ·rw[if_pos e1]at hk ⊢
    rw[←hk];exact h m1 (.inl ⟨e1,rfl⟩)
   ·rw[if_neg e1]at hk ⊢
    by_cases e2:j=l.length+1
    ·rw[if_pos e2]at hk ⊢
     rw[←hk];exact h m2 (.inr ⟨e2,rfl⟩)
    ·rw[if_neg e2];trivial
  ·unfold asideB
   by_cases e1:j=l.length
   ·rw[if_pos e1];exact h1
   ·rw[if_neg e1]
    by_cases e2:j=l.length+1
    ·rw[if_pos e2];exact h2
    ·rw[if_neg e2];trivial
  ·rcases hb with⟨_,hb⟩|⟨_,hb⟩
   ·exact⟨by rw[hb];exact lt h1,.inl hb⟩
   ·exact⟨by rw[hb];exact lt h2,.inr hb⟩
 ·intro i j _ _ hij b e1 e2
  rcases e1 with⟨a1,a2⟩|⟨a1,a2⟩<;>rcases e2 with⟨b1,b2⟩|⟨b1,b2⟩<;>omega
section
variable {P : Program}{ops : Array Oper}{w0 : World}{M : Nat→Prop}{X : List PanicEntry→World→Prop}{sp : Nat→Option Loud}{av ea : Nat→List Nat}{Fin : Act→(Nat→World→Prop)→(Nat→Nat→Prop)→Prop}
  {o : Oper}{rest : List Oper}{i : Nat}{a : Act}{F : Nat→World→Prop}{Fp : Nat→Nat→Prop}
theorem CE (h:Fin a F Fp):Lex P ops w0 M X sp av ea Fin [] i a F Fp:=⟨h⟩
theorem lex_skip (hw:Region.wanted o (yielded ops a.tmps)=false)(h:Lex P ops w0 M X sp av ea Fin rest (i+1) (a.put o.dst undef) F Fp):Lex P ops w0 M X sp av ea Fin (o::rest) i a F Fp:=by
 refine⟨?_⟩;rw[LexD,if_neg (by rw[hw];exact NT)];exact h.out
theorem BD (hw:Region.wanted o (yielded ops a.tmps)=true)(hs:sp i=none){v:Value}(hv:∀w,BA M w0 w→(execOp a.eval o).run P w=.ok (.value v) w)
  (h:Lex P ops w0 M X sp av ea Fin rest (i+1) (a.put o.dst v) F Fp):Lex P ops w0 M X sp av ea Fin (o::rest) i a F Fp:=by
 refine⟨?_⟩;rw[LexD,if_pos hw,hs];exact⟨v,fun w hk=>.inl (hv w hk),h.out⟩
theorem BG (hw:Region.wanted o (yielded ops a.tmps)=true){s:Loud}(hs:sp i=some s)(hl:FO P w0 M X o a s (av i) (ea i) F Fp)
  (h:∀g,s.ok (BS o a) g→Lex P ops w0 M X sp av ea Fin rest (i+1) (a.put o.dst (s.val (BS o a) g)) (upd F i (s.post (BS o a) g)) (upd Fp i (s.fp (BS o a) g))):
  Lex P ops w0 M X sp av ea Fin (o::rest) i a F Fp:=by
 refine⟨?_⟩;rw[LexD,if_pos hw,hs];exact⟨hl,fun g hg=>(h g hg).out⟩
end
section
variable {P : Program}{w0 : World}{M : Nat→Prop}{X : List PanicEntry→World→Prop}{o : Oper}{a : Act}{s : Loud}{av ea : List Nat}{F : Nat→World→Prop}{Fp : Nat→Nat→Prop}
def sNo (v:Value):Loud:={ val:=fun _ _=>v,post:=fun _ _ _=>False }
theorem loud_gives (f:FuncId)(args:Array Value)(v:Value)(hrun:∀w,(execOp a.eval o).run P w=.ok (.enter f args) w)
  (hc:∀w,BA M w0 w→(∀j∈av,F j w∧∀b,Fp j b→b<w.heap.size∧(w0.heap.size≤b∨M b))→Calls P f args w fun e w'=>∃ch,e=.panicked ch∧X ch w'):FO P w0 M X o a (sNo v) av ea F Fp:=
 ⟨⟨default,trivial⟩,fun _ _ _ _ _ _ _ _ h=>h,fun w h1 h2 _=>by
  unfold Oper.wp
  rw[hrun w]
  refine(hc w h1 h2).mono ?_
  rintro e w' ⟨ch,rfl,h4⟩
  exact⟨ch,rfl,h4⟩⟩
end
end Go.Proofs.YtomlffobbkcmdaaGreatDoor.OwnX
namespace Go.Proofs.YtomlffobbkcmdaaGreatDoor
open Go
open Go.Lib (hid)
inductive Ex where
 |mk (kind op:Nat) (num:Nat) (name:List UInt8) (line col:Nat) (kids:List Ex)
inductive St where
 |mk (kind:Nat) (name:List UInt8) (size op:Nat) (value into cont:List UInt8) (exprs:List Ex) (thn els:List St) (line col:Nat)
structure Ct where
 kind:Nat
 name:List UInt8
 line:Nat
 col:Nat
structure Pr where
 pool:Nat
 conts:List Ct
 threads:List (List St)
def GC:List (List UInt8):=[[],[42],[47],[37],[43],[45],[60],[60,61],[62],[62,61],[61,61],[33,61],[38],[124]]
def opL:List (List UInt8):=[[],[112,117,115,104],[112,111,112],[101,110,113],[100,101,113],[97,100,100],[114,101,109,111,118,101],[104,97,115]]
def DE:List (List UInt8):=[[],[115,116,97,99,107],[113,117,101,117,101],[115,101,116]]
def ofL (l:List (List UInt8))(s:List UInt8):Nat:=if s=[] then 0 else if l.contains s=true then l.idxOf s else 0
def isT (t:Tok)(s:List UInt8):Bool:=t.text==s && (t.kind==4 || t.kind==1)
def BI (ts:List Item)(s:List UInt8):Bool:=
 match ts with
 |t::_=>isT t.tok s
 |[]=>false
def CY:List (List UInt8)→List Item→Option (List Item)
 |[],ts=>some ts
 |s::l,ts=>if BI ts s=true then CY l ts.tail else none
def wantT (k:Nat)(ts:List Item):Option (Item×List Item):=
 match ts with
 |t::r=>if t.tok.kind=k then some (t,r) else none
 |[]=>none
def opOf (ops:List Nat)(ts:List Item):Option Nat:=ops.find? fun op=>BI ts (GC.getD op [])
def rowL (next:List Item→Option (Ex×List Item))(ops:List Nat):Nat→Ex→List Item→Option (Ex×List Item)
 |0,_,_=>none
 | f+1,x,ts=>
  match opOf ops ts with
  |none=>some (x,ts)
  | some op=>
   match ts with
   |[]=>none
   | t::r=>
    match next r with
    |none=>none
    |some (y,r')=>rowL next ops f (.mk 5 op 0 [] t.line t.col [x,y]) r'
def rowN (next:List Item→Option (Ex×List Item))(ops:List Nat)(ts:List Item):Option (Ex×List Item):=
 match next ts with
 |none=>none
 |some (x,r)=>rowL next ops (r.length+1) x r
def rowsN (one:List Item→Option (Ex×List Item)):List Item→Option (Ex×List Item):=
 rowN (rowN (rowN (rowN (rowN (rowN one [1,2,3]) [4,5]) [6,7,8,9]) [10,11]) [12]) [13]
def oneOf (one expr:List Item→Option (Ex×List Item))(ts:List Item):Option (Ex×List Item):=
 match ts with
 |[]=>none
 | t::r=>
  if isT t.tok [45]=true then
   match one r with
   |none=>none
   |some (x,r')=>some (.mk 4 1 0 [] t.line t.col [x],r')
  else if isT t.tok [33]=true then
   match one r with
   |none=>none
   |some (x,r')=>some (.mk 4 2 0 [] t.line t.col [x],r')
  else if isT t.tok [40]=true then
   match expr r with
   |none=>none
   |some (x,r')=>if BI r' [41]=true then some (x,r'.tail) else none
  else if t.tok.kind=3 then some (.mk 1 0 t.tok.num [] t.line t.col [],r)
  else if t.tok.kind=2 then
   if BI r [91]=true then
    match expr r.tail with
    |none=>none
    |some (x,r')=>if BI r' [93]=true then some (.mk 3 0 0 t.tok.text t.line t.col [x],r'.tail) else none
   else some (.mk 2 0 0 t.tok.text t.line t.col [],r)
  else none
def oneP:Nat→List Item→Option (Ex×List Item)
 |0=>fun _=>none
 |f+1=>oneOf (oneP f) (rowsN (oneP f))
def exP (f:Nat):List Item→Option (Ex×List Item):=rowsN (oneP f)
def callP (f:Nat)(value:List UInt8)(ts:List Item):Option ((Nat×List UInt8×List Ex)×List Item):=
 match ts with
 |[]=>none
 | t::r=>
  let op:=ofL opL t.tok.text
  if op=0∨t.tok.kind≠1∨(op=2∨op=4)≠(value≠[]) then none
  else
   match CY [[40]] r with
   |none=>none
   | some r1=>
    match wantT 2 r1 with
    |none=>none
    | some (c,r2)=>
     if op=2∨op=4 then
      match CY [[41],[59]] r2 with
      |none=>none
      |some r3=>some ((op,c.tok.text,[]),r3)
     else
      match CY [[44]] r2 with
      |none=>none
      | some r3=>
       match exP f r3 with
       |none=>none
       | some (x,r4)=>
        match CY [[41],[59]] r4 with
        |none=>none
        |some r5=>some ((op,c.tok.text,[x]),r5)
def plainP (f:Nat)(t0:Item)(ts:List Item):Option (St×List Item):=
 match wantT 2 ts with
 |none=>none
 | some (n,r)=>
  if BI r [91]=true then
   match exP f r.tail with
   |none=>none
   | some (a,r1)=>
    match CY [[93],[61]] r1 with
    |none=>none
    | some r2=>
     match exP f r2 with
     |none=>none
     | some (x,r3)=>
      match CY [[59]] r3 with
      |none=>none
      |some r4=>some (.mk 4 n.tok.text 0 0 [] [] [] [a,x] [] [] t0.line t0.col,r4)
  else if BI r [44]=true then
   match wantT 2 r.tail with
   |none=>none
   | some (m,r1)=>
    match CY [[61]] r1 with
    |none=>none
    | some r2=>
     match callP f n.tok.text r2 with
     |none=>none
     |some ((op,c,xs),r3)=>some (.mk 9 [] 0 op n.tok.text m.tok.text c xs [] [] t0.line t0.col,r3)
  else
   match CY [[61]] r with
   |none=>none
   | some r1=>
    match r1 with
    |[]=>none
    | t1::_=>
     if t1.tok.kind=1 then
      match callP f [] r1 with
      |none=>none
      |some ((op,c,xs),r3)=>some (.mk 9 [] 0 op [] n.tok.text c xs [] [] t0.line t0.col,r3)
     else
      match exP f r1 with
      |none=>none
      | some (x,r2)=>
       match CY [[59]] r2 with
       |none=>none
       |some r3=>some (.mk 3 n.tok.text 0 0 [] [] [] [x] [] [] t0.line t0.col,r3)
def stmtsL (stmt:List Item→Option (St×List Item)):Nat→List Item→Option (List St×List Item)
 |0,_=>none
 | f+1,ts=>
  if BI ts [125]=true then some ([],ts.tail)
  else
   match stmt ts with
   |none=>none
   | some (s,r)=>
    match stmtsL stmt f r with
    |none=>none
    |some (l,r')=>some (s::l,r')
def blockOf (stmt:List Item→Option (St×List Item))(ts:List Item):Option (List St×List Item):=
 if BI ts [123]=true then stmtsL stmt (ts.length+1) ts.tail else none
def stmtP:Nat→List Item→Option (St×List Item)
 |0,_=>none
 | f+1,ts=>
  match ts with
  |[]=>none
  | t::r=>
   if isT t.tok [118,97,114]=true then
    match wantT 2 r with
    |none=>none
    | some (n,r1)=>
     match CY [[61]] r1 with
     |none=>none
     | some r2=>
      match exP f r2 with
      |none=>none
      | some (x,r3)=>
       match CY [[59]] r3 with
       |none=>none
       |some r4=>some (.mk 1 n.tok.text 0 0 [] [] [] [x] [] [] t.line t.col,r4)
   else if isT t.tok [97,114,114,97,121]=true then
    match wantT 2 r with
    |none=>none
    | some (n,r1)=>
     match CY [[91]] r1 with
     |none=>none
     | some r2=>
      match wantT 3 r2 with
      |none=>none
      | some (m,r3)=>
       match CY [[93],[59]] r3 with
       |none=>none
       |some r4=>some (.mk 2 n.tok.text m.tok.num 0 [] [] [] [] [] [] t.line t.col,r4)
   else if isT t.tok [105,102]=true then
    match exP f r with
    |none=>none
    | some (x,r1)=>
     match blockOf (stmtP f) r1 with
     |none=>none
     | some (a,r2)=>
      if BI r2 [101,108,115,101]=true then
       match blockOf (stmtP f) r2.tail with
       |none=>none
       |some (b,r3)=>some (.mk 5 [] 0 0 [] [] [] [x] a b t.line t.col,r3)
      else some (.mk 5 [] 0 0 [] [] [] [x] a [] t.line t.col,r2)
   else if isT t.tok [119,104,105,108,101]=true then
    match exP f r with
    |none=>none
    | some (x,r1)=>
     match blockOf (stmtP f) r1 with
     |none=>none
     |some (a,r2)=>some (.mk 6 [] 0 0 [] [] [] [x] a [] t.line t.col,r2)
   else if isT t.tok [111,117,116]=true then
    match exP f r with
    |none=>none
    | some (x,r1)=>
     match CY [[59]] r1 with
     |none=>none
     |some r2=>some (.mk 7 [] 0 0 [] [] [] [x] [] [] t.line t.col,r2)
   else if isT t.tok [104,97,108,116]=true then
    match exP f r with
    |none=>none
    | some (x,r1)=>
     match CY [[59]] r1 with
     |none=>none
     |some r2=>some (.mk 8 [] 0 0 [] [] [] [x] [] [] t.line t.col,r2)
   else plainP f t ts
def blockP (f:Nat):List Item→Option (List St×List Item):=blockOf (stmtP f)
def contsP:Nat→List Item→Option (List Ct×List Item)
 |0,_=>none
 | f+1,ts=>
  match ts with
  |[]=>some ([],ts)
  | t::r=>
   if ofL DE t.tok.text=0∨t.tok.kind≠1 then some ([],ts)
   else
    match wantT 2 r with
    |none=>none
    | some (n,r1)=>
     match CY [[59]] r1 with
     |none=>none
     | some r2=>
      match contsP f r2 with
      |none=>none
      |some (l,r3)=>some (⟨ofL DE t.tok.text,n.tok.text,t.line,t.col⟩::l,r3)
def threadsP (g:Nat):Nat→List Item→Option (List (List St))
 |0,_=>none
 | f+1,ts=>
  match ts with
  |[]=>some []
  | _::_=>
   match CY [[116,104,114,101,97,100]] ts with
   |none=>none
   | some r=>
    match blockP g r with
    |none=>none
    | some (b,r1)=>
     match threadsP g f r1 with
     |none=>none
     |some l=>some (b::l)
def progP (f:Nat)(ts:List Item):Option Pr:=
 match CY [[112,111,111,108]] ts with
 |none=>none
 | some r=>
  match wantT 3 r with
  |none=>none
  | some (n,r1)=>
   match CY [[59]] r1 with
   |none=>none
   | some r2=>
    match contsP (r2.length+1) r2 with
    |none=>none
    | some (cs,r3)=>
     match threadsP f (r3.length+1) r3 with
     |none=>none
     |some ths=>some ⟨n.tok.num,cs,ths⟩
def Ex.weigh:Ex→Nat×Nat
 |.mk _ _ _ _ _ _ kids=>(weighL kids |>.1 |> (·+1),weighL kids |>.2 |> (·+1))
 where weighL:List Ex→Nat×Nat
 |[]=>(0,0)
 |k::l=>(k.weigh.1+(weighL l).1,max k.weigh.2 (weighL l).2)
def rowLF (next:List Item→Option (Ex×List Item))(nextF:List Item→List Item)(ops:List Nat):Nat→List Item→List Item
 |0,ts=>ts
 | f+1,ts=>
  match opOf ops ts with
  |none=>ts
  | some _=>
   match ts with
   |[]=>ts
   | _::r=>
    match next r with
    |none=>nextF r
    |some (_,r')=>rowLF next nextF ops f r'
def rowNF (next:List Item→Option (Ex×List Item))(nextF:List Item→List Item)(ops:List Nat)(ts:List Item):List Item:=
 match next ts with
 |none=>nextF ts
 |some (_,r)=>rowLF next nextF ops (r.length+1) r
def rowsF (one:List Item→Option (Ex×List Item))(oneF:List Item→List Item):List Item→List Item:=
 rowNF (rowN (rowN (rowN (rowN (rowN one [1,2,3]) [4,5]) [6,7,8,9]) [10,11]) [12])
  (rowNF (rowN (rowN (rowN (rowN one [1,2,3]) [4,5]) [6,7,8,9]) [10,11])
   (rowNF (rowN (rowN (rowN one [1,2,3]) [4,5]) [6,7,8,9])
    (rowNF (rowN (rowN one [1,2,3]) [4,5])
     (rowNF (rowN one [1,2,3]) (rowNF one oneF [1,2,3]) [4,5]) [6,7,8,9]) [10,11]) [12]) [13]
def oneOfF (oneF:List Item→List Item)(expr:List Item→Option (Ex×List Item))(exprF:List Item→List Item)(ts:List Item):List Item:=
 match ts with
 |[]=>ts
 | t::r=>
  if isT t.tok [45]=true then oneF r
  else if isT t.tok [33]=true then oneF r
  else if isT t.tok [40]=true then
   match expr r with
   |none=>exprF r
   |some (_,r')=>r'
  else if t.tok.kind=2 then
   if BI r [91]=true then
    match expr r.tail with
    |none=>exprF r.tail
    |some (_,r')=>r'
   else ts
  else ts
def oneF:Nat→List Item→List Item
 |0=>fun ts=>ts
 |f+1=>oneOfF (oneF f) (rowsN (oneP f)) (rowsF (oneP f) (oneF f))
def exF (f:Nat):List Item→List Item:=rowsF (oneP f) (oneF f)
inductive Oc (α:Type) where
 |ok (a:α) (r:List Item)
 |bad (b:List Item)
 |no
def Oc.bind {α β:Type}(o:Oc α)(k:α→List Item→Oc β):Oc β:=
 match o with
 |.ok a r=>k a r
 |.bad b=>.bad b
 |.no=>.no
def CF:List (List UInt8)→List Item→Oc Unit
 |[],ts=>.ok () ts
 |s::l,ts=>if BI ts s=true then CF l ts.tail else .bad ts
def FB (k:Nat)(ts:List Item):Oc Item:=
 match ts with
 |t::r=>if t.tok.kind=k then .ok t r else .bad ts
 |[]=>.bad []
def exO (f:Nat)(F:List Item→Option (List Item))(ts:List Item):Oc Ex:=
 match exP f ts with
 |some (x,r)=>.ok x r
 | none=>
  match F ts with
  |some b=>.bad b
  |none=>.no
def opO (value:List UInt8)(ts:List Item):Oc Nat:=
 match ts with
 |[]=>.bad []
 |t::r=>if ofL opL t.tok.text=0∨t.tok.kind≠1∨(ofL opL t.tok.text=2∨ofL opL t.tok.text=4)≠(value≠[]) then .bad ts else .ok (ofL opL t.tok.text) r
def argO (f:Nat)(F:List Item→Option (List Item))(op:Nat)(ts:List Item):Oc (List Ex):=
 if op=2∨op=4 then .ok [] ts
 else (CF [[44]] ts).bind fun _ r=>(exO f F r).bind fun x r=>.ok [x] r
def callO (f:Nat)(F:List Item→Option (List Item))(value:List UInt8)(ts:List Item):Oc (Nat×List UInt8×List Ex):=
 (opO value ts).bind fun op r=>(CF [[40]] r).bind fun _ r=>(FB 2 r).bind fun c r=>(argO f F op r).bind fun xs r=>(CF [[41],[59]] r).bind fun _ r=>.ok (op,c.tok.text,xs) r
def FE (ts:List Item):Nat:=
 match ts with
 |t::_=>t.tok.kind
 |[]=>0
def plainO (f:Nat)(F:List Item→Option (List Item))(l c:Nat)(ts:List Item):Oc St:=
 (FB 2 ts).bind fun n r=>
  if BI r [91]=true then
   (exO f F r.tail).bind fun a r=>(CF [[93],[61]] r).bind fun _ r=>(exO f F r).bind fun x r=>(CF [[59]] r).bind fun _ r=>.ok (.mk 4 n.tok.text 0 0 [] [] [] [a,x] [] [] l c) r
  else if BI r [44]=true then
   (FB 2 r.tail).bind fun m r=>(CF [[61]] r).bind fun _ r=>(callO f F n.tok.text r).bind fun q r=>.ok (.mk 9 [] 0 q.1 n.tok.text m.tok.text q.2.1 q.2.2 [] [] l c) r
  else
   (CF [[61]] r).bind fun _ r=>
    if FE r=1 then (callO f F [] r).bind fun q r=>.ok (.mk 9 [] 0 q.1 [] n.tok.text q.2.1 q.2.2 [] [] l c) r
    else (exO f F r).bind fun x r=>(CF [[59]] r).bind fun _ r=>.ok (.mk 3 n.tok.text 0 0 [] [] [] [x] [] [] l c) r
def stmtsO (stmt:List Item→Oc St):Nat→List Item→Oc (List St)
 |0,_=>.no
 | f+1,ts=>
  if BI ts [125]=true then .ok [] ts.tail
  else (stmt ts).bind fun s r=>(stmtsO stmt f r).bind fun l r=>.ok (s::l) r
def FZ (stmt:List Item→Oc St)(ts:List Item):Oc (List St):=(CF [[123]] ts).bind fun _ r=>stmtsO stmt (r.length+1) r
def stmtB (ex:List Item→Oc Ex)(block:List Item→Oc (List St))(plain:Nat→Nat→List Item→Oc St)(ts:List Item):Oc St:=
 match ts with
 |[]=>.bad []
 | t::r=>
  if isT t.tok [118,97,114]=true then
   (FB 2 r).bind fun n r=>(CF [[61]] r).bind fun _ r=>(ex r).bind fun x r=>(CF [[59]] r).bind fun _ r=>.ok (.mk 1 n.tok.text 0 0 [] [] [] [x] [] [] t.line t.col) r
  else if isT t.tok [97,114,114,97,121]=true then
   (FB 2 r).bind fun n r=>(CF [[91]] r).bind fun _ r=>(FB 3 r).bind fun m r=>(CF [[93],[59]] r).bind fun _ r=>.ok (.mk 2 n.tok.text m.tok.num 0 [] [] [] [] [] [] t.line t.col) r
  else if isT t.tok [105,102]=true then
   (ex r).bind fun x r=>(block r).bind fun a r=>
    if BI r [101,108,115,101]=true then (block r.tail).bind fun b r=>.ok (.mk 5 [] 0 0 [] [] [] [x] a b t.line t.col) r
    else .ok (.mk 5 [] 0 0 [] [] [] [x] a [] t.line t.col) r
  else if isT t.tok [119,104,105,108,101]=true then
   (ex r).bind fun x r=>(block r).bind fun a r=>.ok (.mk 6 [] 0 0 [] [] [] [x] a [] t.line t.col) r
  else if isT t.tok [111,117,116]=true then
   (ex r).bind fun x r=>(CF [[59]] r).bind fun _ r=>.ok (.mk 7 [] 0 0 [] [] [] [x] [] [] t.line t.col) r
  else if isT t.tok [104,97,108,116]=true then
   (ex r).bind fun x r=>(CF [[59]] r).bind fun _ r=>.ok (.mk 8 [] 0 0 [] [] [] [x] [] [] t.line t.col) r
  else plain t.line t.col ts
def stmtO (g:Nat)(F:List Item→Option (List Item)):Nat→List Item→Oc St
 |0,_=>.no
 |f+1,ts=>stmtB (exO g F) (FZ (stmtO g F f)) (plainO g F) ts
def lineOf (ts:List Item)(el:Nat):Nat:=
 match ts with
 |t::_=>t.line
 |[]=>el
def colOf (ts:List Item)(ec:Nat):Nat:=
 match ts with
 |t::_=>t.col
 |[]=>ec
theorem Oc.bind_ok {α β:Type}{o:Oc α}{k:α→List Item→Oc β}{b:β}{s:List Item}(h:o.bind k=.ok b s):∃a r,o=.ok a r∧k a r=.ok b s:=by
 cases o with
 |ok a r=>exact⟨a,r,rfl,h⟩
 |bad _=>cases h
 |no=>cases h
theorem CW:∀(L:List (List UInt8)) (ts:List Item),CF L ts≠.no
 |[],_=>fun h=>by cases h
 | s::l,ts=>fun h=>by
  unfold CF at h
  split at h
  ·exact CW l _ h
  ·cases h
theorem wantO_no (k:Nat)(ts:List Item):FB k ts≠.no:=fun h=>by
 unfold FB at h
 split at h
 ·split at h<;>cases h
 ·cases h
theorem opO_no (v:List UInt8)(ts:List Item):opO v ts≠.no:=fun h=>by
 unfold opO at h
 split at h
 ·cases h
 ·split at h<;>cases h
theorem mustO_of {L:List (List UInt8)}{ts r:List Item}(h:CY L ts=some r):CF L ts=.ok () r:=by
 induction L generalizing ts with
 |nil=>unfold CY at h;cases h;rfl
 | cons s l ih=>
  unfold CY at h
  unfold CF
  split at h
  ·rename_i hh
   rw[if_pos hh]
   exact ih h
  ·cases h
theorem DI {L:List (List UInt8)}{ts r:List Item}(h:CF L ts=.ok () r):CY L ts=some r:=by
 induction L generalizing ts with
 |nil=>unfold CF at h;cases h;rfl
 | cons s l ih=>
  unfold CF at h
  unfold CY
  split at h
  ·rename_i hh
   rw[if_pos hh]
   exact ih h
  ·cases h
end Go.Proofs.YtomlffobbkcmdaaGreatDoor
