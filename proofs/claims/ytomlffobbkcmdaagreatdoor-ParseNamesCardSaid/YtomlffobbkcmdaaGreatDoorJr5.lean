/- Joined texts of this work: Lx2, Lx3, OwnB. -/
import Derived.Test.YtomlffobbkcmdaaGreatDoorJr3
import Derived.Test.YtomlffobbkcmdaaGreatDoorJr4
import Derived.Lib.AppendIntMem
import Derived.Test.YtomlffobbkcmdaaGreatDoorJr2
/-
  lex: span; Reserved; strings.IndexByte.
-/
namespace Go.Proofs.YtomlffobbkcmdaaGreatDoor
open Go Go.RowKit Own
open Go.Lib (hid)
/-- the predicate that span hands to strings.IndexFunc -/
def runeP (q:UInt8→Bool) (r:Nat):Bool:=decide (127<r) || !q (UInt8.ofNat r)
theorem byteV_ofNat {r:Nat} (h:r≤127):byteV (UInt8.ofNat r)=.int .u8 (r:Int):=by
 unfold byteV
 rw [UInt8.toNat_ofNat']
 congr 1
 omega
theorem u8_in {r:Nat} (h:r≤127):IntKind.u8.wrap (r:Int)=(r:Int):=by
 have e:∀ n:Int,0≤n→n<256→IntKind.u8.wrap n=n:=fun n h1 h2=>by
  simp [IntKind.wrap,IntKind.bits,IntKind.signed]
  omega
 exact e _ (by omega) (by omega)
theorem spanP_any (q:UInt8→Bool) (fid:Nat) (eg:∀ args w,(callFunc fid args).run Tryz.prog w=.ok (.enter fid args) w) (hq:∀ (c:UInt8) (w:World),Calls Tryz.prog fid #[byteV c] w fun e w'=>e=.returned (.bool (q c))∧w'=w)
  (w:World) (B:Nat) (hB:B<w.heap.size) (hc:w.cell? ⟨B,0,none⟩=some (.func (.func fid) #[] #[])):
  PredAt Tryz.prog 108 #[.pointer (some ⟨B,0,none⟩)] encR (runeP q) w:=fun W r hb=>by
 have hc':W.cell? ⟨B,0,none⟩=some (.func (.func fid) #[] #[]):=(hb.cell (p:=⟨B,0,none⟩) hB).trans hc
 clear hc hb
 unfold FnGives
 by_cases h:r≤127
 ·have h1:¬(127:Int)<(r:Int):=by omega
  have hw:=u8_in h
  have hQ:=hid (hq (UInt8.ofNat r))
  have hE:=hid (show runeP q r=!q (UInt8.ofNat r) by unfold runeP;rw [decide_eq_false (by omega)];rfl)
  rw [byteV_ofNat h] at hQ
  clear hq
  go_enter Tryz.func108,Tryz.ntmps108
  go_wp2_with (go_at_fn fid;refine (hQ.out _).mono ?_;rintro e w' ⟨rfl,rfl⟩)
  go_ret
  exact ⟨ret_bool hE.out.symm,0,rfl⟩
 ·have h1:(127:Int)<(r:Int):=by omega
  have hE:=hid (show runeP q r=true by unfold runeP;rw [decide_eq_true (by omega)];rfl)
  clear hq
  go_enter Tryz.func108,Tryz.ntmps108
  go_wp2
  go_ret
  exact ⟨ret_bool hE.out.symm,0,rfl⟩
theorem runeP_small {q:UInt8→Bool} (c:UInt8) (h:c.toNat<128):runeP q c.toNat=!q c:=by
 unfold runeP
 rw [decide_eq_false (by omega),UInt8.ofNat_toNat];rfl
theorem runeP_big {q:UInt8→Bool} (r:Nat) (h:128≤r):runeP q r=true:=by
 unfold runeP
 rw [decide_eq_true (by omega)];rfl
theorem span_any (q:UInt8→Bool) (hs:∀ c:UInt8,128≤c.toNat→q c=false) (fid:Nat) (eg:∀ args w,(callFunc fid args).run Tryz.prog w=.ok (.enter fid args) w) (hq:∀ (c:UInt8) (w:World),Calls Tryz.prog fid #[byteV c] w fun e w'=>e=.returned (.bool (q c))∧w'=w)
  (s:ByteArray) (w:World):
  Calls Tryz.prog 86 #[.string s,.func (.func fid) #[] #[]] w fun e w'=>e=.returned (.int .i64 ((s.data.toList.takeWhile q).length:Nat))∧KeepBut (fun _=>False) w w':=by
 have hC:=hid fun W hB hc=>Tryz.strings_IndexFunc 108 #[.pointer (some ⟨w.heap.size,0,none⟩)] (enters_of Tryz.func108 (by kernel_rfl) rfl) _ s W (spanP_any q fid eg hq W w.heap.size hB hc)
 have hI:=idx_span (p:=runeP q) hs runeP_small runeP_big s s.size 0 (by omega) (by omega)
 rw [List.drop_zero] at hI
 have hl:s.data.toList.length=s.size:=by simp
 rw [hl] at hI
 obtain ⟨I,hI'⟩:∃ I,Lib.idxFunc (runeP q) true s=I:=⟨_,rfl⟩
 obtain ⟨m,hm⟩:∃ m,(s.data.toList.takeWhile q).length=m:=⟨_,rfl⟩
 rw [show Lib.idxFuncFrom (runeP q) true s s.size 0=I from hI',hm,Nat.zero_add] at hI
 rw [hm]
 have hC2:Hid (∀ W:World,w.heap.size<W.heap.size→W.cell? ⟨w.heap.size,0,none⟩=some (.func (.func fid) #[] #[])→Calls Tryz.prog 107 #[.string s,.func (.func 108) #[] #[.pointer (some ⟨w.heap.size,0,none⟩)]] W fun e w'=>e=.returned (.int .i64 I)∧Below W.heap.size W w'):=fun W hB hc=>by
  have:=hC.out W hB hc
  rw [hI'] at this;exact this
 clear hC hI' hl hm
 by_cases h:m=s.size
 ·rw [if_pos h] at hI
  have hI:=hI
  subst hI
  have HM:=hid h
  clear h hs hq
  go_enter Tryz.func86,Tryz.ntmps86
  go_wp2_with (go_at_call 107;refine (hC2.out _ (by simp) (by simp)).mono ?_;rintro e w' ⟨rfl,hb⟩)
  go_ret
  exact ⟨ret_int (by rw [HM.out]),(KeepBut.alloc _ w _).trans (KeepBut.of_below hb)⟩
 ·rw [if_neg h] at hI
  have hI0:¬I<0:=by omega
  have HI:=hid hI
  clear h hI hs hq
  go_enter Tryz.func86,Tryz.ntmps86
  go_wp2_with (go_at_call 107;refine (hC2.out _ (by simp) (by simp)).mono ?_;rintro e w' ⟨rfl,hb⟩)
  go_ret
  exact ⟨ret_int HI.out,(KeepBut.alloc _ w _).trans (KeepBut.of_below hb)⟩
/-
  lex: Reserved, word.
-/
theorem blk_cell {w:World} {b k:Nat} {cs:Array Value} {T:TypeId} {v:Value} (h:w.heap[b]?=some (.cells cs T (0,0))) (hk:cs[k]?=some v):w.cell? ⟨b,k,none⟩=some v:=by
 simp [World.cell?,h,hk]
def strV (l:List UInt8):Value:=.string ⟨l.toArray⟩
def tokV (t:Tok) (line col:Nat):Value:=.agg #[.int .i64 t.kind,strV t.text,.int .i64 t.num,.int .i64 line,.int .i64 col]
def wordsS:ByteArray:=⟨#[112,111,111,108,32,115,116,97,99,107,32,113,117,101,117,101,32,115,101,116,32,116,104,114,101,97,100,32,118,97,114,32,97,114,114,97,121,32,105,102,32,101,108,115,101,32,119,104,105,108,101,32,111,117,116,32,104,97,108,116,32,112,117,115,104,32,112,111,112,32,101,110,113,32,100,101,113,32,97,100,100,32,114,101,109,111,118,101,32,104,97,115]⟩
theorem fields_words:Lib.fields wordsS.data.toList=wordsL:=by decide +kernel
theorem extract_take (s:ByteArray) (m:Nat):s.extract 0 m=⟨(s.data.toList.take m).toArray⟩:=by
 apply ByteArray.ext
 rw [ByteArray.data_extract]
 apply Array.toList_inj.1
 simp
abbrev TabS (w : World) : Prop := Lib.TabIs Tryz.prog w "strings.asciiSpace" .u8 Lib.asciiSpaceTab
theorem Own.KeepBut.tabS {w w':World} (h:KeepBut (fun _=>False) w w') (t:TabS w):TabS w':=
 Lib.tabBelow_of_tabIs t w' ⟨h.os,h.tape,h.output,h.size,fun j hj=>h.block j hj fun e=>e⟩
theorem reserved_any (w:World) (htab:TabS w):
  Calls Tryz.prog 110 #[] w fun e w'=>e=.returned (.slice (some ⟨w.heap.size,0,none⟩) 19 19)∧w'=w.alloc (.cells (wordsL.map fun l=>Value.string ⟨l.toArray⟩).toArray 9):=by
 have hF:=Tryz.strings_Fields wordsS w (by decide) (fun j b h=>by
  have hm:=List.mem_of_getElem? h
  have hall:∀ b∈wordsS.data.toList,b.toNat<128:=by decide +kernel
  exact hall b hm) htab
 rw [fields_words] at hF
 have HF:=hid hF
 clear hF
 go_enter Tryz.func110,Tryz.ntmps110
 go_wp2_with (go_at_call 128;refine HF.out.mono ?_;rintro e w' ⟨rfl,rfl⟩)
 go_ret
 exact ⟨rfl,rfl⟩
theorem words_cells (w:World) (j:Nat) (h:j<(wordsL.map fun l=>(⟨l.toArray⟩:ByteArray)).length):
  (w.alloc (.cells (wordsL.map fun l=>Value.string ⟨l.toArray⟩).toArray 9)).cell? ⟨w.heap.size,0+j,none⟩=some (.string ((wordsL.map fun l=>(⟨l.toArray⟩:ByteArray)).getD j ByteArray.empty)):=by
 refine blk_cell (heap_alloc_new w _) ?_
 rw [Nat.zero_add]
 rw [List.length_map] at h
 simp [List.getD,h]
theorem isReserved_any (s:ByteArray) (w:World) (htab:TabS w):
  Calls Tryz.prog 88 #[.string s] w fun e w'=>e=.returned (.bool (reservedB s.data.toList))∧KeepBut (fun _=>False) w w':=by
 have hR:=hid (reserved_any w htab)
 have hC:=Tryz.slices_Contains_string w.heap.size 0 19 19 (wordsL.map fun l=>(⟨l.toArray⟩:ByteArray)) s (w.alloc (.cells (wordsL.map fun l=>Value.string ⟨l.toArray⟩).toArray 9)) (by decide) (by decide) (words_cells w)
 rw [List.take_of_length_le (by decide),reserved_contains] at hC
 obtain ⟨r,hr⟩:∃ r,reservedB s.data.toList=r:=⟨_,rfl⟩
 rw [show wordsL.contains s.data.toList=r from hr] at hC
 rw [hr]
 have HC:=hid hC
 clear hC
 obtain ⟨W,hW⟩:∃ W,w.alloc (.cells (wordsL.map fun l=>Value.string ⟨l.toArray⟩).toArray 9)=W:=⟨_,rfl⟩
 have HK:=hid (show KeepBut (fun _=>False) w W by rw [←hW];exact KeepBut.alloc _ _ _)
 rw [hW] at hR HC
 clear hW
 go_enter Tryz.func88,Tryz.ntmps88
 go_wp2_with (first
  | (go_at_call 110;refine hR.out.mono ?_;rintro e w' ⟨rfl,rfl⟩)
  | (go_at_call 109;refine HC.out.mono ?_;rintro e w' ⟨rfl,rfl⟩))
 go_ret
 exact ⟨rfl,HK.out⟩
theorem Own.KeepBut.blkE {E:Nat→Prop} {w w':World} (h:KeepBut E w w') {b:Nat} {x:Obj} (hc:w.heap[b]?=some x) (hE:¬E b):w'.heap[b]?=some x:=by
 rw [h.block b (Array.getElem?_eq_some_iff.1 hc).1 hE]
 exact hc
theorem blk5 {w:World} {B:Nat} {a b c d e:Value} {T:TypeId} (h:w.heap[B]?=some (.cells #[a,b,c,d,e] T (0,0))):
  w.cell? ⟨B,0,none⟩=some a∧w.cell? ⟨B,1,none⟩=some b∧w.cell? ⟨B,2,none⟩=some c∧w.cell? ⟨B,3,none⟩=some d∧w.cell? ⟨B,4,none⟩=some e∧
  w.frozen? ⟨B,0,none⟩=false∧w.frozen? ⟨B,1,none⟩=false∧w.frozen? ⟨B,2,none⟩=false∧w.frozen? ⟨B,3,none⟩=false∧w.frozen? ⟨B,4,none⟩=false:=by
 simp [World.cell?,World.frozen?,h]
theorem put1 {w:World} {B i:Nat} {cs:Array Value} {T:TypeId} (h:w.heap[B]?=some (.cells cs T (0,0))) (v:Value):(w.setCell ⟨B,i,none⟩ v).heap[B]?=some (.cells (cs.setIfInBounds i v) T (0,0)):=by
 obtain ⟨hlt,hk⟩:=Array.getElem?_eq_some_iff.1 h
 show (w.heap.modify B _)[B]?=_
 rw [Array.getElem?_eq_getElem (by rw [Array.size_modify];exact hlt),Array.getElem_modify_self,hk]
 rfl
theorem put5 {w:World} {B:Nat} {a b c d e:Value} {T:TypeId} (h:w.heap[B]?=some (.cells #[a,b,c,d,e] T (0,0))) (v0 v1 v2 v3 v4:Value):
  ∃ wf,wf=(((((w.setCell ⟨B,0,none⟩ v0).setCell ⟨B,1,none⟩ v1).setCell ⟨B,2,none⟩ v2).setCell ⟨B,3,none⟩ v3).setCell ⟨B,4,none⟩ v4)∧wf.heap[B]?=some (.cells #[v0,v1,v2,v3,v4] T (0,0))∧KeepBut (fun k=>k=B) w wf:=by
 refine ⟨_,rfl,?_,?_⟩
 ·have h1:=put1 (i:=4) (put1 (i:=3) (put1 (i:=2) (put1 (i:=1) (put1 (i:=0) h v0) v1) v2) v3) v4
  exact h1
 ·have s:∀ (w:World) (i:Nat) (v:Value),KeepBut (fun k=>k=B) w (w.setCell ⟨B,i,none⟩ v):=fun w i v=>KeepBut.setCell _ _ _ rfl
  exact ((((s _ _ _).trans (s _ _ _)).trans (s _ _ _)).trans (s _ _ _)).trans (s _ _ _)
set_option maxHeartbeats 4000000 in
theorem word_any (s:ByteArray) (w:World) (htab:TabS w):
  Calls Tryz.prog 117 #[.string s] w fun e w'=>e=.returned (.tuple #[tokV (wordT s.data.toList).1 0 0,.int .i64 (wordT s.data.toList).2])∧KeepBut (fun _=>False) w w':=by
 obtain ⟨m,hm⟩:∃ m,(s.data.toList.takeWhile wordB).length=m:=⟨_,rfl⟩
 have hsl:s.data.toList.length=s.size:=by simp
 have hms:m≤s.size:=by rw [←hm,←hsl];exact takeWhile_le _ _
 have het:s.extract 0 m=⟨(s.data.toList.takeWhile wordB).toArray⟩:=by rw [extract_take,←hm,takeWhile_take]
 obtain ⟨W0,B,hW0,hB,hb,hk0,hs0⟩:=fresh_block w (.cells #[.int .i64 0,.string ⟨#[]⟩,.int .i64 0,.int .i64 0,.int .i64 0] 76)
 have hS:=span_any wordB word_small 87 (enters_of Tryz.func87 (by kernel_rfl) rfl) inWord_any s W0
 rw [hm] at hS
 have HS:=hid hS
 have HB:=hid hb;have HK:=hid hk0;have HT:=hid (hk0.tabS htab)
 have HN:=hid (show w.heap.size=B∧B<W0.heap.size by omega)
 clear hS hsl hb hk0 hs0 htab
 by_cases h16:16<m
 ·have h16i:(16:Int)<m:=by omega
  have HE:=hid (show wordT s.data.toList=(Tok.zero,3) by unfold wordT;rw [hm,if_pos h16])
  clear hm het hms
  go_enter Tryz.func117,Tryz.ntmps117
  go_upto_region 1 with fail
  rw [←hW0,←hB]
  clear hW0 hB
  go_wp2_with (go_at_call 86;refine HS.out.mono ?_;rintro e w1 ⟨rfl,hk1⟩;have HB1:=hid (hk1.blk HB.out);obtain ⟨n0,n1,n2,n3,n4,f0,f1,f2,f3,f4⟩:=blk5 HB1.out;have HK1:=hid hk1;clear hk1)
  obtain ⟨wf,hwf,hp,hkp⟩:=put5 HB1.out (.int .i64 0) (.string ⟨#[]⟩) (.int .i64 0) (.int .i64 0) (.int .i64 0)
  rw [←hwf]
  obtain ⟨c0,c1,c2,c3,c4,-⟩:=blk5 hp
  refine bodyPost_ret (v:=.tuple #[.agg #[.int .i64 0,.string ⟨#[]⟩,.int .i64 0,.int .i64 0,.int .i64 0],.int .i64 3]) (by simp [results,Tryz.results117,go_sem,c0,c1,c2,c3,c4]) rfl ⟨by rw [HE.out];rfl,?_⟩
  exact (HK.out.trans HK1.out).new hkp fun k e=>by have h2:k=B:=e;have:=HN.out;omega
 ·have h16i:¬(16:Int)<m:=by omega
  have h0:(0:Int)≤m:=by omega
  have hmi:(m:Int)≤s.size:=by omega
  obtain ⟨tx,htx⟩:∃ tx,s.data.toList.takeWhile wordB=tx:=⟨_,rfl⟩
  rw [htx] at het
  have hre:∀ W:World,TabS W→Calls Tryz.prog 88 #[.string ⟨tx.toArray⟩] W fun e w'=>e=.returned (.bool (reservedB tx))∧KeepBut (fun _=>False) W w':=fun W h=>by
   have:=isReserved_any ⟨tx.toArray⟩ W h
   simpa using this
  obtain ⟨r,hr⟩:∃ r,reservedB tx=r:=⟨_,rfl⟩
  rw [hr] at hre
  have HR:=hid hre
  have HE:=hid (show wordT s.data.toList=(⟨if r=true then 1 else 2,tx,0⟩,0) by unfold wordT;rw [hm,if_neg h16,htx,hr])
  clear h16 hm htx hre hr
  go_enter Tryz.func117,Tryz.ntmps117
  go_upto_region 1 with fail
  rw [←hW0,←hB]
  clear hW0 hB
  go_upto_region 5 with (go_at_call 86;refine HS.out.mono ?_;rintro e w1 ⟨rfl,hk1⟩;have HB1:=hid (hk1.blk HB.out);have HK1:=hid hk1;clear hk1)
  obtain ⟨W2,B5,hW2,hB5,hb5,hk2,-⟩:=fresh_block w1 (.cells #[.int .i64 2,.string ⟨tx.toArray⟩,.int .i64 0,.int .i64 0,.int .i64 0] 76)
  rw [←hW2,←hB5]
  have HB5:=hid hb5
  have HK2:=hid (HK1.out.trans hk2)
  have HL5:=hid (show W0.heap.size≤B5∧B<B5 by have:=HK1.out.size;have:=HN.out;omega)
  have HT2:=hid (HK2.out.tabS HT.out)
  have n1:=(blk5 hb5).2.1
  clear hW2 hB5 hb5 hk2 het hmi h0
  cases r with
  | false=>
   go_upto_region 7 with (go_at_call 88;refine (HR.out _ HT2.out).mono ?_;rintro e w3 ⟨rfl,hk3⟩;have HB3:=hid (hk3.blk (HK2.out.blk HB.out));have HB53:=hid (hk3.blk HB5.out);have HK3:=hid (HK2.out.trans hk3);clear hk3)
   obtain ⟨n0,n1,n2,n3,n4,f0,f1,f2,f3,f4⟩:=blk5 HB3.out
   obtain ⟨m0,m1,m2,m3,m4,-⟩:=blk5 HB53.out
   go_wp2_with fail
   obtain ⟨wf,hwf,hp,hkp⟩:=put5 HB3.out (.int .i64 2) (.string ⟨tx.toArray⟩) (.int .i64 0) (.int .i64 0) (.int .i64 0)
   rw [←hwf]
   obtain ⟨c0,c1,c2,c3,c4,-⟩:=blk5 hp
   refine bodyPost_ret (v:=.tuple #[.agg #[.int .i64 2,.string ⟨tx.toArray⟩,.int .i64 0,.int .i64 0,.int .i64 0],.int .i64 0]) (by simp [results,Tryz.results117,go_sem,c0,c1,c2,c3,c4]) rfl ⟨by rw [HE.out];rfl,?_⟩
   exact (HK.out.trans HK3.out).new hkp fun k e=>by have h2:k=B:=e;have:=HN.out;omega
  | true=>
   go_upto_region 7 with (go_at_call 88;refine (HR.out _ HT2.out).mono ?_;rintro e w3 ⟨rfl,hk3⟩;have HB3:=hid (hk3.blk (HK2.out.blk HB.out));have HB53:=hid (hk3.blk HB5.out);have HK3:=hid (HK2.out.trans hk3);clear hk3;obtain ⟨n0,-,-,-,-,f0,-⟩:=blk5 HB53.out)
   have hb6:=put1 (i:=0) HB53.out (.int .i64 1)
   have hk6:KeepBut (fun k=>k=B5) w3 (w3.setCell ⟨B5,0,none⟩ (.int .i64 1)):=KeepBut.setCell _ _ _ rfl
   obtain ⟨w6,hw6⟩:∃ w6,w3.setCell ⟨B5,0,none⟩ (.int .i64 1)=w6:=⟨_,rfl⟩
   rw [hw6] at hb6 hk6 ⊢
   have HB6:=hid (KeepBut.blkE hk6 HB3.out (fun e=>by have h1:=hk6.size;have:=HL5.out;omega))
   clear n0 f0
   obtain ⟨n0,n1,n2,n3,n4,f0,f1,f2,f3,f4⟩:=blk5 HB6.out
   obtain ⟨m0,m1,m2,m3,m4,-⟩:=blk5 (a:=.int .i64 1) hb6
   have HK6:=hid (HK3.out.new hk6 fun k e=>by have h2:k=B5:=e;have:=HL5.out;omega)
   clear hw6 hb6 hk6
   go_wp2_with fail
   obtain ⟨wf,hwf,hp,hkp⟩:=put5 HB6.out (.int .i64 1) (.string ⟨tx.toArray⟩) (.int .i64 0) (.int .i64 0) (.int .i64 0)
   rw [←hwf]
   obtain ⟨c0,c1,c2,c3,c4,-⟩:=blk5 hp
   refine bodyPost_ret (v:=.tuple #[.agg #[.int .i64 1,.string ⟨tx.toArray⟩,.int .i64 0,.int .i64 0,.int .i64 0],.int .i64 0]) (by simp [results,Tryz.results117,go_sem,c0,c1,c2,c3,c4]) rfl ⟨by rw [HE.out];rfl,?_⟩
   exact (HK.out.trans HK6.out).new hkp fun k e=>by have h2:k=B:=e;have:=HN.out;omega
/-
  A region that draws its order, with two blocks set aside. No program in sight.
-/
def asideB (n m1 m2:Nat) (x1 x2:Obj) (j:Nat) (w:World):Prop:=if j=n then w.heap[m1]?=some x1 else if j=n+1 then w.heap[m2]?=some x2 else True
def asideBFp (n m1 m2:Nat) (j b:Nat):Prop:=(j=n∧b=m1)∨(j=n+1∧b=m2)
theorem wp_ownB {P:Program} {l:List Oper} {Q:Exit→Act→World→Prop} {id:Nat} {a:Act} {w:World} (hm:P.follows .mixedOrders=true)
  (m1 m2:Nat) (x1 x2:Obj) (h1:w.heap[m1]?=some x1) (h2:w.heap[m2]?=some x2) (hne:m1≠m2) (D av ea:Nat→List Nat) (keep:List Nat) (hok:okB l.toArray D av ea keep=true) (sp:Nat→Option Loud)
  (hlex:Lex P l.toArray w.drew (fun b=>b=m1∨b=m2) sp av ea (fun a F Fp=>Done w.drew (fun b=>b=m1∨b=m2) Q keep a F Fp) l 0 a (asideB l.length m1 m2 x1 x2) (asideBFp l.length m1 m2)):(Code.region id l.toArray true).wp P Q a w:=by
 have lt:∀ {m:Nat} {x:Obj},w.heap[m]?=some x→m<w.heap.size:=fun h=>(Array.getElem?_eq_some_iff.1 h).1
 refine wp_own_lit hm D av ea keep hok sp _ _ _ ?_ ?_ ?_ ?_ hlex
 ·intro j hj
  have hj':j<l.length:=by simpa using hj
  funext w';unfold asideB;rw [if_neg (by omega),if_neg (by omega)]
 ·intro j hj
  have hj':j<l.length:=by simpa using hj
  funext b;unfold asideBFp
  exact propext ⟨fun h=>by rcases h with h | h <;> omega,fun h=>h.elim⟩
 ·intro j hj
  refine ⟨fun w1 w2 _ _ _ h hk=>?_,?_,fun b hb=>?_⟩
  ·unfold asideB at hk ⊢
   by_cases e1:j=l.length
   ·rw [if_pos e1] at hk ⊢
    rw [←hk];exact h m1 (.inl ⟨e1,rfl⟩)
   ·rw [if_neg e1] at hk ⊢
    by_cases e2:j=l.length+1
    ·rw [if_pos e2] at hk ⊢
     rw [←hk];exact h m2 (.inr ⟨e2,rfl⟩)
    ·rw [if_neg e2];trivial
  ·unfold asideB
   by_cases e1:j=l.length
   ·rw [if_pos e1];exact h1
   ·rw [if_neg e1]
    by_cases e2:j=l.length+1
    ·rw [if_pos e2];exact h2
    ·rw [if_neg e2];trivial
  ·rcases hb with ⟨_,hb⟩ | ⟨_,hb⟩
   ·exact ⟨by rw [hb];exact lt h1,.inl hb⟩
   ·exact ⟨by rw [hb];exact lt h2,.inr hb⟩
 ·intro i j _ _ hij b e1 e2
  rcases e1 with ⟨a1,a2⟩ | ⟨a1,a2⟩ <;> rcases e2 with ⟨b1,b2⟩ | ⟨b1,b2⟩ <;> omega
section
variable {P : Program} {w0 : World} {M : Nat → Prop} {o : Oper} {a : Act} {av ea : List Nat} {F : Nat → World → Prop} {Fp : Nat → Nat → Prop}
/-- a store of one cell into block b -/
def sCell (b i:Nat) (T:TypeId) (cs0:Array Value) (v:Value):Loud:={ val:=fun _ _=>undef,fp:=fun _ _ k=>k=b,post:=fun _ _ w=>w.heap[b]?=some (.cells (cs0.setIfInBounds i v) T (0,0)) }
theorem loud_cell (b i:Nat) (T:TypeId) (cs0:Array Value) (v:Value) (hrun:∀ w u,w.cell? ⟨b,i,none⟩=some u→w.frozen? ⟨b,i,none⟩=false→(execOp a.eval o).run P w=.ok .skip (w.setCell ⟨b,i,none⟩ v))
  (j:Nat) (hja:j∈av) (hje:j∈ea) (hF:∀ w,F j w→w.heap[b]?=some (.cells cs0 T (0,0))) (hfp:Fp j b) (hi:i<cs0.size):LoudOk P w0 M o a (sCell b i T cs0 v) av ea F Fp:=by
 refine loud_run ⟨default,trivial⟩ (fun g _ w w' _ _ _ h k=>(h b rfl).trans k) fun w _ hav _=>?_
 obtain ⟨hj,hb⟩:=hav j hja
 have hh:=hF w hj
 refine ⟨w.setCell ⟨b,i,none⟩ v,default,trivial,.inr ⟨hrun w _ (blk_cell hh (Array.getElem?_eq_getElem hi)) (by simp [World.frozen?,hh]),rfl⟩,KeepBut.setCell _ _ _ ⟨j,hje,hfp⟩,fun k hk=>⟨.inr ⟨j,hje,by rw [show k=b from hk];exact hfp⟩,?_⟩,put1 hh v⟩
 rw [show k=b from hk]
 exact Nat.lt_of_lt_of_le (hb b hfp).1 (by simp [World.setCell])
end
end Go.Proofs.YtomlffobbkcmdaaGreatDoor
