/- Joined texts of this work: PgF, PgG, Bk2, Pnm, Lv17, Lw17. -/
import Derived.Test.YtomlffobbkcmdaaGreatDoorJr38
import Derived.Test.YtomlffobbkcmdaaGreatDoorJr41
import Derived.Test.YtomlffobbkcmdaaGreatDoorJr25
import Derived.Test.YtomlffobbkcmdaaGreatDoorJr26
import Derived.Test.YtomlffobbkcmdaaGreatDoorJr30
/-
  Package parse: Program of any text.
-/
namespace Go.Proofs.YtomlffobbkcmdaaGreatDoor
open Go Go.RowKit Own
open Go.Lib (hid)
/-- the plain reader of programs -/
def progG (g:Nat):List Item→Oc Pr:=progO (blockO (stmtO g (exFo g) g))
/-
  Package parse: Expr of a text that is no expression: where it gives up.
-/
set_option maxHeartbeats 8000000 in
theorem readE_giv (w:World) (R el ec:Nat) (its b:List Item) (hr:ReaderAt w R its el ec) (hG:∀ W,ReaderAt W R its el ec→Calls Tryz.prog 32 #[rdV R] W fun e w'=>e=.panicked (fltAt b el ec)∧KeepBut (fun b=>b=R) W w'):
  Calls Tryz.prog 31 #[rdV R] w fun e w'=>e=.panicked (fltAt b el ec)∧KeepBut (fun b=>b=R) w w':=by
 obtain ⟨V,B2,hV,hB2,hb2,hk,hs⟩:=fresh_block w (.cells #[.int .i64 0,.int .i64 0,.int .i64 0,.string ⟨#[]⟩,.slice none 0 0,.int .i64 0,.int .i64 0] TEx)
 obtain ⟨FL,hFL⟩:∃ FL:List PanicEntry,FL=fltAt b el ec:=⟨_,rfl⟩
 have hE:=hG V (hr.keep hk fun _ _ e=>e)
 rw [←hFL] at hE ⊢
 have HE:=hid hE
 have HK:=hid hk
 clear hr hG hE hFL hb2 hk hs
 go_enter Tryz.func31,Tryz.ntmps31
 go_upto_region 1 with fail
 rw [←hV]
 clear hV hB2
 go_wp2_with fail
 go_at_call 32
 refine HE.out.mono ?_
 rintro e w1 ⟨rfl,hk1⟩
 have HKE:=hid ((HK.out.mono (E':=fun b=>b=R) fun _ e=>e.elim).trans hk1)
 clear hk1
 go_wp2_with fail
 exact ⟨rfl,rfl,HKE.out⟩
set_option maxHeartbeats 8000000 in
theorem readE_left (f:Nat) (w:World) (R el ec:Nat) (its:List Item) (x:Ex) (t:Item) (r:List Item) (hr:ReaderAt w R its el ec) (hx:exP f its=some (x,t::r)):
  Calls Tryz.prog 31 #[rdV R] w fun e w'=>e=.panicked (fltAt (t::r) el ec)∧KeepBut (fun b=>b=R) w w':=by
 obtain ⟨FL,hFL⟩:∃ FL:List PanicEntry,FL=fltAt (t::r) el ec:=⟨_,rfl⟩
 rw [←hFL]
 have HFL:=hid hFL
 obtain ⟨V,B2,hV,hB2,hb2,hk,hs⟩:=fresh_block w (.cells #[.int .i64 0,.int .i64 0,.int .i64 0,.string ⟨#[]⟩,.slice none 0 0,.int .i64 0,.int .i64 0] TEx)
 have HE:=hid (exP_reads R el ec f V V its x (t::r) (KeepBut.refl _ _) (hr.keep hk fun _ _ e=>e) hx)
 have HK:=hid hk
 clear hr hx hb2 hk hs hFL
 go_enter Tryz.func31,Tryz.ntmps31
 go_upto_region 1 with fail
 rw [←hV]
 clear hV hB2
 go_wp2_with fail
 go_at_call 32
 refine HE.out.mono ?_
 rintro e w1 ⟨vs,rfl,hex,hr1,hk1⟩
 obtain ⟨xk,xo,xn,xS,xp,xm,xc,xl,xcl,rfl⟩:=ex_form hex
 obtain ⟨W,C,hW,hC,hc,hk2,hs2⟩:=fresh_block w1 (.cells #[.int .i64 xk,.int .i64 xo,.int .i64 xn,.string xS,.slice xp xm xc,.int .i64 xl,.int .i64 xcl] TEx)
 have HR:=hid (hr1.keep hk2 fun _ _ e=>e)
 obtain ⟨pq,cq,hrd,-⟩:=HR.out.ex
 obtain ⟨r0,-⟩:=blk6 hrd
 obtain ⟨n,hn⟩:∃ n,(t::r).length=n:=⟨_,rfl⟩
 rw [hn] at r0
 have hn0:(0:Int)<(n:Int):=by rw [←hn,List.length_cons];omega
 have HKK:=hid (((HK.out.mono fun _ e=>e.elim).trans hk1).newM hk2 fun _ e=>e.elim)
 have HQ:=hid (bad_at HR.out)
 rw [←HFL.out] at HQ
 clear hex hr1 hk1 hk2 hs2 hrd hc hn
 go_upto_region 2 with fail
 rw [←hW]
 clear hW hC
 go_wp2_with fail
 go_at_call 33
 refine HQ.out.mono ?_
 rintro e we ⟨rfl,hk⟩
 have HKE:=hid (HKK.out.trans hk)
 clear hk
 go_wp2_with fail
 exact ⟨rfl,rfl,HKE.out⟩
set_option maxRecDepth 100000 in
set_option maxHeartbeats 32000000 in
theorem readingE_at (s:ByteArray) (its:List Item) (w:World) (hT:TabS w) (hall:allT s.data.toList=(its,⟨0,0,0⟩)) (hss:s.size≤1000000) (b:List Item) (hG:∀ (R el ec:Nat) (W:World),ReaderAt W R its el ec→Calls Tryz.prog 31 #[rdV R] W fun e w'=>e=.panicked (fltAt b el ec)∧KeepBut (fun b=>b=R) W w'):
  Calls Tryz.prog 30 #[.string s,.func (.func 31) #[] #[],.func (.func 34) #[] #[]] w fun e w'=>e=.returned (.tuple #[.agg #[.int .i64 0,.int .i64 0,.int .i64 0,.string ⟨#[]⟩,.slice none 0 0,.int .i64 0,.int .i64 0],.agg #[.int .i64 9,.int .i64 (lineOf b (bhT s.data.toList).1),.int .i64 (colOf b (bhT s.data.toList).2)]])∧KeepBut (fun _=>False) w w':=by
 obtain ⟨V1,B6,hV1,hB6,hb6,hk1,hs1⟩:=fresh_block w (.cells #[.int .i64 0,.int .i64 0,.int .i64 0,.string ⟨#[]⟩,.slice none 0 0,.int .i64 0,.int .i64 0] TEx)
 obtain ⟨V,B7,hV,hB7,hb7,hk2,hs2⟩:=fresh_block V1 (.cells #[.int .i64 0,.int .i64 0,.int .i64 0] TFa)
 have hk:=hk1.trans hk2
 have hALL:=all_rows hall V (hk.tabS hT)
 have HALL:=hid hALL
 have HBE:=hid fun W=>behind_at s hss W
 obtain ⟨el,hel⟩:∃ n,(bhT s.data.toList).1=n:=⟨_,rfl⟩
 obtain ⟨ec,hec⟩:∃ n,(bhT s.data.toList).2=n:=⟨_,rfl⟩
 rw [hel,hec] at HBE ⊢
 obtain ⟨li,hli⟩:∃ n,lineOf b el=n:=⟨_,rfl⟩
 obtain ⟨co,hco⟩:∃ n,colOf b ec=n:=⟨_,rfl⟩
 rw [hli,hco]
 have HLC:=hid (And.intro hli hco)
 clear hel hec hli hco
 have h67:B6+1=B7:=by omega
 have HK:=hid hk;have HB6:=hid (hk2.blk hb6);have HB7:=hid hb7;have HGG:=hid hG
 have HN:=hid (show w.heap.size≤B6∧B6<B7∧B7<V.heap.size by omega)
 clear hT hall hss hG hb6 hb7 hk1 hk2 hs1 hs2 hk hALL
 go_enter_defers Tryz.func30,Tryz.ntmps30
 go_upto_region 1 with fail
 rw [←hV1,←hB6,←hV,h67]
 clear hV1 hB6 hV hB7 h67
 go_wp2_with fail
 go_at_call 64
 refine HALL.out.mono ?_
 rintro e w1 ⟨p,cap,rfl,hrow,hc1,hc2,hg,hk⟩
 have HK1:=hid hk;have HROW:=hid hrow;have HCAP:=hid (And.intro hc1 hc2);have HG:=hid hg
 have hb71:=hk.blk HB7.out
 have HB71:=hid hb71
 obtain ⟨n0,n1,n2,f0,f1,f2⟩:=blk3f hb71
 clear hk hrow hc1 hc2 hg hb71
 go_upto_region 2 with fail
 obtain ⟨w2,hw2,hb2,hk2⟩:=put3 HB71.out (.int .i64 0) (.int .i64 0) (.int .i64 0)
 rw [←hw2]
 have hn:=HN.out
 have HB72:=hid hb2
 have HB62:=hid (hk2.blkE (HK1.out.blk HB6.out) fun e=>by have e:B6=B7:=e;omega)
 have HROW2:=hid (show RowI w2 p its∧∀ a,p=some a→a.block<w2.heap.size from
  ⟨HROW.out.keep hk2 (fun a ha e=>by have h1:=(HG.out a ha).2;have e:a.block=B7:=e;omega),fun a ha=>Nat.lt_of_lt_of_le (HG.out a ha).1 hk2.size⟩)
 have HK2:=hid (show KeepBut (fun b=>b=B7) w w2 from ((HK.out.trans HK1.out).mono fun _ e=>e.elim).trans hk2)
 clear hw2 hb2 hk2 hn n0 n1 n2 f0 f1 f2
 obtain ⟨n0,n1,n2,-⟩:=blk3f HB72.out
 go_upto_region 5 with fail
 clear n0 n1 n2
 go_wp2_with fail
 go_at_call 66
 refine (HBE.out w2).mono ?_
 rintro e w3 ⟨rfl,hk3⟩
 obtain ⟨W4,R,hW4,hR,hbr,hk4,hs4⟩:=fresh_block w3 (.cells #[.slice p its.length cap,.int .i64 0,.string ⟨#[]⟩,.int .i64 0,.int .i64 el,.int .i64 ec] TRd)
 have hk34:=hk3.trans hk4
 have HR4:=hid (show ReaderAt W4 R its el ec from ⟨p,cap,hbr,HROW2.out.1.keep hk34 (fun _ _ e=>e),fun a ha=>by have:=HROW2.out.2 a ha;have:=hk3.size;omega,HCAP.out⟩)
 have HRE:=hid (HGG.out R el ec W4 HR4.out)
 simp only [fltAt,fltC,fltV,TFt,HLC.out.1,HLC.out.2] at HRE
 have HB64:=hid (hk34.blk HB62.out);have HB74:=hid (hk34.blk HB72.out)
 have HK4:=hid (HK2.out.newM hk34 fun _ e=>e.elim)
 have HN4:=hid (show B7<R∧R<W4.heap.size∧w2.heap.size≤R by
  have h1:=(Array.getElem?_eq_some_iff.1 HB72.out).1
  have h2:=hk3.size
  omega)
 clear hk3 hk4 hk34 hbr hs4
 go_wp2_with fail
 rw [←hW4,←hR]
 clear hW4 hR
 go_at_call 31
 refine HRE.out.mono ?_
 rintro e w5 ⟨rfl,hk5⟩
 have hn:=HN.out;have hn4:=HN4.out
 have HB65:=hid (hk5.blkE HB64.out fun e=>by have e:B6=R:=e;omega)
 have HB75:=hid (hk5.blkE HB74.out fun e=>by have e:B7=R:=e;omega)
 have HKW5:=hid (show KeepBut (fun b=>b=B7∨b=R) w w5 from (HK4.out.mono fun _ e=>.inl e).trans (hk5.mono fun _ e=>.inr e))
 clear hk5 hn hn4
 go_wp2_with fail
 refine leaves_cons (f:=65) (args:=#[.pointer (some ⟨B6,0,none⟩),.pointer (some ⟨B7,0,none⟩)]) (by simp) (by simp [go_sem]) ?_
 refine (catch_fault B6 B7 0 0 0 0 0 ⟨#[]⟩ none 0 0 0 0 0 9 li co [] w5 HB65.out HB75.out (by have:=HN.out;omega)).mono ?_
 rintro e u' w'' ⟨rfl,rfl,g6,g7,hkf⟩
 obtain ⟨c0,c1,c2,c3,c4,c5,c6,-⟩:=blk7 g6
 obtain ⟨d0,d1,d2,-⟩:=blk3f g7
 have hkE:KeepBut (fun _=>False) w w'':=(KeepBut.refl (fun _=>False) w).newE ((HKW5.out.mono (E':=fun b=>b=B6∨b=B7∨b=R) fun _ e=>.inr e).trans (hkf.mono fun b e=>e.elim .inl fun e=>.inr (.inl e))) fun b hb=>by have:=HN.out;have:=HN4.out;omega
 exact ⟨.tuple #[.agg #[.int .i64 0,.int .i64 0,.int .i64 0,.string ⟨#[]⟩,.slice none 0 0,.int .i64 0,.int .i64 0],.agg #[.int .i64 9,.int .i64 li,.int .i64 co]],by simp [results,Tryz.results30,go_sem,c0,c1,c2,c3,c4,c5,c6,d0,d1,d2],rfl,hkE⟩
/-- Expr of a text that is no expression -/
theorem expr_gives_at (s:ByteArray) (its b:List Item) (w:World) (hT:TabS w) (hall:allT s.data.toList=(its,⟨0,0,0⟩)) (hss:s.size≤1000000)
  (hG:∀ (R el ec:Nat) (W:World),ReaderAt W R its el ec→Calls Tryz.prog 31 #[rdV R] W fun e w'=>e=.panicked (fltAt b el ec)∧KeepBut (fun b=>b=R) W w'):
  Calls Tryz.prog 11 #[.string s] w fun e w'=>e=.returned (.tuple #[.agg #[.int .i64 0,.int .i64 0,.int .i64 0,.string ⟨#[]⟩,.slice none 0 0,.int .i64 0,.int .i64 0],.agg #[.int .i64 9,.int .i64 (lineOf b (bhT s.data.toList).1),.int .i64 (colOf b (bhT s.data.toList).2)]])∧KeepBut (fun _=>False) w w':=
 expr_flt s 9 _ _ w hT fun w hT=>readingE_at s its w hT hall hss b hG
/-
  fencepostlaw17.back of a program that may be.
-/
/-
  ParseNames: its own walk, but for lives.
-/
theorem all_good {L:List UInt8} {its:List Item} (h:allT L=(its,⟨0,0,0⟩)):GoodI its∧its.length≤8192:=by
 have he:=allT_err L
 rw [h] at he
 rcases he with ⟨-,e1,e2,e3,-⟩ | ⟨e1,-⟩
 ·have e1':its=scan L 1 1 false:=e1
  exact ⟨fun i hi=>by rw [e1'] at hi;exact scan_good _ _ _ _ i hi (e2 i hi),by rw [e1'];exact Nat.le_trans (scan_len L 1 1 false).1 e3⟩
 ·exact absurd rfl e1
theorem all_word {its:List Item} (h:GoodI its):WordI its:=fun t ht e=>good_kw (h t ht) e
/-- Program of a text that is no program, by the plain reader -/
theorem prog_bad_at {s:ByteArray} {its b:List Item} (g:Nat) (hall:allT s.data.toList=(its,⟨0,0,0⟩)) (hss:s.size≤1000000) (hp:progG g its=.bad b) (w:World) (hT:TabS w):
  Calls Tryz.prog 16 #[.string s] w fun e w'=>e=.returned (.tuple #[.agg #[.int .i64 0,.slice none 0 0,.slice none 0 0],.agg #[.int .i64 9,.int .i64 (lineOf b (bhT s.data.toList).1),.int .i64 (colOf b (bhT s.data.toList).2)]])∧KeepBut (fun _=>False) w w':=by
 obtain ⟨hg,hl⟩:=all_good hall
 exact prog_gives s its b w hT hall hss fun R el ec W hr=>gives_of (g:=g) (by omega) (all_word hg) hp W hr
def nA:List UInt8:=[112,111,111,108,32,52,32,59,32,116,104,114,101,97,100,32,123,32,97,32,61,32,112,111,112,32,40,32,115,32,41,32,59,32,125]
def jA:List Item:=(allT nA).1
theorem allnA:allT nA=(jA,⟨0,0,0⟩):=by kernel_rfl
def nB:List UInt8:=[112,111,111,108,32,52]
def jB:List Item:=(allT nB).1
theorem allnB:allT nB=(jB,⟨0,0,0⟩):=by kernel_rfl
def nC:List UInt8:=[49,32,43]
def jC:List Item:=(allT nC).1
theorem allnC:allT nC=(jC,⟨0,0,0⟩):=by kernel_rfl
def nD:List UInt8:=[49,32,50]
def jD:List Item:=(allT nD).1
theorem allnD:allT nD=(jD,⟨0,0,0⟩):=by kernel_rfl
def nE:List UInt8:=[112,111,111,108,32,49,32,59,32,113,117,101,117,101,32,113,32,59,32,116,104,114,101,97,100,32,123,32,105,102,32,49,32,123,32,111,117,116,32,50,32,59,32,125,32,101,108,115,101,32,123,32,125,32,120,32,91,32,49,32,93,32,61,32,45,32,97,32,59,32,125]
def jE:List Item:=(allT nE).1
theorem allnE:allT nE=(jE,⟨0,0,0⟩):=by kernel_rfl
theorem badA:progG 60 jA=.bad (jA.drop 7):=by kernel_rfl
theorem badB:progG 60 jB=.bad []:=by kernel_rfl
theorem placeA:(lineOf (jA.drop 7) (bhT nA).1,colOf (jA.drop 7) (bhT nA).2)=(1,23):=by kernel_rfl
theorem placeB:(lineOf [] (bhT nB).1,colOf [] (bhT nB).2)=(1,7):=by kernel_rfl
theorem noC:exP 20 jC=none:=by kernel_rfl
theorem placeC:(lineOf (exF 20 jC) (bhT nC).1,colOf (exF 20 jC) (bhT nC).2)=(1,4):=by kernel_rfl
def xD:Ex:=((exP 20 jD).getD (.mk 0 0 0 [] 0 0 [],[])).1
theorem leftD:exP 20 jD=some (xD,jD.drop 1):=by kernel_rfl
def tD:Item:=(jD.drop 1).headD ⟨⟨0,[],0⟩,0,0,0⟩
def rD:List Item:=(jD.drop 1).tail
theorem dropD:jD.drop 1=tD::rD:=by kernel_rfl
theorem placeD:(lineOf (tD::rD) (bhT nD).1,colOf (tD::rD) (bhT nD).2)=(1,3):=by kernel_rfl
def prE:Pr:=match progG 60 jE with | .ok pr _=>pr | _=>⟨0,[],[]⟩
theorem okE:progG 60 jE=.ok prE []:=by kernel_rfl
def gpE:Gp:=toP prE
theorem textE:putL (tokP gpE)=[112,111,111,108,32,49,32,59,10,113,117,101,117,101,32,113,32,59,10,116,104,114,101,97,100,32,123,10,105,102,32,49,32,123,10,111,117,116,32,50,32,59,10,125,10,120,32,91,32,49,32,93,32,61,32,45,32,97,32,59,10,125,10]:=by kernel_rfl
theorem sizeE:(hSize gpE.threads,hDeep gpE.threads,thsSize prE.threads,thsDeep prE.threads)=(8,3,8,3):=by kernel_rfl
theorem lensE:(gpE.pool,gpE.conts.length,gpE.threads.length,prE.threads.length)=(1,1,1,1):=by kernel_rfl
theorem sameE:sameP gpE gpE=true:=by kernel_rfl
theorem checkE:checkP gpE=true∧Small gpE:=(progO_tell (blockO_tell (stmtO_tell 60 (exFo 60) 60)) (all_good allnE).1 (by have:=(all_good allnE).2;omega) okE).1
theorem small0:Small ⟨-1,[],[]⟩:=⟨by decide,by decide,by decide,by decide,fun _ h=>(by cases h),fun _ h=>(by cases h)⟩
theorem callA (w:World) (hT:TabS w):Calls Tryz.prog 16 #[.string ⟨#[112,111,111,108,32,52,32,59,32,116,104,114,101,97,100,32,123,32,97,32,61,32,112,111,112,32,40,32,115,32,41,32,59,32,125]⟩] w fun e w'=>e=.returned (.tuple #[.agg #[.int .i64 0,.slice none 0 0,.slice none 0 0],.agg #[.int .i64 9,.int .i64 1,.int .i64 23]])∧KeepBut (fun _=>False) w w':=by
 have h:=prog_bad_at (s:=⟨nA.toArray⟩) 60 allnA (by decide) badA w hT
 have h1:=congrArg Prod.fst placeA
 have h2:=congrArg Prod.snd placeA
 dsimp only at h1 h2
 simp only [h1,h2] at h
 exact h
theorem callB (w:World) (hT:TabS w):Calls Tryz.prog 16 #[.string ⟨#[112,111,111,108,32,52]⟩] w fun e w'=>e=.returned (.tuple #[.agg #[.int .i64 0,.slice none 0 0,.slice none 0 0],.agg #[.int .i64 9,.int .i64 1,.int .i64 7]])∧KeepBut (fun _=>False) w w':=by
 have h:=prog_bad_at (s:=⟨nB.toArray⟩) 60 allnB (by decide) badB w hT
 have h1:=congrArg Prod.fst placeB
 have h2:=congrArg Prod.snd placeB
 dsimp only at h1 h2
 simp only [h1,h2] at h
 exact h
theorem callC (w:World) (hT:TabS w):Calls Tryz.prog 11 #[.string ⟨#[49,32,43]⟩] w fun e w'=>e=.returned (.tuple #[.agg #[.int .i64 0,.int .i64 0,.int .i64 0,.string ⟨#[]⟩,.slice none 0 0,.int .i64 0,.int .i64 0],.agg #[.int .i64 9,.int .i64 1,.int .i64 4]])∧KeepBut (fun _=>False) w w':=by
 have h:=expr_gives_at ⟨nC.toArray⟩ jC (exF 20 jC) w hT allnC (by decide) fun R el ec W hr=>readE_giv W R el ec jC (exF 20 jC) hr fun W hr=>exP_faults R el ec 20 W W jC (KeepBut.refl _ _) hr noC (by decide)
 have h1:=congrArg Prod.fst placeC
 have h2:=congrArg Prod.snd placeC
 dsimp only at h1 h2
 simp only [h1,h2] at h
 exact h
theorem callD (w:World) (hT:TabS w):Calls Tryz.prog 11 #[.string ⟨#[49,32,50]⟩] w fun e w'=>e=.returned (.tuple #[.agg #[.int .i64 0,.int .i64 0,.int .i64 0,.string ⟨#[]⟩,.slice none 0 0,.int .i64 0,.int .i64 0],.agg #[.int .i64 9,.int .i64 1,.int .i64 3]])∧KeepBut (fun _=>False) w w':=by
 have h:=expr_gives_at ⟨nD.toArray⟩ jD (tD::rD) w hT allnD (by decide) fun R el ec W hr=>readE_left 20 W R el ec jD xD tD rD hr (leftD.trans (by rw [dropD]))
 have h1:=congrArg Prod.fst placeD
 have h2:=congrArg Prod.snd placeD
 dsimp only at h1 h2
 simp only [h1,h2] at h
 exact h
theorem callE (w:World) (hT:TabS w):Calls Tryz.prog 16 #[.string ⟨#[112,111,111,108,32,49,32,59,32,113,117,101,117,101,32,113,32,59,32,116,104,114,101,97,100,32,123,32,105,102,32,49,32,123,32,111,117,116,32,50,32,59,32,125,32,101,108,115,101,32,123,32,125,32,120,32,91,32,49,32,93,32,61,32,45,32,97,32,59,32,125]⟩] w fun e w'=>∃ p c q d,e=.returned (.tuple #[.agg #[.int .i64 1,.slice p 1 c,.slice q 1 d],.agg #[.int .i64 0,.int .i64 0,.int .i64 0]])∧PAt w' (fun b=>w.heap.size≤b) (.agg #[.int .i64 1,.slice p 1 c,.slice q 1 d]) gpE∧KeepBut (fun _=>False) w w':=by
 have hs:=sizeE
 have hl:=lensE
 simp only [Prod.mk.injEq] at hs hl
 obtain ⟨hg,hlen⟩:=all_good allnE
 refine (prog_any ⟨nE.toArray⟩ jE prE w hT allnE (by decide) (fun R el ec=>reads_of (g:=60) (by omega) (all_word hg) okE) (by omega) (by intro e;have:=congrArg List.length e;exact absurd this (by decide)) (by omega) (by omega)).mono ?_
 rintro e w' ⟨vs,rfl,hp,hk⟩
 have hp:=hp.toP
 have h0:=hp
 obtain ⟨p,c,q,d,e0,-,-⟩:=h0
 have e0:Value.agg vs.toArray=.agg #[.int .i64 gpE.pool,.slice p gpE.conts.length c,.slice q gpE.threads.length d]:=e0
 rw [hl.1,hl.2.1,hl.2.2.1] at e0
 have hp:PAt w' (fun b=>w.heap.size≤b) (.agg vs.toArray) gpE:=hp
 rw [e0] at hp ⊢
 exact ⟨p,c,q,d,rfl,hp,hk⟩
set_option maxRecDepth 10000 in
set_option maxHeartbeats 64000000 in
theorem parseNames_walk (hL:∀ w,TabS w→TabP w→Calls Tryz.prog 8 #[] w fun e w'=>e=.returned (.bool true)∧KeepBut (fun _=>False) w w') (w:World) (hT:TabS w) (hP:TabP w):
  Calls Tryz.prog 5 #[] w fun e w'=>e=.returned (.bool true)∧KeepBut (fun _=>False) w w':=by
 have HLV:=hid (hL w hT hP)
 have HT:=hid hT;have HP:=hid hP
 clear hL hT hP
 go_enter Tryz.func5,Tryz.ntmps5
 go_wp2_with fail
 go_at_call 8
 refine HLV.out.mono ?_
 rintro e w1 ⟨rfl,hk1⟩
 have HK1:=hid hk1
 clear hk1
 have HQ:=hid (callA w1 (HK1.out.tabS HT.out))
 go_wp2_with fail
 go_at_call 16
 refine HQ.out.mono ?_
 rintro e uA ⟨rfl,hkA⟩
 obtain ⟨VA,PA,hVA,hPA,hpA,hkpA,hspA⟩:=fresh_block uA (.cells #[.int .i64 0,.slice none 0 0,.slice none 0 0] TPr)
 obtain ⟨WA,FA,hWA,hFA,hfA,hkfA,hsfA⟩:=fresh_block VA (.cells #[.int .i64 9,.int .i64 1,.int .i64 23] TFa)
 have HKA:=hid (HK1.out.trans ((hkA.trans hkpA).trans hkfA))
 have HSA:=hid ((hkA.trans hkpA).trans hkfA)
 have HFA:=hid hfA
 have hPF:PA+1=FA:=by omega
 clear hkA hpA hkpA hspA hfA hkfA hsfA HQ
 go_upto_region 4 with fail
 rw [←hVA,←hPA,←hWA,hPF]
 clear hVA hPA hWA hFA hPF
 have HQ:=hid (callB WA (HKA.out.tabS HT.out))
 go_wp2_with fail
 go_at_call 16
 refine HQ.out.mono ?_
 rintro e uB ⟨rfl,hkB⟩
 obtain ⟨VB,PB,hVB,hPB,hpB,hkpB,hspB⟩:=fresh_block uB (.cells #[.int .i64 0,.slice none 0 0,.slice none 0 0] TPr)
 obtain ⟨WB,FB,hWB,hFB,hfB,hkfB,hsfB⟩:=fresh_block VB (.cells #[.int .i64 9,.int .i64 1,.int .i64 7] TFa)
 have HKB:=hid (HKA.out.trans ((hkB.trans hkpB).trans hkfB))
 have HSB:=hid ((hkB.trans hkpB).trans hkfB)
 have HFB:=hid hfB
 have hPF:PB+1=FB:=by omega
 clear hkB hpB hkpB hspB hfB hkfB hsfB HQ
 go_upto_region 5 with fail
 rw [←hVB,←hPB,←hWB,hPF]
 clear hVB hPB hWB hFB hPF
 have HQ:=hid (callC WB (HKB.out.tabS HT.out))
 go_wp2_with fail
 go_at_call 11
 refine HQ.out.mono ?_
 rintro e uC ⟨rfl,hkC⟩
 obtain ⟨VC,PC,hVC,hPC,hpC,hkpC,hspC⟩:=fresh_block uC (.cells #[.int .i64 0,.int .i64 0,.int .i64 0,.string ⟨#[]⟩,.slice none 0 0,.int .i64 0,.int .i64 0] TEx)
 obtain ⟨WC,FC,hWC,hFC,hfC,hkfC,hsfC⟩:=fresh_block VC (.cells #[.int .i64 9,.int .i64 1,.int .i64 4] TFa)
 have HKC:=hid (HKB.out.trans ((hkC.trans hkpC).trans hkfC))
 have HSC:=hid ((hkC.trans hkpC).trans hkfC)
 have HFC:=hid hfC
 have hPF:PC+1=FC:=by omega
 clear hkC hpC hkpC hspC hfC hkfC hsfC HQ
 go_upto_region 6 with fail
 rw [←hVC,←hPC,←hWC,hPF]
 clear hVC hPC hWC hFC hPF
 have HQ:=hid (callD WC (HKC.out.tabS HT.out))
 go_wp2_with fail
 go_at_call 11
 refine HQ.out.mono ?_
 rintro e uD ⟨rfl,hkD⟩
 obtain ⟨VD,PD,hVD,hPD,hpD,hkpD,hspD⟩:=fresh_block uD (.cells #[.int .i64 0,.int .i64 0,.int .i64 0,.string ⟨#[]⟩,.slice none 0 0,.int .i64 0,.int .i64 0] TEx)
 obtain ⟨WD,FD,hWD,hFD,hfD,hkfD,hsfD⟩:=fresh_block VD (.cells #[.int .i64 9,.int .i64 1,.int .i64 3] TFa)
 have HKD:=hid (HKC.out.trans ((hkD.trans hkpD).trans hkfD))
 have HSD:=hid ((hkD.trans hkpD).trans hkfD)
 have HFD:=hid hfD
 have hPF:PD+1=FD:=by omega
 clear hkD hpD hkpD hspD hfD hkfD hsfD HQ
 go_upto_region 7 with fail
 rw [←hVD,←hPD,←hWD,hPF]
 clear hVD hPD hWD hFD hPF
 have HQ:=hid (callE WD (HKD.out.tabS HT.out))
 go_wp2_with fail
 go_at_call 16
 refine HQ.out.mono ?_
 rintro e uE ⟨p,c,q,d,rfl,hq,hkE⟩
 obtain ⟨VE,PE,hVE,hPE,hpE,hkpE,hspE⟩:=fresh_block uE (.cells #[.int .i64 1,.slice p 1 c,.slice q 1 d] TPr)
 obtain ⟨WE,FE,hWE,hFE,hfE,hkfE,hsfE⟩:=fresh_block VE (.cells #[.int .i64 0,.int .i64 0,.int .i64 0] TFa)
 have HKE:=hid (HKD.out.trans ((hkE.trans hkpE).trans hkfE))
 have HFE:=hid hfE;have HPE:=hid (hkfE.blk hpE)
 have HQA:=hid ((hq.keep (hkpE.trans hkfE) fun _ _ e=>e).mono (S':=fun _=>True) fun _ _=>trivial)
 have HF1:=hid (((HSB.out.trans HSC.out).trans HSD.out).trans ((hkE.trans hkpE).trans hkfE) |>.blk HFA.out)
 have HF2:=hid ((HSC.out.trans HSD.out).trans ((hkE.trans hkpE).trans hkfE) |>.blk HFB.out)
 have HF3:=hid (HSD.out.trans ((hkE.trans hkpE).trans hkfE) |>.blk HFC.out)
 have HF4:=hid (((hkE.trans hkpE).trans hkfE).blk HFD.out)
 have hPF:PE+1=FE:=by omega
 obtain ⟨g0,g1,g2,-⟩:=blk3f HPE.out
 have HSZ:=hid (fun W (k:KeepBut (fun _=>False) WE W)=>size_at gpE checkE.2 W _ _ (HQA.out.keep k fun _ _ e=>e))
 have HDP:=hid (fun W (k:KeepBut (fun _=>False) WE W)=>deep_at gpE checkE.2 W _ _ (HQA.out.keep k fun _ _ e=>e))
 have HTX:=hid (fun W (k:KeepBut (fun _=>False) WE W)=>text_at gpE checkE.2 W ((HKE.out.trans k).tabS HT.out) ((HKE.out.trans k).tabP HP.out) _ _ (HQA.out.keep k fun _ _ e=>e))
 have HCK:=hid (fun W (k:KeepBut (fun _=>False) WE W)=>check_at gpE checkE.2 W ((HKE.out.trans k).tabS HT.out) _ _ (HQA.out.keep k fun _ _ e=>e))
 have HCZ:=hid (fun W (k:KeepBut (fun _=>False) WE W)=>check_at ⟨-1,[],[]⟩ small0 W ((HKE.out.trans k).tabS HT.out) (fun _=>False) (.agg #[.int .i64 (-1),.slice none 0 0,.slice none 0 0]) ⟨none,0,none,0,rfl,fun i hi=>absurd hi (by simp),fun i hi=>absurd hi (by simp)⟩)
 have HSA:=hid (fun W (k:KeepBut (fun _=>False) WE W)=>same_at gpE gpE checkE.2 W _ _ _ _ (HQA.out.keep k fun _ _ e=>e) (HQA.out.keep k fun _ _ e=>e))
 have hs:=sizeE
 simp only [Prod.mk.injEq] at hs
 rw [hs.1] at HSZ
 rw [hs.2.1] at HDP
 rw [if_pos checkE.1,textE] at HTX
 rw [if_pos checkE.1] at HCK
 rw [show (if checkP ⟨-1,[],[]⟩=true then (0:Int) else 9)=9 from rfl] at HCZ
 rw [sameE] at HSA
 clear hkE hpE hkpE hspE hfE hkfE hsfE HQ hq hs
 go_upto_region 8 with fail
 rw [←hVE,←hPE,←hWE,hPF]
 clear hVE hPE hWE hFE hPF
 have HQ:=hid (HTX.out WE (KeepBut.refl _ _))
 go_wp2_with fail
 go_at_call 17
 refine HQ.out.mono ?_
 rintro e x1 ⟨rfl,hk⟩
 have HX1:=hid hk
 clear hk g0 g1 g2 HQ
 obtain ⟨a0,a1,a2,-⟩:=blk3f (HX1.out.blk HF1.out)
 obtain ⟨b0,b1,b2,-⟩:=blk3f (HX1.out.blk HF2.out)
 obtain ⟨c0,c1,c2,-⟩:=blk3f (HX1.out.blk HF3.out)
 obtain ⟨d0,d1,d2,-⟩:=blk3f (HX1.out.blk HF4.out)
 obtain ⟨e0,e1,e2,-⟩:=blk3f (HX1.out.blk HFE.out)
 obtain ⟨g0,g1,g2,-⟩:=blk3f (HX1.out.blk HPE.out)
 have HQ:=hid (HSZ.out x1 HX1.out)
 go_wp2_with fail
 go_at_call 18
 refine HQ.out.mono ?_
 rintro e x2 ⟨rfl,hk⟩
 have HX2:=hid (HX1.out.trans hk)
 clear hk g0 g1 g2 HQ a0 a1 a2 b0 b1 b2 c0 c1 c2 d0 d1 d2 e0 e1 e2
 obtain ⟨g0,g1,g2,-⟩:=blk3f (HX2.out.blk HPE.out)
 have HQ:=hid (HDP.out x2 HX2.out)
 go_wp2_with fail
 go_at_call 19
 refine HQ.out.mono ?_
 rintro e x3 ⟨rfl,hk⟩
 have HX3:=hid (HX2.out.trans hk)
 clear hk g0 g1 g2 HQ
 obtain ⟨g0,g1,g2,-⟩:=blk3f (HX3.out.blk HPE.out)
 have HQ:=hid (HCK.out x3 HX3.out)
 go_wp2_with fail
 go_at_call 20
 refine HQ.out.mono ?_
 rintro e x4 ⟨rfl,hk⟩
 have HX4:=hid (HX3.out.trans hk)
 clear hk g0 g1 g2 HQ
 have HQ:=hid (HCZ.out x4 HX4.out)
 go_wp2_with fail
 go_at_call 20
 refine HQ.out.mono ?_
 rintro e x5 ⟨rfl,hk⟩
 have HX5:=hid (HX4.out.trans hk)
 clear hk HQ
 obtain ⟨g0,g1,g2,-⟩:=blk3f (HX5.out.blk HPE.out)
 have HQ:=hid (HSA.out x5 HX5.out)
 go_wp2_with fail
 go_at_call 21
 refine HQ.out.mono ?_
 rintro e x6 ⟨rfl,hk⟩
 have HX6:=hid (HX5.out.trans hk)
 clear hk g0 g1 g2 HQ
 have HFIN:=hid (HKE.out.trans HX6.out)
 go_wp2_with fail
 go_ret
 exact ⟨rfl,HFIN.out⟩
/-
  The chapter's examples: what is read out of them, what their texts are.
-/
def tA:List UInt8:=[49,32,45,32,50,32,45,32,51]
def tB:List UInt8:=[49,32,43,32,50,32,42,32,51]
def tP:List UInt8:=[112,111,111,108,32,52,32,59,32,115,116,97,99,107,32,115,32,59,32,116,104,114,101,97,100,32,123,32,97,32,44,32,98,32,61,32,112,111,112,32,40,32,115,32,41,32,59,32,125]
def iA:List Item:=[⟨⟨3,[49],1⟩,1,1,0⟩,⟨⟨4,[45],0⟩,1,3,0⟩,⟨⟨3,[50],2⟩,1,5,0⟩,⟨⟨4,[45],0⟩,1,7,0⟩,⟨⟨3,[51],3⟩,1,9,0⟩]
def iB:List Item:=[⟨⟨3,[49],1⟩,1,1,0⟩,⟨⟨4,[43],0⟩,1,3,0⟩,⟨⟨3,[50],2⟩,1,5,0⟩,⟨⟨4,[42],0⟩,1,7,0⟩,⟨⟨3,[51],3⟩,1,9,0⟩]
def nX (n l c:Nat):Ex:=.mk 1 0 n [] l c []
def xA:Ex:=.mk 5 5 0 [] 1 7 [.mk 5 5 0 [] 1 3 [nX 1 1 1,nX 2 1 5],nX 3 1 9]
def xB:Ex:=.mk 5 4 0 [] 1 3 [nX 1 1 1,.mk 5 1 0 [] 1 7 [nX 2 1 5,nX 3 1 9]]
theorem allA:allT tA=(iA,⟨0,0,0⟩):=by kernel_rfl
theorem allB:allT tB=(iB,⟨0,0,0⟩):=by kernel_rfl
theorem exA:exP 3 iA=some (xA,[]):=by kernel_rfl
theorem exB:exP 3 iB=some (xB,[]):=by kernel_rfl
def iP2:List Item:=[⟨⟨1,[116,104,114,101,97,100],0⟩,1,20,0⟩,⟨⟨4,[123],0⟩,1,27,0⟩,⟨⟨2,[97],0⟩,1,29,0⟩,⟨⟨4,[44],0⟩,1,31,0⟩,⟨⟨2,[98],0⟩,1,33,0⟩,⟨⟨4,[61],0⟩,1,35,0⟩,⟨⟨1,[112,111,112],0⟩,1,37,0⟩,⟨⟨4,[40],0⟩,1,41,0⟩,⟨⟨2,[115],0⟩,1,43,0⟩,⟨⟨4,[41],0⟩,1,45,0⟩,⟨⟨4,[59],0⟩,1,47,0⟩,⟨⟨4,[125],0⟩,1,49,0⟩]
def iP1:List Item:=⟨⟨1,[115,116,97,99,107],0⟩,1,10,0⟩::⟨⟨2,[115],0⟩,1,16,0⟩::⟨⟨4,[59],0⟩,1,18,0⟩::iP2
def iP:List Item:=⟨⟨1,[112,111,111,108],0⟩,1,1,0⟩::⟨⟨3,[52],4⟩,1,6,0⟩::⟨⟨4,[59],0⟩,1,8,0⟩::iP1
theorem allP:allT tP=(iP,⟨0,0,0⟩):=by kernel_rfl
def sP:St:=.mk 9 [] 0 2 [97] [98] [115] [] [] [] 1 29
def pP:Pr:=⟨4,[⟨1,[115],1,10⟩],[[sP]]⟩
theorem wordPP:WordI iP:=by unfold WordI;decide +kernel
theorem readsPP (R el ec:Nat):ReadsP R el ec iP pP:=progP_reads R el ec 9 iP pP (by decide) wordPP (by kernel_rfl)
theorem itoa_small {n:Nat} (h:n<10):Lib.itoa n=[UInt8.ofNat (48+n)]:=by
 unfold Lib.itoa
 rw [if_neg (by omega)]
 unfold Lib.decDigits
 rw [dif_pos (by simpa using h)]
 simp
theorem textA:mayG (toG xA)=true∧tokG (toG xA)=[[40],[49],[45],[50],[41],[45],[51]]:=by
 refine ⟨by decide +kernel,?_⟩
 have h1:=itoa_small (n:=1) (by decide)
 have h2:=itoa_small (n:=2) (by decide)
 have h3:=itoa_small (n:=3) (by decide)
 simp only [xA,nX,toG,toGL]
 show tokG (.mk 5 5 _ _ _ _ [.mk 5 5 _ _ _ _ [.mk 1 _ 1 _ _ _ [],.mk 1 _ 2 _ _ _ []],.mk 1 _ 3 _ _ _ []])=_
 rw [tok_5,tok_5,tok_1,tok_1,tok_1]
 rw [show Lib.itoa 1=_ from h1,show Lib.itoa 2=_ from h2,show Lib.itoa 3=_ from h3]
 rfl
theorem textB:mayG (toG xB)=true∧tokG (toG xB)=[[49],[43],[40],[50],[42],[51],[41]]:=by
 refine ⟨by decide +kernel,?_⟩
 have h1:=itoa_small (n:=1) (by decide)
 have h2:=itoa_small (n:=2) (by decide)
 have h3:=itoa_small (n:=3) (by decide)
 simp only [xB,nX,toG,toGL]
 show tokG (.mk 5 4 _ _ _ _ [.mk 1 _ 1 _ _ _ [],.mk 5 1 _ _ _ _ [.mk 1 _ 2 _ _ _ [],.mk 1 _ 3 _ _ _ []]])=_
 rw [tok_5,tok_5,tok_1,tok_1,tok_1]
 rw [show Lib.itoa 1=_ from h1,show Lib.itoa 2=_ from h2,show Lib.itoa 3=_ from h3]
 rfl
theorem exprTextA (w:World) (S:Nat→Prop) (vs:List Value) (hex:ExAt w S vs xA) (hT:TabS w) (hP:TabP w):
  Calls Tryz.prog 10 #[.agg vs.toArray] w fun e w'=>e=.returned (.string ⟨#[40,32,49,32,45,32,50,32,41,32,45,32,51]⟩)∧KeepBut (fun _=>False) w w':=by
 have h:=exprText_any (toG xA) S vs w hex.toG hT hP (by simp [xA,nX,toG,toGL,fitG,fitGL]) (by decide +kernel) (fun _=>by rw [textA.2];exact ⟨by decide,by decide⟩)
 rw [if_pos textA.1,textA.2] at h
 exact h
theorem exprTextB (w:World) (S:Nat→Prop) (vs:List Value) (hex:ExAt w S vs xB) (hT:TabS w) (hP:TabP w):
  Calls Tryz.prog 10 #[.agg vs.toArray] w fun e w'=>e=.returned (.string ⟨#[49,32,43,32,40,32,50,32,42,32,51,32,41]⟩)∧KeepBut (fun _=>False) w w':=by
 have h:=exprText_any (toG xB) S vs w hex.toG hT hP (by simp [xB,nX,toG,toGL,fitG,fitGL]) (by decide +kernel) (fun _=>by rw [textB.2];exact ⟨by decide,by decide⟩)
 rw [if_pos textB.1,textB.2] at h
 exact h
theorem exprA (w:World) (hT:TabS w):Calls Tryz.prog 11 #[.string ⟨#[49,32,45,32,50,32,45,32,51]⟩] w fun e w'=>∃ vs,e=.returned (.tuple #[.agg vs.toArray,.agg #[.int .i64 0,.int .i64 0,.int .i64 0]])∧ExAt w' (fun b=>w.heap.size≤b) vs xA∧KeepBut (fun _=>False) w w':=
 expr_any 3 ⟨tA.toArray⟩ iA xA w hT allA (by decide) exA (by decide) (by decide +kernel) (by decide +kernel)
theorem exprB (w:World) (hT:TabS w):Calls Tryz.prog 11 #[.string ⟨#[49,32,43,32,50,32,42,32,51]⟩] w fun e w'=>∃ vs,e=.returned (.tuple #[.agg vs.toArray,.agg #[.int .i64 0,.int .i64 0,.int .i64 0]])∧ExAt w' (fun b=>w.heap.size≤b) vs xB∧KeepBut (fun _=>False) w w':=
 expr_any 3 ⟨tB.toArray⟩ iB xB w hT allB (by decide) exB (by decide) (by decide +kernel) (by decide +kernel)
theorem progP_any (w:World) (hT:TabS w):Calls Tryz.prog 16 #[.string ⟨tP.toArray⟩] w fun e w'=>∃ vs,e=.returned (.tuple #[.agg vs.toArray,.agg #[.int .i64 0,.int .i64 0,.int .i64 0]])∧PrgAt w' (fun b=>w.heap.size≤b) vs pP∧KeepBut (fun _=>False) w w':=
 prog_any ⟨tP.toArray⟩ iP pP w hT allP (by decide) (fun R el ec=>readsPP R el ec) (by decide) (by decide) (by decide +kernel) (by decide +kernel)
/-
  The chapter's examples: lives.
-/
theorem progP2 (w:World) (hT:TabS w):Calls Tryz.prog 16 #[.string ⟨tP.toArray⟩] w fun e w'=>∃ p c q d,e=.returned (.tuple #[.agg #[.int .i64 4,.slice p 1 c,.slice q 1 d],.agg #[.int .i64 0,.int .i64 0,.int .i64 0]])∧ThsAt w' (fun b=>w.heap.size≤b) q [[sP]]∧KeepBut (fun _=>False) w w':=by
 refine (progP_any w hT).mono ?_
 rintro e w' ⟨vs,rfl,⟨p,c,q,d,rfl,-,h⟩,hk⟩
 exact ⟨p,c,q,d,rfl,h,hk⟩
set_option maxRecDepth 4000 in
set_option maxHeartbeats 32000000 in
theorem lives17 (w:World) (hT:TabS w) (hP:TabP w):Calls Tryz.prog 8 #[] w fun e w'=>e=.returned (.bool true)∧KeepBut (fun _=>False) w w':=by
 have HT:=hid hT;have HP:=hid hP
 have HA:=hid (exprA w hT)
 clear hT hP
 go_enter Tryz.func8,Tryz.ntmps8
 go_wp2_with fail
 go_at_call 11
 refine HA.out.mono ?_
 rintro e w1 ⟨vs,rfl,hex,hk⟩
 obtain ⟨ak,ao,an,aS,ap,am,ac,al,acl,rfl⟩:=ex_form hex
 obtain ⟨X,E1,hX,hE,hbe,hkx,hsx⟩:=fresh_block w1 (.cells #[.int .i64 ak,.int .i64 ao,.int .i64 an,.string aS,.slice ap am ac,.int .i64 al,.int .i64 acl] TEx)
 obtain ⟨W1,F1,hW,hF,hbf,hky,hsy⟩:=fresh_block X (.cells #[.int .i64 0,.int .i64 0,.int .i64 0] TFa)
 have hkk:=hkx.trans hky
 have h12:E1+1=F1:=by omega
 have HK1:=hid (hk.trans hkk);have HE11:=hid (hky.blk hbe);have HF11:=hid hbf;have HXA1:=hid (hex.keep hkk fun _ _ e=>e)
 clear hex
 clear hk hkk hbe hbf hkx hky hsx hsy
 go_upto_region 2 with fail
 rw [←hX,←hW,←hE,h12]
 clear hX hW hE hF h12
 have HB:=hid (exprB W1 (HK1.out.tabS HT.out))
 go_wp2_with fail
 go_at_call 11
 refine HB.out.mono ?_
 rintro e w2 ⟨vs,rfl,hey,hk⟩
 obtain ⟨bk,bo,bn,bS,bp,bm,bc,bl,bcl,rfl⟩:=ex_form hey
 obtain ⟨X,E2,hX,hE,hbe,hkx,hsx⟩:=fresh_block w2 (.cells #[.int .i64 bk,.int .i64 bo,.int .i64 bn,.string bS,.slice bp bm bc,.int .i64 bl,.int .i64 bcl] TEx)
 obtain ⟨W2,F2,hW,hF,hbf,hky,hsy⟩:=fresh_block X (.cells #[.int .i64 0,.int .i64 0,.int .i64 0] TFa)
 have hkk:=hkx.trans hky
 have h12:E2+1=F2:=by omega
 have hk2:=hk.trans hkk
 have HK2:=hid (HK1.out.trans hk2);have HE12:=hid (hk2.blk HE11.out);have HF12:=hid (hk2.blk HF11.out);have HE22:=hid (hky.blk hbe);have HF22:=hid hbf;have HXA2:=hid (HXA1.out.keep hk2 fun _ _ e=>e);have HXB2:=hid (hey.keep hkk fun _ _ e=>e)
 clear hey hk2
 clear hk hkk hbe hbf hkx hky hsx hsy
 go_upto_region 3 with fail
 rw [←hX,←hW,←hE,h12]
 clear hX hW hE hF h12
 have HC:=hid (by have h:=progP2 W2 (HK2.out.tabS HT.out);unfold tP at h;exact h)
 go_wp2_with fail
 go_at_call 16
 refine HC.out.mono ?_
 rintro e w3 ⟨p,c,q,d,rfl,hth,hk⟩
 obtain ⟨X,E3,hX,hE,hbe,hkx,hsx⟩:=fresh_block w3 (.cells #[.int .i64 4,.slice p 1 c,.slice q 1 d] TPr)
 obtain ⟨W3,F3,hW,hF,hbf,hky,hsy⟩:=fresh_block X (.cells #[.int .i64 0,.int .i64 0,.int .i64 0] TFa)
 have hkk:=hkx.trans hky
 have h12:E3+1=F3:=by omega
 have hk2:=hk.trans hkk
 have HK3:=hid (HK2.out.trans hk2);have HE13:=hid (hk2.blk HE12.out);have HF13:=hid (hk2.blk HF12.out);have HE23:=hid (hk2.blk HE22.out);have HF23:=hid (hk2.blk HF22.out);have HE33:=hid (hky.blk hbe);have HF33:=hid hbf;have HXA3:=hid (HXA2.out.keep hk2 fun _ _ e=>e);have HXB3:=hid (HXB2.out.keep hk2 fun _ _ e=>e);have HTH:=hid (hth.keepS (w':=W3) (S':=fun b=>W2.heap.size≤b) (fun b o v _ hc=>hkk.stay hc) fun b hb=>hb)
 clear hth hk2
 clear hk hkk hbe hbf hkx hky hsx hsy
 go_upto_region 4 with fail
 rw [←hX,←hW,←hE,h12]
 clear hX hW hE hF h12
 obtain ⟨g,p1,c1,rfl,hc1,hst⟩:=ths_get HTH.out 0 (by decide)
 obtain ⟨g2,o2,vs,rfl,hc2,hs2⟩:=sts_get hst 0 (by decide)
 obtain ⟨s1,d1,s2,d2,s3,d3,rfl,-⟩:=(by unfold sP at hs2;simp only [List.getElem_cons_zero] at hs2;unfold StAt at hs2;exact hs2)
 have e0:W3.cell? ⟨g,0,none⟩=some (.slice (some ⟨g2,o2,none⟩) 1 c1):=hc1
 have y0:W3.cell? ⟨g2,o2,none⟩=some (.int .i64 9):=hc2 0 _ rfl
 have y1:W3.cell? ⟨g2,o2+1,none⟩=some (.string ⟨#[]⟩):=hc2 1 _ rfl
 have y2:W3.cell? ⟨g2,o2+2,none⟩=some (.int .i64 0):=hc2 2 _ rfl
 have y3:W3.cell? ⟨g2,o2+3,none⟩=some (.int .i64 2):=hc2 3 _ rfl
 have y4:W3.cell? ⟨g2,o2+4,none⟩=some (.string ⟨#[97]⟩):=hc2 4 _ rfl
 have y5:W3.cell? ⟨g2,o2+5,none⟩=some (.string ⟨#[98]⟩):=hc2 5 _ rfl
 have y6:W3.cell? ⟨g2,o2+6,none⟩=some (.string ⟨#[115]⟩):=hc2 6 _ rfl
 have y7:W3.cell? ⟨g2,o2+7,none⟩=some (.slice s1 0 d1):=hc2 7 _ rfl
 have y8:W3.cell? ⟨g2,o2+8,none⟩=some (.slice s2 0 d2):=hc2 8 _ rfl
 have y9:W3.cell? ⟨g2,o2+9,none⟩=some (.slice s3 0 d3):=hc2 9 _ rfl
 have y10:W3.cell? ⟨g2,o2+10,none⟩=some (.int .i64 1):=hc2 10 _ rfl
 have y11:W3.cell? ⟨g2,o2+11,none⟩=some (.int .i64 29):=hc2 11 _ rfl
 obtain ⟨m0,m1,m2,-⟩:=blk3f HF13.out
 obtain ⟨k0,k1,k2,-⟩:=blk3f HF23.out
 obtain ⟨l0,l1,l2,-⟩:=blk3f HF33.out
 obtain ⟨r0,r1,r2,-⟩:=blk3f HE33.out
 clear hc1 hc2 hst
 obtain ⟨W4,G4,hW4,hG4,hbg,hkg,hsg⟩:=fresh_block W3 (.cells #[.int .i64 9,.string ⟨#[]⟩,.int .i64 0,.int .i64 2,.string ⟨#[97]⟩,.string ⟨#[98]⟩,.string ⟨#[115]⟩,.slice s1 0 d1,.slice s2 0 d2,.slice s3 0 d3,.int .i64 1,.int .i64 29] TSm)
 have HK4:=hid (HK3.out.trans hkg);have HG4:=hid hbg;have HE14:=hid (hkg.blk HE13.out);have HE24:=hid (hkg.blk HE23.out);have HE34:=hid (hkg.blk HE33.out)
 have HXA4:=hid (HXA3.out.keep hkg fun _ _ e=>e);have HXB4:=hid (HXB3.out.keep hkg fun _ _ e=>e)
 clear hbg hkg hsg
 go_upto_region 7 with fail
 rw [←hW4,←hG4]
 clear hW4 hG4 e0 y0 y1 y2 y3 y4 y5 y6 y7 y8 y9 y10 y11 m0 m1 m2 k0 k1 k2 l0 l1 l2 r0 r1 r2
 have HTA:=hid (exprTextA W4 _ _ HXA4.out (HK4.out.tabS HT.out) (HK4.out.tabP HP.out))
 obtain ⟨a0,a1,a2,a3,a4,a5,a6,-⟩:=blk7 HE14.out
 go_wp2_with fail
 go_at_call 10
 refine HTA.out.mono ?_
 rintro e W5 ⟨rfl,hk5⟩
 have HTB:=hid (exprTextB W5 _ _ (HXB4.out.keep hk5 fun _ _ e=>e) ((HK4.out.trans hk5).tabS HT.out) ((HK4.out.trans hk5).tabP HP.out))
 have HE25:=hid (hk5.blk HE24.out);have HK5:=hid (HK4.out.trans hk5);have HG5:=hid (hk5.blk HG4.out);have HE35:=hid (hk5.blk HE34.out)
 clear hk5 a0 a1 a2 a3 a4 a5 a6
 obtain ⟨a0,a1,a2,a3,a4,a5,a6,-⟩:=blk7 HE25.out
 go_wp2_with fail
 go_at_call 10
 refine HTB.out.mono ?_
 rintro e W6 ⟨rfl,hk6⟩
 have hg6:=hk6.blk HG5.out;have he6:=hk6.blk HE35.out
 have HK6:=hid (HK5.out.trans hk6)
 obtain ⟨y0,y1,y2,y3,y4,y5,y6,y7,y8,y9,y10,y11⟩:=blk12 hg6
 obtain ⟨r0,r1,r2,-⟩:=blk3f he6
 clear hk6 hg6 he6 a0 a1 a2 a3 a4 a5 a6
 go_wp2_with fail
 go_ret
 exact ⟨rfl,HK6.out⟩
end Go.Proofs.YtomlffobbkcmdaaGreatDoor
