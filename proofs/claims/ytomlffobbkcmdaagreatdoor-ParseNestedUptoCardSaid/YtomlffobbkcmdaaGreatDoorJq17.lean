/- Joined texts of this work: Pb8, PbC, App, PbE, Sa1. -/
import Derived.Test.YtomlffobbkcmdaaGreatDoorJq16
import Derived.Test.YtomlffobbkcmdaaGreatDoorJq13
import Derived.Test.YtomlffobbkcmdaaGreatDoorJq12
import Derived.Test.YtomlffobbkcmdaaGreatDoorJq9
import Derived.Maps.AppendAt
import Derived.Test.YtomlffobbkcmdaaGreatDoorJq6
/-
  Package parse: reading an expression; Expr.
-/
namespace Go.Proofs.YtomlffobbkcmdaaGreatDoor
open Go Go.RowKit Own
open Go.Lib (hid)
theorem RowT.rowI {w:World} {p:Option Addr} {its:List Item} (h:RowT w p its):RowI w p its:=fun i hi=>by
 obtain ⟨g,h1,h2,h3,h4,h5,h6⟩:=h i hi
 refine ⟨g,0,h1,?_⟩
 simp only [Nat.zero_add]
 exact ⟨h2,h3,h4,h5,h6⟩
abbrev TFa:TypeId:=30
theorem blk3f {w:World} {B:Nat} {a b c:Value} {T:TypeId} (h:w.heap[B]?=some (.cells #[a,b,c] T (0,0))):
  w.cell? ⟨B,0,none⟩=some a∧w.cell? ⟨B,1,none⟩=some b∧w.cell? ⟨B,2,none⟩=some c∧w.frozen? ⟨B,0,none⟩=false∧w.frozen? ⟨B,1,none⟩=false∧w.frozen? ⟨B,2,none⟩=false:=by
 simp [World.cell?,World.frozen?,h]
/-- the tokens of a text, and the room behind them -/
theorem all_room {s:ByteArray} {its:List Item} (h:allT s.data.toList=(its,⟨0,0,0⟩)) (hne:its≠[]) (w:World) (hT:TabS w):
  Calls Tryz.prog 64 #[.string s] w fun e w'=>∃ g cap,e=.returned (.tuple #[.slice (some ⟨g,0,none⟩) its.length cap,.agg #[.int .i64 0,.int .i64 0,.int .i64 0]])∧RowI w' (some ⟨g,0,none⟩) its∧its.length≤cap∧cap≤9223372036854775807∧(g<w'.heap.size∧w.heap.size≤g)∧KeepBut (fun _=>False) w w':=by
 refine (all_any s w hT).mono ?_
 rintro e w' ⟨v,rfl,hrow,hk⟩
 rw [h] at hrow ⊢
 obtain ⟨p,cap',hv,hrt,hlt⟩:=RowT.of_owns hrow
 obtain ⟨h0,⟨h1,h2⟩ | ⟨g,cap2,cur,hv2,hbs,hg,h2,h3,h4,h5⟩⟩:=hrow
 ·exact absurd (List.eq_nil_of_length_eq_zero h2) hne
 ·rw [hv2] at hv
  cases hv
  subst hv2
  exact ⟨g,_,rfl,hrt.rowI,h2,by unfold maxLen at h3;omega,⟨(Array.getElem?_eq_some_iff.1 hg).1,hbs⟩,hk⟩
set_option maxRecDepth 100000 in
set_option maxHeartbeats 32000000 in
theorem readingE_any (f:Nat) (s:ByteArray) (its:List Item) (x:Ex) (w:World) (hT:TabS w) (hall:allT s.data.toList=(its,⟨0,0,0⟩)) (hss:s.size≤1000000) (hx:exP f its=some (x,[])) (hne:its≠[]) (hsz:exSize x≤600) (hdp:exDeep x≤24):
  Calls Tryz.prog 30 #[.string s,.func (.func 31) #[] #[],.func (.func 34) #[] #[]] w fun e w'=>∃ vs,e=.returned (.tuple #[.agg vs.toArray,.agg #[.int .i64 0,.int .i64 0,.int .i64 0]])∧ExAt w' (fun b=>w.heap.size≤b) vs x∧KeepBut (fun _=>False) w w':=by
 obtain ⟨V1,B6,hV1,hB6,hb6,hk1,hs1⟩:=fresh_block w (.cells #[.int .i64 0,.int .i64 0,.int .i64 0,.string ⟨#[]⟩,.slice none 0 0,.int .i64 0,.int .i64 0] TEx)
 obtain ⟨V,B7,hV,hB7,hb7,hk2,hs2⟩:=fresh_block V1 (.cells #[.int .i64 0,.int .i64 0,.int .i64 0] TFa)
 have hk:=hk1.trans hk2
 have hALL:=all_room hall hne V (hk.tabS hT)
 have HALL:=hid hALL
 have HBE:=hid fun W=>behind_any s hss W
 have h67:B6+1=B7:=by omega
 have HK:=hid hk;have HB6:=hid (hk2.blk hb6);have HB7:=hid hb7;have HX:=hid hx;have HSZ:=hid hsz;have HDP:=hid hdp
 have HN:=hid (show w.heap.size≤B6∧B6<B7∧B7<V.heap.size by omega)
 clear hT hall hss hx hne hsz hdp hb6 hb7 hk1 hk2 hs1 hs2 hk hALL
 go_enter_defers Tryz.func30,Tryz.ntmps30
 go_upto_region 1 with fail
 rw [←hV1,←hB6,←hV,h67]
 clear hV1 hB6 hV hB7 h67
 go_wp2_with fail
 go_at_call 64
 refine HALL.out.mono ?_
 rintro e w1 ⟨g,cap,rfl,hrow,hc1,hc2,hg,hk⟩
 have HK1:=hid hk;have HROW:=hid hrow;have HCAP:=hid (And.intro hc1 hc2);have HG:=hid hg
 have hb71:=hk.blk HB7.out
 have HB71:=hid hb71
 obtain ⟨n0,n1,n2,f0,f1,f2⟩:=blk3f hb71
 clear hk hrow hc1 hc2 hg hb71
 go_upto_region 2 with fail
 obtain ⟨w2,hw2,hb2,hk2⟩:=put3 HB71.out (.int .i64 0) (.int .i64 0) (.int .i64 0)
 rw [←hw2]
 have hn:=HN.out
 have HB72:=hid hb2
 have HB62:=hid (hk2.blkE (HK1.out.blk HB6.out) fun e=>by have e:B6=B7:=e;omega)
 have HROW2:=hid (show RowI w2 (some ⟨g,0,none⟩) its∧g<w2.heap.size∧g≠B7∧g≠B6 from by
  have hg:=HG.out
  have h7:g≠B7:=by omega
  exact ⟨HROW.out.keep hk2 (fun a ha e=>by cases ha;exact h7 e),Nat.lt_of_lt_of_le hg.1 hk2.size,h7,by omega⟩)
 have HK2:=hid (show KeepBut (fun b=>b=B7) w w2 from ((HK.out.trans HK1.out).mono fun _ e=>e.elim).trans hk2)
 clear hw2 hb2 hk2 hn n0 n1 n2 f0 f1 f2
 obtain ⟨n0,n1,n2,-⟩:=blk3f HB72.out
 go_upto_region 5 with fail
 clear n0 n1 n2
 go_wp2_with fail
 go_at_call 66
 refine (HBE.out w2).mono ?_
 rintro e w3 ⟨el,ec,rfl,hk3⟩
 obtain ⟨W4,R,hW4,hR,hbr,hk4,hs4⟩:=fresh_block w3 (.cells #[.slice (some ⟨g,0,none⟩) its.length cap,.int .i64 0,.string ⟨#[]⟩,.int .i64 0,.int .i64 el,.int .i64 ec] TRd)
 have hk34:=hk3.trans hk4
 have HR4:=hid (show ReaderAt W4 R its el ec from ⟨some ⟨g,0,none⟩,cap,hbr,HROW2.out.1.keep hk34 (fun _ _ e=>e),fun a ha=>by cases ha;have:=HROW2.out.2.1;have:=hk3.size;show g<R;omega,HCAP.out⟩)
 have HRE:=hid (readE_any f W4 R el ec its x HR4.out HX.out)
 have HB64:=hid (hk34.blk HB62.out);have HB74:=hid (hk34.blk HB72.out)
 have HK4:=hid (HK2.out.newM hk34 fun _ e=>e.elim)
 have HN4:=hid (show B7<R∧R<W4.heap.size∧w2.heap.size≤R by
  have h1:=(Array.getElem?_eq_some_iff.1 HB72.out).1
  have h2:=hk3.size
  omega)
 clear hk3 hk4 hk34 hbr hs4
 go_wp2_with fail
 rw [←hW4,←hR]
 clear hW4 hR
 go_at_call 31
 refine HRE.out.mono ?_
 rintro e w5 ⟨vs,rfl,hex,hk5⟩
 obtain ⟨xk,xo,xn,xS,xp,xm,xc,xl,xcl,rfl⟩:=ex_form hex
 have hn:=HN.out;have hn4:=HN4.out
 have hb65:=hk5.blkE HB64.out fun e=>by have e:B6=R:=e;omega
 have HB65:=hid hb65
 have HB75:=hid (hk5.blkE HB74.out fun e=>by have e:B7=R:=e;omega)
 have HEX:=hid hex;have HK5:=hid hk5
 obtain ⟨m0,m1,m2,m3,m4,m5,m6,f0,f1,f2,f3,f4,f5,f6⟩:=blk7 hb65
 clear hex hk5 hb65 hn hn4
 go_upto_region 6 with fail
 obtain ⟨w6,hw6,hb6,hk6⟩:=put7 HB65.out (.int .i64 xk) (.int .i64 xo) (.int .i64 xn) (.string xS) (.slice xp xm xc) (.int .i64 xl) (.int .i64 xcl)
 rw [←hw6]
 have hn:=HN.out;have hn4:=HN4.out
 have HB66:=hid hb6
 have HB76:=hid (hk6.blkE HB75.out fun e=>by have e:B7=B6:=e;omega)
 have HEX6:=hid (HEX.out.keep hk6 fun b hb e=>by have e:b=B6:=e;have hb:W4.heap.size≤b:=hb;omega)
 have HKW6:=hid (show KeepBut (fun _=>False) w w6 from ⟨hk6.os.trans (HK5.out.os.trans HK4.out.os),hk6.tape.trans (HK5.out.tape.trans HK4.out.tape),hk6.output.trans (HK5.out.output.trans HK4.out.output),Nat.le_trans HK4.out.size (Nat.le_trans HK5.out.size hk6.size),fun b hb _=>by
  have h1:=HK4.out.size
  rw [hk6.block b (Nat.lt_of_lt_of_le hb (Nat.le_trans HK4.out.size HK5.out.size)) (show ¬b=B6 by omega),HK5.out.block b (by omega) (show ¬b=R by omega),HK4.out.block b hb (show ¬b=B7 by omega)]⟩)
 have HWG:=hid (weigh_any 600 x HSZ.out (by decide) w6 _ _ HEX6.out)
 obtain ⟨c0,c1,c2,c3,c4,c5,c6,-⟩:=blk7 hb6
 clear hw6 hb6 hk6 hn hn4 m0 m1 m2 m3 m4 m5 m6 f0 f1 f2 f3 f4 f5 f6
 go_wp2_with fail
 go_at_call 34
 refine HWG.out.mono ?_
 rintro e w7 ⟨rfl,hk7⟩
 have HKW7:=hid (HKW6.out.trans hk7)
 have HB67:=hid (hk7.blk HB66.out);have HB77:=hid (hk7.blk HB76.out);have HEX7:=hid (HEX6.out.keep hk7 fun _ _ e=>e)
 have h600:decide ((600:Int)<(exSize x:Int))=false:=decide_eq_false (by have:=HSZ.out;omega)
 have h24:decide ((24:Int)<(exDeep x:Int))=false:=decide_eq_false (by have:=HDP.out;omega)
 clear hk7 c0 c1 c2 c3 c4 c5 c6
 go_upto_region 9 with fail
 refine wp_ownB (by kernel_rfl) B6 B7 _ _ HB67.out HB77.out (by have:=HN.out;omega) (fun i=>[[],[],[0],[0,1,2]].getD i []) (fun i=>if i=0 then [4] else if i=1 then [5] else if i=2 then [4] else if i=3 then [5] else []) (fun i=>if i=2 then [4] else if i=3 then [5] else []) [2,3] (by kernel_rfl)
  (fun i=>if i=0 then some (sConst (.agg #[.int .i64 xk,.int .i64 xo,.int .i64 xn,.string xS,.slice xp xm xc,.int .i64 xl,.int .i64 xcl])) else if i=1 then some (sConst (.agg #[.int .i64 0,.int .i64 0,.int .i64 0])) else if i=2 then some (sPut B6 TEx) else if i=3 then some (sPut B7 TFa) else none) ?_
 refine lex_loud rfl rfl (loud_run ⟨default,trivial⟩ (fun g _ w w' _ _ _ _ _=>trivial) fun w' hk hav _=>by
  obtain ⟨x0,x1,x2,x3,x4,x5,x6,-⟩:=blk7 (show w'.heap[B6]?=some (.cells #[.int .i64 xk,.int .i64 xo,.int .i64 xn,.string xS,.slice xp xm xc,.int .i64 xl,.int .i64 xcl] TEx (0,0)) from (hav 4 (by decide)).1)
  exact ⟨w',default,trivial,.inl (by go_simp <;> rfl),KeepBut.refl _ _,fun b h=>h.elim,trivial⟩) fun _ _=>?_
 simp only [sConst,Act.put,LS]
 refine lex_loud rfl rfl (loud_run ⟨default,trivial⟩ (fun g _ w w' _ _ _ _ _=>trivial) fun w' hk hav _=>by
  obtain ⟨x0,x1,x2,-⟩:=blk3f (show w'.heap[B7]?=some (.cells #[.int .i64 0,.int .i64 0,.int .i64 0] TFa (0,0)) from (hav 5 (by decide)).1)
  exact ⟨w',default,trivial,.inl (by go_simp <;> rfl),KeepBut.refl _ _,fun b h=>h.elim,trivial⟩) fun _ _=>?_
 simp only [Act.put,LS]
 refine lex_loud rfl rfl (loud_put B6 TEx TEx #[.int .i64 xk,.int .i64 xo,.int .i64 xn,.string xS,.slice xp xm xc,.int .i64 xl,.int .i64 xcl] _ (.tmp 6) (.tmp 44) rfl rfl rfl 4 (by decide) (by decide) (fun w h=>h) (.inl ⟨rfl,rfl⟩) rfl (by kernel_rfl) (by simp [Value.oneCell'])) fun g2 _=>?_
 simp only [sPut,Act.put]
 refine lex_loud rfl rfl (loud_put B7 TFa TFa #[.int .i64 0,.int .i64 0,.int .i64 0] _ (.tmp 7) (.tmp 45) rfl rfl rfl 5 (by decide) (by decide) (fun w h=>h) (.inr ⟨rfl,rfl⟩) rfl (by kernel_rfl) (by simp [Value.oneCell'])) fun g3 _=>?_
 simp only [Act.put]
 refine lex_nil ?_
 intro w9 hk9 hF _
 have f2:w9.heap[B6]?=some (.cells #[.int .i64 xk,.int .i64 xo,.int .i64 xn,.string xS,.slice xp xm xc,.int .i64 xl,.int .i64 xcl] TEx (0,0)):=(hF 2 (by decide)).1 _ (put_args rfl rfl)
 have f3:w9.heap[B7]?=some (.cells #[.int .i64 0,.int .i64 0,.int .i64 0] TFa (0,0)):=(hF 3 (by decide)).1 _ (put_args rfl rfl)
 have hkM:=(KeepBut.drew (fun b=>b=B6∨b=B7) w7).trans hk9
 have hn:=HN.out;have hn4:=HN4.out
 have HEX9:=hid ((HEX7.out.keep hkM fun b hb e=>by have hb:W4.heap.size≤b:=hb;omega).mono (S':=fun b=>w.heap.size≤b) fun b hb=>by have hb:W4.heap.size≤b:=hb;omega)
 have HK9:=hid (HKW7.out.new hkM fun b hb=>by omega)
 obtain ⟨c0,c1,c2,c3,c4,c5,c6,-⟩:=blk7 f2
 obtain ⟨d0,d1,d2,-⟩:=blk3f f3
 clear hk9 hF f2 f3 hkM hn hn4
 go_wp2_with fail
 refine leaves_cons (f:=65) (args:=#[.pointer (some ⟨B6,0,none⟩),.pointer (some ⟨B7,0,none⟩)]) (by simp) (by simp [go_sem]) ?_
 refine (catch_idle ⟨B6,0,none⟩ ⟨B7,0,none⟩ _).mono ?_
 rintro e u' w'' ⟨rfl,rfl,rfl⟩
 exact ⟨.tuple #[.agg #[.int .i64 xk,.int .i64 xo,.int .i64 xn,.string xS,.slice xp xm xc,.int .i64 xl,.int .i64 xcl],.agg #[.int .i64 0,.int .i64 0,.int .i64 0]],by simp [results,Tryz.results30,go_sem,c0,c1,c2,c3,c4,c5,c6,d0,d1,d2],_,rfl,HEX9.out,HK9.out⟩
set_option maxHeartbeats 8000000 in
/-- Expr, of a text that is an expression -/
theorem expr_any (f:Nat) (s:ByteArray) (its:List Item) (x:Ex) (w:World) (hT:TabS w) (hall:allT s.data.toList=(its,⟨0,0,0⟩)) (hss:s.size≤1000000) (hx:exP f its=some (x,[])) (hne:its≠[]) (hsz:exSize x≤600) (hdp:exDeep x≤24):
  Calls Tryz.prog 11 #[.string s] w fun e w'=>∃ vs,e=.returned (.tuple #[.agg vs.toArray,.agg #[.int .i64 0,.int .i64 0,.int .i64 0]])∧ExAt w' (fun b=>w.heap.size≤b) vs x∧KeepBut (fun _=>False) w w':=by
 obtain ⟨V1,B2,hV1,hB2,hb2,hk1,hs1⟩:=fresh_block w (.cells #[.int .i64 0,.int .i64 0,.int .i64 0,.string ⟨#[]⟩,.slice none 0 0,.int .i64 0,.int .i64 0] TEx)
 obtain ⟨V,B3,hV,hB3,hb3,hk2,hs2⟩:=fresh_block V1 (.cells #[.int .i64 0,.int .i64 0,.int .i64 0] TFa)
 have hk:=hk1.trans hk2
 have HRE:=hid (readingE_any f s its x V (hk.tabS hT) hall hss hx hne hsz hdp)
 have h23:B2+1=B3:=by omega
 have HK:=hid hk;have HB2:=hid (hk2.blk hb2);have HB3:=hid hb3
 have HN:=hid (show w.heap.size≤B2∧B2<B3∧B3<V.heap.size by omega)
 clear hT hall hss hx hne hsz hdp hb2 hb3 hk1 hk2 hs1 hs2 hk
 go_enter Tryz.func11,Tryz.ntmps11
 go_upto_region 1 with fail
 rw [←hV1,←hB2,←hV,h23]
 clear hV1 hB2 hV hB3 h23
 go_wp2_with fail
 go_at_call 30
 refine HRE.out.mono ?_
 rintro e w1 ⟨vs,rfl,hex,hk1⟩
 obtain ⟨xk,xo,xn,xS,xp,xm,xc,xl,xcl,rfl⟩:=ex_form hex
 have HEX:=hid hex;have HK1:=hid hk1
 have hb2:=hk1.blk HB2.out;have hb3:=hk1.blk HB3.out
 have HB2:=hid hb2;have HB3:=hid hb3
 obtain ⟨m0,m1,m2,m3,m4,m5,m6,f0,f1,f2,f3,f4,f5,f6⟩:=blk7 hb2
 obtain ⟨q0,q1,q2,g0,g1,g2⟩:=blk3f hb3
 have hne23:B2≠B3:=by have:=HN.out;omega
 have hne32:B3≠B2:=by have:=HN.out;omega
 clear hex hk1 hb2 hb3
 go_wp2_with fail
 obtain ⟨wa,hwa,hba,hka⟩:=put7 HB2.out (.int .i64 xk) (.int .i64 xo) (.int .i64 xn) (.string xS) (.slice xp xm xc) (.int .i64 xl) (.int .i64 xcl)
 rw [←hwa]
 have hn:=HN.out
 obtain ⟨wf,hwf,hbf,hkf⟩:=put3 (hka.blkE HB3.out fun e=>by have e:B3=B2:=e;omega) (.int .i64 0) (.int .i64 0) (.int .i64 0)
 rw [←hwf]
 obtain ⟨c0,c1,c2,c3,c4,c5,c6,-⟩:=blk7 (hkf.blkE hba fun e=>by have e:B2=B3:=e;omega)
 obtain ⟨d0,d1,d2,-⟩:=blk3f hbf
 clear hwa hwf
 exact bodyPost_ret (v:=.tuple #[.agg #[.int .i64 xk,.int .i64 xo,.int .i64 xn,.string xS,.slice xp xm xc,.int .i64 xl,.int .i64 xcl],.agg #[.int .i64 0,.int .i64 0,.int .i64 0]]) (by simp [results,Tryz.results11,go_sem,c0,c1,c2,c3,c4,c5,c6,d0,d1,d2]) rfl ⟨_,rfl,((HEX.out.keep hka fun b hb e=>by have e:b=B2:=e;have hb:V.heap.size≤b:=hb;omega).keep hkf fun b hb e=>by have e:b=B3:=e;have hb:V.heap.size≤b:=hb;omega).mono fun b hb=>by have hb:V.heap.size≤b:=hb;omega,((HK.out.trans HK1.out).new hka fun b e=>by have e:b=B2:=e;omega).new hkf fun b e=>by have e:b=B3:=e;omega⟩
/-
  Package parse: takes, words, kinds, of.
-/
set_option maxHeartbeats 4000000 in
theorem takes_any (op:Int) (w:World):Calls Tryz.prog 113 #[.int .i64 op] w fun e w'=>e=.returned (.bool (op==2 || op==4))∧w'=w:=by
 by_cases h2:op=2
 ·subst h2
  go_enter Tryz.func113,Tryz.ntmps113
  go_wp2_with fail
  go_ret
  exact ⟨rfl,rfl⟩
 ·have h2b:(op==2)=false:=by simpa using h2
  rw [h2b,Bool.false_or]
  go_enter Tryz.func113,Tryz.ntmps113
  go_wp2_with fail
  go_ret
  exact ⟨rfl,rfl⟩
def opsV:Array Value:=#[.string ⟨#[]⟩,.string ⟨#[112,117,115,104]⟩,.string ⟨#[112,111,112]⟩,.string ⟨#[101,110,113]⟩,.string ⟨#[100,101,113]⟩,.string ⟨#[97,100,100]⟩,.string ⟨#[114,101,109,111,118,101]⟩,.string ⟨#[104,97,115]⟩]
set_option maxHeartbeats 4000000 in
theorem words_any (w:World):Calls Tryz.prog 126 #[] w fun e w'=>e=.returned (.agg opsV)∧KeepBut (fun _=>False) w w':=by
 obtain ⟨V,B,hV,hB,hb,hk,hs⟩:=fresh_block w (.cells opsV 173)
 have HK:=hid hk
 unfold opsV at hV hb ⊢
 clear hk hs
 go_enter Tryz.func126,Tryz.ntmps126
 go_wp2_with fail
 rw [←hV,←hB]
 refine bodyPost_ret (v:=.agg opsV) ?_ rfl ⟨rfl,HK.out⟩
 unfold opsV
 simp [results,Tryz.results126,go_sem,World.cell?,hb]
def kindsV:Array Value:=#[.string ⟨#[]⟩,.string ⟨#[115,116,97,99,107]⟩,.string ⟨#[113,117,101,117,101]⟩,.string ⟨#[115,101,116]⟩]
set_option maxHeartbeats 4000000 in
theorem kinds_any (w:World):Calls Tryz.prog 41 #[] w fun e w'=>e=.returned (.agg kindsV)∧KeepBut (fun _=>False) w w':=by
 obtain ⟨V,B,hV,hB,hb,hk,hs⟩:=fresh_block w (.cells kindsV 91)
 have HK:=hid hk
 unfold kindsV at hV hb ⊢
 clear hk hs
 go_enter Tryz.func41,Tryz.ntmps41
 go_wp2_with fail
 rw [←hV,←hB]
 refine bodyPost_ret (v:=.agg kindsV) ?_ rfl ⟨rfl,HK.out⟩
 unfold kindsV
 simp [results,Tryz.results41,go_sem,World.cell?,hb]
theorem ba_inj {a b:List UInt8} (h:(⟨a.toArray⟩:ByteArray)=⟨b.toArray⟩):a=b:=by
 have:=congrArg (fun x:ByteArray=>x.data.toList) h
 simpa using this
theorem idxFrom_list (s:List UInt8):∀ (L:List (List UInt8)) (i:Nat),Lib.idxFromS (L.map fun l=>(⟨l.toArray⟩:ByteArray)) ⟨s.toArray⟩ i=if L.contains s=true then ((i+L.idxOf s:Nat):Int) else -1
 | [],i=>by simp [Lib.idxFromS]
 | l::L,i=>by
  rw [List.map_cons]
  unfold Lib.idxFromS
  by_cases h:l=s
  ·subst h
   simp
  ·have h1:¬(⟨l.toArray⟩:ByteArray)=⟨s.toArray⟩:=fun e=>h (ba_inj e)
   have h2:¬s=l:=fun e=>h e.symm
   rw [if_neg h1,idxFrom_list s L (i+1)]
   simp only [List.contains_cons,List.idxOf_cons,Bool.or_eq_true,beq_iff_eq]
   by_cases hc:L.contains s=true
   ·rw [if_pos hc,if_pos (.inr hc),show (l==s)=false by simpa using h]
    simp only [cond_false]
    omega
   ·rw [if_neg hc,if_neg (fun e=>e.elim h2 hc)]
/-- a text's number in a table -/
theorem of_any (L:List (List UInt8)) (hlen:L.length≤1000) (g o c:Nat) (w:World) (hc:∀ j (h:j<L.length),w.cell? ⟨g,o+j,none⟩=some (.string ⟨L[j].toArray⟩)) (s:List UInt8):
  Calls Tryz.prog 78 #[.slice (some ⟨g,o,none⟩) L.length c,.string ⟨s.toArray⟩] w fun e w'=>e=.returned (.int .i64 (ofL L s))∧w'=w:=by
 have hI:=Tryz.slices_Index_string g o L.length c (L.map fun l=>(⟨l.toArray⟩:ByteArray)) ⟨s.toArray⟩ w (by simp) (by omega) (fun j hj=>by
  have hj':j<L.length:=by simpa using hj
  rw [hc j hj']
  simp [List.getD,hj'])
 rw [List.take_of_length_le (by simp),show Lib.idxOfS (L.map fun l=>(⟨l.toArray⟩:ByteArray)) ⟨s.toArray⟩=_ from idxFrom_list s L 0,Nat.zero_add] at hI
 clear hc
 unfold ofL
 by_cases h0:s=[]
 ·subst h0
  rw [if_pos rfl]
  obtain ⟨k,hk⟩:∃ k:Int,(if L.contains []=true then ((L.idxOf ([]:List UInt8):Nat):Int) else -1)=k:=⟨_,rfl⟩
  rw [hk] at hI
  have HI:=hid hI
  clear hI hk
  by_cases hp:0<k
  ·go_enter Tryz.func78,Tryz.ntmps78
   go_wp2_with (go_at_call 102;refine HI.out.mono ?_;rintro e w' ⟨rfl,rfl⟩)
   go_ret
   exact ⟨rfl,rfl⟩
  ·go_enter Tryz.func78,Tryz.ntmps78
   go_wp2_with (go_at_call 102;refine HI.out.mono ?_;rintro e w' ⟨rfl,rfl⟩)
   go_ret
   exact ⟨rfl,rfl⟩
 ·rw [if_neg h0]
  by_cases hh:L.contains s=true
  ·rw [if_pos hh] at hI ⊢
   obtain ⟨k,hk⟩:∃ k,L.idxOf s=k:=⟨_,rfl⟩
   rw [hk] at hI ⊢
   have HI:=hid hI
   clear hI hk hh
   by_cases hp:0<k
   ·have hpi:(0:Int)<k:=by omega
    have he:s.isEmpty=false:=by
     cases s with
     | nil=>exact absurd rfl h0
     | cons _ _=>rfl
    go_enter Tryz.func78,Tryz.ntmps78
    go_wp2_with (go_at_call 102;refine HI.out.mono ?_;rintro e w' ⟨rfl,rfl⟩)
    go_ret
    exact ⟨rfl,rfl⟩
   ·have hpi:k=0:=by omega
    subst hpi
    go_enter Tryz.func78,Tryz.ntmps78
    go_wp2_with (go_at_call 102;refine HI.out.mono ?_;rintro e w' ⟨rfl,rfl⟩)
    go_ret
    exact ⟨rfl,rfl⟩
  ·rw [if_neg hh] at hI ⊢
   have HI:=hid hI
   clear hI hh
   go_enter Tryz.func78,Tryz.ntmps78
   go_wp2_with (go_at_call 102;refine HI.out.mono ?_;rintro e w' ⟨rfl,rfl⟩)
   go_ret
   exact ⟨rfl,rfl⟩
/-
  append of a row that is read to a row of one's own. No program in sight.
-/
/-
  append of one thing, of any size, to a row of one's own. No program in sight.
-/
/-- append of one thing of several cells to a row of one's own, at the operation -/
theorem wpList_appendV {P:Program} {w:World} {ops:Array Oper} {rest:List Oper} {o:Oper} {a:Act} {Q:Exit→Act→World→Prop} (hgd:o.guard=none) (s x:Operand) (t:TypeId)
  (ho:o.op=.call { callee:=.builtin .append,args:=#[s,x],argTypes:=#[t,t] }) (E:TypeId) (z:Value) (size bytes:Nat) (ht:P.underlying t=some (.slice E))
  (hinfo:(P.info? E).map (fun i=>(i.zero,i.size,i.bytes))=some (some z,size,bytes)) (hzs:z.cells.size=size) (hsz:0<size)
  (v:Value) (n:Nat) (xs:List Value) (hown:w.ownsRow 0 E size v n xs) (vb c:Nat) (news:List Value) (hl:news.length=size) (hv:w.heap[vb]?=some (.cells news.toArray E (0,0))) (h1:∀ u∈news,u.oneCell'=true)
  (h63:n+1≤maxLen) (hbytes:(n+1) * bytes≤140737488355328) (hs:a.eval s=v) (hx:a.eval x=.slice (some ⟨vb,0,none⟩) 1 c)
  (h:∀ v' w',w'.ownsRow 0 E size v' (n+1) (xs++news)→KeepBut (fun b=>v.ownBlock=some b) w w'→(v'.ownBlock=v.ownBlock∨v'.ownBlock=some w.heap.size)→wpList P ops Q rest (a.put o.dst v') w'):
  wpList P ops Q (o::rest) a w:=by
 obtain ⟨i0,hi,hz0,hz1,hz2⟩:∃ i0,P.info? E=some i0∧i0.zero=some z∧i0.size=size∧i0.bytes=bytes:=by
  cases hi:P.info? E with
  | none=>rw [hi] at hinfo;cases hinfo
  | some i0=>
   rw [hi] at hinfo
   simp only [Option.map_some,Option.some.injEq,Prod.mk.injEq] at hinfo
   exact ⟨i0,rfl,hinfo.1,hinfo.2.1,hinfo.2.2⟩
 obtain ⟨v',w',e1,e2,e3,e4,e5⟩:=run_append_own_at (P:=P) w 0 t o.type E i0 z size bytes ht hi hz0 hz1 hz2 hzs hsz v n xs hown ⟨vb,0,none⟩ 1 c news (by rw [hl,Nat.one_mul])
  (fun j u hj=>by
   rw [add_off]
   exact blk_cell hv (by simpa using hj)) h1 h63 hbytes (Nat.zero_le _)
 refine wpList_plain hgd fun K hK=>?_
 unfold Oper.wp execOp
 simp only [ho,resolve,invoke,builtin,Sem.run_bind,Sem.run_pure,Result.andThen_ok,List.map_toArray,List.map_cons,List.map_nil,hs,hx,e1]
 exact hK _ _ (h v' w' e2 (KeepBut.grown e3 fun k hk=>hk) e5)
/-
  Statements in memory; steps of a reader.
-/
abbrev TSm:TypeId:=58
abbrev TStg:TypeId:=9
mutual
/-- the cells of a statement; what it holds lies in blocks of S -/
def StAt (w:World) (S:Nat→Prop):List Value→St→Prop
 | vs,.mk k nm sz op val into cont xs thn els l c=>∃ p1 c1 p2 c2 p3 c3,vs=[.int .i64 k,strV nm,.int .i64 sz,.int .i64 op,strV val,strV into,strV cont,.slice p1 xs.length c1,.slice p2 thn.length c2,.slice p3 els.length c3,.int .i64 l,.int .i64 c]∧KidsAt w S p1 0 xs∧StsAt w S p2 0 thn∧StsAt w S p3 0 els
def StsAt (w:World) (S:Nat→Prop) (p:Option Addr):Nat→List St→Prop
 | _,[]=>True
 | i,x::l=>(∃ g o vs,p=some ⟨g,o,none⟩∧S g∧(∀ j v,vs[j]?=some v→w.cell? ⟨g,o+i * 12+j,none⟩=some v)∧StAt w S vs x)∧StsAt w S p (i+1) l
end
mutual
theorem StAt.keepS {w w':World} {S S':Nat→Prop} (hk:∀ b o v,S b→w.cell? ⟨b,o,none⟩=some v→w'.cell? ⟨b,o,none⟩=some v∧S' b):∀ {vs:List Value} {e:St},StAt w S vs e→StAt w' S' vs e
 | vs,.mk k nm sz op val into cont xs thn els l c,h=>by
  unfold StAt at h ⊢
  obtain ⟨p1,c1,p2,c2,p3,c3,h1,h2,h3,h4⟩:=h
  exact ⟨p1,c1,p2,c2,p3,c3,h1,KidsAt.keepS hk h2,StsAt.keepS hk h3,StsAt.keepS hk h4⟩
theorem StsAt.keepS {w w':World} {S S':Nat→Prop} (hk:∀ b o v,S b→w.cell? ⟨b,o,none⟩=some v→w'.cell? ⟨b,o,none⟩=some v∧S' b):∀ {p:Option Addr} {i:Nat} {l:List St},StsAt w S p i l→StsAt w' S' p i l
 | p,i,[],_=>by unfold StsAt;trivial
 | p,i,x::l,h=>by
  unfold StsAt at h ⊢
  obtain ⟨⟨g,o,vs,h1,h2,h3,h4⟩,h5⟩:=h
  have hv:∃ v,vs[0]?=some v:=by
   cases x with
   | mk k nm sz op val into cont xs thn els l c=>
    unfold StAt at h4
    obtain ⟨p1,c1,p2,c2,p3,c3,h6,-⟩:=h4
    exact ⟨_,by rw [h6];rfl⟩
  obtain ⟨v0,hv0⟩:=hv
  exact ⟨⟨g,o,vs,h1,(hk g _ _ h2 (h3 0 v0 hv0)).2,fun j v hj=>(hk g _ _ h2 (h3 j v hj)).1,StAt.keepS hk h4⟩,StsAt.keepS hk h5⟩
end
theorem StAt.keep {E:Nat→Prop} {w w':World} {S:Nat→Prop} (k:KeepBut E w w') (hE:∀ b,S b→¬E b) {vs:List Value} {e:St} (h:StAt w S vs e):StAt w' S vs e:=
 h.keepS fun b _ _ hb hc=>⟨k.cell hc (hE b hb),hb⟩
theorem StAt.inHeap {w:World} {S:Nat→Prop} {vs:List Value} {e:St} (h:StAt w S vs e):StAt w (fun b=>S b∧b<w.heap.size) vs e:=
 h.keepS fun _ _ _ hb hc=>⟨hc,hb,World.block_lt_of_cell? w _ hc⟩
theorem StAt.mono {w:World} {S S':Nat→Prop} (hS:∀ b,S b→S' b) {vs:List Value} {e:St} (h:StAt w S vs e):StAt w S' vs e:=
 h.keepS fun _ _ _ hb hc=>⟨hc,hS _ hb⟩
theorem StsAt.keep {E:Nat→Prop} {w w':World} {S:Nat→Prop} (k:KeepBut E w w') (hE:∀ b,S b→¬E b) {p:Option Addr} {i:Nat} {l:List St} (h:StsAt w S p i l):StsAt w' S p i l:=
 h.keepS fun b _ _ hb hc=>⟨k.cell hc (hE b hb),hb⟩
theorem StsAt.mono {w:World} {S S':Nat→Prop} (hS:∀ b,S b→S' b) {p:Option Addr} {i:Nat} {l:List St} (h:StsAt w S p i l):StsAt w S' p i l:=
 h.keepS fun _ _ _ hb hc=>⟨hc,hS _ hb⟩
theorem st_form {w:World} {S:Nat→Prop} {vs:List Value} {x:St} (h:StAt w S vs x):∃ a n b c s1 s2 s3 p1 m1 c1 p2 m2 c2 p3 m3 c3 l cl,vs=[.int .i64 a,.string n,.int .i64 b,.int .i64 c,.string s1,.string s2,.string s3,.slice p1 m1 c1,.slice p2 m2 c2,.slice p3 m3 c3,.int .i64 l,.int .i64 cl]:=by
 cases x with
 | mk k nm sz op val into cont xs thn els l c=>
  unfold StAt at h
  obtain ⟨p1,c1,p2,c2,p3,c3,h1,-⟩:=h
  exact ⟨_,_,_,_,_,_,_,_,_,_,_,_,_,_,_,_,_,_,h1⟩
section
variable {w : World} {B : Nat} {a b c d e f g h i j k l : Value} {T : TypeId}
theorem blk12 (hh:w.heap[B]?=some (.cells #[a,b,c,d,e,f,g,h,i,j,k,l] T (0,0))):
  w.cell? ⟨B,0,none⟩=some a∧w.cell? ⟨B,1,none⟩=some b∧w.cell? ⟨B,2,none⟩=some c∧w.cell? ⟨B,3,none⟩=some d∧w.cell? ⟨B,4,none⟩=some e∧w.cell? ⟨B,5,none⟩=some f∧w.cell? ⟨B,6,none⟩=some g∧w.cell? ⟨B,7,none⟩=some h∧w.cell? ⟨B,8,none⟩=some i∧w.cell? ⟨B,9,none⟩=some j∧w.cell? ⟨B,10,none⟩=some k∧w.cell? ⟨B,11,none⟩=some l:=by
 simp [World.cell?,hh]
theorem frz12 (hh:w.heap[B]?=some (.cells #[a,b,c,d,e,f,g,h,i,j,k,l] T (0,0))) (n:Nat):w.frozen? ⟨B,n,none⟩=false:=by simp [World.frozen?,hh]
theorem s_put0 (hh:w.heap[B]?=some (.cells #[a,b,c,d,e,f,g,h,i,j,k,l] T (0,0))) (v:Value):∃ w',w'=w.setCell ⟨B,0,none⟩ v∧w'.heap[B]?=some (.cells #[v,b,c,d,e,f,g,h,i,j,k,l] T (0,0))∧KeepBut (fun k=>k=B) w w':=by
 have h0:=put1 (i:=0) hh v
 simp only [List.setIfInBounds_toArray,List.set_cons_zero] at h0
 exact ⟨_,rfl,h0,KeepBut.setCell _ _ _ rfl⟩
theorem s_put1 (hh:w.heap[B]?=some (.cells #[a,b,c,d,e,f,g,h,i,j,k,l] T (0,0))) (v:Value):∃ w',w'=w.setCell ⟨B,1,none⟩ v∧w'.heap[B]?=some (.cells #[a,v,c,d,e,f,g,h,i,j,k,l] T (0,0))∧KeepBut (fun k=>k=B) w w':=by
 have h0:=put1 (i:=1) hh v
 simp only [LS] at h0
 exact ⟨_,rfl,h0,KeepBut.setCell _ _ _ rfl⟩
theorem s_put2 (hh:w.heap[B]?=some (.cells #[a,b,c,d,e,f,g,h,i,j,k,l] T (0,0))) (v:Value):∃ w',w'=w.setCell ⟨B,2,none⟩ v∧w'.heap[B]?=some (.cells #[a,b,v,d,e,f,g,h,i,j,k,l] T (0,0))∧KeepBut (fun k=>k=B) w w':=by
 have h0:=put1 (i:=2) hh v
 simp only [LS] at h0
 exact ⟨_,rfl,h0,KeepBut.setCell _ _ _ rfl⟩
theorem s_put3 (hh:w.heap[B]?=some (.cells #[a,b,c,d,e,f,g,h,i,j,k,l] T (0,0))) (v:Value):∃ w',w'=w.setCell ⟨B,3,none⟩ v∧w'.heap[B]?=some (.cells #[a,b,c,v,e,f,g,h,i,j,k,l] T (0,0))∧KeepBut (fun k=>k=B) w w':=by
 have h0:=put1 (i:=3) hh v
 simp only [LS] at h0
 exact ⟨_,rfl,h0,KeepBut.setCell _ _ _ rfl⟩
theorem s_put4 (hh:w.heap[B]?=some (.cells #[a,b,c,d,e,f,g,h,i,j,k,l] T (0,0))) (v:Value):∃ w',w'=w.setCell ⟨B,4,none⟩ v∧w'.heap[B]?=some (.cells #[a,b,c,d,v,f,g,h,i,j,k,l] T (0,0))∧KeepBut (fun k=>k=B) w w':=by
 have h0:=put1 (i:=4) hh v
 simp only [LS] at h0
 exact ⟨_,rfl,h0,KeepBut.setCell _ _ _ rfl⟩
theorem s_put5 (hh:w.heap[B]?=some (.cells #[a,b,c,d,e,f,g,h,i,j,k,l] T (0,0))) (v:Value):∃ w',w'=w.setCell ⟨B,5,none⟩ v∧w'.heap[B]?=some (.cells #[a,b,c,d,e,v,g,h,i,j,k,l] T (0,0))∧KeepBut (fun k=>k=B) w w':=by
 have h0:=put1 (i:=5) hh v
 simp only [LS] at h0
 exact ⟨_,rfl,h0,KeepBut.setCell _ _ _ rfl⟩
theorem s_put6 (hh:w.heap[B]?=some (.cells #[a,b,c,d,e,f,g,h,i,j,k,l] T (0,0))) (v:Value):∃ w',w'=w.setCell ⟨B,6,none⟩ v∧w'.heap[B]?=some (.cells #[a,b,c,d,e,f,v,h,i,j,k,l] T (0,0))∧KeepBut (fun k=>k=B) w w':=by
 have h0:=put1 (i:=6) hh v
 simp only [LS] at h0
 exact ⟨_,rfl,h0,KeepBut.setCell _ _ _ rfl⟩
theorem s_put7 (hh:w.heap[B]?=some (.cells #[a,b,c,d,e,f,g,h,i,j,k,l] T (0,0))) (v:Value):∃ w',w'=w.setCell ⟨B,7,none⟩ v∧w'.heap[B]?=some (.cells #[a,b,c,d,e,f,g,v,i,j,k,l] T (0,0))∧KeepBut (fun k=>k=B) w w':=by
 have h0:=put1 (i:=7) hh v
 simp only [LS] at h0
 exact ⟨_,rfl,h0,KeepBut.setCell _ _ _ rfl⟩
theorem s_put8 (hh:w.heap[B]?=some (.cells #[a,b,c,d,e,f,g,h,i,j,k,l] T (0,0))) (v:Value):∃ w',w'=w.setCell ⟨B,8,none⟩ v∧w'.heap[B]?=some (.cells #[a,b,c,d,e,f,g,h,v,j,k,l] T (0,0))∧KeepBut (fun k=>k=B) w w':=by
 have h0:=put1 (i:=8) hh v
 simp only [LS] at h0
 exact ⟨_,rfl,h0,KeepBut.setCell _ _ _ rfl⟩
theorem s_put9 (hh:w.heap[B]?=some (.cells #[a,b,c,d,e,f,g,h,i,j,k,l] T (0,0))) (v:Value):∃ w',w'=w.setCell ⟨B,9,none⟩ v∧w'.heap[B]?=some (.cells #[a,b,c,d,e,f,g,h,i,v,k,l] T (0,0))∧KeepBut (fun k=>k=B) w w':=by
 have h0:=put1 (i:=9) hh v
 simp only [LS] at h0
 exact ⟨_,rfl,h0,KeepBut.setCell _ _ _ rfl⟩
theorem s_put10 (hh:w.heap[B]?=some (.cells #[a,b,c,d,e,f,g,h,i,j,k,l] T (0,0))) (v:Value):∃ w',w'=w.setCell ⟨B,10,none⟩ v∧w'.heap[B]?=some (.cells #[a,b,c,d,e,f,g,h,i,j,v,l] T (0,0))∧KeepBut (fun k=>k=B) w w':=by
 have h0:=put1 (i:=10) hh v
 simp only [LS] at h0
 exact ⟨_,rfl,h0,KeepBut.setCell _ _ _ rfl⟩
theorem s_put11 (hh:w.heap[B]?=some (.cells #[a,b,c,d,e,f,g,h,i,j,k,l] T (0,0))) (v:Value):∃ w',w'=w.setCell ⟨B,11,none⟩ v∧w'.heap[B]?=some (.cells #[a,b,c,d,e,f,g,h,i,j,k,v] T (0,0))∧KeepBut (fun k=>k=B) w w':=by
 have h0:=put1 (i:=11) hh v
 simp only [LS] at h0
 exact ⟨_,rfl,h0,KeepBut.setCell _ _ _ rfl⟩
end
theorem must_new {w:World} {R:Nat} {its:List Item} {el ec:Nat} (h:ReaderAt w R its el ec) (L:List (List UInt8)) (hl:L.length≤1000) (r:List Item) (hm:mustT L its=some r):
  Calls Tryz.prog 76 #[rdV R,.slice (some ⟨w.heap.size,0,none⟩) L.length L.length] (w.alloc (.cells (L.map strV).toArray TStg)) fun e w'=>e=.returned (.tuple #[])∧ReaderAt w' R r el ec∧KeepBut (fun b=>b=R) w w':=by
 have hk:=KeepBut.alloc (fun _=>False) w (.cells (L.map strV).toArray TStg)
 have hR:=h.lt
 refine (must_any (w.alloc (.cells (L.map strV).toArray TStg)) R its el ec (h.keep hk fun _ _ e=>e) (some ⟨w.heap.size,0,none⟩) L.length L (fun i hi=>⟨w.heap.size,0,rfl,?_⟩) (fun a ha=>by cases ha;show w.heap.size≠R;omega) hl r hm).mono ?_
 ·rw [Nat.zero_add]
  exact blk_cell (heap_alloc_new w _) (by simp [strV,hi])
 ·rintro e w' ⟨rfl,h1,h2⟩
  exact ⟨rfl,h1,(hk.mono fun _ e=>e.elim).trans h2⟩
theorem must1 {w:World} {R:Nat} {its:List Item} {el ec:Nat} (h:ReaderAt w R its el ec) (s:List UInt8) (r:List Item) (hm:mustT [s] its=some r):
  Calls Tryz.prog 76 #[rdV R,.slice (some ⟨w.heap.size,0,none⟩) 1 1] (w.alloc (.cells #[.string ⟨s.toArray⟩] TStg)) fun e w'=>e=.returned (.tuple #[])∧ReaderAt w' R r el ec∧KeepBut (fun b=>b=R) w w':=must_new h [s] (by simp) r hm
theorem must2 {w:World} {R:Nat} {its:List Item} {el ec:Nat} (h:ReaderAt w R its el ec) (s t:List UInt8) (r:List Item) (hm:mustT [s,t] its=some r):
  Calls Tryz.prog 76 #[rdV R,.slice (some ⟨w.heap.size,0,none⟩) 2 2] (w.alloc (.cells #[.string ⟨s.toArray⟩,.string ⟨t.toArray⟩] TStg)) fun e w'=>e=.returned (.tuple #[])∧ReaderAt w' R r el ec∧KeepBut (fun b=>b=R) w w':=must_new h [s,t] (by simp) r hm
theorem name_str {w:World} {R:Nat} {t:Item} {r:List Item} {el ec:Nat} (h:ReaderAt w R (t::r) el ec) (hk:t.tok.kind=2):
  Calls Tryz.prog 79 #[rdV R] w fun e w'=>e=.returned (.string ⟨t.tok.text.toArray⟩)∧ReaderAt w' R r el ec∧KeepBut (fun b=>b=R) w w':=name_any w R t r el ec h hk
theorem peek_cons {w:World} {R:Nat} {t:Item} {r:List Item} {el ec:Nat} (h:ReaderAt w R (t::r) el ec):
  Calls Tryz.prog 74 #[rdV R] w fun e w'=>e=.returned (.agg #[.int .i64 t.tok.kind,.string ⟨t.tok.text.toArray⟩,.int .i64 t.tok.num,.int .i64 t.line,.int .i64 t.col])∧KeepBut (fun _=>False) w w':=peek_any w R (t::r) el ec h
theorem want_cons {w:World} {R:Nat} {t:Item} {r:List Item} {el ec:Nat} (h:ReaderAt w R (t::r) el ec) (k:Int) (hk:(t.tok.kind:Int)=k):
  Calls Tryz.prog 77 #[rdV R,.int .i64 k] w fun e w'=>e=.returned (.agg #[.int .i64 t.tok.kind,.string ⟨t.tok.text.toArray⟩,.int .i64 t.tok.num,.int .i64 t.line,.int .i64 t.col])∧ReaderAt w' R r el ec∧KeepBut (fun b=>b=R) w w':=want_any w R t r el ec h k hk
end Go.Proofs.YtomlffobbkcmdaaGreatDoor
