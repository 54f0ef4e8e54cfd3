/- Joined texts of this work: Pf6, Pf7, PjR. -/
import Derived.Test.YtknnmidnodeanaaGreatDoorJt1
import Derived.Test.YtknnmidnodeanaaGreatDoorJt30
import Derived.Test.YtknnmidnodeanaaGreatDoorJt36
/-
  Package parse: Expr of a text of which what binds most gives up; of the empty text.
-/
namespace Go.Proofs.YtknnmidnodeanaaGreatDoor
open Go Go.RowKit Own
open Go.Lib (hid)
/-
  Package parse: reading and Expr of a text that has a lexical fault.
-/
/-
  Package parse: Program of a text that is no program, or too large a one.
-/
set_option maxRecDepth 100000 in
set_option maxHeartbeats 32000000 in
theorem readingP_any (s:ByteArray) (its:List Item) (pr:Pr) (w:World) (hT:TabS w) (hall:allT s.data.toList=(its,⟨0,0,0⟩)) (hss:s.size≤1000000) (hx:∀ R el ec,ReadsP R el ec its pr) (hthl:pr.threads.length≤1000000) (hne:its≠[]) (hsz:thsSize pr.threads≤600) (hdp:thsDeep pr.threads≤24):
  Calls Tryz.prog 57 #[.string s,.func (.func 58) #[] #[],.func (.func 59) #[] #[]] w fun e w'=>∃ vs,e=.returned (.tuple #[.agg vs.toArray,.agg #[.int .i64 0,.int .i64 0,.int .i64 0]])∧PrgAt w' (fun b=>w.heap.size≤b) vs pr∧KeepBut (fun _=>False) w w':=by
 obtain ⟨V1,B6,hV1,hB6,hb6,hk1,hs1⟩:=fresh_block w (.cells #[.int .i64 0,.slice none 0 0,.slice none 0 0] TPr)
 obtain ⟨V,B7,hV,hB7,hb7,hk2,hs2⟩:=fresh_block V1 (.cells #[.int .i64 0,.int .i64 0,.int .i64 0] TFa)
 have hk:=hk1.trans hk2
 have hALL:=all_room hall hne V (hk.tabS hT)
 have HALL:=hid hALL
 have HBE:=hid fun W=>behind_any s hss W
 have h67:B6+1=B7:=by omega
 have HK:=hid hk;have HB6:=hid (hk2.blk hb6);have HB7:=hid hb7;have HX:=hid hx;have HTHL:=hid hthl;have HSZ:=hid hsz;have HDP:=hid hdp
 have HN:=hid (show w.heap.size≤B6∧B6<B7∧B7<V.heap.size by omega)
 clear hT hall hss hx hthl hne hsz hdp hb6 hb7 hk1 hk2 hs1 hs2 hk hALL
 go_enter_defers Tryz.func57,Tryz.ntmps57
 go_upto_region 1 with fail
 rw [←hV1,←hB6,←hV,h67]
 clear hV1 hB6 hV hB7 h67
 go_wp2_with fail
 go_at_call 73
 refine HALL.out.mono ?_
 rintro e w1 ⟨g,cap,rfl,hrow,hc1,hc2,hg,hk⟩
 have HK1:=hid hk;have HROW:=hid hrow;have HCAP:=hid (And.intro hc1 hc2);have HG:=hid hg
 have hb71:=hk.blk HB7.out
 have HB71:=hid hb71
 obtain ⟨n0,n1,n2,f0,f1,f2⟩:=blk3f hb71
 clear hk hrow hc1 hc2 hg hb71
 go_upto_region 2 with fail
 obtain ⟨w2,hw2,hb2,hk2⟩:=put3 HB71.out (.int .i64 0) (.int .i64 0) (.int .i64 0)
 rw [←hw2]
 have hn:=HN.out
 have HB72:=hid hb2
 have HB62:=hid (hk2.blkE (HK1.out.blk HB6.out) fun e=>by have e:B6=B7:=e;omega)
 have HROW2:=hid (show RowI w2 (some ⟨g,0,none⟩) its∧g<w2.heap.size∧g≠B7∧g≠B6 from by
  have hg:=HG.out
  have h7:g≠B7:=by omega
  exact ⟨HROW.out.keep hk2 (fun a ha e=>by cases ha;exact h7 e),Nat.lt_of_lt_of_le hg.1 hk2.size,h7,by omega⟩)
 have HK2:=hid (show KeepBut (fun b=>b=B7) w w2 from ((HK.out.trans HK1.out).mono fun _ e=>e.elim).trans hk2)
 clear hw2 hb2 hk2 hn n0 n1 n2 f0 f1 f2
 obtain ⟨n0,n1,n2,-⟩:=blk3f HB72.out
 go_upto_region 5 with fail
 clear n0 n1 n2
 go_wp2_with fail
 go_at_call 75
 refine (HBE.out w2).mono ?_
 rintro e w3 ⟨el,ec,rfl,hk3⟩
 obtain ⟨W4,R,hW4,hR,hbr,hk4,hs4⟩:=fresh_block w3 (.cells #[.slice (some ⟨g,0,none⟩) its.length cap,.int .i64 0,.string ⟨#[]⟩,.int .i64 0,.int .i64 el,.int .i64 ec] TRd)
 have hk34:=hk3.trans hk4
 have HR4:=hid (show ReaderAt W4 R its el ec from ⟨some ⟨g,0,none⟩,cap,hbr,HROW2.out.1.keep hk34 (fun _ _ e=>e),fun a ha=>by cases ha;have:=HROW2.out.2.1;have:=hk3.size;show g<R;omega,HCAP.out⟩)
 have HRE:=hid (HX.out R el ec W4 HR4.out)
 have HB64:=hid (hk34.blk HB62.out);have HB74:=hid (hk34.blk HB72.out)
 have HK4:=hid (HK2.out.newM hk34 fun _ e=>e.elim)
 have HN4:=hid (show B7<R∧R<W4.heap.size∧w2.heap.size≤R by
  have h1:=(Array.getElem?_eq_some_iff.1 HB72.out).1
  have h2:=hk3.size
  omega)
 clear hk3 hk4 hk34 hbr hs4
 go_wp2_with fail
 rw [←hW4,←hR]
 clear hW4 hR
 go_at_call 58
 refine HRE.out.mono ?_
 rintro e w5 ⟨vs,rfl,hex,hk5⟩
 obtain ⟨xn,xp,xm,xc,yp,ym,yc,rfl⟩:=prg_form hex
 have hn:=HN.out;have hn4:=HN4.out
 have hb65:=hk5.blkE HB64.out fun e=>by have e:B6=R:=e;omega
 have HB65:=hid hb65
 have HB75:=hid (hk5.blkE HB74.out fun e=>by have e:B7=R:=e;omega)
 have HEX:=hid hex;have HK5:=hid hk5
 obtain ⟨m0,m1,m2,f0,f1,f2⟩:=blk3f hb65
 clear hex hk5 hb65 hn hn4
 go_upto_region 6 with fail
 obtain ⟨w6,hw6,hb6,hk6⟩:=put3 HB65.out (.int .i64 xn) (.slice xp xm xc) (.slice yp ym yc)
 rw [←hw6]
 have hn:=HN.out;have hn4:=HN4.out
 have HB66:=hid hb6
 have HB76:=hid (hk6.blkE HB75.out fun e=>by have e:B7=B6:=e;omega)
 have HEX6:=hid (HEX.out.keep hk6 fun b hb e=>by have e:b=B6:=e;have hb:W4.heap.size≤b:=hb;omega)
 have HKW6:=hid (show KeepBut (fun _=>False) w w6 from ⟨hk6.os.trans (HK5.out.os.trans HK4.out.os),hk6.tape.trans (HK5.out.tape.trans HK4.out.tape),hk6.output.trans (HK5.out.output.trans HK4.out.output),Nat.le_trans HK4.out.size (Nat.le_trans HK5.out.size hk6.size),fun b hb _=>by
  have h1:=HK4.out.size
  rw [hk6.block b (Nat.lt_of_lt_of_le hb (Nat.le_trans HK4.out.size HK5.out.size)) (show ¬b=B6 by omega),HK5.out.block b (by omega) (show ¬b=R by omega),HK4.out.block b hb (show ¬b=B7 by omega)]⟩)
 have HWG:=hid (weighP_any pr (by have:=HSZ.out;omega) HTHL.out w6 _ _ HEX6.out)
 obtain ⟨c0,c1,c2,-⟩:=blk3f hb6
 clear hw6 hb6 hk6 hn hn4 m0 m1 m2 f0 f1 f2
 go_wp2_with fail
 go_at_call 59
 refine HWG.out.mono ?_
 rintro e w7 ⟨rfl,hk7⟩
 have HKW7:=hid (HKW6.out.trans hk7)
 have HB67:=hid (hk7.blk HB66.out);have HB77:=hid (hk7.blk HB76.out);have HEX7:=hid (HEX6.out.keep hk7 fun _ _ e=>e)
 have h600:decide ((600:Int)<(thsSize pr.threads:Int))=false:=decide_eq_false (by have:=HSZ.out;omega)
 have h24:decide ((24:Int)<(thsDeep pr.threads:Int))=false:=decide_eq_false (by have:=HDP.out;omega)
 clear hk7 c0 c1 c2
 go_upto_region 9 with fail
 refine wp_ownB (by kernel_rfl) B6 B7 _ _ HB67.out HB77.out (by have:=HN.out;omega) (fun i=>[[],[],[0],[0,1,2]].getD i []) (fun i=>if i=0 then [4] else if i=1 then [5] else if i=2 then [4] else if i=3 then [5] else []) (fun i=>if i=2 then [4] else if i=3 then [5] else []) [2,3] (by kernel_rfl)
  (fun i=>if i=0 then some (sConst (.agg #[.int .i64 xn,.slice xp xm xc,.slice yp ym yc])) else if i=1 then some (sConst (.agg #[.int .i64 0,.int .i64 0,.int .i64 0])) else if i=2 then some (sPut B6 TPr) else if i=3 then some (sPut B7 TFa) else none) ?_
 refine lex_loud rfl rfl (loud_run ⟨default,trivial⟩ (fun g _ w w' _ _ _ _ _=>trivial) fun w' hk hav _=>by
  obtain ⟨x0,x1,x2,-⟩:=blk3f (show w'.heap[B6]?=some (.cells #[.int .i64 xn,.slice xp xm xc,.slice yp ym yc] TPr (0,0)) from (hav 4 (by decide)).1)
  exact ⟨w',default,trivial,.inl (by go_simp <;> rfl),KeepBut.refl _ _,fun b h=>h.elim,trivial⟩) fun _ _=>?_
 simp only [sConst,Act.put,LS]
 refine lex_loud rfl rfl (loud_run ⟨default,trivial⟩ (fun g _ w w' _ _ _ _ _=>trivial) fun w' hk hav _=>by
  obtain ⟨x0,x1,x2,-⟩:=blk3f (show w'.heap[B7]?=some (.cells #[.int .i64 0,.int .i64 0,.int .i64 0] TFa (0,0)) from (hav 5 (by decide)).1)
  exact ⟨w',default,trivial,.inl (by go_simp <;> rfl),KeepBut.refl _ _,fun b h=>h.elim,trivial⟩) fun _ _=>?_
 simp only [Act.put,LS]
 refine lex_loud rfl rfl (loud_put B6 TPr TPr #[.int .i64 xn,.slice xp xm xc,.slice yp ym yc] _ (.tmp 6) (.tmp 44) rfl rfl rfl 4 (by decide) (by decide) (fun w h=>h) (.inl ⟨rfl,rfl⟩) rfl (by kernel_rfl) (by simp [Value.oneCell'])) fun g2 _=>?_
 simp only [sPut,Act.put]
 refine lex_loud rfl rfl (loud_put B7 TFa TFa #[.int .i64 0,.int .i64 0,.int .i64 0] _ (.tmp 7) (.tmp 45) rfl rfl rfl 5 (by decide) (by decide) (fun w h=>h) (.inr ⟨rfl,rfl⟩) rfl (by kernel_rfl) (by simp [Value.oneCell'])) fun g3 _=>?_
 simp only [Act.put]
 refine lex_nil ?_
 intro w9 hk9 hF _
 have f2:w9.heap[B6]?=some (.cells #[.int .i64 xn,.slice xp xm xc,.slice yp ym yc] TPr (0,0)):=(hF 2 (by decide)).1 _ (put_args rfl rfl)
 have f3:w9.heap[B7]?=some (.cells #[.int .i64 0,.int .i64 0,.int .i64 0] TFa (0,0)):=(hF 3 (by decide)).1 _ (put_args rfl rfl)
 have hkM:=(KeepBut.drew (fun b=>b=B6∨b=B7) w7).trans hk9
 have hn:=HN.out;have hn4:=HN4.out
 have HEX9:=hid ((HEX7.out.keep hkM fun b hb e=>by have hb:W4.heap.size≤b:=hb;omega).mono (S':=fun b=>w.heap.size≤b) fun b hb=>by have hb:W4.heap.size≤b:=hb;omega)
 have HK9:=hid (HKW7.out.new hkM fun b hb=>by omega)
 obtain ⟨c0,c1,c2,-⟩:=blk3f f2
 obtain ⟨d0,d1,d2,-⟩:=blk3f f3
 clear hk9 hF f2 f3 hkM hn hn4
 go_wp2_with fail
 refine leaves_cons (f:=74) (args:=#[.pointer (some ⟨B6,0,none⟩),.pointer (some ⟨B7,0,none⟩)]) (by simp) (by simp [go_sem]) ?_
 refine (catch_idleP ⟨B6,0,none⟩ ⟨B7,0,none⟩ _).mono ?_
 rintro e u' w'' ⟨rfl,rfl,rfl⟩
 exact ⟨.tuple #[.agg #[.int .i64 xn,.slice xp xm xc,.slice yp ym yc],.agg #[.int .i64 0,.int .i64 0,.int .i64 0]],by simp [results,Tryz.results57,go_sem,c0,c1,c2,d0,d1,d2],_,rfl,HEX9.out,HK9.out⟩
set_option maxHeartbeats 8000000 in
/-- Expr, of a text that is an expression -/
theorem prog_any (s:ByteArray) (its:List Item) (pr:Pr) (w:World) (hT:TabS w) (hall:allT s.data.toList=(its,⟨0,0,0⟩)) (hss:s.size≤1000000) (hx:∀ R el ec,ReadsP R el ec its pr) (hthl:pr.threads.length≤1000000) (hne:its≠[]) (hsz:thsSize pr.threads≤600) (hdp:thsDeep pr.threads≤24):
  Calls Tryz.prog 46 #[.string s] w fun e w'=>∃ vs,e=.returned (.tuple #[.agg vs.toArray,.agg #[.int .i64 0,.int .i64 0,.int .i64 0]])∧PrgAt w' (fun b=>w.heap.size≤b) vs pr∧KeepBut (fun _=>False) w w':=by
 obtain ⟨V1,B2,hV1,hB2,hb2,hk1,hs1⟩:=fresh_block w (.cells #[.int .i64 0,.slice none 0 0,.slice none 0 0] TPr)
 obtain ⟨V,B3,hV,hB3,hb3,hk2,hs2⟩:=fresh_block V1 (.cells #[.int .i64 0,.int .i64 0,.int .i64 0] TFa)
 have hk:=hk1.trans hk2
 have HRE:=hid (readingP_any s its pr V (hk.tabS hT) hall hss hx hthl hne hsz hdp)
 have h23:B2+1=B3:=by omega
 have HK:=hid hk;have HB2:=hid (hk2.blk hb2);have HB3:=hid hb3
 have HN:=hid (show w.heap.size≤B2∧B2<B3∧B3<V.heap.size by omega)
 clear hT hall hss hx hthl hne hsz hdp hb2 hb3 hk1 hk2 hs1 hs2 hk
 go_enter Tryz.func46,Tryz.ntmps46
 go_upto_region 1 with fail
 rw [←hV1,←hB2,←hV,h23]
 clear hV1 hB2 hV hB3 h23
 go_wp2_with fail
 go_at_call 57
 refine HRE.out.mono ?_
 rintro e w1 ⟨vs,rfl,hex,hk1⟩
 obtain ⟨xn,xp,xm,xc,yp,ym,yc,rfl⟩:=prg_form hex
 have HEX:=hid hex;have HK1:=hid hk1
 have hb2:=hk1.blk HB2.out;have hb3:=hk1.blk HB3.out
 have HB2:=hid hb2;have HB3:=hid hb3
 obtain ⟨m0,m1,m2,f0,f1,f2⟩:=blk3f hb2
 obtain ⟨q0,q1,q2,g0,g1,g2⟩:=blk3f hb3
 have hne23:B2≠B3:=by have:=HN.out;omega
 have hne32:B3≠B2:=by have:=HN.out;omega
 clear hex hk1 hb2 hb3
 go_wp2_with fail
 obtain ⟨wa,hwa,hba,hka⟩:=put3 HB2.out (.int .i64 xn) (.slice xp xm xc) (.slice yp ym yc)
 rw [←hwa]
 have hn:=HN.out
 obtain ⟨wf,hwf,hbf,hkf⟩:=put3 (hka.blkE HB3.out fun e=>by have e:B3=B2:=e;omega) (.int .i64 0) (.int .i64 0) (.int .i64 0)
 rw [←hwf]
 obtain ⟨c0,c1,c2,-⟩:=blk3f (hkf.blkE hba fun e=>by have e:B2=B3:=e;omega)
 obtain ⟨d0,d1,d2,-⟩:=blk3f hbf
 clear hwa hwf
 exact bodyPost_ret (v:=.tuple #[.agg #[.int .i64 xn,.slice xp xm xc,.slice yp ym yc],.agg #[.int .i64 0,.int .i64 0,.int .i64 0]]) (by simp [results,Tryz.results46,go_sem,c0,c1,c2,d0,d1,d2]) rfl ⟨_,rfl,((HEX.out.keep hka fun b hb e=>by have e:b=B2:=e;have hb:V.heap.size≤b:=hb;omega).keep hkf fun b hb e=>by have e:b=B3:=e;have hb:V.heap.size≤b:=hb;omega).mono fun b hb=>by have hb:V.heap.size≤b:=hb;omega,((HK.out.trans HK1.out).new hka fun b e=>by have e:b=B2:=e;omega).new hkf fun b e=>by have e:b=B3:=e;omega⟩
end Go.Proofs.YtknnmidnodeanaaGreatDoor
