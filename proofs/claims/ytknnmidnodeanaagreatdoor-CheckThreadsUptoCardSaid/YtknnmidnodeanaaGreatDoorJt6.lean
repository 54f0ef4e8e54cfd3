/- Joined texts of this work: Pb4. -/
import Derived.Test.YtknnmidnodeanaaGreatDoorJt5
import Derived.Laws.EntriesVeiled
/-
  Package parse: the closures of expr, and expr, by what reads what binds most.
-/
namespace Go.Proofs.YtknnmidnodeanaaGreatDoor
open Go Go.RowKit Own
open Go.Lib (hid)
theorem Reads.from {g:Nat} {args:Array Value} {nx:List Item→Option (Ex × List Item)} {w0 w1:World} {R el ec:Nat} (h:Reads g args nx w0 R el ec) (k:KeepBut (fun b=>b=R) w0 w1):Reads g args nx w1 R el ec:=
 fun w its x r hk=>h w its x r (k.trans hk)
def Dec (nx:List Item→Option (Ex × List Item)):Prop:=∀ its x r,nx its=some (x,r)→r.length≤its.length
theorem rowL_dec {nx:List Item→Option (Ex × List Item)} (h:Dec nx) (ops:List Nat):∀ (f:Nat) (x:Ex) (its:List Item) (y:Ex) (r:List Item),rowL nx ops f x its=some (y,r)→r.length≤its.length
 | 0,_,_,_,_,e=>by cases e
 | f+1,x,its,y,r,e=>by
  unfold rowL at e
  split at e
  ·cases e;exact Nat.le_refl _
  ·split at e
   ·cases e
   ·split at e
    ·cases e
    ·rename_i h1
     have h2:=h _ _ _ h1
     have h3:=rowL_dec h ops f _ _ _ _ e
     rw [List.length_cons]
     omega
theorem rowN_dec {nx:List Item→Option (Ex × List Item)} (h:Dec nx) (ops:List Nat):Dec (rowN nx ops):=fun its x r e=>by
 unfold rowN at e
 split at e
 ·cases e
 ·rename_i h1
  have h2:=h _ _ _ h1
  have h3:=rowL_dec h ops _ _ _ _ _ e
  omega
/-- the cells of an expression, told apart -/
theorem ex_form {w:World} {S:Nat→Prop} {vs:List Value} {x:Ex} (h:ExAt w S vs x):∃ k o n S2 p m c l cl,vs=[.int .i64 k,.int .i64 o,.int .i64 n,.string S2,.slice p m c,.int .i64 l,.int .i64 cl]:=by
 cases x with
 | mk k o n nm l c kids=>
  unfold ExAt at h
  obtain ⟨p,cap,h1,-⟩:=h
  exact ⟨_,_,_,_,_,_,_,_,_,h1⟩
abbrev TFn:TypeId:=154
set_option maxHeartbeats 8000000 in
theorem expr1_reads (w0:World) (R el ec:Nat) (T1:Nat) (hb1:w0.heap[T1]?=some (.cells #[rdV R] 101 (0,0))) (hT1:T1≠R) (nx:List Item→Option (Ex × List Item)) (hd:Dec nx) (hN:Reads 117 #[rdV R] nx w0 R el ec):Reads 115 #[.pointer (some ⟨T1,0,none⟩)] (rowN nx [1,2,3]) w0 R el ec:=by
 intro w its x r hk hr hx
 have x1:=blk_cell (k:=0) (hk.blkE hb1 hT1) rfl
 obtain ⟨V,B,hV,hB,hb,hk0,hs⟩:=fresh_block w (.cells #[.int .i64 0,.int .i64 0,.int .i64 0,.string ⟨#[]⟩,.slice none 0 0,.int .i64 0,.int .i64 0] TEx)
 obtain ⟨W,G,hW,hG,hg,hkg,hsg⟩:=fresh_block V (.cells #[.int .i64 1,.int .i64 2,.int .i64 3] 3)
 have HK0:=hid hk0;have HB:=hid (hkg.blk hb)
 have HKW:=hid (hk0.trans hkg)
 have HNN:=hid (show w.heap.size≤B∧B<W.heap.size∧R<w.heap.size∧G≠R from ⟨by omega,by omega,hr.lt,by have:=hr.lt;omega⟩)
 have hrd:Rd W (some ⟨G,0,none⟩) (ints (opsI [1,2,3])):=fun j v hj=>⟨G,0,rfl,by
  rw [Nat.zero_add]
  exact blk_cell hg (by simpa [ints,opsI] using hj)⟩
 have HROW:=hid (row_any 117 #[rdV R] #[] #[rdV R] (enters_of Tryz.func117 (by kernel_rfl) rfl) nx hd W R el ec (hN.from (hk.trans ((hk0.trans hkg).mono fun _ e=>e.elim))) (by simp) its (hr.keep (hk0.trans hkg) fun _ _ e=>e) (some ⟨G,0,none⟩) 3 [1,2,3] hrd (fun a ha=>by cases ha;exact HNN.out.2.2.2) (by decide) (by decide) x r hx)
 have x1:=HK0.out.stay x1
 have hBG:B+1=G:=by omega
 clear hk hr hx hb1 hT1 hN hd hb hk0 hs hg hkg hsg hrd
 go_enter Tryz.func115,Tryz.ntmps115
 go_upto_region 1 with fail
 rw [←hV,←hB]
 clear hV hB
 go_wp2_with fail
 rw [←hW,←hG]
 clear hW hG x1
 go_at_call 116
 refine HROW.out.mono ?_
 rintro e w2 ⟨vs,rfl,hex,hr,hk⟩
 obtain ⟨xk,xo,xn,xS,xp,xm,xc,xl,xcl,rfl⟩:=ex_form hex
 have hn:=HNN.out
 have hb2:=hk.blkE HB.out fun e=>by have e:B=R:=e;omega
 obtain ⟨m0,m1,m2,m3,m4,m5,m6,f0,f1,f2,f3,f4,f5,f6⟩:=blk7 hb2
 have HB2:=hid hb2;have HEX:=hid hex;have HR:=hid hr;have HKR:=hid hk
 clear hex hr hk hb2 hn
 go_wp2_with fail
 obtain ⟨wf,hwf,hp,hkp⟩:=put7 HB2.out (.int .i64 xk) (.int .i64 xo) (.int .i64 xn) (.string xS) (.slice xp xm xc) (.int .i64 xl) (.int .i64 xcl)
 rw [←hwf]
 obtain ⟨c0,c1,c2,c3,c4,c5,c6,-⟩:=blk7 hp
 have hn:=HNN.out
 exact bodyPost_ret (v:=.agg #[.int .i64 xk,.int .i64 xo,.int .i64 xn,.string xS,.slice xp xm xc,.int .i64 xl,.int .i64 xcl]) (by simp [results,Tryz.results115,go_sem,c0,c1,c2,c3,c4,c5,c6]) rfl ⟨_,rfl,(HEX.out.keep hkp fun b hb e=>by have e:b=B:=e;have hb:W.heap.size≤b:=hb;omega).mono fun b hb=>by have hb:W.heap.size≤b:=hb;omega,HR.out.keep hkp fun b hb e=>by have e:b=B:=e;omega,((HKW.out.mono fun _ e=>e.elim).trans HKR.out).newE hkp fun b e=>by have e:b=B:=e;omega⟩
set_option maxHeartbeats 8000000 in
theorem expr2_reads (w0:World) (R el ec:Nat) (T1 T2:Nat) (hb1:w0.heap[T1]?=some (.cells #[rdV R] 101 (0,0))) (hT1:T1≠R) (gp:Nat) (cp:Array Value) (eg:∀ args w,(callFunc gp args).run Tryz.prog w=.ok (.enter gp args) w) (hb2:w0.heap[T2]?=some (.cells #[.func (.func gp) #[] cp] TFn (0,0))) (hT2:T2≠R) (nx:List Item→Option (Ex × List Item)) (hd:Dec nx) (hN:Reads gp cp nx w0 R el ec):Reads 118 #[.pointer (some ⟨T1,0,none⟩),.pointer (some ⟨T2,0,none⟩)] (rowN nx [4,5]) w0 R el ec:=by
 intro w its x r hk hr hx
 have x1:=blk_cell (k:=0) (hk.blkE hb1 hT1) rfl
 have x2:=blk_cell (k:=0) (hk.blkE hb2 hT2) rfl
 obtain ⟨V,B,hV,hB,hb,hk0,hs⟩:=fresh_block w (.cells #[.int .i64 0,.int .i64 0,.int .i64 0,.string ⟨#[]⟩,.slice none 0 0,.int .i64 0,.int .i64 0] TEx)
 obtain ⟨W,G,hW,hG,hg,hkg,hsg⟩:=fresh_block V (.cells #[.int .i64 4,.int .i64 5] 3)
 have HK0:=hid hk0;have HB:=hid (hkg.blk hb)
 have HKW:=hid (hk0.trans hkg)
 have HNN:=hid (show w.heap.size≤B∧B<W.heap.size∧R<w.heap.size∧G≠R from ⟨by omega,by omega,hr.lt,by have:=hr.lt;omega⟩)
 have hrd:Rd W (some ⟨G,0,none⟩) (ints (opsI [4,5])):=fun j v hj=>⟨G,0,rfl,by
  rw [Nat.zero_add]
  exact blk_cell hg (by simpa [ints,opsI] using hj)⟩
 have HROW:=hid (row_any gp #[] cp cp eg nx hd W R el ec (hN.from (hk.trans ((hk0.trans hkg).mono fun _ e=>e.elim))) (by simp) its (hr.keep (hk0.trans hkg) fun _ _ e=>e) (some ⟨G,0,none⟩) 2 [4,5] hrd (fun a ha=>by cases ha;exact HNN.out.2.2.2) (by decide) (by decide) x r hx)
 have x1:=HK0.out.stay x1
 have x2:=HK0.out.stay x2
 have hBG:B+1=G:=by omega
 clear hk hr hx hb1 hT1 hN hd hb hk0 hs hg hkg hsg hrd hb2 hT2
 go_enter Tryz.func118,Tryz.ntmps118
 go_upto_region 1 with fail
 rw [←hV,←hB]
 clear hV hB
 go_wp2_with fail
 rw [←hW,←hG]
 clear hW hG x1 x2
 go_at_call 116
 refine HROW.out.mono ?_
 rintro e w2 ⟨vs,rfl,hex,hr,hk⟩
 obtain ⟨xk,xo,xn,xS,xp,xm,xc,xl,xcl,rfl⟩:=ex_form hex
 have hn:=HNN.out
 have hb2:=hk.blkE HB.out fun e=>by have e:B=R:=e;omega
 obtain ⟨m0,m1,m2,m3,m4,m5,m6,f0,f1,f2,f3,f4,f5,f6⟩:=blk7 hb2
 have HB2:=hid hb2;have HEX:=hid hex;have HR:=hid hr;have HKR:=hid hk
 clear hex hr hk hb2 hn
 go_wp2_with fail
 obtain ⟨wf,hwf,hp,hkp⟩:=put7 HB2.out (.int .i64 xk) (.int .i64 xo) (.int .i64 xn) (.string xS) (.slice xp xm xc) (.int .i64 xl) (.int .i64 xcl)
 rw [←hwf]
 obtain ⟨c0,c1,c2,c3,c4,c5,c6,-⟩:=blk7 hp
 have hn:=HNN.out
 exact bodyPost_ret (v:=.agg #[.int .i64 xk,.int .i64 xo,.int .i64 xn,.string xS,.slice xp xm xc,.int .i64 xl,.int .i64 xcl]) (by simp [results,Tryz.results118,go_sem,c0,c1,c2,c3,c4,c5,c6]) rfl ⟨_,rfl,(HEX.out.keep hkp fun b hb e=>by have e:b=B:=e;have hb:W.heap.size≤b:=hb;omega).mono fun b hb=>by have hb:W.heap.size≤b:=hb;omega,HR.out.keep hkp fun b hb e=>by have e:b=B:=e;omega,((HKW.out.mono fun _ e=>e.elim).trans HKR.out).newE hkp fun b e=>by have e:b=B:=e;omega⟩
set_option maxHeartbeats 8000000 in
theorem expr3_reads (w0:World) (R el ec:Nat) (T1 T2:Nat) (hb1:w0.heap[T1]?=some (.cells #[rdV R] 101 (0,0))) (hT1:T1≠R) (gp:Nat) (cp:Array Value) (eg:∀ args w,(callFunc gp args).run Tryz.prog w=.ok (.enter gp args) w) (hb2:w0.heap[T2]?=some (.cells #[.func (.func gp) #[] cp] TFn (0,0))) (hT2:T2≠R) (nx:List Item→Option (Ex × List Item)) (hd:Dec nx) (hN:Reads gp cp nx w0 R el ec):Reads 119 #[.pointer (some ⟨T1,0,none⟩),.pointer (some ⟨T2,0,none⟩)] (rowN nx [6,7,8,9]) w0 R el ec:=by
 intro w its x r hk hr hx
 have x1:=blk_cell (k:=0) (hk.blkE hb1 hT1) rfl
 have x2:=blk_cell (k:=0) (hk.blkE hb2 hT2) rfl
 obtain ⟨V,B,hV,hB,hb,hk0,hs⟩:=fresh_block w (.cells #[.int .i64 0,.int .i64 0,.int .i64 0,.string ⟨#[]⟩,.slice none 0 0,.int .i64 0,.int .i64 0] TEx)
 obtain ⟨W,G,hW,hG,hg,hkg,hsg⟩:=fresh_block V (.cells #[.int .i64 6,.int .i64 7,.int .i64 8,.int .i64 9] 3)
 have HK0:=hid hk0;have HB:=hid (hkg.blk hb)
 have HKW:=hid (hk0.trans hkg)
 have HNN:=hid (show w.heap.size≤B∧B<W.heap.size∧R<w.heap.size∧G≠R from ⟨by omega,by omega,hr.lt,by have:=hr.lt;omega⟩)
 have hrd:Rd W (some ⟨G,0,none⟩) (ints (opsI [6,7,8,9])):=fun j v hj=>⟨G,0,rfl,by
  rw [Nat.zero_add]
  exact blk_cell hg (by simpa [ints,opsI] using hj)⟩
 have HROW:=hid (row_any gp #[] cp cp eg nx hd W R el ec (hN.from (hk.trans ((hk0.trans hkg).mono fun _ e=>e.elim))) (by simp) its (hr.keep (hk0.trans hkg) fun _ _ e=>e) (some ⟨G,0,none⟩) 4 [6,7,8,9] hrd (fun a ha=>by cases ha;exact HNN.out.2.2.2) (by decide) (by decide) x r hx)
 have x1:=HK0.out.stay x1
 have x2:=HK0.out.stay x2
 have hBG:B+1=G:=by omega
 clear hk hr hx hb1 hT1 hN hd hb hk0 hs hg hkg hsg hrd hb2 hT2
 go_enter Tryz.func119,Tryz.ntmps119
 go_upto_region 1 with fail
 rw [←hV,←hB]
 clear hV hB
 go_wp2_with fail
 rw [←hW,←hG]
 clear hW hG x1 x2
 go_at_call 116
 refine HROW.out.mono ?_
 rintro e w2 ⟨vs,rfl,hex,hr,hk⟩
 obtain ⟨xk,xo,xn,xS,xp,xm,xc,xl,xcl,rfl⟩:=ex_form hex
 have hn:=HNN.out
 have hb2:=hk.blkE HB.out fun e=>by have e:B=R:=e;omega
 obtain ⟨m0,m1,m2,m3,m4,m5,m6,f0,f1,f2,f3,f4,f5,f6⟩:=blk7 hb2
 have HB2:=hid hb2;have HEX:=hid hex;have HR:=hid hr;have HKR:=hid hk
 clear hex hr hk hb2 hn
 go_wp2_with fail
 obtain ⟨wf,hwf,hp,hkp⟩:=put7 HB2.out (.int .i64 xk) (.int .i64 xo) (.int .i64 xn) (.string xS) (.slice xp xm xc) (.int .i64 xl) (.int .i64 xcl)
 rw [←hwf]
 obtain ⟨c0,c1,c2,c3,c4,c5,c6,-⟩:=blk7 hp
 have hn:=HNN.out
 exact bodyPost_ret (v:=.agg #[.int .i64 xk,.int .i64 xo,.int .i64 xn,.string xS,.slice xp xm xc,.int .i64 xl,.int .i64 xcl]) (by simp [results,Tryz.results119,go_sem,c0,c1,c2,c3,c4,c5,c6]) rfl ⟨_,rfl,(HEX.out.keep hkp fun b hb e=>by have e:b=B:=e;have hb:W.heap.size≤b:=hb;omega).mono fun b hb=>by have hb:W.heap.size≤b:=hb;omega,HR.out.keep hkp fun b hb e=>by have e:b=B:=e;omega,((HKW.out.mono fun _ e=>e.elim).trans HKR.out).newE hkp fun b e=>by have e:b=B:=e;omega⟩
set_option maxHeartbeats 8000000 in
theorem expr4_reads (w0:World) (R el ec:Nat) (T1 T2:Nat) (hb1:w0.heap[T1]?=some (.cells #[rdV R] 101 (0,0))) (hT1:T1≠R) (gp:Nat) (cp:Array Value) (eg:∀ args w,(callFunc gp args).run Tryz.prog w=.ok (.enter gp args) w) (hb2:w0.heap[T2]?=some (.cells #[.func (.func gp) #[] cp] TFn (0,0))) (hT2:T2≠R) (nx:List Item→Option (Ex × List Item)) (hd:Dec nx) (hN:Reads gp cp nx w0 R el ec):Reads 120 #[.pointer (some ⟨T1,0,none⟩),.pointer (some ⟨T2,0,none⟩)] (rowN nx [10,11]) w0 R el ec:=by
 intro w its x r hk hr hx
 have x1:=blk_cell (k:=0) (hk.blkE hb1 hT1) rfl
 have x2:=blk_cell (k:=0) (hk.blkE hb2 hT2) rfl
 obtain ⟨V,B,hV,hB,hb,hk0,hs⟩:=fresh_block w (.cells #[.int .i64 0,.int .i64 0,.int .i64 0,.string ⟨#[]⟩,.slice none 0 0,.int .i64 0,.int .i64 0] TEx)
 obtain ⟨W,G,hW,hG,hg,hkg,hsg⟩:=fresh_block V (.cells #[.int .i64 10,.int .i64 11] 3)
 have HK0:=hid hk0;have HB:=hid (hkg.blk hb)
 have HKW:=hid (hk0.trans hkg)
 have HNN:=hid (show w.heap.size≤B∧B<W.heap.size∧R<w.heap.size∧G≠R from ⟨by omega,by omega,hr.lt,by have:=hr.lt;omega⟩)
 have hrd:Rd W (some ⟨G,0,none⟩) (ints (opsI [10,11])):=fun j v hj=>⟨G,0,rfl,by
  rw [Nat.zero_add]
  exact blk_cell hg (by simpa [ints,opsI] using hj)⟩
 have HROW:=hid (row_any gp #[] cp cp eg nx hd W R el ec (hN.from (hk.trans ((hk0.trans hkg).mono fun _ e=>e.elim))) (by simp) its (hr.keep (hk0.trans hkg) fun _ _ e=>e) (some ⟨G,0,none⟩) 2 [10,11] hrd (fun a ha=>by cases ha;exact HNN.out.2.2.2) (by decide) (by decide) x r hx)
 have x1:=HK0.out.stay x1
 have x2:=HK0.out.stay x2
 have hBG:B+1=G:=by omega
 clear hk hr hx hb1 hT1 hN hd hb hk0 hs hg hkg hsg hrd hb2 hT2
 go_enter Tryz.func120,Tryz.ntmps120
 go_upto_region 1 with fail
 rw [←hV,←hB]
 clear hV hB
 go_wp2_with fail
 rw [←hW,←hG]
 clear hW hG x1 x2
 go_at_call 116
 refine HROW.out.mono ?_
 rintro e w2 ⟨vs,rfl,hex,hr,hk⟩
 obtain ⟨xk,xo,xn,xS,xp,xm,xc,xl,xcl,rfl⟩:=ex_form hex
 have hn:=HNN.out
 have hb2:=hk.blkE HB.out fun e=>by have e:B=R:=e;omega
 obtain ⟨m0,m1,m2,m3,m4,m5,m6,f0,f1,f2,f3,f4,f5,f6⟩:=blk7 hb2
 have HB2:=hid hb2;have HEX:=hid hex;have HR:=hid hr;have HKR:=hid hk
 clear hex hr hk hb2 hn
 go_wp2_with fail
 obtain ⟨wf,hwf,hp,hkp⟩:=put7 HB2.out (.int .i64 xk) (.int .i64 xo) (.int .i64 xn) (.string xS) (.slice xp xm xc) (.int .i64 xl) (.int .i64 xcl)
 rw [←hwf]
 obtain ⟨c0,c1,c2,c3,c4,c5,c6,-⟩:=blk7 hp
 have hn:=HNN.out
 exact bodyPost_ret (v:=.agg #[.int .i64 xk,.int .i64 xo,.int .i64 xn,.string xS,.slice xp xm xc,.int .i64 xl,.int .i64 xcl]) (by simp [results,Tryz.results120,go_sem,c0,c1,c2,c3,c4,c5,c6]) rfl ⟨_,rfl,(HEX.out.keep hkp fun b hb e=>by have e:b=B:=e;have hb:W.heap.size≤b:=hb;omega).mono fun b hb=>by have hb:W.heap.size≤b:=hb;omega,HR.out.keep hkp fun b hb e=>by have e:b=B:=e;omega,((HKW.out.mono fun _ e=>e.elim).trans HKR.out).newE hkp fun b e=>by have e:b=B:=e;omega⟩
set_option maxHeartbeats 8000000 in
theorem expr5_reads (w0:World) (R el ec:Nat) (T1 T2:Nat) (hb1:w0.heap[T1]?=some (.cells #[rdV R] 101 (0,0))) (hT1:T1≠R) (gp:Nat) (cp:Array Value) (eg:∀ args w,(callFunc gp args).run Tryz.prog w=.ok (.enter gp args) w) (hb2:w0.heap[T2]?=some (.cells #[.func (.func gp) #[] cp] TFn (0,0))) (hT2:T2≠R) (nx:List Item→Option (Ex × List Item)) (hd:Dec nx) (hN:Reads gp cp nx w0 R el ec):Reads 121 #[.pointer (some ⟨T1,0,none⟩),.pointer (some ⟨T2,0,none⟩)] (rowN nx [12]) w0 R el ec:=by
 intro w its x r hk hr hx
 have x1:=blk_cell (k:=0) (hk.blkE hb1 hT1) rfl
 have x2:=blk_cell (k:=0) (hk.blkE hb2 hT2) rfl
 obtain ⟨V,B,hV,hB,hb,hk0,hs⟩:=fresh_block w (.cells #[.int .i64 0,.int .i64 0,.int .i64 0,.string ⟨#[]⟩,.slice none 0 0,.int .i64 0,.int .i64 0] TEx)
 obtain ⟨W,G,hW,hG,hg,hkg,hsg⟩:=fresh_block V (.cells #[.int .i64 12] 3)
 have HK0:=hid hk0;have HB:=hid (hkg.blk hb)
 have HKW:=hid (hk0.trans hkg)
 have HNN:=hid (show w.heap.size≤B∧B<W.heap.size∧R<w.heap.size∧G≠R from ⟨by omega,by omega,hr.lt,by have:=hr.lt;omega⟩)
 have hrd:Rd W (some ⟨G,0,none⟩) (ints (opsI [12])):=fun j v hj=>⟨G,0,rfl,by
  rw [Nat.zero_add]
  exact blk_cell hg (by simpa [ints,opsI] using hj)⟩
 have HROW:=hid (row_any gp #[] cp cp eg nx hd W R el ec (hN.from (hk.trans ((hk0.trans hkg).mono fun _ e=>e.elim))) (by simp) its (hr.keep (hk0.trans hkg) fun _ _ e=>e) (some ⟨G,0,none⟩) 1 [12] hrd (fun a ha=>by cases ha;exact HNN.out.2.2.2) (by decide) (by decide) x r hx)
 have x1:=HK0.out.stay x1
 have x2:=HK0.out.stay x2
 have hBG:B+1=G:=by omega
 clear hk hr hx hb1 hT1 hN hd hb hk0 hs hg hkg hsg hrd hb2 hT2
 go_enter Tryz.func121,Tryz.ntmps121
 go_upto_region 1 with fail
 rw [←hV,←hB]
 clear hV hB
 go_wp2_with fail
 rw [←hW,←hG]
 clear hW hG x1 x2
 go_at_call 116
 refine HROW.out.mono ?_
 rintro e w2 ⟨vs,rfl,hex,hr,hk⟩
 obtain ⟨xk,xo,xn,xS,xp,xm,xc,xl,xcl,rfl⟩:=ex_form hex
 have hn:=HNN.out
 have hb2:=hk.blkE HB.out fun e=>by have e:B=R:=e;omega
 obtain ⟨m0,m1,m2,m3,m4,m5,m6,f0,f1,f2,f3,f4,f5,f6⟩:=blk7 hb2
 have HB2:=hid hb2;have HEX:=hid hex;have HR:=hid hr;have HKR:=hid hk
 clear hex hr hk hb2 hn
 go_wp2_with fail
 obtain ⟨wf,hwf,hp,hkp⟩:=put7 HB2.out (.int .i64 xk) (.int .i64 xo) (.int .i64 xn) (.string xS) (.slice xp xm xc) (.int .i64 xl) (.int .i64 xcl)
 rw [←hwf]
 obtain ⟨c0,c1,c2,c3,c4,c5,c6,-⟩:=blk7 hp
 have hn:=HNN.out
 exact bodyPost_ret (v:=.agg #[.int .i64 xk,.int .i64 xo,.int .i64 xn,.string xS,.slice xp xm xc,.int .i64 xl,.int .i64 xcl]) (by simp [results,Tryz.results121,go_sem,c0,c1,c2,c3,c4,c5,c6]) rfl ⟨_,rfl,(HEX.out.keep hkp fun b hb e=>by have e:b=B:=e;have hb:W.heap.size≤b:=hb;omega).mono fun b hb=>by have hb:W.heap.size≤b:=hb;omega,HR.out.keep hkp fun b hb e=>by have e:b=B:=e;omega,((HKW.out.mono fun _ e=>e.elim).trans HKR.out).newE hkp fun b e=>by have e:b=B:=e;omega⟩
theorem rowsN_dec {nx:List Item→Option (Ex × List Item)} (h:Dec nx):Dec (rowsN nx):=rowN_dec (rowN_dec (rowN_dec (rowN_dec (rowN_dec (rowN_dec h _) _) _) _) _) _
set_option maxHeartbeats 16000000 in
theorem expr_reads (w0:World) (R el ec:Nat) (nx:List Item→Option (Ex × List Item)) (hd:Dec nx) (hN:Reads 117 #[rdV R] nx w0 R el ec):Reads 109 #[rdV R] (rowsN nx) w0 R el ec:=by
 intro w its x r hk hr hx
 obtain ⟨V1,B1,hV1,hB1,hb1,hk1,hs1⟩:=fresh_block w (.cells #[rdV R] 101)
 obtain ⟨V2,B2,hV2,hB2,hb2,hk2,hs2⟩:=fresh_block V1 (.cells #[.int .i64 0,.int .i64 0,.int .i64 0,.string ⟨#[]⟩,.slice none 0 0,.int .i64 0,.int .i64 0] TEx)
 obtain ⟨V3,B3,hV3,hB3,hb3,hk3,hs3⟩:=fresh_block V2 (.cells #[.func (.func 115) #[] #[.pointer (some ⟨B1,0,none⟩)]] TFn)
 obtain ⟨V4,B4,hV4,hB4,hb4,hk4,hs4⟩:=fresh_block V3 (.cells #[.func (.func 118) #[] #[.pointer (some ⟨B1,0,none⟩),.pointer (some ⟨B3,0,none⟩)]] TFn)
 obtain ⟨V5,B5,hV5,hB5,hb5,hk5,hs5⟩:=fresh_block V4 (.cells #[.func (.func 119) #[] #[.pointer (some ⟨B1,0,none⟩),.pointer (some ⟨B4,0,none⟩)]] TFn)
 obtain ⟨V6,B6,hV6,hB6,hb6,hk6,hs6⟩:=fresh_block V5 (.cells #[.func (.func 120) #[] #[.pointer (some ⟨B1,0,none⟩),.pointer (some ⟨B5,0,none⟩)]] TFn)
 obtain ⟨W,G,hW,hG,hg,hkg,hsg⟩:=fresh_block V6 (.cells #[.int .i64 13] 3)
 have k6:=hk6.trans hkg;have k5:=hk5.trans k6;have k4:=hk4.trans k5;have k3:=hk3.trans k4;have k2:=hk2.trans k3;have k1:=hk1.trans k2
 have hRl:=hr.lt
 have HKW:=hid k1;have HB2:=hid (k3.blk hb2)
 have HNN:=hid (show w.heap.size≤B2∧B2<W.heap.size∧R<w.heap.size∧G≠R from ⟨by omega,by omega,hRl,by omega⟩)
 have hrd:Rd W (some ⟨G,0,none⟩) (ints (opsI [13])):=fun j v hj=>⟨G,0,rfl,by
  rw [Nat.zero_add]
  exact blk_cell hg (by simpa [ints,opsI] using hj)⟩
 have hN':=hN.from (hk.trans (k1.mono fun _ e=>e.elim))
 have hbx:=k2.blk hb1
 have r1:=expr1_reads W R el ec B1 hbx (by omega) nx hd hN'
 have r2:=expr2_reads W R el ec B1 B3 hbx (by omega) 115 _ (enters_of Tryz.func115 (by kernel_rfl) rfl) (k4.blk hb3) (by omega) _ (rowN_dec hd _) r1
 have r3:=expr3_reads W R el ec B1 B4 hbx (by omega) 118 _ (enters_of Tryz.func118 (by kernel_rfl) rfl) (k5.blk hb4) (by omega) _ (rowN_dec (rowN_dec hd _) _) r2
 have r4:=expr4_reads W R el ec B1 B5 hbx (by omega) 119 _ (enters_of Tryz.func119 (by kernel_rfl) rfl) (k6.blk hb5) (by omega) _ (rowN_dec (rowN_dec (rowN_dec hd _) _) _) r3
 have r5:=expr5_reads W R el ec B1 B6 hbx (by omega) 120 _ (enters_of Tryz.func120 (by kernel_rfl) rfl) (hkg.blk hb6) (by omega) _ (rowN_dec (rowN_dec (rowN_dec (rowN_dec hd _) _) _) _) r4
 have HROW:=hid (row_any 121 #[] #[.pointer (some ⟨B1,0,none⟩),.pointer (some ⟨B6,0,none⟩)] #[.pointer (some ⟨B1,0,none⟩),.pointer (some ⟨B6,0,none⟩)] (enters_of Tryz.func121 (by kernel_rfl) rfl) _ (rowN_dec (rowN_dec (rowN_dec (rowN_dec (rowN_dec hd _) _) _) _) _) W R el ec r5 (by simp) its (hr.keep k1 fun _ _ e=>e) (some ⟨G,0,none⟩) 1 [13] hrd (fun a ha=>by cases ha;exact HNN.out.2.2.2) (by decide) (by decide) x r hx)
 have q12:B1+1=B2:=by omega
 have x1:=blk_cell (k:=0) ((hk3.trans (hk4.trans (hk5.trans hk6))).blk (hk2.blk hb1)) rfl
 clear hN' hbx r1 r2 r3 r4 r5 hrd hN hd hx hr hk k6 k5 k4 k3 k2 k1 hRl
 go_enter Tryz.func109,Tryz.ntmps109
 go_upto_region 1 with fail
 rw [←hV1,←hB1,←hV2,q12]
 clear hV1 hB1 hV2 hB2 q12 hs1 hs2
 go_upto_region 2 with fail
 rw [←hV3,←hB3]
 clear hV3 hB3 hs3
 go_upto_region 3 with fail
 rw [←hV4,←hB4]
 clear hV4 hB4 hs4
 go_upto_region 4 with fail
 rw [←hV5,←hB5]
 clear hV5 hB5 hs5
 go_upto_region 5 with fail
 rw [←hV6,←hB6]
 clear hV6 hB6 hs6
 go_wp2_with fail
 rw [←hW,←hG]
 clear hW hG x1
 go_at_call 116
 refine HROW.out.mono ?_
 rintro e w2 ⟨vs,rfl,hex,hr,hk⟩
 obtain ⟨xk,xo,xn,xS,xp,xm,xc,xl,xcl,rfl⟩:=ex_form hex
 have hn:=HNN.out
 have hbq:=hk.blkE HB2.out fun e=>by have e:B2=R:=e;omega
 obtain ⟨m0,m1,m2,m3,m4,m5,m6,f0,f1,f2,f3,f4,f5,f6⟩:=blk7 hbq
 have HBQ:=hid hbq;have HEX:=hid hex;have HR:=hid hr;have HKR:=hid hk
 clear hex hr hk hbq hn
 go_wp2_with fail
 obtain ⟨wf,hwf,hp,hkp⟩:=put7 HBQ.out (.int .i64 xk) (.int .i64 xo) (.int .i64 xn) (.string xS) (.slice xp xm xc) (.int .i64 xl) (.int .i64 xcl)
 rw [←hwf]
 obtain ⟨c0,c1,c2,c3,c4,c5,c6,-⟩:=blk7 hp
 have hn:=HNN.out
 exact bodyPost_ret (v:=.agg #[.int .i64 xk,.int .i64 xo,.int .i64 xn,.string xS,.slice xp xm xc,.int .i64 xl,.int .i64 xcl]) (by simp [results,Tryz.results109,go_sem,c0,c1,c2,c3,c4,c5,c6]) rfl ⟨_,rfl,(HEX.out.keep hkp fun b hb e=>by have e:b=B2:=e;have hb:W.heap.size≤b:=hb;omega).mono fun b hb=>by have hb:W.heap.size≤b:=hb;omega,HR.out.keep hkp fun b hb e=>by have e:b=B2:=e;omega,((HKW.out.mono fun _ e=>e.elim).trans HKR.out).newE hkp fun b e=>by have e:b=B2:=e;omega⟩
end Go.Proofs.YtknnmidnodeanaaGreatDoor
