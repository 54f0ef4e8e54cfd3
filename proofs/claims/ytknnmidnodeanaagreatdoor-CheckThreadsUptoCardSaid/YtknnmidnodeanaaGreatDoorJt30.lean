/- Joined texts of this work: Pf5, Pg2, Pg3. -/
import Derived.Test.YtknnmidnodeanaaGreatDoorJt29
/-
  Package parse: expr gives up where what binds most does; Expr of the empty text.
-/
namespace Go.Proofs.YtknnmidnodeanaaGreatDoor
open Go Go.RowKit Own
open Go.Lib (hid)
/-
  Package parse: the closures of expr, and expr, where their readers give up.
-/
set_option maxHeartbeats 8000000 in
theorem expr1_faults (w0:World) (R el ec:Nat) (T1:Nat) (hb1:w0.heap[T1]?=some (.cells #[rdV R] 101 (0,0))) (hT1:T1≠R) (nx:List Item→Option (Ex × List Item)) (hd:Dec nx) (hN:Reads 117 #[rdV R] nx w0 R el ec) (nxF:List Item→List Item) (N:Nat) (hF:FaultsN 117 #[rdV R] nx nxF N w0 R el ec):FaultsN 115 #[.pointer (some ⟨T1,0,none⟩)] (rowN nx [1,2,3]) (rowNF nx nxF [1,2,3]) N w0 R el ec:=by
 intro w its hk hr hx hlN
 obtain ⟨FL,hFL⟩:∃ FL:List PanicEntry,FL=fltAt (rowNF nx nxF [1,2,3] its) el ec:=⟨_,rfl⟩
 rw [←hFL]
 have x1:=blk_cell (k:=0) (hk.blkE hb1 hT1) rfl
 obtain ⟨V,B,hV,hB,hb,hk0,hs⟩:=fresh_block w (.cells #[.int .i64 0,.int .i64 0,.int .i64 0,.string ⟨#[]⟩,.slice none 0 0,.int .i64 0,.int .i64 0] TEx)
 obtain ⟨W,G,hW,hG,hg,hkg,hsg⟩:=fresh_block V (.cells #[.int .i64 1,.int .i64 2,.int .i64 3] 3)
 have HK0:=hid hk0;have HB:=hid (hkg.blk hb)
 have HKW:=hid (hk0.trans hkg)
 have HNN:=hid (show w.heap.size≤B∧B<W.heap.size∧R<w.heap.size∧G≠R from ⟨by omega,by omega,hr.lt,by have:=hr.lt;omega⟩)
 have hrd:Rd W (some ⟨G,0,none⟩) (ints (opsI [1,2,3])):=fun j v hj=>⟨G,0,rfl,by
  rw [Nat.zero_add]
  exact blk_cell hg (by simpa [ints,opsI] using hj)⟩
 have HROW:=hid (row_faults 117 #[rdV R] #[] #[rdV R] (enters_of Tryz.func117 (by kernel_rfl) rfl) nx nxF N hd W R el ec (hN.from (hk.trans ((hk0.trans hkg).mono fun _ e=>e.elim))) (hF.from (hk.trans ((hk0.trans hkg).mono fun _ e=>e.elim))) (by simp) its (hr.keep (hk0.trans hkg) fun _ _ e=>e) hlN (some ⟨G,0,none⟩) 3 [1,2,3] hrd (fun a ha=>by cases ha;exact HNN.out.2.2.2) (by decide) (by decide) hx)
 rw [←hFL] at HROW
 have x1:=HK0.out.stay x1
 have hBG:B+1=G:=by omega
 clear hF hFL hlN hk hr hx hb1 hT1 hN hd hb hk0 hs hg hkg hsg hrd
 go_enter Tryz.func115,Tryz.ntmps115
 go_upto_region 1 with fail
 rw [←hV,←hB]
 clear hV hB
 go_wp2_with fail
 rw [←hW,←hG]
 clear hW hG x1
 go_at_call 116
 refine HROW.out.mono ?_
 rintro e w2 ⟨rfl,hk⟩
 have HKE:=hid ((HKW.out.mono (E':=fun b=>b=R) fun _ e=>e.elim).trans hk)
 clear hk
 go_wp2_with fail
 exact ⟨rfl,rfl,HKE.out⟩
set_option maxHeartbeats 8000000 in
theorem expr2_faults (w0:World) (R el ec:Nat) (T1 T2:Nat) (hb1:w0.heap[T1]?=some (.cells #[rdV R] 101 (0,0))) (hT1:T1≠R) (gp:Nat) (cp:Array Value) (eg:∀ args w,(callFunc gp args).run Tryz.prog w=.ok (.enter gp args) w) (hb2:w0.heap[T2]?=some (.cells #[.func (.func gp) #[] cp] TFn (0,0))) (hT2:T2≠R) (nx:List Item→Option (Ex × List Item)) (hd:Dec nx) (hN:Reads gp cp nx w0 R el ec) (nxF:List Item→List Item) (N:Nat) (hF:FaultsN gp cp nx nxF N w0 R el ec):FaultsN 118 #[.pointer (some ⟨T1,0,none⟩),.pointer (some ⟨T2,0,none⟩)] (rowN nx [4,5]) (rowNF nx nxF [4,5]) N w0 R el ec:=by
 intro w its hk hr hx hlN
 obtain ⟨FL,hFL⟩:∃ FL:List PanicEntry,FL=fltAt (rowNF nx nxF [4,5] its) el ec:=⟨_,rfl⟩
 rw [←hFL]
 have x1:=blk_cell (k:=0) (hk.blkE hb1 hT1) rfl
 have x2:=blk_cell (k:=0) (hk.blkE hb2 hT2) rfl
 obtain ⟨V,B,hV,hB,hb,hk0,hs⟩:=fresh_block w (.cells #[.int .i64 0,.int .i64 0,.int .i64 0,.string ⟨#[]⟩,.slice none 0 0,.int .i64 0,.int .i64 0] TEx)
 obtain ⟨W,G,hW,hG,hg,hkg,hsg⟩:=fresh_block V (.cells #[.int .i64 4,.int .i64 5] 3)
 have HK0:=hid hk0;have HB:=hid (hkg.blk hb)
 have HKW:=hid (hk0.trans hkg)
 have HNN:=hid (show w.heap.size≤B∧B<W.heap.size∧R<w.heap.size∧G≠R from ⟨by omega,by omega,hr.lt,by have:=hr.lt;omega⟩)
 have hrd:Rd W (some ⟨G,0,none⟩) (ints (opsI [4,5])):=fun j v hj=>⟨G,0,rfl,by
  rw [Nat.zero_add]
  exact blk_cell hg (by simpa [ints,opsI] using hj)⟩
 have HROW:=hid (row_faults gp #[] cp cp eg nx nxF N hd W R el ec (hN.from (hk.trans ((hk0.trans hkg).mono fun _ e=>e.elim))) (hF.from (hk.trans ((hk0.trans hkg).mono fun _ e=>e.elim))) (by simp) its (hr.keep (hk0.trans hkg) fun _ _ e=>e) hlN (some ⟨G,0,none⟩) 2 [4,5] hrd (fun a ha=>by cases ha;exact HNN.out.2.2.2) (by decide) (by decide) hx)
 rw [←hFL] at HROW
 have x1:=HK0.out.stay x1
 have x2:=HK0.out.stay x2
 have hBG:B+1=G:=by omega
 clear hF hFL hlN hk hr hx hb1 hT1 hN hd hb hk0 hs hg hkg hsg hrd hb2 hT2
 go_enter Tryz.func118,Tryz.ntmps118
 go_upto_region 1 with fail
 rw [←hV,←hB]
 clear hV hB
 go_wp2_with fail
 rw [←hW,←hG]
 clear hW hG x1 x2
 go_at_call 116
 refine HROW.out.mono ?_
 rintro e w2 ⟨rfl,hk⟩
 have HKE:=hid ((HKW.out.mono (E':=fun b=>b=R) fun _ e=>e.elim).trans hk)
 clear hk
 go_wp2_with fail
 exact ⟨rfl,rfl,HKE.out⟩
set_option maxHeartbeats 8000000 in
theorem expr3_faults (w0:World) (R el ec:Nat) (T1 T2:Nat) (hb1:w0.heap[T1]?=some (.cells #[rdV R] 101 (0,0))) (hT1:T1≠R) (gp:Nat) (cp:Array Value) (eg:∀ args w,(callFunc gp args).run Tryz.prog w=.ok (.enter gp args) w) (hb2:w0.heap[T2]?=some (.cells #[.func (.func gp) #[] cp] TFn (0,0))) (hT2:T2≠R) (nx:List Item→Option (Ex × List Item)) (hd:Dec nx) (hN:Reads gp cp nx w0 R el ec) (nxF:List Item→List Item) (N:Nat) (hF:FaultsN gp cp nx nxF N w0 R el ec):FaultsN 119 #[.pointer (some ⟨T1,0,none⟩),.pointer (some ⟨T2,0,none⟩)] (rowN nx [6,7,8,9]) (rowNF nx nxF [6,7,8,9]) N w0 R el ec:=by
 intro w its hk hr hx hlN
 obtain ⟨FL,hFL⟩:∃ FL:List PanicEntry,FL=fltAt (rowNF nx nxF [6,7,8,9] its) el ec:=⟨_,rfl⟩
 rw [←hFL]
 have x1:=blk_cell (k:=0) (hk.blkE hb1 hT1) rfl
 have x2:=blk_cell (k:=0) (hk.blkE hb2 hT2) rfl
 obtain ⟨V,B,hV,hB,hb,hk0,hs⟩:=fresh_block w (.cells #[.int .i64 0,.int .i64 0,.int .i64 0,.string ⟨#[]⟩,.slice none 0 0,.int .i64 0,.int .i64 0] TEx)
 obtain ⟨W,G,hW,hG,hg,hkg,hsg⟩:=fresh_block V (.cells #[.int .i64 6,.int .i64 7,.int .i64 8,.int .i64 9] 3)
 have HK0:=hid hk0;have HB:=hid (hkg.blk hb)
 have HKW:=hid (hk0.trans hkg)
 have HNN:=hid (show w.heap.size≤B∧B<W.heap.size∧R<w.heap.size∧G≠R from ⟨by omega,by omega,hr.lt,by have:=hr.lt;omega⟩)
 have hrd:Rd W (some ⟨G,0,none⟩) (ints (opsI [6,7,8,9])):=fun j v hj=>⟨G,0,rfl,by
  rw [Nat.zero_add]
  exact blk_cell hg (by simpa [ints,opsI] using hj)⟩
 have HROW:=hid (row_faults gp #[] cp cp eg nx nxF N hd W R el ec (hN.from (hk.trans ((hk0.trans hkg).mono fun _ e=>e.elim))) (hF.from (hk.trans ((hk0.trans hkg).mono fun _ e=>e.elim))) (by simp) its (hr.keep (hk0.trans hkg) fun _ _ e=>e) hlN (some ⟨G,0,none⟩) 4 [6,7,8,9] hrd (fun a ha=>by cases ha;exact HNN.out.2.2.2) (by decide) (by decide) hx)
 rw [←hFL] at HROW
 have x1:=HK0.out.stay x1
 have x2:=HK0.out.stay x2
 have hBG:B+1=G:=by omega
 clear hF hFL hlN hk hr hx hb1 hT1 hN hd hb hk0 hs hg hkg hsg hrd hb2 hT2
 go_enter Tryz.func119,Tryz.ntmps119
 go_upto_region 1 with fail
 rw [←hV,←hB]
 clear hV hB
 go_wp2_with fail
 rw [←hW,←hG]
 clear hW hG x1 x2
 go_at_call 116
 refine HROW.out.mono ?_
 rintro e w2 ⟨rfl,hk⟩
 have HKE:=hid ((HKW.out.mono (E':=fun b=>b=R) fun _ e=>e.elim).trans hk)
 clear hk
 go_wp2_with fail
 exact ⟨rfl,rfl,HKE.out⟩
set_option maxHeartbeats 8000000 in
theorem expr4_faults (w0:World) (R el ec:Nat) (T1 T2:Nat) (hb1:w0.heap[T1]?=some (.cells #[rdV R] 101 (0,0))) (hT1:T1≠R) (gp:Nat) (cp:Array Value) (eg:∀ args w,(callFunc gp args).run Tryz.prog w=.ok (.enter gp args) w) (hb2:w0.heap[T2]?=some (.cells #[.func (.func gp) #[] cp] TFn (0,0))) (hT2:T2≠R) (nx:List Item→Option (Ex × List Item)) (hd:Dec nx) (hN:Reads gp cp nx w0 R el ec) (nxF:List Item→List Item) (N:Nat) (hF:FaultsN gp cp nx nxF N w0 R el ec):FaultsN 120 #[.pointer (some ⟨T1,0,none⟩),.pointer (some ⟨T2,0,none⟩)] (rowN nx [10,11]) (rowNF nx nxF [10,11]) N w0 R el ec:=by
 intro w its hk hr hx hlN
 obtain ⟨FL,hFL⟩:∃ FL:List PanicEntry,FL=fltAt (rowNF nx nxF [10,11] its) el ec:=⟨_,rfl⟩
 rw [←hFL]
 have x1:=blk_cell (k:=0) (hk.blkE hb1 hT1) rfl
 have x2:=blk_cell (k:=0) (hk.blkE hb2 hT2) rfl
 obtain ⟨V,B,hV,hB,hb,hk0,hs⟩:=fresh_block w (.cells #[.int .i64 0,.int .i64 0,.int .i64 0,.string ⟨#[]⟩,.slice none 0 0,.int .i64 0,.int .i64 0] TEx)
 obtain ⟨W,G,hW,hG,hg,hkg,hsg⟩:=fresh_block V (.cells #[.int .i64 10,.int .i64 11] 3)
 have HK0:=hid hk0;have HB:=hid (hkg.blk hb)
 have HKW:=hid (hk0.trans hkg)
 have HNN:=hid (show w.heap.size≤B∧B<W.heap.size∧R<w.heap.size∧G≠R from ⟨by omega,by omega,hr.lt,by have:=hr.lt;omega⟩)
 have hrd:Rd W (some ⟨G,0,none⟩) (ints (opsI [10,11])):=fun j v hj=>⟨G,0,rfl,by
  rw [Nat.zero_add]
  exact blk_cell hg (by simpa [ints,opsI] using hj)⟩
 have HROW:=hid (row_faults gp #[] cp cp eg nx nxF N hd W R el ec (hN.from (hk.trans ((hk0.trans hkg).mono fun _ e=>e.elim))) (hF.from (hk.trans ((hk0.trans hkg).mono fun _ e=>e.elim))) (by simp) its (hr.keep (hk0.trans hkg) fun _ _ e=>e) hlN (some ⟨G,0,none⟩) 2 [10,11] hrd (fun a ha=>by cases ha;exact HNN.out.2.2.2) (by decide) (by decide) hx)
 rw [←hFL] at HROW
 have x1:=HK0.out.stay x1
 have x2:=HK0.out.stay x2
 have hBG:B+1=G:=by omega
 clear hF hFL hlN hk hr hx hb1 hT1 hN hd hb hk0 hs hg hkg hsg hrd hb2 hT2
 go_enter Tryz.func120,Tryz.ntmps120
 go_upto_region 1 with fail
 rw [←hV,←hB]
 clear hV hB
 go_wp2_with fail
 rw [←hW,←hG]
 clear hW hG x1 x2
 go_at_call 116
 refine HROW.out.mono ?_
 rintro e w2 ⟨rfl,hk⟩
 have HKE:=hid ((HKW.out.mono (E':=fun b=>b=R) fun _ e=>e.elim).trans hk)
 clear hk
 go_wp2_with fail
 exact ⟨rfl,rfl,HKE.out⟩
set_option maxHeartbeats 8000000 in
theorem expr5_faults (w0:World) (R el ec:Nat) (T1 T2:Nat) (hb1:w0.heap[T1]?=some (.cells #[rdV R] 101 (0,0))) (hT1:T1≠R) (gp:Nat) (cp:Array Value) (eg:∀ args w,(callFunc gp args).run Tryz.prog w=.ok (.enter gp args) w) (hb2:w0.heap[T2]?=some (.cells #[.func (.func gp) #[] cp] TFn (0,0))) (hT2:T2≠R) (nx:List Item→Option (Ex × List Item)) (hd:Dec nx) (hN:Reads gp cp nx w0 R el ec) (nxF:List Item→List Item) (N:Nat) (hF:FaultsN gp cp nx nxF N w0 R el ec):FaultsN 121 #[.pointer (some ⟨T1,0,none⟩),.pointer (some ⟨T2,0,none⟩)] (rowN nx [12]) (rowNF nx nxF [12]) N w0 R el ec:=by
 intro w its hk hr hx hlN
 obtain ⟨FL,hFL⟩:∃ FL:List PanicEntry,FL=fltAt (rowNF nx nxF [12] its) el ec:=⟨_,rfl⟩
 rw [←hFL]
 have x1:=blk_cell (k:=0) (hk.blkE hb1 hT1) rfl
 have x2:=blk_cell (k:=0) (hk.blkE hb2 hT2) rfl
 obtain ⟨V,B,hV,hB,hb,hk0,hs⟩:=fresh_block w (.cells #[.int .i64 0,.int .i64 0,.int .i64 0,.string ⟨#[]⟩,.slice none 0 0,.int .i64 0,.int .i64 0] TEx)
 obtain ⟨W,G,hW,hG,hg,hkg,hsg⟩:=fresh_block V (.cells #[.int .i64 12] 3)
 have HK0:=hid hk0;have HB:=hid (hkg.blk hb)
 have HKW:=hid (hk0.trans hkg)
 have HNN:=hid (show w.heap.size≤B∧B<W.heap.size∧R<w.heap.size∧G≠R from ⟨by omega,by omega,hr.lt,by have:=hr.lt;omega⟩)
 have hrd:Rd W (some ⟨G,0,none⟩) (ints (opsI [12])):=fun j v hj=>⟨G,0,rfl,by
  rw [Nat.zero_add]
  exact blk_cell hg (by simpa [ints,opsI] using hj)⟩
 have HROW:=hid (row_faults gp #[] cp cp eg nx nxF N hd W R el ec (hN.from (hk.trans ((hk0.trans hkg).mono fun _ e=>e.elim))) (hF.from (hk.trans ((hk0.trans hkg).mono fun _ e=>e.elim))) (by simp) its (hr.keep (hk0.trans hkg) fun _ _ e=>e) hlN (some ⟨G,0,none⟩) 1 [12] hrd (fun a ha=>by cases ha;exact HNN.out.2.2.2) (by decide) (by decide) hx)
 rw [←hFL] at HROW
 have x1:=HK0.out.stay x1
 have x2:=HK0.out.stay x2
 have hBG:B+1=G:=by omega
 clear hF hFL hlN hk hr hx hb1 hT1 hN hd hb hk0 hs hg hkg hsg hrd hb2 hT2
 go_enter Tryz.func121,Tryz.ntmps121
 go_upto_region 1 with fail
 rw [←hV,←hB]
 clear hV hB
 go_wp2_with fail
 rw [←hW,←hG]
 clear hW hG x1 x2
 go_at_call 116
 refine HROW.out.mono ?_
 rintro e w2 ⟨rfl,hk⟩
 have HKE:=hid ((HKW.out.mono (E':=fun b=>b=R) fun _ e=>e.elim).trans hk)
 clear hk
 go_wp2_with fail
 exact ⟨rfl,rfl,HKE.out⟩
set_option maxHeartbeats 16000000 in
theorem expr_faults (w0:World) (R el ec:Nat) (nx:List Item→Option (Ex × List Item)) (hd:Dec nx) (hN:Reads 117 #[rdV R] nx w0 R el ec) (nxF:List Item→List Item) (N:Nat) (hF:FaultsN 117 #[rdV R] nx nxF N w0 R el ec):FaultsN 109 #[rdV R] (rowsN nx) (rowsF nx nxF) N w0 R el ec:=by
 intro w its hk hr hx hlN
 obtain ⟨FL,hFL⟩:∃ FL:List PanicEntry,FL=fltAt (rowsF nx nxF its) el ec:=⟨_,rfl⟩
 rw [←hFL]
 obtain ⟨V1,B1,hV1,hB1,hb1,hk1,hs1⟩:=fresh_block w (.cells #[rdV R] 101)
 obtain ⟨V2,B2,hV2,hB2,hb2,hk2,hs2⟩:=fresh_block V1 (.cells #[.int .i64 0,.int .i64 0,.int .i64 0,.string ⟨#[]⟩,.slice none 0 0,.int .i64 0,.int .i64 0] TEx)
 obtain ⟨V3,B3,hV3,hB3,hb3,hk3,hs3⟩:=fresh_block V2 (.cells #[.func (.func 115) #[] #[.pointer (some ⟨B1,0,none⟩)]] TFn)
 obtain ⟨V4,B4,hV4,hB4,hb4,hk4,hs4⟩:=fresh_block V3 (.cells #[.func (.func 118) #[] #[.pointer (some ⟨B1,0,none⟩),.pointer (some ⟨B3,0,none⟩)]] TFn)
 obtain ⟨V5,B5,hV5,hB5,hb5,hk5,hs5⟩:=fresh_block V4 (.cells #[.func (.func 119) #[] #[.pointer (some ⟨B1,0,none⟩),.pointer (some ⟨B4,0,none⟩)]] TFn)
 obtain ⟨V6,B6,hV6,hB6,hb6,hk6,hs6⟩:=fresh_block V5 (.cells #[.func (.func 120) #[] #[.pointer (some ⟨B1,0,none⟩),.pointer (some ⟨B5,0,none⟩)]] TFn)
 obtain ⟨W,G,hW,hG,hg,hkg,hsg⟩:=fresh_block V6 (.cells #[.int .i64 13] 3)
 have k6:=hk6.trans hkg;have k5:=hk5.trans k6;have k4:=hk4.trans k5;have k3:=hk3.trans k4;have k2:=hk2.trans k3;have k1:=hk1.trans k2
 have hRl:=hr.lt
 have HKW:=hid k1;have HB2:=hid (k3.blk hb2)
 have HNN:=hid (show w.heap.size≤B2∧B2<W.heap.size∧R<w.heap.size∧G≠R from ⟨by omega,by omega,hRl,by omega⟩)
 have hrd:Rd W (some ⟨G,0,none⟩) (ints (opsI [13])):=fun j v hj=>⟨G,0,rfl,by
  rw [Nat.zero_add]
  exact blk_cell hg (by simpa [ints,opsI] using hj)⟩
 have hN':=hN.from (hk.trans (k1.mono fun _ e=>e.elim))
 have hF':=hF.from (hk.trans (k1.mono fun _ e=>e.elim))
 have hbx:=k2.blk hb1
 have r1:=expr1_reads W R el ec B1 hbx (by omega) nx hd hN'
 have q1:=expr1_faults W R el ec B1 hbx (by omega) nx hd hN' nxF N hF'
 have r2:=expr2_reads W R el ec B1 B3 hbx (by omega) 115 _ (enters_of Tryz.func115 (by kernel_rfl) rfl) (k4.blk hb3) (by omega) _ (rowN_dec hd _) r1
 have q2:=expr2_faults W R el ec B1 B3 hbx (by omega) 115 _ (enters_of Tryz.func115 (by kernel_rfl) rfl) (k4.blk hb3) (by omega) _ (rowN_dec hd _) r1 _ N q1
 have r3:=expr3_reads W R el ec B1 B4 hbx (by omega) 118 _ (enters_of Tryz.func118 (by kernel_rfl) rfl) (k5.blk hb4) (by omega) _ (rowN_dec (rowN_dec hd _) _) r2
 have q3:=expr3_faults W R el ec B1 B4 hbx (by omega) 118 _ (enters_of Tryz.func118 (by kernel_rfl) rfl) (k5.blk hb4) (by omega) _ (rowN_dec (rowN_dec hd _) _) r2 _ N q2
 have r4:=expr4_reads W R el ec B1 B5 hbx (by omega) 119 _ (enters_of Tryz.func119 (by kernel_rfl) rfl) (k6.blk hb5) (by omega) _ (rowN_dec (rowN_dec (rowN_dec hd _) _) _) r3
 have q4:=expr4_faults W R el ec B1 B5 hbx (by omega) 119 _ (enters_of Tryz.func119 (by kernel_rfl) rfl) (k6.blk hb5) (by omega) _ (rowN_dec (rowN_dec (rowN_dec hd _) _) _) r3 _ N q3
 have r5:=expr5_reads W R el ec B1 B6 hbx (by omega) 120 _ (enters_of Tryz.func120 (by kernel_rfl) rfl) (hkg.blk hb6) (by omega) _ (rowN_dec (rowN_dec (rowN_dec (rowN_dec hd _) _) _) _) r4
 have q5:=expr5_faults W R el ec B1 B6 hbx (by omega) 120 _ (enters_of Tryz.func120 (by kernel_rfl) rfl) (hkg.blk hb6) (by omega) _ (rowN_dec (rowN_dec (rowN_dec (rowN_dec hd _) _) _) _) r4 _ N q4
 have hrow:Calls Tryz.prog _ _ _ fun e w'=>e=.panicked (fltAt (rowsF nx nxF its) el ec)∧KeepBut (fun b=>b=R) W w':=row_faults 121 #[] #[.pointer (some ⟨B1,0,none⟩),.pointer (some ⟨B6,0,none⟩)] #[.pointer (some ⟨B1,0,none⟩),.pointer (some ⟨B6,0,none⟩)] (enters_of Tryz.func121 (by kernel_rfl) rfl) _ _ N (rowN_dec (rowN_dec (rowN_dec (rowN_dec (rowN_dec hd _) _) _) _) _) W R el ec r5 q5 (by simp) its (hr.keep k1 fun _ _ e=>e) hlN (some ⟨G,0,none⟩) 1 [13] hrd (fun a ha=>by cases ha;exact HNN.out.2.2.2) (by decide) (by decide) hx
 rw [←hFL] at hrow
 have HROW:=hid hrow
 clear hrow
 have q12:B1+1=B2:=by omega
 have x1:=blk_cell (k:=0) ((hk3.trans (hk4.trans (hk5.trans hk6))).blk (hk2.blk hb1)) rfl
 clear hN' hbx r1 r2 r3 r4 r5 q1 q2 q3 q4 q5 hF' hF hFL hlN hrd hN hd hx hr hk k6 k5 k4 k3 k2 k1 hRl
 go_enter Tryz.func109,Tryz.ntmps109
 go_upto_region 1 with fail
 rw [←hV1,←hB1,←hV2,q12]
 clear hV1 hB1 hV2 hB2 q12 hs1 hs2
 go_upto_region 2 with fail
 rw [←hV3,←hB3]
 clear hV3 hB3 hs3
 go_upto_region 3 with fail
 rw [←hV4,←hB4]
 clear hV4 hB4 hs4
 go_upto_region 4 with fail
 rw [←hV5,←hB5]
 clear hV5 hB5 hs5
 go_upto_region 5 with fail
 rw [←hV6,←hB6]
 clear hV6 hB6 hs6
 go_wp2_with fail
 rw [←hW,←hG]
 clear hW hG x1
 go_at_call 116
 refine HROW.out.mono ?_
 rintro e w2 ⟨rfl,hk⟩
 have HKE:=hid ((HKW.out.mono (E':=fun b=>b=R) fun _ e=>e.elim).trans hk)
 clear hk
 go_wp2_with fail
 exact ⟨rfl,rfl,HKE.out⟩
/-
  Package parse: one, where it gives up; with it, whole expressions.
-/
theorem oneOfF_gives {its:List Item} (oF:List Item→List Item) (ex:List Item→Option (Ex × List Item)) (eF:List Item→List Item)
  (h1:headIs its [45]=false) (h2:headIs its [33]=false) (h3:headIs its [40]=false) (h5:headKind its≠2):oneOfF oF ex eF its=its:=by
 cases its with
 | nil=>rfl
 | cons t r=>
  have h1:isT t.tok [45]=false:=h1
  have h2:isT t.tok [33]=false:=h2
  have h3:isT t.tok [40]=false:=h3
  have h5:¬t.tok.kind=2:=h5
  unfold oneOfF
  simp only [h1,h2,h3,h5,Bool.false_eq_true,if_false]
set_option maxRecDepth 100000 in
set_option maxHeartbeats 64000000 in
theorem one_stepF (R el ec f:Nat) (ih:∀ w0,Reads 117 #[rdV R] (oneP f) w0 R el ec) (ihF:∀ w0,FaultsN 117 #[rdV R] (oneP f) (oneF f) f w0 R el ec) (w0:World):FaultsN 117 #[rdV R] (oneP (f+1)) (oneF (f+1)) (f+1) w0 R el ec:=by
 intro w its hk hr hx hlN
 by_cases hg:headIs its [45]=false∧headIs its [33]=false∧headIs its [40]=false∧headKind its≠3∧headKind its≠2
 ·obtain ⟨g1,g2,g3,g4,g5⟩:=hg
  obtain ⟨k,n,S,hp,hq⟩:=peekV_at its el ec
  have e:oneF (f+1) its=its:=oneOfF_gives _ _ _ g1 g2 g3 g5
  rw [e]
  exact one_gives R el ec its k n _ _ S hp g1 g2 g3 (by omega) (by omega) w0 w hk hr
 obtain ⟨BB,hBB⟩:∃ BB,oneF (f+1) its=BB:=⟨_,rfl⟩
 obtain ⟨FL,hFL⟩:∃ FL:List PanicEntry,FL=fltAt BB el ec:=⟨_,rfl⟩
 rw [hBB,←hFL]
 have HFL:=hid hFL
 have HONEF:=hid (ihF w)
 have HEXPF:=hid (expr_faults w R el ec (oneP f) (oneP_dec f) (ih w) (oneF f) f (ihF w))
 have hBB:oneOfF (oneF f) (rowsN (oneP f)) (rowsF (oneP f) (oneF f)) its=BB:=hBB
 unfold oneOfF at hBB
 clear hFL ihF
 have HEXP:=hid (expr_reads w R el ec (oneP f) (oneP_dec f) (ih w))
 have hx:oneOf (oneP f) (rowsN (oneP f)) its=none:=hx
 unfold oneOf at hx
 cases its with
 | nil=>exact absurd ⟨rfl,rfl,rfl,by decide,by decide⟩ hg
 | cons t r0=>
 dsimp only at hx hBB
 have HLN:=hid (show r0.length<f by rw [List.length_cons] at hlN;omega)
 clear hlN
 obtain ⟨V1,B2,hV1,hB2,hb2,hk1,hs1⟩:=fresh_block w (.cells #[.int .i64 0,.int .i64 0,.int .i64 0,.string ⟨#[]⟩,.slice none 0 0,.int .i64 0,.int .i64 0] TEx)
 have HPK:=hid (peek_any V1 R (t::r0) el ec (hr.keep hk1 fun _ _ e=>e))
 obtain ⟨tk,tn,tl,tc,S9,hpv⟩:=peekV_form (t::r0) el ec
 have HPV:=hid hpv
 rw [hpv] at HPK
 have HTL:=hid (show tl=t.line∧tc=t.col∧tk=t.tok.kind by
  have h9:=HPV.out
  unfold peekV at h9
  simp only [Value.agg.injEq,Array.mk.injEq,List.cons.injEq,Value.int.injEq,true_and] at h9
  exact ⟨h9.2.2.2.1.symm,h9.2.2.2.2.1.symm,h9.1.symm⟩)
 have HR0:=hid hr;have HK1:=hid hk1;have HB2:=hid hb2
 have HN1:=hid (show w.heap.size≤B2∧B2<V1.heap.size∧R<w.heap.size from ⟨by omega,by omega,hr.lt⟩)
 clear hk hr hb2 hk1 hs1 hpv
 go_enter Tryz.func117,Tryz.ntmps117
 go_upto_region 1 with fail
 rw [←hV1,←hB2]
 clear hV1 hB2
 go_wp2_with fail
 go_at_call 79
 refine HPK.out.mono ?_
 rintro e w1 ⟨rfl,hkp⟩
 obtain ⟨V2,B3,hV2,hB3,hb3,hk2,hs2⟩:=fresh_block w1 (.cells #[.int .i64 tk,.string S9,.int .i64 tn,.int .i64 tl,.int .i64 tc] TTk)
 obtain ⟨V,B4,hV,hB4,hb4,hk3,hs3⟩:=fresh_block V2 (.cells #[.int .i64 0,.int .i64 0,.int .i64 0,.string ⟨#[]⟩,.slice none 0 0,.int .i64 tl,.int .i64 tc] TEx)
 have hkV:=(hkp.trans hk2).trans hk3
 have HB4:=hid hb4;have HB3:=hid (hk3.blk hb3);have HB2V:=hid (hkV.blk HB2.out)
 have HKV:=hid (show KeepBut (fun b=>b=R) w V from (HK1.out.trans hkV).mono fun _ e=>e.elim)
 have HRV:=hid (HR0.out.keep (HK1.out.trans hkV) fun _ _ e=>e)
 have HNN:=hid (show w.heap.size≤B2∧B2<B3∧B3<B4∧B4<V.heap.size∧R<w.heap.size by have h1:=HN1.out;have h2:=hkp.size;omega)
 obtain ⟨n0,n1,n2,n3,n4,-⟩:=blk5 hb3
 clear hkp hk2 hk3 hkV hb3 hb4 hs2 hs3
 go_upto_region 2 with fail
 rw [←hV2,←hB3]
 clear hV2 hB3
 go_upto_region 7 with fail
 rw [←hV,←hB4]
 clear hV hB4 n0 n1 n2 n3 n4
 have HSV:=hid (Nat.le_refl V.heap.size)
 have HM1:=hid (may_any V R (t::r0) el ec HRV.out [45])
 by_cases h1:isT t.tok [45]=true
 ·rw [if_pos h1] at hx hBB
  rw [show headIs (t::r0) [45]=true from h1] at HM1
  clear h1
  go_upto_region 8 with (go_at_call 95;refine HM1.out.mono ?_;rintro e wy ⟨rfl,hry,hky⟩)
  have HRY:=hid (show ReaderAt wy R r0 el ec from hry);have HKY:=hid (HKV.out.trans hky)
  have hnY:=HNN.out
  have HB4Y:=hid (hky.blkE HB4.out fun e=>by have e:B4=R:=e;omega)
  have HB2Y:=hid (hky.blkE HB2V.out fun e=>by have e:B2=R:=e;omega)
  have HSY:=hid (Nat.le_trans HSV.out hky.size)
  clear hry hky hnY
  -- the operator has been taken: wy, HRY, HKY, HB4Y, HB2Y
  cases ho:oneP f r0 with
  | some xr=>rw [ho] at hx;cases hx
  | none=>
  have HO1:=hid ho
  obtain ⟨n0,n1,n2,n3,n4,n5,n6,f0,f1,f2,f3,f4,f5,f6⟩:=blk7 HB4Y.out
  have HB9:=hid hBB
  clear ho hg
  go_upto_region 9 with fail
  obtain ⟨wa,hwa,hba,hka⟩:=box_put0 HB4Y.out (.int .i64 4)
  rw [←hwa]
  obtain ⟨wb,hwb,hbb,hkb⟩:=box_put1 hba (.int .i64 1)
  rw [←hwb]
  have hn:=HNN.out
  have hkab:=hka.trans hkb
  have HRB:=hid (HRY.out.keep hkab fun b hb e=>by have e:b=B4:=e;omega)
  have HKB:=hid (HKY.out.newE hkab fun b e=>by have e:b=B4:=e;omega)
  have HB2B:=hid (hkab.blkE HB2Y.out fun e=>by have e:B2=B4:=e;omega)
  have HBB:=hid hbb
  have HSB:=hid (show V.heap.size≤wb.heap.size from Nat.le_trans HSY.out hkab.size)
  clear hwa hba hka hwb hbb hkb hkab hn n0 n1 n2 n3 n4 n5 n6 f0 f1 f2 f3 f4 f5 f6
  go_wp2_with fail
  go_at_call 117
  have HQ:=hid (HONEF.out wb r0 HKB.out HRB.out HO1.out HLN.out)
  rw [HB9.out,←HFL.out] at HQ
  refine HQ.out.mono ?_
  rintro e we ⟨rfl,hk3⟩
  have HKE:=hid (HKB.out.trans hk3)
  clear hk3
  go_wp2_with fail
  exact ⟨rfl,rfl,HKE.out⟩
 ·rw [if_neg h1] at hx hBB
  have HH1:=hid h1
  rw [show headIs (t::r0) [45]=false from Bool.eq_false_iff.2 h1] at HM1
  go_upto_region 10 with (go_at_call 95;refine HM1.out.mono ?_;rintro e wq1 ⟨rfl,hry,hky⟩)
  have HRV:=hid (show ReaderAt wq1 R (t::r0) el ec from hry);have HKV:=hid (HKV.out.trans hky)
  have hnY:=HNN.out
  have HB4:=hid (hky.blkE HB4.out fun e=>by have e:B4=R:=e;omega)
  have HB3:=hid (hky.blkE HB3.out fun e=>by have e:B3=R:=e;omega)
  have HB2V:=hid (hky.blkE HB2V.out fun e=>by have e:B2=R:=e;omega)
  have HSV:=hid (Nat.le_trans HSV.out hky.size)
  clear hry hky hnY h1
  have HM2:=hid (may_any wq1 R (t::r0) el ec HRV.out [33])
  by_cases h2:isT t.tok [33]=true
  ·rw [if_pos h2] at hx hBB
   rw [show headIs (t::r0) [33]=true from h2] at HM2
   clear h2
   go_upto_region 11 with (go_at_call 95;refine HM2.out.mono ?_;rintro e wy ⟨rfl,hry,hky⟩)
   have HRY:=hid (show ReaderAt wy R r0 el ec from hry);have HKY:=hid (HKV.out.trans hky)
   have hnY:=HNN.out
   have HB4Y:=hid (hky.blkE HB4.out fun e=>by have e:B4=R:=e;omega)
   have HB2Y:=hid (hky.blkE HB2V.out fun e=>by have e:B2=R:=e;omega)
   have HSY:=hid (Nat.le_trans HSV.out hky.size)
   clear hry hky hnY
   -- the operator has been taken: wy, HRY, HKY, HB4Y, HB2Y
   cases ho:oneP f r0 with
   | some xr=>rw [ho] at hx;cases hx
   | none=>
   have HO1:=hid ho
   obtain ⟨n0,n1,n2,n3,n4,n5,n6,f0,f1,f2,f3,f4,f5,f6⟩:=blk7 HB4Y.out
   have HB9:=hid hBB
   clear ho hg
   go_upto_region 12 with fail
   obtain ⟨wa,hwa,hba,hka⟩:=box_put0 HB4Y.out (.int .i64 4)
   rw [←hwa]
   obtain ⟨wb,hwb,hbb,hkb⟩:=box_put1 hba (.int .i64 2)
   rw [←hwb]
   have hn:=HNN.out
   have hkab:=hka.trans hkb
   have HRB:=hid (HRY.out.keep hkab fun b hb e=>by have e:b=B4:=e;omega)
   have HKB:=hid (HKY.out.newE hkab fun b e=>by have e:b=B4:=e;omega)
   have HB2B:=hid (hkab.blkE HB2Y.out fun e=>by have e:B2=B4:=e;omega)
   have HBB:=hid hbb
   have HSB:=hid (show V.heap.size≤wb.heap.size from Nat.le_trans HSY.out hkab.size)
   clear hwa hba hka hwb hbb hkb hkab hn n0 n1 n2 n3 n4 n5 n6 f0 f1 f2 f3 f4 f5 f6
   go_wp2_with fail
   go_at_call 117
   have HQ:=hid (HONEF.out wb r0 HKB.out HRB.out HO1.out HLN.out)
   rw [HB9.out,←HFL.out] at HQ
   refine HQ.out.mono ?_
   rintro e we ⟨rfl,hk3⟩
   have HKE:=hid (HKB.out.trans hk3)
   clear hk3
   go_wp2_with fail
   exact ⟨rfl,rfl,HKE.out⟩
  ·rw [if_neg h2] at hx hBB
   have HH2:=hid h2
   rw [show headIs (t::r0) [33]=false from Bool.eq_false_iff.2 h2] at HM2
   go_upto_region 13 with (go_at_call 95;refine HM2.out.mono ?_;rintro e wq2 ⟨rfl,hry,hky⟩)
   have HRV:=hid (show ReaderAt wq2 R (t::r0) el ec from hry);have HKV:=hid (HKV.out.trans hky)
   have hnY:=HNN.out
   have HB4:=hid (hky.blkE HB4.out fun e=>by have e:B4=R:=e;omega)
   have HB3:=hid (hky.blkE HB3.out fun e=>by have e:B3=R:=e;omega)
   have HB2V:=hid (hky.blkE HB2V.out fun e=>by have e:B2=R:=e;omega)
   have HSV:=hid (Nat.le_trans HSV.out hky.size)
   clear hry hky hnY h2
   have HM3:=hid (may_any wq2 R (t::r0) el ec HRV.out [40])
   by_cases h3:isT t.tok [40]=true
   ·rw [if_pos h3] at hx hBB
    rw [show headIs (t::r0) [40]=true from h3] at HM3
    clear h3
    go_upto_region 14 with (go_at_call 95;refine HM3.out.mono ?_;rintro e wy ⟨rfl,hry,hky⟩)
    have HRY:=hid (show ReaderAt wy R r0 el ec from hry);have HKY:=hid (HKV.out.trans hky)
    have hnY:=HNN.out
    have HB4Y:=hid (hky.blkE HB4.out fun e=>by have e:B4=R:=e;omega)
    have HB2Y:=hid (hky.blkE HB2V.out fun e=>by have e:B2=R:=e;omega)
    have HSY:=hid (Nat.le_trans HSV.out hky.size)
    clear hry hky hnY
    -- '(' has been taken
    cases ho:rowsN (oneP f) r0 with
    | none=>
     rw [ho] at hBB
     dsimp only at hBB
     have HO1:=hid ho
     have HB9:=hid hBB
     clear ho hx hg hBB
     go_wp2_with fail
     go_at_call 109
     have HQ:=hid (HEXPF.out wy r0 HKY.out HRY.out HO1.out HLN.out)
     rw [HB9.out,←HFL.out] at HQ
     refine HQ.out.mono ?_
     rintro e we ⟨rfl,hk3⟩
     have HKE:=hid (HKY.out.trans hk3)
     clear hk3
     go_wp2_with fail
     exact ⟨rfl,rfl,HKE.out⟩
    | some xr=>
    obtain ⟨x1,r1⟩:=xr
    rw [ho] at hx hBB
    dsimp only at hx hBB
    by_cases hh:headIs r1 [41]=true
    ·rw [if_pos hh] at hx;cases hx
    ·rw [if_neg hh] at hx
     have HO1:=hid ho;have HH:=hid (show mustO [[41]] r1=.bad r1 by unfold mustO;rw [if_neg hh])
     have HB9:=hid hBB
     clear ho hh hx hg hBB
     go_wp2_with fail
     go_at_call 109
     refine (HEXP.out wy r0 x1 r1 HKY.out HRY.out HO1.out).mono ?_
     rintro e w3 ⟨vs,rfl,hex,hr3,hk3⟩
     obtain ⟨xk,xo,xn,xS,xp,xm,xc,xl,xcl,rfl⟩:=ex_form hex
     have hnE:=HNN.out
     have hb43:=hk3.blkE HB4Y.out fun e=>by have e:B4=R:=e;omega
     have HB43:=hid hb43
     have HEX3:=hid hex;have HR3:=hid hr3;have HK3:=hid hk3
     obtain ⟨n0,n1,n2,n3,n4,n5,n6,f0,f1,f2,f3,f4,f5,f6⟩:=blk7 hb43
     clear hex hr3 hk3 hb43 hnE
     go_upto_region 15 with fail
     obtain ⟨wc,hwc,hbc,hkc⟩:=put7 HB43.out (.int .i64 xk) (.int .i64 xo) (.int .i64 xn) (.string xS) (.slice xp xm xc) (.int .i64 xl) (.int .i64 xcl)
     rw [←hwc]
     have hn:=HNN.out
     have hsy:=HSY.out
     have HBC:=hid hbc
     have HRC:=hid (HR3.out.keep hkc fun b hb e=>by have e:b=B4:=e;omega)
     have HKC:=hid ((HKY.out.trans HK3.out).newE hkc fun b e=>by have e:b=B4:=e;omega)
     have HB2C:=hid (hkc.blkE (HK3.out.blkE HB2Y.out fun e=>by have e:B2=R:=e;omega) fun e=>by have e:B2=B4:=e;omega)
     have HEXC:=hid ((HEX3.out.keep hkc fun b hb e=>by have e:b=B4:=e;have hb:wy.heap.size≤b:=hb;omega).mono (S':=fun b=>V.heap.size≤b) fun b hb=>by have hb:wy.heap.size≤b:=hb;omega)
     clear hwc hbc hkc hn hsy n0 n1 n2 n3 n4 n5 n6 f0 f1 f2 f3 f4 f5 f6
     have HMU:=hid (must1b HRC.out [41] r1 HH.out)
     rw [HB9.out,←HFL.out] at HMU
     go_wp2_with fail
     go_at_call 77
     refine HMU.out.mono ?_
     rintro e we ⟨rfl,hk3⟩
     have HKE:=hid (HKC.out.trans hk3)
     clear hk3
     go_wp2_with fail
     exact ⟨rfl,rfl,HKE.out⟩
   ·rw [if_neg h3] at hx hBB
    have HH3:=hid h3
    rw [show headIs (t::r0) [40]=false from Bool.eq_false_iff.2 h3] at HM3
    go_upto_region 16 with (go_at_call 95;refine HM3.out.mono ?_;rintro e wq3 ⟨rfl,hry,hky⟩)
    have HRV:=hid (show ReaderAt wq3 R (t::r0) el ec from hry);have HKV:=hid (HKV.out.trans hky)
    have hnY:=HNN.out
    have HB4:=hid (hky.blkE HB4.out fun e=>by have e:B4=R:=e;omega)
    have HB3:=hid (hky.blkE HB3.out fun e=>by have e:B3=R:=e;omega)
    have HB2V:=hid (hky.blkE HB2V.out fun e=>by have e:B2=R:=e;omega)
    have HSV:=hid (Nat.le_trans HSV.out hky.size)
    clear hry hky hnY h3
    by_cases h4:t.tok.kind=3
    ·rw [if_pos h4] at hx;cases hx
    ·rw [if_neg h4] at hx
     by_cases h5:t.tok.kind=2
     ·rw [if_pos h5] at hx hBB
      have HNA:=name_any wq3 R t r0 el ec HRV.out h5
      obtain ⟨SN,hSN⟩:∃ S,strV t.tok.text=.string S:=⟨_,rfl⟩
      rw [hSN] at HNA
      have HNA:=hid HNA
      have HSN:=hid hSN
      obtain ⟨b0,b1,b2,b3,b4,-⟩:=blk5 HB3.out
      have hkk:(tk==3)=false:=by rw [HTL.out.2.2,beq_eq_false_iff_ne];omega
      clear hSN h4 h5
      go_upto_region 3 with fail
      clear b0 b1 b2 b3 b4 hkk
      go_wp2_with fail
      go_at_call 81
      refine HNA.out.mono ?_
      rintro e wn ⟨rfl,hr3,hk3⟩
      have hnE:=HNN.out
      have hb43:=hk3.blkE HB4.out fun e=>by have e:B4=R:=e;omega
      have HB43:=hid hb43
      have HR3:=hid hr3;have HK3:=hid hk3
      obtain ⟨n0,n1,n2,n3,n4,n5,n6,f0,f1,f2,f3,f4,f5,f6⟩:=blk7 hb43
      clear hr3 hk3 hb43 hnE
      go_upto_region 4 with fail
      obtain ⟨wa,hwa,hba,hka⟩:=box_put0 HB43.out (.int .i64 2)
      rw [←hwa]
      obtain ⟨wb,hwb,hbb,hkb⟩:=box_put3 hba (.string SN)
      rw [←hwb]
      have hn:=HNN.out
      have hkab:=hka.trans hkb
      have HBB:=hid hbb
      have HB2B:=hid (hkab.blkE (HK3.out.blkE HB2V.out fun e=>by have e:B2=R:=e;omega) fun e=>by have e:B2=B4:=e;omega)
      have HRB:=hid (HR3.out.keep hkab fun b hb e=>by have e:b=B4:=e;omega)
      have HKB:=hid ((HKV.out.trans HK3.out).newE hkab fun b e=>by have e:b=B4:=e;omega)
      have HSB:=hid (Nat.le_trans HSV.out (Nat.le_trans HK3.out.size hkab.size))
      clear hwa hba hka hwb hbb hkb hn hkab n0 n1 n2 n3 n4 n5 n6 f0 f1 f2 f3 f4 f5 f6
      have HM4:=hid (may_any wb R r0 el ec HRB.out [91])
      by_cases h6:headIs r0 [91]=true
      ·rw [if_pos h6] at hx hBB
       rw [h6] at HM4
       cases ho:rowsN (oneP f) r0.tail with
       | none=>
        rw [ho] at hBB
        dsimp only at hBB
        have HO1:=hid ho
        have HB9:=hid hBB
        clear ho hx hg hBB h6
        go_upto_region 5 with (go_at_call 95;refine HM4.out.mono ?_;rintro e wy ⟨rfl,hry,hky⟩)
        have HRY:=hid (show ReaderAt wy R r0.tail el ec from hry);have HKY:=hid (HKB.out.trans hky)
        have hnY:=HNN.out
        have HB4Y:=hid (hky.blkE HBB.out fun e=>by have e:B4=R:=e;omega)
        have HB2Y:=hid (hky.blkE HB2B.out fun e=>by have e:B2=R:=e;omega)
        have HSY:=hid (Nat.le_trans HSB.out hky.size)
        clear hry hky hnY
        go_wp2_with fail
        go_at_call 109
        have HQ:=hid (HEXPF.out wy r0.tail HKY.out HRY.out HO1.out (by have:=HLN.out;rw [List.length_tail];omega))
        rw [HB9.out,←HFL.out] at HQ
        refine HQ.out.mono ?_
        rintro e we ⟨rfl,hk3⟩
        have HKE:=hid (HKY.out.trans hk3)
        clear hk3
        go_wp2_with fail
        exact ⟨rfl,rfl,HKE.out⟩
       | some xr=>
       obtain ⟨x1,r1⟩:=xr
       rw [ho] at hx hBB
       dsimp only at hx hBB
       by_cases hh:headIs r1 [93]=true
       ·rw [if_pos hh] at hx;cases hx
       ·rw [if_neg hh] at hx
        have HO1:=hid ho;have HH:=hid (show mustO [[93]] r1=.bad r1 by unfold mustO;rw [if_neg hh])
        have HB9:=hid hBB
        clear ho hh hx hg hBB h6
        go_upto_region 5 with (go_at_call 95;refine HM4.out.mono ?_;rintro e wy ⟨rfl,hry,hky⟩)
        have HRY:=hid (show ReaderAt wy R r0.tail el ec from hry);have HKY:=hid (HKB.out.trans hky)
        have hnY:=HNN.out
        have HB4Y:=hid (hky.blkE HBB.out fun e=>by have e:B4=R:=e;omega)
        have HB2Y:=hid (hky.blkE HB2B.out fun e=>by have e:B2=R:=e;omega)
        have HSY:=hid (Nat.le_trans HSB.out hky.size)
        clear hry hky hnY
        go_wp2_with fail
        go_at_call 109
        refine (HEXP.out wy r0.tail x1 r1 HKY.out HRY.out HO1.out).mono ?_
        rintro e w3 ⟨vs,rfl,hex,hr3,hk3⟩
        obtain ⟨xk,xo,xn,xS,xp,xm,xc,xl,xcl,rfl⟩:=ex_form hex
        have hnE:=HNN.out
        have hb43:=hk3.blkE HB4Y.out fun e=>by have e:B4=R:=e;omega
        have HB4W:=hid hb43
        have HEX3:=hid hex;have HRW:=hid hr3;have HKW3:=hid hk3
        have HA:=hid (KeepBut.alloc (fun _=>False) w3 (.cells #[.int .i64 xk,.int .i64 xo,.int .i64 xn,.string xS,.slice xp xm xc,.int .i64 xl,.int .i64 xcl] TEx))
        obtain ⟨y0,-,-,-,y4,-⟩:=blk7 (HA.out.blk hb43)
        have g0:(w3.alloc (.cells #[.int .i64 xk,.int .i64 xo,.int .i64 xn,.string xS,.slice xp xm xc,.int .i64 xl,.int .i64 xcl] TEx)).frozen? ⟨B4,0,none⟩=false:=by simp [World.frozen?,HA.out.blk hb43]
        have g4:(w3.alloc (.cells #[.int .i64 xk,.int .i64 xo,.int .i64 xn,.string xS,.slice xp xm xc,.int .i64 xl,.int .i64 xcl] TEx)).frozen? ⟨B4,4,none⟩=false:=by simp [World.frozen?,HA.out.blk hb43]
        clear hex hr3 hk3 hb43 hnE
        go_upto_region 6 with fail
        obtain ⟨wc1,hwc1,hbc1,hkc1⟩:=box_put0 (HA.out.blk HB4W.out) (.int .i64 3)
        rw [←hwc1]
        obtain ⟨wc,hwc,hbc,hkc⟩:=box_put4 hbc1 (.slice (some ⟨w3.heap.size,0,none⟩) 1 1)
        rw [←hwc]
        have hn:=HNN.out
        have hG:=heap_alloc_new w3 (.cells #[.int .i64 xk,.int .i64 xo,.int .i64 xn,.string xS,.slice xp xm xc,.int .i64 xl,.int .i64 xcl] TEx)
        have hs3:=HKW3.out.size
        have hsy:=HSY.out
        have hkz:=hkc1.trans hkc
        have HBC:=hid hbc
        have HRC:=hid ((HRW.out.keep HA.out fun _ _ e=>e).keep hkz fun b hb e=>by have e:b=B4:=e;omega)
        have HKC:=hid (((HKY.out.trans HKW3.out).newM HA.out fun _ e=>e.elim).newE hkz fun b e=>by have e:b=B4:=e;omega)
        have HB2C:=hid (hkz.blkE (HA.out.blk (HKW3.out.blkE HB2Y.out fun e=>by have e:B2=R:=e;omega)) fun e=>by have e:B2=B4:=e;omega)
        have HEXC:=hid (show ExAt wc (fun b=>V.heap.size≤b) [.int .i64 3,.int .i64 0,.int .i64 0,.string SN,.slice (some ⟨w3.heap.size,0,none⟩) 1 1,.int .i64 tl,.int .i64 tc] (.mk 3 0 0 t.tok.text t.line t.col [x1]) from by
         unfold ExAt
         refine ⟨some ⟨w3.heap.size,0,none⟩,1,by rw [HTL.out.1,HTL.out.2.1,HSN.out];rfl,kids_one (vs:=[.int .i64 xk,.int .i64 xo,.int .i64 xn,.string xS,.slice xp xm xc,.int .i64 xl,.int .i64 xcl]) (hkz.blkE hG fun e=>by have e:w3.heap.size=B4:=e;omega) (show V.heap.size≤w3.heap.size by omega) (((HEX3.out.keep HA.out fun _ _ e=>e).keep hkz fun b hb e=>by have e:b=B4:=e;have hb:wy.heap.size≤b:=hb;omega).mono fun b hb=>by have hb:wy.heap.size≤b:=hb;omega)⟩)
        clear hwc1 hbc1 hkc1 hwc hbc hkc hn hG hs3 hsy hkz y0 y4 g0 g4
        have HMU:=hid (must1b HRC.out [93] r1 HH.out)
        rw [HB9.out,←HFL.out] at HMU
        go_wp2_with fail
        go_at_call 77
        refine HMU.out.mono ?_
        rintro e we ⟨rfl,hk3⟩
        have HKE:=hid (HKC.out.trans hk3)
        clear hk3
        go_wp2_with fail
        exact ⟨rfl,rfl,HKE.out⟩
      ·rw [if_neg h6] at hx;cases hx
     ·exact absurd ⟨Bool.eq_false_iff.2 HH1.out,Bool.eq_false_iff.2 HH2.out,Bool.eq_false_iff.2 HH3.out,h4,h5⟩ hg
theorem one_faults (R el ec:Nat):∀ (f:Nat) (w0:World),FaultsN 117 #[rdV R] (oneP f) (oneF f) f w0 R el ec
 | 0,_=>fun _ _ _ _ _ h=>absurd h (Nat.not_lt_zero _)
 | f+1,w0=>one_stepF R el ec f (one_reads R el ec f) (one_faults R el ec f) w0
/-- a whole expression gives up -/
theorem exP_faults (R el ec f:Nat) (w0:World):FaultsN 109 #[rdV R] (exP f) (exF f) f w0 R el ec:=expr_faults w0 R el ec (oneP f) (oneP_dec f) (one_reads R el ec f w0) (oneF f) f (one_faults R el ec f w0)
end Go.Proofs.YtknnmidnodeanaaGreatDoor
