import Derived.Test.YtknnmidnodeanaaGreatDoorJu13
set_option maxHeartbeats 32000000
set_option maxRecDepth 4000
namespace Go.Proofs.YtknnmidnodeanaaGreatDoor
open Go Go.RowKit Own
open Go.Lib (hid)
abbrev TNd:TypeId:=136
abbrev nd (a b c:Bool)(n:Int)(d e:Bool):Array Value:=#[.bool a,.bool b,.bool c,.int .i64 n,.bool d,.bool e]
def needV (k op:Int):Array Value:=
 if k=1∨k=3 then nd true false false 1 false false
 else if k=2 then nd true true false 0 false false
 else if k=4 then nd true false false 2 false false
 else if k=5 then nd false false false 1 true true
 else if k=6 then nd false false false 1 true false
 else if k=9 then (if op=2∨op=4 then nd false false true 0 false false else nd false false true 1 false false)
 else nd false false false 1 false false
theorem put6 {w:World}{B:Nat}{a b c d e f:Value}{T:TypeId}(h:w.heap[B]?=some (.cells #[a,b,c,d,e,f] T (0,0)))(v0 v1 v2 v3 v4 v5:Value):
  ∃wf,wf=(((((w.setCell ⟨B,0,none⟩ v0).setCell ⟨B,1,none⟩ v1).setCell ⟨B,2,none⟩ v2).setCell ⟨B,3,none⟩ v3).setCell ⟨B,4,none⟩ v4).setCell ⟨B,5,none⟩ v5∧wf.heap[B]?=some (.cells #[v0,v1,v2,v3,v4,v5] T (0,0))∧BA (fun k=>k=B) w wf:=by
 refine⟨_,rfl,?_,?_⟩
 ·have h0:=put1 (i:=0) h v0;simp only[List.setIfInBounds_toArray,List.set_cons_zero]at h0;have h1:=put1 (i:=1) h0 v1;simp only[LS]at h1;have h2:=put1 (i:=2) h1 v2;simp only[LS]at h2;have h3:=put1 (i:=3) h2 v3;simp only[LS]at h3;have h4:=put1 (i:=4) h3 v4;simp only[LS]at h4;have h5:=put1 (i:=5) h4 v5;simp only[LS]at h5;exact h5
 ·have s:=fun (w:World) (i:Nat) (v:Value)=>BA.setCell (E:=fun k=>k=B) w ⟨B,i,none⟩ v rfl;exact(((((s _ _ _).trans (s _ _ _)).trans (s _ _ _)).trans (s _ _ _)).trans (s _ _ _)).trans (s _ _ _)
theorem frz6 {w:World}{B:Nat}{a b c d e f:Value}{T:TypeId}(h:w.heap[B]?=some (.cells #[a,b,c,d,e,f] T (0,0)))(n:Nat):w.frozen? ⟨B,n,none⟩=false:=by simp[World.frozen?,h]
theorem needs_any (w:World)(k op:Int)(v1 v2 v4 v5 v6 v7 v8 v9 v10 v11:Value):
  Calls Tryz.prog 89 #[.agg #[.int .i64 k,v1,v2,.int .i64 op,v4,v5,v6,v7,v8,v9,v10,v11]] w fun e w'=>e=.returned (.agg (needV k op))∧BA (fun _=>False) w w':=by
 obtain⟨V1,B1,hV1,hB1,hb1,hk1,hs1⟩:=BD w (.cells #[.int .i64 k,v1,v2,.int .i64 op,v4,v5,v6,v7,v8,v9,v10,v11] TSm);obtain⟨V,B2,hV,hB2,hb2,hk2,hs2⟩:=BD V1 (.cells (nd false false false 0 false false) TNd);have HK:=hid (hk1.trans hk2);have HB2:=hid hb2;have HTK:=hid (fun w'=>DV op w');have HN:=hid (show w.heap.size≤B2 by omega);obtain⟨n0,n1,n2,n3,n4,n5,n6,n7,n8,n9,n10,n11⟩:=BK (hk2.blk hb1);obtain⟨m0,m1,m2,m3,m4,m5,-⟩:=blk6 hb2;have f0:=frz6 hb2 0;have f1:=frz6 hb2 1;have f2:=frz6 hb2 2;have f3:=frz6 hb2 3;have f4:=frz6 hb2 4;have f5:=frz6 hb2 5;have h12:B1+1=B2:=by omega
 clear hb1 hb2 hk1 hk2 hs1 hs2;unfold nd at hV HB2;obtain⟨N,hN⟩:∃N,needV k op=N:=⟨_,rfl⟩;rw[hN];unfold needV nd at hN;have HNV:=hid hN;clear hN;go_enter Tryz.func89,Tryz.ntmps89;go_upto_region 1 with fail;rw[←hV1,←hB1,←hV,h12];clear hV1 hB1 hV hB2 h12;by_cases h1:k=1
 ·subst h1;go_wp2_with fail;obtain⟨wf,hwf,hp,hkp⟩:=put6 HB2.out (.bool true) (.bool false) (.bool false) (.int .i64 1) (.bool false) (.bool false);rw[←hwf];obtain⟨c0,c1,c2,c3,c4,c5,-⟩:=blk6 hp;exact bodyPost_ret (v:=.agg #[.bool true,.bool false,.bool false,.int .i64 1,.bool false,.bool false]) (by simp[results,Tryz.results89,go_sem,c0,c1,c2,c3,c4,c5]) rfl ⟨by rw[←HNV.out];simp,HK.out.newE hkp fun b e=>by have e:b=B2:=e;have:=HN.out;omega⟩
 have h1b:(k==1)=false:=by rw[BF];exact h1
 by_cases h3:k=3
 ·subst h3;go_wp2_with fail;obtain⟨wf,hwf,hp,hkp⟩:=put6 HB2.out (.bool true) (.bool false) (.bool false) (.int .i64 1) (.bool false) (.bool false);rw[←hwf];obtain⟨c0,c1,c2,c3,c4,c5,-⟩:=blk6 hp;exact bodyPost_ret (v:=.agg #[.bool true,.bool false,.bool false,.int .i64 1,.bool false,.bool false]) (by simp[results,Tryz.results89,go_sem,c0,c1,c2,c3,c4,c5]) rfl ⟨by rw[←HNV.out];simp,HK.out.newE hkp fun b e=>by have e:b=B2:=e;have:=HN.out;omega⟩
 have h3b:(k==3)=false:=by rw[BF];exact h3
 by_cases h2:k=2
 ·subst h2;go_wp2_with fail;obtain⟨wf,hwf,hp,hkp⟩:=put6 HB2.out (.bool true) (.bool true) (.bool false) (.int .i64 0) (.bool false) (.bool false);rw[←hwf];obtain⟨c0,c1,c2,c3,c4,c5,-⟩:=blk6 hp;exact bodyPost_ret (v:=.agg #[.bool true,.bool true,.bool false,.int .i64 0,.bool false,.bool false]) (by simp[results,Tryz.results89,go_sem,c0,c1,c2,c3,c4,c5]) rfl ⟨by rw[←HNV.out];simp,HK.out.newE hkp fun b e=>by have e:b=B2:=e;have:=HN.out;omega⟩
 have h2b:(k==2)=false:=by rw[BF];exact h2
 by_cases h4:k=4
 ·subst h4;go_wp2_with fail;obtain⟨wf,hwf,hp,hkp⟩:=put6 HB2.out (.bool true) (.bool false) (.bool false) (.int .i64 2) (.bool false) (.bool false);rw[←hwf];obtain⟨c0,c1,c2,c3,c4,c5,-⟩:=blk6 hp;exact bodyPost_ret (v:=.agg #[.bool true,.bool false,.bool false,.int .i64 2,.bool false,.bool false]) (by simp[results,Tryz.results89,go_sem,c0,c1,c2,c3,c4,c5]) rfl ⟨by rw[←HNV.out];simp,HK.out.newE hkp fun b e=>by have e:b=B2:=e;have:=HN.out;omega⟩
 have h4b:(k==4)=false:=by rw[BF];exact h4
 by_cases h5:k=5
 ·subst h5;go_wp2_with fail;obtain⟨wf,hwf,hp,hkp⟩:=put6 HB2.out (.bool false) (.bool false) (.bool false) (.int .i64 1) (.bool true) (.bool true);rw[←hwf];obtain⟨c0,c1,c2,c3,c4,c5,-⟩:=blk6 hp;exact bodyPost_ret (v:=.agg #[.bool false,.bool false,.bool false,.int .i64 1,.bool true,.bool true]) (by simp[results,Tryz.results89,go_sem,c0,c1,c2,c3,c4,c5]) rfl ⟨by rw[←HNV.out];simp,HK.out.newE hkp fun b e=>by have e:b=B2:=e;have:=HN.out;omega⟩
 have h5b:(k==5)=false:=by rw[BF];exact h5
 by_cases h6:k=6
 ·subst h6;go_wp2_with fail;obtain⟨wf,hwf,hp,hkp⟩:=put6 HB2.out (.bool false) (.bool false) (.bool false) (.int .i64 1) (.bool true) (.bool false);rw[←hwf];obtain⟨c0,c1,c2,c3,c4,c5,-⟩:=blk6 hp;exact bodyPost_ret (v:=.agg #[.bool false,.bool false,.bool false,.int .i64 1,.bool true,.bool false]) (by simp[results,Tryz.results89,go_sem,c0,c1,c2,c3,c4,c5]) rfl ⟨by rw[←HNV.out];simp,HK.out.newE hkp fun b e=>by have e:b=B2:=e;have:=HN.out;omega⟩
 have h6b:(k==6)=false:=by rw[BF];exact h6
 by_cases h9:k=9
 ·subst h9;by_cases ht:op=2∨op=4
  ·have hb:((op==2) || (op==4))=true:=by rcases ht with h|h<;>subst h<;>rfl
   have HTK:=hid (fun w'=>by have h:=HTK.out w';rw[hb]at h;exact h);go_wp2_with (go_at_call 90;refine(HTK.out _).mono ?_;rintro e w5 ⟨rfl,rfl⟩);obtain⟨wf,hwf,hp,hkp⟩:=put6 HB2.out (.bool false) (.bool false) (.bool true) (.int .i64 0) (.bool false) (.bool false);rw[←hwf];obtain⟨c0,c1,c2,c3,c4,c5,-⟩:=blk6 hp;exact bodyPost_ret (v:=.agg #[.bool false,.bool false,.bool true,.int .i64 0,.bool false,.bool false]) (by simp[results,Tryz.results89,go_sem,c0,c1,c2,c3,c4,c5]) rfl ⟨by rw[←HNV.out];simp[ht],HK.out.newE hkp fun b e=>by have e:b=B2:=e;have:=HN.out;omega⟩
  ·have hb:((op==2) || (op==4))=false:=by rw[Bool.or_eq_false_iff,BF,BF];omega
   have HTK:=hid (fun w'=>by have h:=HTK.out w';rw[hb]at h;exact h);go_wp2_with (go_at_call 90;refine(HTK.out _).mono ?_;rintro e w5 ⟨rfl,rfl⟩);obtain⟨wf,hwf,hp,hkp⟩:=put6 HB2.out (.bool false) (.bool false) (.bool true) (.int .i64 1) (.bool false) (.bool false);rw[←hwf];obtain⟨c0,c1,c2,c3,c4,c5,-⟩:=blk6 hp;exact bodyPost_ret (v:=.agg #[.bool false,.bool false,.bool true,.int .i64 1,.bool false,.bool false]) (by simp[results,Tryz.results89,go_sem,c0,c1,c2,c3,c4,c5]) rfl ⟨by rw[←HNV.out];simp[ht],HK.out.newE hkp fun b e=>by have e:b=B2:=e;have:=HN.out;omega⟩
 have h9b:(k==9)=false:=by rw[BF];exact h9
 go_wp2_with fail;obtain⟨wf,hwf,hp,hkp⟩:=put6 HB2.out (.bool false) (.bool false) (.bool false) (.int .i64 1) (.bool false) (.bool false);rw[←hwf];obtain⟨c0,c1,c2,c3,c4,c5,-⟩:=blk6 hp;exact bodyPost_ret (v:=.agg #[.bool false,.bool false,.bool false,.int .i64 1,.bool false,.bool false]) (by simp[results,Tryz.results89,go_sem,c0,c1,c2,c3,c4,c5]) rfl ⟨by rw[←HNV.out];simp[h1,h2,h3,h4,h5,h6,h9],HK.out.newE hkp fun b e=>by have e:b=B2:=e;have:=HN.out;omega⟩
end Go.Proofs.YtknnmidnodeanaaGreatDoor
