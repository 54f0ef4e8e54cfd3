/- Joined texts of this work: Sa2, Sa3, Sa4. -/
import Derived.Test.YtomlffobbkcmdaaGreatDoorJq17
import Derived.Test.YtomlffobbkcmdaaGreatDoorJq10
/-
  Package parse: a call, from its operation on.
-/
namespace Go.Proofs.YtomlffobbkcmdaaGreatDoor
open Go Go.RowKit Own
open Go.Lib (hid)
/-- a statement's cells, the slices apart -/
def stC (k sz op:Int) (nm val into cont:List UInt8) (ex:Value) (l cl:Int):Array Value:=#[.int .i64 k,.string ⟨nm.toArray⟩,.int .i64 sz,.int .i64 op,.string ⟨val.toArray⟩,.string ⟨into.toArray⟩,.string ⟨cont.toArray⟩,ex,.slice none 0 0,.slice none 0 0,.int .i64 l,.int .i64 cl]
theorem callP_some {f:Nat} {value:List UInt8} {ts:List Item} {op:Nat} {c:List UInt8} {xs:List Ex} {r:List Item} (h:callP f value ts=some ((op,c,xs),r)):
  ∃ t r0 r1 tc r2,ts=t::r0∧ofL opL t.tok.text=op∧op≠0∧t.tok.kind=1∧((op=2∨op=4)↔value≠[])∧mustT [[40]] r0=some r1∧r1=tc::r2∧tc.tok.kind=2∧tc.tok.text=c∧
   (((op=2∨op=4)∧mustT [[41],[59]] r2=some r∧xs=[])∨(¬(op=2∨op=4)∧∃ r3 x r4,mustT [[44]] r2=some r3∧exP f r3=some (x,r4)∧mustT [[41],[59]] r4=some r∧xs=[x])):=by
 unfold callP at h
 cases ts with
 | nil=>cases h
 | cons t r0=>
  dsimp only at h
  split at h
  ·cases h
  ·rename_i hc
   have hc1:ofL opL t.tok.text≠0:=fun e=>hc (.inl e)
   have hc2:t.tok.kind=1:=Classical.byContradiction fun e=>hc (.inr (.inl e))
   have hc3:((ofL opL t.tok.text=2∨ofL opL t.tok.text=4)=(value≠[])):=Classical.byContradiction fun e=>hc (.inr (.inr e))
   split at h
   ·cases h
   ·rename_i r1 hm
    cases r1 with
    | nil=>cases h
    | cons tc r2=>
     unfold wantT at h
     dsimp only at h
     by_cases hk:tc.tok.kind=2
     ·rw [if_pos hk] at h
      dsimp only at h
      by_cases ht:ofL opL t.tok.text=2∨ofL opL t.tok.text=4
      ·rw [if_pos ht] at h
       split at h
       ·cases h
       ·rename_i hm2
        cases h
        exact ⟨t,r0,_,tc,r2,rfl,rfl,hc1,hc2,by rw [←hc3],hm,rfl,hk,rfl,.inl ⟨ht,hm2,rfl⟩⟩
      ·rw [if_neg ht] at h
       split at h
       ·cases h
       ·rename_i r3 hm2
        split at h
        ·cases h
        ·rename_i x r4 hx
         split at h
         ·cases h
         ·rename_i hm3
          cases h
          exact ⟨t,r0,_,tc,r2,rfl,rfl,hc1,hc2,by rw [←hc3],hm,rfl,hk,rfl,.inr ⟨ht,r3,x,r4,hm2,hx,hm3,rfl⟩⟩
     ·rw [if_neg hk] at h
      cases h
theorem ofL_lt (s:List UInt8):ofL opL s<8:=by
 unfold ofL
 split
 ·decide
 ·split
  ·rename_i h
   exact List.idxOf_lt_length_iff.2 (by simpa using h)
  ·decide
set_option maxRecDepth 4000 in
set_option maxHeartbeats 32000000 in
theorem call_reads (w:World) (R el ec f Bs:Nat) (its r:List Item) (value into nm c:List UInt8) (op:Nat) (xs:List Ex) (k0 sz op0 l cl:Int) (cont0:List UInt8) (hr:ReaderAt w R its el ec) (hB:w.heap[Bs]?=some (.cells (stC k0 sz op0 nm value into cont0 (.slice none 0 0) l cl) TSm (0,0))) (hRB:R<Bs) (hx:callP f value its=some ((op,c,xs),r)):
  Calls Tryz.prog 131 #[rdV R,.pointer (some ⟨Bs,0,none⟩)] w fun e w'=>e=.returned (.tuple #[])∧ReaderAt w' R r el ec∧KeepBut (fun b=>b=R∨b=Bs) w w'∧∃ p cap,w'.heap[Bs]?=some (.cells (stC 9 sz op nm value into c (.slice p xs.length cap) l cl) TSm (0,0))∧KidsAt w' (fun b=>w.heap.size≤b) p 0 xs:=by
 obtain ⟨t,r0,r1,tc,r2,rfl,hop,hop0,hkd,htk,hm1,rfl,hkc,rfl,hrest⟩:=callP_some hx
 have hop8:op<8:=by rw [←hop];exact ofL_lt _
 clear hx
 have HRB:=hid hRB;have HR0:=hid hr
 unfold stC at hB ⊢
 have HB0:=hid hB
 have HN0:=hid (show Bs<w.heap.size from (Array.getElem?_eq_some_iff.1 hB).1)
 obtain ⟨T,hT⟩:∃ T,t.tok.text=T:=⟨_,rfl⟩
 obtain ⟨tn,htn⟩:∃ n:Int,(t.tok.num:Int)=n:=⟨_,rfl⟩
 obtain ⟨tl,htl⟩:∃ n:Int,(t.line:Int)=n:=⟨_,rfl⟩
 obtain ⟨tcl,htcl⟩:∃ n:Int,(t.col:Int)=n:=⟨_,rfl⟩
 obtain ⟨C,hC⟩:∃ C,tc.tok.text=C:=⟨_,rfl⟩
 rw [hC]
 rw [hT] at hop
 have HOP:=hid hop;have HM1:=hid hm1;have HKC:=hid hkc;have HCC:=hid hC;have HREST:=hid hrest;have HTK:=hid htk
 have HWD:=hid (words_any w)
 have HPK:=hid (fun W (h:ReaderAt W R (t::r0) el ec)=>by have h:=peek_cons h;rw [hkd,hT,htn,htl,htcl] at h;exact h)
 clear hr hB hRB hop hm1 hkc hC hrest htk hT htn htl htcl hkd
 unfold opsV at HWD
 go_enter Tryz.func131,Tryz.ntmps131
 go_wp2_with fail
 go_at_call 126
 refine HWD.out.mono ?_
 rintro e w1 ⟨rfl,hk1⟩
 obtain ⟨W1,B4,hW1,hB4,hb4,hk4,hs4⟩:=fresh_block w1 (.cells opsV 173)
 have hkw:=hk1.trans hk4
 have HK1:=hid hkw;have HB4:=hid hb4;have HR1:=hid (HR0.out.keep hkw fun _ _ e=>e);have HB1:=hid (hkw.blk HB0.out)
 have HN4:=hid (show Bs<B4 by have:=HN0.out;have:=hk1.size;omega)
 unfold opsV at hW1 HB4
 clear hk1 hk4 hkw hb4 hs4
 go_upto_region 1 with fail
 rw [←hW1,←hB4]
 clear hW1 hB4
 have HPK1:=hid (HPK.out W1 HR1.out)
 go_wp2_with fail
 go_at_call 74
 refine HPK1.out.mono ?_
 rintro e w2 ⟨rfl,hk2⟩
 obtain ⟨W2,B5,hW2,hB5,hb5,hk5,hs5⟩:=fresh_block w2 (.cells #[.int .i64 1,.string ⟨T.toArray⟩,.int .i64 tn,.int .i64 tl,.int .i64 tcl] TTk)
 have hkw:=hk2.trans hk5
 have HK2:=hid (HK1.out.trans hkw);have HB5:=hid hb5;have HB42:=hid (hkw.blk HB4.out);have HR2:=hid (HR1.out.keep hkw fun _ _ e=>e);have HB2:=hid (hkw.blk HB1.out)
 have HN5:=hid (show Bs<B5 by have:=(Array.getElem?_eq_some_iff.1 (hk2.blk HB1.out)).1;omega)
 clear hk2 hk5 hkw hb5 hs5
 go_upto_region 2 with fail
 rw [←hW2,←hB5]
 clear hW2 hB5
 obtain ⟨y1,y2,y3,y4,y5,-⟩:=blk5 HB5.out
 have cc:=fun w' (h:KeepBut (fun b=>b=Bs) W2.drew w')=>((KeepBut.drew _ W2).trans h).cell y2 (by have:=HN5.out;show ¬B5=Bs;omega)
 have HOF:=hid (fun w' (h:KeepBut (fun b=>b=Bs) W2.drew w')=>of_any opL (by decide) B4 0 8 w' (fun j hj=>by
  have hb:=((KeepBut.drew (fun b=>b=Bs) W2).trans h).blkE HB42.out (by have:=HN4.out;show ¬B4=Bs;omega)
  rw [Nat.zero_add]
  refine blk_cell hb ?_
  have hj8:j<8:=hj
  have key:j=0∨j=1∨j=2∨j=3∨j=4∨j=5∨j=6∨j=7:=by omega
  rcases key with rfl | rfl | rfl | rfl | rfl | rfl | rfl | rfl <;> rfl) T)
 rw [HOP.out] at HOF
 refine wp_own1 (by kernel_rfl) Bs _ HB2.out (fun i=>[[],[],[],[],[3],[2,3,4],[0,2,3,4,5],[0,2,3,4,5,6],[0,2,3,4,5,6,7],[0,1,2,3,4,5,6,7,8],[0,1,2,3,4,5,6,7,8,9],[0,1,2,3,4,5,6,7,8,9,10]].getD i []) (fun i=>if i=8 then [12] else if i=11 then [8] else []) (fun i=>if i=8 then [12] else if i=11 then [8] else []) [11] (by kernel_rfl)
  (fun i=>if i=5 then some (sConst (.int .i64 op)) else if i=8 then some (sCell Bs 0 TSm (stC k0 sz op0 nm value into cont0 (.slice none 0 0) l cl) (.int .i64 9)) else if i=11 then some (sCell Bs 3 TSm (stC 9 sz op0 nm value into cont0 (.slice none 0 0) l cl) (.int .i64 op)) else none) ?_
 apply lex_quiet rfl rfl
 ·intro w' hk;go_simp;with_reducible rfl
 simp only [Act.put,LS]
 apply lex_quiet rfl rfl
 ·intro w' hk;go_simp;with_reducible rfl
 simp only [Act.put,LS]
 apply lex_quiet rfl rfl
 ·intro w' hk;go_simp;with_reducible rfl
 simp only [Act.put,LS]
 apply lex_quiet rfl rfl
 ·intro w' hk;go_simp;with_reducible rfl
 simp only [Act.put,LS]
 apply lex_quiet rfl rfl
 ·intro w' hk;have e2:=cc w' hk;go_simp;with_reducible rfl
 simp only [Act.put,LS]
 refine lex_loud rfl rfl (loud_call 78 #[.slice (some ⟨B4,0,none⟩) 8 8,.string ⟨T.toArray⟩] (fun w=>by kernel_rfl) ⟨default,trivial⟩ (fun g _=>stable_true _) fun w' hk _ _=>(HOF.out w' hk).mono ?_) fun gs _=>?_
 ·rintro e w'' ⟨rfl,rfl⟩
  exact ⟨default,trivial,rfl,KeepBut.refl _ _,fun b h=>h.elim,trivial⟩
 simp only [sConst,Act.put,LS]
 apply lex_quiet rfl rfl
 ·intro w' hk;go_simp;with_reducible rfl
 simp only [Act.put,LS]
 apply lex_quiet rfl rfl
 ·intro w' hk;go_simp;with_reducible rfl
 simp only [Act.put,LS]
 refine lex_loud rfl rfl (loud_cell Bs 0 TSm _ _ (fun w u hc hf=>by go_simp <;> rfl) 12 (by decide) (by decide) (fun w h=>h) ⟨rfl,rfl⟩ (by show 0<12;decide)) fun g8 _=>?_
 simp only [Act.put]
 apply lex_quiet rfl rfl
 ·intro w' hk;go_simp;with_reducible rfl
 simp only [Act.put,LS]
 apply lex_quiet rfl rfl
 ·intro w' hk;go_simp;with_reducible rfl
 simp only [Act.put,LS]
 refine lex_loud rfl rfl (loud_cell Bs 3 TSm _ _ (fun w u hc hf=>by go_simp <;> rfl) 8 (by decide) (by decide) (fun w h=>h) rfl (by show 3<12;decide)) fun g11 _=>?_
 simp only [Act.put]
 refine lex_nil ?_
 intro W3 hk9 hF _
 have hb3:W3.heap[Bs]?=some (.cells (stC 9 sz op nm value into cont0 (.slice none 0 0) l cl) TSm (0,0)):=(hF 11 (by decide)).1
 unfold stC at hb3
 have hk:=(KeepBut.drew (fun b=>b=Bs) W2).trans hk9
 have HB3:=hid hb3;have HR3:=hid (HR2.out.keep hk fun b hb e=>by have e:b=Bs:=e;have:=HRB.out;omega)
 have HK3:=hid (show KeepBut (fun b=>b=R∨b=Bs) w W3 from (HK2.out.mono fun _ e=>e.elim).trans (hk.mono fun _ e=>.inr e))
 have HB53:=hid (hk.blkE HB5.out (by have:=HN5.out;show ¬B5=Bs;omega))
 clear hF hk hk9 cc hb3 y1 y2 y3 y4 y5
 go_upto_region 3 with fail
 have hop0b:((op:Int)==0)=false:=by rw [beq_eq_false_iff_ne];omega
 obtain ⟨n0,n1,n2,n3,n4,n5,n6,n7,n8,n9,n10,n11⟩:=blk12 HB3.out
 obtain ⟨y1,-⟩:=blk5 HB53.out
 have d3:=fun w' (h:KeepBut (fun _=>False) W3.drew w')=>((KeepBut.drew _ W3).trans h).stay n3
 have d4:=fun w' (h:KeepBut (fun _=>False) W3.drew w')=>((KeepBut.drew _ W3).trans h).stay n4
 have dk:=fun w' (h:KeepBut (fun _=>False) W3.drew w')=>((KeepBut.drew _ W3).trans h).stay y1
 clear n0 n1 n2 n3 n4 n5 n6 n7 n8 n9 n10 n11 y1
 by_cases htake:op=2∨op=4
 ·have hval:=HTK.out.1 htake
  have hvb:(value==[])=false:=beq_eq_false_iff_ne.2 hval
  have hvn:(value != [])=true:=by rw [bne_iff_ne];exact hval
  have hve:value.isEmpty=false:=by simpa using hval
  have htb:(((op:Int)==2) || ((op:Int)==4))=true:=by rcases htake with rfl | rfl <;> rfl
  have HTB:=hid (fun w'=>takes_any (op:Int) w')
  rw [htb] at HTB
  clear hval
  refine wp_own0 (by kernel_rfl) (fun i=>[[],[0],[0,1],[0,1,2],[0,1,2,3],[0,1,2,3,4],[0,1,2,3,4,5],[0,1,2,3,4,5,6],[0,1,2,3,4,5,6,7],[0,1,2,3,4,5,6,7,8],[0,1,2,3,4,5,6,7,8,9],[0,1,2,3,4,5,6,7,8,9,10],[0,1,2,3,4,5,6,7,8,9,10,11],[0,1,2,3,4,5,6,7,8,9,10,11,12],[0,1,2,3,4,5,6,7,8,9,10,11,12,13],[0,1,2,3,4,5,6,7,8,9,10,11,12,13,14],[0,1,2,3,4,5,6,7,8,9,10],[0,1,2,3,4,5,6,7,8,9,10,16],[0,1,2,3,4,5,6,7,8,9,10,16,17],[0,1,2,3,4,5,6,7,8,9,10,16,17,18],[0,1,2,3,4,5,6,7,8,9,10,16,17,18,19],[0,1,2,3,4,5,6,7,8,9,10,11,12,13,14,15,16,17,18,19,20],[0,1,2,3,4,5,6,7,8,9,10,11,12,13,14,15,16,17,18,19,20,21]].getD i []) (fun _=>[]) (fun _=>[]) [] (by kernel_rfl) (fun i=>if i=15 then some (sConst (.bool true)) else none) ?_
  apply lex_quiet rfl rfl
  ·intro w' hk;go_simp;with_reducible rfl
  simp only [Act.put,LS]
  apply lex_quiet rfl rfl
  ·intro w' hk;go_simp;with_reducible rfl
  simp only [Act.put,LS]
  apply lex_quiet rfl rfl
  ·intro w' hk;go_simp;with_reducible rfl
  simp only [Act.put,LS]
  apply lex_quiet rfl rfl
  ·intro w' hk;have e3:=d3 w' hk;go_simp;with_reducible rfl
  simp only [Act.put,LS]
  apply lex_quiet rfl rfl
  ·intro w' hk;go_simp;with_reducible rfl
  simp only [Act.put,LS]
  apply lex_quiet rfl rfl
  ·intro w' hk;go_simp;with_reducible rfl
  simp only [Act.put,LS]
  apply lex_quiet rfl rfl
  ·intro w' hk;go_simp;with_reducible rfl
  simp only [Act.put,LS]
  apply lex_quiet rfl rfl
  ·intro w' hk;have e5:=dk w' hk;go_simp;with_reducible rfl
  simp only [Act.put,LS]
  apply lex_quiet rfl rfl
  ·intro w' hk;go_simp;with_reducible rfl
  simp only [Act.put,LS]
  apply lex_quiet rfl rfl
  ·intro w' hk;go_simp;with_reducible rfl
  simp only [Act.put,LS]
  apply lex_quiet rfl rfl
  ·intro w' hk;go_simp;with_reducible rfl
  simp only [Act.put,LS]
  apply lex_quiet rfl rfl
  ·intro w' hk;go_simp;with_reducible rfl
  simp only [Act.put,LS]
  apply lex_quiet rfl rfl
  ·intro w' hk;go_simp;with_reducible rfl
  simp only [Act.put,LS]
  apply lex_quiet rfl rfl
  ·intro w' hk;go_simp;with_reducible rfl
  simp only [Act.put,LS]
  apply lex_quiet rfl rfl
  ·intro w' hk;have e3:=d3 w' hk;go_simp;with_reducible rfl
  simp only [Act.put,LS]
  refine lex_loud rfl rfl (loud_call 113 #[.int .i64 op] (fun w=>by kernel_rfl) ⟨default,trivial⟩ (fun g _=>stable_true _) fun w' hk _ _=>(HTB.out w').mono ?_) fun gs _=>?_
  ·rintro e w'' ⟨rfl,rfl⟩
   exact ⟨default,trivial,rfl,KeepBut.refl _ _,fun b h=>h.elim,trivial⟩
  simp only [sConst,Act.put,LS]
  apply lex_quiet rfl rfl
  ·intro w' hk;go_simp;with_reducible rfl
  simp only [Act.put,LS]
  apply lex_quiet rfl rfl
  ·intro w' hk;go_simp;with_reducible rfl
  simp only [Act.put,LS]
  apply lex_quiet rfl rfl
  ·intro w' hk;go_simp;with_reducible rfl
  simp only [Act.put,LS]
  apply lex_quiet rfl rfl
  ·intro w' hk;have e4:=d4 w' hk;go_simp;with_reducible rfl
  simp only [Act.put,LS]
  apply lex_quiet rfl rfl
  ·intro w' hk;go_simp;with_reducible rfl
  simp only [Act.put,LS]
  apply lex_quiet rfl rfl
  ·intro w' hk;go_simp;with_reducible rfl
  simp only [Act.put,LS]
  apply lex_quiet rfl rfl
  ·intro w' hk;go_simp;with_reducible rfl
  simp only [Act.put,LS]
  refine lex_nil ?_
  intro W4 hk9 _ _
  have hk:=(KeepBut.drew (fun _=>False) W3).trans hk9
  have HB4:=hid (hk.blk HB3.out);have HR4:=hid (HR3.out.keep hk fun _ _ e=>e);have HK4:=hid (HK3.out.trans (hk.mono fun _ e=>e.elim))
  clear hk hk9 d3 d4 dk
  go_upto_region 5 with fail
  have hne:r0.length≠0:=fun e=>by
   have h:=HM1.out
   rw [List.eq_nil_of_length_eq_zero e] at h
   cases h
  obtain ⟨g,o,cR,h1,h2,⟨h3,hg⟩,-,htk⟩:=HR4.out.took
  have HTK2:=hid htk;have HG:=hid hg;have H23:=hid (And.intro h2 h3)
  obtain ⟨b0,-,-,-,-,-,f0⟩:=blk6 h1
  have hc:¬cR=1:=by omega
  clear h1 htk hg h3
  go_upto_region 6 with fail
  obtain ⟨W5,hW,hk⟩:∃ W5,W5=W4.setCell ⟨R,0,none⟩ (.slice (some ⟨g,o+5,none⟩) r0.length (cR - 1))∧KeepBut (fun b=>b=R) W4 W5:=⟨_,rfl,KeepBut.setCell _ _ _ rfl⟩
  rw [←hW]
  have hr:ReaderAt W5 R r0 el ec:=by rw [hW];exact HTK2.out (some ⟨g,o+5,none⟩) (cR - 1) (.inr rfl) (fun a ha=>by cases ha;exact HG.out) (by have:=H23.out;omega) (by have:=H23.out;omega)
  have HB5:=hid (hk.blkE HB4.out fun e=>by have e:Bs=R:=e;have:=HRB.out;omega);have HR5:=hid hr;have HK5:=hid (HK4.out.trans (hk.mono fun _ e=>.inl e))
  clear hr hk
  clear hW b0 f0 hc hne h2
  have HQ:=hid (must1 HR5.out [40] _ HM1.out)
  go_wp2_with fail
  go_at_call 76
  refine HQ.out.mono ?_
  rintro e W6 ⟨rfl,hr,hk⟩
  have HB6:=hid (hk.blkE HB5.out fun e=>by have e:Bs=R:=e;have:=HRB.out;omega);have HR6:=hid hr;have HK6:=hid (HK5.out.trans (hk.mono fun _ e=>.inl e))
  clear hr hk
  have HNM:=hid (by have h:=name_str HR6.out HKC.out;rw [HCC.out] at h;exact h)
  obtain ⟨n0,n1,n2,n3,n4,n5,n6,n7,n8,n9,n10,n11⟩:=blk12 HB6.out
  have f6:=frz12 HB6.out 6
  clear n0 n1 n2 n3 n4 n5 n6 n7 n8 n9 n10 n11 f6
  go_wp2_with fail
  go_at_call 79
  refine HNM.out.mono ?_
  rintro e W7 ⟨rfl,hr,hk⟩
  have HB7:=hid (hk.blkE HB6.out fun e=>by have e:Bs=R:=e;have:=HRB.out;omega);have HR7:=hid hr;have HK7:=hid (HK6.out.trans (hk.mono fun _ e=>.inl e))
  clear hr hk
  obtain ⟨n0,n1,n2,n3,n4,n5,n6,n7,n8,n9,n10,n11⟩:=blk12 HB7.out
  have f6:=frz12 HB7.out 6
  go_upto_region 8 with fail
  clear n0 n1 n2 n3 n4 n5 n6 n7 n8 n9 n10 n11 f6
  obtain ⟨W8,hW,hb,hk⟩:=s_put6 HB7.out (.string ⟨C.toArray⟩)
  rw [←hW]
  have HB8:=hid hb;have HR8:=hid (HR7.out.keep hk fun b hb e=>by have e:b=Bs:=e;have:=HRB.out;omega);have HK8:=hid (HK7.out.trans (hk.mono fun _ e=>.inr e))
  clear hW hb hk
  obtain ⟨n0,n1,n2,n3,n4,n5,n6,n7,n8,n9,n10,n11⟩:=blk12 HB8.out
  go_wp2_with fail
  go_at_call 113
  refine (HTB.out W8).mono ?_
  rintro e W9 ⟨rfl,rfl⟩
  clear n0 n1 n2 n3 n4 n5 n6 n7 n8 n9 n10 n11
  obtain ⟨-,hm2,rfl⟩:=HREST.out.resolve_right (fun h=>h.1 htake)
  have HM2:=hid hm2
  clear hm2
  have HQ:=hid (must2 HR8.out [41] [59] _ HM2.out)
  go_wp2_with fail
  go_at_call 76
  refine HQ.out.mono ?_
  rintro e W10 ⟨rfl,hr,hk⟩
  have HB10:=hid (hk.blkE HB8.out fun e=>by have e:Bs=R:=e;have:=HRB.out;omega);have HR10:=hid hr;have HK10:=hid (HK8.out.trans (hk.mono fun _ e=>.inl e))
  clear hr hk
  go_wp2_with fail
  go_end0
  exact ⟨rfl,HR10.out,HK10.out,none,0,HB10.out,by unfold KidsAt;trivial⟩
 ·have hval:value=[]:=Classical.byContradiction fun e=>htake (HTK.out.2 e)
  subst hval
  have htb:(((op:Int)==2) || ((op:Int)==4))=false:=by
   rw [Bool.or_eq_false_iff,beq_eq_false_iff_ne,beq_eq_false_iff_ne]
   omega
  have HTB:=hid (fun w'=>takes_any (op:Int) w')
  rw [htb] at HTB
  refine wp_own0 (by kernel_rfl) (fun i=>[[],[0],[0,1],[0,1,2],[0,1,2,3],[0,1,2,3,4],[0,1,2,3,4,5],[0,1,2,3,4,5,6],[0,1,2,3,4,5,6,7],[0,1,2,3,4,5,6,7,8],[0,1,2,3,4,5,6,7,8,9],[0,1,2,3,4,5,6,7,8,9,10],[0,1,2,3,4,5,6,7,8,9,10,11],[0,1,2,3,4,5,6,7,8,9,10,11,12],[0,1,2,3,4,5,6,7,8,9,10,11,12,13],[0,1,2,3,4,5,6,7,8,9,10,11,12,13,14],[0,1,2,3,4,5,6,7,8,9,10],[0,1,2,3,4,5,6,7,8,9,10,16],[0,1,2,3,4,5,6,7,8,9,10,16,17],[0,1,2,3,4,5,6,7,8,9,10,16,17,18],[0,1,2,3,4,5,6,7,8,9,10,16,17,18,19],[0,1,2,3,4,5,6,7,8,9,10,11,12,13,14,15,16,17,18,19,20],[0,1,2,3,4,5,6,7,8,9,10,11,12,13,14,15,16,17,18,19,20,21]].getD i []) (fun _=>[]) (fun _=>[]) [] (by kernel_rfl) (fun i=>if i=15 then some (sConst (.bool false)) else none) ?_
  apply lex_quiet rfl rfl
  ·intro w' hk;go_simp;with_reducible rfl
  simp only [Act.put,LS]
  apply lex_quiet rfl rfl
  ·intro w' hk;go_simp;with_reducible rfl
  simp only [Act.put,LS]
  apply lex_quiet rfl rfl
  ·intro w' hk;go_simp;with_reducible rfl
  simp only [Act.put,LS]
  apply lex_quiet rfl rfl
  ·intro w' hk;have e3:=d3 w' hk;go_simp;with_reducible rfl
  simp only [Act.put,LS]
  apply lex_quiet rfl rfl
  ·intro w' hk;go_simp;with_reducible rfl
  simp only [Act.put,LS]
  apply lex_quiet rfl rfl
  ·intro w' hk;go_simp;with_reducible rfl
  simp only [Act.put,LS]
  apply lex_quiet rfl rfl
  ·intro w' hk;go_simp;with_reducible rfl
  simp only [Act.put,LS]
  apply lex_quiet rfl rfl
  ·intro w' hk;have e5:=dk w' hk;go_simp;with_reducible rfl
  simp only [Act.put,LS]
  apply lex_quiet rfl rfl
  ·intro w' hk;go_simp;with_reducible rfl
  simp only [Act.put,LS]
  apply lex_quiet rfl rfl
  ·intro w' hk;go_simp;with_reducible rfl
  simp only [Act.put,LS]
  apply lex_quiet rfl rfl
  ·intro w' hk;go_simp;with_reducible rfl
  simp only [Act.put,LS]
  apply lex_quiet rfl rfl
  ·intro w' hk;go_simp;with_reducible rfl
  simp only [Act.put,LS]
  apply lex_quiet rfl rfl
  ·intro w' hk;go_simp;with_reducible rfl
  simp only [Act.put,LS]
  apply lex_quiet rfl rfl
  ·intro w' hk;go_simp;with_reducible rfl
  simp only [Act.put,LS]
  apply lex_quiet rfl rfl
  ·intro w' hk;have e3:=d3 w' hk;go_simp;with_reducible rfl
  simp only [Act.put,LS]
  refine lex_loud rfl rfl (loud_call 113 #[.int .i64 op] (fun w=>by kernel_rfl) ⟨default,trivial⟩ (fun g _=>stable_true _) fun w' hk _ _=>(HTB.out w').mono ?_) fun gs _=>?_
  ·rintro e w'' ⟨rfl,rfl⟩
   exact ⟨default,trivial,rfl,KeepBut.refl _ _,fun b h=>h.elim,trivial⟩
  simp only [sConst,Act.put,LS]
  apply lex_quiet rfl rfl
  ·intro w' hk;go_simp;with_reducible rfl
  simp only [Act.put,LS]
  apply lex_quiet rfl rfl
  ·intro w' hk;go_simp;with_reducible rfl
  simp only [Act.put,LS]
  apply lex_quiet rfl rfl
  ·intro w' hk;go_simp;with_reducible rfl
  simp only [Act.put,LS]
  apply lex_quiet rfl rfl
  ·intro w' hk;have e4:=d4 w' hk;go_simp;with_reducible rfl
  simp only [Act.put,LS]
  apply lex_quiet rfl rfl
  ·intro w' hk;go_simp;with_reducible rfl
  simp only [Act.put,LS]
  apply lex_quiet rfl rfl
  ·intro w' hk;go_simp;with_reducible rfl
  simp only [Act.put,LS]
  apply lex_quiet rfl rfl
  ·intro w' hk;go_simp;with_reducible rfl
  simp only [Act.put,LS]
  refine lex_nil ?_
  intro W4 hk9 _ _
  have hk:=(KeepBut.drew (fun _=>False) W3).trans hk9
  have HB4:=hid (hk.blk HB3.out);have HR4:=hid (HR3.out.keep hk fun _ _ e=>e);have HK4:=hid (HK3.out.trans (hk.mono fun _ e=>e.elim))
  clear hk hk9 d3 d4 dk
  go_upto_region 5 with fail
  have hne:r0.length≠0:=fun e=>by
   have h:=HM1.out
   rw [List.eq_nil_of_length_eq_zero e] at h
   cases h
  obtain ⟨g,o,cR,h1,h2,⟨h3,hg⟩,-,htk⟩:=HR4.out.took
  have HTK2:=hid htk;have HG:=hid hg;have H23:=hid (And.intro h2 h3)
  obtain ⟨b0,-,-,-,-,-,f0⟩:=blk6 h1
  have hc:¬cR=1:=by omega
  clear h1 htk hg h3
  go_upto_region 6 with fail
  obtain ⟨W5,hW,hk⟩:∃ W5,W5=W4.setCell ⟨R,0,none⟩ (.slice (some ⟨g,o+5,none⟩) r0.length (cR - 1))∧KeepBut (fun b=>b=R) W4 W5:=⟨_,rfl,KeepBut.setCell _ _ _ rfl⟩
  rw [←hW]
  have hr:ReaderAt W5 R r0 el ec:=by rw [hW];exact HTK2.out (some ⟨g,o+5,none⟩) (cR - 1) (.inr rfl) (fun a ha=>by cases ha;exact HG.out) (by have:=H23.out;omega) (by have:=H23.out;omega)
  have HB5:=hid (hk.blkE HB4.out fun e=>by have e:Bs=R:=e;have:=HRB.out;omega);have HR5:=hid hr;have HK5:=hid (HK4.out.trans (hk.mono fun _ e=>.inl e))
  clear hr hk
  clear hW b0 f0 hc hne h2
  have HQ:=hid (must1 HR5.out [40] _ HM1.out)
  go_wp2_with fail
  go_at_call 76
  refine HQ.out.mono ?_
  rintro e W6 ⟨rfl,hr,hk⟩
  have HB6:=hid (hk.blkE HB5.out fun e=>by have e:Bs=R:=e;have:=HRB.out;omega);have HR6:=hid hr;have HK6:=hid (HK5.out.trans (hk.mono fun _ e=>.inl e))
  clear hr hk
  have HNM:=hid (by have h:=name_str HR6.out HKC.out;rw [HCC.out] at h;exact h)
  obtain ⟨n0,n1,n2,n3,n4,n5,n6,n7,n8,n9,n10,n11⟩:=blk12 HB6.out
  have f6:=frz12 HB6.out 6
  clear n0 n1 n2 n3 n4 n5 n6 n7 n8 n9 n10 n11 f6
  go_wp2_with fail
  go_at_call 79
  refine HNM.out.mono ?_
  rintro e W7 ⟨rfl,hr,hk⟩
  have HB7:=hid (hk.blkE HB6.out fun e=>by have e:Bs=R:=e;have:=HRB.out;omega);have HR7:=hid hr;have HK7:=hid (HK6.out.trans (hk.mono fun _ e=>.inl e))
  clear hr hk
  obtain ⟨n0,n1,n2,n3,n4,n5,n6,n7,n8,n9,n10,n11⟩:=blk12 HB7.out
  have f6:=frz12 HB7.out 6
  go_upto_region 8 with fail
  clear n0 n1 n2 n3 n4 n5 n6 n7 n8 n9 n10 n11 f6
  obtain ⟨W8,hW,hb,hk⟩:=s_put6 HB7.out (.string ⟨C.toArray⟩)
  rw [←hW]
  have HB8:=hid hb;have HR8:=hid (HR7.out.keep hk fun b hb e=>by have e:b=Bs:=e;have:=HRB.out;omega);have HK8:=hid (HK7.out.trans (hk.mono fun _ e=>.inr e))
  clear hW hb hk
  obtain ⟨n0,n1,n2,n3,n4,n5,n6,n7,n8,n9,n10,n11⟩:=blk12 HB8.out
  go_wp2_with fail
  go_at_call 113
  refine (HTB.out W8).mono ?_
  rintro e W9 ⟨rfl,rfl⟩
  clear n0 n1 n2 n3 n4 n5 n6 n7 n8 n9 n10 n11
  obtain ⟨-,r3,x,r4,hm2,hx,hm3,rfl⟩:=HREST.out.resolve_left (fun h=>htake h.1)
  have HM2:=hid hm2;have HXX:=hid hx;have HM3:=hid hm3
  clear hm2 hx hm3
  have HQ:=hid (must1 HR8.out [44] _ HM2.out)
  go_wp2_with fail
  go_at_call 76
  refine HQ.out.mono ?_
  rintro e W10 ⟨rfl,hr,hk⟩
  have HB10:=hid (hk.blkE HB8.out fun e=>by have e:Bs=R:=e;have:=HRB.out;omega);have HR10:=hid hr;have HK10:=hid (HK8.out.trans (hk.mono fun _ e=>.inl e))
  clear hr hk
  have HEX:=hid (exP_reads R el ec f W10 W10 r3 x r4 (KeepBut.refl _ _) HR10.out HXX.out)
  go_wp2_with fail
  go_at_call 32
  refine HEX.out.mono ?_
  rintro e W11 ⟨vs,rfl,hex,hr,hk⟩
  obtain ⟨xk,xo,xn,xS,xp,xm,xc,xl,xcl,rfl⟩:=ex_form hex
  have HX11:=hid hex
  clear hex
  have HB11:=hid (hk.blkE HB10.out fun e=>by have e:Bs=R:=e;have:=HRB.out;omega);have HR11:=hid hr;have HK11:=hid (HK10.out.trans (hk.mono fun _ e=>.inl e))
  clear hr hk
  obtain ⟨W12,G,hW12,hG,hbG,hkG,hsG⟩:=fresh_block W11 (.cells #[.int .i64 xk,.int .i64 xo,.int .i64 xn,.string xS,.slice xp xm xc,.int .i64 xl,.int .i64 xcl] TEx)
  have HBG:=hid hbG;have HR12:=hid (HR11.out.keep hkG fun _ _ e=>e);have HK12:=hid (HK11.out.trans (hkG.mono fun _ e=>e.elim));have HB12:=hid (hkG.blk HB11.out);have HX12:=hid (HX11.out.keep hkG fun _ _ e=>e)
  have HNG:=hid (show Bs<G∧W11.heap.size≤G by have:=(Array.getElem?_eq_some_iff.1 HB11.out).1;omega)
  clear hbG hkG hsG
  have HBL:=(KeepBut.alloc (fun _=>False) W11 (.cells #[.int .i64 xk,.int .i64 xo,.int .i64 xn,.string xS,.slice xp xm xc,.int .i64 xl,.int .i64 xcl] TEx)).blk HB11.out
  obtain ⟨n0,n1,n2,n3,n4,n5,n6,n7,n8,n9,n10,n11⟩:=blk12 HBL
  have f7:=frz12 HBL 7
  clear HBL
  go_upto_region 11 with fail
  rw [←hW12,←hG]
  clear hW12 hG n0 n1 n2 n3 n4 n5 n6 n7 n8 n9 n10 n11 f7
  obtain ⟨W13,hW,hb,hk⟩:=s_put7 HB12.out (.slice (some ⟨G,0,none⟩) 1 1)
  rw [←hW]
  have HB13:=hid hb;have HR13:=hid (HR12.out.keep hk fun b hb e=>by have e:b=Bs:=e;have:=HRB.out;omega);have HK13:=hid (HK12.out.trans (hk.mono fun _ e=>.inr e))
  have HSZ:=hid (show w.heap.size≤W10.heap.size from HK10.out.size)
  have HKD:=hid (show KidsAt W13 (fun b=>w.heap.size≤b) (some ⟨G,0,none⟩) 0 [x] from kids_one (hk.blkE HBG.out fun e=>by have e:G=Bs:=e;have:=HNG.out;omega) (by show w.heap.size≤G;have:=HNG.out;have:=HK11.out.size;omega) ((HX12.out.keep hk fun b hb e=>by have e:b=Bs:=e;have hb:W10.heap.size≤b:=hb;have:=HN0.out;have:=HSZ.out;omega).mono fun b hb=>by have hb:W10.heap.size≤b:=hb;have:=HSZ.out;omega))
  clear hW hb hk
  have HQ:=hid (must2 HR13.out [41] [59] _ HM3.out)
  go_wp2_with fail
  go_at_call 76
  refine HQ.out.mono ?_
  rintro e W14 ⟨rfl,hr,hk⟩
  have HKE:=hid (KidsAt.keep hk (fun b hb e=>by have e:b=R:=e;have hb:w.heap.size≤b:=hb;have:=HRB.out;have:=HN0.out;omega) HKD.out)
  have HB14:=hid (hk.blkE HB13.out fun e=>by have e:Bs=R:=e;have:=HRB.out;omega);have HR14:=hid hr;have HK14:=hid (HK13.out.trans (hk.mono fun _ e=>.inl e))
  clear hr hk
  go_wp2_with fail
  go_end0
  exact ⟨rfl,HR14.out,HK14.out,_,1,HB14.out,HKE.out⟩
/-
  Package parse: plain, where two names stand ahead of a call.
-/
/-- the cells of a statement that is a call -/
theorem stC_call {w:World} {S:Nat→Prop} {op l cl:Nat} {val into cont:List UInt8} {p:Option Addr} {cap:Nat} {xs:List Ex} (h:KidsAt w S p 0 xs):
  ∃ vs:List Value,stC 9 0 op [] val into cont (.slice p xs.length cap) l cl=vs.toArray∧StAt w S vs (.mk 9 [] 0 op val into cont xs [] [] l cl):=by
 refine ⟨_,rfl,?_⟩
 unfold StAt
 exact ⟨p,cap,none,0,none,0,rfl,h,by unfold StsAt;trivial,by unfold StsAt;trivial⟩
set_option maxRecDepth 4000 in
set_option maxHeartbeats 32000000 in
theorem plain_two (w:World) (R el ec f Bs:Nat) (tn tm:Item) (r0 r1 r2 r:List Item) (op l cl:Nat) (c:List UInt8) (xs:List Ex) (hr:ReaderAt w R (tn::r0) el ec) (hB:w.heap[Bs]?=some (.cells (stC 0 0 0 [] [] [] [] (.slice none 0 0) l cl) TSm (0,0))) (hRB:R<Bs)
  (hk1:tn.tok.kind=2) (h91:headIs r0 [91]=false) (h44:headIs r0 [44]=true) (htl:r0.tail=tm::r1) (hk2:tm.tok.kind=2) (hm:mustT [[61]] r1=some r2) (hx:callP f tn.tok.text r2=some ((op,c,xs),r)):
  Calls Tryz.prog 120 #[rdV R,.pointer (some ⟨Bs,0,none⟩)] w fun e w'=>e=.returned (.tuple #[])∧ReaderAt w' R r el ec∧KeepBut (fun b=>b=R∨b=Bs) w w'∧
   ∃ vs,w'.heap[Bs]?=some (.cells vs.toArray TSm (0,0))∧StAt w' (fun b=>w.heap.size≤b) vs (.mk 9 [] 0 op tn.tok.text tm.tok.text c xs [] [] l cl):=by
 have HRB:=hid hRB
 have hN:=(Array.getElem?_eq_some_iff.1 hB).1
 have HN0:=hid hN
 have HBW:=hid hB
 have HNM:=hid (name_str hr hk1)
 obtain ⟨T,hT⟩:∃ T,tn.tok.text=T:=⟨_,rfl⟩
 obtain ⟨U,hU⟩:∃ U,tm.tok.text=U:=⟨_,rfl⟩
 rw [hT] at HNM hx ⊢
 rw [hU]
 have HM91:=hid (fun W (h:ReaderAt W R r0 el ec)=>by have h:=may_any W R r0 el ec h [91];rw [h91,if_neg Bool.false_ne_true] at h;exact h)
 have HM44:=hid (fun W (h:ReaderAt W R r0 el ec)=>by have h:=may_any W R r0 el ec h [44];rw [h44,if_pos rfl,htl] at h;exact h)
 have HNM2:=hid (fun W (h:ReaderAt W R (tm::r1) el ec)=>by have h:=name_str h hk2;rw [hU] at h;exact h)
 have HMU:=hid hm;have HX:=hid hx
 unfold stC at HBW
 clear hr hB hN hRB hk1 h91 h44 htl hk2 hm hx hT hU
 go_enter Tryz.func120,Tryz.ntmps120
 go_wp2_with fail
 go_at_call 79
 refine HNM.out.mono ?_
 rintro e W1 ⟨rfl,hr,hk⟩
 have HR1:=hid hr;have HK1:=hid (hk.mono fun b e=>(.inl e:b=R∨b=Bs));have HB1:=hid (hk.blkE HBW.out fun e=>by have e:Bs=R:=e;have:=HRB.out;omega)
 have HQ:=hid (HM91.out W1 hr)
 clear hr hk
 go_wp2_with fail
 go_at_call 101
 refine HQ.out.mono ?_
 rintro e W2 ⟨rfl,hr,hk⟩
 have HQ:=hid (HM44.out W2 hr)
 have HB2:=hid (hk.blkE HB1.out fun e=>by have e:Bs=R:=e;have:=HRB.out;omega);have HR2:=hid hr;have HK2:=hid (HK1.out.trans (hk.mono fun _ e=>.inl e))
 clear hr hk
 go_wp2_with fail
 go_at_call 101
 refine HQ.out.mono ?_
 rintro e W3 ⟨rfl,hr,hk⟩
 have HQ:=hid (HNM2.out W3 hr)
 have HB3:=hid (hk.blkE HB2.out fun e=>by have e:Bs=R:=e;have:=HRB.out;omega);have HR3:=hid hr;have HK3:=hid (HK2.out.trans (hk.mono fun _ e=>.inl e))
 clear hr hk
 go_wp2_with fail
 go_at_call 79
 refine HQ.out.mono ?_
 rintro e W4 ⟨rfl,hr,hk⟩
 have HB4:=hid (hk.blkE HB3.out fun e=>by have e:Bs=R:=e;have:=HRB.out;omega);have HR4:=hid hr;have HK4:=hid (HK3.out.trans (hk.mono fun _ e=>.inl e))
 clear hr hk
 obtain ⟨n0,n1,n2,n3,n4,n5,n6,n7,n8,n9,n10,n11⟩:=blk12 HB4.out
 have f4:=frz12 HB4.out 4
 have f5:=frz12 HB4.out 5
 go_upto_region 9 with fail
 clear n0 n1 n2 n3 n4 n5 n6 n7 n8 n9 n10 n11 f4 f5
 obtain ⟨W5,hW,hb,hk⟩:=s_put4 HB4.out (.string ⟨T.toArray⟩)
 rw [←hW]
 have HB5:=hid hb;have HR5:=hid (HR4.out.keep hk fun b hb e=>by have e:b=Bs:=e;have:=HRB.out;omega);have HK5:=hid (HK4.out.trans (hk.mono fun _ e=>.inr e))
 clear hW hb hk
 obtain ⟨W6,hW,hb,hk⟩:=s_put5 HB5.out (.string ⟨U.toArray⟩)
 rw [←hW]
 have HB6:=hid hb;have HR6:=hid (HR5.out.keep hk fun b hb e=>by have e:b=Bs:=e;have:=HRB.out;omega);have HK6:=hid (HK5.out.trans (hk.mono fun _ e=>.inr e))
 clear hW hb hk
 have HQ:=hid (must1 HR6.out [61] _ HMU.out)
 go_wp2_with fail
 go_at_call 76
 refine HQ.out.mono ?_
 rintro e W7 ⟨rfl,hr,hk⟩
 have HB7:=hid (hk.blkE HB6.out fun e=>by have e:Bs=R:=e;have:=HRB.out;omega);have HR7:=hid hr;have HK7:=hid (HK6.out.trans (hk.mono fun _ e=>.inl e))
 clear hr hk
 have HCB:=hid (call_reads W7 R el ec f Bs r2 r T U [] c op xs 0 0 0 l cl [] HR7.out HB7.out HRB.out HX.out)
 go_wp2_with fail
 go_at_call 131
 refine HCB.out.mono ?_
 rintro e W8 ⟨rfl,hr8,hk8,p,cap,hb8,hkd⟩
 have HR8:=hid hr8;have HK8:=hid (HK7.out.trans hk8)
 have hs7:=HK7.out.size
 obtain ⟨vs,hvs,hst⟩:=stC_call (op:=op) (l:=l) (cl:=cl) (val:=T) (into:=U) (cont:=c) (cap:=cap) (hkd.mono fun b hb=>(by have hb:W7.heap.size≤b:=hb;omega:w.heap.size≤b))
 have hb8:W8.heap[Bs]?=some (.cells vs.toArray TSm (0,0)):=by rw [←hvs];exact hb8
 have HB8:=hid hb8;have HST:=hid hst
 clear hr8 hk8 hb8 hkd hs7 hvs hst
 go_wp2_with fail
 (try simp only [Exit.inBlock,Exit.then]);refine bodyPost_ret (results_none rfl _ _ _) rfl ?_
 exact ⟨rfl,HR8.out,HK8.out,vs,HB8.out,HST.out⟩
/-
  Package parse: stmt, where a name comes first.
-/
/-- what a reader of a statement into block Bs does with these tokens -/
def Plains (R el ec:Nat) (its r:List Item) (l cl:Nat) (s:St):Prop:=∀ (w:World) (Bs:Nat),ReaderAt w R its el ec→w.heap[Bs]?=some (.cells (stC 0 0 0 [] [] [] [] (.slice none 0 0) l cl) TSm (0,0))→R<Bs→
  Calls Tryz.prog 120 #[rdV R,.pointer (some ⟨Bs,0,none⟩)] w fun e w'=>e=.returned (.tuple #[])∧ReaderAt w' R r el ec∧KeepBut (fun b=>b=R∨b=Bs) w w'∧
   ∃ vs,w'.heap[Bs]?=some (.cells vs.toArray TSm (0,0))∧StAt w' (fun b=>w.heap.size≤b) vs s
/-- what stmt does with these tokens -/
def ReadsS (R el ec:Nat) (its r:List Item) (s:St):Prop:=∀ (w:World),ReaderAt w R its el ec→
  Calls Tryz.prog 103 #[rdV R] w fun e w'=>∃ vs,e=.returned (.agg vs.toArray)∧StAt w' (fun b=>w.heap.size≤b) vs s∧ReaderAt w' R r el ec∧KeepBut (fun b=>b=R) w w'
theorem put12 {w:World} {B:Nat} {a b c d e f g h i j k l:Value} {T:TypeId} (hh:w.heap[B]?=some (.cells #[a,b,c,d,e,f,g,h,i,j,k,l] T (0,0))) (v0 v1 v2 v3 v4 v5 v6 v7 v8 v9 v10 v11:Value):
  ∃ wf,wf=(((((((((((w.setCell ⟨B,0,none⟩ v0).setCell ⟨B,1,none⟩ v1).setCell ⟨B,2,none⟩ v2).setCell ⟨B,3,none⟩ v3).setCell ⟨B,4,none⟩ v4).setCell ⟨B,5,none⟩ v5).setCell ⟨B,6,none⟩ v6).setCell ⟨B,7,none⟩ v7).setCell ⟨B,8,none⟩ v8).setCell ⟨B,9,none⟩ v9).setCell ⟨B,10,none⟩ v10).setCell ⟨B,11,none⟩ v11∧
   wf.heap[B]?=some (.cells #[v0,v1,v2,v3,v4,v5,v6,v7,v8,v9,v10,v11] T (0,0))∧KeepBut (fun k=>k=B) w wf:=by
 obtain ⟨w0,rfl,h0,k0⟩:=s_put0 hh v0
 obtain ⟨w1,rfl,h1,k1⟩:=s_put1 h0 v1
 obtain ⟨w2,rfl,h2,k2⟩:=s_put2 h1 v2
 obtain ⟨w3,rfl,h3,k3⟩:=s_put3 h2 v3
 obtain ⟨w4,rfl,h4,k4⟩:=s_put4 h3 v4
 obtain ⟨w5,rfl,h5,k5⟩:=s_put5 h4 v5
 obtain ⟨w6,rfl,h6,k6⟩:=s_put6 h5 v6
 obtain ⟨w7,rfl,h7,k7⟩:=s_put7 h6 v7
 obtain ⟨w8,rfl,h8,k8⟩:=s_put8 h7 v8
 obtain ⟨w9,rfl,h9,k9⟩:=s_put9 h8 v9
 obtain ⟨w10,rfl,h10,k10⟩:=s_put10 h9 v10
 obtain ⟨w11,rfl,h11,k11⟩:=s_put11 h10 v11
 exact ⟨_,rfl,h11,(((((((((((k0.trans k1).trans k2).trans k3).trans k4).trans k5).trans k6).trans k7).trans k8).trans k9).trans k10).trans k11)⟩
set_option maxRecDepth 4000 in
set_option maxHeartbeats 32000000 in
theorem stmt_plain (R el ec:Nat) (t:Item) (r0 r:List Item) (s:St) (hno:∀ k,headIs (t::r0) k=false) (hpl:Plains R el ec (t::r0) r t.line t.col s):ReadsS R el ec (t::r0) r s:=by
 intro w hr
 obtain ⟨V1,B2,hV1,hB2,hb2,hk1,hs1⟩:=fresh_block w (.cells #[.int .i64 0,.string ⟨#[]⟩,.int .i64 0,.int .i64 0,.string ⟨#[]⟩,.string ⟨#[]⟩,.string ⟨#[]⟩,.slice none 0 0,.slice none 0 0,.slice none 0 0,.int .i64 0,.int .i64 0] TSm)
 have HPK:=hid (peek_cons (hr.keep hk1 fun _ _ e=>e))
 obtain ⟨T,hT⟩:∃ T,t.tok.text=T:=⟨_,rfl⟩
 obtain ⟨tk,htk⟩:∃ n:Int,(t.tok.kind:Int)=n:=⟨_,rfl⟩
 obtain ⟨tn,htn⟩:∃ n:Int,(t.tok.num:Int)=n:=⟨_,rfl⟩
 obtain ⟨tl,htl⟩:∃ n:Nat,t.line=n:=⟨_,rfl⟩
 obtain ⟨tc,htc⟩:∃ n:Nat,t.col=n:=⟨_,rfl⟩
 rw [hT,htk,htn,htl,htc] at HPK
 rw [htl,htc] at hpl
 have HR1:=hid (hr.keep hk1 fun _ _ e=>e);have HK1:=hid hk1;have HB2:=hid hb2
 have HN:=hid (show R<w.heap.size∧w.heap.size≤B2∧B2<V1.heap.size from ⟨hr.lt,by omega,by omega⟩)
 have HPL:=hid hpl
 have HMAY:=hid (fun W k (h:ReaderAt W R (t::r0) el ec)=>by have h:=may_any W R (t::r0) el ec h k;rw [hno k,if_neg Bool.false_ne_true] at h;exact h)
 clear hr hb2 hk1 hs1 hno hpl hT htk htn htl htc
 go_enter Tryz.func103,Tryz.ntmps103
 go_upto_region 1 with fail
 rw [←hV1,←hB2]
 clear hV1 hB2
 go_wp2_with fail
 go_at_call 74
 refine HPK.out.mono ?_
 rintro e W1 ⟨rfl,hkp⟩
 obtain ⟨V2,B3,hV2,hB3,hb3,hk2,hs2⟩:=fresh_block W1 (.cells #[.int .i64 tk,.string ⟨T.toArray⟩,.int .i64 tn,.int .i64 tl,.int .i64 tc] TTk)
 obtain ⟨V,B4,hV,hB4,hb4,hk3,hs3⟩:=fresh_block V2 (.cells #[.int .i64 0,.string ⟨#[]⟩,.int .i64 0,.int .i64 0,.string ⟨#[]⟩,.string ⟨#[]⟩,.string ⟨#[]⟩,.slice none 0 0,.slice none 0 0,.slice none 0 0,.int .i64 tl,.int .i64 tc] TSm)
 have hkv:=(hkp.trans hk2).trans hk3
 have HB4:=hid hb4;have HB2V:=hid (hkv.blk HB2.out);have HRV:=hid (HR1.out.keep hkv fun _ _ e=>e)
 have HKV:=hid ((HK1.out.trans hkv).mono fun b e=>(e.elim:b=R))
 have HN4:=hid (show B2<B4∧B4<V.heap.size∧w.heap.size≤B4 by have:=HN.out;have:=hkp.size;omega)
 obtain ⟨n0,n1,n2,n3,n4,-⟩:=blk5 hb3
 have h34:B3+1=B4:=by omega
 clear hkp hb3 hb4 hk2 hk3 hs2 hs3 hkv
 go_upto_region 2 with fail
 rw [←hV2,←hB3]
 clear hV2 hB3
 go_upto_region 4 with fail
 rw [←hV,←hB4]
 clear hV hB4 n0 n1 n2 n3 n4 h34
 have HNN:=hid (show R<B2∧B2<B4 by have:=HN.out;have:=HN4.out;omega)
 have HR0:=hid HRV.out;have HK0:=hid HKV.out;have HB40:=hid HB4.out;have HB20:=hid HB2V.out;have HKB0:=hid (KeepBut.refl (fun b=>b=R) V)
 have HQ:=hid (HMAY.out V [118,97,114] HR0.out)
 go_wp2_with fail
 go_at_call 101
 refine HQ.out.mono ?_
 rintro e X1 ⟨rfl,hr,hk⟩
 have HR1:=hid hr;have HK1:=hid (HK0.out.trans hk);have HKB1:=hid (HKB0.out.trans hk);have HB41:=hid (hk.blkE HB40.out fun e=>by have e:B4=R:=e;have:=HNN.out;omega);have HB21:=hid (hk.blkE HB20.out fun e=>by have e:B2=R:=e;have:=HNN.out;omega)
 clear hr hk
 have HQ:=hid (HMAY.out X1 [97,114,114,97,121] HR1.out)
 go_wp2_with fail
 go_at_call 101
 refine HQ.out.mono ?_
 rintro e X2 ⟨rfl,hr,hk⟩
 have HR2:=hid hr;have HK2:=hid (HK1.out.trans hk);have HKB2:=hid (HKB1.out.trans hk);have HB42:=hid (hk.blkE HB41.out fun e=>by have e:B4=R:=e;have:=HNN.out;omega);have HB22:=hid (hk.blkE HB21.out fun e=>by have e:B2=R:=e;have:=HNN.out;omega)
 clear hr hk
 have HQ:=hid (HMAY.out X2 [105,102] HR2.out)
 go_wp2_with fail
 go_at_call 101
 refine HQ.out.mono ?_
 rintro e X3 ⟨rfl,hr,hk⟩
 have HR3:=hid hr;have HK3:=hid (HK2.out.trans hk);have HKB3:=hid (HKB2.out.trans hk);have HB43:=hid (hk.blkE HB42.out fun e=>by have e:B4=R:=e;have:=HNN.out;omega);have HB23:=hid (hk.blkE HB22.out fun e=>by have e:B2=R:=e;have:=HNN.out;omega)
 clear hr hk
 have HQ:=hid (HMAY.out X3 [119,104,105,108,101] HR3.out)
 go_wp2_with fail
 go_at_call 101
 refine HQ.out.mono ?_
 rintro e X4 ⟨rfl,hr,hk⟩
 have HR4:=hid hr;have HK4:=hid (HK3.out.trans hk);have HKB4:=hid (HKB3.out.trans hk);have HB44:=hid (hk.blkE HB43.out fun e=>by have e:B4=R:=e;have:=HNN.out;omega);have HB24:=hid (hk.blkE HB23.out fun e=>by have e:B2=R:=e;have:=HNN.out;omega)
 clear hr hk
 have HQ:=hid (HMAY.out X4 [111,117,116] HR4.out)
 go_wp2_with fail
 go_at_call 101
 refine HQ.out.mono ?_
 rintro e X5 ⟨rfl,hr,hk⟩
 have HR5:=hid hr;have HK5:=hid (HK4.out.trans hk);have HKB5:=hid (HKB4.out.trans hk);have HB45:=hid (hk.blkE HB44.out fun e=>by have e:B4=R:=e;have:=HNN.out;omega);have HB25:=hid (hk.blkE HB24.out fun e=>by have e:B2=R:=e;have:=HNN.out;omega)
 clear hr hk
 have HQ:=hid (HMAY.out X5 [104,97,108,116] HR5.out)
 go_wp2_with fail
 go_at_call 101
 refine HQ.out.mono ?_
 rintro e X6 ⟨rfl,hr,hk⟩
 have HR6:=hid hr;have HK6:=hid (HK5.out.trans hk);have HKB6:=hid (HKB5.out.trans hk);have HB46:=hid (hk.blkE HB45.out fun e=>by have e:B4=R:=e;have:=HNN.out;omega);have HB26:=hid (hk.blkE HB25.out fun e=>by have e:B2=R:=e;have:=HNN.out;omega)
 clear hr hk
 have hq:=HNN.out
 have HPQ:=hid (HPL.out X6 B4 HR6.out HB46.out (by omega))
 have HSZ:=hid (Nat.le_trans (show w.heap.size≤V.heap.size by have:=HN4.out;omega) HKB6.out.size)
 clear hq
 go_wp2_with fail
 go_at_call 120
 refine HPQ.out.mono ?_
 rintro e W8 ⟨rfl,hr8,hk8,vs,hb8,hst⟩
 obtain ⟨s0,s1,s2,s3,s4,s5,s6,p1,m1,c1,p2,m2,c2,p3,m3,c3,s10,s11,rfl⟩:=st_form hst
 have HB48:=hid hb8;have HR8:=hid hr8;have HST:=hid hst
 have hb28:=hk8.blkE HB26.out (fun e=>by have h:=HNN.out;rcases e with e | e <;> omega)
 have HB28:=hid hb28
 have HK8:=hid (show KeepBut (fun b=>b=R) w W8 from (HK6.out.trans (KeepBut.refl _ _)).newM hk8 fun b e=>e.elim .inl fun e=>.inr (by have:=HN4.out;omega))
 obtain ⟨n0,n1,n2,n3,n4,n5,n6,n7,n8,n9,n10,n11⟩:=blk12 hb8
 obtain ⟨q0,q1,q2,q3,q4,q5,q6,q7,q8,q9,q10,q11⟩:=blk12 hb28
 have fz:=frz12 hb28
 have f0:=fz 0;have f1:=fz 1;have f2:=fz 2;have f3:=fz 3;have f4:=fz 4;have f5:=fz 5;have f6:=fz 6;have f7:=fz 7;have f8:=fz 8;have f9:=fz 9;have f10:=fz 10;have f11:=fz 11
 clear hr8 hk8 hb8 hst hb28 fz
 go_wp2_with fail
 obtain ⟨wf,hwf,hp,hkp⟩:=put12 HB28.out (.int .i64 s0) (.string s1) (.int .i64 s2) (.int .i64 s3) (.string s4) (.string s5) (.string s6) (.slice p1 m1 c1) (.slice p2 m2 c2) (.slice p3 m3 c3) (.int .i64 s10) (.int .i64 s11)
 rw [←hwf]
 obtain ⟨c0,d1,d2,d3,d4,d5,d6,d7,d8,d9,d10,d11⟩:=blk12 hp
 exact bodyPost_ret (v:=.agg #[.int .i64 s0,.string s1,.int .i64 s2,.int .i64 s3,.string s4,.string s5,.string s6,.slice p1 m1 c1,.slice p2 m2 c2,.slice p3 m3 c3,.int .i64 s10,.int .i64 s11]) (by simp [results,Tryz.results103,go_sem,c0,d1,d2,d3,d4,d5,d6,d7,d8,d9,d10,d11]) rfl ⟨_,rfl,(HST.out.keep hkp fun b hb e=>by have e:b=B2:=e;have hb:X6.heap.size≤b:=hb;have h1:=HN4.out;have h2:=HKB6.out.size;omega).mono fun b hb=>(by have hb:X6.heap.size≤b:=hb;have:=HSZ.out;omega),HR8.out.keep hkp fun b hb e=>(by have e:b=B2:=e;have:=HNN.out;omega),HK8.out.newE hkp fun b e=>by have e:b=B2:=e;have:=HN.out;omega⟩
end Go.Proofs.YtomlffobbkcmdaaGreatDoor
