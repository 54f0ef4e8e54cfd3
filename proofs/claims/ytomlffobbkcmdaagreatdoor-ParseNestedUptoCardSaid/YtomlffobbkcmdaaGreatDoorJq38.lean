/- Joined texts of this work: Nw1, Lv17, Lw17, Tab17, Trod. -/
import Derived.Test.YtomlffobbkcmdaaGreatDoorJq32
import Derived.Test.YtomlffobbkcmdaaGreatDoorJq37
import Derived.Test.YtomlffobbkcmdaaGreatDoorJq21
import Derived.Test.YtomlffobbkcmdaaGreatDoorJq16
import Derived.Test.YtomlffobbkcmdaaGreatDoorRows
import Derived.Test.YtomlffobbkcmdaaGreatDoorJq15
import Derived.Lib.LaidTab
import Derived.Lib.Fields
import Derived.ProofKit
import Derived.OpenShut
import Derived.LaidMore
import Derived.Lay
import Derived.Stop.Joined
import Derived.Lib.SmallJoins
/-
  ParseNested: its own walk, but for lives.
-/
namespace Go.Proofs.YtomlffobbkcmdaaGreatDoor
open Go Go.RowKit Own
open Go.Lib (hid)
theorem run_max3 {P:Program} (w:World) (a b c:Int):(Builtin.max_ #[3,3,3] 3 #[.int .i64 a,.int .i64 b,.int .i64 c]).run P w=.ok (.int .i64 (max a (max b c))) w:=by
 have e:(if c>(if b>a then b else a) then c else (if b>a then b else a))=max a (max b c):=by
  split <;> split <;> omega
 simp [Builtin.max_,Builtin.max2,e]
theorem hDeep_le:∀ l:List (List Gs),hDeep l≤hSize l
 | []=>Nat.le_refl _
 | b::l=>by
  have h1:=sDeepL_le b
  have h2:=hDeep_le l
  unfold hDeep hSize
  omega
set_option maxRecDepth 10000 in
set_option maxHeartbeats 64000000 in
theorem nested_walk (hL:∀ w,TabS w→TabP w→Calls Tryz.prog 8 #[] w fun e w'=>e=.returned (.bool true)∧KeepBut (fun _=>False) w w') (w:World) (hT:TabS w) (hP:TabP w) (p:Gp)
  (hf:(p.pool≤9223372036854775807∧∀ l∈p.threads,fitNL l)∧∀ l∈p.threads,fitSL l) (hb:hSize p.threads≤1048576) (S:Nat→Prop) (v:Value) (h:PAt w S v p) (n:Int):
  Calls Tryz.prog 7 #[v,.int .i64 n] w fun e w'=>e=.returned (.bool true)∧KeepBut (fun _=>False) w w':=by
 have h0:=h
 obtain ⟨p1,d1,p2,d2,rfl,-,-⟩:=h0
 obtain ⟨V,B2,hV,hB2,hb2,hk2,hs2⟩:=fresh_block w (.cells #[.int .i64 p.pool,.slice p1 p.conts.length d1,.slice p2 p.threads.length d2] TPr)
 have HLV:=hid (hL V (hk2.tabS hT) (hk2.tabP hP))
 have HT:=hid (hk2.tabS hT);have HP:=hid (hk2.tabP hP);have HPA:=hid ((h.keep hk2 fun _ _ e=>e).mono (S':=fun _=>True) fun _ _=>trivial)
 have HLI:=hid (fun W (k:KeepBut (fun _=>False) V W)=>lightP_any p hb W _ _ (HPA.out.keep k fun _ _ e=>e))
 have HF:=hid hf
 obtain ⟨n1,hn1⟩:∃ n,p.conts.length=n:=⟨_,rfl⟩
 obtain ⟨n2,hn2⟩:∃ n,p.threads.length=n:=⟨_,rfl⟩
 have HN1:=hid hn1;have HN2:=hid hn2
 have HB2:=hid hb2;have HKV:=hid hk2
 have HP2:=hid (show ∃ p' n' c' ,p2=p'∧n2=n'∧d2=c' from ⟨_,_,_,rfl,rfl,rfl⟩)
 clear hL hT hP hf hb h hb2 hk2 hs2
 have HPA0:=hid HPA.out
 simp only [hn1,hn2] at HB2 HLI hV HPA ⊢
 clear hn1 hn2
 go_enter Tryz.func7,Tryz.ntmps7
 go_upto_region 1 with fail
 rw [←hV,←hB2]
 clear hV hB2
 go_wp2_with fail
 go_at_call 8
 refine HLV.out.mono ?_
 rintro e w1 ⟨rfl,hk1⟩
 have HK1:=hid hk1
 have HLQ:=hid (HLI.out w1 hk1)
 obtain ⟨c0,c1,c2,-⟩:=blk3f (hk1.blk HB2.out)
 clear hk1
 cases hl:lightP p with
 | false=>
  rw [hl] at HLQ
  clear hl
  go_wp2_with fail
  go_at_call 22
  refine HLQ.out.mono ?_
  rintro e w2 ⟨rfl,hk2⟩
  have HKE:=hid ((HKV.out.trans HK1.out).trans hk2)
  clear hk2
  go_wp2_with fail
  go_ret
  exact ⟨rfl,HKE.out⟩
 | true=>
 rw [hl] at HLQ
 obtain ⟨hsm,h9⟩:=light_small hl HF.out
 have HSM:=hid hsm;have H9:=hid h9
 clear hl hsm h9
 go_wp2_with fail
 go_at_call 22
 refine HLQ.out.mono ?_
 rintro e w2 ⟨rfl,hk2⟩
 have HK2:=hid (HK1.out.trans hk2)
 clear hk2 c0 c1 c2
 obtain ⟨c0,c1,c2,-⟩:=blk3f (HK2.out.blk HB2.out)
 have HCK:=hid (check_at p HSM.out w2 (HK2.out.tabS HT.out) _ _ (HPA0.out.keep HK2.out fun _ _ e=>e))
 rw [HN1.out,HN2.out] at HCK
 by_cases hc:checkP p=true
 case neg=>
  rw [if_neg hc] at HCK
  clear hc
  go_wp2_with fail
  go_at_call 20
  refine HCK.out.mono ?_
  rintro e w3 ⟨rfl,hk3⟩
  have HKE:=hid ((HKV.out.trans HK2.out).trans hk3)
  clear hk3
  go_wp2_with fail
  go_ret
  exact ⟨rfl,HKE.out⟩
 rw [if_pos hc] at HCK
 have HC:=hid hc
 clear hc
 go_wp2_with fail
 go_at_call 20
 refine HCK.out.mono ?_
 rintro e w3 ⟨rfl,hk3⟩
 have HK3:=hid (HK2.out.trans hk3)
 clear hk3 c0 c1 c2
 obtain ⟨c0,c1,c2,-⟩:=blk3f (HK3.out.blk HB2.out)
 by_cases hz:n2=0
 case pos=>
  subst hz
  have HKE:=hid (HKV.out.trans HK3.out)
  go_wp2_with fail
  go_ret
  exact ⟨rfl,HKE.out⟩
 have hzi:((n2:Int)==0)=false:=by rw [beq_eq_false_iff_ne];omega
 have h1000:n2≤1000:=by rw [←HN2.out];exact HSM.out.threads
 obtain ⟨rp1,rp2⟩:=pick_range (k:=n) (n:=(n2:Int)) (by omega)
 obtain ⟨t,ht⟩:∃ q:Nat,(q:Int)=pick n n2:=⟨(pick n n2).toNat,by omega⟩
 have HPK:=hid (fun W=>pick_any W n n2 (by omega) (by omega))
 rw [←ht] at rp1 rp2 HPK
 have htl:t<n2:=by omega
 have HTL:=hid htl
 obtain ⟨l1,l2,l3,l4,l5,l6,l7,l8⟩:=nested_law p HSM.out H9.out HC.out t (by rw [HN2.out];exact htl)
 have HSQ:=hid l1;have HSO:=hid l2;have HSR:=hid l3;have HCQ:=hid l4;have HZQ:=hid l5;have HDQ:=hid l6;have HZP:=hid l7;have HSA:=hid l8
 have HOW:=hid (fun W (k:KeepBut (fun _=>False) V W)=>ownP_own p (by have:=HSM.out.size;omega) (by have:=HSM.out.conts;omega) (by have:=HSM.out.threads;omega) W _ _ (HPA0.out.keep k fun _ _ e=>e))
 rw [HN1.out,HN2.out] at HOW
 clear l1 l2 l3 l4 l5 l6 l7 l8 ht htl h1000
 go_wp2_with fail
 go_at_call 12
 refine (HPK.out _).mono ?_
 rintro e w4 ⟨rfl,hw4⟩
 obtain rfl:=hw4.symm
 clear hw4 HPK
 go_wp2_with fail
 go_at_call 24
 refine (HOW.out w3 HK3.out).mono ?_
 rintro e w5 ⟨u,rfl,hu,hk5⟩
 obtain ⟨pc,cc,p9,c9,rfl,hu⟩:=hu
 rcases hu with ⟨h0,-⟩ | ⟨g,cur,rfl,hg,hcs,hh,hcl,he⟩
 ·exact absurd HTL.out (by have:=HN2.out;rw [h0] at this;simp at this;omega)
 rw [HN1.out,HN2.out]
 rw [HN2.out] at hcl
 obtain ⟨W6,B6,hW6,hB6,hb6,hk6,hs6⟩:=fresh_block w5 (.cells #[.int .i64 p.pool,.slice pc n1 cc,.slice (some ⟨g,0,none⟩) n2 c9] TPr)
 have HK6:=hid ((HK3.out.trans hk5).trans hk6)
 have hg5:=(Array.getElem?_eq_some_iff.1 hh).1
 have HG:=hid (show w3.heap.size≤g∧g<B6∧B6<W6.heap.size by omega)
 have HCS:=hid (hcs.keep hk6 fun _ _ e=>e)
 have HH:=hid (hk6.blk hh)
 have HCL:=hid hcl
 have HE:=hid (show ∀ j (h:j<p.threads.length),∃ q c,cur[j]?=some (.slice q p.threads[j].length c)∧SKids W6 (fun b=>w3.heap.size≤b∧b≠g) q 0 p.threads[j] from fun j h=>by
  obtain ⟨q,c,e1,e2⟩:=he j h
  exact ⟨q,c,e1,e2.keep hk6 fun _ _ e=>e⟩)
 have HB6:=hid hb6
 clear hk5 hk6 hs6 hg5 hg hcs hh hcl he hb6
 go_upto_region 7 with fail
 rw [←hW6,←hB6]
 clear hW6 hB6 c0 c1 c2 hz hzi rp1 rp2
 obtain ⟨q,c,hq,hsk⟩:=HE.out t (by rw [HN2.out];exact HTL.out)
 obtain ⟨m,hm⟩:∃ m,(p.threads[t]'(by rw [HN2.out];exact HTL.out)).length=m:=⟨_,rfl⟩
 rw [hm] at hq
 have HQ:=hid hq;have HSK:=hid hsk;have HM:=hid hm
 clear hq hsk hm
 have htn:(t:Int)<n2:=by have:=HTL.out;omega
 have ht0:(0:Int)≤t:=by omega
 have d2:=fun W' (h:KeepBut (fun k=>k=g) W6.drew W')=>(((KeepBut.drew _ W6).trans h).cell (blk3f HB6.out).2.2.1 (fun e=>by have e:B6=g:=e;have:=HG.out;omega))
 refine wp_own1 (by kernel_rfl) g (.cells cur TSs (0,0)) HH.out (fun i=>[[],[0],[],[],[3],[],[5],[],[5,6,7],[5,6,7,8],[3,4,5,6,7,8,9],[3,4,5,6,7,8,9,10],[0,1,2,3,4,5,6,7,8,9,10,11],[0,1,2,3,4,5,6,7,8,9,10,11,12]].getD i []) (fun i=>if i=9 then [14] else if i=13 then [14] else []) (fun i=>if i=13 then [14] else []) [4,11,13] (by kernel_rfl)
  (fun i=>if i=4 then some (sOneM TEx) else if i=9 then some (sConst (.slice q m c)) else if i=11 then some (sOneM TSm) else if i=13 then some (sPutAt g t TSs cur) else none) ?_
 apply lex_quiet rfl rfl
 ·intro w' hk;go_simp;with_reducible rfl
 simp only [Act.put,LS]
 apply lex_quiet rfl rfl
 ·intro w' hk;have e1:=d2 w' hk;go_simp;with_reducible rfl
 simp only [Act.put,LS]
 apply lex_quiet rfl rfl
 ·intro w' hk;go_simp;with_reducible rfl
 simp only [Act.put,LS]
 apply lex_quiet rfl rfl
 ·intro w' hk;go_simp;with_reducible rfl
 simp only [Act.put,LS]
 refine lex_loud rfl rfl (loud_oneM TEx #[.int .i64 1,.int .i64 0,.int .i64 1,.string ⟨#[]⟩,.slice none 0 0,.int .i64 0,.int .i64 0] (one_arg rfl rfl) (fun w=>by go_simp)) fun g4 _=>?_
 simp only [sOneM,Act.put,LS]
 apply lex_quiet rfl rfl
 ·intro w' hk;go_simp;with_reducible rfl
 simp only [Act.put,LS]
 apply lex_quiet rfl rfl
 ·intro w' hk;have e1:=d2 w' hk;go_simp;with_reducible rfl
 simp only [Act.put,LS]
 apply lex_quiet rfl rfl
 ·intro w' hk;go_simp;with_reducible rfl
 simp only [Act.put,LS]
 apply lex_quiet rfl rfl
 ·intro w' hk;go_simp;with_reducible rfl
 simp only [Act.put,LS]
 refine lex_loud rfl rfl (loud_run ⟨default,trivial⟩ (fun g _ w w' _ _ _ _ _=>trivial) fun w' hk hav _=>by
  have y:=blk_cell (show w'.heap[g]?=some (.cells cur TSs (0,0)) from (hav 14 (by decide)).1) HQ.out
  exact ⟨w',default,trivial,.inl (by go_simp <;> rfl),KeepBut.refl _ _,fun b h=>h.elim,trivial⟩) fun _ _=>?_
 simp only [sConst,Act.put,LS]
 apply lex_quiet rfl rfl
 ·intro w' hk;go_simp;with_reducible rfl
 simp only [Act.put,LS]
 refine lex_loud rfl rfl (loud_oneM TSm #[.int .i64 5,.string ⟨#[]⟩,.int .i64 0,.int .i64 0,.string ⟨#[]⟩,.string ⟨#[]⟩,.string ⟨#[]⟩,.slice (some ⟨g4.b,0,none⟩) 1 1,.slice q m c,.slice none 0 0,.int .i64 0,.int .i64 0] (one_arg rfl rfl) (fun w=>by go_simp)) fun g11 _=>?_
 simp only [Act.put,LS]
 apply lex_quiet rfl rfl
 ·intro w' hk;go_simp;with_reducible rfl
 simp only [Act.put,LS]
 refine lex_loud rfl rfl (loud_putAt g t TSs cur (.slice (some ⟨g11.b,0,none⟩) 1 1) (put_args rfl rfl) (fun w hw=>.inr ⟨by
  have y:=blk_cell hw HQ.out
  have fz:w.frozen? ⟨g,t,none⟩=false:=by simp [World.frozen?,hw]
  go_simp <;> rfl,rfl⟩) 14 (by decide) (by decide) (fun W h=>h) ⟨rfl,rfl⟩) fun _ _=>?_
 simp only [sPutAt,Act.put]
 refine lex_nil ?_
 intro W7 hk7a hF hx
 have f4:W7.heap[g4.b]?=some (.cells #[.int .i64 1,.int .i64 0,.int .i64 1,.string ⟨#[]⟩,.slice none 0 0,.int .i64 0,.int .i64 0] TEx (0,0)):=(hF 4 (by decide)).1 _ (one_arg rfl rfl)
 have f11:=(hF 11 (by decide)).1 _ (one_arg rfl rfl)
 have f13:=(hF 13 (by decide)).1 _ (put_args rfl rfl)
 have hk7:KeepBut (fun k=>k=g) W6 W7:=(KeepBut.drew _ W6).trans hk7a
 clear hF hx hk7a d2 htn ht0
 have f11:W7.heap[g11.b]?=some (.cells #[.int .i64 5,.string ⟨#[]⟩,.int .i64 0,.int .i64 0,.string ⟨#[]⟩,.string ⟨#[]⟩,.string ⟨#[]⟩,.slice (some ⟨g4.b,0,none⟩) 1 1,.slice q m c,.slice none 0 0,.int .i64 0,.int .i64 0] TSm (0,0)):=f11
 have f13:W7.heap[g]?=some (.cells (cur.setIfInBounds t (.slice (some ⟨g11.b,0,none⟩) 1 1)) TSs (0,0)):=f13
 have hlt:t<p.threads.length:=by rw [HN2.out];exact HTL.out
 have HGD:=hid (getD_at hlt)
 have HQP:=hid (show PAt W7 (fun _=>True) (.agg #[.int .i64 p.pool,.slice pc n1 cc,.slice (some ⟨g,0,none⟩) n2 c9]) (nestG p t) from by
  refine ⟨pc,cc,some ⟨g,0,none⟩,c9,?_,(HCS.out.keep hk7 fun b hb e=>hb.2 e).mono fun _ _=>trivial,ths_set (x:=[ifS (p.threads.getD t [])]) (S:=fun _=>True) (q:=some ⟨g11.b,0,none⟩) (c:=1) (by rw [HN2.out];exact HCL.out) hlt HE.out hk7 f13 ?_⟩
  ·unfold nestG
   rw [List.length_set,HN1.out,HN2.out]
  ·unfold SKids
   refine ⟨⟨g11.b,0,_,rfl,trivial,fun j v hj=>blk_cell f11 (by simpa using hj),?_⟩,by unfold SKids;trivial⟩
   unfold ifS SAt
   refine ⟨some ⟨g4.b,0,none⟩,1,q,c,none,0,by rw [HGD.out,HM.out];rfl,?_,?_,by unfold SKids;trivial⟩
   ·unfold GKids
    refine ⟨⟨g4.b,0,_,rfl,trivial,fun j v hj=>blk_cell f4 (by simpa using hj),?_⟩,by unfold GKids;trivial⟩
    unfold oneX GAt
    exact ⟨none,0,rfl,by unfold GKids;trivial⟩
   ·rw [HGD.out]
    exact (HSK.out.keep hk7 fun b hb e=>hb.2 e).mono fun _ _=>trivial)
 have HKV7:=hid (show KeepBut (fun _=>False) V W7 from HK6.out.newM hk7 fun b e=>.inr (by have e:b=g:=e;have:=HK3.out.size;have:=HG.out;omega))
 have HB67:=hid (hk7.blkE HB6.out fun e=>by have e:B6=g:=e;have:=HG.out;omega)
 clear f4 f11 f13 hk7 HCS HH HCL HE HSK HQ HB6
 obtain ⟨g2,o2,q2,e2,hp2,-,y0,hsk2⟩:=(show GThs V (fun _=>True) p2 p.threads from by
  obtain ⟨_,_,_,_,hv,_,hth⟩:=HPA0.out
  injection hv with hv
  have h2:=congrArg (fun a:Array Value=>a[2]?) hv
  simp at h2
  obtain ⟨rfl,-,-⟩:=h2
  exact hth) t hlt
 rw [HM.out] at y0
 have y0:=HKV7.out.stay y0
 have HSK2:=hid (hsk2.keep HKV7.out fun _ _ e=>e)
 subst hp2
 obtain ⟨W8a,X,hW8a,hX,hbx,hkx,hsx⟩:=fresh_block W7 (.cells #[.slice q2 m e2] TSs)
 obtain ⟨W8,B7,hW8,hB7,hb7,hk8,hs8⟩:=fresh_block W8a (.cells #[.int .i64 0,.slice none 0 0,.slice (some ⟨X,0,none⟩) 1 1] TPr)
 have hX7:X+1=B7:=by omega
 have hkx8:=hkx.trans hk8
 have HKV8:=hid (HKV7.out.trans hkx8)
 have HX:=hid (hk8.blk hbx)
 have HB78:=hid hb7
 have HB68:=hid (hkx8.blk HB67.out)
 have HQP8:=hid (HQP.out.keep hkx8 fun _ _ e=>e)
 have HOP8:=hid (show PAt W8 (fun _=>True) (.agg #[.int .i64 0,.slice none 0 0,.slice (some ⟨X,0,none⟩) 1 1]) (oneG p t) from by
  refine ⟨none,0,some ⟨X,0,none⟩,1,by unfold oneG;rfl,by unfold oneG;exact fun i hi=>absurd hi (by simp),?_⟩
  unfold oneG
  intro i hi
  obtain rfl:i=0:=by simpa using hi
  refine ⟨X,0,q2,e2,rfl,trivial,?_,?_⟩
  ·show W8.cell? ⟨X,0+0,none⟩=some (.slice q2 (p.threads.getD t []).length e2)
   rw [HGD.out,HM.out]
   exact blk_cell HX.out rfl
  ·show SKids W8 _ q2 0 (p.threads.getD t [])
   rw [HGD.out]
   exact HSK2.out.keep hkx8 fun _ _ e=>e)
 obtain ⟨c0,c1,c2,-⟩:=blk3f (HKV7.out.blk HB2.out)
 have htn:(t:Int)<n2:=by have:=HTL.out;omega
 have ht0:(0:Int)≤t:=by omega
 clear hsk2 hbx hkx hsx hb7 hk8 hs8 hkx8
 go_upto_region 9 with fail
 rw [←hW8a,←hX,←hW8,hX7]
 clear hW8a hX hW8 hB7 hX7 y0 c0 c1 c2
 obtain ⟨c0,c1,c2,-⟩:=blk3f (HKV8.out.blk HB2.out)
 go_wp2_with fail
 go_at_call 24
 refine (HOW.out W8 HKV8.out).mono ?_
 rintro e w9 ⟨u,rfl,hu,hk9⟩
 obtain ⟨pr,cr,pr2,cr2,rfl,hu⟩:=hu
 rcases hu with ⟨h0,-⟩ | ⟨h,cuh,rfl,hg,hcs,hh,hcl,he⟩
 ·exact absurd HTL.out (by have:=HN2.out;rw [h0] at this;simp at this;omega)
 rw [HN1.out,HN2.out]
 rw [HN2.out] at hcl
 obtain ⟨W9,B8,hW9,hB8,hb8,hk9b,hs9⟩:=fresh_block w9 (.cells #[.int .i64 p.pool,.slice pr n1 cr,.slice (some ⟨h,0,none⟩) n2 cr2] TPr)
 have HK9:=hid (hk9.trans hk9b)
 have hh9:=(Array.getElem?_eq_some_iff.1 hh).1
 have HH:=hid (show W8.heap.size≤h∧h<B8 by omega)
 have HCS:=hid (hcs.keep hk9b fun _ _ e=>e)
 have HHB:=hid (hk9b.blk hh)
 have HCL:=hid hcl
 have HE:=hid (show ∀ j (hj:j<p.threads.length),∃ q c,cuh[j]?=some (.slice q p.threads[j].length c)∧SKids W9 (fun b=>W8.heap.size≤b∧b≠h) q 0 p.threads[j] from fun j hj=>by
  obtain ⟨q,c,e1,e2⟩:=he j hj
  exact ⟨q,c,e1,e2.keep hk9b fun _ _ e=>e⟩)
 have HB89:=hid hb8
 clear hk9 hk9b hs9 hh9 hg hcs hh hcl he hb8 c0 c1 c2
 go_upto_region 10 with fail
 rw [←hW9,←hB8]
 clear hW9 hB8
 obtain ⟨c0,c1,c2,-⟩:=blk3f HB89.out
 obtain ⟨qh,ch,eh,-⟩:=HE.out t hlt
 have y0:W9.cell? ⟨h,t,none⟩=some _:=blk_cell HHB.out eh
 have fz:W9.frozen? ⟨h,t,none⟩=false:=by have hh:=HHB.out;simp [World.frozen?,hh]
 go_upto_region 11 with fail
 obtain ⟨W10,hW10⟩:∃ W10,W9.setCell ⟨h,t,none⟩ (.slice none 0 0)=W10:=⟨_,rfl⟩
 obtain ⟨hb10,hk10⟩:=put_cell (i:=t) HHB.out (.slice none 0 0)
 rw [hW10] at hb10 hk10 ⊢
 have HK10:=hid (show KeepBut (fun _=>False) W8 W10 from HK9.out.newM hk10 fun b e=>.inr (by have e:b=h:=e;have:=HH.out;omega))
 have HRP:=hid (show PAt W10 (fun _=>True) (.agg #[.int .i64 p.pool,.slice pr n1 cr,.slice (some ⟨h,0,none⟩) n2 cr2]) (restG p t) from by
  refine ⟨pr,cr,some ⟨h,0,none⟩,cr2,?_,(HCS.out.keep hk10 fun b hb e=>hb.2 e).mono fun _ _=>trivial,ths_set (x:=[]) (S:=fun _=>True) (q:=none) (c:=0) (by rw [HN2.out];exact HCL.out) hlt HE.out hk10 hb10 (by unfold SKids;trivial)⟩
  unfold restG
  rw [List.length_set,HN1.out,HN2.out])
 have HB80:=hid (hk10.blkE HB89.out fun e=>by have e:B8=h:=e;have:=HH.out;omega)
 clear hW10 hb10 hk10 y0 fz eh c0 c1 c2 htn ht0 HCS HHB HE HCL
 have HB60:=hid (HK10.out.blk HB68.out);have HB70:=hid (HK10.out.blk HB78.out);have HB20:=hid (HK10.out.blk (HKV8.out.blk HB2.out))
 have HKV0:=hid (HKV8.out.trans HK10.out)
 have HQ0:=hid (HQP8.out.keep HK10.out fun _ _ e=>e);have HO0:=hid (HOP8.out.keep HK10.out fun _ _ e=>e);have HP0:=hid (HPA0.out.keep HKV0.out fun _ _ e=>e)
 obtain ⟨so,hso⟩:∃ n,hSize (oneG p t).threads=n:=⟨_,rfl⟩
 obtain ⟨sr,hsr⟩:∃ n,hSize (restG p t).threads=n:=⟨_,rfl⟩
 obtain ⟨dn,hdn⟩:∃ n,hDeep (oneG p t).threads=n:=⟨_,rfl⟩
 obtain ⟨dr,hdr⟩:∃ n,hDeep (restG p t).threads=n:=⟨_,rfl⟩
 have hb1:=(HSO.out.size);have hb2:=HSR.out.size;have hb3:=hDeep_le (oneG p t).threads;have hb4:=hDeep_le (restG p t).threads
 rw [hso] at hb1 hb3
 rw [hsr] at hb2 hb4
 rw [hdn] at hb3
 rw [hdr] at hb4
 have hzp:(hSize p.threads:Int)=(so:Int)+sr:=by have:=HZP.out;rw [hso,hsr] at this;omega
 have hzq:(hSize (nestG p t).threads:Int)=(so:Int)+sr+2:=by have:=HZQ.out;omega
 have hdq:(hDeep (nestG p t).threads:Int)=max (dr:Int) (max 2 ((dn:Int)+1)):=by have:=HDQ.out;rw [hdn,hdr] at this;omega
 have hW1:IntKind.i64.wrap ((so:Int)+sr)=(so:Int)+sr:=IntWalk.i64_in _ (by omega)
 have hW2:IntKind.i64.wrap ((so:Int)+sr+2)=(so:Int)+sr+2:=IntWalk.i64_in _ (by omega)
 have hW3:IntKind.i64.wrap ((dn:Int)+1)=(dn:Int)+1:=IntWalk.i64_in _ (by omega)
 have HCQ0:=hid (fun W (k:KeepBut (fun _=>False) W10 W)=>by have h:=check_at _ HSQ.out W ((HKV0.out.trans k).tabS HT.out) _ _ (HQ0.out.keep k fun _ _ e=>e);rw [if_pos HCQ.out] at h;exact h)
 have HZQ0:=hid (fun W (k:KeepBut (fun _=>False) W10 W)=>by have h:=size_at _ HSQ.out W _ _ (HQ0.out.keep k fun _ _ e=>e);rw [hzq] at h;exact h)
 have HZP0:=hid (fun W (k:KeepBut (fun _=>False) W10 W)=>by have h:=size_at _ HSM.out W _ _ (HP0.out.keep k fun _ _ e=>e);rw [hzp,HN1.out,HN2.out] at h;exact h)
 have HZO0:=hid (fun W (k:KeepBut (fun _=>False) W10 W)=>by have h:=size_at _ HSO.out W _ _ (HO0.out.keep k fun _ _ e=>e);rw [hso] at h;exact h)
 have HZR0:=hid (fun W (k:KeepBut (fun _=>False) W10 W)=>by have h:=size_at _ HSR.out W _ _ (HRP.out.keep k fun _ _ e=>e);rw [hsr] at h;exact h)
 have HDQ0:=hid (fun W (k:KeepBut (fun _=>False) W10 W)=>by have h:=deep_at _ HSQ.out W _ _ (HQ0.out.keep k fun _ _ e=>e);rw [hdq] at h;exact h)
 have HDO0:=hid (fun W (k:KeepBut (fun _=>False) W10 W)=>by have h:=deep_at _ HSO.out W _ _ (HO0.out.keep k fun _ _ e=>e);rw [hdn] at h;exact h)
 have HDR0:=hid (fun W (k:KeepBut (fun _=>False) W10 W)=>by have h:=deep_at _ HSR.out W _ _ (HRP.out.keep k fun _ _ e=>e);rw [hdr] at h;exact h)
 have HSA0:=hid (fun W (k:KeepBut (fun _=>False) W10 W)=>by have h:=same_at _ _ HSM.out W _ _ _ _ (HP0.out.keep k fun _ _ e=>e) (HQ0.out.keep k fun _ _ e=>e);rw [HSA.out,HN1.out,HN2.out] at h;exact h)
 have HBK:=hid (fun W (k:KeepBut (fun _=>False) W10 W)=>back_any _ HSQ.out HCQ.out W ((HKV0.out.trans k).tabS HT.out) ((HKV0.out.trans k).tabP HP.out) _ _ (HQ0.out.keep k fun _ _ e=>e))
 clear hso hsr hdn hdr hb1 hb2 hb3 hb4 hzp hzq hdq
 clear HLV HLI HF HN1 HN2 HB2 HP2 HPA HPA0 HK1 HK2 HK3 HSM H9 HC HTL HSQ HSO HSR HCQ HZQ HDQ HZP HSA HOW HK6 HG HM HGD HQP HKV7 HB67 HSK2 HKV8 HX HB78 HB68 HQP8 HOP8 HK9 HH HB89 HK10 HRP HT HP HCK HLQ hlt
 have b6:=fun w' (k:KeepBut (fun _=>False) W10.drew w')=>blk3f (((KeepBut.drew _ W10).trans k).blk HB60.out)
 have b2:=fun w' (k:KeepBut (fun _=>False) W10.drew w')=>blk3f (((KeepBut.drew _ W10).trans k).blk HB20.out)
 have b7:=fun w' (k:KeepBut (fun _=>False) W10.drew w')=>blk3f (((KeepBut.drew _ W10).trans k).blk HB70.out)
 have b8:=fun w' (k:KeepBut (fun _=>False) W10.drew w')=>blk3f (((KeepBut.drew _ W10).trans k).blk HB80.out)
 refine wp_own0 (by kernel_rfl) (fun i=>[[],[0],[0,1],[0,1,2],[0,1,2,3],[0,1,2,3,4],[0,1,2,3],[0,1,2,3,4,5,6],[0,1,2,3,4,5,6,7],[0,1,2,3,4,5,6,7,8],[0,1,2,3,4,5,6,7,8,9],[0,1,2,3,4,5,6,7,8,9,10],[0,1,2,3,4,5,6,7,8,9,10,11],[0,1,2,3,4,5,6,7,8,9,10,11,12],[0,1,2,3,4,5,6,7,8,9,10,11],[0,1,2,3,4,5,6,7,8,9,10,11,12,13,14],[0,1,2,3,4,5,6,7,8,9,10,11],[0,1,2,3,4,5,6,7,8,9,10,11,12,13,14,15,16],[0,1,2,3,4,5,6,7,8,9,10,11,12,13,14,15,16,17],[0,1,2,3,4,5,6,7,8,9,10,11,12,13,14,15,16,17,18],[0,1,2,3,4,5,6,7,8,9,10,11,12,13,14,15,16,17,18,19],[0,1,2,3,4,5,6,7,8,9,10,11,12,13,14,15,16,17,18,19,20],[0,1,2,3,4,5,6,7,8,9,10,11,12,13,14,15,16,17,18,19,20,21],[0,1,2,3,4,5,6,7,8,9,10,11,12,13,14,15,16,17,18,19,20,21,22],[0,1,2,3,4,5,6,7,8,9,10,11,12,13,14,15,16,17,18,19,20,21,22,23],[0,1,2,3,4,5,6,7,8,9,10,11,12,13,14,15,16,17,18,19,20,21,22],[0,1,2,3,4,5,6,7,8,9,10,11,12,13,14,15,16,17,18,19,20,21,22,23,24,25],[0,1,2,3,4,5,6,7,8,9,10,11,12,13,14,15,16,17,18,19,20,21,22],[0,1,2,3,4,5,6,7,8,9,10,11,12,13,14,15,16,17,18,19,20,21,22,23,24,25,26,27],[0,1,2,3,4,5,6,7,8,9,10,11,12,13,14,15,16,17,18,19,20,21,22,23,24,25,26,27,28],[0,1,2,3,4,5,6,7,8,9,10,11,12,13,14,15,16,17,18,19,20,21,22,23,24,25,26,27,28,29],[0,1,2,3,4,5,6,7,8,9,10,11,12,13,14,15,16,17,18,19,20,21,22,23,24,25,26,27,28,29,30],[0,1,2,3,4,5,6,7,8,9,10,11,12,13,14,15,16,17,18,19,20,21,22,23,24,25,26,27,28,29,30,31],[0,1,2,3,4,5,6,7,8,9,10,11,12,13,14,15,16,17,18,19,20,21,22,23,24,25,26,27,28,29,30,31,32],[0,1,2,3,4,5,6,7,8,9,10,11,12,13,14,15,16,17,18,19,20,21,22,23,24,25,26,27,28,29,30,31,32],[0,1,2,3,4,5,6,7,8,9,10,11,12,13,14,15,16,17,18,19,20,21,22,23,24,25,26,27,28,29,30,31,32,33,34],[0,1,2,3,4,5,6,7,8,9,10,11,12,13,14,15,16,17,18,19,20,21,22,23,24,25,26,27,28,29,30,31,32,33,34,35]].getD i []) (fun _=>[]) (fun _=>[]) [] (by kernel_rfl) (fun i=>if i=1 then some (sConst (.int .i64 0)) else if i=5 then some (sConst (.int .i64 ((so:Int)+sr+2))) else if i=7 then some (sConst (.int .i64 ((so:Int)+sr))) else if i=13 then some (sConst (.int .i64 (max (dr:Int) (max 2 ((dn:Int)+1))))) else if i=15 then some (sConst (.int .i64 dr)) else if i=17 then some (sConst (.int .i64 dn)) else if i=24 then some (sConst (.int .i64 ((so:Int)+sr))) else if i=26 then some (sConst (.int .i64 so)) else if i=28 then some (sConst (.int .i64 sr)) else if i=35 then some (sConst (.bool false)) else none) ?_
 apply lex_quiet rfl rfl
 ·intro w' hk;obtain ⟨y0,y1,y2,-⟩:=b6 w' hk;go_simp;with_reducible rfl
 simp only [Act.put,LS]
 refine lex_loud rfl rfl (loud_call 20 _ (fun w=>by kernel_rfl) ⟨default,trivial⟩ (fun g _=>stable_true _) fun w' hk _ _=>(HCQ0.out w' ((KeepBut.drew _ W10).trans hk)).mono ?_) fun gs1 _=>?_
 ·rintro e w'' ⟨rfl,hq⟩
  exact ⟨default,trivial,rfl,hq.mono fun _ e=>e.elim,fun b h=>h.elim,trivial⟩
 simp only [sConst,Act.put,LS]
 apply lex_quiet rfl rfl
 ·intro w' hk;go_simp;with_reducible rfl
 simp only [Act.put,LS]
 apply lex_quiet rfl rfl
 ·intro w' hk;go_simp;with_reducible rfl
 simp only [Act.put,LS]
 apply lex_quiet rfl rfl
 ·intro w' hk;obtain ⟨y0,y1,y2,-⟩:=b6 w' hk;go_simp;with_reducible rfl
 simp only [Act.put,LS]
 refine lex_loud rfl rfl (loud_call 18 _ (fun w=>by kernel_rfl) ⟨default,trivial⟩ (fun g _=>stable_true _) fun w' hk _ _=>(HZQ0.out w' ((KeepBut.drew _ W10).trans hk)).mono ?_) fun gs5 _=>?_
 ·rintro e w'' ⟨rfl,hq⟩
  exact ⟨default,trivial,rfl,hq.mono fun _ e=>e.elim,fun b h=>h.elim,trivial⟩
 simp only [Act.put,LS]
 apply lex_quiet rfl rfl
 ·intro w' hk;obtain ⟨y0,y1,y2,-⟩:=b2 w' hk;go_simp;with_reducible rfl
 simp only [Act.put,LS]
 refine lex_loud rfl rfl (loud_call 18 _ (fun w=>by kernel_rfl) ⟨default,trivial⟩ (fun g _=>stable_true _) fun w' hk _ _=>(HZP0.out w' ((KeepBut.drew _ W10).trans hk)).mono ?_) fun gs7 _=>?_
 ·rintro e w'' ⟨rfl,hq⟩
  exact ⟨default,trivial,rfl,hq.mono fun _ e=>e.elim,fun b h=>h.elim,trivial⟩
 simp only [Act.put,LS]
 apply lex_quiet rfl rfl
 ·intro w' hk;go_simp;with_reducible rfl
 simp only [Act.put,LS]
 apply lex_quiet rfl rfl
 ·intro w' hk;go_simp;with_reducible rfl
 simp only [Act.put,LS]
 apply lex_quiet rfl rfl
 ·intro w' hk;go_simp;with_reducible rfl
 simp only [Act.put,LS]
 apply lex_quiet rfl rfl
 ·intro w' hk;go_simp;with_reducible rfl
 simp only [Act.put,LS]
 apply lex_quiet rfl rfl
 ·intro w' hk;obtain ⟨y0,y1,y2,-⟩:=b6 w' hk;go_simp;with_reducible rfl
 simp only [Act.put,LS]
 refine lex_loud rfl rfl (loud_call 19 _ (fun w=>by kernel_rfl) ⟨default,trivial⟩ (fun g _=>stable_true _) fun w' hk _ _=>(HDQ0.out w' ((KeepBut.drew _ W10).trans hk)).mono ?_) fun gs13 _=>?_
 ·rintro e w'' ⟨rfl,hq⟩
  exact ⟨default,trivial,rfl,hq.mono fun _ e=>e.elim,fun b h=>h.elim,trivial⟩
 simp only [Act.put,LS]
 apply lex_quiet rfl rfl
 ·intro w' hk;obtain ⟨y0,y1,y2,-⟩:=b8 w' hk;go_simp;with_reducible rfl
 simp only [Act.put,LS]
 refine lex_loud rfl rfl (loud_call 19 _ (fun w=>by kernel_rfl) ⟨default,trivial⟩ (fun g _=>stable_true _) fun w' hk _ _=>(HDR0.out w' ((KeepBut.drew _ W10).trans hk)).mono ?_) fun gs15 _=>?_
 ·rintro e w'' ⟨rfl,hq⟩
  exact ⟨default,trivial,rfl,hq.mono fun _ e=>e.elim,fun b h=>h.elim,trivial⟩
 simp only [Act.put,LS]
 apply lex_quiet rfl rfl
 ·intro w' hk;obtain ⟨y0,y1,y2,-⟩:=b7 w' hk;go_simp;with_reducible rfl
 simp only [Act.put,LS]
 refine lex_loud rfl rfl (loud_call 19 _ (fun w=>by kernel_rfl) ⟨default,trivial⟩ (fun g _=>stable_true _) fun w' hk _ _=>(HDO0.out w' ((KeepBut.drew _ W10).trans hk)).mono ?_) fun gs17 _=>?_
 ·rintro e w'' ⟨rfl,hq⟩
  exact ⟨default,trivial,rfl,hq.mono fun _ e=>e.elim,fun b h=>h.elim,trivial⟩
 simp only [Act.put,LS]
 apply lex_quiet rfl rfl
 ·intro w' hk;go_simp;with_reducible rfl
 simp only [Act.put,LS]
 apply lex_quiet rfl rfl
 ·intro w' hk;have e1:=run_max3 (P:=Tryz.prog) w' (dr:Int) 2 ((dn:Int)+1);go_simp;with_reducible rfl
 simp only [Act.put,LS]
 apply lex_quiet rfl rfl
 ·intro w' hk;go_simp;with_reducible rfl
 simp only [Act.put,LS]
 apply lex_quiet rfl rfl
 ·intro w' hk;go_simp;with_reducible rfl
 simp only [Act.put,LS]
 apply lex_quiet rfl rfl
 ·intro w' hk;go_simp;with_reducible rfl
 simp only [Act.put,LS]
 apply lex_quiet rfl rfl
 ·intro w' hk;obtain ⟨y0,y1,y2,-⟩:=b2 w' hk;go_simp;with_reducible rfl
 simp only [Act.put,LS]
 refine lex_loud rfl rfl (loud_call 18 _ (fun w=>by kernel_rfl) ⟨default,trivial⟩ (fun g _=>stable_true _) fun w' hk _ _=>(HZP0.out w' ((KeepBut.drew _ W10).trans hk)).mono ?_) fun gs24 _=>?_
 ·rintro e w'' ⟨rfl,hq⟩
  exact ⟨default,trivial,rfl,hq.mono fun _ e=>e.elim,fun b h=>h.elim,trivial⟩
 simp only [Act.put,LS]
 apply lex_quiet rfl rfl
 ·intro w' hk;obtain ⟨y0,y1,y2,-⟩:=b7 w' hk;go_simp;with_reducible rfl
 simp only [Act.put,LS]
 refine lex_loud rfl rfl (loud_call 18 _ (fun w=>by kernel_rfl) ⟨default,trivial⟩ (fun g _=>stable_true _) fun w' hk _ _=>(HZO0.out w' ((KeepBut.drew _ W10).trans hk)).mono ?_) fun gs26 _=>?_
 ·rintro e w'' ⟨rfl,hq⟩
  exact ⟨default,trivial,rfl,hq.mono fun _ e=>e.elim,fun b h=>h.elim,trivial⟩
 simp only [Act.put,LS]
 apply lex_quiet rfl rfl
 ·intro w' hk;obtain ⟨y0,y1,y2,-⟩:=b8 w' hk;go_simp;with_reducible rfl
 simp only [Act.put,LS]
 refine lex_loud rfl rfl (loud_call 18 _ (fun w=>by kernel_rfl) ⟨default,trivial⟩ (fun g _=>stable_true _) fun w' hk _ _=>(HZR0.out w' ((KeepBut.drew _ W10).trans hk)).mono ?_) fun gs28 _=>?_
 ·rintro e w'' ⟨rfl,hq⟩
  exact ⟨default,trivial,rfl,hq.mono fun _ e=>e.elim,fun b h=>h.elim,trivial⟩
 simp only [Act.put,LS]
 apply lex_quiet rfl rfl
 ·intro w' hk;go_simp;with_reducible rfl
 simp only [Act.put,LS]
 apply lex_quiet rfl rfl
 ·intro w' hk;go_simp;with_reducible rfl
 simp only [Act.put,LS]
 apply lex_quiet rfl rfl
 ·intro w' hk;go_simp;with_reducible rfl
 simp only [Act.put,LS]
 apply lex_quiet rfl rfl
 ·intro w' hk;go_simp;with_reducible rfl
 simp only [Act.put,LS]
 apply lex_quiet rfl rfl
 ·intro w' hk;obtain ⟨y0,y1,y2,-⟩:=b2 w' hk;go_simp;with_reducible rfl
 simp only [Act.put,LS]
 apply lex_quiet rfl rfl
 ·intro w' hk;obtain ⟨y0,y1,y2,-⟩:=b6 w' hk;go_simp;with_reducible rfl
 simp only [Act.put,LS]
 refine lex_loud rfl rfl (loud_call 21 _ (fun w=>by kernel_rfl) ⟨default,trivial⟩ (fun g _=>stable_true _) fun w' hk _ _=>(HSA0.out w' ((KeepBut.drew _ W10).trans hk)).mono ?_) fun gs35 _=>?_
 ·rintro e w'' ⟨rfl,hq⟩
  exact ⟨default,trivial,rfl,hq.mono fun _ e=>e.elim,fun b h=>h.elim,trivial⟩
 simp only [Act.put,LS]
 apply lex_quiet rfl rfl
 ·intro w' hk;go_simp;with_reducible rfl
 simp only [Act.put,LS]
 refine lex_nil ?_
 intro W11 hk11a hx1 hx2
 have hk11:=(KeepBut.drew (fun _=>False) W10).trans hk11a
 clear hk11a hx1 hx2
 obtain ⟨y0,y1,y2,-⟩:=blk3f (hk11.blk HB60.out)
 have HBQ:=hid (HBK.out W11 hk11)
 have HK11:=hid hk11
 clear b6 b2 b7 b8 hk11 hW1 hW2 hW3
 go_wp2_with fail
 go_at_call 23
 refine HBQ.out.mono ?_
 rintro e w12 ⟨rfl,hk12⟩
 have HKE:=hid ((HKV.out.trans HKV0.out).trans (HK11.out.trans hk12))
 clear hk12
 go_wp2_with fail
 go_ret
 exact ⟨rfl,HKE.out⟩
/-
  The chapter's examples: what is read out of them, what their texts are.
-/
def tA:List UInt8:=[49,32,45,32,50,32,45,32,51]
def tB:List UInt8:=[49,32,43,32,50,32,42,32,51]
def tP:List UInt8:=[112,111,111,108,32,52,32,59,32,115,116,97,99,107,32,115,32,59,32,116,104,114,101,97,100,32,123,32,97,32,44,32,98,32,61,32,112,111,112,32,40,32,115,32,41,32,59,32,125]
def iA:List Item:=[⟨⟨3,[49],1⟩,1,1,0⟩,⟨⟨4,[45],0⟩,1,3,0⟩,⟨⟨3,[50],2⟩,1,5,0⟩,⟨⟨4,[45],0⟩,1,7,0⟩,⟨⟨3,[51],3⟩,1,9,0⟩]
def iB:List Item:=[⟨⟨3,[49],1⟩,1,1,0⟩,⟨⟨4,[43],0⟩,1,3,0⟩,⟨⟨3,[50],2⟩,1,5,0⟩,⟨⟨4,[42],0⟩,1,7,0⟩,⟨⟨3,[51],3⟩,1,9,0⟩]
def nX (n l c:Nat):Ex:=.mk 1 0 n [] l c []
def xA:Ex:=.mk 5 5 0 [] 1 7 [.mk 5 5 0 [] 1 3 [nX 1 1 1,nX 2 1 5],nX 3 1 9]
def xB:Ex:=.mk 5 4 0 [] 1 3 [nX 1 1 1,.mk 5 1 0 [] 1 7 [nX 2 1 5,nX 3 1 9]]
theorem allA:allT tA=(iA,⟨0,0,0⟩):=by kernel_rfl
theorem allB:allT tB=(iB,⟨0,0,0⟩):=by kernel_rfl
theorem exA:exP 3 iA=some (xA,[]):=by kernel_rfl
theorem exB:exP 3 iB=some (xB,[]):=by kernel_rfl
def iP2:List Item:=[⟨⟨1,[116,104,114,101,97,100],0⟩,1,20,0⟩,⟨⟨4,[123],0⟩,1,27,0⟩,⟨⟨2,[97],0⟩,1,29,0⟩,⟨⟨4,[44],0⟩,1,31,0⟩,⟨⟨2,[98],0⟩,1,33,0⟩,⟨⟨4,[61],0⟩,1,35,0⟩,⟨⟨1,[112,111,112],0⟩,1,37,0⟩,⟨⟨4,[40],0⟩,1,41,0⟩,⟨⟨2,[115],0⟩,1,43,0⟩,⟨⟨4,[41],0⟩,1,45,0⟩,⟨⟨4,[59],0⟩,1,47,0⟩,⟨⟨4,[125],0⟩,1,49,0⟩]
def iP1:List Item:=⟨⟨1,[115,116,97,99,107],0⟩,1,10,0⟩::⟨⟨2,[115],0⟩,1,16,0⟩::⟨⟨4,[59],0⟩,1,18,0⟩::iP2
def iP:List Item:=⟨⟨1,[112,111,111,108],0⟩,1,1,0⟩::⟨⟨3,[52],4⟩,1,6,0⟩::⟨⟨4,[59],0⟩,1,8,0⟩::iP1
theorem allP:allT tP=(iP,⟨0,0,0⟩):=by kernel_rfl
def sP:St:=.mk 9 [] 0 2 [97] [98] [115] [] [] [] 1 29
def pP:Pr:=⟨4,[⟨1,[115],1,10⟩],[[sP]]⟩
theorem noWord {t:Item} {r:List Item} (h:t.tok.kind=2) (k:List UInt8):headIs (t::r) k=false:=by
 unfold headIs isT
 simp [h]
theorem readsPP (R el ec:Nat):ReadsP R el ec iP pP:=by
 have hS:ReadsS R el ec (iP2.drop 2) [⟨⟨4,[125],0⟩,1,49,0⟩] sP:=by
  refine stmt_plain R el ec ⟨⟨2,[97],0⟩,1,29,0⟩ (iP2.drop 3) [⟨⟨4,[125],0⟩,1,49,0⟩] sP (fun k=>noWord rfl k) fun w Bs hr hB hRB=>?_
  exact plain_two w R el ec 1 Bs ⟨⟨2,[97],0⟩,1,29,0⟩ ⟨⟨2,[98],0⟩,1,33,0⟩ (iP2.drop 3) (iP2.drop 5) (iP2.drop 6) [⟨⟨4,[125],0⟩,1,49,0⟩] 2 1 29 [115] [] hr hB hRB rfl (by kernel_rfl) (by kernel_rfl) (by kernel_rfl) rfl (by kernel_rfl) (by kernel_rfl)
 have hB:ReadsB R el ec (iP2.drop 1) [] [sP]:=fun w hr=>
  block_reads R el ec (iP2.drop 1) [] [sP] (fun ts s m=>ReadsS R el ec ts m s) (fun _ _ _ h=>h) (by kernel_rfl) ⟨by kernel_rfl,[⟨⟨4,[125],0⟩,1,49,0⟩],hS,by decide,by kernel_rfl,rfl⟩ (by decide) w hr
 intro w hr
 refine (program_reads R el ec iP (⟨⟨4,[59],0⟩,1,8,0⟩::iP1) iP1 iP2 [] ⟨⟨3,[52],4⟩,1,6,0⟩ pP.conts pP.threads (fun ts b m=>ReadsB R el ec ts m b) (fun _ _ _ h=>h) (by kernel_rfl) rfl (by kernel_rfl)
  ⟨⟨⟨1,[115,116,97,99,107],0⟩,1,10,0⟩,⟨⟨2,[115],0⟩,1,16,0⟩,⟨⟨4,[59],0⟩,1,18,0⟩::iP2,iP2,rfl,rfl,by decide +kernel,rfl,by kernel_rfl,rfl,rfl,fun t r0 h=>by cases h;decide +kernel⟩
  ⟨iP2.drop 1,[],by kernel_rfl,hB,by decide,rfl⟩ (by decide) (by decide) w hr).mono ?_
 rintro e w' ⟨p,c,q,d,rfl,h1,h2,-,h3⟩
 exact ⟨_,rfl,⟨p,c,q,d,rfl,h1,h2⟩,h3⟩
theorem itoa_small {n:Nat} (h:n<10):Lib.itoa n=[UInt8.ofNat (48+n)]:=by
 unfold Lib.itoa
 rw [if_neg (by omega)]
 unfold Lib.decDigits
 rw [dif_pos (by simpa using h)]
 simp
theorem textA:mayG (toG xA)=true∧tokG (toG xA)=[[40],[49],[45],[50],[41],[45],[51]]:=by
 refine ⟨by decide +kernel,?_⟩
 have h1:=itoa_small (n:=1) (by decide)
 have h2:=itoa_small (n:=2) (by decide)
 have h3:=itoa_small (n:=3) (by decide)
 simp only [xA,nX,toG,toGL]
 show tokG (.mk 5 5 _ _ _ _ [.mk 5 5 _ _ _ _ [.mk 1 _ 1 _ _ _ [],.mk 1 _ 2 _ _ _ []],.mk 1 _ 3 _ _ _ []])=_
 rw [tok_5,tok_5,tok_1,tok_1,tok_1]
 rw [show Lib.itoa 1=_ from h1,show Lib.itoa 2=_ from h2,show Lib.itoa 3=_ from h3]
 rfl
theorem textB:mayG (toG xB)=true∧tokG (toG xB)=[[49],[43],[40],[50],[42],[51],[41]]:=by
 refine ⟨by decide +kernel,?_⟩
 have h1:=itoa_small (n:=1) (by decide)
 have h2:=itoa_small (n:=2) (by decide)
 have h3:=itoa_small (n:=3) (by decide)
 simp only [xB,nX,toG,toGL]
 show tokG (.mk 5 4 _ _ _ _ [.mk 1 _ 1 _ _ _ [],.mk 5 1 _ _ _ _ [.mk 1 _ 2 _ _ _ [],.mk 1 _ 3 _ _ _ []]])=_
 rw [tok_5,tok_5,tok_1,tok_1,tok_1]
 rw [show Lib.itoa 1=_ from h1,show Lib.itoa 2=_ from h2,show Lib.itoa 3=_ from h3]
 rfl
theorem exprTextA (w:World) (S:Nat→Prop) (vs:List Value) (hex:ExAt w S vs xA) (hT:TabS w) (hP:TabP w):
  Calls Tryz.prog 10 #[.agg vs.toArray] w fun e w'=>e=.returned (.string ⟨#[40,32,49,32,45,32,50,32,41,32,45,32,51]⟩)∧KeepBut (fun _=>False) w w':=by
 have h:=exprText_any (toG xA) S vs w hex.toG hT hP (by simp [xA,nX,toG,toGL,fitG,fitGL]) (by decide +kernel) (fun _=>by rw [textA.2];exact ⟨by decide,by decide⟩)
 rw [if_pos textA.1,textA.2] at h
 exact h
theorem exprTextB (w:World) (S:Nat→Prop) (vs:List Value) (hex:ExAt w S vs xB) (hT:TabS w) (hP:TabP w):
  Calls Tryz.prog 10 #[.agg vs.toArray] w fun e w'=>e=.returned (.string ⟨#[49,32,43,32,40,32,50,32,42,32,51,32,41]⟩)∧KeepBut (fun _=>False) w w':=by
 have h:=exprText_any (toG xB) S vs w hex.toG hT hP (by simp [xB,nX,toG,toGL,fitG,fitGL]) (by decide +kernel) (fun _=>by rw [textB.2];exact ⟨by decide,by decide⟩)
 rw [if_pos textB.1,textB.2] at h
 exact h
theorem exprA (w:World) (hT:TabS w):Calls Tryz.prog 11 #[.string ⟨#[49,32,45,32,50,32,45,32,51]⟩] w fun e w'=>∃ vs,e=.returned (.tuple #[.agg vs.toArray,.agg #[.int .i64 0,.int .i64 0,.int .i64 0]])∧ExAt w' (fun b=>w.heap.size≤b) vs xA∧KeepBut (fun _=>False) w w':=
 expr_any 3 ⟨tA.toArray⟩ iA xA w hT allA (by decide) exA (by decide) (by decide +kernel) (by decide +kernel)
theorem exprB (w:World) (hT:TabS w):Calls Tryz.prog 11 #[.string ⟨#[49,32,43,32,50,32,42,32,51]⟩] w fun e w'=>∃ vs,e=.returned (.tuple #[.agg vs.toArray,.agg #[.int .i64 0,.int .i64 0,.int .i64 0]])∧ExAt w' (fun b=>w.heap.size≤b) vs xB∧KeepBut (fun _=>False) w w':=
 expr_any 3 ⟨tB.toArray⟩ iB xB w hT allB (by decide) exB (by decide) (by decide +kernel) (by decide +kernel)
theorem progP_any (w:World) (hT:TabS w):Calls Tryz.prog 16 #[.string ⟨tP.toArray⟩] w fun e w'=>∃ vs,e=.returned (.tuple #[.agg vs.toArray,.agg #[.int .i64 0,.int .i64 0,.int .i64 0]])∧PrgAt w' (fun b=>w.heap.size≤b) vs pP∧KeepBut (fun _=>False) w w':=
 prog_any ⟨tP.toArray⟩ iP pP w hT allP (by decide) (fun R el ec=>readsPP R el ec) (by decide) (by decide) (by decide +kernel) (by decide +kernel)
/-
  The chapter's examples: lives.
-/
theorem progP2 (w:World) (hT:TabS w):Calls Tryz.prog 16 #[.string ⟨tP.toArray⟩] w fun e w'=>∃ p c q d,e=.returned (.tuple #[.agg #[.int .i64 4,.slice p 1 c,.slice q 1 d],.agg #[.int .i64 0,.int .i64 0,.int .i64 0]])∧ThsAt w' (fun b=>w.heap.size≤b) q [[sP]]∧KeepBut (fun _=>False) w w':=by
 refine (progP_any w hT).mono ?_
 rintro e w' ⟨vs,rfl,⟨p,c,q,d,rfl,-,h⟩,hk⟩
 exact ⟨p,c,q,d,rfl,h,hk⟩
set_option maxRecDepth 4000 in
set_option maxHeartbeats 32000000 in
theorem lives17 (w:World) (hT:TabS w) (hP:TabP w):Calls Tryz.prog 8 #[] w fun e w'=>e=.returned (.bool true)∧KeepBut (fun _=>False) w w':=by
 have HT:=hid hT;have HP:=hid hP
 have HA:=hid (exprA w hT)
 clear hT hP
 go_enter Tryz.func8,Tryz.ntmps8
 go_wp2_with fail
 go_at_call 11
 refine HA.out.mono ?_
 rintro e w1 ⟨vs,rfl,hex,hk⟩
 obtain ⟨ak,ao,an,aS,ap,am,ac,al,acl,rfl⟩:=ex_form hex
 obtain ⟨X,E1,hX,hE,hbe,hkx,hsx⟩:=fresh_block w1 (.cells #[.int .i64 ak,.int .i64 ao,.int .i64 an,.string aS,.slice ap am ac,.int .i64 al,.int .i64 acl] TEx)
 obtain ⟨W1,F1,hW,hF,hbf,hky,hsy⟩:=fresh_block X (.cells #[.int .i64 0,.int .i64 0,.int .i64 0] TFa)
 have hkk:=hkx.trans hky
 have h12:E1+1=F1:=by omega
 have HK1:=hid (hk.trans hkk);have HE11:=hid (hky.blk hbe);have HF11:=hid hbf;have HXA1:=hid (hex.keep hkk fun _ _ e=>e)
 clear hex
 clear hk hkk hbe hbf hkx hky hsx hsy
 go_upto_region 2 with fail
 rw [←hX,←hW,←hE,h12]
 clear hX hW hE hF h12
 have HB:=hid (exprB W1 (HK1.out.tabS HT.out))
 go_wp2_with fail
 go_at_call 11
 refine HB.out.mono ?_
 rintro e w2 ⟨vs,rfl,hey,hk⟩
 obtain ⟨bk,bo,bn,bS,bp,bm,bc,bl,bcl,rfl⟩:=ex_form hey
 obtain ⟨X,E2,hX,hE,hbe,hkx,hsx⟩:=fresh_block w2 (.cells #[.int .i64 bk,.int .i64 bo,.int .i64 bn,.string bS,.slice bp bm bc,.int .i64 bl,.int .i64 bcl] TEx)
 obtain ⟨W2,F2,hW,hF,hbf,hky,hsy⟩:=fresh_block X (.cells #[.int .i64 0,.int .i64 0,.int .i64 0] TFa)
 have hkk:=hkx.trans hky
 have h12:E2+1=F2:=by omega
 have hk2:=hk.trans hkk
 have HK2:=hid (HK1.out.trans hk2);have HE12:=hid (hk2.blk HE11.out);have HF12:=hid (hk2.blk HF11.out);have HE22:=hid (hky.blk hbe);have HF22:=hid hbf;have HXA2:=hid (HXA1.out.keep hk2 fun _ _ e=>e);have HXB2:=hid (hey.keep hkk fun _ _ e=>e)
 clear hey hk2
 clear hk hkk hbe hbf hkx hky hsx hsy
 go_upto_region 3 with fail
 rw [←hX,←hW,←hE,h12]
 clear hX hW hE hF h12
 have HC:=hid (by have h:=progP2 W2 (HK2.out.tabS HT.out);unfold tP at h;exact h)
 go_wp2_with fail
 go_at_call 16
 refine HC.out.mono ?_
 rintro e w3 ⟨p,c,q,d,rfl,hth,hk⟩
 obtain ⟨X,E3,hX,hE,hbe,hkx,hsx⟩:=fresh_block w3 (.cells #[.int .i64 4,.slice p 1 c,.slice q 1 d] TPr)
 obtain ⟨W3,F3,hW,hF,hbf,hky,hsy⟩:=fresh_block X (.cells #[.int .i64 0,.int .i64 0,.int .i64 0] TFa)
 have hkk:=hkx.trans hky
 have h12:E3+1=F3:=by omega
 have hk2:=hk.trans hkk
 have HK3:=hid (HK2.out.trans hk2);have HE13:=hid (hk2.blk HE12.out);have HF13:=hid (hk2.blk HF12.out);have HE23:=hid (hk2.blk HE22.out);have HF23:=hid (hk2.blk HF22.out);have HE33:=hid (hky.blk hbe);have HF33:=hid hbf;have HXA3:=hid (HXA2.out.keep hk2 fun _ _ e=>e);have HXB3:=hid (HXB2.out.keep hk2 fun _ _ e=>e);have HTH:=hid (hth.keepS (w':=W3) (S':=fun b=>W2.heap.size≤b) (fun b o v _ hc=>hkk.stay hc) fun b hb=>hb)
 clear hth hk2
 clear hk hkk hbe hbf hkx hky hsx hsy
 go_upto_region 4 with fail
 rw [←hX,←hW,←hE,h12]
 clear hX hW hE hF h12
 obtain ⟨g,p1,c1,rfl,hc1,hst⟩:=ths_get HTH.out 0 (by decide)
 obtain ⟨g2,o2,vs,rfl,hc2,hs2⟩:=sts_get hst 0 (by decide)
 obtain ⟨s1,d1,s2,d2,s3,d3,rfl,-⟩:=(by unfold sP at hs2;simp only [List.getElem_cons_zero] at hs2;unfold StAt at hs2;exact hs2)
 have e0:W3.cell? ⟨g,0,none⟩=some (.slice (some ⟨g2,o2,none⟩) 1 c1):=hc1
 have y0:W3.cell? ⟨g2,o2,none⟩=some (.int .i64 9):=hc2 0 _ rfl
 have y1:W3.cell? ⟨g2,o2+1,none⟩=some (.string ⟨#[]⟩):=hc2 1 _ rfl
 have y2:W3.cell? ⟨g2,o2+2,none⟩=some (.int .i64 0):=hc2 2 _ rfl
 have y3:W3.cell? ⟨g2,o2+3,none⟩=some (.int .i64 2):=hc2 3 _ rfl
 have y4:W3.cell? ⟨g2,o2+4,none⟩=some (.string ⟨#[97]⟩):=hc2 4 _ rfl
 have y5:W3.cell? ⟨g2,o2+5,none⟩=some (.string ⟨#[98]⟩):=hc2 5 _ rfl
 have y6:W3.cell? ⟨g2,o2+6,none⟩=some (.string ⟨#[115]⟩):=hc2 6 _ rfl
 have y7:W3.cell? ⟨g2,o2+7,none⟩=some (.slice s1 0 d1):=hc2 7 _ rfl
 have y8:W3.cell? ⟨g2,o2+8,none⟩=some (.slice s2 0 d2):=hc2 8 _ rfl
 have y9:W3.cell? ⟨g2,o2+9,none⟩=some (.slice s3 0 d3):=hc2 9 _ rfl
 have y10:W3.cell? ⟨g2,o2+10,none⟩=some (.int .i64 1):=hc2 10 _ rfl
 have y11:W3.cell? ⟨g2,o2+11,none⟩=some (.int .i64 29):=hc2 11 _ rfl
 obtain ⟨m0,m1,m2,-⟩:=blk3f HF13.out
 obtain ⟨k0,k1,k2,-⟩:=blk3f HF23.out
 obtain ⟨l0,l1,l2,-⟩:=blk3f HF33.out
 obtain ⟨r0,r1,r2,-⟩:=blk3f HE33.out
 clear hc1 hc2 hst
 obtain ⟨W4,G4,hW4,hG4,hbg,hkg,hsg⟩:=fresh_block W3 (.cells #[.int .i64 9,.string ⟨#[]⟩,.int .i64 0,.int .i64 2,.string ⟨#[97]⟩,.string ⟨#[98]⟩,.string ⟨#[115]⟩,.slice s1 0 d1,.slice s2 0 d2,.slice s3 0 d3,.int .i64 1,.int .i64 29] TSm)
 have HK4:=hid (HK3.out.trans hkg);have HG4:=hid hbg;have HE14:=hid (hkg.blk HE13.out);have HE24:=hid (hkg.blk HE23.out);have HE34:=hid (hkg.blk HE33.out)
 have HXA4:=hid (HXA3.out.keep hkg fun _ _ e=>e);have HXB4:=hid (HXB3.out.keep hkg fun _ _ e=>e)
 clear hbg hkg hsg
 go_upto_region 7 with fail
 rw [←hW4,←hG4]
 clear hW4 hG4 e0 y0 y1 y2 y3 y4 y5 y6 y7 y8 y9 y10 y11 m0 m1 m2 k0 k1 k2 l0 l1 l2 r0 r1 r2
 have HTA:=hid (exprTextA W4 _ _ HXA4.out (HK4.out.tabS HT.out) (HK4.out.tabP HP.out))
 obtain ⟨a0,a1,a2,a3,a4,a5,a6,-⟩:=blk7 HE14.out
 go_wp2_with fail
 go_at_call 10
 refine HTA.out.mono ?_
 rintro e W5 ⟨rfl,hk5⟩
 have HTB:=hid (exprTextB W5 _ _ (HXB4.out.keep hk5 fun _ _ e=>e) ((HK4.out.trans hk5).tabS HT.out) ((HK4.out.trans hk5).tabP HP.out))
 have HE25:=hid (hk5.blk HE24.out);have HK5:=hid (HK4.out.trans hk5);have HG5:=hid (hk5.blk HG4.out);have HE35:=hid (hk5.blk HE34.out)
 clear hk5 a0 a1 a2 a3 a4 a5 a6
 obtain ⟨a0,a1,a2,a3,a4,a5,a6,-⟩:=blk7 HE25.out
 go_wp2_with fail
 go_at_call 10
 refine HTB.out.mono ?_
 rintro e W6 ⟨rfl,hk6⟩
 have hg6:=hk6.blk HG5.out;have he6:=hk6.blk HE35.out
 have HK6:=hid (HK5.out.trans hk6)
 obtain ⟨y0,y1,y2,y3,y4,y5,y6,y7,y8,y9,y10,y11⟩:=blk12 hg6
 obtain ⟨r0,r1,r2,-⟩:=blk3f he6
 clear hk6 hg6 he6 a0 a1 a2 a3 a4 a5 a6
 go_wp2_with fail
 go_ret
 exact ⟨rfl,HK6.out⟩
/-
  What the rows' condition gives the walks: the table of blanks and the powers of ten.
-/
open Go Go.ChangeShapes Go.WideShapes Go.ChangeAt Go.RowKit
theorem Tryz.own:ownKnob Tryz.prog.godebug=none:=by kernel_rfl
theorem Tryz.laidOut:laidOutB Tryz.prog=true:=by kernel_rfl
theorem tabs_of_laid {W:World} (h:laidMetH Tryz.prog Rows.parseRowsRow.laid W):TabS W∧TabP W:=by
 rw [MakeChecks.laidMetH_plain _ _ _ (by kernel_rfl)] at h
 obtain ⟨ps,⟨g0,t0,cs0,f0,p0,q0,hg0,ht0,hv0,hd0,⟨g1,t1,cs1,f1,p1,q1,hg1,ht1,hv1,hd1,⟨g2,t2,cs2,f2,p2,q2,hg2,ht2,hv2,hd2,⟨g3,t3,cs3,f3,p3,q3,hg3,ht3,hv3,hd3,⟨g4,t4,cs4,f4,p4,q4,hg4,ht4,hv4,hd4,_,_⟩,_⟩,_⟩,_⟩,_⟩,_,_⟩:=h
 constructor
 ·obtain rfl := Option.some.inj ((show Tryz.prog.globalNamed "strings.asciiSpace" = some 1 by kernel_rfl).symm.trans hg4)
  obtain rfl:=Option.some.inj ((show (Tryz.prog.globals[1]?).map (·.type)=some 182 by kernel_rfl).symm.trans ht4)
  unfold TabS Lib.TabIs
  have e:(Rows.laid_strings_asciiSpace:DataW Unit)=Lib.tabData .u8 Lib.asciiSpaceTab:=by kernel_rfl
  rw [e] at hd4
  rw [hv4,←Lib.cells_of_tab Tryz.underlying182 Tryz.underlying5 (by kernel_rfl) (by kernel_rfl) hd4]
 ·obtain rfl := Option.some.inj ((show Tryz.prog.globalNamed "internal/strconv.uint64pow10" = some 0 by kernel_rfl).symm.trans hg2)
  obtain rfl:=Option.some.inj ((show (Tryz.prog.globals[0]?).map (·.type)=some 179 by kernel_rfl).symm.trans ht2)
  unfold TabP Lib.TabIs
  have e:(Rows.laid_internal_strconv_uint64pow10:DataW Unit)=Lib.tabData .u64 Lib.pow10Tab:=by kernel_rfl
  rw [e] at hd2
  rw [hv2,←Lib.cells_of_tab Tryz.underlying179 Tryz.underlying168 (by kernel_rfl) (by kernel_rfl) hd2]
/-
  Arguments of the statements: lists of arguments behind a call that only makes memory.
-/
theorem trodAll_below {H:Type} {enc:TypeId × Value→H} {P:Program} {W W':World} (hl:laidOutB P=true) (hb:Below W.heap.size W W'):∀ (ts:List TypeId) (vs:List Value) (ds:List (DataW H)) (ps:List MemPlace),
  (ts.all fun t=>P.readableRec t && decide (t<P.types.size))=true→DataW.TrodAll enc P W 0 (fun _=>true) true ts vs ds ps→(∀ x∈ps,x.block<W.heap.size)→DataW.TrodAll enc P W' 0 (fun b=>decide (b<W.heap.size)) true ts vs ds ps
 | [],[],[],_,_,h,_=>h
 | t::ts,v::vs,d::ds,ps,hr,h,hlt=>by
  obtain ⟨p,q,h1,h2,e⟩:=h
  simp only [List.all_cons,Bool.and_eq_true,decide_eq_true_eq] at hr
  exact ⟨p,q,Below.trod hl hr.1.1 hr.1.2 h1 hb (fun x hx=>hlt x (by rw [e];exact List.mem_append_left _ hx)),trodAll_below hl hb ts vs ds q hr.2 h2 (fun x hx=>hlt x (by rw [e];exact List.mem_append_right _ hx)),e⟩
 | [],_::_,_,_,_,h,_=>h.elim
 | [],[],_::_,_,_,h,_=>h.elim
 | _::_,[],_,_,_,h,_=>h.elim
 | _::_,_::_,[],_,_,h,_=>h.elim
/-- the head of a list of arguments -/
theorem trodAll_head {H:Type} {enc:TypeId × Value→H} {P:Program} {W:World} {sp:Nat→Bool} {t:TypeId} {ts:List TypeId} {vs:List Value} {ds:List (DataW H)} {ps:List MemPlace}
  (h:DataW.TrodAll enc P W 0 sp true (t::ts) vs ds ps):∃ v vs' d ds' p q,vs=v::vs'∧ds=d::ds'∧DataW.Trod enc P W 0 sp true t v d p∧DataW.TrodAll enc P W 0 sp true ts vs' ds' q:=by
 match vs,ds,h with
 | v::vs',d::ds',⟨p,q,h1,h2,_⟩=>exact ⟨v,vs',d,ds',p,q,rfl,rfl,h1,h2⟩
 | [],[],h=>exact h.elim
 | [],_::_,h=>exact h.elim
 | _::_,[],h=>exact h.elim
theorem trodAll_end {H:Type} {enc:TypeId × Value→H} {P:Program} {W:World} {sp:Nat→Bool} {vs:List Value} {ds:List (DataW H)} {ps:List MemPlace}
  (h:DataW.TrodAll enc P W 0 sp true [] vs ds ps):vs=[]∧ds=[]:=by
 match vs,ds,h with
 | [],[],_=>exact ⟨rfl,rfl⟩
 | [],_::_,h=>exact h.elim
 | _::_,_,h=>exact h.elim
end Go.Proofs.YtomlffobbkcmdaaGreatDoor
