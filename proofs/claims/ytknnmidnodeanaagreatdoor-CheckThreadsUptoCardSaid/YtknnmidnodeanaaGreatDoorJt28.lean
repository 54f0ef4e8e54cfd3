/- Joined texts of this work: WkT, Fa1, Pe1, Pf1, Pf2, Pf3. -/
import Derived.Test.YtknnmidnodeanaaGreatDoorJt27
import Derived.Test.YtknnmidnodeanaaGreatDoorJt4
import Derived.Test.YtknnmidnodeanaaGreatDoorJt10
import Derived.WalkSmall
/-
  CheckThreads: its own walk.
-/
namespace Go.Proofs.YtknnmidnodeanaaGreatDoor
open Go Go.RowKit Own
open Go.Lib (hid)
attribute [local go_sem] Oper.semAt_some
theorem fa_err (w:World) (a b c:Value):(Instr.field TFa (.agg #[a,b,c]) 0).run Tryz.prog w=.ok a w:=by kernel_rfl
abbrev flC (f:Fl):Obj:=.cells #[.int .i64 f.err,.int .i64 f.line,.int .i64 f.col] TFa (0,0)
def noB (f:Fl):Bool:=f.err==0 && (f.line==0 && f.col==0)
theorem noB_iff (f:Fl):noB f=true↔f=Fl.no:=by
 obtain ⟨a,b,c⟩:=f
 unfold noB Fl.no
 simp only [Bool.and_eq_true,beq_iff_eq,Fl.mk.injEq]
theorem eq_no (f:Fl) (w:World):(Op.equalIn 10000 TFa (flV f) (.agg #[.int .i64 0,.int .i64 0,.int .i64 0])).run Tryz.prog w=.ok (noB f) w:=eqF _ _ _ _ _ _ w
theorem neF (a b c:Int) (w:World):(binOp .neq TFa (.agg #[.int .i64 a,.int .i64 b,.int .i64 c]) (.agg #[.int .i64 a,.int .i64 b,.int .i64 c])).run Tryz.prog w=.ok (.bool false) w:=by
 have h9:=eqF a b c a b c w
 simp only [binOp,Op.equal,Op.maxDepth,Sem.run_bind,h9,Result.andThen_ok,beq_self_eq_true,Bool.and_self]
 rfl
theorem tt_thr:Tryz.prog.underlying 23=some (.slice TLs):=by kernel_rfl
theorem slice_thr (g o n c i:Nat) (hi:i<n) (hc:n≤c) (w:World):
  (Instr.slice 23 (.slice (some ⟨g,o,none⟩) n c) (some (.int .i64 (i:Int))) (some (.int .i64 ((i:Int)+1))) none).run Tryz.prog w=.ok (.slice (some ⟨g,o+i,none⟩) 1 (c - i)) w:=by
 have he:Tryz.prog.elem 23=TLs:=by kernel_rfl
 have hz:=Tryz.sizeOf34
 rw [run_slice_lh w _ _ n c (by rw [he];exact tt_thr) .i64 .i64 (i:Int) ((i:Int)+1) (by omega) (by omega) (by omega),he]
 have e1:((i:Int)+1).toNat=i+1:=by omega
 have e2:(i:Int).toNat=i:=by omega
 have e3:¬c=i:=by omega
 rw [hz,e1,e2]
 simp [Result.andThen,sliced,e3,Addr.add]
def sRw (n:Nat) (xs:List Value):Loud:={ val:=fun _ g=>.slice g.p n g.c,fp:=fun _ g=>Of g.p,post:=fun _ g w=>Rd w g.p xs }
theorem stable_rd {w0:World} {M:Nat→Prop} (p:Option Addr) (xs:List Value):Stable w0 M (Of p) (fun w=>Rd w p xs):=fun w w' _ _ _ h k j v hj=>by
 obtain ⟨b,o,hp,hc⟩:=k j v hj
 refine ⟨b,o,hp,?_⟩
 have hh:=h b ⟨_,hp,rfl⟩
 unfold World.cell? at hc ⊢
 rw [hh];exact hc
set_option maxRecDepth 100000 in
set_option maxHeartbeats 64000000 in
theorem threads_walk (hL:∀ w,TabS w→Calls Tryz.prog 6 #[] w fun e w'=>e=.returned (.bool true)∧KeepBut (fun _=>False) w w') (w:World) (hT:TabS w) (p:Gp)
  (hf:∀ l∈p.threads,fitSL l) (hb:hSize p.threads≤1048576) (S:Nat→Prop) (p1:Option Addr) (c1:Nat) (p2:Option Addr) (c2:Nat) (hc2:p.threads.length≤c2) (hc3:c2≤9223372036854775807) (h:PAt w S (.agg #[.int .i64 p.pool,.slice p1 p.conts.length c1,.slice p2 p.threads.length c2]) p):
  Calls Tryz.prog 4 #[.agg #[.int .i64 p.pool,.slice p1 p.conts.length c1,.slice p2 p.threads.length c2]] w fun e w'=>e=.returned (.bool true)∧KeepBut (fun _=>False) w w':=by
 obtain ⟨N,hN⟩:∃ N:Int,(p.pool:Int)=N:=⟨_,rfl⟩
 rw [hN] at h ⊢
 obtain ⟨V,B1,hV,hB1,hb1,hk1,hs1⟩:=fresh_block w (.cells #[.int .i64 N,.slice p1 p.conts.length c1,.slice p2 p.threads.length c2] TPr)
 have HLV:=hid (hL V (hk1.tabS hT))
 have HT:=hid (hk1.tabS hT);have HPA:=hid (pat_stay h hk1);have HPI:=hid (pat_in (pat_stay h hk1))
 have HLI:=hid (fun W (k:KeepBut (fun _=>False) V W)=>lightP_any p hb W _ _ (pat_stay HPA.out k))
 have HF:=hid hf;have HC2:=hid (And.intro hc2 hc3);have HNN:=hid hN
 have HB1:=hid hb1;have HKV:=hid hk1
 clear hL hT hf hb h hb1 hk1 hs1 hc2 hc3 hN
 go_enter Tryz.func4,Tryz.ntmps4
 go_upto_region 1 with fail
 rw [←hV,←hB1]
 clear hV hB1
 go_wp2_with fail
 go_at_call 6
 refine HLV.out.mono ?_
 rintro e w1 ⟨rfl,hk1⟩
 have HK1:=hid hk1
 clear hk1
 obtain ⟨d0,d1,d2,-⟩:=blk3f (HK1.out.blk HB1.out)
 have HLQ:=hid (HLI.out w1 HK1.out)
 cases hl:lightP p with
 | false=>
  rw [hl] at HLQ
  clear hl
  go_wp2_with fail
  go_at_call 7
  refine HLQ.out.mono ?_
  rintro e w2 ⟨rfl,hk2⟩
  have HKE:=hid ((HKV.out.trans HK1.out).trans hk2)
  clear hk2
  go_wp2_with fail
  go_ret
  exact ⟨rfl,HKE.out⟩
 | true=>
 rw [hl] at HLQ
 have HM:=hid (light_mild hl HF.out)
 clear hl
 go_wp2_with fail
 go_at_call 7
 refine HLQ.out.mono ?_
 rintro e w2 ⟨rfl,hk2⟩
 have HK2:=hid (HK1.out.trans hk2)
 clear hk2 d0 d1 d2
 obtain ⟨d0,d1,d2,-⟩:=blk3f (HK2.out.blk HB1.out)
 by_cases h1:(p.threads.length:Int)<1
 ·have HKE:=hid (HKV.out.trans HK2.out)
  go_wp2_with fail
  go_ret
  exact ⟨rfl,HKE.out⟩
 by_cases h4:(4:Int)<p.threads.length
 ·have HKE:=hid (HKV.out.trans HK2.out)
  go_wp2_with fail
  go_ret
  exact ⟨rfl,HKE.out⟩
 have HPR:=hid (fun W (k:KeepBut (fun _=>False) V W)=>prog18_any p HM.out W (k.tabS HT.out) _ _ (pat_stay HPA.out k))
 obtain ⟨⟨er,li,co⟩,hfl⟩:∃ f,pgF p=f:=⟨_,rfl⟩
 have HFL:=hid hfl
 have HLT:=hid (show 1≤p.threads.length∧p.threads.length≤4 by omega)
 rw [hfl] at HPR
 unfold flV at HPR
 dsimp only at HPR
 clear hfl
 have HPQ:=hid (HPR.out w2 HK2.out)
 go_wp2_with fail
 go_at_call 8
 refine HPQ.out.mono ?_
 rintro e w3 ⟨rfl,hk3⟩
 have HK3:=hid (HK2.out.trans hk3)
 clear hk3 d0 d1 d2
 have h14:(1:Int)≤p.threads.length∧(p.threads.length:Int)≤4:=by omega
 have hfld:=fun w a b c=>fa_err w a b c
 by_cases h9:er=9
 ·have HKE:=hid (HKV.out.trans HK3.out)
  go_wp2_with fail
  go_ret
  exact ⟨rfl,HKE.out⟩
 have HWP:=hid (show wantF p p.threads=⟨er,li,co⟩ by rw [←HFL.out];exact want_prog HLT.out.1 HLT.out.2 (by rw [HFL.out];exact h9))
 obtain ⟨W4,T3,hW4,hT3,hb3,hk4,hs4⟩:=fresh_block w3 (.cells #[.int .i64 0,.int .i64 0,.int .i64 0] TFa)
 have HB3:=hid (show W4.heap[T3]?=some (flC Fl.no) from hb3)
 have HK4:=hid (HK3.out.trans hk4)
 have HT3:=hid (show V.heap.size≤T3∧T3<W4.heap.size by have:=HK3.out.size;omega)
 have HB1L:=hid (show B1<V.heap.size from (Array.getElem?_eq_some_iff.1 HB1.out).1)
 have h9b:(er==9)=false:=beq_eq_false_iff_ne.2 h9
 clear hb3 hk4 hs4
 trace_state
 go_upto_region 6 with fail
 rw [←hW4,←hT3]
 clear hW4 hT3 h9 h9b h14 hfld
 go_wp2_with fail
 go_loopw [4] (fun v4 wr=>∃ (j:Nat) (f:Fl),v4=.int .i64 j∧j≤p.threads.length∧wantF p (p.threads.take j)=f∧wr.heap[T3]?=some (flC f)∧KeepBut (fun _=>False) V wr) (fun v _=>p.threads.length - (intOf v).toNat)
 case atStart=>exact ⟨0,Fl.no,rfl,Nat.zero_le _,rfl,HB3.out,HK4.out⟩
 case round=>
  obtain ⟨j,⟨a0,b0,e0⟩,rfl,hj,hwf,hT3,hk⟩:=hrel
  have HWF:=hid hwf;have HT3R:=hid hT3;have HKR:=hid hk;have HJ:=hid hj
  obtain ⟨d0,d1,d2,-⟩:=blk3f (hk.blk HB1.out)
  obtain ⟨t0,t1,t2,-⟩:=blk3f (show wr.heap[T3]?=some (.cells #[.int .i64 a0,.int .i64 b0,.int .i64 e0] TFa (0,0)) from hT3)
  have heq:∀ w,(Op.equalIn 10000 TFa (.agg #[.int .i64 a0,.int .i64 b0,.int .i64 e0]) (.agg #[.int .i64 0,.int .i64 0,.int .i64 0])).run Tryz.prog w=.ok (noB ⟨a0,b0,e0⟩) w:=fun w=>eq_no ⟨a0,b0,e0⟩ w
  obtain ⟨nb,hnb⟩:∃ b,noB ⟨a0,b0,e0⟩=b:=⟨_,rfl⟩
  rw [hnb] at heq
  have HNB:=hid hnb
  clear hwf hT3 hk hj hnb
  by_cases hlt:j<p.threads.length
  ·have hlti:(j:Int)<p.threads.length:=by omega
   cases nb with
   | true=>
    have HNO:=hid ((noB_iff _).1 HNB.out)
    obtain ⟨g,o,hp2,hpal⟩:=alone_at (c:=c2 - j) (by rw [HNN.out];exact HPI.out) hlt
    rw [HNN.out] at hpal
    subst hp2
    have HPX:=hid (fun W (k:KeepBut (fun _=>False) V W)=>prog18_any (aloneP p p.threads[j]) (mild_alone HM.out hlt) W (k.tabS HT.out) _ _ (pat_stay hpal k))
    obtain ⟨⟨ea,la,ca⟩,hfa⟩:∃ f,pgF (aloneP p p.threads[j])=f:=⟨_,rfl⟩
    have HFA:=hid hfa
    rw [hfa] at HPX
    unfold flV at HPX
    dsimp only at HPX
    have hslice:=fun w=>slice_thr g o p.threads.length c2 j hlt HC2.out.1 w
    have hWi:IntKind.i64.wrap ((j:Int)+1)=(j:Int)+1:=IntWalk.i64_in _ (by have:=HC2.out;omega)
    have hj0:(0:Int)≤j:=by omega
    have HLTJ:=hid hlt
    clear hfa hpal
    go_upto_region 9 with fail
    clear d0 d1 d2 t0 t1 t2 heq
    refine wp_own1 (by kernel_rfl) T3 _ HT3R.out (fun i=>[[],[0],[],[2],[],[4],[],[],[7],[4,5,6,7,8],[0,1,2,3,4,5,6,7,8,9],[0,1,2,3,4,5,6,7,8,9,10],[0,1,2,3,4,5,6,7,8,9,10,11]].getD i []) (fun i=>if i=12 then [13] else []) (fun i=>if i=12 then [13] else []) [12] (by kernel_rfl) (fun i=>if i=11 then some (sConst (.agg #[.int .i64 ea,.int .i64 la,.int .i64 ca])) else if i=12 then some (sPut T3 TFa) else none) ?_
    iterate 11
     apply lex_quiet rfl rfl
     ·intro w' hk;obtain ⟨x0,x1,x2,-⟩:=blk3f (((KeepBut.drew (fun k=>k=T3) wr).trans hk).blkE (HKR.out.blk HB1.out) fun e=>by have e:B1=T3:=e;have:=HB1L.out;have:=HT3.out;omega);go_simp;with_reducible rfl
     simp only [Act.put,LS]
    refine lex_loud rfl rfl (loud_call 8 #[.agg #[.int .i64 N,.slice p1 p.conts.length c1,.slice (some ⟨g,o+j,none⟩) 1 (c2 - j)]] (fun w=>by kernel_rfl) ⟨default,trivial⟩ (fun g _=>stable_true _) fun w' hk _ _=>(HPX.out w' (HKR.out.new ((KeepBut.drew (fun k=>k=T3) wr).trans hk) fun b e=>by have e:b=T3:=e;have:=HT3.out;omega)).mono ?_) fun _ _=>?_
    ·rintro e w'' ⟨rfl,hk'⟩
     exact ⟨default,trivial,rfl,hk'.mono fun _ e=>e.elim,fun b h=>h.elim,trivial⟩
    simp only [sConst,Act.put,LS]
    refine lex_loud rfl rfl (loud_put T3 TFa TFa #[.int .i64 ea,.int .i64 la,.int .i64 ca] _ (.tmp 3) (.tmp 54) rfl rfl rfl 13 (by decide) (by decide) (fun w h=>h) ⟨rfl,rfl⟩ rfl (by kernel_rfl) (by simp [Value.oneCell'])) fun _ _=>?_
    simp only [sPut,Act.put]
    refine lex_nil ?_
    intro w9 hk9 hF _
    have f12:w9.heap[T3]?=some (.cells #[.int .i64 ea,.int .i64 la,.int .i64 ca] TFa (0,0)):=(hF 12 (by decide)).1 _ (put_args rfl rfl)
    have HT39:=hid (show w9.heap[T3]?=some (flC ⟨ea,la,ca⟩) from f12)
    have HK9:=hid (HKR.out.new ((KeepBut.drew (fun k=>k=T3) wr).trans hk9) fun b e=>by have e:b=T3:=e;have:=HT3.out;omega)
    clear hk9 hF f12 hslice
    go_wp2_with fail
    exact ⟨⟨j+1,⟨ea,la,ca⟩,by simp,by omega,by rw [wantF_take HLTJ.out (by rw [HWF.out];exact HNO.out),HFA.out],HT39.out,HK9.out⟩,by simp only [intOf];omega⟩
   | false=>
    have hff:(⟨a0,b0,e0⟩:Fl)=⟨er,li,co⟩:=by
     rw [←HWP.out,←HWF.out]
     exact (wantF_stop (by rw [HWF.out];intro h;rw [(noB_iff _).2 h] at HNB;cases HNB.out)).symm
    simp only [Fl.mk.injEq] at hff
    obtain ⟨rfl,rfl,rfl⟩:=hff
    go_upto_region 10 with fail
    clear d0 d1 d2 t0 t1 t2 heq
    have hneq:=fun w=>neF a0 b0 e0 w
    refine wp_own0 (by kernel_rfl) (fun i=>[[],[0],[],[0,1,2]].getD i []) (fun _=>[]) (fun _=>[]) [] (by kernel_rfl) (fun i=>if i=1 then some (sConst (.agg #[.int .i64 a0,.int .i64 b0,.int .i64 e0])) else none) ?_
    apply lex_quiet rfl rfl
    ·intro w' hk;obtain ⟨x0,x1,x2,-⟩:=blk3f ((HKR.out.trans ((KeepBut.drew (fun _=>False) wr).trans hk)).blk HB1.out);go_simp;with_reducible rfl
    simp only [Act.put,LS]
    refine lex_loud rfl rfl (loud_call 8 #[.agg #[.int .i64 N,.slice p1 p.conts.length c1,.slice p2 p.threads.length c2]] (fun w=>by kernel_rfl) ⟨default,trivial⟩ (fun g _=>stable_true _) fun w' hk _ _=>(HPR.out w' (HKR.out.trans ((KeepBut.drew (fun _=>False) wr).trans hk))).mono ?_) fun _ _=>?_
    ·rintro e w'' ⟨rfl,hk'⟩
     exact ⟨default,trivial,rfl,hk'.mono fun _ e=>e.elim,fun b h=>h.elim,trivial⟩
    simp only [sConst,Act.put,LS]
    apply lex_quiet rfl rfl
    ·intro w' hk;obtain ⟨x0,x1,x2,-⟩:=blk3f (show w'.heap[T3]?=some (.cells #[.int .i64 a0,.int .i64 b0,.int .i64 e0] TFa (0,0)) from ((KeepBut.drew (fun _=>False) wr).trans hk).blk HT3R.out);go_simp;with_reducible rfl
    simp only [Act.put,LS]
    apply lex_quiet rfl rfl
    ·intro w' hk;go_simp;with_reducible rfl
    simp only [Act.put,LS]
    refine lex_nil ?_
    intro w9 hk9 _ _
    have HT39:=hid (show w9.heap[T3]?=some (flC ⟨a0,b0,e0⟩) from ((KeepBut.drew (fun _=>False) wr).trans hk9).blk HT3R.out)
    have HK9:=hid (HKR.out.trans ((KeepBut.drew (fun _=>False) wr).trans hk9))
    clear hk9 hneq
    go_wp2_with fail
    go_loopw [5] (fun v5 wr=>v5=.int .i64 0∧wr.heap[T3]?=some (flC ⟨a0,b0,e0⟩)∧KeepBut (fun _=>False) V wr) (fun v _=>0)
    case atStart=>exact ⟨rfl,HT39.out,HK9.out⟩
    case round=>
     obtain ⟨rfl,hT3,hk⟩:=hrel
     have HKE:=hid (HKV.out.trans hk)
     obtain ⟨d0,d1,d2,-⟩:=blk3f (hk.blk HB1.out)
     obtain ⟨t0,t1,t2,-⟩:=blk3f (show wr.heap[T3]?=some (.cells #[.int .i64 a0,.int .i64 b0,.int .i64 e0] TFa (0,0)) from hT3)
     have heq:∀ w,(Op.equalIn 10000 TFa (.agg #[.int .i64 a0,.int .i64 b0,.int .i64 e0]) (.agg #[.int .i64 0,.int .i64 0,.int .i64 0])).run Tryz.prog w=.ok false w:=fun w=>by rw [←HNB.out];exact eq_no ⟨a0,b0,e0⟩ w
     have h0l:(0:Int)<p.threads.length:=by have:=HLT.out.1;omega
     clear hT3 hk
     go_wp2_with fail
     go_ret
     exact ⟨rfl,HKE.out⟩
  ·have hnl:¬(j:Int)<p.threads.length:=by omega
   have hff:(⟨a0,b0,e0⟩:Fl)=⟨er,li,co⟩:=by
    rw [←HWP.out,←HWF.out,List.take_of_length_le (by omega)]
   simp only [Fl.mk.injEq] at hff
   obtain ⟨rfl,rfl,rfl⟩:=hff
   cases nb with
   | false=>
    go_upto_region 10 with fail
    clear d0 d1 d2 t0 t1 t2 heq
    have hneq:=fun w=>neF a0 b0 e0 w
    refine wp_own0 (by kernel_rfl) (fun i=>[[],[0],[],[0,1,2]].getD i []) (fun _=>[]) (fun _=>[]) [] (by kernel_rfl) (fun i=>if i=1 then some (sConst (.agg #[.int .i64 a0,.int .i64 b0,.int .i64 e0])) else none) ?_
    apply lex_quiet rfl rfl
    ·intro w' hk;obtain ⟨x0,x1,x2,-⟩:=blk3f ((HKR.out.trans ((KeepBut.drew (fun _=>False) wr).trans hk)).blk HB1.out);go_simp;with_reducible rfl
    simp only [Act.put,LS]
    refine lex_loud rfl rfl (loud_call 8 #[.agg #[.int .i64 N,.slice p1 p.conts.length c1,.slice p2 p.threads.length c2]] (fun w=>by kernel_rfl) ⟨default,trivial⟩ (fun g _=>stable_true _) fun w' hk _ _=>(HPR.out w' (HKR.out.trans ((KeepBut.drew (fun _=>False) wr).trans hk))).mono ?_) fun _ _=>?_
    ·rintro e w'' ⟨rfl,hk'⟩
     exact ⟨default,trivial,rfl,hk'.mono fun _ e=>e.elim,fun b h=>h.elim,trivial⟩
    simp only [sConst,Act.put,LS]
    apply lex_quiet rfl rfl
    ·intro w' hk;obtain ⟨x0,x1,x2,-⟩:=blk3f (show w'.heap[T3]?=some (.cells #[.int .i64 a0,.int .i64 b0,.int .i64 e0] TFa (0,0)) from ((KeepBut.drew (fun _=>False) wr).trans hk).blk HT3R.out);go_simp;with_reducible rfl
    simp only [Act.put,LS]
    apply lex_quiet rfl rfl
    ·intro w' hk;go_simp;with_reducible rfl
    simp only [Act.put,LS]
    refine lex_nil ?_
    intro w9 hk9 _ _
    have HT39:=hid (show w9.heap[T3]?=some (flC ⟨a0,b0,e0⟩) from ((KeepBut.drew (fun _=>False) wr).trans hk9).blk HT3R.out)
    have HK9:=hid (HKR.out.trans ((KeepBut.drew (fun _=>False) wr).trans hk9))
    clear hk9 hneq
    go_wp2_with fail
    go_loopw [5] (fun v5 wr=>v5=.int .i64 0∧wr.heap[T3]?=some (flC ⟨a0,b0,e0⟩)∧KeepBut (fun _=>False) V wr) (fun v _=>0)
    case atStart=>exact ⟨rfl,HT39.out,HK9.out⟩
    case round=>
     obtain ⟨rfl,hT3,hk⟩:=hrel
     have HKE:=hid (HKV.out.trans hk)
     obtain ⟨d0,d1,d2,-⟩:=blk3f (hk.blk HB1.out)
     obtain ⟨t0,t1,t2,-⟩:=blk3f (show wr.heap[T3]?=some (.cells #[.int .i64 a0,.int .i64 b0,.int .i64 e0] TFa (0,0)) from hT3)
     have heq:∀ w,(Op.equalIn 10000 TFa (.agg #[.int .i64 a0,.int .i64 b0,.int .i64 e0]) (.agg #[.int .i64 0,.int .i64 0,.int .i64 0])).run Tryz.prog w=.ok false w:=fun w=>by rw [←HNB.out];exact eq_no ⟨a0,b0,e0⟩ w
     have h0l:(0:Int)<p.threads.length:=by have:=HLT.out.1;omega
     clear hT3 hk
     go_wp2_with fail
     go_ret
     exact ⟨rfl,HKE.out⟩
   | true=>
    have HNO:=hid ((noB_iff _).1 HNB.out)
    go_upto_region 10 with fail
    clear d0 d1 d2 t0 t1 t2 heq
    have hneq:=fun w=>neF a0 b0 e0 w
    refine wp_own0 (by kernel_rfl) (fun i=>[[],[0],[],[0,1,2]].getD i []) (fun _=>[]) (fun _=>[]) [] (by kernel_rfl) (fun i=>if i=1 then some (sConst (.agg #[.int .i64 a0,.int .i64 b0,.int .i64 e0])) else none) ?_
    apply lex_quiet rfl rfl
    ·intro w' hk;obtain ⟨x0,x1,x2,-⟩:=blk3f ((HKR.out.trans ((KeepBut.drew (fun _=>False) wr).trans hk)).blk HB1.out);go_simp;with_reducible rfl
    simp only [Act.put,LS]
    refine lex_loud rfl rfl (loud_call 8 #[.agg #[.int .i64 N,.slice p1 p.conts.length c1,.slice p2 p.threads.length c2]] (fun w=>by kernel_rfl) ⟨default,trivial⟩ (fun g _=>stable_true _) fun w' hk _ _=>(HPR.out w' (HKR.out.trans ((KeepBut.drew (fun _=>False) wr).trans hk))).mono ?_) fun _ _=>?_
    ·rintro e w'' ⟨rfl,hk'⟩
     exact ⟨default,trivial,rfl,hk'.mono fun _ e=>e.elim,fun b h=>h.elim,trivial⟩
    simp only [sConst,Act.put,LS]
    apply lex_quiet rfl rfl
    ·intro w' hk;obtain ⟨x0,x1,x2,-⟩:=blk3f (show w'.heap[T3]?=some (.cells #[.int .i64 a0,.int .i64 b0,.int .i64 e0] TFa (0,0)) from ((KeepBut.drew (fun _=>False) wr).trans hk).blk HT3R.out);go_simp;with_reducible rfl
    simp only [Act.put,LS]
    apply lex_quiet rfl rfl
    ·intro w' hk;go_simp;with_reducible rfl
    simp only [Act.put,LS]
    refine lex_nil ?_
    intro w9 hk9 _ _
    have HT39:=hid (show w9.heap[T3]?=some (flC ⟨a0,b0,e0⟩) from ((KeepBut.drew (fun _=>False) wr).trans hk9).blk HT3R.out)
    have HK9:=hid (HKR.out.trans ((KeepBut.drew (fun _=>False) wr).trans hk9))
    clear hk9 hneq
    go_wp2_with fail
    go_loopw [5] (fun v5 wr=>∃ k:Nat,v5=.int .i64 k∧k≤p.threads.length∧wr.heap[T3]?=some (flC ⟨a0,b0,e0⟩)∧KeepBut (fun _=>False) V wr) (fun v _=>p.threads.length - (intOf v).toNat)
    case atStart=>exact ⟨0,rfl,Nat.zero_le _,HT39.out,HK9.out⟩
    case round=>
     obtain ⟨k,rfl,hj2,hT3,hk⟩:=hrel
     have HT3R2:=hid hT3;have HKR2:=hid hk;have HJ2:=hid hj2
     obtain ⟨d0,d1,d2,-⟩:=blk3f (hk.blk HB1.out)
     obtain ⟨t0,t1,t2,-⟩:=blk3f (show wr.heap[T3]?=some (.cells #[.int .i64 a0,.int .i64 b0,.int .i64 e0] TFa (0,0)) from hT3)
     have heq:∀ w,(Op.equalIn 10000 TFa (.agg #[.int .i64 a0,.int .i64 b0,.int .i64 e0]) (.agg #[.int .i64 0,.int .i64 0,.int .i64 0])).run Tryz.prog w=.ok true w:=fun w=>by rw [←HNB.out];exact eq_no ⟨a0,b0,e0⟩ w
     clear hT3 hk hj2
     by_cases hlt2:k<p.threads.length
     ·have hlti2:(k:Int)<p.threads.length:=by omega
      obtain ⟨g,o,hp2,hpal⟩:=alone_at (c:=c2 - k) (by rw [HNN.out];exact HPI.out) hlt2
      rw [HNN.out] at hpal
      subst hp2
      have HSC:=scOf_alone (show pgF p=Fl.no by rw [HFL.out];exact HNO.out) HLT.out.1 HLT.out.2 hlt2
      have HVP:=hid (fun W (q:KeepBut (fun _=>False) V W)=>vars_any p HM.out k W (q.tabS HT.out) _ _ (pat_stay HPA.out q))
      have HVA:=hid (fun W (q:KeepBut (fun _=>False) V W)=>vars_any (aloneP p p.threads[k]) (mild_alone HM.out hlt2) 0 W (q.tabS HT.out) _ _ (pat_stay hpal q))
      have HAP:=hid (fun W (q:KeepBut (fun _=>False) V W)=>arrays_any p HM.out k W (q.tabS HT.out) _ _ (pat_stay HPA.out q))
      have HAA:=hid (fun W (q:KeepBut (fun _=>False) V W)=>arrays_any (aloneP p p.threads[k]) (mild_alone HM.out hlt2) 0 W (q.tabS HT.out) _ _ (pat_stay hpal q))
      have HCP:=hid (fun W (q:KeepBut (fun _=>False) V W)=>calls18_any p HM.out k W (q.tabS HT.out) _ _ (pat_stay HPA.out q))
      have HCA:=hid (fun W (q:KeepBut (fun _=>False) V W)=>calls18_any (aloneP p p.threads[k]) (mild_alone HM.out hlt2) 0 W (q.tabS HT.out) _ _ (pat_stay hpal q))
      rw [HSC] at HVA HAA HCA
      have HOK:=hid (scOf_ok p k)
      obtain ⟨s,hs⟩:∃ s,scOf p k=s:=⟨_,rfl⟩
      rw [hs] at HVP HVA HAP HAA HCP HCA HOK
      have hslice:=fun w=>slice_thr g o p.threads.length c2 k hlt2 HC2.out.1 w
      have hWi:IntKind.i64.wrap ((k:Int)+1)=(k:Int)+1:=IntWalk.i64_in _ (by have:=HC2.out;omega)
      have hj0:(0:Int)≤k:=by omega
      have HLTK:=hid hlt2
      clear hpal HSC hs
      go_upto_region 15 with fail
      clear d0 d1 d2 t0 t1 t2 heq
      refine wp_own0 (by kernel_rfl) (fun i=>[[],[0],[],[2],[],[4],[],[],[7],[4,5,6,7,8],[0,1,2,3,4,5,6,7,8,9],[],[0,1,2,3,4,5,6,7,8,9,10,11]].getD i []) (fun i=>if i=12 then [11] else []) (fun i=>if i=12 then [11] else []) [12] (by kernel_rfl) (fun i=>if i=11 then some (sNew (.cells #[.int .i64 0,.slice none 0 0,.slice none 0 0] TPr (0,0))) else if i=12 then some (sPutN TPr) else none) ?_
      iterate 11
       apply lex_quiet rfl rfl
       ·intro w' hk;have hq:=(HKR2.out.trans ((KeepBut.drew (fun _=>False) wr).trans hk));obtain ⟨x0,x1,x2,-⟩:=blk3f (hq.blk HB1.out);go_simp;with_reducible rfl
       simp only [Act.put,LS]
      refine lex_loud rfl rfl (loud_alloc (.cells #[.int .i64 0,.slice none 0 0,.slice none 0 0] TPr (0,0)) (fun w=>by kernel_rfl)) fun g11 _=>?_
      simp only [sNew,Act.put,LS]
      refine lex_loud rfl rfl (loud_putN g11.b TPr TPr #[.int .i64 N,.slice p1 p.conts.length c1,.slice (some ⟨g,o+k,none⟩) 1 (c2 - k)] _ (.tmp 6) (.tmp 81) rfl rfl rfl 11 (by decide) (by decide) (fun w h=>h) rfl rfl (by kernel_rfl) (by simp [Value.oneCell'])) fun _ _=>?_
      simp only [sPutN,Act.put]
      refine lex_nil ?_
      intro WG hk9 hF _
      have f12:WG.heap[g11.b]?=some (.cells #[.int .i64 N,.slice p1 p.conts.length c1,.slice (some ⟨g,o+k,none⟩) 1 (c2 - k)] TPr (0,0)):=(hF 12 (by decide)).1 _ _ (putn_args0 rfl rfl) (put_args rfl rfl)
      have HGB:=hid f12
      have HKG:=hid (HKR2.out.trans ((KeepBut.drew (fun _=>False) wr).trans hk9))
      have HT3G:=hid (((KeepBut.drew (fun _=>False) wr).trans hk9).blk HT3R2.out)
      clear hk9 hF f12 hslice
      go_upto_region 16 with fail
      refine wp_own0 (by kernel_rfl) (fun i=>[[],[],[0,1],[],[0,1,2,3],[0,1,2,3,4],[0,1,2,3,4,5],[0,1,2,3,4,5,6],[0,1,2,3,4,5,6,7],[0,1,2,3,4,5,6,7],[0,1,2,3,4,5,6,7,8,9],[0,1,2,3,4,5,6,7],[0,1,2,3,4,5,6,7,8,9,10,11],[0,1,2,3,4,5,6,7,8,9,10,11,12],[0,1,2,3,4,5,6,7,8,9,10,11,12,13],[0,1,2,3,4,5,6,7,8,9,10,11,12,13,14],[0,1,2,3,4,5,6,7,8,9,10,11,12,13,14,15],[0,1,2,3,4,5,6,7,8,9,10,11,12,13,14,15,16],[0,1,2,3,4,5,6,7,8,9,10,11,12,13,14,15,16],[0,1,2,3,4,5,6,7,8,9,10,11,12,13,14,15,16,17,18],[0,1,2,3,4,5,6,7,8,9,10,11,12,13,14,15,16],[0,1,2,3,4,5,6,7,8,9,10,11,12,13,14,15,16,17,18,19,20],[0,1,2,3,4,5,6,7,8,9,10,11,12,13,14,15,16,17,18,19,20,21],[0,1,2,3,4,5,6,7,8,9,10,11,12,13,14,15,16,17,18,19,20,21,22]].getD i []) (fun i=>if i=5 then [2,4] else if i=13 then [10,12] else []) (fun _=>[]) [] (by kernel_rfl) (fun i=>if i=2 then some (sRw s.vars.length (varsV s)) else if i=4 then some (sRw s.vars.length (varsV s)) else if i=5 then some (sConst (.bool true)) else if i=10 then some (sRw s.arrays.length (arrsV s)) else if i=12 then some (sRw s.arrays.length (arrsV s)) else if i=13 then some (sConst (.bool true)) else if i=19 then some (sConst (.int .i64 s.calls)) else if i=21 then some (sConst (.int .i64 s.calls)) else none) ?_
      apply lex_quiet rfl rfl
      ·intro w' hk;have hq:=HKG.out.trans ((KeepBut.drew (fun _=>False) WG).trans hk);have hg:=((KeepBut.drew (fun _=>False) WG).trans hk).blk HGB.out;obtain ⟨x0,x1,x2,-⟩:=blk3f (hq.blk HB1.out);obtain ⟨y0,y1,y2,-⟩:=blk3f hg;clear hq hg;go_simp;with_reducible rfl
      simp only [Act.put,LS]
      apply lex_quiet rfl rfl
      ·intro w' hk;have hq:=HKG.out.trans ((KeepBut.drew (fun _=>False) WG).trans hk);have hg:=((KeepBut.drew (fun _=>False) WG).trans hk).blk HGB.out;obtain ⟨x0,x1,x2,-⟩:=blk3f (hq.blk HB1.out);obtain ⟨y0,y1,y2,-⟩:=blk3f hg;clear hq hg;go_simp;with_reducible rfl
      simp only [Act.put,LS]
      refine lex_loud rfl rfl (loud_call 13 #[.agg #[.int .i64 N,.slice p1 p.conts.length c1,.slice (some ⟨g,o,none⟩) p.threads.length c2],.int .i64 k] (fun w=>by kernel_rfl) ⟨default,trivial⟩ (fun g _=>stable_rd _ _) fun w' hk _ _=>(HVP.out w' (HKG.out.trans ((KeepBut.drew (fun _=>False) WG).trans hk))).mono ?_) fun g2 _=>?_
      ·rintro e w'' ⟨q,c,rfl,hr,hk',hn⟩
       exact ⟨{ p:=q,c:=c },trivial,rfl,hk'.mono fun _ e=>e.elim,fun b hb=>⟨.inl (hn b hb).1,(hn b hb).2⟩,hr⟩
      simp only [sRw,Act.put,LS]
      apply lex_quiet rfl rfl
      ·intro w' hk;have hq:=HKG.out.trans ((KeepBut.drew (fun _=>False) WG).trans hk);have hg:=((KeepBut.drew (fun _=>False) WG).trans hk).blk HGB.out;obtain ⟨x0,x1,x2,-⟩:=blk3f (hq.blk HB1.out);obtain ⟨y0,y1,y2,-⟩:=blk3f hg;clear hq hg;go_simp;with_reducible rfl
      simp only [Act.put,LS]
      refine lex_loud rfl rfl (loud_call 13 #[.agg #[.int .i64 N,.slice p1 p.conts.length c1,.slice (some ⟨g,o+k,none⟩) 1 (c2 - k)],.int .i64 0] (fun w=>by kernel_rfl) ⟨default,trivial⟩ (fun g _=>stable_rd _ _) fun w' hk _ _=>(HVA.out w' (HKG.out.trans ((KeepBut.drew (fun _=>False) WG).trans hk))).mono ?_) fun g4 _=>?_
      ·rintro e w'' ⟨q,c,rfl,hr,hk',hn⟩
       exact ⟨{ p:=q,c:=c },trivial,rfl,hk'.mono fun _ e=>e.elim,fun b hb=>⟨.inl (hn b hb).1,(hn b hb).2⟩,hr⟩
      simp only [Act.put,LS]
      refine lex_loud rfl rfl (loud_call 12 #[.slice g2.p s.vars.length g2.c,.slice g4.p s.vars.length g4.c] (fun w=>by kernel_rfl) ⟨default,trivial⟩ (fun g _=>stable_true _) fun w' hk hav _=>(sameS_any w' g2.p g4.p g2.c g4.c s.vars (hav 2 (by decide)).1 (hav 4 (by decide)).1 (by have:=HOK.out;unfold ScOk at this;omega)).mono ?_) fun _ _=>?_
      ·rintro e w'' ⟨rfl,hk'⟩
       exact ⟨default,trivial,rfl,hk'.mono fun _ e=>e.elim,fun b h=>h.elim,trivial⟩
      simp only [sConst,Act.put,LS]
      apply lex_quiet rfl rfl
      ·intro w' hk;have hq:=HKG.out.trans ((KeepBut.drew (fun _=>False) WG).trans hk);have hg:=((KeepBut.drew (fun _=>False) WG).trans hk).blk HGB.out;obtain ⟨x0,x1,x2,-⟩:=blk3f (hq.blk HB1.out);obtain ⟨y0,y1,y2,-⟩:=blk3f hg;clear hq hg;go_simp;with_reducible rfl
      simp only [Act.put,LS]
      apply lex_quiet rfl rfl
      ·intro w' hk;have hq:=HKG.out.trans ((KeepBut.drew (fun _=>False) WG).trans hk);have hg:=((KeepBut.drew (fun _=>False) WG).trans hk).blk HGB.out;obtain ⟨x0,x1,x2,-⟩:=blk3f (hq.blk HB1.out);obtain ⟨y0,y1,y2,-⟩:=blk3f hg;clear hq hg;go_simp;with_reducible rfl
      simp only [Act.put,LS]
      apply lex_quiet rfl rfl
      ·intro w' hk;have hq:=HKG.out.trans ((KeepBut.drew (fun _=>False) WG).trans hk);have hg:=((KeepBut.drew (fun _=>False) WG).trans hk).blk HGB.out;obtain ⟨x0,x1,x2,-⟩:=blk3f (hq.blk HB1.out);obtain ⟨y0,y1,y2,-⟩:=blk3f hg;clear hq hg;go_simp;with_reducible rfl
      simp only [Act.put,LS]
      apply lex_quiet rfl rfl
      ·intro w' hk;have hq:=HKG.out.trans ((KeepBut.drew (fun _=>False) WG).trans hk);have hg:=((KeepBut.drew (fun _=>False) WG).trans hk).blk HGB.out;obtain ⟨x0,x1,x2,-⟩:=blk3f (hq.blk HB1.out);obtain ⟨y0,y1,y2,-⟩:=blk3f hg;clear hq hg;go_simp;with_reducible rfl
      simp only [Act.put,LS]
      refine lex_loud rfl rfl (loud_call 15 #[.agg #[.int .i64 N,.slice p1 p.conts.length c1,.slice (some ⟨g,o,none⟩) p.threads.length c2],.int .i64 k] (fun w=>by kernel_rfl) ⟨default,trivial⟩ (fun g _=>stable_rd _ _) fun w' hk _ _=>(HAP.out w' (HKG.out.trans ((KeepBut.drew (fun _=>False) WG).trans hk))).mono ?_) fun g10 _=>?_
      ·rintro e w'' ⟨q,c,rfl,hr,hk',hn⟩
       exact ⟨{ p:=q,c:=c },trivial,rfl,hk'.mono fun _ e=>e.elim,fun b hb=>⟨.inl (hn b hb).1,(hn b hb).2⟩,hr⟩
      simp only [Act.put,LS]
      apply lex_quiet rfl rfl
      ·intro w' hk;have hq:=HKG.out.trans ((KeepBut.drew (fun _=>False) WG).trans hk);have hg:=((KeepBut.drew (fun _=>False) WG).trans hk).blk HGB.out;obtain ⟨x0,x1,x2,-⟩:=blk3f (hq.blk HB1.out);obtain ⟨y0,y1,y2,-⟩:=blk3f hg;clear hq hg;go_simp;with_reducible rfl
      simp only [Act.put,LS]
      refine lex_loud rfl rfl (loud_call 15 #[.agg #[.int .i64 N,.slice p1 p.conts.length c1,.slice (some ⟨g,o+k,none⟩) 1 (c2 - k)],.int .i64 0] (fun w=>by kernel_rfl) ⟨default,trivial⟩ (fun g _=>stable_rd _ _) fun w' hk _ _=>(HAA.out w' (HKG.out.trans ((KeepBut.drew (fun _=>False) WG).trans hk))).mono ?_) fun g12 _=>?_
      ·rintro e w'' ⟨q,c,rfl,hr,hk',hn⟩
       exact ⟨{ p:=q,c:=c },trivial,rfl,hk'.mono fun _ e=>e.elim,fun b hb=>⟨.inl (hn b hb).1,(hn b hb).2⟩,hr⟩
      simp only [Act.put,LS]
      refine lex_loud rfl rfl (loud_call 14 #[.slice g10.p s.arrays.length g10.c,.slice g12.p s.arrays.length g12.c] (fun w=>by kernel_rfl) ⟨default,trivial⟩ (fun g _=>stable_true _) fun w' hk hav _=>(sameA_any w' g10.p g12.p g10.c g12.c s.arrays (hav 10 (by decide)).1 (hav 12 (by decide)).1 (by have:=HOK.out;unfold ScOk at this;omega)).mono ?_) fun _ _=>?_
      ·rintro e w'' ⟨rfl,hk'⟩
       exact ⟨default,trivial,rfl,hk'.mono fun _ e=>e.elim,fun b h=>h.elim,trivial⟩
      simp only [Act.put,LS]
      apply lex_quiet rfl rfl
      ·intro w' hk;have hq:=HKG.out.trans ((KeepBut.drew (fun _=>False) WG).trans hk);have hg:=((KeepBut.drew (fun _=>False) WG).trans hk).blk HGB.out;obtain ⟨x0,x1,x2,-⟩:=blk3f (hq.blk HB1.out);obtain ⟨y0,y1,y2,-⟩:=blk3f hg;clear hq hg;go_simp;with_reducible rfl
      simp only [Act.put,LS]
      apply lex_quiet rfl rfl
      ·intro w' hk;have hq:=HKG.out.trans ((KeepBut.drew (fun _=>False) WG).trans hk);have hg:=((KeepBut.drew (fun _=>False) WG).trans hk).blk HGB.out;obtain ⟨x0,x1,x2,-⟩:=blk3f (hq.blk HB1.out);obtain ⟨y0,y1,y2,-⟩:=blk3f hg;clear hq hg;go_simp;with_reducible rfl
      simp only [Act.put,LS]
      apply lex_quiet rfl rfl
      ·intro w' hk;have hq:=HKG.out.trans ((KeepBut.drew (fun _=>False) WG).trans hk);have hg:=((KeepBut.drew (fun _=>False) WG).trans hk).blk HGB.out;obtain ⟨x0,x1,x2,-⟩:=blk3f (hq.blk HB1.out);obtain ⟨y0,y1,y2,-⟩:=blk3f hg;clear hq hg;go_simp;with_reducible rfl
      simp only [Act.put,LS]
      apply lex_quiet rfl rfl
      ·intro w' hk;have hq:=HKG.out.trans ((KeepBut.drew (fun _=>False) WG).trans hk);have hg:=((KeepBut.drew (fun _=>False) WG).trans hk).blk HGB.out;obtain ⟨x0,x1,x2,-⟩:=blk3f (hq.blk HB1.out);obtain ⟨y0,y1,y2,-⟩:=blk3f hg;clear hq hg;go_simp;with_reducible rfl
      simp only [Act.put,LS]
      apply lex_quiet rfl rfl
      ·intro w' hk;have hq:=HKG.out.trans ((KeepBut.drew (fun _=>False) WG).trans hk);have hg:=((KeepBut.drew (fun _=>False) WG).trans hk).blk HGB.out;obtain ⟨x0,x1,x2,-⟩:=blk3f (hq.blk HB1.out);obtain ⟨y0,y1,y2,-⟩:=blk3f hg;clear hq hg;go_simp;with_reducible rfl
      simp only [Act.put,LS]
      refine lex_loud rfl rfl (loud_call 16 #[.agg #[.int .i64 N,.slice p1 p.conts.length c1,.slice (some ⟨g,o,none⟩) p.threads.length c2],.int .i64 k] (fun w=>by kernel_rfl) ⟨default,trivial⟩ (fun g _=>stable_true _) fun w' hk _ _=>(HCP.out w' (HKG.out.trans ((KeepBut.drew (fun _=>False) WG).trans hk))).mono ?_) fun _ _=>?_
      ·rintro e w'' ⟨rfl,hk'⟩
       exact ⟨default,trivial,rfl,hk'.mono fun _ e=>e.elim,fun b h=>h.elim,trivial⟩
      simp only [Act.put,LS]
      apply lex_quiet rfl rfl
      ·intro w' hk;have hq:=HKG.out.trans ((KeepBut.drew (fun _=>False) WG).trans hk);have hg:=((KeepBut.drew (fun _=>False) WG).trans hk).blk HGB.out;obtain ⟨x0,x1,x2,-⟩:=blk3f (hq.blk HB1.out);obtain ⟨y0,y1,y2,-⟩:=blk3f hg;clear hq hg;go_simp;with_reducible rfl
      simp only [Act.put,LS]
      refine lex_loud rfl rfl (loud_call 16 #[.agg #[.int .i64 N,.slice p1 p.conts.length c1,.slice (some ⟨g,o+k,none⟩) 1 (c2 - k)],.int .i64 0] (fun w=>by kernel_rfl) ⟨default,trivial⟩ (fun g _=>stable_true _) fun w' hk _ _=>(HCA.out w' (HKG.out.trans ((KeepBut.drew (fun _=>False) WG).trans hk))).mono ?_) fun _ _=>?_
      ·rintro e w'' ⟨rfl,hk'⟩
       exact ⟨default,trivial,rfl,hk'.mono fun _ e=>e.elim,fun b h=>h.elim,trivial⟩
      simp only [Act.put,LS]
      apply lex_quiet rfl rfl
      ·intro w' hk;have hq:=HKG.out.trans ((KeepBut.drew (fun _=>False) WG).trans hk);have hg:=((KeepBut.drew (fun _=>False) WG).trans hk).blk HGB.out;obtain ⟨x0,x1,x2,-⟩:=blk3f (hq.blk HB1.out);obtain ⟨y0,y1,y2,-⟩:=blk3f hg;clear hq hg;go_simp;with_reducible rfl
      simp only [Act.put,LS]
      apply lex_quiet rfl rfl
      ·intro w' hk;have hq:=HKG.out.trans ((KeepBut.drew (fun _=>False) WG).trans hk);have hg:=((KeepBut.drew (fun _=>False) WG).trans hk).blk HGB.out;obtain ⟨x0,x1,x2,-⟩:=blk3f (hq.blk HB1.out);obtain ⟨y0,y1,y2,-⟩:=blk3f hg;clear hq hg;go_simp;with_reducible rfl
      simp only [Act.put,LS]
      refine lex_nil ?_
      intro w8 hk8 _ _
      have HK8:=hid (HKG.out.trans ((KeepBut.drew (fun _=>False) WG).trans hk8))
      have HT38:=hid (((KeepBut.drew (fun _=>False) WG).trans hk8).blk HT3G.out)
      clear hk8
      go_wp2_with fail
      exact ⟨⟨k+1,by simp,by omega,HT38.out,HK8.out⟩,by simp only [intOf];omega⟩
     ·have hnl2:¬(k:Int)<p.threads.length:=by omega
      have HKE:=hid (HKV.out.trans HKR2.out)
      go_wp2_with fail
      go_ret
      exact ⟨rfl,HKE.out⟩
/-
  Where package parse gives up, in plain: of what is not read, the tokens that are left where it gives up. No program in sight.
-/
open Go
def rowLF (next:List Item→Option (Ex × List Item)) (nextF:List Item→List Item) (ops:List Nat):Nat→List Item→List Item
 | 0,ts=>ts
 | f+1,ts=>
  match opOf ops ts with
  | none=>ts
  | some _=>
   match ts with
   | []=>ts
   | _::r=>
    match next r with
    | none=>nextF r
    | some (_,r')=>rowLF next nextF ops f r'
def rowNF (next:List Item→Option (Ex × List Item)) (nextF:List Item→List Item) (ops:List Nat) (ts:List Item):List Item:=
 match next ts with
 | none=>nextF ts
 | some (_,r)=>rowLF next nextF ops (r.length+1) r
def rowsF (one:List Item→Option (Ex × List Item)) (oneF:List Item→List Item):List Item→List Item:=
 rowNF (rowN (rowN (rowN (rowN (rowN one [1,2,3]) [4,5]) [6,7,8,9]) [10,11]) [12])
  (rowNF (rowN (rowN (rowN (rowN one [1,2,3]) [4,5]) [6,7,8,9]) [10,11])
   (rowNF (rowN (rowN (rowN one [1,2,3]) [4,5]) [6,7,8,9])
    (rowNF (rowN (rowN one [1,2,3]) [4,5])
     (rowNF (rowN one [1,2,3]) (rowNF one oneF [1,2,3]) [4,5]) [6,7,8,9]) [10,11]) [12]) [13]
def oneOfF (oneF:List Item→List Item) (expr:List Item→Option (Ex × List Item)) (exprF:List Item→List Item) (ts:List Item):List Item:=
 match ts with
 | []=>ts
 | t::r=>
  if isT t.tok [45]=true then oneF r
  else if isT t.tok [33]=true then oneF r
  else if isT t.tok [40]=true then
   match expr r with
   | none=>exprF r
   | some (_,r')=>r'
  else if t.tok.kind=2 then
   if headIs r [91]=true then
    match expr r.tail with
    | none=>exprF r.tail
    | some (_,r')=>r'
   else ts
  else ts
def oneF:Nat→List Item→List Item
 | 0=>fun ts=>ts
 | f+1=>oneOfF (oneF f) (rowsN (oneP f)) (rowsF (oneP f) (oneF f))
def exF (f:Nat):List Item→List Item:=rowsF (oneP f) (oneF f)
/-
  What package parse reads of statements, in plain, with the places of faults. No program in sight.
-/
/-- what a reader comes to: it read something, it gave up at some tokens, or nothing is said -/
inductive Oc (α:Type) where
 | ok (a:α) (r:List Item)
 | bad (b:List Item)
 | no
def Oc.bind {α β:Type} (o:Oc α) (k:α→List Item→Oc β):Oc β:=
 match o with
 | .ok a r=>k a r
 | .bad b=>.bad b
 | .no=>.no
def mustO:List (List UInt8)→List Item→Oc Unit
 | [],ts=>.ok () ts
 | s::l,ts=>if headIs ts s=true then mustO l ts.tail else .bad ts
def wantO (k:Nat) (ts:List Item):Oc Item:=
 match ts with
 | t::r=>if t.tok.kind=k then .ok t r else .bad ts
 | []=>.bad []
/-- an expression; F tells where its reader gives up -/
def exO (f:Nat) (F:List Item→Option (List Item)) (ts:List Item):Oc Ex:=
 match exP f ts with
 | some (x,r)=>.ok x r
 | none=>
  match F ts with
  | some b=>.bad b
  | none=>.no
def opO (value:List UInt8) (ts:List Item):Oc Nat:=
 match ts with
 | []=>.bad []
 | t::r=>if ofL opL t.tok.text=0∨t.tok.kind≠1∨(ofL opL t.tok.text=2∨ofL opL t.tok.text=4)≠(value≠[]) then .bad ts else .ok (ofL opL t.tok.text) r
def argO (f:Nat) (F:List Item→Option (List Item)) (op:Nat) (ts:List Item):Oc (List Ex):=
 if op=2∨op=4 then .ok [] ts
 else (mustO [[44]] ts).bind fun _ r=>(exO f F r).bind fun x r=>.ok [x] r
/-- a call, from its operation on -/
def callO (f:Nat) (F:List Item→Option (List Item)) (value:List UInt8) (ts:List Item):Oc (Nat × List UInt8 × List Ex):=
 (opO value ts).bind fun op r=>(mustO [[40]] r).bind fun _ r=>(wantO 2 r).bind fun c r=>(argO f F op r).bind fun xs r=>(mustO [[41],[59]] r).bind fun _ r=>.ok (op,c.tok.text,xs) r
def headKind (ts:List Item):Nat:=
 match ts with
 | t::_=>t.tok.kind
 | []=>0
/-- a statement that begins with a name, told at a line and column -/
def plainO (f:Nat) (F:List Item→Option (List Item)) (l c:Nat) (ts:List Item):Oc St:=
 (wantO 2 ts).bind fun n r=>
  if headIs r [91]=true then
   (exO f F r.tail).bind fun a r=>(mustO [[93],[61]] r).bind fun _ r=>(exO f F r).bind fun x r=>(mustO [[59]] r).bind fun _ r=>.ok (.mk 4 n.tok.text 0 0 [] [] [] [a,x] [] [] l c) r
  else if headIs r [44]=true then
   (wantO 2 r.tail).bind fun m r=>(mustO [[61]] r).bind fun _ r=>(callO f F n.tok.text r).bind fun q r=>.ok (.mk 9 [] 0 q.1 n.tok.text m.tok.text q.2.1 q.2.2 [] [] l c) r
  else
   (mustO [[61]] r).bind fun _ r=>
    if headKind r=1 then (callO f F [] r).bind fun q r=>.ok (.mk 9 [] 0 q.1 [] n.tok.text q.2.1 q.2.2 [] [] l c) r
    else (exO f F r).bind fun x r=>(mustO [[59]] r).bind fun _ r=>.ok (.mk 3 n.tok.text 0 0 [] [] [] [x] [] [] l c) r
def stmtsO (stmt:List Item→Oc St):Nat→List Item→Oc (List St)
 | 0,_=>.no
 | f+1,ts=>
  if headIs ts [125]=true then .ok [] ts.tail
  else (stmt ts).bind fun s r=>(stmtsO stmt f r).bind fun l r=>.ok (s::l) r
def blockO (stmt:List Item→Oc St) (ts:List Item):Oc (List St):=(mustO [[123]] ts).bind fun _ r=>stmtsO stmt (r.length+1) r
/-- a statement, by the readers of expressions, of blocks and of what begins with a name -/
def stmtB (ex:List Item→Oc Ex) (block:List Item→Oc (List St)) (plain:Nat→Nat→List Item→Oc St) (ts:List Item):Oc St:=
 match ts with
 | []=>.bad []
 | t::r=>
  if isT t.tok [118,97,114]=true then
   (wantO 2 r).bind fun n r=>(mustO [[61]] r).bind fun _ r=>(ex r).bind fun x r=>(mustO [[59]] r).bind fun _ r=>.ok (.mk 1 n.tok.text 0 0 [] [] [] [x] [] [] t.line t.col) r
  else if isT t.tok [97,114,114,97,121]=true then
   (wantO 2 r).bind fun n r=>(mustO [[91]] r).bind fun _ r=>(wantO 3 r).bind fun m r=>(mustO [[93],[59]] r).bind fun _ r=>.ok (.mk 2 n.tok.text m.tok.num 0 [] [] [] [] [] [] t.line t.col) r
  else if isT t.tok [105,102]=true then
   (ex r).bind fun x r=>(block r).bind fun a r=>
    if headIs r [101,108,115,101]=true then (block r.tail).bind fun b r=>.ok (.mk 5 [] 0 0 [] [] [] [x] a b t.line t.col) r
    else .ok (.mk 5 [] 0 0 [] [] [] [x] a [] t.line t.col) r
  else if isT t.tok [119,104,105,108,101]=true then
   (ex r).bind fun x r=>(block r).bind fun a r=>.ok (.mk 6 [] 0 0 [] [] [] [x] a [] t.line t.col) r
  else if isT t.tok [111,117,116]=true then
   (ex r).bind fun x r=>(mustO [[59]] r).bind fun _ r=>.ok (.mk 7 [] 0 0 [] [] [] [x] [] [] t.line t.col) r
  else if isT t.tok [104,97,108,116]=true then
   (ex r).bind fun x r=>(mustO [[59]] r).bind fun _ r=>.ok (.mk 8 [] 0 0 [] [] [] [x] [] [] t.line t.col) r
  else plain t.line t.col ts
def stmtO (g:Nat) (F:List Item→Option (List Item)):Nat→List Item→Oc St
 | 0,_=>.no
 | f+1,ts=>stmtB (exO g F) (blockO (stmtO g F f)) (plainO g F) ts
/-- where the next token stands -/
def lineOf (ts:List Item) (el:Nat):Nat:=
 match ts with
 | t::_=>t.line
 | []=>el
def colOf (ts:List Item) (ec:Nat):Nat:=
 match ts with
 | t::_=>t.col
 | []=>ec
theorem Oc.bind_ok {α β:Type} {o:Oc α} {k:α→List Item→Oc β} {b:β} {s:List Item} (h:o.bind k=.ok b s):∃ a r,o=.ok a r∧k a r=.ok b s:=by
 cases o with
 | ok a r=>exact ⟨a,r,rfl,h⟩
 | bad _=>cases h
 | no=>cases h
theorem mustO_no:∀ (L:List (List UInt8)) (ts:List Item),mustO L ts≠.no
 | [],_=>fun h=>by cases h
 | s::l,ts=>fun h=>by
  unfold mustO at h
  split at h
  ·exact mustO_no l _ h
  ·cases h
theorem wantO_no (k:Nat) (ts:List Item):wantO k ts≠.no:=fun h=>by
 unfold wantO at h
 split at h
 ·split at h <;> cases h
 ·cases h
theorem opO_no (v:List UInt8) (ts:List Item):opO v ts≠.no:=fun h=>by
 unfold opO at h
 split at h
 ·cases h
 ·split at h <;> cases h
theorem mustO_of {L:List (List UInt8)} {ts r:List Item} (h:mustT L ts=some r):mustO L ts=.ok () r:=by
 induction L generalizing ts with
 | nil=>unfold mustT at h;cases h;rfl
 | cons s l ih=>
  unfold mustT at h
  unfold mustO
  split at h
  ·rename_i hh
   rw [if_pos hh]
   exact ih h
  ·cases h
theorem mustT_of {L:List (List UInt8)} {ts r:List Item} (h:mustO L ts=.ok () r):mustT L ts=some r:=by
 induction L generalizing ts with
 | nil=>unfold mustO at h;cases h;rfl
 | cons s l ih=>
  unfold mustO at h
  unfold mustT
  split at h
  ·rename_i hh
   rw [if_pos hh]
   exact ih h
  ·cases h
/-
  Package parse: the closure that reading defers, where a fault has been raised.
-/
abbrev TFt:TypeId:=115
/-- the value that bad and reading raise -/
abbrev fltV (er li co:Int):Value:=.iface TFt (.agg #[.int .i64 er,.int .i64 li,.int .i64 co])
/-
  Package parse: reading of a text whose tree is too large or too deep; Expr of it.
-/
/-
  Package parse: readers that give up.
-/
/-- what a reader that gives up leaves -/
abbrev fltC (er li co:Int):List PanicEntry:=[{ v:=fltV er li co,recovered:=false }]
set_option maxHeartbeats 8000000 in
theorem bad_any (w:World) (R:Nat) (its:List Item) (el ec:Nat) (h:ReaderAt w R its el ec) (k n l c:Int) (S:ByteArray) (hp:peekV its el ec=.agg #[.int .i64 k,.string S,.int .i64 n,.int .i64 l,.int .i64 c]):
  Calls Tryz.prog 96 #[rdV R] w fun e w'=>e=.panicked (fltC 9 l c)∧KeepBut (fun _=>False) w w':=by
 have HP:=hid (peek_any w R its el ec h)
 rw [hp] at HP
 clear h hp
 simp only [fltC,fltV,TFt]
 go_enter Tryz.func96,Tryz.ntmps96
 go_wp2_with fail
 go_at_call 79
 refine HP.out.mono ?_
 rintro e w1 ⟨rfl,hk⟩
 obtain ⟨V,B,hV,hB,hb,hk1,hs⟩:=fresh_block w1 (.cells #[.int .i64 k,.string S,.int .i64 n,.int .i64 l,.int .i64 c] TTk)
 have HK:=hid (hk.trans hk1)
 obtain ⟨n0,n1,n2,n3,n4,-⟩:=blk5 hb
 clear hk hk1 hb hs HP
 go_upto_region 1 with fail
 rw [←hV,←hB]
 clear hV hB
 go_wp2_with fail
 exact ⟨rfl,rfl,HK.out⟩
set_option maxHeartbeats 8000000 in
theorem want_bad (w:World) (R:Nat) (its:List Item) (el ec:Nat) (h:ReaderAt w R its el ec) (k n l c:Int) (S:ByteArray) (hp:peekV its el ec=.agg #[.int .i64 k,.string S,.int .i64 n,.int .i64 l,.int .i64 c]) (q:Int) (hq:k≠q):
  Calls Tryz.prog 78 #[rdV R,.int .i64 q] w fun e w'=>e=.panicked (fltC 9 l c)∧KeepBut (fun _=>False) w w':=by
 obtain ⟨V,B,hV,hB,hb,hk0,hs⟩:=fresh_block w (.cells #[.int .i64 0,.string ⟨#[]⟩,.int .i64 0,.int .i64 0,.int .i64 0] TTk)
 have hR:=h.keep hk0 fun _ _ e=>e
 have HP:=hid (peek_any V R its el ec hR)
 have HBD:=hid fun W (hk:KeepBut (fun _=>False) V W)=>bad_any W R its el ec (hR.keep hk fun _ _ e=>e) k n l c S hp
 rw [hp] at HP
 have HK0:=hid hk0
 have hqb:(k==q)=false:=by rw [beq_eq_false_iff_ne];exact hq
 clear h hp hR hk0 hb hs
 go_enter Tryz.func78,Tryz.ntmps78
 go_upto_region 1 with fail
 rw [←hV]
 clear hV hB
 go_wp2_with fail
 go_at_call 79
 refine HP.out.mono ?_
 rintro e w1 ⟨rfl,hk⟩
 obtain ⟨W,C,hW,hC,hc,hk1,hs⟩:=fresh_block w1 (.cells #[.int .i64 k,.string S,.int .i64 n,.int .i64 l,.int .i64 c] TTk)
 have HK:=hid (hk.trans hk1)
 have HBD1:=hid (HBD.out W (hk.trans hk1))
 obtain ⟨n0,n1,n2,n3,n4,-⟩:=blk5 hc
 clear hk hk1 hc hs HP
 go_upto_region 2 with fail
 rw [←hW,←hC]
 clear hW hC
 go_wp2_with fail
 go_at_call 96
 refine HBD1.out.mono ?_
 rintro e w2 ⟨rfl,hk2⟩
 have HK2:=hid ((HK0.out.trans HK.out).trans hk2)
 clear hk2
 go_wp2_with fail
 exact ⟨rfl,rfl,HK2.out⟩
set_option maxHeartbeats 8000000 in
theorem name_bad (w:World) (R:Nat) (its:List Item) (el ec:Nat) (h:ReaderAt w R its el ec) (k n l c:Int) (S:ByteArray) (hp:peekV its el ec=.agg #[.int .i64 k,.string S,.int .i64 n,.int .i64 l,.int .i64 c]) (hq:k≠2):
  Calls Tryz.prog 81 #[rdV R] w fun e w'=>e=.panicked (fltC 9 l c)∧KeepBut (fun _=>False) w w':=by
 have HW:=hid (want_bad w R its el ec h k n l c S hp 2 hq)
 clear h hp hq
 go_enter Tryz.func81,Tryz.ntmps81
 go_wp2_with fail
 go_at_call 78
 refine HW.out.mono ?_
 rintro e w1 ⟨rfl,hk⟩
 have HK:=hid hk
 clear hk
 go_wp2_with fail
 exact ⟨rfl,rfl,HK.out⟩
end Go.Proofs.YtknnmidnodeanaaGreatDoor
