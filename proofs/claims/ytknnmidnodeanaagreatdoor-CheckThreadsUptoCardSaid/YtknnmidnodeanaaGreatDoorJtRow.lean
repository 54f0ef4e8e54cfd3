/-
  fencepostlaw18.CheckThreads returns true of every program whose bulk is within the row's bound. The package-level variables that its row lists are tied to the program's text by the given tie. No other condition.
-/
import Derived.Test.YtknnmidnodeanaaGreatDoorJt28
import Derived.Test.YtknnmidnodeanaaGreatDoorJt38
import Derived.Test.YtknnmidnodeanaaGreatDoorJt39
import Derived.Test.YtknnmidnodeanaaGreatDoorCards
import Derived.Test.YtknnmidnodeanaaGreatDoorTie
import Derived.SevenTiedAt
import Derived.Deep.DeepHandedRow
namespace Go.Proofs.YtknnmidnodeanaaGreatDoor
open Go Go.ChangeShapes Go.WideShapes Go.ChangeAt Go.RowKit Own
open Go.ChangeMaps (open_string)
/-- there is an input that fits the row, at a world that is written out and has the program's shape -/
theorem row_witness {H:Type} {enc:TypeId × Value→H} {C:Checked} {os:Os} {f:FuncId} {fn:Func} {s:OpenSpec} {conds:List PathCond} {apart:Bool} {laid:List (String × DataW Unit)} (modest:Bool) (w0:World) (args:Array Value) (hos:w0.os=os)
  (hsh:(w0.forCall (fun _ _=>0) ⟨#[],args,[]⟩).Shaped C.prog) (hok:Input.okWideB C.prog (w0.forCall (fun _ _=>0) ⟨#[],args,[]⟩) f ⟨#[],args,[]⟩=true)
  (hrow:s.preRow enc C.prog fn conds apart laid (w0.forCall (fun _ _=>0) ⟨#[],args,[]⟩).memory args):
  ∃ (w:World) (tape:Tape) (i:Input),w.os=os∧(w.forCall tape i).Shaped C.prog∧i.vars=[]∧Input.okWide C.prog (w.forCall tape i) .any w.heap.size f i∧
   s.preRow enc C.prog fn conds apart laid (w.forCall tape i).memory i.args∧({ modest:=modest }:Assume).holds C.prog (lone (Frame.enter C.prog f i.args .normal) [] (w.forCall tape i)):=
 ⟨w0,fun _ _=>0,⟨#[],args,[]⟩,hos,hsh,(Input.okWide_of_okWideB (base:=0) hok).1,(Input.okWide_of_okWideB hok).2,hrow,by
  simp only [Assume.holds]
  exact ⟨by simp,by simp,fun _=>Modest.zero,by simp,by simp⟩⟩
set_option maxRecDepth 100000 in
theorem threads_lifted (os:Os) (started:os.Started) (H:Type) (enc:TypeId × Value→H) (F:Stop.Interp):
  ReturnsInHanded {} Tryz.checked os 4 .any ((Rows.OpenSpec.upto Rows.checkThreadsSpec).preRow enc Tryz.prog Tryz.f4 Rows.checkThreadsUptoRow.domain false Rows.checkThreadsUptoRow.laid)
   (((Rows.OpenSpec.upto Rows.checkThreadsSpec).at F).post enc Tryz.prog Tryz.f4 false true false false):=by
 obtain ⟨places,hx⟩:∃ places,DataW.whole enc Tryz.prog ((World.laidAll Tryz.prog os Rows.checkThreadsRow.laid).forCall (fun _ _=>0) ⟨#[],#[.agg #[.int .i64 0,.slice none 0 0,.slice none 0 0]],[]⟩).memory Tryz.f4.params.toList Rows.checkThreadsSpec.vars false (#[.agg #[.int .i64 0,.slice none 0 0,.slice none 0 0]]:Array Value).toList 8=some ([.agg [.lit (.int .i64 0),.nil,.nil]],[],places):=⟨[],by kernel_rfl⟩
 refine returnsInHanded_of_row (C:=Tryz.checked) (s:=Rows.OpenSpec.upto Rows.checkThreadsSpec) Tryz.own started (by kernel_rfl) Tryz.func4
  (row_witness (enc:=enc) (C:=Tryz.checked) false (World.laidAll Tryz.prog os Rows.checkThreadsRow.laid) #[.agg #[.int .i64 0,.slice none 0 0,.slice none 0 0]] (World.laidAll_os _ _ _) (World.shaped_of_ZipB (by kernel_rfl) (by kernel_rfl)) (by kernel_rfl)
   (OpenSpec.preRow_of_cond 8 hx (by kernel_rfl) (fun k hk=>by cases hk;kernel_rfl) (by kernel_rfl) (laidMet_laidAll _ (by kernel_rfl) (by kernel_rfl)))) ?_
 intro W base args ds gs0 before hval0 hW _ hcond _ hL _ _
 have hbulk:=hcond _ rfl
 have hval:∀ (j:Nat) t v,Tryz.f4.params[j]?=some t→args[j]?=some v→Value.okWide Tryz.prog W .any base t v:=hval0
 have hW':=hW
 obtain ⟨p,q,hA0,hV,rfl,hfz,hnd⟩:=hW
 have hA:DataW.TrodAll enc Tryz.prog W 0 (fun _=>true) true Tryz.f4.params.toList args.toList ds p:=hA0
 rw [Tryz.params4] at hA hval
 have hAk:=hA
 obtain ⟨v0,a0,d0,ds0,q0,r0,ha,rfl,h0,hA⟩:=trodAll_head hA
 obtain ⟨rfl,rfl⟩:=trodAll_end hA
 obtain ⟨la0⟩:=args
 simp only at ha
 subst ha
 obtain ⟨rfl,rfl⟩:=trodVars_none hV
 have htab:=tabs_of_laid hL
 obtain ⟨cs,rfl⟩:∃ cs,v0=.agg cs:=by
  have h:=hval 0 25 v0 rfl rfl
  simp only [Value.okWide,Tryz.underlying25] at h
  obtain ⟨cs,h1,-⟩:=h
  exact ⟨cs,h1⟩
 obtain ⟨f0,hf0⟩:=h0
 obtain ⟨g,hg,hfit,hw⟩:=prB_open hf0
 have hbk:Rows.uptoBulk d0≤1048576:=by
  have h:Rows.uptoBulkAll _≤1048576:=of_decide_eq_true hbulk
  simp only [List.cons_append,Rows.uptoBulkAll] at h
  omega
 obtain ⟨b1,b2,b3,b4⟩:=prog_fits (N:=1048576) (by simpa using Nat.le_trans hw hbk) (Nat.le_refl _)
 clear hA0 hval0
 simp only [List.append_nil] at hW'
 have hlt:∀ y∈p,y.block<W.heap.size:=fun y hy=>by simpa using hW'.lt y hy
 have hcp:=fun p n c h=>prB_cap (p:=p) (n:=n) (c:=c) hf0 h
 have hwalk:Calls Tryz.prog 4 #[.agg cs] W fun e w'=>e=.returned (.bool true)∧KeepBut (fun _=>False) W w':=by
  rw [Array.toArray_toList] at hg
  obtain ⟨p1,c1,p2,c2,he,hg2,hg3⟩:=id hg
  have he':cs=#[.int .i64 g.pool,.slice p1 g.conts.length c1,.slice p2 g.threads.length c2]:=Value.agg.inj he
  subst he'
  have hcap:=hcp p2 g.threads.length c2 rfl
  exact threads_walk (fun w hS=>lives18 w hS) W htab g (fun l hl=>(b4 l hl).1) b1 _ p1 c1 p2 c2 hcap.1 hcap.2 hg
 refine hwalk.mono fun e W' ⟨he,hk⟩=>?_
 subst he
 have hb:=hk.below
 exact ⟨_,rfl,_,_,_,[],p,[],hW',trodAll_mk1 (shut_bool Tryz.underlying4 true),trodAll_below Tryz.laidOut hb _ _ _ _ (by kernel_rfl) hAk hlt,rfl,hb.frame _,fun h=>by cases h⟩
theorem threads_upto:Rows.CheckThreadsUptoSaid:=
 OpenClaim.holds_of_cond 4 Tryz.f4 rfl rfl rfl rfl rfl rfl rfl ⟨rfl,rfl,rfl,rfl,rfl⟩ rfl rfl rfl rfl rfl (by kernel_rfl) Tryz.func4 (by kernel_rfl)
  (of_decide_eq_true (by kernel_rfl)) (by unfold Func.isWrapper;rw [if_neg (of_decide_eq_false (by kernel_rfl))];exact ⟨rfl,rfl⟩)
  (fun os started H enc _ F=>by rw [OpenClaim.pre_eq_preRow];exact threads_lifted os started H enc F)
theorem threads_upto_card:Rows.CheckThreadsUptoCardSaid:=
 Claim7.holds_tied_plain_at .later [] _ _ _ _ threads_upto (fun _ h=>by cases h) (by kernel_rfl) (fun _ h=>by cases h) checkThreadsUpto_row_tie rfl ⟨rfl,rfl⟩ (by kernel_rfl) rfl
  (fun f fn hf hfn=>by
   obtain rfl : f = 4 := Option.some.inj ((show Tryz.prog.funcNamed "fencepost/fencepostlaw18.CheckThreads" = some 4 by kernel_rfl).symm.trans hf) |>.symm
   obtain rfl:fn=Tryz.f4:=(Option.some.inj (Tryz.func4.symm.trans hfn)).symm
   exact ⟨by kernel_rfl,fun j t ht=>by
    rw [Tryz.params4] at ht
    have hm:t∈[25]:=by simpa using Array.mem_of_getElem? ht
    have hall:([25].all fun u=>!Tryz.prog.wantsStandIn u)=true:=by kernel_rfl
    exact (show Tryz.prog.wantsStandIn t=false by simpa using List.all_eq_true.1 hall t hm)⟩)
  (by kernel_rfl)
#print axioms threads_upto_card
end Go.Proofs.YtknnmidnodeanaaGreatDoor
