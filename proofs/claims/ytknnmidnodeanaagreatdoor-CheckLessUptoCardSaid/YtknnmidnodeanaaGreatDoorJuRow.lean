import Derived.Test.YtknnmidnodeanaaGreatDoorJu44
import Derived.Test.YtknnmidnodeanaaGreatDoorCards
import Derived.Test.YtknnmidnodeanaaGreatDoorTie
import Derived.SevenTiedAt
import Derived.Deep.DeepHandedRow
set_option maxRecDepth 100000
namespace Go.Proofs.YtknnmidnodeanaaGreatDoor
open Go Go.ChangeShapes Go.WideShapes Go.ChangeAt Go.RowKit Own
open Go.ChangeMaps (open_string)
theorem row_witness {H:Type}{enc:TypeId×Value→H}{C:Checked}{os:Os}{f:FuncId}{fn:Func}{s:OpenSpec}{conds:List PathCond}{apart:Bool}{laid:List (String×DataW Unit)}(modest:Bool)(w0:World)(args:Array Value)(hos:w0.os=os)
  (hsh:(w0.forCall (fun _ _=>0) ⟨#[],args,[]⟩).Shaped C.prog) (hok:Input.okWideB C.prog (w0.forCall (fun _ _=>0) ⟨#[],args,[]⟩) f ⟨#[],args,[]⟩=true)
  (hrow:s.preRow enc C.prog fn conds apart laid (w0.forCall (fun _ _=>0) ⟨#[],args,[]⟩).memory args):
  ∃ (w:World) (tape:Tape) (i:Input),w.os=os∧(w.forCall tape i).Shaped C.prog∧i.vars=[]∧Input.okWide C.prog (w.forCall tape i) .any w.heap.size f i∧
   s.preRow enc C.prog fn conds apart laid (w.forCall tape i).memory i.args∧({ modest:=modest }:Assume).holds C.prog (lone (Frame.enter C.prog f i.args .normal) [] (w.forCall tape i)):=
 ⟨w0,fun _ _=>0,⟨#[],args,[]⟩,hos,hsh,(Input.okWide_of_okWideB (base:=0) hok).1,(Input.okWide_of_okWideB hok).2,hrow,by
  simp only[Assume.holds];exact⟨by simp,by simp,fun _=>Modest.zero,by simp,by simp⟩⟩
theorem less_lifted (os:Os)(started:os.Started)(H:Type)(enc:TypeId×Value→H)(F:Stop.Interp):
  ReturnsInHanded {} Tryz.checked os 3 .any ((Rows.OpenSpec.upto Rows.checkLessSpec).preRow enc Tryz.prog Tryz.f3 Rows.checkLessUptoRow.domain false Rows.checkLessUptoRow.laid)
   (((Rows.OpenSpec.upto Rows.checkLessSpec).at F).post enc Tryz.prog Tryz.f3 false true false false):=by
 obtain⟨places,hx⟩:∃places,DataW.whole enc Tryz.prog ((World.laidAll Tryz.prog os Rows.checkLessRow.laid).forCall (fun _ _=>0) ⟨#[],#[.agg #[.int .i64 0,.slice none 0 0,.slice none 0 0],.int .i64 0,.int .i64 0],[]⟩).memory Tryz.f3.params.toList Rows.checkLessSpec.vars false (#[.agg #[.int .i64 0,.slice none 0 0,.slice none 0 0],.int .i64 0,.int .i64 0]:Array Value).toList 8=some ([.agg [.lit (.int .i64 0),.nil,.nil],.lit (.int .i64 0),.lit (.int .i64 0)],[],places):=⟨[],by kernel_rfl⟩
 refine returnsInHanded_of_row (C:=Tryz.checked) (s:=Rows.OpenSpec.upto Rows.checkLessSpec) Tryz.own started (by kernel_rfl) Tryz.func3
  (row_witness (enc:=enc) (C:=Tryz.checked) false (World.laidAll Tryz.prog os Rows.checkLessRow.laid) #[.agg #[.int .i64 0,.slice none 0 0,.slice none 0 0],.int .i64 0,.int .i64 0] (World.laidAll_os _ _ _) (World.shaped_of_ZipB (by kernel_rfl) (by kernel_rfl)) (by kernel_rfl)
   (OpenSpec.preRow_of_cond 8 hx (by kernel_rfl) (fun k hk=>by cases hk;kernel_rfl) (by kernel_rfl) (laidMet_laidAll _ (by kernel_rfl) (by kernel_rfl)))) ?_
 intro W base args ds gs0 before hval0 hW _ hcond _ hL _ _;have hbulk:=hcond _ rfl;have hval:∀(j:Nat) t v,Tryz.f3.params[j]?=some t→args[j]?=some v→Value.okWide Tryz.prog W .any base t v:=hval0;have hW':=hW;obtain⟨p,q,hA0,hV,rfl,hfz,hnd⟩:=hW;have hA:DataW.TrodAll enc Tryz.prog W 0 (fun _=>true) true Tryz.f3.params.toList args.toList ds p:=hA0;rw[Tryz.params3]at hA hval;have hAk:=hA;obtain⟨v0,a0,d0,ds0,q0,r0,ha,rfl,h0,hA⟩:=trodAll_head hA;obtain⟨v1,a1,d1,ds1,q1,r1,rfl,rfl,h1,hA⟩:=trodAll_head hA;obtain⟨v2,a2,d2,ds2,q2,r2,rfl,rfl,h2,hA⟩:=trodAll_head hA;obtain⟨rfl,rfl⟩:=trodAll_end hA;obtain⟨la0⟩:=args;simp only at ha;subst ha;obtain⟨rfl,rfl⟩:=trodVars_none hV;have htab:=tabs_of_laid hL
 obtain⟨cs,rfl⟩:∃cs,v0=.agg cs:=by
  have h:=hval 0 25 v0 rfl rfl;simp only[Value.okWide,Tryz.underlying25]at h;obtain⟨cs,h1,-⟩:=h;exact⟨cs,h1⟩
 obtain⟨f0,hf0⟩:=h0;obtain⟨g,hg,hfit,hw⟩:=prB_open hf0;obtain⟨th,rfl,rfl,_⟩:=open_int Tryz.underlying3 (hval 1 3 v1 rfl rfl) h1;obtain⟨n,rfl,rfl,_⟩:=open_int Tryz.underlying3 (hval 2 3 v2 rfl rfl) h2
 have hbk:Rows.uptoBulk d0≤1048576:=by
  have h:Rows.uptoBulkAll _≤1048576:=of_decide_eq_true hbulk;simp only[List.cons_append,Rows.uptoBulkAll]at h;omega
 obtain⟨b1,b2,b3,b4⟩:=prog_fits (N:=1048576) (by simpa using Nat.le_trans hw hbk) (Nat.le_refl _);clear hA0 hval0;simp only[List.append_nil]at hW';have hlt:∀y∈p,y.block<W.heap.size:=fun y hy=>by simpa using hW'.lt y hy
 have hwalk:Calls Tryz.prog 3 #[.agg cs,.int .i64 th,.int .i64 n] W fun e w'=>e=.returned (.bool true)∧BA (fun _=>False) W w':=by
  have h:=less_walk (fun w hS=>lives18 w hS) W htab g (fun l hl=>(b4 l hl).1) b1 _ _ hg th n
  rwa [Array.toArray_toList]at h
 refine hwalk.mono fun e W' ⟨he,hk⟩=>?_;subst he;have hb:=hk.below;exact⟨_,rfl,_,_,_,[],p,[],hW',trodAll_mk1 (shut_bool Tryz.underlying4 true),trodAll_below Tryz.laidOut hb _ _ _ _ (by kernel_rfl) hAk hlt,rfl,hb.frame _,fun h=>by cases h⟩
theorem less_upto:Rows.CheckLessUptoSaid:=
 OpenClaim.holds_of_cond 3 Tryz.f3 rfl rfl rfl rfl rfl rfl rfl ⟨rfl,rfl,rfl,rfl,rfl⟩ rfl rfl rfl rfl rfl (by kernel_rfl) Tryz.func3 (by kernel_rfl)
  (of_decide_eq_true (by kernel_rfl)) (by unfold Func.isWrapper;rw[if_neg (of_decide_eq_false (by kernel_rfl))];exact⟨rfl,rfl⟩)
  (fun os started H enc _ F=>by rw[OpenClaim.pre_eq_preRow];exact less_lifted os started H enc F)
theorem less_upto_card:Rows.CheckLessUptoCardSaid:=
 Claim7.holds_tied_plain_at .later [] _ _ _ _ less_upto (fun _ h=>by cases h) (by kernel_rfl) (fun _ h=>by cases h) checkLessUpto_row_tie rfl ⟨rfl,rfl⟩ (by kernel_rfl) rfl
  (fun f fn hf hfn=>by
   obtain rfl : f = 3 := Option.some.inj ((show Tryz.prog.funcNamed "fencepost/fencepostlaw18.CheckLess" = some 3 by kernel_rfl).symm.trans hf) |>.symm;obtain rfl:fn=Tryz.f3:=(Option.some.inj (Tryz.func3.symm.trans hfn)).symm
   exact⟨by kernel_rfl,fun j t ht=>by
    rw[Tryz.params3]at ht;have hm:t∈[25,3,3]:=by simpa using Array.mem_of_getElem? ht
    have hall:([25,3,3].all fun u=>!Tryz.prog.wantsStandIn u)=true:=by kernel_rfl
    exact(show Tryz.prog.wantsStandIn t=false by simpa using List.all_eq_true.1 hall t hm)⟩)
  (by kernel_rfl)
#print axioms less_upto_card
end Go.Proofs.YtknnmidnodeanaaGreatDoor
