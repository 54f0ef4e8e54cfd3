import Derived.Test.YtknnmidnodeanaaGreatDoorJu43
import Derived.Test.YtknnmidnodeanaaGreatDoorRows
import Derived.Lib.LaidTab
import Derived.ProofKit
import Derived.OpenShut
import Derived.Lay
import Derived.Stop.Joined
import Derived.Deep.Slices
import Derived.LaidMore
import Derived.Lib.SmallJoins
set_option maxHeartbeats 32000000
set_option maxRecDepth 100000
namespace Go.Proofs.YtknnmidnodeanaaGreatDoor
open Go Go.RowKit Own
open Go.Lib (hid)
attribute [local go_sem] Oper.semAt_some
mutual
def fitB:Gs→Bool
 |.mk _ _ _ _ val into cont _ thn els _ _=>decide (val.length+into.length+cont.length≤1099511627776) && (fitLB thn && fitLB els)
def fitLB:List Gs→Bool
 |[]=>true
 |s::l=>fitB s && fitLB l
end
mutual
theorem fitB_fit:∀{s:Gs},fitB s=true→fitS s
 | .mk _ _ _ _ val into cont _ thn els _ _,h=>by
  unfold fitB at h;simp only[Bool.and_eq_true,decide_eq_true_eq]at h;unfold fitS;exact⟨h.1,fitLB_fit h.2.1,fitLB_fit h.2.2⟩
theorem fitLB_fit:∀{l:List Gs},fitLB l=true→DS l
 |[],_=>by unfold DS;trivial
 | s::l,h=>by
  unfold fitLB at h;simp only[Bool.and_eq_true]at h;unfold DS;exact⟨fitB_fit h.1,fitLB_fit h.2⟩
end
def mildB (p:Gp):Bool:=decide (DM p.threads≤1000000000) && (decide (p.conts.length≤2000000) && (decide (p.threads.length≤2000000) && p.threads.all fitLB))
theorem mild_of {p:Gp}(h:mildB p=true):Mild p:=by
 unfold mildB at h;simp only[Bool.and_eq_true,decide_eq_true_eq,List.all_eq_true]at h;exact⟨h.1,h.2.1,h.2.2.1,fun l hl=>fitLB_fit (h.2.2.2 l hl)⟩
theorem program18_any (s:ByteArray)(p:Gp)(w:World)(hT:TabS w)(h:∀w,TabS w→Calls Tryz.prog 37 #[.string s] w fun e w'=>SrcP w p e w'):
  Calls Tryz.prog 23 #[.string s] w fun e w'=>SrcP w p e w':=by
 obtain⟨V1,B2,hV1,hB2,hb2,hk1,hs1⟩:=BD w (.cells #[.int .i64 0,.slice none 0 0,.slice none 0 0] TPr);obtain⟨V,B3,hV,hB3,hb3,hk2,hs2⟩:=BD V1 (.cells #[.int .i64 0,.int .i64 0,.int .i64 0] TFa);have hk:=hk1.trans hk2;have HRE:=hid (h V (hk.tabS hT));have h23:B2+1=B3:=by omega
 have HK:=hid hk;have HB2:=hid (hk2.blk hb2);have HB3:=hid hb3;have HN:=hid (show w.heap.size≤B2∧B2<B3∧B3<V.heap.size by omega);clear hT h hb2 hb3 hk1 hk2 hs1 hs2 hk;go_enter Tryz.func23,Tryz.ntmps23;go_upto_region 1 with fail;rw[←hV1,←hB2,←hV,h23];clear hV1 hB2 hV hB3 h23;go_wp2_with fail;go_at_call 37;refine HRE.out.mono ?_;rintro e w1 ⟨hk1,v,rfl,⟨xn,xp,xm,xc,yp,ym,yc,rfl⟩,hpa⟩;obtain⟨⟨er,li,co⟩,hf⟩:∃f,pgF p=f:=⟨_,rfl⟩;rw[hf]at hpa ⊢;unfold flV;dsimp only at hpa ⊢;have HF:=hid hf;have HPA:=hid hpa;have HK1:=hid hk1;have hb2:=hk1.blk HB2.out;have hb3:=hk1.blk HB3.out;have HB2:=hid hb2;have HB3:=hid hb3;obtain⟨m0,m1,m2,f0,f1,f2⟩:=BS hb2;obtain⟨q0,q1,q2,g0,g1,g2⟩:=BS hb3;have hne23:B2≠B3:=by have:=HN.out;omega
 have hne32:B3≠B2:=by have:=HN.out;omega
 clear hk1 hb2 hb3 hf hpa;go_wp2_with fail;obtain⟨wa,hwa,hba,hka⟩:=put3 HB2.out (.int .i64 xn) (.slice xp xm xc) (.slice yp ym yc);rw[←hwa];have hn:=HN.out;obtain⟨wf,hwf,hbf,hkf⟩:=put3 (hka.blkE HB3.out fun e=>by have e:B3=B2:=e;omega) (.int .i64 er) (.int .i64 li) (.int .i64 co);rw[←hwf];obtain⟨c0,c1,c2,-⟩:=BS (hkf.blkE hba fun e=>by have e:B2=B3:=e;omega);obtain⟨d0,d1,d2,-⟩:=BS hbf;clear hwa hwf
 exact bodyPost_ret (v:=.tuple #[.agg #[.int .i64 xn,.slice xp xm xc,.slice yp ym yc],.agg #[.int .i64 er,.int .i64 li,.int .i64 co]]) (by simp[results,Tryz.results23,go_sem,c0,c1,c2,d0,d1,d2]) rfl ⟨((HK.out.trans HK1.out).new hka fun b e=>by have e:b=B2:=e;omega).new hkf fun b e=>by have e:b=B3:=e;omega,_,by rw[HF.out],⟨_,_,_,_,_,_,_,rfl⟩,fun h=>by
  rw[HF.out]at h;exact pat_mono' (pat_keep (pat_keep (HPA.out h) hka fun b hb e=>by have e:b=B2:=e;have hb:V.heap.size≤b:=hb;omega) hkf fun b hb e=>by have e:b=B3:=e;have hb:V.heap.size≤b:=hb;omega) fun b hb=>by have hb:V.heap.size≤b:=hb;omega⟩
theorem mild_x1:Mild (toP px1):=mild_of (by decide +kernel)
theorem src_x1 (w:World)(hT:TabS w):Calls Tryz.prog 23 #[.string ⟨#[112,111,111,108,32,49,59,32,115,116,97,99,107,32,115,59,32,116,104,114,101,97,100,32,123,32,97,32,61,32,49,59,32,125]⟩] w fun e w'=>SrcP w (toP px1) e w':=
 program18_any ⟨tx1.toArray⟩ _ w hT fun w hT=>source_any ⟨tx1.toArray⟩ ix1 px1 w hT all_x1 (by decide) (fun R el ec=>reads_x1 R el ec) (by decide +kernel) (by decide +kernel) (by decide +kernel) (by decide +kernel) mild_x1
theorem mild_x2:Mild (toP px2):=mild_of (by decide +kernel)
theorem src_x2 (w:World)(hT:TabS w):Calls Tryz.prog 23 #[.string ⟨#[112,111,111,108,32,49,59,32,115,116,97,99,107,32,115,59,32,116,104,114,101,97,100,32,123,32,118,97,114,32,97,32,61,32,97,59,32,125]⟩] w fun e w'=>SrcP w (toP px2) e w':=
 program18_any ⟨tx2.toArray⟩ _ w hT fun w hT=>source_any ⟨tx2.toArray⟩ ix2 px2 w hT all_x2 (by decide) (fun R el ec=>reads_x2 R el ec) (by decide +kernel) (by decide +kernel) (by decide +kernel) (by decide +kernel) mild_x2
theorem mild_x3:Mild (toP px3):=mild_of (by decide +kernel)
theorem src_x3 (w:World)(hT:TabS w):Calls Tryz.prog 23 #[.string ⟨#[112,111,111,108,32,49,59,32,115,116,97,99,107,32,115,59,32,116,104,114,101,97,100,32,123,32,118,97,114,32,97,32,61,32,49,59,32,97,114,114,97,121,32,98,91,51,93,59,32,97,32,61,32,112,117,115,104,40,115,44,32,98,91,97,93,41,59,32,125]⟩] w fun e w'=>SrcP w (toP px3) e w':=
 program18_any ⟨tx3.toArray⟩ _ w hT fun w hT=>source_any ⟨tx3.toArray⟩ ix3 px3 w hT all_x3 (by decide) (fun R el ec=>reads_x3 R el ec) (by decide +kernel) (by decide +kernel) (by decide +kernel) (by decide +kernel) mild_x3
theorem src1 (w:World)(hT:TabS w):Calls Tryz.prog 23 #[.string ⟨#[112,111,111,108,32,49,59,32,115,116,97,99,107,32,115,59,32,116,104,114,101,97,100,32,123,32,97,32,61,32,49,59,32,125]⟩] w fun e w'=>BA (fun _=>False) w w'∧∃xn xp xm xc yp ym yc,e=.returned (.tuple #[.agg #[.int .i64 xn,.slice xp xm xc,.slice yp ym yc],.agg #[.int .i64 6,.int .i64 1,.int .i64 27]]):=by
 refine(src_x1 w hT).mono ?_;rintro e w' ⟨hk,v,rfl,⟨xn,xp,xm,xc,yp,ym,yc,rfl⟩,-⟩;exact⟨hk,_,_,_,_,_,_,_,by rw[said_1]⟩
theorem src2 (w:World)(hT:TabS w):Calls Tryz.prog 23 #[.string ⟨#[112,111,111,108,32,49,59,32,115,116,97,99,107,32,115,59,32,116,104,114,101,97,100,32,123,32,118,97,114,32,97,32,61,32,97,59,32,125]⟩] w fun e w'=>BA (fun _=>False) w w'∧∃xn xp xm xc yp ym yc,e=.returned (.tuple #[.agg #[.int .i64 xn,.slice xp xm xc,.slice yp ym yc],.agg #[.int .i64 6,.int .i64 1,.int .i64 35]]):=by
 refine(src_x2 w hT).mono ?_;rintro e w' ⟨hk,v,rfl,⟨xn,xp,xm,xc,yp,ym,yc,rfl⟩,-⟩;exact⟨hk,_,_,_,_,_,_,_,by rw[said_2]⟩
theorem src3 (w:World)(hT:TabS w):Calls Tryz.prog 23 #[.string ⟨#[112,111,111,108,32,49,59,32,115,116,97,99,107,32,115,59,32,116,104,114,101,97,100,32,123,32,118,97,114,32,97,32,61,32,49,59,32,97,114,114,97,121,32,98,91,51,93,59,32,97,32,61,32,112,117,115,104,40,115,44,32,98,91,97,93,41,59,32,125]⟩] w fun e w'=>BA (fun _=>False) w w'∧∃xn xp xm xc yp ym yc,e=.returned (.tuple #[.agg #[.int .i64 xn,.slice xp xm xc,.slice yp ym yc],.agg #[.int .i64 0,.int .i64 0,.int .i64 0]])∧PAt w' (fun b=>w.heap.size≤b) (.agg #[.int .i64 xn,.slice xp xm xc,.slice yp ym yc]) (toP px3):=by
 refine(src_x3 w hT).mono ?_;rintro e w' ⟨hk,v,rfl,⟨xn,xp,xm,xc,yp,ym,yc,rfl⟩,hp⟩;exact⟨hk,_,_,_,_,_,_,_,by rw[said_3],hp (by rw[said_3])⟩
theorem sc3:scOf (toP px3) 0=⟨[[97]],[([98],3)],1⟩:=by
 have h:(allF (toP px3))=.ok [⟨[[97]],[([98],3)],1⟩]:=by kernel_rfl
 unfold scOf;rw[h];rfl
theorem lives18 (w:World)(hT:TabS w):Calls Tryz.prog 6 #[] w fun e w'=>e=.returned (.bool true)∧BA (fun _=>False) w w':=by
 have HT:=hid hT;have HA:=hid (src1 w hT);clear hT;go_enter Tryz.func6,Tryz.ntmps6;go_wp2_with fail;go_at_call 23;refine HA.out.mono ?_;rintro e w1 ⟨hk,xn,xp,xm,xc,yp,ym,yc,rfl⟩;obtain⟨X,E1,hX,hE,hbe,hkx,hsx⟩:=BD w1 (.cells #[.int .i64 xn,.slice xp xm xc,.slice yp ym yc] TPr);obtain⟨W1,F1,hW,hF,hbf,hky,hsy⟩:=BD X (.cells #[.int .i64 6,.int .i64 1,.int .i64 27] TFa);have hkk:=hkx.trans hky;have h12:E1+1=F1:=by omega
 have HK1:=hid (hk.trans hkk);have HF11:=hid hbf;clear hk hkk hbe hbf hkx hky hsx hsy;go_upto_region 2 with fail;rw[←hX,←hW,←hE,h12];clear hX hW hE hF h12;have HS2:=hid (src2 W1 (HK1.out.tabS HT.out));go_wp2_with fail;go_at_call 23;refine HS2.out.mono ?_;rintro e w2 ⟨hk,xn,xp,xm,xc,yp,ym,yc,rfl⟩;obtain⟨X,E2,hX,hE,hbe,hkx,hsx⟩:=BD w2 (.cells #[.int .i64 xn,.slice xp xm xc,.slice yp ym yc] TPr);obtain⟨W2,F2,hW,hF,hbf,hky,hsy⟩:=BD X (.cells #[.int .i64 6,.int .i64 1,.int .i64 35] TFa);have hkk:=hkx.trans hky;have h12:E2+1=F2:=by omega
 have HK2:=hid (HK1.out.trans (hk.trans hkk));have HF22:=hid hbf;have HF12:=hid ((hk.trans hkk).blk HF11.out);clear hk hkk hbe hbf hkx hky hsx hsy;go_upto_region 3 with fail;rw[←hX,←hW,←hE,h12];clear hX hW hE hF h12;have HS3:=hid (src3 W2 (HK2.out.tabS HT.out));go_wp2_with fail;go_at_call 23;refine HS3.out.mono ?_;rintro e w3 ⟨hk,xn,xp,xm,xc,yp,ym,yc,rfl,hpa⟩;obtain⟨X,E3,hX,hE,hbe,hkx,hsx⟩:=BD w3 (.cells #[.int .i64 xn,.slice xp xm xc,.slice yp ym yc] TPr);obtain⟨W3,F3,hW,hF,hbf,hky,hsy⟩:=BD X (.cells #[.int .i64 0,.int .i64 0,.int .i64 0] TFa);have hkk:=hkx.trans hky;have h12:E3+1=F3:=by omega
 have HK3:=hid (HK2.out.trans (hk.trans hkk));have HF33:=hid hbf;have HF13:=hid ((hk.trans hkk).blk HF12.out);have HF23:=hid ((hk.trans hkk).blk HF22.out);have HE3:=hid (hky.blk hbe);have HPA:=hid (CG hpa hkk);clear hpa;clear hk hkk hbe hbf hkx hky hsx hsy;go_upto_region 4 with fail;rw[←hX,←hW,←hE,h12];clear hX hW hE hF h12;obtain⟨r0,r1,r2,-⟩:=BS HE3.out;obtain⟨m0,m1,m2,-⟩:=BS HF13.out;obtain⟨k0,k1,k2,-⟩:=BS HF23.out;obtain⟨l0,l1,l2,-⟩:=BS HF33.out;have HV:=hid (fun W hk=>vars_any (toP px3) mild_x3 0 W ((HK3.out.trans hk).tabS HT.out) _ _ (CG HPA.out hk));have HAR:=hid (fun W hk=>array_any (toP px3) mild_x3 0 [98] (by rw[sc3];decide) W ((HK3.out.trans hk).tabS HT.out) _ _ (CG HPA.out hk));have HCL:=hid (fun W hk=>calls18_any (toP px3) mild_x3 0 W ((HK3.out.trans hk).tabS HT.out) _ _ (CG HPA.out hk));rw[sc3]at HV HAR HCL;have h1:=fun w=>eqF 6 1 27 6 1 27 w;have h2:=fun w=>eqF 6 1 35 6 1 35 w;have h3:=fun w=>eqF 0 0 0 0 0 0 w;unfold strV at HAR;dsimp only[LC,List.length_nil]at HV
 go_wp2_with (first
  |(go_at_call 13;refine(HV.out W3 (BA.refl _ _)).mono ?_;rintro e w4 ⟨q,c,rfl,-,hk4,-⟩;have HK4:=hid hk4;clear r0 r1 r2 hk4;obtain⟨r0,r1,r2,-⟩:=BS (HK4.out.blk HE3.out))
  |(go_at_call 21;refine(HAR.out w4 HK4.out).mono ?_;rintro e w5 ⟨rfl,hk5⟩;have HK5:=hid (HK4.out.trans hk5);clear r0 r1 r2 hk5;obtain⟨r0,r1,r2,-⟩:=BS (HK5.out.blk HE3.out))
  |(go_at_call 16;refine(HCL.out w5 HK5.out).mono ?_;rintro e w6 ⟨rfl,hk6⟩;have HK6:=hid (HK5.out.trans hk6);clear r0 r1 r2 hk6))
 go_ret;exact⟨rfl,HK3.out.trans HK6.out⟩
open Go
mutual
def fitG:Gx→Prop
 |.mk _ _ n _ _ _ ks=>n≤9223372036854775807∧fitGL ks
def fitGL:List Gx→Prop
 |[]=>True
 |x::l=>fitG x∧fitGL l
end
mutual
def fitN:Gs→Prop
 |.mk _ _ sz _ _ _ _ xs thn els _ _=>sz≤9223372036854775807∧fitGL xs∧fitNL thn∧fitNL els
def fitNL:List Gs→Prop
 |[]=>True
 |s::l=>fitN s∧fitNL l
end
open Go Go.ChangeShapes Go.WideShapes Go.ChangeAt Go.RowKit Own
mutual
def gW:Gx→Nat
 |.mk _ _ _ nm _ _ kids=>1+nm.length+gWL kids
def gWL:List Gx→Nat
 |[]=>0
 |x::l=>gW x+gWL l
end
mutual
def sW:Gs→Nat
 |.mk _ nm _ _ val into cont xs thn els _ _=>1+nm.length+val.length+into.length+cont.length+gWL xs+sWL thn+sWL els
def sWL:List Gs→Nat
 |[]=>0
 |x::l=>sW x+sWL l
end
def cWL:List Gc→Nat
 |[]=>0
 |c::l=>1+c.name.length+cWL l
def hWL:List (List Gs)→Nat
 |[]=>0
 |l::r=>1+sWL l+hWL r
def pW (p:Gp):Nat:=cWL p.conts+hWL p.threads
section
variable {H : Type}{enc : TypeId×Value→H}{W : World}{base : Nat}{sp : Nat→Bool}{held : Bool}
theorem slice_each {fuel:Nat}{t e:TypeId}{n:Nat}(ht:Tryz.prog.underlying t=some (.slice e))(hn:Tryz.prog.cellsOf e=n)(hn1:0<n){cs:List Value}{x:DataW H×List MemPlace}(h:DataW.trod enc Tryz.prog W base sp held fuel t cs=some x):
  ∃ (p:Option Addr) (len cap:Nat) (ys:List (DataW H×List MemPlace)),cs=[.slice p len cap]∧ys.length=len∧Rows.uptoBulkAll (ys.map (·.1))+1≤Rows.uptoBulk x.1∧
   ∀i (hi:i<ys.length),∃m cs',m<fuel∧DataW.trod enc Tryz.prog W base sp held m e cs'=some ys[i]∧cs'.length=n∧∃g o,p=some ⟨g,o,none⟩∧∀j v,cs'[j]?=some v→W.cell? ⟨g,o+i * n+j,none⟩=some v:=by
 rcases DataW.trod_slice ht h with⟨e4,rfl⟩|⟨a,len,cap,elems,rest,q,hq,e4,rfl,hb,hl,hmax,hel,hee,-,-⟩
 ·exact⟨none,0,0,[],e4,rfl,Nat.le_refl _,fun i hi=>absurd hi (by simp)⟩
 ·obtain⟨b,off,sp'⟩:=a;refine⟨some ⟨b,off,sp'⟩,len,cap,elems,e4,hel,?_,?_⟩
  ·simp only[Rows.uptoBulk];omega
  ·intro i hi;have h1:=hee i (by omega);rw[List.getElem?_eq_getElem hi]at h1;obtain⟨cs',h2,h3⟩:=Option.bind_eq_some_iff.1 h1;rw[hn]at h2;obtain⟨_,hlen',hcell⟩:=World.cells?_some h2
   have hc:∀j v,cs'[j]?=some v→W.cell? (((⟨b,off,sp'⟩:Addr).add (i * n)).add j)=some v:=fun j v hj=>by
    rw[hcell j (by have:=(List.getElem?_eq_some_iff.1 hj).1;omega),hj]
   have hs:sp'=none:=by
    have h10:=hee 0 (by omega);rw[List.getElem?_eq_getElem (by omega)]at h10;obtain⟨cs0,h20,-⟩:=Option.bind_eq_some_iff.1 h10;rw[hn]at h20;obtain⟨_,hlen0,hcell0⟩:=World.cells?_some h20;have h4:=World.cell?_spot ((hcell0 0 (by omega)).trans (List.getElem?_eq_getElem (by omega)));simpa [Addr.add]using h4
   subst hs;refine⟨q,cs',by omega,h3,hlen',b,off,rfl,fun j v hj=>?_⟩;have h5:=hc j v hj;rw[add_off,add_off]at h5;exact h5
theorem bulk_pos (d:DataW H):1≤Rows.uptoBulk d:=by
 cases d with
 |lit l=>cases l<;>simp[Rows.uptoBulk]
 |_=>simp[Rows.uptoBulk]
theorem gW_sum:∀(l:List Gx) (ds:List (DataW H)),l.length=ds.length→(∀i (h:i<l.length) (h':i<ds.length),gW l[i]≤Rows.uptoBulk ds[i])→gWL l≤Rows.uptoBulkAll ds
 |[],[],_,_=>by unfold gWL;omega
 | x::l,d::ds,hl,h=>by
  have h0:=h 0 (by simp) (by simp)
  have hr:=gW_sum l ds (by simpa using hl) fun i a b=>by
   have:=h (i+1) (by simpa using a) (by simpa using b);simpa using this
  simp only[List.getElem_cons_zero]at h0;unfold gWL;simp only[Rows.uptoBulkAll];omega
 |[],d::ds,hl,_=>by simp at hl
 |x::l,[],hl,_=>by simp at hl
theorem sW_sum:∀(l:List Gs) (ds:List (DataW H)),l.length=ds.length→(∀i (h:i<l.length) (h':i<ds.length),sW l[i]≤Rows.uptoBulk ds[i])→sWL l≤Rows.uptoBulkAll ds
 |[],[],_,_=>by unfold sWL;omega
 | x::l,d::ds,hl,h=>by
  have h0:=h 0 (by simp) (by simp)
  have hr:=sW_sum l ds (by simpa using hl) fun i a b=>by
   have:=h (i+1) (by simpa using a) (by simpa using b);simpa using this
  simp only[List.getElem_cons_zero]at h0;unfold sWL;simp only[Rows.uptoBulkAll];omega
 |[],d::ds,hl,_=>by simp at hl
 |x::l,[],hl,_=>by simp at hl
theorem cW_sum:∀(l:List Gc) (ds:List (DataW H)),l.length=ds.length→(∀i (h:i<l.length) (h':i<ds.length),1+l[i].name.length≤Rows.uptoBulk ds[i])→cWL l≤Rows.uptoBulkAll ds
 |[],[],_,_=>by unfold cWL;omega
 | x::l,d::ds,hl,h=>by
  have h0:=h 0 (by simp) (by simp)
  have hr:=cW_sum l ds (by simpa using hl) fun i a b=>by
   have:=h (i+1) (by simpa using a) (by simpa using b);simpa using this
  simp only[List.getElem_cons_zero]at h0;unfold cWL;simp only[Rows.uptoBulkAll];omega
 |[],d::ds,hl,_=>by simp at hl
 |x::l,[],hl,_=>by simp at hl
theorem hW_sum:∀(l:List (List Gs)) (ds:List (DataW H)),l.length=ds.length→(∀i (h:i<l.length) (h':i<ds.length),1+sWL l[i]≤Rows.uptoBulk ds[i])→hWL l≤Rows.uptoBulkAll ds
 |[],[],_,_=>by unfold hWL;omega
 | x::l,d::ds,hl,h=>by
  have h0:=h 0 (by simp) (by simp)
  have hr:=hW_sum l ds (by simpa using hl) fun i a b=>by
   have:=h (i+1) (by simpa using a) (by simpa using b);simpa using this
  simp only[List.getElem_cons_zero]at h0;unfold hWL;simp only[Rows.uptoBulkAll];omega
 |[],d::ds,hl,_=>by simp at hl
 |x::l,[],hl,_=>by simp at hl
theorem gkids_ofB {w:World}{S:Nat→Prop}{p:Option Addr}:∀(l:List Gx) (j:Nat),(∀i (h:i<l.length),∃g o vs,p=some ⟨g,o,none⟩∧S g∧(∀k v,vs[k]?=some v→w.cell? ⟨g,o+(j+i) * 7+k,none⟩=some v)∧GAt w S vs l[i])→DC w S p j l
 |[],_,_=>by unfold DC;trivial
 | x::l,j,h=>by
  unfold DC;refine⟨?_,gkids_ofB l (j+1) fun i hi=>?_⟩
  ·obtain⟨g,o,vs,h1,h2,h3,h4⟩:=h 0 (by simp);exact⟨g,o,vs,h1,h2,h3,h4⟩
  ·obtain⟨g,o,vs,h1,h2,h3,h4⟩:=h (i+1) (by simpa using hi);refine⟨g,o,vs,h1,h2,fun k v hk=>?_,by simpa using h4⟩;rw[show j+1+i=j+(i+1) by omega];exact h3 k v hk
instance : Inhabited Gx := ⟨.mk 0 0 0 [] 0 0 []⟩
instance : Inhabited Gs := ⟨.mk 0 [] 0 0 [] [] [] [] [] [] 0 0⟩
instance : Inhabited Gc := ⟨⟨0, [], 0, 0⟩⟩
theorem str_val (s:ByteArray):(Value.string s)=strV s.data.toList:=by
 unfold strV
 cases s;simp
theorem fitGL_rng {T:Nat→Gx}:∀l:List Nat,(∀i∈l,fitG (T i))→fitGL (l.map T)
 |[],_=>by unfold fitGL;trivial
 | x::l,h=>by
  rw[List.map_cons];unfold fitGL;exact⟨h x (by simp),fitGL_rng l fun y hy=>h y (by simp[hy])⟩
theorem fitNL_rng {T:Nat→Gs}:∀l:List Nat,(∀i∈l,fitN (T i))→fitNL (l.map T)
 |[],_=>by unfold fitNL;trivial
 | x::l,h=>by
  rw[List.map_cons];unfold fitNL;exact⟨h x (by simp),fitNL_rng l fun y hy=>h y (by simp[hy])⟩
theorem wf_le {m:Int}(hm:(Lit.int .i64 m).wf=true):m≤9223372036854775807:=by
 simp only[Lit.wf,Bool.and_eq_true,decide_eq_true_eq]at hm;exact hm.2
theorem exB_open:∀(fuel:Nat) {cs:List Value}{x:DataW H×List MemPlace},DataW.trod enc Tryz.prog W base sp held fuel 79 cs=some x→
  ∃g:Gx,GAt W (fun _=>True) cs g∧fitG g∧gW g≤Rows.uptoBulk x.1:=by
 intro fuel
 induction fuel using Nat.strongRecOn with
 |_ fuel ih=>
 intro cs x h;obtain⟨xs,n,rfl,rfl,hlen,hxl,hf⟩:=DataW.trod_struct Tryz.underlying79 h;rw[show Tryz.prog.cellsOf 79=7 by kernel_rfl]at hlen;have c3:Tryz.prog.cellsOf 3=1:=by kernel_rfl
 have c9:Tryz.prog.cellsOf 9=1:=by kernel_rfl
 have c6:Tryz.prog.cellsOf 2=1:=by kernel_rfl
 have c2:Tryz.prog.cellsOf 62=1:=by kernel_rfl
 match cs,hlen,xs,hxl with
 | [v0,v1,v2,v3,v4,v5,v6],_,[y0,y1,y2,y3,y4,y5,y6],_=>
  have g0:=hf 0 _ rfl;have g1:=hf 1 _ rfl;have g2:=hf 2 _ rfl;have g3:=hf 3 _ rfl;have g4:=hf 4 _ rfl;have g5:=hf 5 _ rfl;have g6:=hf 6 _ rfl;simp only[List.getElem?_cons_zero,List.getElem?_cons_succ]at g0 g1 g2 g3 g4 g5 g6;obtain⟨k,e0,-,_⟩:=DataW.trod_int Tryz.underlying3 g0;obtain⟨o,e1,-,_⟩:=DataW.trod_int Tryz.underlying3 g1;obtain⟨m,e2,-,hm⟩:=DataW.trod_int Tryz.underlying2 g2;obtain⟨s,e3,hy3,_⟩:=DataW.trod_string Tryz.underlying9 g3;obtain⟨l,e5,-,_⟩:=DataW.trod_int Tryz.underlying3 g5;obtain⟨c,e6,-,_⟩:=DataW.trod_int Tryz.underlying3 g6;obtain⟨p,len,cap,ys,e4,hyl,hbk,hys⟩:=slice_each (show Tryz.prog.underlying 62=some (.slice 79) by kernel_rfl) (show Tryz.prog.cellsOf 79=7 by kernel_rfl) (by decide) g4
  cases e0;cases e1;cases e2;cases e3;cases e4;cases e5;cases e6
  have each:∀i,i<ys.length→∃t:Gx,(∃g o vs,p=some ⟨g,o,none⟩∧(∀j v,vs[j]?=some v→W.cell? ⟨g,o+i * 7+j,none⟩=some v)∧GAt W (fun _=>True) vs t∧fitG t)∧∀hi:i<ys.length,gW t≤Rows.uptoBulk ys[i].1:=fun i hi=>by
   obtain⟨q,cs',hq,h3,-,g,o,h4,h5⟩:=hys i hi;obtain⟨t,ht,hft,hw⟩:=ih q (by omega) h3;exact⟨t,⟨g,o,cs',h4,h5,ht,hft⟩,fun _=>hw⟩
  obtain⟨T,hT⟩:=Deep.choose_lt each;refine⟨.mk k o m s.data.toList l c ((List.range ys.length).map T),?_,?_,?_⟩
  ·unfold GAt;refine⟨p,cap,by rw[str_val,←hyl];simp,gkids_ofB _ 0 fun i hi=>?_⟩;have hi':i<ys.length:=by simpa using hi
   obtain⟨⟨g,o,vs,h1,h2,h3⟩,-⟩:=hT i hi';exact⟨g,o,vs,h1,trivial,fun j v hj=>by rw[Nat.zero_add];exact h2 j v hj,by simpa using h3.1⟩
  ·unfold fitG;exact⟨wf_le hm,fitGL_rng _ fun i hi=>by obtain⟨⟨-,-,-,-,-,-,h⟩,-⟩:=hT i (by simpa using hi);exact h⟩
  ·have hs:=gW_sum ((List.range ys.length).map T) (ys.map (·.1)) (by simp) fun i h h'=>by
    have hi':i<ys.length:=by simpa using h
    simpa using (hT i hi').2 hi'
   unfold gW;simp only[List.map_cons,List.map_nil,Rows.uptoBulk,Rows.uptoBulkAll,hy3];have:=bulk_pos y0.1;omega
theorem stB_open:∀(fuel:Nat) {cs:List Value}{x:DataW H×List MemPlace},DataW.trod enc Tryz.prog W base sp held fuel 64 cs=some x→
  ∃g:Gs,SAt W (fun _=>True) cs g∧fitN g∧sW g≤Rows.uptoBulk x.1:=by
 intro fuel
 induction fuel using Nat.strongRecOn with
 |_ fuel ih=>
 intro cs x h;obtain⟨xs,n,rfl,rfl,hlen,hxl,hf⟩:=DataW.trod_struct Tryz.underlying64 h;rw[show Tryz.prog.cellsOf 64=12 by kernel_rfl]at hlen;have c3:Tryz.prog.cellsOf 3=1:=by kernel_rfl
 have c9:Tryz.prog.cellsOf 9=1:=by kernel_rfl
 have c6:Tryz.prog.cellsOf 2=1:=by kernel_rfl
 have c2:Tryz.prog.cellsOf 62=1:=by kernel_rfl
 have c4:Tryz.prog.cellsOf 34=1:=by kernel_rfl
 match cs,hlen,xs,hxl with
 | [v0,v1,v2,v3,v4,v5,v6,v7,v8,v9,v10,v11],_,[y0,y1,y2,y3,y4,y5,y6,y7,y8,y9,y10,y11],_=>
  have g0:=hf 0 _ rfl;have g1:=hf 1 _ rfl;have g2:=hf 2 _ rfl;have g3:=hf 3 _ rfl;have g4:=hf 4 _ rfl;have g5:=hf 5 _ rfl;have g6:=hf 6 _ rfl;have g7:=hf 7 _ rfl;have g8:=hf 8 _ rfl;have g9:=hf 9 _ rfl;have g10:=hf 10 _ rfl;have g11:=hf 11 _ rfl;simp only[List.getElem?_cons_zero,List.getElem?_cons_succ]at g0 g1 g2 g3 g4 g5 g6 g7 g8 g9 g10 g11;obtain⟨k,e0,-,_⟩:=DataW.trod_int Tryz.underlying3 g0;obtain⟨nm,e1,z1,_⟩:=DataW.trod_string Tryz.underlying9 g1;obtain⟨sz,e2,-,hm⟩:=DataW.trod_int Tryz.underlying2 g2;obtain⟨op,e3,-,_⟩:=DataW.trod_int Tryz.underlying3 g3;obtain⟨val,e4,z4,_⟩:=DataW.trod_string Tryz.underlying9 g4;obtain⟨into,e5,z5,_⟩:=DataW.trod_string Tryz.underlying9 g5;obtain⟨cont,e6,z6,_⟩:=DataW.trod_string Tryz.underlying9 g6;obtain⟨l,e10,-,_⟩:=DataW.trod_int Tryz.underlying3 g10;obtain⟨c,e11,-,_⟩:=DataW.trod_int Tryz.underlying3 g11;obtain⟨p1,n1,cap1,ys1,e7,hyl1,hbk1,hys1⟩:=slice_each (show Tryz.prog.underlying 62=some (.slice 79) by kernel_rfl) (show Tryz.prog.cellsOf 79=7 by kernel_rfl) (by decide) g7;obtain⟨p2,n2,cap2,ys2,e8,hyl2,hbk2,hys2⟩:=slice_each (show Tryz.prog.underlying 34=some (.slice 64) by kernel_rfl) (show Tryz.prog.cellsOf 64=12 by kernel_rfl) (by decide) g8;obtain⟨p3,n3,cap3,ys3,e9,hyl3,hbk3,hys3⟩:=slice_each (show Tryz.prog.underlying 34=some (.slice 64) by kernel_rfl) (show Tryz.prog.cellsOf 64=12 by kernel_rfl) (by decide) g9
  cases e0;cases e1;cases e2;cases e3;cases e4;cases e5;cases e6;cases e7;cases e8;cases e9;cases e10;cases e11
  have each1:∀i,i<ys1.length→∃t:Gx,(∃g o vs,p1=some ⟨g,o,none⟩∧(∀j v,vs[j]?=some v→W.cell? ⟨g,o+i * 7+j,none⟩=some v)∧GAt W (fun _=>True) vs t∧fitG t)∧∀hi:i<ys1.length,gW t≤Rows.uptoBulk ys1[i].1:=fun i hi=>by
   obtain⟨q,cs',hq,h3,-,g,o,h4,h5⟩:=hys1 i hi;obtain⟨t,ht,hft,hw⟩:=exB_open q h3;exact⟨t,⟨g,o,cs',h4,h5,ht,hft⟩,fun _=>hw⟩
  have each2:∀i,i<ys2.length→∃t:Gs,(∃g o vs,p2=some ⟨g,o,none⟩∧(∀j v,vs[j]?=some v→W.cell? ⟨g,o+i * 12+j,none⟩=some v)∧SAt W (fun _=>True) vs t∧fitN t)∧∀hi:i<ys2.length,sW t≤Rows.uptoBulk ys2[i].1:=fun i hi=>by
   obtain⟨q,cs',hq,h3,-,g,o,h4,h5⟩:=hys2 i hi;obtain⟨t,ht,hft,hw⟩:=ih q (by omega) h3;exact⟨t,⟨g,o,cs',h4,h5,ht,hft⟩,fun _=>hw⟩
  have each3:∀i,i<ys3.length→∃t:Gs,(∃g o vs,p3=some ⟨g,o,none⟩∧(∀j v,vs[j]?=some v→W.cell? ⟨g,o+i * 12+j,none⟩=some v)∧SAt W (fun _=>True) vs t∧fitN t)∧∀hi:i<ys3.length,sW t≤Rows.uptoBulk ys3[i].1:=fun i hi=>by
   obtain⟨q,cs',hq,h3,-,g,o,h4,h5⟩:=hys3 i hi;obtain⟨t,ht,hft,hw⟩:=ih q (by omega) h3;exact⟨t,⟨g,o,cs',h4,h5,ht,hft⟩,fun _=>hw⟩
  obtain⟨T1,hT1⟩:=Deep.choose_lt each1;obtain⟨T2,hT2⟩:=Deep.choose_lt each2;obtain⟨T3,hT3⟩:=Deep.choose_lt each3;refine⟨.mk k nm.data.toList sz op val.data.toList into.data.toList cont.data.toList ((List.range ys1.length).map T1) ((List.range ys2.length).map T2) ((List.range ys3.length).map T3) l c,?_,?_,?_⟩
  ·unfold SAt;refine⟨p1,cap1,p2,cap2,p3,cap3,by rw[str_val nm,str_val val,str_val into,str_val cont,←hyl1,←hyl2,←hyl3];simp,gkids_ofB _ 0 fun i hi=>?_,skids_of _ 0 fun i hi=>?_,skids_of _ 0 fun i hi=>?_⟩
   ·have hi':i<ys1.length:=by simpa using hi
    obtain⟨⟨g,o,vs,h1,h2,h3⟩,-⟩:=hT1 i hi';exact⟨g,o,vs,h1,trivial,fun j v hj=>by rw[Nat.zero_add];exact h2 j v hj,by simpa using h3.1⟩
   ·have hi':i<ys2.length:=by simpa using hi
    obtain⟨⟨g,o,vs,h1,h2,h3⟩,-⟩:=hT2 i hi';exact⟨g,o,vs,h1,trivial,fun j v hj=>by rw[Nat.zero_add];exact h2 j v hj,by simpa using h3.1⟩
   ·have hi':i<ys3.length:=by simpa using hi
    obtain⟨⟨g,o,vs,h1,h2,h3⟩,-⟩:=hT3 i hi';exact⟨g,o,vs,h1,trivial,fun j v hj=>by rw[Nat.zero_add];exact h2 j v hj,by simpa using h3.1⟩
  ·unfold fitN
   exact⟨wf_le hm,fitGL_rng _ fun i hi=>by obtain⟨⟨-,-,-,-,-,-,h⟩,-⟩:=hT1 i (by simpa using hi);exact h,
    fitNL_rng _ fun i hi=>by obtain⟨⟨-,-,-,-,-,-,h⟩,-⟩:=hT2 i (by simpa using hi);exact h,
    fitNL_rng _ fun i hi=>by obtain⟨⟨-,-,-,-,-,-,h⟩,-⟩:=hT3 i (by simpa using hi);exact h⟩
  ·have hs1:=gW_sum ((List.range ys1.length).map T1) (ys1.map (·.1)) (by simp) fun i h h'=>by
    have hi':i<ys1.length:=by simpa using h
    simpa using (hT1 i hi').2 hi'
   have hs2:=sW_sum ((List.range ys2.length).map T2) (ys2.map (·.1)) (by simp) fun i h h'=>by
    have hi':i<ys2.length:=by simpa using h
    simpa using (hT2 i hi').2 hi'
   have hs3:=sW_sum ((List.range ys3.length).map T3) (ys3.map (·.1)) (by simp) fun i h h'=>by
    have hi':i<ys3.length:=by simpa using h
    simpa using (hT3 i hi').2 hi'
   unfold sW;simp only[List.map_cons,List.map_nil,Rows.uptoBulk,Rows.uptoBulkAll,z1,z4,z5,z6];omega
theorem ctB_open {fuel:Nat}{cs:List Value}{x:DataW H×List MemPlace}(h:DataW.trod enc Tryz.prog W base sp held fuel 49 cs=some x):
  ∃c:Gc,cs=[.int .i64 c.kind,strV c.name,.int .i64 c.line,.int .i64 c.col]∧1+c.name.length≤Rows.uptoBulk x.1:=by
 obtain⟨xs,n,rfl,rfl,hlen,hxl,hf⟩:=DataW.trod_struct Tryz.underlying49 h;rw[show Tryz.prog.cellsOf 49=4 by kernel_rfl]at hlen;have c3:Tryz.prog.cellsOf 3=1:=by kernel_rfl
 have c9:Tryz.prog.cellsOf 9=1:=by kernel_rfl
 match cs,hlen,xs,hxl with
 | [v0,v1,v2,v3],_,[y0,y1,y2,y3],_=>
  have g0:=hf 0 _ rfl;have g1:=hf 1 _ rfl;have g2:=hf 2 _ rfl;have g3:=hf 3 _ rfl;simp only[List.getElem?_cons_zero,List.getElem?_cons_succ]at g0 g1 g2 g3;obtain⟨k,e0,-,_⟩:=DataW.trod_int Tryz.underlying3 g0;obtain⟨nm,e1,z1,_⟩:=DataW.trod_string Tryz.underlying9 g1;obtain⟨l,e2,-,_⟩:=DataW.trod_int Tryz.underlying3 g2;obtain⟨c,e3,-,_⟩:=DataW.trod_int Tryz.underlying3 g3
  cases e0;cases e1;cases e2;cases e3;refine⟨⟨k,nm.data.toList,l,c⟩,by rw[str_val nm],?_⟩;simp only[List.map_cons,List.map_nil,Rows.uptoBulk,Rows.uptoBulkAll,z1];omega
theorem prB_open {fuel:Nat}{cs:List Value}{x:DataW H×List MemPlace}(h:DataW.trod enc Tryz.prog W base sp held fuel 25 cs=some x):
  ∃p:Gp,PAt W (fun _=>True) (.agg cs.toArray) p∧(p.pool≤9223372036854775807∧∀l∈p.threads,fitNL l)∧pW p≤Rows.uptoBulk x.1:=by
 obtain⟨xs,n,rfl,rfl,hlen,hxl,hf⟩:=DataW.trod_struct Tryz.underlying25 h;rw[show Tryz.prog.cellsOf 25=3 by kernel_rfl]at hlen;have c6:Tryz.prog.cellsOf 2=1:=by kernel_rfl
 have c2:Tryz.prog.cellsOf 22=1:=by kernel_rfl
 have c4:Tryz.prog.cellsOf 23=1:=by kernel_rfl
 match cs,hlen,xs,hxl with
 | [v0,v1,v2],_,[y0,y1,y2],_=>
  have g0:=hf 0 _ rfl;have g1:=hf 1 _ rfl;have g2:=hf 2 _ rfl;simp only[List.getElem?_cons_zero,List.getElem?_cons_succ]at g0 g1 g2;obtain⟨pool,e0,-,hm⟩:=DataW.trod_int Tryz.underlying2 g0;obtain⟨p1,n1,cap1,ys1,e1,hyl1,hbk1,hys1⟩:=slice_each (show Tryz.prog.underlying 22=some (.slice 49) by kernel_rfl) (show Tryz.prog.cellsOf 49=4 by kernel_rfl) (by decide) g1;obtain⟨p2,n2,cap2,ys2,e2,hyl2,hbk2,hys2⟩:=slice_each (show Tryz.prog.underlying 23=some (.slice 34) by kernel_rfl) (show Tryz.prog.cellsOf 34=1 by kernel_rfl) (by decide) g2
  cases e0;cases e1;cases e2
  have each1:∀i,i<ys1.length→∃c:Gc,(∃g o,p1=some ⟨g,o,none⟩∧W.cell? ⟨g,o+i * 4,none⟩=some (.int .i64 c.kind)∧W.cell? ⟨g,o+i * 4+1,none⟩=some (strV c.name)∧W.cell? ⟨g,o+i * 4+2,none⟩=some (.int .i64 c.line)∧W.cell? ⟨g,o+i * 4+3,none⟩=some (.int .i64 c.col))∧∀hi:i<ys1.length,1+c.name.length≤Rows.uptoBulk ys1[i].1:=fun i hi=>by
   obtain⟨q,cs',hq,h3,-,g,o,h4,h5⟩:=hys1 i hi;obtain⟨c,rfl,hw⟩:=ctB_open h3;exact⟨c,⟨g,o,h4,h5 0 _ rfl,h5 1 _ rfl,h5 2 _ rfl,h5 3 _ rfl⟩,fun _=>hw⟩
  have each2:∀i,i<ys2.length→∃l:List Gs,(∃g o q c,p2=some ⟨g,o,none⟩∧W.cell? ⟨g,o+i,none⟩=some (.slice q l.length c)∧CF W (fun _=>True) q 0 l∧fitNL l)∧∀hi:i<ys2.length,1+sWL l≤Rows.uptoBulk ys2[i].1:=fun i hi=>by
   obtain⟨q,cs',hq,h3,-,g,o,h4,h5⟩:=hys2 i hi;obtain⟨p3,n3,cap3,ys3,rfl,hyl3,hbk3,hys3⟩:=slice_each (show Tryz.prog.underlying 34=some (.slice 64) by kernel_rfl) (show Tryz.prog.cellsOf 64=12 by kernel_rfl) (by decide) h3
   have each3:∀i,i<ys3.length→∃t:Gs,(∃g o vs,p3=some ⟨g,o,none⟩∧(∀j v,vs[j]?=some v→W.cell? ⟨g,o+i * 12+j,none⟩=some v)∧SAt W (fun _=>True) vs t∧fitN t)∧∀hi:i<ys3.length,sW t≤Rows.uptoBulk ys3[i].1:=fun i hi=>by
    obtain⟨q,cs',hq,h3,-,g,o,h4,h5⟩:=hys3 i hi;obtain⟨t,ht,hft,hw⟩:=stB_open q h3;exact⟨t,⟨g,o,cs',h4,h5,ht,hft⟩,fun _=>hw⟩
   obtain⟨T3,hT3⟩:=Deep.choose_lt each3
   have hs3:=sW_sum ((List.range ys3.length).map T3) (ys3.map (·.1)) (by simp) fun i h h'=>by
    have hi':i<ys3.length:=by simpa using h
    simpa using (hT3 i hi').2 hi'
   refine⟨(List.range ys3.length).map T3,⟨g,o,p3,cap3,h4,?_,skids_of _ 0 fun j hj=>?_,fitNL_rng _ fun i hi=>by obtain⟨⟨-,-,-,-,-,-,h⟩,-⟩:=hT3 i (by simpa using hi);exact h⟩,fun _=>by omega⟩
   ·have h6:=h5 0 _ rfl;rw[Nat.mul_one,Nat.add_zero]at h6;rw[h6,←hyl3];simp
   ·have hj':j<ys3.length:=by simpa using hj
    obtain⟨⟨g,o,vs,h1,h2,h3⟩,-⟩:=hT3 j hj';exact⟨g,o,vs,h1,trivial,fun k v hk=>by rw[Nat.zero_add];exact h2 k v hk,by simpa using h3.1⟩
  obtain⟨T1,hT1⟩:=Deep.choose_lt each1;obtain⟨T2,hT2⟩:=Deep.choose_lt each2
  have hs1:=cW_sum ((List.range ys1.length).map T1) (ys1.map (·.1)) (by simp) fun i h h'=>by
   have hi':i<ys1.length:=by simpa using h
   simpa using (hT1 i hi').2 hi'
  have hs2:=hW_sum ((List.range ys2.length).map T2) (ys2.map (·.1)) (by simp) fun i h h'=>by
   have hi':i<ys2.length:=by simpa using h
   simpa using (hT2 i hi').2 hi'
  refine⟨⟨pool,(List.range ys1.length).map T1,(List.range ys2.length).map T2⟩,⟨p1,cap1,p2,cap2,by rw[←hyl1,←hyl2];simp,fun i hi=>?_,fun i hi=>?_⟩,⟨wf_le hm,fun l hl=>?_⟩,?_⟩
  ·have hi':i<ys1.length:=by simpa using hi
   obtain⟨⟨g,o,h1,h2,h3,h4,h5⟩,-⟩:=hT1 i hi';exact⟨g,o,h1,trivial,by simpa using h2,by simpa using h3,by simpa using h4,by simpa using h5⟩
  ·have hi':i<ys2.length:=by simpa using hi
   obtain⟨⟨g,o,q,c,h1,h2,h3⟩,-⟩:=hT2 i hi';exact⟨g,o,q,c,h1,trivial,by simpa using h2,by simpa using h3.1⟩
  ·obtain⟨i,hi,rfl⟩:=List.mem_map.1 hl;obtain⟨⟨-,-,-,-,-,-,-,h⟩,-⟩:=hT2 i (by simpa using hi);exact h
  ·unfold pW;simp only[List.map_cons,List.map_nil,Rows.uptoBulk,Rows.uptoBulkAll];omega
end
mutual
theorem gSize_W:∀x:Gx,FA x≤gW x
 | .mk _ _ _ nm _ _ kids=>by
  unfold FA gW;have:=gSizeL_W kids;omega
theorem gSizeL_W:∀l:List Gx,CV l≤gWL l
 |[]=>by unfold CV gWL;omega
 | x::l=>by
  unfold CV gWL;have:=gSize_W x;have:=gSizeL_W l;omega
end
mutual
theorem sSize_W:∀x:Gs,CO x≤sW x
 | .mk _ nm _ _ val into cont xs thn els _ _=>by
  unfold CO sW;have:=gSizeL_W xs;have:=sSizeL_W thn;have:=sSizeL_W els;omega
theorem sSizeL_W:∀l:List Gs,BI l≤sWL l
 |[]=>by unfold BI sWL;omega
 | x::l=>by
  unfold BI sWL;have:=sSize_W x;have:=sSizeL_W l;omega
end
mutual
theorem fitS_W:∀x:Gs,sW x≤1099511627776→fitS x
 | .mk _ nm _ _ val into cont xs thn els _ _,h=>by
  unfold sW at h;unfold fitS;exact⟨by omega,fitSL_W thn (by omega),fitSL_W els (by omega)⟩
theorem fitSL_W:∀l:List Gs,sWL l≤1099511627776→DS l
 |[],_=>by unfold DS;trivial
 | x::l,h=>by
  unfold sWL at h;unfold DS;exact⟨fitS_W x (by omega),fitSL_W l (by omega)⟩
end
theorem hSize_W:∀l:List (List Gs),DM l+l.length≤hWL l
 |[]=>by unfold DM hWL;simp
 | x::l=>by
  unfold DM hWL;have:=sSizeL_W x;have:=hSize_W l;rw[LC];omega
theorem cLen_W:∀l:List Gc,l.length≤cWL l
 |[]=>by unfold cWL;simp
 | x::l=>by
  unfold cWL;have:=cLen_W l;rw[LC];omega
theorem hW_mem:∀{l:List (List Gs)}{x:List Gs},x∈l→sWL x≤hWL l
 | y::l,x,h=>by
  unfold hWL;rcases List.mem_cons.1 h with rfl|h
  ·omega
  ·have:=hW_mem h;omega
theorem prog_fits {p:Gp}{N:Nat}(h:pW p≤N)(hN:N≤1048576):DM p.threads≤1048576∧p.conts.length≤1048576∧p.threads.length≤1048576∧∀l∈p.threads,DS l∧BI l≤1048576:=by
 unfold pW at h;have h1:=hSize_W p.threads;have h2:=cLen_W p.conts;refine⟨by omega,by omega,by omega,fun l hl=>?_⟩;have h3:=hW_mem hl;have h4:=sSizeL_W l;exact⟨fitSL_W l (by omega),by omega⟩
open Go Go.ChangeShapes Go.WideShapes Go.ChangeAt Go.RowKit
theorem Tryz.own:ownKnob Tryz.prog.godebug=none:=by kernel_rfl
theorem Tryz.laidOut:laidOutB Tryz.prog=true:=by kernel_rfl
theorem tabs_of_laid {W:World}(h:laidMetH Tryz.prog Rows.checkThreadsRow.laid W):TabS W:=by
 rw[MakeChecks.laidMetH_plain _ _ _ (by kernel_rfl)]at h;obtain⟨ps,⟨g0,t0,cs0,f0,p0,q0,hg0,ht0,hv0,hd0,⟨g4,t4,cs4,f4,p4,q4,hg4,ht4,hv4,hd4,_,_⟩,_⟩,_,_⟩:=h;obtain rfl := Option.some.inj ((show Tryz.prog.globalNamed "strings.asciiSpace" = some 0 by kernel_rfl).symm.trans hg4);obtain rfl:=Option.some.inj ((show (Tryz.prog.globals[0]?).map (·.type)=some 157 by kernel_rfl).symm.trans ht4);unfold TabS Lib.TabIs;have e:(Rows.laid_strings_asciiSpace:DataW Unit)=Lib.tabData .u8 Lib.asciiSpaceTab:=by kernel_rfl
 rw[e]at hd4;rw[hv4,←Lib.cells_of_tab Tryz.underlying157 Tryz.underlying5 (by kernel_rfl) (by kernel_rfl) hd4]
theorem trodAll_below {H:Type}{enc:TypeId×Value→H}{P:Program}{W W':World}(hl:laidOutB P=true)(hb:Below W.heap.size W W'):∀(ts:List TypeId) (vs:List Value) (ds:List (DataW H)) (ps:List MemPlace),
  (ts.all fun t=>P.readableRec t && decide (t<P.types.size))=true→DataW.TrodAll enc P W 0 (fun _=>true) true ts vs ds ps→(∀x∈ps,x.block<W.heap.size)→DataW.TrodAll enc P W' 0 (fun b=>decide (b<W.heap.size)) true ts vs ds ps
 |[],[],[],_,_,h,_=>h
 | t::ts,v::vs,d::ds,ps,hr,h,hlt=>by
  obtain⟨p,q,h1,h2,e⟩:=h;simp only[List.all_cons,Bool.and_eq_true,decide_eq_true_eq]at hr;exact⟨p,q,Below.trod hl hr.1.1 hr.1.2 h1 hb (fun x hx=>hlt x (by rw[e];exact List.mem_append_left _ hx)),trodAll_below hl hb ts vs ds q hr.2 h2 (fun x hx=>hlt x (by rw[e];exact List.mem_append_right _ hx)),e⟩
 |[],_::_,_,_,_,h,_=>h.elim
 |[],[],_::_,_,_,h,_=>h.elim
 |_::_,[],_,_,_,h,_=>h.elim
 |_::_,_::_,[],_,_,h,_=>h.elim
theorem trodAll_head {H:Type}{enc:TypeId×Value→H}{P:Program}{W:World}{sp:Nat→Bool}{t:TypeId}{ts:List TypeId}{vs:List Value}{ds:List (DataW H)}{ps:List MemPlace}
  (h:DataW.TrodAll enc P W 0 sp true (t::ts) vs ds ps):∃v vs' d ds' p q,vs=v::vs'∧ds=d::ds'∧DataW.Trod enc P W 0 sp true t v d p∧DataW.TrodAll enc P W 0 sp true ts vs' ds' q:=by
 match vs,ds,h with
 |v::vs',d::ds',⟨p,q,h1,h2,_⟩=>exact⟨v,vs',d,ds',p,q,rfl,rfl,h1,h2⟩
 |[],[],h=>exact h.elim
 |[],_::_,h=>exact h.elim
 |_::_,[],h=>exact h.elim
theorem trodAll_end {H:Type}{enc:TypeId×Value→H}{P:Program}{W:World}{sp:Nat→Bool}{vs:List Value}{ds:List (DataW H)}{ps:List MemPlace}
  (h:DataW.TrodAll enc P W 0 sp true [] vs ds ps):vs=[]∧ds=[]:=by
 match vs,ds,h with
 |[],[],_=>exact⟨rfl,rfl⟩
 |[],_::_,h=>exact h.elim
 |_::_,_,h=>exact h.elim
end Go.Proofs.YtknnmidnodeanaaGreatDoor
