import Derived.Test.YtknnmidnodeanaaGreatDoorJu26
set_option maxHeartbeats 8000000
set_option maxRecDepth 100000
namespace Go.Proofs.YtknnmidnodeanaaGreatDoor
open Go Go.RowKit Own
open Go.Lib (hid)
attribute [local go_sem] Oper.semAt_some
abbrev flV (f:Fl):Value:=.agg #[.int .i64 f.err,.int .i64 f.line,.int .i64 f.col]
theorem AllP.form {w w':World}{p:Gp}{e:Ending}(h:AllP w (allF p) e w'):∃q n c,e=.returned (.tuple #[.slice q n c,flV (pgF p)])∧BA (fun _=>False) w w':=by
 obtain⟨hk,hr⟩:=h;unfold pgF
 cases ha:allF p with
 |error f=>rw[ha]at hr;exact⟨none,0,0,hr,hk⟩
 |ok ss=>rw[ha]at hr;obtain⟨q,c,xs,he,-⟩:=hr;exact⟨q,_,c,he,hk⟩
def Mild (p:Gp):Prop:=DM p.threads≤1000000000∧p.conts.length≤2000000∧p.threads.length≤2000000∧∀l∈p.threads,DS l
theorem prog18_any (p:Gp)(hm:Mild p)(w:World)(hT:TabS w)(S:Nat→Prop)(pv:Value)(hp:PAt w S pv p):
  Calls Tryz.prog 8 #[pv] w fun e w'=>e=.returned (flV (pgF p))∧BA (fun _=>False) w w':=by
 obtain⟨p1,c1,p2,c2,rfl,hcs,hth⟩:=id hp;obtain⟨N,hN⟩:∃N:Int,(p.pool:Int)=N:=⟨_,rfl⟩;rw[hN]at hp;rw[hN];obtain⟨V1,C1,hV1,hC1,hb1,hk1,hs1⟩:=BD w (.cells #[.int .i64 N,.slice p1 p.conts.length c1,.slice p2 p.threads.length c2] TPr0);obtain⟨V,A2,hV,hA2,hb2,hk2,hs2⟩:=BD V1 (.cells #[.int .i64 0,.int .i64 0,.int .i64 0] TFa);have hkV:=hk1.trans hk2;have h12:C1+1=A2:=by omega
 obtain⟨m0,m1,m2,-⟩:=BS (hk2.blk hb1);have HK:=hid hkV;have HA2:=hid hb2;have HORD:=hid (show w.heap.size≤A2∧A2<V.heap.size by omega);have HALL:=hid (checkAll_any p hm.1 hm.2.1 hm.2.2.1 hm.2.2.2 V (hkV.tabS hT) S _ (CG hp hkV));clear hcs hth hp hb1 hb2 hk1 hk2 hs1 hs2 hkV hm hT;go_enter Tryz.func8,Tryz.ntmps8;go_upto_region 1 with fail;rw[←hV1,←hC1,←hV,h12];clear hV1 hC1 hV hA2 h12 hN;go_wp2_with fail;go_at_call 25;refine HALL.out.mono ?_;rintro e w1 ha;obtain⟨q,n,c,rfl,hk1⟩:=ha.form;obtain⟨⟨er,li,co⟩,hf⟩:∃f,pgF p=f:=⟨_,rfl⟩;rw[hf];unfold flV;dsimp only;obtain⟨W,D,hW,hD,hbd,hkd,hsd⟩:=BD w1 (.cells #[.int .i64 er,.int .i64 li,.int .i64 co] TFa);have HK1:=hid hk1;have HBD:=hid hbd;have HKD:=hid hkd;have HSD:=hid (show V.heap.size≤D from by have:=hk1.size;omega);have hb2:=(hk1.trans hkd).blk HA2.out;have hk9:=HK.out.trans (hk1.trans hkd);obtain⟨m0',m1',m2',f0,f1,f2⟩:=BS hb2;obtain⟨n0,n1,n2,-⟩:=BS hbd;obtain⟨w9,hw9,hb9,hk8⟩:=put3 hb2 (.int .i64 er) (.int .i64 li) (.int .i64 co);obtain⟨c0,c1,c2,-⟩:=BS hb9;have HC9:=hid (And.intro c0 (And.intro c1 c2));have HW9:=hid hw9;have HK9:=hid (hk9.new hk8 fun b e=>by have e:b=A2:=e;have:=HORD.out;omega);have HF:=hid hf;clear hk1 hbd hkd hsd ha hf m0 m1 m2 hb2 hk9 hb9 hk8 c0 c1 c2 hw9;go_upto_region 2 with fail;rw[←hW,←hD];clear hW hD;go_wp2_with fail;rw[←HW9.out];obtain⟨c0,c1,c2⟩:=HC9.out;exact bodyPost_ret (v:=.agg #[.int .i64 er,.int .i64 li,.int .i64 co]) (by simp[results,Tryz.results8,go_sem,c0,c1,c2]) rfl ⟨by rw[HF.out],HK9.out⟩
theorem rd_row2 {w:World}{base:Nat}{T:TypeId}{q:Option Addr}{n c:Nat}{xs:List Value}(h:w.ownsRow base T 2 (.slice q n c) n xs):Rd w q xs:=by
 intro j v hj;have hlen:=h.1;rcases h.2 with⟨h1,h2⟩|⟨g,cap,cur,h1,-,h3,-,-,-,h7⟩
 ·subst h2;have:xs=[]:=List.length_eq_zero_iff.1 (by omega);rw[this]at hj;simp at hj
 ·simp only[Value.slice.injEq]at h1;obtain⟨h8,-,-⟩:=h1;refine⟨g,0,h8,?_⟩;rw[←h7,List.getElem?_take]at hj;split at hj
  ·simp only[World.cell?,h3,Option.isSome_none,Bool.false_eq_true,if_false,Nat.zero_add];simpa using hj
  ·cases hj
theorem put4 {w:World}{B:Nat}{a b c d:Value}{T:TypeId}(h:w.heap[B]?=some (.cells #[a,b,c,d] T (0,0)))(v0 v1 v2 v3:Value):
  ∃wf,wf=(((w.setCell ⟨B,0,none⟩ v0).setCell ⟨B,1,none⟩ v1).setCell ⟨B,2,none⟩ v2).setCell ⟨B,3,none⟩ v3∧wf.heap[B]?=some (.cells #[v0,v1,v2,v3] T (0,0))∧BA (fun k=>k=B) w wf:=by
 refine⟨_,rfl,put1 (i:=3) (put1 (i:=2) (put1 (i:=1) (put1 (i:=0) h v0) v1) v2) v3,?_⟩;have s:∀(w:World) (i:Nat) (v:Value),BA (fun k=>k=B) w (w.setCell ⟨B,i,none⟩ v):=fun w i v=>BA.setCell _ _ _ rfl;exact(((s _ _ _).trans (s _ _ _)).trans (s _ _ _)).trans (s _ _ _)
theorem blk4f {w:World}{B:Nat}{a b c d:Value}{T:TypeId}(h:w.heap[B]?=some (.cells #[a,b,c,d] T (0,0))):
  (w.cell? ⟨B,0,none⟩=some a∧w.cell? ⟨B,1,none⟩=some b∧w.cell? ⟨B,2,none⟩=some c∧w.cell? ⟨B,3,none⟩=some d)∧w.frozen? ⟨B,0,none⟩=false∧w.frozen? ⟨B,1,none⟩=false∧w.frozen? ⟨B,2,none⟩=false∧w.frozen? ⟨B,3,none⟩=false:=by
 simp[World.cell?,World.frozen?,h]
def Sc.no:Sc:=⟨[],[],0⟩
def scOf (p:Gp)(t:Int):Sc:=
 match allF p with
 |.ok ss=>if t<0 then Sc.no else (ss[t.toNat]?).getD Sc.no
 |.error _=>Sc.no
theorem AllP.form2 {w w':World}{p:Gp}{e:Ending}(h:AllP w (allF p) e w')(t:Int)(hl:p.threads.length≤2000000):∃q n c f,e=.returned (.tuple #[.slice q n c,flV f])∧BA (fun _=>False) w w'∧n≤2000000∧
  ((¬(0≤t∧t<(n:Int))∧scOf p t=Sc.no)∨∃k b o B M,t=((k:Nat):Int)∧k<n∧q=some ⟨b,o,none⟩∧w'.cell? ⟨b,o+k,none⟩=some (.pointer (some ⟨B,0,none⟩))∧ScAt w' B M (fun b=>w.heap.size≤b) (scOf p t)):=by
 obtain⟨hk,hr⟩:=h;unfold scOf
 cases ha:allF p with
 |error f=>rw[ha]at hr;exact⟨none,0,0,f,hr,hk,Nat.zero_le _,.inl ⟨by omega,rfl⟩⟩
 | ok ss=>
  rw[ha]at hr;obtain⟨q,c,xs,he,hrd,hsc⟩:=hr
  have hn:ss.length≤2000000:=by
   unfold allF at ha;split at ha
   ·cases ha
   ·split at ha
    ·cases ha
    ·split at ha
     ·cases ha
     ·rw[(thrsF_get ha).1];exact hl
  refine⟨q,ss.length,c,Fl.no,he,hk,hn,?_⟩;dsimp only;by_cases ht:0≤t∧t<(ss.length:Int)
  ·right;obtain⟨k,rfl⟩:=Int.eq_ofNat_of_zero_le ht.1;have hk:k<ss.length:=by omega
   have hk':k<xs.length:=by rw[hsc.1];exact hk
   obtain⟨B,M,hx,hs⟩:=hsc.2 k hk hk';obtain⟨b,o,hq,hc⟩:=hrd k xs[k] (List.getElem?_eq_getElem hk');refine⟨k,b,o,B,M,rfl,hk,hq,by rw[hc,hx],?_⟩;rw[if_neg (by omega),Int.toNat_natCast,List.getElem?_eq_getElem hk];exact hs
  ·left;refine⟨ht,?_⟩;by_cases h0:t<0
   ·rw[if_pos h0]
   ·rw[if_neg h0,List.getElem?_eq_none (by omega)];rfl
def OfP (w:World)(s:Sc)(e:Ending)(w':World):Prop:=BA (fun _=>False) w w'∧∃mv pv cv pa ca,e=.returned (.agg #[mv,.slice pv s.vars.length cv,.slice pa s.arrays.length ca,.int .i64 s.calls])∧Rd w' pv (varsV s)∧Rd w' pa (arrsV s)∧(∀b,Of pv b→w.heap.size≤b∧b<w'.heap.size)∧∀b,Of pa b→w.heap.size≤b∧b<w'.heap.size
theorem of18_any (p:Gp)(hm:Mild p)(t:Int)(w:World)(hT:TabS w)(S:Nat→Prop)(pv:Value)(hp:PAt w S pv p):
  Calls Tryz.prog 29 #[pv,.int .i64 t] w fun e w'=>OfP w (scOf p t) e w':=by
 obtain⟨p1,c1,p2,c2,rfl,hcs,hth⟩:=id hp;obtain⟨N,hN⟩:∃N:Int,(p.pool:Int)=N:=⟨_,rfl⟩;rw[hN]at hp;rw[hN];obtain⟨V1,C1,hV1,hC1,hb1,hk1,hs1⟩:=BD w (.cells #[.int .i64 N,.slice p1 p.conts.length c1,.slice p2 p.threads.length c2] TPr0);obtain⟨V,A2,hV,hA2,hb2,hk2,hs2⟩:=BD V1 (.cells #[.map none,.slice none 0 0,.slice none 0 0,.int .i64 0] TScp);have hkV:=hk1.trans hk2;have h12:C1+1=A2:=by omega
 obtain⟨m0,m1,m2,-⟩:=BS (hk2.blk hb1);have HK:=hid hkV;have HA2:=hid hb2;have HORD:=hid (show w.heap.size≤A2∧A2<V.heap.size by omega);have HALL:=hid (checkAll_any p hm.1 hm.2.1 hm.2.2.1 hm.2.2.2 V (hkV.tabS hT) S _ (CG hp hkV));have HL:=hid hm.2.2.1;clear hcs hth hp hb1 hb2 hk1 hk2 hs1 hs2 hkV hm hT;go_enter Tryz.func29,Tryz.ntmps29;go_upto_region 1 with fail;rw[←hV1,←hC1,←hV,h12];clear hV1 hC1 hV hA2 h12 hN;go_wp2_with fail;go_at_call 25;refine HALL.out.mono ?_;rintro e w1 ha;obtain⟨q,n,c,⟨er,li,co⟩,rfl,hk1,hn,hcase⟩:=ha.form2 t HL.out;unfold flV;dsimp only;obtain⟨W,D,hW,hD,hbd,hkd,hsd⟩:=BD w1 (.cells #[.int .i64 er,.int .i64 li,.int .i64 co] TFa);obtain⟨s,hs⟩:∃s,scOf p t=s:=⟨_,rfl⟩;rw[hs]at hcase;have hb2:=(hk1.trans hkd).blk HA2.out;have HK9:=hid (HK.out.trans (hk1.trans hkd));obtain⟨⟨a0,a1,a2,a3⟩,f0,f1,f2,f3⟩:=blk4f hb2;have HB2:=hid hb2;have HKD:=hid hkd;have HS:=hid hs;have HNN:=hid hn;have HVW:=hid (show V.heap.size≤w1.heap.size from hk1.size);clear hk1 hbd hkd hsd ha hs m0 m1 m2 hb2 hn;rcases hcase with⟨hno,rfl⟩|⟨k,b,o,B,M,rfl,hk,rfl,hcell,hsc⟩
 ·obtain⟨w9,hw9,hb9,hk8⟩:=put4 HB2.out (.map none) (.slice none 0 0) (.slice none 0 0) (.int .i64 0);obtain⟨⟨c0,c1',c2',c3⟩,-⟩:=blk4f hb9;have HC9:=hid (And.intro c0 (And.intro c1' (And.intro c2' c3)));have HW9:=hid hw9;have HK10:=hid (HK9.out.new hk8 fun b e=>by have e:b=A2:=e;have:=HORD.out;omega);clear hb9 hk8 c0 c1' c2' c3 hw9;by_cases h0:t<0
  ·clear hno;go_upto_region 3 with fail;rw[←hW,←hD];clear hW hD;go_wp2_with fail;rw[←HW9.out];obtain⟨c0,c1,c2,c3⟩:=HC9.out;exact bodyPost_ret (v:=.agg #[.map none,.slice none 0 0,.slice none 0 0,.int .i64 0]) (by simp[results,Tryz.results29,go_sem,c0,c1,c2,c3]) rfl ⟨HK10.out,by rw[HS.out];exact⟨_,none,0,none,0,rfl,Rd.empty _ _,Rd.empty _ _,fun b h=>(by obtain⟨a,h,-⟩:=h;cases h),fun b h=>(by obtain⟨a,h,-⟩:=h;cases h)⟩⟩
  ·have h1:(n:Int)≤t:=by omega
   clear hno;go_upto_region 3 with fail;rw[←hW,←hD];clear hW hD;go_wp2_with fail;rw[←HW9.out];obtain⟨c0,c1,c2,c3⟩:=HC9.out;exact bodyPost_ret (v:=.agg #[.map none,.slice none 0 0,.slice none 0 0,.int .i64 0]) (by simp[results,Tryz.results29,go_sem,c0,c1,c2,c3]) rfl ⟨HK10.out,by rw[HS.out];exact⟨_,none,0,none,0,rfl,Rd.empty _ _,Rd.empty _ _,fun b h=>(by obtain⟨a,h,-⟩:=h;cases h),fun b h=>(by obtain⟨a,h,-⟩:=h;cases h)⟩⟩
 ·have hsc2:=hsc.stay HKD.out;have hcell2:=HKD.out.stay hcell;obtain⟨pv,cv,pa,ca,hB,hMB,-,hv,ha,-,-,-,g3,g4⟩:=hsc2;obtain⟨z0,z1,z2,z3⟩:=blk4s hB;have hrv:Rd W pv (varsV s):=rd_row hv;have hra:Rd W pa (arrsV s):=rd_row2 ha;obtain⟨w9,hw9,hb9,hk8⟩:=put4 HB2.out (.map (some M)) (.slice pv s.vars.length cv) (.slice pa s.arrays.length ca) (.int .i64 s.calls);obtain⟨⟨c0,c1',c2',c3⟩,-⟩:=blk4f hb9;have HC9:=hid (And.intro c0 (And.intro c1' (And.intro c2' c3)));have HW9:=hid hw9;have HK10:=hid (HK9.out.new hk8 fun b e=>by have e:b=A2:=e;have:=HORD.out;omega)
  have HOV:=hid (show (∀b,Of pv b→w.heap.size≤b∧b<w9.heap.size)∧∀b,Of pa b→w.heap.size≤b∧b<w9.heap.size from by
   have h1:=HK.out.size;have h2:=hk8.size;exact⟨fun b hb=>⟨by have:=g3 b hb;omega,by have:=(row_lt hv hb).2;omega⟩,fun b hb=>⟨by have:=g4 b hb;omega,by have:=(row_lt ha hb).2;omega⟩⟩)
  have HRV:=hid (show Rd w9 pv (varsV s)∧Rd w9 pa (arrsV s)from by
   have h2:=HORD.out;exact⟨hrv.keep hk8 fun a h e=>by have h3:=g3 a.block ⟨a,h,rfl⟩;have e:a.block=A2:=e;omega,hra.keep hk8 fun a h e=>by have h3:=g4 a.block ⟨a,h,rfl⟩;have e:a.block=A2:=e;omega⟩)
  clear hb9 hk8 c0 c1' c2' c3 hw9 hcell hv ha hrv hra g3 g4;have h0:¬((k:Int)<0):=by omega
  have h1:¬((n:Int)≤(k:Int)):=by omega
  have h2:(k:Int)<n:=by omega
  go_upto_region 4 with fail;rw[←hW,←hD];clear hW hD;go_wp2_with fail;rw[←HW9.out];obtain⟨c0,c1,c2,c3⟩:=HC9.out;exact bodyPost_ret (v:=.agg #[.map (some M),.slice pv s.vars.length cv,.slice pa s.arrays.length ca,.int .i64 s.calls]) (by simp[results,Tryz.results29,go_sem,c0,c1,c2,c3]) rfl ⟨HK10.out,by rw[HS.out];exact⟨_,pv,cv,pa,ca,rfl,HRV.out.1,HRV.out.2,HOV.out.1,HOV.out.2⟩⟩
attribute [local go_sem] Oper.semAt_some
theorem scp_vars (w:World)(a b c d:Value):(Instr.field TScp (.agg #[a,b,c,d]) 1).run Tryz.prog w=.ok b w:=by kernel_rfl
theorem scp_arrs (w:World)(a b c d:Value):(Instr.field TScp (.agg #[a,b,c,d]) 2).run Tryz.prog w=.ok c w:=by kernel_rfl
theorem scp_calls (w:World)(a b c d:Value):(Instr.field TScp (.agg #[a,b,c,d]) 3).run Tryz.prog w=.ok d w:=by kernel_rfl
theorem vars_any (p:Gp)(hm:Mild p)(t:Int)(w:World)(hT:TabS w)(S:Nat→Prop)(pv:Value)(hp:PAt w S pv p):
  Calls Tryz.prog 13 #[pv,.int .i64 t] w fun e w'=>∃q c,e=.returned (.slice q (scOf p t).vars.length c)∧Rd w' q (varsV (scOf p t))∧BA (fun _=>False) w w'∧∀b,Of q b→w.heap.size≤b∧b<w'.heap.size:=by
 obtain⟨p1,c1,p2,c2,rfl,hcs,hth⟩:=id hp;obtain⟨N,hN⟩:∃N:Int,(p.pool:Int)=N:=⟨_,rfl⟩;rw[hN]at hp;rw[hN];obtain⟨V,C1,hV,hC1,hb1,hk1,hs1⟩:=BD w (.cells #[.int .i64 N,.slice p1 p.conts.length c1,.slice p2 p.threads.length c2] TPr0);obtain⟨m0,m1,m2,-⟩:=BS hb1;have HK:=hid hk1;have hfld:=fun w a b c d=>scp_vars w a b c d;have HOF:=hid (of18_any p hm t V (hk1.tabS hT) S _ (CG hp hk1));obtain⟨s,hs⟩:∃s,scOf p t=s:=⟨_,rfl⟩;rw[hs]at HOF ⊢;clear hcs hth hp hb1 hk1 hs1 hm hT hs hN;go_enter Tryz.func13,Tryz.ntmps13;go_upto_region 1 with fail;rw[←hV,←hC1];clear hV hC1;go_wp2_with (go_at_call 29;refine HOF.out.mono ?_;rintro e w1 ⟨hk1,mv,qv,cv,qa,ca,rfl,hr1,hr2⟩;have HR:=hid (And.intro hk1 (And.intro hr1 hr2));clear hk1 hr1 hr2);go_ret;exact⟨qv,cv,rfl,HR.out.2.1,HK.out.trans HR.out.1,fun b hb=>⟨Nat.le_trans HK.out.size (HR.out.2.2.2.1 b hb).1,(HR.out.2.2.2.1 b hb).2⟩⟩
theorem arrays_any (p:Gp)(hm:Mild p)(t:Int)(w:World)(hT:TabS w)(S:Nat→Prop)(pv:Value)(hp:PAt w S pv p):
  Calls Tryz.prog 15 #[pv,.int .i64 t] w fun e w'=>∃q c,e=.returned (.slice q (scOf p t).arrays.length c)∧Rd w' q (arrsV (scOf p t))∧BA (fun _=>False) w w'∧∀b,Of q b→w.heap.size≤b∧b<w'.heap.size:=by
 obtain⟨p1,c1,p2,c2,rfl,hcs,hth⟩:=id hp;obtain⟨N,hN⟩:∃N:Int,(p.pool:Int)=N:=⟨_,rfl⟩;rw[hN]at hp;rw[hN];obtain⟨V,C1,hV,hC1,hb1,hk1,hs1⟩:=BD w (.cells #[.int .i64 N,.slice p1 p.conts.length c1,.slice p2 p.threads.length c2] TPr0);obtain⟨m0,m1,m2,-⟩:=BS hb1;have HK:=hid hk1;have hfld:=fun w a b c d=>scp_arrs w a b c d;have HOF:=hid (of18_any p hm t V (hk1.tabS hT) S _ (CG hp hk1));obtain⟨s,hs⟩:∃s,scOf p t=s:=⟨_,rfl⟩;rw[hs]at HOF ⊢;clear hcs hth hp hb1 hk1 hs1 hm hT hs hN;go_enter Tryz.func15,Tryz.ntmps15;go_upto_region 1 with fail;rw[←hV,←hC1];clear hV hC1;go_wp2_with (go_at_call 29;refine HOF.out.mono ?_;rintro e w1 ⟨hk1,mv,qv,cv,qa,ca,rfl,hr1,hr2⟩;have HR:=hid (And.intro hk1 (And.intro hr1 hr2));clear hk1 hr1 hr2);go_ret;exact⟨qa,ca,rfl,HR.out.2.2.1,HK.out.trans HR.out.1,fun b hb=>⟨Nat.le_trans HK.out.size (HR.out.2.2.2.2 b hb).1,(HR.out.2.2.2.2 b hb).2⟩⟩
theorem calls18_any (p:Gp)(hm:Mild p)(t:Int)(w:World)(hT:TabS w)(S:Nat→Prop)(pv:Value)(hp:PAt w S pv p):
  Calls Tryz.prog 16 #[pv,.int .i64 t] w fun e w'=>e=.returned (.int .i64 (scOf p t).calls)∧BA (fun _=>False) w w':=by
 obtain⟨p1,c1,p2,c2,rfl,hcs,hth⟩:=id hp;obtain⟨N,hN⟩:∃N:Int,(p.pool:Int)=N:=⟨_,rfl⟩;rw[hN]at hp;rw[hN];obtain⟨V,C1,hV,hC1,hb1,hk1,hs1⟩:=BD w (.cells #[.int .i64 N,.slice p1 p.conts.length c1,.slice p2 p.threads.length c2] TPr0);obtain⟨m0,m1,m2,-⟩:=BS hb1;have HK:=hid hk1;have hfld:=fun w a b c d=>scp_calls w a b c d;have HOF:=hid (of18_any p hm t V (hk1.tabS hT) S _ (CG hp hk1));obtain⟨s,hs⟩:∃s,scOf p t=s:=⟨_,rfl⟩;rw[hs]at HOF ⊢;clear hcs hth hp hb1 hk1 hs1 hm hT hs hN;go_enter Tryz.func16,Tryz.ntmps16;go_upto_region 1 with fail;rw[←hV,←hC1];clear hV hC1;go_wp2_with (go_at_call 29;refine HOF.out.mono ?_;rintro e w1 ⟨hk1,mv,qv,cv,qa,ca,rfl,hr1,hr2⟩;have HR:=hid (And.intro hk1 (And.intro hr1 hr2));clear hk1 hr1 hr2);go_ret;exact⟨rfl,HK.out.trans HR.out.1⟩
theorem sameS_any (w:World)(p q:Option Addr)(c d:Nat)(l:List (List UInt8))(hx:Rd w p (l.map strV))(hy:Rd w q (l.map strV))(hl:l.length≤1099511627776):
  Calls Tryz.prog 12 #[.slice p l.length c,.slice q l.length d] w fun e w'=>e=.returned (.bool true)∧BA (fun _=>False) w w':=by
 have HX:=hid hx;have HY:=hid hy;clear hx hy;go_enter Tryz.func12,Tryz.ntmps12;go_wp2_with fail;go_loopw [5] (fun i wr=>∃k:Nat,k≤l.length∧i=.int .i64 k∧BA (fun _=>False) w wr) (fun i _=>l.length - (intOf i).toNat)
 case atStart=>exact⟨0,Nat.zero_le _,rfl,BA.refl _ w⟩
 case round=>
  obtain⟨k,hk,rfl,hd⟩:=hrel;have HD:=hid hd;by_cases hlt:k<l.length
  ·have hltI:(k:Int)<(l.length:Int):=by omega
   have h0k:(0:Int)≤k:=by omega
   have hW:IntKind.i64.wrap ((k:Int)+1)=k+1:=IntWalk.i64_in _ (by omega);obtain⟨g,o,hp,x0⟩:=(HX.out.stay hd) k (strV l[k]) (by rw[List.getElem?_map,List.getElem?_eq_getElem hlt];rfl);obtain⟨g',o',hq,y0⟩:=(HY.out.stay hd) k (strV l[k]) (by rw[List.getElem?_map,List.getElem?_eq_getElem hlt];rfl);subst hp;subst hq;obtain⟨s,hs⟩:∃s,l[k]=s:=⟨_,rfl⟩;rw[hs]at x0 y0;unfold strV at x0 y0;clear hs hd;go_upto_region 6 with fail
   go_quiet (fail)
   go_wp2_with fail;exact⟨⟨k+1,by omega,by simp,HD.out.trans (BA.drewN _ _ _)⟩,by simp only[intOf];omega⟩
  ·have hnl:¬(k:Int)<(l.length:Int):=by omega
   go_wp2_with fail;go_ret;exact⟨rfl,HD.out⟩
theorem cellsA_at:∀(l:List (List UInt8×Int)) (i k:Nat) (h:i<l.length),k<2→(l.flatMap ayV)[i * 2+k]?=(ayV l[i])[k]?
 | x::l,0,k,_,hk=>by
  show (ayV x++l.flatMap ayV)[0 * 2+k]?=_;rw[Nat.zero_mul,Nat.zero_add,List.getElem?_append_left (by simpa [ayV]using hk)];rfl
 | x::l,i+1,k,h,hk=>by
  show (ayV x++l.flatMap ayV)[(i+1) * 2+k]?=_;rw[List.getElem?_append_right (by simp[ayV];omega)];have e:(i+1) * 2+k - (ayV x).length=i * 2+k:=by simp[ayV];omega
  rw[e,cellsA_at l i k (by simpa using h) hk];rfl
theorem rdA_cells {w:World}{p:Option Addr}{l:List (List UInt8×Int)}(h:Rd w p (l.flatMap ayV))(i:Nat)(hi:i<l.length):
  ∃g o,p=some ⟨g,o,none⟩∧w.cell? ⟨g,o+i * 2,none⟩=some (strV l[i].1)∧w.cell? ⟨g,o+i * 2+1,none⟩=some (.int .i64 l[i].2):=by
 obtain⟨b,o,hp,h0⟩:=h (i * 2+0) _ (cellsA_at l i 0 hi (by decide));obtain⟨b',o',hp',h1⟩:=h (i * 2+1) _ (cellsA_at l i 1 hi (by decide));rw[hp]at hp'
 cases hp';exact⟨b,o,hp,h0,by rw[Nat.add_assoc];exact h1⟩
theorem eqA (s:ByteArray)(b:Int)(w:World):(Op.equalIn 10000 TAy (.agg #[.string s,.int .i64 b]) (.agg #[.string s,.int .i64 b])).run Tryz.prog w=.ok true w:=by
 have u3:=Tryz.underlying3;have a3:=Tryz.isAgg3;have z3:=Tryz.sizeOf3;have u9:=Tryz.underlying9;have a9:=Tryz.isAgg9;have z9:=Tryz.sizeOf9;have hS:Tryz.prog.underlying TAy=some (.struct (Tryz.prog.fieldsOf TAy)):=by kernel_rfl
 rw[show (10000:Nat)=9999+1 from rfl,run_equalIn_agg w 9999 TAy _ _ hS (by kernel_rfl)];simp only[Program.fieldsOf,Tryz.underlying42];go_simp
theorem sameA_any (w:World)(p q:Option Addr)(c d:Nat)(l:List (List UInt8×Int))(hx:Rd w p (l.flatMap ayV))(hy:Rd w q (l.flatMap ayV))(hl:l.length≤1099511627776):
  Calls Tryz.prog 14 #[.slice p l.length c,.slice q l.length d] w fun e w'=>e=.returned (.bool true)∧BA (fun _=>False) w w':=by
 have HX:=hid hx;have HY:=hid hy;clear hx hy;go_enter Tryz.func14,Tryz.ntmps14;go_wp2_with fail;go_loopw [5] (fun i wr=>∃k:Nat,k≤l.length∧i=.int .i64 k∧BA (fun _=>False) w wr) (fun i _=>l.length - (intOf i).toNat)
 case atStart=>exact⟨0,Nat.zero_le _,rfl,BA.refl _ w⟩
 case round=>
  obtain⟨k,hk,rfl,hd⟩:=hrel;have HD:=hid hd;by_cases hlt:k<l.length
  ·have hltI:(k:Int)<(l.length:Int):=by omega
   have h0k:(0:Int)≤k:=by omega
   have hW:IntKind.i64.wrap ((k:Int)+1)=k+1:=IntWalk.i64_in _ (by omega);obtain⟨g,o,hp,x0,x1⟩:=rdA_cells (HX.out.stay hd) k hlt;obtain⟨g',o',hq,y0,y1⟩:=rdA_cells (HY.out.stay hd) k hlt;subst hp;subst hq;obtain⟨⟨ta,tb⟩,ht⟩:∃t,l[k]=t:=⟨_,rfl⟩;rw[ht]at x0 x1 y0 y1;dsimp only at x0 x1 y0 y1;unfold strV at x0 y0
   have heq:∀n,(binOp .neq TAy (.agg #[.string ⟨ta.toArray⟩,.int .i64 tb]) (.agg #[.string ⟨ta.toArray⟩,.int .i64 tb])).run Tryz.prog (wr.drewN n)=.ok (.bool false) (wr.drewN n):=fun n=>by
    have h9:=eqA ⟨ta.toArray⟩ tb (wr.drewN n);simp only[binOp,Op.equal,Op.maxDepth,Sem.run_bind,h9,Result.andThen_ok];rfl
   clear ht hd;go_upto_region 6 with fail
   go_quiet (fail)
   go_wp2_with fail;exact⟨⟨k+1,by omega,by simp,HD.out.trans (BA.drewN _ _ _)⟩,by simp only[intOf];omega⟩
  ·have hnl:¬(k:Int)<(l.length:Int):=by omega
   go_wp2_with fail;go_ret;exact⟨rfl,HD.out⟩
def arrIdx (l:List (List UInt8×Int))(nm:List UInt8):Option Nat:=l.findIdx? fun a=>a.1==nm
def arrI (l:List (List UInt8×Int))(nm:List UInt8):Int:=match arrIdx l nm with|some i=>(i:Int)|none=>-1
theorem arrI_hit {cs:List (List UInt8×Int)}{nm:List UInt8}{k:Nat}(h:k<cs.length)(hk:(cs[k].1==nm)=true)(hb:∀j,(hj:j<k)→(h:j<cs.length)→(cs[j].1==nm)=false):arrI cs nm=k:=by
 have:arrIdx cs nm=some k:=by
  unfold arrIdx;rw[List.findIdx?_eq_some_iff_getElem];exact⟨h,hk,fun j hj=>by rw[hb j hj (by omega)];exact NT⟩
 unfold arrI;rw[this]
theorem arrI_miss {cs:List (List UInt8×Int)}{nm:List UInt8}(hb:∀j,(h:j<cs.length)→(cs[j].1==nm)=false):arrI cs nm=-1:=by
 have:arrIdx cs nm=none:=by
  unfold arrIdx;rw[List.findIdx?_eq_none_iff];intro x hx;obtain⟨j,hj,e⟩:=List.getElem_of_mem hx;rw[←e,hb j hj]
 unfold arrI;rw[this]
theorem arrFn_any (an:List UInt8)(az:Int)(nm:List UInt8)(B:Nat)(w:World)(hB:w.heap[B]?=some (.cells #[strV nm] TStr (0,0))):
  Calls Tryz.prog 34 #[.agg #[strV an,.int .i64 az],.pointer (some ⟨B,0,none⟩)] w fun e w'=>e=.returned (.bool (an==nm))∧BA (fun _=>False) w w':=by
 obtain⟨V,B1,hV,hB1,hb1,hk1,hs1⟩:=BD w (.cells #[strV an,.int .i64 az] TAy);have HK:=hid hk1;have hx:V.cell? ⟨B,0,none⟩=some (strV nm):=by have:=hk1.blk hB;simp[World.cell?,this]
 have hb:=hb1;unfold strV at hb hV hx ⊢;clear hb1 hk1 hs1 hB;by_cases h2:an=nm
 ·subst h2;rw[beq_self_eq_true];obtain⟨n0,n1⟩:=blk2 hb;go_enter Tryz.func34,Tryz.ntmps34;go_upto_region 1 with fail;rw[←hV,←hB1];clear hV hB1;go_wp2_with fail;go_ret;exact⟨rfl,HK.out⟩
 ·have h3:(an==nm)=false:=BF.2 h2;obtain⟨n0,n1⟩:=blk2 hb;go_enter Tryz.func34,Tryz.ntmps34;go_upto_region 1 with fail;rw[←hV,←hB1];clear hV hB1;go_wp2_with fail;go_ret;exact⟨by rw[h3];rfl,HK.out⟩
theorem arrAt_any (l:List (List UInt8×Int))(nm:List UInt8)(B:Nat)(hl:l.length≤1099511627776)(w:World)(hB:w.heap[B]?=some (.cells #[strV nm] TStr (0,0)))(p:Option Addr)(c:Nat)(hp:Rd w p (l.flatMap ayV)):
  Calls Tryz.prog 33 #[.slice p l.length c,.func (.func 34) #[] #[.pointer (some ⟨B,0,none⟩)]] w fun e w'=>e=.returned (.int .i64 (arrI l nm))∧BA (fun _=>False) w w':=by
 have HP:=hid hp;have HB:=hid hB;clear hp hB;go_enter Tryz.func33,Tryz.ntmps33;go_wp2_with fail;go_loopw [8] (fun v8 wr=>∃k:Nat,v8=.int .i64 k∧k≤l.length∧(∀j,(hj:j<k)→(h:j<l.length)→(l[j].1==nm)=false)∧BA (fun _=>False) w wr) (fun v _=>l.length - (intOf v).toNat)
 case atStart=>exact⟨0,rfl,Nat.zero_le _,fun j h=>absurd h (Nat.not_lt_zero _),BA.refl _ _⟩
 case round=>
  obtain⟨k,rfl,hk,hall,hkk⟩:=hrel;have HALL:=hid hall;have HK:=hid hkk;by_cases hlt:k<l.length
  ·have hlti:(k:Int)<l.length:=by omega
   have hi0:(0:Int)≤k:=by omega
   have hWi:IntKind.i64.wrap ((k:Int)+1)=(k:Int)+1:=IntWalk.i64_in _ (by omega);obtain⟨g,o,hp,y0,y1⟩:=rdA_cells (HP.out.stay hkk) k hlt;subst hp;obtain⟨⟨an,az⟩,ht⟩:∃t,l[k]=t:=⟨_,rfl⟩;rw[ht]at y0 y1;dsimp only at y0 y1;have HFN:=hid (arrFn_any an az nm B wr (hkk.blk HB.out));obtain⟨a,ha⟩:∃a,(an==nm)=a:=⟨_,rfl⟩;have HA:=hid (show (l[k].1==nm)=a by rw[ht];exact ha);rw[ha]at HFN;unfold strV at HFN y0;clear hkk hall ha ht
   cases a with
   | false=>
    go_wp2_with (go_at_call 34;refine HFN.out.mono ?_;rintro e w2 ⟨rfl,hk2⟩;have HK2:=hid hk2;clear hk2)
    exact⟨⟨k+1,by simp,by omega,fun j hj h=>by
     by_cases e:j=k
     ·subst e;exact HA.out
     ·exact HALL.out j (by omega) h,HK.out.trans HK2.out⟩,by simp only[intOf];omega⟩
   | true=>
    go_wp2_with (go_at_call 34;refine HFN.out.mono ?_;rintro e w2 ⟨rfl,hk2⟩;have HK2:=hid hk2;clear hk2);go_ret;exact⟨by rw[arrI_hit hlt HA.out HALL.out];rfl,HK.out.trans HK2.out⟩
  ·have hnl:¬(k:Int)<l.length:=by omega
   clear hkk hall;go_wp2_with fail;go_ret;exact⟨by rw[arrI_miss fun j hj=>HALL.out j (by omega) hj];rfl,HK.out⟩
theorem array_any (p:Gp)(hm:Mild p)(t:Int)(nm:List UInt8)(hl:(scOf p t).arrays.length≤1099511627776)(w:World)(hT:TabS w)(S:Nat→Prop)(pv:Value)(hp:PAt w S pv p):
  Calls Tryz.prog 21 #[pv,.int .i64 t,strV nm] w fun e w'=>e=.returned (.int .i64 (arrI (scOf p t).arrays nm))∧BA (fun _=>False) w w':=by
 obtain⟨p1,c1,p2,c2,rfl,hcs,hth⟩:=id hp;obtain⟨N,hN⟩:∃N:Int,(p.pool:Int)=N:=⟨_,rfl⟩;rw[hN]at hp;rw[hN];obtain⟨V1,C1,hV1,hC1,hb1,hk1,hs1⟩:=BD w (.cells #[.int .i64 N,.slice p1 p.conts.length c1,.slice p2 p.threads.length c2] TPr0);obtain⟨V,B2,hV,hB2,hb2,hk2,hs2⟩:=BD V1 (.cells #[strV nm] TStr);have h12:C1+1=B2:=by omega
 have hkV:=hk1.trans hk2;obtain⟨m0,m1,m2,-⟩:=BS (hk2.blk hb1);have HK:=hid hkV;have HB2:=hid hb2;have HOF:=hid (arrays_any p hm t V (hkV.tabS hT) S _ (CG hp hkV));obtain⟨s,hs⟩:∃s,scOf p t=s:=⟨_,rfl⟩;rw[hs]at HOF hl ⊢;have HL:=hid hl;have HIX:=hid (fun w1 hb q c hr=>arrAt_any s.arrays nm B2 hl w1 hb q c hr);unfold strV at hV ⊢;clear hcs hth hp hb1 hk1 hs1 hm hT hs hN hl hb2 hk2 hs2 hkV;go_enter Tryz.func21,Tryz.ntmps21;go_upto_region 1 with fail;rw[←hV1,←hC1,←hV,h12];clear hV1 hC1 hV hB2 h12;go_wp2_with (first|(go_at_call 15;refine HOF.out.mono ?_;rintro e w1 ⟨qa,ca,rfl,hr1,hk1,-⟩;have HI:=hid (HIX.out w1 (hk1.blk HB2.out) qa ca hr1);have HK1:=hid hk1;clear hr1 hk1 m0 m1 m2)|(go_at_call 33;refine HI.out.mono ?_;rintro e w2 ⟨rfl,hk2⟩;have HK2:=hid hk2;clear hk2));go_ret;exact⟨rfl,HK.out.trans (HK1.out.trans HK2.out)⟩
theorem thrsF_err {cs:List Gc}:∀{l:List (List Gs)}{f:Fl},DQ cs l=.error f→f.err≠0
 |[],f,h=>by cases h
 | t::r,f,h=>by
  unfold DQ at h;split at h
  ·rename_i g hg
   cases h;exact foldF_err hg
  ·split at h
   ·rename_i g hg
    cases h;exact thrsF_err hg
   ·cases h
theorem allF_err {p:Gp}{f:Fl}(h:allF p=.error f):f.err≠0:=by
 unfold allF at h;split at h
 ·exact err_of h (by decide)
 ·split at h
  ·exact err_of h (by decide)
  ·split at h
   ·rename_i g hg
    cases h;exact contF_err hg
   ·exact thrsF_err h
theorem ok_of {p:Gp}(h:pgF p=Fl.no):∃ss,allF p=.ok ss:=by
 cases ha:allF p with
 |ok ss=>exact⟨ss,rfl⟩
 | error f=>
  have e:pgF p=f:=by unfold pgF;rw[ha]
  exact absurd (by rw[←e,h];rfl) (allF_err ha)
theorem foldF_ok {cs:List Gc}:∀{l:List Gs}{s s':Sc},CK cs s l=.ok s'→ScOk s→ScOk s'
 |[],s,s',h,ho=>by unfold CK at h;cases h;exact ho
 | x::l,s,s',h,ho=>by
  have e:CK cs s (x::l)=(match stF cs s x with | .error f=>(.error f:Except Fl Sc) | .ok s'=>CK cs s' l):=rfl;rw[e]at h
  cases hs:stF cs s x with
  |error g=>rw[hs]at h;cases h
  |ok s2=>rw[hs]at h;exact foldF_ok h (stF_ok hs ho)
theorem parts_of {p:Gp}{ss:List Sc}(h:allF p=.ok ss):checkP p=true∧sizesOk p=true∧contF p.conts 0 p.conts=none∧DQ p.conts p.threads=.ok ss:=by
 unfold allF at h
 cases h1:checkP p with
 |false=>rw[h1]at h;cases h
 | true=>
  rw[h1,if_neg (by decide)]at h
  cases h2:sizesOk p with
  |false=>rw[h2]at h;cases h
  | true=>
   rw[h2,if_neg (by decide)]at h
   cases h3:contF p.conts 0 p.conts with
   |some f=>rw[h3]at h;cases h
   |none=>rw[h3]at h;exact⟨rfl,rfl,rfl,h⟩
theorem scOf_ok (p:Gp)(t:Int):ScOk (scOf p t):=by
 have h0:ScOk Sc.no:=by unfold ScOk Sc.no;simp
 unfold scOf
 cases ha:allF p with
 |error f=>exact h0
 | ok ss=>
  dsimp only;split
  ·exact h0
  ·cases hg:ss[t.toNat]? with
   |none=>exact h0
   | some s=>
    obtain⟨hi,hs⟩:=List.getElem?_eq_some_iff.1 hg;obtain⟨h1,h2⟩:=thrsF_get (parts_of ha).2.2.2;have h3:=h2 t.toNat (by rw[←h1];exact hi) hi;rw[hs]at h3;exact foldF_ok h3 h0
theorem light_mild {p:Gp}(hl:lightP p=true)(hf:∀l∈p.threads,DS l):Mild p:=by
 unfold lightP at hl;simp only[Bool.and_eq_true,decide_eq_true_eq]at hl;obtain⟨h1,h2,-,h4⟩:=hl;obtain⟨h5,h6⟩:=ltL_size _ _ h4
 have key:∀l:List (List Gs),(∀x∈l,swL 0 0 x≤2000)→DM l≤(l.map (swL 0 0)).sum:=by
  intro l
  induction l with
  |nil=>intro _;exact Nat.le_refl _
  | cons x l ih=>
   intro h;have a1:=ih fun y hy=>h y (List.mem_cons_of_mem _ hy);have a2:=(swL_of x 0 0 (by have:=h x List.mem_cons_self;omega)).1;simp only[List.map_cons,List.sum_cons,DM];omega
 have h7:=key _ h5;exact⟨by omega,by omega,by omega,hf⟩
theorem wS_len (x:Gs)(n seen:Int):(wS x n seen).1.toList.length≤1:=by
 cases (wS x n seen).1<;>simp
theorem wL_len:∀(l:List Gs) (n seen:Int),(wL l n seen).1.length≤l.length
 |[],n,seen=>by unfold wL;exact Nat.le_refl _
 | x::l,n,seen=>by
  have h1:=wS_len x n seen;have h2:=wL_len l n (wS x n seen).2;unfold wL;dsimp only;rw[LA,LC];omega
theorem fieldsB_less {nn ns nc:Bool}{nx:Int}{nt ne:Bool}{sz op:Int}{nm val into cont:List UInt8}{x t e t' e':Nat}(ht:t'≤t)(he:e'≤e)(h:BL nn ns nc nx nt ne sz op nm val into cont x t e=true):BL nn ns nc nx nt ne sz op nm val into cont x t' e'=true:=by
 unfold BL at h ⊢;simp only[Bool.and_eq_true,Bool.or_eq_true,beq_iff_eq]at h ⊢;obtain⟨h1,h2,h3,h4,h5,h6,h7⟩:=h;exact⟨h1,h2,h3,h4,h5,h6.imp id fun h=>by omega,h7.imp id fun h=>by omega⟩
theorem fieldsK_less {k sz op:Int}{nm val into cont:List UInt8}{x t e t' e':Nat}(ht:t'≤t)(he:e'≤e)(h:fieldsK k sz op nm val into cont x t e=true):fieldsK k sz op nm val into cont x t' e'=true:=by
 unfold fieldsK at h ⊢
 repeat' split at h
 all_goals (simp only[*,if_true,if_false]<;>first|exact fieldsB_less ht he h|skip)
mutual
theorem wS_may:∀(x:Gs) (n seen:Int),mayS x=true→CC (wS x n seen).1.toList=true
 | .mk k nm sz op val into cont xs thn els l c,n,seen,h=>by
  unfold wS;split
  ·show CC []=true;unfold CC;rfl
  ·dsimp only;unfold mayS at h;simp only[Bool.and_eq_true]at h;obtain⟨h1,h2,h3,h4,h5,h6⟩:=h;generalize (if tlS (.mk k nm sz op val into cont xs thn els l c)=false then seen+1 else seen)=q;show CC [_]=true;unfold CC CC mayS;simp only[Bool.and_eq_true,Bool.and_true];exact⟨h1,h2,fieldsK_less (wL_len _ _ _) (wL_len _ _ _) h3,h4,wL_may thn _ _ h5,wL_may els _ _ h6⟩
theorem wL_may:∀(l:List Gs) (n seen:Int),CC l=true→CC (wL l n seen).1=true
 |[],n,seen,h=>by unfold wL;exact h
 | x::l,n,seen,h=>by
  unfold CC at h;simp only[Bool.and_eq_true]at h;have h1:=wS_may x n seen h.1;have h2:=wL_may l n (wS x n seen).2 h.2
  have ha:∀a b:List Gs,CC a=true→CC b=true→CC (a++b)=true:=fun a b=>by
   induction a with
   |nil=>intro _ h;exact h
   | cons y a ih=>
    intro h1 h2;unfold CC at h1;simp only[Bool.and_eq_true]at h1;rw[List.cons_append];unfold CC;simp only[Bool.and_eq_true];exact⟨h1.1,ih h1.2 h2⟩
  unfold wL;dsimp only;exact ha _ _ h1 h2
end
def lessP (p:Gp)(t:Nat)(n:Int):Gp:=⟨p.pool,p.conts,p.threads.set t (wL (p.threads.getD t []) n 0).1⟩
theorem thrsF_set {cs:List Gc}:∀{r:List (List Gs)}{q:List Sc}{t:Nat}{l':List Gs}{s':Sc},DQ cs r=.ok q→t<r.length→thrF cs l'=.ok s'→DQ cs (r.set t l')=.ok (q.set t s')
 |[],q,t,l',s',h,ht,hl=>absurd ht (by simp)
 | l::r,q,t,l',s',h,ht,hl=>by
  unfold DQ at h;split at h
  ·cases h
  ·rename_i s hs
   split at h
   ·cases h
   ·rename_i q2 hq
    cases h
    cases t with
    | zero=>
     rw[List.set_cons_zero,List.set_cons_zero];unfold DQ;rw[hl];dsimp only;rw[hq]
    | succ t=>
     rw[List.set_cons_succ,List.set_cons_succ];have h2:=thrsF_set hq (by simpa using ht) hl;unfold DQ;rw[hs];dsimp only;rw[h2]
theorem less_law {p:Gp}{t:Nat}(n:Int)(h:pgF p=Fl.no)(ht:t<p.threads.length):pgF (lessP p t n)=Fl.no∧ScLe (scOf (lessP p t n) t) (scOf p t):=by
 obtain⟨ss,hss⟩:=ok_of h;obtain⟨a,b,c,d⟩:=parts_of hss;obtain⟨e1,e2⟩:=thrsF_get d;have ht':t<ss.length:=by rw[e1];exact ht
 have e3:=e2 t ht ht';have hg:p.threads.getD t []=p.threads[t]:=by simp[List.getD,List.getElem?_eq_getElem ht]
 obtain⟨s',k1,k2⟩:=wL_fold (cs:=p.conts) p.threads[t] n 0 (ScLe.refl _) e3
 have hall:allF (lessP p t n)=.ok (ss.set t s'):=by
  have h1:checkP (lessP p t n)=true:=by
   unfold checkP lessP at *;simp only[Bool.and_eq_true]at a ⊢;refine⟨a.1,a.2.1,List.all_eq_true.2 fun x hx=>?_⟩;rcases List.mem_or_eq_of_mem_set hx with hx|hx
   ·exact List.all_eq_true.1 a.2.2 x hx
   ·rw[hx,hg];exact wL_may _ _ _ (List.all_eq_true.1 a.2.2 _ (List.getElem_mem ht))
  have h2:sizesOk (lessP p t n)=true:=by
   unfold sizesOk lessP at *;simpa using b
  have h3:contF (lessP p t n).conts 0 (lessP p t n).conts=none:=c;unfold allF;rw[h1,if_neg (by decide),h2,if_neg (by decide),h3];show DQ p.conts (p.threads.set t (wL (p.threads.getD t []) n 0).1)=_;rw[hg];exact thrsF_set d ht k1
 refine⟨by unfold pgF;rw[hall],?_⟩;unfold scOf;rw[hall,hss];dsimp only;rw[if_neg (by omega),Int.toNat_natCast,List.getElem?_set_self ht',List.getElem?_eq_getElem ht',if_neg (by omega)];exact k2
end Go.Proofs.YtknnmidnodeanaaGreatDoor
