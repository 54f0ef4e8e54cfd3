import Derived.Test.YtknnmidnodeanaaGreatDoorJu33
set_option maxHeartbeats 64000000
set_option maxRecDepth 4000
namespace Go.Proofs.YtknnmidnodeanaaGreatDoor
open Go Go.RowKit Own
open Go.Lib (hid)
theorem CH {α β:Type}(a:α)(r:List Item)(k:α→List Item→Oc β):(Oc.ok a r).bind k=k a r:=rfl
def exFo (g:Nat)(its:List Item):Option (List Item):=if its.length<g∧(exP g its).isNone=true then some (exF g its) else none
theorem faultsE_ex (g R el ec:Nat):FD (exFo g) R el ec:=fun w0 w its b hk hr hb=>by
 unfold exFo at hb;split at hb
 ·rename_i h
  cases hb;exact exP_faults R el ec g w0 w its hk hr (Option.isNone_iff_eq_none.1 h.2) h.1
 ·cases hb
def headText (ts:List Item):List UInt8:=
 match ts with
 |t::_=>t.tok.text
 |[]=>[]
theorem peek_at {w:World}{R:Nat}{its:List Item}{el ec:Nat}(h:BG w R its el ec):
  ∃n:Int,∀W,BA (fun _=>False) w W→Calls Tryz.prog 79 #[rdV R] W fun e w'=>e=.returned (.agg #[.int .i64 (DJ its),.string ⟨(headText its).toArray⟩,.int .i64 n,.int .i64 (lineOf its el),.int .i64 (colOf its ec)])∧BA (fun _=>False) W w':=by
 cases its with
 |nil=>exact⟨0,fun W k=>peek_any W R [] el ec (h.keep k fun _ _ e=>e)⟩
 |cons t r=>exact⟨t.tok.num,fun W k=>peek_any W R (t::r) el ec (h.keep k fun _ _ e=>e)⟩
theorem opO_bad {value:List UInt8}{its b:List Item}(h:opO value its=.bad b):b=its∧(ofL opL (headText its)=0∨DJ its≠1∨¬((ofL opL (headText its)=2∨ofL opL (headText its)=4)↔value≠[])):=by
 unfold opO at h
 cases its with
 |nil=>cases h;exact⟨rfl,.inl rfl⟩
 | cons t r=>
  dsimp only at h;split at h
  ·rename_i hc
   cases h;exact⟨rfl,hc.imp id fun hc=>hc.imp id fun hc e=>hc (propext e)⟩
  ·cases h
theorem opO_ok {value:List UInt8}{its r:List Item}{op:Nat}(h:opO value its=.ok op r):∃t,its=t::r∧ofL opL t.tok.text=op∧op≠0∧t.tok.kind=1∧((op=2∨op=4)↔value≠[]):=by
 unfold opO at h
 cases its with
 |nil=>cases h
 | cons t r0=>
  dsimp only at h;split at h
  ·cases h
  ·rename_i hc
   cases h;exact⟨t,rfl,rfl,fun e=>hc (.inl e),Classical.byContradiction fun e=>hc (.inr (.inl e)),by rw[←show ((ofL opL t.tok.text=2∨ofL opL t.tok.text=4)=(value≠[]))from Classical.byContradiction fun e=>hc (.inr (.inr e))]⟩
theorem Oc.assoc {α β γ:Type}(o:Oc α)(k:α→List Item→Oc β)(k':β→List Item→Oc γ):(o.bind k).bind k'=o.bind fun a r=>(k a r).bind k':=by
 cases o<;>rfl
theorem DN {α β:Type}{o:Oc β}{p:Oc α}{k:α→List Item→Oc β}(h:p.bind k=o)(hn:o≠.no):(∃b,Hid (p=.bad b)∧Oc.bad b=o)∨∃a r,p=.ok a r∧Hid (k a r=o):=by
 cases p with
 |no=>exact absurd h.symm hn
 |bad b=>exact .inl ⟨b,hid rfl,h⟩
 |ok a r=>exact .inr ⟨a,r,rfl,hid h⟩
theorem hidF {P:Program}{f:FuncId}{args:Array Value}{w:World}{fl:List PanicEntry}{K:World→Prop}(h:Calls P f args w fun e w'=>e=.panicked fl∧K w'):∃FL,Hid (FL=fl)∧Hid (Calls P f args w fun e w'=>e=.panicked FL∧K w'):=⟨fl,hid rfl,hid h⟩
def OutC (w:World)(R el ec Bs:Nat)(nm value into:List UInt8)(sz l cl:Int)(o:Oc (Nat×List UInt8×List Ex))(e:Ending)(w':World):Prop:=
 match o with
 |.ok q r=>e=.returned (.tuple #[])∧BG w' R r el ec∧BA (fun b=>b=R∨b=Bs) w w'∧∃p cap,w'.heap[Bs]?=some (.cells (stC 9 sz q.1 nm value into q.2.1 (.slice p q.2.2.length cap) l cl) TSm (0,0))∧CB w' (fun b=>w.heap.size≤b) p 0 q.2.2
 |.bad b=>e=.panicked (CY b el ec)∧BA (fun b=>b=R∨b=Bs) w w'
 |.no=>True
theorem callJ (w:World)(R el ec f Bs:Nat)(F:List Item→Option (List Item))(hF:FD F R el ec)(its:List Item)(o:Oc (Nat×List UInt8×List Ex))(value into nm:List UInt8)(k0 sz op0 l cl:Int)(cont0:List UInt8)(hr:BG w R its el ec)(hB:w.heap[Bs]?=some (.cells (stC k0 sz op0 nm value into cont0 (.slice none 0 0) l cl) TSm (0,0)))(hRB:R<Bs)(hx:callO f F value its=o)(hno:o≠.no):
  Calls Tryz.prog 122 #[rdV R,.pointer (some ⟨Bs,0,none⟩)] w fun e w'=>OutC w R el ec Bs nm value into sz l cl o e w':=by
 have HRB:=hid hRB;have HR0:=hid hr;unfold stC at hB;have HB0:=hid hB;have HN0:=hid (show Bs<w.heap.size from(AG.1 hB).1);obtain⟨T,hT⟩:∃T,headText its=T:=⟨_,rfl⟩;obtain⟨tk,htk⟩:∃n:Int,(DJ its:Int)=n:=⟨_,rfl⟩;obtain⟨tl,htl⟩:∃n:Int,(lineOf its el:Int)=n:=⟨_,rfl⟩;obtain⟨tcl,htcl⟩:∃n:Int,(colOf its ec:Int)=n:=⟨_,rfl⟩;obtain⟨op,hop⟩:∃op,ofL opL T=op:=⟨_,rfl⟩;have hop8:op<8:=by rw[←hop];exact ofL_lt _
 have HOP:=hid hop;have HFE:=hid hF;have HNO:=hid hno;have HXC:=hid hx;have HTT:=hid (And.intro hT htk);have HWD:=hid (words_any w);obtain⟨tn,hpk⟩:=peek_at hr;rw[hT,htk,htl,htcl]at hpk;have HPK:=hid hpk;clear hr hB hRB hop hT htk htl htcl hpk hF hno hx;unfold opsV at HWD;go_enter Tryz.func122,Tryz.ntmps122;go_wp2_with fail;go_at_call 128;refine HWD.out.mono ?_;rintro e w1 ⟨rfl,hk1⟩;obtain⟨W1,B4,hW1,hB4,hb4,hk4,hs4⟩:=BD w1 (.cells opsV 171);have hkw:=hk1.trans hk4;have HK1:=hid hkw;have HB4:=hid hb4;have HR1:=hid (HR0.out.keep hkw fun _ _ e=>e);have HB1:=hid (hkw.blk HB0.out);have HN4:=hid (show Bs<B4 by have:=HN0.out;have:=hk1.size;omega);unfold opsV at hW1 HB4;clear hk1 hk4 hkw hb4 hs4;go_upto_region 1 with fail;rw[←hW1,←hB4];clear hW1 hB4;have HPK1:=hid (HPK.out W1 HK1.out);go_wp2_with fail;go_at_call 79;refine HPK1.out.mono ?_;rintro e w2 ⟨rfl,hk2⟩;obtain⟨W2,B5,hW2,hB5,hb5,hk5,hs5⟩:=BD w2 (.cells #[.int .i64 tk,.string ⟨T.toArray⟩,.int .i64 tn,.int .i64 tl,.int .i64 tcl] TTk);have hkw:=hk2.trans hk5;have HK2:=hid (HK1.out.trans hkw);have HB5:=hid hb5;have HB42:=hid (hkw.blk HB4.out);have HR2:=hid (HR1.out.keep hkw fun _ _ e=>e);have HB2:=hid (hkw.blk HB1.out);have HN5:=hid (show Bs<B5 by have:=(AG.1 (hk2.blk HB1.out)).1;omega);clear hk2 hk5 hkw hb5 hs5;go_upto_region 2 with fail;rw[←hW2,←hB5];clear hW2 hB5;obtain⟨y1,y2,y3,y4,y5,-⟩:=blk5 HB5.out;have cc:=fun w' (h:BA (fun b=>b=Bs) W2.drew w')=>((BA.drew _ W2).trans h).cell y2 (by have:=HN5.out;show ¬B5=Bs;omega)
 have HOF:=hid (fun w' (h:BA (fun b=>b=Bs) W2.drew w')=>of_any opL (by decide) B4 0 8 w' (fun j hj=>by
  have hb:=((BA.drew (fun b=>b=Bs) W2).trans h).blkE HB42.out (by have:=HN4.out;show ¬B4=Bs;omega);rw[Nat.zero_add];refine BH hb ?_;have hj8:j<8:=hj;have key:j=0∨j=1∨j=2∨j=3∨j=4∨j=5∨j=6∨j=7:=by omega
  rcases key with rfl|rfl|rfl|rfl|rfl|rfl|rfl|rfl<;>rfl) T)
 rw[HOP.out]at HOF
 refine wp_own1 (by kernel_rfl) Bs _ HB2.out (fun i=>[[],[],[],[],[3],[2,3,4],[0,2,3,4,5],[0,2,3,4,5,6],[0,2,3,4,5,6,7],[0,1,2,3,4,5,6,7,8],[0,1,2,3,4,5,6,7,8,9],[0,1,2,3,4,5,6,7,8,9,10]].getD i []) (fun i=>if i=8 then [12] else if i=11 then [8] else []) (fun i=>if i=8 then [12] else if i=11 then [8] else []) [11] (by kernel_rfl)
  (fun i=>if i=5 then some (BN (.int .i64 op)) else if i=8 then some (sCell Bs 0 TSm (stC k0 sz op0 nm value into cont0 (.slice none 0 0) l cl) (.int .i64 9)) else if i=11 then some (sCell Bs 3 TSm (stC 9 sz op0 nm value into cont0 (.slice none 0 0) l cl) (.int .i64 op)) else none) ?_
 apply BC rfl rfl
 ·intro w' hk;go_simp;with_reducible rfl
 simp only[Act.put,LS];apply BC rfl rfl
 ·intro w' hk;go_simp;with_reducible rfl
 simp only[Act.put,LS];apply BC rfl rfl
 ·intro w' hk;go_simp;with_reducible rfl
 simp only[Act.put,LS];apply BC rfl rfl
 ·intro w' hk;go_simp;with_reducible rfl
 simp only[Act.put,LS];apply BC rfl rfl
 ·intro w' hk;have e2:=cc w' hk;go_simp;with_reducible rfl
 simp only[Act.put,LS];refine BE rfl rfl (BR 80 #[.slice (some ⟨B4,0,none⟩) 8 8,.string ⟨T.toArray⟩] (fun w=>by kernel_rfl) ⟨default,trivial⟩ (fun g _=>BX _) fun w' hk _ _=>(HOF.out w' hk).mono ?_) fun gs _=>?_
 ·rintro e w'' ⟨rfl,rfl⟩;exact⟨default,trivial,rfl,BA.refl _ _,fun b h=>h.elim,trivial⟩
 simp only[BN,Act.put,LS]
 repeat refine BC rfl rfl (fun w' hk=>by go_simp;with_reducible rfl) ?_;simp only[Act.put,LS]
 refine BE rfl rfl (DW Bs 0 TSm _ _ (fun w u hc hf=>by go_simp<;>rfl) 12 (by decide) (by decide) (fun w h=>h) ⟨rfl,rfl⟩ (by show 0<12;decide)) fun g8 _=>?_;simp only[Act.put]
 repeat refine BC rfl rfl (fun w' hk=>by go_simp;with_reducible rfl) ?_;simp only[Act.put,LS]
 refine BE rfl rfl (DW Bs 3 TSm _ _ (fun w u hc hf=>by go_simp<;>rfl) 8 (by decide) (by decide) (fun w h=>h) rfl (by show 3<12;decide)) fun g11 _=>?_;simp only[Act.put];refine BP ?_;intro W3 hk9 hF _;have hb3:W3.heap[Bs]?=some (.cells (stC 9 sz op nm value into cont0 (.slice none 0 0) l cl) TSm (0,0)):=(hF 11 (by decide)).1;unfold stC at hb3;have hk:=(BA.drew (fun b=>b=Bs) W2).trans hk9;have HB3:=hid hb3;have HR3:=hid (HR2.out.keep hk fun b hb e=>by have e:b=Bs:=e;have:=HRB.out;omega);have HK3:=hid (show BA (fun b=>b=R∨b=Bs) w W3 from(HK2.out.mono fun _ e=>e.elim).trans (hk.mono fun _ e=>.inr e));have HB53:=hid (hk.blkE HB5.out (by have:=HN5.out;show ¬B5=Bs;omega));clear hF hk hk9 cc hb3 y1 y2 y3 y4 y5;go_upto_region 3 with fail;obtain⟨n0,n1,n2,n3,n4,n5,n6,n7,n8,n9,n10,n11⟩:=BK HB3.out;obtain⟨y1,-⟩:=blk5 HB53.out;have d3:=fun w' (h:BA (fun _=>False) W3.drew w')=>((BA.drew _ W3).trans h).stay n3;have d4:=fun w' (h:BA (fun _=>False) W3.drew w')=>((BA.drew _ W3).trans h).stay n4;have dk:=fun w' (h:BA (fun _=>False) W3.drew w')=>((BA.drew _ W3).trans h).stay y1;clear n0 n1 n2 n3 n4 n5 n6 n7 n8 n9 n10 n11 y1
 cases ho:opO value its with
 |no=>exact absurd ho (opO_no _ _)
 | bad b'=>
  obtain⟨rfl,hbad⟩:=opO_bad ho;have HXB:=hid (show Oc.bad b'=o by have h:=HXC.out;unfold callO at h;rw[ho]at h;exact h)
  have HBAD:=hid (show op=0∨tk≠1∨¬((op=2∨op=4)↔value≠[]) by
   have h1:=HTT.out.1;have h2:=HTT.out.2;have h3:=HOP.out;rw[h1,h3]at hbad;exact hbad.imp id fun h=>h.imp (fun h=>by omega) id)
  clear ho hbad;by_cases h0:op=0
  ·have hop0b:((op:Int)==0)=true:=by rw[beq_iff_eq];omega
   refine CN (by kernel_rfl) DL1 (fun _=>[]) (fun _=>[]) [] (by kernel_rfl) (fun i=>if i=15 then some (BN (.bool false)) else none) ?_;apply BC rfl rfl
   ·intro w' hk;go_simp;with_reducible rfl
   simp only[Act.put,LS];apply BC rfl rfl
   ·intro w' hk;go_simp;with_reducible rfl
   simp only[Act.put,LS];apply BC rfl rfl
   ·intro w' hk;go_simp;with_reducible rfl
   simp only[Act.put,LS];apply BC rfl rfl
   ·intro w' hk;have e3:=d3 w' hk;go_simp;with_reducible rfl
   simp only[Act.put,LS]
   repeat first|apply BZ rfl;simp only[Act.put,LS]|refine BC rfl rfl (fun w' hk=>by go_simp;with_reducible rfl) ?_;simp only[Act.put,LS]
   refine BP ?_;intro W4 hk9 _ _;have hk:=(BA.drew (fun _=>False) W3).trans hk9;have HB4:=hid (hk.blk HB3.out);have HR4:=hid (HR3.out.keep hk fun _ _ e=>e);have HK4:=hid (HK3.out.trans (hk.mono fun _ e=>e.elim));clear hk hk9 d3 d4 dk;obtain rfl:Oc.bad b'=o:=HXB.out;obtain⟨FL,HFL,HQ⟩:=hidF (bad_at HR4.out);go_wp2_with fail;go_at_call 96;refine HQ.out.mono ?_;rintro e We ⟨rfl,hk⟩;have HKE:=hid (HK4.out.trans (hk.mono (E':=fun b=>b=R∨b=Bs) fun _ e=>.inl e));clear hk;go_wp2_with fail;exact⟨rfl,congrArg Ending.panicked HFL.out,HKE.out⟩
  have hop0b:((op:Int)==0)=false:=by rw[BF];omega
  by_cases hk1:tk=1
  ·subst hk1;have hne:¬((op=2∨op=4)↔value≠[]):=(HBAD.out.resolve_left h0).resolve_left fun e=>e rfl;by_cases htake:op=2∨op=4
   ·have hval:value=[]:=Classical.byContradiction fun e=>hne ⟨fun _=>e,fun _=>htake⟩;subst hval;have htb:(((op:Int)==2) || ((op:Int)==4))=true:=by rcases htake with rfl|rfl<;>rfl
    have HTB:=hid (fun w'=>DV (op:Int) w');rw[htb]at HTB;clear hne;refine CN (by kernel_rfl) DL1 (fun _=>[]) (fun _=>[]) [] (by kernel_rfl) (fun i=>if i=15 then some (BN (.bool true)) else none) ?_;apply BC rfl rfl
    ·intro w' hk;go_simp;with_reducible rfl
    simp only[Act.put,LS];apply BC rfl rfl
    ·intro w' hk;go_simp;with_reducible rfl
    simp only[Act.put,LS];apply BC rfl rfl
    ·intro w' hk;go_simp;with_reducible rfl
    simp only[Act.put,LS];apply BC rfl rfl
    ·intro w' hk;have e3:=d3 w' hk;go_simp;with_reducible rfl
    simp only[Act.put,LS];apply BC rfl rfl
    ·intro w' hk;go_simp;with_reducible rfl
    simp only[Act.put,LS];apply BC rfl rfl
    ·intro w' hk;go_simp;with_reducible rfl
    simp only[Act.put,LS];apply BC rfl rfl
    ·intro w' hk;go_simp;with_reducible rfl
    simp only[Act.put,LS];apply BC rfl rfl
    ·intro w' hk;have e5:=dk w' hk;go_simp;with_reducible rfl
    simp only[Act.put,LS];apply BC rfl rfl
    ·intro w' hk;go_simp;with_reducible rfl
    simp only[Act.put,LS];apply BC rfl rfl
    ·intro w' hk;go_simp;with_reducible rfl
    simp only[Act.put,LS];apply BC rfl rfl
    ·intro w' hk;go_simp;with_reducible rfl
    simp only[Act.put,LS];apply BC rfl rfl
    ·intro w' hk;go_simp;with_reducible rfl
    simp only[Act.put,LS];apply BC rfl rfl
    ·intro w' hk;go_simp;with_reducible rfl
    simp only[Act.put,LS];apply BC rfl rfl
    ·intro w' hk;go_simp;with_reducible rfl
    simp only[Act.put,LS];apply BC rfl rfl
    ·intro w' hk;have e3:=d3 w' hk;go_simp;with_reducible rfl
    simp only[Act.put,LS];refine BE rfl rfl (BR 90 #[.int .i64 op] (fun w=>by kernel_rfl) ⟨default,trivial⟩ (fun g _=>BX _) fun w' hk _ _=>(HTB.out w').mono ?_) fun gs _=>?_
    ·rintro e w'' ⟨rfl,rfl⟩;exact⟨default,trivial,rfl,BA.refl _ _,fun b h=>h.elim,trivial⟩
    simp only[BN,Act.put,LS];apply BC rfl rfl
    ·intro w' hk;go_simp;with_reducible rfl
    simp only[Act.put,LS];apply BC rfl rfl
    ·intro w' hk;go_simp;with_reducible rfl
    simp only[Act.put,LS];apply BC rfl rfl
    ·intro w' hk;go_simp;with_reducible rfl
    simp only[Act.put,LS];apply BC rfl rfl
    ·intro w' hk;have e4:=d4 w' hk;go_simp;with_reducible rfl
    simp only[Act.put,LS]
    repeat refine BC rfl rfl (fun w' hk=>by go_simp;with_reducible rfl) ?_;simp only[Act.put,LS]
    refine BP ?_;intro W4 hk9 _ _;have hk:=(BA.drew (fun _=>False) W3).trans hk9;have HB4:=hid (hk.blk HB3.out);have HR4:=hid (HR3.out.keep hk fun _ _ e=>e);have HK4:=hid (HK3.out.trans (hk.mono fun _ e=>e.elim));clear hk hk9 d3 d4 dk;obtain rfl:Oc.bad b'=o:=HXB.out;obtain⟨FL,HFL,HQ⟩:=hidF (bad_at HR4.out);go_wp2_with fail;go_at_call 96;refine HQ.out.mono ?_;rintro e We ⟨rfl,hk⟩;have HKE:=hid (HK4.out.trans (hk.mono (E':=fun b=>b=R∨b=Bs) fun _ e=>.inl e));clear hk;go_wp2_with fail;exact⟨rfl,congrArg Ending.panicked HFL.out,HKE.out⟩
   ·have hval:value≠[]:=fun e=>hne ⟨fun h=>absurd h htake,fun h=>absurd e h⟩;have hvb:(value==[])=false:=BF.2 hval;have hvn:(value != [])=true:=by rw[bne_iff_ne];exact hval
    have hve:value.isEmpty=false:=by simpa using hval
    have htb:(((op:Int)==2) || ((op:Int)==4))=false:=by
     rw[Bool.or_eq_false_iff,BF,BF];omega
    have HTB:=hid (fun w'=>DV (op:Int) w');rw[htb]at HTB;clear hne hval;refine CN (by kernel_rfl) DL1 (fun _=>[]) (fun _=>[]) [] (by kernel_rfl) (fun i=>if i=15 then some (BN (.bool false)) else none) ?_;apply BC rfl rfl
    ·intro w' hk;go_simp;with_reducible rfl
    simp only[Act.put,LS];apply BC rfl rfl
    ·intro w' hk;go_simp;with_reducible rfl
    simp only[Act.put,LS];apply BC rfl rfl
    ·intro w' hk;go_simp;with_reducible rfl
    simp only[Act.put,LS];apply BC rfl rfl
    ·intro w' hk;have e3:=d3 w' hk;go_simp;with_reducible rfl
    simp only[Act.put,LS];apply BC rfl rfl
    ·intro w' hk;go_simp;with_reducible rfl
    simp only[Act.put,LS];apply BC rfl rfl
    ·intro w' hk;go_simp;with_reducible rfl
    simp only[Act.put,LS];apply BC rfl rfl
    ·intro w' hk;go_simp;with_reducible rfl
    simp only[Act.put,LS];apply BC rfl rfl
    ·intro w' hk;have e5:=dk w' hk;go_simp;with_reducible rfl
    simp only[Act.put,LS];apply BC rfl rfl
    ·intro w' hk;go_simp;with_reducible rfl
    simp only[Act.put,LS];apply BC rfl rfl
    ·intro w' hk;go_simp;with_reducible rfl
    simp only[Act.put,LS];apply BC rfl rfl
    ·intro w' hk;go_simp;with_reducible rfl
    simp only[Act.put,LS];apply BC rfl rfl
    ·intro w' hk;go_simp;with_reducible rfl
    simp only[Act.put,LS];apply BC rfl rfl
    ·intro w' hk;go_simp;with_reducible rfl
    simp only[Act.put,LS];apply BC rfl rfl
    ·intro w' hk;go_simp;with_reducible rfl
    simp only[Act.put,LS];apply BC rfl rfl
    ·intro w' hk;have e3:=d3 w' hk;go_simp;with_reducible rfl
    simp only[Act.put,LS];refine BE rfl rfl (BR 90 #[.int .i64 op] (fun w=>by kernel_rfl) ⟨default,trivial⟩ (fun g _=>BX _) fun w' hk _ _=>(HTB.out w').mono ?_) fun gs _=>?_
    ·rintro e w'' ⟨rfl,rfl⟩;exact⟨default,trivial,rfl,BA.refl _ _,fun b h=>h.elim,trivial⟩
    simp only[BN,Act.put,LS];apply BC rfl rfl
    ·intro w' hk;go_simp;with_reducible rfl
    simp only[Act.put,LS];apply BC rfl rfl
    ·intro w' hk;go_simp;with_reducible rfl
    simp only[Act.put,LS];apply BC rfl rfl
    ·intro w' hk;go_simp;with_reducible rfl
    simp only[Act.put,LS];apply BC rfl rfl
    ·intro w' hk;have e4:=d4 w' hk;go_simp;with_reducible rfl
    simp only[Act.put,LS]
    repeat refine BC rfl rfl (fun w' hk=>by go_simp;with_reducible rfl) ?_;simp only[Act.put,LS]
    refine BP ?_;intro W4 hk9 _ _;have hk:=(BA.drew (fun _=>False) W3).trans hk9;have HB4:=hid (hk.blk HB3.out);have HR4:=hid (HR3.out.keep hk fun _ _ e=>e);have HK4:=hid (HK3.out.trans (hk.mono fun _ e=>e.elim));clear hk hk9 d3 d4 dk;obtain rfl:Oc.bad b'=o:=HXB.out;obtain⟨FL,HFL,HQ⟩:=hidF (bad_at HR4.out);go_wp2_with fail;go_at_call 96;refine HQ.out.mono ?_;rintro e We ⟨rfl,hk⟩;have HKE:=hid (HK4.out.trans (hk.mono (E':=fun b=>b=R∨b=Bs) fun _ e=>.inl e));clear hk;go_wp2_with fail;exact⟨rfl,congrArg Ending.panicked HFL.out,HKE.out⟩
  ·have hkk:(tk==1)=false:=by rw[BF];exact hk1
   refine CN (by kernel_rfl) DL1 (fun _=>[]) (fun _=>[]) [] (by kernel_rfl) (fun i=>if i=15 then some (BN (.bool false)) else none) ?_;apply BC rfl rfl
   ·intro w' hk;go_simp;with_reducible rfl
   simp only[Act.put,LS];apply BC rfl rfl
   ·intro w' hk;go_simp;with_reducible rfl
   simp only[Act.put,LS];apply BC rfl rfl
   ·intro w' hk;go_simp;with_reducible rfl
   simp only[Act.put,LS];apply BC rfl rfl
   ·intro w' hk;have e3:=d3 w' hk;go_simp;with_reducible rfl
   simp only[Act.put,LS];apply BC rfl rfl
   ·intro w' hk;go_simp;with_reducible rfl
   simp only[Act.put,LS];apply BC rfl rfl
   ·intro w' hk;go_simp;with_reducible rfl
   simp only[Act.put,LS];apply BC rfl rfl
   ·intro w' hk;go_simp;with_reducible rfl
   simp only[Act.put,LS];apply BC rfl rfl
   ·intro w' hk;have e5:=dk w' hk;go_simp;with_reducible rfl
   simp only[Act.put,LS];apply BC rfl rfl
   ·intro w' hk;go_simp;with_reducible rfl
   simp only[hkk,bne,Bool.not_false,Act.put,LS]
   repeat first|apply BZ rfl;simp only[Act.put,LS]|refine BC rfl rfl (fun w' hk=>by go_simp;with_reducible rfl) ?_;simp only[Act.put,LS]
   refine BP ?_;intro W4 hk9 _ _;have hk:=(BA.drew (fun _=>False) W3).trans hk9;have HB4:=hid (hk.blk HB3.out);have HR4:=hid (HR3.out.keep hk fun _ _ e=>e);have HK4:=hid (HK3.out.trans (hk.mono fun _ e=>e.elim));clear hk hk9 d3 d4 dk;obtain rfl:Oc.bad b'=o:=HXB.out;obtain⟨FL,HFL,HQ⟩:=hidF (bad_at HR4.out);go_wp2_with fail;go_at_call 96;refine HQ.out.mono ?_;rintro e We ⟨rfl,hk⟩;have HKE:=hid (HK4.out.trans (hk.mono (E':=fun b=>b=R∨b=Bs) fun _ e=>.inl e));clear hk;go_wp2_with fail;exact⟨rfl,congrArg Ending.panicked HFL.out,HKE.out⟩
 |ok op' r0=>
 obtain⟨t,rfl,e1,hop0,e3,htk⟩:=opO_ok ho;have HXX:=hid (by have h:=HXC.out;unfold callO at h;rw[ho,CH]at h;exact h);obtain rfl:op'=op:=by have h1:=HTT.out.1;have h3:=HOP.out;rw[←h3,←h1];exact e1.symm
 obtain rfl:tk=1:=by have h2:=HTT.out.2;rw[←h2];show ((t.tok.kind:Nat):Int)=1;omega
 clear ho e1 e3 HXC;have hop0b:((op':Int)==0)=false:=by rw[BF];omega
 by_cases htake:op'=2∨op'=4
 ·have hval:=htk.1 htake;have hvb:(value==[])=false:=BF.2 hval;have hvn:(value != [])=true:=by rw[bne_iff_ne];exact hval
  have hve:value.isEmpty=false:=by simpa using hval
  have htb:(((op':Int)==2) || ((op':Int)==4))=true:=by rcases htake with rfl|rfl<;>rfl
  have HTB:=hid (fun w'=>DV (op':Int) w');rw[htb]at HTB;clear hval;refine CN (by kernel_rfl) DL1 (fun _=>[]) (fun _=>[]) [] (by kernel_rfl) (fun i=>if i=15 then some (BN (.bool true)) else none) ?_;apply BC rfl rfl
  ·intro w' hk;go_simp;with_reducible rfl
  simp only[Act.put,LS];apply BC rfl rfl
  ·intro w' hk;go_simp;with_reducible rfl
  simp only[Act.put,LS];apply BC rfl rfl
  ·intro w' hk;go_simp;with_reducible rfl
  simp only[Act.put,LS];apply BC rfl rfl
  ·intro w' hk;have e3:=d3 w' hk;go_simp;with_reducible rfl
  simp only[Act.put,LS];apply BC rfl rfl
  ·intro w' hk;go_simp;with_reducible rfl
  simp only[Act.put,LS];apply BC rfl rfl
  ·intro w' hk;go_simp;with_reducible rfl
  simp only[Act.put,LS];apply BC rfl rfl
  ·intro w' hk;go_simp;with_reducible rfl
  simp only[Act.put,LS];apply BC rfl rfl
  ·intro w' hk;have e5:=dk w' hk;go_simp;with_reducible rfl
  simp only[Act.put,LS];apply BC rfl rfl
  ·intro w' hk;go_simp;with_reducible rfl
  simp only[Act.put,LS];apply BC rfl rfl
  ·intro w' hk;go_simp;with_reducible rfl
  simp only[Act.put,LS];apply BC rfl rfl
  ·intro w' hk;go_simp;with_reducible rfl
  simp only[Act.put,LS];apply BC rfl rfl
  ·intro w' hk;go_simp;with_reducible rfl
  simp only[Act.put,LS];apply BC rfl rfl
  ·intro w' hk;go_simp;with_reducible rfl
  simp only[Act.put,LS];apply BC rfl rfl
  ·intro w' hk;go_simp;with_reducible rfl
  simp only[Act.put,LS];apply BC rfl rfl
  ·intro w' hk;have e3:=d3 w' hk;go_simp;with_reducible rfl
  simp only[Act.put,LS];refine BE rfl rfl (BR 90 #[.int .i64 op'] (fun w=>by kernel_rfl) ⟨default,trivial⟩ (fun g _=>BX _) fun w' hk _ _=>(HTB.out w').mono ?_) fun gs _=>?_
  ·rintro e w'' ⟨rfl,rfl⟩;exact⟨default,trivial,rfl,BA.refl _ _,fun b h=>h.elim,trivial⟩
  simp only[BN,Act.put,LS];apply BC rfl rfl
  ·intro w' hk;go_simp;with_reducible rfl
  simp only[Act.put,LS];apply BC rfl rfl
  ·intro w' hk;go_simp;with_reducible rfl
  simp only[Act.put,LS];apply BC rfl rfl
  ·intro w' hk;go_simp;with_reducible rfl
  simp only[Act.put,LS];apply BC rfl rfl
  ·intro w' hk;have e4:=d4 w' hk;go_simp;with_reducible rfl
  simp only[Act.put,LS]
  repeat refine BC rfl rfl (fun w' hk=>by go_simp;with_reducible rfl) ?_;simp only[Act.put,LS]
  refine BP ?_;intro W4 hk9 _ _;have hk:=(BA.drew (fun _=>False) W3).trans hk9;have HB4:=hid (hk.blk HB3.out);have HR4:=hid (HR3.out.keep hk fun _ _ e=>e);have HK4:=hid (HK3.out.trans (hk.mono fun _ e=>e.elim));clear hk hk9 d3 d4 dk;clear htk;go_upto_region 5 with fail;obtain⟨g,og,cR,h1,h2,⟨h3,hg⟩,-,htk⟩:=HR4.out.took;have HTK2:=hid htk;have HG:=hid hg;have H23:=hid (And.intro h2 h3);obtain⟨b0,-,-,-,-,-,f0⟩:=blk6 h1;clear h1 htk hg h3;by_cases hc:cR=1
  ·have hr0:r0=[]:=List.eq_nil_of_length_eq_zero (by omega);subst hr0;subst hc;obtain rfl:Oc.bad []=o:=HXX.out;have b0:W4.cell? ⟨R,0,none⟩=some (.slice (some ⟨g,og,none⟩) 1 1):=b0;clear h2;go_upto_region 6 with fail;obtain⟨W5,hW,hr,hk⟩:∃W5,W5=W4.setCell ⟨R,0,none⟩ (.slice (some ⟨g,og,none⟩) 0 0)∧BG W5 R [] el ec∧BA (fun b=>b=R∨b=Bs) W4 W5:=⟨_,rfl,HTK2.out (some ⟨g,og,none⟩) 0 (.inl rfl) (fun a ha=>by cases ha;exact HG.out) (Nat.le_refl _) (by omega),BA.setCell _ _ _ (.inl rfl)⟩;rw[←hW];have HR5:=hid hr;have HK5:=hid (HK4.out.trans hk);clear hr hk hW;clear b0 f0;obtain⟨FL,HFL,HQ⟩:=hidF (must1b HR5.out [40] [] rfl);go_wp2_with fail;go_at_call 77;refine HQ.out.mono ?_;rintro e We ⟨rfl,hk⟩;have HKE:=hid (HK5.out.trans (hk.mono (E':=fun b=>b=R∨b=Bs) fun _ e=>.inl e));clear hk;go_wp2_with fail;exact⟨rfl,congrArg Ending.panicked HFL.out,HKE.out⟩
  go_upto_region 6 with fail;obtain⟨W5,hW,hk⟩:∃W5,W5=W4.setCell ⟨R,0,none⟩ (.slice (some ⟨g,og+5,none⟩) r0.length (cR - 1))∧BA (fun b=>b=R) W4 W5:=⟨_,rfl,BA.setCell _ _ _ rfl⟩;rw[←hW];have hr:BG W5 R r0 el ec:=by rw[hW];exact HTK2.out (some ⟨g,og+5,none⟩) (cR - 1) (.inr rfl) (fun a ha=>by cases ha;exact HG.out) (by have:=H23.out;omega) (by have:=H23.out;omega)
  have HB5:=hid (hk.blkE HB4.out fun e=>by have e:Bs=R:=e;have:=HRB.out;omega);have HR5:=hid hr;have HK5:=hid (HK4.out.trans (hk.mono fun _ e=>.inl e));clear hr hk;clear hW b0 f0 hc h2;have hx:=DN HXX.out HNO.out;clear HXX;rcases hx with⟨b',HB9,rfl⟩|⟨u,r1,hq1,HXX⟩
  ·obtain⟨FL,HFL,HQ⟩:=hidF (must1b HR5.out [40] _ HB9.out);go_wp2_with fail;go_at_call 77;refine HQ.out.mono ?_;rintro e We ⟨rfl,hk⟩;have HKE:=hid (HK5.out.trans (hk.mono (E':=fun b=>b=R∨b=Bs) fun _ e=>.inl e));clear hk;go_wp2_with fail;exact⟨rfl,congrArg Ending.panicked HFL.out,HKE.out⟩
  have HM1:=hid hq1;clear hq1;have HQ:=hid (must1o HR5.out [40] _ HM1.out);go_wp2_with fail;go_at_call 77;refine HQ.out.mono ?_;rintro e W6 ⟨rfl,hr,hk⟩;have HB6:=hid (hk.blkE HB5.out fun e=>by have e:Bs=R:=e;have:=HRB.out;omega);have HR6:=hid hr;have HK6:=hid (HK5.out.trans (hk.mono fun _ e=>.inl e));clear hr hk;obtain⟨n0,n1,n2,n3,n4,n5,n6,n7,n8,n9,n10,n11⟩:=BK HB6.out;have f6:=DE HB6.out 6;clear n0 n1 n2 n3 n4 n5 n6 n7 n8 n9 n10 n11 f6;have hx:=DN HXX.out HNO.out;clear HXX;rcases hx with⟨b',HB9,rfl⟩|⟨tc,r2,hq2,HXX⟩
  ·obtain⟨FL,HFL,HQ⟩:=hidF (name_at HR6.out HB9.out);go_wp2_with fail;go_at_call 81;refine HQ.out.mono ?_;rintro e We ⟨rfl,hk⟩;have HKE:=hid (HK6.out.trans (hk.mono (E':=fun b=>b=R∨b=Bs) fun _ e=>.inl e));clear hk;go_wp2_with fail;exact⟨rfl,congrArg Ending.panicked HFL.out,HKE.out⟩
  obtain⟨rfl,hkc⟩:=FB hq2;obtain⟨C,hC⟩:∃C,tc.tok.text=C:=⟨_,rfl⟩;have HKC:=hid hkc;have HCC:=hid hC;clear hq2 hkc hC;have HNM:=hid (by have h:=name_str HR6.out HKC.out;rw[HCC.out]at h;exact h);go_wp2_with fail;go_at_call 81;refine HNM.out.mono ?_;rintro e W7 ⟨rfl,hr,hk⟩;have HB7:=hid (hk.blkE HB6.out fun e=>by have e:Bs=R:=e;have:=HRB.out;omega);have HR7:=hid hr;have HK7:=hid (HK6.out.trans (hk.mono fun _ e=>.inl e));clear hr hk;obtain⟨n0,n1,n2,n3,n4,n5,n6,n7,n8,n9,n10,n11⟩:=BK HB7.out;have f6:=DE HB7.out 6;go_upto_region 8 with fail;clear n0 n1 n2 n3 n4 n5 n6 n7 n8 n9 n10 n11 f6;obtain⟨W8,hW,hb,hk⟩:=s_put6 HB7.out (.string ⟨C.toArray⟩);rw[←hW];have HB8:=hid hb;have HR8:=hid (HR7.out.keep hk fun b hb e=>by have e:b=Bs:=e;have:=HRB.out;omega);have HK8:=hid (HK7.out.trans (hk.mono fun _ e=>.inr e));clear hW hb hk;obtain⟨n0,n1,n2,n3,n4,n5,n6,n7,n8,n9,n10,n11⟩:=BK HB8.out;go_wp2_with fail;go_at_call 90;refine(HTB.out W8).mono ?_;rintro e W9 ⟨rfl,rfl⟩;clear n0 n1 n2 n3 n4 n5 n6 n7 n8 n9 n10 n11;have HXY:=hid (by have h:=HXX.out;unfold argO at h;rw[if_pos htake,CH]at h;exact h);clear HXX;have HXX:=HXY;clear HXY;have hx:=DN HXX.out HNO.out;clear HXX;rcases hx with⟨b',HB9,rfl⟩|⟨u,r3,hq3,HXX⟩
  ·obtain⟨FL,HFL,HQ⟩:=hidF (must2b HR8.out [41] [59] _ HB9.out);go_wp2_with fail;go_at_call 77;refine HQ.out.mono ?_;rintro e We ⟨rfl,hk⟩;have HKE:=hid (HK8.out.trans (hk.mono (E':=fun b=>b=R∨b=Bs) fun _ e=>.inl e));clear hk;go_wp2_with fail;exact⟨rfl,congrArg Ending.panicked HFL.out,HKE.out⟩
  have HM2:=hid (CW hq3);clear hq3;have HQ:=hid (must2 HR8.out [41] [59] _ HM2.out);go_wp2_with fail;go_at_call 77;refine HQ.out.mono ?_;rintro e W10 ⟨rfl,hr,hk⟩;have HB10:=hid (hk.blkE HB8.out fun e=>by have e:Bs=R:=e;have:=HRB.out;omega);have HR10:=hid hr;have HK10:=hid (HK8.out.trans (hk.mono fun _ e=>.inl e));clear hr hk;go_wp2_with fail;have hx:=HXX.out;subst hx;clear HXX HNO
  go_end0
  exact⟨rfl,HR10.out,HK10.out,none,0,by rw[HCC.out];exact HB10.out,by unfold CB;trivial⟩
 ·have hval:value=[]:=Classical.byContradiction fun e=>htake (htk.2 e);subst hval
  have htb:(((op':Int)==2) || ((op':Int)==4))=false:=by
   rw[Bool.or_eq_false_iff,BF,BF];omega
  have HTB:=hid (fun w'=>DV (op':Int) w');rw[htb]at HTB;refine CN (by kernel_rfl) DL1 (fun _=>[]) (fun _=>[]) [] (by kernel_rfl) (fun i=>if i=15 then some (BN (.bool false)) else none) ?_;apply BC rfl rfl
  ·intro w' hk;go_simp;with_reducible rfl
  simp only[Act.put,LS];apply BC rfl rfl
  ·intro w' hk;go_simp;with_reducible rfl
  simp only[Act.put,LS];apply BC rfl rfl
  ·intro w' hk;go_simp;with_reducible rfl
  simp only[Act.put,LS];apply BC rfl rfl
  ·intro w' hk;have e3:=d3 w' hk;go_simp;with_reducible rfl
  simp only[Act.put,LS];apply BC rfl rfl
  ·intro w' hk;go_simp;with_reducible rfl
  simp only[Act.put,LS];apply BC rfl rfl
  ·intro w' hk;go_simp;with_reducible rfl
  simp only[Act.put,LS];apply BC rfl rfl
  ·intro w' hk;go_simp;with_reducible rfl
  simp only[Act.put,LS];apply BC rfl rfl
  ·intro w' hk;have e5:=dk w' hk;go_simp;with_reducible rfl
  simp only[Act.put,LS];apply BC rfl rfl
  ·intro w' hk;go_simp;with_reducible rfl
  simp only[Act.put,LS];apply BC rfl rfl
  ·intro w' hk;go_simp;with_reducible rfl
  simp only[Act.put,LS];apply BC rfl rfl
  ·intro w' hk;go_simp;with_reducible rfl
  simp only[Act.put,LS];apply BC rfl rfl
  ·intro w' hk;go_simp;with_reducible rfl
  simp only[Act.put,LS];apply BC rfl rfl
  ·intro w' hk;go_simp;with_reducible rfl
  simp only[Act.put,LS];apply BC rfl rfl
  ·intro w' hk;go_simp;with_reducible rfl
  simp only[Act.put,LS];apply BC rfl rfl
  ·intro w' hk;have e3:=d3 w' hk;go_simp;with_reducible rfl
  simp only[Act.put,LS];refine BE rfl rfl (BR 90 #[.int .i64 op'] (fun w=>by kernel_rfl) ⟨default,trivial⟩ (fun g _=>BX _) fun w' hk _ _=>(HTB.out w').mono ?_) fun gs _=>?_
  ·rintro e w'' ⟨rfl,rfl⟩;exact⟨default,trivial,rfl,BA.refl _ _,fun b h=>h.elim,trivial⟩
  simp only[BN,Act.put,LS];apply BC rfl rfl
  ·intro w' hk;go_simp;with_reducible rfl
  simp only[Act.put,LS];apply BC rfl rfl
  ·intro w' hk;go_simp;with_reducible rfl
  simp only[Act.put,LS];apply BC rfl rfl
  ·intro w' hk;go_simp;with_reducible rfl
  simp only[Act.put,LS];apply BC rfl rfl
  ·intro w' hk;have e4:=d4 w' hk;go_simp;with_reducible rfl
  simp only[Act.put,LS]
  repeat refine BC rfl rfl (fun w' hk=>by go_simp;with_reducible rfl) ?_;simp only[Act.put,LS]
  refine BP ?_;intro W4 hk9 _ _;have hk:=(BA.drew (fun _=>False) W3).trans hk9;have HB4:=hid (hk.blk HB3.out);have HR4:=hid (HR3.out.keep hk fun _ _ e=>e);have HK4:=hid (HK3.out.trans (hk.mono fun _ e=>e.elim));clear hk hk9 d3 d4 dk;clear htk;go_upto_region 5 with fail;obtain⟨g,og,cR,h1,h2,⟨h3,hg⟩,-,htk⟩:=HR4.out.took;have HTK2:=hid htk;have HG:=hid hg;have H23:=hid (And.intro h2 h3);obtain⟨b0,-,-,-,-,-,f0⟩:=blk6 h1;clear h1 htk hg h3;by_cases hc:cR=1
  ·have hr0:r0=[]:=List.eq_nil_of_length_eq_zero (by omega);subst hr0;subst hc;obtain rfl:Oc.bad []=o:=HXX.out;have b0:W4.cell? ⟨R,0,none⟩=some (.slice (some ⟨g,og,none⟩) 1 1):=b0;clear h2;go_upto_region 6 with fail;obtain⟨W5,hW,hr,hk⟩:∃W5,W5=W4.setCell ⟨R,0,none⟩ (.slice (some ⟨g,og,none⟩) 0 0)∧BG W5 R [] el ec∧BA (fun b=>b=R∨b=Bs) W4 W5:=⟨_,rfl,HTK2.out (some ⟨g,og,none⟩) 0 (.inl rfl) (fun a ha=>by cases ha;exact HG.out) (Nat.le_refl _) (by omega),BA.setCell _ _ _ (.inl rfl)⟩;rw[←hW];have HR5:=hid hr;have HK5:=hid (HK4.out.trans hk);clear hr hk hW;clear b0 f0;obtain⟨FL,HFL,HQ⟩:=hidF (must1b HR5.out [40] [] rfl);go_wp2_with fail;go_at_call 77;refine HQ.out.mono ?_;rintro e We ⟨rfl,hk⟩;have HKE:=hid (HK5.out.trans (hk.mono (E':=fun b=>b=R∨b=Bs) fun _ e=>.inl e));clear hk;go_wp2_with fail;exact⟨rfl,congrArg Ending.panicked HFL.out,HKE.out⟩
  go_upto_region 6 with fail;obtain⟨W5,hW,hk⟩:∃W5,W5=W4.setCell ⟨R,0,none⟩ (.slice (some ⟨g,og+5,none⟩) r0.length (cR - 1))∧BA (fun b=>b=R) W4 W5:=⟨_,rfl,BA.setCell _ _ _ rfl⟩;rw[←hW];have hr:BG W5 R r0 el ec:=by rw[hW];exact HTK2.out (some ⟨g,og+5,none⟩) (cR - 1) (.inr rfl) (fun a ha=>by cases ha;exact HG.out) (by have:=H23.out;omega) (by have:=H23.out;omega)
  have HB5:=hid (hk.blkE HB4.out fun e=>by have e:Bs=R:=e;have:=HRB.out;omega);have HR5:=hid hr;have HK5:=hid (HK4.out.trans (hk.mono fun _ e=>.inl e));clear hr hk;clear hW b0 f0 hc h2;have hx:=DN HXX.out HNO.out;clear HXX;rcases hx with⟨b',HB9,rfl⟩|⟨u,r1,hq1,HXX⟩
  ·obtain⟨FL,HFL,HQ⟩:=hidF (must1b HR5.out [40] _ HB9.out);go_wp2_with fail;go_at_call 77;refine HQ.out.mono ?_;rintro e We ⟨rfl,hk⟩;have HKE:=hid (HK5.out.trans (hk.mono (E':=fun b=>b=R∨b=Bs) fun _ e=>.inl e));clear hk;go_wp2_with fail;exact⟨rfl,congrArg Ending.panicked HFL.out,HKE.out⟩
  have HM1:=hid hq1;clear hq1;have HQ:=hid (must1o HR5.out [40] _ HM1.out);go_wp2_with fail;go_at_call 77;refine HQ.out.mono ?_;rintro e W6 ⟨rfl,hr,hk⟩;have HB6:=hid (hk.blkE HB5.out fun e=>by have e:Bs=R:=e;have:=HRB.out;omega);have HR6:=hid hr;have HK6:=hid (HK5.out.trans (hk.mono fun _ e=>.inl e));clear hr hk;obtain⟨n0,n1,n2,n3,n4,n5,n6,n7,n8,n9,n10,n11⟩:=BK HB6.out;have f6:=DE HB6.out 6;clear n0 n1 n2 n3 n4 n5 n6 n7 n8 n9 n10 n11 f6;have hx:=DN HXX.out HNO.out;clear HXX;rcases hx with⟨b',HB9,rfl⟩|⟨tc,r2,hq2,HXX⟩
  ·obtain⟨FL,HFL,HQ⟩:=hidF (name_at HR6.out HB9.out);go_wp2_with fail;go_at_call 81;refine HQ.out.mono ?_;rintro e We ⟨rfl,hk⟩;have HKE:=hid (HK6.out.trans (hk.mono (E':=fun b=>b=R∨b=Bs) fun _ e=>.inl e));clear hk;go_wp2_with fail;exact⟨rfl,congrArg Ending.panicked HFL.out,HKE.out⟩
  obtain⟨rfl,hkc⟩:=FB hq2;obtain⟨C,hC⟩:∃C,tc.tok.text=C:=⟨_,rfl⟩;have HKC:=hid hkc;have HCC:=hid hC;clear hq2 hkc hC;have HNM:=hid (by have h:=name_str HR6.out HKC.out;rw[HCC.out]at h;exact h);go_wp2_with fail;go_at_call 81;refine HNM.out.mono ?_;rintro e W7 ⟨rfl,hr,hk⟩;have HB7:=hid (hk.blkE HB6.out fun e=>by have e:Bs=R:=e;have:=HRB.out;omega);have HR7:=hid hr;have HK7:=hid (HK6.out.trans (hk.mono fun _ e=>.inl e));clear hr hk;obtain⟨n0,n1,n2,n3,n4,n5,n6,n7,n8,n9,n10,n11⟩:=BK HB7.out;have f6:=DE HB7.out 6;go_upto_region 8 with fail;clear n0 n1 n2 n3 n4 n5 n6 n7 n8 n9 n10 n11 f6;obtain⟨W8,hW,hb,hk⟩:=s_put6 HB7.out (.string ⟨C.toArray⟩);rw[←hW];have HB8:=hid hb;have HR8:=hid (HR7.out.keep hk fun b hb e=>by have e:b=Bs:=e;have:=HRB.out;omega);have HK8:=hid (HK7.out.trans (hk.mono fun _ e=>.inr e));clear hW hb hk;obtain⟨n0,n1,n2,n3,n4,n5,n6,n7,n8,n9,n10,n11⟩:=BK HB8.out;go_wp2_with fail;go_at_call 90;refine(HTB.out W8).mono ?_;rintro e W9 ⟨rfl,rfl⟩;clear n0 n1 n2 n3 n4 n5 n6 n7 n8 n9 n10 n11;have HXY:=hid (by have h:=HXX.out;unfold argO at h;rw[if_neg htake]at h;simp only[Oc.assoc,CH]at h;exact h);clear HXX;have HXX:=HXY;clear HXY;have hx:=DN HXX.out HNO.out;clear HXX;rcases hx with⟨b',HB9,rfl⟩|⟨u,r3,hq3,HXX⟩
  ·obtain⟨FL,HFL,HQ⟩:=hidF (must1b HR8.out [44] _ HB9.out);go_wp2_with fail;go_at_call 77;refine HQ.out.mono ?_;rintro e We ⟨rfl,hk⟩;have HKE:=hid (HK8.out.trans (hk.mono (E':=fun b=>b=R∨b=Bs) fun _ e=>.inl e));clear hk;go_wp2_with fail;exact⟨rfl,congrArg Ending.panicked HFL.out,HKE.out⟩
  have HM2:=hid (CW hq3);clear hq3;have HQ:=hid (must1 HR8.out [44] _ HM2.out);go_wp2_with fail;go_at_call 77;refine HQ.out.mono ?_;rintro e W10 ⟨rfl,hr,hk⟩;have HB10:=hid (hk.blkE HB8.out fun e=>by have e:Bs=R:=e;have:=HRB.out;omega);have HR10:=hid hr;have HK10:=hid (HK8.out.trans (hk.mono fun _ e=>.inl e));clear hr hk;have hx:=DN HXX.out HNO.out;clear HXX;rcases hx with⟨b',HB9,rfl⟩|⟨x,r4,hq4,HXX⟩
  ·obtain⟨FL,HFL,HQ⟩:=hidF (expr_bad HFE.out HR10.out HB9.out);go_wp2_with fail;go_at_call 109;refine HQ.out.mono ?_;rintro e We ⟨rfl,hk⟩;have HKE:=hid (HK10.out.trans (hk.mono (E':=fun b=>b=R∨b=Bs) fun _ e=>.inl e));clear hk;go_wp2_with fail;exact⟨rfl,congrArg Ending.panicked HFL.out,HKE.out⟩
  have HXO:=hid hq4;clear hq4;have HEX:=hid (expr_ok HR10.out HXO.out);go_wp2_with fail;go_at_call 109;refine HEX.out.mono ?_;rintro e W11 ⟨vs,rfl,hex,hr,hk⟩;obtain⟨xk,xo,xn,xS,xp,xm,xc,xl,xcl,rfl⟩:=DH hex;have HX11:=hid hex;clear hex;have HB11:=hid (hk.blkE HB10.out fun e=>by have e:Bs=R:=e;have:=HRB.out;omega);have HR11:=hid hr;have HK11:=hid (HK10.out.trans (hk.mono fun _ e=>.inl e));clear hr hk;obtain⟨W12,G,hW12,hG,hbG,hkG,hsG⟩:=BD W11 (.cells #[.int .i64 xk,.int .i64 xo,.int .i64 xn,.string xS,.slice xp xm xc,.int .i64 xl,.int .i64 xcl] TEx);have HBG:=hid hbG;have HR12:=hid (HR11.out.keep hkG fun _ _ e=>e);have HK12:=hid (HK11.out.trans (hkG.mono fun _ e=>e.elim));have HB12:=hid (hkG.blk HB11.out);have HX12:=hid (HX11.out.keep hkG fun _ _ e=>e);have HNG:=hid (show Bs<G∧W11.heap.size≤G by have:=(AG.1 HB11.out).1;omega);clear hbG hkG hsG;have HBL:=(BA.alloc (fun _=>False) W11 (.cells #[.int .i64 xk,.int .i64 xo,.int .i64 xn,.string xS,.slice xp xm xc,.int .i64 xl,.int .i64 xcl] TEx)).blk HB11.out;obtain⟨n0,n1,n2,n3,n4,n5,n6,n7,n8,n9,n10,n11⟩:=BK HBL;have f7:=DE HBL 7;clear HBL;go_upto_region 11 with fail;rw[←hW12,←hG];clear hW12 hG n0 n1 n2 n3 n4 n5 n6 n7 n8 n9 n10 n11 f7;obtain⟨W13,hW,hb,hk⟩:=s_put7 HB12.out (.slice (some ⟨G,0,none⟩) 1 1);rw[←hW];have HB13:=hid hb;have HR13:=hid (HR12.out.keep hk fun b hb e=>by have e:b=Bs:=e;have:=HRB.out;omega);have HK13:=hid (HK12.out.trans (hk.mono fun _ e=>.inr e));have HSZ:=hid (show w.heap.size≤W10.heap.size from HK10.out.size);have HKD:=hid (show CB W13 (fun b=>w.heap.size≤b) (some ⟨G,0,none⟩) 0 [x]from kids_one (hk.blkE HBG.out fun e=>by have e:G=Bs:=e;have:=HNG.out;omega) (by show w.heap.size≤G;have:=HNG.out;have:=HK11.out.size;omega) ((HX12.out.keep hk fun b hb e=>by have e:b=Bs:=e;have hb:W10.heap.size≤b:=hb;have:=HN0.out;have:=HSZ.out;omega).mono fun b hb=>by have hb:W10.heap.size≤b:=hb;have:=HSZ.out;omega));clear hW hb hk;have hx:=DN HXX.out HNO.out;clear HXX;rcases hx with⟨b',HB9,rfl⟩|⟨u,r5,hq5,HXX⟩
  ·obtain⟨FL,HFL,HQ⟩:=hidF (must2b HR13.out [41] [59] _ HB9.out);go_wp2_with fail;go_at_call 77;refine HQ.out.mono ?_;rintro e We ⟨rfl,hk⟩;have HKE:=hid (HK13.out.trans (hk.mono (E':=fun b=>b=R∨b=Bs) fun _ e=>.inl e));clear hk;go_wp2_with fail;exact⟨rfl,congrArg Ending.panicked HFL.out,HKE.out⟩
  have HM3:=hid (CW hq5);clear hq5;have HQ:=hid (must2 HR13.out [41] [59] _ HM3.out);go_wp2_with fail;go_at_call 77;refine HQ.out.mono ?_;rintro e W14 ⟨rfl,hr,hk⟩;have HKE:=hid (CB.keep hk (fun b hb e=>by have e:b=R:=e;have hb:w.heap.size≤b:=hb;have:=HRB.out;have:=HN0.out;omega) HKD.out);have HB14:=hid (hk.blkE HB13.out fun e=>by have e:Bs=R:=e;have:=HRB.out;omega);have HR14:=hid hr;have HK14:=hid (HK13.out.trans (hk.mono fun _ e=>.inl e));clear hr hk;go_wp2_with fail;have hx:=HXX.out;subst hx;clear HXX HNO
  go_end0
  exact⟨rfl,HR14.out,HK14.out,_,1,by rw[HCC.out];exact HB14.out,HKE.out⟩
end Go.Proofs.YtknnmidnodeanaaGreatDoor
