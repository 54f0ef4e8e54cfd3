/- Joined texts of this work: Tx1. -/
import Derived.Test.YtomlffobbkcmdaaGreatDoorJq24
import Derived.Test.YtomlffobbkcmdaaGreatDoorJq17
/-
  A teller: call, stmt, block, over any statements that may be a text's.
-/
namespace Go.Proofs.YtomlffobbkcmdaaGreatDoor
open Go Go.RowKit Own
open Go.Lib (hid)
/-- what a teller's stmt does with a statement -/
def TellsS (w0:World) (x:Gs):Prop:=∀ (S:Nat→Prop) (vs:List Value),SAt w0 S vs x→∀ (b:Nat) (l:List UInt8) (w:World),TS w0 b l w→l.length+(putL (tokS x)).length≤100000000→
 Calls Tryz.prog 84 #[.pointer (some ⟨b,0,none⟩),.agg vs.toArray] w fun e w'=>e=.returned (.tuple #[])∧TS w0 b (l++putL (tokS x)) w'∧TelK b w w'
/-- .. block with statements -/
def TellsB (w0:World) (ss:List Gs):Prop:=∀ (S:Nat→Prop) (p:Option Addr) (c:Nat),SKids w0 S p 0 ss→∀ (b:Nat) (l:List UInt8) (w:World),TS w0 b l w→l.length+(putL (blockT ss)).length≤100000000→
 Calls Tryz.prog 42 #[.pointer (some ⟨b,0,none⟩),.slice p ss.length c] w fun e w'=>e=.returned (.tuple #[])∧TS w0 b (l++putL (blockT ss)) w'∧TelK b w w'
theorem TelK.boxedS {w0:World} {b k:Nat} {l:List UInt8} {w w':World} {cs:Array Value} (h:TelK b w w') (ht:TS w0 b l w) (hk:k≠b) (hb:w.heap[k]?=some (.cells cs TSm (0,0))):w'.heap[k]?=some (.cells cs TSm (0,0)):=h.blk ht.tel (by decide) hk hb
theorem TS.put3 {w0:World} {b:Nat} {l:List UInt8} {w:World} (h:TS w0 b l w) (s t u:List UInt8) (hlen:l.length+(putL [s,t,u]).length≤100000000):
  Calls Tryz.prog 39 #[.pointer (some ⟨b,0,none⟩),.slice (some ⟨w.heap.size,0,none⟩) 3 3] (w.alloc (.cells #[.string ⟨s.toArray⟩,.string ⟨t.toArray⟩,.string ⟨u.toArray⟩] TStr)) fun e w'=>e=.returned (.tuple #[])∧TS w0 b (l++putL [s,t,u]) w'∧TelK b w w':=h.puts [s,t,u] hlen
theorem ops_at {op:Nat} (h:op<8):opsV[op]?=some (.string ⟨(opL.getD op []).toArray⟩):=by
 match op,h with
 | 0,_ | 1,_ | 2,_ | 3,_ | 4,_ | 5,_ | 6,_ | 7,_=>rfl
theorem run_index_ops {op:Nat} (h:op<8) (w:World):(Instr.index 173 (.agg opsV) (.int .i64 op)).run Tryz.prog w=.ok (.string ⟨(opL.getD op []).toArray⟩) w:=
 run_index_arr Tryz.underlying173 Tryz.sizeOf9 Tryz.isAgg9 h (ops_at h) w
theorem run_index_kw5 (w:World):(Instr.index 149 (.agg #[.string ⟨#[]⟩,.string ⟨#[]⟩,.string ⟨#[]⟩,.string ⟨#[]⟩,.string ⟨#[]⟩,.string ⟨#[105,102]⟩,.string ⟨#[119,104,105,108,101]⟩]) (.int .i64 5)).run Tryz.prog w=.ok (.string ⟨#[105,102]⟩) w:=
 run_index_arr (i:=5) Tryz.underlying149 Tryz.sizeOf9 Tryz.isAgg9 (by decide) rfl w
theorem run_index_kw6 (w:World):(Instr.index 149 (.agg #[.string ⟨#[]⟩,.string ⟨#[]⟩,.string ⟨#[]⟩,.string ⟨#[]⟩,.string ⟨#[]⟩,.string ⟨#[105,102]⟩,.string ⟨#[119,104,105,108,101]⟩]) (.int .i64 6)).run Tryz.prog w=.ok (.string ⟨#[119,104,105,108,101]⟩) w:=
 run_index_arr (i:=6) Tryz.underlying149 Tryz.sizeOf9 Tryz.isAgg9 (by decide) rfl w
/-- a new slice of five strings -/
def sStr5 (a b c d e:List UInt8):Loud:={ val:=fun _ g=>.slice (some ⟨g.b,0,none⟩) 5 5,fp:=fun _ g k=>k=g.b,post:=fun _ g w=>w.heap[g.b]?=some (.cells #[.string ⟨a.toArray⟩,.string ⟨b.toArray⟩,.string ⟨c.toArray⟩,.string ⟨d.toArray⟩,.string ⟨e.toArray⟩] TStr (0,0)) }
theorem loud_str5 {P:Program} {w0:World} {M:Nat→Prop} {o:Oper} {a:Act} {av ea:List Nat} {F:Nat→World→Prop} {Fp:Nat→Nat→Prop} (p q r s t:List UInt8) (hrun:∀ w,(execOp a.eval o).run P w=.ok (.value (.slice (some ⟨w.heap.size,0,none⟩) 5 5)) (w.alloc (.cells #[.string ⟨p.toArray⟩,.string ⟨q.toArray⟩,.string ⟨r.toArray⟩,.string ⟨s.toArray⟩,.string ⟨t.toArray⟩] TStr))):LoudOk P w0 M o a (sStr5 p q r s t) av ea F Fp:=
 loud_new (fun b=>.slice (some ⟨b,0,none⟩) 5 5) _ rfl (fun _ _=>rfl) (fun _ _ _=>Iff.rfl) (fun _ _ _=>Iff.rfl) hrun
set_option maxRecDepth 4000 in
set_option maxHeartbeats 32000000 in
theorem tells_pop (w0:World) (op:Nat) (hop:op<8) (val into cont:List UInt8) (a d:Int) (h24:op=2∨op=4) (p1 p2 p3:Option Addr) (c1 c2 c3 b:Nat) (l:List UInt8) (w:World) (ht:TS w0 b l w) (hlen:l.length+(putL (callT op val into cont [])).length≤100000000):
  Calls Tryz.prog 106 #[.pointer (some ⟨b,0,none⟩),.agg #[.int .i64 9,.string ⟨#[]⟩,.int .i64 0,.int .i64 op,.string ⟨val.toArray⟩,.string ⟨into.toArray⟩,.string ⟨cont.toArray⟩,.slice p1 0 c1,.slice p2 0 c2,.slice p3 0 c3,.int .i64 a,.int .i64 d]] w fun e w'=>e=.returned (.tuple #[])∧TS w0 b (l++putL (callT op val into cont [])) w'∧TelK b w w':=by
 obtain ⟨LT,hLT⟩:∃ L,putL (callT op val into cont [])=L:=⟨_,rfl⟩
 rw [hLT] at hlen ⊢
 have HLT:=hid hLT;have HLEN0:=hid hlen
 clear hLT hlen
 obtain ⟨W0,B3,hW,hB,hb3,hk3,hs3⟩:=fresh_block w (.cells #[.int .i64 9,.string ⟨#[]⟩,.int .i64 0,.int .i64 op,.string ⟨val.toArray⟩,.string ⟨into.toArray⟩,.string ⟨cont.toArray⟩,.slice p1 0 c1,.slice p2 0 c2,.slice p3 0 c3,.int .i64 a,.int .i64 d] TSm)
 have HTW0:=hid (ht.on hk3);have HKW0:=hid (ht.onK hk3);have HBW0:=hid hb3
 have HNE:=hid (show B3≠b by have:=ht.tel.le;omega)
 clear ht hk3 hs3
 have HOB:=hid (show ((op:Int)==2 || (op:Int)==4)=true by rcases h24 with rfl | rfl <;> rfl)
 have h24i:(op:Int)=2∨(op:Int)=4:=by omega
 have HE:=hid (show LT=putL [val,[44]]++(putL [into,[61],opL.getD op [],[40],cont]++putL [[41]]) by rw [←HLT.out];unfold callT;rw [if_pos h24i,if_pos h24i,putL_app,putL_app];rfl)
 have HLEN:=hid (by have h:=HLEN0.out;rw [HE.out] at h;exact h)
 clear h24 h24i
 obtain ⟨c0,c1,c2,c3,c4,c5,c6,c7,c8,c9,c10,c11⟩:=blk12 hb3
 clear hb3
 go_enter Tryz.func106,Tryz.ntmps106
 go_upto_region 1 with fail
 rw [←hW,←hB]
 clear hW hB
 have HTK:=hid (fun w'=>by have h:=takes_any op w';rw [HOB.out] at h;exact h)
 go_wp2_with fail
 go_at_call 113
 refine (HTK.out _).mono ?_
 rintro e w5 ⟨rfl,hw5⟩
 obtain rfl:=hw5.symm
 clear hw5 HTK
 have HPw2:=hid (HTW0.out.put2 (val) ([44]) (by have:=HLEN.out;(try simp only [List.length_append] at this ⊢);omega))
 go_wp2_with fail
 go_at_call 39
 refine HPw2.out.mono ?_
 rintro e w2 ⟨rfl,ht,hk⟩
 have hb:=hk.boxedS HTW0.out HNE.out HBW0.out
 have HBw2:=hid hb;have HTw2:=hid ht;have HKw2:=hid (HKW0.out.trans hk)
 clear ht hk
 clear c0 c1 c2 c3 c4 c5 c6 c7 c8 c9 c10 c11
 obtain ⟨c0,c1,c2,c3,c4,c5,c6,c7,c8,c9,c10,c11⟩:=blk12 hb
 clear hb
 go_upto_region 3 with fail
 obtain ⟨s,hs⟩:∃ s,opL.getD op []=s:=⟨_,rfl⟩
 have HIX:=hid (fun W=>run_index_ops hop W)
 rw [hs] at HIX HLEN HE
 clear hs hop
 have d3:=fun W (h:KeepBut (fun k=>k=b∨bufOf w2 b=some k) w2.drew W)=>((KeepBut.drew _ w2).trans h).cell c3 (fun e=>e.elim (fun e=>HNE.out e) fun e=>by obtain ⟨-,-,cs,fz,hc⟩:=HTw2.out.tel.buf e;have h2:=HBw2.out;rw [hc] at h2;cases h2)
 have d5:=fun W (h:KeepBut (fun k=>k=b∨bufOf w2 b=some k) w2.drew W)=>((KeepBut.drew _ w2).trans h).cell c5 (fun e=>e.elim (fun e=>HNE.out e) fun e=>by obtain ⟨-,-,cs,fz,hc⟩:=HTw2.out.tel.buf e;have h2:=HBw2.out;rw [hc] at h2;cases h2)
 have d6:=fun W (h:KeepBut (fun k=>k=b∨bufOf w2 b=some k) w2.drew W)=>((KeepBut.drew _ w2).trans h).cell c6 (fun e=>e.elim (fun e=>HNE.out e) fun e=>by obtain ⟨-,-,cs,fz,hc⟩:=HTw2.out.tel.buf e;have h2:=HBw2.out;rw [hc] at h2;cases h2)
 refine wp_ownA (by kernel_rfl) (fun k=>k=b∨bufOf w2 b=some k) (fun k hk=>hk.elim (fun e=>by rw [e];exact HTw2.out.tel.le.2) fun e=>by obtain ⟨-,-,cs,fz,hc⟩:=HTw2.out.tel.buf e;exact (Array.getElem?_eq_some_iff.1 hc).1) (fun i=>[[],[],[1],[],[],[4],[3,4,5],[],[7],[1,2,3,4,5,6,7,8],[0,1,2,3,4,5,6,7,8,9]].getD i []) (fun i=>if i=10 then [9,11] else []) (fun i=>if i=10 then [11] else []) [10] (by kernel_rfl) (fun i=>if i=3 then some (sConst (.agg opsV)) else if i=9 then some (sStr5 into [61] s [40] cont) else if i=10 then some (sTel w0.heap.size b ((l++putL [val,[44]])++putL [into,[61],s,[40],cont])) else none) ?_
 apply lex_quiet rfl rfl
 ·intro w' hk;go_simp;with_reducible rfl
 simp only [Act.put,LS]
 apply lex_quiet rfl rfl
 ·intro w' hk;go_simp;with_reducible rfl
 simp only [Act.put,LS]
 apply lex_quiet rfl rfl
 ·intro w' hk;have e1:=d5 w' hk;go_simp;with_reducible rfl
 simp only [Act.put,LS]
 refine lex_loud rfl rfl (loud_call 126 #[] (fun w=>by kernel_rfl) ⟨default,trivial⟩ (fun g _=>stable_true _) fun w' hk _ _=>(words_any w').mono ?_) fun gs _=>?_
 ·rintro e w'' ⟨rfl,hq⟩
  exact ⟨default,trivial,rfl,hq.mono fun _ e=>e.elim,fun b h=>h.elim,trivial⟩
 simp only [sConst,Act.put,LS]
 apply lex_quiet rfl rfl
 ·intro w' hk;go_simp;with_reducible rfl
 simp only [Act.put,LS]
 apply lex_quiet rfl rfl
 ·intro w' hk;have e1:=d3 w' hk;go_simp;with_reducible rfl
 simp only [Act.put,LS]
 apply lex_quiet rfl rfl
 ·intro w' hk;have e2:=HIX.out w';go_simp;with_reducible rfl
 simp only [Act.put,LS]
 apply lex_quiet rfl rfl
 ·intro w' hk;go_simp;with_reducible rfl
 simp only [Act.put,LS]
 apply lex_quiet rfl rfl
 ·intro w' hk;have e1:=d6 w' hk;go_simp;with_reducible rfl
 simp only [Act.put,LS]
 refine lex_loud rfl rfl (loud_str5 into [61] s [40] cont (fun w=>by go_simp)) fun g5 _=>?_
 simp only [sStr5,Act.put,LS]
 refine lex_loud rfl rfl (loud_tel HTw2.out.tel [into,[61],s,[40],cont] (by have:=HLEN.out;(try simp only [List.length_append] at this ⊢);omega) g5.b 5 (fun W=>by kernel_rfl) 9 11 (by decide) (by decide) (by decide) (by decide) (fun W h=>h) rfl (fun W h=>h rfl) (fun k=>⟨fun h=>h.2,fun h=>⟨rfl,h⟩⟩)) fun g6 _=>?_
 simp only [sTel,Act.put,LS]
 refine lex_nil ?_
 intro WR hkr hF _
 obtain ⟨htr,hkr2⟩:=HTw2.out.region (args:=#[]) hkr (hF 10 (by decide)).1 (hF 10 (by decide)).2
 have hb:=hkr2.boxedS HTw2.out HNE.out HBw2.out
 have HBWR:=hid hb;have HTWR:=hid htr;have HKWR:=hid (HKw2.out.trans hkr2)
 clear hkr hF htr hkr2 d3 d5 d6
 clear c0 c1 c2 c3 c4 c5 c6 c7 c8 c9 c10 c11
 obtain ⟨c0,c1,c2,c3,c4,c5,c6,c7,c8,c9,c10,c11⟩:=blk12 hb
 clear hb
 have HTK:=hid (fun w'=>by have h:=takes_any op w';rw [HOB.out] at h;exact h)
 go_wp2_with fail
 go_at_call 113
 refine (HTK.out _).mono ?_
 rintro e w5 ⟨rfl,hw5⟩
 obtain rfl:=hw5.symm
 clear hw5 HTK
 have HPw4:=hid (HTWR.out.put1 ([41]) (by have:=HLEN.out;(try simp only [List.length_append] at this ⊢);omega))
 go_wp2_with fail
 go_at_call 39
 refine HPw4.out.mono ?_
 rintro e w4 ⟨rfl,ht,hk⟩
 have hb:=hk.boxedS HTWR.out HNE.out HBWR.out
 have HBw4:=hid hb;have HTw4:=hid ht;have HKw4:=hid (HKWR.out.trans hk)
 clear ht hk
 clear c0 c1 c2 c3 c4 c5 c6 c7 c8 c9 c10 c11
 obtain ⟨c0,c1,c2,c3,c4,c5,c6,c7,c8,c9,c10,c11⟩:=blk12 hb
 clear hb
 go_wp2_with fail
 go_end0
 exact ⟨rfl,by have h:=HTw4.out;rw [HE.out];simpa only [List.append_assoc] using h,HKw4.out⟩
set_option maxRecDepth 4000 in
set_option maxHeartbeats 32000000 in
theorem tells_call (w0:World) (op:Nat) (hop:op<8) (into cont:List UInt8) (x:Gx) (a d:Int) (h24:¬(op=2∨op=4)) (g go:Nat) (S:Nat→Prop) (vs:List Value) (hX:Tells w0 x) (hx:∀ j v,vs[j]?=some v→w0.cell? ⟨g,go+j,none⟩=some v) (hy:GAt w0 S vs x) (p2 p3:Option Addr) (c1 c2 c3 b:Nat) (l:List UInt8) (w:World) (ht:TS w0 b l w) (hlen:l.length+(putL (callT op [] into cont [x])).length≤100000000):
  Calls Tryz.prog 106 #[.pointer (some ⟨b,0,none⟩),.agg #[.int .i64 9,.string ⟨#[]⟩,.int .i64 0,.int .i64 op,.string ⟨#[]⟩,.string ⟨into.toArray⟩,.string ⟨cont.toArray⟩,.slice (some ⟨g,go,none⟩) 1 c1,.slice p2 0 c2,.slice p3 0 c3,.int .i64 a,.int .i64 d]] w fun e w'=>e=.returned (.tuple #[])∧TS w0 b (l++putL (callT op [] into cont [x])) w'∧TelK b w w':=by
 obtain ⟨LT,hLT⟩:∃ L,putL (callT op [] into cont [x])=L:=⟨_,rfl⟩
 rw [hLT] at hlen ⊢
 have HLT:=hid hLT;have HLEN0:=hid hlen
 clear hLT hlen
 obtain ⟨W0,B3,hW,hB,hb3,hk3,hs3⟩:=fresh_block w (.cells #[.int .i64 9,.string ⟨#[]⟩,.int .i64 0,.int .i64 op,.string ⟨#[]⟩,.string ⟨into.toArray⟩,.string ⟨cont.toArray⟩,.slice (some ⟨g,go,none⟩) 1 c1,.slice p2 0 c2,.slice p3 0 c3,.int .i64 a,.int .i64 d] TSm)
 have HTW0:=hid (ht.on hk3);have HKW0:=hid (ht.onK hk3);have HBW0:=hid hb3
 have HNE:=hid (show B3≠b by have:=ht.tel.le;omega)
 clear ht hk3 hs3
 have HOB:=hid (show ((op:Int)==2 || (op:Int)==4)=false by rw [Bool.or_eq_false_iff,beq_eq_false_iff_ne,beq_eq_false_iff_ne];omega)
 have h24i:¬((op:Int)=2∨(op:Int)=4):=by omega
 have HX:=hid hx;have HYA:=hid hy;have HY:=hid hX
 obtain ⟨yk,yo,yn,yS,yp,ym,yc,yl,ycl,rfl⟩:=g_form hy
 have HE:=hid (show LT=putL [into,[61],opL.getD op [],[40],cont]++(putL [[44]]++(putL (tokG x)++putL [[41]])) by rw [←HLT.out];unfold callT;rw [if_neg h24i,if_neg h24i,tokA_cons,List.nil_append,putL_app,List.cons_append,show [44]::(tokG x++[[41]])=[[44]]++(tokG x++[[41]]) from rfl,putL_app,putL_app];rfl)
 have HLEN:=hid (by have h:=HLEN0.out;rw [HE.out] at h;exact h)
 clear h24 h24i hX hx hy
 obtain ⟨c0,c1,c2,c3,c4,c5,c6,c7,c8,c9,c10,c11⟩:=blk12 hb3
 clear hb3
 go_enter Tryz.func106,Tryz.ntmps106
 go_upto_region 1 with fail
 rw [←hW,←hB]
 clear hW hB
 have HTK:=hid (fun w'=>by have h:=takes_any op w';rw [HOB.out] at h;exact h)
 go_wp2_with fail
 go_at_call 113
 refine (HTK.out _).mono ?_
 rintro e w5 ⟨rfl,hw5⟩
 obtain rfl:=hw5.symm
 clear hw5 HTK
 go_upto_region 3 with fail
 obtain ⟨s,hs⟩:∃ s,opL.getD op []=s:=⟨_,rfl⟩
 have HIX:=hid (fun W=>run_index_ops hop W)
 rw [hs] at HIX HLEN HE
 clear hs hop
 have d3:=fun W (h:KeepBut (fun k=>k=b∨bufOf W0 b=some k) W0.drew W)=>((KeepBut.drew _ W0).trans h).cell c3 (fun e=>e.elim (fun e=>HNE.out e) fun e=>by obtain ⟨-,-,cs,fz,hc⟩:=HTW0.out.tel.buf e;have h2:=HBW0.out;rw [hc] at h2;cases h2)
 have d5:=fun W (h:KeepBut (fun k=>k=b∨bufOf W0 b=some k) W0.drew W)=>((KeepBut.drew _ W0).trans h).cell c5 (fun e=>e.elim (fun e=>HNE.out e) fun e=>by obtain ⟨-,-,cs,fz,hc⟩:=HTW0.out.tel.buf e;have h2:=HBW0.out;rw [hc] at h2;cases h2)
 have d6:=fun W (h:KeepBut (fun k=>k=b∨bufOf W0 b=some k) W0.drew W)=>((KeepBut.drew _ W0).trans h).cell c6 (fun e=>e.elim (fun e=>HNE.out e) fun e=>by obtain ⟨-,-,cs,fz,hc⟩:=HTW0.out.tel.buf e;have h2:=HBW0.out;rw [hc] at h2;cases h2)
 refine wp_ownA (by kernel_rfl) (fun k=>k=b∨bufOf W0 b=some k) (fun k hk=>hk.elim (fun e=>by rw [e];exact HTW0.out.tel.le.2) fun e=>by obtain ⟨-,-,cs,fz,hc⟩:=HTW0.out.tel.buf e;exact (Array.getElem?_eq_some_iff.1 hc).1) (fun i=>[[],[],[1],[],[],[4],[3,4,5],[],[7],[1,2,3,4,5,6,7,8],[0,1,2,3,4,5,6,7,8,9]].getD i []) (fun i=>if i=10 then [9,11] else []) (fun i=>if i=10 then [11] else []) [10] (by kernel_rfl) (fun i=>if i=3 then some (sConst (.agg opsV)) else if i=9 then some (sStr5 into [61] s [40] cont) else if i=10 then some (sTel w0.heap.size b (l++putL [into,[61],s,[40],cont])) else none) ?_
 apply lex_quiet rfl rfl
 ·intro w' hk;go_simp;with_reducible rfl
 simp only [Act.put,LS]
 apply lex_quiet rfl rfl
 ·intro w' hk;go_simp;with_reducible rfl
 simp only [Act.put,LS]
 apply lex_quiet rfl rfl
 ·intro w' hk;have e1:=d5 w' hk;go_simp;with_reducible rfl
 simp only [Act.put,LS]
 refine lex_loud rfl rfl (loud_call 126 #[] (fun w=>by kernel_rfl) ⟨default,trivial⟩ (fun g _=>stable_true _) fun w' hk _ _=>(words_any w').mono ?_) fun gs _=>?_
 ·rintro e w'' ⟨rfl,hq⟩
  exact ⟨default,trivial,rfl,hq.mono fun _ e=>e.elim,fun b h=>h.elim,trivial⟩
 simp only [sConst,Act.put,LS]
 apply lex_quiet rfl rfl
 ·intro w' hk;go_simp;with_reducible rfl
 simp only [Act.put,LS]
 apply lex_quiet rfl rfl
 ·intro w' hk;have e1:=d3 w' hk;go_simp;with_reducible rfl
 simp only [Act.put,LS]
 apply lex_quiet rfl rfl
 ·intro w' hk;have e2:=HIX.out w';go_simp;with_reducible rfl
 simp only [Act.put,LS]
 apply lex_quiet rfl rfl
 ·intro w' hk;go_simp;with_reducible rfl
 simp only [Act.put,LS]
 apply lex_quiet rfl rfl
 ·intro w' hk;have e1:=d6 w' hk;go_simp;with_reducible rfl
 simp only [Act.put,LS]
 refine lex_loud rfl rfl (loud_str5 into [61] s [40] cont (fun w=>by go_simp)) fun g5 _=>?_
 simp only [sStr5,Act.put,LS]
 refine lex_loud rfl rfl (loud_tel HTW0.out.tel [into,[61],s,[40],cont] (by have:=HLEN.out;(try simp only [List.length_append] at this ⊢);omega) g5.b 5 (fun W=>by kernel_rfl) 9 11 (by decide) (by decide) (by decide) (by decide) (fun W h=>h) rfl (fun W h=>h rfl) (fun k=>⟨fun h=>h.2,fun h=>⟨rfl,h⟩⟩)) fun g6 _=>?_
 simp only [sTel,Act.put,LS]
 refine lex_nil ?_
 intro WR hkr hF _
 obtain ⟨htr,hkr2⟩:=HTW0.out.region (args:=#[]) hkr (hF 10 (by decide)).1 (hF 10 (by decide)).2
 have hb:=hkr2.boxedS HTW0.out HNE.out HBW0.out
 have HBWR:=hid hb;have HTWR:=hid htr;have HKWR:=hid (HKW0.out.trans hkr2)
 clear hkr hF htr hkr2 d3 d5 d6
 clear c0 c1 c2 c3 c4 c5 c6 c7 c8 c9 c10 c11
 obtain ⟨c0,c1,c2,c3,c4,c5,c6,c7,c8,c9,c10,c11⟩:=blk12 hb
 clear hb
 have HTK:=hid (fun w'=>by have h:=takes_any op w';rw [HOB.out] at h;exact h)
 go_wp2_with fail
 go_at_call 113
 refine (HTK.out _).mono ?_
 rintro e w5 ⟨rfl,hw5⟩
 obtain rfl:=hw5.symm
 clear hw5 HTK
 have HPw7:=hid (HTWR.out.put1 ([44]) (by have:=HLEN.out;(try simp only [List.length_append] at this ⊢);omega))
 go_wp2_with fail
 go_at_call 39
 refine HPw7.out.mono ?_
 rintro e w7 ⟨rfl,ht,hk⟩
 have hb:=hk.boxedS HTWR.out HNE.out HBWR.out
 have HBw7:=hid hb;have HTw7:=hid ht;have HKw7:=hid (HKWR.out.trans hk)
 clear ht hk
 clear c0 c1 c2 c3 c4 c5 c6 c7 c8 c9 c10 c11
 obtain ⟨c0,c1,c2,c3,c4,c5,c6,c7,c8,c9,c10,c11⟩:=blk12 hb
 clear hb
 have x0:=HTw7.out.keep.stay (show w0.cell? ⟨g,go,none⟩=some _ from HX.out 0 _ rfl)
 have x1:=HTw7.out.keep.stay (show w0.cell? ⟨g,go+1,none⟩=some _ from HX.out 1 _ rfl)
 have x2:=HTw7.out.keep.stay (show w0.cell? ⟨g,go+2,none⟩=some _ from HX.out 2 _ rfl)
 have x3:=HTw7.out.keep.stay (show w0.cell? ⟨g,go+3,none⟩=some _ from HX.out 3 _ rfl)
 have x4:=HTw7.out.keep.stay (show w0.cell? ⟨g,go+4,none⟩=some _ from HX.out 4 _ rfl)
 have x5:=HTw7.out.keep.stay (show w0.cell? ⟨g,go+5,none⟩=some _ from HX.out 5 _ rfl)
 have x6:=HTw7.out.keep.stay (show w0.cell? ⟨g,go+6,none⟩=some _ from HX.out 6 _ rfl)
 have HPw8:=hid (HY.out _ _ HYA.out _ _ _ HTw7.out (by have:=HLEN.out;(try simp only [List.length_append] at this ⊢);omega))
 go_wp2_with fail
 go_at_call 27
 refine HPw8.out.mono ?_
 rintro e w8 ⟨rfl,ht,hk⟩
 have hb:=hk.boxedS HTw7.out HNE.out HBw7.out
 have HBw8:=hid hb;have HTw8:=hid ht;have HKw8:=hid (HKw7.out.trans hk)
 clear ht hk
 clear c0 c1 c2 c3 c4 c5 c6 c7 c8 c9 c10 c11
 obtain ⟨c0,c1,c2,c3,c4,c5,c6,c7,c8,c9,c10,c11⟩:=blk12 hb
 clear hb
 clear x0 x1 x2 x3 x4 x5 x6
 have HPw9:=hid (HTw8.out.put1 ([41]) (by have:=HLEN.out;(try simp only [List.length_append] at this ⊢);omega))
 go_wp2_with fail
 go_at_call 39
 refine HPw9.out.mono ?_
 rintro e w9 ⟨rfl,ht,hk⟩
 have hb:=hk.boxedS HTw8.out HNE.out HBw8.out
 have HBw9:=hid hb;have HTw9:=hid ht;have HKw9:=hid (HKw8.out.trans hk)
 clear ht hk
 clear c0 c1 c2 c3 c4 c5 c6 c7 c8 c9 c10 c11
 obtain ⟨c0,c1,c2,c3,c4,c5,c6,c7,c8,c9,c10,c11⟩:=blk12 hb
 clear hb
 go_wp2_with fail
 go_end0
 exact ⟨rfl,by have h:=HTw9.out;rw [HE.out];simpa only [List.append_assoc] using h,HKw9.out⟩
theorem tokSL_take {l:List Gs} {i:Nat} (h:i<l.length):tokSL (l.take (i+1))=tokSL (l.take i)++tokS l[i]:=by
 induction l generalizing i with
 | nil=>cases h
 | cons x l ih=>
  cases i with
  | zero=>simp [tokSL]
  | succ i=>
   have h':i<l.length:=by simpa using h
   simp only [List.take_succ_cons,tokSL,List.getElem_cons_succ]
   rw [ih h',List.append_assoc]
theorem tokSL_le (l:List Gs) (i:Nat):(putL (tokSL (l.take i))).length≤(putL (tokSL l)).length:=by
 have h:tokSL l=tokSL (l.take i)++tokSL (l.drop i):=by
  induction l generalizing i with
  | nil=>simp [tokSL]
  | cons x l ih=>
   cases i with
   | zero=>simp [tokSL]
   | succ i=>
    simp only [List.take_succ_cons,tokSL,List.drop_succ_cons]
    rw [List.append_assoc,←ih i]
 rw [h,putL_app,List.length_append]
 omega
set_option maxRecDepth 4000 in
set_option maxHeartbeats 16000000 in
theorem tells_block (w0:World) (ss:List Gs) (hl:ss.length≤1099511627776) (hS:∀ i (h:i<ss.length),TellsS w0 ss[i]):TellsB w0 ss:=by
 intro S p c hp b l w ht hlen
 have HS:=hid hS;have HP:=hid hp
 have HLEN:=hid (show l.length+((putL [[123]]).length+((putL (tokSL ss)).length+(putL [[125]]).length))≤100000000 by
  unfold blockT at hlen
  rw [putL_app,putL_app,List.length_append,List.length_append] at hlen
  exact hlen)
 rw [show l++putL (blockT ss)=(l++putL [[123]]++putL (tokSL ss))++putL [[125]] by unfold blockT;rw [putL_app,putL_app];simp only [List.append_assoc]]
 have HTW0:=hid ht
 clear hS hp hlen ht
 have HPw1:=hid (HTW0.out.put1 [123] (by have:=HLEN.out;omega))
 go_enter Tryz.func42,Tryz.ntmps42
 go_wp2_with fail
 go_at_call 39
 refine HPw1.out.mono ?_
 rintro e w1 ⟨rfl,ht,hk⟩
 have HT1:=hid ht;have HK1:=hid hk
 clear ht hk
 go_wp2_with fail
 go_loopw [11] (fun v11 wr=>∃ i:Nat,v11=.int .i64 i∧i≤ss.length∧TS w0 b (l++putL [[123]]++putL (tokSL (ss.take i))) wr∧TelK b w wr) (fun v _=>ss.length - (intOf v).toNat)
 case atStart=>exact ⟨0,rfl,Nat.zero_le _,by have h:=HT1.out;simpa [tokSL,putL] using h,HK1.out⟩
 case round=>
  obtain ⟨i,rfl,hi,ht,hk⟩:=hrel
  have HT2:=hid ht;have HK2:=hid hk
  by_cases hlt:i<ss.length
  ·have hlti:(i:Int)<ss.length:=by omega
   have hi0:(0:Int)≤i:=by omega
   have hWi:IntKind.i64.wrap ((i:Int)+1)=(i:Int)+1:=IntWalk.i64_in _ (by omega)
   obtain ⟨g,o,vs,hp,hc,hex,-⟩:=skids_get HP.out i hlt
   subst hp
   rw [Nat.zero_add] at hc
   have HSI:=hid (HS.out i hlt S vs hex b)
   obtain ⟨sk,ss',sz,so,sv,si,st,sp1,sm1,sc1,sp2,sm2,sc2,sp3,sm3,sc3,sl,scl,rfl⟩:=s_form hex
   have x0:=ht.keep.stay (show w0.cell? ⟨g,o+i * 12,none⟩=some _ from hc 0 _ rfl)
   have x1:=ht.keep.stay (show w0.cell? ⟨g,o+i * 12+1,none⟩=some _ from hc 1 _ rfl);have x2:=ht.keep.stay (show w0.cell? ⟨g,o+i * 12+2,none⟩=some _ from hc 2 _ rfl);have x3:=ht.keep.stay (show w0.cell? ⟨g,o+i * 12+3,none⟩=some _ from hc 3 _ rfl);have x4:=ht.keep.stay (show w0.cell? ⟨g,o+i * 12+4,none⟩=some _ from hc 4 _ rfl);have x5:=ht.keep.stay (show w0.cell? ⟨g,o+i * 12+5,none⟩=some _ from hc 5 _ rfl);have x6:=ht.keep.stay (show w0.cell? ⟨g,o+i * 12+6,none⟩=some _ from hc 6 _ rfl);have x7:=ht.keep.stay (show w0.cell? ⟨g,o+i * 12+7,none⟩=some _ from hc 7 _ rfl);have x8:=ht.keep.stay (show w0.cell? ⟨g,o+i * 12+8,none⟩=some _ from hc 8 _ rfl);have x9:=ht.keep.stay (show w0.cell? ⟨g,o+i * 12+9,none⟩=some _ from hc 9 _ rfl);have x10:=ht.keep.stay (show w0.cell? ⟨g,o+i * 12+10,none⟩=some _ from hc 10 _ rfl);have x11:=ht.keep.stay (show w0.cell? ⟨g,o+i * 12+11,none⟩=some _ from hc 11 _ rfl)
   obtain ⟨W,C,hW,hC,hcb,hkc,hsc⟩:=fresh_block wr (.cells #[.int .i64 sk,.string ss',.int .i64 sz,.int .i64 so,.string sv,.string si,.string st,.slice sp1 sm1 sc1,.slice sp2 sm2 sc2,.slice sp3 sm3 sc3,.int .i64 sl,.int .i64 scl] TSm)
   have HCA:=hid (HSI.out _ W (ht.on hkc) (by
    have h1:=HLEN.out
    have h2:=tokSL_le ss (i+1)
    rw [tokSL_take hlt,putL_app] at h2
    simp only [List.length_append] at h2 ⊢
    omega))
   have HKC:=hid (ht.onK hkc)
   obtain ⟨n0,n1,n2,n3,n4,n5,n6,n7,n8,n9,n10,n11⟩:=blk12 hcb
   clear ht hk hc hex hcb hkc hsc
   go_upto_region 4 with fail
   rw [←hW,←hC]
   clear hW hC x0 x1 x2 x3 x4 x5 x6 x7 x8 x9 x10 x11
   go_wp2_with (go_at_call 84;refine HCA.out.mono ?_;rintro e w5 ⟨rfl,ht5,hk5⟩;have HT5:=hid ht5;have HK5:=hid hk5;clear ht5 hk5)
   exact ⟨⟨i+1,by simp,by omega,by have h:=HT5.out;rw [tokSL_take hlt,putL_app];simpa only [List.append_assoc] using h,(HK2.out.trans HKC.out).trans HK5.out⟩,by simp only [intOf];omega⟩
  ·have hnl:¬(i:Int)<ss.length:=by omega
   obtain rfl:i=ss.length:=by omega
   rw [List.take_length] at ht
   have HT3:=hid ht
   have HPw2:=hid (HT3.out.put1 [125] (by have:=HLEN.out;simp only [List.length_append];omega))
   clear ht hk hlt hi
   go_wp2_with fail
   go_at_call 39
   refine HPw2.out.mono ?_
   rintro e w6 ⟨rfl,ht,hk⟩
   have HT6:=hid ht;have HK6:=hid hk
   clear ht hk
   go_wp2_with fail
   go_end0
   exact ⟨rfl,HT6.out,HK2.out.trans HK6.out⟩
end Go.Proofs.YtomlffobbkcmdaaGreatDoor
