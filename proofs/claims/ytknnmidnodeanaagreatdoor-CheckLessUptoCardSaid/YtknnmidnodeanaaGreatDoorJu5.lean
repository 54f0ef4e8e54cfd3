import Derived.Deep.MidRow
import Derived.Maps.AppendAt
import Derived.Test.YtknnmidnodeanaaGreatDoorJu4
import Derived.Deep.CutRange
import Derived.Deep.CutBlock
import Derived.StillTailTactics
set_option maxHeartbeats 64000000
set_option maxRecDepth 100000
namespace Go.Proofs.YtknnmidnodeanaaGreatDoor
open Go Go.RowKit Own
open Go.Lib (hid)
def BN (v:Value):Loud:={ val:=fun _ _=>v }
def sNew (o:Obj):Loud:={ val:=fun _ g=>.pointer (some ⟨g.b,0,none⟩),fp:=fun _ g k=>k=g.b,post:=fun _ g w=>w.heap[g.b]?=some o }
def sPut (b:Nat)(T:TypeId):Loud:={ val:=fun _ _=>undef,fp:=fun _ _ k=>k=b,post:=fun args _ w=>∀vs,args.getD 1 undef=.agg vs→w.heap[b]?=some (.cells vs T (0,0)) }
section
variable {P : Program}{w0 : World}{M : Nat→Prop}{o : Oper}{a : Act}{s : Loud}{av ea : List Nat}{F : Nat→World→Prop}{Fp : Nat→Nat→Prop}
theorem BX (fp:Nat→Prop):DT w0 M fp (fun _=>True):=fun _ _ _ _ _ _ _=>trivial
theorem BR (f:FuncId)(args:Array Value)(hrun:∀w,(execOp a.eval o).run P w=.ok (.enter f args) w)(hsome:∃g,s.ok (BM o a) g)
  (hst:∀g,s.ok (BM o a) g→DT w0 M (s.fp (BM o a) g) (s.post (BM o a) g))
  (hc:∀w,BA M w0 w→(∀j∈av,F j w∧∀b,Fp j b→b<w.heap.size∧(w0.heap.size≤b∨M b))→(∀j∈av,∀k∈av,j≠k→∀b,Fp j b→¬Fp k b)→
   Calls P f args w fun e w'=>∃g,s.ok (BM o a) g∧e=.returned (s.val (BM o a) g)∧BA (fun b=>∃j∈ea,Fp j b) w w'∧
    (∀b,s.fp (BM o a) g b→(w.heap.size≤b∨∃j∈ea,Fp j b)∧b<w'.heap.size)∧s.post (BM o a) g w'):CU P w0 M o a s av ea F Fp:=
 ⟨hsome,hst,fun w h1 h2 h3=>by
  unfold Oper.wp;rw[hrun w];refine(hc w h1 h2 h3).mono ?_;rintro e w' ⟨g,h4,rfl,h5,h6,h7⟩;exact⟨g,h4,rfl,h5,h6,h7⟩⟩
theorem BY (hsome:∃g,s.ok (BM o a) g)
  (hst:∀g,s.ok (BM o a) g→DT w0 M (s.fp (BM o a) g) (s.post (BM o a) g))
  (hc:∀w,BA M w0 w→(∀j∈av,F j w∧∀b,Fp j b→b<w.heap.size∧(w0.heap.size≤b∨M b))→(∀j∈av,∀k∈av,j≠k→∀b,Fp j b→¬Fp k b)→
   ∃ w' g,s.ok (BM o a) g∧Yields2 P (execOp a.eval o) w (s.val (BM o a) g) w'∧BA (fun b=>∃j∈ea,Fp j b) w w'∧
    (∀b,s.fp (BM o a) g b→(w.heap.size≤b∨∃j∈ea,Fp j b)∧b<w'.heap.size)∧s.post (BM o a) g w'):CU P w0 M o a s av ea F Fp:=
 ⟨hsome,hst,fun w h1 h2 h3=>by
  obtain⟨w',g,h4,h5,h6,h7,h8⟩:=hc w h1 h2 h3;unfold Oper.wp;rcases h5 with h5|⟨h5,h9⟩
  ·rw[h5];exact⟨g,h4,rfl,h6,h7,h8⟩
  ·rw[h5];exact⟨g,h4,by rw[h9],h6,h7,h8⟩⟩
theorem yields_put {ρ:Operand→Value}{w:World}{b:Nat}{T ty:TypeId}{vs cs0:Array Value}(x y:Operand)(ho:o.op=.store ty x y)(hx:ρ x=.pointer (some ⟨b,0,none⟩))(hy:ρ y=.agg vs)
  (h:w.heap[b]?=some (.cells cs0 T (0,0))) (hs:cs0.size=vs.size) (hi:(P.info? ty).map (·.size)=some vs.size) (h1:vs.all (·.oneCell')=true):
  ∃w',Yields2 P (execOp ρ o) w undef w'∧BA (fun k=>k=b) w w'∧w'.heap[b]?=some (.cells vs T (0,0)):=by
 obtain⟨cur',h2,h3,h4⟩:=heap_setCells b vs.toList 0 w cs0 T (0,0) h
 have he:cur'=vs:=by
  apply Array.ext_getElem?;intro k;by_cases hk:k<cs0.size
  ·rw[h4 k hk,if_pos ⟨Nat.zero_le _,by simpa using (by omega:k<vs.size)⟩];simp
  ·rw[Array.getElem?_eq_none (by omega),Array.getElem?_eq_none (by omega)]
 subst he;refine⟨_,.inr ⟨?_,rfl⟩,keep_setCells (E:=fun k=>k=b) b rfl cur'.toList 0 w,h2⟩;unfold execOp;simp only[ho,hx,hy];have:=run_storeAt_mid (P:=P) w b 0 ty cur' (fun j hj=>⟨by simp[World.cell?,h];omega,by simp[World.frozen?,h]⟩) hi h1;simp only[Sem.run_bind,this,Result.andThen_ok,Sem.run_pure]
theorem BV {ty:TypeId}{x y:Operand}{v:Value}(ho:o.op=.store ty x y)(hy:a.eval y=v):(BM o a).getD 1 undef=v:=by simp[BM,ho,Op.operands,hy]
theorem loud_put (b:Nat)(T ty:TypeId)(vs cs0:Array Value)(x y:Operand)(ho:o.op=.store ty x y)(hx:a.eval x=.pointer (some ⟨b,0,none⟩))(hy:a.eval y=.agg vs)
  (j:Nat) (hja:j∈av) (hje:j∈ea) (hF:∀w,F j w→w.heap[b]?=some (.cells cs0 T (0,0))) (hfp:Fp j b) (hs:cs0.size=vs.size) (hi:(P.info? ty).map (·.size)=some vs.size) (h1:vs.all (·.oneCell')=true):
  CU P w0 M o a (sPut b T) av ea F Fp:=by
 have harg:(BM o a).getD 1 undef=.agg vs:=by simp[BM,ho,Op.operands,hy]
 refine BY ⟨default,trivial⟩ (fun g _ w w' _ _ _ h k vs' hv=>(h b rfl).trans (k vs' hv)) fun w _ hav _=>?_;obtain⟨hj,hb⟩:=hav j hja;obtain⟨w',h2,h3,h4⟩:=yields_put (P:=P) (o:=o) (ρ:=a.eval) (w:=w) x y ho hx hy (hF w hj) hs hi h1;refine⟨w',default,trivial,h2,h3.mono fun k hk=>⟨j,hje,by rw[hk];exact hfp⟩,fun k hk=>⟨.inr ⟨j,hje,by rw[show k=b from hk];exact hfp⟩,?_⟩,fun vs' hv=>by rw[harg]at hv;cases hv;exact h4⟩;rw[show k=b from hk];exact Nat.lt_of_lt_of_le (hb b hfp).1 h3.size
theorem loud_new (mk:Nat→Value)(x:Obj)(hs:s.ok=fun _ _=>True)(hm:∀args g,s.val args g=mk g.b)(hfp:∀args g k,s.fp args g k↔k=g.b)(hp:∀args g w,s.post args g w↔w.heap[g.b]?=some x)
  (hrun:∀w,(execOp a.eval o).run P w=.ok (.value (mk w.heap.size)) (w.alloc x)):CU P w0 M o a s av ea F Fp:=by
 refine BY ⟨default,by rw[hs];trivial⟩ (fun g _ w w' _ _ _ h k=>?_) fun w _ _ _=>?_
 ·rw[hp]at k ⊢;rw[h g.b ((hfp _ _ _).2 rfl)];exact k
 ·refine⟨w.alloc x,{ b:=w.heap.size },by rw[hs];trivial,.inl (by rw[hm];exact hrun w),BA.alloc _ _ _,fun b hb=>?_,(hp _ _ _).2 (heap_alloc_new w x)⟩;have:b=w.heap.size:=(hfp _ _ _).1 hb;subst this;exact⟨.inl (Nat.le_refl _),by simp⟩
theorem loud_alloc (x:Obj)(hrun:∀w,(execOp a.eval o).run P w=.ok (.value (.pointer (some ⟨w.heap.size,0,none⟩))) (w.alloc x)):CU P w0 M o a (sNew x) av ea F Fp:=
 loud_new (fun b=>.pointer (some ⟨b,0,none⟩)) _ rfl (fun _ _=>rfl) (fun _ _ _=>Iff.rfl) (fun _ _ _=>Iff.rfl) hrun
end
theorem field_text (a b c d e:Value)(w:World):(Instr.field TTk (.agg #[a,b,c,d,e]) 1).run Tryz.prog w=.ok b w:=by kernel_rfl
theorem field_num (a b c d e:Value)(w:World):(Instr.field TTk (.agg #[a,b,c,d,e]) 2).run Tryz.prog w=.ok c w:=by kernel_rfl
theorem name_any (w:World)(R:Nat)(t:Item)(r:List Item)(el ec:Nat)(h:BG w R (t::r) el ec)(hk:t.tok.kind=2):
  Calls Tryz.prog 81 #[rdV R] w fun e w'=>e=.returned (strV t.tok.text)∧BG w' R r el ec∧BA (fun b=>b=R) w w':=by
 have HW:=hid (want_any w R t r el ec h 2 (by omega));obtain⟨S,hS⟩:∃S,strV t.tok.text=.string S:=⟨_,rfl⟩;rw[hS]at HW ⊢;clear h hk hS;go_enter Tryz.func81,Tryz.ntmps81;go_wp2_with fail;go_at_call 78;refine HW.out.mono ?_;rintro e w1 ⟨rfl,hr,hk⟩;have HR:=hid hr;have HK:=hid hk;clear hr hk;have hf:=field_text (.int .i64 t.tok.kind) (.string S) (.int .i64 t.tok.num) (.int .i64 t.line) (.int .i64 t.col) w1;go_wp2_with fail;go_ret;exact⟨rfl,HR.out,HK.out⟩
def RowS (w:World)(p:Option Addr)(L:List (List UInt8)):Prop:=∀i (h:i<L.length),∃g o,p=some ⟨g,o,none⟩∧w.cell? ⟨g,o+i,none⟩=some (.string ⟨L[i].toArray⟩)
theorem RowS.keep {E:Nat→Prop}{w w':World}{p:Option Addr}{L:List (List UInt8)}(h:RowS w p L)(k:BA E w w')(hE:∀a,p=some a→¬E a.block):RowS w' p L:=fun i hi=>by
 obtain⟨g,o,h1,h2⟩:=h i hi;have hn:¬E g:=hE _ h1;exact⟨g,o,h1,k.cell h2 hn⟩
theorem must_any (w:World)(R:Nat)(its:List Item)(el ec:Nat)(h:BG w R its el ec)(p:Option Addr)(c:Nat)(L:List (List UInt8))(hp:RowS w p L)(hpR:∀a,p=some a→a.block≠R)(hl:L.length≤1000)(r:List Item)(hm:CQ L its=some r):
  Calls Tryz.prog 77 #[rdV R,.slice p L.length c] w fun e w'=>e=.returned (.tuple #[])∧BG w' R r el ec∧BA (fun b=>b=R) w w':=by
 have HR:=hid h;have HP:=hid hp;have HPR:=hid hpR;have HM:=hid hm;clear h hp hpR hm;go_enter Tryz.func77,Tryz.ntmps77;go_wp2_with fail;go_loopw [8] (fun v8 wr=>∃(i:Nat) (its':List Item),v8=.int .i64 i∧i≤L.length∧CQ (L.drop i) its'=some r∧BG wr R its' el ec∧BA (fun b=>b=R) w wr) (fun v _=>L.length - (intOf v).toNat)
 case atStart=>exact⟨0,its,rfl,Nat.zero_le _,HM.out,HR.out,BA.refl _ _⟩
 case round=>
  obtain⟨i,its',rfl,hi,hm,hr,hk⟩:=hrel;have HM:=hid hm;have HR:=hid hr;have HK:=hid hk;by_cases hlt:i<L.length
  ·have hlti:(i:Int)<L.length:=by omega
   have hi0:(0:Int)≤i:=by omega
   have hWi:IntKind.i64.wrap ((i:Int)+1)=(i:Int)+1:=IntWalk.i64_in _ (by omega);obtain⟨g,o,hp,hc⟩:=HP.out.keep hk HPR.out i hlt;have HMY:=hid (CA wr R its' el ec hr L[i]);subst hp;rw[List.drop_eq_getElem_cons hlt]at hm;obtain⟨s,hs⟩:∃s,L[i]=s:=⟨_,rfl⟩;rw[hs]at hm hc HMY;unfold CQ at hm
   cases hh:BJ its' s with
   |false=>rw[hh]at hm;cases hm
   | true=>
    rw[hh]at hm HMY;have HM2:=hid hm;clear hm hr hk hs hh;go_wp2_with (go_at_call 95;refine HMY.out.mono ?_;rintro e w1 ⟨rfl,hr,hk⟩;have HR2:=hid hr;have HK2:=hid hk;clear hr hk);exact⟨⟨i+1,its'.tail,by simp,by omega,HM2.out,HR2.out,HK.out.trans HK2.out⟩,by simp only[intOf];omega⟩
  ·have hnl:¬(i:Int)<L.length:=by omega
   have e:i=L.length:=by omega
   rw[e,List.drop_length]at hm;have e2:its'=r:=by unfold CQ at hm;exact Option.some.inj hm
   subst e2;clear hm hr hk e;go_wp2_with fail;exact bodyPost_end (results_none Tryz.results77 _ _ _) rfl ⟨rfl,HR.out,HK.out⟩
def signsV:Array Value:=#[.string ⟨#[]⟩,.string ⟨#[42]⟩,.string ⟨#[47]⟩,.string ⟨#[37]⟩,.string ⟨#[43]⟩,.string ⟨#[45]⟩,.string ⟨#[60]⟩,.string ⟨#[60,61]⟩,.string ⟨#[62]⟩,.string ⟨#[62,61]⟩,.string ⟨#[61,61]⟩,.string ⟨#[33,61]⟩,.string ⟨#[38]⟩,.string ⟨#[124]⟩]
theorem signs_at {op:Nat}(h:op<14):signsV[op]?=some (.string ⟨(signL.getD op []).toArray⟩):=by
 have key:op=0∨op=1∨op=2∨op=3∨op=4∨op=5∨op=6∨op=7∨op=8∨op=9∨op=10∨op=11∨op=12∨op=13:=by omega
 rcases key with rfl|rfl|rfl|rfl|rfl|rfl|rfl|rfl|rfl|rfl|rfl|rfl|rfl|rfl<;>rfl
abbrev TSg:TypeId:=168
theorem signs_any (w:World):Calls Tryz.prog 125 #[] w fun e w'=>e=.returned (.agg signsV)∧BA (fun _=>False) w w':=by
 obtain⟨V,B,hV,hB,hb,hk,hs⟩:=BD w (.cells signsV TSg);have HK:=hid hk;unfold signsV at hV hb ⊢;clear hk hs;go_enter Tryz.func125,Tryz.ntmps125;go_wp2_with fail;rw[←hV,←hB];refine bodyPost_ret (v:=.agg signsV) ?_ rfl ⟨rfl,HK.out⟩;unfold signsV;simp[results,Tryz.results125,go_sem,World.cell?,hb]
def opsI (ops:List Nat):List Int:=ops.map fun (n:Nat)=>(n:Int)
structure OpsAt (w:World)(B3 B7 R:Nat):Prop where
 rd:w.heap[B3]?=some (.cells #[rdV R] 101 (0,0))
 sg:w.heap[B7]?=some (.cells signsV TSg (0,0))
theorem rowFn_any (w:World)(B3 B7 R:Nat)(hO:OpsAt w B3 B7 R)(its:List Item)(el ec:Nat)(h:BG w R its el ec)(op:Nat)(hop:op<14):
  Calls Tryz.prog 127 #[.int .i64 op,.pointer (some ⟨B3,0,none⟩),.pointer (some ⟨B7,0,none⟩)] w fun e w'=>e=.returned (.bool (BJ its (signL.getD op [])))∧BA (fun _=>False) w w':=by
 have x3:w.cell? ⟨B3,0,none⟩=some (rdV R):=BH hO.rd rfl;have x7:w.cell? ⟨B7,op,none⟩=some (.string ⟨(signL.getD op []).toArray⟩):=BH hO.sg (signs_at hop);have HI:=hid fun W (k:BA (fun _=>False) w W)=>is_any W R its el ec (h.keep k fun _ _ e=>e) (signL.getD op []);obtain⟨s,hs⟩:∃s,signL.getD op []=s:=⟨_,rfl⟩;rw[hs]at HI x7 ⊢;have h0:(0:Int)≤op:=by omega
 have h1:(op:Int)<14:=by omega
 obtain⟨b,hb⟩:∃b,BJ its s=b:=⟨_,rfl⟩;rw[hb]at HI ⊢;clear hO h hs hop hb;go_enter Tryz.func127,Tryz.ntmps127;go_upto_region 1 with fail;have z3:∀w',BA (fun _=>False) w.drew w'→w'.cell? ⟨B3,0,none⟩=some (rdV R):=fun w' h=>((BA.drew _ w).trans h).stay x3;have z7:∀w',BA (fun _=>False) w.drew w'→w'.cell? ⟨B7,op,none⟩=some (.string ⟨s.toArray⟩):=fun w' h=>((BA.drew _ w).trans h).stay x7;clear x3 x7
 refine CN (by kernel_rfl) (fun i=>[[],[],[1],[1,2],[0,1,2,3],[0,1,2,3,4]].getD i []) (fun _=>[]) (fun _=>[]) [] (by kernel_rfl)
  (fun i=>if i=4 then some (BN (.bool b)) else none) ?_
 repeat refine BC rfl rfl (fun w' hk=>by go_simp;with_reducible rfl) ?_;simp only[Act.put,LS]
 refine BE rfl rfl (BR 108 #[rdV R,.string ⟨s.toArray⟩] (fun w=>by kernel_rfl) ⟨default,trivial⟩ (fun g _=>BX _) fun w' hk _ _=>(HI.out w' ((BA.drew _ _).trans hk)).mono ?_) fun g _=>?_
 ·rintro e w'' ⟨rfl,hq⟩;exact⟨default,trivial,rfl,hq.mono fun _ e=>e.elim,fun b h=>h.elim,trivial⟩
 simp only[BN,Act.put,LS];apply BC rfl rfl
 ·intro w' hk;go_simp;with_reducible rfl
 simp only[Act.put,LS];refine BP ?_;intro w9 hk9 _ _;have HFIN:=hid ((BA.drew (fun _=>False) w).trans hk9);clear z3 z7 hk9;go_wp2_with fail;go_ret;exact⟨rfl,HFIN.out⟩
def rowF (B3 B7:Nat):Value:=.func (.func 127) #[] #[.pointer (some ⟨B3,0,none⟩),.pointer (some ⟨B7,0,none⟩)]
def OpsDone (ops:List Nat)(its:List Item)(w:World)(e:Ending)(w':World):Prop:=
 ((∃k:Nat,∃h:k<ops.length,e=.returned (.int .i64 k)∧opOf ops its=some ops[k])∨(e=.returned (.int .i64 (-1))∧opOf ops its=none))∧BA (fun _=>False) w w'
theorem opOf_at {ops:List Nat}{its:List Item}{k:Nat}(hk:k<ops.length)(h1:BJ its (signL.getD ops[k] [])=true)(h2:∀j,(hj:j<k)→BJ its (signL.getD (ops[j]'(by omega)) [])=false):opOf ops its=some ops[k]:=by
 unfold opOf
 induction ops generalizing k with
 |nil=>cases hk
 | cons o l ih=>
  cases k with
  | zero=>
   have h1:BJ its (signL.getD o [])=true:=h1;show (match BJ its (signL.getD o []) with|true=>some o|false=>_)=_;rw[h1];rfl
  | succ k=>
   have h0:=h2 0 (by omega);have h0:BJ its (signL.getD o [])=false:=h0;show (match BJ its (signL.getD o []) with|true=>some o|false=>List.find? _ l)=_;rw[h0];exact ih (by simpa using hk) h1 fun j hj=>h2 (j+1) (by omega)
theorem opOf_none {ops:List Nat}{its:List Item}(h:∀j,(hj:j<ops.length)→BJ its (signL.getD ops[j] [])=false):opOf ops its=none:=by
 unfold opOf;rw[List.find?_eq_none];intro o ho;obtain⟨j,hj,e⟩:=List.getElem_of_mem ho;rw[←e,h j hj];exact NT
theorem idxOps_any (w:World)(B3 B7 R:Nat)(hO:OpsAt w B3 B7 R)(its:List Item)(el ec:Nat)(h:BG w R its el ec)(p:Option Addr)(c:Nat)(ops:List Nat)(hp:Rd w p (ints (opsI ops)))(hl:∀op∈ops,op<14)(hlen:ops.length≤100):
  Calls Tryz.prog 126 #[.slice p ops.length c,rowF B3 B7] w fun e w'=>OpsDone ops its w e w':=by
 have HO:=hid hO;have HR:=hid h;have HP:=hid hp;unfold rowF;clear hO h hp;go_enter Tryz.func126,Tryz.ntmps126;go_wp2_with fail;go_loopw [8] (fun v8 wr=>∃k:Nat,v8=.int .i64 k∧k≤ops.length∧(∀j,(hj:j<k)→(hj2:j<ops.length)→BJ its (signL.getD ops[j] [])=false)∧BA (fun _=>False) w wr) (fun v _=>ops.length - (intOf v).toNat)
 case atStart=>exact⟨0,rfl,Nat.zero_le _,fun j h=>absurd h (Nat.not_lt_zero _),BA.refl _ _⟩
 case round=>
  obtain⟨k,rfl,hk,hno,hkk⟩:=hrel;have HNO:=hid hno;have HK:=hid hkk;by_cases hlt:k<ops.length
  ·have hlti:(k:Int)<ops.length:=by omega
   have hi0:(0:Int)≤k:=by omega
   have hWi:IntKind.i64.wrap ((k:Int)+1)=(k:Int)+1:=IntWalk.i64_in _ (by omega);have hol:(opsI ops).length=ops.length:=by simp[opsI]
   have hrd:=HP.out.stay hkk;obtain⟨b,o,hp,-⟩:=hrd.ptr (by rw[ints_length,hol];omega);subst hp;have hc:=hrd.int k (by rw[hol];exact hlt);rw[show nth (opsI ops) k=(ops[k]:Int) by simp[nth,opsI,List.getD,hlt]]at hc;have HFN:=hid (rowFn_any wr B3 B7 R ⟨hkk.blk HO.out.rd,hkk.blk HO.out.sg⟩ its el ec (HR.out.keep hkk fun _ _ e=>e) ops[k] (hl _ (List.getElem_mem hlt)));have HAT:=hid (fun h1=>opOf_at (ops:=ops) (its:=its) hlt h1 fun j hj=>HNO.out j hj (by omega));obtain⟨a,ha⟩:∃a,BJ its (signL.getD ops[k] [])=a:=⟨_,rfl⟩;have HA:=hid ha;rw[ha]at HFN;obtain⟨op,hop⟩:∃op,ops[k]=op:=⟨_,rfl⟩;rw[hop]at hc HFN;clear hno hkk ha hrd hol hop
   cases a with
   | false=>
    go_wp2_with (go_at_call 127;refine HFN.out.mono ?_;rintro e w2 ⟨rfl,hk2⟩;have HK2:=hid hk2;clear hk2)
    exact⟨⟨k+1,by simp,by omega,fun j hj hj2=>by
     by_cases e:j=k
     ·subst e;exact HA.out
     ·exact HNO.out j (by omega) hj2,HK.out.trans HK2.out⟩,by simp only[intOf];omega⟩
   | true=>
    go_wp2_with (go_at_call 127;refine HFN.out.mono ?_;rintro e w2 ⟨rfl,hk2⟩;have HK2:=hid hk2;clear hk2);go_ret;exact⟨.inl ⟨k,hlt,rfl,HAT.out HA.out⟩,HK.out.trans HK2.out⟩
  ·have hnl:¬(k:Int)<ops.length:=by omega
   clear hno hkk;go_wp2_with fail;go_ret;exact⟨.inr ⟨rfl,opOf_none fun j hj=>HNO.out j (by omega) hj⟩,HK.out⟩
def asideB (n m1 m2:Nat)(x1 x2:Obj)(j:Nat)(w:World):Prop:=if j=n then w.heap[m1]?=some x1 else if j=n+1 then w.heap[m2]?=some x2 else True
def asideBFp (n m1 m2:Nat)(j b:Nat):Prop:=(j=n∧b=m1)∨(j=n+1∧b=m2)
theorem wp_ownB {P:Program}{l:List Oper}{Q:Exit→Act→World→Prop}{id:Nat}{a:Act}{w:World}(hm:P.follows .mixedOrders=true)
  (m1 m2:Nat) (x1 x2:Obj) (h1:w.heap[m1]?=some x1) (h2:w.heap[m2]?=some x2) (hne:m1≠m2) (D av ea:Nat→List Nat) (keep:List Nat) (hok:okB l.toArray D av ea keep=true) (sp:Nat→Option Loud)
  (hlex:Lex P l.toArray w.drew (fun b=>b=m1∨b=m2) sp av ea (fun a F Fp=>Done w.drew (fun b=>b=m1∨b=m2) Q keep a F Fp) l 0 a (asideB l.length m1 m2 x1 x2) (asideBFp l.length m1 m2)):(Code.region id l.toArray true).wp P Q a w:=by
 have lt:∀{m:Nat}{x:Obj},w.heap[m]?=some x→m<w.heap.size:=fun h=>(AG.1 h).1;refine wp_own_lit hm D av ea keep hok sp _ _ _ ?_ ?_ ?_ ?_ hlex
 ·intro j hj;have hj':j<l.length:=by simpa using hj
  funext w';unfold asideB;rw[if_neg (by omega),if_neg (by omega)]
 ·intro j hj;have hj':j<l.length:=by simpa using hj
  funext b;unfold asideBFp
  exact propext ⟨fun h=>by rcases h with h|h<;>omega,fun h=>h.elim⟩
 ·intro j hj;refine⟨fun w1 w2 _ _ _ h hk=>?_,?_,fun b hb=>?_⟩
  ·unfold asideB at hk ⊢;by_cases e1:j=l.length
   ·rw[if_pos e1]at hk ⊢;rw[←hk];exact h m1 (.inl ⟨e1,rfl⟩)
   ·rw[if_neg e1]at hk ⊢;by_cases e2:j=l.length+1
    ·rw[if_pos e2]at hk ⊢;rw[←hk];exact h m2 (.inr ⟨e2,rfl⟩)
    ·rw[if_neg e2];trivial
  ·unfold asideB;by_cases e1:j=l.length
   ·rw[if_pos e1];exact h1
   ·rw[if_neg e1];by_cases e2:j=l.length+1
    ·rw[if_pos e2];exact h2
    ·rw[if_neg e2];trivial
  ·rcases hb with⟨_,hb⟩|⟨_,hb⟩
   ·exact⟨by rw[hb];exact lt h1,.inl hb⟩
   ·exact⟨by rw[hb];exact lt h2,.inr hb⟩
 ·intro i j _ _ hij b e1 e2;rcases e1 with⟨a1,a2⟩|⟨a1,a2⟩<;>rcases e2 with⟨b1,b2⟩|⟨b1,b2⟩<;>omega
section
variable {P : Program}{w0 : World}{M : Nat→Prop}{o : Oper}{a : Act}{av ea : List Nat}{F : Nat→World→Prop}{Fp : Nat→Nat→Prop}
def sCell (b i:Nat)(T:TypeId)(cs0:Array Value)(v:Value):Loud:={ val:=fun _ _=>undef,fp:=fun _ _ k=>k=b,post:=fun _ _ w=>w.heap[b]?=some (.cells (cs0.setIfInBounds i v) T (0,0)) }
theorem DW (b i:Nat)(T:TypeId)(cs0:Array Value)(v:Value)(hrun:∀w u,w.cell? ⟨b,i,none⟩=some u→w.frozen? ⟨b,i,none⟩=false→(execOp a.eval o).run P w=.ok .skip (w.setCell ⟨b,i,none⟩ v))
  (j:Nat) (hja:j∈av) (hje:j∈ea) (hF:∀w,F j w→w.heap[b]?=some (.cells cs0 T (0,0))) (hfp:Fp j b) (hi:i<cs0.size):CU P w0 M o a (sCell b i T cs0 v) av ea F Fp:=by
 refine BY ⟨default,trivial⟩ (fun g _ w w' _ _ _ h k=>(h b rfl).trans k) fun w _ hav _=>?_;obtain⟨hj,hb⟩:=hav j hja;have hh:=hF w hj;refine⟨w.setCell ⟨b,i,none⟩ v,default,trivial,.inr ⟨hrun w _ (BH hh (Array.getElem?_eq_getElem hi)) (by simp[World.frozen?,hh]),rfl⟩,BA.setCell _ _ _ ⟨j,hje,hfp⟩,fun k hk=>⟨.inr ⟨j,hje,by rw[show k=b from hk];exact hfp⟩,?_⟩,put1 hh v⟩;rw[show k=b from hk];exact Nat.lt_of_lt_of_le (hb b hfp).1 (by simp[World.setCell])
end
def Reads (g:Nat)(args:Array Value)(nx:List Item→Option (Ex×List Item))(w0:World)(R el ec:Nat):Prop:=
 ∀ w its x r,BA (fun b=>b=R) w0 w→BG w R its el ec→nx its=some (x,r)→
  Calls Tryz.prog g args w fun e w'=>∃vs,e=.returned (.agg vs.toArray)∧ExAt w' (fun b=>w.heap.size≤b) vs x∧BG w' R r el ec∧BA (fun b=>b=R) w w'
def leftOf (R:Nat)(w:World):Nat:=
 match w.cell? ⟨R,0,none⟩ with
 |some (.slice _ n _)=>n
 |_=>0
theorem leftOf_at {w:World}{R:Nat}{its:List Item}{el ec:Nat}(h:BG w R its el ec):leftOf R w=its.length:=by
 obtain⟨p,c,h1,-⟩:=h.ex;unfold leftOf;rw[BH (k:=0) h1 rfl];rfl
structure RowAt (nx:List Item→Option (Ex×List Item))(ops:List Nat)(x:Ex)(r:List Item)(w wr:World)(R el ec B3 B6 B7 B8:Nat)(y:Ex)(ts:List Item):Prop where
 go:∃f,rowL nx ops f y ts=some (x,r)
 rd:BG wr R ts el ec
 b3:wr.heap[B3]?=some (.cells #[rdV R] 101 (0,0))
 b6:wr.heap[B6]?=some (.cells #[.int .i64 0,.int .i64 0,.int .i64 0,.string ⟨#[]⟩,.slice none 0 0,.int .i64 0,.int .i64 0] TEx (0,0))
 b7:wr.heap[B7]?=some (.cells signsV TSg (0,0))
 b8:∃vs,wr.heap[B8]?=some (.cells vs.toArray TEx (0,0))∧ExAt wr (fun b=>B7<b∧b≠B8) vs y
 keep:BA (fun b=>b=R) w wr
theorem RowAt.stay {nx:List Item→Option (Ex×List Item)}{ops:List Nat}{x:Ex}{r:List Item}{w wr wr':World}{R el ec B3 B6 B7 B8:Nat}{y:Ex}{ts:List Item}(h:RowAt nx ops x r w wr R el ec B3 B6 B7 B8 y ts)(k:BA (fun _=>False) wr wr'):RowAt nx ops x r w wr' R el ec B3 B6 B7 B8 y ts:=by
 obtain⟨vs,h1,h2⟩:=h.b8;exact⟨h.go,h.rd.keep k fun _ _ e=>e,k.blk h.b3,k.blk h.b6,k.blk h.b7,⟨vs,k.blk h1,h2.keep k fun _ _ e=>e⟩,h.keep.newM k fun _ e=>e.elim⟩
theorem keep_cell' {E:Nat→Prop}{w w':World}(h:BA E w w'){g o:Nat}{v:Value}(hc:w.cell? ⟨g,o,none⟩=some v)(hE:¬E g):w'.cell? ⟨g,o,none⟩=some v:=h.cell hc hE
theorem cell_same {w w':World}{b:Nat}(o:Nat)(h:w'.heap[b]?=w.heap[b]?):w'.cell? ⟨b,o,none⟩=w.cell? ⟨b,o,none⟩:=by simp[World.cell?,h]
theorem BG.same {w w':World}{R:Nat}{its:List Item}{el ec:Nat}(h:BG w R its el ec)(hs:w.heap.size≤w'.heap.size)(hb:∀b,b≤R→w'.heap[b]?=w.heap[b]?):BG w' R its el ec:=by
 obtain⟨p,c,h1,h2,h3,h4⟩:=h.ex;refine⟨p,c,(hb R (Nat.le_refl _)).trans h1,fun i hi=>?_,h3,h4⟩;obtain⟨g,o,hp,q1,q2,q3,q4,q5⟩:=h2 i hi;have hg:=hb g (Nat.le_of_lt (h3 _ hp));exact⟨g,o,hp,(cell_same _ hg).trans q1,(cell_same _ hg).trans q2,(cell_same _ hg).trans q3,(cell_same _ hg).trans q4,(cell_same _ hg).trans q5⟩
theorem CB.same {w w':World}{S:Nat→Prop}{p:Option Addr}{i:Nat}{l:List Ex}(h:CB w S p i l)(hb:∀b,S b→w'.heap[b]?=w.heap[b]?):CB w' S p i l:=
 h.keepS fun b o _ hS hc=>⟨(cell_same o (hb b hS)).trans hc,hS⟩
section
variable {P : Program}{w0 : World}{M : Nat→Prop}{o : Oper}{a : Act}{av ea : List Nat}{F : Nat→World→Prop}{Fp : Nat→Nat→Prop}
def sTwo (T:TypeId):Loud:={ val:=fun _ g=>.slice (some ⟨g.b,0,none⟩) 2 2,fp:=fun _ g k=>k=g.b,post:=fun args g w=>∀vs us,args.getD 0 undef=.agg vs→args.getD 1 undef=.agg us→w.heap[g.b]?=some (.cells (vs++us) T (0,0)) }
theorem loud_two (T ty:TypeId)(x y:Operand)(ho:o.op=.buildSlice ty 2 #[(0,x),(1,y)])(vs us:Array Value)(hx:a.eval x=.agg vs)(hy:a.eval y=.agg us)
  (hrun:∀w,(execOp a.eval o).run P w=.ok (.value (.slice (some ⟨w.heap.size,0,none⟩) 2 2)) (w.alloc (.cells (vs++us) T))):CU P w0 M o a (sTwo T) av ea F Fp:=by
 refine BY ⟨default,trivial⟩ (fun g _ w w' _ _ _ h k vs us e1 e2=>(h g.b rfl).trans (k vs us e1 e2)) fun w _ _ _=>?_;refine⟨_,{ b:=w.heap.size },trivial,.inl (hrun w),BA.alloc _ _ _,fun b hb=>?_,fun vs' us' e1 e2=>?_⟩
 ·have e:b=w.heap.size:=hb;subst e;exact⟨.inl (Nat.le_refl _),by rw[World.size_alloc];omega⟩
 ·have a0:(BM o a).getD 0 undef=.agg vs:=by simp[BM,ho,Op.operands,hx]
  have a1:(BM o a).getD 1 undef=.agg us:=by simp[BM,ho,Op.operands,hy]
  rw[a0]at e1;rw[a1]at e2
  cases e1;cases e2;exact heap_alloc_new w _
end
theorem two_args0 {o:Oper}{a:Act}{ty:TypeId}{x y:Operand}{v:Value}(ho:o.op=.buildSlice ty 2 #[(0,x),(1,y)])(hx:a.eval x=v):(BM o a).getD 0 undef=v:=by simp[BM,ho,Op.operands,hx]
theorem two_args1 {o:Oper}{a:Act}{ty:TypeId}{x y:Operand}{v:Value}(ho:o.op=.buildSlice ty 2 #[(0,x),(1,y)])(hy:a.eval y=v):(BM o a).getD 1 undef=v:=by simp[BM,ho,Op.operands,hy]
theorem row_any (g:Nat)(fst cap args:Array Value)(eg:∀args w,(callFunc g args).run Tryz.prog w=.ok (.enter g args) w)(nx:List Item→Option (Ex×List Item))(hdec:∀its x r,nx its=some (x,r)→r.length≤its.length)(w:World)(R el ec:Nat)
  (hN:Reads g args nx w R el ec) (ha:fst++cap=args) (its:List Item) (h:BG w R its el ec) (p:Option Addr) (c:Nat) (ops:List Nat) (hp:Rd w p (ints (opsI ops))) (hpR:∀a,p=some a→a.block≠R) (hl:∀op∈ops,op<14) (hlen:ops.length≤100)
  (x:Ex) (r:List Item) (hx:rowN nx ops its=some (x,r)):
  Calls Tryz.prog 116 #[rdV R,.func (.func g) fst cap,.slice p ops.length c] w fun e w'=>∃vs,e=.returned (.agg vs.toArray)∧ExAt w' (fun b=>w.heap.size≤b) vs x∧BG w' R r el ec∧BA (fun b=>b=R) w w':=by
 obtain⟨V1,B3,hV1,hB3,hb3,hk1,hs1⟩:=BD w (.cells #[rdV R] 101);obtain⟨V2,B6,hV2,hB6,hb6,hk2,hs2⟩:=BD V1 (.cells #[.int .i64 0,.int .i64 0,.int .i64 0,.string ⟨#[]⟩,.slice none 0 0,.int .i64 0,.int .i64 0] TEx);have h36:B3+1=B6:=by omega
 have HN3:=hid (show w.heap.size≤B3∧B3<B6∧B6<V2.heap.size∧R<w.heap.size from⟨by omega,by omega,by omega,h.lt⟩);have HK:=hid (hk1.trans hk2);have HB3:=hid (hk2.blk hb3);have HB6:=hid hb6;have HNX:=hid hN;have HRD:=hid (h.keep HK.out fun _ _ e=>e);have HP:=hid hp;have HPR:=hid hpR;have HL:=hid hl;have hS:=fun W=>signs_any W;unfold signsV at hS;have HS:=hid hS;have HDEC:=hid hdec;unfold rowN at hx
 cases hn:nx its with
 |none=>rw[hn]at hx;cases hx
 |some xr=>
 obtain⟨x0,r0⟩:=xr;rw[hn]at hx;have HX:=hid hx;have HNE:=hid hn;clear hb3 hb6 hk1 hk2 hs1 hs2 hN h hp hpR hx hl hS hdec hn;go_enter Tryz.func116,Tryz.ntmps116;go_upto_region 1 with fail;rw[←hV1,←hB3,←hV2,h36];clear hV1 hB3 hV2 hB6 h36;go_upto_region 2 with (go_at_call 125;refine(HS.out _).mono ?_;rintro e w1 ⟨rfl,hk⟩);obtain⟨V3,B7,hV3,hB7,hb7,hk3,hs3⟩:=BD w1 (.cells signsV TSg);have HB7:=hid hb7;have HK3:=hid (hk.trans hk3);have HN7:=hid (show B6<B7∧B7<V3.heap.size by have h1:=hk.size;have h2:=HN3.out;omega);unfold signsV at hV3;rw[←hV3,←hB7];clear hV3 hB7 hb7 hk3 hs3 hk;go_wp2_with fail;have HKV:=hid (show BA (fun b=>b=R) w V3 from(HK.out.trans HK3.out).mono fun _ e=>e.elim);refine(HNX.out V3 its x0 r0 HKV.out (HRD.out.keep HK3.out fun _ _ e=>e) HNE.out).mono ?_;rintro e w2 ⟨vs,rfl,hex,hr,hk⟩;have HKQ:=hid hk;obtain⟨k0,o0,n0,nm0,l0,c0,kids0⟩:=x0;have hex2:=hex;unfold ExAt at hex2;obtain⟨pk,ck,hvs,-⟩:=hex2;obtain⟨S0,hS0⟩:∃S,strV nm0=.string S:=⟨_,rfl⟩;rw[hS0]at hvs;obtain⟨W2,B8,hW2,hB8,hb8,hk8,hs8⟩:=BD w2 (.cells #[.int .i64 k0,.int .i64 o0,.int .i64 n0,.string S0,.slice pk kids0.length ck,.int .i64 l0,.int .i64 c0] TEx);have HN8:=hid (show B7<B8 by have h1:=hk.size;have h2:=HN7.out;omega)
 have HAT:=hid (show RowAt nx ops x r w W2 R el ec B3 B6 B7 B8 (.mk k0 o0 n0 nm0 l0 c0 kids0) r0 from by
  have hn3:=HN3.out;have hn7:=HN7.out;have hv:=HKV.out.size;refine⟨⟨_,HX.out⟩,hr.keep hk8 fun _ _ e=>e,hk8.blk (hk.blkE (HK3.out.blk HB3.out) fun e=>by have e:B3=R:=e;omega),hk8.blk (hk.blkE (HK3.out.blk HB6.out) fun e=>by have e:B6=R:=e;omega),hk8.blk (hk.blkE HB7.out fun e=>by have e:B7=R:=e;omega),⟨_,?_,((hex.inHeap).keep hk8 fun _ _ e=>e).mono fun b hb=>⟨by have:=hb.1;have:=hn7.2;omega,by have:=hb.2;omega⟩⟩,(HKV.out.trans hk).newM hk8 fun _ e=>e.elim⟩;rw[hvs];exact hb8)
 subst hvs;clear hex hr hk hb8 hk8 hs8 HX HNE hS0;simp only[];go_wp2_with fail;rw[←hW2,←hB8];clear hW2 hB8;go_loopw [10] (fun v10 wr=>∃(y:Ex) (ts:List Item),RowAt nx ops x r w wr R el ec B3 B6 B7 B8 y ts) (fun _ wr=>leftOf R wr)
 case atStart=>exact⟨_,_,HAT.out⟩
 case round=>
  clear HAT;obtain⟨y,ts,hat⟩:=hrel;have HAT:=hid hat
  have hn3:=HN3.out;have hn7:=HN7.out;have hn8:=HN8.out;have hks:=HKV.out.size;have HNB:=hid (show R<B3∧B3<B6∧B6<B7∧B7<B8∧w.heap.size≤B3 by omega);clear hn3 hn7 hn8 hks;have b3:=BH (k:=0) hat.b3 rfl;have HPK:=hid (peek_any wr R ts el ec hat.rd);obtain⟨tk,tn,tl,tc,S9,hpv⟩:=peekV_form ts el ec;rw[hpv]at HPK;have HPV:=hid hpv;clear hat hpv;go_wp2_with fail;go_at_call 79;refine HPK.out.mono ?_;rintro e w4 ⟨rfl,hk⟩;obtain⟨W5,B9,hW5,hB9,hb9,hk9,hs9⟩:=BD w4 (.cells #[.int .i64 tk,.string S9,.int .i64 tn,.int .i64 tl,.int .i64 tc] TTk);have HAT5:=hid (HAT.out.stay (hk.trans hk9));have HB9:=hid hb9
  have HN9:=hid (show B8<B9 by
   obtain⟨vs,h1,-⟩:=HAT.out.b8;have h2:=(AG.1 h1).1;have h3:=hk.size;omega)
  have HLF:=hid (leftOf_at HAT.out.rd);have HIX:=hid (idxOps_any W5 B3 B7 R ⟨HAT5.out.b3,HAT5.out.b7⟩ ts el ec HAT5.out.rd p c ops (HP.out.keep HAT5.out.keep fun a ha e=>HPR.out a ha e) HL.out hlen);unfold rowF at HIX;clear hk hk9 hs9 hb9 b3;go_upto_region 4 with fail;rw[←hW5,←hB9];clear hW5 hB9;go_wp2_with fail;go_at_call 126;refine HIX.out.mono ?_;rintro e w6 ⟨hor,hk6⟩;have HAT6:=hid (HAT5.out.stay hk6);have HB96:=hid (hk6.blk HB9.out);obtain⟨f,hf⟩:=HAT.out.go
  obtain⟨f,rfl⟩:∃f',f=f'+1:=by
   cases f with
   |zero=>cases hf
   |succ f=>exact⟨f,rfl⟩
  unfold rowL at hf;clear hk6;rcases hor with⟨k,hk,rfl,hop⟩|⟨rfl,hop⟩
  ·rw[hop]at hf
   cases ts with
   |nil=>cases hf
   |cons t r1=>
   dsimp only at hf
   cases hn2:nx r1 with
   |none=>rw[hn2]at hf;cases hf
   |some yr=>
   obtain⟨y2,r2⟩:=yr;rw[hn2]at hf;dsimp only at hf;have HGO:=hid hf;have HNX2:=hid hn2
   have HTL:=hid (show tl=t.line∧tc=t.col by
    have h9:=HPV.out;unfold peekV at h9;simp only[Value.agg.injEq,Array.mk.injEq,List.cons.injEq,Value.int.injEq,true_and]at h9;exact⟨h9.2.2.2.1.symm,h9.2.2.2.2.1.symm⟩)
   obtain⟨g1,o1,c1,h1,h2,⟨h3,hg⟩,htk⟩:=HAT6.out.rd.took2;have HTK:=hid htk;have HG:=hid hg;have H23:=hid (And.intro h2 h3);have HRO:=hid h1;obtain⟨b0,-,-,-,-,-,f0⟩:=blk6 h1;have b3:=BH (k:=0) HAT6.out.b3 rfl;clear hf hn2 h1 htk hg h3 hop;obtain⟨q1,hq1⟩:∃q:Option Addr,q=if c1=1 then some ⟨g1,o1,none⟩ else some ⟨g1,o1+5,none⟩:=⟨_,rfl⟩
   have HR7:=hid (fun w'=>HTK.out w' q1 (c1 - 1) (by
    by_cases e:c1=1
    ·exact .inl (List.eq_nil_of_length_eq_zero (by omega))
    ·rw[hq1,if_neg e];exact .inr rfl) (fun a ha=>by
     have hg:=HG.out;rw[hq1]at ha;split at ha
     ·cases ha;exact hg
     ·cases ha;exact hg) (by omega) (by have:=H23.out;omega))
   have hl1:(1:Int)≤(r1.length:Int)+1:=by omega
   go_upto_region 7 with fail;have z3:∀w',BA (fun k=>k=R) w6.drew w'→w'.cell? ⟨B3,0,none⟩=some (rdV R):=fun w' h=>keep_cell' ((BA.drew _ w6).trans h) b3 (by have:=HNB.out;omega);clear b3 b0 f0 h2
   refine wp_own1 (by kernel_rfl) R _ HRO.out DL5 (fun i=>if i=4 then [9] else if i=8 then [9] else []) (fun i=>if i=8 then [9] else []) [8] (by kernel_rfl)
    (fun i=>if i=4 then some (BN (.slice (some ⟨g1,o1,none⟩) (r1.length+1) c1)) else if i=8 then some (sCell R 0 TRd #[.slice (some ⟨g1,o1,none⟩) (r1.length+1) c1,.int .i64 0,.string ⟨#[]⟩,.int .i64 0,.int .i64 el,.int .i64 ec] (.slice (if c1=1 then some ⟨g1,o1,none⟩ else some ⟨g1,o1+5,none⟩) r1.length (c1 - 1))) else none) ?_
   repeat refine BC rfl rfl (fun w' hk=>by go_simp;with_reducible rfl) ?_;simp only[Act.put,LS]
   refine BE rfl rfl (BY ⟨default,trivial⟩ (fun g _ w w' _ _ _ _ _=>trivial) fun w' hk hav _=>by
    have hx:w'.cell? ⟨R,0,none⟩=some (.slice (some ⟨g1,o1,none⟩) (r1.length+1) c1):=BH (show w'.heap[R]?=some (.cells #[.slice (some ⟨g1,o1,none⟩) (r1.length+1) c1,.int .i64 0,.string ⟨#[]⟩,.int .i64 0,.int .i64 el,.int .i64 ec] TRd (0,0)) from(hav 9 (by decide)).1) rfl;exact⟨w',default,trivial,.inl (by go_simp<;>rfl),BA.refl _ _,fun b h=>h.elim,trivial⟩) fun _ _=>?_
   simp only[BN,Act.put,LS]
   repeat refine BC rfl rfl (fun w' hk=>by go_simp;with_reducible rfl) ?_;simp only[Act.put,LS]
   refine BE rfl rfl (DW R 0 TRd _ _ (fun w u hc hf=>by go_simp<;>rfl) 9 (by decide) (by decide) (fun w h=>h) ⟨rfl,rfl⟩ (by show 0<6;decide)) fun g8 _=>?_;simp only[sCell,Act.put];refine BP ?_;intro w7 hk7 hF _;have hkM:=(BA.drew (fun k=>k=R) w6).trans hk7;have f8:w7.heap[R]?=some (.cells #[.slice (if c1=1 then some ⟨g1,o1,none⟩ else some ⟨g1,o1+5,none⟩) r1.length (c1 - 1),.int .i64 0,.string ⟨#[]⟩,.int .i64 0,.int .i64 el,.int .i64 ec] TRd (0,0)):=(hF 8 (by decide)).1;rw[←hq1]at f8;have HRD7:=hid (HR7.out w7 hkM f8);have HKM:=hid hkM;have hkM7:=hkM;clear z3 hk7 hF hkM f8 hq1 hl1;have hkw:=HAT6.out.keep.trans hkM7;go_upto_region 8 with fail;have hnb:=HNB.out;have hn9:=HN9.out;obtain⟨pq,cq,hro,-,-,-⟩:=HRD7.out.ex;obtain⟨vs,hb8,hex⟩:=HAT6.out.b8;have hb8:=HKM.out.blkE hb8 fun e=>by have e:B8=R:=e;omega
   have hex:=hex.keep HKM.out fun b hb e=>by have e:b=R:=e;omega
   obtain⟨yk,yo,yn,ym,yl,yc,yks⟩:=y;have hexu:=hex;unfold ExAt at hexu;obtain⟨pk2,ck2,hvs,-⟩:=hexu;obtain⟨S2,hS2⟩:∃S,strV ym=.string S:=⟨_,rfl⟩;rw[hS2]at hvs;subst hvs;have HEX:=hid hex;obtain⟨zk,zo,zn,zm,zl,zc,zks⟩:=y2;obtain⟨S3,hS3⟩:∃S,strV zm=.string S:=⟨_,rfl⟩;have HS3:=hid hS3;have hrp:=HP.out.keep hkw fun a ha e=>HPR.out a ha e;have hol:(opsI ops).length=ops.length:=by simp[opsI]
   obtain⟨bp,op,hpp,-⟩:=hrp.ptr (by rw[ints_length,hol];omega);have hPB:=HPR.out _ hpp;subst hpp;have hcp:=hrp.int k (by rw[hol];exact hk);rw[show nth (opsI ops) k=(ops[k]:Int) by simp[nth,opsI,List.getD,hk]]at hcp;obtain⟨on,hon⟩:∃n,ops[k]=n:=⟨_,rfl⟩;have HON:=hid hon;rw[hon]at hcp
   have hbp:bp<w.heap.size:=by
    obtain⟨b',o',e,h⟩:=HP.out 0 _ (show (ints (opsI ops))[0]?=some _ from List.getElem?_eq_getElem (by rw[ints_length,hol];omega))
    cases e;exact World.block_lt_of_cell? w _ h
   have HB97:=HKM.out.blkE HB96.out fun e=>by have e:B9=R:=e;omega
   obtain⟨-,-,-,t3,t4,-⟩:=blk5 HB97;have STM:=fun (gg oo:Nat) (u:Value) (hc:w7.cell? ⟨gg,oo,none⟩=some u) (e1:gg≠R) (e2:gg≠B8) (w':World) (hk:BA (fun b=>b=R∨b=B8) w7.drew w')=>keep_cell' ((BA.drew _ w7).trans hk) hc (fun e=>e.elim e1 e2);have zp:=STM _ _ _ hcp hPB (by omega);have z3:=STM _ _ _ t3 (by omega) (by omega);have z4:=STM _ _ _ t4 (by omega) (by omega);have hki:(k:Int)<ops.length:=by omega
   have hk0:(0:Int)≤k:=by omega
   have HR1:=hid (show ∀w',BA (fun b=>b=R∨b=B8) w7.drew w'→w'.heap[R]?=some (.cells #[.slice pq r1.length cq,.int .i64 0,.string ⟨#[]⟩,.int .i64 0,.int .i64 el,.int .i64 ec] TRd (0,0))→BG w' R r1 el ec from fun w' hk hr=>HRD7.out.same (Nat.le_trans (BA.drew (fun _=>False) w7).size hk.size) fun b hb=>by
    by_cases e:b=R
    ·rw[e,hr,hro]
    ·exact(((BA.drew (fun b=>b=R∨b=B8) w7).trans hk).block b (by have:=HRD7.out.lt;omega) (fun h=>by omega)))
   have HKW:=hid (show ∀w',BA (fun b=>b=R∨b=B8) w7.drew w'→BA (fun b=>b=R) w w' from fun w' hk=>hkw.newM ((BA.drew _ w7).trans hk) fun b hb=>hb.imp id fun e=>by omega);have HRO2:=hid hro;have HB82:=hid hb8;have HN2:=hid hnb;clear STM t3 t4 hcp HB97 hbp hPB hol hrp hon hS2 hS3 hex hro hb8 hkw hkM7 hn9 hnb
   refine wp_ownB (by kernel_rfl) R B8 _ _ HRO2.out HB82.out (by have:=HN2.out;omega) DL6 (fun i=>if i=4 then [15] else if i=6 then [14] else if i=13 then [15] else []) (fun i=>if i=6 then [14] else if i=13 then [15] else []) [6,7,13] (by kernel_rfl)
    (fun i=>if i=4 then some (BN (.agg #[.int .i64 yk,.int .i64 yo,.int .i64 yn,.string S2,.slice pk2 yks.length ck2,.int .i64 yl,.int .i64 yc])) else if i=6 then some { ok:=fun _ g=>w7.heap.size≤g.b,val:=fun _ g=>.agg #[.int .i64 zk,.int .i64 zo,.int .i64 zn,.string S3,.slice g.p zks.length g.c,.int .i64 zl,.int .i64 zc],fp:=fun _ g b=>b=R∨(g.b≤b∧b<g.d),post:=fun _ g w'=>CB w' (fun b=>g.b≤b∧b<g.d) g.p 0 zks∧BG w' R r2 el ec }
     else if i=7 then some (sTwo TEx) else if i=13 then some (sPut B8 TEx) else none) ?_
   repeat refine BC rfl rfl (fun w' hk=>by go_simp;with_reducible rfl) ?_;simp only[Act.put,LS]
   refine BE rfl rfl (BY ⟨default,trivial⟩ (fun g _ w w' _ _ _ _ _=>trivial) fun w' hk hav _=>by
    obtain⟨x0,x1,x2,x3,x4,x5,x6,-⟩:=blk7 (show w'.heap[B8]?=some (.cells #[.int .i64 yk,.int .i64 yo,.int .i64 yn,.string S2,.slice pk2 yks.length ck2,.int .i64 yl,.int .i64 yc] TEx (0,0)) from(hav 15 (by decide)).1);exact⟨w',default,trivial,.inl (by go_simp<;>rfl),BA.refl _ _,fun b h=>h.elim,trivial⟩) fun _ _=>?_
   simp only[BN,Act.put,LS];apply BC rfl rfl
   ·intro w' hk;go_simp;with_reducible rfl
   simp only[Act.put,LS]
   refine BE rfl rfl (BR g args (fun w=>by go_simp) ⟨{ b:=w7.heap.size },Nat.le_refl _⟩ (fun g hg w w' h1 h2 hs hb hp=>⟨hp.1.same fun b hb'=>hb b (.inr hb'),hp.2.same hs fun b hb'=>by
     by_cases e:b=R
     ·exact hb b (.inl e)
     ·have:=HN2.out;have:=HRD7.out.lt;rw[h1.block b (by show b<w7.heap.size;omega) (fun h=>by omega),h2.block b (by show b<w7.heap.size;omega) (fun h=>by omega)]⟩) fun w' hk hav _=>(HNX.out w' r1 _ r2 (HKW.out w' hk) (HR1.out w' hk (hav 14 (by decide)).1) HNX2.out).mono ?_) fun g6 hg6=>?_
   ·rintro e w'' ⟨vs2,rfl,hex2,hr2,hk2⟩;have hex3:=hex2.inHeap;unfold ExAt at hex3;obtain⟨p2,cc2,hvs2,hkids⟩:=hex3;rw[HS3.out]at hvs2;subst hvs2
    exact⟨{ p:=p2,c:=cc2,b:=w'.heap.size,d:=w''.heap.size },hk.size,rfl,hk2.mono fun b e=>⟨14,by decide,.inl ⟨rfl,e⟩⟩,fun b hb=>by
     rcases hb with e|hb
     ·exact⟨.inr ⟨14,by decide,.inl ⟨rfl,e⟩⟩,by rw[e];exact hr2.lt⟩
     ·exact⟨.inl hb.1,hb.2⟩,hkids,hr2⟩
   simp only[Act.put,LS];refine BE rfl rfl (loud_two TEx 62 (.tmp 34) (.tmp 36) rfl #[.int .i64 yk,.int .i64 yo,.int .i64 yn,.string S2,.slice pk2 yks.length ck2,.int .i64 yl,.int .i64 yc] #[.int .i64 zk,.int .i64 zo,.int .i64 zn,.string S3,.slice g6.p zks.length g6.c,.int .i64 zl,.int .i64 zc] rfl rfl (fun w=>by go_simp)) fun g7 _=>?_;simp only[sTwo,Act.put,LS]
   repeat refine BC rfl rfl (fun w' hk=>by go_simp;with_reducible rfl) ?_;simp only[Act.put,LS]
   refine BE rfl rfl (loud_put B8 TEx TEx #[.int .i64 5,.int .i64 on,.int .i64 0,.string ⟨#[]⟩,.slice (some ⟨g7.b,0,none⟩) 2 2,.int .i64 tl,.int .i64 tc] _ (.tmp 8) (.tmp 42) rfl rfl rfl 15 (by decide) (by decide) (fun w h=>h) (.inr ⟨rfl,rfl⟩) rfl (by kernel_rfl) (by simp[Value.oneCell'])) fun g13 _=>?_;simp only[sPut,Act.put];refine BP ?_;intro w9 hk9 hF hdis;have f6:CB w9 (fun b=>g6.b≤b∧b<g6.d) g6.p 0 zks∧BG w9 R r2 el ec:=(hF 6 (by decide)).1;have f7:w9.heap[g7.b]?=some (.cells (#[.int .i64 yk,.int .i64 yo,.int .i64 yn,.string S2,.slice pk2 yks.length ck2,.int .i64 yl,.int .i64 yc]++#[.int .i64 zk,.int .i64 zo,.int .i64 zn,.string S3,.slice g6.p zks.length g6.c,.int .i64 zl,.int .i64 zc]) TEx (0,0)):=(hF 7 (by decide)).1 _ _ (two_args0 rfl rfl) (two_args1 rfl rfl);have f13:w9.heap[B8]?=some (.cells #[.int .i64 5,.int .i64 on,.int .i64 0,.string ⟨#[]⟩,.slice (some ⟨g7.b,0,none⟩) 2 2,.int .i64 tl,.int .i64 tc] TEx (0,0)):=(hF 13 (by decide)).1 _ (BV rfl rfl);have hg6':w7.heap.size≤g6.b:=hg6;have d7R:g7.b≠R:=fun e=>hdis 6 (by decide) 7 (by decide) (by decide) R (.inl rfl) e.symm;have d7B:g7.b≠B8:=fun e=>hdis 7 (by decide) 13 (by decide) (by decide) B8 e.symm rfl;have b7:w7.heap.size≤g7.b:=((hF 7 (by decide)).2 g7.b rfl).2.resolve_right fun h=>h.elim d7R d7B;have hn2:=HN2.out;have hB8lt:B8<w7.heap.size:=(AG.1 HB82.out).1;have hkM9:=(BA.drew (fun b=>b=R∨b=B8) w7).trans hk9;have hnoM:∀b,b≠R→b≠B8→¬(b=R∨b=B8):=fun b e1 e2 e=>e.elim e1 e2
   have HAT9:=hid (show RowAt nx ops x r w w9 R el ec B3 B6 B7 B8 (.mk 5 on 0 [] t.line t.col [.mk yk yo yn ym yl yc yks,.mk zk zo zn zm zl zc zks]) r2 from by
    refine⟨⟨f,by rw[←HON.out];exact HGO.out⟩,f6.2,hkM9.blkE (HKM.out.blkE HAT6.out.b3 fun e=>by have e:B3=R:=e;omega) (hnoM _ (by omega) (by omega)),hkM9.blkE (HKM.out.blkE HAT6.out.b6 fun e=>by have e:B6=R:=e;omega) (hnoM _ (by omega) (by omega)),hkM9.blkE (HKM.out.blkE HAT6.out.b7 fun e=>by have e:B7=R:=e;omega) (hnoM _ (by omega) (by omega)),⟨[.int .i64 5,.int .i64 on,.int .i64 0,.string ⟨#[]⟩,.slice (some ⟨g7.b,0,none⟩) 2 2,.int .i64 tl,.int .i64 tc],f13,?_⟩,HKW.out w9 hk9⟩;unfold ExAt;refine⟨some ⟨g7.b,0,none⟩,2,by rw[HTL.out.1,HTL.out.2];rfl,kids_two (vs:=[.int .i64 yk,.int .i64 yo,.int .i64 yn,.string S2,.slice pk2 yks.length ck2,.int .i64 yl,.int .i64 yc]) (us:=[.int .i64 zk,.int .i64 zo,.int .i64 zn,.string S3,.slice g6.p zks.length g6.c,.int .i64 zl,.int .i64 zc]) f7 ⟨by omega,d7B⟩ rfl (HEX.out.keep hkM9 fun b hb=>hnoM b (by omega) hb.2) ?_⟩;unfold ExAt;exact⟨g6.p,g6.c,by rw[HS3.out],f6.1.mono fun b hb=>⟨by omega,by omega⟩⟩)
   have HLT:=hid (show leftOf R w9<leftOf R wr by
    rw[leftOf_at f6.2,HLF.out,LC];have:=HDEC.out r1 _ r2 HNX2.out;omega)
   clear zp z3 z4 hk9 hF hdis f6 f7 f13 hg6' d7R d7B b7 hn2 hB8lt hkM9 hnoM;go_wp2_with fail;exact⟨⟨_,_,HAT9.out⟩,HLT.out⟩
  ·rw[hop]at hf;have hf2:=Option.some.inj hf;obtain⟨rfl,rfl⟩:=Prod.mk.inj hf2;obtain⟨vs,hb8,hex⟩:=HAT6.out.b8;obtain⟨yk,yo,yn,ym,yl,yc,yks⟩:=y;have hex2:=hex;unfold ExAt at hex2;obtain⟨pk2,ck2,hvs,-⟩:=hex2;obtain⟨S2,hS2⟩:∃S,strV ym=.string S:=⟨_,rfl⟩;rw[hS2]at hvs;subst hvs;obtain⟨x0,x1,x2,x3,x4,x5,x6,-⟩:=blk7 hb8;obtain⟨m0,m1,m2,m3,m4,m5,m6,f0,f1,f2,f3,f4,f5,f6⟩:=blk7 HAT6.out.b6;have HEX:=hid hex;clear hf hf2 hop hb8 hex hS2;go_wp2_with fail;obtain⟨wf,hwf,hp,hkp⟩:=put7 HAT6.out.b6 (.int .i64 yk) (.int .i64 yo) (.int .i64 yn) (.string S2) (.slice pk2 yks.length ck2) (.int .i64 yl) (.int .i64 yc);rw[←hwf];obtain⟨c0,c1,c2,c3,c4,c5,c6,-⟩:=blk7 hp;have hnb:=HNB.out;refine bodyPost_ret (v:=.agg #[.int .i64 yk,.int .i64 yo,.int .i64 yn,.string S2,.slice pk2 yks.length ck2,.int .i64 yl,.int .i64 yc]) (by simp[results,Tryz.results116,go_sem,c0,c1,c2,c3,c4,c5,c6]) rfl ⟨[.int .i64 yk,.int .i64 yo,.int .i64 yn,.string S2,.slice pk2 yks.length ck2,.int .i64 yl,.int .i64 yc],rfl,?_,HAT6.out.rd.keep hkp fun b hb e=>by have e:b=B6:=e;omega,HAT6.out.keep.newE hkp fun b e=>by have e:b=B6:=e;omega⟩;exact(HEX.out.keep hkp fun b hb e=>by have e:b=B6:=e;omega).mono fun b hb=>by omega
end Go.Proofs.YtknnmidnodeanaaGreatDoor
