import Derived.Test.YtknnmidnodeanaaGreatDoorJu30
set_option maxHeartbeats 16000000
namespace Go.Proofs.YtknnmidnodeanaaGreatDoor
open Go Go.RowKit Own
open Go.Lib (hid)
abbrev fltC (er li co:Int):List PanicEntry:=[{ v:=fltV er li co,recovered:=false }]
theorem bad_any (w:World)(R:Nat)(its:List Item)(el ec:Nat)(h:BG w R its el ec)(k n l c:Int)(S:ByteArray)(hp:peekV its el ec=.agg #[.int .i64 k,.string S,.int .i64 n,.int .i64 l,.int .i64 c]):
  Calls Tryz.prog 96 #[rdV R] w fun e w'=>e=.panicked (fltC 9 l c)∧BA (fun _=>False) w w':=by
 have HP:=hid (peek_any w R its el ec h);rw[hp]at HP;clear h hp;simp only[fltC,fltV,TFt];go_enter Tryz.func96,Tryz.ntmps96;go_wp2_with fail;go_at_call 79;refine HP.out.mono ?_;rintro e w1 ⟨rfl,hk⟩;obtain⟨V,B,hV,hB,hb,hk1,hs⟩:=BD w1 (.cells #[.int .i64 k,.string S,.int .i64 n,.int .i64 l,.int .i64 c] TTk);have HK:=hid (hk.trans hk1);obtain⟨n0,n1,n2,n3,n4,-⟩:=blk5 hb;clear hk hk1 hb hs HP;go_upto_region 1 with fail;rw[←hV,←hB];clear hV hB;go_wp2_with fail;exact⟨rfl,rfl,HK.out⟩
theorem want_bad (w:World)(R:Nat)(its:List Item)(el ec:Nat)(h:BG w R its el ec)(k n l c:Int)(S:ByteArray)(hp:peekV its el ec=.agg #[.int .i64 k,.string S,.int .i64 n,.int .i64 l,.int .i64 c])(q:Int)(hq:k≠q):
  Calls Tryz.prog 78 #[rdV R,.int .i64 q] w fun e w'=>e=.panicked (fltC 9 l c)∧BA (fun _=>False) w w':=by
 obtain⟨V,B,hV,hB,hb,hk0,hs⟩:=BD w (.cells #[.int .i64 0,.string ⟨#[]⟩,.int .i64 0,.int .i64 0,.int .i64 0] TTk);have hR:=h.keep hk0 fun _ _ e=>e;have HP:=hid (peek_any V R its el ec hR);have HBD:=hid fun W (hk:BA (fun _=>False) V W)=>bad_any W R its el ec (hR.keep hk fun _ _ e=>e) k n l c S hp;rw[hp]at HP;have HK0:=hid hk0;have hqb:(k==q)=false:=by rw[BF];exact hq
 clear h hp hR hk0 hb hs;go_enter Tryz.func78,Tryz.ntmps78;go_upto_region 1 with fail;rw[←hV];clear hV hB;go_wp2_with fail;go_at_call 79;refine HP.out.mono ?_;rintro e w1 ⟨rfl,hk⟩;obtain⟨W,C,hW,hC,hc,hk1,hs⟩:=BD w1 (.cells #[.int .i64 k,.string S,.int .i64 n,.int .i64 l,.int .i64 c] TTk);have HK:=hid (hk.trans hk1);have HBD1:=hid (HBD.out W (hk.trans hk1));obtain⟨n0,n1,n2,n3,n4,-⟩:=blk5 hc;clear hk hk1 hc hs HP;go_upto_region 2 with fail;rw[←hW,←hC];clear hW hC;go_wp2_with fail;go_at_call 96;refine HBD1.out.mono ?_;rintro e w2 ⟨rfl,hk2⟩;have HK2:=hid ((HK0.out.trans HK.out).trans hk2);clear hk2;go_wp2_with fail;exact⟨rfl,rfl,HK2.out⟩
theorem name_bad (w:World)(R:Nat)(its:List Item)(el ec:Nat)(h:BG w R its el ec)(k n l c:Int)(S:ByteArray)(hp:peekV its el ec=.agg #[.int .i64 k,.string S,.int .i64 n,.int .i64 l,.int .i64 c])(hq:k≠2):
  Calls Tryz.prog 81 #[rdV R] w fun e w'=>e=.panicked (fltC 9 l c)∧BA (fun _=>False) w w':=by
 have HW:=hid (want_bad w R its el ec h k n l c S hp 2 hq);clear h hp hq;go_enter Tryz.func81,Tryz.ntmps81;go_wp2_with fail;go_at_call 78;refine HW.out.mono ?_;rintro e w1 ⟨rfl,hk⟩;have HK:=hid hk;clear hk;go_wp2_with fail;exact⟨rfl,rfl,HK.out⟩
abbrev CY (b:List Item)(el ec:Nat):List PanicEntry:=fltC 9 (lineOf b el) (colOf b ec)
theorem peekV_at (its:List Item)(el ec:Nat):∃k n S,peekV its el ec=.agg #[.int .i64 k,.string S,.int .i64 n,.int .i64 (lineOf its el),.int .i64 (colOf its ec)]∧(k:Int)=DJ its:=by
 cases its with
 |nil=>exact⟨0,0,_,rfl,rfl⟩
 |cons t r=>exact⟨t.tok.kind,t.tok.num,_,rfl,rfl⟩
theorem bad_at {w:World}{R:Nat}{its:List Item}{el ec:Nat}(h:BG w R its el ec):
  Calls Tryz.prog 96 #[rdV R] w fun e w'=>e=.panicked (CY its el ec)∧BA (fun b=>b=R) w w':=by
 obtain⟨k,n,S,hp,-⟩:=peekV_at its el ec;exact(bad_any w R its el ec h k n _ _ S hp).mono fun e w' h=>⟨h.1,h.2.mono fun _ e=>e.elim⟩
theorem want_at {w:World}{R:Nat}{its:List Item}{el ec k:Nat}{b:List Item}(h:BG w R its el ec)(hk:0<k)(hb:DI k its=.bad b):
  Calls Tryz.prog 78 #[rdV R,.int .i64 k] w fun e w'=>e=.panicked (CY b el ec)∧BA (fun b=>b=R) w w':=by
 obtain⟨q,n,S,hp,hq⟩:=peekV_at its el ec
 have e:b=its∧DJ its≠k:=by
  unfold DI at hb
  cases its with
  |nil=>cases hb;exact⟨rfl,fun e=>by have e:0=k:=e;omega⟩
  | cons t r=>
   dsimp only at hb;split at hb
   ·cases hb
   ·rename_i h9
    cases hb;exact⟨rfl,h9⟩
 obtain⟨rfl,hne⟩:=e;exact(want_bad w R b el ec h q n _ _ S hp k (by omega)).mono fun e w' h=>⟨h.1,h.2.mono fun _ e=>e.elim⟩
theorem name_at {w:World}{R:Nat}{its:List Item}{el ec:Nat}{b:List Item}(h:BG w R its el ec)(hb:DI 2 its=.bad b):
  Calls Tryz.prog 81 #[rdV R] w fun e w'=>e=.panicked (CY b el ec)∧BA (fun b=>b=R) w w':=by
 obtain⟨q,n,S,hp,hq⟩:=peekV_at its el ec
 have e:b=its∧DJ its≠2:=by
  unfold DI at hb
  cases its with
  |nil=>cases hb;exact⟨rfl,by decide⟩
  | cons t r=>
   dsimp only at hb;split at hb
   ·cases hb
   ·rename_i h9
    cases hb;exact⟨rfl,h9⟩
 obtain⟨rfl,hne⟩:=e;exact(name_bad w R b el ec h q n _ _ S hp (by omega)).mono fun e w' h=>⟨h.1,h.2.mono fun _ e=>e.elim⟩
theorem FB {k:Nat}{ts r:List Item}{t:Item}(h:DI k ts=.ok t r):ts=t::r∧t.tok.kind=k:=by
 unfold DI at h
 cases ts with
 |nil=>cases h
 | cons u l=>
  dsimp only at h;split at h
  ·rename_i hk;cases h;exact⟨rfl,hk⟩
  ·cases h
theorem name_ok {w:World}{R:Nat}{its r:List Item}{t:Item}{el ec:Nat}(h:BG w R its el ec)(hb:DI 2 its=.ok t r):
  Calls Tryz.prog 81 #[rdV R] w fun e w'=>e=.returned (.string ⟨t.tok.text.toArray⟩)∧BG w' R r el ec∧BA (fun b=>b=R) w w':=by
 obtain⟨rfl,hk⟩:=FB hb;exact name_str h hk
theorem want_ok {w:World}{R k:Nat}{its r:List Item}{t:Item}{el ec:Nat}(h:BG w R its el ec)(hb:DI k its=.ok t r):
  Calls Tryz.prog 78 #[rdV R,.int .i64 k] w fun e w'=>e=.returned (.agg #[.int .i64 t.tok.kind,.string ⟨t.tok.text.toArray⟩,.int .i64 t.tok.num,.int .i64 t.line,.int .i64 t.col])∧BG w' R r el ec∧BA (fun b=>b=R) w w':=by
 obtain⟨rfl,hk⟩:=FB hb;exact want_cons h k (by omega)
theorem must_bad (w:World)(R:Nat)(its:List Item)(el ec:Nat)(h:BG w R its el ec)(p:Option Addr)(c:Nat)(L:List (List UInt8))(hp:RowS w p L)(hpR:∀a,p=some a→a.block≠R)(hl:L.length≤1000)(b:List Item)(hm:CD L its=.bad b):
  Calls Tryz.prog 77 #[rdV R,.slice p L.length c] w fun e w'=>e=.panicked (CY b el ec)∧BA (fun b=>b=R) w w':=by
 have HR:=hid h;have HP:=hid hp;have HPR:=hid hpR;have HM:=hid hm;obtain⟨FL,hFL⟩:∃FL:List PanicEntry,FL=CY b el ec:=⟨_,rfl⟩;rw[←hFL];have HFL:=hid hFL;clear h hp hpR hm hFL;go_enter Tryz.func77,Tryz.ntmps77;go_wp2_with fail;go_loopw [8] (fun v8 wr=>∃(i:Nat) (its':List Item),v8=.int .i64 i∧i≤L.length∧CD (L.drop i) its'=.bad b∧BG wr R its' el ec∧BA (fun b=>b=R) w wr) (fun v _=>L.length - (intOf v).toNat)
 case atStart=>exact⟨0,its,rfl,Nat.zero_le _,HM.out,HR.out,BA.refl _ _⟩
 case round=>
  obtain⟨i,its',rfl,hi,hm,hr,hk⟩:=hrel;have HM:=hid hm;have HR:=hid hr;have HK:=hid hk;by_cases hlt:i<L.length
  ·have hlti:(i:Int)<L.length:=by omega
   have hi0:(0:Int)≤i:=by omega
   have hWi:IntKind.i64.wrap ((i:Int)+1)=(i:Int)+1:=IntWalk.i64_in _ (by omega);obtain⟨g,o,hp,hc⟩:=HP.out.keep hk HPR.out i hlt;have HMY:=hid (CA wr R its' el ec hr L[i]);subst hp;rw[List.drop_eq_getElem_cons hlt]at hm;obtain⟨s,hs⟩:∃s,L[i]=s:=⟨_,rfl⟩;rw[hs]at hm hc HMY;unfold CD at hm
   cases hh:BJ its' s with
   | false=>
    rw[hh,if_neg NT]at hm;rw[hh,if_neg NT]at HMY;have e:its'=b:=by cases hm;rfl
    subst e;clear hm hr hk hs hh;go_wp2_with fail;go_at_call 95;refine HMY.out.mono ?_;rintro e w1 ⟨rfl,hr,hk⟩;have HB:=hid (bad_at hr);rw[←HFL.out]at HB;have HK2:=hid (HK.out.trans hk);clear hr hk;go_wp2_with fail;go_at_call 96;refine HB.out.mono ?_;rintro e w2 ⟨rfl,hk⟩;have HK3:=hid (HK2.out.trans hk);clear hk;go_wp2_with fail;exact⟨rfl,rfl,HK3.out⟩
   | true=>
    rw[hh]at hm HMY;have HM2:=hid hm;clear hm hr hk hs hh;go_wp2_with (go_at_call 95;refine HMY.out.mono ?_;rintro e w1 ⟨rfl,hr,hk⟩;have HR2:=hid hr;have HK2:=hid hk;clear hr hk);exact⟨⟨i+1,its'.tail,by simp,by omega,HM2.out,HR2.out,HK.out.trans HK2.out⟩,by simp only[intOf];omega⟩
  ·exfalso
   have e:i=L.length:=by omega
   rw[e,List.drop_length]at hm;unfold CD at hm
   cases hm
theorem must_newB {w:World}{R:Nat}{its:List Item}{el ec:Nat}(h:BG w R its el ec)(L:List (List UInt8))(hl:L.length≤1000)(b:List Item)(hm:CD L its=.bad b):
  Calls Tryz.prog 77 #[rdV R,.slice (some ⟨w.heap.size,0,none⟩) L.length L.length] (w.alloc (.cells (L.map strV).toArray TStg)) fun e w'=>e=.panicked (CY b el ec)∧BA (fun b=>b=R) w w':=by
 have hk:=BA.alloc (fun _=>False) w (.cells (L.map strV).toArray TStg);have hR:=h.lt;refine(must_bad (w.alloc (.cells (L.map strV).toArray TStg)) R its el ec (h.keep hk fun _ _ e=>e) (some ⟨w.heap.size,0,none⟩) L.length L (fun i hi=>⟨w.heap.size,0,rfl,?_⟩) (fun a ha=>by cases ha;show w.heap.size≠R;omega) hl b hm).mono ?_
 ·rw[Nat.zero_add];exact BH (heap_alloc_new w _) (by simp[strV,hi])
 ·rintro e w' ⟨rfl,h2⟩;exact⟨rfl,(hk.mono fun _ e=>e.elim).trans h2⟩
theorem must1b {w:World}{R:Nat}{its:List Item}{el ec:Nat}(h:BG w R its el ec)(s:List UInt8)(b:List Item)(hm:CD [s] its=.bad b):
  Calls Tryz.prog 77 #[rdV R,.slice (some ⟨w.heap.size,0,none⟩) 1 1] (w.alloc (.cells #[.string ⟨s.toArray⟩] TStg)) fun e w'=>e=.panicked (CY b el ec)∧BA (fun b=>b=R) w w':=must_newB h [s] (by simp) b hm
theorem must2b {w:World}{R:Nat}{its:List Item}{el ec:Nat}(h:BG w R its el ec)(s t:List UInt8)(b:List Item)(hm:CD [s,t] its=.bad b):
  Calls Tryz.prog 77 #[rdV R,.slice (some ⟨w.heap.size,0,none⟩) 2 2] (w.alloc (.cells #[.string ⟨s.toArray⟩,.string ⟨t.toArray⟩] TStg)) fun e w'=>e=.panicked (CY b el ec)∧BA (fun b=>b=R) w w':=must_newB h [s,t] (by simp) b hm
theorem must1o {w:World}{R:Nat}{its:List Item}{el ec:Nat}(h:BG w R its el ec)(s:List UInt8)(r:List Item)(hm:CD [s] its=.ok () r):
  Calls Tryz.prog 77 #[rdV R,.slice (some ⟨w.heap.size,0,none⟩) 1 1] (w.alloc (.cells #[.string ⟨s.toArray⟩] TStg)) fun e w'=>e=.returned (.tuple #[])∧BG w' R r el ec∧BA (fun b=>b=R) w w':=must1 h s r (CW hm)
def Faults (g:Nat)(args:Array Value)(F:List Item→Option (List Item))(w0:World)(R el ec:Nat):Prop:=
 ∀w its b,BA (fun b=>b=R) w0 w→BG w R its el ec→F its=some b→Calls Tryz.prog g args w fun e w'=>e=.panicked (CY b el ec)∧BA (fun b=>b=R) w w'
def FD (F:List Item→Option (List Item))(R el ec:Nat):Prop:=∀w0,Faults 109 #[rdV R] F w0 R el ec
theorem exO_ok {f:Nat}{F:List Item→Option (List Item)}{its r:List Item}{x:Ex}(h:exO f F its=.ok x r):exP f its=some (x,r):=by
 unfold exO at h;split at h
 ·rename_i e;cases h;exact e
 ·split at h<;>cases h
theorem exO_bad {f:Nat}{F:List Item→Option (List Item)}{its b:List Item}(h:exO f F its=.bad b):F its=some b:=by
 unfold exO at h;split at h
 ·cases h
 ·split at h
  ·rename_i e;cases h;exact e
  ·cases h
theorem expr_ok {w:World}{R f:Nat}{F:List Item→Option (List Item)}{its r:List Item}{x:Ex}{el ec:Nat}(h:BG w R its el ec)(hx:exO f F its=.ok x r):
  Calls Tryz.prog 109 #[rdV R] w fun e w'=>∃vs,e=.returned (.agg vs.toArray)∧ExAt w' (fun b=>w.heap.size≤b) vs x∧BG w' R r el ec∧BA (fun b=>b=R) w w':=
 exP_reads R el ec f w w its x r (BA.refl _ _) h (exO_ok hx)
theorem expr_bad {w:World}{R f:Nat}{F:List Item→Option (List Item)}{its b:List Item}{el ec:Nat}(hF:FD F R el ec)(h:BG w R its el ec)(hx:exO f F its=.bad b):
  Calls Tryz.prog 109 #[rdV R] w fun e w'=>e=.panicked (CY b el ec)∧BA (fun b=>b=R) w w':=
 hF w w its b (BA.refl _ _) h (exO_bad hx)
def Gives (g:Nat)(args:Array Value)(R:Nat)(its:List Item)(el ec:Nat)(ch:List PanicEntry)(w0:World):Prop:=
 ∀w,BA (fun b=>b=R) w0 w→BG w R its el ec→Calls Tryz.prog g args w fun e w'=>e=.panicked ch∧BA (fun b=>b=R) w w'
theorem one_gives (R el ec:Nat)(its:List Item)(tk tn tl tc:Int)(S9:ByteArray)(hpv:peekV its el ec=.agg #[.int .i64 tk,.string S9,.int .i64 tn,.int .i64 tl,.int .i64 tc])
  (h1:BJ its [45]=false) (h2:BJ its [33]=false) (h3:BJ its [40]=false) (h4:tk≠3) (h5:tk≠2) (w0:World):Gives 117 #[rdV R] R its el ec (fltC 9 tl tc) w0:=by
 intro w _ hr;obtain⟨V1,B2,hV1,hB2,hb2,hk1,hs1⟩:=BD w (.cells #[.int .i64 0,.int .i64 0,.int .i64 0,.string ⟨#[]⟩,.slice none 0 0,.int .i64 0,.int .i64 0] TEx);have HPK:=hid (peek_any V1 R its el ec (hr.keep hk1 fun _ _ e=>e));have HPV:=hid hpv;rw[hpv]at HPK;have HR0:=hid hr;have HK1:=hid hk1;have HN1:=hid (show w.heap.size≤B2∧B2<V1.heap.size∧R<w.heap.size from⟨by omega,by omega,hr.lt⟩);have hkk:(tk==3)=false:=by rw[BF];exact h4
 have HNB:=hid fun W (h:BG W R its el ec)=>name_bad W R its el ec h tk tn tl tc S9 hpv h5;clear hr hb2 hk1 hs1 hpv h4 h5;simp only[fltC,fltV,TFt]at HNB ⊢;go_enter Tryz.func117,Tryz.ntmps117;go_upto_region 1 with fail;rw[←hV1,←hB2];clear hV1 hB2;go_wp2_with fail;go_at_call 79;refine HPK.out.mono ?_;rintro e w1 ⟨rfl,hkp⟩;obtain⟨V2,B3,hV2,hB3,hb3,hk2,hs2⟩:=BD w1 (.cells #[.int .i64 tk,.string S9,.int .i64 tn,.int .i64 tl,.int .i64 tc] TTk);obtain⟨V,B4,hV,hB4,hb4,hk3,hs3⟩:=BD V2 (.cells #[.int .i64 0,.int .i64 0,.int .i64 0,.string ⟨#[]⟩,.slice none 0 0,.int .i64 tl,.int .i64 tc] TEx);have hkV:=(hkp.trans hk2).trans hk3;have HB3:=hid (hk3.blk hb3);have HKV:=hid (show BA (fun b=>b=R) w V from(HK1.out.trans hkV).mono fun _ e=>e.elim);have HRV:=hid (HR0.out.keep (HK1.out.trans hkV) fun _ _ e=>e);have HNN:=hid (show w.heap.size≤B2∧B2<B3∧B3<B4∧B4<V.heap.size∧R<w.heap.size by have h1:=HN1.out;have h2:=hkp.size;omega);obtain⟨n0,n1,n2,n3,n4,-⟩:=blk5 hb3;clear hkp hk2 hk3 hkV hb3 hb4 hs2 hs3;go_upto_region 2 with fail;rw[←hV2,←hB3];clear hV2 hB3;go_upto_region 7 with fail;rw[←hV,←hB4];clear hV hB4 n0 n1 n2 n3 n4;have HM1:=hid (CA V R its el ec HRV.out [45]);rw[h1]at HM1;go_upto_region 10 with (go_at_call 95;refine HM1.out.mono ?_;rintro e wq1 ⟨rfl,hry,hky⟩);have HRV:=hid (show BG wq1 R its el ec from hry);have HKV:=hid (HKV.out.trans hky);have hnY:=HNN.out;have HB3:=hid (hky.blkE HB3.out fun e=>by have e:B3=R:=e;omega);clear hry hky hnY h1;have HM2:=hid (CA wq1 R its el ec HRV.out [33]);rw[h2]at HM2;go_upto_region 13 with (go_at_call 95;refine HM2.out.mono ?_;rintro e wq2 ⟨rfl,hry,hky⟩);have HRV:=hid (show BG wq2 R its el ec from hry);have HKV:=hid (HKV.out.trans hky);have hnY:=HNN.out;have HB3:=hid (hky.blkE HB3.out fun e=>by have e:B3=R:=e;omega);clear hry hky hnY h2;have HM3:=hid (CA wq2 R its el ec HRV.out [40]);rw[h3]at HM3;go_upto_region 16 with (go_at_call 95;refine HM3.out.mono ?_;rintro e wq3 ⟨rfl,hry,hky⟩);have HRV:=hid (show BG wq3 R its el ec from hry);have HKV:=hid (HKV.out.trans hky);have hnY:=HNN.out;have HB3:=hid (hky.blkE HB3.out fun e=>by have e:B3=R:=e;omega);clear hry hky hnY h3;have HNA:=hid (HNB.out wq3 HRV.out);obtain⟨b0,b1,b2,b3,b4,-⟩:=blk5 HB3.out;go_upto_region 3 with fail;clear b0 b1 b2 b3 b4 hkk;go_wp2_with fail;go_at_call 81;refine HNA.out.mono ?_;rintro e wn ⟨rfl,hk3⟩;have HKE:=hid (HKV.out.newM hk3 fun _ e=>e.elim);clear hk3;go_wp2_with fail;exact⟨rfl,rfl,HKE.out⟩
theorem row_gives (g:Nat)(fst cap args:Array Value)(eg:∀args w,(callFunc g args).run Tryz.prog w=.ok (.enter g args) w)(R el ec:Nat)(its:List Item)(ch:List PanicEntry)(ops:Value)(w:World)(hN:Gives g args R its el ec ch w)(ha:fst++cap=args)(h:BG w R its el ec):
  Calls Tryz.prog 116 #[rdV R,.func (.func g) fst cap,ops] w fun e w'=>e=.panicked ch∧BA (fun b=>b=R) w w':=by
 obtain⟨V1,B3,hV1,hB3,hb3,hk1,hs1⟩:=BD w (.cells #[rdV R] 101);obtain⟨V2,B6,hV2,hB6,hb6,hk2,hs2⟩:=BD V1 (.cells #[.int .i64 0,.int .i64 0,.int .i64 0,.string ⟨#[]⟩,.slice none 0 0,.int .i64 0,.int .i64 0] TEx);have HK12:=hid (hk1.trans hk2);have HSG:=hid (signs_any V2);have HR:=hid h;have HNX:=hid hN;have h36:B3+1=B6:=by omega
 clear h hN hb3 hb6 hk1 hk2 hs1 hs2;go_enter Tryz.func116,Tryz.ntmps116;go_upto_region 1 with fail;rw[←hV1,←hB3,←hV2,h36];clear hV1 hB3 hV2 hB6 h36;unfold signsV at HSG;go_wp2_with fail;go_at_call 125;refine HSG.out.mono ?_;rintro e w3 ⟨rfl,hk3⟩;obtain⟨V4,B7,hV4,hB7,hb7,hk4,hs4⟩:=BD w3 (.cells signsV TSg);unfold signsV at hV4;have hk:=(HK12.out.trans hk3).trans hk4;have HK:=hid hk;have HNG:=hid (HNX.out V4 (hk.mono fun _ e=>e.elim) (HR.out.keep hk fun _ _ e=>e));clear hk hk3 hk4 hb7 hs4;go_upto_region 2 with fail;rw[←hV4];clear hV4 hB7;go_wp2_with fail;refine HNG.out.mono ?_;rintro e w5 ⟨rfl,hk5⟩;have HKE:=hid ((HK.out.mono (E':=fun b=>b=R) fun _ e=>e.elim).trans hk5);clear hk5;go_wp2_with fail;exact⟨rfl,rfl,HKE.out⟩
end Go.Proofs.YtknnmidnodeanaaGreatDoor
