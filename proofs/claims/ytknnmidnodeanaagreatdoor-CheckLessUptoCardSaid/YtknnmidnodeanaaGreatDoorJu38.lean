import Derived.Test.YtknnmidnodeanaaGreatDoorJu37
set_option maxHeartbeats 16000000
set_option maxRecDepth 4000
namespace Go.Proofs.YtknnmidnodeanaaGreatDoor
open Go Go.RowKit Own
open Go.Lib (hid)
def ChainE (P:List Item→St→List Item→Prop)(E:List Item→Prop):List St→List Item→Prop
 |[],ts=>E ts
 |s::l,ts=>BJ ts [125]=false∧∃m,P ts s m∧m.length<ts.length∧ChainE P E l m
structure BlockAtE (P:List Item→St→List Item→Prop)(E:List Item→Prop)(l:List St)(w wr:World)(R el ec:Nat)(v:Value)(dn rest:List St)(ts:List Item)(cs:List (List Value)):Prop where
 all:l=dn++rest
 len:cs.length=dn.length
 row:wr.ownsRow 0 TSm 12 v dn.length cs.flatten
 st:∀j (h:j<cs.length) (h':j<dn.length),StAt wr (fun b=>w.heap.size≤b∧v.ownBlock≠some b) cs[j] dn[j]
 new:∀b,v.ownBlock=some b→w.heap.size≤b
 chain:ChainE P E rest ts
 rd:BG wr R ts el ec
 keep:BA (fun b=>b=R) w wr
theorem BlockAtE.step {P:List Item→St→List Item→Prop}{E:List Item→Prop}{l:List St}{w wr W1 W2 w':World}{R el ec:Nat}{v v':Value}{dn rest:List St}{ts m:List Item}{cs:List (List Value)}{s:St}{vs:List Value}(h:BlockAtE P E l w wr R el ec v dn (s::rest) ts cs)(hR:R<w.heap.size)
  (hst:StAt W1 (fun b=>wr.heap.size≤b) vs s) (hr:BG W1 R m el ec) (hk:BA (fun b=>b=R) wr W1) (k2:BA (fun _=>False) W1 W2) (hrow:w'.ownsRow 0 TSm 12 v' (dn.length+1) (cs.flatten++vs)) (k3:BA (fun b=>v.ownBlock=some b) W2 w') (ho:v'.ownBlock=v.ownBlock∨v'.ownBlock=some W2.heap.size) (hch:ChainE P E rest m):
  BlockAtE P E l w w' R el ec v' (dn++[s]) rest m (cs++[vs]):=by
 have z0:=h.keep.size;have z1:=hk.size;have z2:=k2.size;have z3:=k3.size;have lv:∀b,v.ownBlock=some b→b<wr.heap.size:=fun b=>rowS_lt h.row;have lv':∀b,v'.ownBlock=some b→v.ownBlock=some b∨W2.heap.size=b:=fun b e=>ho.imp (fun e1=>by rw[←e1];exact e) fun e1=>by rw[e1]at e;exact Option.some.inj e
 have kall:BA (fun b=>b=R∨v.ownBlock=some b) wr w':=((hk.mono fun _ e=>.inl e).trans (k2.mono fun _ e=>e.elim)).trans (k3.mono fun _ e=>.inr e);have k23:BA (fun b=>v.ownBlock=some b) W1 w':=(k2.mono fun _ e=>e.elim).trans k3;have hall:=h.all;have hlen:=h.len;refine⟨by rw[hall];simp,by simp[hlen],?_,?_,?_,hch,?_,?_⟩
 ·rw[List.flatten_append,List.flatten_singleton,LA,List.length_singleton];exact hrow
 ·intro j hj hj';by_cases hji:j<cs.length
  ·rw[List.getElem_append_left hji,List.getElem_append_left (by omega)];refine(h.st j hji (by omega)).inHeap.keepS fun b o u hb hc=>?_;obtain⟨⟨a1,a2⟩,a3⟩:=hb;refine⟨kall.cell hc fun e=>e.elim (fun e=>by have e:b=R:=e;have a1:w.heap.size≤b:=a1;omega) a2,a1,fun e=>?_⟩;rcases lv' b e with e|e
   ·exact a2 e
   ·omega
  ·have hjl:j=cs.length:=by rw[LA]at hj;simp at hj;omega
   subst hjl;rw[List.getElem_append_right (Nat.le_refl _),List.getElem_append_right (by omega)];simp only[hlen,Nat.sub_self,List.getElem_cons_zero];refine hst.inHeap.keepS fun b o u hb hc=>?_;obtain⟨a1,a2⟩:=hb;have a1:wr.heap.size≤b:=a1;refine⟨k23.cell hc fun e=>?_,by omega,fun e=>?_⟩
   ·have:=lv b e;omega
   ·rcases lv' b e with e|e
    ·have:=lv b e;omega
    ·omega
 ·intro b e;rcases lv' b e with e|e
  ·exact h.new b e
  ·omega
 ·refine(hr.keep k2 fun _ _ e=>e).keep k3 fun b hb e=>?_;have:=h.new b e;omega
 ·exact h.keep.newM kall fun b e=>e.elim .inl fun e=>.inr (h.new b e)
theorem block_joint (R el ec : Nat)(its : List Item)(o : Oc (List St))(l : List St)(P : List Item→St→List Item→Prop)(hP : ∀ts s m, P ts s m→DoesS R el ec ts (.ok s m))(h123 : BJ its [123] = true)(hch : ChainE P (fun ts => (BJ ts [125] = true∧o = .ok l ts.tail)∨(BJ ts [125] = false∧∃b, o = .bad b∧DoesS R el ec ts (.bad b))) l its.tail)(hlen : l.length≤1000000) : DoesB R el ec its o := by
  intro w hr;obtain⟨E, hE⟩ : ∃E : List Item→Prop, E = fun ts => (BJ ts [125] = true∧o = .ok l ts.tail)∨(BJ ts [125] = false∧∃b, o = .bad b∧DoesS R el ec ts (.bad b)) := ⟨_, rfl⟩;rw[← hE]at hch;have HEE := Lib.hid hE;clear hE;have hm : CQ [[123]] its = some its.tail := by unfold CQ; rw[if_pos h123]; rfl
  have HMU := Lib.hid (must1 hr [123] its.tail hm);have HRW := Lib.hid hr.lt;have HP := Lib.hid hP; have HCH := Lib.hid hch; have HLEN := Lib.hid hlen;clear hr h123 hm hP hch hlen;go_enter Tryz.func82, Tryz.ntmps82;go_wp2_with fail;go_at_call 77;refine HMU.out.mono ?_;rintro e W1 ⟨rfl, hr1, hk1⟩;have HR1 := Lib.hid hr1; have HK1 := Lib.hid hk1;clear hr1 hk1;go_wp2_with fail;go_loopw [3] (fun v3 wr => ∃dn rest ts cs, BlockAtE P E l w wr R el ec v3 dn rest ts cs) (fun _ wr => leftOf R wr)
  case atStart => exact⟨[], l, its.tail, [], rfl, rfl, World.ownsRow_nil _ _ _ _, fun j h => absurd h (Nat.not_lt_zero _), fun b e => by simp[Value.ownBlock]at e, HCH.out, HR1.out, HK1.out⟩
  case round =>
    obtain⟨dn, rest, ts, cs, hat⟩ := hrel;have HAT := Lib.hid hat
    have HM := Lib.hid (CA wr R ts el ec hat.rd [125]);have HLF := Lib.hid (leftOf_at hat.rd);clear hat
    cases rest with
    | nil =>
      have hch := HAT.out.chain;unfold ChainE at hch;rw[HEE.out]at hch;rcases hch with⟨h1, ho⟩|⟨h1, b, ho, h2⟩
      · rw[h1, if_pos rfl]at HM;subst ho;clear h1;go_wp2_with fail;go_at_call 95;refine HM.out.mono ?_;rintro e W2 ⟨rfl, hr2, hk2⟩;have HR2 := Lib.hid hr2; have HK2 := Lib.hid hk2;clear hr2 hk2;obtain⟨p, cap, hv, hc⟩ := rowS_some HAT.out.row;have HC := Lib.hid hc;have hdl : dn = l := by have := HAT.out.all; rw[List.append_nil]at this; exact this.symm
        subst hdl;have HV := Lib.hid hv;subst hv;clear hc;go_wp2_with fail;go_ret;refine⟨p, cap, rfl, ?_, HR2.out, HAT.out.keep.trans HK2.out⟩;have hnR : ∀b, w.heap.size≤b→¬b = R := fun b hb e => by have := HRW.out; omega
        rcases HC.out with h0|⟨g, rfl, hc⟩
        · rw[List.eq_nil_of_length_eq_zero h0];unfold CJ; trivial
        · have hg : w.heap.size≤g := HAT.out.new g rfl;exact(sts_of_row hg dn cs 0 HAT.out.len (fun j h h' => (HAT.out.st j h h').mono fun b hb => hb.1) (fun j u hj => by rw[Nat.zero_mul, Nat.zero_add]; exact hc j u hj)).keep HK2.out fun b hb e => hnR b hb e
      · rw[h1, if_neg NT]at HM;subst ho;have HS := Lib.hid h2;clear h1 h2;go_wp2_with fail;go_at_call 95;refine HM.out.mono ?_;rintro e W2 ⟨rfl, hr2, hk2⟩;have HST := Lib.hid (show Calls _ _ _ _ fun e w' => e = .panicked (CY b el ec)∧BA (fun b => b = R) W2 w' from HS.out W2 hr2);obtain⟨FL, hFL⟩ : ∃FL : List PanicEntry, FL = CY b el ec := ⟨_, rfl⟩;rw[← hFL]at HST;have HFL := Lib.hid hFL;have HK2 := Lib.hid hk2;clear hr2 hk2 hFL;go_wp2_with fail;go_at_call 97;refine HST.out.mono ?_;rintro e W3 ⟨rfl, hk⟩;have HKE := Lib.hid ((HAT.out.keep.trans HK2.out).trans hk);clear hk;go_wp2_with fail;exact⟨rfl, congrArg Ending.panicked HFL.out, HKE.out⟩
    | cons s rest =>
      obtain⟨h1, m, h2, h3, h4⟩ := HAT.out.chain;rw[h1, if_neg NT]at HM;have HS := Lib.hid (show ReadsS R el ec ts m s from HP.out ts s m h2);have H3 := Lib.hid h3; have H4 := Lib.hid h4;clear h1 h2 h3 h4;go_wp2_with fail;go_at_call 95;refine HM.out.mono ?_;rintro e W2 ⟨rfl, hr2, hk2⟩;have HST := Lib.hid (HS.out W2 hr2);have HK2 := Lib.hid hk2;clear hr2 hk2;go_wp2_with fail;go_at_call 97;refine HST.out.mono ?_;rintro e W3 ⟨vs, rfl, hst, hr3, hk3⟩;have hcl := st_cells hst;obtain⟨s0, s1, s2, s3, s4, s5, s6, p1, m1, c1, p2, m2, c2, p3, m3, c3, s10, s11, rfl⟩ := st_form hst;obtain⟨W4, G, hW4, hG, hbG, hkG, hsG⟩ := BD W3 (.cells #[.int .i64 s0, .string s1, .int .i64 s2, .int .i64 s3, .string s4, .string s5, .string s6, .slice p1 m1 c1, .slice p2 m2 c2, .slice p3 m3 c3, .int .i64 s10, .int .i64 s11] TSm);have hkk := HK2.out.trans hk3;have HX := Lib.hid (hst.mono (S' := fun b => wr.heap.size≤b) fun b hb => by have hb : W2.heap.size≤b := hb; have := HK2.out.size; omega);have HR3 := Lib.hid hr3; have HK3 := Lib.hid hkk; have HKG := Lib.hid hkG; have HBG := Lib.hid hbG; have HCL := Lib.hid hcl;have HROW := Lib.hid (DO (DO HAT.out.row hkk fun b hb e => by have := HAT.out.new b hb; have e : b = R := e; have := HRW.out; omega) hkG fun _ _ e => e);have HW4 := Lib.hid hW4; have HE4 := Lib.hid hG;have HLL := Lib.hid (show dn.length + 1≤1000000 by have h := HAT.out.all; have h2 := HLEN.out; rw[h]at h2; simp only[LA, LC]at h2; omega);clear hst hr3 hk3 hkk hkG hbG hsG hcl hW4 hG
      go_wp2_with (at_builtin; rw[← HW4.out, ← HE4.out]
                   refine DX rfl (.tmp 10) (.tmp 13) 34 rfl TSm (.agg #[.int .i64 0, .string ⟨#[]⟩, .int .i64 0, .int .i64 0, .string ⟨#[]⟩, .string ⟨#[]⟩, .string ⟨#[]⟩, .slice none 0 0, .slice none 0 0, .slice none 0 0, .int .i64 0, .int .i64 0]) 12 176 (by kernel_rfl) (by kernel_rfl) rfl (by decide) u3 dn.length cs.flatten HROW.out G 1 [.int .i64 s0, .string s1, .int .i64 s2, .int .i64 s3, .string s4, .string s5, .string s6, .slice p1 m1 c1, .slice p2 m2 c2, .slice p3 m3 c3, .int .i64 s10, .int .i64 s11] rfl HBG.out HCL.out (by unfold maxLen; have := HLL.out; omega) (by have := HLL.out; omega) rfl rfl ?_;intro v3' w8 hr8 hk8 ho8;have HR8 := Lib.hid hr8; have HK8 := Lib.hid hk8; have HO8 := Lib.hid ho8;clear hr8 hk8 ho8;go_wp2_with fail)
      have hnext := HAT.out.step HRW.out HX.out HR3.out HK3.out HKG.out HR8.out HK8.out HO8.out H4.out;exact⟨⟨_, _, _, _, hnext⟩, by rw[leftOf_at hnext.rd, HLF.out]; exact H3.out⟩
theorem block_open {R el ec:Nat}{its b:List Item}(hm:CD [[123]] its=.bad b):DoesB R el ec its (.bad b):=by
 intro w hr;have HQ:=hid (must1b hr [123] b hm);obtain⟨FL,hFL⟩:∃FL:List PanicEntry,FL=CY b el ec:=⟨_,rfl⟩;rw[←hFL]at HQ;have HFL:=hid hFL;clear hm hr hFL;go_enter Tryz.func82,Tryz.ntmps82;go_wp2_with fail;go_at_call 77;refine HQ.out.mono ?_;rintro e We ⟨rfl,hk⟩;have HKE:=hid hk;clear hk;go_wp2_with fail;exact⟨rfl,congrArg Ending.panicked HFL.out,HKE.out⟩
theorem wantO_len {k:Nat}{ts r:List Item}{t:Item}(h:DI k ts=.ok t r):r.length<ts.length:=by
 obtain⟨rfl,-⟩:=FB h;rw[LC];omega
theorem CX {L:List (List UInt8)}{ts r:List Item}{u:Unit}(h:CD L ts=.ok u r):r.length≤ts.length:=must_len (CW h)
theorem exO_len {f:Nat}{F:List Item→Option (List Item)}{ts r:List Item}{x:Ex}(h:exO f F ts=.ok x r):r.length≤ts.length:=exP_dec f _ _ _ (exO_ok h)
theorem callO_len {f:Nat}{F:List Item→Option (List Item)}{v:List UInt8}{ts r:List Item}{q:Nat×List UInt8×List Ex}(h:callO f F v ts=.ok q r):r.length≤ts.length:=by
 unfold callO at h;obtain⟨op,r0,h1,h⟩:=Oc.bind_ok h;obtain⟨u,r1,h2,h⟩:=Oc.bind_ok h;obtain⟨c,r2,h3,h⟩:=Oc.bind_ok h;obtain⟨xs,r3,h4,h⟩:=Oc.bind_ok h;obtain⟨u2,r4,h5,h⟩:=Oc.bind_ok h
 cases h;obtain⟨t,rfl,-⟩:=opO_ok h1;have l2:=CX h2;have l3:=wantO_len h3;have l5:=CX h5
 have l4:r3.length≤r2.length:=by
  unfold argO at h4;split at h4
  ·cases h4;exact Nat.le_refl _
  ·obtain⟨u,r1,h2,h⟩:=Oc.bind_ok h4;obtain⟨x,r5,h3,h⟩:=Oc.bind_ok h
   cases h;have:=CX h2;have:=exO_len h3;omega
 rw[LC];omega
theorem plainO_len {f l c:Nat}{F:List Item→Option (List Item)}{ts r:List Item}{s:St}(h:plainO f F l c ts=.ok s r):r.length<ts.length:=by
 unfold plainO at h;obtain⟨n,r1,e1,h⟩:=Oc.bind_ok h;have l1:=wantO_len e1;have lt:=tail_dec r1;split at h
 ·obtain⟨a,r2,e2,h⟩:=Oc.bind_ok h;obtain⟨u,r3,e3,h⟩:=Oc.bind_ok h;obtain⟨x,r4,e4,h⟩:=Oc.bind_ok h;obtain⟨u2,r5,e5,h⟩:=Oc.bind_ok h
  cases h;have:=exO_len e2;have:=CX e3;have:=exO_len e4;have:=CX e5;omega
 ·split at h
  ·obtain⟨m,r2,e2,h⟩:=Oc.bind_ok h;obtain⟨u,r3,e3,h⟩:=Oc.bind_ok h;obtain⟨q,r4,e4,h⟩:=Oc.bind_ok h
   cases h;have:=wantO_len e2;have:=CX e3;have:=callO_len e4;omega
  ·obtain⟨u,r2,e2,h⟩:=Oc.bind_ok h;have:=CX e2;split at h
   ·obtain⟨q,r3,e3,h⟩:=Oc.bind_ok h
    cases h;have:=callO_len e3;omega
   ·obtain⟨x,r3,e3,h⟩:=Oc.bind_ok h;obtain⟨u2,r4,e4,h⟩:=Oc.bind_ok h
    cases h;have:=exO_len e3;have:=CX e4;omega
theorem ChainE.mono {P:List Item→St→List Item→Prop}{E E':List Item→Prop}(h:∀ts,E ts→E' ts):∀{l:List St}{ts:List Item},ChainE P E l ts→ChainE P E' l ts
 |[],_,hc=>h _ hc
 |_::_,_,⟨h1,m,h2,h3,h4⟩=>⟨h1,m,h2,h3,ChainE.mono h h4⟩
theorem ChainE.last {P:List Item→St→List Item→Prop}{E:List Item→Prop}:∀{l:List St}{ts:List Item},ChainE P E l ts→∃ts',E ts'
 |[],ts,hc=>⟨ts,hc⟩
 |_::_,_,⟨_,_,_,_,h4⟩=>ChainE.last h4
theorem stmtsO_len {st:List Item→Oc St}(N:Nat)(hst:∀ts s m,ts.length≤N→st ts=.ok s m→m.length<ts.length):∀(f:Nat) (ts:List Item) (l:List St) (r:List Item),ts.length≤N→stmtsO st f ts=.ok l r→r.length≤ts.length
 |0,_,_,_,_,h=>by cases h
 | f+1,ts,l,r,hN,h=>by
  unfold stmtsO at h;split at h
  ·cases h;exact tail_dec ts
  ·obtain⟨s,m,e1,h1⟩:=Oc.bind_ok h;obtain⟨l2,r2,e2,h2⟩:=Oc.bind_ok h1
   cases h2;have d1:=hst _ _ _ hN e1;have:=stmtsO_len N hst f _ _ _ (by omega) e2;omega
theorem stmtsO_all {st:List Item→Oc St}(N:Nat)(hst:∀ts s m,ts.length≤N→st ts=.ok s m→m.length<ts.length):∀(f:Nat) (ts:List Item) (o:Oc (List St)),ts.length≤N→stmtsO st f ts=o→o≠.no→
  ∃l,ChainE (fun ts s m=>ts.length≤N∧st ts=.ok s m) (fun ts=>ts.length≤N∧((BJ ts [125]=true∧o=.ok l ts.tail)∨(BJ ts [125]=false∧∃b,o=.bad b∧st ts=.bad b))) l ts∧l.length≤ts.length
 |0,_,_,_,h,hn=>absurd h.symm hn
 | f+1,ts,o,hN,h,hn=>by
  unfold stmtsO at h;split at h
  ·rename_i hh
   exact⟨[],⟨hN,.inl ⟨hh,h.symm⟩⟩,Nat.zero_le _⟩
  ·rename_i hh
   have hh':BJ ts [125]=false:=Bool.eq_false_iff.2 hh
   cases e1:st ts with
   |no=>rw[e1]at h;exact absurd h.symm hn
   | bad b=>
    rw[e1]at h;exact⟨[],⟨hN,.inr ⟨hh',b,h.symm,e1⟩⟩,Nat.zero_le _⟩
   | ok s m=>
    rw[e1,CH]at h;have d1:=hst _ _ _ hN e1
    cases e2:stmtsO st f m with
    |no=>rw[e2]at h;exact absurd h.symm hn
    | bad b=>
     rw[e2]at h;obtain⟨l,h3,h4⟩:=stmtsO_all N hst f m (.bad b) (by omega) e2 (fun h=>by cases h);refine⟨s::l,⟨hh',m,⟨hN,e1⟩,d1,?_⟩,by rw[LC];omega⟩;refine ChainE.mono (fun ts hE=>⟨hE.1,hE.2.elim (fun h=>by cases h.2) fun ⟨h1,b',h2,h3⟩=>.inr ⟨h1,b',h.symm.trans h2,h3⟩⟩) h3
    | ok l2 r2=>
     rw[e2,CH]at h;obtain⟨l,h3,h4⟩:=stmtsO_all N hst f m (.ok l2 r2) (by omega) e2 (fun h=>by cases h);by_cases hl:l=l2
     ·subst hl;refine⟨s::l,⟨hh',m,⟨hN,e1⟩,d1,?_⟩,by rw[LC];omega⟩;refine ChainE.mono (fun ts hE=>⟨hE.1,hE.2.elim (fun ⟨h1,h2⟩=>.inl ⟨h1,?_⟩) fun ⟨h1,b',h2,h3⟩=>by cases h2⟩) h3;injection h2 with _ h2;rw[←h,h2]
     ·exfalso
      obtain⟨ts',-,h5⟩:=ChainE.last h3;rcases h5 with⟨-,h5⟩|⟨-,b',h5,-⟩
      ·injection h5 with h5 _;exact hl h5.symm
      ·cases h5
theorem head_of_must {s:List UInt8}{ts r:List Item}{u:Unit}(h:CD [s] ts=.ok u r):BJ ts s=true∧r=ts.tail:=by
 unfold CD at h;split at h
 ·rename_i hh
  unfold CD at h
  cases h;exact⟨hh,rfl⟩
 ·cases h
def LessS (st:List Item→Oc St):Prop:=∀ts s m,st ts=.ok s m→m.length<ts.length
def LessB (blk:List Item→Oc (List St)):Prop:=∀ts l m,blk ts=.ok l m→m.length<ts.length
theorem blockO_less {st:List Item→Oc St}(hst:LessS st):LessB (blockO st):=fun its l r h=>by
 unfold blockO at h;obtain⟨u,r0,h1,h2⟩:=Oc.bind_ok h;obtain⟨h3,rfl⟩:=head_of_must h1;have ht:=tail_dec its;have h6:=stmtsO_len _ (fun ts s m _=>hst ts s m) _ _ _ _ (Nat.le_refl _) h2
 cases its with
 |nil=>cases h3
 |cons t r0=>rw[List.tail_cons]at h6;rw[LC];omega
section
variable (R el ec g : Nat)(F : List Item→Option (List Item))(hF : FD F R el ec)
theorem blockO_does {st:List Item→Oc St}(hl:LessS st)(hst:∀ts,ts.length≤1000000→st ts≠.no→DoesS R el ec ts (st ts))(its:List Item)(hN:its.length≤1000000)(hn:blockO st its≠.no):DoesB R el ec its (blockO st its):=by
 obtain⟨o,ho⟩:∃o,blockO st its=o:=⟨_,rfl⟩;rw[ho]at hn ⊢;unfold blockO at ho
 cases h1:CD [[123]] its with
 |no=>exact absurd h1 (mustO_no _ _)
 | bad b'=>
  rw[h1]at ho;obtain rfl:Oc.bad b'=o:=ho;exact block_open h1
 | ok u r0=>
  rw[h1,CH]at ho;obtain⟨h3,rfl⟩:=head_of_must h1;have ht:=tail_dec its;obtain⟨l,h4,h5⟩:=stmtsO_all 1000000 (fun ts s m _=>hl ts s m) _ _ o (by omega) ho hn;refine block_joint R el ec its o l _ (fun ts s m hp=>?_) h3 (h4.mono fun ts ⟨hN,h⟩=>h.imp id fun ⟨h1,b,h2,h3⟩=>⟨h1,b,h2,?_⟩) (by omega)
  ·have h:=hst ts hp.1 (by rw[hp.2];exact fun h=>by cases h);rw[hp.2]at h;exact h
  ·have h:=hst ts hN (by rw[h3];exact fun h=>by cases h);rw[h3]at h;exact h
def blkN (blk:List Item→Oc (List St))(ts:List Item):Oc (List St):=if ts.length≤1000000 then blk ts else .no
theorem blkN_eq {blk:List Item→Oc (List St)}{ts:List Item}(h:ts.length≤1000000):blkN blk ts=blk ts:=if_pos h
theorem noHead {t:Item}{r0:List Item}{k:List UInt8}(h:¬isT t.tok k=true):BJ (t::r0) k=false:=Bool.eq_false_iff.2 h
theorem stmtB_len {blk:List Item→Oc (List St)}(hB:LessB blk)(its r:List Item)(s:St)(h:stmtB (exO g F) blk (plainO g F) its=.ok s r):
  r.length<its.length:=by
 unfold stmtB at h
 cases its with
 |nil=>cases h
 | cons t r0=>
  dsimp only at h;by_cases k1:isT t.tok [118,97,114]=true
  ·rw[if_pos k1]at h;obtain⟨n,r1,e1,h1⟩:=Oc.bind_ok h;obtain⟨u,r2,e2,h2⟩:=Oc.bind_ok h1;obtain⟨x,r3,e3,h3⟩:=Oc.bind_ok h2;obtain⟨u2,r4,e4,h4⟩:=Oc.bind_ok h3
   cases h4;obtain⟨rfl,hn⟩:=FB e1;have d2:=CX e2;have d3:=exO_len e3;have d4:=CX e4;rw[LC,LC];omega
  rw[if_neg k1]at h;by_cases k2:isT t.tok [97,114,114,97,121]=true
  ·rw[if_pos k2]at h;obtain⟨n,r1,e1,h1⟩:=Oc.bind_ok h;obtain⟨u,r2,e2,h2⟩:=Oc.bind_ok h1;obtain⟨m,r3,e3,h3⟩:=Oc.bind_ok h2;obtain⟨u2,r4,e4,h4⟩:=Oc.bind_ok h3
   cases h4;obtain⟨rfl,hn⟩:=FB e1;obtain⟨rfl,hm⟩:=FB e3;have d2:=CX e2;have d4:=CX e4;rw[LC]at d2;rw[LC,LC];omega
  rw[if_neg k2]at h;by_cases k3:isT t.tok [105,102]=true
  ·rw[if_pos k3]at h;obtain⟨x,r1,e1,h1⟩:=Oc.bind_ok h;obtain⟨a,r2,e2,h2⟩:=Oc.bind_ok h1;have d1:=exO_len e1;have d2:=hB _ _ _ e2;have d3:=tail_dec r2;by_cases k4:BJ r2 [101,108,115,101]=true
   ·rw[if_pos k4]at h2;obtain⟨b,r3,e3,h3⟩:=Oc.bind_ok h2
    cases h3;have d4:=hB _ _ _ e3;rw[LC];omega
   ·rw[if_neg k4]at h2
    cases h2;rw[LC];omega
  rw[if_neg k3]at h;by_cases k4:isT t.tok [119,104,105,108,101]=true
  ·rw[if_pos k4]at h;obtain⟨x,r1,e1,h1⟩:=Oc.bind_ok h;obtain⟨a,r2,e2,h2⟩:=Oc.bind_ok h1
   cases h2;have d1:=exO_len e1;have d2:=hB _ _ _ e2;rw[LC];omega
  rw[if_neg k4]at h;by_cases k5:isT t.tok [111,117,116]=true
  ·rw[if_pos k5]at h;obtain⟨x,r1,e1,h1⟩:=Oc.bind_ok h;obtain⟨u,r2,e2,h2⟩:=Oc.bind_ok h1
   cases h2;have d1:=exO_len e1;have d2:=CX e2;rw[LC];omega
  rw[if_neg k5]at h;by_cases k6:isT t.tok [104,97,108,116]=true
  ·rw[if_pos k6]at h;obtain⟨x,r1,e1,h1⟩:=Oc.bind_ok h;obtain⟨u,r2,e2,h2⟩:=Oc.bind_ok h1
   cases h2;have d1:=exO_len e1;have d2:=CX e2;rw[LC];omega
  rw[if_neg k6]at h;exact plainO_len h
include hF in
theorem stmtB_does {blk:List Item→Oc (List St)}(hL:LessB blk)(hB:∀ts,ts.length≤1000000→blk ts≠.no→DoesB R el ec ts (blk ts))(its:List Item)(o:Oc St)(hl:its.length≤1000000)(hno:o≠.no)(h:stmtB (exO g F) blk (plainO g F) its=o):
  DoesS R el ec its o:=by
 have hpl:∀its,(∀t r,its=t::r→plainO g F t.line t.col its=o)→(its=[]→o=.bad [])→DoesP R el ec its o (lineOf its el) (colOf its ec):=by
  intro its h1 h2 w Bs hr hB hRB
  cases its with
  |nil=>exact plainJ w R el ec g Bs F hF [] o _ _ hr hB hRB hno (by rw[h2 rfl];rfl)
  |cons t r=>exact plainJ w R el ec g Bs F hF (t::r) o _ _ hr hB hRB hno (h1 t r rfl)
 unfold stmtB at h
 have hBN:∀ts,blkN blk ts≠.no→DoesB R el ec ts (blkN blk ts):=fun ts h=>by
  unfold blkN at h ⊢;split
  ·rename_i hh
   rw[if_pos hh]at h;exact hB ts hh h
  ·rename_i hh
   exact absurd (if_neg hh) h
 cases its with
 | nil=>
  exact stmtJ_plain R el ec [] o hno rfl rfl rfl rfl rfl rfl (hpl [] (fun t r e=>by cases e) fun _=>h.symm)
 | cons t r0=>
  dsimp only at h;rw[LC]at hl;have hd:∀k,isT t.tok k=true→BJ (t::r0) k=true:=fun k h=>h;by_cases k1:isT t.tok [118,97,114]=true
  ·rw[if_pos k1]at h;exact stmtJ_var R el ec g F hF t r0 o hno (hd _ k1) h
  rw[if_neg k1]at h;by_cases k2:isT t.tok [97,114,114,97,121]=true
  ·rw[if_pos k2]at h;exact stmtJ_array R el ec g F hF t r0 o hno (noHead k1) (hd _ k2) h
  rw[if_neg k2]at h;by_cases k3:isT t.tok [105,102]=true
  ·rw[if_pos k3]at h;refine stmtJ_if R el ec g F hF t r0 o hno (noHead k1) (noHead k2) (hd _ k3) (blkN blk) hBN ?_
   cases e1:exO g F r0 with
   |no=>rw[e1]at h;exact absurd h.symm hno
   |bad b'=>rw[e1]at h;exact h
   | ok x r1=>
    rw[e1,CH]at h;rw[CH];have d1:=exO_len e1;rw[blkN_eq (by omega)]
    cases e2:blk r1 with
    |no=>rw[e2]at h;exact absurd h.symm hno
    |bad b'=>rw[e2]at h;exact h
    | ok a r2=>
     rw[e2,CH]at h;rw[CH];have d2:=hL _ _ _ e2;have d3:=tail_dec r2;rw[blkN_eq (by omega)];exact h
  rw[if_neg k3]at h;by_cases k4:isT t.tok [119,104,105,108,101]=true
  ·rw[if_pos k4]at h;refine stmtJ_while R el ec g F hF t r0 o hno (noHead k1) (noHead k2) (noHead k3) (hd _ k4) (blkN blk) hBN ?_
   cases e1:exO g F r0 with
   |no=>rw[e1]at h;exact absurd h.symm hno
   |bad b'=>rw[e1]at h;exact h
   | ok x r1=>
    rw[e1,CH]at h;rw[CH];have d1:=exO_len e1;rw[blkN_eq (by omega)];exact h
  rw[if_neg k4]at h;by_cases k5:isT t.tok [111,117,116]=true
  ·rw[if_pos k5]at h;exact stmtJ_out R el ec g F hF t r0 o hno (noHead k1) (noHead k2) (noHead k3) (noHead k4) (hd _ k5) h
  rw[if_neg k5]at h;by_cases k6:isT t.tok [104,97,108,116]=true
  ·rw[if_pos k6]at h;exact stmtJ_halt R el ec g F hF t r0 o hno (noHead k1) (noHead k2) (noHead k3) (noHead k4) (noHead k5) (hd _ k6) h
  rw[if_neg k6]at h;exact stmtJ_plain R el ec (t::r0) o hno (noHead k1) (noHead k2) (noHead k3) (noHead k4) (noHead k5) (noHead k6) (hpl (t::r0) (fun t' r' e=>by cases e;exact h) fun e=>by cases e)
theorem stmtO_less:∀f,LessS (stmtO g F f)
 |0=>fun _ _ _ h=>by cases h
 |f+1=>fun ts s m h=>stmtB_len g F (blockO_less (stmtO_less f)) ts m s h
include hF in
theorem stmtO_does:∀(f:Nat) (ts:List Item),ts.length≤1000000→stmtO g F f ts≠.no→DoesS R el ec ts (stmtO g F f ts)
 |0,_,_,h=>absurd rfl h
 |f+1,ts,hl,h=>stmtB_does R el ec g F hF (blockO_less (stmtO_less g F f)) (fun ts hl h=>blockO_does R el ec (stmtO_less g F f) (stmtO_does f) ts hl h) ts _ hl h rfl
end
end Go.Proofs.YtknnmidnodeanaaGreatDoor
