import Derived.Test.YtomlffobbkcmdaaGreatDoorJs26
set_option maxHeartbeats 32000000
set_option maxRecDepth 4000
namespace Go.Proofs.YtomlffobbkcmdaaGreatDoor
open Go Go.RowKit Own
open Go.Lib (hid)
abbrev TabP (w : World) : Prop := Lib.TabIs Tryz.prog w "internal/strconv.uint64pow10" .u64 Lib.pow10Tab
theorem Own.BA.tabP {w w':World}(h:BA (fun _=>False) w w')(t:TabP w):TabP w':=
 Lib.tabBelow_of_tabIs t w' ⟨h.os,h.tape,h.output,h.size,fun j hj=>h.block j hj fun e=>e⟩
structure TS (w0:World)(b:Nat)(l:List UInt8)(w:World):Prop where
 keep:BA (fun _=>False) w0 w
 tel:Tel w0.heap.size b l w
theorem TS.after {w0:World}{b:Nat}{l l':List UInt8}{w w':World}(h:TS w0 b l w)(ht:Tel w0.heap.size b l' w')(k:TelK b w w'):TS w0 b l' w':=
 ⟨h.keep.new (k.below h.tel) fun _ e=>e,ht⟩
theorem TS.on {w0:World}{b:Nat}{l:List UInt8}{w w':World}(h:TS w0 b l w)(k:BA (fun _=>False) w w'):TS w0 b l w':=⟨h.keep.trans k,h.tel.builder k⟩
theorem TS.onK {w0:World}{b:Nat}{l:List UInt8}{w w':World}(h:TS w0 b l w)(k:BA (fun _=>False) w w'):TelK b w w':=.of_keep k h.tel.le.2
theorem BQ (a c:List (List UInt8)):putL (a++c)=putL a++putL c:=by unfold putL;rw[List.flatMap_append]
theorem TS.puts {w0:World}{b:Nat}{l:List UInt8}{w:World}(h:TS w0 b l w)(ss:List (List UInt8))(hlen:l.length+(putL ss).length≤100000000):
  Calls Tryz.prog 39 #[.pointer (some ⟨b,0,none⟩),.slice (some ⟨w.heap.size,0,none⟩) ss.length ss.length] (w.alloc (.cells (ss.map strV).toArray TStr)) fun e w'=>e=.returned (.tuple #[])∧TS w0 b (l++putL ss) w'∧TelK b w w':=by
 have hk:=BA.alloc (fun _=>False) w (.cells (ss.map strV).toArray TStr)
 refine(put_any w0.heap.size b l ss w.heap.size ss.length _ (h.tel.builder hk) (heap_alloc_new w _) (by have:=h.tel.le;omega) hlen).mono ?_
 rintro e w' ⟨rfl,h1,h2⟩
 exact⟨rfl,(h.on hk).after h1 h2,(h.onK hk).trans h2⟩
theorem TS.put1 {w0:World}{b:Nat}{l:List UInt8}{w:World}(h:TS w0 b l w)(s:List UInt8)(hlen:l.length+(putL [s]).length≤100000000):
  Calls Tryz.prog 39 #[.pointer (some ⟨b,0,none⟩),.slice (some ⟨w.heap.size,0,none⟩) 1 1] (w.alloc (.cells #[.string ⟨s.toArray⟩] TStr)) fun e w'=>e=.returned (.tuple #[])∧TS w0 b (l++putL [s]) w'∧TelK b w w':=h.puts [s] hlen
theorem TS.put2 {w0:World}{b:Nat}{l:List UInt8}{w:World}(h:TS w0 b l w)(s t:List UInt8)(hlen:l.length+(putL [s,t]).length≤100000000):
  Calls Tryz.prog 39 #[.pointer (some ⟨b,0,none⟩),.slice (some ⟨w.heap.size,0,none⟩) 2 2] (w.alloc (.cells #[.string ⟨s.toArray⟩,.string ⟨t.toArray⟩] TStr)) fun e w'=>e=.returned (.tuple #[])∧TS w0 b (l++putL [s,t]) w'∧TelK b w w':=h.puts [s,t] hlen
theorem TS.number {w0:World}{b:Nat}{l:List UInt8}{w:World}(h:TS w0 b l w)(hP:TabP w0)(n:Int)(h0:-9223372036854775808≤n)(h1:n≤9223372036854775807)(hlen:l.length+(putL [Lib.itoa n]).length≤100000000):
  Calls Tryz.prog 40 #[.pointer (some ⟨b,0,none⟩),.int .i64 n] w fun e w'=>e=.returned (.tuple #[])∧TS w0 b (l++putL [Lib.itoa n]) w'∧TelK b w w':=by
 have HF:=hid (Tryz.strconv_FormatInt_10 n h0 h1 w (h.keep.tabP hP))
 have HT:=hid h
 have HPUT:=hid (fun W (h:TS w0 b l W)=>h.put1 (Lib.itoa n) hlen)
 clear h hP h0 h1 hlen
 obtain⟨s,hs⟩:∃s,Lib.itoa n=s:=⟨_,rfl⟩
 rw[hs]at HF HPUT ⊢
 clear hs
 go_enter Tryz.func40,Tryz.ntmps40
 go_wp2_with fail
 go_at_call 83
 refine HF.out.mono ?_
 rintro e w1 ⟨rfl,k,os,hw⟩
 have hk1:BA (fun _=>False) w w1:=by rw[hw];exact BA.of_below (Lib.below_grow _ w (Nat.le_refl _) k os)
 have HT1:=hid (HT.out.on hk1);have HK1:=hid (HT.out.onK hk1)
 clear hw hk1
 go_wp2_with fail
 go_at_call 39
 refine(HPUT.out w1 HT1.out).mono ?_
 rintro e w2 ⟨rfl,ht2,hk2⟩
 have HT2:=hid ht2;have HK2:=hid (HK1.out.trans hk2)
 clear ht2 hk2
 go_wp2_with fail
 go_end0
 exact⟨rfl,HT2.out,HK2.out⟩
def wrapK (k:Int)(ts:List (List UInt8)):List (List UInt8):=if k=4∨k=5 then [40]::(ts++[[41]]) else ts
def kindG:Gx→Int
 |.mk k _ _ _ _ _ _=>k
def unL (o:Int):List UInt8:=if o=1 then [45] else [33]
def signG (o:Int):List UInt8:=GC.getD o.toNat []
mutual
def tokG:Gx→List (List UInt8)
 | .mk k o n nm _ _ ks=>
  if k=1 then [Lib.itoa n]
  else if k=2 then [nm]
  else if k=3 then [nm,[91]]++(tokA ks++[[93]])
  else if k=4 then [unL o]++kidA ks
  else kidA ks++([signG o]++kidB ks)
def tokA:List Gx→List (List UInt8)
 |[]=>[]
 |x::_=>tokG x
def kidA:List Gx→List (List UInt8)
 |[]=>[]
 |x::_=>wrapK (kindG x) (tokG x)
def kidB:List Gx→List (List UInt8)
 |[]=>[]
 |_::l=>kidA l
end
mutual
def fitG:Gx→Prop
 |.mk _ _ n _ _ _ ks=>n≤9223372036854775807∧DU ks
def DU:List Gx→Prop
 |[]=>True
 |x::l=>fitG x∧DU l
end
def Tells (w0:World)(x:Gx):Prop:=∀(S:Nat→Prop) (vs:List Value),GAt w0 S vs x→∀(b:Nat) (l:List UInt8) (w:World),TS w0 b l w→l.length+(putL (tokG x)).length≤100000000→
 Calls Tryz.prog 27 #[.pointer (some ⟨b,0,none⟩),.agg vs.toArray] w fun e w'=>e=.returned (.tuple #[])∧TS w0 b (l++putL (tokG x)) w'∧TelK b w w'
def TellsK (w0:World)(x:Gx):Prop:=∀(S:Nat→Prop) (vs:List Value),GAt w0 S vs x→∀(b:Nat) (l:List UInt8) (w:World),TS w0 b l w→l.length+(putL (wrapK (kindG x) (tokG x))).length≤100000000→
 Calls Tryz.prog 61 #[.pointer (some ⟨b,0,none⟩),.agg vs.toArray] w fun e w'=>e=.returned (.tuple #[])∧TS w0 b (l++putL (wrapK (kindG x) (tokG x))) w'∧TelK b w w'
theorem TelK.boxed {w0:World}{b k:Nat}{l:List UInt8}{w w':World}{cs:Array Value}(h:TelK b w w')(ht:TS w0 b l w)(hk:k≠b)(hb:w.heap[k]?=some (.cells cs TEx (0,0))):w'.heap[k]?=some (.cells cs TEx (0,0)):=h.blk ht.tel (by decide) hk hb
theorem kid_of (w0:World)(x:Gx)(hX:Tells w0 x):TellsK w0 x:=by
 intro S vs hex b l w ht hlen
 have HX:=hid (fun b l w=>hX S vs hex b l w)
 clear hX
 obtain⟨k,o,n,nm,lc,cl,ks⟩:=x
 unfold GAt at hex
 obtain⟨p,c,rfl,-⟩:=hex
 obtain⟨m,hm⟩:∃m,ks.length=m:=⟨_,rfl⟩
 rw[hm]at HX ⊢
 clear hm
 obtain⟨T,hT⟩:∃T,tokG (.mk k o n nm lc cl ks)=T:=⟨_,rfl⟩
 rw[hT]at HX hlen ⊢
 clear hT
 rw[show kindG (.mk k o n nm lc cl ks)=k from rfl]at hlen ⊢
 obtain⟨LT,hLT⟩:∃L,putL (wrapK k T)=L:=⟨_,rfl⟩
 rw[hLT]at hlen ⊢
 have HLT:=hid hLT;have HLEN0:=hid hlen
 clear hLT hlen
 unfold strV at HX ⊢
 obtain⟨W0,B3,hW,hB,hb3,hk3,hs3⟩:=BC w (.cells #[.int .i64 k,.int .i64 o,.int .i64 n,.string ⟨nm.toArray⟩,.slice p m c,.int .i64 lc,.int .i64 cl] TEx)
 have HTW0:=hid (ht.on hk3);have HKW0:=hid (ht.onK hk3);have HBW0:=hid hb3
 have HNE:=hid (show B3≠b by have:=ht.tel.le;omega)
 obtain⟨c0,c1,c2,c3,c4,c5,c6,-⟩:=blk7 hb3
 clear ht hb3 hk3 hs3
 go_enter Tryz.func61,Tryz.ntmps61
 go_upto_region 1 with fail
 rw[←hW,←hB]
 clear hW hB
 by_cases k4:k=4
 ·subst k4
  have HE:=hid (show LT=putL [[40]]++(putL T++putL [[41]]) by rw[←HLT.out];unfold wrapK;rw[if_pos (by simp),←BQ,←BQ];rfl)
  have HLEN:=hid (by have h:=HLEN0.out;rw[HE.out]at h;exact h)
  have HPw1:=hid (HTW0.out.put1 [40] (by have:=HLEN.out;(try simp only[LA]at this ⊢);omega))
  go_wp2_with fail
  go_at_call 39
  refine HPw1.out.mono ?_
  rintro e w1 ⟨rfl,ht,hk⟩
  have hb:=hk.boxed HTW0.out HNE.out HBW0.out
  have HBw1:=hid hb;have HTw1:=hid ht;have HKw1:=hid (HKW0.out.trans hk)
  clear ht hk
  obtain⟨c0,c1,c2,c3,c4,c5,c6,-⟩:=blk7 hb
  clear hb
  have HPw2:=hid (HX.out _ _ _ HTw1.out (by have:=HLEN.out;(try simp only[LA]at this ⊢);omega))
  go_wp2_with fail
  go_at_call 27
  refine HPw2.out.mono ?_
  rintro e w2 ⟨rfl,ht,hk⟩
  have hb:=hk.boxed HTw1.out HNE.out HBw1.out
  have HBw2:=hid hb;have HTw2:=hid ht;have HKw2:=hid (HKw1.out.trans hk)
  clear ht hk
  obtain⟨c0,c1,c2,c3,c4,c5,c6,-⟩:=blk7 hb
  clear hb
  have HPw3:=hid (HTw2.out.put1 [41] (by have:=HLEN.out;(try simp only[LA]at this ⊢);omega))
  go_wp2_with fail
  go_at_call 39
  refine HPw3.out.mono ?_
  rintro e w3 ⟨rfl,ht,hk⟩
  have hb:=hk.boxed HTw2.out HNE.out HBw2.out
  have HBw3:=hid hb;have HTw3:=hid ht;have HKw3:=hid (HKw2.out.trans hk)
  clear ht hk
  obtain⟨c0,c1,c2,c3,c4,c5,c6,-⟩:=blk7 hb
  clear hb
  go_wp2_with fail
  go_end0
  exact⟨rfl,by have h:=HTw3.out;rw[HE.out];simpa only[List.append_assoc]using h,HKw3.out⟩
 ·by_cases k5:k=5
  ·subst k5
   have HE:=hid (show LT=putL [[40]]++(putL T++putL [[41]]) by rw[←HLT.out];unfold wrapK;rw[if_pos (by simp),←BQ,←BQ];rfl)
   have HLEN:=hid (by have h:=HLEN0.out;rw[HE.out]at h;exact h)
   have HPw4:=hid (HTW0.out.put1 [40] (by have:=HLEN.out;(try simp only[LA]at this ⊢);omega))
   go_wp2_with fail
   go_at_call 39
   refine HPw4.out.mono ?_
   rintro e w4 ⟨rfl,ht,hk⟩
   have hb:=hk.boxed HTW0.out HNE.out HBW0.out
   have HBw4:=hid hb;have HTw4:=hid ht;have HKw4:=hid (HKW0.out.trans hk)
   clear ht hk
   obtain⟨c0,c1,c2,c3,c4,c5,c6,-⟩:=blk7 hb
   clear hb
   have HPw5:=hid (HX.out _ _ _ HTw4.out (by have:=HLEN.out;(try simp only[LA]at this ⊢);omega))
   go_wp2_with fail
   go_at_call 27
   refine HPw5.out.mono ?_
   rintro e w5 ⟨rfl,ht,hk⟩
   have hb:=hk.boxed HTw4.out HNE.out HBw4.out
   have HBw5:=hid hb;have HTw5:=hid ht;have HKw5:=hid (HKw4.out.trans hk)
   clear ht hk
   obtain⟨c0,c1,c2,c3,c4,c5,c6,-⟩:=blk7 hb
   clear hb
   have HPw6:=hid (HTw5.out.put1 [41] (by have:=HLEN.out;(try simp only[LA]at this ⊢);omega))
   go_wp2_with fail
   go_at_call 39
   refine HPw6.out.mono ?_
   rintro e w6 ⟨rfl,ht,hk⟩
   have hb:=hk.boxed HTw5.out HNE.out HBw5.out
   have HBw6:=hid hb;have HTw6:=hid ht;have HKw6:=hid (HKw5.out.trans hk)
   clear ht hk
   obtain⟨c0,c1,c2,c3,c4,c5,c6,-⟩:=blk7 hb
   clear hb
   go_wp2_with fail
   go_end0
   exact⟨rfl,by have h:=HTw6.out;rw[HE.out];simpa only[List.append_assoc]using h,HKw6.out⟩
  ·have HKK:=hid (And.intro k4 k5)
   have k4b:(k==4)=false:=by rw[BF];exact k4
   have k5b:(k==5)=false:=by rw[BF];exact k5
   have k4c:(k != 4)=true:=by rw[bne_iff_ne];exact k4
   have k5c:(k != 5)=true:=by rw[bne_iff_ne];exact k5
   clear k4 k5
   have HE:=hid (show LT=putL T by rw[←HLT.out];unfold wrapK;rw[if_neg (fun h=>h.elim HKK.out.1 HKK.out.2)])
   have HLEN:=hid (by have h:=HLEN0.out;rw[HE.out]at h;exact h)
   have HPw7:=hid (HX.out _ _ _ HTW0.out (by have:=HLEN.out;(try simp only[LA]at this ⊢);omega))
   go_wp2_with fail
   go_at_call 27
   refine HPw7.out.mono ?_
   rintro e w7 ⟨rfl,ht,hk⟩
   have hb:=hk.boxed HTW0.out HNE.out HBW0.out
   have HBw7:=hid hb;have HTw7:=hid ht;have HKw7:=hid (HKW0.out.trans hk)
   clear ht hk
   obtain⟨c0,c1,c2,c3,c4,c5,c6,-⟩:=blk7 hb
   clear hb
   go_wp2_with fail
   (try simp only[Exit.inBlock,Exit.then]);refine bodyPost_ret (results_none rfl _ _ _) rfl ?_
   exact⟨rfl,by rw[HE.out];exact HTw7.out,HKw7.out⟩
open Go
theorem itoa_dig (n:Nat):Lib.itoa (n:Int)=digL n:=by
 have key:∀n:Nat,Lib.decDigits n=digL n:=by
  intro n
  induction n using Nat.strongRecOn with
  | _ n ih=>
   rw[Lib.decDigits]
   by_cases h:n≤9
   ·rw[digL_small h]
    simp[show n<10 by omega]
   ·rw[digL_big h]
    simp only[show ¬n<10 by omega]
    simp[ih (n / 10) (by omega)]
 unfold Lib.itoa
 rw[if_neg (by omega)]
 simp[key]
theorem good_sign {s:List UInt8}(hs:(signed s || ([[40],[41],[91],[93]]:List (List UInt8)).contains s)=true):Good ⟨4,s,0⟩:=by
 have hk:s=[42]∨s=[47]∨s=[37]∨s=[43]∨s=[45]∨s=[60]∨s=[60,61]∨s=[62]∨s=[62,61]∨s=[61,61]∨s=[33,61]∨s=[38]∨s=[124]∨s=[33]∨s=[40]∨s=[41]∨s=[91]∨s=[93]:=by
  unfold signed at hs
  simp only[List.contains_cons,List.contains_nil,Bool.or_false,Bool.or_eq_true,beq_iff_eq]at hs
  rcases hs with (h|h|h|h|h|h|h|h|h|h|h|h|h|h)|h|h|h|h<;>simp[h]
 refine⟨?_,fun r' hr=>?_⟩
 ·rcases hk with rfl|rfl|rfl|rfl|rfl|rfl|rfl|rfl|rfl|rfl|rfl|rfl|rfl|rfl|rfl|rfl|rfl|rfl<;>exact⟨_,_,rfl,by decide,by decide⟩
 ·have hd:∀d l,r'=d::l→d≠61:=fun d l e=>(stop_word (stopped_head hr (by rw[e];rfl))).2.2
  cases r' with
  |nil=>rcases hk with rfl|rfl|rfl|rfl|rfl|rfl|rfl|rfl|rfl|rfl|rfl|rfl|rfl|rfl|rfl|rfl|rfl|rfl<;>rfl
  | cons d l=>
   have h61:=hd d l rfl
   rcases hk with rfl|rfl|rfl|rfl|rfl|rfl|rfl|rfl|rfl|rfl|rfl|rfl|rfl|rfl|rfl|rfl|rfl|rfl <;>
    (show tokT (_::_)=_;rw[DO,if_neg (by decide),if_neg (by decide),signT_cons,if_pos (by decide)];simp[signN,h61,equalsL])
theorem good_num {n:Nat}(hn:n≤9223372036854775807):Good ⟨3,digL n,n⟩:=by
 obtain⟨c,l,hl⟩:∃c l,digL n=c::l:=by
  cases h:digL n with
  |nil=>exact absurd h (digL_ne n)
  |cons c l=>exact⟨c,l,rfl⟩
 have hc:DA c=true:=digL_all n c (by rw[hl];exact List.mem_cons_self)
 have hc':=hc
 unfold DA at hc'
 simp only[Bool.and_eq_true,decide_eq_true_eq]at hc'
 have hlet:CQ c=false:=by
  unfold CQ
  rw[decide_eq_false (by omega)];rfl
 have hbl:FD c=false:=by
  unfold FD
  simp only[Bool.or_eq_false_iff,BF]
  omega
 refine⟨⟨c,l,hl,hbl,by rintro rfl;exact absurd hc (by decide)⟩,fun r hr=>?_⟩
 have htw:(digL n++r).takeWhile DA=digL n:=takeWhile_stop (digL_all n) fun d hd=>(stop_word (stopped_head hr hd)).2.1
 show tokT (digL n++r)=_
 rw[show digL n++r=c::(l++r) by rw[hl];rfl,DO,hlet,hc]
 simp only[Bool.false_eq_true,if_false,if_true]
 unfold numT
 rw[←List.cons_append,←hl,htw,digL_val,head_app (digL_ne _),if_neg digL_one,if_neg (by omega)]
theorem good_name {nm:List UInt8}(h:CV nm=true):Good ⟨2,nm,0⟩:=by
 unfold CV at h
 simp only[Bool.and_eq_true,decide_eq_true_eq,Bool.not_eq_true']at h
 obtain⟨h1,h2,h3,h4,h5⟩:=h
 cases nm with
 |nil=>exact absurd h1 (by simp)
 | cons c l=>
  have h3:CQ c=true:=h3
  have h3':=h3
  unfold CQ at h3'
  simp only[Bool.and_eq_true,decide_eq_true_eq]at h3'
  refine⟨⟨c,l,rfl,?_,?_⟩,fun r hr=>?_⟩
  ·unfold FD
   simp only[Bool.or_eq_false_iff,BF]
   omega
  ·rintro rfl;exact absurd h3 (by decide)
  ·have hall:∀x∈c::l,FU x=true:=by
    have e:=takeWhile_full h4
    intro x hx
    rw[←e]at hx
    exact takeWhile_all x hx
   have htw:((c::l)++r).takeWhile FU=c::l:=takeWhile_stop hall fun d hd=>(stop_word (stopped_head hr hd)).1
   show tokT (c::(l++r))=_
   rw[DO,if_pos h3]
   unfold wordT
   rw[←List.cons_append,htw,if_neg (by omega),if_neg (by rw[h5];exact NT)]
theorem wp_ownA {P:Program}{l:List Oper}{Q:Exit→Act→World→Prop}{id:Nat}{a:Act}{w:World}(hm:P.follows .mixedOrders=true)(M:Nat→Prop)(hM:∀b,M b→b<w.heap.size)
  (D av ea:Nat→List Nat) (keep:List Nat) (hok:okB l.toArray D av ea keep=true) (sp:Nat→Option Loud)
  (hlex:Lex P l.toArray w.drew M sp av ea (fun a F Fp=>Done w.drew M Q keep a F Fp) l 0 a (fun j W=>j=l.length→∀k,M k→W.heap[k]?=w.heap[k]?) (fun j k=>j=l.length∧M k)):(Code.region id l.toArray true).wp P Q a w:=by
 refine wp_own_lit hm D av ea keep hok sp _ _ _ ?_ ?_ ?_ ?_ hlex
 ·intro j hj
  have hj':j<l.length:=by simpa using hj
  funext w'
  exact propext ⟨fun _=>trivial,fun _ e=>by omega⟩
 ·intro j hj
  have hj':j<l.length:=by simpa using hj
  funext w'
  exact propext ⟨fun h=>by have:=h.1;omega,fun h=>h.elim⟩
 ·intro j hj
  exact⟨fun w1 w2 _ _ _ h hk e k hM=>(h k ⟨e,hM⟩).trans (hk e k hM),fun _ _ _=>rfl,fun b hb=>⟨hM b hb.2,hb.2⟩⟩
 ·intro i j _ _ hij b e1 e2
  have:=e1.1
  have:=e2.1
  omega
theorem Tel.move {B b:Nat}{l:List UInt8}{w w':World}(h:Tel B b l w)(hb:w'.heap[b]?=w.heap[b]?)(hk:∀k,DZ w b=some k→w'.heap[k]?=w.heap[k]?):Tel B b l w':=by
 have key:∀p,Lib.BuilderAtF TT B8 B b p (Lib.byteCells l) w→Lib.BuilderAtF TT B8 B b p (Lib.byteCells l) w':=by
  rintro p ⟨h1,v,h2,⟨h3,h4⟩,h5⟩
  refine⟨h1,v,hb.trans h2,⟨h3,?_⟩,h5⟩
  rcases h4 with h4|⟨g,cap,cur,fz,rfl,r1,r2,r3⟩
  ·exact .inl h4
  ·exact .inr ⟨g,cap,cur,fz,rfl,r1,(hk g (by simp[DZ,World.cell?,h2,Value.ownBlock])).trans r2,r3⟩
 exact h.elim (fun h=>.inl (key _ h)) fun h=>.inr (key _ h)
theorem bufOf_same {w w':World}{b:Nat}(h:w'.heap[b]?=w.heap[b]?):DZ w' b=DZ w b:=by simp[DZ,World.cell?,h]
def sTel (B b:Nat)(l:List UInt8):Loud:={ val:=fun _ _=>.tuple #[],fp:=fun _ g k=>k=b∨g.q=some ⟨k,0,none⟩,post:=fun _ g W=>Tel B b l W∧∀k,DZ W b=some k→g.q=some ⟨k,0,none⟩ }
theorem loud_tel {w:World}{o:Oper}{a:Act}{av ea:List Nat}{F:Nat→World→Prop}{Fp:Nat→Nat→Prop}{B b:Nat}{l:List UInt8}(hT:Tel B b l w)(ss:List (List UInt8))(hlen:l.length+(putL ss).length≤100000000)(g c:Nat)
  (hrun:∀W,(execOp a.eval o).run Tryz.prog W=.ok (.enter 39 #[.pointer (some ⟨b,0,none⟩),.slice (some ⟨g,0,none⟩) ss.length c]) W)
  (j n:Nat) (hj:j∈av) (hn:n∈av) (hne:n∈ea) (hjn:j≠n) (hFj:∀W,F j W→W.heap[g]?=some (.cells (ss.map strV).toArray TStr (0,0))) (hpj:Fp j g)
  (hFn:∀W,F n W→∀k,(k=b∨DZ w b=some k)→W.heap[k]?=w.heap[k]?) (hpn:∀k,Fp n k↔(k=b∨DZ w b=some k)):
  FO Tryz.prog w.drew (fun k=>k=b∨DZ w b=some k) o a (sTel B b (l++putL ss)) av ea F Fp:=by
 refine CL 39 #[.pointer (some ⟨b,0,none⟩),.slice (some ⟨g,0,none⟩) ss.length c] hrun ⟨default,trivial⟩ (fun g' _ w1 w2 _ _ _ h k=>?_) fun W hk hav hdis=>?_
 ·refine⟨k.1.move (h b (.inl rfl)) fun j hj=>h j (.inr (k.2 j hj)),fun j hj=>k.2 j ?_⟩
  rw[bufOf_same (h b (.inl rfl))]at hj
  exact hj
 ·have hb:W.heap[b]?=w.heap[b]?:=hFn W (hav n hn).1 b (.inl rfl)
  have hT2:Tel B b l W:=hT.move hb fun k hk=>hFn W (hav n hn).1 k (.inr hk)
  have hgb:g≠b:=fun e=>hdis j hj n hn hjn g hpj ((hpn g).2 (.inl e))
  have hM:∀k,(k=b∨DZ W b=some k)→∃j∈ea,Fp j k:=fun k hk=>⟨n,hne,(hpn k).2 (by rw[bufOf_same hb]at hk;exact hk)⟩
  refine(put_any B b l ss g c W hT2 (hFj W (hav j hj).1) hgb hlen).mono ?_
  rintro e w' ⟨rfl,ht,htk⟩
  refine⟨{ q:=(DZ w' b).map fun k=>⟨k,0,none⟩ },trivial,rfl,htk.keep.mono hM,fun k hk=>?_,ht,fun k hk=>by rw[hk];rfl⟩
  rcases hk with rfl|hk
  ·exact⟨.inr (hM k (.inl rfl)),ht.le.2⟩
  ·have hk2:DZ w' b=some k:=by
    obtain⟨k',h1,h2⟩:=Option.map_eq_some_iff.1 hk
    rw[h1];cases h2;rfl
   obtain⟨-,-,cs,fz,hc⟩:=ht.buf hk2
   exact⟨(htk.buf k hk2).elim (fun e=>.inr (hM k (.inr e))) fun e=>.inl e,(AG.1 hc).1⟩
theorem TS.region {w0 w W:World}{b:Nat}{l l':List UInt8}{g:Gh}{args:Array Value}(h:TS w0 b l w)(hk:BA (fun k=>k=b∨DZ w b=some k) w.drew W)(hp:(sTel w0.heap.size b l').post args g W)
  (hf:∀k,(sTel w0.heap.size b l').fp args g k→k<W.heap.size∧(w.drew.heap.size≤k∨(k=b∨DZ w b=some k))):TS w0 b l' W∧TelK b w W:=by
 obtain⟨h1,h2⟩:=hp
 have key:TelK b w W:=⟨(BA.drew _ w).trans hk,fun k hk=>by
  obtain⟨-,hne,-⟩:=h1.buf hk
  rcases (hf k (.inr (h2 k hk))).2 with e|e|e
  ·exact .inr e
  ·exact absurd e hne
  ·exact .inl e⟩
 exact⟨h.after h1 key,key⟩
def sStr1 (s:List UInt8):Loud:={ val:=fun _ g=>.slice (some ⟨g.b,0,none⟩) 1 1,fp:=fun _ g k=>k=g.b,post:=fun _ g w=>w.heap[g.b]?=some (.cells #[.string ⟨s.toArray⟩] TStr (0,0)) }
theorem loud_str1 {P:Program}{w0:World}{M:Nat→Prop}{o:Oper}{a:Act}{av ea:List Nat}{F:Nat→World→Prop}{Fp:Nat→Nat→Prop}(s:List UInt8)(hrun:∀w,(execOp a.eval o).run P w=.ok (.value (.slice (some ⟨w.heap.size,0,none⟩) 1 1)) (w.alloc (.cells #[.string ⟨s.toArray⟩] TStr))):FO P w0 M o a (sStr1 s) av ea F Fp:=
 loud_new (fun b=>.slice (some ⟨b,0,none⟩) 1 1) _ rfl (fun _ _=>rfl) (fun _ _ _=>Iff.rfl) (fun _ _ _=>Iff.rfl) hrun
theorem mayK_1 {o n:Int}{nm:List UInt8}{m:Nat}(h:mayK 1 o n nm m=true):0≤n:=by
 unfold mayK at h
 rw[if_pos rfl]at h
 simp only[Bool.and_eq_true,decide_eq_true_eq]at h
 exact h.1
theorem mayK_3 {o n:Int}{nm:List UInt8}{m:Nat}(h:mayK 3 o n nm m=true):m=1:=by
 unfold mayK at h
 rw[if_neg (by decide),if_pos (.inr rfl)]at h
 simp only[Bool.and_eq_true,decide_eq_true_eq]at h
 omega
theorem mayK_4 {o n:Int}{nm:List UInt8}{m:Nat}(h:mayK 4 o n nm m=true):(o=1∨o=2)∧m=1:=by
 unfold mayK at h
 rw[if_neg (by decide),if_neg (by decide),if_pos rfl]at h
 simp only[Bool.and_eq_true,Bool.or_eq_true,decide_eq_true_eq]at h
 exact⟨h.1,h.2.2.2⟩
theorem mayK_5 {k o n:Int}{nm:List UInt8}{m:Nat}(h1:k≠1)(h2:k≠2)(h3:k≠3)(h4:k≠4)(h:mayK k o n nm m=true):k=5∧(1≤o∧o≤13)∧m=2:=by
 unfold mayK at h
 rw[if_neg h1,if_neg (fun e=>e.elim h2 h3),if_neg h4]at h
 split at h
 ·simp only[Bool.and_eq_true,decide_eq_true_eq]at h
  exact⟨by assumption,h.1,h.2.2.2⟩
 ·cases h
theorem gkids_one {w:World}{S:Nat→Prop}{p:Option Addr}{y:Gx}{l:List Gx}(h:FK w S p 0 (y::l)):∃g o vs,p=some ⟨g,o,none⟩∧(∀j v,vs[j]?=some v→w.cell? ⟨g,o+j,none⟩=some v)∧GAt w S vs y:=by
 unfold FK at h
 obtain⟨⟨g,o,vs,h1,-,h3,h4⟩,-⟩:=h
 exact⟨g,o,vs,h1,fun j v hj=>by have:=h3 j v hj;rwa [Nat.zero_mul,Nat.add_zero]at this,h4⟩
theorem gkids_two {w:World}{S:Nat→Prop}{p:Option Addr}{y z:Gx}(h:FK w S p 0 [y,z]):∃g o vs us,p=some ⟨g,o,none⟩∧(∀j v,vs[j]?=some v→w.cell? ⟨g,o+j,none⟩=some v)∧GAt w S vs y∧(∀j v,us[j]?=some v→w.cell? ⟨g,o+7+j,none⟩=some v)∧GAt w S us z:=by
 unfold FK at h
 obtain⟨⟨g,o,vs,h1,-,h3,h4⟩,h5⟩:=h
 unfold FK at h5
 obtain⟨⟨g2,o2,us,h6,-,h8,h9⟩,-⟩:=h5
 rw[h1]at h6
 cases h6
 exact⟨g,o,vs,us,h1,fun j v hj=>by have:=h3 j v hj;rwa [Nat.zero_mul,Nat.add_zero]at this,h4,fun j v hj=>by have:=h8 j v hj;rwa [Nat.zero_add,Nat.one_mul]at this,h9⟩
theorem run_index_arr {P:Program}{t e:TypeId}{n:Nat}{cs:Array Value}{i:Nat}{v:Value}(h:P.underlying t=some (.array n e))(hs:∀w,(sizeOf e).run P w=.ok 1 w)(ha:∀w,(isAgg e).run P w=.ok false w)(hin:i<n)(hv:cs[i]?=some v)(w:World):(Instr.index t (.agg cs) (.int .i64 i)).run P w=.ok v w:=by
 simp[Instr.index,run_underlying h,asIntOf,hin,go_sem,hs,ha,hv]
theorem run_index_signs {op:Nat}(h:op<14)(w:World):(Instr.index TSg (.agg signsV) (.int .i64 op)).run Tryz.prog w=.ok (.string ⟨(GC.getD op []).toArray⟩) w:=
 run_index_arr Tryz.underlying112 Tryz.sizeOf9 Tryz.isAgg9 h (signs_at h) w
theorem run_index_un1 (w:World):(Instr.index 111 (.agg #[.string ⟨#[]⟩,.string ⟨#[45]⟩,.string ⟨#[33]⟩]) (.int .i64 1)).run Tryz.prog w=.ok (.string ⟨#[45]⟩) w:=
 run_index_arr (i:=1) Tryz.underlying111 Tryz.sizeOf9 Tryz.isAgg9 (by decide) rfl w
theorem run_index_un2 (w:World):(Instr.index 111 (.agg #[.string ⟨#[]⟩,.string ⟨#[45]⟩,.string ⟨#[33]⟩]) (.int .i64 2)).run Tryz.prog w=.ok (.string ⟨#[33]⟩) w:=
 run_index_arr (i:=2) Tryz.underlying111 Tryz.sizeOf9 Tryz.isAgg9 (by decide) rfl w
theorem CI (y:Gx)(l:List Gx):tokA (y::l)=tokG y:=by conv=>lhs;unfold tokA
theorem kidA_cons (y:Gx)(l:List Gx):kidA (y::l)=wrapK (kindG y) (tokG y):=by conv=>lhs;unfold kidA
theorem kidB_cons (y:Gx)(l:List Gx):kidB (y::l)=kidA l:=by conv=>lhs;unfold kidB
theorem tok_1 (o n:Int)(nm:List UInt8)(a b:Int)(ks:List Gx):tokG (.mk 1 o n nm a b ks)=[Lib.itoa n]:=by
 conv=>lhs;unfold tokG
 rw[if_pos rfl]
theorem tok_2 (o n:Int)(nm:List UInt8)(a b:Int)(ks:List Gx):tokG (.mk 2 o n nm a b ks)=[nm]:=by
 conv=>lhs;unfold tokG
 rw[if_neg (by decide),if_pos rfl]
theorem tok_3 (o n:Int)(nm:List UInt8)(a b:Int)(y:Gx):tokG (.mk 3 o n nm a b [y])=[nm,[91]]++(tokG y++[[93]]):=by
 conv=>lhs;unfold tokG
 rw[if_neg (by decide),if_neg (by decide),if_pos rfl,CI]
theorem tok_4 (o n:Int)(nm:List UInt8)(a b:Int)(y:Gx):tokG (.mk 4 o n nm a b [y])=[unL o]++wrapK (kindG y) (tokG y):=by
 conv=>lhs;unfold tokG
 rw[if_neg (by decide),if_neg (by decide),if_neg (by decide),if_pos rfl,kidA_cons]
theorem tok_5 (o n:Int)(nm:List UInt8)(a b:Int)(y z:Gx):tokG (.mk 5 o n nm a b [y,z])=wrapK (kindG y) (tokG y)++([signG o]++wrapK (kindG z) (tokG z)):=by
 conv=>lhs;unfold tokG
 rw[if_neg (by decide),if_neg (by decide),if_neg (by decide),if_neg (by decide),kidA_cons,kidB_cons,kidA_cons]
theorem tells_step (w0:World)(hP:TabP w0)(x:Gx)(ih:∀y,CM y<CM x→mayG y=true→fitG y→Tells w0 y)(hmay:mayG x=true)(hfit:fitG x):Tells w0 x:=by
 intro S vs hex b l w ht hlen
 obtain⟨k,o,n,nm,lc,cl,ks⟩:=x
 unfold GAt at hex
 obtain⟨p,c,rfl,hkids⟩:=hex
 unfold mayG at hmay
 rw[Bool.and_eq_true]at hmay
 obtain⟨hm1,hm2⟩:=hmay
 unfold fitG at hfit
 obtain⟨hf1,hf2⟩:=hfit
 have HP:=hid hP
 obtain⟨LT,hLT⟩:∃L,putL (tokG (.mk k o n nm lc cl ks))=L:=⟨_,rfl⟩
 rw[hLT]at hlen ⊢
 have HLT:=hid hLT;have HLEN0:=hid hlen
 clear hLT hlen hP
 unfold strV
 obtain⟨W0,B3,hW,hB,hb3,hk3,hs3⟩:=BC w (.cells #[.int .i64 k,.int .i64 o,.int .i64 n,.string ⟨nm.toArray⟩,.slice p ks.length c,.int .i64 lc,.int .i64 cl] TEx)
 have HTW0:=hid (ht.on hk3);have HKW0:=hid (ht.onK hk3);have HBW0:=hid hb3
 have HNE:=hid (show B3≠b by have:=ht.tel.le;omega)
 clear ht hk3 hs3
 by_cases k1:k=1
 ·subst k1
  have hn:=mayK_1 hm1
  have HNUM:=hid (fun W (h:TS w0 b l W) (hl:l.length+(putL [Lib.itoa n]).length≤100000000)=>h.number HP.out n (by omega) hf1 hl)
  clear ih hm1 hm2 hf1 hf2 hkids hn
  have HE:=hid (show LT=putL [Lib.itoa n] by rw[←HLT.out];rw[tok_1])
  have HLEN:=hid (by have h:=HLEN0.out;rw[HE.out]at h;exact h)
  obtain⟨c0,c1,c2,c3,c4,c5,c6,-⟩:=blk7 hb3
  clear hb3
  go_enter Tryz.func27,Tryz.ntmps27
  go_upto_region 1 with fail
  rw[←hW,←hB]
  clear hW hB
  have HPw1:=hid (HNUM.out _ HTW0.out (by have:=HLEN.out;(try simp only[LA]at this ⊢);omega))
  go_wp2_with fail
  go_at_call 40
  refine HPw1.out.mono ?_
  rintro e w1 ⟨rfl,ht,hk⟩
  have hb:=hk.boxed HTW0.out HNE.out HBW0.out
  have HBw1:=hid hb;have HTw1:=hid ht;have HKw1:=hid (HKW0.out.trans hk)
  clear ht hk
  obtain⟨c0,c1,c2,c3,c4,c5,c6,-⟩:=blk7 hb
  clear hb
  go_wp2_with fail
  go_end0
  exact⟨rfl,by have h:=HTw1.out;rw[HE.out];simpa only[List.append_assoc]using h,HKw1.out⟩
 ·by_cases k2:k=2
  ·subst k2
   clear ih hm1 hm2 hf1 hf2 hkids k1
   have HE:=hid (show LT=putL [nm] by rw[←HLT.out];rw[tok_2])
   have HLEN:=hid (by have h:=HLEN0.out;rw[HE.out]at h;exact h)
   obtain⟨c0,c1,c2,c3,c4,c5,c6,-⟩:=blk7 hb3
   clear hb3
   go_enter Tryz.func27,Tryz.ntmps27
   go_upto_region 1 with fail
   rw[←hW,←hB]
   clear hW hB
   have HPw2:=hid (HTW0.out.put1 nm (by have:=HLEN.out;(try simp only[LA]at this ⊢);omega))
   go_wp2_with fail
   go_at_call 39
   refine HPw2.out.mono ?_
   rintro e w2 ⟨rfl,ht,hk⟩
   have hb:=hk.boxed HTW0.out HNE.out HBW0.out
   have HBw2:=hid hb;have HTw2:=hid ht;have HKw2:=hid (HKW0.out.trans hk)
   clear ht hk
   obtain⟨c0,c1,c2,c3,c4,c5,c6,-⟩:=blk7 hb
   clear hb
   go_wp2_with fail
   go_end0
   exact⟨rfl,by have h:=HTw2.out;rw[HE.out];simpa only[List.append_assoc]using h,HKw2.out⟩
  ·by_cases k3:k=3
   ·subst k3
    have hm:=mayK_3 hm1
    obtain⟨y,rfl⟩:∃y,ks=[y]:=by
     match ks,hm with
     |[y],_=>exact⟨y,rfl⟩
    obtain⟨g,go,vs,rfl,hx,hy⟩:=gkids_one hkids
    have hmy:mayG y=true:=by unfold CR at hm2;rw[Bool.and_eq_true]at hm2;exact hm2.1
    have hfy:fitG y:=by unfold DU at hf2;exact hf2.1
    have HY:=hid (ih y (by simp only[CM,BO];omega) hmy hfy)
    have HYA:=hid hy
    obtain⟨yk,yo,yn,yS,yp,ym,yc,yl,ycl,rfl⟩:=FN hy
    have HX:=hid hx
    clear ih hm1 hm2 hf1 hf2 hkids hx hmy hfy hy hm
    rw[show [y].length=1 from rfl]at hW hb3 HBW0
    clear k1 k2
    have HE:=hid (show LT=putL [nm,[91]]++(putL (tokG y)++putL [[93]]) by rw[←HLT.out];rw[tok_3,BQ,BQ])
    have HLEN:=hid (by have h:=HLEN0.out;rw[HE.out]at h;exact h)
    obtain⟨c0,c1,c2,c3,c4,c5,c6,-⟩:=blk7 hb3
    clear hb3
    go_enter Tryz.func27,Tryz.ntmps27
    go_upto_region 1 with fail
    rw[←hW,←hB]
    clear hW hB
    have HPw3:=hid (HTW0.out.put2 nm [91] (by have:=HLEN.out;(try simp only[LA]at this ⊢);omega))
    go_wp2_with fail
    go_at_call 39
    refine HPw3.out.mono ?_
    rintro e w3 ⟨rfl,ht,hk⟩
    have hb:=hk.boxed HTW0.out HNE.out HBW0.out
    have HBw3:=hid hb;have HTw3:=hid ht;have HKw3:=hid (HKW0.out.trans hk)
    clear ht hk
    obtain⟨c0,c1,c2,c3,c4,c5,c6,-⟩:=blk7 hb
    clear hb
    have x0:=HTw3.out.keep.stay (show w0.cell? ⟨g,go,none⟩=some _ from HX.out 0 _ rfl)
    have x1:=HTw3.out.keep.stay (show w0.cell? ⟨g,go+1,none⟩=some _ from HX.out 1 _ rfl)
    have x2:=HTw3.out.keep.stay (show w0.cell? ⟨g,go+2,none⟩=some _ from HX.out 2 _ rfl)
    have x3:=HTw3.out.keep.stay (show w0.cell? ⟨g,go+3,none⟩=some _ from HX.out 3 _ rfl)
    have x4:=HTw3.out.keep.stay (show w0.cell? ⟨g,go+4,none⟩=some _ from HX.out 4 _ rfl)
    have x5:=HTw3.out.keep.stay (show w0.cell? ⟨g,go+5,none⟩=some _ from HX.out 5 _ rfl)
    have x6:=HTw3.out.keep.stay (show w0.cell? ⟨g,go+6,none⟩=some _ from HX.out 6 _ rfl)
    have HPw4:=hid (HY.out _ _ HYA.out _ _ _ HTw3.out (by have:=HLEN.out;(try simp only[LA]at this ⊢);omega))
    go_wp2_with fail
    go_at_call 27
    refine HPw4.out.mono ?_
    rintro e w4 ⟨rfl,ht,hk⟩
    have hb:=hk.boxed HTw3.out HNE.out HBw3.out
    have HBw4:=hid hb;have HTw4:=hid ht;have HKw4:=hid (HKw3.out.trans hk)
    clear ht hk
    obtain⟨c0,c1,c2,c3,c4,c5,c6,-⟩:=blk7 hb
    clear hb
    clear x0 x1 x2 x3 x4 x5 x6
    have HPw5:=hid (HTw4.out.put1 [93] (by have:=HLEN.out;(try simp only[LA]at this ⊢);omega))
    go_wp2_with fail
    go_at_call 39
    refine HPw5.out.mono ?_
    rintro e w5 ⟨rfl,ht,hk⟩
    have hb:=hk.boxed HTw4.out HNE.out HBw4.out
    have HBw5:=hid hb;have HTw5:=hid ht;have HKw5:=hid (HKw4.out.trans hk)
    clear ht hk
    obtain⟨c0,c1,c2,c3,c4,c5,c6,-⟩:=blk7 hb
    clear hb
    go_wp2_with fail
    go_end0
    exact⟨rfl,by have h:=HTw5.out;rw[HE.out];simpa only[List.append_assoc]using h,HKw5.out⟩
   ·by_cases k4:k=4
    ·subst k4
     obtain⟨ho,hm⟩:=mayK_4 hm1
     obtain⟨y,rfl⟩:∃y,ks=[y]:=by
      match ks,hm with
      |[y],_=>exact⟨y,rfl⟩
     obtain⟨g,go,vs,rfl,hx,hy⟩:=gkids_one hkids
     have hmy:mayG y=true:=by unfold CR at hm2;rw[Bool.and_eq_true]at hm2;exact hm2.1
     have hfy:fitG y:=by unfold DU at hf2;exact hf2.1
     have HY:=hid (ih y (by simp only[CM,BO];omega) hmy hfy)
     have HYA:=hid hy
     obtain⟨yk,yo,yn,yS,yp,ym,yc,yl,ycl,rfl⟩:=FN hy
     have HX:=hid hx
     clear ih hm1 hm2 hf1 hf2 hkids hx hmy hfy hy hm
     rw[show [y].length=1 from rfl]at hW hb3 HBW0
     clear k1 k2 k3
     rcases ho with rfl|rfl
     ·have HE:=hid (show LT=putL [[45]]++putL (wrapK (kindG y) (tokG y)) by rw[←HLT.out];rw[tok_4,BQ];rfl)
      have HLEN:=hid (by have h:=HLEN0.out;rw[HE.out]at h;exact h)
      obtain⟨c0,c1,c2,c3,c4,c5,c6,-⟩:=blk7 hb3
      clear hb3
      go_enter Tryz.func27,Tryz.ntmps27
      go_upto_region 1 with fail
      rw[←hW,←hB]
      clear hW hB
      have hix:=run_index_un1
      have HPw6:=hid (HTW0.out.put1 [45] (by have:=HLEN.out;(try simp only[LA]at this ⊢);omega))
      go_wp2_with fail
      go_at_call 39
      refine HPw6.out.mono ?_
      rintro e w6 ⟨rfl,ht,hk⟩
      have hb:=hk.boxed HTW0.out HNE.out HBW0.out
      have HBw6:=hid hb;have HTw6:=hid ht;have HKw6:=hid (HKW0.out.trans hk)
      clear ht hk
      obtain⟨c0,c1,c2,c3,c4,c5,c6,-⟩:=blk7 hb
      clear hb
      clear hix
      have x0:=HTw6.out.keep.stay (show w0.cell? ⟨g,go,none⟩=some _ from HX.out 0 _ rfl)
      have x1:=HTw6.out.keep.stay (show w0.cell? ⟨g,go+1,none⟩=some _ from HX.out 1 _ rfl)
      have x2:=HTw6.out.keep.stay (show w0.cell? ⟨g,go+2,none⟩=some _ from HX.out 2 _ rfl)
      have x3:=HTw6.out.keep.stay (show w0.cell? ⟨g,go+3,none⟩=some _ from HX.out 3 _ rfl)
      have x4:=HTw6.out.keep.stay (show w0.cell? ⟨g,go+4,none⟩=some _ from HX.out 4 _ rfl)
      have x5:=HTw6.out.keep.stay (show w0.cell? ⟨g,go+5,none⟩=some _ from HX.out 5 _ rfl)
      have x6:=HTw6.out.keep.stay (show w0.cell? ⟨g,go+6,none⟩=some _ from HX.out 6 _ rfl)
      have HPw7:=hid (kid_of w0 y HY.out _ _ HYA.out _ _ _ HTw6.out (by have:=HLEN.out;(try simp only[LA]at this ⊢);omega))
      go_wp2_with fail
      go_at_call 61
      refine HPw7.out.mono ?_
      rintro e w7 ⟨rfl,ht,hk⟩
      have hb:=hk.boxed HTw6.out HNE.out HBw6.out
      have HBw7:=hid hb;have HTw7:=hid ht;have HKw7:=hid (HKw6.out.trans hk)
      clear ht hk
      obtain⟨c0,c1,c2,c3,c4,c5,c6,-⟩:=blk7 hb
      clear hb
      go_wp2_with fail
      go_end0
      exact⟨rfl,by have h:=HTw7.out;rw[HE.out];simpa only[List.append_assoc]using h,HKw7.out⟩
     ·have HE:=hid (show LT=putL [[33]]++putL (wrapK (kindG y) (tokG y)) by rw[←HLT.out];rw[tok_4,BQ];rfl)
      have HLEN:=hid (by have h:=HLEN0.out;rw[HE.out]at h;exact h)
      obtain⟨c0,c1,c2,c3,c4,c5,c6,-⟩:=blk7 hb3
      clear hb3
      go_enter Tryz.func27,Tryz.ntmps27
      go_upto_region 1 with fail
      rw[←hW,←hB]
      clear hW hB
      have hix:=run_index_un2
      have HPw8:=hid (HTW0.out.put1 [33] (by have:=HLEN.out;(try simp only[LA]at this ⊢);omega))
      go_wp2_with fail
      go_at_call 39
      refine HPw8.out.mono ?_
      rintro e w8 ⟨rfl,ht,hk⟩
      have hb:=hk.boxed HTW0.out HNE.out HBW0.out
      have HBw8:=hid hb;have HTw8:=hid ht;have HKw8:=hid (HKW0.out.trans hk)
      clear ht hk
      obtain⟨c0,c1,c2,c3,c4,c5,c6,-⟩:=blk7 hb
      clear hb
      clear hix
      have x0:=HTw8.out.keep.stay (show w0.cell? ⟨g,go,none⟩=some _ from HX.out 0 _ rfl)
      have x1:=HTw8.out.keep.stay (show w0.cell? ⟨g,go+1,none⟩=some _ from HX.out 1 _ rfl)
      have x2:=HTw8.out.keep.stay (show w0.cell? ⟨g,go+2,none⟩=some _ from HX.out 2 _ rfl)
      have x3:=HTw8.out.keep.stay (show w0.cell? ⟨g,go+3,none⟩=some _ from HX.out 3 _ rfl)
      have x4:=HTw8.out.keep.stay (show w0.cell? ⟨g,go+4,none⟩=some _ from HX.out 4 _ rfl)
      have x5:=HTw8.out.keep.stay (show w0.cell? ⟨g,go+5,none⟩=some _ from HX.out 5 _ rfl)
      have x6:=HTw8.out.keep.stay (show w0.cell? ⟨g,go+6,none⟩=some _ from HX.out 6 _ rfl)
      have HPw9:=hid (kid_of w0 y HY.out _ _ HYA.out _ _ _ HTw8.out (by have:=HLEN.out;(try simp only[LA]at this ⊢);omega))
      go_wp2_with fail
      go_at_call 61
      refine HPw9.out.mono ?_
      rintro e w9 ⟨rfl,ht,hk⟩
      have hb:=hk.boxed HTw8.out HNE.out HBw8.out
      have HBw9:=hid hb;have HTw9:=hid ht;have HKw9:=hid (HKw8.out.trans hk)
      clear ht hk
      obtain⟨c0,c1,c2,c3,c4,c5,c6,-⟩:=blk7 hb
      clear hb
      go_wp2_with fail
      go_end0
      exact⟨rfl,by have h:=HTw9.out;rw[HE.out];simpa only[List.append_assoc]using h,HKw9.out⟩
    ·obtain⟨rfl,ho,hm⟩:=mayK_5 k1 k2 k3 k4 hm1
     obtain⟨y,z,rfl⟩:∃y z,ks=[y,z]:=by
      match ks,hm with
      |[y,z],_=>exact⟨y,z,rfl⟩
     obtain⟨g,go,vs,us,rfl,hx,hy,hu,hz⟩:=gkids_two hkids
     have hmy:mayG y=true:=by unfold CR at hm2;rw[Bool.and_eq_true]at hm2;exact hm2.1
     have hmz:mayG z=true:=by unfold CR CR at hm2;rw[Bool.and_eq_true,Bool.and_eq_true]at hm2;exact hm2.2.1
     have hfy:fitG y:=by unfold DU at hf2;exact hf2.1
     have hfz:fitG z:=by unfold DU DU at hf2;exact hf2.2.1
     have HY:=hid (ih y (by simp only[CM,BO];omega) hmy hfy)
     have HZ:=hid (ih z (by simp only[CM,BO];omega) hmz hfz)
     have HYA:=hid hy;have HZA:=hid hz
     obtain⟨yk,yo,yn,yS,yp,ym,yc,yl,ycl,rfl⟩:=FN hy
     obtain⟨zk,zo,zn,zS,zp,zm,zc,zl,zcl,rfl⟩:=FN hz
     have HX:=hid hx;have HU:=hid hu
     clear ih hm1 hm2 hf1 hf2 hkids hx hmy hfy hy hu hmz hfz hz hm k1 k2 k3 k4
     rw[show [y,z].length=2 from rfl]at hW hb3 HBW0
     obtain⟨ho1,ho2⟩:=ho
     obtain⟨op,rfl⟩:∃op:Nat,o=op:=⟨o.toNat,by omega⟩
     have hop:op<14:=by omega
     have HE:=hid (show LT=putL (wrapK (kindG y) (tokG y))++(putL [GC.getD op []]++putL (wrapK (kindG z) (tokG z))) by rw[←HLT.out];rw[tok_5,BQ,BQ];rfl)
     have HLEN:=hid (by have h:=HLEN0.out;rw[HE.out]at h;exact h)
     obtain⟨c0,c1,c2,c3,c4,c5,c6,-⟩:=blk7 hb3
     clear hb3
     go_enter Tryz.func27,Tryz.ntmps27
     go_upto_region 1 with fail
     rw[←hW,←hB]
     clear hW hB
     have HPw10:=hid (kid_of w0 y HY.out _ _ HYA.out _ _ _ HTW0.out (by have:=HLEN.out;(try simp only[LA]at this ⊢);omega))
     have x0:=HTW0.out.keep.stay (show w0.cell? ⟨g,go,none⟩=some _ from HX.out 0 _ rfl)
     have x1:=HTW0.out.keep.stay (show w0.cell? ⟨g,go+1,none⟩=some _ from HX.out 1 _ rfl)
     have x2:=HTW0.out.keep.stay (show w0.cell? ⟨g,go+2,none⟩=some _ from HX.out 2 _ rfl)
     have x3:=HTW0.out.keep.stay (show w0.cell? ⟨g,go+3,none⟩=some _ from HX.out 3 _ rfl)
     have x4:=HTW0.out.keep.stay (show w0.cell? ⟨g,go+4,none⟩=some _ from HX.out 4 _ rfl)
     have x5:=HTW0.out.keep.stay (show w0.cell? ⟨g,go+5,none⟩=some _ from HX.out 5 _ rfl)
     have x6:=HTW0.out.keep.stay (show w0.cell? ⟨g,go+6,none⟩=some _ from HX.out 6 _ rfl)
     go_wp2_with fail
     go_at_call 61
     refine HPw10.out.mono ?_
     rintro e w10 ⟨rfl,ht,hk⟩
     have hb:=hk.boxed HTW0.out HNE.out HBW0.out
     have HBw10:=hid hb;have HTw10:=hid ht;have HKw10:=hid (HKW0.out.trans hk)
     clear ht hk
     obtain⟨c0,c1,c2,c3,c4,c5,c6,-⟩:=blk7 hb
     clear hb
     clear x0 x1 x2 x3 x4 x5 x6
     go_upto_region 3 with fail
     obtain⟨s,hs⟩:∃s,GC.getD op []=s:=⟨_,rfl⟩
     have HIX:=hid (fun W=>run_index_signs hop W)
     rw[hs]at HIX HLEN HE
     clear hs hop
     have d1:=fun W (h:BA (fun k=>k=b∨DZ w10 b=some k) w10.drew W)=>((BA.drew _ w10).trans h).cell c1 (fun e=>e.elim (fun e=>HNE.out e) fun e=>by obtain⟨-,-,cs,fz,hc⟩:=HTw10.out.tel.buf e;have h2:=HBw10.out;rw[hc]at h2;cases h2)
     refine wp_ownA (by kernel_rfl) (fun k=>k=b∨DZ w10 b=some k) (fun k hk=>hk.elim (fun e=>by rw[e];exact HTw10.out.tel.le.2) fun e=>by obtain⟨-,-,cs,fz,hc⟩:=HTw10.out.tel.buf e;exact(AG.1 hc).1) (fun i=>[[],[],[],[2],[1,2,3],[1,2,3,4],[0,1,2,3,4,5]].getD i []) (fun i=>if i=6 then [5,7] else []) (fun i=>if i=6 then [7] else []) [6] (by kernel_rfl) (fun i=>if i=1 then some (BW (.agg signsV)) else if i=5 then some (sStr1 s) else if i=6 then some (sTel w0.heap.size b ((l++putL (wrapK (kindG y) (tokG y)))++putL [s])) else none) ?_
     apply BD rfl rfl
     ·intro w' hk;go_simp;with_reducible rfl
     simp only[Act.put,LS]
     refine BG rfl rfl (CL 62 #[] (fun w=>by kernel_rfl) ⟨default,trivial⟩ (fun g _=>CN _) fun w' hk _ _=>(signs_any w').mono ?_) fun gs _=>?_
     ·rintro e w'' ⟨rfl,hq⟩
      exact⟨default,trivial,rfl,hq.mono fun _ e=>e.elim,fun b h=>h.elim,trivial⟩
     simp only[BW,Act.put,LS]
     apply BD rfl rfl
     ·intro w' hk;go_simp;with_reducible rfl
     simp only[Act.put,LS]
     apply BD rfl rfl
     ·intro w' hk;have e1:=d1 w' hk;go_simp;with_reducible rfl
     simp only[Act.put,LS]
     apply BD rfl rfl
     ·intro w' hk;have e2:=HIX.out w';go_simp;with_reducible rfl
     simp only[Act.put,LS]
     refine BG rfl rfl (loud_str1 s (fun w=>by go_simp)) fun g5 _=>?_
     simp only[sStr1,Act.put,LS]
     refine BG rfl rfl (loud_tel HTw10.out.tel [s] (by have:=HLEN.out;(try simp only[LA]at this ⊢);omega) g5.b 1 (fun W=>by kernel_rfl) 5 7 (by decide) (by decide) (by decide) (by decide) (fun W h=>h) rfl (fun W h=>h rfl) (fun k=>⟨fun h=>h.2,fun h=>⟨rfl,h⟩⟩)) fun g6 _=>?_
     simp only[sTel,Act.put,LS]
     refine CE ?_
     intro WR hkr hF _
     obtain⟨htr,hkr2⟩:=HTw10.out.region (args:=#[]) hkr (hF 6 (by decide)).1 (hF 6 (by decide)).2
     have hb:=hkr2.boxed HTw10.out HNE.out HBw10.out
     have HBWR:=hid hb;have HTWR:=hid htr;have HKWR:=hid (HKw10.out.trans hkr2)
     clear hkr hF htr hkr2 d1 c0 c1 c2 c3 c4 c5 c6
     obtain⟨c0,c1,c2,c3,c4,c5,c6,-⟩:=blk7 hb
     clear hb
     have HPw11:=hid (kid_of w0 z HZ.out _ _ HZA.out _ _ _ HTWR.out (by have:=HLEN.out;(try simp only[LA]at this ⊢);omega))
     have u0:=HTWR.out.keep.stay (show w0.cell? ⟨g,go+7,none⟩=some _ from HU.out 0 _ rfl)
     have u1:=HTWR.out.keep.stay (show w0.cell? ⟨g,go+8,none⟩=some _ from HU.out 1 _ rfl)
     have u2:=HTWR.out.keep.stay (show w0.cell? ⟨g,go+9,none⟩=some _ from HU.out 2 _ rfl)
     have u3:=HTWR.out.keep.stay (show w0.cell? ⟨g,go+10,none⟩=some _ from HU.out 3 _ rfl)
     have u4:=HTWR.out.keep.stay (show w0.cell? ⟨g,go+11,none⟩=some _ from HU.out 4 _ rfl)
     have u5:=HTWR.out.keep.stay (show w0.cell? ⟨g,go+12,none⟩=some _ from HU.out 5 _ rfl)
     have u6:=HTWR.out.keep.stay (show w0.cell? ⟨g,go+13,none⟩=some _ from HU.out 6 _ rfl)
     go_wp2_with fail
     go_at_call 61
     refine HPw11.out.mono ?_
     rintro e w11 ⟨rfl,ht,hk⟩
     have hb:=hk.boxed HTWR.out HNE.out HBWR.out
     have HBw11:=hid hb;have HTw11:=hid ht;have HKw11:=hid (HKWR.out.trans hk)
     clear ht hk
     obtain⟨c0,c1,c2,c3,c4,c5,c6,-⟩:=blk7 hb
     clear hb
     go_wp2_with fail
     go_end0
     exact⟨rfl,by have h:=HTw11.out;rw[HE.out];simpa only[List.append_assoc]using h,HKw11.out⟩
theorem tells_any (w0:World)(hP:TabP w0):∀(f:Nat) (x:Gx),CM x≤f→mayG x=true→fitG x→Tells w0 x
 |0,x,hx,_,_=>by cases x;unfold CM at hx;omega
 |f+1,x,hx,hm,hf=>tells_step w0 hP x (fun y hy h1 h2=>tells_any w0 hP f y (by omega) h1 h2) hm hf
end Go.Proofs.YtomlffobbkcmdaaGreatDoor
