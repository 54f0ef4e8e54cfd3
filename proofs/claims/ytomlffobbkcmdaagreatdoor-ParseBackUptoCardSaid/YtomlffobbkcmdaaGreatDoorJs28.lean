import Derived.Test.YtomlffobbkcmdaaGreatDoorJs27
import Derived.Laws.Strings
set_option maxHeartbeats 16000000
set_option maxRecDepth 4000
namespace Go.Proofs.YtomlffobbkcmdaaGreatDoor
open Go Go.RowKit Own
open Go.Lib (hid)
theorem tel_string {B b:Nat}{l:List UInt8}{w:World}(h:Tel B b l w)(h0:l≠[]):
  Calls Tryz.prog 29 #[.pointer (some ⟨b,0,none⟩)] w fun e w'=>e=.returned (.string ⟨l.toArray⟩)∧BA (fun k=>B≤k) w w':=by
 obtain⟨p,hB,v,hbk,hown,hne⟩:∃p,Lib.BuilderAtF TT B8 B b p (Lib.byteCells l) w:=h.elim (fun h=>⟨_,h⟩) fun h=>⟨_,h⟩
 have hl0:l.length≠0:=by simpa using h0
 rw[Lib.byteCells_length]at hown
 obtain⟨g,cap,cur,fz,rfl,hbg,hg,hfz,hnc,hcm,hcs,htake⟩:∃g cap cur fz,v=.slice (some ⟨g,0,none⟩) l.length cap∧B≤g∧w.heap[g]?=some (.cells cur B8 fz)∧fz.2≤l.length * 1∧l.length≤cap∧cap≤maxLen∧cur.size=cap * 1∧cur.toList.take (l.length * 1)=Lib.byteCells l:=by
  rcases hown.2 with⟨_,hz⟩|⟨g,cap,cur,fz,hv,r⟩
  ·exact absurd hz hl0
  ·exact⟨g,cap,cur,fz,hv,r⟩
 have c1:w.drew.cell? ⟨b,1,none⟩=some (.slice (some ⟨g,0,none⟩) l.length cap):=BJ (w:=w) hbk rfl
 have hSD:(Builtin.unsafeSliceData_ #[63] 114 #[.slice (some ⟨g,0,none⟩) l.length cap]).run Tryz.prog w.drew=.ok (.pointer (some ⟨g,0,none⟩)) w.drew:=
  Lib.run_unsafeSliceData_row _ _ _ _ _ _ (by omega)
 have hUS:(Builtin.unsafeString_ #[114,3] 9 #[.pointer (some ⟨g,0,none⟩),.int .i64 l.length]).run Tryz.prog w.drew=.ok (.string ⟨l.toArray⟩) (w.drew.freeze ⟨g,0,none⟩ l.length):=by
  refine Lib.run_unsafeString_row w.drew 114 3 9 B8 (by kernel_rfl) (by kernel_rfl) g cur.size (by have hg':w.drew.heap[g]?=some (.cells cur B8 fz):=hg;simp[World.shape?,hg']) l h0 (by omega) (by unfold maxLen at hcm;omega) ?_
  intro j x hx
  have:=hown.cells (g:=g) rfl j (.int .u8 x.toNat) (by simp[Lib.byteCells,hx])
  exact this
 have HK:=hid (show BA (fun k=>B≤k) w (w.drew.freeze ⟨g,0,none⟩ l.length)from by
  have hb:=Lib.below_freeze (Below.drew (Below.refl B w)) (p:=⟨g,0,none⟩) hbg l.length
  exact⟨hb.os,hb.tape,hb.output,hb.size,fun k _ hk=>hb.block k (by omega)⟩)
 have mixed:Tryz.prog.follows .mixedOrders=true:=by kernel_rfl
 clear hown htake hcs hcm hnc hfz hg hbk hne h h0
 go_enter Tryz.func29,Tryz.ntmps29
 go_wp2
 go_region_o
 all_goals (go_wp2;go_ret;exact⟨rfl,HK.out⟩)
def trimL (l:List UInt8):List UInt8:=if l.getLast?=some 32 then l.dropLast else l
theorem hasSuffix_snoc (S:ByteArray)(n:Nat)(c:UInt8)(hn:S.size=n+1)(hx:S.extract n (n+1)=⟨#[c]⟩)(hl:n≤1000000000)(w:World):
  Calls Tryz.prog 96 #[.string S,.string ⟨#[32]⟩] w fun e w'=>e=.returned (.bool (decide (c=32)))∧w'=w:=by
 have hW:IntKind.i64.wrap (n:Int)=n:=IntWalk.i64_in _ (by omega)
 have hW1:IntKind.i64.wrap ((n:Int)+1 - 1)=n:=by rw[IntWalk.i64_in _ (by omega)];omega
 have hn0:(0:Int)≤n:=by omega
 go_enter Tryz.func96,Tryz.ntmps96
 have h1:(1:Int)≤n+1:=by omega
 go_wp2
 go_ret
 exact⟨by rw[show decide (c=32)=(c==32)from rfl];rfl,rfl⟩
theorem trim_snoc (S:ByteArray)(n:Nat)(c:UInt8)(hn:S.size=n+1)(hx:S.extract n (n+1)=⟨#[c]⟩)(hl:n≤1000000000)(w:World):
  Calls Tryz.prog 28 #[.string S,.string ⟨#[32]⟩] w fun e w'=>e=.returned (.string (if c=32 then S.extract 0 n else S))∧w'=w:=by
 have HH:=hid (hasSuffix_snoc S n c hn hx hl w)
 have hW1:IntKind.i64.wrap ((n:Int)+1 - 1)=n:=by rw[IntWalk.i64_in _ (by omega)];omega
 have hn0:(0:Int)≤n:=by omega
 have HIN:=hid (show Calls Tryz.prog 63 #[.string S,.string ⟨#[32]⟩] w fun e w'=>e=.returned (.string (if c=32 then S.extract 0 n else S))∧w'=w by
  by_cases h:c=32
  ·rw[if_pos h]
   rw[decide_eq_true h]at HH
   clear h hx
   go_enter Tryz.func63,Tryz.ntmps63
   go_wp2_with (go_at_call 96;refine HH.out.mono ?_;rintro e w1 ⟨rfl,rfl⟩)
   go_ret
   exact⟨rfl,rfl⟩
  ·rw[if_neg h]
   rw[decide_eq_false h]at HH
   clear h hx hn hW1
   go_enter Tryz.func63,Tryz.ntmps63
   go_wp2_with (go_at_call 96;refine HH.out.mono ?_;rintro e w1 ⟨rfl,rfl⟩)
   go_ret
   exact⟨rfl,rfl⟩)
 obtain⟨T,hT⟩:∃T,(if c=32 then S.extract 0 n else S)=T:=⟨_,rfl⟩
 rw[hT]at HIN ⊢
 clear hn hx hl hW1 hT HH
 go_enter Tryz.func28,Tryz.ntmps28
 go_wp2_with (go_at_call 63;refine HIN.out.mono ?_;rintro e w1 ⟨rfl,rfl⟩)
 go_ret
 exact⟨rfl,rfl⟩
theorem trim_any (l:List UInt8)(h0:l≠[])(hl:l.length≤1000000000)(w:World):
  Calls Tryz.prog 28 #[.string ⟨l.toArray⟩,.string ⟨#[32]⟩] w fun e w'=>e=.returned (.string ⟨(trimL l).toArray⟩)∧w'=w:=by
 obtain⟨r,c,rfl⟩:∃r c,l=r++[c]:=⟨l.dropLast,l.getLast h0,(List.dropLast_concat_getLast h0).symm⟩
 have hsz:(⟨(r++[c]).toArray⟩:ByteArray).size=r.length+1:=by show (r++[c]).toArray.size=_;simp
 have hx1:(⟨(r++[c]).toArray⟩:ByteArray).extract r.length (r.length+1)=⟨#[c]⟩:=by
  apply ByteArray.ext
  simp[ByteArray.data_extract]
 have hx2:(⟨(r++[c]).toArray⟩:ByteArray).extract 0 r.length=⟨r.toArray⟩:=by
  apply ByteArray.ext
  simp[ByteArray.data_extract]
 refine(trim_snoc _ r.length c hsz hx1 (by simp at hl;omega) w).mono ?_
 rintro e w' ⟨rfl,rfl⟩
 refine⟨?_,rfl⟩
 rw[hx2]
 unfold trimL
 rw[List.getLast?_concat,List.dropLast_concat]
 by_cases h:c=32
 ·rw[if_pos h,if_pos (by rw[h])]
 ·rw[if_neg h,if_neg (fun e=>h (Option.some.inj e))]
theorem exprText_any (x:Gx)(S:Nat→Prop)(vs:List Value)(w:World)(hex:GAt w S vs x)(hT:TabS w)(hP:TabP w)(hfit:fitG x)(hsz:CM x≤1099511627776)(hlen:mayG x=true→(putL (tokG x)).length≤100000000∧putL (tokG x)≠[]):
  Calls Tryz.prog 10 #[.agg vs.toArray] w fun e w'=>e=.returned (.string ⟨(if mayG x=true then trimL (putL (tokG x)) else []).toArray⟩)∧BA (fun _=>False) w w':=by
 obtain⟨k,o,n,Sm,p,m,c,l,cl,rfl⟩:=FN hex
 obtain⟨V,B1,hV,hB1,hb1,hk1,hs1⟩:=BC w (.cells #[.int .i64 k,.int .i64 o,.int .i64 n,.string Sm,.slice p m c,.int .i64 l,.int .i64 cl] TEx)
 have HM:=hid (mayG_any 1099511627776 x hsz (Nat.le_refl _) V S _ (hk1.tabS hT) (hex.keep hk1 fun _ _ e=>e))
 have HK:=hid hk1
 obtain⟨n0,n1,n2,n3,n4,n5,n6,-⟩:=blk7 hb1
 have HB1:=hid hb1
 by_cases hm:mayG x=true
 ·obtain⟨hl1,hl2⟩:=hlen hm
  rw[if_pos hm]
  rw[hm]at HM
  have HX:=hid (fun (W:World) (hk:BA (fun _=>False) w W)=>tells_any W (hk.tabP hP) 1099511627776 x hsz hm hfit S _ (hex.keep hk fun _ _ e=>e))
  obtain⟨T,hTT⟩:∃T,putL (tokG x)=T:=⟨_,rfl⟩
  have HX:=hid (show ∀(W:World),BA (fun _=>False) w W→∀(b:Nat) (w1:World),TS W b [] w1→Calls Tryz.prog 27 #[.pointer (some ⟨b,0,none⟩),.agg #[.int .i64 k,.int .i64 o,.int .i64 n,.string Sm,.slice p m c,.int .i64 l,.int .i64 cl]] w1 fun e w'=>e=.returned (.tuple #[])∧TS W b T w'∧TelK b w1 w' from fun W hk b w1 ht=>by
   have:=HX.out W hk b [] w1 ht (by simpa using hl1)
   rw[hTT]at this
   simpa using this)
  rw[hTT]at hl1 hl2 ⊢
  have HL1:=hid hl1;have HL2:=hid hl2
  clear hex hT hP hfit hsz hlen hm hl1 hl2 hTT hb1 hk1 hs1
  go_enter Tryz.func10,Tryz.ntmps10
  go_upto_region 1 with fail
  rw[←hV,←hB1]
  clear hV hB1
  go_wp2_with fail
  go_at_call 26
  refine HM.out.mono ?_
  rintro e w1 ⟨rfl,hk2⟩
  obtain⟨W,b,hW,hb,hbb,hkW,hsW⟩:=BC w1 (.cells #[.pointer none,.slice none 0 0] TT)
  have HK1:=hid (HK.out.trans hk2)
  have HT0:=hid (show TS w1 b [] W from⟨hkW,Lib.IsBuilderF.of (.inl ⟨by omega,_,hbb,World.ownsRow_nil _ _ _ _,by simp[Value.ownBlock]⟩)⟩)
  have HBW:=hid ((hk2.trans hkW).blk HB1.out)
  have HNE:=hid (show B1≠b by
   have h1:=(AG.1 (hk2.blk HB1.out)).1
   omega)
  obtain⟨n0,n1,n2,n3,n4,n5,n6,-⟩:=blk7 HBW.out
  clear hk2 hbb hkW hsW
  go_upto_region 4 with fail
  rw[←hW,←hb]
  clear hW hb
  go_wp2_with fail
  go_at_call 27
  refine(HX.out w1 HK1.out b W HT0.out).mono ?_
  rintro e w2 ⟨rfl,ht2,hk2⟩
  have HT2:=hid ht2
  have HST:=hid (tel_string ht2.tel HL2.out)
  clear ht2 hk2
  go_wp2_with fail
  go_at_call 29
  refine HST.out.mono ?_
  rintro e w3 ⟨rfl,hk3⟩
  have HK3:=hid (HK1.out.trans (HT2.out.keep.new hk3 fun _ e=>e))
  have HTR:=hid (trim_any T HL2.out (by have:=HL1.out;omega) w3)
  clear hk3
  go_wp2_with fail
  go_at_call 28
  refine HTR.out.mono ?_
  rintro e w4 ⟨rfl,rfl⟩
  go_wp2_with fail
  go_ret
  exact⟨rfl,HK3.out⟩
 ·rw[if_neg hm]
  rw[Bool.not_eq_true]at hm
  rw[hm]at HM
  clear hex hT hP hfit hsz hlen hm hb1 hk1 hs1
  go_enter Tryz.func10,Tryz.ntmps10
  go_upto_region 1 with fail
  rw[←hV,←hB1]
  clear hV hB1
  go_wp2_with (go_at_call 26;refine HM.out.mono ?_;rintro e w1 ⟨rfl,hk2⟩;have HK2:=hid hk2;clear hk2)
  go_ret
  exact⟨rfl,HK.out.trans HK2.out⟩
open Go
def sgT (s:List UInt8):Tok:=⟨4,s,0⟩
def wrapT (k:Int)(ts:List Tok):List Tok:=if k=4∨k=5 then sgT [40]::(ts++[sgT [41]]) else ts
mutual
def tksG:Gx→List Tok
 | .mk k o n nm _ _ ks=>
  if k=1 then [⟨3,digL n.toNat,n.toNat⟩]
  else if k=2 then [⟨2,nm,0⟩]
  else if k=3 then [⟨2,nm,0⟩,sgT [91]]++(tksA ks++[sgT [93]])
  else if k=4 then [sgT (unL o)]++tkA ks
  else tkA ks++([sgT (signG o)]++tkB ks)
def tksA:List Gx→List Tok
 |[]=>[]
 |x::_=>tksG x
def tkA:List Gx→List Tok
 |[]=>[]
 |x::_=>wrapT (kindG x) (tksG x)
def tkB:List Gx→List Tok
 |[]=>[]
 |_::l=>tkA l
end
def TokX (t:Tok):Prop:=Good t∧sepL t.text=32
theorem tokx_sign {s:List UInt8}(hs:(signed s || ([[40],[41],[91],[93]]:List (List UInt8)).contains s)=true):TokX (sgT s):=by
 refine⟨good_sign hs,?_⟩
 unfold signed at hs
 simp only[List.contains_cons,List.contains_nil,Bool.or_false,Bool.or_eq_true,beq_iff_eq]at hs
 rcases hs with (h|h|h|h|h|h|h|h|h|h|h|h|h|h)|h|h|h|h<;>(subst h;rfl)
theorem tokx_num {n:Nat}(hn:n≤9223372036854775807):TokX ⟨3,digL n,n⟩:=by
 refine⟨good_num hn,?_⟩
 show sepL (digL n)=32
 have h:=digL_all n
 unfold sepL
 rw[if_neg]
 rintro (e|e|e)<;>(rw[e]at h;exact absurd (h _ List.mem_cons_self) (by decide))
theorem tokx_name {nm:List UInt8}(hn:CV nm=true):TokX ⟨2,nm,0⟩:=by
 refine⟨good_name hn,?_⟩
 show sepL nm=32
 unfold sepL
 rw[if_neg]
 rintro (rfl|rfl|rfl)<;>exact absurd hn (by decide)
theorem may_kinds {k o n:Int}{nm:List UInt8}{l c:Int}{ks:List Gx}(h:mayG (.mk k o n nm l c ks)=true):
  (k=1∧0≤n∧nm=[]∧o=0∧ks=[])∨(k=2∧CV nm=true∧n=0∧o=0∧ks=[])∨(k=3∧CV nm=true∧n=0∧o=0∧∃a,ks=[a]∧mayG a=true)∨
  (k=4∧(o=1∨o=2)∧n=0∧nm=[]∧∃a,ks=[a]∧mayG a=true)∨(k=5∧1≤o∧o≤13∧n=0∧nm=[]∧∃a b,ks=[a,b]∧mayG a=true∧mayG b=true):=by
 unfold mayG mayK at h
 rw[Bool.and_eq_true]at h
 obtain⟨h,hk⟩:=h
 have one:∀{l:List Gx},CR l=true→l.length=1→∃a,l=[a]∧mayG a=true:=fun {l} h e=>by
  match l,e with
  |[a],_=>unfold CR at h;rw[Bool.and_eq_true]at h;exact⟨a,rfl,h.1⟩
 have two:∀{l:List Gx},CR l=true→l.length=2→∃a b,l=[a,b]∧mayG a=true∧mayG b=true:=fun {l} h e=>by
  match l,e with
  |[a,b],_=>unfold CR CR at h;simp only[Bool.and_eq_true]at h;exact⟨a,b,rfl,h.1,h.2.1⟩
 split at h
 ·simp only[Bool.and_eq_true,decide_eq_true_eq]at h
  exact .inl ⟨by assumption,h.1,h.2.1,h.2.2.1,List.eq_nil_of_length_eq_zero h.2.2.2⟩
 ·split at h
  ·rename_i h23
   simp only[Bool.and_eq_true,decide_eq_true_eq]at h
   obtain⟨h1,h2,h3,h4⟩:=h
   rcases h23 with rfl|rfl
   ·exact .inr (.inl ⟨rfl,h1,h2,h3,List.eq_nil_of_length_eq_zero (by omega)⟩)
   ·exact .inr (.inr (.inl ⟨rfl,h1,h2,h3,one hk (by omega)⟩))
  ·split at h
   ·simp only[Bool.and_eq_true,Bool.or_eq_true,decide_eq_true_eq]at h
    exact .inr (.inr (.inr (.inl ⟨by assumption,h.1,h.2.1,h.2.2.1,one hk h.2.2.2⟩)))
   ·split at h
    ·simp only[Bool.and_eq_true,decide_eq_true_eq]at h
     exact .inr (.inr (.inr (.inr ⟨by assumption,h.1.1,h.1.2,h.2.1,h.2.2.1,two hk h.2.2.2⟩)))
    ·cases h
theorem wrapT_text (k:Int)(ts:List Tok):(wrapT k ts).map Tok.text=wrapK k (ts.map Tok.text):=by
 unfold wrapT wrapK
 split<;>simp[sgT]
theorem wrapT_all {P:Tok→Prop}(h1:P (sgT [40]))(h2:P (sgT [41])){k:Int}{ts:List Tok}(h:∀t∈ts,P t):∀t∈wrapT k ts,P t:=by
 unfold wrapT
 split
 ·intro t ht
  simp only[List.mem_cons,List.mem_append,List.not_mem_nil,or_false]at ht
  rcases ht with rfl|ht|rfl
  ·exact h1
  ·exact h t ht
  ·exact h2
 ·exact h
theorem tks_all:∀(n:Nat) (x:Gx),CM x≤n→mayG x=true→fitG x→(tksG x).map Tok.text=tokG x∧(∀t∈tksG x,TokX t)∧tksG x≠[]
 |0,x,h,_,_=>by cases x;unfold CM at h;omega
 | f+1,.mk k o n nm l c ks,h,hm,hf=>by
  unfold fitG at hf
  have p40:TokX (sgT [40]):=tokx_sign (by decide)
  have p41:TokX (sgT [41]):=tokx_sign (by decide)
  unfold CM at h
  rcases may_kinds hm with⟨rfl,h1,rfl,rfl,rfl⟩|⟨rfl,h1,rfl,rfl,rfl⟩|⟨rfl,h1,rfl,rfl,a,rfl,ha⟩|⟨rfl,h1,rfl,rfl,a,rfl,ha⟩|⟨rfl,h1,h2,rfl,rfl,a,b,rfl,ha,hb⟩
  ·unfold tksG tokG
   simp only[if_true]
   obtain⟨m,rfl⟩:∃m:Nat,n=m:=⟨n.toNat,by omega⟩
   refine⟨by rw[itoa_dig];simp,fun t ht=>?_,by simp⟩
   rw[List.mem_singleton]at ht
   subst ht
   exact tokx_num (by have:=hf.1;omega)
  ·unfold tksG tokG
   rw[if_neg (by decide),if_pos rfl,if_neg (by decide),if_pos rfl]
   refine⟨rfl,fun t ht=>?_,by simp⟩
   rw[List.mem_singleton]at ht
   subst ht
   exact tokx_name h1
  ·have hfa:fitG a:=by have:=hf.2;unfold DU at this;exact this.1
   have ih:=tks_all f a (by unfold BO at h;omega) ha hfa
   unfold tksG tokG tksA tokA
   rw[if_neg (by decide),if_neg (by decide),if_pos rfl,if_neg (by decide),if_neg (by decide),if_pos rfl]
   refine⟨by simp[ih.1,sgT],fun t ht=>?_,by simp⟩
   simp only[List.mem_append,List.mem_cons,List.not_mem_nil,or_false]at ht
   rcases ht with (rfl|rfl)|ht|rfl
   ·exact tokx_name h1
   ·exact tokx_sign (by decide)
   ·exact ih.2.1 t ht
   ·exact tokx_sign (by decide)
  ·have hfa:fitG a:=by have:=hf.2;unfold DU at this;exact this.1
   have ih:=tks_all f a (by unfold BO at h;omega) ha hfa
   unfold tksG tokG tkA kidA
   rw[if_neg (by decide),if_neg (by decide),if_neg (by decide),if_pos rfl,if_neg (by decide),if_neg (by decide),if_neg (by decide),if_pos rfl]
   refine⟨by simp[wrapT_text,ih.1,sgT],fun t ht=>?_,by simp⟩
   rcases List.mem_append.1 ht with ht|ht
   ·rw[List.mem_singleton]at ht
    subst ht
    rcases h1 with rfl|rfl<;>exact tokx_sign (by decide)
   ·exact wrapT_all p40 p41 ih.2.1 t ht
  ·have hfa:fitG a∧fitG b:=by have:=hf.2;unfold DU DU at this;exact⟨this.1,this.2.1⟩
   unfold BO BO at h
   have iha:=tks_all f a (by omega) ha hfa.1
   have ihb:=tks_all f b (by omega) hb hfa.2
   unfold tksG tokG tkA kidA tkB kidB tkA kidA
   rw[if_neg (by decide),if_neg (by decide),if_neg (by decide),if_neg (by decide),if_neg (by decide),if_neg (by decide),if_neg (by decide),if_neg (by decide)]
   obtain⟨m,rfl⟩:∃m:Nat,o=m:=⟨o.toNat,by omega⟩
   have hs:signed (signG (m:Int))=true:=by unfold signG;rw[Int.toNat_natCast];exact sign_signed (by omega) (by omega)
   refine⟨by simp[wrapT_text,iha.1,ihb.1,sgT],fun t ht=>?_,by simp⟩
   rcases List.mem_append.1 ht with ht|ht
   ·exact wrapT_all p40 p41 iha.2.1 t ht
   ·rcases List.mem_append.1 ht with ht|ht
    ·rw[List.mem_singleton]at ht
     subst ht
     exact tokx_sign (by rw[hs];rfl)
    ·exact wrapT_all p40 p41 ihb.2.1 t ht
mutual
def sameG:Gx→Gx→Bool
 |.mk k o n nm _ _ ks,.mk k' o' n' nm' _ _ ks'=>decide (k=k') && (decide (o=o') && (decide (n=n') && (decide (nm=nm') && DM ks ks')))
def DM:List Gx→List Gx→Bool
 |[],[]=>true
 |x::a,y::b=>sameG x y && DM a b
 |_,_=>false
end
theorem sameGL_len:∀{a b:List Gx},a.length≠b.length→DM a b=false
 |[],[],h=>absurd rfl h
 | x::a,y::b,h=>by
  unfold DM
  rw[sameGL_len (a:=a) (b:=b) (by simpa using h),Bool.and_false]
 |[],_::_,_=>by unfold DM;rfl
 |_::_,[],_=>by unfold DM;rfl
theorem sameGL_all:∀{a b:List Gx},a.length=b.length→(∀i (h:i<a.length) (h':i<b.length),sameG a[i] b[i]=true)→DM a b=true
 |[],[],_,_=>by unfold DM;rfl
 | x::a,y::b,h,ha=>by
  unfold DM
  rw[show sameG x y=true from ha 0 (by simp) (by simp),sameGL_all (a:=a) (b:=b) (by simpa using h) fun i h1 h2=>ha (i+1) (by simpa using h1) (by simpa using h2)]
  rfl
 |[],_::_,h,_=>by cases h
 |_::_,[],h,_=>by cases h
theorem sameGL_at:∀{a b:List Gx}(i:Nat) (h:i<a.length) (h':i<b.length),sameG a[i] b[i]=false→DM a b=false
 | x::a,y::b,0,_,_,e=>by
  unfold DM
  rw[show sameG x y=false from e];rfl
 | x::a,y::b,i+1,h,h',e=>by
  unfold DM
  rw[sameGL_at (a:=a) (b:=b) i (by simpa using h) (by simpa using h') e,Bool.and_false]
 |[],_,_,h,_,_=>by cases h
 |_::_,[],_,_,h,_=>by cases h
def SaysG (x:Gx):Prop:=∀(y:Gx) (w:World) (S T:Nat→Prop) (vs us:List Value),GAt w S vs x→GAt w T us y→
 Calls Tryz.prog 13 #[.agg vs.toArray,.agg us.toArray] w fun e w'=>e=.returned (.bool (sameG x y))∧BA (fun _=>False) w w'
theorem equalG_any (l m:List Gx)(hS:∀i (h:i<l.length),SaysG l[i])(hl:l.length≤1099511627776)(w:World)(S T:Nat→Prop)(p q:Option Addr)(c d:Nat)(hp:FK w S p 0 l)(hq:FK w T q 0 m):
  Calls Tryz.prog 35 #[.slice p l.length c,.slice q m.length d,.func (.func 13) #[] #[]] w fun e w'=>e=.returned (.bool (DM l m))∧BA (fun _=>False) w w':=by
 have HS:=hid hS;have HP:=hid hp;have HQ:=hid hq
 clear hS hp hq
 by_cases hne:l.length=m.length
 ·have hnb:((l.length:Int) != (m.length:Int))=false:=by simp[hne]
  have HNE:=hid hne
  clear hne
  go_enter Tryz.func35,Tryz.ntmps35
  go_wp2_with fail
  clear hnb
  go_loopw [17] (fun v17 wr=>∃i:Nat,v17=.int .i64 i∧i≤l.length∧(∀j,(hj:j<i)→(h:j<l.length)→(h':j<m.length)→sameG l[j] m[j]=true)∧BA (fun _=>False) w wr) (fun v _=>l.length - (intOf v).toNat)
  case atStart=>exact⟨0,rfl,Nat.zero_le _,fun j h=>absurd h (Nat.not_lt_zero _),BA.refl _ _⟩
  case round=>
   obtain⟨i,rfl,hi,hall,hk⟩:=hrel
   have HALL:=hid hall;have HK:=hid hk
   by_cases hlt:i<l.length
   ·have hltm:i<m.length:=by have:=HNE.out;omega
    have hlti:(i:Int)<l.length:=by omega
    have hltj:(i:Int)<m.length:=by omega
    have hi0:(0:Int)≤i:=by omega
    have hWi:IntKind.i64.wrap ((i:Int)+1)=(i:Int)+1:=IntWalk.i64_in _ (by omega)
    obtain⟨g,o,vs,hp,hc,hex⟩:=gkids_get (HP.out.keep hk fun _ _ e=>e) i hlt
    subst hp
    rw[Nat.zero_add]at hc
    obtain⟨yk,yo,yn,yS,yp,ym,yc,yl,ycl,rfl⟩:=FN hex
    have x0:wr.cell? ⟨g,o+i * 7,none⟩=some (.int .i64 yk):=hc 0 _ rfl
    have x1:=hc 1 _ rfl;have x2:=hc 2 _ rfl;have x3:=hc 3 _ rfl;have x4:=hc 4 _ rfl;have x5:=hc 5 _ rfl;have x6:=hc 6 _ rfl
    obtain⟨W,C,hW,hC,hcb,hkc,hsc⟩:=BC wr (.cells #[.int .i64 yk,.int .i64 yo,.int .i64 yn,.string yS,.slice yp ym yc,.int .i64 yl,.int .i64 ycl] TEx)
    obtain⟨g2,o2,us,hq,hc2,hex2⟩:=gkids_get (HQ.out.keep (hk.trans hkc) fun _ _ e=>e) i hltm
    subst hq
    rw[Nat.zero_add]at hc2
    obtain⟨zk,zo,zn,zS,zp,zm,zc,zl,zcl,rfl⟩:=FN hex2
    have y0:W.cell? ⟨g2,o2+i * 7,none⟩=some (.int .i64 zk):=hc2 0 _ rfl
    have y1:=hc2 1 _ rfl;have y2:=hc2 2 _ rfl;have y3:=hc2 3 _ rfl;have y4:=hc2 4 _ rfl;have y5:=hc2 5 _ rfl;have y6:=hc2 6 _ rfl
    obtain⟨W2,D,hW2,hD,hdb,hkd,hsd⟩:=BC W (.cells #[.int .i64 zk,.int .i64 zo,.int .i64 zn,.string zS,.slice zp zm zc,.int .i64 zl,.int .i64 zcl] TEx)
    have HCA:=hid (HS.out i hlt m[i] W2 S T _ _ ((hex.keep hkc fun _ _ e=>e).keep hkd fun _ _ e=>e) (hex2.keep hkd fun _ _ e=>e))
    have HAT:=hid (fun e=>sameGL_at (a:=l) (b:=m) i hlt hltm e)
    obtain⟨r,hr⟩:∃r,sameG l[i] m[i]=r:=⟨_,rfl⟩
    rw[hr]at HCA
    have HR:=hid hr
    have HKC:=hid (hkc.trans hkd)
    obtain⟨m0,m1,m2,m3,m4,m5,m6,-⟩:=blk7 (hkd.blk hcb)
    obtain⟨n0,n1,n2,n3,n4,n5,n6,-⟩:=blk7 hdb
    clear hc hex hc2 hex2 hk hall hsc hsd hcb hdb hkc hkd hr
    go_upto_region 6 with fail
    rw[←hW,←hC]
    clear hW hC x0 x1 x2 x3 x4 x5 x6
    go_upto_region 7 with fail
    rw[←hW2,←hD]
    clear hW2 hD y0 y1 y2 y3 y4 y5 y6
    cases r with
    | true=>
     go_wp2_with (go_at_call 13;refine HCA.out.mono ?_;rintro e w5 ⟨rfl,hk5⟩;have HK5:=hid hk5;clear hk5)
     exact⟨⟨i+1,by simp,by omega,fun j hj h h'=>by
      by_cases e:j=i
      ·subst e;exact HR.out
      ·exact HALL.out j (by omega) h h',(HK.out.trans HKC.out).trans HK5.out⟩,by simp only[intOf];omega⟩
    | false=>
     go_wp2_with (go_at_call 13;refine HCA.out.mono ?_;rintro e w5 ⟨rfl,hk5⟩;have HK5:=hid hk5;clear hk5)
     go_ret
     exact⟨by rw[HAT.out HR.out];rfl,(HK.out.trans HKC.out).trans HK5.out⟩
   ·have hnl:¬(i:Int)<l.length:=by omega
    clear hk hall
    go_wp2_with fail
    go_ret
    exact⟨by rw[sameGL_all HNE.out fun j h h'=>HALL.out j (by omega) h h'];rfl,HK.out⟩
 ·have hnb:((l.length:Int) != (m.length:Int))=true:=by simpa using fun e:(l.length:Int)=m.length=>hne (by omega)
  have HNE:=hid hne
  clear hne
  go_enter Tryz.func35,Tryz.ntmps35
  go_wp2_with fail
  go_ret
  exact⟨by rw[sameGL_len HNE.out];rfl,BA.refl _ _⟩
theorem saysG_any:∀(n:Nat) (x:Gx),CM x≤n→n≤1099511627776→SaysG x:=by
 intro n
 induction n with
 |zero=>intro x hx;cases x;unfold CM at hx;omega
 | succ n ih=>
  intro x hx hn y w S T vs us hex hey
  obtain⟨xk,xo,xn,xm,xl,xc,ks⟩:=x
  obtain⟨yk,yo,yn,ym,yl,yc,ls⟩:=y
  unfold GAt at hex hey
  obtain⟨p,c,rfl,hp⟩:=hex
  obtain⟨q,d,rfl,hq⟩:=hey
  have hsz:BO ks≤n:=by unfold CM at hx;omega
  have hlen:=glen_size ks
  obtain⟨V1,B1,hV1,hB1,hb1,hk1,hs1⟩:=BC w (.cells #[.int .i64 xk,.int .i64 xo,.int .i64 xn,strV xm,.slice p ks.length c,.int .i64 xl,.int .i64 xc] TEx)
  obtain⟨V,B2,hV,hB2,hb2,hk2,hs2⟩:=BC V1 (.cells #[.int .i64 yk,.int .i64 yo,.int .i64 yn,strV ym,.slice q ls.length d,.int .i64 yl,.int .i64 yc] TEx)
  have hk:=hk1.trans hk2
  have HEQ:=hid (equalG_any ks ls (fun i h=>ih ks[i] (by have:=gsize_mem h;omega) (by omega)) (by omega) V S T p q c d (hp.keep hk fun _ _ e=>e) (hq.keep hk fun _ _ e=>e))
  have h12:B1+1=B2:=by omega
  have HK:=hid hk;have HB1:=hid (hk2.blk hb1);have HB2:=hid hb2
  obtain⟨sm,hsm⟩:∃b,DM ks ls=b:=⟨_,rfl⟩
  have hsame:sameG (.mk xk xo xn xm xl xc ks) (.mk yk yo yn ym yl yc ls)=(decide (xk=yk) && (decide (xo=yo) && (decide (xn=yn) && (decide (xm=ym) && sm)))):=by unfold sameG;rw[hsm]
  rw[hsame]
  rw[hsm]at HEQ
  unfold strV at HB1 HB2 hV1 hV ⊢
  clear ih hx hn hp hq hsz hlen hb1 hb2 hk1 hk2 hs1 hs2 hk hsm hsame
  by_cases h1:xk=yk
  ·subst h1
   rw[decide_eq_true (rfl:xk=xk),Bool.true_and]
   by_cases h2:xo=yo
   ·subst h2
    rw[decide_eq_true (rfl:xo=xo),Bool.true_and]
    by_cases h3:xn=yn
    ·subst h3
     rw[decide_eq_true (rfl:xn=xn),Bool.true_and]
     by_cases h4:xm=ym
     ·subst h4
      rw[decide_eq_true (rfl:xm=xm),Bool.true_and]
      obtain⟨n0,n1,n2,n3,n4,n5,n6,-⟩:=blk7 HB1.out
      obtain⟨m0,m1,m2,m3,m4,m5,m6,-⟩:=blk7 HB2.out
      go_enter Tryz.func13,Tryz.ntmps13
      go_upto_region 1 with fail
      rw[←hV1,←hB1,←hV,h12]
      clear hV1 hB1 hV hB2 h12
      go_wp2_with (go_at_call 35;refine HEQ.out.mono ?_;rintro e w5 ⟨rfl,hk5⟩;have HK5:=hid hk5;clear hk5)
      go_ret
      exact⟨rfl,HK.out.trans HK5.out⟩
     ·rw[decide_eq_false h4,Bool.false_and]
      obtain⟨n0,n1,n2,n3,n4,n5,n6,-⟩:=blk7 HB1.out
      obtain⟨m0,m1,m2,m3,m4,m5,m6,-⟩:=blk7 HB2.out
      go_enter Tryz.func13,Tryz.ntmps13
      go_upto_region 1 with fail
      rw[←hV1,←hB1,←hV,h12]
      clear hV1 hB1 hV hB2 h12
      go_wp2_with fail
      go_ret
      exact⟨rfl,HK.out⟩
    ·rw[decide_eq_false h3,Bool.false_and]
     have h3b:((xn:Int)==(yn:Int))=false:=by rw[BF];omega
     obtain⟨n0,n1,n2,n3,n4,n5,n6,-⟩:=blk7 HB1.out
     obtain⟨m0,m1,m2,m3,m4,m5,m6,-⟩:=blk7 HB2.out
     go_enter Tryz.func13,Tryz.ntmps13
     go_upto_region 1 with fail
     rw[←hV1,←hB1,←hV,h12]
     clear hV1 hB1 hV hB2 h12
     go_wp2_with fail
     go_ret
     exact⟨rfl,HK.out⟩
   ·rw[decide_eq_false h2,Bool.false_and]
    have h2b:((xo:Int)==(yo:Int))=false:=by rw[BF];omega
    obtain⟨n0,n1,n2,n3,n4,n5,n6,-⟩:=blk7 HB1.out
    obtain⟨m0,m1,m2,m3,m4,m5,m6,-⟩:=blk7 HB2.out
    go_enter Tryz.func13,Tryz.ntmps13
    go_upto_region 1 with fail
    rw[←hV1,←hB1,←hV,h12]
    clear hV1 hB1 hV hB2 h12
    go_wp2_with fail
    go_ret
    exact⟨rfl,HK.out⟩
  ·rw[decide_eq_false h1,Bool.false_and]
   have h1b:((xk:Int)==(yk:Int))=false:=by rw[BF];omega
   obtain⟨n0,n1,n2,n3,n4,n5,n6,-⟩:=blk7 HB1.out
   obtain⟨m0,m1,m2,m3,m4,m5,m6,-⟩:=blk7 HB2.out
   go_enter Tryz.func13,Tryz.ntmps13
   go_upto_region 1 with fail
   rw[←hV1,←hB1,←hV,h12]
   clear hV1 hB1 hV hB2 h12
   go_wp2_with fail
   go_ret
   exact⟨rfl,HK.out⟩
def LikeX (y:Ex)(x:Gx):Prop:=sameG (toG y) x=true∧DK y=CM x∧exDeep y=FY x
def EndR (R:List Item):Prop:=R=[]∨∃t r,R=t::r∧(t.tok=sgT [41]∨t.tok=sgT [93]∨t.tok=sgT [59]∨t.tok=sgT [123])
theorem opsAt_end (s:List UInt8)(hs:s=[41]∨s=[93]∨s=[59]∨s=[123]):∀l,(opsAt l).find? (fun k=>isT (sgT s) (GC.getD k []))=none
 |0=>by rcases hs with rfl|rfl|rfl|rfl<;>decide
 |1=>by rcases hs with rfl|rfl|rfl|rfl<;>decide
 |2=>by rcases hs with rfl|rfl|rfl|rfl<;>decide
 |3=>by rcases hs with rfl|rfl|rfl|rfl<;>decide
 |4=>by rcases hs with rfl|rfl|rfl|rfl<;>decide
 |l+5=>by rcases hs with rfl|rfl|rfl|rfl<;>(show ([13]:List Nat).find? _=none;decide)
theorem EndR.op {R:List Item}(h:EndR R)(l:Nat):opOf (opsAt l) R=none:=by
 rcases h with rfl|⟨t,r,rfl,h⟩
 ·exact opOf_nil _
 ·show (opsAt l).find? (fun k=>isT t.tok (GC.getD k []))=none
  rcases h with h|h|h|h<;>rw[h]
  ·exact opsAt_end _ (.inl rfl) l
  ·exact opsAt_end _ (.inr (.inl rfl)) l
  ·exact opsAt_end _ (.inr (.inr (.inl rfl))) l
  ·exact opsAt_end _ (.inr (.inr (.inr rfl))) l
theorem EndR.nb {R:List Item}(h:EndR R):BI R [91]=false:=by
 rcases h with rfl|⟨t,r,rfl,h⟩
 ·rfl
 ·show isT t.tok [91]=false
  rcases h with h|h|h|h<;>(rw[h];decide)
theorem op_nb {op:Nat}(h1:1≤op)(h2:op≤13)(l c:Nat)(r:List Item):BI (opTok op l c::r) [91]=false:=by
 have key:∀op:Nat,op<14→1≤op→isT ⟨4,GC.getD op [],0⟩ [91]=false:=by decide
 exact key op (by omega) h1
theorem BM {A:List Item}{t:Tok}{ts:List Tok}(h:toks A=t::ts):∃a A',A=a::A'∧a.tok=t∧toks A'=ts:=by
 cases A with
 |nil=>cases h
 |cons a A'=>injection h with h1 h2;exact⟨a,A',rfl,h1,h2⟩
theorem FR {A:List Item}{ts us:List Tok}(h:toks A=ts++us):∃A1 A2,A=A1++A2∧toks A1=ts∧toks A2=us:=by
 obtain⟨A1,A2,e,h1,h2⟩:=List.map_eq_append_iff.1 h
 exact⟨A1,A2,e,h1,h2⟩
theorem FQ {A:List Item}(h:toks A=[]):A=[]:=List.map_eq_nil_iff.1 h
theorem oneP_succ (f:Nat)(its:List Item):oneP (f+1) its=oneOf (oneP f) (exP f) its:=rfl
theorem exP_eq (f:Nat)(its:List Item):exP f its=nxt (oneP f) 6 its:=rfl
theorem exP_one {f:Nat}{its R:List Item}{y:Ex}(h:oneP f its=some (y,R))(hR:EndR R):exP f its=some (y,R):=by
 rw[exP_eq]
 exact nxt_up' (l:=0) h (by omega) fun j _ _=>hR.op j
theorem like_mk {k:Nat}{o n:Nat}{nm:List UInt8}{l c:Nat}{K:Int}{O N:Int}{L C:Int}{ys:List Ex}{xs:List Gx}(hk:(k:Int)=K)(ho:(o:Int)=O)(hn:(n:Int)=N)
  (h1:DM (toGL ys) xs=true) (h2:CX ys=BO xs) (h3:deepL ys=CH xs):LikeX (.mk k o n nm l c ys) (.mk K O N nm L C xs):=by
 refine⟨?_,by unfold DK CM;rw[h2],by unfold exDeep FY;rw[h3]⟩
 unfold toG sameG
 simp[hk,ho,hn,h1]
theorem read_all:∀(n:Nat) (x:Gx),CM x≤n→mayG x=true→
  (kindG x≠5→∀A R f,okS A→toks A=tksG x→BI R [91]=false→2 * FY x≤f→∃y,oneP f (A++R)=some (y,R)∧LikeX y x)∧
  (∀A R f,okS A→toks A=tksG x→EndR R→2 * FY x≤f→∃y,exP f (A++R)=some (y,R)∧LikeX y x)∧
  (∀A R f,okS A→toks A=wrapT (kindG x) (tksG x)→BI R [91]=false→2 * FY x+1≤f→∃y,oneP f (A++R)=some (y,R)∧LikeX y x)
 |0,x,h,_=>by cases x;unfold CM at h;omega
 | m+1,.mk k o n nm l c ks,h,hm=>by
  unfold CM at h
  have okL:∀{A1 A2:List Item},okS (A1++A2)→okS A1∧okS A2:=fun h=>⟨fun i hi=>h i (List.mem_append_left _ hi),fun i hi=>h i (List.mem_append_right _ hi)⟩
  have okC:∀{a:Item}{A2:List Item},okS (a::A2)→a.err=0∧okS A2:=fun h=>⟨h _ List.mem_cons_self,fun i hi=>h i (List.mem_cons_of_mem _ hi)⟩
  have ONE:kindG (.mk k o n nm l c ks)≠5→∀A R f,okS A→toks A=tksG (.mk k o n nm l c ks)→BI R [91]=false→2 * FY (.mk k o n nm l c ks)≤f→∃y,oneP f (A++R)=some (y,R)∧LikeX y (.mk k o n nm l c ks):=by
   intro hk A R f hok ht hR hf
   obtain⟨g,rfl⟩:∃g,f=g+1:=⟨f - 1,by unfold FY at hf;omega⟩
   rw[oneP_succ]
   rcases may_kinds hm with⟨rfl,h1,rfl,rfl,rfl⟩|⟨rfl,h1,rfl,rfl,rfl⟩|⟨rfl,h1,rfl,rfl,a,rfl,ha⟩|⟨rfl,h1,rfl,rfl,a,rfl,ha⟩|⟨rfl,h1,h2,rfl,rfl,a,b,rfl,ha,hb⟩
   ·unfold tksG at ht
    rw[if_pos rfl]at ht
    obtain⟨t,A',rfl,h2,h3⟩:=BM ht
    obtain rfl:=FQ h3
    refine⟨.mk 1 0 n.toNat [] t.line t.col [],?_,like_mk rfl rfl (by omega) rfl rfl rfl⟩
    unfold oneOf
    simp only[List.cons_append,List.nil_append]
    rw[h2,if_neg (by simp[isT]),if_neg (by simp[isT]),if_neg (by simp[isT]),if_pos rfl]
   ·unfold tksG at ht
    rw[if_neg (by decide),if_pos rfl]at ht
    obtain⟨t,A',rfl,h2,h3⟩:=BM ht
    obtain rfl:=FQ h3
    refine⟨.mk 2 0 0 nm t.line t.col [],?_,like_mk rfl rfl rfl rfl rfl rfl⟩
    unfold oneOf
    simp only[List.cons_append,List.nil_append]
    rw[h2,if_neg (by simp[isT]),if_neg (by simp[isT]),if_neg (by simp[isT]),if_neg (by simp),if_pos rfl,if_neg (by rw[hR];exact NT)]
   ·unfold BO at h
    have ih:=read_all m a (by omega) ha
    unfold tksG tksA at ht
    rw[if_neg (by decide),if_neg (by decide),if_pos rfl]at ht
    obtain⟨t,A',rfl,h2,h3⟩:=BM ht
    obtain⟨u,A2,rfl,h4,h5⟩:=BM h3
    have h5:toks A2=tksG a++[sgT [93]]:=h5
    obtain⟨A3,A4,rfl,h6,h7⟩:=FR h5
    obtain⟨v,A5,rfl,h8,h9⟩:=BM h7
    obtain rfl:=FQ h9
    obtain⟨y,e1,e2⟩:=ih.2.1 A3 (v::R) g (okL (okC (okC hok).2).2).1 h6 (.inr ⟨v,R,rfl,.inr (.inl h8)⟩) (by unfold FY CH at hf;omega)
    refine⟨.mk 3 0 0 nm t.line t.col [y],?_,like_mk rfl rfl rfl (by simp[toGL,DM,e2.1]) (by simp[CX,BO,e2.2.1]) (by simp[deepL,CH,e2.2.2])⟩
    unfold oneOf
    simp only[List.cons_append,List.nil_append,List.append_assoc]
    rw[h2,if_neg (by simp[isT]),if_neg (by simp[isT]),if_neg (by simp[isT]),if_neg (by simp),if_pos rfl,if_pos (by show isT u.tok [91]=true;rw[h4];decide)]
    simp only[List.tail_cons]
    rw[e1]
    dsimp only
    rw[if_pos (by show isT v.tok [93]=true;rw[h8];decide)]
    rfl
   ·unfold BO at h
    have ih:=read_all m a (by omega) ha
    unfold tksG tkA at ht
    rw[if_neg (by decide),if_neg (by decide),if_neg (by decide),if_pos rfl]at ht
    obtain⟨t,A',rfl,h2,h3⟩:=BM ht
    obtain⟨y,e1,e2⟩:=ih.2.2 A' R g (okC hok).2 h3 hR (by unfold FY CH at hf;omega)
    rcases h1 with rfl|rfl
    ·refine⟨.mk 4 1 0 [] t.line t.col [y],?_,like_mk rfl rfl rfl (by simp[toGL,DM,e2.1]) (by simp[CX,BO,e2.2.1]) (by simp[deepL,CH,e2.2.2])⟩
     unfold oneOf
     simp only[List.cons_append]
     rw[h2,if_pos (by decide),e1]
    ·refine⟨.mk 4 2 0 [] t.line t.col [y],?_,like_mk rfl rfl rfl (by simp[toGL,DM,e2.1]) (by simp[CX,BO,e2.2.1]) (by simp[deepL,CH,e2.2.2])⟩
     unfold oneOf
     simp only[List.cons_append]
     rw[h2,if_neg (by decide),if_pos (by decide),e1]
   ·exact absurd rfl hk
  have EXPR:∀A R f,okS A→toks A=tksG (.mk k o n nm l c ks)→EndR R→2 * FY (.mk k o n nm l c ks)≤f→∃y,exP f (A++R)=some (y,R)∧LikeX y (.mk k o n nm l c ks):=by
   intro A R f hok ht hR hf
   by_cases hk:k=5
   ·subst hk
    rcases may_kinds hm with⟨h0,-⟩|⟨h0,-⟩|⟨h0,-⟩|⟨h0,-⟩|⟨-,h1,h2,rfl,rfl,a,b,rfl,ha,hb⟩
    ·exact absurd h0 (by decide)
    ·exact absurd h0 (by decide)
    ·exact absurd h0 (by decide)
    ·exact absurd h0 (by decide)
    ·unfold BO BO at h
     have iha:=read_all m a (by omega) ha
     have ihb:=read_all m b (by omega) hb
     unfold tksG tkA tkB tkA at ht
     rw[if_neg (by decide),if_neg (by decide),if_neg (by decide),if_neg (by decide)]at ht
     obtain⟨A1,A2,rfl,h3,h4⟩:=FR ht
     obtain⟨t,A3,rfl,h5,h6⟩:=BM h4
     obtain⟨q,rfl⟩:∃q:Nat,o=q:=⟨o.toNat,by omega⟩
     have q1:1≤q:=by omega
     have q2:q≤13:=by omega
     have hok2:=okL hok
     have hok3:=okC hok2.2
     have et:t=opTok q t.line t.col:=by
      cases t with
      | mk tk li co er=>
       have e1:er=0:=hok3.1
       have e2:tk=sgT (signG (q:Int)):=h5
       subst e1;subst e2
       unfold signG
       rw[Int.toNat_natCast]
       rfl
     have hd:2 * (max (FY a) (max (FY b) 0)+1)≤f:=by unfold FY CH CH CH at hf;exact hf
     obtain⟨ya,e1,l1⟩:=iha.2.2 A1 (t::A3++R) f hok2.1 h3 (by rw[et];exact op_nb q1 q2 _ _ _) (by omega)
     obtain⟨yb,e2,l2⟩:=ihb.2.2 A3 R f hok3.2 h6 hR.nb (by omega)
     have s1:=nxt_up' (one:=oneP f) (l:=0) (m:=levT q) e1 (by omega) fun j _ hj=>by
      rw[et,List.cons_append,opOf_tok q1 q2 j _ _ (by have:=levT_le q;omega),if_neg (by omega)]
     have s2:=nxt_up' (one:=oneP f) (l:=0) (m:=levT q) e2 (by omega) fun j _ _=>hR.op j
     rw[List.cons_append,et]at s1
     have s3:=nxt_op q1 q2 s1 s2 (hR.op _)
     have s4:=nxt_up' (one:=oneP f) (m:=6) s3 (by have:=levT_le q;omega) fun j _ _=>hR.op j
     refine⟨_,?_,like_mk (k:=5) (o:=q) (n:=0) (nm:=[]) (l:=t.line) (c:=t.col) (ys:=[ya,yb]) rfl rfl rfl (by simp[toGL,DM,l1.1,l2.1]) (by simp[CX,BO,l1.2.1,l2.2.1]) (by simp[deepL,CH,l1.2.2,l2.2.2])⟩
     rw[exP_eq,List.append_assoc,List.cons_append,et]
     exact s4
   ·obtain⟨y,e1,e2⟩:=ONE hk A R f hok ht hR.nb hf
    exact⟨y,exP_one e1 hR,e2⟩
  refine⟨ONE,EXPR,fun A R f hok ht hR hf=>?_⟩
  unfold wrapT at ht
  by_cases hk:kindG (.mk k o n nm l c ks)=4∨kindG (.mk k o n nm l c ks)=5
  ·rw[if_pos hk]at ht
   obtain⟨p,A1,rfl,h1,h2⟩:=BM ht
   obtain⟨A2,A3,rfl,h3,h4⟩:=FR h2
   obtain⟨q,A4,rfl,h5,h6⟩:=BM h4
   obtain rfl:=FQ h6
   obtain⟨g,rfl⟩:∃g,f=g+1:=⟨f - 1,by omega⟩
   obtain⟨y,e1,e2⟩:=EXPR A2 (q::R) g (okL (okC hok).2).1 h3 (.inr ⟨q,R,rfl,.inl h5⟩) (by omega)
   refine⟨y,?_,e2⟩
   rw[oneP_succ]
   unfold oneOf
   simp only[List.cons_append,List.nil_append,List.append_assoc]
   rw[h1,if_neg (by decide),if_neg (by decide),if_pos (by decide),e1]
   dsimp only
   rw[if_pos (by show isT q.tok [41]=true;rw[h5];decide)]
   rfl
  ·rw[if_neg hk]at ht
   exact ONE (fun e=>hk (.inr e)) A R f hok ht hR (by omega)
inductive Gs where
 |mk (kind:Int) (name:List UInt8) (size op:Int) (value into cont:List UInt8) (exprs:List Gx) (thn els:List Gs) (line col:Int)
structure Gc where
 kind:Int
 name:List UInt8
 line:Int
 col:Int
structure Gp where
 pool:Int
 conts:List Gc
 threads:List (List Gs)
mutual
def SAt (w:World)(S:Nat→Prop):List Value→Gs→Prop
 |vs,.mk k nm sz op val into cont xs thn els l c=>∃p1 c1 p2 c2 p3 c3,vs=[.int .i64 k,strV nm,.int .i64 sz,.int .i64 op,strV val,strV into,strV cont,.slice p1 xs.length c1,.slice p2 thn.length c2,.slice p3 els.length c3,.int .i64 l,.int .i64 c]∧FK w S p1 0 xs∧DV w S p2 0 thn∧DV w S p3 0 els
def DV (w:World)(S:Nat→Prop)(p:Option Addr):Nat→List Gs→Prop
 |_,[]=>True
 |i,x::l=>(∃g o vs,p=some ⟨g,o,none⟩∧S g∧(∀j v,vs[j]?=some v→w.cell? ⟨g,o+i * 12+j,none⟩=some v)∧SAt w S vs x)∧DV w S p (i+1) l
end
theorem s_form {w:World}{S:Nat→Prop}{vs:List Value}{x:Gs}(h:SAt w S vs x):∃a n b c s1 s2 s3 p1 m1 c1 p2 m2 c2 p3 m3 c3 l cl,vs=[.int .i64 a,.string n,.int .i64 b,.int .i64 c,.string s1,.string s2,.string s3,.slice p1 m1 c1,.slice p2 m2 c2,.slice p3 m3 c3,.int .i64 l,.int .i64 cl]:=by
 cases x with
 | mk k nm sz op val into cont xs thn els l c=>
  unfold SAt at h
  obtain⟨p1,c1,p2,c2,p3,c3,h1,-⟩:=h
  exact⟨_,_,_,_,_,_,_,_,_,_,_,_,_,_,_,_,_,_,h1⟩
mutual
theorem SAt.keepS {w w':World}{S S':Nat→Prop}(hk:∀b o v,S b→w.cell? ⟨b,o,none⟩=some v→w'.cell? ⟨b,o,none⟩=some v∧S' b):∀{vs:List Value}{e:Gs},SAt w S vs e→SAt w' S' vs e
 | vs,.mk k nm sz op val into cont xs thn els l c,h=>by
  unfold SAt at h ⊢
  obtain⟨p1,c1,p2,c2,p3,c3,h1,h2,h3,h4⟩:=h
  exact⟨p1,c1,p2,c2,p3,c3,h1,FK.keepS hk h2,DV.keepS hk h3,DV.keepS hk h4⟩
theorem DV.keepS {w w':World}{S S':Nat→Prop}(hk:∀b o v,S b→w.cell? ⟨b,o,none⟩=some v→w'.cell? ⟨b,o,none⟩=some v∧S' b):∀{p:Option Addr}{i:Nat}{l:List Gs},DV w S p i l→DV w' S' p i l
 |p,i,[],_=>by unfold DV;trivial
 | p,i,x::l,h=>by
  unfold DV at h ⊢
  obtain⟨⟨g,o,vs,h1,h2,h3,h4⟩,h5⟩:=h
  have hv:∃v,vs[0]?=some v:=by
   obtain⟨_,_,_,_,_,_,_,_,_,_,_,_,_,_,_,_,_,_,h6⟩:=s_form h4
   exact⟨_,by rw[h6];rfl⟩
  obtain⟨v0,hv0⟩:=hv
  exact⟨⟨g,o,vs,h1,(hk g _ _ h2 (h3 0 v0 hv0)).2,fun j v hj=>(hk g _ _ h2 (h3 j v hj)).1,SAt.keepS hk h4⟩,DV.keepS hk h5⟩
end
theorem SAt.keep {E:Nat→Prop}{w w':World}{S:Nat→Prop}(k:BA E w w')(hE:∀b,S b→¬E b){vs:List Value}{e:Gs}(h:SAt w S vs e):SAt w' S vs e:=
 h.keepS fun b _ _ hb hc=>⟨k.cell hc (hE b hb),hb⟩
theorem DV.keep {E:Nat→Prop}{w w':World}{S:Nat→Prop}(k:BA E w w')(hE:∀b,S b→¬E b){p:Option Addr}{i:Nat}{l:List Gs}(h:DV w S p i l):DV w' S p i l:=
 h.keepS fun b _ _ hb hc=>⟨k.cell hc (hE b hb),hb⟩
theorem skids_get {w:World}{S:Nat→Prop}{p:Option Addr}:∀{l:List Gs}{j:Nat},DV w S p j l→∀i (h:i<l.length),∃g o vs,p=some ⟨g,o,none⟩∧(∀k v,vs[k]?=some v→w.cell? ⟨g,o+(j+i) * 12+k,none⟩=some v)∧SAt w S vs l[i]∧S g
 | x::l,j,h,0,_=>by
  unfold DV at h
  obtain⟨⟨g,o,vs,h1,h2,h3,h4⟩,_⟩:=h
  exact⟨g,o,vs,h1,h3,h4,h2⟩
 | x::l,j,h,i+1,hi=>by
  unfold DV at h
  obtain⟨g,o,vs,h1,h3,h4,h5⟩:=skids_get h.2 i (by simpa using hi)
  refine⟨g,o,vs,h1,fun k v hk=>?_,h4,h5⟩
  rw[show j+(i+1)=j+1+i by omega]
  exact h3 k v hk
 |[],_,_,i,hi=>absurd hi (by simp)
theorem skids_of {w:World}{S:Nat→Prop}{p:Option Addr}:∀(l:List Gs) (j:Nat),(∀i (h:i<l.length),∃g o vs,p=some ⟨g,o,none⟩∧S g∧(∀k v,vs[k]?=some v→w.cell? ⟨g,o+(j+i) * 12+k,none⟩=some v)∧SAt w S vs l[i])→DV w S p j l
 |[],_,_=>by unfold DV;trivial
 | x::l,j,h=>by
  unfold DV
  refine⟨?_,skids_of l (j+1) fun i hi=>?_⟩
  ·obtain⟨g,o,vs,h1,h2,h3,h4⟩:=h 0 (by simp)
   exact⟨g,o,vs,h1,h2,h3,h4⟩
  ·obtain⟨g,o,vs,h1,h2,h3,h4⟩:=h (i+1) (by simpa using hi)
   refine⟨g,o,vs,h1,h2,fun k v hk=>?_,by simpa using h4⟩
   rw[show j+1+i=j+(i+1) by omega]
   exact h3 k v hk
mutual
def CS:Gs→Nat
 |.mk _ _ _ _ _ _ _ xs thn els _ _=>BO xs+BN thn+BN els+1
def BN:List Gs→Nat
 |[]=>0
 |s::l=>CS s+BN l
end
mutual
def sDeep:Gs→Nat
 |.mk _ _ _ _ _ _ _ xs thn els _ _=>max (max (CH xs) (DC thn)) (DC els)+1
def DC:List Gs→Nat
 |[]=>0
 |s::l=>max (sDeep s) (DC l)
end
theorem sSizeL_take {l:List Gs}{i:Nat}(h:i<l.length):BN (l.take (i+1))=BN (l.take i)+CS l[i]:=by
 induction l generalizing i with
 |nil=>cases h
 | cons x l ih=>
  cases i with
  |zero=>simp[BN]
  | succ i=>
   have h':i<l.length:=by simpa using h
   simp only[List.take_succ_cons,BN,List.getElem_cons_succ]
   rw[ih h']
   omega
theorem sDeepL_take {l:List Gs}{i:Nat}(h:i<l.length):DC (l.take (i+1))=max (DC (l.take i)) (sDeep l[i]):=by
 induction l generalizing i with
 |nil=>cases h
 | cons x l ih=>
  cases i with
  |zero=>simp[DC]
  | succ i=>
   have h':i<l.length:=by simpa using h
   simp only[List.take_succ_cons,DC,List.getElem_cons_succ]
   rw[ih h']
   omega
theorem GA {l:List Gs}{i:Nat}(h:i<l.length):CS l[i]≤BN l:=by
 induction l generalizing i with
 |nil=>cases h
 | cons x l ih=>
  cases i with
  |zero=>simp[BN]
  | succ i=>
   have:=ih (i:=i) (by simpa using h)
   simp only[BN,List.getElem_cons_succ]
   omega
theorem sSizeL_le {l:List Gs}(i:Nat):BN (l.take i)≤BN l:=by
 induction l generalizing i with
 |nil=>simp[BN]
 | cons x l ih=>
  cases i with
  |zero=>simp[BN]
  | succ i=>
   have:=ih i
   simp only[List.take_succ_cons,BN]
   omega
theorem FV:∀l:List Gs,l.length≤BN l
 |[]=>by simp
 | x::l=>by
  have h1:1≤CS x:=by cases x;unfold CS;omega
  have:=FV l
  simp only[LB,BN]
  omega
mutual
theorem sdeep_le:∀x:Gs,sDeep x≤CS x
 | .mk _ _ _ _ _ _ _ xs thn els _ _=>by
  unfold sDeep CS
  have:=gDeepL_le xs
  have:=sDeepL_le thn
  have:=sDeepL_le els
  omega
theorem sDeepL_le:∀l:List Gs,DC l≤BN l
 |[]=>by simp[DC]
 | x::l=>by
  unfold DC BN
  have:=sdeep_le x
  have:=sDeepL_le l
  omega
end
mutual
def toS:St→Gs
 |.mk k nm sz op val into cont xs thn els l c=>.mk k nm sz op val into cont (toGL xs) (toSL thn) (toSL els) l c
def toSL:List St→List Gs
 |[]=>[]
 |x::l=>toS x::toSL l
end
theorem toSL_len:∀l:List St,(toSL l).length=l.length
 |[]=>rfl
 |x::l=>by unfold toSL;simp[toSL_len l]
mutual
theorem StAt.toS {w:World}{S:Nat→Prop}:∀{vs:List Value}{x:St},StAt w S vs x→SAt w S vs (toS x)
 | vs,.mk k nm sz op val into cont xs thn els l c,h=>by
  unfold StAt at h
  obtain⟨p1,c1,p2,c2,p3,c3,h1,h2,h3,h4⟩:=h
  unfold Go.Proofs.YtomlffobbkcmdaaGreatDoor.toS SAt
  exact⟨p1,c1,p2,c2,p3,c3,by rw[toGL_len,toSL_len,toSL_len];exact h1,CD.toG h2,CJ.toS h3,CJ.toS h4⟩
theorem CJ.toS {w:World}{S:Nat→Prop}:∀{p:Option Addr}{i:Nat}{l:List St},CJ w S p i l→DV w S p i (toSL l)
 |p,i,[],_=>by unfold toSL DV;trivial
 | p,i,x::l,h=>by
  unfold CJ at h
  obtain⟨⟨g,o,vs,h1,h2,h3,h4⟩,h5⟩:=h
  unfold toSL DV
  exact⟨⟨g,o,vs,h1,h2,h3,StAt.toS h4⟩,CJ.toS h5⟩
end
mutual
theorem toS_size:∀x:St,CS (toS x)=FS x
 |.mk k nm sz op val into cont xs thn els l c=>by unfold toS CS FS;rw[toGL_size xs,toSL_size thn,toSL_size els]
theorem toSL_size:∀l:List St,BN (toSL l)=BV l
 |[]=>rfl
 |x::l=>by unfold toSL BN BV;rw[toS_size x,toSL_size l]
end
def GCts (w:World)(S:Nat→Prop)(p:Option Addr)(l:List Gc):Prop:=∀i (h:i<l.length),∃g o,p=some ⟨g,o,none⟩∧S g∧
 w.cell? ⟨g,o+i * 4,none⟩=some (.int .i64 l[i].kind)∧w.cell? ⟨g,o+i * 4+1,none⟩=some (strV l[i].name)∧w.cell? ⟨g,o+i * 4+2,none⟩=some (.int .i64 l[i].line)∧w.cell? ⟨g,o+i * 4+3,none⟩=some (.int .i64 l[i].col)
def GThs (w:World)(S:Nat→Prop)(p:Option Addr)(l:List (List Gs)):Prop:=∀i (h:i<l.length),∃g o q c,p=some ⟨g,o,none⟩∧S g∧
 w.cell? ⟨g,o+i,none⟩=some (.slice q l[i].length c)∧DV w S q 0 l[i]
theorem GCts.keepS {w w':World}{S S':Nat→Prop}(hk:∀b o v,S b→w.cell? ⟨b,o,none⟩=some v→w'.cell? ⟨b,o,none⟩=some v∧S' b){p:Option Addr}{l:List Gc}(h:GCts w S p l):GCts w' S' p l:=fun i hi=>by
 obtain⟨g,o,h1,h2,h3,h4,h5,h6⟩:=h i hi
 exact⟨g,o,h1,(hk _ _ _ h2 h3).2,(hk _ _ _ h2 h3).1,(hk _ _ _ h2 h4).1,(hk _ _ _ h2 h5).1,(hk _ _ _ h2 h6).1⟩
theorem GThs.keepS {w w':World}{S S':Nat→Prop}(hk:∀b o v,S b→w.cell? ⟨b,o,none⟩=some v→w'.cell? ⟨b,o,none⟩=some v∧S' b){p:Option Addr}{l:List (List Gs)}(h:GThs w S p l):GThs w' S' p l:=fun i hi=>by
 obtain⟨g,o,q,c,h1,h2,h3,h4⟩:=h i hi
 exact⟨g,o,q,c,h1,(hk _ _ _ h2 h3).2,(hk _ _ _ h2 h3).1,h4.keepS hk⟩
theorem GCts.keep {E:Nat→Prop}{w w':World}{S:Nat→Prop}(k:BA E w w')(hE:∀b,S b→¬E b){p:Option Addr}{l:List Gc}(h:GCts w S p l):GCts w' S p l:=
 h.keepS fun b _ _ hb hc=>⟨k.cell hc (hE b hb),hb⟩
theorem GThs.keep {E:Nat→Prop}{w w':World}{S:Nat→Prop}(k:BA E w w')(hE:∀b,S b→¬E b){p:Option Addr}{l:List (List Gs)}(h:GThs w S p l):GThs w' S p l:=
 h.keepS fun b _ _ hb hc=>⟨k.cell hc (hE b hb),hb⟩
theorem GCts.mono {w:World}{S S':Nat→Prop}(hS:∀b,S b→S' b){p:Option Addr}{l:List Gc}(h:GCts w S p l):GCts w S' p l:=
 h.keepS fun _ _ _ hb hc=>⟨hc,hS _ hb⟩
theorem GThs.mono {w:World}{S S':Nat→Prop}(hS:∀b,S b→S' b){p:Option Addr}{l:List (List Gs)}(h:GThs w S p l):GThs w S' p l:=
 h.keepS fun _ _ _ hb hc=>⟨hc,hS _ hb⟩
def PAt (w:World)(S:Nat→Prop)(v:Value)(p:Gp):Prop:=∃p1 c1 p2 c2,v=.agg #[.int .i64 p.pool,.slice p1 p.conts.length c1,.slice p2 p.threads.length c2]∧GCts w S p1 p.conts∧GThs w S p2 p.threads
def toC (c:Ct):Gc:=⟨c.kind,c.name,c.line,c.col⟩
def toP (p:Pr):Gp:=⟨p.pool,p.conts.map toC,p.threads.map toSL⟩
end Go.Proofs.YtomlffobbkcmdaaGreatDoor
