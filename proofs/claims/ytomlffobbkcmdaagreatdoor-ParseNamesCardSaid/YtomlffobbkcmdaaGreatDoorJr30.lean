/- Joined texts of this work: Tel4, Pq2, Pc9, Pq3, Gs. -/
import Derived.Test.YtomlffobbkcmdaaGreatDoorJr29
import Derived.Laws.Strings
import Derived.Laws.Strings2
import Derived.Test.YtomlffobbkcmdaaGreatDoorJr27
import Derived.Test.YtomlffobbkcmdaaGreatDoorJr20
/-
  A teller's string; TrimSuffix; ExprText.
-/
namespace Go.Proofs.YtomlffobbkcmdaaGreatDoor
open Go Go.RowKit Own
open Go.Lib (hid)
set_option maxHeartbeats 4000000 in
theorem tel_string {B b:Nat} {l:List UInt8} {w:World} (h:Tel B b l w) (h0:l≠[]):
  Calls Tryz.prog 29 #[.pointer (some ⟨b,0,none⟩)] w fun e w'=>e=.returned (.string ⟨l.toArray⟩)∧KeepBut (fun k=>B≤k) w w':=by
 obtain ⟨p,hB,v,hbk,hown,hne⟩:∃ p,Lib.BuilderAtF TT B8 B b p (Lib.byteCells l) w:=h.elim (fun h=>⟨_,h⟩) fun h=>⟨_,h⟩
 have hl0:l.length≠0:=by simpa using h0
 rw [Lib.byteCells_length] at hown
 obtain ⟨g,cap,cur,fz,rfl,hbg,hg,hfz,hnc,hcm,hcs,htake⟩:∃ g cap cur fz,v=.slice (some ⟨g,0,none⟩) l.length cap∧B≤g∧w.heap[g]?=some (.cells cur B8 fz)∧fz.2≤l.length * 1∧l.length≤cap∧cap≤maxLen∧cur.size=cap * 1∧cur.toList.take (l.length * 1)=Lib.byteCells l:=by
  rcases hown.2 with ⟨_,hz⟩ | ⟨g,cap,cur,fz,hv,r⟩
  ·exact absurd hz hl0
  ·exact ⟨g,cap,cur,fz,hv,r⟩
 have c1:w.drew.cell? ⟨b,1,none⟩=some (.slice (some ⟨g,0,none⟩) l.length cap):=blk_cell (w:=w) hbk rfl
 have hSD:(Builtin.unsafeSliceData_ #[63] 114 #[.slice (some ⟨g,0,none⟩) l.length cap]).run Tryz.prog w.drew=.ok (.pointer (some ⟨g,0,none⟩)) w.drew:=
  Lib.run_unsafeSliceData_row _ _ _ _ _ _ (by omega)
 have hUS:(Builtin.unsafeString_ #[114,3] 9 #[.pointer (some ⟨g,0,none⟩),.int .i64 l.length]).run Tryz.prog w.drew=.ok (.string ⟨l.toArray⟩) (w.drew.freeze ⟨g,0,none⟩ l.length):=by
  refine Lib.run_unsafeString_row w.drew 114 3 9 B8 (by kernel_rfl) (by kernel_rfl) g cur.size (by have hg':w.drew.heap[g]?=some (.cells cur B8 fz):=hg;simp [World.shape?,hg']) l h0 (by omega) (by unfold maxLen at hcm;omega) ?_
  intro j x hx
  have:=hown.cells (g:=g) rfl j (.int .u8 x.toNat) (by simp [Lib.byteCells,hx])
  exact this
 have HK:=hid (show KeepBut (fun k=>B≤k) w (w.drew.freeze ⟨g,0,none⟩ l.length) from by
  have hb:=Lib.below_freeze (Below.drew (Below.refl B w)) (p:=⟨g,0,none⟩) hbg l.length
  exact ⟨hb.os,hb.tape,hb.output,hb.size,fun k _ hk=>hb.block k (by omega)⟩)
 have mixed:Tryz.prog.follows .mixedOrders=true:=by kernel_rfl
 clear hown htake hcs hcm hnc hfz hg hbk hne h h0
 go_enter Tryz.func29,Tryz.ntmps29
 go_wp2
 go_region_o
 all_goals (go_wp2;go_ret;exact ⟨rfl,HK.out⟩)
def trimL (l:List UInt8):List UInt8:=if l.getLast?=some 32 then l.dropLast else l
set_option maxHeartbeats 4000000 in
theorem hasSuffix_snoc (S:ByteArray) (n:Nat) (c:UInt8) (hn:S.size=n+1) (hx:S.extract n (n+1)=⟨#[c]⟩) (hl:n≤1000000000) (w:World):
  Calls Tryz.prog 96 #[.string S,.string ⟨#[32]⟩] w fun e w'=>e=.returned (.bool (decide (c=32)))∧w'=w:=by
 have hW:IntKind.i64.wrap (n:Int)=n:=IntWalk.i64_in _ (by omega)
 have hW1:IntKind.i64.wrap ((n:Int)+1 - 1)=n:=by rw [IntWalk.i64_in _ (by omega)];omega
 have hn0:(0:Int)≤n:=by omega
 go_enter Tryz.func96,Tryz.ntmps96
 have h1:(1:Int)≤n+1:=by omega
 go_wp2
 go_ret
 exact ⟨by rw [show decide (c=32)=(c==32) from rfl];rfl,rfl⟩
set_option maxHeartbeats 4000000 in
theorem trim_snoc (S:ByteArray) (n:Nat) (c:UInt8) (hn:S.size=n+1) (hx:S.extract n (n+1)=⟨#[c]⟩) (hl:n≤1000000000) (w:World):
  Calls Tryz.prog 28 #[.string S,.string ⟨#[32]⟩] w fun e w'=>e=.returned (.string (if c=32 then S.extract 0 n else S))∧w'=w:=by
 have HH:=hid (hasSuffix_snoc S n c hn hx hl w)
 have hW1:IntKind.i64.wrap ((n:Int)+1 - 1)=n:=by rw [IntWalk.i64_in _ (by omega)];omega
 have hn0:(0:Int)≤n:=by omega
 have HIN:=hid (show Calls Tryz.prog 63 #[.string S,.string ⟨#[32]⟩] w fun e w'=>e=.returned (.string (if c=32 then S.extract 0 n else S))∧w'=w by
  by_cases h:c=32
  ·rw [if_pos h]
   rw [decide_eq_true h] at HH
   clear h hx
   go_enter Tryz.func63,Tryz.ntmps63
   go_wp2_with (go_at_call 96;refine HH.out.mono ?_;rintro e w1 ⟨rfl,rfl⟩)
   go_ret
   exact ⟨rfl,rfl⟩
  ·rw [if_neg h]
   rw [decide_eq_false h] at HH
   clear h hx hn hW1
   go_enter Tryz.func63,Tryz.ntmps63
   go_wp2_with (go_at_call 96;refine HH.out.mono ?_;rintro e w1 ⟨rfl,rfl⟩)
   go_ret
   exact ⟨rfl,rfl⟩)
 obtain ⟨T,hT⟩:∃ T,(if c=32 then S.extract 0 n else S)=T:=⟨_,rfl⟩
 rw [hT] at HIN ⊢
 clear hn hx hl hW1 hT HH
 go_enter Tryz.func28,Tryz.ntmps28
 go_wp2_with (go_at_call 63;refine HIN.out.mono ?_;rintro e w1 ⟨rfl,rfl⟩)
 go_ret
 exact ⟨rfl,rfl⟩
theorem trim_any (l:List UInt8) (h0:l≠[]) (hl:l.length≤1000000000) (w:World):
  Calls Tryz.prog 28 #[.string ⟨l.toArray⟩,.string ⟨#[32]⟩] w fun e w'=>e=.returned (.string ⟨(trimL l).toArray⟩)∧w'=w:=by
 obtain ⟨r,c,rfl⟩:∃ r c,l=r++[c]:=⟨l.dropLast,l.getLast h0,(List.dropLast_concat_getLast h0).symm⟩
 have hsz:(⟨(r++[c]).toArray⟩:ByteArray).size=r.length+1:=by show (r++[c]).toArray.size=_;simp
 have hx1:(⟨(r++[c]).toArray⟩:ByteArray).extract r.length (r.length+1)=⟨#[c]⟩:=by
  apply ByteArray.ext
  simp [ByteArray.data_extract]
 have hx2:(⟨(r++[c]).toArray⟩:ByteArray).extract 0 r.length=⟨r.toArray⟩:=by
  apply ByteArray.ext
  simp [ByteArray.data_extract]
 refine (trim_snoc _ r.length c hsz hx1 (by simp at hl;omega) w).mono ?_
 rintro e w' ⟨rfl,rfl⟩
 refine ⟨?_,rfl⟩
 rw [hx2]
 unfold trimL
 rw [List.getLast?_concat,List.dropLast_concat]
 by_cases h:c=32
 ·rw [if_pos h,if_pos (by rw [h])]
 ·rw [if_neg h,if_neg (fun e=>h (Option.some.inj e))]
set_option maxHeartbeats 8000000 in
/-- ExprText of any expression -/
theorem exprText_any (x:Gx) (S:Nat→Prop) (vs:List Value) (w:World) (hex:GAt w S vs x) (hT:TabS w) (hP:TabP w) (hfit:fitG x) (hsz:gSize x≤1099511627776) (hlen:mayG x=true→(putL (tokG x)).length≤100000000∧putL (tokG x)≠[]):
  Calls Tryz.prog 10 #[.agg vs.toArray] w fun e w'=>e=.returned (.string ⟨(if mayG x=true then trimL (putL (tokG x)) else []).toArray⟩)∧KeepBut (fun _=>False) w w':=by
 obtain ⟨k,o,n,Sm,p,m,c,l,cl,rfl⟩:=g_form hex
 obtain ⟨V,B1,hV,hB1,hb1,hk1,hs1⟩:=fresh_block w (.cells #[.int .i64 k,.int .i64 o,.int .i64 n,.string Sm,.slice p m c,.int .i64 l,.int .i64 cl] TEx)
 have HM:=hid (mayG_any 1099511627776 x hsz (Nat.le_refl _) V S _ (hk1.tabS hT) (hex.keep hk1 fun _ _ e=>e))
 have HK:=hid hk1
 obtain ⟨n0,n1,n2,n3,n4,n5,n6,-⟩:=blk7 hb1
 have HB1:=hid hb1
 by_cases hm:mayG x=true
 ·obtain ⟨hl1,hl2⟩:=hlen hm
  rw [if_pos hm]
  rw [hm] at HM
  have HX:=hid (fun (W:World) (hk:KeepBut (fun _=>False) w W)=>tells_any W (hk.tabP hP) 1099511627776 x hsz hm hfit S _ (hex.keep hk fun _ _ e=>e))
  obtain ⟨T,hTT⟩:∃ T,putL (tokG x)=T:=⟨_,rfl⟩
  have HX:=hid (show ∀ (W:World),KeepBut (fun _=>False) w W→∀ (b:Nat) (w1:World),TS W b [] w1→Calls Tryz.prog 27 #[.pointer (some ⟨b,0,none⟩),.agg #[.int .i64 k,.int .i64 o,.int .i64 n,.string Sm,.slice p m c,.int .i64 l,.int .i64 cl]] w1 fun e w'=>e=.returned (.tuple #[])∧TS W b T w'∧TelK b w1 w' from fun W hk b w1 ht=>by
   have:=HX.out W hk b [] w1 ht (by simpa using hl1)
   rw [hTT] at this
   simpa using this)
  rw [hTT] at hl1 hl2 ⊢
  have HL1:=hid hl1;have HL2:=hid hl2
  clear hex hT hP hfit hsz hlen hm hl1 hl2 hTT hb1 hk1 hs1
  go_enter Tryz.func10,Tryz.ntmps10
  go_upto_region 1 with fail
  rw [←hV,←hB1]
  clear hV hB1
  go_wp2_with fail
  go_at_call 26
  refine HM.out.mono ?_
  rintro e w1 ⟨rfl,hk2⟩
  obtain ⟨W,b,hW,hb,hbb,hkW,hsW⟩:=fresh_block w1 (.cells #[.pointer none,.slice none 0 0] TT)
  have HK1:=hid (HK.out.trans hk2)
  have HT0:=hid (show TS w1 b [] W from ⟨hkW,Lib.IsBuilderF.of (.inl ⟨by omega,_,hbb,World.ownsRow_nil _ _ _ _,by simp [Value.ownBlock]⟩)⟩)
  have HBW:=hid ((hk2.trans hkW).blk HB1.out)
  have HNE:=hid (show B1≠b by
   have h1:=(Array.getElem?_eq_some_iff.1 (hk2.blk HB1.out)).1
   omega)
  obtain ⟨n0,n1,n2,n3,n4,n5,n6,-⟩:=blk7 HBW.out
  clear hk2 hbb hkW hsW
  go_upto_region 4 with fail
  rw [←hW,←hb]
  clear hW hb
  go_wp2_with fail
  go_at_call 27
  refine (HX.out w1 HK1.out b W HT0.out).mono ?_
  rintro e w2 ⟨rfl,ht2,hk2⟩
  have HT2:=hid ht2
  have HST:=hid (tel_string ht2.tel HL2.out)
  clear ht2 hk2
  go_wp2_with fail
  go_at_call 29
  refine HST.out.mono ?_
  rintro e w3 ⟨rfl,hk3⟩
  have HK3:=hid (HK1.out.trans (HT2.out.keep.new hk3 fun _ e=>e))
  have HTR:=hid (trim_any T HL2.out (by have:=HL1.out;omega) w3)
  clear hk3
  go_wp2_with fail
  go_at_call 28
  refine HTR.out.mono ?_
  rintro e w4 ⟨rfl,rfl⟩
  go_wp2_with fail
  go_ret
  exact ⟨rfl,HK3.out⟩
 ·rw [if_neg hm]
  rw [Bool.not_eq_true] at hm
  rw [hm] at HM
  clear hex hT hP hfit hsz hlen hm hb1 hk1 hs1
  go_enter Tryz.func10,Tryz.ntmps10
  go_upto_region 1 with fail
  rw [←hV,←hB1]
  clear hV hB1
  go_wp2_with (go_at_call 26;refine HM.out.mono ?_;rintro e w1 ⟨rfl,hk2⟩;have HK2:=hid hk2;clear hk2)
  go_ret
  exact ⟨rfl,HK.out.trans HK2.out⟩
/-
  ParseParens in plain: an expression's text, split into tokens. No program in sight.
-/
open Go
theorem may_kinds {k o n:Int} {nm:List UInt8} {l c:Int} {ks:List Gx} (h:mayG (.mk k o n nm l c ks)=true):
  (k=1∧0≤n∧nm=[]∧o=0∧ks=[])∨(k=2∧nameB nm=true∧n=0∧o=0∧ks=[])∨(k=3∧nameB nm=true∧n=0∧o=0∧∃ a,ks=[a]∧mayG a=true)∨
  (k=4∧(o=1∨o=2)∧n=0∧nm=[]∧∃ a,ks=[a]∧mayG a=true)∨(k=5∧1≤o∧o≤13∧n=0∧nm=[]∧∃ a b,ks=[a,b]∧mayG a=true∧mayG b=true):=by
 unfold mayG mayK at h
 rw [Bool.and_eq_true] at h
 obtain ⟨h,hk⟩:=h
 have one:∀ {l:List Gx},mayGL l=true→l.length=1→∃ a,l=[a]∧mayG a=true:=fun {l} h e=>by
  match l,e with
  | [a],_=>unfold mayGL at h;rw [Bool.and_eq_true] at h;exact ⟨a,rfl,h.1⟩
 have two:∀ {l:List Gx},mayGL l=true→l.length=2→∃ a b,l=[a,b]∧mayG a=true∧mayG b=true:=fun {l} h e=>by
  match l,e with
  | [a,b],_=>unfold mayGL mayGL at h;simp only [Bool.and_eq_true] at h;exact ⟨a,b,rfl,h.1,h.2.1⟩
 split at h
 ·simp only [Bool.and_eq_true,decide_eq_true_eq] at h
  exact .inl ⟨by assumption,h.1,h.2.1,h.2.2.1,List.eq_nil_of_length_eq_zero h.2.2.2⟩
 ·split at h
  ·rename_i h23
   simp only [Bool.and_eq_true,decide_eq_true_eq] at h
   obtain ⟨h1,h2,h3,h4⟩:=h
   rcases h23 with rfl | rfl
   ·exact .inr (.inl ⟨rfl,h1,h2,h3,List.eq_nil_of_length_eq_zero (by omega)⟩)
   ·exact .inr (.inr (.inl ⟨rfl,h1,h2,h3,one hk (by omega)⟩))
  ·split at h
   ·simp only [Bool.and_eq_true,Bool.or_eq_true,decide_eq_true_eq] at h
    exact .inr (.inr (.inr (.inl ⟨by assumption,h.1,h.2.1,h.2.2.1,one hk h.2.2.2⟩)))
   ·split at h
    ·simp only [Bool.and_eq_true,decide_eq_true_eq] at h
     exact .inr (.inr (.inr (.inr ⟨by assumption,h.1.1,h.1.2,h.2.1,h.2.2.1,two hk h.2.2.2⟩)))
    ·cases h
/-
  Package parse: SameExpr, by slices.EqualFunc.
-/
mutual
def sameG:Gx→Gx→Bool
 | .mk k o n nm _ _ ks,.mk k' o' n' nm' _ _ ks'=>decide (k=k') && (decide (o=o') && (decide (n=n') && (decide (nm=nm') && sameGL ks ks')))
def sameGL:List Gx→List Gx→Bool
 | [],[]=>true
 | x::a,y::b=>sameG x y && sameGL a b
 | _,_=>false
end
theorem sameGL_len:∀ {a b:List Gx},a.length≠b.length→sameGL a b=false
 | [],[],h=>absurd rfl h
 | x::a,y::b,h=>by
  unfold sameGL
  rw [sameGL_len (a:=a) (b:=b) (by simpa using h),Bool.and_false]
 | [],_::_,_=>by unfold sameGL;rfl
 | _::_,[],_=>by unfold sameGL;rfl
theorem sameGL_all:∀ {a b:List Gx},a.length=b.length→(∀ i (h:i<a.length) (h':i<b.length),sameG a[i] b[i]=true)→sameGL a b=true
 | [],[],_,_=>by unfold sameGL;rfl
 | x::a,y::b,h,ha=>by
  unfold sameGL
  rw [show sameG x y=true from ha 0 (by simp) (by simp),sameGL_all (a:=a) (b:=b) (by simpa using h) fun i h1 h2=>ha (i+1) (by simpa using h1) (by simpa using h2)]
  rfl
 | [],_::_,h,_=>by cases h
 | _::_,[],h,_=>by cases h
theorem sameGL_at:∀ {a b:List Gx} (i:Nat) (h:i<a.length) (h':i<b.length),sameG a[i] b[i]=false→sameGL a b=false
 | x::a,y::b,0,_,_,e=>by
  unfold sameGL
  rw [show sameG x y=false from e];rfl
 | x::a,y::b,i+1,h,h',e=>by
  unfold sameGL
  rw [sameGL_at (a:=a) (b:=b) i (by simpa using h) (by simpa using h') e,Bool.and_false]
 | [],_,_,h,_,_=>by cases h
 | _::_,[],_,_,h,_=>by cases h
/-- what SameExpr says of an expression -/
def SaysG (x:Gx):Prop:=∀ (y:Gx) (w:World) (S T:Nat→Prop) (vs us:List Value),GAt w S vs x→GAt w T us y→
 Calls Tryz.prog 13 #[.agg vs.toArray,.agg us.toArray] w fun e w'=>e=.returned (.bool (sameG x y))∧KeepBut (fun _=>False) w w'
set_option maxHeartbeats 8000000 in
theorem equalG_any (l m:List Gx) (hS:∀ i (h:i<l.length),SaysG l[i]) (hl:l.length≤1099511627776) (w:World) (S T:Nat→Prop) (p q:Option Addr) (c d:Nat) (hp:GKids w S p 0 l) (hq:GKids w T q 0 m):
  Calls Tryz.prog 35 #[.slice p l.length c,.slice q m.length d,.func (.func 13) #[] #[]] w fun e w'=>e=.returned (.bool (sameGL l m))∧KeepBut (fun _=>False) w w':=by
 have HS:=hid hS;have HP:=hid hp;have HQ:=hid hq
 clear hS hp hq
 by_cases hne:l.length=m.length
 ·have hnb:((l.length:Int) != (m.length:Int))=false:=by simp [hne]
  have HNE:=hid hne
  clear hne
  go_enter Tryz.func35,Tryz.ntmps35
  go_wp2_with fail
  clear hnb
  go_loopw [17] (fun v17 wr=>∃ i:Nat,v17=.int .i64 i∧i≤l.length∧(∀ j,(hj:j<i)→(h:j<l.length)→(h':j<m.length)→sameG l[j] m[j]=true)∧KeepBut (fun _=>False) w wr) (fun v _=>l.length - (intOf v).toNat)
  case atStart=>exact ⟨0,rfl,Nat.zero_le _,fun j h=>absurd h (Nat.not_lt_zero _),KeepBut.refl _ _⟩
  case round=>
   obtain ⟨i,rfl,hi,hall,hk⟩:=hrel
   have HALL:=hid hall;have HK:=hid hk
   by_cases hlt:i<l.length
   ·have hltm:i<m.length:=by have:=HNE.out;omega
    have hlti:(i:Int)<l.length:=by omega
    have hltj:(i:Int)<m.length:=by omega
    have hi0:(0:Int)≤i:=by omega
    have hWi:IntKind.i64.wrap ((i:Int)+1)=(i:Int)+1:=IntWalk.i64_in _ (by omega)
    obtain ⟨g,o,vs,hp,hc,hex⟩:=gkids_get (HP.out.keep hk fun _ _ e=>e) i hlt
    subst hp
    rw [Nat.zero_add] at hc
    obtain ⟨yk,yo,yn,yS,yp,ym,yc,yl,ycl,rfl⟩:=g_form hex
    have x0:wr.cell? ⟨g,o+i * 7,none⟩=some (.int .i64 yk):=hc 0 _ rfl
    have x1:=hc 1 _ rfl;have x2:=hc 2 _ rfl;have x3:=hc 3 _ rfl;have x4:=hc 4 _ rfl;have x5:=hc 5 _ rfl;have x6:=hc 6 _ rfl
    obtain ⟨W,C,hW,hC,hcb,hkc,hsc⟩:=fresh_block wr (.cells #[.int .i64 yk,.int .i64 yo,.int .i64 yn,.string yS,.slice yp ym yc,.int .i64 yl,.int .i64 ycl] TEx)
    obtain ⟨g2,o2,us,hq,hc2,hex2⟩:=gkids_get (HQ.out.keep (hk.trans hkc) fun _ _ e=>e) i hltm
    subst hq
    rw [Nat.zero_add] at hc2
    obtain ⟨zk,zo,zn,zS,zp,zm,zc,zl,zcl,rfl⟩:=g_form hex2
    have y0:W.cell? ⟨g2,o2+i * 7,none⟩=some (.int .i64 zk):=hc2 0 _ rfl
    have y1:=hc2 1 _ rfl;have y2:=hc2 2 _ rfl;have y3:=hc2 3 _ rfl;have y4:=hc2 4 _ rfl;have y5:=hc2 5 _ rfl;have y6:=hc2 6 _ rfl
    obtain ⟨W2,D,hW2,hD,hdb,hkd,hsd⟩:=fresh_block W (.cells #[.int .i64 zk,.int .i64 zo,.int .i64 zn,.string zS,.slice zp zm zc,.int .i64 zl,.int .i64 zcl] TEx)
    have HCA:=hid (HS.out i hlt m[i] W2 S T _ _ ((hex.keep hkc fun _ _ e=>e).keep hkd fun _ _ e=>e) (hex2.keep hkd fun _ _ e=>e))
    have HAT:=hid (fun e=>sameGL_at (a:=l) (b:=m) i hlt hltm e)
    obtain ⟨r,hr⟩:∃ r,sameG l[i] m[i]=r:=⟨_,rfl⟩
    rw [hr] at HCA
    have HR:=hid hr
    have HKC:=hid (hkc.trans hkd)
    obtain ⟨m0,m1,m2,m3,m4,m5,m6,-⟩:=blk7 (hkd.blk hcb)
    obtain ⟨n0,n1,n2,n3,n4,n5,n6,-⟩:=blk7 hdb
    clear hc hex hc2 hex2 hk hall hsc hsd hcb hdb hkc hkd hr
    go_upto_region 6 with fail
    rw [←hW,←hC]
    clear hW hC x0 x1 x2 x3 x4 x5 x6
    go_upto_region 7 with fail
    rw [←hW2,←hD]
    clear hW2 hD y0 y1 y2 y3 y4 y5 y6
    cases r with
    | true=>
     go_wp2_with (go_at_call 13;refine HCA.out.mono ?_;rintro e w5 ⟨rfl,hk5⟩;have HK5:=hid hk5;clear hk5)
     exact ⟨⟨i+1,by simp,by omega,fun j hj h h'=>by
      by_cases e:j=i
      ·subst e;exact HR.out
      ·exact HALL.out j (by omega) h h',(HK.out.trans HKC.out).trans HK5.out⟩,by simp only [intOf];omega⟩
    | false=>
     go_wp2_with (go_at_call 13;refine HCA.out.mono ?_;rintro e w5 ⟨rfl,hk5⟩;have HK5:=hid hk5;clear hk5)
     go_ret
     exact ⟨by rw [HAT.out HR.out];rfl,(HK.out.trans HKC.out).trans HK5.out⟩
   ·have hnl:¬(i:Int)<l.length:=by omega
    clear hk hall
    go_wp2_with fail
    go_ret
    exact ⟨by rw [sameGL_all HNE.out fun j h h'=>HALL.out j (by omega) h h'];rfl,HK.out⟩
 ·have hnb:((l.length:Int) != (m.length:Int))=true:=by simpa using fun e:(l.length:Int)=m.length=>hne (by omega)
  have HNE:=hid hne
  clear hne
  go_enter Tryz.func35,Tryz.ntmps35
  go_wp2_with fail
  go_ret
  exact ⟨by rw [sameGL_len HNE.out];rfl,KeepBut.refl _ _⟩
set_option maxHeartbeats 16000000 in
theorem saysG_any:∀ (n:Nat) (x:Gx),gSize x≤n→n≤1099511627776→SaysG x:=by
 intro n
 induction n with
 | zero=>intro x hx;cases x;unfold gSize at hx;omega
 | succ n ih=>
  intro x hx hn y w S T vs us hex hey
  obtain ⟨xk,xo,xn,xm,xl,xc,ks⟩:=x
  obtain ⟨yk,yo,yn,ym,yl,yc,ls⟩:=y
  unfold GAt at hex hey
  obtain ⟨p,c,rfl,hp⟩:=hex
  obtain ⟨q,d,rfl,hq⟩:=hey
  have hsz:gSizeL ks≤n:=by unfold gSize at hx;omega
  have hlen:=glen_size ks
  obtain ⟨V1,B1,hV1,hB1,hb1,hk1,hs1⟩:=fresh_block w (.cells #[.int .i64 xk,.int .i64 xo,.int .i64 xn,strV xm,.slice p ks.length c,.int .i64 xl,.int .i64 xc] TEx)
  obtain ⟨V,B2,hV,hB2,hb2,hk2,hs2⟩:=fresh_block V1 (.cells #[.int .i64 yk,.int .i64 yo,.int .i64 yn,strV ym,.slice q ls.length d,.int .i64 yl,.int .i64 yc] TEx)
  have hk:=hk1.trans hk2
  have HEQ:=hid (equalG_any ks ls (fun i h=>ih ks[i] (by have:=gsize_mem h;omega) (by omega)) (by omega) V S T p q c d (hp.keep hk fun _ _ e=>e) (hq.keep hk fun _ _ e=>e))
  have h12:B1+1=B2:=by omega
  have HK:=hid hk;have HB1:=hid (hk2.blk hb1);have HB2:=hid hb2
  obtain ⟨sm,hsm⟩:∃ b,sameGL ks ls=b:=⟨_,rfl⟩
  have hsame:sameG (.mk xk xo xn xm xl xc ks) (.mk yk yo yn ym yl yc ls)=(decide (xk=yk) && (decide (xo=yo) && (decide (xn=yn) && (decide (xm=ym) && sm)))):=by unfold sameG;rw [hsm]
  rw [hsame]
  rw [hsm] at HEQ
  unfold strV at HB1 HB2 hV1 hV ⊢
  clear ih hx hn hp hq hsz hlen hb1 hb2 hk1 hk2 hs1 hs2 hk hsm hsame
  by_cases h1:xk=yk
  ·subst h1
   rw [decide_eq_true (rfl:xk=xk),Bool.true_and]
   by_cases h2:xo=yo
   ·subst h2
    rw [decide_eq_true (rfl:xo=xo),Bool.true_and]
    by_cases h3:xn=yn
    ·subst h3
     rw [decide_eq_true (rfl:xn=xn),Bool.true_and]
     by_cases h4:xm=ym
     ·subst h4
      rw [decide_eq_true (rfl:xm=xm),Bool.true_and]
      obtain ⟨n0,n1,n2,n3,n4,n5,n6,-⟩:=blk7 HB1.out
      obtain ⟨m0,m1,m2,m3,m4,m5,m6,-⟩:=blk7 HB2.out
      go_enter Tryz.func13,Tryz.ntmps13
      go_upto_region 1 with fail
      rw [←hV1,←hB1,←hV,h12]
      clear hV1 hB1 hV hB2 h12
      go_wp2_with (go_at_call 35;refine HEQ.out.mono ?_;rintro e w5 ⟨rfl,hk5⟩;have HK5:=hid hk5;clear hk5)
      go_ret
      exact ⟨rfl,HK.out.trans HK5.out⟩
     ·rw [decide_eq_false h4,Bool.false_and]
      obtain ⟨n0,n1,n2,n3,n4,n5,n6,-⟩:=blk7 HB1.out
      obtain ⟨m0,m1,m2,m3,m4,m5,m6,-⟩:=blk7 HB2.out
      go_enter Tryz.func13,Tryz.ntmps13
      go_upto_region 1 with fail
      rw [←hV1,←hB1,←hV,h12]
      clear hV1 hB1 hV hB2 h12
      go_wp2_with fail
      go_ret
      exact ⟨rfl,HK.out⟩
    ·rw [decide_eq_false h3,Bool.false_and]
     have h3b:((xn:Int)==(yn:Int))=false:=by rw [beq_eq_false_iff_ne];omega
     obtain ⟨n0,n1,n2,n3,n4,n5,n6,-⟩:=blk7 HB1.out
     obtain ⟨m0,m1,m2,m3,m4,m5,m6,-⟩:=blk7 HB2.out
     go_enter Tryz.func13,Tryz.ntmps13
     go_upto_region 1 with fail
     rw [←hV1,←hB1,←hV,h12]
     clear hV1 hB1 hV hB2 h12
     go_wp2_with fail
     go_ret
     exact ⟨rfl,HK.out⟩
   ·rw [decide_eq_false h2,Bool.false_and]
    have h2b:((xo:Int)==(yo:Int))=false:=by rw [beq_eq_false_iff_ne];omega
    obtain ⟨n0,n1,n2,n3,n4,n5,n6,-⟩:=blk7 HB1.out
    obtain ⟨m0,m1,m2,m3,m4,m5,m6,-⟩:=blk7 HB2.out
    go_enter Tryz.func13,Tryz.ntmps13
    go_upto_region 1 with fail
    rw [←hV1,←hB1,←hV,h12]
    clear hV1 hB1 hV hB2 h12
    go_wp2_with fail
    go_ret
    exact ⟨rfl,HK.out⟩
  ·rw [decide_eq_false h1,Bool.false_and]
   have h1b:((xk:Int)==(yk:Int))=false:=by rw [beq_eq_false_iff_ne];omega
   obtain ⟨n0,n1,n2,n3,n4,n5,n6,-⟩:=blk7 HB1.out
   obtain ⟨m0,m1,m2,m3,m4,m5,m6,-⟩:=blk7 HB2.out
   go_enter Tryz.func13,Tryz.ntmps13
   go_upto_region 1 with fail
   rw [←hV1,←hB1,←hV,h12]
   clear hV1 hB1 hV hB2 h12
   go_wp2_with fail
   go_ret
   exact ⟨rfl,HK.out⟩
/-
  ParseParens in plain: an expression's text is read back, with what follows. No program in sight.
-/
/-
  Statements and programs as they may stand in memory, whatever their fields hold.
-/
inductive Gs where
 | mk (kind:Int) (name:List UInt8) (size op:Int) (value into cont:List UInt8) (exprs:List Gx) (thn els:List Gs) (line col:Int)
structure Gc where
 kind:Int
 name:List UInt8
 line:Int
 col:Int
structure Gp where
 pool:Int
 conts:List Gc
 threads:List (List Gs)
mutual
/-- the cells of a statement; what it holds lies in blocks of S -/
def SAt (w:World) (S:Nat→Prop):List Value→Gs→Prop
 | vs,.mk k nm sz op val into cont xs thn els l c=>∃ p1 c1 p2 c2 p3 c3,vs=[.int .i64 k,strV nm,.int .i64 sz,.int .i64 op,strV val,strV into,strV cont,.slice p1 xs.length c1,.slice p2 thn.length c2,.slice p3 els.length c3,.int .i64 l,.int .i64 c]∧GKids w S p1 0 xs∧SKids w S p2 0 thn∧SKids w S p3 0 els
def SKids (w:World) (S:Nat→Prop) (p:Option Addr):Nat→List Gs→Prop
 | _,[]=>True
 | i,x::l=>(∃ g o vs,p=some ⟨g,o,none⟩∧S g∧(∀ j v,vs[j]?=some v→w.cell? ⟨g,o+i * 12+j,none⟩=some v)∧SAt w S vs x)∧SKids w S p (i+1) l
end
theorem s_form {w:World} {S:Nat→Prop} {vs:List Value} {x:Gs} (h:SAt w S vs x):∃ a n b c s1 s2 s3 p1 m1 c1 p2 m2 c2 p3 m3 c3 l cl,vs=[.int .i64 a,.string n,.int .i64 b,.int .i64 c,.string s1,.string s2,.string s3,.slice p1 m1 c1,.slice p2 m2 c2,.slice p3 m3 c3,.int .i64 l,.int .i64 cl]:=by
 cases x with
 | mk k nm sz op val into cont xs thn els l c=>
  unfold SAt at h
  obtain ⟨p1,c1,p2,c2,p3,c3,h1,-⟩:=h
  exact ⟨_,_,_,_,_,_,_,_,_,_,_,_,_,_,_,_,_,_,h1⟩
mutual
theorem SAt.keepS {w w':World} {S S':Nat→Prop} (hk:∀ b o v,S b→w.cell? ⟨b,o,none⟩=some v→w'.cell? ⟨b,o,none⟩=some v∧S' b):∀ {vs:List Value} {e:Gs},SAt w S vs e→SAt w' S' vs e
 | vs,.mk k nm sz op val into cont xs thn els l c,h=>by
  unfold SAt at h ⊢
  obtain ⟨p1,c1,p2,c2,p3,c3,h1,h2,h3,h4⟩:=h
  exact ⟨p1,c1,p2,c2,p3,c3,h1,GKids.keepS hk h2,SKids.keepS hk h3,SKids.keepS hk h4⟩
theorem SKids.keepS {w w':World} {S S':Nat→Prop} (hk:∀ b o v,S b→w.cell? ⟨b,o,none⟩=some v→w'.cell? ⟨b,o,none⟩=some v∧S' b):∀ {p:Option Addr} {i:Nat} {l:List Gs},SKids w S p i l→SKids w' S' p i l
 | p,i,[],_=>by unfold SKids;trivial
 | p,i,x::l,h=>by
  unfold SKids at h ⊢
  obtain ⟨⟨g,o,vs,h1,h2,h3,h4⟩,h5⟩:=h
  have hv:∃ v,vs[0]?=some v:=by
   obtain ⟨_,_,_,_,_,_,_,_,_,_,_,_,_,_,_,_,_,_,h6⟩:=s_form h4
   exact ⟨_,by rw [h6];rfl⟩
  obtain ⟨v0,hv0⟩:=hv
  exact ⟨⟨g,o,vs,h1,(hk g _ _ h2 (h3 0 v0 hv0)).2,fun j v hj=>(hk g _ _ h2 (h3 j v hj)).1,SAt.keepS hk h4⟩,SKids.keepS hk h5⟩
end
theorem SAt.keep {E:Nat→Prop} {w w':World} {S:Nat→Prop} (k:KeepBut E w w') (hE:∀ b,S b→¬E b) {vs:List Value} {e:Gs} (h:SAt w S vs e):SAt w' S vs e:=
 h.keepS fun b _ _ hb hc=>⟨k.cell hc (hE b hb),hb⟩
theorem SKids.keep {E:Nat→Prop} {w w':World} {S:Nat→Prop} (k:KeepBut E w w') (hE:∀ b,S b→¬E b) {p:Option Addr} {i:Nat} {l:List Gs} (h:SKids w S p i l):SKids w' S p i l:=
 h.keepS fun b _ _ hb hc=>⟨k.cell hc (hE b hb),hb⟩
theorem skids_get {w:World} {S:Nat→Prop} {p:Option Addr}:∀ {l:List Gs} {j:Nat},SKids w S p j l→∀ i (h:i<l.length),∃ g o vs,p=some ⟨g,o,none⟩∧(∀ k v,vs[k]?=some v→w.cell? ⟨g,o+(j+i) * 12+k,none⟩=some v)∧SAt w S vs l[i]∧S g
 | x::l,j,h,0,_=>by
  unfold SKids at h
  obtain ⟨⟨g,o,vs,h1,h2,h3,h4⟩,_⟩:=h
  exact ⟨g,o,vs,h1,h3,h4,h2⟩
 | x::l,j,h,i+1,hi=>by
  unfold SKids at h
  obtain ⟨g,o,vs,h1,h3,h4,h5⟩:=skids_get h.2 i (by simpa using hi)
  refine ⟨g,o,vs,h1,fun k v hk=>?_,h4,h5⟩
  rw [show j+(i+1)=j+1+i by omega]
  exact h3 k v hk
 | [],_,_,i,hi=>absurd hi (by simp)
mutual
def sSize:Gs→Nat
 | .mk _ _ _ _ _ _ _ xs thn els _ _=>gSizeL xs+sSizeL thn+sSizeL els+1
def sSizeL:List Gs→Nat
 | []=>0
 | s::l=>sSize s+sSizeL l
end
mutual
def sDeep:Gs→Nat
 | .mk _ _ _ _ _ _ _ xs thn els _ _=>max (max (gDeepL xs) (sDeepL thn)) (sDeepL els)+1
def sDeepL:List Gs→Nat
 | []=>0
 | s::l=>max (sDeep s) (sDeepL l)
end
theorem sSizeL_take {l:List Gs} {i:Nat} (h:i<l.length):sSizeL (l.take (i+1))=sSizeL (l.take i)+sSize l[i]:=by
 induction l generalizing i with
 | nil=>cases h
 | cons x l ih=>
  cases i with
  | zero=>simp [sSizeL]
  | succ i=>
   have h':i<l.length:=by simpa using h
   simp only [List.take_succ_cons,sSizeL,List.getElem_cons_succ]
   rw [ih h']
   omega
theorem sDeepL_take {l:List Gs} {i:Nat} (h:i<l.length):sDeepL (l.take (i+1))=max (sDeepL (l.take i)) (sDeep l[i]):=by
 induction l generalizing i with
 | nil=>cases h
 | cons x l ih=>
  cases i with
  | zero=>simp [sDeepL]
  | succ i=>
   have h':i<l.length:=by simpa using h
   simp only [List.take_succ_cons,sDeepL,List.getElem_cons_succ]
   rw [ih h']
   omega
theorem ssize_mem {l:List Gs} {i:Nat} (h:i<l.length):sSize l[i]≤sSizeL l:=by
 induction l generalizing i with
 | nil=>cases h
 | cons x l ih=>
  cases i with
  | zero=>simp [sSizeL]
  | succ i=>
   have:=ih (i:=i) (by simpa using h)
   simp only [sSizeL,List.getElem_cons_succ]
   omega
theorem sSizeL_le {l:List Gs} (i:Nat):sSizeL (l.take i)≤sSizeL l:=by
 induction l generalizing i with
 | nil=>simp [sSizeL]
 | cons x l ih=>
  cases i with
  | zero=>simp [sSizeL]
  | succ i=>
   have:=ih i
   simp only [List.take_succ_cons,sSizeL]
   omega
theorem slen_size:∀ l:List Gs,l.length≤sSizeL l
 | []=>by simp
 | x::l=>by
  have h1:1≤sSize x:=by cases x;unfold sSize;omega
  have:=slen_size l
  simp only [List.length_cons,sSizeL]
  omega
mutual
theorem sdeep_le:∀ x:Gs,sDeep x≤sSize x
 | .mk _ _ _ _ _ _ _ xs thn els _ _=>by
  unfold sDeep sSize
  have:=gDeepL_le xs
  have:=sDeepL_le thn
  have:=sDeepL_le els
  omega
theorem sDeepL_le:∀ l:List Gs,sDeepL l≤sSizeL l
 | []=>by simp [sDeepL]
 | x::l=>by
  unfold sDeepL sSizeL
  have:=sdeep_le x
  have:=sDeepL_le l
  omega
end
mutual
def toS:St→Gs
 | .mk k nm sz op val into cont xs thn els l c=>.mk k nm sz op val into cont (toGL xs) (toSL thn) (toSL els) l c
def toSL:List St→List Gs
 | []=>[]
 | x::l=>toS x::toSL l
end
theorem toSL_len:∀ l:List St,(toSL l).length=l.length
 | []=>rfl
 | x::l=>by unfold toSL;simp [toSL_len l]
mutual
theorem StAt.toS {w:World} {S:Nat→Prop}:∀ {vs:List Value} {x:St},StAt w S vs x→SAt w S vs (toS x)
 | vs,.mk k nm sz op val into cont xs thn els l c,h=>by
  unfold StAt at h
  obtain ⟨p1,c1,p2,c2,p3,c3,h1,h2,h3,h4⟩:=h
  unfold Go.Proofs.YtomlffobbkcmdaaGreatDoor.toS SAt
  exact ⟨p1,c1,p2,c2,p3,c3,by rw [toGL_len,toSL_len,toSL_len];exact h1,KidsAt.toG h2,StsAt.toS h3,StsAt.toS h4⟩
theorem StsAt.toS {w:World} {S:Nat→Prop}:∀ {p:Option Addr} {i:Nat} {l:List St},StsAt w S p i l→SKids w S p i (toSL l)
 | p,i,[],_=>by unfold toSL SKids;trivial
 | p,i,x::l,h=>by
  unfold StsAt at h
  obtain ⟨⟨g,o,vs,h1,h2,h3,h4⟩,h5⟩:=h
  unfold toSL SKids
  exact ⟨⟨g,o,vs,h1,h2,h3,StAt.toS h4⟩,StsAt.toS h5⟩
end
mutual
theorem toS_size:∀ x:St,sSize (toS x)=stSize x
 | .mk k nm sz op val into cont xs thn els l c=>by unfold toS sSize stSize;rw [toGL_size xs,toSL_size thn,toSL_size els]
theorem toSL_size:∀ l:List St,sSizeL (toSL l)=stsSize l
 | []=>rfl
 | x::l=>by unfold toSL sSizeL stsSize;rw [toS_size x,toSL_size l]
end
/-- containers in memory -/
def GCts (w:World) (S:Nat→Prop) (p:Option Addr) (l:List Gc):Prop:=∀ i (h:i<l.length),∃ g o,p=some ⟨g,o,none⟩∧S g∧
 w.cell? ⟨g,o+i * 4,none⟩=some (.int .i64 l[i].kind)∧w.cell? ⟨g,o+i * 4+1,none⟩=some (strV l[i].name)∧w.cell? ⟨g,o+i * 4+2,none⟩=some (.int .i64 l[i].line)∧w.cell? ⟨g,o+i * 4+3,none⟩=some (.int .i64 l[i].col)
/-- threads in memory -/
def GThs (w:World) (S:Nat→Prop) (p:Option Addr) (l:List (List Gs)):Prop:=∀ i (h:i<l.length),∃ g o q c,p=some ⟨g,o,none⟩∧S g∧
 w.cell? ⟨g,o+i,none⟩=some (.slice q l[i].length c)∧SKids w S q 0 l[i]
theorem GCts.keepS {w w':World} {S S':Nat→Prop} (hk:∀ b o v,S b→w.cell? ⟨b,o,none⟩=some v→w'.cell? ⟨b,o,none⟩=some v∧S' b) {p:Option Addr} {l:List Gc} (h:GCts w S p l):GCts w' S' p l:=fun i hi=>by
 obtain ⟨g,o,h1,h2,h3,h4,h5,h6⟩:=h i hi
 exact ⟨g,o,h1,(hk _ _ _ h2 h3).2,(hk _ _ _ h2 h3).1,(hk _ _ _ h2 h4).1,(hk _ _ _ h2 h5).1,(hk _ _ _ h2 h6).1⟩
theorem GThs.keepS {w w':World} {S S':Nat→Prop} (hk:∀ b o v,S b→w.cell? ⟨b,o,none⟩=some v→w'.cell? ⟨b,o,none⟩=some v∧S' b) {p:Option Addr} {l:List (List Gs)} (h:GThs w S p l):GThs w' S' p l:=fun i hi=>by
 obtain ⟨g,o,q,c,h1,h2,h3,h4⟩:=h i hi
 exact ⟨g,o,q,c,h1,(hk _ _ _ h2 h3).2,(hk _ _ _ h2 h3).1,h4.keepS hk⟩
theorem GCts.keep {E:Nat→Prop} {w w':World} {S:Nat→Prop} (k:KeepBut E w w') (hE:∀ b,S b→¬E b) {p:Option Addr} {l:List Gc} (h:GCts w S p l):GCts w' S p l:=
 h.keepS fun b _ _ hb hc=>⟨k.cell hc (hE b hb),hb⟩
theorem GThs.keep {E:Nat→Prop} {w w':World} {S:Nat→Prop} (k:KeepBut E w w') (hE:∀ b,S b→¬E b) {p:Option Addr} {l:List (List Gs)} (h:GThs w S p l):GThs w' S p l:=
 h.keepS fun b _ _ hb hc=>⟨k.cell hc (hE b hb),hb⟩
theorem GCts.mono {w:World} {S S':Nat→Prop} (hS:∀ b,S b→S' b) {p:Option Addr} {l:List Gc} (h:GCts w S p l):GCts w S' p l:=
 h.keepS fun _ _ _ hb hc=>⟨hc,hS _ hb⟩
theorem GThs.mono {w:World} {S S':Nat→Prop} (hS:∀ b,S b→S' b) {p:Option Addr} {l:List (List Gs)} (h:GThs w S p l):GThs w S' p l:=
 h.keepS fun _ _ _ hb hc=>⟨hc,hS _ hb⟩
/-- a program's cells -/
def PAt (w:World) (S:Nat→Prop) (v:Value) (p:Gp):Prop:=∃ p1 c1 p2 c2,v=.agg #[.int .i64 p.pool,.slice p1 p.conts.length c1,.slice p2 p.threads.length c2]∧GCts w S p1 p.conts∧GThs w S p2 p.threads
def toC (c:Ct):Gc:=⟨c.kind,c.name,c.line,c.col⟩
def toP (p:Pr):Gp:=⟨p.pool,p.conts.map toC,p.threads.map toSL⟩
end Go.Proofs.YtomlffobbkcmdaaGreatDoor
