import Derived.Test.YtknnmidnodeanaaGreatDoorJu12
import Derived.Laws.Strings2
set_option maxHeartbeats 8000000
namespace Go.Proofs.YtknnmidnodeanaaGreatDoor
open Go Go.RowKit Own
open Go.Lib (hid)
theorem skids_gt {w:World}{S:Nat→Prop}{p:Option Addr}{l:List Gs}{j:Nat}(h:CF w S p j l)(i:Nat)(hi:i<l.length):∃g o vs,p=some ⟨g,o,none⟩∧(∀k v,vs[k]?=some v→w.cell? ⟨g,o+(j+i) * 12+k,none⟩=some v)∧SAt w S vs l[i]:=by
 obtain⟨g,o,vs,h1,h2,h3,-⟩:=skids_get h i hi;exact⟨g,o,vs,h1,h2,h3⟩
def DM:List (List Gs)→Nat
 |[]=>0
 |b::l=>BI b+DM l
theorem hSize_take {l:List (List Gs)}{i:Nat}(h:i<l.length):DM (l.take (i+1))=DM (l.take i)+BI l[i]:=by
 induction l generalizing i with
 |nil=>cases h
 | cons x l ih=>
  cases i with
  |zero=>simp[DM]
  | succ i=>
   have h':i<l.length:=by simpa using h
   simp only[List.take_succ_cons,DM,List.getElem_cons_succ];rw[ih h'];omega
theorem hSize_le {l:List (List Gs)}(i:Nat):DM (l.take i)≤DM l:=by
 induction l generalizing i with
 |nil=>simp[DM]
 | cons x l ih=>
  cases i with
  |zero=>simp[DM]
  | succ i=>
   have:=ih i;simp only[List.take_succ_cons,DM];omega
theorem gths_get {w:World}{S:Nat→Prop}{q:Option Addr}{l:List (List Gs)}(h:GThs w S q l)(i:Nat)(hi:i<l.length):∃g o p c,q=some ⟨g,o,none⟩∧w.cell? ⟨g,o+i,none⟩=some (.slice p l[i].length c)∧CF w S p 0 l[i]:=by
 obtain⟨g,o,p,c,h1,-,h3,h4⟩:=h i hi;exact⟨g,o,p,c,h1,h3,h4⟩
def SaysMayG (mb:Gx→Bool)(x:Gx):Prop:=∀(w:World) (S:Nat→Prop) (vs:List Value),TabS w→GAt w S vs x→
 Calls Tryz.prog 93 #[.agg vs.toArray] w fun e w'=>e=.returned (.bool (mb x))∧BA (fun _=>False) w w'
theorem mayFnG_any (mb:Gx→Bool)(x:Gx)(hS:SaysMayG mb x)(w:World)(hT:TabS w)(S:Nat→Prop)(vs:List Value)(hex:GAt w S vs x):
  Calls Tryz.prog 102 #[.agg vs.toArray] w fun e w'=>e=.returned (.bool (!mb x))∧BA (fun _=>False) w w':=by
 obtain⟨yk,yo,yn,yS,yp,ym,yc,yl,ycl,rfl⟩:=g_form hex;obtain⟨W,C,hW,hC,hcb,hkc,hsc⟩:=BD w (.cells #[.int .i64 yk,.int .i64 yo,.int .i64 yn,.string yS,.slice yp ym yc,.int .i64 yl,.int .i64 ycl] TEx);have HM:=hid (hS W S _ (hkc.tabS hT) (hex.keep hkc fun _ _ e=>e));have HK:=hid hkc;obtain⟨n0,n1,n2,n3,n4,n5,n6,-⟩:=blk7 hcb;obtain⟨b,hb⟩:∃b,mb x=b:=⟨_,rfl⟩;rw[hb]at HM ⊢;clear hS hT hex hcb hkc hsc hb;go_enter Tryz.func102,Tryz.ntmps102;go_upto_region 1 with fail;rw[←hW,←hC];clear hW hC;go_wp2_with (go_at_call 93;refine HM.out.mono ?_;rintro e w5 ⟨rfl,hk5⟩;have HK5:=hid hk5;clear hk5);go_ret;exact⟨rfl,HK.out.trans HK5.out⟩
def IdxG (mb:Gx→Bool)(l:List Gx)(w:World)(e:Ending)(w':World):Prop:=∃k:Int,e=.returned (.int .i64 k)∧decide (0≤k)=l.any (fun x=>!mb x)∧BA (fun _=>False) w w'
theorem idxG_any (mb:Gx→Bool)(l:List Gx)(hS:∀i (h:i<l.length),SaysMayG mb l[i])(hl:l.length≤1099511627776)(w:World)(hT:TabS w)(S:Nat→Prop)(p:Option Addr)(c:Nat)(hp:DC w S p 0 l):
  Calls Tryz.prog 101 #[.slice p l.length c,.func (.func 102) #[] #[]] w fun e w'=>IdxG mb l w e w':=by
 have HS:=hid hS;have HP:=hid hp;have HT:=hid hT;clear hS hp hT;go_enter Tryz.func101,Tryz.ntmps101;go_wp2_with fail;go_loopw [8] (fun v8 wr=>∃k:Nat,v8=.int .i64 k∧k≤l.length∧(∀j,(hj:j<k)→(h:j<l.length)→mb l[j]=true)∧BA (fun _=>False) w wr) (fun v _=>l.length - (intOf v).toNat)
 case atStart=>exact⟨0,rfl,Nat.zero_le _,fun j h=>absurd h (Nat.not_lt_zero _),BA.refl _ _⟩
 case round=>
  obtain⟨k,rfl,hk,hall,hkk⟩:=hrel;have HALL:=hid hall;have HK:=hid hkk;by_cases hlt:k<l.length
  ·have hlti:(k:Int)<l.length:=by omega
   have hi0:(0:Int)≤k:=by omega
   have hWi:IntKind.i64.wrap ((k:Int)+1)=(k:Int)+1:=IntWalk.i64_in _ (by omega);obtain⟨g,o,vs,hp,hc,hex⟩:=gkids_get (HP.out.keep hkk fun _ _ e=>e) k hlt;subst hp;rw[Nat.zero_add]at hc;have HFN:=hid (mayFnG_any mb l[k] (HS.out k hlt) wr (hkk.tabS HT.out) S vs hex);obtain⟨yk,yo,yn,yS,yp,ym,yc,yl,ycl,rfl⟩:=g_form hex;have x0:wr.cell? ⟨g,o+k * 7,none⟩=some (.int .i64 yk):=hc 0 _ rfl;have x1:=hc 1 _ rfl;have x2:=hc 2 _ rfl;have x3:=hc 3 _ rfl;have x4:=hc 4 _ rfl;have x5:=hc 5 _ rfl;have x6:=hc 6 _ rfl;obtain⟨a,ha⟩:∃a,mb l[k]=a:=⟨_,rfl⟩;have HA:=hid ha;rw[ha]at HFN;clear hc hex hkk hall ha
   cases a with
   | true=>
    go_wp2_with (go_at_call 102;refine HFN.out.mono ?_;rintro e w2 ⟨rfl,hk2⟩;have HK2:=hid hk2;clear hk2)
    exact⟨⟨k+1,by simp,by omega,fun j hj h=>by
     by_cases e:j=k
     ·subst e;exact HA.out
     ·exact HALL.out j (by omega) h,HK.out.trans HK2.out⟩,by simp only[intOf];omega⟩
   | false=>
    go_wp2_with (go_at_call 102;refine HFN.out.mono ?_;rintro e w2 ⟨rfl,hk2⟩;have HK2:=hid hk2;clear hk2);go_ret;refine⟨k,rfl,?_,HK.out.trans HK2.out⟩;rw[decide_eq_true (by omega:(0:Int)≤k)];exact(List.any_eq_true.2 ⟨l[k],List.getElem_mem hlt,by rw[HA.out];rfl⟩).symm
  ·have hnl:¬(k:Int)<l.length:=by omega
   clear hkk hall;go_wp2_with fail;go_ret;refine⟨-1,rfl,?_,HK.out⟩;rw[decide_eq_false (by omega:¬(0:Int)≤-1)]
   symm
   rw[List.any_eq_false];intro x hx;obtain⟨j,hj,e⟩:=List.getElem_of_mem hx;rw[←e,HALL.out j (by omega) hj];exact NT
theorem hasG_any (mb:Gx→Bool)(l:List Gx)(hS:∀i (h:i<l.length),SaysMayG mb l[i])(hl:l.length≤1099511627776)(w:World)(hT:TabS w)(S:Nat→Prop)(p:Option Addr)(c:Nat)(hp:DC w S p 0 l):
  Calls Tryz.prog 91 #[.slice p l.length c,.func (.func 102) #[] #[]] w fun e w'=>e=.returned (.bool (l.any fun x=>!mb x))∧BA (fun _=>False) w w':=by
 have HI:=hid (idxG_any mb l hS hl w hT S p c hp);clear hS hp hT;go_enter Tryz.func91,Tryz.ntmps91;go_wp2_with (go_at_call 101;refine HI.out.mono ?_;rintro e w2 ⟨k,rfl,hd,hk⟩;have HD:=hid hd;have HK:=hid hk;clear hd hk);go_ret;exact⟨by rw[←HD.out];rfl,HK.out⟩
theorem byte_at {s:ByteArray}{L:List UInt8}(hL:s.data.toList=L){at_:Nat}{c:UInt8}{r:List UInt8}(hd:L.drop at_=c::r):∀h:at_<s.size,(s[at_]'h).toNat=c.toNat:=fun h=>by
 have e:s.data.toList.drop at_=c::r:=by rw[hL];exact hd
 rw[drop_at h]at e;have e2:=(List.cons.inj e).1;rw[←e2];simp[ByteArray.get!,h];rfl
theorem BW (s:ByteArray)(w:World)(htab:TabS w):
  Calls Tryz.prog 48 #[.string s] w fun e w'=>e=.returned (.bool (nameB s.data.toList))∧BA (fun _=>False) w w':=by
 have hsl:s.data.toList.length=s.size:=by simp
 obtain⟨m,hm⟩:∃m,(s.data.toList.takeWhile wordB).length=m:=⟨_,rfl⟩;obtain⟨r,hr⟩:∃r,reservedB s.data.toList=r:=⟨_,rfl⟩
 have HR:=hid (show ∀W:World,TabS W→Calls Tryz.prog 65 #[.string s] W fun e w'=>e=.returned (.bool r)∧BA (fun _=>False) W w' from fun W h=>by
  have:=isReserved_any s W h;rw[hr]at this;exact this)
 have HS:=hid (show ∀W:World,Calls Tryz.prog 63 #[.string s,.func (.func 64) #[] #[]] W fun e w'=>e=.returned (.int .i64 (m:Nat))∧BA (fun _=>False) W w' from fun W=>by
  have:=span_any wordB word_small 64 (enters_of Tryz.func64 (by kernel_rfl) rfl) inWord_any s W;rw[hm]at this;exact this)
 have HT:=hid htab;clear htab;by_cases h0:0<s.size
 ·have h0i:(0:Int)<(s.size:Int):=by omega
  by_cases h16:s.size≤16
  ·have h16i:(s.size:Int)≤16:=by omega
   obtain⟨c,t,hL⟩:∃c t,s.data.toList=c::t:=by
    cases h:s.data.toList with
    |nil=>rw[h]at hsl;simp at hsl;omega
    |cons c t=>exact⟨c,t,rfl⟩
   have hz:=byte_at (at_:=0) hL rfl h0;obtain⟨k,hk⟩:∃k:Int,kindI (c.toNat:Int)=k:=⟨_,rfl⟩;have hO:=hid (fun w=>of_int (c.toNat:Int) w);rw[hk]at hO
   have HE:=hid (show nameB s.data.toList=((k==3) && (((m:Int)==(s.size:Int)) && !r)) by
    unfold nameB;rw[hr,hm,hsl];have e1:(s.data.toList.headD 0)=c:=by rw[hL];rfl
    have e2:decide (m=s.size)=((m:Int)==(s.size:Int)):=by
     rw[Bool.eq_iff_iff];simp;omega
    rw[e1,e2,←kind_letter,hk];simp[h0,h16])
   clear hm hr hL hk hsl h16
   cases h3:(k==3) with
   | false=>
    go_enter Tryz.func48,Tryz.ntmps48;go_wp2_with (go_at_call 62;refine(hO.out _).mono ?_;rintro e w' ⟨rfl,rfl⟩);go_ret;exact⟨ret_bool (by rw[HE.out,h3];rfl),BA.refl _ _⟩
   | true=>
    cases h4:((m:Int)==(s.size:Int)) with
    | false=>
     go_enter Tryz.func48,Tryz.ntmps48
     go_wp2_with (first
      |(go_at_call 62;refine(hO.out _).mono ?_;rintro e w' ⟨rfl,rfl⟩)
      |(go_at_call 63;refine(HS.out _).mono ?_;rintro e w2 ⟨rfl,hk2⟩;have HK2:=hid hk2;clear hk2))
     go_ret;exact⟨ret_bool (by rw[HE.out,h3,h4];rfl),HK2.out⟩
    | true=>
     have HEE:=hid (show nameB s.data.toList=!r by rw[HE.out,h3,h4];rfl);go_enter Tryz.func48,Tryz.ntmps48
     go_wp2_with (first
      |(go_at_call 62;refine(hO.out _).mono ?_;rintro e w' ⟨rfl,rfl⟩)
      |(go_at_call 63;refine(HS.out _).mono ?_;rintro e w2 ⟨rfl,hk2⟩;have HK2:=hid hk2;clear hk2)
      |(go_at_call 65;refine(HR.out _ (HK2.out.tabS HT.out)).mono ?_;rintro e w3 ⟨rfl,hk3⟩;have HK3:=hid (HK2.out.trans hk3);clear hk3))
     go_ret;exact⟨ret_bool HEE.out.symm,HK3.out⟩
  ·have h16i:¬(s.size:Int)≤16:=by omega
   have HE:=hid (show nameB s.data.toList=false by unfold nameB;rw[hsl];simp[h16]);clear hm hr hsl h0 h16;go_enter Tryz.func48,Tryz.ntmps48;go_wp2_with fail;go_ret;exact⟨ret_bool HE.out.symm,BA.refl _ _⟩
 ·have h0i:¬(0:Int)<(s.size:Int):=by omega
  have HE:=hid (show nameB s.data.toList=false by unfold nameB;rw[hsl];simp[h0]);clear hm hr hsl h0;go_enter Tryz.func48,Tryz.ntmps48;go_wp2_with fail;go_ret;exact⟨ret_bool HE.out.symm,BA.refl _ _⟩
def SaysS (mb:Gs→Bool)(x:Gs):Prop:=∀(w:World) (S:Nat→Prop) (vs:List Value),TabS w→SAt w S vs x→
 Calls Tryz.prog 69 #[.agg vs.toArray] w fun e w'=>e=.returned (.bool (mb x))∧BA (fun _=>False) w w'
theorem mayFnS_any (mb:Gs→Bool)(x:Gs)(hS:SaysS mb x)(w:World)(hT:TabS w)(S:Nat→Prop)(vs:List Value)(hex:SAt w S vs x):
  Calls Tryz.prog 68 #[.agg vs.toArray] w fun e w'=>e=.returned (.bool (!mb x))∧BA (fun _=>False) w w':=by
 obtain⟨s0,s1,s2,s3,s4,s5,s6,p1,m1,c1,p2,m2,c2,p3,m3,c3,s10,s11,rfl⟩:=s_form hex;obtain⟨W,C,hW,hC,hcb,hkc,hsc⟩:=BD w (.cells #[.int .i64 s0,.string s1,.int .i64 s2,.int .i64 s3,.string s4,.string s5,.string s6,.slice p1 m1 c1,.slice p2 m2 c2,.slice p3 m3 c3,.int .i64 s10,.int .i64 s11] TSm);have HM:=hid (hS W S _ (hkc.tabS hT) (hex.keep hkc fun _ _ e=>e));have HK:=hid hkc;obtain⟨n0,n1,n2,n3,n4,n5,n6,n7,n8,n9,n10,n11⟩:=BK hcb;obtain⟨b,hb⟩:∃b,mb x=b:=⟨_,rfl⟩;rw[hb]at HM ⊢;clear hS hT hex hcb hkc hsc hb;go_enter Tryz.func68,Tryz.ntmps68;go_upto_region 1 with fail;rw[←hW,←hC];clear hW hC;go_wp2_with (go_at_call 69;refine HM.out.mono ?_;rintro e w5 ⟨rfl,hk5⟩;have HK5:=hid hk5;clear hk5);go_ret;exact⟨rfl,HK.out.trans HK5.out⟩
def IdxL {α:Type}(bad:α→Bool)(l:List α)(w:World)(e:Ending)(w':World):Prop:=∃k:Int,e=.returned (.int .i64 k)∧decide (0≤k)=l.any bad∧BA (fun _=>False) w w'
theorem idxS_any (bad:Gs→Bool)(l:List (Gs))(hS:∀i (h:i<l.length) (W:World) (S:Nat→Prop) (vs:List Value),TabS W→SAt W S vs l[i]→Calls Tryz.prog 68 #[.agg vs.toArray] W fun e w'=>e=.returned (.bool (bad l[i]))∧BA (fun _=>False) W w')(hl:l.length≤1099511627776)(w:World)(hT:TabS w)(S:Nat→Prop)(p:Option Addr)(c:Nat)(hp:CF w S p 0 l):
  Calls Tryz.prog 88 #[.slice p l.length c,.func (.func 68) #[] #[]] w fun e w'=>IdxL bad l w e w':=by
 have HS:=hid hS;have HP:=hid hp;have HT:=hid hT;clear hS hp hT;go_enter Tryz.func88,Tryz.ntmps88;go_wp2_with fail;go_loopw [8] (fun v8 wr=>∃k:Nat,v8=.int .i64 k∧k≤l.length∧(∀j,(hj:j<k)→(h:j<l.length)→bad l[j]=false)∧BA (fun _=>False) w wr) (fun v _=>l.length - (intOf v).toNat)
 case atStart=>exact⟨0,rfl,Nat.zero_le _,fun j h=>absurd h (Nat.not_lt_zero _),BA.refl _ _⟩
 case round=>
  obtain⟨k,rfl,hk,hall,hkk⟩:=hrel;have HALL:=hid hall;have HK:=hid hkk;by_cases hlt:k<l.length
  ·have hlti:(k:Int)<l.length:=by omega
   have hi0:(0:Int)≤k:=by omega
   have hWi:IntKind.i64.wrap ((k:Int)+1)=(k:Int)+1:=IntWalk.i64_in _ (by omega);obtain⟨g,o,vs,hp,hc,hex⟩:=skids_gt (HP.out.keep hkk fun _ _ e=>e) k hlt;subst hp;rw[Nat.zero_add]at hc;have HFN:=hid (HS.out k hlt wr S vs (hkk.tabS HT.out) hex);obtain⟨s0,s1,s2,s3,s4,s5,s6,p1,m1,c1,p2,m2,c2,p3,m3,c3,s10,s11,rfl⟩:=s_form hex;have x0:wr.cell? ⟨g,o+k * 12,none⟩=some (.int .i64 s0):=hc 0 _ rfl;have x1:=hc 1 _ rfl;have x2:=hc 2 _ rfl;have x3:=hc 3 _ rfl;have x4:=hc 4 _ rfl;have x5:=hc 5 _ rfl;have x6:=hc 6 _ rfl;have x7:=hc 7 _ rfl;have x8:=hc 8 _ rfl;have x9:=hc 9 _ rfl;have x10:=hc 10 _ rfl;have x11:=hc 11 _ rfl;clear hc hex;obtain⟨a,ha⟩:∃a,bad l[k]=a:=⟨_,rfl⟩;have HA:=hid ha;rw[ha]at HFN;clear hkk hall ha
   cases a with
   | false=>
    go_wp2_with (go_at_call 68;refine HFN.out.mono ?_;rintro e w2 ⟨rfl,hk2⟩;have HK2:=hid hk2;clear hk2)
    exact⟨⟨k+1,by simp,by omega,fun j hj h=>by
     by_cases e:j=k
     ·subst e;exact HA.out
     ·exact HALL.out j (by omega) h,HK.out.trans HK2.out⟩,by simp only[intOf];omega⟩
   | true=>
    go_wp2_with (go_at_call 68;refine HFN.out.mono ?_;rintro e w2 ⟨rfl,hk2⟩;have HK2:=hid hk2;clear hk2);go_ret;refine⟨k,rfl,?_,HK.out.trans HK2.out⟩;rw[decide_eq_true (by omega:(0:Int)≤k)];exact(List.any_eq_true.2 ⟨l[k],List.getElem_mem hlt,HA.out⟩).symm
  ·have hnl:¬(k:Int)<l.length:=by omega
   clear hkk hall;go_wp2_with fail;go_ret;refine⟨-1,rfl,?_,HK.out⟩;rw[decide_eq_false (by omega:¬(0:Int)≤-1)]
   symm
   rw[List.any_eq_false];intro x hx;obtain⟨j,hj,e⟩:=List.getElem_of_mem hx;rw[←e,HALL.out j (by omega) hj];exact NT
theorem hasS_any (bad:Gs→Bool)(l:List (Gs))(hS:∀i (h:i<l.length) (W:World) (S:Nat→Prop) (vs:List Value),TabS W→SAt W S vs l[i]→Calls Tryz.prog 68 #[.agg vs.toArray] W fun e w'=>e=.returned (.bool (bad l[i]))∧BA (fun _=>False) W w')(hl:l.length≤1099511627776)(w:World)(hT:TabS w)(S:Nat→Prop)(p:Option Addr)(c:Nat)(hp:CF w S p 0 l):
  Calls Tryz.prog 67 #[.slice p l.length c,.func (.func 68) #[] #[]] w fun e w'=>e=.returned (.bool (l.any bad))∧BA (fun _=>False) w w':=by
 have HI:=hid (idxS_any bad l hS hl w hT S p c hp);clear hS hp hT;go_enter Tryz.func67,Tryz.ntmps67;go_wp2_with (go_at_call 88;refine HI.out.mono ?_;rintro e w2 ⟨k,rfl,hd,hk⟩;have HD:=hid hd;have HK:=hid hk;clear hd hk);go_ret;exact⟨by rw[←HD.out];rfl,HK.out⟩
theorem CM (mb:Gs→Bool)(l:List Gs)(hS:∀i (h:i<l.length),SaysS mb l[i])(hl:l.length≤1099511627776)(w:World)(hT:TabS w)(S:Nat→Prop)(p:Option Addr)(c:Nat)(hp:CF w S p 0 l):
  Calls Tryz.prog 52 #[.slice p l.length c] w fun e w'=>e=.returned (.bool (!(l.any fun x=>!mb x)))∧BA (fun _=>False) w w':=by
 have HI:=hid (hasS_any (fun x=>!mb x) l (fun i h W S vs hT hex=>mayFnS_any mb l[i] (hS i h) W hT S vs hex) hl w hT S p c hp);clear hS hp hT;go_enter Tryz.func52,Tryz.ntmps52;go_wp2_with (go_at_call 67;refine HI.out.mono ?_;rintro e w2 ⟨rfl,hk⟩;have HK:=hid hk;clear hk);go_ret;exact⟨rfl,HK.out⟩
theorem mayFnT_any (b:Bool)(w:World)(q:Option Addr)(n c:Nat)(hB:Calls Tryz.prog 52 #[.slice q n c] w fun e w'=>e=.returned (.bool b)∧BA (fun _=>False) w w'):
  Calls Tryz.prog 51 #[.slice q n c] w fun e w'=>e=.returned (.bool (!b))∧BA (fun _=>False) w w':=by
 have HI:=hid hB;clear hB;go_enter Tryz.func51,Tryz.ntmps51;go_wp2_with (go_at_call 52;refine HI.out.mono ?_;rintro e w2 ⟨rfl,hk⟩;have HK:=hid hk;clear hk);go_ret;exact⟨rfl,HK.out⟩
theorem idxT_any (bad:List Gs→Bool)(l:List (List Gs))(hS:∀i (h:i<l.length) (W:World) (S:Nat→Prop) (q:Option Addr) (cq:Nat),TabS W→CF W S q 0 l[i]→Calls Tryz.prog 51 #[.slice q l[i].length cq] W fun e w'=>e=.returned (.bool (bad l[i]))∧BA (fun _=>False) W w')(hl:l.length≤1099511627776)(w:World)(hT:TabS w)(S:Nat→Prop)(p:Option Addr)(c:Nat)(hp:GThs w S p l):
  Calls Tryz.prog 66 #[.slice p l.length c,.func (.func 51) #[] #[]] w fun e w'=>IdxL bad l w e w':=by
 have HS:=hid hS;have HP:=hid hp;have HT:=hid hT;clear hS hp hT;go_enter Tryz.func66,Tryz.ntmps66;go_wp2_with fail;go_loopw [8] (fun v8 wr=>∃k:Nat,v8=.int .i64 k∧k≤l.length∧(∀j,(hj:j<k)→(h:j<l.length)→bad l[j]=false)∧BA (fun _=>False) w wr) (fun v _=>l.length - (intOf v).toNat)
 case atStart=>exact⟨0,rfl,Nat.zero_le _,fun j h=>absurd h (Nat.not_lt_zero _),BA.refl _ _⟩
 case round=>
  obtain⟨k,rfl,hk,hall,hkk⟩:=hrel;have HALL:=hid hall;have HK:=hid hkk;by_cases hlt:k<l.length
  ·have hlti:(k:Int)<l.length:=by omega
   have hi0:(0:Int)≤k:=by omega
   have hWi:IntKind.i64.wrap ((k:Int)+1)=(k:Int)+1:=IntWalk.i64_in _ (by omega);obtain⟨g,o,q,cq,hp,-,y0,hsk⟩:=(HP.out.keep hkk fun _ _ e=>e) k hlt;subst hp;have HFN:=hid (HS.out k hlt wr S q cq (hkk.tabS HT.out) hsk);clear hsk;obtain⟨a,ha⟩:∃a,bad l[k]=a:=⟨_,rfl⟩;have HA:=hid ha;rw[ha]at HFN;clear hkk hall ha
   cases a with
   | false=>
    go_wp2_with (go_at_call 51;refine HFN.out.mono ?_;rintro e w2 ⟨rfl,hk2⟩;have HK2:=hid hk2;clear hk2)
    exact⟨⟨k+1,by simp,by omega,fun j hj h=>by
     by_cases e:j=k
     ·subst e;exact HA.out
     ·exact HALL.out j (by omega) h,HK.out.trans HK2.out⟩,by simp only[intOf];omega⟩
   | true=>
    go_wp2_with (go_at_call 51;refine HFN.out.mono ?_;rintro e w2 ⟨rfl,hk2⟩;have HK2:=hid hk2;clear hk2);go_ret;refine⟨k,rfl,?_,HK.out.trans HK2.out⟩;rw[decide_eq_true (by omega:(0:Int)≤k)];exact(List.any_eq_true.2 ⟨l[k],List.getElem_mem hlt,HA.out⟩).symm
  ·have hnl:¬(k:Int)<l.length:=by omega
   clear hkk hall;go_wp2_with fail;go_ret;refine⟨-1,rfl,?_,HK.out⟩;rw[decide_eq_false (by omega:¬(0:Int)≤-1)]
   symm
   rw[List.any_eq_false];intro x hx;obtain⟨j,hj,e⟩:=List.getElem_of_mem hx;rw[←e,HALL.out j (by omega) hj];exact NT
theorem hasT_any (bad:List Gs→Bool)(l:List (List Gs))(hS:∀i (h:i<l.length) (W:World) (S:Nat→Prop) (q:Option Addr) (cq:Nat),TabS W→CF W S q 0 l[i]→Calls Tryz.prog 51 #[.slice q l[i].length cq] W fun e w'=>e=.returned (.bool (bad l[i]))∧BA (fun _=>False) W w')(hl:l.length≤1099511627776)(w:World)(hT:TabS w)(S:Nat→Prop)(p:Option Addr)(c:Nat)(hp:GThs w S p l):
  Calls Tryz.prog 50 #[.slice p l.length c,.func (.func 51) #[] #[]] w fun e w'=>e=.returned (.bool (l.any bad))∧BA (fun _=>False) w w':=by
 have HI:=hid (idxT_any bad l hS hl w hT S p c hp);clear hS hp hT;go_enter Tryz.func50,Tryz.ntmps50;go_wp2_with (go_at_call 66;refine HI.out.mono ?_;rintro e w2 ⟨k,rfl,hd,hk⟩;have HD:=hid hd;have HK:=hid hk;clear hd hk);go_ret;exact⟨by rw[←HD.out];rfl,HK.out⟩
theorem blk4 {w:World}{B:Nat}{a b c d:Value}{T:TypeId}(h:w.heap[B]?=some (.cells #[a,b,c,d] T (0,0))):w.cell? ⟨B,0,none⟩=some a∧w.cell? ⟨B,1,none⟩=some b∧w.cell? ⟨B,2,none⟩=some c∧w.cell? ⟨B,3,none⟩=some d:=by
 simp[World.cell?,h]
def gcV (c:Gc):Value:=.agg #[.int .i64 c.kind,strV c.name,.int .i64 c.line,.int .i64 c.col]
def mayC (c:Gc):Bool:=!(decide (c.kind<1) || (decide (3<c.kind) || !nameB c.name))
theorem mayFnC_any (c:Gc)(w:World)(hT:TabS w):
  Calls Tryz.prog 47 #[gcV c] w fun e w'=>e=.returned (.bool (!mayC c))∧BA (fun _=>False) w w':=by
 obtain⟨k,nm,l,cl⟩:=c;obtain⟨S1,hS1,hl1⟩:∃S:ByteArray,strV nm=.string S∧S.data.toList=nm:=⟨_,rfl,by simp⟩;unfold gcV;dsimp only;rw[hS1];obtain⟨W,C,hW,hC,hcb,hkc,hsc⟩:=BD w (.cells #[.int .i64 k,.string S1,.int .i64 l,.int .i64 cl] TCt);have hnm:=BW S1 W (hkc.tabS hT);rw[hl1]at hnm;obtain⟨b,hb⟩:∃b,nameB nm=b:=⟨_,rfl⟩;rw[hb]at hnm;have HM:=hid hnm;have HK:=hid hkc;have hres:(!mayC ⟨k,nm,l,cl⟩)=(decide (k<1) || (decide (3<k) || !b)):=by unfold mayC;dsimp only;rw[hb,Bool.not_not]
 obtain⟨r,hr⟩:∃r,(!mayC ⟨k,nm,l,cl⟩)=r:=⟨_,rfl⟩;rw[hr];rw[hr]at hres;have HRES:=hid hres;obtain⟨n0,n1,n2,n3⟩:=blk4 hcb;clear hT hcb hkc hsc hb hS1 hl1 hnm hres hr;go_enter Tryz.func47,Tryz.ntmps47;go_upto_region 1 with fail;rw[←hW,←hC];clear hW hC;by_cases h1:k<1
 ·go_wp2_with fail;go_ret;exact⟨by rw[HRES.out,decide_eq_true (p:=k<1) (by omega)];rfl,HK.out⟩
 by_cases h2:3<k
 ·go_wp2_with fail;go_ret;exact⟨by rw[HRES.out,decide_eq_false (p:=k<1) (by omega),decide_eq_true (p:=3<k) (by omega)];rfl,HK.out⟩
 go_wp2_with (go_at_call 48;refine HM.out.mono ?_;rintro e w5 ⟨rfl,hk5⟩;have HK5:=hid hk5;clear hk5);go_ret;exact⟨by rw[HRES.out,decide_eq_false (p:=k<1) (by omega),decide_eq_false (p:=3<k) (by omega)];rfl,HK.out.trans HK5.out⟩
theorem idxC_any (bad:Gc→Bool)(l:List (Gc))(hS:∀i (h:i<l.length) (W:World),TabS W→Calls Tryz.prog 47 #[gcV l[i]] W fun e w'=>e=.returned (.bool (bad l[i]))∧BA (fun _=>False) W w')(hl:l.length≤1099511627776)(w:World)(hT:TabS w)(S:Nat→Prop)(p:Option Addr)(c:Nat)(hp:GCts w S p l):
  Calls Tryz.prog 35 #[.slice p l.length c,.func (.func 47) #[] #[]] w fun e w'=>IdxL bad l w e w':=by
 have HS:=hid hS;have HP:=hid hp;have HT:=hid hT;clear hS hp hT;go_enter Tryz.func35,Tryz.ntmps35;go_wp2_with fail;go_loopw [8] (fun v8 wr=>∃k:Nat,v8=.int .i64 k∧k≤l.length∧(∀j,(hj:j<k)→(h:j<l.length)→bad l[j]=false)∧BA (fun _=>False) w wr) (fun v _=>l.length - (intOf v).toNat)
 case atStart=>exact⟨0,rfl,Nat.zero_le _,fun j h=>absurd h (Nat.not_lt_zero _),BA.refl _ _⟩
 case round=>
  obtain⟨k,rfl,hk,hall,hkk⟩:=hrel;have HALL:=hid hall;have HK:=hid hkk;by_cases hlt:k<l.length
  ·have hlti:(k:Int)<l.length:=by omega
   have hi0:(0:Int)≤k:=by omega
   have hWi:IntKind.i64.wrap ((k:Int)+1)=(k:Int)+1:=IntWalk.i64_in _ (by omega);obtain⟨g,o,hp,-,y0,y1,y2,y3⟩:=(HP.out.keep hkk fun _ _ e=>e) k hlt;subst hp;have HFN:=hid (HS.out k hlt wr (hkk.tabS HT.out));obtain⟨S1,hS1⟩:∃s,strV l[k].name=.string s:=⟨_,rfl⟩;obtain⟨i1,hi1⟩:∃s,l[k].kind=s:=⟨_,rfl⟩;obtain⟨i2,hi2⟩:∃s,l[k].line=s:=⟨_,rfl⟩;obtain⟨i3,hi3⟩:∃s,l[k].col=s:=⟨_,rfl⟩;unfold gcV at HFN;rw[hS1,hi1,hi2,hi3]at HFN;rw[hi1]at y0;rw[hS1]at y1;rw[hi2]at y2;rw[hi3]at y3;clear hS1 hi1 hi2 hi3;obtain⟨a,ha⟩:∃a,bad l[k]=a:=⟨_,rfl⟩;have HA:=hid ha;rw[ha]at HFN;clear hkk hall ha
   cases a with
   | false=>
    go_wp2_with (go_at_call 47;refine HFN.out.mono ?_;rintro e w2 ⟨rfl,hk2⟩;have HK2:=hid hk2;clear hk2)
    exact⟨⟨k+1,by simp,by omega,fun j hj h=>by
     by_cases e:j=k
     ·subst e;exact HA.out
     ·exact HALL.out j (by omega) h,HK.out.trans HK2.out⟩,by simp only[intOf];omega⟩
   | true=>
    go_wp2_with (go_at_call 47;refine HFN.out.mono ?_;rintro e w2 ⟨rfl,hk2⟩;have HK2:=hid hk2;clear hk2);go_ret;refine⟨k,rfl,?_,HK.out.trans HK2.out⟩;rw[decide_eq_true (by omega:(0:Int)≤k)];exact(List.any_eq_true.2 ⟨l[k],List.getElem_mem hlt,HA.out⟩).symm
  ·have hnl:¬(k:Int)<l.length:=by omega
   clear hkk hall;go_wp2_with fail;go_ret;refine⟨-1,rfl,?_,HK.out⟩;rw[decide_eq_false (by omega:¬(0:Int)≤-1)]
   symm
   rw[List.any_eq_false];intro x hx;obtain⟨j,hj,e⟩:=List.getElem_of_mem hx;rw[←e,HALL.out j (by omega) hj];exact NT
theorem hasC_any (bad:Gc→Bool)(l:List (Gc))(hS:∀i (h:i<l.length) (W:World),TabS W→Calls Tryz.prog 47 #[gcV l[i]] W fun e w'=>e=.returned (.bool (bad l[i]))∧BA (fun _=>False) W w')(hl:l.length≤1099511627776)(w:World)(hT:TabS w)(S:Nat→Prop)(p:Option Addr)(c:Nat)(hp:GCts w S p l):
  Calls Tryz.prog 49 #[.slice p l.length c,.func (.func 47) #[] #[]] w fun e w'=>e=.returned (.bool (l.any bad))∧BA (fun _=>False) w w':=by
 have HI:=hid (idxC_any bad l hS hl w hT S p c hp);clear hS hp hT;go_enter Tryz.func49,Tryz.ntmps49;go_wp2_with (go_at_call 35;refine HI.out.mono ?_;rintro e w2 ⟨k,rfl,hd,hk⟩;have HD:=hid hd;have HK:=hid hk;clear hd hk);go_ret;exact⟨by rw[←HD.out];rfl,HK.out⟩
end Go.Proofs.YtknnmidnodeanaaGreatDoor
