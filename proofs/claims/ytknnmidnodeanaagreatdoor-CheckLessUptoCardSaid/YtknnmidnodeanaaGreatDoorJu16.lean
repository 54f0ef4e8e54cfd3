import Derived.Test.YtknnmidnodeanaaGreatDoorJu14
import Derived.Test.YtknnmidnodeanaaGreatDoorJu15
set_option maxHeartbeats 32000000
set_option maxRecDepth 4000
namespace Go.Proofs.YtknnmidnodeanaaGreatDoor
open Go Go.RowKit Own
open Go.Lib (hid)
theorem mayFnM_any (mb:Gx→Bool)(x:Gx)(hS:SaysMayG mb x)(w:World)(hT:TabS w)(S:Nat→Prop)(vs:List Value)(hex:GAt w S vs x):
  Calls Tryz.prog 92 #[.agg vs.toArray] w fun e w'=>e=.returned (.bool (!mb x))∧BA (fun _=>False) w w':=by
 obtain⟨yk,yo,yn,yS,yp,ym,yc,yl,ycl,rfl⟩:=g_form hex;obtain⟨W,C,hW,hC,hcb,hkc,hsc⟩:=BD w (.cells #[.int .i64 yk,.int .i64 yo,.int .i64 yn,.string yS,.slice yp ym yc,.int .i64 yl,.int .i64 ycl] TEx);have HM:=hid (hS W S _ (hkc.tabS hT) (hex.keep hkc fun _ _ e=>e));have HK:=hid hkc;obtain⟨n0,n1,n2,n3,n4,n5,n6,-⟩:=blk7 hcb;obtain⟨b,hb⟩:∃b,mb x=b:=⟨_,rfl⟩;rw[hb]at HM ⊢;clear hS hT hex hcb hkc hsc hb;go_enter Tryz.func92,Tryz.ntmps92;go_upto_region 1 with fail;rw[←hW,←hC];clear hW hC;go_wp2_with (go_at_call 93;refine HM.out.mono ?_;rintro e w5 ⟨rfl,hk5⟩;have HK5:=hid hk5;clear hk5);go_ret;exact⟨rfl,HK.out.trans HK5.out⟩
theorem idxM_any (mb:Gx→Bool)(l:List Gx)(hS:∀i (h:i<l.length),SaysMayG mb l[i])(hl:l.length≤1099511627776)(w:World)(hT:TabS w)(S:Nat→Prop)(p:Option Addr)(c:Nat)(hp:DC w S p 0 l):
  Calls Tryz.prog 101 #[.slice p l.length c,.func (.func 92) #[] #[]] w fun e w'=>IdxG mb l w e w':=by
 have HS:=hid hS;have HP:=hid hp;have HT:=hid hT;clear hS hp hT;go_enter Tryz.func101,Tryz.ntmps101;go_wp2_with fail;go_loopw [8] (fun v8 wr=>∃k:Nat,v8=.int .i64 k∧k≤l.length∧(∀j,(hj:j<k)→(h:j<l.length)→mb l[j]=true)∧BA (fun _=>False) w wr) (fun v _=>l.length - (intOf v).toNat)
 case atStart=>exact⟨0,rfl,Nat.zero_le _,fun j h=>absurd h (Nat.not_lt_zero _),BA.refl _ _⟩
 case round=>
  obtain⟨k,rfl,hk,hall,hkk⟩:=hrel;have HALL:=hid hall;have HK:=hid hkk;by_cases hlt:k<l.length
  ·have hlti:(k:Int)<l.length:=by omega
   have hi0:(0:Int)≤k:=by omega
   have hWi:IntKind.i64.wrap ((k:Int)+1)=(k:Int)+1:=IntWalk.i64_in _ (by omega);obtain⟨g,o,vs,hp,hc,hex⟩:=gkids_get (HP.out.keep hkk fun _ _ e=>e) k hlt;subst hp;rw[Nat.zero_add]at hc;have HFN:=hid (mayFnM_any mb l[k] (HS.out k hlt) wr (hkk.tabS HT.out) S vs hex);obtain⟨yk,yo,yn,yS,yp,ym,yc,yl,ycl,rfl⟩:=g_form hex;have x0:wr.cell? ⟨g,o+k * 7,none⟩=some (.int .i64 yk):=hc 0 _ rfl;have x1:=hc 1 _ rfl;have x2:=hc 2 _ rfl;have x3:=hc 3 _ rfl;have x4:=hc 4 _ rfl;have x5:=hc 5 _ rfl;have x6:=hc 6 _ rfl;obtain⟨a,ha⟩:∃a,mb l[k]=a:=⟨_,rfl⟩;have HA:=hid ha;rw[ha]at HFN;clear hc hex hkk hall ha
   cases a with
   | true=>
    go_wp2_with (go_at_call 92;refine HFN.out.mono ?_;rintro e w2 ⟨rfl,hk2⟩;have HK2:=hid hk2;clear hk2)
    exact⟨⟨k+1,by simp,by omega,fun j hj h=>by
     by_cases e:j=k
     ·subst e;exact HA.out
     ·exact HALL.out j (by omega) h,HK.out.trans HK2.out⟩,by simp only[intOf];omega⟩
   | false=>
    go_wp2_with (go_at_call 92;refine HFN.out.mono ?_;rintro e w2 ⟨rfl,hk2⟩;have HK2:=hid hk2;clear hk2);go_ret;refine⟨k,rfl,?_,HK.out.trans HK2.out⟩;rw[decide_eq_true (by omega:(0:Int)≤k)];exact(List.any_eq_true.2 ⟨l[k],List.getElem_mem hlt,by rw[HA.out];rfl⟩).symm
  ·have hnl:¬(k:Int)<l.length:=by omega
   clear hkk hall;go_wp2_with fail;go_ret;refine⟨-1,rfl,?_,HK.out⟩;rw[decide_eq_false (by omega:¬(0:Int)≤-1)]
   symm
   rw[List.any_eq_false];intro x hx;obtain⟨j,hj,e⟩:=List.getElem_of_mem hx;rw[←e,HALL.out j (by omega) hj];exact NT
theorem hasM_any (mb:Gx→Bool)(l:List Gx)(hS:∀i (h:i<l.length),SaysMayG mb l[i])(hl:l.length≤1099511627776)(w:World)(hT:TabS w)(S:Nat→Prop)(p:Option Addr)(c:Nat)(hp:DC w S p 0 l):
  Calls Tryz.prog 91 #[.slice p l.length c,.func (.func 92) #[] #[]] w fun e w'=>e=.returned (.bool (l.any fun x=>!mb x))∧BA (fun _=>False) w w':=by
 have HI:=hid (idxM_any mb l hS hl w hT S p c hp);clear hS hp hT;go_enter Tryz.func91,Tryz.ntmps91;go_wp2_with (go_at_call 101;refine HI.out.mono ?_;rintro e w2 ⟨k,rfl,hd,hk⟩;have HD:=hid hd;have HK:=hid hk;clear hd hk);go_ret;exact⟨by rw[←HD.out];rfl,HK.out⟩
def BL (nn ns nc:Bool)(nx:Int)(nt ne:Bool)(sz op:Int)(nm val into cont:List UInt8)(x t e:Nat):Bool:=
 (if nn=true then nameB nm else nm.isEmpty) && ((ns || sz==0) && (decide (0≤sz) && ((if nc=true then decide (1≤op) && (decide (op≤7) && (nameB into && (nameB cont && (if op=2∨op=4 then nameB val else val.isEmpty)))) else (op==0 && (val.isEmpty && (into.isEmpty && cont.isEmpty)))) && ((x:Int)==nx && ((nt || t==0) && (ne || e==0))))))
def fieldsK (k sz op:Int)(nm val into cont:List UInt8)(x t e:Nat):Bool:=
 if k=1∨k=3 then BL true false false 1 false false sz op nm val into cont x t e
 else if k=2 then BL true true false 0 false false sz op nm val into cont x t e
 else if k=4 then BL true false false 2 false false sz op nm val into cont x t e
 else if k=5 then BL false false false 1 true true sz op nm val into cont x t e
 else if k=6 then BL false false false 1 true false sz op nm val into cont x t e
 else if k=9 then (if op=2∨op=4 then BL false false true 0 false false sz op nm val into cont x t e else BL false false true 1 false false sz op nm val into cont x t e)
 else BL false false false 1 false false sz op nm val into cont x t e
mutual
def mayS:Gs→Bool
 |.mk k nm sz op val into cont xs thn els _ _=>decide (1≤k) && (decide (k≤9) && (fieldsK k sz op nm val into cont xs.length thn.length els.length && (DR xs && (CC thn && CC els))))
def CC:List Gs→Bool
 |[]=>true
 |s::l=>mayS s && CC l
end
theorem maySL_any:∀l:List Gs,(!(l.any fun x=>!mayS x))=CC l
 |[]=>by unfold CC;rfl
 | x::l=>by
  have:=maySL_any l;unfold CC;rw[←this,List.any_cons]
  cases mayS x<;>rfl
theorem catE (a b c:List UInt8):(!((⟨a.toArray⟩:ByteArray)++(⟨b.toArray⟩:ByteArray)++(⟨c.toArray⟩:ByteArray)).toList.isEmpty)=!(a.isEmpty && (b.isEmpty && c.isEmpty)):=by
 have h:((⟨a.toArray⟩:ByteArray)++(⟨b.toArray⟩:ByteArray)++(⟨c.toArray⟩:ByteArray))=⟨(a++b++c).toArray⟩:=by
  apply ByteArray.ext;simp
 rw[h];have h2:(⟨(a++b++c).toArray⟩:ByteArray).toList=a++b++c:=by simp
 rw[h2]
 cases a<;>cases b<;>cases c<;>rfl
def MayBy (nn ns nc:Bool)(nx:Int)(nt ne:Bool)(ht:Int→Prop):Prop:=∀(k sz op l cl:Int) (nm val into cont:List UInt8) (xs:List Gx) (thn els:List Gs),
 (1≤k∧k≤9)→needV k op=nd nn ns nc nx nt ne→ht op→(∀i (h:i<xs.length),SaysMayG mayG xs[i])→(∀i (h:i<thn.length),SaysS mayS thn[i])→(∀i (h:i<els.length),SaysS mayS els[i])→val.length+into.length+cont.length≤1099511627776→xs.length≤1099511627776→thn.length≤1099511627776→els.length≤1099511627776→
 ∀(w:World) (S:Nat→Prop) (vs:List Value),TabS w→SAt w S vs (.mk k nm sz op val into cont xs thn els l cl)→
 Calls Tryz.prog 69 #[.agg vs.toArray] w fun e w'=>e=.returned (.bool (BL nn ns nc nx nt ne sz op nm val into cont xs.length thn.length els.length && (DR xs && (CC thn && CC els))))∧BA (fun _=>False) w w'
theorem ms_A1:MayBy true false false 1 false false (fun _=>True):=by
 intro k sz op l cl nm val into cont xs thn els hk hn htk hX hTh hEl hcl hlx hlt hle w S vs hT hs;unfold SAt at hs;obtain⟨p1,c1,p2,c2,p3,c3,rfl,hx,ht,he⟩:=hs;obtain⟨r,hr⟩:∃r,(BL true false false 1 false false sz op nm val into cont xs.length thn.length els.length && (DR xs && (CC thn && CC els)))=r:=⟨_,rfl⟩;rw[hr];have HR:=hid hr;have HTKH:=hid htk;clear htk;unfold strV;obtain⟨V,B1,hV,hB1,hb1,hk1,hs1⟩:=BD w (.cells #[.int .i64 k,.string ⟨nm.toArray⟩,.int .i64 sz,.int .i64 op,.string ⟨val.toArray⟩,.string ⟨into.toArray⟩,.string ⟨cont.toArray⟩,.slice p1 xs.length c1,.slice p2 thn.length c2,.slice p3 els.length c3,.int .i64 l,.int .i64 cl] TSm);have HND:=hid (by have h:=needs_any V k op (.string ⟨nm.toArray⟩) (.int .i64 sz) (.string ⟨val.toArray⟩) (.string ⟨into.toArray⟩) (.string ⟨cont.toArray⟩) (.slice p1 xs.length c1) (.slice p2 thn.length c2) (.slice p3 els.length c3) (.int .i64 l) (.int .i64 cl);rw[hn]at h;exact h);unfold nd at HND;have HK:=hid hk1;have HB:=hid hb1;have HT:=hid hT;have HX:=hid (fun W (h:BA (fun _=>False) w W)=>hasM_any mayG xs hX hlx W (h.tabS hT) S p1 c1 (hx.keep h fun _ _ e=>e));have HTH:=hid (fun W (h:BA (fun _=>False) w W)=>CM mayS thn hTh hlt W (h.tabS hT) S p2 c2 (ht.keep h fun _ _ e=>e));have HEL:=hid (fun W (h:BA (fun _=>False) w W)=>CM mayS els hEl hle W (h.tabS hT) S p3 c3 (he.keep h fun _ _ e=>e));rw[mayGL_any]at HX;rw[maySL_any]at HTH HEL;have hk1i:¬k<1:=by omega
 have hk9i:¬9<k:=by omega
 have HNnm:=hid (fun W (h:TabS W)=>by have h:=BW ⟨nm.toArray⟩ W h;rw[show (⟨nm.toArray⟩:ByteArray).data.toList=nm by simp]at h;exact h);have HNval:=hid (fun W (h:TabS W)=>by have h:=BW ⟨val.toArray⟩ W h;rw[show (⟨val.toArray⟩:ByteArray).data.toList=val by simp]at h;exact h);have HNinto:=hid (fun W (h:TabS W)=>by have h:=BW ⟨into.toArray⟩ W h;rw[show (⟨into.toArray⟩:ByteArray).data.toList=into by simp]at h;exact h);have HNcont:=hid (fun W (h:TabS W)=>by have h:=BW ⟨cont.toArray⟩ W h;rw[show (⟨cont.toArray⟩:ByteArray).data.toList=cont by simp]at h;exact h);have HTK:=hid (fun w'=>DV op w');obtain⟨n0,n1,n2,n3,n4,n5,n6,n7,n8,n9,n10,n11⟩:=BK hb1;clear hr hn hX hTh hEl hlx hlt hle hT hx ht he hb1 hk1 hs1;go_enter Tryz.func69,Tryz.ntmps69;go_upto_region 1 with fail;rw[←hV,←hB1];clear hV hB1;go_upto_region 3 with fail;go_wp2_with fail;go_at_call 89;refine HND.out.mono ?_;rintro e V2 ⟨rfl,hk2⟩;obtain⟨W0,B2,hW,hB2,hb2,hk3,hs3⟩:=BD V2 (.cells (nd true false false 1 false false) TNd);unfold nd at hW hb2;have HK0:=hid ((HK.out.trans hk2).trans hk3);have HB0:=hid ((hk2.trans hk3).blk HB.out);have HM0:=hid hb2;clear hk2 hk3 hs3 hb2;go_upto_region 4 with fail;rw[←hW,←hB2];clear hW hB2 n0 n1 n2 n3 n4 n5 n6 n7 n8 n9 n10 n11 hk1i hk9i;obtain⟨n0,n1,n2,n3,n4,n5,n6,n7,n8,n9,n10,n11⟩:=BK HB0.out;obtain⟨m0,m1,m2,m3,m4,m5,-⟩:=blk6 HM0.out
 cases hnm:nameB nm with
 | false=>
  have HQ:=hid (by have h:=HNnm.out W0 (HK0.out.tabS HT.out);rw[hnm]at h;exact h);have he:r=false:=by rw[←HR.out];simp[BL,hnm]
  subst he;go_wp2_with fail;go_at_call 48;refine(HQ.out).mono ?_;rintro e W1 ⟨rfl,hk⟩;have HK1:=hid (HK0.out.trans hk);have HB1:=hid (hk.blk HB0.out);have HM1:=hid (hk.blk HM0.out);clear hk;clear n0 n1 n2 n3 n4 n5 n6 n7 n8 n9 n10 n11 m0 m1 m2 m3 m4 m5;obtain⟨n0,n1,n2,n3,n4,n5,n6,n7,n8,n9,n10,n11⟩:=BK HB1.out;obtain⟨m0,m1,m2,m3,m4,m5,-⟩:=blk6 HM1.out;go_wp2_with fail;go_ret;exact⟨rfl,HK1.out⟩
 |true=>
 have HQ:=hid (by have h:=HNnm.out W0 (HK0.out.tabS HT.out);rw[hnm]at h;exact h);go_wp2_with fail;go_at_call 48;refine(HQ.out).mono ?_;rintro e W1 ⟨rfl,hk⟩;have HK1:=hid (HK0.out.trans hk);have HB1:=hid (hk.blk HB0.out);have HM1:=hid (hk.blk HM0.out);clear hk;clear n0 n1 n2 n3 n4 n5 n6 n7 n8 n9 n10 n11 m0 m1 m2 m3 m4 m5;obtain⟨n0,n1,n2,n3,n4,n5,n6,n7,n8,n9,n10,n11⟩:=BK HB1.out;obtain⟨m0,m1,m2,m3,m4,m5,-⟩:=blk6 HM1.out;go_upto_region 7 with fail;rcases Classical.em (sz=0)with hsz|hsz
 rotate_left
 ·have hzb:(sz==0)=false:=by rw[BF];exact hsz
  have he:r=false:=by rw[←HR.out];simp[BL,hzb]
  subst he;go_wp2_with fail;go_ret;exact⟨rfl,HK1.out⟩
 subst hsz;go_upto_region 10 with fail;rcases Classical.em (op=0)with hop|hop
 rotate_left
 ·have hob:(op==0)=false:=by rw[BF];exact hop
  have he:r=false:=by rw[←HR.out];simp[BL,hob]
  subst he;go_wp2_with fail;go_ret;exact⟨rfl,HK1.out⟩
 subst hop;have hl1:¬9223372036854775807<val.length+into.length:=by omega
 have hl2:¬9223372036854775807<val.length+into.length+cont.length:=by omega
 rcases Classical.em ((val.isEmpty && (into.isEmpty && cont.isEmpty))=true)with hcat|hcat
 rotate_left
 ·have hcc:=catE val into cont;rw[Bool.eq_false_iff.2 hcat]at hcc;simp only[Bool.not_false]at hcc;have he:r=false:=by rw[←HR.out];have h9:(val.isEmpty && (into.isEmpty && cont.isEmpty))=false:=Bool.eq_false_iff.2 hcat;unfold BL;rw[h9];simp
  subst he;go_wp2_with fail;go_ret;exact⟨rfl,HK1.out⟩
 have hcc:=catE val into cont;rw[hcat]at hcc;simp only[Bool.not_true]at hcc;go_upto_region 16 with fail;clear hcc hl1 hl2;rcases Classical.em ((xs.length:Int)=1)with hxl|hxl
 rotate_left
 ·have hxb:((xs.length:Int)==1)=false:=by rw[BF];exact hxl
  have he:r=false:=by rw[←HR.out];simp only[BL,hxb,Bool.false_and,Bool.and_false]
  subst he;go_wp2_with fail;go_ret;exact⟨rfl,HK1.out⟩
 have hxb:((xs.length:Int)==1)=true:=by rw[beq_iff_eq];exact hxl
 go_upto_region 17 with fail;rcases Classical.em (thn.length=0)with hthn|hthn
 rotate_left
 ·have hli:(0:Int)<thn.length:=by omega
  have hlb:(thn.length==0)=false:=by rw[BF];exact hthn
  have he:r=false:=by rw[←HR.out];simp only[BL,hlb,Bool.false_or,Bool.false_and,Bool.and_false]
  subst he;go_wp2_with fail;go_ret;exact⟨rfl,HK1.out⟩
 have hthnb:¬(0:Int)<thn.length:=by omega
 have Hthn:=hid hthn;clear hthn;go_upto_region 18 with fail;clear hthnb;rcases Classical.em (els.length=0)with hels|hels
 rotate_left
 ·have hli:(0:Int)<els.length:=by omega
  have hlb:(els.length==0)=false:=by rw[BF];exact hels
  have he:r=false:=by rw[←HR.out];simp only[BL,hlb,Bool.false_or,Bool.false_and,Bool.and_false]
  subst he;go_wp2_with fail;go_ret;exact⟨rfl,HK1.out⟩
 have helsb:¬(0:Int)<els.length:=by omega
 have Hels:=hid hels;clear hels;go_upto_region 20 with fail;clear helsb;have hthn:=Hthn.out;have hels:=Hels.out;have htk:=HTKH.out;have hrr:r=(DR xs && (CC thn && CC els)):=by rw[←HR.out];simp[BL,hxb,hcat,hnm,hthn,hels]
 clear hthn;clear hels;clear hxl hxb htk;subst hrr
 cases hgx:DR xs with
 | false=>
  have HQ:=hid (by have h:=HX.out W1 HK1.out;rw[hgx]at h;exact h);go_wp2_with fail;go_at_call 91;refine(HQ.out).mono ?_;rintro e W2 ⟨rfl,hk⟩;have HK2:=hid (HK1.out.trans hk);have HB2:=hid (hk.blk HB1.out);have HM2:=hid (hk.blk HM1.out);clear hk;clear n0 n1 n2 n3 n4 n5 n6 n7 n8 n9 n10 n11 m0 m1 m2 m3 m4 m5;obtain⟨n0,n1,n2,n3,n4,n5,n6,n7,n8,n9,n10,n11⟩:=BK HB2.out;obtain⟨m0,m1,m2,m3,m4,m5,-⟩:=blk6 HM2.out;go_wp2_with fail;go_ret;exact⟨by first|rfl|(rw[hgx];rfl)|simp[hgx],HK2.out⟩
 |true=>
 have HQ:=hid (by have h:=HX.out W1 HK1.out;rw[hgx]at h;exact h);go_wp2_with fail;go_at_call 91;refine(HQ.out).mono ?_;rintro e W2 ⟨rfl,hk⟩;have HK2:=hid (HK1.out.trans hk);have HB2:=hid (hk.blk HB1.out);have HM2:=hid (hk.blk HM1.out);clear hk;clear n0 n1 n2 n3 n4 n5 n6 n7 n8 n9 n10 n11 m0 m1 m2 m3 m4 m5;obtain⟨n0,n1,n2,n3,n4,n5,n6,n7,n8,n9,n10,n11⟩:=BK HB2.out;obtain⟨m0,m1,m2,m3,m4,m5,-⟩:=blk6 HM2.out
 cases hgt:CC thn with
 | false=>
  have HQ:=hid (by have h:=HTH.out W2 HK2.out;rw[hgt]at h;exact h);go_wp2_with fail;go_at_call 52;refine(HQ.out).mono ?_;rintro e W3 ⟨rfl,hk⟩;have HK3:=hid (HK2.out.trans hk);have HB3:=hid (hk.blk HB2.out);have HM3:=hid (hk.blk HM2.out);clear hk;clear n0 n1 n2 n3 n4 n5 n6 n7 n8 n9 n10 n11 m0 m1 m2 m3 m4 m5;obtain⟨n0,n1,n2,n3,n4,n5,n6,n7,n8,n9,n10,n11⟩:=BK HB3.out;obtain⟨m0,m1,m2,m3,m4,m5,-⟩:=blk6 HM3.out;go_wp2_with fail;go_ret;exact⟨by first|rfl|(rw[hgx,hgt];rfl)|simp[hgx,hgt],HK3.out⟩
 |true=>
 have HQ:=hid (by have h:=HTH.out W2 HK2.out;rw[hgt]at h;exact h);go_wp2_with fail;go_at_call 52;refine(HQ.out).mono ?_;rintro e W3 ⟨rfl,hk⟩;have HK3:=hid (HK2.out.trans hk);have HB3:=hid (hk.blk HB2.out);have HM3:=hid (hk.blk HM2.out);clear hk;clear n0 n1 n2 n3 n4 n5 n6 n7 n8 n9 n10 n11 m0 m1 m2 m3 m4 m5;obtain⟨n0,n1,n2,n3,n4,n5,n6,n7,n8,n9,n10,n11⟩:=BK HB3.out;obtain⟨m0,m1,m2,m3,m4,m5,-⟩:=blk6 HM3.out;obtain⟨b,hge⟩:∃b,CC els=b:=⟨_,rfl⟩;have HGE:=hid hge;have HQ:=hid (by have h:=HEL.out W3 HK3.out;rw[hge]at h;exact h);clear hge;go_wp2_with fail;go_at_call 52;refine(HQ.out).mono ?_;rintro e W4 ⟨rfl,hk⟩;have HK4:=hid (HK3.out.trans hk);have HB4:=hid (hk.blk HB3.out);have HM4:=hid (hk.blk HM3.out);clear hk;clear n0 n1 n2 n3 n4 n5 n6 n7 n8 n9 n10 n11 m0 m1 m2 m3 m4 m5;obtain⟨n0,n1,n2,n3,n4,n5,n6,n7,n8,n9,n10,n11⟩:=BK HB4.out;obtain⟨m0,m1,m2,m3,m4,m5,-⟩:=blk6 HM4.out;go_wp2_with fail;go_ret;exact⟨by first|(rw[HGE.out];rfl)|(rw[hgx,hgt,HGE.out];rfl)|simp[hgx,hgt,HGE.out],HK4.out⟩
theorem ms_A2:MayBy true false false 2 false false (fun _=>True):=by
 intro k sz op l cl nm val into cont xs thn els hk hn htk hX hTh hEl hcl hlx hlt hle w S vs hT hs;unfold SAt at hs;obtain⟨p1,c1,p2,c2,p3,c3,rfl,hx,ht,he⟩:=hs;obtain⟨r,hr⟩:∃r,(BL true false false 2 false false sz op nm val into cont xs.length thn.length els.length && (DR xs && (CC thn && CC els)))=r:=⟨_,rfl⟩;rw[hr];have HR:=hid hr;have HTKH:=hid htk;clear htk;unfold strV;obtain⟨V,B1,hV,hB1,hb1,hk1,hs1⟩:=BD w (.cells #[.int .i64 k,.string ⟨nm.toArray⟩,.int .i64 sz,.int .i64 op,.string ⟨val.toArray⟩,.string ⟨into.toArray⟩,.string ⟨cont.toArray⟩,.slice p1 xs.length c1,.slice p2 thn.length c2,.slice p3 els.length c3,.int .i64 l,.int .i64 cl] TSm);have HND:=hid (by have h:=needs_any V k op (.string ⟨nm.toArray⟩) (.int .i64 sz) (.string ⟨val.toArray⟩) (.string ⟨into.toArray⟩) (.string ⟨cont.toArray⟩) (.slice p1 xs.length c1) (.slice p2 thn.length c2) (.slice p3 els.length c3) (.int .i64 l) (.int .i64 cl);rw[hn]at h;exact h);unfold nd at HND;have HK:=hid hk1;have HB:=hid hb1;have HT:=hid hT;have HX:=hid (fun W (h:BA (fun _=>False) w W)=>hasM_any mayG xs hX hlx W (h.tabS hT) S p1 c1 (hx.keep h fun _ _ e=>e));have HTH:=hid (fun W (h:BA (fun _=>False) w W)=>CM mayS thn hTh hlt W (h.tabS hT) S p2 c2 (ht.keep h fun _ _ e=>e));have HEL:=hid (fun W (h:BA (fun _=>False) w W)=>CM mayS els hEl hle W (h.tabS hT) S p3 c3 (he.keep h fun _ _ e=>e));rw[mayGL_any]at HX;rw[maySL_any]at HTH HEL;have hk1i:¬k<1:=by omega
 have hk9i:¬9<k:=by omega
 have HNnm:=hid (fun W (h:TabS W)=>by have h:=BW ⟨nm.toArray⟩ W h;rw[show (⟨nm.toArray⟩:ByteArray).data.toList=nm by simp]at h;exact h);have HNval:=hid (fun W (h:TabS W)=>by have h:=BW ⟨val.toArray⟩ W h;rw[show (⟨val.toArray⟩:ByteArray).data.toList=val by simp]at h;exact h);have HNinto:=hid (fun W (h:TabS W)=>by have h:=BW ⟨into.toArray⟩ W h;rw[show (⟨into.toArray⟩:ByteArray).data.toList=into by simp]at h;exact h);have HNcont:=hid (fun W (h:TabS W)=>by have h:=BW ⟨cont.toArray⟩ W h;rw[show (⟨cont.toArray⟩:ByteArray).data.toList=cont by simp]at h;exact h);have HTK:=hid (fun w'=>DV op w');obtain⟨n0,n1,n2,n3,n4,n5,n6,n7,n8,n9,n10,n11⟩:=BK hb1;clear hr hn hX hTh hEl hlx hlt hle hT hx ht he hb1 hk1 hs1;go_enter Tryz.func69,Tryz.ntmps69;go_upto_region 1 with fail;rw[←hV,←hB1];clear hV hB1;go_upto_region 3 with fail;go_wp2_with fail;go_at_call 89;refine HND.out.mono ?_;rintro e V2 ⟨rfl,hk2⟩;obtain⟨W0,B2,hW,hB2,hb2,hk3,hs3⟩:=BD V2 (.cells (nd true false false 2 false false) TNd);unfold nd at hW hb2;have HK0:=hid ((HK.out.trans hk2).trans hk3);have HB0:=hid ((hk2.trans hk3).blk HB.out);have HM0:=hid hb2;clear hk2 hk3 hs3 hb2;go_upto_region 4 with fail;rw[←hW,←hB2];clear hW hB2 n0 n1 n2 n3 n4 n5 n6 n7 n8 n9 n10 n11 hk1i hk9i;obtain⟨n0,n1,n2,n3,n4,n5,n6,n7,n8,n9,n10,n11⟩:=BK HB0.out;obtain⟨m0,m1,m2,m3,m4,m5,-⟩:=blk6 HM0.out
 cases hnm:nameB nm with
 | false=>
  have HQ:=hid (by have h:=HNnm.out W0 (HK0.out.tabS HT.out);rw[hnm]at h;exact h);have he:r=false:=by rw[←HR.out];simp[BL,hnm]
  subst he;go_wp2_with fail;go_at_call 48;refine(HQ.out).mono ?_;rintro e W1 ⟨rfl,hk⟩;have HK1:=hid (HK0.out.trans hk);have HB1:=hid (hk.blk HB0.out);have HM1:=hid (hk.blk HM0.out);clear hk;clear n0 n1 n2 n3 n4 n5 n6 n7 n8 n9 n10 n11 m0 m1 m2 m3 m4 m5;obtain⟨n0,n1,n2,n3,n4,n5,n6,n7,n8,n9,n10,n11⟩:=BK HB1.out;obtain⟨m0,m1,m2,m3,m4,m5,-⟩:=blk6 HM1.out;go_wp2_with fail;go_ret;exact⟨rfl,HK1.out⟩
 |true=>
 have HQ:=hid (by have h:=HNnm.out W0 (HK0.out.tabS HT.out);rw[hnm]at h;exact h);go_wp2_with fail;go_at_call 48;refine(HQ.out).mono ?_;rintro e W1 ⟨rfl,hk⟩;have HK1:=hid (HK0.out.trans hk);have HB1:=hid (hk.blk HB0.out);have HM1:=hid (hk.blk HM0.out);clear hk;clear n0 n1 n2 n3 n4 n5 n6 n7 n8 n9 n10 n11 m0 m1 m2 m3 m4 m5;obtain⟨n0,n1,n2,n3,n4,n5,n6,n7,n8,n9,n10,n11⟩:=BK HB1.out;obtain⟨m0,m1,m2,m3,m4,m5,-⟩:=blk6 HM1.out;go_upto_region 7 with fail;rcases Classical.em (sz=0)with hsz|hsz
 rotate_left
 ·have hzb:(sz==0)=false:=by rw[BF];exact hsz
  have he:r=false:=by rw[←HR.out];simp[BL,hzb]
  subst he;go_wp2_with fail;go_ret;exact⟨rfl,HK1.out⟩
 subst hsz;go_upto_region 10 with fail;rcases Classical.em (op=0)with hop|hop
 rotate_left
 ·have hob:(op==0)=false:=by rw[BF];exact hop
  have he:r=false:=by rw[←HR.out];simp[BL,hob]
  subst he;go_wp2_with fail;go_ret;exact⟨rfl,HK1.out⟩
 subst hop;have hl1:¬9223372036854775807<val.length+into.length:=by omega
 have hl2:¬9223372036854775807<val.length+into.length+cont.length:=by omega
 rcases Classical.em ((val.isEmpty && (into.isEmpty && cont.isEmpty))=true)with hcat|hcat
 rotate_left
 ·have hcc:=catE val into cont;rw[Bool.eq_false_iff.2 hcat]at hcc;simp only[Bool.not_false]at hcc;have he:r=false:=by rw[←HR.out];have h9:(val.isEmpty && (into.isEmpty && cont.isEmpty))=false:=Bool.eq_false_iff.2 hcat;unfold BL;rw[h9];simp
  subst he;go_wp2_with fail;go_ret;exact⟨rfl,HK1.out⟩
 have hcc:=catE val into cont;rw[hcat]at hcc;simp only[Bool.not_true]at hcc;go_upto_region 16 with fail;clear hcc hl1 hl2;rcases Classical.em ((xs.length:Int)=2)with hxl|hxl
 rotate_left
 ·have hxb:((xs.length:Int)==2)=false:=by rw[BF];exact hxl
  have he:r=false:=by rw[←HR.out];simp only[BL,hxb,Bool.false_and,Bool.and_false]
  subst he;go_wp2_with fail;go_ret;exact⟨rfl,HK1.out⟩
 have hxb:((xs.length:Int)==2)=true:=by rw[beq_iff_eq];exact hxl
 go_upto_region 17 with fail;rcases Classical.em (thn.length=0)with hthn|hthn
 rotate_left
 ·have hli:(0:Int)<thn.length:=by omega
  have hlb:(thn.length==0)=false:=by rw[BF];exact hthn
  have he:r=false:=by rw[←HR.out];simp only[BL,hlb,Bool.false_or,Bool.false_and,Bool.and_false]
  subst he;go_wp2_with fail;go_ret;exact⟨rfl,HK1.out⟩
 have hthnb:¬(0:Int)<thn.length:=by omega
 have Hthn:=hid hthn;clear hthn;go_upto_region 18 with fail;clear hthnb;rcases Classical.em (els.length=0)with hels|hels
 rotate_left
 ·have hli:(0:Int)<els.length:=by omega
  have hlb:(els.length==0)=false:=by rw[BF];exact hels
  have he:r=false:=by rw[←HR.out];simp only[BL,hlb,Bool.false_or,Bool.false_and,Bool.and_false]
  subst he;go_wp2_with fail;go_ret;exact⟨rfl,HK1.out⟩
 have helsb:¬(0:Int)<els.length:=by omega
 have Hels:=hid hels;clear hels;go_upto_region 20 with fail;clear helsb;have hthn:=Hthn.out;have hels:=Hels.out;have htk:=HTKH.out;have hrr:r=(DR xs && (CC thn && CC els)):=by rw[←HR.out];simp[BL,hxb,hcat,hnm,hthn,hels]
 clear hthn;clear hels;clear hxl hxb htk;subst hrr
 cases hgx:DR xs with
 | false=>
  have HQ:=hid (by have h:=HX.out W1 HK1.out;rw[hgx]at h;exact h);go_wp2_with fail;go_at_call 91;refine(HQ.out).mono ?_;rintro e W2 ⟨rfl,hk⟩;have HK2:=hid (HK1.out.trans hk);have HB2:=hid (hk.blk HB1.out);have HM2:=hid (hk.blk HM1.out);clear hk;clear n0 n1 n2 n3 n4 n5 n6 n7 n8 n9 n10 n11 m0 m1 m2 m3 m4 m5;obtain⟨n0,n1,n2,n3,n4,n5,n6,n7,n8,n9,n10,n11⟩:=BK HB2.out;obtain⟨m0,m1,m2,m3,m4,m5,-⟩:=blk6 HM2.out;go_wp2_with fail;go_ret;exact⟨by first|rfl|(rw[hgx];rfl)|simp[hgx],HK2.out⟩
 |true=>
 have HQ:=hid (by have h:=HX.out W1 HK1.out;rw[hgx]at h;exact h);go_wp2_with fail;go_at_call 91;refine(HQ.out).mono ?_;rintro e W2 ⟨rfl,hk⟩;have HK2:=hid (HK1.out.trans hk);have HB2:=hid (hk.blk HB1.out);have HM2:=hid (hk.blk HM1.out);clear hk;clear n0 n1 n2 n3 n4 n5 n6 n7 n8 n9 n10 n11 m0 m1 m2 m3 m4 m5;obtain⟨n0,n1,n2,n3,n4,n5,n6,n7,n8,n9,n10,n11⟩:=BK HB2.out;obtain⟨m0,m1,m2,m3,m4,m5,-⟩:=blk6 HM2.out
 cases hgt:CC thn with
 | false=>
  have HQ:=hid (by have h:=HTH.out W2 HK2.out;rw[hgt]at h;exact h);go_wp2_with fail;go_at_call 52;refine(HQ.out).mono ?_;rintro e W3 ⟨rfl,hk⟩;have HK3:=hid (HK2.out.trans hk);have HB3:=hid (hk.blk HB2.out);have HM3:=hid (hk.blk HM2.out);clear hk;clear n0 n1 n2 n3 n4 n5 n6 n7 n8 n9 n10 n11 m0 m1 m2 m3 m4 m5;obtain⟨n0,n1,n2,n3,n4,n5,n6,n7,n8,n9,n10,n11⟩:=BK HB3.out;obtain⟨m0,m1,m2,m3,m4,m5,-⟩:=blk6 HM3.out;go_wp2_with fail;go_ret;exact⟨by first|rfl|(rw[hgx,hgt];rfl)|simp[hgx,hgt],HK3.out⟩
 |true=>
 have HQ:=hid (by have h:=HTH.out W2 HK2.out;rw[hgt]at h;exact h);go_wp2_with fail;go_at_call 52;refine(HQ.out).mono ?_;rintro e W3 ⟨rfl,hk⟩;have HK3:=hid (HK2.out.trans hk);have HB3:=hid (hk.blk HB2.out);have HM3:=hid (hk.blk HM2.out);clear hk;clear n0 n1 n2 n3 n4 n5 n6 n7 n8 n9 n10 n11 m0 m1 m2 m3 m4 m5;obtain⟨n0,n1,n2,n3,n4,n5,n6,n7,n8,n9,n10,n11⟩:=BK HB3.out;obtain⟨m0,m1,m2,m3,m4,m5,-⟩:=blk6 HM3.out;obtain⟨b,hge⟩:∃b,CC els=b:=⟨_,rfl⟩;have HGE:=hid hge;have HQ:=hid (by have h:=HEL.out W3 HK3.out;rw[hge]at h;exact h);clear hge;go_wp2_with fail;go_at_call 52;refine(HQ.out).mono ?_;rintro e W4 ⟨rfl,hk⟩;have HK4:=hid (HK3.out.trans hk);have HB4:=hid (hk.blk HB3.out);have HM4:=hid (hk.blk HM3.out);clear hk;clear n0 n1 n2 n3 n4 n5 n6 n7 n8 n9 n10 n11 m0 m1 m2 m3 m4 m5;obtain⟨n0,n1,n2,n3,n4,n5,n6,n7,n8,n9,n10,n11⟩:=BK HB4.out;obtain⟨m0,m1,m2,m3,m4,m5,-⟩:=blk6 HM4.out;go_wp2_with fail;go_ret;exact⟨by first|(rw[HGE.out];rfl)|(rw[hgx,hgt,HGE.out];rfl)|simp[hgx,hgt,HGE.out],HK4.out⟩
theorem ms_B:MayBy true true false 0 false false (fun _=>True):=by
 intro k sz op l cl nm val into cont xs thn els hk hn htk hX hTh hEl hcl hlx hlt hle w S vs hT hs;unfold SAt at hs;obtain⟨p1,c1,p2,c2,p3,c3,rfl,hx,ht,he⟩:=hs;obtain⟨r,hr⟩:∃r,(BL true true false 0 false false sz op nm val into cont xs.length thn.length els.length && (DR xs && (CC thn && CC els)))=r:=⟨_,rfl⟩;rw[hr];have HR:=hid hr;have HTKH:=hid htk;clear htk;unfold strV;obtain⟨V,B1,hV,hB1,hb1,hk1,hs1⟩:=BD w (.cells #[.int .i64 k,.string ⟨nm.toArray⟩,.int .i64 sz,.int .i64 op,.string ⟨val.toArray⟩,.string ⟨into.toArray⟩,.string ⟨cont.toArray⟩,.slice p1 xs.length c1,.slice p2 thn.length c2,.slice p3 els.length c3,.int .i64 l,.int .i64 cl] TSm);have HND:=hid (by have h:=needs_any V k op (.string ⟨nm.toArray⟩) (.int .i64 sz) (.string ⟨val.toArray⟩) (.string ⟨into.toArray⟩) (.string ⟨cont.toArray⟩) (.slice p1 xs.length c1) (.slice p2 thn.length c2) (.slice p3 els.length c3) (.int .i64 l) (.int .i64 cl);rw[hn]at h;exact h);unfold nd at HND;have HK:=hid hk1;have HB:=hid hb1;have HT:=hid hT;have HX:=hid (fun W (h:BA (fun _=>False) w W)=>hasM_any mayG xs hX hlx W (h.tabS hT) S p1 c1 (hx.keep h fun _ _ e=>e));have HTH:=hid (fun W (h:BA (fun _=>False) w W)=>CM mayS thn hTh hlt W (h.tabS hT) S p2 c2 (ht.keep h fun _ _ e=>e));have HEL:=hid (fun W (h:BA (fun _=>False) w W)=>CM mayS els hEl hle W (h.tabS hT) S p3 c3 (he.keep h fun _ _ e=>e));rw[mayGL_any]at HX;rw[maySL_any]at HTH HEL;have hk1i:¬k<1:=by omega
 have hk9i:¬9<k:=by omega
 have HNnm:=hid (fun W (h:TabS W)=>by have h:=BW ⟨nm.toArray⟩ W h;rw[show (⟨nm.toArray⟩:ByteArray).data.toList=nm by simp]at h;exact h);have HNval:=hid (fun W (h:TabS W)=>by have h:=BW ⟨val.toArray⟩ W h;rw[show (⟨val.toArray⟩:ByteArray).data.toList=val by simp]at h;exact h);have HNinto:=hid (fun W (h:TabS W)=>by have h:=BW ⟨into.toArray⟩ W h;rw[show (⟨into.toArray⟩:ByteArray).data.toList=into by simp]at h;exact h);have HNcont:=hid (fun W (h:TabS W)=>by have h:=BW ⟨cont.toArray⟩ W h;rw[show (⟨cont.toArray⟩:ByteArray).data.toList=cont by simp]at h;exact h);have HTK:=hid (fun w'=>DV op w');obtain⟨n0,n1,n2,n3,n4,n5,n6,n7,n8,n9,n10,n11⟩:=BK hb1;clear hr hn hX hTh hEl hlx hlt hle hT hx ht he hb1 hk1 hs1;go_enter Tryz.func69,Tryz.ntmps69;go_upto_region 1 with fail;rw[←hV,←hB1];clear hV hB1;go_upto_region 3 with fail;go_wp2_with fail;go_at_call 89;refine HND.out.mono ?_;rintro e V2 ⟨rfl,hk2⟩;obtain⟨W0,B2,hW,hB2,hb2,hk3,hs3⟩:=BD V2 (.cells (nd true true false 0 false false) TNd);unfold nd at hW hb2;have HK0:=hid ((HK.out.trans hk2).trans hk3);have HB0:=hid ((hk2.trans hk3).blk HB.out);have HM0:=hid hb2;clear hk2 hk3 hs3 hb2;go_upto_region 4 with fail;rw[←hW,←hB2];clear hW hB2 n0 n1 n2 n3 n4 n5 n6 n7 n8 n9 n10 n11 hk1i hk9i;obtain⟨n0,n1,n2,n3,n4,n5,n6,n7,n8,n9,n10,n11⟩:=BK HB0.out;obtain⟨m0,m1,m2,m3,m4,m5,-⟩:=blk6 HM0.out
 cases hnm:nameB nm with
 | false=>
  have HQ:=hid (by have h:=HNnm.out W0 (HK0.out.tabS HT.out);rw[hnm]at h;exact h);have he:r=false:=by rw[←HR.out];simp[BL,hnm]
  subst he;go_wp2_with fail;go_at_call 48;refine(HQ.out).mono ?_;rintro e W1 ⟨rfl,hk⟩;have HK1:=hid (HK0.out.trans hk);have HB1:=hid (hk.blk HB0.out);have HM1:=hid (hk.blk HM0.out);clear hk;clear n0 n1 n2 n3 n4 n5 n6 n7 n8 n9 n10 n11 m0 m1 m2 m3 m4 m5;obtain⟨n0,n1,n2,n3,n4,n5,n6,n7,n8,n9,n10,n11⟩:=BK HB1.out;obtain⟨m0,m1,m2,m3,m4,m5,-⟩:=blk6 HM1.out;go_wp2_with fail;go_ret;exact⟨rfl,HK1.out⟩
 |true=>
 have HQ:=hid (by have h:=HNnm.out W0 (HK0.out.tabS HT.out);rw[hnm]at h;exact h);go_wp2_with fail;go_at_call 48;refine(HQ.out).mono ?_;rintro e W1 ⟨rfl,hk⟩;have HK1:=hid (HK0.out.trans hk);have HB1:=hid (hk.blk HB0.out);have HM1:=hid (hk.blk HM0.out);clear hk;clear n0 n1 n2 n3 n4 n5 n6 n7 n8 n9 n10 n11 m0 m1 m2 m3 m4 m5;obtain⟨n0,n1,n2,n3,n4,n5,n6,n7,n8,n9,n10,n11⟩:=BK HB1.out;obtain⟨m0,m1,m2,m3,m4,m5,-⟩:=blk6 HM1.out;go_upto_region 7 with fail;go_upto_region 8 with fail;rcases Classical.em (0≤sz)with hsz|hsz
 rotate_left
 ·have hzi:sz<0:=by omega
  have he:r=false:=by rw[←HR.out];simp[BL,hsz]
  subst he;go_wp2_with fail;go_ret;exact⟨rfl,HK1.out⟩
 have hzi:¬sz<0:=by omega
 go_upto_region 10 with fail;clear hzi;rcases Classical.em (op=0)with hop|hop
 rotate_left
 ·have hob:(op==0)=false:=by rw[BF];exact hop
  have he:r=false:=by rw[←HR.out];simp[BL,hob]
  subst he;go_wp2_with fail;go_ret;exact⟨rfl,HK1.out⟩
 subst hop;have hl1:¬9223372036854775807<val.length+into.length:=by omega
 have hl2:¬9223372036854775807<val.length+into.length+cont.length:=by omega
 rcases Classical.em ((val.isEmpty && (into.isEmpty && cont.isEmpty))=true)with hcat|hcat
 rotate_left
 ·have hcc:=catE val into cont;rw[Bool.eq_false_iff.2 hcat]at hcc;simp only[Bool.not_false]at hcc;have he:r=false:=by rw[←HR.out];have h9:(val.isEmpty && (into.isEmpty && cont.isEmpty))=false:=Bool.eq_false_iff.2 hcat;unfold BL;rw[h9];simp
  subst he;go_wp2_with fail;go_ret;exact⟨rfl,HK1.out⟩
 have hcc:=catE val into cont;rw[hcat]at hcc;simp only[Bool.not_true]at hcc;go_upto_region 16 with fail;clear hcc hl1 hl2;rcases Classical.em ((xs.length:Int)=0)with hxl|hxl
 rotate_left
 ·have hxb:((xs.length:Int)==0)=false:=by rw[BF];exact hxl
  have he:r=false:=by rw[←HR.out];simp only[BL,hxb,Bool.false_and,Bool.and_false]
  subst he;go_wp2_with fail;go_ret;exact⟨rfl,HK1.out⟩
 have hxb:((xs.length:Int)==0)=true:=by rw[beq_iff_eq];exact hxl
 go_upto_region 17 with fail;rcases Classical.em (thn.length=0)with hthn|hthn
 rotate_left
 ·have hli:(0:Int)<thn.length:=by omega
  have hlb:(thn.length==0)=false:=by rw[BF];exact hthn
  have he:r=false:=by rw[←HR.out];simp only[BL,hlb,Bool.false_or,Bool.false_and,Bool.and_false]
  subst he;go_wp2_with fail;go_ret;exact⟨rfl,HK1.out⟩
 have hthnb:¬(0:Int)<thn.length:=by omega
 have Hthn:=hid hthn;clear hthn;go_upto_region 18 with fail;clear hthnb;rcases Classical.em (els.length=0)with hels|hels
 rotate_left
 ·have hli:(0:Int)<els.length:=by omega
  have hlb:(els.length==0)=false:=by rw[BF];exact hels
  have he:r=false:=by rw[←HR.out];simp only[BL,hlb,Bool.false_or,Bool.false_and,Bool.and_false]
  subst he;go_wp2_with fail;go_ret;exact⟨rfl,HK1.out⟩
 have helsb:¬(0:Int)<els.length:=by omega
 have Hels:=hid hels;clear hels;go_upto_region 20 with fail;clear helsb;have hthn:=Hthn.out;have hels:=Hels.out;have htk:=HTKH.out;have hrr:r=(DR xs && (CC thn && CC els)):=by rw[←HR.out];simp[BL,hxb,hcat,hnm,hsz,hthn,hels]
 clear hthn;clear hels;clear hxl hxb htk;subst hrr
 cases hgx:DR xs with
 | false=>
  have HQ:=hid (by have h:=HX.out W1 HK1.out;rw[hgx]at h;exact h);go_wp2_with fail;go_at_call 91;refine(HQ.out).mono ?_;rintro e W2 ⟨rfl,hk⟩;have HK2:=hid (HK1.out.trans hk);have HB2:=hid (hk.blk HB1.out);have HM2:=hid (hk.blk HM1.out);clear hk;clear n0 n1 n2 n3 n4 n5 n6 n7 n8 n9 n10 n11 m0 m1 m2 m3 m4 m5;obtain⟨n0,n1,n2,n3,n4,n5,n6,n7,n8,n9,n10,n11⟩:=BK HB2.out;obtain⟨m0,m1,m2,m3,m4,m5,-⟩:=blk6 HM2.out;go_wp2_with fail;go_ret;exact⟨by first|rfl|(rw[hgx];rfl)|simp[hgx],HK2.out⟩
 |true=>
 have HQ:=hid (by have h:=HX.out W1 HK1.out;rw[hgx]at h;exact h);go_wp2_with fail;go_at_call 91;refine(HQ.out).mono ?_;rintro e W2 ⟨rfl,hk⟩;have HK2:=hid (HK1.out.trans hk);have HB2:=hid (hk.blk HB1.out);have HM2:=hid (hk.blk HM1.out);clear hk;clear n0 n1 n2 n3 n4 n5 n6 n7 n8 n9 n10 n11 m0 m1 m2 m3 m4 m5;obtain⟨n0,n1,n2,n3,n4,n5,n6,n7,n8,n9,n10,n11⟩:=BK HB2.out;obtain⟨m0,m1,m2,m3,m4,m5,-⟩:=blk6 HM2.out
 cases hgt:CC thn with
 | false=>
  have HQ:=hid (by have h:=HTH.out W2 HK2.out;rw[hgt]at h;exact h);go_wp2_with fail;go_at_call 52;refine(HQ.out).mono ?_;rintro e W3 ⟨rfl,hk⟩;have HK3:=hid (HK2.out.trans hk);have HB3:=hid (hk.blk HB2.out);have HM3:=hid (hk.blk HM2.out);clear hk;clear n0 n1 n2 n3 n4 n5 n6 n7 n8 n9 n10 n11 m0 m1 m2 m3 m4 m5;obtain⟨n0,n1,n2,n3,n4,n5,n6,n7,n8,n9,n10,n11⟩:=BK HB3.out;obtain⟨m0,m1,m2,m3,m4,m5,-⟩:=blk6 HM3.out;go_wp2_with fail;go_ret;exact⟨by first|rfl|(rw[hgx,hgt];rfl)|simp[hgx,hgt],HK3.out⟩
 |true=>
 have HQ:=hid (by have h:=HTH.out W2 HK2.out;rw[hgt]at h;exact h);go_wp2_with fail;go_at_call 52;refine(HQ.out).mono ?_;rintro e W3 ⟨rfl,hk⟩;have HK3:=hid (HK2.out.trans hk);have HB3:=hid (hk.blk HB2.out);have HM3:=hid (hk.blk HM2.out);clear hk;clear n0 n1 n2 n3 n4 n5 n6 n7 n8 n9 n10 n11 m0 m1 m2 m3 m4 m5;obtain⟨n0,n1,n2,n3,n4,n5,n6,n7,n8,n9,n10,n11⟩:=BK HB3.out;obtain⟨m0,m1,m2,m3,m4,m5,-⟩:=blk6 HM3.out;obtain⟨b,hge⟩:∃b,CC els=b:=⟨_,rfl⟩;have HGE:=hid hge;have HQ:=hid (by have h:=HEL.out W3 HK3.out;rw[hge]at h;exact h);clear hge;go_wp2_with fail;go_at_call 52;refine(HQ.out).mono ?_;rintro e W4 ⟨rfl,hk⟩;have HK4:=hid (HK3.out.trans hk);have HB4:=hid (hk.blk HB3.out);have HM4:=hid (hk.blk HM3.out);clear hk;clear n0 n1 n2 n3 n4 n5 n6 n7 n8 n9 n10 n11 m0 m1 m2 m3 m4 m5;obtain⟨n0,n1,n2,n3,n4,n5,n6,n7,n8,n9,n10,n11⟩:=BK HB4.out;obtain⟨m0,m1,m2,m3,m4,m5,-⟩:=blk6 HM4.out;go_wp2_with fail;go_ret;exact⟨by first|(rw[HGE.out];rfl)|(rw[hgx,hgt,HGE.out];rfl)|simp[hgx,hgt,HGE.out],HK4.out⟩
end Go.Proofs.YtknnmidnodeanaaGreatDoor
