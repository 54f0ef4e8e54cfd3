import Derived.Test.YtknnmidnodeanaaGreatDoorJu16
set_option maxHeartbeats 32000000
set_option maxRecDepth 4000
namespace Go.Proofs.YtknnmidnodeanaaGreatDoor
open Go Go.RowKit Own
open Go.Lib (hid)
theorem ms_C1:MayBy false false false 1 true true (fun _=>True):=by
 intro k sz op l cl nm val into cont xs thn els hk hn htk hX hTh hEl hcl hlx hlt hle w S vs hT hs;unfold SAt at hs;obtain⟨p1,c1,p2,c2,p3,c3,rfl,hx,ht,he⟩:=hs;obtain⟨r,hr⟩:∃r,(BL false false false 1 true true sz op nm val into cont xs.length thn.length els.length && (DR xs && (CC thn && CC els)))=r:=⟨_,rfl⟩;rw[hr];have HR:=hid hr;have HTKH:=hid htk;clear htk;unfold strV;obtain⟨V,B1,hV,hB1,hb1,hk1,hs1⟩:=BD w (.cells #[.int .i64 k,.string ⟨nm.toArray⟩,.int .i64 sz,.int .i64 op,.string ⟨val.toArray⟩,.string ⟨into.toArray⟩,.string ⟨cont.toArray⟩,.slice p1 xs.length c1,.slice p2 thn.length c2,.slice p3 els.length c3,.int .i64 l,.int .i64 cl] TSm);have HND:=hid (by have h:=needs_any V k op (.string ⟨nm.toArray⟩) (.int .i64 sz) (.string ⟨val.toArray⟩) (.string ⟨into.toArray⟩) (.string ⟨cont.toArray⟩) (.slice p1 xs.length c1) (.slice p2 thn.length c2) (.slice p3 els.length c3) (.int .i64 l) (.int .i64 cl);rw[hn]at h;exact h);unfold nd at HND;have HK:=hid hk1;have HB:=hid hb1;have HT:=hid hT;have HX:=hid (fun W (h:BA (fun _=>False) w W)=>hasM_any mayG xs hX hlx W (h.tabS hT) S p1 c1 (hx.keep h fun _ _ e=>e));have HTH:=hid (fun W (h:BA (fun _=>False) w W)=>CM mayS thn hTh hlt W (h.tabS hT) S p2 c2 (ht.keep h fun _ _ e=>e));have HEL:=hid (fun W (h:BA (fun _=>False) w W)=>CM mayS els hEl hle W (h.tabS hT) S p3 c3 (he.keep h fun _ _ e=>e));rw[mayGL_any]at HX;rw[maySL_any]at HTH HEL;have hk1i:¬k<1:=by omega
 have hk9i:¬9<k:=by omega
 have HNnm:=hid (fun W (h:TabS W)=>by have h:=BW ⟨nm.toArray⟩ W h;rw[show (⟨nm.toArray⟩:ByteArray).data.toList=nm by simp]at h;exact h);have HNval:=hid (fun W (h:TabS W)=>by have h:=BW ⟨val.toArray⟩ W h;rw[show (⟨val.toArray⟩:ByteArray).data.toList=val by simp]at h;exact h);have HNinto:=hid (fun W (h:TabS W)=>by have h:=BW ⟨into.toArray⟩ W h;rw[show (⟨into.toArray⟩:ByteArray).data.toList=into by simp]at h;exact h);have HNcont:=hid (fun W (h:TabS W)=>by have h:=BW ⟨cont.toArray⟩ W h;rw[show (⟨cont.toArray⟩:ByteArray).data.toList=cont by simp]at h;exact h);have HTK:=hid (fun w'=>DV op w');obtain⟨n0,n1,n2,n3,n4,n5,n6,n7,n8,n9,n10,n11⟩:=BK hb1;clear hr hn hX hTh hEl hlx hlt hle hT hx ht he hb1 hk1 hs1;go_enter Tryz.func69,Tryz.ntmps69;go_upto_region 1 with fail;rw[←hV,←hB1];clear hV hB1;go_upto_region 3 with fail;go_wp2_with fail;go_at_call 89;refine HND.out.mono ?_;rintro e V2 ⟨rfl,hk2⟩;obtain⟨W0,B2,hW,hB2,hb2,hk3,hs3⟩:=BD V2 (.cells (nd false false false 1 true true) TNd);unfold nd at hW hb2;have HK0:=hid ((HK.out.trans hk2).trans hk3);have HB0:=hid ((hk2.trans hk3).blk HB.out);have HM0:=hid hb2;clear hk2 hk3 hs3 hb2;go_upto_region 4 with fail;rw[←hW,←hB2];clear hW hB2 n0 n1 n2 n3 n4 n5 n6 n7 n8 n9 n10 n11 hk1i hk9i;obtain⟨n0,n1,n2,n3,n4,n5,n6,n7,n8,n9,n10,n11⟩:=BK HB0.out;obtain⟨m0,m1,m2,m3,m4,m5,-⟩:=blk6 HM0.out;rcases Classical.em (nm=[])with hnm|hnm
 rotate_left
 ·have hb1:(nm==[])=false:=BF.2 hnm;have hb2:(nm != [])=true:=by rw[bne_iff_ne];exact hnm
  have hb3:nm.isEmpty=false:=by simpa using hnm
  have he:r=false:=by rw[←HR.out];simp[BL,hb3]
  subst he;go_wp2_with fail;go_ret;exact⟨rfl,HK0.out⟩
 subst hnm;go_upto_region 7 with fail;rcases Classical.em (sz=0)with hsz|hsz
 rotate_left
 ·have hzb:(sz==0)=false:=by rw[BF];exact hsz
  have he:r=false:=by rw[←HR.out];simp[BL,hzb]
  subst he;go_wp2_with fail;go_ret;exact⟨rfl,HK0.out⟩
 subst hsz;go_upto_region 10 with fail;rcases Classical.em (op=0)with hop|hop
 rotate_left
 ·have hob:(op==0)=false:=by rw[BF];exact hop
  have he:r=false:=by rw[←HR.out];simp[BL,hob]
  subst he;go_wp2_with fail;go_ret;exact⟨rfl,HK0.out⟩
 subst hop;have hl1:¬9223372036854775807<val.length+into.length:=by omega
 have hl2:¬9223372036854775807<val.length+into.length+cont.length:=by omega
 rcases Classical.em ((val.isEmpty && (into.isEmpty && cont.isEmpty))=true)with hcat|hcat
 rotate_left
 ·have hcc:=catE val into cont;rw[Bool.eq_false_iff.2 hcat]at hcc;simp only[Bool.not_false]at hcc;have he:r=false:=by rw[←HR.out];have h9:(val.isEmpty && (into.isEmpty && cont.isEmpty))=false:=Bool.eq_false_iff.2 hcat;unfold BL;rw[h9];simp
  subst he;go_wp2_with fail;go_ret;exact⟨rfl,HK0.out⟩
 have hcc:=catE val into cont;rw[hcat]at hcc;simp only[Bool.not_true]at hcc;go_upto_region 16 with fail;clear hcc hl1 hl2;rcases Classical.em ((xs.length:Int)=1)with hxl|hxl
 rotate_left
 ·have hxb:((xs.length:Int)==1)=false:=by rw[BF];exact hxl
  have he:r=false:=by rw[←HR.out];simp only[BL,hxb,Bool.false_and,Bool.and_false]
  subst he;go_wp2_with fail;go_ret;exact⟨rfl,HK0.out⟩
 have hxb:((xs.length:Int)==1)=true:=by rw[beq_iff_eq];exact hxl
 go_upto_region 17 with fail;go_upto_region 18 with fail;go_upto_region 20 with fail;have htk:=HTKH.out;have hrr:r=(DR xs && (CC thn && CC els)):=by rw[←HR.out];simp[BL,hxb,hcat]
 clear hxl hxb htk;subst hrr
 cases hgx:DR xs with
 | false=>
  have HQ:=hid (by have h:=HX.out W0 HK0.out;rw[hgx]at h;exact h);go_wp2_with fail;go_at_call 91;refine(HQ.out).mono ?_;rintro e W1 ⟨rfl,hk⟩;have HK1:=hid (HK0.out.trans hk);have HB1:=hid (hk.blk HB0.out);have HM1:=hid (hk.blk HM0.out);clear hk;clear n0 n1 n2 n3 n4 n5 n6 n7 n8 n9 n10 n11 m0 m1 m2 m3 m4 m5;obtain⟨n0,n1,n2,n3,n4,n5,n6,n7,n8,n9,n10,n11⟩:=BK HB1.out;obtain⟨m0,m1,m2,m3,m4,m5,-⟩:=blk6 HM1.out;go_wp2_with fail;go_ret;exact⟨by first|rfl|(rw[hgx];rfl)|simp[hgx],HK1.out⟩
 |true=>
 have HQ:=hid (by have h:=HX.out W0 HK0.out;rw[hgx]at h;exact h);go_wp2_with fail;go_at_call 91;refine(HQ.out).mono ?_;rintro e W1 ⟨rfl,hk⟩;have HK1:=hid (HK0.out.trans hk);have HB1:=hid (hk.blk HB0.out);have HM1:=hid (hk.blk HM0.out);clear hk;clear n0 n1 n2 n3 n4 n5 n6 n7 n8 n9 n10 n11 m0 m1 m2 m3 m4 m5;obtain⟨n0,n1,n2,n3,n4,n5,n6,n7,n8,n9,n10,n11⟩:=BK HB1.out;obtain⟨m0,m1,m2,m3,m4,m5,-⟩:=blk6 HM1.out
 cases hgt:CC thn with
 | false=>
  have HQ:=hid (by have h:=HTH.out W1 HK1.out;rw[hgt]at h;exact h);go_wp2_with fail;go_at_call 52;refine(HQ.out).mono ?_;rintro e W2 ⟨rfl,hk⟩;have HK2:=hid (HK1.out.trans hk);have HB2:=hid (hk.blk HB1.out);have HM2:=hid (hk.blk HM1.out);clear hk;clear n0 n1 n2 n3 n4 n5 n6 n7 n8 n9 n10 n11 m0 m1 m2 m3 m4 m5;obtain⟨n0,n1,n2,n3,n4,n5,n6,n7,n8,n9,n10,n11⟩:=BK HB2.out;obtain⟨m0,m1,m2,m3,m4,m5,-⟩:=blk6 HM2.out;go_wp2_with fail;go_ret;exact⟨by first|rfl|(rw[hgx,hgt];rfl)|simp[hgx,hgt],HK2.out⟩
 |true=>
 have HQ:=hid (by have h:=HTH.out W1 HK1.out;rw[hgt]at h;exact h);go_wp2_with fail;go_at_call 52;refine(HQ.out).mono ?_;rintro e W2 ⟨rfl,hk⟩;have HK2:=hid (HK1.out.trans hk);have HB2:=hid (hk.blk HB1.out);have HM2:=hid (hk.blk HM1.out);clear hk;clear n0 n1 n2 n3 n4 n5 n6 n7 n8 n9 n10 n11 m0 m1 m2 m3 m4 m5;obtain⟨n0,n1,n2,n3,n4,n5,n6,n7,n8,n9,n10,n11⟩:=BK HB2.out;obtain⟨m0,m1,m2,m3,m4,m5,-⟩:=blk6 HM2.out;obtain⟨b,hge⟩:∃b,CC els=b:=⟨_,rfl⟩;have HGE:=hid hge;have HQ:=hid (by have h:=HEL.out W2 HK2.out;rw[hge]at h;exact h);clear hge;go_wp2_with fail;go_at_call 52;refine(HQ.out).mono ?_;rintro e W3 ⟨rfl,hk⟩;have HK3:=hid (HK2.out.trans hk);have HB3:=hid (hk.blk HB2.out);have HM3:=hid (hk.blk HM2.out);clear hk;clear n0 n1 n2 n3 n4 n5 n6 n7 n8 n9 n10 n11 m0 m1 m2 m3 m4 m5;obtain⟨n0,n1,n2,n3,n4,n5,n6,n7,n8,n9,n10,n11⟩:=BK HB3.out;obtain⟨m0,m1,m2,m3,m4,m5,-⟩:=blk6 HM3.out;go_wp2_with fail;go_ret;exact⟨by first|(rw[HGE.out];rfl)|(rw[hgx,hgt,HGE.out];rfl)|simp[hgx,hgt,HGE.out],HK3.out⟩
theorem ms_C2:MayBy false false false 1 true false (fun _=>True):=by
 intro k sz op l cl nm val into cont xs thn els hk hn htk hX hTh hEl hcl hlx hlt hle w S vs hT hs;unfold SAt at hs;obtain⟨p1,c1,p2,c2,p3,c3,rfl,hx,ht,he⟩:=hs;obtain⟨r,hr⟩:∃r,(BL false false false 1 true false sz op nm val into cont xs.length thn.length els.length && (DR xs && (CC thn && CC els)))=r:=⟨_,rfl⟩;rw[hr];have HR:=hid hr;have HTKH:=hid htk;clear htk;unfold strV;obtain⟨V,B1,hV,hB1,hb1,hk1,hs1⟩:=BD w (.cells #[.int .i64 k,.string ⟨nm.toArray⟩,.int .i64 sz,.int .i64 op,.string ⟨val.toArray⟩,.string ⟨into.toArray⟩,.string ⟨cont.toArray⟩,.slice p1 xs.length c1,.slice p2 thn.length c2,.slice p3 els.length c3,.int .i64 l,.int .i64 cl] TSm);have HND:=hid (by have h:=needs_any V k op (.string ⟨nm.toArray⟩) (.int .i64 sz) (.string ⟨val.toArray⟩) (.string ⟨into.toArray⟩) (.string ⟨cont.toArray⟩) (.slice p1 xs.length c1) (.slice p2 thn.length c2) (.slice p3 els.length c3) (.int .i64 l) (.int .i64 cl);rw[hn]at h;exact h);unfold nd at HND;have HK:=hid hk1;have HB:=hid hb1;have HT:=hid hT;have HX:=hid (fun W (h:BA (fun _=>False) w W)=>hasM_any mayG xs hX hlx W (h.tabS hT) S p1 c1 (hx.keep h fun _ _ e=>e));have HTH:=hid (fun W (h:BA (fun _=>False) w W)=>CM mayS thn hTh hlt W (h.tabS hT) S p2 c2 (ht.keep h fun _ _ e=>e));have HEL:=hid (fun W (h:BA (fun _=>False) w W)=>CM mayS els hEl hle W (h.tabS hT) S p3 c3 (he.keep h fun _ _ e=>e));rw[mayGL_any]at HX;rw[maySL_any]at HTH HEL;have hk1i:¬k<1:=by omega
 have hk9i:¬9<k:=by omega
 have HNnm:=hid (fun W (h:TabS W)=>by have h:=BW ⟨nm.toArray⟩ W h;rw[show (⟨nm.toArray⟩:ByteArray).data.toList=nm by simp]at h;exact h);have HNval:=hid (fun W (h:TabS W)=>by have h:=BW ⟨val.toArray⟩ W h;rw[show (⟨val.toArray⟩:ByteArray).data.toList=val by simp]at h;exact h);have HNinto:=hid (fun W (h:TabS W)=>by have h:=BW ⟨into.toArray⟩ W h;rw[show (⟨into.toArray⟩:ByteArray).data.toList=into by simp]at h;exact h);have HNcont:=hid (fun W (h:TabS W)=>by have h:=BW ⟨cont.toArray⟩ W h;rw[show (⟨cont.toArray⟩:ByteArray).data.toList=cont by simp]at h;exact h);have HTK:=hid (fun w'=>DV op w');obtain⟨n0,n1,n2,n3,n4,n5,n6,n7,n8,n9,n10,n11⟩:=BK hb1;clear hr hn hX hTh hEl hlx hlt hle hT hx ht he hb1 hk1 hs1;go_enter Tryz.func69,Tryz.ntmps69;go_upto_region 1 with fail;rw[←hV,←hB1];clear hV hB1;go_upto_region 3 with fail;go_wp2_with fail;go_at_call 89;refine HND.out.mono ?_;rintro e V2 ⟨rfl,hk2⟩;obtain⟨W0,B2,hW,hB2,hb2,hk3,hs3⟩:=BD V2 (.cells (nd false false false 1 true false) TNd);unfold nd at hW hb2;have HK0:=hid ((HK.out.trans hk2).trans hk3);have HB0:=hid ((hk2.trans hk3).blk HB.out);have HM0:=hid hb2;clear hk2 hk3 hs3 hb2;go_upto_region 4 with fail;rw[←hW,←hB2];clear hW hB2 n0 n1 n2 n3 n4 n5 n6 n7 n8 n9 n10 n11 hk1i hk9i;obtain⟨n0,n1,n2,n3,n4,n5,n6,n7,n8,n9,n10,n11⟩:=BK HB0.out;obtain⟨m0,m1,m2,m3,m4,m5,-⟩:=blk6 HM0.out;rcases Classical.em (nm=[])with hnm|hnm
 rotate_left
 ·have hb1:(nm==[])=false:=BF.2 hnm;have hb2:(nm != [])=true:=by rw[bne_iff_ne];exact hnm
  have hb3:nm.isEmpty=false:=by simpa using hnm
  have he:r=false:=by rw[←HR.out];simp[BL,hb3]
  subst he;go_wp2_with fail;go_ret;exact⟨rfl,HK0.out⟩
 subst hnm;go_upto_region 7 with fail;rcases Classical.em (sz=0)with hsz|hsz
 rotate_left
 ·have hzb:(sz==0)=false:=by rw[BF];exact hsz
  have he:r=false:=by rw[←HR.out];simp[BL,hzb]
  subst he;go_wp2_with fail;go_ret;exact⟨rfl,HK0.out⟩
 subst hsz;go_upto_region 10 with fail;rcases Classical.em (op=0)with hop|hop
 rotate_left
 ·have hob:(op==0)=false:=by rw[BF];exact hop
  have he:r=false:=by rw[←HR.out];simp[BL,hob]
  subst he;go_wp2_with fail;go_ret;exact⟨rfl,HK0.out⟩
 subst hop;have hl1:¬9223372036854775807<val.length+into.length:=by omega
 have hl2:¬9223372036854775807<val.length+into.length+cont.length:=by omega
 rcases Classical.em ((val.isEmpty && (into.isEmpty && cont.isEmpty))=true)with hcat|hcat
 rotate_left
 ·have hcc:=catE val into cont;rw[Bool.eq_false_iff.2 hcat]at hcc;simp only[Bool.not_false]at hcc;have he:r=false:=by rw[←HR.out];have h9:(val.isEmpty && (into.isEmpty && cont.isEmpty))=false:=Bool.eq_false_iff.2 hcat;unfold BL;rw[h9];simp
  subst he;go_wp2_with fail;go_ret;exact⟨rfl,HK0.out⟩
 have hcc:=catE val into cont;rw[hcat]at hcc;simp only[Bool.not_true]at hcc;go_upto_region 16 with fail;clear hcc hl1 hl2;rcases Classical.em ((xs.length:Int)=1)with hxl|hxl
 rotate_left
 ·have hxb:((xs.length:Int)==1)=false:=by rw[BF];exact hxl
  have he:r=false:=by rw[←HR.out];simp only[BL,hxb,Bool.false_and,Bool.and_false]
  subst he;go_wp2_with fail;go_ret;exact⟨rfl,HK0.out⟩
 have hxb:((xs.length:Int)==1)=true:=by rw[beq_iff_eq];exact hxl
 go_upto_region 17 with fail;go_upto_region 18 with fail;rcases Classical.em (els.length=0)with hels|hels
 rotate_left
 ·have hli:(0:Int)<els.length:=by omega
  have hlb:(els.length==0)=false:=by rw[BF];exact hels
  have he:r=false:=by rw[←HR.out];simp only[BL,hlb,Bool.false_or,Bool.false_and,Bool.and_false]
  subst he;go_wp2_with fail;go_ret;exact⟨rfl,HK0.out⟩
 have helsb:¬(0:Int)<els.length:=by omega
 have Hels:=hid hels;clear hels;go_upto_region 20 with fail;clear helsb;have hels:=Hels.out;have htk:=HTKH.out;have hrr:r=(DR xs && (CC thn && CC els)):=by rw[←HR.out];simp[BL,hxb,hcat,hels]
 clear hels;clear hxl hxb htk;subst hrr
 cases hgx:DR xs with
 | false=>
  have HQ:=hid (by have h:=HX.out W0 HK0.out;rw[hgx]at h;exact h);go_wp2_with fail;go_at_call 91;refine(HQ.out).mono ?_;rintro e W1 ⟨rfl,hk⟩;have HK1:=hid (HK0.out.trans hk);have HB1:=hid (hk.blk HB0.out);have HM1:=hid (hk.blk HM0.out);clear hk;clear n0 n1 n2 n3 n4 n5 n6 n7 n8 n9 n10 n11 m0 m1 m2 m3 m4 m5;obtain⟨n0,n1,n2,n3,n4,n5,n6,n7,n8,n9,n10,n11⟩:=BK HB1.out;obtain⟨m0,m1,m2,m3,m4,m5,-⟩:=blk6 HM1.out;go_wp2_with fail;go_ret;exact⟨by first|rfl|(rw[hgx];rfl)|simp[hgx],HK1.out⟩
 |true=>
 have HQ:=hid (by have h:=HX.out W0 HK0.out;rw[hgx]at h;exact h);go_wp2_with fail;go_at_call 91;refine(HQ.out).mono ?_;rintro e W1 ⟨rfl,hk⟩;have HK1:=hid (HK0.out.trans hk);have HB1:=hid (hk.blk HB0.out);have HM1:=hid (hk.blk HM0.out);clear hk;clear n0 n1 n2 n3 n4 n5 n6 n7 n8 n9 n10 n11 m0 m1 m2 m3 m4 m5;obtain⟨n0,n1,n2,n3,n4,n5,n6,n7,n8,n9,n10,n11⟩:=BK HB1.out;obtain⟨m0,m1,m2,m3,m4,m5,-⟩:=blk6 HM1.out
 cases hgt:CC thn with
 | false=>
  have HQ:=hid (by have h:=HTH.out W1 HK1.out;rw[hgt]at h;exact h);go_wp2_with fail;go_at_call 52;refine(HQ.out).mono ?_;rintro e W2 ⟨rfl,hk⟩;have HK2:=hid (HK1.out.trans hk);have HB2:=hid (hk.blk HB1.out);have HM2:=hid (hk.blk HM1.out);clear hk;clear n0 n1 n2 n3 n4 n5 n6 n7 n8 n9 n10 n11 m0 m1 m2 m3 m4 m5;obtain⟨n0,n1,n2,n3,n4,n5,n6,n7,n8,n9,n10,n11⟩:=BK HB2.out;obtain⟨m0,m1,m2,m3,m4,m5,-⟩:=blk6 HM2.out;go_wp2_with fail;go_ret;exact⟨by first|rfl|(rw[hgx,hgt];rfl)|simp[hgx,hgt],HK2.out⟩
 |true=>
 have HQ:=hid (by have h:=HTH.out W1 HK1.out;rw[hgt]at h;exact h);go_wp2_with fail;go_at_call 52;refine(HQ.out).mono ?_;rintro e W2 ⟨rfl,hk⟩;have HK2:=hid (HK1.out.trans hk);have HB2:=hid (hk.blk HB1.out);have HM2:=hid (hk.blk HM1.out);clear hk;clear n0 n1 n2 n3 n4 n5 n6 n7 n8 n9 n10 n11 m0 m1 m2 m3 m4 m5;obtain⟨n0,n1,n2,n3,n4,n5,n6,n7,n8,n9,n10,n11⟩:=BK HB2.out;obtain⟨m0,m1,m2,m3,m4,m5,-⟩:=blk6 HM2.out;obtain⟨b,hge⟩:∃b,CC els=b:=⟨_,rfl⟩;have HGE:=hid hge;have HQ:=hid (by have h:=HEL.out W2 HK2.out;rw[hge]at h;exact h);clear hge;go_wp2_with fail;go_at_call 52;refine(HQ.out).mono ?_;rintro e W3 ⟨rfl,hk⟩;have HK3:=hid (HK2.out.trans hk);have HB3:=hid (hk.blk HB2.out);have HM3:=hid (hk.blk HM2.out);clear hk;clear n0 n1 n2 n3 n4 n5 n6 n7 n8 n9 n10 n11 m0 m1 m2 m3 m4 m5;obtain⟨n0,n1,n2,n3,n4,n5,n6,n7,n8,n9,n10,n11⟩:=BK HB3.out;obtain⟨m0,m1,m2,m3,m4,m5,-⟩:=blk6 HM3.out;go_wp2_with fail;go_ret;exact⟨by first|(rw[HGE.out];rfl)|(rw[hgx,hgt,HGE.out];rfl)|simp[hgx,hgt,HGE.out],HK3.out⟩
theorem ms_C3:MayBy false false false 1 false false (fun _=>True):=by
 intro k sz op l cl nm val into cont xs thn els hk hn htk hX hTh hEl hcl hlx hlt hle w S vs hT hs;unfold SAt at hs;obtain⟨p1,c1,p2,c2,p3,c3,rfl,hx,ht,he⟩:=hs;obtain⟨r,hr⟩:∃r,(BL false false false 1 false false sz op nm val into cont xs.length thn.length els.length && (DR xs && (CC thn && CC els)))=r:=⟨_,rfl⟩;rw[hr];have HR:=hid hr;have HTKH:=hid htk;clear htk;unfold strV;obtain⟨V,B1,hV,hB1,hb1,hk1,hs1⟩:=BD w (.cells #[.int .i64 k,.string ⟨nm.toArray⟩,.int .i64 sz,.int .i64 op,.string ⟨val.toArray⟩,.string ⟨into.toArray⟩,.string ⟨cont.toArray⟩,.slice p1 xs.length c1,.slice p2 thn.length c2,.slice p3 els.length c3,.int .i64 l,.int .i64 cl] TSm);have HND:=hid (by have h:=needs_any V k op (.string ⟨nm.toArray⟩) (.int .i64 sz) (.string ⟨val.toArray⟩) (.string ⟨into.toArray⟩) (.string ⟨cont.toArray⟩) (.slice p1 xs.length c1) (.slice p2 thn.length c2) (.slice p3 els.length c3) (.int .i64 l) (.int .i64 cl);rw[hn]at h;exact h);unfold nd at HND;have HK:=hid hk1;have HB:=hid hb1;have HT:=hid hT;have HX:=hid (fun W (h:BA (fun _=>False) w W)=>hasM_any mayG xs hX hlx W (h.tabS hT) S p1 c1 (hx.keep h fun _ _ e=>e));have HTH:=hid (fun W (h:BA (fun _=>False) w W)=>CM mayS thn hTh hlt W (h.tabS hT) S p2 c2 (ht.keep h fun _ _ e=>e));have HEL:=hid (fun W (h:BA (fun _=>False) w W)=>CM mayS els hEl hle W (h.tabS hT) S p3 c3 (he.keep h fun _ _ e=>e));rw[mayGL_any]at HX;rw[maySL_any]at HTH HEL;have hk1i:¬k<1:=by omega
 have hk9i:¬9<k:=by omega
 have HNnm:=hid (fun W (h:TabS W)=>by have h:=BW ⟨nm.toArray⟩ W h;rw[show (⟨nm.toArray⟩:ByteArray).data.toList=nm by simp]at h;exact h);have HNval:=hid (fun W (h:TabS W)=>by have h:=BW ⟨val.toArray⟩ W h;rw[show (⟨val.toArray⟩:ByteArray).data.toList=val by simp]at h;exact h);have HNinto:=hid (fun W (h:TabS W)=>by have h:=BW ⟨into.toArray⟩ W h;rw[show (⟨into.toArray⟩:ByteArray).data.toList=into by simp]at h;exact h);have HNcont:=hid (fun W (h:TabS W)=>by have h:=BW ⟨cont.toArray⟩ W h;rw[show (⟨cont.toArray⟩:ByteArray).data.toList=cont by simp]at h;exact h);have HTK:=hid (fun w'=>DV op w');obtain⟨n0,n1,n2,n3,n4,n5,n6,n7,n8,n9,n10,n11⟩:=BK hb1;clear hr hn hX hTh hEl hlx hlt hle hT hx ht he hb1 hk1 hs1;go_enter Tryz.func69,Tryz.ntmps69;go_upto_region 1 with fail;rw[←hV,←hB1];clear hV hB1;go_upto_region 3 with fail;go_wp2_with fail;go_at_call 89;refine HND.out.mono ?_;rintro e V2 ⟨rfl,hk2⟩;obtain⟨W0,B2,hW,hB2,hb2,hk3,hs3⟩:=BD V2 (.cells (nd false false false 1 false false) TNd);unfold nd at hW hb2;have HK0:=hid ((HK.out.trans hk2).trans hk3);have HB0:=hid ((hk2.trans hk3).blk HB.out);have HM0:=hid hb2;clear hk2 hk3 hs3 hb2;go_upto_region 4 with fail;rw[←hW,←hB2];clear hW hB2 n0 n1 n2 n3 n4 n5 n6 n7 n8 n9 n10 n11 hk1i hk9i;obtain⟨n0,n1,n2,n3,n4,n5,n6,n7,n8,n9,n10,n11⟩:=BK HB0.out;obtain⟨m0,m1,m2,m3,m4,m5,-⟩:=blk6 HM0.out;rcases Classical.em (nm=[])with hnm|hnm
 rotate_left
 ·have hb1:(nm==[])=false:=BF.2 hnm;have hb2:(nm != [])=true:=by rw[bne_iff_ne];exact hnm
  have hb3:nm.isEmpty=false:=by simpa using hnm
  have he:r=false:=by rw[←HR.out];simp[BL,hb3]
  subst he;go_wp2_with fail;go_ret;exact⟨rfl,HK0.out⟩
 subst hnm;go_upto_region 7 with fail;rcases Classical.em (sz=0)with hsz|hsz
 rotate_left
 ·have hzb:(sz==0)=false:=by rw[BF];exact hsz
  have he:r=false:=by rw[←HR.out];simp[BL,hzb]
  subst he;go_wp2_with fail;go_ret;exact⟨rfl,HK0.out⟩
 subst hsz;go_upto_region 10 with fail;rcases Classical.em (op=0)with hop|hop
 rotate_left
 ·have hob:(op==0)=false:=by rw[BF];exact hop
  have he:r=false:=by rw[←HR.out];simp[BL,hob]
  subst he;go_wp2_with fail;go_ret;exact⟨rfl,HK0.out⟩
 subst hop;have hl1:¬9223372036854775807<val.length+into.length:=by omega
 have hl2:¬9223372036854775807<val.length+into.length+cont.length:=by omega
 rcases Classical.em ((val.isEmpty && (into.isEmpty && cont.isEmpty))=true)with hcat|hcat
 rotate_left
 ·have hcc:=catE val into cont;rw[Bool.eq_false_iff.2 hcat]at hcc;simp only[Bool.not_false]at hcc;have he:r=false:=by rw[←HR.out];have h9:(val.isEmpty && (into.isEmpty && cont.isEmpty))=false:=Bool.eq_false_iff.2 hcat;unfold BL;rw[h9];simp
  subst he;go_wp2_with fail;go_ret;exact⟨rfl,HK0.out⟩
 have hcc:=catE val into cont;rw[hcat]at hcc;simp only[Bool.not_true]at hcc;go_upto_region 16 with fail;clear hcc hl1 hl2;rcases Classical.em ((xs.length:Int)=1)with hxl|hxl
 rotate_left
 ·have hxb:((xs.length:Int)==1)=false:=by rw[BF];exact hxl
  have he:r=false:=by rw[←HR.out];simp only[BL,hxb,Bool.false_and,Bool.and_false]
  subst he;go_wp2_with fail;go_ret;exact⟨rfl,HK0.out⟩
 have hxb:((xs.length:Int)==1)=true:=by rw[beq_iff_eq];exact hxl
 go_upto_region 17 with fail;rcases Classical.em (thn.length=0)with hthn|hthn
 rotate_left
 ·have hli:(0:Int)<thn.length:=by omega
  have hlb:(thn.length==0)=false:=by rw[BF];exact hthn
  have he:r=false:=by rw[←HR.out];simp only[BL,hlb,Bool.false_or,Bool.false_and,Bool.and_false]
  subst he;go_wp2_with fail;go_ret;exact⟨rfl,HK0.out⟩
 have hthnb:¬(0:Int)<thn.length:=by omega
 have Hthn:=hid hthn;clear hthn;go_upto_region 18 with fail;clear hthnb;rcases Classical.em (els.length=0)with hels|hels
 rotate_left
 ·have hli:(0:Int)<els.length:=by omega
  have hlb:(els.length==0)=false:=by rw[BF];exact hels
  have he:r=false:=by rw[←HR.out];simp only[BL,hlb,Bool.false_or,Bool.false_and,Bool.and_false]
  subst he;go_wp2_with fail;go_ret;exact⟨rfl,HK0.out⟩
 have helsb:¬(0:Int)<els.length:=by omega
 have Hels:=hid hels;clear hels;go_upto_region 20 with fail;clear helsb;have hthn:=Hthn.out;have hels:=Hels.out;have htk:=HTKH.out;have hrr:r=(DR xs && (CC thn && CC els)):=by rw[←HR.out];simp[BL,hxb,hcat,hthn,hels]
 clear hthn;clear hels;clear hxl hxb htk;subst hrr
 cases hgx:DR xs with
 | false=>
  have HQ:=hid (by have h:=HX.out W0 HK0.out;rw[hgx]at h;exact h);go_wp2_with fail;go_at_call 91;refine(HQ.out).mono ?_;rintro e W1 ⟨rfl,hk⟩;have HK1:=hid (HK0.out.trans hk);have HB1:=hid (hk.blk HB0.out);have HM1:=hid (hk.blk HM0.out);clear hk;clear n0 n1 n2 n3 n4 n5 n6 n7 n8 n9 n10 n11 m0 m1 m2 m3 m4 m5;obtain⟨n0,n1,n2,n3,n4,n5,n6,n7,n8,n9,n10,n11⟩:=BK HB1.out;obtain⟨m0,m1,m2,m3,m4,m5,-⟩:=blk6 HM1.out;go_wp2_with fail;go_ret;exact⟨by first|rfl|(rw[hgx];rfl)|simp[hgx],HK1.out⟩
 |true=>
 have HQ:=hid (by have h:=HX.out W0 HK0.out;rw[hgx]at h;exact h);go_wp2_with fail;go_at_call 91;refine(HQ.out).mono ?_;rintro e W1 ⟨rfl,hk⟩;have HK1:=hid (HK0.out.trans hk);have HB1:=hid (hk.blk HB0.out);have HM1:=hid (hk.blk HM0.out);clear hk;clear n0 n1 n2 n3 n4 n5 n6 n7 n8 n9 n10 n11 m0 m1 m2 m3 m4 m5;obtain⟨n0,n1,n2,n3,n4,n5,n6,n7,n8,n9,n10,n11⟩:=BK HB1.out;obtain⟨m0,m1,m2,m3,m4,m5,-⟩:=blk6 HM1.out
 cases hgt:CC thn with
 | false=>
  have HQ:=hid (by have h:=HTH.out W1 HK1.out;rw[hgt]at h;exact h);go_wp2_with fail;go_at_call 52;refine(HQ.out).mono ?_;rintro e W2 ⟨rfl,hk⟩;have HK2:=hid (HK1.out.trans hk);have HB2:=hid (hk.blk HB1.out);have HM2:=hid (hk.blk HM1.out);clear hk;clear n0 n1 n2 n3 n4 n5 n6 n7 n8 n9 n10 n11 m0 m1 m2 m3 m4 m5;obtain⟨n0,n1,n2,n3,n4,n5,n6,n7,n8,n9,n10,n11⟩:=BK HB2.out;obtain⟨m0,m1,m2,m3,m4,m5,-⟩:=blk6 HM2.out;go_wp2_with fail;go_ret;exact⟨by first|rfl|(rw[hgx,hgt];rfl)|simp[hgx,hgt],HK2.out⟩
 |true=>
 have HQ:=hid (by have h:=HTH.out W1 HK1.out;rw[hgt]at h;exact h);go_wp2_with fail;go_at_call 52;refine(HQ.out).mono ?_;rintro e W2 ⟨rfl,hk⟩;have HK2:=hid (HK1.out.trans hk);have HB2:=hid (hk.blk HB1.out);have HM2:=hid (hk.blk HM1.out);clear hk;clear n0 n1 n2 n3 n4 n5 n6 n7 n8 n9 n10 n11 m0 m1 m2 m3 m4 m5;obtain⟨n0,n1,n2,n3,n4,n5,n6,n7,n8,n9,n10,n11⟩:=BK HB2.out;obtain⟨m0,m1,m2,m3,m4,m5,-⟩:=blk6 HM2.out;obtain⟨b,hge⟩:∃b,CC els=b:=⟨_,rfl⟩;have HGE:=hid hge;have HQ:=hid (by have h:=HEL.out W2 HK2.out;rw[hge]at h;exact h);clear hge;go_wp2_with fail;go_at_call 52;refine(HQ.out).mono ?_;rintro e W3 ⟨rfl,hk⟩;have HK3:=hid (HK2.out.trans hk);have HB3:=hid (hk.blk HB2.out);have HM3:=hid (hk.blk HM2.out);clear hk;clear n0 n1 n2 n3 n4 n5 n6 n7 n8 n9 n10 n11 m0 m1 m2 m3 m4 m5;obtain⟨n0,n1,n2,n3,n4,n5,n6,n7,n8,n9,n10,n11⟩:=BK HB3.out;obtain⟨m0,m1,m2,m3,m4,m5,-⟩:=blk6 HM3.out;go_wp2_with fail;go_ret;exact⟨by first|(rw[HGE.out];rfl)|(rw[hgx,hgt,HGE.out];rfl)|simp[hgx,hgt,HGE.out],HK3.out⟩
theorem ms_D:MayBy false false true 0 false false (fun op=>op=2∨op=4):=by
 intro k sz op l cl nm val into cont xs thn els hk hn htk hX hTh hEl hcl hlx hlt hle w S vs hT hs;unfold SAt at hs;obtain⟨p1,c1,p2,c2,p3,c3,rfl,hx,ht,he⟩:=hs;obtain⟨r,hr⟩:∃r,(BL false false true 0 false false sz op nm val into cont xs.length thn.length els.length && (DR xs && (CC thn && CC els)))=r:=⟨_,rfl⟩;rw[hr];have HR:=hid hr;have HTKH:=hid htk;clear htk;unfold strV;obtain⟨V,B1,hV,hB1,hb1,hk1,hs1⟩:=BD w (.cells #[.int .i64 k,.string ⟨nm.toArray⟩,.int .i64 sz,.int .i64 op,.string ⟨val.toArray⟩,.string ⟨into.toArray⟩,.string ⟨cont.toArray⟩,.slice p1 xs.length c1,.slice p2 thn.length c2,.slice p3 els.length c3,.int .i64 l,.int .i64 cl] TSm);have HND:=hid (by have h:=needs_any V k op (.string ⟨nm.toArray⟩) (.int .i64 sz) (.string ⟨val.toArray⟩) (.string ⟨into.toArray⟩) (.string ⟨cont.toArray⟩) (.slice p1 xs.length c1) (.slice p2 thn.length c2) (.slice p3 els.length c3) (.int .i64 l) (.int .i64 cl);rw[hn]at h;exact h);unfold nd at HND;have HK:=hid hk1;have HB:=hid hb1;have HT:=hid hT;have HX:=hid (fun W (h:BA (fun _=>False) w W)=>hasM_any mayG xs hX hlx W (h.tabS hT) S p1 c1 (hx.keep h fun _ _ e=>e));have HTH:=hid (fun W (h:BA (fun _=>False) w W)=>CM mayS thn hTh hlt W (h.tabS hT) S p2 c2 (ht.keep h fun _ _ e=>e));have HEL:=hid (fun W (h:BA (fun _=>False) w W)=>CM mayS els hEl hle W (h.tabS hT) S p3 c3 (he.keep h fun _ _ e=>e));rw[mayGL_any]at HX;rw[maySL_any]at HTH HEL;have hk1i:¬k<1:=by omega
 have hk9i:¬9<k:=by omega
 have HNnm:=hid (fun W (h:TabS W)=>by have h:=BW ⟨nm.toArray⟩ W h;rw[show (⟨nm.toArray⟩:ByteArray).data.toList=nm by simp]at h;exact h);have HNval:=hid (fun W (h:TabS W)=>by have h:=BW ⟨val.toArray⟩ W h;rw[show (⟨val.toArray⟩:ByteArray).data.toList=val by simp]at h;exact h);have HNinto:=hid (fun W (h:TabS W)=>by have h:=BW ⟨into.toArray⟩ W h;rw[show (⟨into.toArray⟩:ByteArray).data.toList=into by simp]at h;exact h);have HNcont:=hid (fun W (h:TabS W)=>by have h:=BW ⟨cont.toArray⟩ W h;rw[show (⟨cont.toArray⟩:ByteArray).data.toList=cont by simp]at h;exact h);have HTK:=hid (fun w'=>DV op w');obtain⟨n0,n1,n2,n3,n4,n5,n6,n7,n8,n9,n10,n11⟩:=BK hb1;clear hr hn hX hTh hEl hlx hlt hle hT hx ht he hb1 hk1 hs1;go_enter Tryz.func69,Tryz.ntmps69;go_upto_region 1 with fail;rw[←hV,←hB1];clear hV hB1;go_upto_region 3 with fail;go_wp2_with fail;go_at_call 89;refine HND.out.mono ?_;rintro e V2 ⟨rfl,hk2⟩;obtain⟨W0,B2,hW,hB2,hb2,hk3,hs3⟩:=BD V2 (.cells (nd false false true 0 false false) TNd);unfold nd at hW hb2;have HK0:=hid ((HK.out.trans hk2).trans hk3);have HB0:=hid ((hk2.trans hk3).blk HB.out);have HM0:=hid hb2;clear hk2 hk3 hs3 hb2;go_upto_region 4 with fail;rw[←hW,←hB2];clear hW hB2 n0 n1 n2 n3 n4 n5 n6 n7 n8 n9 n10 n11 hk1i hk9i;obtain⟨n0,n1,n2,n3,n4,n5,n6,n7,n8,n9,n10,n11⟩:=BK HB0.out;obtain⟨m0,m1,m2,m3,m4,m5,-⟩:=blk6 HM0.out;rcases Classical.em (nm=[])with hnm|hnm
 rotate_left
 ·have hb1:(nm==[])=false:=BF.2 hnm;have hb2:(nm != [])=true:=by rw[bne_iff_ne];exact hnm
  have hb3:nm.isEmpty=false:=by simpa using hnm
  have he:r=false:=by rw[←HR.out];simp[BL,hb3]
  subst he;go_wp2_with fail;go_ret;exact⟨rfl,HK0.out⟩
 subst hnm;go_upto_region 7 with fail;rcases Classical.em (sz=0)with hsz|hsz
 rotate_left
 ·have hzb:(sz==0)=false:=by rw[BF];exact hsz
  have he:r=false:=by rw[←HR.out];simp[BL,hzb]
  subst he;go_wp2_with fail;go_ret;exact⟨rfl,HK0.out⟩
 subst hsz;go_upto_region 10 with fail;go_upto_region 12 with fail;rcases Classical.em (1≤op)with ho1|ho1
 rotate_left
 ·have hoi:op<1:=by omega
  have he:r=false:=by rw[←HR.out];simp[BL,ho1]
  subst he;go_wp2_with fail;go_ret;exact⟨rfl,HK0.out⟩
 have ho1i:¬op<1:=by omega
 rcases Classical.em (op≤7)with ho7|ho7
 rotate_left
 ·have hoi:7<op:=by omega
  have he:r=false:=by rw[←HR.out];simp[BL,ho7]
  subst he;go_wp2_with fail;go_ret;exact⟨rfl,HK0.out⟩
 have ho7i:¬7<op:=by omega
 cases hinto:nameB into with
 | false=>
  have HQ:=hid (by have h:=HNinto.out W0 (HK0.out.tabS HT.out);rw[hinto]at h;exact h);have he:r=false:=by rw[←HR.out];simp[BL,hinto]
  subst he;go_wp2_with fail;go_at_call 48;refine(HQ.out).mono ?_;rintro e W1 ⟨rfl,hk⟩;have HK1:=hid (HK0.out.trans hk);have HB1:=hid (hk.blk HB0.out);have HM1:=hid (hk.blk HM0.out);clear hk;clear n0 n1 n2 n3 n4 n5 n6 n7 n8 n9 n10 n11 m0 m1 m2 m3 m4 m5;obtain⟨n0,n1,n2,n3,n4,n5,n6,n7,n8,n9,n10,n11⟩:=BK HB1.out;obtain⟨m0,m1,m2,m3,m4,m5,-⟩:=blk6 HM1.out;go_wp2_with fail;go_ret;exact⟨rfl,HK1.out⟩
 |true=>
 have HQ:=hid (by have h:=HNinto.out W0 (HK0.out.tabS HT.out);rw[hinto]at h;exact h);go_wp2_with fail;go_at_call 48;refine(HQ.out).mono ?_;rintro e W1 ⟨rfl,hk⟩;have HK1:=hid (HK0.out.trans hk);have HB1:=hid (hk.blk HB0.out);have HM1:=hid (hk.blk HM0.out);clear hk;clear n0 n1 n2 n3 n4 n5 n6 n7 n8 n9 n10 n11 m0 m1 m2 m3 m4 m5;obtain⟨n0,n1,n2,n3,n4,n5,n6,n7,n8,n9,n10,n11⟩:=BK HB1.out;obtain⟨m0,m1,m2,m3,m4,m5,-⟩:=blk6 HM1.out
 cases hcont:nameB cont with
 | false=>
  have HQ:=hid (by have h:=HNcont.out W1 (HK1.out.tabS HT.out);rw[hcont]at h;exact h);have he:r=false:=by rw[←HR.out];simp[BL,hcont]
  subst he;go_wp2_with fail;go_at_call 48;refine(HQ.out).mono ?_;rintro e W2 ⟨rfl,hk⟩;have HK2:=hid (HK1.out.trans hk);have HB2:=hid (hk.blk HB1.out);have HM2:=hid (hk.blk HM1.out);clear hk;clear n0 n1 n2 n3 n4 n5 n6 n7 n8 n9 n10 n11 m0 m1 m2 m3 m4 m5;obtain⟨n0,n1,n2,n3,n4,n5,n6,n7,n8,n9,n10,n11⟩:=BK HB2.out;obtain⟨m0,m1,m2,m3,m4,m5,-⟩:=blk6 HM2.out;go_wp2_with fail;go_ret;exact⟨rfl,HK2.out⟩
 |true=>
 have HQ:=hid (by have h:=HNcont.out W1 (HK1.out.tabS HT.out);rw[hcont]at h;exact h);go_wp2_with fail;go_at_call 48;refine(HQ.out).mono ?_;rintro e W2 ⟨rfl,hk⟩;have HK2:=hid (HK1.out.trans hk);have HB2:=hid (hk.blk HB1.out);have HM2:=hid (hk.blk HM1.out);clear hk;clear n0 n1 n2 n3 n4 n5 n6 n7 n8 n9 n10 n11 m0 m1 m2 m3 m4 m5;obtain⟨n0,n1,n2,n3,n4,n5,n6,n7,n8,n9,n10,n11⟩:=BK HB2.out;obtain⟨m0,m1,m2,m3,m4,m5,-⟩:=blk6 HM2.out;go_upto_region 14 with fail;clear ho1i ho7i;have hb:((op==2) || (op==4))=true:=by rcases HTKH.out with h|h<;>subst h<;>rfl
 have HTK2:=hid (fun w'=>by have h:=HTK.out w';rw[hb]at h;exact h);clear hb;go_wp2_with fail;go_at_call 90;refine(HTK2.out _).mono ?_;rintro e w5 ⟨rfl,hw5⟩;obtain rfl:=hw5.symm
 cases hval:nameB val with
 | false=>
  have HQ:=hid (by have h:=HNval.out W2 (HK2.out.tabS HT.out);rw[hval]at h;exact h);have he:r=false:=by have htk:=HTKH.out;rw[←HR.out];simp[BL,hval,htk]
  subst he;go_wp2_with fail;go_at_call 48;refine(HQ.out).mono ?_;rintro e W3 ⟨rfl,hk⟩;have HK3:=hid (HK2.out.trans hk);have HB3:=hid (hk.blk HB2.out);have HM3:=hid (hk.blk HM2.out);clear hk;clear n0 n1 n2 n3 n4 n5 n6 n7 n8 n9 n10 n11 m0 m1 m2 m3 m4 m5;obtain⟨n0,n1,n2,n3,n4,n5,n6,n7,n8,n9,n10,n11⟩:=BK HB3.out;obtain⟨m0,m1,m2,m3,m4,m5,-⟩:=blk6 HM3.out;go_wp2_with fail;go_ret;exact⟨rfl,HK3.out⟩
 |true=>
 have HQ:=hid (by have h:=HNval.out W2 (HK2.out.tabS HT.out);rw[hval]at h;exact h);go_wp2_with fail;go_at_call 48;refine(HQ.out).mono ?_;rintro e W3 ⟨rfl,hk⟩;have HK3:=hid (HK2.out.trans hk);have HB3:=hid (hk.blk HB2.out);have HM3:=hid (hk.blk HM2.out);clear hk;clear n0 n1 n2 n3 n4 n5 n6 n7 n8 n9 n10 n11 m0 m1 m2 m3 m4 m5;obtain⟨n0,n1,n2,n3,n4,n5,n6,n7,n8,n9,n10,n11⟩:=BK HB3.out;obtain⟨m0,m1,m2,m3,m4,m5,-⟩:=blk6 HM3.out;go_wp2_with fail;go_at_call 90;refine(HTK2.out _).mono ?_;rintro e w5 ⟨rfl,hw5⟩;obtain rfl:=hw5.symm;go_upto_region 16 with fail;rcases Classical.em ((xs.length:Int)=0)with hxl|hxl
 rotate_left
 ·have hxb:((xs.length:Int)==0)=false:=by rw[BF];exact hxl
  have he:r=false:=by rw[←HR.out];simp only[BL,hxb,Bool.false_and,Bool.and_false]
  subst he;go_wp2_with fail;go_ret;exact⟨rfl,HK3.out⟩
 have hxb:((xs.length:Int)==0)=true:=by rw[beq_iff_eq];exact hxl
 go_upto_region 17 with fail;rcases Classical.em (thn.length=0)with hthn|hthn
 rotate_left
 ·have hli:(0:Int)<thn.length:=by omega
  have hlb:(thn.length==0)=false:=by rw[BF];exact hthn
  have he:r=false:=by rw[←HR.out];simp only[BL,hlb,Bool.false_or,Bool.false_and,Bool.and_false]
  subst he;go_wp2_with fail;go_ret;exact⟨rfl,HK3.out⟩
 have hthnb:¬(0:Int)<thn.length:=by omega
 have Hthn:=hid hthn;clear hthn;go_upto_region 18 with fail;clear hthnb;rcases Classical.em (els.length=0)with hels|hels
 rotate_left
 ·have hli:(0:Int)<els.length:=by omega
  have hlb:(els.length==0)=false:=by rw[BF];exact hels
  have he:r=false:=by rw[←HR.out];simp only[BL,hlb,Bool.false_or,Bool.false_and,Bool.and_false]
  subst he;go_wp2_with fail;go_ret;exact⟨rfl,HK3.out⟩
 have helsb:¬(0:Int)<els.length:=by omega
 have Hels:=hid hels;clear hels;go_upto_region 20 with fail;clear helsb;have hthn:=Hthn.out;have hels:=Hels.out;have htk:=HTKH.out;have hrr:r=(DR xs && (CC thn && CC els)):=by rw[←HR.out];simp[BL,hxb,ho1,ho7,hinto,hcont,htk,hval,hthn,hels]
 clear hthn;clear hels;clear hxl hxb htk;subst hrr
 cases hgx:DR xs with
 | false=>
  have HQ:=hid (by have h:=HX.out W3 HK3.out;rw[hgx]at h;exact h);go_wp2_with fail;go_at_call 91;refine(HQ.out).mono ?_;rintro e W4 ⟨rfl,hk⟩;have HK4:=hid (HK3.out.trans hk);have HB4:=hid (hk.blk HB3.out);have HM4:=hid (hk.blk HM3.out);clear hk;clear n0 n1 n2 n3 n4 n5 n6 n7 n8 n9 n10 n11 m0 m1 m2 m3 m4 m5;obtain⟨n0,n1,n2,n3,n4,n5,n6,n7,n8,n9,n10,n11⟩:=BK HB4.out;obtain⟨m0,m1,m2,m3,m4,m5,-⟩:=blk6 HM4.out;go_wp2_with fail;go_ret;exact⟨by first|rfl|(rw[hgx];rfl)|simp[hgx],HK4.out⟩
 |true=>
 have HQ:=hid (by have h:=HX.out W3 HK3.out;rw[hgx]at h;exact h);go_wp2_with fail;go_at_call 91;refine(HQ.out).mono ?_;rintro e W4 ⟨rfl,hk⟩;have HK4:=hid (HK3.out.trans hk);have HB4:=hid (hk.blk HB3.out);have HM4:=hid (hk.blk HM3.out);clear hk;clear n0 n1 n2 n3 n4 n5 n6 n7 n8 n9 n10 n11 m0 m1 m2 m3 m4 m5;obtain⟨n0,n1,n2,n3,n4,n5,n6,n7,n8,n9,n10,n11⟩:=BK HB4.out;obtain⟨m0,m1,m2,m3,m4,m5,-⟩:=blk6 HM4.out
 cases hgt:CC thn with
 | false=>
  have HQ:=hid (by have h:=HTH.out W4 HK4.out;rw[hgt]at h;exact h);go_wp2_with fail;go_at_call 52;refine(HQ.out).mono ?_;rintro e W5 ⟨rfl,hk⟩;have HK5:=hid (HK4.out.trans hk);have HB5:=hid (hk.blk HB4.out);have HM5:=hid (hk.blk HM4.out);clear hk;clear n0 n1 n2 n3 n4 n5 n6 n7 n8 n9 n10 n11 m0 m1 m2 m3 m4 m5;obtain⟨n0,n1,n2,n3,n4,n5,n6,n7,n8,n9,n10,n11⟩:=BK HB5.out;obtain⟨m0,m1,m2,m3,m4,m5,-⟩:=blk6 HM5.out;go_wp2_with fail;go_ret;exact⟨by first|rfl|(rw[hgx,hgt];rfl)|simp[hgx,hgt],HK5.out⟩
 |true=>
 have HQ:=hid (by have h:=HTH.out W4 HK4.out;rw[hgt]at h;exact h);go_wp2_with fail;go_at_call 52;refine(HQ.out).mono ?_;rintro e W5 ⟨rfl,hk⟩;have HK5:=hid (HK4.out.trans hk);have HB5:=hid (hk.blk HB4.out);have HM5:=hid (hk.blk HM4.out);clear hk;clear n0 n1 n2 n3 n4 n5 n6 n7 n8 n9 n10 n11 m0 m1 m2 m3 m4 m5;obtain⟨n0,n1,n2,n3,n4,n5,n6,n7,n8,n9,n10,n11⟩:=BK HB5.out;obtain⟨m0,m1,m2,m3,m4,m5,-⟩:=blk6 HM5.out;obtain⟨b,hge⟩:∃b,CC els=b:=⟨_,rfl⟩;have HGE:=hid hge;have HQ:=hid (by have h:=HEL.out W5 HK5.out;rw[hge]at h;exact h);clear hge;go_wp2_with fail;go_at_call 52;refine(HQ.out).mono ?_;rintro e W6 ⟨rfl,hk⟩;have HK6:=hid (HK5.out.trans hk);have HB6:=hid (hk.blk HB5.out);have HM6:=hid (hk.blk HM5.out);clear hk;clear n0 n1 n2 n3 n4 n5 n6 n7 n8 n9 n10 n11 m0 m1 m2 m3 m4 m5;obtain⟨n0,n1,n2,n3,n4,n5,n6,n7,n8,n9,n10,n11⟩:=BK HB6.out;obtain⟨m0,m1,m2,m3,m4,m5,-⟩:=blk6 HM6.out;go_wp2_with fail;go_ret;exact⟨by first|(rw[HGE.out];rfl)|(rw[hgx,hgt,HGE.out];rfl)|simp[hgx,hgt,HGE.out],HK6.out⟩
theorem ms_E:MayBy false false true 1 false false (fun op=>¬(op=2∨op=4)):=by
 intro k sz op l cl nm val into cont xs thn els hk hn htk hX hTh hEl hcl hlx hlt hle w S vs hT hs;unfold SAt at hs;obtain⟨p1,c1,p2,c2,p3,c3,rfl,hx,ht,he⟩:=hs;obtain⟨r,hr⟩:∃r,(BL false false true 1 false false sz op nm val into cont xs.length thn.length els.length && (DR xs && (CC thn && CC els)))=r:=⟨_,rfl⟩;rw[hr];have HR:=hid hr;have HTKH:=hid htk;clear htk;unfold strV;obtain⟨V,B1,hV,hB1,hb1,hk1,hs1⟩:=BD w (.cells #[.int .i64 k,.string ⟨nm.toArray⟩,.int .i64 sz,.int .i64 op,.string ⟨val.toArray⟩,.string ⟨into.toArray⟩,.string ⟨cont.toArray⟩,.slice p1 xs.length c1,.slice p2 thn.length c2,.slice p3 els.length c3,.int .i64 l,.int .i64 cl] TSm);have HND:=hid (by have h:=needs_any V k op (.string ⟨nm.toArray⟩) (.int .i64 sz) (.string ⟨val.toArray⟩) (.string ⟨into.toArray⟩) (.string ⟨cont.toArray⟩) (.slice p1 xs.length c1) (.slice p2 thn.length c2) (.slice p3 els.length c3) (.int .i64 l) (.int .i64 cl);rw[hn]at h;exact h);unfold nd at HND;have HK:=hid hk1;have HB:=hid hb1;have HT:=hid hT;have HX:=hid (fun W (h:BA (fun _=>False) w W)=>hasM_any mayG xs hX hlx W (h.tabS hT) S p1 c1 (hx.keep h fun _ _ e=>e));have HTH:=hid (fun W (h:BA (fun _=>False) w W)=>CM mayS thn hTh hlt W (h.tabS hT) S p2 c2 (ht.keep h fun _ _ e=>e));have HEL:=hid (fun W (h:BA (fun _=>False) w W)=>CM mayS els hEl hle W (h.tabS hT) S p3 c3 (he.keep h fun _ _ e=>e));rw[mayGL_any]at HX;rw[maySL_any]at HTH HEL;have hk1i:¬k<1:=by omega
 have hk9i:¬9<k:=by omega
 have HNnm:=hid (fun W (h:TabS W)=>by have h:=BW ⟨nm.toArray⟩ W h;rw[show (⟨nm.toArray⟩:ByteArray).data.toList=nm by simp]at h;exact h);have HNval:=hid (fun W (h:TabS W)=>by have h:=BW ⟨val.toArray⟩ W h;rw[show (⟨val.toArray⟩:ByteArray).data.toList=val by simp]at h;exact h);have HNinto:=hid (fun W (h:TabS W)=>by have h:=BW ⟨into.toArray⟩ W h;rw[show (⟨into.toArray⟩:ByteArray).data.toList=into by simp]at h;exact h);have HNcont:=hid (fun W (h:TabS W)=>by have h:=BW ⟨cont.toArray⟩ W h;rw[show (⟨cont.toArray⟩:ByteArray).data.toList=cont by simp]at h;exact h);have HTK:=hid (fun w'=>DV op w');obtain⟨n0,n1,n2,n3,n4,n5,n6,n7,n8,n9,n10,n11⟩:=BK hb1;clear hr hn hX hTh hEl hlx hlt hle hT hx ht he hb1 hk1 hs1;go_enter Tryz.func69,Tryz.ntmps69;go_upto_region 1 with fail;rw[←hV,←hB1];clear hV hB1;go_upto_region 3 with fail;go_wp2_with fail;go_at_call 89;refine HND.out.mono ?_;rintro e V2 ⟨rfl,hk2⟩;obtain⟨W0,B2,hW,hB2,hb2,hk3,hs3⟩:=BD V2 (.cells (nd false false true 1 false false) TNd);unfold nd at hW hb2;have HK0:=hid ((HK.out.trans hk2).trans hk3);have HB0:=hid ((hk2.trans hk3).blk HB.out);have HM0:=hid hb2;clear hk2 hk3 hs3 hb2;go_upto_region 4 with fail;rw[←hW,←hB2];clear hW hB2 n0 n1 n2 n3 n4 n5 n6 n7 n8 n9 n10 n11 hk1i hk9i;obtain⟨n0,n1,n2,n3,n4,n5,n6,n7,n8,n9,n10,n11⟩:=BK HB0.out;obtain⟨m0,m1,m2,m3,m4,m5,-⟩:=blk6 HM0.out;rcases Classical.em (nm=[])with hnm|hnm
 rotate_left
 ·have hb1:(nm==[])=false:=BF.2 hnm;have hb2:(nm != [])=true:=by rw[bne_iff_ne];exact hnm
  have hb3:nm.isEmpty=false:=by simpa using hnm
  have he:r=false:=by rw[←HR.out];simp[BL,hb3]
  subst he;go_wp2_with fail;go_ret;exact⟨rfl,HK0.out⟩
 subst hnm;go_upto_region 7 with fail;rcases Classical.em (sz=0)with hsz|hsz
 rotate_left
 ·have hzb:(sz==0)=false:=by rw[BF];exact hsz
  have he:r=false:=by rw[←HR.out];simp[BL,hzb]
  subst he;go_wp2_with fail;go_ret;exact⟨rfl,HK0.out⟩
 subst hsz;go_upto_region 10 with fail;go_upto_region 12 with fail;rcases Classical.em (1≤op)with ho1|ho1
 rotate_left
 ·have hoi:op<1:=by omega
  have he:r=false:=by rw[←HR.out];simp[BL,ho1]
  subst he;go_wp2_with fail;go_ret;exact⟨rfl,HK0.out⟩
 have ho1i:¬op<1:=by omega
 rcases Classical.em (op≤7)with ho7|ho7
 rotate_left
 ·have hoi:7<op:=by omega
  have he:r=false:=by rw[←HR.out];simp[BL,ho7]
  subst he;go_wp2_with fail;go_ret;exact⟨rfl,HK0.out⟩
 have ho7i:¬7<op:=by omega
 cases hinto:nameB into with
 | false=>
  have HQ:=hid (by have h:=HNinto.out W0 (HK0.out.tabS HT.out);rw[hinto]at h;exact h);have he:r=false:=by rw[←HR.out];simp[BL,hinto]
  subst he;go_wp2_with fail;go_at_call 48;refine(HQ.out).mono ?_;rintro e W1 ⟨rfl,hk⟩;have HK1:=hid (HK0.out.trans hk);have HB1:=hid (hk.blk HB0.out);have HM1:=hid (hk.blk HM0.out);clear hk;clear n0 n1 n2 n3 n4 n5 n6 n7 n8 n9 n10 n11 m0 m1 m2 m3 m4 m5;obtain⟨n0,n1,n2,n3,n4,n5,n6,n7,n8,n9,n10,n11⟩:=BK HB1.out;obtain⟨m0,m1,m2,m3,m4,m5,-⟩:=blk6 HM1.out;go_wp2_with fail;go_ret;exact⟨rfl,HK1.out⟩
 |true=>
 have HQ:=hid (by have h:=HNinto.out W0 (HK0.out.tabS HT.out);rw[hinto]at h;exact h);go_wp2_with fail;go_at_call 48;refine(HQ.out).mono ?_;rintro e W1 ⟨rfl,hk⟩;have HK1:=hid (HK0.out.trans hk);have HB1:=hid (hk.blk HB0.out);have HM1:=hid (hk.blk HM0.out);clear hk;clear n0 n1 n2 n3 n4 n5 n6 n7 n8 n9 n10 n11 m0 m1 m2 m3 m4 m5;obtain⟨n0,n1,n2,n3,n4,n5,n6,n7,n8,n9,n10,n11⟩:=BK HB1.out;obtain⟨m0,m1,m2,m3,m4,m5,-⟩:=blk6 HM1.out
 cases hcont:nameB cont with
 | false=>
  have HQ:=hid (by have h:=HNcont.out W1 (HK1.out.tabS HT.out);rw[hcont]at h;exact h);have he:r=false:=by rw[←HR.out];simp[BL,hcont]
  subst he;go_wp2_with fail;go_at_call 48;refine(HQ.out).mono ?_;rintro e W2 ⟨rfl,hk⟩;have HK2:=hid (HK1.out.trans hk);have HB2:=hid (hk.blk HB1.out);have HM2:=hid (hk.blk HM1.out);clear hk;clear n0 n1 n2 n3 n4 n5 n6 n7 n8 n9 n10 n11 m0 m1 m2 m3 m4 m5;obtain⟨n0,n1,n2,n3,n4,n5,n6,n7,n8,n9,n10,n11⟩:=BK HB2.out;obtain⟨m0,m1,m2,m3,m4,m5,-⟩:=blk6 HM2.out;go_wp2_with fail;go_ret;exact⟨rfl,HK2.out⟩
 |true=>
 have HQ:=hid (by have h:=HNcont.out W1 (HK1.out.tabS HT.out);rw[hcont]at h;exact h);go_wp2_with fail;go_at_call 48;refine(HQ.out).mono ?_;rintro e W2 ⟨rfl,hk⟩;have HK2:=hid (HK1.out.trans hk);have HB2:=hid (hk.blk HB1.out);have HM2:=hid (hk.blk HM1.out);clear hk;clear n0 n1 n2 n3 n4 n5 n6 n7 n8 n9 n10 n11 m0 m1 m2 m3 m4 m5;obtain⟨n0,n1,n2,n3,n4,n5,n6,n7,n8,n9,n10,n11⟩:=BK HB2.out;obtain⟨m0,m1,m2,m3,m4,m5,-⟩:=blk6 HM2.out;go_upto_region 14 with fail;clear ho1i ho7i;have hb:((op==2) || (op==4))=false:=by have htk:=HTKH.out;rw[Bool.or_eq_false_iff,BF,BF];omega
 have HTK2:=hid (fun w'=>by have h:=HTK.out w';rw[hb]at h;exact h);clear hb;go_wp2_with fail;go_at_call 90;refine(HTK2.out _).mono ?_;rintro e w5 ⟨rfl,hw5⟩;obtain rfl:=hw5.symm;go_wp2_with fail;go_at_call 90;refine(HTK2.out _).mono ?_;rintro e w5 ⟨rfl,hw5⟩;obtain rfl:=hw5.symm;rcases Classical.em (val=[])with hval|hval
 rotate_left
 ·have hb1:(val==[])=false:=BF.2 hval;have hb2:(val != [])=true:=by rw[bne_iff_ne];exact hval
  have hb3:val.isEmpty=false:=by simpa using hval
  have he:r=false:=by rw[←HR.out];have htk:=HTKH.out;simp[BL,hb3,htk]
  subst he;go_wp2_with fail;go_ret;exact⟨rfl,HK2.out⟩
 subst hval;go_upto_region 16 with fail;rcases Classical.em ((xs.length:Int)=1)with hxl|hxl
 rotate_left
 ·have hxb:((xs.length:Int)==1)=false:=by rw[BF];exact hxl
  have he:r=false:=by rw[←HR.out];simp only[BL,hxb,Bool.false_and,Bool.and_false]
  subst he;go_wp2_with fail;go_ret;exact⟨rfl,HK2.out⟩
 have hxb:((xs.length:Int)==1)=true:=by rw[beq_iff_eq];exact hxl
 go_upto_region 17 with fail;rcases Classical.em (thn.length=0)with hthn|hthn
 rotate_left
 ·have hli:(0:Int)<thn.length:=by omega
  have hlb:(thn.length==0)=false:=by rw[BF];exact hthn
  have he:r=false:=by rw[←HR.out];simp only[BL,hlb,Bool.false_or,Bool.false_and,Bool.and_false]
  subst he;go_wp2_with fail;go_ret;exact⟨rfl,HK2.out⟩
 have hthnb:¬(0:Int)<thn.length:=by omega
 have Hthn:=hid hthn;clear hthn;go_upto_region 18 with fail;clear hthnb;rcases Classical.em (els.length=0)with hels|hels
 rotate_left
 ·have hli:(0:Int)<els.length:=by omega
  have hlb:(els.length==0)=false:=by rw[BF];exact hels
  have he:r=false:=by rw[←HR.out];simp only[BL,hlb,Bool.false_or,Bool.false_and,Bool.and_false]
  subst he;go_wp2_with fail;go_ret;exact⟨rfl,HK2.out⟩
 have helsb:¬(0:Int)<els.length:=by omega
 have Hels:=hid hels;clear hels;go_upto_region 20 with fail;clear helsb;have hthn:=Hthn.out;have hels:=Hels.out;have htk:=HTKH.out;have hrr:r=(DR xs && (CC thn && CC els)):=by rw[←HR.out];simp[BL,hxb,ho1,ho7,hinto,hcont,htk,hthn,hels]
 clear hthn;clear hels;clear hxl hxb htk;subst hrr
 cases hgx:DR xs with
 | false=>
  have HQ:=hid (by have h:=HX.out W2 HK2.out;rw[hgx]at h;exact h);go_wp2_with fail;go_at_call 91;refine(HQ.out).mono ?_;rintro e W3 ⟨rfl,hk⟩;have HK3:=hid (HK2.out.trans hk);have HB3:=hid (hk.blk HB2.out);have HM3:=hid (hk.blk HM2.out);clear hk;clear n0 n1 n2 n3 n4 n5 n6 n7 n8 n9 n10 n11 m0 m1 m2 m3 m4 m5;obtain⟨n0,n1,n2,n3,n4,n5,n6,n7,n8,n9,n10,n11⟩:=BK HB3.out;obtain⟨m0,m1,m2,m3,m4,m5,-⟩:=blk6 HM3.out;go_wp2_with fail;go_ret;exact⟨by first|rfl|(rw[hgx];rfl)|simp[hgx],HK3.out⟩
 |true=>
 have HQ:=hid (by have h:=HX.out W2 HK2.out;rw[hgx]at h;exact h);go_wp2_with fail;go_at_call 91;refine(HQ.out).mono ?_;rintro e W3 ⟨rfl,hk⟩;have HK3:=hid (HK2.out.trans hk);have HB3:=hid (hk.blk HB2.out);have HM3:=hid (hk.blk HM2.out);clear hk;clear n0 n1 n2 n3 n4 n5 n6 n7 n8 n9 n10 n11 m0 m1 m2 m3 m4 m5;obtain⟨n0,n1,n2,n3,n4,n5,n6,n7,n8,n9,n10,n11⟩:=BK HB3.out;obtain⟨m0,m1,m2,m3,m4,m5,-⟩:=blk6 HM3.out
 cases hgt:CC thn with
 | false=>
  have HQ:=hid (by have h:=HTH.out W3 HK3.out;rw[hgt]at h;exact h);go_wp2_with fail;go_at_call 52;refine(HQ.out).mono ?_;rintro e W4 ⟨rfl,hk⟩;have HK4:=hid (HK3.out.trans hk);have HB4:=hid (hk.blk HB3.out);have HM4:=hid (hk.blk HM3.out);clear hk;clear n0 n1 n2 n3 n4 n5 n6 n7 n8 n9 n10 n11 m0 m1 m2 m3 m4 m5;obtain⟨n0,n1,n2,n3,n4,n5,n6,n7,n8,n9,n10,n11⟩:=BK HB4.out;obtain⟨m0,m1,m2,m3,m4,m5,-⟩:=blk6 HM4.out;go_wp2_with fail;go_ret;exact⟨by first|rfl|(rw[hgx,hgt];rfl)|simp[hgx,hgt],HK4.out⟩
 |true=>
 have HQ:=hid (by have h:=HTH.out W3 HK3.out;rw[hgt]at h;exact h);go_wp2_with fail;go_at_call 52;refine(HQ.out).mono ?_;rintro e W4 ⟨rfl,hk⟩;have HK4:=hid (HK3.out.trans hk);have HB4:=hid (hk.blk HB3.out);have HM4:=hid (hk.blk HM3.out);clear hk;clear n0 n1 n2 n3 n4 n5 n6 n7 n8 n9 n10 n11 m0 m1 m2 m3 m4 m5;obtain⟨n0,n1,n2,n3,n4,n5,n6,n7,n8,n9,n10,n11⟩:=BK HB4.out;obtain⟨m0,m1,m2,m3,m4,m5,-⟩:=blk6 HM4.out;obtain⟨b,hge⟩:∃b,CC els=b:=⟨_,rfl⟩;have HGE:=hid hge;have HQ:=hid (by have h:=HEL.out W4 HK4.out;rw[hge]at h;exact h);clear hge;go_wp2_with fail;go_at_call 52;refine(HQ.out).mono ?_;rintro e W5 ⟨rfl,hk⟩;have HK5:=hid (HK4.out.trans hk);have HB5:=hid (hk.blk HB4.out);have HM5:=hid (hk.blk HM4.out);clear hk;clear n0 n1 n2 n3 n4 n5 n6 n7 n8 n9 n10 n11 m0 m1 m2 m3 m4 m5;obtain⟨n0,n1,n2,n3,n4,n5,n6,n7,n8,n9,n10,n11⟩:=BK HB5.out;obtain⟨m0,m1,m2,m3,m4,m5,-⟩:=blk6 HM5.out;go_wp2_with fail;go_ret;exact⟨by first|(rw[HGE.out];rfl)|(rw[hgx,hgt,HGE.out];rfl)|simp[hgx,hgt,HGE.out],HK5.out⟩
end Go.Proofs.YtknnmidnodeanaaGreatDoor
