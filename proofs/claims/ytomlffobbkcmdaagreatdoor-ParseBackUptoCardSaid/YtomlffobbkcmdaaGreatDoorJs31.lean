import Derived.Test.YtomlffobbkcmdaaGreatDoorJs30
set_option maxHeartbeats 32000000
set_option maxRecDepth 4000
namespace Go.Proofs.YtomlffobbkcmdaaGreatDoor
open Go Go.RowKit Own
open Go.Lib (hid)
inductive MayS:Gs→Prop where
 |var (nm:List UInt8) (x:Gx) (a b:Int):CV nm=true→mayG x=true→MayS (.mk 1 nm 0 0 [] [] [] [x] [] [] a b)
 |set (nm:List UInt8) (x:Gx) (a b:Int):CV nm=true→mayG x=true→MayS (.mk 3 nm 0 0 [] [] [] [x] [] [] a b)
 |array (nm:List UInt8) (sz a b:Int):CV nm=true→0≤sz→MayS (.mk 2 nm sz 0 [] [] [] [] [] [] a b)
 |put (nm:List UInt8) (x y:Gx) (a b:Int):CV nm=true→mayG x=true→mayG y=true→MayS (.mk 4 nm 0 0 [] [] [] [x,y] [] [] a b)
 |ifs (x:Gx) (thn els:List Gs) (a b:Int):mayG x=true→BX thn=true→BX els=true→MayS (.mk 5 [] 0 0 [] [] [] [x] thn els a b)
 |whil (x:Gx) (thn:List Gs) (a b:Int):mayG x=true→BX thn=true→MayS (.mk 6 [] 0 0 [] [] [] [x] thn [] a b)
 |out (x:Gx) (a b:Int):mayG x=true→MayS (.mk 7 [] 0 0 [] [] [] [x] [] [] a b)
 |halt (x:Gx) (a b:Int):mayG x=true→MayS (.mk 8 [] 0 0 [] [] [] [x] [] [] a b)
 |pop (op:Int) (val into cont:List UInt8) (a b:Int):(op=2∨op=4)→CV val=true→CV into=true→CV cont=true→MayS (.mk 9 [] 0 op val into cont [] [] [] a b)
 |call (op:Int) (into cont:List UInt8) (x:Gx) (a b:Int):(1≤op∧op≤7)→¬(op=2∨op=4)→CV into=true→CV cont=true→mayG x=true→MayS (.mk 9 [] 0 op [] into cont [x] [] [] a b)
theorem fieldsB_iff {nn ns nc nt ne:Bool}{nx:Nat}{sz op:Int}{nm val into cont:List UInt8}{x t e:Nat}(h:BK nn ns nc nx nt ne sz op nm val into cont x t e=true):
  (if nn=true then CV nm=true else nm=[])∧(ns=true∨sz=0)∧0≤sz∧(if nc=true then (1≤op∧op≤7)∧CV into=true∧CV cont=true∧(if op=2∨op=4 then CV val=true else val=[]) else op=0∧val=[]∧into=[]∧cont=[])∧x=nx∧(nt=true∨t=0)∧(ne=true∨e=0):=by
 unfold BK at h
 simp only[Bool.and_eq_true,Bool.or_eq_true,beq_iff_eq,decide_eq_true_eq]at h
 obtain⟨h1,h2,h3,h4,h5,h6,h7⟩:=h
 refine⟨?_,h2,h3,?_,by omega,h6,h7⟩
 ·cases nn
  ·simpa using h1
  ·simpa using h1
 ·cases nc
  ·simpa using h4
  ·rw[if_pos rfl]at h4 ⊢
   simp only[Bool.and_eq_true,decide_eq_true_eq]at h4
   obtain⟨a1,a2,a3,a4,a5⟩:=h4
   refine⟨⟨a1,a2⟩,a3,a4,?_⟩
   by_cases ht:op=2∨op=4
   ·rw[if_pos ht]at a5 ⊢;exact a5
   ·rw[if_neg ht]at a5 ⊢;simpa using a5
theorem len_0 {α:Type}{l:List α}(h:l.length=0):l=[]:=List.eq_nil_of_length_eq_zero h
theorem len_1 {α:Type}{l:List α}(h:l.length=1):∃x,l=[x]:=by
 match l,h with
 |[x],_=>exact⟨x,rfl⟩
theorem len_2 {α:Type}{l:List α}(h:l.length=2):∃x y,l=[x,y]:=by
 match l,h with
 |[x,y],_=>exact⟨x,y,rfl⟩
theorem mayGL_1 {x:Gx}(h:CR [x]=true):mayG x=true:=by
 unfold CR at h
 rw[Bool.and_eq_true]at h
 exact h.1
theorem mayS_iff (s:Gs)(h:mayS s=true):MayS s:=by
 obtain⟨k,nm,sz,op,val,into,cont,xs,thn,els,a,b⟩:=s
 unfold mayS at h
 simp only[Bool.and_eq_true,decide_eq_true_eq]at h
 obtain⟨k1,k9,hf,hx,ht,he⟩:=h
 unfold GF at hf
 split at hf
 ·rename_i h13
  obtain⟨h1,h2,-,h4,h5,h6,h7⟩:=fieldsB_iff (nx:=1) hf
  rw[if_pos rfl]at h1
  rw[if_neg NT]at h4
  obtain⟨rfl,rfl,rfl,rfl⟩:=h4
  obtain rfl:sz=0:=by simpa using h2
  obtain⟨x,rfl⟩:=len_1 h5
  obtain rfl:=len_0 (show thn.length=0 by simpa using h6)
  obtain rfl:=len_0 (show els.length=0 by simpa using h7)
  rcases h13 with rfl|rfl
  ·exact .var nm x a b h1 (mayGL_1 hx)
  ·exact .set nm x a b h1 (mayGL_1 hx)
 rename_i h13
 split at hf
 ·rename_i k2
  subst k2
  obtain⟨h1,-,h3,h4,h5,h6,h7⟩:=fieldsB_iff (nx:=0) hf
  rw[if_pos rfl]at h1
  rw[if_neg NT]at h4
  obtain⟨rfl,rfl,rfl,rfl⟩:=h4
  obtain rfl:=len_0 h5
  obtain rfl:=len_0 (show thn.length=0 by simpa using h6)
  obtain rfl:=len_0 (show els.length=0 by simpa using h7)
  exact .array nm sz a b h1 h3
 rename_i k2
 split at hf
 ·rename_i k4
  subst k4
  obtain⟨h1,h2,-,h4,h5,h6,h7⟩:=fieldsB_iff (nx:=2) hf
  rw[if_pos rfl]at h1
  rw[if_neg NT]at h4
  obtain⟨rfl,rfl,rfl,rfl⟩:=h4
  obtain rfl:sz=0:=by simpa using h2
  obtain⟨x,y,rfl⟩:=len_2 h5
  obtain rfl:=len_0 (show thn.length=0 by simpa using h6)
  obtain rfl:=len_0 (show els.length=0 by simpa using h7)
  unfold CR at hx
  rw[Bool.and_eq_true]at hx
  exact .put nm x y a b h1 hx.1 (mayGL_1 hx.2)
 rename_i k4
 split at hf
 ·rename_i k5
  subst k5
  obtain⟨h1,h2,-,h4,h5,-,-⟩:=fieldsB_iff (nx:=1) hf
  rw[if_neg NT]at h1 h4
  subst h1
  obtain⟨rfl,rfl,rfl,rfl⟩:=h4
  obtain rfl:sz=0:=by simpa using h2
  obtain⟨x,rfl⟩:=len_1 h5
  exact .ifs x thn els a b (mayGL_1 hx) ht he
 rename_i k5
 split at hf
 ·rename_i k6
  subst k6
  obtain⟨h1,h2,-,h4,h5,-,h7⟩:=fieldsB_iff (nx:=1) hf
  rw[if_neg NT]at h1 h4
  subst h1
  obtain⟨rfl,rfl,rfl,rfl⟩:=h4
  obtain rfl:sz=0:=by simpa using h2
  obtain⟨x,rfl⟩:=len_1 h5
  obtain rfl:=len_0 (show els.length=0 by simpa using h7)
  exact .whil x thn a b (mayGL_1 hx) ht
 rename_i k6
 split at hf
 ·rename_i k9
  subst k9
  split at hf
  ·rename_i hop
   obtain⟨h1,h2,-,h4,h5,h6,h7⟩:=fieldsB_iff (nx:=0) hf
   rw[if_neg NT]at h1
   subst h1
   rw[if_pos rfl,if_pos hop]at h4
   obtain⟨-,h41,h42,h43⟩:=h4
   obtain rfl:sz=0:=by simpa using h2
   obtain rfl:=len_0 h5
   obtain rfl:=len_0 (show thn.length=0 by simpa using h6)
   obtain rfl:=len_0 (show els.length=0 by simpa using h7)
   exact .pop op val into cont a b hop h43 h41 h42
  ·rename_i hop
   obtain⟨h1,h2,-,h4,h5,h6,h7⟩:=fieldsB_iff (nx:=1) hf
   rw[if_neg NT]at h1
   subst h1
   rw[if_pos rfl,if_neg hop]at h4
   obtain⟨h40,h41,h42,rfl⟩:=h4
   obtain rfl:sz=0:=by simpa using h2
   obtain⟨x,rfl⟩:=len_1 h5
   obtain rfl:=len_0 (show thn.length=0 by simpa using h6)
   obtain rfl:=len_0 (show els.length=0 by simpa using h7)
   exact .call op into cont x a b h40 hop h41 h42 (mayGL_1 hx)
 rename_i k9
 obtain⟨h1,h2,-,h4,h5,h6,h7⟩:=fieldsB_iff (nx:=1) hf
 rw[if_neg NT]at h1 h4
 subst h1
 obtain⟨rfl,rfl,rfl,rfl⟩:=h4
 obtain rfl:sz=0:=by simpa using h2
 obtain⟨x,rfl⟩:=len_1 h5
 obtain rfl:=len_0 (show thn.length=0 by simpa using h6)
 obtain rfl:=len_0 (show els.length=0 by simpa using h7)
 rcases (show k=7∨k=8 by omega)with rfl|rfl
 ·exact .out x a b (mayGL_1 hx)
 ·exact .halt x a b (mayGL_1 hx)
def callT (op:Int)(val into cont:List UInt8)(xs:List Gx):List (List UInt8):=
 (if op=2∨op=4 then [val,[44]] else [])++([into,[61],opL.getD op.toNat [],[40],cont]++((if op=2∨op=4 then [] else [44]::tokA xs)++[[41]]))
mutual
def tokS:Gs→List (List UInt8)
 | .mk k nm sz op val into cont xs thn els _ _=>
  if k=5∨k=6 then [if k=5 then [105,102] else [119,104,105,108,101]]++(tokA xs++([[123]]++(FH thn++([[125]]++elsT els))))
  else if k=1 then [[118,97,114],nm,[61]]++(tokA xs++[[59]])
  else if k=3 then [nm,[61]]++(tokA xs++[[59]])
  else if k=2 then [[97,114,114,97,121],nm,[91]]++([Lib.itoa sz]++([[93]]++[[59]]))
  else if k=4 then [nm,[91]]++(tokA xs++([[93],[61]]++(tokA xs.tail++[[59]])))
  else if k=7 then [[111,117,116]]++(tokA xs++[[59]])
  else if k=8 then [[104,97,108,116]]++(tokA xs++[[59]])
  else callT op val into cont xs++[[59]]
def elsT:List Gs→List (List UInt8)
 |[]=>[]
 |x::l=>[[101,108,115,101]]++([[123]]++(tokS x++(FH l++[[125]])))
def FH:List Gs→List (List UInt8)
 |[]=>[]
 |s::l=>tokS s++FH l
end
theorem elsT_cons (x:Gs)(l:List Gs):elsT (x::l)=[[101,108,115,101]]++([[123]]++(FH (x::l)++[[125]])):=by
 unfold elsT
 conv=>rhs;unfold FH
 simp only[List.append_assoc]
def FT (l:List Gs):List (List UInt8):=[[123]]++(FH l++[[125]])
def tokCt (c:Gc):List (List UInt8):=[DE.getD c.kind.toNat [],c.name,[59]]
def tokP (p:Gp):List (List UInt8):=[[112,111,111,108]]++([Lib.itoa p.pool]++([[59]]++(p.conts.flatMap tokCt++p.threads.flatMap fun l=>[[116,104,114,101,97,100]]++FT l)))
mutual
def fitN:Gs→Prop
 |.mk _ _ sz _ _ _ _ xs thn els _ _=>sz≤9223372036854775807∧DU xs∧DT thn∧DT els
def DT:List Gs→Prop
 |[]=>True
 |s::l=>fitN s∧DT l
end
theorem fitNL_get:∀{l:List Gs},DT l→∀i (h:i<l.length),fitN l[i]
 |[],_,i,h=>absurd h (by simp)
 |s::l,hf,0,_=>by unfold DT at hf;exact hf.1
 |s::l,hf,i+1,h=>by unfold DT at hf;exact fitNL_get hf.2 i (by simpa using h)
theorem maySL_get:∀{l:List Gs},BX l=true→∀i (h:i<l.length),mayS l[i]=true
 |[],_,i,h=>absurd h (by simp)
 |s::l,hf,0,_=>by unfold BX at hf;rw[Bool.and_eq_true]at hf;exact hf.1
 |s::l,hf,i+1,h=>by unfold BX at hf;rw[Bool.and_eq_true]at hf;exact maySL_get hf.2 i (by simpa using h)
theorem ms_A1:MayBy true false false 1 false false (fun _=>True):=by
 intro k sz op l cl nm val into cont xs thn els hk hn htk hX hTh hEl hcl hlx hlt hle w S vs hT hs
 unfold SAt at hs
 obtain⟨p1,c1,p2,c2,p3,c3,rfl,hx,ht,he⟩:=hs
 obtain⟨r,hr⟩:∃r,(BK true false false 1 false false sz op nm val into cont xs.length thn.length els.length && (CR xs && (BX thn && BX els)))=r:=⟨_,rfl⟩
 rw[hr]
 have HR:=hid hr;have HTKH:=hid htk
 clear htk
 unfold strV
 obtain⟨V,B1,hV,hB1,hb1,hk1,hs1⟩:=BC w (.cells #[.int .i64 k,.string ⟨nm.toArray⟩,.int .i64 sz,.int .i64 op,.string ⟨val.toArray⟩,.string ⟨into.toArray⟩,.string ⟨cont.toArray⟩,.slice p1 xs.length c1,.slice p2 thn.length c2,.slice p3 els.length c3,.int .i64 l,.int .i64 cl] TSm)
 have HND:=hid (by have h:=needs_any V k op (.string ⟨nm.toArray⟩) (.int .i64 sz) (.string ⟨val.toArray⟩) (.string ⟨into.toArray⟩) (.string ⟨cont.toArray⟩) (.slice p1 xs.length c1) (.slice p2 thn.length c2) (.slice p3 els.length c3) (.int .i64 l) (.int .i64 cl);rw[hn]at h;exact h)
 unfold nd at HND
 have HK:=hid hk1;have HB:=hid hb1;have HT:=hid hT
 have HX:=hid (fun W (h:BA (fun _=>False) w W)=>hasM_any mayG xs hX hlx W (h.tabS hT) S p1 c1 (hx.keep h fun _ _ e=>e))
 have HTH:=hid (fun W (h:BA (fun _=>False) w W)=>CT mayS thn hTh hlt W (h.tabS hT) S p2 c2 (ht.keep h fun _ _ e=>e))
 have HEL:=hid (fun W (h:BA (fun _=>False) w W)=>CT mayS els hEl hle W (h.tabS hT) S p3 c3 (he.keep h fun _ _ e=>e))
 rw[mayGL_any]at HX
 rw[maySL_any]at HTH HEL
 have hk1i:¬k<1:=by omega
 have hk9i:¬9<k:=by omega
 have HNnm:=hid (fun W (h:TabS W)=>by have h:=CA ⟨nm.toArray⟩ W h;rw[show (⟨nm.toArray⟩:ByteArray).data.toList=nm by simp]at h;exact h)
 have HNval:=hid (fun W (h:TabS W)=>by have h:=CA ⟨val.toArray⟩ W h;rw[show (⟨val.toArray⟩:ByteArray).data.toList=val by simp]at h;exact h)
 have HNinto:=hid (fun W (h:TabS W)=>by have h:=CA ⟨into.toArray⟩ W h;rw[show (⟨into.toArray⟩:ByteArray).data.toList=into by simp]at h;exact h)
 have HNcont:=hid (fun W (h:TabS W)=>by have h:=CA ⟨cont.toArray⟩ W h;rw[show (⟨cont.toArray⟩:ByteArray).data.toList=cont by simp]at h;exact h)
 have HTK:=hid (fun w'=>DS op w')
 obtain⟨n0,n1,n2,n3,n4,n5,n6,n7,n8,n9,n10,n11⟩:=BH hb1
 clear hr hn hX hTh hEl hlx hlt hle hT hx ht he hb1 hk1 hs1
 go_enter Tryz.func93,Tryz.ntmps93
 go_upto_region 1 with fail
 rw[←hV,←hB1]
 clear hV hB1
 go_upto_region 3 with fail
 go_wp2_with fail
 go_at_call 112
 refine HND.out.mono ?_
 rintro e V2 ⟨rfl,hk2⟩
 obtain⟨W0,B2,hW,hB2,hb2,hk3,hs3⟩:=BC V2 (.cells (nd true false false 1 false false) TNd)
 unfold nd at hW hb2
 have HK0:=hid ((HK.out.trans hk2).trans hk3);have HB0:=hid ((hk2.trans hk3).blk HB.out);have HM0:=hid hb2
 clear hk2 hk3 hs3 hb2
 go_upto_region 4 with fail
 rw[←hW,←hB2]
 clear hW hB2 n0 n1 n2 n3 n4 n5 n6 n7 n8 n9 n10 n11 hk1i hk9i
 obtain⟨n0,n1,n2,n3,n4,n5,n6,n7,n8,n9,n10,n11⟩:=BH HB0.out
 obtain⟨m0,m1,m2,m3,m4,m5,-⟩:=blk6 HM0.out
 cases hnm:CV nm with
 | false=>
  have HQ:=hid (by have h:=HNnm.out W0 (HK0.out.tabS HT.out);rw[hnm]at h;exact h)
  have he:r=false:=by rw[←HR.out];simp[BK,hnm]
  subst he
  go_wp2_with fail
  go_at_call 45
  refine(HQ.out).mono ?_
  rintro e W1 ⟨rfl,hk⟩
  have HK1:=hid (HK0.out.trans hk);have HB1:=hid (hk.blk HB0.out);have HM1:=hid (hk.blk HM0.out)
  clear hk
  clear n0 n1 n2 n3 n4 n5 n6 n7 n8 n9 n10 n11 m0 m1 m2 m3 m4 m5
  obtain⟨n0,n1,n2,n3,n4,n5,n6,n7,n8,n9,n10,n11⟩:=BH HB1.out
  obtain⟨m0,m1,m2,m3,m4,m5,-⟩:=blk6 HM1.out
  go_wp2_with fail
  go_ret
  exact⟨rfl,HK1.out⟩
 |true=>
 have HQ:=hid (by have h:=HNnm.out W0 (HK0.out.tabS HT.out);rw[hnm]at h;exact h)
 go_wp2_with fail
 go_at_call 45
 refine(HQ.out).mono ?_
 rintro e W1 ⟨rfl,hk⟩
 have HK1:=hid (HK0.out.trans hk);have HB1:=hid (hk.blk HB0.out);have HM1:=hid (hk.blk HM0.out)
 clear hk
 clear n0 n1 n2 n3 n4 n5 n6 n7 n8 n9 n10 n11 m0 m1 m2 m3 m4 m5
 obtain⟨n0,n1,n2,n3,n4,n5,n6,n7,n8,n9,n10,n11⟩:=BH HB1.out
 obtain⟨m0,m1,m2,m3,m4,m5,-⟩:=blk6 HM1.out
 go_upto_region 7 with fail
 rcases Classical.em (sz=0)with hsz|hsz
 rotate_left
 ·have hzb:(sz==0)=false:=by rw[BF];exact hsz
  have he:r=false:=by rw[←HR.out];simp[BK,hzb]
  subst he
  go_wp2_with fail
  go_ret
  exact⟨rfl,HK1.out⟩
 subst hsz
 go_upto_region 10 with fail
 rcases Classical.em (op=0)with hop|hop
 rotate_left
 ·have hob:(op==0)=false:=by rw[BF];exact hop
  have he:r=false:=by rw[←HR.out];simp[BK,hob]
  subst he
  go_wp2_with fail
  go_ret
  exact⟨rfl,HK1.out⟩
 subst hop
 have hl1:¬9223372036854775807<val.length+into.length:=by omega
 have hl2:¬9223372036854775807<val.length+into.length+cont.length:=by omega
 rcases Classical.em ((val.isEmpty && (into.isEmpty && cont.isEmpty))=true)with hcat|hcat
 rotate_left
 ·have hcc:=catE val into cont
  rw[Bool.eq_false_iff.2 hcat]at hcc
  simp only[Bool.not_false]at hcc
  have he:r=false:=by rw[←HR.out];have h9:(val.isEmpty && (into.isEmpty && cont.isEmpty))=false:=Bool.eq_false_iff.2 hcat;unfold BK;rw[h9];simp
  subst he
  go_wp2_with fail
  go_ret
  exact⟨rfl,HK1.out⟩
 have hcc:=catE val into cont
 rw[hcat]at hcc
 simp only[Bool.not_true]at hcc
 go_upto_region 16 with fail
 clear hcc hl1 hl2
 rcases Classical.em ((xs.length:Int)=1)with hxl|hxl
 rotate_left
 ·have hxb:((xs.length:Int)==1)=false:=by rw[BF];exact hxl
  have he:r=false:=by rw[←HR.out];simp only[BK,hxb,Bool.false_and,Bool.and_false]
  subst he
  go_wp2_with fail
  go_ret
  exact⟨rfl,HK1.out⟩
 have hxb:((xs.length:Int)==1)=true:=by rw[beq_iff_eq];exact hxl
 go_upto_region 17 with fail
 rcases Classical.em (thn.length=0)with hthn|hthn
 rotate_left
 ·have hli:(0:Int)<thn.length:=by omega
  have hlb:(thn.length==0)=false:=by rw[BF];exact hthn
  have he:r=false:=by rw[←HR.out];simp only[BK,hlb,Bool.false_or,Bool.false_and,Bool.and_false]
  subst he
  go_wp2_with fail
  go_ret
  exact⟨rfl,HK1.out⟩
 have hthnb:¬(0:Int)<thn.length:=by omega
 have Hthn:=hid hthn
 clear hthn
 go_upto_region 18 with fail
 clear hthnb
 rcases Classical.em (els.length=0)with hels|hels
 rotate_left
 ·have hli:(0:Int)<els.length:=by omega
  have hlb:(els.length==0)=false:=by rw[BF];exact hels
  have he:r=false:=by rw[←HR.out];simp only[BK,hlb,Bool.false_or,Bool.false_and,Bool.and_false]
  subst he
  go_wp2_with fail
  go_ret
  exact⟨rfl,HK1.out⟩
 have helsb:¬(0:Int)<els.length:=by omega
 have Hels:=hid hels
 clear hels
 go_upto_region 20 with fail
 clear helsb
 have hthn:=Hthn.out
 have hels:=Hels.out
 have htk:=HTKH.out
 have hrr:r=(CR xs && (BX thn && BX els)):=by rw[←HR.out];simp[BK,hxb,hcat,hnm,hthn,hels]
 clear hthn
 clear hels
 clear hxl hxb htk
 subst hrr
 cases hgx:CR xs with
 | false=>
  have HQ:=hid (by have h:=HX.out W1 HK1.out;rw[hgx]at h;exact h)
  go_wp2_with fail
  go_at_call 59
  refine(HQ.out).mono ?_
  rintro e W2 ⟨rfl,hk⟩
  have HK2:=hid (HK1.out.trans hk);have HB2:=hid (hk.blk HB1.out);have HM2:=hid (hk.blk HM1.out)
  clear hk
  clear n0 n1 n2 n3 n4 n5 n6 n7 n8 n9 n10 n11 m0 m1 m2 m3 m4 m5
  obtain⟨n0,n1,n2,n3,n4,n5,n6,n7,n8,n9,n10,n11⟩:=BH HB2.out
  obtain⟨m0,m1,m2,m3,m4,m5,-⟩:=blk6 HM2.out
  go_wp2_with fail
  go_ret
  exact⟨by first|rfl|(rw[hgx];rfl)|simp[hgx],HK2.out⟩
 |true=>
 have HQ:=hid (by have h:=HX.out W1 HK1.out;rw[hgx]at h;exact h)
 go_wp2_with fail
 go_at_call 59
 refine(HQ.out).mono ?_
 rintro e W2 ⟨rfl,hk⟩
 have HK2:=hid (HK1.out.trans hk);have HB2:=hid (hk.blk HB1.out);have HM2:=hid (hk.blk HM1.out)
 clear hk
 clear n0 n1 n2 n3 n4 n5 n6 n7 n8 n9 n10 n11 m0 m1 m2 m3 m4 m5
 obtain⟨n0,n1,n2,n3,n4,n5,n6,n7,n8,n9,n10,n11⟩:=BH HB2.out
 obtain⟨m0,m1,m2,m3,m4,m5,-⟩:=blk6 HM2.out
 cases hgt:BX thn with
 | false=>
  have HQ:=hid (by have h:=HTH.out W2 HK2.out;rw[hgt]at h;exact h)
  go_wp2_with fail
  go_at_call 49
  refine(HQ.out).mono ?_
  rintro e W3 ⟨rfl,hk⟩
  have HK3:=hid (HK2.out.trans hk);have HB3:=hid (hk.blk HB2.out);have HM3:=hid (hk.blk HM2.out)
  clear hk
  clear n0 n1 n2 n3 n4 n5 n6 n7 n8 n9 n10 n11 m0 m1 m2 m3 m4 m5
  obtain⟨n0,n1,n2,n3,n4,n5,n6,n7,n8,n9,n10,n11⟩:=BH HB3.out
  obtain⟨m0,m1,m2,m3,m4,m5,-⟩:=blk6 HM3.out
  go_wp2_with fail
  go_ret
  exact⟨by first|rfl|(rw[hgx,hgt];rfl)|simp[hgx,hgt],HK3.out⟩
 |true=>
 have HQ:=hid (by have h:=HTH.out W2 HK2.out;rw[hgt]at h;exact h)
 go_wp2_with fail
 go_at_call 49
 refine(HQ.out).mono ?_
 rintro e W3 ⟨rfl,hk⟩
 have HK3:=hid (HK2.out.trans hk);have HB3:=hid (hk.blk HB2.out);have HM3:=hid (hk.blk HM2.out)
 clear hk
 clear n0 n1 n2 n3 n4 n5 n6 n7 n8 n9 n10 n11 m0 m1 m2 m3 m4 m5
 obtain⟨n0,n1,n2,n3,n4,n5,n6,n7,n8,n9,n10,n11⟩:=BH HB3.out
 obtain⟨m0,m1,m2,m3,m4,m5,-⟩:=blk6 HM3.out
 obtain⟨b,hge⟩:∃b,BX els=b:=⟨_,rfl⟩
 have HGE:=hid hge
 have HQ:=hid (by have h:=HEL.out W3 HK3.out;rw[hge]at h;exact h)
 clear hge
 go_wp2_with fail
 go_at_call 49
 refine(HQ.out).mono ?_
 rintro e W4 ⟨rfl,hk⟩
 have HK4:=hid (HK3.out.trans hk);have HB4:=hid (hk.blk HB3.out);have HM4:=hid (hk.blk HM3.out)
 clear hk
 clear n0 n1 n2 n3 n4 n5 n6 n7 n8 n9 n10 n11 m0 m1 m2 m3 m4 m5
 obtain⟨n0,n1,n2,n3,n4,n5,n6,n7,n8,n9,n10,n11⟩:=BH HB4.out
 obtain⟨m0,m1,m2,m3,m4,m5,-⟩:=blk6 HM4.out
 go_wp2_with fail
 go_ret
 exact⟨by first|(rw[HGE.out];rfl)|(rw[hgx,hgt,HGE.out];rfl)|simp[hgx,hgt,HGE.out],HK4.out⟩
theorem ms_A2:MayBy true false false 2 false false (fun _=>True):=by
 intro k sz op l cl nm val into cont xs thn els hk hn htk hX hTh hEl hcl hlx hlt hle w S vs hT hs
 unfold SAt at hs
 obtain⟨p1,c1,p2,c2,p3,c3,rfl,hx,ht,he⟩:=hs
 obtain⟨r,hr⟩:∃r,(BK true false false 2 false false sz op nm val into cont xs.length thn.length els.length && (CR xs && (BX thn && BX els)))=r:=⟨_,rfl⟩
 rw[hr]
 have HR:=hid hr;have HTKH:=hid htk
 clear htk
 unfold strV
 obtain⟨V,B1,hV,hB1,hb1,hk1,hs1⟩:=BC w (.cells #[.int .i64 k,.string ⟨nm.toArray⟩,.int .i64 sz,.int .i64 op,.string ⟨val.toArray⟩,.string ⟨into.toArray⟩,.string ⟨cont.toArray⟩,.slice p1 xs.length c1,.slice p2 thn.length c2,.slice p3 els.length c3,.int .i64 l,.int .i64 cl] TSm)
 have HND:=hid (by have h:=needs_any V k op (.string ⟨nm.toArray⟩) (.int .i64 sz) (.string ⟨val.toArray⟩) (.string ⟨into.toArray⟩) (.string ⟨cont.toArray⟩) (.slice p1 xs.length c1) (.slice p2 thn.length c2) (.slice p3 els.length c3) (.int .i64 l) (.int .i64 cl);rw[hn]at h;exact h)
 unfold nd at HND
 have HK:=hid hk1;have HB:=hid hb1;have HT:=hid hT
 have HX:=hid (fun W (h:BA (fun _=>False) w W)=>hasM_any mayG xs hX hlx W (h.tabS hT) S p1 c1 (hx.keep h fun _ _ e=>e))
 have HTH:=hid (fun W (h:BA (fun _=>False) w W)=>CT mayS thn hTh hlt W (h.tabS hT) S p2 c2 (ht.keep h fun _ _ e=>e))
 have HEL:=hid (fun W (h:BA (fun _=>False) w W)=>CT mayS els hEl hle W (h.tabS hT) S p3 c3 (he.keep h fun _ _ e=>e))
 rw[mayGL_any]at HX
 rw[maySL_any]at HTH HEL
 have hk1i:¬k<1:=by omega
 have hk9i:¬9<k:=by omega
 have HNnm:=hid (fun W (h:TabS W)=>by have h:=CA ⟨nm.toArray⟩ W h;rw[show (⟨nm.toArray⟩:ByteArray).data.toList=nm by simp]at h;exact h)
 have HNval:=hid (fun W (h:TabS W)=>by have h:=CA ⟨val.toArray⟩ W h;rw[show (⟨val.toArray⟩:ByteArray).data.toList=val by simp]at h;exact h)
 have HNinto:=hid (fun W (h:TabS W)=>by have h:=CA ⟨into.toArray⟩ W h;rw[show (⟨into.toArray⟩:ByteArray).data.toList=into by simp]at h;exact h)
 have HNcont:=hid (fun W (h:TabS W)=>by have h:=CA ⟨cont.toArray⟩ W h;rw[show (⟨cont.toArray⟩:ByteArray).data.toList=cont by simp]at h;exact h)
 have HTK:=hid (fun w'=>DS op w')
 obtain⟨n0,n1,n2,n3,n4,n5,n6,n7,n8,n9,n10,n11⟩:=BH hb1
 clear hr hn hX hTh hEl hlx hlt hle hT hx ht he hb1 hk1 hs1
 go_enter Tryz.func93,Tryz.ntmps93
 go_upto_region 1 with fail
 rw[←hV,←hB1]
 clear hV hB1
 go_upto_region 3 with fail
 go_wp2_with fail
 go_at_call 112
 refine HND.out.mono ?_
 rintro e V2 ⟨rfl,hk2⟩
 obtain⟨W0,B2,hW,hB2,hb2,hk3,hs3⟩:=BC V2 (.cells (nd true false false 2 false false) TNd)
 unfold nd at hW hb2
 have HK0:=hid ((HK.out.trans hk2).trans hk3);have HB0:=hid ((hk2.trans hk3).blk HB.out);have HM0:=hid hb2
 clear hk2 hk3 hs3 hb2
 go_upto_region 4 with fail
 rw[←hW,←hB2]
 clear hW hB2 n0 n1 n2 n3 n4 n5 n6 n7 n8 n9 n10 n11 hk1i hk9i
 obtain⟨n0,n1,n2,n3,n4,n5,n6,n7,n8,n9,n10,n11⟩:=BH HB0.out
 obtain⟨m0,m1,m2,m3,m4,m5,-⟩:=blk6 HM0.out
 cases hnm:CV nm with
 | false=>
  have HQ:=hid (by have h:=HNnm.out W0 (HK0.out.tabS HT.out);rw[hnm]at h;exact h)
  have he:r=false:=by rw[←HR.out];simp[BK,hnm]
  subst he
  go_wp2_with fail
  go_at_call 45
  refine(HQ.out).mono ?_
  rintro e W1 ⟨rfl,hk⟩
  have HK1:=hid (HK0.out.trans hk);have HB1:=hid (hk.blk HB0.out);have HM1:=hid (hk.blk HM0.out)
  clear hk
  clear n0 n1 n2 n3 n4 n5 n6 n7 n8 n9 n10 n11 m0 m1 m2 m3 m4 m5
  obtain⟨n0,n1,n2,n3,n4,n5,n6,n7,n8,n9,n10,n11⟩:=BH HB1.out
  obtain⟨m0,m1,m2,m3,m4,m5,-⟩:=blk6 HM1.out
  go_wp2_with fail
  go_ret
  exact⟨rfl,HK1.out⟩
 |true=>
 have HQ:=hid (by have h:=HNnm.out W0 (HK0.out.tabS HT.out);rw[hnm]at h;exact h)
 go_wp2_with fail
 go_at_call 45
 refine(HQ.out).mono ?_
 rintro e W1 ⟨rfl,hk⟩
 have HK1:=hid (HK0.out.trans hk);have HB1:=hid (hk.blk HB0.out);have HM1:=hid (hk.blk HM0.out)
 clear hk
 clear n0 n1 n2 n3 n4 n5 n6 n7 n8 n9 n10 n11 m0 m1 m2 m3 m4 m5
 obtain⟨n0,n1,n2,n3,n4,n5,n6,n7,n8,n9,n10,n11⟩:=BH HB1.out
 obtain⟨m0,m1,m2,m3,m4,m5,-⟩:=blk6 HM1.out
 go_upto_region 7 with fail
 rcases Classical.em (sz=0)with hsz|hsz
 rotate_left
 ·have hzb:(sz==0)=false:=by rw[BF];exact hsz
  have he:r=false:=by rw[←HR.out];simp[BK,hzb]
  subst he
  go_wp2_with fail
  go_ret
  exact⟨rfl,HK1.out⟩
 subst hsz
 go_upto_region 10 with fail
 rcases Classical.em (op=0)with hop|hop
 rotate_left
 ·have hob:(op==0)=false:=by rw[BF];exact hop
  have he:r=false:=by rw[←HR.out];simp[BK,hob]
  subst he
  go_wp2_with fail
  go_ret
  exact⟨rfl,HK1.out⟩
 subst hop
 have hl1:¬9223372036854775807<val.length+into.length:=by omega
 have hl2:¬9223372036854775807<val.length+into.length+cont.length:=by omega
 rcases Classical.em ((val.isEmpty && (into.isEmpty && cont.isEmpty))=true)with hcat|hcat
 rotate_left
 ·have hcc:=catE val into cont
  rw[Bool.eq_false_iff.2 hcat]at hcc
  simp only[Bool.not_false]at hcc
  have he:r=false:=by rw[←HR.out];have h9:(val.isEmpty && (into.isEmpty && cont.isEmpty))=false:=Bool.eq_false_iff.2 hcat;unfold BK;rw[h9];simp
  subst he
  go_wp2_with fail
  go_ret
  exact⟨rfl,HK1.out⟩
 have hcc:=catE val into cont
 rw[hcat]at hcc
 simp only[Bool.not_true]at hcc
 go_upto_region 16 with fail
 clear hcc hl1 hl2
 rcases Classical.em ((xs.length:Int)=2)with hxl|hxl
 rotate_left
 ·have hxb:((xs.length:Int)==2)=false:=by rw[BF];exact hxl
  have he:r=false:=by rw[←HR.out];simp only[BK,hxb,Bool.false_and,Bool.and_false]
  subst he
  go_wp2_with fail
  go_ret
  exact⟨rfl,HK1.out⟩
 have hxb:((xs.length:Int)==2)=true:=by rw[beq_iff_eq];exact hxl
 go_upto_region 17 with fail
 rcases Classical.em (thn.length=0)with hthn|hthn
 rotate_left
 ·have hli:(0:Int)<thn.length:=by omega
  have hlb:(thn.length==0)=false:=by rw[BF];exact hthn
  have he:r=false:=by rw[←HR.out];simp only[BK,hlb,Bool.false_or,Bool.false_and,Bool.and_false]
  subst he
  go_wp2_with fail
  go_ret
  exact⟨rfl,HK1.out⟩
 have hthnb:¬(0:Int)<thn.length:=by omega
 have Hthn:=hid hthn
 clear hthn
 go_upto_region 18 with fail
 clear hthnb
 rcases Classical.em (els.length=0)with hels|hels
 rotate_left
 ·have hli:(0:Int)<els.length:=by omega
  have hlb:(els.length==0)=false:=by rw[BF];exact hels
  have he:r=false:=by rw[←HR.out];simp only[BK,hlb,Bool.false_or,Bool.false_and,Bool.and_false]
  subst he
  go_wp2_with fail
  go_ret
  exact⟨rfl,HK1.out⟩
 have helsb:¬(0:Int)<els.length:=by omega
 have Hels:=hid hels
 clear hels
 go_upto_region 20 with fail
 clear helsb
 have hthn:=Hthn.out
 have hels:=Hels.out
 have htk:=HTKH.out
 have hrr:r=(CR xs && (BX thn && BX els)):=by rw[←HR.out];simp[BK,hxb,hcat,hnm,hthn,hels]
 clear hthn
 clear hels
 clear hxl hxb htk
 subst hrr
 cases hgx:CR xs with
 | false=>
  have HQ:=hid (by have h:=HX.out W1 HK1.out;rw[hgx]at h;exact h)
  go_wp2_with fail
  go_at_call 59
  refine(HQ.out).mono ?_
  rintro e W2 ⟨rfl,hk⟩
  have HK2:=hid (HK1.out.trans hk);have HB2:=hid (hk.blk HB1.out);have HM2:=hid (hk.blk HM1.out)
  clear hk
  clear n0 n1 n2 n3 n4 n5 n6 n7 n8 n9 n10 n11 m0 m1 m2 m3 m4 m5
  obtain⟨n0,n1,n2,n3,n4,n5,n6,n7,n8,n9,n10,n11⟩:=BH HB2.out
  obtain⟨m0,m1,m2,m3,m4,m5,-⟩:=blk6 HM2.out
  go_wp2_with fail
  go_ret
  exact⟨by first|rfl|(rw[hgx];rfl)|simp[hgx],HK2.out⟩
 |true=>
 have HQ:=hid (by have h:=HX.out W1 HK1.out;rw[hgx]at h;exact h)
 go_wp2_with fail
 go_at_call 59
 refine(HQ.out).mono ?_
 rintro e W2 ⟨rfl,hk⟩
 have HK2:=hid (HK1.out.trans hk);have HB2:=hid (hk.blk HB1.out);have HM2:=hid (hk.blk HM1.out)
 clear hk
 clear n0 n1 n2 n3 n4 n5 n6 n7 n8 n9 n10 n11 m0 m1 m2 m3 m4 m5
 obtain⟨n0,n1,n2,n3,n4,n5,n6,n7,n8,n9,n10,n11⟩:=BH HB2.out
 obtain⟨m0,m1,m2,m3,m4,m5,-⟩:=blk6 HM2.out
 cases hgt:BX thn with
 | false=>
  have HQ:=hid (by have h:=HTH.out W2 HK2.out;rw[hgt]at h;exact h)
  go_wp2_with fail
  go_at_call 49
  refine(HQ.out).mono ?_
  rintro e W3 ⟨rfl,hk⟩
  have HK3:=hid (HK2.out.trans hk);have HB3:=hid (hk.blk HB2.out);have HM3:=hid (hk.blk HM2.out)
  clear hk
  clear n0 n1 n2 n3 n4 n5 n6 n7 n8 n9 n10 n11 m0 m1 m2 m3 m4 m5
  obtain⟨n0,n1,n2,n3,n4,n5,n6,n7,n8,n9,n10,n11⟩:=BH HB3.out
  obtain⟨m0,m1,m2,m3,m4,m5,-⟩:=blk6 HM3.out
  go_wp2_with fail
  go_ret
  exact⟨by first|rfl|(rw[hgx,hgt];rfl)|simp[hgx,hgt],HK3.out⟩
 |true=>
 have HQ:=hid (by have h:=HTH.out W2 HK2.out;rw[hgt]at h;exact h)
 go_wp2_with fail
 go_at_call 49
 refine(HQ.out).mono ?_
 rintro e W3 ⟨rfl,hk⟩
 have HK3:=hid (HK2.out.trans hk);have HB3:=hid (hk.blk HB2.out);have HM3:=hid (hk.blk HM2.out)
 clear hk
 clear n0 n1 n2 n3 n4 n5 n6 n7 n8 n9 n10 n11 m0 m1 m2 m3 m4 m5
 obtain⟨n0,n1,n2,n3,n4,n5,n6,n7,n8,n9,n10,n11⟩:=BH HB3.out
 obtain⟨m0,m1,m2,m3,m4,m5,-⟩:=blk6 HM3.out
 obtain⟨b,hge⟩:∃b,BX els=b:=⟨_,rfl⟩
 have HGE:=hid hge
 have HQ:=hid (by have h:=HEL.out W3 HK3.out;rw[hge]at h;exact h)
 clear hge
 go_wp2_with fail
 go_at_call 49
 refine(HQ.out).mono ?_
 rintro e W4 ⟨rfl,hk⟩
 have HK4:=hid (HK3.out.trans hk);have HB4:=hid (hk.blk HB3.out);have HM4:=hid (hk.blk HM3.out)
 clear hk
 clear n0 n1 n2 n3 n4 n5 n6 n7 n8 n9 n10 n11 m0 m1 m2 m3 m4 m5
 obtain⟨n0,n1,n2,n3,n4,n5,n6,n7,n8,n9,n10,n11⟩:=BH HB4.out
 obtain⟨m0,m1,m2,m3,m4,m5,-⟩:=blk6 HM4.out
 go_wp2_with fail
 go_ret
 exact⟨by first|(rw[HGE.out];rfl)|(rw[hgx,hgt,HGE.out];rfl)|simp[hgx,hgt,HGE.out],HK4.out⟩
theorem ms_B:MayBy true true false 0 false false (fun _=>True):=by
 intro k sz op l cl nm val into cont xs thn els hk hn htk hX hTh hEl hcl hlx hlt hle w S vs hT hs
 unfold SAt at hs
 obtain⟨p1,c1,p2,c2,p3,c3,rfl,hx,ht,he⟩:=hs
 obtain⟨r,hr⟩:∃r,(BK true true false 0 false false sz op nm val into cont xs.length thn.length els.length && (CR xs && (BX thn && BX els)))=r:=⟨_,rfl⟩
 rw[hr]
 have HR:=hid hr;have HTKH:=hid htk
 clear htk
 unfold strV
 obtain⟨V,B1,hV,hB1,hb1,hk1,hs1⟩:=BC w (.cells #[.int .i64 k,.string ⟨nm.toArray⟩,.int .i64 sz,.int .i64 op,.string ⟨val.toArray⟩,.string ⟨into.toArray⟩,.string ⟨cont.toArray⟩,.slice p1 xs.length c1,.slice p2 thn.length c2,.slice p3 els.length c3,.int .i64 l,.int .i64 cl] TSm)
 have HND:=hid (by have h:=needs_any V k op (.string ⟨nm.toArray⟩) (.int .i64 sz) (.string ⟨val.toArray⟩) (.string ⟨into.toArray⟩) (.string ⟨cont.toArray⟩) (.slice p1 xs.length c1) (.slice p2 thn.length c2) (.slice p3 els.length c3) (.int .i64 l) (.int .i64 cl);rw[hn]at h;exact h)
 unfold nd at HND
 have HK:=hid hk1;have HB:=hid hb1;have HT:=hid hT
 have HX:=hid (fun W (h:BA (fun _=>False) w W)=>hasM_any mayG xs hX hlx W (h.tabS hT) S p1 c1 (hx.keep h fun _ _ e=>e))
 have HTH:=hid (fun W (h:BA (fun _=>False) w W)=>CT mayS thn hTh hlt W (h.tabS hT) S p2 c2 (ht.keep h fun _ _ e=>e))
 have HEL:=hid (fun W (h:BA (fun _=>False) w W)=>CT mayS els hEl hle W (h.tabS hT) S p3 c3 (he.keep h fun _ _ e=>e))
 rw[mayGL_any]at HX
 rw[maySL_any]at HTH HEL
 have hk1i:¬k<1:=by omega
 have hk9i:¬9<k:=by omega
 have HNnm:=hid (fun W (h:TabS W)=>by have h:=CA ⟨nm.toArray⟩ W h;rw[show (⟨nm.toArray⟩:ByteArray).data.toList=nm by simp]at h;exact h)
 have HNval:=hid (fun W (h:TabS W)=>by have h:=CA ⟨val.toArray⟩ W h;rw[show (⟨val.toArray⟩:ByteArray).data.toList=val by simp]at h;exact h)
 have HNinto:=hid (fun W (h:TabS W)=>by have h:=CA ⟨into.toArray⟩ W h;rw[show (⟨into.toArray⟩:ByteArray).data.toList=into by simp]at h;exact h)
 have HNcont:=hid (fun W (h:TabS W)=>by have h:=CA ⟨cont.toArray⟩ W h;rw[show (⟨cont.toArray⟩:ByteArray).data.toList=cont by simp]at h;exact h)
 have HTK:=hid (fun w'=>DS op w')
 obtain⟨n0,n1,n2,n3,n4,n5,n6,n7,n8,n9,n10,n11⟩:=BH hb1
 clear hr hn hX hTh hEl hlx hlt hle hT hx ht he hb1 hk1 hs1
 go_enter Tryz.func93,Tryz.ntmps93
 go_upto_region 1 with fail
 rw[←hV,←hB1]
 clear hV hB1
 go_upto_region 3 with fail
 go_wp2_with fail
 go_at_call 112
 refine HND.out.mono ?_
 rintro e V2 ⟨rfl,hk2⟩
 obtain⟨W0,B2,hW,hB2,hb2,hk3,hs3⟩:=BC V2 (.cells (nd true true false 0 false false) TNd)
 unfold nd at hW hb2
 have HK0:=hid ((HK.out.trans hk2).trans hk3);have HB0:=hid ((hk2.trans hk3).blk HB.out);have HM0:=hid hb2
 clear hk2 hk3 hs3 hb2
 go_upto_region 4 with fail
 rw[←hW,←hB2]
 clear hW hB2 n0 n1 n2 n3 n4 n5 n6 n7 n8 n9 n10 n11 hk1i hk9i
 obtain⟨n0,n1,n2,n3,n4,n5,n6,n7,n8,n9,n10,n11⟩:=BH HB0.out
 obtain⟨m0,m1,m2,m3,m4,m5,-⟩:=blk6 HM0.out
 cases hnm:CV nm with
 | false=>
  have HQ:=hid (by have h:=HNnm.out W0 (HK0.out.tabS HT.out);rw[hnm]at h;exact h)
  have he:r=false:=by rw[←HR.out];simp[BK,hnm]
  subst he
  go_wp2_with fail
  go_at_call 45
  refine(HQ.out).mono ?_
  rintro e W1 ⟨rfl,hk⟩
  have HK1:=hid (HK0.out.trans hk);have HB1:=hid (hk.blk HB0.out);have HM1:=hid (hk.blk HM0.out)
  clear hk
  clear n0 n1 n2 n3 n4 n5 n6 n7 n8 n9 n10 n11 m0 m1 m2 m3 m4 m5
  obtain⟨n0,n1,n2,n3,n4,n5,n6,n7,n8,n9,n10,n11⟩:=BH HB1.out
  obtain⟨m0,m1,m2,m3,m4,m5,-⟩:=blk6 HM1.out
  go_wp2_with fail
  go_ret
  exact⟨rfl,HK1.out⟩
 |true=>
 have HQ:=hid (by have h:=HNnm.out W0 (HK0.out.tabS HT.out);rw[hnm]at h;exact h)
 go_wp2_with fail
 go_at_call 45
 refine(HQ.out).mono ?_
 rintro e W1 ⟨rfl,hk⟩
 have HK1:=hid (HK0.out.trans hk);have HB1:=hid (hk.blk HB0.out);have HM1:=hid (hk.blk HM0.out)
 clear hk
 clear n0 n1 n2 n3 n4 n5 n6 n7 n8 n9 n10 n11 m0 m1 m2 m3 m4 m5
 obtain⟨n0,n1,n2,n3,n4,n5,n6,n7,n8,n9,n10,n11⟩:=BH HB1.out
 obtain⟨m0,m1,m2,m3,m4,m5,-⟩:=blk6 HM1.out
 go_upto_region 7 with fail
 go_upto_region 8 with fail
 rcases Classical.em (0≤sz)with hsz|hsz
 rotate_left
 ·have hzi:sz<0:=by omega
  have he:r=false:=by rw[←HR.out];simp[BK,hsz]
  subst he
  go_wp2_with fail
  go_ret
  exact⟨rfl,HK1.out⟩
 have hzi:¬sz<0:=by omega
 go_upto_region 10 with fail
 clear hzi
 rcases Classical.em (op=0)with hop|hop
 rotate_left
 ·have hob:(op==0)=false:=by rw[BF];exact hop
  have he:r=false:=by rw[←HR.out];simp[BK,hob]
  subst he
  go_wp2_with fail
  go_ret
  exact⟨rfl,HK1.out⟩
 subst hop
 have hl1:¬9223372036854775807<val.length+into.length:=by omega
 have hl2:¬9223372036854775807<val.length+into.length+cont.length:=by omega
 rcases Classical.em ((val.isEmpty && (into.isEmpty && cont.isEmpty))=true)with hcat|hcat
 rotate_left
 ·have hcc:=catE val into cont
  rw[Bool.eq_false_iff.2 hcat]at hcc
  simp only[Bool.not_false]at hcc
  have he:r=false:=by rw[←HR.out];have h9:(val.isEmpty && (into.isEmpty && cont.isEmpty))=false:=Bool.eq_false_iff.2 hcat;unfold BK;rw[h9];simp
  subst he
  go_wp2_with fail
  go_ret
  exact⟨rfl,HK1.out⟩
 have hcc:=catE val into cont
 rw[hcat]at hcc
 simp only[Bool.not_true]at hcc
 go_upto_region 16 with fail
 clear hcc hl1 hl2
 rcases Classical.em ((xs.length:Int)=0)with hxl|hxl
 rotate_left
 ·have hxb:((xs.length:Int)==0)=false:=by rw[BF];exact hxl
  have he:r=false:=by rw[←HR.out];simp only[BK,hxb,Bool.false_and,Bool.and_false]
  subst he
  go_wp2_with fail
  go_ret
  exact⟨rfl,HK1.out⟩
 have hxb:((xs.length:Int)==0)=true:=by rw[beq_iff_eq];exact hxl
 go_upto_region 17 with fail
 rcases Classical.em (thn.length=0)with hthn|hthn
 rotate_left
 ·have hli:(0:Int)<thn.length:=by omega
  have hlb:(thn.length==0)=false:=by rw[BF];exact hthn
  have he:r=false:=by rw[←HR.out];simp only[BK,hlb,Bool.false_or,Bool.false_and,Bool.and_false]
  subst he
  go_wp2_with fail
  go_ret
  exact⟨rfl,HK1.out⟩
 have hthnb:¬(0:Int)<thn.length:=by omega
 have Hthn:=hid hthn
 clear hthn
 go_upto_region 18 with fail
 clear hthnb
 rcases Classical.em (els.length=0)with hels|hels
 rotate_left
 ·have hli:(0:Int)<els.length:=by omega
  have hlb:(els.length==0)=false:=by rw[BF];exact hels
  have he:r=false:=by rw[←HR.out];simp only[BK,hlb,Bool.false_or,Bool.false_and,Bool.and_false]
  subst he
  go_wp2_with fail
  go_ret
  exact⟨rfl,HK1.out⟩
 have helsb:¬(0:Int)<els.length:=by omega
 have Hels:=hid hels
 clear hels
 go_upto_region 20 with fail
 clear helsb
 have hthn:=Hthn.out
 have hels:=Hels.out
 have htk:=HTKH.out
 have hrr:r=(CR xs && (BX thn && BX els)):=by rw[←HR.out];simp[BK,hxb,hcat,hnm,hsz,hthn,hels]
 clear hthn
 clear hels
 clear hxl hxb htk
 subst hrr
 cases hgx:CR xs with
 | false=>
  have HQ:=hid (by have h:=HX.out W1 HK1.out;rw[hgx]at h;exact h)
  go_wp2_with fail
  go_at_call 59
  refine(HQ.out).mono ?_
  rintro e W2 ⟨rfl,hk⟩
  have HK2:=hid (HK1.out.trans hk);have HB2:=hid (hk.blk HB1.out);have HM2:=hid (hk.blk HM1.out)
  clear hk
  clear n0 n1 n2 n3 n4 n5 n6 n7 n8 n9 n10 n11 m0 m1 m2 m3 m4 m5
  obtain⟨n0,n1,n2,n3,n4,n5,n6,n7,n8,n9,n10,n11⟩:=BH HB2.out
  obtain⟨m0,m1,m2,m3,m4,m5,-⟩:=blk6 HM2.out
  go_wp2_with fail
  go_ret
  exact⟨by first|rfl|(rw[hgx];rfl)|simp[hgx],HK2.out⟩
 |true=>
 have HQ:=hid (by have h:=HX.out W1 HK1.out;rw[hgx]at h;exact h)
 go_wp2_with fail
 go_at_call 59
 refine(HQ.out).mono ?_
 rintro e W2 ⟨rfl,hk⟩
 have HK2:=hid (HK1.out.trans hk);have HB2:=hid (hk.blk HB1.out);have HM2:=hid (hk.blk HM1.out)
 clear hk
 clear n0 n1 n2 n3 n4 n5 n6 n7 n8 n9 n10 n11 m0 m1 m2 m3 m4 m5
 obtain⟨n0,n1,n2,n3,n4,n5,n6,n7,n8,n9,n10,n11⟩:=BH HB2.out
 obtain⟨m0,m1,m2,m3,m4,m5,-⟩:=blk6 HM2.out
 cases hgt:BX thn with
 | false=>
  have HQ:=hid (by have h:=HTH.out W2 HK2.out;rw[hgt]at h;exact h)
  go_wp2_with fail
  go_at_call 49
  refine(HQ.out).mono ?_
  rintro e W3 ⟨rfl,hk⟩
  have HK3:=hid (HK2.out.trans hk);have HB3:=hid (hk.blk HB2.out);have HM3:=hid (hk.blk HM2.out)
  clear hk
  clear n0 n1 n2 n3 n4 n5 n6 n7 n8 n9 n10 n11 m0 m1 m2 m3 m4 m5
  obtain⟨n0,n1,n2,n3,n4,n5,n6,n7,n8,n9,n10,n11⟩:=BH HB3.out
  obtain⟨m0,m1,m2,m3,m4,m5,-⟩:=blk6 HM3.out
  go_wp2_with fail
  go_ret
  exact⟨by first|rfl|(rw[hgx,hgt];rfl)|simp[hgx,hgt],HK3.out⟩
 |true=>
 have HQ:=hid (by have h:=HTH.out W2 HK2.out;rw[hgt]at h;exact h)
 go_wp2_with fail
 go_at_call 49
 refine(HQ.out).mono ?_
 rintro e W3 ⟨rfl,hk⟩
 have HK3:=hid (HK2.out.trans hk);have HB3:=hid (hk.blk HB2.out);have HM3:=hid (hk.blk HM2.out)
 clear hk
 clear n0 n1 n2 n3 n4 n5 n6 n7 n8 n9 n10 n11 m0 m1 m2 m3 m4 m5
 obtain⟨n0,n1,n2,n3,n4,n5,n6,n7,n8,n9,n10,n11⟩:=BH HB3.out
 obtain⟨m0,m1,m2,m3,m4,m5,-⟩:=blk6 HM3.out
 obtain⟨b,hge⟩:∃b,BX els=b:=⟨_,rfl⟩
 have HGE:=hid hge
 have HQ:=hid (by have h:=HEL.out W3 HK3.out;rw[hge]at h;exact h)
 clear hge
 go_wp2_with fail
 go_at_call 49
 refine(HQ.out).mono ?_
 rintro e W4 ⟨rfl,hk⟩
 have HK4:=hid (HK3.out.trans hk);have HB4:=hid (hk.blk HB3.out);have HM4:=hid (hk.blk HM3.out)
 clear hk
 clear n0 n1 n2 n3 n4 n5 n6 n7 n8 n9 n10 n11 m0 m1 m2 m3 m4 m5
 obtain⟨n0,n1,n2,n3,n4,n5,n6,n7,n8,n9,n10,n11⟩:=BH HB4.out
 obtain⟨m0,m1,m2,m3,m4,m5,-⟩:=blk6 HM4.out
 go_wp2_with fail
 go_ret
 exact⟨by first|(rw[HGE.out];rfl)|(rw[hgx,hgt,HGE.out];rfl)|simp[hgx,hgt,HGE.out],HK4.out⟩
end Go.Proofs.YtomlffobbkcmdaaGreatDoor
