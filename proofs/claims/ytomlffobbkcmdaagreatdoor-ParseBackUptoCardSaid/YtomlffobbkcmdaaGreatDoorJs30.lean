import Derived.Test.YtomlffobbkcmdaaGreatDoorJs29
set_option maxHeartbeats 32000000
set_option maxRecDepth 4000
namespace Go.Proofs.YtomlffobbkcmdaaGreatDoor
open Go Go.RowKit Own
open Go.Lib (hid)
variable {α : Type}
def alls (f:α→α→Bool):List α→List α→Bool
 |[],[]=>true
 |x::a,y::b=>f x y && alls f a b
 |_,_=>false
theorem alls_len {f:α→α→Bool}:∀{a b:List α},a.length≠b.length→alls f a b=false
 |[],[],h=>absurd rfl h
 | x::a,y::b,h=>by
  unfold alls
  rw[alls_len (a:=a) (b:=b) (by simpa using h),Bool.and_false]
 |[],_::_,_=>by unfold alls;rfl
 |_::_,[],_=>by unfold alls;rfl
theorem alls_all {f:α→α→Bool}:∀{a b:List α},a.length=b.length→(∀i (h:i<a.length) (h':i<b.length),f a[i] b[i]=true)→alls f a b=true
 |[],[],_,_=>by unfold alls;rfl
 | x::a,y::b,h,ha=>by
  unfold alls
  rw[show f x y=true from ha 0 (by simp) (by simp),alls_all (a:=a) (b:=b) (by simpa using h) fun i h1 h2=>ha (i+1) (by simpa using h1) (by simpa using h2)]
  rfl
 |[],_::_,h,_=>by cases h
 |_::_,[],h,_=>by cases h
theorem alls_at {f:α→α→Bool}:∀{a b:List α}(i:Nat) (h:i<a.length) (h':i<b.length),f a[i] b[i]=false→alls f a b=false
 | x::a,y::b,0,_,_,e=>by
  unfold alls
  rw[show f x y=false from e];rfl
 | x::a,y::b,i+1,h,h',e=>by
  unfold alls
  rw[alls_at (a:=a) (b:=b) i (by simpa using h) (by simpa using h') e,Bool.and_false]
 |[],_,_,h,_,_=>by cases h
 |_::_,[],_,_,h,_=>by cases h
mutual
def sameS:Gs→Gs→Bool
 |.mk k nm sz op val into cont xs thn els _ _,.mk k' nm' sz' op' val' into' cont' xs' thn' els' _ _=>decide (k=k') && (decide (nm=nm') && (decide (sz=sz') && (decide (op=op') && (decide (val=val') && (decide (into=into') && (decide (cont=cont') && (DM xs xs' && (DX thn thn' && DX els els'))))))))
def DX:List Gs→List Gs→Bool
 |[],[]=>true
 |x::a,y::b=>sameS x y && DX a b
 |_,_=>false
end
theorem sameSL_alls:∀(a b:List Gs),DX a b=alls sameS a b
 |[],[]=>by unfold DX alls;rfl
 |x::a,y::b=>by unfold DX alls;rw[sameSL_alls a b]
 |[],_::_=>by unfold DX alls;rfl
 |_::_,[]=>by unfold DX alls;rfl
def sameC (a b:Gc):Bool:=decide (a.kind=b.kind) && decide (a.name=b.name)
def sameP (a b:Gp):Bool:=decide (a.pool=b.pool) && (alls sameC a.conts b.conts && alls DX a.threads b.threads)
def SaysM (x:Gs):Prop:=∀(y:Gs) (w:World) (S T:Nat→Prop) (vs us:List Value),SAt w S vs x→SAt w T us y→
 Calls Tryz.prog 53 #[.agg vs.toArray,.agg us.toArray] w fun e w'=>e=.returned (.bool (sameS x y))∧BA (fun _=>False) w w'
theorem equalS_any (l m:List (Gs))(hS:∀i (h:i<l.length),SaysM l[i])(hl:l.length≤1099511627776)(w:World)(S T:Nat→Prop)(p q:Option Addr)(c d:Nat)(hp:DV w S p 0 l)(hq:DV w T q 0 m):
  Calls Tryz.prog 52 #[.slice p l.length c,.slice q m.length d,.func (.func 53) #[] #[]] w fun e w'=>e=.returned (.bool (alls sameS l m))∧BA (fun _=>False) w w':=by
 have HP:=hid hp;have HQ:=hid hq
 clear hp hq
 by_cases hne:l.length=m.length
 ·have hnb:((l.length:Int) != (m.length:Int))=false:=by simp[hne]
  have HNE:=hid hne
  clear hne
  go_enter Tryz.func52,Tryz.ntmps52
  go_wp2_with fail
  clear hnb
  go_loopw [17] (fun v17 wr=>∃i:Nat,v17=.int .i64 i∧i≤l.length∧(∀j,(hj:j<i)→(h:j<l.length)→(h':j<m.length)→sameS l[j] m[j]=true)∧BA (fun _=>False) w wr) (fun v _=>l.length - (intOf v).toNat)
  case atStart=>exact⟨0,rfl,Nat.zero_le _,fun j h=>absurd h (Nat.not_lt_zero _),BA.refl _ _⟩
  case round=>
   obtain⟨i,rfl,hi,hall,hk⟩:=hrel
   have HALL:=hid hall;have HK:=hid hk
   by_cases hlt:i<l.length
   ·have hltm:i<m.length:=by have:=HNE.out;omega
    have hlti:(i:Int)<l.length:=by omega
    have hltj:(i:Int)<m.length:=by omega
    have hi0:(0:Int)≤i:=by omega
    have hWi:IntKind.i64.wrap ((i:Int)+1)=(i:Int)+1:=IntWalk.i64_in _ (by omega)
    obtain⟨g,o,vs,hp,hc,hex,-⟩:=skids_get (HP.out.keep hk fun _ _ e=>e) i hlt
    subst hp
    rw[Nat.zero_add]at hc
    obtain⟨yk,ys,yz,yo,yv,yi,yt,yp1,ym1,yc1,yp2,ym2,yc2,yp3,ym3,yc3,yl,ycl,rfl⟩:=s_form hex
    have x0:wr.cell? ⟨g,o+i * 12,none⟩=some _:=hc 0 _ rfl
    have x1:=hc 1 _ rfl;have x2:=hc 2 _ rfl;have x3:=hc 3 _ rfl;have x4:=hc 4 _ rfl;have x5:=hc 5 _ rfl;have x6:=hc 6 _ rfl;have x7:=hc 7 _ rfl;have x8:=hc 8 _ rfl;have x9:=hc 9 _ rfl;have x10:=hc 10 _ rfl;have x11:=hc 11 _ rfl
    obtain⟨W,C,hW,hC,hcb,hkc,hsc⟩:=BC wr (.cells #[.int .i64 yk,.string ys,.int .i64 yz,.int .i64 yo,.string yv,.string yi,.string yt,.slice yp1 ym1 yc1,.slice yp2 ym2 yc2,.slice yp3 ym3 yc3,.int .i64 yl,.int .i64 ycl] TSm)
    obtain⟨g2,o2,us,hq,hc2,hex2,-⟩:=skids_get (HQ.out.keep (hk.trans hkc) fun _ _ e=>e) i hltm
    subst hq
    rw[Nat.zero_add]at hc2
    obtain⟨zk,zs,zz,zo,zv,zi,zt,zp1,zm1,zc1,zp2,zm2,zc2,zp3,zm3,zc3,zl,zcl,rfl⟩:=s_form hex2
    have y0:W.cell? ⟨g2,o2+i * 12,none⟩=some _:=hc2 0 _ rfl
    have y1:=hc2 1 _ rfl;have y2:=hc2 2 _ rfl;have y3:=hc2 3 _ rfl;have y4:=hc2 4 _ rfl;have y5:=hc2 5 _ rfl;have y6:=hc2 6 _ rfl;have y7:=hc2 7 _ rfl;have y8:=hc2 8 _ rfl;have y9:=hc2 9 _ rfl;have y10:=hc2 10 _ rfl;have y11:=hc2 11 _ rfl
    obtain⟨W2,D,hW2,hD,hdb,hkd,hsd⟩:=BC W (.cells #[.int .i64 zk,.string zs,.int .i64 zz,.int .i64 zo,.string zv,.string zi,.string zt,.slice zp1 zm1 zc1,.slice zp2 zm2 zc2,.slice zp3 zm3 zc3,.int .i64 zl,.int .i64 zcl] TSm)
    have HCA:=hid (hS i hlt m[i] W2 S T _ _ ((hex.keep hkc fun _ _ e=>e).keep hkd fun _ _ e=>e) (hex2.keep hkd fun _ _ e=>e))
    have HKC:=hid (hkc.trans hkd)
    obtain⟨m0,m1,m2,m3,m4,m5,m6,m7,m8,m9,m10,m11⟩:=BH (hkd.blk hcb)
    obtain⟨n0,n1,n2,n3,n4,n5,n6,n7,n8,n9,n10,n11⟩:=BH hdb
    clear hS hc hex hc2 hex2 hsc hsd hcb hdb hkc hkd
    have HAT:=hid (fun e=>alls_at (f:=sameS) (a:=l) (b:=m) i hlt hltm e)
    obtain⟨r,hr⟩:∃r,sameS l[i] m[i]=r:=⟨_,rfl⟩
    rw[hr]at HCA
    have HR:=hid hr
    clear hk hall hr
    go_upto_region 6 with fail
    rw[←hW,←hC]
    clear hW hC x0 x1 x2 x3 x4 x5 x6 x7 x8 x9 x10 x11
    go_upto_region 7 with fail
    rw[←hW2,←hD]
    clear hW2 hD y0 y1 y2 y3 y4 y5 y6 y7 y8 y9 y10 y11
    cases r with
    | true=>
     go_wp2_with (go_at_call 53;refine HCA.out.mono ?_;rintro e w5 ⟨rfl,hk5⟩;have HK5:=hid hk5;clear hk5)
     exact⟨⟨i+1,by simp,by omega,fun j hj h h'=>by
      by_cases e:j=i
      ·subst e;exact HR.out
      ·exact HALL.out j (by omega) h h',(HK.out.trans HKC.out).trans HK5.out⟩,by simp only[intOf];omega⟩
    | false=>
     go_wp2_with (go_at_call 53;refine HCA.out.mono ?_;rintro e w5 ⟨rfl,hk5⟩;have HK5:=hid hk5;clear hk5)
     go_ret
     exact⟨by rw[HAT.out HR.out];rfl,(HK.out.trans HKC.out).trans HK5.out⟩
   ·have hnl:¬(i:Int)<l.length:=by omega
    clear hk hall
    go_wp2_with fail
    go_ret
    exact⟨by rw[alls_all HNE.out fun j h h'=>HALL.out j (by omega) h h'];rfl,HK.out⟩
 ·have hnb:((l.length:Int) != (m.length:Int))=true:=by simpa using fun e:(l.length:Int)=m.length=>hne (by omega)
  have HNE:=hid hne
  clear hne
  go_enter Tryz.func52,Tryz.ntmps52
  go_wp2_with fail
  go_ret
  exact⟨by rw[alls_len HNE.out];rfl,BA.refl _ _⟩
theorem saysM_any:∀(n:Nat) (x:Gs),CS x≤n→n≤1099511627776→SaysM x:=by
 intro n
 induction n with
 |zero=>intro x hx;cases x;unfold CS at hx;omega
 | succ n ih=>
  intro x hx hn y w S T vs us hex hey
  obtain⟨xk,xnm,xsz,xop,xval,xinto,xcont,xxs,xth,xel,xl,xc⟩:=x
  obtain⟨yk,ynm,ysz,yop,yval,yinto,ycont,yxs,yth,yel,yl,yc⟩:=y
  unfold SAt at hex hey
  obtain⟨xp1,xc1,xp2,xc2,xp3,xc3,rfl,hx1,hx2,hx3⟩:=hex
  obtain⟨yp1,yc1,yp2,yc2,yp3,yc3,rfl,hy1,hy2,hy3⟩:=hey
  have hsz:BO xxs+BN xth+BN xel≤n:=by unfold CS at hx;omega
  have hlen:=glen_size xxs
  have hlen2:=FV xth
  have hlen3:=FV xel
  obtain⟨V1,B1,hV1,hB1,hb1,hk1,hs1⟩:=BC w (.cells #[.int .i64 xk,strV xnm,.int .i64 xsz,.int .i64 xop,strV xval,strV xinto,strV xcont,.slice xp1 xxs.length xc1,.slice xp2 xth.length xc2,.slice xp3 xel.length xc3,.int .i64 xl,.int .i64 xc] TSm)
  obtain⟨V,B2,hV,hB2,hb2,hk2,hs2⟩:=BC V1 (.cells #[.int .i64 yk,strV ynm,.int .i64 ysz,.int .i64 yop,strV yval,strV yinto,strV ycont,.slice yp1 yxs.length yc1,.slice yp2 yth.length yc2,.slice yp3 yel.length yc3,.int .i64 yl,.int .i64 yc] TSm)
  have hk:=hk1.trans hk2
  have HE1:=hid (equalG_any xxs yxs (fun i h=>saysG_any n xxs[i] (by have:=gsize_mem h;omega) (by omega)) (by omega) V S T xp1 yp1 xc1 yc1 (hx1.keep hk fun _ _ e=>e) (hy1.keep hk fun _ _ e=>e))
  have HE2:=hid fun (V':World) (k':BA (fun _=>False) V V')=>equalS_any xth yth (fun i h=>ih xth[i] (by have:=GA h;omega) (by omega)) (by omega) V' S T xp2 yp2 xc2 yc2 ((hx2.keep hk fun _ _ e=>e).keep k' fun _ _ e=>e) ((hy2.keep hk fun _ _ e=>e).keep k' fun _ _ e=>e)
  have HE3:=hid fun (V':World) (k':BA (fun _=>False) V V')=>equalS_any xel yel (fun i h=>ih xel[i] (by have:=GA h;omega) (by omega)) (by omega) V' S T xp3 yp3 xc3 yc3 ((hx3.keep hk fun _ _ e=>e).keep k' fun _ _ e=>e) ((hy3.keep hk fun _ _ e=>e).keep k' fun _ _ e=>e)
  have h12:B1+1=B2:=by omega
  have HK:=hid hk;have HB1:=hid (hk2.blk hb1);have HB2:=hid hb2
  obtain⟨r1,hr1⟩:∃b,DM xxs yxs=b:=⟨_,rfl⟩
  obtain⟨r2,hr2⟩:∃b,alls sameS xth yth=b:=⟨_,rfl⟩
  obtain⟨r3,hr3⟩:∃b,alls sameS xel yel=b:=⟨_,rfl⟩
  have hsame:sameS (.mk xk xnm xsz xop xval xinto xcont xxs xth xel xl xc) (.mk yk ynm ysz yop yval yinto ycont yxs yth yel yl yc)=(decide (xk=yk) && (decide (xnm=ynm) && (decide (xsz=ysz) && (decide (xop=yop) && (decide (xval=yval) && (decide (xinto=yinto) && (decide (xcont=ycont) && (r1 && (r2 && r3))))))))):=by unfold sameS;rw[hr1,sameSL_alls,sameSL_alls,hr2,hr3]
  rw[hsame]
  rw[hr1]at HE1
  rw[hr2]at HE2
  rw[hr3]at HE3
  unfold strV at HB1 HB2 hV1 hV ⊢
  clear ih hx hn hx1 hx2 hx3 hy1 hy2 hy3 hsz hlen hlen2 hlen3 hb1 hb2 hk1 hk2 hs1 hs2 hk hsame hr1 hr2 hr3
  by_cases h0:xk=yk
  ·subst h0
   rw[decide_eq_true (rfl:xk=xk),Bool.true_and]
   by_cases h1:xnm=ynm
   ·subst h1
    rw[decide_eq_true (rfl:xnm=xnm),Bool.true_and]
    by_cases h2:xsz=ysz
    ·subst h2
     rw[decide_eq_true (rfl:xsz=xsz),Bool.true_and]
     by_cases h3:xop=yop
     ·subst h3
      rw[decide_eq_true (rfl:xop=xop),Bool.true_and]
      by_cases h4:xval=yval
      ·subst h4
       rw[decide_eq_true (rfl:xval=xval),Bool.true_and]
       by_cases h5:xinto=yinto
       ·subst h5
        rw[decide_eq_true (rfl:xinto=xinto),Bool.true_and]
        by_cases h6:xcont=ycont
        ·subst h6
         rw[decide_eq_true (rfl:xcont=xcont),Bool.true_and]
         obtain⟨n0,n1,n2,n3,n4,n5,n6,n7,n8,n9,n10,n11⟩:=BH (HB1.out)
         obtain⟨m0,m1,m2,m3,m4,m5,m6,m7,m8,m9,m10,m11⟩:=BH (HB2.out)
         go_enter Tryz.func53,Tryz.ntmps53
         go_upto_region 1 with fail
         rw[←hV1,←hB1,←hV,h12]
         clear hV1 hB1 hV hB2 h12
         go_wp2_with fail
         go_at_call 35
         refine HE1.out.mono ?_
         rintro e W1 ⟨rfl,hk1⟩
         have HK1:=hid hk1
         clear n0 n1 n2 n3 n4 n5 n6 n7 n8 n9 n10 n11 m0 m1 m2 m3 m4 m5 m6 m7 m8 m9 m10 m11
         obtain⟨n0,n1,n2,n3,n4,n5,n6,n7,n8,n9,n10,n11⟩:=BH (hk1.blk HB1.out)
         obtain⟨m0,m1,m2,m3,m4,m5,m6,m7,m8,m9,m10,m11⟩:=BH (hk1.blk HB2.out)
         clear hk1
         cases r1 with
         | false=>
          go_wp2_with fail
          go_ret
          exact⟨rfl,HK.out.trans HK1.out⟩
         | true=>
          go_wp2_with fail
          go_at_call 52
          refine(HE2.out W1 HK1.out).mono ?_
          rintro e W2 ⟨rfl,hk2⟩
          have HK2:=hid (HK1.out.trans hk2)
          clear n0 n1 n2 n3 n4 n5 n6 n7 n8 n9 n10 n11 m0 m1 m2 m3 m4 m5 m6 m7 m8 m9 m10 m11 hk2
          obtain⟨n0,n1,n2,n3,n4,n5,n6,n7,n8,n9,n10,n11⟩:=BH (HK2.out.blk HB1.out)
          obtain⟨m0,m1,m2,m3,m4,m5,m6,m7,m8,m9,m10,m11⟩:=BH (HK2.out.blk HB2.out)
          cases r2 with
          | false=>
           go_wp2_with fail
           go_ret
           exact⟨rfl,HK.out.trans HK2.out⟩
          | true=>
           go_wp2_with fail
           go_at_call 52
           refine(HE3.out W2 HK2.out).mono ?_
           rintro e W3 ⟨rfl,hk3⟩
           have HK3:=hid (HK2.out.trans hk3)
           clear hk3
           go_wp2_with fail
           go_ret
           exact⟨rfl,HK.out.trans HK3.out⟩
        ·rw[decide_eq_false h6,Bool.false_and]
         obtain⟨n0,n1,n2,n3,n4,n5,n6,n7,n8,n9,n10,n11⟩:=BH (HB1.out)
         obtain⟨m0,m1,m2,m3,m4,m5,m6,m7,m8,m9,m10,m11⟩:=BH (HB2.out)
         go_enter Tryz.func53,Tryz.ntmps53
         go_upto_region 1 with fail
         rw[←hV1,←hB1,←hV,h12]
         clear hV1 hB1 hV hB2 h12
         go_wp2_with fail
         go_ret
         exact⟨rfl,HK.out⟩
       ·rw[decide_eq_false h5,Bool.false_and]
        obtain⟨n0,n1,n2,n3,n4,n5,n6,n7,n8,n9,n10,n11⟩:=BH (HB1.out)
        obtain⟨m0,m1,m2,m3,m4,m5,m6,m7,m8,m9,m10,m11⟩:=BH (HB2.out)
        go_enter Tryz.func53,Tryz.ntmps53
        go_upto_region 1 with fail
        rw[←hV1,←hB1,←hV,h12]
        clear hV1 hB1 hV hB2 h12
        go_wp2_with fail
        go_ret
        exact⟨rfl,HK.out⟩
      ·rw[decide_eq_false h4,Bool.false_and]
       obtain⟨n0,n1,n2,n3,n4,n5,n6,n7,n8,n9,n10,n11⟩:=BH (HB1.out)
       obtain⟨m0,m1,m2,m3,m4,m5,m6,m7,m8,m9,m10,m11⟩:=BH (HB2.out)
       go_enter Tryz.func53,Tryz.ntmps53
       go_upto_region 1 with fail
       rw[←hV1,←hB1,←hV,h12]
       clear hV1 hB1 hV hB2 h12
       go_wp2_with fail
       go_ret
       exact⟨rfl,HK.out⟩
     ·rw[decide_eq_false h3,Bool.false_and]
      have h3b:((xop:Int)==(yop:Int))=false:=by rw[BF];omega
      obtain⟨n0,n1,n2,n3,n4,n5,n6,n7,n8,n9,n10,n11⟩:=BH (HB1.out)
      obtain⟨m0,m1,m2,m3,m4,m5,m6,m7,m8,m9,m10,m11⟩:=BH (HB2.out)
      go_enter Tryz.func53,Tryz.ntmps53
      go_upto_region 1 with fail
      rw[←hV1,←hB1,←hV,h12]
      clear hV1 hB1 hV hB2 h12
      go_wp2_with fail
      go_ret
      exact⟨rfl,HK.out⟩
    ·rw[decide_eq_false h2,Bool.false_and]
     have h2b:((xsz:Int)==(ysz:Int))=false:=by rw[BF];omega
     obtain⟨n0,n1,n2,n3,n4,n5,n6,n7,n8,n9,n10,n11⟩:=BH (HB1.out)
     obtain⟨m0,m1,m2,m3,m4,m5,m6,m7,m8,m9,m10,m11⟩:=BH (HB2.out)
     go_enter Tryz.func53,Tryz.ntmps53
     go_upto_region 1 with fail
     rw[←hV1,←hB1,←hV,h12]
     clear hV1 hB1 hV hB2 h12
     go_wp2_with fail
     go_ret
     exact⟨rfl,HK.out⟩
   ·rw[decide_eq_false h1,Bool.false_and]
    obtain⟨n0,n1,n2,n3,n4,n5,n6,n7,n8,n9,n10,n11⟩:=BH (HB1.out)
    obtain⟨m0,m1,m2,m3,m4,m5,m6,m7,m8,m9,m10,m11⟩:=BH (HB2.out)
    go_enter Tryz.func53,Tryz.ntmps53
    go_upto_region 1 with fail
    rw[←hV1,←hB1,←hV,h12]
    clear hV1 hB1 hV hB2 h12
    go_wp2_with fail
    go_ret
    exact⟨rfl,HK.out⟩
  ·rw[decide_eq_false h0,Bool.false_and]
   have h0b:((xk:Int)==(yk:Int))=false:=by rw[BF];omega
   obtain⟨n0,n1,n2,n3,n4,n5,n6,n7,n8,n9,n10,n11⟩:=BH (HB1.out)
   obtain⟨m0,m1,m2,m3,m4,m5,m6,m7,m8,m9,m10,m11⟩:=BH (HB2.out)
   go_enter Tryz.func53,Tryz.ntmps53
   go_upto_region 1 with fail
   rw[←hV1,←hB1,←hV,h12]
   clear hV1 hB1 hV hB2 h12
   go_wp2_with fail
   go_ret
   exact⟨rfl,HK.out⟩
theorem sameC_any (a b:Gc)(w:World):Calls Tryz.prog 50 #[gcV a,gcV b] w fun e w'=>e=.returned (.bool (sameC a b))∧BA (fun _=>False) w w':=by
 obtain⟨ak,an,al,ac⟩:=a
 obtain⟨bk,bn,bl,bc⟩:=b
 unfold gcV sameC
 dsimp only
 obtain⟨V1,B1,hV1,hB1,hb1,hk1,hs1⟩:=BC w (.cells #[.int .i64 ak,strV an,.int .i64 al,.int .i64 ac] TCt)
 obtain⟨V,B2,hV,hB2,hb2,hk2,hs2⟩:=BC V1 (.cells #[.int .i64 bk,strV bn,.int .i64 bl,.int .i64 bc] TCt)
 have HK:=hid (hk1.trans hk2)
 have h12:B1+1=B2:=by omega
 have HB1:=hid (hk2.blk hb1);have HB2:=hid hb2
 unfold strV at HB1 HB2 hV1 hV ⊢
 clear hb1 hb2 hk1 hk2 hs1 hs2
 by_cases h1:ak=bk
 ·subst h1
  rw[decide_eq_true (rfl:ak=ak),Bool.true_and]
  by_cases h2:an=bn
  ·subst h2
   rw[decide_eq_true (rfl:an=an)]
   obtain⟨n0,n1,n2,n3⟩:=blk4 HB1.out
   obtain⟨m0,m1,m2,m3⟩:=blk4 HB2.out
   go_enter Tryz.func50,Tryz.ntmps50
   go_upto_region 1 with fail
   rw[←hV1,←hB1,←hV,h12]
   clear hV1 hB1 hV hB2 h12
   go_wp2_with fail
   go_ret
   exact⟨rfl,HK.out⟩
  ·rw[decide_eq_false h2]
   obtain⟨n0,n1,n2,n3⟩:=blk4 HB1.out
   obtain⟨m0,m1,m2,m3⟩:=blk4 HB2.out
   go_enter Tryz.func50,Tryz.ntmps50
   go_upto_region 1 with fail
   rw[←hV1,←hB1,←hV,h12]
   clear hV1 hB1 hV hB2 h12
   go_wp2_with fail
   go_ret
   exact⟨by show Ending.returned (.bool (an==bn))=_;rw[show (an==bn)=false from BF.2 h2],HK.out⟩
 ·rw[decide_eq_false h1,Bool.false_and]
  have h1b:((ak:Int)==(bk:Int))=false:=by rw[BF];omega
  obtain⟨n0,n1,n2,n3⟩:=blk4 HB1.out
  obtain⟨m0,m1,m2,m3⟩:=blk4 HB2.out
  go_enter Tryz.func50,Tryz.ntmps50
  go_upto_region 1 with fail
  rw[←hV1,←hB1,←hV,h12]
  clear hV1 hB1 hV hB2 h12
  go_wp2_with fail
  go_ret
  exact⟨rfl,HK.out⟩
theorem equalC_any (l m:List (Gc))  (hl:l.length≤1099511627776)(w:World)(S T:Nat→Prop)(p q:Option Addr)(c d:Nat)(hp:GCts w S p l)(hq:GCts w T q m):
  Calls Tryz.prog 54 #[.slice p l.length c,.slice q m.length d,.func (.func 50) #[] #[]] w fun e w'=>e=.returned (.bool (alls sameC l m))∧BA (fun _=>False) w w':=by
 have HP:=hid hp;have HQ:=hid hq
 clear hp hq
 by_cases hne:l.length=m.length
 ·have hnb:((l.length:Int) != (m.length:Int))=false:=by simp[hne]
  have HNE:=hid hne
  clear hne
  go_enter Tryz.func54,Tryz.ntmps54
  go_wp2_with fail
  clear hnb
  go_loopw [17] (fun v17 wr=>∃i:Nat,v17=.int .i64 i∧i≤l.length∧(∀j,(hj:j<i)→(h:j<l.length)→(h':j<m.length)→sameC l[j] m[j]=true)∧BA (fun _=>False) w wr) (fun v _=>l.length - (intOf v).toNat)
  case atStart=>exact⟨0,rfl,Nat.zero_le _,fun j h=>absurd h (Nat.not_lt_zero _),BA.refl _ _⟩
  case round=>
   obtain⟨i,rfl,hi,hall,hk⟩:=hrel
   have HALL:=hid hall;have HK:=hid hk
   by_cases hlt:i<l.length
   ·have hltm:i<m.length:=by have:=HNE.out;omega
    have hlti:(i:Int)<l.length:=by omega
    have hltj:(i:Int)<m.length:=by omega
    have hi0:(0:Int)≤i:=by omega
    have hWi:IntKind.i64.wrap ((i:Int)+1)=(i:Int)+1:=IntWalk.i64_in _ (by omega)
    obtain⟨g,o,hp,-,y0,y1,y2,y3⟩:=(HP.out.keep hk fun _ _ e=>e) i hlt
    subst hp
    obtain⟨S1,hS1⟩:∃s,strV l[i].name=.string s:=⟨_,rfl⟩
    obtain⟨i1,hi1⟩:∃s,l[i].kind=s:=⟨_,rfl⟩
    obtain⟨i2,hi2⟩:∃s,l[i].line=s:=⟨_,rfl⟩
    obtain⟨i3,hi3⟩:∃s,l[i].col=s:=⟨_,rfl⟩
    rw[hi1]at y0
    rw[hS1]at y1
    rw[hi2]at y2
    rw[hi3]at y3
    obtain⟨W,C,hW,hC,hcb,hkc,hsc⟩:=BC wr (.cells #[.int .i64 i1,.string S1,.int .i64 i2,.int .i64 i3] TCt)
    obtain⟨g2,o2,hq,-,z0,z1,z2,z3⟩:=(HQ.out.keep (hk.trans hkc) fun _ _ e=>e) i hltm
    subst hq
    obtain⟨S2,hS2⟩:∃s,strV m[i].name=.string s:=⟨_,rfl⟩
    obtain⟨j1,hj1⟩:∃s,m[i].kind=s:=⟨_,rfl⟩
    obtain⟨j2,hj2⟩:∃s,m[i].line=s:=⟨_,rfl⟩
    obtain⟨j3,hj3⟩:∃s,m[i].col=s:=⟨_,rfl⟩
    rw[hj1]at z0
    rw[hS2]at z1
    rw[hj2]at z2
    rw[hj3]at z3
    obtain⟨W2,D,hW2,hD,hdb,hkd,hsd⟩:=BC W (.cells #[.int .i64 j1,.string S2,.int .i64 j2,.int .i64 j3] TCt)
    have HCA:=hid (sameC_any l[i] m[i] W2)
    unfold gcV at HCA
    rw[hS1,hi1,hi2,hi3,hS2,hj1,hj2,hj3]at HCA
    have HKC:=hid (hkc.trans hkd)
    obtain⟨m0,m1,m2,m3⟩:=blk4 (hkd.blk hcb)
    obtain⟨n0,n1,n2,n3⟩:=blk4 hdb
    clear hcb hdb hkc hkd hsc hsd hS1 hi1 hi2 hi3 hS2 hj1 hj2 hj3
    have HAT:=hid (fun e=>alls_at (f:=sameC) (a:=l) (b:=m) i hlt hltm e)
    obtain⟨r,hr⟩:∃r,sameC l[i] m[i]=r:=⟨_,rfl⟩
    rw[hr]at HCA
    have HR:=hid hr
    clear hk hall hr
    go_upto_region 6 with fail
    rw[←hW,←hC]
    clear hW hC y0 y1 y2 y3
    go_upto_region 7 with fail
    rw[←hW2,←hD]
    clear hW2 hD z0 z1 z2 z3
    cases r with
    | true=>
     go_wp2_with (go_at_call 50;refine HCA.out.mono ?_;rintro e w5 ⟨rfl,hk5⟩;have HK5:=hid hk5;clear hk5)
     exact⟨⟨i+1,by simp,by omega,fun j hj h h'=>by
      by_cases e:j=i
      ·subst e;exact HR.out
      ·exact HALL.out j (by omega) h h',(HK.out.trans HKC.out).trans HK5.out⟩,by simp only[intOf];omega⟩
    | false=>
     go_wp2_with (go_at_call 50;refine HCA.out.mono ?_;rintro e w5 ⟨rfl,hk5⟩;have HK5:=hid hk5;clear hk5)
     go_ret
     exact⟨by rw[HAT.out HR.out];rfl,(HK.out.trans HKC.out).trans HK5.out⟩
   ·have hnl:¬(i:Int)<l.length:=by omega
    clear hk hall
    go_wp2_with fail
    go_ret
    exact⟨by rw[alls_all HNE.out fun j h h'=>HALL.out j (by omega) h h'];rfl,HK.out⟩
 ·have hnb:((l.length:Int) != (m.length:Int))=true:=by simpa using fun e:(l.length:Int)=m.length=>hne (by omega)
  have HNE:=hid hne
  clear hne
  go_enter Tryz.func54,Tryz.ntmps54
  go_wp2_with fail
  go_ret
  exact⟨by rw[alls_len HNE.out];rfl,BA.refl _ _⟩
theorem sameT_any (l m:List Gs)(hl:BN l≤1099511627776)(w:World)(S T:Nat→Prop)(p q:Option Addr)(c d:Nat)(hp:DV w S p 0 l)(hq:DV w T q 0 m):
  Calls Tryz.prog 51 #[.slice p l.length c,.slice q m.length d] w fun e w'=>e=.returned (.bool (DX l m))∧BA (fun _=>False) w w':=by
 have hlen:=FV l
 have HE:=hid (equalS_any l m (fun i h=>saysM_any _ l[i] (by have:=GA h;omega) (Nat.le_refl _)) (by omega) w S T p q c d hp hq)
 rw[sameSL_alls]
 clear hp hq hl hlen
 go_enter Tryz.func51,Tryz.ntmps51
 go_wp2_with (go_at_call 52;refine HE.out.mono ?_;rintro e w5 ⟨rfl,hk5⟩;have HK5:=hid hk5;clear hk5)
 go_ret
 exact⟨rfl,HK5.out⟩
theorem equalT_any (l m:List (List Gs))(hS:∀i (h:i<l.length),BN l[i]≤1099511627776)(hl:l.length≤1099511627776)(w:World)(S T:Nat→Prop)(p q:Option Addr)(c d:Nat)(hp:GThs w S p l)(hq:GThs w T q m):
  Calls Tryz.prog 55 #[.slice p l.length c,.slice q m.length d,.func (.func 51) #[] #[]] w fun e w'=>e=.returned (.bool (alls DX l m))∧BA (fun _=>False) w w':=by
 have HP:=hid hp;have HQ:=hid hq
 clear hp hq
 by_cases hne:l.length=m.length
 ·have hnb:((l.length:Int) != (m.length:Int))=false:=by simp[hne]
  have HNE:=hid hne
  clear hne
  go_enter Tryz.func55,Tryz.ntmps55
  go_wp2_with fail
  clear hnb
  go_loopw [17] (fun v17 wr=>∃i:Nat,v17=.int .i64 i∧i≤l.length∧(∀j,(hj:j<i)→(h:j<l.length)→(h':j<m.length)→DX l[j] m[j]=true)∧BA (fun _=>False) w wr) (fun v _=>l.length - (intOf v).toNat)
  case atStart=>exact⟨0,rfl,Nat.zero_le _,fun j h=>absurd h (Nat.not_lt_zero _),BA.refl _ _⟩
  case round=>
   obtain⟨i,rfl,hi,hall,hk⟩:=hrel
   have HALL:=hid hall;have HK:=hid hk
   by_cases hlt:i<l.length
   ·have hltm:i<m.length:=by have:=HNE.out;omega
    have hlti:(i:Int)<l.length:=by omega
    have hltj:(i:Int)<m.length:=by omega
    have hi0:(0:Int)≤i:=by omega
    have hWi:IntKind.i64.wrap ((i:Int)+1)=(i:Int)+1:=IntWalk.i64_in _ (by omega)
    obtain⟨g,o,q1,c1,hp,-,y0,hsk⟩:=(HP.out.keep hk fun _ _ e=>e) i hlt
    subst hp
    obtain⟨g2,o2,q2,c2,hq,-,z0,hsk2⟩:=(HQ.out.keep hk fun _ _ e=>e) i hltm
    subst hq
    have HCA:=hid (sameT_any l[i] m[i] (hS i hlt) wr S T q1 q2 c1 c2 hsk hsk2)
    have HKC:=hid (BA.refl (fun _=>False) wr)
    clear hsk hsk2 hS
    have HAT:=hid (fun e=>alls_at (f:=DX) (a:=l) (b:=m) i hlt hltm e)
    obtain⟨r,hr⟩:∃r,DX l[i] m[i]=r:=⟨_,rfl⟩
    rw[hr]at HCA
    have HR:=hid hr
    clear hk hall hr
    cases r with
    | true=>
     go_wp2_with (go_at_call 51;refine HCA.out.mono ?_;rintro e w5 ⟨rfl,hk5⟩;have HK5:=hid hk5;clear hk5)
     exact⟨⟨i+1,by simp,by omega,fun j hj h h'=>by
      by_cases e:j=i
      ·subst e;exact HR.out
      ·exact HALL.out j (by omega) h h',(HK.out.trans HKC.out).trans HK5.out⟩,by simp only[intOf];omega⟩
    | false=>
     go_wp2_with (go_at_call 51;refine HCA.out.mono ?_;rintro e w5 ⟨rfl,hk5⟩;have HK5:=hid hk5;clear hk5)
     go_ret
     exact⟨by rw[HAT.out HR.out];rfl,(HK.out.trans HKC.out).trans HK5.out⟩
   ·have hnl:¬(i:Int)<l.length:=by omega
    clear hk hall
    go_wp2_with fail
    go_ret
    exact⟨by rw[alls_all HNE.out fun j h h'=>HALL.out j (by omega) h h'];rfl,HK.out⟩
 ·have hnb:((l.length:Int) != (m.length:Int))=true:=by simpa using fun e:(l.length:Int)=m.length=>hne (by omega)
  have HNE:=hid hne
  clear hne
  go_enter Tryz.func55,Tryz.ntmps55
  go_wp2_with fail
  go_ret
  exact⟨by rw[alls_len HNE.out];rfl,BA.refl _ _⟩
def PairP (x y:Gp):Prop:=x.conts.length≤1099511627776∧x.threads.length≤1099511627776∧∀i (h:i<x.threads.length),BN x.threads[i]≤1099511627776
theorem same_any (x y:Gp)(hxy:PairP x y)(w:World)(S T:Nat→Prop)(vx vy:Value)(hx:PAt w S vx x)(hy:PAt w T vy y):
  Calls Tryz.prog 21 #[vx,vy] w fun e w'=>e=.returned (.bool (sameP x y))∧BA (fun _=>False) w w':=by
 obtain⟨xpool,xcs,xts⟩:=x
 obtain⟨ypool,ycs,yts⟩:=y
 obtain⟨xp1,xc1,xp2,xc2,rfl,hx1,hx2⟩:=hx
 obtain⟨yp1,yc1,yp2,yc2,rfl,hy1,hy2⟩:=hy
 obtain⟨hl1,hl2,hl3⟩:=hxy
 unfold sameP
 dsimp only at *
 obtain⟨V1,B1,hV1,hB1,hb1,hk1,hs1⟩:=BC w (.cells #[.int .i64 xpool,.slice xp1 xcs.length xc1,.slice xp2 xts.length xc2] TPr)
 obtain⟨V,B2,hV,hB2,hb2,hk2,hs2⟩:=BC V1 (.cells #[.int .i64 ypool,.slice yp1 ycs.length yc1,.slice yp2 yts.length yc2] TPr)
 have hk:=hk1.trans hk2
 have HE1:=hid (equalC_any xcs ycs hl1 V S T xp1 yp1 xc1 yc1 (hx1.keep hk fun _ _ e=>e) (hy1.keep hk fun _ _ e=>e))
 have HE2:=hid fun (V':World) (k':BA (fun _=>False) V V')=>equalT_any xts yts hl3 hl2 V' S T xp2 yp2 xc2 yc2 ((hx2.keep hk fun _ _ e=>e).keep k' fun _ _ e=>e) ((hy2.keep hk fun _ _ e=>e).keep k' fun _ _ e=>e)
 have h12:B1+1=B2:=by omega
 have HK:=hid hk;have HB1:=hid (hk2.blk hb1);have HB2:=hid hb2
 obtain⟨r1,hr1⟩:∃b,alls sameC xcs ycs=b:=⟨_,rfl⟩
 obtain⟨r2,hr2⟩:∃b,alls DX xts yts=b:=⟨_,rfl⟩
 rw[hr1,hr2]
 rw[hr1]at HE1
 rw[hr2]at HE2
 clear hl1 hl2 hl3 hx1 hx2 hy1 hy2 hb1 hb2 hk1 hk2 hs1 hs2 hk hr1 hr2
 by_cases h1:xpool=ypool
 ·subst h1
  rw[decide_eq_true (rfl:xpool=xpool),Bool.true_and]
  obtain⟨n0,n1,n2,-⟩:=BY (HB1.out)
  obtain⟨m0,m1,m2,-⟩:=BY (HB2.out)
  go_enter Tryz.func21,Tryz.ntmps21
  go_upto_region 3 with fail
  rw[←hV1,←hB1,←hV,h12]
  clear hV1 hB1 hV hB2 h12
  go_wp2_with fail
  go_at_call 54
  refine HE1.out.mono ?_
  rintro e W1 ⟨rfl,hk1⟩
  have HK1:=hid hk1
  clear n0 n1 n2 m0 m1 m2
  obtain⟨n0,n1,n2,-⟩:=BY (hk1.blk HB1.out)
  obtain⟨m0,m1,m2,-⟩:=BY (hk1.blk HB2.out)
  clear hk1
  cases r1 with
  | false=>
   go_wp2_with fail
   go_ret
   exact⟨rfl,HK.out.trans HK1.out⟩
  | true=>
   go_wp2_with fail
   go_at_call 55
   refine(HE2.out W1 HK1.out).mono ?_
   rintro e W2 ⟨rfl,hk2⟩
   have HK2:=hid (HK1.out.trans hk2)
   clear hk2
   go_wp2_with fail
   go_ret
   exact⟨rfl,HK.out.trans HK2.out⟩
 ·rw[decide_eq_false h1,Bool.false_and]
  have h1b:((xpool:Int)==(ypool:Int))=false:=by rw[BF];omega
  obtain⟨n0,n1,n2,-⟩:=BY (HB1.out)
  obtain⟨m0,m1,m2,-⟩:=BY (HB2.out)
  go_enter Tryz.func21,Tryz.ntmps21
  go_upto_region 3 with fail
  rw[←hV1,←hB1,←hV,h12]
  clear hV1 hB1 hV hB2 h12
  go_wp2_with fail
  go_ret
  exact⟨rfl,HK.out⟩
abbrev TNd:TypeId:=156
abbrev nd (a b c:Bool)(n:Int)(d e:Bool):Array Value:=#[.bool a,.bool b,.bool c,.int .i64 n,.bool d,.bool e]
def needV (k op:Int):Array Value:=
 if k=1∨k=3 then nd true false false 1 false false
 else if k=2 then nd true true false 0 false false
 else if k=4 then nd true false false 2 false false
 else if k=5 then nd false false false 1 true true
 else if k=6 then nd false false false 1 true false
 else if k=9 then (if op=2∨op=4 then nd false false true 0 false false else nd false false true 1 false false)
 else nd false false false 1 false false
theorem put6 {w:World}{B:Nat}{a b c d e f:Value}{T:TypeId}(h:w.heap[B]?=some (.cells #[a,b,c,d,e,f] T (0,0)))(v0 v1 v2 v3 v4 v5:Value):
  ∃wf,wf=(((((w.setCell ⟨B,0,none⟩ v0).setCell ⟨B,1,none⟩ v1).setCell ⟨B,2,none⟩ v2).setCell ⟨B,3,none⟩ v3).setCell ⟨B,4,none⟩ v4).setCell ⟨B,5,none⟩ v5∧wf.heap[B]?=some (.cells #[v0,v1,v2,v3,v4,v5] T (0,0))∧BA (fun k=>k=B) w wf:=by
 refine⟨_,rfl,?_,?_⟩
 ·have h0:=put1 (i:=0) h v0
  simp only[List.setIfInBounds_toArray,List.set_cons_zero]at h0
  have h1:=put1 (i:=1) h0 v1
  simp only[LS]at h1
  have h2:=put1 (i:=2) h1 v2
  simp only[LS]at h2
  have h3:=put1 (i:=3) h2 v3
  simp only[LS]at h3
  have h4:=put1 (i:=4) h3 v4
  simp only[LS]at h4
  have h5:=put1 (i:=5) h4 v5
  simp only[LS]at h5
  exact h5
 ·have s:=fun (w:World) (i:Nat) (v:Value)=>BA.setCell (E:=fun k=>k=B) w ⟨B,i,none⟩ v rfl
  exact(((((s _ _ _).trans (s _ _ _)).trans (s _ _ _)).trans (s _ _ _)).trans (s _ _ _)).trans (s _ _ _)
theorem frz6 {w:World}{B:Nat}{a b c d e f:Value}{T:TypeId}(h:w.heap[B]?=some (.cells #[a,b,c,d,e,f] T (0,0)))(n:Nat):w.frozen? ⟨B,n,none⟩=false:=by simp[World.frozen?,h]
theorem needs_any (w:World)(k op:Int)(v1 v2 v4 v5 v6 v7 v8 v9 v10 v11:Value):
  Calls Tryz.prog 112 #[.agg #[.int .i64 k,v1,v2,.int .i64 op,v4,v5,v6,v7,v8,v9,v10,v11]] w fun e w'=>e=.returned (.agg (needV k op))∧BA (fun _=>False) w w':=by
 obtain⟨V1,B1,hV1,hB1,hb1,hk1,hs1⟩:=BC w (.cells #[.int .i64 k,v1,v2,.int .i64 op,v4,v5,v6,v7,v8,v9,v10,v11] TSm)
 obtain⟨V,B2,hV,hB2,hb2,hk2,hs2⟩:=BC V1 (.cells (nd false false false 0 false false) TNd)
 have HK:=hid (hk1.trans hk2);have HB2:=hid hb2
 have HTK:=hid (fun w'=>DS op w')
 have HN:=hid (show w.heap.size≤B2 by omega)
 obtain⟨n0,n1,n2,n3,n4,n5,n6,n7,n8,n9,n10,n11⟩:=BH (hk2.blk hb1)
 obtain⟨m0,m1,m2,m3,m4,m5,-⟩:=blk6 hb2
 have f0:=frz6 hb2 0;have f1:=frz6 hb2 1;have f2:=frz6 hb2 2;have f3:=frz6 hb2 3;have f4:=frz6 hb2 4;have f5:=frz6 hb2 5
 have h12:B1+1=B2:=by omega
 clear hb1 hb2 hk1 hk2 hs1 hs2
 unfold nd at hV HB2
 obtain⟨N,hN⟩:∃N,needV k op=N:=⟨_,rfl⟩
 rw[hN]
 unfold needV nd at hN
 have HNV:=hid hN
 clear hN
 go_enter Tryz.func112,Tryz.ntmps112
 go_upto_region 1 with fail
 rw[←hV1,←hB1,←hV,h12]
 clear hV1 hB1 hV hB2 h12
 by_cases h1:k=1
 ·subst h1
  go_wp2_with fail
  obtain⟨wf,hwf,hp,hkp⟩:=put6 HB2.out (.bool true) (.bool false) (.bool false) (.int .i64 1) (.bool false) (.bool false)
  rw[←hwf]
  obtain⟨c0,c1,c2,c3,c4,c5,-⟩:=blk6 hp
  exact bodyPost_ret (v:=.agg #[.bool true,.bool false,.bool false,.int .i64 1,.bool false,.bool false]) (by simp[results,Tryz.results112,go_sem,c0,c1,c2,c3,c4,c5]) rfl ⟨by rw[←HNV.out];simp,HK.out.newE hkp fun b e=>by have e:b=B2:=e;have:=HN.out;omega⟩
 have h1b:(k==1)=false:=by rw[BF];exact h1
 by_cases h3:k=3
 ·subst h3
  go_wp2_with fail
  obtain⟨wf,hwf,hp,hkp⟩:=put6 HB2.out (.bool true) (.bool false) (.bool false) (.int .i64 1) (.bool false) (.bool false)
  rw[←hwf]
  obtain⟨c0,c1,c2,c3,c4,c5,-⟩:=blk6 hp
  exact bodyPost_ret (v:=.agg #[.bool true,.bool false,.bool false,.int .i64 1,.bool false,.bool false]) (by simp[results,Tryz.results112,go_sem,c0,c1,c2,c3,c4,c5]) rfl ⟨by rw[←HNV.out];simp,HK.out.newE hkp fun b e=>by have e:b=B2:=e;have:=HN.out;omega⟩
 have h3b:(k==3)=false:=by rw[BF];exact h3
 by_cases h2:k=2
 ·subst h2
  go_wp2_with fail
  obtain⟨wf,hwf,hp,hkp⟩:=put6 HB2.out (.bool true) (.bool true) (.bool false) (.int .i64 0) (.bool false) (.bool false)
  rw[←hwf]
  obtain⟨c0,c1,c2,c3,c4,c5,-⟩:=blk6 hp
  exact bodyPost_ret (v:=.agg #[.bool true,.bool true,.bool false,.int .i64 0,.bool false,.bool false]) (by simp[results,Tryz.results112,go_sem,c0,c1,c2,c3,c4,c5]) rfl ⟨by rw[←HNV.out];simp,HK.out.newE hkp fun b e=>by have e:b=B2:=e;have:=HN.out;omega⟩
 have h2b:(k==2)=false:=by rw[BF];exact h2
 by_cases h4:k=4
 ·subst h4
  go_wp2_with fail
  obtain⟨wf,hwf,hp,hkp⟩:=put6 HB2.out (.bool true) (.bool false) (.bool false) (.int .i64 2) (.bool false) (.bool false)
  rw[←hwf]
  obtain⟨c0,c1,c2,c3,c4,c5,-⟩:=blk6 hp
  exact bodyPost_ret (v:=.agg #[.bool true,.bool false,.bool false,.int .i64 2,.bool false,.bool false]) (by simp[results,Tryz.results112,go_sem,c0,c1,c2,c3,c4,c5]) rfl ⟨by rw[←HNV.out];simp,HK.out.newE hkp fun b e=>by have e:b=B2:=e;have:=HN.out;omega⟩
 have h4b:(k==4)=false:=by rw[BF];exact h4
 by_cases h5:k=5
 ·subst h5
  go_wp2_with fail
  obtain⟨wf,hwf,hp,hkp⟩:=put6 HB2.out (.bool false) (.bool false) (.bool false) (.int .i64 1) (.bool true) (.bool true)
  rw[←hwf]
  obtain⟨c0,c1,c2,c3,c4,c5,-⟩:=blk6 hp
  exact bodyPost_ret (v:=.agg #[.bool false,.bool false,.bool false,.int .i64 1,.bool true,.bool true]) (by simp[results,Tryz.results112,go_sem,c0,c1,c2,c3,c4,c5]) rfl ⟨by rw[←HNV.out];simp,HK.out.newE hkp fun b e=>by have e:b=B2:=e;have:=HN.out;omega⟩
 have h5b:(k==5)=false:=by rw[BF];exact h5
 by_cases h6:k=6
 ·subst h6
  go_wp2_with fail
  obtain⟨wf,hwf,hp,hkp⟩:=put6 HB2.out (.bool false) (.bool false) (.bool false) (.int .i64 1) (.bool true) (.bool false)
  rw[←hwf]
  obtain⟨c0,c1,c2,c3,c4,c5,-⟩:=blk6 hp
  exact bodyPost_ret (v:=.agg #[.bool false,.bool false,.bool false,.int .i64 1,.bool true,.bool false]) (by simp[results,Tryz.results112,go_sem,c0,c1,c2,c3,c4,c5]) rfl ⟨by rw[←HNV.out];simp,HK.out.newE hkp fun b e=>by have e:b=B2:=e;have:=HN.out;omega⟩
 have h6b:(k==6)=false:=by rw[BF];exact h6
 by_cases h9:k=9
 ·subst h9
  by_cases ht:op=2∨op=4
  ·have hb:((op==2) || (op==4))=true:=by rcases ht with h|h<;>subst h<;>rfl
   have HTK:=hid (fun w'=>by have h:=HTK.out w';rw[hb]at h;exact h)
   go_wp2_with (go_at_call 113;refine(HTK.out _).mono ?_;rintro e w5 ⟨rfl,rfl⟩)
   obtain⟨wf,hwf,hp,hkp⟩:=put6 HB2.out (.bool false) (.bool false) (.bool true) (.int .i64 0) (.bool false) (.bool false)
   rw[←hwf]
   obtain⟨c0,c1,c2,c3,c4,c5,-⟩:=blk6 hp
   exact bodyPost_ret (v:=.agg #[.bool false,.bool false,.bool true,.int .i64 0,.bool false,.bool false]) (by simp[results,Tryz.results112,go_sem,c0,c1,c2,c3,c4,c5]) rfl ⟨by rw[←HNV.out];simp[ht],HK.out.newE hkp fun b e=>by have e:b=B2:=e;have:=HN.out;omega⟩
  ·have hb:((op==2) || (op==4))=false:=by rw[Bool.or_eq_false_iff,BF,BF];omega
   have HTK:=hid (fun w'=>by have h:=HTK.out w';rw[hb]at h;exact h)
   go_wp2_with (go_at_call 113;refine(HTK.out _).mono ?_;rintro e w5 ⟨rfl,rfl⟩)
   obtain⟨wf,hwf,hp,hkp⟩:=put6 HB2.out (.bool false) (.bool false) (.bool true) (.int .i64 1) (.bool false) (.bool false)
   rw[←hwf]
   obtain⟨c0,c1,c2,c3,c4,c5,-⟩:=blk6 hp
   exact bodyPost_ret (v:=.agg #[.bool false,.bool false,.bool true,.int .i64 1,.bool false,.bool false]) (by simp[results,Tryz.results112,go_sem,c0,c1,c2,c3,c4,c5]) rfl ⟨by rw[←HNV.out];simp[ht],HK.out.newE hkp fun b e=>by have e:b=B2:=e;have:=HN.out;omega⟩
 have h9b:(k==9)=false:=by rw[BF];exact h9
 go_wp2_with fail
 obtain⟨wf,hwf,hp,hkp⟩:=put6 HB2.out (.bool false) (.bool false) (.bool false) (.int .i64 1) (.bool false) (.bool false)
 rw[←hwf]
 obtain⟨c0,c1,c2,c3,c4,c5,-⟩:=blk6 hp
 exact bodyPost_ret (v:=.agg #[.bool false,.bool false,.bool false,.int .i64 1,.bool false,.bool false]) (by simp[results,Tryz.results112,go_sem,c0,c1,c2,c3,c4,c5]) rfl ⟨by rw[←HNV.out];simp[h1,h2,h3,h4,h5,h6,h9],HK.out.newE hkp fun b e=>by have e:b=B2:=e;have:=HN.out;omega⟩
theorem mayFnM_any (mb:Gx→Bool)(x:Gx)(hS:SaysMayG mb x)(w:World)(hT:TabS w)(S:Nat→Prop)(vs:List Value)(hex:GAt w S vs x):
  Calls Tryz.prog 114 #[.agg vs.toArray] w fun e w'=>e=.returned (.bool (!mb x))∧BA (fun _=>False) w w':=by
 obtain⟨yk,yo,yn,yS,yp,ym,yc,yl,ycl,rfl⟩:=FN hex
 obtain⟨W,C,hW,hC,hcb,hkc,hsc⟩:=BC w (.cells #[.int .i64 yk,.int .i64 yo,.int .i64 yn,.string yS,.slice yp ym yc,.int .i64 yl,.int .i64 ycl] TEx)
 have HM:=hid (hS W S _ (hkc.tabS hT) (hex.keep hkc fun _ _ e=>e))
 have HK:=hid hkc
 obtain⟨n0,n1,n2,n3,n4,n5,n6,-⟩:=blk7 hcb
 obtain⟨b,hb⟩:∃b,mb x=b:=⟨_,rfl⟩
 rw[hb]at HM ⊢
 clear hS hT hex hcb hkc hsc hb
 go_enter Tryz.func114,Tryz.ntmps114
 go_upto_region 1 with fail
 rw[←hW,←hC]
 clear hW hC
 go_wp2_with (go_at_call 26;refine HM.out.mono ?_;rintro e w5 ⟨rfl,hk5⟩;have HK5:=hid hk5;clear hk5)
 go_ret
 exact⟨rfl,HK.out.trans HK5.out⟩
theorem idxM_any (mb:Gx→Bool)(l:List Gx)(hS:∀i (h:i<l.length),SaysMayG mb l[i])(hl:l.length≤1099511627776)(w:World)(hT:TabS w)(S:Nat→Prop)(p:Option Addr)(c:Nat)(hp:FK w S p 0 l):
  Calls Tryz.prog 95 #[.slice p l.length c,.func (.func 114) #[] #[]] w fun e w'=>IdxG mb l w e w':=by
 have HS:=hid hS;have HP:=hid hp;have HT:=hid hT
 clear hS hp hT
 go_enter Tryz.func95,Tryz.ntmps95
 go_wp2_with fail
 go_loopw [8] (fun v8 wr=>∃k:Nat,v8=.int .i64 k∧k≤l.length∧(∀j,(hj:j<k)→(h:j<l.length)→mb l[j]=true)∧BA (fun _=>False) w wr) (fun v _=>l.length - (intOf v).toNat)
 case atStart=>exact⟨0,rfl,Nat.zero_le _,fun j h=>absurd h (Nat.not_lt_zero _),BA.refl _ _⟩
 case round=>
  obtain⟨k,rfl,hk,hall,hkk⟩:=hrel
  have HALL:=hid hall;have HK:=hid hkk
  by_cases hlt:k<l.length
  ·have hlti:(k:Int)<l.length:=by omega
   have hi0:(0:Int)≤k:=by omega
   have hWi:IntKind.i64.wrap ((k:Int)+1)=(k:Int)+1:=IntWalk.i64_in _ (by omega)
   obtain⟨g,o,vs,hp,hc,hex⟩:=gkids_get (HP.out.keep hkk fun _ _ e=>e) k hlt
   subst hp
   rw[Nat.zero_add]at hc
   have HFN:=hid (mayFnM_any mb l[k] (HS.out k hlt) wr (hkk.tabS HT.out) S vs hex)
   obtain⟨yk,yo,yn,yS,yp,ym,yc,yl,ycl,rfl⟩:=FN hex
   have x0:wr.cell? ⟨g,o+k * 7,none⟩=some (.int .i64 yk):=hc 0 _ rfl
   have x1:=hc 1 _ rfl;have x2:=hc 2 _ rfl;have x3:=hc 3 _ rfl;have x4:=hc 4 _ rfl;have x5:=hc 5 _ rfl;have x6:=hc 6 _ rfl
   obtain⟨a,ha⟩:∃a,mb l[k]=a:=⟨_,rfl⟩
   have HA:=hid ha
   rw[ha]at HFN
   clear hc hex hkk hall ha
   cases a with
   | true=>
    go_wp2_with (go_at_call 114;refine HFN.out.mono ?_;rintro e w2 ⟨rfl,hk2⟩;have HK2:=hid hk2;clear hk2)
    exact⟨⟨k+1,by simp,by omega,fun j hj h=>by
     by_cases e:j=k
     ·subst e;exact HA.out
     ·exact HALL.out j (by omega) h,HK.out.trans HK2.out⟩,by simp only[intOf];omega⟩
   | false=>
    go_wp2_with (go_at_call 114;refine HFN.out.mono ?_;rintro e w2 ⟨rfl,hk2⟩;have HK2:=hid hk2;clear hk2)
    go_ret
    refine⟨k,rfl,?_,HK.out.trans HK2.out⟩
    rw[decide_eq_true (by omega:(0:Int)≤k)]
    exact(List.any_eq_true.2 ⟨l[k],List.getElem_mem hlt,by rw[HA.out];rfl⟩).symm
  ·have hnl:¬(k:Int)<l.length:=by omega
   clear hkk hall
   go_wp2_with fail
   go_ret
   refine⟨-1,rfl,?_,HK.out⟩
   rw[decide_eq_false (by omega:¬(0:Int)≤-1)]
   symm
   rw[List.any_eq_false]
   intro x hx
   obtain⟨j,hj,e⟩:=List.getElem_of_mem hx
   rw[←e,HALL.out j (by omega) hj]
   exact NT
theorem hasM_any (mb:Gx→Bool)(l:List Gx)(hS:∀i (h:i<l.length),SaysMayG mb l[i])(hl:l.length≤1099511627776)(w:World)(hT:TabS w)(S:Nat→Prop)(p:Option Addr)(c:Nat)(hp:FK w S p 0 l):
  Calls Tryz.prog 59 #[.slice p l.length c,.func (.func 114) #[] #[]] w fun e w'=>e=.returned (.bool (l.any fun x=>!mb x))∧BA (fun _=>False) w w':=by
 have HI:=hid (idxM_any mb l hS hl w hT S p c hp)
 clear hS hp hT
 go_enter Tryz.func59,Tryz.ntmps59
 go_wp2_with (go_at_call 95;refine HI.out.mono ?_;rintro e w2 ⟨k,rfl,hd,hk⟩;have HD:=hid hd;have HK:=hid hk;clear hd hk)
 go_ret
 exact⟨by rw[←HD.out];rfl,HK.out⟩
def BK (nn ns nc:Bool)(nx:Int)(nt ne:Bool)(sz op:Int)(nm val into cont:List UInt8)(x t e:Nat):Bool:=
 (if nn=true then CV nm else nm.isEmpty) && ((ns || sz==0) && (decide (0≤sz) && ((if nc=true then decide (1≤op) && (decide (op≤7) && (CV into && (CV cont && (if op=2∨op=4 then CV val else val.isEmpty)))) else (op==0 && (val.isEmpty && (into.isEmpty && cont.isEmpty)))) && ((x:Int)==nx && ((nt || t==0) && (ne || e==0))))))
def GF (k sz op:Int)(nm val into cont:List UInt8)(x t e:Nat):Bool:=
 if k=1∨k=3 then BK true false false 1 false false sz op nm val into cont x t e
 else if k=2 then BK true true false 0 false false sz op nm val into cont x t e
 else if k=4 then BK true false false 2 false false sz op nm val into cont x t e
 else if k=5 then BK false false false 1 true true sz op nm val into cont x t e
 else if k=6 then BK false false false 1 true false sz op nm val into cont x t e
 else if k=9 then (if op=2∨op=4 then BK false false true 0 false false sz op nm val into cont x t e else BK false false true 1 false false sz op nm val into cont x t e)
 else BK false false false 1 false false sz op nm val into cont x t e
mutual
def mayS:Gs→Bool
 |.mk k nm sz op val into cont xs thn els _ _=>decide (1≤k) && (decide (k≤9) && (GF k sz op nm val into cont xs.length thn.length els.length && (CR xs && (BX thn && BX els))))
def BX:List Gs→Bool
 |[]=>true
 |s::l=>mayS s && BX l
end
theorem maySL_any:∀l:List Gs,(!(l.any fun x=>!mayS x))=BX l
 |[]=>by unfold BX;rfl
 | x::l=>by
  have:=maySL_any l
  unfold BX
  rw[←this,List.any_cons]
  cases mayS x<;>rfl
theorem catE (a b c:List UInt8):(!((⟨a.toArray⟩:ByteArray)++(⟨b.toArray⟩:ByteArray)++(⟨c.toArray⟩:ByteArray)).toList.isEmpty)=!(a.isEmpty && (b.isEmpty && c.isEmpty)):=by
 have h:((⟨a.toArray⟩:ByteArray)++(⟨b.toArray⟩:ByteArray)++(⟨c.toArray⟩:ByteArray))=⟨(a++b++c).toArray⟩:=by
  apply ByteArray.ext
  simp
 rw[h]
 have h2:(⟨(a++b++c).toArray⟩:ByteArray).toList=a++b++c:=by simp
 rw[h2]
 cases a<;>cases b<;>cases c<;>rfl
def MayBy (nn ns nc:Bool)(nx:Int)(nt ne:Bool)(ht:Int→Prop):Prop:=∀(k sz op l cl:Int) (nm val into cont:List UInt8) (xs:List Gx) (thn els:List Gs),
 (1≤k∧k≤9)→needV k op=nd nn ns nc nx nt ne→ht op→(∀i (h:i<xs.length),SaysMayG mayG xs[i])→(∀i (h:i<thn.length),SaysS mayS thn[i])→(∀i (h:i<els.length),SaysS mayS els[i])→val.length+into.length+cont.length≤1099511627776→xs.length≤1099511627776→thn.length≤1099511627776→els.length≤1099511627776→
 ∀(w:World) (S:Nat→Prop) (vs:List Value),TabS w→SAt w S vs (.mk k nm sz op val into cont xs thn els l cl)→
 Calls Tryz.prog 93 #[.agg vs.toArray] w fun e w'=>e=.returned (.bool (BK nn ns nc nx nt ne sz op nm val into cont xs.length thn.length els.length && (CR xs && (BX thn && BX els))))∧BA (fun _=>False) w w'
end Go.Proofs.YtomlffobbkcmdaaGreatDoor
