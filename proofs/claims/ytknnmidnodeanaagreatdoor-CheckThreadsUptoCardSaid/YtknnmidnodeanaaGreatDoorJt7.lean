/- Joined texts of this work: Pb5. -/
import Derived.Test.YtknnmidnodeanaaGreatDoorJt1
import Derived.Test.YtknnmidnodeanaaGreatDoorJt6
/-
  Package parse: one: what binds more than operators of two; with it, whole expressions.
-/
namespace Go.Proofs.YtknnmidnodeanaaGreatDoor
open Go Go.RowKit Own
open Go.Lib (hid)
theorem oneOf_dec {one expr:List Item→Option (Ex × List Item)} (h1:Dec one) (h2:Dec expr):Dec (oneOf one expr):=fun its x r e=>by
 have tl:∀ l:List Item,l.tail.length≤l.length:=fun l=>by rw [List.length_tail];omega
 unfold oneOf at e
 cases its with
 | nil=>cases e
 | cons t r0=>
  dsimp only at e
  rw [List.length_cons]
  split at e
  ·split at e
   ·cases e
   ·rename_i hh;cases e;have:=h1 _ _ _ hh;omega
  ·split at e
   ·split at e
    ·cases e
    ·rename_i hh;cases e;have:=h1 _ _ _ hh;omega
   ·split at e
    ·split at e
     ·cases e
     ·rename_i hh
      split at e
      ·cases e;have:=h2 _ _ _ hh;have:=tl (by assumption);omega
      ·cases e
    ·split at e
     ·cases e;omega
     ·split at e
      ·split at e
       ·split at e
        ·cases e
        ·rename_i hh
         split at e
         ·cases e;have:=h2 _ _ _ hh;have:=tl r0;have:=tl (by assumption);omega
         ·cases e
       ·cases e;omega
      ·cases e
theorem oneP_dec:∀ f,Dec (oneP f)
 | 0=>fun _ _ _ e=>by cases e
 | f+1=>oneOf_dec (oneP_dec f) (rowsN_dec (oneP_dec f))
section
variable {w : World} {B : Nat} {a b c d e f g : Value} {T : TypeId}
theorem box_put0 (h:w.heap[B]?=some (.cells #[a,b,c,d,e,f,g] T (0,0))) (v:Value):∃ w',w'=w.setCell ⟨B,0,none⟩ v∧w'.heap[B]?=some (.cells #[v,b,c,d,e,f,g] T (0,0))∧KeepBut (fun k=>k=B) w w':=by
 have h0:=put1 (i:=0) h v
 simp only [List.setIfInBounds_toArray,List.set_cons_zero] at h0
 exact ⟨_,rfl,h0,KeepBut.setCell _ _ _ rfl⟩
theorem box_put1 (h:w.heap[B]?=some (.cells #[a,b,c,d,e,f,g] T (0,0))) (v:Value):∃ w',w'=w.setCell ⟨B,1,none⟩ v∧w'.heap[B]?=some (.cells #[a,v,c,d,e,f,g] T (0,0))∧KeepBut (fun k=>k=B) w w':=by
 have h0:=put1 (i:=1) h v
 simp only [LS] at h0
 exact ⟨_,rfl,h0,KeepBut.setCell _ _ _ rfl⟩
theorem box_put2 (h:w.heap[B]?=some (.cells #[a,b,c,d,e,f,g] T (0,0))) (v:Value):∃ w',w'=w.setCell ⟨B,2,none⟩ v∧w'.heap[B]?=some (.cells #[a,b,v,d,e,f,g] T (0,0))∧KeepBut (fun k=>k=B) w w':=by
 have h0:=put1 (i:=2) h v
 simp only [LS] at h0
 exact ⟨_,rfl,h0,KeepBut.setCell _ _ _ rfl⟩
theorem box_put3 (h:w.heap[B]?=some (.cells #[a,b,c,d,e,f,g] T (0,0))) (v:Value):∃ w',w'=w.setCell ⟨B,3,none⟩ v∧w'.heap[B]?=some (.cells #[a,b,c,v,e,f,g] T (0,0))∧KeepBut (fun k=>k=B) w w':=by
 have h0:=put1 (i:=3) h v
 simp only [LS] at h0
 exact ⟨_,rfl,h0,KeepBut.setCell _ _ _ rfl⟩
theorem box_put4 (h:w.heap[B]?=some (.cells #[a,b,c,d,e,f,g] T (0,0))) (v:Value):∃ w',w'=w.setCell ⟨B,4,none⟩ v∧w'.heap[B]?=some (.cells #[a,b,c,d,v,f,g] T (0,0))∧KeepBut (fun k=>k=B) w w':=by
 have h0:=put1 (i:=4) h v
 simp only [LS] at h0
 exact ⟨_,rfl,h0,KeepBut.setCell _ _ _ rfl⟩
end
set_option maxRecDepth 100000 in
set_option maxHeartbeats 64000000 in
theorem one_step (R el ec f:Nat) (ih:∀ w0,Reads 117 #[rdV R] (oneP f) w0 R el ec) (w0:World):Reads 117 #[rdV R] (oneP (f+1)) w0 R el ec:=by
 intro w its x r hk hr hx
 have HONE:=hid (ih w)
 have HEXP:=hid (expr_reads w R el ec (oneP f) (oneP_dec f) (ih w))
 have hx:oneOf (oneP f) (rowsN (oneP f)) its=some (x,r):=hx
 unfold oneOf at hx
 cases its with
 | nil=>cases hx
 | cons t r0=>
 dsimp only at hx
 obtain ⟨V1,B2,hV1,hB2,hb2,hk1,hs1⟩:=fresh_block w (.cells #[.int .i64 0,.int .i64 0,.int .i64 0,.string ⟨#[]⟩,.slice none 0 0,.int .i64 0,.int .i64 0] TEx)
 have HPK:=hid (peek_any V1 R (t::r0) el ec (hr.keep hk1 fun _ _ e=>e))
 obtain ⟨tk,tn,tl,tc,S9,hpv⟩:=peekV_form (t::r0) el ec
 have HPV:=hid hpv
 rw [hpv] at HPK
 have HTL:=hid (show tl=t.line∧tc=t.col∧tk=t.tok.kind by
  have h9:=HPV.out
  unfold peekV at h9
  simp only [Value.agg.injEq,Array.mk.injEq,List.cons.injEq,Value.int.injEq,true_and] at h9
  exact ⟨h9.2.2.2.1.symm,h9.2.2.2.2.1.symm,h9.1.symm⟩)
 have HR0:=hid hr;have HK1:=hid hk1;have HB2:=hid hb2
 have HN1:=hid (show w.heap.size≤B2∧B2<V1.heap.size∧R<w.heap.size from ⟨by omega,by omega,hr.lt⟩)
 clear hk hr hb2 hk1 hs1 hpv
 go_enter Tryz.func117,Tryz.ntmps117
 go_upto_region 1 with fail
 rw [←hV1,←hB2]
 clear hV1 hB2
 go_wp2_with fail
 go_at_call 79
 refine HPK.out.mono ?_
 rintro e w1 ⟨rfl,hkp⟩
 obtain ⟨V2,B3,hV2,hB3,hb3,hk2,hs2⟩:=fresh_block w1 (.cells #[.int .i64 tk,.string S9,.int .i64 tn,.int .i64 tl,.int .i64 tc] TTk)
 obtain ⟨V,B4,hV,hB4,hb4,hk3,hs3⟩:=fresh_block V2 (.cells #[.int .i64 0,.int .i64 0,.int .i64 0,.string ⟨#[]⟩,.slice none 0 0,.int .i64 tl,.int .i64 tc] TEx)
 have hkV:=(hkp.trans hk2).trans hk3
 have HB4:=hid hb4;have HB3:=hid (hk3.blk hb3);have HB2V:=hid (hkV.blk HB2.out)
 have HKV:=hid (show KeepBut (fun b=>b=R) w V from (HK1.out.trans hkV).mono fun _ e=>e.elim)
 have HRV:=hid (HR0.out.keep (HK1.out.trans hkV) fun _ _ e=>e)
 have HNN:=hid (show w.heap.size≤B2∧B2<B3∧B3<B4∧B4<V.heap.size∧R<w.heap.size by have h1:=HN1.out;have h2:=hkp.size;omega)
 obtain ⟨n0,n1,n2,n3,n4,-⟩:=blk5 hb3
 clear hkp hk2 hk3 hkV hb3 hb4 hs2 hs3
 go_upto_region 2 with fail
 rw [←hV2,←hB3]
 clear hV2 hB3
 go_upto_region 7 with fail
 rw [←hV,←hB4]
 clear hV hB4 n0 n1 n2 n3 n4
 have HSV:=hid (Nat.le_refl V.heap.size)
 have HM1:=hid (may_any V R (t::r0) el ec HRV.out [45])
 by_cases h1:isT t.tok [45]=true
 ·rw [if_pos h1] at hx
  rw [show headIs (t::r0) [45]=true from h1] at HM1
  clear h1
  go_upto_region 8 with (go_at_call 95;refine HM1.out.mono ?_;rintro e wy ⟨rfl,hry,hky⟩)
  have HRY:=hid (show ReaderAt wy R r0 el ec from hry);have HKY:=hid (HKV.out.trans hky)
  have hnY:=HNN.out
  have HB4Y:=hid (hky.blkE HB4.out fun e=>by have e:B4=R:=e;omega)
  have HB2Y:=hid (hky.blkE HB2V.out fun e=>by have e:B2=R:=e;omega)
  have HSY:=hid (Nat.le_trans HSV.out hky.size)
  clear hry hky hnY
  -- the operator has been taken: wy, HRY, HKY, HB4Y, HB2Y
  cases ho:oneP f r0 with
  | none=>rw [ho] at hx;cases hx
  | some xr=>
  obtain ⟨x1,r1⟩:=xr
  rw [ho] at hx
  cases hx
  have HO1:=hid ho
  obtain ⟨n0,n1,n2,n3,n4,n5,n6,f0,f1,f2,f3,f4,f5,f6⟩:=blk7 HB4Y.out
  clear ho
  go_upto_region 9 with fail
  obtain ⟨wa,hwa,hba,hka⟩:=box_put0 HB4Y.out (.int .i64 4)
  rw [←hwa]
  obtain ⟨wb,hwb,hbb,hkb⟩:=box_put1 hba (.int .i64 1)
  rw [←hwb]
  have hn:=HNN.out
  have hkab:=hka.trans hkb
  have HRB:=hid (HRY.out.keep hkab fun b hb e=>by have e:b=B4:=e;omega)
  have HKB:=hid (HKY.out.newE hkab fun b e=>by have e:b=B4:=e;omega)
  have HB2B:=hid (hkab.blkE HB2Y.out fun e=>by have e:B2=B4:=e;omega)
  have HBB:=hid hbb
  have HSB:=hid (show V.heap.size≤wb.heap.size from Nat.le_trans HSY.out hkab.size)
  clear hwa hba hka hwb hbb hkb hkab hn n0 n1 n2 n3 n4 n5 n6 f0 f1 f2 f3 f4 f5 f6
  go_wp2_with fail
  go_at_call 117
  refine (HONE.out wb r0 x1 r HKB.out HRB.out HO1.out).mono ?_
  rintro e w3 ⟨vs,rfl,hex,hr3,hk3⟩
  have hnE:=HNN.out
  obtain ⟨xk,xo,xn,xS,xp,xm,xc,xl,xcl,rfl⟩:=ex_form hex
  have hb43:=hk3.blkE HBB.out fun e=>by have e:B4=R:=e;omega
  have HB43:=hid hb43
  have HEX3:=hid hex;have HR3:=hid hr3;have HK3:=hid hk3
  obtain ⟨-,-,-,-,n4,-,-,-,-,-,-,f4,-,-⟩:=blk7 hb43
  have HA:=hid (KeepBut.alloc (fun _=>False) w3 (.cells #[.int .i64 xk,.int .i64 xo,.int .i64 xn,.string xS,.slice xp xm xc,.int .i64 xl,.int .i64 xcl] TEx))
  have y4:=HA.out.stay n4
  have g4:(w3.alloc (.cells #[.int .i64 xk,.int .i64 xo,.int .i64 xn,.string xS,.slice xp xm xc,.int .i64 xl,.int .i64 xcl] TEx)).frozen? ⟨B4,4,none⟩=false:=by simp [World.frozen?,HA.out.blk HB43.out]
  clear hex hr3 hk3 hb43 n4 f4 hnE
  go_upto_region 18 with fail
  obtain ⟨wz,hwz,hbz,hkz⟩:=box_put4 (HA.out.blk HB43.out) (.slice (some ⟨w3.heap.size,0,none⟩) 1 1)
  rw [←hwz]
  have hn:=HNN.out
  have hG:=heap_alloc_new w3 (.cells #[.int .i64 xk,.int .i64 xo,.int .i64 xn,.string xS,.slice xp xm xc,.int .i64 xl,.int .i64 xcl] TEx)
  have hs3:=HK3.out.size
  have hsb:=HSB.out
  have HBZ:=hid hbz
  have HB2Z:=hid (hkz.blkE (HA.out.blk (HK3.out.blkE HB2B.out fun e=>by have e:B2=R:=e;omega)) fun e=>by have e:B2=B4:=e;omega)
  have HRZ:=hid ((HR3.out.keep HA.out fun _ _ e=>e).keep hkz fun b hb e=>by have e:b=B4:=e;omega)
  have HKZ:=hid (((HKB.out.trans HK3.out).newM HA.out fun _ e=>e.elim).newE hkz fun b e=>by have e:b=B4:=e;omega)
  have HEXZ:=hid (show ExAt wz (fun b=>V.heap.size≤b) [.int .i64 4,.int .i64 1,.int .i64 0,.string ⟨#[]⟩,.slice (some ⟨w3.heap.size,0,none⟩) 1 1,.int .i64 tl,.int .i64 tc] (.mk 4 1 0 [] t.line t.col [x1]) from by
   unfold ExAt
   refine ⟨some ⟨w3.heap.size,0,none⟩,1,by rw [HTL.out.1,HTL.out.2.1];rfl,kids_one (vs:=[.int .i64 xk,.int .i64 xo,.int .i64 xn,.string xS,.slice xp xm xc,.int .i64 xl,.int .i64 xcl]) (hkz.blkE hG fun e=>by have e:w3.heap.size=B4:=e;omega) (show V.heap.size≤w3.heap.size by omega) (((HEX3.out.keep HA.out fun _ _ e=>e).keep hkz fun b hb e=>by have e:b=B4:=e;have hb:wb.heap.size≤b:=hb;omega).mono fun b hb=>by have hb:wb.heap.size≤b:=hb;omega)⟩)
  clear hwz hbz hkz hn hG hs3 hsb y4 g4
  obtain ⟨n0,n1,n2,n3,n4,n5,n6,-⟩:=blk7 HBZ.out
  obtain ⟨m0,m1,m2,m3,m4,m5,m6,f0,f1,f2,f3,f4,f5,f6⟩:=blk7 HB2Z.out
  go_wp2_with fail
  obtain ⟨wf,hwf,hp,hkp⟩:=put7 HB2Z.out (.int .i64 4) (.int .i64 1) (.int .i64 0) (.string ⟨#[]⟩) (.slice (some ⟨w3.heap.size,0,none⟩) 1 1) (.int .i64 tl) (.int .i64 tc)
  rw [←hwf]
  obtain ⟨c0,c1,c2,c3,c4,c5,c6,-⟩:=blk7 hp
  have hn:=HNN.out
  exact bodyPost_ret (v:=.agg #[.int .i64 4,.int .i64 1,.int .i64 0,.string ⟨#[]⟩,.slice (some ⟨w3.heap.size,0,none⟩) 1 1,.int .i64 tl,.int .i64 tc]) (by simp [results,Tryz.results117,go_sem,c0,c1,c2,c3,c4,c5,c6]) rfl ⟨[.int .i64 4,.int .i64 1,.int .i64 0,.string ⟨#[]⟩,.slice (some ⟨w3.heap.size,0,none⟩) 1 1,.int .i64 tl,.int .i64 tc],rfl,(HEXZ.out.keep hkp fun b hb e=>by have e:b=B2:=e;have hb:V.heap.size≤b:=hb;omega).mono fun b hb=>by have hb:V.heap.size≤b:=hb;omega,HRZ.out.keep hkp fun b hb e=>by have e:b=B2:=e;omega,HKZ.out.newE hkp fun b e=>by have e:b=B2:=e;omega⟩
 ·rw [if_neg h1] at hx
  rw [show headIs (t::r0) [45]=false from Bool.eq_false_iff.2 h1] at HM1
  go_upto_region 10 with (go_at_call 95;refine HM1.out.mono ?_;rintro e wq1 ⟨rfl,hry,hky⟩)
  have HRV:=hid (show ReaderAt wq1 R (t::r0) el ec from hry);have HKV:=hid (HKV.out.trans hky)
  have hnY:=HNN.out
  have HB4:=hid (hky.blkE HB4.out fun e=>by have e:B4=R:=e;omega)
  have HB3:=hid (hky.blkE HB3.out fun e=>by have e:B3=R:=e;omega)
  have HB2V:=hid (hky.blkE HB2V.out fun e=>by have e:B2=R:=e;omega)
  have HSV:=hid (Nat.le_trans HSV.out hky.size)
  clear hry hky hnY h1
  have HM2:=hid (may_any wq1 R (t::r0) el ec HRV.out [33])
  by_cases h2:isT t.tok [33]=true
  ·rw [if_pos h2] at hx
   rw [show headIs (t::r0) [33]=true from h2] at HM2
   clear h2
   go_upto_region 11 with (go_at_call 95;refine HM2.out.mono ?_;rintro e wy ⟨rfl,hry,hky⟩)
   have HRY:=hid (show ReaderAt wy R r0 el ec from hry);have HKY:=hid (HKV.out.trans hky)
   have hnY:=HNN.out
   have HB4Y:=hid (hky.blkE HB4.out fun e=>by have e:B4=R:=e;omega)
   have HB2Y:=hid (hky.blkE HB2V.out fun e=>by have e:B2=R:=e;omega)
   have HSY:=hid (Nat.le_trans HSV.out hky.size)
   clear hry hky hnY
   -- the operator has been taken: wy, HRY, HKY, HB4Y, HB2Y
   cases ho:oneP f r0 with
   | none=>rw [ho] at hx;cases hx
   | some xr=>
   obtain ⟨x1,r1⟩:=xr
   rw [ho] at hx
   cases hx
   have HO1:=hid ho
   obtain ⟨n0,n1,n2,n3,n4,n5,n6,f0,f1,f2,f3,f4,f5,f6⟩:=blk7 HB4Y.out
   clear ho
   go_upto_region 12 with fail
   obtain ⟨wa,hwa,hba,hka⟩:=box_put0 HB4Y.out (.int .i64 4)
   rw [←hwa]
   obtain ⟨wb,hwb,hbb,hkb⟩:=box_put1 hba (.int .i64 2)
   rw [←hwb]
   have hn:=HNN.out
   have hkab:=hka.trans hkb
   have HRB:=hid (HRY.out.keep hkab fun b hb e=>by have e:b=B4:=e;omega)
   have HKB:=hid (HKY.out.newE hkab fun b e=>by have e:b=B4:=e;omega)
   have HB2B:=hid (hkab.blkE HB2Y.out fun e=>by have e:B2=B4:=e;omega)
   have HBB:=hid hbb
   have HSB:=hid (show V.heap.size≤wb.heap.size from Nat.le_trans HSY.out hkab.size)
   clear hwa hba hka hwb hbb hkb hkab hn n0 n1 n2 n3 n4 n5 n6 f0 f1 f2 f3 f4 f5 f6
   go_wp2_with fail
   go_at_call 117
   refine (HONE.out wb r0 x1 r HKB.out HRB.out HO1.out).mono ?_
   rintro e w3 ⟨vs,rfl,hex,hr3,hk3⟩
   have hnE:=HNN.out
   obtain ⟨xk,xo,xn,xS,xp,xm,xc,xl,xcl,rfl⟩:=ex_form hex
   have hb43:=hk3.blkE HBB.out fun e=>by have e:B4=R:=e;omega
   have HB43:=hid hb43
   have HEX3:=hid hex;have HR3:=hid hr3;have HK3:=hid hk3
   obtain ⟨-,-,-,-,n4,-,-,-,-,-,-,f4,-,-⟩:=blk7 hb43
   have HA:=hid (KeepBut.alloc (fun _=>False) w3 (.cells #[.int .i64 xk,.int .i64 xo,.int .i64 xn,.string xS,.slice xp xm xc,.int .i64 xl,.int .i64 xcl] TEx))
   have y4:=HA.out.stay n4
   have g4:(w3.alloc (.cells #[.int .i64 xk,.int .i64 xo,.int .i64 xn,.string xS,.slice xp xm xc,.int .i64 xl,.int .i64 xcl] TEx)).frozen? ⟨B4,4,none⟩=false:=by simp [World.frozen?,HA.out.blk HB43.out]
   clear hex hr3 hk3 hb43 n4 f4 hnE
   go_upto_region 18 with fail
   obtain ⟨wz,hwz,hbz,hkz⟩:=box_put4 (HA.out.blk HB43.out) (.slice (some ⟨w3.heap.size,0,none⟩) 1 1)
   rw [←hwz]
   have hn:=HNN.out
   have hG:=heap_alloc_new w3 (.cells #[.int .i64 xk,.int .i64 xo,.int .i64 xn,.string xS,.slice xp xm xc,.int .i64 xl,.int .i64 xcl] TEx)
   have hs3:=HK3.out.size
   have hsb:=HSB.out
   have HBZ:=hid hbz
   have HB2Z:=hid (hkz.blkE (HA.out.blk (HK3.out.blkE HB2B.out fun e=>by have e:B2=R:=e;omega)) fun e=>by have e:B2=B4:=e;omega)
   have HRZ:=hid ((HR3.out.keep HA.out fun _ _ e=>e).keep hkz fun b hb e=>by have e:b=B4:=e;omega)
   have HKZ:=hid (((HKB.out.trans HK3.out).newM HA.out fun _ e=>e.elim).newE hkz fun b e=>by have e:b=B4:=e;omega)
   have HEXZ:=hid (show ExAt wz (fun b=>V.heap.size≤b) [.int .i64 4,.int .i64 2,.int .i64 0,.string ⟨#[]⟩,.slice (some ⟨w3.heap.size,0,none⟩) 1 1,.int .i64 tl,.int .i64 tc] (.mk 4 2 0 [] t.line t.col [x1]) from by
    unfold ExAt
    refine ⟨some ⟨w3.heap.size,0,none⟩,1,by rw [HTL.out.1,HTL.out.2.1];rfl,kids_one (vs:=[.int .i64 xk,.int .i64 xo,.int .i64 xn,.string xS,.slice xp xm xc,.int .i64 xl,.int .i64 xcl]) (hkz.blkE hG fun e=>by have e:w3.heap.size=B4:=e;omega) (show V.heap.size≤w3.heap.size by omega) (((HEX3.out.keep HA.out fun _ _ e=>e).keep hkz fun b hb e=>by have e:b=B4:=e;have hb:wb.heap.size≤b:=hb;omega).mono fun b hb=>by have hb:wb.heap.size≤b:=hb;omega)⟩)
   clear hwz hbz hkz hn hG hs3 hsb y4 g4
   obtain ⟨n0,n1,n2,n3,n4,n5,n6,-⟩:=blk7 HBZ.out
   obtain ⟨m0,m1,m2,m3,m4,m5,m6,f0,f1,f2,f3,f4,f5,f6⟩:=blk7 HB2Z.out
   go_wp2_with fail
   obtain ⟨wf,hwf,hp,hkp⟩:=put7 HB2Z.out (.int .i64 4) (.int .i64 2) (.int .i64 0) (.string ⟨#[]⟩) (.slice (some ⟨w3.heap.size,0,none⟩) 1 1) (.int .i64 tl) (.int .i64 tc)
   rw [←hwf]
   obtain ⟨c0,c1,c2,c3,c4,c5,c6,-⟩:=blk7 hp
   have hn:=HNN.out
   exact bodyPost_ret (v:=.agg #[.int .i64 4,.int .i64 2,.int .i64 0,.string ⟨#[]⟩,.slice (some ⟨w3.heap.size,0,none⟩) 1 1,.int .i64 tl,.int .i64 tc]) (by simp [results,Tryz.results117,go_sem,c0,c1,c2,c3,c4,c5,c6]) rfl ⟨[.int .i64 4,.int .i64 2,.int .i64 0,.string ⟨#[]⟩,.slice (some ⟨w3.heap.size,0,none⟩) 1 1,.int .i64 tl,.int .i64 tc],rfl,(HEXZ.out.keep hkp fun b hb e=>by have e:b=B2:=e;have hb:V.heap.size≤b:=hb;omega).mono fun b hb=>by have hb:V.heap.size≤b:=hb;omega,HRZ.out.keep hkp fun b hb e=>by have e:b=B2:=e;omega,HKZ.out.newE hkp fun b e=>by have e:b=B2:=e;omega⟩
  ·rw [if_neg h2] at hx
   rw [show headIs (t::r0) [33]=false from Bool.eq_false_iff.2 h2] at HM2
   go_upto_region 13 with (go_at_call 95;refine HM2.out.mono ?_;rintro e wq2 ⟨rfl,hry,hky⟩)
   have HRV:=hid (show ReaderAt wq2 R (t::r0) el ec from hry);have HKV:=hid (HKV.out.trans hky)
   have hnY:=HNN.out
   have HB4:=hid (hky.blkE HB4.out fun e=>by have e:B4=R:=e;omega)
   have HB3:=hid (hky.blkE HB3.out fun e=>by have e:B3=R:=e;omega)
   have HB2V:=hid (hky.blkE HB2V.out fun e=>by have e:B2=R:=e;omega)
   have HSV:=hid (Nat.le_trans HSV.out hky.size)
   clear hry hky hnY h2
   have HM3:=hid (may_any wq2 R (t::r0) el ec HRV.out [40])
   by_cases h3:isT t.tok [40]=true
   ·rw [if_pos h3] at hx
    rw [show headIs (t::r0) [40]=true from h3] at HM3
    clear h3
    go_upto_region 14 with (go_at_call 95;refine HM3.out.mono ?_;rintro e wy ⟨rfl,hry,hky⟩)
    have HRY:=hid (show ReaderAt wy R r0 el ec from hry);have HKY:=hid (HKV.out.trans hky)
    have hnY:=HNN.out
    have HB4Y:=hid (hky.blkE HB4.out fun e=>by have e:B4=R:=e;omega)
    have HB2Y:=hid (hky.blkE HB2V.out fun e=>by have e:B2=R:=e;omega)
    have HSY:=hid (Nat.le_trans HSV.out hky.size)
    clear hry hky hnY
    -- '(' has been taken
    cases ho:rowsN (oneP f) r0 with
    | none=>rw [ho] at hx;cases hx
    | some xr=>
    obtain ⟨x1,r1⟩:=xr
    rw [ho] at hx
    dsimp only at hx
    by_cases hh:headIs r1 [41]=true
    ·rw [if_pos hh] at hx
     obtain ⟨rfl,rfl⟩:=Prod.mk.inj (Option.some.inj hx)
     have HO1:=hid ho;have HH:=hid hh
     clear ho hh hx
     go_wp2_with fail
     go_at_call 109
     refine (HEXP.out wy r0 x1 r1 HKY.out HRY.out HO1.out).mono ?_
     rintro e w3 ⟨vs,rfl,hex,hr3,hk3⟩
     obtain ⟨xk,xo,xn,xS,xp,xm,xc,xl,xcl,rfl⟩:=ex_form hex
     have hnE:=HNN.out
     have hb43:=hk3.blkE HB4Y.out fun e=>by have e:B4=R:=e;omega
     have HB43:=hid hb43
     have HEX3:=hid hex;have HR3:=hid hr3;have HK3:=hid hk3
     obtain ⟨n0,n1,n2,n3,n4,n5,n6,f0,f1,f2,f3,f4,f5,f6⟩:=blk7 hb43
     clear hex hr3 hk3 hb43 hnE
     go_upto_region 15 with fail
     obtain ⟨wc,hwc,hbc,hkc⟩:=put7 HB43.out (.int .i64 xk) (.int .i64 xo) (.int .i64 xn) (.string xS) (.slice xp xm xc) (.int .i64 xl) (.int .i64 xcl)
     rw [←hwc]
     have hn:=HNN.out
     have hsy:=HSY.out
     have HBC:=hid hbc
     have HRC:=hid (HR3.out.keep hkc fun b hb e=>by have e:b=B4:=e;omega)
     have HKC:=hid ((HKY.out.trans HK3.out).newE hkc fun b e=>by have e:b=B4:=e;omega)
     have HB2C:=hid (hkc.blkE (HK3.out.blkE HB2Y.out fun e=>by have e:B2=R:=e;omega) fun e=>by have e:B2=B4:=e;omega)
     have HEXC:=hid ((HEX3.out.keep hkc fun b hb e=>by have e:b=B4:=e;have hb:wy.heap.size≤b:=hb;omega).mono (S':=fun b=>V.heap.size≤b) fun b hb=>by have hb:wy.heap.size≤b:=hb;omega)
     clear hwc hbc hkc hn hsy n0 n1 n2 n3 n4 n5 n6 f0 f1 f2 f3 f4 f5 f6
     have hmk:=KeepBut.alloc (fun _=>False) wc (.cells #[.string ⟨#[41]⟩] 9)
     have HMK:=hid hmk
     have hRlt:=HRC.out.lt
     have HMU:=hid (must_any (wc.alloc (.cells #[.string ⟨#[41]⟩] 9)) R r1 el ec (HRC.out.keep hmk fun _ _ e=>e) (some ⟨wc.heap.size,0,none⟩) 1 [[41]] (fun i hi=>by
      have e:i=0:=by simp at hi;exact hi
      subst e
      exact ⟨_,0,rfl,blk_cell (heap_alloc_new wc _) rfl⟩) (fun a ha=>by cases ha;show wc.heap.size≠R;omega) (by decide) r1.tail (by unfold mustT;rw [if_pos HH.out];rfl))
     clear hmk hRlt
     go_upto_region 18 with (go_at_call 77;refine HMU.out.mono ?_;rintro e w5 ⟨rfl,hr5,hk5⟩)
     have HR5:=hid hr5;have HK5:=hid hk5
     clear hr5 hk5
     have hn:=HNN.out
     have HBZ:=hid (HK5.out.blkE (HMK.out.blk HBC.out) fun e=>by have e:B4=R:=e;omega)
     have HB2Z:=hid (HK5.out.blkE (HMK.out.blk HB2C.out) fun e=>by have e:B2=R:=e;omega)
     have HRZ:=HR5
     have HKZ:=hid ((HKC.out.newM HMK.out fun _ e=>e.elim).trans HK5.out)
     have HEXZ:=hid ((HEXC.out.keep HMK.out fun _ _ e=>e).keep HK5.out fun b hb e=>by have e:b=R:=e;have hb:V.heap.size≤b:=hb;omega)
     clear hn
     obtain ⟨n0,n1,n2,n3,n4,n5,n6,-⟩:=blk7 HBZ.out
     obtain ⟨m0,m1,m2,m3,m4,m5,m6,f0,f1,f2,f3,f4,f5,f6⟩:=blk7 HB2Z.out
     go_wp2_with fail
     obtain ⟨wf,hwf,hp,hkp⟩:=put7 HB2Z.out (.int .i64 xk) (.int .i64 xo) (.int .i64 xn) (.string xS) (.slice xp xm xc) (.int .i64 xl) (.int .i64 xcl)
     rw [←hwf]
     obtain ⟨c0,c1,c2,c3,c4,c5,c6,-⟩:=blk7 hp
     have hn:=HNN.out
     exact bodyPost_ret (v:=.agg #[.int .i64 xk,.int .i64 xo,.int .i64 xn,.string xS,.slice xp xm xc,.int .i64 xl,.int .i64 xcl]) (by simp [results,Tryz.results117,go_sem,c0,c1,c2,c3,c4,c5,c6]) rfl ⟨[.int .i64 xk,.int .i64 xo,.int .i64 xn,.string xS,.slice xp xm xc,.int .i64 xl,.int .i64 xcl],rfl,(HEXZ.out.keep hkp fun b hb e=>by have e:b=B2:=e;have hb:V.heap.size≤b:=hb;omega).mono fun b hb=>by have hb:V.heap.size≤b:=hb;omega,HRZ.out.keep hkp fun b hb e=>by have e:b=B2:=e;omega,HKZ.out.newE hkp fun b e=>by have e:b=B2:=e;omega⟩
    ·rw [if_neg hh] at hx;cases hx
   ·rw [if_neg h3] at hx
    rw [show headIs (t::r0) [40]=false from Bool.eq_false_iff.2 h3] at HM3
    go_upto_region 16 with (go_at_call 95;refine HM3.out.mono ?_;rintro e wq3 ⟨rfl,hry,hky⟩)
    have HRV:=hid (show ReaderAt wq3 R (t::r0) el ec from hry);have HKV:=hid (HKV.out.trans hky)
    have hnY:=HNN.out
    have HB4:=hid (hky.blkE HB4.out fun e=>by have e:B4=R:=e;omega)
    have HB3:=hid (hky.blkE HB3.out fun e=>by have e:B3=R:=e;omega)
    have HB2V:=hid (hky.blkE HB2V.out fun e=>by have e:B2=R:=e;omega)
    have HSV:=hid (Nat.le_trans HSV.out hky.size)
    clear hry hky hnY h3
    by_cases h4:t.tok.kind=3
    ·rw [if_pos h4] at hx
     obtain ⟨rfl,rfl⟩:=Prod.mk.inj (Option.some.inj hx)
     have HWT:=hid (want_any wq3 R t r0 el ec HRV.out 3 (by omega))
     obtain ⟨SW,hSW⟩:∃ S,strV t.tok.text=.string S:=⟨_,rfl⟩
     rw [hSW] at HWT
     obtain ⟨nu,hnu⟩:∃ n:Int,(t.tok.num:Int)=n:=⟨_,rfl⟩
     rw [hnu] at HWT
     have HNU:=hid hnu
     obtain ⟨b0,b1,b2,b3,b4,-⟩:=blk5 HB3.out
     have hkk:(tk==3)=true:=by rw [HTL.out.2.2];simp [h4]
     clear hx hSW hnu h4
     go_upto_region 17 with fail
     clear b0 b1 b2 b3 b4
     go_wp2_with fail
     go_at_call 78
     refine HWT.out.mono ?_
     rintro e w3 ⟨rfl,hr3,hk3⟩
     have hnE:=HNN.out
     have hb43:=hk3.blkE HB4.out fun e=>by have e:B4=R:=e;omega
     have HB43:=hid hb43
     have HR3:=hid hr3;have HK3:=hid hk3
     obtain ⟨n0,n1,n2,n3,n4,n5,n6,f0,f1,f2,f3,f4,f5,f6⟩:=blk7 hb43
     have hfn:=field_num (.int .i64 t.tok.kind) (.string SW) (.int .i64 nu) (.int .i64 t.line) (.int .i64 t.col) w3
     clear hr3 hk3 hb43 hnE
     go_upto_region 18 with fail
     obtain ⟨wa,hwa,hba,hka⟩:=box_put0 HB43.out (.int .i64 1)
     rw [←hwa]
     obtain ⟨wz,hwz,hbz,hkz⟩:=box_put2 hba (.int .i64 nu)
     rw [←hwz]
     have hn:=HNN.out
     have hkab:=hka.trans hkz
     have HBZ:=hid hbz
     have HB2Z:=hid (hkab.blkE (HK3.out.blkE HB2V.out fun e=>by have e:B2=R:=e;omega) fun e=>by have e:B2=B4:=e;omega)
     have HRZ:=hid (HR3.out.keep hkab fun b hb e=>by have e:b=B4:=e;omega)
     have HKZ:=hid ((HKV.out.trans HK3.out).newE hkab fun b e=>by have e:b=B4:=e;omega)
     have HEXZ:=hid (show ExAt wz (fun b=>V.heap.size≤b) [.int .i64 1,.int .i64 0,.int .i64 nu,.string ⟨#[]⟩,.slice none 0 0,.int .i64 tl,.int .i64 tc] (.mk 1 0 t.tok.num [] t.line t.col []) from by
      unfold ExAt
      refine ⟨none,0,by rw [HTL.out.1,HTL.out.2.1,←HNU.out];rfl,?_⟩
      unfold KidsAt
      trivial)
     clear hwa hba hka hwz hbz hkz hn hkab n0 n1 n2 n3 n4 n5 n6 f0 f1 f2 f3 f4 f5 f6 hfn
     obtain ⟨n0,n1,n2,n3,n4,n5,n6,-⟩:=blk7 HBZ.out
     obtain ⟨m0,m1,m2,m3,m4,m5,m6,f0,f1,f2,f3,f4,f5,f6⟩:=blk7 HB2Z.out
     go_wp2_with fail
     obtain ⟨wf,hwf,hp,hkp⟩:=put7 HB2Z.out (.int .i64 1) (.int .i64 0) (.int .i64 nu) (.string ⟨#[]⟩) (.slice none 0 0) (.int .i64 tl) (.int .i64 tc)
     rw [←hwf]
     obtain ⟨c0,c1,c2,c3,c4,c5,c6,-⟩:=blk7 hp
     have hn:=HNN.out
     exact bodyPost_ret (v:=.agg #[.int .i64 1,.int .i64 0,.int .i64 nu,.string ⟨#[]⟩,.slice none 0 0,.int .i64 tl,.int .i64 tc]) (by simp [results,Tryz.results117,go_sem,c0,c1,c2,c3,c4,c5,c6]) rfl ⟨[.int .i64 1,.int .i64 0,.int .i64 nu,.string ⟨#[]⟩,.slice none 0 0,.int .i64 tl,.int .i64 tc],rfl,(HEXZ.out.keep hkp fun b hb e=>by have e:b=B2:=e;have hb:V.heap.size≤b:=hb;omega).mono fun b hb=>by have hb:V.heap.size≤b:=hb;omega,HRZ.out.keep hkp fun b hb e=>by have e:b=B2:=e;omega,HKZ.out.newE hkp fun b e=>by have e:b=B2:=e;omega⟩
    ·rw [if_neg h4] at hx
     by_cases h5:t.tok.kind=2
     ·rw [if_pos h5] at hx
      have HNA:=name_any wq3 R t r0 el ec HRV.out h5
      obtain ⟨SN,hSN⟩:∃ S,strV t.tok.text=.string S:=⟨_,rfl⟩
      rw [hSN] at HNA
      have HNA:=hid HNA
      have HSN:=hid hSN
      obtain ⟨b0,b1,b2,b3,b4,-⟩:=blk5 HB3.out
      have hkk:(tk==3)=false:=by rw [HTL.out.2.2,beq_eq_false_iff_ne];omega
      clear hSN h4 h5
      go_upto_region 3 with fail
      clear b0 b1 b2 b3 b4 hkk
      go_wp2_with fail
      go_at_call 81
      refine HNA.out.mono ?_
      rintro e wn ⟨rfl,hr3,hk3⟩
      have hnE:=HNN.out
      have hb43:=hk3.blkE HB4.out fun e=>by have e:B4=R:=e;omega
      have HB43:=hid hb43
      have HR3:=hid hr3;have HK3:=hid hk3
      obtain ⟨n0,n1,n2,n3,n4,n5,n6,f0,f1,f2,f3,f4,f5,f6⟩:=blk7 hb43
      clear hr3 hk3 hb43 hnE
      go_upto_region 4 with fail
      obtain ⟨wa,hwa,hba,hka⟩:=box_put0 HB43.out (.int .i64 2)
      rw [←hwa]
      obtain ⟨wb,hwb,hbb,hkb⟩:=box_put3 hba (.string SN)
      rw [←hwb]
      have hn:=HNN.out
      have hkab:=hka.trans hkb
      have HBB:=hid hbb
      have HB2B:=hid (hkab.blkE (HK3.out.blkE HB2V.out fun e=>by have e:B2=R:=e;omega) fun e=>by have e:B2=B4:=e;omega)
      have HRB:=hid (HR3.out.keep hkab fun b hb e=>by have e:b=B4:=e;omega)
      have HKB:=hid ((HKV.out.trans HK3.out).newE hkab fun b e=>by have e:b=B4:=e;omega)
      have HSB:=hid (Nat.le_trans HSV.out (Nat.le_trans HK3.out.size hkab.size))
      clear hwa hba hka hwb hbb hkb hn hkab n0 n1 n2 n3 n4 n5 n6 f0 f1 f2 f3 f4 f5 f6
      have HM4:=hid (may_any wb R r0 el ec HRB.out [91])
      by_cases h6:headIs r0 [91]=true
      ·rw [if_pos h6] at hx
       rw [h6] at HM4
       cases ho:rowsN (oneP f) r0.tail with
       | none=>rw [ho] at hx;cases hx
       | some xr=>
       obtain ⟨x1,r1⟩:=xr
       rw [ho] at hx
       dsimp only at hx
       by_cases hh:headIs r1 [93]=true
       ·rw [if_pos hh] at hx
        obtain ⟨rfl,rfl⟩:=Prod.mk.inj (Option.some.inj hx)
        have HO1:=hid ho;have HH:=hid hh
        clear ho hh hx h6
        go_upto_region 5 with (go_at_call 95;refine HM4.out.mono ?_;rintro e wy ⟨rfl,hry,hky⟩)
        have HRY:=hid (show ReaderAt wy R r0.tail el ec from hry);have HKY:=hid (HKB.out.trans hky)
        have hnY:=HNN.out
        have HB4Y:=hid (hky.blkE HBB.out fun e=>by have e:B4=R:=e;omega)
        have HB2Y:=hid (hky.blkE HB2B.out fun e=>by have e:B2=R:=e;omega)
        have HSY:=hid (Nat.le_trans HSB.out hky.size)
        clear hry hky hnY
        go_wp2_with fail
        go_at_call 109
        refine (HEXP.out wy r0.tail x1 r1 HKY.out HRY.out HO1.out).mono ?_
        rintro e w3 ⟨vs,rfl,hex,hr3,hk3⟩
        obtain ⟨xk,xo,xn,xS,xp,xm,xc,xl,xcl,rfl⟩:=ex_form hex
        have hnE:=HNN.out
        have hb43:=hk3.blkE HB4Y.out fun e=>by have e:B4=R:=e;omega
        have HB4W:=hid hb43
        have HEX3:=hid hex;have HRW:=hid hr3;have HKW3:=hid hk3
        have HA:=hid (KeepBut.alloc (fun _=>False) w3 (.cells #[.int .i64 xk,.int .i64 xo,.int .i64 xn,.string xS,.slice xp xm xc,.int .i64 xl,.int .i64 xcl] TEx))
        obtain ⟨y0,-,-,-,y4,-⟩:=blk7 (HA.out.blk hb43)
        have g0:(w3.alloc (.cells #[.int .i64 xk,.int .i64 xo,.int .i64 xn,.string xS,.slice xp xm xc,.int .i64 xl,.int .i64 xcl] TEx)).frozen? ⟨B4,0,none⟩=false:=by simp [World.frozen?,HA.out.blk hb43]
        have g4:(w3.alloc (.cells #[.int .i64 xk,.int .i64 xo,.int .i64 xn,.string xS,.slice xp xm xc,.int .i64 xl,.int .i64 xcl] TEx)).frozen? ⟨B4,4,none⟩=false:=by simp [World.frozen?,HA.out.blk hb43]
        clear hex hr3 hk3 hb43 hnE
        go_upto_region 6 with fail
        obtain ⟨wc1,hwc1,hbc1,hkc1⟩:=box_put0 (HA.out.blk HB4W.out) (.int .i64 3)
        rw [←hwc1]
        obtain ⟨wc,hwc,hbc,hkc⟩:=box_put4 hbc1 (.slice (some ⟨w3.heap.size,0,none⟩) 1 1)
        rw [←hwc]
        have hn:=HNN.out
        have hG:=heap_alloc_new w3 (.cells #[.int .i64 xk,.int .i64 xo,.int .i64 xn,.string xS,.slice xp xm xc,.int .i64 xl,.int .i64 xcl] TEx)
        have hs3:=HKW3.out.size
        have hsy:=HSY.out
        have hkz:=hkc1.trans hkc
        have HBC:=hid hbc
        have HRC:=hid ((HRW.out.keep HA.out fun _ _ e=>e).keep hkz fun b hb e=>by have e:b=B4:=e;omega)
        have HKC:=hid (((HKY.out.trans HKW3.out).newM HA.out fun _ e=>e.elim).newE hkz fun b e=>by have e:b=B4:=e;omega)
        have HB2C:=hid (hkz.blkE (HA.out.blk (HKW3.out.blkE HB2Y.out fun e=>by have e:B2=R:=e;omega)) fun e=>by have e:B2=B4:=e;omega)
        have HEXC:=hid (show ExAt wc (fun b=>V.heap.size≤b) [.int .i64 3,.int .i64 0,.int .i64 0,.string SN,.slice (some ⟨w3.heap.size,0,none⟩) 1 1,.int .i64 tl,.int .i64 tc] (.mk 3 0 0 t.tok.text t.line t.col [x1]) from by
         unfold ExAt
         refine ⟨some ⟨w3.heap.size,0,none⟩,1,by rw [HTL.out.1,HTL.out.2.1,HSN.out];rfl,kids_one (vs:=[.int .i64 xk,.int .i64 xo,.int .i64 xn,.string xS,.slice xp xm xc,.int .i64 xl,.int .i64 xcl]) (hkz.blkE hG fun e=>by have e:w3.heap.size=B4:=e;omega) (show V.heap.size≤w3.heap.size by omega) (((HEX3.out.keep HA.out fun _ _ e=>e).keep hkz fun b hb e=>by have e:b=B4:=e;have hb:wy.heap.size≤b:=hb;omega).mono fun b hb=>by have hb:wy.heap.size≤b:=hb;omega)⟩)
        clear hwc1 hbc1 hkc1 hwc hbc hkc hn hG hs3 hsy hkz y0 y4 g0 g4
        have hmk:=KeepBut.alloc (fun _=>False) wc (.cells #[.string ⟨#[93]⟩] 9)
        have HMK:=hid hmk
        have hRlt:=HRC.out.lt
        have HMU:=hid (must_any (wc.alloc (.cells #[.string ⟨#[93]⟩] 9)) R r1 el ec (HRC.out.keep hmk fun _ _ e=>e) (some ⟨wc.heap.size,0,none⟩) 1 [[93]] (fun i hi=>by
         have e:i=0:=by simp at hi;exact hi
         subst e
         exact ⟨_,0,rfl,blk_cell (heap_alloc_new wc _) rfl⟩) (fun a ha=>by cases ha;show wc.heap.size≠R;omega) (by decide) r1.tail (by unfold mustT;rw [if_pos HH.out];rfl))
        clear hmk hRlt
        go_upto_region 18 with (go_at_call 77;refine HMU.out.mono ?_;rintro e w5 ⟨rfl,hr5,hk5⟩)
        have HR5:=hid hr5;have HK5:=hid hk5
        clear hr5 hk5
        have hn:=HNN.out
        have HBZ:=hid (HK5.out.blkE (HMK.out.blk HBC.out) fun e=>by have e:B4=R:=e;omega)
        have HB2Z:=hid (HK5.out.blkE (HMK.out.blk HB2C.out) fun e=>by have e:B2=R:=e;omega)
        have HRZ:=HR5
        have HKZ:=hid ((HKC.out.newM HMK.out fun _ e=>e.elim).trans HK5.out)
        have HEXZ:=hid ((HEXC.out.keep HMK.out fun _ _ e=>e).keep HK5.out fun b hb e=>by have e:b=R:=e;have hb:V.heap.size≤b:=hb;omega)
        clear hn
        obtain ⟨n0,n1,n2,n3,n4,n5,n6,-⟩:=blk7 HBZ.out
        obtain ⟨m0,m1,m2,m3,m4,m5,m6,f0,f1,f2,f3,f4,f5,f6⟩:=blk7 HB2Z.out
        go_wp2_with fail
        obtain ⟨wf,hwf,hp,hkp⟩:=put7 HB2Z.out (.int .i64 3) (.int .i64 0) (.int .i64 0) (.string SN) (.slice (some ⟨w3.heap.size,0,none⟩) 1 1) (.int .i64 tl) (.int .i64 tc)
        rw [←hwf]
        obtain ⟨c0,c1,c2,c3,c4,c5,c6,-⟩:=blk7 hp
        have hn:=HNN.out
        exact bodyPost_ret (v:=.agg #[.int .i64 3,.int .i64 0,.int .i64 0,.string SN,.slice (some ⟨w3.heap.size,0,none⟩) 1 1,.int .i64 tl,.int .i64 tc]) (by simp [results,Tryz.results117,go_sem,c0,c1,c2,c3,c4,c5,c6]) rfl ⟨[.int .i64 3,.int .i64 0,.int .i64 0,.string SN,.slice (some ⟨w3.heap.size,0,none⟩) 1 1,.int .i64 tl,.int .i64 tc],rfl,(HEXZ.out.keep hkp fun b hb e=>by have e:b=B2:=e;have hb:V.heap.size≤b:=hb;omega).mono fun b hb=>by have hb:V.heap.size≤b:=hb;omega,HRZ.out.keep hkp fun b hb e=>by have e:b=B2:=e;omega,HKZ.out.newE hkp fun b e=>by have e:b=B2:=e;omega⟩
       ·rw [if_neg hh] at hx;cases hx
      ·rw [if_neg h6] at hx
       rw [show headIs r0 [91]=false from Bool.eq_false_iff.2 h6] at HM4
       obtain ⟨rfl,rfl⟩:=Prod.mk.inj (Option.some.inj hx)
       clear hx h6
       go_upto_region 18 with (go_at_call 95;refine HM4.out.mono ?_;rintro e wz ⟨rfl,hry,hky⟩)
       have hn:=HNN.out
       have HBZ:=hid (hky.blkE HBB.out fun e=>by have e:B4=R:=e;omega)
       have HB2Z:=hid (hky.blkE HB2B.out fun e=>by have e:B2=R:=e;omega)
       have HRZ:=hid (show ReaderAt wz R r0 el ec from hry)
       have HKZ:=hid (HKB.out.trans hky)
       have HEXZ:=hid (show ExAt wz (fun b=>V.heap.size≤b) [.int .i64 2,.int .i64 0,.int .i64 0,.string SN,.slice none 0 0,.int .i64 tl,.int .i64 tc] (.mk 2 0 0 t.tok.text t.line t.col []) from by
        unfold ExAt
        refine ⟨none,0,by rw [HTL.out.1,HTL.out.2.1,HSN.out];rfl,?_⟩
        unfold KidsAt
        trivial)
       clear hry hky hn
       obtain ⟨n0,n1,n2,n3,n4,n5,n6,-⟩:=blk7 HBZ.out
       obtain ⟨m0,m1,m2,m3,m4,m5,m6,f0,f1,f2,f3,f4,f5,f6⟩:=blk7 HB2Z.out
       go_wp2_with fail
       obtain ⟨wf,hwf,hp,hkp⟩:=put7 HB2Z.out (.int .i64 2) (.int .i64 0) (.int .i64 0) (.string SN) (.slice none 0 0) (.int .i64 tl) (.int .i64 tc)
       rw [←hwf]
       obtain ⟨c0,c1,c2,c3,c4,c5,c6,-⟩:=blk7 hp
       have hn:=HNN.out
       exact bodyPost_ret (v:=.agg #[.int .i64 2,.int .i64 0,.int .i64 0,.string SN,.slice none 0 0,.int .i64 tl,.int .i64 tc]) (by simp [results,Tryz.results117,go_sem,c0,c1,c2,c3,c4,c5,c6]) rfl ⟨[.int .i64 2,.int .i64 0,.int .i64 0,.string SN,.slice none 0 0,.int .i64 tl,.int .i64 tc],rfl,(HEXZ.out.keep hkp fun b hb e=>by have e:b=B2:=e;have hb:V.heap.size≤b:=hb;omega).mono fun b hb=>by have hb:V.heap.size≤b:=hb;omega,HRZ.out.keep hkp fun b hb e=>by have e:b=B2:=e;omega,HKZ.out.newE hkp fun b e=>by have e:b=B2:=e;omega⟩
     ·rw [if_neg h5] at hx;cases hx
theorem one_reads (R el ec:Nat):∀ (f:Nat) (w0:World),Reads 117 #[rdV R] (oneP f) w0 R el ec
 | 0,_=>fun _ _ _ _ _ _ e=>by cases e
 | f+1,w0=>one_step R el ec f (one_reads R el ec f) w0
/-- a whole expression -/
theorem exP_reads (R el ec f:Nat) (w0:World):Reads 109 #[rdV R] (exP f) w0 R el ec:=expr_reads w0 R el ec (oneP f) (oneP_dec f) (one_reads R el ec f w0)
end Go.Proofs.YtknnmidnodeanaaGreatDoor
