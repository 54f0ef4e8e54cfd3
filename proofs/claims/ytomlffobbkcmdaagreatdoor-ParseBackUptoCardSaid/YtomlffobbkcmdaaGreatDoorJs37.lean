import Derived.Test.YtomlffobbkcmdaaGreatDoorJs36
set_option maxHeartbeats 64000000
set_option maxRecDepth 4000
namespace Go.Proofs.YtomlffobbkcmdaaGreatDoor
open Go Go.RowKit Own
open Go.Lib (hid)
theorem elsT_ne {l:List Gs}(h:l≠[]):elsT l=[[101,108,115,101]]++FT l:=by
 cases l with
 |nil=>exact absurd rfl h
 |cons x l=>rw[elsT_cons];rfl
theorem tellsS_step (w0:World)(hP:TabP w0)(x:Gs)(hm:mayS x=true)(hf:fitN x)(hsz:CS x≤1099511627776)(ih:∀y,CS y<CS x→mayS y=true→fitN y→TellsS w0 y):TellsS w0 x:=by
 intro S vs hs b l w ht hlen
 have HP:=hid hP
 have hE:=fun e h1 h2=>tells_any w0 hP (CM e) e (Nat.le_refl _) h1 h2
 have hms:=mayS_iff x hm
 clear hm hP
 cases hms with
 | var nm x a d _ _=>
  unfold SAt at hs
  obtain⟨p1,c1,p2,c2,p3,c3,rfl,hx,hth,hel⟩:=hs
  obtain⟨g,go,xs,rfl,hx,hy⟩:=gkids_one hx
  have HX:=hid hx;have HYA:=hid hy
  obtain⟨yk,yo,yn,yS,yp,ym,yc,yl,ycl,rfl⟩:=FN hy
  have HY:=hid (hE x (by assumption) (by unfold fitN at hf;exact hf.2.1.1))
  change Calls Tryz.prog 84 #[.pointer (some ⟨b,0,none⟩),.agg #[.int .i64 1,.string ⟨nm.toArray⟩,.int .i64 0,.int .i64 0,.string ⟨#[]⟩,.string ⟨#[]⟩,.string ⟨#[]⟩,.slice (some ⟨g,go,none⟩) 1 c1,.slice p2 0 c2,.slice p3 0 c3,.int .i64 a,.int .i64 d]] w _
  obtain⟨LT,hLT⟩:∃L,putL (tokS (.mk 1 nm 0 0 [] [] [] [x] [] [] a d))=L:=⟨_,rfl⟩
  rw[hLT]at hlen ⊢
  have HLT:=hid hLT;have HLEN0:=hid hlen
  clear hLT hlen
  obtain⟨W0,B3,hW,hB,hb3,hk3,hs3⟩:=BC w (.cells #[.int .i64 1,.string ⟨nm.toArray⟩,.int .i64 0,.int .i64 0,.string ⟨#[]⟩,.string ⟨#[]⟩,.string ⟨#[]⟩,.slice (some ⟨g,go,none⟩) 1 c1,.slice p2 0 c2,.slice p3 0 c3,.int .i64 a,.int .i64 d] TSm)
  have HTW0:=hid (ht.on hk3);have HKW0:=hid (ht.onK hk3);have HBW0:=hid hb3
  have HNE:=hid (show B3≠b by have:=ht.tel.le;omega)
  clear ht hk3 hs3
  have HE:=hid (show LT=putL [[118,97,114],nm,[61]]++(putL (tokG x)++putL [[59]]) by rw[←HLT.out];unfold tokS;rw[if_neg (by decide),if_pos (by decide)];rw[CI,BQ,BQ])
  have HLEN:=hid (by have h:=HLEN0.out;rw[HE.out]at h;exact h)
  clear hE ih hf hx hy hth hel hsz
  obtain⟨c0,c1,c2,c3,c4,c5,c6,c7,c8,c9,c10,c11⟩:=BH hb3
  clear hb3
  go_enter Tryz.func84,Tryz.ntmps84
  go_upto_region 1 with fail
  rw[←hW,←hB]
  clear hW hB
  have HPw1:=hid (HTW0.out.put3 ([118,97,114]) (nm) ([61]) (by have:=HLEN.out;(try simp only[LA]at this ⊢);omega))
  go_wp2_with fail
  go_at_call 39
  refine HPw1.out.mono ?_
  rintro e w1 ⟨rfl,ht,hk⟩
  have hb:=hk.boxedS HTW0.out HNE.out HBW0.out
  have HBw1:=hid hb;have HTw1:=hid ht;have HKw1:=hid (HKW0.out.trans hk)
  clear ht hk
  clear c0 c1 c2 c3 c4 c5 c6 c7 c8 c9 c10 c11
  obtain⟨c0,c1,c2,c3,c4,c5,c6,c7,c8,c9,c10,c11⟩:=BH hb
  clear hb
  have x0:=HTw1.out.keep.stay (show w0.cell? ⟨g,go,none⟩=some _ from HX.out 0 _ rfl)
  have x1:=HTw1.out.keep.stay (show w0.cell? ⟨g,go+1,none⟩=some _ from HX.out 1 _ rfl)
  have x2:=HTw1.out.keep.stay (show w0.cell? ⟨g,go+2,none⟩=some _ from HX.out 2 _ rfl)
  have x3:=HTw1.out.keep.stay (show w0.cell? ⟨g,go+3,none⟩=some _ from HX.out 3 _ rfl)
  have x4:=HTw1.out.keep.stay (show w0.cell? ⟨g,go+4,none⟩=some _ from HX.out 4 _ rfl)
  have x5:=HTw1.out.keep.stay (show w0.cell? ⟨g,go+5,none⟩=some _ from HX.out 5 _ rfl)
  have x6:=HTw1.out.keep.stay (show w0.cell? ⟨g,go+6,none⟩=some _ from HX.out 6 _ rfl)
  have HPw2:=hid (HY.out _ _ HYA.out _ _ _ HTw1.out (by have:=HLEN.out;(try simp only[LA]at this ⊢);omega))
  go_wp2_with fail
  go_at_call 27
  refine HPw2.out.mono ?_
  rintro e w2 ⟨rfl,ht,hk⟩
  have hb:=hk.boxedS HTw1.out HNE.out HBw1.out
  have HBw2:=hid hb;have HTw2:=hid ht;have HKw2:=hid (HKw1.out.trans hk)
  clear ht hk
  clear c0 c1 c2 c3 c4 c5 c6 c7 c8 c9 c10 c11
  obtain⟨c0,c1,c2,c3,c4,c5,c6,c7,c8,c9,c10,c11⟩:=BH hb
  clear hb
  clear x0 x1 x2 x3 x4 x5 x6
  have HPw3:=hid (HTw2.out.put1 ([59]) (by have:=HLEN.out;(try simp only[LA]at this ⊢);omega))
  go_wp2_with fail
  go_at_call 39
  refine HPw3.out.mono ?_
  rintro e w3 ⟨rfl,ht,hk⟩
  have hb:=hk.boxedS HTw2.out HNE.out HBw2.out
  have HBw3:=hid hb;have HTw3:=hid ht;have HKw3:=hid (HKw2.out.trans hk)
  clear ht hk
  clear c0 c1 c2 c3 c4 c5 c6 c7 c8 c9 c10 c11
  obtain⟨c0,c1,c2,c3,c4,c5,c6,c7,c8,c9,c10,c11⟩:=BH hb
  clear hb
  go_wp2_with fail
  go_end0
  exact⟨rfl,by have h:=HTw3.out;rw[HE.out];simpa only[List.append_assoc]using h,HKw3.out⟩
 | set nm x a d _ _=>
  unfold SAt at hs
  obtain⟨p1,c1,p2,c2,p3,c3,rfl,hx,hth,hel⟩:=hs
  obtain⟨g,go,xs,rfl,hx,hy⟩:=gkids_one hx
  have HX:=hid hx;have HYA:=hid hy
  obtain⟨yk,yo,yn,yS,yp,ym,yc,yl,ycl,rfl⟩:=FN hy
  have HY:=hid (hE x (by assumption) (by unfold fitN at hf;exact hf.2.1.1))
  change Calls Tryz.prog 84 #[.pointer (some ⟨b,0,none⟩),.agg #[.int .i64 3,.string ⟨nm.toArray⟩,.int .i64 0,.int .i64 0,.string ⟨#[]⟩,.string ⟨#[]⟩,.string ⟨#[]⟩,.slice (some ⟨g,go,none⟩) 1 c1,.slice p2 0 c2,.slice p3 0 c3,.int .i64 a,.int .i64 d]] w _
  obtain⟨LT,hLT⟩:∃L,putL (tokS (.mk 3 nm 0 0 [] [] [] [x] [] [] a d))=L:=⟨_,rfl⟩
  rw[hLT]at hlen ⊢
  have HLT:=hid hLT;have HLEN0:=hid hlen
  clear hLT hlen
  obtain⟨W0,B3,hW,hB,hb3,hk3,hs3⟩:=BC w (.cells #[.int .i64 3,.string ⟨nm.toArray⟩,.int .i64 0,.int .i64 0,.string ⟨#[]⟩,.string ⟨#[]⟩,.string ⟨#[]⟩,.slice (some ⟨g,go,none⟩) 1 c1,.slice p2 0 c2,.slice p3 0 c3,.int .i64 a,.int .i64 d] TSm)
  have HTW0:=hid (ht.on hk3);have HKW0:=hid (ht.onK hk3);have HBW0:=hid hb3
  have HNE:=hid (show B3≠b by have:=ht.tel.le;omega)
  clear ht hk3 hs3
  have HE:=hid (show LT=putL [nm,[61]]++(putL (tokG x)++putL [[59]]) by rw[←HLT.out];unfold tokS;rw[if_neg (by decide),if_neg (by decide),if_pos (by decide)];rw[CI,BQ,BQ])
  have HLEN:=hid (by have h:=HLEN0.out;rw[HE.out]at h;exact h)
  clear hE ih hf hx hy hth hel hsz
  obtain⟨c0,c1,c2,c3,c4,c5,c6,c7,c8,c9,c10,c11⟩:=BH hb3
  clear hb3
  go_enter Tryz.func84,Tryz.ntmps84
  go_upto_region 1 with fail
  rw[←hW,←hB]
  clear hW hB
  have HPw4:=hid (HTW0.out.put2 (nm) ([61]) (by have:=HLEN.out;(try simp only[LA]at this ⊢);omega))
  go_wp2_with fail
  go_at_call 39
  refine HPw4.out.mono ?_
  rintro e w4 ⟨rfl,ht,hk⟩
  have hb:=hk.boxedS HTW0.out HNE.out HBW0.out
  have HBw4:=hid hb;have HTw4:=hid ht;have HKw4:=hid (HKW0.out.trans hk)
  clear ht hk
  clear c0 c1 c2 c3 c4 c5 c6 c7 c8 c9 c10 c11
  obtain⟨c0,c1,c2,c3,c4,c5,c6,c7,c8,c9,c10,c11⟩:=BH hb
  clear hb
  have x0:=HTw4.out.keep.stay (show w0.cell? ⟨g,go,none⟩=some _ from HX.out 0 _ rfl)
  have x1:=HTw4.out.keep.stay (show w0.cell? ⟨g,go+1,none⟩=some _ from HX.out 1 _ rfl)
  have x2:=HTw4.out.keep.stay (show w0.cell? ⟨g,go+2,none⟩=some _ from HX.out 2 _ rfl)
  have x3:=HTw4.out.keep.stay (show w0.cell? ⟨g,go+3,none⟩=some _ from HX.out 3 _ rfl)
  have x4:=HTw4.out.keep.stay (show w0.cell? ⟨g,go+4,none⟩=some _ from HX.out 4 _ rfl)
  have x5:=HTw4.out.keep.stay (show w0.cell? ⟨g,go+5,none⟩=some _ from HX.out 5 _ rfl)
  have x6:=HTw4.out.keep.stay (show w0.cell? ⟨g,go+6,none⟩=some _ from HX.out 6 _ rfl)
  have HPw5:=hid (HY.out _ _ HYA.out _ _ _ HTw4.out (by have:=HLEN.out;(try simp only[LA]at this ⊢);omega))
  go_wp2_with fail
  go_at_call 27
  refine HPw5.out.mono ?_
  rintro e w5 ⟨rfl,ht,hk⟩
  have hb:=hk.boxedS HTw4.out HNE.out HBw4.out
  have HBw5:=hid hb;have HTw5:=hid ht;have HKw5:=hid (HKw4.out.trans hk)
  clear ht hk
  clear c0 c1 c2 c3 c4 c5 c6 c7 c8 c9 c10 c11
  obtain⟨c0,c1,c2,c3,c4,c5,c6,c7,c8,c9,c10,c11⟩:=BH hb
  clear hb
  clear x0 x1 x2 x3 x4 x5 x6
  have HPw6:=hid (HTw5.out.put1 ([59]) (by have:=HLEN.out;(try simp only[LA]at this ⊢);omega))
  go_wp2_with fail
  go_at_call 39
  refine HPw6.out.mono ?_
  rintro e w6 ⟨rfl,ht,hk⟩
  have hb:=hk.boxedS HTw5.out HNE.out HBw5.out
  have HBw6:=hid hb;have HTw6:=hid ht;have HKw6:=hid (HKw5.out.trans hk)
  clear ht hk
  clear c0 c1 c2 c3 c4 c5 c6 c7 c8 c9 c10 c11
  obtain⟨c0,c1,c2,c3,c4,c5,c6,c7,c8,c9,c10,c11⟩:=BH hb
  clear hb
  go_wp2_with fail
  go_end0
  exact⟨rfl,by have h:=HTw6.out;rw[HE.out];simpa only[List.append_assoc]using h,HKw6.out⟩
 | array nm sz a d _ hsz0=>
  unfold SAt at hs
  obtain⟨p1,c1,p2,c2,p3,c3,rfl,hx,hth,hel⟩:=hs
  have hfs:sz≤9223372036854775807:=by unfold fitN at hf;exact hf.1
  change Calls Tryz.prog 84 #[.pointer (some ⟨b,0,none⟩),.agg #[.int .i64 2,.string ⟨nm.toArray⟩,.int .i64 sz,.int .i64 0,.string ⟨#[]⟩,.string ⟨#[]⟩,.string ⟨#[]⟩,.slice p1 0 c1,.slice p2 0 c2,.slice p3 0 c3,.int .i64 a,.int .i64 d]] w _
  obtain⟨LT,hLT⟩:∃L,putL (tokS (.mk 2 nm sz 0 [] [] [] [] [] [] a d))=L:=⟨_,rfl⟩
  rw[hLT]at hlen ⊢
  have HLT:=hid hLT;have HLEN0:=hid hlen
  clear hLT hlen
  obtain⟨W0,B3,hW,hB,hb3,hk3,hs3⟩:=BC w (.cells #[.int .i64 2,.string ⟨nm.toArray⟩,.int .i64 sz,.int .i64 0,.string ⟨#[]⟩,.string ⟨#[]⟩,.string ⟨#[]⟩,.slice p1 0 c1,.slice p2 0 c2,.slice p3 0 c3,.int .i64 a,.int .i64 d] TSm)
  have HTW0:=hid (ht.on hk3);have HKW0:=hid (ht.onK hk3);have HBW0:=hid hb3
  have HNE:=hid (show B3≠b by have:=ht.tel.le;omega)
  clear ht hk3 hs3
  have HE:=hid (show LT=putL [[97,114,114,97,121],nm,[91]]++(putL [Lib.itoa sz]++(putL [[93]]++putL [[59]])) by rw[←HLT.out];unfold tokS;rw[if_neg (by decide),if_neg (by decide),if_neg (by decide),if_pos (by decide)];rw[BQ,BQ,BQ])
  have HLEN:=hid (by have h:=HLEN0.out;rw[HE.out]at h;exact h)
  have HNUM:=hid (fun W L (h:TS w0 b L W) (hl:L.length+(putL [Lib.itoa sz]).length≤100000000)=>h.number HP.out sz (by omega) hfs hl)
  clear hE ih hf hx hth hel hsz hfs
  obtain⟨c0,c1,c2,c3,c4,c5,c6,c7,c8,c9,c10,c11⟩:=BH hb3
  clear hb3
  go_enter Tryz.func84,Tryz.ntmps84
  go_upto_region 1 with fail
  rw[←hW,←hB]
  clear hW hB
  have HPw7:=hid (HTW0.out.put3 ([97,114,114,97,121]) (nm) ([91]) (by have:=HLEN.out;(try simp only[LA]at this ⊢);omega))
  go_wp2_with fail
  go_at_call 39
  refine HPw7.out.mono ?_
  rintro e w7 ⟨rfl,ht,hk⟩
  have hb:=hk.boxedS HTW0.out HNE.out HBW0.out
  have HBw7:=hid hb;have HTw7:=hid ht;have HKw7:=hid (HKW0.out.trans hk)
  clear ht hk
  clear c0 c1 c2 c3 c4 c5 c6 c7 c8 c9 c10 c11
  obtain⟨c0,c1,c2,c3,c4,c5,c6,c7,c8,c9,c10,c11⟩:=BH hb
  clear hb
  have HPw8:=hid (HNUM.out _ _ HTw7.out (by have:=HLEN.out;(try simp only[LA]at this ⊢);omega))
  go_wp2_with fail
  go_at_call 40
  refine HPw8.out.mono ?_
  rintro e w8 ⟨rfl,ht,hk⟩
  have hb:=hk.boxedS HTw7.out HNE.out HBw7.out
  have HBw8:=hid hb;have HTw8:=hid ht;have HKw8:=hid (HKw7.out.trans hk)
  clear ht hk
  clear c0 c1 c2 c3 c4 c5 c6 c7 c8 c9 c10 c11
  obtain⟨c0,c1,c2,c3,c4,c5,c6,c7,c8,c9,c10,c11⟩:=BH hb
  clear hb
  have HPw9:=hid (HTw8.out.put1 ([93]) (by have:=HLEN.out;(try simp only[LA]at this ⊢);omega))
  go_wp2_with fail
  go_at_call 39
  refine HPw9.out.mono ?_
  rintro e w9 ⟨rfl,ht,hk⟩
  have hb:=hk.boxedS HTw8.out HNE.out HBw8.out
  have HBw9:=hid hb;have HTw9:=hid ht;have HKw9:=hid (HKw8.out.trans hk)
  clear ht hk
  clear c0 c1 c2 c3 c4 c5 c6 c7 c8 c9 c10 c11
  obtain⟨c0,c1,c2,c3,c4,c5,c6,c7,c8,c9,c10,c11⟩:=BH hb
  clear hb
  have HPw10:=hid (HTw9.out.put1 ([59]) (by have:=HLEN.out;(try simp only[LA]at this ⊢);omega))
  go_wp2_with fail
  go_at_call 39
  refine HPw10.out.mono ?_
  rintro e w10 ⟨rfl,ht,hk⟩
  have hb:=hk.boxedS HTw9.out HNE.out HBw9.out
  have HBw10:=hid hb;have HTw10:=hid ht;have HKw10:=hid (HKw9.out.trans hk)
  clear ht hk
  clear c0 c1 c2 c3 c4 c5 c6 c7 c8 c9 c10 c11
  obtain⟨c0,c1,c2,c3,c4,c5,c6,c7,c8,c9,c10,c11⟩:=BH hb
  clear hb
  go_wp2_with fail
  go_end0
  exact⟨rfl,by have h:=HTw10.out;rw[HE.out];simpa only[List.append_assoc]using h,HKw10.out⟩
 | put nm x y a d _ _ _=>
  unfold SAt at hs
  obtain⟨p1,c1,p2,c2,p3,c3,rfl,hx,hth,hel⟩:=hs
  obtain⟨g,go,xs,us,rfl,hx,hy,hu,hz⟩:=gkids_two hx
  have HX:=hid hx;have HYA:=hid hy;have HU:=hid hu;have HZA:=hid hz
  obtain⟨yk,yo,yn,yS,yp,ym,yc,yl,ycl,rfl⟩:=FN hy
  obtain⟨zk,zo,zn,zS,zp,zm,zc,zl,zcl,rfl⟩:=FN hz
  have HY:=hid (hE x (by assumption) (by unfold fitN at hf;exact hf.2.1.1))
  have HZ:=hid (hE y (by assumption) (by unfold fitN at hf;exact hf.2.1.2.1))
  change Calls Tryz.prog 84 #[.pointer (some ⟨b,0,none⟩),.agg #[.int .i64 4,.string ⟨nm.toArray⟩,.int .i64 0,.int .i64 0,.string ⟨#[]⟩,.string ⟨#[]⟩,.string ⟨#[]⟩,.slice (some ⟨g,go,none⟩) 2 c1,.slice p2 0 c2,.slice p3 0 c3,.int .i64 a,.int .i64 d]] w _
  obtain⟨LT,hLT⟩:∃L,putL (tokS (.mk 4 nm 0 0 [] [] [] [x,y] [] [] a d))=L:=⟨_,rfl⟩
  rw[hLT]at hlen ⊢
  have HLT:=hid hLT;have HLEN0:=hid hlen
  clear hLT hlen
  obtain⟨W0,B3,hW,hB,hb3,hk3,hs3⟩:=BC w (.cells #[.int .i64 4,.string ⟨nm.toArray⟩,.int .i64 0,.int .i64 0,.string ⟨#[]⟩,.string ⟨#[]⟩,.string ⟨#[]⟩,.slice (some ⟨g,go,none⟩) 2 c1,.slice p2 0 c2,.slice p3 0 c3,.int .i64 a,.int .i64 d] TSm)
  have HTW0:=hid (ht.on hk3);have HKW0:=hid (ht.onK hk3);have HBW0:=hid hb3
  have HNE:=hid (show B3≠b by have:=ht.tel.le;omega)
  clear ht hk3 hs3
  have HE:=hid (show LT=putL [nm,[91]]++(putL (tokG x)++(putL [[93],[61]]++(putL (tokG y)++putL [[59]]))) by rw[←HLT.out];unfold tokS;rw[if_neg (by decide),if_neg (by decide),if_neg (by decide),if_neg (by decide),if_pos (by decide)];rw[CI,List.tail_cons,CI,BQ,BQ,BQ,BQ])
  have HLEN:=hid (by have h:=HLEN0.out;rw[HE.out]at h;exact h)
  clear hE ih hf hx hy hu hz hth hel hsz
  obtain⟨c0,c1,c2,c3,c4,c5,c6,c7,c8,c9,c10,c11⟩:=BH hb3
  clear hb3
  go_enter Tryz.func84,Tryz.ntmps84
  go_upto_region 1 with fail
  rw[←hW,←hB]
  clear hW hB
  have HPw11:=hid (HTW0.out.put2 (nm) ([91]) (by have:=HLEN.out;(try simp only[LA]at this ⊢);omega))
  go_wp2_with fail
  go_at_call 39
  refine HPw11.out.mono ?_
  rintro e w11 ⟨rfl,ht,hk⟩
  have hb:=hk.boxedS HTW0.out HNE.out HBW0.out
  have HBw11:=hid hb;have HTw11:=hid ht;have HKw11:=hid (HKW0.out.trans hk)
  clear ht hk
  clear c0 c1 c2 c3 c4 c5 c6 c7 c8 c9 c10 c11
  obtain⟨c0,c1,c2,c3,c4,c5,c6,c7,c8,c9,c10,c11⟩:=BH hb
  clear hb
  have x0:=HTw11.out.keep.stay (show w0.cell? ⟨g,go,none⟩=some _ from HX.out 0 _ rfl)
  have x1:=HTw11.out.keep.stay (show w0.cell? ⟨g,go+1,none⟩=some _ from HX.out 1 _ rfl)
  have x2:=HTw11.out.keep.stay (show w0.cell? ⟨g,go+2,none⟩=some _ from HX.out 2 _ rfl)
  have x3:=HTw11.out.keep.stay (show w0.cell? ⟨g,go+3,none⟩=some _ from HX.out 3 _ rfl)
  have x4:=HTw11.out.keep.stay (show w0.cell? ⟨g,go+4,none⟩=some _ from HX.out 4 _ rfl)
  have x5:=HTw11.out.keep.stay (show w0.cell? ⟨g,go+5,none⟩=some _ from HX.out 5 _ rfl)
  have x6:=HTw11.out.keep.stay (show w0.cell? ⟨g,go+6,none⟩=some _ from HX.out 6 _ rfl)
  have HPw12:=hid (HY.out _ _ HYA.out _ _ _ HTw11.out (by have:=HLEN.out;(try simp only[LA]at this ⊢);omega))
  go_wp2_with fail
  go_at_call 27
  refine HPw12.out.mono ?_
  rintro e w12 ⟨rfl,ht,hk⟩
  have hb:=hk.boxedS HTw11.out HNE.out HBw11.out
  have HBw12:=hid hb;have HTw12:=hid ht;have HKw12:=hid (HKw11.out.trans hk)
  clear ht hk
  clear c0 c1 c2 c3 c4 c5 c6 c7 c8 c9 c10 c11
  obtain⟨c0,c1,c2,c3,c4,c5,c6,c7,c8,c9,c10,c11⟩:=BH hb
  clear hb
  clear x0 x1 x2 x3 x4 x5 x6
  have HPw13:=hid (HTw12.out.put2 ([93]) ([61]) (by have:=HLEN.out;(try simp only[LA]at this ⊢);omega))
  go_wp2_with fail
  go_at_call 39
  refine HPw13.out.mono ?_
  rintro e w13 ⟨rfl,ht,hk⟩
  have hb:=hk.boxedS HTw12.out HNE.out HBw12.out
  have HBw13:=hid hb;have HTw13:=hid ht;have HKw13:=hid (HKw12.out.trans hk)
  clear ht hk
  clear c0 c1 c2 c3 c4 c5 c6 c7 c8 c9 c10 c11
  obtain⟨c0,c1,c2,c3,c4,c5,c6,c7,c8,c9,c10,c11⟩:=BH hb
  clear hb
  have u0:=HTw13.out.keep.stay (show w0.cell? ⟨g,go+7,none⟩=some _ from HU.out 0 _ rfl)
  have u1:=HTw13.out.keep.stay (show w0.cell? ⟨g,go+8,none⟩=some _ from HU.out 1 _ rfl)
  have u2:=HTw13.out.keep.stay (show w0.cell? ⟨g,go+9,none⟩=some _ from HU.out 2 _ rfl)
  have u3:=HTw13.out.keep.stay (show w0.cell? ⟨g,go+10,none⟩=some _ from HU.out 3 _ rfl)
  have u4:=HTw13.out.keep.stay (show w0.cell? ⟨g,go+11,none⟩=some _ from HU.out 4 _ rfl)
  have u5:=HTw13.out.keep.stay (show w0.cell? ⟨g,go+12,none⟩=some _ from HU.out 5 _ rfl)
  have u6:=HTw13.out.keep.stay (show w0.cell? ⟨g,go+13,none⟩=some _ from HU.out 6 _ rfl)
  have HPw14:=hid (HZ.out _ _ HZA.out _ _ _ HTw13.out (by have:=HLEN.out;(try simp only[LA]at this ⊢);omega))
  go_wp2_with fail
  go_at_call 27
  refine HPw14.out.mono ?_
  rintro e w14 ⟨rfl,ht,hk⟩
  have hb:=hk.boxedS HTw13.out HNE.out HBw13.out
  have HBw14:=hid hb;have HTw14:=hid ht;have HKw14:=hid (HKw13.out.trans hk)
  clear ht hk
  clear c0 c1 c2 c3 c4 c5 c6 c7 c8 c9 c10 c11
  obtain⟨c0,c1,c2,c3,c4,c5,c6,c7,c8,c9,c10,c11⟩:=BH hb
  clear hb
  clear u0 u1 u2 u3 u4 u5 u6
  have HPw15:=hid (HTw14.out.put1 ([59]) (by have:=HLEN.out;(try simp only[LA]at this ⊢);omega))
  go_wp2_with fail
  go_at_call 39
  refine HPw15.out.mono ?_
  rintro e w15 ⟨rfl,ht,hk⟩
  have hb:=hk.boxedS HTw14.out HNE.out HBw14.out
  have HBw15:=hid hb;have HTw15:=hid ht;have HKw15:=hid (HKw14.out.trans hk)
  clear ht hk
  clear c0 c1 c2 c3 c4 c5 c6 c7 c8 c9 c10 c11
  obtain⟨c0,c1,c2,c3,c4,c5,c6,c7,c8,c9,c10,c11⟩:=BH hb
  clear hb
  go_wp2_with fail
  go_end0
  exact⟨rfl,by have h:=HTw15.out;rw[HE.out];simpa only[List.append_assoc]using h,HKw15.out⟩
 | ifs x thn els a d _ _ _=>
  unfold SAt at hs
  obtain⟨p1,c1,p2,c2,p3,c3,rfl,hx,hth,hel⟩:=hs
  obtain⟨g,go,xs,rfl,hx,hy⟩:=gkids_one hx
  have HX:=hid hx;have HYA:=hid hy
  obtain⟨yk,yo,yn,yS,yp,ym,yc,yl,ycl,rfl⟩:=FN hy
  have HY:=hid (hE x (by assumption) (by unfold fitN at hf;exact hf.2.1.1))
  have HTH:=hid hth
  have HBT:=hid (fun b l w=>(show TellsB w0 thn from tells_block w0 thn (by have:=FV thn;simp only[CS]at hsz;omega) (fun i h=>ih thn[i] (by have:=GA h;simp only[CS];omega) (maySL_get (by assumption) i h) (fitNL_get (by unfold fitN at hf;exact hf.2.2.1) i h))) S _ c2 HTH.out b l w)
  have HEL:=hid hel
  have HBE:=hid (fun b l w=>(show TellsB w0 els from tells_block w0 els (by have:=FV els;simp only[CS]at hsz;omega) (fun i h=>ih els[i] (by have:=GA h;simp only[CS];omega) (maySL_get (by assumption) i h) (fitNL_get (by unfold fitN at hf;exact hf.2.2.2) i h))) S _ c3 HEL.out b l w)
  change Calls Tryz.prog 84 #[.pointer (some ⟨b,0,none⟩),.agg #[.int .i64 5,.string ⟨#[]⟩,.int .i64 0,.int .i64 0,.string ⟨#[]⟩,.string ⟨#[]⟩,.string ⟨#[]⟩,.slice (some ⟨g,go,none⟩) 1 c1,.slice p2 thn.length c2,.slice p3 els.length c3,.int .i64 a,.int .i64 d]] w _
  obtain⟨LT,hLT⟩:∃L,putL (tokS (.mk 5 [] 0 0 [] [] [] [x] thn els a d))=L:=⟨_,rfl⟩
  rw[hLT]at hlen ⊢
  have HLT:=hid hLT;have HLEN0:=hid hlen
  clear hLT hlen
  obtain⟨W0,B3,hW,hB,hb3,hk3,hs3⟩:=BC w (.cells #[.int .i64 5,.string ⟨#[]⟩,.int .i64 0,.int .i64 0,.string ⟨#[]⟩,.string ⟨#[]⟩,.string ⟨#[]⟩,.slice (some ⟨g,go,none⟩) 1 c1,.slice p2 thn.length c2,.slice p3 els.length c3,.int .i64 a,.int .i64 d] TSm)
  have HTW0:=hid (ht.on hk3);have HKW0:=hid (ht.onK hk3);have HBW0:=hid hb3
  have HNE:=hid (show B3≠b by have:=ht.tel.le;omega)
  clear ht hk3 hs3
  have hix:=run_index_kw5
  by_cases hels:els=[]
  ·have hl0:¬(0:Int)<(els.length:Int):=by rw[hels];simp
   have HE:=hid (show LT=putL [[105,102]]++(putL (tokG x)++(putL (FT thn))) by rw[←HLT.out];unfold tokS;rw[if_pos (by decide)];rw[if_pos rfl,CI,show elsT els=[] by rw[hels];unfold elsT;rfl];unfold FT;simp only[BQ,List.append_nil])
   clear hels
   have HLEN:=hid (by have h:=HLEN0.out;rw[HE.out]at h;exact h)
   clear hE ih hf hx hy hth hel hsz
   obtain⟨c0,c1,c2,c3,c4,c5,c6,c7,c8,c9,c10,c11⟩:=BH hb3
   clear hb3
   go_enter Tryz.func84,Tryz.ntmps84
   go_upto_region 1 with fail
   rw[←hW,←hB]
   clear hW hB
   have HPw16:=hid (HTW0.out.put1 ([105,102]) (by have:=HLEN.out;(try simp only[LA]at this ⊢);omega))
   go_wp2_with fail
   go_at_call 39
   refine HPw16.out.mono ?_
   rintro e w16 ⟨rfl,ht,hk⟩
   have hb:=hk.boxedS HTW0.out HNE.out HBW0.out
   have HBw16:=hid hb;have HTw16:=hid ht;have HKw16:=hid (HKW0.out.trans hk)
   clear ht hk
   clear c0 c1 c2 c3 c4 c5 c6 c7 c8 c9 c10 c11
   obtain⟨c0,c1,c2,c3,c4,c5,c6,c7,c8,c9,c10,c11⟩:=BH hb
   clear hb
   clear hix
   have x0:=HTw16.out.keep.stay (show w0.cell? ⟨g,go,none⟩=some _ from HX.out 0 _ rfl)
   have x1:=HTw16.out.keep.stay (show w0.cell? ⟨g,go+1,none⟩=some _ from HX.out 1 _ rfl)
   have x2:=HTw16.out.keep.stay (show w0.cell? ⟨g,go+2,none⟩=some _ from HX.out 2 _ rfl)
   have x3:=HTw16.out.keep.stay (show w0.cell? ⟨g,go+3,none⟩=some _ from HX.out 3 _ rfl)
   have x4:=HTw16.out.keep.stay (show w0.cell? ⟨g,go+4,none⟩=some _ from HX.out 4 _ rfl)
   have x5:=HTw16.out.keep.stay (show w0.cell? ⟨g,go+5,none⟩=some _ from HX.out 5 _ rfl)
   have x6:=HTw16.out.keep.stay (show w0.cell? ⟨g,go+6,none⟩=some _ from HX.out 6 _ rfl)
   have HPw17:=hid (HY.out _ _ HYA.out _ _ _ HTw16.out (by have:=HLEN.out;(try simp only[LA]at this ⊢);omega))
   go_wp2_with fail
   go_at_call 27
   refine HPw17.out.mono ?_
   rintro e w17 ⟨rfl,ht,hk⟩
   have hb:=hk.boxedS HTw16.out HNE.out HBw16.out
   have HBw17:=hid hb;have HTw17:=hid ht;have HKw17:=hid (HKw16.out.trans hk)
   clear ht hk
   clear c0 c1 c2 c3 c4 c5 c6 c7 c8 c9 c10 c11
   obtain⟨c0,c1,c2,c3,c4,c5,c6,c7,c8,c9,c10,c11⟩:=BH hb
   clear hb
   clear x0 x1 x2 x3 x4 x5 x6
   have HPw18:=hid (HBT.out _ _ _ HTw17.out (by have:=HLEN.out;(try simp only[LA]at this ⊢);omega))
   go_wp2_with fail
   go_at_call 42
   refine HPw18.out.mono ?_
   rintro e w18 ⟨rfl,ht,hk⟩
   have hb:=hk.boxedS HTw17.out HNE.out HBw17.out
   have HBw18:=hid hb;have HTw18:=hid ht;have HKw18:=hid (HKw17.out.trans hk)
   clear ht hk
   clear c0 c1 c2 c3 c4 c5 c6 c7 c8 c9 c10 c11
   obtain⟨c0,c1,c2,c3,c4,c5,c6,c7,c8,c9,c10,c11⟩:=BH hb
   clear hb
   go_wp2_with fail
   (try simp only[Exit.inBlock,Exit.then]);refine bodyPost_ret (results_none rfl _ _ _) rfl ?_
   exact⟨rfl,by have h:=HTw18.out;rw[HE.out];simpa only[List.append_assoc]using h,HKw18.out⟩
  ·have hl0:(0:Int)<(els.length:Int):=by have:=List.length_pos_iff.2 hels;omega
   have HE:=hid (show LT=putL [[105,102]]++(putL (tokG x)++(putL (FT thn)++(putL [[101,108,115,101]]++putL (FT els)))) by rw[←HLT.out];unfold tokS;rw[if_pos (by decide)];rw[if_pos rfl,CI,elsT_ne hels];unfold FT;simp only[BQ,List.append_assoc])
   clear hels
   have HLEN:=hid (by have h:=HLEN0.out;rw[HE.out]at h;exact h)
   clear hE ih hf hx hy hth hel hsz
   obtain⟨c0,c1,c2,c3,c4,c5,c6,c7,c8,c9,c10,c11⟩:=BH hb3
   clear hb3
   go_enter Tryz.func84,Tryz.ntmps84
   go_upto_region 1 with fail
   rw[←hW,←hB]
   clear hW hB
   have HPw19:=hid (HTW0.out.put1 ([105,102]) (by have:=HLEN.out;(try simp only[LA]at this ⊢);omega))
   go_wp2_with fail
   go_at_call 39
   refine HPw19.out.mono ?_
   rintro e w19 ⟨rfl,ht,hk⟩
   have hb:=hk.boxedS HTW0.out HNE.out HBW0.out
   have HBw19:=hid hb;have HTw19:=hid ht;have HKw19:=hid (HKW0.out.trans hk)
   clear ht hk
   clear c0 c1 c2 c3 c4 c5 c6 c7 c8 c9 c10 c11
   obtain⟨c0,c1,c2,c3,c4,c5,c6,c7,c8,c9,c10,c11⟩:=BH hb
   clear hb
   clear hix
   have x0:=HTw19.out.keep.stay (show w0.cell? ⟨g,go,none⟩=some _ from HX.out 0 _ rfl)
   have x1:=HTw19.out.keep.stay (show w0.cell? ⟨g,go+1,none⟩=some _ from HX.out 1 _ rfl)
   have x2:=HTw19.out.keep.stay (show w0.cell? ⟨g,go+2,none⟩=some _ from HX.out 2 _ rfl)
   have x3:=HTw19.out.keep.stay (show w0.cell? ⟨g,go+3,none⟩=some _ from HX.out 3 _ rfl)
   have x4:=HTw19.out.keep.stay (show w0.cell? ⟨g,go+4,none⟩=some _ from HX.out 4 _ rfl)
   have x5:=HTw19.out.keep.stay (show w0.cell? ⟨g,go+5,none⟩=some _ from HX.out 5 _ rfl)
   have x6:=HTw19.out.keep.stay (show w0.cell? ⟨g,go+6,none⟩=some _ from HX.out 6 _ rfl)
   have HPw20:=hid (HY.out _ _ HYA.out _ _ _ HTw19.out (by have:=HLEN.out;(try simp only[LA]at this ⊢);omega))
   go_wp2_with fail
   go_at_call 27
   refine HPw20.out.mono ?_
   rintro e w20 ⟨rfl,ht,hk⟩
   have hb:=hk.boxedS HTw19.out HNE.out HBw19.out
   have HBw20:=hid hb;have HTw20:=hid ht;have HKw20:=hid (HKw19.out.trans hk)
   clear ht hk
   clear c0 c1 c2 c3 c4 c5 c6 c7 c8 c9 c10 c11
   obtain⟨c0,c1,c2,c3,c4,c5,c6,c7,c8,c9,c10,c11⟩:=BH hb
   clear hb
   clear x0 x1 x2 x3 x4 x5 x6
   have HPw21:=hid (HBT.out _ _ _ HTw20.out (by have:=HLEN.out;(try simp only[LA]at this ⊢);omega))
   go_wp2_with fail
   go_at_call 42
   refine HPw21.out.mono ?_
   rintro e w21 ⟨rfl,ht,hk⟩
   have hb:=hk.boxedS HTw20.out HNE.out HBw20.out
   have HBw21:=hid hb;have HTw21:=hid ht;have HKw21:=hid (HKw20.out.trans hk)
   clear ht hk
   clear c0 c1 c2 c3 c4 c5 c6 c7 c8 c9 c10 c11
   obtain⟨c0,c1,c2,c3,c4,c5,c6,c7,c8,c9,c10,c11⟩:=BH hb
   clear hb
   have HPw22:=hid (HTw21.out.put1 ([101,108,115,101]) (by have:=HLEN.out;(try simp only[LA]at this ⊢);omega))
   go_wp2_with fail
   go_at_call 39
   refine HPw22.out.mono ?_
   rintro e w22 ⟨rfl,ht,hk⟩
   have hb:=hk.boxedS HTw21.out HNE.out HBw21.out
   have HBw22:=hid hb;have HTw22:=hid ht;have HKw22:=hid (HKw21.out.trans hk)
   clear ht hk
   clear c0 c1 c2 c3 c4 c5 c6 c7 c8 c9 c10 c11
   obtain⟨c0,c1,c2,c3,c4,c5,c6,c7,c8,c9,c10,c11⟩:=BH hb
   clear hb
   have HPw23:=hid (HBE.out _ _ _ HTw22.out (by have:=HLEN.out;(try simp only[LA]at this ⊢);omega))
   go_wp2_with fail
   go_at_call 42
   refine HPw23.out.mono ?_
   rintro e w23 ⟨rfl,ht,hk⟩
   have hb:=hk.boxedS HTw22.out HNE.out HBw22.out
   have HBw23:=hid hb;have HTw23:=hid ht;have HKw23:=hid (HKw22.out.trans hk)
   clear ht hk
   clear c0 c1 c2 c3 c4 c5 c6 c7 c8 c9 c10 c11
   obtain⟨c0,c1,c2,c3,c4,c5,c6,c7,c8,c9,c10,c11⟩:=BH hb
   clear hb
   go_wp2_with fail
   (try simp only[Exit.inBlock,Exit.then]);refine bodyPost_ret (results_none rfl _ _ _) rfl ?_
   exact⟨rfl,by have h:=HTw23.out;rw[HE.out];simpa only[List.append_assoc]using h,HKw23.out⟩
 | whil x thn a d _ _=>
  unfold SAt at hs
  obtain⟨p1,c1,p2,c2,p3,c3,rfl,hx,hth,hel⟩:=hs
  obtain⟨g,go,xs,rfl,hx,hy⟩:=gkids_one hx
  have HX:=hid hx;have HYA:=hid hy
  obtain⟨yk,yo,yn,yS,yp,ym,yc,yl,ycl,rfl⟩:=FN hy
  have HY:=hid (hE x (by assumption) (by unfold fitN at hf;exact hf.2.1.1))
  have HTH:=hid hth
  have HBT:=hid (fun b l w=>(show TellsB w0 thn from tells_block w0 thn (by have:=FV thn;simp only[CS]at hsz;omega) (fun i h=>ih thn[i] (by have:=GA h;simp only[CS];omega) (maySL_get (by assumption) i h) (fitNL_get (by unfold fitN at hf;exact hf.2.2.1) i h))) S _ c2 HTH.out b l w)
  change Calls Tryz.prog 84 #[.pointer (some ⟨b,0,none⟩),.agg #[.int .i64 6,.string ⟨#[]⟩,.int .i64 0,.int .i64 0,.string ⟨#[]⟩,.string ⟨#[]⟩,.string ⟨#[]⟩,.slice (some ⟨g,go,none⟩) 1 c1,.slice p2 thn.length c2,.slice p3 0 c3,.int .i64 a,.int .i64 d]] w _
  obtain⟨LT,hLT⟩:∃L,putL (tokS (.mk 6 [] 0 0 [] [] [] [x] thn [] a d))=L:=⟨_,rfl⟩
  rw[hLT]at hlen ⊢
  have HLT:=hid hLT;have HLEN0:=hid hlen
  clear hLT hlen
  obtain⟨W0,B3,hW,hB,hb3,hk3,hs3⟩:=BC w (.cells #[.int .i64 6,.string ⟨#[]⟩,.int .i64 0,.int .i64 0,.string ⟨#[]⟩,.string ⟨#[]⟩,.string ⟨#[]⟩,.slice (some ⟨g,go,none⟩) 1 c1,.slice p2 thn.length c2,.slice p3 0 c3,.int .i64 a,.int .i64 d] TSm)
  have HTW0:=hid (ht.on hk3);have HKW0:=hid (ht.onK hk3);have HBW0:=hid hb3
  have HNE:=hid (show B3≠b by have:=ht.tel.le;omega)
  clear ht hk3 hs3
  have hix:=run_index_kw6
  have HE:=hid (show LT=putL [[119,104,105,108,101]]++(putL (tokG x)++(putL (FT thn))) by rw[←HLT.out];unfold tokS;rw[if_pos (by decide)];rw[if_neg (by decide),CI];unfold elsT FT;simp only[BQ,List.append_nil])
  have HLEN:=hid (by have h:=HLEN0.out;rw[HE.out]at h;exact h)
  clear hE ih hf hx hy hth hel hsz
  obtain⟨c0,c1,c2,c3,c4,c5,c6,c7,c8,c9,c10,c11⟩:=BH hb3
  clear hb3
  go_enter Tryz.func84,Tryz.ntmps84
  go_upto_region 1 with fail
  rw[←hW,←hB]
  clear hW hB
  have HPw24:=hid (HTW0.out.put1 ([119,104,105,108,101]) (by have:=HLEN.out;(try simp only[LA]at this ⊢);omega))
  go_wp2_with fail
  go_at_call 39
  refine HPw24.out.mono ?_
  rintro e w24 ⟨rfl,ht,hk⟩
  have hb:=hk.boxedS HTW0.out HNE.out HBW0.out
  have HBw24:=hid hb;have HTw24:=hid ht;have HKw24:=hid (HKW0.out.trans hk)
  clear ht hk
  clear c0 c1 c2 c3 c4 c5 c6 c7 c8 c9 c10 c11
  obtain⟨c0,c1,c2,c3,c4,c5,c6,c7,c8,c9,c10,c11⟩:=BH hb
  clear hb
  clear hix
  have x0:=HTw24.out.keep.stay (show w0.cell? ⟨g,go,none⟩=some _ from HX.out 0 _ rfl)
  have x1:=HTw24.out.keep.stay (show w0.cell? ⟨g,go+1,none⟩=some _ from HX.out 1 _ rfl)
  have x2:=HTw24.out.keep.stay (show w0.cell? ⟨g,go+2,none⟩=some _ from HX.out 2 _ rfl)
  have x3:=HTw24.out.keep.stay (show w0.cell? ⟨g,go+3,none⟩=some _ from HX.out 3 _ rfl)
  have x4:=HTw24.out.keep.stay (show w0.cell? ⟨g,go+4,none⟩=some _ from HX.out 4 _ rfl)
  have x5:=HTw24.out.keep.stay (show w0.cell? ⟨g,go+5,none⟩=some _ from HX.out 5 _ rfl)
  have x6:=HTw24.out.keep.stay (show w0.cell? ⟨g,go+6,none⟩=some _ from HX.out 6 _ rfl)
  have HPw25:=hid (HY.out _ _ HYA.out _ _ _ HTw24.out (by have:=HLEN.out;(try simp only[LA]at this ⊢);omega))
  go_wp2_with fail
  go_at_call 27
  refine HPw25.out.mono ?_
  rintro e w25 ⟨rfl,ht,hk⟩
  have hb:=hk.boxedS HTw24.out HNE.out HBw24.out
  have HBw25:=hid hb;have HTw25:=hid ht;have HKw25:=hid (HKw24.out.trans hk)
  clear ht hk
  clear c0 c1 c2 c3 c4 c5 c6 c7 c8 c9 c10 c11
  obtain⟨c0,c1,c2,c3,c4,c5,c6,c7,c8,c9,c10,c11⟩:=BH hb
  clear hb
  clear x0 x1 x2 x3 x4 x5 x6
  have HPw26:=hid (HBT.out _ _ _ HTw25.out (by have:=HLEN.out;(try simp only[LA]at this ⊢);omega))
  go_wp2_with fail
  go_at_call 42
  refine HPw26.out.mono ?_
  rintro e w26 ⟨rfl,ht,hk⟩
  have hb:=hk.boxedS HTw25.out HNE.out HBw25.out
  have HBw26:=hid hb;have HTw26:=hid ht;have HKw26:=hid (HKw25.out.trans hk)
  clear ht hk
  clear c0 c1 c2 c3 c4 c5 c6 c7 c8 c9 c10 c11
  obtain⟨c0,c1,c2,c3,c4,c5,c6,c7,c8,c9,c10,c11⟩:=BH hb
  clear hb
  go_wp2_with fail
  (try simp only[Exit.inBlock,Exit.then]);refine bodyPost_ret (results_none rfl _ _ _) rfl ?_
  exact⟨rfl,by have h:=HTw26.out;rw[HE.out];simpa only[List.append_assoc]using h,HKw26.out⟩
 | out x a d _=>
  unfold SAt at hs
  obtain⟨p1,c1,p2,c2,p3,c3,rfl,hx,hth,hel⟩:=hs
  obtain⟨g,go,xs,rfl,hx,hy⟩:=gkids_one hx
  have HX:=hid hx;have HYA:=hid hy
  obtain⟨yk,yo,yn,yS,yp,ym,yc,yl,ycl,rfl⟩:=FN hy
  have HY:=hid (hE x (by assumption) (by unfold fitN at hf;exact hf.2.1.1))
  change Calls Tryz.prog 84 #[.pointer (some ⟨b,0,none⟩),.agg #[.int .i64 7,.string ⟨#[]⟩,.int .i64 0,.int .i64 0,.string ⟨#[]⟩,.string ⟨#[]⟩,.string ⟨#[]⟩,.slice (some ⟨g,go,none⟩) 1 c1,.slice p2 0 c2,.slice p3 0 c3,.int .i64 a,.int .i64 d]] w _
  obtain⟨LT,hLT⟩:∃L,putL (tokS (.mk 7 [] 0 0 [] [] [] [x] [] [] a d))=L:=⟨_,rfl⟩
  rw[hLT]at hlen ⊢
  have HLT:=hid hLT;have HLEN0:=hid hlen
  clear hLT hlen
  obtain⟨W0,B3,hW,hB,hb3,hk3,hs3⟩:=BC w (.cells #[.int .i64 7,.string ⟨#[]⟩,.int .i64 0,.int .i64 0,.string ⟨#[]⟩,.string ⟨#[]⟩,.string ⟨#[]⟩,.slice (some ⟨g,go,none⟩) 1 c1,.slice p2 0 c2,.slice p3 0 c3,.int .i64 a,.int .i64 d] TSm)
  have HTW0:=hid (ht.on hk3);have HKW0:=hid (ht.onK hk3);have HBW0:=hid hb3
  have HNE:=hid (show B3≠b by have:=ht.tel.le;omega)
  clear ht hk3 hs3
  have HE:=hid (show LT=putL [[111,117,116]]++(putL (tokG x)++putL [[59]]) by rw[←HLT.out];unfold tokS;rw[if_neg (by decide),if_neg (by decide),if_neg (by decide),if_neg (by decide),if_neg (by decide),if_pos (by decide)];rw[CI,BQ,BQ])
  have HLEN:=hid (by have h:=HLEN0.out;rw[HE.out]at h;exact h)
  clear hE ih hf hx hy hth hel hsz
  obtain⟨c0,c1,c2,c3,c4,c5,c6,c7,c8,c9,c10,c11⟩:=BH hb3
  clear hb3
  go_enter Tryz.func84,Tryz.ntmps84
  go_upto_region 1 with fail
  rw[←hW,←hB]
  clear hW hB
  have HPw27:=hid (HTW0.out.put1 ([111,117,116]) (by have:=HLEN.out;(try simp only[LA]at this ⊢);omega))
  go_wp2_with fail
  go_at_call 39
  refine HPw27.out.mono ?_
  rintro e w27 ⟨rfl,ht,hk⟩
  have hb:=hk.boxedS HTW0.out HNE.out HBW0.out
  have HBw27:=hid hb;have HTw27:=hid ht;have HKw27:=hid (HKW0.out.trans hk)
  clear ht hk
  clear c0 c1 c2 c3 c4 c5 c6 c7 c8 c9 c10 c11
  obtain⟨c0,c1,c2,c3,c4,c5,c6,c7,c8,c9,c10,c11⟩:=BH hb
  clear hb
  have x0:=HTw27.out.keep.stay (show w0.cell? ⟨g,go,none⟩=some _ from HX.out 0 _ rfl)
  have x1:=HTw27.out.keep.stay (show w0.cell? ⟨g,go+1,none⟩=some _ from HX.out 1 _ rfl)
  have x2:=HTw27.out.keep.stay (show w0.cell? ⟨g,go+2,none⟩=some _ from HX.out 2 _ rfl)
  have x3:=HTw27.out.keep.stay (show w0.cell? ⟨g,go+3,none⟩=some _ from HX.out 3 _ rfl)
  have x4:=HTw27.out.keep.stay (show w0.cell? ⟨g,go+4,none⟩=some _ from HX.out 4 _ rfl)
  have x5:=HTw27.out.keep.stay (show w0.cell? ⟨g,go+5,none⟩=some _ from HX.out 5 _ rfl)
  have x6:=HTw27.out.keep.stay (show w0.cell? ⟨g,go+6,none⟩=some _ from HX.out 6 _ rfl)
  have HPw28:=hid (HY.out _ _ HYA.out _ _ _ HTw27.out (by have:=HLEN.out;(try simp only[LA]at this ⊢);omega))
  go_wp2_with fail
  go_at_call 27
  refine HPw28.out.mono ?_
  rintro e w28 ⟨rfl,ht,hk⟩
  have hb:=hk.boxedS HTw27.out HNE.out HBw27.out
  have HBw28:=hid hb;have HTw28:=hid ht;have HKw28:=hid (HKw27.out.trans hk)
  clear ht hk
  clear c0 c1 c2 c3 c4 c5 c6 c7 c8 c9 c10 c11
  obtain⟨c0,c1,c2,c3,c4,c5,c6,c7,c8,c9,c10,c11⟩:=BH hb
  clear hb
  clear x0 x1 x2 x3 x4 x5 x6
  have HPw29:=hid (HTw28.out.put1 ([59]) (by have:=HLEN.out;(try simp only[LA]at this ⊢);omega))
  go_wp2_with fail
  go_at_call 39
  refine HPw29.out.mono ?_
  rintro e w29 ⟨rfl,ht,hk⟩
  have hb:=hk.boxedS HTw28.out HNE.out HBw28.out
  have HBw29:=hid hb;have HTw29:=hid ht;have HKw29:=hid (HKw28.out.trans hk)
  clear ht hk
  clear c0 c1 c2 c3 c4 c5 c6 c7 c8 c9 c10 c11
  obtain⟨c0,c1,c2,c3,c4,c5,c6,c7,c8,c9,c10,c11⟩:=BH hb
  clear hb
  go_wp2_with fail
  go_end0
  exact⟨rfl,by have h:=HTw29.out;rw[HE.out];simpa only[List.append_assoc]using h,HKw29.out⟩
 | halt x a d _=>
  unfold SAt at hs
  obtain⟨p1,c1,p2,c2,p3,c3,rfl,hx,hth,hel⟩:=hs
  obtain⟨g,go,xs,rfl,hx,hy⟩:=gkids_one hx
  have HX:=hid hx;have HYA:=hid hy
  obtain⟨yk,yo,yn,yS,yp,ym,yc,yl,ycl,rfl⟩:=FN hy
  have HY:=hid (hE x (by assumption) (by unfold fitN at hf;exact hf.2.1.1))
  change Calls Tryz.prog 84 #[.pointer (some ⟨b,0,none⟩),.agg #[.int .i64 8,.string ⟨#[]⟩,.int .i64 0,.int .i64 0,.string ⟨#[]⟩,.string ⟨#[]⟩,.string ⟨#[]⟩,.slice (some ⟨g,go,none⟩) 1 c1,.slice p2 0 c2,.slice p3 0 c3,.int .i64 a,.int .i64 d]] w _
  obtain⟨LT,hLT⟩:∃L,putL (tokS (.mk 8 [] 0 0 [] [] [] [x] [] [] a d))=L:=⟨_,rfl⟩
  rw[hLT]at hlen ⊢
  have HLT:=hid hLT;have HLEN0:=hid hlen
  clear hLT hlen
  obtain⟨W0,B3,hW,hB,hb3,hk3,hs3⟩:=BC w (.cells #[.int .i64 8,.string ⟨#[]⟩,.int .i64 0,.int .i64 0,.string ⟨#[]⟩,.string ⟨#[]⟩,.string ⟨#[]⟩,.slice (some ⟨g,go,none⟩) 1 c1,.slice p2 0 c2,.slice p3 0 c3,.int .i64 a,.int .i64 d] TSm)
  have HTW0:=hid (ht.on hk3);have HKW0:=hid (ht.onK hk3);have HBW0:=hid hb3
  have HNE:=hid (show B3≠b by have:=ht.tel.le;omega)
  clear ht hk3 hs3
  have HE:=hid (show LT=putL [[104,97,108,116]]++(putL (tokG x)++putL [[59]]) by rw[←HLT.out];unfold tokS;rw[if_neg (by decide),if_neg (by decide),if_neg (by decide),if_neg (by decide),if_neg (by decide),if_neg (by decide),if_pos (by decide)];rw[CI,BQ,BQ])
  have HLEN:=hid (by have h:=HLEN0.out;rw[HE.out]at h;exact h)
  clear hE ih hf hx hy hth hel hsz
  obtain⟨c0,c1,c2,c3,c4,c5,c6,c7,c8,c9,c10,c11⟩:=BH hb3
  clear hb3
  go_enter Tryz.func84,Tryz.ntmps84
  go_upto_region 1 with fail
  rw[←hW,←hB]
  clear hW hB
  have HPw30:=hid (HTW0.out.put1 ([104,97,108,116]) (by have:=HLEN.out;(try simp only[LA]at this ⊢);omega))
  go_wp2_with fail
  go_at_call 39
  refine HPw30.out.mono ?_
  rintro e w30 ⟨rfl,ht,hk⟩
  have hb:=hk.boxedS HTW0.out HNE.out HBW0.out
  have HBw30:=hid hb;have HTw30:=hid ht;have HKw30:=hid (HKW0.out.trans hk)
  clear ht hk
  clear c0 c1 c2 c3 c4 c5 c6 c7 c8 c9 c10 c11
  obtain⟨c0,c1,c2,c3,c4,c5,c6,c7,c8,c9,c10,c11⟩:=BH hb
  clear hb
  have x0:=HTw30.out.keep.stay (show w0.cell? ⟨g,go,none⟩=some _ from HX.out 0 _ rfl)
  have x1:=HTw30.out.keep.stay (show w0.cell? ⟨g,go+1,none⟩=some _ from HX.out 1 _ rfl)
  have x2:=HTw30.out.keep.stay (show w0.cell? ⟨g,go+2,none⟩=some _ from HX.out 2 _ rfl)
  have x3:=HTw30.out.keep.stay (show w0.cell? ⟨g,go+3,none⟩=some _ from HX.out 3 _ rfl)
  have x4:=HTw30.out.keep.stay (show w0.cell? ⟨g,go+4,none⟩=some _ from HX.out 4 _ rfl)
  have x5:=HTw30.out.keep.stay (show w0.cell? ⟨g,go+5,none⟩=some _ from HX.out 5 _ rfl)
  have x6:=HTw30.out.keep.stay (show w0.cell? ⟨g,go+6,none⟩=some _ from HX.out 6 _ rfl)
  have HPw31:=hid (HY.out _ _ HYA.out _ _ _ HTw30.out (by have:=HLEN.out;(try simp only[LA]at this ⊢);omega))
  go_wp2_with fail
  go_at_call 27
  refine HPw31.out.mono ?_
  rintro e w31 ⟨rfl,ht,hk⟩
  have hb:=hk.boxedS HTw30.out HNE.out HBw30.out
  have HBw31:=hid hb;have HTw31:=hid ht;have HKw31:=hid (HKw30.out.trans hk)
  clear ht hk
  clear c0 c1 c2 c3 c4 c5 c6 c7 c8 c9 c10 c11
  obtain⟨c0,c1,c2,c3,c4,c5,c6,c7,c8,c9,c10,c11⟩:=BH hb
  clear hb
  clear x0 x1 x2 x3 x4 x5 x6
  have HPw32:=hid (HTw31.out.put1 ([59]) (by have:=HLEN.out;(try simp only[LA]at this ⊢);omega))
  go_wp2_with fail
  go_at_call 39
  refine HPw32.out.mono ?_
  rintro e w32 ⟨rfl,ht,hk⟩
  have hb:=hk.boxedS HTw31.out HNE.out HBw31.out
  have HBw32:=hid hb;have HTw32:=hid ht;have HKw32:=hid (HKw31.out.trans hk)
  clear ht hk
  clear c0 c1 c2 c3 c4 c5 c6 c7 c8 c9 c10 c11
  obtain⟨c0,c1,c2,c3,c4,c5,c6,c7,c8,c9,c10,c11⟩:=BH hb
  clear hb
  go_wp2_with fail
  go_end0
  exact⟨rfl,by have h:=HTw32.out;rw[HE.out];simpa only[List.append_assoc]using h,HKw32.out⟩
 | pop op val into cont a d _ _ _ _=>
  obtain⟨op,rfl⟩:∃q:Nat,op=q:=⟨op.toNat,by omega⟩
  unfold SAt at hs
  obtain⟨p1,c1,p2,c2,p3,c3,rfl,hx,hth,hel⟩:=hs
  have hop:op<8:=by omega
  have h24:op=2∨op=4:=by omega
  change Calls Tryz.prog 84 #[.pointer (some ⟨b,0,none⟩),.agg #[.int .i64 9,.string ⟨#[]⟩,.int .i64 0,.int .i64 op,.string ⟨val.toArray⟩,.string ⟨into.toArray⟩,.string ⟨cont.toArray⟩,.slice p1 0 c1,.slice p2 0 c2,.slice p3 0 c3,.int .i64 a,.int .i64 d]] w _
  obtain⟨LT,hLT⟩:∃L,putL (tokS (.mk 9 [] 0 op val into cont [] [] [] a d))=L:=⟨_,rfl⟩
  rw[hLT]at hlen ⊢
  have HLT:=hid hLT;have HLEN0:=hid hlen
  clear hLT hlen
  obtain⟨W0,B3,hW,hB,hb3,hk3,hs3⟩:=BC w (.cells #[.int .i64 9,.string ⟨#[]⟩,.int .i64 0,.int .i64 op,.string ⟨val.toArray⟩,.string ⟨into.toArray⟩,.string ⟨cont.toArray⟩,.slice p1 0 c1,.slice p2 0 c2,.slice p3 0 c3,.int .i64 a,.int .i64 d] TSm)
  have HTW0:=hid (ht.on hk3);have HKW0:=hid (ht.onK hk3);have HBW0:=hid hb3
  have HNE:=hid (show B3≠b by have:=ht.tel.le;omega)
  clear ht hk3 hs3
  have HE:=hid (show LT=putL (callT op val into cont [])++putL [[59]] by rw[←HLT.out];unfold tokS;rw[if_neg (by decide),if_neg (by decide),if_neg (by decide),if_neg (by decide),if_neg (by decide),if_neg (by decide),if_neg (by decide)];rw[BQ])
  have HLEN:=hid (by have h:=HLEN0.out;rw[HE.out]at h;exact h)
  have HC:=hid (fun W L (h:TS w0 b L W) (hl:L.length+(putL (callT op val into cont [])).length≤100000000)=>tells_pop w0 op hop val into cont a d h24 p1 p2 p3 c1 c2 c3 b L W h hl)
  rename_i hopi _ _ _
  clear hE ih hf hx hth hel hsz hop h24 hopi
  obtain⟨c0,c1,c2,c3,c4,c5,c6,c7,c8,c9,c10,c11⟩:=BH hb3
  clear hb3
  go_enter Tryz.func84,Tryz.ntmps84
  go_upto_region 1 with fail
  rw[←hW,←hB]
  clear hW hB
  have HPw33:=hid (HC.out _ _ HTW0.out (by have:=HLEN.out;(try simp only[LA]at this ⊢);omega))
  go_wp2_with fail
  go_at_call 106
  refine HPw33.out.mono ?_
  rintro e w33 ⟨rfl,ht,hk⟩
  have hb:=hk.boxedS HTW0.out HNE.out HBW0.out
  have HBw33:=hid hb;have HTw33:=hid ht;have HKw33:=hid (HKW0.out.trans hk)
  clear ht hk
  clear c0 c1 c2 c3 c4 c5 c6 c7 c8 c9 c10 c11
  obtain⟨c0,c1,c2,c3,c4,c5,c6,c7,c8,c9,c10,c11⟩:=BH hb
  clear hb
  have HPw34:=hid (HTw33.out.put1 ([59]) (by have:=HLEN.out;(try simp only[LA]at this ⊢);omega))
  go_wp2_with fail
  go_at_call 39
  refine HPw34.out.mono ?_
  rintro e w34 ⟨rfl,ht,hk⟩
  have hb:=hk.boxedS HTw33.out HNE.out HBw33.out
  have HBw34:=hid hb;have HTw34:=hid ht;have HKw34:=hid (HKw33.out.trans hk)
  clear ht hk
  clear c0 c1 c2 c3 c4 c5 c6 c7 c8 c9 c10 c11
  obtain⟨c0,c1,c2,c3,c4,c5,c6,c7,c8,c9,c10,c11⟩:=BH hb
  clear hb
  go_wp2_with fail
  go_end0
  exact⟨rfl,by have h:=HTw34.out;rw[HE.out];simpa only[List.append_assoc]using h,HKw34.out⟩
 | call op into cont x a d _ _ _ _ _=>
  obtain⟨op,rfl⟩:∃q:Nat,op=q:=⟨op.toNat,by omega⟩
  unfold SAt at hs
  obtain⟨p1,c1,p2,c2,p3,c3,rfl,hx,hth,hel⟩:=hs
  obtain⟨g,go,xs,rfl,hx,hy⟩:=gkids_one hx
  have HX:=hid hx;have HYA:=hid hy
  obtain⟨yk,yo,yn,yS,yp,ym,yc,yl,ycl,rfl⟩:=FN hy
  have HY:=hid (hE x (by assumption) (by unfold fitN at hf;exact hf.2.1.1))
  have hop:op<8:=by omega
  have h24:¬(op=2∨op=4):=by omega
  change Calls Tryz.prog 84 #[.pointer (some ⟨b,0,none⟩),.agg #[.int .i64 9,.string ⟨#[]⟩,.int .i64 0,.int .i64 op,.string ⟨#[]⟩,.string ⟨into.toArray⟩,.string ⟨cont.toArray⟩,.slice (some ⟨g,go,none⟩) 1 c1,.slice p2 0 c2,.slice p3 0 c3,.int .i64 a,.int .i64 d]] w _
  obtain⟨LT,hLT⟩:∃L,putL (tokS (.mk 9 [] 0 op [] into cont [x] [] [] a d))=L:=⟨_,rfl⟩
  rw[hLT]at hlen ⊢
  have HLT:=hid hLT;have HLEN0:=hid hlen
  clear hLT hlen
  obtain⟨W0,B3,hW,hB,hb3,hk3,hs3⟩:=BC w (.cells #[.int .i64 9,.string ⟨#[]⟩,.int .i64 0,.int .i64 op,.string ⟨#[]⟩,.string ⟨into.toArray⟩,.string ⟨cont.toArray⟩,.slice (some ⟨g,go,none⟩) 1 c1,.slice p2 0 c2,.slice p3 0 c3,.int .i64 a,.int .i64 d] TSm)
  have HTW0:=hid (ht.on hk3);have HKW0:=hid (ht.onK hk3);have HBW0:=hid hb3
  have HNE:=hid (show B3≠b by have:=ht.tel.le;omega)
  clear ht hk3 hs3
  have HE:=hid (show LT=putL (callT op [] into cont [x])++putL [[59]] by rw[←HLT.out];unfold tokS;rw[if_neg (by decide),if_neg (by decide),if_neg (by decide),if_neg (by decide),if_neg (by decide),if_neg (by decide),if_neg (by decide)];rw[BQ])
  have HLEN:=hid (by have h:=HLEN0.out;rw[HE.out]at h;exact h)
  have HC:=hid (fun W L (h:TS w0 b L W) (hl:L.length+(putL (callT op [] into cont [x])).length≤100000000)=>tells_call w0 op hop into cont x a d h24 g go S _ HY.out HX.out HYA.out p2 p3 c1 c2 c3 b L W h hl)
  rename_i hop1 hop2 _ _ _
  clear hE ih hf hx hy hth hel hsz hop h24 hop1 hop2
  obtain⟨c0,c1,c2,c3,c4,c5,c6,c7,c8,c9,c10,c11⟩:=BH hb3
  clear hb3
  go_enter Tryz.func84,Tryz.ntmps84
  go_upto_region 1 with fail
  rw[←hW,←hB]
  clear hW hB
  have HPw35:=hid (HC.out _ _ HTW0.out (by have:=HLEN.out;(try simp only[LA]at this ⊢);omega))
  go_wp2_with fail
  go_at_call 106
  refine HPw35.out.mono ?_
  rintro e w35 ⟨rfl,ht,hk⟩
  have hb:=hk.boxedS HTW0.out HNE.out HBW0.out
  have HBw35:=hid hb;have HTw35:=hid ht;have HKw35:=hid (HKW0.out.trans hk)
  clear ht hk
  clear c0 c1 c2 c3 c4 c5 c6 c7 c8 c9 c10 c11
  obtain⟨c0,c1,c2,c3,c4,c5,c6,c7,c8,c9,c10,c11⟩:=BH hb
  clear hb
  have HPw36:=hid (HTw35.out.put1 ([59]) (by have:=HLEN.out;(try simp only[LA]at this ⊢);omega))
  go_wp2_with fail
  go_at_call 39
  refine HPw36.out.mono ?_
  rintro e w36 ⟨rfl,ht,hk⟩
  have hb:=hk.boxedS HTw35.out HNE.out HBw35.out
  have HBw36:=hid hb;have HTw36:=hid ht;have HKw36:=hid (HKw35.out.trans hk)
  clear ht hk
  clear c0 c1 c2 c3 c4 c5 c6 c7 c8 c9 c10 c11
  obtain⟨c0,c1,c2,c3,c4,c5,c6,c7,c8,c9,c10,c11⟩:=BH hb
  clear hb
  go_wp2_with fail
  go_end0
  exact⟨rfl,by have h:=HTw36.out;rw[HE.out];simpa only[List.append_assoc]using h,HKw36.out⟩
theorem tellsS_any (w0:World)(hP:TabP w0):∀(f:Nat) (x:Gs),CS x≤f→f≤1099511627776→mayS x=true→fitN x→TellsS w0 x
 |0,x,hx,_,_,_=>by cases x;unfold CS at hx;omega
 |f+1,x,hx,hfu,hm,hf=>tellsS_step w0 hP x hm hf (by omega) (fun y hy h1 h2=>tellsS_any w0 hP f y (by omega) (by omega) h1 h2)
theorem tellsB_any (w0:World)(hP:TabP w0)(l:List Gs)(hl:BN l≤1099511627776)(hm:BX l=true)(hf:DT l):TellsB w0 l:=
 tells_block w0 l (by have:=FV l;omega) fun i h=>tellsS_any w0 hP 1099511627776 l[i] (by have:=GA h;omega) (Nat.le_refl _) (maySL_get hm i h) (fitNL_get hf i h)
end Go.Proofs.YtomlffobbkcmdaaGreatDoor
