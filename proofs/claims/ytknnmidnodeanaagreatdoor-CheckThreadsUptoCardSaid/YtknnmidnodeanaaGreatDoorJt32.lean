/- Joined texts of this work: Sb1, Sb2, PjP. -/
import Derived.Test.YtknnmidnodeanaaGreatDoorJt11
import Derived.Test.YtknnmidnodeanaaGreatDoorJt31
/-
  A statement that is being read: where it lies, and the reader.
-/
namespace Go.Proofs.YtknnmidnodeanaaGreatDoor
open Go Go.RowKit Own
open Go.Lib (hid)
abbrev zero12:Array Value:=#[.int .i64 0,.string ⟨#[]⟩,.int .i64 0,.int .i64 0,.string ⟨#[]⟩,.string ⟨#[]⟩,.string ⟨#[]⟩,.slice none 0 0,.slice none 0 0,.slice none 0 0,.int .i64 0,.int .i64 0]
/-- a statement in block B, its parts, and the reader; block B2 (if Z) is zero -/
structure SmAt (Z:Prop) (M:Nat→Prop) (w wr:World) (R el ec B B2:Nat) (its:List Item) (k sz op l cl:Int) (nm val into cont:List UInt8) (xs:List Ex) (thn els:List St):Prop where
 rd:ReaderAt wr R its el ec
 ex:∃ p1 c1 p2 c2 p3 c3,wr.heap[B]?=some (.cells #[.int .i64 k,.string ⟨nm.toArray⟩,.int .i64 sz,.int .i64 op,.string ⟨val.toArray⟩,.string ⟨into.toArray⟩,.string ⟨cont.toArray⟩,.slice p1 xs.length c1,.slice p2 thn.length c2,.slice p3 els.length c3,.int .i64 l,.int .i64 cl] TSm (0,0))∧
  KidsAt wr (fun b=>w.heap.size≤b∧b≠B∧b≠B2) p1 0 xs∧StsAt wr (fun b=>w.heap.size≤b∧b≠B∧b≠B2) p2 0 thn∧StsAt wr (fun b=>w.heap.size≤b∧b≠B∧b≠B2) p3 0 els
 b2:Z→wr.heap[B2]?=some (.cells zero12 TSm (0,0))∧B2≠R∧B2≠B
 keep:KeepBut M w wr
 lt:R<w.heap.size∧R<B∧B<wr.heap.size∧B2<wr.heap.size
 hm:∀ b,b=R∨b=B→M b∨w.heap.size≤b
section
variable {Z : Prop} {M : Nat → Prop} {w wr w' : World} {R el ec B B2 : Nat} {its r : List Item} {k sz op l cl k' sz' op' : Int} {nm val into cont nm' val' into' cont' : List UInt8} {xs xs' : List Ex} {thn els thn' els' : List St}
/-- the reader has gone on -/
theorem SmAt.call (h:SmAt Z M w wr R el ec B B2 its k sz op l cl nm val into cont xs thn els) (hr:ReaderAt w' R r el ec) (hk:KeepBut (fun b=>b=R) wr w'):SmAt Z M w w' R el ec B B2 r k sz op l cl nm val into cont xs thn els:=by
 obtain ⟨p1,c1,p2,c2,p3,c3,h1,h2,h3,h4⟩:=h.ex
 have hlt:=h.lt
 have hs:=hk.size
 have hno:∀ b,(w.heap.size≤b∧b≠B∧b≠B2)→¬b=R:=fun b hb e=>by have:=hb.1;omega
 refine ⟨hr,⟨p1,c1,p2,c2,p3,c3,hk.blkE h1 fun e=>by have e:B=R:=e;omega,h2.keep hk hno,h3.keep hk hno,h4.keep hk hno⟩,fun z=>?_,h.keep.newM hk fun b e=>h.hm b (.inl e),⟨hlt.1,hlt.2.1,by omega,by omega⟩,h.hm⟩
 exact ⟨hk.blkE (h.b2 z).1 (h.b2 z).2.1,(h.b2 z).2⟩
theorem SmAt.stay (h:SmAt Z M w wr R el ec B B2 its k sz op l cl nm val into cont xs thn els) (hk:KeepBut (fun _=>False) wr w'):SmAt Z M w w' R el ec B B2 its k sz op l cl nm val into cont xs thn els:=
 h.call (h.rd.keep hk fun _ _ e=>e) (hk.mono fun _ e=>e.elim)
/-- the statement's cells have been written -/
theorem SmAt.put (h:SmAt Z M w wr R el ec B B2 its k sz op l cl nm val into cont xs thn els) (hk:KeepBut (fun b=>b=B) wr w') {p1 p2 p3:Option Addr} {c1 c2 c3:Nat}
  (hb:w'.heap[B]?=some (.cells #[.int .i64 k',.string ⟨nm'.toArray⟩,.int .i64 sz',.int .i64 op',.string ⟨val'.toArray⟩,.string ⟨into'.toArray⟩,.string ⟨cont'.toArray⟩,.slice p1 xs'.length c1,.slice p2 thn'.length c2,.slice p3 els'.length c3,.int .i64 l,.int .i64 cl] TSm (0,0)))
  (hx:KidsAt wr (fun b=>w.heap.size≤b∧b≠B∧b≠B2) p1 0 xs') (ht:StsAt wr (fun b=>w.heap.size≤b∧b≠B∧b≠B2) p2 0 thn') (he:StsAt wr (fun b=>w.heap.size≤b∧b≠B∧b≠B2) p3 0 els'):
  SmAt Z M w w' R el ec B B2 its k' sz' op' l cl nm' val' into' cont' xs' thn' els':=by
 have hlt:=h.lt
 have hs:=hk.size
 have hno:∀ b,(w.heap.size≤b∧b≠B∧b≠B2)→¬b=B:=fun b hb e=>hb.2.1 e
 have hrd:=h.rd
 refine ⟨?_,⟨p1,c1,p2,c2,p3,c3,hb,hx.keep hk hno,ht.keep hk hno,he.keep hk hno⟩,fun z=>?_,h.keep.newM hk fun b e=>h.hm b (.inr e),⟨hlt.1,hlt.2.1,by omega,by omega⟩,h.hm⟩
 ·exact hrd.keep hk fun b hb e=>by have e:b=B:=e;omega
 ·exact ⟨hk.blkE (h.b2 z).1 fun e=>(h.b2 z).2.2 e,(h.b2 z).2⟩
/-- an expression has been read, and lies in a block of its own -/
theorem SmAt.expr {w1 w2:World} {G:Nat} {vs:List Value} {x:Ex} (h:SmAt Z M w wr R el ec B B2 its k sz op l cl nm val into cont xs thn els) (hex:ExAt w1 (fun b=>wr.heap.size≤b) vs x) (hr:ReaderAt w1 R r el ec) (hk:KeepBut (fun b=>b=R) wr w1) (hg:KeepBut (fun _=>False) w1 w2) (hb:w2.heap[G]?=some (.cells vs.toArray TEx (0,0))) (hG:w1.heap.size≤G):
  SmAt Z M w w2 R el ec B B2 r k sz op l cl nm val into cont xs thn els∧KidsAt w2 (fun b=>w.heap.size≤b∧b≠B∧b≠B2) (some ⟨G,0,none⟩) 0 [x]:=by
 have hlt:=h.lt
 have hs:=hk.size
 have hs0:=h.keep.size
 refine ⟨(h.call hr hk).stay hg,kids_one hb ⟨by omega,by omega,by omega⟩ ((hex.keep hg fun _ _ e=>e).mono fun b hb=>?_)⟩
 have hb:wr.heap.size≤b:=hb
 exact ⟨by omega,by omega,by omega⟩
theorem SmAt.exA {w1 w2:World} {vs:List Value} {x:Ex} (h:SmAt Z M w wr R el ec B B2 its k sz op l cl nm val into cont xs thn els) (hex:ExAt w1 (fun b=>wr.heap.size≤b) vs x) (hr:ReaderAt w1 R r el ec) (hk:KeepBut (fun b=>b=R) wr w1) (hg:KeepBut (fun _=>False) w1 w2):
  SmAt Z M w w2 R el ec B B2 r k sz op l cl nm val into cont xs thn els∧ExAt w2 (fun b=>w.heap.size≤b∧b≠B∧b≠B2) vs x:=by
 have hlt:=h.lt
 have hs0:=h.keep.size
 refine ⟨(h.call hr hk).stay hg,(hex.keep hg fun _ _ e=>e).mono fun b hb=>?_⟩
 have hb:wr.heap.size≤b:=hb
 exact ⟨by omega,by omega,by omega⟩
/-- a block of statements has been read -/
theorem SmAt.block {w1:World} {p:Option Addr} {q:List St} (h:SmAt Z M w wr R el ec B B2 its k sz op l cl nm val into cont xs thn els) (hst:StsAt w1 (fun b=>wr.heap.size≤b) p 0 q) (hr:ReaderAt w1 R r el ec) (hk:KeepBut (fun b=>b=R) wr w1):
  SmAt Z M w w1 R el ec B B2 r k sz op l cl nm val into cont xs thn els∧StsAt w1 (fun b=>w.heap.size≤b∧b≠B∧b≠B2) p 0 q:=by
 have hlt:=h.lt
 have hs0:=h.keep.size
 refine ⟨h.call hr hk,hst.mono fun b hb=>?_⟩
 have hb:wr.heap.size≤b:=hb
 exact ⟨by omega,by omega,by omega⟩
end
/-- what has been read is a statement -/
theorem SmAt.st {Z:Prop} {M:Nat→Prop} {w wr:World} {R el ec B B2:Nat} {its:List Item} {k sz op l cl:Nat} {nm val into cont:List UInt8} {xs:List Ex} {thn els:List St} (h:SmAt Z M w wr R el ec B B2 its k sz op l cl nm val into cont xs thn els):
  ∃ vs:List Value,wr.heap[B]?=some (.cells vs.toArray TSm (0,0))∧StAt wr (fun b=>w.heap.size≤b∧b≠B∧b≠B2) vs (.mk k nm sz op val into cont xs thn els l cl):=by
 obtain ⟨p1,c1,p2,c2,p3,c3,h1,h2,h3,h4⟩:=h.ex
 refine ⟨_,h1,?_⟩
 unfold StAt
 exact ⟨p1,c1,p2,c2,p3,c3,rfl,h2,h3,h4⟩
/-
  Package parse: plain, the forms that plain_two leaves open.
-/
theorem field_kind (a b c d e:Value) (w:World):(Instr.field TTk (.agg #[a,b,c,d,e]) 0).run Tryz.prog w=.ok a w:=by kernel_rfl
/-- a statement's block that is zero but for its place -/
theorem sm_start {w:World} {R el ec Bs l cl:Nat} {its:List Item} (hr:ReaderAt w R its el ec) (hB:w.heap[Bs]?=some (.cells (stC 0 0 0 [] [] [] [] (.slice none 0 0) l cl) TSm (0,0))) (hRB:R<Bs):
  SmAt False (fun b=>b=R∨b=Bs) w w R el ec Bs R its 0 0 0 l cl [] [] [] [] [] [] []:=by
 unfold stC at hB
 exact ⟨hr,⟨none,0,none,0,none,0,hB,by unfold KidsAt;trivial,by unfold StsAt;trivial,by unfold StsAt;trivial⟩,fun z=>z.elim,KeepBut.refl _ _,⟨hr.lt,hRB,(Array.getElem?_eq_some_iff.1 hB).1,hr.lt⟩,fun b e=>.inl e⟩
/-
  Package parse: plain, whatever it comes to.
-/
/-- what plain comes to -/
def OutP (w:World) (R el ec Bs:Nat) (o:Oc St) (e:Ending) (w':World):Prop:=
 match o with
 | .ok s r=>e=.returned (.tuple #[])∧ReaderAt w' R r el ec∧KeepBut (fun b=>b=R∨b=Bs) w w'∧∃ vs,w'.heap[Bs]?=some (.cells vs.toArray TSm (0,0))∧StAt w' (fun b=>w.heap.size≤b) vs s
 | .bad b=>e=.panicked (fltAt b el ec)∧KeepBut (fun b=>b=R∨b=Bs) w w'
 | .no=>True
set_option maxRecDepth 4000 in
set_option maxHeartbeats 32000000 in
theorem plainJ_name (w:World) (R el ec f Bs:Nat) (F:List Item→Option (List Item)) (hF:FaultsE F R el ec) (its:List Item) (o:Oc St) (l cl:Nat) (hr:ReaderAt w R its el ec) (hB:w.heap[Bs]?=some (.cells (stC 0 0 0 [] [] [] [] (.slice none 0 0) l cl) TSm (0,0))) (hRB:R<Bs) (hno:o≠.no) (b':List Item) (hx:wantO 2 its=.bad b') (ho:Oc.bad b'=o):
  Calls Tryz.prog 110 #[rdV R,.pointer (some ⟨Bs,0,none⟩)] w fun e w'=>OutP w R el ec Bs o e w':=by
 subst ho
 have HQ0:=hid (name_at hr hx)
 obtain ⟨FL,hFL⟩:∃ FL:List PanicEntry,FL=fltAt b' el ec:=⟨_,rfl⟩
 rw [←hFL] at HQ0
 have HFL:=hid hFL
 clear hr hB hRB hx hF hFL hno
 go_enter Tryz.func110,Tryz.ntmps110
 go_wp2_with fail
 go_at_call 81
 refine HQ0.out.mono ?_
 rintro e We ⟨rfl,hk⟩
 have HKE:=hid (hk.mono (E':=fun b=>b=R∨b=Bs) fun _ e=>.inl e)
 clear hk
 go_wp2_with fail
 exact ⟨rfl,congrArg Ending.panicked HFL.out,HKE.out⟩
set_option maxRecDepth 4000 in
set_option maxHeartbeats 32000000 in
theorem plainJ_put (w:World) (R el ec f Bs:Nat) (F:List Item→Option (List Item)) (hF:FaultsE F R el ec) (its:List Item) (o:Oc St) (l cl:Nat) (hr:ReaderAt w R its el ec) (hB:w.heap[Bs]?=some (.cells (stC 0 0 0 [] [] [] [] (.slice none 0 0) l cl) TSm (0,0))) (hRB:R<Bs) (hno:o≠.no) (tn:Item) (r0:List Item) (hts:its=tn::r0) (hk0:tn.tok.kind=2) (h91:headIs r0 [91]=true) (hx:((exO f F r0.tail).bind fun a r=>(mustO [[93],[61]] r).bind fun _ r=>(exO f F r).bind fun x r=>(mustO [[59]] r).bind fun _ r=>Oc.ok (St.mk 4 tn.tok.text 0 0 [] [] [] [a,x] [] [] l cl) r)=o):
  Calls Tryz.prog 110 #[rdV R,.pointer (some ⟨Bs,0,none⟩)] w fun e w'=>OutP w R el ec Bs o e w':=by
 subst hts
 have HS0:=hid (sm_start hr hB hRB)
 have HNM:=hid (name_str hr hk0)
 obtain ⟨T,hT⟩:∃ T,tn.tok.text=T:=⟨_,rfl⟩
 rw [hT] at HNM hx
 have HFE:=hid hF;have HXX:=hid hx;have HNO:=hid hno
 have Hh91:=hid h91
 clear hr hB hRB hk0 hT h91 hx hF hno
 go_enter Tryz.func110,Tryz.ntmps110
 go_wp2_with fail
 go_at_call 81
 refine (HNM.out).mono ?_
 rintro e W1 ⟨rfl,hr,hk⟩
 have HS1:=hid (HS0.out.call hr hk)
 clear hr hk
 have HQ:=hid (by have h:=may_any W1 R _ el ec (HS1.out.rd) [91];rw [Hh91.out,if_pos rfl] at h;exact h)
 go_wp2_with fail
 go_at_call 95
 refine (HQ.out).mono ?_
 rintro e W2 ⟨rfl,hr,hk⟩
 have HS2:=hid (HS1.out.call hr hk)
 clear hr hk
 obtain ⟨p1,c1,p2,c2,p3,c3,hb,hx,ht,he⟩:=HS2.out.ex
 have HB:=hid hb;have HX:=hid hx;have HT:=hid ht;have HE:=hid he
 obtain ⟨n0,n1,-,-,-,-,-,-,-,-,-,-⟩:=blk12 hb
 have f0:=frz12 hb 0
 have f1:=frz12 hb 1
 clear hb hx ht he
 go_upto_region 3 with fail
 clear n0 f0 n1 f1
 obtain ⟨V3_0,hV0,hb0,hk0⟩:=s_put0 (HB.out) (.int .i64 4)
 rw [←hV0]
 obtain ⟨W3,hV1,hb1,hk1⟩:=s_put1 (hb0) (.string ⟨T.toArray⟩)
 rw [←hV1]
 have HS3:=hid (HS2.out.put ((hk0).trans hk1) hb1 (HX.out) (HT.out) (HE.out))
 clear hV0 hb0 hk0 hV1 hb1 hk1 HB HX HT HE
 have hx:=bindC HXX.out HNO.out
 clear HXX
 rcases hx with ⟨b',HB9,rfl⟩ | ⟨a,r1,hq1,HXX⟩
 ·obtain ⟨FL,HFL,HQ⟩:=hidF (expr_bad HFE.out HS3.out.rd HB9.out)
  go_wp2_with fail
  go_at_call 109
  refine HQ.out.mono ?_
  rintro e We ⟨rfl,hk⟩
  have HKE:=hid (HS3.out.keep.trans (hk.mono (E':=fun b=>b=R∨b=Bs) fun _ e=>.inl e))
  clear hk
  go_wp2_with fail
  exact ⟨rfl,congrArg Ending.panicked HFL.out,HKE.out⟩
 have Hhx1:=hid (exO_ok hq1)
 clear hq1
 have HQ:=hid (exP_reads R el ec f W3 W3 _ a r1 (KeepBut.refl _ _) HS3.out.rd Hhx1.out)
 go_wp2_with fail
 go_at_call 109
 refine HQ.out.mono ?_
 rintro e W4 ⟨vs,rfl,hex,hr,hk⟩
 obtain ⟨ak,ao,an,aS,ap,am,ac,al,acl,rfl⟩:=ex_form hex
 obtain ⟨W5,A,hW5,hA,hbA,hkA,hsA⟩:=fresh_block W4 (.cells #[.int .i64 ak,.int .i64 ao,.int .i64 an,.string aS,.slice ap am ac,.int .i64 al,.int .i64 acl] TEx)
 obtain ⟨hs5,hxa⟩:=HS3.out.exA hex hr hk hkA
 have HS5:=hid hs5;have HBA:=hid hbA;have HXA:=hid hxa
 have HNA:=hid (show A≠R∧A≠Bs∧A<W5.heap.size by have:=HS3.out.lt;have:=HS3.out.keep.size;have:=hk.size;refine ⟨?_,?_,(Array.getElem?_eq_some_iff.1 hbA).1⟩ <;> omega)
 clear hex hr hk hbA hkA hsA hs5 hxa
 go_upto_region 4 with fail
 rw [←hW5,←hA]
 clear hW5 hA
 have hx:=bindC HXX.out HNO.out
 clear HXX
 rcases hx with ⟨b',HB9,rfl⟩ | ⟨u,r2,hq2,HXX⟩
 ·obtain ⟨FL,HFL,HQ⟩:=hidF (must2b HS5.out.rd [93] [61] _ HB9.out)
  go_wp2_with fail
  go_at_call 77
  refine HQ.out.mono ?_
  rintro e We ⟨rfl,hk⟩
  have HKE:=hid (HS5.out.keep.trans (hk.mono (E':=fun b=>b=R∨b=Bs) fun _ e=>.inl e))
  clear hk
  go_wp2_with fail
  exact ⟨rfl,congrArg Ending.panicked HFL.out,HKE.out⟩
 have Hhm1:=hid (mustT_of hq2)
 clear hq2
 have HQ:=hid (must2 HS5.out.rd [93] [61] _ Hhm1.out)
 go_wp2_with fail
 go_at_call 77
 refine HQ.out.mono ?_
 rintro e W6 ⟨rfl,hr,hk⟩
 have HS6:=hid (HS5.out.call hr hk)
 have HA6:=hid (hk.blkE HBA.out fun e=>HNA.out.1 e)
 have HXA6:=hid (HXA.out.keep hk fun b hb e=>by have e:b=R:=e;have:=HS5.out.lt;have:=hb.1;omega)
 clear hr hk
 go_upto_region 5 with fail
 obtain ⟨pq,cq,hR,-⟩:=HS6.out.rd.ex
 obtain ⟨q1,d1,q2,d2,q3,d3,hB,hkx,hkt,hke⟩:=HS6.out.ex
 have HRO:=hid hR;have HBO:=hid hB;have HKT:=hid hkt;have HKE:=hid hke
 have HN6:=hid (show R<w.heap.size∧R<Bs∧Bs<W6.heap.size∧w.heap.size≤W6.heap.size∧A<W6.heap.size by have:=HS6.out.lt;have:=HS6.out.keep.size;have:=(Array.getElem?_eq_some_iff.1 HA6.out).1;omega)
 have HNX:=hid (show ∀ w',KeepBut (fun b=>b=R∨b=Bs) W6.drew w'→w'.heap[R]?=some (.cells #[.slice pq r2.length cq,.int .i64 0,.string ⟨#[]⟩,.int .i64 0,.int .i64 el,.int .i64 ec] TRd (0,0))→ReaderAt w' R r2 el ec from fun w' hk hr=>HS6.out.rd.same (Nat.le_trans (KeepBut.drew (fun _=>False) W6).size hk.size) fun b hb=>by
  by_cases e:b=R
  ·rw [e,hr,HRO.out]
  ·exact ((KeepBut.drew _ W6).trans hk).block b (by have:=HN6.out;omega) fun h=>by have:=HN6.out;omega)
 have hx:=bindC HXX.out HNO.out
 clear HXX
 rcases hx with ⟨b',HB9,rfl⟩ | ⟨x,r3,hq3,HXX⟩
 ·obtain ⟨FL,hFL⟩:∃ FL:List PanicEntry,FL=fltAt b' el ec:=⟨_,rfl⟩
  have HFL:=hid hFL
  clear hFL
  clear hR hB hkx hkt hke
  refine OwnX.wp_ownB (fun ch w'=>ch=FL∧KeepBut (fun b=>b=R∨b=Bs) w w') (fun ch a w' hd h=>by obtain ⟨rfl,h2⟩:=h;exact ⟨hd.1,congrArg Ending.panicked HFL.out,h2⟩) (by kernel_rfl) R Bs _ _ HRO.out HBO.out (by have:=HN6.out;omega) (fun i=>[[],[],[],[2],[1,2,3],[0,1,2,3,4],[0,1,2,3,4,5],[0,1,2,3,4,5,6]].getD i []) (fun i=>if i=3 then [8] else if i=7 then [9] else []) (fun i=>if i=7 then [9] else []) [3,4,7] (by kernel_rfl)
   (fun i=>if i=3 then some (OwnX.sNo (.agg #[.int .i64 0,.int .i64 0,.int .i64 0,.string ⟨#[]⟩,.slice none 0 0,.int .i64 0,.int .i64 0]))
    else if i=4 then some (sTwo TEx) else if i=7 then some (sCellA Bs 7 TSm #[.int .i64 4,.string ⟨T.toArray⟩,.int .i64 0,.int .i64 0,.string ⟨([]:List UInt8).toArray⟩,.string ⟨([]:List UInt8).toArray⟩,.string ⟨([]:List UInt8).toArray⟩,.slice q1 ([]:List Ex).length d1,.slice q2 ([]:List St).length d2,.slice q3 ([]:List St).length d3,.int .i64 l,.int .i64 cl]) else none) ?_
  apply OwnX.lex_quiet rfl rfl
  ·intro w' hk;go_simp;with_reducible rfl
  simp only [Act.put,LS]
  refine OwnX.lex_quiet rfl rfl (v:=.agg #[.int .i64 ak,.int .i64 ao,.int .i64 an,.string aS,.slice ap am ac,.int .i64 al,.int .i64 acl]) (fun w' hk=>by
   have hb:=((KeepBut.drew (fun b=>b=R∨b=Bs) W6).trans hk).blkE HA6.out (fun e=>by have:=HNA.out;rcases e with e | e <;> omega)
   obtain ⟨x0,x1,x2,x3,x4,x5,x6,-⟩:=blk7 hb
   go_simp <;> rfl) ?_
  simp only [Act.put,LS]
  apply OwnX.lex_quiet rfl rfl
  ·intro w' hk;go_simp;with_reducible rfl
  simp only [Act.put,LS]
  refine OwnX.lex_loud rfl rfl (OwnX.loud_gives 109 #[rdV R] _ (fun w=>by kernel_rfl) fun w' hk hav=>(expr_bad HFE.out (HNX.out w' hk (hav 8 (by decide)).1) HB9.out).mono ?_) fun g3 hg3=>?_
  ·rintro e w'' ⟨rfl,hk2⟩
   exact ⟨_,rfl,HFL.out.symm,(HS6.out.keep.trans ((KeepBut.drew (fun b=>b=R∨b=Bs) W6).trans hk)).trans (hk2.mono fun _ e=>.inl e)⟩
  simp only [OwnX.sNo,Act.put,LS]
  refine OwnX.lex_loud rfl rfl (.of <| loud_two TEx 62 (.tmp 23) (.tmp 25) rfl #[.int .i64 ak,.int .i64 ao,.int .i64 an,.string aS,.slice ap am ac,.int .i64 al,.int .i64 acl] #[.int .i64 0,.int .i64 0,.int .i64 0,.string ⟨#[]⟩,.slice none 0 0,.int .i64 0,.int .i64 0] rfl rfl (fun w=>by go_simp)) fun g4 _=>?_
  simp only [sTwo,Act.put,LS]
  apply OwnX.lex_quiet rfl rfl
  ·intro w' hk;go_simp;with_reducible rfl
  simp only [Act.put,LS]
  apply OwnX.lex_quiet rfl rfl
  ·intro w' hk;go_simp;with_reducible rfl
  simp only [Act.put,LS]
  refine OwnX.lex_loud rfl rfl (.of <| loud_cellA Bs 7 TSm #[.int .i64 4,.string ⟨T.toArray⟩,.int .i64 0,.int .i64 0,.string ⟨([]:List UInt8).toArray⟩,.string ⟨([]:List UInt8).toArray⟩,.string ⟨([]:List UInt8).toArray⟩,.slice q1 ([]:List Ex).length d1,.slice q2 ([]:List St).length d2,.slice q3 ([]:List St).length d3,.int .i64 l,.int .i64 cl] (.slice (some ⟨g4.b,0,none⟩) 2 2) (put_args rfl rfl) (fun w u hc hf=>by go_simp <;> rfl) 9 (by decide) (by decide) (fun w h=>h) (.inr ⟨rfl,rfl⟩) (by show 7<12;decide)) fun g7 _=>?_
  simp only [sCellA,Act.put,LS]
  refine OwnX.lex_nil ?_
  intro w9 hk9 hF hdis
  exact ((hF 3 (by decide)).1:False).elim
 have Hhx2:=hid (exO_ok hq3)
 clear hq3
 obtain ⟨zk,zo,zn,zm,zl,zc,zks⟩:=x
 have HX2:=hid Hhx2.out
 obtain ⟨S3,hS3⟩:∃ S,strV zm=.string S:=⟨_,rfl⟩
 have HS3E:=hid hS3
 clear hR hB hkx hkt hke hS3
 refine wp_ownB (by kernel_rfl) R Bs _ _ HRO.out HBO.out (by have:=HN6.out;omega) (fun i=>[[],[],[],[2],[1,2,3],[0,1,2,3,4],[0,1,2,3,4,5],[0,1,2,3,4,5,6]].getD i []) (fun i=>if i=3 then [8] else if i=7 then [9] else []) (fun i=>if i=3 then [8] else if i=7 then [9] else []) [3,4,7] (by kernel_rfl)
  (fun i=>if i=3 then some { ok:=fun _ g=>W6.heap.size≤g.b,val:=fun _ g=>.agg #[.int .i64 zk,.int .i64 zo,.int .i64 zn,.string S3,.slice g.p zks.length g.c,.int .i64 zl,.int .i64 zc],fp:=fun _ g b=>b=R∨(g.b≤b∧b<g.d),post:=fun _ g w'=>KidsAt w' (fun b=>g.b≤b∧b<g.d) g.p 0 zks∧ReaderAt w' R r3 el ec }
   else if i=4 then some (sTwo TEx) else if i=7 then some (sCellA Bs 7 TSm #[.int .i64 4,.string ⟨T.toArray⟩,.int .i64 0,.int .i64 0,.string ⟨([]:List UInt8).toArray⟩,.string ⟨([]:List UInt8).toArray⟩,.string ⟨([]:List UInt8).toArray⟩,.slice q1 ([]:List Ex).length d1,.slice q2 ([]:List St).length d2,.slice q3 ([]:List St).length d3,.int .i64 l,.int .i64 cl]) else none) ?_
 apply lex_quiet rfl rfl
 ·intro w' hk;go_simp;with_reducible rfl
 simp only [Act.put,LS]
 refine lex_quiet rfl rfl (v:=.agg #[.int .i64 ak,.int .i64 ao,.int .i64 an,.string aS,.slice ap am ac,.int .i64 al,.int .i64 acl]) (fun w' hk=>by
  have hb:=((KeepBut.drew (fun b=>b=R∨b=Bs) W6).trans hk).blkE HA6.out (fun e=>by have:=HNA.out;rcases e with e | e <;> omega)
  obtain ⟨x0,x1,x2,x3,x4,x5,x6,-⟩:=blk7 hb
  go_simp <;> rfl) ?_
 simp only [Act.put,LS]
 apply lex_quiet rfl rfl
 ·intro w' hk;go_simp;with_reducible rfl
 simp only [Act.put,LS]
 refine lex_loud rfl rfl (loud_call 109 #[rdV R] (fun w=>by kernel_rfl) ⟨{ b:=W6.heap.size },Nat.le_refl _⟩ (fun g hg w w' h1 h2 hs hb hp=>⟨hp.1.same fun b hb'=>hb b (.inr hb'),hp.2.same hs fun b hb'=>by
   by_cases e:b=R
   ·exact hb b (.inl e)
   ·have:=HN6.out
    rw [h1.block b (by show b<W6.heap.size;omega) (fun h=>by omega),h2.block b (by show b<W6.heap.size;omega) (fun h=>by omega)]⟩) fun w' hk hav _=>(exP_reads R el ec f w' w' r2 _ r3 (KeepBut.refl _ _) (HNX.out w' hk (hav 8 (by decide)).1) HX2.out).mono ?_) fun g3 hg3=>?_
 ·rintro e w'' ⟨vs2,rfl,hex2,hr2,hk2⟩
  have hex3:=hex2.inHeap
  unfold ExAt at hex3
  obtain ⟨p2,cc2,hvs2,hkids⟩:=hex3
  rw [HS3E.out] at hvs2
  subst hvs2
  exact ⟨{ p:=p2,c:=cc2,b:=w'.heap.size,d:=w''.heap.size },Nat.le_trans (KeepBut.drew (fun _=>False) W6).size hk.size,rfl,hk2.mono fun b e=>⟨8,by decide,.inl ⟨rfl,e⟩⟩,fun b hb=>by
   rcases hb with e | hb
   ·exact ⟨.inr ⟨8,by decide,.inl ⟨rfl,e⟩⟩,by rw [e];exact hr2.lt⟩
   ·exact ⟨.inl hb.1,hb.2⟩,hkids,hr2⟩
 simp only [Act.put,LS]
 refine lex_loud rfl rfl (loud_two TEx 62 (.tmp 23) (.tmp 25) rfl #[.int .i64 ak,.int .i64 ao,.int .i64 an,.string aS,.slice ap am ac,.int .i64 al,.int .i64 acl] #[.int .i64 zk,.int .i64 zo,.int .i64 zn,.string S3,.slice g3.p zks.length g3.c,.int .i64 zl,.int .i64 zc] rfl rfl (fun w=>by go_simp)) fun g4 _=>?_
 simp only [sTwo,Act.put,LS]
 apply lex_quiet rfl rfl
 ·intro w' hk;go_simp;with_reducible rfl
 simp only [Act.put,LS]
 apply lex_quiet rfl rfl
 ·intro w' hk;go_simp;with_reducible rfl
 simp only [Act.put,LS]
 refine lex_loud rfl rfl (loud_cellA Bs 7 TSm #[.int .i64 4,.string ⟨T.toArray⟩,.int .i64 0,.int .i64 0,.string ⟨([]:List UInt8).toArray⟩,.string ⟨([]:List UInt8).toArray⟩,.string ⟨([]:List UInt8).toArray⟩,.slice q1 ([]:List Ex).length d1,.slice q2 ([]:List St).length d2,.slice q3 ([]:List St).length d3,.int .i64 l,.int .i64 cl] (.slice (some ⟨g4.b,0,none⟩) 2 2) (put_args rfl rfl) (fun w u hc hf=>by go_simp <;> rfl) 9 (by decide) (by decide) (fun w h=>h) (.inr ⟨rfl,rfl⟩) (by show 7<12;decide)) fun g7 _=>?_
 simp only [sCellA,Act.put,LS]
 refine lex_nil ?_
 intro W7 hk9 hF hdis
 have f3:KidsAt W7 (fun b=>g3.b≤b∧b<g3.d) g3.p 0 zks∧ReaderAt W7 R r3 el ec:=(hF 3 (by decide)).1
 have f4:W7.heap[g4.b]?=some (.cells (#[.int .i64 ak,.int .i64 ao,.int .i64 an,.string aS,.slice ap am ac,.int .i64 al,.int .i64 acl]++#[.int .i64 zk,.int .i64 zo,.int .i64 zn,.string S3,.slice g3.p zks.length g3.c,.int .i64 zl,.int .i64 zc]) TEx (0,0)):=(hF 4 (by decide)).1 _ _ (two_args0 rfl rfl) (two_args1 rfl rfl)
 have f7:W7.heap[Bs]?=some (.cells #[.int .i64 4,.string ⟨T.toArray⟩,.int .i64 0,.int .i64 0,.string ⟨([]:List UInt8).toArray⟩,.string ⟨([]:List UInt8).toArray⟩,.string ⟨([]:List UInt8).toArray⟩,.slice (some ⟨g4.b,0,none⟩) 2 2,.slice q2 ([]:List St).length d2,.slice q3 ([]:List St).length d3,.int .i64 l,.int .i64 cl] TSm (0,0)):=(hF 7 (by decide)).1 _ (put_args rfl rfl)
 have hg3':W6.heap.size≤g3.b:=hg3
 have d4R:g4.b≠R:=fun e=>hdis 3 (by decide) 4 (by decide) (by decide) R (.inl rfl) e.symm
 have d4B:g4.b≠Bs:=fun e=>hdis 4 (by decide) 7 (by decide) (by decide) Bs e.symm rfl
 have b4:W6.heap.size≤g4.b:=((hF 4 (by decide)).2 g4.b rfl).2.resolve_right fun h=>h.elim d4R d4B
 have hkM:=(KeepBut.drew (fun b=>b=R∨b=Bs) W6).trans hk9
 have hn6:=HN6.out
 have hnoM:∀ b,b≠R→b≠Bs→¬(b=R∨b=Bs):=fun b e1 e2 e=>e.elim e1 e2
 have HS7:=hid (show SmAt False (fun b=>b=R∨b=Bs) w W7 R el ec Bs R r3 4 0 0 l cl T [] [] [] [a,.mk zk zo zn zm zl zc zks] [] [] from by
  refine ⟨f3.2,⟨some ⟨g4.b,0,none⟩,2,q2,d2,q3,d3,f7,?_,HKT.out.keep hkM fun b hb=>hnoM b (by have:=hb.1;omega) hb.2.1,HKE.out.keep hkM fun b hb=>hnoM b (by have:=hb.1;omega) hb.2.1⟩,fun z=>z.elim,HS6.out.keep.trans hkM,⟨hn6.1,hn6.2.1,by have:=hkM.size;omega,by have:=hkM.size;omega⟩,fun b e=>.inl e⟩
  refine kids_two (vs:=[.int .i64 ak,.int .i64 ao,.int .i64 an,.string aS,.slice ap am ac,.int .i64 al,.int .i64 acl]) (us:=[.int .i64 zk,.int .i64 zo,.int .i64 zn,.string S3,.slice g3.p zks.length g3.c,.int .i64 zl,.int .i64 zc]) f4 ⟨by omega,d4B,d4R⟩ rfl (HXA6.out.keep hkM fun b hb=>hnoM b hb.2.2 hb.2.1) ?_
  unfold ExAt
  exact ⟨g3.p,g3.c,by rw [HS3E.out],f3.1.mono fun b hb=>⟨by omega,by omega,by omega⟩⟩)
 clear f3 f4 f7 hg3' d4R d4B b4 hkM hn6 hnoM hF hdis hk9
 have hx:=bindC HXX.out HNO.out
 clear HXX
 rcases hx with ⟨b',HB9,rfl⟩ | ⟨u,r4,hq4,HXX⟩
 ·obtain ⟨FL,HFL,HQ⟩:=hidF (must1b HS7.out.rd [59] _ HB9.out)
  go_wp2_with fail
  go_at_call 77
  refine HQ.out.mono ?_
  rintro e We ⟨rfl,hk⟩
  have HKE:=hid (HS7.out.keep.trans (hk.mono (E':=fun b=>b=R∨b=Bs) fun _ e=>.inl e))
  clear hk
  go_wp2_with fail
  exact ⟨rfl,congrArg Ending.panicked HFL.out,HKE.out⟩
 have Hhm2:=hid (mustT_of hq4)
 clear hq4
 have HQ:=hid (must1 HS7.out.rd [59] _ Hhm2.out)
 go_wp2_with fail
 go_at_call 77
 refine (HQ.out).mono ?_
 rintro e W8 ⟨rfl,hr,hk⟩
 have HS8:=hid (HS7.out.call hr hk)
 clear hr hk
 have hx:=HXX.out
 subst hx
 clear HXX HNO
 obtain ⟨vs,hv,hst⟩:=HS8.out.st
 have HV:=hid hv;have HST:=hid (hst.mono (S':=fun b=>w.heap.size≤b) fun b hb=>hb.1)
 clear hv hst
 go_wp2_with fail
 (try simp only [Exit.inBlock,Exit.then]);refine bodyPost_ret (results_none rfl _ _ _) rfl ?_
 exact ⟨rfl,HS8.out.rd,HS8.out.keep,vs,HV.out,HST.out⟩
set_option maxRecDepth 4000 in
set_option maxHeartbeats 32000000 in
theorem plainJ_two (w:World) (R el ec f Bs:Nat) (F:List Item→Option (List Item)) (hF:FaultsE F R el ec) (its:List Item) (o:Oc St) (l cl:Nat) (hr:ReaderAt w R its el ec) (hB:w.heap[Bs]?=some (.cells (stC 0 0 0 [] [] [] [] (.slice none 0 0) l cl) TSm (0,0))) (hRB:R<Bs) (hno:o≠.no) (tn:Item) (r0:List Item) (hts:its=tn::r0) (hk0:tn.tok.kind=2) (h91:headIs r0 [91]=false) (h44:headIs r0 [44]=true) (hx:((wantO 2 r0.tail).bind fun m r=>(mustO [[61]] r).bind fun _ r=>(callO f F tn.tok.text r).bind fun q r=>Oc.ok (St.mk 9 [] 0 q.1 tn.tok.text m.tok.text q.2.1 q.2.2 [] [] l cl) r)=o):
  Calls Tryz.prog 110 #[rdV R,.pointer (some ⟨Bs,0,none⟩)] w fun e w'=>OutP w R el ec Bs o e w':=by
 subst hts
 have HRB:=hid hRB
 have HFE:=hid hF;have HNO:=hid hno
 have hN:=(Array.getElem?_eq_some_iff.1 hB).1
 have HN0:=hid hN
 have HBW:=hid hB
 have HNM:=hid (name_str hr hk0)
 obtain ⟨T,hT⟩:∃ T,tn.tok.text=T:=⟨_,rfl⟩
 rw [hT] at HNM hx
 have HXX:=hid hx
 have HM91:=hid (fun W (h:ReaderAt W R r0 el ec)=>by have h:=may_any W R r0 el ec h [91];rw [h91,if_neg Bool.false_ne_true] at h;exact h)
 have HM44:=hid (fun W (h:ReaderAt W R r0 el ec)=>by have h:=may_any W R r0 el ec h [44];rw [h44,if_pos rfl] at h;exact h)
 unfold stC at HBW
 clear hr hB hN hRB hk0 h91 h44 hx hT hF hno
 go_enter Tryz.func110,Tryz.ntmps110
 go_wp2_with fail
 go_at_call 81
 refine HNM.out.mono ?_
 rintro e W1 ⟨rfl,hr,hk⟩
 have HR1:=hid hr;have HK1:=hid (hk.mono fun b e=>(.inl e:b=R∨b=Bs));have HB1:=hid (hk.blkE HBW.out fun e=>by have e:Bs=R:=e;have:=HRB.out;omega)
 have HQ:=hid (HM91.out W1 hr)
 clear hr hk
 go_wp2_with fail
 go_at_call 95
 refine HQ.out.mono ?_
 rintro e W2 ⟨rfl,hr,hk⟩
 have HQ:=hid (HM44.out W2 hr)
 have HB2:=hid (hk.blkE HB1.out fun e=>by have e:Bs=R:=e;have:=HRB.out;omega);have HR2:=hid hr;have HK2:=hid (HK1.out.trans (hk.mono fun _ e=>.inl e))
 clear hr hk
 go_wp2_with fail
 go_at_call 95
 refine HQ.out.mono ?_
 rintro e W3 ⟨rfl,hr,hk⟩
 have HB3:=hid (hk.blkE HB2.out fun e=>by have e:Bs=R:=e;have:=HRB.out;omega);have HR3:=hid hr;have HK3:=hid (HK2.out.trans (hk.mono fun _ e=>.inl e))
 clear hr hk
 have hx:=bindC HXX.out HNO.out
 clear HXX
 rcases hx with ⟨b',HB9,rfl⟩ | ⟨tm,r1,hq1,HXX⟩
 ·obtain ⟨FL,HFL,HQ⟩:=hidF (name_at HR3.out HB9.out)
  go_wp2_with fail
  go_at_call 81
  refine HQ.out.mono ?_
  rintro e We ⟨rfl,hk⟩
  have HKE:=hid (HK3.out.trans (hk.mono (E':=fun b=>b=R∨b=Bs) fun _ e=>.inl e))
  clear hk
  go_wp2_with fail
  exact ⟨rfl,congrArg Ending.panicked HFL.out,HKE.out⟩
 obtain ⟨htl,hk2⟩:=wantO_ok hq1
 obtain ⟨U,hU⟩:∃ U,tm.tok.text=U:=⟨_,rfl⟩
 have HQ:=hid (by have h:=name_ok HR3.out hq1;rw [hU] at h;exact h)
 have HUU:=hid hU
 clear hq1 htl hk2 hU
 go_wp2_with fail
 go_at_call 81
 refine HQ.out.mono ?_
 rintro e W4 ⟨rfl,hr,hk⟩
 have HB4:=hid (hk.blkE HB3.out fun e=>by have e:Bs=R:=e;have:=HRB.out;omega);have HR4:=hid hr;have HK4:=hid (HK3.out.trans (hk.mono fun _ e=>.inl e))
 clear hr hk
 obtain ⟨n0,n1,n2,n3,n4,n5,n6,n7,n8,n9,n10,n11⟩:=blk12 HB4.out
 have f4:=frz12 HB4.out 4
 have f5:=frz12 HB4.out 5
 go_upto_region 9 with fail
 clear n0 n1 n2 n3 n4 n5 n6 n7 n8 n9 n10 n11 f4 f5
 obtain ⟨W5,hW,hb,hk⟩:=s_put4 HB4.out (.string ⟨T.toArray⟩)
 rw [←hW]
 have HB5:=hid hb;have HR5:=hid (HR4.out.keep hk fun b hb e=>by have e:b=Bs:=e;have:=HRB.out;omega);have HK5:=hid (HK4.out.trans (hk.mono fun _ e=>.inr e))
 clear hW hb hk
 obtain ⟨W6,hW,hb,hk⟩:=s_put5 HB5.out (.string ⟨U.toArray⟩)
 rw [←hW]
 have HB6:=hid hb;have HR6:=hid (HR5.out.keep hk fun b hb e=>by have e:b=Bs:=e;have:=HRB.out;omega);have HK6:=hid (HK5.out.trans (hk.mono fun _ e=>.inr e))
 clear hW hb hk
 have hx:=bindC HXX.out HNO.out
 clear HXX
 rcases hx with ⟨b',HB9,rfl⟩ | ⟨u,r2,hq2,HXX⟩
 ·obtain ⟨FL,HFL,HQ⟩:=hidF (must1b HR6.out [61] _ HB9.out)
  go_wp2_with fail
  go_at_call 77
  refine HQ.out.mono ?_
  rintro e We ⟨rfl,hk⟩
  have HKE:=hid (HK6.out.trans (hk.mono (E':=fun b=>b=R∨b=Bs) fun _ e=>.inl e))
  clear hk
  go_wp2_with fail
  exact ⟨rfl,congrArg Ending.panicked HFL.out,HKE.out⟩
 have HMU:=hid (mustT_of hq2)
 clear hq2
 have HQ:=hid (must1 HR6.out [61] _ HMU.out)
 go_wp2_with fail
 go_at_call 77
 refine HQ.out.mono ?_
 rintro e W7 ⟨rfl,hr,hk⟩
 have HB7:=hid (hk.blkE HB6.out fun e=>by have e:Bs=R:=e;have:=HRB.out;omega);have HR7:=hid hr;have HK7:=hid (HK6.out.trans (hk.mono fun _ e=>.inl e))
 clear hr hk
 have hx:=bindC HXX.out HNO.out
 clear HXX
 rcases hx with ⟨b',HB9,rfl⟩ | ⟨q,r3,hq3,HXX⟩
 ·obtain ⟨FL,HFL,HQ⟩:=hidF (show Calls _ _ _ _ fun e w'=>e=.panicked (fltAt b' el ec)∧KeepBut (fun b=>b=R∨b=Bs) W7 w' from callJ W7 R el ec f Bs F HFE.out r2 (.bad b') T U [] 0 0 0 l cl [] HR7.out HB7.out HRB.out HB9.out (fun h=>by cases h))
  go_wp2_with fail
  go_at_call 122
  refine HQ.out.mono ?_
  rintro e We ⟨rfl,hk⟩
  have HKE:=hid (HK7.out.trans hk)
  clear hk
  go_wp2_with fail
  exact ⟨rfl,congrArg Ending.panicked HFL.out,HKE.out⟩
 have HCB:=hid (callJ W7 R el ec f Bs F HFE.out r2 (.ok q r3) T U [] 0 0 0 l cl [] HR7.out HB7.out HRB.out hq3 (fun h=>by cases h))
 clear hq3
 go_wp2_with fail
 go_at_call 122
 refine HCB.out.mono ?_
 rintro e W8 ⟨rfl,hr8,hk8,p,cap,hb8,hkd⟩
 have HR8:=hid hr8;have HK8:=hid (HK7.out.trans hk8)
 have hs7:=HK7.out.size
 obtain ⟨vs,hvs,hst⟩:=stC_call (op:=q.1) (l:=l) (cl:=cl) (val:=T) (into:=U) (cont:=q.2.1) (cap:=cap) (hkd.mono fun b hb=>(by have hb:W7.heap.size≤b:=hb;omega:w.heap.size≤b))
 have hb8:W8.heap[Bs]?=some (.cells vs.toArray TSm (0,0)):=by rw [←hvs];exact hb8
 have HB8:=hid hb8;have HST:=hid hst
 clear hr8 hk8 hb8 hkd hs7 hvs hst
 have hx:=HXX.out
 subst hx
 clear HXX HNO
 go_wp2_with fail
 (try simp only [Exit.inBlock,Exit.then]);refine bodyPost_ret (results_none rfl _ _ _) rfl ?_
 exact ⟨rfl,HR8.out,HK8.out,vs,HB8.out,by rw [HUU.out];exact HST.out⟩
set_option maxRecDepth 4000 in
set_option maxHeartbeats 32000000 in
theorem plainJ_eq (w:World) (R el ec f Bs:Nat) (F:List Item→Option (List Item)) (hF:FaultsE F R el ec) (its:List Item) (o:Oc St) (l cl:Nat) (hr:ReaderAt w R its el ec) (hB:w.heap[Bs]?=some (.cells (stC 0 0 0 [] [] [] [] (.slice none 0 0) l cl) TSm (0,0))) (hRB:R<Bs) (hno:o≠.no) (tn:Item) (r0:List Item) (hts:its=tn::r0) (hk0:tn.tok.kind=2) (h91:headIs r0 [91]=false) (h44:headIs r0 [44]=false) (b':List Item) (hx:mustO [[61]] r0=.bad b') (ho:Oc.bad b'=o):
  Calls Tryz.prog 110 #[rdV R,.pointer (some ⟨Bs,0,none⟩)] w fun e w'=>OutP w R el ec Bs o e w':=by
 subst ho
 subst hts
 have HRB:=hid hRB;have HR0:=hid hr;have HK0:=hid (KeepBut.refl (fun b=>b=R∨b=Bs) w);have HB0:=hid hB
 have HN0:=hid (Array.getElem?_eq_some_iff.1 hB).1
 unfold stC at HB0
 have HNM:=hid (name_str hr hk0)
 obtain ⟨T,hT⟩:∃ T,tn.tok.text=T:=⟨_,rfl⟩
 rw [hT] at HNM
 have HFE:=hid hF;have HB9:=hid hx;have HNO:=hid hno
 have Hh91:=hid h91
 have Hh44:=hid h44
 clear hr hB hRB hk0 hT h91 h44 hx hF hno
 go_enter Tryz.func110,Tryz.ntmps110
 go_wp2_with fail
 go_at_call 81
 refine (HNM.out).mono ?_
 rintro e W1 ⟨rfl,hr,hk⟩
 have HB1:=hid (hk.blkE HB0.out fun e=>by have e:Bs=R:=e;have:=HRB.out;omega);have HR1:=hid hr;have HK1:=hid (HK0.out.trans (hk.mono fun _ e=>.inl e))
 clear hr hk
 have HQ:=hid (by have h:=may_any W1 R _ el ec HR1.out [91];rw [Hh91.out,if_neg Bool.false_ne_true] at h;exact h)
 go_wp2_with fail
 go_at_call 95
 refine (HQ.out).mono ?_
 rintro e W2 ⟨rfl,hr,hk⟩
 have HB2:=hid (hk.blkE HB1.out fun e=>by have e:Bs=R:=e;have:=HRB.out;omega);have HR2:=hid hr;have HK2:=hid (HK1.out.trans (hk.mono fun _ e=>.inl e))
 clear hr hk
 have HQ:=hid (by have h:=may_any W2 R _ el ec HR2.out [44];rw [Hh44.out,if_neg Bool.false_ne_true] at h;exact h)
 go_wp2_with fail
 go_at_call 95
 refine (HQ.out).mono ?_
 rintro e W3 ⟨rfl,hr,hk⟩
 have HB3:=hid (hk.blkE HB2.out fun e=>by have e:Bs=R:=e;have:=HRB.out;omega);have HR3:=hid hr;have HK3:=hid (HK2.out.trans (hk.mono fun _ e=>.inl e))
 clear hr hk
 obtain ⟨FL,HFL,HQ⟩:=hidF (must1b HR3.out [61] _ HB9.out)
 go_wp2_with fail
 go_at_call 77
 refine HQ.out.mono ?_
 rintro e We ⟨rfl,hk⟩
 have HKE:=hid (HK3.out.trans (hk.mono (E':=fun b=>b=R∨b=Bs) fun _ e=>.inl e))
 clear hk
 go_wp2_with fail
 exact ⟨rfl,congrArg Ending.panicked HFL.out,HKE.out⟩
set_option maxRecDepth 4000 in
set_option maxHeartbeats 32000000 in
theorem plainJ_one (w:World) (R el ec f Bs:Nat) (F:List Item→Option (List Item)) (hF:FaultsE F R el ec) (its:List Item) (o:Oc St) (l cl:Nat) (hr:ReaderAt w R its el ec) (hB:w.heap[Bs]?=some (.cells (stC 0 0 0 [] [] [] [] (.slice none 0 0) l cl) TSm (0,0))) (hRB:R<Bs) (hno:o≠.no) (tn:Item) (r0:List Item) (hts:its=tn::r0) (hk0:tn.tok.kind=2) (h91:headIs r0 [91]=false) (h44:headIs r0 [44]=false) (rr:List Item) (hm1:mustT [[61]] r0=some rr) (hkd:headKind rr=1) (hx:((callO f F [] rr).bind fun q r=>Oc.ok (St.mk 9 [] 0 q.1 [] tn.tok.text q.2.1 q.2.2 [] [] l cl) r)=o):
  Calls Tryz.prog 110 #[rdV R,.pointer (some ⟨Bs,0,none⟩)] w fun e w'=>OutP w R el ec Bs o e w':=by
 subst hts
 have HRB:=hid hRB;have HR0:=hid hr;have HK0:=hid (KeepBut.refl (fun b=>b=R∨b=Bs) w);have HB0:=hid hB
 have HN0:=hid (Array.getElem?_eq_some_iff.1 hB).1
 unfold stC at HB0
 have HNM:=hid (name_str hr hk0)
 obtain ⟨T,hT⟩:∃ T,tn.tok.text=T:=⟨_,rfl⟩
 rw [hT] at HNM hx
 have HFE:=hid hF;have HXX:=hid hx;have HNO:=hid hno
 have Hh91:=hid h91
 have Hh44:=hid h44
 have Hhm1:=hid hm1
 have HKD:=hid hkd
 clear hr hB hRB hk0 hT h91 h44 hx hF hno hm1 hkd
 go_enter Tryz.func110,Tryz.ntmps110
 go_wp2_with fail
 go_at_call 81
 refine (HNM.out).mono ?_
 rintro e W1 ⟨rfl,hr,hk⟩
 have HB1:=hid (hk.blkE HB0.out fun e=>by have e:Bs=R:=e;have:=HRB.out;omega);have HR1:=hid hr;have HK1:=hid (HK0.out.trans (hk.mono fun _ e=>.inl e))
 clear hr hk
 have HQ:=hid (by have h:=may_any W1 R _ el ec HR1.out [91];rw [Hh91.out,if_neg Bool.false_ne_true] at h;exact h)
 go_wp2_with fail
 go_at_call 95
 refine (HQ.out).mono ?_
 rintro e W2 ⟨rfl,hr,hk⟩
 have HB2:=hid (hk.blkE HB1.out fun e=>by have e:Bs=R:=e;have:=HRB.out;omega);have HR2:=hid hr;have HK2:=hid (HK1.out.trans (hk.mono fun _ e=>.inl e))
 clear hr hk
 have HQ:=hid (by have h:=may_any W2 R _ el ec HR2.out [44];rw [Hh44.out,if_neg Bool.false_ne_true] at h;exact h)
 go_wp2_with fail
 go_at_call 95
 refine (HQ.out).mono ?_
 rintro e W3 ⟨rfl,hr,hk⟩
 have HB3:=hid (hk.blkE HB2.out fun e=>by have e:Bs=R:=e;have:=HRB.out;omega);have HR3:=hid hr;have HK3:=hid (HK2.out.trans (hk.mono fun _ e=>.inl e))
 clear hr hk
 have HQ:=hid (must1 HR3.out [61] _ Hhm1.out)
 go_wp2_with fail
 go_at_call 77
 refine (HQ.out).mono ?_
 rintro e W4 ⟨rfl,hr,hk⟩
 have HB4:=hid (hk.blkE HB3.out fun e=>by have e:Bs=R:=e;have:=HRB.out;omega);have HR4:=hid hr;have HK4:=hid (HK3.out.trans (hk.mono fun _ e=>.inl e))
 clear hr hk
 obtain ⟨tq,hpk⟩:=peek_at HR4.out
 obtain ⟨tk,htk⟩:∃ n:Int,(headKind rr:Int)=n:=⟨_,rfl⟩
 obtain ⟨T1,hT1⟩:∃ T,headText rr=T:=⟨_,rfl⟩
 obtain ⟨tl,htl⟩:∃ n:Int,(lineOf rr el:Int)=n:=⟨_,rfl⟩
 obtain ⟨tcl,htcl⟩:∃ n:Int,(colOf rr ec:Int)=n:=⟨_,rfl⟩
 rw [htk,hT1,htl,htcl] at hpk
 have HQ:=hid (hpk W4 (KeepBut.refl _ _))
 have hkk:(tk==1)=true:=by rw [beq_iff_eq];have:=HKD.out;omega
 clear hT1 htl htcl hpk htk
 go_wp2_with fail
 go_at_call 79
 refine HQ.out.mono ?_
 rintro e W5 ⟨rfl,hk⟩
 have HR5:=hid (HR4.out.keep hk fun _ _ e=>e);have HB5:=hid (hk.blk HB4.out);have HK5:=hid (HK4.out.trans (hk.mono fun _ e=>e.elim))
 clear hk
 have hfk:=field_kind (.int .i64 tk) (.string ⟨T1.toArray⟩) (.int .i64 tq) (.int .i64 tl) (.int .i64 tcl) W5
 obtain ⟨-,-,-,-,-,n5,-⟩:=blk12 HB5.out
 have f5:=frz12 HB5.out 5
 go_upto_region 14 with fail
 clear n5 f5 hfk hkk
 obtain ⟨W6,hW,hb,hk⟩:=s_put5 HB5.out (.string ⟨T.toArray⟩)
 rw [←hW]
 have HB6:=hid hb;have HR6:=hid (HR5.out.keep hk fun b hb e=>by have e:b=Bs:=e;have:=HRB.out;omega);have HK6:=hid (HK5.out.trans (hk.mono fun _ e=>.inr e))
 clear hW hb hk
 have hx:=bindC HXX.out HNO.out
 clear HXX
 rcases hx with ⟨b',HB9,rfl⟩ | ⟨q,r3,hq3,HXX⟩
 ·obtain ⟨FL,HFL,HQ⟩:=hidF (show Calls _ _ _ _ fun e w'=>e=.panicked (fltAt b' el ec)∧KeepBut (fun b=>b=R∨b=Bs) W6 w' from callJ W6 R el ec f Bs F HFE.out rr (.bad b') [] T [] 0 0 0 l cl [] HR6.out HB6.out HRB.out HB9.out (fun h=>by cases h))
  go_wp2_with fail
  go_at_call 122
  refine HQ.out.mono ?_
  rintro e We ⟨rfl,hk⟩
  have HKE:=hid (HK6.out.trans hk)
  clear hk
  go_wp2_with fail
  exact ⟨rfl,congrArg Ending.panicked HFL.out,HKE.out⟩
 have HCB:=hid (callJ W6 R el ec f Bs F HFE.out rr (.ok q r3) [] T [] 0 0 0 l cl [] HR6.out HB6.out HRB.out hq3 (fun h=>by cases h))
 clear hq3
 go_wp2_with fail
 go_at_call 122
 refine HCB.out.mono ?_
 rintro e W8 ⟨rfl,hr8,hk8,p,cap,hb8,hkd⟩
 have HR8:=hid hr8;have HK8:=hid (HK6.out.trans hk8)
 have hs7:=HK6.out.size
 obtain ⟨vs,hvs,hst⟩:=stC_call (op:=q.1) (l:=l) (cl:=cl) (val:=[]) (into:=T) (cont:=q.2.1) (cap:=cap) (hkd.mono fun b hb=>(by have hb:W6.heap.size≤b:=hb;omega:w.heap.size≤b))
 have hb8:W8.heap[Bs]?=some (.cells vs.toArray TSm (0,0)):=by rw [←hvs];exact hb8
 have HB8:=hid hb8;have HST:=hid hst
 clear hr8 hk8 hb8 hkd hs7 hvs hst
 have hx:=HXX.out
 subst hx
 clear HXX HNO
 go_wp2_with fail
 (try simp only [Exit.inBlock,Exit.then]);refine bodyPost_ret (results_none rfl _ _ _) rfl ?_
 exact ⟨rfl,HR8.out,HK8.out,vs,HB8.out,HST.out⟩
set_option maxRecDepth 4000 in
set_option maxHeartbeats 32000000 in
theorem plainJ_set (w:World) (R el ec f Bs:Nat) (F:List Item→Option (List Item)) (hF:FaultsE F R el ec) (its:List Item) (o:Oc St) (l cl:Nat) (hr:ReaderAt w R its el ec) (hB:w.heap[Bs]?=some (.cells (stC 0 0 0 [] [] [] [] (.slice none 0 0) l cl) TSm (0,0))) (hRB:R<Bs) (hno:o≠.no) (tn:Item) (r0:List Item) (hts:its=tn::r0) (hk0:tn.tok.kind=2) (h91:headIs r0 [91]=false) (h44:headIs r0 [44]=false) (rr:List Item) (hm1:mustT [[61]] r0=some rr) (hkd:¬headKind rr=1) (hx:((exO f F rr).bind fun x r=>(mustO [[59]] r).bind fun _ r=>Oc.ok (St.mk 3 tn.tok.text 0 0 [] [] [] [x] [] [] l cl) r)=o):
  Calls Tryz.prog 110 #[rdV R,.pointer (some ⟨Bs,0,none⟩)] w fun e w'=>OutP w R el ec Bs o e w':=by
 subst hts
 have HS0:=hid (sm_start hr hB hRB)
 have HNM:=hid (name_str hr hk0)
 obtain ⟨T,hT⟩:∃ T,tn.tok.text=T:=⟨_,rfl⟩
 rw [hT] at HNM hx
 have HFE:=hid hF;have HXX:=hid hx;have HNO:=hid hno
 have Hh91:=hid h91
 have Hh44:=hid h44
 have Hhm1:=hid hm1
 have HKD:=hid hkd
 clear hr hB hRB hk0 hT h91 h44 hx hF hno hm1 hkd
 go_enter Tryz.func110,Tryz.ntmps110
 go_wp2_with fail
 go_at_call 81
 refine (HNM.out).mono ?_
 rintro e W1 ⟨rfl,hr,hk⟩
 have HS1:=hid (HS0.out.call hr hk)
 clear hr hk
 have HQ:=hid (by have h:=may_any W1 R _ el ec (HS1.out.rd) [91];rw [Hh91.out,if_neg Bool.false_ne_true] at h;exact h)
 go_wp2_with fail
 go_at_call 95
 refine (HQ.out).mono ?_
 rintro e W2 ⟨rfl,hr,hk⟩
 have HS2:=hid (HS1.out.call hr hk)
 clear hr hk
 have HQ:=hid (by have h:=may_any W2 R _ el ec (HS2.out.rd) [44];rw [Hh44.out,if_neg Bool.false_ne_true] at h;exact h)
 go_wp2_with fail
 go_at_call 95
 refine (HQ.out).mono ?_
 rintro e W3 ⟨rfl,hr,hk⟩
 have HS3:=hid (HS2.out.call hr hk)
 clear hr hk
 have HQ:=hid (must1 HS3.out.rd [61] _ Hhm1.out)
 go_wp2_with fail
 go_at_call 77
 refine (HQ.out).mono ?_
 rintro e W4 ⟨rfl,hr,hk⟩
 have HS4:=hid (HS3.out.call hr hk)
 clear hr hk
 obtain ⟨tq,hpk⟩:=peek_at HS4.out.rd
 obtain ⟨tk,htk⟩:∃ n:Int,(headKind rr:Int)=n:=⟨_,rfl⟩
 obtain ⟨T1,hT1⟩:∃ T,headText rr=T:=⟨_,rfl⟩
 obtain ⟨tl,htl⟩:∃ n:Int,(lineOf rr el:Int)=n:=⟨_,rfl⟩
 obtain ⟨tcl,htcl⟩:∃ n:Int,(colOf rr ec:Int)=n:=⟨_,rfl⟩
 rw [htk,hT1,htl,htcl] at hpk
 have HQ:=hid (hpk W4 (KeepBut.refl _ _))
 have hkk:(tk==1)=false:=by rw [beq_eq_false_iff_ne];have:=HKD.out;omega
 clear hT1 htl htcl hpk htk
 go_wp2_with fail
 go_at_call 79
 refine HQ.out.mono ?_
 rintro e W5 ⟨rfl,hk⟩
 have HS5:=hid (HS4.out.stay hk)
 clear hk
 have hfk:=field_kind (.int .i64 tk) (.string ⟨T1.toArray⟩) (.int .i64 tq) (.int .i64 tl) (.int .i64 tcl) W5
 have hx:=bindC HXX.out HNO.out
 clear HXX
 rcases hx with ⟨b',HB9,rfl⟩ | ⟨x,r2,hq4,HXX⟩
 ·obtain ⟨FL,HFL,HQ⟩:=hidF (expr_bad HFE.out HS5.out.rd HB9.out)
  go_wp2_with fail
  go_at_call 109
  refine HQ.out.mono ?_
  rintro e We ⟨rfl,hk⟩
  have HKE:=hid (HS5.out.keep.trans (hk.mono (E':=fun b=>b=R∨b=Bs) fun _ e=>.inl e))
  clear hk
  go_wp2_with fail
  exact ⟨rfl,congrArg Ending.panicked HFL.out,HKE.out⟩
 have Hhx1:=hid (exO_ok hq4)
 clear hq4
 have HQ:=hid (exP_reads R el ec f W5 W5 _ x _ (KeepBut.refl _ _) HS5.out.rd Hhx1.out)
 go_wp2_with fail
 go_at_call 109
 refine HQ.out.mono ?_
 rintro e X6 ⟨vs,rfl,hex,hr,hk⟩
 obtain ⟨xk,xo,xn,xS,xp,xm,xc,xl,xcl,rfl⟩:=ex_form hex
 obtain ⟨Y6,G6,hY,hG,hbG,hkG,hsG⟩:=fresh_block X6 (.cells #[.int .i64 xk,.int .i64 xo,.int .i64 xn,.string xS,.slice xp xm xc,.int .i64 xl,.int .i64 xcl] TEx)
 obtain ⟨hs,hkd⟩:=HS5.out.expr hex hr hk hkG hbG (by omega)
 have HSY:=hid hs;have HKD:=hid hkd
 obtain ⟨p1,c1,p2,c2,p3,c3,hb,hx,ht,he⟩:=(HS5.out.call hr hk).ex
 have hb:=(KeepBut.alloc (fun _=>False) X6 (.cells #[.int .i64 xk,.int .i64 xo,.int .i64 xn,.string xS,.slice xp xm xc,.int .i64 xl,.int .i64 xcl] TEx)).blk hb
 obtain ⟨n0,n1,-,-,-,-,-,n7,-,-,-,-⟩:=blk12 hb
 have f0:=frz12 hb 0
 have f1:=frz12 hb 1
 have f7:=frz12 hb 7
 clear hb hx ht he hs hkd hex hr hk hbG hkG hsG
 go_upto_region 16 with fail
 rw [←hY,←hG]
 clear hY hG
 clear n0 f0 n1 f1 n7 f7
 obtain ⟨p1,c1,p2,c2,p3,c3,hb,hx,ht,he⟩:=HSY.out.ex
 have HB:=hid hb;have HX:=hid hx;have HT:=hid ht;have HE:=hid he
 clear hb hx ht he
 obtain ⟨V6_0,hV0,hb0,hk0⟩:=s_put0 (HB.out) (.int .i64 3)
 rw [←hV0]
 obtain ⟨V6_1,hV1,hb1,hk1⟩:=s_put1 (hb0) (.string ⟨T.toArray⟩)
 rw [←hV1]
 obtain ⟨W6,hV2,hb2,hk2⟩:=s_put7 (hb1) (.slice (some ⟨G6,0,none⟩) 1 1)
 rw [←hV2]
 have HS6:=hid (HSY.out.put (xs':=[x]) (((hk0).trans hk1).trans hk2) hb2 (HKD.out) (HT.out) (HE.out))
 clear hV0 hb0 hk0 hV1 hb1 hk1 hV2 hb2 hk2 HB HX HT HE
 clear HSY HKD
 have hx:=bindC HXX.out HNO.out
 clear HXX
 rcases hx with ⟨b',HB9,rfl⟩ | ⟨u,r3,hq5,HXX⟩
 ·obtain ⟨FL,HFL,HQ⟩:=hidF (must1b HS6.out.rd [59] _ HB9.out)
  go_wp2_with fail
  go_at_call 77
  refine HQ.out.mono ?_
  rintro e We ⟨rfl,hk⟩
  have HKE:=hid (HS6.out.keep.trans (hk.mono (E':=fun b=>b=R∨b=Bs) fun _ e=>.inl e))
  clear hk
  go_wp2_with fail
  exact ⟨rfl,congrArg Ending.panicked HFL.out,HKE.out⟩
 have Hhm2:=hid (mustT_of hq5)
 clear hq5
 have HQ:=hid (must1 HS6.out.rd [59] _ Hhm2.out)
 go_wp2_with fail
 go_at_call 77
 refine (HQ.out).mono ?_
 rintro e W7 ⟨rfl,hr,hk⟩
 have HS7:=hid (HS6.out.call hr hk)
 clear hr hk
 have hx:=HXX.out
 subst hx
 clear HXX HNO
 obtain ⟨vs,hv,hst⟩:=HS7.out.st
 have HV:=hid hv;have HST:=hid (hst.mono (S':=fun b=>w.heap.size≤b) fun b hb=>hb.1)
 clear hv hst
 go_wp2_with fail
 go_end0
 exact ⟨rfl,HS7.out.rd,HS7.out.keep,vs,HV.out,HST.out⟩
theorem plainJ (w:World) (R el ec f Bs:Nat) (F:List Item→Option (List Item)) (hF:FaultsE F R el ec) (its:List Item) (o:Oc St) (l cl:Nat) (hr:ReaderAt w R its el ec) (hB:w.heap[Bs]?=some (.cells (stC 0 0 0 [] [] [] [] (.slice none 0 0) l cl) TSm (0,0))) (hRB:R<Bs) (hno:o≠.no) (hx:plainO f F l cl its=o):
  Calls Tryz.prog 110 #[rdV R,.pointer (some ⟨Bs,0,none⟩)] w fun e w'=>OutP w R el ec Bs o e w':=by
 unfold plainO at hx
 cases hw:wantO 2 its with
 | no=>exact absurd hw (wantO_no _ _)
 | bad b'=>
  rw [hw] at hx
  exact plainJ_name w R el ec f Bs F hF its o l cl hr hB hRB hno b' hw hx
 | ok tn r0=>
  rw [hw,ok_bind] at hx
  obtain ⟨hts,hk0⟩:=wantO_ok hw
  by_cases h91:headIs r0 [91]=true
  ·rw [if_pos h91] at hx
   exact plainJ_put w R el ec f Bs F hF its o l cl hr hB hRB hno tn r0 hts hk0 h91 hx
  ·rw [if_neg h91] at hx
   by_cases h44:headIs r0 [44]=true
   ·rw [if_pos h44] at hx
    exact plainJ_two w R el ec f Bs F hF its o l cl hr hB hRB hno tn r0 hts hk0 (Bool.eq_false_iff.2 h91) h44 hx
   ·rw [if_neg h44] at hx
    cases hm:mustO [[61]] r0 with
    | no=>exact absurd hm (mustO_no _ _)
    | bad b'=>
     rw [hm] at hx
     exact plainJ_eq w R el ec f Bs F hF its o l cl hr hB hRB hno tn r0 hts hk0 (Bool.eq_false_iff.2 h91) (Bool.eq_false_iff.2 h44) b' hm hx
    | ok u rr=>
     rw [hm,ok_bind] at hx
     by_cases hkd:headKind rr=1
     ·rw [if_pos hkd] at hx
      exact plainJ_one w R el ec f Bs F hF its o l cl hr hB hRB hno tn r0 hts hk0 (Bool.eq_false_iff.2 h91) (Bool.eq_false_iff.2 h44) rr (mustT_of hm) hkd hx
     ·rw [if_neg hkd] at hx
      exact plainJ_set w R el ec f Bs F hF its o l cl hr hB hRB hno tn r0 hts hk0 (Bool.eq_false_iff.2 h91) (Bool.eq_false_iff.2 h44) rr (mustT_of hm) hkd hx
end Go.Proofs.YtknnmidnodeanaaGreatDoor
