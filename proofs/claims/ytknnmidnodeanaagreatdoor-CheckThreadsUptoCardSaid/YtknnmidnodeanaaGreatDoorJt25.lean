/- Joined texts of this work: Ms3, Wk8, Ck1. -/
import Derived.Test.YtknnmidnodeanaaGreatDoorJt22
import Derived.Test.YtknnmidnodeanaaGreatDoorJt23
import Derived.Test.YtknnmidnodeanaaGreatDoorJt24
import Derived.Test.YtknnmidnodeanaaGreatDoorJt20
import Derived.Laws.EntriesVeiled
import Derived.Test.YtknnmidnodeanaaGreatDoorJt14
/-
  Package parse: mayStmt, mayBlock, Check: which programs are some text's.
-/
namespace Go.Proofs.YtknnmidnodeanaaGreatDoor
open Go Go.RowKit Own
open Go.Lib (hid)
set_option maxHeartbeats 8000000 in
theorem mayS_out (x:Gs) (k sz op l cl:Int) (nm val into cont:List UInt8) (xs:List Gx) (thn els:List Gs) (hx:x=.mk k nm sz op val into cont xs thn els l cl) (hk:¬(1≤k∧k≤9)) (w:World) (S:Nat→Prop) (vs:List Value) (hs:SAt w S vs x):
  Calls Tryz.prog 69 #[.agg vs.toArray] w fun e w'=>e=.returned (.bool false)∧KeepBut (fun _=>False) w w':=by
 subst hx
 unfold SAt at hs
 obtain ⟨p1,c1,p2,c2,p3,c3,rfl,-⟩:=hs
 unfold strV
 obtain ⟨V,B1,hV,hB1,hb1,hk1,hs1⟩:=fresh_block w (.cells #[.int .i64 k,.string ⟨nm.toArray⟩,.int .i64 sz,.int .i64 op,.string ⟨val.toArray⟩,.string ⟨into.toArray⟩,.string ⟨cont.toArray⟩,.slice p1 xs.length c1,.slice p2 thn.length c2,.slice p3 els.length c3,.int .i64 l,.int .i64 cl] TSm)
 have HK:=hid hk1
 obtain ⟨n0,n1,n2,n3,n4,n5,n6,n7,n8,n9,n10,n11⟩:=blk12 hb1
 clear hb1 hk1 hs1
 go_enter Tryz.func69,Tryz.ntmps69
 go_upto_region 1 with fail
 rw [←hV,←hB1]
 clear hV hB1
 by_cases h1:k<1
 ·go_wp2_with fail
  go_ret
  exact ⟨rfl,HK.out⟩
 ·have h9:9<k:=by omega
  go_wp2_with fail
  go_ret
  exact ⟨rfl,HK.out⟩
mutual
/-- the texts of a statement are no longer than any machine holds -/
def fitS:Gs→Prop
 | .mk _ _ _ _ val into cont _ thn els _ _=>val.length+into.length+cont.length≤1099511627776∧fitSL thn∧fitSL els
def fitSL:List Gs→Prop
 | []=>True
 | s::l=>fitS s∧fitSL l
end
theorem fitSL_get:∀ {l:List Gs},fitSL l→∀ i (h:i<l.length),fitS l[i]
 | [],_,i,h=>absurd h (by simp)
 | s::l,hf,0,_=>by unfold fitSL at hf;exact hf.1
 | s::l,hf,i+1,h=>by unfold fitSL at hf;exact fitSL_get hf.2 i (by simpa using h)
theorem says_mayS:∀ (n:Nat) (x:Gs),sSize x≤n→n≤1099511627776→fitS x→SaysS mayS x
 | 0,x,hx,_,_=>by cases x;unfold sSize at hx;omega
 | n+1,.mk k nm sz op val into cont xs thn els l cl,hx,hn,hf=>by
  unfold fitS at hf
  obtain ⟨hf1,hf2,hf3⟩:=hf
  have hss:sSize (.mk k nm sz op val into cont xs thn els l cl)=gSizeL xs+sSizeL thn+sSizeL els+1:=by unfold sSize;rfl
  rw [hss] at hx
  have hX:∀ i (h:i<xs.length),SaysMayG mayG xs[i]:=fun i h=>mayG_any 1099511627776 xs[i] (by have:=gsize_mem h;omega) (Nat.le_refl _)
  have hT:∀ i (h:i<thn.length),SaysS mayS thn[i]:=fun i h=>says_mayS n thn[i] (by have:=ssize_mem h;omega) (by omega) (fitSL_get hf2 i h)
  have hE:∀ i (h:i<els.length),SaysS mayS els[i]:=fun i h=>says_mayS n els[i] (by have:=ssize_mem h;omega) (by omega) (fitSL_get hf3 i h)
  have lx:=glen_size xs
  have lt:=slen_size thn
  have le:=slen_size els
  intro w S vs hT' hs
  by_cases hk:1≤k∧k≤9
  ·have hm:mayS (.mk k nm sz op val into cont xs thn els l cl)=(fieldsK k sz op nm val into cont xs.length thn.length els.length && (mayGL xs && (maySL thn && maySL els))):=by
    unfold mayS
    rw [decide_eq_true hk.1,decide_eq_true hk.2,Bool.true_and,Bool.true_and]
   rw [hm]
   unfold fieldsK
   by_cases h13:k=1∨k=3
   ·rw [if_pos h13]
    exact ms_A1 k sz op l cl nm val into cont xs thn els hk (by unfold needV;rw [if_pos h13]) trivial hX hT hE hf1 (by omega) (by omega) (by omega) w S vs hT' hs
   rw [if_neg h13]
   by_cases h2:k=2
   ·rw [if_pos h2]
    exact ms_B k sz op l cl nm val into cont xs thn els hk (by unfold needV;rw [if_neg h13,if_pos h2]) trivial hX hT hE hf1 (by omega) (by omega) (by omega) w S vs hT' hs
   rw [if_neg h2]
   by_cases h4:k=4
   ·rw [if_pos h4]
    exact ms_A2 k sz op l cl nm val into cont xs thn els hk (by unfold needV;rw [if_neg h13,if_neg h2,if_pos h4]) trivial hX hT hE hf1 (by omega) (by omega) (by omega) w S vs hT' hs
   rw [if_neg h4]
   by_cases h5:k=5
   ·rw [if_pos h5]
    exact ms_C1 k sz op l cl nm val into cont xs thn els hk (by unfold needV;rw [if_neg h13,if_neg h2,if_neg h4,if_pos h5]) trivial hX hT hE hf1 (by omega) (by omega) (by omega) w S vs hT' hs
   rw [if_neg h5]
   by_cases h6:k=6
   ·rw [if_pos h6]
    exact ms_C2 k sz op l cl nm val into cont xs thn els hk (by unfold needV;rw [if_neg h13,if_neg h2,if_neg h4,if_neg h5,if_pos h6]) trivial hX hT hE hf1 (by omega) (by omega) (by omega) w S vs hT' hs
   rw [if_neg h6]
   by_cases h9:k=9
   ·rw [if_pos h9]
    by_cases ht:op=2∨op=4
    ·rw [if_pos ht]
     exact ms_D k sz op l cl nm val into cont xs thn els hk (by unfold needV;rw [if_neg h13,if_neg h2,if_neg h4,if_neg h5,if_neg h6,if_pos h9,if_pos ht]) ht hX hT hE hf1 (by omega) (by omega) (by omega) w S vs hT' hs
    ·rw [if_neg ht]
     exact ms_E k sz op l cl nm val into cont xs thn els hk (by unfold needV;rw [if_neg h13,if_neg h2,if_neg h4,if_neg h5,if_neg h6,if_pos h9,if_neg ht]) ht hX hT hE hf1 (by omega) (by omega) (by omega) w S vs hT' hs
   rw [if_neg h9]
   exact ms_C3 k sz op l cl nm val into cont xs thn els hk (by unfold needV;rw [if_neg h13,if_neg h2,if_neg h4,if_neg h5,if_neg h6,if_neg h9]) trivial hX hT hE hf1 (by omega) (by omega) (by omega) w S vs hT' hs
  ·have hm:mayS (.mk k nm sz op val into cont xs thn els l cl)=false:=by
    unfold mayS
    by_cases h1:1≤k
    ·rw [decide_eq_false (p:=k≤9) (by omega),Bool.false_and,Bool.and_false]
    ·rw [decide_eq_false h1,Bool.false_and]
   rw [hm]
   exact mayS_out _ k sz op l cl nm val into cont xs thn els rfl hk w S vs hs
/-- mayBlock -/
theorem mayBlk_any (l:List Gs) (hb:sSizeL l≤1099511627776) (hf:fitSL l) (w:World) (hT:TabS w) (S:Nat→Prop) (p:Option Addr) (c:Nat) (hp:SKids w S p 0 l):
  Calls Tryz.prog 52 #[.slice p l.length c] w fun e w'=>e=.returned (.bool (maySL l))∧KeepBut (fun _=>False) w w':=by
 have h:=mayBlock_any mayS l (fun i h=>says_mayS 1099511627776 l[i] (by have:=ssize_mem h;omega) (Nat.le_refl _) (fitSL_get hf i h)) (by have:=slen_size l;omega) w hT S p c hp
 rw [maySL_any] at h
 exact h
def checkP (p:Gp):Bool:=decide (0≤p.pool) && (p.conts.all mayC && p.threads.all maySL)
theorem any_not {α:Type} (f:α→Bool):∀ l:List α,(l.any fun x=>!f x)=!(l.all f)
 | []=>rfl
 | x::l=>by rw [List.any_cons,List.all_cons,any_not f l,Bool.not_and]
set_option maxHeartbeats 8000000 in
/-- Check -/
theorem check_any (p:Gp) (hb:hSize p.threads≤1099511627776) (hc:p.conts.length≤2000000) (hl:p.threads.length≤2000000) (hf:∀ l∈p.threads,fitSL l) (w:World) (hT:TabS w) (S:Nat→Prop) (v:Value) (h:PAt w S v p):
  Calls Tryz.prog 41 #[v] w fun e w'=>e=.returned (.int .i64 (if checkP p=true then 0 else 9))∧KeepBut (fun _=>False) w w':=by
 obtain ⟨pool,conts,threads⟩:=p
 obtain ⟨p1,c1,p2,c2,rfl,hcs,hts⟩:=h
 dsimp only at hb hc hl hf hcs hts ⊢
 obtain ⟨V,B1,hV,hB1,hb1,hk1,hs1⟩:=fresh_block w (.cells #[.int .i64 pool,.slice p1 conts.length c1,.slice p2 threads.length c2] TPr)
 have HCC:=hid (hasC_any (fun c=>!mayC c) conts (fun i h W hT=>mayFnC_any conts[i] W hT) (by omega) V (hk1.tabS hT) S p1 c1 (hcs.keep hk1 fun _ _ e=>e))
 have HTT:=hid (fun W (k:KeepBut (fun _=>False) V W)=>hasT_any (fun l=>!maySL l) threads (fun i h W S q cq hT hsk=>mayFnT_any _ W q _ cq (mayBlk_any threads[i] (by have:=hSize_mem h;omega) (hf _ (List.getElem_mem h)) W hT S q cq hsk)) (by omega) W ((hk1.trans k).tabS hT) S p2 c2 (hts.keep (hk1.trans k) fun _ _ e=>e))
 rw [any_not] at HCC
 have HB:=hid hb1;have HK1:=hid hk1
 obtain ⟨res,hres⟩:∃ r:Int,(if checkP ⟨pool,conts,threads⟩=true then (0:Int) else 9)=r:=⟨_,rfl⟩
 rw [hres]
 unfold checkP at hres
 dsimp only at hres
 obtain ⟨n0,n1,n2,-⟩:=blk3f hb1
 clear hcs hts hb1 hk1 hs1 hb hc hl hf
 go_enter Tryz.func41,Tryz.ntmps41
 go_upto_region 1 with fail
 rw [←hV,←hB1]
 clear hV hB1
 by_cases h0:0≤pool
 ·have h0i:¬pool<0:=by omega
  rw [decide_eq_true h0,Bool.true_and] at hres
  cases hcc:conts.all mayC with
  | false=>
   rw [hcc,Bool.false_and,if_neg Bool.false_ne_true] at hres
   have HQ:=hid (by have h:=HCC.out;rw [hcc] at h;exact h)
   subst hres
   go_wp2_with fail
   go_at_call 49
   refine HQ.out.mono ?_
   rintro e w2 ⟨rfl,hk2⟩
   have HK2:=hid hk2
   clear hk2
   go_wp2_with fail
   go_ret
   exact ⟨rfl,HK1.out.trans HK2.out⟩
  | true=>
   rw [hcc,Bool.true_and] at hres
   have HQ:=hid (by have h:=HCC.out;rw [hcc] at h;exact h)
   have HRES:=hid hres
   clear hres
   go_wp2_with fail
   go_at_call 49
   refine HQ.out.mono ?_
   rintro e w2 ⟨rfl,hk2⟩
   have HK2:=hid hk2
   have HT2:=hid (HTT.out w2 hk2)
   clear n0 n1 n2
   obtain ⟨n0,n1,n2,-⟩:=blk3f (hk2.blk HB.out)
   clear hk2
   rw [any_not] at HT2
   cases htt:threads.all maySL with
   | false=>
    have hres:=HRES.out
    rw [htt,if_neg Bool.false_ne_true] at hres
    rw [htt] at HT2
    subst hres
    go_wp2_with fail
    go_at_call 50
    refine HT2.out.mono ?_
    rintro e w3 ⟨rfl,hk3⟩
    have HK3:=hid hk3
    clear hk3
    go_wp2_with fail
    go_ret
    exact ⟨rfl,(HK1.out.trans HK2.out).trans HK3.out⟩
   | true=>
    have hres:=HRES.out
    rw [htt,if_pos rfl] at hres
    rw [htt] at HT2
    subst hres
    go_wp2_with fail
    go_at_call 50
    refine HT2.out.mono ?_
    rintro e w3 ⟨rfl,hk3⟩
    have HK3:=hid hk3
    clear hk3
    go_wp2_with fail
    go_ret
    exact ⟨rfl,(HK1.out.trans HK2.out).trans HK3.out⟩
 ·have h0i:pool<0:=by omega
  rw [decide_eq_false h0,Bool.false_and,if_neg Bool.false_ne_true] at hres
  subst hres
  go_wp2_with fail
  go_ret
  exact ⟨rfl,HK1.out⟩
/-
  Package check: the closure that recovers; all goes over a program.
-/
abbrev TLp:TypeId:=57
theorem assert_flaw (W:World) (v:Value) (xT:TypeId):(Instr.typeAssert (.iface 81 v) xT 81 true).run Tryz.prog W=.ok (.tuple #[v,.bool true]) W:=by kernel_rfl
set_option maxRecDepth 4000 in
set_option maxHeartbeats 8000000 in
theorem catch_flaw (B6 B7:Nat) (x6:Value) (z0 z1 z2 er li co:Int) (older:List PanicEntry) (w:World)
  (h6:w.heap[B6]?=some (.cells #[x6] TLp (0,0)))
  (h7:w.heap[B7]?=some (.cells #[.int .i64 z0,.int .i64 z1,.int .i64 z2] TFa (0,0))) (hne:B6<B7):
  CallsD Tryz.prog 39 #[.pointer (some ⟨B6,0,none⟩),.pointer (some ⟨B7,0,none⟩)] (.panicking ({ v:=fwV er li co,recovered:=false }::older)) w fun e u' w'=>e=.returned (.tuple #[])∧u'=.panicking ({ v:=fwV er li co,recovered:=true }::older)∧
   w'.heap[B6]?=some (.cells #[.slice none 0 0] TLp (0,0))∧w'.heap[B7]?=some (.cells #[.int .i64 er,.int .i64 li,.int .i64 co] TFa (0,0))∧KeepBut (fun b=>b=B6∨b=B7) w w':=by
 obtain ⟨V,B3,hV,hB3,hb3,hk1,hs1⟩:=fresh_block w (.cells #[.int .i64 er,.int .i64 li,.int .i64 co] TFw)
 have HK:=hid hk1;have HB3:=hid hb3;have HB6:=hid (hk1.blk h6);have HB7:=hid (hk1.blk h7);have HNE:=hid hne
 have HN:=hid (show B6<B3∧B7<B3 by
  have a1:=(Array.getElem?_eq_some_iff.1 h6).1
  have a2:=(Array.getElem?_eq_some_iff.1 h7).1
  omega)
 clear h6 h7 hne hb3 hk1 hs1
 refine callsD_of_wpS Tryz.func39 rfl fun c₀ cs hu=>?_
 apply wpS_seq
 apply wpS_region
 simp [wpOpsS,go_sem,recoverD,hu,Tryz.ntmps39,Exit.thenS]
 refine wpS_of_wp ?_
 simp only [Array.setIfInBounds,Array.replicate]
 simp only [fwV,TFw,TFa,TLp] at hu ⊢
 have hta:=assert_flaw
 go_upto_region 7 with fail
 rw [←hV,←hB3]
 clear hV hB3 hta
 refine wp_ownB (by kernel_rfl) B6 B7 _ _ HB6.out HB7.out (Nat.ne_of_lt HNE.out) (fun i=>[[],[0],[],[0,1,2]].getD i []) (fun i=>if i=2 then [4] else if i=3 then [5] else []) (fun i=>if i=2 then [4] else if i=3 then [5] else []) [2,3] (by kernel_rfl)
  (fun i=>if i=2 then some (sCellA B6 0 TLp #[x6]) else if i=3 then some (sPut B7 TFa) else none) ?_
 refine lex_quiet rfl rfl (v:=.pointer (some ⟨B3,0,none⟩)) (fun w' hk=>by
  have hb:=((KeepBut.drew (fun b=>b=B6∨b=B7) V).trans hk).blkE HB3.out (fun e=>by have:=HN.out;omega)
  obtain ⟨x0,x1,x2,-⟩:=blk3f hb
  go_simp <;> rfl) ?_
 refine lex_quiet rfl rfl (v:=.agg #[.int .i64 er,.int .i64 li,.int .i64 co]) (fun w' hk=>by
  have hb:=((KeepBut.drew (fun b=>b=B6∨b=B7) V).trans hk).blkE HB3.out (fun e=>by have:=HN.out;omega)
  obtain ⟨x0,x1,x2,-⟩:=blk3f hb
  go_simp <;> rfl) ?_
 simp only [Act.put,LS]
 refine lex_loud rfl rfl (loud_cellA B6 0 TLp #[x6] (.slice none 0 0) (put_args rfl rfl) (fun w u hc hf=>by go_simp <;> rfl) 4 (by decide) (by decide) (fun w h=>h) (.inl ⟨rfl,rfl⟩) (by show 0<1;decide)) fun g2 _=>?_
 simp only [sCellA,Act.put]
 refine lex_loud rfl rfl (loud_put B7 TFa TFa #[.int .i64 er,.int .i64 li,.int .i64 co] _ (.tmp 1) (.tmp 12) rfl rfl rfl 5 (by decide) (by decide) (fun w h=>h) (.inr ⟨rfl,rfl⟩) rfl (by kernel_rfl) (by simp [Value.oneCell'])) fun g3 _=>?_
 simp only [Act.put]
 refine lex_nil ?_
 intro w9 hk9 hF _
 have f2:w9.heap[B6]?=some (.cells #[.slice none 0 0] TLp (0,0)):=(hF 2 (by decide)).1 _ (put_args rfl rfl)
 have f3:w9.heap[B7]?=some (.cells #[.int .i64 er,.int .i64 li,.int .i64 co] TFa (0,0)):=(hF 3 (by decide)).1 _ (put_args rfl rfl)
 have hkM:=(KeepBut.drew (fun b=>b=B6∨b=B7) V).trans hk9
 have hkW:=(HK.out.mono (E':=fun b=>b=B6∨b=B7) fun _ e=>e.elim).trans hkM
 clear hk9 hF hkM
 go_wp2_with fail
 exact ⟨rfl,_,rfl,.tuple #[],by simp [results,Tryz.results39,go_sem],rfl,rfl,f2,f3,hkW⟩
theorem catch_nil (a b:Addr) (w:World):
  CallsD Tryz.prog 39 #[.pointer (some a),.pointer (some b)] .returning w fun e u' w'=>e=.returned (.tuple #[])∧u'=.returning∧w'=w:=by
 refine callsD_of_wpS Tryz.func39 rfl fun c₀ cs hu=>?_
 apply wpS_seq
 apply wpS_region
 simp [wpOpsS,go_sem,recoverD,hu,Tryz.ntmps39,Exit.thenS]
 refine wpS_of_wp ?_
 simp only [Array.setIfInBounds,Array.replicate]
 go_wp2_with fail
 cases c₀
 simp_all [bodyPostS,results,Tryz.results39]
/-
  What package check says of a program, in plain; a program is right exactly if each of its threads is, alone. No program in sight.
-/
open Go
def sizesOk (p:Gp):Bool:=decide (1≤p.pool) && (decide (p.pool≤32) && (decide (1≤p.conts.length) && (decide (p.conts.length≤4) && (decide (1≤p.threads.length) && decide (p.threads.length≤4)))))
/-- all of a program -/
def allF (p:Gp):Except Fl (List Sc):=
 if checkP p=false then .error ⟨9,0,0⟩
 else if sizesOk p=false then .error ⟨2,0,0⟩
 else
  match contF p.conts 0 p.conts with
  | some f=>.error f
  | none=>thrsF p.conts p.threads
def pgF (p:Gp):Fl:=
 match allF p with
 | .error f=>f
 | .ok _=>Fl.no
def aloneP (p:Gp) (l:List Gs):Gp:=⟨p.pool,p.conts,[l]⟩
/-- the first fault of the threads alone -/
def wantF (p:Gp):List (List Gs)→Fl
 | []=>Fl.no
 | l::r=>if pgF (aloneP p l)=Fl.no then wantF p r else pgF (aloneP p l)
theorem exF_err : ∀ (n : Nat) (s : Sc) (l : List Gx), gSizeL l ≤ n → ∀ f, exFL s l = some f → f.err ≠ 0
  | 0, s, l, hn, f, h => by
    cases l with
    | nil => unfold exFL at h; cases h
    | cons x l => have h1 : 1 ≤ gSize x := by cases x; unfold gSize; omega
                  unfold gSizeL at hn; omega
  | n + 1, s, l, hn, f, h => by
    cases l with
    | nil => unfold exFL at h; cases h
    | cons x l =>
      have e : exFL s (x :: l) = match xkF s x with | some f => some f | none => exFL s l := by
        conv => lhs; unfold exFL
        rfl
      have e2 : gSizeL (x :: l) = gSize x + gSizeL l := by conv => lhs; unfold gSizeL
      rw [e] at h
      rw [e2] at hn
      obtain ⟨k, o, m, nm, li, co, kids⟩ := x
      have e3 : gSize (.mk k o m nm li co kids) = gSizeL kids + 1 := by conv => lhs; unfold gSize
      have e4 : xkF s (.mk k o m nm li co kids) = if (k = 2 ∧ told s nm ≠ 1) ∨ (k = 3 ∧ told s nm ≠ 2) then some ⟨6, li, co⟩ else exFL s kids := by
        conv => lhs; unfold xkF
      rw [e3] at hn
      rw [e4] at h
      by_cases hc : (k = 2 ∧ told s nm ≠ 1) ∨ (k = 3 ∧ told s nm ≠ 2)
      · rw [if_pos hc] at h
        simp only [Option.some.injEq] at h
        rw [← h]
        show (6 : Int) ≠ 0
        decide
      · rw [if_neg hc] at h
        cases hk : exFL s kids with
        | some g =>
          rw [hk] at h
          simp only [Option.some.injEq] at h
          rw [← h]
          exact exF_err n s kids (by omega) g hk
        | none =>
          rw [hk] at h
          exact exF_err n s l (by omega) f h
theorem err_of {er li co:Int} {f:Fl} {α:Type} (h:(.error ⟨er,li,co⟩:Except Fl α)=.error f) (he:er≠0):f.err≠0:=by
 simp only [Except.error.injEq] at h
 rw [←h];exact he
theorem tellF_err {cs:List Gc} {s:Sc} {k sz l c:Int} {nm:List UInt8} {f:Fl} (h:tellF cs s k sz l c nm=.error f):f.err≠0:=by
 unfold tellF at h
 split at h
 ·exact err_of h (by decide)
 ·split at h
  ·split at h
   ·exact err_of h (by decide)
   ·cases h
  ·split at h
   ·exact err_of h (by decide)
   ·split at h
    ·exact err_of h (by decide)
    ·cases h
theorem callF_err {cs:List Gc} {s:Sc} {op l c:Int} {val into cont:List UInt8} {f:Fl} (h:clF cs s op l c val into cont=.error f):f.err≠0:=by
 unfold clF at h
 split at h
 ·exact err_of h (by decide)
 ·split at h
  ·exact err_of h (by decide)
  ·split at h
   ·exact err_of h (by decide)
   ·split at h
    ·exact err_of h (by decide)
    ·cases h
theorem stF_err {cs:List Gc} {s:Sc} {x:Gs} {f:Fl} (h:stF cs s x=.error f):f.err≠0:=by
 obtain ⟨k,nm,sz,op,val,into,cont,xs,thn,els,l,c⟩:=x
 have e:stF cs s (.mk k nm sz op val into cont xs thn els l c)=match exFL s xs with
   | some f=>.error f
   | none=>
    if k=1∨k=2 then tellF cs s k sz l c nm
    else if k=3 then (if told s nm≠1 then .error ⟨6,l,c⟩ else .ok s)
    else if k=4 then (if told s nm≠2 then .error ⟨6,l,c⟩ else .ok s)
    else if k=9 then clF cs s op l c val into cont
    else .ok s:=rfl
 rw [e] at h
 cases hx:exFL s xs with
 | some g=>
  rw [hx] at h
  simp only [Except.error.injEq] at h
  rw [←h]
  exact exF_err _ s xs (Nat.le_refl _) g hx
 | none=>
  rw [hx] at h
  dsimp only at h
  split at h
  ·exact tellF_err h
  ·split at h
   ·split at h
    ·exact err_of h (by decide)
    ·cases h
   ·split at h
    ·split at h
     ·exact err_of h (by decide)
     ·cases h
    ·split at h
     ·exact callF_err h
     ·cases h
theorem foldF_err {cs:List Gc}:∀ {l:List Gs} {s:Sc} {f:Fl},foldF cs s l=.error f→f.err≠0
 | [],s,f,h=>by unfold foldF at h;cases h
 | x::l,s,f,h=>by
  have e:foldF cs s (x::l)=(match stF cs s x with | .error f=>(.error f:Except Fl Sc) | .ok s'=>foldF cs s' l):=rfl
  rw [e] at h
  cases hs:stF cs s x with
  | error g=>
   rw [hs] at h
   simp only [Except.error.injEq] at h
   rw [←h]
   exact stF_err hs
  | ok s'=>
   rw [hs] at h
   exact foldF_err h
theorem contF_err {cs:List Gc}:∀ {l:List Gc} {i:Nat} {f:Fl},contF cs i l=some f→f.err≠0
 | [],i,f,h=>by unfold contF at h;cases h
 | c::l,i,f,h=>by
  unfold contF at h
  split at h
  ·simp only [Option.some.injEq] at h
   rw [←h]
   show (8:Int)≠0
   decide
  ·exact contF_err h
theorem Fl.ne_no {f:Fl} (h:f.err≠0):f≠Fl.no:=fun e=>h (by rw [e];rfl)
theorem checkP_one {p:Gp} {l:List Gs} (h:checkP p=true) (hl:l∈p.threads):checkP (aloneP p l)=true:=by
 unfold checkP aloneP at *
 simp only [Bool.and_eq_true,List.all_cons,List.all_nil,Bool.and_true] at h ⊢
 exact ⟨h.1,h.2.1,List.all_eq_true.1 h.2.2 l hl⟩
theorem sizes_one {p:Gp} {l:List Gs} (h1:1≤p.threads.length) (h4:p.threads.length≤4):sizesOk (aloneP p l)=sizesOk p:=by
 unfold sizesOk aloneP
 simp only [List.length_singleton,decide_eq_true (show 1≤1 from Nat.le_refl 1),decide_eq_true (show (1:Nat)≤4 by omega),decide_eq_true h1,decide_eq_true h4]
/-- what a thread alone comes to, where the program as such is right -/
theorem allF_one {p:Gp} {l:List Gs} (h1:1≤p.threads.length) (h4:p.threads.length≤4) (hc:checkP p=true) (hs:sizesOk p=true) (hd:contF p.conts 0 p.conts=none) (hl:l∈p.threads):
  allF (aloneP p l)=match thrF p.conts l with | .error f=>.error f | .ok s=>.ok [s]:=by
 unfold allF
 rw [checkP_one hc hl,if_neg (by decide),sizes_one h1 h4,hs,if_neg (by decide)]
 show (match contF p.conts 0 p.conts with | some f=>_ | none=>_)=_
 rw [hd]
 show thrsF p.conts [l]=_
 unfold thrsF
 cases thrF p.conts l with
 | error f=>rfl
 | ok s=>rfl
theorem want_thrs {p:Gp} (h1:1≤p.threads.length) (h4:p.threads.length≤4) (hc:checkP p=true) (hs:sizesOk p=true) (hd:contF p.conts 0 p.conts=none):
  ∀ r:List (List Gs),(∀ l∈r,l∈p.threads)→wantF p r=match thrsF p.conts r with | .error f=>f | .ok _=>Fl.no
 | [],_=>rfl
 | l::r,hr=>by
  have ih:=want_thrs h1 h4 hc hs hd r fun x hx=>hr x (by simp [hx])
  have ho:=allF_one h1 h4 hc hs hd (hr l (by simp))
  unfold wantF thrsF pgF
  rw [ho]
  cases ht:thrF p.conts l with
  | error f=>
   have hf:f≠Fl.no:=Fl.ne_no (foldF_err ht)
   show (if f=Fl.no then _ else f)=f
   rw [if_neg hf]
  | ok s=>
   show (if Fl.no=Fl.no then wantF p r else Fl.no)=_
   rw [if_pos rfl,ih]
   cases thrsF p.conts r with
   | error f=>rfl
   | ok q=>rfl
/-- a program is right exactly if each of its threads is, alone; its first fault is theirs -/
theorem want_prog {p:Gp} (h1:1≤p.threads.length) (h4:p.threads.length≤4) (h9:(pgF p).err≠9):wantF p p.threads=pgF p:=by
 have hc:checkP p=true:=by
  cases h:checkP p with
  | true=>rfl
  | false=>exact absurd (by unfold pgF allF;rw [h];rfl) h9
 obtain ⟨l,r,hlr⟩:∃ l r,p.threads=l::r:=by
  cases h:p.threads with
  | nil=>rw [h] at h1;simp at h1
  | cons l r=>exact ⟨l,r,rfl⟩
 have hl:l∈p.threads:=by rw [hlr];simp
 have one:∀ f:Fl,f.err≠0→pgF p=f→pgF (aloneP p l)=f→wantF p p.threads=pgF p:=fun f hf e1 e2=>by
  rw [e1,hlr]
  unfold wantF
  rw [e2,if_neg (Fl.ne_no hf)]
 cases hs:sizesOk p with
 | false=>
  refine one ⟨2,0,0⟩ (by decide) ?_ ?_
  ·unfold pgF allF;rw [hc,if_neg (by decide),hs];rfl
  ·unfold pgF allF;rw [checkP_one hc hl,if_neg (by decide),sizes_one h1 h4,hs];rfl
 | true=>
  cases hd:contF p.conts 0 p.conts with
  | some f=>
   refine one f (contF_err hd) ?_ ?_
   ·unfold pgF allF;rw [hc,if_neg (by decide),hs,if_neg (by decide),hd]
   ·unfold pgF allF
    rw [checkP_one hc hl,if_neg (by decide),sizes_one h1 h4,hs,if_neg (by decide)]
    show (match (match contF p.conts 0 p.conts with | some f=>Except.error f | none=>thrsF p.conts [l]) with | .error f=>f | .ok _=>Fl.no)=f
    rw [hd]
  | none=>
   rw [want_thrs h1 h4 hc hs hd p.threads fun _ h=>h]
   unfold pgF allF
   rw [hc,if_neg (by decide),hs,if_neg (by decide),hd]
/-- what was told by each thread -/
theorem thrsF_get {cs:List Gc}:∀ {r:List (List Gs)} {q:List Sc},thrsF cs r=.ok q→q.length=r.length∧∀ i (h:i<r.length) (h':i<q.length),thrF cs r[i]=.ok q[i]
 | [],q,h=>by cases h;exact ⟨rfl,fun i h=>absurd h (by simp)⟩
 | l::r,q,h=>by
  unfold thrsF at h
  split at h
  ·cases h
  ·rename_i s hs
   split at h
   ·cases h
   ·rename_i q2 hq
    cases h
    obtain ⟨h1,h2⟩:=thrsF_get hq
    refine ⟨by simp [h1],fun i hi hi'=>?_⟩
    cases i with
    | zero=>exact hs
    | succ i=>exact h2 i (by simpa using hi) (by simpa using hi')
end Go.Proofs.YtknnmidnodeanaaGreatDoor
