/- Joined texts of this work: Sa5, Own3, Own4. -/
import Derived.Test.YtomlffobbkcmdaaGreatDoorJq18
import Derived.Test.YtomlffobbkcmdaaGreatDoorJq17
import Derived.Test.YtomlffobbkcmdaaGreatDoorJq10
/-
  Package parse: block: a chain of statements.
-/
namespace Go.Proofs.YtomlffobbkcmdaaGreatDoor
open Go Go.RowKit Own
open Go.Lib (hid)
theorem st_len {w:World} {S:Nat→Prop} {vs:List Value} {x:St} (h:StAt w S vs x):vs.length=12:=by
 obtain ⟨_,_,_,_,_,_,_,_,_,_,_,_,_,_,_,_,_,_,rfl⟩:=st_form h
 rfl
theorem st_cells {w:World} {S:Nat→Prop} {vs:List Value} {x:St} (h:StAt w S vs x):∀ u∈vs,u.oneCell'=true:=by
 obtain ⟨_,_,_,_,_,_,_,_,_,_,_,_,_,_,_,_,_,_,rfl⟩:=st_form h
 simp [Value.oneCell']
/-- the statements of a row, one behind the other -/
theorem sts_of_row {w:World} {S:Nat→Prop} {g:Nat} (hS:S g):∀ (l:List St) (cs:List (List Value)) (i:Nat),cs.length=l.length→(∀ j (h:j<cs.length) (h':j<l.length),StAt w S cs[j] l[j])→(∀ j u,cs.flatten[j]?=some u→w.cell? ⟨g,i * 12+j,none⟩=some u)→StsAt w S (some ⟨g,0,none⟩) i l
 | [],_,_,_,_,_=>by unfold StsAt;trivial
 | s::l,[],_,h,_,_=>by simp at h
 | s::l,c::cs,i,hl,hst,hc=>by
  unfold StsAt
  have h0:=hst 0 (by simp) (by simp)
  have h12:=st_len h0
  simp only [List.getElem_cons_zero] at h0 h12
  refine ⟨⟨g,0,c,rfl,hS,fun j v hj=>?_,h0⟩,sts_of_row hS l cs (i+1) (by simpa using hl) (fun j h h'=>hst (j+1) (by simpa using h) (by simpa using h')) fun j u hj=>?_⟩
  ·have hlt:j<c.length:=(List.getElem?_eq_some_iff.1 hj).1
   rw [Nat.zero_add]
   exact hc j v (by rw [List.flatten_cons,List.getElem?_append_left hlt];exact hj)
  ·have:=hc (12+j) u (by rw [List.flatten_cons,List.getElem?_append_right (by omega),h12,Nat.add_sub_cancel_left];exact hj)
   rw [show (i+1) * 12+j=i * 12+(12+j) by omega]
   exact this
theorem rowS_keep {E:Nat→Prop} {w w':World} {base size n:Nat} {e:TypeId} {v:Value} {xs:List Value} (h:w.ownsRow base e size v n xs) (k:KeepBut E w w') (hE:∀ b,v.ownBlock=some b→¬E b):w'.ownsRow base e size v n xs:=by
 refine ⟨h.1,?_⟩
 rcases h.2 with h | ⟨g,cap,cur,h1,h2,h3,h4⟩
 ·exact .inl h
 ·exact .inr ⟨g,cap,cur,h1,h2,k.blkE h3 (hE g (by rw [h1];rfl)),h4⟩
theorem rowS_lt {w:World} {base size n b:Nat} {e:TypeId} {v:Value} {xs:List Value} (h:w.ownsRow base e size v n xs) (hb:v.ownBlock=some b):b<w.heap.size:=by
 rcases h.2 with ⟨rfl,-⟩ | ⟨g,cap,cur,rfl,h2,h3,h4⟩
 ·cases hb
 ·simp only [Value.ownBlock,Option.some.injEq] at hb
  subst hb
  exact (Array.getElem?_eq_some_iff.1 h3).1
theorem rowS_some {w:World} {base size n:Nat} {e:TypeId} {v:Value} {xs:List Value} (h:w.ownsRow base e size v n xs):∃ p cap,v=.slice p n cap∧(n=0∨∃ g,p=some ⟨g,0,none⟩∧∀ j u,xs[j]?=some u→w.cell? ⟨g,j,none⟩=some u):=by
 rcases h.2 with ⟨rfl,h0⟩ | ⟨g,cap,cur,h1,h2,h3,h4,h5,h6,h7⟩
 ·subst h0
  exact ⟨none,0,rfl,.inl rfl⟩
 ·refine ⟨_,cap,h1,.inr ⟨g,rfl,fun j u hj=>blk_cell h3 ?_⟩⟩
  rw [←h7,List.getElem?_take] at hj
  split at hj
  ·simpa using hj
  ·cases hj
/-- statements that are read one after the other, up to the sign that ends them -/
def ChainS (P:List Item→St→List Item→Prop):List St→List Item→List Item→Prop
 | [],ts,r=>headIs ts [125]=true∧r=ts.tail
 | s::l,ts,r=>headIs ts [125]=false∧∃ m,P ts s m∧m.length<ts.length∧ChainS P l m r
/-- what lies in memory when some statements of a block have been read -/
structure BlockAt (P:List Item→St→List Item→Prop) (l:List St) (r:List Item) (w wr:World) (R el ec:Nat) (v:Value) (dn rest:List St) (ts:List Item) (cs:List (List Value)):Prop where
 all:l=dn++rest
 len:cs.length=dn.length
 row:wr.ownsRow 0 TSm 12 v dn.length cs.flatten
 st:∀ j (h:j<cs.length) (h':j<dn.length),StAt wr (fun b=>w.heap.size≤b∧v.ownBlock≠some b) cs[j] dn[j]
 new:∀ b,v.ownBlock=some b→w.heap.size≤b
 chain:ChainS P rest ts r
 rd:ReaderAt wr R ts el ec
 keep:KeepBut (fun b=>b=R) w wr
theorem BlockAt.step {P:List Item→St→List Item→Prop} {l:List St} {r:List Item} {w wr W1 W2 w':World} {R el ec:Nat} {v v':Value} {dn rest:List St} {ts m:List Item} {cs:List (List Value)} {s:St} {vs:List Value} (h:BlockAt P l r w wr R el ec v dn (s::rest) ts cs) (hR:R<w.heap.size)
  (hst:StAt W1 (fun b=>wr.heap.size≤b) vs s) (hr:ReaderAt W1 R m el ec) (hk:KeepBut (fun b=>b=R) wr W1) (k2:KeepBut (fun _=>False) W1 W2) (hrow:w'.ownsRow 0 TSm 12 v' (dn.length+1) (cs.flatten++vs)) (k3:KeepBut (fun b=>v.ownBlock=some b) W2 w') (ho:v'.ownBlock=v.ownBlock∨v'.ownBlock=some W2.heap.size) (hch:ChainS P rest m r):
  BlockAt P l r w w' R el ec v' (dn++[s]) rest m (cs++[vs]):=by
 have z0:=h.keep.size
 have z1:=hk.size
 have z2:=k2.size
 have z3:=k3.size
 have lv:∀ b,v.ownBlock=some b→b<wr.heap.size:=fun b=>rowS_lt h.row
 have lv':∀ b,v'.ownBlock=some b→v.ownBlock=some b∨W2.heap.size=b:=fun b e=>ho.imp (fun e1=>by rw [←e1];exact e) fun e1=>by rw [e1] at e;exact Option.some.inj e
 have kall:KeepBut (fun b=>b=R∨v.ownBlock=some b) wr w':=((hk.mono fun _ e=>.inl e).trans (k2.mono fun _ e=>e.elim)).trans (k3.mono fun _ e=>.inr e)
 have k23:KeepBut (fun b=>v.ownBlock=some b) W1 w':=(k2.mono fun _ e=>e.elim).trans k3
 have hall:=h.all
 have hlen:=h.len
 refine ⟨by rw [hall];simp,by simp [hlen],?_,?_,?_,hch,?_,?_⟩
 ·rw [List.flatten_append,List.flatten_singleton,List.length_append,List.length_singleton]
  exact hrow
 ·intro j hj hj'
  by_cases hji:j<cs.length
  ·rw [List.getElem_append_left hji,List.getElem_append_left (by omega)]
   refine (h.st j hji (by omega)).inHeap.keepS fun b o u hb hc=>?_
   obtain ⟨⟨a1,a2⟩,a3⟩:=hb
   refine ⟨kall.cell hc fun e=>e.elim (fun e=>by have e:b=R:=e;have a1:w.heap.size≤b:=a1;omega) a2,a1,fun e=>?_⟩
   rcases lv' b e with e | e
   ·exact a2 e
   ·omega
  ·have hjl:j=cs.length:=by rw [List.length_append] at hj;simp at hj;omega
   subst hjl
   rw [List.getElem_append_right (Nat.le_refl _),List.getElem_append_right (by omega)]
   simp only [hlen,Nat.sub_self,List.getElem_cons_zero]
   refine hst.inHeap.keepS fun b o u hb hc=>?_
   obtain ⟨a1,a2⟩:=hb
   have a1:wr.heap.size≤b:=a1
   refine ⟨k23.cell hc fun e=>?_,by omega,fun e=>?_⟩
   ·have:=lv b e;omega
   ·rcases lv' b e with e | e
    ·have:=lv b e;omega
    ·omega
 ·intro b e
  rcases lv' b e with e | e
  ·exact h.new b e
  ·omega
 ·refine (hr.keep k2 fun _ _ e=>e).keep k3 fun b hb e=>?_
  have:=h.new b e
  omega
 ·exact h.keep.newM kall fun b e=>e.elim .inl fun e=>.inr (h.new b e)
set_option maxRecDepth 4000 in
set_option maxHeartbeats 16000000 in
theorem block_reads (R el ec : Nat) (its r : List Item) (l : List St) (P : List Item → St → List Item → Prop) (hP : ∀ ts s m, P ts s m → ReadsS R el ec ts m s) (h123 : headIs its [123] = true) (hch : ChainS P l its.tail r) (hlen : l.length ≤ 1000000) (w : World) (hr : ReaderAt w R its el ec) :
    Calls Tryz.prog 80 #[rdV R] w fun e w' => ∃ p cap, e = .returned (.slice p l.length cap) ∧ StsAt w' (fun b => w.heap.size ≤ b) p 0 l ∧ ReaderAt w' R r el ec ∧ KeepBut (fun b => b = R) w w' := by
  have hm : mustT [[123]] its = some its.tail := by unfold mustT; rw [if_pos h123]; rfl
  have HMU := Lib.hid (must1 hr [123] its.tail hm)
  have HRW := Lib.hid hr.lt
  have HP := Lib.hid hP; have HCH := Lib.hid hch; have HLEN := Lib.hid hlen
  clear hr h123 hm hP hch hlen
  go_enter Tryz.func80, Tryz.ntmps80
  go_wp2_with fail
  go_at_call 76
  refine HMU.out.mono ?_
  rintro e W1 ⟨rfl, hr1, hk1⟩
  have HR1 := Lib.hid hr1; have HK1 := Lib.hid hk1
  clear hr1 hk1
  go_wp2_with fail
  go_loopw [3] (fun v3 wr => ∃ dn rest ts cs, BlockAt P l r w wr R el ec v3 dn rest ts cs) (fun _ wr => leftOf R wr)
  case atStart => exact ⟨[], l, its.tail, [], rfl, rfl, World.ownsRow_nil _ _ _ _, fun j h => absurd h (Nat.not_lt_zero _), fun b e => by simp [Value.ownBlock] at e, HCH.out, HR1.out, HK1.out⟩
  case round =>
    obtain ⟨dn, rest, ts, cs, hat⟩ := hrel
    have HAT := Lib.hid hat
    have HM := Lib.hid (may_any wr R ts el ec hat.rd [125])
    have HLF := Lib.hid (leftOf_at hat.rd)
    clear hat
    cases rest with
    | nil =>
      obtain ⟨h1, h2⟩ := HAT.out.chain
      rw [h1, if_pos rfl] at HM
      have H2 := Lib.hid h2
      clear h1 h2
      go_wp2_with fail
      go_at_call 101
      refine HM.out.mono ?_
      rintro e W2 ⟨rfl, hr2, hk2⟩
      have HR2 := Lib.hid hr2; have HK2 := Lib.hid hk2
      clear hr2 hk2
      obtain ⟨p, cap, hv, hc⟩ := rowS_some HAT.out.row
      have HC := Lib.hid hc
      have hdl : dn = l := by have := HAT.out.all; rw [List.append_nil] at this; exact this.symm
      subst hdl
      have HV := Lib.hid hv
      subst hv
      clear hc
      go_wp2_with fail
      go_ret
      refine ⟨p, cap, rfl, ?_, by rw [H2.out]; exact HR2.out, HAT.out.keep.trans HK2.out⟩
      have hnR : ∀ b, w.heap.size ≤ b → ¬ b = R := fun b hb e => by have := HRW.out; omega
      rcases HC.out with h0 | ⟨g, rfl, hc⟩
      · rw [List.eq_nil_of_length_eq_zero h0]
        unfold StsAt; trivial
      · have hg : w.heap.size ≤ g := HAT.out.new g rfl
        exact (sts_of_row hg dn cs 0 HAT.out.len (fun j h h' => (HAT.out.st j h h').mono fun b hb => hb.1) (fun j u hj => by rw [Nat.zero_mul, Nat.zero_add]; exact hc j u hj)).keep HK2.out fun b hb e => hnR b hb e
    | cons s rest =>
      obtain ⟨h1, m, h2, h3, h4⟩ := HAT.out.chain
      rw [h1, if_neg Bool.false_ne_true] at HM
      have HS := Lib.hid (HP.out ts s m h2)
      have H3 := Lib.hid h3; have H4 := Lib.hid h4
      clear h1 h2 h3 h4
      go_wp2_with fail
      go_at_call 101
      refine HM.out.mono ?_
      rintro e W2 ⟨rfl, hr2, hk2⟩
      have HST := Lib.hid (HS.out W2 hr2)
      have HK2 := Lib.hid hk2
      clear hr2 hk2
      go_wp2_with fail
      go_at_call 103
      refine HST.out.mono ?_
      rintro e W3 ⟨vs, rfl, hst, hr3, hk3⟩
      have hcl := st_cells hst
      obtain ⟨s0, s1, s2, s3, s4, s5, s6, p1, m1, c1, p2, m2, c2, p3, m3, c3, s10, s11, rfl⟩ := st_form hst
      obtain ⟨W4, G, hW4, hG, hbG, hkG, hsG⟩ := fresh_block W3 (.cells #[.int .i64 s0, .string s1, .int .i64 s2, .int .i64 s3, .string s4, .string s5, .string s6, .slice p1 m1 c1, .slice p2 m2 c2, .slice p3 m3 c3, .int .i64 s10, .int .i64 s11] TSm)
      have hkk := HK2.out.trans hk3
      have HX := Lib.hid (hst.mono (S' := fun b => wr.heap.size ≤ b) fun b hb => by have hb : W2.heap.size ≤ b := hb; have := HK2.out.size; omega)
      have HR3 := Lib.hid hr3; have HK3 := Lib.hid hkk; have HKG := Lib.hid hkG; have HBG := Lib.hid hbG; have HCL := Lib.hid hcl
      have HROW := Lib.hid (rowS_keep (rowS_keep HAT.out.row hkk fun b hb e => by have := HAT.out.new b hb; have e : b = R := e; have := HRW.out; omega) hkG fun _ _ e => e)
      have HW4 := Lib.hid hW4; have HE4 := Lib.hid hG
      have HLL := Lib.hid (show dn.length + 1 ≤ 1000000 by have h := HAT.out.all; have h2 := HLEN.out; rw [h] at h2; simp only [List.length_append, List.length_cons] at h2; omega)
      clear hst hr3 hk3 hkk hkG hbG hsG hcl hW4 hG
      go_wp2_with (at_builtin; rw [← HW4.out, ← HE4.out]
                   refine wpList_appendV rfl (.tmp 10) (.tmp 13) 56 rfl TSm (.agg #[.int .i64 0, .string ⟨#[]⟩, .int .i64 0, .int .i64 0, .string ⟨#[]⟩, .string ⟨#[]⟩, .string ⟨#[]⟩, .slice none 0 0, .slice none 0 0, .slice none 0 0, .int .i64 0, .int .i64 0]) 12 176 (by kernel_rfl) (by kernel_rfl) rfl (by decide) u3 dn.length cs.flatten HROW.out G 1 [.int .i64 s0, .string s1, .int .i64 s2, .int .i64 s3, .string s4, .string s5, .string s6, .slice p1 m1 c1, .slice p2 m2 c2, .slice p3 m3 c3, .int .i64 s10, .int .i64 s11] rfl HBG.out HCL.out (by unfold maxLen; have := HLL.out; omega) (by have := HLL.out; omega) rfl rfl ?_
                   intro v3' w8 hr8 hk8 ho8
                   have HR8 := Lib.hid hr8; have HK8 := Lib.hid hk8; have HO8 := Lib.hid ho8
                   clear hr8 hk8 ho8
                   go_wp2_with fail)
      have hnext := HAT.out.step HRW.out HX.out HR3.out HK3.out HKG.out HR8.out HK8.out HO8.out H4.out
      exact ⟨⟨_, _, _, _, hnext⟩, by rw [leftOf_at hnext.rd, HLF.out]; exact H3.out⟩
/-
  A region that draws its order, with two blocks and a row of the caller's own set aside. No program in sight.
-/
theorem row_same {w w':World} {base size:Nat} {T:TypeId} {v:Value} {n:Nat} {xs:List Value} (h:w.ownsRow base T size v n xs) (hb:∀ b,v.ownBlock=some b→w'.heap[b]?=w.heap[b]?):w'.ownsRow base T size v n xs:=by
 obtain ⟨h0,h1 | ⟨g,cap,cur,h1,h2,h3,h4⟩⟩:=h
 ·exact ⟨h0,.inl h1⟩
 ·exact ⟨h0,.inr ⟨g,cap,cur,h1,h2,(hb g (by rw [h1];rfl)).trans h3,h4⟩⟩
def aside3 (n m1 m2:Nat) (x1 x2:Obj) (base:Nat) (T:TypeId) (size:Nat) (v:Value) (k:Nat) (xs:List Value) (j:Nat) (w:World):Prop:=
 if j=n then w.heap[m1]?=some x1 else if j=n+1 then w.heap[m2]?=some x2 else if j=n+2 then w.ownsRow base T size v k xs else True
def aside3Fp (n m1 m2:Nat) (v:Value) (j b:Nat):Prop:=(j=n∧b=m1)∨(j=n+1∧b=m2)∨(j=n+2∧v.ownBlock=some b)
theorem wp_own3 {P:Program} {l:List Oper} {Q:Exit→Act→World→Prop} {id:Nat} {a:Act} {w:World} (hm:P.follows .mixedOrders=true)
  (m1 m2:Nat) (x1 x2:Obj) (hx1:w.heap[m1]?=some x1) (hx2:w.heap[m2]?=some x2) (hne:m1<m2) (base:Nat) (T:TypeId) (size:Nat) (v:Value) (k:Nat) (xs:List Value) (hrow:w.ownsRow base T size v k xs) (hlt:m2<base)
  (D av ea:Nat→List Nat) (keep:List Nat) (hok:okB l.toArray D av ea keep=true) (sp:Nat→Option Loud)
  (hlex:Lex P l.toArray w.drew (fun b=>b=m1∨b=m2∨v.ownBlock=some b) sp av ea (fun a F Fp=>Done w.drew (fun b=>b=m1∨b=m2∨v.ownBlock=some b) Q keep a F Fp) l 0 a (aside3 l.length m1 m2 x1 x2 base T size v k xs) (aside3Fp l.length m1 m2 v)):(Code.region id l.toArray true).wp P Q a w:=by
 have lt:∀ {m:Nat} {x:Obj},w.heap[m]?=some x→m<w.heap.size:=fun h=>(Array.getElem?_eq_some_iff.1 h).1
 refine wp_own_lit hm D av ea keep hok sp _ _ _ ?_ ?_ ?_ ?_ hlex
 ·intro j hj
  have hj':j<l.length:=by simpa using hj
  funext w';unfold aside3;rw [if_neg (by omega),if_neg (by omega),if_neg (by omega)]
 ·intro j hj
  have hj':j<l.length:=by simpa using hj
  funext b;unfold aside3Fp
  exact propext ⟨fun h=>by rcases h with h | h | h <;> omega,fun h=>h.elim⟩
 ·intro j hj
  refine ⟨fun w1 w2 _ _ _ h hk=>?_,?_,fun b hb=>?_⟩
  ·unfold aside3 at hk ⊢
   by_cases e1:j=l.length
   ·rw [if_pos e1] at hk ⊢
    rw [←hk];exact h m1 (.inl ⟨e1,rfl⟩)
   ·rw [if_neg e1] at hk ⊢
    by_cases e2:j=l.length+1
    ·rw [if_pos e2] at hk ⊢
     rw [←hk];exact h m2 (.inr (.inl ⟨e2,rfl⟩))
    ·rw [if_neg e2] at hk ⊢
     by_cases e3:j=l.length+2
     ·rw [if_pos e3] at hk ⊢
      exact row_same hk fun b hb=>h b (.inr (.inr ⟨e3,hb⟩))
     ·rw [if_neg e3];trivial
  ·unfold aside3
   by_cases e1:j=l.length
   ·rw [if_pos e1];exact hx1
   ·rw [if_neg e1]
    by_cases e2:j=l.length+1
    ·rw [if_pos e2];exact hx2
    ·rw [if_neg e2]
     by_cases e3:j=l.length+2
     ·rw [if_pos e3];exact hrow
     ·rw [if_neg e3];trivial
  ·rcases hb with ⟨_,hb⟩ | ⟨_,hb⟩ | ⟨_,hb⟩
   ·exact ⟨by rw [hb];exact lt hx1,.inl hb⟩
   ·exact ⟨by rw [hb];exact lt hx2,.inr (.inl hb)⟩
   ·exact ⟨(hrow.lt b hb).2,.inr (.inr hb)⟩
 ·intro i j _ _ hij b h1 h2
  rcases h1 with ⟨a1,a2⟩ | ⟨a1,a2⟩ | ⟨a1,a2⟩ <;> rcases h2 with ⟨b1,b2⟩ | ⟨b1,b2⟩ | ⟨b1,b2⟩
  ·omega
  ·omega
  ·have:=(hrow.lt b b2).1;omega
  ·omega
  ·omega
  ·have:=(hrow.lt b b2).1;omega
  ·have:=(hrow.lt b a2).1;omega
  ·have:=(hrow.lt b a2).1;omega
  ·omega
/-- a row of one's own, behind an append -/
def sRow (base:Nat) (T:TypeId) (size n:Nat) (xs:List Value):Loud:={ val:=fun _ g=>.slice g.p n g.c,fp:=fun _ g=>Of g.p,post:=fun _ g w=>w.ownsRow base T size (.slice g.p n g.c) n xs }
theorem own_of {p:Option Addr} {n c b:Nat}:(Value.slice p n c).ownBlock=some b↔Of p b:=by
 cases p with
 | none=>exact ⟨fun h=>by simp [Value.ownBlock] at h,fun ⟨a,h,_⟩=>by cases h⟩
 | some a=>exact ⟨fun h=>⟨a,rfl,by simpa [Value.ownBlock] using h.symm⟩,fun ⟨a',h1,h2⟩=>by cases h1;rw [h2];rfl⟩
theorem loud_appendR {P:Program} {w0:World} {M:Nat→Prop} {o:Oper} {a:Act} {av ea:List Nat} {F:Nat→World→Prop} {Fp:Nat→Nat→Prop} (base:Nat) (T t:TypeId) (z:Value) (size bytes:Nat)
  (ht:P.underlying t=some (.slice T)) (hinfo:(P.info? T).map (fun i=>(i.zero,i.size,i.bytes))=some (some z,size,bytes)) (hzs:z.cells.size=size) (hsz:0<size)
  (x y:Operand) (ho:o.op=.call { callee:=.builtin .append,args:=#[x,y],argTypes:=#[t,t] }) (v:Value) (n:Nat) (xs:List Value) (b2:Nat) (news:List Value)
  (hx:a.eval x=v) (hy:a.eval y=.slice (some ⟨b2,0,none⟩) 1 1) (hl:news.length=size) (h1:∀ u∈news,u.oneCell'=true) (hn:n+1≤maxLen) (hb:(n+1) * bytes≤140737488355328) (hbase:base≤w0.heap.size)
  (j1:Nat) (hj1a:j1∈av) (hj1e:j1∈ea) (hF1:∀ w,F j1 w→w.ownsRow base T size v n xs) (hp1:∀ b,v.ownBlock=some b→Fp j1 b)
  (j2:Nat) (hj2a:j2∈av) (hF2:∀ w,F j2 w→w.heap[b2]?=some (.cells news.toArray T (0,0))):LoudOk P w0 M o a (sRow base T size (n+1) (xs++news)) av ea F Fp:=by
 obtain ⟨i0,hi,hz,hsize,hby⟩:∃ i0,P.info? T=some i0∧i0.zero=some z∧i0.size=size∧i0.bytes=bytes:=by
  cases hi:P.info? T with
  | none=>rw [hi] at hinfo;cases hinfo
  | some i0=>
   rw [hi] at hinfo
   simp only [Option.map_some,Option.some.injEq,Prod.mk.injEq] at hinfo
   exact ⟨i0,rfl,hinfo.1,hinfo.2.1,hinfo.2.2⟩
 refine loud_run ⟨default,trivial⟩ (fun g _ w w' _ _ _ h k=>row_same k fun b hb=>h b (own_of.1 hb)) fun w hw hav _=>?_
 have hrow:=hF1 w (hav j1 hj1a).1
 have hsrc:=hF2 w (hav j2 hj2a).1
 obtain ⟨v',w',r1,r2,r3,-,r5⟩:=run_append_own_at (P:=P) (w:=w) base t o.type T i0 z size bytes ht hi hz hsize hby hzs hsz v n xs hrow ⟨b2,0,none⟩ 1 1 news (by rw [hl];omega)
  (fun j u hj=>by
   rw [add_off]
   exact blk_cell hsrc (by simpa using hj)) h1 hn hb (Nat.le_trans hbase hw.size)
 obtain ⟨p,c,rfl⟩:∃ p c,v'=.slice p (n+1) c:=by
  rcases r2.2 with ⟨rfl,h0⟩ | ⟨g,cap,cur,rfl,-⟩
  ·exact absurd h0 (by omega)
  ·exact ⟨_,_,rfl⟩
 refine ⟨w',{ p:=p,c:=c },trivial,.inl ?_,KeepBut.grown r3 fun b hb=>⟨j1,hj1e,hp1 b hb⟩,fun b hb=>⟨?_,(r2.lt b (own_of.2 hb)).2⟩,r2⟩
 ·unfold execOp
  simp only [ho,resolve,invoke,builtin,Sem.run_bind,Sem.run_pure,Result.andThen_ok,List.map_toArray,List.map_cons,List.map_nil,hx,hy,r1,sRow]
 ·have hb':=own_of (n:=n+1) (c:=c).2 hb
  rcases r5 with r5 | r5
  ·rw [r5] at hb';exact .inr ⟨j1,hj1e,hp1 b hb'⟩
  ·rw [r5] at hb'
   have:w.heap.size=b:=Option.some.inj hb'
   exact .inl (by omega)
section
variable {P : Program} {w0 : World} {M : Nat → Prop} {o : Oper} {a : Act} {av ea : List Nat} {F : Nat → World → Prop} {Fp : Nat → Nat → Prop}
/-- a store of the operation's value into a cell of block b -/
def sCellA (b i:Nat) (T:TypeId) (cs0:Array Value):Loud:={ val:=fun _ _=>undef,fp:=fun _ _ k=>k=b,post:=fun args _ w=>∀ v,args.getD 1 undef=v→w.heap[b]?=some (.cells (cs0.setIfInBounds i v) T (0,0)) }
theorem loud_cellA (b i:Nat) (T:TypeId) (cs0:Array Value) (v:Value) (hv:(argsOf o a).getD 1 undef=v) (hrun:∀ w u,w.cell? ⟨b,i,none⟩=some u→w.frozen? ⟨b,i,none⟩=false→(execOp a.eval o).run P w=.ok .skip (w.setCell ⟨b,i,none⟩ v))
  (j:Nat) (hja:j∈av) (hje:j∈ea) (hF:∀ w,F j w→w.heap[b]?=some (.cells cs0 T (0,0))) (hfp:Fp j b) (hi:i<cs0.size):LoudOk P w0 M o a (sCellA b i T cs0) av ea F Fp:=by
 refine loud_run ⟨default,trivial⟩ (fun g _ w w' _ _ _ h k u hu=>(h b rfl).trans (k u hu)) fun w _ hav _=>?_
 obtain ⟨hj,hb⟩:=hav j hja
 have hh:=hF w hj
 refine ⟨w.setCell ⟨b,i,none⟩ v,default,trivial,.inr ⟨hrun w _ (blk_cell hh (Array.getElem?_eq_getElem hi)) (by simp [World.frozen?,hh]),rfl⟩,KeepBut.setCell _ _ _ ⟨j,hje,hfp⟩,fun k hk=>⟨.inr ⟨j,hje,by rw [show k=b from hk];exact hfp⟩,?_⟩,fun u hu=>?_⟩
 ·rw [show k=b from hk]
  exact Nat.lt_of_lt_of_le (hb b hfp).1 (by simp [World.setCell])
 ·rw [hv] at hu
  rw [←hu]
  exact put1 hh v
/-- a new slice of one thing -/
def sOneV (E:TypeId) (cs:Array Value):Loud:={ val:=fun _ g=>.slice (some ⟨g.b,0,none⟩) 1 1,fp:=fun _ g k=>k=g.b,post:=fun _ g w=>w.heap[g.b]?=some (.cells cs E (0,0)) }
theorem loud_oneV (E:TypeId) (cs:Array Value) (hrun:∀ w,(execOp a.eval o).run P w=.ok (.value (.slice (some ⟨w.heap.size,0,none⟩) 1 1)) (w.alloc (.cells cs E))):LoudOk P w0 M o a (sOneV E cs) av ea F Fp:=
 loud_new (fun b=>.slice (some ⟨b,0,none⟩) 1 1) _ rfl (fun _ _=>rfl) (fun _ _ _=>Iff.rfl) (fun _ _ _=>Iff.rfl) hrun
end
/-
  append of a thread that has been read, to a row of threads of the caller's own, within a region that draws its order.
-/
/-- what block leaves -/
def sBlk (lo:Nat) (R el ec:Nat) (m:List Item) (l:List St):Loud:={ ok:=fun _ g=>lo≤g.b,val:=fun _ g=>.slice g.p l.length g.c,fp:=fun _ g k=>k=R∨(g.b≤k∧k<g.d),post:=fun _ g w=>StsAt w (fun b=>g.b≤b∧b<g.d) g.p 0 l∧ReaderAt w R m el ec }
/-- a row of threads, behind the append of one that has been read -/
def sThr (base:Nat) (T:TypeId) (n:Nat) (xs:List Value) (lo R el ec:Nat) (m:List Item) (l:List St):Loud:={ ok:=fun _ g=>lo≤g.b,val:=fun _ g=>.slice g.p (n+1) g.c,fp:=fun _ g k=>Of g.p k∨k=R∨(g.b≤k∧k<g.d),post:=fun _ g w=>ReaderAt w R m el ec∧(∀ k,Of g.p k→¬(g.b≤k∧k<g.d))∧∃ q c,w.ownsRow base T 1 (.slice g.p (n+1) g.c) (n+1) (xs++[.slice q l.length c])∧StsAt w (fun b=>g.b≤b∧b<g.d) q 0 l }
/-- a new slice of the one value of the operation -/
def sOneA (E:TypeId):Loud:={ val:=fun _ g=>.slice (some ⟨g.b,0,none⟩) 1 1,fp:=fun _ g k=>k=g.b,post:=fun args g w=>∀ u,args.getD 0 undef=u→w.heap[g.b]?=some (.cells #[u] E (0,0)) }
section
variable {P : Program} {w0 : World} {M : Nat → Prop} {o : Oper} {a : Act} {av ea : List Nat} {F : Nat → World → Prop} {Fp : Nat → Nat → Prop}
theorem one_arg {E:TypeId} {n:Nat} {x:Operand} {v:Value} (ho:o.op=.buildSlice E n #[(0,x)]) (hx:a.eval x=v):(argsOf o a).getD 0 undef=v:=by simp [argsOf,ho,Op.operands,hx]
theorem loud_oneA (E:TypeId) (u:Value) (hu:(argsOf o a).getD 0 undef=u) (hrun:∀ w,(execOp a.eval o).run P w=.ok (.value (.slice (some ⟨w.heap.size,0,none⟩) 1 1)) (w.alloc (.cells #[u] E))):LoudOk P w0 M o a (sOneA E) av ea F Fp:=by
 refine loud_run ⟨default,trivial⟩ (fun g _ w w' _ _ _ h k u hu=>(h g.b rfl).trans (k u hu)) fun w _ _ _=>?_
 refine ⟨w.alloc (.cells #[u] E),{ b:=w.heap.size },trivial,.inl (hrun w),KeepBut.alloc _ _ _,fun b hb=>?_,fun u' hu'=>?_⟩
 ·have hb:b=w.heap.size:=hb
  subst hb
  exact ⟨.inl (Nat.le_refl _),by simp⟩
 ·rw [hu] at hu'
  rw [←hu']
  exact heap_alloc_new w _
theorem StsAt.inHeap {w:World} {S:Nat→Prop} {p:Option Addr} {i:Nat} {l:List St} (h:StsAt w S p i l):StsAt w (fun b=>S b∧b<w.heap.size) p i l:=
 h.keepS fun _ _ _ hb hc=>⟨hc,hb,World.block_lt_of_cell? w _ hc⟩
theorem sts_same {w w':World} {S:Nat→Prop} {p:Option Addr} {l:List St} (h:StsAt w S p 0 l) (hb:∀ b,S b→w'.heap[b]?=w.heap[b]?):StsAt w' S p 0 l:=
 h.keepS fun b o v hS hc=>⟨by simpa [World.cell?,hb b hS] using hc,hS⟩
theorem loud_appendT (base lo:Nat) (T t:TypeId) (bytes:Nat) (ht:P.underlying t=some (.slice T)) (hinfo:(P.info? T).map (fun i=>(i.zero,i.size,i.bytes))=some (some (.slice none 0 0),1,bytes))
  (x y:Operand) (ho:o.op=.call { callee:=.builtin .append,args:=#[x,y],argTypes:=#[t,t] }) (v:Value) (n:Nat) (xs:List Value) (R el ec:Nat) (m:List Item) (l:List St) (b3 d3 b4 c3:Nat) (q3:Option Addr)
  (hx:a.eval x=v) (hy:a.eval y=.slice (some ⟨b4,0,none⟩) 1 1) (hn:n+1≤maxLen) (hb:(n+1) * bytes≤140737488355328) (hbase:base≤w0.heap.size) (hR:R<base) (hM:∀ b,b<R→¬M b) (hlo:lo≤b3)
  (j1:Nat) (hj1a:j1∈av) (hj1e:j1∈ea) (hF1:∀ w,F j1 w→w.ownsRow base T 1 v n xs) (hp1:∀ b,v.ownBlock=some b→Fp j1 b)
  (j3:Nat) (hj3a:j3∈av) (hj3e:j3∈ea) (hne:j3≠j1) (hF3:∀ w,F j3 w→StsAt w (fun b=>b3≤b∧b<d3) q3 0 l∧ReaderAt w R m el ec) (hp3:∀ b,(b=R∨(b3≤b∧b<d3))→Fp j3 b)
  (j4:Nat) (hj4a:j4∈av) (hF4:∀ w,F j4 w→w.heap[b4]?=some (.cells #[.slice q3 l.length c3] T (0,0))):LoudOk P w0 M o a (sThr base T n xs lo R el ec m l) av ea F Fp:=by
 obtain ⟨i0,hi,hz,hsize,hby⟩:∃ i0,P.info? T=some i0∧i0.zero=some (.slice none 0 0)∧i0.size=1∧i0.bytes=bytes:=by
  cases hi:P.info? T with
  | none=>rw [hi] at hinfo;cases hinfo
  | some i0=>
   rw [hi] at hinfo
   simp only [Option.map_some,Option.some.injEq,Prod.mk.injEq] at hinfo
   exact ⟨i0,rfl,hinfo.1,hinfo.2.1,hinfo.2.2⟩
 refine loud_run ⟨{ b:=lo },Nat.le_refl _⟩ (fun g _ w1 w2 k1 k2 hs h k=>?_) fun w hw hav hdis=>?_
 ·obtain ⟨h1,hno,q,c,h2,h3⟩:=k
  refine ⟨h1.same hs fun b hb=>?_,hno,q,c,row_same h2 fun b hb=>h b (.inl (own_of.1 hb)),sts_same h3 fun b hb=>h b (.inr (.inr hb))⟩
  by_cases e:b=R
  ·exact h b (.inr (.inl e))
  ·rw [k1.block b (by omega) (hM b (by omega)),k2.block b (by omega) (hM b (by omega))]
 ·have hrow:=hF1 w (hav j1 hj1a).1
  obtain ⟨hst,hrd⟩:=hF3 w (hav j3 hj3a).1
  have hsrc:=hF4 w (hav j4 hj4a).1
  obtain ⟨v',w',r1,r2,r3,-,r5⟩:=run_append_own_at (P:=P) (w:=w) base t o.type T i0 (.slice none 0 0) 1 bytes ht hi hz hsize hby rfl (by decide) v n xs hrow ⟨b4,0,none⟩ 1 1 [.slice q3 l.length c3] rfl
   (fun j u hj=>by
    rw [add_off]
    exact blk_cell hsrc (by simpa using hj)) (fun u hu=>by simp only [List.mem_singleton] at hu;subst hu;rfl) hn hb (Nat.le_trans hbase hw.size)
  obtain ⟨p,c,rfl⟩:∃ p c,v'=.slice p (n+1) c:=by
   rcases r2.2 with ⟨rfl,h0⟩ | ⟨g,cap,cur,rfl,-⟩
   ·exact absurd h0 (by omega)
   ·exact ⟨_,_,rfl⟩
  have kg:KeepBut (fun b=>v.ownBlock=some b) w w':=KeepBut.grown r3 fun b hb=>hb
  refine ⟨w',{ p:=p,c:=c,b:=b3,d:=d3 },hlo,.inl ?_,kg.mono fun b hb=>⟨j1,hj1e,hp1 b hb⟩,fun b hb=>?_,hrd.keep kg fun b hb e=>?_,fun k hk hkb=>?_,q3,c3,r2,sts_same hst fun b hb=>kg.block b ((hav j3 hj3a).2 b (hp3 b (.inr hb))).1 fun e=>hdis j3 hj3a j1 hj1a hne b (hp3 b (.inr hb)) (hp1 b e)⟩
  ·unfold execOp
   simp only [ho,resolve,invoke,builtin,Sem.run_bind,Sem.run_pure,Result.andThen_ok,List.map_toArray,List.map_cons,List.map_nil,hx,hy,r1,sThr]
  ·rcases hb with hb | hb
   ·refine ⟨?_,(r2.lt b (own_of.2 hb)).2⟩
    have hb':=own_of (n:=n+1) (c:=c).2 hb
    rcases r5 with r5 | r5
    ·rw [r5] at hb';exact .inr ⟨j1,hj1e,hp1 b hb'⟩
    ·rw [r5] at hb'
     have:w.heap.size=b:=Option.some.inj hb'
     exact .inl (by omega)
   ·exact ⟨.inr ⟨j3,hj3e,hp3 b hb⟩,Nat.lt_of_lt_of_le ((hav j3 hj3a).2 b (hp3 b hb)).1 kg.size⟩
  ·have:=(hrow.lt b e).1
   omega
  ·have hk2:=own_of (n:=n+1) (c:=c).2 hk
   rcases r5 with r5 | r5
   ·rw [r5] at hk2
    exact hdis j3 hj3a j1 hj1a hne k (hp3 k (.inr hkb)) (hp1 k hk2)
   ·rw [r5] at hk2
    have h1:w.heap.size=k:=Option.some.inj hk2
    have h2:=((hav j3 hj3a).2 k (hp3 k (.inr hkb))).1
    omega
end
end Go.Proofs.YtomlffobbkcmdaaGreatDoor
