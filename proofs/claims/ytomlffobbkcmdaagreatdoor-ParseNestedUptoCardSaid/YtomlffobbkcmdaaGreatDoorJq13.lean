/- Joined texts of this work: PcD, OwnIn, Lx6, Lx7, Places, Name17. -/
import Derived.Test.YtomlffobbkcmdaaGreatDoorJq12
import Derived.Test.YtomlffobbkcmdaaGreatDoorJq9
import Derived.RangeFuncNested
import Derived.OwnWalkIn
import Derived.Test.YtomlffobbkcmdaaGreatDoorJq8
import Derived.Laws.StructEq
import Derived.BigQuiet
import Derived.Deep.QuietTactic
import Derived.Deep.CutRange
import Derived.Laws.Strings2
import Derived.Deep.CutBlock
/-
  Package parse: slices.ContainsFunc over expressions, by may's closure (whatever may says of each of them).
-/
namespace Go.Proofs.YtomlffobbkcmdaaGreatDoor
open Go Go.RowKit Own
open Go.Lib (hid)
/-- what may says of an expression -/
def SaysMayG (mb:Gx→Bool) (x:Gx):Prop:=∀ (w:World) (S:Nat→Prop) (vs:List Value),TabS w→GAt w S vs x→
 Calls Tryz.prog 26 #[.agg vs.toArray] w fun e w'=>e=.returned (.bool (mb x))∧KeepBut (fun _=>False) w w'
set_option maxHeartbeats 4000000 in
theorem mayFnG_any (mb:Gx→Bool) (x:Gx) (hS:SaysMayG mb x) (w:World) (hT:TabS w) (S:Nat→Prop) (vs:List Value) (hex:GAt w S vs x):
  Calls Tryz.prog 60 #[.agg vs.toArray] w fun e w'=>e=.returned (.bool (!mb x))∧KeepBut (fun _=>False) w w':=by
 obtain ⟨yk,yo,yn,yS,yp,ym,yc,yl,ycl,rfl⟩:=g_form hex
 obtain ⟨W,C,hW,hC,hcb,hkc,hsc⟩:=fresh_block w (.cells #[.int .i64 yk,.int .i64 yo,.int .i64 yn,.string yS,.slice yp ym yc,.int .i64 yl,.int .i64 ycl] TEx)
 have HM:=hid (hS W S _ (hkc.tabS hT) (hex.keep hkc fun _ _ e=>e))
 have HK:=hid hkc
 obtain ⟨n0,n1,n2,n3,n4,n5,n6,-⟩:=blk7 hcb
 obtain ⟨b,hb⟩:∃ b,mb x=b:=⟨_,rfl⟩
 rw [hb] at HM ⊢
 clear hS hT hex hcb hkc hsc hb
 go_enter Tryz.func60,Tryz.ntmps60
 go_upto_region 1 with fail
 rw [←hW,←hC]
 clear hW hC
 go_wp2_with (go_at_call 26;refine HM.out.mono ?_;rintro e w5 ⟨rfl,hk5⟩;have HK5:=hid hk5;clear hk5)
 go_ret
 exact ⟨rfl,HK.out.trans HK5.out⟩
def IdxG (mb:Gx→Bool) (l:List Gx) (w:World) (e:Ending) (w':World):Prop:=∃ k:Int,e=.returned (.int .i64 k)∧decide (0≤k)=l.any (fun x=>!mb x)∧KeepBut (fun _=>False) w w'
set_option maxHeartbeats 8000000 in
theorem idxG_any (mb:Gx→Bool) (l:List Gx) (hS:∀ i (h:i<l.length),SaysMayG mb l[i]) (hl:l.length≤1099511627776) (w:World) (hT:TabS w) (S:Nat→Prop) (p:Option Addr) (c:Nat) (hp:GKids w S p 0 l):
  Calls Tryz.prog 95 #[.slice p l.length c,.func (.func 60) #[] #[]] w fun e w'=>IdxG mb l w e w':=by
 have HS:=hid hS;have HP:=hid hp;have HT:=hid hT
 clear hS hp hT
 go_enter Tryz.func95,Tryz.ntmps95
 go_wp2_with fail
 go_loopw [8] (fun v8 wr=>∃ k:Nat,v8=.int .i64 k∧k≤l.length∧(∀ j,(hj:j<k)→(h:j<l.length)→mb l[j]=true)∧KeepBut (fun _=>False) w wr) (fun v _=>l.length - (intOf v).toNat)
 case atStart=>exact ⟨0,rfl,Nat.zero_le _,fun j h=>absurd h (Nat.not_lt_zero _),KeepBut.refl _ _⟩
 case round=>
  obtain ⟨k,rfl,hk,hall,hkk⟩:=hrel
  have HALL:=hid hall;have HK:=hid hkk
  by_cases hlt:k<l.length
  ·have hlti:(k:Int)<l.length:=by omega
   have hi0:(0:Int)≤k:=by omega
   have hWi:IntKind.i64.wrap ((k:Int)+1)=(k:Int)+1:=IntWalk.i64_in _ (by omega)
   obtain ⟨g,o,vs,hp,hc,hex⟩:=gkids_get (HP.out.keep hkk fun _ _ e=>e) k hlt
   subst hp
   rw [Nat.zero_add] at hc
   have HFN:=hid (mayFnG_any mb l[k] (HS.out k hlt) wr (hkk.tabS HT.out) S vs hex)
   obtain ⟨yk,yo,yn,yS,yp,ym,yc,yl,ycl,rfl⟩:=g_form hex
   have x0:wr.cell? ⟨g,o+k * 7,none⟩=some (.int .i64 yk):=hc 0 _ rfl
   have x1:=hc 1 _ rfl;have x2:=hc 2 _ rfl;have x3:=hc 3 _ rfl;have x4:=hc 4 _ rfl;have x5:=hc 5 _ rfl;have x6:=hc 6 _ rfl
   obtain ⟨a,ha⟩:∃ a,mb l[k]=a:=⟨_,rfl⟩
   have HA:=hid ha
   rw [ha] at HFN
   clear hc hex hkk hall ha
   cases a with
   | true=>
    go_wp2_with (go_at_call 60;refine HFN.out.mono ?_;rintro e w2 ⟨rfl,hk2⟩;have HK2:=hid hk2;clear hk2)
    exact ⟨⟨k+1,by simp,by omega,fun j hj h=>by
     by_cases e:j=k
     ·subst e;exact HA.out
     ·exact HALL.out j (by omega) h,HK.out.trans HK2.out⟩,by simp only [intOf];omega⟩
   | false=>
    go_wp2_with (go_at_call 60;refine HFN.out.mono ?_;rintro e w2 ⟨rfl,hk2⟩;have HK2:=hid hk2;clear hk2)
    go_ret
    refine ⟨k,rfl,?_,HK.out.trans HK2.out⟩
    rw [decide_eq_true (by omega:(0:Int)≤k)]
    exact (List.any_eq_true.2 ⟨l[k],List.getElem_mem hlt,by rw [HA.out];rfl⟩).symm
  ·have hnl:¬(k:Int)<l.length:=by omega
   clear hkk hall
   go_wp2_with fail
   go_ret
   refine ⟨-1,rfl,?_,HK.out⟩
   rw [decide_eq_false (by omega:¬(0:Int)≤-1)]
   symm
   rw [List.any_eq_false]
   intro x hx
   obtain ⟨j,hj,e⟩:=List.getElem_of_mem hx
   rw [←e,HALL.out j (by omega) hj]
   exact Bool.false_ne_true
set_option maxHeartbeats 4000000 in
theorem hasG_any (mb:Gx→Bool) (l:List Gx) (hS:∀ i (h:i<l.length),SaysMayG mb l[i]) (hl:l.length≤1099511627776) (w:World) (hT:TabS w) (S:Nat→Prop) (p:Option Addr) (c:Nat) (hp:GKids w S p 0 l):
  Calls Tryz.prog 59 #[.slice p l.length c,.func (.func 60) #[] #[]] w fun e w'=>e=.returned (.bool (l.any fun x=>!mb x))∧KeepBut (fun _=>False) w w':=by
 have HI:=hid (idxG_any mb l hS hl w hT S p c hp)
 clear hS hp hT
 go_enter Tryz.func59,Tryz.ntmps59
 go_wp2_with (go_at_call 95;refine HI.out.mono ?_;rintro e w2 ⟨k,rfl,hd,hk⟩;have HD:=hid hd;have HK:=hid hk;clear hd hk)
 go_ret
 exact ⟨by rw [←HD.out];rfl,HK.out⟩
/-
  The law for regions that draw, inside a round of a loop over an iterator (at the wide fence). No program in sight.
-/
theorem upon_in {l n:Nat} {P:Program} {o:Oper} {a:Act} {K:Act→World→Prop} {Q:Exit→Act→World→Prop}:∀ (r:Result Next),o.upon P a K Q r→o.uponIn (Fence.wide.inRound l) n P a K Q r
 | .ok (.value _) _,h=>h
 | .ok .skip _,h=>h
 | .ok (.defer _) _,h=>h
 | .ok (.enter f args) _,h=>⟨fun e=>(by cases e),CallsIn.inRound l (callsIn_wide.2 h)⟩
 | .ok (.row row args) _,h=>⟨fun e=>(by cases e),fun c cs _=>by
   obtain ⟨v,w',r,s⟩:=h c cs
   exact ⟨v,w',r,stepsIn_wide.2 s⟩⟩
 | .ok (.round _ _ _ _ _) _,h=>h.elim
 | .halt x _,h=>by cases x <;> first | exact h | exact h.elim
theorem wpOp_in {l n:Nat} {P:Program} {ops:Array Oper} {Q:Exit→Act→World→Prop} (hd:∀ o∈ops.toList,∀ c,o.op≠.defer c) (hq:¬LetsOut Q) (i:Nat) {K K':Act→World→Prop} (hK:∀ a w,K a w→K' a w) (a:Act) (w:World)
  (h:wpOp P ops Q i K a w):wpOpIn (Fence.wide.inRound l) n P ops Q i K' a w:=by
 unfold wpOp at h
 unfold wpOpIn
 cases ho:ops[i]? with
 | none=>rw [ho] at h;exact hK _ _ h
 | some o=>
  rw [ho] at h
  simp only at h ⊢
  by_cases hw:Region.wanted o (yielded ops a.tmps)=true
  ·rw [if_pos hw] at h ⊢
   rcases h with h | h
   ·refine Oper.wpIn_mono hK (K:=K) ?_
    refine ⟨fun _ _=>trivial,?_⟩
    rw [Oper.semAt_plain _ _ _ (hd o (List.mem_of_getElem? (by rw [Array.getElem?_toList];exact ho)))]
    exact upon_in _ h
   ·exact absurd h.2 hq
  ·rw [if_neg hw] at h ⊢
   exact ⟨fun _ _=>trivial,hK _ _ h⟩
theorem wpAny_in {l n:Nat} {P:Program} {md:Region.Mode} {ops:Array Oper} {Q:Exit→Act→World→Prop} (hd:∀ o∈ops.toList,∀ c,o.op≠.defer c) (hq:¬LetsOut Q):∀ (fuel:Nat) (listed:Array Bool) (a:Act) (w:World),
  wpAny P md ops Q fuel listed a w→wpAnyIn (Fence.wide.inRound l) n P md ops Q fuel listed a w
 | 0,_,_,_,h=>h
 | fuel+1,listed,a,w,⟨h0,h1⟩=>⟨h0,fun i hi=>wpOp_in hd hq i (fun a w h=>wpAny_in hd hq fuel _ a w h) a w (h1 i hi)⟩
def noDefer:Op→Bool
 | .defer _=>false
 | _=>true
theorem wpIn_own1 {l n:Nat} {P:Program} {L:List Oper} {Q:Exit→Act→World→Prop} {id:Nat} {a:Act} {w:World} (hm:P.follows .mixedOrders=true) (hd:(L.all fun o=>noDefer o.op)=true) (hq:¬LetsOut Q)
  (m:Nat) (x:Obj) (hx:w.heap[m]?=some x)
  (D av ea:Nat→List Nat) (keep:List Nat) (hok:okB L.toArray D av ea keep=true) (sp:Nat→Option Loud)
  (hlex:Lex P L.toArray w.drew (fun k=>k=m) sp av ea (fun a F Fp=>Done w.drew (fun k=>k=m) Q keep a F Fp) L 0 a (aside L.length m x) (asideFp L.length m)):(Code.region id L.toArray true).wpIn (Fence.wide.inRound l) n P Q a w:=by
 refine wpIn_region_any hm (wpAny_in (fun o ho c e=>by have:=List.all_eq_true.1 hd o ho;rw [e] at this;cases this) hq _ _ _ _ ?_)
 refine any_own (w:=w) D av ea keep hok sp (fun k=>k=m) (aside L.length m x) (asideFp L.length m) ?_ ?_ (fun j _=>aside_paid L.length m x w w.drew rfl hx j) ?_ hlex.out
 ·intro j hj
  have hj':j<L.length:=by simpa using hj
  funext w';unfold aside;rw [if_neg (by omega)]
 ·intro j hj
  have hj':j<L.length:=by simpa using hj
  funext w';unfold asideFp
  exact propext ⟨fun h=>by have:=h.1;omega,fun h=>h.elim⟩
 ·intro j k _ _ hjk b h1 h2
  exact hjk (h1.1.trans h2.1.symm)
theorem lex_still {P:Program} {ops:Array Oper} {w0:World} {M:Nat→Prop} {sp:Nat→Option Loud} {av ea:Nat→List Nat} {Fin:Act→(Nat→World→Prop)→(Nat→Nat→Prop)→Prop}
  {o:Oper} {rest:List Oper} {i:Nat} {a:Act} {F:Nat→World→Prop} {Fp:Nat→Nat→Prop} (hw:Region.wanted o (yielded ops a.tmps)=true) (hs:sp i=none) (hv:∀ w,KeepBut M w0 w→(execOp a.eval o).run P w=.ok .skip w)
  (h:Lex P ops w0 M sp av ea Fin rest (i+1) (a.put o.dst undef) F Fp):Lex P ops w0 M sp av ea Fin (o::rest) i a F Fp:=by
 refine ⟨?_⟩;rw [LexD,if_pos hw,hs];exact ⟨undef,fun w hk=>.inr ⟨hv w hk,rfl⟩,h.out⟩
theorem Own.KeepBut.below_one {b n₀:Nat} {W W':World} (h:KeepBut (fun k=>k=b) W W') (h1:n₀≤b) (h2:n₀≤W.heap.size):Below n₀ W W':=
 ⟨h.os,h.tape,h.output,h.size,fun k hk=>h.block k (by omega) (fun e=>by have e2:k=b:=e;omega)⟩
theorem Own.KeepBut.from_one {b B:Nat} {W W':World} {cs:Array Value} {e:TypeId} {z:Nat × Nat} (h:KeepBut (fun k=>k=b) W W') (hb:W.heap[b]?=some (.cells cs e z)):KeepsFrom B W W':=
 ⟨h.size,fun k o _ hk ho=>(h.block k (Array.getElem?_eq_some_iff.1 hk).1 (fun e2=>by have e3:k=b:=e2;subst e3;rw [hb] at hk;cases hk;cases ho)).trans hk⟩
/-- a store of what is there already -/
theorem setCell_same {w:World} {b:Nat} {v:Value} {t:TypeId} {z:Nat × Nat} (h:w.heap[b]?=some (.cells #[v] t z)):w.setCell ⟨b,0,none⟩ v=w:=by
 have e:(w.setCell ⟨b,0,none⟩ v).heap=w.heap:=by
  apply Array.ext_getElem?
  intro k
  by_cases hk:k=b
  ·subst hk
   obtain ⟨hlt,he⟩:=Array.getElem?_eq_some_iff.1 h
   show (w.heap.modify k _)[k]?=_
   rw [Array.getElem?_eq_getElem (by rw [Array.size_modify];exact hlt),Array.getElem_modify_self,he,h]
   rfl
  ·exact Below.heap_setCell _ _ _ k hk
 show ({ w with heap:=(w.setCell ⟨b,0,none⟩ v).heap }:World)=w
 rw [e]
/-
  lex: All.
-/
open Go Go.RowKit Own Go.Shelf
attribute [local go_sem] Oper.semAt_some
def tokC (i:Item):List Value:=[.int .i64 i.tok.kind,strV i.tok.text,.int .i64 i.tok.num,.int .i64 i.line,.int .i64 i.col]
def cellsT (l:List Item):List Value:=l.flatMap tokC
theorem cellsT_snoc (l:List Item) (x:Item):cellsT (l++[x])=cellsT l++tokC x:=by simp [cellsT]
def faultV (f:Fault):Value:=.agg #[.int .i64 f.err,.int .i64 f.line,.int .i64 f.col]
/-- what All hands back -/
def AllDone (w:World) (e:Ending) (w':World) (its:List Item) (f:Fault):Prop:=
 ∃ v,e=.returned (.tuple #[v,faultV f])∧w'.ownsRow w.heap.size 76 5 v its.length (cellsT its)∧KeepBut (fun _=>False) w w'
theorem scan_call (n:Nat) (s:ByteArray) (w:World):
  CallsIn Fence.wide n Tryz.prog 97 #[.string s] w fun e w'=>e=.returned (.func (.func 115) #[] #[.pointer (some ⟨w.heap.size,0,none⟩)])∧w'=w.alloc (.cells #[.string s] 9):=by
 refine callsIn_of_wp Tryz.func97 rfl trivial ?_ rfl
 simp only [Tryz.ntmps97,List.size_toArray,List.length_cons,List.length_nil,Nat.reduceAdd,Nat.reduceSub,Array.replicate_succ,Array.replicate_zero,List.push_toArray,List.append_toArray,List.nil_append,List.cons_append]
 gi_wp2
 go_ret
 exact ⟨rfl,rfl⟩
/-- what a round of All's loop keeps -/
def KpAll (B n₀:Nat) (X Y:World):Prop:=OutKp B X Y∧Below n₀ X Y∧((∃ cs e z,X.heap[B]?=some (.cells cs e z))→∃ cs e z,Y.heap[B]?=some (.cells cs e z))
theorem kpAll_t {B n₀:Nat} {X Y Z:World} (h:KpAll B n₀ X Y) (k:KpAll B n₀ Y Z):KpAll B n₀ X Z:=⟨h.1.trans k.1,h.2.1.trans k.2.1,fun hb=>k.2.2 (h.2.2 hb)⟩
theorem kpAll_b {B n₀:Nat} {w:World} (hn:n₀≤w.heap.size) (hB:B<w.heap.size) (W:World) (l:Nat) (o o':Obj) (hl:w.heap.size≤l) (h:W.heap[l]?=some o) (ho:o.isCells=false) (hw:o.isWalk=false):KpAll B n₀ W (W.putObj l o'):=
 ⟨OutKp.put o' h ho (by omega),belowK_b hn W l o o' hl h ho hw,fun ⟨cs,e,z,hb⟩=>⟨cs,e,z,(World.putObj_heap_other (by omega)).trans hb⟩⟩
theorem kpAll_keep {B n₀:Nat} {X Y:World} (hn:n₀≤X.heap.size) (hB:∃ o,X.heap[B]?=some o) (k:KeepBut (fun _=>False) X Y):KpAll B n₀ X Y:=by
 refine ⟨OutKp.of_blocks k.size hB fun j hj=>k.block j hj fun e=>e,k.below.mono hn,fun ⟨cs,e,z,hb⟩=>⟨cs,e,z,k.blk hb⟩⟩
theorem cells_own {β:Type} (b:Nat) (cs:β→Array Value) (e:TypeId):Own (fun s W=>W.heap[b]?=some (.cells (cs s) e (0,0))):=fun s X Y row hs hg hrow=>by
 refine (hg.block b (heap_lt hs) fun e'=>?_).trans hs
 obtain ⟨o,ho,hc⟩:=hrow b e'.symm
 rw [hs] at ho;cases ho;cases hc
theorem cells_not_row {W:World} {b:Nat} {cs:Array Value} {t e:TypeId} {z:Nat × Nat} (h:W.heap[b]?=some (.cells cs t z)) (hte:t≠e) {base size k:Nat} {v:Value} {xs:List Value} (hr:W.ownsRow base e size v k xs):some b≠v.ownBlock:=by
 rcases hr.2 with ⟨rfl,_⟩ | ⟨g,cap,cur,rfl,_,hgb,_⟩
 ·simp [Value.ownBlock]
 ·intro e'
  obtain rfl:b=g:=by simpa [Value.ownBlock] using e'
  rw [h] at hgb
  simp only [Option.some.injEq,Obj.cells.injEq] at hgb
  exact hte hgb.2.1
theorem cells_kept {W W':World} {b:Nat} {cs:Array Value} {t:TypeId} {z:Nat × Nat} {row:Option Nat} (h:W.heap[b]?=some (.cells cs t z)) (hg:W.grownBy W' row) (hne:some b≠row):W'.heap[b]?=some (.cells cs t z):=(hg.block b (heap_lt h) hne).trans h
theorem cells_alloc {W:World} {b:Nat} {o:Obj} (h:W.heap[b]?=some o) (o':Obj):(W.alloc o').heap[b]?=some o:=(Below.heap_alloc W o' b (heap_lt h)).trans h
theorem add_off (g o j:Nat):(⟨g,o,none⟩:Addr).add j=⟨g,o+j,none⟩:=by
 unfold Addr.add;simp
theorem cells_at {w:World} {b:Nat} {cs:Array Value} {T:TypeId} (h:w.heap[b]?=some (.cells cs T (0,0))) (j:Nat) (u:Value) (hu:cs.toList[j]?=some u):w.cell? ((⟨b,0,none⟩:Addr).add j)=some u:=by
 rw [add_off,Nat.zero_add]
 exact blk_cell h (by simpa using hu)
theorem info_token:(Tryz.prog.info? 76).map (fun i=>(i.zero,i.size,i.bytes))=some (some (.agg #[.int .i64 0,.string ⟨#[]⟩,.int .i64 0,.int .i64 0,.int .i64 0]),5,48):=by kernel_rfl
theorem scan_stops (n:Nat) (hn:1≤n) (B Bs:Nat) (s:ByteArray) (w W:World) (hT:TabS w) (hlen:s.size≤8192) (hBs:Bs<W.heap.size) (hne:Bs≠B) (hI:Inv B Bs s w W W):
  SeqStopsK Fence.wide n Tryz.prog 115 #[.pointer (some ⟨Bs,0,none⟩)] encI (KpAll B w.heap.size) (fun ys=>ys=scan s.data.toList 1 1 false) (fun pre=>pre <+: scan s.data.toList 1 1 false) (scan s.data.toList 1 1 false).length W:=fun l J Jx X hX hJ _ hY h0=>by
 obtain ⟨cs,e,z,hb⟩:=hI.box
 have hk:KeepBut (fun _=>False) W X:=KeepBut.of_below hX
 have hIX:=hI.grow hk
 have hIX2:Inv B Bs s w X X:=⟨hIX.str,Nat.le_refl _,fun g hg=>by
  have h1:ptrAt B X=ptrAt B W:=ptrAt_same ((hk.blk hb).trans hb.symm)
  have h2:=hI.ptr g (by rw [←h1];exact hg)
  omega,hIX.box,hIX.below⟩
 exact scan1_in n hn l B Bs s w X hT hlen J Jx hJ (Nat.lt_of_lt_of_le hBs hX.size) hne hY hIX2 h0
theorem put3 {w:World} {B:Nat} {a b c:Value} {T:TypeId} (h:w.heap[B]?=some (.cells #[a,b,c] T (0,0))) (v0 v1 v2:Value):
  ∃ wf,wf=((w.setCell ⟨B,0,none⟩ v0).setCell ⟨B,1,none⟩ v1).setCell ⟨B,2,none⟩ v2∧wf.heap[B]?=some (.cells #[v0,v1,v2] T (0,0))∧KeepBut (fun k=>k=B) w wf:=by
 refine ⟨_,rfl,put1 (i:=2) (put1 (i:=1) (put1 (i:=0) h v0) v1) v2,?_⟩
 have s:∀ (w:World) (i:Nat) (v:Value),KeepBut (fun k=>k=B) w (w.setCell ⟨B,i,none⟩ v):=fun w i v=>KeepBut.setCell _ _ _ rfl
 exact ((s _ _ _).trans (s _ _ _)).trans (s _ _ _)
theorem all_ok {s:ByteArray} (hlen:s.size≤8192) (h:okS (scan s.data.toList 1 1 false)):allT s.data.toList=(scan s.data.toList 1 1 false,⟨0,0,0⟩):=by
 have hl:s.data.toList.length=s.size:=by simp
 have e:scanS s.data.toList=scan s.data.toList 1 1 false:=rfl
 have hf:(scan s.data.toList 1 1 false).find? (fun i=>i.err != 0)=none:=by
  rw [List.find?_eq_none]
  intro i hi
  simp [h i hi]
 unfold allT
 rw [if_neg (by omega),e,hf]
theorem all_bad {s:ByteArray} {pre:List Item} {x:Item} (hlen:s.size≤8192) (h:pre++[x] <+: scan s.data.toList 1 1 false) (hok:okS pre) (hx:x.err≠0):allT s.data.toList=([],⟨x.err,x.line,x.col⟩):=by
 have hl:s.data.toList.length=s.size:=by simp
 have e:scanS s.data.toList=scan s.data.toList 1 1 false:=rfl
 obtain ⟨r,hr⟩:=h
 have hf:(scan s.data.toList 1 1 false).find? (fun i=>i.err != 0)=some x:=by
  rw [←hr,List.find?_append,List.find?_append]
  have:pre.find? (fun i=>i.err != 0)=none:=by
   rw [List.find?_eq_none]
   intro i hi
   simp [hok i hi]
  rw [this]
  simp [hx]
 unfold allT
 rw [if_neg (by omega),e,hf]
set_option maxRecDepth 100000 in
set_option maxHeartbeats 4000000 in
theorem all_in (s : ByteArray) (w : World) (hT : TabS w) (hlen : s.size ≤ 8192) :
    CallsIn Fence.wide 6 Tryz.prog 64 #[.string s] w fun e w' => AllDone w e w' (allT s.data.toList).1 (allT s.data.toList).2 := by
  have hli : ¬ (8192 : Int) < (s.size : Int) := by omega
  obtain ⟨W1, b2, hW1, hb2, hB2, hk1, hs1⟩ := fresh_block w (.cells #[.slice none 0 0] 74)
  obtain ⟨W2, b3, hW2, hb3, hB3, hk2, hs2⟩ := fresh_block W1 (.cells #[.int .i64 0, .int .i64 0, .int .i64 0] 30)
  obtain ⟨W3, b4, hW3, hb4, hB4, hk3, hs3⟩ := fresh_block W2 (.cells #[.slice none 0 0] 74)
  obtain ⟨W0, bs, hW0, hbs, hBs, hk4, hs4⟩ := fresh_block W3 (.cells #[.string s] 9)
  have hk0 : KeepBut (fun _ => False) w W0 := ((hk1.trans hk2).trans hk3).trans hk4
  have x2 : Boxed W0 b2 74 (.slice none 0 0) := ((hk2.trans hk3).trans hk4).blk hB2
  have x3 := (hk3.trans hk4).blk hB3
  have x4 : Boxed W0 b4 74 (.slice none 0 0) := hk4.blk hB4
  refine callsIn_of_wp_marks Tryz.func64 rfl trivial ?_ rfl
  simp only [Tryz.ntmps64, List.size_toArray, List.length_cons, List.length_nil, Nat.reduceAdd, Nat.reduceSub, Array.replicate_succ, Array.replicate_zero, List.push_toArray, List.append_toArray, List.nil_append, List.cons_append]
  gi_wp2_with (refine ⟨trivial, ?_⟩; gi_at_call 97; refine (scan_call _ s _).mono ?_; rintro e w' ⟨rfl, rfl⟩)
  rw [← hW1, ← hW2, ← hW3, ← hW0, ← hb2, show b2 + 1 = b3 by omega, show b3 + 1 = b4 by omega, show b4 + 1 = bs by omega]
  have HN := Lib.hid (show w.heap.size = b2 ∧ b2 + 1 = b3 ∧ b3 + 1 = b4 ∧ b4 + 1 = bs ∧ W0.heap.size = bs + 1 by omega)
  have HK0 := Lib.hid hk0
  have HINV : Inv b4 bs s w W0 W0 := ⟨hBs, Nat.le_refl _, fun g hg => (by rw [ptrAt_box x4] at hg; cases hg), ⟨_, _, _, x4⟩, hk0.below⟩
  clear hW1 hW2 hW3 hW0 hb2 hb3 hb4 hbs hB2 hB3 hB4 hBs hk1 hk2 hk3 hk4 hs1 hs2 hs3 hs4 hk0
  refine wpIn_rangeFunc_ownH rfl (by decide) (gf := 115) (lb := #[.pointer (some ⟨bs, 0, none⟩)]) rfl trivial (enters_of Tryz.func115 (by kernel_rfl) rfl)
    (scan_stops (6 - 1) (by decide) b4 bs s w W0 hT hlen (by have := HN.out; omega) (by have := HN.out; omega) HINV) kpAll_t (kpAll_b (by have := HN.out; omega) (by have := HN.out; omega)) (Below.refl _ _) (fun _ => rfl)
    (fun pre W => (((∃ v, Boxed W b4 74 v ∧ W.ownsRow w.heap.size 76 5 v pre.length (cellsT pre) ∧ True) ∧ Boxed W b2 74 (.slice none 0 0)) ∧ W.heap[b3]? = some (.cells #[.int .i64 0, .int .i64 0, .int .i64 0] 30 (0, 0))) ∧ (Below w.heap.size w W ∧ okS pre))
    (fun c pre W => (c = .ret ∧ Boxed W b2 74 (.slice none 0 0) ∧ ∃ pre' x, pre = pre' ++ [x] ∧ okS pre' ∧ x.err ≠ 0 ∧ W.heap[b3]? = some (.cells #[.int .i64 x.err, .int .i64 x.line, .int .i64 x.col] 30 (0, 0))) ∧ Below w.heap.size w W)
    (OwnFrom.and (OwnFrom.and (OwnFrom.and (Own.from (holdsRow_own w.heap.size b4 74 76 5 (fun pre => pre.length) cellsT (fun _ _ => True)) _) (Own.from (boxed_own _ _ _) _)) (Own.from (cells_own b3 (fun _ => #[.int .i64 0, .int .i64 0, .int .i64 0]) _) _)) (OwnFrom.and (ownFrom_below (Nat.le_refl _) (by have := HN.out; omega)) (ownFrom_pure _ _)))
    (fun c => OwnFrom.and (Own.from (fun pre A B row hs hg hr => by
      obtain ⟨h1, h2, pre', x, h3, h4, h5, h6⟩ := hs
      exact ⟨h1, boxed_own b2 _ (fun (_ : Unit) => Value.slice none 0 0) () A B row h2 hg hr, pre', x, h3, h4, h5, cells_own b3 (fun (_ : Unit) => #[.int .i64 x.err, .int .i64 x.line, .int .i64 x.col]) _ () A B row h6 hg hr⟩) _) (ownFrom_below (Nat.le_refl _) (by have := HN.out; omega)))
    ⟨⟨⟨⟨_, x4, World.ownsRow_nil _ _ _ _, trivial⟩, x2⟩, x3⟩, HK0.out.below, fun i h => by cases h⟩
    (fun x a' W => ∃ Bx, (Bx ≠ b2 ∧ Bx ≠ b3) ∧ W.heap[Bx]? = some (.cells #[.int .i64 x.tok.kind, strV x.tok.text, .int .i64 x.tok.num, .int .i64 x.line, .int .i64 x.col] 76 (0, 0)) ∧ a' = { tmps := #[.string s, undef, .pointer (some ⟨b2, 0, none⟩), .pointer (some ⟨b3, 0, none⟩), .pointer (some ⟨b4, 0, none⟩), .pointer (some ⟨Bx, 0, none⟩), .int .i64 x.err, .string s, .int .i64 s.size, .bool false, undef, .string s, .func (.func 115) #[] #[.pointer (some ⟨bs, 0, none⟩)], tokV x.tok x.line x.col, .int .i64 x.err, undef, undef, undef, undef, undef, undef, undef, undef, undef, undef, undef, undef, undef, undef], defers := [] })
    (fun x a' _ X Y row hs hg hr => by obtain ⟨Bx, h1, h2, h3⟩ := hs; exact ⟨Bx, h1, cells_own Bx (fun (_ : Unit) => #[.int .i64 x.tok.kind, strV x.tok.text, .int .i64 x.tok.num, .int .i64 x.line, .int .i64 x.col]) _ () X Y row h2 hg (fun r e => (hr r e).2), h3⟩)
    ?assign ?body ?done ?stop
  case assign =>
    rintro l pre x W K ⟨⟨⟨⟨v, hv, hrow, hG⟩, hb2⟩, hc3⟩, hB, hok⟩ hK
    dsimp only [encI, tokV, strV] at hK ⊢
    gi_wp2
    exact hK _ _ ((KeepsOthers.alloc _ _).from _) (kpAll_keep hB.size ⟨_, hv⟩ (KeepBut.alloc _ _ _)) ⟨⟨⟨⟨v, hv.alloc _, hrow.alloc _, hG⟩, hb2.alloc _⟩, cells_alloc hc3 _⟩, hB.alloc hB.size _, hok⟩
      ⟨W.heap.size, ⟨fun e => by have := hb2.lt; omega, fun e => by have := heap_lt hc3; omega⟩, heap_alloc_new W _, rfl⟩
  case body =>
    rintro l pre x a' W hl ⟨r, hr⟩ ⟨⟨⟨⟨v, hv, hrow, hG⟩, hb2⟩, hc3⟩, hB, hok⟩ ⟨Bx, hBx, hbx, rfl⟩ hlt
    have hcv := hv.cell
    dsimp only [strV, tokV] at hbx ⊢
    obtain ⟨c0, c1, c2, c3, c4, -⟩ := blk5 hbx
    have hlen2 := (scan_len s.data.toList 1 1 false).1
    have hsl : s.data.toList.length = s.size := by simp
    by_cases hx : x.err = 0
    · have hx1 : ((x.err : Int) != 0) = false := by simp [hx]
      obtain ⟨i0, hi, hz0, hz1, hz2⟩ := info_parts info_token
      have hle : w.heap.size ≤ b4 := by have := HN.out; omega
      gi_wp2_with (gi_at_builtin; refine wpListIn_append_own' _ rfl _ _ 74 rfl w.heap.size 76 i0 _ 5 48 Tryz.underlying74 hi hz0 hz1 hz2 rfl (by decide) v pre.length (cellsT pre) rfl (hrow.alloc _) ⟨W.heap.size, 0, none⟩ 1 1 [.int .i64 x.tok.kind, .string ⟨x.tok.text.toArray⟩, .int .i64 x.tok.num, .int .i64 x.line, .int .i64 x.col] rfl rfl (cells_at (heap_alloc_new W _)) (by simp [Value.oneCell']) (by unfold maxLen; omega) (by omega) (by have := hB.size; rw [World.size_alloc]; omega) ?_
                   intro v' w1 hown' hgrow _ hat; obtain ⟨g', cap', rfl⟩ := ownsRow_succ hown'
                   obtain ⟨hv1, hv2, hr2, hk2, hbb2⟩ := hv.appended (by decide) hrow hB.size hle hown' hgrow
                   have hc1 := hv1.cell; have hf1 := hv1.frozen)
      refine ⟨hk2.from _, ⟨OutKp.appended hv (by decide) hrow hown' hgrow hat, hbb2, fun _ => ⟨_, _, _, hv2⟩⟩, ⟨⟨⟨_, hv2, ?_, trivial⟩, ?_⟩, ?_⟩, hB.trans hbb2, ?_⟩
      · rw [cellsT_snoc, List.length_append]; exact hr2
      · exact (((hb2.alloc _).kept hgrow (hb2.not_row (by decide) hrow))).other (by have := HN.out; omega) _
      · rw [setCell_other _ (by have := HN.out; omega)]
        exact cells_kept (cells_alloc hc3 _) hgrow (cells_not_row hc3 (by decide) hrow)
      · intro i hi
        rcases List.mem_append.1 hi with h | h
        · exact hok i h
        · rw [List.mem_singleton] at h; rw [h]; exact hx
    · have hx1 : ((x.err : Int) != 0) = true := by simp [hx]
      obtain ⟨hBx1, hBx2⟩ := hBx
      gi_wp2
      refine wpIn_own1 (by kernel_rfl) (by rfl) (by rintro ⟨_, _, h⟩; exact h) b3 _ hc3 (fun i => [[], [], [1], [], [3], [0, 1, 2, 3, 4], [], [0, 1, 2, 3, 4, 5, 6]].getD i []) (fun i => if i = 7 then [8] else []) (fun i => if i = 7 then [8] else []) [7] (by kernel_rfl)
        (fun i => if i = 7 then some (sPut b3 30) else none) ?_
      have d3 : ∀ w', KeepBut (fun k => k = b3) W.drew w' → w'.cell? ⟨Bx, 3, none⟩ = some (.int .i64 x.line) := fun w' h => ((KeepBut.drew _ W).trans h).cell c3 hBx2
      have d4 : ∀ w', KeepBut (fun k => k = b3) W.drew w' → w'.cell? ⟨Bx, 4, none⟩ = some (.int .i64 x.col) := fun w' h => ((KeepBut.drew _ W).trans h).cell c4 hBx2
      have HB2 := Lib.hid (show ∀ w', KeepBut (fun k => k = b3) W.drew w' → Boxed w' b2 74 (.slice none 0 0) from fun w' h => KeepBut.blkE ((KeepBut.drew _ W).trans h) hb2 (by have := HN.out; omega))
      clear c0 c1 c2 c3 c4 hcv
      iterate 6
        apply lex_quiet rfl rfl
        · intro w' hk; go_simp; with_reducible rfl
        simp only [Act.put, List.setIfInBounds_toArray, List.set_cons_zero, List.set_cons_succ]
      refine lex_still rfl rfl ?_ ?_
      · intro w' hk
        have hb := HB2.out w' hk
        have e2 := hb.cell; have f2 := hb.frozen
        have HS := Lib.hid (setCell_same hb)
        clear hb
        go_simp
        rw [HS.out]
      simp only [Act.put]
      refine lex_loud rfl rfl (loud_put b3 30 30 #[.int .i64 x.err, .int .i64 x.line, .int .i64 x.col] _ (.tmp 3) (.tmp 22) rfl rfl rfl 8 (by decide) (by decide) (fun w h => h) ⟨rfl, rfl⟩ rfl (by kernel_rfl) (by simp [Value.oneCell'])) fun g2 _ => ?_
      simp only [sPut, Act.put]
      refine lex_nil ?_
      intro w9 hk9 hF _
      have f0 : w9.heap[b3]? = some (.cells #[.int .i64 x.err, .int .i64 x.line, .int .i64 x.col] 30 (0, 0)) := (hF 7 (by decide)).1 _ (put_args rfl rfl)
      have hkW : KeepBut (fun k => k = b3) W w9 := (KeepBut.drew _ W).trans hk9
      have HF := Lib.hid (show KeepsFrom W0.heap.size W w9 ∧ ((Code.ret = .ret ∧ Boxed w9 b2 74 (.slice none 0 0) ∧ ∃ pre' x', pre ++ [x] = pre' ++ [x'] ∧ okS pre' ∧ x'.err ≠ 0 ∧ w9.heap[b3]? = some (.cells #[.int .i64 x'.err, .int .i64 x'.line, .int .i64 x'.col] 30 (0, 0))) ∧ Below w.heap.size w w9) from
        ⟨hkW.from_one hc3, ⟨rfl, HB2.out w9 hk9, pre, x, rfl, hok, hx, f0⟩, hB.trans (hkW.below_one (by have := HN.out; omega) hB.size)⟩)
      clear hk9 hF f0 hkW d3 d4 HB2 hB hb2 hc3 hv hrow
      gi_wp2
      obtain ⟨h1, ⟨-, h2, pre', x', h3, h4, h5, h6⟩, h7⟩ := HF.out
      exact ⟨h1, ⟨rfl, h2, pre', x', h3, h4, h5, h6⟩, h7⟩
  case done =>
    rintro D zs W hD rfl ⟨⟨⟨⟨v, hv, hrow, hG⟩, hb2⟩, hc3⟩, hB, hok⟩ hK
    have HAL := Lib.hid (all_ok hlen hok)
    have hv' : ∃ p m c, v = .slice p m c := by
      rcases hrow.2 with ⟨rfl, _⟩ | ⟨g, cap, cur, rfl, _⟩
      · exact ⟨_, _, _, rfl⟩
      · exact ⟨_, _, _, rfl⟩
    obtain ⟨p, m, c, rfl⟩ := hv'
    have hcv := hv.cell
    have e2 := hb2.cell; have f2 := hb2.frozen
    have h23 : b3 ≠ b2 := by have := HN.out; omega
    have hDb : b2 ≠ D ∧ b3 ≠ D := by have := HN.out; omega
    have hA := hb2.set (.slice p m c)
    have hA3 := (setCell_other (W := W) (.slice p m c) h23).trans hc3
    have hAK : KeepBut (fun k => k = b2) W (W.setCell ⟨b2, 0, none⟩ (.slice p m c)) := KeepBut.setCell _ _ _ rfl
    obtain ⟨Wa, hWa⟩ : ∃ Wa, W.setCell ⟨b2, 0, none⟩ (.slice p m c) = Wa := ⟨_, rfl⟩
    rw [hWa] at hA hA3 hAK
    obtain ⟨Wb, hWb, hb3', hBK⟩ := put3 hA3 (.int .i64 0) (.int .i64 0) (.int .i64 0)
    have e30 := blk_cell (k := 0) hA3 rfl
    have e31 := blk_cell (k := 1) hA3 rfl
    have e32 := blk_cell (k := 2) hA3 rfl
    have e3f0 : Wa.frozen? ⟨b3, 0, none⟩ = false := by simp [World.frozen?, hA3]
    have e3f1 : Wa.frozen? ⟨b3, 1, none⟩ = false := by simp [World.frozen?, hA3]
    have e3f2 : Wa.frozen? ⟨b3, 2, none⟩ = false := by simp [World.frozen?, hA3]
    have hb2' : Wb.heap[b2]? = some (.cells #[.slice p m c] 74 (0, 0)) := KeepBut.blkE hBK hA (fun e => h23 e.symm)
    have hKa : Wb.heap[D]? = some (.deferred (some [])) := KeepBut.blkE hBK (KeepBut.blkE hAK hK (fun e => hDb.1 e.symm)) (fun e => hDb.2 e.symm)
    have hrow2 : Wb.ownsRow w.heap.size 76 5 (.slice p m c) (scan s.data.toList 1 1 false).length (cellsT (scan s.data.toList 1 1 false)) := by
      refine (hrow.kept (row := some b2) ⟨hAK.os, hAK.tape, hAK.output, hAK.size, fun k hk hne => hAK.block k hk fun e => hne (by rw [e])⟩ (.inr (cells_not_row hb2 (by decide) hrow).symm)).kept (row := some b3) ⟨hBK.os, hBK.tape, hBK.output, hBK.size, fun k hk hne => hBK.block k hk fun e => hne (by rw [e])⟩ ?_
      exact .inr (cells_not_row hc3 (by decide) hrow).symm
    have HFIN := Lib.hid (show (Wb.putObj D (.deferred none)).ownsRow w.heap.size 76 5 (.slice p m c) (scan s.data.toList 1 1 false).length (cellsT (scan s.data.toList 1 1 false)) ∧ KeepBut (fun _ => False) w (Wb.putObj D (.deferred none)) from
      ⟨ownsRow_putObj hrow2 _ hKa rfl, KeepBut.of_below (((hB.trans (hAK.below_one (by have := HN.out; omega) hB.size)).trans (hBK.below_one (by have := HN.out; omega) (Nat.le_trans hB.size hAK.size))).trans (belowK_b (w := w) (Nat.le_refl _) Wb D _ _ (by have := HN.out; omega) hKa rfl rfl))⟩)
    have g2 : (Wb.putObj D (.deferred none)).cell? ⟨b2, 0, none⟩ = some (.slice p m c) := blk_cell (k := 0) ((World.putObj_heap_other (by omega)).trans hb2') rfl
    have q3 := (World.putObj_heap_other (w := Wb) (o := .deferred none) (show b3 ≠ D by omega)).trans hb3'
    have g30 := blk_cell (k := 0) q3 rfl
    have g31 := blk_cell (k := 1) q3 rfl
    have g32 := blk_cell (k := 2) q3 rfl
    have HKA := Lib.hid hKa
    clear hv hrow hb2 hc3 hA hA3 hAK hBK hb3' hb2' hKa hrow2 hK q3 hB hok hG
    gi_wp2
    rw [← hWb]
    refine ⟨by simp, .inl ⟨_, _, rfl, run_takeDeferred HKA.out, ?_⟩⟩
    refine ⟨.tuple #[.slice p m c, .agg #[.int .i64 0, .int .i64 0, .int .i64 0]], by simp [results, Tryz.results64, go_sem, g2, g30, g31, g32], ?_⟩
    rw [HAL.out]
    exact ⟨_, rfl, HFIN.out.1, HFIN.out.2⟩
  case stop =>
    rintro D c pre W hD hSp ⟨⟨rfl, hb2, pre', x, hpre, hok, hx, hc3⟩, hB⟩ hK
    subst hpre
    have HAL := Lib.hid (all_bad hlen hSp hok hx)
    have hDb : b2 ≠ D ∧ b3 ≠ D := by have := HN.out; omega
    have g2 : (W.putObj D (.deferred none)).cell? ⟨b2, 0, none⟩ = some (.slice none 0 0) := blk_cell (k := 0) ((World.putObj_heap_other (by omega)).trans hb2) rfl
    have q3 := (World.putObj_heap_other (w := W) (o := .deferred none) (show b3 ≠ D by omega)).trans hc3
    have g30 := blk_cell (k := 0) q3 rfl
    have g31 := blk_cell (k := 1) q3 rfl
    have g32 := blk_cell (k := 2) q3 rfl
    have HFIN := Lib.hid (show KeepBut (fun _ => False) w (W.putObj D (.deferred none)) from KeepBut.of_below (hB.trans (belowK_b (w := w) (Nat.le_refl _) W D _ _ (by have := HN.out; omega) hK rfl rfl)))
    have HKA := Lib.hid hK
    clear hb2 hc3 hB hK q3 hx hok hSp
    gi_wp2
    refine ⟨by simp, .inl ⟨_, _, rfl, run_takeDeferred HKA.out, ?_⟩⟩
    refine ⟨.tuple #[.slice none 0 0, .agg #[.int .i64 x.err, .int .i64 x.line, .int .i64 x.col]], by simp [results, Tryz.results64, go_sem, g2, g30, g31, g32], ?_⟩
    rw [HAL.out]
    exact ⟨_, rfl, World.ownsRow_nil _ _ _ _, HFIN.out⟩
/-
  lex: All, whole; rows of tokens; the examples.
-/
theorem cellsT_at:∀ (l:List Item) (i k:Nat) (h:i<l.length),k<5→(cellsT l)[i * 5+k]?=(tokC l[i])[k]?
 | x::l,0,k,_,hk=>by
  show (tokC x++cellsT l)[0 * 5+k]?=_
  rw [Nat.zero_mul,Nat.zero_add,List.getElem?_append_left (by simpa [tokC] using hk)]
  rfl
 | x::l,i+1,k,h,hk=>by
  show (tokC x++cellsT l)[(i+1) * 5+k]?=_
  rw [List.getElem?_append_right (by simp [tokC];omega)]
  have e:(i+1) * 5+k - (tokC x).length=i * 5+k:=by simp [tokC];omega
  rw [e,cellsT_at l i k (by simpa using h) hk]
  rfl
/-- tokens are read at p -/
def RowT (w:World) (p:Option Addr) (its:List Item):Prop:=∀ i (h:i<its.length),∃ g,p=some ⟨g,0,none⟩∧
 w.cell? ⟨g,i * 5,none⟩=some (.int .i64 (its[i].tok.kind:Nat))∧w.cell? ⟨g,i * 5+1,none⟩=some (strV its[i].tok.text)∧w.cell? ⟨g,i * 5+2,none⟩=some (.int .i64 (its[i].tok.num:Nat))∧
 w.cell? ⟨g,i * 5+3,none⟩=some (.int .i64 (its[i].line:Nat))∧w.cell? ⟨g,i * 5+4,none⟩=some (.int .i64 (its[i].col:Nat))
theorem RowT.of_owns {w:World} {base:Nat} {v:Value} {its:List Item} (h:w.ownsRow base 76 5 v its.length (cellsT its)):
  ∃ p cap,v=.slice p its.length cap∧RowT w p its∧∀ a,p=some a→base≤a.block∧a.block<w.heap.size:=by
 rcases h.2 with ⟨rfl,h0⟩ | ⟨g,cap,cur,rfl,hb,hg,h1,h2,h3,h4⟩
 ·exact ⟨none,0,by rw [h0],fun i hi=>absurd hi (by omega),fun a e=>by cases e⟩
 ·refine ⟨some ⟨g,0,none⟩,cap,rfl,fun i hi=>⟨g,rfl,?_⟩,fun a e=>by cases e;exact ⟨hb,heap_lt hg⟩⟩
  have hc:∀ k u,k<5→(tokC its[i])[k]?=some u→w.cell? ⟨g,i * 5+k,none⟩=some u:=fun k u hk hu=>by
   refine blk_cell hg ?_
   have e:=cellsT_at its i k hi hk
   rw [hu,←h4,List.getElem?_take] at e
   split at e
   ·simpa using e
   ·cases e
  exact ⟨hc 0 _ (by decide) rfl,hc 1 _ (by decide) rfl,hc 2 _ (by decide) rfl,hc 3 _ (by decide) rfl,hc 4 _ (by decide) rfl⟩
theorem blk3 {w:World} {B:Nat} {a b c:Value} {T:TypeId} (h:w.heap[B]?=some (.cells #[a,b,c] T (0,0))):
  w.cell? ⟨B,0,none⟩=some a∧w.cell? ⟨B,1,none⟩=some b∧w.cell? ⟨B,2,none⟩=some c∧w.frozen? ⟨B,0,none⟩=false∧w.frozen? ⟨B,1,none⟩=false∧w.frozen? ⟨B,2,none⟩=false:=by
 simp [World.cell?,World.frozen?,h]
set_option maxHeartbeats 4000000 in
theorem all_any (s:ByteArray) (w:World) (hT:TabS w):Calls Tryz.prog 64 #[.string s] w fun e w'=>AllDone w e w' (allT s.data.toList).1 (allT s.data.toList).2:=by
 by_cases h:s.size≤8192
 ·exact (callsIn_wide (n:=6)).1 (all_in s w hT h)
 ·have hi:(8192:Int)<(s.size:Int):=by omega
  have hl:s.data.toList.length=s.size:=by simp
  have HAL:=hid (show allT s.data.toList=([],⟨3,0,0⟩) by unfold allT;rw [if_pos (by omega)])
  obtain ⟨W1,b2,hW1,hb2,hB2,hk1,hs1⟩:=fresh_block w (.cells #[.slice none 0 0] 74)
  obtain ⟨W2,b3,hW2,hb3,hB3,hk2,hs2⟩:=fresh_block W1 (.cells #[.int .i64 0,.int .i64 0,.int .i64 0] 30)
  have x2:Boxed W2 b2 74 (.slice none 0 0):=hk2.blk hB2
  have e2:=x2.cell;have f2:=x2.frozen
  have hN:b2+1=b3:=by omega
  have HN:=hid (show w.heap.size=b2∧b2+1=b3 by omega)
  have HK:=hid (hk1.trans hk2)
  have hA:=setCell_same x2
  obtain ⟨e30,e31,e32,e3f0,e3f1,e3f2⟩:=blk3 hB3
  have h23:b3≠b2:=by omega
  obtain ⟨Wb,hWb,hb3',hBK⟩:=put3 hB3 (.int .i64 3) (.int .i64 0) (.int .i64 0)
  have c2:=(show Boxed Wb b2 _ _ from KeepBut.blkE hBK x2 (by omega)).cell
  obtain ⟨c30,c31,c32,-⟩:=blk3 hb3'
  have HBK:=hid hBK
  have HA:=hid hA;have HWb:=hid hWb
  clear hB2 hB3 hk1 hk2 hs1 hs2 h hb3' hBK x2 hl hA hWb
  go_enter Tryz.func64,Tryz.ntmps64
  go_upto_region 2 with fail
  rw [←hW1,←hb2,←hW2,hN]
  clear hW1 hb2 hW2 hb3 hN
  go_wp2
  rw [HA.out,←HWb.out]
  refine bodyPost_ret (v:=.tuple #[.slice none 0 0,.agg #[.int .i64 3,.int .i64 0,.int .i64 0]]) (by simp [results,Tryz.results64,go_sem,c2,c30,c31,c32]) rfl ?_
  rw [HAL.out]
  exact ⟨_,rfl,World.ownsRow_nil _ _ _ _,HK.out.new HBK.out fun k e=>by have h2:k=b3:=e;have:=HN.out;omega⟩
/-
  LexPlaces, walked.
-/
/-- the byte at a place -/
theorem byte_at {s:ByteArray} {L:List UInt8} (hL:s.data.toList=L) {at_:Nat} {c:UInt8} {r:List UInt8} (hd:L.drop at_=c::r):∀ h:at_<s.size,(s[at_]'h).toNat=c.toNat:=fun h=>by
 have e:s.data.toList.drop at_=c::r:=by rw [hL];exact hd
 rw [drop_at h] at e
 have e2:=(List.cons.inj e).1
 rw [←e2]
 simp [ByteArray.get!,h]
 rfl
/-
  lex.Name.
-/
set_option maxHeartbeats 4000000 in
theorem nameOk_any (s:ByteArray) (w:World) (htab:TabS w):
  Calls Tryz.prog 45 #[.string s] w fun e w'=>e=.returned (.bool (nameB s.data.toList))∧KeepBut (fun _=>False) w w':=by
 have hsl:s.data.toList.length=s.size:=by simp
 obtain ⟨m,hm⟩:∃ m,(s.data.toList.takeWhile wordB).length=m:=⟨_,rfl⟩
 obtain ⟨r,hr⟩:∃ r,reservedB s.data.toList=r:=⟨_,rfl⟩
 have HR:=hid (show ∀ W:World,TabS W→Calls Tryz.prog 88 #[.string s] W fun e w'=>e=.returned (.bool r)∧KeepBut (fun _=>False) W w' from fun W h=>by
  have:=isReserved_any s W h
  rw [hr] at this
  exact this)
 have HS:=hid (show ∀ W:World,Calls Tryz.prog 86 #[.string s,.func (.func 87) #[] #[]] W fun e w'=>e=.returned (.int .i64 (m:Nat))∧KeepBut (fun _=>False) W w' from fun W=>by
  have:=span_any wordB word_small 87 (enters_of Tryz.func87 (by kernel_rfl) rfl) inWord_any s W
  rw [hm] at this
  exact this)
 have HT:=hid htab
 clear htab
 by_cases h0:0<s.size
 ·have h0i:(0:Int)<(s.size:Int):=by omega
  by_cases h16:s.size≤16
  ·have h16i:(s.size:Int)≤16:=by omega
   obtain ⟨c,t,hL⟩:∃ c t,s.data.toList=c::t:=by
    cases h:s.data.toList with
    | nil=>rw [h] at hsl;simp at hsl;omega
    | cons c t=>exact ⟨c,t,rfl⟩
   have hz:=byte_at (at_:=0) hL rfl h0
   obtain ⟨k,hk⟩:∃ k:Int,kindI (c.toNat:Int)=k:=⟨_,rfl⟩
   have hO:=hid (fun w=>of_int (c.toNat:Int) w)
   rw [hk] at hO
   have HE:=hid (show nameB s.data.toList=((k==3) && (((m:Int)==(s.size:Int)) && !r)) by
    unfold nameB
    rw [hr,hm,hsl]
    have e1:(s.data.toList.headD 0)=c:=by rw [hL];rfl
    have e2:decide (m=s.size)=((m:Int)==(s.size:Int)):=by
     rw [Bool.eq_iff_iff];simp;omega
    rw [e1,e2,←kind_letter,hk]
    simp [h0,h16])
   clear hm hr hL hk hsl h16
   cases h3:(k==3) with
   | false=>
    go_enter Tryz.func45,Tryz.ntmps45
    go_wp2_with (go_at_call 85;refine (hO.out _).mono ?_;rintro e w' ⟨rfl,rfl⟩)
    go_ret
    exact ⟨ret_bool (by rw [HE.out,h3];rfl),KeepBut.refl _ _⟩
   | true=>
    cases h4:((m:Int)==(s.size:Int)) with
    | false=>
     go_enter Tryz.func45,Tryz.ntmps45
     go_wp2_with (first
      | (go_at_call 85;refine (hO.out _).mono ?_;rintro e w' ⟨rfl,rfl⟩)
      | (go_at_call 86;refine (HS.out _).mono ?_;rintro e w2 ⟨rfl,hk2⟩;have HK2:=hid hk2;clear hk2))
     go_ret
     exact ⟨ret_bool (by rw [HE.out,h3,h4];rfl),HK2.out⟩
    | true=>
     have HEE:=hid (show nameB s.data.toList=!r by rw [HE.out,h3,h4];rfl)
     go_enter Tryz.func45,Tryz.ntmps45
     go_wp2_with (first
      | (go_at_call 85;refine (hO.out _).mono ?_;rintro e w' ⟨rfl,rfl⟩)
      | (go_at_call 86;refine (HS.out _).mono ?_;rintro e w2 ⟨rfl,hk2⟩;have HK2:=hid hk2;clear hk2)
      | (go_at_call 88;refine (HR.out _ (HK2.out.tabS HT.out)).mono ?_;rintro e w3 ⟨rfl,hk3⟩;have HK3:=hid (HK2.out.trans hk3);clear hk3))
     go_ret
     exact ⟨ret_bool HEE.out.symm,HK3.out⟩
  ·have h16i:¬(s.size:Int)≤16:=by omega
   have HE:=hid (show nameB s.data.toList=false by unfold nameB;rw [hsl];simp [h16])
   clear hm hr hsl h0 h16
   go_enter Tryz.func45,Tryz.ntmps45
   go_wp2_with fail
   go_ret
   exact ⟨ret_bool HE.out.symm,KeepBut.refl _ _⟩
 ·have h0i:¬(0:Int)<(s.size:Int):=by omega
  have HE:=hid (show nameB s.data.toList=false by unfold nameB;rw [hsl];simp [h0])
  clear hm hr hsl h0
  go_enter Tryz.func45,Tryz.ntmps45
  go_wp2_with fail
  go_ret
  exact ⟨ret_bool HE.out.symm,KeepBut.refl _ _⟩
end Go.Proofs.YtomlffobbkcmdaaGreatDoor
