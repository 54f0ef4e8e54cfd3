/- Joined texts of this work: Oe3, Oe4, Nw0. -/
import Derived.Test.YtomlffobbkcmdaaGreatDoorJq1
import Derived.Test.YtomlffobbkcmdaaGreatDoorJq31
import Derived.Laws.AppendOwn
import Derived.Test.YtomlffobbkcmdaaGreatDoorJq26
import Derived.Test.YtomlffobbkcmdaaGreatDoorJq30
/-
  fencepostkit.Own of containers.
-/
namespace Go.Proofs.YtomlffobbkcmdaaGreatDoor
open Go Go.RowKit Own
open Go.Lib (hid)
def gcL (c:Gc):List Value:=[.int .i64 c.kind,strV c.name,.int .i64 c.line,.int .i64 c.col]
def gcCells (l:List Gc):List Value:=(l.map gcL).flatten
theorem gcCells_length (l:List Gc):(gcCells l).length=l.length * 4:=by
 unfold gcCells
 induction l with
 | nil=>rfl
 | cons c l ih=>rw [List.map_cons,List.flatten_cons,List.length_append,ih,List.length_cons];simp only [gcL,List.length_cons,List.length_nil];omega
theorem gcCells_one (l:List Gc):∀ u∈gcCells l,u.oneCell'=true:=by
 intro u hu
 unfold gcCells at hu
 obtain ⟨x,hx,hu⟩:=List.mem_flatten.1 hu
 obtain ⟨c,-,rfl⟩:=List.mem_map.1 hx
 unfold gcL strV at hu
 simp only [List.mem_cons,List.not_mem_nil,or_false] at hu
 rcases hu with rfl | rfl | rfl | rfl <;> rfl
theorem gcCells_at:∀ (l:List Gc) (i t:Nat) (hi:i<l.length),t<4→(gcCells l)[i * 4+t]?=(gcL l[i])[t]?
 | c::l,0,t,_,ht=>by
  unfold gcCells
  rw [List.map_cons,List.flatten_cons,Nat.zero_mul,Nat.zero_add,List.getElem?_append_left (by simp [gcL];omega)]
  rfl
 | c::l,i+1,t,hi,ht=>by
  have h:=gcCells_at l i t (by simpa using hi) ht
  unfold gcCells at h ⊢
  rw [List.map_cons,List.flatten_cons,List.getElem?_append_right (by simp [gcL];omega)]
  rw [show (i+1) * 4+t - (gcL c).length=i * 4+t by simp [gcL];omega]
  simpa using h
 | [],i,_,hi,_=>absurd hi (by simp)
theorem GCts.adds {w:World} {S:Nat→Prop} {a:Addr} {l:List Gc} (h:GCts w S (some a) l):∀ j u,(gcCells l)[j]?=some u→w.cell? (a.add j)=some u:=fun j u hj=>by
 have hlt:j<l.length * 4:=by rw [←gcCells_length];exact (List.getElem?_eq_some_iff.1 hj).1
 have hi:j / 4<l.length:=by omega
 have ht:j % 4<4:=Nat.mod_lt _ (by decide)
 obtain ⟨g,o,e,-,x0,x1,x2,x3⟩:=h (j / 4) hi
 cases e
 rw [add_off]
 have h4:=gcCells_at l (j / 4) (j % 4) hi ht
 rw [show j / 4 * 4+j % 4=j by omega,hj] at h4
 have hd:o+j=o+j / 4 * 4+j % 4:=by omega
 rw [hd]
 generalize j % 4=t at *
 unfold gcL at h4
 match t,ht with
 | 0,_=>cases h4;exact x0
 | 1,_=>cases h4;exact x1
 | 2,_=>cases h4;exact x2
 | 3,_=>cases h4;exact x3
theorem GCts.of_cells {w:World} {S:Nat→Prop} {g:Nat} (hS:S g) {l:List Gc} (h:∀ j u,(gcCells l)[j]?=some u→w.cell? ⟨g,j,none⟩=some u):GCts w S (some ⟨g,0,none⟩) l:=fun i hi=>by
 have hc:=fun t (ht:t<4)=>gcCells_at l i t hi ht
 have h0:=h (i * 4+0) _ ((hc 0 (by decide)).trans rfl)
 have h1:=h (i * 4+1) _ ((hc 1 (by decide)).trans rfl)
 have h2:=h (i * 4+2) _ ((hc 2 (by decide)).trans rfl)
 have h3:=h (i * 4+3) _ ((hc 3 (by decide)).trans rfl)
 refine ⟨g,0,rfl,hS,?_,?_,?_,?_⟩
 ·rw [Nat.zero_add];exact h0
 ·rw [Nat.zero_add];exact h1
 ·rw [Nat.zero_add];exact h2
 ·rw [Nat.zero_add];exact h3
theorem GCts.inHeap {w:World} {S:Nat→Prop} {p:Option Addr} {l:List Gc} (h:GCts w S p l):GCts w (fun b=>S b∧b<w.heap.size) p l:=
 h.keepS fun _ _ _ hb hc=>⟨hc,hb,World.block_lt_of_cell? w _ hc⟩
theorem gcts_same {w w':World} {S:Nat→Prop} {p:Option Addr} {l:List Gc} (h:GCts w S p l) (hb:∀ b,S b→w'.heap[b]?=w.heap[b]?):GCts w' S p l:=
 h.keepS fun b o v hS hc=>⟨by simpa [World.cell?,hb b hS] using hc,hS⟩
theorem ct_slice:Tryz.prog.underlying 43=some (.slice TCt):=by kernel_rfl
theorem info_ct:(Tryz.prog.info? TCt).map (fun i=>(i.zero,i.size,i.bytes))=some (some (.agg #[.int .i64 0,.string ⟨#[]⟩,.int .i64 0,.int .i64 0]),4,40):=by kernel_rfl
set_option maxRecDepth 100000 in
set_option maxHeartbeats 8000000 in
theorem ownCt_any (w : World) (S : Nat → Prop) (p : Option Addr) (c : Nat) (l : List Gc) (hrd : GCts w S p l) (hl : l.length ≤ 1099511627776) :
    Calls Tryz.prog 57 #[.slice p l.length c] w fun e w' => ∃ q d, e = .returned (.slice q l.length d) ∧ GCts w' (fun b => w.heap.size ≤ b) q l ∧ KeepBut (fun _ => False) w w' := by
  have done : ∀ (v' : Value) (w' : World), w'.ownsRow w.heap.size TCt 4 v' l.length (gcCells l) → ∃ q d, v' = .slice q l.length d ∧ GCts w' (fun b => w.heap.size ≤ b) q l := fun v' w' h => by
    obtain ⟨q, d, hv, hc⟩ := rowS_some h
    refine ⟨q, d, hv, ?_⟩
    rcases hc with h0 | ⟨g, rfl, hc⟩
    · rw [List.eq_nil_of_length_eq_zero h0]
      exact fun i hi => absurd hi (by simp)
    · exact GCts.of_cells (h.lt g (by rw [hv]; rfl)).1 hc
  cases p with
  | none =>
    have : l = [] := by
      cases l with
      | nil => rfl
      | cons x l =>
        obtain ⟨g, o, e, _⟩ := hrd 0 (by simp)
        cases e
    subst this
    go_enter Tryz.func57, Tryz.ntmps57
    go_wp2_with fail
    go_ret
    exact ⟨some ⟨w.heap.size, 0, none⟩, 0, rfl, (fun i hi => absurd hi (Nat.not_lt_zero _)), KeepBut.alloc _ _ _⟩
  | some a =>
    have hA := KeepBut.alloc (fun _ => False) w (.cells #[] TCt)
    have hr := Lib.hid ((hrd.keep hA fun _ _ e => e).adds)
    have ho := Lib.hid (show (w.alloc (.cells #[] TCt)).ownsRow w.heap.size TCt 4 (.slice (some ⟨w.heap.size, 0, none⟩) 0 0) 0 (gcCells []) from ⟨rfl, .inr ⟨w.heap.size, 0, #[], rfl, Nat.le_refl _, heap_alloc_new w _, Nat.le_refl _, Nat.zero_le _, rfl, rfl⟩⟩)
    obtain ⟨i0, hi, hz0, hz1, hz2⟩ := info_parts info_ct
    have HI := Lib.hid hi; have HZ0 := Lib.hid hz0; have HZ1 := Lib.hid hz1; have HZ2 := Lib.hid hz2; have HDN := Lib.hid done
    clear hrd hA hi hz0 hz1 hz2 done
    go_enter Tryz.func57, Tryz.ntmps57
    go_wp2_with (at_builtin; go_loud (refine wpList_append_own _ rfl (.tmp 3) (.tmp 4) 43 rfl w.heap.size TCt i0 _ 4 40 ct_slice HI.out HZ0.out HZ1.out HZ2.out rfl (by decide) (.slice (some ⟨w.heap.size, 0, none⟩) 0 0) 0 (gcCells []) rfl ho.out a l.length c (gcCells l) rfl (gcCells_length l) hr.out (gcCells_one l) (by unfold maxLen; omega) (by omega) (by simp) ?_)
                 intro v' w' h1 h2 _
                 have H1 := Lib.hid h1; have H2 := Lib.hid h2
                 clear h1 h2)
    go_ret
    have h9 := H1.out
    rw [Nat.zero_add] at h9
    obtain ⟨q, d, hv, hc⟩ := HDN.out _ _ h9
    subst hv
    exact ⟨q, d, rfl, hc, KeepBut.of_below (((Below.refl w.heap.size w).alloc (Nat.le_refl _) _).grown H2.out (by simp) (fun k hk => by cases hk; exact Nat.le_refl _))⟩
/-
  OwnProgram: a program in memory of its own.
-/
/-- a store of a whole value into the block that a pointer of the region's own names -/
def sPutN (T:TypeId):Loud:={ val:=fun _ _=>undef,fp:=fun args _ k=>args.getD 0 undef=.pointer (some ⟨k,0,none⟩),post:=fun args _ w=>∀ b vs,args.getD 0 undef=.pointer (some ⟨b,0,none⟩)→args.getD 1 undef=.agg vs→w.heap[b]?=some (.cells vs T (0,0)) }
theorem putn_args0 {o:Oper} {a:Act} {ty:TypeId} {x y:Operand} {v:Value} (ho:o.op=.store ty x y) (hy:a.eval x=v):(argsOf o a).getD 0 undef=v:=by simp [argsOf,ho,Op.operands,hy]
theorem loud_putN {P:Program} {w0:World} {M:Nat→Prop} {o:Oper} {a:Act} {av ea:List Nat} {F:Nat→World→Prop} {Fp:Nat→Nat→Prop} (b:Nat) (T ty:TypeId) (vs cs0:Array Value) (x y:Operand) (ho:o.op=.store ty x y) (hx:a.eval x=.pointer (some ⟨b,0,none⟩)) (hy:a.eval y=.agg vs)
  (j:Nat) (hja:j∈av) (hje:j∈ea) (hF:∀ w,F j w→w.heap[b]?=some (.cells cs0 T (0,0))) (hfp:Fp j b) (hs:cs0.size=vs.size) (hi:(P.info? ty).map (·.size)=some vs.size) (h1:vs.all (·.oneCell')=true):
  LoudOk P w0 M o a (sPutN T) av ea F Fp:=by
 have harg:(argsOf o a).getD 1 undef=.agg vs:=put_args ho hy
 have harg0:(argsOf o a).getD 0 undef=.pointer (some ⟨b,0,none⟩):=putn_args0 ho hx
 refine loud_run ⟨default,trivial⟩ (fun g _ w w' _ _ _ h k b' vs' hb hv=>(h b' hb).trans (k b' vs' hb hv)) fun w _ hav _=>?_
 obtain ⟨hj,hb⟩:=hav j hja
 obtain ⟨w',h2,h3,h4⟩:=yields_put (P:=P) (o:=o) (ρ:=a.eval) (w:=w) x y ho hx hy (hF w hj) hs hi h1
 refine ⟨w',default,trivial,h2,h3.mono fun k hk=>⟨j,hje,by rw [hk];exact hfp⟩,fun k hk=>?_,fun b' vs' hb' hv=>by rw [harg] at hv;cases hv;rw [harg0] at hb';cases hb';exact h4⟩
 have hkb:k=b:=by
  have:(argsOf o a).getD 0 undef=.pointer (some ⟨k,0,none⟩):=hk
  rw [harg0] at this;cases this;rfl
 subst hkb
 exact ⟨.inr ⟨j,hje,hfp⟩,Nat.lt_of_lt_of_le (hb k hfp).1 h3.size⟩
theorem put3p {w:World} {B:Nat} {a b c:Value} {T:TypeId} (h:w.heap[B]?=some (.cells #[a,b,c] T (0,0))) (v0 v1 v2:Value):
  ∃ wf,wf=((w.setCell ⟨B,0,none⟩ v0).setCell ⟨B,1,none⟩ v1).setCell ⟨B,2,none⟩ v2∧wf.heap[B]?=some (.cells #[v0,v1,v2] T (0,0))∧KeepBut (fun k=>k=B) w wf:=by
 refine ⟨_,rfl,put1 (i:=2) (put1 (i:=1) (put1 (i:=0) h v0) v1) v2,?_⟩
 have s:∀ (w:World) (i:Nat) (v:Value),KeepBut (fun k=>k=B) w (w.setCell ⟨B,i,none⟩ v):=fun w i v=>KeepBut.setCell _ _ _ rfl
 exact ((s _ _ _).trans (s _ _ _)).trans (s _ _ _)
/-- where OwnProgram is, between two rounds -/
structure OpAt (w wr:World) (N B1 B2 B3:Nat) (pool:Int) (conts:List Gc) (threads:List (List Gs)) (p1 p2 pc:Option Addr) (c1 c2 cc:Nat) (v:Value) (i:Nat) (sl:List Value):Prop where
 le:i≤threads.length
 len:sl.length=i
 row:wr.ownsRow N TSs 1 v i sl
 each:∀ j (h:j<sl.length) (h':j<threads.length),∃ q c,sl[j]=.slice q threads[j].length c∧SKids wr (fun b=>N≤b∧v.ownBlock≠some b) q 0 threads[j]
 b1:wr.heap[B1]?=some (.cells #[.int .i64 pool,.slice p1 conts.length c1,.slice p2 threads.length c2] TPr (0,0))
 b2:wr.heap[B2]?=some (.cells #[.int .i64 0,.slice none 0 0,.slice none 0 0] TPr (0,0))
 b3:wr.heap[B3]?=some (.cells #[.int .i64 pool,.slice pc conts.length cc,v] TPr (0,0))
 cts:GCts wr (fun b=>w.heap.size≤b∧b<N∧b≠B1∧b≠B2∧b≠B3) pc conts
 keep:KeepBut (fun _=>False) w wr
 lt:w.heap.size≤B1∧B1<B2∧B2<B3∧B3<N∧N≤wr.heap.size
theorem OpAt.step {w wr w9:World} {N B1 B2 B3 gb gd:Nat} {pool:Int} {conts:List Gc} {threads:List (List Gs)} {p1 p2 pc q:Option Addr} {c1 c2 cc d:Nat} {v v':Value} {i:Nat} {sl:List Value} (h:OpAt w wr N B1 B2 B3 pool conts threads p1 p2 pc c1 c2 cc v i sl) (hi:i<threads.length)
  (hk:KeepBut (fun b=>b=B3∨v.ownBlock=some b) wr w9) (hg:wr.heap.size≤gb) (hst:SKids w9 (fun b=>gb≤b∧b<gd) q 0 threads[i]) (hrow:w9.ownsRow N TSs 1 v' (i+1) (sl++[.slice q threads[i].length d])) (hb3:w9.heap[B3]?=some (.cells #[.int .i64 pool,.slice pc conts.length cc,v'] TPr (0,0)))
  (hdis:∀ b,v'.ownBlock=some b→¬(gb≤b∧b<gd)) (hnew:∀ b,v'.ownBlock=some b→wr.heap.size≤b∨(b=B3∨v.ownBlock=some b)):OpAt w w9 N B1 B2 B3 pool conts threads p1 p2 pc c1 c2 cc v' (i+1) (sl++[.slice q threads[i].length d]):=by
 have hlt:=h.lt
 have hs:=hk.size
 have hlen:=h.len
 have hnv:∀ b,v.ownBlock=some b→N≤b:=fun b e=>(h.row.lt b e).1
 have hno:∀ b,b<N→b≠B3→¬(b=B3∨v.ownBlock=some b):=fun b h1 h2 e=>e.elim h2 fun e=>by have:=hnv _ e;omega
 refine ⟨hi,by simp [hlen],hrow,fun j hj hj'=>?_,hk.blkE h.b1 (hno _ (by omega) (by omega)),hk.blkE h.b2 (hno _ (by omega) (by omega)),hb3,h.cts.keep hk fun b hb=>hno b hb.2.1 hb.2.2.2.2,h.keep.newM hk fun b e=>.inr (e.elim (fun e=>by omega) fun e=>by have:=hnv _ e;omega),⟨hlt.1,hlt.2.1,hlt.2.2.1,hlt.2.2.2.1,by omega⟩⟩
 by_cases hji:j<sl.length
 ·rw [List.getElem_append_left hji]
  obtain ⟨q2,c2,e1,e2⟩:=h.each j hji hj'
  refine ⟨q2,c2,e1,e2.inHeap.keepS fun b o u hb hc=>?_⟩
  obtain ⟨⟨a1,a2⟩,a3⟩:=hb
  refine ⟨hk.cell hc fun e=>e.elim (fun e=>by have e:b=B3:=e;omega) a2,a1,fun e=>?_⟩
  rcases hnew b e with e | e | e
  ·omega
  ·omega
  ·exact a2 e
 ·have hji2:j=i:=by rw [List.length_append] at hj;simp at hj;omega
  subst hji2
  rw [List.getElem_append_right (by omega)]
  simp only [hlen,Nat.sub_self,List.getElem_cons_zero]
  exact ⟨q,d,rfl,hst.mono fun b hb=>⟨by have h1:gb≤b:=hb.1;omega,fun e=>hdis b e hb⟩⟩
/-- a program in memory of its own, the slice of its threads apart from all others -/
def POwn (B:Nat) (w':World) (p:Gp) (u:Value):Prop:=∃ pc cc p9 c9,u=.agg #[.int .i64 p.pool,.slice pc p.conts.length cc,.slice p9 p.threads.length c9]∧
 ((p.threads=[]∧GCts w' (fun b=>B≤b) pc p.conts)∨∃ g cur,p9=some ⟨g,0,none⟩∧B≤g∧GCts w' (fun b=>B≤b∧b≠g) pc p.conts∧w'.heap[g]?=some (.cells cur TSs (0,0))∧p.threads.length≤cur.size∧
  ∀ j (h:j<p.threads.length),∃ q c,cur[j]?=some (.slice q p.threads[j].length c)∧SKids w' (fun b=>B≤b∧b≠g) q 0 p.threads[j])
theorem rowS_own {w:World} {base n:Nat} {e:TypeId} {v:Value} {xs:List Value} (h:w.ownsRow base e 1 v n xs) (hn:n≠0):∃ g cap cur,v=.slice (some ⟨g,0,none⟩) n cap∧w.heap[g]?=some (.cells cur e (0,0))∧n≤cur.size∧∀ (j:Nat) u,xs[j]?=some u→cur[j]?=some u:=by
 rcases h.2 with ⟨rfl,h0⟩ | ⟨g,cap,cur,h1,h2,h3,h4,h5,h6,h7⟩
 ·exact absurd h0 hn
 ·refine ⟨g,cap,cur,h1,h3,by omega,fun j u hj=>?_⟩
  rw [←h7,List.getElem?_take] at hj
  split at hj
  ·simpa using hj
  ·cases hj
set_option maxRecDepth 4000 in
set_option maxHeartbeats 64000000 in
theorem ownP_own (p:Gp) (hb:hSize p.threads≤900000) (hcl:p.conts.length≤900000) (htl:p.threads.length≤900000) (w:World) (S:Nat→Prop) (v0:Value) (h:PAt w S v0 p):
  Calls Tryz.prog 24 #[v0] w fun e w'=>∃ u,e=.returned u∧POwn w.heap.size w' p u∧KeepBut (fun _=>False) w w':=by
 obtain ⟨pool,conts,threads⟩:=p
 obtain ⟨p1,c1,p2,c2,rfl,hcs,hts⟩:=h
 dsimp only at hb hcl htl hcs hts ⊢
 obtain ⟨V1,B1,hV1,hB1,hb1,hk1,hs1⟩:=fresh_block w (.cells #[.int .i64 pool,.slice p1 conts.length c1,.slice p2 threads.length c2] TPr)
 obtain ⟨V,B2,hV,hB2,hb2,hk2,hs2⟩:=fresh_block V1 (.cells #[.int .i64 0,.slice none 0 0,.slice none 0 0] TPr)
 have HB1:=hid (hk2.blk hb1);have HB2:=hid hb2;have HC:=hid hcs;have HT:=hid hts
 have HN2:=hid (show w.heap.size≤B1∧B1<B2∧B2<V.heap.size by omega)
 have HKV:=hid (show ∀ w',KeepBut (fun _=>False) V.drew w'→KeepBut (fun _=>False) w w' from fun w' hk=>((hk1.trans hk2).trans (KeepBut.drew _ V)).trans hk)
 have HSZ:=hid hb;have HCL:=hid hcl;have HTL:=hid htl
 obtain ⟨n0,n1,n2,-⟩:=blk3f (hk2.blk hb1)
 have d0:=fun w' (h:KeepBut (fun _=>False) V.drew w')=>((KeepBut.drew _ V).trans h).stay n0
 have d1:=fun w' (h:KeepBut (fun _=>False) V.drew w')=>((KeepBut.drew _ V).trans h).stay n1
 have h12:B1+1=B2:=by omega
 clear hcs hts hs1 hs2 hb1 hb2 hk1 hk2 hb hcl htl
 go_enter Tryz.func24,Tryz.ntmps24
 go_upto_region 1 with fail
 rw [←hV1,←hB1,←hV,h12]
 clear hV1 hB1 hV hB2 h12 n0 n1 n2
 refine wp_own0 (by kernel_rfl) (fun i=>[[],[0],[],[2],[2,3],[0,1,2,3,4],[],[0,1,2,3,4,5,6]].getD i []) (fun i=>if i=7 then [6] else []) (fun i=>if i=7 then [6] else []) [4,7] (by kernel_rfl)
  (fun q=>if q=4 then some { ok:=fun _ g=>V.heap.size≤g.b,val:=fun _ g=>.slice g.p conts.length g.c,fp:=fun _ g b=>g.b≤b∧b<g.d,post:=fun _ g w'=>GCts w' (fun b=>g.b≤b∧b<g.d) g.p conts } else if q=6 then some (sNew (.cells #[.int .i64 0,.slice none 0 0,.slice none 0 0] TPr (0,0))) else if q=7 then some (sPutN TPr) else none) ?_
 apply lex_quiet rfl rfl
 ·intro w' hk;go_simp;with_reducible rfl
 simp only [Act.put,LS]
 apply lex_quiet rfl rfl
 ·intro w' hk;have e1:=d0 w' hk;go_simp;with_reducible rfl
 simp only [Act.put,LS]
 apply lex_quiet rfl rfl
 ·intro w' hk;go_simp;with_reducible rfl
 simp only [Act.put,LS]
 apply lex_quiet rfl rfl
 ·intro w' hk;have e1:=d1 w' hk;go_simp;with_reducible rfl
 simp only [Act.put,LS]
 refine lex_loud rfl rfl (loud_call 57 #[.slice p1 conts.length c1] (fun w=>by kernel_rfl) ⟨{ b:=V.heap.size },Nat.le_refl _⟩ (fun gs _ w1 w2 _ _ _ hb hp=>gcts_same hp hb) fun w' hk hav _=>(ownCt_any w' S p1 c1 conts (HC.out.keep (HKV.out w' hk) fun _ _ e=>e) (by have:=HCL.out;omega)).mono ?_) fun g4 hg4=>?_
 ·rintro e w'' ⟨q,d,rfl,hg2,hk2⟩
  exact ⟨{ p:=q,c:=d,b:=w'.heap.size,d:=w''.heap.size },Nat.le_trans (KeepBut.drew (fun _=>False) V).size hk.size,rfl,hk2.mono fun b e=>e.elim,fun b hb=>⟨.inl hb.1,hb.2⟩,hg2.inHeap⟩
 simp only [Act.put,LS]
 apply lex_quiet rfl rfl
 ·intro w' hk;go_simp;with_reducible rfl
 simp only [Act.put,LS]
 refine lex_loud rfl rfl (loud_alloc (.cells #[.int .i64 0,.slice none 0 0,.slice none 0 0] TPr (0,0)) (fun w=>by kernel_rfl)) fun g6 _=>?_
 simp only [sNew,Act.put,LS]
 refine lex_loud rfl rfl (loud_putN g6.b TPr TPr #[.int .i64 pool,.slice g4.p conts.length g4.c,.slice none 0 0] _ (.tmp 3) (.tmp 10) rfl rfl rfl 6 (by decide) (by decide) (fun w h=>h) rfl rfl (by kernel_rfl) (by simp [Value.oneCell'])) fun g7 _=>?_
 simp only [sPutN,Act.put]
 refine lex_nil ?_
 intro W0 hk9 hF hdis
 have f4:GCts W0 (fun b=>g4.b≤b∧b<g4.d) g4.p conts:=(hF 4 (by decide)).1
 have f7:W0.heap[g6.b]?=some (.cells #[.int .i64 pool,.slice g4.p conts.length g4.c,.slice none 0 0] TPr (0,0)):=(hF 7 (by decide)).1 _ _ (putn_args0 rfl rfl) (put_args rfl rfl)
 have hg4':V.heap.size≤g4.b:=hg4
 have f7n:=(hF 7 (by decide)).2 g6.b (putn_args0 rfl rfl)
 have f7b:V.heap.size≤g6.b:=f7n.2.resolve_right fun h=>h
 have hd47:∀ b,(g4.b≤b∧b<g4.d)→b≠g6.b:=fun b hb e=>hdis 4 (by decide) 7 (by decide) (by decide) b hb (by rw [e];exact putn_args0 rfl rfl)
 have hkW:=HKV.out W0 hk9
 have hKV9:=(KeepBut.drew (fun _=>False) V).trans hk9
 have HAT0:=hid (show OpAt w W0 W0.heap.size B1 B2 g6.b pool conts threads p1 p2 g4.p c1 c2 g4.c (.slice none 0 0) 0 [] from
  ⟨Nat.zero_le _,rfl,World.ownsRow_nil _ _ _ _,fun j h=>absurd h (Nat.not_lt_zero _),hKV9.blk HB1.out,hKV9.blk HB2.out,f7,f4.inHeap.mono fun b hb=>by
   have h1:=hb.1.1
   have h2:=HN2.out
   exact ⟨by omega,hb.2,by omega,by omega,hd47 b hb.1⟩,hkW,by have h2:=HN2.out;exact ⟨h2.1,h2.2.1,by omega,f7n.1,Nat.le_refl _⟩⟩)
 obtain ⟨B3,hB3⟩:∃ x,x=g6.b:=⟨_,rfl⟩
 obtain ⟨pc,hpc⟩:∃ x,x=g4.p:=⟨_,rfl⟩
 obtain ⟨cc,hcc⟩:∃ x,x=g4.c:=⟨_,rfl⟩
 obtain ⟨NN,hNN⟩:∃ x,x=W0.heap.size:=⟨_,rfl⟩
 rw [←hB3,←hpc,←hcc,←hNN] at HAT0
 rw [←hB3]
 clear f4 f7 f7n f7b hd47 hkW hKV9 hF hdis hk9 d0 d1 hg4' hB3 hpc hcc hNN
 go_wp2_with fail
 go_loopw [4] (fun v4 wr=>∃ (i:Nat) (v:Value) (sl:List Value),v4=.int .i64 i∧OpAt w wr NN B1 B2 B3 pool conts threads p1 p2 pc c1 c2 cc v i sl) (fun v _=>threads.length - (intOf v).toNat)
 case atStart=>exact ⟨0,_,_,rfl,HAT0.out⟩
 case round=>
  obtain ⟨i,v,sl,rfl,hat⟩:=hrel
  have HAT:=hid hat
  obtain ⟨n0,n1,n2,-⟩:=blk3f hat.b1
  clear hat HAT0
  by_cases hlt:i<threads.length
  ·have hlti:(i:Int)<threads.length:=by omega
   have hi0:(0:Int)≤i:=by omega
   have hWi:IntKind.i64.wrap ((i:Int)+1)=(i:Int)+1:=IntWalk.i64_in _ (by have:=HTL.out;omega)
   have HKK:=hid (show ∀ w',KeepBut (fun b=>b=B3∨v.ownBlock=some b) wr.drew w'→KeepBut (fun b=>b=B3∨NN≤b) wr w' from fun w' hk=>((KeepBut.drew _ wr).trans hk).mono fun b e=>e.imp id fun e=>(HAT.out.row.lt b e).1)
   have HKW:=hid (show ∀ w',KeepBut (fun b=>b=B3∨v.ownBlock=some b) wr.drew w'→KeepBut (fun _=>False) w w' from fun w' hk=>HAT.out.keep.newM (HKK.out w' hk) fun b e=>.inr (by have h1:=HAT.out.lt;rcases e with e | e <;> omega))
   obtain ⟨g,o,q0,cq,hp,-,y0,hsk⟩:=HT.out i hlt
   subst hp
   have ct:=fun w' (h:KeepBut (fun b=>b=B3∨v.ownBlock=some b) wr.drew w')=>(HKW.out w' h).stay y0
   have cb:=fun w' (h:KeepBut (fun b=>b=B3∨v.ownBlock=some b) wr.drew w')=>(HKK.out w' h).cell (blk_cell (k:=2) HAT.out.b1 rfl) (by have h1:=HAT.out.lt;intro e;have e:B1=B3∨NN≤B1:=e;omega)
   have HSK:=hid (show ∀ w',KeepBut (fun b=>b=B3∨v.ownBlock=some b) wr.drew w'→SKids w' S q0 0 threads[i] from fun w' h=>hsk.keep (HKW.out w' h) fun _ _ e=>e)
   have hme:=hSize_mem hlt
   have HO:=hid (ownS_any threads[i] (by have:=HSZ.out;omega))
   obtain ⟨x,hx⟩:∃ x,threads[i]=x:=⟨_,rfl⟩
   have HXE:=hid hx
   rw [hx] at HSK HO ct
   have HB3:=hid HAT.out.b3;have HRW:=hid HAT.out.row
   have HLT:=hid HAT.out.lt
   have HIL:=hid (show i+1≤1000000 by have:=HTL.out;omega)
   clear hsk hx hme y0
   go_upto_region 5 with fail
   refine wp_own2 (by kernel_rfl) B3 _ HB3.out NN TSs 1 v i _ HRW.out (by have:=HLT.out;omega) (fun i=>[[],[0],[],[2],[],[2,3,4],[2,3,4,5],[2,3,4,5,6],[2,3,4,5,6,7],[0,1,2,3,4,5,6,7,8],[0,1,2,3,4,5,6,7,8,9],[0,1,2,3,4,5,6,7,8,9,10]].getD i []) (fun i=>if i=1 then [12] else if i=9 then [13,7,8] else if i=11 then [12] else []) (fun i=>if i=9 then [13,7] else if i=11 then [12] else []) [9,11] (by kernel_rfl)
    (fun q=>if q=1 then some (sConst v) else if q=7 then some { ok:=fun _ g=>wr.heap.size≤g.b,val:=fun _ g=>.slice g.p x.length g.c,fp:=fun _ g b=>g.b≤b∧b<g.d,post:=fun _ g w'=>∃ r e,(Value.slice g.p x.length g.c:Value)=.slice r x.length e∧SKids w' (fun b=>g.b≤b∧b<g.d) r 0 x }
     else if q=8 then some (sOneA TSs) else if q=9 then some (sApp NN TSs 1 i sl wr.heap.size (fun w b d us=>∃ r e,us=[.slice r x.length e]∧SKids w (fun k=>b≤k∧k<d) r 0 x)) else if q=11 then some (sCellA B3 2 TPr #[.int .i64 pool,.slice pc conts.length cc,v]) else none) ?_
   apply lex_quiet rfl rfl
   ·intro w' hk;go_simp;with_reducible rfl
   simp only [Act.put,LS]
   refine lex_loud rfl rfl (loud_run ⟨default,trivial⟩ (fun g _ w w' _ _ _ _ _=>trivial) fun w' hk hav _=>by
    obtain ⟨x0,x1,x2,-⟩:=blk3f (show w'.heap[B3]?=some (.cells #[.int .i64 pool,.slice pc conts.length cc,v] TPr (0,0)) from (hav 12 (by decide)).1)
    exact ⟨w',default,trivial,.inl (by go_simp <;> rfl),KeepBut.refl _ _,fun b h=>h.elim,trivial⟩) fun _ _=>?_
   simp only [sConst,Act.put,LS]
   apply lex_quiet rfl rfl
   ·intro w' hk;go_simp;with_reducible rfl
   simp only [Act.put,LS]
   apply lex_quiet rfl rfl
   ·intro w' hk;have e1:=cb w' hk;go_simp;with_reducible rfl
   simp only [Act.put,LS]
   apply lex_quiet rfl rfl
   ·intro w' hk;go_simp;with_reducible rfl
   simp only [Act.put,LS]
   apply lex_quiet rfl rfl
   ·intro w' hk;go_simp;with_reducible rfl
   simp only [Act.put,LS]
   apply lex_quiet rfl rfl
   ·intro w' hk;have e1:=ct w' hk;go_simp;with_reducible rfl
   simp only [Act.put,LS]
   refine lex_loud rfl rfl (loud_call 58 #[.slice q0 x.length cq] (fun w=>by kernel_rfl) ⟨{ b:=wr.heap.size },Nat.le_refl _⟩ (fun gs _ w1 w2 _ _ _ hb hp=>by
    obtain ⟨r,e,h1,h2⟩:=hp
    exact ⟨r,e,h1,sks_same h2 hb⟩) fun w' hk hav _=>(HO.out w' S _ _ (HSK.out w' hk)).mono ?_) fun g7 hg7=>?_
   ·rintro e w'' ⟨q,d,rfl,hg2,hk2⟩
    exact ⟨{ p:=q,c:=d,b:=w'.heap.size,d:=w''.heap.size },Nat.le_trans (KeepBut.drew (fun _=>False) wr).size hk.size,rfl,hk2.mono fun b e=>e.elim,fun b hb=>⟨.inl hb.1,hb.2⟩,q,d,rfl,hg2.inHeap⟩
   simp only [Act.put,LS]
   refine lex_loud rfl rfl (loud_oneA TSs (.slice g7.p x.length g7.c) (one_arg rfl rfl) (fun w=>by go_simp)) fun g8 _=>?_
   simp only [sOneA,Act.put,LS]
   refine lex_loud rfl rfl (loud_appendM NN wr.heap.size TSs 44 (.slice none 0 0) 1 24 (by kernel_rfl) (by kernel_rfl) rfl (by decide) (.tmp 19) (.tmp 26) rfl v i _ [.slice g7.p x.length g7.c] g7.b g7.d g8.b (fun w b d us=>∃ r e,us=[.slice r x.length e]∧SKids w (fun k=>b≤k∧k<d) r 0 x)
    (fun w1 w2 b d us h hb=>by
     obtain ⟨r,e,h1,h2⟩:=h
     exact ⟨r,e,h1,sks_same h2 fun k hk=>hb k hk.1 hk.2⟩) rfl rfl rfl (by simp [Value.oneCell']) (by unfold maxLen;have:=HIL.out;omega) (by have:=HIL.out;omega) (by have:=HLT.out;show NN≤wr.heap.size;omega) hg7 13 (by decide) (by decide) (fun w h=>h) (fun b hb=>.inr ⟨rfl,hb⟩) 7 (by decide) (by decide) (by decide) (fun w h=>by
     obtain ⟨r,e,h1,h2⟩:=h
     exact ⟨r,e,by rw [h1],h2⟩) (fun b hb=>hb) 8 (by decide) (fun w h=>h _ (one_arg rfl rfl))) fun g9 hg9=>?_
   simp only [sApp,Act.put,LS]
   apply lex_quiet rfl rfl
   ·intro w' hk;go_simp;with_reducible rfl
   simp only [Act.put,LS]
   refine lex_loud rfl rfl (loud_cellA B3 2 TPr #[.int .i64 pool,.slice pc conts.length cc,v] (.slice g9.p (i+1) g9.c) (put_args rfl rfl) (fun w u hc hf=>by go_simp <;> rfl) 12 (by decide) (by decide) (fun w h=>h) (.inl ⟨rfl,rfl⟩) (by show 2<3;decide)) fun g10 _=>?_
   simp only [sCellA,Act.put,LS]
   refine lex_nil ?_
   intro W9 hk9 hF _
   obtain ⟨f8d,us,f8r,r9,e9,rfl,f8g⟩:=(hF 9 (by decide)).1
   have f8n:=(hF 9 (by decide)).2
   have f10:W9.heap[B3]?=some (.cells #[.int .i64 pool,.slice pc conts.length cc,.slice g9.p (i+1) g9.c] TPr (0,0)):=(hF 11 (by decide)).1 _ (put_args rfl rfl)
   have HNX:=hid (HAT.out.step hlt ((KeepBut.drew (fun b=>b=B3∨v.ownBlock=some b) wr).trans hk9) hg9 (by rw [HXE.out];exact f8g) (by rw [HXE.out];exact f8r) f10 (fun b e=>f8d b (own_of.1 e)) (fun b e=>(f8n b (.inl (own_of.1 e))).2))
   clear f8d f8r f8g f8n f10 hF hk9 ct cb
   go_wp2_with fail
   exact ⟨⟨i+1,_,_,by simp,HNX.out⟩,by simp only [intOf];omega⟩
  ·have hnl:¬(i:Int)<threads.length:=by omega
   have hi:i=threads.length:=by have:=HAT.out.le;omega
   obtain ⟨p9,c9,hv,hrow⟩:=rowS_some HAT.out.row
   obtain ⟨m0,m1,m2,-⟩:=blk3f (by have h:=HAT.out.b3;rw [hv] at h;exact h)
   have hb2:=HAT.out.b2
   obtain ⟨q0,q1,q2,-⟩:=blk3f hb2
   have f0:wr.frozen? ⟨B2,0,none⟩=false:=by simp [World.frozen?,hb2]
   have f1:wr.frozen? ⟨B2,1,none⟩=false:=by simp [World.frozen?,hb2]
   have f2:wr.frozen? ⟨B2,2,none⟩=false:=by simp [World.frozen?,hb2]
   have HV:=hid hv;have HROW:=hid hrow;have HIE:=hid hi
   clear hv hrow hi hlt hb2
   go_wp2_with fail
   obtain ⟨wf,hwf,hp,hkp⟩:=put3p HAT.out.b2 (.int .i64 pool) (.slice pc conts.length cc) (.slice p9 i c9)
   rw [←hwf]
   obtain ⟨r0,r1,r2,-⟩:=blk3f hp
   have hlt:=HAT.out.lt
   refine bodyPost_ret (v:=.agg #[.int .i64 pool,.slice pc conts.length cc,.slice p9 i c9]) (by simp [results,Tryz.results24,go_sem,r0,r1,r2]) rfl ⟨_,rfl,⟨pc,cc,p9,c9,by rw [HIE.out],?_⟩,HAT.out.keep.newM hkp fun b e=>.inr (by have e:b=B2:=e;omega)⟩
   have hcts:=HAT.out.cts.keep hkp fun b hb e=>hb.2.2.2.1 e
   by_cases h0:threads.length=0
   ·exact .inl ⟨List.eq_nil_of_length_eq_zero h0,hcts.mono fun b hb=>hb.1⟩
   ·obtain ⟨g,cap,cur,e1,e2,e3,e4⟩:=rowS_own HAT.out.row (by have:=HIE.out;omega)
    have hgb:=(HAT.out.row.lt g (by rw [e1];rfl)).1
    have hvb:v.ownBlock=some g:=by rw [e1];rfl
    have e5:=HV.out
    rw [e1] at e5
    cases e5
    refine .inr ⟨g,cur,rfl,by show w.heap.size≤g;omega,hcts.mono fun b hb=>⟨hb.1,by have:=hb.2.1;omega⟩,hkp.blkE e2 (fun e=>by have e:g=B2:=e;omega),by have:=HIE.out;show threads.length≤cur.size;omega,fun j h=>?_⟩
    have h':j<sl.length:=by have:=HAT.out.len;have:=HIE.out;have h:j<threads.length:=h;omega
    obtain ⟨q,c,a1,a2⟩:=HAT.out.each j h' h
    exact ⟨q,c,e4 j _ (by rw [←a1];exact List.getElem?_eq_getElem h'),(a2.keep hkp fun b hb e=>by have e:b=B2:=e;have h5:NN≤b:=hb.1;omega).mono fun b hb=>by
     have h5:NN≤b:=hb.1
     exact ⟨by omega,fun e=>hb.2 (by rw [e];exact hvb)⟩⟩
/-
  A store of one cell into a block that is set aside; what programs become by it.
-/
/-- a store of one cell into a block that is known -/
def sPutAt (g i:Nat) (T:TypeId) (cur:Array Value):Loud:={ val:=fun _ _=>undef,fp:=fun _ _ k=>k=g,post:=fun args _ w=>∀ u,args.getD 1 undef=u→w.heap[g]?=some (.cells (cur.setIfInBounds i u) T (0,0)) }
theorem put_cell {w:World} {g i:Nat} {T:TypeId} {cur:Array Value} (h:w.heap[g]?=some (.cells cur T (0,0))) (u:Value):(w.setCell ⟨g,i,none⟩ u).heap[g]?=some (.cells (cur.setIfInBounds i u) T (0,0))∧KeepBut (fun k=>k=g) w (w.setCell ⟨g,i,none⟩ u):=by
 refine ⟨by simp [World.setCell,Array.getElem?_modify,h],?_⟩
 exact keep_setCells (E:=fun k=>k=g) g rfl [u] i w
theorem loud_putAt {P:Program} {w0:World} {M:Nat→Prop} {o:Oper} {a:Act} {av ea:List Nat} {F:Nat→World→Prop} {Fp:Nat→Nat→Prop} (g i:Nat) (T:TypeId) (cur:Array Value) (u:Value)
  (hu:(argsOf o a).getD 1 undef=u) (hrun:∀ w,w.heap[g]?=some (.cells cur T (0,0))→Yields2 P (execOp a.eval o) w undef (w.setCell ⟨g,i,none⟩ u))
  (j:Nat) (hja:j∈av) (hje:j∈ea) (hF:∀ w,F j w→w.heap[g]?=some (.cells cur T (0,0))) (hfp:Fp j g):
  LoudOk P w0 M o a (sPutAt g i T cur) av ea F Fp:=by
 refine loud_run ⟨default,trivial⟩ (fun _ _ w w' _ _ _ h k u' hu'=>(h g rfl).trans (k u' hu')) fun w _ hav _=>?_
 obtain ⟨hj,hb⟩:=hav j hja
 obtain ⟨h1,h2⟩:=put_cell (i:=i) (hF w hj) u
 refine ⟨_,default,trivial,hrun w (hF w hj),h2.mono fun k hk=>⟨j,hje,by rw [show k=g from hk];exact hfp⟩,fun k hk=>⟨.inr ⟨j,hje,by rw [show k=g from hk];exact hfp⟩,?_⟩,fun u' hu'=>by rw [hu] at hu';subst hu';exact h1⟩
 rw [show k=g from hk]
 exact Nat.lt_of_lt_of_le (hb g hfp).1 h2.size
/-- the thread at t is another one -/
theorem ths_set {w w':World} {S:Nat→Prop} {B g t:Nat} {cur:Array Value} {l:List (List Gs)} {x:List Gs} {q:Option Addr} {c:Nat} (hl:l.length≤cur.size) (ht:t<l.length)
  (he:∀ j (h:j<l.length),∃ q c,cur[j]?=some (.slice q l[j].length c)∧SKids w (fun b=>B≤b∧b≠g) q 0 l[j])
  (hk:KeepBut (fun k=>k=g) w w') (hg:w'.heap[g]?=some (.cells (cur.setIfInBounds t (.slice q x.length c)) TSs (0,0))) (hx:SKids w' S q 0 x):GThs w' (fun _=>True) (some ⟨g,0,none⟩) (l.set t x):=fun i hi=>by
 have hi':i<l.length:=by simpa using hi
 by_cases e:i=t
 ·subst e
  have ei:(l.set i x)[i]=x:=by simp
  refine ⟨g,0,q,c,rfl,trivial,?_,?_⟩
  ·rw [ei,Nat.zero_add]
   exact blk_cell hg (by rw [Array.getElem?_setIfInBounds,if_pos rfl,if_pos (by omega)])
  ·rw [ei]
   exact hx.mono fun _ _=>trivial
 ·obtain ⟨q',c',e1,e2⟩:=he i hi'
  have ei:(l.set t x)[i]=l[i]:=List.getElem_set_ne (Ne.symm e) _
  refine ⟨g,0,q',c',rfl,trivial,?_,?_⟩
  ·rw [ei,Nat.zero_add]
   exact blk_cell hg (by rw [Array.getElem?_setIfInBounds,if_neg (Ne.symm e)];exact e1)
  ·rw [ei]
   exact (e2.keep hk fun b hb e=>hb.2 e).mono fun _ _=>trivial
end Go.Proofs.YtomlffobbkcmdaaGreatDoor
