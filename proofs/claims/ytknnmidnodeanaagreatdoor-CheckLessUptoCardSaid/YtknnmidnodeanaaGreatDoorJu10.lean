import Derived.Test.YtknnmidnodeanaaGreatDoorJu9
import Derived.Laws.StructEq
import Derived.BigQuiet
import Derived.Deep.QuietTactic
set_option maxHeartbeats 4000000
set_option maxRecDepth 100000
namespace Go.Proofs.YtknnmidnodeanaaGreatDoor
open Go Go.RowKit Own Go.Shelf
open Go.Lib (hid)
attribute [local go_sem] Oper.semAt_some
def tokC (i:Item):List Value:=[.int .i64 i.tok.kind,strV i.tok.text,.int .i64 i.tok.num,.int .i64 i.line,.int .i64 i.col]
def cellsT (l:List Item):List Value:=l.flatMap tokC
theorem cellsT_snoc (l:List Item)(x:Item):cellsT (l++[x])=cellsT l++tokC x:=by simp[cellsT]
def faultV (f:Fault):Value:=.agg #[.int .i64 f.err,.int .i64 f.line,.int .i64 f.col]
def AllDone (w:World)(e:Ending)(w':World)(its:List Item)(f:Fault):Prop:=
 ∃v,e=.returned (.tuple #[v,faultV f])∧w'.ownsRow w.heap.size 117 5 v its.length (cellsT its)∧BA (fun _=>False) w w'
theorem scan_call (n:Nat)(s:ByteArray)(w:World):
  CallsIn Fence.wide n Tryz.prog 94 #[.string s] w fun e w'=>e=.returned (.func (.func 103) #[] #[.pointer (some ⟨w.heap.size,0,none⟩)])∧w'=w.alloc (.cells #[.string s] 9):=by
 refine callsIn_of_wp Tryz.func94 rfl trivial ?_ rfl;simp only[Tryz.ntmps94,List.size_toArray,LC,List.length_nil,Nat.reduceAdd,Nat.reduceSub,Array.replicate_succ,Array.replicate_zero,List.push_toArray,List.append_toArray,List.nil_append,List.cons_append]
 gi_wp2
 go_ret;exact⟨rfl,rfl⟩
def KpAll (B n₀:Nat)(X Y:World):Prop:=OutKp B X Y∧Below n₀ X Y∧((∃cs e z,X.heap[B]?=some (.cells cs e z))→∃cs e z,Y.heap[B]?=some (.cells cs e z))
theorem kpAll_t {B n₀:Nat}{X Y Z:World}(h:KpAll B n₀ X Y)(k:KpAll B n₀ Y Z):KpAll B n₀ X Z:=⟨h.1.trans k.1,h.2.1.trans k.2.1,fun hb=>k.2.2 (h.2.2 hb)⟩
theorem kpAll_b {B n₀:Nat}{w:World}(hn:n₀≤w.heap.size)(hB:B<w.heap.size)(W:World)(l:Nat)(o o':Obj)(hl:w.heap.size≤l)(h:W.heap[l]?=some o)(ho:o.isCells=false)(hw:o.isWalk=false):KpAll B n₀ W (W.putObj l o'):=
 ⟨OutKp.put o' h ho (by omega),belowK_b hn W l o o' hl h ho hw,fun ⟨cs,e,z,hb⟩=>⟨cs,e,z,(World.putObj_heap_other (by omega)).trans hb⟩⟩
theorem kpAll_keep {B n₀:Nat}{X Y:World}(hn:n₀≤X.heap.size)(hB:∃o,X.heap[B]?=some o)(k:BA (fun _=>False) X Y):KpAll B n₀ X Y:=by
 refine⟨OutKp.of_blocks k.size hB fun j hj=>k.block j hj fun e=>e,k.below.mono hn,fun ⟨cs,e,z,hb⟩=>⟨cs,e,z,k.blk hb⟩⟩
theorem cells_own {β:Type}(b:Nat)(cs:β→Array Value)(e:TypeId):Own (fun s W=>W.heap[b]?=some (.cells (cs s) e (0,0))):=fun s X Y row hs hg hrow=>by
 refine(hg.block b (heap_lt hs) fun e'=>?_).trans hs;obtain⟨o,ho,hc⟩:=hrow b e'.symm;rw[hs]at ho;cases ho;cases hc
theorem cells_not_row {W:World}{b:Nat}{cs:Array Value}{t e:TypeId}{z:Nat×Nat}(h:W.heap[b]?=some (.cells cs t z))(hte:t≠e){base size k:Nat}{v:Value}{xs:List Value}(hr:W.ownsRow base e size v k xs):some b≠v.ownBlock:=by
 rcases hr.2 with⟨rfl,_⟩|⟨g,cap,cur,rfl,_,hgb,_⟩
 ·simp[Value.ownBlock]
 ·intro e';obtain rfl:b=g:=by simpa [Value.ownBlock]using e'
  rw[h]at hgb;simp only[Option.some.injEq,Obj.cells.injEq]at hgb;exact hte hgb.2.1
theorem cells_kept {W W':World}{b:Nat}{cs:Array Value}{t:TypeId}{z:Nat×Nat}{row:Option Nat}(h:W.heap[b]?=some (.cells cs t z))(hg:W.grownBy W' row)(hne:some b≠row):W'.heap[b]?=some (.cells cs t z):=(hg.block b (heap_lt h) hne).trans h
theorem cells_alloc {W:World}{b:Nat}{o:Obj}(h:W.heap[b]?=some o)(o':Obj):(W.alloc o').heap[b]?=some o:=(Below.heap_alloc W o' b (heap_lt h)).trans h
theorem add_off (g o j:Nat):(⟨g,o,none⟩:Addr).add j=⟨g,o+j,none⟩:=by
 unfold Addr.add;simp
theorem cells_at {w:World}{b:Nat}{cs:Array Value}{T:TypeId}(h:w.heap[b]?=some (.cells cs T (0,0)))(j:Nat)(u:Value)(hu:cs.toList[j]?=some u):w.cell? ((⟨b,0,none⟩:Addr).add j)=some u:=by
 rw[add_off,Nat.zero_add];exact BH h (by simpa using hu)
theorem info_token:(Tryz.prog.info? 117).map (fun i=>(i.zero,i.size,i.bytes))=some (some (.agg #[.int .i64 0,.string ⟨#[]⟩,.int .i64 0,.int .i64 0,.int .i64 0]),5,48):=by kernel_rfl
theorem scan_stops (n:Nat)(hn:1≤n)(B Bs:Nat)(s:ByteArray)(w W:World)(hT:TabS w)(hlen:s.size≤8192)(hBs:Bs<W.heap.size)(hne:Bs≠B)(hI:Inv B Bs s w W W):
  SeqStopsK Fence.wide n Tryz.prog 103 #[.pointer (some ⟨Bs,0,none⟩)] encI (KpAll B w.heap.size) (fun ys=>ys=scan s.data.toList 1 1 false) (fun pre=>pre <+: scan s.data.toList 1 1 false) (scan s.data.toList 1 1 false).length W:=fun l J Jx X hX hJ _ hY h0=>by
 obtain⟨cs,e,z,hb⟩:=hI.box;have hk:BA (fun _=>False) W X:=BA.of_below hX;have hIX:=hI.grow hk
 have hIX2:Inv B Bs s w X X:=⟨hIX.str,Nat.le_refl _,fun g hg=>by
  have h1:ptrAt B X=ptrAt B W:=ptrAt_same ((hk.blk hb).trans hb.symm);have h2:=hI.ptr g (by rw[←h1];exact hg);omega,hIX.box,hIX.below⟩
 exact scan1_in n hn l B Bs s w X hT hlen J Jx hJ (Nat.lt_of_lt_of_le hBs hX.size) hne hY hIX2 h0
theorem put3 {w:World}{B:Nat}{a b c:Value}{T:TypeId}(h:w.heap[B]?=some (.cells #[a,b,c] T (0,0)))(v0 v1 v2:Value):
  ∃wf,wf=((w.setCell ⟨B,0,none⟩ v0).setCell ⟨B,1,none⟩ v1).setCell ⟨B,2,none⟩ v2∧wf.heap[B]?=some (.cells #[v0,v1,v2] T (0,0))∧BA (fun k=>k=B) w wf:=by
 refine⟨_,rfl,put1 (i:=2) (put1 (i:=1) (put1 (i:=0) h v0) v1) v2,?_⟩;have s:∀(w:World) (i:Nat) (v:Value),BA (fun k=>k=B) w (w.setCell ⟨B,i,none⟩ v):=fun w i v=>BA.setCell _ _ _ rfl;exact((s _ _ _).trans (s _ _ _)).trans (s _ _ _)
theorem all_ok {s:ByteArray}(hlen:s.size≤8192)(h:okS (scan s.data.toList 1 1 false)):allT s.data.toList=(scan s.data.toList 1 1 false,⟨0,0,0⟩):=by
 have hl:s.data.toList.length=s.size:=by simp
 have e:scanS s.data.toList=scan s.data.toList 1 1 false:=rfl
 have hf:(scan s.data.toList 1 1 false).find? (fun i=>i.err != 0)=none:=by
  rw[List.find?_eq_none];intro i hi;simp[h i hi]
 unfold allT;rw[if_neg (by omega),e,hf]
theorem all_bad {s:ByteArray}{pre:List Item}{x:Item}(hlen:s.size≤8192)(h:pre++[x] <+: scan s.data.toList 1 1 false)(hok:okS pre)(hx:x.err≠0):allT s.data.toList=([],⟨x.err,x.line,x.col⟩):=by
 have hl:s.data.toList.length=s.size:=by simp
 have e:scanS s.data.toList=scan s.data.toList 1 1 false:=rfl;obtain⟨r,hr⟩:=h
 have hf:(scan s.data.toList 1 1 false).find? (fun i=>i.err != 0)=some x:=by
  rw[←hr,List.find?_append,List.find?_append]
  have:pre.find? (fun i=>i.err != 0)=none:=by
   rw[List.find?_eq_none];intro i hi;simp[hok i hi]
  rw[this];simp[hx]
 unfold allT;rw[if_neg (by omega),e,hf]
theorem all_in (s : ByteArray)(w : World)(hT : TabS w)(hlen : s.size≤8192) :
    CallsIn Fence.wide 6 Tryz.prog 73 #[.string s] w fun e w' => AllDone w e w' (allT s.data.toList).1 (allT s.data.toList).2 := by
  have hli : ¬(8192 : Int) < (s.size : Int) := by omega
  obtain⟨W1, b2, hW1, hb2, hB2, hk1, hs1⟩ := BD w (.cells #[.slice none 0 0] 111);obtain⟨W2, b3, hW2, hb3, hB3, hk2, hs2⟩ := BD W1 (.cells #[.int .i64 0, .int .i64 0, .int .i64 0] 30);obtain⟨W3, b4, hW3, hb4, hB4, hk3, hs3⟩ := BD W2 (.cells #[.slice none 0 0] 111);obtain⟨W0, bs, hW0, hbs, hBs, hk4, hs4⟩ := BD W3 (.cells #[.string s] 9);have hk0 : BA (fun _ => False) w W0 := ((hk1.trans hk2).trans hk3).trans hk4;have x2 : Boxed W0 b2 111 (.slice none 0 0) := ((hk2.trans hk3).trans hk4).blk hB2;have x3 := (hk3.trans hk4).blk hB3;have x4 : Boxed W0 b4 111 (.slice none 0 0) := hk4.blk hB4;refine callsIn_of_wp_marks Tryz.func73 rfl trivial ?_ rfl;simp only[Tryz.ntmps73, List.size_toArray, LC, List.length_nil, Nat.reduceAdd, Nat.reduceSub, Array.replicate_succ, Array.replicate_zero, List.push_toArray, List.append_toArray, List.nil_append, List.cons_append]
  gi_wp2_with (refine⟨trivial, ?_⟩; gi_at_call 94; refine(scan_call _ s _).mono ?_; rintro e w' ⟨rfl, rfl⟩)
  rw[← hW1, ← hW2, ← hW3, ← hW0, ← hb2, show b2 + 1 = b3 by omega, show b3 + 1 = b4 by omega, show b4 + 1 = bs by omega];have HN := Lib.hid (show w.heap.size = b2∧b2 + 1 = b3∧b3 + 1 = b4∧b4 + 1 = bs∧W0.heap.size = bs + 1 by omega);have HK0 := Lib.hid hk0;have HINV : Inv b4 bs s w W0 W0 := ⟨hBs, Nat.le_refl _, fun g hg => (by rw[ptrAt_box x4]at hg; cases hg), ⟨_, _, _, x4⟩, hk0.below⟩;clear hW1 hW2 hW3 hW0 hb2 hb3 hb4 hbs hB2 hB3 hB4 hBs hk1 hk2 hk3 hk4 hs1 hs2 hs3 hs4 hk0
  refine wpIn_rangeFunc_ownH rfl (by decide) (gf := 103) (lb := #[.pointer (some ⟨bs, 0, none⟩)]) rfl trivial (enters_of Tryz.func103 (by kernel_rfl) rfl)
    (scan_stops (6 - 1) (by decide) b4 bs s w W0 hT hlen (by have := HN.out; omega) (by have := HN.out; omega) HINV) kpAll_t (kpAll_b (by have := HN.out; omega) (by have := HN.out; omega)) (Below.refl _ _) (fun _ => rfl)
    (fun pre W => (((∃v, Boxed W b4 111 v∧W.ownsRow w.heap.size 117 5 v pre.length (cellsT pre)∧True)∧Boxed W b2 111 (.slice none 0 0))∧W.heap[b3]? = some (.cells #[.int .i64 0, .int .i64 0, .int .i64 0] 30 (0, 0)))∧(Below w.heap.size w W∧okS pre))
    (fun c pre W => (c = .ret∧Boxed W b2 111 (.slice none 0 0)∧∃pre' x, pre = pre' ++ [x]∧okS pre'∧x.err≠0∧W.heap[b3]? = some (.cells #[.int .i64 x.err, .int .i64 x.line, .int .i64 x.col] 30 (0, 0)))∧Below w.heap.size w W)
    (OwnFrom.and (OwnFrom.and (OwnFrom.and (Own.from (holdsRow_own w.heap.size b4 111 117 5 (fun pre => pre.length) cellsT (fun _ _ => True)) _) (Own.from (boxed_own _ _ _) _)) (Own.from (cells_own b3 (fun _ => #[.int .i64 0, .int .i64 0, .int .i64 0]) _) _)) (OwnFrom.and (ownFrom_below (Nat.le_refl _) (by have := HN.out; omega)) (ownFrom_pure _ _)))
    (fun c => OwnFrom.and (Own.from (fun pre A B row hs hg hr => by
      obtain⟨h1, h2, pre', x, h3, h4, h5, h6⟩ := hs;exact⟨h1, boxed_own b2 _ (fun (_ : Unit) => Value.slice none 0 0) () A B row h2 hg hr, pre', x, h3, h4, h5, cells_own b3 (fun (_ : Unit) => #[.int .i64 x.err, .int .i64 x.line, .int .i64 x.col]) _ () A B row h6 hg hr⟩) _) (ownFrom_below (Nat.le_refl _) (by have := HN.out; omega)))
    ⟨⟨⟨⟨_, x4, World.ownsRow_nil _ _ _ _, trivial⟩, x2⟩, x3⟩, HK0.out.below, fun i h => by cases h⟩
    (fun x a' W => ∃Bx, (Bx≠b2∧Bx≠b3)∧W.heap[Bx]? = some (.cells #[.int .i64 x.tok.kind, strV x.tok.text, .int .i64 x.tok.num, .int .i64 x.line, .int .i64 x.col] 117 (0, 0))∧a' = { tmps := #[.string s, undef, .pointer (some ⟨b2, 0, none⟩), .pointer (some ⟨b3, 0, none⟩), .pointer (some ⟨b4, 0, none⟩), .pointer (some ⟨Bx, 0, none⟩), .int .i64 x.err, .string s, .int .i64 s.size, .bool false, undef, .string s, .func (.func 103) #[] #[.pointer (some ⟨bs, 0, none⟩)], tokV x.tok x.line x.col, .int .i64 x.err, undef, undef, undef, undef, undef, undef, undef, undef, undef, undef, undef, undef, undef, undef], defers := [] })
    (fun x a' _ X Y row hs hg hr => by obtain⟨Bx, h1, h2, h3⟩ := hs; exact⟨Bx, h1, cells_own Bx (fun (_ : Unit) => #[.int .i64 x.tok.kind, strV x.tok.text, .int .i64 x.tok.num, .int .i64 x.line, .int .i64 x.col]) _ () X Y row h2 hg (fun r e => (hr r e).2), h3⟩)
    ?assign ?body ?done ?stop
  case assign =>
    rintro l pre x W K ⟨⟨⟨⟨v, hv, hrow, hG⟩, hb2⟩, hc3⟩, hB, hok⟩ hK;dsimp only[encI, tokV, strV]at hK ⊢
    gi_wp2
    exact hK _ _ ((KeepsOthers.alloc _ _).from _) (kpAll_keep hB.size ⟨_, hv⟩ (BA.alloc _ _ _)) ⟨⟨⟨⟨v, hv.alloc _, hrow.alloc _, hG⟩, hb2.alloc _⟩, cells_alloc hc3 _⟩, hB.alloc hB.size _, hok⟩
      ⟨W.heap.size, ⟨fun e => by have := hb2.lt; omega, fun e => by have := heap_lt hc3; omega⟩, heap_alloc_new W _, rfl⟩
  case body =>
    rintro l pre x a' W hl ⟨r, hr⟩ ⟨⟨⟨⟨v, hv, hrow, hG⟩, hb2⟩, hc3⟩, hB, hok⟩ ⟨Bx, hBx, hbx, rfl⟩ hlt;have hcv := hv.cell;dsimp only[strV, tokV]at hbx ⊢;obtain⟨c0, c1, c2, c3, c4, -⟩ := blk5 hbx;have hlen2 := (scan_len s.data.toList 1 1 false).1;have hsl : s.data.toList.length = s.size := by simp
    by_cases hx : x.err = 0
    · have hx1 : ((x.err : Int) != 0) = false := by simp[hx]
      obtain⟨i0, hi, hz0, hz1, hz2⟩ := info_parts info_token;have hle : w.heap.size≤b4 := by have := HN.out; omega
      gi_wp2_with (gi_at_builtin; refine wpListIn_append_own' _ rfl _ _ 111 rfl w.heap.size 117 i0 _ 5 48 Tryz.underlying111 hi hz0 hz1 hz2 rfl (by decide) v pre.length (cellsT pre) rfl (hrow.alloc _) ⟨W.heap.size, 0, none⟩ 1 1 [.int .i64 x.tok.kind, .string ⟨x.tok.text.toArray⟩, .int .i64 x.tok.num, .int .i64 x.line, .int .i64 x.col] rfl rfl (cells_at (heap_alloc_new W _)) (by simp[Value.oneCell']) (by unfold maxLen; omega) (by omega) (by have := hB.size; rw[World.size_alloc]; omega) ?_
                   intro v' w1 hown' hgrow _ hat; obtain⟨g', cap', rfl⟩ := ownsRow_succ hown';obtain⟨hv1, hv2, hr2, hk2, hbb2⟩ := hv.appended (by decide) hrow hB.size hle hown' hgrow;have hc1 := hv1.cell; have hf1 := hv1.frozen)
      refine⟨hk2.from _, ⟨OutKp.appended hv (by decide) hrow hown' hgrow hat, hbb2, fun _ => ⟨_, _, _, hv2⟩⟩, ⟨⟨⟨_, hv2, ?_, trivial⟩, ?_⟩, ?_⟩, hB.trans hbb2, ?_⟩
      · rw[cellsT_snoc, LA]; exact hr2
      · exact(((hb2.alloc _).kept hgrow (hb2.not_row (by decide) hrow))).other (by have := HN.out; omega) _
      · rw[setCell_other _ (by have := HN.out; omega)];exact cells_kept (cells_alloc hc3 _) hgrow (cells_not_row hc3 (by decide) hrow)
      · intro i hi;rcases List.mem_append.1 hi with h|h
        · exact hok i h
        · rw[List.mem_singleton]at h; rw[h]; exact hx
    · have hx1 : ((x.err : Int) != 0) = true := by simp[hx]
      obtain⟨hBx1, hBx2⟩ := hBx
      gi_wp2
      refine wpIn_own1 (by kernel_rfl) (by rfl) (by rintro⟨_, _, h⟩; exact h) b3 _ hc3 (fun i => [[], [], [1], [], [3], [0, 1, 2, 3, 4], [], [0, 1, 2, 3, 4, 5, 6]].getD i []) (fun i => if i = 7 then [8] else []) (fun i => if i = 7 then [8] else []) [7] (by kernel_rfl)
        (fun i => if i = 7 then some (sPut b3 30) else none) ?_
      have d3 : ∀w', BA (fun k => k = b3) W.drew w'→w'.cell? ⟨Bx, 3, none⟩ = some (.int .i64 x.line) := fun w' h => ((BA.drew _ W).trans h).cell c3 hBx2;have d4 : ∀w', BA (fun k => k = b3) W.drew w'→w'.cell? ⟨Bx, 4, none⟩ = some (.int .i64 x.col) := fun w' h => ((BA.drew _ W).trans h).cell c4 hBx2;have HB2 := Lib.hid (show ∀w', BA (fun k => k = b3) W.drew w'→Boxed w' b2 111 (.slice none 0 0)from fun w' h => BA.blkE ((BA.drew _ W).trans h) hb2 (by have := HN.out; omega));clear c0 c1 c2 c3 c4 hcv
      iterate 6
        apply BC rfl rfl
        · intro w' hk; go_simp; with_reducible rfl
        simp only[Act.put, List.setIfInBounds_toArray, List.set_cons_zero, List.set_cons_succ]
      refine lex_still rfl rfl ?_ ?_
      · intro w' hk;have hb := HB2.out w' hk;have e2 := hb.cell; have f2 := hb.frozen;have HS := Lib.hid (setCell_same hb);clear hb;go_simp
        rw[HS.out]
      simp only[Act.put];refine BE rfl rfl (loud_put b3 30 30 #[.int .i64 x.err, .int .i64 x.line, .int .i64 x.col] _ (.tmp 3) (.tmp 22) rfl rfl rfl 8 (by decide) (by decide) (fun w h => h) ⟨rfl, rfl⟩ rfl (by kernel_rfl) (by simp[Value.oneCell'])) fun g2 _ => ?_;simp only[sPut, Act.put];refine BP ?_;intro w9 hk9 hF _;have f0 : w9.heap[b3]? = some (.cells #[.int .i64 x.err, .int .i64 x.line, .int .i64 x.col] 30 (0, 0)) := (hF 7 (by decide)).1 _ (BV rfl rfl);have hkW : BA (fun k => k = b3) W w9 := (BA.drew _ W).trans hk9
      have HF := Lib.hid (show KeepsFrom W0.heap.size W w9∧((Code.ret = .ret∧Boxed w9 b2 111 (.slice none 0 0)∧∃pre' x', pre ++ [x] = pre' ++ [x']∧okS pre'∧x'.err≠0∧w9.heap[b3]? = some (.cells #[.int .i64 x'.err, .int .i64 x'.line, .int .i64 x'.col] 30 (0, 0)))∧Below w.heap.size w w9) from
        ⟨hkW.from_one hc3, ⟨rfl, HB2.out w9 hk9, pre, x, rfl, hok, hx, f0⟩, hB.trans (hkW.below_one (by have := HN.out; omega) hB.size)⟩)
      clear hk9 hF f0 hkW d3 d4 HB2 hB hb2 hc3 hv hrow
      gi_wp2
      obtain⟨h1, ⟨-, h2, pre', x', h3, h4, h5, h6⟩, h7⟩ := HF.out;exact⟨h1, ⟨rfl, h2, pre', x', h3, h4, h5, h6⟩, h7⟩
  case done =>
    rintro D zs W hD rfl ⟨⟨⟨⟨v, hv, hrow, hG⟩, hb2⟩, hc3⟩, hB, hok⟩ hK;have HAL := Lib.hid (all_ok hlen hok)
    have hv' : ∃p m c, v = .slice p m c := by
      rcases hrow.2 with⟨rfl, _⟩|⟨g, cap, cur, rfl, _⟩
      · exact⟨_, _, _, rfl⟩
      · exact⟨_, _, _, rfl⟩
    obtain⟨p, m, c, rfl⟩ := hv';have hcv := hv.cell;have e2 := hb2.cell; have f2 := hb2.frozen;have h23 : b3≠b2 := by have := HN.out; omega
    have hDb : b2≠D∧b3≠D := by have := HN.out; omega
    have hA := hb2.set (.slice p m c);have hA3 := (setCell_other (W := W) (.slice p m c) h23).trans hc3;have hAK : BA (fun k => k = b2) W (W.setCell ⟨b2, 0, none⟩ (.slice p m c)) := BA.setCell _ _ _ rfl;obtain⟨Wa, hWa⟩ : ∃Wa, W.setCell ⟨b2, 0, none⟩ (.slice p m c) = Wa := ⟨_, rfl⟩;rw[hWa]at hA hA3 hAK;obtain⟨Wb, hWb, hb3', hBK⟩ := put3 hA3 (.int .i64 0) (.int .i64 0) (.int .i64 0);have e30 := BH (k := 0) hA3 rfl;have e31 := BH (k := 1) hA3 rfl;have e32 := BH (k := 2) hA3 rfl;have e3f0 : Wa.frozen? ⟨b3, 0, none⟩ = false := by simp[World.frozen?, hA3]
    have e3f1 : Wa.frozen? ⟨b3, 1, none⟩ = false := by simp[World.frozen?, hA3]
    have e3f2 : Wa.frozen? ⟨b3, 2, none⟩ = false := by simp[World.frozen?, hA3]
    have hb2' : Wb.heap[b2]? = some (.cells #[.slice p m c] 111 (0, 0)) := BA.blkE hBK hA (fun e => h23 e.symm);have hKa : Wb.heap[D]? = some (.deferred (some [])) := BA.blkE hBK (BA.blkE hAK hK (fun e => hDb.1 e.symm)) (fun e => hDb.2 e.symm)
    have hrow2 : Wb.ownsRow w.heap.size 117 5 (.slice p m c) (scan s.data.toList 1 1 false).length (cellsT (scan s.data.toList 1 1 false)) := by
      refine(hrow.kept (row := some b2) ⟨hAK.os, hAK.tape, hAK.output, hAK.size, fun k hk hne => hAK.block k hk fun e => hne (by rw[e])⟩ (.inr (cells_not_row hb2 (by decide) hrow).symm)).kept (row := some b3) ⟨hBK.os, hBK.tape, hBK.output, hBK.size, fun k hk hne => hBK.block k hk fun e => hne (by rw[e])⟩ ?_;exact .inr (cells_not_row hc3 (by decide) hrow).symm
    have HFIN := Lib.hid (show (Wb.putObj D (.deferred none)).ownsRow w.heap.size 117 5 (.slice p m c) (scan s.data.toList 1 1 false).length (cellsT (scan s.data.toList 1 1 false))∧BA (fun _ => False) w (Wb.putObj D (.deferred none)) from
      ⟨ownsRow_putObj hrow2 _ hKa rfl, BA.of_below (((hB.trans (hAK.below_one (by have := HN.out; omega) hB.size)).trans (hBK.below_one (by have := HN.out; omega) (Nat.le_trans hB.size hAK.size))).trans (belowK_b (w := w) (Nat.le_refl _) Wb D _ _ (by have := HN.out; omega) hKa rfl rfl))⟩)
    have g2 : (Wb.putObj D (.deferred none)).cell? ⟨b2, 0, none⟩ = some (.slice p m c) := BH (k := 0) ((World.putObj_heap_other (by omega)).trans hb2') rfl;have q3 := (World.putObj_heap_other (w := Wb) (o := .deferred none) (show b3≠D by omega)).trans hb3';have g30 := BH (k := 0) q3 rfl;have g31 := BH (k := 1) q3 rfl;have g32 := BH (k := 2) q3 rfl;have HKA := Lib.hid hKa;clear hv hrow hb2 hc3 hA hA3 hAK hBK hb3' hb2' hKa hrow2 hK q3 hB hok hG
    gi_wp2
    rw[← hWb];refine⟨by simp, .inl ⟨_, _, rfl, run_takeDeferred HKA.out, ?_⟩⟩;refine⟨.tuple #[.slice p m c, .agg #[.int .i64 0, .int .i64 0, .int .i64 0]], by simp[results, Tryz.results73, go_sem, g2, g30, g31, g32], ?_⟩;rw[HAL.out];exact⟨_, rfl, HFIN.out.1, HFIN.out.2⟩
  case stop =>
    rintro D c pre W hD hSp ⟨⟨rfl, hb2, pre', x, hpre, hok, hx, hc3⟩, hB⟩ hK;subst hpre;have HAL := Lib.hid (all_bad hlen hSp hok hx);have hDb : b2≠D∧b3≠D := by have := HN.out; omega
    have g2 : (W.putObj D (.deferred none)).cell? ⟨b2, 0, none⟩ = some (.slice none 0 0) := BH (k := 0) ((World.putObj_heap_other (by omega)).trans hb2) rfl;have q3 := (World.putObj_heap_other (w := W) (o := .deferred none) (show b3≠D by omega)).trans hc3;have g30 := BH (k := 0) q3 rfl;have g31 := BH (k := 1) q3 rfl;have g32 := BH (k := 2) q3 rfl;have HFIN := Lib.hid (show BA (fun _ => False) w (W.putObj D (.deferred none))from BA.of_below (hB.trans (belowK_b (w := w) (Nat.le_refl _) W D _ _ (by have := HN.out; omega) hK rfl rfl)));have HKA := Lib.hid hK;clear hb2 hc3 hB hK q3 hx hok hSp
    gi_wp2
    refine⟨by simp, .inl ⟨_, _, rfl, run_takeDeferred HKA.out, ?_⟩⟩;refine⟨.tuple #[.slice none 0 0, .agg #[.int .i64 x.err, .int .i64 x.line, .int .i64 x.col]], by simp[results, Tryz.results73, go_sem, g2, g30, g31, g32], ?_⟩;rw[HAL.out];exact⟨_, rfl, World.ownsRow_nil _ _ _ _, HFIN.out⟩
open Go Go.RowKit Own
theorem cellsT_at:∀(l:List Item) (i k:Nat) (h:i<l.length),k<5→(cellsT l)[i * 5+k]?=(tokC l[i])[k]?
 | x::l,0,k,_,hk=>by
  show (tokC x++cellsT l)[0 * 5+k]?=_;rw[Nat.zero_mul,Nat.zero_add,List.getElem?_append_left (by simpa [tokC]using hk)];rfl
 | x::l,i+1,k,h,hk=>by
  show (tokC x++cellsT l)[(i+1) * 5+k]?=_;rw[List.getElem?_append_right (by simp[tokC];omega)];have e:(i+1) * 5+k - (tokC x).length=i * 5+k:=by simp[tokC];omega
  rw[e,cellsT_at l i k (by simpa using h) hk];rfl
def RowT (w:World)(p:Option Addr)(its:List Item):Prop:=∀i (h:i<its.length),∃g,p=some ⟨g,0,none⟩∧
 w.cell? ⟨g,i * 5,none⟩=some (.int .i64 (its[i].tok.kind:Nat))∧w.cell? ⟨g,i * 5+1,none⟩=some (strV its[i].tok.text)∧w.cell? ⟨g,i * 5+2,none⟩=some (.int .i64 (its[i].tok.num:Nat))∧
 w.cell? ⟨g,i * 5+3,none⟩=some (.int .i64 (its[i].line:Nat))∧w.cell? ⟨g,i * 5+4,none⟩=some (.int .i64 (its[i].col:Nat))
theorem RowT.of_owns {w:World}{base:Nat}{v:Value}{its:List Item}(h:w.ownsRow base 117 5 v its.length (cellsT its)):
  ∃p cap,v=.slice p its.length cap∧RowT w p its∧∀a,p=some a→base≤a.block∧a.block<w.heap.size:=by
 rcases h.2 with⟨rfl,h0⟩|⟨g,cap,cur,rfl,hb,hg,h1,h2,h3,h4⟩
 ·exact⟨none,0,by rw[h0],fun i hi=>absurd hi (by omega),fun a e=>by cases e⟩
 ·refine⟨some ⟨g,0,none⟩,cap,rfl,fun i hi=>⟨g,rfl,?_⟩,fun a e=>by cases e;exact⟨hb,heap_lt hg⟩⟩
  have hc:∀k u,k<5→(tokC its[i])[k]?=some u→w.cell? ⟨g,i * 5+k,none⟩=some u:=fun k u hk hu=>by
   refine BH hg ?_;have e:=cellsT_at its i k hi hk;rw[hu,←h4,List.getElem?_take]at e;split at e
   ·simpa using e
   ·cases e
  exact⟨hc 0 _ (by decide) rfl,hc 1 _ (by decide) rfl,hc 2 _ (by decide) rfl,hc 3 _ (by decide) rfl,hc 4 _ (by decide) rfl⟩
theorem blk3 {w:World}{B:Nat}{a b c:Value}{T:TypeId}(h:w.heap[B]?=some (.cells #[a,b,c] T (0,0))):
  w.cell? ⟨B,0,none⟩=some a∧w.cell? ⟨B,1,none⟩=some b∧w.cell? ⟨B,2,none⟩=some c∧w.frozen? ⟨B,0,none⟩=false∧w.frozen? ⟨B,1,none⟩=false∧w.frozen? ⟨B,2,none⟩=false:=by
 simp[World.cell?,World.frozen?,h]
theorem all_any (s:ByteArray)(w:World)(hT:TabS w):Calls Tryz.prog 73 #[.string s] w fun e w'=>AllDone w e w' (allT s.data.toList).1 (allT s.data.toList).2:=by
 by_cases h:s.size≤8192
 ·exact(callsIn_wide (n:=6)).1 (all_in s w hT h)
 ·have hi:(8192:Int)<(s.size:Int):=by omega
  have hl:s.data.toList.length=s.size:=by simp
  have HAL:=hid (show allT s.data.toList=([],⟨3,0,0⟩) by unfold allT;rw[if_pos (by omega)]);obtain⟨W1,b2,hW1,hb2,hB2,hk1,hs1⟩:=BD w (.cells #[.slice none 0 0] 111);obtain⟨W2,b3,hW2,hb3,hB3,hk2,hs2⟩:=BD W1 (.cells #[.int .i64 0,.int .i64 0,.int .i64 0] 30);have x2:Boxed W2 b2 111 (.slice none 0 0):=hk2.blk hB2;have e2:=x2.cell;have f2:=x2.frozen;have hN:b2+1=b3:=by omega
  have HN:=hid (show w.heap.size=b2∧b2+1=b3 by omega);have HK:=hid (hk1.trans hk2);have hA:=setCell_same x2;obtain⟨e30,e31,e32,e3f0,e3f1,e3f2⟩:=blk3 hB3;have h23:b3≠b2:=by omega
  obtain⟨Wb,hWb,hb3',hBK⟩:=put3 hB3 (.int .i64 3) (.int .i64 0) (.int .i64 0);have c2:=(show Boxed Wb b2 _ _ from BA.blkE hBK x2 (by omega)).cell;obtain⟨c30,c31,c32,-⟩:=blk3 hb3';have HBK:=hid hBK;have HA:=hid hA;have HWb:=hid hWb;clear hB2 hB3 hk1 hk2 hs1 hs2 h hb3' hBK x2 hl hA hWb;go_enter Tryz.func73,Tryz.ntmps73;go_upto_region 2 with fail;rw[←hW1,←hb2,←hW2,hN];clear hW1 hb2 hW2 hb3 hN;go_wp2
  rw[HA.out,←HWb.out];refine bodyPost_ret (v:=.tuple #[.slice none 0 0,.agg #[.int .i64 3,.int .i64 0,.int .i64 0]]) (by simp[results,Tryz.results73,go_sem,c2,c30,c31,c32]) rfl ?_;rw[HAL.out];exact⟨_,rfl,World.ownsRow_nil _ _ _ _,HK.out.new HBK.out fun k e=>by have h2:k=b3:=e;have:=HN.out;omega⟩
theorem eqF (a b c x y z:Int)(w:World):(Op.equalIn 10000 30 (.agg #[.int .i64 a,.int .i64 b,.int .i64 c]) (.agg #[.int .i64 x,.int .i64 y,.int .i64 z])).run Tryz.prog w=.ok (a==x && (b==y && c==z)) w:=by
 have u3:=Tryz.underlying3;have a3:=Tryz.isAgg3;have z3:=Tryz.sizeOf3;have u4:=Tryz.underlying28;have a4:=Tryz.isAgg28;have z4:=Tryz.sizeOf28;have hS:Tryz.prog.underlying 30=some (.struct (Tryz.prog.fieldsOf 30)):=by kernel_rfl
 rw[show (10000:Nat)=9999+1 from rfl,run_equalIn_agg w 9999 30 _ _ hS (by kernel_rfl)];simp only[Program.fieldsOf,Tryz.underlying30];go_simp
 by_cases h1:a=x<;>by_cases h2:b=y<;>by_cases h3:c=z<;>simp[h1,h2,h3]
theorem RowT.rowI {w:World}{p:Option Addr}{its:List Item}(h:RowT w p its):RowI w p its:=fun i hi=>by
 obtain⟨g,h1,h2,h3,h4,h5,h6⟩:=h i hi;refine⟨g,0,h1,?_⟩;simp only[Nat.zero_add];exact⟨h2,h3,h4,h5,h6⟩
abbrev TFa:TypeId:=30
theorem BS {w:World}{B:Nat}{a b c:Value}{T:TypeId}(h:w.heap[B]?=some (.cells #[a,b,c] T (0,0))):
  w.cell? ⟨B,0,none⟩=some a∧w.cell? ⟨B,1,none⟩=some b∧w.cell? ⟨B,2,none⟩=some c∧w.frozen? ⟨B,0,none⟩=false∧w.frozen? ⟨B,1,none⟩=false∧w.frozen? ⟨B,2,none⟩=false:=by
 simp[World.cell?,World.frozen?,h]
theorem all_room {s:ByteArray}{its:List Item}(h:allT s.data.toList=(its,⟨0,0,0⟩))(hne:its≠[])(w:World)(hT:TabS w):
  Calls Tryz.prog 73 #[.string s] w fun e w'=>∃g cap,e=.returned (.tuple #[.slice (some ⟨g,0,none⟩) its.length cap,.agg #[.int .i64 0,.int .i64 0,.int .i64 0]])∧RowI w' (some ⟨g,0,none⟩) its∧its.length≤cap∧cap≤9223372036854775807∧(g<w'.heap.size∧w.heap.size≤g)∧BA (fun _=>False) w w':=by
 refine(all_any s w hT).mono ?_;rintro e w' ⟨v,rfl,hrow,hk⟩;rw[h]at hrow ⊢;obtain⟨p,cap',hv,hrt,hlt⟩:=RowT.of_owns hrow;obtain⟨h0,⟨h1,h2⟩|⟨g,cap2,cur,hv2,hbs,hg,h2,h3,h4,h5⟩⟩:=hrow
 ·exact absurd (List.eq_nil_of_length_eq_zero h2) hne
 ·rw[hv2]at hv
  cases hv;subst hv2;exact⟨g,_,rfl,hrt.rowI,h2,by unfold maxLen at h3;omega,⟨(AG.1 hg).1,hbs⟩,hk⟩
theorem DV (op:Int)(w:World):Calls Tryz.prog 90 #[.int .i64 op] w fun e w'=>e=.returned (.bool (op==2 || op==4))∧w'=w:=by
 by_cases h2:op=2
 ·subst h2;go_enter Tryz.func90,Tryz.ntmps90;go_wp2_with fail;go_ret;exact⟨rfl,rfl⟩
 ·have h2b:(op==2)=false:=by simpa using h2
  rw[h2b,Bool.false_or];go_enter Tryz.func90,Tryz.ntmps90;go_wp2_with fail;go_ret;exact⟨rfl,rfl⟩
def opsV:Array Value:=#[.string ⟨#[]⟩,.string ⟨#[112,117,115,104]⟩,.string ⟨#[112,111,112]⟩,.string ⟨#[101,110,113]⟩,.string ⟨#[100,101,113]⟩,.string ⟨#[97,100,100]⟩,.string ⟨#[114,101,109,111,118,101]⟩,.string ⟨#[104,97,115]⟩]
theorem words_any (w:World):Calls Tryz.prog 128 #[] w fun e w'=>e=.returned (.agg opsV)∧BA (fun _=>False) w w':=by
 obtain⟨V,B,hV,hB,hb,hk,hs⟩:=BD w (.cells opsV 171);have HK:=hid hk;unfold opsV at hV hb ⊢;clear hk hs;go_enter Tryz.func128,Tryz.ntmps128;go_wp2_with fail;rw[←hV,←hB];refine bodyPost_ret (v:=.agg opsV) ?_ rfl ⟨rfl,HK.out⟩;unfold opsV;simp[results,Tryz.results128,go_sem,World.cell?,hb]
def kindsV:Array Value:=#[.string ⟨#[]⟩,.string ⟨#[115,116,97,99,107]⟩,.string ⟨#[113,117,101,117,101]⟩,.string ⟨#[115,101,116]⟩]
theorem kinds_any (w:World):Calls Tryz.prog 76 #[] w fun e w'=>e=.returned (.agg kindsV)∧BA (fun _=>False) w w':=by
 obtain⟨V,B,hV,hB,hb,hk,hs⟩:=BD w (.cells kindsV 122);have HK:=hid hk;unfold kindsV at hV hb ⊢;clear hk hs;go_enter Tryz.func76,Tryz.ntmps76;go_wp2_with fail;rw[←hV,←hB];refine bodyPost_ret (v:=.agg kindsV) ?_ rfl ⟨rfl,HK.out⟩;unfold kindsV;simp[results,Tryz.results76,go_sem,World.cell?,hb]
theorem ba_inj {a b:List UInt8}(h:(⟨a.toArray⟩:ByteArray)=⟨b.toArray⟩):a=b:=by
 have:=congrArg (fun x:ByteArray=>x.data.toList) h;simpa using this
theorem idxFrom_list (s:List UInt8):∀(L:List (List UInt8)) (i:Nat),Lib.idxFromS (L.map fun l=>(⟨l.toArray⟩:ByteArray)) ⟨s.toArray⟩ i=if L.contains s=true then ((i+L.idxOf s:Nat):Int) else -1
 |[],i=>by simp[Lib.idxFromS]
 | l::L,i=>by
  rw[List.map_cons];unfold Lib.idxFromS;by_cases h:l=s
  ·subst h;simp
  ·have h1:¬(⟨l.toArray⟩:ByteArray)=⟨s.toArray⟩:=fun e=>h (ba_inj e);have h2:¬s=l:=fun e=>h e.symm;rw[if_neg h1,idxFrom_list s L (i+1)];simp only[List.contains_cons,List.idxOf_cons,Bool.or_eq_true,beq_iff_eq];by_cases hc:L.contains s=true
   ·rw[if_pos hc,if_pos (.inr hc),show (l==s)=false by simpa using h];simp only[cond_false];omega
   ·rw[if_neg hc,if_neg (fun e=>e.elim h2 hc)]
theorem of_any (L:List (List UInt8))(hlen:L.length≤1000)(g o c:Nat)(w:World)(hc:∀j (h:j<L.length),w.cell? ⟨g,o+j,none⟩=some (.string ⟨L[j].toArray⟩))(s:List UInt8):
  Calls Tryz.prog 80 #[.slice (some ⟨g,o,none⟩) L.length c,.string ⟨s.toArray⟩] w fun e w'=>e=.returned (.int .i64 (ofL L s))∧w'=w:=by
 have hI:=Tryz.slices_Index_string g o L.length c (L.map fun l=>(⟨l.toArray⟩:ByteArray)) ⟨s.toArray⟩ w (by simp) (by omega) (fun j hj=>by
  have hj':j<L.length:=by simpa using hj
  rw[hc j hj'];simp[List.getD,hj'])
 rw[List.take_of_length_le (by simp),show Lib.idxOfS (L.map fun l=>(⟨l.toArray⟩:ByteArray)) ⟨s.toArray⟩=_ from idxFrom_list s L 0,Nat.zero_add]at hI;clear hc;unfold ofL;by_cases h0:s=[]
 ·subst h0;rw[if_pos rfl];obtain⟨k,hk⟩:∃k:Int,(if L.contains []=true then ((L.idxOf ([]:List UInt8):Nat):Int) else -1)=k:=⟨_,rfl⟩;rw[hk]at hI;have HI:=hid hI;clear hI hk;by_cases hp:0<k
  ·go_enter Tryz.func80,Tryz.ntmps80;go_wp2_with (go_at_call 32;refine HI.out.mono ?_;rintro e w' ⟨rfl,rfl⟩);go_ret;exact⟨rfl,rfl⟩
  ·go_enter Tryz.func80,Tryz.ntmps80;go_wp2_with (go_at_call 32;refine HI.out.mono ?_;rintro e w' ⟨rfl,rfl⟩);go_ret;exact⟨rfl,rfl⟩
 ·rw[if_neg h0];by_cases hh:L.contains s=true
  ·rw[if_pos hh]at hI ⊢;obtain⟨k,hk⟩:∃k,L.idxOf s=k:=⟨_,rfl⟩;rw[hk]at hI ⊢;have HI:=hid hI;clear hI hk hh;by_cases hp:0<k
   ·have hpi:(0:Int)<k:=by omega
    have he:s.isEmpty=false:=by
     cases s with
     |nil=>exact absurd rfl h0
     |cons _ _=>rfl
    go_enter Tryz.func80,Tryz.ntmps80;go_wp2_with (go_at_call 32;refine HI.out.mono ?_;rintro e w' ⟨rfl,rfl⟩);go_ret;exact⟨rfl,rfl⟩
   ·have hpi:k=0:=by omega
    subst hpi;go_enter Tryz.func80,Tryz.ntmps80;go_wp2_with (go_at_call 32;refine HI.out.mono ?_;rintro e w' ⟨rfl,rfl⟩);go_ret;exact⟨rfl,rfl⟩
  ·rw[if_neg hh]at hI ⊢;have HI:=hid hI;clear hI hh;go_enter Tryz.func80,Tryz.ntmps80;go_wp2_with (go_at_call 32;refine HI.out.mono ?_;rintro e w' ⟨rfl,rfl⟩);go_ret;exact⟨rfl,rfl⟩
theorem DX {P:Program}{w:World}{ops:Array Oper}{rest:List Oper}{o:Oper}{a:Act}{Q:Exit→Act→World→Prop}(hgd:o.guard=none)(s x:Operand)(t:TypeId)
  (ho:o.op=.call { callee:=.builtin .append,args:=#[s,x],argTypes:=#[t,t] }) (E:TypeId) (z:Value) (size bytes:Nat) (ht:P.underlying t=some (.slice E))
  (hinfo:(P.info? E).map (fun i=>(i.zero,i.size,i.bytes))=some (some z,size,bytes)) (hzs:z.cells.size=size) (hsz:0<size)
  (v:Value) (n:Nat) (xs:List Value) (hown:w.ownsRow 0 E size v n xs) (vb c:Nat) (news:List Value) (hl:news.length=size) (hv:w.heap[vb]?=some (.cells news.toArray E (0,0))) (h1:∀u∈news,u.oneCell'=true)
  (h63:n+1≤maxLen) (hbytes:(n+1) * bytes≤140737488355328) (hs:a.eval s=v) (hx:a.eval x=.slice (some ⟨vb,0,none⟩) 1 c)
  (h:∀v' w',w'.ownsRow 0 E size v' (n+1) (xs++news)→BA (fun b=>v.ownBlock=some b) w w'→(v'.ownBlock=v.ownBlock∨v'.ownBlock=some w.heap.size)→wpList P ops Q rest (a.put o.dst v') w'):
  wpList P ops Q (o::rest) a w:=by
 obtain⟨i0,hi,hz0,hz1,hz2⟩:∃i0,P.info? E=some i0∧i0.zero=some z∧i0.size=size∧i0.bytes=bytes:=by
  cases hi:P.info? E with
  |none=>rw[hi]at hinfo;cases hinfo
  | some i0=>
   rw[hi]at hinfo;simp only[Option.map_some,Option.some.injEq,Prod.mk.injEq]at hinfo;exact⟨i0,rfl,hinfo.1,hinfo.2.1,hinfo.2.2⟩
 obtain⟨v',w',e1,e2,e3,e4,e5⟩:=run_append_own_at (P:=P) w 0 t o.type E i0 z size bytes ht hi hz0 hz1 hz2 hzs hsz v n xs hown ⟨vb,0,none⟩ 1 c news (by rw[hl,Nat.one_mul])
  (fun j u hj=>by
   rw[add_off];exact BH hv (by simpa using hj)) h1 h63 hbytes (Nat.zero_le _)
 refine wpList_plain hgd fun K hK=>?_;unfold Oper.wp execOp;simp only[ho,resolve,invoke,builtin,Sem.run_bind,Sem.run_pure,Result.andThen_ok,List.map_toArray,List.map_cons,List.map_nil,hs,hx,e1];exact hK _ _ (h v' w' e2 (BA.grown e3 fun k hk=>hk) e5)
end Go.Proofs.YtknnmidnodeanaaGreatDoor
