import Derived.Test.YtomlffobbkcmdaaGreatDoorJs34
namespace Go.Proofs.YtomlffobbkcmdaaGreatDoor
open Go
theorem musA {s:List UInt8}{t:Item}{r:List Item}(h:isT t.tok s=true):CY [s] (t::r)=some r:=by
 unfold CY
 rw[if_pos (show BI (t::_) s=true from h)]
 rfl
theorem musB {s u:List UInt8}{t v:Item}{r:List Item}(h:isT t.tok s=true)(h':isT v.tok u=true):CY [s,u] (t::v::r)=some r:=by
 unfold CY
 rw[if_pos (show BI (t::_) s=true from h)]
 exact musA h'
theorem want1 {k:Nat}{t:Item}{r:List Item}(h:t.tok.kind=k):wantT k (t::r)=some (t,r):=by
 show (if t.tok.kind=k then some (t,r) else none)=_
 rw[if_pos h]
theorem okS_app {A B:List Item}(h:okS (A++B)):okS A∧okS B:=⟨fun i hi=>h i (List.mem_append_left _ hi),fun i hi=>h i (List.mem_append_right _ hi)⟩
theorem DD {a:Item}{B:List Item}(h:okS (a::B)):okS B:=fun i hi=>h i (List.mem_cons_of_mem _ hi)
theorem tksG_first:∀(n:Nat) (x:Gx),CM x≤n→mayG x=true→∃t ts,tksG x=t::ts∧t.kind≠1
 |0,x,h,_=>by cases x;unfold CM at h;omega
 | n+1,.mk k o m nm l c ks,h,hm=>by
  unfold CM at h
  unfold tksG
  rcases may_kinds hm with⟨rfl,h1,rfl,rfl,rfl⟩|⟨rfl,h1,rfl,rfl,rfl⟩|⟨rfl,h1,rfl,rfl,a,rfl,ha⟩|⟨rfl,h1,rfl,rfl,a,rfl,ha⟩|⟨rfl,h1,h2,rfl,rfl,a,b,rfl,ha,hb⟩
  ·exact⟨_,_,rfl,by simp⟩
  ·exact⟨_,_,rfl,by simp⟩
  ·exact⟨_,_,rfl,by simp⟩
  ·exact⟨_,_,rfl,by simp[sgT]⟩
  ·rw[if_neg (by decide),if_neg (by decide),if_neg (by decide),if_neg (by decide)]
   unfold BO at h
   obtain⟨t,ts,e1,e2⟩:=tksG_first n a (by omega) ha
   unfold tkA wrapT
   split
   ·exact⟨_,_,rfl,by decide⟩
   ·rw[e1]
    exact⟨_,_,rfl,e2⟩
theorem read_ex {x:Gx}(hm:mayG x=true){A R:List Item}{f:Nat}(hok:okS A)(ht:toks A=tksG x){t:Item}{r:List Item}(hR:R=t::r)(he:t.tok=sgT [41]∨t.tok=sgT [93]∨t.tok=sgT [59]∨t.tok=sgT [123])(hf:2 * FY x≤f):
  ∃y,exP f (A++R)=some (y,R)∧sameG (toG y) x=true:=by
 obtain⟨y,h1,h2⟩:=(read_all (CM x) x (Nat.le_refl _) hm).2.1 A R f hok ht (.inr ⟨t,r,hR,he⟩) hf
 exact⟨y,h1,h2.1⟩
theorem like1 {y:Ex}{x:Gx}(h:sameG (toG y) x=true):DM (toGL [y]) [x]=true:=by
 simp[toGL,DM,h]
theorem like2 {y z:Ex}{x u:Gx}(h:sameG (toG y) x=true)(h':sameG (toG z) u=true):DM (toGL [y,z]) [x,u]=true:=by
 simp[toGL,DM,h,h']
theorem like_st {k sz op l c:Nat}{nm val into cont:List UInt8}{ys:List Ex}{th el:List St}{K SZ OP L C:Int}{xs:List Gx}{thn els:List Gs}(hk:(k:Int)=K)(hs:(sz:Int)=SZ)(ho:(op:Int)=OP)(h1:DM (toGL ys) xs=true)(h2:DX (toSL th) thn=true)(h3:DX (toSL el) els=true):
  sameS (toS (.mk k nm sz op val into cont ys th el l c)) (.mk K nm SZ OP val into cont xs thn els L C)=true:=by
 unfold toS sameS
 simp[hk,hs,ho,h1,h2,h3]
theorem same0:DX (toSL []) []=true:=by unfold toSL DX;rfl
theorem sameG0:DM (toGL []) []=true:=by unfold toGL DM;rfl
def ReadS (s:Gs):Prop:=∀A R f,okS A→toks A=tksS s→BI R [101,108,115,101]=false→2 * sDeep s≤f→∃y,stmtP f (A++R)=some (y,R)∧sameS (toS y) s=true
theorem tks_first {s:Gs}(hm:mayS s=true):∃t ts,tksS s=t::ts∧isT t [125]=false∧isT t [101,108,115,101]=false:=by
 have hn:∀nm s,isT (nmT nm) s=false:=fun nm s=>by simp[isT,nmT]
 have hms:=mayS_iff _ hm
 cases hms with
 |var=>unfold tksS;exact⟨_,_,rfl,by decide,by decide⟩
 |set=>unfold tksS;exact⟨_,_,rfl,hn _ _,hn _ _⟩
 |array=>unfold tksS;exact⟨_,_,rfl,by decide,by decide⟩
 |put=>unfold tksS;exact⟨_,_,rfl,hn _ _,hn _ _⟩
 |ifs=>unfold tksS;exact⟨_,_,rfl,by decide,by decide⟩
 |whil=>unfold tksS;exact⟨_,_,rfl,by decide,by decide⟩
 |out=>unfold tksS;exact⟨_,_,rfl,by decide,by decide⟩
 |halt=>unfold tksS;exact⟨_,_,rfl,by decide,by decide⟩
 | pop _ _ _ _ _ _ h0=>
  unfold tksS
  rw[if_neg (by decide),if_neg (by decide),if_neg (by decide),if_neg (by decide),if_neg (by decide),if_neg (by decide),if_neg (by decide)]
  unfold callK
  rw[if_pos h0,if_pos h0]
  exact⟨_,_,rfl,hn _ _,hn _ _⟩
 | call _ _ _ _ _ _ h0 h24=>
  unfold tksS
  rw[if_neg (by decide),if_neg (by decide),if_neg (by decide),if_neg (by decide),if_neg (by decide),if_neg (by decide),if_neg (by decide)]
  unfold callK
  rw[if_neg h24,if_neg h24]
  exact⟨_,_,rfl,hn _ _,hn _ _⟩
theorem head_of {A R:List Item}{t:Tok}{ts:List Tok}{s:List UInt8}(h:toks A=t::ts)(hn:isT t s=false):BI (A++R) s=false:=by
 obtain⟨a,A',rfl,h1,-⟩:=BM h
 show isT a.tok s=false
 rw[h1];exact hn
theorem tksSL_cons (s:Gs)(l:List Gs):tksSL (s::l)=tksS s++tksSL l:=by conv=>lhs;unfold tksSL
theorem head_SL {A R:List Item}{l:List Gs}(hm:BX l=true)(h:toks A=tksSL l++[sgT [125]]):BI (A++R) [101,108,115,101]=false:=by
 cases l with
 |nil=>exact head_of (t:=sgT [125]) (ts:=[]) h (by decide)
 | cons s l=>
  unfold BX at hm
  rw[Bool.and_eq_true]at hm
  obtain⟨t,ts,e1,-,e2⟩:=tks_first hm.1
  rw[tksSL_cons,e1]at h
  exact head_of h e2
theorem read_SL (n:Nat)(IH:∀s,CS s≤n→mayS s=true→ReadS s):∀l:List Gs,BN l≤n→BX l=true→∀(A R:List Item) (f k:Nat),okS A→toks A=tksSL l++[sgT [125]]→2 * DC l≤f→l.length<k→
  ∃ys,stmtsL (stmtP f) k (A++R)=some (ys,R)∧DX (toSL ys) l=true
 | [],_,_,A,R,f,k,hok,ht,_,hk=>by
  obtain⟨k,rfl⟩:∃q,k=q+1:=⟨k - 1,by simp at hk;omega⟩
  obtain⟨a,A',rfl,h1,h2⟩:=BM (show toks A=sgT [125]::[]from ht)
  obtain rfl:=FQ h2
  refine⟨[],?_,by unfold toSL DX;rfl⟩
  unfold stmtsL
  rw[if_pos (by show isT a.tok [125]=true;rw[h1];decide)]
  rfl
 | s::l,hs,hm,A,R,f,k,hok,ht,hf,hk=>by
  obtain⟨k,rfl⟩:∃q,k=q+1:=⟨k - 1,by simp at hk;omega⟩
  unfold BX at hm
  rw[Bool.and_eq_true]at hm
  unfold BN at hs
  unfold DC at hf
  rw[tksSL_cons,List.append_assoc]at ht
  obtain⟨A1,A2,rfl,h1,h2⟩:=FR ht
  obtain⟨o1,o2⟩:=okS_app hok
  obtain⟨y,e1,e2⟩:=IH s (by omega) hm.1 A1 (A2++R) f o1 h1 (head_SL hm.2 h2) (by omega)
  obtain⟨ys,e3,e4⟩:=read_SL n IH l (by omega) hm.2 A2 R f k o2 h2 (by omega) (by simp at hk;omega)
  obtain⟨t,ts,e5,e6,-⟩:=tks_first hm.1
  rw[e5]at h1
  refine⟨y::ys,?_,by unfold toSL DX;rw[e2,e4];rfl⟩
  rw[List.append_assoc]
  unfold stmtsL
  rw[if_neg (by rw[head_of h1 e6];exact NT),e1]
  dsimp only
  rw[e3]
theorem tksSL_len:∀l:List Gs,BX l=true→l.length≤(tksSL l).length
 |[],_=>by simp
 | s::l,hm=>by
  unfold BX at hm
  rw[Bool.and_eq_true]at hm
  obtain⟨t,ts,e,-⟩:=tks_first hm.1
  have:=tksSL_len l hm.2
  rw[tksSL_cons,e]
  simp only[LB,LA]
  omega
theorem read_B (n:Nat)(IH:∀s,CS s≤n→mayS s=true→ReadS s)(l:List Gs)(hs:BN l≤n)(hm:BX l=true)(A R:List Item)(f:Nat)(hok:okS A)(ht:toks A=blockK l)(hf:2 * DC l≤f):
  ∃ys,blockOf (stmtP f) (A++R)=some (ys,R)∧DX (toSL ys) l=true:=by
 obtain⟨a,A',rfl,h1,h2⟩:=BM (show toks A=sgT [123]::(tksSL l++[sgT [125]])from ht)
 have hlen:=congrArg List.length h2
 have hl2:=tksSL_len l hm
 simp only[toks,List.length_map,LA,LB,List.length_nil]at hlen
 obtain⟨ys,e1,e2⟩:=read_SL n IH l hs hm A' R f ((a::A'++R).length+1) (DD hok) h2 hf (by simp only[LB,LA];omega)
 refine⟨ys,?_,e2⟩
 unfold blockOf
 rw[if_pos (by show isT a.tok [123]=true;rw[h1];decide)]
 exact e1
theorem of_op {q:Nat}(h1:1≤q)(h7:q≤7):ofL opL (opL.getD q [])=q:=by
 have key:∀q:Nat,q<8→1≤q→ofL opL (opL.getD q [])=q:=by decide
 exact key q (by omega) h1
theorem read_pop {q:Nat}(h24:q=2∨q=4){val cont:List UInt8}(hv:val≠[]){A R:List Item}{f:Nat}(ht:toks A=[wdT (opL.getD q []),sgT [40],nmT cont,sgT [41],sgT [59]]):
  callP f val (A++R)=some ((q,cont,[]),R):=by
 obtain⟨t1,A1,rfl,h1,ht⟩:=BM ht
 obtain⟨t2,A2,rfl,h2,ht⟩:=BM ht
 obtain⟨t3,A3,rfl,h3,ht⟩:=BM ht
 obtain⟨t4,A4,rfl,h4,ht⟩:=BM ht
 obtain⟨t5,A5,rfl,h5,ht⟩:=BM ht
 obtain rfl:=FQ ht
 have ho:ofL opL t1.tok.text=q:=by rw[h1];exact of_op (by omega) (by omega)
 have hk:t1.tok.kind=1:=by rw[h1];rfl
 have h3t:t3.tok.text=cont:=by rw[h3];rfl
 unfold callP
 simp only[List.cons_append,List.nil_append]
 rw[ho,hk,if_neg (by
  rintro (e|e|e)
  ·omega
  ·exact e rfl
  ·exact e (by simp[h24,hv])),musA (by rw[h2];decide)]
 dsimp only
 rw[want1 (k:=2) (by rw[h3];rfl)]
 dsimp only
 rw[if_pos h24,musB (by rw[h4];decide) (by rw[h5];decide)]
 dsimp only
 rw[h3t]
theorem read_call {q:Nat}(h1:1≤q)(h7:q≤7)(h24:¬(q=2∨q=4)){cont:List UInt8}{x:Gx}(hm:mayG x=true){A R:List Item}{f:Nat}(hok:okS A)(hf:2 * FY x≤f)(ht:toks A=[wdT (opL.getD q []),sgT [40],nmT cont,sgT [44]]++(tksG x++[sgT [41],sgT [59]])):
  ∃y,callP f [] (A++R)=some ((q,cont,[y]),R)∧sameG (toG y) x=true:=by
 obtain⟨t1,A1,rfl,e1,ht⟩:=BM ht
 obtain⟨t2,A2,rfl,e2,ht⟩:=BM ht
 obtain⟨t3,A3,rfl,e3,ht⟩:=BM ht
 obtain⟨t4,A4,rfl,e4,ht⟩:=BM ht
 obtain⟨A5,A6,rfl,h5,ht⟩:=FR (show toks A4=tksG x++[sgT [41],sgT [59]]from ht)
 obtain⟨t6,A7,rfl,e6,ht⟩:=BM ht
 obtain⟨t7,A8,rfl,e7,ht⟩:=BM ht
 obtain rfl:=FQ ht
 obtain⟨y,hy1,hy2⟩:=read_ex (f:=f) hm (okS_app (DD (DD (DD (DD hok))))).1 h5 (R:=t6::t7::R) rfl (.inl e6) hf
 have ho:ofL opL t1.tok.text=q:=by rw[e1];exact of_op h1 h7
 have hk:t1.tok.kind=1:=by rw[e1];rfl
 have h3t:t3.tok.text=cont:=by rw[e3];rfl
 refine⟨y,?_,hy2⟩
 unfold callP
 simp only[List.cons_append,List.append_assoc,List.nil_append]
 rw[ho,hk,if_neg (by
  rintro (e|e|e)
  ·omega
  ·exact e rfl
  ·exact e (by simp[h24])),musA (by rw[e2];decide)]
 dsimp only
 rw[want1 (k:=2) (by rw[e3];rfl)]
 dsimp only
 rw[if_neg h24,musA (by rw[e4];decide)]
 dsimp only
 rw[hy1]
 dsimp only
 rw[musB (by rw[e6];decide) (by rw[e7];decide)]
 dsimp only
 rw[h3t]
theorem isT_nm (nm s:List UInt8):isT (nmT nm) s=false:=by simp[isT,nmT]
theorem isT_nm' {t:Item}{nm s:List UInt8}(h:t.tok=nmT nm):¬isT t.tok s=true:=by rw[h,isT_nm];exact NT
theorem stmtP_plain {t:Item}{r:List Item}{nm:List UInt8}(h:t.tok=nmT nm)(f:Nat):stmtP (f+1) (t::r)=plainP f t (t::r):=by
 conv=>lhs;unfold stmtP
 dsimp only
 rw[if_neg (isT_nm' h),if_neg (isT_nm' h),if_neg (isT_nm' h),if_neg (isT_nm' h),if_neg (isT_nm' h),if_neg (isT_nm' h)]
theorem headIs_tok {t:Item}{r:List Item}{k:Tok}{s:List UInt8}(h:t.tok=k):BI (t::r) s=isT k s:=by show isT t.tok s=_;rw[h]
theorem read_S:∀(n:Nat) (s:Gs),CS s≤n→mayS s=true→ReadS s
 |0,s,h,_=>by cases s;unfold CS at h;omega
 | n+1,s,h,hm=>by
  have IH:=read_S n
  have hB:=read_B n IH
  have hms:=mayS_iff _ hm
  intro A R f hok ht hR hf
  obtain⟨f,rfl⟩:∃g,f=g+1:=⟨f - 1,by cases s;unfold sDeep at hf;omega⟩
  cases hms with
  | var nm x a b h1 h2=>
   unfold tksS at ht
   rw[if_neg (by decide),if_pos rfl,DP]at ht
   unfold sDeep CH CH at hf
   obtain⟨t1,A1,rfl,e1,ht⟩:=BM ht
   obtain⟨t2,A2,rfl,e2,ht⟩:=BM ht
   obtain⟨t3,A3,rfl,e3,ht⟩:=BM ht
   obtain⟨A4,A5,rfl,e4,ht⟩:=FR (show toks A3=tksG x++[sgT [59]]from ht)
   obtain⟨t6,A7,rfl,e6,ht⟩:=BM ht
   obtain rfl:=FQ ht
   obtain⟨y,hy1,hy2⟩:=read_ex (f:=f) h2 (okS_app (DD (DD (DD hok)))).1 e4 (R:=t6::R) rfl (.inr (.inr (.inl e6))) (by omega)
   have ht2:t2.tok.text=nm:=by rw[e2];rfl
   refine⟨.mk 1 nm 0 0 [] [] [] [y] [] [] t1.line t1.col,?_,like_st rfl rfl rfl (like1 hy2) same0 same0⟩
   unfold stmtP
   simp only[List.cons_append,List.append_assoc,List.nil_append]
   rw[if_pos (by rw[e1];decide),want1 (k:=2) (by rw[e2];rfl)]
   dsimp only
   rw[musA (by rw[e3];decide)]
   dsimp only
   rw[hy1]
   dsimp only
   rw[musA (by rw[e6];decide)]
   dsimp only
   rw[ht2]
  | set nm x a b h1 h2=>
   unfold tksS at ht
   rw[if_neg (by decide),if_neg (by decide),if_pos rfl,DP]at ht
   unfold sDeep CH CH at hf
   obtain⟨t2,A2,rfl,e2,ht⟩:=BM ht
   obtain⟨t3,A3,rfl,e3,ht⟩:=BM ht
   obtain⟨A4,A5,rfl,e4,ht⟩:=FR (show toks A3=tksG x++[sgT [59]]from ht)
   obtain⟨t6,A7,rfl,e6,ht⟩:=BM ht
   obtain rfl:=FQ ht
   obtain⟨y,hy1,hy2⟩:=read_ex (f:=f) h2 (okS_app (DD (DD hok))).1 e4 (R:=t6::R) rfl (.inr (.inr (.inl e6))) (by omega)
   have ht2:t2.tok.text=nm:=by rw[e2];rfl
   refine⟨.mk 3 nm 0 0 [] [] [] [y] [] [] t2.line t2.col,?_,like_st rfl rfl rfl (like1 hy2) same0 same0⟩
   simp only[List.cons_append,List.append_assoc,List.nil_append]
   rw[stmtP_plain e2]
   unfold plainP
   rw[want1 (k:=2) (by rw[e2];rfl)]
   dsimp only
   rw[headIs_tok e3,headIs_tok e3,if_neg (by decide),if_neg (by decide),musA (by rw[e3];decide)]
   dsimp only
   obtain⟨k,ks,hk1,hk2⟩:=tksG_first (CM x) x (Nat.le_refl _) h2
   rw[hk1]at e4
   obtain⟨u,A8,rfl,e8,-⟩:=BM e4
   simp only[List.cons_append]at hy1 ⊢
   rw[if_neg (by rw[e8];exact hk2),hy1]
   dsimp only
   rw[musA (by rw[e6];decide)]
   dsimp only
   rw[ht2]
  | array nm sz a b h1 h2=>
   unfold tksS at ht
   rw[if_neg (by decide),if_neg (by decide),if_neg (by decide),if_pos rfl]at ht
   obtain⟨t1,A1,rfl,e1,ht⟩:=BM ht
   obtain⟨t2,A2,rfl,e2,ht⟩:=BM ht
   obtain⟨t3,A3,rfl,e3,ht⟩:=BM ht
   obtain⟨t4,A4,rfl,e4,ht⟩:=BM ht
   obtain⟨t5,A5,rfl,e5,ht⟩:=BM ht
   obtain⟨t6,A6,rfl,e6,ht⟩:=BM ht
   obtain rfl:=FQ ht
   have ht2:t2.tok.text=nm:=by rw[e2];rfl
   have ht4:t4.tok.num=sz.toNat:=by rw[e4];rfl
   refine⟨.mk 2 nm sz.toNat 0 [] [] [] [] [] [] t1.line t1.col,?_,like_st rfl (by omega) rfl sameG0 same0 same0⟩
   unfold stmtP
   simp only[List.cons_append,List.nil_append]
   rw[if_neg (by rw[e1];decide),if_pos (by rw[e1];decide),want1 (k:=2) (by rw[e2];rfl)]
   dsimp only
   rw[musA (by rw[e3];decide)]
   dsimp only
   rw[want1 (k:=3) (by rw[e4];rfl)]
   dsimp only
   rw[musB (by rw[e5];decide) (by rw[e6];decide)]
   dsimp only
   rw[ht2,ht4]
  | put nm x u a b h1 h2 h3=>
   unfold tksS at ht
   rw[if_neg (by decide),if_neg (by decide),if_neg (by decide),if_neg (by decide),if_pos rfl,DP,List.tail_cons,DP]at ht
   unfold sDeep CH CH CH at hf
   obtain⟨t1,A1,rfl,e1,ht⟩:=BM ht
   obtain⟨t2,A2,rfl,e2,ht⟩:=BM ht
   obtain⟨A3,A4,rfl,e3,ht⟩:=FR (show toks A2=tksG x++([sgT [93],sgT [61]]++(tksG u++[sgT [59]]))from ht)
   obtain⟨t5,A5,rfl,e5,ht⟩:=BM ht
   obtain⟨t6,A6,rfl,e6,ht⟩:=BM ht
   obtain⟨A7,A8,rfl,e7,ht⟩:=FR (show toks A6=tksG u++[sgT [59]]from ht)
   obtain⟨t9,A9,rfl,e9,ht⟩:=BM ht
   obtain rfl:=FQ ht
   have ho:=okS_app (DD (DD hok))
   obtain⟨y,hy1,hy2⟩:=read_ex (f:=f) h2 ho.1 e3 (R:=t5::t6::(A7++t9::R)) rfl (.inr (.inl e5)) (by omega)
   obtain⟨z,hz1,hz2⟩:=read_ex (f:=f) h3 (okS_app (DD (DD ho.2))).1 e7 (R:=t9::R) rfl (.inr (.inr (.inl e9))) (by omega)
   have ht1:t1.tok.text=nm:=by rw[e1];rfl
   refine⟨.mk 4 nm 0 0 [] [] [] [y,z] [] [] t1.line t1.col,?_,like_st rfl rfl rfl (like2 hy2 hz2) same0 same0⟩
   simp only[List.cons_append,List.append_assoc,List.nil_append]
   rw[stmtP_plain e1]
   unfold plainP
   rw[want1 (k:=2) (by rw[e1];rfl)]
   dsimp only
   rw[headIs_tok e2,if_pos (by decide),List.tail_cons,hy1]
   dsimp only
   rw[musB (by rw[e5];decide) (by rw[e6];decide)]
   dsimp only
   rw[hz1]
   dsimp only
   rw[musA (by rw[e9];decide)]
   dsimp only
   rw[ht1]
  | ifs x thn els a b h1 h2 h3=>
   unfold tksS at ht
   rw[if_pos (by decide),if_pos rfl,DP]at ht
   unfold sDeep CH CH at hf
   unfold CS at h
   obtain⟨t1,A1,rfl,e1,ht⟩:=BM ht
   obtain⟨A3,A4,rfl,e3,ht⟩:=FR (show toks A1=tksG x++([sgT [123]]++(tksSL thn++([sgT [125]]++elsK els)))from ht)
   obtain⟨A5,A6,rfl,e5,ht⟩:=FR (show toks A4=blockK thn++elsK els by rw[ht];unfold blockK;simp only[List.append_assoc])
   have ho:=okS_app (DD hok)
   have ho2:=okS_app ho.2
   obtain⟨t7,A7,e8,e7,-⟩:=BM (show toks A5=sgT [123]::(tksSL thn++[sgT [125]])from e5)
   obtain⟨y,hy1,hy2⟩:=read_ex (f:=f) h1 ho.1 e3 (R:=A5++(A6++R)) (by rw[e8];rfl) (.inr (.inr (.inr e7))) (by omega)
   obtain⟨ys,hb1,hb2⟩:=hB thn (by omega) h2 A5 (A6++R) f ho2.1 e5 (by omega)
   cases els with
   | nil=>
    unfold elsK at ht
    obtain rfl:=FQ ht
    rw[List.nil_append]at hb1 hy1
    refine⟨.mk 5 [] 0 0 [] [] [] [y] ys [] t1.line t1.col,?_,like_st rfl rfl rfl (like1 hy2) hb2 same0⟩
    unfold stmtP
    simp only[List.cons_append,List.append_assoc,List.nil_append]
    rw[if_neg (by rw[e1];decide),if_neg (by rw[e1];decide),if_pos (by rw[e1];decide),hy1]
    dsimp only
    rw[hb1]
    dsimp only
    rw[if_neg (by rw[hR];exact NT)]
   | cons q l=>
    rw[elsK_cons]at ht
    obtain⟨t9,A9,rfl,e9,ht⟩:=BM ht
    obtain⟨zs,hz1,hz2⟩:=hB (q::l) (by omega) h3 A9 R f (DD ho2.2) ht (by omega)
    refine⟨.mk 5 [] 0 0 [] [] [] [y] ys zs t1.line t1.col,?_,like_st rfl rfl rfl (like1 hy2) hb2 hz2⟩
    unfold stmtP
    simp only[List.cons_append,List.append_assoc]at hy1 hb1 ⊢
    rw[if_neg (by rw[e1];decide),if_neg (by rw[e1];decide),if_pos (by rw[e1];decide),hy1]
    dsimp only
    rw[hb1]
    dsimp only
    rw[headIs_tok e9,if_pos (by decide),List.tail_cons,hz1]
  | whil x thn a b h1 h2=>
   unfold tksS at ht
   rw[if_pos (by decide),if_neg (by decide),DP]at ht
   unfold sDeep CH CH at hf
   unfold CS at h
   obtain⟨t1,A1,rfl,e1,ht⟩:=BM ht
   obtain⟨A3,A4,rfl,e3,ht⟩:=FR (show toks A1=tksG x++([sgT [123]]++(tksSL thn++([sgT [125]]++elsK [])))from ht)
   have e5:toks A4=blockK thn:=by rw[ht];unfold blockK elsK;simp only[List.append_nil]
   have ho:=okS_app (DD hok)
   obtain⟨t7,A7,e8,e7,-⟩:=BM (show toks A4=sgT [123]::(tksSL thn++[sgT [125]])from e5)
   obtain⟨y,hy1,hy2⟩:=read_ex (f:=f) h1 ho.1 e3 (R:=A4++R) (by rw[e8];rfl) (.inr (.inr (.inr e7))) (by omega)
   obtain⟨ys,hb1,hb2⟩:=hB thn (by omega) h2 A4 R f ho.2 e5 (by omega)
   refine⟨.mk 6 [] 0 0 [] [] [] [y] ys [] t1.line t1.col,?_,like_st rfl rfl rfl (like1 hy2) hb2 same0⟩
   unfold stmtP
   simp only[List.cons_append,List.append_assoc]
   rw[if_neg (by rw[e1];decide),if_neg (by rw[e1];decide),if_neg (by rw[e1];decide),if_pos (by rw[e1];decide),hy1]
   dsimp only
   rw[hb1]
  | out x a b h1=>
   unfold tksS at ht
   rw[if_neg (by decide),if_neg (by decide),if_neg (by decide),if_neg (by decide),if_neg (by decide),if_pos rfl,DP]at ht
   unfold sDeep CH CH at hf
   obtain⟨t1,A1,rfl,e1,ht⟩:=BM ht
   obtain⟨A4,A5,rfl,e4,ht⟩:=FR (show toks A1=tksG x++[sgT [59]]from ht)
   obtain⟨t6,A7,rfl,e6,ht⟩:=BM ht
   obtain rfl:=FQ ht
   obtain⟨y,hy1,hy2⟩:=read_ex (f:=f) h1 (okS_app (DD hok)).1 e4 (R:=t6::R) rfl (.inr (.inr (.inl e6))) (by omega)
   refine⟨.mk 7 [] 0 0 [] [] [] [y] [] [] t1.line t1.col,?_,like_st rfl rfl rfl (like1 hy2) same0 same0⟩
   unfold stmtP
   simp only[List.cons_append,List.append_assoc,List.nil_append]
   rw[if_neg (by rw[e1];decide),if_neg (by rw[e1];decide),if_neg (by rw[e1];decide),if_neg (by rw[e1];decide),if_pos (by rw[e1];decide),hy1]
   dsimp only
   rw[musA (by rw[e6];decide)]
  | halt x a b h1=>
   unfold tksS at ht
   rw[if_neg (by decide),if_neg (by decide),if_neg (by decide),if_neg (by decide),if_neg (by decide),if_neg (by decide),if_pos rfl,DP]at ht
   unfold sDeep CH CH at hf
   obtain⟨t1,A1,rfl,e1,ht⟩:=BM ht
   obtain⟨A4,A5,rfl,e4,ht⟩:=FR (show toks A1=tksG x++[sgT [59]]from ht)
   obtain⟨t6,A7,rfl,e6,ht⟩:=BM ht
   obtain rfl:=FQ ht
   obtain⟨y,hy1,hy2⟩:=read_ex (f:=f) h1 (okS_app (DD hok)).1 e4 (R:=t6::R) rfl (.inr (.inr (.inl e6))) (by omega)
   refine⟨.mk 8 [] 0 0 [] [] [] [y] [] [] t1.line t1.col,?_,like_st rfl rfl rfl (like1 hy2) same0 same0⟩
   unfold stmtP
   simp only[List.cons_append,List.append_assoc,List.nil_append]
   rw[if_neg (by rw[e1];decide),if_neg (by rw[e1];decide),if_neg (by rw[e1];decide),if_neg (by rw[e1];decide),if_neg (by rw[e1];decide),if_pos (by rw[e1];decide),hy1]
   dsimp only
   rw[musA (by rw[e6];decide)]
  | pop op val into cont a b h0 h1 h2 h3=>
   obtain⟨q,rfl⟩:∃q:Nat,op=q:=⟨op.toNat,by omega⟩
   unfold tksS at ht
   rw[if_neg (by decide),if_neg (by decide),if_neg (by decide),if_neg (by decide),if_neg (by decide),if_neg (by decide),if_neg (by decide)]at ht
   unfold callK at ht
   rw[if_pos h0,if_pos h0,Int.toNat_natCast]at ht
   obtain⟨t1,A1,rfl,e1,ht⟩:=BM ht
   obtain⟨t2,A2,rfl,e2,ht⟩:=BM ht
   obtain⟨t3,A3,rfl,e3,ht⟩:=BM ht
   obtain⟨t4,A4,rfl,e4,ht⟩:=BM ht
   have hv:val≠[]:=by rintro rfl;exact absurd h1 (by decide)
   have hc:=read_pop (q:=q) (R:=R) (f:=f) (by omega) hv (cont:=cont) (A:=A4) ht
   have ht1:t1.tok.text=val:=by rw[e1];rfl
   have ht3:t3.tok.text=into:=by rw[e3];rfl
   refine⟨.mk 9 [] 0 q val into cont [] [] [] t1.line t1.col,?_,like_st rfl rfl rfl sameG0 same0 same0⟩
   simp only[List.cons_append]
   rw[stmtP_plain e1]
   unfold plainP
   rw[want1 (k:=2) (by rw[e1];rfl)]
   dsimp only
   rw[headIs_tok e2,headIs_tok e2,if_neg (by decide),if_pos (by decide),List.tail_cons,want1 (k:=2) (by rw[e3];rfl)]
   dsimp only
   rw[musA (by rw[e4];decide)]
   dsimp only
   rw[ht1,hc]
   dsimp only
   rw[ht3]
  | call op into cont x a b h0 h24 h2 h3 h4=>
   obtain⟨q,rfl⟩:∃q:Nat,op=q:=⟨op.toNat,by omega⟩
   unfold tksS at ht
   rw[if_neg (by decide),if_neg (by decide),if_neg (by decide),if_neg (by decide),if_neg (by decide),if_neg (by decide),if_neg (by decide)]at ht
   unfold callK at ht
   rw[if_neg h24,if_neg h24,Int.toNat_natCast,DP]at ht
   unfold sDeep CH CH at hf
   obtain⟨t1,A1,rfl,e1,ht⟩:=BM ht
   obtain⟨t4,A4,rfl,e4,ht⟩:=BM ht
   obtain⟨y,hc,hy2⟩:=read_call (q:=q) (R:=R) (f:=f) (by omega) (by omega) (by omega) h4 (cont:=cont) (A:=A4) (DD (DD hok)) (by omega) (ht.trans (by simp))
   have hk4:∃u A5,A4=u::A5∧u.tok.kind=1:=by
    obtain⟨u,A5,e5,e6,-⟩:=BM ht
    exact⟨u,A5,e5,by rw[e6];rfl⟩
   obtain⟨u,A5,rfl,hu⟩:=hk4
   have ht1:t1.tok.text=into:=by rw[e1];rfl
   refine⟨.mk 9 [] 0 q [] into cont [y] [] [] t1.line t1.col,?_,like_st rfl rfl rfl (like1 hy2) same0 same0⟩
   simp only[List.cons_append]at hc ⊢
   rw[stmtP_plain e1]
   unfold plainP
   rw[want1 (k:=2) (by rw[e1];rfl)]
   dsimp only
   rw[headIs_tok e4,headIs_tok e4,if_neg (by decide),if_neg (by decide),musA (by rw[e4];decide)]
   dsimp only
   rw[if_pos hu,hc]
   dsimp only
   rw[ht1]
theorem sameC_of {k l c:Nat}{nm:List UInt8}{d:Gc}(h1:(k:Int)=d.kind)(h2:nm=d.name):sameC (toC ⟨k,nm,l,c⟩) d=true:=by
 unfold sameC toC
 simp[h1,h2]
theorem read_C:∀(l:List Gc),(∀c∈l,mayC c=true)→∀(A R:List Item) (k:Nat),toks A=l.flatMap contK→(∀t r,R=t::r→ofL DE t.tok.text=0)→l.length<k→
  ∃cs,contsP k (A++R)=some (cs,R)∧alls sameC (cs.map toC) l=true
 | [],_,A,R,k,ht,hR,hk=>by
  obtain⟨k,rfl⟩:∃q,k=q+1:=⟨k - 1,by simp at hk;omega⟩
  obtain rfl:=FQ ht
  refine⟨[],?_,rfl⟩
  rw[List.nil_append]
  cases R with
  |nil=>rfl
  | cons t r=>
   unfold contsP
   dsimp only
   rw[if_pos (.inl (hR t r rfl))]
 | c::l,hm,A,R,k,ht,hR,hk=>by
  obtain⟨k,rfl⟩:∃q,k=q+1:=⟨k - 1,by simp at hk;omega⟩
  rw[List.flatMap_cons]at ht
  obtain⟨t1,A1,rfl,e1,ht⟩:=BM ht
  obtain⟨t2,A2,rfl,e2,ht⟩:=BM ht
  obtain⟨t3,A3,rfl,e3,ht⟩:=BM ht
  obtain⟨cs,h1,h2⟩:=read_C l (fun c hc=>hm c (List.mem_cons_of_mem _ hc)) A3 R k ht hR (by simp at hk;omega)
  have h:=hm c List.mem_cons_self
  unfold mayC at h
  simp only[Bool.not_eq_true',Bool.or_eq_false_iff,decide_eq_false_iff_not,Bool.not_eq_false']at h
  obtain⟨q,hq⟩:∃q:Nat,c.kind=q:=⟨c.kind.toNat,by omega⟩
  rw[hq,Int.toNat_natCast]at e1
  have ho:ofL DE t1.tok.text=q:=by
   rw[e1]
   have key:∀q:Nat,q<4→1≤q→ofL DE (DE.getD q [])=q:=by decide
   exact key q (by omega) (by omega)
  have hk1:t1.tok.kind=1:=by rw[e1];rfl
  have ht2:t2.tok.text=c.name:=by rw[e2];rfl
  refine⟨⟨q,c.name,t1.line,t1.col⟩::cs,?_,?_⟩
  ·unfold contsP
   simp only[List.cons_append]
   rw[ho,hk1,if_neg (by omega),want1 (k:=2) (by rw[e2];rfl)]
   dsimp only
   rw[musA (by rw[e3];decide)]
   dsimp only
   rw[h1,ht2]
  ·rw[List.map_cons]
   unfold alls
   rw[h2,sameC_of hq.symm rfl]
   rfl
theorem read_T (f:Nat):∀(l:List (List Gs)),(∀b∈l,BX b=true)→∀(A:List Item) (k:Nat),okS A→toks A=l.flatMap thK→l.length<k→(∀b∈l,2 * DC b≤f)→
  ∃ths,threadsP f k A=some ths∧alls DX (ths.map toSL) l=true
 | [],_,A,k,_,ht,hk,_=>by
  obtain⟨k,rfl⟩:∃q,k=q+1:=⟨k - 1,by simp at hk;omega⟩
  obtain rfl:=FQ ht
  exact⟨[],rfl,rfl⟩
 | b::l,hm,A,k,hok,ht,hk,hf=>by
  obtain⟨k,rfl⟩:∃q,k=q+1:=⟨k - 1,by simp at hk;omega⟩
  rw[List.flatMap_cons]at ht
  obtain⟨t1,A1,rfl,e1,ht⟩:=BM ht
  obtain⟨A2,A3,rfl,e2,ht⟩:=FR (show toks A1=blockK b++l.flatMap thK from ht)
  have ho:=okS_app (DD hok)
  obtain⟨ys,h1,h2⟩:=read_B (BN b) (fun s hs=>read_S _ s hs) b (Nat.le_refl _) (hm b List.mem_cons_self) A2 A3 f ho.1 e2 (hf b List.mem_cons_self)
  obtain⟨ths,h3,h4⟩:=read_T f l (fun b hb=>hm b (List.mem_cons_of_mem _ hb)) A3 k ho.2 ht (by simp at hk;omega) fun b hb=>hf b (List.mem_cons_of_mem _ hb)
  refine⟨ys::ths,?_,?_⟩
  ·unfold threadsP
   dsimp only
   rw[musA (by rw[e1];decide)]
   dsimp only
   unfold blockP
   rw[h1]
   dsimp only
   rw[h3]
  ·rw[List.map_cons]
   unfold alls
   rw[h2,h4]
   rfl
theorem hDeep_mem {l:List (List Gs)}{b:List Gs}(h:b∈l):DC b≤hDeep l:=by
 induction l with
 |nil=>cases h
 | cons x l ih=>
  unfold hDeep
  rcases List.mem_cons.1 h with rfl|h
  ·omega
  ·have:=ih h
   omega
theorem flat_len {α:Type}(f:α→List Tok)(hf:∀x,(f x).length≠0):∀l:List α,l.length≤(l.flatMap f).length
 |[]=>by simp
 | x::l=>by
  have:=flat_len f hf l
  have:=hf x
  rw[List.flatMap_cons,LA,LB]
  omega
theorem prog_read (p:Gp)(hc:DY p=true)(hp:p.pool≤9223372036854775807)(hf:∀l∈p.threads,DT l)(hlen:(putL (tokP p)).length≤8192):
  ∃its pr,allT (putL (tokP p))=(its,⟨0,0,0⟩)∧progP (2 * hDeep p.threads) its=some pr∧sameP p (toP pr)=true∧its.length≤8192∧its≠[]∧∀t∈its,ofL DE t.tok.text≠0→t.tok.kind=1:=by
 obtain⟨its,h1,h2,h3,h4,h5,h6⟩:=text_toks p hc hp hf hlen
 unfold DY at hc
 simp only[Bool.and_eq_true,decide_eq_true_eq,List.all_eq_true]at hc
 obtain⟨c0,c1,c2⟩:=hc
 unfold tksP at h2
 obtain⟨t1,A1,rfl,e1,ht⟩:=BM h2
 obtain⟨t2,A2,rfl,e2,ht⟩:=BM ht
 obtain⟨t3,A3,rfl,e3,ht⟩:=BM ht
 obtain⟨A4,A5,rfl,e4,ht⟩:=FR (show toks A3=p.conts.flatMap contK++p.threads.flatMap thK from ht)
 have ho:=okS_app (DD (DD (DD h3)))
 have hl4:p.conts.length≤A4.length:=by
  have h:=congrArg List.length e4
  have h':=flat_len contK (fun _=>by unfold contK;simp) p.conts
  simp only[toks,List.length_map]at h
  omega
 have hl5:p.threads.length≤A5.length:=by
  have h:=congrArg List.length ht
  have h':=flat_len thK (fun _=>by unfold thK;simp) p.threads
  simp only[toks,List.length_map]at h
  omega
 obtain⟨cs,g1,g2⟩:=read_C p.conts c1 A4 A5 ((A4++A5).length+1) e4 (by
  rintro t r rfl
  cases hth:p.threads with
  |nil=>rw[hth]at ht;cases ht
  | cons b l=>
   rw[hth,List.flatMap_cons]at ht
   obtain⟨u,A6,e,hu,-⟩:=BM ht
   injection e with e _
   subst e
   rw[hu]
   rfl) (by simp only[LA];omega)
 obtain⟨ths,g3,g4⟩:=read_T (2 * hDeep p.threads) p.threads c2 A5 (A5.length+1) ho.2 ht (by omega) fun b hb=>by have:=hDeep_mem hb;omega
 have hn:t2.tok.num=p.pool.toNat:=by rw[e2];rfl
 refine⟨_,⟨p.pool.toNat,cs,ths⟩,h1,?_,?_,h4,h5,h6⟩
 ·unfold progP
  rw[musA (by rw[e1];decide)]
  dsimp only
  rw[want1 (k:=3) (by rw[e2];rfl)]
  dsimp only
  rw[musA (by rw[e3];decide)]
  dsimp only
  rw[g1]
  dsimp only
  rw[g3,hn]
 ·have h:sameP (toP ⟨p.pool.toNat,cs,ths⟩) p=true:=by
   unfold sameP toP
   dsimp only
   rw[g2,g4,decide_eq_true (by omega)]
   rfl
  rw[sameP_iff]at h ⊢
  exact h.symm
open Go Go.RowKit Own
theorem putL_one (s:List UInt8):(putL [s]).length=s.length+1:=by simp[putL]
theorem putL_wrap (k:Int)(ts:List (List UInt8)):(putL (wrapK k ts)).length≤(putL ts).length+4:=by
 unfold wrapK
 split
 ·rw[show [40]::(ts++[[41]])=[[40]]++(ts++[[41]])from rfl,BQ,BQ]
  simp only[LA,putL_one,LB,List.length_nil]
  omega
 ·omega
theorem sign_len {q:Nat}(h1:1≤q)(h2:q≤13):(GC.getD q []).length≤2:=by
 have key:∀q:Nat,q<14→(GC.getD q []).length≤2:=by decide
 exact key q (by omega)
theorem text_len:∀(m:Nat) (x:Gx),CM x≤m→mayG x=true→fitG x→(putL (tokG x)).length+4≤40 * CM x
 |0,x,h,_,_=>by cases x;unfold CM at h;omega
 | f+1,.mk k o n nm l c ks,h,hm,hf=>by
  unfold fitG at hf
  unfold CM at h ⊢
  rcases may_kinds hm with⟨rfl,h1,rfl,rfl,rfl⟩|⟨rfl,h1,rfl,rfl,rfl⟩|⟨rfl,h1,rfl,rfl,a,rfl,ha⟩|⟨rfl,h1,rfl,rfl,a,rfl,ha⟩|⟨rfl,h1,h2,rfl,rfl,a,b,rfl,ha,hb⟩
  ·unfold tokG
   rw[if_pos rfl,putL_one]
   obtain⟨m,rfl⟩:∃m:Nat,n=m:=⟨n.toNat,by omega⟩
   rw[itoa_dig]
   have:=digL_len 18 m (by have:=hf.1;omega)
   unfold BO
   omega
  ·unfold tokG
   rw[if_neg (by decide),if_pos rfl,putL_one]
   have:nm.length≤16:=by unfold CV at h1;simp only[Bool.and_eq_true,decide_eq_true_eq]at h1;exact h1.2.1
   unfold BO
   omega
  ·have hfa:fitG a:=by have:=hf.2;unfold DU at this;exact this.1
   unfold BO BO at h ⊢
   have ih:=text_len f a (by omega) ha hfa
   have:nm.length≤16:=by unfold CV at h1;simp only[Bool.and_eq_true,decide_eq_true_eq]at h1;exact h1.2.1
   unfold tokG tokA
   rw[if_neg (by decide),if_neg (by decide),if_pos rfl,BQ,BQ,show [nm,[91]]=[nm]++[[91]]from rfl,BQ]
   simp only[LA,putL_one,LB,List.length_nil]
   omega
  ·have hfa:fitG a:=by have:=hf.2;unfold DU at this;exact this.1
   unfold BO BO at h ⊢
   have ih:=text_len f a (by omega) ha hfa
   have hw:=putL_wrap (kindG a) (tokG a)
   have hu:(unL o).length=1:=by unfold unL;split<;>rfl
   unfold tokG kidA
   rw[if_neg (by decide),if_neg (by decide),if_neg (by decide),if_pos rfl,BQ]
   simp only[LA,putL_one,hu]
   omega
  ·have hfa:fitG a∧fitG b:=by have:=hf.2;unfold DU DU at this;exact⟨this.1,this.2.1⟩
   unfold BO BO BO at h ⊢
   have iha:=text_len f a (by omega) ha hfa.1
   have ihb:=text_len f b (by omega) hb hfa.2
   have hwa:=putL_wrap (kindG a) (tokG a)
   have hwb:=putL_wrap (kindG b) (tokG b)
   have hs:(signG o).length≤2:=by unfold signG;exact sign_len (by omega) (by omega)
   unfold tokG kidA kidB kidA
   rw[if_neg (by decide),if_neg (by decide),if_neg (by decide),if_neg (by decide),BQ,BQ]
   simp only[LA,putL_one]
   omega
theorem FJ (s:List UInt8)(l:List (List UInt8)):(putL (s::l)).length=s.length+1+(putL l).length:=by simp[putL];omega
theorem GD:(putL []).length=0:=rfl
theorem FA (a b:List (List UInt8)):(putL (a++b)).length=(putL a).length+(putL b).length:=by rw[BQ,LA]
theorem GE {nm:List UInt8}(h:CV nm=true):nm.length≤16:=by
 unfold CV at h
 simp only[Bool.and_eq_true,decide_eq_true_eq]at h
 exact h.2.1
theorem ex_len {x:Gx}(hm:mayG x=true)(hf:fitG x):(putL (tokG x)).length+4≤40 * CM x:=text_len (CM x) x (Nat.le_refl _) hm hf
theorem op_len {op:Int}(h1:1≤op)(h7:op≤7):(opL.getD op.toNat []).length≤6:=by
 have key:∀q:Nat,q<8→(opL.getD q []).length≤6:=by decide
 exact key _ (by omega)
theorem kind_len {k:Int}(h1:1≤k)(h3:k≤3):(DE.getD k.toNat []).length≤6:=by
 have key:∀q:Nat,q<4→(DE.getD q []).length≤6:=by decide
 exact key _ (by omega)
theorem dig_len:∀(k n:Nat),n<10 ^ k→(digL n).length≤max k 1
 | 0,n,h=>by
  obtain rfl:n=0:=by simpa using h
  rw[digL_small (by omega)];simp
 | k+1,n,h=>by
  by_cases h9:n≤9
  ·rw[digL_small h9];simp
  ·rw[digL_big h9]
   have:=dig_len k (n / 10) (by rw[Nat.pow_succ]at h;omega)
   have hk:k≠0:=by rintro rfl;omega
   simp only[LA,LB,List.length_nil]
   omega
theorem itoa_len {n:Int}(h0:0≤n)(h:n≤9223372036854775807):(Lib.itoa n).length≤20:=by
 obtain⟨m,rfl⟩:∃m:Nat,n=m:=⟨n.toNat,by omega⟩
 rw[itoa_dig]
 have:=dig_len 19 m (by omega)
 omega
mutual
theorem lenS:∀s:Gs,mayS s=true→fitN s→(putL (tokS s)).length≤100 * CS s
 | .mk k nm sz op val into cont xs thn els a b,hm,hf=>by
  have hth:BX thn=true→DT thn→(putL (FH thn)).length≤100 * BN thn:=lenSL thn
  have hel:BX els=true→DT els→(putL (elsT els)).length≤100 * BN els+9:=lenE els
  have hms:=mayS_iff _ hm
  unfold fitN at hf
  obtain⟨hf0,hf1,hf2,hf3⟩:=hf
  cases hms with
  | var _ x _ _ h1 h2=>
   have e1:=GE h1
   have e2:=ex_len h2 (fitGL_1 hf1)
   unfold tokS CS BO BO BN
   rw[if_neg (by decide),if_pos rfl,CI]
   simp only[FA,FJ,GD,LB,List.length_nil]
   omega
  | set _ x _ _ h1 h2=>
   have e1:=GE h1
   have e2:=ex_len h2 (fitGL_1 hf1)
   unfold tokS CS BO BO BN
   rw[if_neg (by decide),if_neg (by decide),if_pos rfl,CI]
   simp only[FA,FJ,GD,LB,List.length_nil]
   omega
  | array _ _ _ _ h1 h2=>
   have e1:=GE h1
   have e2:=itoa_len h2 hf0
   unfold tokS CS BO BN
   rw[if_neg (by decide),if_neg (by decide),if_neg (by decide),if_pos rfl]
   simp only[FA,FJ,GD,LB,List.length_nil]
   omega
  | put _ x y _ _ h1 h2 h3=>
   have e1:=GE h1
   have e2:=ex_len h2 (fitGL_1 hf1)
   have e3:=ex_len h3 (fitGL_2 hf1)
   unfold tokS CS BO BO BO BN
   rw[if_neg (by decide),if_neg (by decide),if_neg (by decide),if_neg (by decide),if_pos rfl,CI,List.tail_cons,CI]
   simp only[FA,FJ,GD,LB,List.length_nil]
   omega
  | ifs x _ _ _ _ h1 h2 h3=>
   have e2:=ex_len h1 (fitGL_1 hf1)
   have e3:=hth h2 hf2
   have e4:=hel h3 hf3
   unfold tokS CS BO BO
   rw[if_pos (by decide),if_pos rfl,CI]
   simp only[FA,FJ,GD,LB,List.length_nil]
   omega
  | whil x _ _ _ h1 h2=>
   have e2:=ex_len h1 (fitGL_1 hf1)
   have e3:=hth h2 hf2
   have z:BN ([]:List Gs)=0:=rfl
   unfold tokS CS BO BO elsT
   rw[if_pos (by decide),if_neg (by decide),CI]
   simp only[FA,FJ,GD,LB,List.length_nil]
   omega
  | out x _ _ h1=>
   have e2:=ex_len h1 (fitGL_1 hf1)
   unfold tokS CS BO BO BN
   rw[if_neg (by decide),if_neg (by decide),if_neg (by decide),if_neg (by decide),if_neg (by decide),if_pos rfl,CI]
   simp only[FA,FJ,GD,LB,List.length_nil]
   omega
  | halt x _ _ h1=>
   have e2:=ex_len h1 (fitGL_1 hf1)
   unfold tokS CS BO BO BN
   rw[if_neg (by decide),if_neg (by decide),if_neg (by decide),if_neg (by decide),if_neg (by decide),if_neg (by decide),if_pos rfl,CI]
   simp only[FA,FJ,GD,LB,List.length_nil]
   omega
  | pop _ _ _ _ _ _ h0 h1 h2 h3=>
   have e1:=GE h1
   have e2:=GE h2
   have e3:=GE h3
   have e4:=op_len (op:=op) (by omega) (by omega)
   unfold tokS CS BO BN
   rw[if_neg (by decide),if_neg (by decide),if_neg (by decide),if_neg (by decide),if_neg (by decide),if_neg (by decide),if_neg (by decide)]
   unfold callT
   rw[if_pos h0,if_pos h0]
   simp only[FA,FJ,GD,LB,List.length_nil]
   omega
  | call _ _ _ x _ _ h0 h24 h2 h3 h4=>
   have e2:=GE h2
   have e3:=GE h3
   have e4:=op_len (op:=op) (by omega) (by omega)
   have e5:=ex_len h4 (fitGL_1 hf1)
   unfold tokS CS BO BO BN
   rw[if_neg (by decide),if_neg (by decide),if_neg (by decide),if_neg (by decide),if_neg (by decide),if_neg (by decide),if_neg (by decide)]
   unfold callT
   rw[if_neg h24,if_neg h24,CI]
   simp only[FA,FJ,GD,LB,List.length_nil]
   omega
theorem lenE:∀l:List Gs,BX l=true→DT l→(putL (elsT l)).length≤100 * BN l+9
 |[],_,_=>by unfold elsT;simp[putL]
 | x::l,hm,hf=>by
  unfold BX at hm
  unfold DT at hf
  rw[Bool.and_eq_true]at hm
  have h1:=lenS x hm.1 hf.1
  have h2:=lenSL l hm.2 hf.2
  unfold elsT BN
  simp only[FA,FJ,GD,LB,List.length_nil]
  omega
theorem lenSL:∀l:List Gs,BX l=true→DT l→(putL (FH l)).length≤100 * BN l
 |[],_,_=>by unfold FH;simp[putL]
 | x::l,hm,hf=>by
  unfold BX at hm
  unfold DT at hf
  rw[Bool.and_eq_true]at hm
  have h1:=lenS x hm.1 hf.1
  have h2:=lenSL l hm.2 hf.2
  unfold FH BN
  rw[FA]
  omega
end
theorem lenC:∀l:List Gc,(∀c∈l,mayC c=true)→(putL (l.flatMap tokCt)).length≤40 * l.length
 |[],_=>by simp[putL]
 | c::l,h=>by
  have h1:=lenC l fun d hd=>h d (List.mem_cons_of_mem _ hd)
  have h2:=h c List.mem_cons_self
  unfold mayC at h2
  simp only[Bool.not_eq_true',Bool.or_eq_false_iff,decide_eq_false_iff_not,Bool.not_eq_false']at h2
  have e1:=GE h2.2.2
  have e2:=kind_len (k:=c.kind) (by omega) (by omega)
  rw[List.flatMap_cons,FA]
  have ec:(putL (tokCt c)).length=(DE.getD c.kind.toNat []).length+1+(c.name.length+1+2):=by
   unfold tokCt
   simp only[FJ,GD,LB,List.length_nil]
  simp only[LB]
  omega
theorem lenT:∀l:List (List Gs),(∀b∈l,BX b=true)→(∀b∈l,DT b)→(putL (l.flatMap fun l=>[[116,104,114,101,97,100]]++FT l)).length≤100 * DQ l+40 * l.length
 |[],_,_=>by simp[putL]
 | b::l,h,h'=>by
  have h1:=lenT l (fun d hd=>h d (List.mem_cons_of_mem _ hd)) fun d hd=>h' d (List.mem_cons_of_mem _ hd)
  have h2:=lenSL b (h b List.mem_cons_self) (h' b List.mem_cons_self)
  rw[List.flatMap_cons,FA]
  have eb:(putL ([[116,104,114,101,97,100]]++FT b)).length=11+(putL (FH b)).length:=by
   unfold FT
   simp only[FA,FJ,GD,LB,List.length_nil]
   omega
  unfold DQ
  simp only[LB]
  omega
structure Small (p:Gp):Prop where
 size:DQ p.threads≤100000
 conts:p.conts.length≤100000
 threads:p.threads.length≤100000
 pool:p.pool≤9223372036854775807
 fitS:∀l∈p.threads,fitSL l
 fitN:∀l∈p.threads,DT l
theorem Small.len {p:Gp}(h:Small p)(hc:DY p=true):(putL (tokP p)).length≤100000000:=by
 unfold DY at hc
 simp only[Bool.and_eq_true,decide_eq_true_eq,List.all_eq_true]at hc
 obtain⟨c0,c1,c2⟩:=hc
 have h1:=lenC p.conts c1
 have h2:=lenT p.threads c2 h.fitN
 have h3:=itoa_len c0 h.pool
 have h4:=h.size
 have h5:=h.conts
 have h6:=h.threads
 unfold tokP
 simp only[FA,FJ,GD,LB,List.length_nil]
 omega
theorem Small.same {p q:Gp}(h:Small p)(e:sameP p q=true):Small q:=by
 obtain⟨-,-,h3,h4,-,h6,h7,h8,h9⟩:=same_of e
 exact⟨by rw[h4];exact h.size,by rw[h6];exact h.conts,by rw[h7];exact h.threads,by rw[h3];exact h.pool,h8 h.fitS,h9 h.fitN⟩
theorem tokP_ne (p:Gp):putL (tokP p)≠[]:=by unfold tokP;simp[putL]
end Go.Proofs.YtomlffobbkcmdaaGreatDoor
