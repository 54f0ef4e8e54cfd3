import Derived.Lib.Builder
import Derived.Lib.OthersKept
import Derived.Lib.UnsafeStr
import Derived.Laws.Externs
import Derived.OwnWalk
import Derived.Test.YtomlffobbkcmdaaGreatDoorJs24
import Derived.Laws.Strings2
set_option maxHeartbeats 8000000
set_option maxRecDepth 100000
namespace Go.Proofs.YtomlffobbkcmdaaGreatDoor
open Go Go.RowKit Own
open Go.Lib (hid)
abbrev BT:TypeId:=65
abbrev TT:TypeId:=67
abbrev B8:TypeId:=5
abbrev BP:TypeId:=62
abbrev BU:TypeId:=164
abbrev BL:TypeId:=63
def DZ (w:World)(b:Nat):Option Nat:=(w.cell? ⟨b,1,none⟩).bind Value.ownBlock
structure TelK (b:Nat)(w w':World):Prop where
 keep:BA (fun k=>k=b∨DZ w b=some k) w w'
 buf:∀k,DZ w' b=some k→DZ w b=some k∨w.heap.size≤k
theorem TelK.refl (b:Nat)(w:World):TelK b w w:=⟨BA.refl _ _,fun _ h=>.inl h⟩
theorem TelK.trans {b:Nat}{u v w:World}(h:TelK b u v)(k:TelK b v w):TelK b u w:=
 ⟨⟨k.keep.os.trans h.keep.os,k.keep.tape.trans h.keep.tape,k.keep.output.trans h.keep.output,Nat.le_trans h.keep.size k.keep.size,fun j hj hn=>by
  rw[k.keep.block j (Nat.lt_of_lt_of_le hj h.keep.size) (fun e=>e.elim (fun e=>hn (.inl e)) fun e=>(h.buf j e).elim (fun e=>hn (.inr e)) fun e=>by omega)]
  exact h.keep.block j hj hn⟩,fun j hj=>(k.buf j hj).elim (fun e=>h.buf j e) fun e=>.inr (Nat.le_trans h.keep.size e)⟩
theorem TelK.of_keep {b:Nat}{w w':World}(k:BA (fun _=>False) w w')(hb:b<w.heap.size):TelK b w w':=
 ⟨k.mono fun _ h=>h.elim,fun j hj=>.inl (by
  unfold DZ World.cell? at hj ⊢
  rw[k.block b hb fun e=>e]at hj
  exact hj)⟩
theorem TelK.of_keepB {b:Nat}{w w':World}(k:BA (fun j=>j=b) w w')(hb:w'.cell? ⟨b,1,none⟩=w.cell? ⟨b,1,none⟩):TelK b w w':=
 ⟨k.mono fun _ h=>.inl h,fun j hj=>.inl (by
  unfold DZ at hj ⊢
  rw[hb]at hj
  exact hj)⟩
theorem TelK.wrote {b:Nat}{w w2:World}{p v v':Value}{T:TypeId}(hb:w.heap[b]?=some (.cells #[p,v] T (0,0)))(hg:w.grownBy w2 v.ownBlock)(hb2:w2.heap[b]?=some (.cells #[p,v] T (0,0)))(hv:∀k,v'.ownBlock=some k→v.ownBlock=some k∨w.heap.size≤k):
  TelK b w (w2.setCell ⟨b,1,none⟩ v'):=by
 have h1:DZ w b=v.ownBlock:=by simp[DZ,World.cell?,hb]
 have h3:=put1 (i:=1) hb2 v'
 have h2:DZ (w2.setCell ⟨b,1,none⟩ v') b=v'.ownBlock:=by
  unfold DZ World.cell?
  rw[h3]
  simp
 have k2:BA (fun j=>j=b∨DZ w b=some j) w w2:=⟨hg.os,hg.tape,hg.output,hg.size,fun j hj hn=>hg.block j hj fun e=>hn (.inr (by rw[h1];exact e.symm))⟩
 exact⟨k2.trans (BA.setCell _ _ _ (.inl rfl)),fun k hk=>by rw[h1];rw[h2]at hk;exact hv k hk⟩
theorem bt_info:∃j,Tryz.prog.info? BT=some j∧j.size=2:=
 Option.map_eq_some_iff.1 (show (Tryz.prog.info? BT).map (·.size)=some 2 by kernel_rfl)
theorem tt_ne:TT≠B8:=by decide
theorem bp_ty:Tryz.prog.underlying BP=some (.pointer BT):=by kernel_rfl
theorem bu_ty:Tryz.prog.underlying BU=some .unsafePointer:=by kernel_rfl
theorem bl_ty:Tryz.prog.underlying BL=some (.slice B8):=by kernel_rfl
theorem bs_ty:Tryz.prog.underlying 9=some .string:=by kernel_rfl
theorem b8_info:∃i,Tryz.prog.info? B8=some i∧i.zero=some (.int .u8 0)∧i.size=1∧i.bytes=1:=
 info_parts (show (Tryz.prog.info? B8).map (fun i=>(i.zero,i.size,i.bytes))=some (some (.int .u8 0),1,1) by kernel_rfl)
theorem bld_check_used (b:Nat)(w:World)(h0:w.cell? ⟨b,0,none⟩=some (.pointer (some ⟨b,0,none⟩))):
  Calls Tryz.prog 104 #[.pointer (some ⟨b,0,none⟩)] w fun e w'=>e=.returned (.tuple #[])∧w'=w:=by
 obtain⟨j,hj,_⟩:=bt_info
 go_enter Tryz.func104,Tryz.ntmps104
 go_wp2
 rw[Lib.run_neq_ptr_same w _ bp_ty hj]
 go_wp2
 go_end0
 exact⟨rfl,rfl⟩
theorem bld_check_fresh (b:Nat)(w:World)(h0:w.cell? ⟨b,0,none⟩=some (.pointer none))(hsh:w.shape? b=some (TT,2))(hfz:w.frozen? ⟨b,0,none⟩=false):
  Calls Tryz.prog 104 #[.pointer (some ⟨b,0,none⟩)] w fun e w'=>e=.returned (.tuple #[])∧w'=w.setCell ⟨b,0,none⟩ (.pointer (some ⟨b,0,none⟩)):=by
 obtain⟨j,hj,hjs⟩:=bt_info
 have hl:liesAt Tryz.prog Tryz.prog.depth TT (2 / Tryz.prog.cellsOf TT) 0 BT 1=true:=by kernel_rfl
 go_enter Tryz.func104,Tryz.ntmps104
 go_wp2
 rw[Lib.run_to_unsafe w ⟨b,0,none⟩ bp_ty bu_ty hj (by rw[hjs];decide) hsh (Nat.zero_lt_succ 1)]
 simp only[Result.andThen]
 rw[Oper.upon_value]
 go_wp2
 rw[run_callFunc_extern Tryz.func121 (by kernel_rfl) (by kernel_rfl) (by kernel_rfl) (e:=Extern.AbiNoEscape.same) (by kernel_rfl)]
 rw[Lib.run_noEscape]
 simp only[Result.andThen]
 rw[Oper.upon_value]
 go_wp2
 rw[Lib.run_from_unsafe w ⟨b,0,none⟩ bu_ty bp_ty hj hsh hl]
 simp only[Result.andThen]
 rw[Oper.upon_value]
 go_wp2
 go_end0
 exact⟨rfl,rfl⟩
theorem bld_check (B b:Nat)(bs:List Value)(w:World)(h:Lib.IsBuilderF TT B8 B b bs w):
  Calls Tryz.prog 104 #[.pointer (some ⟨b,0,none⟩)] w fun e w'=>e=.returned (.tuple #[])∧
   (Lib.BuilderAtF TT B8 B b (.pointer (some ⟨b,0,none⟩)) bs w'∧Below B w w'∧TelK b w w'):=by
 rcases h with h|h
 ·refine(bld_check_fresh b w h.cell0 h.shape h.frozen0).mono ?_
  rintro e w' ⟨rfl,rfl⟩
  exact⟨rfl,h.used _,(Below.refl B w).setCell (p:=⟨b,0,none⟩) h.1 _,.of_keepB (BA.setCell _ _ _ rfl) (by obtain⟨_,v,hb,_⟩:=h;rw[BJ (put1 (i:=0) hb _) rfl,BJ hb rfl];rfl)⟩
 ·refine(bld_check_used b w h.cell0).mono ?_
  rintro e w' ⟨rfl,rfl⟩
  exact⟨rfl,h,Below.refl B _,TelK.refl _ _⟩
theorem bld_byte (B b:Nat)(bs:List Value)(c:Int)(w:World)(h:Lib.IsBuilderF TT B8 B b bs w)(hlen:bs.length+1≤140737488355328)(hBw:B≤w.heap.size):
  Calls Tryz.prog 82 #[.pointer (some ⟨b,0,none⟩),.int .u8 c] w fun e w'=>e=.returned .nilIface∧
   (Lib.BuilderAtF TT B8 B b (.pointer (some ⟨b,0,none⟩)) (bs++[.int .u8 c]) w'∧Below B w w'∧TelK b w w'):=by
 obtain⟨i0,hi,hz0,hz1,hz2⟩:=b8_info
 go_enter Tryz.func82,Tryz.ntmps82
 go_wp2_with (go_at_call 104;refine(bld_check B b bs _ h).mono ?_)
 rintro e w1 ⟨rfl,h1,hb1,hk1⟩
 obtain⟨hB,v,hbk,hown,hne⟩:=h1
 have c0:w1.cell? ⟨b,0,none⟩=some (.pointer (some ⟨b,0,none⟩)):=by rw[Lib.cell_of_heap hbk];rfl
 have c1:w1.cell? ⟨b,1,none⟩=some v:=by rw[Lib.cell_of_heap hbk];rfl
 go_wp2_with (at_builtin;refine wpList_own_slice_at rfl _ _ BL rfl B B8 i0 (.int .u8 0) 1 1 bl_ty hi hz0 hz1 hz2 rfl (by decide) _ _ _ rfl (hown.alloc _) ⟨w1.heap.size,0,none⟩ 1 1 [.int .u8 c] rfl rfl ?c1 ?c2 ?c3 ?c4 ?c5 ?_)
 case c1=>
  intro j u hj
  match j,hj with
  |0,hj=>simp at hj;subst hj;simp[Addr.add]
 case c2=>intro u hu;simp at hu;subst hu;rfl
 case c3=>unfold maxLen;omega
 case c4=>omega
 case c5=>have:=hb1.size;simp;omega
 intro v' w2 hown' hgrow hat
 have hlt:b<w1.heap.size:=by
  rcases Nat.lt_or_ge b w1.heap.size with h' | h'
  ·exact h'
  ·simp[Array.getElem?_eq_none h']at hbk
 have hb2:w2.heap[b]?=some (.cells #[.pointer (some ⟨b,0,none⟩),v] TT (0,0)):=by
  rw[hgrow.block b (by simp;omega) (fun e=>hne e.symm),Lib.alloc_old w1 _ b hlt]
  exact hbk
 have d0:w2.cell? ⟨b,0,none⟩=some (.pointer (some ⟨b,0,none⟩)):=by rw[Lib.cell_of_heap hb2];rfl
 have d1:w2.cell? ⟨b,1,none⟩=some v:=by rw[Lib.cell_of_heap hb2];rfl
 have f1:w2.frozen? ⟨b,1,none⟩=false:=Lib.frozen_of_heap hb2 1
 obtain⟨g,cap,rfl⟩:∃g cap,v'=.slice (some ⟨g,0,none⟩) (bs.length+1) cap:=by
  rcases hown'.2 with⟨_,h0⟩|⟨g,cap,cur,fz,hv,_⟩
  ·omega
  ·exact⟨g,cap,hv⟩
 go_wp2
 go_ret
 refine⟨rfl,?_,?_,hk1.trans ((TelK.of_keep (BA.alloc _ _ _) hlt).trans (TelK.wrote ((Lib.alloc_old w1 _ b hlt).trans hbk) hgrow hb2 fun k hk=>(hat k hk).imp id fun e=>by simpa using e))⟩
 ·exact Lib.BuilderAtF.put (T:=TT) (e:=B8) hB hb2 (bs':=bs++[.int .u8 c]) (by simpa using hown') tt_ne
 ·exact((hb1.alloc (by have:=hb1.size;omega) _).grown hgrow (by have:=hb1.size;simp;omega) (fun k hk=>(hown.lt k hk).1)).setCell (p:=⟨b,1,none⟩) hB _
theorem bld_str (B b:Nat)(bs:List Value)(s:ByteArray)(w:World)(h:Lib.IsBuilderF TT B8 B b bs w)(hlen:bs.length+s.size≤140737488355328)(hBw:B≤w.heap.size):
  Calls Tryz.prog 81 #[.pointer (some ⟨b,0,none⟩),.string s] w fun e w'=>e=.returned (.tuple #[.int .i64 s.size,.nilIface])∧
   (Lib.BuilderAtF TT B8 B b (.pointer (some ⟨b,0,none⟩)) (bs++Lib.strCells s) w'∧Below B w w'∧TelK b w w'):=by
 obtain⟨i0,hi,hz0,hz1,hz2⟩:=b8_info
 go_enter Tryz.func81,Tryz.ntmps81
 go_wp2_with (go_at_call 104;refine(bld_check B b bs _ h).mono ?_)
 rintro e w1 ⟨rfl,h1,hb1,hk1⟩
 obtain⟨hB,v,hbk,hown,hne⟩:=h1
 have c0:w1.cell? ⟨b,0,none⟩=some (.pointer (some ⟨b,0,none⟩)):=by rw[Lib.cell_of_heap hbk];rfl
 have c1:w1.cell? ⟨b,1,none⟩=some v:=by rw[Lib.cell_of_heap hbk];rfl
 go_wp2_with (at_builtin;refine wpList_own_string_at rfl _ _ BL 9 rfl B B8 i0 bl_ty bs_ty hi hz0 hz1 hz2 _ _ _ rfl hown s rfl ?c3 ?c4 ?c5 ?_)
 case c3=>unfold maxLen;omega
 case c4=>omega
 case c5=>have:=hb1.size;omega
 intro v' w2 hown' hgrow hat
 have hlt:b<w1.heap.size:=by
  rcases Nat.lt_or_ge b w1.heap.size with h' | h'
  ·exact h'
  ·simp[Array.getElem?_eq_none h']at hbk
 have hb2:w2.heap[b]?=some (.cells #[.pointer (some ⟨b,0,none⟩),v] TT (0,0)):=by
  rw[hgrow.block b hlt (fun e=>hne e.symm)]
  exact hbk
 have d0:w2.cell? ⟨b,0,none⟩=some (.pointer (some ⟨b,0,none⟩)):=by rw[Lib.cell_of_heap hb2];rfl
 have d1:w2.cell? ⟨b,1,none⟩=some v:=by rw[Lib.cell_of_heap hb2];rfl
 have f1:w2.frozen? ⟨b,1,none⟩=false:=Lib.frozen_of_heap hb2 1
 obtain⟨ao,n',cap,rfl⟩:∃ao n' cap,v'=.slice ao n' cap:=by
  rcases hown'.2 with⟨hv,_⟩|⟨g,cap,cur,fz,hv,_⟩
  ·exact⟨_,_,_,hv⟩
  ·exact⟨_,_,_,hv⟩
 go_wp2
 go_ret2
 refine⟨rfl,?_,?_,hk1.trans (TelK.wrote hbk hgrow hb2 hat)⟩
 ·exact Lib.BuilderAtF.put (T:=TT) (e:=B8) hB hb2 (bs':=bs++Lib.strCells s) (by simpa [Lib.strCells_length]using hown') tt_ne
 ·exact(hb1.grown hgrow (by have:=hb1.size;omega) (fun k hk=>(hown.lt k hk).1)).setCell (p:=⟨b,1,none⟩) hB _
abbrev TStr:TypeId:=9
def Tel (B b:Nat)(l:List UInt8)(w:World):Prop:=Lib.IsBuilderF TT B8 B b (Lib.byteCells l) w
theorem Tel.builder {B b:Nat}{l:List UInt8}{w w':World}(k:BA (fun _=>False) w w')(h:Tel B b l w):Tel B b l w':=by
 have key:∀p,Lib.BuilderAtF TT B8 B b p (Lib.byteCells l) w→Lib.BuilderAtF TT B8 B b p (Lib.byteCells l) w':=by
  rintro p ⟨h1,v,h2,h3,h4⟩
  have g:=grown_of_keep k
  exact⟨h1,v,k.blk h2,h3.kept (row:=some b) ⟨g.os,g.tape,g.output,g.size,fun j h _=>g.block j h (by simp)⟩ (.inr h4),h4⟩
 exact h.elim (fun h=>.inl (key _ h)) fun h=>.inr (key _ h)
theorem Tel.le {B b:Nat}{l:List UInt8}{w:World}(h:Tel B b l w):B≤b∧b<w.heap.size:=h.elim (fun h=>⟨h.1,h.lt⟩) fun h=>⟨h.1,h.lt⟩
theorem Tel.size {B b:Nat}{l:List UInt8}{w:World}(h:Tel B b l w):B≤w.heap.size:=by have:=h.le;omega
theorem Tel.buf {B b k:Nat}{l:List UInt8}{w:World}(h:Tel B b l w)(hk:DZ w b=some k):B≤k∧k≠b∧∃cs fz,w.heap[k]?=some (.cells cs B8 fz):=by
 obtain⟨p,hB,v,hb,hown,hne⟩:∃p,Lib.BuilderAtF TT B8 B b p (Lib.byteCells l) w:=h.elim (fun h=>⟨_,h⟩) fun h=>⟨_,h⟩
 have h1:v.ownBlock=some k:=by simpa [DZ,World.cell?,hb]using hk
 rcases hown.2 with⟨rfl,-⟩|⟨g,cap,cur,fz,rfl,hbg,hg,-⟩
 ·cases h1
 ·cases h1
  exact⟨hbg,fun e=>hne (by show some g=some b;rw[show g=b from e]),cur,fz,hg⟩
theorem TelK.blk {B b k:Nat}{l:List UInt8}{w w':World}{cs:Array Value}{T:TypeId}{fz:Nat×Nat}(h:TelK b w w')(ht:Tel B b l w)(hT:T≠B8)(hk:k≠b)(hb:w.heap[k]?=some (.cells cs T fz)):w'.heap[k]?=some (.cells cs T fz):=by
 rw[h.keep.block k (AG.1 hb).1 (fun e=>e.elim hk fun e=>by
  obtain⟨-,-,c,f,hc⟩:=ht.buf e
  rw[hb]at hc
  cases hc
  exact hT rfl)]
 exact hb
theorem TelK.below {B b:Nat}{l:List UInt8}{w w':World}(h:TelK b w w')(ht:Tel B b l w):BA (fun k=>B≤k) w w':=
 h.keep.mono fun k hk=>hk.elim (fun e=>by rw[e];exact ht.le.1) fun e=>(ht.buf e).1
def sepL (s:List UInt8):UInt8:=if s=[59]∨s=[123]∨s=[125] then 10 else 32
def putL (ss:List (List UInt8)):List UInt8:=ss.flatMap fun s=>s++[sepL s]
theorem putL_take {ss:List (List UInt8)}{i:Nat}{s:List UInt8}(h:ss[i]?=some s):putL (ss.take (i+1))=putL (ss.take i)++(s++[sepL s]):=by
 unfold putL
 rw[List.take_add_one,h]
 simp
theorem tel_str {B b:Nat}{l s:List UInt8}{w:World}(h:Tel B b l w)(hlen:l.length+s.length≤140737488355328):
  Calls Tryz.prog 81 #[.pointer (some ⟨b,0,none⟩),.string ⟨s.toArray⟩] w fun e w'=>∃v,e=.returned v∧Tel B b (l++s) w'∧TelK b w w':=by
 refine(bld_str B b (Lib.byteCells l) ⟨s.toArray⟩ w h (by rw[Lib.byteCells_length];exact hlen) h.size).mono ?_
 rintro e w' ⟨rfl,h1,-,h3⟩
 refine⟨_,rfl,.inr ?_,h3⟩
 rw[Lib.byteCells_append]
 exact h1
theorem tel_byte {B b:Nat}{l:List UInt8}{c:UInt8}{w:World}(h:Tel B b l w)(hlen:l.length+1≤140737488355328):
  Calls Tryz.prog 82 #[.pointer (some ⟨b,0,none⟩),.int .u8 c.toNat] w fun e w'=>e=.returned .nilIface∧Tel B b (l++[c]) w'∧TelK b w w':=by
 refine(bld_byte B b (Lib.byteCells l) c.toNat w h (by rw[Lib.byteCells_length];exact hlen) h.size).mono ?_
 rintro e w' ⟨rfl,h1,-,h3⟩
 refine⟨rfl,.inr ?_,h3⟩
 rw[Lib.byteCells_append]
 exact h1
theorem tel_nl {B b:Nat}{l:List UInt8}{w:World}(h:Tel B b l w)(hlen:l.length+1≤140737488355328):
  Calls Tryz.prog 82 #[.pointer (some ⟨b,0,none⟩),.int .u8 10] w fun e w'=>e=.returned .nilIface∧Tel B b (l++[10]) w'∧TelK b w w':=tel_byte (c:=10) h hlen
theorem tel_sp {B b:Nat}{l:List UInt8}{w:World}(h:Tel B b l w)(hlen:l.length+1≤140737488355328):
  Calls Tryz.prog 82 #[.pointer (some ⟨b,0,none⟩),.int .u8 32] w fun e w'=>e=.returned .nilIface∧Tel B b (l++[32]) w'∧TelK b w w':=tel_byte (c:=32) h hlen
theorem putL_le (ss:List (List UInt8))(i:Nat):(putL (ss.take i)).length≤(putL ss).length:=by
 have h:putL ss=putL (ss.take i)++putL (ss.drop i):=by
  unfold putL
  rw[←List.flatMap_append,List.take_append_drop]
 rw[h,LA]
 omega
theorem putL_count (ss:List (List UInt8)):ss.length≤(putL ss).length:=by
 induction ss with
 |nil=>simp
 | cons s ss ih=>
  have:putL (s::ss)=(s++[sepL s])++putL ss:=by simp[putL]
  rw[this]
  simp
  omega
theorem put_any (B b:Nat)(l:List UInt8)(ss:List (List UInt8))(g c:Nat)(w:World)(ht:Tel B b l w)(hg:w.heap[g]?=some (.cells (ss.map strV).toArray TStr (0,0)))(hgb:g≠b)(hlen:l.length+(putL ss).length≤100000000):
  Calls Tryz.prog 39 #[.pointer (some ⟨b,0,none⟩),.slice (some ⟨g,0,none⟩) ss.length c] w fun e w'=>e=.returned (.tuple #[])∧Tel B b (l++putL ss) w'∧TelK b w w':=by
 have HT:=hid ht;have HG:=hid hg;have HLEN:=hid hlen
 clear ht hg hlen
 go_enter Tryz.func39,Tryz.ntmps39
 go_wp2_with fail
 go_loopw [8] (fun v8 wr=>∃i:Nat,i≤ss.length∧v8=.int .i64 i∧Tel B b (l++putL (ss.take i)) wr∧TelK b w wr) (fun v _=>ss.length - (intOf v).toNat)
 case atStart=>exact⟨0,Nat.zero_le _,rfl,by simpa [putL]using HT.out,TelK.refl _ _⟩
 case round=>
  obtain⟨i,hi,rfl,hti,hk⟩:=hrel
  have HTI:=hid hti;have HK:=hid hk
  clear hti hk
  by_cases hlt:i<ss.length
  ·have hlti:(i:Int)<(ss.length:Int):=by omega
   have hi0:(0:Int)≤i:=by omega
   have hWi:IntKind.i64.wrap ((i:Int)+1)=(i:Int)+1:=IntWalk.i64_in _ (by have:=HLEN.out;have:=putL_count ss;omega)
   obtain⟨s,hs⟩:∃s,ss[i]?=some s:=⟨_,List.getElem?_eq_getElem hlt⟩
   have hc:wr.cell? ⟨g,i,none⟩=some (.string ⟨s.toArray⟩):=BJ (HK.out.blk HT.out (by decide) hgb HG.out) (by simp[hs,strV])
   have HS:=hid (putL_take hs)
   have hle:=putL_le ss (i+1)
   rw[putL_take hs,LA,LA,List.length_singleton]at hle
   have HWS:=hid (tel_str (s:=s) HTI.out (by rw[LA];have:=HLEN.out;omega))
   have hb9:(l++putL (ss.take i)++s).length+1≤140737488355328:=by rw[LA,LA];have:=HLEN.out;omega
   have HWN:=hid (fun W (h:Tel B b (l++putL (ss.take i)++s) W)=>tel_nl h hb9)
   have HWS2:=hid (fun W (h:Tel B b (l++putL (ss.take i)++s) W)=>tel_sp h hb9)
   clear hs hle hb9
   go_wp2_with fail
   go_at_call 81
   refine HWS.out.mono ?_
   rintro e w1 ⟨v,rfl,ht1,hk1⟩
   have HT1:=hid ht1;have HK1:=hid (HK.out.trans hk1)
   clear ht1 hk1
   by_cases e1:s=[59]
   ·subst e1
    go_wp2_with fail
    go_at_call 82
    refine(HWN.out w1 HT1.out).mono ?_
    rintro e w2 ⟨rfl,ht2,hk2⟩
    have HT2:=hid ht2;have HK2:=hid (HK1.out.trans hk2)
    clear ht2 hk2
    go_wp2_with fail
    exact⟨⟨i+1,by omega,by simp,by rw[HS.out];have h:=HT2.out;rw[List.append_assoc,List.append_assoc]at h;simpa [sepL]using h,HK2.out⟩,by simp only[intOf];omega⟩
   ·by_cases e2:s=[123]
    ·subst e2
     go_wp2_with fail
     go_at_call 82
     refine(HWN.out w1 HT1.out).mono ?_
     rintro e w2 ⟨rfl,ht2,hk2⟩
     have HT2:=hid ht2;have HK2:=hid (HK1.out.trans hk2)
     clear ht2 hk2
     go_wp2_with fail
     exact⟨⟨i+1,by omega,by simp,by rw[HS.out];have h:=HT2.out;rw[List.append_assoc,List.append_assoc]at h;simpa [sepL]using h,HK2.out⟩,by simp only[intOf];omega⟩
    ·by_cases e3:s=[125]
     ·subst e3
      go_wp2_with fail
      go_at_call 82
      refine(HWN.out w1 HT1.out).mono ?_
      rintro e w2 ⟨rfl,ht2,hk2⟩
      have HT2:=hid ht2;have HK2:=hid (HK1.out.trans hk2)
      clear ht2 hk2
      go_wp2_with fail
      exact⟨⟨i+1,by omega,by simp,by rw[HS.out];have h:=HT2.out;rw[List.append_assoc,List.append_assoc]at h;simpa [sepL]using h,HK2.out⟩,by simp only[intOf];omega⟩
     ·have HE:=hid (And.intro e1 (And.intro e2 e3))
      have b1:(s==[59])=false:=BF.2 e1
      have b2:(s==[123])=false:=BF.2 e2
      have b3:(s==[125])=false:=BF.2 e3
      clear e1 e2 e3
      go_wp2_with fail
      go_at_call 82
      refine(HWS2.out w1 HT1.out).mono ?_
      rintro e w2 ⟨rfl,ht2,hk2⟩
      have HT2:=hid ht2;have HK2:=hid (HK1.out.trans hk2)
      clear ht2 hk2
      go_wp2_with fail
      exact⟨⟨i+1,by omega,by simp,by rw[HS.out];have h:=HT2.out;rw[List.append_assoc,List.append_assoc]at h;simpa [sepL,HE.out.1,HE.out.2.1,HE.out.2.2]using h,HK2.out⟩,by simp only[intOf];omega⟩
  ·have hnl:¬(i:Int)<(ss.length:Int):=by omega
   have hie:ss.take i=ss:=List.take_of_length_le (by omega)
   rw[hie]at HTI
   clear hie
   go_wp2_with fail
   go_end0
   exact⟨rfl,HTI.out,HK.out⟩
inductive Gx where
 |mk (kind op num:Int) (name:List UInt8) (line col:Int) (kids:List Gx)
mutual
def GAt (w:World)(S:Nat→Prop):List Value→Gx→Prop
 |vs,.mk k o n nm l c kids=>∃p cap,vs=[.int .i64 k,.int .i64 o,.int .i64 n,strV nm,.slice p kids.length cap,.int .i64 l,.int .i64 c]∧FK w S p 0 kids
def FK (w:World)(S:Nat→Prop)(p:Option Addr):Nat→List Gx→Prop
 |_,[]=>True
 |i,x::l=>(∃g o vs,p=some ⟨g,o,none⟩∧S g∧(∀j v,vs[j]?=some v→w.cell? ⟨g,o+i * 7+j,none⟩=some v)∧GAt w S vs x)∧FK w S p (i+1) l
end
mutual
theorem GAt.keepS {w w':World}{S S':Nat→Prop}(hk:∀b o v,S b→w.cell? ⟨b,o,none⟩=some v→w'.cell? ⟨b,o,none⟩=some v∧S' b):∀{vs:List Value}{e:Gx},GAt w S vs e→GAt w' S' vs e
 | vs,.mk kk o n nm l c kids,h=>by
  unfold GAt at h ⊢
  obtain⟨p,cap,h1,h2⟩:=h
  exact⟨p,cap,h1,FK.keepS hk h2⟩
theorem FK.keepS {w w':World}{S S':Nat→Prop}(hk:∀b o v,S b→w.cell? ⟨b,o,none⟩=some v→w'.cell? ⟨b,o,none⟩=some v∧S' b):∀{p:Option Addr}{i:Nat}{l:List Gx},FK w S p i l→FK w' S' p i l
 |p,i,[],_=>by unfold FK;trivial
 | p,i,x::l,h=>by
  unfold FK at h ⊢
  obtain⟨⟨g,o,vs,h1,h2,h3,h4⟩,h5⟩:=h
  have hv:∃v,vs[0]?=some v:=by
   cases x with
   | mk k o n nm l c kids=>
    unfold GAt at h4
    obtain⟨p,cap,h6,-⟩:=h4
    exact⟨_,by rw[h6];rfl⟩
  obtain⟨v0,hv0⟩:=hv
  exact⟨⟨g,o,vs,h1,(hk g _ _ h2 (h3 0 v0 hv0)).2,fun j v hj=>(hk g _ _ h2 (h3 j v hj)).1,GAt.keepS hk h4⟩,FK.keepS hk h5⟩
end
theorem GAt.keep {E:Nat→Prop}{w w':World}{S:Nat→Prop}(k:BA E w w')(hE:∀b,S b→¬E b){vs:List Value}{e:Gx}(h:GAt w S vs e):GAt w' S vs e:=
 h.keepS fun b _ _ hb hc=>⟨k.cell hc (hE b hb),hb⟩
theorem FK.keep {E:Nat→Prop}{w w':World}{S:Nat→Prop}(k:BA E w w')(hE:∀b,S b→¬E b){p:Option Addr}{i:Nat}{l:List Gx}(h:FK w S p i l):FK w' S p i l:=
 h.keepS fun b _ _ hb hc=>⟨k.cell hc (hE b hb),hb⟩
mutual
def CM:Gx→Nat
 |.mk _ _ _ _ _ _ kids=>BO kids+1
def BO:List Gx→Nat
 |[]=>0
 |x::l=>CM x+BO l
end
mutual
def FY:Gx→Nat
 |.mk _ _ _ _ _ _ kids=>CH kids+1
def CH:List Gx→Nat
 |[]=>0
 |x::l=>max (FY x) (CH l)
end
theorem gSizeL_take {l:List Gx}{i:Nat}(h:i<l.length):BO (l.take (i+1))=BO (l.take i)+CM l[i]:=by
 induction l generalizing i with
 |nil=>cases h
 | cons x l ih=>
  cases i with
  |zero=>simp[BO]
  | succ i=>
   have h':i<l.length:=by simpa using h
   simp only[List.take_succ_cons,BO,List.getElem_cons_succ]
   rw[ih h']
   omega
theorem gsize_mem {l:List Gx}{i:Nat}(h:i<l.length):CM l[i]≤BO l:=by
 induction l generalizing i with
 |nil=>cases h
 | cons x l ih=>
  cases i with
  |zero=>simp[BO]
  | succ i=>
   have:=ih (i:=i) (by simpa using h)
   simp only[BO,List.getElem_cons_succ]
   omega
theorem gSizeL_le {l:List Gx}(i:Nat):BO (l.take i)≤BO l:=by
 induction l generalizing i with
 |nil=>simp[BO]
 | cons x l ih=>
  cases i with
  |zero=>simp[BO]
  | succ i=>
   have:=ih i
   simp only[List.take_succ_cons,BO]
   omega
mutual
theorem gdeep_le:∀x:Gx,FY x≤CM x
 | .mk _ _ _ _ _ _ kids=>by
  unfold FY CM
  have:=gDeepL_le kids
  omega
theorem gDeepL_le:∀l:List Gx,CH l≤BO l
 |[]=>by simp[CH]
 | x::l=>by
  unfold CH BO
  have:=gdeep_le x
  have:=gDeepL_le l
  omega
end
theorem glen_size:∀l:List Gx,l.length≤BO l
 |[]=>by simp
 | x::l=>by
  have h1:1≤CM x:=by cases x;unfold CM;omega
  have:=glen_size l
  simp only[LB,BO]
  omega
theorem gkids_get {w:World}{S:Nat→Prop}{p:Option Addr}:∀{l:List Gx}{j:Nat},FK w S p j l→∀i (h:i<l.length),∃g o vs,p=some ⟨g,o,none⟩∧(∀k v,vs[k]?=some v→w.cell? ⟨g,o+(j+i) * 7+k,none⟩=some v)∧GAt w S vs l[i]
 | x::l,j,h,0,_=>by
  unfold FK at h
  obtain⟨⟨g,o,vs,h1,_,h3,h4⟩,_⟩:=h
  exact⟨g,o,vs,h1,h3,h4⟩
 | x::l,j,h,i+1,hi=>by
  unfold FK at h
  obtain⟨g,o,vs,h1,h3,h4⟩:=gkids_get h.2 i (by simpa using hi)
  refine⟨g,o,vs,h1,fun k v hk=>?_,h4⟩
  rw[show j+(i+1)=j+1+i by omega]
  exact h3 k v hk
 |[],_,_,i,hi=>absurd hi (by simp)
theorem FN {w:World}{S:Nat→Prop}{vs:List Value}{x:Gx}(h:GAt w S vs x):∃k o n S2 p m c l cl,vs=[.int .i64 k,.int .i64 o,.int .i64 n,.string S2,.slice p m c,.int .i64 l,.int .i64 cl]:=by
 cases x with
 | mk k o n nm l c kids=>
  unfold GAt at h
  obtain⟨p,cap,h1,-⟩:=h
  exact⟨_,_,_,_,_,_,_,_,_,h1⟩
mutual
def toG:Ex→Gx
 |.mk k o n nm l c ks=>.mk k o n nm l c (toGL ks)
def toGL:List Ex→List Gx
 |[]=>[]
 |x::l=>toG x::toGL l
end
theorem toGL_len:∀l:List Ex,(toGL l).length=l.length
 |[]=>rfl
 |x::l=>by unfold toGL;simp[toGL_len l]
mutual
theorem ExAt.toG {w:World}{S:Nat→Prop}:∀{vs:List Value}{x:Ex},ExAt w S vs x→GAt w S vs (toG x)
 | vs,.mk k o n nm l c ks,h=>by
  unfold ExAt at h
  obtain⟨p,cap,h1,h2⟩:=h
  unfold Go.Proofs.YtomlffobbkcmdaaGreatDoor.toG GAt
  exact⟨p,cap,by rw[toGL_len];exact h1,CD.toG h2⟩
theorem CD.toG {w:World}{S:Nat→Prop}:∀{p:Option Addr}{i:Nat}{l:List Ex},CD w S p i l→FK w S p i (toGL l)
 |p,i,[],_=>by unfold toGL FK;trivial
 | p,i,x::l,h=>by
  unfold CD at h
  obtain⟨⟨g,o,vs,h1,h2,h3,h4⟩,h5⟩:=h
  unfold toGL FK
  exact⟨⟨g,o,vs,h1,h2,h3,ExAt.toG h4⟩,CD.toG h5⟩
end
mutual
theorem toG_size:∀x:Ex,CM (toG x)=DK x
 |.mk k o n nm l c ks=>by unfold toG CM DK;rw[toGL_size ks]
theorem toGL_size:∀l:List Ex,BO (toGL l)=CX l
 |[]=>rfl
 |x::l=>by unfold toGL BO CX;rw[toG_size x,toGL_size l]
end
def SaysMayG (mb:Gx→Bool)(x:Gx):Prop:=∀(w:World) (S:Nat→Prop) (vs:List Value),TabS w→GAt w S vs x→
 Calls Tryz.prog 26 #[.agg vs.toArray] w fun e w'=>e=.returned (.bool (mb x))∧BA (fun _=>False) w w'
theorem mayFnG_any (mb:Gx→Bool)(x:Gx)(hS:SaysMayG mb x)(w:World)(hT:TabS w)(S:Nat→Prop)(vs:List Value)(hex:GAt w S vs x):
  Calls Tryz.prog 60 #[.agg vs.toArray] w fun e w'=>e=.returned (.bool (!mb x))∧BA (fun _=>False) w w':=by
 obtain⟨yk,yo,yn,yS,yp,ym,yc,yl,ycl,rfl⟩:=FN hex
 obtain⟨W,C,hW,hC,hcb,hkc,hsc⟩:=BC w (.cells #[.int .i64 yk,.int .i64 yo,.int .i64 yn,.string yS,.slice yp ym yc,.int .i64 yl,.int .i64 ycl] TEx)
 have HM:=hid (hS W S _ (hkc.tabS hT) (hex.keep hkc fun _ _ e=>e))
 have HK:=hid hkc
 obtain⟨n0,n1,n2,n3,n4,n5,n6,-⟩:=blk7 hcb
 obtain⟨b,hb⟩:∃b,mb x=b:=⟨_,rfl⟩
 rw[hb]at HM ⊢
 clear hS hT hex hcb hkc hsc hb
 go_enter Tryz.func60,Tryz.ntmps60
 go_upto_region 1 with fail
 rw[←hW,←hC]
 clear hW hC
 go_wp2_with (go_at_call 26;refine HM.out.mono ?_;rintro e w5 ⟨rfl,hk5⟩;have HK5:=hid hk5;clear hk5)
 go_ret
 exact⟨rfl,HK.out.trans HK5.out⟩
def IdxG (mb:Gx→Bool)(l:List Gx)(w:World)(e:Ending)(w':World):Prop:=∃k:Int,e=.returned (.int .i64 k)∧decide (0≤k)=l.any (fun x=>!mb x)∧BA (fun _=>False) w w'
theorem idxG_any (mb:Gx→Bool)(l:List Gx)(hS:∀i (h:i<l.length),SaysMayG mb l[i])(hl:l.length≤1099511627776)(w:World)(hT:TabS w)(S:Nat→Prop)(p:Option Addr)(c:Nat)(hp:FK w S p 0 l):
  Calls Tryz.prog 95 #[.slice p l.length c,.func (.func 60) #[] #[]] w fun e w'=>IdxG mb l w e w':=by
 have HS:=hid hS;have HP:=hid hp;have HT:=hid hT
 clear hS hp hT
 go_enter Tryz.func95,Tryz.ntmps95
 go_wp2_with fail
 go_loopw [8] (fun v8 wr=>∃k:Nat,v8=.int .i64 k∧k≤l.length∧(∀j,(hj:j<k)→(h:j<l.length)→mb l[j]=true)∧BA (fun _=>False) w wr) (fun v _=>l.length - (intOf v).toNat)
 case atStart=>exact⟨0,rfl,Nat.zero_le _,fun j h=>absurd h (Nat.not_lt_zero _),BA.refl _ _⟩
 case round=>
  obtain⟨k,rfl,hk,hall,hkk⟩:=hrel
  have HALL:=hid hall;have HK:=hid hkk
  by_cases hlt:k<l.length
  ·have hlti:(k:Int)<l.length:=by omega
   have hi0:(0:Int)≤k:=by omega
   have hWi:IntKind.i64.wrap ((k:Int)+1)=(k:Int)+1:=IntWalk.i64_in _ (by omega)
   obtain⟨g,o,vs,hp,hc,hex⟩:=gkids_get (HP.out.keep hkk fun _ _ e=>e) k hlt
   subst hp
   rw[Nat.zero_add]at hc
   have HFN:=hid (mayFnG_any mb l[k] (HS.out k hlt) wr (hkk.tabS HT.out) S vs hex)
   obtain⟨yk,yo,yn,yS,yp,ym,yc,yl,ycl,rfl⟩:=FN hex
   have x0:wr.cell? ⟨g,o+k * 7,none⟩=some (.int .i64 yk):=hc 0 _ rfl
   have x1:=hc 1 _ rfl;have x2:=hc 2 _ rfl;have x3:=hc 3 _ rfl;have x4:=hc 4 _ rfl;have x5:=hc 5 _ rfl;have x6:=hc 6 _ rfl
   obtain⟨a,ha⟩:∃a,mb l[k]=a:=⟨_,rfl⟩
   have HA:=hid ha
   rw[ha]at HFN
   clear hc hex hkk hall ha
   cases a with
   | true=>
    go_wp2_with (go_at_call 60;refine HFN.out.mono ?_;rintro e w2 ⟨rfl,hk2⟩;have HK2:=hid hk2;clear hk2)
    exact⟨⟨k+1,by simp,by omega,fun j hj h=>by
     by_cases e:j=k
     ·subst e;exact HA.out
     ·exact HALL.out j (by omega) h,HK.out.trans HK2.out⟩,by simp only[intOf];omega⟩
   | false=>
    go_wp2_with (go_at_call 60;refine HFN.out.mono ?_;rintro e w2 ⟨rfl,hk2⟩;have HK2:=hid hk2;clear hk2)
    go_ret
    refine⟨k,rfl,?_,HK.out.trans HK2.out⟩
    rw[decide_eq_true (by omega:(0:Int)≤k)]
    exact(List.any_eq_true.2 ⟨l[k],List.getElem_mem hlt,by rw[HA.out];rfl⟩).symm
  ·have hnl:¬(k:Int)<l.length:=by omega
   clear hkk hall
   go_wp2_with fail
   go_ret
   refine⟨-1,rfl,?_,HK.out⟩
   rw[decide_eq_false (by omega:¬(0:Int)≤-1)]
   symm
   rw[List.any_eq_false]
   intro x hx
   obtain⟨j,hj,e⟩:=List.getElem_of_mem hx
   rw[←e,HALL.out j (by omega) hj]
   exact NT
theorem hasG_any (mb:Gx→Bool)(l:List Gx)(hS:∀i (h:i<l.length),SaysMayG mb l[i])(hl:l.length≤1099511627776)(w:World)(hT:TabS w)(S:Nat→Prop)(p:Option Addr)(c:Nat)(hp:FK w S p 0 l):
  Calls Tryz.prog 59 #[.slice p l.length c,.func (.func 60) #[] #[]] w fun e w'=>e=.returned (.bool (l.any fun x=>!mb x))∧BA (fun _=>False) w w':=by
 have HI:=hid (idxG_any mb l hS hl w hT S p c hp)
 clear hS hp hT
 go_enter Tryz.func59,Tryz.ntmps59
 go_wp2_with (go_at_call 95;refine HI.out.mono ?_;rintro e w2 ⟨k,rfl,hd,hk⟩;have HD:=hid hd;have HK:=hid hk;clear hd hk)
 go_ret
 exact⟨by rw[←HD.out];rfl,HK.out⟩
theorem allT_err (L:List UInt8):((allT L).2.err=0∧(allT L).1=scan L 1 1 false∧okS (scan L 1 1 false)∧L.length≤8192∧(allT L).2=⟨0,0,0⟩)∨((allT L).2.err≠0∧(allT L).1=[]):=by
 unfold allT
 by_cases h:8192<L.length
 ·rw[if_pos h];exact .inr ⟨by decide,rfl⟩
 ·rw[if_neg h]
  have e:scanS L=scan L 1 1 false:=rfl
  cases hf:(scanS L).find? (fun i=>i.err != 0) with
  | some i=>
   have:=List.find?_some hf
   simp only[bne_iff_ne,ne_eq]at this
   exact .inr ⟨this,rfl⟩
  | none=>
   rw[e]at hf ⊢
   rw[List.find?_eq_none]at hf
   exact .inl ⟨rfl,rfl,fun i hi=>by simpa using hf i hi,by omega,rfl⟩
theorem byte_at {s:ByteArray}{L:List UInt8}(hL:s.data.toList=L){at_:Nat}{c:UInt8}{r:List UInt8}(hd:L.drop at_=c::r):∀h:at_<s.size,(s[at_]'h).toNat=c.toNat:=fun h=>by
 have e:s.data.toList.drop at_=c::r:=by rw[hL];exact hd
 rw[drop_at h]at e
 have e2:=(List.cons.inj e).1
 rw[←e2]
 simp[ByteArray.get!,h]
 rfl
theorem CA (s:ByteArray)(w:World)(htab:TabS w):
  Calls Tryz.prog 45 #[.string s] w fun e w'=>e=.returned (.bool (CV s.data.toList))∧BA (fun _=>False) w w':=by
 have hsl:s.data.toList.length=s.size:=by simp
 obtain⟨m,hm⟩:∃m,(s.data.toList.takeWhile FU).length=m:=⟨_,rfl⟩
 obtain⟨r,hr⟩:∃r,DG s.data.toList=r:=⟨_,rfl⟩
 have HR:=hid (show ∀W:World,TabS W→Calls Tryz.prog 88 #[.string s] W fun e w'=>e=.returned (.bool r)∧BA (fun _=>False) W w' from fun W h=>by
  have:=isReserved_any s W h
  rw[hr]at this
  exact this)
 have HS:=hid (show ∀W:World,Calls Tryz.prog 86 #[.string s,.func (.func 87) #[] #[]] W fun e w'=>e=.returned (.int .i64 (m:Nat))∧BA (fun _=>False) W w' from fun W=>by
  have:=span_any FU word_small 87 (enters_of Tryz.func87 (by kernel_rfl) rfl) inWord_any s W
  rw[hm]at this
  exact this)
 have HT:=hid htab
 clear htab
 by_cases h0:0<s.size
 ·have h0i:(0:Int)<(s.size:Int):=by omega
  by_cases h16:s.size≤16
  ·have h16i:(s.size:Int)≤16:=by omega
   obtain⟨c,t,hL⟩:∃c t,s.data.toList=c::t:=by
    cases h:s.data.toList with
    |nil=>rw[h]at hsl;simp at hsl;omega
    |cons c t=>exact⟨c,t,rfl⟩
   have hz:=byte_at (at_:=0) hL rfl h0
   obtain⟨k,hk⟩:∃k:Int,kindI (c.toNat:Int)=k:=⟨_,rfl⟩
   have hO:=hid (fun w=>of_int (c.toNat:Int) w)
   rw[hk]at hO
   have HE:=hid (show CV s.data.toList=((k==3) && (((m:Int)==(s.size:Int)) && !r)) by
    unfold CV
    rw[hr,hm,hsl]
    have e1:(s.data.toList.headD 0)=c:=by rw[hL];rfl
    have e2:decide (m=s.size)=((m:Int)==(s.size:Int)):=by
     rw[Bool.eq_iff_iff];simp;omega
    rw[e1,e2,←kind_letter,hk]
    simp[h0,h16])
   clear hm hr hL hk hsl h16
   cases h3:(k==3) with
   | false=>
    go_enter Tryz.func45,Tryz.ntmps45
    go_wp2_with (go_at_call 85;refine(hO.out _).mono ?_;rintro e w' ⟨rfl,rfl⟩)
    go_ret
    exact⟨ret_bool (by rw[HE.out,h3];rfl),BA.refl _ _⟩
   | true=>
    cases h4:((m:Int)==(s.size:Int)) with
    | false=>
     go_enter Tryz.func45,Tryz.ntmps45
     go_wp2_with (first
      |(go_at_call 85;refine(hO.out _).mono ?_;rintro e w' ⟨rfl,rfl⟩)
      |(go_at_call 86;refine(HS.out _).mono ?_;rintro e w2 ⟨rfl,hk2⟩;have HK2:=hid hk2;clear hk2))
     go_ret
     exact⟨ret_bool (by rw[HE.out,h3,h4];rfl),HK2.out⟩
    | true=>
     have HEE:=hid (show CV s.data.toList=!r by rw[HE.out,h3,h4];rfl)
     go_enter Tryz.func45,Tryz.ntmps45
     go_wp2_with (first
      |(go_at_call 85;refine(hO.out _).mono ?_;rintro e w' ⟨rfl,rfl⟩)
      |(go_at_call 86;refine(HS.out _).mono ?_;rintro e w2 ⟨rfl,hk2⟩;have HK2:=hid hk2;clear hk2)
      |(go_at_call 88;refine(HR.out _ (HK2.out.tabS HT.out)).mono ?_;rintro e w3 ⟨rfl,hk3⟩;have HK3:=hid (HK2.out.trans hk3);clear hk3))
     go_ret
     exact⟨ret_bool HEE.out.symm,HK3.out⟩
  ·have h16i:¬(s.size:Int)≤16:=by omega
   have HE:=hid (show CV s.data.toList=false by unfold CV;rw[hsl];simp[h16])
   clear hm hr hsl h0 h16
   go_enter Tryz.func45,Tryz.ntmps45
   go_wp2_with fail
   go_ret
   exact⟨ret_bool HE.out.symm,BA.refl _ _⟩
 ·have h0i:¬(0:Int)<(s.size:Int):=by omega
  have HE:=hid (show CV s.data.toList=false by unfold CV;rw[hsl];simp[h0])
  clear hm hr hsl h0
  go_enter Tryz.func45,Tryz.ntmps45
  go_wp2_with fail
  go_ret
  exact⟨ret_bool HE.out.symm,BA.refl _ _⟩
end Go.Proofs.YtomlffobbkcmdaaGreatDoor
