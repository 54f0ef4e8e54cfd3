/- Joined texts of this work: Mem, Lx1, LexU, Lx2, Lx3. -/
import Derived.Test.YtomlffobbkcmdaaGreatDoorJq5
import Derived.Sort.Row
import Derived.Deep.AppendLies
import Derived.Deep.Quiet
import Derived.Test.YtomlffobbkcmdaaGreatDoorJq1
import Derived.Test.YtomlffobbkcmdaaGreatDoorProg
import Derived.WalkKit
import Derived.Lib.Hide
import Derived.KernelRfl
import Derived.Lib.DecodeN
import Derived.Shelf.GgClosure.StringsIndexFunc
import Derived.Test.YtomlffobbkcmdaaGreatDoorJq3
import Derived.Lib.AppendIntMem
/-
  What memory holds, said of slices: words and small laws. No program in sight.
-/
namespace Go.Proofs.YtomlffobbkcmdaaGreatDoor
open Go Go.RowKit Own
open Go.Lib (hid)
/-- p's own block -/
def Of (p:Option Addr) (g:Nat):Prop:=∃ a,p=some a∧g=a.block
/-- an element, 0 behind the end -/
def nth (xs:List Int) (j:Nat):Int:=xs.getD j 0
/-- The cells behind p hold these values, one behind the other. -/
def Rd (w:World) (p:Option Addr) (cs:List Value):Prop:=∀ j v,cs[j]?=some v→∃ b o,p=some ⟨b,o,none⟩∧w.cell? ⟨b,o+j,none⟩=some v
def ints (xs:List Int):List Value:=xs.map (Value.int .i64)
theorem ints_length (xs:List Int):(ints xs).length=xs.length:=by simp [ints]
theorem Rd.ptr {w:World} {p:Option Addr} {cs:List Value} (h:Rd w p cs) (hp:0<cs.length):∃ b o,p=some ⟨b,o,none⟩∧b<w.heap.size:=by
 obtain ⟨b,o,h1,h2⟩:=h 0 cs[0] (by simp [hp])
 exact ⟨b,o,h1,World.block_lt_of_cell? w _ h2⟩
theorem Rd.cell {w:World} {b o:Nat} {cs:List Value} (h:Rd w (some ⟨b,o,none⟩) cs) (j:Nat) (v:Value) (hj:cs[j]?=some v):w.cell? ⟨b,o+j,none⟩=some v:=by
 obtain ⟨b',o',h1,h2⟩:=h j v hj
 cases h1
 exact h2
theorem Rd.int {w:World} {b o:Nat} {xs:List Int} (h:Rd w (some ⟨b,o,none⟩) (ints xs)) (j:Nat) (hj:j<xs.length):w.cell? ⟨b,o+j,none⟩=some (.int .i64 (nth xs j)):=
 h.cell j _ (by simp [ints,nth,List.getElem?_map,List.getElem?_eq_getElem hj])
theorem Own.KeepBut.cell {E:Nat→Prop} {w w':World} (h:KeepBut E w w') {a:Addr} {v:Value} (hc:w.cell? a=some v) (hE:¬E a.block):w'.cell? a=some v:=
 (World.cell?_of_block (h.block a.block (World.block_lt_of_cell? w a hc) hE)).trans hc
theorem Rd.keep {E:Nat→Prop} {w w':World} {p:Option Addr} {cs:List Value} (h:Rd w p cs) (hk:KeepBut E w w') (hE:∀ a,p=some a→¬E a.block):Rd w' p cs:=fun j v hj=>by
 obtain ⟨b,o,h1,h2⟩:=h j v hj
 exact ⟨b,o,h1,KeepBut.cell hk h2 (show ¬E b from hE _ h1)⟩
theorem Own.KeepBut.drew (E:Nat→Prop) (w:World):KeepBut E w w.drew:=⟨rfl,rfl,rfl,Nat.le_refl _,fun _ _ _=>rfl⟩
theorem Own.KeepBut.alloc (E:Nat→Prop) (w:World) (o:Obj):KeepBut E w (w.alloc o):=KeepBut.of_below ((Below.refl _ w).alloc (Nat.le_refl _) o)
theorem Own.KeepBut.setCell {E:Nat→Prop} (w:World) (a:Addr) (v:Value) (h:E a.block):KeepBut E w (w.setCell a v):=
 ⟨rfl,rfl,rfl,by simp [World.setCell],fun k _ hE=>Below.heap_setCell _ _ _ _ (fun e=>hE (e ▸ h))⟩
theorem Own.KeepBut.grown {E:Nat→Prop} {w w':World} {row:Option Nat} (h:w.grownBy w' row) (hE:∀ k,row=some k→E k):KeepBut E w w':=
 ⟨h.os,h.tape,h.output,h.size,fun k hk hn=>h.block k hk fun e=>hn (hE k e.symm)⟩
/-- blocks that are new are nobody's -/
theorem Own.KeepBut.new {E:Nat→Prop} {w w1 w2:World} (h:KeepBut (fun _=>False) w w1) (k:KeepBut E w1 w2) (hE:∀ b,E b→w.heap.size≤b):KeepBut (fun _=>False) w w2:=
 ⟨k.os.trans h.os,k.tape.trans h.tape,k.output.trans h.output,Nat.le_trans h.size k.size,fun i hi _=>(k.block i (Nat.lt_of_lt_of_le hi h.size) fun e=>by have:=hE i e;omega).trans (h.block i hi fun e=>e)⟩
theorem Rd.stay {w w':World} {p:Option Addr} {cs:List Value} (h:Rd w p cs) (hk:KeepBut (fun _=>False) w w'):Rd w' p cs:=h.keep hk fun _ _ e=>e
theorem Own.KeepBut.stay {w w':World} (h:KeepBut (fun _=>False) w w') {a:Addr} {v:Value} (hc:w.cell? a=some v):w'.cell? a=some v:=h.cell hc fun e=>e
theorem Own.KeepBut.blk {w w':World} (h:KeepBut (fun _=>False) w w') {b:Nat} {x:Obj} (hc:w.heap[b]?=some x):w'.heap[b]?=some x:=by
 rw [h.block b ?_ fun e=>e]
 ·exact hc
 ·rcases Nat.lt_or_ge b w.heap.size with h' | h'
  ·exact h'
  ·rw [Array.getElem?_eq_none h'] at hc;cases hc
theorem heap_setCells (b:Nat):∀ (vs:List Value) (o:Nat) (w:World) (cur:Array Value) (e:TypeId) (fr:Nat × Nat),w.heap[b]?=some (.cells cur e fr)→
  ∃ cur',(w.setCells b o vs).heap[b]?=some (.cells cur' e fr)∧cur'.size=cur.size∧∀ k,k<cur.size→cur'[k]?=if o≤k∧k<o+vs.length then vs[k - o]? else cur[k]?
 | [],o,w,cur,e,fr,h=>⟨cur,h,rfl,fun k _=>by rw [if_neg (by simp)]⟩
 | v::r,o,w,cur,e,fr,h=>by
  have h1:(w.setCell ⟨b,o,none⟩ v).heap[b]?=some (.cells (cur.setIfInBounds o v) e fr):=by
   simp [World.setCell,Array.getElem?_modify,h]
  obtain ⟨cur',h2,h3,h4⟩:=heap_setCells b r (o+1) _ _ _ _ h1
  refine ⟨cur',h2,by rw [h3];simp,fun k hk=>?_⟩
  rw [h4 k (by simpa using hk)]
  simp only [List.length_cons]
  by_cases hko:k=o
  ·subst hko
   rw [if_neg (by omega),if_pos (by omega)]
   simp [hk]
  ·by_cases hin:o+1≤k∧k<o+1+r.length
   ·rw [if_pos hin,if_pos (by omega)]
    obtain ⟨j,rfl⟩:∃ j,k=o+1+j:=⟨k - (o+1),by omega⟩
    rw [show o+1+j - (o+1)=j by omega,show o+1+j - o=j+1 by omega,List.getElem?_cons_succ]
   ·rw [if_neg hin,if_neg (by omega),Array.getElem?_setIfInBounds_ne (fun e=>hko e.symm)]
theorem keep_setCells {E:Nat→Prop} (b:Nat) (hE:E b):∀ (vs:List Value) (o:Nat) (w:World),KeepBut E w (w.setCells b o vs)
 | [],_,w=>KeepBut.refl E w
 | v::r,o,w=>(KeepBut.setCell w ⟨b,o,none⟩ v hE).trans (keep_setCells b hE r (o+1) _)
theorem fresh_block (w:World) (x:Obj):∃ W N,W=w.alloc x∧N=w.heap.size∧W.heap[N]?=some x∧KeepBut (fun _=>False) w W∧W.heap.size=N+1:=
 ⟨_,_,rfl,rfl,heap_alloc_new w x,KeepBut.alloc _ _ _,by simp⟩
/-
  lex: of, inWord, span; strings.IndexByte, Fields by their contracts.
-/
theorem ret_int {k:IntKind} {a b:Int} (h:a=b):Ending.returned (.int k a)=.returned (.int k b):=by rw [h]
theorem ret_bool {a b:Bool} (h:a=b):Ending.returned (.bool a)=.returned (.bool b):=by rw [h]
def byteV (c:UInt8):Value:=.int .u8 (c.toNat:Int)
/-- what a byte begins, by its number -/
def kindI (n:Int):Int:=if n=9∨n=10∨n=13∨n=32 then 1 else if n=35 then 2 else if 97≤n∧n≤122 then 3 else if 48≤n∧n≤57 then 4 else 0
theorem kind_letter (c:UInt8):(kindI (c.toNat:Int)==3)=letterB c:=by
 unfold kindI letterB
 repeat' split
 all_goals simp
 all_goals omega
theorem kind_digit (c:UInt8):(kindI (c.toNat:Int)==4)=digitB c:=by
 unfold kindI digitB
 repeat' split
 all_goals simp
 all_goals omega
theorem kind_blank (c:UInt8):(kindI (c.toNat:Int)==1)=blankB c:=by
 unfold kindI blankB
 have e:∀ k:Nat,(c.toNat==k)=decide ((c.toNat:Int)=k):=fun k=>by
  rw [Bool.eq_iff_iff];simp
  omega
 rw [e,e,e,e]
 by_cases h:(c.toNat:Int)=9∨(c.toNat:Int)=10∨(c.toNat:Int)=13∨(c.toNat:Int)=32
 ·rw [if_pos h]
  rcases h with h | h | h | h <;> simp [h]
 ·rw [if_neg h]
  simp only [not_or] at h
  obtain ⟨h1,h2,h3,h4⟩:=h
  have:(if (c.toNat:Int)=35 then (2:Int) else if 97≤(c.toNat:Int)∧(c.toNat:Int)≤122 then 3 else if 48≤(c.toNat:Int)∧(c.toNat:Int)≤57 then 4 else 0)≠1:=by
   repeat' split
   all_goals decide
  rw [beq_eq_false_iff_ne.2 this]
  simp [h1,h2,h3,h4]
theorem kind_note (c:UInt8):(kindI (c.toNat:Int)==2)=(c==35):=by
 by_cases h:c=35
 ·subst h;rfl
 ·have hn:(c.toNat:Int)≠35:=fun e=>h (UInt8.toNat_inj.1 (show c.toNat=35 by omega))
  have:kindI (c.toNat:Int)≠2:=by
   unfold kindI
   rw [if_neg (show ¬(c.toNat:Int)=35 from hn)]
   repeat' split
   all_goals decide
  rw [beq_eq_false_iff_ne.2 this,beq_eq_false_iff_ne.2 h]
theorem of_int (n:Int) (w:World):
  Calls Tryz.prog 85 #[.int .u8 n] w fun e w'=>e=.returned (.int .i64 (kindI n))∧w'=w:=by
 by_cases h1:n=9
 ·subst h1
  go_enter Tryz.func85,Tryz.ntmps85
  go_wp2
  go_ret
  exact ⟨rfl,rfl⟩
 by_cases h2:n=10
 ·subst h2
  go_enter Tryz.func85,Tryz.ntmps85
  go_wp2
  go_ret
  exact ⟨rfl,rfl⟩
 by_cases h3:n=13
 ·subst h3
  go_enter Tryz.func85,Tryz.ntmps85
  go_wp2
  go_ret
  exact ⟨rfl,rfl⟩
 by_cases h4:n=32
 ·subst h4
  go_enter Tryz.func85,Tryz.ntmps85
  go_wp2
  go_ret
  exact ⟨rfl,rfl⟩
 by_cases h5:n=35
 ·subst h5
  go_enter Tryz.func85,Tryz.ntmps85
  go_wp2
  go_ret
  exact ⟨rfl,rfl⟩
 have b1:(n==9)=false:=by simpa using h1
 have b2:(n==10)=false:=by simpa using h2
 have b3:(n==13)=false:=by simpa using h3
 have b4:(n==32)=false:=by simpa using h4
 have b5:(n==35)=false:=by simpa using h5
 have e0:kindI n=if 97≤n∧n≤122 then 3 else if 48≤n∧n≤57 then 4 else 0:=by
  unfold kindI
  rw [if_neg (by omega),if_neg h5]
 by_cases h6:97≤n
 ·by_cases h7:n≤122
  ·have HE:=hid (show kindI n=3 by rw [e0,if_pos ⟨h6,h7⟩])
   clear h1 h2 h3 h4 h5 e0
   go_enter Tryz.func85,Tryz.ntmps85
   go_wp2
   go_ret
   exact ⟨ret_int HE.out.symm,rfl⟩
  ·have h8:48≤n:=by omega
   have h9:¬n≤57:=by omega
   have HE:=hid (show kindI n=0 by rw [e0,if_neg (by omega),if_neg (by omega)])
   clear h1 h2 h3 h4 h5 e0
   go_enter Tryz.func85,Tryz.ntmps85
   go_wp2
   go_ret
   exact ⟨ret_int HE.out.symm,rfl⟩
 ·by_cases h8:48≤n
  ·by_cases h9:n≤57
   ·have HE:=hid (show kindI n=4 by rw [e0,if_neg (by omega),if_pos ⟨h8,h9⟩])
    clear h1 h2 h3 h4 h5 e0
    go_enter Tryz.func85,Tryz.ntmps85
    go_wp2
    go_ret
    exact ⟨ret_int HE.out.symm,rfl⟩
   ·have HE:=hid (show kindI n=0 by rw [e0,if_neg (by omega),if_neg (by omega)])
    clear h1 h2 h3 h4 h5 e0
    go_enter Tryz.func85,Tryz.ntmps85
    go_wp2
    go_ret
    exact ⟨ret_int HE.out.symm,rfl⟩
  ·have HE:=hid (show kindI n=0 by rw [e0,if_neg (by omega),if_neg (by omega)])
   clear h1 h2 h3 h4 h5 e0
   go_enter Tryz.func85,Tryz.ntmps85
   go_wp2
   go_ret
   exact ⟨ret_int HE.out.symm,rfl⟩
theorem byte_beq (c:UInt8) (k:Nat) (hk:k<256):((c.toNat:Int)==(k:Int))=(c.toNat==k):=by
 rw [Bool.eq_iff_iff];simp;omega
theorem inWord_any (c:UInt8) (w:World):
    Calls Tryz.prog 87 #[byteV c] w fun e w'=>e=.returned (.bool (wordB c))∧w'=w:=by
  unfold wordB byteV
  have e5:=byte_beq c 95 (by decide)
  rw [←kind_letter,←kind_digit,←e5]
  obtain ⟨n,hn⟩:∃ n:Int,(c.toNat:Int)=n:=⟨_,rfl⟩
  rw [hn]
  clear hn e5
  obtain ⟨k,hk⟩:∃ k:Int,kindI n=k:=⟨_,rfl⟩
  have hO:=hid (fun w=>of_int n w)
  rw [hk] at hO ⊢
  clear hk
  cases h3:(k==3) <;> cases h4:(k==4) <;> cases h95:(n==95) <;>
    (go_enter Tryz.func87,Tryz.ntmps87
     go_wp2_with (go_at_call 85;refine (hO.out _).mono ?_;rintro e w' ⟨rfl,rfl⟩)
     go_ret
     exact ⟨by simp_all,rfl⟩)
theorem isDigit_any (c:UInt8) (w:World):
  Calls Tryz.prog 130 #[byteV c] w fun e w'=>e=.returned (.bool (digitB c))∧w'=w:=by
 unfold byteV
 rw [←kind_digit]
 go_enter Tryz.func130,Tryz.ntmps130
 go_wp2_with (go_at_call 85;refine (of_int _ _).mono ?_;rintro e w' ⟨rfl,rfl⟩)
 go_ret
 exact ⟨rfl,rfl⟩
/-
  strings.IndexFunc at the predicates of package lex, in plain.
-/
open Go
theorem drop_at {s:ByteArray} {i:Nat} (h:i<s.size):s.data.toList.drop i=s.get! i::s.data.toList.drop (i+1):=by
 have hl:i<s.data.toList.length:=by simpa using h
 rw [List.drop_eq_getElem_cons hl]
 congr 1
 simp [ByteArray.get!,h]
theorem decode_small (s:ByteArray) (i:Nat) (h:(s.get! i).toNat<128):Utf8.decode s i=((s.get! i).toNat,1):=by
 rw [Lib.decode_at];unfold Lib.decodeN;rw [if_pos h]
theorem decode_big (s:ByteArray) (i:Nat) (h:128≤(s.get! i).toNat):128≤(Utf8.decode s i).1:=by
 rw [Lib.decode_at];unfold Lib.decodeN;rw [if_neg (by omega)]
 repeat' split
 all_goals simp only
 all_goals omega
theorem idx_span {q:UInt8→Bool} {p:Nat→Bool} (hq:∀ c:UInt8,128≤c.toNat→q c=false) (hp:∀ c:UInt8,c.toNat<128→p c.toNat=!q c) (hp2:∀ r,128≤r→p r=true) (s:ByteArray):
  ∀ f pos,s.size≤pos+f→pos≤s.size→Lib.idxFuncFrom p true s f pos=
   if ((s.data.toList.drop pos).takeWhile q).length=(s.data.toList.drop pos).length then -1 else ((pos+((s.data.toList.drop pos).takeWhile q).length:Nat):Int)
 | 0,pos,h1,h2=>by
  have:pos=s.size:=by omega
  subst this
  have e:s.data.toList.drop s.size=[]:=List.drop_eq_nil_of_le (by simp)
  rw [e]
  simp [Lib.idxFuncFrom]
 | f+1,pos,h1,h2=>by
  unfold Lib.idxFuncFrom
  by_cases h:pos<s.size
  ·rw [if_pos h,drop_at h]
   by_cases hb:(s.get! pos).toNat<128
   ·rw [decode_small s pos hb]
    simp only
    rw [hp _ hb]
    cases hc:q (s.get! pos)
    ·simp [List.takeWhile,hc]
    ·rw [if_neg (by simp),idx_span hq hp hp2 s f (pos+1) (by omega) (by omega),takeWhile_pos hc,List.length_cons,List.length_cons]
     by_cases he:((s.data.toList.drop (pos+1)).takeWhile q).length=(s.data.toList.drop (pos+1)).length
     ·rw [if_pos he,if_pos (by omega)]
     ·rw [if_neg he,if_neg (by omega)]
      congr 1
      omega
   ·rw [hp2 _ (decode_big s pos (by omega)),if_pos rfl]
    have hc:=hq (s.get! pos) (by omega)
    simp [List.takeWhile,hc]
  ·rw [if_neg h]
   have:pos=s.size:=by omega
   subst this
   have e:s.data.toList.drop s.size=[]:=List.drop_eq_nil_of_le (by simp)
   rw [e]
   simp
theorem word_small (c:UInt8) (h:128≤c.toNat):wordB c=false:=by
 unfold wordB letterB digitB
 simp
 omega
theorem digit_small (c:UInt8) (h:128≤c.toNat):digitB c=false:=by
 unfold digitB
 simp
 omega
/-
  lex: span; Reserved; strings.IndexByte.
-/
/-- the predicate that span hands to strings.IndexFunc -/
def runeP (q:UInt8→Bool) (r:Nat):Bool:=decide (127<r) || !q (UInt8.ofNat r)
theorem byteV_ofNat {r:Nat} (h:r≤127):byteV (UInt8.ofNat r)=.int .u8 (r:Int):=by
 unfold byteV
 rw [UInt8.toNat_ofNat']
 congr 1
 omega
theorem u8_in {r:Nat} (h:r≤127):IntKind.u8.wrap (r:Int)=(r:Int):=by
 have e:∀ n:Int,0≤n→n<256→IntKind.u8.wrap n=n:=fun n h1 h2=>by
  simp [IntKind.wrap,IntKind.bits,IntKind.signed]
  omega
 exact e _ (by omega) (by omega)
theorem spanP_any (q:UInt8→Bool) (fid:Nat) (eg:∀ args w,(callFunc fid args).run Tryz.prog w=.ok (.enter fid args) w) (hq:∀ (c:UInt8) (w:World),Calls Tryz.prog fid #[byteV c] w fun e w'=>e=.returned (.bool (q c))∧w'=w)
  (w:World) (B:Nat) (hB:B<w.heap.size) (hc:w.cell? ⟨B,0,none⟩=some (.func (.func fid) #[] #[])):
  PredAt Tryz.prog 108 #[.pointer (some ⟨B,0,none⟩)] encR (runeP q) w:=fun W r hb=>by
 have hc':W.cell? ⟨B,0,none⟩=some (.func (.func fid) #[] #[]):=(hb.cell (p:=⟨B,0,none⟩) hB).trans hc
 clear hc hb
 unfold FnGives
 by_cases h:r≤127
 ·have h1:¬(127:Int)<(r:Int):=by omega
  have hw:=u8_in h
  have hQ:=hid (hq (UInt8.ofNat r))
  have hE:=hid (show runeP q r=!q (UInt8.ofNat r) by unfold runeP;rw [decide_eq_false (by omega)];rfl)
  rw [byteV_ofNat h] at hQ
  clear hq
  go_enter Tryz.func108,Tryz.ntmps108
  go_wp2_with (go_at_fn fid;refine (hQ.out _).mono ?_;rintro e w' ⟨rfl,rfl⟩)
  go_ret
  exact ⟨ret_bool hE.out.symm,0,rfl⟩
 ·have h1:(127:Int)<(r:Int):=by omega
  have hE:=hid (show runeP q r=true by unfold runeP;rw [decide_eq_true (by omega)];rfl)
  clear hq
  go_enter Tryz.func108,Tryz.ntmps108
  go_wp2
  go_ret
  exact ⟨ret_bool hE.out.symm,0,rfl⟩
theorem runeP_small {q:UInt8→Bool} (c:UInt8) (h:c.toNat<128):runeP q c.toNat=!q c:=by
 unfold runeP
 rw [decide_eq_false (by omega),UInt8.ofNat_toNat];rfl
theorem runeP_big {q:UInt8→Bool} (r:Nat) (h:128≤r):runeP q r=true:=by
 unfold runeP
 rw [decide_eq_true (by omega)];rfl
theorem span_any (q:UInt8→Bool) (hs:∀ c:UInt8,128≤c.toNat→q c=false) (fid:Nat) (eg:∀ args w,(callFunc fid args).run Tryz.prog w=.ok (.enter fid args) w) (hq:∀ (c:UInt8) (w:World),Calls Tryz.prog fid #[byteV c] w fun e w'=>e=.returned (.bool (q c))∧w'=w)
  (s:ByteArray) (w:World):
  Calls Tryz.prog 86 #[.string s,.func (.func fid) #[] #[]] w fun e w'=>e=.returned (.int .i64 ((s.data.toList.takeWhile q).length:Nat))∧KeepBut (fun _=>False) w w':=by
 have hC:=hid fun W hB hc=>Tryz.strings_IndexFunc 108 #[.pointer (some ⟨w.heap.size,0,none⟩)] (enters_of Tryz.func108 (by kernel_rfl) rfl) _ s W (spanP_any q fid eg hq W w.heap.size hB hc)
 have hI:=idx_span (p:=runeP q) hs runeP_small runeP_big s s.size 0 (by omega) (by omega)
 rw [List.drop_zero] at hI
 have hl:s.data.toList.length=s.size:=by simp
 rw [hl] at hI
 obtain ⟨I,hI'⟩:∃ I,Lib.idxFunc (runeP q) true s=I:=⟨_,rfl⟩
 obtain ⟨m,hm⟩:∃ m,(s.data.toList.takeWhile q).length=m:=⟨_,rfl⟩
 rw [show Lib.idxFuncFrom (runeP q) true s s.size 0=I from hI',hm,Nat.zero_add] at hI
 rw [hm]
 have hC2:Hid (∀ W:World,w.heap.size<W.heap.size→W.cell? ⟨w.heap.size,0,none⟩=some (.func (.func fid) #[] #[])→Calls Tryz.prog 107 #[.string s,.func (.func 108) #[] #[.pointer (some ⟨w.heap.size,0,none⟩)]] W fun e w'=>e=.returned (.int .i64 I)∧Below W.heap.size W w'):=fun W hB hc=>by
  have:=hC.out W hB hc
  rw [hI'] at this;exact this
 clear hC hI' hl hm
 by_cases h:m=s.size
 ·rw [if_pos h] at hI
  have hI:=hI
  subst hI
  have HM:=hid h
  clear h hs hq
  go_enter Tryz.func86,Tryz.ntmps86
  go_wp2_with (go_at_call 107;refine (hC2.out _ (by simp) (by simp)).mono ?_;rintro e w' ⟨rfl,hb⟩)
  go_ret
  exact ⟨ret_int (by rw [HM.out]),(KeepBut.alloc _ w _).trans (KeepBut.of_below hb)⟩
 ·rw [if_neg h] at hI
  have hI0:¬I<0:=by omega
  have HI:=hid hI
  clear h hI hs hq
  go_enter Tryz.func86,Tryz.ntmps86
  go_wp2_with (go_at_call 107;refine (hC2.out _ (by simp) (by simp)).mono ?_;rintro e w' ⟨rfl,hb⟩)
  go_ret
  exact ⟨ret_int HI.out,(KeepBut.alloc _ w _).trans (KeepBut.of_below hb)⟩
/-
  lex: Reserved, word.
-/
theorem blk_cell {w:World} {b k:Nat} {cs:Array Value} {T:TypeId} {v:Value} (h:w.heap[b]?=some (.cells cs T (0,0))) (hk:cs[k]?=some v):w.cell? ⟨b,k,none⟩=some v:=by
 simp [World.cell?,h,hk]
def strV (l:List UInt8):Value:=.string ⟨l.toArray⟩
def tokV (t:Tok) (line col:Nat):Value:=.agg #[.int .i64 t.kind,strV t.text,.int .i64 t.num,.int .i64 line,.int .i64 col]
def wordsS:ByteArray:=⟨#[112,111,111,108,32,115,116,97,99,107,32,113,117,101,117,101,32,115,101,116,32,116,104,114,101,97,100,32,118,97,114,32,97,114,114,97,121,32,105,102,32,101,108,115,101,32,119,104,105,108,101,32,111,117,116,32,104,97,108,116,32,112,117,115,104,32,112,111,112,32,101,110,113,32,100,101,113,32,97,100,100,32,114,101,109,111,118,101,32,104,97,115]⟩
theorem fields_words:Lib.fields wordsS.data.toList=wordsL:=by decide +kernel
theorem extract_take (s:ByteArray) (m:Nat):s.extract 0 m=⟨(s.data.toList.take m).toArray⟩:=by
 apply ByteArray.ext
 rw [ByteArray.data_extract]
 apply Array.toList_inj.1
 simp
abbrev TabS (w : World) : Prop := Lib.TabIs Tryz.prog w "strings.asciiSpace" .u8 Lib.asciiSpaceTab
theorem Own.KeepBut.tabS {w w':World} (h:KeepBut (fun _=>False) w w') (t:TabS w):TabS w':=
 Lib.tabBelow_of_tabIs t w' ⟨h.os,h.tape,h.output,h.size,fun j hj=>h.block j hj fun e=>e⟩
theorem reserved_any (w:World) (htab:TabS w):
  Calls Tryz.prog 110 #[] w fun e w'=>e=.returned (.slice (some ⟨w.heap.size,0,none⟩) 19 19)∧w'=w.alloc (.cells (wordsL.map fun l=>Value.string ⟨l.toArray⟩).toArray 9):=by
 have hF:=Tryz.strings_Fields wordsS w (by decide) (fun j b h=>by
  have hm:=List.mem_of_getElem? h
  have hall:∀ b∈wordsS.data.toList,b.toNat<128:=by decide +kernel
  exact hall b hm) htab
 rw [fields_words] at hF
 have HF:=hid hF
 clear hF
 go_enter Tryz.func110,Tryz.ntmps110
 go_wp2_with (go_at_call 128;refine HF.out.mono ?_;rintro e w' ⟨rfl,rfl⟩)
 go_ret
 exact ⟨rfl,rfl⟩
theorem words_cells (w:World) (j:Nat) (h:j<(wordsL.map fun l=>(⟨l.toArray⟩:ByteArray)).length):
  (w.alloc (.cells (wordsL.map fun l=>Value.string ⟨l.toArray⟩).toArray 9)).cell? ⟨w.heap.size,0+j,none⟩=some (.string ((wordsL.map fun l=>(⟨l.toArray⟩:ByteArray)).getD j ByteArray.empty)):=by
 refine blk_cell (heap_alloc_new w _) ?_
 rw [Nat.zero_add]
 rw [List.length_map] at h
 simp [List.getD,h]
theorem isReserved_any (s:ByteArray) (w:World) (htab:TabS w):
  Calls Tryz.prog 88 #[.string s] w fun e w'=>e=.returned (.bool (reservedB s.data.toList))∧KeepBut (fun _=>False) w w':=by
 have hR:=hid (reserved_any w htab)
 have hC:=Tryz.slices_Contains_string w.heap.size 0 19 19 (wordsL.map fun l=>(⟨l.toArray⟩:ByteArray)) s (w.alloc (.cells (wordsL.map fun l=>Value.string ⟨l.toArray⟩).toArray 9)) (by decide) (by decide) (words_cells w)
 rw [List.take_of_length_le (by decide),reserved_contains] at hC
 obtain ⟨r,hr⟩:∃ r,reservedB s.data.toList=r:=⟨_,rfl⟩
 rw [show wordsL.contains s.data.toList=r from hr] at hC
 rw [hr]
 have HC:=hid hC
 clear hC
 obtain ⟨W,hW⟩:∃ W,w.alloc (.cells (wordsL.map fun l=>Value.string ⟨l.toArray⟩).toArray 9)=W:=⟨_,rfl⟩
 have HK:=hid (show KeepBut (fun _=>False) w W by rw [←hW];exact KeepBut.alloc _ _ _)
 rw [hW] at hR HC
 clear hW
 go_enter Tryz.func88,Tryz.ntmps88
 go_wp2_with (first
  | (go_at_call 110;refine hR.out.mono ?_;rintro e w' ⟨rfl,rfl⟩)
  | (go_at_call 109;refine HC.out.mono ?_;rintro e w' ⟨rfl,rfl⟩))
 go_ret
 exact ⟨rfl,HK.out⟩
theorem Own.KeepBut.blkE {E:Nat→Prop} {w w':World} (h:KeepBut E w w') {b:Nat} {x:Obj} (hc:w.heap[b]?=some x) (hE:¬E b):w'.heap[b]?=some x:=by
 rw [h.block b (Array.getElem?_eq_some_iff.1 hc).1 hE]
 exact hc
theorem blk5 {w:World} {B:Nat} {a b c d e:Value} {T:TypeId} (h:w.heap[B]?=some (.cells #[a,b,c,d,e] T (0,0))):
  w.cell? ⟨B,0,none⟩=some a∧w.cell? ⟨B,1,none⟩=some b∧w.cell? ⟨B,2,none⟩=some c∧w.cell? ⟨B,3,none⟩=some d∧w.cell? ⟨B,4,none⟩=some e∧
  w.frozen? ⟨B,0,none⟩=false∧w.frozen? ⟨B,1,none⟩=false∧w.frozen? ⟨B,2,none⟩=false∧w.frozen? ⟨B,3,none⟩=false∧w.frozen? ⟨B,4,none⟩=false:=by
 simp [World.cell?,World.frozen?,h]
theorem put1 {w:World} {B i:Nat} {cs:Array Value} {T:TypeId} (h:w.heap[B]?=some (.cells cs T (0,0))) (v:Value):(w.setCell ⟨B,i,none⟩ v).heap[B]?=some (.cells (cs.setIfInBounds i v) T (0,0)):=by
 obtain ⟨hlt,hk⟩:=Array.getElem?_eq_some_iff.1 h
 show (w.heap.modify B _)[B]?=_
 rw [Array.getElem?_eq_getElem (by rw [Array.size_modify];exact hlt),Array.getElem_modify_self,hk]
 rfl
theorem put5 {w:World} {B:Nat} {a b c d e:Value} {T:TypeId} (h:w.heap[B]?=some (.cells #[a,b,c,d,e] T (0,0))) (v0 v1 v2 v3 v4:Value):
  ∃ wf,wf=(((((w.setCell ⟨B,0,none⟩ v0).setCell ⟨B,1,none⟩ v1).setCell ⟨B,2,none⟩ v2).setCell ⟨B,3,none⟩ v3).setCell ⟨B,4,none⟩ v4)∧wf.heap[B]?=some (.cells #[v0,v1,v2,v3,v4] T (0,0))∧KeepBut (fun k=>k=B) w wf:=by
 refine ⟨_,rfl,?_,?_⟩
 ·have h1:=put1 (i:=4) (put1 (i:=3) (put1 (i:=2) (put1 (i:=1) (put1 (i:=0) h v0) v1) v2) v3) v4
  exact h1
 ·have s:∀ (w:World) (i:Nat) (v:Value),KeepBut (fun k=>k=B) w (w.setCell ⟨B,i,none⟩ v):=fun w i v=>KeepBut.setCell _ _ _ rfl
  exact ((((s _ _ _).trans (s _ _ _)).trans (s _ _ _)).trans (s _ _ _)).trans (s _ _ _)
set_option maxHeartbeats 4000000 in
theorem word_any (s:ByteArray) (w:World) (htab:TabS w):
  Calls Tryz.prog 117 #[.string s] w fun e w'=>e=.returned (.tuple #[tokV (wordT s.data.toList).1 0 0,.int .i64 (wordT s.data.toList).2])∧KeepBut (fun _=>False) w w':=by
 obtain ⟨m,hm⟩:∃ m,(s.data.toList.takeWhile wordB).length=m:=⟨_,rfl⟩
 have hsl:s.data.toList.length=s.size:=by simp
 have hms:m≤s.size:=by rw [←hm,←hsl];exact takeWhile_le _ _
 have het:s.extract 0 m=⟨(s.data.toList.takeWhile wordB).toArray⟩:=by rw [extract_take,←hm,takeWhile_take]
 obtain ⟨W0,B,hW0,hB,hb,hk0,hs0⟩:=fresh_block w (.cells #[.int .i64 0,.string ⟨#[]⟩,.int .i64 0,.int .i64 0,.int .i64 0] 76)
 have hS:=span_any wordB word_small 87 (enters_of Tryz.func87 (by kernel_rfl) rfl) inWord_any s W0
 rw [hm] at hS
 have HS:=hid hS
 have HB:=hid hb;have HK:=hid hk0;have HT:=hid (hk0.tabS htab)
 have HN:=hid (show w.heap.size=B∧B<W0.heap.size by omega)
 clear hS hsl hb hk0 hs0 htab
 by_cases h16:16<m
 ·have h16i:(16:Int)<m:=by omega
  have HE:=hid (show wordT s.data.toList=(Tok.zero,3) by unfold wordT;rw [hm,if_pos h16])
  clear hm het hms
  go_enter Tryz.func117,Tryz.ntmps117
  go_upto_region 1 with fail
  rw [←hW0,←hB]
  clear hW0 hB
  go_wp2_with (go_at_call 86;refine HS.out.mono ?_;rintro e w1 ⟨rfl,hk1⟩;have HB1:=hid (hk1.blk HB.out);obtain ⟨n0,n1,n2,n3,n4,f0,f1,f2,f3,f4⟩:=blk5 HB1.out;have HK1:=hid hk1;clear hk1)
  obtain ⟨wf,hwf,hp,hkp⟩:=put5 HB1.out (.int .i64 0) (.string ⟨#[]⟩) (.int .i64 0) (.int .i64 0) (.int .i64 0)
  rw [←hwf]
  obtain ⟨c0,c1,c2,c3,c4,-⟩:=blk5 hp
  refine bodyPost_ret (v:=.tuple #[.agg #[.int .i64 0,.string ⟨#[]⟩,.int .i64 0,.int .i64 0,.int .i64 0],.int .i64 3]) (by simp [results,Tryz.results117,go_sem,c0,c1,c2,c3,c4]) rfl ⟨by rw [HE.out];rfl,?_⟩
  exact (HK.out.trans HK1.out).new hkp fun k e=>by have h2:k=B:=e;have:=HN.out;omega
 ·have h16i:¬(16:Int)<m:=by omega
  have h0:(0:Int)≤m:=by omega
  have hmi:(m:Int)≤s.size:=by omega
  obtain ⟨tx,htx⟩:∃ tx,s.data.toList.takeWhile wordB=tx:=⟨_,rfl⟩
  rw [htx] at het
  have hre:∀ W:World,TabS W→Calls Tryz.prog 88 #[.string ⟨tx.toArray⟩] W fun e w'=>e=.returned (.bool (reservedB tx))∧KeepBut (fun _=>False) W w':=fun W h=>by
   have:=isReserved_any ⟨tx.toArray⟩ W h
   simpa using this
  obtain ⟨r,hr⟩:∃ r,reservedB tx=r:=⟨_,rfl⟩
  rw [hr] at hre
  have HR:=hid hre
  have HE:=hid (show wordT s.data.toList=(⟨if r=true then 1 else 2,tx,0⟩,0) by unfold wordT;rw [hm,if_neg h16,htx,hr])
  clear h16 hm htx hre hr
  go_enter Tryz.func117,Tryz.ntmps117
  go_upto_region 1 with fail
  rw [←hW0,←hB]
  clear hW0 hB
  go_upto_region 5 with (go_at_call 86;refine HS.out.mono ?_;rintro e w1 ⟨rfl,hk1⟩;have HB1:=hid (hk1.blk HB.out);have HK1:=hid hk1;clear hk1)
  obtain ⟨W2,B5,hW2,hB5,hb5,hk2,-⟩:=fresh_block w1 (.cells #[.int .i64 2,.string ⟨tx.toArray⟩,.int .i64 0,.int .i64 0,.int .i64 0] 76)
  rw [←hW2,←hB5]
  have HB5:=hid hb5
  have HK2:=hid (HK1.out.trans hk2)
  have HL5:=hid (show W0.heap.size≤B5∧B<B5 by have:=HK1.out.size;have:=HN.out;omega)
  have HT2:=hid (HK2.out.tabS HT.out)
  have n1:=(blk5 hb5).2.1
  clear hW2 hB5 hb5 hk2 het hmi h0
  cases r with
  | false=>
   go_upto_region 7 with (go_at_call 88;refine (HR.out _ HT2.out).mono ?_;rintro e w3 ⟨rfl,hk3⟩;have HB3:=hid (hk3.blk (HK2.out.blk HB.out));have HB53:=hid (hk3.blk HB5.out);have HK3:=hid (HK2.out.trans hk3);clear hk3)
   obtain ⟨n0,n1,n2,n3,n4,f0,f1,f2,f3,f4⟩:=blk5 HB3.out
   obtain ⟨m0,m1,m2,m3,m4,-⟩:=blk5 HB53.out
   go_wp2_with fail
   obtain ⟨wf,hwf,hp,hkp⟩:=put5 HB3.out (.int .i64 2) (.string ⟨tx.toArray⟩) (.int .i64 0) (.int .i64 0) (.int .i64 0)
   rw [←hwf]
   obtain ⟨c0,c1,c2,c3,c4,-⟩:=blk5 hp
   refine bodyPost_ret (v:=.tuple #[.agg #[.int .i64 2,.string ⟨tx.toArray⟩,.int .i64 0,.int .i64 0,.int .i64 0],.int .i64 0]) (by simp [results,Tryz.results117,go_sem,c0,c1,c2,c3,c4]) rfl ⟨by rw [HE.out];rfl,?_⟩
   exact (HK.out.trans HK3.out).new hkp fun k e=>by have h2:k=B:=e;have:=HN.out;omega
  | true=>
   go_upto_region 7 with (go_at_call 88;refine (HR.out _ HT2.out).mono ?_;rintro e w3 ⟨rfl,hk3⟩;have HB3:=hid (hk3.blk (HK2.out.blk HB.out));have HB53:=hid (hk3.blk HB5.out);have HK3:=hid (HK2.out.trans hk3);clear hk3;obtain ⟨n0,-,-,-,-,f0,-⟩:=blk5 HB53.out)
   have hb6:=put1 (i:=0) HB53.out (.int .i64 1)
   have hk6:KeepBut (fun k=>k=B5) w3 (w3.setCell ⟨B5,0,none⟩ (.int .i64 1)):=KeepBut.setCell _ _ _ rfl
   obtain ⟨w6,hw6⟩:∃ w6,w3.setCell ⟨B5,0,none⟩ (.int .i64 1)=w6:=⟨_,rfl⟩
   rw [hw6] at hb6 hk6 ⊢
   have HB6:=hid (KeepBut.blkE hk6 HB3.out (fun e=>by have h1:=hk6.size;have:=HL5.out;omega))
   clear n0 f0
   obtain ⟨n0,n1,n2,n3,n4,f0,f1,f2,f3,f4⟩:=blk5 HB6.out
   obtain ⟨m0,m1,m2,m3,m4,-⟩:=blk5 (a:=.int .i64 1) hb6
   have HK6:=hid (HK3.out.new hk6 fun k e=>by have h2:k=B5:=e;have:=HL5.out;omega)
   clear hw6 hb6 hk6
   go_wp2_with fail
   obtain ⟨wf,hwf,hp,hkp⟩:=put5 HB6.out (.int .i64 1) (.string ⟨tx.toArray⟩) (.int .i64 0) (.int .i64 0) (.int .i64 0)
   rw [←hwf]
   obtain ⟨c0,c1,c2,c3,c4,-⟩:=blk5 hp
   refine bodyPost_ret (v:=.tuple #[.agg #[.int .i64 1,.string ⟨tx.toArray⟩,.int .i64 0,.int .i64 0,.int .i64 0],.int .i64 0]) (by simp [results,Tryz.results117,go_sem,c0,c1,c2,c3,c4]) rfl ⟨by rw [HE.out];rfl,?_⟩
   exact (HK.out.trans HK6.out).new hkp fun k e=>by have h2:k=B:=e;have:=HN.out;omega
end Go.Proofs.YtomlffobbkcmdaaGreatDoor
