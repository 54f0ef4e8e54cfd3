import Derived.Test.YtknnmidnodeanaaGreatDoorJu2
import Derived.Sort.Row
import Derived.Deep.AppendLies
import Derived.Deep.Quiet
import Derived.Test.YtknnmidnodeanaaGreatDoorJu1
import Derived.Test.YtknnmidnodeanaaGreatDoorProg
import Derived.Lib.Hide
import Derived.KernelRfl
import Derived.Lib.DecodeN
import Derived.Shelf.GgClosure.StringsIndexFunc
import Derived.Shelf.Small.Strs
import Derived.Shelf.Strings.Search1
import Derived.Ground.GgwProg
import Derived.Shelf.GgClosure.StringsIndexFuncTop
import Derived.Shelf.Strings.Fields
import Derived.Shelf.LaysM
import Derived.Shelf.Strings.SplitShaped
import Derived.Shelf.Unicode.Latin
import Derived.Shelf.Unicode.Is16White
import Derived.Shelf.Unicode.IsSpaceAny
import Derived.Shelf.Unicode.Is16Any
import Derived.Shelf.Unicode.Is32Any
import Derived.Shelf.Unicode.ExclAny
import Derived.Shelf.Slices.Turned
import Derived.Ground.SlgnProg
import Derived.Shelf.SlicesE.Index
namespace Go.Proofs.YtknnmidnodeanaaGreatDoor
open Go Go.RowKit Own
def Of (p:Option Addr)(g:Nat):Prop:=∃a,p=some a∧g=a.block
theorem Of.none_iff {g:Nat}:¬Of none g:=fun ⟨_,h,_⟩=>by cases h
def nth (xs:List Int)(j:Nat):Int:=xs.getD j 0
def Rd (w:World)(p:Option Addr)(cs:List Value):Prop:=∀j v,cs[j]?=some v→∃b o,p=some ⟨b,o,none⟩∧w.cell? ⟨b,o+j,none⟩=some v
def ints (xs:List Int):List Value:=xs.map (Value.int .i64)
theorem ints_length (xs:List Int):(ints xs).length=xs.length:=by simp[ints]
theorem Rd.empty (w:World)(p:Option Addr):Rd w p []:=fun j v h=>by simp at h
theorem Rd.ptr {w:World}{p:Option Addr}{cs:List Value}(h:Rd w p cs)(hp:0<cs.length):∃b o,p=some ⟨b,o,none⟩∧b<w.heap.size:=by
 obtain⟨b,o,h1,h2⟩:=h 0 cs[0] (by simp[hp]);exact⟨b,o,h1,World.block_lt_of_cell? w _ h2⟩
theorem Rd.cell {w:World}{b o:Nat}{cs:List Value}(h:Rd w (some ⟨b,o,none⟩) cs)(j:Nat)(v:Value)(hj:cs[j]?=some v):w.cell? ⟨b,o+j,none⟩=some v:=by
 obtain⟨b',o',h1,h2⟩:=h j v hj
 cases h1;exact h2
theorem Rd.int {w:World}{b o:Nat}{xs:List Int}(h:Rd w (some ⟨b,o,none⟩) (ints xs))(j:Nat)(hj:j<xs.length):w.cell? ⟨b,o+j,none⟩=some (.int .i64 (nth xs j)):=
 h.cell j _ (by simp[ints,nth,List.getElem?_map,List.getElem?_eq_getElem hj])
theorem Own.BA.cell {E:Nat→Prop}{w w':World}(h:BA E w w'){a:Addr}{v:Value}(hc:w.cell? a=some v)(hE:¬E a.block):w'.cell? a=some v:=
 (World.cell?_of_block (h.block a.block (World.block_lt_of_cell? w a hc) hE)).trans hc
theorem Rd.keep {E:Nat→Prop}{w w':World}{p:Option Addr}{cs:List Value}(h:Rd w p cs)(hk:BA E w w')(hE:∀a,p=some a→¬E a.block):Rd w' p cs:=fun j v hj=>by
 obtain⟨b,o,h1,h2⟩:=h j v hj;exact⟨b,o,h1,BA.cell hk h2 (show ¬E b from hE _ h1)⟩
theorem Own.BA.drewN (E:Nat→Prop)(w:World)(n:Nat):BA E w (w.drewN n):=⟨rfl,rfl,rfl,Nat.le_refl _,fun _ _ _=>rfl⟩
theorem Own.BA.drew (E:Nat→Prop)(w:World):BA E w w.drew:=⟨rfl,rfl,rfl,Nat.le_refl _,fun _ _ _=>rfl⟩
theorem Own.BA.alloc (E:Nat→Prop)(w:World)(o:Obj):BA E w (w.alloc o):=BA.of_below ((Below.refl _ w).alloc (Nat.le_refl _) o)
theorem Own.BA.setCell {E:Nat→Prop}(w:World)(a:Addr)(v:Value)(h:E a.block):BA E w (w.setCell a v):=
 ⟨rfl,rfl,rfl,by simp[World.setCell],fun k _ hE=>Below.heap_setCell _ _ _ _ (fun e=>hE (e▸h))⟩
theorem Own.BA.grown {E:Nat→Prop}{w w':World}{row:Option Nat}(h:w.grownBy w' row)(hE:∀k,row=some k→E k):BA E w w':=
 ⟨h.os,h.tape,h.output,h.size,fun k hk hn=>h.block k hk fun e=>hn (hE k e.symm)⟩
theorem Own.BA.new {E:Nat→Prop}{w w1 w2:World}(h:BA (fun _=>False) w w1)(k:BA E w1 w2)(hE:∀b,E b→w.heap.size≤b):BA (fun _=>False) w w2:=
 ⟨k.os.trans h.os,k.tape.trans h.tape,k.output.trans h.output,Nat.le_trans h.size k.size,fun i hi _=>(k.block i (Nat.lt_of_lt_of_le hi h.size) fun e=>by have:=hE i e;omega).trans (h.block i hi fun e=>e)⟩
theorem Rd.stay {w w':World}{p:Option Addr}{cs:List Value}(h:Rd w p cs)(hk:BA (fun _=>False) w w'):Rd w' p cs:=h.keep hk fun _ _ e=>e
theorem Own.BA.stay {w w':World}(h:BA (fun _=>False) w w'){a:Addr}{v:Value}(hc:w.cell? a=some v):w'.cell? a=some v:=h.cell hc fun e=>e
theorem Own.BA.blk {w w':World}(h:BA (fun _=>False) w w'){b:Nat}{x:Obj}(hc:w.heap[b]?=some x):w'.heap[b]?=some x:=by
 rw[h.block b ?_ fun e=>e]
 ·exact hc
 ·rcases Nat.lt_or_ge b w.heap.size with h' | h'
  ·exact h'
  ·rw[Array.getElem?_eq_none h']at hc;cases hc
theorem heap_setCells (b:Nat):∀(vs:List Value) (o:Nat) (w:World) (cur:Array Value) (e:TypeId) (fr:Nat×Nat),w.heap[b]?=some (.cells cur e fr)→
  ∃cur',(w.setCells b o vs).heap[b]?=some (.cells cur' e fr)∧cur'.size=cur.size∧∀k,k<cur.size→cur'[k]?=if o≤k∧k<o+vs.length then vs[k - o]? else cur[k]?
 |[],o,w,cur,e,fr,h=>⟨cur,h,rfl,fun k _=>by rw[if_neg (by simp)]⟩
 | v::r,o,w,cur,e,fr,h=>by
  have h1:(w.setCell ⟨b,o,none⟩ v).heap[b]?=some (.cells (cur.setIfInBounds o v) e fr):=by
   simp[World.setCell,Array.getElem?_modify,h]
  obtain⟨cur',h2,h3,h4⟩:=heap_setCells b r (o+1) _ _ _ _ h1;refine⟨cur',h2,by rw[h3];simp,fun k hk=>?_⟩;rw[h4 k (by simpa using hk)];simp only[LC];by_cases hko:k=o
  ·subst hko;rw[if_neg (by omega),if_pos (by omega)];simp[hk]
  ·by_cases hin:o+1≤k∧k<o+1+r.length
   ·rw[if_pos hin,if_pos (by omega)];obtain⟨j,rfl⟩:∃j,k=o+1+j:=⟨k - (o+1),by omega⟩;rw[show o+1+j - (o+1)=j by omega,show o+1+j - o=j+1 by omega,List.getElem?_cons_succ]
   ·rw[if_neg hin,if_neg (by omega),Array.getElem?_setIfInBounds_ne (fun e=>hko e.symm)]
theorem keep_setCells {E:Nat→Prop}(b:Nat)(hE:E b):∀(vs:List Value) (o:Nat) (w:World),BA E w (w.setCells b o vs)
 |[],_,w=>BA.refl E w
 |v::r,o,w=>(BA.setCell w ⟨b,o,none⟩ v hE).trans (keep_setCells b hE r (o+1) _)
theorem BD (w:World)(x:Obj):∃W N,W=w.alloc x∧N=w.heap.size∧W.heap[N]?=some x∧BA (fun _=>False) w W∧W.heap.size=N+1:=
 ⟨_,_,rfl,rfl,heap_alloc_new w x,BA.alloc _ _ _,by simp⟩
theorem ret_int {k:IntKind}{a b:Int}(h:a=b):Ending.returned (.int k a)=.returned (.int k b):=by rw[h]
theorem ret_bool {a b:Bool}(h:a=b):Ending.returned (.bool a)=.returned (.bool b):=by rw[h]
def byteV (c:UInt8):Value:=.int .u8 (c.toNat:Int)
def kindI (n:Int):Int:=if n=9∨n=10∨n=13∨n=32 then 1 else if n=35 then 2 else if 97≤n∧n≤122 then 3 else if 48≤n∧n≤57 then 4 else 0
theorem kind_letter (c:UInt8):(kindI (c.toNat:Int)==3)=DB c:=by
 unfold kindI DB
 repeat' split
 all_goals simp
 all_goals omega
theorem kind_digit (c:UInt8):(kindI (c.toNat:Int)==4)=DY c:=by
 unfold kindI DY
 repeat' split
 all_goals simp
 all_goals omega
theorem kind_blank (c:UInt8):(kindI (c.toNat:Int)==1)=blankB c:=by
 unfold kindI blankB
 have e:∀k:Nat,(c.toNat==k)=decide ((c.toNat:Int)=k):=fun k=>by
  rw[Bool.eq_iff_iff];simp;omega
 rw[e,e,e,e];by_cases h:(c.toNat:Int)=9∨(c.toNat:Int)=10∨(c.toNat:Int)=13∨(c.toNat:Int)=32
 ·rw[if_pos h];rcases h with h|h|h|h<;>simp[h]
 ·rw[if_neg h];simp only[not_or]at h;obtain⟨h1,h2,h3,h4⟩:=h
  have:(if (c.toNat:Int)=35 then (2:Int) else if 97≤(c.toNat:Int)∧(c.toNat:Int)≤122 then 3 else if 48≤(c.toNat:Int)∧(c.toNat:Int)≤57 then 4 else 0)≠1:=by
   repeat' split
   all_goals decide
  rw[BF.2 this];simp[h1,h2,h3,h4]
theorem kind_note (c:UInt8):(kindI (c.toNat:Int)==2)=(c==35):=by
 by_cases h:c=35
 ·subst h;rfl
 ·have hn:(c.toNat:Int)≠35:=fun e=>h (UInt8.toNat_inj.1 (show c.toNat=35 by omega))
  have:kindI (c.toNat:Int)≠2:=by
   unfold kindI;rw[if_neg (show ¬(c.toNat:Int)=35 from hn)]
   repeat' split
   all_goals decide
  rw[BF.2 this,BF.2 h]
theorem of_int (n:Int)(w:World):
  Calls Tryz.prog 62 #[.int .u8 n] w fun e w'=>e=.returned (.int .i64 (kindI n))∧w'=w:=by
 by_cases h1:n=9
 ·subst h1;go_enter Tryz.func62,Tryz.ntmps62;go_wp2
  go_ret;exact⟨rfl,rfl⟩
 by_cases h2:n=10
 ·subst h2;go_enter Tryz.func62,Tryz.ntmps62;go_wp2
  go_ret;exact⟨rfl,rfl⟩
 by_cases h3:n=13
 ·subst h3;go_enter Tryz.func62,Tryz.ntmps62;go_wp2
  go_ret;exact⟨rfl,rfl⟩
 by_cases h4:n=32
 ·subst h4;go_enter Tryz.func62,Tryz.ntmps62;go_wp2
  go_ret;exact⟨rfl,rfl⟩
 by_cases h5:n=35
 ·subst h5;go_enter Tryz.func62,Tryz.ntmps62;go_wp2
  go_ret;exact⟨rfl,rfl⟩
 have b1:(n==9)=false:=by simpa using h1
 have b2:(n==10)=false:=by simpa using h2
 have b3:(n==13)=false:=by simpa using h3
 have b4:(n==32)=false:=by simpa using h4
 have b5:(n==35)=false:=by simpa using h5
 have e0:kindI n=if 97≤n∧n≤122 then 3 else if 48≤n∧n≤57 then 4 else 0:=by
  unfold kindI;rw[if_neg (by omega),if_neg h5]
 by_cases h6:97≤n
 ·by_cases h7:n≤122
  ·have HE:=Lib.hid (show kindI n=3 by rw[e0,if_pos ⟨h6,h7⟩]);clear h1 h2 h3 h4 h5 e0;go_enter Tryz.func62,Tryz.ntmps62;go_wp2
   go_ret;exact⟨ret_int HE.out.symm,rfl⟩
  ·have h8:48≤n:=by omega
   have h9:¬n≤57:=by omega
   have HE:=Lib.hid (show kindI n=0 by rw[e0,if_neg (by omega),if_neg (by omega)]);clear h1 h2 h3 h4 h5 e0;go_enter Tryz.func62,Tryz.ntmps62;go_wp2
   go_ret;exact⟨ret_int HE.out.symm,rfl⟩
 ·by_cases h8:48≤n
  ·by_cases h9:n≤57
   ·have HE:=Lib.hid (show kindI n=4 by rw[e0,if_neg (by omega),if_pos ⟨h8,h9⟩]);clear h1 h2 h3 h4 h5 e0;go_enter Tryz.func62,Tryz.ntmps62;go_wp2
    go_ret;exact⟨ret_int HE.out.symm,rfl⟩
   ·have HE:=Lib.hid (show kindI n=0 by rw[e0,if_neg (by omega),if_neg (by omega)]);clear h1 h2 h3 h4 h5 e0;go_enter Tryz.func62,Tryz.ntmps62;go_wp2
    go_ret;exact⟨ret_int HE.out.symm,rfl⟩
  ·have HE:=Lib.hid (show kindI n=0 by rw[e0,if_neg (by omega),if_neg (by omega)]);clear h1 h2 h3 h4 h5 e0;go_enter Tryz.func62,Tryz.ntmps62;go_wp2
   go_ret;exact⟨ret_int HE.out.symm,rfl⟩
theorem byte_beq (c:UInt8)(k:Nat)(hk:k<256):((c.toNat:Int)==(k:Int))=(c.toNat==k):=by
 rw[Bool.eq_iff_iff];simp;omega
theorem inWord_any (c:UInt8)(w:World):
    Calls Tryz.prog 64 #[byteV c] w fun e w'=>e=.returned (.bool (wordB c))∧w'=w:=by
  unfold wordB byteV;have e5:=byte_beq c 95 (by decide);rw[←kind_letter,←kind_digit,←e5];obtain⟨n,hn⟩:∃n:Int,(c.toNat:Int)=n:=⟨_,rfl⟩;rw[hn];clear hn e5;obtain⟨k,hk⟩:∃k:Int,kindI n=k:=⟨_,rfl⟩;have hO:=Lib.hid (fun w=>of_int n w);rw[hk]at hO ⊢;clear hk
  cases h3:(k==3)<;>cases h4:(k==4)<;>cases h95:(n==95) <;>
    (go_enter Tryz.func64,Tryz.ntmps64
     go_wp2_with (go_at_call 62;refine(hO.out _).mono ?_;rintro e w' ⟨rfl,rfl⟩);go_ret;exact⟨by simp_all,rfl⟩)
theorem isDigit_any (c:UInt8)(w:World):
  Calls Tryz.prog 114 #[byteV c] w fun e w'=>e=.returned (.bool (DY c))∧w'=w:=by
 unfold byteV;rw[←kind_digit];go_enter Tryz.func114,Tryz.ntmps114;go_wp2_with (go_at_call 62;refine(of_int _ _).mono ?_;rintro e w' ⟨rfl,rfl⟩);go_ret;exact⟨rfl,rfl⟩
open Go
theorem drop_at {s:ByteArray}{i:Nat}(h:i<s.size):s.data.toList.drop i=s.get! i::s.data.toList.drop (i+1):=by
 have hl:i<s.data.toList.length:=by simpa using h
 rw[List.drop_eq_getElem_cons hl]
 congr 1
 simp[ByteArray.get!,h]
theorem decode_small (s:ByteArray)(i:Nat)(h:(s.get! i).toNat<128):Utf8.decode s i=((s.get! i).toNat,1):=by
 rw[Lib.decode_at];unfold Lib.decodeN;rw[if_pos h]
theorem decode_big (s:ByteArray)(i:Nat)(h:128≤(s.get! i).toNat):128≤(Utf8.decode s i).1:=by
 rw[Lib.decode_at];unfold Lib.decodeN;rw[if_neg (by omega)]
 repeat' split
 all_goals simp only
 all_goals omega
theorem idx_span {q:UInt8→Bool}{p:Nat→Bool}(hq:∀c:UInt8,128≤c.toNat→q c=false)(hp:∀c:UInt8,c.toNat<128→p c.toNat=!q c)(hp2:∀r,128≤r→p r=true)(s:ByteArray):
  ∀ f pos,s.size≤pos+f→pos≤s.size→Lib.idxFuncFrom p true s f pos=
   if ((s.data.toList.drop pos).takeWhile q).length=(s.data.toList.drop pos).length then -1 else ((pos+((s.data.toList.drop pos).takeWhile q).length:Nat):Int)
 | 0,pos,h1,h2=>by
  have:pos=s.size:=by omega
  subst this;have e:s.data.toList.drop s.size=[]:=List.drop_eq_nil_of_le (by simp);rw[e];simp[Lib.idxFuncFrom]
 | f+1,pos,h1,h2=>by
  unfold Lib.idxFuncFrom;by_cases h:pos<s.size
  ·rw[if_pos h,drop_at h];by_cases hb:(s.get! pos).toNat<128
   ·rw[decode_small s pos hb];simp only;rw[hp _ hb]
    cases hc:q (s.get! pos)
    ·simp[List.takeWhile,hc]
    ·rw[if_neg (by simp),idx_span hq hp hp2 s f (pos+1) (by omega) (by omega),takeWhile_pos hc,LC,LC];by_cases he:((s.data.toList.drop (pos+1)).takeWhile q).length=(s.data.toList.drop (pos+1)).length
     ·rw[if_pos he,if_pos (by omega)]
     ·rw[if_neg he,if_neg (by omega)]
      congr 1
      omega
   ·rw[hp2 _ (decode_big s pos (by omega)),if_pos rfl];have hc:=hq (s.get! pos) (by omega);simp[List.takeWhile,hc]
  ·rw[if_neg h];have:pos=s.size:=by omega
   subst this;have e:s.data.toList.drop s.size=[]:=List.drop_eq_nil_of_le (by simp);rw[e];simp
theorem word_small (c:UInt8)(h:128≤c.toNat):wordB c=false:=by
 unfold wordB DB DY;simp;omega
theorem digit_small (c:UInt8)(h:128≤c.toNat):DY c=false:=by
 unfold DY;simp;omega
end Go.Proofs.YtknnmidnodeanaaGreatDoor
namespace Go.Proofs
open Go.Shelf
def Tryz.lays137_ren:Go.Shelf.Ren:=⟨fun|137=>113|217=>124|266=>131|n=>n,fun|9=>9|5=>5|3=>3|n=>n,fun|n=>n⟩
theorem Tryz.lays137:Go.Proofs.Lays.n137 Tryz.prog Tryz.lays137_ren:={
 mixed:=by kernel_rfl
 f137:=Tryz.func113.trans (congrArg some (by kernel_rfl))
 f217:=Tryz.func124.trans (congrArg some (by kernel_rfl))
 f266:=Tryz.func131.trans (congrArg some (by kernel_rfl))
 t3:=Tryz.underlying3
 a3:=Tryz.isAgg3
 z3:=Tryz.sizeOf3
 v3:=Tryz.zeroValue3
 t5:=Tryz.underlying5
 a5:=Tryz.isAgg5
 z5:=Tryz.sizeOf5
 v5:=Tryz.zeroValue5
 t9:=Tryz.underlying9
 a9:=Tryz.isAgg9
 z9:=Tryz.sizeOf9
 v9:=Tryz.zeroValue9 }
open Go.RowKit in
theorem Tryz.strings_IndexByte (s:ByteArray)(c:Int)(w:World):
  Calls Tryz.prog 113 #[.string s,.int .u8 c] w fun e w'=>e=.returned (.int .i64 (Lib.indexByte s.data.toList c.toNat.toUInt8))∧w'=w:=Any.strings_IndexByte Tryz.lays137 s c w
def Tryz.laysGw15_ren:Go.Shelf.Ren:=⟨fun|15=>84|20=>99|n=>n,fun|9=>9|23=>131|3=>3|4=>4|0=>0|21=>21|n=>n,fun|n=>n⟩
theorem Tryz.laysGw15:Go.Proofs.LaysGw.n15 Tryz.prog Tryz.laysGw15_ren:={
 mixed:=by kernel_rfl
 f15:=Tryz.func84.trans (congrArg some (by kernel_rfl))
 f20:=Tryz.func99.trans (congrArg some (by kernel_rfl))
 t0:=Tryz.underlying0
 a0:=Tryz.isAgg0
 z0:=Tryz.sizeOf0
 v0:=Tryz.zeroValue0
 i0:=by kernel_rfl
 t3:=Tryz.underlying3
 a3:=Tryz.isAgg3
 z3:=Tryz.sizeOf3
 v3:=Tryz.zeroValue3
 i3:=by kernel_rfl
 t4:=Tryz.underlying4
 a4:=Tryz.isAgg4
 z4:=Tryz.sizeOf4
 v4:=Tryz.zeroValue4
 i4:=by kernel_rfl
 t9:=Tryz.underlying9
 a9:=Tryz.isAgg9
 z9:=Tryz.sizeOf9
 v9:=Tryz.zeroValue9
 i9:=by kernel_rfl
 t21:=Tryz.underlying21
 a21:=Tryz.isAgg21
 z21:=Tryz.sizeOf21
 v21:=Tryz.zeroValue21
 i21:=by kernel_rfl
 t23:=Tryz.underlying131
 a23:=Tryz.isAgg131
 z23:=Tryz.sizeOf131
 v23:=Tryz.zeroValue131
 i23:=by kernel_rfl }
open Go.RowKit Go.Lib in
theorem Tryz.strings_IndexFunc (g:Nat)(lb:Array Value)(eg:∀args w,(callFunc g args).run Tryz.prog w=.ok (.enter g args) w)(p:Nat→Bool)(s:ByteArray)(w:World)(hp:PredAt Tryz.prog g lb encR p w):
  Calls Tryz.prog 84 #[.string s,.func (.func g) #[] lb] w fun e w'=>e=.returned (.int .i64 (Lib.idxFunc p true s))∧Below w.heap.size w w':=Any.strings_IndexFunc Tryz.laysGw15 g lb eg p s w hp
def Tryz.lays157_ren:Go.Shelf.Ren:=⟨fun|157=>100|229=>111|199=>112|261=>123|311=>129|312=>130|n=>n,fun|9=>9|31=>38|3=>3|5=>5|4=>4|119=>157|0=>0|40=>131|152=>161|21=>21|154=>163|51=>164|141=>166|196=>176|193=>173|198=>179|49=>177|194=>174|201=>182|226=>184|46=>185|227=>186|n=>n,fun|0=>0|6=>1|n=>n⟩
theorem Tryz.lays157:Go.Proofs.Lays.n157 Tryz.prog Tryz.lays157_ren:={
 mixed:=by kernel_rfl
 f157:=Tryz.func100.trans (congrArg some (by kernel_rfl))
 f199:=Tryz.func112.trans (congrArg some (by kernel_rfl))
 f229:=Tryz.func111.trans (congrArg some (by kernel_rfl))
 f261:=Tryz.func123.trans (congrArg some (by kernel_rfl))
 f311:=Tryz.func129.trans (congrArg some (by kernel_rfl))
 f312:=Tryz.func130.trans (congrArg some (by kernel_rfl))
 t0:=Tryz.underlying0
 a0:=Tryz.isAgg0
 z0:=Tryz.sizeOf0
 v0:=Tryz.zeroValue0
 t3:=Tryz.underlying3
 a3:=Tryz.isAgg3
 z3:=Tryz.sizeOf3
 v3:=Tryz.zeroValue3
 t4:=Tryz.underlying4
 a4:=Tryz.isAgg4
 z4:=Tryz.sizeOf4
 v4:=Tryz.zeroValue4
 t5:=Tryz.underlying5
 a5:=Tryz.isAgg5
 z5:=Tryz.sizeOf5
 v5:=Tryz.zeroValue5
 t9:=Tryz.underlying9
 a9:=Tryz.isAgg9
 z9:=Tryz.sizeOf9
 v9:=Tryz.zeroValue9
 t21:=Tryz.underlying21
 a21:=Tryz.isAgg21
 z21:=Tryz.sizeOf21
 v21:=Tryz.zeroValue21
 t31:=Tryz.underlying38
 a31:=Tryz.isAgg38
 z31:=Tryz.sizeOf38
 v31:=Tryz.zeroValue38
 t40:=Tryz.underlying131
 a40:=Tryz.isAgg131
 z40:=Tryz.sizeOf131
 v40:=Tryz.zeroValue131
 t46:=Tryz.underlying185
 a46:=Tryz.isAgg185
 z46:=Tryz.sizeOf185
 v46:=Tryz.zeroValue185
 t49:=Tryz.underlying177
 a49:=Tryz.isAgg177
 z49:=Tryz.sizeOf177
 v49:=Tryz.zeroValue177
 t51:=Tryz.underlying164
 a51:=Tryz.isAgg164
 z51:=Tryz.sizeOf164
 v51:=Tryz.zeroValue164
 t119:=Tryz.underlying157
 a119:=Tryz.isAgg157
 z119:=Tryz.sizeOf157
 t141:=Tryz.underlying166
 a141:=Tryz.isAgg166
 z141:=Tryz.sizeOf166
 v141:=Tryz.zeroValue166
 t152:=Tryz.underlying161
 a152:=Tryz.isAgg161
 z152:=Tryz.sizeOf161
 v152:=Tryz.zeroValue161
 t154:=Tryz.underlying163
 a154:=Tryz.isAgg163
 z154:=Tryz.sizeOf163
 v154:=Tryz.zeroValue163
 t193:=Tryz.underlying173
 a193:=Tryz.isAgg173
 z193:=Tryz.sizeOf173
 v193:=Tryz.zeroValue173
 t194:=Tryz.underlying174
 a194:=Tryz.isAgg174
 z194:=Tryz.sizeOf174
 v194:=Tryz.zeroValue174
 t196:=Tryz.underlying176
 a196:=Tryz.isAgg176
 z196:=Tryz.sizeOf176
 v196:=Tryz.zeroValue176
 t198:=Tryz.underlying179
 a198:=Tryz.isAgg179
 z198:=Tryz.sizeOf179
 v198:=Tryz.zeroValue179
 t201:=Tryz.underlying182
 a201:=Tryz.isAgg182
 z201:=Tryz.sizeOf182
 v201:=Tryz.zeroValue182
 t226:=Tryz.underlying184
 a226:=Tryz.isAgg184
 z226:=Tryz.sizeOf184
 v226:=Tryz.zeroValue184
 t227:=Tryz.underlying186
 a227:=Tryz.isAgg186
 z227:=Tryz.sizeOf186
 v227:=Tryz.zeroValue186
 g0:=by kernel_rfl
 g6:=by kernel_rfl }
open Go.RowKit Go.Lib in
theorem Tryz.strings_Fields (s : ByteArray)(w : World)(hs : s.size < 4294967281)(hascii : ∀(j : Nat) b, s.data.toList[j]? = some b→b.toNat < 128)(htab : Lib.TabIs Tryz.prog w "strings.asciiSpace" .u8 Lib.asciiSpaceTab) :
  Calls Tryz.prog 100 #[.string s] w fun e w'=>
   e=.returned (.slice (some ⟨w.heap.size,0,none⟩) (Lib.fields s.data.toList).length (Lib.fields s.data.toList).length)∧w'=w.alloc (.cells ((Lib.fields s.data.toList).map fun l=>Value.string ⟨l.toArray⟩).toArray 9):=Any.strings_Fields Tryz.lays157 (by kernel_rfl) (by kernel_rfl) s w hs hascii htab
def Tryz.lays109_ren:Go.Shelf.Ren:=⟨fun|109=>32|n=>n,fun|31=>38|9=>9|3=>3|0=>0|4=>4|n=>n,fun|n=>n⟩
theorem Tryz.lays109:Go.Proofs.Lays.n109 Tryz.prog Tryz.lays109_ren:={
 mixed:=by kernel_rfl
 f109:=Tryz.func32.trans (congrArg some (by kernel_rfl))
 t0:=Tryz.underlying0
 a0:=Tryz.isAgg0
 z0:=Tryz.sizeOf0
 v0:=Tryz.zeroValue0
 t3:=Tryz.underlying3
 a3:=Tryz.isAgg3
 z3:=Tryz.sizeOf3
 v3:=Tryz.zeroValue3
 t4:=Tryz.underlying4
 a4:=Tryz.isAgg4
 z4:=Tryz.sizeOf4
 v4:=Tryz.zeroValue4
 t9:=Tryz.underlying9
 a9:=Tryz.isAgg9
 z9:=Tryz.sizeOf9
 v9:=Tryz.zeroValue9
 t31:=Tryz.underlying38
 a31:=Tryz.isAgg38
 z31:=Tryz.sizeOf38
 v31:=Tryz.zeroValue38 }
open Go.Lib in
theorem Tryz.slices_Index_string (b off n c:Nat)(zs:List ByteArray)(x:ByteArray)(w:World)(hz:n≤zs.length)(hbig:n≤9223372036854775807)(hc:∀j,j<zs.length→w.cell? ⟨b,off+j,none⟩=some (.string (zs.getD j ByteArray.empty))):
  Calls Tryz.prog 32 #[.slice (some ⟨b,off,none⟩) n c,.string x] w fun e w'=>e=.returned (.int .i64 (Lib.idxOfS (zs.take n) x))∧w'=w:=Any.slices_Index_string Tryz.lays109 b off n c zs x w hz hbig hc
def Tryz.lays110_ren:Go.Shelf.Ren:=⟨fun|110=>86|109=>32|n=>n,fun|31=>38|9=>9|4=>4|3=>3|0=>0|n=>n,fun|n=>n⟩
theorem Tryz.lays110:Go.Proofs.Lays.n110 Tryz.prog Tryz.lays110_ren:={
 mixed:=by kernel_rfl
 f109:=Tryz.func32.trans (congrArg some (by kernel_rfl))
 f110:=Tryz.func86.trans (congrArg some (by kernel_rfl))
 t0:=Tryz.underlying0
 a0:=Tryz.isAgg0
 z0:=Tryz.sizeOf0
 v0:=Tryz.zeroValue0
 t3:=Tryz.underlying3
 a3:=Tryz.isAgg3
 z3:=Tryz.sizeOf3
 v3:=Tryz.zeroValue3
 t4:=Tryz.underlying4
 a4:=Tryz.isAgg4
 z4:=Tryz.sizeOf4
 v4:=Tryz.zeroValue4
 t9:=Tryz.underlying9
 a9:=Tryz.isAgg9
 z9:=Tryz.sizeOf9
 v9:=Tryz.zeroValue9
 t31:=Tryz.underlying38
 a31:=Tryz.isAgg38
 z31:=Tryz.sizeOf38
 v31:=Tryz.zeroValue38 }
open Go.Lib in
theorem Tryz.slices_Contains_string (b off n c:Nat)(zs:List ByteArray)(x:ByteArray)(w:World)(hz:n≤zs.length)(hbig:n≤9223372036854775807)(hc:∀j,j<zs.length→w.cell? ⟨b,off+j,none⟩=some (.string (zs.getD j ByteArray.empty))):
  Calls Tryz.prog 86 #[.slice (some ⟨b,off,none⟩) n c,.string x] w fun e w'=>e=.returned (.bool (Lib.containsS (zs.take n) x))∧w'=w:=Any.slices_Contains_string Tryz.lays110 b off n c zs x w hz hbig hc
end Go.Proofs
