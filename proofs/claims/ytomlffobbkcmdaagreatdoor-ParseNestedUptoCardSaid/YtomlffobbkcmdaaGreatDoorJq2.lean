/- Joined texts of this work: Pr1. -/
import Derived.Test.YtomlffobbkcmdaaGreatDoorJq1
/-
  ParseRows in plain: how the text of two operators and three numbers is split into tokens, and what is read out of them. No program in sight.
-/
namespace Go.Proofs.YtomlffobbkcmdaaGreatDoor
open Go
theorem head_app {a b:List UInt8} (h:a≠[]):(a++b).head?=a.head?:=by
 cases a with
 | nil=>exact absurd rfl h
 | cons x l=>rfl
/-- a number's digits -/
def digL (n:Nat):List UInt8:=if h:n≤9 then [UInt8.ofNat (48+n)] else digL (n / 10)++[UInt8.ofNat (48+n % 10)]
 termination_by n
 decreasing_by omega
theorem digL_small {n:Nat} (h:n≤9):digL n=[UInt8.ofNat (48+n)]:=by rw [digL,dif_pos h]
theorem digL_big {n:Nat} (h:¬n≤9):digL n=digL (n / 10)++[UInt8.ofNat (48+n % 10)]:=by rw [digL,dif_neg h]
theorem dig_nat {k:Nat} (h:k≤9):(UInt8.ofNat (48+k)).toNat=48+k:=by
 rw [UInt8.toNat_ofNat']
 omega
theorem dig_is {k:Nat} (h:k≤9):digitB (UInt8.ofNat (48+k))=true:=by
 unfold digitB
 rw [dig_nat h,decide_eq_true (by omega),decide_eq_true (by omega)]
 rfl
theorem digL_all (n:Nat):∀ c∈digL n,digitB c=true:=by
 induction n using Nat.strongRecOn with
 | _ n ih=>
  intro c hc
  by_cases h:n≤9
  ·rw [digL_small h,List.mem_singleton] at hc
   rw [hc];exact dig_is h
  ·rw [digL_big h,List.mem_append,List.mem_singleton] at hc
   rcases hc with hc | hc
   ·exact ih (n / 10) (by omega) c hc
   ·rw [hc];exact dig_is (by omega)
theorem val10_snoc (l:List UInt8) (c:UInt8):val10 (l++[c])=10 * val10 l+(c.toNat - 48):=by simp [val10]
theorem digL_val (n:Nat):val10 (digL n)=n:=by
 induction n using Nat.strongRecOn with
 | _ n ih=>
  by_cases h:n≤9
  ·rw [digL_small h]
   show 10 * 0+((UInt8.ofNat (48+n)).toNat - 48)=n
   rw [dig_nat h];omega
  ·rw [digL_big h,val10_snoc,ih (n / 10) (by omega),dig_nat (by omega)]
   omega
theorem digL_ne (n:Nat):digL n≠[]:=by
 by_cases h:n≤9
 ·rw [digL_small h];simp
 ·rw [digL_big h];simp
theorem digL_head (n:Nat):9<n→(digL n).head?≠some 48:=by
 induction n using Nat.strongRecOn with
 | _ n ih=>
  intro hn
  rw [digL_big (by omega),head_app (digL_ne _)]
  by_cases h:n / 10≤9
  ·rw [digL_small h]
   intro e
   have e:=Option.some.inj e
   have h2:=dig_nat h
   rw [e] at h2
   have h3:(48:UInt8).toNat=48:=rfl
   omega
  ·exact ih (n / 10) (by omega) (by omega)
theorem digL_one {n:Nat}:¬(1<(digL n).length∧(digL n).head?=some 48):=by
 rintro ⟨h1,h2⟩
 by_cases h:n≤9
 ·rw [digL_small h] at h1;simp at h1
 ·exact digL_head n (by omega) h2
theorem digL_len:∀ (k n:Nat),n<10 ^ (k+1)→(digL n).length≤k+1
 | 0,n,h=>by rw [digL_small (by omega)];simp
 | k+1,n,h=>by
  by_cases h9:n≤9
  ·rw [digL_small h9];simp
  ·rw [digL_big h9,List.length_append]
   have:=digL_len k (n / 10) (by rw [Nat.pow_succ] at h;omega)
   simp;omega
/-- the signs that stand here -/
def signed (s:List UInt8):Bool:=([[42],[47],[37],[43],[45],[60],[60,61],[62],[62,61],[61,61],[33,61],[38],[124],[33]]:List (List UInt8)).contains s
/-- what binds more than level l -/
def opsAt:Nat→List Nat
 | 0=>[1,2,3]
 | 1=>[4,5]
 | 2=>[6,7,8,9]
 | 3=>[10,11]
 | 4=>[12]
 | _=>[13]
def nxt (one:List Item→Option (Ex × List Item)):Nat→List Item→Option (Ex × List Item)
 | 0=>one
 | l+1=>rowN (nxt one l) (opsAt l)
def levT (op:Nat):Nat:=if op≤3 then 0 else if op≤5 then 1 else if op≤9 then 2 else if op≤11 then 3 else if op=12 then 4 else 5
theorem levT_le (op:Nat):levT op≤5:=by
 unfold levT
 split
 ·omega
 ·split
  ·omega
  ·split
   ·omega
   ·split
    ·omega
    ·split <;> omega
def opTok (op line col:Nat):Item:=⟨⟨4,signL.getD op [],0⟩,line,col,0⟩
theorem opOf_tok {op:Nat} (h1:1≤op) (h2:op≤13) (l line col:Nat) (hl:l≤5) (r:List Item):opOf (opsAt l) (opTok op line col::r)=if levT op=l then some op else none:=by
 have key:∀ op:Nat,op<14→∀ l:Nat,l<6→1≤op→(opsAt l).find? (fun k=>isT ⟨4,signL.getD op [],0⟩ (signL.getD k []))=if levT op=l then some op else none:=by decide +kernel
 exact key op (by omega) l (by omega) h1
theorem opOf_nil (ops:List Nat):opOf ops []=none:=by
 unfold opOf headIs
 simp
variable {one : List Item → Option (Ex × List Item)}
theorem nxt_pass {l:Nat} {ts r:List Item} {x:Ex} (h:nxt one l ts=some (x,r)) (hr:opOf (opsAt l) r=none):nxt one (l+1) ts=some (x,r):=by
 show rowN (nxt one l) (opsAt l) ts=_
 unfold rowN
 rw [h]
 show rowL _ _ (r.length+1) x r=_
 unfold rowL
 rw [hr]
theorem nxt_up {l:Nat} {ts r:List Item} {x:Ex} (h:nxt one l ts=some (x,r)):∀ k,(∀ j,l≤j→j<l+k→opOf (opsAt j) r=none)→nxt one (l+k) ts=some (x,r)
 | 0,_=>h
 | k+1,hk=>nxt_pass (nxt_up h k fun j h1 h2=>hk j h1 (by omega)) (hk (l+k) (by omega) (by omega))
theorem nxt_up' {l m:Nat} {ts r:List Item} {x:Ex} (h:nxt one l ts=some (x,r)) (hm:l≤m) (hk:∀ j,l≤j→j<m→opOf (opsAt j) r=none):nxt one m ts=some (x,r):=by
 have:=nxt_up h (m - l) fun j h1 h2=>hk j h1 (by omega)
 rwa [show l+(m - l)=m by omega] at this
def binX (op line col:Nat) (x y:Ex):Ex:=.mk 5 op 0 [] line col [x,y]
/-- one operator of a level, and what follows is none of it -/
theorem nxt_op {op line col:Nat} (h1:1≤op) (h2:op≤13) {ts r1 r2:List Item} {x y:Ex} (hx:nxt one (levT op) ts=some (x,opTok op line col::r1)) (hy:nxt one (levT op) r1=some (y,r2)) (hr:opOf (opsAt (levT op)) r2=none):
  nxt one (levT op+1) ts=some (binX op line col x y,r2):=by
 show rowN (nxt one (levT op)) (opsAt (levT op)) ts=_
 unfold rowN
 rw [hx]
 show rowL _ _ ((opTok op line col::r1).length+1) x _=_
 rw [List.length_cons]
 unfold rowL
 rw [opOf_tok h1 h2 _ _ _ (levT_le op),if_pos rfl]
 dsimp only
 rw [hy]
 dsimp only
 unfold rowL
 rw [hr]
 rfl
theorem sign_signed {op:Nat} (h1:1≤op) (h2:op≤13):signed (signL.getD op [])=true:=by
 have key:∀ op:Nat,op<14→1≤op→signed (signL.getD op [])=true:=by decide
 exact key op (by omega) h1
end Go.Proofs.YtomlffobbkcmdaaGreatDoor
