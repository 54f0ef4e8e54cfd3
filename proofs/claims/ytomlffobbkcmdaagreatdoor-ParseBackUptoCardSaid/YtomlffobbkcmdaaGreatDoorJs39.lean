import Derived.Test.YtomlffobbkcmdaaGreatDoorJs38
import Derived.Laws.AppendOwn
namespace Go.Proofs.YtomlffobbkcmdaaGreatDoor
open Go Go.RowKit Own
section
variable {P : Program}{w0 : World}{M : Nat→Prop}{o : Oper}{a : Act}{av ea : List Nat}{F : Nat→World→Prop}{Fp : Nat→Nat→Prop}
end
def gcL (c:Gc):List Value:=[.int .i64 c.kind,strV c.name,.int .i64 c.line,.int .i64 c.col]
def gcCells (l:List Gc):List Value:=(l.map gcL).flatten
theorem gcCells_at:∀(l:List Gc) (i t:Nat) (hi:i<l.length),t<4→(gcCells l)[i * 4+t]?=(gcL l[i])[t]?
 | c::l,0,t,_,ht=>by
  unfold gcCells
  rw[List.map_cons,List.flatten_cons,Nat.zero_mul,Nat.zero_add,List.getElem?_append_left (by simp[gcL];omega)]
  rfl
 | c::l,i+1,t,hi,ht=>by
  have h:=gcCells_at l i t (by simpa using hi) ht
  unfold gcCells at h ⊢
  rw[List.map_cons,List.flatten_cons,List.getElem?_append_right (by simp[gcL];omega)]
  rw[show (i+1) * 4+t - (gcL c).length=i * 4+t by simp[gcL];omega]
  simpa using h
 |[],i,_,hi,_=>absurd hi (by simp)
theorem GCts.of_cells {w:World}{S:Nat→Prop}{g:Nat}(hS:S g){l:List Gc}(h:∀j u,(gcCells l)[j]?=some u→w.cell? ⟨g,j,none⟩=some u):GCts w S (some ⟨g,0,none⟩) l:=fun i hi=>by
 have hc:=fun t (ht:t<4)=>gcCells_at l i t hi ht
 have h0:=h (i * 4+0) _ ((hc 0 (by decide)).trans rfl)
 have h1:=h (i * 4+1) _ ((hc 1 (by decide)).trans rfl)
 have h2:=h (i * 4+2) _ ((hc 2 (by decide)).trans rfl)
 have h3:=h (i * 4+3) _ ((hc 3 (by decide)).trans rfl)
 refine⟨g,0,rfl,hS,?_,?_,?_,?_⟩
 ·rw[Nat.zero_add];exact h0
 ·rw[Nat.zero_add];exact h1
 ·rw[Nat.zero_add];exact h2
 ·rw[Nat.zero_add];exact h3
theorem PAt.keep {E:Nat→Prop}{w w':World}{S:Nat→Prop}(k:BA E w w')(hE:∀b,S b→¬E b){v:Value}{p:Gp}(h:PAt w S v p):PAt w' S v p:=by
 obtain⟨p1,c1,p2,c2,h1,h2,h3⟩:=h
 exact⟨p1,c1,p2,c2,h1,h2.keep k hE,h3.keep k hE⟩
theorem PAt.mono {w:World}{S S':Nat→Prop}(hS:∀b,S b→S' b){v:Value}{p:Gp}(h:PAt w S v p):PAt w S' v p:=by
 obtain⟨p1,c1,p2,c2,h1,h2,h3⟩:=h
 exact⟨p1,c1,p2,c2,h1,h2.mono hS,h3.mono hS⟩
theorem PrgAt.toP {w:World}{S:Nat→Prop}{vs:List Value}{pr:Pr}(h:PrgAt w S vs pr):PAt w S (.agg vs.toArray) (toP pr):=by
 obtain⟨p,c,q,d,rfl,hc,ht⟩:=h
 refine⟨p,c,q,d,by unfold Go.Proofs.YtomlffobbkcmdaaGreatDoor.toP;simp,?_,?_⟩
 ·rcases hc with h0|⟨g,rfl,hS,hg⟩
  ·unfold Go.Proofs.YtomlffobbkcmdaaGreatDoor.toP
   rw[h0]
   exact fun i hi=>absurd hi (by simp)
  ·refine GCts.of_cells hS ?_
   have e:gcCells (Go.Proofs.YtomlffobbkcmdaaGreatDoor.toP pr).conts=(pr.conts.map ctV).flatten:=by
    unfold gcCells Go.Proofs.YtomlffobbkcmdaaGreatDoor.toP
    rw[List.map_map]
    rfl
   rw[e]
   exact hg
 ·obtain⟨sl,hl,hg,he⟩:=ht
  rcases hg with h0|⟨g,rfl,hS,hg⟩
  ·unfold Go.Proofs.YtomlffobbkcmdaaGreatDoor.toP
   rw[h0]
   exact fun i hi=>absurd hi (by simp)
  ·intro i hi
   have hi':i<pr.threads.length:=by unfold Go.Proofs.YtomlffobbkcmdaaGreatDoor.toP at hi;simpa using hi
   obtain⟨q2,c2,e1,e2⟩:=he i (by omega) hi'
   have ei:(Go.Proofs.YtomlffobbkcmdaaGreatDoor.toP pr).threads[i]=toSL pr.threads[i]:=by simp only[Go.Proofs.YtomlffobbkcmdaaGreatDoor.toP,List.getElem_map]
   refine⟨g,0,q2,c2,rfl,hS,?_,?_⟩
   ·rw[ei,toSL_len,Nat.zero_add]
    exact hg i _ (by rw[List.getElem?_eq_getElem (by omega),e1])
   ·rw[ei]
    exact e2.toS
theorem size_at (p:Gp)(hs:Small p)(w:World)(S:Nat→Prop)(v:Value)(h:PAt w S v p):
  Calls Tryz.prog 18 #[v] w fun e w'=>e=.returned (.int .i64 (DQ p.threads))∧BA (fun _=>False) w w':=by
 obtain⟨p1,c1,p2,c2,rfl,-,h3⟩:=h
 exact sizeG_any p.threads (by have:=hs.size;omega) (by have:=hs.threads;omega) w S p2 c2 p.pool p1 _ c1 h3
theorem deep_at (p:Gp)(hs:Small p)(w:World)(S:Nat→Prop)(v:Value)(h:PAt w S v p):
  Calls Tryz.prog 19 #[v] w fun e w'=>e=.returned (.int .i64 (hDeep p.threads))∧BA (fun _=>False) w w':=by
 obtain⟨p1,c1,p2,c2,rfl,-,h3⟩:=h
 exact deepG_any p.threads (by have:=hs.size;omega) (by have:=hs.threads;omega) w S p2 c2 p.pool p1 _ c1 h3
theorem check_at (p:Gp)(hs:Small p)(w:World)(hT:TabS w)(S:Nat→Prop)(v:Value)(h:PAt w S v p):
  Calls Tryz.prog 20 #[v] w fun e w'=>e=.returned (.int .i64 (if DY p=true then 0 else 9))∧BA (fun _=>False) w w':=
 check_any p (by have:=hs.size;omega) (by have:=hs.conts;omega) (by have:=hs.threads;omega) hs.fitS w hT S v h
theorem text_at (p:Gp)(hs:Small p)(w:World)(hT:TabS w)(hP:TabP w)(S:Nat→Prop)(v:Value)(h:PAt w S v p):
  Calls Tryz.prog 17 #[v] w fun e w'=>e=.returned (.string ⟨(if DY p=true then putL (tokP p) else []).toArray⟩)∧BA (fun _=>False) w w':=
 text_any p (by have:=hs.size;omega) (by have:=hs.conts;omega) (by have:=hs.threads;omega) hs.fitS hs.pool hs.fitN hs.len w hT hP S v h
theorem same_at (x y:Gp)(hs:Small x)(w:World)(S T:Nat→Prop)(vx vy:Value)(hx:PAt w S vx x)(hy:PAt w T vy y):
  Calls Tryz.prog 21 #[vx,vy] w fun e w'=>e=.returned (.bool (sameP x y))∧BA (fun _=>False) w w':=
 same_any x y ⟨by have:=hs.conts;omega,by have:=hs.threads;omega,fun i h=>by have:=hSize_mem h;have:=hs.size;omega⟩ w S T vx vy hx hy
theorem prog_at (p:Gp)(hs:Small p)(hc:DY p=true)(hsz:DQ p.threads≤600)(hd:hDeep p.threads≤24)(hlen:(putL (tokP p)).length≤8192)(w:World)(hT:TabS w):
  Calls Tryz.prog 16 #[.string ⟨(putL (tokP p)).toArray⟩] w fun e w'=>∃v q,e=.returned (.tuple #[v,.agg #[.int .i64 0,.int .i64 0,.int .i64 0]])∧PAt w' (fun b=>w.heap.size≤b) v q∧sameP p q=true∧BA (fun _=>False) w w':=by
 obtain⟨its,pr,h1,h2,h3,h4,h5,h6⟩:=prog_read p hc hs.pool hs.fitN hlen
 obtain⟨-,-,-,g4,g5,-,g7,-⟩:=same_of h3
 have e1:CP pr.threads=DQ p.threads:=by rw[←g4,←toP_size];rfl
 have e2:FI pr.threads=hDeep p.threads:=by rw[←g5,←toP_deep];rfl
 have e3:pr.threads.length=p.threads.length:=by rw[←g7];unfold toP;simp
 refine(prog_any ⟨(putL (tokP p)).toArray⟩ its pr w hT (by simpa using h1) (by simp[ByteArray.size];omega) (fun R el ec=>progP_reads R el ec _ its pr (by omega) h6 h2) (by have:=hs.threads;omega) h5 (by omega) (by omega)).mono ?_
 rintro e w' ⟨vs,rfl,hp,hk⟩
 exact⟨_,toP pr,rfl,hp.toP,h3,hk⟩
end Go.Proofs.YtomlffobbkcmdaaGreatDoor
