import Derived.Test.YtomlffobbkcmdaaGreatDoorJs13
namespace Go.Proofs.YtomlffobbkcmdaaGreatDoor
open Go Go.RowKit Own
theorem all_rows {s:ByteArray}{its:List Item}(h:allT s.data.toList=(its,⟨0,0,0⟩))(w:World)(hT:TabS w):
  Calls Tryz.prog 64 #[.string s] w fun e w'=>∃p cap,e=.returned (.tuple #[.slice p its.length cap,.agg #[.int .i64 0,.int .i64 0,.int .i64 0]])∧RowI w' p its∧its.length≤cap∧cap≤9223372036854775807∧(∀a,p=some a→a.block<w'.heap.size∧w.heap.size≤a.block)∧BA (fun _=>False) w w':=by
 refine(all_any s w hT).mono ?_
 rintro e w' ⟨v,rfl,hrow,hk⟩
 rw[h]at hrow ⊢
 obtain⟨p,cap',hv,hrt,hlt⟩:=RowT.of_owns hrow
 obtain⟨h0,⟨h1,h2⟩|⟨g,cap2,cur,hv2,hbs,hg,h2,h3,h4,h5⟩⟩:=hrow
 ·rw[h1]at hv
  have e1:p=none:=by injection hv with e1 _ _;exact e1.symm
  have e2:its.length=0:=h2
  subst h1;subst e1
  exact⟨none,0,by rw[e2];rfl,hrt.rowI,by omega,by omega,(fun a e=>nomatch e),hk⟩
 ·rw[hv2]at hv
  cases hv
  subst hv2
  exact⟨some ⟨g,0,none⟩,_,rfl,hrt.rowI,h2,by unfold maxLen at h3;omega,fun a e=>by cases e;exact⟨(AG.1 hg).1,hbs⟩,hk⟩
theorem all_rowsF {s:ByteArray}{its:List Item}{er li co:Nat}(h:allT s.data.toList=(its,⟨er,li,co⟩))(w:World)(hT:TabS w):
  Calls Tryz.prog 64 #[.string s] w fun e w'=>∃p cap,e=.returned (.tuple #[.slice p its.length cap,.agg #[.int .i64 er,.int .i64 li,.int .i64 co]])∧BA (fun _=>False) w w':=by
 refine(all_any s w hT).mono ?_
 rintro e w' ⟨v,rfl,hrow,hk⟩
 rw[h]at hrow ⊢
 obtain⟨p,cap',rfl,hrt,hlt⟩:=RowT.of_owns hrow
 exact⟨p,cap',rfl,hk⟩
end Go.Proofs.YtomlffobbkcmdaaGreatDoor
