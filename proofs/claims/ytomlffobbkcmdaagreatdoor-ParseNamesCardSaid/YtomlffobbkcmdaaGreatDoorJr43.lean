/- Joined texts of this work: Tab17, Trod. -/
import Derived.Test.YtomlffobbkcmdaaGreatDoorRows
import Derived.Test.YtomlffobbkcmdaaGreatDoorJr29
import Derived.Lib.LaidTab
import Derived.Lib.Fields
import Derived.ProofKit
import Derived.OpenShut
import Derived.LaidMore
import Derived.Lay
import Derived.Stop.Joined
import Derived.Lib.SmallJoins
/-
  What the rows' condition gives the walks: the table of blanks and the powers of ten.
-/
namespace Go.Proofs.YtomlffobbkcmdaaGreatDoor
open Go Go.ChangeShapes Go.WideShapes Go.ChangeAt Go.RowKit
theorem Tryz.own:ownKnob Tryz.prog.godebug=none:=by kernel_rfl
theorem tabs_of_laid {W:World} (h:laidMetH Tryz.prog Rows.parseRowsRow.laid W):TabS W∧TabP W:=by
 rw [MakeChecks.laidMetH_plain _ _ _ (by kernel_rfl)] at h
 obtain ⟨ps,⟨g0,t0,cs0,f0,p0,q0,hg0,ht0,hv0,hd0,⟨g1,t1,cs1,f1,p1,q1,hg1,ht1,hv1,hd1,⟨g2,t2,cs2,f2,p2,q2,hg2,ht2,hv2,hd2,⟨g3,t3,cs3,f3,p3,q3,hg3,ht3,hv3,hd3,⟨g4,t4,cs4,f4,p4,q4,hg4,ht4,hv4,hd4,_,_⟩,_⟩,_⟩,_⟩,_⟩,_,_⟩:=h
 constructor
 ·obtain rfl := Option.some.inj ((show Tryz.prog.globalNamed "strings.asciiSpace" = some 1 by kernel_rfl).symm.trans hg4)
  obtain rfl:=Option.some.inj ((show (Tryz.prog.globals[1]?).map (·.type)=some 182 by kernel_rfl).symm.trans ht4)
  unfold TabS Lib.TabIs
  have e:(Rows.laid_strings_asciiSpace:DataW Unit)=Lib.tabData .u8 Lib.asciiSpaceTab:=by kernel_rfl
  rw [e] at hd4
  rw [hv4,←Lib.cells_of_tab Tryz.underlying182 Tryz.underlying5 (by kernel_rfl) (by kernel_rfl) hd4]
 ·obtain rfl := Option.some.inj ((show Tryz.prog.globalNamed "internal/strconv.uint64pow10" = some 0 by kernel_rfl).symm.trans hg2)
  obtain rfl:=Option.some.inj ((show (Tryz.prog.globals[0]?).map (·.type)=some 179 by kernel_rfl).symm.trans ht2)
  unfold TabP Lib.TabIs
  have e:(Rows.laid_internal_strconv_uint64pow10:DataW Unit)=Lib.tabData .u64 Lib.pow10Tab:=by kernel_rfl
  rw [e] at hd2
  rw [hv2,←Lib.cells_of_tab Tryz.underlying179 Tryz.underlying168 (by kernel_rfl) (by kernel_rfl) hd2]
/-
  Arguments of the statements: lists of arguments behind a call that only makes memory.
-/
end Go.Proofs.YtomlffobbkcmdaaGreatDoor
