/- Joined texts of this work: Pp1, Lp1, Lp2. -/
import Derived.Test.YtomlffobbkcmdaaGreatDoorJr27
import Derived.Test.YtomlffobbkcmdaaGreatDoorJr30
import Derived.Test.YtomlffobbkcmdaaGreatDoorJr31
/-
  LightExpr: how great an expression is (weighExpr), whatever its fields hold.
-/
namespace Go.Proofs.YtomlffobbkcmdaaGreatDoor
open Go Go.RowKit Own
/-
  LightProgram: how great a program is (weighStmts), whatever its fields hold.
-/
/-
  LightProgram.
-/
theorem hSize_mem {l:List (List Gs)} {i:Nat} (h:i<l.length):sSizeL l[i]≤hSize l:=by
 have h1:=hSize_take h
 have h2:=hSize_le (l:=l) (i+1)
 omega
end Go.Proofs.YtomlffobbkcmdaaGreatDoor
