/- Joined texts of this work: Sb4. -/
import Derived.Test.YtknnmidnodeanaaGreatDoorJt32
import Derived.Test.YtknnmidnodeanaaGreatDoorJt12
/-
  Package parse: what statements, blocks and programs are read as, by the plain reader.
-/
namespace Go.Proofs.YtknnmidnodeanaaGreatDoor
open Go Go.RowKit Own
theorem exP_dec (f:Nat):Dec (exP f):=rowsN_dec (oneP_dec f)
theorem tail_dec (l:List Item):l.tail.length≤l.length:=by rw [List.length_tail];omega
end Go.Proofs.YtknnmidnodeanaaGreatDoor
