import Derived.Test.YtknnmidnodeanaaGreatDoorJu35
namespace Go.Proofs.YtknnmidnodeanaaGreatDoor
open Go Go.RowKit Own
theorem exP_dec (f:Nat):Dec (exP f):=rowsN_dec (oneP_dec f)
theorem tail_dec (l:List Item):l.tail.length≤l.length:=by rw[List.length_tail];omega
end Go.Proofs.YtknnmidnodeanaaGreatDoor
