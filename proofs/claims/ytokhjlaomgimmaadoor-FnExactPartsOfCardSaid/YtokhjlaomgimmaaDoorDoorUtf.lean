/- The library's tables of utf8 that the row of PartsOf lists; a start in which they are laid, for the witness. -/
import Derived.Test.YtokhjlaomgimmaaDoorCards
import Derived.Test.YtokhjlaomgimmaaDoorTie
import Derived.Test.YtokhjlaomgimmaaDoorSplitUp
import Derived.WalkKit
import Derived.ProofKit
import Derived.OpenShut
import Derived.Deep.DeepHandedRow
import Derived.Lib.LaidTab
import Derived.Lib.LaidU8
namespace Go.Proofs.YtokhjlaomgimmaaDoor.DoorUtf
open Go.ChangeShapes Go.WideShapes Go.ChangeAt Go.RowKit Go.Proofs.YtokhjlaomgimmaaDoorW.PrintWords

theorem own : ownKnob Tryd.prog.godebug = none := by kernel_rfl
theorem laidOut : laidOutB Tryd.prog = true := by kernel_rfl
def L2 : List (String × DataW Unit) := [("unicode/utf8.acceptRanges", Rows.laid_unicode_utf8_acceptRanges), ("unicode/utf8.first", Rows.laid_unicode_utf8_first)]
mutual
def cellsOf : DataW Unit → List Value
  | .lit (.int k z) => [.int k z]
  | .agg xs => cellsIn xs
  | _ => []
def cellsIn : List (DataW Unit) → List Value
  | [] => []
  | x :: l => cellsOf x ++ cellsIn l
end
def lay (cs : Array Value) : Obj → Obj
  | .cells _ t fr => .cells cs t fr
  | o => o
/-- A start for the witness: the settled world, the two tables as their initialisers lay them. -/
noncomputable def laidWorld (os : Os) : World :=
  { World.holding Tryd.prog os ⟨#[], #[], []⟩ with heap := ((World.holding Tryd.prog os ⟨#[], #[], []⟩).heap.modify 3 (lay (cellsOf Rows.laid_unicode_utf8_acceptRanges).toArray)).modify 2 (lay (cellsOf Rows.laid_unicode_utf8_first).toArray) }
theorem laid_met (os : Os) (args : Array Value) : laidMet Tryd.prog L2 ((laidWorld os).forCall (fun _ _ => 0) ⟨#[], args, []⟩).memory :=
  laidMet_of_run' 8 (by kernel_rfl) (by kernel_rfl)
end Go.Proofs.YtokhjlaomgimmaaDoor.DoorUtf
