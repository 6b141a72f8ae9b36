/- The library's tables that the rows of this seat list: what the list gives of the powers of ten; a start in which they are laid, for the witness. -/
import Derived.Test.YtokhjlaomgimmaaDoorCards
import Derived.Test.YtokhjlaomgimmaaDoorTie
import Derived.Test.YtokhjlaomgimmaaDoorTabUp
import Derived.WalkKit
import Derived.ProofKit
import Derived.OpenShut
import Derived.Deep.DeepHandedRow
import Derived.Lib.LaidTab
import Derived.Lib.LaidU8
namespace Go.Proofs.YtokhjlaomgimmaaDoor.DoorBase
open Go.ChangeShapes Go.WideShapes Go.ChangeAt Go.RowKit Go.Proofs.YtokhjlaomgimmaaDoorW.PrintWords

theorem own : ownKnob Tryd.prog.godebug = none := by kernel_rfl
theorem laidOut : laidOutB Tryd.prog = true := by kernel_rfl
def L3 : List (String × DataW Unit) := [("math/bits.deBruijn32tab", Rows.laid_math_bits_deBruijn32tab), ("math/bits.deBruijn64tab", Rows.laid_math_bits_deBruijn64tab), ("internal/strconv.uint64pow10", Rows.laid_internal_strconv_uint64pow10)]
theorem gPowType : (Tryd.prog.globals[1]?).map (·.type) = some 110 := by kernel_rfl
theorem cellsPow : Tryd.prog.cellsOf 110 = 20 := by kernel_rfl
theorem cellsU64 : Tryd.prog.cellsOf 99 = 1 := by kernel_rfl
/-- What the row's list gives: the table of powers of ten. -/
theorem table {W : World} (h : laidMetH Tryd.prog L3 W) : Aside0 (TabHere W) := by
  have h' : laidMet Tryd.prog L3 W := h
  obtain ⟨g', t', cs, fuel, p, hg', ht', hvar, hd⟩ := Lib.laidMet.reads h' (n := "internal/strconv.uint64pow10") (d := Rows.laid_internal_strconv_uint64pow10) (.tail _ (.tail _ (.head _)))
  obtain rfl := Option.some.inj (gPow.symm.trans hg')
  obtain rfl := Option.some.inj (gPowType.symm.trans ht')
  refine ⟨?_⟩
  unfold TabHere Lib.TabIs
  rw [hvar, ← Lib.cells_of_tab (zs := Lib.pow10Tab) (k := .u64) Tryd.underlying110 Tryd.underlying99 cellsU64 cellsPow hd]
def cellsIn : List (DataW Unit) → List Value
  | .lit (.int k z) :: l => .int k z :: cellsIn l
  | _ => []
def tabCells : DataW Unit → Array Value
  | .agg xs => (cellsIn xs).toArray
  | _ => #[]
def lay (cs : Array Value) : Obj → Obj
  | .cells _ t fr => .cells cs t fr
  | o => o
/-- A start for the witness: the settled world, the three tables as their initialisers lay them. -/
noncomputable def laidWorld (os : Os) : World :=
  { World.holding Tryd.prog os ⟨#[], #[], []⟩ with heap := (((World.holding Tryd.prog os ⟨#[], #[], []⟩).heap.modify 4 (lay (tabCells Rows.laid_math_bits_deBruijn32tab))).modify 5 (lay (tabCells Rows.laid_math_bits_deBruijn64tab))).modify 1 (lay (tabCells Rows.laid_internal_strconv_uint64pow10)) }
theorem laid_met (os : Os) (args : Array Value) : laidMet Tryd.prog L3 ((laidWorld os).forCall (fun _ _ => 0) ⟨#[], args, []⟩).memory :=
  laidMet_of_run' 8 (by kernel_rfl) (by kernel_rfl)
end Go.Proofs.YtokhjlaomgimmaaDoor.DoorBase
