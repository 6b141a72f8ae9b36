/- strconv.Itoa by the shelf's contract; the library's table of powers of ten stays as it is while a call makes memory. -/
import Derived.Test.YtokhjlaomgimmaaDoorWWords
import Derived.Test.YtokhjlaomgimmaaDoorShelfItoa
import Derived.Lib.SmallJoins
import Derived.Lib.LaidTab
import Derived.Lib.AppendIntMem
namespace Go.Proofs.YtokhjlaomgimmaaDoorW.PrintWords
open Go.RowKit
theorem gPow : Tryd.prog.globalNamed "internal/strconv.uint64pow10" = some 1 := by kernel_rfl
/-- The table of powers of ten holds what it held at the start. -/
def TabHere (w : World) : Prop := Lib.TabIs Tryd.prog w "internal/strconv.uint64pow10" .u64 Lib.pow10Tab
theorem tabUp {w w' : World} (h : Aside0 (TabHere w)) (hb : Below w.heap.size w w') : Aside0 (TabHere w') := ⟨Joins.tab_stays gPow h.out hb (Nat.le_refl _)⟩
/-- strconv.Itoa's answer, within int64. -/
def itoaF (n : Int) : Option ByteArray := if -9223372036854775808 ≤ n ∧ n ≤ 9223372036854775807 then some ⟨(Lib.itoa n).toArray⟩ else none
theorem itoa_calls (n : Int) (r : ByteArray) (w : World) (h : itoaF n = some r) (HT : Aside0 (TabHere w)) :
    Calls Tryd.prog 48 #[.int .i64 n] w fun e w' => e = .returned (.string r) ∧ Below w.heap.size w w' := by
  unfold itoaF at h
  by_cases hn : -9223372036854775808 ≤ n ∧ n ≤ 9223372036854775807
  · rw [if_pos hn] at h
    refine (Tryd.strconv_Itoa n hn.1 hn.2 w HT.out).mono ?_
    rintro e w' ⟨rfl, k, os, rfl⟩
    have h' := Option.some.inj h
    rw [h']
    exact ⟨rfl, Lib.below_grow _ _ (Nat.le_refl _) k os⟩
  · rw [if_neg hn] at h
    cases h
end Go.Proofs.YtokhjlaomgimmaaDoorW.PrintWords
