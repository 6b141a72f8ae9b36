/- strings.Split by the shelf's contract; the library's MaxLen holds a number while a call makes memory. -/
import Derived.Test.YtokhjlaomgimmaaDoorWWords
import Derived.Test.YtokhjlaomgimmaaDoorShelfSplit
import Derived.Lib.SplitLaws
namespace Go.Proofs.YtokhjlaomgimmaaDoorW.PrintWords
open Go.RowKit
/-- The library's variable MaxLen is laid: it holds a number. -/
def MaxHere (w : World) : Prop := ∃ m : Int, w.cell? ⟨0, 0, none⟩ = some (.int .i64 m)
theorem maxUp {w w' : World} (h : Aside0 (MaxHere w)) (hb : Below w.heap.size w w') : Aside0 (MaxHere w') := ⟨h.out.imp fun _ hm => pw_cell_below hb hm⟩
/-- strings.Split's answer, where the separator is not empty. -/
def splitF (s sep : ByteArray) : Option (List ByteArray) := if s.size < 4294967281 ∧ 1 ≤ sep.size then some (Lib.splitB sep 0 (Lib.countB s sep) s) else none
theorem split_calls (s sep : ByteArray) (r : List ByteArray) (w : World) (h : splitF s sep = some r) (HT : Aside0 (MaxHere w)) :
    Calls Tryd.prog 49 #[.string s, .string sep] w fun e w' => ∃ v0_ : Value, e = .returned (v0_) ∧ Kd.R Kd.string 9 w' w.heap.size (fun _ => True) v0_ r ∧ Below w.heap.size w w' := by
  unfold splitF at h
  by_cases hn : s.size < 4294967281 ∧ 1 ≤ sep.size
  · rw [if_pos hn] at h
    obtain ⟨m, hm⟩ := HT.out
    have hlen : r.length = Lib.countB s sep + 1 := by
      rw [← Option.some.inj h]
      exact Lib.splitB_all sep hn.2 0 _ s rfl
    have hle := Lib.countB_le sep hn.2 s.size s (Nat.le_refl _)
    have e0 := Option.some.inj h
    refine (Tryd.strings_Split s sep m w hn.1 hm hn.2).mono ?_
    rintro e w' ⟨rfl, rfl⟩
    refine ⟨_, rfl, ?_, below_alloc (Below.refl _ _) _⟩
    rw [e0, ← hlen]
    have h2 := World.ownsRow_lit (base := w.heap.size) (e := 9) (size := 1) w (r.map Value.string).toArray r.length (Nat.le_refl _) (by
      have hml : maxLen = 9223372036854775807 := rfl
      omega) (by simp)
    refine Kd.R_of_own (h1 := fun _ => rfl) ?_ (fun _ _ => trivial)
    simpa [encs] using h2
  · rw [if_neg hn] at h
    cases h
end Go.Proofs.YtokhjlaomgimmaaDoorW.PrintWords
