/- Plain lemmas that several proofs of this seat use: loops with rounds, numbers that don't wrap, bytes and texts. -/
import Derived.Test.YtokhjlaomgimmaaWWords
namespace Go.Proofs.Ytokhjlaomgimmaa.Lib
open Go.RowKit Go.Proofs.YtokhjlaomgimmaaW.PrintWords

theorem w64 {n : Int} (h0 : -9223372036854775808 ≤ n) (h1 : n ≤ 9223372036854775807) : wrap64 n = n := by
  unfold wrap64
  omega

/-- One round of a loop, unrolled by its own equation. -/
theorem Ev.round {α : Type} {g : Nat → Option α} {f : Nat → Option α} {r : α} (h : ∀ k, g (Nat.succ k) = f k) (k : Ev f r) : Ev g r := Ev.step h k

/-- Two loops that come to one value. -/
def Both {α : Type} (g f : Nat → Option α) : Prop := ∃ r, Ev g r ∧ Ev f r

theorem Both.done {α : Type} (r : α) : Both (fun _ => some r) (fun _ => some r) := ⟨r, Ev.now r, Ev.now r⟩
theorem Both.step {α : Type} {g f g' f' : Nat → Option α} (hg : ∀ k, g (k + 1) = g' k) (hf : ∀ k, f (k + 1) = f' k) (h : Both g' f') : Both g f := by
  obtain ⟨r, h1, h2⟩ := h
  exact ⟨r, Ev.step hg h1, Ev.step hf h2⟩

/-! ### Bytes -/
theorem bt_lt (s : ByteArray) (i : Int) : 0 ≤ bt s i ∧ bt s i < 256 := by
  have := bt_range s i
  omega
theorem strOfNums_size (xs : List Int) : (strOfNums xs).size = xs.length := by
  simp [strOfNums, ByteArray.size]
theorem strOfNums_toList (xs : List Int) : (strOfNums xs).toList = xs.map fun n => UInt8.ofNat n.toNat := by
  simp [strOfNums, ByteArray.toList_eq]

end Go.Proofs.Ytokhjlaomgimmaa.Lib
