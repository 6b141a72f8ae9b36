/- The checksum as plain arithmetic: one bit, eight bits, all bytes of a text. -/
import Derived.Test.YtpcjbnglolfaaaaLib
import Derived.Laws.BitsLemmas
namespace Go.Proofs.Ytpcjbnglolfaaaa.Lib
open Go.RowKit Go.Proofs.YtpcjbnglolfaaaaW.PrintWords

theorem xor_u32 (a b : Int) : 0 ≤ bits .xor .u32 a b ∧ bits .xor .u32 a b < 4294967296 := by
  have e : bits .xor .u32 a b = (bits .xor .u32 a b) % 4294967296 := by
    show IntKind.u32.wrap _ = (IntKind.u32.wrap _) % 4294967296
    rw [IntKind.wrap_u32]
    omega
  rw [e]
  omega
theorem wraps_u32 (n : Int) (h₀ : 0 ≤ n) (h₁ : n < 2 ^ 32) : IntKind.u32.wrap n = n := by
  rw [IntKind.wrap_u32]
  omega
theorem and1_u32 {x : Int} (h₀ : 0 ≤ x) (h₁ : x < 4294967296) : bits .and .u32 x 1 = x % 2 :=
  bits_mask .u32 32 (by decide) wraps_u32 1 (by decide) x h₀ h₁

def bit1 (x : Int) : Int := if x % 2 = 1 then bits .xor .u32 (x / 2) 3558460437 else x / 2
theorem bit1_range {x : Int} (h0 : 0 ≤ x) (h1 : x < 4294967296) : 0 ≤ bit1 x ∧ bit1 x < 4294967296 := by
  unfold bit1
  split
  · exact xor_u32 _ _
  · omega
def bitN : Nat → Int → Int
  | 0, x => x
  | n + 1, x => bitN n (bit1 x)
theorem bitN_range (n : Nat) : ∀ {x : Int}, 0 ≤ x → x < 4294967296 → 0 ≤ bitN n x ∧ bitN n x < 4294967296 := by
  induction n with
  | zero => exact fun h0 h1 => ⟨h0, h1⟩
  | succ n ih => exact fun h0 h1 => ih (bit1_range h0 h1).1 (bit1_range h0 h1).2
/-- One byte more. -/
def byte1 (s : ByteArray) (i x : Int) : Int := bitN 8 (bits .xor .u32 x (bt s i % 4294967296))
theorem byte1_range (s : ByteArray) (i x : Int) : 0 ≤ byte1 s i x ∧ byte1 s i x < 4294967296 := bitN_range 8 (xor_u32 _ _).1 (xor_u32 _ _).2
/-- n bytes from place i on. -/
def sumN (s : ByteArray) : Nat → Int → Int → Int
  | 0, _, x => x
  | n + 1, i, x => sumN s n (i + 1) (byte1 s i x)
theorem sumN_range (s : ByteArray) (n : Nat) : ∀ {i x : Int}, 0 ≤ x → x < 4294967296 → 0 ≤ sumN s n i x ∧ sumN s n i x < 4294967296 := by
  induction n with
  | zero => exact fun h0 h1 => ⟨h0, h1⟩
  | succ n ih => exact fun _ _ => ih (byte1_range _ _ _).1 (byte1_range _ _ _).2
end Go.Proofs.Ytpcjbnglolfaaaa.Lib
