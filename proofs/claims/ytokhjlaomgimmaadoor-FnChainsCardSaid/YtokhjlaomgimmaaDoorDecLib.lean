/- Decimal numerals as lists of bytes. -/
import Derived.Test.YtokhjlaomgimmaaDoorBytes
import Derived.Lib.ItoaNum
namespace Go.Proofs.YtokhjlaomgimmaaDoor.Lib
open Go.RowKit Go.Proofs.YtokhjlaomgimmaaDoorW.PrintWords

theorem mk_list (l : List UInt8) : (⟨l.toArray⟩ : ByteArray).toList = l := by
  rw [ByteArray.toList_eq]
theorem append_list (a b : ByteArray) : (a ++ b).toList = a.toList ++ b.toList := by
  simp [ByteArray.toList_eq]
theorem append_mk (a : ByteArray) (l : List UInt8) : a ++ (⟨l.toArray⟩ : ByteArray) = ⟨(a.toList ++ l).toArray⟩ := by
  apply ba_ext
  rw [append_list, mk_list l]
  exact (mk_list _).symm
theorem size_mk (l : List UInt8) : (⟨l.toArray⟩ : ByteArray).size = l.length := by
  rw [size_list, mk_list]
/-- The digits of a number; none for 0. -/
def digs (m : Nat) : List UInt8 := if m = 0 then [] else Lib.decDigits m
theorem digs_step {m : Nat} (h : m ≠ 0) : digs m = digs (m / 10) ++ [UInt8.ofNat (48 + m % 10)] := by
  unfold digs
  rw [if_neg h]
  by_cases h1 : m < 10
  · rw [Lib.decDigits, dif_pos h1, if_pos (by omega), List.nil_append, Nat.mod_eq_of_lt h1]
  · rw [Lib.decDigits, dif_neg h1, if_neg (by omega)]
theorem itoa_pos (m : Nat) (h : m ≠ 0) : Lib.itoa (m : Int) = digs m := by
  unfold Lib.itoa digs
  rw [if_neg (by omega), if_neg h, Int.toNat_natCast]
theorem itoa_neg (m : Nat) (h : m ≠ 0) : Lib.itoa (-(m : Int)) = 45 :: digs m := by
  unfold Lib.itoa digs
  rw [if_pos (by omega), if_neg h]
  congr 2
  omega
theorem itoa_zero : Lib.itoa 0 = [48] := by
  unfold Lib.itoa
  rw [if_neg (by omega), Lib.decDigits]
  rfl
end Go.Proofs.YtokhjlaomgimmaaDoor.Lib
