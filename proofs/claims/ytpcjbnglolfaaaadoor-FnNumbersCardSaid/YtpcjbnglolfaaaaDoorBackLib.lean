/- Bytes of joined texts. -/
import Derived.Test.YtpcjbnglolfaaaaDoorReadLib
import Derived.Test.YtpcjbnglolfaaaaDoorDecLib
namespace Go.Proofs.YtpcjbnglolfaaaaDoor.Lib
open Go.RowKit Go.Proofs.YtpcjbnglolfaaaaDoorW.PrintWords
theorem bt_left (a b : ByteArray) (i : Nat) (h : i < a.size) : bt (a ++ b) (i : Int) = bt a (i : Int) := by
  rw [size_list] at h
  rw [bt_list, bt_list, append_list, List.getD_eq_getElem?_getD, List.getD_eq_getElem?_getD, List.getElem?_append_left h]
theorem bt_right (a b : ByteArray) (i : Nat) : bt (a ++ b) ((a.size + i : Nat) : Int) = bt b (i : Int) := by
  rw [bt_list, bt_list, append_list, List.getD_eq_getElem?_getD, List.getD_eq_getElem?_getD, size_list, List.getElem?_append_right (by omega), Nat.add_sub_cancel_left]
theorem size_append (a b : ByteArray) : (a ++ b).size = a.size + b.size := by
  rw [size_list, append_list, List.length_append, ← size_list, ← size_list]
theorem bt_nums (xs : List Int) (h : ∀ b ∈ xs, 0 ≤ b ∧ b < 256) (j : Nat) (hj : j < xs.length) : bt (strOfNums xs) (j : Int) = xs[j] := by
  obtain ⟨h1, h2⟩ := h _ (List.getElem_mem hj)
  rw [bt_list, strOfNums_toList, List.getD_eq_getElem?_getD, List.getElem?_map, List.getElem?_eq_getElem hj]
  simp only [Option.map_some, Option.getD_some]
  rw [UInt8.toNat_ofNat_of_lt' (by simp; omega)]
  omega
theorem ext_right (a b : ByteArray) (n : Nat) (h : n = a.size + b.size) : (a ++ b).extract a.size n = b := by
  apply ba_ext
  rw [ext_list, append_list, h, size_list a]
  simp only [List.drop_left', Nat.add_sub_cancel_left]
  rw [size_list, List.take_length]
theorem varB_length_pos (m : Nat) : 0 < (varB m).length := by
  by_cases h : m < 128
  · rw [varB_small h]
    simp
  · rw [varB_great h]
    simp
end Go.Proofs.YtpcjbnglolfaaaaDoor.Lib
