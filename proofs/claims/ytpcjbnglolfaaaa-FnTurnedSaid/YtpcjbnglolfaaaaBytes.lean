/- Texts as lists of bytes. -/
import Derived.Test.YtpcjbnglolfaaaaLib
import Derived.Lib.Strings
namespace Go.Proofs.Ytpcjbnglolfaaaa.Lib
open Go.RowKit Go.Proofs.YtpcjbnglolfaaaaW.PrintWords

theorem size_list (s : ByteArray) : s.size = s.toList.length := by
  rw [ByteArray.toList_eq]
  rfl
theorem bt_list (s : ByteArray) (i : Nat) : bt s (i : Int) = ((s.toList.getD i 0).toNat : Int) := by
  unfold bt
  simp only [Int.toNat_natCast]
  have hsz := size_list s
  split
  · rename_i h
    have h' : i < s.toList.length := by omega
    rw [List.getD_eq_getElem?_getD, List.getElem?_eq_getElem h']
    simp only [Option.getD_some]
    congr 2
    simp only [ByteArray.toList_eq]
    rfl
  · rename_i h
    rw [List.getD_eq_getElem?_getD, List.getElem?_eq_none (by omega)]
    rfl
theorem ext_list (s : ByteArray) (a b : Nat) : (s.extract a b).toList = (s.toList.drop a).take (b - a) := by
  rw [ByteArray.toList_eq s]
  exact Go.Lib.extract_toList s a b
theorem ba_ext {s t : ByteArray} (h : s.toList = t.toList) : s = t := by
  rw [ByteArray.toList_eq, ByteArray.toList_eq] at h
  exact ByteArray.ext (Array.ext' h)
theorem ext_size (s : ByteArray) (a b : Nat) (hb : b ≤ s.size) : (s.extract a b).size = b - a := by
  rw [size_list, ext_list, List.length_take, List.length_drop, ← size_list]
  omega
theorem ext_bt (s : ByteArray) (a b i : Nat) (hi : a + i < b) : bt (s.extract a b) (i : Int) = bt s ((a + i : Nat) : Int) := by
  rw [bt_list, bt_list, ext_list]
  simp only [List.getD_eq_getElem?_getD]
  rw [List.getElem?_take, if_pos (by omega), List.getElem?_drop]
theorem one_list (s : ByteArray) (c : UInt8) : s.toList = [c] ↔ s.size = 1 ∧ bt s 0 = (c.toNat : Int) := by
  have hsz := size_list s
  have hb : bt s 0 = _ := bt_list s 0
  constructor
  · intro h
    rw [hsz, hb, h]
    exact ⟨rfl, rfl⟩
  · rintro ⟨h1, h2⟩
    rw [hsz] at h1
    obtain ⟨x, hx⟩ := List.length_eq_one_iff.1 h1
    rw [hb, hx] at h2
    have : x = c := UInt8.toNat_inj.1 (by exact_mod_cast h2)
    rw [hx, this]
end Go.Proofs.Ytpcjbnglolfaaaa.Lib
