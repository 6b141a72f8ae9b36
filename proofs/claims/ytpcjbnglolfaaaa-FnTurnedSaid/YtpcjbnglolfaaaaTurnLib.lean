/- The checksum tells two texts apart that differ in one byte. -/
import Derived.Test.YtpcjbnglolfaaaaSumLib
import Derived.Test.YtpcjbnglolfaaaaBytes
namespace Go.Proofs.Ytpcjbnglolfaaaa.Lib
open Go.RowKit Go.Proofs.YtpcjbnglolfaaaaW.PrintWords
theorem xor_w (k a b : Nat) (ha : a < 2 ^ k) (hb : b < 2 ^ k) : (BitVec.ofInt k (a : Int) ^^^ BitVec.ofInt k (b : Int)).toNat = a ^^^ b := by
  rw [BitVec.ofInt_natCast, BitVec.ofInt_natCast, BitVec.toNat_xor, BitVec.toNat_ofNat, BitVec.toNat_ofNat, Nat.mod_eq_of_lt ha, Nat.mod_eq_of_lt hb]
theorem xor_nat32 (a b : Nat) (ha : a < 2 ^ 32) (hb : b < 2 ^ 32) : bits .xor .u32 (a : Int) (b : Int) = ((a ^^^ b : Nat) : Int) := by
  have hx := Nat.xor_lt_two_pow ha hb
  show IntKind.u32.wrap ((BitVec.ofInt 32 (a : Int) ^^^ BitVec.ofInt 32 (b : Int)).toNat : Int) = _
  rw [xor_w 32 a b ha hb, IntKind.wrap_u32]
  omega
theorem xor_nat8 (a b : Nat) (ha : a < 2 ^ 8) (hb : b < 2 ^ 8) : bits .xor .u8 (a : Int) (b : Int) = ((a ^^^ b : Nat) : Int) := by
  have hx := Nat.xor_lt_two_pow ha hb
  show IntKind.u8.wrap ((BitVec.ofInt 8 (a : Int) ^^^ BitVec.ofInt 8 (b : Int)).toNat : Int) = _
  rw [xor_w 8 a b ha hb, IntKind.wrap_u8]
  omega
theorem xor_back {a b c : Nat} (h : a ^^^ c = b ^^^ c) : a = b := by
  have := congrArg (· ^^^ c) h
  simpa [Nat.xor_assoc] using this
theorem xor_right {a b c : Int} (ha : 0 ≤ a ∧ a < 4294967296) (hb : 0 ≤ b ∧ b < 4294967296) (hc : 0 ≤ c ∧ c < 4294967296) (h : bits .xor .u32 a c = bits .xor .u32 b c) : a = b := by
  obtain ⟨a, rfl⟩ := Int.eq_ofNat_of_zero_le ha.1
  obtain ⟨b, rfl⟩ := Int.eq_ofNat_of_zero_le hb.1
  obtain ⟨c, rfl⟩ := Int.eq_ofNat_of_zero_le hc.1
  rw [xor_nat32 a c (by omega) (by omega), xor_nat32 b c (by omega) (by omega)] at h
  have := xor_back (a := a) (b := b) (c := c) (by omega)
  omega
theorem xor_left {a b c : Int} (ha : 0 ≤ a ∧ a < 4294967296) (hb : 0 ≤ b ∧ b < 4294967296) (hc : 0 ≤ c ∧ c < 4294967296) (h : bits .xor .u32 c a = bits .xor .u32 c b) : a = b := by
  obtain ⟨a, rfl⟩ := Int.eq_ofNat_of_zero_le ha.1
  obtain ⟨b, rfl⟩ := Int.eq_ofNat_of_zero_le hb.1
  obtain ⟨c, rfl⟩ := Int.eq_ofNat_of_zero_le hc.1
  rw [xor_nat32 c a (by omega) (by omega), xor_nat32 c b (by omega) (by omega)] at h
  have := xor_back (a := a) (b := b) (c := c) (by rw [Nat.xor_comm a c, Nat.xor_comm b c]; omega)
  omega
/-- A byte turned by a number that isn't nought is another. -/
theorem xor_other {a m : Int} (ha : 0 ≤ a ∧ a < 256) (hm : 1 ≤ m ∧ m < 256) : 0 ≤ bits .xor .u8 a m ∧ bits .xor .u8 a m < 256 ∧ bits .xor .u8 a m ≠ a := by
  obtain ⟨a, rfl⟩ := Int.eq_ofNat_of_zero_le ha.1
  obtain ⟨m, rfl⟩ := Int.eq_ofNat_of_zero_le (show 0 ≤ m by omega)
  rw [xor_nat8 a m (by omega) (by omega)]
  have hlt := Nat.xor_lt_two_pow (show a < 2 ^ 8 by omega) (show m < 2 ^ 8 by omega)
  refine ⟨by omega, by omega, fun h => ?_⟩
  have h2 : a ^^^ m = a := by omega
  have h3 : m = 0 := by
    have := xor_back (a := m) (b := 0) (c := a) (by rw [Nat.xor_comm m a, h2]; simp)
    exact this
  omega
theorem top_bit (a : Nat) (ha : a < 2 ^ 31) : 2 ^ 31 ≤ a ^^^ 3558460437 := by
  have h1 : (a ^^^ 3558460437).testBit 31 = true := by
    rw [Nat.testBit_xor, Nat.testBit_lt_two_pow ha]
    decide
  exact Nat.ge_two_pow_of_testBit h1
theorem bit1_inj {x y : Int} (hx : 0 ≤ x ∧ x < 4294967296) (hy : 0 ≤ y ∧ y < 4294967296) (h : bit1 x = bit1 y) : x = y := by
  have top : ∀ z : Int, 0 ≤ z → z < 4294967296 → 2147483648 ≤ bits .xor .u32 (z / 2) 3558460437 := by
    intro z z0 z1
    obtain ⟨n, hn⟩ := Int.eq_ofNat_of_zero_le (show 0 ≤ z / 2 by omega)
    have := xor_nat32 n 3558460437 (by omega) (by omega)
    rw [hn]
    have e : ((3558460437 : Nat) : Int) = 3558460437 := rfl
    rw [e] at this
    rw [this]
    have := top_bit n (by omega)
    omega
  unfold bit1 at h
  by_cases h1 : x % 2 = 1
  · rw [if_pos h1] at h
    by_cases h2 : y % 2 = 1
    · rw [if_pos h2] at h
      have := xor_right (a := x / 2) (b := y / 2) (c := 3558460437) (by omega) (by omega) (by omega) h
      omega
    · rw [if_neg h2] at h
      have := top x hx.1 hx.2
      omega
  · rw [if_neg h1] at h
    by_cases h2 : y % 2 = 1
    · rw [if_pos h2] at h
      have := top y hy.1 hy.2
      omega
    · rw [if_neg h2] at h
      omega
theorem bitN_inj (n : Nat) : ∀ {x y : Int}, (0 ≤ x ∧ x < 4294967296) → (0 ≤ y ∧ y < 4294967296) → bitN n x = bitN n y → x = y := by
  induction n with
  | zero => exact fun _ _ h => h
  | succ n ih => exact fun hx hy h => bit1_inj hx hy (ih (bit1_range hx.1 hx.2) (bit1_range hy.1 hy.2) h)
theorem bt_byte (s : ByteArray) (i : Int) : 0 ≤ bt s i ∧ bt s i < 256 := bt_lt s i
theorem byte1_inj {s : ByteArray} {i x y : Int} (hx : 0 ≤ x ∧ x < 4294967296) (hy : 0 ≤ y ∧ y < 4294967296) (h : byte1 s i x = byte1 s i y) : x = y := by
  have hb := bt_byte s i
  exact xor_right hx hy (by omega) (bitN_inj 8 (xor_u32 _ _) (xor_u32 _ _) h)
theorem byte1_other {s t : ByteArray} {i x : Int} (hx : 0 ≤ x ∧ x < 4294967296) (hne : bt s i ≠ bt t i) : byte1 s i x ≠ byte1 t i x := by
  intro h
  have hb := bt_byte s i
  have hc := bt_byte t i
  have := xor_left (a := bt s i % 4294967296) (b := bt t i % 4294967296) (by omega) (by omega) hx (bitN_inj 8 (xor_u32 _ _) (xor_u32 _ _) h)
  omega
theorem byte1_same {s t : ByteArray} {i j x : Int} (h : bt s i = bt t j) : byte1 s i x = byte1 t j x := by
  unfold byte1; rw [h]
theorem sumN_inj (s : ByteArray) (n : Nat) : ∀ {i x y : Int}, (0 ≤ x ∧ x < 4294967296) → (0 ≤ y ∧ y < 4294967296) → sumN s n i x = sumN s n i y → x = y := by
  induction n with
  | zero => exact fun _ _ h => h
  | succ n ih => exact fun hx hy h => byte1_inj hx hy (ih (byte1_range _ _ _) (byte1_range _ _ _) h)
theorem sumN_same {s t : ByteArray} (n : Nat) : ∀ {i x : Int}, (∀ j, i ≤ j → j < i + n → bt s j = bt t j) → sumN s n i x = sumN t n i x := by
  induction n with
  | zero => exact fun _ => rfl
  | succ n ih =>
    intro i x h
    unfold sumN
    rw [byte1_same (h i (by omega) (by omega))]
    exact ih (fun j h1 h2 => h j (by omega) (by omega))
theorem sumN_other {s t : ByteArray} {d : Int} (n : Nat) : ∀ {i x : Int}, (0 ≤ x ∧ x < 4294967296) → i ≤ d → d < i + n → (∀ j, i ≤ j → j < i + n → j ≠ d → bt s j = bt t j) → bt s d ≠ bt t d → sumN s n i x ≠ sumN t n i x := by
  induction n with
  | zero => intro i x _ h1 h2; omega
  | succ n ih =>
    intro i x hx h1 h2 h hd
    unfold sumN
    by_cases hid : i = d
    · subst hid
      have e : ∀ y, sumN s n (i + 1) y = sumN t n (i + 1) y := fun y => sumN_same n (fun j g1 g2 => h j (by omega) (by omega) (by omega))
      rw [e]
      intro hh
      exact byte1_other hx hd (sumN_inj t n (byte1_range _ _ _) (byte1_range _ _ _) hh)
    · rw [byte1_same (h i (by omega) (by omega) hid)]
      exact ih (byte1_range _ _ _) (by omega) (by omega) (fun j g1 g2 g3 => h j (by omega) (by omega) g3) hd
theorem sumN_add (s : ByteArray) (m : Nat) (n : Nat) : ∀ {i x : Int}, sumN s (n + m) i x = sumN s m (i + n) (sumN s n i x) := by
  induction n with
  | zero =>
    intro i x
    rw [Nat.zero_add, show i + ((0 : Nat) : Int) = i by omega]
    rfl
  | succ n ih =>
    intro i x
    rw [show n + 1 + m = (n + m) + 1 by omega]
    show sumN s (n + m) (i + 1) (byte1 s i x) = sumN s m (i + ((n + 1 : Nat) : Int)) (sumN s n (i + 1) (byte1 s i x))
    rw [ih, show i + 1 + (n : Int) = i + ((n + 1 : Nat) : Int) by omega]
/-- The four bytes of a checksum. -/
def four (x : Int) : List Int := [(x / 16777216) % 256, (x / 65536) % 256, (x / 256) % 256, x % 256]
theorem four_in (x : Int) : ∀ b ∈ four x, 0 ≤ b ∧ b < 256 := by
  intro b hb
  simp only [four, List.mem_cons, List.not_mem_nil, or_false] at hb
  omega
theorem four_inj {x y : Int} (hx : 0 ≤ x ∧ x < 4294967296) (hy : 0 ≤ y ∧ y < 4294967296) (h : four x = four y) : x = y := by
  simp only [four, List.cons.injEq, and_true] at h
  omega
end Go.Proofs.Ytpcjbnglolfaaaa.Lib
