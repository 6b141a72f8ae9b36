/- The law of the turned texts: what is sealed is unsealed; with one byte turned it is not; the checksum goes on. -/
import Derived.Test.YtpcjbnglolfaaaaQFnTurnedx3
import Derived.Test.YtpcjbnglolfaaaaTurnLib
import Derived.Test.YtpcjbnglolfaaaaDrawLib
import Derived.Test.YtpcjbnglolfaaaaWSized
namespace Go.Proofs.Ytpcjbnglolfaaaa.PrintWords
open Go.ChangeShapes Go.WideShapes
/-- The printed row names this lemma by a short name: it is the words' own. -/
theorem sized_ints {H : Type} {enc : TypeId × Value → H} {P : Program} {W : World} {base : Nat} {spare : Nat → Bool} {held : Bool} {t e : TypeId} {k : IntKind} {a : Option Addr} {len cap : Nat} {d : DataW H} {ps : List MemPlace} {ts : List TypeId} {ds : List (DataW H)} {j : Nat}
    (hsz : (DataW.weightsEach P ts ds).all (· ≤ reachBytes) = true) (ht : ts[j]? = some t) (hd : ds[j]? = some d) (hu : P.underlying t = some (.slice e)) (he : P.underlying e = some (.int k)) (hc : P.cellsOf e = 1) {B : Nat} (hB : P.bytesOf e = B)
    (h : DataW.Trod enc P W base spare held t (.slice a len cap) d ps) : len * B ≤ 140737488351232 :=
  Go.Proofs.YtpcjbnglolfaaaaW.PrintWords.sized_ints hsz ht hd hu he hc hB h
end Go.Proofs.Ytpcjbnglolfaaaa.PrintWords
namespace Go.Proofs.Ytpcjbnglolfaaaa.Pure
open Go.RowKit Go.Proofs.Ytpcjbnglolfaaaa.PFnTurned Go.Proofs.YtpcjbnglolfaaaaW.PrintWords Go.Proofs.YtpcjbnglolfaaaaW.PrintLast Go.Proofs.Ytpcjbnglolfaaaa.Lib
set_option linter.unusedSimpArgs false
set_option linter.unusedVariables false
namespace Turned
theorem impl_l1 (s : ByteArray) (i : Int) (r : Int) (n : Nat) : ∀ (x j : Int), 0 ≤ j → j + n = 8 → 0 ≤ x → x < 4294967296 →
    Ev (fun k => impl_SumMore.l0 k (bitN n x) s (wrap64 (i + 1))) r → Ev (fun k => impl_SumMore.l1 k x s i j) r := by
  induction n with
  | zero =>
    intro x j hj hn h0 h1 H
    refine Ev.step (fun k => impl_SumMore.l1.eq_2 x s i j k) ?_
    simp only [if_neg (show ¬ j < 8 by omega)]
    exact H
  | succ n ih =>
    intro x j hj hn h0 h1 H
    refine Ev.step (fun k => impl_SumMore.l1.eq_2 x s i j k) ?_
    have hb := bit1_range h0 h1
    simp only [if_pos (show j < 8 by omega), and1_u32 h0 h1, w64 (show -9223372036854775808 ≤ j + 1 by omega) (show j + 1 ≤ 9223372036854775807 by omega)]
    have H' := ih (bit1 x) (j + 1) (by omega) (by omega) hb.1 hb.2 H
    by_cases hx : x % 2 = 1
    · simp only [if_pos hx]
      simpa only [bit1, if_pos hx] using H'
    · simp only [if_neg hx]
      simpa only [bit1, if_neg hx] using H'
theorem impl_l0 (s : ByteArray) (hs : s.size ≤ 140737488351232) (n : Nat) : ∀ (i x : Int), 0 ≤ i → i + n = s.size → 0 ≤ x → x < 4294967296 →
    Ev (fun k => impl_SumMore.l0 k x s i) (sumN s n i x) := by
  induction n with
  | zero =>
    intro i x hi hn h0 h1
    refine Ev.step (fun k => impl_SumMore.l0.eq_2 x s i k) ?_
    simp only [if_neg (show ¬ i < (s.size : Int) by omega)]
    exact Ev.now _
  | succ n ih =>
    intro i x hi hn h0 h1
    refine Ev.step (fun k => impl_SumMore.l0.eq_2 x s i k) ?_
    simp only [if_pos (show i < (s.size : Int) by omega), if_pos hi]
    refine impl_l1 s i _ 8 _ 0 (by omega) (by omega) (xor_u32 _ _).1 (xor_u32 _ _).2 ?_
    rw [w64 (by omega) (by omega)]
    exact ih (i + 1) _ (by omega) (by omega) (byte1_range s i x).1 (byte1_range s i x).2
theorem impl_sum (s : ByteArray) (hs : s.size ≤ 140737488351232) (x : Int) (h0 : 0 ≤ x) (h1 : x < 4294967296) : Ev (fun k => impl_SumMore.f k x s) (sumN s s.size 0 x) := by
  unfold impl_SumMore.f
  exact impl_l0 s hs s.size 0 x (by omega) (by omega) h0 h1
theorem impl_of (s : ByteArray) (hs : s.size ≤ 140737488351232) : Ev (fun k => impl_SumOf.f k s) (sumN s s.size 0 4294967295) := by
  unfold impl_SumOf.f
  exact Ev.bind (impl_sum s hs 4294967295 (by omega) (by omega)) (Ev.now _)
theorem byte_some (l : List Int) (hl : l.length ≤ 140737488351232) (i h : Int) (h0 : 0 ≤ i) (h1 : i ≤ l.length) :
    ∃ x i' h', spec_l01Byte.f l i h = some (x, i', h') ∧ 0 ≤ x ∧ x ≤ 255 ∧ 0 ≤ i' ∧ i' ≤ l.length := by
  unfold spec_l01Byte.f
  by_cases hi : i < (l.length : Int)
  · rw [if_pos hi, if_pos h0]
    refine ⟨_, _, _, rfl, (and255 _).1, (and255 _).2, ?_, ?_⟩
    · rw [w64 (by omega) (by omega)]
      omega
    · rw [w64 (by omega) (by omega)]
      omega
  · rw [if_neg hi]
    exact ⟨_, _, _, rfl, (and255 _).1, (and255 _).2, h0, h1⟩
theorem below_some (l : List Int) (hl : l.length ≤ 140737488351232) (i h : Int) (h0 : 0 ≤ i) (h1 : i ≤ l.length) (n : Int) (hn : 0 < n) :
    ∃ x i' h', spec_l01Below.f l i h n = some (x, i', h') ∧ 0 ≤ x ∧ x < n ∧ 0 ≤ i' ∧ i' ≤ l.length := by
  unfold spec_l01Below.f
  rw [if_neg (show ¬ n ≤ 0 by omega)]
  by_cases h2 : n ≤ 256
  · rw [if_pos h2]
    obtain ⟨x, i1, h1', e, x0, x1, g0, g1⟩ := byte_some l hl i h h0 h1
    rw [e]
    simp only [Option.bind_some, if_neg (show ¬ n = 0 by omega)]
    refine ⟨_, _, _, rfl, ?_, ?_, g0, g1⟩
    · rw [Int.tmod_eq_emod_of_nonneg x0]
      exact Int.emod_nonneg _ (by omega)
    · rw [Int.tmod_eq_emod_of_nonneg x0]
      exact Int.emod_lt_of_pos _ hn
  · rw [if_neg h2]
    obtain ⟨x, i1, t1, e1, x0, x1, g0, g1⟩ := byte_some l hl i h h0 h1
    obtain ⟨y, i2, t2, e2, y0, y1, g2, g3⟩ := byte_some l hl i1 t1 g0 g1
    obtain ⟨z, i3, t3, e3, z0, z1, g4, g5⟩ := byte_some l hl i2 t2 g2 g3
    obtain ⟨u, i4, t4, e4, u0, u1, g6, g7⟩ := byte_some l hl i3 t3 g4 g5
    rw [e1]
    simp only [Option.bind_some, e2, e3, e4, if_neg (show ¬ n = 0 by omega)]
    have s : 0 ≤ wrap64 (wrap64 (wrap64 (wrap64 (x * 16777216) + wrap64 (y * 65536)) + wrap64 (z * 256)) + u) := by
      rw [w64 (n := x * 16777216) (by omega) (by omega), w64 (n := y * 65536) (by omega) (by omega), w64 (n := x * 16777216 + y * 65536) (by omega) (by omega), w64 (n := z * 256) (by omega) (by omega), w64 (n := x * 16777216 + y * 65536 + z * 256) (by omega) (by omega), w64 (by omega) (by omega)]
      omega
    refine ⟨_, _, _, rfl, ?_, ?_, g6, g7⟩
    · rw [Int.tmod_eq_emod_of_nonneg s]
      exact Int.emod_nonneg _ (by omega)
    · rw [Int.tmod_eq_emod_of_nonneg s]
      exact Int.emod_lt_of_pos _ hn
theorem new_l0 (l : List Int) (hl : l.length ≤ 140737488351232) (n : Nat) : ∀ (h i : Int), 0 ≤ i → i + n = l.length → ∃ h', Ev (fun k => spec_l01New.l0 k l h i) (l, 0, h') := by
  induction n with
  | zero =>
    intro h i h0 hn
    refine ⟨h, ?_⟩
    refine Ev.step (fun k => spec_l01New.l0.eq_2 l h i k) ?_
    simp only [if_neg (show ¬ i < (l.length : Int) by omega)]
    exact Ev.now _
  | succ n ih =>
    intro h i h0 hn
    by_cases h4 : i < 4000
    · obtain ⟨h', H⟩ := ih (Go.bits .and .i64 (wrap64 ((wrap64 ((wrap64 (h * 131)) + (wrap64 (rd l i)))) + 7)) 1073741823) (i + 1) (by omega) (by omega)
      refine ⟨h', ?_⟩
      refine Ev.step (fun k => spec_l01New.l0.eq_2 l h i k) ?_
      simp only [if_pos (show i < (l.length : Int) by omega), if_pos h4, if_pos h0]
      rw [w64 (n := i + 1) (by omega) (by omega)]
      exact H
    · refine ⟨h, ?_⟩
      refine Ev.step (fun k => spec_l01New.l0.eq_2 l h i k) ?_
      simp only [if_pos (show i < (l.length : Int) by omega), if_neg h4]
      exact Ev.now _
theorem new_some (l : List Int) (hl : l.length ≤ 140737488351232) : ∃ h', Ev (fun k => spec_l01New.f k l) (l, 0, h') := by
  unfold spec_l01New.f
  exact new_l0 l hl l.length _ 0 (by omega) (by omega)
theorem text_l0 (l : List Int) (hl : l.length ≤ 140737488351232) (m : Int) (hm : m ≤ 5000) (n : Nat) : ∀ (xs : List Int) (j i h : Int), 0 ≤ j → xs.length = j → (m - j).toNat ≤ n → 0 ≤ i → i ≤ l.length → (j ≤ m ∨ j = 0) →
    ∃ s i' h', Ev (fun k => spec_l01Text.l0 k m xs j l i h) (s, i', h') ∧ ((s.size : Int) ≤ m ∨ s.size = 0) := by
  induction n with
  | zero =>
    intro xs j i h j0 hx hn i0 i1 hj
    refine ⟨strOfNums xs, i, h, ?_, ?_⟩
    · refine Ev.step (fun k => spec_l01Text.l0.eq_2 m xs j l i h k) ?_
      simp only [if_neg (show ¬ j < m by omega)]
      exact Ev.now _
    · rw [strOfNums_size]
      omega
  | succ n ih =>
    intro xs j i h j0 hx hn i0 i1 hj
    by_cases hlt : j < m
    · obtain ⟨x, i1', t1, e1, x0, x1, g0, g1⟩ := byte_some l hl i h i0 i1
      obtain ⟨s, i', h', H, hs⟩ := ih (xs ++ [x % 256]) (j + 1) i1' t1 (by omega) (by rw [List.length_append]; simp only [List.length_cons, List.length_nil]; omega) (by omega) g0 g1 (by omega)
      refine ⟨s, i', h', ?_, hs⟩
      refine Ev.step (fun k => spec_l01Text.l0.eq_2 m xs j l i h k) ?_
      simp only [if_pos hlt, e1, Option.bind_some, if_pos (show xs.length < 140737488355328 by omega)]
      rw [w64 (n := j + 1) (by omega) (by omega)]
      exact H
    · refine ⟨strOfNums xs, i, h, ?_, ?_⟩
      · refine Ev.step (fun k => spec_l01Text.l0.eq_2 m xs j l i h k) ?_
        simp only [if_neg hlt]
        exact Ev.now _
      · rw [strOfNums_size]
        omega
theorem text_some (l : List Int) (hl : l.length ≤ 140737488351232) (i h : Int) (h0 : 0 ≤ i) (h1 : i ≤ l.length) (m : Int) (m0 : 0 ≤ m) (hm : m ≤ 5000) :
    ∃ s i' h', Ev (fun k => spec_l01Text.f k l i h m) (s, i', h') ∧ (s.size : Int) ≤ m := by
  obtain ⟨s, i', h', H, hs⟩ := text_l0 l hl m hm m.toNat [] 0 i h (by omega) rfl (by omega) h0 h1 (.inr rfl)
  refine ⟨s, i', h', ?_, by omega⟩
  unfold spec_l01Text.f
  simp only [if_neg (show ¬ m > 5000 by omega)]
  refine Ev.step (fun k => spec_l01Text.j0.eq_2 m l i h k) ?_
  exact H
theorem size_app2 (a b : ByteArray) : (a ++ b).size = a.size + b.size := ByteArray.size_append
theorem app_list (a b : ByteArray) : (a ++ b).toList = a.toList ++ b.toList := by
  rw [ByteArray.toList_eq, ByteArray.toList_eq, ByteArray.toList_eq, ByteArray.data_append, Array.toList_append]
theorem bt_left (a b : ByteArray) (i : Nat) (h : i < a.size) : bt (a ++ b) (i : Int) = bt a (i : Int) := by
  rw [size_list] at h
  rw [bt_list, bt_list, app_list, List.getD_eq_getElem?_getD, List.getD_eq_getElem?_getD, List.getElem?_append_left h]
theorem bt_right (a b : ByteArray) (i : Nat) : bt (a ++ b) ((a.size + i : Nat) : Int) = bt b (i : Int) := by
  rw [bt_list, bt_list, app_list, List.getD_eq_getElem?_getD, List.getD_eq_getElem?_getD, size_list, List.getElem?_append_right (by omega), Nat.add_sub_cancel_left]
theorem bt_nums (xs : List Int) (h : ∀ b ∈ xs, 0 ≤ b ∧ b < 256) (j : Nat) (hj : j < xs.length) : bt (strOfNums xs) (j : Int) = xs[j] := by
  obtain ⟨h1, h2⟩ := h _ (List.getElem_mem hj)
  rw [bt_list, strOfNums_toList, List.getD_eq_getElem?_getD, List.getElem?_map, List.getElem?_eq_getElem hj]
  simp only [Option.map_some, Option.getD_some]
  rw [UInt8.toNat_ofNat_of_lt' (by simp; omega)]
  omega
theorem ext_right (a b : ByteArray) (n : Nat) (h : n = a.size + b.size) : (a ++ b).extract a.size n = b := by
  apply ba_ext
  rw [ext_list, app_list, h, size_list a]
  simp only [List.drop_left', Nat.add_sub_cancel_left]
  rw [size_list, List.take_length]
theorem ext_left (a b : ByteArray) : (a ++ b).extract 0 a.size = a := by
  apply ba_ext
  rw [ext_list, app_list, size_list a]
  simp
/-- The checksum of a text. -/
def S (s : ByteArray) : Int := sumN s s.size 0 4294967295
theorem S_range (s : ByteArray) : 0 ≤ S s ∧ S s < 4294967296 := sumN_range s s.size (by omega) (by omega)
def sealedT (s : ByteArray) : ByteArray := s ++ strOfNums (four (S s))
theorem sealed_size (s : ByteArray) : (sealedT s).size = s.size + 4 := by
  unfold sealedT
  rw [size_app2, strOfNums_size]
  rfl
theorem sum_text (s : ByteArray) (hs : s.size ≤ 140737488351232) : Ev (fun k => impl_sumText.f k s) (strOfNums (four (S s))) := by
  unfold impl_sumText.f
  exact Ev.bind (impl_of s hs) (Ev.now _)
theorem sealed_some (s : ByteArray) (hs : s.size ≤ 100) : Ev (fun k => impl_Sealed.f k s) (sealedT s, true) := by
  unfold impl_Sealed.f
  have hz : (strOfNums (four (S s))).size = 4 := strOfNums_size _
  simp only [if_neg (show ¬ (s.size : Int) > 12000 by omega)]
  refine Ev.bind (sum_text s (by omega)) ?_
  simp only [if_pos (show s.size + (strOfNums (four (S s))).size ≤ 9223372036854775807 by omega)]
  exact Ev.now _
theorem unsealed_some (T : ByteArray) (n : Nat) (hT : T.size = n + 4) (hn : n ≤ 100) : Ev (fun k => impl_Unsealed.f k T) (if (strOfNums (four (S (T.extract 0 n)))).toList = (T.extract n (n + 4)).toList then (T.extract 0 n, true) else ((⟨#[]⟩ : ByteArray), false)) := by
  unfold impl_Unsealed.f
  have ez : ((T.size : Nat) : Int) - 4 = (n : Int) := by omega
  have e : wrap64 ((T.size : Int) - 4) = (n : Int) := by rw [ez]; exact w64 (by omega) (by omega)
  simp only [e, Int.toNat_natCast, if_neg (show ¬ (n : Int) < 0 by omega), if_neg (show ¬ (n : Int) > 12000 by omega), if_pos (show 0 ≤ (n : Int) by omega), if_pos (show (n : Int) ≤ (T.size : Int) by omega)]
  refine Ev.bind (sum_text (T.extract 0 n) (by rw [ext_size _ _ _ (by omega)]; omega)) ?_
  rw [hT]
  by_cases h : (strOfNums (four (S (T.extract 0 n)))).toList = (T.extract n (n + 4)).toList
  · simp only [if_pos h]; exact Ev.now _
  · simp only [if_neg h]; exact Ev.now _
theorem unsealed_sealed (s : ByteArray) (hs : s.size ≤ 100) : Ev (fun k => impl_Unsealed.f k (sealedT s)) (s, true) := by
  have h := unsealed_some (sealedT s) s.size (sealed_size s) hs
  have h1 : (sealedT s).extract 0 s.size = s := ext_left _ _
  have h2 : (sealedT s).extract s.size (s.size + 4) = strOfNums (four (S s)) := ext_right _ _ _ (by rw [strOfNums_size]; rfl)
  rw [h1, h2, if_pos rfl] at h
  exact h
theorem four_bt (x : Int) (j : Nat) (hj : j < 4) : bt (strOfNums (four x)) (j : Int) = (four x)[j]'hj := bt_nums (four x) (four_in x) j hj
/-- Another byte in one place: the checksum's bytes and those that stand there differ. -/
theorem wrong_four (s T : ByteArray) (i : Nat) (hT : T.size = s.size + 4) (hi : i < s.size + 4) (hsame : ∀ j : Nat, j < s.size + 4 → j ≠ i → bt T (j : Int) = bt (sealedT s) (j : Int)) (hother : bt T (i : Int) ≠ bt (sealedT s) (i : Int)) :
    (strOfNums (four (S (T.extract 0 s.size)))).toList ≠ (T.extract s.size (s.size + 4)).toList := by
  intro h
  have h := ba_ext h
  have hn : (T.extract 0 s.size).size = s.size := by rw [ext_size _ _ _ (by omega)]; omega
  have hlow : ∀ j : Nat, j < s.size → bt (T.extract 0 s.size) (j : Int) = bt T (j : Int) := by
    intro j hj
    have := ext_bt T 0 s.size j (by omega)
    rw [Nat.zero_add] at this
    exact this
  have hseal : ∀ j : Nat, j < s.size → bt (sealedT s) (j : Int) = bt s (j : Int) := fun j hj => bt_left _ _ j hj
  have htop : ∀ q : Nat, q < 4 → bt (strOfNums (four (S (T.extract 0 s.size)))) (q : Int) = bt T ((s.size + q : Nat) : Int) := by
    intro q hq
    rw [h]
    exact ext_bt T s.size (s.size + 4) q (by omega)
  have hsq : ∀ q : Nat, bt (sealedT s) ((s.size + q : Nat) : Int) = bt (strOfNums (four (S s))) (q : Int) := fun q => bt_right _ _ q
  by_cases hin : i < s.size
  · have hS : four (S (T.extract 0 s.size)) = four (S s) := by
      refine List.ext_getElem rfl (fun q h1 h2 => ?_)
      have hq : q < 4 := h1
      exact (four_bt _ q hq).symm.trans ((htop q hq).trans ((hsame (s.size + q) (by omega) (by omega)).trans ((hsq q).trans (four_bt _ q hq))))
    have hE := four_inj (S_range _) (S_range _) hS
    unfold S at hE
    rw [hn] at hE
    refine sumN_other (s := T.extract 0 s.size) (t := s) (d := (i : Int)) s.size (i := 0) (x := 4294967295) (by omega) (by omega) (by omega) ?_ ?_ hE
    · intro j h0 h1 hne
      obtain ⟨j, rfl⟩ := Int.eq_ofNat_of_zero_le h0
      rw [hlow j (by omega), hsame j (by omega) (by omega), hseal j (by omega)]
    · rw [hlow i hin]
      rw [hseal i hin] at hother
      exact hother
  · have hS : S (T.extract 0 s.size) = S s := by
      unfold S
      rw [hn]
      refine sumN_same s.size (fun j h0 h1 => ?_)
      obtain ⟨j, rfl⟩ := Int.eq_ofNat_of_zero_le h0
      rw [hlow j (by omega), hsame j (by omega) (by omega), hseal j (by omega)]
    have h1 := htop (i - s.size) (by omega)
    rw [hS, show s.size + (i - s.size) = i by omega] at h1
    have h2 := hsq (i - s.size)
    rw [show s.size + (i - s.size) = i by omega] at h2
    exact hother (h1.symm.trans h2.symm)
theorem bytesI_get (t : ByteArray) (j : Nat) (hj : j < (bytesI t).length) : (bytesI t)[j] = bt t (j : Int) := by
  have hz := bytesI_length t
  have hs : j < t.size := by omega
  unfold bt
  simp only [Int.toNat_natCast]
  rw [dif_pos hs]
  have h1 : (bytesI t)[j]? = some ((t[j]'hs).toNat : Int) := by
    unfold bytesI
    rw [List.getElem?_map]
    have h2 : t.data.toList[j]? = some (t[j]'hs) := by
      rw [List.getElem?_eq_getElem (by rw [Array.length_toList]; exact hs)]
      rfl
    rw [h2]
    rfl
  rw [List.getElem?_eq_getElem hj] at h1
  exact Option.some.inj h1
theorem bytesI_in (t : ByteArray) : ∀ b ∈ bytesI t, 0 ≤ b ∧ b < 256 := by
  intro b hb
  unfold bytesI at hb
  obtain ⟨c, _, rfl⟩ := List.mem_map.1 hb
  have := c.toNat_lt
  omega
theorem unsealed_turned (s : ByteArray) (hs : s.size ≤ 100) (p : List Int) (h0 : 0 ≤ rd p 0) (h1 : 0 ≤ rd p 1) : Ev (fun k => impl_Unsealed.f k (strOfNums (turnedB (sealedT s) p))) ((⟨#[]⟩ : ByteArray), false) := by
  have hz := sealed_size s
  have hl := bytesI_length (sealedT s)
  obtain ⟨i, hi⟩ := Int.eq_ofNat_of_zero_le (show 0 ≤ Int.tmod (rd p 0) ((sealedT s).size : Int) from Int.tmod_nonneg _ h0)
  have hlt : (i : Int) < ((sealedT s).size : Int) := by
    rw [← hi, Int.tmod_eq_emod_of_nonneg h0]
    exact Int.emod_lt_of_pos _ (by omega)
  have hrd : rd (bytesI (sealedT s)) (i : Int) = bt (sealedT s) (i : Int) := by
    unfold rd
    rw [Int.toNat_natCast, List.getD_eq_getElem?_getD, List.getElem?_eq_getElem (by omega), Option.getD_some]
    exact bytesI_get _ i (by omega)
  have hm : 1 ≤ wrap64 (1 + Int.tmod (rd p 1) 255) % 256 ∧ wrap64 (1 + Int.tmod (rd p 1) 255) % 256 < 256 := by
    have a1 : 0 ≤ Int.tmod (rd p 1) 255 := Int.tmod_nonneg _ h1
    have a2 : Int.tmod (rd p 1) 255 < 255 := by rw [Int.tmod_eq_emod_of_nonneg h1]; omega
    rw [w64 (by omega) (by omega)]
    omega
  obtain ⟨v0, v1, v2⟩ := xor_other (bt_byte (sealedT s) (i : Int)) hm
  have hT : (turnedB (sealedT s) p) = (bytesI (sealedT s)).set i (Go.bits .xor .u8 (bt (sealedT s) (i : Int)) (wrap64 (1 + Int.tmod (rd p 1) 255) % 256)) := by
    unfold turnedB
    rw [hi, Int.toNat_natCast, hrd]
  generalize Go.bits .xor .u8 (bt (sealedT s) (i : Int)) (wrap64 (1 + Int.tmod (rd p 1) 255) % 256) = v at *
  have hlen : (turnedB (sealedT s) p).length = s.size + 4 := by rw [hT, List.length_set]; omega
  have hin : ∀ b ∈ turnedB (sealedT s) p, 0 ≤ b ∧ b < 256 := by
    intro b hb
    rw [hT] at hb
    rcases List.mem_or_eq_of_mem_set hb with hb | rfl
    · exact bytesI_in _ b hb
    · exact ⟨v0, v1⟩
  have hbt : ∀ j : Nat, j < s.size + 4 → bt (strOfNums (turnedB (sealedT s) p)) (j : Int) = if i = j then v else bt (sealedT s) (j : Int) := by
    intro j hj
    rw [bt_nums _ hin j (by omega)]
    simp only [hT]
    rw [List.getElem_set]
    by_cases hij : i = j
    · rw [if_pos hij, if_pos hij]
    · rw [if_neg hij, if_neg hij]
      exact bytesI_get _ j (by omega)
  have hsz : (strOfNums (turnedB (sealedT s) p)).size = s.size + 4 := by rw [strOfNums_size]; exact hlen
  have hu := unsealed_some _ s.size hsz hs
  rw [if_neg (wrong_four s _ i hsz (by omega) (fun j hj hne => by rw [hbt j hj, if_neg (fun h => hne h.symm)]) (by rw [hbt i (by omega), if_pos rfl]; exact v2))] at hu
  exact hu
theorem sum_more (s : ByteArray) : sumN (⟨#[120]⟩ : ByteArray) (⟨#[120]⟩ : ByteArray).size 0 (S s) = sumN (s ++ (⟨#[120]⟩ : ByteArray)) (s ++ (⟨#[120]⟩ : ByteArray)).size 0 4294967295 := by
  have h1 : (⟨#[120]⟩ : ByteArray).size = 1 := rfl
  rw [size_app2, h1, sumN_add, Int.zero_add]
  have hs : sumN (s ++ (⟨#[120]⟩ : ByteArray)) s.size 0 4294967295 = S s := by
    unfold S
    refine sumN_same s.size (fun j h0 h1 => ?_)
    obtain ⟨j, rfl⟩ := Int.eq_ofNat_of_zero_le h0
    exact bt_left _ _ j (by omega)
  rw [hs]
  show byte1 _ 0 (S s) = byte1 _ (s.size : Int) (S s)
  refine byte1_same ?_
  have := bt_right s (⟨#[120]⟩ : ByteArray) 0
  rw [Nat.add_zero] at this
  exact this.symm
theorem draw_sum (l : List Int) (hl : l.length ≤ 140737488351232) : ∃ s, Ev (fun k => spec_DrawSumOf.f k l) s ∧ s.size ≤ 40 := by
  obtain ⟨h', hn⟩ := new_some l hl
  obtain ⟨m, i1, h1, e, m0, m1, g0, g1⟩ := below_some l hl 0 h' (by omega) (by omega) 40 (by omega)
  obtain ⟨s, i2, h2, ht, hs⟩ := text_some l hl i1 h1 g0 g1 m m0 (by omega)
  refine ⟨s, ?_, by omega⟩
  unfold spec_DrawSumOf.f
  refine Ev.bind hn ?_
  simp only [e, Option.bind_some]
  refine Ev.bind ht ?_
  exact Ev.now _
theorem places_l0 (l : List Int) (hl : l.length ≤ 140737488351232) (n : Nat) : ∀ (xs : List Int) (i h : Int), xs.length + n = 12 → (∀ x ∈ xs, 0 ≤ x) → 0 ≤ i → i ≤ l.length →
    ∃ ys, Ev (fun k => spec_DrawPlaces.l0 k xs (xs.length : Int) l i h) ys ∧ ys.length = 12 ∧ ∀ x ∈ ys, 0 ≤ x := by
  induction n with
  | zero =>
    intro xs i h hx hp i0 i1
    refine ⟨xs, ?_, by omega, hp⟩
    refine Ev.step (fun k => spec_DrawPlaces.l0.eq_2 xs _ l i h k) ?_
    simp only [if_neg (show ¬ (xs.length : Int) < 12 by omega)]
    exact Ev.now _
  | succ n ih =>
    intro xs i h hx hp i0 i1
    obtain ⟨x, i2, h2, e, x0, x1, g0, g1⟩ := below_some l hl i h i0 i1 10000 (by omega)
    have hlen : (xs ++ [x]).length = xs.length + 1 := by simp
    obtain ⟨ys, H, y1, y2⟩ := ih (xs ++ [x]) i2 h2 (by omega) (by
      intro y hy
      rcases List.mem_append.1 hy with hy | hy
      · exact hp y hy
      · rw [List.mem_singleton] at hy; omega) g0 g1
    refine ⟨ys, ?_, y1, y2⟩
    refine Ev.step (fun k => spec_DrawPlaces.l0.eq_2 xs _ l i h k) ?_
    have ew : wrap64 ((xs.length : Int) + 1) = ((xs ++ [x]).length : Int) := by rw [w64 (by omega) (by omega), hlen]; omega
    simp only [if_pos (show (xs.length : Int) < 12 by omega), e, Option.bind_some, if_pos (show xs.length < 17592186044416 by omega), ew]
    exact H
theorem draw_places (l : List Int) (hl : l.length ≤ 140737488351232) : ∃ p, Ev (fun k => spec_DrawPlaces.f k l) p ∧ p.length = 12 ∧ 0 ≤ rd p 0 ∧ 0 ≤ rd p 1 := by
  obtain ⟨h', hn⟩ := new_some l hl
  obtain ⟨x, i1, h1, e, x0, x1, g0, g1⟩ := byte_some l hl 0 h' (by omega) (by omega)
  obtain ⟨ys, H, y1, y2⟩ := places_l0 l hl 12 [] i1 h1 rfl (by simp) g0 g1
  have hrd : ∀ i : Nat, i < 12 → 0 ≤ rd ys (i : Int) := by
    intro i hi
    unfold rd
    rw [Int.toNat_natCast, List.getD_eq_getElem?_getD, List.getElem?_eq_getElem (by omega), Option.getD_some]
    exact y2 _ (List.getElem_mem _)
  refine ⟨ys, ?_, y1, hrd 0 (by omega), hrd 1 (by omega)⟩
  unfold spec_DrawPlaces.f
  refine Ev.bind hn ?_
  simp only [e, Option.bind_some]
  exact H
end Turned
theorem FnTurned : laws_FnTurned.Pure := by
  intro l _ hl0 _
  have hl : l.length ≤ 140737488351232 := by omega
  refine Ev.rounds ?_
  unfold laws_FnTurned.f laws_big.f
  simp only [Option.bind_some]
  by_cases hb : (l.length : Int) > 1048576
  · simp only [decide_eq_true hb, if_true]
    exact Ev.now _
  · simp only [decide_eq_false hb, Bool.false_eq_true, if_false]
    obtain ⟨s, hs, hs40⟩ := Turned.draw_sum l hl
    obtain ⟨p, hp, hp12, hp0, hp1⟩ := Turned.draw_places l hl
    have hz := Turned.sealed_size s
    refine Ev.bind hs ?_
    refine Ev.bind hp ?_
    refine Ev.bind (Turned.sealed_some s (by omega)) ?_
    refine Ev.bind (Turned.unsealed_sealed s (by omega)) ?_
    simp only [if_true]
    have hw : wrap64 ((s.size : Int) + 4) = (s.size : Int) + 4 := w64 (by omega) (by omega)
    have hne : (((Turned.sealedT s).size : Int) != (s.size : Int) + 4) = false := by
      rw [hz]
      exact bne_eq_false_iff_eq.mpr (by omega)
    rw [hw, hne]
    refine Ev.step (fun k => laws_FnTurned.j0.eq_2 s p (Turned.sealedT s) false k) ?_
    simp only [Bool.false_eq_true, if_false, if_pos (show 1 < p.length ∧ 0 ≤ rd p 0 ∧ 0 < (Turned.sealedT s).size from ⟨by omega, hp0, by omega⟩)]
    refine Ev.bind (Turned.unsealed_turned s (by omega) p hp0 hp1) ?_
    simp only [Bool.false_eq_true, if_false]
    refine Ev.bind (Turned.impl_of s (by omega)) ?_
    refine Ev.bind (Turned.impl_sum (⟨#[120]⟩ : ByteArray) (by decide) _ (Turned.S_range s).1 (Turned.S_range s).2) ?_
    simp only [if_pos (show s.size + 1 ≤ 9223372036854775807 by omega)]
    refine Ev.bind (Turned.impl_of (s ++ (⟨#[120]⟩ : ByteArray)) (by rw [Turned.size_app2]; have : (⟨#[120]⟩ : ByteArray).size = 1 := rfl; omega)) ?_
    have hm := Turned.sum_more s
    unfold Turned.S at hm
    rw [hm, beq_self_eq_true]
    exact Ev.now _
end Go.Proofs.Ytpcjbnglolfaaaa.Pure
