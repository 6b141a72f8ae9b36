/- The program's ShowStep and the reference's give one answer, for every step. -/
import Derived.Test.YtokhjlaomgimmaaDoorQFnExactShowStepx5
import Derived.Test.YtokhjlaomgimmaaDoorDecLib
import Derived.Lib.Join
namespace Go.Proofs.YtokhjlaomgimmaaDoor.Pure
open Go.RowKit Go.Proofs.YtokhjlaomgimmaaDoor.PFnExactShowStep Go.Proofs.YtokhjlaomgimmaaDoorW.PrintWords Go.Proofs.YtokhjlaomgimmaaDoorW.PrintLast Go.Proofs.YtokhjlaomgimmaaDoor.Lib
set_option linter.unusedSimpArgs false
set_option linter.unusedVariables false
namespace ShowStep
theorem fig_spec (x : Nat) (h : x < 10) : spec_l01Figure.f (x : Int) = some (48 + (x : Int)) := by
  unfold spec_l01Figure.f
  rw [if_pos (by omega), w64 (by omega) (by omega)]
  congr 1
  omega
/-- The two signs. -/
def signed (neg : Bool) (m : Nat) : Int := if neg = true then -(m : Int) else (m : Int)
theorem dec_l0 (neg : Bool) (d : Nat) : ∀ (m : Nat) (l : List UInt8), m < 10 ^ d → m ≤ 9223372036854775808 → (neg = false → m ≤ 9223372036854775807) → l.length + d ≤ 1000 →
    Ev (fun k => spec_Decimal.l0 k (signed neg m) neg ⟨l.toArray⟩) ⟨((if neg = true then [45] else []) ++ digs m ++ l).toArray⟩ := by
  have base : ∀ l : List UInt8, l.length ≤ 1000 → Ev (fun k => spec_Decimal.l0 k (signed neg 0) neg ⟨l.toArray⟩) ⟨((if neg = true then [45] else []) ++ digs 0 ++ l).toArray⟩ := by
    intro l hl
    refine Ev.step (fun k => spec_Decimal.l0.eq_2 (signed neg 0) neg ⟨l.toArray⟩ k) ?_
    have e : signed neg 0 = 0 := by
      unfold signed
      cases neg <;> rfl
    have hz : 1 + (⟨l.toArray⟩ : ByteArray).size ≤ 9223372036854775807 := by
      rw [size_mk]
      omega
    simp only [e, if_true, if_pos hz]
    cases neg
    · simp only [Bool.false_eq_true, if_false, digs, if_true, List.nil_append]
      exact Ev.now _
    · simp only [if_true, digs]
      rw [show ((⟨#[45]⟩ : ByteArray) ++ ⟨l.toArray⟩) = ⟨([45] ++ [] ++ l).toArray⟩ by
        rw [append_mk]
        rw [ByteArray.toList_eq]
        rfl]
      exact Ev.now _
  induction d with
  | zero =>
    intro m l hm _ _ hl
    obtain rfl : m = 0 := by simpa using hm
    exact base l (by omega)
  | succ d ih =>
    intro m l hm h63 hpos hl
    by_cases h0 : m = 0
    · subst h0
      exact base l (by omega)
    · refine Ev.step (fun k => spec_Decimal.l0.eq_2 (signed neg m) neg ⟨l.toArray⟩ k) ?_
      have hne : signed neg m ≠ 0 := by
        unfold signed
        split <;> omega
      have hq : m / 10 < 10 ^ d := by
        rw [Nat.div_lt_iff_lt_mul (by decide)]
        rw [Nat.pow_succ] at hm
        exact hm
      have hdv : wrap64 (Int.tdiv (signed neg m) 10) = signed neg (m / 10) := by
        unfold signed
        cases neg
        · simp only [Bool.false_eq_true, if_false]
          rw [Int.tdiv_eq_ediv_of_nonneg (by omega)]
          have := hpos rfl
          unfold wrap64
          omega
        · simp only [if_true]
          rw [Int.neg_tdiv, Int.tdiv_eq_ediv_of_nonneg (by omega)]
          unfold wrap64
          omega
      have hz : (strOfNums [(48 : Int) + ((m % 10 : Nat) : Int)]).size + (⟨l.toArray⟩ : ByteArray).size ≤ 9223372036854775807 := by
        rw [strOfNums_size, size_mk]
        simp only [List.length_cons, List.length_nil]
        omega
      have hap : strOfNums [(48 : Int) + ((m % 10 : Nat) : Int)] ++ (⟨l.toArray⟩ : ByteArray) = ⟨((UInt8.ofNat (48 + m % 10)) :: l).toArray⟩ := by
        rw [append_mk, strOfNums_toList]
        congr 2
      have IH := ih (m / 10) (UInt8.ofNat (48 + m % 10) :: l) hq (by omega) (fun h => by have := hpos h; omega) (by simp only [List.length_cons]; omega)
      have hres : ((if neg = true then [45] else []) ++ digs (m / 10) ++ UInt8.ofNat (48 + m % 10) :: l) = ((if neg = true then [45] else []) ++ digs m ++ l) := by
        rw [digs_step h0]
        simp only [List.append_assoc, List.cons_append, List.nil_append]
      rw [hres] at IH
      simp only [if_neg hne, hdv]
      by_cases hn : Int.tmod (signed neg m) 10 < 0
      · have ht : wrap64 (-(Int.tmod (signed neg m) 10)) = ((m % 10 : Nat) : Int) := by
          unfold signed at hn ⊢
          cases neg
          · simp only [Bool.false_eq_true, if_false] at hn
            rw [Int.tmod_eq_emod_of_nonneg (by omega)] at hn
            omega
          · simp only [if_true]
            rw [Int.neg_tmod, Int.tmod_eq_emod_of_nonneg (by omega)]
            unfold wrap64
            omega
        simp only [if_pos hn, ht, fig_spec _ (show m % 10 < 10 by omega), Option.bind_some, if_pos hz, hap]
        exact IH
      · have ht : Int.tmod (signed neg m) 10 = ((m % 10 : Nat) : Int) := by
          unfold signed at hn ⊢
          cases neg
          · simp only [Bool.false_eq_true, if_false]
            rw [Int.tmod_eq_emod_of_nonneg (by omega)]
            omega
          · simp only [if_true] at hn ⊢
            rw [Int.neg_tmod, Int.tmod_eq_emod_of_nonneg (by omega)] at hn ⊢
            omega
        simp only [if_neg hn, ht, fig_spec _ (show m % 10 < 10 by omega), Option.bind_some, if_pos hz, hap]
        exact IH
theorem spec_dec (n : Int) (h0 : -9223372036854775808 ≤ n) (h1 : n ≤ 9223372036854775807) : Ev (fun k => spec_Decimal.f k n) ⟨(Lib.itoa n).toArray⟩ := by
  have e0 : (⟨#[]⟩ : ByteArray) = ⟨([] : List UInt8).toArray⟩ := rfl
  unfold spec_Decimal.f
  by_cases hz : n = 0
  · subst hz
    simp only [if_true, itoa_zero]
    exact Ev.now _
  · simp only [if_neg hz]
    by_cases hn : n < 0
    · obtain ⟨m, rfl⟩ : ∃ m : Nat, n = -(m : Int) := ⟨n.natAbs, by omega⟩
      have := dec_l0 true 19 m [] (by omega) (by omega) (fun h => by cases h) (by decide)
      rw [itoa_neg m (by omega)]
      simpa only [signed, if_true, decide_eq_true hn, e0, List.append_nil, List.cons_append, List.nil_append] using this
    · obtain ⟨m, rfl⟩ := Int.eq_ofNat_of_zero_le (show 0 ≤ n by omega)
      have := dec_l0 false 19 m [] (by omega) (by omega) (fun _ => by omega) (by decide)
      rw [itoa_pos m (by omega)]
      simpa only [signed, Bool.false_eq_true, if_false, decide_eq_false hn, e0, List.append_nil, List.nil_append] using this
def mk (l : List UInt8) : ByteArray := ⟨l.toArray⟩
theorem mk_list' (l : List UInt8) : (mk l).toList = l := mk_list l
/-- A text, and further ones behind it, a blank before each. -/
def outB (x : ByteArray) (ps : List ByteArray) : ByteArray := mk (x.toList ++ Lib.joinTail [32] (ps.map (·.toList)))
theorem tail_snoc (ps : List (List UInt8)) (p : List UInt8) : Lib.joinTail [32] (ps ++ [p]) = Lib.joinTail [32] ps ++ ([32] ++ p) := by
  simp [Lib.joinTail]
theorem outB_nil (x : ByteArray) : outB x [] = x := by
  apply ba_ext
  unfold outB
  rw [mk_list']
  simp [Lib.joinTail]
theorem outB_snoc (x : ByteArray) (ps : List ByteArray) (p : ByteArray) : (outB x ps ++ (⟨#[32]⟩ : ByteArray)) ++ p = outB x (ps ++ [p]) := by
  apply ba_ext
  unfold outB
  have h32 : (⟨#[32]⟩ : ByteArray).toList = [32] := mk_list [32]
  rw [append_list, append_list, mk_list', mk_list', h32, List.map_append, List.map_cons, List.map_nil, tail_snoc]
  simp only [List.append_assoc]
theorem joinTail_len (B : Nat) (ps : List ByteArray) (h : ∀ p ∈ ps, p.size ≤ B) : (Lib.joinTail [32] (ps.map (·.toList))).length ≤ ps.length * (B + 1) := by
  induction ps with
  | nil => simp [Lib.joinTail]
  | cons p ps ih =>
    have h1 := h p List.mem_cons_self
    have h2 := ih (fun q hq => h q (List.mem_cons_of_mem _ hq))
    rw [size_list] at h1
    simp only [Lib.joinTail, List.map_cons, List.flatten_cons, List.length_append, List.length_cons, List.length_nil] at h2 ⊢
    rw [Nat.add_mul, Nat.one_mul]
    omega
theorem outB_size (x : ByteArray) (B : Nat) (ps : List ByteArray) (h : ∀ p ∈ ps, p.size ≤ B) : (outB x ps).size ≤ x.size + ps.length * (B + 1) := by
  have := joinTail_len B ps h
  unfold outB
  rw [size_list, mk_list', List.length_append, ← size_list]
  omega
theorem join_out (x : ByteArray) (ps : List ByteArray) (B : Nat) (hx : x.size ≤ B) (h : ∀ p ∈ ps, p.size ≤ B) (hn : (ps.length + 1) * (B + 1) ≤ 140737488355328) :
    strings_Join.f (x :: ps) (⟨#[32]⟩ : ByteArray) = some (outB x ps) := by
  have hl := joinTail_len B ps h
  have e : ∀ q : ByteArray, q.data.toList = q.toList := fun q => (ByteArray.toList_eq q).symm
  have hj : Lib.join ((x :: ps).map (·.data.toList)) (⟨#[32]⟩ : ByteArray).data.toList = x.toList ++ Lib.joinTail [32] (ps.map (·.toList)) := by
    rw [List.map_cons, Lib.join_cons]
    simp only [e]
  rw [Nat.add_mul, Nat.one_mul] at hn
  have hm : ps.length ≤ ps.length * (B + 1) := Nat.le_mul_of_pos_right _ (Nat.succ_pos _)
  unfold strings_Join.f joinF
  rw [hj, if_pos ⟨Nat.succ_pos _, by rw [List.length_cons]; omega, by rw [List.length_append, ← size_list]; omega⟩]
  rfl
def dec (n : Int) : ByteArray := ⟨(Lib.itoa n).toArray⟩
theorem digs_len (d : Nat) : ∀ m : Nat, m < 10 ^ d → (digs m).length ≤ d := by
  induction d with
  | zero =>
    intro m hm
    obtain rfl : m = 0 := by simpa using hm
    exact Nat.le_refl _
  | succ d ih =>
    intro m hm
    by_cases h0 : m = 0
    · subst h0
      exact Nat.zero_le _
    · have hq : m / 10 < 10 ^ d := by
        rw [Nat.div_lt_iff_lt_mul (by decide)]
        rw [Nat.pow_succ] at hm
        exact hm
      rw [digs_step h0, List.length_append]
      exact Nat.add_le_add_right (ih _ hq) 1
theorem dec_size (n : Int) (h0 : -9223372036854775808 ≤ n) (h1 : n ≤ 9223372036854775807) : (dec n).size ≤ 30 := by
  unfold dec
  rw [size_mk]
  by_cases hz : n = 0
  · subst hz
    rw [itoa_zero]
    decide
  · by_cases hn : n < 0
    · obtain ⟨m, rfl⟩ : ∃ m : Nat, n = -(m : Int) := ⟨n.natAbs, by omega⟩
      rw [itoa_neg m (by omega), List.length_cons]
      have := digs_len 19 m (by omega)
      omega
    · obtain ⟨m, rfl⟩ := Int.eq_ofNat_of_zero_le (show 0 ≤ n by omega)
      rw [itoa_pos m (by omega)]
      have := digs_len 19 m (by omega)
      omega
theorem impl_dec (n : Int) (h0 : -9223372036854775808 ≤ n) (h1 : n ≤ 9223372036854775807) : impl_Decimal.f n = some (dec n) := by
  unfold impl_Decimal.f strconv_Itoa_48.f itoaF
  rw [if_pos ⟨h0, h1⟩]
  rfl
def I64 (n : Int) : Prop := -9223372036854775808 ≤ n ∧ n ≤ 9223372036854775807
/-- What stands behind the arguments. -/
def tailOf (o kd c n : Int) (s : ByteArray) : List ByteArray := if o = 3 ∨ o = 4 then [dec kd] else if o = 1 then [dec c] else if o = 8 then [dec n] else if o = 5 then [s] else []
theorem one_more {x : ByteArray} {p : ByteArray} (hx : x.size ≤ 9000000000000000) (hp : p.size ≤ 100000000) : x.size + 1 ≤ 9223372036854775807 ∧ (x ++ (⟨#[32]⟩ : ByteArray)).size + p.size ≤ 9223372036854775807 := by
  have h1 : (x ++ (⟨#[32]⟩ : ByteArray)).size = x.size + 1 := by
    rw [size_list, append_list, List.length_append, ← size_list, ← size_list]
    rfl
  rw [h1]
  omega
theorem spec_j4 (x : ByteArray) (hx : x.size ≤ 9000000000000000) (o t : Int) (l : List Int) (kd c n : Int) (s : ByteArray) (hk : I64 kd) (hc : I64 c) (hn : I64 n) (hs : s.size ≤ 10000000) (b : Bool) (hb : b = decide (o = 3 ∨ o = 4)) (y : ByteArray) (ps : List ByteArray) (hy : x = outB y ps) :
    Ev (fun k => spec_ShowStep.j4 k x o b o t l kd c n s) (outB y (ps ++ tailOf o kd c n s)) := by
  refine Ev.step (fun k => spec_ShowStep.j4.eq_2 x o b o t l kd c n s k) ?_
  have one : ∀ p : ByteArray, (x ++ (⟨#[32]⟩ : ByteArray)) ++ p = outB y (ps ++ [p]) := fun p => by rw [hy, outB_snoc]
  have dk := dec_size kd hk.1 hk.2
  have dc := dec_size c hc.1 hc.2
  have dn := dec_size n hn.1 hn.2
  unfold tailOf
  by_cases h : o = 3 ∨ o = 4
  · rw [decide_eq_true h] at hb
    subst hb
    obtain ⟨g1, g2⟩ := one_more (p := dec kd) hx (by omega)
    simp only [if_true, if_pos h, if_pos g1]
    refine Ev.bind (spec_dec kd hk.1 hk.2) ?_
    simp only [if_pos (show (x ++ (⟨#[32]⟩ : ByteArray)).size + (⟨(Lib.itoa kd).toArray⟩ : ByteArray).size ≤ 9223372036854775807 from g2)]
    rw [show (⟨(Lib.itoa kd).toArray⟩ : ByteArray) = dec kd from rfl, one]
    exact Ev.now _
  · rw [decide_eq_false h] at hb
    subst hb
    simp only [Bool.false_eq_true, if_false, if_neg h]
    by_cases h1 : o = 1
    · obtain ⟨g1, g2⟩ := one_more (p := dec c) hx (by omega)
      simp only [if_pos h1, if_pos g1]
      refine Ev.bind (spec_dec c hc.1 hc.2) ?_
      simp only [if_pos (show (x ++ (⟨#[32]⟩ : ByteArray)).size + (⟨(Lib.itoa c).toArray⟩ : ByteArray).size ≤ 9223372036854775807 from g2)]
      rw [show (⟨(Lib.itoa c).toArray⟩ : ByteArray) = dec c from rfl, one]
      exact Ev.now _
    · by_cases h8 : o = 8
      · obtain ⟨g1, g2⟩ := one_more (p := dec n) hx (by omega)
        simp only [if_neg h1, if_pos h8, if_pos g1]
        refine Ev.bind (spec_dec n hn.1 hn.2) ?_
        simp only [if_pos (show (x ++ (⟨#[32]⟩ : ByteArray)).size + (⟨(Lib.itoa n).toArray⟩ : ByteArray).size ≤ 9223372036854775807 from g2)]
        rw [show (⟨(Lib.itoa n).toArray⟩ : ByteArray) = dec n from rfl, one]
        exact Ev.now _
      · by_cases h5 : o = 5
        · obtain ⟨g1, g2⟩ := one_more (p := s) hx (by omega)
          simp only [if_neg h1, if_neg h8, if_pos h5, if_pos g1, if_pos g2, one]
          exact Ev.now _
        · simp only [if_neg h1, if_neg h8, if_neg h5, List.append_nil, hy]
          exact Ev.now _
theorem spec_j3 (x : ByteArray) (hx : x.size ≤ 9000000000000000) (o t : Int) (l : List Int) (kd c n : Int) (s : ByteArray) (hk : I64 kd) (hc : I64 c) (hn : I64 n) (hs : s.size ≤ 10000000) (y : ByteArray) (ps : List ByteArray) (hy : x = outB y ps) :
    Ev (fun k => spec_ShowStep.j3 k x o t l kd c n s) (outB y (ps ++ tailOf o kd c n s)) := by
  refine Ev.step (fun k => spec_ShowStep.j3.eq_2 x o t l kd c n s k) ?_
  by_cases h : o = 3
  · simp only [if_pos h]
    exact spec_j4 x hx o t l kd c n s hk hc hn hs _ (by simp [h]) y ps hy
  · simp only [if_neg h]
    exact spec_j4 x hx o t l kd c n s hk hc hn hs _ (by simp [h]; rfl) y ps hy
theorem rd_at (l : List Int) (i : Nat) (h : i < l.length) : rd l (i : Int) = l[i] := by
  unfold rd
  rw [Int.toNat_natCast, List.getD_eq_getElem?_getD, List.getElem?_eq_getElem h]
  rfl
theorem spec_l0 (o t : Int) (l : List Int) (hl : l.length ≤ 1048576) (hw : ∀ z ∈ l, I64 z) (kd c n : Int) (s : ByteArray) (y : ByteArray) (hyz : y.size ≤ 100) (r : ByteArray) (m : Nat) :
    ∀ (i : Nat) (ps : List ByteArray), i + m = l.length → ps.length ≤ i + 1 → (∀ p ∈ ps, p.size ≤ 30) → Ev (fun k => spec_ShowStep.j3 k (outB y (ps ++ (l.drop i).map dec)) o t l kd c n s) r →
    Ev (fun k => spec_ShowStep.l0 k (outB y ps) (i : Int) o t l kd c n s) r := by
  induction m with
  | zero =>
    intro i ps hi hp hps H
    rw [List.drop_of_length_le (by omega), List.map_nil, List.append_nil] at H
    refine Ev.step (fun k => spec_ShowStep.l0.eq_2 (outB y ps) _ o t l kd c n s k) ?_
    simp only [if_neg (show ¬ (i : Int) < (l.length : Int) by omega)]
    exact H
  | succ m ih =>
    intro i ps hi hp hps H
    have hil : i < l.length := by omega
    have hz := outB_size y 30 ps hps
    have hwi := hw l[i] (List.getElem_mem hil)
    have hd := dec_size l[i] hwi.1 hwi.2
    obtain ⟨g1, g2⟩ := one_more (x := outB y ps) (p := dec l[i]) (by omega) (by omega)
    have e1 : wrap64 ((i : Int) + 1) = ((i + 1 : Nat) : Int) := by
      rw [w64 (by omega) (by omega)]
      omega
    refine Ev.step (fun k => spec_ShowStep.l0.eq_2 (outB y ps) _ o t l kd c n s k) ?_
    simp only [if_pos (show (i : Int) < (l.length : Int) by omega), if_pos g1, if_pos (show (0 : Int) ≤ (i : Int) by omega), rd_at l i hil, e1]
    refine Ev.bind (spec_dec l[i] hwi.1 hwi.2) ?_
    simp only [if_pos (show (outB y ps ++ (⟨#[32]⟩ : ByteArray)).size + (⟨(Lib.itoa l[i]).toArray⟩ : ByteArray).size ≤ 9223372036854775807 from g2)]
    rw [show (⟨(Lib.itoa l[i]).toArray⟩ : ByteArray) = dec l[i] from rfl, outB_snoc]
    refine ih (i + 1) (ps ++ [dec l[i]]) (by omega) (by rw [List.length_append, List.length_singleton]; omega) (fun p hp' => ?_) ?_
    · rcases List.mem_append.1 hp' with h | h
      · exact hps p h
      · rw [List.mem_singleton.1 h]
        exact hd
    · rw [List.drop_eq_getElem_cons hil, List.map_cons] at H
      simpa only [List.append_assoc, List.cons_append, List.nil_append] using H
theorem impl_j3 (x : ByteArray) (ps : List ByteArray) (hx : x.size ≤ 10000000) (hps : ∀ p ∈ ps, p.size ≤ 10000000) (hn : ps.length ≤ 10000000) (o t : Int) (l : List Int) (kd c n : Int) (s : ByteArray) (hk : I64 kd) (hc : I64 c) (hnn : I64 n) (hs : s.size ≤ 10000000) (b : Bool) (hb : b = decide (o = 3 ∨ o = 4)) :
    Ev (fun k => impl_ShowStep.j3 k (x :: ps) o b o t l kd c n s) (outB x (ps ++ tailOf o kd c n s)) := by
  refine Ev.step (fun k => impl_ShowStep.j3.eq_2 (x :: ps) o b o t l kd c n s k) ?_
  have dk := dec_size kd hk.1 hk.2
  have dc := dec_size c hc.1 hc.2
  have dn := dec_size n hnn.1 hnn.2
  have g : (x :: ps).length < 8796093022208 := by
    rw [List.length_cons]
    omega
  have J : ∀ p : ByteArray, p.size ≤ 10000000 → strings_Join.f ((x :: ps) ++ [p]) (⟨#[32]⟩ : ByteArray) = some (outB x (ps ++ [p])) := by
    intro p hp
    rw [List.cons_append]
    refine join_out x (ps ++ [p]) 10000000 hx (fun q hq => ?_) ?_
    · rcases List.mem_append.1 hq with h | h
      · exact hps q h
      · rw [List.mem_singleton.1 h]
        exact hp
    · rw [List.length_append, List.length_singleton]
      omega
  unfold tailOf
  by_cases h : o = 3 ∨ o = 4
  · rw [decide_eq_true h] at hb
    subst hb
    simp only [if_true, if_pos h, impl_dec kd hk.1 hk.2, Option.bind_some, if_pos g, J (dec kd) (by omega)]
    exact Ev.now _
  · rw [decide_eq_false h] at hb
    subst hb
    simp only [Bool.false_eq_true, if_false, if_neg h]
    by_cases h1 : o = 1
    · simp only [if_pos h1, impl_dec c hc.1 hc.2, Option.bind_some, if_pos g, J (dec c) (by omega)]
      exact Ev.now _
    · by_cases h8 : o = 8
      · simp only [if_neg h1, if_pos h8, impl_dec n hnn.1 hnn.2, Option.bind_some, if_pos g, J (dec n) (by omega)]
        exact Ev.now _
      · by_cases h5 : o = 5
        · simp only [if_neg h1, if_neg h8, if_pos h5, Option.bind_some, if_pos g, J s hs]
          exact Ev.now _
        · simp only [if_neg h1, if_neg h8, if_neg h5, List.append_nil, join_out x ps 10000000 hx hps (by omega), Option.bind_some]
          exact Ev.now _
theorem impl_j2 (x : ByteArray) (ps : List ByteArray) (hx : x.size ≤ 10000000) (hps : ∀ p ∈ ps, p.size ≤ 10000000) (hn : ps.length ≤ 10000000) (o t : Int) (l : List Int) (kd c n : Int) (s : ByteArray) (hk : I64 kd) (hc : I64 c) (hnn : I64 n) (hs : s.size ≤ 10000000) :
    Ev (fun k => impl_ShowStep.j2 k (x :: ps) o t l kd c n s) (outB x (ps ++ tailOf o kd c n s)) := by
  refine Ev.step (fun k => impl_ShowStep.j2.eq_2 (x :: ps) o t l kd c n s k) ?_
  by_cases h : o = 3
  · simp only [if_pos h]
    exact impl_j3 x ps hx hps hn o t l kd c n s hk hc hnn hs _ (by simp [h])
  · simp only [if_neg h]
    exact impl_j3 x ps hx hps hn o t l kd c n s hk hc hnn hs _ (by simp [h]; rfl)
theorem impl_l0 (o t : Int) (l : List Int) (hl : l.length ≤ 1048576) (hw : ∀ z ∈ l, I64 z) (kd c n : Int) (s : ByteArray) (r : ByteArray) (m : Nat) :
    ∀ (i : Nat) (ps : List ByteArray), i + m = l.length → ps.length ≤ i + 2 → Ev (fun k => impl_ShowStep.j2 k (ps ++ (l.drop i).map dec) o t l kd c n s) r →
    Ev (fun k => impl_ShowStep.l0 k ps l (l.length : Int) (i : Int) o t l kd c n s) r := by
  induction m with
  | zero =>
    intro i ps hi hp H
    rw [List.drop_of_length_le (by omega), List.map_nil, List.append_nil] at H
    refine Ev.step (fun k => impl_ShowStep.l0.eq_2 ps l _ _ o t l kd c n s k) ?_
    simp only [if_neg (show ¬ (i : Int) < (l.length : Int) by omega)]
    exact H
  | succ m ih =>
    intro i ps hi hp H
    have hil : i < l.length := by omega
    have hwi := hw l[i] (List.getElem_mem hil)
    have e1 : wrap64 ((i : Int) + 1) = ((i + 1 : Nat) : Int) := by
      rw [w64 (by omega) (by omega)]
      omega
    refine Ev.step (fun k => impl_ShowStep.l0.eq_2 ps l _ _ o t l kd c n s k) ?_
    simp only [if_pos (show (i : Int) < (l.length : Int) by omega), if_pos (show (0 : Int) ≤ (i : Int) by omega), rd_at l i hil, impl_dec l[i] hwi.1 hwi.2, Option.bind_some, if_pos (show ps.length < 8796093022208 by omega), e1]
    refine ih (i + 1) (ps ++ [dec l[i]]) (by omega) (by rw [List.length_append, List.length_singleton]; omega) ?_
    rw [List.drop_eq_getElem_cons hil, List.map_cons] at H
    simpa only [List.append_assoc, List.cons_append, List.nil_append] using H
/-- The words. -/
def nine : List ByteArray := [(⟨#[99, 111, 110, 115, 116]⟩ : ByteArray), (⟨#[99, 111, 112, 121]⟩ : ByteArray), (⟨#[111, 110, 101]⟩ : ByteArray), (⟨#[116, 119, 111]⟩ : ByteArray), (⟨#[99, 104, 97, 105, 110]⟩ : ByteArray), (⟨#[115, 104, 111, 119]⟩ : ByteArray), (⟨#[100, 114, 111, 112]⟩ : ByteArray), (⟨#[108, 111, 111, 112]⟩ : ByteArray), (⟨#[101, 110, 100]⟩ : ByteArray)]
theorem nine_ten (o : Int) (h0 : 1 ≤ o) (h1 : o ≤ 9) : rdOf ByteArray.empty ((⟨#[]⟩ : ByteArray) :: nine) o = rdOf ByteArray.empty nine (o - 1) ∧ (rdOf ByteArray.empty nine (o - 1)).size ≤ 100 := by
  have : o = 1 ∨ o = 2 ∨ o = 3 ∨ o = 4 ∨ o = 5 ∨ o = 6 ∨ o = 7 ∨ o = 8 ∨ o = 9 := by omega
  rcases this with rfl | rfl | rfl | rfl | rfl | rfl | rfl | rfl | rfl <;> exact ⟨rfl, by decide⟩
theorem spec_in (a b c : Int) : spec_l01In.f a b c = some (decide (b ≤ a ∧ a ≤ c)) := by
  unfold spec_l01In.f
  by_cases h : a ≥ b
  · rw [if_pos h]
    congr 1
    simp only [show b ≤ a from h, true_and]
  · rw [if_neg h, decide_eq_false (by omega)]
theorem impl_in (a b c : Int) : impl_inRange.f a b c = some (decide (b ≤ a ∧ a ≤ c)) := by
  unfold impl_inRange.f
  by_cases h : a ≥ b
  · rw [if_pos h]
    congr 1
    simp only [show b ≤ a from h, true_and]
  · rw [if_neg h, decide_eq_false (by omega)]
def argsOf (o : Int) (l : List Int) : List ByteArray := if o = 1 ∨ o = 8 ∨ o = 9 then [] else l.map dec
def toOf (o t : Int) : List ByteArray := if 1 ≤ o ∧ o ≤ 5 then [dec t] else []
def said (o t : Int) (l : List Int) (kd c n : Int) (s : ByteArray) : ByteArray :=
  if 1 ≤ o ∧ o ≤ 9 then outB (rdOf ByteArray.empty nine (o - 1)) (toOf o t ++ argsOf o l ++ tailOf o kd c n s) else ⟨#[]⟩
theorem args_size (o : Int) (l : List Int) (hw : ∀ z ∈ l, I64 z) : ∀ p ∈ argsOf o l, p.size ≤ 30 := by
  intro p hp
  unfold argsOf at hp
  split at hp
  · cases hp
  · obtain ⟨z, hz, rfl⟩ := List.mem_map.1 hp
    exact dec_size z (hw z hz).1 (hw z hz).2
theorem args_len (o : Int) (l : List Int) : (argsOf o l).length ≤ l.length := by
  unfold argsOf
  split
  · exact Nat.zero_le _
  · rw [List.length_map]
    exact Nat.le_refl _
theorem spec_j0 (y : ByteArray) (hy : y.size ≤ 100) (ps : List ByteArray) (hp : ps.length ≤ 1) (hps : ∀ p ∈ ps, p.size ≤ 30) (o t : Int) (h0 : 1 ≤ o) (h9 : o ≤ 9) (l : List Int) (hl : l.length ≤ 1048576) (hw : ∀ z ∈ l, I64 z) (kd c n : Int) (s : ByteArray) (hk : I64 kd) (hc : I64 c) (hn : I64 n) (hs : s.size ≤ 10000000) :
    Ev (fun k => spec_ShowStep.j0 k (outB y ps) o t l kd c n s) (outB y (ps ++ argsOf o l ++ tailOf o kd c n s)) := by
  have N : (o = 1 ∨ o = 8 ∨ o = 9) → Ev (fun k => spec_ShowStep.j1 k (outB y ps) false o t l kd c n s) (outB y (ps ++ argsOf o l ++ tailOf o kd c n s)) := by
    intro h
    refine Ev.step (fun k => spec_ShowStep.j1.eq_2 (outB y ps) false o t l kd c n s k) ?_
    simp only [Bool.false_eq_true, if_false]
    have hz := outB_size y 30 ps hps
    have := spec_j3 (outB y ps) (by omega) o t l kd c n s hk hc hn hs y ps rfl
    unfold argsOf
    rw [if_pos h, List.append_nil]
    exact this
  refine Ev.step (fun k => spec_ShowStep.j0.eq_2 (outB y ps) o t l kd c n s k) ?_
  by_cases h1 : o = 1
  · simp only [if_pos h1]
    exact N (.inl h1)
  · by_cases h8 : o = 8
    · simp only [if_neg h1, if_pos h8]
      exact N (.inr (.inl h8))
    · simp only [if_neg h1, if_neg h8]
      by_cases h99 : o = 9
      · have : (o != 9) = false := by simp [h99]
        simp only [this]
        exact N (.inr (.inr h99))
      · have : (o != 9) = true := by simp [h99]
        simp only [this]
        refine Ev.step (fun k => spec_ShowStep.j1.eq_2 (outB y ps) true o t l kd c n s k) ?_
        simp only [if_true]
        have ha : argsOf o l = l.map dec := by
          unfold argsOf
          rw [if_neg (by omega)]
        have hsz : ∀ p ∈ ps ++ l.map dec, p.size ≤ 30 := by
          intro p hp'
          rcases List.mem_append.1 hp' with h | h
          · exact hps p h
          · exact args_size o l hw p (by rw [ha]; exact h)
        have hz := outB_size y 30 (ps ++ l.map dec) hsz
        rw [List.length_append, List.length_map] at hz
        have H := spec_j3 (outB y (ps ++ l.map dec)) (by omega) o t l kd c n s hk hc hn hs y (ps ++ l.map dec) rfl
        rw [ha]
        exact spec_l0 o t l hl hw kd c n s y hy _ l.length 0 ps (by omega) (by omega) hps (by rw [List.drop_zero]; exact H)
theorem spec_show (o t : Int) (ht : I64 t) (l : List Int) (hl : l.length ≤ 1048576) (hw : ∀ z ∈ l, I64 z) (kd c n : Int) (s : ByteArray) (hk : I64 kd) (hc : I64 c) (hn : I64 n) (hs : s.size ≤ 10000000) :
    Ev (fun k => spec_ShowStep.f k o t l kd c n s) (said o t l kd c n s) := by
  unfold spec_ShowStep.f said
  simp only [spec_in, Option.bind_some]
  by_cases h : 1 ≤ o ∧ o ≤ 9
  · obtain ⟨hn9, hz⟩ := nine_ten o h.1 h.2
    simp only [decide_eq_true h, if_true, if_pos h, if_pos (show 0 ≤ o by omega), List.length_cons, List.length_nil, if_pos (show o < (((0 + 1 + 1 + 1 + 1 + 1 + 1 + 1 + 1 + 1 + 1 : Nat)) : Int) by omega), spec_l14Puts.f, spec_in, Option.bind_some]
    have hr : rdOf ByteArray.empty [(⟨#[]⟩ : ByteArray), (⟨#[99, 111, 110, 115, 116]⟩ : ByteArray), (⟨#[99, 111, 112, 121]⟩ : ByteArray), (⟨#[111, 110, 101]⟩ : ByteArray), (⟨#[116, 119, 111]⟩ : ByteArray), (⟨#[99, 104, 97, 105, 110]⟩ : ByteArray), (⟨#[115, 104, 111, 119]⟩ : ByteArray), (⟨#[100, 114, 111, 112]⟩ : ByteArray), (⟨#[108, 111, 111, 112]⟩ : ByteArray), (⟨#[101, 110, 100]⟩ : ByteArray)] o = rdOf ByteArray.empty nine (o - 1) := hn9
    rw [hr]
    generalize rdOf ByteArray.empty nine (o - 1) = y at hz
    unfold toOf
    by_cases h5 : 1 ≤ o ∧ o ≤ 5
    · have dt := dec_size t ht.1 ht.2
      obtain ⟨g1, g2⟩ := one_more (x := y) (p := dec t) (by omega) (by omega)
      simp only [decide_eq_true h5, if_true, if_pos h5, if_pos g1]
      refine Ev.bind (spec_dec t ht.1 ht.2) ?_
      simp only [if_pos (show (y ++ (⟨#[32]⟩ : ByteArray)).size + (⟨(Lib.itoa t).toArray⟩ : ByteArray).size ≤ 9223372036854775807 from g2)]
      have e : (y ++ (⟨#[32]⟩ : ByteArray)) ++ dec t = outB y [dec t] := by
        have := outB_snoc y [] (dec t)
        rw [outB_nil] at this
        exact this
      rw [show (⟨(Lib.itoa t).toArray⟩ : ByteArray) = dec t from rfl, e]
      exact spec_j0 y hz [dec t] (Nat.le_refl _) (fun p hp => by rw [List.mem_singleton.1 hp]; exact dt) o t h.1 h.2 l hl hw kd c n s hk hc hn hs
    · simp only [decide_eq_false h5, Bool.false_eq_true, if_false, if_neg h5]
      have := spec_j0 y hz [] (Nat.zero_le _) (fun p hp => by cases hp) o t h.1 h.2 l hl hw kd c n s hk hc hn hs
      rw [outB_nil] at this
      exact this
  · simp only [decide_eq_false h, Bool.false_eq_true, if_false, if_neg h]
    exact Ev.now _
theorem impl_args (o : Int) : ∃ a b, Ev (fun k => impl_argsOf.f k o) (a, b) ∧ (b > 0 ↔ (o = 2 ∨ o = 3 ∨ o = 4 ∨ o = 5 ∨ o = 6 ∨ o = 7)) := by
  have J : ∀ q : Bool, q = decide (o = 2 ∨ o = 3 ∨ o = 6 ∨ o = 7) → ∃ a b, Ev (fun k => impl_argsOf.j0 k o q) (a, b) ∧ (b > 0 ↔ (o = 2 ∨ o = 3 ∨ o = 4 ∨ o = 5 ∨ o = 6 ∨ o = 7)) := by
    intro q hq
    by_cases h : o = 2 ∨ o = 3 ∨ o = 6 ∨ o = 7
    · rw [decide_eq_true h] at hq
      subst hq
      refine ⟨1, 1, ?_, by omega⟩
      refine Ev.step (fun k => impl_argsOf.j0.eq_2 o true k) ?_
      simp only [if_true]
      exact Ev.now _
    · rw [decide_eq_false h] at hq
      subst hq
      by_cases h4 : o = 4
      · refine ⟨2, 2, ?_, by omega⟩
        refine Ev.step (fun k => impl_argsOf.j0.eq_2 o false k) ?_
        simp only [Bool.false_eq_true, if_false, if_pos h4]
        exact Ev.now _
      · by_cases h5 : o = 5
        · refine ⟨2, 7, ?_, by omega⟩
          refine Ev.step (fun k => impl_argsOf.j0.eq_2 o false k) ?_
          simp only [Bool.false_eq_true, if_false, if_neg h4, if_pos h5]
          exact Ev.now _
        · refine ⟨0, 0, ?_, by omega⟩
          refine Ev.step (fun k => impl_argsOf.j0.eq_2 o false k) ?_
          simp only [Bool.false_eq_true, if_false, if_neg h4, if_neg h5]
          exact Ev.now _
  unfold impl_argsOf.f
  by_cases h2 : o = 2
  · simp only [if_pos h2]
    exact J _ (by simp [h2])
  · by_cases h3 : o = 3
    · simp only [if_neg h2, if_pos h3]
      exact J _ (by simp [h3])
    · by_cases h6 : o = 6
      · simp only [if_neg h2, if_neg h3, if_pos h6]
        exact J _ (by simp [h6])
      · simp only [if_neg h2, if_neg h3, if_neg h6]
        exact J _ (by simp [h2, h3, h6]; rfl)
theorem impl_j0 (y : ByteArray) (hy : y.size ≤ 100) (ps : List ByteArray) (hp : ps.length ≤ 1) (hps : ∀ p ∈ ps, p.size ≤ 30) (o t : Int) (h0 : 1 ≤ o) (h9 : o ≤ 9) (l : List Int) (hl : l.length ≤ 1048576) (hw : ∀ z ∈ l, I64 z) (kd c n : Int) (s : ByteArray) (hk : I64 kd) (hc : I64 c) (hn : I64 n) (hs : s.size ≤ 10000000) :
    Ev (fun k => impl_ShowStep.j0 k (y :: ps) o t l kd c n s) (outB y (ps ++ argsOf o l ++ tailOf o kd c n s)) := by
  have hsz : ∀ p ∈ ps ++ argsOf o l, p.size ≤ 10000000 := by
    intro p hp'
    rcases List.mem_append.1 hp' with h | h
    · exact Nat.le_trans (hps p h) (by decide)
    · exact Nat.le_trans (args_size o l hw p h) (by decide)
  have hlen : (ps ++ argsOf o l).length ≤ 10000000 := by
    have := args_len o l
    rw [List.length_append]
    omega
  have H := impl_j2 y (ps ++ argsOf o l) (by omega) hsz hlen o t l kd c n s hk hc hn hs
  obtain ⟨a, b, hab, hb⟩ := impl_args o
  refine Ev.step (fun k => impl_ShowStep.j0.eq_2 (y :: ps) o t l kd c n s k) ?_
  refine Ev.bind hab ?_
  by_cases h : b > 0
  · have ha : argsOf o l = l.map dec := by
      unfold argsOf
      rw [if_neg (by have := hb.1 h; omega)]
    simp only [if_pos h]
    rw [ha] at H ⊢
    exact impl_l0 o t l hl hw kd c n s _ l.length 0 (y :: ps) (by omega) (by rw [List.length_cons]; omega) (by rw [List.drop_zero, List.cons_append]; exact H)
  · have ha : argsOf o l = [] := by
      unfold argsOf
      rw [if_pos (by
        have hnot : ¬ (o = 2 ∨ o = 3 ∨ o = 4 ∨ o = 5 ∨ o = 6 ∨ o = 7) := fun hh => h (hb.2 hh)
        omega)]
    simp only [if_neg h]
    rw [ha, List.append_nil] at H ⊢
    exact H
theorem impl_show (o t : Int) (ht : I64 t) (l : List Int) (hl : l.length ≤ 1048576) (hw : ∀ z ∈ l, I64 z) (kd c n : Int) (s : ByteArray) (hk : I64 kd) (hc : I64 c) (hn : I64 n) (hs : s.size ≤ 10000000) :
    Ev (fun k => impl_ShowStep.f k o t l kd c n s) (said o t l kd c n s) := by
  unfold impl_ShowStep.f said
  simp only [impl_in, Option.bind_some]
  by_cases h : 1 ≤ o ∧ o ≤ 9
  · obtain ⟨_, hz⟩ := nine_ten o h.1 h.2
    have e1 : wrap64 (o - 1) = o - 1 := w64 (by omega) (by omega)
    simp only [decide_eq_true h, if_true, if_pos h, e1, if_pos (show 0 ≤ o - 1 by omega), List.length_cons, List.length_nil, if_pos (show o - 1 < (((0 + 1 + 1 + 1 + 1 + 1 + 1 + 1 + 1 + 1 : Nat)) : Int) by omega), impl_hasTo.f, impl_in, Option.bind_some]
    have hr : rdOf ByteArray.empty [(⟨#[99, 111, 110, 115, 116]⟩ : ByteArray), (⟨#[99, 111, 112, 121]⟩ : ByteArray), (⟨#[111, 110, 101]⟩ : ByteArray), (⟨#[116, 119, 111]⟩ : ByteArray), (⟨#[99, 104, 97, 105, 110]⟩ : ByteArray), (⟨#[115, 104, 111, 119]⟩ : ByteArray), (⟨#[100, 114, 111, 112]⟩ : ByteArray), (⟨#[108, 111, 111, 112]⟩ : ByteArray), (⟨#[101, 110, 100]⟩ : ByteArray)] (o - 1) = rdOf ByteArray.empty nine (o - 1) := rfl
    rw [hr]
    generalize rdOf ByteArray.empty nine (o - 1) = y at hz
    unfold toOf
    by_cases h5 : 1 ≤ o ∧ o ≤ 5
    · have dt := dec_size t ht.1 ht.2
      simp only [decide_eq_true h5, if_true, if_pos h5, impl_dec t ht.1 ht.2, Option.bind_some, if_pos (show 0 + 1 < 8796093022208 by decide)]
      exact impl_j0 y hz [dec t] (Nat.le_refl _) (fun p hp => by rw [List.mem_singleton.1 hp]; exact dt) o t h.1 h.2 l hl hw kd c n s hk hc hn hs
    · simp only [decide_eq_false h5, Bool.false_eq_true, if_false, if_neg h5]
      exact impl_j0 y hz [] (Nat.zero_le _) (fun p hp => by cases hp) o t h.1 h.2 l hl hw kd c n s hk hc hn hs
  · simp only [decide_eq_false h, Bool.false_eq_true, if_false, if_neg h]
    exact Ev.now _
theorem toInt_l0 (xs : List Int) (hx : xs.length ≤ 140737488351232) (n : Nat) : ∀ (i : Int) (ys : List Int), 0 ≤ i → i + n = xs.length → ys.length = xs.length → (∀ j, j < i.toNat → ys[j]? = xs[j]?) →
    Ev (fun k => laws_toIntS.l0 k xs ys i) xs := by
  induction n with
  | zero =>
    intro i ys h0 hn hl H
    refine Ev.step (fun k => laws_toIntS.l0.eq_2 xs ys i k) ?_
    simp only [if_neg (show ¬ i < (xs.length : Int) by omega)]
    have e : ys = xs := by
      apply List.ext_getElem?
      intro j
      by_cases hj : j < i.toNat
      · exact H j hj
      · rw [List.getElem?_eq_none (by omega), List.getElem?_eq_none (by omega)]
    rw [e]
    exact Ev.now _
  | succ n ih =>
    intro i ys h0 hn hl H
    refine Ev.step (fun k => laws_toIntS.l0.eq_2 xs ys i k) ?_
    simp only [if_pos (show i < (xs.length : Int) by omega), if_pos h0, if_pos (show i < (ys.length : Int) by omega)]
    rw [w64 (by omega) (by omega)]
    refine ih (i + 1) _ (by omega) (by omega) (by rw [List.length_set]; exact hl) (fun j hj => ?_)
    rw [List.getElem?_set]
    by_cases e : i.toNat = j
    · subst e
      rw [if_pos rfl, if_pos (by omega)]
      unfold rd
      rw [List.getD_eq_getElem?_getD, List.getElem?_eq_getElem (by omega)]
      rfl
    · rw [if_neg e]
      exact H j (by omega)
theorem toInt (xs : List Int) (hx : xs.length * 8 ≤ 140737488351232) : Ev (fun k => laws_toIntS.f k xs) xs := by
  unfold laws_toIntS.f
  simp only [if_pos (show (0 : Int) ≤ (xs.length : Int) by omega), Int.toNat_natCast, if_pos (show xs.length ≤ 35184372088832 by omega)]
  exact toInt_l0 xs (by omega) xs.length 0 _ (by omega) (by omega) (by rw [List.length_replicate]) (fun j hj => by omega)
theorem eqInt_l0 (xs : List Int) (hx : xs.length ≤ 140737488351232) (n : Nat) : ∀ (i : Int), 0 ≤ i → i + n = xs.length → Ev (fun k => laws_eqIntS.l0 k xs xs i) true := by
  induction n with
  | zero =>
    intro i h0 hn
    refine Ev.step (fun k => laws_eqIntS.l0.eq_2 xs xs i k) ?_
    simp only [if_neg (show ¬ i < (xs.length : Int) by omega)]
    exact Ev.now _
  | succ n ih =>
    intro i h0 hn
    refine Ev.step (fun k => laws_eqIntS.l0.eq_2 xs xs i k) ?_
    simp only [if_pos (show i < (xs.length : Int) by omega), if_pos h0, if_true]
    rw [w64 (by omega) (by omega)]
    exact ih (i + 1) (by omega) (by omega)
theorem eqInt (xs : List Int) (hx : xs.length * 8 ≤ 140737488351232) : Ev (fun k => laws_eqIntS.f k xs xs) true := by
  unfold laws_eqIntS.f
  simp only [if_true]
  exact eqInt_l0 xs (by omega) xs.length 0 (by omega) (by omega)
end ShowStep
open ShowStep in
theorem FnExactShowStep (o t : Int) (l : List Int) (kd c n : Int) (s : ByteArray) (ht : I64 t) (hl : l.length ≤ maxLen) (hw : ∀ z ∈ l, I64 z) (hk : I64 kd) (hc : I64 c) (hn : I64 n) (hs : s.size ≤ maxLen) :
    ∃ k, laws_FnExactShowStep.f k o t l kd c n s = some true := by
  have hm : maxLen = 9223372036854775807 := rfl
  refine Ev.rounds ?_
  unfold laws_FnExactShowStep.f laws_szStep.f laws_szIntS.f
  have e1 : wrap64 (1048576 - (l.length : Int)) = 1048576 - (l.length : Int) := w64 (by omega) (by omega)
  simp only [e1]
  by_cases h1 : 1048576 - (l.length : Int) < 0
  · simp only [if_pos h1, Option.bind_some, if_pos (show (-1 : Int) < 0 by decide)]
    exact Ev.now _
  · have e2 : wrap64 (1048576 - (l.length : Int) - (s.size : Int)) = 1048576 - (l.length : Int) - (s.size : Int) := w64 (by omega) (by omega)
    simp only [if_neg h1, Option.bind_some, e2]
    by_cases h2 : 1048576 - (l.length : Int) - (s.size : Int) < 0
    · simp only [if_pos h2, Option.bind_some, if_pos (show (-1 : Int) < 0 by decide)]
      exact Ev.now _
    · simp only [if_neg h2, Option.bind_some]
      have hT : Ev (fun k => laws_toStep.f k o t l kd c n s) (o, t, l, kd, c, n, s) := by
        unfold laws_toStep.f
        refine Ev.bind (toInt l (by omega)) ?_
        exact Ev.now _
      have hE : Ev (fun k => laws_eqStep.f k o t l kd c n s o t l kd c n s) true := by
        unfold laws_eqStep.f
        simp only [if_true]
        refine Ev.bind (eqInt l (by omega)) ?_
        simp only [if_true]
        exact Ev.now _
      refine Ev.bind hT ?_
      refine Ev.bind (spec_show o t ht l (by omega) hw kd c n s hk hc hn (by omega)) ?_
      refine Ev.bind hT ?_
      refine Ev.bind (impl_show o t ht l (by omega) hw kd c n s hk hc hn (by omega)) ?_
      simp only [if_true]
      refine Ev.bind hT ?_
      refine Ev.bind hE ?_
      simp only [if_true]
      exact Ev.now _
end Go.Proofs.YtokhjlaomgimmaaDoor.Pure
