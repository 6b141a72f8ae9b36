/- The program's PartsOf and the reference's give one answer, for every text; the answer's memory is its own. -/
import Derived.Test.YtokhjlaomgimmaaDoorQFnExactPartsOfx3
import Derived.Test.YtokhjlaomgimmaaDoorDecLib
import Derived.Lib.SplitLaws
namespace Go.Proofs.YtokhjlaomgimmaaDoor.Pure
open Go.RowKit Go.Proofs.YtokhjlaomgimmaaDoor.PFnExactPartsOf Go.Proofs.YtokhjlaomgimmaaDoorW.PrintWords Go.Proofs.YtokhjlaomgimmaaDoorW.PrintLast Go.Proofs.YtokhjlaomgimmaaDoor.Lib
set_option linter.unusedSimpArgs false
set_option linter.unusedVariables false
namespace PartsOf
def mk (l : List UInt8) : ByteArray := ⟨l.toArray⟩
theorem mk_of (s : ByteArray) : mk s.toList = s := by
  apply ba_ext
  exact mk_list _
/-- The pieces between blanks, the empty ones too. -/
def pieces : List UInt8 → List UInt8 → List (List UInt8)
  | cur, [] => [cur]
  | cur, b :: l => if b = 32 then cur :: pieces [] l else pieces (cur ++ [b]) l
def full (x : List UInt8) : Bool := !x.isEmpty
def parts (cur l : List UInt8) : List (List UInt8) := (pieces cur l).filter full
theorem pieces_len (l : List UInt8) : ∀ cur, (pieces cur l).length ≤ l.length + 1 := by
  induction l with
  | nil => intro cur; exact Nat.le_refl _
  | cons b l ih =>
    intro cur
    unfold pieces
    split
    · have := ih []
      simp only [List.length_cons]
      omega
    · have := ih (cur ++ [b])
      simp only [List.length_cons]
      omega
theorem pieces_clean (p : List UInt8) : ∀ cur, (32 : UInt8) ∉ p → pieces cur p = [cur ++ p] := by
  induction p with
  | nil => intro cur _; rw [pieces, List.append_nil]
  | cons b p ih =>
    intro cur h
    rw [pieces, if_neg (fun e => h (by rw [e]; exact List.mem_cons_self)), ih _ (fun e => h (List.mem_cons_of_mem _ e)), List.append_assoc]
    rfl
theorem pieces_cut (p q : List UInt8) : ∀ cur, (32 : UInt8) ∉ p → pieces cur (p ++ 32 :: q) = (cur ++ p) :: pieces [] q := by
  induction p with
  | nil => intro cur _; rw [List.nil_append, pieces, if_pos rfl, List.append_nil]
  | cons b p ih =>
    intro cur h
    rw [List.cons_append, pieces, if_neg (fun e => h (by rw [e]; exact List.mem_cons_self)), ih _ (fun e => h (List.mem_cons_of_mem _ e)), List.append_assoc]
    rfl
theorem index_one (c : UInt8) : ∀ l : List UInt8, (Lib.index l [c] = -1 ∧ c ∉ l) ∨ ∃ p q, l = p ++ c :: q ∧ c ∉ p ∧ Lib.index l [c] = (p.length : Int)
  | [] => .inl ⟨rfl, by simp⟩
  | b :: l => by
    by_cases h : b = c
    · subst h
      refine .inr ⟨[], l, rfl, by simp, ?_⟩
      rw [Lib.index]
      simp [List.isPrefixOf]
    · have hp : ([c] : List UInt8).isPrefixOf (b :: l) = false := by simp [List.isPrefixOf, Ne.symm h]
      have hix : Lib.index (b :: l) [c] = if Lib.index l [c] == -1 then -1 else Lib.index l [c] + 1 := by rw [Lib.index, hp]; simp
      rcases index_one c l with ⟨e, hn⟩ | ⟨p, q, rfl, hn, e⟩
      · refine .inl ⟨?_, ?_⟩
        · rw [hix, if_pos (beq_iff_eq.2 e)]
        · simp only [List.mem_cons, not_or]
          exact ⟨Ne.symm h, hn⟩
      · refine .inr ⟨b :: p, q, rfl, ?_, ?_⟩
        · simp only [List.mem_cons, not_or]
          exact ⟨Ne.symm h, hn⟩
        · rw [hix, e, if_neg (fun e' => by have := beq_iff_eq.1 e'; omega), List.length_cons]
          omega
theorem split_pieces (n : Nat) : ∀ s : ByteArray, s.size ≤ n → (Lib.splitB ⟨#[32]⟩ 0 (Lib.countB s ⟨#[32]⟩) s).map (·.toList) = pieces [] s.toList := by
  induction n with
  | zero =>
    intro s hs
    have hz : s.toList = [] := List.eq_nil_of_length_eq_zero (by rw [← size_list]; omega)
    have hi : Lib.indexB s ⟨#[32]⟩ = -1 := by
      show Lib.index s.data.toList [32] = -1
      rw [← ByteArray.toList_eq, hz]
      rfl
    rw [Lib.splitB_miss _ _ _ _ hi, hz]
    simp [pieces, hz]
  | succ n ih =>
    intro s hs
    rcases index_one 32 s.data.toList with ⟨e, hn⟩ | ⟨p, q, e, hn, hi⟩
    · have hi : Lib.indexB s ⟨#[32]⟩ = -1 := e
      rw [Lib.splitB_miss _ _ _ _ hi]
      rw [← ByteArray.toList_eq] at hn
      rw [pieces_clean _ _ hn]
      rfl
    · have hi' : Lib.indexB s ⟨#[32]⟩ = (p.length : Int) := hi
      rw [← ByteArray.toList_eq] at e
      have hsz : s.size = p.length + q.length + 1 := by
        rw [size_list, e, List.length_append, List.length_cons]
        omega
      rw [Lib.countB_hit s ⟨#[32]⟩ p.length (by decide) hi', Nat.add_comm 1, Lib.splitB_hit _ _ _ _ _ hi']
      have hsep : (⟨#[32]⟩ : ByteArray).size = 1 := rfl
      rw [hsep]
      have hq : (s.extract (p.length + 1) s.size).toList = q := by
        rw [ext_list, e, hsz]
        rw [show p ++ 32 :: q = (p ++ [32]) ++ q by simp, List.drop_left' (by simp), List.take_of_length_le (by omega)]
      have hp : (s.extract 0 (p.length + 0)).toList = p := by
        rw [ext_list, e]
        simp
      rw [List.map_cons, ih _ (by rw [size_list, hq]; omega), hq, hp, e, pieces_cut _ _ _ hn]
      rfl
def fullB (x : ByteArray) : Bool := full x.toList
theorem filter_mk (xs : List ByteArray) (ys : List (List UInt8)) (h : xs.map (·.toList) = ys) : xs.filter fullB = (ys.filter full).map mk := by
  subst h
  rw [List.filter_map, List.map_map]
  have : (mk ∘ fun x : ByteArray => x.toList) = id := by
    funext x
    exact mk_of x
  rw [this, List.map_id]
  rfl
def fin (out : List ByteArray) : List ByteArray × Bool := if (out.length : Int) > 8 then ([], false) else (out, true)
def good (l : List UInt8) : Bool := l.all fun c => decide (32 ≤ c.toNat) && decide (c.toNat ≤ 126)
/-- What both say. -/
def told (s : ByteArray) : List ByteArray × Bool := if good s.toList = true then fin ((parts [] s.toList).map mk) else ([], false)
theorem drop_at (s : ByteArray) (i : Nat) (h : i < s.size) : ∃ c : UInt8, s.toList.drop i = c :: s.toList.drop (i + 1) ∧ bt s (i : Int) = (c.toNat : Int) := by
  have h' : i < s.toList.length := by
    rw [← size_list]
    exact h
  refine ⟨s.toList[i], List.drop_eq_getElem_cons h', ?_⟩
  rw [bt_list, List.getD_eq_getElem?_getD, List.getElem?_eq_getElem h']
  rfl
theorem impl_l1 (xs : List ByteArray) (hx : xs.length ≤ 100000) (n : Nat) : ∀ (i : Nat) (acc : List ByteArray), i + n = xs.length → acc.length ≤ i →
    Ev (fun k => impl_PartsOf.l1 k acc xs (xs.length : Int) (i : Int)) (fin (acc ++ (xs.drop i).filter fullB)) := by
  induction n with
  | zero =>
    intro i acc hi ha
    refine Ev.step (fun k => impl_PartsOf.l1.eq_2 acc xs _ _ k) ?_
    rw [List.drop_of_length_le (by omega)]
    simp only [if_neg (show ¬ (i : Int) < (xs.length : Int) by omega), List.filter_nil, List.append_nil]
    unfold fin
    split
    · exact Ev.now _
    · exact Ev.now _
  | succ n ih =>
    intro i acc hi ha
    have hl : i < xs.length := by omega
    have e1 : wrap64 ((i : Int) + 1) = ((i + 1 : Nat) : Int) := by
      rw [w64 (by omega) (by omega)]
      omega
    have er : rdOf ByteArray.empty xs (i : Int) = xs[i] := by
      unfold rdOf
      rw [Int.toNat_natCast, List.getD_eq_getElem?_getD, List.getElem?_eq_getElem hl]
      rfl
    refine Ev.step (fun k => impl_PartsOf.l1.eq_2 acc xs _ _ k) ?_
    rw [List.drop_eq_getElem_cons hl]
    simp only [if_pos (show (i : Int) < (xs.length : Int) by omega), if_pos (show (0 : Int) ≤ (i : Int) by omega), er, e1]
    by_cases hz : xs[i].toList = []
    · have hf : fullB xs[i] = false := by
        unfold fullB full
        rw [hz]
        rfl
      simp only [if_pos hz, List.filter_cons, hf, Bool.false_eq_true, if_false]
      exact ih (i + 1) acc (by omega) (by omega)
    · have hf : fullB xs[i] = true := by
        unfold fullB full
        cases h : xs[i].toList with
        | nil => exact absurd h hz
        | cons _ _ => rfl
      simp only [if_neg hz, List.filter_cons, hf, if_true, if_pos (show acc.length < 8796093022208 by omega)]
      have := ih (i + 1) (acc ++ [xs[i]]) (by omega) (by rw [List.length_append, List.length_singleton]; omega)
      simpa only [List.append_assoc, List.cons_append, List.nil_append] using this
theorem impl_l0 (s : ByteArray) (hs : s.size ≤ 300) (n : Nat) : ∀ i : Nat, i + n = s.size →
    Ev (fun k => impl_PartsOf.l0 k s (i : Int)) (if good (s.toList.drop i) = true then fin ((parts [] s.toList).map mk) else ([], false)) := by
  induction n with
  | zero =>
    intro i hi
    refine Ev.step (fun k => impl_PartsOf.l0.eq_2 s _ k) ?_
    rw [List.drop_of_length_le (by rw [← size_list]; omega)]
    have hg : good [] = true := rfl
    have hp := split_pieces s.size s (Nat.le_refl _)
    have hf := filter_mk _ _ hp
    have hlen : (Lib.splitB ⟨#[32]⟩ 0 (Lib.countB s ⟨#[32]⟩) s).length ≤ 301 := by
      have h1 := pieces_len s.toList []
      rw [← hp, List.length_map, ← size_list] at h1
      omega
    have hF : strings_Split.f s (⟨#[32]⟩ : ByteArray) = some (Lib.splitB ⟨#[32]⟩ 0 (Lib.countB s ⟨#[32]⟩) s) := by
      unfold strings_Split.f splitF
      rw [if_pos ⟨by omega, by decide⟩]
    have L1 := impl_l1 _ (Nat.le_trans hlen (by decide)) (Lib.splitB ⟨#[32]⟩ 0 (Lib.countB s ⟨#[32]⟩) s).length 0 [] (by omega) (Nat.le_refl _)
    rw [List.drop_zero, hf, List.nil_append] at L1
    simp only [if_neg (show ¬ (i : Int) < (s.size : Int) by omega), hF, Option.bind_some, if_pos hg]
    exact L1
  | succ n ih =>
    intro i hi
    obtain ⟨c, hd, hb⟩ := drop_at s i (by omega)
    have e1 : wrap64 ((i : Int) + 1) = ((i + 1 : Nat) : Int) := by
      rw [w64 (by omega) (by omega)]
      omega
    refine Ev.step (fun k => impl_PartsOf.l0.eq_2 s _ k) ?_
    rw [hd]
    simp only [if_pos (show (i : Int) < (s.size : Int) by omega), if_pos (show (0 : Int) ≤ (i : Int) by omega), hb, e1]
    by_cases h1 : (c.toNat : Int) < 32
    · have hg : ¬ good (c :: s.toList.drop (i + 1)) = true := by
        unfold good
        simp only [List.all_cons, Bool.and_eq_true, decide_eq_true_eq]
        omega
      simp only [if_pos h1, if_neg hg]
      exact Ev.now _
    · by_cases h2 : (c.toNat : Int) > 126
      · have hg : ¬ good (c :: s.toList.drop (i + 1)) = true := by
          unfold good
          simp only [List.all_cons, Bool.and_eq_true, decide_eq_true_eq]
          omega
        simp only [if_neg h1, if_pos h2, if_neg hg]
        exact Ev.now _
      · have hg : good (c :: s.toList.drop (i + 1)) = good (s.toList.drop (i + 1)) := by
          unfold good
          rw [List.all_cons, decide_eq_true (show 32 ≤ c.toNat by omega), decide_eq_true (show c.toNat ≤ 126 by omega)]
          rfl
        simp only [if_neg h1, if_neg h2, hg]
        exact ih (i + 1) (by omega)
theorem impl_parts (s : ByteArray) : Ev (fun k => impl_PartsOf.f k s) (if (s.size : Int) > 300 then ([], false) else told s) := by
  unfold impl_PartsOf.f
  by_cases h : (s.size : Int) > 300
  · simp only [if_pos h]
    exact Ev.now _
  · simp only [if_neg h]
    have := impl_l0 s (by omega) s.size 0 (by omega)
    rw [List.drop_zero] at this
    exact this
theorem spec_end (s : ByteArray) (acc : List ByteArray) (b i : Int) (h : (s.size : Int) < i) : Ev (fun k => spec_PartsOf.l0 k s acc b i) (fin acc) := by
  refine Ev.step (fun k => spec_PartsOf.l0.eq_2 s acc b i k) ?_
  simp only [if_neg (show ¬ i ≤ (s.size : Int) by omega)]
  unfold fin
  split
  · exact Ev.now _
  · exact Ev.now _
theorem parts_nil (cur : List UInt8) : parts cur [] = if cur = [] then [] else [cur] := by
  unfold parts
  rw [pieces]
  cases cur <;> rfl
theorem parts_cons (cur : List UInt8) (c : UInt8) (l : List UInt8) (h : c ≠ 32) : parts cur (c :: l) = parts (cur ++ [c]) l := by
  unfold parts
  rw [pieces, if_neg h]
theorem parts_cut (cur : List UInt8) (l : List UInt8) : parts cur (32 :: l) = (if cur = [] then [] else [cur]) ++ parts [] l := by
  unfold parts
  rw [pieces, if_pos rfl]
  cases cur <;> rfl
theorem cur_len (s : ByteArray) (b i : Nat) (hi : i ≤ s.size) : ((s.toList.drop b).take (i - b)).length = i - b := by
  rw [List.length_take, List.length_drop, ← size_list]
  omega
theorem ext_mk (s : ByteArray) (b i : Nat) : s.extract b i = mk ((s.toList.drop b).take (i - b)) := by
  apply ba_ext
  rw [ext_list]
  exact (mk_list _).symm
theorem spec_l0 (s : ByteArray) (hs : s.size ≤ 300) (n : Nat) : ∀ (i b : Nat) (acc : List ByteArray), i + n = s.size → b ≤ i → acc.length ≤ i →
    Ev (fun k => spec_PartsOf.l0 k s acc (b : Int) (i : Int)) (if good (s.toList.drop i) = true then fin (acc ++ (parts ((s.toList.drop b).take (i - b)) (s.toList.drop i)).map mk) else ([], false)) := by
  induction n with
  | zero =>
    intro i b acc hi hb ha
    have e1 : wrap64 ((i : Int) + 1) = (i : Int) + 1 := w64 (by omega) (by omega)
    have hc := cur_len s b i (by omega)
    have hx := ext_mk s b i
    rw [List.drop_of_length_le (show s.toList.length ≤ i by rw [← size_list]; omega), parts_nil]
    have hg : good [] = true := rfl
    simp only [if_pos hg]
    refine Ev.step (fun k => spec_PartsOf.l0.eq_2 s acc _ _ k) ?_
    simp only [if_pos (show (i : Int) ≤ (s.size : Int) by omega), if_neg (show ¬ (i : Int) < (s.size : Int) by omega)]
    refine Ev.step (fun k => spec_PartsOf.j1.eq_2 s acc _ _ false k) ?_
    simp only [Bool.false_eq_true, if_false, if_neg (show ¬ (i : Int) < (s.size : Int) by omega)]
    refine Ev.step (fun k => spec_PartsOf.j2.eq_2 s acc _ _ false k) ?_
    by_cases hlt : b < i
    · have hne : ¬ (s.toList.drop b).take (i - b) = [] := by
        intro h
        rw [h] at hc
        simp only [List.length_nil] at hc
        omega
      simp only [Bool.false_eq_true, if_false, if_pos (show (b : Int) < (i : Int) by omega), if_pos (show (0 : Int) ≤ (b : Int) by omega), if_pos (show (b : Int) ≤ (i : Int) by omega), if_pos (show (i : Int) ≤ (s.size : Int) by omega), if_pos (show acc.length < 8796093022208 by omega), e1, Int.toNat_natCast, hx, if_neg hne, List.map_cons, List.map_nil]
      exact spec_end s _ _ _ (by omega)
    · have he : (s.toList.drop b).take (i - b) = [] := by
        rw [show i - b = 0 by omega, List.take_zero]
      simp only [Bool.false_eq_true, if_false, if_neg (show ¬ (b : Int) < (i : Int) by omega), e1, if_pos he, List.map_nil, List.append_nil]
      exact spec_end s _ _ _ (by omega)
  | succ n ih =>
    intro i b acc hi hb ha
    have e1 : wrap64 ((i : Int) + 1) = ((i + 1 : Nat) : Int) := by
      rw [w64 (by omega) (by omega)]
      omega
    have hc := cur_len s b i (by omega)
    have hx := ext_mk s b i
    obtain ⟨c, hd, hbt⟩ := drop_at s i (by omega)
    rw [hd]
    refine Ev.step (fun k => spec_PartsOf.l0.eq_2 s acc _ _ k) ?_
    simp only [if_pos (show (i : Int) ≤ (s.size : Int) by omega), if_pos (show (i : Int) < (s.size : Int) by omega), if_pos (show (0 : Int) ≤ (i : Int) by omega), hbt]
    have J1 : ¬ good (c :: s.toList.drop (i + 1)) = true → Ev (fun k => spec_PartsOf.j1 k s acc (b : Int) (i : Int) true) ([], false) := by
      intro hg
      refine Ev.step (fun k => spec_PartsOf.j1.eq_2 s acc _ _ true k) ?_
      simp only [if_true]
      exact Ev.now _
    by_cases h1 : (c.toNat : Int) < 32
    · have hg : ¬ good (c :: s.toList.drop (i + 1)) = true := by
        unfold good
        simp only [List.all_cons, Bool.and_eq_true, decide_eq_true_eq]
        omega
      simp only [if_pos h1, if_neg hg]
      exact J1 hg
    · by_cases h2 : (c.toNat : Int) > 126
      · have hg : ¬ good (c :: s.toList.drop (i + 1)) = true := by
          unfold good
          simp only [List.all_cons, Bool.and_eq_true, decide_eq_true_eq]
          omega
        simp only [if_neg h1, decide_eq_true h2, if_neg hg]
        exact J1 hg
      · have hg : good (c :: s.toList.drop (i + 1)) = good (s.toList.drop (i + 1)) := by
          unfold good
          rw [List.all_cons, decide_eq_true (show 32 ≤ c.toNat by omega), decide_eq_true (show c.toNat ≤ 126 by omega)]
          rfl
        simp only [if_neg h1, decide_eq_false h2, hg]
        refine Ev.step (fun k => spec_PartsOf.j1.eq_2 s acc _ _ false k) ?_
        simp only [Bool.false_eq_true, if_false, if_pos (show (i : Int) < (s.size : Int) by omega), if_pos (show (0 : Int) ≤ (i : Int) by omega), hbt]
        by_cases h3 : c = 32
        · subst h3
          have hb3 : (((32 : UInt8).toNat : Int) != 32) = false := by decide
          rw [hb3, parts_cut]
          refine Ev.step (fun k => spec_PartsOf.j2.eq_2 s acc _ _ false k) ?_
          have hz : ((s.toList.drop (i + 1)).take (i + 1 - (i + 1))) = [] := by rw [Nat.sub_self, List.take_zero]
          by_cases hlt : b < i
          · have hne : ¬ (s.toList.drop b).take (i - b) = [] := by
              intro h
              rw [h] at hc
              simp only [List.length_nil] at hc
              omega
            simp only [Bool.false_eq_true, if_false, if_pos (show (b : Int) < (i : Int) by omega), if_pos (show (0 : Int) ≤ (b : Int) by omega), if_pos (show (b : Int) ≤ (i : Int) by omega), if_pos (show (i : Int) ≤ (s.size : Int) by omega), if_pos (show acc.length < 8796093022208 by omega), e1, Int.toNat_natCast, hx, if_neg hne]
            have := ih (i + 1) (i + 1) (acc ++ [mk ((s.toList.drop b).take (i - b))]) (by omega) (Nat.le_refl _) (by rw [List.length_append, List.length_singleton]; omega)
            rw [hz] at this
            simpa only [List.append_assoc, List.cons_append, List.nil_append, List.map_cons] using this
          · have he : (s.toList.drop b).take (i - b) = [] := by
              rw [show i - b = 0 by omega, List.take_zero]
            simp only [Bool.false_eq_true, if_false, if_neg (show ¬ (b : Int) < (i : Int) by omega), e1, if_pos he, List.nil_append]
            have := ih (i + 1) (i + 1) acc (by omega) (Nat.le_refl _) (by omega)
            rw [hz] at this
            exact this
        · have hb3 : ((c.toNat : Int) != 32) = true := by
            rw [bne_iff_ne]
            intro h
            exact h3 (UInt8.toNat_inj.1 (by have h32 : (32 : UInt8).toNat = 32 := rfl; omega))
          rw [hb3, parts_cons _ _ _ h3]
          refine Ev.step (fun k => spec_PartsOf.j2.eq_2 s acc _ _ true k) ?_
          simp only [if_true, e1]
          have hcur : (s.toList.drop b).take (i - b) ++ [c] = (s.toList.drop b).take (i + 1 - b) := by
            rw [show i + 1 - b = i - b + 1 by omega, List.take_add_one]
            congr 1
            rw [List.getElem?_drop, show b + (i - b) = i by omega]
            have := congrArg List.head? hd
            rw [List.head?_drop] at this
            rw [this]
            rfl
          have := ih (i + 1) b acc (by omega) (by omega) (by omega)
          rw [← hcur] at this
          exact this
theorem spec_parts (s : ByteArray) : Ev (fun k => spec_PartsOf.f k s) (if (s.size : Int) > 300 then ([], false) else told s) := by
  unfold spec_PartsOf.f
  simp only [Option.bind_some]
  by_cases h : (s.size : Int) > 300
  · simp only [if_pos h]
    exact Ev.now _
  · simp only [if_neg h]
    have := spec_l0 s (by omega) s.size 0 0 [] (by omega) (Nat.le_refl _) (Nat.le_refl _)
    rw [List.drop_zero] at this
    exact this
theorem eqS_l0 (xs : List ByteArray) (hx : xs.length ≤ 1048576) (n : Nat) : ∀ (i : Int), 0 ≤ i → i + n = xs.length → Ev (fun k => laws_eqStringS.l0 k xs xs i) true := by
  induction n with
  | zero =>
    intro i h0 hn
    refine Ev.step (fun k => laws_eqStringS.l0.eq_2 xs xs i k) ?_
    simp only [if_neg (show ¬ i < (xs.length : Int) by omega)]
    exact Ev.now _
  | succ n ih =>
    intro i h0 hn
    refine Ev.step (fun k => laws_eqStringS.l0.eq_2 xs xs i k) ?_
    simp only [if_pos (show i < (xs.length : Int) by omega), if_pos h0, if_true]
    rw [w64 (by omega) (by omega)]
    exact ih (i + 1) (by omega) (by omega)
theorem eqS (xs : List ByteArray) (hx : xs.length ≤ 1048576) : Ev (fun k => laws_eqStringS.f k xs xs) true := by
  unfold laws_eqStringS.f
  simp only [if_true]
  exact eqS_l0 xs hx xs.length 0 (by omega) (by omega)
theorem mark_l0 (d : Nat) : ∀ (m : Nat) (t : ByteArray), m < 10 ^ d → m ≤ 1000000 → t.size + d ≤ 1000 → ∃ r, Ev (fun k => laws_markText.l0 k (m : Int) t) r := by
  have base : ∀ t : ByteArray, t.size ≤ 1000 → ∃ r, Ev (fun k => laws_markText.l0 k ((0 : Nat) : Int) t) r := by
    intro t ht
    refine ⟨(⟨#[109]⟩ : ByteArray) ++ t, ?_⟩
    refine Ev.step (fun k => laws_markText.l0.eq_2 _ t k) ?_
    simp only [if_neg (show ¬ ((0 : Nat) : Int) > 0 by decide), if_pos (show 1 + t.size ≤ 9223372036854775807 by omega)]
    exact Ev.now _
  induction d with
  | zero =>
    intro m t hm _ ht
    obtain rfl : m = 0 := by simpa using hm
    exact base t (by omega)
  | succ d ih =>
    intro m t hm h6 ht
    by_cases h0 : m = 0
    · subst h0
      exact base t (by omega)
    · have hq : m / 10 < 10 ^ d := by
        rw [Nat.div_lt_iff_lt_mul (by decide)]
        rw [Nat.pow_succ] at hm
        exact hm
      clear hm
      have hdv : wrap64 (Int.tdiv (m : Int) 10) = ((m / 10 : Nat) : Int) := by
        rw [Int.tdiv_eq_ediv_of_nonneg (by omega), w64 (by omega) (by omega)]
        omega
      have hsz : (strOfNums [wrap64 (48 + Int.tmod (m : Int) 10) % 256]).size = 1 := by
        rw [strOfNums_size]
        rfl
      have hap : (strOfNums [wrap64 (48 + Int.tmod (m : Int) 10) % 256] ++ t).size = 1 + t.size := by
        rw [size_list, append_list, List.length_append, ← size_list, ← size_list, hsz]
      obtain ⟨r, H⟩ := ih (m / 10) (strOfNums [wrap64 (48 + Int.tmod (m : Int) 10) % 256] ++ t) hq (by clear hq; omega) (by clear hq; omega)
      clear hq
      refine ⟨r, ?_⟩
      refine Ev.step (fun k => laws_markText.l0.eq_2 _ t k) ?_
      simp only [if_pos (show (m : Int) > 0 by omega), Option.bind_some, if_pos (show (strOfNums [wrap64 (48 + Int.tmod (m : Int) 10) % 256]).size + t.size ≤ 9223372036854775807 by omega), hdv]
      exact H
theorem mark_some (n : Nat) (h1 : n ≤ 100000) : ∃ r, Ev (fun k => laws_markText.f k (n : Int)) r := by
  unfold laws_markText.f
  by_cases h : (n : Int) ≤ 0
  · refine ⟨⟨#[109, 48]⟩, ?_⟩
    simp only [if_pos h]
    exact Ev.now _
  · obtain ⟨r, H⟩ := mark_l0 6 n ⟨#[]⟩ (Nat.lt_of_le_of_lt h1 (by decide)) (by omega) (by decide)
    refine ⟨r, ?_⟩
    simp only [if_neg h]
    exact H
theorem marks : ∃ T : Nat → ByteArray, ∀ n : Nat, n ≤ 100000 → Ev (fun k => laws_markText.f k (n : Int)) (T n) :=
  ⟨fun n => if h : n ≤ 100000 then Classical.choose (mark_some n h) else ⟨#[]⟩, fun n h => by
    simp only [dif_pos h]
    exact Classical.choose_spec (mark_some n h)⟩
/-- n marks. -/
def marked (T : Nat → ByteArray) (n : Nat) : List ByteArray := (List.range n).map fun j => T (j + 1)
theorem marked_get (T : Nat → ByteArray) (n j : Nat) (h : j < n) : (marked T n)[j]? = some (T (j + 1)) := by
  unfold marked
  rw [List.getElem?_map, List.getElem?_range h]
  rfl
theorem mark_list (T : Nat → ByteArray) (HT : ∀ n : Nat, n ≤ 100000 → Ev (fun k => laws_markText.f k (n : Int)) (T n)) (N : Nat) (hN : N ≤ 1000) (n : Nat) : ∀ (i : Nat) (xs : List ByteArray), i + n = N → xs.length = N → (∀ j, j < i → xs[j]? = some (T (j + 1))) →
    Ev (fun k => laws_markStringS.l0 k xs ((i + 1 : Nat) : Int) (i : Int)) (((N + 1 : Nat) : Int), marked T N) := by
  induction n with
  | zero =>
    intro i xs hi hl hx
    refine Ev.step (fun k => laws_markStringS.l0.eq_2 xs _ _ k) ?_
    simp only [if_neg (show ¬ (i : Int) < (xs.length : Int) by omega)]
    have e : xs = marked T N := by
      apply List.ext_getElem?
      intro j
      by_cases hj : j < N
      · rw [hx j (by omega), marked_get T N j hj]
      · rw [List.getElem?_eq_none (by omega), List.getElem?_eq_none (by unfold marked; rw [List.length_map, List.length_range]; omega)]
    rw [e, show i = N by omega]
    exact Ev.now _
  | succ n ih =>
    intro i xs hi hl hx
    have e1 : wrap64 ((i : Int) + 1) = ((i + 1 : Nat) : Int) := by
      rw [w64 (by omega) (by omega)]
      omega
    have e2 : wrap64 (((i + 1 : Nat) : Int) + 1) = ((i + 1 + 1 : Nat) : Int) := by
      rw [w64 (by omega) (by omega)]
      omega
    refine Ev.step (fun k => laws_markStringS.l0.eq_2 xs _ _ k) ?_
    simp only [if_pos (show (i : Int) < (xs.length : Int) by omega)]
    refine Ev.bind (HT (i + 1) (by omega)) ?_
    simp only [if_pos (show (0 : Int) ≤ (i : Int) by omega), e1, e2, Int.toNat_natCast]
    refine ih (i + 1) _ (by omega) (by rw [List.length_set]; exact hl) (fun j hj => ?_)
    rw [List.getElem?_set]
    by_cases e : i = j
    · subst e
      rw [if_pos rfl, if_pos (by omega)]
    · rw [if_neg e]
      exact hx j (by omega)
theorem held_list (T : Nat → ByteArray) (HT : ∀ n : Nat, n ≤ 100000 → Ev (fun k => laws_markText.f k (n : Int)) (T n)) (N : Nat) (hN : N ≤ 1000) (n : Nat) : ∀ (i : Nat), i + n = N →
    Ev (fun k => laws_heldStringS.l0 k (marked T N) ((i + 1 : Nat) : Int) (i : Int)) ((N + 1 : Nat) : Int) := by
  have hl : (marked T N).length = N := by
    unfold marked
    rw [List.length_map, List.length_range]
  induction n with
  | zero =>
    intro i hi
    refine Ev.step (fun k => laws_heldStringS.l0.eq_2 (marked T N) _ _ k) ?_
    simp only [if_neg (show ¬ (i : Int) < ((marked T N).length : Int) by omega)]
    rw [show i = N by omega]
    exact Ev.now _
  | succ n ih =>
    intro i hi
    have e1 : wrap64 ((i : Int) + 1) = ((i + 1 : Nat) : Int) := by
      rw [w64 (by omega) (by omega)]
      omega
    have e2 : wrap64 (((i + 1 : Nat) : Int) + 1) = ((i + 1 + 1 : Nat) : Int) := by
      rw [w64 (by omega) (by omega)]
      omega
    have er : rdOf ByteArray.empty (marked T N) (i : Int) = T (i + 1) := by
      unfold rdOf
      rw [Int.toNat_natCast, List.getD_eq_getElem?_getD, marked_get T N i (by omega)]
      rfl
    refine Ev.step (fun k => laws_heldStringS.l0.eq_2 (marked T N) _ _ k) ?_
    simp only [if_pos (show (i : Int) < ((marked T N).length : Int) by omega), if_pos (show (0 : Int) ≤ (i : Int) by omega)]
    refine Ev.bind (HT (i + 1) (by omega)) ?_
    simp only [er, if_true, e1, e2]
    exact ih (i + 1) (by omega)
end PartsOf
theorem FnExactPartsOf : laws_FnExactPartsOf.Pure := by
  intro s hs
  refine Ev.rounds ?_
  unfold laws_FnExactPartsOf.f
  by_cases hb : (s.size : Int) > 1048576
  · simp only [if_pos hb]
    exact Ev.now _
  · simp only [if_neg hb]
    have hS := PartsOf.spec_parts s
    have hI := PartsOf.impl_parts s
    have hlen : (if (s.size : Int) > 300 then (([], false) : List ByteArray × Bool) else PartsOf.told s).1.length ≤ 8 := by
      split
      · exact Nat.zero_le _
      · unfold PartsOf.told PartsOf.fin
        split
        · split
          · exact Nat.zero_le _
          · rename_i h
            simp only at h ⊢
            omega
        · exact Nat.zero_le _
    generalize (if (s.size : Int) > 300 then (([], false) : List ByteArray × Bool) else PartsOf.told s) = r at hS hI hlen
    obtain ⟨xs, ok⟩ := r
    simp only at hlen
    have hE := PartsOf.eqS xs (by omega)
    obtain ⟨T, HT⟩ := PartsOf.marks
    have hM := PartsOf.mark_list T HT xs.length (by omega) xs.length 0 xs (by omega) rfl (fun j hj => absurd hj (Nat.not_lt_zero _))
    have hH := PartsOf.held_list T HT xs.length (by omega) xs.length 0 (by omega)
    refine Ev.bind hS ?_
    refine Ev.bind hI ?_
    refine Ev.bind hE ?_
    simp only [if_true, bne_self_eq_false]
    refine Ev.step (fun k => laws_FnExactPartsOf.j0.eq_2 s xs ok xs false k) ?_
    simp only [Bool.false_eq_true, if_false]
    refine Ev.bind (show Ev (fun k => laws_markStringS.f k xs 1) _ from hM) ?_
    refine Ev.bind (show Ev (fun k => laws_heldStringS.f k (PartsOf.marked T xs.length) 1) _ from hH) ?_
    simp only [if_neg (show ¬ ((xs.length + 1 : Nat) : Int) < 0 by omega), if_true]
    refine Ev.bind hI ?_
    refine Ev.bind hE ?_
    simp only [if_true, bne_self_eq_false]
    refine Ev.step (fun k => laws_FnExactPartsOf.j1.eq_2 (PartsOf.marked T xs.length) _ false k) ?_
    simp only [Bool.false_eq_true, if_false]
    refine Ev.bind (show Ev (fun k => laws_heldStringS.f k (PartsOf.marked T xs.length) 1) _ from hH) ?_
    simp only [if_neg (show ¬ ((xs.length + 1 : Nat) : Int) < 0 by omega), if_true]
    exact Ev.now _
end Go.Proofs.YtokhjlaomgimmaaDoor.Pure
