/- impl.orderOf and impl.ChainOrder by hand: the order that the table tells. -/
import Derived.Test.YtokhjlaomgimmaaDoorBests
import Derived.Test.YtokhjlaomgimmaaDoorTabUp
namespace Go.Proofs.YtokhjlaomgimmaaDoor.PFnChains
open Go.RowKit Go.Proofs.YtokhjlaomgimmaaDoorW.PrintWords Go.Proofs.YtokhjlaomgimmaaDoorW.PrintLast Go.Proofs.YtokhjlaomgimmaaDoorW.PrintMore
attribute [local go_sem] max2_int min2_int max_two min_two max_three min_three max_four min_four   -- for this text's walks alone
set_option linter.unusedVariables false
set_option linter.unusedSimpArgs false
def impl_Decimal.f (a0 : Int) : Option ByteArray := itoaF a0
set_option maxHeartbeats 8000000 in
set_option maxRecDepth 100000 in
theorem impl_Decimal.calls (a0 : Int) (r : ByteArray) (w : World) (h : impl_Decimal.f a0 = some r) (HT : Aside0 (TabHere w)) :
    Calls Tryd.prog 22 #[.int .i64 a0] w fun e w' => e = .returned (.string r) ∧ Below w.heap.size w w' := by
  have A2 : Aside0 (itoaF a0 = some r) := ⟨h⟩
  clear h
  go_enter Tryd.func22, Tryd.ntmps22
  go_wp2_with (first | ((with_reducible refine gate_callee (f := 48) rfl ?_); refine goesL_ (some 4) rfl rfl Tryd.func48 (by kernel_rfl) rfl #[.int .i64 a0] rfl (by (try simp only [List.map_toArray, List.map_cons, List.map_nil]); first | done | rfl) ?_; (with_reducible refine (itoa_calls a0 r _ A2.out HT).mono ?_); rintro e w12 ⟨rfl, hb⟩; refine ⟨_, rfl, ?_⟩))
  go_ret
  exact ⟨rfl, by assumption⟩
/-- The bounds at a part of c matrices from f on whose first part has a. -/
def Go_ (t : List Int) (f c a : Int) : Prop := 0 ≤ f ∧ 1 ≤ a ∧ a < c ∧ f + c ≤ 7 ∧ t.length = 112
instance (t : List Int) (f c a : Int) : Decidable (Go_ t f c a) := by unfold Go_; infer_instance
def impl_orderOf.f : Nat → List Int → Int → Int → Option ByteArray
  | 0, _, _, _ => none
  | k + 1, t, f, c => if c = 1 then impl_Decimal.f f else (if Go_ t f c (rd t (16 * f + 2 * c + 1)) then ((impl_orderOf.f k t f (rd t (16 * f + 2 * c + 1))).bind fun a => ((impl_orderOf.f k t (f + rd t (16 * f + 2 * c + 1)) (c - rd t (16 * f + 2 * c + 1))).bind fun b => (if a.size + b.size ≤ 1000 then (some ((((⟨#[40]⟩ : ByteArray) ++ a) ++ b) ++ (⟨#[41]⟩ : ByteArray))) else (none)))) else (none))
theorem impl_orderOf.mono : ∀ k t f c, LeO (impl_orderOf.f k t f c) (impl_orderOf.f (k + 1) t f c)
  | 0, _, _, _ => fun r h => by simp [impl_orderOf.f] at h
  | k + 1, t, f, c => by
    unfold impl_orderOf.f
    repeat' first
      | (with_reducible exact impl_orderOf.mono k _ _ _)
      | (with_reducible exact LeO.refl _)
      | (with_reducible exact LeO.none _)
      | (with_reducible refine LeO.ite ?_ ?_)
      | (with_reducible refine LeO.bind ?_ (fun _ => ?_))
theorem size_app (a b : ByteArray) : (a ++ b).size = a.size + b.size := ByteArray.size_append
set_option maxHeartbeats 8000000 in
set_option maxRecDepth 100000 in
theorem impl_orderOf.calls (k : Nat) : ∀ (g : Nat) (t : List Int) (f c : Int) (r : ByteArray) (w : World) (hg : w.heap[g]? = some (.cells (tabCs t) 61 (0, 0))) (HT : Aside0 (TabHere w)) (h : impl_orderOf.f k t f c = some r),
    Calls Tryd.prog 38 #[.pointer (some ⟨g, 0, none⟩), .int .i64 f, .int .i64 c] w fun e w' => e = .returned (.string r) ∧ Below w.heap.size w w' := by
  induction k with
  | zero =>
    intro g t f c r w hg HT h
    simp [impl_orderOf.f] at h
  | succ k ih =>
    intro g t f c r w hg HT h
    have HB := Aside0.mk (Below.refl w.heap.size w)
    have BT := Aside0.mk hg
    clear hg
    unfold impl_orderOf.f at h
    by_cases c1 : c = 1
    · rw [if_pos c1] at h
      have c1b : (c == 1) = true := beq_iff_eq.mpr c1
      clear c1
      go_enter Tryd.func38, Tryd.ntmps38
      go_wp2_with (first | ((with_reducible refine gate_callee (f := 22) rfl ?_); refine goesL_ (some 11) rfl rfl Tryd.func22 (by kernel_rfl) rfl #[.int .i64 f] rfl (by (try simp only [List.map_toArray, List.map_cons, List.map_nil]); first | done | rfl) ?_; (with_reducible refine (impl_Decimal.calls f r _ h HT).mono ?_); rintro e w12 ⟨rfl, hb⟩; refine ⟨_, rfl, ?_⟩))
      go_ret
      exact ⟨rfl, by assumption⟩
    · rw [if_neg c1] at h
      have c1b : (c == 1) = false := beq_eq_false_iff_ne.mpr c1
      clear c1
      by_cases hG : Go_ t f c (rd t (16 * f + 2 * c + 1))
      · rw [if_pos hG] at h
        obtain ⟨x, hx⟩ : ∃ x, rd t (16 * f + 2 * c + 1) = x := ⟨_, rfl⟩
        rw [hx] at h hG
        replace h := Option.bind_eq_some_iff.mp h
        obtain ⟨a, A1, h⟩ := h
        replace h := Option.bind_eq_some_iff.mp h
        obtain ⟨b, A2, h⟩ := h
        by_cases hs : a.size + b.size ≤ 1000
        · rw [if_pos hs] at h
          obtain rfl := Option.some.inj h
          clear h
          obtain ⟨g0, g1, g2, g3, g4⟩ := hG
          have hc1 : w.cell? ⟨g, f.toNat * 16 + c.toNat * 2 + 1, none⟩ = some (.int .i64 x) := by
            rw [← hx]
            exact tab_cell BT.out g4 (by omega) (by omega) (by omega)
          have e1 : wrap64 (f + x) = f + x := wrap64_id (by omega) (by omega)
          have e2 : wrap64 (c - x) = c - x := wrap64_id (by omega) (by omega)
          have p1 := eq_true (show 0 ≤ f by omega)
          have q1 := eq_true (show f < 7 by omega)
          have p2 := eq_true (show 0 ≤ c by omega)
          have q2 := eq_true (show c < 8 by omega)
          have z1 : (9223372036854775807 < 1 + a.size) = False := eq_false (by omega)
          have z2 : (9223372036854775807 < 1 + a.size + b.size) = False := eq_false (by omega)
          have z3 : (9223372036854775807 < 1 + a.size + b.size + 1) = False := eq_false (by omega)
          have AA1 := Aside0.mk A1
          have AA2 : Aside0 (impl_orderOf.f k t (wrap64 (f + x)) (wrap64 (c - x)) = some b) := Aside0.mk (by rw [e1, e2]; exact A2)
          clear e1 e2
          clear A1 A2 g0 g1 g2 g3 g4 hx hs
          go_enter Tryd.func38, Tryd.ntmps38
          go_wp2_with (first | ((with_reducible refine gate_dst (N := 23) rfl ?_); (with_reducible refine gate_callee (f := 38) rfl ?_); refine goesL_ (some 23) rfl rfl Tryd.func38 (by kernel_rfl) rfl #[.pointer (some ⟨g, 0, none⟩), .int .i64 f, .int .i64 x] rfl (by (try simp only [List.map_toArray, List.map_cons, List.map_nil]); first | done | rfl) ?_; (with_reducible refine (ih g t f x a _ BT.out HT AA1.out).mono ?_); rintro e w12 ⟨rfl, hb⟩; refine ⟨_, rfl, ?_⟩; have HT2 := tabUp HT hb; have BT2 := Aside0.mk (blk_below BT.out hb); have HB2 := Aside0.mk hb; clear hb) | ((with_reducible refine gate_dst (N := 32) rfl ?_); (with_reducible refine gate_callee (f := 38) rfl ?_); refine goesL_ (some 32) rfl rfl Tryd.func38 (by kernel_rfl) rfl #[.pointer (some ⟨g, 0, none⟩), .int .i64 (wrap64 (f + x)), .int .i64 (wrap64 (c - x))] rfl (by (try simp only [List.map_toArray, List.map_cons, List.map_nil]); first | done | rfl) ?_; (with_reducible refine (ih g t (wrap64 (f + x)) (wrap64 (c - x)) b _ BT2.out HT2 AA2.out).mono ?_); rintro e w13 ⟨rfl, hb⟩; refine ⟨_, rfl, ?_⟩; have HB3 := Aside0.mk (below_step HB2.out hb); clear hb))
          go_ret
          exact ⟨rfl, HB3.out⟩
        · rw [if_neg hs] at h
          exact absurd h (by simp)
      · rw [if_neg hG] at h
        exact absurd h (by simp)
def impl_ChainOrder.f (k : Nat) (l0 : List Int) : Option ByteArray := (impl_DimsOk.f k l0).bind fun t138 => (if t138 = true then ((impl_bests.f k l0).bind fun t139 => (if t139.length = 112 then (impl_orderOf.f k t139 0 (wrap64 ((l0.length : Int) - 1))) else (none))) else (some (⟨#[]⟩ : ByteArray)))
theorem impl_ChainOrder.mono : ∀ a0 k, LeO (impl_ChainOrder.f k a0) (impl_ChainOrder.f (k + 1) a0) := by
  intro a0 k
  unfold impl_ChainOrder.f
  repeat' first
      | (with_reducible exact impl_DimsOk.mono _ _)
      | (with_reducible exact impl_bests.mono _ _)
      | (with_reducible exact impl_orderOf.mono _ _ _ _)
      | (with_reducible exact LeO.refl _)
      | (with_reducible exact LeO.none _)
      | (with_reducible refine LeO.ite ?_ ?_)
      | (with_reducible refine LeO.bind ?_ (fun _ => ?_))
theorem chain_blk {w : World} {t : List Int} : ((w.alloc (Obj.cells Tryd.zeroCells61 61)).setRow w.heap.size (tabCs t)).heap[w.heap.size]? = some (.cells (tabCs t) 61 (0, 0)) :=
  setRow_heap _ _ Tryd.zeroCells61 (tabCs t) 61 (0, 0) (blk_new w _)
set_option maxHeartbeats 8000000 in
set_option maxRecDepth 100000 in
theorem impl_ChainOrder.calls (k : Nat) (A0 : Option Addr) (c0 : Nat) (l0 : List Int) (r : ByteArray) (w : World) (hr0 : Kd.C (Kd.int .i64) w A0 l0.length l0) (hc0 : l0.length ≤ c0) (h : impl_ChainOrder.f k l0 = some r) (HT : Aside0 (TabHere w)) :
    Calls Tryd.prog 12 #[.slice A0 l0.length c0] w fun e w' => e = .returned (.string r) ∧ Below w.heap.size w w' := by
  have HR0 := Aside0.mk hr0
  have HC0 := Aside0.mk hc0
  clear hr0 hc0
  have HB := Aside0.mk (Below.refl w.heap.size w)
  replace h := Option.bind_eq_some_iff.mp h
  obtain ⟨t138, A20, H⟩ := h
  have A2 := Aside0.mk A20
  clear A20
  cases t138 with
  | true =>
    rw [if_pos rfl] at H
    replace H := Option.bind_eq_some_iff.mp H
    obtain ⟨t139, A40, H⟩ := H
    have A4 := Aside0.mk A40
    clear A40
    by_cases hG : t139.length = 112
    · rw [if_pos hG] at H
      have A5 := Aside0.mk H
      clear H
      have HL := Aside0.mk hG
      clear hG
      go_enter Tryd.func12, Tryd.ntmps12
      go_wp2_with (first | ((with_reducible refine gate_callee (f := 15) rfl ?_); refine goesL_ (some 5) rfl rfl Tryd.func15 (by kernel_rfl) rfl #[.slice A0 l0.length c0] rfl (by (try simp only [List.map_toArray, List.map_cons, List.map_nil]); first | done | rfl | (simp only [List.length_drop, List.length_take]; rfl)) ?_; (with_reducible refine (impl_DimsOk.calls k _ _ l0 true _ ?side1 ?side2 A2.out).mono ?_); (case side1 => repeat (first | exact HR0.out | (with_reducible refine Kd.C_alloc ?_ _) | (with_reducible refine Kd.C_drewN ?_ _) | (with_reducible refine Kd.C_drew ?_))); (case side2 => exact HC0.out); rintro e w' ⟨rfl, ⟨nd, rfl⟩⟩; refine ⟨_, rfl, ?_⟩) | ((with_reducible refine gate_callee (f := 37) rfl ?_); refine goesL_ (some 8) rfl rfl Tryd.func37 (by kernel_rfl) rfl #[.slice A0 l0.length c0] rfl (by (try simp only [List.map_toArray, List.map_cons, List.map_nil]); first | done | rfl | (simp only [List.length_drop, List.length_take]; rfl)) ?_; (with_reducible refine (impl_bests.calls k _ _ l0 t139 _ ?side1 ?side2 A4.out).mono ?_); (case side1 => repeat (first | exact HR0.out | (with_reducible refine Kd.C_alloc ?_ _) | (with_reducible refine Kd.C_drewN ?_ _) | (with_reducible refine Kd.C_drew ?_))); (case side2 => exact HC0.out); rintro e w12 ⟨rfl, hb⟩; refine ⟨_, rfl, ?_⟩; have n1_ := Aside0.mk (below_step (by repeat (first | (with_reducible first | exact HB.out | apply below_alloc | apply pw_below_drewN | apply below_drew1) | exact HB.out)) hb); clear HB; have HB := n1_; clear n1_ hb) | ((with_reducible refine gate_store (t := 61) (p := 3) (v := .tmp 8) rfl ?_); refine wpList_store_row rfl 61 (.tmp 3) (.tmp 8) rfl (w12.heap.size) (tabCs t139) rfl rfl 61 Tryd.zeroCells61 (blk_new w12 _) (tab_info HL.out) (tab_size HL.out) (tab_one t139) ?_; have HB4 := Aside0.mk (below_setRow (below_alloc HB.out (Obj.cells Tryd.zeroCells61 61)) (below_size HB.out) (tabCs t139)); have HT4 := tabUp HT HB4.out) | ((with_reducible refine gate_callee (f := 38) rfl ?_); refine goesL_ (some 12) rfl rfl Tryd.func38 (by kernel_rfl) rfl #[.pointer (some ⟨w12.heap.size, 0, none⟩), .int .i64 0, .int .i64 (wrap64 ((l0.length : Int) - 1))] rfl (by (try simp only [List.map_toArray, List.map_cons, List.map_nil]); first | done | rfl) ?_; (with_reducible refine (impl_orderOf.calls k w12.heap.size t139 0 (wrap64 ((l0.length : Int) - 1)) r _ chain_blk HT4 A5.out).mono ?_); rintro e w13 ⟨rfl, hb⟩; refine ⟨_, rfl, ?_⟩; have HB5 := Aside0.mk (below_step HB4.out hb); clear hb))
      go_ret
      exact ⟨rfl, HB5.out⟩
    · rw [if_neg hG] at H
      exact absurd H (by simp)
  | false =>
    rw [if_neg (show ¬ (false = true) by decide)] at H
    obtain rfl := Option.some.inj H
    go_enter Tryd.func12, Tryd.ntmps12
    go_wp2_with (first | ((with_reducible refine gate_callee (f := 15) rfl ?_); refine goesL_ (some 5) rfl rfl Tryd.func15 (by kernel_rfl) rfl #[.slice A0 l0.length c0] rfl (by (try simp only [List.map_toArray, List.map_cons, List.map_nil]); first | done | rfl | (simp only [List.length_drop, List.length_take]; rfl)) ?_; (with_reducible refine (impl_DimsOk.calls k _ _ l0 false _ ?side1 ?side2 A2.out).mono ?_); (case side1 => repeat (first | exact HR0.out | (with_reducible refine Kd.C_alloc ?_ _) | (with_reducible refine Kd.C_drewN ?_ _) | (with_reducible refine Kd.C_drew ?_))); (case side2 => exact HC0.out); rintro e w' ⟨rfl, ⟨nd, rfl⟩⟩; refine ⟨_, rfl, ?_⟩))
    go_ret
    exact ⟨rfl, by repeat (first | (with_reducible first | exact HB.out | apply below_alloc | apply pw_below_drewN | apply below_drew1) | exact HB.out)⟩
end Go.Proofs.YtokhjlaomgimmaaDoor.PFnChains
