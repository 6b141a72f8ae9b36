/- The law of the turned texts, walked. -/
import Derived.Test.YtpcjbnglolfaaaaPFnTurnedx0
import Derived.Test.YtpcjbnglolfaaaaPFnTurnedx1
import Derived.Test.YtpcjbnglolfaaaaQFnTurnedx2
import Derived.Great.Walk
import Derived.StillTailTactics
import Derived.Lib.AtoiErrMem
namespace Go.Proofs.Ytpcjbnglolfaaaa.PFnTurned
open Go.RowKit Go.Proofs.YtpcjbnglolfaaaaW.PrintWords Go.Proofs.YtpcjbnglolfaaaaW.PrintLast Go.Proofs.YtpcjbnglolfaaaaW.PrintMore
attribute [local go_sem] max2_int min2_int max_two min_two max_three min_three max_four min_four   -- for this text's walks alone
set_option linter.unusedVariables false
set_option linter.unusedSimpArgs false

/-! ### laws_FnTurned: function 7 -/
/-- A text's bytes as numbers. -/
def bytesI (t : ByteArray) : List Int := t.data.toList.map (fun b => (b.toNat : Int))
/-- The text whose one byte is another. -/
def turnedB (t : ByteArray) (p : List Int) : List Int := (bytesI t).set (Int.tmod (rd p 0) (t.size : Int)).toNat (Go.bits .xor .u8 (rd (bytesI t) (Int.tmod (rd p 0) (t.size : Int))) ((wrap64 (1 + (Int.tmod (rd p 1) 255))) % 256))
def laws_FnTurned.j0 : Nat → ByteArray → List Int → ByteArray → Bool → Option (Bool)
  | 0, _, _, _, _ => none
  | k + 1, x3, x4, x5, x47 => if x47 = true then (some false) else (if 1 < x4.length ∧ 0 ≤ rd x4 0 ∧ 0 < x5.size then ((impl_Unsealed.f k (strOfNums (turnedB x5 x4))).bind fun bt178 => (if bt178.2 = true then (none) else ((impl_SumOf.f k x3).bind fun t180 => ((impl_SumMore.f k t180 (⟨#[120]⟩ : ByteArray)).bind fun t181 => (if x3.size + 1 ≤ 9223372036854775807 then ((impl_SumOf.f k (x3 ++ (⟨#[120]⟩ : ByteArray))).bind fun t182 => (some (t181 == t182))) else (none)))))) else (none))
theorem turned_wrap (x : Int) : IntKind.u8.wrap (IntKind.i64.wrap x) = wrap64 x % 256 := by
  simp only [i64_w]; rfl
theorem tmod_nonneg {a : Int} (h : 0 ≤ a) (b : Int) : 0 ≤ Int.tmod a b := Int.tmod_nonneg _ h
theorem tmod_lt {a : Int} (h : 0 ≤ a) {n : Nat} (hn : 0 < n) : Int.tmod a (n : Int) < (n : Int) := by
  rw [Int.tmod_eq_emod_of_nonneg h]; exact Int.emod_lt_of_pos _ (by omega)
/-- A block of bytes, with what it holds; its mark lies behind them. -/
def Bytes (w : World) (g : Nat) (xs : List Int) : Prop := ∃ cur m, w.heap[g]? = some (.cells cur 5 (m, m + 1)) ∧ xs.length ≤ m ∧ ∀ i, i < xs.length → cur[i]? = some (.int .u8 (xs.getD i 0))
theorem bytesI_length (t : ByteArray) : (bytesI t).length = t.size := by
  unfold bytesI; rw [List.length_map]; rfl
theorem Bytes.new (w : World) (t : ByteArray) : Bytes (Lib.bytesWorld w 5 t) w.heap.size (bytesI t) := by
  have hl := bytesI_length t
  refine ⟨Lib.bytesCells w 5 t, (Lib.bytesCells w 5 t).size, Lib.bytesWorld_at_new w 5 t, ?_, fun i hi => ?_⟩
  · rw [hl]
    unfold Lib.bytesCells
    simp
  · have h1 := Lib.bytesWorld_cell w 5 t i (by omega)
    have h2 : (Lib.bytesWorld w 5 t).cell? ⟨w.heap.size, i, none⟩ = (Lib.bytesCells w 5 t)[i]? := cell_of_row _ _ i _ 5 _ (Lib.bytesWorld_at_new w 5 t)
    rw [← h2, h1]
    congr 2
    unfold bytesI
    simp only [List.getD_eq_getElem?_getD, List.getElem?_map]
    cases h3 : t.data.toList[i]? <;> simp
theorem Bytes.cell {w : World} {g : Nat} {xs : List Int} (h : Bytes w g xs) (i : Int) (h0 : 0 ≤ i) (h1 : i < (xs.length : Int)) : w.cell? ⟨g, i.toNat, none⟩ = some (.int .u8 (rd xs i)) ∧ w.frozen? ⟨g, i.toNat, none⟩ = false := by
  obtain ⟨cur, m, hb, hm, hc⟩ := h
  refine ⟨(cell_of_row _ _ _ _ 5 _ hb).trans (hc i.toNat (by omega)), ?_⟩
  simp only [World.frozen?, hb]
  rw [Bool.and_eq_false_iff]
  left
  exact decide_eq_false (by omega)
theorem Bytes.put {w : World} {g : Nat} {xs : List Int} (h : Bytes w g xs) (i : Int) (x : Int) (h0 : 0 ≤ i) (h1 : i < (xs.length : Int)) : Bytes (w.setCell ⟨g, i.toNat, none⟩ (.int .u8 x)) g (xs.set i.toNat x) := by
  obtain ⟨cur, m, hb, hm, hc⟩ := h
  refine ⟨cur.setIfInBounds i.toNat (.int .u8 x), m, by simp [World.setCell, Array.getElem?_modify, hb], by rw [List.length_set]; exact hm, fun j hj => ?_⟩
  rw [List.length_set] at hj
  have hcj := hc j hj
  have hsz : j < cur.size := by
    have := Array.getElem?_eq_some_iff.1 hcj
    exact this.1
  rw [Array.getElem?_setIfInBounds]
  by_cases hij : i.toNat = j
  · rw [if_pos hij, if_pos (by omega), List.getD_eq_getElem?_getD, List.getElem?_set, if_pos hij, if_pos (by omega)]
    rfl
  · rw [if_neg hij, List.getD_eq_getElem?_getD, List.getElem?_set, if_neg hij, ← List.getD_eq_getElem?_getD]
    exact hcj
theorem Bytes.str {w : World} {g n cap : Nat} {xs : List Int} (h : Bytes w g xs) (hn : xs.length = n) : (convert 41 9 (.slice (some ⟨g, 0, none⟩) n cap)).run Try.prog w = .ok (.string (strOfNums xs)) w := by
  refine run_convert_bytes_arg w 41 5 Try.underlying41 Try.underlying5 g 0 n cap xs hn (fun i hi => ?_) 9 Try.underlying9
  have := (h.cell (i : Int) (by omega) (by omega)).1
  rw [Int.toNat_natCast] at this
  rw [Nat.zero_add, this]
  congr 2
def laws_FnTurned.f (k : Nat) (l0 : List Int) : Option (Bool) := (laws_big.f l0).bind fun t162 => (if t162 = true then (some true) else ((spec_DrawSumOf.f k l0).bind fun t163 => ((spec_DrawPlaces.f k l0).bind fun t164 => ((impl_Sealed.f k t163).bind fun bt167 => ((impl_Unsealed.f k bt167.1).bind fun bt169 => (if bt167.2 = true then (if bt169.2 = true then (if bt169.1.toList = t163.toList then (laws_FnTurned.j0 k t163 t164 bt167.1 ((bt167.1.size : Int) != (wrap64 ((t163.size : Int) + 4)))) else (laws_FnTurned.j0 k t163 t164 bt167.1 true)) else (laws_FnTurned.j0 k t163 t164 bt167.1 true)) else (laws_FnTurned.j0 k t163 t164 bt167.1 true)))))))
theorem laws_FnTurned.mono_l : ∀ k, (∀ y0 y1 y2 y3, LeO (laws_FnTurned.j0 k y0 y1 y2 y3) (laws_FnTurned.j0 (k + 1) y0 y1 y2 y3))
  | 0 => fun _ _ _ _ r h => by simp [laws_FnTurned.j0] at h
  | k + 1 => by
    have ih0 := laws_FnTurned.mono_l k
    · intro y0 y1 y2 y3
      unfold laws_FnTurned.j0
      repeat' first
      | (with_reducible exact ih0 _ _ _ _)
      | (with_reducible exact impl_Sealed.mono _ _)
      | (with_reducible exact impl_SumMore.mono _ _ _)
      | (with_reducible exact impl_SumOf.mono _ _)
      | (with_reducible exact impl_Unsealed.mono _ _)
      | (with_reducible exact spec_DrawPlaces.mono _ _)
      | (with_reducible exact spec_DrawSumOf.mono _ _)
      | (with_reducible exact LeO.refl _)
      | (with_reducible exact LeO.none _)
      | (with_reducible refine LeO.ite ?_ ?_)
      | (with_reducible refine LeO.bind ?_ (fun _ => ?_))
      | exact ih0 _ _ _ _
      | exact impl_Sealed.mono _ _
      | exact impl_SumMore.mono _ _ _
      | exact impl_SumOf.mono _ _
      | exact impl_Unsealed.mono _ _
      | exact spec_DrawPlaces.mono _ _
      | exact spec_DrawSumOf.mono _ _
      | exact LeO.none _
      | refine LeO.ite ?_ ?_
      | refine LeO.bind ?_ (fun _ => ?_)
theorem laws_FnTurned.mono : ∀ a0 k, LeO (laws_FnTurned.f k a0) (laws_FnTurned.f (k + 1) a0) := by
  intro a0 k
  have ih0 := laws_FnTurned.mono_l k
  unfold laws_FnTurned.f
  repeat' first
      | (with_reducible exact ih0 _ _ _ _)
      | (with_reducible exact impl_Sealed.mono _ _)
      | (with_reducible exact impl_SumMore.mono _ _ _)
      | (with_reducible exact impl_SumOf.mono _ _)
      | (with_reducible exact impl_Unsealed.mono _ _)
      | (with_reducible exact spec_DrawPlaces.mono _ _)
      | (with_reducible exact spec_DrawSumOf.mono _ _)
      | (with_reducible exact LeO.refl _)
      | (with_reducible exact LeO.none _)
      | (with_reducible refine LeO.ite ?_ ?_)
      | (with_reducible refine LeO.bind ?_ (fun _ => ?_))
      | exact ih0 _ _ _ _
      | exact impl_Sealed.mono _ _
      | exact impl_SumMore.mono _ _ _
      | exact impl_SumOf.mono _ _
      | exact impl_Unsealed.mono _ _
      | exact spec_DrawPlaces.mono _ _
      | exact spec_DrawSumOf.mono _ _
      | exact LeO.none _
      | refine LeO.ite ?_ ?_
      | refine LeO.bind ?_ (fun _ => ?_)
set_option maxHeartbeats 8000000 in
set_option maxRecDepth 100000 in
theorem laws_FnTurned.calls (k : Nat) (A0 : Option Addr) (c0 : Nat) (l0 : List Int) (r : Bool) (w : World) (hr0 : Kd.C (Kd.int .u8) w A0 l0.length l0) (hc0 : l0.length ≤ c0) (h : laws_FnTurned.f k l0 = some r) :
    Calls Try.prog 7 #[.slice A0 l0.length c0] w fun e w' => e = .returned (.bool r) ∧ Below w.heap.size w w' := by
  have HR0 := Aside0.mk hr0
  have HC0 := Aside0.mk hc0
  clear hr0 hc0
  have HB := Aside0.mk (Below.refl w.heap.size w)
  have H : ((laws_big.f l0).bind fun t162 => (if t162 = true then (some true) else ((spec_DrawSumOf.f k l0).bind fun t163 => ((spec_DrawPlaces.f k l0).bind fun t164 => ((impl_Sealed.f k t163).bind fun bt167 => ((impl_Unsealed.f k bt167.1).bind fun bt169 => (if bt167.2 = true then (if bt169.2 = true then (if bt169.1.toList = t163.toList then (laws_FnTurned.j0 k t163 t164 bt167.1 ((bt167.1.size : Int) != (wrap64 ((t163.size : Int) + 4)))) else (laws_FnTurned.j0 k t163 t164 bt167.1 true)) else (laws_FnTurned.j0 k t163 t164 bt167.1 true)) else (laws_FnTurned.j0 k t163 t164 bt167.1 true)))))))) = some r := h
  clear h
  replace H := Option.bind_eq_some_iff.mp H
  obtain ⟨t162, A20, H⟩ := H
  replace H : (if t162 = true then (some true) else ((spec_DrawSumOf.f k l0).bind fun t163 => ((spec_DrawPlaces.f k l0).bind fun t164 => ((impl_Sealed.f k t163).bind fun bt167 => ((impl_Unsealed.f k bt167.1).bind fun bt169 => (if bt167.2 = true then (if bt169.2 = true then (if bt169.1.toList = t163.toList then (laws_FnTurned.j0 k t163 t164 bt167.1 ((bt167.1.size : Int) != (wrap64 ((t163.size : Int) + 4)))) else (laws_FnTurned.j0 k t163 t164 bt167.1 true)) else (laws_FnTurned.j0 k t163 t164 bt167.1 true)) else (laws_FnTurned.j0 k t163 t164 bt167.1 true))))))) = some r := H
  have A2 := Aside0.mk A20
  clear A20
  by_cases c3 : t162 = true
  · subst c3
    have H1 : (some true) = some r := by rw [if_pos rfl] at H; exact H
    clear H
    have H := H1
    clear H1
    obtain rfl := Option.some.inj H
    go_enter Try.func7, Try.ntmps7
    go_wp2_with (first | ((with_reducible refine gate_callee (f := 25) rfl ?_); refine goesL_ (some 14) rfl rfl Try.func25 (by kernel_rfl) rfl #[.slice A0 l0.length c0] rfl (by (try simp only [List.map_toArray, List.map_cons, List.map_nil]); first | done | rfl | (simp only [List.length_drop, List.length_take]; rfl)) ?_; (with_reducible refine (laws_big.calls _ _ l0 true _ ?side1 ?side2 A2.out).mono ?_); (case side1 => repeat (first | exact HR0.out | (with_reducible refine Kd.C_alloc ?_ _) | (with_reducible refine Kd.C_drewN ?_ _) | (with_reducible refine Kd.C_drew ?_))); (case side2 => exact HC0.out); rintro e w' ⟨rfl, ⟨nd, rfl⟩⟩; refine ⟨_, rfl, ?_⟩))
    go_ret
    exact ⟨by first | rfl | (simp [errW_none, errW_some] <;> rfl) | (simp [*, errW_none, errW_some] <;> rfl), by repeat (first | (with_reducible first | exact HB.out | apply below_alloc | apply pw_below_drewN | apply below_drew1) | exact HB.out)⟩
  · replace c3 := Bool.eq_false_iff.mpr c3
    subst c3
    have H1 : ((spec_DrawSumOf.f k l0).bind fun t163 => ((spec_DrawPlaces.f k l0).bind fun t164 => ((impl_Sealed.f k t163).bind fun bt167 => ((impl_Unsealed.f k bt167.1).bind fun bt169 => (if bt167.2 = true then (if bt169.2 = true then (if bt169.1.toList = t163.toList then (laws_FnTurned.j0 k t163 t164 bt167.1 ((bt167.1.size : Int) != (wrap64 ((t163.size : Int) + 4)))) else (laws_FnTurned.j0 k t163 t164 bt167.1 true)) else (laws_FnTurned.j0 k t163 t164 bt167.1 true)) else (laws_FnTurned.j0 k t163 t164 bt167.1 true)))))) = some r := by rw [if_neg (show ¬ (false = true) by decide)] at H; exact H
    clear H
    have H := H1
    clear H1
    replace H := Option.bind_eq_some_iff.mp H
    obtain ⟨t163, A40, H⟩ := H
    replace H : ((spec_DrawPlaces.f k l0).bind fun t164 => ((impl_Sealed.f k t163).bind fun bt167 => ((impl_Unsealed.f k bt167.1).bind fun bt169 => (if bt167.2 = true then (if bt169.2 = true then (if bt169.1.toList = t163.toList then (laws_FnTurned.j0 k t163 t164 bt167.1 ((bt167.1.size : Int) != (wrap64 ((t163.size : Int) + 4)))) else (laws_FnTurned.j0 k t163 t164 bt167.1 true)) else (laws_FnTurned.j0 k t163 t164 bt167.1 true)) else (laws_FnTurned.j0 k t163 t164 bt167.1 true))))) = some r := H
    have A4 := Aside0.mk A40
    clear A40
    replace H := Option.bind_eq_some_iff.mp H
    obtain ⟨t164, A50, H⟩ := H
    replace H : ((impl_Sealed.f k t163).bind fun bt167 => ((impl_Unsealed.f k bt167.1).bind fun bt169 => (if bt167.2 = true then (if bt169.2 = true then (if bt169.1.toList = t163.toList then (laws_FnTurned.j0 k t163 t164 bt167.1 ((bt167.1.size : Int) != (wrap64 ((t163.size : Int) + 4)))) else (laws_FnTurned.j0 k t163 t164 bt167.1 true)) else (laws_FnTurned.j0 k t163 t164 bt167.1 true)) else (laws_FnTurned.j0 k t163 t164 bt167.1 true)))) = some r := H
    have A5 := Aside0.mk A50
    clear A50
    replace H := Option.bind_eq_some_iff.mp H
    obtain ⟨⟨t167, t168⟩, A60, H⟩ := H
    replace H : ((impl_Unsealed.f k t167).bind fun bt169 => (if t168 = true then (if bt169.2 = true then (if bt169.1.toList = t163.toList then (laws_FnTurned.j0 k t163 t164 t167 ((t167.size : Int) != (wrap64 ((t163.size : Int) + 4)))) else (laws_FnTurned.j0 k t163 t164 t167 true)) else (laws_FnTurned.j0 k t163 t164 t167 true)) else (laws_FnTurned.j0 k t163 t164 t167 true))) = some r := H
    have A6 := Aside0.mk A60
    clear A60
    replace H := Option.bind_eq_some_iff.mp H
    obtain ⟨⟨t169, t170⟩, A70, H⟩ := H
    replace H : (if t168 = true then (if t170 = true then (if t169.toList = t163.toList then (laws_FnTurned.j0 k t163 t164 t167 ((t167.size : Int) != (wrap64 ((t163.size : Int) + 4)))) else (laws_FnTurned.j0 k t163 t164 t167 true)) else (laws_FnTurned.j0 k t163 t164 t167 true)) else (laws_FnTurned.j0 k t163 t164 t167 true)) = some r := H
    have A7 := Aside0.mk A70
    clear A70
    have HC8 := Aside0.mk H
    clear H
    go_enter Try.func7, Try.ntmps7
    go_upto_region 7 with (first | ((with_reducible refine gate_callee (f := 25) rfl ?_); refine goesL_ (some 14) rfl rfl Try.func25 (by kernel_rfl) rfl #[.slice A0 l0.length c0] rfl (by (try simp only [List.map_toArray, List.map_cons, List.map_nil]); first | done | rfl | (simp only [List.length_drop, List.length_take]; rfl)) ?_; (with_reducible refine (laws_big.calls _ _ l0 false _ ?side1 ?side2 A2.out).mono ?_); (case side1 => repeat (first | exact HR0.out | (with_reducible refine Kd.C_alloc ?_ _) | (with_reducible refine Kd.C_drewN ?_ _) | (with_reducible refine Kd.C_drew ?_))); (case side2 => exact HC0.out); rintro e w' ⟨rfl, ⟨nd, rfl⟩⟩; refine ⟨_, rfl, ?_⟩) | ((with_reducible refine gate_callee (f := 26) rfl ?_); refine goesL_ (some 16) rfl rfl Try.func26 (by kernel_rfl) rfl #[.slice A0 l0.length c0] rfl (by (try simp only [List.map_toArray, List.map_cons, List.map_nil]); first | done | rfl | (simp only [List.length_drop, List.length_take]; rfl)) ?_; (with_reducible refine (spec_DrawSumOf.calls k _ _ l0 t163 _ ?side1 ?side2 A4.out).mono ?_); (case side1 => repeat (first | exact HR0.out | (with_reducible refine Kd.C_alloc ?_ _) | (with_reducible refine Kd.C_drewN ?_ _) | (with_reducible refine Kd.C_drew ?_))); (case side2 => exact HC0.out); rintro e w9 ⟨rfl, hb⟩; refine ⟨_, rfl, ?_⟩; have n0_ := Aside0.mk (below_step (by repeat (first | (with_reducible first | exact HB.out | apply below_alloc | apply pw_below_drewN | apply below_drew1) | exact HB.out)) hb); clear HB; have HB := n0_; clear n0_; (try clear hb); (try clear hb2); (try clear hk); (try clear hi)) | ((with_reducible refine gate_callee (f := 27) rfl ?_); refine goesL_ (some 18) rfl rfl Try.func27 (by kernel_rfl) rfl #[.slice A0 l0.length c0] rfl (by (try simp only [List.map_toArray, List.map_cons, List.map_nil]); first | done | rfl | (simp only [List.length_drop, List.length_take]; rfl)) ?_; (with_reducible refine (spec_DrawPlaces.calls k _ _ l0 t164 _ ?side1 ?side2 A5.out).mono ?_); (case side1 => repeat (first | exact (Kd.C_below HR0.out HB.out) | (with_reducible refine Kd.C_alloc ?_ _) | (with_reducible refine Kd.C_drewN ?_ _) | (with_reducible refine Kd.C_drew ?_))); (case side2 => exact HC0.out); rintro e w10 ⟨v165, rfl, ho0, hb⟩; refine ⟨_, rfl, ?_⟩; have n0_ := Aside0.mk (Kd.R_lower ho0 (below_size (by repeat (first | (with_reducible first | exact HB.out | apply below_alloc | apply pw_below_drewN | apply below_drew1) | exact HB.out)))); have n1_ := Aside0.mk (below_step (by repeat (first | (with_reducible first | exact HB.out | apply below_alloc | apply pw_below_drewN | apply below_drew1) | exact HB.out)) hb); clear HB; have HO166 := n0_; have HB := n1_; clear n0_ n1_; (try clear hb); (try clear hb2); (try clear hk); (try clear hi); (try clear ho0)) | ((with_reducible refine gate_callee (f := 28) rfl ?_); refine goesL_ (some 21) rfl rfl Try.func28 (by kernel_rfl) rfl #[.string t163] rfl (by (try simp only [List.map_toArray, List.map_cons, List.map_nil]); first | done | rfl | (simp only [List.length_drop, List.length_take]; rfl)) ?_; (with_reducible refine (impl_Sealed.calls k t163 t167 t168 _ A6.out).mono ?_); rintro e w11 ⟨rfl, hb⟩; refine ⟨_, rfl, ?_⟩; have n0_ := Aside0.mk (Kd.R_below (by (with_reducible repeat (first | apply Kd.R_alloc | apply Kd.R_drewN | apply Kd.R_drew)); exact HO166.out) hb); have n1_ := Aside0.mk (below_step (by repeat (first | (with_reducible first | exact HB.out | apply below_alloc | apply pw_below_drewN | apply below_drew1) | exact HB.out)) hb); clear HO166; clear HB; have HO166 := n0_; have HB := n1_; clear n0_ n1_; (try clear hb); (try clear hb2); (try clear hk); (try clear hi)) | ((with_reducible refine gate_callee (f := 13) rfl ?_); refine goesL_ (some 26) rfl rfl Try.func13 (by kernel_rfl) rfl #[.string t167] rfl (by (try simp only [List.map_toArray, List.map_cons, List.map_nil]); first | done | rfl | (simp only [List.length_drop, List.length_take]; rfl)) ?_; (with_reducible refine (impl_Unsealed.calls k t167 t169 t170 _ A7.out).mono ?_); rintro e w12 ⟨rfl, hb⟩; refine ⟨_, rfl, ?_⟩; have n0_ := Aside0.mk (Kd.R_below (by (with_reducible repeat (first | apply Kd.R_alloc | apply Kd.R_drewN | apply Kd.R_drew)); exact HO166.out) hb); have n1_ := Aside0.mk (below_step (by repeat (first | (with_reducible first | exact HB.out | apply below_alloc | apply pw_below_drewN | apply below_drew1) | exact HB.out)) hb); clear HO166; clear HB; have HO166 := n0_; have HB := n1_; clear n0_ n1_; (try clear hb); (try clear hb2); (try clear hk); (try clear hi)))
    (try simp only [Act.put, List.setIfInBounds_toArray, List.set_cons_zero, List.set_cons_succ])
    go_cut [47] (fun v47 wc => ∃ (kq : Nat) (x47_7 : Bool), v47 = .bool x47_7 ∧ Aside0 (laws_FnTurned.j0 kq t163 t164 t167 x47_7 = some r) ∧ Aside0 (kq ≤ k) ∧ Aside0 (Kd.R (Kd.int .i64) 3 wc w.heap.size (fun _ => True) v165 t164) ∧ Aside0 (Below w.heap.size w wc))
    case first =>
      have H := HC8.out
      clear HC8
      by_cases c13 : t168 = true
      · subst c13
        have H1 : (if t170 = true then (if t169.toList = t163.toList then (laws_FnTurned.j0 k t163 t164 t167 ((t167.size : Int) != (wrap64 ((t163.size : Int) + 4)))) else (laws_FnTurned.j0 k t163 t164 t167 true)) else (laws_FnTurned.j0 k t163 t164 t167 true)) = some r := by rw [if_pos rfl] at H; exact H
        clear H
        have H := H1
        clear H1
        by_cases c14 : t170 = true
        · subst c14
          have H1 : (if t169.toList = t163.toList then (laws_FnTurned.j0 k t163 t164 t167 ((t167.size : Int) != (wrap64 ((t163.size : Int) + 4)))) else (laws_FnTurned.j0 k t163 t164 t167 true)) = some r := by rw [if_pos rfl] at H; exact H
          clear H
          have H := H1
          clear H1
          by_cases c15 : t169.toList = t163.toList
          · rw [if_pos c15] at H
            have c15b0 : (t169.toList == t163.toList) = true := beq_iff_eq.mpr c15
            have c15b1 : (t169.toList != t163.toList) = false := bne_eq_false_iff_eq.mpr c15
            clear c15
            (first | rw [c15b0] | (simp only [i64_w, i32_w]; rw [c15b0]) | skip)
            have H' := Aside0.mk H
            clear H
            go_wp2
            go_meet
            case rel => exact ⟨_, (((t167.size : Int) != (wrap64 ((t163.size : Int) + 4)))), (by first | rfl | (simp; done) | (simp [*]; done)), H', ⟨by first | omega | exact Nat.le_refl _⟩, ⟨by (with_reducible repeat (first | apply Kd.R_alloc | apply Kd.R_drewN | apply Kd.R_drew)); exact HO166.out⟩, ⟨by repeat (first | (with_reducible first | exact HB.out | apply below_alloc | apply pw_below_drewN | apply below_drew1) | exact HB.out)⟩⟩
          · rw [if_neg c15] at H
            have c15b0 : (t169.toList == t163.toList) = false := beq_eq_false_iff_ne.mpr c15
            have c15b1 : (t169.toList != t163.toList) = true := bne_iff_ne.mpr c15
            (first | rw [c15b0] | (simp only [i64_w, i32_w]; rw [c15b0]) | skip)
            have H' := Aside0.mk H
            clear H
            go_wp2
            go_meet
            case rel => exact ⟨_, (true), (by first | rfl | (simp; done) | (simp [*]; done)), H', ⟨by first | omega | exact Nat.le_refl _⟩, ⟨by (with_reducible repeat (first | apply Kd.R_alloc | apply Kd.R_drewN | apply Kd.R_drew)); exact HO166.out⟩, ⟨by repeat (first | (with_reducible first | exact HB.out | apply below_alloc | apply pw_below_drewN | apply below_drew1) | exact HB.out)⟩⟩
        · replace c14 := Bool.eq_false_iff.mpr c14
          subst c14
          have H1 : (laws_FnTurned.j0 k t163 t164 t167 true) = some r := by rw [if_neg (show ¬ (false = true) by decide)] at H; exact H
          clear H
          have H := H1
          clear H1
          have H' := Aside0.mk H
          clear H
          go_wp2
          go_meet
          case rel => exact ⟨_, (true), (by first | rfl | (simp; done) | (simp [*]; done)), H', ⟨by first | omega | exact Nat.le_refl _⟩, ⟨by (with_reducible repeat (first | apply Kd.R_alloc | apply Kd.R_drewN | apply Kd.R_drew)); exact HO166.out⟩, ⟨by repeat (first | (with_reducible first | exact HB.out | apply below_alloc | apply pw_below_drewN | apply below_drew1) | exact HB.out)⟩⟩
      · replace c13 := Bool.eq_false_iff.mpr c13
        subst c13
        have H1 : (laws_FnTurned.j0 k t163 t164 t167 true) = some r := by rw [if_neg (show ¬ (false = true) by decide)] at H; exact H
        clear H
        have H := H1
        clear H1
        have H' := Aside0.mk H
        clear H
        go_wp2
        go_meet
        case rel => exact ⟨_, (true), (by first | rfl | (simp; done) | (simp [*]; done)), H', ⟨by first | omega | exact Nat.le_refl _⟩, ⟨by (with_reducible repeat (first | apply Kd.R_alloc | apply Kd.R_drewN | apply Kd.R_drew)); exact HO166.out⟩, ⟨by repeat (first | (with_reducible first | exact HB.out | apply below_alloc | apply pw_below_drewN | apply below_drew1) | exact HB.out)⟩⟩
    case rest =>
      clear HC8
      try clear c1
      try clear c2
      try clear p2
      try clear c3
      try clear p6
      try clear c7
      try clear c13
      try clear c14
      try clear c15
      try clear c15b0
      try clear c15b1
      obtain ⟨kq, x47_7, rfl, HA, HJ7, HO_4, HB⟩ := hcut
      cases kq with
      | zero => exact absurd HA.out (by simp [laws_FnTurned.j0])
      | succ kj7 =>
        have H := HA.out
        clear HA
        simp only [laws_FnTurned.j0] at H
        by_cases c16 : x47_7 = true
        · subst c16
          have H1 : (some false) = some r := by rw [if_pos rfl] at H; exact H
          clear H
          have H := H1
          clear H1
          obtain rfl := Option.some.inj H
          go_wp2
          go_ret
          exact ⟨by first | rfl | (simp [errW_none, errW_some] <;> rfl) | (simp [*, errW_none, errW_some] <;> rfl), by repeat (first | (with_reducible first | exact HB.out | apply below_alloc | apply pw_below_drewN | apply below_drew1) | exact HB.out)⟩
        · replace c16 := Bool.eq_false_iff.mpr c16
          subst c16
          rw [if_neg (show ¬ (false = true) by decide)] at H
          by_cases hg : 1 < t164.length ∧ 0 ≤ rd t164 0 ∧ 0 < t167.size
          case neg => rw [if_neg hg] at H; exact absurd H (by simp)
          rw [if_pos hg] at H
          obtain ⟨g1, g0, gz⟩ := hg
          replace H := Option.bind_eq_some_iff.mp H
          obtain ⟨⟨t178, t179⟩, A240, H⟩ := H
          have A24 := Aside0.mk A240
          clear A240
          simp only at H
          by_cases c25 : t179 = true
          · rw [if_pos c25] at H; exact absurd H (by simp)
          replace c25 := Bool.eq_false_iff.mpr c25
          subst c25
          rw [if_neg (show ¬ (false = true) by decide)] at H
          replace H := Option.bind_eq_some_iff.mp H
          obtain ⟨t180, A340, H⟩ := H
          have A34 := Aside0.mk A340
          clear A340
          replace H := Option.bind_eq_some_iff.mp H
          obtain ⟨t181, A350, H⟩ := H
          have A35 := Aside0.mk A350
          clear A350
          by_cases c36 : t163.size + 1 ≤ 9223372036854775807
          case neg => rw [if_neg c36] at H; exact absurd H (by simp)
          rw [if_pos c36] at H
          have c36b0 := eq_true c36
          have c36b1 : decide (t163.size + 1 ≤ 9223372036854775807) = true := decide_eq_true c36
          have c36b2 : (9223372036854775807 < t163.size + 1) = False := eq_false (Nat.not_lt.2 c36)
          replace H := Option.bind_eq_some_iff.mp H
          obtain ⟨t182, A370, H⟩ := H
          have A37 := Aside0.mk A370
          clear A370
          obtain rfl := Option.some.inj H
          obtain ⟨gp, cp, ep, gpb, gpl, cellsp, HGp⟩ := Kd.R_form HO_4.out (by omega)
          subst ep
          have hp0 : wc.cell? ⟨gp, 0, none⟩ = some (.int .i64 (rd t164 0)) := (Kd.R_celln 0 HO_4.out 0 (by omega) (by omega)).1
          have hp1 : wc.cell? ⟨gp, 1, none⟩ = some (.int .i64 (rd t164 1)) := (Kd.R_celln 0 HO_4.out 1 (by omega) (by omega)).1
          obtain ⟨w1, hw1⟩ : ∃ w1, w1 = Lib.bytesWorld wc 5 t167 := ⟨_, rfl⟩
          have kc : (convert 9 41 (.string t167)).run Try.prog wc = .ok (.slice (some ⟨wc.heap.size, 0, none⟩) t167.size (grownCap wc t167.size 0 5)) w1 := by
            rw [hw1]; exact Lib.run_convert_string_bytes wc 9 41 5 t167 Try.underlying9 Try.underlying41 Try.underlying5
          have HB1 := Aside0.mk (show Below w.heap.size w w1 by rw [hw1]; exact below_step HB.out (Lib.bytesWorld_below _ _ _))
          have P0 : w1.cell? ⟨gp, 0, none⟩ = some (.int .i64 (rd t164 0)) := by rw [hw1]; exact (Lib.bytesWorld_old wc 5 t167 _ gpl).trans hp0
          have P1 : w1.cell? ⟨gp, 1, none⟩ = some (.int .i64 (rd t164 1)) := by rw [hw1]; exact (Lib.bytesWorld_old wc 5 t167 _ gpl).trans hp1
          obtain ⟨gq, hgq⟩ : ∃ gq, gq = wc.heap.size := ⟨_, rfl⟩
          have BY := Aside0.mk (show Bytes w1 gq (bytesI t167) by rw [hw1, hgq]; exact Bytes.new wc t167)
          have HGQ := Aside0.mk (show w.heap.size ≤ gq by rw [hgq]; exact HB.out.size)
          have HNE := Aside0.mk (show gp ≠ gq by rw [hgq]; exact Nat.ne_of_lt gpl)
          obtain ⟨cq, hcq⟩ : ∃ cq, cq = grownCap wc t167.size 0 5 := ⟨_, rfl⟩
          rw [← hgq, ← hcq] at kc
          clear hw1 hgq hcq hp0 hp1 HGp gpl gpb HB
          have ji0 : 0 ≤ rd t164 0 % (t167.size : Int) := Int.emod_nonneg _ (by omega)
          have ji1 : rd t164 0 % (t167.size : Int) < (t167.size : Int) := Int.emod_lt_of_pos _ (by omega)
          have hji : Int.tmod (rd t164 0) (t167.size : Int) = rd t164 0 % (t167.size : Int) := Int.tmod_eq_emod_of_nonneg g0
          have HJI := Aside0.mk hji
          clear hji
          have z0 : ((t167.size : Int) == 0) = false := beq_eq_false_iff_ne.mpr (by omega)
          have z1 : (0 < t164.length) = True := eq_true (by omega)
          have z2 : (1 < t164.length) = True := eq_true (by omega)
          have z3 : ((t167.size : Int) = 0) = False := eq_false (by omega)
          have z4 : (t167.size = 0) = False := eq_false (by omega)
          have z5 : (t167 = (⟨#[]⟩ : ByteArray)) = False := eq_false (by intro h_; rw [h_] at gz; exact absurd gz (by decide))
          have z6 : ((1 : Int) < (t164.length : Int)) = True := eq_true (by omega)
          have z7 : ((0 : Int) < (t164.length : Int)) = True := eq_true (by omega)
          have i0 := eq_true ji0
          have i1 := eq_true ji1
          go_wp2
          refine wp_region_still_tail 14 (by kernel_rfl) (by kernel_rfl) ?_
          simp only [List.take_succ_cons, List.take_zero, List.drop_succ_cons, List.drop_zero]
          obtain ⟨w2, hw2⟩ : ∃ w2, w2 = w1.drew := ⟨_, rfl⟩
          have Q1 : w2.cell? ⟨gp, 1, none⟩ = some (.int .i64 (rd t164 1)) := by rw [hw2]; exact P1
          have CB := (show Bytes w2 gq (bytesI t167) by rw [hw2]; exact BY.out).cell (rd t164 0 % (t167.size : Int)) ji0 (by rw [bytesI_length]; exact ji1)
          have CB1 := CB.1
          have CB2 := CB.2
          have BY2 := Aside0.mk (show Bytes w2 gq (bytesI t167) by rw [hw2]; exact BY.out)
          have HB2 := Aside0.mk (show Below w.heap.size w w2 by rw [hw2]; exact below_drew1 HB1.out)
          clear CB P0 P1 BY HB1
          change wpStill Try.prog _ (w1.drew) _ _ _
          rw [← hw2]
          have HW2 := Aside0.mk hw2
          clear hw2
          iterate 14 (refine wpStill_step (fun K hK => ?_); go_simp; refine hK _ ?_; clear hK; clear K)
          refine wpStill_nil ?_
          change wpList Try.prog _ _ _ _ (w1.drew)
          rw [← HW2.out]
          go_upto_region 12 with (fail)
          simp only [turned_wrap]
          have E3 : Bytes (w2.setCell ⟨gq, (rd t164 0 % (t167.size : Int)).toNat, none⟩ (.int .u8 (Go.bits .xor .u8 (rd (bytesI t167) (rd t164 0 % (t167.size : Int))) ((wrap64 (1 + (rd t164 1).tmod 255)) % 256)))) gq (turnedB t167 t164) := by
            unfold turnedB
            rw [HJI.out]
            exact BY2.out.put _ _ ji0 (by rw [bytesI_length]; exact ji1)
          have HB3 : Aside0 (Below w.heap.size w (w2.setCell ⟨gq, (rd t164 0 % (t167.size : Int)).toNat, none⟩ (.int .u8 (Go.bits .xor .u8 (rd (bytesI t167) (rd t164 0 % (t167.size : Int))) ((wrap64 (1 + (rd t164 1).tmod 255)) % 256))))) := ⟨below_set HB2.out HGQ.out⟩
          have kc2 := E3.str (n := t167.size) (cap := cq) (by unfold turnedB; rw [List.length_set, bytesI_length])
          clear E3
          generalize w2.setCell ⟨gq, (rd t164 0 % (t167.size : Int)).toNat, none⟩ (.int .u8 (Go.bits .xor .u8 (rd (bytesI t167) (rd t164 0 % (t167.size : Int))) ((wrap64 (1 + (rd t164 1).tmod 255)) % 256))) = w3 at HB3 kc2 ⊢
          clear CB1 CB2 Q1 BY2 HB2 HW2 kc
          go_wp2_with (first | ((with_reducible refine gate_callee (f := 13) rfl ?_); refine goesL_ (some 73) rfl rfl Try.func13 (by kernel_rfl) rfl #[.string (strOfNums (turnedB t167 t164))] rfl (by (try simp only [List.map_toArray, List.map_cons, List.map_nil]); first | done | rfl | (simp only [List.length_drop, List.length_take]; rfl)) ?_; (with_reducible refine (impl_Unsealed.calls kj7 (strOfNums (turnedB t167 t164)) t178 false _ A24.out).mono ?_); rintro e w45 ⟨rfl, hb⟩; refine ⟨_, rfl, ?_⟩; have HB := Aside0.mk (below_step HB3.out hb); clear hb) | (go_at_call 30; (with_reducible refine (impl_SumOf.calls kj7 t163 t180 _ A34.out).mono ?_); rintro e w' ⟨rfl, ⟨nd, rfl⟩⟩) | (go_at_call 29; (with_reducible refine (impl_SumMore.calls kj7 t180 (⟨#[120]⟩ : ByteArray) t181 _ A35.out).mono ?_); rintro e w' ⟨rfl, ⟨nd, rfl⟩⟩) | (go_at_call 30; (with_reducible refine (impl_SumOf.calls kj7 (t163 ++ (⟨#[120]⟩ : ByteArray)) t182 _ A37.out).mono ?_); rintro e w' ⟨rfl, ⟨nd, rfl⟩⟩))
          go_ret
          exact ⟨by first | rfl | (simp [errW_none, errW_some] <;> rfl) | (simp [*, errW_none, errW_some] <;> rfl), by repeat (first | (with_reducible first | exact HB.out | apply below_alloc | apply pw_below_drewN | apply below_drew1) | exact HB.out)⟩

/-- THE ONE PURE STATEMENT of laws_FnTurned: yours. -/
def laws_FnTurned.Pure : Prop := ∀ (l0 : List Int), l0.length ≤ maxLen → l0.length * 1 ≤ 140737488351232 → (∀ x ∈ l0, (Lit.int .u8 x).wf = true) → ∃ k, laws_FnTurned.f k l0 = some true
theorem laws_FnTurned.walk (P : laws_FnTurned.Pure) (a0 : Option Addr) (len0 cap0 : Nat) (z0 : List Int) (w : World) (w0 : (a0 = none ∧ len0 = 0 ∧ cap0 = 0 ∧ z0 = []) ∨ ∃ x, a0 = some x ∧ len0 ≤ cap0 ∧ cap0 ≤ maxLen ∧ z0.length = cap0 ∧ (∀ i, i < z0.length → w.cell? (x.add i) = some (.int .u8 (z0.getD i 0))) ∧ ∀ n ∈ z0, (Lit.int .u8 n).wf = true) (y0 : len0 * 1 ≤ 140737488351232) :
    Calls Try.prog 7 #[.slice a0 len0 cap0] w fun e w' => e = .returned (.bool true) ∧ Below w.heap.size w w' := by
  obtain ⟨l0, rfl, hr0, hm0, hw0, hc0⟩ := ReadsInt.ofRowC w0
  obtain ⟨k, h⟩ := P l0 hm0 y0 hw0
  refine (laws_FnTurned.calls k _ _ l0 true w (Kd.C_of_reads (d := (0 : Int)) (h1 := fun _ => rfl) hr0) hc0 h).mono ?_
  rintro e w' ⟨rfl, hd⟩
  exact ⟨rfl, hd⟩

end Go.Proofs.Ytpcjbnglolfaaaa.PFnTurned
