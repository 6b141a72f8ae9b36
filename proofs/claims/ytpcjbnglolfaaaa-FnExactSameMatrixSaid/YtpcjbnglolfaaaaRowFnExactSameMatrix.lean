/- The law of SameMatrix returns true and leaves its two matrices as they were, whatever they are. -/
import Derived.Test.YtpcjbnglolfaaaaRows
import Derived.Test.YtpcjbnglolfaaaaPFnExactSameMatrixx4
import Derived.Test.YtpcjbnglolfaaaaPureFnExactSameMatrix
import Derived.Test.YtpcjbnglolfaaaaOpen
import Derived.WalkKit
import Derived.ProofKit
import Derived.OpenShut
import Derived.ShutString
import Derived.ChangeOld
import Derived.Below
import Derived.SizedLaws
namespace Go.Proofs.Ytpcjbnglolfaaaa.fnExactSameMatrix
open Go.ChangeShapes Go.WideShapes Go.ChangeAt Go.RowKit Go.Proofs.Ytpcjbnglolfaaaa.Open Go.Proofs.YtpcjbnglolfaaaaW.PrintWords
open Go.ChangeMaps (open_string shut_string)
set_option linter.unusedVariables false
theorem own : ownKnob Try.prog.godebug = none := by kernel_rfl
theorem laidOut : laidOutB Try.prog = true := by kernel_rfl
/-- A fraction that can be read. -/
theorem opens_F {H : Type} {enc : TypeId × Value → H} {w : World} : Opens enc Try.prog w 111 PFnExactSameMatrix.k111 (fun x => x.f0.size ≤ maxLen ∧ x.f1.size ≤ maxLen) := by
  intro n cs y h
  obtain ⟨hl, m, hf⟩ := struct_cells Try.underlying111 (by kernel_rfl) (by kernel_rfl) h
  obtain ⟨v0, v1, rfl⟩ := list2 hl
  obtain ⟨_, y0, e0, g0⟩ := hf 0 _ rfl
  obtain ⟨_, y1, e1, g1⟩ := hf 1 _ rfl
  cases e0
  cases e1
  obtain ⟨a, k0, z0⟩ := opens_string Try.underlying9 _ _ _ g0
  obtain ⟨b, k1, z1⟩ := opens_string Try.underlying9 _ _ _ g1
  exact ⟨⟨a, b⟩, ⟨[v0], [v1], rfl, k0, k1⟩, z0, z1⟩
/-- A matrix as a value. -/
def kO : Kd (Int × Int × List PFnExactSameMatrix.S111) := Kd.pair (Kd.int .i64) (Kd.pair (Kd.int .i64) (Kd.slice 111 PFnExactSameMatrix.k111))
theorem opens_O {H : Type} {enc : TypeId × Value → H} {w : World} : Opens enc Try.prog w 50 kO (fun x => (x.2.2.length ≤ maxLen ∧ ∀ s ∈ x.2.2, s.f0.size ≤ maxLen ∧ s.f1.size ≤ maxLen)) := by
  intro n cs y h
  have c111 : Try.prog.cellsOf 111 = 2 := by kernel_rfl
  obtain ⟨hl, m, hf⟩ := struct_cells Try.underlying50 (by kernel_rfl) (by kernel_rfl) h
  obtain ⟨v0, v1, v2, rfl⟩ := list3 hl
  obtain ⟨_, y0, e0, g0⟩ := hf 0 _ rfl
  obtain ⟨_, y1, e1, g1⟩ := hf 1 _ rfl
  obtain ⟨_, y2, e2, g2⟩ := hf 2 _ rfl
  cases e0
  cases e1
  cases e2
  obtain ⟨a, k0, _⟩ := opens_int Try.underlying3 _ _ _ g0
  obtain ⟨b, k1, _⟩ := opens_int Try.underlying3 _ _ _ g1
  obtain ⟨l, k2, k2'⟩ := opens_slice Try.underlying48 (d := PFnExactSameMatrix.k111) c111 opens_F _ _ _ g2
  exact ⟨(a, b, l), ⟨[v0], [v1, v2], rfl, k0, [v1], [v2], rfl, k1, k2⟩, k2'⟩
theorem kO_open {w : World} {x : Int × Int × List PFnExactSameMatrix.S111} {cs : List Value} (h : kO.K w x cs) : ∃ A c, cs = [.int .i64 x.1, .int .i64 x.2.1, .slice A x.2.2.length c] ∧ x.2.2.length ≤ c ∧ PFnExactSameMatrix.k111.C w A x.2.2.length x.2.2 := by
  obtain ⟨_, _, rfl, rfl, _, _, rfl, rfl, ⟨A, c, rfl, h1, h2⟩⟩ := h
  exact ⟨A, c, rfl, h1, h2⟩
set_option maxRecDepth 100000 in
theorem lifted (os : Os) (started : os.Started) (H : Type) (enc : TypeId × Value → H) :
    ReturnsInHanded {} Try.checked os 9 .any (Rows.fnExactSameMatrixSpec.pre6 enc Try.prog Try.f9 Rows.fnExactSameMatrixRow.domain false) (Rows.fnExactSameMatrixSpec.post enc Try.prog Try.f9 false true false false) := by
  refine returnsInHanded_of_change_sized (C := Try.checked) own started (by kernel_rfl) Try.func9
    (ChangeSpec.witness6 (enc := enc) (C := Try.checked) false ⟨#[], #[.agg #[.int .i64 0, .int .i64 0, .slice none 0 0], .agg #[.int .i64 0, .int .i64 0, .slice none 0 0]], []⟩ 8 (by kernel_rfl) (by kernel_rfl) (by kernel_rfl) (by kernel_rfl)) ?_
  intro W base args ds gs before hval0 hW hcnd _ _
  have hval : ∀ (j : Nat) t v, Try.f9.params[j]? = some t → args[j]? = some v → Value.okWide Try.prog W .any base t v := hval0
  have hW' := hW
  obtain ⟨p, q, hA0, hV, rfl, hfz, hnd⟩ := hW
  have hA : DataW.TrodAll enc Try.prog W 0 (fun _ => true) true Try.f9.params.toList args.toList ds p := hA0
  rw [Try.params9] at hA hval
  obtain ⟨v0, vs0, d0, ds0, p0, q0, hargs, rfl, rfl, h0, r0⟩ := trodAll_cons hA
  obtain ⟨v1, vs1, d1, ds1, p1, q1, rfl, rfl, rfl, h1, r1⟩ := trodAll_cons r0
  obtain ⟨rfl, rfl, rfl⟩ := trodAll_nil r1
  obtain rfl : args = #[v0, v1] := by cases args; simp_all
  obtain ⟨rfl, rfl⟩ := trodVars_none hV
  have k0 := h0
  have k1 := h1
  have lt0 : ∀ x ∈ p0, x.block < W.heap.size := by obtain ⟨m, hm⟩ := k0; exact DataW.trod_lt m _ _ _ hm
  have lt1 : ∀ x ∈ p1, x.block < W.heap.size := by obtain ⟨m, hm⟩ := k1; exact DataW.trod_lt m _ _ _ hm
  obtain ⟨⟨e0, f0, l0⟩, cs0, rfl, K0, G0⟩ := open_agg Try.underlying50 (hval 0 50 v0 rfl rfl) opens_O h0
  obtain ⟨⟨e1, f1, l1⟩, cs1, rfl, K1, G1⟩ := open_agg Try.underlying50 (hval 1 50 v1 rfl rfl) opens_O h1
  obtain ⟨A0, c0, rfl, z0, C0⟩ := kO_open K0
  obtain ⟨A1, c1, rfl, z1, C1⟩ := kO_open K1
  clear hA0 hval0 K0 K1
  obtain ⟨k, hk⟩ := Pure.FnExactSameMatrix e0 f0 l0 e1 f1 l1 G0.1 G0.2 G1.1 G1.2
  refine (PFnExactSameMatrix.laws_FnExactSameMatrix.calls k e0 f0 A0 c0 l0 e1 f1 A1 c1 l1 true W C0 z0 C1 z1 hk).mono fun e W' ⟨he, bel⟩ => ?_
  subst he
  exact ⟨_, rfl, _, _, _, [], _, [], hW', trodAll_mk1 (shut_bool Try.underlying4 _), (trodAll_cons_mk (Below.trod laidOut (by kernel_rfl) (of_decide_eq_true (by kernel_rfl)) k0 bel lt0) (trodAll_cons_mk (Below.trod laidOut (by kernel_rfl) (of_decide_eq_true (by kernel_rfl)) k1 bel lt1) trodAll_mk0)), rfl, bel.frame _, fun h => by cases h⟩
theorem over : Rows.fnExactSameMatrixRow.holds Try.pinned (OpenSpec.ofChange Rows.fnExactSameMatrixSpec) :=
  OpenClaim.holds_of_wide 9 Try.f9 rfl rfl rfl rfl rfl rfl rfl ⟨rfl, rfl, rfl, rfl, rfl⟩ rfl rfl rfl rfl rfl (by kernel_rfl) Try.func9 (by kernel_rfl)
    (of_decide_eq_true (by kernel_rfl)) (by unfold Func.isWrapper; first | (rw [if_pos (by decide +kernel)]; kernel_rfl) | (rw [if_neg (by decide +kernel)]; exact ⟨rfl, rfl⟩))
    (fun os started H enc _ => lifted os started H enc)
end Go.Proofs.Ytpcjbnglolfaaaa.fnExactSameMatrix
namespace Go.Proofs.Ytpcjbnglolfaaaa
/-- The row, under a short name, for the claim. -/
theorem fnExactSameMatrix_holds : Rows.FnExactSameMatrixSaid := fnExactSameMatrix.over
#print axioms fnExactSameMatrix_holds
end Go.Proofs.Ytpcjbnglolfaaaa
