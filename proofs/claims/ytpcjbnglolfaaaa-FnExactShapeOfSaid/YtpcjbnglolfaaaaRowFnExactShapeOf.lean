/- The law of ShapeOf returns true and leaves its arguments as they were, whatever they are. -/
import Derived.Test.YtpcjbnglolfaaaaRows
import Derived.Test.YtpcjbnglolfaaaaQFnExactShapeOfx7
import Derived.Test.YtpcjbnglolfaaaaPureFnExactShapeOf
import Derived.Test.YtpcjbnglolfaaaaOpen
import Derived.WalkKit
import Derived.ProofKit
import Derived.OpenShut
import Derived.ShutString
import Derived.ChangeOld
import Derived.Below
import Derived.SizedLaws
namespace Go.Proofs.Ytpcjbnglolfaaaa.fnExactShapeOf
open Go.ChangeShapes Go.WideShapes Go.ChangeAt Go.RowKit Go.Proofs.Ytpcjbnglolfaaaa.Open Go.Proofs.YtpcjbnglolfaaaaW.PrintWords
open Go.ChangeMaps (open_string shut_string)
set_option linter.unusedVariables false
theorem own : ownKnob Try.prog.godebug = none := by kernel_rfl
theorem laidOut : laidOutB Try.prog = true := by kernel_rfl
/-- A shape as a value. -/
def kS : Kd (Int × Int) := Kd.pair (Kd.int .i64) (Kd.int .i64)
theorem opens_S {H : Type} {enc : TypeId × Value → H} {w : World} : Opens enc Try.prog w 62 kS (fun _ => True) := by
  intro n cs y h
  obtain ⟨hl, m, hf⟩ := struct_cells Try.underlying62 (by kernel_rfl) (by kernel_rfl) h
  obtain ⟨v0, v1, rfl⟩ := list2 hl
  obtain ⟨_, y0, e0, g0⟩ := hf 0 _ rfl
  obtain ⟨_, y1, e1, g1⟩ := hf 1 _ rfl
  cases e0
  cases e1
  obtain ⟨a, k0, _⟩ := opens_int Try.underlying3 _ _ _ g0
  obtain ⟨b, k1, _⟩ := opens_int Try.underlying3 _ _ _ g1
  exact ⟨(a, b), ⟨[v0], [v1], rfl, k0, k1⟩, trivial⟩
theorem kS_open {w : World} {x : Int × Int} {cs : List Value} (h : kS.K w x cs) : cs = [.int .i64 x.1, .int .i64 x.2] := by
  obtain ⟨_, _, rfl, rfl, rfl⟩ := h
  rfl
set_option maxRecDepth 100000 in
theorem lifted (os : Os) (started : os.Started) (H : Type) (enc : TypeId × Value → H) :
    ReturnsInHanded {} Try.checked os 11 .any (Rows.fnExactShapeOfSpec.pre6 enc Try.prog Try.f11 Rows.fnExactShapeOfRow.domain false) (Rows.fnExactShapeOfSpec.post enc Try.prog Try.f11 false true false false) := by
  refine returnsInHanded_of_change_sized (C := Try.checked) own started (by kernel_rfl) Try.func11
    (ChangeSpec.witness6 (enc := enc) (C := Try.checked) false ⟨#[], #[.int .i64 0, .agg #[.int .i64 0, .int .i64 0], .agg #[.int .i64 0, .int .i64 0]], []⟩ 8 (by kernel_rfl) (by kernel_rfl) (by kernel_rfl) (by kernel_rfl)) ?_
  intro W base args ds gs before hval0 hW hcnd _ _
  have hval : ∀ (j : Nat) t v, Try.f11.params[j]? = some t → args[j]? = some v → Value.okWide Try.prog W .any base t v := hval0
  have hW' := hW
  obtain ⟨p, q, hA0, hV, rfl, hfz, hnd⟩ := hW
  have hA : DataW.TrodAll enc Try.prog W 0 (fun _ => true) true Try.f11.params.toList args.toList ds p := hA0
  rw [Try.params11] at hA hval
  obtain ⟨v0, vs0, d0, ds0, p0, q0, hargs, rfl, rfl, h0, r0⟩ := trodAll_cons hA
  obtain ⟨v1, vs1, d1, ds1, p1, q1, rfl, rfl, rfl, h1, r1⟩ := trodAll_cons r0
  obtain ⟨v2, vs2, d2, ds2, p2, q2, rfl, rfl, rfl, h2, r2⟩ := trodAll_cons r1
  obtain ⟨rfl, rfl, rfl⟩ := trodAll_nil r2
  obtain rfl : args = #[v0, v1, v2] := by cases args; simp_all
  obtain ⟨rfl, rfl⟩ := trodVars_none hV
  have k0 := h0
  have k1 := h1
  have k2 := h2
  have lt0 : ∀ x ∈ p0, x.block < W.heap.size := by obtain ⟨m, hm⟩ := k0; exact DataW.trod_lt m _ _ _ hm
  have lt1 : ∀ x ∈ p1, x.block < W.heap.size := by obtain ⟨m, hm⟩ := k1; exact DataW.trod_lt m _ _ _ hm
  have lt2 : ∀ x ∈ p2, x.block < W.heap.size := by obtain ⟨m, hm⟩ := k2; exact DataW.trod_lt m _ _ _ hm
  obtain ⟨K, rfl, _, _, _⟩ := open_int Try.underlying3 (hval 0 3 v0 rfl rfl) h0
  obtain ⟨⟨a, b⟩, cs1, rfl, K1, _⟩ := open_agg Try.underlying62 (hval 1 62 v1 rfl rfl) opens_S h1
  obtain ⟨⟨c, d⟩, cs2, rfl, K2, _⟩ := open_agg Try.underlying62 (hval 2 62 v2 rfl rfl) opens_S h2
  obtain rfl := kS_open K1
  obtain rfl := kS_open K2
  clear hA0 hval0 K1 K2
  refine (PFnExactShapeOf.laws_FnExactShapeOf.calls 10 K a b c d W (Pure.FnExactShapeOf K a b c d)).mono fun e W' ⟨he, bel⟩ => ?_
  subst he
  exact ⟨_, rfl, _, _, _, [], _, [], hW', trodAll_mk1 (shut_bool Try.underlying4 _), (trodAll_cons_mk (Below.trod laidOut (by kernel_rfl) (of_decide_eq_true (by kernel_rfl)) k0 bel lt0) (trodAll_cons_mk (Below.trod laidOut (by kernel_rfl) (of_decide_eq_true (by kernel_rfl)) k1 bel lt1) (trodAll_cons_mk (Below.trod laidOut (by kernel_rfl) (of_decide_eq_true (by kernel_rfl)) k2 bel lt2) trodAll_mk0))), rfl, bel.frame _, fun h => by cases h⟩
theorem over : Rows.fnExactShapeOfRow.holds Try.pinned (OpenSpec.ofChange Rows.fnExactShapeOfSpec) :=
  OpenClaim.holds_of_wide 11 Try.f11 rfl rfl rfl rfl rfl rfl rfl ⟨rfl, rfl, rfl, rfl, rfl⟩ rfl rfl rfl rfl rfl (by kernel_rfl) Try.func11 (by kernel_rfl)
    (of_decide_eq_true (by kernel_rfl)) (by unfold Func.isWrapper; first | (rw [if_pos (by decide +kernel)]; kernel_rfl) | (rw [if_neg (by decide +kernel)]; exact ⟨rfl, rfl⟩))
    (fun os started H enc _ => lifted os started H enc)
end Go.Proofs.Ytpcjbnglolfaaaa.fnExactShapeOf
namespace Go.Proofs.Ytpcjbnglolfaaaa
/-- The row, under a short name, for the claim. -/
theorem fnExactShapeOf_holds : Rows.FnExactShapeOfSaid := fnExactShapeOf.over
#print axioms fnExactShapeOf_holds
end Go.Proofs.Ytpcjbnglolfaaaa
