/- The law of SameOutcome returns true and leaves its two outcomes as they were, whatever they are. -/
import Derived.Test.YtpcjbnglolfaaaaRows
import Derived.Test.YtpcjbnglolfaaaaPFnExactSameOutcomex3
import Derived.Test.YtpcjbnglolfaaaaPureFnExactSameOutcome
import Derived.Test.YtpcjbnglolfaaaaOpen
import Derived.WalkKit
import Derived.ProofKit
import Derived.OpenShut
import Derived.ShutString
import Derived.ChangeOld
import Derived.Below
import Derived.SizedLaws
namespace Go.Proofs.Ytpcjbnglolfaaaa.fnExactSameOutcome
open Go.ChangeShapes Go.WideShapes Go.ChangeAt Go.RowKit Go.Proofs.Ytpcjbnglolfaaaa.Open Go.Proofs.YtpcjbnglolfaaaaW.PrintWords
open Go.ChangeMaps (open_string shut_string)
set_option linter.unusedVariables false
theorem own : ownKnob Try.prog.godebug = none := by kernel_rfl
theorem laidOut : laidOutB Try.prog = true := by kernel_rfl
/-- An outcome as a value. -/
def kO : Kd (Int × List ByteArray × Int) := Kd.pair (Kd.int .i64) (Kd.pair (Kd.slice 9 Kd.string) (Kd.int .i64))
theorem opens_O {H : Type} {enc : TypeId × Value → H} {w : World} : Opens enc Try.prog w 35 kO (fun x => (x.2.1.length ≤ maxLen ∧ ∀ s ∈ x.2.1, s.size ≤ maxLen)) := by
  intro n cs y h
  have c9 : Try.prog.cellsOf 9 = 1 := by kernel_rfl
  obtain ⟨hl, m, hf⟩ := struct_cells Try.underlying35 (by kernel_rfl) (by kernel_rfl) h
  obtain ⟨v0, v1, v2, rfl⟩ := list3 hl
  obtain ⟨_, y0, e0, g0⟩ := hf 0 _ rfl
  obtain ⟨_, y1, e1, g1⟩ := hf 1 _ rfl
  obtain ⟨_, y2, e2, g2⟩ := hf 2 _ rfl
  cases e0
  cases e1
  cases e2
  obtain ⟨a, k0, _⟩ := opens_int Try.underlying3 _ _ _ g0
  obtain ⟨l, k1, k1'⟩ := opens_slice Try.underlying33 (d := Kd.string) c9 (opens_string Try.underlying9) _ _ _ g1
  obtain ⟨b, k2, _⟩ := opens_int Try.underlying3 _ _ _ g2
  exact ⟨(a, l, b), ⟨[v0], [v1, v2], rfl, k0, [v1], [v2], rfl, k1, k2⟩, k1'⟩
theorem kO_open {w : World} {x : Int × List ByteArray × Int} {cs : List Value} (h : kO.K w x cs) : ∃ A c, cs = [.int .i64 x.1, .slice A x.2.1.length c, .int .i64 x.2.2] ∧ x.2.1.length ≤ c ∧ Kd.string.C w A x.2.1.length x.2.1 := by
  obtain ⟨_, _, rfl, rfl, _, _, rfl, ⟨A, c, rfl, h1, h2⟩, rfl⟩ := h
  exact ⟨A, c, rfl, h1, h2⟩
set_option maxRecDepth 100000 in
theorem lifted (os : Os) (started : os.Started) (H : Type) (enc : TypeId × Value → H) :
    ReturnsInHanded {} Try.checked os 6 .any (Rows.fnExactSameOutcomeSpec.pre6 enc Try.prog Try.f6 Rows.fnExactSameOutcomeRow.domain false) (Rows.fnExactSameOutcomeSpec.post enc Try.prog Try.f6 false true false false) := by
  refine returnsInHanded_of_change_sized (C := Try.checked) own started (by kernel_rfl) Try.func6
    (ChangeSpec.witness6 (enc := enc) (C := Try.checked) false ⟨#[], #[.agg #[.int .i64 0, .slice none 0 0, .int .i64 0], .agg #[.int .i64 0, .slice none 0 0, .int .i64 0]], []⟩ 8 (by kernel_rfl) (by kernel_rfl) (by kernel_rfl) (by kernel_rfl)) ?_
  intro W base args ds gs before hval0 hW hcnd _ _
  have hval : ∀ (j : Nat) t v, Try.f6.params[j]? = some t → args[j]? = some v → Value.okWide Try.prog W .any base t v := hval0
  have hW' := hW
  obtain ⟨p, q, hA0, hV, rfl, hfz, hnd⟩ := hW
  have hA : DataW.TrodAll enc Try.prog W 0 (fun _ => true) true Try.f6.params.toList args.toList ds p := hA0
  rw [Try.params6] at hA hval
  obtain ⟨v0, vs0, d0, ds0, p0, q0, hargs, rfl, rfl, h0, r0⟩ := trodAll_cons hA
  obtain ⟨v1, vs1, d1, ds1, p1, q1, rfl, rfl, rfl, h1, r1⟩ := trodAll_cons r0
  obtain ⟨rfl, rfl, rfl⟩ := trodAll_nil r1
  obtain rfl : args = #[v0, v1] := by cases args; simp_all
  obtain ⟨rfl, rfl⟩ := trodVars_none hV
  have k0 := h0
  have k1 := h1
  have lt0 : ∀ x ∈ p0, x.block < W.heap.size := by obtain ⟨m, hm⟩ := k0; exact DataW.trod_lt m _ _ _ hm
  have lt1 : ∀ x ∈ p1, x.block < W.heap.size := by obtain ⟨m, hm⟩ := k1; exact DataW.trod_lt m _ _ _ hm
  obtain ⟨⟨e0, l0, f0⟩, cs0, rfl, K0, G0⟩ := open_agg Try.underlying35 (hval 0 35 v0 rfl rfl) opens_O h0
  obtain ⟨⟨e1, l1, f1⟩, cs1, rfl, K1, G1⟩ := open_agg Try.underlying35 (hval 1 35 v1 rfl rfl) opens_O h1
  obtain ⟨A0, c0, rfl, z0, C0⟩ := kO_open K0
  obtain ⟨A1, c1, rfl, z1, C1⟩ := kO_open K1
  clear hA0 hval0 K0 K1
  obtain ⟨k, hk⟩ := Pure.FnExactSameOutcome e0 l0 f0 e1 l1 f1 G0.1 G0.2 G1.1 G1.2
  refine (PFnExactSameOutcome.laws_FnExactSameOutcome.calls k e0 A0 c0 l0 f0 e1 A1 c1 l1 f1 true W C0 z0 C1 z1 hk).mono fun e W' ⟨he, bel⟩ => ?_
  subst he
  exact ⟨_, rfl, _, _, _, [], _, [], hW', trodAll_mk1 (shut_bool Try.underlying4 _), (trodAll_cons_mk (Below.trod laidOut (by kernel_rfl) (of_decide_eq_true (by kernel_rfl)) k0 bel lt0) (trodAll_cons_mk (Below.trod laidOut (by kernel_rfl) (of_decide_eq_true (by kernel_rfl)) k1 bel lt1) trodAll_mk0)), rfl, bel.frame _, fun h => by cases h⟩
theorem over : Rows.fnExactSameOutcomeRow.holds Try.pinned (OpenSpec.ofChange Rows.fnExactSameOutcomeSpec) :=
  OpenClaim.holds_of_wide 6 Try.f6 rfl rfl rfl rfl rfl rfl rfl ⟨rfl, rfl, rfl, rfl, rfl⟩ rfl rfl rfl rfl rfl (by kernel_rfl) Try.func6 (by kernel_rfl)
    (of_decide_eq_true (by kernel_rfl)) (by unfold Func.isWrapper; first | (rw [if_pos (by decide +kernel)]; kernel_rfl) | (rw [if_neg (by decide +kernel)]; exact ⟨rfl, rfl⟩))
    (fun os started H enc _ => lifted os started H enc)
end Go.Proofs.Ytpcjbnglolfaaaa.fnExactSameOutcome
namespace Go.Proofs.Ytpcjbnglolfaaaa
/-- The row, under a short name, for the claim. -/
theorem fnExactSameOutcome_holds : Rows.FnExactSameOutcomeSaid := fnExactSameOutcome.over
#print axioms fnExactSameOutcome_holds
end Go.Proofs.Ytpcjbnglolfaaaa
