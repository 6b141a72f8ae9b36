/- The law of SameTree returns true and leaves its two lists of nodes as they were, whatever they are. -/
import Derived.Test.YtokhjlaomgimmaaRows
import Derived.Test.YtokhjlaomgimmaaQFnExactSameTreex8
import Derived.Test.YtokhjlaomgimmaaPureFnExactSameTree
import Derived.Test.YtokhjlaomgimmaaOpen
import Derived.WalkKit
import Derived.ProofKit
import Derived.OpenShut
import Derived.ShutString
import Derived.ChangeOld
import Derived.Below
import Derived.SizedLaws
namespace Go.Proofs.Ytokhjlaomgimmaa.fnExactSameTree
open Go.ChangeShapes Go.WideShapes Go.ChangeAt Go.RowKit Go.Proofs.Ytokhjlaomgimmaa.Open Go.Proofs.YtokhjlaomgimmaaW.PrintWords
open Go.ChangeMaps (open_string shut_string)
open PFnExactSameTree
set_option linter.unusedVariables false
theorem own : ownKnob Try.prog.godebug = none := by kernel_rfl
theorem laidOut : laidOutB Try.prog = true := by kernel_rfl
/-- A fraction that can be read. -/
theorem opens_F {H : Type} {enc : TypeId × Value → H} {w : World} : Opens enc Try.prog w 82 k82 (fun x => x.f0.size ≤ maxLen ∧ x.f1.size ≤ maxLen) := by
  intro n cs y h
  obtain ⟨hl, m, hf⟩ := struct_cells Try.underlying82 (by kernel_rfl) (by kernel_rfl) h
  obtain ⟨v0, v1, rfl⟩ := list2 hl
  obtain ⟨_, y0, e0, g0⟩ := hf 0 _ rfl
  obtain ⟨_, y1, e1, g1⟩ := hf 1 _ rfl
  cases e0
  cases e1
  obtain ⟨a, k0, z0⟩ := opens_string Try.underlying9 _ _ _ g0
  obtain ⟨b, k1, z1⟩ := opens_string Try.underlying9 _ _ _ g1
  exact ⟨⟨a, b⟩, ⟨[v0], [v1], rfl, k0, k1⟩, z0, z1⟩
/-- A matrix that can be read. -/
theorem opens_M {H : Type} {enc : TypeId × Value → H} {w : World} : Opens enc Try.prog w 50 k50 (fun x => (x.f2.length ≤ maxLen ∧ ∀ s ∈ x.f2, s.f0.size ≤ maxLen ∧ s.f1.size ≤ maxLen)) := by
  intro n cs y h
  have c82 : Try.prog.cellsOf 82 = 2 := by kernel_rfl
  obtain ⟨hl, m, hf⟩ := struct_cells Try.underlying50 (by kernel_rfl) (by kernel_rfl) h
  obtain ⟨v0, v1, v2, rfl⟩ := list3 hl
  obtain ⟨_, y0, e0, g0⟩ := hf 0 _ rfl
  obtain ⟨_, y1, e1, g1⟩ := hf 1 _ rfl
  obtain ⟨_, y2, e2, g2⟩ := hf 2 _ rfl
  cases e0
  cases e1
  cases e2
  obtain ⟨a, k0, _⟩ := opens_int Try.underlying3 _ _ _ g0
  obtain ⟨b, k1, _⟩ := opens_int Try.underlying3 _ _ _ g1
  obtain ⟨l, k2, k2'⟩ := opens_slice Try.underlying48 (d := k82) c82 opens_F _ _ _ g2
  exact ⟨⟨a, b, l⟩, ⟨[v0], [v1, v2], rfl, k0, [v1], [v2], rfl, k1, k2⟩, k2'⟩
theorem list10 {α : Type} {l : List α} (h : l.length = 10) : ∃ v0 v1 v2 v3 v4 v5 v6 v7 v8 v9, l = [v0, v1, v2, v3, v4, v5, v6, v7, v8, v9] := by
  match l, h with
  | [v0, v1, v2, v3, v4, v5, v6, v7, v8, v9], _ => exact ⟨v0, v1, v2, v3, v4, v5, v6, v7, v8, v9, rfl⟩
/-- A node that can be read. -/
theorem opens_N {H : Type} {enc : TypeId × Value → H} {w : World} : Opens enc Try.prog w 52 k52 Pure.SameTree.Fits := by
  intro n cs y h
  have c52 : Try.prog.cellsOf 52 = 10 := by kernel_rfl
  have c3 : Try.prog.cellsOf 3 = 1 := by kernel_rfl
  have c9 : Try.prog.cellsOf 9 = 1 := by kernel_rfl
  have c47 : Try.prog.cellsOf 47 = 1 := by kernel_rfl
  have c50 : Try.prog.cellsOf 50 = 3 := by kernel_rfl
  obtain ⟨ys, m, _, _, hlen, hyl, hf⟩ := DataW.trod_struct Try.underlying52 h
  rw [c52] at hlen
  obtain ⟨v0, v1, v2, v3, v4, v5, v6, v7, v8, v9, rfl⟩ := list10 hlen
  have hy : ∀ i, i < 8 → ∃ z, ys[i]? = some z := fun i hi => ⟨_, List.getElem?_eq_getElem (show i < ys.length by rw [hyl]; exact hi)⟩
  obtain ⟨z0, hz0⟩ := hy 0 (by omega)
  obtain ⟨z1, hz1⟩ := hy 1 (by omega)
  obtain ⟨z2, hz2⟩ := hy 2 (by omega)
  obtain ⟨z3, hz3⟩ := hy 3 (by omega)
  obtain ⟨z4, hz4⟩ := hy 4 (by omega)
  obtain ⟨z5, hz5⟩ := hy 5 (by omega)
  obtain ⟨z6, hz6⟩ := hy 6 (by omega)
  obtain ⟨z7, hz7⟩ := hy 7 (by omega)
  have g0 : DataW.trod enc Try.prog w 0 (fun _ => true) true m 3 (([v0, v1, v2, v3, v4, v5, v6, v7, v8, v9].drop 0).take (Try.prog.cellsOf 3)) = some z0 := (hf 0 _ rfl).trans hz0
  rw [c3] at g0
  replace g0 : DataW.trod enc Try.prog w 0 (fun _ => true) true m 3 [v0] = some z0 := g0
  have g1 : DataW.trod enc Try.prog w 0 (fun _ => true) true m 3 (([v0, v1, v2, v3, v4, v5, v6, v7, v8, v9].drop 1).take (Try.prog.cellsOf 3)) = some z1 := (hf 1 _ rfl).trans hz1
  rw [c3] at g1
  replace g1 : DataW.trod enc Try.prog w 0 (fun _ => true) true m 3 [v1] = some z1 := g1
  have g2 : DataW.trod enc Try.prog w 0 (fun _ => true) true m 3 (([v0, v1, v2, v3, v4, v5, v6, v7, v8, v9].drop 2).take (Try.prog.cellsOf 3)) = some z2 := (hf 2 _ rfl).trans hz2
  rw [c3] at g2
  replace g2 : DataW.trod enc Try.prog w 0 (fun _ => true) true m 3 [v2] = some z2 := g2
  have g3 : DataW.trod enc Try.prog w 0 (fun _ => true) true m 3 (([v0, v1, v2, v3, v4, v5, v6, v7, v8, v9].drop 3).take (Try.prog.cellsOf 3)) = some z3 := (hf 3 _ rfl).trans hz3
  rw [c3] at g3
  replace g3 : DataW.trod enc Try.prog w 0 (fun _ => true) true m 3 [v3] = some z3 := g3
  have g4 : DataW.trod enc Try.prog w 0 (fun _ => true) true m 47 (([v0, v1, v2, v3, v4, v5, v6, v7, v8, v9].drop 4).take (Try.prog.cellsOf 47)) = some z4 := (hf 4 _ rfl).trans hz4
  rw [c47] at g4
  replace g4 : DataW.trod enc Try.prog w 0 (fun _ => true) true m 47 [v4] = some z4 := g4
  have g5 : DataW.trod enc Try.prog w 0 (fun _ => true) true m 9 (([v0, v1, v2, v3, v4, v5, v6, v7, v8, v9].drop 5).take (Try.prog.cellsOf 9)) = some z5 := (hf 5 _ rfl).trans hz5
  rw [c9] at g5
  replace g5 : DataW.trod enc Try.prog w 0 (fun _ => true) true m 9 [v5] = some z5 := g5
  have g6 : DataW.trod enc Try.prog w 0 (fun _ => true) true m 50 (([v0, v1, v2, v3, v4, v5, v6, v7, v8, v9].drop 6).take (Try.prog.cellsOf 50)) = some z6 := (hf 6 _ rfl).trans hz6
  rw [c50] at g6
  replace g6 : DataW.trod enc Try.prog w 0 (fun _ => true) true m 50 [v6, v7, v8] = some z6 := g6
  have g7 : DataW.trod enc Try.prog w 0 (fun _ => true) true m 3 (([v0, v1, v2, v3, v4, v5, v6, v7, v8, v9].drop 9).take (Try.prog.cellsOf 3)) = some z7 := (hf 7 _ rfl).trans hz7
  rw [c3] at g7
  replace g7 : DataW.trod enc Try.prog w 0 (fun _ => true) true m 3 [v9] = some z7 := g7
  obtain ⟨a0, k0, _⟩ := opens_int Try.underlying3 _ _ _ g0
  obtain ⟨a1, k1, _⟩ := opens_int Try.underlying3 _ _ _ g1
  obtain ⟨a2, k2, _⟩ := opens_int Try.underlying3 _ _ _ g2
  obtain ⟨a3, k3, _⟩ := opens_int Try.underlying3 _ _ _ g3
  obtain ⟨a4, k4, w4⟩ := opens_slice Try.underlying47 (d := Kd.int .i64) c3 (opens_int Try.underlying3) _ _ _ g4
  obtain ⟨a5, k5, w5⟩ := opens_string Try.underlying9 _ _ _ g5
  obtain ⟨a6, k6, w6⟩ := opens_M _ _ _ g6
  obtain ⟨a7, k7, _⟩ := opens_int Try.underlying3 _ _ _ g7
  exact ⟨⟨a0, a1, a2, a3, a4, a5, a6, a7⟩, ⟨[v0], [v1, v2, v3, v4, v5, v6, v7, v8, v9], rfl, k0, [v1], [v2, v3, v4, v5, v6, v7, v8, v9], rfl, k1, [v2], [v3, v4, v5, v6, v7, v8, v9], rfl, k2, [v3], [v4, v5, v6, v7, v8, v9], rfl, k3, [v4], [v5, v6, v7, v8, v9], rfl, k4, [v5], [v6, v7, v8, v9], rfl, k5, [v6, v7, v8], [v9], rfl, k6, k7⟩, w4.1, w5, w6.1, w6.2⟩
theorem opens_T {H : Type} {enc : TypeId × Value → H} {w : World} : Opens enc Try.prog w 30 (Kd.slice 52 k52) (fun l => l.length ≤ maxLen ∧ ∀ x ∈ l, Pure.SameTree.Fits x) := by
  have c52 : Try.prog.cellsOf 52 = 10 := by kernel_rfl
  exact opens_slice Try.underlying30 (d := k52) c52 opens_N
/-- An argument that is a list of nodes. -/
theorem open_list {H : Type} {enc : TypeId × Value → H} {w : World} {a : Option Addr} {len cap : Nat} {D : DataW H} {p : List MemPlace} (h : DataW.Trod enc Try.prog w 0 (fun _ => true) true 30 (.slice a len cap) D p) :
    ∃ l : List S52, len = l.length ∧ l.length ≤ cap ∧ Kd.C k52 w a l.length l ∧ l.length ≤ maxLen ∧ ∀ x ∈ l, Pure.SameTree.Fits x := by
  obtain ⟨fuel, hf⟩ := h
  obtain ⟨l, ⟨A, c, e, z, C⟩, G⟩ := opens_T _ _ _ hf
  have e' : (Value.slice a len cap) = .slice A l.length c := by
    simpa [Value.cells] using e
  injection e' with e1 e2 e3
  subst e1 e3
  exact ⟨l, e2, z, C, G.1, G.2⟩
set_option maxRecDepth 100000 in
theorem lifted (os : Os) (started : os.Started) (H : Type) (enc : TypeId × Value → H) :
    ReturnsInHanded {} Try.checked os 4 .any (Rows.fnExactSameTreeSpec.pre6 enc Try.prog Try.f4 Rows.fnExactSameTreeRow.domain false) (Rows.fnExactSameTreeSpec.post enc Try.prog Try.f4 false true false false) := by
  refine returnsInHanded_of_change_sized (C := Try.checked) own started (by kernel_rfl) Try.func4
    (ChangeSpec.witness6 (enc := enc) (C := Try.checked) false ⟨#[], #[.slice none 0 0, .slice none 0 0], []⟩ 8 (by kernel_rfl) (by kernel_rfl) (by kernel_rfl) (by kernel_rfl)) ?_
  intro W base args ds gs before hval0 hW hcnd _ _
  have hval : ∀ (j : Nat) t v, Try.f4.params[j]? = some t → args[j]? = some v → Value.okWide Try.prog W .any base t v := hval0
  have hW' := hW
  obtain ⟨p, q, hA0, hV, rfl, hfz, hnd⟩ := hW
  have hA : DataW.TrodAll enc Try.prog W 0 (fun _ => true) true Try.f4.params.toList args.toList ds p := hA0
  rw [Try.params4] at hA hval
  obtain ⟨v0, vs0, d0, ds0, p0, q0, hargs, rfl, rfl, h0, r0⟩ := trodAll_cons hA
  obtain ⟨v1, vs1, d1, ds1, p1, q1, rfl, rfl, rfl, h1, r1⟩ := trodAll_cons r0
  obtain ⟨rfl, rfl, rfl⟩ := trodAll_nil r1
  obtain rfl : args = #[v0, v1] := by cases args; simp_all
  obtain ⟨rfl, rfl⟩ := trodVars_none hV
  obtain ⟨a0, len0, cap0, rfl⟩ := okWide_slice Try.underlying30 (hval 0 30 v0 rfl rfl)
  obtain ⟨a1, len1, cap1, rfl⟩ := okWide_slice Try.underlying30 (hval 1 30 v1 rfl rfl)
  have k0 := h0
  have k1 := h1
  have lt0 : ∀ x ∈ p0, x.block < W.heap.size := by obtain ⟨m, hm⟩ := k0; exact DataW.trod_lt m _ _ _ hm
  have lt1 : ∀ x ∈ p1, x.block < W.heap.size := by obtain ⟨m, hm⟩ := k1; exact DataW.trod_lt m _ _ _ hm
  obtain ⟨l0, rfl, z0, C0, m0, G0⟩ := open_list h0
  obtain ⟨l1, rfl, z1, C1, m1, G1⟩ := open_list h1
  clear hA0 hval0
  obtain ⟨k, hk⟩ := Pure.FnExactSameTree l0 l1 m0 G0 m1 G1
  refine (PFnExactSameTree.laws_FnExactSameTree.calls k a0 cap0 l0 a1 cap1 l1 true W C0 z0 C1 z1 hk).mono fun e W' ⟨he, bel⟩ => ?_
  subst he
  exact ⟨_, rfl, _, _, _, [], _, [], hW', trodAll_mk1 (shut_bool Try.underlying4 _), (trodAll_cons_mk (Below.trod laidOut (by kernel_rfl) (of_decide_eq_true (by kernel_rfl)) k0 bel lt0) (trodAll_cons_mk (Below.trod laidOut (by kernel_rfl) (of_decide_eq_true (by kernel_rfl)) k1 bel lt1) trodAll_mk0)), rfl, bel.frame _, fun h => by cases h⟩
theorem over : Rows.fnExactSameTreeRow.holds Try.pinned (OpenSpec.ofChange Rows.fnExactSameTreeSpec) :=
  OpenClaim.holds_of_wide 4 Try.f4 rfl rfl rfl rfl rfl rfl rfl ⟨rfl, rfl, rfl, rfl, rfl⟩ rfl rfl rfl rfl rfl (by kernel_rfl) Try.func4 (by kernel_rfl)
    (of_decide_eq_true (by kernel_rfl)) (by unfold Func.isWrapper; first | (rw [if_pos (by decide +kernel)]; kernel_rfl) | (rw [if_neg (by decide +kernel)]; exact ⟨rfl, rfl⟩))
    (fun os started H enc _ => lifted os started H enc)
end Go.Proofs.Ytokhjlaomgimmaa.fnExactSameTree
namespace Go.Proofs.Ytokhjlaomgimmaa
/-- The row, under a short name, for the claim. -/
theorem fnExactSameTree_holds : Rows.FnExactSameTreeSaid := fnExactSameTree.over
#print axioms fnExactSameTree_holds
end Go.Proofs.Ytokhjlaomgimmaa
