/- The law of ShowStep returns true and leaves its step as it was, whatever the step. -/
import Derived.Test.YtokhjlaomgimmaaDoorOpen
import Derived.Test.YtokhjlaomgimmaaDoorDoorBase
import Derived.Test.YtokhjlaomgimmaaDoorPureFnExactShowStep
import Derived.ShutString
import Derived.ChangeOld
import Derived.Below
import Derived.SizedLaws
namespace Go.Proofs.YtokhjlaomgimmaaDoor.fnExactShowStep
open Go.ChangeShapes Go.WideShapes Go.ChangeAt Go.RowKit Go.Proofs.YtokhjlaomgimmaaDoor.DoorBase Go.Proofs.YtokhjlaomgimmaaDoorW.PrintWords
open Go.ChangeMaps (open_string shut_string)
set_option linter.unusedVariables false
open Go.Proofs.YtokhjlaomgimmaaDoor.Open
/-- A step as a value. -/
def kStep : Kd (Int × Int × List Int × Int × Int × Int × ByteArray) := Kd.pair (Kd.int .i64) (Kd.pair (Kd.int .i64) (Kd.pair (Kd.slice 3 (Kd.int .i64)) (Kd.pair (Kd.int .i64) (Kd.pair (Kd.int .i64) (Kd.pair (Kd.int .i64) Kd.string)))))
def Good (x : Int × Int × List Int × Int × Int × Int × ByteArray) : Prop := (Lit.int .i64 x.2.1).wf = true ∧ (x.2.2.1.length ≤ maxLen ∧ ∀ z ∈ x.2.2.1, (Lit.int .i64 z).wf = true) ∧ (Lit.int .i64 x.2.2.2.1).wf = true ∧ (Lit.int .i64 x.2.2.2.2.1).wf = true ∧ (Lit.int .i64 x.2.2.2.2.2.1).wf = true ∧ x.2.2.2.2.2.2.size ≤ maxLen
theorem opens_step {H : Type} {enc : TypeId × Value → H} {w : World} : Opens enc Tryd.prog w 33 kStep Good := by
  intro n cs y h
  have c3 : Tryd.prog.cellsOf 3 = 1 := by kernel_rfl
  obtain ⟨hl, m, hf⟩ := struct_cells Tryd.underlying33 (by kernel_rfl) (by kernel_rfl) h
  obtain ⟨v0, v1, v2, v3, v4, v5, v6, rfl⟩ := list7 hl
  obtain ⟨_, y0, e0, g0⟩ := hf 0 _ rfl
  obtain ⟨_, y1, e1, g1⟩ := hf 1 _ rfl
  obtain ⟨_, y2, e2, g2⟩ := hf 2 _ rfl
  obtain ⟨_, y3, e3, g3⟩ := hf 3 _ rfl
  obtain ⟨_, y4, e4, g4⟩ := hf 4 _ rfl
  obtain ⟨_, y5, e5, g5⟩ := hf 5 _ rfl
  obtain ⟨_, y6, e6, g6⟩ := hf 6 _ rfl
  cases e0
  cases e1
  cases e2
  cases e3
  cases e4
  cases e5
  cases e6
  obtain ⟨a0, k0, _⟩ := opens_int Tryd.underlying3 _ _ _ g0
  obtain ⟨a1, k1, w1⟩ := opens_int Tryd.underlying3 _ _ _ g1
  obtain ⟨a2, k2, w2⟩ := opens_slice Tryd.underlying24 (d := Kd.int .i64) c3 (opens_int Tryd.underlying3) _ _ _ g2
  obtain ⟨a3, k3, w3⟩ := opens_int Tryd.underlying3 _ _ _ g3
  obtain ⟨a4, k4, w4⟩ := opens_int Tryd.underlying3 _ _ _ g4
  obtain ⟨a5, k5, w5⟩ := opens_int Tryd.underlying3 _ _ _ g5
  obtain ⟨a6, k6, w6⟩ := opens_string Tryd.underlying9 _ _ _ g6
  exact ⟨(a0, a1, a2, a3, a4, a5, a6), ⟨[v0], [v1, v2, v3, v4, v5, v6], rfl, k0, [v1], [v2, v3, v4, v5, v6], rfl, k1, [v2], [v3, v4, v5, v6], rfl, k2, [v3], [v4, v5, v6], rfl, k3, [v4], [v5, v6], rfl, k4, [v5], [v6], rfl, k5, k6⟩, w1, w2, w3, w4, w5, w6⟩
theorem kStep_open {w : World} {x : Int × Int × List Int × Int × Int × Int × ByteArray} {cs : List Value} (h : kStep.K w x cs) : ∃ A c, cs = [.int .i64 x.1, .int .i64 x.2.1, .slice A x.2.2.1.length c, .int .i64 x.2.2.2.1, .int .i64 x.2.2.2.2.1, .int .i64 x.2.2.2.2.2.1, .string x.2.2.2.2.2.2] ∧ x.2.2.1.length ≤ c ∧ (Kd.int .i64).C w A x.2.2.1.length x.2.2.1 := by
  obtain ⟨_, _, rfl, rfl, _, _, rfl, rfl, _, _, rfl, ⟨A, c, rfl, h1, h2⟩, _, _, rfl, rfl, _, _, rfl, rfl, _, _, rfl, rfl, rfl⟩ := h
  exact ⟨A, c, rfl, h1, h2⟩
theorem i64_of {n : Int} (h : (Lit.int .i64 n).wf = true) : Pure.ShowStep.I64 n := by
  unfold Pure.ShowStep.I64
  simpa [Lit.wf, IntKind.min, IntKind.max, IntKind.signed, IntKind.bits] using h
set_option maxRecDepth 100000 in
theorem contract (H : Type) (enc : TypeId × Value → H) (W : World) (base : Nat) (args : Array Value) (ds gs : List (DataW H)) (before : List MemPlace)
    (hval : ∀ (j : Nat) t v, Tryd.f4.params[j]? = some t → args[j]? = some v → Value.okWide Tryd.prog W .any base t v)
    (hW : DataW.Whole enc Tryd.prog Tryd.f4.params.toList Rows.fnExactShowStepSpec.vars false W args.toList ds gs before)
    (hsz : (DataW.weightsEach Tryd.prog (Tryd.f4.params.toList ++ Rows.fnExactShowStepSpec.plain.varTypes Tryd.prog) (ds ++ gs)).all (· ≤ reachBytes) = true)
    (hL : laidMetH Tryd.prog Rows.fnExactShowStepRow.laid W) (hsh : W.ShapedOpen Tryd.prog) :
    Calls Tryd.prog 4 args W fun e W' => ∃ v, e = .returned v ∧ Rows.fnExactShowStepSpec.post enc Tryd.prog Tryd.f4 false true false false W args v W' := by
  have hW' := hW
  obtain ⟨p, q, hA0, hV, rfl, hfz, hnd⟩ := hW
  have hA : DataW.TrodAll enc Tryd.prog W 0 (fun _ => true) true Tryd.f4.params.toList args.toList ds p := hA0
  rw [Tryd.params4] at hA hval hsz
  obtain ⟨v0, vs0, d0, ds0, p0, q0, hargs, rfl, rfl, h0, r0⟩ := trodAll_cons hA
  obtain ⟨rfl, rfl, rfl⟩ := trodAll_nil r0
  obtain rfl : args = #[v0] := by cases args; simp_all
  obtain ⟨rfl, rfl⟩ := trodVars_none hV
  have k0 := h0
  have lt0 : ∀ x ∈ p0, x.block < W.heap.size := by obtain ⟨m, hm⟩ := k0; exact DataW.trod_lt m _ _ _ hm
  obtain ⟨⟨a0, a1, a2, a3, a4, a5, a6⟩, cs0, rfl, K0, G0⟩ := open_agg Tryd.underlying33 (hval 0 33 v0 rfl rfl) opens_step h0
  obtain ⟨A2, c2, rfl, z2, C2⟩ := kStep_open K0
  obtain ⟨g1, g2, g3, g4, g5, g6⟩ := G0
  clear hA0 K0 hsz
  obtain ⟨k, hk⟩ := Pure.FnExactShowStep a0 a1 a2 a3 a4 a5 a6 (i64_of g1) g2.1 (fun z hz => i64_of (g2.2 z hz)) (i64_of g3) (i64_of g4) (i64_of g5) g6
  refine (PFnExactShowStep.laws_FnExactShowStep.calls k a0 a1 A2 c2 a2 a3 a4 a5 a6 true W C2 z2 hk (table hL)).mono fun e W' ⟨he, bel⟩ => ?_
  subst he
  exact ⟨_, rfl, _, _, _, [], _, [], hW', trodAll_mk1 (shut_bool Tryd.underlying4 _), (trodAll_cons_mk (Below.trod laidOut (by kernel_rfl) (of_decide_eq_true (by kernel_rfl)) k0 bel lt0) trodAll_mk0), rfl, bel.frame _, fun h => by cases h⟩
theorem reads (os : Os) {H : Type} (enc : TypeId × Value → H) : ∃ places, DataW.whole enc Tryd.prog ((laidWorld os).forCall (fun _ _ => 0) ⟨#[], #[.agg #[.int .i64 0, .int .i64 0, .slice none 0 0, .int .i64 0, .int .i64 0, .int .i64 0, .string ByteArray.empty]], []⟩).memory Tryd.f4.params.toList Rows.fnExactShowStepSpec.vars false #[.agg #[.int .i64 0, .int .i64 0, .slice none 0 0, .int .i64 0, .int .i64 0, .int .i64 0, .string ByteArray.empty]].toList 8 = some ([.agg [.lit (.int .i64 0), .lit (.int .i64 0), .nil, .lit (.int .i64 0), .lit (.int .i64 0), .lit (.int .i64 0), .lit (.string [])]], [], places) :=
  ⟨[], by kernel_rfl⟩
set_option maxRecDepth 100000 in
theorem lifted (os : Os) (started : os.Started) (H : Type) (enc : TypeId × Value → H) (F : Stop.Interp) :
    ReturnsInHanded {} Tryd.checked os 4 .any ((OpenSpec.ofChange Rows.fnExactShowStepSpec).preRow enc Tryd.prog Tryd.f4 Rows.fnExactShowStepRow.domain false Rows.fnExactShowStepRow.laid) (((OpenSpec.ofChange Rows.fnExactShowStepSpec).at F).post enc Tryd.prog Tryd.f4 false true false false) := by
  obtain ⟨places, hx⟩ := reads os enc
  refine returnsInHanded_of_row (C := Tryd.checked) (s := OpenSpec.ofChange Rows.fnExactShowStepSpec) own started (by kernel_rfl) Tryd.func4
    (witness_row_at (enc := enc) (C := Tryd.checked) false (laidWorld os) #[.agg #[.int .i64 0, .int .i64 0, .slice none 0 0, .int .i64 0, .int .i64 0, .int .i64 0, .string ByteArray.empty]] rfl (by kernel_rfl) (by kernel_rfl) (by kernel_rfl)
      (OpenSpec.preRow_of_cond 8 hx (by kernel_rfl) (fun k hk => by cases hk) (by kernel_rfl) (laid_met os _))) ?_
  intro W base args ds gs before hval hW _ _ hsz0 hL hsh _
  exact contract H enc W base args ds gs before hval hW hsz0 hL hsh
theorem said : Rows.FnExactShowStepSaid :=
  OpenClaim.holds_of_cond 4 Tryd.f4 rfl rfl rfl rfl rfl rfl rfl ⟨rfl, rfl, rfl, rfl, rfl⟩ rfl rfl rfl rfl rfl (by kernel_rfl) Tryd.func4 (by kernel_rfl)
    (of_decide_eq_true (by kernel_rfl)) (by unfold Func.isWrapper; first | (rw [if_pos (by decide +kernel)]; kernel_rfl) | (rw [if_neg (by decide +kernel)]; exact ⟨rfl, rfl⟩))
    (fun os started H enc _ F => by rw [OpenClaim.pre_eq_preRow]; exact lifted os started H enc F)
/-- No parameter wants a stand-in; the program's own looks are off: what the card asks. -/
theorem plain (f : FuncId) (fn : Func) (hf : Tryd.pinned.checked.prog.funcNamed "loop.example/g00121/laws.FnExactShowStep" = some f) (hfn : Tryd.pinned.checked.prog.funcs[f]? = some fn) :
    false = Tryd.pinned.checked.prog.looks [] ∧ ∀ (j : Nat) t, fn.params[j]? = some t → Tryd.pinned.checked.prog.wantsStandIn t = false := by
  obtain rfl : f = 4 := Option.some.inj ((show Tryd.prog.funcNamed "loop.example/g00121/laws.FnExactShowStep" = some 4 by kernel_rfl).symm.trans hf) |>.symm
  obtain rfl : fn = Tryd.f4 := (Option.some.inj (Tryd.func4.symm.trans hfn)).symm
  refine ⟨by kernel_rfl, fun j t ht => ?_⟩
  rw [Tryd.params4] at ht
  obtain rfl : t = 33 := by simpa using Array.mem_of_getElem? ht
  exact (show Tryd.prog.wantsStandIn 33 = false by kernel_rfl)
/-- The card: the row, with what it lists tied to the program's text. -/
theorem card : Rows.FnExactShowStepCardSaid :=
  Claim7.holds_tied_plain_at .later [] _ _ _ _ said (fun _ h => by cases h) (by kernel_rfl) (fun _ h => by cases h) fnExactShowStep_row_tie rfl ⟨rfl, rfl⟩ (by kernel_rfl) rfl plain (by kernel_rfl)
end Go.Proofs.YtokhjlaomgimmaaDoor.fnExactShowStep
namespace Go.Proofs.YtokhjlaomgimmaaDoor
/-- The card, under a short name, for the claim. -/
theorem fnExactShowStep_card : Rows.FnExactShowStepCardSaid := fnExactShowStep.card
#print axioms fnExactShowStep_card
end Go.Proofs.YtokhjlaomgimmaaDoor
