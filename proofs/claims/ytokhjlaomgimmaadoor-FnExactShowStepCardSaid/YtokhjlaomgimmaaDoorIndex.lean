/- An element of an array value of strings, at a place within it. -/
import Derived.Test.YtokhjlaomgimmaaDoorWWords
namespace Go.Proofs.YtokhjlaomgimmaaDoorW.PrintWords
open Go.RowKit
namespace Kd
section
variable {P : Program} {ops : Array Oper} {rest : List Oper} {o : Oper} {a : Act} {Q : Exit → Act → World → Prop}
theorem index_event {W : World} (hgd : o.guard = none) {N : Tmp} (_hd : o.dst = some N) (t : TypeId) (x y : Operand) (ho : o.op = .index t x y) {cs : Array Value} {i : Int} (hx : a.eval x = .agg cs) (hy : a.eval y = .int .i64 i)
    {n e : Nat} (ht : P.underlying t = some (.array n e)) (he : P.underlying e = some .string) {z : Option Value × Nat × Nat} (hi : (P.info? e).map (fun i => (i.zero, i.size, i.bytes)) = some z) (hz : P.cellsOf e = 1) (h0 : 0 ≤ i) (h1 : i < n) {s : ByteArray} (hc : cs[i.toNat]? = some (.string s))
    (h : wpList P ops Q rest (a.put o.dst (.string s)) W) : wpList P ops Q (o :: rest) a W := by
  refine event_run hgd ?_ h
  have hr : (Instr.index t (.agg cs) (.int .i64 i)).run P W = .ok (.string s) W := by
    obtain ⟨inf, hi, _⟩ := Option.map_eq_some_iff.1 hi
    have hif : (0 ≤ i ∧ i < (n : Int)) := ⟨h0, h1⟩
    simp [Instr.index, run_underlying ht, asIntOf, hif, part, isAgg, run_underlying he, run_sizeOf W hi, hz, hc]
  simp [execOp, ho, hx, hy, hr]
end
end Kd
end Go.Proofs.YtokhjlaomgimmaaDoorW.PrintWords
