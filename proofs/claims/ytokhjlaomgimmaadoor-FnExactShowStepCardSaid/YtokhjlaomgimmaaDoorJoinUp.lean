/- strings.Join by the shelf's contract, at a row of the call's own. -/
import Derived.Test.YtokhjlaomgimmaaDoorWWords
import Derived.Test.YtokhjlaomgimmaaDoorShelfJoin
namespace Go.Proofs.YtokhjlaomgimmaaDoorW.PrintWords
open Go.RowKit
/-- strings.Join's answer, where the parts are some and the answer is not beyond all bounds. -/
def joinF (l : List ByteArray) (sep : ByteArray) : Option ByteArray := if 0 < l.length ∧ l.length ≤ 140737488355328 ∧ (Lib.join (l.map (·.data.toList)) sep.data.toList).length ≤ 140737488355328 then some ⟨(Lib.join (l.map (·.data.toList)) sep.data.toList).toArray⟩ else none
theorem Kd.R_plain {α : Type} {d : Kd α} {e : Nat} {w : World} {base : Nat} {ok : Nat → Prop} {A : Option Addr} {n c : Nat} {xs : List α} (h : d.R e w base ok (.slice A n c) xs) : ∀ ad, A = some ad → ∃ b o, ad = ⟨b, o, none⟩ := by
  obtain ⟨inner, _, ho⟩ := Kd.R_own h
  intro ad had
  subst had
  rcases ho with ⟨e, _⟩ | ⟨g, cap, cur, e, _⟩
  · cases e
  · cases e
    exact ⟨g, 0, rfl⟩
theorem join_calls (A0 : Option Addr) (c0 : Nat) (l0 : List ByteArray) (a1 : ByteArray) (r : ByteArray) (w : World) (hr0 : Kd.C Kd.string w A0 l0.length l0) (hc0 : l0.length ≤ c0) (hn0 : ∀ ad, A0 = some ad → ∃ b o, ad = ⟨b, o, none⟩) (h : joinF l0 a1 = some r) :
    Calls Tryd.prog 46 #[.slice A0 l0.length c0, .string a1] w fun e w' => e = .returned (.string r) ∧ Below w.heap.size w w' := by
  unfold joinF at h
  by_cases hn : 0 < l0.length ∧ l0.length ≤ 140737488355328 ∧ (Lib.join (l0.map (·.data.toList)) a1.data.toList).length ≤ 140737488355328
  · rw [if_pos hn] at h
    have e0 := Option.some.inj h
    have at_ := fun (j : Nat) (hj : j < l0.length) => Kd.at_string hr0 (j : Int) (by omega) (by omega)
    obtain ⟨ad, had, _⟩ := at_ 0 hn.1
    obtain ⟨b, o, rfl⟩ := hn0 ad had
    subst had
    have hc : ∀ (j : Nat) x, l0[j]? = some x → w.cell? ⟨b, o + j, none⟩ = some (.string x) := by
      intro j x hx
      obtain ⟨hj, hx'⟩ := List.getElem?_eq_some_iff.1 hx
      obtain ⟨ad', had', hcell⟩ := at_ j hj
      obtain rfl := Option.some.inj had'
      rw [Int.toNat_natCast] at hcell
      have : rdOf ByteArray.empty l0 (j : Int) = x := by
        unfold rdOf
        rw [Int.toNat_natCast, List.getD_eq_getElem?_getD, hx]
        rfl
      rw [this] at hcell
      have ea : (⟨b, o, none⟩ : Addr).add j = ⟨b, o + j, none⟩ := by
        unfold Addr.add
        split
        · rename_i h
          rw [h]
          rfl
        · rfl
      rw [ea] at hcell
      exact hcell
    have hb : b < w.heap.size := World.block_lt_of_cell? w ⟨b, o + 0, none⟩ (hc 0 _ (List.getElem?_eq_getElem hn.1))
    refine (Tryd.strings_Join b o c0 l0 a1 w hc hb hn.2.1 hc0 hn.2.2).mono ?_
    rintro e w' ⟨rfl, hw⟩
    rw [e0]
    exact ⟨rfl, hw⟩
  · rw [if_neg hn] at h
    cases h
end Go.Proofs.YtokhjlaomgimmaaDoorW.PrintWords
