/-
  Arrays of integers as they came in. No condition.
-/
import Derived.Test.YtepnmclgkbphmaaFrame
namespace Go.Proofs.Ytepnmclgkbphmaa
open Go.ChangeShapes Go.WideShapes Go.ChangeAt Go.RowKit

def IsArr (k : IntKind) (n : Nat) (v : Value) : Prop := ∃ A : Nat → Int, v = .agg ((List.range n).map (fun i => Value.int k (A i))).toArray ∧ ∀ i, i < n → (Lit.int k (A i)).wf = true
section
variable {H : Type} {enc : TypeId × Value → H} {P : Program} {w : World} {base : Nat} {spare : Nat → Bool} {held : Bool} {r : Reach} {b0 : Nat} {t e : TypeId} {v : Value} {d : DataW H} {p : List MemPlace}
theorem okWide_array {n : Nat} (ht : P.underlying t = some (.array n e)) (h : Value.okWide P w r b0 t v) : ∃ cs, v = .agg cs ∧ cs.size = P.cellsOf t := by
  simp only [Value.okWide, ht] at h
  obtain ⟨cs, h1, h2, _⟩ := h
  exact ⟨cs, h1, h2⟩
theorem is_arr {n : Nat} {k : IntKind} (ht : P.underlying t = some (.array n e)) (he : P.underlying e = some (.int k)) (hc : P.cellsOf e = 1) (hC : P.cellsOf t = n)
    (hv : Value.okWide P w r b0 t v) (h : DataW.Trod enc P w base spare held t v d p) : IsArr k n v := by
  obtain ⟨cs, rfl, hsz⟩ := okWide_array ht hv
  obtain ⟨fuel, hf⟩ := h
  obtain ⟨xs, m, _, _, hl, hxl, hx⟩ := DataW.trod_array ht hf
  rw [hC] at hsz
  have each : ∀ i, i < n → ∃ q : Int, cs[i]? = some (.int k q) ∧ (Lit.int k q).wf = true := by
    intro i hi
    have h1 := hx i hi
    rw [hc] at h1
    have hl' : i < cs.toList.length := by simp; omega
    have h2 : ((Value.agg cs).cells.toList.drop (i * 1)).take 1 = [cs.toList[i]'hl'] := by
      simp only [Value.cells, Nat.mul_one]
      rw [List.drop_eq_getElem_cons hl']
      rfl
    rw [h2, List.getElem?_eq_getElem (by omega)] at h1
    obtain ⟨q, e0, _, wq⟩ := DataW.trod_int he h1
    simp at e0
    exact ⟨q, by rw [Array.getElem?_eq_getElem (by omega), e0], wq⟩
  have each' : ∀ i, ∃ q : Int, i < n → cs[i]? = some (.int k q) ∧ (Lit.int k q).wf = true := by
    intro i
    by_cases hi : i < n
    · obtain ⟨q, hq⟩ := each i hi
      exact ⟨q, fun _ => hq⟩
    · exact ⟨0, fun h => absurd h hi⟩
  refine ⟨fun i => Classical.choose (each' i), ?_, fun i hi => (Classical.choose_spec (each' i) hi).2⟩
  congr 1
  apply Array.ext_getElem?
  intro i
  by_cases hi : i < n
  · rw [(Classical.choose_spec (each' i) hi).1]
    simp [hi]
  · rw [Array.getElem?_eq_none (by omega), Array.getElem?_eq_none (by simp; omega)]
end
theorem IsArr.two {k : IntKind} {v : Value} (h : IsArr k 2 v) : ∃ a b : Int, v = .agg #[.int k a, .int k b] ∧ (Lit.int k a).wf = true ∧ (Lit.int k b).wf = true := by
  obtain ⟨A, rfl, hA⟩ := h
  exact ⟨A 0, A 1, rfl, hA 0 (by omega), hA 1 (by omega)⟩
theorem IsArr.three {k : IntKind} {v : Value} (h : IsArr k 3 v) : ∃ a b c : Int, v = .agg #[.int k a, .int k b, .int k c] ∧ (Lit.int k a).wf = true ∧ (Lit.int k b).wf = true ∧ (Lit.int k c).wf = true := by
  obtain ⟨A, rfl, hA⟩ := h
  exact ⟨A 0, A 1, A 2, rfl, hA 0 (by omega), hA 1 (by omega), hA 2 (by omega)⟩
end Go.Proofs.Ytepnmclgkbphmaa
