/-
  Slices of structs of one array of four integers, as they came in. No condition.
-/
import Derived.Test.YtepnmclgkbphmaaStruct
import Derived.Test.YtepnmclgkbphmaaArr
namespace Go.Proofs.Ytepnmclgkbphmaa
open Go.ChangeShapes Go.WideShapes Go.ChangeAt Go.RowKit Go.Joins Go.Deep

def IsQuads (w : World) (v : Value) : Prop := ∃ (n : Nat) (V : Nat → Nat → Int), RdV 4 w v n (fun i f => .int .i64 (V i f))
section
variable {H : Type} {enc : TypeId × Value → H} {P : Program} {w : World} {base : Nat} {spare : Nat → Bool} {held : Bool} {r : Reach} {b0 : Nat} {t e ei : TypeId} {v : Value} {d : DataW H} {p : List MemPlace}
theorem is_quads {f0 : Field} (ht : P.underlying t = some (.slice e)) (he : P.underlying e = some (.struct #[f0])) (ho : f0.offset = 0) (ha : P.underlying f0.type = some (.array 4 ei)) (hi : P.underlying ei = some (.int .i64)) (hce : P.cellsOf ei = 1) (hcf : P.cellsOf f0.type = 4) (hC : P.cellsOf e = 4)
    (hv : Value.okWide P w r b0 t v) (h : DataW.Trod enc P w base spare held t v d p) : IsQuads w v := by
  obtain ⟨a, len, cap, rfl⟩ := okWide_slice ht hv
  obtain ⟨fuel, hf⟩ := h
  rcases open_slice ht hf with ⟨hcs, _⟩ | ⟨x, l, c, m, n, D, Pl, hcs, hb, hl, hm, hmm, hx, hi'⟩
  · simp [Value.cells] at hcs
    obtain ⟨rfl, rfl, rfl⟩ := hcs
    exact ⟨0, fun _ _ => 0, ⟨none, 0, rfl, Nat.le_refl _, Nat.zero_le _, fun _ => ⟨rfl, rfl⟩, fun h => absurd h (Nat.lt_irrefl _)⟩⟩
  · simp [Value.cells] at hcs
    obtain ⟨rfl, rfl, rfl⟩ := hcs
    have hlm : len ≤ m := by rw [hmm]; split <;> omega
    have each : ∀ i, i < len → ∀ j, j < 4 → ∃ q : Int, w.cell? (x.add (i * 4 + j)) = some (.int .i64 q) := by
      intro i hil j hj
      obtain ⟨cs', hc, ht'⟩ := hi' i (by omega)
      rw [hC] at hc
      obtain ⟨ys, n', _, hy, hlen, hyl, hff⟩ := DataW.trod_struct he ht'
      obtain ⟨_, hcl, hat⟩ := World.cells?_some hc
      have h1 := hff 0 f0 rfl
      have hyl' : 0 < ys.length := by simp at hyl; omega
      rw [ho, hcf, List.getElem?_eq_getElem hyl', List.drop_zero, List.take_of_length_le (by omega)] at h1
      obtain ⟨xs, m', _, _, hl', hxl, hx'⟩ := DataW.trod_array ha h1
      have h2 := hx' j hj
      rw [hce, Nat.mul_one] at h2
      have hcj : j < cs'.length := by omega
      rw [take_one (List.getElem?_eq_getElem hcj), List.getElem?_eq_getElem (by omega)] at h2
      obtain ⟨q, e0, _, _⟩ := DataW.trod_int hi h2
      simp at e0
      have hcell := hat j hj
      refine ⟨q, ?_⟩
      rw [← Go.Deep.add_add, hcell, List.getElem?_eq_getElem hcj, e0]
    have each' : ∀ i j, ∃ q : Int, i < len → j < 4 → w.cell? (x.add (i * 4 + j)) = some (.int .i64 q) := by
      intro i j
      by_cases h : i < len
      · by_cases h4 : j < 4
        · obtain ⟨q, hq⟩ := each i h j h4
          exact ⟨q, fun _ _ => hq⟩
        · exact ⟨0, fun _ h => absurd h h4⟩
      · exact ⟨0, fun h1 => absurd h1 h⟩
    obtain ⟨F, hF⟩ : ∃ F : Nat → Nat → Int, ∀ i j, i < len → j < 4 → w.cell? (x.add (i * 4 + j)) = some (.int .i64 (F i j)) :=
      ⟨fun i j => Classical.choose (each' i j), fun i j => Classical.choose_spec (each' i j)⟩
    refine ⟨len, F, ⟨some x, cap, rfl, hl, hm, fun h => (by cases h), fun h0 => ?_⟩⟩
    have h00 := hF 0 0 h0 (by omega)
    obtain ⟨b, o, rfl⟩ := addr_of_cell (x := x) (by simpa [Addr.add] using h00)
    have hadd : ∀ j, (⟨b, o, none⟩ : Addr).add j = ⟨b, o + j, none⟩ := fun j => add_none b o j
    simp only [hadd] at hF
    exact ⟨b, o, rfl, cell_lt (hF 0 0 h0 (by omega)), fun i f hi hf => hF i f hi hf⟩
end
theorem IsArr.four {k : IntKind} {v : Value} (h : IsArr k 4 v) : ∃ A : Nat → Int, v = .agg #[.int k (A 0), .int k (A 1), .int k (A 2), .int k (A 3)] ∧ ∀ i, i < 4 → (Lit.int k (A i)).wf = true := by
  obtain ⟨A, rfl, hA⟩ := h
  exact ⟨A, rfl, hA⟩
end Go.Proofs.Ytepnmclgkbphmaa
