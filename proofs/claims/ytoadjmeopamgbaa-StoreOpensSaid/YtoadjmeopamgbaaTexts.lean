/-
  A slice of slices of integers, as it came in. No condition.
-/
import Derived.Test.YtoadjmeopamgbaaRecs
namespace Go.Proofs.Ytoadjmeopamgbaa
open Go.ChangeShapes Go.WideShapes Go.ChangeAt Go.RowKit Go.Joins Go.Deep

/-- a slice of elements of one cell -/
def IsTexts (P : Program) (e : TypeId) (w : World) (v : Value) : Prop := ∃ (n : Nat) (V : Nat → Nat → Value), RdV 1 w v n V ∧ ∀ i, i < n → CellOk P w e (V i 0)
section
variable {H : Type} {enc : TypeId × Value → H} {P : Program} {w : World} {base : Nat} {spare : Nat → Bool} {held : Bool} {r : Reach} {b0 : Nat} {t e : TypeId} {v : Value} {d : DataW H} {p : List MemPlace}
theorem is_texts (ht : P.underlying t = some (.slice e)) (hC : P.cellsOf e = 1)
    (hv : Value.okWide P w r b0 t v) (h : DataW.Trod enc P w base spare held t v d p) : IsTexts P e w v := by
  obtain ⟨a, len, cap, rfl⟩ := okWide_slice ht hv
  obtain ⟨fuel, hf⟩ := h
  rcases open_slice ht hf with ⟨hcs, _⟩ | ⟨x, l, c, m, n, D, Pl, hcs, hb, hl, hm, hmm, hx, hi⟩
  · simp [Value.cells] at hcs
    obtain ⟨rfl, rfl, rfl⟩ := hcs
    exact ⟨0, fun _ _ => .bool false, ⟨none, 0, rfl, Nat.le_refl _, Nat.zero_le _, fun _ => ⟨rfl, rfl⟩, fun h => absurd h (Nat.lt_irrefl _)⟩, fun i hi => absurd hi (Nat.not_lt_zero _)⟩
  · simp [Value.cells] at hcs
    obtain ⟨rfl, rfl, rfl⟩ := hcs
    have hlm : len ≤ m := by rw [hmm]; split <;> omega
    have each : ∀ i, ∃ u : Value, i < len → w.cell? (x.add i) = some u ∧ CellOk P w e u := by
      intro i
      by_cases hil : i < len
      · obtain ⟨cs', hc, ht'⟩ := hi i (by omega)
        rw [hC] at hc
        obtain ⟨_, hcl, hat⟩ := World.cells?_some hc
        have hcell := hat 0 (by omega)
        have hone : cs' = [cs'[0]'(by omega)] := by
          match cs', hcl with
          | [y], _ => rfl
        rw [hone] at ht'
        refine ⟨cs'[0]'(by omega), fun _ => ⟨?_, cell_ok ht'⟩⟩
        rw [Go.Deep.add_add, Nat.mul_one, Nat.add_zero] at hcell
        rw [hcell, List.getElem?_eq_getElem (by omega)]
      · exact ⟨.bool false, fun h => absurd h hil⟩
    obtain ⟨F, hF⟩ : ∃ F : Nat → Value, ∀ i, i < len → w.cell? (x.add i) = some (F i) ∧ CellOk P w e (F i) := ⟨fun i => Classical.choose (each i), fun i => Classical.choose_spec (each i)⟩
    refine ⟨len, fun i _ => F i, ⟨some x, cap, rfl, hl, hm, fun h => (by cases h), fun h0 => ?_⟩, fun i hi => (hF i hi).2⟩
    have h00 := (hF 0 h0).1
    obtain ⟨b, o, rfl⟩ := addr_of_cell (x := x) (by simpa [Addr.add] using h00)
    have hadd : ∀ j, (⟨b, o, none⟩ : Addr).add j = ⟨b, o + j, none⟩ := fun j => add_none b o j
    simp only [hadd] at hF
    refine ⟨b, o, rfl, cell_lt (hF 0 h0).1, fun i f hi hf => ?_⟩
    rw [show i * 1 + f = i by omega]
    exact (hF i hi).1
end
theorem texts_of {w : World} {v : Value} {P : Program} {e u8 : TypeId} (he : P.underlying e = some (.slice u8)) (h8 : P.underlying u8 = some (.int .u8)) (hc : P.cellsOf u8 = 1) (h : IsTexts P e w v) : ∃ n V, ∃ L : Nat → List Int, RdV 1 w v n V ∧ ∀ i, i < n → RdI .u8 w (V i 0) (L i) ∧ ∀ y ∈ L i, 0 ≤ y ∧ y ≤ 255 := by
  obtain ⟨n, V, hr, hk⟩ := h
  have each : ∀ i, ∃ l : List Int, i < n → RdI .u8 w (V i 0) l ∧ ∀ y ∈ l, 0 ≤ y ∧ y ≤ 255 := by
    intro i
    by_cases hi : i < n
    · obtain ⟨l, h1, h2⟩ := (hk i hi).ints he h8 hc
      exact ⟨l, fun _ => ⟨h1, fun y hy => u8_bd (h2 y hy)⟩⟩
    · exact ⟨[], fun h => absurd h hi⟩
  exact ⟨n, V, fun i => Classical.choose (each i), hr, fun i hi => Classical.choose_spec (each i) hi⟩
end Go.Proofs.Ytoadjmeopamgbaa
