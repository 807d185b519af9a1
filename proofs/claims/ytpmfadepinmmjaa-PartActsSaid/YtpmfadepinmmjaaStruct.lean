/-
  A struct as it came in: fields of one cell (integers, truths, slices of integers, slices of structs) and arrays of integers. No condition.
-/
import Derived.Test.YtpmfadepinmmjaaRecs
namespace Go.Proofs.Ytpmfadepinmmjaa
open Go.ChangeShapes Go.WideShapes Go.ChangeAt Go.RowKit Go.Joins Go.Deep

/-- what the cells of a struct hold, by its fields -/
def IsFlat (P : Program) (t : TypeId) (w : World) (v : Value) : Prop :=
  ∃ (fs : Array Field) (cs : Array Value), P.underlying t = some (.struct fs) ∧ v = .agg cs ∧ cs.size = P.cellsOf t ∧
    ∀ (j : Nat) (f : Field), fs[j]? = some f →
      (P.cellsOf f.type = 1 → ∀ u, cs[f.offset]? = some u → CellOk P w f.type u ∧
        (∀ e fs', P.underlying f.type = some (.slice e) → P.underlying e = some (.struct fs') → oneCellFields P fs' = true → P.cellsOf e = fs'.size → 0 < fs'.size → IsRecs P e w u)) ∧
      (∀ e n k, P.underlying f.type = some (.array n e) → P.underlying e = some (.int k) → P.cellsOf e = 1 → P.cellsOf f.type = n → ∀ i u, i < n → cs[f.offset + i]? = some u → IsInt k u)

section
variable {H : Type} {enc : TypeId × Value → H} {P : Program} {w : World} {base : Nat} {spare : Nat → Bool} {held : Bool} {r : Reach} {b0 : Nat} {t e : TypeId} {v : Value} {d : DataW H} {p : List MemPlace}
theorem recs_cell {fs : Array Field} {u : Value} {fuel : Nat} {y : DataW H × List MemPlace} (ht : P.underlying t = some (.slice e)) (he : P.underlying e = some (.struct fs)) (hone : oneCellFields P fs = true) (hC : P.cellsOf e = fs.size) (hpos : 0 < fs.size)
    (h : DataW.trod enc P w base spare held fuel t [u] = some y) : IsRecs P e w u := by
  rcases open_slice ht h with ⟨hcs, _⟩ | ⟨x, l, c, m, n, D, Pl, hcs, hb, hl, hm, hmm, hx, hi⟩
  · simp at hcs
    subst hcs
    exact ⟨fs, 0, fun _ _ => .bool false, he, ⟨none, 0, rfl, Nat.le_refl _, Nat.zero_le _, fun _ => ⟨rfl, rfl⟩, fun h => absurd h (Nat.lt_irrefl _)⟩, fun i j f hi => absurd hi (Nat.not_lt_zero _)⟩
  · simp at hcs
    subst hcs
    have hlm : l ≤ m := by rw [hmm]; split <;> omega
    have each : ∀ i, i < l → ∀ j f, fs[j]? = some f → ∃ u : Value, w.cell? (x.add (i * fs.size + j)) = some u ∧ CellOk P w f.type u := by
      intro i hil j f hfj
      have hj : j < fs.size := (Array.getElem?_eq_some_iff.1 hfj).1
      obtain ⟨cs', hc, ht'⟩ := hi i (by omega)
      rw [hC] at hc
      obtain ⟨ys, n', _, hy, hlen, hyl, hff⟩ := DataW.trod_struct he ht'
      obtain ⟨_, hcl, hat⟩ := World.cells?_some hc
      obtain ⟨ho, hk⟩ := hone_of hone j _ hfj
      have hcell := hat j hj
      have h1 := hff j _ hfj
      rw [ho, hk] at h1
      have hone' : (cs'.drop j).take 1 = [cs'[j]'(by omega)] := by
        rw [List.drop_eq_getElem_cons (by omega)]
        rfl
      rw [hone'] at h1
      have hys : ys[j]? = some (ys[j]'(by omega)) := List.getElem?_eq_getElem (by omega)
      refine ⟨cs'[j]'(by omega), ?_, cell_ok (h1.trans hys)⟩
      rw [← Go.Deep.add_add, hcell, List.getElem?_eq_getElem (by omega)]
    have each' : ∀ i j, ∃ u : Value, i < l → ∀ f, fs[j]? = some f → w.cell? (x.add (i * fs.size + j)) = some u ∧ CellOk P w f.type u := by
      intro i j
      by_cases h : i < l
      · cases hfj : fs[j]? with
        | none => exact ⟨.bool false, fun _ f hf => by cases hf⟩
        | some f0 =>
          obtain ⟨q, hq⟩ := each i h j f0 hfj
          exact ⟨q, fun _ f hf => by cases hf; exact hq⟩
      · exact ⟨.bool false, fun h1 => absurd h1 h⟩
    obtain ⟨F, hF⟩ : ∃ F : Nat → Nat → Value, ∀ i j, i < l → ∀ f, fs[j]? = some f → w.cell? (x.add (i * fs.size + j)) = some (F i j) ∧ CellOk P w f.type (F i j) :=
      ⟨fun i j => Classical.choose (each' i j), fun i j => Classical.choose_spec (each' i j)⟩
    refine ⟨fs, l, F, he, ⟨some x, c, rfl, hl, hm, fun h => (by cases h), fun h0 => ?_⟩, fun i j f hi hj => (hF i j hi f hj).2⟩
    have hf0 : fs[0]? = some fs[0] := Array.getElem?_eq_getElem hpos
    have h00 := (hF 0 0 h0 _ hf0).1
    obtain ⟨b, o, rfl⟩ := addr_of_cell (x := x) (by simpa [Addr.add] using h00)
    have hadd : ∀ j, (⟨b, o, none⟩ : Addr).add j = ⟨b, o + j, none⟩ := fun j => add_none b o j
    simp only [hadd] at hF
    have h01 := (hF 0 0 h0 _ hf0).1
    exact ⟨b, o, rfl, cell_lt h01, fun i f hi hf => (hF i f hi _ (Array.getElem?_eq_getElem hf)).1⟩

theorem take_one {α : Type} {l : List α} {j : Nat} {u : α} (h : l[j]? = some u) : (l.drop j).take 1 = [u] := by
  obtain ⟨hj, rfl⟩ := List.getElem?_eq_some_iff.1 h
  rw [List.drop_eq_getElem_cons hj]; rfl
theorem is_struct {fs : Array Field} (ht : P.underlying t = some (.struct fs)) (hv : Value.okWide P w r b0 t v) (h : DataW.Trod enc P w base spare held t v d p) : IsFlat P t w v := by
  obtain ⟨cs, rfl, hsz⟩ := okWide_struct ht hv
  obtain ⟨fuel, hf⟩ := h
  obtain ⟨ys, n', _, hy, hlen, hyl, hff⟩ := DataW.trod_struct ht hf
  refine ⟨fs, cs, ht, rfl, hsz, fun j f hj => ⟨fun hk u hu => ?_, fun e n k ha he hce hn i u hi hu => ?_⟩⟩
  · have h1 := hff j f hj
    rw [hk, take_one (u := u) (by simpa [Value.cells] using hu)] at h1
    have hjl : j < ys.length := by have := (Array.getElem?_eq_some_iff.1 hj).1; omega
    have hys : ys[j]? = some (ys[j]'hjl) := List.getElem?_eq_getElem hjl
    refine ⟨cell_ok (h1.trans hys), fun e fs' h2 h3 h4 h5 h6 => recs_cell h2 h3 h4 h5 h6 (h1.trans hys)⟩
  · have h1 := hff j f hj
    have hjl : j < ys.length := by have := (Array.getElem?_eq_some_iff.1 hj).1; omega
    have hys : ys[j]? = some (ys[j]'hjl) := List.getElem?_eq_getElem hjl
    obtain ⟨xs, m, _, _, hl, hxl, hx⟩ := DataW.trod_array ha (h1.trans hys)
    have h2 := hx i hi
    rw [hce, hn, Nat.mul_one] at h2
    have h3 : (((Value.agg cs).cells.toList.drop f.offset).take n)[i]? = some u := by
      rw [List.getElem?_take, if_pos hi, List.getElem?_drop]
      simpa [Value.cells] using hu
    rw [take_one h3, List.getElem?_eq_getElem (by omega)] at h2
    obtain ⟨q, e0, _, wq⟩ := DataW.trod_int he h2
    simp at e0
    exact ⟨q, e0, wq⟩
end
end Go.Proofs.Ytpmfadepinmmjaa
