/-
  A slice of structs that have a struct within, as it came in. No condition.
-/
import Derived.Test.YtoadjmeopamgbaaRecs
import Derived.Test.YtoadjmeopamgbaaStruct
import Derived.Test.YtoadjmeopamgbaaRowsIn
namespace Go.Proofs.Ytoadjmeopamgbaa
open Go.ChangeShapes Go.WideShapes Go.ChangeAt Go.RowKit Go.Joins Go.Deep

def IsNest (P : Program) (e : TypeId) (w : World) (v : Value) : Prop :=
  ∃ (fs : Array Field) (n : Nat) (V : Nat → Nat → Value), P.underlying e = some (.struct fs) ∧ RdV (P.cellsOf e) w v n V ∧ ∀ (i j : Nat) (f : Field), i < n → fs[j]? = some f →
    (P.cellsOf f.type = 1 → f.offset < P.cellsOf e → CellOk P w f.type (V i f.offset)) ∧
    (∀ fs2, P.underlying f.type = some (.struct fs2) → oneCellFields P fs2 = true → P.cellsOf f.type = fs2.size → f.offset + fs2.size ≤ P.cellsOf e → ∀ (j2 : Nat) (f2 : Field), fs2[j2]? = some f2 → CellOk P w f2.type (V i (f.offset + j2)))
section
variable {H : Type} {enc : TypeId × Value → H} {P : Program} {w : World} {base : Nat} {spare : Nat → Bool} {held : Bool} {r : Reach} {b0 : Nat} {t e : TypeId} {v : Value} {d : DataW H} {p : List MemPlace}
theorem is_nested {fs : Array Field} (ht : P.underlying t = some (.slice e)) (he : P.underlying e = some (.struct fs)) (hpos : 0 < P.cellsOf e)
    (hv : Value.okWide P w r b0 t v) (h : DataW.Trod enc P w base spare held t v d p) : IsNest P e w v := by
  obtain ⟨a, len, cap, rfl⟩ := okWide_slice ht hv
  obtain ⟨fuel, hf⟩ := h
  rcases open_slice ht hf with ⟨hcs, _⟩ | ⟨x, l, c, m, n, D, Pl, hcs, hb, hl, hm, hmm, hx, hi⟩
  · simp [Value.cells] at hcs
    obtain ⟨rfl, rfl, rfl⟩ := hcs
    exact ⟨fs, 0, fun _ _ => .bool false, he, ⟨none, 0, rfl, Nat.le_refl _, Nat.zero_le _, fun _ => ⟨rfl, rfl⟩, fun h => absurd h (Nat.lt_irrefl _)⟩, fun i j f hi => absurd hi (Nat.not_lt_zero _)⟩
  · simp [Value.cells] at hcs
    obtain ⟨rfl, rfl, rfl⟩ := hcs
    have hlm : len ≤ m := by rw [hmm]; split <;> omega
    have each : ∀ i, i < len → ∃ cs' : List Value, cs'.length = P.cellsOf e ∧ (∀ j, j < P.cellsOf e → w.cell? (x.add (i * P.cellsOf e + j)) = cs'[j]?) ∧ ∀ (j : Nat) (f : Field), fs[j]? = some f →
        (P.cellsOf f.type = 1 → ∀ u, cs'[f.offset]? = some u → CellOk P w f.type u) ∧
        (∀ fs2, P.underlying f.type = some (.struct fs2) → oneCellFields P fs2 = true → P.cellsOf f.type = fs2.size → ∀ (j2 : Nat) (f2 : Field) u, fs2[j2]? = some f2 → cs'[f.offset + j2]? = some u → CellOk P w f2.type u) := by
      intro i hil
      obtain ⟨cs', hc, ht'⟩ := hi i (by omega)
      obtain ⟨ys, n', _, hy, hlen, hyl, hff⟩ := DataW.trod_struct he ht'
      obtain ⟨_, hcl, hat⟩ := World.cells?_some hc
      refine ⟨cs', by simpa using hcl, fun j hj => by rw [← Go.Deep.add_add]; exact hat j hj, fun j f hfj => ⟨fun hk u hu => ?_, fun fs2 h2 hone hC2 j2 f2 u hj2 hu => ?_⟩⟩
      · have h1 := hff j f hfj
        have hjl : j < ys.length := by have := (Array.getElem?_eq_some_iff.1 hfj).1; omega
        have hys : ys[j]? = some (ys[j]'hjl) := List.getElem?_eq_getElem hjl
        rw [hk, take_one hu] at h1
        exact cell_ok (h1.trans hys)
      · have h1 := hff j f hfj
        have hjl : j < ys.length := by have := (Array.getElem?_eq_some_iff.1 hfj).1; omega
        have hys : ys[j]? = some (ys[j]'hjl) := List.getElem?_eq_getElem hjl
        obtain ⟨ys2, n2, _, hy2, hlen2, hyl2, hff2⟩ := DataW.trod_struct h2 (h1.trans hys)
        have hj2l : j2 < fs2.size := (Array.getElem?_eq_some_iff.1 hj2).1
        obtain ⟨ho, hk⟩ := hone_of hone j2 _ hj2
        have h3 := hff2 j2 f2 hj2
        have h4 : ((cs'.drop f.offset).take (P.cellsOf f.type))[j2]? = some u := by
          rw [List.getElem?_take, if_pos (by rw [hC2]; exact hj2l), List.getElem?_drop]
          exact hu
        rw [ho, hk, take_one h4] at h3
        have hys2 : ys2[j2]? = some (ys2[j2]'(by omega)) := List.getElem?_eq_getElem (by omega)
        exact cell_ok (h3.trans hys2)
    have each' : ∀ i, ∃ cs' : List Value, i < len → cs'.length = P.cellsOf e ∧ (∀ j, j < P.cellsOf e → w.cell? (x.add (i * P.cellsOf e + j)) = cs'[j]?) ∧ ∀ (j : Nat) (f : Field), fs[j]? = some f →
        (P.cellsOf f.type = 1 → ∀ u, cs'[f.offset]? = some u → CellOk P w f.type u) ∧
        (∀ fs2, P.underlying f.type = some (.struct fs2) → oneCellFields P fs2 = true → P.cellsOf f.type = fs2.size → ∀ (j2 : Nat) (f2 : Field) u, fs2[j2]? = some f2 → cs'[f.offset + j2]? = some u → CellOk P w f2.type u) := by
      intro i
      by_cases h : i < len
      · obtain ⟨cs', h'⟩ := each i h
        exact ⟨cs', fun _ => h'⟩
      · exact ⟨[], fun h' => absurd h' h⟩
    obtain ⟨R, hR⟩ := Classical.axiomOfChoice each'
    have hcell : ∀ i j, i < len → j < P.cellsOf e → w.cell? (x.add (i * P.cellsOf e + j)) = some ((R i).getD j (.bool false)) := by
      intro i j h1 h2
      obtain ⟨g1, g2, _⟩ := hR i h1
      rw [g2 j h2]
      simp [List.getD, g1, h2]
    refine ⟨fs, len, fun i j => (R i).getD j (.bool false), he, ⟨some x, cap, rfl, hl, hm, fun h => (by cases h), fun h0 => ?_⟩, fun i j f hi' hj => ⟨fun hk ho => ?_, fun fs2 h2 hone hC2 ho j2 f2 hj2 => ?_⟩⟩
    · have h00 := hcell 0 0 h0 hpos
      obtain ⟨b, o, rfl⟩ := addr_of_cell (x := x) (by simpa [Addr.add] using h00)
      have hadd : ∀ j, (⟨b, o, none⟩ : Addr).add j = ⟨b, o + j, none⟩ := fun j => add_none b o j
      simp only [hadd] at hcell
      exact ⟨b, o, rfl, cell_lt (hcell 0 0 h0 hpos), fun i f hi' hf => hcell i f hi' hf⟩
    · obtain ⟨g1, _, g3⟩ := hR i hi'
      exact (g3 j f hj).1 hk _ (by simp [List.getD, g1, ho])
    · obtain ⟨g1, _, g3⟩ := hR i hi'
      have hj2l : j2 < fs2.size := (Array.getElem?_eq_some_iff.1 hj2).1
      exact (g3 j f hj).2 fs2 h2 hone hC2 j2 f2 _ hj2 (by simp [List.getD, g1, show f.offset + j2 < P.cellsOf e by omega])
end
end Go.Proofs.Ytoadjmeopamgbaa
