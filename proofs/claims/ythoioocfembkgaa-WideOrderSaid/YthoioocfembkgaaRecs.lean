/-
  Slices of structs as they came in, whose fields are integers, truths or slices of integers. No condition.
-/
import Derived.Test.YthoioocfembkgaaRowsIn
namespace Go.Proofs.Ythoioocfembkgaa
open Go.ChangeShapes Go.WideShapes Go.ChangeAt Go.RowKit Go.Joins Go.Deep

/-- what one cell holds, by its type -/
def CellOk (P : Program) (w : World) (t : TypeId) (u : Value) : Prop :=
  (∀ k, P.underlying t = some (.int k) → IsInt k u) ∧ (P.underlying t = some .bool → IsBool u) ∧
    (∀ e k, P.underlying t = some (.slice e) → P.underlying e = some (.int k) → P.cellsOf e = 1 → IsInts k w u)
/-- a slice of structs of one cell a field -/
def IsRecs (P : Program) (e : TypeId) (w : World) (v : Value) : Prop :=
  ∃ (fs : Array Field) (n : Nat) (V : Nat → Nat → Value), P.underlying e = some (.struct fs) ∧ RdV fs.size w v n V ∧ ∀ (i j : Nat) (f : Field), i < n → fs[j]? = some f → CellOk P w f.type (V i j)
/-- a struct of one cell a field -/
def IsRec (P : Program) (t : TypeId) (w : World) (v : Value) : Prop :=
  ∃ (fs : Array Field) (cs : Array Value), P.underlying t = some (.struct fs) ∧ v = .agg cs ∧ cs.size = fs.size ∧ ∀ (j : Nat) (f : Field) (u : Value), fs[j]? = some f → cs[j]? = some u → CellOk P w f.type u

section
variable {H : Type} {enc : TypeId × Value → H} {P : Program} {w : World} {base : Nat} {spare : Nat → Bool} {held : Bool} {r : Reach} {b0 : Nat} {t e : TypeId} {v : Value} {d : DataW H} {p : List MemPlace}
theorem cell_ok {u : Value} {fuel : Nat} {y : DataW H × List MemPlace} (h : DataW.trod enc P w base spare held fuel t [u] = some y) : CellOk P w t u := by
  refine ⟨fun k hk => ?_, fun hb => ?_, fun e k ht he hc => ?_⟩
  · obtain ⟨q, e0, _, wq⟩ := DataW.trod_int hk h
    simp at e0
    exact ⟨q, e0, wq⟩
  · obtain ⟨q, e0, _⟩ := DataW.trod_bool hb h
    simp at e0
    exact ⟨q, e0⟩
  · rcases open_ints ht he hc h with ⟨hcs, _⟩ | ⟨x, len, cap, zs, hcs, _, hl, hm, hz, _, hcell, hwz⟩
    · simp at hcs
      subst hcs
      exact ⟨[], RdI.nil _ _, by simp⟩
    · simp at hcs
      subst hcs
      have hlz : len ≤ zs.length := by rw [hz]; split <;> omega
      have hlen : (zs.take len).length = len := by simp; omega
      refine ⟨zs.take len, ⟨by simp, some x, cap, by rw [hlen], by omega, hm, fun h => (by cases h), fun h0 => ?_⟩, fun y hy => hwz y (List.mem_of_mem_take hy)⟩
      rw [hlen] at h0
      obtain ⟨b, o, rfl⟩ := addr_of_cell (x := x) (by simpa [Addr.add] using hcell 0 (by omega))
      have hh := hcell 0 (by omega)
      have hadd : ∀ j, (⟨b, o, none⟩ : Addr).add j = ⟨b, o + j, none⟩ := by intro j; unfold Addr.add; split <;> simp_all
      rw [hadd] at hh
      refine ⟨b, o, rfl, cell_lt hh, fun j u hu => ?_⟩
      rw [List.getElem?_map] at hu
      obtain ⟨y, hy, rfl⟩ := Option.map_eq_some_iff.1 hu
      have hj : j < len := by have := (List.getElem?_eq_some_iff.1 hy).1; omega
      have := hcell j (by omega)
      rw [hadd] at this
      rw [this]
      rw [List.getElem?_take, if_pos hj] at hy
      simp [List.getD, hy]

theorem is_structs {fs : Array Field} (ht : P.underlying t = some (.slice e)) (he : P.underlying e = some (.struct fs)) (hone : oneCellFields P fs = true) (hC : P.cellsOf e = fs.size) (hpos : 0 < fs.size)
    (hv : Value.okWide P w r b0 t v) (h : DataW.Trod enc P w base spare held t v d p) : IsRecs P e w v := by
  obtain ⟨a, len, cap, rfl⟩ := okWide_slice ht hv
  obtain ⟨fuel, hf⟩ := h
  rcases open_slice ht hf with ⟨hcs, _⟩ | ⟨x, l, c, m, n, D, Pl, hcs, hb, hl, hm, hmm, hx, hi⟩
  · simp [Value.cells] at hcs
    obtain ⟨rfl, rfl, rfl⟩ := hcs
    exact ⟨fs, 0, fun _ _ => .bool false, he, ⟨none, 0, rfl, Nat.le_refl _, Nat.zero_le _, fun _ => ⟨rfl, rfl⟩, fun h => absurd h (Nat.lt_irrefl _)⟩, fun i j f hi => absurd hi (Nat.not_lt_zero _)⟩
  · simp [Value.cells] at hcs
    obtain ⟨rfl, rfl, rfl⟩ := hcs
    have hlm : len ≤ m := by rw [hmm]; split <;> omega
    have each : ∀ i, i < len → ∀ j f, fs[j]? = some f → ∃ u : Value, w.cell? (x.add (i * fs.size + j)) = some u ∧ CellOk P w f.type u := by
      intro i hil j f hfj
      have hj : j < fs.size := (Array.getElem?_eq_some_iff.1 hfj).1
      obtain ⟨cs', hc, ht'⟩ := hi i (by omega)
      rw [hC] at hc
      obtain ⟨ys, n', _, hy, hlen, hyl, hff⟩ := DataW.trod_struct he ht'
      obtain ⟨_, hcl, hat⟩ := World.cells?_some hc
      obtain ⟨ho, hk⟩ := hone_of hone j _ hfj
      have hcell := hat j hj
      have h1 := hff j _ hfj
      rw [ho, hk] at h1
      have hone' : (cs'.drop j).take 1 = [cs'[j]'(by omega)] := by
        rw [List.drop_eq_getElem_cons (by omega)]
        rfl
      rw [hone'] at h1
      have hys : ys[j]? = some (ys[j]'(by omega)) := List.getElem?_eq_getElem (by omega)
      refine ⟨cs'[j]'(by omega), ?_, cell_ok (h1.trans hys)⟩
      rw [← Go.Deep.add_add, hcell, List.getElem?_eq_getElem (by omega)]
    have each' : ∀ i j, ∃ u : Value, i < len → ∀ f, fs[j]? = some f → w.cell? (x.add (i * fs.size + j)) = some u ∧ CellOk P w f.type u := by
      intro i j
      by_cases h : i < len
      · cases hfj : fs[j]? with
        | none => exact ⟨.bool false, fun _ f hf => by cases hf⟩
        | some f0 =>
          obtain ⟨q, hq⟩ := each i h j f0 hfj
          exact ⟨q, fun _ f hf => by cases hf; exact hq⟩
      · exact ⟨.bool false, fun h1 => absurd h1 h⟩
    obtain ⟨F, hF⟩ : ∃ F : Nat → Nat → Value, ∀ i j, i < len → ∀ f, fs[j]? = some f → w.cell? (x.add (i * fs.size + j)) = some (F i j) ∧ CellOk P w f.type (F i j) :=
      ⟨fun i j => Classical.choose (each' i j), fun i j => Classical.choose_spec (each' i j)⟩
    refine ⟨fs, len, F, he, ⟨some x, cap, rfl, hl, hm, fun h => (by cases h), fun h0 => ?_⟩, fun i j f hi hj => (hF i j hi f hj).2⟩
    have hf0 : fs[0]? = some fs[0] := Array.getElem?_eq_getElem hpos
    have h00 := (hF 0 0 h0 _ hf0).1
    obtain ⟨b, o, rfl⟩ := addr_of_cell (x := x) (by simpa [Addr.add] using h00)
    have hadd : ∀ j, (⟨b, o, none⟩ : Addr).add j = ⟨b, o + j, none⟩ := fun j => add_none b o j
    simp only [hadd] at hF
    have h01 := (hF 0 0 h0 _ hf0).1
    exact ⟨b, o, rfl, cell_lt h01, fun i f hi hf => (hF i f hi _ (Array.getElem?_eq_getElem hf)).1⟩
end
theorem CellOk.int {P : Program} {w : World} {t : TypeId} {u : Value} {k : IntKind} (h : CellOk P w t u) (ht : P.underlying t = some (.int k)) : IsInt k u := h.1 k ht
theorem CellOk.bool {P : Program} {w : World} {t : TypeId} {u : Value} (h : CellOk P w t u) (ht : P.underlying t = some .bool) : IsBool u := h.2.1 ht
theorem CellOk.ints {P : Program} {w : World} {t e : TypeId} {u : Value} {k : IntKind} (h : CellOk P w t u) (ht : P.underlying t = some (.slice e)) (he : P.underlying e = some (.int k)) (hc : P.cellsOf e = 1) : IsInts k w u := h.2.2 e k ht he hc
end Go.Proofs.Ythoioocfembkgaa
