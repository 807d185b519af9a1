/-
  Slices of structs whose fields are integers, as they came in: rows of integers. No condition.
-/
import Derived.Test.YthoioocfembkgaaFrame
import Derived.Lib.SmallJoins
import Derived.Deep.Slices
import Derived.Deep.Fields
import Derived.ChangeSame
namespace Go.Proofs.Ythoioocfembkgaa
open Go.ChangeShapes Go.WideShapes Go.ChangeAt Go.RowKit Go.Joins Go.Deep

/-- the slice value v has n elements of m cells each: cell f of element i is V i f -/
def RdV (m : Nat) (w : World) (v : Value) (n : Nat) (V : Nat → Nat → Value) : Prop :=
  ∃ a c, v = .slice a n c ∧ n ≤ c ∧ c ≤ maxLen ∧ (a = none → n = 0 ∧ c = 0) ∧
    (0 < n → ∃ b o, a = some ⟨b, o, none⟩ ∧ b < w.heap.size ∧ ∀ i f, i < n → f < m → w.cell? ⟨b, o + (i * m + f), none⟩ = some (V i f))
theorem RdV.ext {m : Nat} {w w' : World} {v : Value} {n : Nat} {V : Nat → Nat → Value} (h : RdV m w v n V) (hx : Ext w w') : RdV m w' v n V := by
  obtain ⟨a, c, rfl, h1, h2, h3, h4⟩ := h
  refine ⟨a, c, rfl, h1, h2, h3, fun hn => ?_⟩
  obtain ⟨b, o, rfl, hb, hc⟩ := h4 hn
  exact ⟨b, o, rfl, Nat.lt_of_lt_of_le hb hx.size, fun i f hi hf => (hx.cell hb).trans (hc i f hi hf)⟩
/-- its elements are m integers each -/
def RdR (m : Nat) (w : World) (v : Value) (n : Nat) (F : Nat → Nat → Int) : Prop := RdV m w v n (fun i f => .int .i64 (F i f))
theorem RdR.ext {m : Nat} {w w' : World} {v : Value} {n : Nat} {F : Nat → Nat → Int} (h : RdR m w v n F) (hx : Ext w w') : RdR m w' v n F := RdV.ext h hx
def IsRows (m : Nat) (w : World) (v : Value) : Prop := ∃ n F, RdR m w v n F ∧ ∀ i f, i < n → f < m → (Lit.int .i64 (F i f)).wf = true
def IsAgg2 (v : Value) : Prop := ∃ a b : Int, v = .agg #[.int .i64 a, .int .i64 b] ∧ (Lit.int .i64 a).wf = true ∧ (Lit.int .i64 b).wf = true
def IsAgg3 (v : Value) : Prop := ∃ a b c : Int, v = .agg #[.int .i64 a, .int .i64 b, .int .i64 c] ∧ (Lit.int .i64 a).wf = true ∧ (Lit.int .i64 b).wf = true ∧ (Lit.int .i64 c).wf = true

section
variable {H : Type} {enc : TypeId × Value → H} {P : Program} {w : World} {base : Nat} {spare : Nat → Bool} {held : Bool} {r : Reach} {b0 : Nat} {t e : TypeId} {v : Value} {d : DataW H} {p : List MemPlace}
theorem is_agg2 {f0 f1 : Field} (hs : P.underlying t = some (.struct #[f0, f1])) (hone : oneCellFields P #[f0, f1] = true) (hC : P.cellsOf t = 2) (h0 : P.underlying f0.type = some (.int .i64)) (h1 : P.underlying f1.type = some (.int .i64))
    (hv : Value.okWide P w r b0 t v) (h : DataW.Trod enc P w base spare held t v d p) : IsAgg2 v := by
  obtain ⟨c0, c1, y0, y1, m, rfl, rfl, rfl, hy0, hy1⟩ := open_agg2 hs hone hC hv h
  obtain ⟨a, e0, rfl, wa⟩ := DataW.trod_int h0 hy0
  obtain ⟨b, e1, rfl, wb⟩ := DataW.trod_int h1 hy1
  simp at e0 e1
  subst e0 e1
  exact ⟨a, b, rfl, wa, wb⟩
theorem is_agg3 {f0 f1 f2 : Field} (hs : P.underlying t = some (.struct #[f0, f1, f2])) (hone : oneCellFields P #[f0, f1, f2] = true) (hC : P.cellsOf t = 3) (h0 : P.underlying f0.type = some (.int .i64)) (h1 : P.underlying f1.type = some (.int .i64)) (h2 : P.underlying f2.type = some (.int .i64))
    (hv : Value.okWide P w r b0 t v) (h : DataW.Trod enc P w base spare held t v d p) : IsAgg3 v := by
  obtain ⟨c0, c1, c2, y0, y1, y2, m, rfl, rfl, rfl, hy0, hy1, hy2⟩ := open_agg3 hs hone hC hv h
  obtain ⟨a, e0, rfl, wa⟩ := DataW.trod_int h0 hy0
  obtain ⟨b, e1, rfl, wb⟩ := DataW.trod_int h1 hy1
  obtain ⟨c, e2, rfl, wc⟩ := DataW.trod_int h2 hy2
  simp at e0 e1 e2
  subst e0 e1 e2
  exact ⟨a, b, c, rfl, wa, wb, wc⟩

theorem is_rows {fs : Array Field} (ht : P.underlying t = some (.slice e)) (he : P.underlying e = some (.struct fs)) (hone : oneCellFields P fs = true) (hC : P.cellsOf e = fs.size) (hpos : 0 < fs.size) (hint : ∀ (j : Nat) (f : Field), fs[j]? = some f → P.underlying f.type = some (.int .i64))
    (hv : Value.okWide P w r b0 t v) (h : DataW.Trod enc P w base spare held t v d p) : IsRows fs.size w v := by
  obtain ⟨a, len, cap, rfl⟩ := okWide_slice ht hv
  obtain ⟨fuel, hf⟩ := h
  rcases open_slice ht hf with ⟨hcs, _⟩ | ⟨x, l, c, m, n, D, Pl, hcs, hb, hl, hm, hmm, hx, hi⟩
  · simp [Value.cells] at hcs
    obtain ⟨rfl, rfl, rfl⟩ := hcs
    exact ⟨0, fun _ _ => 0, ⟨none, 0, rfl, Nat.le_refl _, Nat.zero_le _, fun _ => ⟨rfl, rfl⟩, fun h => absurd h (Nat.lt_irrefl _)⟩, fun i f hi => absurd hi (Nat.not_lt_zero _)⟩
  · simp [Value.cells] at hcs
    obtain ⟨rfl, rfl, rfl⟩ := hcs
    have hlm : len ≤ m := by rw [hmm]; split <;> omega
    have each : ∀ i, i < len → ∀ j, j < fs.size → ∃ q : Int, w.cell? (x.add (i * fs.size + j)) = some (.int .i64 q) ∧ (Lit.int .i64 q).wf = true := by
      intro i hil j hj
      obtain ⟨cs', hc, ht'⟩ := hi i (by omega)
      rw [hC] at hc
      obtain ⟨ys, n', _, hy, hlen, hyl, hff⟩ := DataW.trod_struct he ht'
      obtain ⟨_, hcl, hat⟩ := World.cells?_some hc
      have hfj : fs[j]? = some fs[j] := Array.getElem?_eq_getElem hj
      obtain ⟨ho, hk⟩ := hone_of hone j _ hfj
      have hcell := hat j hj
      have h1 := hff j _ hfj
      rw [ho, hk] at h1
      have hone' : (cs'.drop j).take 1 = [cs'[j]'(by omega)] := by
        rw [List.drop_eq_getElem_cons (by omega)]
        rfl
      rw [hone'] at h1
      have hys : ys[j]? = some (ys[j]'(by omega)) := List.getElem?_eq_getElem (by omega)
      obtain ⟨q, e0, _, wq⟩ := DataW.trod_int (hint j _ hfj) (h1.trans hys)
      simp at e0
      refine ⟨q, ?_, wq⟩
      rw [← Go.Deep.add_add, hcell, List.getElem?_eq_getElem (by omega), e0]
    have each' : ∀ i j, ∃ q : Int, i < len → j < fs.size → w.cell? (x.add (i * fs.size + j)) = some (.int .i64 q) ∧ (Lit.int .i64 q).wf = true := by
      intro i j
      by_cases h : i < len ∧ j < fs.size
      · obtain ⟨q, hq⟩ := each i h.1 j h.2
        exact ⟨q, fun _ _ => hq⟩
      · exact ⟨0, fun h1 h2 => absurd ⟨h1, h2⟩ h⟩
    obtain ⟨F, hF⟩ : ∃ F : Nat → Nat → Int, ∀ i j, i < len → j < fs.size → w.cell? (x.add (i * fs.size + j)) = some (.int .i64 (F i j)) ∧ (Lit.int .i64 (F i j)).wf = true :=
      ⟨fun i j => Classical.choose (each' i j), fun i j => Classical.choose_spec (each' i j)⟩
    refine ⟨len, F, ⟨some x, cap, rfl, hl, hm, fun h => (by cases h), fun h0 => ?_⟩, fun i j hi hj => (hF i j hi hj).2⟩
    have h00 := (hF 0 0 h0 hpos).1
    obtain ⟨b, o, rfl⟩ := addr_of_cell (x := x) (by simpa [Addr.add] using h00)
    have hadd : ∀ j, (⟨b, o, none⟩ : Addr).add j = ⟨b, o + j, none⟩ := fun j => add_none b o j
    simp only [hadd] at hF
    have h01 := (hF 0 0 h0 hpos).1
    exact ⟨b, o, rfl, cell_lt h01, fun i f hi hf => (hF i f hi hf).1⟩
end
theorem i64_bd {n : Int} (h : (Lit.int .i64 n).wf = true) : -9223372036854775808 ≤ n ∧ n ≤ 9223372036854775807 := by
  simpa [Lit.wf, IntKind.min, IntKind.max, IntKind.signed, IntKind.bits] using h
theorem u8_bd {n : Int} (h : (Lit.int .u8 n).wf = true) : 0 ≤ n ∧ n ≤ 255 := by
  simpa [Lit.wf, IntKind.min, IntKind.max, IntKind.signed, IntKind.bits] using h
theorem RdR.parts {m : Nat} {w : World} {v : Value} {n : Nat} {F : Nat → Nat → Int} (h : RdR m w v n F) :
    ∃ a c, v = .slice a n c ∧ n ≤ c ∧ n ≤ 9223372036854775807 ∧ (0 < n → ∃ b o, a = some ⟨b, o, none⟩ ∧ b < w.heap.size ∧ ∀ i f, i < n → f < m → w.cell? ⟨b, o + (i * m + f), none⟩ = some (.int .i64 (F i f))) := by
  obtain ⟨a, c, rfl, h1, h2, _, h4⟩ := h
  exact ⟨a, c, rfl, h1, by unfold maxLen at h2; omega, h4⟩
end Go.Proofs.Ythoioocfembkgaa
