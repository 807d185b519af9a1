/-
  What karma.allocate computes; rows of integers. No program in sight.
-/
import Derived.Test.YtpmfadepinmmjaaKOrder2
import Derived.Test.YtpmfadepinmmjaaHints
namespace Go.Proofs.Ytpmfadepinmmjaa
open Go.RowKit

/-- what is left of a range behind the first t tiers -/
def lfK (c : Nat → Nat) (s : Nat) : Nat → Nat
  | 0 => s
  | t + 1 => lfK c s t - min (lfK c s t) (c t)
def tkK (c : Nat → Nat) (s t : Nat) : Nat := min (lfK c s t) (c t)
def capA (c : Nat → Nat) (s t : Nat) : Nat := c t - tkK c s t
def rowK (c : Nat → Nat) (s t : Nat) : Nat := if t < 3 then tkK c s t else lfK c s 3
/-- the capacities, the parts: one range more -/
def stp (S : Nat → Nat) (st : (Nat → Nat) × (Nat → Nat → Nat)) (x : Nat) : (Nat → Nat) × (Nat → Nat → Nat) :=
  (fun t => if t < 3 then capA st.1 (S x) t else st.1 t, fun i t => if i = x ∧ t < 4 then rowK st.1 (S x) t else st.2 i t)
def stK (S c : Nat → Nat) (M : List Nat) : (Nat → Nat) × (Nat → Nat → Nat) := M.foldl (stp S) (c, fun _ _ => 0)
theorem stK_succ (S c : Nat → Nat) (M : List Nat) {k : Nat} (h : k < M.length) : stK S c (M.take (k + 1)) = stp S (stK S c (M.take k)) (M.getD k 0) := by
  unfold stK
  rw [List.take_succ_eq_append_getElem h, List.foldl_append]
  simp [List.getD, h]
theorem lfK_le (c : Nat → Nat) (s : Nat) : ∀ t, lfK c s t ≤ s
  | 0 => Nat.le_refl _
  | t + 1 => by have := lfK_le c s t; unfold lfK; omega
theorem cap_le (S c : Nat → Nat) : ∀ (M : List Nat) (t : Nat), (stK S c M).1 t ≤ c t := by
  intro M
  have key : ∀ (M : List Nat) (st : (Nat → Nat) × (Nat → Nat → Nat)) (t : Nat), (M.foldl (stp S) st).1 t ≤ st.1 t := by
    intro M
    induction M with
    | nil => intro st t; exact Nat.le_refl _
    | cons x M ih =>
      intro st t
      rw [List.foldl_cons]
      refine Nat.le_trans (ih _ t) ?_
      show (if t < 3 then capA st.1 (S x) t else st.1 t) ≤ st.1 t
      split
      · unfold capA; omega
      · exact Nat.le_refl _
  exact key M _

/-- a row of integers -/
structure IRow (w : World) (g m : Nat) (V : Nat → Int) : Prop where
  row : ∃ cs t, w.heap[g]? = some (.cells cs t (0, 0)) ∧ ∀ j, j < m → cs[j]? = some (.int .i64 (V j))
section
variable {w w' : World} {g m : Nat} {V : Nat → Int}
theorem IRow.lt (h : IRow w g m V) : g < w.heap.size := by obtain ⟨cs, t, h1, _⟩ := h.row; exact (Array.getElem?_eq_some_iff.1 h1).1
theorem IRow.cell (h : IRow w g m V) {j : Nat} (hj : j < m) : w.cell? ⟨g, j, none⟩ = some (.int .i64 (V j)) := by
  obtain ⟨cs, t, h1, h2⟩ := h.row
  exact (cell_of_row w g j cs t _ h1).trans (h2 j hj)
theorem IRow.free (h : IRow w g m V) (o : Nat) : w.frozen? ⟨g, o, none⟩ = false := by obtain ⟨cs, t, h1, _⟩ := h.row; exact frozen_row h1 o
theorem IRow.chg {S : List Nat} (h : IRow w g m V) (hx : Chg S w w') (hS : g ∉ S) : IRow w' g m V := by
  obtain ⟨cs, t, h1, h2⟩ := h.row
  exact ⟨cs, t, (hx.block _ h.lt hS).trans h1, h2⟩
theorem IRow.ext (h : IRow w g m V) (hx : Ext w w') : IRow w' g m V := h.chg (Chg.of_ext (S := []) hx) (by simp)
theorem IRow.congr {V' : Nat → Int} (h : IRow w g m V) (hV : ∀ j, j < m → V' j = V j) : IRow w g m V' := by
  obtain ⟨cs, t, h1, h2⟩ := h.row
  exact ⟨cs, t, h1, fun j hj => by rw [hV j hj]; exact h2 j hj⟩
theorem IRow.set (h : IRow w g m V) {j : Nat} (hj : j < m) (x : Int) {V' : Nat → Int} (hV : ∀ k, k < m → V' k = if k = j then x else V k) : IRow (w.setCell ⟨g, j, none⟩ (.int .i64 x)) g m V' := by
  obtain ⟨cs, t, h1, h2⟩ := h.row
  refine ⟨_, t, heap_set (o := j) h1 _, fun k hk => ?_⟩
  rw [hV k hk]
  by_cases e : k = j
  · subst e
    rw [if_pos rfl, Array.getElem?_setIfInBounds_self_of_lt (Array.getElem?_eq_some_iff.1 (h2 k hk)).1]
  · rw [if_neg e, Array.getElem?_setIfInBounds_ne (fun x => e x.symm)]
    exact h2 k hk
theorem IRow.other (h : IRow w g m V) {a : Addr} (ha : g ≠ a.block) (u : Value) : IRow (w.setCell a u) g m V := by
  obtain ⟨cs, t, h1, h2⟩ := h.row
  exact ⟨cs, t, (Below.heap_setCell _ _ _ _ ha).trans h1, h2⟩
end
/-- fractions as cells -/
def fcl (T B : Nat → Int) : Nat → List Value
  | 0 => []
  | k + 1 => fcl T B k ++ [.int .i64 (T k), .int .i64 (B k)]
theorem fcl_len (T B : Nat → Int) : ∀ k, (fcl T B k).length = k * 2
  | 0 => rfl
  | k + 1 => by rw [fcl, List.length_append, fcl_len T B k]; simp; omega
theorem fcl_at (T B : Nat → Int) : ∀ k i, i < k → (fcl T B k)[i * 2]? = some (.int .i64 (T i)) ∧ (fcl T B k)[i * 2 + 1]? = some (.int .i64 (B i))
  | k + 1, i, h => by
    have hl := fcl_len T B k
    by_cases e : i < k
    · obtain ⟨h1, h2⟩ := fcl_at T B k i e
      rw [fcl, List.getElem?_append_left (by omega), List.getElem?_append_left (by omega)]
      exact ⟨h1, h2⟩
    · obtain rfl : i = k := by omega
      rw [fcl, List.getElem?_append_right (by omega), List.getElem?_append_right (by omega), hl]
      simp
theorem rdf_of_own {w : World} {base n : Nat} {e : TypeId} {v : Value} {T B : Nat → Int} (h : w.ownsRow base e 2 v n (fcl T B n)) : RdF w v n T B := by
  obtain ⟨hl, h2⟩ := h
  rcases h2 with ⟨rfl, rfl⟩ | ⟨g, cap, cur, rfl, hb, hg, hn, hm, _, ht⟩
  · exact ⟨none, 0, rfl, Nat.le_refl _, Nat.zero_le _, fun h => absurd h (Nat.lt_irrefl _)⟩
  · refine ⟨_, cap, rfl, hn, hm, fun _ => ⟨g, 0, rfl, (Array.getElem?_eq_some_iff.1 hg).1, fun i hi => ?_⟩⟩
    obtain ⟨h1, h2⟩ := fcl_at T B n i hi
    rw [← ht, List.getElem?_take, if_pos (by omega)] at h1 h2
    rw [cell_of_row w g _ cur e (0, 0) hg, cell_of_row w g _ cur e (0, 0) hg]
    exact ⟨by simpa using h1, by simpa using h2⟩
theorem Rd.two (w : World) (a b : Value) (e : TypeId) : Rd (w.alloc (.cells #[a, b] e)) 2 (.slice (some ⟨w.heap.size, 0, none⟩) 1 1) 1 [a, b] := by
  refine ⟨by simp, _, _, rfl, Nat.le_refl _, by simp [maxLen], fun h => (by cases h), fun _ => ⟨w.heap.size, 0, rfl, by simp, fun j v hj => ?_⟩⟩
  rw [cell_of_row _ _ _ _ _ _ (heap_alloc_new w _), Nat.zero_add]
  simpa using hj
/-- hints as fractions -/
def kT (n : Nat) (F : Nat → Nat → Int) (i : Nat) : Int := if i < n then F i 2 else 0
def kB (n : Nat) (F : Nat → Nat → Int) (i : Nat) : Int := if i < n then F i 1 else 1
/-- hints that may be shared out -/
def FrOk (n : Nat) (F : Nat → Nat → Int) : Prop := ∀ i, i < n → 1 ≤ F i 1 ∧ F i 1 ≤ 32 ∧ 0 ≤ F i 2 ∧ F i 2 ≤ 2147483647
theorem HsOk.fr {n : Nat} {F : Nat → Nat → Int} {m : Int} (h : HsOk n F m) : FrOk n F := fun i hi => by
  obtain ⟨h0, h1, _, _, h4, h5, h6⟩ := h.1 i hi
  exact ⟨h1, by omega, h5, h6⟩
theorem kB_pos {n : Nat} {F : Nat → Nat → Int} (h : FrOk n F) (i : Nat) : 0 < kB n F i := by
  unfold kB
  split
  · rename_i hi; have := (h i hi).1; omega
  · omega
theorem k_right {n : Nat} {F : Nat → Nat → Int} (h : FrOk n F) (i : Nat) (hi : i < n) : rightB (kT n F i) (kB n F i) = true := by
  obtain ⟨h1, h2, h3, h4⟩ := h i hi
  unfold kT kB rightB
  rw [if_pos hi, if_pos hi]
  simp
  omega
/-- a range's size -/
def kS (F : Nat → Nat → Int) (i : Nat) : Nat := (F i 1).toNat
end Go.Proofs.Ytpmfadepinmmjaa
