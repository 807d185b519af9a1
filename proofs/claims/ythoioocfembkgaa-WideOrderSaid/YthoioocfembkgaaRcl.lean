/-
  Rows of cells, one behind the other, as a slice reads them. No condition.
-/
import Derived.Test.YthoioocfembkgaaRowsIn
namespace Go.Proofs.Ythoioocfembkgaa
open Go.RowKit

/-- rows of m cells, one behind the other -/
def rcl (m : Nat) (V : Nat → Nat → Value) : Nat → List Value
  | 0 => []
  | n + 1 => rcl m V n ++ (List.range m).map (V n)
theorem rcl_len (m : Nat) (V : Nat → Nat → Value) : ∀ n, (rcl m V n).length = n * m
  | 0 => by simp [rcl]
  | n + 1 => by rw [rcl, List.length_append, rcl_len m V n, List.length_map, List.length_range, Nat.succ_mul]
theorem rcl_at (m : Nat) (V : Nat → Nat → Value) : ∀ n i f, i < n → f < m → (rcl m V n)[i * m + f]? = some (V i f)
  | n + 1, i, f, hi, hf => by
    have hl := rcl_len m V n
    rw [rcl]
    by_cases e : i < n
    · have h9 : i * m + f < n * m := by
        have := Nat.mul_le_mul_right m (show i + 1 ≤ n by omega)
        rw [Nat.succ_mul] at this
        omega
      rw [List.getElem?_append_left (by omega)]
      exact rcl_at m V n i f e hf
    · obtain rfl : i = n := by omega
      rw [List.getElem?_append_right (by omega), hl, Nat.add_sub_cancel_left]
      simp [hf]
theorem rcl_mem {m : Nat} {V : Nat → Nat → Value} : ∀ n u, u ∈ rcl m V n → ∃ i f, i < n ∧ f < m ∧ u = V i f
  | n + 1, u, h => by
    rw [rcl] at h
    rcases List.mem_append.1 h with h | h
    · obtain ⟨i, f, h1, h2, h3⟩ := rcl_mem n u h
      exact ⟨i, f, by omega, h2, h3⟩
    · obtain ⟨f, hf, rfl⟩ := List.mem_map.1 h
      exact ⟨n, f, by omega, by simpa using hf, rfl⟩
theorem RdV.rd {m : Nat} (hm : 0 < m) {w : World} {v : Value} {n : Nat} {V : Nat → Nat → Value} (h : RdV m w v n V) : Rd w m v n (rcl m V n) := by
  obtain ⟨a, c, rfl, h1, h2, h3, h4⟩ := h
  refine ⟨rcl_len m V n, a, c, rfl, h1, h2, h3, fun h0 => ?_⟩
  obtain ⟨b, o, rfl, hb, hc⟩ := h4 h0
  refine ⟨b, o, rfl, hb, fun j u hu => ?_⟩
  have hj : j < n * m := by have := (List.getElem?_eq_some_iff.1 hu).1; rwa [rcl_len] at this
  have hi : j / m < n := (Nat.div_lt_iff_lt_mul hm).2 hj
  have hf : j % m < m := Nat.mod_lt _ hm
  have he : j / m * m + j % m = j := by rw [Nat.mul_comm]; exact Nat.div_add_mod j m
  have := rcl_at m V n _ _ hi hf
  rw [he, hu] at this
  have h9 := hc _ _ hi hf
  rw [he] at h9
  rw [h9, this]
theorem RdV.of_rd {m : Nat} {w : World} {v : Value} {n : Nat} {V : Nat → Nat → Value} (h : Rd w m v n (rcl m V n)) : RdV m w v n V := by
  obtain ⟨_, a, c, rfl, h1, h2, h3, h4⟩ := h
  refine ⟨a, c, rfl, h1, h2, h3, fun h0 => ?_⟩
  obtain ⟨b, o, rfl, hb, hc⟩ := h4 h0
  exact ⟨b, o, rfl, hb, fun i f hi hf => hc _ _ (rcl_at m V n i f hi hf)⟩
theorem own_empty {w : World} (e : TypeId) (m : Nat) {base : Nat} (hb : base ≤ w.heap.size) : (w.alloc (.cells #[] e)).ownsRow base e m (.slice (some ⟨w.heap.size, 0, none⟩) 0 0) 0 [] :=
  World.ownsRow_lit (base := base) (e := e) (size := m) w #[] 0 hb (by simp) (by simp)
end Go.Proofs.Ythoioocfembkgaa
