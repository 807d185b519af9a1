/-
  frame, plain: the sum of bytes.
-/
import Derived.Test.YtmkobmkaalfecaaRawFn
import Derived.Test.YtmkobmkaalfecaaMem
namespace Go.Proofs.Ytmkobmkaalfecaa
open Go.RowKit

/-- the sum of the first k bytes, each times its place -/
def wsum (l : List Int) : Nat → Int
  | 0 => 0
  | k + 1 => wsum l k + ((k : Int) + 1) * l.getD k 0
def ssum (l : List Int) : Int := wsum l l.length % 251

theorem wsum_succ (l : List Int) (k : Nat) : wsum l (k + 1) = wsum l k + ((k : Int) + 1) * l.getD k 0 := rfl
theorem mul_bd {k : Nat} {x M : Int} (hk : (k : Int) + 1 ≤ M) (h0 : 0 ≤ x) (h1 : x ≤ 255) : 0 ≤ ((k : Int) + 1) * x ∧ ((k : Int) + 1) * x ≤ M * 255 :=
  ⟨Int.mul_nonneg (by omega) h0, Int.mul_le_mul hk h1 h0 (by omega)⟩
theorem wsum_bd (l : List Int) (hb : ∀ x ∈ l, 0 ≤ x ∧ x ≤ 255) (M : Nat) (hM : l.length ≤ M) : ∀ k, k ≤ l.length → 0 ≤ wsum l k ∧ wsum l k ≤ (k : Int) * ((M : Int) * 255) := by
  intro k
  induction k with
  | zero => intro _; simp [wsum]
  | succ k ih =>
    intro hk
    have h1 := ih (by omega)
    have h2 := hb _ (getD_mem (show k < l.length by omega))
    have h3 := mul_bd (k := k) (M := M) (by omega) h2.1 h2.2
    rw [wsum_succ, show (((k + 1 : Nat) : Int)) * ((M : Int) * 255) = (k : Int) * ((M : Int) * 255) + (M : Int) * 255 by rw [Int.natCast_add, Int.add_mul]; simp]
    omega
theorem ssum_bd (l : List Int) : 0 ≤ ssum l ∧ ssum l ≤ 250 := by unfold ssum; omega
theorem wsum_append (l r : List Int) : ∀ k, k ≤ l.length → wsum (l ++ r) k = wsum l k := by
  intro k
  induction k with
  | zero => intro _; rfl
  | succ k ih =>
    intro hk
    rw [wsum_succ, wsum_succ, ih (by omega)]
    congr 2
    rw [List.getD_eq_getElem?_getD, List.getD_eq_getElem?_getD, List.getElem?_append_left (by omega)]
theorem wsum_set (l : List Int) (i : Nat) (x : Int) (hi : i < l.length) : ∀ k, wsum (l.set i x) k = wsum l k + (if i < k then ((i : Int) + 1) * (x - l.getD i 0) else 0) := by
  intro k
  induction k with
  | zero => simp [wsum]
  | succ k ih =>
    rw [wsum_succ, wsum_succ, ih]
    by_cases hik : i = k
    · subst hik
      rw [if_neg (by omega), if_pos (by omega)]
      have e : (l.set i x).getD i 0 = x := by rw [List.getD_eq_getElem?_getD, List.getElem?_set_self hi]; rfl
      rw [e, Int.mul_sub]; omega
    · have e : (l.set i x).getD k 0 = l.getD k 0 := by rw [List.getD_eq_getElem?_getD, List.getD_eq_getElem?_getD, List.getElem?_set_ne hik]
      rw [e]
      by_cases h : i < k
      · rw [if_pos h, if_pos (by omega)]; omega
      · rw [if_neg h, if_neg (by omega)]; omega
/-- 251 is prime: a product below it that it divides .. -/
theorem prime251 (a d : Int) (ha : 0 < a) (ha2 : a < 251) (hd : (a * d) % 251 = 0) : d % 251 = 0 := by
  have hp : ∀ i : Nat, i < 251 → 0 < i → Nat.gcd 251 i = 1 := by decide +kernel
  have h1 : (251 : Int) ∣ a * d := Int.dvd_of_emod_eq_zero hd
  have h2 : 251 ∣ a.natAbs * d.natAbs := by rw [← Int.natAbs_mul]; exact Int.natAbs_dvd_natAbs.mpr h1
  have h3 : 251 ∣ d.natAbs := Nat.Coprime.dvd_of_dvd_mul_left (hp a.natAbs (by omega) (by omega)) h2
  have h4 : (251 : Int) ∣ d := Int.natAbs_dvd_natAbs.mp h3
  exact Int.emod_eq_zero_of_dvd h4
/-- a byte turned, but by 251: the sum is another -/
theorem ssum_turned (l : List Int) (i : Nat) (x : Int) (hi : i < l.length) (hi2 : i < 250) (hd : (x - l.getD i 0) % 251 ≠ 0) : ssum (l.set i x) ≠ ssum l := by
  intro h
  unfold ssum at h
  rw [List.length_set, wsum_set l i x hi, if_pos hi] at h
  exact hd (prime251 ((i : Int) + 1) _ (by omega) (by omega) (by omega))
end Go.Proofs.Ytmkobmkaalfecaa
