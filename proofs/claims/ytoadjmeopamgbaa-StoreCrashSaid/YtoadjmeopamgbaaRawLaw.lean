/-
  Plain laws of the numbers' bytes: what is got is what was put, and there is one way to tell a number. No program in sight.
-/
import Derived.Test.YtoadjmeopamgbaaRawFn
namespace Go.Proofs.Ytoadjmeopamgbaa

theorem getL_one : ∀ (l : List Int) (i acc n k : Nat), (∀ x ∈ l, 0 ≤ x ∧ x ≤ 255) → getL l i acc = (n, k, 0) →
    ∃ m : Nat, n = acc + m * 128 ^ i ∧ k = i + (enc m).length ∧ enc m = l.take (enc m).length ∧ (0 < i → m ≠ 0) := by
  intro l
  induction l with
  | nil => intro i acc n k _ h; simp [getL] at h
  | cons c t ih =>
    intro i acc n k hb h
    have hc0 := hb c (by simp)
    by_cases hc : 128 ≤ c
    · by_cases h8 : i = 8
      · subst h8; rw [getL_nine hc] at h; simp at h
      · rw [getL_more hc h8] at h
        obtain ⟨m, h1, h2, h3, h4⟩ := ih _ _ n k (fun x hx => hb x (by simp [hx])) h
        have hm := h4 (by omega)
        have hq : ((c % 128).toNat + m * 128) / 128 = m := by omega
        have hr : ((c % 128).toNat + m * 128) % 128 = (c % 128).toNat := by omega
        have he : enc ((c % 128).toNat + m * 128) = c :: enc m := by
          rw [enc_ge (by omega), hq, hr]
          congr 1
          omega
        refine ⟨(c % 128).toNat + m * 128, ?_, ?_, ?_, ?_⟩
        · rw [h1, Nat.pow_succ, Nat.add_mul, Nat.add_assoc, Nat.mul_assoc, Nat.mul_comm (128 ^ i)]
        · rw [he, h2]; simp; omega
        · rw [he]; simp; exact h3
        · omega
    · by_cases hz : c = 0 ∧ 0 < i
      · rw [getL_zero hz.1 hz.2] at h; simp at h
      · rw [getL_ends (by omega) hz] at h
        simp only [Prod.mk.injEq] at h
        obtain ⟨h1, h2, _⟩ := h
        have hct : (c % 128).toNat < 128 := by omega
        refine ⟨(c % 128).toNat, h1.symm, ?_, ?_, ?_⟩
        · rw [enc_lt hct, ← h2]; simp
        · rw [enc_lt hct]; simp; omega
        · omega

theorem getL_enc : ∀ (f m i acc : Nat) (r : List Int), m ≤ f → m < 128 ^ (9 - i) → i ≤ 8 → (0 < i → m ≠ 0) → getL (enc m ++ r) i acc = (acc + m * 128 ^ i, i + (enc m).length, 0) := by
  intro f
  induction f with
  | zero =>
    intro m i acc r h1 _ hi h3
    obtain rfl : m = 0 := by omega
    rw [enc_lt (by omega)]
    simp only [List.cons_append, List.nil_append]
    rw [getL_ends (by simp) (by have := h3; omega)]
    simp
  | succ f ih =>
    intro m i acc r h1 h2 hi h3
    by_cases hm : m < 128
    · rw [enc_lt hm]
      simp only [List.cons_append, List.nil_append]
      rw [getL_ends (by omega) (by have := h3; omega)]
      have : ((m : Int) % 128).toNat = m := by omega
      rw [this]; simp
    · have h8 : i ≠ 8 := by
        intro h; subst h; simp at h2; omega
      rw [enc_ge (by omega)]
      simp only [List.cons_append]
      rw [getL_more (by omega) h8]
      have hp : 128 ^ (9 - i) = 128 ^ (9 - (i + 1)) * 128 := by rw [← Nat.pow_succ]; congr 1; omega
      rw [ih (m / 128) (i + 1) _ r (by omega) (by rw [Nat.div_lt_iff_lt_mul (by omega), ← hp]; exact h2) (by omega) (by omega)]
      have hx : (((m % 128 + 128 : Nat) : Int) % 128).toNat = m % 128 := by omega
      rw [hx]
      simp only [Prod.mk.injEq, List.length_cons, and_true]
      refine ⟨?_, by omega⟩
      rw [Nat.pow_succ, Nat.add_assoc, Nat.mul_comm (128 ^ i) 128, ← Nat.mul_assoc, ← Nat.add_mul]
      congr 2
      omega

theorem getN_one {l : List Int} (hb : ∀ x ∈ l, 0 ≤ x ∧ x ≤ 255) {p : Nat} (h : (getN l p).2.2 = 0) :
    enc (getN l p).1.toNat = ((l.drop p).take ((getN l p).2.1.toNat - p)) ∧ 0 ≤ (getN l p).1 ∧ (getN l p).2.1 = ((p + (enc (getN l p).1.toNat).length : Nat) : Int) := by
  by_cases hp : 0 ≤ (p : Int) ∧ (p : Int) ≤ l.length
  · unfold getN at h ⊢
    rw [if_pos hp] at h ⊢
    rw [Int.toNat_natCast] at h ⊢
    rcases hg : getL (l.drop p) 0 0 with ⟨n, j, e⟩
    rw [hg] at h
    simp only at h ⊢
    by_cases he : e = 0
    · rw [if_pos he] at h ⊢
      subst he
      obtain ⟨m, h1, h2, h3, _⟩ := getL_one _ _ _ _ _ (fun x hx => hb x (List.mem_of_mem_drop hx)) hg
      simp at h1 h2
      subst h1
      simp only [Int.toNat_natCast]
      have : ((p : Int) + (j : Int)).toNat - p = (enc n).length := by omega
      rw [this]
      exact ⟨h3, by omega, by omega⟩
    · rw [if_neg he] at h; simp at h; omega
  · unfold getN at h; rw [if_neg hp] at h; simp at h

theorem pow128_9 : (128 : Nat) ^ 9 = 9223372036854775808 := by decide

/-- what was put is got -/
theorem getN_enc (a r : List Int) (m : Nat) (h : m < 9223372036854775808) : getN (a ++ (enc m ++ r)) a.length = ((m : Int), ((a.length + (enc m).length : Nat) : Int), 0) := by
  unfold getN
  rw [if_pos ⟨by omega, by simp; omega⟩, Int.toNat_natCast, List.drop_left, getL_enc m m 0 0 r (Nat.le_refl _) (by rw [Nat.sub_zero, pow128_9]; exact h) (by omega) (by omega)]
  simp
end Go.Proofs.Ytoadjmeopamgbaa
