/-
  Plain facts on floating point: whole numbers below 2^53 are told exactly, and so are their sums, differences and products that stay below it. No program in sight.
-/
import Derived.WalkKit
import Derived.Laws.ComplexArith
namespace Go.Proofs.Ythoioocfembkgaa
open Ieee

/-- a datum stands for the whole number n -/
def Val (d : Datum) (n : Int) : Prop := ∃ (s : Bool) (m : Nat) (e : Int), d = .number s m e ∧ ∃ k : Nat, 0 ≤ e + k ∧ signed s m (e + k).toNat = n * 2 ^ k

theorem signed_pos (m u : Nat) : signed false m u = ((m * 2 ^ u : Nat) : Int) := by simp [signed, Nat.shiftLeft_eq]
theorem signed_neg (m u : Nat) : signed true m u = -((m * 2 ^ u : Nat) : Int) := by simp [signed, Nat.shiftLeft_eq]
theorem signed_add (s : Bool) (m u v : Nat) : signed s m (u + v) = signed s m u * 2 ^ v := by
  cases s
  · rw [signed_pos, signed_pos, Nat.pow_add, ← Nat.mul_assoc]; simp
  · rw [signed_neg, signed_neg, Nat.pow_add, ← Nat.mul_assoc, Int.neg_mul]; simp
theorem signed_abs (s : Bool) (m u : Nat) : (signed s m u).natAbs = m * 2 ^ u := by
  cases s
  · rw [signed_pos, Int.natAbs_natCast]
  · rw [signed_neg, Int.natAbs_neg, Int.natAbs_natCast]

theorem val_scale {s : Bool} {m : Nat} {e n : Int} {k : Nat} (h0 : 0 ≤ e + k) (h : signed s m (e + k).toNat = n * 2 ^ k) (j : Nat) : 0 ≤ e + (k + j : Nat) ∧ signed s m (e + (k + j : Nat)).toNat = n * 2 ^ (k + j) := by
  refine ⟨by omega, ?_⟩
  have : (e + (k + j : Nat)).toNat = (e + k).toNat + j := by omega
  rw [this, signed_add, h, Int.pow_add, Int.mul_assoc]

theorem cut_zero (way : Toward) (s : Bool) (n d : Nat) (h : n % 2 ^ d = 0) : way.cut s n d = n / 2 ^ d := by
  by_cases hd : d ≤ n.log2 + 2
  · unfold Toward.cut
    simp only [Nat.min_eq_left hd, Nat.shiftLeft_eq, Nat.one_mul, h]
    have hp : 0 < 2 ^ d := Nat.pow_pos (by decide)
    cases way
    · have h1 : decide (2 ^ d < 2 * 0) = false := by simp
      have h2 : (2 ^ d == 2 * 0) = false := by rw [beq_eq_false_iff_ne]; omega
      simp [h2]
    · simp
    · simp
    · simp
  · have h0 : n = 0 := by
      rcases Nat.eq_zero_or_pos n with h0 | h0
      · exact h0
      · exfalso
        have h1 : n < 2 ^ (n.log2 + 1) := Nat.lt_log2_self
        have h2 : 2 ^ (n.log2 + 1) ≤ 2 ^ d := Nat.pow_le_pow_right (by decide) (by omega)
        rw [Nat.mod_eq_of_lt (by omega)] at h
        omega
    subst h0
    unfold Toward.cut
    simp only [Nat.log2_zero] at hd ⊢
    have : min d (0 + 2) = 2 := by omega
    rw [this]
    cases way <;> simp

theorem read_word (s : Bool) (r : Nat) (h1 : 4503599627370496 ≤ r) (h2 : r < 9218868437227405312) :
    double.read (double.word s r) = .number s (4503599627370496 + r % 4503599627370496) (-1074 + ((r / 4503599627370496 - 1 : Nat) : Int)) := by
  have hb : double.binade = 4503599627370496 := by decide
  have hi : double.infRung = 9218868437227405312 := by decide
  have hw : double.signWeight = 9223372036854775808 := by decide
  have hl : double.leastPlace = -1074 := by decide
  unfold Format.read Format.word
  rw [hb, hi, hw, hl]
  cases s
  · have e1 : (r / 9223372036854775808 % 2 == 1) = false := by rw [beq_eq_false_iff_ne]; omega
    have e2 : r % 9223372036854775808 = r := by omega
    simp only [Bool.false_eq_true, if_false, e1, e2]
    rw [if_neg (by omega), if_pos h2]
  · have e1 : ((9223372036854775808 + r) / 9223372036854775808 % 2 == 1) = true := by rw [beq_iff_eq]; omega
    have e2 : (9223372036854775808 + r) % 9223372036854775808 = r := by omega
    simp only [if_true, e1, e2]
    rw [if_neg (by omega), if_pos h2]

theorem read_zero (s : Bool) : double.read (double.word s 0) = .number s 0 (-1074) := by cases s <;> decide +kernel

theorem nearest_val (s : Bool) (m : Nat) (e n : Int) (k : Nat) (h0 : 0 ≤ e + k) (h : signed s m (e + k).toNat = n * 2 ^ k) (hn : n.natAbs < 2 ^ 53) : Val (double.read (double.nearest s m e)) n := by
  by_cases hm : m = 0
  · subst hm
    have : n = 0 := by
      have h1 : (signed s 0 (e + k).toNat).natAbs = 0 := by rw [signed_abs]; simp
      rw [h] at h1
      have h2 : n * 2 ^ k = 0 := by omega
      rcases Int.mul_eq_zero.1 h2 with h3 | h3
      · exact h3
      · exact absurd h3 (by have : (0 : Int) < 2 ^ k := Int.pow_pos (by decide); omega)
    subst this
    unfold Format.nearest
    rw [if_pos rfl, read_zero]
    refine ⟨s, 0, -1074, rfl, 1074, by omega, ?_⟩
    rw [Int.zero_mul]
    cases s
    · rw [signed_pos, Nat.zero_mul]; rfl
    · rw [signed_neg, Nat.zero_mul]; rfl
  · have hlo : 2 ^ m.log2 ≤ m := Nat.log2_self_le hm
    have hhi : m < 2 ^ (m.log2 + 1) := Nat.lt_log2_self
    generalize hL : m.log2 = L at hlo hhi
    obtain ⟨j, hj⟩ : ∃ j : Nat, e + k = j := ⟨(e + k).toNat, by omega⟩
    have habs : m * 2 ^ j = n.natAbs * 2 ^ k := by
      have h1 := congrArg Int.natAbs h
      rw [signed_abs, hj, Int.toNat_natCast, Int.natAbs_mul, Int.natAbs_pow] at h1
      simpa using h1
    have hup : L + j < 53 + k := by
      have h1 : 2 ^ (L + j) < 2 ^ (53 + k) := by
        calc 2 ^ (L + j) = 2 ^ L * 2 ^ j := by rw [Nat.pow_add]
          _ ≤ m * 2 ^ j := Nat.mul_le_mul_right _ hlo
          _ = n.natAbs * 2 ^ k := habs
          _ < 2 ^ 53 * 2 ^ k := Nat.mul_lt_mul_of_pos_right hn (Nat.pow_pos (by decide))
          _ = 2 ^ (53 + k) := (Nat.pow_add 2 53 k).symm
      exact (Nat.pow_lt_pow_iff_right (by decide)).1 h1
    have hnz : 0 < n.natAbs := by
      rcases Nat.eq_zero_or_pos n.natAbs with h1 | h1
      · rw [h1, Nat.zero_mul] at habs
        have := Nat.pow_pos (n := j) (show 0 < 2 by decide)
        rcases Nat.mul_eq_zero.1 habs with h2 | h2 <;> omega
      · exact h1
    have hdn : k ≤ L + j := by
      have h1 : 2 ^ k < 2 ^ (L + 1 + j) := by
        calc 2 ^ k ≤ n.natAbs * 2 ^ k := Nat.le_mul_of_pos_left _ hnz
          _ = m * 2 ^ j := habs.symm
          _ < 2 ^ (L + 1) * 2 ^ j := Nat.mul_lt_mul_of_pos_right hhi (Nat.pow_pos (by decide))
          _ = 2 ^ (L + 1 + j) := (Nat.pow_add 2 (L + 1) j).symm
      have := (Nat.pow_lt_pow_iff_right (by decide)).1 h1
      omega
    have hmax : max (e + (L : Int) - 52) (-1074) = e + L - 52 := by omega
    have hkept : ∃ kept : Nat, Toward.even.cut s (m <<< (e - (e + L - 52)).toNat) ((e + (L : Int) - 52) - e).toNat = kept ∧ 4503599627370496 ≤ kept ∧ kept < 9007199254740992 ∧ kept * 2 ^ L = m * 2 ^ 52 := by
      have p52 : (2 : Nat) ^ 52 = 4503599627370496 := by decide
      by_cases h52 : L ≤ 52
      · have e1 : (e - (e + (L : Int) - 52)).toNat = 52 - L := by omega
        have e2 : ((e + (L : Int) - 52) - e).toNat = 0 := by omega
        rw [e1, e2, cut_zero _ _ _ _ (by simp [Nat.mod_one]), Nat.shiftLeft_eq]
        have hk : (m * 2 ^ (52 - L) / 2 ^ 0) = m * 2 ^ (52 - L) := by simp
        have hmul : m * 2 ^ (52 - L) * 2 ^ L = m * 2 ^ 52 := by rw [Nat.mul_assoc, ← Nat.pow_add]; congr 2; omega
        refine ⟨_, rfl, ?_, ?_, by rw [hk]; exact hmul⟩
        · rw [hk]
          have : 2 ^ L * 2 ^ (52 - L) ≤ m * 2 ^ (52 - L) := Nat.mul_le_mul_right _ hlo
          rw [← Nat.pow_add, show L + (52 - L) = 52 by omega, p52] at this
          exact this
        · rw [hk]
          have : m * 2 ^ (52 - L) < 2 ^ (L + 1) * 2 ^ (52 - L) := Nat.mul_lt_mul_of_pos_right hhi (Nat.pow_pos (by decide))
          rw [← Nat.pow_add, show L + 1 + (52 - L) = 53 by omega, show (2 : Nat) ^ 53 = 9007199254740992 by decide] at this
          exact this
      · have e1 : (e - (e + (L : Int) - 52)).toNat = 0 := by omega
        have e2 : ((e + (L : Int) - 52) - e).toNat = L - 52 := by omega
        -- m is |n| times a power of two that is at least 2 ^ (L - 52)
        have hkj : k = j + (k - j) := by omega
        have hmn : m = n.natAbs * 2 ^ (k - j) := by
          have h1 : m * 2 ^ j = n.natAbs * 2 ^ (k - j) * 2 ^ j := by rw [habs, Nat.mul_assoc, ← Nat.pow_add]; congr 2; omega
          exact Nat.eq_of_mul_eq_mul_right (Nat.pow_pos (by decide)) h1
        have hdv : m = n.natAbs * 2 ^ (k - j - (L - 52)) * 2 ^ (L - 52) := by
          rw [Nat.mul_assoc, ← Nat.pow_add, show k - j - (L - 52) + (L - 52) = k - j by omega]; exact hmn
        have hmod : m % 2 ^ (L - 52) = 0 := by rw [hdv]; exact Nat.mul_mod_left _ _
        rw [e1, e2, Nat.shiftLeft_zero, cut_zero _ _ _ _ hmod]
        have hq : m / 2 ^ (L - 52) * 2 ^ (L - 52) = m := Nat.div_mul_cancel (Nat.dvd_of_mod_eq_zero hmod)
        have hpp : 0 < 2 ^ (L - 52) := Nat.pow_pos (by decide)
        refine ⟨_, rfl, ?_, ?_, ?_⟩
        · rw [Nat.le_div_iff_mul_le hpp, ← p52, ← Nat.pow_add, show 52 + (L - 52) = L by omega]
          exact hlo
        · rw [Nat.div_lt_iff_lt_mul hpp, show 9007199254740992 = 2 ^ 53 by decide, ← Nat.pow_add, show 53 + (L - 52) = L + 1 by omega]
          exact hhi
        · have : L = (L - 52) + 52 := by omega
          rw [this, Nat.pow_add, ← Nat.mul_assoc]
          simp only [Nat.add_sub_cancel]
          rw [hq]
    obtain ⟨kept, hk1, hk2, hk3, hk4⟩ := hkept
    have hf : double.fractionBits = 52 := rfl
    have hl : double.leastPlace = -1074 := by decide
    have hb : double.binade = 4503599627370496 := by decide
    have hi : double.infRung = 9218868437227405312 := by decide
    have hnear : double.nearest s m e = double.word s ((e + L - 52 + 1074).toNat * 4503599627370496 + kept) := by
      unfold Format.nearest
      rw [if_neg hm]
      simp only [hf, hl, hb, hi, hL]
      rw [show ((52 : Nat) : Int) = 52 from rfl, hmax, hk1, show e + (L : Int) - 52 - -1074 = e + L - 52 + 1074 by omega, Nat.min_eq_left (by omega)]
    obtain ⟨q, hq⟩ : ∃ q : Nat, e + (L : Int) - 52 + 1074 = q := ⟨(e + (L : Int) - 52 + 1074).toNat, by omega⟩
    rw [hnear, hq, Int.toNat_natCast, read_word _ _ (by omega) (by omega)]
    have e1 : (q * 4503599627370496 + kept) % 4503599627370496 = kept - 4503599627370496 := by omega
    have e2 : (q * 4503599627370496 + kept) / 4503599627370496 = q + 1 := by omega
    rw [e1, e2, show 4503599627370496 + (kept - 4503599627370496) = kept by omega]
    refine ⟨s, kept, -1074 + ((q + 1 - 1 : Nat) : Int), rfl, k + 52, by omega, ?_⟩
    have e3 : (-1074 + ((q + 1 - 1 : Nat) : Int) + ((k + 52 : Nat) : Int)).toNat = L + j := by omega
    rw [e3]
    have hgoal : kept * 2 ^ (L + j) = m * 2 ^ j * 2 ^ 52 := by
      rw [Nat.pow_add, ← Nat.mul_assoc, hk4, Nat.mul_assoc, Nat.mul_comm (2 ^ 52), ← Nat.mul_assoc]
    rw [Int.pow_add, ← Int.mul_assoc, ← h, hj, Int.toNat_natCast]
    cases s
    · rw [signed_pos, signed_pos, hgoal]; simp
    · rw [signed_neg, signed_neg, hgoal, Int.neg_mul]; simp
/-- the bits of a float64 that stands for the whole number n -/
def IsF (b : Nat) (n : Int) : Prop := Val (double.read b) n

theorem isF_write {d : Datum} {n : Int} (h : Val d n) (hn : n.natAbs < 2 ^ 53) : IsF (double.write d) n := by
  obtain ⟨s, m, e, rfl, k, h0, h1⟩ := h
  exact nearest_val s m e n k h0 h1 hn

theorem val_neg {d : Datum} {n : Int} (h : Val d n) : Val d.opposite (-n) := by
  obtain ⟨s, m, e, rfl, k, h0, h1⟩ := h
  refine ⟨!s, m, e, rfl, k, h0, ?_⟩
  rw [Int.neg_mul, ← h1]
  cases s
  · rw [Bool.not_false, signed_pos, signed_neg]
  · rw [Bool.not_true, signed_pos, signed_neg, Int.neg_neg]

theorem val_mul {d1 d2 : Datum} {n1 n2 : Int} (h1 : Val d1 n1) (h2 : Val d2 n2) : ∃ d, d1.product d2 = some d ∧ Val d (n1 * n2) := by
  obtain ⟨s, m, i, rfl, k, a0, a1⟩ := h1
  obtain ⟨t, n, j, rfl, l, b0, b1⟩ := h2
  refine ⟨_, rfl, s ^^ t, m * n, i + j, rfl, k + l, by omega, ?_⟩
  have e1 : (i + j + ((k + l : Nat) : Int)).toNat = (i + k).toNat + (j + l).toNat := by omega
  have e2 : n1 * n2 * 2 ^ (k + l) = (n1 * 2 ^ k) * (n2 * 2 ^ l) := by
    rw [Int.pow_add, Int.mul_assoc, Int.mul_assoc, Int.mul_left_comm n2]
  have e3 : m * n * 2 ^ ((i + k).toNat + (j + l).toNat) = (m * 2 ^ (i + k).toNat) * (n * 2 ^ (j + l).toNat) := by
    rw [Nat.pow_add, Nat.mul_assoc, Nat.mul_assoc, Nat.mul_left_comm n]
  rw [e1, e2, ← a1, ← b1]
  cases s <;> cases t
  · rw [Bool.xor_false, signed_pos, signed_pos, signed_pos, e3, Int.natCast_mul]
  · rw [Bool.false_xor, signed_neg, signed_pos, signed_neg, e3, Int.natCast_mul, Int.mul_neg]
  · rw [Bool.xor_false, signed_neg, signed_neg, signed_pos, e3, Int.natCast_mul, Int.neg_mul]
  · rw [Bool.xor_self, signed_neg, signed_neg, signed_pos, e3, Int.natCast_mul, Int.neg_mul_neg]

theorem signed_shift (s : Bool) (m : Nat) (u v : Nat) (h : u ≤ v) : signed s m v = signed s m u * 2 ^ (v - u) := by
  rw [← signed_add]; congr 1; omega

theorem val_add {d1 d2 : Datum} {n1 n2 : Int} (h1 : Val d1 n1) (h2 : Val d2 n2) : ∃ d, d1.sum d2 = some d ∧ Val d (n1 + n2) := by
  obtain ⟨s, m, i, rfl, k, a0, a1⟩ := h1
  obtain ⟨t, n, j, rfl, l, b0, b1⟩ := h2
  obtain ⟨a0', a1'⟩ := val_scale a0 a1 l
  obtain ⟨b0', b1'⟩ := val_scale b0 b1 k
  rw [Nat.add_comm l k] at b0' b1'
  refine ⟨_, rfl, _, _, min i j, rfl, k + l, by omega, ?_⟩
  obtain ⟨u, hu⟩ : ∃ u : Nat, min i j + ((k + l : Nat) : Int) = u := ⟨(min i j + ((k + l : Nat) : Int)).toNat, by omega⟩
  have e1 : (i + ((k + l : Nat) : Int)).toNat = (i - min i j).toNat + u := by omega
  have e2 : (j + ((k + l : Nat) : Int)).toNat = (j - min i j).toNat + u := by omega
  rw [e1, signed_add] at a1'
  rw [e2, signed_add] at b1'
  rw [hu, Int.toNat_natCast, Int.add_mul, ← a1', ← b1', ← Int.add_mul]
  generalize signed s m (i - min i j).toNat + signed t n (j - min i j).toNat = T
  by_cases hT : T = 0
  · subst hT
    simp only [if_true, Int.natAbs_zero, Int.zero_mul]
    cases (s && t)
    · rw [signed_pos, Nat.zero_mul]; rfl
    · rw [signed_neg, Nat.zero_mul]; rfl
  · rw [if_neg hT]
    by_cases hneg : T < 0
    · rw [decide_eq_true hneg]
      obtain ⟨x, rfl⟩ : ∃ x : Nat, T = -(x : Int) := ⟨T.natAbs, by omega⟩
      rw [Int.natAbs_neg, Int.natAbs_natCast, signed_neg, Int.natCast_mul, Int.natCast_pow, Int.neg_mul]
      rfl
    · rw [decide_eq_false hneg]
      obtain ⟨x, rfl⟩ := Int.eq_ofNat_of_zero_le (show 0 ≤ T by omega)
      rw [Int.natAbs_natCast, signed_pos, Int.natCast_mul, Int.natCast_pow]
      rfl

theorem val_toInt {d : Datum} {n : Int} (h : Val d n) : d.toInt .zero = some n := by
  obtain ⟨s, m, e, rfl, k, h0, h1⟩ := h
  unfold Datum.toInt Datum.integral
  simp only [Option.some.injEq]
  rw [Nat.shiftLeft_eq]
  by_cases he : 0 ≤ e
  · have e1 : (-e).toNat = 0 := by omega
    have e2 : (e + k).toNat = e.toNat + k := by omega
    rw [e1, cut_zero _ _ _ _ (by simp [Nat.mod_one])]
    rw [e2, signed_add] at h1
    have h2 : signed s m e.toNat = n := Int.eq_of_mul_eq_mul_right (by have : (0 : Int) < 2 ^ k := Int.pow_pos (by decide); omega) h1
    rw [← h2]
    cases s
    · rw [signed_pos, signed_pos]; simp
    · rw [signed_neg, signed_neg]; simp
  · obtain ⟨g, hg⟩ : ∃ g : Nat, -e = g := ⟨(-e).toNat, by omega⟩
    have e0 : e.toNat = 0 := by omega
    have e1 : (e + k).toNat = k - g := by omega
    have e2 : k = g + (k - g) := by omega
    rw [hg, Int.toNat_natCast, e0, Nat.pow_zero, Nat.mul_one]
    rw [e1] at h1
    have habs := congrArg Int.natAbs h1
    rw [signed_abs, Int.natAbs_mul, Int.natAbs_pow] at habs
    have hm : m = n.natAbs * 2 ^ g := by
      have h3 : m * 2 ^ (k - g) = n.natAbs * 2 ^ g * 2 ^ (k - g) := by
        rw [habs, Nat.mul_assoc, ← Nat.pow_add, ← e2]; rfl
      exact Nat.eq_of_mul_eq_mul_right (Nat.pow_pos (by decide)) h3
    have hmod : m % 2 ^ g = 0 := by rw [hm]; exact Nat.mul_mod_left _ _
    have hdiv : m / 2 ^ g = n.natAbs := by rw [hm]; exact Nat.mul_div_cancel _ (Nat.pow_pos (by decide))
    rw [cut_zero _ _ _ _ hmod, hdiv]
    have hsg : signed s m 0 = n * 2 ^ g := by
      have h3 : signed s m 0 * 2 ^ (k - g) = n * 2 ^ g * 2 ^ (k - g) := by
        rw [← signed_add, Nat.zero_add, h1, Int.mul_assoc, ← Int.pow_add, ← e2]
      exact Int.eq_of_mul_eq_mul_right (by have : (0 : Int) < 2 ^ (k - g) := Int.pow_pos (by decide); omega) h3
    cases s
    · rw [signed_pos] at hsg ⊢
      have : 0 ≤ n * 2 ^ g := by rw [← hsg]; exact Int.natCast_nonneg _
      have hp : (0 : Int) < 2 ^ g := Int.pow_pos (by decide)
      have hn : 0 ≤ n := by
        rcases Int.lt_or_le n 0 with h | h
        · have := Int.mul_neg_of_neg_of_pos h hp; omega
        · exact h
      simp; omega
    · rw [signed_neg] at hsg ⊢
      have : n * 2 ^ g ≤ 0 := by rw [← hsg]; have := Int.natCast_nonneg (m * 2 ^ 0); omega
      have hp : (0 : Int) < 2 ^ g := Int.pow_pos (by decide)
      have hn : n ≤ 0 := by
        rcases Int.lt_or_le 0 n with h | h
        · have := Int.mul_pos h hp; omega
        · exact h
      simp; omega

theorem isF_ofInt (n : Int) (h : n.natAbs < 2 ^ 53) : IsF (floatOfInt .f64 n) n := by
  refine isF_write (d := .number (n < 0) n.natAbs 0) ⟨_, _, _, rfl, 0, by omega, ?_⟩ h
  by_cases hn : n < 0
  · rw [decide_eq_true hn, signed_neg]; simp; omega
  · rw [decide_eq_false hn, signed_pos]; simp; omega

theorem isF_mul {a b : Nat} {m n : Int} (ha : IsF a m) (hb : IsF b n) (h : (m * n).natAbs < 2 ^ 53) : ∃ r, floatBits .mul .f64 a b = some r ∧ IsF r (m * n) := by
  obtain ⟨d, hd, hv⟩ := val_mul ha hb
  refine ⟨double.write d, ?_, isF_write hv h⟩
  show (((double.read a).product (double.read b)).map double.write) = _
  rw [hd]; rfl
theorem isF_add {a b : Nat} {m n : Int} (ha : IsF a m) (hb : IsF b n) (h : (m + n).natAbs < 2 ^ 53) : ∃ r, floatBits .add .f64 a b = some r ∧ IsF r (m + n) := by
  obtain ⟨d, hd, hv⟩ := val_add ha hb
  refine ⟨double.write d, ?_, isF_write hv h⟩
  show (((double.read a).sum (double.read b)).map double.write) = _
  rw [hd]; rfl
theorem isF_sub {a b : Nat} {m n : Int} (ha : IsF a m) (hb : IsF b n) (h : (m - n).natAbs < 2 ^ 53) : ∃ r, floatBits .sub .f64 a b = some r ∧ IsF r (m - n) := by
  obtain ⟨d, hd, hv⟩ := val_add ha (val_neg hb)
  rw [← Int.sub_eq_add_neg] at hv
  refine ⟨double.write d, ?_, isF_write hv h⟩
  show (((double.read a).sum (double.read b).opposite).map double.write) = _
  rw [hd]; rfl
theorem isF_toInt {a : Nat} {n : Int} (ha : IsF a n) (h : n.natAbs < 2 ^ 53) : floatToIntVal .f64 a .i64 = some n := by
  have : (FloatKind.f64.decode a).toInt .zero = some n := val_toInt ha
  unfold floatToIntVal
  rw [this]
  simp only
  rw [if_pos]
  simp [IntKind.min, IntKind.max, IntKind.signed, IntKind.bits]
  omega
theorem cmul_int {a b c d : Nat} {x y z u : Int} (ha : IsF a x) (hb : IsF b y) (hc : IsF c z) (hd : IsF d u)
    (hx : x.natAbs ≤ 65536) (hy : y.natAbs ≤ 65536) (hz : z.natAbs ≤ 65536) (hu : u.natAbs ≤ 65536) :
    ∃ re im, cMulBits a b c d = some (re, im) ∧ IsF re (x * z - y * u) ∧ IsF im (x * u + y * z) := by
  have bd : ∀ p q : Int, p.natAbs ≤ 65536 → q.natAbs ≤ 65536 → (p * q).natAbs ≤ 4294967296 := by
    intro p q hp hq
    rw [Int.natAbs_mul]
    exact Nat.mul_le_mul hp hq
  have h53 : (2 : Nat) ^ 53 = 9007199254740992 := by decide
  have b1 := bd x z hx hz
  have b2 := bd y u hy hu
  have b3 := bd x u hx hu
  have b4 := bd y z hy hz
  obtain ⟨r1, e1, f1⟩ := isF_mul ha hc (by omega)
  obtain ⟨r2, e2, f2⟩ := isF_mul hb hd (by omega)
  obtain ⟨r3, e3, f3⟩ := isF_sub f1 f2 (by omega)
  obtain ⟨r4, e4, f4⟩ := isF_mul ha hd (by omega)
  obtain ⟨r5, e5, f5⟩ := isF_mul hb hc (by omega)
  obtain ⟨r6, e6, f6⟩ := isF_add f4 f5 (by omega)
  refine ⟨r3, r6, ?_, f3, f6⟩
  unfold cMulBits
  rw [e1, e2, e4, e5]
  simp only [Option.bind_some]
  rw [e3, e6]
  rfl
theorem isF_neg {b : Nat} {y : Int} (h : IsF b y) : IsF (Go.Op.negFloat .f64 b) (-y) := by
  have hw : double.signWeight = 9223372036854775808 := by decide
  have e63 : (9223372036854775808 : Nat) = 2 ^ 63 := by decide
  have hx : Go.Op.negFloat .f64 b = b ^^^ 2 ^ 63 := rfl
  have h1 : (b ^^^ 2 ^ 63) % 9223372036854775808 = b % 9223372036854775808 := by
    rw [e63, Nat.xor_mod_two_pow]; simp
  have h2 : (b ^^^ 2 ^ 63) / 9223372036854775808 % 2 = (b / 9223372036854775808 % 2) ^^^ 1 := by
    rw [e63, Nat.xor_div_two_pow]
    have := Nat.xor_mod_two_pow (a := b / 2 ^ 63) (b := 2 ^ 63 / 2 ^ 63) (n := 1)
    simpa using this
  have key : double.read (b ^^^ 2 ^ 63) = (double.read b).opposite := by
    unfold Format.read
    rw [hw, h1, h2]
    have hs : ((b / 9223372036854775808 % 2 ^^^ 1) == 1) = !(b / 9223372036854775808 % 2 == 1) := by
      rcases Nat.mod_two_eq_zero_or_one (b / 9223372036854775808) with h | h <;> rw [h] <;> rfl
    rw [hs]
    simp only
    split
    · rfl
    · split
      · rfl
      · split <;> rfl
  unfold IsF
  rw [hx, key]
  exact val_neg h

end Go.Proofs.Ythoioocfembkgaa
