/-
  Plain functions: the bytes of a number, seven bits a byte; what is got of bytes. No program in sight.
-/
import Derived.WalkKit
namespace Go.Proofs.Ytoadjmeopamgbaa

def encF : Nat → Nat → List Int
  | 0, n => [(n : Int)]
  | f + 1, n => if n < 128 then [(n : Int)] else ((n % 128 + 128 : Nat) : Int) :: encF f (n / 128)

/-- the bytes of a number -/
def enc (n : Nat) : List Int := encF n n

theorem encF_fuel : ∀ (f g n : Nat), n ≤ f → n ≤ g → encF f n = encF g n := by
  intro f
  induction f with
  | zero =>
    intro g n h1 h2
    obtain rfl : n = 0 := by omega
    cases g with
    | zero => rfl
    | succ g => simp [encF]
  | succ f ih =>
    intro g n h1 h2
    cases g with
    | zero => obtain rfl : n = 0 := by omega
              simp [encF]
    | succ g =>
      simp only [encF]
      by_cases h : n < 128
      · rw [if_pos h, if_pos h]
      · rw [if_neg h, if_neg h, ih g (n / 128) (by omega) (by omega)]

theorem enc_lt {n : Nat} (h : n < 128) : enc n = [(n : Int)] := by
  unfold enc; cases n with
  | zero => rfl
  | succ n => simp only [encF]; rw [if_pos h]

theorem enc_ge {n : Nat} (h : 128 ≤ n) : enc n = ((n % 128 + 128 : Nat) : Int) :: enc (n / 128) := by
  unfold enc; cases n with
  | zero => omega
  | succ n => simp only [encF]; rw [if_neg (by omega), encF_fuel n ((n + 1) / 128) _ (by omega) (by omega)]

theorem enc_len_pos (n : Nat) : 0 < (enc n).length := by
  by_cases h : n < 128
  · rw [enc_lt h]; simp
  · rw [enc_ge (by omega)]; simp

theorem enc_len_le : ∀ (k n : Nat), n < 128 ^ (k + 1) → (enc n).length ≤ k + 1 := by
  intro k
  induction k with
  | zero => intro n h; rw [enc_lt (by omega)]; simp
  | succ k ih =>
    intro n h
    by_cases hn : n < 128
    · rw [enc_lt hn]; simp
    · rw [enc_ge (by omega)]
      have := ih (n / 128) (by rw [Nat.div_lt_iff_lt_mul (by omega)]; rw [Nat.pow_succ] at h; exact h)
      simp; omega

theorem enc_byte : ∀ (f n : Nat), n ≤ f → ∀ x ∈ enc n, 0 ≤ x ∧ x ≤ 255 := by
  intro f
  induction f with
  | zero => intro n h x hx; obtain rfl : n = 0 := by omega
            rw [enc_lt (by omega)] at hx; simp at hx; omega
  | succ f ih =>
    intro n h x hx
    by_cases hn : n < 128
    · rw [enc_lt hn] at hx; simp at hx; omega
    · rw [enc_ge (by omega)] at hx
      rcases List.mem_cons.1 hx with rfl | hx
      · omega
      · exact ih _ (by omega) x hx
theorem or128_nat : ∀ x : Fin 256, x.val ||| 128 = x.val % 128 + 128 := by decide +kernel
theorem or128 (m : Nat) : bits .or .u8 ((m : Int) % 256) 128 = ((m % 128 + 128 : Nat) : Int) := by
  have e : ((m : Int) % 256) = ((m % 256 : Nat) : Int) := by omega
  rw [e, show (128 : Int) = ((128 : Nat) : Int) from rfl, u8_or_nat _ _ (by omega) (by omega)]
  have := or128_nat ⟨m % 256, by omega⟩
  simp only at this
  rw [this]; omega

/-- the number that bytes begin with, of which i bytes with the value acc are gone: its value, how many bytes it has, the error -/
def getL : List Int → Nat → Nat → Nat × Nat × Nat
  | [], _, _ => (0, 0, 1)
  | c :: t, i, acc =>
    if 128 ≤ c then (if i + 1 = 9 then (0, 0, 2) else getL t (i + 1) (acc + (c % 128).toNat * 128 ^ i))
    else if c = 0 ∧ 1 < i + 1 then (0, 0, 2) else (acc + (c % 128).toNat * 128 ^ i, i + 1, 0)

theorem getL_nine {c : Int} {t : List Int} {acc : Nat} (h : 128 ≤ c) : getL (c :: t) 8 acc = (0, 0, 2) := by simp [getL, h]
theorem getL_more {c : Int} {t : List Int} {i acc : Nat} (h : 128 ≤ c) (hi : i ≠ 8) : getL (c :: t) i acc = getL t (i + 1) (acc + (c % 128).toNat * 128 ^ i) := by
  simp only [getL]; rw [if_pos h, if_neg (by omega)]
theorem getL_zero {c : Int} {t : List Int} {i acc : Nat} (h : c = 0) (hi : 0 < i) : getL (c :: t) i acc = (0, 0, 2) := by
  simp only [getL]; rw [if_neg (by omega), if_pos ⟨h, by omega⟩]
theorem getL_ends {c : Int} {t : List Int} {i acc : Nat} (h : c < 128) (hz : ¬(c = 0 ∧ 0 < i)) : getL (c :: t) i acc = (acc + (c % 128).toNat * 128 ^ i, i + 1, 0) := by
  simp only [getL]; rw [if_neg (by omega), if_neg (by omega)]

/-- raw.Get -/
def getN (l : List Int) (at_ : Int) : Int × Int × Int :=
  if 0 ≤ at_ ∧ at_ ≤ l.length then
    match getL (l.drop at_.toNat) 0 0 with
    | (n, k, e) => if e = 0 then ((n : Int), at_ + k, 0) else (0, 0, (e : Int))
  else (0, 0, 3)

theorem u8_and127 (x : Int) (h₀ : 0 ≤ x) (h₁ : x < 256) : bits .and .u8 x 127 = x % 128 := bits_mask .u8 8 (by decide) wraps_u8 7 (by decide) x h₀ h₁
theorem wraps_i64 (n : Int) (h₀ : 0 ≤ n) (h₁ : n < 2 ^ 63) : IntKind.i64.wrap n = n := by rw [IntKind.wrap_i64]; omega
theorem pow128 (i : Nat) : 128 ^ i = 2 ^ (7 * i) := by rw [Nat.pow_mul]
theorem get_bits (acc i : Nat) (x : Int) (h0 : 0 ≤ x) (h1 : x ≤ 255) (hi : i ≤ 8) (ha : acc < 128 ^ i) :
    bits .or .i64 acc (RowKit.wrap64 (RowKit.wrap64 (bits .and .u8 x 127) * 2 ^ (7 * i))) = ((acc + (x % 128).toNat * 128 ^ i : Nat) : Int) := by
  rw [u8_and127 x h0 (by omega)]
  obtain ⟨y, hy⟩ : ∃ y : Nat, x % 128 = (y : Int) := ⟨(x % 128).toNat, by omega⟩
  have hy' : y < 128 := by omega
  rw [hy, Int.toNat_natCast]
  have hw : RowKit.wrap64 (y : Int) = y := by unfold RowKit.wrap64; omega
  rw [hw]
  have hp : 128 ^ i * 128 ≤ 2 ^ 63 := by
    rw [pow128, show (128 : Nat) = 2 ^ 7 from rfl, ← Nat.pow_add]
    exact Nat.pow_le_pow_right (by decide) (by omega)
  have hpp : 0 < 128 ^ i := Nat.pow_pos (by decide)
  have hm : y * 128 ^ i + 128 ^ i ≤ 2 ^ 63 := by
    have : (y + 1) * 128 ^ i ≤ 128 * 128 ^ i := Nat.mul_le_mul_right _ (by omega)
    rw [Nat.add_mul, Nat.one_mul] at this
    rw [Nat.mul_comm] at hp; omega
  have hc : ((y : Int) * 2 ^ (7 * i)) = ((y * 128 ^ i : Nat) : Int) := by
    rw [pow128]; simp
  rw [hc]
  have hw2 : RowKit.wrap64 ((y * 128 ^ i : Nat) : Int) = ((y * 128 ^ i : Nat) : Int) := by
    have h63 : (2 : Nat) ^ 63 = 9223372036854775808 := by decide
    unfold RowKit.wrap64; omega
  rw [hw2, (bits_nat .i64 63 (by decide) wraps_i64 acc (y * 128 ^ i) (by omega) (by omega)).2]
  congr 1
  rw [Nat.or_comm, Nat.mul_comm y, pow128, ← Nat.two_pow_add_eq_or_of_lt (by rw [← pow128]; exact ha)]
  omega

theorem pow128_succ (i acc : Nat) (x : Int) (ha : acc < 128 ^ i) : acc + (x % 128).toNat * 128 ^ i < 128 ^ (i + 1) := by
  have hx : (x % 128).toNat ≤ 127 := by omega
  have : (x % 128).toNat * 128 ^ i ≤ 127 * 128 ^ i := Nat.mul_le_mul_right _ hx
  rw [Nat.pow_succ]; omega

end Go.Proofs.Ytoadjmeopamgbaa
