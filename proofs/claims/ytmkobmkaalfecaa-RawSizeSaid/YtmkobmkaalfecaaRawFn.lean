/-
  Plain functions: the bytes of a number, seven bits a byte; what is got of bytes. No program in sight.
-/
import Derived.WalkKit
namespace Go.Proofs.Ytmkobmkaalfecaa

def encF : Nat → Nat → List Int
  | 0, n => [(n : Int)]
  | f + 1, n => if n < 128 then [(n : Int)] else ((n % 128 + 128 : Nat) : Int) :: encF f (n / 128)

/-- the bytes of a number -/
def enc (n : Nat) : List Int := encF n n

theorem encF_fuel : ∀ (f g n : Nat), n ≤ f → n ≤ g → encF f n = encF g n := by
  intro f
  induction f with
  | zero =>
    intro g n h1 h2
    obtain rfl : n = 0 := by omega
    cases g with
    | zero => rfl
    | succ g => simp [encF]
  | succ f ih =>
    intro g n h1 h2
    cases g with
    | zero => obtain rfl : n = 0 := by omega
              simp [encF]
    | succ g =>
      simp only [encF]
      by_cases h : n < 128
      · rw [if_pos h, if_pos h]
      · rw [if_neg h, if_neg h, ih g (n / 128) (by omega) (by omega)]

theorem enc_lt {n : Nat} (h : n < 128) : enc n = [(n : Int)] := by
  unfold enc; cases n with
  | zero => rfl
  | succ n => simp only [encF]; rw [if_pos h]

theorem enc_ge {n : Nat} (h : 128 ≤ n) : enc n = ((n % 128 + 128 : Nat) : Int) :: enc (n / 128) := by
  unfold enc; cases n with
  | zero => omega
  | succ n => simp only [encF]; rw [if_neg (by omega), encF_fuel n ((n + 1) / 128) _ (by omega) (by omega)]

theorem enc_len_pos (n : Nat) : 0 < (enc n).length := by
  by_cases h : n < 128
  · rw [enc_lt h]; simp
  · rw [enc_ge (by omega)]; simp

theorem enc_len_le : ∀ (k n : Nat), n < 128 ^ (k + 1) → (enc n).length ≤ k + 1 := by
  intro k
  induction k with
  | zero => intro n h; rw [enc_lt (by omega)]; simp
  | succ k ih =>
    intro n h
    by_cases hn : n < 128
    · rw [enc_lt hn]; simp
    · rw [enc_ge (by omega)]
      have := ih (n / 128) (by rw [Nat.div_lt_iff_lt_mul (by omega)]; rw [Nat.pow_succ] at h; exact h)
      simp; omega

theorem enc_byte : ∀ (f n : Nat), n ≤ f → ∀ x ∈ enc n, 0 ≤ x ∧ x ≤ 255 := by
  intro f
  induction f with
  | zero => intro n h x hx; obtain rfl : n = 0 := by omega
            rw [enc_lt (by omega)] at hx; simp at hx; omega
  | succ f ih =>
    intro n h x hx
    by_cases hn : n < 128
    · rw [enc_lt hn] at hx; simp at hx; omega
    · rw [enc_ge (by omega)] at hx
      rcases List.mem_cons.1 hx with rfl | hx
      · omega
      · exact ih _ (by omega) x hx
theorem or128_nat : ∀ x : Fin 256, x.val ||| 128 = x.val % 128 + 128 := by decide +kernel
theorem or128 (m : Nat) : bits .or .u8 ((m : Int) % 256) 128 = ((m % 128 + 128 : Nat) : Int) := by
  have e : ((m : Int) % 256) = ((m % 256 : Nat) : Int) := by omega
  rw [e, show (128 : Int) = ((128 : Nat) : Int) from rfl, u8_or_nat _ _ (by omega) (by omega)]
  have := or128_nat ⟨m % 256, by omega⟩
  simp only at this
  rw [this]; omega

end Go.Proofs.Ytmkobmkaalfecaa
