/-
  What an allocation costs, plainly: sums of sizes, least common multiples, and that they stay small. No program in sight.
-/
import Derived.Test.YtepnmclgkbphmaaKRoom
namespace Go.Proofs.Ytepnmclgkbphmaa

instance (F : Nat → Nat → Int) (i : Nat) (b : Int) : Decidable (HIn F i b) := by unfold HIn; infer_instance
theorem sumN_add (f g : Nat → Nat) : ∀ n, sumN (fun i => f i + g i) n = sumN f n + sumN g n
  | 0 => rfl
  | n + 1 => by rw [sumN, sumN, sumN, sumN_add f g n]; omega
theorem sumN_swap (f : Nat → Nat → Nat) (m : Nat) : ∀ n, sumN (fun i => sumN (fun b => f i b) m) n = sumN (fun b => sumN (fun i => f i b) n) m
  | 0 => (sumN_zero m (fun _ _ => rfl)).symm
  | n + 1 => by
    rw [sumN, sumN_swap f m n, ← sumN_add]
    rfl
theorem sumN_ones (p : Nat → Prop) [DecidablePred p] {n : Nat} (h : ∀ i j, i < j → j < n → p i → ¬ p j) : sumN (fun i => if p i then 1 else 0) n ≤ 1 := by
  induction n with
  | zero => exact Nat.zero_le _
  | succ n ih =>
    rw [sumN]
    by_cases e : p n
    · have : sumN (fun i => if p i then 1 else 0) n = 0 := sumN_zero n (fun i hi => by
        show (if p i then 1 else 0) = 0
        rw [if_neg (fun hp => h i n hi (by omega) hp e)])
      rw [this, if_pos e]
      omega
    · rw [if_neg e]
      exact ih (fun i j h1 h2 => h i j h1 (by omega))
theorem sumN_mono {f g : Nat → Nat} (n : Nat) (h : ∀ i, i < n → f i ≤ g i) : sumN f n ≤ sumN g n := by
  induction n with
  | zero => exact Nat.le_refl _
  | succ n ih => rw [sumN, sumN]; have := ih (fun i hi => h i (by omega)); have := h n (by omega); omega
theorem sumN_span (f s : Nat) : ∀ m, sumN (fun b => if f ≤ b ∧ b < f + s then 1 else 0) m = min m (f + s) - min m f
  | 0 => by simp [sumN]
  | m + 1 => by
    rw [sumN, sumN_span f s m]
    split <;> omega
section
variable {n : Nat} {F : Nat → Nat → Int} {m : Int}
/-- ranges that do not meet have no more blocks than there are -/
theorem HsOk.sum (ok : HsOk n F m) : sumN (kS F) n ≤ 32 := by
  have h1 : sumN (kS F) n = sumN (fun i => sumN (fun b => if HIn F i (b : Nat) then 1 else 0) 32) n := by
    refine sumN_congr n (fun i hi => ?_)
    obtain ⟨h0, h1, _, _, h4, _⟩ := ok.1 i hi
    have := sumN_span (F i 0).toNat (kS F i) 32
    have e : ∀ b, b < 32 → (if (F i 0).toNat ≤ b ∧ b < (F i 0).toNat + kS F i then 1 else 0) = if HIn F i (b : Nat) then 1 else 0 := by
      intro b _
      have hi : ((F i 0).toNat ≤ b ∧ b < (F i 0).toNat + kS F i) ↔ HIn F i (b : Nat) := by unfold HIn kS; omega
      by_cases h : HIn F i (b : Nat)
      · rw [if_pos h, if_pos (hi.2 h)]
      · rw [if_neg h, if_neg (fun x => h (hi.1 x))]
    rw [← sumN_congr 32 e, this]
    unfold kS
    omega
  rw [h1, sumN_swap]
  have h2 := sumN_mono (f := fun b => sumN (fun i => if HIn F i (b : Nat) then 1 else 0) n) (g := fun _ => 1) 32 (fun b _ => sumN_ones _ (fun i j h1 h2 h3 => ok.2.1 i j h1 h2 _ h3))
  have h3 : sumN (fun _ => 1) 32 = 32 := by decide
  omega
end
def lcmK (F : Nat → Nat → Int) : Nat → Nat
  | 0 => 1
  | n + 1 => Nat.lcm (lcmK F n) (kS F n)
theorem cube_pow : ∀ x, x ≤ 32 → x * x * x ≤ 3 ^ x := by decide
theorem lcmK_cube {F : Nat → Nat → Int} : ∀ n, (∀ i, i < n → kS F i ≤ 32) → lcmK F n * lcmK F n * lcmK F n ≤ 3 ^ sumN (kS F) n
  | 0, _ => by simp [lcmK, sumN]
  | n + 1, h => by
    have ih := lcmK_cube n (fun i hi => h i (by omega))
    have hx := cube_pow (kS F n) (h n (by omega))
    have hl : lcmK F (n + 1) ≤ lcmK F n * kS F n := by
      show Nat.lcm (lcmK F n) (kS F n) ≤ _
      rcases Nat.eq_zero_or_pos (lcmK F n * kS F n) with e | e
      · rcases Nat.mul_eq_zero.1 e with e' | e' <;> rw [e'] <;> simp
      · exact Nat.le_of_dvd e (Nat.lcm_dvd (Nat.dvd_mul_right _ _) (Nat.dvd_mul_left _ _))
    rw [sumN, Nat.pow_add]
    have h1 := Nat.mul_le_mul (Nat.mul_le_mul hl hl) hl
    refine Nat.le_trans h1 ?_
    have : lcmK F n * kS F n * (lcmK F n * kS F n) * (lcmK F n * kS F n) = lcmK F n * lcmK F n * lcmK F n * (kS F n * kS F n * kS F n) := by
      generalize lcmK F n = a
      generalize kS F n = b
      simp only [Nat.mul_left_comm, Nat.mul_comm]
    rw [this]
    exact Nat.mul_le_mul ih hx
theorem kS_le {n : Nat} {F : Nat → Nat → Int} {m : Int} (ok : HsOk n F m) {i : Nat} (hi : i < n) : 1 ≤ kS F i ∧ kS F i ≤ 32 := by
  obtain ⟨h0, h1, _, _, h4, _⟩ := ok.1 i hi
  unfold kS; omega
theorem lcmK_le {n : Nat} {F : Nat → Nat → Int} {m : Int} (ok : HsOk n F m) {k : Nat} (hk : k ≤ n) : lcmK F k < 122900 := by
  have h1 := lcmK_cube k (fun i hi => (kS_le ok (show i < n by omega)).2)
  have h2 : sumN (kS F) k ≤ 32 := by
    refine Nat.le_trans ?_ ok.sum
    obtain ⟨d, rfl⟩ := Nat.le.dest hk
    clear h1 hk ok
    induction d with
    | zero => exact Nat.le_refl _
    | succ d ih => rw [← Nat.add_assoc, sumN]; omega
  have h3 : 3 ^ sumN (kS F) k ≤ 3 ^ 32 := Nat.pow_le_pow_right (by omega) h2
  rcases Nat.lt_or_ge (lcmK F k) 122900 with h | h
  · exact h
  · have h4 := Nat.mul_le_mul (Nat.mul_le_mul h h) h
    have h5 := Nat.le_trans h4 (Nat.le_trans h1 h3)
    exact absurd h5 (by decide)
theorem lcmK_pos {n : Nat} {F : Nat → Nat → Int} {m : Int} (ok : HsOk n F m) {k : Nat} (hk : k ≤ n) : 0 < lcmK F k := by
  induction k with
  | zero => exact Nat.one_pos
  | succ k ih => exact Nat.lcm_pos (ih (by omega)) (kS_le ok (show k < n by omega)).1
/-- a multiple of a step that is one of s too, and the first such -/
theorem lcm_least {a s j : Nat} (ha : 0 < a) (hj : 0 < j) (hd : s ∣ j * a) (hl : ∀ i, 0 < i → i < j → ¬ s ∣ i * a) (hs : 0 < s) : j * a = Nat.lcm a s := by
  have h1 : Nat.lcm a s ∣ j * a := Nat.lcm_dvd (Nat.dvd_mul_left _ _) hd
  have h2 : Nat.lcm a s ≤ j * a := Nat.le_of_dvd (Nat.mul_pos hj ha) h1
  obtain ⟨q, hq⟩ := Nat.dvd_lcm_left a s
  have hq0 : 0 < q := by
    rcases Nat.eq_zero_or_pos q with e | e
    · rw [e] at hq
      have := Nat.lcm_pos ha hs
      omega
    · exact e
  have hqa : Nat.lcm a s = q * a := by rw [hq, Nat.mul_comm]
  rcases Nat.lt_or_ge q j with h | h
  · exact absurd (by rw [← hqa]; exact Nat.dvd_lcm_right a s) (hl q hq0 h)
  · have := Nat.mul_le_mul_right a h
    omega
/-- a range's row in the costs -/
def rowC (P : Nat → Nat → Nat) (C : Nat → Nat) (i : Nat) : Nat := sumN (fun t => P i t * C t) 4
def unitC (b : Nat) (F : Nat → Nat → Int) (i : Nat) : Nat := b / kS F i * (F i 2).toNat
def topC (b : Nat) (F : Nat → Nat → Int) (P : Nat → Nat → Nat) (C : Nat → Nat) (k : Nat) : Nat := sumN (fun i => unitC b F i * rowC P C i) k
theorem rowC_le {P : Nat → Nat → Nat} {C : Nat → Nat} {i : Nat} (hP : ∀ t, t < 4 → P i t ≤ 32) (hC : ∀ t, t < 4 → C t ≤ 1000) {t : Nat} (ht : t ≤ 4) : sumN (fun t => P i t * C t) t ≤ t * 32000 :=
  sumN_le 32000 t (fun u hu => Nat.mul_le_mul (hP u (by omega)) (hC u (by omega)))
theorem unitC_le {b : Nat} {F : Nat → Nat → Int} {i : Nat} (hb : b ≤ 122900) (ho : F i 2 ≤ 100000) : unitC b F i ≤ 12290000000 := by
  unfold unitC
  have h1 : b / kS F i ≤ 122900 := Nat.le_trans (Nat.div_le_self _ _) hb
  have h2 : (F i 2).toNat ≤ 100000 := by omega
  exact Nat.mul_le_mul h1 h2
theorem topC_le {b : Nat} {F : Nat → Nat → Int} {P : Nat → Nat → Nat} {C : Nat → Nat} {n : Nat} (hb : b ≤ 122900) (ho : ∀ i, i < n → F i 2 ≤ 100000) (hP : ∀ i, i < n → ∀ t, t < 4 → P i t ≤ 32) (hC : ∀ t, t < 4 → C t ≤ 1000) {k : Nat} (hk : k ≤ n) : topC b F P C k ≤ k * 1573120000000000 :=
  sumN_le _ k (fun i hi => Nat.mul_le_mul (unitC_le hb (ho i (by omega))) (rowC_le (hP i (by omega)) hC (Nat.le_refl 4)))
end Go.Proofs.Ytepnmclgkbphmaa
