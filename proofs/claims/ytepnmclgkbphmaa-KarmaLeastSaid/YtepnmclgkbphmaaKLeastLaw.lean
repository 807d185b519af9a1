/-
  No way to lay the blocks costs less than the greedy one. No program in sight.
-/
import Derived.Test.YtepnmclgkbphmaaKCostLaw
namespace Go.Proofs.Ytepnmclgkbphmaa

/-- sums of integers -/
def sumI (f : Nat → Int) : Nat → Int
  | 0 => 0
  | n + 1 => sumI f n + f n
theorem sumI_congr {f g : Nat → Int} : ∀ n, (∀ i, i < n → f i = g i) → sumI f n = sumI g n
  | 0, _ => rfl
  | n + 1, h => by rw [sumI, sumI, sumI_congr n (fun i hi => h i (by omega)), h n (by omega)]
theorem sumI_nonneg {f : Nat → Int} : ∀ n, (∀ i, i < n → 0 ≤ f i) → 0 ≤ sumI f n
  | 0, _ => Int.le_refl _
  | n + 1, h => by rw [sumI]; have := sumI_nonneg n (fun i hi => h i (by omega)); have := h n (by omega); omega
theorem sumI_add (f g : Nat → Int) : ∀ n, sumI (fun i => f i + g i) n = sumI f n + sumI g n
  | 0 => rfl
  | n + 1 => by rw [sumI, sumI, sumI, sumI_add f g n]; omega
theorem sumI_sub (f g : Nat → Int) : ∀ n, sumI (fun i => f i - g i) n = sumI f n - sumI g n
  | 0 => rfl
  | n + 1 => by rw [sumI, sumI, sumI, sumI_sub f g n]; omega
theorem sumI_mul (c : Int) (f : Nat → Int) : ∀ n, sumI (fun i => c * f i) n = c * sumI f n
  | 0 => by simp [sumI]
  | n + 1 => by rw [sumI, sumI, sumI_mul c f n, Int.mul_add]
theorem sumI_nat (f : Nat → Nat) : ∀ n, sumI (fun i => ((f i : Nat) : Int)) n = ((sumN f n : Nat) : Int)
  | 0 => rfl
  | n + 1 => by rw [sumI, sumN, sumI_nat f n]; simp
/-- of all that may be taken, at most s of each and k of all, g weighs most: those with a greater weight are taken whole ahead of the others -/
theorem knap {n : Nat} (u s g x : Nat → Nat) (k : Nat) (hg : ∀ i, i < n → g i ≤ s i) (hx : ∀ i, i < n → x i ≤ s i) (hxk : sumN x n ≤ k)
    (hd : ∀ i j, i < n → j < n → u j < u i → 0 < g j → g i = s i) (hfull : sumN g n = k ∨ ∀ i, i < n → g i = s i) : sumN (fun i => u i * x i) n ≤ sumN (fun i => u i * g i) n := by
  by_cases hall : ∀ i, i < n → g i = s i
  · exact sumN_mono n (fun i hi => Nat.mul_le_mul_left _ (by rw [hall i hi]; exact hx i hi))
  · have hk : sumN g n = k := hfull.resolve_right hall
    -- the greatest weight of one that is not taken whole
    obtain ⟨th, hth1, hth2⟩ : ∃ th : Nat, (∀ i, i < n → g i < s i → u i ≤ th) ∧ (∀ j, j < n → 0 < g j → th ≤ u j) := by
      have key : ∀ m, m ≤ n → (∀ i, i < m → g i = s i) ∨ ∃ q, q < m ∧ g q < s q ∧ ∀ i, i < m → g i < s i → u i ≤ u q := by
        intro m
        induction m with
        | zero => exact fun _ => .inl (fun i hi => absurd hi (by omega))
        | succ m ih =>
          intro hm
          by_cases e : g m = s m
          · rcases ih (by omega) with h | ⟨q, h1, h2, h3⟩
            · refine .inl (fun i hi => ?_)
              by_cases e2 : i = m
              · subst e2; exact e
              · exact h i (by omega)
            · refine .inr ⟨q, by omega, h2, fun i hi hlt => ?_⟩
              by_cases e2 : i = m
              · subst e2; omega
              · exact h3 i (by omega) hlt
          · have hlt : g m < s m := by have := hg m (by omega); omega
            rcases ih (by omega) with h | ⟨q, h1, h2, h3⟩
            · refine .inr ⟨m, by omega, hlt, fun i hi hi2 => ?_⟩
              by_cases e2 : i = m
              · subst e2; exact Nat.le_refl _
              · have := h i (by omega); omega
            · by_cases e3 : u q ≤ u m
              · refine .inr ⟨m, by omega, hlt, fun i hi hi2 => ?_⟩
                by_cases e2 : i = m
                · subst e2; exact Nat.le_refl _
                · exact Nat.le_trans (h3 i (by omega) hi2) e3
              · refine .inr ⟨q, by omega, h2, fun i hi hi2 => ?_⟩
                by_cases e2 : i = m
                · subst e2; omega
                · exact h3 i (by omega) hi2
      rcases key n (Nat.le_refl _) with h | ⟨q, h1, h2, h3⟩
      · exact absurd h hall
      · refine ⟨u q, h3, fun j hj hgj => ?_⟩
        rcases Nat.lt_or_ge (u j) (u q) with h | h
        · have := hd q j h1 hj h hgj; omega
        · exact h
    have hpos : 0 ≤ sumI (fun i => ((u i : Int) - th) * ((g i : Int) - x i)) n := sumI_nonneg n (fun i hi => by
      have h1 := hg i hi
      have h2 := hx i hi
      by_cases e : g i = s i
      · by_cases e0 : 0 < g i
        · have := hth2 i hi e0
          exact Int.mul_nonneg (by omega) (by omega)
        · have : g i = 0 := by omega
          have : x i = 0 := by omega
          rw [show (g i : Int) - x i = 0 by omega, Int.mul_zero]
          exact Int.le_refl _
      · have h3 := hth1 i hi (by omega)
        by_cases e0 : 0 < g i
        · have := hth2 i hi e0
          rw [show (u i : Int) - th = 0 by omega, Int.zero_mul]
          exact Int.le_refl _
        · have h5 := Int.mul_nonneg (show 0 ≤ (th : Int) - u i by omega) (show 0 ≤ (x i : Int) - g i by omega)
          have h6 : ((u i : Int) - th) * ((g i : Int) - x i) = ((th : Int) - u i) * ((x i : Int) - g i) := by
            rw [show (u i : Int) - th = -((th : Int) - u i) by omega, show (g i : Int) - x i = -((x i : Int) - g i) by omega, Int.neg_mul_neg]
          rw [h6]; exact h5)
    have hexp : sumI (fun i => ((u i : Int) - th) * ((g i : Int) - x i)) n = ((sumN (fun i => u i * g i) n : Nat) : Int) - ((sumN (fun i => u i * x i) n : Nat) : Int) - th * (((sumN g n : Nat) : Int) - ((sumN x n : Nat) : Int)) := by
      rw [← sumI_nat, ← sumI_nat, ← sumI_nat, ← sumI_nat, ← sumI_sub, ← sumI_sub, ← sumI_mul, ← sumI_sub]
      refine sumI_congr n (fun i _ => ?_)
      show ((u i : Int) - th) * ((g i : Int) - x i) = (((u i * g i : Nat) : Int) - ((u i * x i : Nat) : Int)) - (th : Int) * ((g i : Int) - x i)
      rw [Int.sub_mul, Int.mul_sub (u i : Int)]
      simp
    have hth : 0 ≤ (th : Int) * (((sumN g n : Nat) : Int) - ((sumN x n : Nat) : Int)) := Int.mul_nonneg (by omega) (by omega)
    omega

/-- blocks in the tiers up to s -/
def preK (x : Nat → Nat → Nat) (s i : Nat) : Nat := sumN (fun t => x i t) (s + 1)
theorem pre0 (x : Nat → Nat → Nat) (i : Nat) : preK x 0 i = x i 0 := by simp [preK, sumN]
theorem pre1 (x : Nat → Nat → Nat) (i : Nat) : preK x 1 i = x i 0 + x i 1 := by simp [preK, sumN]
theorem pre2 (x : Nat → Nat → Nat) (i : Nat) : preK x 2 i = x i 0 + x i 1 + x i 2 := by simp [preK, sumN]
theorem abel (u x0 x1 x2 x3 c d0 d1 d2 : Nat) : u * (x0 * c + x1 * (c + d0) + x2 * (c + d0 + d1) + x3 * (c + d0 + d1 + d2)) + (d0 * (u * x0) + d1 * (u * (x0 + x1)) + d2 * (u * (x0 + x1 + x2))) = (c + d0 + d1 + d2) * (u * (x0 + x1 + x2 + x3)) := by
  simp only [Nat.mul_add, Nat.mul_comm, Nat.mul_left_comm]
  omega
theorem sumN_mul (c : Nat) (f : Nat → Nat) : ∀ n, sumN (fun i => c * f i) n = c * sumN f n
  | 0 => rfl
  | n + 1 => by rw [sumN, sumN, sumN_mul c f n, Nat.mul_add]
/-- a way to lay the blocks -/
structure Way (n : Nat) (S c : Nat → Nat) (x : Nat → Nat → Nat) : Prop where
  all : ∀ i, i < n → x i 0 + x i 1 + x i 2 + x i 3 = S i
  room : ∀ t, t < 3 → sumN (fun i => x i t) n ≤ c t
theorem way_cost {n : Nat} {S : Nat → Nat} {x : Nat → Nat → Nat} (hall : ∀ i, i < n → x i 0 + x i 1 + x i 2 + x i 3 = S i) (u C : Nat → Nat) (h0 : C 0 ≤ C 1) (h1 : C 1 ≤ C 2) (h2 : C 2 ≤ C 3) :
    sumN (fun i => u i * rowC x C i) n + ((C 1 - C 0) * sumN (fun i => u i * preK x 0 i) n + (C 2 - C 1) * sumN (fun i => u i * preK x 1 i) n + (C 3 - C 2) * sumN (fun i => u i * preK x 2 i) n) = C 3 * sumN (fun i => u i * S i) n := by
  rw [← sumN_mul, ← sumN_mul, ← sumN_mul, ← sumN_mul, ← sumN_add, ← sumN_add, ← sumN_add]
  refine sumN_congr n (fun i hi => ?_)
  show u i * rowC x C i + ((C 1 - C 0) * (u i * preK x 0 i) + (C 2 - C 1) * (u i * preK x 1 i) + (C 3 - C 2) * (u i * preK x 2 i)) = C 3 * (u i * S i)
  have hr : rowC x C i = x i 0 * C 0 + x i 1 * C 1 + x i 2 * C 2 + x i 3 * C 3 := by simp [rowC, sumN]
  have := abel (u i) (x i 0) (x i 1) (x i 2) (x i 3) (C 0) (C 1 - C 0) (C 2 - C 1) (C 3 - C 2)
  rw [show C 0 + (C 1 - C 0) = C 1 by omega, show C 1 + (C 2 - C 1) = C 2 by omega, show C 2 + (C 3 - C 2) = C 3 by omega] at this
  rw [hr, pre0, pre1, pre2, ← hall i hi]
  exact this
section
variable {n : Nat} {F : Nat → Nat → Int} {c : Nat → Nat} {M : List Nat}
theorem unit_dl {b : Nat} {m : Int} (ok : HsOk n F m) {i j : Nat} (hi : i < n) (hj : j < n) (hbi : kS F i ∣ b) (hbj : kS F j ∣ b) (h : unitC b F j < unitC b F i) : dl (kT n F) (kB n F) i j := by
  obtain ⟨s1, _⟩ := kS_le ok hi
  obtain ⟨s2, _⟩ := kS_le ok hj
  obtain ⟨qi, hqi⟩ := hbi
  obtain ⟨qj, hqj⟩ := hbj
  have ei : b / kS F i = qi := by rw [hqi]; exact Nat.mul_div_cancel_left _ (by omega)
  have ej : b / kS F j = qj := by rw [hqj]; exact Nat.mul_div_cancel_left _ (by omega)
  unfold unitC at h
  rw [ei, ej] at h
  have oi : F i 2 = (((F i 2).toNat : Nat) : Int) := by have := (ok.1 i hi).2.2.2.2.2.1; omega
  have oj : F j 2 = (((F j 2).toNat : Nat) : Int) := by have := (ok.1 j hj).2.2.2.2.2.1; omega
  have si : F i 1 = ((kS F i : Nat) : Int) := by have := (ok.1 i hi).2.1; unfold kS; omega
  have sj : F j 1 = ((kS F j : Nat) : Int) := by have := (ok.1 j hj).2.1; unfold kS; omega
  unfold dl kT kB
  rw [if_pos hi, if_pos hi, if_pos hj, if_pos hj, oi, oj, si, sj]
  generalize (F i 2).toNat = a at *
  generalize (F j 2).toNat = d at *
  generalize kS F i = s at *
  generalize kS F j = t at *
  have e : s * qi = t * qj := by rw [← hqi, hqj]
  have key : d * s < a * t := by
    rcases Nat.lt_or_ge (d * s) (a * t) with h9 | h9
    · exact h9
    · exfalso
      -- a t <= d s, so a t qj <= d s qj ; with s qi = t qj: qi a <= qj d
      have hq : 0 < s * t := Nat.mul_pos (by omega) (by omega)
      have h1 : qj * d * (s * t) < qi * a * (s * t) := Nat.mul_lt_mul_of_pos_right h hq
      have h2 : qi * a * (s * t) = (s * qi) * (a * t) := by simp only [Nat.mul_comm, Nat.mul_left_comm]
      have h3 : qj * d * (s * t) = (t * qj) * (d * s) := by simp only [Nat.mul_comm, Nat.mul_left_comm]
      rw [h2, h3, e] at h1
      have h4 := Nat.mul_le_mul_left (t * qj) h9
      omega
  have := Int.ofNat_lt.2 key
  simpa using this
theorem pr_pre (h : Ord (kT n F) (kB n F) n M) {s i : Nat} (hs : s < 3) (hi : i < n) (h0 : ∀ t, s < t → t < 4 → PR F c M i t = 0) : preK (PR F c M) s i = kS F i := by
  have ha := pr_all (c := c) h hi
  have : s = 0 ∨ s = 1 ∨ s = 2 := by omega
  rcases this with rfl | rfl | rfl
  · have := h0 1 (by omega) (by omega); have := h0 2 (by omega) (by omega); have := h0 3 (by omega) (by omega)
    rw [pre0]; omega
  · have := h0 2 (by omega) (by omega); have := h0 3 (by omega) (by omega)
    rw [pre1]; omega
  · have := h0 3 (by omega) (by omega)
    rw [pre2]; omega
theorem pre_le {S : Nat → Nat} {x : Nat → Nat → Nat} {i s : Nat} (ha : x i 0 + x i 1 + x i 2 + x i 3 = S i) (hs : s < 3) : preK x s i ≤ S i := by
  have : s = 0 ∨ s = 1 ∨ s = 2 := by omega
  rcases this with rfl | rfl | rfl
  · rw [pre0]; omega
  · rw [pre1]; omega
  · rw [pre2]; omega
theorem sum_pre (x : Nat → Nat → Nat) (n : Nat) : ∀ s, sumN (preK x s) n = sumN (fun t => sumN (fun i => x i t) n) (s + 1) := by
  intro s
  exact sumN_swap (fun i t => x i t) (s + 1) n
/-- the greedy one takes most of the weight into the tiers up to s -/
theorem pr_knap {b : Nat} {m : Int} (ok : HsOk n F m) (h : Ord (kT n F) (kB n F) n M) (hc : CapsOk c) (hb : ∀ i, i < n → kS F i ∣ b) {x : Nat → Nat → Nat} (hx : Way n (kS F) c x) {s : Nat} (hs : s < 3) :
    sumN (fun i => unitC b F i * preK x s i) n ≤ sumN (fun i => unitC b F i * preK (PR F c M) s i) n := by
  refine knap (unitC b F) (kS F) (preK (PR F c M) s) (preK x s) (sumN c (s + 1)) (fun i hi => pre_le (pr_all h hi) hs) (fun i hi => pre_le (hx.all i hi) hs) ?_ (fun i j hi hj hu hg => ?_) ?_
  · rw [sum_pre]
    exact sumN_mono _ (fun t ht => hx.room t (by omega))
  · refine pr_pre h hs hi (fun t h1 h2 => ?_)
    have hd := unit_dl ok hi hj (hb i hi) (hb j hj) hu
    obtain ⟨t', ht', hp⟩ : ∃ t', t' ≤ s ∧ 0 < PR F c M j t' := by
      have : s = 0 ∨ s = 1 ∨ s = 2 := by omega
      rcases this with rfl | rfl | rfl
      · rw [pre0] at hg; exact ⟨0, by omega, hg⟩
      · rw [pre1] at hg
        by_cases e : 0 < PR F c M j 0
        · exact ⟨0, by omega, e⟩
        · exact ⟨1, by omega, by omega⟩
      · rw [pre2] at hg
        by_cases e : 0 < PR F c M j 0
        · exact ⟨0, by omega, e⟩
        · by_cases e1 : 0 < PR F c M j 1
          · exact ⟨1, by omega, e1⟩
          · exact ⟨2, by omega, by omega⟩
    rcases Nat.eq_zero_or_pos (PR F c M i t) with e | e
    · exact e
    · have := pr_dense h hi hj hd h2 (by omega) e hp
      omega
  · rw [sum_pre]
    have hT : ∀ t, t < 3 → sumN (fun i => PR F c M i t) n ≤ c t ∧ (sumN (fun i => PR F c M i t) n < c t → sumN (fun i => PR F c M i (t + 1)) n = 0) := fun t ht => pr_room h ht
    by_cases he : ∀ t, t ≤ s → sumN (fun i => PR F c M i t) n = c t
    · exact .inl (sumN_congr _ (fun t ht => he t (by omega)))
    · right
      obtain ⟨t, ht, hlt⟩ : ∃ t, t ≤ s ∧ sumN (fun i => PR F c M i t) n < c t := by
        by_cases e0 : sumN (fun i => PR F c M i 0) n < c 0
        · exact ⟨0, by omega, e0⟩
        · by_cases e1 : 1 ≤ s ∧ sumN (fun i => PR F c M i 1) n < c 1
          · exact ⟨1, e1.1, e1.2⟩
          · by_cases e2 : 2 ≤ s ∧ sumN (fun i => PR F c M i 2) n < c 2
            · exact ⟨2, e2.1, e2.2⟩
            · exfalso
              refine he (fun t ht => ?_)
              have h0 := (hT 0 (by omega)).1
              have h1 := (hT 1 (by omega)).1
              have h2 := (hT 2 (by omega)).1
              have : t = 0 ∨ t = 1 ∨ t = 2 := by omega
              rcases this with rfl | rfl | rfl <;> omega
      have chain : ∀ k, t + 1 + k < 4 → sumN (fun i => PR F c M i (t + 1 + k)) n = 0 := by
        intro k
        induction k with
        | zero => exact fun _ => (hT t (by omega)).2 hlt
        | succ k ih =>
          intro hk
          have h1 := ih (by omega)
          have h2 := hc.2 (t + 1 + k) (by omega)
          exact (hT (t + 1 + k) (by omega)).2 (by omega)
      intro i hi
      refine pr_pre h hs hi (fun t' h1 h2 => ?_)
      have := chain (t' - (t + 1)) (by omega)
      rw [show t + 1 + (t' - (t + 1)) = t' by omega] at this
      exact sumN_pos this hi
/-- and so it costs least -/
theorem pr_least {b : Nat} {m : Int} (ok : HsOk n F m) (h : Ord (kT n F) (kB n F) n M) (hc : CapsOk c) (hb : ∀ i, i < n → kS F i ∣ b) {x : Nat → Nat → Nat} (hx : Way n (kS F) c x) {C : Nat → Nat} (h0 : C 0 ≤ C 1) (h1 : C 1 ≤ C 2) (h2 : C 2 ≤ C 3) :
    topC b F (PR F c M) C n ≤ topC b F x C n := by
  have e1 := way_cost (x := PR F c M) (fun i hi => pr_all (c := c) h hi) (unitC b F) C h0 h1 h2
  have e2 := way_cost hx.all (unitC b F) C h0 h1 h2
  have k0 := Nat.mul_le_mul_left (C 1 - C 0) (pr_knap ok h hc hb hx (s := 0) (by omega))
  have k1 := Nat.mul_le_mul_left (C 2 - C 1) (pr_knap ok h hc hb hx (s := 1) (by omega))
  have k2 := Nat.mul_le_mul_left (C 3 - C 2) (pr_knap ok h hc hb hx (s := 2) (by omega))
  unfold topC
  omega
theorem pr_way (h : Ord (kT n F) (kB n F) n M) : Way n (kS F) c (PR F c M) := ⟨fun _ hi => pr_all h hi, fun _ ht => (pr_room h ht).1⟩
theorem lcmK_dvd (F : Nat → Nat → Int) : ∀ n i, i < n → kS F i ∣ lcmK F n
  | n + 1, i, h => by
    by_cases e : i = n
    · subst e; exact Nat.dvd_lcm_right _ _
    · exact Nat.dvd_trans (lcmK_dvd F n i (by omega)) (Nat.dvd_lcm_left _ _)
end
end Go.Proofs.Ytepnmclgkbphmaa
