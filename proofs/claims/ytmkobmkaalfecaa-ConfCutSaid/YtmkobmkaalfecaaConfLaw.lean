/-
  The plain law of configurations: what is put is got; what is cut off, or has a byte more, is none. No program in sight.
-/
import Derived.Test.YtmkobmkaalfecaaCCells
import Derived.Test.YtmkobmkaalfecaaRawLaw
namespace Go.Proofs.Ytmkobmkaalfecaa
open Go.RowKit

theorem getN_cutL : ∀ (f m i acc : Nat) (s t : List Int), m ≤ f → m < 128 ^ (9 - i) → i ≤ 8 → enc m = s ++ t → t ≠ [] → getL s i acc = (0, 0, 1) := by
  intro f
  induction f with
  | zero =>
    intro m i acc s t h1 _ _ he ht
    obtain rfl : m = 0 := by omega
    rw [enc_lt (by omega)] at he
    cases s with
    | nil => rfl
    | cons c s =>
      simp at he
      exact absurd he.2.2 ht
  | succ f ih =>
    intro m i acc s t h1 h2 hi he ht
    cases s with
    | nil => rfl
    | cons c s =>
      by_cases hm : m < 128
      · rw [enc_lt hm] at he
        simp at he
        exact absurd he.2.2 ht
      · have h8 : i ≠ 8 := by
          intro h; subst h; simp at h2; omega
        rw [enc_ge (by omega)] at he
        simp only [List.cons_append, List.cons.injEq] at he
        rw [getL_more (by rw [← he.1]; omega) h8]
        have hp : 128 ^ (9 - i) = 128 ^ (9 - (i + 1)) * 128 := by rw [← Nat.pow_succ]; congr 1; omega
        exact ih (m / 128) (i + 1) _ s t (by omega) (by rw [Nat.div_lt_iff_lt_mul (by omega), ← hp]; exact h2) (by omega) he.2 ht
/-- a number that is cut off -/
theorem getN_cut (a s t : List Int) (m : Nat) (h : m < 9223372036854775808) (he : enc m = s ++ t) (ht : t ≠ []) : getN (a ++ s) a.length = (0, 0, 1) := by
  unfold getN
  rw [if_pos ⟨by omega, by simp; omega⟩, Int.toNat_natCast, List.drop_left, getN_cutL m m 0 0 s t (Nat.le_refl _) (by rw [Nat.sub_zero, pow128_9]; exact h) (by omega) he ht]
  simp

theorem numB_at (V : Nat → Int) (m : Nat) : ∀ k, k < m → ∃ s, numB V m = numB V k ++ (enc (V k).toNat ++ s) := by
  induction m with
  | zero => intro k h; omega
  | succ m ih =>
    intro k hk
    by_cases e : k < m
    · obtain ⟨s, hs⟩ := ih k e
      exact ⟨s ++ enc (V m).toNat, by simp only [numB]; rw [hs]; simp⟩
    · obtain rfl : k = m := by omega
      exact ⟨[], by simp [numB]⟩
theorem numB_congr {V V' : Nat → Int} : ∀ m, (∀ k, k < m → V k = V' k) → numB V m = numB V' m := by
  intro m
  induction m with
  | zero => intro _; rfl
  | succ m ih => intro h; simp only [numB]; rw [ih (fun k hk => h k (by omega)), h m (by omega)]
/-- numbers that stand one behind the other are read -/
theorem seq_pos {V : Nat → Int} {B pre r : List Int} {m : Nat} (hV : ∀ k, k < m → 0 ≤ V k ∧ V k ≤ 9223372036854775807) (hB : B = pre ++ (numB V m ++ r)) :
    ∀ k, k ≤ m → posK B pre.length k = ((pre ++ numB V k).length : Int) := by
  intro k
  induction k with
  | zero => intro _; simp [posK, numB]
  | succ k ih =>
    intro hk
    have ih := ih (by omega)
    obtain ⟨s, hs⟩ := numB_at V m k (by omega)
    have h1 := getN_enc (pre ++ numB V k) (s ++ r) (V k).toNat (by have := hV k (by omega); omega)
    have h2 : B = pre ++ numB V k ++ (enc (V k).toNat ++ (s ++ r)) := by rw [hB, hs]; simp
    rw [← h2] at h1
    simp only [posK]
    rw [ih, h1]
    simp only [numB, List.length_append]
    omega
theorem seq_at {V : Nat → Int} {B pre r : List Int} {m : Nat} (hV : ∀ k, k < m → 0 ≤ V k ∧ V k ≤ 9223372036854775807) (hB : B = pre ++ (numB V m ++ r)) :
    ∀ k, k < m → valK B pre.length k = V k ∧ errK B pre.length k = 0 := by
  intro k hk
  obtain ⟨s, hs⟩ := numB_at V m k hk
  have h1 := getN_enc (pre ++ numB V k) (s ++ r) (V k).toNat (by have := hV k hk; omega)
  have h2 : B = pre ++ numB V k ++ (enc (V k).toNat ++ (s ++ r)) := by rw [hB, hs]; simp
  rw [← h2] at h1
  have h3 := seq_pos hV hB k (by omega)
  unfold valK errK
  rw [h3, h1]
  exact ⟨by simp only []; have := hV k hk; omega, rfl⟩
theorem seq_cut {V : Nat → Int} {B pre s t : List Int} {m : Nat} (hV : ∀ k, k ≤ m → 0 ≤ V k ∧ V k ≤ 9223372036854775807) (hB : B = pre ++ (numB V m ++ s)) (he : enc (V m).toNat = s ++ t) (ht : t ≠ []) :
    (∀ k, k < m → errK B pre.length k = 0) ∧ errK B pre.length m = 1 := by
  refine ⟨fun k hk => (seq_at (fun k hk => hV k (by omega)) hB k hk).2, ?_⟩
  have h3 := seq_pos (fun k hk => hV k (by omega)) hB m (by omega)
  have h1 := getN_cut (pre ++ numB V m) s t (V m).toNat (by have := hV m (by omega); omega) he ht
  unfold errK
  rw [h3, show B = pre ++ numB V m ++ s by rw [hB]; simp, h1]
/-- a proper part of numbers is cut within one of them -/
theorem numB_cut (V : Nat → Int) : ∀ (m : Nat) (s t : List Int), numB V m = s ++ t → t ≠ [] → ∃ k s' t', k < m ∧ s = numB V k ++ s' ∧ enc (V k).toNat = s' ++ t' ∧ t' ≠ [] := by
  intro m
  induction m with
  | zero => intro s t h ht; simp [numB] at h; exact absurd h.2 ht
  | succ m ih =>
    intro s t h ht
    simp only [numB] at h
    rcases List.append_eq_append_iff.1 h with ⟨a, h1, h2⟩ | ⟨a, h1, h2⟩
    · -- s = numB m ++ a
      exact ⟨m, a, t, by omega, h1, h2, ht⟩
    · by_cases ha : a = []
      · subst ha
        exact ⟨m, [], enc (V m).toNat, by omega, by simpa using h1.symm, by simp, fun e => by have := enc_len_pos (V m).toNat; rw [e] at this; simp at this⟩
      · obtain ⟨k, s', t', q1, q2, q3, q4⟩ := ih s a h1 ha
        exact ⟨k, s', t', by omega, q2, q3, q4⟩

section
variable {N : Nat → Int} {n : Nat} {F : Nat → Nat → Int} {L : Nat → Bool}
/-- the first seventeen numbers -/
def firstV (N : Nat → Int) (n : Nat) (k : Nat) : Int := if k < 16 then N k else n
theorem firstB (N : Nat → Int) (n : Nat) : numB (firstV N n) 17 = numB N 16 ++ enc n := by
  show numB (firstV N n) 16 ++ enc (firstV N n 16).toNat = _
  rw [numB_congr (V' := N) 16 (fun k hk => by unfold firstV; rw [if_pos hk])]
  rfl
theorem confB_first (N : Nat → Int) (n : Nat) (F : Nat → Nat → Int) (L : Nat → Bool) : confB N n F L = numB (firstV N n) 17 ++ hintsB F L n := by rw [firstB]; rfl
theorem first_bd (ok : CfgOk N n F) : ∀ k, k < 17 → 0 ≤ firstV N n k ∧ firstV N n k ≤ 9223372036854775807 := by
  intro k hk
  unfold firstV
  split
  · next h => have := ok.bd k h; omega
  · have := ok.hs.2.2; omega
theorem numB_len17 (hb : ∀ k, k < 17 → 0 ≤ firstV N n k ∧ firstV N n k ≤ 9223372036854775807) : ∀ k, k ≤ 17 → (numB (firstV N n) k).length ≤ 9 * k := by
  intro k
  induction k with
  | zero => intro _; simp [numB]
  | succ k ih =>
    intro hk
    have h1 := ih (by omega)
    have h2 := enc_len9 (hb k (by omega)).2
    simp only [numB, List.length_append]
    omega
theorem hint_bd (ok : CfgOk N n F) {i : Nat} (hi : i < n) : ∀ k, k < 3 → 0 ≤ F i k ∧ F i k ≤ 9223372036854775807 := by
  intro k hk
  have h := ok.hs.1 i hi
  have h2 := ok.n2
  unfold HOk at h
  unfold Btw at h2
  have : k = 0 ∨ k = 1 ∨ k = 2 := by omega
  rcases this with rfl | rfl | rfl <;> omega
theorem hintB_num (F : Nat → Nat → Int) (L : Nat → Bool) (i : Nat) : hintB F L i = numB (F i) 3 ++ [bit (L i)] := by
  simp [hintB, numB]
theorem hintsB_at (F : Nat → Nat → Int) (L : Nat → Bool) (m : Nat) : ∀ i, i < m → ∃ s, hintsB F L m = hintsB F L i ++ (hintB F L i ++ s) := by
  induction m with
  | zero => intro i h; omega
  | succ m ih =>
    intro i hi
    by_cases e : i < m
    · obtain ⟨s, hs⟩ := ih i e
      exact ⟨s ++ hintB F L m, by simp only [hintsB]; rw [hs]; simp⟩
    · obtain rfl : i = m := by omega
      exact ⟨[], by simp [hintsB]⟩
theorem getB_bit (a r : List Int) (b : Bool) : getB (a ++ ([bit b] ++ r)) a.length = (b, ((a.length + 1 : Nat) : Int), 0) := by
  unfold getB
  rw [if_pos ⟨by omega, by simp; omega⟩, if_neg (by simp; omega), Int.toNat_natCast]
  have : (a ++ ([bit b] ++ r)).getD a.length 0 = bit b := by simp [List.getD_eq_getElem?_getD]
  rw [this]
  cases b <;> simp [bit]
/-- a hint that is read -/
theorem hint_read {B pre r : List Int} {i : Nat} (hV : ∀ k, k < 3 → 0 ≤ F i k ∧ F i k ≤ 9223372036854775807) (hB : B = pre ++ (hintB F L i ++ r)) :
    herr B pre.length = 0 ∧ hnext B pre.length = ((pre ++ hintB F L i).length : Int) ∧ (∀ j, j < 3 → valK B pre.length j = F i j) ∧ (getB B (posK B pre.length 3)).1 = L i := by
  have hB' : B = pre ++ (numB (F i) 3 ++ ([bit (L i)] ++ r)) := by rw [hB, hintB_num]; simp
  have h3 := seq_pos hV hB' 3 (by omega)
  have hb : getB B (posK B pre.length 3) = (L i, (((pre ++ numB (F i) 3).length + 1 : Nat) : Int), 0) := by
    rw [h3, show B = pre ++ numB (F i) 3 ++ ([bit (L i)] ++ r) by rw [hB']; simp]
    exact getB_bit _ _ _
  refine ⟨?_, ?_, fun j hj => (seq_at hV hB' j hj).1, by rw [hb]⟩
  · unfold herr
    rw [(seq_at hV hB' 0 (by omega)).2, (seq_at hV hB' 1 (by omega)).2, (seq_at hV hB' 2 (by omega)).2, hb]
    rfl
  · unfold hnext
    rw [hb, hintB_num]
    simp only [List.length_append, List.length_singleton]
    omega
/-- a hint that is cut off -/
theorem hint_cut {B pre s t : List Int} {i : Nat} (hV : ∀ k, k < 3 → 0 ≤ F i k ∧ F i k ≤ 9223372036854775807) (hB : B = pre ++ s) (he : hintB F L i = s ++ t) (ht : t ≠ []) : herr B pre.length = 1 := by
  rw [hintB_num] at he
  rcases List.append_eq_append_iff.1 he with ⟨a, h1, h2⟩ | ⟨a, h1, h2⟩
  · -- s = numB ++ a
    obtain rfl : a = [] := by
      cases a with
      | nil => rfl
      | cons x a => simp at h2; exact absurd h2.2.2 ht
    have hB' : B = pre ++ (numB (F i) 3 ++ []) := by rw [hB, h1]
    have h3 := seq_pos hV hB' 3 (by omega)
    unfold herr
    rw [(seq_at hV hB' 0 (by omega)).2, (seq_at hV hB' 1 (by omega)).2, (seq_at hV hB' 2 (by omega)).2, h3]
    simp only [ne_eq, not_true_eq_false, if_false]
    unfold getB
    have : B.length = (pre ++ numB (F i) 3).length := by rw [hB']; simp
    rw [if_pos ⟨by omega, by omega⟩, if_pos (by rw [this])]
  · by_cases ha : a = []
    · subst ha
      have hs : s = numB (F i) 3 := by simpa using h1.symm
      have hB' : B = pre ++ (numB (F i) 3 ++ []) := by rw [hB, hs]; simp
      have h3 := seq_pos hV hB' 3 (by omega)
      unfold herr
      rw [(seq_at hV hB' 0 (by omega)).2, (seq_at hV hB' 1 (by omega)).2, (seq_at hV hB' 2 (by omega)).2, h3]
      simp only [ne_eq, not_true_eq_false, if_false]
      unfold getB
      have : B.length = (pre ++ numB (F i) 3).length := by rw [hB']; simp
      rw [if_pos ⟨by omega, by omega⟩, if_pos (by rw [this])]
    · obtain ⟨k, s', t', hk, e1, e2, e3⟩ := numB_cut (F i) 3 s a h1 ha
      obtain ⟨g1, g2⟩ := seq_cut (B := B) (pre := pre) (V := F i) (m := k) (fun j hj => hV j (by omega)) (by rw [hB, e1]) e2 e3
      have : k = 0 ∨ k = 1 ∨ k = 2 := by omega
      unfold herr
      rcases this with rfl | rfl | rfl
      · rw [g2]; rfl
      · rw [g1 0 (by omega), g2]; rfl
      · rw [g1 0 (by omega), g1 1 (by omega), g2]; rfl
/-- hints that are read, one behind the other -/
theorem hints_pos {B pre r : List Int} {m : Nat} (hV : ∀ i, i < m → ∀ k, k < 3 → 0 ≤ F i k ∧ F i k ≤ 9223372036854775807) (hB : B = pre ++ (hintsB F L m ++ r)) :
    ∀ i, i ≤ m → hpos B pre.length i = ((pre ++ hintsB F L i).length : Int) := by
  intro i
  induction i with
  | zero => intro _; simp [hpos, hintsB]
  | succ i ih =>
    intro hi
    have ih := ih (by omega)
    obtain ⟨s, hs⟩ := hintsB_at F L m i (by omega)
    have h2 : B = pre ++ hintsB F L i ++ (hintB F L i ++ (s ++ r)) := by rw [hB, hs]; simp
    have h1 := (hint_read (hV i (by omega)) h2).2.1
    simp only [hpos]
    rw [ih, h1]
    simp [hintsB]
theorem hints_at {B pre r : List Int} {m : Nat} (hV : ∀ i, i < m → ∀ k, k < 3 → 0 ≤ F i k ∧ F i k ≤ 9223372036854775807) (hB : B = pre ++ (hintsB F L m ++ r)) :
    ∀ i, i < m → herr B (hpos B pre.length i) = 0 ∧ (∀ j, j < 3 → valK B (hpos B pre.length i) j = F i j) ∧ (getB B (posK B (hpos B pre.length i) 3)).1 = L i := by
  intro i hi
  obtain ⟨s, hs⟩ := hintsB_at F L m i hi
  have h2 : B = pre ++ hintsB F L i ++ (hintB F L i ++ (s ++ r)) := by rw [hB, hs]; simp
  have h1 := hint_read (hV i hi) h2
  rw [← hints_pos hV hB i (by omega)] at h1
  exact ⟨h1.1, h1.2.2⟩
theorem hintsB_cut (F : Nat → Nat → Int) (L : Nat → Bool) : ∀ (m : Nat) (s t : List Int), hintsB F L m = s ++ t → t ≠ [] → ∃ k s' t', k < m ∧ s = hintsB F L k ++ s' ∧ hintB F L k = s' ++ t' ∧ t' ≠ [] := by
  intro m
  induction m with
  | zero => intro s t h ht; simp [hintsB] at h; exact absurd h.2 ht
  | succ m ih =>
    intro s t h ht
    simp only [hintsB] at h
    rcases List.append_eq_append_iff.1 h with ⟨a, h1, h2⟩ | ⟨a, h1, h2⟩
    · exact ⟨m, a, t, by omega, h1, h2, ht⟩
    · by_cases ha : a = []
      · subst ha
        exact ⟨m, [], hintB F L m, by omega, by simpa using h1.symm, by simp, fun e => by rw [hintB_num] at e; simp at e⟩
      · obtain ⟨k, s', t', q1, q2, q3, q4⟩ := ih s a h1 ha
        exact ⟨k, s', t', by omega, q2, q3, q4⟩

theorem cfg_congr {N' : Nat → Int} {F' : Nat → Nat → Int} (ok : CfgOk N n F) (hN : ∀ k, k < 16 → N' k = N k) (hF : ∀ i j, i < n → j < 3 → F' i j = F i j) : CfgOk N' n F' := by
  obtain ⟨h1, h2, h3⟩ := ok.hs
  refine ⟨fun t ht => by rw [hN _ (by omega), hN _ (by omega)]; exact ok.pol t ht, by rw [hN _ (by omega)]; exact ok.n0, by rw [hN _ (by omega)]; exact ok.n1, by rw [hN _ (by omega)]; exact ok.n2, by rw [hN _ (by omega)]; exact ok.n3, by rw [hN _ (by omega)]; exact ok.n4, by rw [hN _ (by omega)]; exact ok.n5, by rw [hN _ (by omega), hN _ (by omega)]; exact ok.m5, by rw [hN _ (by omega)]; exact ok.n12, by rw [hN _ (by omega)]; exact ok.n13, by rw [hN _ (by omega)]; exact ok.n14, by rw [hN _ (by omega)]; exact ok.n15, by rw [hN _ (by omega)]; exact ok.h5, ⟨fun i hi => ?_, fun i j hij hj b => ?_, h3⟩⟩
  · have := h1 i hi
    unfold HOk at this ⊢
    rw [hN _ (by omega), hF i 0 hi (by omega), hF i 1 hi (by omega), hF i 2 hi (by omega)]
    exact this
  · have := h2 i j hij hj b
    unfold HIn at this ⊢
    rw [hF i 0 (by omega) (by omega), hF i 1 (by omega) (by omega), hF j 0 (by omega) (by omega), hF j 1 (by omega) (by omega)]
    exact this

/-- all that a configuration's bytes, and what stands behind, are read as -/
theorem conf_reads (ok : CfgOk N n F) (r : List Int) : (∀ k, k < 16 → valK (confB N n F L ++ r) 0 k = N k) ∧ valK (confB N n F L ++ r) 0 16 = n ∧ (∀ k, k < 17 → errK (confB N n F L ++ r) 0 k = 0) ∧
    (∀ i, i < n → herr (confB N n F L ++ r) (hpos (confB N n F L ++ r) (posK (confB N n F L ++ r) 0 17) i) = 0 ∧ (∀ j, j < 3 → gF (confB N n F L ++ r) i j = F i j) ∧ gL (confB N n F L ++ r) i = L i) ∧
    hpos (confB N n F L ++ r) (posK (confB N n F L ++ r) 0 17) n = (confB N n F L).length := by
  obtain ⟨B, hBe⟩ : ∃ B, B = confB N n F L ++ r := ⟨_, rfl⟩
  rw [← hBe]
  have hB : B = [] ++ (numB (firstV N n) 17 ++ (hintsB F L n ++ r)) := by rw [hBe, confB_first]; simp
  have hs := seq_at (first_bd ok) hB
  have hp := seq_pos (first_bd ok) hB 17 (by omega)
  have hB2 : B = numB (firstV N n) 17 ++ (hintsB F L n ++ r) := by rw [hB]; simp
  have hh := hints_at (fun i hi => hint_bd ok hi) hB2
  have hq := hints_pos (fun i hi => hint_bd ok hi) hB2 n (Nat.le_refl _)
  simp only [List.length_nil, List.nil_append, Int.natCast_zero] at hs hp
  rw [← hp] at hh hq
  refine ⟨fun k hk => ?_, ?_, fun k hk => (hs k hk).2, fun i hi => ?_, ?_⟩
  · rw [(hs k (by omega)).1]; unfold firstV; rw [if_pos hk]
  · rw [(hs 16 (by omega)).1]; rfl
  · exact ⟨(hh i hi).1, fun j hj => by unfold gF; exact (hh i hi).2.1 j hj, by unfold gL; exact (hh i hi).2.2⟩
  · rw [hq, confB_first]

theorem gout_ok (ok : CfgOk N n F) : GOut (confB N n F L) 0 := by
  obtain ⟨h1, h2, h3, h4, h5⟩ := conf_reads (L := L) ok []
  simp only [List.append_nil] at h1 h2 h3 h4 h5
  exact .inr ⟨h3, n, ok.hs.2.2, h2, .inr ⟨fun i hi => (h4 i hi).1, .inr ⟨h5, cfg_congr ok h1 (fun i j hi hj => (h4 i hi).2.1 j hj), rfl⟩⟩⟩
theorem gout_more (ok : CfgOk N n F) (x : Int) : GOut (confB N n F L ++ [x]) 2 := by
  obtain ⟨h1, h2, h3, h4, h5⟩ := conf_reads (L := L) ok [x]
  exact .inr ⟨h3, n, ok.hs.2.2, h2, .inr ⟨fun i hi => (h4 i hi).1, .inl ⟨by rw [h5]; simp; omega, rfl⟩⟩⟩
theorem gout_cut (ok : CfgOk N n F) (s t : List Int) (h : confB N n F L = s ++ t) (ht : t ≠ []) : GOut s 1 := by
  rw [confB_first] at h
  have key : ∀ s', s = numB (firstV N n) 17 ++ s' → hintsB F L n = s' ++ t → GOut s 1 := by
    intro s' h1 h2
    obtain ⟨k, s'', t'', hk, e1, e2, e3⟩ := hintsB_cut F L n s' t h2 ht
    have hB : s = [] ++ (numB (firstV N n) 17 ++ s') := by rw [h1]; simp
    have hs := seq_at (first_bd ok) hB
    have hp := seq_pos (first_bd ok) hB 17 (by omega)
    simp only [List.length_nil, List.nil_append, Int.natCast_zero] at hs hp
    have hB2 : s = numB (firstV N n) 17 ++ (hintsB F L k ++ s'') := by rw [h1, e1]
    have hh := hints_at (fun i hi => hint_bd ok (by omega)) hB2
    have hq := hints_pos (fun i hi => hint_bd ok (by omega)) hB2 k (Nat.le_refl _)
    rw [← hp] at hh hq
    refine .inr ⟨fun k hk => (hs k hk).2, n, ok.hs.2.2, by rw [(hs 16 (by omega)).1]; rfl, .inl ⟨k, hk, fun j hj => (hh j hj).1, ?_, by decide⟩⟩
    rw [hq]
    exact hint_cut (hint_bd ok hk) (by rw [hB2]; simp) e2 e3
  rcases List.append_eq_append_iff.1 h with ⟨a, h1, h2⟩ | ⟨a, h1, h2⟩
  · exact key a h1 h2
  · by_cases ha : a = []
    · subst ha
      exact key [] (by simpa using h1.symm) (by simpa using h2.symm)
    · obtain ⟨k, s', t', hk, e1, e2, e3⟩ := numB_cut (firstV N n) 17 s a h1 ha
      obtain ⟨g1, g2⟩ := seq_cut (B := s) (pre := []) (V := firstV N n) (m := k) (fun j hj => first_bd ok j (by omega)) (by rw [e1]; simp) e2 e3
      exact .inl ⟨k, hk, g1, g2, by decide⟩
end
end Go.Proofs.Ytmkobmkaalfecaa
