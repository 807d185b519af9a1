/-
  Places in a row: pieces that are sorted, put together and turned about. No program in sight.
-/
import Derived.Test.YthoioocfembkgaaKOrd
namespace Go.Proofs.Ythoioocfembkgaa

/-- sorted from a to b -/
def SrtF (T B : Nat → Int) (X : Nat → Nat) (a b : Nat) : Prop := ∀ i j, a ≤ i → i < j → j < b → bf T B (X i) (X j)
/-- from a to b is what was there, all else is as it was -/
structure FrmF (X X' : Nat → Nat) (a b : Nat) : Prop where
  inn : ∀ k, a ≤ k → k < b → ∃ l, a ≤ l ∧ l < b ∧ X' k = X l
  out : ∀ k, ¬ (a ≤ k ∧ k < b) → X' k = X k
theorem FrmF.refl (X : Nat → Nat) (a b : Nat) : FrmF X X a b := ⟨fun k h1 h2 => ⟨k, h1, h2, rfl⟩, fun _ _ => rfl⟩
theorem FrmF.trans {X Y Z : Nat → Nat} {a b : Nat} (h1 : FrmF X Y a b) (h2 : FrmF Y Z a b) : FrmF X Z a b := by
  refine ⟨fun k a1 a2 => ?_, fun k hk => (h2.out k hk).trans (h1.out k hk)⟩
  obtain ⟨l, b1, b2, e⟩ := h2.inn k a1 a2
  obtain ⟨m, c1, c2, e2⟩ := h1.inn l b1 b2
  exact ⟨m, c1, c2, e.trans e2⟩
theorem FrmF.mono {X Y : Nat → Nat} {a b a' b' : Nat} (h : FrmF X Y a b) (ha : a' ≤ a) (hb : b ≤ b') : FrmF X Y a' b' := by
  refine ⟨fun k a1 a2 => ?_, fun k hk => h.out k (by omega)⟩
  by_cases e : a ≤ k ∧ k < b
  · obtain ⟨l, b1, b2, e2⟩ := h.inn k e.1 e.2
    exact ⟨l, by omega, by omega, e2⟩
  · exact ⟨k, a1, a2, h.out k e⟩
theorem FrmF.all {X Y : Nat → Nat} {a b n : Nat} (h : FrmF X Y a b) (hb : b ≤ n) (hX : ∀ k, k < n → X k < n) : ∀ k, k < n → Y k < n := by
  intro k hk
  by_cases e : a ≤ k ∧ k < b
  · obtain ⟨l, b1, b2, e2⟩ := h.inn k e.1 e.2
    rw [e2]; exact hX l (by omega)
  · rw [h.out k e]; exact hX k hk
/-- all ahead of c are less than all behind -/
def CutF (X : Nat → Nat) (n c : Nat) : Prop := ∀ i j, i < c → c ≤ j → j < n → X i < X j
theorem FrmF.cut {X Y : Nat → Nat} {a b n c : Nat} (h : FrmF X Y a b) (hb : b ≤ n) (hc : c ≤ a ∨ b ≤ c) (hX : CutF X n c) : CutF Y n c := by
  intro i j hi hj hjn
  have hI : ∃ i', i' < c ∧ Y i = X i' := by
    by_cases e : a ≤ i ∧ i < b
    · obtain ⟨l, b1, b2, e2⟩ := h.inn i e.1 e.2
      exact ⟨l, by omega, e2⟩
    · exact ⟨i, hi, h.out i e⟩
  have hJ : ∃ j', c ≤ j' ∧ j' < n ∧ Y j = X j' := by
    by_cases e : a ≤ j ∧ j < b
    · obtain ⟨l, b1, b2, e2⟩ := h.inn j e.1 e.2
      exact ⟨l, by omega, by omega, e2⟩
    · exact ⟨j, hj, hjn, h.out j e⟩
  obtain ⟨i', k1, e1⟩ := hI
  obtain ⟨j', k2, k3, e2⟩ := hJ
  rw [e1, e2]
  exact hX i' j' k1 k2 k3
theorem SrtF.sub {T B : Nat → Int} {X : Nat → Nat} {a b a' b' : Nat} (h : SrtF T B X a b) (h1 : a ≤ a') (h2 : b' ≤ b) : SrtF T B X a' b' := fun i j k1 k2 k3 => h i j (by omega) k2 (by omega)
theorem SrtF.of_eq {T B : Nat → Int} {X Y : Nat → Nat} {a b : Nat} (h : SrtF T B X a b) (he : ∀ k, a ≤ k → k < b → Y k = X k) : SrtF T B Y a b := fun i j k1 k2 k3 => by rw [he i k1 (by omega), he j (by omega) k3]; exact h i j k1 k2 k3
/-- one store -/
def updF (X : Nat → Nat) (j x : Nat) : Nat → Nat := fun k => if k = j then x else X k
/-- the one at m goes to j, those from j on behind it -/
def mvR (X : Nat → Nat) (m j : Nat) : Nat → Nat := fun p => if j < p ∧ p ≤ m then X (p - 1) else if p = j then X m else X p
/-- the one at a goes to k, those up to k ahead of it -/
def mvL (X : Nat → Nat) (a k : Nat) : Nat → Nat := fun p => if a ≤ p ∧ p < k then X (p + 1) else if p = k then X a else X p
theorem mvR_self (X : Nat → Nat) (m : Nat) : mvR X m m = X := by
  funext p; unfold mvR
  split
  · omega
  · split
    · rename_i e; rw [e]
    · rfl
theorem mvL_self (X : Nat → Nat) (a : Nat) : mvL X a a = X := by
  funext p; unfold mvL
  split
  · omega
  · split
    · rename_i e; rw [e]
    · rfl
theorem mvR_at (X : Nat → Nat) {m j : Nat} (_ : j ≤ m) : mvR X m j j = X m := by unfold mvR; rw [if_neg (by omega), if_pos rfl]
theorem mvR_lo (X : Nat → Nat) {m j p : Nat} (h : p < j) (_ : j ≤ m) : mvR X m j p = X p := by unfold mvR; rw [if_neg (by omega), if_neg (by omega)]
theorem mvR_step (X : Nat → Nat) {m j : Nat} (h : j < m) : updF (updF (mvR X m (j + 1)) (j + 1) (X j)) j (X m) = mvR X m j := by
  funext p; unfold updF mvR
  by_cases e1 : p = j
  · subst e1; rw [if_pos rfl, if_neg (by omega), if_pos rfl]
  · rw [if_neg e1]
    by_cases e2 : p = j + 1
    · subst e2; rw [if_pos rfl, if_pos (by omega), Nat.add_sub_cancel]
    · rw [if_neg e2]
      by_cases e3 : j < p ∧ p ≤ m
      · rw [if_pos (by omega), if_pos e3]
      · rw [if_neg (by omega), if_neg e2, if_neg e3, if_neg e1]
theorem mvL_at (X : Nat → Nat) (a k : Nat) : mvL X a k k = X a := by unfold mvL; rw [if_neg (by omega), if_pos rfl]
theorem mvL_hi (X : Nat → Nat) {a k p : Nat} (h : k < p) : mvL X a k p = X p := by unfold mvL; rw [if_neg (by omega), if_neg (by omega)]
theorem mvL_step (X : Nat → Nat) {a k : Nat} (h : a ≤ k) : updF (updF (mvL X a k) k (X (k + 1))) (k + 1) (X a) = mvL X a (k + 1) := by
  funext p; unfold updF mvL
  by_cases e1 : p = k + 1
  · subst e1; rw [if_pos rfl, if_neg (by omega), if_pos rfl]
  · rw [if_neg e1]
    by_cases e2 : p = k
    · subst e2; rw [if_pos rfl, if_pos (by omega)]
    · rw [if_neg e2]
      by_cases e3 : a ≤ p ∧ p < k
      · rw [if_pos e3, if_pos (by omega)]
      · rw [if_neg e3, if_neg e2, if_neg (by omega), if_neg e1]
theorem frm_mvR (X : Nat → Nat) {a m j : Nat} (h1 : a ≤ j) (h2 : j ≤ m) : FrmF X (mvR X m j) a (m + 1) := by
  refine ⟨fun k k1 k2 => ?_, fun k hk => ?_⟩ <;> unfold mvR
  · split
    · exact ⟨k - 1, by omega, by omega, rfl⟩
    · split
      · exact ⟨m, by omega, by omega, rfl⟩
      · exact ⟨k, k1, k2, rfl⟩
  · rw [if_neg (by omega), if_neg (by omega)]
theorem frm_mvL (X : Nat → Nat) {a b k : Nat} (h1 : a ≤ k) (h2 : k < b) : FrmF X (mvL X a k) a b := by
  refine ⟨fun p k1 k2 => ?_, fun p hp => ?_⟩ <;> unfold mvL
  · split
    · exact ⟨p + 1, by omega, by omega, rfl⟩
    · split
      · exact ⟨a, by omega, by omega, rfl⟩
      · exact ⟨p, k1, k2, rfl⟩
  · rw [if_neg (by omega), if_neg (by omega)]
section
variable {T B : Nat → Int}
theorem srt_mvR {X : Nat → Nat} {a m j : Nat} (hs : SrtF T B X a m) (h1 : a ≤ j) (h2 : j ≤ m) (hl : ∀ p, a ≤ p → p < j → bf T B (X p) (X m)) (hr : ∀ p, j ≤ p → p < m → bf T B (X m) (X p)) : SrtF T B (mvR X m j) a (m + 1) := by
  intro p q k1 k2 k3
  have hv : ∀ p, (p < j ∧ mvR X m j p = X p) ∨ (p = j ∧ mvR X m j p = X m) ∨ (j < p ∧ p ≤ m ∧ mvR X m j p = X (p - 1)) ∨ m < p := by
    intro p
    unfold mvR
    by_cases e1 : j < p ∧ p ≤ m
    · rw [if_pos e1]; exact .inr (.inr (.inl ⟨e1.1, e1.2, rfl⟩))
    · rw [if_neg e1]
      by_cases e2 : p = j
      · rw [if_pos e2]; exact .inr (.inl ⟨e2, rfl⟩)
      · rw [if_neg e2]
        by_cases e3 : p < j
        · exact .inl ⟨e3, rfl⟩
        · exact .inr (.inr (.inr (by omega)))
  rcases hv p with ⟨p1, p2⟩ | ⟨p1, p2⟩ | ⟨p1, p1', p2⟩ | p1 <;> rcases hv q with ⟨q1, q2⟩ | ⟨q1, q2⟩ | ⟨q1, q1', q2⟩ | q1 <;> first | omega | rw [p2, q2]
  · exact hs p q k1 k2 (by omega)
  · exact hl p k1 p1
  · exact hs p (q - 1) k1 (by omega) (by omega)
  · exact hr (q - 1) (by omega) (by omega)
  · exact hs (p - 1) (q - 1) (by omega) (by omega) (by omega)
theorem srt_mvL {X : Nat → Nat} {a b k : Nat} (hs : SrtF T B X (a + 1) b) (h1 : a ≤ k) (h2 : k < b) (hl : ∀ p, a < p → p ≤ k → bf T B (X p) (X a)) (hr : ∀ p, k < p → p < b → bf T B (X a) (X p)) : SrtF T B (mvL X a k) a b := by
  intro p q k1 k2 k3
  have hv : ∀ p, a ≤ p → (p < k ∧ mvL X a k p = X (p + 1)) ∨ (p = k ∧ mvL X a k p = X a) ∨ (k < p ∧ mvL X a k p = X p) := by
    intro p hp
    unfold mvL
    by_cases e1 : a ≤ p ∧ p < k
    · rw [if_pos e1]; exact .inl ⟨e1.2, rfl⟩
    · rw [if_neg e1]
      by_cases e2 : p = k
      · rw [if_pos e2]; exact .inr (.inl ⟨e2, rfl⟩)
      · rw [if_neg e2]
        exact .inr (.inr ⟨by omega, rfl⟩)
  rcases hv p k1 with ⟨p1, p2⟩ | ⟨p1, p2⟩ | ⟨p1, p2⟩ <;> rcases hv q (by omega) with ⟨q1, q2⟩ | ⟨q1, q2⟩ | ⟨q1, q2⟩ <;> first | omega | rw [p2, q2]
  · exact hs (p + 1) (q + 1) (by omega) (by omega) (by omega)
  · exact hl (p + 1) (by omega) (by omega)
  · exact hs (p + 1) q (by omega) (by omega) (by omega)
  · exact hr q (by omega) (by omega)
  · exact hs p q (by omega) (by omega) (by omega)
end
/-- rows of n places change places -/
def swpF (X : Nat → Nat) (a b n : Nat) : Nat → Nat := fun k => if a ≤ k ∧ k < a + n then X (k + (b - a)) else if b ≤ k ∧ k < b + n then X (k - (b - a)) else X k
theorem swpF_zero (X : Nat → Nat) (a b : Nat) : swpF X a b 0 = X := by funext k; unfold swpF; rw [if_neg (by omega), if_neg (by omega)]
theorem swpF_a (X : Nat → Nat) {a b n : Nat} (h : a + n < b) : swpF X a b n (a + n) = X (a + n) := by unfold swpF; rw [if_neg (by omega), if_neg (by omega)]
theorem swpF_b (X : Nat → Nat) {a b n : Nat} (h : a + n ≤ b) : swpF X a b n (b + n) = X (b + n) := by unfold swpF; rw [if_neg (by omega), if_neg (by omega)]
theorem swpF_step (X : Nat → Nat) {a b n : Nat} (h : a + n < b) : updF (updF (swpF X a b n) (a + n) (X (b + n))) (b + n) (X (a + n)) = swpF X a b (n + 1) := by
  funext k; unfold updF swpF
  by_cases e1 : k = b + n
  · subst e1; rw [if_pos rfl, if_neg (by omega), if_pos (by omega)]; congr 1; omega
  · rw [if_neg e1]
    by_cases e2 : k = a + n
    · subst e2; rw [if_pos rfl, if_pos (by omega)]; congr 1; omega
    · rw [if_neg e2]
      by_cases e3 : a ≤ k ∧ k < a + n
      · rw [if_pos e3, if_pos (by omega)]
      · rw [if_neg e3, if_neg (show ¬ (a ≤ k ∧ k < a + (n + 1)) by omega)]
        by_cases e4 : b ≤ k ∧ k < b + n
        · rw [if_pos e4, if_pos (by omega)]
        · rw [if_neg e4, if_neg (by omega)]
/-- a row's two parts change places: from s to m, and from m to e -/
def rotF (X : Nat → Nat) (s m e : Nat) : Nat → Nat := fun k => if s ≤ k ∧ k < s + (e - m) then X (k + (m - s)) else if s + (e - m) ≤ k ∧ k < e then X (k - (e - m)) else X k
theorem rot_more (X : Nat → Nat) {m i j : Nat} (hi : i ≤ m) (h : j < i) : rotF (swpF X (m - i) m j) (m - (i - j)) m (m + j) = rotF X (m - i) m (m + j) := by
  funext k; unfold rotF swpF
  rw [show m + j - m = j by omega, show m - (m - (i - j)) = i - j by omega, show m - (m - i) = i by omega, show m - (i - j) + j = m - i + j + j by omega]
  by_cases c1 : m - i ≤ k ∧ k < m - i + j
  · rw [if_neg (by omega), if_neg (by omega), if_pos c1, if_pos c1]
  · rw [if_neg c1, if_neg c1]
    by_cases c2 : m - (i - j) ≤ k ∧ k < m - i + j + j
    · rw [if_pos c2, if_pos (show m - i + j ≤ k ∧ k < m + j by omega)]
      by_cases c3 : m ≤ k + (i - j)
      · rw [if_neg (by omega), if_pos (by omega)]; congr 1; omega
      · omega
    · rw [if_neg c2]
      by_cases c3 : m - i + j + j ≤ k ∧ k < m + j
      · rw [if_pos c3, if_pos (show m - i + j ≤ k ∧ k < m + j by omega)]
        rw [if_neg (by omega), if_neg (by omega)]
      · rw [if_neg c3, if_neg (show ¬ (m - i + j ≤ k ∧ k < m + j) by omega), if_neg (by omega)]
theorem rot_less (X : Nat → Nat) {m i j : Nat} (hi : i ≤ m) (h : i < j) : rotF (swpF X (m - i) (m + j - i) i) (m - i) m (m + (j - i)) = rotF X (m - i) m (m + j) := by
  funext k; unfold rotF swpF
  rw [show m + (j - i) - m = j - i by omega, show m + j - m = j by omega, show m - (m - i) = i by omega, show m + j - i - (m - i) = j by omega, show m - i + i = m by omega]
  by_cases c1 : m - i ≤ k ∧ k < m - i + (j - i)
  · rw [if_pos c1, if_pos (show m - i ≤ k ∧ k < m - i + j by omega), if_neg (by omega)]
    rw [if_neg (by omega)]
  · rw [if_neg c1]
    by_cases c2 : m - i + (j - i) ≤ k ∧ k < m + (j - i)
    · rw [if_pos c2, if_pos (show m - i ≤ k ∧ k < m - i + j by omega)]
      rw [if_pos (by omega)]; congr 1; omega
    · rw [if_neg c2]
      by_cases c3 : m - i ≤ k ∧ k < m - i + j
      · omega
      · rw [if_neg c3]
        by_cases c4 : m - i + j ≤ k ∧ k < m + j
        · rw [if_pos c4, if_neg (by omega), if_pos (by omega)]
        · rw [if_neg c4, if_neg (by omega), if_neg (by omega)]
theorem rot_same (X : Nat → Nat) {m i : Nat} (hi : i ≤ m) : swpF X (m - i) m i = rotF X (m - i) m (m + i) := by
  funext k; unfold rotF swpF
  rw [show m + i - m = i by omega, show m - (m - i) = i by omega, show m - i + i = m by omega]
theorem frm_rot (X : Nat → Nat) {s m e : Nat} (h1 : s ≤ m) (h2 : m ≤ e) : FrmF X (rotF X s m e) s e := by
  refine ⟨fun k k1 k2 => ?_, fun k hk => ?_⟩ <;> unfold rotF
  · split
    · exact ⟨k + (m - s), by omega, by omega, rfl⟩
    · split
      · exact ⟨k - (e - m), by omega, by omega, rfl⟩
      · exact ⟨k, k1, k2, rfl⟩
  · rw [if_neg (by omega), if_neg (by omega)]
theorem rot_id (X : Nat → Nat) {s m e : Nat} (h : s = m ∨ e = m) (h1 : s ≤ m) (h2 : m ≤ e) : rotF X s m e = X := by
  funext k; unfold rotF
  split
  · congr 1; omega
  · split
    · congr 1; omega
    · rfl
/-- two sorted pieces, side by side, to be put together -/
structure MrgF (T B : Nat → Int) (X : Nat → Nat) (a m b : Nat) : Prop where
  am : a ≤ m
  mb : m ≤ b
  s1 : SrtF T B X a m
  s2 : SrtF T B X m b
  crs : ∀ i j, a ≤ i → i < m → m ≤ j → j < b → X i < X j
section
variable {T B : Nat → Int} (hB : ∀ i, 0 < B i) {X : Nat → Nat} {a m b : Nat} (h : MrgF T B X a m b)
include h
theorem MrgF.gt {i j : Nat} (h1 : a ≤ i) (h2 : i < m) (h3 : m ≤ j) (h4 : j < b) : bf T B (X j) (X i) ↔ dl T B (X j) (X i) := by
  refine ⟨fun hb => ?_, .inl⟩
  rcases hb with hb | ⟨_, hb⟩
  · exact hb
  · have := h.crs i j h1 h2 h3 h4; omega
theorem MrgF.lt {i j : Nat} (h1 : a ≤ i) (h2 : i < m) (h3 : m ≤ j) (h4 : j < b) : bf T B (X i) (X j) ↔ ¬ dl T B (X j) (X i) := by
  refine ⟨fun hb => ?_, fun hd => .inr ⟨hd, h.crs i j h1 h2 h3 h4⟩⟩
  rcases hb with hb | ⟨hb, _⟩
  · exact dl_not hb
  · exact hb
/-- where the first part is one -/
theorem MrgF.one {i : Nat} (hm : m = a + 1) (h1 : m ≤ i) (h2 : i ≤ b) (hl : ∀ p, m ≤ p → p < i → dl T B (X p) (X a)) (hr : ∀ p, i ≤ p → p < b → ¬ dl T B (X p) (X a)) : SrtF T B (mvL X a (i - 1)) a b := by
  by_cases hab : a + 1 ≤ b
  · refine srt_mvL (by have := h.s2; rw [hm] at this; exact this) (by omega) (by omega) (fun p k1 k2 => .inl (hl p (by omega) (by omega))) (fun p k1 k2 => (h.lt (by omega) (by omega) (by omega) k2).2 (hr p (by omega) k2))
  · intro i j _ _ _; omega
/-- where the second part is one -/
theorem MrgF.two {i : Nat} (hm : b = m + 1) (h1 : a ≤ i) (h2 : i ≤ m) (hl : ∀ p, a ≤ p → p < i → ¬ dl T B (X m) (X p)) (hr : ∀ p, i ≤ p → p < m → dl T B (X m) (X p)) : SrtF T B (mvR X m i) a b := by
  rw [hm]
  exact srt_mvR h.s1 h1 h2 (fun p k1 k2 => (h.lt k1 (by omega) (by omega) (by omega)).2 (hl p k1 k2)) (fun p k1 k2 => .inl (hr p k1 k2))
include hB
/-- the search's answers are of one kind ahead, and of the other behind -/
theorem MrgF.mon1 {p q : Nat} (hm : m = a + 1) (h1 : m ≤ p) (h2 : p ≤ q) (h3 : q < b) (hd : dl T B (X q) (X a)) : dl T B (X p) (X a) := by
  by_cases e : p = q
  · rw [e]; exact hd
  · exact (h.gt (by omega) (by omega) h1 (by omega)).1 (bf_tr hB (h.s2 p q h1 (by omega) h3) (.inl hd))
theorem MrgF.mon2 {p q : Nat} (hm : b = m + 1) (h1 : a ≤ p) (h2 : p ≤ q) (h3 : q < m) (hd : dl T B (X m) (X p)) : dl T B (X m) (X q) := by
  by_cases e : p = q
  · rw [← e]; exact hd
  · exact (h.gt (by omega) h3 (by omega) (by omega)).1 (bf_tr hB (.inl hd) (h.s1 p q h1 (by omega) h3))
theorem MrgF.mon3 {p c d : Nat} (h1 : a ≤ c) (h2 : c ≤ d) (h3 : d < m) (h4 : m ≤ p - d) (h5 : p - c < b) (hd : dl T B (X (p - c)) (X c)) : dl T B (X (p - d)) (X d) := by
  by_cases e : c = d
  · rw [← e]; exact hd
  · have e1 : bf T B (X (p - d)) (X (p - c)) := h.s2 _ _ h4 (by omega) h5
    exact (h.gt (by omega) h3 h4 (by omega)).1 (bf_tr hB e1 (bf_tr hB (.inl hd) (h.s1 c d h1 (by omega) h3)))
/-- the turn: the parts that are left, and that all ahead of the middle are ahead of all behind -/
theorem MrgF.turn {s e mid : Nat} (h1 : a ≤ s) (h2 : s ≤ m) (h3 : m ≤ e) (h4 : e ≤ b) (hmid : s + (e - m) = mid)
    (hl : ∀ c, c + 1 = s → e < b → a ≤ c → ¬ dl T B (X e) (X c)) (hr : s < m → m < e → dl T B (X (e - 1)) (X s)) :
    MrgF T B (rotF X s m e) a s mid ∧ MrgF T B (rotF X s m e) mid e b ∧ ∀ i j, a ≤ i → i < mid → mid ≤ j → j < b → bf T B (rotF X s m e i) (rotF X s m e j) := by
  have v1 : ∀ k, k < s → rotF X s m e k = X k := fun k hk => by unfold rotF; rw [if_neg (by omega), if_neg (by omega)]
  have v2 : ∀ k, s ≤ k → k < mid → rotF X s m e k = X (k + (m - s)) := fun k hk1 hk2 => by unfold rotF; rw [if_pos (by omega)]
  have v3 : ∀ k, mid ≤ k → k < e → rotF X s m e k = X (k - (e - m)) := fun k hk1 hk2 => by unfold rotF; rw [if_neg (by omega), if_pos (by omega)]
  have v4 : ∀ k, e ≤ k → rotF X s m e k = X k := fun k hk => by unfold rotF; rw [if_neg (by omega), if_neg (by omega)]
  have hlo : ∀ i j, a ≤ i → i < s → e ≤ j → j < b → bf T B (X i) (X j) := by
    intro i j i1 i2 j1 j2
    have k1 : bf T B (X (s - 1)) (X e) := (h.lt (by omega) (by omega) (by omega) (by omega)).2 (hl (s - 1) (by omega) (by omega) (by omega))
    have k2 : bf T B (X i) (X e) := by
      by_cases q : i = s - 1
      · rw [q]; exact k1
      · exact bf_tr hB (h.s1 i (s - 1) i1 (by omega) (by omega)) k1
    by_cases q : j = e
    · rw [q]; exact k2
    · exact bf_tr hB k2 (h.s2 e j (by omega) (by omega) j2)
  have hhi : ∀ i j, m ≤ i → i < e → s ≤ j → j < m → bf T B (X i) (X j) := by
    intro i j i1 i2 j1 j2
    have k1 : bf T B (X (e - 1)) (X s) := .inl (hr (by omega) (by omega))
    have k2 : bf T B (X i) (X s) := by
      by_cases q : i = e - 1
      · rw [q]; exact k1
      · exact bf_tr hB (h.s2 i (e - 1) i1 (by omega) (by omega)) k1
    by_cases q : j = s
    · rw [q]; exact k2
    · exact bf_tr hB k2 (h.s1 s j (by omega) (by omega) j2)
  refine ⟨⟨h1, by omega, fun i j i1 i2 i3 => ?_, fun i j i1 i2 i3 => ?_, fun i j i1 i2 i3 i4 => ?_⟩, ⟨by omega, h4, fun i j i1 i2 i3 => ?_, fun i j i1 i2 i3 => ?_, fun i j i1 i2 i3 i4 => ?_⟩, fun i j i1 i2 i3 i4 => ?_⟩
  · rw [v1 i (by omega), v1 j i3]; exact h.s1 i j i1 i2 (by omega)
  · rw [v2 i i1 (by omega), v2 j (by omega) i3]; exact h.s2 _ _ (by omega) (by omega) (by omega)
  · rw [v1 i i2, v2 j i3 i4]; exact h.crs _ _ i1 (by omega) (by omega) (by omega)
  · rw [v3 i i1 (by omega), v3 j (by omega) i3]; exact h.s1 _ _ (by omega) (by omega) (by omega)
  · rw [v4 i i1, v4 j (by omega)]; exact h.s2 _ _ (by omega) i2 i3
  · rw [v3 i i1 i2, v4 j i3]; exact h.crs _ _ (by omega) (by omega) (by omega) i4
  · by_cases c1 : i < s
    · rw [v1 i c1]
      by_cases c2 : j < e
      · rw [v3 j i3 c2]; exact h.s1 _ _ i1 (by omega) (by omega)
      · rw [v4 j (by omega)]; exact hlo i j i1 c1 (by omega) i4
    · rw [v2 i (by omega) i2]
      by_cases c2 : j < e
      · rw [v3 j i3 c2]; exact hhi _ _ (by omega) (by omega) (by omega) (by omega)
      · rw [v4 j (by omega)]; exact h.s2 _ _ (by omega) (by omega) i4
end
/-- two pieces put together, where all of the first are ahead of all of the second -/
theorem srt_join {T B : Nat → Int} {X X2 X3 : Nat → Nat} {a mid b : Nat} (h1 : a ≤ mid) (h2 : mid ≤ b) (hc : ∀ i j, a ≤ i → i < mid → mid ≤ j → j < b → bf T B (X i) (X j)) (f2 : FrmF X X2 a mid) (s2 : SrtF T B X2 a mid) (f3 : FrmF X2 X3 mid b) (s3 : SrtF T B X3 mid b) : SrtF T B X3 a b ∧ FrmF X X3 a b := by
  refine ⟨fun i j i1 i2 i3 => ?_, (f2.mono (Nat.le_refl _) h2).trans (f3.mono h1 (Nat.le_refl _))⟩
  by_cases c1 : mid ≤ i
  · exact s3 i j c1 i2 i3
  · rw [f3.out i (by omega)]
    by_cases c2 : mid ≤ j
    · obtain ⟨l, l1, l2, e⟩ := f3.inn j c2 i3
      obtain ⟨k, k1, k2, e2⟩ := f2.inn i i1 (by omega)
      rw [e, e2, f2.out l (by omega)]
      exact hc k l k1 k2 l1 l2
    · rw [f3.out j (by omega)]
      exact s2 i j i1 i2 (by omega)
/-- nothing to put together -/
theorem MrgF.none {T B : Nat → Int} {X : Nat → Nat} {a m b : Nat} (h : MrgF T B X a m b) (hn : m = a ∨ m = b) : SrtF T B X a b := by
  rcases hn with rfl | rfl
  · exact h.s2
  · exact h.s1
/-- in blocks: all of a block are less than all of a later one, and each is sorted -/
def BlkF (T B : Nat → Int) (X : Nat → Nat) (n z : Nat) : Prop := ∀ c, z ∣ c → CutF X n c ∧ SrtF T B X c (min (c + z) n)
/-- up to a in blocks of twice as many -/
structure UpF (T B : Nat → Int) (X : Nat → Nat) (n z a : Nat) : Prop where
  dv : 2 * z ∣ a
  lo : ∀ c, 2 * z ∣ c → CutF X n c ∧ (c < a → SrtF T B X c (min (c + 2 * z) n))
  hi : ∀ d, z ∣ d → a ≤ d → CutF X n d ∧ SrtF T B X d (min (d + z) n)
theorem UpF.zero {T B : Nat → Int} {X : Nat → Nat} {n z : Nat} (h : BlkF T B X n z) : UpF T B X n z 0 :=
  ⟨⟨0, by omega⟩, fun c hc => ⟨(h c (Nat.dvd_trans ⟨2, by omega⟩ hc)).1, fun h => absurd h (Nat.not_lt_zero _)⟩, fun d hd _ => h d hd⟩
section
variable {T B : Nat → Int} {X : Nat → Nat} {n z a : Nat} (h : UpF T B X n z a) (hz : 0 < z)
include h
theorem UpF.za : z ∣ a := Nat.dvd_trans ⟨2, by omega⟩ h.dv
theorem UpF.mrg {b : Nat} (hb : b ≤ a + 2 * z) (hbn : b ≤ n) (hm : a + z ≤ b) : MrgF T B X a (a + z) b := by
  obtain ⟨_, s1⟩ := h.hi a h.za (Nat.le_refl _)
  obtain ⟨c2, s2⟩ := h.hi (a + z) ((Nat.dvd_add_right h.za).2 (Nat.dvd_refl _)) (by omega)
  exact ⟨by omega, hm, s1.sub (Nat.le_refl _) (by omega), s2.sub (Nat.le_refl _) (by omega), fun i j i1 i2 i3 i4 => c2 i j i2 i3 (by omega)⟩
include hz
omit hz in
theorem dv_near {c : Nat} (hc : 2 * z ∣ c) (h1 : c < a + 2 * z) : c ≤ a := by
  obtain ⟨p, rfl⟩ := hc
  obtain ⟨q, hq⟩ := h.dv
  subst hq
  have : p < q + 1 := by
    have : 2 * z * p < 2 * z * (q + 1) := by rw [Nat.mul_add, Nat.mul_one]; exact h1
    exact Nat.lt_of_mul_lt_mul_left this
  exact Nat.mul_le_mul_left _ (by omega)
omit hz in
theorem dv_gt {c : Nat} (hc : 2 * z ∣ c) (h1 : a < c) : a + 2 * z ≤ c := by
  rcases Nat.lt_or_ge c (a + 2 * z) with e | e
  · have := dv_near h hc e; omega
  · exact e
theorem UpF.step {Y : Nat → Nat} (hb : a + 2 * z ≤ n) (hf : FrmF X Y a (a + 2 * z)) (hs : SrtF T B Y a (a + 2 * z)) : UpF T B Y n z (a + 2 * z) := by
  refine ⟨(Nat.dvd_add_right h.dv).2 (Nat.dvd_refl _), fun c hc => ⟨?_, fun hlt => ?_⟩, fun d hd hle => ⟨?_, ?_⟩⟩
  · refine hf.cut hb ?_ (h.lo c hc).1
    rcases Nat.lt_or_ge c (a + 2 * z) with e | e
    · exact .inl (dv_near h hc e)
    · exact .inr e
  · by_cases e : c = a
    · subst e; rw [show min (c + 2 * z) n = c + 2 * z by omega]; exact hs
    · have h1 := dv_near h hc hlt
      have h2 := (h.lo c hc).2 (by omega)
      refine h2.of_eq (fun k k1 k2 => hf.out k ?_)
      have h3 : c + 2 * z ≤ a := by
        obtain ⟨p, rfl⟩ := hc
        obtain ⟨q, hq⟩ := h.dv
        subst hq
        have : p < q := Nat.lt_of_mul_lt_mul_left (show 2 * z * p < 2 * z * q by omega)
        have := Nat.mul_le_mul_left (2 * z) (show p + 1 ≤ q by omega)
        rw [Nat.mul_add, Nat.mul_one] at this
        exact this
      omega
  · exact hf.cut hb (.inr hle) (h.hi d hd (by omega)).1
  · exact (h.hi d hd (by omega)).2.of_eq (fun k k1 k2 => hf.out k (by omega))
omit hz in
theorem UpF.last {Y : Nat → Nat} (hb : n < a + 2 * z) (hf : FrmF X Y a n) (hs : SrtF T B Y a n) : BlkF T B Y n (2 * z) := by
  intro c hc
  refine ⟨?_, ?_⟩
  · rcases Nat.lt_or_ge a c with e | e
    · intro i j i1 i2 i3
      have := dv_gt h hc e
      omega
    · exact hf.cut (Nat.le_refl _) (.inl e) (h.lo c hc).1
  · by_cases e : c < a
    · have h3 : c + 2 * z ≤ a := by
        obtain ⟨p, rfl⟩ := hc
        obtain ⟨q, hq⟩ := h.dv
        subst hq
        have : p < q := Nat.lt_of_mul_lt_mul_left (show 2 * z * p < 2 * z * q by omega)
        have := Nat.mul_le_mul_left (2 * z) (show p + 1 ≤ q by omega)
        rw [Nat.mul_add, Nat.mul_one] at this
        exact this
      exact ((h.lo c hc).2 e).of_eq (fun k k1 k2 => hf.out k (by omega))
    · by_cases e2 : c = a
      · subst e2; exact hs.sub (Nat.le_refl _) (by omega)
      · have := dv_gt h hc (by omega)
        intro i j i1 i2 i3
        omega
end
/-- the first round: blocks sorted one by one -/
structure FstF (T B : Nat → Int) (X : Nat → Nat) (n z a : Nat) : Prop where
  dv : z ∣ a
  cut : ∀ c, z ∣ c → CutF X n c
  lo : ∀ c, z ∣ c → c + z ≤ a → SrtF T B X c (c + z)
  hi : ∀ k, a ≤ k → X k = k
theorem FstF.zero (T B : Nat → Int) (n z : Nat) : FstF T B (fun k => k) n z 0 :=
  ⟨⟨0, by omega⟩, fun c _ i j h1 h2 _ => by show i < j; omega, fun c _ h => by intro i j _ _ _; omega, fun _ _ => rfl⟩
theorem FstF.step {T B : Nat → Int} {X Y : Nat → Nat} {n z a : Nat} (h : FstF T B X n z a) (hz : 0 < z) (hb : a + z ≤ n) (hf : FrmF X Y a (a + z)) (hs : SrtF T B Y a (a + z)) : FstF T B Y n z (a + z) := by
  refine ⟨(Nat.dvd_add_right h.dv).2 (Nat.dvd_refl _), fun c hc => ?_, fun c hc hle => ?_, fun k hk => by rw [hf.out k (by omega)]; exact h.hi k (by omega)⟩
  · refine hf.cut hb ?_ (h.cut c hc)
    obtain ⟨p, rfl⟩ := hc
    obtain ⟨q, hq⟩ := h.dv
    subst hq
    rcases Nat.lt_or_ge p (q + 1) with e | e
    · exact .inl (Nat.mul_le_mul_left _ (by omega))
    · have := Nat.mul_le_mul_left z e
      rw [Nat.mul_add, Nat.mul_one] at this
      exact .inr this
  · by_cases e : c = a
    · subst e; exact hs
    · have h3 : c + z ≤ a := by
        obtain ⟨p, rfl⟩ := hc
        obtain ⟨q, hq⟩ := h.dv
        subst hq
        have h4 : z * (p + 1) ≤ z * (q + 1) := by rw [Nat.mul_add, Nat.mul_add, Nat.mul_one]; exact hle
        have h5 : p + 1 ≤ q + 1 := Nat.le_of_mul_le_mul_left h4 hz
        have h6 : p ≠ q := fun e2 => e (by rw [e2])
        have := Nat.mul_le_mul_left z (show p + 1 ≤ q by omega)
        rw [Nat.mul_add, Nat.mul_one] at this
        exact this
      exact (h.lo c hc h3).of_eq (fun k k1 k2 => hf.out k (by omega))
theorem FstF.last {T B : Nat → Int} {X Y : Nat → Nat} {n z a : Nat} (h : FstF T B X n z a) (hz : 0 < z) (hb : n < a + z) (ha : a ≤ n) (hf : FrmF X Y a n) (hs : SrtF T B Y a n) : BlkF T B Y n z := by
  intro c hc
  have hor : c + z ≤ a ∨ c = a ∨ a + z ≤ c := by
    obtain ⟨p, rfl⟩ := hc
    obtain ⟨q, hq⟩ := h.dv
    subst hq
    rcases Nat.lt_trichotomy p q with e | e | e
    · have := Nat.mul_le_mul_left z (show p + 1 ≤ q by omega)
      rw [Nat.mul_add, Nat.mul_one] at this
      exact .inl this
    · exact .inr (.inl (by rw [e]))
    · have := Nat.mul_le_mul_left z (show q + 1 ≤ p by omega)
      rw [Nat.mul_add, Nat.mul_one] at this
      exact .inr (.inr this)
  rcases hor with e | e | e
  · exact ⟨hf.cut (Nat.le_refl _) (.inl (by omega)) (h.cut c hc), ((h.lo c hc e).of_eq (fun k k1 k2 => hf.out k (by omega))).sub (Nat.le_refl _) (by omega)⟩
  · subst e
    exact ⟨hf.cut (Nat.le_refl _) (.inl (Nat.le_refl _)) (h.cut c hc), hs.sub (Nat.le_refl _) (by omega)⟩
  · exact ⟨fun i j i1 i2 i3 => by omega, fun i j i1 i2 i3 => by omega⟩
end Go.Proofs.Ythoioocfembkgaa
