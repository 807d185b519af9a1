/-
  Where blocks stand in a list with levels, by places: what the document's stack tells is what the plain model says. No program in sight, no condition.
-/
import Derived.Test.YtibcfmnkpemieaaUniYard
namespace Go.Proofs.Ytibcfmnkpemieaa
open Go.RowKit

theorem getD_memN {M : List Nat} {k : Nat} (h : k < M.length) : M.getD k 0 ∈ M := by
  rw [List.getD_eq_getElem?_getD, List.getElem?_eq_getElem h]; exact List.getElem_mem h
theorem mem_getD {M : List Nat} {b : Nat} (h : b ∈ M) : ∃ k, k < M.length ∧ M.getD k 0 = b := by
  obtain ⟨k, hk, e⟩ := List.getElem_of_mem h
  exact ⟨k, hk, by rw [List.getD_eq_getElem?_getD, List.getElem?_eq_getElem hk]; exact e⟩
theorem getD_inj {M : List Nat} (hn : M.Nodup) {j k : Nat} (hj : j < M.length) (hk : k < M.length) (e : M.getD j 0 = M.getD k 0) : j = k := by
  rw [List.getD_eq_getElem?_getD, List.getElem?_eq_getElem hj, List.getD_eq_getElem?_getD, List.getElem?_eq_getElem hk] at e
  simp only [Option.getD_some] at e
  have hp := List.pairwise_iff_getElem.1 hn
  rcases Nat.lt_trichotomy j k with h | h | h
  · exact absurd e (hp j k hj hk h)
  · exact h
  · exact absurd e.symm (hp k j hk hj h)
theorem take_getD {M : List Nat} {k : Nat} (h : k < M.length) : M.take (k + 1) = M.take k ++ [M.getD k 0] := by
  rw [List.take_succ_eq_append_getElem h]; simp [List.getD, h]
theorem split_getD {M : List Nat} {k : Nat} (h : k < M.length) : M = M.take k ++ M.getD k 0 :: M.drop (k + 1) := by
  have e : M.getD k 0 = M[k] := by simp [List.getD, h]
  rw [e, List.getElem_cons_drop, List.take_append_drop]

/-- where a block is -/
def IsPlace (M : List Nat) (b r : Int) : Prop :=
  (r = -1 ∧ ∀ j, j < M.length → ((M.getD j 0 : Nat) : Int) ≠ b) ∨ ∃ k, k < M.length ∧ r = (k : Int) ∧ ((M.getD k 0 : Nat) : Int) = b ∧ ∀ j, j < k → ((M.getD j 0 : Nat) : Int) ≠ b
/-- where the lowest one of a level is -/
def IsYard (M : List Nat) (lv : Nat → Nat) (l : Nat) (r : Int) : Prop :=
  (r = -1 ∧ ∀ j, j < M.length → lv (M.getD j 0) ≠ l) ∨ ∃ k, k < M.length ∧ r = (k : Int) ∧ lv (M.getD k 0) = l ∧ ∀ j, k < j → j < M.length → lv (M.getD j 0) ≠ l

theorem yard_is {M : List Nat} {lv : Nat → Nat} {l : Nat} {r : Int} (h : IsYard M lv l r) :
    (r = -1 ∧ cntU M lv l = 0) ∨ ∃ k, k < M.length ∧ r = (k : Int) ∧ 0 < cntU M lv l ∧ M.getD k 0 = yardU M lv l := by
  rcases h with ⟨rfl, h⟩ | ⟨k, hk, rfl, hl, hT⟩
  · refine .inl ⟨rfl, ?_⟩
    refine Nat.eq_zero_of_not_pos ?_
    rw [cntU_pos]
    rintro ⟨b, hb, e⟩
    obtain ⟨j, hj, e2⟩ := mem_getD hb
    exact h j hj (by rw [e2]; exact e)
  · refine .inr ⟨k, hk, rfl, cntU_pos.2 ⟨_, getD_memN hk, hl⟩, ?_⟩
    have h1 := split_getD hk
    have h2 := yard_at (P := M.take k) (T := M.drop (k + 1)) hl (by
      intro x hx
      obtain ⟨j, hj, e⟩ := List.getElem_of_mem hx
      rw [List.length_drop] at hj
      rw [List.getElem_drop] at e
      have := hT (k + 1 + j) (by omega) (by omega)
      rw [List.getD_eq_getElem?_getD, List.getElem?_eq_getElem (by omega), Option.getD_some, e] at this
      exact this)
    rw [← h1] at h2
    exact h2.symm
theorem is_yard_ex (M : List Nat) (lv : Nat → Nat) (l : Nat) : ∃ y, IsYard M lv l y := by
  have key : ∀ k, k ≤ M.length → (∀ j, j < k → lv (M.getD j 0) ≠ l) ∨ ∃ i, i < k ∧ lv (M.getD i 0) = l ∧ ∀ j, i < j → j < k → lv (M.getD j 0) ≠ l := by
    intro k
    induction k with
    | zero => intro _; exact .inl (by intro j hj; omega)
    | succ k ih =>
      intro hk
      by_cases e : lv (M.getD k 0) = l
      · exact .inr ⟨k, by omega, e, by intro j h1 h2; omega⟩
      · rcases ih (by omega) with h | ⟨i, h1, h2, h3⟩
        · refine .inl fun j hj => ?_
          by_cases ej : j < k
          · exact h j ej
          · obtain rfl : j = k := by omega
            exact e
        · refine .inr ⟨i, by omega, h2, fun j hj hj2 => ?_⟩
          by_cases ej : j < k
          · exact h3 j hj ej
          · obtain rfl : j = k := by omega
            exact e
  rcases key M.length (Nat.le_refl _) with h | ⟨i, h1, h2, h3⟩
  · exact ⟨-1, .inl ⟨rfl, h⟩⟩
  · exact ⟨i, .inr ⟨i, h1, rfl, h2, h3⟩⟩
theorem yard_unique {M : List Nat} {lv : Nat → Nat} {l : Nat} {r y : Int} (h : IsYard M lv l r) (g : IsYard M lv l y) : r = y := by
  rcases h with ⟨rfl, h⟩ | ⟨k, hk, rfl, h1, h2⟩
  · rcases g with ⟨rfl, _⟩ | ⟨j, hj, rfl, g1, _⟩
    · rfl
    · exact absurd g1 (h j hj)
  · rcases g with ⟨rfl, g⟩ | ⟨j, hj, rfl, g1, g2⟩
    · exact absurd h1 (g k hk)
    · rcases Nat.lt_trichotomy j k with e | e | e
      · exact absurd h1 (g2 k e hk)
      · omega
      · exact absurd g1 (h2 j e hj)
theorem place_none {M : List Nat} {b : Nat} (h : ∀ j, j < M.length → ((M.getD j 0 : Nat) : Int) ≠ (b : Int)) : b ∉ M := by
  intro hb
  obtain ⟨k, hk, e⟩ := mem_getD hb
  exact h k hk (by rw [e])
theorem next_test {caps : Nat → Nat} {M : List Nat} {lv : Nat → Nat} (hs : Stk M lv) {b l : Nat} {r y : Int} (hp : IsPlace M b r) (hy : IsYard M lv l y) :
    ((r < 0 ∧ cntU M lv l < caps l) ∨ (0 ≤ r ∧ r ≤ y)) ↔ nextOk caps M lv b l = true := by
  rcases hp with ⟨rfl, hp⟩ | ⟨k, hk, rfl, hb, hmin⟩
  · have h0 : lv b = 0 := by
      have h1 := place_none hp
      have h2 := hs.mem b
      exact Decidable.byContradiction fun h => h1 (h2.2 h)
    unfold nextOk
    rw [if_pos h0, decide_eq_true_eq]
    omega
  · have hbm : b ∈ M := by have := getD_memN hk; rwa [show M.getD k 0 = b by omega] at this
    have h0 : lv b ≠ 0 := (hs.mem b).1 hbm
    unfold nextOk
    rw [if_neg h0, Bool.and_eq_true, decide_eq_true_eq]
    rcases yard_is hy with ⟨rfl, hc⟩ | ⟨ky, hky, rfl, hc, hyy⟩
    · constructor
      · omega
      · intro h; omega
    · have h1 := split_getD hky
      have hnd := hs.nodup
      rw [h1, List.nodup_append] at hnd
      have hnot : M.getD ky 0 ∉ M.take ky := fun hm => hnd.2.2 _ hm (M.getD ky 0) List.mem_cons_self rfl
      have hpre : preL M (yardU M lv l) = M.take ky := by
        have := pre_at (T := M.drop (ky + 1)) hnot
        rw [← h1] at this
        rw [← hyy]; exact this
      unfold abovU
      rw [hpre, ← hyy, Bool.or_eq_true, beq_iff_eq, decide_eq_true_eq]
      constructor
      · rintro (h | ⟨_, h⟩)
        · omega
        · refine ⟨hc, ?_⟩
          by_cases e : k = ky
          · subst e; exact .inl (by omega)
          · refine .inr ?_
            rw [List.mem_take_iff_getElem]
            refine ⟨k, by omega, ?_⟩
            have hb' : M.getD k 0 = b := by omega
            rw [List.getD_eq_getElem?_getD, List.getElem?_eq_getElem hk] at hb'
            simpa using hb'
      · rintro ⟨_, h⟩
        refine .inr ⟨by omega, ?_⟩
        rcases h with h | h
        · have : k = ky := getD_inj hs.nodup hk hky (by omega)
          omega
        · rw [List.mem_take_iff_getElem] at h
          obtain ⟨j, hj, e⟩ := h
          have hjk : ¬ j < k := by
            intro hlt
            refine hmin j hlt ?_
            have e' : M.getD j 0 = b := by rw [List.getD_eq_getElem?_getD, List.getElem?_eq_getElem (by omega)]; simpa using e
            omega
          omega
/-- a list without a place, of what is ahead of k -/
def woP (M : List Nat) (r : Int) : Nat → List Nat
  | 0 => []
  | k + 1 => if (k : Int) = r then woP M r k else woP M r k ++ [M.getD k 0]
theorem woP_succ (M : List Nat) (r : Int) (k : Nat) : woP M r (k + 1) = if (k : Int) = r then woP M r k else woP M r k ++ [M.getD k 0] := rfl
theorem woP_len (M : List Nat) (r : Int) : ∀ k, (woP M r k).length ≤ k := by
  intro k
  induction k with
  | zero => simp [woP]
  | succ k ih =>
    rw [woP_succ]
    split
    · omega
    · rw [List.length_append, List.length_singleton]; omega
theorem woP_eq {M : List Nat} {b : Nat} {r : Int} (hn : M.Nodup) (hp : IsPlace M b r) : ∀ k, k ≤ M.length → woP M r k = (M.take k).filter (· ≠ b) := by
  intro k
  induction k with
  | zero => intro _; simp [woP]
  | succ k ih =>
    intro hk
    have hk' : k < M.length := by omega
    rw [take_getD hk', List.filter_append, ← ih (by omega)]
    rw [woP_succ]
    by_cases e : (k : Int) = r
    · rw [if_pos e]
      rcases hp with ⟨rfl, _⟩ | ⟨j, hj, rfl, hb, _⟩
      · omega
      · have : k = j := by omega
        subst this
        have : M.getD k 0 = b := by omega
        rw [this]; simp
    · rw [if_neg e]
      have hne : M.getD k 0 ≠ b := by
        intro h
        rcases hp with ⟨rfl, hp⟩ | ⟨j, hj, rfl, hb, _⟩
        · exact hp k hk' (by omega)
        · have := getD_inj hn hk' hj (by omega)
          omega
      rw [List.filter_cons, if_pos (by simpa using hne)]
      simp
theorem woP_all {M : List Nat} {b : Nat} {r : Int} (hn : M.Nodup) (hp : IsPlace M b r) : woP M r M.length = M.filter (· ≠ b) := by
  rw [woP_eq hn hp _ (Nat.le_refl _), List.take_length]
theorem place_at {M : List Nat} {b r : Int} (hp : IsPlace M b r) : (r < 0 ∧ b ∉ asInts M) ∨ (∃ k, k < M.length ∧ r = (k : Int) ∧ b ∈ asInts M) := by
  rcases hp with ⟨rfl, hp⟩ | ⟨j, hj, rfl, hb, _⟩
  · refine .inl ⟨by omega, ?_⟩
    intro h
    obtain ⟨h0, h1⟩ := mem_asInts.1 h
    obtain ⟨k, hk, e⟩ := mem_getD h1
    exact hp k hk (by omega)
  · exact .inr ⟨j, hj, rfl, mem_asInts.2 ⟨by omega, by have := getD_memN hj; rwa [show M.getD j 0 = b.toNat by omega] at this⟩⟩
end Go.Proofs.Ytibcfmnkpemieaa
