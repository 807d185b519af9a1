/-
  One stack for three levels: what a use keeps. No program in sight.
-/
import Derived.Test.YtibcfmnkpemieaaUniUse
namespace Go.Proofs.Ytibcfmnkpemieaa
open Go.RowKit

section
variable {caps lv : Nat → Nat} {M : List Nat}

/-- no level has more than its capacity -/
def Fit (caps : Nat → Nat) (M : List Nat) (lv : Nat → Nat) : Prop := ∀ l, 1 ≤ l → l < 4 → cntU M lv l ≤ caps l
/-- while level 1 has room nobody is in another one -/
def Dense (caps : Nat → Nat) (M : List Nat) (lv : Nat → Nat) : Prop := cntU M lv 1 < caps 1 → cntU M lv 2 = 0 ∧ cntU M lv 3 = 0 ∧ cntU M lv 4 = 0
/-- the last one is in a level -/
def Cut (M : List Nat) (lv : Nat → Nat) : Prop := M ≠ [] → lv (lastU M) ≠ 4

theorem abov_self (h : Stk M lv) {b : Nat} (hb : b ∈ M) : abovU M lv b (lv b) = true := by
  have hpos : 0 < cntU M lv (lv b) := cntU_pos.2 ⟨b, hb, rfl⟩
  obtain ⟨P, T, h1, h2, h3⟩ := yard_split hpos
  unfold abovU
  by_cases e : yardU M lv (lv b) = b
  · simp [e]
  · have hbP : b ∈ P := by
      rw [h1] at hb
      rcases List.mem_append.1 hb with hb | hb
      · exact hb
      · rcases List.mem_cons.1 hb with hb | hb
        · exact absurd hb.symm e
        · exact absurd rfl (h3 b hb)
    have hn : yardU M lv (lv b) ∉ P := by
      have := h.nodup
      rw [h1, List.nodup_append] at this
      intro hm
      exact this.2.2 _ hm (yardU M lv (lv b)) (by simp) rfl
    have hp : preL M (yardU M lv (lv b)) = P := by
      obtain ⟨y, hy⟩ : ∃ y, yardU M lv (lv b) = y := ⟨_, rfl⟩
      rw [hy] at h1 hn ⊢
      rw [h1]; exact pre_at hn
    rw [hp]; simp [hbP]
theorem next_self (h : Stk M lv) {b : Nat} (hb : b ∈ M) : nextOk caps M lv b (lv b) = true := by
  have h0 : lv b ≠ 0 := (h.mem b).1 hb
  unfold nextOk
  rw [if_neg h0, abov_self h hb]
  have : 0 < cntU M lv (lv b) := cntU_pos.2 ⟨b, hb, rfl⟩
  simp [this]
theorem nextU_le {b l : Nat} (l1 : 1 ≤ l) (l4 : l < 4) (h : nextOk caps M lv b l = true) : nextU caps M lv b ≤ l := by
  unfold nextU
  split
  · exact l1
  · rename_i h1
    split
    · by_cases e : l = 1
      · subst e; exact absurd h h1
      · omega
    · rename_i h2
      split
      · by_cases e : l = 1
        · subst e; exact absurd h h1
        · by_cases e2 : l = 2
          · subst e2; exact absurd h h2
          · omega
      · rename_i h3
        have : l = 1 ∨ l = 2 ∨ l = 3 := by omega
        rcases this with rfl | rfl | rfl
        · exact absurd h h1
        · exact absurd h h2
        · exact absurd h h3
theorem nextU_ok {b : Nat} (h : nextU caps M lv b < 4) : nextOk caps M lv b (nextU caps M lv b) = true := by
  unfold nextU at h ⊢
  split
  · assumption
  · split
    · assumption
    · split
      · assumption
      · simp_all
/-- the chain keeps the levels' bounds -/
theorem chain_keeps : ∀ (k l : Nat) (lv : Nat → Nat), l + k = 4 → 1 ≤ l → Stk M lv → (∀ j, 1 ≤ j → j < 4 → j ≠ l → cntU M lv j ≤ caps j) → (l < 4 → cntU M lv l ≤ caps l + 1) →
    Stk M (chainU caps M k l lv).1 ∧ Fit caps M (chainU caps M k l lv).1 ∧ (∀ j, 1 ≤ j → j < l → cntU M (chainU caps M k l lv).1 j = cntU M lv j) ∧ (l < 4 → caps l ≤ cntU M lv l → cntU M (chainU caps M k l lv).1 l = caps l) ∧ (cntU M lv l ≤ caps l → (chainU caps M k l lv).1 = lv) := by
  intro k
  induction k with
  | zero =>
    intro l lv hl l1 h h1 h2
    refine ⟨h, fun j j1 j4 => h1 j j1 j4 (by omega), fun _ _ _ => rfl, fun hlt => by omega, fun _ => rfl⟩
  | succ k ih =>
    intro l lv hl l1 h h1 h2
    by_cases hc : caps l < cntU M lv l
    · have e : (chainU caps M (k + 1) l lv).1 = (chainU caps M k (l + 1) (updN lv (yardU M lv l) (l + 1))).1 := by
        conv => lhs; unfold chainU
        rw [if_pos hc]
      rw [e]
      obtain ⟨ym, yl⟩ := yard_mem (show 0 < cntU M lv l by omega)
      have hset : ∀ j, cntU M (updN lv (yardU M lv l) (l + 1)) j + (if l = j then 1 else 0) = cntU M lv j + (if l + 1 = j then 1 else 0) := by
        intro j
        have := cntU_set h.nodup (lv := lv) (l + 1) j ym
        rwa [yl] at this
      obtain ⟨i1, i2, i3, i4, _⟩ := ih (l + 1) (updN lv (yardU M lv l) (l + 1)) (by omega) (by omega) (h.set ym (by omega) (by omega)) (fun j j1 j4 hj => by
          have := hset j
          by_cases ej : l = j
          · subst ej; rw [if_pos rfl, if_neg (by omega)] at this; have := h2 (by omega); omega
          · rw [if_neg ej, if_neg (by omega)] at this; have := h1 j j1 j4 (fun e => ej e.symm); omega) (fun hlt => by
          have := hset (l + 1)
          rw [if_neg (by omega), if_pos rfl] at this
          have := h1 (l + 1) (by omega) hlt (by omega)
          omega)
      refine ⟨i1, i2, ?_, ?_, ?_⟩
      · intro j j1 jl
        rw [i3 j j1 (by omega)]
        have := hset j
        rw [if_neg (by omega), if_neg (by omega)] at this
        omega
      · intro hlt _
        rw [i3 l l1 (by omega)]
        have := hset l
        rw [if_pos rfl, if_neg (by omega)] at this
        have := h2 hlt
        omega
      · intro hle; omega
    · rw [chain_stop hc]
      refine ⟨h, ?_, fun _ _ _ => rfl, fun _ hle => ?_, fun _ => rfl⟩
      · intro j j1 j4
        show cntU M lv j ≤ caps j
        by_cases ej : j = l
        · subst ej; omega
        · exact h1 j j1 j4 ej
      · show cntU M lv l = caps l
        omega

theorem prune_cut : ∀ (k : Nat) (M : List Nat) (lv : Nat → Nat), M.length ≤ k → Cut (pruneU k M lv).1 (pruneU k M lv).2 := by
  intro k
  induction k with
  | zero =>
    intro M lv hl h
    have : M = [] := List.eq_nil_of_length_eq_zero (by omega)
    exact absurd this h
  | succ k ih =>
    intro M lv hl
    by_cases hc : M ≠ [] ∧ lv (lastU M) = 4
    · unfold pruneU
      rw [if_pos hc]
      exact ih _ _ (by rw [List.length_take]; omega)
    · rw [pruneU_stop hc]
      intro h0 h4
      exact hc ⟨h0, h4⟩

/-- the stack, its bounds, and the blocks above -/
structure Uni (caps : Nat → Nat) (M : List Nat) (lv : Nat → Nat) : Prop where
  stk : Stk M lv
  fit : Fit caps M lv
  dense : Dense caps M lv
  cut : Cut M lv

theorem top_fit (h : Uni caps M lv) {b n : Nat} (hn : nextU caps M lv b = n) :
    (∀ j, 1 ≤ j → j < 4 → j ≠ n → cntU (toTop M b) (updN lv b n) j ≤ caps j) ∧ (n < 4 → cntU (toTop M b) (updN lv b n) n ≤ caps n + 1) := by
  have hb := nextU_bd caps M lv b
  rw [hn] at hb
  constructor
  · intro j j1 j4 hj
    have := cntU_top h.stk b n (l := j) (by omega)
    have e0 : (if n = j then 1 else 0) = 0 := if_neg (fun e => hj e.symm)
    rw [e0] at this
    have := h.fit j j1 j4
    omega
  · intro n4
    have := cntU_top h.stk b n (l := n) (by omega)
    rw [if_pos rfl] at this
    have := h.fit n hb.1 n4
    split at * <;> omega

theorem used_uni (h : Uni caps M lv) {b : Nat} (hb : b < 64) : Uni caps (usedM caps M lv b).1 (usedM caps M lv b).2 := by
  obtain ⟨n, hn⟩ : ∃ n, nextU caps M lv b = n := ⟨_, rfl⟩
  have hbd := nextU_bd caps M lv b
  obtain ⟨t1, t2⟩ := top_fit h hn
  rw [hn] at hbd
  obtain ⟨n1, n4⟩ := hbd
  obtain ⟨c1, c2, c3, c4, c5⟩ := chain_keeps (caps := caps) (4 - n) n (updN lv b n) (by omega) n1 (h.stk.top hb n1 n4) t1 t2
  unfold usedM
  rw [hn]
  generalize hlv : (chainU caps (toTop M b) (4 - n) n (updN lv b n)).1 = lv2 at *
  obtain ⟨p1, p2, p3, p4, _⟩ := prune_keeps (k := (toTop M b).length) c1
  have p5 := prune_cut (toTop M b).length (toTop M b) lv2 (Nat.le_refl _)
  generalize pruneU (toTop M b).length (toTop M b) lv2 = R at *
  refine ⟨p1, ?_, ?_, p5⟩
  · intro l l1 l4
    rw [p2 l (by omega) (by omega)]
    exact c2 l l1 l4
  · intro hlt
    rw [p2 1 (by omega) (by omega)] at hlt
    have key : cntU M lv 1 < caps 1 ∧ n = 1 := by
      by_cases hl1 : cntU M lv 1 < caps 1
      · refine ⟨hl1, ?_⟩
        obtain ⟨d2, d3, d4⟩ := h.dense hl1
        by_cases hm : b ∈ M
        · have hv : lv b = 1 := by
            have h0 := (h.stk.mem b).1 hm
            have h4 := h.stk.le b
            have q : ∀ l, cntU M lv l = 0 → lv b ≠ l := fun l hl e => by
              have := cntU_pos.2 ⟨b, hm, e⟩
              omega
            have := q 2 d2
            have := q 3 d3
            have := q 4 d4
            omega
          have := next_self (caps := caps) h.stk hm
          rw [hv] at this
          have := nextU_le (by omega) (by omega) this
          omega
        · have hv : lv b = 0 := by have := h.stk.mem b; simp [hm] at this; omega
          have hok : nextOk caps M lv b 1 = true := by unfold nextOk; rw [if_pos hv]; simpa using hl1
          have := nextU_le (by omega) (by omega) hok
          omega
      · exfalso
        have hf := h.fit 1 (by omega) (by omega)
        have ht := cntU_top h.stk b n (l := 1) (by omega)
        by_cases e : n = 1
        · subst e
          rw [if_pos rfl] at ht
          have := c4 (by omega) (by split at ht <;> omega)
          omega
        · rw [if_neg e] at ht
          have := c3 1 (by omega) (by omega)
          by_cases hv : lv b = 1
          · have hm : b ∈ M := (h.stk.mem b).2 (by omega)
            have := next_self (caps := caps) h.stk hm
            rw [hv] at this
            have := nextU_le (by omega) (by omega) this
            omega
          · rw [if_neg hv] at ht
            omega
    obtain ⟨hl1, rfl⟩ := key
    obtain ⟨d2, d3, d4⟩ := h.dense hl1
    have e1 := cntU_top h.stk b 1 (l := 1) (by omega)
    rw [if_pos rfl] at e1
    have e2 := cntU_top h.stk b 1 (l := 2) (by omega)
    have e3 := cntU_top h.stk b 1 (l := 3) (by omega)
    have e4 := cntU_top h.stk b 1 (l := 4) (by omega)
    rw [if_neg (show ¬ (1 : Nat) = 2 by omega)] at e2
    rw [if_neg (show ¬ (1 : Nat) = 3 by omega)] at e3
    rw [if_neg (show ¬ (1 : Nat) = 4 by omega)] at e4
    have hc := c5 (by split at e1 <;> omega)
    rw [p2 2 (by omega) (by omega), p2 3 (by omega) (by omega), hc]
    rw [hc] at p3
    omega
end
end Go.Proofs.Ytibcfmnkpemieaa
