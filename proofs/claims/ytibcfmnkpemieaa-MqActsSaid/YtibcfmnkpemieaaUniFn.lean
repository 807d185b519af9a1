/-
  One stack for three levels, as plain functions on the list of its blocks and on their levels: what a use does to it. No program in sight, no condition.
-/
import Derived.Test.YtibcfmnkpemieaaAhead
import Derived.Test.YtibcfmnkpemieaaLruFn
namespace Go.Proofs.Ytibcfmnkpemieaa
open Go.RowKit

def updN (f : Nat → Nat) (b x : Nat) : Nat → Nat := fun i => if i = b then x else f i
theorem updN_same (f : Nat → Nat) (b x : Nat) : updN f b x b = x := by simp [updN]
theorem updN_other (f : Nat → Nat) {b i : Nat} (x : Nat) (h : i ≠ b) : updN f b x i = f i := by simp [updN, h]
/-- how many have a level -/
def cntU (M : List Nat) (lv : Nat → Nat) (l : Nat) : Nat := M.countP (fun b => lv b == l)
/-- the lowest block of a level -/
def yardU (M : List Nat) (lv : Nat → Nat) (l : Nat) : Nat := ((M.filter (fun b => lv b == l)).getLast?).getD 0

theorem cntU_pos {M : List Nat} {lv : Nat → Nat} {l : Nat} : 0 < cntU M lv l ↔ ∃ b ∈ M, lv b = l := by
  unfold cntU; rw [List.countP_pos_iff]; simp
theorem cntU_le (M : List Nat) (lv : Nat → Nat) (l : Nat) : cntU M lv l ≤ M.length := List.countP_le_length
theorem cntU_congr {M : List Nat} {lv lv' : Nat → Nat} {l : Nat} (h : ∀ b ∈ M, lv b = l ↔ lv' b = l) : cntU M lv l = cntU M lv' l := by
  unfold cntU
  apply List.countP_congr
  intro x hx
  have := h x hx
  simp [this]

theorem yard_at {P T : List Nat} {lv : Nat → Nat} {l y : Nat} (hy : lv y = l) (hT : ∀ x ∈ T, lv x ≠ l) : yardU (P ++ y :: T) lv l = y := by
  have : T.filter (fun b => lv b == l) = [] := by
    rw [List.filter_eq_nil_iff]; intro x hx; simp [hT x hx]
  unfold yardU
  rw [List.filter_append, List.filter_cons, if_pos (by simp [hy]), this]
  simp
theorem yard_split {M : List Nat} {lv : Nat → Nat} {l : Nat} (h : 0 < cntU M lv l) : ∃ P T, M = P ++ yardU M lv l :: T ∧ lv (yardU M lv l) = l ∧ ∀ x ∈ T, lv x ≠ l := by
  have key : ∀ R : List Nat, (∃ b ∈ R.reverse, lv b = l) → ∃ P y T, R.reverse = P ++ y :: T ∧ lv y = l ∧ ∀ x ∈ T, lv x ≠ l := by
    intro R
    induction R with
    | nil => intro ⟨b, hb, _⟩; simp at hb
    | cons x R ih =>
      intro ⟨b, hb, hl⟩
      by_cases hx : lv x = l
      · exact ⟨R.reverse, x, [], by simp, hx, by simp⟩
      · have hbR : b ∈ R.reverse := by
          simp only [List.reverse_cons, List.mem_append, List.mem_singleton] at hb
          rcases hb with hb | rfl
          · exact hb
          · exact absurd hl hx
        obtain ⟨P, y, T, h1, h2, h3⟩ := ih ⟨b, hbR, hl⟩
        refine ⟨P, y, T ++ [x], by simp [h1], h2, ?_⟩
        intro z hz
        rcases List.mem_append.1 hz with hz | hz
        · exact h3 z hz
        · simp at hz; subst hz; exact hx
  have := key M.reverse (by simpa using cntU_pos.1 h)
  rw [List.reverse_reverse] at this
  obtain ⟨P, y, T, h1, h2, h3⟩ := this
  have hy : yardU M lv l = y := by rw [h1]; exact yard_at h2 h3
  exact ⟨P, T, by rw [hy]; exact h1, by rw [hy]; exact h2, h3⟩
theorem yard_mem {M : List Nat} {lv : Nat → Nat} {l : Nat} (h : 0 < cntU M lv l) : yardU M lv l ∈ M ∧ lv (yardU M lv l) = l := by
  obtain ⟨P, T, h1, h2, _⟩ := yard_split h
  exact ⟨by have := List.mem_append_right P (List.mem_cons_self (a := yardU M lv l) (l := T)); rwa [← h1] at this, h2⟩

/-- a block stands ahead of a level's lowest one, or is it -/
def abovU (M : List Nat) (lv : Nat → Nat) (b l : Nat) : Bool := yardU M lv l == b || decide (b ∈ preL M (yardU M lv l))
/-- whether a level is one for the block -/
def nextOk (caps : Nat → Nat) (M : List Nat) (lv : Nat → Nat) (b l : Nat) : Bool :=
  if lv b = 0 then decide (cntU M lv l < caps l) else decide (0 < cntU M lv l) && abovU M lv b l
/-- the level that a block is to have -/
def nextU (caps : Nat → Nat) (M : List Nat) (lv : Nat → Nat) (b : Nat) : Nat :=
  if nextOk caps M lv b 1 then 1 else if nextOk caps M lv b 2 then 2 else if nextOk caps M lv b 3 then 3 else 4
theorem nextU_bd (caps : Nat → Nat) (M : List Nat) (lv : Nat → Nat) (b : Nat) : 1 ≤ nextU caps M lv b ∧ nextU caps M lv b ≤ 4 := by
  unfold nextU; repeat' split
  all_goals omega
/-- blocks go down where there are too many: the levels behind, the moves -/
def chainU (caps : Nat → Nat) (M : List Nat) : Nat → Nat → (Nat → Nat) → (Nat → Nat) × List (Nat × Nat)
  | 0, _, lv => (lv, [])
  | k + 1, l, lv => if caps l < cntU M lv l then
      ((chainU caps M k (l + 1) (updN lv (yardU M lv l) (l + 1))).1, (yardU M lv l, l) :: (chainU caps M k (l + 1) (updN lv (yardU M lv l) (l + 1))).2)
    else (lv, [])
/-- the last one -/
def lastU (M : List Nat) : Nat := (lst 0 M).toNat
/-- blocks that are out go from the bottom -/
def pruneU : Nat → List Nat → (Nat → Nat) → List Nat × (Nat → Nat)
  | 0, M, lv => (M, lv)
  | k + 1, M, lv => if M ≠ [] ∧ lv (lastU M) = 4 then pruneU k (M.take (M.length - 1)) (updN lv (lastU M) 0) else (M, lv)
/-- a use: what is there behind the choice of the level -/
def toTop (M : List Nat) (b : Nat) : List Nat := b :: M.filter (· ≠ b)
def usedM (caps : Nat → Nat) (M : List Nat) (lv : Nat → Nat) (b : Nat) : List Nat × (Nat → Nat) :=
  pruneU (toTop M b).length (toTop M b) (chainU caps (toTop M b) (4 - nextU caps M lv b) (nextU caps M lv b) (updN lv b (nextU caps M lv b))).1
def movesU (caps : Nat → Nat) (M : List Nat) (lv : Nat → Nat) (b : Nat) : List (Nat × Nat) :=
  (chainU caps (toTop M b) (4 - nextU caps M lv b) (nextU caps M lv b) (updN lv b (nextU caps M lv b))).2

/-! ### what stays so -/
structure Stk (M : List Nat) (lv : Nat → Nat) : Prop where
  nodup : M.Nodup
  lt : ∀ b ∈ M, b < 64
  le : ∀ b, lv b ≤ 4
  mem : ∀ b, b ∈ M ↔ lv b ≠ 0

theorem cntU_split {M : List Nat} {lv : Nat → Nat} (hn : M.Nodup) {b : Nat} (l : Nat) (hb : b ∈ M) :
    cntU M lv l = cntU (M.filter (· ≠ b)) lv l + (if lv b = l then 1 else 0) := by
  unfold cntU
  induction M with
  | nil => cases hb
  | cons x t ih =>
    have hx := List.nodup_cons.1 hn
    by_cases e : x = b
    · subst e
      have : t.filter (· ≠ x) = t := by
        rw [List.filter_eq_self]; intro y hy; simp; intro e; subst e; exact hx.1 hy
      rw [List.filter_cons, if_neg (by simp), this, List.countP_cons]
      simp
    · have hb' : b ∈ t := by
        rcases List.mem_cons.1 hb with h | h
        · exact absurd h.symm e
        · exact h
      rw [List.filter_cons, if_pos (by simpa using e), List.countP_cons, List.countP_cons, ih hx.2 hb']
      omega
theorem filter_self {M : List Nat} {b : Nat} (hb : b ∉ M) : M.filter (· ≠ b) = M := by
  rw [List.filter_eq_self]; intro y hy; simp; intro e; subst e; exact hb hy
theorem cntU_upd {M : List Nat} {lv : Nat → Nat} {b x : Nat} (l : Nat) (hb : b ∉ M) : cntU M (updN lv b x) l = cntU M lv l :=
  cntU_congr fun y hy => by rw [updN_other]; intro e; subst e; exact hb hy
theorem not_mem_filter {M : List Nat} {b : Nat} : b ∉ M.filter (· ≠ b) := by simp

/-- the numbers of blocks, when one of the stack gets another level -/
theorem cntU_set {M : List Nat} {lv : Nat → Nat} (hn : M.Nodup) {b : Nat} (x l : Nat) (hb : b ∈ M) :
    cntU M (updN lv b x) l + (if lv b = l then 1 else 0) = cntU M lv l + (if x = l then 1 else 0) := by
  rw [cntU_split (lv := lv) hn l hb, cntU_split (lv := updN lv b x) hn l hb, cntU_upd l not_mem_filter, updN_same]
  omega
/-- and when one comes to the top -/
theorem cntU_top {M : List Nat} {lv : Nat → Nat} (h : Stk M lv) (b x : Nat) {l : Nat} (hl : l ≠ 0) :
    cntU (toTop M b) (updN lv b x) l + (if lv b = l then 1 else 0) = cntU M lv l + (if x = l then 1 else 0) := by
  have h1 : cntU (toTop M b) (updN lv b x) l = cntU (M.filter (· ≠ b)) lv l + (if x = l then 1 else 0) := by
    have := cntU_upd (lv := lv) (x := x) l (not_mem_filter (M := M) (b := b))
    unfold cntU toTop at *
    rw [List.countP_cons, this, updN_same]
    simp
  by_cases hb : b ∈ M
  · rw [h1, cntU_split h.nodup l hb]; omega
  · have h0 : lv b = 0 := by have := h.mem b; simp [hb] at this; omega
    have e0 : (if lv b = l then 1 else 0) = 0 := if_neg (by omega)
    rw [h1, filter_self hb, e0]; omega
theorem Stk.top {M : List Nat} {lv : Nat → Nat} (h : Stk M lv) {b x : Nat} (hb : b < 64) (x1 : 1 ≤ x) (x4 : x ≤ 4) : Stk (toTop M b) (updN lv b x) := by
  refine ⟨?_, ?_, ?_, ?_⟩
  · unfold toTop; rw [List.nodup_cons]; exact ⟨not_mem_filter, h.nodup.filter _⟩
  · intro y hy
    rcases List.mem_cons.1 hy with rfl | hy
    · exact hb
    · exact h.lt y (List.mem_filter.1 hy).1
  · intro y; unfold updN; split
    · exact x4
    · exact h.le y
  · intro y
    unfold toTop updN
    by_cases e : y = b
    · subst e; simp; omega
    · have := h.mem y; simp [e]; simpa using this
theorem Stk.set {M : List Nat} {lv : Nat → Nat} (h : Stk M lv) {b x : Nat} (hb : b ∈ M) (x1 : 1 ≤ x) (x4 : x ≤ 4) : Stk M (updN lv b x) := by
  refine ⟨h.nodup, h.lt, ?_, ?_⟩
  · intro y; unfold updN; split
    · exact x4
    · exact h.le y
  · intro y
    unfold updN
    by_cases e : y = b
    · subst e; simp [hb]; omega
    · simp [e]; simpa using h.mem y

theorem lastU_split {M : List Nat} (h : M ≠ []) : M = M.take (M.length - 1) ++ [lastU M] ∧ lst 0 M = lastU M := by
  rcases lst_nat M 0 with ⟨rfl, _⟩ | ⟨L0, c, rfl, hc⟩
  · exact absurd rfl h
  · unfold lastU; rw [hc]; simp
theorem Stk.cut {M : List Nat} {lv : Nat → Nat} (h : Stk M lv) (h0 : M ≠ []) : Stk (M.take (M.length - 1)) (updN lv (lastU M) 0) := by
  obtain ⟨e, _⟩ := lastU_split h0
  have hn := h.nodup
  rw [e, List.nodup_append] at hn
  refine ⟨hn.1, fun y hy => h.lt y (List.mem_of_mem_take hy), ?_, ?_⟩
  · intro y; unfold updN; split
    · omega
    · exact h.le y
  · intro y
    unfold updN
    by_cases e' : y = lastU M
    · subst e'; simp
      intro hm
      exact hn.2.2 _ hm (lastU M) (by simp) rfl
    · simp [e']
      have := h.mem y
      rw [e] at this
      simpa [e'] using this
theorem cntU_cut {M : List Nat} {lv : Nat → Nat} (h : Stk M lv) (h0 : M ≠ []) (l : Nat) :
    cntU (M.take (M.length - 1)) (updN lv (lastU M) 0) l + (if lv (lastU M) = l then 1 else 0) = cntU M lv l := by
  obtain ⟨e, _⟩ := lastU_split h0
  have hn := h.nodup
  rw [e, List.nodup_append] at hn
  have hnm : lastU M ∉ M.take (M.length - 1) := fun hm => hn.2.2 _ hm (lastU M) (by simp) rfl
  rw [cntU_upd l hnm]
  conv => rhs; rw [e]
  unfold cntU
  rw [List.countP_append]
  simp [List.countP_cons]
/-- what pruning keeps -/
theorem prune_keeps {k : Nat} : ∀ {M : List Nat} {lv : Nat → Nat}, Stk M lv → Stk (pruneU k M lv).1 (pruneU k M lv).2 ∧ (∀ l, l ≠ 0 → l ≠ 4 → cntU (pruneU k M lv).1 (pruneU k M lv).2 l = cntU M lv l) ∧ cntU (pruneU k M lv).1 (pruneU k M lv).2 4 ≤ cntU M lv 4 ∧ (∀ b, (pruneU k M lv).2 b = lv b ∨ (lv b = 4 ∧ (pruneU k M lv).2 b = 0)) ∧ ∃ T, M = (pruneU k M lv).1 ++ T ∧ ∀ x ∈ T, lv x = 4 := by
  induction k with
  | zero => intro M lv h; exact ⟨h, fun _ _ _ => rfl, Nat.le_refl _, fun _ => .inl rfl, [], by simp [pruneU], by simp⟩
  | succ k ih =>
    intro M lv h
    unfold pruneU
    split
    · rename_i hc
      obtain ⟨i1, i2, i3, i4, T, i5, i6⟩ := ih (h.cut hc.1)
      obtain ⟨e, _⟩ := lastU_split hc.1
      have hn := h.nodup
      rw [e, List.nodup_append] at hn
      refine ⟨i1, ?_, ?_, ?_, T ++ [lastU M], ?_, ?_⟩
      · intro l l0 l4
        rw [i2 l l0 l4]
        have := cntU_cut h hc.1 l
        rw [if_neg (by omega)] at this
        omega
      · have := cntU_cut h hc.1 4
        omega
      · intro b
        by_cases eb : b = lastU M
        · subst eb
          rcases i4 (lastU M) with h5 | h5
          · rw [updN_same] at h5; exact .inr ⟨hc.2, h5⟩
          · rw [updN_same] at h5; omega
        · have := i4 b
          rwa [updN_other _ _ eb] at this
      · rw [← List.append_assoc, ← i5]; exact e
      · intro x hx
        rcases List.mem_append.1 hx with hx | hx
        · have := i6 x hx
          rwa [updN_other] at this
          intro e2
          subst e2
          exact hn.2.2 _ (by rw [i5]; simp [hx]) (lastU M) (by simp) rfl
        · simp at hx; subst hx; exact hc.2
    · exact ⟨h, fun _ _ _ => rfl, Nat.le_refl _, fun _ => .inl rfl, [], by simp, by simp⟩
end Go.Proofs.Ytibcfmnkpemieaa
