/-
  One stack for three levels as it lies in memory: a block of 74 cells (the space, the capacities, the blocks' levels, how many have each), and the space. No program in sight.
-/
import Derived.Test.YtibcfmnkpemieaaUniFn
namespace Go.Proofs.Ytibcfmnkpemieaa
open Go.RowKit

theorem Chg.mono {S S' : List Nat} {a b : World} (h : Chg S a b) (hS : ∀ s ∈ S, s ∈ S') : Chg S' a b :=
  ⟨h.os, h.tape, h.output, h.size, fun k hk hn => h.block k hk (fun hm => hn (hS k hm))⟩

/-- the cells of a stack -/
structure UCells (cs : Array Value) (bs : Nat) (caps lv : Nat → Nat) (cn : Nat → Int) : Prop where
  c0 : cs[0]? = some (.pointer (some ⟨bs, 0, none⟩))
  cap : ∀ l, l < 4 → cs[1 + l]? = some (.int .i64 (caps l))
  lev : ∀ b, b < 64 → cs[5 + b]? = some (.int .i64 (lv b))
  cnt : ∀ l, l < 5 → cs[69 + l]? = some (.int .i64 (cn l))
def updI (f : Nat → Int) (b : Nat) (x : Int) : Nat → Int := fun i => if i = b then x else f i
theorem updI_same (f : Nat → Int) (b : Nat) (x : Int) : updI f b x b = x := by simp [updI]
theorem updI_other (f : Nat → Int) {b i : Nat} (x : Int) (h : i ≠ b) : updI f b x i = f i := by simp [updI, h]
/-- the stack's own block, whatever its numbers -/
structure UAt (w : World) (pu bs : Nat) (caps lv : Nat → Nat) (cn : Nat → Int) : Prop where
  cells : ∃ cs t, w.heap[pu]? = some (.cells cs t (0, 0)) ∧ UCells cs bs caps lv cn
section
variable {w w' : World} {pu bs : Nat} {caps lv : Nat → Nat} {cn : Nat → Int}
theorem UAt.lt (h : UAt w pu bs caps lv cn) : pu < w.heap.size := by obtain ⟨cs, t, h1, _⟩ := h.cells; exact (Array.getElem?_eq_some_iff.1 h1).1
theorem UAt.c0 (h : UAt w pu bs caps lv cn) : w.cell? ⟨pu, 0, none⟩ = some (.pointer (some ⟨bs, 0, none⟩)) := by
  obtain ⟨cs, t, h1, h2⟩ := h.cells
  rw [cell_of_row w pu _ cs t (0, 0) h1]; exact h2.c0
theorem UAt.cap (h : UAt w pu bs caps lv cn) {l : Nat} (hl : l < 4) : w.cell? ⟨pu, 1 + l, none⟩ = some (.int .i64 (caps l)) := by
  obtain ⟨cs, t, h1, h2⟩ := h.cells
  rw [cell_of_row w pu _ cs t (0, 0) h1]; exact h2.cap l hl
theorem UAt.lev (h : UAt w pu bs caps lv cn) {b : Nat} (hb : b < 64) : w.cell? ⟨pu, 5 + b, none⟩ = some (.int .i64 (lv b)) := by
  obtain ⟨cs, t, h1, h2⟩ := h.cells
  rw [cell_of_row w pu _ cs t (0, 0) h1]; exact h2.lev b hb
theorem UAt.cnt (h : UAt w pu bs caps lv cn) {l : Nat} (hl : l < 5) : w.cell? ⟨pu, 69 + l, none⟩ = some (.int .i64 (cn l)) := by
  obtain ⟨cs, t, h1, h2⟩ := h.cells
  rw [cell_of_row w pu _ cs t (0, 0) h1]; exact h2.cnt l hl
theorem UAt.free (h : UAt w pu bs caps lv cn) (o : Nat) : w.frozen? ⟨pu, o, none⟩ = false := by obtain ⟨cs, t, h1, _⟩ := h.cells; exact frozen_row h1 o
theorem UAt.same (h : UAt w pu bs caps lv cn) (h1 : w'.heap[pu]? = w.heap[pu]?) : UAt w' pu bs caps lv cn := ⟨by rw [h1]; exact h.cells⟩
theorem UAt.ext (h : UAt w pu bs caps lv cn) (hx : Ext w w') : UAt w' pu bs caps lv cn := h.same (Below.block hx _ h.lt)
theorem UAt.chg {S : List Nat} (h : UAt w pu bs caps lv cn) (hx : Chg S w w') (h1 : pu ∉ S) : UAt w' pu bs caps lv cn := h.same (hx.block _ h.lt h1)
theorem UAt.setLev (h : UAt w pu bs caps lv cn) {b : Nat} (hb : b < 64) (x : Nat) : UAt (w.setCell ⟨pu, 5 + b, none⟩ (.int .i64 x)) pu bs caps (updN lv b x) cn := by
  obtain ⟨cs, t, h1, h2⟩ := h.cells
  refine ⟨_, t, heap_set h1 _, ?_, ?_, ?_, ?_⟩
  · rw [Array.getElem?_setIfInBounds, if_neg (by omega)]; exact h2.c0
  · intro l hl; rw [Array.getElem?_setIfInBounds, if_neg (by omega)]; exact h2.cap l hl
  · intro i hi
    by_cases e : i = b
    · subst e
      have hlt : 5 + i < cs.size := (Array.getElem?_eq_some_iff.1 (h2.lev i hi)).1
      rw [Array.getElem?_setIfInBounds, updN_same]; simp [hlt]
    · rw [Array.getElem?_setIfInBounds, if_neg (by omega), updN_other _ _ e]; exact h2.lev i hi
  · intro l hl; rw [Array.getElem?_setIfInBounds, if_neg (by omega)]; exact h2.cnt l hl
theorem UAt.setCnt (h : UAt w pu bs caps lv cn) {k : Nat} (hk : k < 5) (x : Int) : UAt (w.setCell ⟨pu, 69 + k, none⟩ (.int .i64 x)) pu bs caps lv (updI cn k x) := by
  obtain ⟨cs, t, h1, h2⟩ := h.cells
  refine ⟨_, t, heap_set h1 _, ?_, ?_, ?_, ?_⟩
  · rw [Array.getElem?_setIfInBounds, if_neg (by omega)]; exact h2.c0
  · intro l hl; rw [Array.getElem?_setIfInBounds, if_neg (by omega)]; exact h2.cap l hl
  · intro i hi; rw [Array.getElem?_setIfInBounds, if_neg (by omega)]; exact h2.lev i hi
  · intro i hi
    by_cases e : i = k
    · subst e
      have hlt : 69 + i < cs.size := (Array.getElem?_eq_some_iff.1 (h2.cnt i hi)).1
      rw [Array.getElem?_setIfInBounds, updI_same]; simp [hlt]
    · rw [Array.getElem?_setIfInBounds, if_neg (by omega), updI_other _ _ e]; exact h2.cnt i hi
theorem UAt.setCap (h : UAt w pu bs caps lv cn) {k : Nat} (hk : k < 4) (x : Nat) : UAt (w.setCell ⟨pu, 1 + k, none⟩ (.int .i64 x)) pu bs (updN caps k x) lv cn := by
  obtain ⟨cs, t, h1, h2⟩ := h.cells
  refine ⟨_, t, heap_set h1 _, ?_, ?_, ?_, ?_⟩
  · rw [Array.getElem?_setIfInBounds, if_neg (by omega)]; exact h2.c0
  · intro i hi
    by_cases e : i = k
    · subst e
      have hlt : 1 + i < cs.size := (Array.getElem?_eq_some_iff.1 (h2.cap i hi)).1
      rw [Array.getElem?_setIfInBounds, updN_same]; simp [hlt]
    · rw [Array.getElem?_setIfInBounds, if_neg (by omega), updN_other _ _ e]; exact h2.cap i hi
  · intro i hi; rw [Array.getElem?_setIfInBounds, if_neg (by omega)]; exact h2.lev i hi
  · intro l hl; rw [Array.getElem?_setIfInBounds, if_neg (by omega)]; exact h2.cnt l hl
end

/-- how often each level is there; at 0 the blocks that have one, taken off -/
def cnU (M : List Nat) (lv : Nat → Nat) (l : Nat) : Int := if l = 0 then -(M.length : Int) else (cntU M lv l : Int)
/-- a stack: its block is pu, its space lies in the blocks bs and be, its blocks are M, their levels lv -/
structure UniAt (w : World) (pu bs be : Nat) (caps : Nat → Nat) (M : List Nat) (lv : Nat → Nat) : Prop where
  obj : UAt w pu bs caps lv (cnU M lv)
  n1 : pu ≠ bs
  n2 : pu ≠ be
  space : SpaceAt w bs be [M]
  stk : Stk M lv
section
variable {w w' : World} {pu bs be : Nat} {caps lv : Nat → Nat} {M : List Nat}
theorem UniAt.ext (h : UniAt w pu bs be caps M lv) (hx : Ext w w') : UniAt w' pu bs be caps M lv := ⟨h.obj.ext hx, h.n1, h.n2, h.space.ext hx, h.stk⟩
theorem UniAt.len (h : UniAt w pu bs be caps M lv) : M.length ≤ 64 := by
  obtain ⟨A, E, _, hy⟩ := h.space
  exact hy.len (l := 0) (by simp)
theorem UniAt.cnt (h : UniAt w pu bs be caps M lv) {l : Nat} (l1 : 1 ≤ l) (l4 : l ≤ 4) : w.cell? ⟨pu, 69 + l, none⟩ = some (.int .i64 (cntU M lv l)) := by
  have := h.obj.cnt (l := l) (by omega)
  rwa [cnU, if_neg (by omega)] at this
end
theorem cnU_bd {M : List Nat} {lv : Nat → Nat} (h : M.length ≤ 64) (l : Nat) : -64 ≤ cnU M lv l ∧ cnU M lv l ≤ 64 := by
  have := cntU_le M lv l
  unfold cnU; split <;> omega
/-- the numbers as 'set' leaves them -/
def setCn (lv : Nat → Nat) (cn : Nat → Int) (b x : Nat) : Nat → Int := updI (updI cn (lv b) (cn (lv b) - 1)) x (updI cn (lv b) (cn (lv b) - 1) x + 1)
theorem setCn_at (lv : Nat → Nat) (cn : Nat → Int) (b x l : Nat) : setCn lv cn b x l = cn l - (if lv b = l then 1 else 0) + (if x = l then 1 else 0) := by
  unfold setCn updI
  by_cases h1 : l = x
  · by_cases h2 : x = lv b
    · simp [h1, h2]
    · simp [h1]; rw [if_neg h2, if_neg (fun e => h2 e.symm)]; omega
  · by_cases h2 : l = lv b
    · simp [h1, h2]
      rw [if_neg (by omega), if_neg (by omega)]; omega
    · rw [if_neg h1, if_neg h2, if_neg (by omega), if_neg (by omega)]; omega
theorem uat_congr {w : World} {pu bs : Nat} {caps lv : Nat → Nat} {cn cn' : Nat → Int} (h : UAt w pu bs caps lv cn) (e : ∀ l, l < 5 → cn l = cn' l) : UAt w pu bs caps lv cn' := by
  obtain ⟨cs, t, h1, h2⟩ := h.cells
  exact ⟨cs, t, h1, h2.c0, h2.cap, h2.lev, fun l hl => by rw [← e l hl]; exact h2.cnt l hl⟩
theorem setCn_set {M : List Nat} {lv : Nat → Nat} (h : Stk M lv) {b x : Nat} (hb : b ∈ M) (x1 : 1 ≤ x) (l : Nat) : setCn lv (cnU M lv) b x l = cnU M (updN lv b x) l := by
  rw [setCn_at]
  have h1 := cntU_set h.nodup (lv := lv) x l hb
  have h0 : lv b ≠ 0 := (h.mem b).1 hb
  unfold cnU
  split
  · rw [if_neg (by omega), if_neg (by omega)]; omega
  · split at h1 <;> split at h1 <;> simp_all <;> omega
theorem setCn_top {M : List Nat} {lv : Nat → Nat} (h : Stk M lv) {b x : Nat} (x1 : 1 ≤ x) (l : Nat) : setCn lv (cnU M lv) b x l = cnU (toTop M b) (updN lv b x) l := by
  rw [setCn_at]
  unfold cnU
  by_cases hl : l = 0
  · subst hl
    simp only [if_true]
    rw [if_neg (show ¬ x = 0 by omega)]
    by_cases hb : b ∈ M
    · have h0 : lv b ≠ 0 := (h.mem b).1 hb
      have := nodup_filter_length h.nodup hb
      rw [if_neg (by omega)]
      unfold toTop; rw [List.length_cons]; omega
    · have h0 : lv b = 0 := by have := h.mem b; simp [hb] at this; omega
      rw [if_pos h0]
      unfold toTop; rw [List.length_cons, filter_self hb]; omega
  · rw [if_neg hl, if_neg hl]
    have h1 := cntU_top h b x hl
    split at h1 <;> split at h1 <;> simp_all <;> omega
theorem setCn_cut {M : List Nat} {lv : Nat → Nat} (h : Stk M lv) (h0 : M ≠ []) (l : Nat) : setCn lv (cnU M lv) (lastU M) 0 l = cnU (M.take (M.length - 1)) (updN lv (lastU M) 0) l := by
  rw [setCn_at]
  obtain ⟨e, _⟩ := lastU_split h0
  have hm : lastU M ∈ M := by have := List.mem_append_right (M.take (M.length - 1)) (List.mem_singleton_self (lastU M)); rwa [← e] at this
  have hl0 : lv (lastU M) ≠ 0 := (h.mem _).1 hm
  have hpos : 0 < M.length := List.length_pos_iff.2 h0
  unfold cnU
  by_cases hl : l = 0
  · subst hl
    rw [if_pos rfl, if_pos rfl, if_neg (by omega), if_pos rfl, List.length_take]
    omega
  · rw [if_neg hl, if_neg hl]
    have h1 := cntU_cut h h0 l
    have e0 : (if 0 = l then (1 : Int) else 0) = 0 := if_neg (by omega)
    rw [e0]
    by_cases hx : lv (lastU M) = l
    · rw [if_pos hx] at h1 ⊢; omega
    · rw [if_neg hx] at h1 ⊢; omega
end Go.Proofs.Ytibcfmnkpemieaa
