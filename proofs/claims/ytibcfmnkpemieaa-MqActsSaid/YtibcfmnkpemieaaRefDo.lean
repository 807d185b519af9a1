/-
  gradineref11.Do on a list that a cache may hold. No condition but that the slice reads.
-/
import Derived.Test.YtibcfmnkpemieaaRef11
namespace Go.Proofs.Ytibcfmnkpemieaa
open Go.RowKit

theorem wo_rem (L : List Nat) (b : Int) : woL (asInts L) b = asInts (remL L b) := by
  unfold woL asInts remL
  rw [List.filter_map]
  by_cases h : b ∈ asInts L
  · rw [if_pos h]
    obtain ⟨h0, h1⟩ := mem_asInts.1 h
    congr 1
    unfold cutL
    apply List.filter_congr
    intro y _
    simp
    omega
  · rw [if_neg h]
    congr 1
    rw [List.filter_eq_self]
    intro y hy
    simp
    rintro rfl
    exact h (mem_asInts.2 ⟨by omega, by simpa using hy⟩)
theorem use_eq {L : List Nat} {b : Int} (h : b ∈ asInts L) : asInts (useL L b) = b :: asInts (remL L b) := by
  unfold useL remL
  rw [if_pos h, if_pos h]
  have := (mem_asInts.1 h).1
  unfold topL cutL asInts
  rw [List.map_cons]
  congr 1; omega

theorem rem_len (L : List Nat) (b : Int) : (remL L b).length ≤ L.length := by
  unfold remL
  split
  · exact List.length_filter_le _ _
  · exact Nat.le_refl _
theorem fill5 {w : World} {p : Nat} (h : w.heap[p]? = some (.cells #[.slice none 0 0, .int .i64 0, .bool false, .bool false, .int .i64 0] 67 (0, 0))) (v0 v1 v2 v3 v4 : Value) :
    (((((w.setCell ⟨p, 0, none⟩ v0).setCell ⟨p, 1, none⟩ v1).setCell ⟨p, 2, none⟩ v2).setCell ⟨p, 3, none⟩ v3).setCell ⟨p, 4, none⟩ v4).heap[p]? = some (.cells #[v0, v1, v2, v3, v4] 67 (0, 0)) :=
  heap_set (heap_set (heap_set (heap_set (heap_set h _) _) _) _) _
theorem went_info : (Try.prog.info? 67).map (·.size) = some 5 := by kernel_rfl
/-! ### the ways through it -/
section
variable (v : Value) (L : List Nat) (cap : Nat) (kd b : Int) (w : World) (h : RdI .i64 w v (asInts L)) (hf : L.length ≤ 64) (r : Bool) (hr : decide (b ∈ asInts L) = r)
include h hf hr
set_option maxHeartbeats 1000000
theorem refdo2 (hk : (kd == 2) = true) : Calls Try.prog 33 #[v, .int .i64 cap, .agg #[.int .i64 kd, .int .i64 b]] w fun e w' => ∃ v', e = .returned (.agg #[v', .int .i64 (0), .bool (false), .bool r, .int .i64 (0)]) ∧ RdI .i64 w' v' (asInts (remL L b)) ∧ (∀ g, v'.ownBlock = some g → (w.heap.size ≤ g ∧ g < w'.heap.size) ∨ v.ownBlock = some g) ∧ Ext w w' := by
  obtain ⟨a, c, rfl, hc, hm, hn, hs⟩ := h.parts
  obtain ⟨n, hnn⟩ : ∃ n, n = (asInts L).length := ⟨_, rfl⟩
  have hfit : Fits (asInts L).length := fits_small (by rw [asInts_length]; omega)
  have hn64 : (n : Int) ≤ 64 := by rw [hnn, asInts_length]; omega
  rw [← hnn] at h
  rw [← hnn]
  clear hc hm hn hs hnn
  go_enter Try.func33, Try.ntmps33
  go_wp2_with fail
  refine (has_any _ (asInts L) b _ (h.ext (by repeat' (first | (with_reducible exact Ext.refl _) | (with_reducible assumption) | (with_reducible refine Ext.alloc ?_ _) | (with_reducible refine Ext.drewN ?_ _) | (with_reducible refine Ext.drew ?_) | (with_reducible refine Ext.trans ?_ (by assumption)))))).mono ?_
  rintro e w1 ⟨rfl, hx1⟩
  rw [hr]
  have g1 := hx1.size
  simp only [World.alloc, Array.size_push] at g1
  have hX2 : Ext w (w1.alloc (.cells #[.slice a n c, .int .i64 0, .bool false, .bool r, .int .i64 0] 67 (0, 0))) := (by repeat' (first | (with_reducible exact Ext.refl _) | (with_reducible assumption) | (with_reducible refine Ext.alloc ?_ _) | (with_reducible refine Ext.drewN ?_ _) | (with_reducible refine Ext.drew ?_) | (with_reducible refine Ext.trans ?_ (by assumption))))
  have k0 := cell_old (.cells #[.slice a n c, .int .i64 0, .bool false, .bool r, .int .i64 0] 67 (0, 0)) (hx1.cellv (cell_old _ (cell_new w #[.int .i64 kd, .int .i64 b] 61 (0, 0) (j := 0) rfl)))
  have k1 := cell_old (.cells #[.slice a n c, .int .i64 0, .bool false, .bool r, .int .i64 0] 67 (0, 0)) (hx1.cellv (cell_old _ (cell_new w #[.int .i64 kd, .int .i64 b] 61 (0, 0) (j := 1) rfl)))
  have H6 : (w1.alloc (.cells #[.slice a n c, .int .i64 0, .bool false, .bool r, .int .i64 0] 67 (0, 0))).heap[w.heap.size + 1]? = some (.cells #[.slice none 0 0, .int .i64 0, .bool false, .bool false, .int .i64 0] 67 (0, 0)) := by
    rw [Below.heap_alloc _ _ _ (by omega), Below.block hx1 _ (by simp)]
    have := heap_alloc_new (w.alloc (.cells #[.int .i64 kd, .int .i64 b] 61 (0, 0))) (.cells #[.slice none 0 0, .int .i64 0, .bool false, .bool false, .int .i64 0] 67 (0, 0))
    simpa using this
  have H7 := heap_alloc_new w1 (.cells #[.slice a n c, .int .i64 0, .bool false, .bool r, .int .i64 0] 67 (0, 0))
  have h1 := h.ext hX2
  go_wp2_with fail
  generalize (w1.alloc (.cells #[.slice a n c, .int .i64 0, .bool false, .bool r, .int .i64 0] 67 (0, 0))) = w2 at *
  obtain ⟨p7, hp7⟩ : ∃ p, p = w1.heap.size := ⟨_, rfl⟩
  obtain ⟨p6, hp6⟩ : ∃ p, p = w.heap.size + 1 := ⟨_, rfl⟩
  obtain ⟨p5, hp5⟩ : ∃ p, p = w.heap.size := ⟨_, rfl⟩
  rw [← hp7] at H7 ⊢
  rw [← hp6] at H6 ⊢
  rw [← hp5] at k0 k1 ⊢
  have n67 : p6 ≠ p7 := by omega
  have n56 : p5 ≠ p6 := by omega
  have n57 : p5 ≠ p7 := by omega
  have hS : ∀ s ∈ [p6, p7], w.heap.size ≤ s := by simp; omega
  clear hp5 hp6 hp7 g1 hx1 w1
  refine (without_any _ (asInts L) b _ h1 hfit).mono ?_
  rintro e w3 ⟨v3, rfl, ho3, hx3⟩
  rw [wo_rem] at ho3
  have hX3 : Ext w w3 := (by repeat' (first | (with_reducible exact Ext.refl _) | (with_reducible assumption) | (with_reducible refine Ext.alloc ?_ _) | (with_reducible refine Ext.drewN ?_ _) | (with_reducible refine Ext.drew ?_) | (with_reducible refine Ext.trans ?_ (by assumption))))
  have hr3 := ho3.rd
  have k0 := hx3.cellv k0
  have k1 := hx3.cellv k1
  have hp6 := (Array.getElem?_eq_some_iff.1 H6).1
  have hp7 := (Array.getElem?_eq_some_iff.1 H7).1
  have H6 := (Below.block hx3 _ hp6).trans H6
  have H7 := (Below.block hx3 _ hp7).trans H7
  have m0 := cell_of_row w3 p7 0 _ _ _ H7
  have m1 := cell_of_row w3 p7 1 _ _ _ H7
  have m2 := cell_of_row w3 p7 2 _ _ _ H7
  have m3 := cell_of_row w3 p7 3 _ _ _ H7
  have m4 := cell_of_row w3 p7 4 _ _ _ H7
  have l0 := cell_of_row w3 p6 0 _ _ _ H6
  have l1 := cell_of_row w3 p6 1 _ _ _ H6
  have l2 := cell_of_row w3 p6 2 _ _ _ H6
  have l3 := cell_of_row w3 p6 3 _ _ _ H6
  have l4 := cell_of_row w3 p6 4 _ _ _ H6
  have fr6 := frozen_row H6
  have fr7 := frozen_row H7
  simp only [List.getElem?_toArray, List.getElem?_cons_zero, List.getElem?_cons_succ] at m0 m1 m2 m3 m4 l0 l1 l2 l3 l4
  have hw2 : w.heap.size ≤ w2.heap.size := hX2.size
  have HH6 := Lib.hid H6
  have HH7 := Lib.hid H7
  have hlt : ∀ s ∈ [p6, p7], s < w2.heap.size := by simp; exact ⟨hp6, hp7⟩
  clear hp6 hp7 hX2 H6 H7 h1
  obtain ⟨a3, c3, rfl, hc3, hm3, hn3, hs3⟩ := hr3.parts
  clear hc3 hm3 hn3 hs3
  go_wp2_with fail
  (try simp only [Exit.inBlock, Exit.then])
  refine bodyPost_ret (results_cell_row rfl _ _ p6 _ _ _ _ rfl (fill5 (by repeat' (first | exact HH6.out | refine (Below.heap_setCell _ _ _ _ n67).trans ?_)) _ _ _ _ _) Try.underlying67 rfl went_info) rfl ?_
  refine ⟨_, rfl, ?_, ?_, Ext.chg hX3 (S := [p6, p7]) (by repeat' (first | (with_reducible exact Chg.refl _ _) | (with_reducible assumption) | (with_reducible refine Chg.drewN ?_ _) | (with_reducible refine Chg.drew ?_) | (with_reducible refine Chg.alloc ?_ _) | (with_reducible refine Chg.setCell ?_ (.inl (by simp)) _) | (with_reducible refine Chg.trans ?_ (by assumption)) | (with_reducible refine Chg.ext ?_ (by assumption)))) hS⟩
  · exact (ho3.chg (S := [p6, p7]) (by repeat' (first | (with_reducible exact Chg.refl _ _) | (with_reducible assumption) | (with_reducible refine Chg.drewN ?_ _) | (with_reducible refine Chg.drew ?_) | (with_reducible refine Chg.alloc ?_ _) | (with_reducible refine Chg.setCell ?_ (.inl (by simp)) _) | (with_reducible refine Chg.trans ?_ (by assumption)) | (with_reducible refine Chg.ext ?_ (by assumption)))) hlt).rd
  · exact fun g hg => .inl ⟨Nat.le_trans hw2 (ho3.lt g hg).1, Nat.lt_of_lt_of_le (ho3.lt g hg).2 (Chg.size (S := [p6, p7]) (by repeat' (first | (with_reducible exact Chg.refl _ _) | (with_reducible assumption) | (with_reducible refine Chg.drewN ?_ _) | (with_reducible refine Chg.drew ?_) | (with_reducible refine Chg.alloc ?_ _) | (with_reducible refine Chg.setCell ?_ (.inl (by simp)) _) | (with_reducible refine Chg.trans ?_ (by assumption)) | (with_reducible refine Chg.ext ?_ (by assumption)))))⟩
theorem refdo_was (hk : (kd == 2) = false) (ht : r = true) : Calls Try.prog 33 #[v, .int .i64 cap, .agg #[.int .i64 kd, .int .i64 b]] w fun e w' => ∃ v', e = .returned (.agg #[v', .int .i64 (0), .bool (false), .bool r, .int .i64 (0)]) ∧ RdI .i64 w' v' (asInts (useL L b)) ∧ (∀ g, v'.ownBlock = some g → (w.heap.size ≤ g ∧ g < w'.heap.size) ∨ v.ownBlock = some g) ∧ Ext w w' := by
  subst ht
  have huse := use_eq (of_decide_eq_true hr)
  rw [huse]
  clear huse
  obtain ⟨a, c, rfl, hc, hm, hn, hs⟩ := h.parts
  obtain ⟨n, hnn⟩ : ∃ n, n = (asInts L).length := ⟨_, rfl⟩
  have hfit : Fits (asInts L).length := fits_small (by rw [asInts_length]; omega)
  have hn64 : (n : Int) ≤ 64 := by rw [hnn, asInts_length]; omega
  rw [← hnn] at h
  rw [← hnn]
  clear hc hm hn hs hnn
  go_enter Try.func33, Try.ntmps33
  go_wp2_with fail
  refine (has_any _ (asInts L) b _ (h.ext (by repeat' (first | (with_reducible exact Ext.refl _) | (with_reducible assumption) | (with_reducible refine Ext.alloc ?_ _) | (with_reducible refine Ext.drewN ?_ _) | (with_reducible refine Ext.drew ?_) | (with_reducible refine Ext.trans ?_ (by assumption)))))).mono ?_
  rintro e w1 ⟨rfl, hx1⟩
  rw [hr]
  have g1 := hx1.size
  simp only [World.alloc, Array.size_push] at g1
  have hX2 : Ext w (w1.alloc (.cells #[.slice a n c, .int .i64 0, .bool false, .bool true, .int .i64 0] 67 (0, 0))) := (by repeat' (first | (with_reducible exact Ext.refl _) | (with_reducible assumption) | (with_reducible refine Ext.alloc ?_ _) | (with_reducible refine Ext.drewN ?_ _) | (with_reducible refine Ext.drew ?_) | (with_reducible refine Ext.trans ?_ (by assumption))))
  have k0 := cell_old (.cells #[.slice a n c, .int .i64 0, .bool false, .bool true, .int .i64 0] 67 (0, 0)) (hx1.cellv (cell_old _ (cell_new w #[.int .i64 kd, .int .i64 b] 61 (0, 0) (j := 0) rfl)))
  have k1 := cell_old (.cells #[.slice a n c, .int .i64 0, .bool false, .bool true, .int .i64 0] 67 (0, 0)) (hx1.cellv (cell_old _ (cell_new w #[.int .i64 kd, .int .i64 b] 61 (0, 0) (j := 1) rfl)))
  have H6 : (w1.alloc (.cells #[.slice a n c, .int .i64 0, .bool false, .bool true, .int .i64 0] 67 (0, 0))).heap[w.heap.size + 1]? = some (.cells #[.slice none 0 0, .int .i64 0, .bool false, .bool false, .int .i64 0] 67 (0, 0)) := by
    rw [Below.heap_alloc _ _ _ (by omega), Below.block hx1 _ (by simp)]
    have := heap_alloc_new (w.alloc (.cells #[.int .i64 kd, .int .i64 b] 61 (0, 0))) (.cells #[.slice none 0 0, .int .i64 0, .bool false, .bool false, .int .i64 0] 67 (0, 0))
    simpa using this
  have H7 := heap_alloc_new w1 (.cells #[.slice a n c, .int .i64 0, .bool false, .bool true, .int .i64 0] 67 (0, 0))
  have h1 := h.ext hX2
  go_wp2_with fail
  generalize (w1.alloc (.cells #[.slice a n c, .int .i64 0, .bool false, .bool true, .int .i64 0] 67 (0, 0))) = w2 at *
  obtain ⟨p7, hp7⟩ : ∃ p, p = w1.heap.size := ⟨_, rfl⟩
  obtain ⟨p6, hp6⟩ : ∃ p, p = w.heap.size + 1 := ⟨_, rfl⟩
  obtain ⟨p5, hp5⟩ : ∃ p, p = w.heap.size := ⟨_, rfl⟩
  rw [← hp7] at H7 ⊢
  rw [← hp6] at H6 ⊢
  rw [← hp5] at k0 k1 ⊢
  have n67 : p6 ≠ p7 := by omega
  have n56 : p5 ≠ p6 := by omega
  have n57 : p5 ≠ p7 := by omega
  have hS : ∀ s ∈ [p6, p7], w.heap.size ≤ s := by simp; omega
  clear hp5 hp6 hp7 g1 hx1 w1
  refine (without_any _ (asInts L) b _ h1 hfit).mono ?_
  rintro e w3 ⟨v3, rfl, ho3, hx3⟩
  rw [wo_rem] at ho3
  have hX3 : Ext w w3 := (by repeat' (first | (with_reducible exact Ext.refl _) | (with_reducible assumption) | (with_reducible refine Ext.alloc ?_ _) | (with_reducible refine Ext.drewN ?_ _) | (with_reducible refine Ext.drew ?_) | (with_reducible refine Ext.trans ?_ (by assumption))))
  have hr3 := ho3.rd
  have k0 := hx3.cellv k0
  have k1 := hx3.cellv k1
  have hp6 := (Array.getElem?_eq_some_iff.1 H6).1
  have hp7 := (Array.getElem?_eq_some_iff.1 H7).1
  have H6 := (Below.block hx3 _ hp6).trans H6
  have H7 := (Below.block hx3 _ hp7).trans H7
  have m0 := cell_of_row w3 p7 0 _ _ _ H7
  have m1 := cell_of_row w3 p7 1 _ _ _ H7
  have m2 := cell_of_row w3 p7 2 _ _ _ H7
  have m3 := cell_of_row w3 p7 3 _ _ _ H7
  have m4 := cell_of_row w3 p7 4 _ _ _ H7
  have l0 := cell_of_row w3 p6 0 _ _ _ H6
  have l1 := cell_of_row w3 p6 1 _ _ _ H6
  have l2 := cell_of_row w3 p6 2 _ _ _ H6
  have l3 := cell_of_row w3 p6 3 _ _ _ H6
  have l4 := cell_of_row w3 p6 4 _ _ _ H6
  have fr6 := frozen_row H6
  have fr7 := frozen_row H7
  simp only [List.getElem?_toArray, List.getElem?_cons_zero, List.getElem?_cons_succ] at m0 m1 m2 m3 m4 l0 l1 l2 l3 l4
  have hw2 : w.heap.size ≤ w2.heap.size := hX2.size
  have HH6 := Lib.hid H6
  have HH7 := Lib.hid H7
  have hlt : ∀ s ∈ [p6, p7], s < w2.heap.size := by simp; exact ⟨hp6, hp7⟩
  clear hp6 hp7 hX2 H6 H7 h1
  obtain ⟨a3, c3, rfl, hc3, hm3, hn3, hs3⟩ := hr3.parts
  clear hc3 hm3 hn3 hs3
  go_wp2_with fail
  refine (refahead_any _ (asInts (remL L b)) b _ hr3 (fits_small (by rw [asInts_length]; exact Nat.succ_le_of_lt (Nat.lt_of_le_of_lt (rem_len L b) (by omega))))).mono ?_
  rintro e w4 ⟨v4, rfl, ho4, hx4⟩
  have hX4 : Ext w w4 := hX3.trans hx4
  have hr4 := ho4.rd
  obtain ⟨a4, c4, rfl, hc4, hm4, hn4, hs4⟩ := hr4.parts
  have k0 := hx4.cellv k0
  have k1 := hx4.cellv k1
  have m0 := hx4.cellv m0
  have m1 := hx4.cellv m1
  have m2 := hx4.cellv m2
  have m3 := hx4.cellv m3
  have m4 := hx4.cellv m4
  have l0 := hx4.cellv l0
  have l1 := hx4.cellv l1
  have l2 := hx4.cellv l2
  have l3 := hx4.cellv l3
  have l4 := hx4.cellv l4
  have g3 := hx3.size
  have hw3 : w.heap.size ≤ w3.heap.size := hX3.size
  have hlt3 : ∀ s ∈ [p6, p7], s < w3.heap.size := fun s hs => Nat.lt_of_lt_of_le (hlt s hs) g3
  have H6 := (Below.block hx4 _ (hlt3 p6 (by simp))).trans HH6.out
  have H7 := (Below.block hx4 _ (hlt3 p7 (by simp))).trans HH7.out
  have fr6 := frozen_row H6
  have fr7 := frozen_row H7
  have HH6 := Lib.hid H6
  clear H6 H7 hx4 hX3 g3 hx3
  clear hc4 hm4 hn4 hs4
  go_wp2_with fail
  (try simp only [Exit.inBlock, Exit.then])
  refine bodyPost_ret (results_cell_row rfl _ _ p6 _ _ _ _ rfl (fill5 (by repeat' (first | exact HH6.out | refine (Below.heap_setCell _ _ _ _ n67).trans ?_)) _ _ _ _ _) Try.underlying67 rfl went_info) rfl ?_
  refine ⟨_, rfl, ?_, ?_, Ext.chg hX4 (S := [p6, p7]) (by repeat' (first | (with_reducible exact Chg.refl _ _) | (with_reducible assumption) | (with_reducible refine Chg.drewN ?_ _) | (with_reducible refine Chg.drew ?_) | (with_reducible refine Chg.alloc ?_ _) | (with_reducible refine Chg.setCell ?_ (.inl (by simp)) _) | (with_reducible refine Chg.trans ?_ (by assumption)) | (with_reducible refine Chg.ext ?_ (by assumption)))) hS⟩
  · exact (ho4.chg (S := [p6, p7]) (by repeat' (first | (with_reducible exact Chg.refl _ _) | (with_reducible assumption) | (with_reducible refine Chg.drewN ?_ _) | (with_reducible refine Chg.drew ?_) | (with_reducible refine Chg.alloc ?_ _) | (with_reducible refine Chg.setCell ?_ (.inl (by simp)) _) | (with_reducible refine Chg.trans ?_ (by assumption)) | (with_reducible refine Chg.ext ?_ (by assumption)))) hlt3).rd
  · exact fun g hg => .inl ⟨Nat.le_trans hw3 (ho4.lt g hg).1, Nat.lt_of_lt_of_le (ho4.lt g hg).2 (Chg.size (S := [p6, p7]) (by repeat' (first | (with_reducible exact Chg.refl _ _) | (with_reducible assumption) | (with_reducible refine Chg.drewN ?_ _) | (with_reducible refine Chg.drew ?_) | (with_reducible refine Chg.alloc ?_ _) | (with_reducible refine Chg.setCell ?_ (.inl (by simp)) _) | (with_reducible refine Chg.trans ?_ (by assumption)) | (with_reducible refine Chg.ext ?_ (by assumption)))))⟩
theorem refdo_use (hk : (kd == 2) = false) (hk0 : (kd == 0) = true) (ht : r = false) : Calls Try.prog 33 #[v, .int .i64 cap, .agg #[.int .i64 kd, .int .i64 b]] w fun e w' => ∃ v', e = .returned (.agg #[v', .int .i64 (0), .bool (false), .bool r, .int .i64 (0)]) ∧ RdI .i64 w' v' (asInts L) ∧ (∀ g, v'.ownBlock = some g → (w.heap.size ≤ g ∧ g < w'.heap.size) ∨ v.ownBlock = some g) ∧ Ext w w' := by
  subst ht
  obtain ⟨a, c, rfl, hc, hm, hn, hs⟩ := h.parts
  obtain ⟨n, hnn⟩ : ∃ n, n = (asInts L).length := ⟨_, rfl⟩
  have hfit : Fits (asInts L).length := fits_small (by rw [asInts_length]; omega)
  have hn64 : (n : Int) ≤ 64 := by rw [hnn, asInts_length]; omega
  rw [← hnn] at h
  rw [← hnn]
  clear hc hm hn hs hnn
  go_enter Try.func33, Try.ntmps33
  go_wp2_with fail
  refine (has_any _ (asInts L) b _ (h.ext (by repeat' (first | (with_reducible exact Ext.refl _) | (with_reducible assumption) | (with_reducible refine Ext.alloc ?_ _) | (with_reducible refine Ext.drewN ?_ _) | (with_reducible refine Ext.drew ?_) | (with_reducible refine Ext.trans ?_ (by assumption)))))).mono ?_
  rintro e w1 ⟨rfl, hx1⟩
  rw [hr]
  have g1 := hx1.size
  simp only [World.alloc, Array.size_push] at g1
  have hX2 : Ext w (w1.alloc (.cells #[.slice a n c, .int .i64 0, .bool false, .bool false, .int .i64 0] 67 (0, 0))) := (by repeat' (first | (with_reducible exact Ext.refl _) | (with_reducible assumption) | (with_reducible refine Ext.alloc ?_ _) | (with_reducible refine Ext.drewN ?_ _) | (with_reducible refine Ext.drew ?_) | (with_reducible refine Ext.trans ?_ (by assumption))))
  have k0 := cell_old (.cells #[.slice a n c, .int .i64 0, .bool false, .bool false, .int .i64 0] 67 (0, 0)) (hx1.cellv (cell_old _ (cell_new w #[.int .i64 kd, .int .i64 b] 61 (0, 0) (j := 0) rfl)))
  have k1 := cell_old (.cells #[.slice a n c, .int .i64 0, .bool false, .bool false, .int .i64 0] 67 (0, 0)) (hx1.cellv (cell_old _ (cell_new w #[.int .i64 kd, .int .i64 b] 61 (0, 0) (j := 1) rfl)))
  have H6 : (w1.alloc (.cells #[.slice a n c, .int .i64 0, .bool false, .bool false, .int .i64 0] 67 (0, 0))).heap[w.heap.size + 1]? = some (.cells #[.slice none 0 0, .int .i64 0, .bool false, .bool false, .int .i64 0] 67 (0, 0)) := by
    rw [Below.heap_alloc _ _ _ (by omega), Below.block hx1 _ (by simp)]
    have := heap_alloc_new (w.alloc (.cells #[.int .i64 kd, .int .i64 b] 61 (0, 0))) (.cells #[.slice none 0 0, .int .i64 0, .bool false, .bool false, .int .i64 0] 67 (0, 0))
    simpa using this
  have H7 := heap_alloc_new w1 (.cells #[.slice a n c, .int .i64 0, .bool false, .bool false, .int .i64 0] 67 (0, 0))
  have h1 := h.ext hX2
  go_wp2_with fail
  generalize (w1.alloc (.cells #[.slice a n c, .int .i64 0, .bool false, .bool false, .int .i64 0] 67 (0, 0))) = w2 at *
  obtain ⟨p7, hp7⟩ : ∃ p, p = w1.heap.size := ⟨_, rfl⟩
  obtain ⟨p6, hp6⟩ : ∃ p, p = w.heap.size + 1 := ⟨_, rfl⟩
  obtain ⟨p5, hp5⟩ : ∃ p, p = w.heap.size := ⟨_, rfl⟩
  rw [← hp7] at H7 ⊢
  rw [← hp6] at H6 ⊢
  rw [← hp5] at k0 k1 ⊢
  have n67 : p6 ≠ p7 := by omega
  have n56 : p5 ≠ p6 := by omega
  have n57 : p5 ≠ p7 := by omega
  have hS : ∀ s ∈ [p6, p7], w.heap.size ≤ s := by simp; omega
  clear hp5 hp6 hp7 g1 hx1 w1
  refine (without_any _ (asInts L) b _ h1 hfit).mono ?_
  rintro e w3 ⟨v3, rfl, ho3, hx3⟩
  rw [wo_rem] at ho3
  have hX3 : Ext w w3 := (by repeat' (first | (with_reducible exact Ext.refl _) | (with_reducible assumption) | (with_reducible refine Ext.alloc ?_ _) | (with_reducible refine Ext.drewN ?_ _) | (with_reducible refine Ext.drew ?_) | (with_reducible refine Ext.trans ?_ (by assumption))))
  have hr3 := ho3.rd
  have k0 := hx3.cellv k0
  have k1 := hx3.cellv k1
  have hp6 := (Array.getElem?_eq_some_iff.1 H6).1
  have hp7 := (Array.getElem?_eq_some_iff.1 H7).1
  have H6 := (Below.block hx3 _ hp6).trans H6
  have H7 := (Below.block hx3 _ hp7).trans H7
  have m0 := cell_of_row w3 p7 0 _ _ _ H7
  have m1 := cell_of_row w3 p7 1 _ _ _ H7
  have m2 := cell_of_row w3 p7 2 _ _ _ H7
  have m3 := cell_of_row w3 p7 3 _ _ _ H7
  have m4 := cell_of_row w3 p7 4 _ _ _ H7
  have l0 := cell_of_row w3 p6 0 _ _ _ H6
  have l1 := cell_of_row w3 p6 1 _ _ _ H6
  have l2 := cell_of_row w3 p6 2 _ _ _ H6
  have l3 := cell_of_row w3 p6 3 _ _ _ H6
  have l4 := cell_of_row w3 p6 4 _ _ _ H6
  have fr6 := frozen_row H6
  have fr7 := frozen_row H7
  simp only [List.getElem?_toArray, List.getElem?_cons_zero, List.getElem?_cons_succ] at m0 m1 m2 m3 m4 l0 l1 l2 l3 l4
  have hw2 : w.heap.size ≤ w2.heap.size := hX2.size
  have HH6 := Lib.hid H6
  have HH7 := Lib.hid H7
  have hlt : ∀ s ∈ [p6, p7], s < w2.heap.size := by simp; exact ⟨hp6, hp7⟩
  clear hp6 hp7 hX2 H6 H7 h1
  obtain ⟨a3, c3, rfl, hc3, hm3, hn3, hs3⟩ := hr3.parts
  clear hc3 hm3 hn3 hs3
  go_wp2_with fail
  (try simp only [Exit.inBlock, Exit.then])
  refine bodyPost_ret (results_cell_row rfl _ _ p6 _ _ _ _ rfl (fill5 (by repeat' (first | exact HH6.out | refine (Below.heap_setCell _ _ _ _ n67).trans ?_)) _ _ _ _ _) Try.underlying67 rfl went_info) rfl ?_
  refine ⟨_, rfl, ?_, ?_, Ext.chg hX3 (S := [p6, p7]) (by repeat' (first | (with_reducible exact Chg.refl _ _) | (with_reducible assumption) | (with_reducible refine Chg.drewN ?_ _) | (with_reducible refine Chg.drew ?_) | (with_reducible refine Chg.alloc ?_ _) | (with_reducible refine Chg.setCell ?_ (.inl (by simp)) _) | (with_reducible refine Chg.trans ?_ (by assumption)) | (with_reducible refine Chg.ext ?_ (by assumption)))) hS⟩
  · exact h.ext (Ext.chg hX3 (S := [p6, p7]) (by repeat' (first | (with_reducible exact Chg.refl _ _) | (with_reducible assumption) | (with_reducible refine Chg.drewN ?_ _) | (with_reducible refine Chg.drew ?_) | (with_reducible refine Chg.alloc ?_ _) | (with_reducible refine Chg.setCell ?_ (.inl (by simp)) _) | (with_reducible refine Chg.trans ?_ (by assumption)) | (with_reducible refine Chg.ext ?_ (by assumption)))) hS)
  · exact fun g hg => .inr hg
theorem refdo_lo (hk : (kd == 2) = false) (hk0 : (kd == 0) = false) (ht : r = false) (hb : b < 0) : Calls Try.prog 33 #[v, .int .i64 cap, .agg #[.int .i64 kd, .int .i64 b]] w fun e w' => ∃ v', e = .returned (.agg #[v', .int .i64 (0), .bool (false), .bool r, .int .i64 (3)]) ∧ RdI .i64 w' v' (asInts L) ∧ (∀ g, v'.ownBlock = some g → (w.heap.size ≤ g ∧ g < w'.heap.size) ∨ v.ownBlock = some g) ∧ Ext w w' := by
  subst ht
  obtain ⟨a, c, rfl, hc, hm, hn, hs⟩ := h.parts
  obtain ⟨n, hnn⟩ : ∃ n, n = (asInts L).length := ⟨_, rfl⟩
  have hfit : Fits (asInts L).length := fits_small (by rw [asInts_length]; omega)
  have hn64 : (n : Int) ≤ 64 := by rw [hnn, asInts_length]; omega
  rw [← hnn] at h
  rw [← hnn]
  clear hc hm hn hs hnn
  go_enter Try.func33, Try.ntmps33
  go_wp2_with fail
  refine (has_any _ (asInts L) b _ (h.ext (by repeat' (first | (with_reducible exact Ext.refl _) | (with_reducible assumption) | (with_reducible refine Ext.alloc ?_ _) | (with_reducible refine Ext.drewN ?_ _) | (with_reducible refine Ext.drew ?_) | (with_reducible refine Ext.trans ?_ (by assumption)))))).mono ?_
  rintro e w1 ⟨rfl, hx1⟩
  rw [hr]
  have g1 := hx1.size
  simp only [World.alloc, Array.size_push] at g1
  have hX2 : Ext w (w1.alloc (.cells #[.slice a n c, .int .i64 0, .bool false, .bool false, .int .i64 0] 67 (0, 0))) := (by repeat' (first | (with_reducible exact Ext.refl _) | (with_reducible assumption) | (with_reducible refine Ext.alloc ?_ _) | (with_reducible refine Ext.drewN ?_ _) | (with_reducible refine Ext.drew ?_) | (with_reducible refine Ext.trans ?_ (by assumption))))
  have k0 := cell_old (.cells #[.slice a n c, .int .i64 0, .bool false, .bool false, .int .i64 0] 67 (0, 0)) (hx1.cellv (cell_old _ (cell_new w #[.int .i64 kd, .int .i64 b] 61 (0, 0) (j := 0) rfl)))
  have k1 := cell_old (.cells #[.slice a n c, .int .i64 0, .bool false, .bool false, .int .i64 0] 67 (0, 0)) (hx1.cellv (cell_old _ (cell_new w #[.int .i64 kd, .int .i64 b] 61 (0, 0) (j := 1) rfl)))
  have H6 : (w1.alloc (.cells #[.slice a n c, .int .i64 0, .bool false, .bool false, .int .i64 0] 67 (0, 0))).heap[w.heap.size + 1]? = some (.cells #[.slice none 0 0, .int .i64 0, .bool false, .bool false, .int .i64 0] 67 (0, 0)) := by
    rw [Below.heap_alloc _ _ _ (by omega), Below.block hx1 _ (by simp)]
    have := heap_alloc_new (w.alloc (.cells #[.int .i64 kd, .int .i64 b] 61 (0, 0))) (.cells #[.slice none 0 0, .int .i64 0, .bool false, .bool false, .int .i64 0] 67 (0, 0))
    simpa using this
  have H7 := heap_alloc_new w1 (.cells #[.slice a n c, .int .i64 0, .bool false, .bool false, .int .i64 0] 67 (0, 0))
  have h1 := h.ext hX2
  go_wp2_with fail
  generalize (w1.alloc (.cells #[.slice a n c, .int .i64 0, .bool false, .bool false, .int .i64 0] 67 (0, 0))) = w2 at *
  obtain ⟨p7, hp7⟩ : ∃ p, p = w1.heap.size := ⟨_, rfl⟩
  obtain ⟨p6, hp6⟩ : ∃ p, p = w.heap.size + 1 := ⟨_, rfl⟩
  obtain ⟨p5, hp5⟩ : ∃ p, p = w.heap.size := ⟨_, rfl⟩
  rw [← hp7] at H7 ⊢
  rw [← hp6] at H6 ⊢
  rw [← hp5] at k0 k1 ⊢
  have n67 : p6 ≠ p7 := by omega
  have n56 : p5 ≠ p6 := by omega
  have n57 : p5 ≠ p7 := by omega
  have hS : ∀ s ∈ [p6, p7], w.heap.size ≤ s := by simp; omega
  clear hp5 hp6 hp7 g1 hx1 w1
  refine (without_any _ (asInts L) b _ h1 hfit).mono ?_
  rintro e w3 ⟨v3, rfl, ho3, hx3⟩
  rw [wo_rem] at ho3
  have hX3 : Ext w w3 := (by repeat' (first | (with_reducible exact Ext.refl _) | (with_reducible assumption) | (with_reducible refine Ext.alloc ?_ _) | (with_reducible refine Ext.drewN ?_ _) | (with_reducible refine Ext.drew ?_) | (with_reducible refine Ext.trans ?_ (by assumption))))
  have hr3 := ho3.rd
  have k0 := hx3.cellv k0
  have k1 := hx3.cellv k1
  have hp6 := (Array.getElem?_eq_some_iff.1 H6).1
  have hp7 := (Array.getElem?_eq_some_iff.1 H7).1
  have H6 := (Below.block hx3 _ hp6).trans H6
  have H7 := (Below.block hx3 _ hp7).trans H7
  have m0 := cell_of_row w3 p7 0 _ _ _ H7
  have m1 := cell_of_row w3 p7 1 _ _ _ H7
  have m2 := cell_of_row w3 p7 2 _ _ _ H7
  have m3 := cell_of_row w3 p7 3 _ _ _ H7
  have m4 := cell_of_row w3 p7 4 _ _ _ H7
  have l0 := cell_of_row w3 p6 0 _ _ _ H6
  have l1 := cell_of_row w3 p6 1 _ _ _ H6
  have l2 := cell_of_row w3 p6 2 _ _ _ H6
  have l3 := cell_of_row w3 p6 3 _ _ _ H6
  have l4 := cell_of_row w3 p6 4 _ _ _ H6
  have fr6 := frozen_row H6
  have fr7 := frozen_row H7
  simp only [List.getElem?_toArray, List.getElem?_cons_zero, List.getElem?_cons_succ] at m0 m1 m2 m3 m4 l0 l1 l2 l3 l4
  have hw2 : w.heap.size ≤ w2.heap.size := hX2.size
  have HH6 := Lib.hid H6
  have HH7 := Lib.hid H7
  have hlt : ∀ s ∈ [p6, p7], s < w2.heap.size := by simp; exact ⟨hp6, hp7⟩
  clear hp6 hp7 hX2 H6 H7 h1
  obtain ⟨a3, c3, rfl, hc3, hm3, hn3, hs3⟩ := hr3.parts
  clear hc3 hm3 hn3 hs3
  go_wp2_with fail
  (try simp only [Exit.inBlock, Exit.then])
  refine bodyPost_ret (results_cell_row rfl _ _ p6 _ _ _ _ rfl (fill5 (by repeat' (first | exact HH6.out | refine (Below.heap_setCell _ _ _ _ n67).trans ?_)) _ _ _ _ _) Try.underlying67 rfl went_info) rfl ?_
  refine ⟨_, rfl, ?_, ?_, Ext.chg hX3 (S := [p6, p7]) (by repeat' (first | (with_reducible exact Chg.refl _ _) | (with_reducible assumption) | (with_reducible refine Chg.drewN ?_ _) | (with_reducible refine Chg.drew ?_) | (with_reducible refine Chg.alloc ?_ _) | (with_reducible refine Chg.setCell ?_ (.inl (by simp)) _) | (with_reducible refine Chg.trans ?_ (by assumption)) | (with_reducible refine Chg.ext ?_ (by assumption)))) hS⟩
  · exact h.ext (Ext.chg hX3 (S := [p6, p7]) (by repeat' (first | (with_reducible exact Chg.refl _ _) | (with_reducible assumption) | (with_reducible refine Chg.drewN ?_ _) | (with_reducible refine Chg.drew ?_) | (with_reducible refine Chg.alloc ?_ _) | (with_reducible refine Chg.setCell ?_ (.inl (by simp)) _) | (with_reducible refine Chg.trans ?_ (by assumption)) | (with_reducible refine Chg.ext ?_ (by assumption)))) hS)
  · exact fun g hg => .inr hg
theorem refdo_hi (hk : (kd == 2) = false) (hk0 : (kd == 0) = false) (ht : r = false) (hb : 63 < b) : Calls Try.prog 33 #[v, .int .i64 cap, .agg #[.int .i64 kd, .int .i64 b]] w fun e w' => ∃ v', e = .returned (.agg #[v', .int .i64 (0), .bool (false), .bool r, .int .i64 (3)]) ∧ RdI .i64 w' v' (asInts L) ∧ (∀ g, v'.ownBlock = some g → (w.heap.size ≤ g ∧ g < w'.heap.size) ∨ v.ownBlock = some g) ∧ Ext w w' := by
  subst ht
  obtain ⟨a, c, rfl, hc, hm, hn, hs⟩ := h.parts
  obtain ⟨n, hnn⟩ : ∃ n, n = (asInts L).length := ⟨_, rfl⟩
  have hfit : Fits (asInts L).length := fits_small (by rw [asInts_length]; omega)
  have hn64 : (n : Int) ≤ 64 := by rw [hnn, asInts_length]; omega
  rw [← hnn] at h
  rw [← hnn]
  clear hc hm hn hs hnn
  go_enter Try.func33, Try.ntmps33
  go_wp2_with fail
  refine (has_any _ (asInts L) b _ (h.ext (by repeat' (first | (with_reducible exact Ext.refl _) | (with_reducible assumption) | (with_reducible refine Ext.alloc ?_ _) | (with_reducible refine Ext.drewN ?_ _) | (with_reducible refine Ext.drew ?_) | (with_reducible refine Ext.trans ?_ (by assumption)))))).mono ?_
  rintro e w1 ⟨rfl, hx1⟩
  rw [hr]
  have g1 := hx1.size
  simp only [World.alloc, Array.size_push] at g1
  have hX2 : Ext w (w1.alloc (.cells #[.slice a n c, .int .i64 0, .bool false, .bool false, .int .i64 0] 67 (0, 0))) := (by repeat' (first | (with_reducible exact Ext.refl _) | (with_reducible assumption) | (with_reducible refine Ext.alloc ?_ _) | (with_reducible refine Ext.drewN ?_ _) | (with_reducible refine Ext.drew ?_) | (with_reducible refine Ext.trans ?_ (by assumption))))
  have k0 := cell_old (.cells #[.slice a n c, .int .i64 0, .bool false, .bool false, .int .i64 0] 67 (0, 0)) (hx1.cellv (cell_old _ (cell_new w #[.int .i64 kd, .int .i64 b] 61 (0, 0) (j := 0) rfl)))
  have k1 := cell_old (.cells #[.slice a n c, .int .i64 0, .bool false, .bool false, .int .i64 0] 67 (0, 0)) (hx1.cellv (cell_old _ (cell_new w #[.int .i64 kd, .int .i64 b] 61 (0, 0) (j := 1) rfl)))
  have H6 : (w1.alloc (.cells #[.slice a n c, .int .i64 0, .bool false, .bool false, .int .i64 0] 67 (0, 0))).heap[w.heap.size + 1]? = some (.cells #[.slice none 0 0, .int .i64 0, .bool false, .bool false, .int .i64 0] 67 (0, 0)) := by
    rw [Below.heap_alloc _ _ _ (by omega), Below.block hx1 _ (by simp)]
    have := heap_alloc_new (w.alloc (.cells #[.int .i64 kd, .int .i64 b] 61 (0, 0))) (.cells #[.slice none 0 0, .int .i64 0, .bool false, .bool false, .int .i64 0] 67 (0, 0))
    simpa using this
  have H7 := heap_alloc_new w1 (.cells #[.slice a n c, .int .i64 0, .bool false, .bool false, .int .i64 0] 67 (0, 0))
  have h1 := h.ext hX2
  go_wp2_with fail
  generalize (w1.alloc (.cells #[.slice a n c, .int .i64 0, .bool false, .bool false, .int .i64 0] 67 (0, 0))) = w2 at *
  obtain ⟨p7, hp7⟩ : ∃ p, p = w1.heap.size := ⟨_, rfl⟩
  obtain ⟨p6, hp6⟩ : ∃ p, p = w.heap.size + 1 := ⟨_, rfl⟩
  obtain ⟨p5, hp5⟩ : ∃ p, p = w.heap.size := ⟨_, rfl⟩
  rw [← hp7] at H7 ⊢
  rw [← hp6] at H6 ⊢
  rw [← hp5] at k0 k1 ⊢
  have n67 : p6 ≠ p7 := by omega
  have n56 : p5 ≠ p6 := by omega
  have n57 : p5 ≠ p7 := by omega
  have hS : ∀ s ∈ [p6, p7], w.heap.size ≤ s := by simp; omega
  clear hp5 hp6 hp7 g1 hx1 w1
  refine (without_any _ (asInts L) b _ h1 hfit).mono ?_
  rintro e w3 ⟨v3, rfl, ho3, hx3⟩
  rw [wo_rem] at ho3
  have hX3 : Ext w w3 := (by repeat' (first | (with_reducible exact Ext.refl _) | (with_reducible assumption) | (with_reducible refine Ext.alloc ?_ _) | (with_reducible refine Ext.drewN ?_ _) | (with_reducible refine Ext.drew ?_) | (with_reducible refine Ext.trans ?_ (by assumption))))
  have hr3 := ho3.rd
  have k0 := hx3.cellv k0
  have k1 := hx3.cellv k1
  have hp6 := (Array.getElem?_eq_some_iff.1 H6).1
  have hp7 := (Array.getElem?_eq_some_iff.1 H7).1
  have H6 := (Below.block hx3 _ hp6).trans H6
  have H7 := (Below.block hx3 _ hp7).trans H7
  have m0 := cell_of_row w3 p7 0 _ _ _ H7
  have m1 := cell_of_row w3 p7 1 _ _ _ H7
  have m2 := cell_of_row w3 p7 2 _ _ _ H7
  have m3 := cell_of_row w3 p7 3 _ _ _ H7
  have m4 := cell_of_row w3 p7 4 _ _ _ H7
  have l0 := cell_of_row w3 p6 0 _ _ _ H6
  have l1 := cell_of_row w3 p6 1 _ _ _ H6
  have l2 := cell_of_row w3 p6 2 _ _ _ H6
  have l3 := cell_of_row w3 p6 3 _ _ _ H6
  have l4 := cell_of_row w3 p6 4 _ _ _ H6
  have fr6 := frozen_row H6
  have fr7 := frozen_row H7
  simp only [List.getElem?_toArray, List.getElem?_cons_zero, List.getElem?_cons_succ] at m0 m1 m2 m3 m4 l0 l1 l2 l3 l4
  have hw2 : w.heap.size ≤ w2.heap.size := hX2.size
  have HH6 := Lib.hid H6
  have HH7 := Lib.hid H7
  have hlt : ∀ s ∈ [p6, p7], s < w2.heap.size := by simp; exact ⟨hp6, hp7⟩
  clear hp6 hp7 hX2 H6 H7 h1
  obtain ⟨a3, c3, rfl, hc3, hm3, hn3, hs3⟩ := hr3.parts
  clear hc3 hm3 hn3 hs3
  go_wp2_with fail
  (try simp only [Exit.inBlock, Exit.then])
  refine bodyPost_ret (results_cell_row rfl _ _ p6 _ _ _ _ rfl (fill5 (by repeat' (first | exact HH6.out | refine (Below.heap_setCell _ _ _ _ n67).trans ?_)) _ _ _ _ _) Try.underlying67 rfl went_info) rfl ?_
  refine ⟨_, rfl, ?_, ?_, Ext.chg hX3 (S := [p6, p7]) (by repeat' (first | (with_reducible exact Chg.refl _ _) | (with_reducible assumption) | (with_reducible refine Chg.drewN ?_ _) | (with_reducible refine Chg.drew ?_) | (with_reducible refine Chg.alloc ?_ _) | (with_reducible refine Chg.setCell ?_ (.inl (by simp)) _) | (with_reducible refine Chg.trans ?_ (by assumption)) | (with_reducible refine Chg.ext ?_ (by assumption)))) hS⟩
  · exact h.ext (Ext.chg hX3 (S := [p6, p7]) (by repeat' (first | (with_reducible exact Chg.refl _ _) | (with_reducible assumption) | (with_reducible refine Chg.drewN ?_ _) | (with_reducible refine Chg.drew ?_) | (with_reducible refine Chg.alloc ?_ _) | (with_reducible refine Chg.setCell ?_ (.inl (by simp)) _) | (with_reducible refine Chg.trans ?_ (by assumption)) | (with_reducible refine Chg.ext ?_ (by assumption)))) hS)
  · exact fun g hg => .inr hg
theorem refdo_new (hk : (kd == 2) = false) (hk0 : (kd == 0) = false) (ht : r = false) (hb0 : 0 ≤ b) (hb1 : b ≤ 63) (hcap : L.length + 1 ≤ cap) : Calls Try.prog 33 #[v, .int .i64 cap, .agg #[.int .i64 kd, .int .i64 b]] w fun e w' => ∃ v', e = .returned (.agg #[v', .int .i64 (0), .bool (false), .bool r, .int .i64 (0)]) ∧ RdI .i64 w' v' (b :: asInts L) ∧ (∀ g, v'.ownBlock = some g → (w.heap.size ≤ g ∧ g < w'.heap.size) ∨ v.ownBlock = some g) ∧ Ext w w' := by
  subst ht
  obtain ⟨a, c, rfl, hc, hm, hn, hs⟩ := h.parts
  obtain ⟨n, hnn⟩ : ∃ n, n = (asInts L).length := ⟨_, rfl⟩
  have hfit : Fits (asInts L).length := fits_small (by rw [asInts_length]; omega)
  have hn64 : (n : Int) ≤ 64 := by rw [hnn, asInts_length]; omega
  rw [← hnn] at h
  rw [← hnn]
  clear hc hm hn hs hnn
  go_enter Try.func33, Try.ntmps33
  go_wp2_with fail
  refine (has_any _ (asInts L) b _ (h.ext (by repeat' (first | (with_reducible exact Ext.refl _) | (with_reducible assumption) | (with_reducible refine Ext.alloc ?_ _) | (with_reducible refine Ext.drewN ?_ _) | (with_reducible refine Ext.drew ?_) | (with_reducible refine Ext.trans ?_ (by assumption)))))).mono ?_
  rintro e w1 ⟨rfl, hx1⟩
  rw [hr]
  have g1 := hx1.size
  simp only [World.alloc, Array.size_push] at g1
  have hX2 : Ext w (w1.alloc (.cells #[.slice a n c, .int .i64 0, .bool false, .bool false, .int .i64 0] 67 (0, 0))) := (by repeat' (first | (with_reducible exact Ext.refl _) | (with_reducible assumption) | (with_reducible refine Ext.alloc ?_ _) | (with_reducible refine Ext.drewN ?_ _) | (with_reducible refine Ext.drew ?_) | (with_reducible refine Ext.trans ?_ (by assumption))))
  have k0 := cell_old (.cells #[.slice a n c, .int .i64 0, .bool false, .bool false, .int .i64 0] 67 (0, 0)) (hx1.cellv (cell_old _ (cell_new w #[.int .i64 kd, .int .i64 b] 61 (0, 0) (j := 0) rfl)))
  have k1 := cell_old (.cells #[.slice a n c, .int .i64 0, .bool false, .bool false, .int .i64 0] 67 (0, 0)) (hx1.cellv (cell_old _ (cell_new w #[.int .i64 kd, .int .i64 b] 61 (0, 0) (j := 1) rfl)))
  have H6 : (w1.alloc (.cells #[.slice a n c, .int .i64 0, .bool false, .bool false, .int .i64 0] 67 (0, 0))).heap[w.heap.size + 1]? = some (.cells #[.slice none 0 0, .int .i64 0, .bool false, .bool false, .int .i64 0] 67 (0, 0)) := by
    rw [Below.heap_alloc _ _ _ (by omega), Below.block hx1 _ (by simp)]
    have := heap_alloc_new (w.alloc (.cells #[.int .i64 kd, .int .i64 b] 61 (0, 0))) (.cells #[.slice none 0 0, .int .i64 0, .bool false, .bool false, .int .i64 0] 67 (0, 0))
    simpa using this
  have H7 := heap_alloc_new w1 (.cells #[.slice a n c, .int .i64 0, .bool false, .bool false, .int .i64 0] 67 (0, 0))
  have h1 := h.ext hX2
  go_wp2_with fail
  generalize (w1.alloc (.cells #[.slice a n c, .int .i64 0, .bool false, .bool false, .int .i64 0] 67 (0, 0))) = w2 at *
  obtain ⟨p7, hp7⟩ : ∃ p, p = w1.heap.size := ⟨_, rfl⟩
  obtain ⟨p6, hp6⟩ : ∃ p, p = w.heap.size + 1 := ⟨_, rfl⟩
  obtain ⟨p5, hp5⟩ : ∃ p, p = w.heap.size := ⟨_, rfl⟩
  rw [← hp7] at H7 ⊢
  rw [← hp6] at H6 ⊢
  rw [← hp5] at k0 k1 ⊢
  have n67 : p6 ≠ p7 := by omega
  have n56 : p5 ≠ p6 := by omega
  have n57 : p5 ≠ p7 := by omega
  have hS : ∀ s ∈ [p6, p7], w.heap.size ≤ s := by simp; omega
  clear hp5 hp6 hp7 g1 hx1 w1
  refine (without_any _ (asInts L) b _ h1 hfit).mono ?_
  rintro e w3 ⟨v3, rfl, ho3, hx3⟩
  rw [wo_rem] at ho3
  have hX3 : Ext w w3 := (by repeat' (first | (with_reducible exact Ext.refl _) | (with_reducible assumption) | (with_reducible refine Ext.alloc ?_ _) | (with_reducible refine Ext.drewN ?_ _) | (with_reducible refine Ext.drew ?_) | (with_reducible refine Ext.trans ?_ (by assumption))))
  have hr3 := ho3.rd
  have k0 := hx3.cellv k0
  have k1 := hx3.cellv k1
  have hp6 := (Array.getElem?_eq_some_iff.1 H6).1
  have hp7 := (Array.getElem?_eq_some_iff.1 H7).1
  have H6 := (Below.block hx3 _ hp6).trans H6
  have H7 := (Below.block hx3 _ hp7).trans H7
  have m0 := cell_of_row w3 p7 0 _ _ _ H7
  have m1 := cell_of_row w3 p7 1 _ _ _ H7
  have m2 := cell_of_row w3 p7 2 _ _ _ H7
  have m3 := cell_of_row w3 p7 3 _ _ _ H7
  have m4 := cell_of_row w3 p7 4 _ _ _ H7
  have l0 := cell_of_row w3 p6 0 _ _ _ H6
  have l1 := cell_of_row w3 p6 1 _ _ _ H6
  have l2 := cell_of_row w3 p6 2 _ _ _ H6
  have l3 := cell_of_row w3 p6 3 _ _ _ H6
  have l4 := cell_of_row w3 p6 4 _ _ _ H6
  have fr6 := frozen_row H6
  have fr7 := frozen_row H7
  simp only [List.getElem?_toArray, List.getElem?_cons_zero, List.getElem?_cons_succ] at m0 m1 m2 m3 m4 l0 l1 l2 l3 l4
  have hw2 : w.heap.size ≤ w2.heap.size := hX2.size
  have HH6 := Lib.hid H6
  have HH7 := Lib.hid H7
  have hlt : ∀ s ∈ [p6, p7], s < w2.heap.size := by simp; exact ⟨hp6, hp7⟩
  clear hp6 hp7 hX2 H6 H7 h1
  obtain ⟨a3, c3, rfl, hc3, hm3, hn3, hs3⟩ := hr3.parts
  clear hc3 hm3 hn3 hs3
  go_wp2_with fail
  refine (refahead_any _ (asInts L) b _ (h.ext hX3) (fits_small (by rw [asInts_length]; omega))).mono ?_
  rintro e w4 ⟨v4, rfl, ho4, hx4⟩
  have hX4 : Ext w w4 := hX3.trans hx4
  have hr4 := ho4.rd
  obtain ⟨a4, c4, rfl, hc4, hm4, hn4, hs4⟩ := hr4.parts
  have k0 := hx4.cellv k0
  have k1 := hx4.cellv k1
  have m0 := hx4.cellv m0
  have m1 := hx4.cellv m1
  have m2 := hx4.cellv m2
  have m3 := hx4.cellv m3
  have m4 := hx4.cellv m4
  have l0 := hx4.cellv l0
  have l1 := hx4.cellv l1
  have l2 := hx4.cellv l2
  have l3 := hx4.cellv l3
  have l4 := hx4.cellv l4
  have g3 := hx3.size
  have hw3 : w.heap.size ≤ w3.heap.size := hX3.size
  have hlt3 : ∀ s ∈ [p6, p7], s < w3.heap.size := fun s hs => Nat.lt_of_lt_of_le (hlt s hs) g3
  have H6 := (Below.block hx4 _ (hlt3 p6 (by simp))).trans HH6.out
  have H7 := (Below.block hx4 _ (hlt3 p7 (by simp))).trans HH7.out
  have fr6 := frozen_row H6
  have fr7 := frozen_row H7
  have HH6 := Lib.hid H6
  clear H6 H7 hx4 hX3 g3 hx3
  have hq : ((b :: asInts L).length : Int) ≤ (cap : Int) := by rw [List.length_cons, asInts_length]; omega
  clear hc4 hm4 hn4 hs4 hr4
  obtain ⟨m, hm⟩ : ∃ m, m = (b :: asInts L).length := ⟨_, rfl⟩
  rw [← hm] at ho4 hq ⊢
  clear hm
  go_wp2_with fail
  (try simp only [Exit.inBlock, Exit.then])
  refine bodyPost_ret (results_cell_row rfl _ _ p6 _ _ _ _ rfl (fill5 (by repeat' (first | exact HH6.out | refine (Below.heap_setCell _ _ _ _ n67).trans ?_)) _ _ _ _ _) Try.underlying67 rfl went_info) rfl ?_
  refine ⟨_, rfl, ?_, ?_, Ext.chg hX4 (S := [p6, p7]) (by repeat' (first | (with_reducible exact Chg.refl _ _) | (with_reducible assumption) | (with_reducible refine Chg.drewN ?_ _) | (with_reducible refine Chg.drew ?_) | (with_reducible refine Chg.alloc ?_ _) | (with_reducible refine Chg.setCell ?_ (.inl (by simp)) _) | (with_reducible refine Chg.trans ?_ (by assumption)) | (with_reducible refine Chg.ext ?_ (by assumption)))) hS⟩
  · exact (ho4.chg (S := [p6, p7]) (by repeat' (first | (with_reducible exact Chg.refl _ _) | (with_reducible assumption) | (with_reducible refine Chg.drewN ?_ _) | (with_reducible refine Chg.drew ?_) | (with_reducible refine Chg.alloc ?_ _) | (with_reducible refine Chg.setCell ?_ (.inl (by simp)) _) | (with_reducible refine Chg.trans ?_ (by assumption)) | (with_reducible refine Chg.ext ?_ (by assumption)))) hlt3).rd
  · exact fun g hg => .inl ⟨Nat.le_trans hw3 (ho4.lt g hg).1, Nat.lt_of_lt_of_le (ho4.lt g hg).2 (Chg.size (S := [p6, p7]) (by repeat' (first | (with_reducible exact Chg.refl _ _) | (with_reducible assumption) | (with_reducible refine Chg.drewN ?_ _) | (with_reducible refine Chg.drew ?_) | (with_reducible refine Chg.alloc ?_ _) | (with_reducible refine Chg.setCell ?_ (.inl (by simp)) _) | (with_reducible refine Chg.trans ?_ (by assumption)) | (with_reducible refine Chg.ext ?_ (by assumption)))))⟩
theorem refdo_over (hk : (kd == 2) = false) (hk0 : (kd == 0) = false) (ht : r = false) (hb0 : 0 ≤ b) (hb1 : b ≤ 63) (hcap : cap < L.length + 1) (k : Nat) (hkl : k = L.length) (z : Int) (hz : z = (b :: asInts L).getD k 0) : Calls Try.prog 33 #[v, .int .i64 cap, .agg #[.int .i64 kd, .int .i64 b]] w fun e w' => ∃ v', e = .returned (.agg #[v', .int .i64 (z), .bool (true), .bool r, .int .i64 (0)]) ∧ RdI .i64 w' v' ((b :: asInts L).take k) ∧ (∀ g, v'.ownBlock = some g → (w.heap.size ≤ g ∧ g < w'.heap.size) ∨ v.ownBlock = some g) ∧ Ext w w' := by
  subst ht
  have HZ := Lib.hid hz
  have HK := Lib.hid hkl
  clear hz hkl
  obtain ⟨a, c, rfl, hc, hm, hn, hs⟩ := h.parts
  obtain ⟨n, hnn⟩ : ∃ n, n = (asInts L).length := ⟨_, rfl⟩
  have hfit : Fits (asInts L).length := fits_small (by rw [asInts_length]; omega)
  have hn64 : (n : Int) ≤ 64 := by rw [hnn, asInts_length]; omega
  rw [← hnn] at h
  rw [← hnn]
  clear hc hm hn hs hnn
  go_enter Try.func33, Try.ntmps33
  go_wp2_with fail
  refine (has_any _ (asInts L) b _ (h.ext (by repeat' (first | (with_reducible exact Ext.refl _) | (with_reducible assumption) | (with_reducible refine Ext.alloc ?_ _) | (with_reducible refine Ext.drewN ?_ _) | (with_reducible refine Ext.drew ?_) | (with_reducible refine Ext.trans ?_ (by assumption)))))).mono ?_
  rintro e w1 ⟨rfl, hx1⟩
  rw [hr]
  have g1 := hx1.size
  simp only [World.alloc, Array.size_push] at g1
  have hX2 : Ext w (w1.alloc (.cells #[.slice a n c, .int .i64 0, .bool false, .bool false, .int .i64 0] 67 (0, 0))) := (by repeat' (first | (with_reducible exact Ext.refl _) | (with_reducible assumption) | (with_reducible refine Ext.alloc ?_ _) | (with_reducible refine Ext.drewN ?_ _) | (with_reducible refine Ext.drew ?_) | (with_reducible refine Ext.trans ?_ (by assumption))))
  have k0 := cell_old (.cells #[.slice a n c, .int .i64 0, .bool false, .bool false, .int .i64 0] 67 (0, 0)) (hx1.cellv (cell_old _ (cell_new w #[.int .i64 kd, .int .i64 b] 61 (0, 0) (j := 0) rfl)))
  have k1 := cell_old (.cells #[.slice a n c, .int .i64 0, .bool false, .bool false, .int .i64 0] 67 (0, 0)) (hx1.cellv (cell_old _ (cell_new w #[.int .i64 kd, .int .i64 b] 61 (0, 0) (j := 1) rfl)))
  have H6 : (w1.alloc (.cells #[.slice a n c, .int .i64 0, .bool false, .bool false, .int .i64 0] 67 (0, 0))).heap[w.heap.size + 1]? = some (.cells #[.slice none 0 0, .int .i64 0, .bool false, .bool false, .int .i64 0] 67 (0, 0)) := by
    rw [Below.heap_alloc _ _ _ (by omega), Below.block hx1 _ (by simp)]
    have := heap_alloc_new (w.alloc (.cells #[.int .i64 kd, .int .i64 b] 61 (0, 0))) (.cells #[.slice none 0 0, .int .i64 0, .bool false, .bool false, .int .i64 0] 67 (0, 0))
    simpa using this
  have H7 := heap_alloc_new w1 (.cells #[.slice a n c, .int .i64 0, .bool false, .bool false, .int .i64 0] 67 (0, 0))
  have h1 := h.ext hX2
  go_wp2_with fail
  generalize (w1.alloc (.cells #[.slice a n c, .int .i64 0, .bool false, .bool false, .int .i64 0] 67 (0, 0))) = w2 at *
  obtain ⟨p7, hp7⟩ : ∃ p, p = w1.heap.size := ⟨_, rfl⟩
  obtain ⟨p6, hp6⟩ : ∃ p, p = w.heap.size + 1 := ⟨_, rfl⟩
  obtain ⟨p5, hp5⟩ : ∃ p, p = w.heap.size := ⟨_, rfl⟩
  rw [← hp7] at H7 ⊢
  rw [← hp6] at H6 ⊢
  rw [← hp5] at k0 k1 ⊢
  have n67 : p6 ≠ p7 := by omega
  have n56 : p5 ≠ p6 := by omega
  have n57 : p5 ≠ p7 := by omega
  have hS : ∀ s ∈ [p6, p7], w.heap.size ≤ s := by simp; omega
  clear hp5 hp6 hp7 g1 hx1 w1
  refine (without_any _ (asInts L) b _ h1 hfit).mono ?_
  rintro e w3 ⟨v3, rfl, ho3, hx3⟩
  rw [wo_rem] at ho3
  have hX3 : Ext w w3 := (by repeat' (first | (with_reducible exact Ext.refl _) | (with_reducible assumption) | (with_reducible refine Ext.alloc ?_ _) | (with_reducible refine Ext.drewN ?_ _) | (with_reducible refine Ext.drew ?_) | (with_reducible refine Ext.trans ?_ (by assumption))))
  have hr3 := ho3.rd
  have k0 := hx3.cellv k0
  have k1 := hx3.cellv k1
  have hp6 := (Array.getElem?_eq_some_iff.1 H6).1
  have hp7 := (Array.getElem?_eq_some_iff.1 H7).1
  have H6 := (Below.block hx3 _ hp6).trans H6
  have H7 := (Below.block hx3 _ hp7).trans H7
  have m0 := cell_of_row w3 p7 0 _ _ _ H7
  have m1 := cell_of_row w3 p7 1 _ _ _ H7
  have m2 := cell_of_row w3 p7 2 _ _ _ H7
  have m3 := cell_of_row w3 p7 3 _ _ _ H7
  have m4 := cell_of_row w3 p7 4 _ _ _ H7
  have l0 := cell_of_row w3 p6 0 _ _ _ H6
  have l1 := cell_of_row w3 p6 1 _ _ _ H6
  have l2 := cell_of_row w3 p6 2 _ _ _ H6
  have l3 := cell_of_row w3 p6 3 _ _ _ H6
  have l4 := cell_of_row w3 p6 4 _ _ _ H6
  have fr6 := frozen_row H6
  have fr7 := frozen_row H7
  simp only [List.getElem?_toArray, List.getElem?_cons_zero, List.getElem?_cons_succ] at m0 m1 m2 m3 m4 l0 l1 l2 l3 l4
  have hw2 : w.heap.size ≤ w2.heap.size := hX2.size
  have HH6 := Lib.hid H6
  have HH7 := Lib.hid H7
  have hlt : ∀ s ∈ [p6, p7], s < w2.heap.size := by simp; exact ⟨hp6, hp7⟩
  clear hp6 hp7 hX2 H6 H7 h1
  obtain ⟨a3, c3, rfl, hc3, hm3, hn3, hs3⟩ := hr3.parts
  clear hc3 hm3 hn3 hs3
  go_wp2_with fail
  refine (refahead_any _ (asInts L) b _ (h.ext hX3) (fits_small (by rw [asInts_length]; omega))).mono ?_
  rintro e w4 ⟨v4, rfl, ho4, hx4⟩
  have hX4 : Ext w w4 := hX3.trans hx4
  have hr4 := ho4.rd
  obtain ⟨a4, c4, rfl, hc4, hm4, hn4, hs4⟩ := hr4.parts
  have k0 := hx4.cellv k0
  have k1 := hx4.cellv k1
  have m0 := hx4.cellv m0
  have m1 := hx4.cellv m1
  have m2 := hx4.cellv m2
  have m3 := hx4.cellv m3
  have m4 := hx4.cellv m4
  have l0 := hx4.cellv l0
  have l1 := hx4.cellv l1
  have l2 := hx4.cellv l2
  have l3 := hx4.cellv l3
  have l4 := hx4.cellv l4
  have g3 := hx3.size
  have hw3 : w.heap.size ≤ w3.heap.size := hX3.size
  have hlt3 : ∀ s ∈ [p6, p7], s < w3.heap.size := fun s hs => Nat.lt_of_lt_of_le (hlt s hs) g3
  have H6 := (Below.block hx4 _ (hlt3 p6 (by simp))).trans HH6.out
  have H7 := (Below.block hx4 _ (hlt3 p7 (by simp))).trans HH7.out
  have fr6 := frozen_row H6
  have fr7 := frozen_row H7
  have HH6 := Lib.hid H6
  clear H6 H7 hx4 hX3 g3 hx3
  have hkl := HK.out
  have hJl : (b :: asInts L).length = k + 1 := by rw [List.length_cons, asInts_length, hkl]
  obtain ⟨b', o', rfl, hlt', hcell⟩ := hs4 (by simp)
  have hne : b' ≠ p7 := by
    have := hlt3 p7 (by simp)
    rcases ho4.2 with ⟨hn, _⟩ | ⟨g, cp, cur, he, hb', _⟩
    · cases hn
    · simp only [Value.slice.injEq, Option.some.injEq, Addr.mk.injEq] at he
      omega
  have q1 := hcell k (by omega)
  have hfin : ∀ w' : World, RdI .i64 w' (.slice (some ⟨b', o', none⟩) (k + 1) c4) (b :: asInts L) → RdI .i64 w' (.slice (some ⟨b', o', none⟩) k c4) ((b :: asInts L).take k) := by
    intro w' hh
    rw [← hJl] at hh
    exact hh.take k (by omega)
  have HF := Lib.hid hfin
  have hq : (cap : Int) < (k : Int) + 1 := by omega
  have hkc : (k : Int) ≤ c4 := by omega
  have hk63 : (k : Int) ≤ 64 := by omega
  rw [hJl] at ho4 ⊢
  rw [← HZ.out] at q1
  clear hc4 hm4 hn4 hs4 hr4 hJl hcell hkl hfin hcap
  go_wp2_with fail
  (try simp only [Exit.inBlock, Exit.then])
  refine bodyPost_ret (results_cell_row rfl _ _ p6 _ _ _ _ rfl (fill5 (by repeat' (first | exact HH6.out | refine (Below.heap_setCell _ _ _ _ n67).trans ?_)) _ _ _ _ _) Try.underlying67 rfl went_info) rfl ?_
  refine ⟨_, rfl, ?_, ?_, Ext.chg hX4 (S := [p6, p7]) (by repeat' (first | (with_reducible exact Chg.refl _ _) | (with_reducible assumption) | (with_reducible refine Chg.drewN ?_ _) | (with_reducible refine Chg.drew ?_) | (with_reducible refine Chg.alloc ?_ _) | (with_reducible refine Chg.setCell ?_ (.inl (by simp)) _) | (with_reducible refine Chg.trans ?_ (by assumption)) | (with_reducible refine Chg.ext ?_ (by assumption)))) hS⟩
  · exact HF.out _ (ho4.chg (S := [p6, p7]) (by repeat' (first | (with_reducible exact Chg.refl _ _) | (with_reducible assumption) | (with_reducible refine Chg.drewN ?_ _) | (with_reducible refine Chg.drew ?_) | (with_reducible refine Chg.alloc ?_ _) | (with_reducible refine Chg.setCell ?_ (.inl (by simp)) _) | (with_reducible refine Chg.trans ?_ (by assumption)) | (with_reducible refine Chg.ext ?_ (by assumption)))) hlt3).rd
  · exact fun g hg => .inl ⟨Nat.le_trans hw3 (ho4.lt g hg).1, Nat.lt_of_lt_of_le (ho4.lt g hg).2 (Chg.size (S := [p6, p7]) (by repeat' (first | (with_reducible exact Chg.refl _ _) | (with_reducible assumption) | (with_reducible refine Chg.drewN ?_ _) | (with_reducible refine Chg.drew ?_) | (with_reducible refine Chg.alloc ?_ _) | (with_reducible refine Chg.setCell ?_ (.inl (by simp)) _) | (with_reducible refine Chg.trans ?_ (by assumption)) | (with_reducible refine Chg.ext ?_ (by assumption)))))⟩
end
end Go.Proofs.Ytibcfmnkpemieaa
