/-
  msg.named and msg.of: the word of a kind's fields. No condition.
-/
import Derived.Test.YtmkobmkaalfecaaMsBits
import Derived.Test.YtmkobmkaalfecaaSpc
namespace Go.Proofs.Ytmkobmkaalfecaa
open Go.RowKit

theorem RdI.lit_at {k : IntKind} {w : World} {cs : Array Value} {e : TypeId} {g n : Nat} (l : List Int) (hg : g = w.heap.size) (hn : n = l.length) (hc : cs = (cellsOf k l).toArray) (hm : l.length ≤ maxLen) : RdI k (w.alloc (.cells cs e)) (.slice (some ⟨g, 0, none⟩) n n) l := by
  subst hg hn hc; exact RdI.lit k w l e hm

theorem fill15 {w : World} {p : Nat} (h : w.heap[p]? = some (.cells #[.int .u64 0, .int .u64 0, .int .u64 0, .int .u64 0, .int .u64 0, .int .u64 0, .int .u64 0, .int .u64 0, .int .u64 0, .int .u64 0, .int .u64 0, .int .u64 0, .int .u64 0, .int .u64 0, .int .u64 0] 113 (0, 0))) (v0 v1 v2 v3 v4 v5 v6 v7 v8 v9 v10 v11 v12 v13 v14 : Value) :
    (((((((((((((((w.setCell ⟨p, 0, none⟩ v0).setCell ⟨p, 1, none⟩ v1).setCell ⟨p, 2, none⟩ v2).setCell ⟨p, 3, none⟩ v3).setCell ⟨p, 4, none⟩ v4).setCell ⟨p, 5, none⟩ v5).setCell ⟨p, 6, none⟩ v6).setCell ⟨p, 7, none⟩ v7).setCell ⟨p, 8, none⟩ v8).setCell ⟨p, 9, none⟩ v9).setCell ⟨p, 10, none⟩ v10).setCell ⟨p, 11, none⟩ v11).setCell ⟨p, 12, none⟩ v12).setCell ⟨p, 13, none⟩ v13).setCell ⟨p, 14, none⟩ v14).heap[p]? = some (.cells #[v0, v1, v2, v3, v4, v5, v6, v7, v8, v9, v10, v11, v12, v13, v14] 113 (0, 0)) := by
  have this := heap_set (o := 14) (heap_set (o := 13) (heap_set (o := 12) (heap_set (o := 11) (heap_set (o := 10) (heap_set (o := 9) (heap_set (o := 8) (heap_set (o := 7) (heap_set (o := 6) (heap_set (o := 5) (heap_set (o := 4) (heap_set (o := 3) (heap_set (o := 2) (heap_set (o := 1) (heap_set (o := 0) h v0) v1) v2) v3) v4) v5) v6) v7) v8) v9) v10) v11) v12) v13) v14
  simpa only [List.setIfInBounds_toArray, List.set_cons_zero, List.set_cons_succ] using this

theorem named_info : (Try.prog.info? 113).map (·.size) = some 15 := by kernel_rfl
def wordsV : Array Value := #[.int .u64 0, .int .u64 116, .int .u64 1140, .int .u64 1120, .int .u64 160, .int .u64 1908, .int .u64 884, .int .u64 160, .int .u64 96, .int .u64 1150, .int .u64 1120, .int .u64 32, .int .u64 1312, .int .u64 830, .int .u64 32]
set_option maxRecDepth 100000 in
set_option maxHeartbeats 4000000 in
theorem mnamed (w : World) : Calls Try.prog 74 #[] w fun e w' => e = .returned (.agg wordsV) ∧ Ext w w' := by
  go_enter Try.func74, Try.ntmps74
  go_wp2_with fail
  have Y0 : Ext (w.alloc (.cells #[.int .u64 0, .int .u64 0, .int .u64 0, .int .u64 0, .int .u64 0, .int .u64 0, .int .u64 0, .int .u64 0, .int .u64 0, .int .u64 0, .int .u64 0, .int .u64 0, .int .u64 0, .int .u64 0, .int .u64 0] 113)) (w.alloc (.cells #[.int .u64 0, .int .u64 0, .int .u64 0, .int .u64 0, .int .u64 0, .int .u64 0, .int .u64 0, .int .u64 0, .int .u64 0, .int .u64 0, .int .u64 0, .int .u64 0, .int .u64 0, .int .u64 0, .int .u64 0] 113)) := Ext.refl _
  refine (mbits _ [2, 4, 5, 6] _ (RdI.lit_at [2, 4, 5, 6] (by first | rfl | simp) rfl rfl (by simp [maxLen])) (by decide +kernel)).mono ?_
  rintro e w1 ⟨rfl, hx1⟩
  rw [show orB [2, 4, 5, 6] 0 = 116 by decide +kernel]
  have Y1 : Ext (w.alloc (.cells #[.int .u64 0, .int .u64 0, .int .u64 0, .int .u64 0, .int .u64 0, .int .u64 0, .int .u64 0, .int .u64 0, .int .u64 0, .int .u64 0, .int .u64 0, .int .u64 0, .int .u64 0, .int .u64 0, .int .u64 0] 113)) w1 := Y0.alloc _ |>.trans hx1
  clear hx1 Y0
  go_wp2_with fail
  refine (mbits _ [2, 4, 5, 6, 10] _ (RdI.lit_at [2, 4, 5, 6, 10] (by first | rfl | simp) rfl rfl (by simp [maxLen])) (by decide +kernel)).mono ?_
  rintro e w2 ⟨rfl, hx2⟩
  rw [show orB [2, 4, 5, 6, 10] 0 = 1140 by decide +kernel]
  have Y2 : Ext (w.alloc (.cells #[.int .u64 0, .int .u64 0, .int .u64 0, .int .u64 0, .int .u64 0, .int .u64 0, .int .u64 0, .int .u64 0, .int .u64 0, .int .u64 0, .int .u64 0, .int .u64 0, .int .u64 0, .int .u64 0, .int .u64 0] 113)) w2 := Y1.alloc _ |>.trans hx2
  clear hx2 Y1
  go_wp2_with fail
  refine (mbits _ [5, 6, 10] _ (RdI.lit_at [5, 6, 10] (by first | rfl | simp) rfl rfl (by simp [maxLen])) (by decide +kernel)).mono ?_
  rintro e w3 ⟨rfl, hx3⟩
  rw [show orB [5, 6, 10] 0 = 1120 by decide +kernel]
  have Y3 : Ext (w.alloc (.cells #[.int .u64 0, .int .u64 0, .int .u64 0, .int .u64 0, .int .u64 0, .int .u64 0, .int .u64 0, .int .u64 0, .int .u64 0, .int .u64 0, .int .u64 0, .int .u64 0, .int .u64 0, .int .u64 0, .int .u64 0] 113)) w3 := Y2.alloc _ |>.trans hx3
  clear hx3 Y2
  go_wp2_with fail
  refine (mbits _ [5, 7] _ (RdI.lit_at [5, 7] (by first | rfl | simp) rfl rfl (by simp [maxLen])) (by decide +kernel)).mono ?_
  rintro e w4 ⟨rfl, hx4⟩
  rw [show orB [5, 7] 0 = 160 by decide +kernel]
  have Y4 : Ext (w.alloc (.cells #[.int .u64 0, .int .u64 0, .int .u64 0, .int .u64 0, .int .u64 0, .int .u64 0, .int .u64 0, .int .u64 0, .int .u64 0, .int .u64 0, .int .u64 0, .int .u64 0, .int .u64 0, .int .u64 0, .int .u64 0] 113)) w4 := Y3.alloc _ |>.trans hx4
  clear hx4 Y3
  go_wp2_with fail
  refine (mbits _ [2, 4, 5, 6, 8, 9, 10] _ (RdI.lit_at [2, 4, 5, 6, 8, 9, 10] (by first | rfl | simp) rfl rfl (by simp [maxLen])) (by decide +kernel)).mono ?_
  rintro e w5 ⟨rfl, hx5⟩
  rw [show orB [2, 4, 5, 6, 8, 9, 10] 0 = 1908 by decide +kernel]
  have Y5 : Ext (w.alloc (.cells #[.int .u64 0, .int .u64 0, .int .u64 0, .int .u64 0, .int .u64 0, .int .u64 0, .int .u64 0, .int .u64 0, .int .u64 0, .int .u64 0, .int .u64 0, .int .u64 0, .int .u64 0, .int .u64 0, .int .u64 0] 113)) w5 := Y4.alloc _ |>.trans hx5
  clear hx5 Y4
  go_wp2_with fail
  refine (mbits _ [2, 4, 5, 6, 8, 9] _ (RdI.lit_at [2, 4, 5, 6, 8, 9] (by first | rfl | simp) rfl rfl (by simp [maxLen])) (by decide +kernel)).mono ?_
  rintro e w6 ⟨rfl, hx6⟩
  rw [show orB [2, 4, 5, 6, 8, 9] 0 = 884 by decide +kernel]
  have Y6 : Ext (w.alloc (.cells #[.int .u64 0, .int .u64 0, .int .u64 0, .int .u64 0, .int .u64 0, .int .u64 0, .int .u64 0, .int .u64 0, .int .u64 0, .int .u64 0, .int .u64 0, .int .u64 0, .int .u64 0, .int .u64 0, .int .u64 0] 113)) w6 := Y5.alloc _ |>.trans hx6
  clear hx6 Y5
  go_wp2_with fail
  refine (mbits _ [5, 7] _ (RdI.lit_at [5, 7] (by first | rfl | simp) rfl rfl (by simp [maxLen])) (by decide +kernel)).mono ?_
  rintro e w7 ⟨rfl, hx7⟩
  rw [show orB [5, 7] 0 = 160 by decide +kernel]
  have Y7 : Ext (w.alloc (.cells #[.int .u64 0, .int .u64 0, .int .u64 0, .int .u64 0, .int .u64 0, .int .u64 0, .int .u64 0, .int .u64 0, .int .u64 0, .int .u64 0, .int .u64 0, .int .u64 0, .int .u64 0, .int .u64 0, .int .u64 0] 113)) w7 := Y6.alloc _ |>.trans hx7
  clear hx7 Y6
  go_wp2_with fail
  refine (mbits _ [5, 6] _ (RdI.lit_at [5, 6] (by first | rfl | simp) rfl rfl (by simp [maxLen])) (by decide +kernel)).mono ?_
  rintro e w8 ⟨rfl, hx8⟩
  rw [show orB [5, 6] 0 = 96 by decide +kernel]
  have Y8 : Ext (w.alloc (.cells #[.int .u64 0, .int .u64 0, .int .u64 0, .int .u64 0, .int .u64 0, .int .u64 0, .int .u64 0, .int .u64 0, .int .u64 0, .int .u64 0, .int .u64 0, .int .u64 0, .int .u64 0, .int .u64 0, .int .u64 0] 113)) w8 := Y7.alloc _ |>.trans hx8
  clear hx8 Y7
  go_wp2_with fail
  refine (mbits _ [1, 2, 3, 4, 5, 6, 10] _ (RdI.lit_at [1, 2, 3, 4, 5, 6, 10] (by first | rfl | simp) rfl rfl (by simp [maxLen])) (by decide +kernel)).mono ?_
  rintro e w9 ⟨rfl, hx9⟩
  rw [show orB [1, 2, 3, 4, 5, 6, 10] 0 = 1150 by decide +kernel]
  have Y9 : Ext (w.alloc (.cells #[.int .u64 0, .int .u64 0, .int .u64 0, .int .u64 0, .int .u64 0, .int .u64 0, .int .u64 0, .int .u64 0, .int .u64 0, .int .u64 0, .int .u64 0, .int .u64 0, .int .u64 0, .int .u64 0, .int .u64 0] 113)) w9 := Y8.alloc _ |>.trans hx9
  clear hx9 Y8
  go_wp2_with fail
  refine (mbits _ [5, 6, 10] _ (RdI.lit_at [5, 6, 10] (by first | rfl | simp) rfl rfl (by simp [maxLen])) (by decide +kernel)).mono ?_
  rintro e w10 ⟨rfl, hx10⟩
  rw [show orB [5, 6, 10] 0 = 1120 by decide +kernel]
  have Y10 : Ext (w.alloc (.cells #[.int .u64 0, .int .u64 0, .int .u64 0, .int .u64 0, .int .u64 0, .int .u64 0, .int .u64 0, .int .u64 0, .int .u64 0, .int .u64 0, .int .u64 0, .int .u64 0, .int .u64 0, .int .u64 0, .int .u64 0] 113)) w10 := Y9.alloc _ |>.trans hx10
  clear hx10 Y9
  go_wp2_with fail
  refine (mbits _ [5] _ (RdI.lit_at [5] (by first | rfl | simp) rfl rfl (by simp [maxLen])) (by decide +kernel)).mono ?_
  rintro e w11 ⟨rfl, hx11⟩
  rw [show orB [5] 0 = 32 by decide +kernel]
  have Y11 : Ext (w.alloc (.cells #[.int .u64 0, .int .u64 0, .int .u64 0, .int .u64 0, .int .u64 0, .int .u64 0, .int .u64 0, .int .u64 0, .int .u64 0, .int .u64 0, .int .u64 0, .int .u64 0, .int .u64 0, .int .u64 0, .int .u64 0] 113)) w11 := Y10.alloc _ |>.trans hx11
  clear hx11 Y10
  go_wp2_with fail
  refine (mbits _ [5, 8, 10] _ (RdI.lit_at [5, 8, 10] (by first | rfl | simp) rfl rfl (by simp [maxLen])) (by decide +kernel)).mono ?_
  rintro e w12 ⟨rfl, hx12⟩
  rw [show orB [5, 8, 10] 0 = 1312 by decide +kernel]
  have Y12 : Ext (w.alloc (.cells #[.int .u64 0, .int .u64 0, .int .u64 0, .int .u64 0, .int .u64 0, .int .u64 0, .int .u64 0, .int .u64 0, .int .u64 0, .int .u64 0, .int .u64 0, .int .u64 0, .int .u64 0, .int .u64 0, .int .u64 0] 113)) w12 := Y11.alloc _ |>.trans hx12
  clear hx12 Y11
  go_wp2_with fail
  refine (mbits _ [1, 2, 3, 4, 5, 8, 9] _ (RdI.lit_at [1, 2, 3, 4, 5, 8, 9] (by first | rfl | simp) rfl rfl (by simp [maxLen])) (by decide +kernel)).mono ?_
  rintro e w13 ⟨rfl, hx13⟩
  rw [show orB [1, 2, 3, 4, 5, 8, 9] 0 = 830 by decide +kernel]
  have Y13 : Ext (w.alloc (.cells #[.int .u64 0, .int .u64 0, .int .u64 0, .int .u64 0, .int .u64 0, .int .u64 0, .int .u64 0, .int .u64 0, .int .u64 0, .int .u64 0, .int .u64 0, .int .u64 0, .int .u64 0, .int .u64 0, .int .u64 0] 113)) w13 := Y12.alloc _ |>.trans hx13
  clear hx13 Y12
  go_wp2_with fail
  refine (mbits _ [5] _ (RdI.lit_at [5] (by first | rfl | simp) rfl rfl (by simp [maxLen])) (by decide +kernel)).mono ?_
  rintro e w14 ⟨rfl, hx14⟩
  rw [show orB [5] 0 = 32 by decide +kernel]
  have Y14 : Ext (w.alloc (.cells #[.int .u64 0, .int .u64 0, .int .u64 0, .int .u64 0, .int .u64 0, .int .u64 0, .int .u64 0, .int .u64 0, .int .u64 0, .int .u64 0, .int .u64 0, .int .u64 0, .int .u64 0, .int .u64 0, .int .u64 0] 113)) w14 := Y13.alloc _ |>.trans hx14
  clear hx14 Y13
  have H14 : w14.heap[w.heap.size]? = some (.cells #[.int .u64 0, .int .u64 0, .int .u64 0, .int .u64 0, .int .u64 0, .int .u64 0, .int .u64 0, .int .u64 0, .int .u64 0, .int .u64 0, .int .u64 0, .int .u64 0, .int .u64 0, .int .u64 0, .int .u64 0] 113 (0, 0)) := (Below.block Y14 _ (by simp)).trans (heap_alloc_new w _)
  have X14 : Ext w w14 := ((Ext.refl w).alloc _).trans Y14
  clear Y14
  have d0 := cell_of_row w14 w.heap.size 0 _ _ _ H14
  have f0 := frozen_row H14 0
  have d1 := cell_of_row w14 w.heap.size 1 _ _ _ H14
  have f1 := frozen_row H14 1
  have d2 := cell_of_row w14 w.heap.size 2 _ _ _ H14
  have f2 := frozen_row H14 2
  have d3 := cell_of_row w14 w.heap.size 3 _ _ _ H14
  have f3 := frozen_row H14 3
  have d4 := cell_of_row w14 w.heap.size 4 _ _ _ H14
  have f4 := frozen_row H14 4
  have d5 := cell_of_row w14 w.heap.size 5 _ _ _ H14
  have f5 := frozen_row H14 5
  have d6 := cell_of_row w14 w.heap.size 6 _ _ _ H14
  have f6 := frozen_row H14 6
  have d7 := cell_of_row w14 w.heap.size 7 _ _ _ H14
  have f7 := frozen_row H14 7
  have d8 := cell_of_row w14 w.heap.size 8 _ _ _ H14
  have f8 := frozen_row H14 8
  have d9 := cell_of_row w14 w.heap.size 9 _ _ _ H14
  have f9 := frozen_row H14 9
  have d10 := cell_of_row w14 w.heap.size 10 _ _ _ H14
  have f10 := frozen_row H14 10
  have d11 := cell_of_row w14 w.heap.size 11 _ _ _ H14
  have f11 := frozen_row H14 11
  have d12 := cell_of_row w14 w.heap.size 12 _ _ _ H14
  have f12 := frozen_row H14 12
  have d13 := cell_of_row w14 w.heap.size 13 _ _ _ H14
  have f13 := frozen_row H14 13
  have d14 := cell_of_row w14 w.heap.size 14 _ _ _ H14
  have f14 := frozen_row H14 14
  simp only [List.getElem?_toArray, List.getElem?_cons_zero, List.getElem?_cons_succ] at d0 d1 d2 d3 d4 d5 d6 d7 d8 d9 d10 d11 d12 d13 d14
  have HH := Lib.hid H14
  go_wp2_with fail
  refine bodyPost_ret (results_cell_row rfl _ _ _ _ _ _ _ rfl (fill15 H14 (.int .u64 0) (.int .u64 116) (.int .u64 1140) (.int .u64 1120) (.int .u64 160) (.int .u64 1908) (.int .u64 884) (.int .u64 160) (.int .u64 96) (.int .u64 1150) (.int .u64 1120) (.int .u64 32) (.int .u64 1312) (.int .u64 830) (.int .u64 32)) Try.underlying113 rfl named_info) rfl ?_
  exact ⟨rfl, Below.setCell (Below.setCell (Below.setCell (Below.setCell (Below.setCell (Below.setCell (Below.setCell (Below.setCell (Below.setCell (Below.setCell (Below.setCell (Below.setCell (Below.setCell (Below.setCell (Below.setCell X14 (Nat.le_refl _) _) (Nat.le_refl _) _) (Nat.le_refl _) _) (Nat.le_refl _) _) (Nat.le_refl _) _) (Nat.le_refl _) _) (Nat.le_refl _) _) (Nat.le_refl _) _) (Nat.le_refl _) _) (Nat.le_refl _) _) (Nat.le_refl _) _) (Nat.le_refl _) _) (Nat.le_refl _) _) (Nat.le_refl _) _) (Nat.le_refl _) _⟩
end Go.Proofs.Ytmkobmkaalfecaa
