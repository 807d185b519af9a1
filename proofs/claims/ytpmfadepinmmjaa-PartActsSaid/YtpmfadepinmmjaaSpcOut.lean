/-
  list.Space: what takes a block out of its list does to the cells. The conditions: the block and its neighbours are blocks, its list is a list.
-/
import Derived.Test.YtpmfadepinmmjaaRows
import Derived.Test.YtpmfadepinmmjaaSpcFn
namespace Go.Proofs.Ytpmfadepinmmjaa
open Go.RowKit

set_option maxHeartbeats 2000000 in
theorem out_any (w : World) (bs be n b l : Nat) (A E : Nat → Nat → Int) (h : SpcAt w bs be n A E) (hb : b < 64) (hl : A b 0 = l) (hln : l < n)
    (h1 : A b 1 = -1 ∨ ∃ p : Nat, A b 1 = p ∧ p < 64) (h2 : A b 2 = -1 ∨ ∃ p : Nat, A b 2 = p ∧ p < 64) (h3 : -9223372036854775000 ≤ E l 2 ∧ E l 2 ≤ 9223372036854775000) :
    Calls Try.prog 51 #[.pointer (some ⟨bs, 0, none⟩), .int .i64 b] w fun e w' => e = .returned (.tuple #[]) ∧ SpcAt w' bs be n (outA A b) (outE A E b) ∧ Chg [bs, be] w w' := by
  have n0 := h.node0 hb
  have n1 := h.node (f := 1) hb (by omega)
  have n2 := h.node (f := 2) hb (by omega)
  have sl := h.slice
  rw [hl] at n0
  have hbi : (b : Int) < 64 := by omega
  have hni : (l : Int) < (n : Int) := by omega
  rcases h1 with h1 | ⟨p, h1, hp⟩
  · rcases h2 with h2 | ⟨q, h2, hq⟩
    · skip
      rw [h1] at n1
      rw [h2] at n2
      have HA := Lib.hid (show outA A b = upd A b 0 (-1) by simp [outA, h1, h2])
      have HE := Lib.hid (show outE A E b = upd (upd (upd E l 0 (-1)) l 1 (-1)) l 2 (E l 2 - 1) by simp [outE, h1, h2, hl])
      clear h1 h2 hl
      go_enter Try.func51, Try.ntmps51
      go_wp2_with fail
      clear n0 n1 n2 sl
      obtain ⟨w1, hw1⟩ : ∃ w1, w1 = w.alloc (.cells #[.int .i64 l, .int .i64 (-1), .int .i64 (-1)] 90) := ⟨_, rfl⟩
      rw [← hw1]
      have hs1 : SpcAt w1 bs be n A E := by rw [hw1]; exact h.alloc _
      have m0 : w1.cell? ⟨w.heap.size, 0, none⟩ = some (.int .i64 l) := by rw [hw1]; exact cell_new _ _ _ _ rfl
      have m1 : w1.cell? ⟨w.heap.size, 1, none⟩ = some (.int .i64 (-1)) := by rw [hw1]; exact cell_new _ _ _ _ rfl
      have m2 : w1.cell? ⟨w.heap.size, 2, none⟩ = some (.int .i64 (-1)) := by rw [hw1]; exact cell_new _ _ _ _ rfl
      have hc1 : Chg [bs, be] w w1 := by rw [hw1]; exact (Chg.refl _ _).alloc _
      clear hw1
      have sl := hs1.slice
      have e2 := hs1.endc (f := 2) hln (by omega)
      have e1 := hs1.endc (f := 1) hln (by omega)
      have e0 := hs1.endc0 hln
      have f2 := hs1.free2
      have f1 := hs1.free1
      have k0 := hs1.node0 hb
      have ne1 := hs1.ne
      have ne2 := Ne.symm hs1.ne
      have ne3 : bs ≠ w.heap.size := by have := h.lt1; omega
      have ne4 : be ≠ w.heap.size := by have := h.lt2; omega
      have ne5 := Ne.symm ne3
      have ne6 := Ne.symm ne4
      go_quiet (fail)
      go_wp2_with fail
      go_end0
      refine ⟨rfl, ?_, ?_⟩
      · rw [HA.out, HE.out]
        exact ((((hs1.ext (Ext.drewN (Ext.refl _) nq)).setEnd0 hln _).setEnd (f := 1) hln (by omega) _).setEnd (f := 2) hln (by omega) _).setNode0 hb _
      · exact (by repeat' (first | (with_reducible exact Chg.refl _ _) | (with_reducible assumption) | (with_reducible refine Chg.drewN ?_ _) | (with_reducible refine Chg.drew ?_) | (with_reducible refine Chg.alloc ?_ _) | (with_reducible refine Chg.setCell ?_ (.inl (by simp)) _) | (with_reducible refine Chg.trans ?_ (by assumption)) | (with_reducible refine Chg.ext ?_ (by assumption))))
    · skip
      rw [h1] at n1
      rw [h2] at n2
      have HA := Lib.hid (show outA A b = upd (upd A q 1 (-1)) b 0 (-1) by simp [outA, h1, h2])
      have HE := Lib.hid (show outE A E b = upd (upd E l 0 q) l 2 (E l 2 - 1) by simp [outE, h1, h2, hl])
      clear h1 h2 hl
      have hqi : (q : Int) < 64 := by omega
      have hqn : ((q : Int) == -1) = false := by rw [beq_eq_false_iff_ne]; omega
      go_enter Try.func51, Try.ntmps51
      go_wp2_with fail
      clear n0 n1 n2 sl
      obtain ⟨w1, hw1⟩ : ∃ w1, w1 = w.alloc (.cells #[.int .i64 l, .int .i64 (-1), .int .i64 q] 90) := ⟨_, rfl⟩
      rw [← hw1]
      have hs1 : SpcAt w1 bs be n A E := by rw [hw1]; exact h.alloc _
      have m0 : w1.cell? ⟨w.heap.size, 0, none⟩ = some (.int .i64 l) := by rw [hw1]; exact cell_new _ _ _ _ rfl
      have m1 : w1.cell? ⟨w.heap.size, 1, none⟩ = some (.int .i64 (-1)) := by rw [hw1]; exact cell_new _ _ _ _ rfl
      have m2 : w1.cell? ⟨w.heap.size, 2, none⟩ = some (.int .i64 q) := by rw [hw1]; exact cell_new _ _ _ _ rfl
      have hc1 : Chg [bs, be] w w1 := by rw [hw1]; exact (Chg.refl _ _).alloc _
      clear hw1
      have sl := hs1.slice
      have e2 := hs1.endc (f := 2) hln (by omega)
      have e1 := hs1.endc (f := 1) hln (by omega)
      have e0 := hs1.endc0 hln
      have f2 := hs1.free2
      have f1 := hs1.free1
      have k0 := hs1.node0 hb
      have q1 := hs1.node (f := 1) hq (by omega)
      have ne1 := hs1.ne
      have ne2 := Ne.symm hs1.ne
      have ne3 : bs ≠ w.heap.size := by have := h.lt1; omega
      have ne4 : be ≠ w.heap.size := by have := h.lt2; omega
      have ne5 := Ne.symm ne3
      have ne6 := Ne.symm ne4
      go_quiet (fail)
      go_wp2_with fail
      go_region
      all_goals go_wp2_with fail
      go_end0
      refine ⟨rfl, ?_, ?_⟩
      · rw [HA.out, HE.out]
        refine SpcAt.ext ?_ (Ext.refl _).drew
        exact ((((hs1.ext (Ext.drewN (Ext.refl _) nq)).setEnd0 hln _).setNode (f := 1) hq (by omega) _).setEnd (f := 2) hln (by omega) _).setNode0 hb _
      · exact (by repeat' (first | (with_reducible exact Chg.refl _ _) | (with_reducible assumption) | (with_reducible refine Chg.drewN ?_ _) | (with_reducible refine Chg.drew ?_) | (with_reducible refine Chg.alloc ?_ _) | (with_reducible refine Chg.setCell ?_ (.inl (by simp)) _) | (with_reducible refine Chg.trans ?_ (by assumption)) | (with_reducible refine Chg.ext ?_ (by assumption))))
  · rcases h2 with h2 | ⟨q, h2, hq⟩
    · skip
      rw [h1] at n1
      rw [h2] at n2
      have HA := Lib.hid (show outA A b = upd (upd A p 2 (-1)) b 0 (-1) by simp [outA, h1, h2])
      have HE := Lib.hid (show outE A E b = upd (upd E l 1 p) l 2 (E l 2 - 1) by simp [outE, h1, h2, hl])
      clear h1 h2 hl
      have hpi : (p : Int) < 64 := by omega
      have hpn : ((p : Int) == -1) = false := by rw [beq_eq_false_iff_ne]; omega
      go_enter Try.func51, Try.ntmps51
      go_wp2_with fail
      clear n0 n1 n2 sl
      obtain ⟨w1, hw1⟩ : ∃ w1, w1 = w.alloc (.cells #[.int .i64 l, .int .i64 p, .int .i64 (-1)] 90) := ⟨_, rfl⟩
      rw [← hw1]
      have hs1 : SpcAt w1 bs be n A E := by rw [hw1]; exact h.alloc _
      have m0 : w1.cell? ⟨w.heap.size, 0, none⟩ = some (.int .i64 l) := by rw [hw1]; exact cell_new _ _ _ _ rfl
      have m1 : w1.cell? ⟨w.heap.size, 1, none⟩ = some (.int .i64 p) := by rw [hw1]; exact cell_new _ _ _ _ rfl
      have m2 : w1.cell? ⟨w.heap.size, 2, none⟩ = some (.int .i64 (-1)) := by rw [hw1]; exact cell_new _ _ _ _ rfl
      have hc1 : Chg [bs, be] w w1 := by rw [hw1]; exact (Chg.refl _ _).alloc _
      clear hw1
      have sl := hs1.slice
      have e2 := hs1.endc (f := 2) hln (by omega)
      have e1 := hs1.endc (f := 1) hln (by omega)
      have e0 := hs1.endc0 hln
      have f2 := hs1.free2
      have f1 := hs1.free1
      have k0 := hs1.node0 hb
      have p2 := hs1.node (f := 2) hp (by omega)
      have ne1 := hs1.ne
      have ne2 := Ne.symm hs1.ne
      have ne3 : bs ≠ w.heap.size := by have := h.lt1; omega
      have ne4 : be ≠ w.heap.size := by have := h.lt2; omega
      have ne5 := Ne.symm ne3
      have ne6 := Ne.symm ne4
      go_quiet (fail)
      go_wp2_with fail
      go_region
      all_goals go_wp2_with fail
      go_end0
      refine ⟨rfl, ?_, ?_⟩
      · rw [HA.out, HE.out]
        exact ((((hs1.ext (Ext.drewN (Ext.refl _) _)).setNode (f := 2) hp (by omega) _).setEnd (f := 1) hln (by omega) _).setEnd (f := 2) hln (by omega) _).setNode0 hb _
      · exact (by repeat' (first | (with_reducible exact Chg.refl _ _) | (with_reducible assumption) | (with_reducible refine Chg.drewN ?_ _) | (with_reducible refine Chg.drew ?_) | (with_reducible refine Chg.alloc ?_ _) | (with_reducible refine Chg.setCell ?_ (.inl (by simp)) _) | (with_reducible refine Chg.trans ?_ (by assumption)) | (with_reducible refine Chg.ext ?_ (by assumption))))
    · skip
      rw [h1] at n1
      rw [h2] at n2
      have HA := Lib.hid (show outA A b = upd (upd (upd A p 2 q) q 1 p) b 0 (-1) by simp [outA, h1, h2])
      have HE := Lib.hid (show outE A E b = upd E l 2 (E l 2 - 1) by simp [outE, h1, h2, hl])
      clear h1 h2 hl
      have hpi : (p : Int) < 64 := by omega
      have hpn : ((p : Int) == -1) = false := by rw [beq_eq_false_iff_ne]; omega
      have hqi : (q : Int) < 64 := by omega
      have hqn : ((q : Int) == -1) = false := by rw [beq_eq_false_iff_ne]; omega
      go_enter Try.func51, Try.ntmps51
      go_wp2_with fail
      clear n0 n1 n2 sl
      obtain ⟨w1, hw1⟩ : ∃ w1, w1 = w.alloc (.cells #[.int .i64 l, .int .i64 p, .int .i64 q] 90) := ⟨_, rfl⟩
      rw [← hw1]
      have hs1 : SpcAt w1 bs be n A E := by rw [hw1]; exact h.alloc _
      have m0 : w1.cell? ⟨w.heap.size, 0, none⟩ = some (.int .i64 l) := by rw [hw1]; exact cell_new _ _ _ _ rfl
      have m1 : w1.cell? ⟨w.heap.size, 1, none⟩ = some (.int .i64 p) := by rw [hw1]; exact cell_new _ _ _ _ rfl
      have m2 : w1.cell? ⟨w.heap.size, 2, none⟩ = some (.int .i64 q) := by rw [hw1]; exact cell_new _ _ _ _ rfl
      have hc1 : Chg [bs, be] w w1 := by rw [hw1]; exact (Chg.refl _ _).alloc _
      clear hw1
      have sl := hs1.slice
      have e2 := hs1.endc (f := 2) hln (by omega)
      have e1 := hs1.endc (f := 1) hln (by omega)
      have e0 := hs1.endc0 hln
      have f2 := hs1.free2
      have f1 := hs1.free1
      have k0 := hs1.node0 hb
      have p2 := hs1.node (f := 2) hp (by omega)
      have q1 := hs1.node (f := 1) hq (by omega)
      have ne1 := hs1.ne
      have ne2 := Ne.symm hs1.ne
      have ne3 : bs ≠ w.heap.size := by have := h.lt1; omega
      have ne4 : be ≠ w.heap.size := by have := h.lt2; omega
      have ne5 := Ne.symm ne3
      have ne6 := Ne.symm ne4
      go_quiet (fail)
      go_wp2_with fail
      go_region
      all_goals go_wp2_with fail
      all_goals go_region
      all_goals go_wp2_with fail
      go_end0
      refine ⟨rfl, ?_, ?_⟩
      · rw [HA.out, HE.out]
        refine SpcAt.ext ?_ (Ext.refl _).drew
        exact ((((hs1.ext (Ext.drewN (Ext.refl _) _)).setNode (f := 2) hp (by omega) _).setNode (f := 1) hq (by omega) _).setEnd (f := 2) hln (by omega) _).setNode0 hb _
      · exact (by repeat' (first | (with_reducible exact Chg.refl _ _) | (with_reducible assumption) | (with_reducible refine Chg.drewN ?_ _) | (with_reducible refine Chg.drew ?_) | (with_reducible refine Chg.alloc ?_ _) | (with_reducible refine Chg.setCell ?_ (.inl (by simp)) _) | (with_reducible refine Chg.trans ?_ (by assumption)) | (with_reducible refine Chg.ext ?_ (by assumption))))
end Go.Proofs.Ytpmfadepinmmjaa
