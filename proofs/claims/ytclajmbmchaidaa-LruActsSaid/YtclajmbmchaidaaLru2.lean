/-
  gradinelaw11.wakes; a cache that is not there. No condition.
-/
import Derived.Test.YtclajmbmchaidaaLru
namespace Go.Proofs.Ytclajmbmchaidaa
open Go.RowKit

theorem wakes11 (w : World) : Calls Try.prog 32 #[] w fun e w' => e = .returned (.bool true) ∧ Ext w w' := by
  go_enter Try.func32, Try.ntmps32
  go_wp2_with fail
  refine (lru_new 2 _).mono ?_
  rintro e w1 ⟨p, bs, be, rfl, h1, hp, hb1, hb2, hx1⟩
  have hS : ∀ s ∈ [bs, be], w.heap.size ≤ s := by simp; omega
  rw [show capN 2 = 2 by decide] at h1
  go_wp2_with fail
  refine (lru_add p bs be 2 [] _ h1 1 (by decide)).mono ?_
  rintro e w2 ⟨rfl, h2, hc2⟩
  rw [show addL 2 [] 1 = [1] by decide] at h2
  go_wp2_with fail
  refine (lru_add p bs be 2 [1] _ h2 2 (by decide)).mono ?_
  rintro e w3 ⟨rfl, h3, hc3⟩
  rw [show addL 2 [1] 2 = [2, 1] by decide] at h3
  go_wp2_with fail
  refine (lru_use p bs be 2 [2, 1] _ h3 1 true (by decide)).mono ?_
  rintro e w4 ⟨rfl, h4, hc4⟩
  rw [show useL [2, 1] 1 = [1, 2] by decide] at h4
  go_wp2_with fail
  refine (lru_add p bs be 2 [1, 2] _ h4 3 (by decide)).mono ?_
  rintro e w5 ⟨rfl, h5, hc5⟩
  rw [show addV 2 [1, 2] 3 = 2 by decide, show addG 2 [1, 2] 3 = true by decide, show addE 3 = 0 by decide]
  have hx5 : Ext w w5 := (((hx1.chg hc2 hS).chg hc3 hS).chg hc4 hS).chg hc5 hS
  go_wp2_with fail
  go_ret
  exact ⟨rfl, (by repeat' (first | (with_reducible exact Ext.refl _) | (with_reducible assumption) | (with_reducible refine Ext.alloc ?_ _) | (with_reducible refine Ext.drewN ?_ _) | (with_reducible refine Ext.drew ?_) | (with_reducible refine Ext.trans ?_ (by assumption))))⟩

theorem lhas_nil (b : Int) (w : World) : Calls Try.prog 36 #[.pointer none, .int .i64 b] w fun e w' => e = .returned (.bool false) ∧ w = w' := by
  go_enter Try.func36, Try.ntmps36
  go_wp2_with fail
  go_ret
  exact ⟨rfl, rfl⟩
theorem luse_nil (b : Int) (w : World) : Calls Try.prog 41 #[.pointer none, .int .i64 b] w fun e w' => e = .returned (.bool false) ∧ w = w' := by
  go_enter Try.func41, Try.ntmps41
  go_wp2_with fail
  refine (lhas_nil b _).mono ?_
  rintro e w1 ⟨rfl, rfl⟩
  go_wp2_with fail
  go_ret
  exact ⟨rfl, rfl⟩
theorem lremove_nil (b : Int) (w : World) : Calls Try.prog 42 #[.pointer none, .int .i64 b] w fun e w' => e = .returned (.bool false) ∧ w = w' := by
  go_enter Try.func42, Try.ntmps42
  go_wp2_with fail
  refine (lhas_nil b _).mono ?_
  rintro e w1 ⟨rfl, rfl⟩
  go_wp2_with fail
  go_ret
  exact ⟨rfl, rfl⟩
theorem ladd_nil (b : Int) (w : World) : Calls Try.prog 34 #[.pointer none, .int .i64 b] w fun e w' => e = .returned (.tuple #[.int .i64 0, .bool false, .int .i64 7]) ∧ w = w' := by
  go_enter Try.func34, Try.ntmps34
  go_wp2_with fail
  go_ret3
  exact ⟨rfl, rfl⟩
theorem lall_nil (w : World) : Calls Try.prog 37 #[.pointer none] w fun e w' => e = .returned (.slice none 0 0) ∧ w = w' := by
  go_enter Try.func37, Try.ntmps37
  go_wp2_with fail
  go_ret
  exact ⟨rfl, rfl⟩
theorem llen_nil (w : World) : Calls Try.prog 35 #[.pointer none] w fun e w' => e = .returned (.int .i64 0) ∧ w = w' := by
  go_enter Try.func35, Try.ntmps35
  go_wp2_with fail
  go_ret
  exact ⟨rfl, rfl⟩
end Go.Proofs.Ytclajmbmchaidaa
