/-
  gradinelaw05.wakes. No condition.
-/
import Derived.Test.YtfnooojgkdjifaaDiskWr
namespace Go.Proofs.Ytfnooojgkdjifaa
open Go.RowKit

theorem wakes05 (w : World) : Calls Try.prog 13 #[] w fun e w' => e = .returned (.bool true) ∧ Ext w w' := by
  go_enter Try.func13, Try.ntmps13
  go_wp2_with fail
  refine (dnew_any 2 _ (by omega) (by omega)).mono ?_
  rintro e w1 ⟨p, bl, rfl, h1, hp, hb, hp1, hb1, hx1⟩
  have h1 := h1 [p, bl] (by simp) (by simp)
  have hS : ∀ s ∈ [p, bl], w.heap.size ≤ s := by simp; omega
  have hS1 : ∀ s ∈ [p], w.heap.size ≤ s := by simp; omega
  rw [show dskN 2 = 2 by decide] at h1
  go_wp2_with fail
  refine (dfuse_any _ p bl _ _ h1 1 (by decide)).mono ?_
  rintro e w2 ⟨rfl, h2, hc2⟩
  have hz2 := hc2.size
  have hx2 := hx1.chg hc2 hS1
  go_wp2_with fail
  refine (dwrite_any _ p bl _ _ (h2.ext (by repeat' (first | (with_reducible exact Ext.refl _) | (with_reducible assumption) | (with_reducible refine Ext.alloc ?_ _) | (with_reducible refine Ext.drewN ?_ _) | (with_reducible refine Ext.drew ?_) | (with_reducible refine Ext.trans ?_ (by assumption))))) 0 _ [1] (RdI.one .u8 _ 1 _) (by simp; omega)).mono ?_
  rintro e w3 ⟨rfl, h3, hc3⟩
  have hz3 := hc3.size
  simp at hz3
  have hx3 := (hx2.alloc _).chg hc3 hS
  rw [show ((⟨-1, false, List.replicate 2 []⟩ : Dk).fuseTo 1).bad 0 [1] = 0 by decide]
  rw [show ((⟨-1, false, List.replicate 2 []⟩ : Dk).fuseTo 1).wr 0 [1] = ⟨0, false, [[1], []]⟩ by rfl] at h3
  go_wp2_with fail
  refine (dwrite_any _ p bl _ _ (h3.ext (by repeat' (first | (with_reducible exact Ext.refl _) | (with_reducible assumption) | (with_reducible refine Ext.alloc ?_ _) | (with_reducible refine Ext.drewN ?_ _) | (with_reducible refine Ext.drew ?_) | (with_reducible refine Ext.trans ?_ (by assumption))))) 1 _ [1] (RdI.one .u8 _ 1 _) (by simp; omega)).mono ?_
  rintro e w4 ⟨rfl, h4, hc4⟩
  have hx4 := (hx3.alloc _).chg hc4 hS
  rw [show (⟨0, false, [[1], []]⟩ : Dk).bad 1 [1] = 8 by decide]
  rw [show (⟨0, false, [[1], []]⟩ : Dk).wr 1 [1] = ⟨0, true, [[1], []]⟩ by rfl] at h4
  go_wp2_with fail
  refine (ddown_any _ p bl _ _ h4).mono ?_
  rintro e w5 ⟨rfl, rfl⟩
  go_wp2_with fail
  go_ret
  exact ⟨rfl, hx4⟩
end Go.Proofs.Ytfnooojgkdjifaa
