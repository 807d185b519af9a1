/-
  gradinelaw02.WideMul answers true. No condition.
-/
import Derived.Test.YtmlkjolpoldchaaWide2
import Derived.Test.YtmlkjolpoldchaaFrac
namespace Go.Proofs.Ytmlkjolpoldchaa
open Go.RowKit

set_option maxHeartbeats 1000000 in
theorem walk_WideMul (v0 v1 : Value) (w : World) (h0 : IsInt .i64 v0) (h1 : IsInt .i64 v1) :
    Calls Try.prog 4 #[v0, v1] w fun e w' => e = .returned (.bool true) ∧ Ext w w' := by
  obtain ⟨x, rfl, wx⟩ := h0
  obtain ⟨y, rfl, wy⟩ := h1
  clear wx wy
  by_cases hx : 0 ≤ x ∧ x ≤ 2147483647
  · by_cases hy : 0 ≤ y ∧ y ≤ 2147483647
    · have HX := Lib.hid (fun W => plain_is x W true (by simpa using hx))
      have HY := Lib.hid (fun W => plain_is y W true (by simpa using hy))
      obtain ⟨x0, x1⟩ := hx
      obtain ⟨y0, y1⟩ := hy
      have HM := Lib.hid (fun W => mul_in x y W x0 x1 y0 y1)
      obtain ⟨m0, m1⟩ := nonneg_mul_bd x0 x1 y0 y1
      go_enter Try.func4, Try.ntmps4
      go_wp2_with fail
      refine (wakes02 _).mono ?_
      rintro e w1 ⟨rfl, hx1⟩
      go_wp2_with fail
      refine (HM.out _).mono ?_
      rintro e w2 ⟨rfl, rfl⟩
      go_wp2_with fail
      refine (HX.out _).mono ?_
      rintro e w2 ⟨rfl, rfl⟩
      go_wp2_with fail
      refine (HY.out _).mono ?_
      rintro e w2 ⟨rfl, rfl⟩
      go_wp2_with fail
      go_ret
      exact ⟨ret_bool (by simp), (by repeat' (first | (with_reducible exact Ext.refl _) | (with_reducible assumption) | (with_reducible refine Ext.alloc ?_ _) | (with_reducible refine Ext.drewN ?_ _) | (with_reducible refine Ext.drew ?_) | (with_reducible refine Ext.trans ?_ (by assumption))))⟩
    · have HX := Lib.hid (fun W => plain_is x W true (by simpa using hx))
      have HY := Lib.hid (fun W => plain_is y W false (by simpa using hy))
      have HM := Lib.hid (fun W => mul_out x y W (.inr hy))
      clear hx hy
      go_enter Try.func4, Try.ntmps4
      go_wp2_with fail
      refine (wakes02 _).mono ?_
      rintro e w1 ⟨rfl, hx1⟩
      go_wp2_with fail
      refine (HM.out _).mono ?_
      rintro e w2 ⟨rfl, rfl⟩
      go_wp2_with fail
      refine (HX.out _).mono ?_
      rintro e w2 ⟨rfl, rfl⟩
      go_wp2_with fail
      refine (HY.out _).mono ?_
      rintro e w2 ⟨rfl, rfl⟩
      go_wp2_with fail
      go_ret
      exact ⟨rfl, (by repeat' (first | (with_reducible exact Ext.refl _) | (with_reducible assumption) | (with_reducible refine Ext.alloc ?_ _) | (with_reducible refine Ext.drewN ?_ _) | (with_reducible refine Ext.drew ?_) | (with_reducible refine Ext.trans ?_ (by assumption))))⟩
  · have HX := Lib.hid (fun W => plain_is x W false (by simpa using hx))
    have HM := Lib.hid (fun W => mul_out x y W (.inl hx))
    clear hx
    go_enter Try.func4, Try.ntmps4
    go_wp2_with fail
    refine (wakes02 _).mono ?_
    rintro e w1 ⟨rfl, hx1⟩
    go_wp2_with fail
    refine (HM.out _).mono ?_
    rintro e w2 ⟨rfl, rfl⟩
    go_wp2_with fail
    refine (HX.out _).mono ?_
    rintro e w2 ⟨rfl, rfl⟩
    go_wp2_with fail
    go_ret
    exact ⟨rfl, (by repeat' (first | (with_reducible exact Ext.refl _) | (with_reducible assumption) | (with_reducible refine Ext.alloc ?_ _) | (with_reducible refine Ext.drewN ?_ _) | (with_reducible refine Ext.drew ?_) | (with_reducible refine Ext.trans ?_ (by assumption))))⟩
end Go.Proofs.Ytmlkjolpoldchaa
