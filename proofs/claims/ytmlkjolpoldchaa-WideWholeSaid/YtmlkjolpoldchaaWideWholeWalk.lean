/-
  gradinelaw02.WideWhole answers true. No condition.
-/
import Derived.Test.YtmlkjolpoldchaaWide2
import Derived.Test.YtmlkjolpoldchaaFrac
namespace Go.Proofs.Ytmlkjolpoldchaa
open Go.RowKit

set_option maxHeartbeats 2000000 in
theorem walk_WideWhole (v0 v1 : Value) (w : World) (h0 : IsInt .u32 v0) (h1 : IsInt .u32 v1) :
    Calls Try.prog 6 #[v0, v1] w fun e w' => e = .returned (.bool true) ∧ Ext w w' := by
  obtain ⟨x, rfl, wx⟩ := h0
  obtain ⟨y, rfl, wy⟩ := h1
  obtain ⟨x0, x1⟩ := u32_bounds wx
  obtain ⟨y0, y1⟩ := u32_bounds wy
  clear wx wy
  have HP := parts_in x y
  have hsp := mul_split x y
  have XY : 0 ≤ x * y ∧ x * y ≤ 18446744065119617025 := by
    refine ⟨Int.mul_nonneg x0 y0, ?_⟩
    have := Int.mul_le_mul x1 y1 y0 (by omega)
    omega
  obtain ⟨P0, P1⟩ := mul_bd (a := x / 65536) (b := y / 65536) (by omega) (by omega) (by omega) (by omega)
  obtain ⟨Q0, Q1⟩ := mul_bd (a := x % 65536) (b := y % 65536) (by omega) (by omega) (by omega) (by omega)
  obtain ⟨M0, M1⟩ := mul_bd (a := x / 65536) (b := y % 65536) (by omega) (by omega) (by omega) (by omega)
  obtain ⟨N0, N1⟩ := mul_bd (a := x % 65536) (b := y / 65536) (by omega) (by omega) (by omega) (by omega)
  obtain ⟨MMa, MMb⟩ : 0 ≤ x / 65536 * (y % 65536) + x % 65536 * (y / 65536) ∧ x / 65536 * (y % 65536) + x % 65536 * (y / 65536) ≤ 8589672450 := by omega
  clear M0 M1 N0 N1
  generalize x / 65536 * (y % 65536) + x % 65536 * (y / 65536) = M at *
  generalize x / 65536 * (y / 65536) = P at *
  generalize x % 65536 * (y % 65536) = Q at *
  have hsum : P * 4294967296 + M * 65536 + Q ≤ 18446744065119617025 := by omega
  obtain ⟨xy0, xy1⟩ := XY
  have HS := Lib.hid hsp
  have HPP := Lib.hid (fun W => HP W x0 x1 y0 y1)
  clear hsp HP
  go_enter Try.func6, Try.ntmps6
  go_wp2_with fail
  refine (wakes02 _).mono ?_
  rintro e w1 ⟨rfl, hx1⟩
  go_wp2_with fail
  refine (HPP.out _).mono ?_
  rintro e w2 ⟨rfl, rfl⟩
  go_wp2_with fail
  go_ret
  refine ⟨ret_bool ?_, (by repeat' (first | (with_reducible exact Ext.refl _) | (with_reducible assumption) | (with_reducible refine Ext.alloc ?_ _) | (with_reducible refine Ext.drewN ?_ _) | (with_reducible refine Ext.drew ?_) | (with_reducible refine Ext.trans ?_ (by assumption))))⟩
  rw [HS.out]
  simp
end Go.Proofs.Ytmlkjolpoldchaa
