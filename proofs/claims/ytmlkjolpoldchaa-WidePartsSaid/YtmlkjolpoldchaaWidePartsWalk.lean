/-
  gradinelaw02.WideParts answers true. No condition.
-/
import Derived.Test.YtmlkjolpoldchaaWide2
import Derived.Test.YtmlkjolpoldchaaFrac
namespace Go.Proofs.Ytmlkjolpoldchaa
open Go.RowKit

theorem ints_info : (Try.prog.info? 3).map (fun i => (i.zero, i.size, i.bytes)) = some (some (.int .i64 0), 1, 8) := by kernel_rfl

theorem refparts_in (x y : Int) (w : World) (x0 : 0 ≤ x) (x1 : x ≤ 4294967295) (y0 : 0 ≤ y) (y1 : y ≤ 4294967295) :
    Calls Try.prog 13 #[.int .i64 x, .int .i64 y] w fun e w' =>
      ∃ v', e = .returned v' ∧ OwnI .i64 3 w.heap.size w' v' [x / 65536 * (y / 65536), x / 65536 * (y % 65536) + x % 65536 * (y / 65536), x % 65536 * (y % 65536)] ∧ Ext w w' := by
  obtain ⟨P0, P1⟩ := mul_bd (a := x / 65536) (b := y / 65536) (by omega) (by omega) (by omega) (by omega)
  obtain ⟨Q0, Q1⟩ := mul_bd (a := x % 65536) (b := y % 65536) (by omega) (by omega) (by omega) (by omega)
  obtain ⟨M0, M1⟩ := mul_bd (a := x / 65536) (b := y % 65536) (by omega) (by omega) (by omega) (by omega)
  obtain ⟨N0, N1⟩ := mul_bd (a := x % 65536) (b := y / 65536) (by omega) (by omega) (by omega) (by omega)
  go_enter Try.func13, Try.ntmps13
  go_wp2_with (at_builtin; refine wpList_append_ints rfl _ _ 31 rfl 3 .i64 0 8 Try.underlying31 ints_info (by decide) w (by repeat' (first | (with_reducible exact Ext.refl _) | (with_reducible assumption) | (with_reducible refine Ext.alloc ?_ _) | (with_reducible refine Ext.drewN ?_ _) | (with_reducible refine Ext.drew ?_) | (with_reducible refine Ext.trans ?_ (by assumption)))) _ _ rfl (OwnI.nil _ _ _ _) _ _ rfl (RdI.lit .i64 w [x / 65536 * (y / 65536), x / 65536 * (y % 65536) + x % 65536 * (y / 65536), x % 65536 * (y % 65536)] _ (by simp [maxLen])) (by exact fits_small (by simp)) ?_)
  intro v1 w1 ho hx
  go_wp2_with fail
  go_ret
  exact ⟨_, rfl, ho, hx⟩

theorem small53 {n : Int} (h0 : 0 ≤ n) (h1 : n ≤ 4294967295) : n.natAbs < 2 ^ 53 := by
  have h53 : (2 : Nat) ^ 53 = 9007199254740992 := by decide
  omega

set_option maxHeartbeats 4000000 in
theorem walk_WideParts (v0 v1 : Value) (w : World) (h0 : IsInt .i64 v0) (h1 : IsInt .i64 v1) :
    Calls Try.prog 3 #[v0, v1] w fun e w' => e = .returned (.bool true) ∧ Ext w w' := by
  obtain ⟨x, rfl, wx⟩ := h0
  obtain ⟨y, rfl, wy⟩ := h1
  clear wx wy
  by_cases hx : 0 ≤ x ∧ x ≤ 4294967295
  · have HX := Lib.hid (fun W => word_is x W true (by simpa using hx))
    have HPo := Lib.hid (fun W => wPoint_in x W hx.1 hx.2)
    by_cases hy : 0 ≤ y ∧ y ≤ 4294967295
    · have HY := Lib.hid (fun W => word_is y W true (by simpa using hy))
      obtain ⟨x0, x1⟩ := hx
      obtain ⟨y0, y1⟩ := hy
      have HPa := parts_in x y
      have HRe := refparts_in x y
      obtain ⟨P0, P1⟩ := mul_bd (a := x / 65536) (b := y / 65536) (by omega) (by omega) (by omega) (by omega)
      generalize x / 65536 * (y % 65536) + x % 65536 * (y / 65536) = M at *
      generalize x / 65536 * (y / 65536) = P at *
      generalize x % 65536 * (y % 65536) = Q at *
      have HPP := Lib.hid (fun W => HPa W x0 x1 y0 y1)
      have HRR := Lib.hid (fun W => HRe W x0 x1 y0 y1)
      clear HPa HRe P0 P1
      go_enter Try.func3, Try.ntmps3
      go_wp2_with fail
      refine (wakes02 _).mono ?_
      rintro e w1 ⟨rfl, hx1⟩
      go_wp2_with fail
      refine (HPP.out _).mono ?_
      rintro e w2 ⟨rfl, rfl⟩
      go_wp2_with fail
      refine (HPo.out _).mono ?_
      rintro e w2 ⟨a, b, rfl, ha, hb, rfl⟩
      have f64s : (Try.prog.underlying 30).isSome = true := by rw [Try.underlying30]; rfl
      have c1 := fun w' => run_convert_float_int (P := Try.prog) w' 30 3 .f64 .i64 a (x / 65536) f64s Try.underlying3 (isF_toInt ha (small53 (by omega) (by omega)))
      have c2 := fun w' => run_convert_float_int (P := Try.prog) w' 30 3 .f64 .i64 b (x % 65536) f64s Try.underlying3 (isF_toInt hb (small53 (by omega) (by omega)))
      clear ha hb f64s
      go_wp2_with fail
      refine (HX.out _).mono ?_
      rintro e w2 ⟨rfl, rfl⟩
      go_wp2_with fail
      refine (HY.out _).mono ?_
      rintro e w2 ⟨rfl, rfl⟩
      go_wp2_with fail
      refine (HRR.out _).mono ?_
      rintro e w2 ⟨v2, rfl, ho2, hx2⟩
      obtain ⟨aa, cc, rfl, _, _, _, hs⟩ := ho2.rd.parts
      obtain ⟨bb, oo, rfl, hbb, hc⟩ := hs (by simp)
      have k0 := hc 0 (by simp)
      have k1 := hc 1 (by simp)
      have k2 := hc 2 (by simp)
      simp only [List.getD_cons_zero, List.getD_cons_succ, Nat.add_zero] at k0 k1 k2
      clear hs hc ho2
      go_wp2_with fail
      go_ret
      exact ⟨rfl, (by repeat' (first | (with_reducible exact Ext.refl _) | (with_reducible assumption) | (with_reducible refine Ext.alloc ?_ _) | (with_reducible refine Ext.drewN ?_ _) | (with_reducible refine Ext.drew ?_) | (with_reducible refine Ext.trans ?_ (by assumption))))⟩
    · have HY := Lib.hid (fun W => word_is y W false (by simpa using hy))
      have HPP := Lib.hid (fun W => parts_out x y W (.inr hy))
      obtain ⟨x0, x1⟩ := hx
      clear hy
      go_enter Try.func3, Try.ntmps3
      go_wp2_with fail
      refine (wakes02 _).mono ?_
      rintro e w1 ⟨rfl, hx1⟩
      go_wp2_with fail
      refine (HPP.out _).mono ?_
      rintro e w2 ⟨rfl, rfl⟩
      go_wp2_with fail
      refine (HPo.out _).mono ?_
      rintro e w2 ⟨a, b, rfl, ha, hb, rfl⟩
      have f64s : (Try.prog.underlying 30).isSome = true := by rw [Try.underlying30]; rfl
      have c1 := fun w' => run_convert_float_int (P := Try.prog) w' 30 3 .f64 .i64 a (x / 65536) f64s Try.underlying3 (isF_toInt ha (small53 (by omega) (by omega)))
      have c2 := fun w' => run_convert_float_int (P := Try.prog) w' 30 3 .f64 .i64 b (x % 65536) f64s Try.underlying3 (isF_toInt hb (small53 (by omega) (by omega)))
      clear ha hb f64s
      go_wp2_with fail
      refine (HX.out _).mono ?_
      rintro e w2 ⟨rfl, rfl⟩
      go_wp2_with fail
      refine (HY.out _).mono ?_
      rintro e w2 ⟨rfl, rfl⟩
      go_wp2_with fail
      go_ret
      exact ⟨rfl, (by repeat' (first | (with_reducible exact Ext.refl _) | (with_reducible assumption) | (with_reducible refine Ext.alloc ?_ _) | (with_reducible refine Ext.drewN ?_ _) | (with_reducible refine Ext.drew ?_) | (with_reducible refine Ext.trans ?_ (by assumption))))⟩
  · have HX := Lib.hid (fun W => word_is x W false (by simpa using hx))
    have HPo := Lib.hid (fun W => wPoint_out x W hx)
    have HPP := Lib.hid (fun W => parts_out x y W (.inl hx))
    have hz : FloatKind.f64.format.order 0 0 = some .eq := by decide +kernel
    clear hx
    go_enter Try.func3, Try.ntmps3
    go_wp2_with fail
    refine (wakes02 _).mono ?_
    rintro e w1 ⟨rfl, hx1⟩
    go_wp2_with fail
    refine (HPP.out _).mono ?_
    rintro e w2 ⟨rfl, rfl⟩
    go_wp2_with fail
    refine (HPo.out _).mono ?_
    rintro e w2 ⟨rfl, rfl⟩
    go_wp2_with fail
    refine (HX.out _).mono ?_
    rintro e w2 ⟨rfl, rfl⟩
    go_wp2_with fail
    go_ret
    exact ⟨rfl, (by repeat' (first | (with_reducible exact Ext.refl _) | (with_reducible assumption) | (with_reducible refine Ext.alloc ?_ _) | (with_reducible refine Ext.drewN ?_ _) | (with_reducible refine Ext.drew ?_) | (with_reducible refine Ext.trans ?_ (by assumption))))⟩
end Go.Proofs.Ytmlkjolpoldchaa
