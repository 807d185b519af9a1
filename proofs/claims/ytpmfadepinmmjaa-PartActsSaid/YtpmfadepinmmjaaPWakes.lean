/-
  gradinelaw15.wakes, long. No condition.
-/
import Derived.Test.YtpmfadepinmmjaaPart3
namespace Go.Proofs.Ytpmfadepinmmjaa
open Go.RowKit

def F15 (_ j : Nat) : Int := if j = 0 then 0 else if j = 1 then 3 else 1
def c15 (t : Nat) : Nat := if t = 0 then 2 else if t < 3 then 1 else 0
theorem f15_ok : HsOk 1 F15 3 := by
  refine ⟨fun i hi => ?_, fun i j hij hj => by omega, by omega⟩
  simp [HOk, F15]
theorem c15_ok : CapsOk c15 := by
  refine ⟨fun t => ?_, fun t ht => ?_⟩
  · unfold c15; split <;> (try split) <;> omega
  · unfold c15; (repeat' split) <;> omega
theorem ord15 : Ord (kT 1 F15) (kB 1 F15) 1 [0] := ⟨by decide, by simp⟩
theorem rd15 (w : World) : RdH (w.alloc (.cells #[.int .i64 0, .int .i64 3, .int .i64 1, .bool true] 58)) (.slice (some ⟨w.heap.size, 0, none⟩) 1 1) 1 F15 (fun _ => true) := by
  refine ⟨_, _, rfl, Nat.le_refl _, by simp [maxLen], fun e => (by cases e), fun _ => ⟨w.heap.size, 0, rfl, by simp, fun i f hi hf => ?_⟩⟩
  obtain rfl : i = 0 := by omega
  have hf4 : f = 0 ∨ f = 1 ∨ f = 2 ∨ f = 3 := by omega
  rcases hf4 with rfl | rfl | rfl | rfl <;> exact cell_new _ _ _ _ rfl
theorem rng15 {b : Int} (h0 : 0 ≤ b) (h3 : b < 3) : RngB 1 F15 b true 0 := .inr ⟨rfl, by omega, by unfold HIn F15; simp; omega⟩
set_option maxHeartbeats 2000000 in
theorem wakes15 (w : World) : Calls Try.prog 7 #[] w fun e w' => e = .returned (.bool true) ∧ Ext w w' := by
  have HR := Lib.hid (rd15 w)
  have HN := Lib.hid (fun w' v (h : RdH w' v 1 F15 (fun _ => true)) => (knew_ok v 1 F15 (fun _ => true) 3 w' h (by omega) (fun i j hi hj => by
    obtain rfl : i = 0 := by omega
    have hj3 : j = 0 ∨ j = 1 ∨ j = 2 := by omega
    rcases hj3 with rfl | rfl | rfl <;> decide) c15 c15_ok (by omega) f15_ok : Calls Try.prog 9 #[v, .int .i64 3, .agg #[.int .i64 2, .int .i64 1, .int .i64 1]] w' _))
  go_enter Try.func7, Try.ntmps7
  go_wp2_with fail
  refine (HN.out _ _ HR.out).mono ?_
  rintro e w1 ⟨p, M, rfl, hp, hpl, hx1⟩
  obtain rfl := ord_one hpl.ord ord15
  have HP := Lib.hid (pnew p 1 3 c15 1 F15 _ [0] w1 hpl (by omega))
  clear hpl
  go_wp2_with fail
  refine HP.out.mono ?_
  rintro e w2 ⟨pc, bs, be, rfl, hpa, hbs, hbe, hx2⟩
  have hX1 : Ext w w1 := (by repeat' (first | (with_reducible exact Ext.refl _) | (with_reducible assumption) | (with_reducible refine Ext.alloc ?_ _) | (with_reducible refine Ext.drewN ?_ _) | (with_reducible refine Ext.drew ?_) | (with_reducible refine Ext.trans ?_ (by assumption))))
  have hX2 : Ext w w2 := hX1.trans hx2
  have hsz1 := hX1.size
  have hws : ∀ s ∈ [bs, be], w.heap.size ≤ s := by simp; omega
  have HWS := Lib.hid hws
  have HA := Lib.hid hpa
  clear hpa hws hbs hbe hx1 hx2
  go_wp2_with fail
  refine (padd_in pc p bs be 1 3 c15 1 F15 _ [0] _ w2 HA.out 0 0 0 rfl (rng15 (by omega) (by omega)) (0, false, 0, [0]) rfl).mono ?_
  rintro e w3 ⟨rfl, hp3, hc3⟩
  have HP3 := Lib.hid hp3
  clear hp3
  go_wp2_with fail
  refine (padd_in pc p bs be 1 3 c15 1 F15 _ [0] _ w3 HP3.out 1 1 0 rfl (rng15 (by omega) (by omega)) (0, false, 0, [1, 0]) rfl).mono ?_
  rintro e w4 ⟨rfl, hp4, hc4⟩
  have HP4 := Lib.hid hp4
  clear hp4
  go_wp2_with fail
  refine (padd_in pc p bs be 1 3 c15 1 F15 _ [0] _ w4 HP4.out 2 2 0 rfl (rng15 (by omega) (by omega)) (1, true, 0, [2, 0]) rfl).mono ?_
  rintro e w5 ⟨rfl, _, hc5⟩
  have hx5 : Ext w w5 := Ext.chg hX2 ((hc3.trans hc4).trans hc5) HWS.out
  go_wp2_with fail
  go_ret
  exact ⟨rfl, hx5⟩
theorem plong (a : Option Addr) (n cc : Nat) (hn : (n : Int) ≤ 9223372036854775807) (bl k0 k1 k2 : Int) (a2 : Option Addr) (n2 cc2 : Nat) (hn2 : (n2 : Int) ≤ 9223372036854775807) (w : World) (r : Bool) (hr : decide (20 < n ∨ 150 < n2) = r) :
    Calls Try.prog 8 #[.agg #[.slice a n cc, .int .i64 bl, .int .i64 k0, .int .i64 k1, .int .i64 k2], .slice a2 n2 cc2] w fun e w' => e = .returned (.bool r) ∧ Ext w w' := by
  by_cases h1 : 20 < n
  · have h1i : (20 : Int) < (n : Int) := by omega
    go_enter Try.func8, Try.ntmps8
    go_wp2_with fail
    go_ret
    exact ⟨ret_bool (by rw [← hr]; symm; exact decide_eq_true (.inl h1)), (by repeat' (first | (with_reducible exact Ext.refl _) | (with_reducible assumption) | (with_reducible refine Ext.alloc ?_ _) | (with_reducible refine Ext.drewN ?_ _) | (with_reducible refine Ext.drew ?_) | (with_reducible refine Ext.trans ?_ (by assumption))))⟩
  · have h1i : ¬ (20 : Int) < (n : Int) := by omega
    by_cases h2 : 150 < n2
    · have h2i : (150 : Int) < (n2 : Int) := by omega
      go_enter Try.func8, Try.ntmps8
      go_wp2_with fail
      go_ret
      exact ⟨ret_bool (by rw [← hr]; symm; exact decide_eq_true (.inr h2)), (by repeat' (first | (with_reducible exact Ext.refl _) | (with_reducible assumption) | (with_reducible refine Ext.alloc ?_ _) | (with_reducible refine Ext.drewN ?_ _) | (with_reducible refine Ext.drew ?_) | (with_reducible refine Ext.trans ?_ (by assumption))))⟩
    · have h2i : ¬ (150 : Int) < (n2 : Int) := by omega
      go_enter Try.func8, Try.ntmps8
      go_wp2_with fail
      go_ret
      exact ⟨ret_bool (by rw [← hr]; symm; exact decide_eq_false (fun h => h.elim h1 h2)), (by repeat' (first | (with_reducible exact Ext.refl _) | (with_reducible assumption) | (with_reducible refine Ext.alloc ?_ _) | (with_reducible refine Ext.drewN ?_ _) | (with_reducible refine Ext.drew ?_) | (with_reducible refine Ext.trans ?_ (by assumption))))⟩
end Go.Proofs.Ytpmfadepinmmjaa
