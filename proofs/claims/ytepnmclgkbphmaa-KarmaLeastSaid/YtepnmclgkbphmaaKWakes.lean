/-
  gradinelaw14.wakes. No condition.
-/
import Derived.Test.YtepnmclgkbphmaaKLay
namespace Go.Proofs.Ytepnmclgkbphmaa
open Go.RowKit

def F14 (i j : Nat) : Int := if i = 0 then (if j = 0 then 0 else if j = 1 then 2 else 1) else (if j = 0 then 2 else if j = 1 then 1 else 5)
def c14 (t : Nat) : Nat := if t < 3 then 1 else 0
theorem f14_ok : HsOk 2 F14 3 := by
  refine ⟨fun i hi => ?_, fun i j hij hj b h1 h2 => ?_, by omega⟩
  · have : i = 0 ∨ i = 1 := by omega
    rcases this with rfl | rfl <;> simp [HOk, F14]
  · obtain rfl : i = 0 := by omega
    obtain rfl : j = 1 := by omega
    simp [HIn, F14] at h1 h2
    omega
theorem c14_ok : CapsOk c14 := ⟨fun t => by unfold c14; split <;> omega, fun t ht => by unfold c14; rw [if_pos ht]; omega⟩
theorem ord14 : Ord (kT 2 F14) (kB 2 F14) 2 [1, 0] := by
  refine ⟨by decide, ?_⟩
  simp [bf, dl, kT, kB, F14]
theorem rd14 (w : World) : RdH (w.alloc (.cells #[.int .i64 0, .int .i64 2, .int .i64 1, .bool false, .int .i64 2, .int .i64 1, .int .i64 5, .bool false] 44)) (.slice (some ⟨w.heap.size, 0, none⟩) 2 2) 2 F14 (fun _ => false) := by
  refine ⟨_, _, rfl, Nat.le_refl _, by simp [maxLen], fun e => (by cases e), fun _ => ⟨w.heap.size, 0, rfl, by simp, fun i f hi hf => ?_⟩⟩
  have hi2 : i = 0 ∨ i = 1 := by omega
  have hf4 : f = 0 ∨ f = 1 ∨ f = 2 ∨ f = 3 := by omega
  rcases hi2 with rfl | rfl <;> rcases hf4 with rfl | rfl | rfl | rfl <;> exact cell_new _ _ _ _ rfl
theorem pr14 : PR F14 c14 [1, 0] 0 0 = 0 ∧ PR F14 c14 [1, 0] 0 1 = 1 ∧ PR F14 c14 [1, 0] 0 2 = 1 ∧ PR F14 c14 [1, 0] 0 3 = 0 ∧ PR F14 c14 [1, 0] 1 0 = 1 ∧ PR F14 c14 [1, 0] 1 1 = 0 ∧ PR F14 c14 [1, 0] 1 2 = 0 ∧ PR F14 c14 [1, 0] 1 3 = 0 := by
  refine ⟨?_, ?_, ?_, ?_, ?_, ?_, ?_, ?_⟩ <;> rfl
set_option maxHeartbeats 2000000 in
theorem wakes14 (w : World) : Calls Try.prog 10 #[] w fun e w' => e = .returned (.bool true) ∧ Ext w w' := by
  have HR := Lib.hid (rd14 w)
  have HN := Lib.hid (fun w' v (h : RdH w' v 2 F14 (fun _ => false)) => (knew_ok v 2 F14 (fun _ => false) 3 w' h (by omega) (fun i j hi hj => by
    have hi2 : i = 0 ∨ i = 1 := by omega
    have hj3 : j = 0 ∨ j = 1 ∨ j = 2 := by omega
    rcases hi2 with rfl | rfl <;> rcases hj3 with rfl | rfl | rfl <;> decide) c14 c14_ok (by omega) f14_ok : Calls Try.prog 12 #[v, .int .i64 3, .agg #[.int .i64 1, .int .i64 1, .int .i64 1]] w' _))
  go_enter Try.func10, Try.ntmps10
  go_wp2_with fail
  refine (HN.out _ _ HR.out).mono ?_
  rintro e w1 ⟨p, M, rfl, hp, hpl, hx1⟩
  obtain rfl := ord_one hpl.ord ord14
  have HP := Lib.hid (kparts p 3 c14 2 F14 _ [1, 0] w1 hpl)
  clear hpl
  go_wp2_with fail
  refine HP.out.mono ?_
  rintro e w2 ⟨v', rfl, hr2, _, hx2⟩
  obtain ⟨a, c, rfl, h1, h2, _, hs⟩ := hr2
  obtain ⟨b, o, rfl, hb, hcell⟩ := hs (by omega)
  obtain ⟨p0, p1, p2, p3, p4, p5, p6, p7⟩ := pr14
  have y0 := hcell 0 0 (by omega) (by omega)
  have y1 := hcell 0 1 (by omega) (by omega)
  have y2 := hcell 0 2 (by omega) (by omega)
  have y3 := hcell 0 3 (by omega) (by omega)
  have y4 := hcell 1 0 (by omega) (by omega)
  have y5 := hcell 1 1 (by omega) (by omega)
  have y6 := hcell 1 2 (by omega) (by omega)
  have y7 := hcell 1 3 (by omega) (by omega)
  simp only [PV, p0, p1, p2, p3, p4, p5, p6, p7, Nat.zero_mul, Nat.one_mul, Nat.zero_add, Nat.add_zero, ← Nat.add_assoc] at y0 y1 y2 y3 y4 y5 y6 y7
  have e0 := arr4_eq 0 1 1 0
  have e1 := arr4_eq 1 0 0 0
  clear hs hcell p0 p1 p2 p3 p4 p5 p6 p7 hb
  go_wp2_with fail
  go_ret
  exact ⟨rfl, (by repeat' (first | (with_reducible exact Ext.refl _) | (with_reducible assumption) | (with_reducible refine Ext.alloc ?_ _) | (with_reducible refine Ext.drewN ?_ _) | (with_reducible refine Ext.drew ?_) | (with_reducible refine Ext.trans ?_ (by assumption))))⟩
end Go.Proofs.Ytepnmclgkbphmaa
