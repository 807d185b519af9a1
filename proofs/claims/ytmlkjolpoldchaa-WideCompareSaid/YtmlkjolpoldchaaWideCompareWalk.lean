/-
  gradinelaw02.WideCompare answers true. No condition.
-/
import Derived.Test.YtmlkjolpoldchaaWide2
import Derived.Test.YtmlkjolpoldchaaFrac
namespace Go.Proofs.Ytmlkjolpoldchaa
open Go.RowKit

theorem cmpF_flip (a b c d : Int) : (cmpF c d a b == -(cmpF a b c d)) = true := by
  rw [beq_iff_eq]
  unfold cmpF
  split <;> split <;> (try split) <;> (try split) <;> omega
theorem cmpF_bd (a b c d : Int) : -1 ≤ cmpF a b c d ∧ cmpF a b c d ≤ 1 := by
  unfold cmpF; split <;> (try split) <;> omega

set_option maxHeartbeats 2000000 in
theorem walk_WideCompare (v0 v1 : Value) (w : World) (h0 : IsFrac v0) (h1 : IsFrac v1) :
    Calls Try.prog 5 #[v0, v1] w fun e w' => e = .returned (.bool true) ∧ Ext w w' := by
  obtain ⟨a, b, rfl, _, _⟩ := h0
  obtain ⟨c, d, rfl, _, _⟩ := h1
  cases hr1 : rightB a b
  · have HR := Lib.hid (fun W => refright_is a b W false hr1)
    have HC := Lib.hid (fun W => compare_out a b c d W (.inl hr1))
    have HD := Lib.hid (fun W => compare_out c d a b W (.inr hr1))
    clear hr1
    go_enter Try.func5, Try.ntmps5
    go_wp2_with fail
    refine (wakes02 _).mono ?_
    rintro e w1 ⟨rfl, hx1⟩
    have p0 := hx1.cellv (b := w.heap.size + 1) (o := 0) (u := .int .i64 c) (by simp)
    have p1 := hx1.cellv (b := w.heap.size + 1) (o := 1) (u := .int .i64 d) (by simp)
    have q0 := hx1.cellv (b := w.heap.size) (o := 0) (u := .int .i64 a) (by simp)
    have q1 := hx1.cellv (b := w.heap.size) (o := 1) (u := .int .i64 b) (by simp)
    go_wp2_with fail
    refine (HC.out _).mono ?_
    rintro e w2 ⟨rfl, hx2⟩
    replace p0 := hx2.cellv p0
    replace p1 := hx2.cellv p1
    replace q0 := hx2.cellv q0
    replace q1 := hx2.cellv q1
    go_wp2_with fail
    refine (HD.out _).mono ?_
    rintro e w3 ⟨rfl, hx3⟩
    replace p0 := hx3.cellv p0
    replace p1 := hx3.cellv p1
    replace q0 := hx3.cellv q0
    replace q1 := hx3.cellv q1
    go_wp2_with fail
    refine (HR.out _).mono ?_
    rintro e w4 ⟨rfl, rfl⟩
    go_wp2_with fail
    go_ret
    exact ⟨rfl, (by repeat' (first | (with_reducible exact Ext.refl _) | (with_reducible assumption) | (with_reducible refine Ext.alloc ?_ _) | (with_reducible refine Ext.drewN ?_ _) | (with_reducible refine Ext.drew ?_) | (with_reducible refine Ext.trans ?_ (by assumption))))⟩
  · cases hr2 : rightB c d
    · have HR := Lib.hid (fun W => refright_is a b W true hr1)
      have HS := Lib.hid (fun W => refright_is c d W false hr2)
      have HC := Lib.hid (fun W => compare_out a b c d W (.inr hr2))
      have HD := Lib.hid (fun W => compare_out c d a b W (.inl hr2))
      clear hr1 hr2
      go_enter Try.func5, Try.ntmps5
      go_wp2_with fail
      refine (wakes02 _).mono ?_
      rintro e w1 ⟨rfl, hx1⟩
      have p0 := hx1.cellv (b := w.heap.size + 1) (o := 0) (u := .int .i64 c) (by simp)
      have p1 := hx1.cellv (b := w.heap.size + 1) (o := 1) (u := .int .i64 d) (by simp)
      have q0 := hx1.cellv (b := w.heap.size) (o := 0) (u := .int .i64 a) (by simp)
      have q1 := hx1.cellv (b := w.heap.size) (o := 1) (u := .int .i64 b) (by simp)
      go_wp2_with fail
      refine (HC.out _).mono ?_
      rintro e w2 ⟨rfl, hx2⟩
      replace p0 := hx2.cellv p0
      replace p1 := hx2.cellv p1
      replace q0 := hx2.cellv q0
      replace q1 := hx2.cellv q1
      go_wp2_with fail
      refine (HD.out _).mono ?_
      rintro e w3 ⟨rfl, hx3⟩
      replace p0 := hx3.cellv p0
      replace p1 := hx3.cellv p1
      replace q0 := hx3.cellv q0
      replace q1 := hx3.cellv q1
      go_wp2_with fail
      refine (HR.out _).mono ?_
      rintro e w4 ⟨rfl, rfl⟩
      go_wp2_with fail
      refine (HS.out _).mono ?_
      rintro e w4 ⟨rfl, rfl⟩
      go_wp2_with fail
      go_ret
      exact ⟨rfl, (by repeat' (first | (with_reducible exact Ext.refl _) | (with_reducible assumption) | (with_reducible refine Ext.alloc ?_ _) | (with_reducible refine Ext.drewN ?_ _) | (with_reducible refine Ext.drew ?_) | (with_reducible refine Ext.trans ?_ (by assumption))))⟩
    · have HR := Lib.hid (fun W => refright_is a b W true hr1)
      have HS := Lib.hid (fun W => refright_is c d W true hr2)
      have HC := Lib.hid (fun W => compare_in a b c d W hr1 hr2)
      have HD := Lib.hid (fun W => compare_in c d a b W hr2 hr1)
      have HE := Lib.hid (fun W => refcompare_in a b c d W hr1 hr2)
      have HU := Lib.hid (fun W => wRight_is a b W true hr1)
      have HV := Lib.hid (fun W => wRight_is c d W true hr2)
      have hf := cmpF_flip a b c d
      obtain ⟨z0, z1⟩ := cmpF_bd a b c d
      generalize cmpF a b c d = z at *
      generalize cmpF c d a b = z2 at *
      clear hr1 hr2
      have hzz : (z == z) = true := by simp
      go_enter Try.func5, Try.ntmps5
      go_wp2_with fail
      refine (wakes02 _).mono ?_
      rintro e w1 ⟨rfl, hx1⟩
      have p0 := hx1.cellv (b := w.heap.size + 1) (o := 0) (u := .int .i64 c) (by simp)
      have p1 := hx1.cellv (b := w.heap.size + 1) (o := 1) (u := .int .i64 d) (by simp)
      have q0 := hx1.cellv (b := w.heap.size) (o := 0) (u := .int .i64 a) (by simp)
      have q1 := hx1.cellv (b := w.heap.size) (o := 1) (u := .int .i64 b) (by simp)
      go_wp2_with fail
      refine (HC.out _).mono ?_
      rintro e w2 ⟨rfl, hx2⟩
      replace p0 := hx2.cellv p0
      replace p1 := hx2.cellv p1
      replace q0 := hx2.cellv q0
      replace q1 := hx2.cellv q1
      go_wp2_with fail
      refine (HD.out _).mono ?_
      rintro e w3 ⟨rfl, hx3⟩
      replace p0 := hx3.cellv p0
      replace p1 := hx3.cellv p1
      replace q0 := hx3.cellv q0
      replace q1 := hx3.cellv q1
      go_wp2_with fail
      refine (HR.out _).mono ?_
      rintro e w4 ⟨rfl, rfl⟩
      go_wp2_with fail
      refine (HS.out _).mono ?_
      rintro e w4 ⟨rfl, rfl⟩
      go_wp2_with fail
      refine (HU.out _).mono ?_
      rintro e w4 ⟨rfl, hx4⟩
      replace p0 := hx4.cellv p0
      replace p1 := hx4.cellv p1
      replace q0 := hx4.cellv q0
      replace q1 := hx4.cellv q1
      go_wp2_with fail
      refine (HV.out _).mono ?_
      rintro e w5 ⟨rfl, hx5⟩
      replace p0 := hx5.cellv p0
      replace p1 := hx5.cellv p1
      replace q0 := hx5.cellv q0
      replace q1 := hx5.cellv q1
      go_wp2_with fail
      refine (HE.out _).mono ?_
      rintro e w6 ⟨rfl, rfl⟩
      go_wp2_with fail
      go_ret
      exact ⟨rfl, (by repeat' (first | (with_reducible exact Ext.refl _) | (with_reducible assumption) | (with_reducible refine Ext.alloc ?_ _) | (with_reducible refine Ext.drewN ?_ _) | (with_reducible refine Ext.drew ?_) | (with_reducible refine Ext.trans ?_ (by assumption))))⟩
end Go.Proofs.Ytmlkjolpoldchaa
