/-
  gradinelaw06: right, long; what came in. No condition but that all reads.
-/
import Derived.Test.YtoadjmeopamgbaaStArg
import Derived.Test.YtoadjmeopamgbaaNest
import Derived.Test.YtoadjmeopamgbaaStView
import Derived.Test.YtoadjmeopamgbaaAgg4
namespace Go.Proofs.Ytoadjmeopamgbaa
open Go.RowKit

def ShOk (b s c k : Int) : Prop := 1 ≤ b ∧ b ≤ 32 ∧ 1 ≤ s ∧ s ≤ 16 ∧ 1 ≤ c ∧ c ≤ 4 ∧ 1 ≤ k ∧ k ≤ 4
instance (b s c k : Int) : Decidable (ShOk b s c k) := by unfold ShOk; infer_instance
theorem shape_of {b s c k : Int} (h : ShOk b s c k) : ∃ x : Sh, x.Ok ∧ b = (x.b : Nat) ∧ s = (x.s : Nat) ∧ c = (x.c : Nat) ∧ k = (x.k : Nat) := by
  unfold ShOk at h
  exact ⟨⟨b.toNat, s.toNat, c.toNat, k.toNat⟩, ⟨by show 1 ≤ b.toNat; omega, by show b.toNat ≤ 32; omega, by show 1 ≤ s.toNat; omega, by show s.toNat ≤ 16; omega, by show 1 ≤ c.toNat; omega, by show c.toNat ≤ 4; omega, by show 1 ≤ k.toNat; omega, by show k.toNat ≤ 4; omega⟩, by show b = ((b.toNat : Nat) : Int); omega, by show s = ((s.toNat : Nat) : Int); omega, by show c = ((c.toNat : Nat) : Int); omega, by show k = ((k.toNat : Nat) : Int); omega⟩
set_option maxHeartbeats 2000000 in
theorem rright (b s c k : Int) (r : Bool) (hr : decide (ShOk b s c k) = r) (w : World) :
    Calls Try.prog 28 #[.int .i64 b, .int .i64 s, .int .i64 c, .int .i64 k] w fun e w' => e = .returned (.bool r) ∧ Ext w w' := by
  subst hr
  unfold ShOk
  by_cases q0 : 1 ≤ b
  case neg =>
    go_enter Try.func28, Try.ntmps28
    go_wp2_with fail
    go_ret
    exact ⟨ret_bool (by first | (exact (decide_eq_false (by omega)).symm) | (simp; omega)), (by repeat' (first | (with_reducible exact Ext.refl _) | (with_reducible assumption) | (with_reducible refine Ext.alloc ?_ _) | (with_reducible refine Ext.drewN ?_ _) | (with_reducible refine Ext.drew ?_) | (with_reducible refine Ext.trans ?_ (by assumption))))⟩
  by_cases q1 : b ≤ 32
  case neg =>
    go_enter Try.func28, Try.ntmps28
    go_wp2_with fail
    go_ret
    exact ⟨ret_bool (by first | (exact (decide_eq_false (by omega)).symm) | (simp; omega)), (by repeat' (first | (with_reducible exact Ext.refl _) | (with_reducible assumption) | (with_reducible refine Ext.alloc ?_ _) | (with_reducible refine Ext.drewN ?_ _) | (with_reducible refine Ext.drew ?_) | (with_reducible refine Ext.trans ?_ (by assumption))))⟩
  by_cases q2 : 1 ≤ s
  case neg =>
    go_enter Try.func28, Try.ntmps28
    go_wp2_with fail
    go_ret
    exact ⟨ret_bool (by first | (exact (decide_eq_false (by omega)).symm) | (simp; omega)), (by repeat' (first | (with_reducible exact Ext.refl _) | (with_reducible assumption) | (with_reducible refine Ext.alloc ?_ _) | (with_reducible refine Ext.drewN ?_ _) | (with_reducible refine Ext.drew ?_) | (with_reducible refine Ext.trans ?_ (by assumption))))⟩
  by_cases q3 : s ≤ 16
  case neg =>
    go_enter Try.func28, Try.ntmps28
    go_wp2_with fail
    go_ret
    exact ⟨ret_bool (by first | (exact (decide_eq_false (by omega)).symm) | (simp; omega)), (by repeat' (first | (with_reducible exact Ext.refl _) | (with_reducible assumption) | (with_reducible refine Ext.alloc ?_ _) | (with_reducible refine Ext.drewN ?_ _) | (with_reducible refine Ext.drew ?_) | (with_reducible refine Ext.trans ?_ (by assumption))))⟩
  by_cases q4 : 1 ≤ c
  case neg =>
    go_enter Try.func28, Try.ntmps28
    go_wp2_with fail
    go_ret
    exact ⟨ret_bool (by first | (exact (decide_eq_false (by omega)).symm) | (simp; omega)), (by repeat' (first | (with_reducible exact Ext.refl _) | (with_reducible assumption) | (with_reducible refine Ext.alloc ?_ _) | (with_reducible refine Ext.drewN ?_ _) | (with_reducible refine Ext.drew ?_) | (with_reducible refine Ext.trans ?_ (by assumption))))⟩
  by_cases q5 : c ≤ 4
  case neg =>
    go_enter Try.func28, Try.ntmps28
    go_wp2_with fail
    go_ret
    exact ⟨ret_bool (by first | (exact (decide_eq_false (by omega)).symm) | (simp; omega)), (by repeat' (first | (with_reducible exact Ext.refl _) | (with_reducible assumption) | (with_reducible refine Ext.alloc ?_ _) | (with_reducible refine Ext.drewN ?_ _) | (with_reducible refine Ext.drew ?_) | (with_reducible refine Ext.trans ?_ (by assumption))))⟩
  by_cases q6 : 1 ≤ k
  case neg =>
    go_enter Try.func28, Try.ntmps28
    go_wp2_with fail
    go_ret
    exact ⟨ret_bool (by first | (exact (decide_eq_false (by omega)).symm) | (simp; omega)), (by repeat' (first | (with_reducible exact Ext.refl _) | (with_reducible assumption) | (with_reducible refine Ext.alloc ?_ _) | (with_reducible refine Ext.drewN ?_ _) | (with_reducible refine Ext.drew ?_) | (with_reducible refine Ext.trans ?_ (by assumption))))⟩
  by_cases q7 : k ≤ 4
  case neg =>
    go_enter Try.func28, Try.ntmps28
    go_wp2_with fail
    go_ret
    exact ⟨ret_bool (by first | (exact (decide_eq_false (by omega)).symm) | (simp; omega)), (by repeat' (first | (with_reducible exact Ext.refl _) | (with_reducible assumption) | (with_reducible refine Ext.alloc ?_ _) | (with_reducible refine Ext.drewN ?_ _) | (with_reducible refine Ext.drew ?_) | (with_reducible refine Ext.trans ?_ (by assumption))))⟩
  go_enter Try.func28, Try.ntmps28
  go_wp2_with fail
  go_ret
  exact ⟨ret_bool (by first | (exact (decide_eq_true (by omega)).symm) | (simp; omega)), (by repeat' (first | (with_reducible exact Ext.refl _) | (with_reducible assumption) | (with_reducible refine Ext.alloc ?_ _) | (with_reducible refine Ext.drewN ?_ _) | (with_reducible refine Ext.drew ?_) | (with_reducible refine Ext.trans ?_ (by assumption))))⟩

theorem lright (b s c k : Int) (r : Bool) (hr : decide (ShOk b s c k) = r) (w : World) :
    Calls Try.prog 11 #[.agg #[.int .i64 b, .int .i64 s, .int .i64 c, .int .i64 k]] w fun e w' => e = .returned (.bool r) ∧ Ext w w' := by
  have HR := Lib.hid (fun w' => rright b s c k r hr w')
  clear hr
  go_enter Try.func11, Try.ntmps11
  go_wp2_with fail
  refine (HR.out _).mono ?_
  rintro e w1 ⟨rfl, hx1⟩
  go_wp2_with fail
  go_ret
  exact ⟨rfl, (by repeat' (first | (with_reducible exact Ext.refl _) | (with_reducible assumption) | (with_reducible refine Ext.alloc ?_ _) | (with_reducible refine Ext.drewN ?_ _) | (with_reducible refine Ext.drew ?_) | (with_reducible refine Ext.trans ?_ (by assumption))))⟩

/-- acts as they came in: kind, number, write -/
def ActsAt (w : World) (n : Nat) (V : Nat → Nat → Value) (A : Nat → Int × Int × Wr) : Prop := ∀ i, i < n → V i 0 = .int .i64 (A i).1 ∧ V i 1 = .int .i64 (A i).2.1 ∧ V i 2 = .int .i64 (A i).2.2.c ∧ V i 3 = .int .i64 (A i).2.2.k ∧ V i 4 = .int .i64 (A i).2.2.b ∧ V i 5 = .int .i64 (A i).2.2.o ∧ V i 6 = .int .i64 (A i).2.2.bk ∧
  RdI .u8 w (V i 7) (A i).2.2.D ∧ WrOk (A i).2.2 ∧ (-9223372036854775808 ≤ (A i).2.1 ∧ (A i).2.1 ≤ 9223372036854775807)
theorem acts_of {w : World} {v : Value} (h : IsNest Try.prog 40 w v) : ∃ n V A, RdV 8 w v n V ∧ ActsAt w n V A := by
  obtain ⟨fs, n, V, he, hr, hc⟩ := h
  have hfs := he.symm.trans Try.underlying40
  simp only [Option.some.injEq, TypeDesc.struct.injEq] at hfs
  subst hfs
  have h8 : Try.prog.cellsOf 40 = 8 := by kernel_rfl
  rw [h8] at hr hc
  have each : ∀ i, ∃ t : Int × Int × Wr, i < n → V i 0 = .int .i64 t.1 ∧ V i 1 = .int .i64 t.2.1 ∧ V i 2 = .int .i64 t.2.2.c ∧ V i 3 = .int .i64 t.2.2.k ∧ V i 4 = .int .i64 t.2.2.b ∧ V i 5 = .int .i64 t.2.2.o ∧ V i 6 = .int .i64 t.2.2.bk ∧ RdI .u8 w (V i 7) t.2.2.D ∧ WrOk t.2.2 ∧ (-9223372036854775808 ≤ t.2.1 ∧ t.2.1 ≤ 9223372036854775807) := by
    intro i
    by_cases hi : i < n
    · obtain ⟨x0, h0, w0⟩ := ((hc i 0 _ hi rfl).1 (by kernel_rfl) (by decide)).int Try.underlying3
      obtain ⟨x1, h1, w1⟩ := ((hc i 1 _ hi rfl).1 (by kernel_rfl) (by decide)).int Try.underlying3
      have hw := (hc i 2 _ hi rfl).2 _ Try.underlying38 (by kernel_rfl) (by kernel_rfl) (by decide)
      obtain ⟨x2, h2, w2⟩ := (hw 0 _ rfl).int Try.underlying3
      obtain ⟨x3, h3, w3⟩ := (hw 1 _ rfl).int Try.underlying3
      obtain ⟨x4, h4, w4⟩ := (hw 2 _ rfl).int Try.underlying3
      obtain ⟨x5, h5, w5⟩ := (hw 3 _ rfl).int Try.underlying3
      obtain ⟨x6, h6, w6⟩ := (hw 4 _ rfl).int Try.underlying3
      obtain ⟨D, h7, w7⟩ := (hw 5 _ rfl).ints Try.underlying36 Try.underlying5 (by kernel_rfl)
      exact ⟨(x0, x1, ⟨x2, x3, x4, x5, x6, D⟩), fun _ => ⟨h0, h1, h2, h3, h4, h5, h6, h7, ⟨i64_bd w2, i64_bd w3, i64_bd w4, i64_bd w5, i64_bd w6, fun y hy => u8_bd (w7 y hy)⟩, i64_bd w1⟩⟩
    · exact ⟨(0, 0, ⟨0, 0, 0, 0, 0, []⟩), fun h => absurd h hi⟩
  obtain ⟨A, hA⟩ := Classical.axiomOfChoice each
  exact ⟨n, V, A, hr, hA⟩
end Go.Proofs.Ytoadjmeopamgbaa
