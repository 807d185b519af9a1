/-
  gradinelaw04.wakes, gradineref04.Fields. No condition.
-/
import Derived.Test.YtmkobmkaalfecaaMsPut
import Derived.Test.YtmkobmkaalfecaaStruct
namespace Go.Proofs.Ytmkobmkaalfecaa
open Go.RowKit

def N7 (f : Nat) : Int := if f = 5 then 3 else if f = 7 then 5 else 0
theorem n7_ok : MOk 7 N7 false 0 := by
  refine ⟨by decide, ?_⟩
  have : ∀ f, f < 11 → 1 ≤ f → fOk 7 N7 false 0 f = true := by decide
  intro f h1 h10
  exact this f (by omega) h1
theorem n7_bytes : mB 7 N7 false [] = [7, 3, 5] := by
  have e7 : enc (7 : Int).toNat = [7] := by rw [show (7 : Int).toNat = 7 from rfl, enc_lt (by omega)]; rfl
  have e3 : enc 3 = [3] := by rw [enc_lt (by omega)]; rfl
  have e5 : enc 5 = [5] := by rw [enc_lt (by omega)]; rfl
  unfold mB
  rw [show fieldsOf 7 = [5, 7] by decide, e7]
  simp [fB, N7, e3, e5]
theorem wakes04 (w : World) : Calls Try.prog 38 #[] w fun e w' => e = .returned (.bool true) ∧ Ext w w' := by
  have HP : ∀ w, Calls Try.prog 44 #[.agg #[.int .i64 7, .int .i64 0, .int .i64 0, .int .i64 0, .int .i64 0, .int .i64 3, .int .i64 0, .int .i64 5, .int .i64 0, .bool false, .slice none 0 0]] w fun e w' => ∃ v', e = .returned (.tuple #[v', .int .i64 0]) ∧ OwnI .u8 5 w.heap.size w' v' (mB 7 N7 false []) ∧ Ext w w' :=
    fun w => mput_ok 7 N7 false (.slice none 0 0) [] w (RdI.nil _ _) n7_ok
  have HP := Lib.hid HP
  go_enter Try.func38, Try.ntmps38
  go_wp2_with fail
  refine (HP.out _).mono ?_
  rintro e w1 ⟨v1, rfl, ho1, hx1⟩
  rw [n7_bytes] at ho1
  go_wp2_with fail
  refine (same_any _ _ [7, 3, 5] [7, 3, 5] _ (ho1.rd.ext (by repeat' (first | (with_reducible exact Ext.refl _) | (with_reducible assumption) | (with_reducible refine Ext.alloc ?_ _) | (with_reducible refine Ext.drewN ?_ _) | (with_reducible refine Ext.drew ?_) | (with_reducible refine Ext.trans ?_ (by assumption))))) (RdI.lit .u8 _ [7, 3, 5] _ (by simp [maxLen]))).mono ?_
  rintro e w2 ⟨rfl, hx2⟩
  go_wp2_with fail
  go_ret
  exact ⟨rfl, (by repeat' (first | (with_reducible exact Ext.refl _) | (with_reducible assumption) | (with_reducible refine Ext.alloc ?_ _) | (with_reducible refine Ext.drewN ?_ _) | (with_reducible refine Ext.drew ?_) | (with_reducible refine Ext.trans ?_ (by assumption))))⟩

theorem rfields (k : Int) (w : World) : Calls Try.prog 41 #[.int .i64 k] w fun e w' => ∃ v, e = .returned v ∧ RdI .i64 w' v (zints (fieldsOf k)) ∧ Ext w w' := by
  by_cases h : 1 ≤ k ∧ k ≤ 14
  · obtain ⟨h1, h14⟩ := h
    have : k = 1 ∨ k = 2 ∨ k = 3 ∨ k = 4 ∨ k = 5 ∨ k = 6 ∨ k = 7 ∨ k = 8 ∨ k = 9 ∨ k = 10 ∨ k = 11 ∨ k = 12 ∨ k = 13 ∨ k = 14 := by omega
    clear h1 h14
    rcases this with rfl | rfl | rfl | rfl | rfl | rfl | rfl | rfl | rfl | rfl | rfl | rfl | rfl | rfl
    · go_enter Try.func41, Try.ntmps41
      go_wp2_with fail
      go_ret
      exact ⟨_, rfl, RdI.lit_at [2, 4, 5, 6] rfl rfl rfl (by simp [maxLen]), (by repeat' (first | (with_reducible exact Ext.refl _) | (with_reducible assumption) | (with_reducible refine Ext.alloc ?_ _) | (with_reducible refine Ext.drewN ?_ _) | (with_reducible refine Ext.drew ?_) | (with_reducible refine Ext.trans ?_ (by assumption))))⟩
    · go_enter Try.func41, Try.ntmps41
      go_wp2_with fail
      go_ret
      exact ⟨_, rfl, RdI.lit_at [2, 4, 5, 6, 10] rfl rfl rfl (by simp [maxLen]), (by repeat' (first | (with_reducible exact Ext.refl _) | (with_reducible assumption) | (with_reducible refine Ext.alloc ?_ _) | (with_reducible refine Ext.drewN ?_ _) | (with_reducible refine Ext.drew ?_) | (with_reducible refine Ext.trans ?_ (by assumption))))⟩
    · go_enter Try.func41, Try.ntmps41
      go_wp2_with fail
      go_ret
      exact ⟨_, rfl, RdI.lit_at [5, 6, 10] rfl rfl rfl (by simp [maxLen]), (by repeat' (first | (with_reducible exact Ext.refl _) | (with_reducible assumption) | (with_reducible refine Ext.alloc ?_ _) | (with_reducible refine Ext.drewN ?_ _) | (with_reducible refine Ext.drew ?_) | (with_reducible refine Ext.trans ?_ (by assumption))))⟩
    · go_enter Try.func41, Try.ntmps41
      go_wp2_with fail
      go_ret
      exact ⟨_, rfl, RdI.lit_at [5, 7] rfl rfl rfl (by simp [maxLen]), (by repeat' (first | (with_reducible exact Ext.refl _) | (with_reducible assumption) | (with_reducible refine Ext.alloc ?_ _) | (with_reducible refine Ext.drewN ?_ _) | (with_reducible refine Ext.drew ?_) | (with_reducible refine Ext.trans ?_ (by assumption))))⟩
    · go_enter Try.func41, Try.ntmps41
      go_wp2_with fail
      go_ret
      exact ⟨_, rfl, RdI.lit_at [2, 4, 5, 6, 8, 9, 10] rfl rfl rfl (by simp [maxLen]), (by repeat' (first | (with_reducible exact Ext.refl _) | (with_reducible assumption) | (with_reducible refine Ext.alloc ?_ _) | (with_reducible refine Ext.drewN ?_ _) | (with_reducible refine Ext.drew ?_) | (with_reducible refine Ext.trans ?_ (by assumption))))⟩
    · go_enter Try.func41, Try.ntmps41
      go_wp2_with fail
      go_ret
      exact ⟨_, rfl, RdI.lit_at [2, 4, 5, 6, 8, 9] rfl rfl rfl (by simp [maxLen]), (by repeat' (first | (with_reducible exact Ext.refl _) | (with_reducible assumption) | (with_reducible refine Ext.alloc ?_ _) | (with_reducible refine Ext.drewN ?_ _) | (with_reducible refine Ext.drew ?_) | (with_reducible refine Ext.trans ?_ (by assumption))))⟩
    · go_enter Try.func41, Try.ntmps41
      go_wp2_with fail
      go_ret
      exact ⟨_, rfl, RdI.lit_at [5, 7] rfl rfl rfl (by simp [maxLen]), (by repeat' (first | (with_reducible exact Ext.refl _) | (with_reducible assumption) | (with_reducible refine Ext.alloc ?_ _) | (with_reducible refine Ext.drewN ?_ _) | (with_reducible refine Ext.drew ?_) | (with_reducible refine Ext.trans ?_ (by assumption))))⟩
    · go_enter Try.func41, Try.ntmps41
      go_wp2_with fail
      go_ret
      exact ⟨_, rfl, RdI.lit_at [5, 6] rfl rfl rfl (by simp [maxLen]), (by repeat' (first | (with_reducible exact Ext.refl _) | (with_reducible assumption) | (with_reducible refine Ext.alloc ?_ _) | (with_reducible refine Ext.drewN ?_ _) | (with_reducible refine Ext.drew ?_) | (with_reducible refine Ext.trans ?_ (by assumption))))⟩
    · go_enter Try.func41, Try.ntmps41
      go_wp2_with fail
      go_ret
      exact ⟨_, rfl, RdI.lit_at [1, 2, 3, 4, 5, 6, 10] rfl rfl rfl (by simp [maxLen]), (by repeat' (first | (with_reducible exact Ext.refl _) | (with_reducible assumption) | (with_reducible refine Ext.alloc ?_ _) | (with_reducible refine Ext.drewN ?_ _) | (with_reducible refine Ext.drew ?_) | (with_reducible refine Ext.trans ?_ (by assumption))))⟩
    · go_enter Try.func41, Try.ntmps41
      go_wp2_with fail
      go_ret
      exact ⟨_, rfl, RdI.lit_at [5, 6, 10] rfl rfl rfl (by simp [maxLen]), (by repeat' (first | (with_reducible exact Ext.refl _) | (with_reducible assumption) | (with_reducible refine Ext.alloc ?_ _) | (with_reducible refine Ext.drewN ?_ _) | (with_reducible refine Ext.drew ?_) | (with_reducible refine Ext.trans ?_ (by assumption))))⟩
    · go_enter Try.func41, Try.ntmps41
      go_wp2_with fail
      go_ret
      exact ⟨_, rfl, RdI.lit_at [5] rfl rfl rfl (by simp [maxLen]), (by repeat' (first | (with_reducible exact Ext.refl _) | (with_reducible assumption) | (with_reducible refine Ext.alloc ?_ _) | (with_reducible refine Ext.drewN ?_ _) | (with_reducible refine Ext.drew ?_) | (with_reducible refine Ext.trans ?_ (by assumption))))⟩
    · go_enter Try.func41, Try.ntmps41
      go_wp2_with fail
      go_ret
      exact ⟨_, rfl, RdI.lit_at [5, 8, 10] rfl rfl rfl (by simp [maxLen]), (by repeat' (first | (with_reducible exact Ext.refl _) | (with_reducible assumption) | (with_reducible refine Ext.alloc ?_ _) | (with_reducible refine Ext.drewN ?_ _) | (with_reducible refine Ext.drew ?_) | (with_reducible refine Ext.trans ?_ (by assumption))))⟩
    · go_enter Try.func41, Try.ntmps41
      go_wp2_with fail
      go_ret
      exact ⟨_, rfl, RdI.lit_at [1, 2, 3, 4, 5, 8, 9] rfl rfl rfl (by simp [maxLen]), (by repeat' (first | (with_reducible exact Ext.refl _) | (with_reducible assumption) | (with_reducible refine Ext.alloc ?_ _) | (with_reducible refine Ext.drewN ?_ _) | (with_reducible refine Ext.drew ?_) | (with_reducible refine Ext.trans ?_ (by assumption))))⟩
    · go_enter Try.func41, Try.ntmps41
      go_wp2_with fail
      go_ret
      exact ⟨_, rfl, RdI.lit_at [5] rfl rfl rfl (by simp [maxLen]), (by repeat' (first | (with_reducible exact Ext.refl _) | (with_reducible assumption) | (with_reducible refine Ext.alloc ?_ _) | (with_reducible refine Ext.drewN ?_ _) | (with_reducible refine Ext.drew ?_) | (with_reducible refine Ext.trans ?_ (by assumption))))⟩
  · have e : fieldsOf k = [] := by unfold fieldsOf kindN; rw [if_neg h]; rfl
    rw [e]
    have b1 : (k == 1) = false := by rw [beq_eq_false_iff_ne]; omega
    have b2 : (k == 2) = false := by rw [beq_eq_false_iff_ne]; omega
    have b3 : (k == 3) = false := by rw [beq_eq_false_iff_ne]; omega
    have b4 : (k == 4) = false := by rw [beq_eq_false_iff_ne]; omega
    have b5 : (k == 5) = false := by rw [beq_eq_false_iff_ne]; omega
    have b6 : (k == 6) = false := by rw [beq_eq_false_iff_ne]; omega
    have b7 : (k == 7) = false := by rw [beq_eq_false_iff_ne]; omega
    have b8 : (k == 8) = false := by rw [beq_eq_false_iff_ne]; omega
    have b9 : (k == 9) = false := by rw [beq_eq_false_iff_ne]; omega
    have b10 : (k == 10) = false := by rw [beq_eq_false_iff_ne]; omega
    have b11 : (k == 11) = false := by rw [beq_eq_false_iff_ne]; omega
    have b12 : (k == 12) = false := by rw [beq_eq_false_iff_ne]; omega
    have b13 : (k == 13) = false := by rw [beq_eq_false_iff_ne]; omega
    have b14 : (k == 14) = false := by rw [beq_eq_false_iff_ne]; omega
    clear h e
    go_enter Try.func41, Try.ntmps41
    go_wp2_with fail
    go_ret
    exact ⟨_, rfl, RdI.nil _ _, (by repeat' (first | (with_reducible exact Ext.refl _) | (with_reducible assumption) | (with_reducible refine Ext.alloc ?_ _) | (with_reducible refine Ext.drewN ?_ _) | (with_reducible refine Ext.drew ?_) | (with_reducible refine Ext.trans ?_ (by assumption))))⟩
end Go.Proofs.Ytmkobmkaalfecaa
