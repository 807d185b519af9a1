/-
  frame.Right. No condition but that the load reads.
-/
import Derived.Test.YtmkobmkaalfecaaFrSum
namespace Go.Proofs.Ytmkobmkaalfecaa
open Go.RowKit

/-- a packet -/
def pktV (m y s k : Int) (v : Value) : Value := .agg #[.int .i64 m, .int .i64 y, .int .i64 s, .int .i64 k, v]
def Bt (n least : Int) : Prop := least ≤ n ∧ n ≤ 1099511627776
instance (n least : Int) : Decidable (Bt n least) := by unfold Bt; infer_instance
/-- a packet is right -/
def FOk (m y s k : Int) (n : Nat) : Prop := Bt m 1 ∧ Bt y 0 ∧ Bt s 0 ∧ Bt k 0 ∧ n ≤ 128 ∧ (0 < s ∨ n = 0)
instance (m y s k : Int) (n : Nat) : Decidable (FOk m y s k n) := by unfold FOk; infer_instance

set_option maxHeartbeats 2000000 in
theorem fright (m y s k : Int) (a : Option Addr) (c n : Nat) (w : World) (r : Bool) (hr : decide (FOk m y s k n) = r) :
    Calls Try.prog 34 #[pktV m y s k (.slice a n c)] w fun e w' => e = .returned (.bool r) ∧ Ext w w' := by
  have HR := Lib.hid hr
  clear hr
  unfold pktV
  by_cases a1 : Bt m 1
  · by_cases a2 : Bt y 0
    · by_cases a3 : Bt s 0
      · by_cases a4 : Bt k 0
        · by_cases a5 : n ≤ 128
          · by_cases a6 : 0 < s
            · have b5 : (n : Int) ≤ 128 := by omega
              go_enter Try.func34, Try.ntmps34
              go_wp2_with fail
              refine (fwithin m 1 true (decide_eq_true a1) _).mono ?_
              rintro e w1 ⟨rfl, rfl⟩
              go_wp2_with fail
              refine (fwithin y 0 true (decide_eq_true a2) _).mono ?_
              rintro e w1 ⟨rfl, rfl⟩
              go_wp2_with fail
              refine (fwithin s 0 true (decide_eq_true a3) _).mono ?_
              rintro e w1 ⟨rfl, rfl⟩
              go_wp2_with fail
              refine (fwithin k 0 true (decide_eq_true a4) _).mono ?_
              rintro e w1 ⟨rfl, rfl⟩
              go_wp2_with fail
              go_ret
              exact ⟨ret_bool (by rw [← HR.out]; symm; exact decide_eq_true ⟨a1, a2, a3, a4, a5, .inl a6⟩), (by repeat' (first | (with_reducible exact Ext.refl _) | (with_reducible assumption) | (with_reducible refine Ext.alloc ?_ _) | (with_reducible refine Ext.drewN ?_ _) | (with_reducible refine Ext.drew ?_) | (with_reducible refine Ext.trans ?_ (by assumption))))⟩
            · have b5 : (n : Int) ≤ 128 := by omega
              have b7 : ((n : Int) == 0) = decide (n = 0) := by by_cases h : n = 0 <;> simp [h]
              go_enter Try.func34, Try.ntmps34
              go_wp2_with fail
              refine (fwithin m 1 true (decide_eq_true a1) _).mono ?_
              rintro e w1 ⟨rfl, rfl⟩
              go_wp2_with fail
              refine (fwithin y 0 true (decide_eq_true a2) _).mono ?_
              rintro e w1 ⟨rfl, rfl⟩
              go_wp2_with fail
              refine (fwithin s 0 true (decide_eq_true a3) _).mono ?_
              rintro e w1 ⟨rfl, rfl⟩
              go_wp2_with fail
              refine (fwithin k 0 true (decide_eq_true a4) _).mono ?_
              rintro e w1 ⟨rfl, rfl⟩
              go_wp2_with fail
              go_ret
              refine ⟨ret_bool ?_, (by repeat' (first | (with_reducible exact Ext.refl _) | (with_reducible assumption) | (with_reducible refine Ext.alloc ?_ _) | (with_reducible refine Ext.drewN ?_ _) | (with_reducible refine Ext.drew ?_) | (with_reducible refine Ext.trans ?_ (by assumption))))⟩
              rw [← HR.out]
              by_cases h : n = 0
              · have : FOk m y s k n := ⟨a1, a2, a3, a4, a5, .inr h⟩
                rw [decide_eq_true this]; simp [h]
              · have : ¬ FOk m y s k n := fun q => by have := q.2.2.2.2.2; omega
                rw [decide_eq_false this]; simp [h]; omega
          · have hno : ¬ FOk m y s k n := fun q => a5 q.2.2.2.2.1
            have b5 : ¬ (n : Int) ≤ 128 := by omega
            have HN := Lib.hid hno
            clear hno
            go_enter Try.func34, Try.ntmps34
            go_wp2_with fail
            refine (fwithin m 1 true (decide_eq_true a1) _).mono ?_
            rintro e w1 ⟨rfl, rfl⟩
            go_wp2_with fail
            refine (fwithin y 0 true (decide_eq_true a2) _).mono ?_
            rintro e w1 ⟨rfl, rfl⟩
            go_wp2_with fail
            refine (fwithin s 0 true (decide_eq_true a3) _).mono ?_
            rintro e w1 ⟨rfl, rfl⟩
            go_wp2_with fail
            refine (fwithin k 0 true (decide_eq_true a4) _).mono ?_
            rintro e w1 ⟨rfl, rfl⟩
            go_wp2_with fail
            go_ret
            exact ⟨ret_bool (by rw [← HR.out]; simp [HN.out]), (by repeat' (first | (with_reducible exact Ext.refl _) | (with_reducible assumption) | (with_reducible refine Ext.alloc ?_ _) | (with_reducible refine Ext.drewN ?_ _) | (with_reducible refine Ext.drew ?_) | (with_reducible refine Ext.trans ?_ (by assumption))))⟩
        · have hno : ¬ FOk m y s k n := fun q => a4 q.2.2.2.1
          have HN := Lib.hid hno
          clear hno
          go_enter Try.func34, Try.ntmps34
          go_wp2_with fail
          refine (fwithin m 1 true (decide_eq_true a1) _).mono ?_
          rintro e w1 ⟨rfl, rfl⟩
          go_wp2_with fail
          refine (fwithin y 0 true (decide_eq_true a2) _).mono ?_
          rintro e w1 ⟨rfl, rfl⟩
          go_wp2_with fail
          refine (fwithin s 0 true (decide_eq_true a3) _).mono ?_
          rintro e w1 ⟨rfl, rfl⟩
          go_wp2_with fail
          refine (fwithin k 0 false (decide_eq_false a4) _).mono ?_
          rintro e w1 ⟨rfl, rfl⟩
          go_wp2_with fail
          go_ret
          exact ⟨ret_bool (by rw [← HR.out]; simp [HN.out]), (by repeat' (first | (with_reducible exact Ext.refl _) | (with_reducible assumption) | (with_reducible refine Ext.alloc ?_ _) | (with_reducible refine Ext.drewN ?_ _) | (with_reducible refine Ext.drew ?_) | (with_reducible refine Ext.trans ?_ (by assumption))))⟩
      · have hno : ¬ FOk m y s k n := fun q => a3 q.2.2.1
        have HN := Lib.hid hno
        clear hno
        go_enter Try.func34, Try.ntmps34
        go_wp2_with fail
        refine (fwithin m 1 true (decide_eq_true a1) _).mono ?_
        rintro e w1 ⟨rfl, rfl⟩
        go_wp2_with fail
        refine (fwithin y 0 true (decide_eq_true a2) _).mono ?_
        rintro e w1 ⟨rfl, rfl⟩
        go_wp2_with fail
        refine (fwithin s 0 false (decide_eq_false a3) _).mono ?_
        rintro e w1 ⟨rfl, rfl⟩
        go_wp2_with fail
        go_ret
        exact ⟨ret_bool (by rw [← HR.out]; simp [HN.out]), (by repeat' (first | (with_reducible exact Ext.refl _) | (with_reducible assumption) | (with_reducible refine Ext.alloc ?_ _) | (with_reducible refine Ext.drewN ?_ _) | (with_reducible refine Ext.drew ?_) | (with_reducible refine Ext.trans ?_ (by assumption))))⟩
    · have hno : ¬ FOk m y s k n := fun q => a2 q.2.1
      have HN := Lib.hid hno
      clear hno
      go_enter Try.func34, Try.ntmps34
      go_wp2_with fail
      refine (fwithin m 1 true (decide_eq_true a1) _).mono ?_
      rintro e w1 ⟨rfl, rfl⟩
      go_wp2_with fail
      refine (fwithin y 0 false (decide_eq_false a2) _).mono ?_
      rintro e w1 ⟨rfl, rfl⟩
      go_wp2_with fail
      go_ret
      exact ⟨ret_bool (by rw [← HR.out]; simp [HN.out]), (by repeat' (first | (with_reducible exact Ext.refl _) | (with_reducible assumption) | (with_reducible refine Ext.alloc ?_ _) | (with_reducible refine Ext.drewN ?_ _) | (with_reducible refine Ext.drew ?_) | (with_reducible refine Ext.trans ?_ (by assumption))))⟩
  · have hno : ¬ FOk m y s k n := fun q => a1 q.1
    have HN := Lib.hid hno
    clear hno
    go_enter Try.func34, Try.ntmps34
    go_wp2_with fail
    refine (fwithin m 1 false (decide_eq_false a1) _).mono ?_
    rintro e w1 ⟨rfl, rfl⟩
    go_wp2_with fail
    go_ret
    exact ⟨ret_bool (by rw [← HR.out]; simp [HN.out]), (by repeat' (first | (with_reducible exact Ext.refl _) | (with_reducible assumption) | (with_reducible refine Ext.alloc ?_ _) | (with_reducible refine Ext.drewN ?_ _) | (with_reducible refine Ext.drew ?_) | (with_reducible refine Ext.trans ?_ (by assumption))))⟩
end Go.Proofs.Ytmkobmkaalfecaa
