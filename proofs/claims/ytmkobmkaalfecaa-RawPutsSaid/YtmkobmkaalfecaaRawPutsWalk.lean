/-
  gradinelaw01.RawPuts answers true. No condition.
-/
import Derived.Test.YtmkobmkaalfecaaWakes01
import Derived.Test.YtmkobmkaalfecaaRawRef
import Derived.Test.YtmkobmkaalfecaaFrame
namespace Go.Proofs.Ytmkobmkaalfecaa
open Go.RowKit

theorem enc_bit (n : Int) : enc (min (max n 0) 1).toNat = [bit (decide (0 < n))] := by
  by_cases h : 0 < n
  · rw [show (min (max n 0) 1).toNat = 1 by omega, enc_lt (by omega)]; simp [bit, h]
  · rw [show (min (max n 0) 1).toNat = 0 by omega, enc_lt (by omega)]; simp [bit, h]

theorem enc_bit2 (n m : Int) (h : m = min (max n 0) 1) : enc m.toNat = [bit (decide (0 < n))] := by rw [h]; exact enc_bit n

set_option maxHeartbeats 1000000 in
theorem walk_RawPuts (v0 v1 v2 : Value) (w : World) (h0 : IsInts .u8 w v0) (h1 : IsInts .u8 w v1) (h2 : IsInt .i64 v2) :
    Calls Try.prog 4 #[v0, v1, v2] w fun e w' => e = .returned (.bool true) ∧ Ext w w' := by
  obtain ⟨n, rfl, wf⟩ := h2
  have hb : -9223372036854775808 ≤ n ∧ n ≤ 9223372036854775807 := by simpa [Lit.wf, IntKind.min, IntKind.max, IntKind.signed, IntKind.bits] using wf
  obtain ⟨hb0, hb1⟩ := hb
  clear wf
  obtain ⟨l0, r0, q0⟩ := h0
  obtain ⟨l1, r1, q1⟩ := h1
  obtain ⟨a0, c0, rfl, z0⟩ := r0.parts
  obtain ⟨a1, c1, rfl, z1⟩ := r1.parts
  clear z0 z1 q0 q1
  by_cases hA : (300 : Int) < (l0.length : Int)
  · go_enter Try.func4, Try.ntmps4
    go_wp2_with (go_at_call 17; refine (wakes01 _).mono ?_; rintro e w1 ⟨rfl, hw1⟩)
    go_ret
    exact ⟨rfl, (by repeat' (first | (with_reducible exact Ext.refl _) | (with_reducible assumption) | (with_reducible refine Ext.alloc ?_ _) | (with_reducible refine Ext.drewN ?_ _) | (with_reducible refine Ext.drew ?_) | (with_reducible refine Ext.trans ?_ (by assumption))))⟩
  · by_cases hB : (300 : Int) < (l1.length : Int)
    · go_enter Try.func4, Try.ntmps4
      go_wp2_with (go_at_call 17; refine (wakes01 _).mono ?_; rintro e w1 ⟨rfl, hw1⟩)
      go_ret
      exact ⟨rfl, (by repeat' (first | (with_reducible exact Ext.refl _) | (with_reducible assumption) | (with_reducible refine Ext.alloc ?_ _) | (with_reducible refine Ext.drewN ?_ _) | (with_reducible refine Ext.drew ?_) | (with_reducible refine Ext.trans ?_ (by assumption))))⟩
    · have e1 := enc_len_le 8 n.toNat (by omega)
      have e2 := enc_len_le 8 l1.length (by omega)
      go_enter Try.func4, Try.ntmps4
      go_wp2_with fail
      refine (wakes01 _).mono ?_
      rintro e w1 ⟨rfl, hw1⟩
      go_wp2_with (at_builtin; refine wpList_append_ints rfl _ _ 24 rfl 5 .u8 0 1 Try.underlying24 bytes_info (by decide) w1 (by repeat' (first | (with_reducible exact Ext.refl _) | (with_reducible assumption) | (with_reducible refine Ext.alloc ?_ _) | (with_reducible refine Ext.drewN ?_ _) | (with_reducible refine Ext.drew ?_) | (with_reducible refine Ext.trans ?_ (by assumption)))) _ _ rfl (OwnI.empty .u8 5 _ (Nat.le_refl _)) _ _ rfl (r0.ext (by repeat' (first | (with_reducible exact Ext.refl _) | (with_reducible assumption) | (with_reducible refine Ext.alloc ?_ _) | (with_reducible refine Ext.drewN ?_ _) | (with_reducible refine Ext.drew ?_) | (with_reducible refine Ext.trans ?_ (by assumption))))) (by exact fits_small (by simp; omega)) ?_)
      intro vo wa hoa hxa
      go_wp2_with (at_builtin; refine wpList_append_ints rfl _ _ 24 rfl 5 .u8 0 1 Try.underlying24 bytes_info (by decide) wa (by repeat' (first | (with_reducible exact Ext.refl _) | (with_reducible assumption) | (with_reducible refine Ext.alloc ?_ _) | (with_reducible refine Ext.drewN ?_ _) | (with_reducible refine Ext.drew ?_) | (with_reducible refine Ext.trans ?_ (by assumption)))) _ _ rfl (OwnI.empty .u8 5 _ (Nat.le_refl _)) _ _ rfl (r1.ext (by repeat' (first | (with_reducible exact Ext.refl _) | (with_reducible assumption) | (with_reducible refine Ext.alloc ?_ _) | (with_reducible refine Ext.drewN ?_ _) | (with_reducible refine Ext.drew ?_) | (with_reducible refine Ext.trans ?_ (by assumption))))) (by exact fits_small (by simp; omega)) ?_)
      intro vt wt hot hxt
      go_wp2_with fail
      refine (put_any _ l0 _ _ (hoa.rd.ext (by repeat' (first | (with_reducible exact Ext.refl _) | (with_reducible assumption) | (with_reducible refine Ext.alloc ?_ _) | (with_reducible refine Ext.drewN ?_ _) | (with_reducible refine Ext.drew ?_) | (with_reducible refine Ext.trans ?_ (by assumption))))) (fits_small (by omega)) (by omega) (by omega)).mono ?_
      rintro e w2 ⟨v2, rfl, ho2, hx2⟩
      go_wp2_with fail
      refine (refput_any _ _ (by omega) (by omega)).mono ?_
      rintro e w3 ⟨v3, rfl, ho3, hx3⟩
      go_wp2_with fail
      refine (join_any _ _ l0 _ _ (r0.ext (by repeat' (first | (with_reducible exact Ext.refl _) | (with_reducible assumption) | (with_reducible refine Ext.alloc ?_ _) | (with_reducible refine Ext.drewN ?_ _) | (with_reducible refine Ext.drew ?_) | (with_reducible refine Ext.trans ?_ (by assumption))))) (ho3.rd.ext (by repeat' (first | (with_reducible exact Ext.refl _) | (with_reducible assumption) | (with_reducible refine Ext.alloc ?_ _) | (with_reducible refine Ext.drewN ?_ _) | (with_reducible refine Ext.drew ?_) | (with_reducible refine Ext.trans ?_ (by assumption))))) (fits_small (by omega))).mono ?_
      rintro e w4 ⟨v4, rfl, ho4, hx4⟩
      go_wp2_with fail
      refine (same_any _ _ _ _ _ (ho2.rd.ext (by repeat' (first | (with_reducible exact Ext.refl _) | (with_reducible assumption) | (with_reducible refine Ext.alloc ?_ _) | (with_reducible refine Ext.drewN ?_ _) | (with_reducible refine Ext.drew ?_) | (with_reducible refine Ext.trans ?_ (by assumption))))) ho4.rd).mono ?_
      rintro e w5 ⟨rfl, hx5⟩
      simp only [decide_true]
      clear ho2 ho3 ho4
      go_wp2_with fail
      refine (puttext_any _ _ l0 l1 _ (hoa.rd.ext (by repeat' (first | (with_reducible exact Ext.refl _) | (with_reducible assumption) | (with_reducible refine Ext.alloc ?_ _) | (with_reducible refine Ext.drewN ?_ _) | (with_reducible refine Ext.drew ?_) | (with_reducible refine Ext.trans ?_ (by assumption))))) (hot.rd.ext (by repeat' (first | (with_reducible exact Ext.refl _) | (with_reducible assumption) | (with_reducible refine Ext.alloc ?_ _) | (with_reducible refine Ext.drewN ?_ _) | (with_reducible refine Ext.drew ?_) | (with_reducible refine Ext.trans ?_ (by assumption))))) (fits_small (by omega))).mono ?_
      rintro e w6 ⟨v6, rfl, ho6, hx6⟩
      go_wp2_with fail
      refine (text_any _ l1 _ (r1.ext (by repeat' (first | (with_reducible exact Ext.refl _) | (with_reducible assumption) | (with_reducible refine Ext.alloc ?_ _) | (with_reducible refine Ext.drewN ?_ _) | (with_reducible refine Ext.drew ?_) | (with_reducible refine Ext.trans ?_ (by assumption))))) (fits_small (by omega))).mono ?_
      rintro e w7 ⟨v7, rfl, ho7, hx7⟩
      go_wp2_with fail
      refine (join_any _ _ l0 _ _ (r0.ext (by repeat' (first | (with_reducible exact Ext.refl _) | (with_reducible assumption) | (with_reducible refine Ext.alloc ?_ _) | (with_reducible refine Ext.drewN ?_ _) | (with_reducible refine Ext.drew ?_) | (with_reducible refine Ext.trans ?_ (by assumption))))) (ho7.rd.ext (by repeat' (first | (with_reducible exact Ext.refl _) | (with_reducible assumption) | (with_reducible refine Ext.alloc ?_ _) | (with_reducible refine Ext.drewN ?_ _) | (with_reducible refine Ext.drew ?_) | (with_reducible refine Ext.trans ?_ (by assumption))))) (fits_small (by simp; omega))).mono ?_
      rintro e w8 ⟨v8, rfl, ho8, hx8⟩
      go_wp2_with fail
      refine (same_any _ _ _ _ _ (ho6.rd.ext (by repeat' (first | (with_reducible exact Ext.refl _) | (with_reducible assumption) | (with_reducible refine Ext.alloc ?_ _) | (with_reducible refine Ext.drewN ?_ _) | (with_reducible refine Ext.drew ?_) | (with_reducible refine Ext.trans ?_ (by assumption))))) ho8.rd).mono ?_
      rintro e w9 ⟨rfl, hx9⟩
      rw [decide_eq_true (List.append_assoc _ _ _)]
      clear ho6 ho7 ho8
      go_wp2_with fail
      refine (puttruth_any _ l0 _ _ (hoa.rd.ext (by repeat' (first | (with_reducible exact Ext.refl _) | (with_reducible assumption) | (with_reducible refine Ext.alloc ?_ _) | (with_reducible refine Ext.drewN ?_ _) | (with_reducible refine Ext.drew ?_) | (with_reducible refine Ext.trans ?_ (by assumption))))) (fits_small (by omega))).mono ?_
      rintro e w10 ⟨v10, rfl, ho10, hx10⟩
      go_wp2_with fail
      all_goals
        refine (refput_any _ _ (by omega) (by omega)).mono ?_
        rintro e w11 ⟨v11, rfl, ho11, hx11⟩
        rw [enc_bit2 n] at ho11
        rotate_left
        · omega
        go_wp2_with fail
        refine (join_any _ _ l0 _ _ (r0.ext (by repeat' (first | (with_reducible exact Ext.refl _) | (with_reducible assumption) | (with_reducible refine Ext.alloc ?_ _) | (with_reducible refine Ext.drewN ?_ _) | (with_reducible refine Ext.drew ?_) | (with_reducible refine Ext.trans ?_ (by assumption))))) (ho11.rd.ext (by repeat' (first | (with_reducible exact Ext.refl _) | (with_reducible assumption) | (with_reducible refine Ext.alloc ?_ _) | (with_reducible refine Ext.drewN ?_ _) | (with_reducible refine Ext.drew ?_) | (with_reducible refine Ext.trans ?_ (by assumption))))) (fits_small (by simp; omega))).mono ?_
        rintro e w12 ⟨v12, rfl, ho12, hx12⟩
        go_wp2_with fail
        refine (same_any _ _ _ _ _ (ho10.rd.ext (by repeat' (first | (with_reducible exact Ext.refl _) | (with_reducible assumption) | (with_reducible refine Ext.alloc ?_ _) | (with_reducible refine Ext.drewN ?_ _) | (with_reducible refine Ext.drew ?_) | (with_reducible refine Ext.trans ?_ (by assumption))))) ho12.rd).mono ?_
        rintro e w13 ⟨rfl, hx13⟩
        simp only [decide_true]
        clear ho10 ho11 ho12
        go_wp2_with fail
        refine (same_any _ _ _ _ _ (hoa.rd.ext (by repeat' (first | (with_reducible exact Ext.refl _) | (with_reducible assumption) | (with_reducible refine Ext.alloc ?_ _) | (with_reducible refine Ext.drewN ?_ _) | (with_reducible refine Ext.drew ?_) | (with_reducible refine Ext.trans ?_ (by assumption))))) (r0.ext (by repeat' (first | (with_reducible exact Ext.refl _) | (with_reducible assumption) | (with_reducible refine Ext.alloc ?_ _) | (with_reducible refine Ext.drewN ?_ _) | (with_reducible refine Ext.drew ?_) | (with_reducible refine Ext.trans ?_ (by assumption)))))).mono ?_
        rintro e w14 ⟨rfl, hx14⟩
        simp only [decide_true]
        go_wp2_with fail
        refine (same_any _ _ _ _ _ (hot.rd.ext (by repeat' (first | (with_reducible exact Ext.refl _) | (with_reducible assumption) | (with_reducible refine Ext.alloc ?_ _) | (with_reducible refine Ext.drewN ?_ _) | (with_reducible refine Ext.drew ?_) | (with_reducible refine Ext.trans ?_ (by assumption))))) (r1.ext (by repeat' (first | (with_reducible exact Ext.refl _) | (with_reducible assumption) | (with_reducible refine Ext.alloc ?_ _) | (with_reducible refine Ext.drewN ?_ _) | (with_reducible refine Ext.drew ?_) | (with_reducible refine Ext.trans ?_ (by assumption)))))).mono ?_
        rintro e w15 ⟨rfl, hx15⟩
        simp only [decide_true]
        go_wp2
        go_ret
        exact ⟨rfl, (by repeat' (first | (with_reducible exact Ext.refl _) | (with_reducible assumption) | (with_reducible refine Ext.alloc ?_ _) | (with_reducible refine Ext.drewN ?_ _) | (with_reducible refine Ext.drew ?_) | (with_reducible refine Ext.trans ?_ (by assumption))))⟩
end Go.Proofs.Ytmkobmkaalfecaa
