/-
  gradinelaw01.RawSize answers true. No condition.
-/
import Derived.Test.YtmkobmkaalfecaaWakes01
import Derived.Test.YtmkobmkaalfecaaFrame
namespace Go.Proofs.Ytmkobmkaalfecaa
open Go.RowKit

/-- 1 and how often a number can be divided by 128 -/
theorem enc_len_step (m : Nat) (h : 0 < m / 128) : (enc m).length = (enc (m / 128)).length + 1 := by
  rw [enc_ge (show 128 ≤ m by omega)]; simp
theorem enc_len_one (m : Nat) (h : m / 128 = 0) : (enc m).length = 1 := by
  rw [enc_lt (by omega)]; simp

set_option maxHeartbeats 400000 in
theorem walk_RawSize (v0 : Value) (w : World) (h0 : IsInt .u32 v0) :
    Calls Try.prog 3 #[v0] w fun e w' => e = .returned (.bool true) ∧ Ext w w' := by
  obtain ⟨n, rfl, wf⟩ := h0
  have hb : 0 ≤ n ∧ n ≤ 4294967295 := by simpa [Lit.wf, IntKind.min, IntKind.max, IntKind.signed, IntKind.bits] using wf
  obtain ⟨hb0, hb1⟩ := hb
  clear wf
  obtain ⟨n, rfl⟩ := Int.eq_ofNat_of_zero_le hb0
  go_enter Try.func3, Try.ntmps3
  go_wp2_with (go_at_call 17; refine (wakes01 _).mono ?_; rintro e w1 ⟨rfl, hw1⟩)
  go_loop [3, 4] (fun c x => ∃ k m : Nat, c = .int .i64 k ∧ x = .int .u32 m ∧ m ≤ n ∧ k ≤ 20 ∧ (enc n).length = k + (if m = 0 then 0 else (enc m).length)) (fun _ x => (intOf x).toNat)
  case atStart =>
    refine ⟨1, n / 128, rfl, rfl, by omega, by omega, ?_⟩
    by_cases h : n / 128 = 0
    · rw [if_pos h, enc_len_one n h]
    · rw [if_neg h, enc_len_step n (by omega)]; omega
  case round =>
    obtain ⟨k, m, rfl, rfl, hm, hk, he⟩ := hrel
    have hlen := enc_len_le 4 n (by omega)
    have HE := Lib.hid he
    by_cases hz : m = 0
    · subst hz
      clear he
      have e2 := HE.out
      rw [if_pos rfl] at e2
      have HE2 := Lib.hid e2
      clear e2
      go_wp2_with fail
      refine (put_any (.slice none 0 0) [] n _ (RdI.nil _ _) (fits_small (by simp)) (by omega) (by omega)).mono ?_
      rintro e w2 ⟨v2, rfl, hown, hx2⟩
      obtain ⟨a, c, rfl, _⟩ := hown.rd.parts
      clear hown
      go_wp2
      go_ret
      refine ⟨ret_bool ?_, (by repeat' (first | (with_reducible exact Ext.refl _) | (with_reducible assumption) | (with_reducible refine Ext.alloc ?_ _) | (with_reducible refine Ext.drewN ?_ _) | (with_reducible refine Ext.drew ?_) | (with_reducible refine Ext.trans ?_ (by assumption))))⟩
      have := HE2.out
      simp; omega
    · rw [if_neg hz] at he
      have hp := enc_len_pos m
      have hk4 : k ≤ 19 := by omega
      clear he
      go_wp2
      go_round
      case rel =>
        refine ⟨k + 1, m / 128, by go_num, rfl, by omega, by omega, ?_⟩
        have := HE.out
        rw [if_neg hz] at this
        by_cases h : m / 128 = 0
        · rw [if_pos h]; rw [enc_len_one m h] at this; omega
        · rw [if_neg h]; rw [enc_len_step m (by omega)] at this; omega
      case measure => simp [intOf]; omega
end Go.Proofs.Ytmkobmkaalfecaa
