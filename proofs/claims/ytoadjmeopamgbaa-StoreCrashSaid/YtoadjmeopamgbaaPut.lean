/-
  raw.Put: behind the bytes that came in stand the number's. No condition but that the slice reads.
-/
import Derived.Test.YtoadjmeopamgbaaClone
import Derived.Test.YtoadjmeopamgbaaRawFn
namespace Go.Proofs.Ytoadjmeopamgbaa
open Go.RowKit

/-- what holds at the label 'more': a number m is left, what is gathered and m's bytes are what is wanted -/
def PutJ (l : List Int) (n : Nat) (W : World) (a : Act) (w : World) : Prop :=
  ∃ (m : Nat) (vo : Value) (g : List Int) (u0 u2 u3 u6 u7 u8 u9 u10 u11 u12 u13 u14 u15 u16 u17 u18 u19 u20 u21 u22 u23 u24 : Value),
    a = { tmps := #[u0, .int .i64 m, u2, u3, .slice none 0 0, vo, u6, u7, u8, u9, u10, u11, u12, u13, u14, u15, u16, u17, u18, u19, u20, u21, u22, u23, u24], defers := [] } ∧
    g ++ enc m = l ++ enc n ∧ m ≤ n ∧ OwnI .u8 5 W.heap.size w vo g ∧ Ext W w

set_option maxRecDepth 100000 in
set_option maxHeartbeats 400000 in
theorem put_any (v : Value) (l : List Int) (n : Int) (w : World) (h : RdI .u8 w v l) (hlen : Fits (l.length + 10)) (h0 : -9223372036854775808 ≤ n) (h1 : n ≤ 9223372036854775807) :
    Calls Try.prog 53 #[v, .int .i64 n] w fun e w' => ∃ v', e = .returned v' ∧ OwnI .u8 5 w.heap.size w' v' (l ++ enc n.toNat) ∧ Ext w w' := by
  have HC := Lib.hid (clone_any v l w h (by have := hlen.out; unfold Fits; omega))
  clear h
  go_enter Try.func53, Try.ntmps53
  go_wp2_with fail
  refine wp_scope_label 0 (PutJ l n.toNat w) (fun a' _ => (intOf (a'.tmps.getD 1 undef)).toNat) rfl ?_ ?_
  · rintro a' w' ⟨m, vo, g, u0, u2, u3, u6, u7, u8, u9, u10, u11, u12, u13, u14, u15, u16, u17, u18, u19, u20, u21, u22, u23, u24, rfl, hg, hm, hown, hx⟩
    have hgl : g.length ≤ l.length + 9 := by
      have := congrArg List.length hg
      have h2 := enc_len_le 8 n.toNat (by omega)
      have h3 := enc_len_pos m
      simp at this; omega
    have HG := Lib.hid hg
    clear hg
    have hm63 : (m : Int) ≤ 9223372036854775807 := by omega
    go_wp2_with (at_builtin; refine wpList_append_ints rfl _ _ 36 rfl 5 .u8 0 1 Try.underlying36 bytes_info (by decide) w (by repeat' (first | (with_reducible exact Ext.refl _) | (with_reducible assumption) | (with_reducible refine Ext.alloc ?_ _) | (with_reducible refine Ext.drewN ?_ _) | (with_reducible refine Ext.drew ?_) | (with_reducible refine Ext.trans ?_ (by assumption)))) _ _ rfl (hown.ext (by repeat' (first | (with_reducible exact Ext.refl _) | (with_reducible assumption) | (with_reducible refine Ext.alloc ?_ _) | (with_reducible refine Ext.drewN ?_ _) | (with_reducible refine Ext.drew ?_) | (with_reducible refine Ext.trans ?_ (by assumption))))) _ _ rfl (RdI.one _ _ _ _) (by have := hlen.out; unfold Fits; simp; omega) ?_)
    · intro v2 w2 hown2 hx2
      have hlo : 128 ≤ m := by have h : (128 : Int) ≤ ↑m := by assumption
                               omega
      go_wp2
      go_step3
      refine ⟨rfl, ⟨m / 128, v2, g ++ [((m % 128 + 128 : Nat) : Int)], _, _, _, _, _, _, _, _, _, _, _, _, _, _, _, _, _, _, _, _, _, _, rfl, ?_, by omega, ?_, hx2⟩, ?_⟩
      · have := HG.out
        rw [enc_ge hlo] at this
        simpa using this
      · rw [or128] at hown2
        exact hown2
      · simp [intOf]; omega
    · intro v2 w2 hown2 hx2
      have hlo : m < 128 := by have h : ↑m < (128 : Int) := by assumption
                               omega
      go_wp2
      simp only [Exit.jump]
      go_ret
      refine ⟨_, rfl, ?_, hx2⟩
      have e : g ++ [(m : Int)] = l ++ enc n.toNat := by rw [← enc_lt hlo]; exact HG.out
      rw [← e]; exact hown2
  · intro hpass
    have HP := Lib.hid hpass
    clear hpass
    go_wp2_with (go_at_call 42; refine HC.out.mono ?_; rintro e w1 ⟨v1, rfl, hown, hx⟩)
    all_goals go_step3
    all_goals
      rename_i K hK
      show K _ _
      refine hK _ _ (HP.out _ _ ?_)
    · have hz : n ≤ 0 := by omega
      exact ⟨0, v1, l, _, _, _, _, _, _, _, _, _, _, _, _, _, _, _, _, _, _, _, _, _, _, rfl, by rw [show n.toNat = 0 by omega], by omega, hown, hx⟩
    · obtain ⟨k, rfl⟩ := Int.eq_ofNat_of_zero_le h
      exact ⟨k, v1, l, _, _, _, _, _, _, _, _, _, _, _, _, _, _, _, _, _, _, _, _, _, _, rfl, by simp, by simp, hown, hx⟩
end Go.Proofs.Ytoadjmeopamgbaa
