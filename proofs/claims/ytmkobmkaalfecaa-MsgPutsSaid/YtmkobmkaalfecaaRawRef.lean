/-
  gradineref01: Put, Text, Join; raw: PutText, PutTruth. No condition but that the slices read.
-/
import Derived.Test.YtmkobmkaalfecaaPut
namespace Go.Proofs.Ytmkobmkaalfecaa
open Go.RowKit

set_option maxHeartbeats 400000 in
theorem refput_any (n : Int) (w : World) (h0 : -9223372036854775808 ≤ n) (h1 : n ≤ 9223372036854775807) :
    Calls Try.prog 21 #[.int .i64 n] w fun e w' => ∃ v', e = .returned v' ∧ OwnI .u8 5 w.heap.size w' v' (enc n.toNat) ∧ Ext w w' := by
  have key : ∀ m : Nat, (m : Int) ≤ 9223372036854775807 → m = n.toNat → True := fun _ _ _ => trivial
  clear key
  obtain ⟨n0, hn0⟩ : ∃ n0, n0 = n.toNat := ⟨_, rfl⟩
  have HN := Lib.hid hn0
  by_cases hneg : n < 0
  all_goals
    clear hn0
    go_enter Try.func21, Try.ntmps21
    go_wp2
    go_loopw [0, 3] (fun x vo wr => ∃ (m : Nat) (g : List Int), x = .int .i64 m ∧ m ≤ n0 ∧ (m : Int) ≤ 9223372036854775807 ∧ g ++ enc m = enc n0 ∧ OwnI .u8 5 w.heap.size wr vo g ∧ Ext w wr) (fun x _ _ => (intOf x).toNat)
    case atStart =>
      have := HN.out
      first
        | exact ⟨0, [], rfl, by omega, by omega, by simp [show n0 = 0 by omega], OwnI.nil _ _ _ _, Ext.refl _⟩
        | (obtain ⟨k, rfl⟩ := Int.eq_ofNat_of_zero_le (show 0 ≤ n by omega)
           exact ⟨k, [], rfl, by simp [this], by omega, by simp [this], OwnI.nil _ _ _ _, Ext.refl _⟩)
    case round =>
      obtain ⟨m, g, rfl, hm, hm63, hg, hown, hx⟩ := hrel
      have hgl : g.length ≤ 9 := by
        have := congrArg List.length hg
        have h2 := enc_len_le 8 n0 (by have := HN.out; omega)
        have h3 := enc_len_pos m
        simp at this; omega
      have HG := Lib.hid hg
      clear hg
      go_wp2_with (at_builtin; refine wpList_append_ints rfl _ _ 24 rfl 5 .u8 0 1 Try.underlying24 bytes_info (by decide) w (by repeat' (first | (with_reducible exact Ext.refl _) | (with_reducible assumption) | (with_reducible refine Ext.alloc ?_ _) | (with_reducible refine Ext.drewN ?_ _) | (with_reducible refine Ext.drew ?_) | (with_reducible refine Ext.trans ?_ (by assumption)))) _ _ rfl (hown.ext (by repeat' (first | (with_reducible exact Ext.refl _) | (with_reducible assumption) | (with_reducible refine Ext.alloc ?_ _) | (with_reducible refine Ext.drewN ?_ _) | (with_reducible refine Ext.drew ?_) | (with_reducible refine Ext.trans ?_ (by assumption))))) _ _ rfl (RdI.one _ _ _ _) (by unfold Fits; simp; omega) ?_)
      · intro v2 w2 hown2 hx2
        have hlo : 128 ≤ m := by have h : (127 : Int) < ↑m := by assumption
                                 omega
        go_wp2
        go_roundw
        case rel =>
          refine ⟨m / 128, g ++ [((m % 128 + 128 : Nat) : Int)], by go_num, by omega, by omega, ?_, ?_, hx2⟩
          · have := HG.out
            rw [enc_ge hlo] at this
            simpa using this
          · have e : ((128 : Int) + (m : Int) % 128) = ((m % 128 + 128 : Nat) : Int) := by omega
            rw [← e]; exact hown2
        case measure => simp [intOf]; omega
      · intro v2 w2 hown2 hx2
        have hlo : m < 128 := by have h : ↑m ≤ (127 : Int) := by assumption
                                 omega
        go_wp2
        go_ret
        refine ⟨_, rfl, ?_, hx2⟩
        have e : g ++ [(m : Int)] = enc n.toNat := by rw [← enc_lt hlo, ← HN.out]; exact HG.out
        rw [← e]; exact hown2

theorem join_any (v1 v2 : Value) (l1 l2 : List Int) (w : World) (h1 : RdI .u8 w v1 l1) (h2 : RdI .u8 w v2 l2) (hlen : Fits (l1.length + l2.length)) :
    Calls Try.prog 20 #[v1, v2] w fun e w' => ∃ v', e = .returned v' ∧ OwnI .u8 5 w.heap.size w' v' (l1 ++ l2) ∧ Ext w w' := by
  go_enter Try.func20, Try.ntmps20
  go_wp2_with (at_builtin; refine wpList_append_ints rfl _ _ 24 rfl 5 .u8 0 1 Try.underlying24 bytes_info (by decide) w (by repeat' (first | (with_reducible exact Ext.refl _) | (with_reducible assumption) | (with_reducible refine Ext.alloc ?_ _) | (with_reducible refine Ext.drewN ?_ _) | (with_reducible refine Ext.drew ?_) | (with_reducible refine Ext.trans ?_ (by assumption)))) _ _ rfl (OwnI.nil _ _ _ _) _ _ rfl h1 (by have := hlen.out; unfold Fits; simp; omega) ?_)
  intro va wa hoa hxa
  go_wp2_with (at_builtin; refine wpList_append_ints rfl _ _ 24 rfl 5 .u8 0 1 Try.underlying24 bytes_info (by decide) w (by repeat' (first | (with_reducible exact Ext.refl _) | (with_reducible assumption) | (with_reducible refine Ext.alloc ?_ _) | (with_reducible refine Ext.drewN ?_ _) | (with_reducible refine Ext.drew ?_) | (with_reducible refine Ext.trans ?_ (by assumption)))) _ _ rfl hoa _ _ rfl (h2.ext hxa) (by have := hlen.out; unfold Fits; simp; omega) ?_)
  intro vb wb hob hxb
  go_wp2
  go_ret
  exact ⟨_, rfl, by simpa using hob, hxb⟩

theorem text_any (v : Value) (l : List Int) (w : World) (h : RdI .u8 w v l) (hlen : Fits (l.length + 10)) :
    Calls Try.prog 23 #[v] w fun e w' => ∃ v', e = .returned v' ∧ OwnI .u8 5 w.heap.size w' v' (enc l.length ++ l) ∧ Ext w w' := by
  have hf := hlen.out
  obtain ⟨a, c, rfl, hc, hm, hn, hs⟩ := h.parts
  clear hc hm hn hs
  have hel := enc_len_le 9 l.length (by omega)
  have HF := Lib.hid hf
  clear hf
  go_enter Try.func23, Try.ntmps23
  go_wp2_with fail
  refine (refput_any _ _ (by omega) (by have := HF.out; omega)).mono ?_
  rintro e w1 ⟨v1, rfl, ho1, hx1⟩
  rw [Int.toNat_natCast] at ho1
  go_wp2_with (at_builtin; refine wpList_append_ints rfl _ _ 24 rfl 5 .u8 0 1 Try.underlying24 bytes_info (by decide) w (by repeat' (first | (with_reducible exact Ext.refl _) | (with_reducible assumption) | (with_reducible refine Ext.alloc ?_ _) | (with_reducible refine Ext.drewN ?_ _) | (with_reducible refine Ext.drew ?_) | (with_reducible refine Ext.trans ?_ (by assumption)))) _ _ rfl ho1 _ _ rfl (h.ext hx1) (by have := HF.out; unfold Fits; omega) ?_)
  intro vb wb hob hxb
  go_wp2
  go_ret
  exact ⟨_, rfl, hob, hxb⟩

theorem puttext_any (v t : Value) (l m : List Int) (w : World) (h : RdI .u8 w v l) (ht : RdI .u8 w t m) (hlen : Fits (l.length + m.length + 10)) :
    Calls Try.prog 22 #[v, t] w fun e w' => ∃ v', e = .returned v' ∧ OwnI .u8 5 w.heap.size w' v' (l ++ enc m.length ++ m) ∧ Ext w w' := by
  have hf := hlen.out
  obtain ⟨a, c, rfl, hc, hm, hn, hs⟩ := ht.parts
  clear hc hm hn hs
  have hel := enc_len_le 9 m.length (by omega)
  have HF := Lib.hid hf
  clear hf
  go_enter Try.func22, Try.ntmps22
  go_wp2_with fail
  refine (put_any v l _ _ h (by have := HF.out; unfold Fits; omega) (by omega) (by have := HF.out; omega)).mono ?_
  rintro e w1 ⟨v1, rfl, ho1, hx1⟩
  rw [Int.toNat_natCast] at ho1
  go_wp2_with (at_builtin; refine wpList_append_ints rfl _ _ 24 rfl 5 .u8 0 1 Try.underlying24 bytes_info (by decide) w (by repeat' (first | (with_reducible exact Ext.refl _) | (with_reducible assumption) | (with_reducible refine Ext.alloc ?_ _) | (with_reducible refine Ext.drewN ?_ _) | (with_reducible refine Ext.drew ?_) | (with_reducible refine Ext.trans ?_ (by assumption)))) _ _ rfl ho1 _ _ rfl (ht.ext hx1) (by have := HF.out; unfold Fits; simp; omega) ?_)
  intro vb wb hob hxb
  go_wp2
  go_ret
  exact ⟨_, rfl, by simpa using hob, hxb⟩

/-- a truth's byte -/
def bit (b : Bool) : Int := if b then 1 else 0

theorem puttruth_any (v : Value) (l : List Int) (b : Bool) (w : World) (h : RdI .u8 w v l) (hlen : Fits (l.length + 10)) :
    Calls Try.prog 24 #[v, .bool b] w fun e w' => ∃ v', e = .returned v' ∧ OwnI .u8 5 w.heap.size w' v' (l ++ [bit b]) ∧ Ext w w' := by
  cases b
  all_goals
    go_enter Try.func24, Try.ntmps24
    go_wp2_with fail
    refine (clone_any v l _ h (by have := hlen.out; unfold Fits; omega)).mono ?_
    rintro e w1 ⟨v1, rfl, ho1, hx1⟩
    go_wp2_with (at_builtin; refine wpList_append_ints rfl _ _ 24 rfl 5 .u8 0 1 Try.underlying24 bytes_info (by decide) w (by repeat' (first | (with_reducible exact Ext.refl _) | (with_reducible assumption) | (with_reducible refine Ext.alloc ?_ _) | (with_reducible refine Ext.drewN ?_ _) | (with_reducible refine Ext.drew ?_) | (with_reducible refine Ext.trans ?_ (by assumption)))) _ _ rfl (ho1.ext (by repeat' (first | (with_reducible exact Ext.refl _) | (with_reducible assumption) | (with_reducible refine Ext.alloc ?_ _) | (with_reducible refine Ext.drewN ?_ _) | (with_reducible refine Ext.drew ?_) | (with_reducible refine Ext.trans ?_ (by assumption))))) _ _ rfl (RdI.one _ _ _ _) (by have := hlen.out; unfold Fits; simp; omega) ?_)
    intro vb wb hob hxb
    go_wp2
    go_ret
    exact ⟨_, rfl, hob, hxb⟩
end Go.Proofs.Ytmkobmkaalfecaa
