/-
  gradinelaw01.RawOne answers true. No condition.
-/
import Derived.Test.YtmkobmkaalfecaaWakes01
import Derived.Test.YtmkobmkaalfecaaGet
import Derived.Test.YtmkobmkaalfecaaRawLaw
import Derived.Test.YtmkobmkaalfecaaFrame
import Derived.Deep.RegionWith
namespace Go.Proofs.Ytmkobmkaalfecaa
open Go.RowKit

theorem byte_bounds {l : List Int} (h : ∀ x ∈ l, (Lit.int .u8 x).wf = true) : ∀ x ∈ l, 0 ≤ x ∧ x ≤ 255 := by
  intro x hx
  have := h x hx
  simpa [Lit.wf, IntKind.min, IntKind.max, IntKind.signed, IntKind.bits] using this

theorem getN_zero {l : List Int} {p : Int} (h : (getN l p).2.2 ≠ 0) : (getN l p).1 = 0 ∧ (getN l p).2.1 = 0 := by
  unfold getN at h ⊢
  by_cases hp : 0 ≤ p ∧ p ≤ l.length
  · rw [if_pos hp] at h ⊢
    rcases hg : getL (l.drop p.toNat) 0 0 with ⟨n, j, e⟩
    rw [hg] at h
    by_cases he : e = 0
    · subst he; simp at h
    · simp [he]
  · rw [if_neg hp]; exact ⟨rfl, rfl⟩

set_option maxRecDepth 100000 in
set_option maxHeartbeats 1000000 in
theorem walk_RawOne (v0 : Value) (w : World) (h0 : IsInts .u8 w v0) :
    Calls Try.prog 6 #[v0] w fun e w' => e = .returned (.bool true) ∧ Ext w w' := by
  obtain ⟨l, r0, q0⟩ := h0
  have hb := byte_bounds q0
  obtain ⟨a, c, rfl, hc, hm, hz⟩ := r0.parts
  clear hm hz q0
  by_cases hA : (1000 : Int) < (l.length : Int)
  · clear hb
    go_enter Try.func6, Try.ntmps6
    go_wp2_with (go_at_call 17; refine (wakes01 _).mono ?_; rintro e w1 ⟨rfl, hw1⟩)
    go_ret
    exact ⟨rfl, (by repeat' (first | (with_reducible exact Ext.refl _) | (with_reducible assumption) | (with_reducible refine Ext.alloc ?_ _) | (with_reducible refine Ext.drewN ?_ _) | (with_reducible refine Ext.drew ?_) | (with_reducible refine Ext.trans ?_ (by assumption))))⟩
  · have HG := Lib.hid (fun w1 hr => get_any (.slice a l.length c) l 0 w1 hr hb (by omega))
    by_cases he : (getN l 0).2.2 = 0
    · have hone := getN_one hb (p := 0) he
      have hbd := getN_bd he
      obtain ⟨n, hn⟩ : ∃ n, n = (getN l 0).1 := ⟨_, rfl⟩
      obtain ⟨f, hf⟩ : ∃ f, f = (getN l 0).2.1 := ⟨_, rfl⟩
      rw [he, ← hn, ← hf] at HG
      simp only [Int.natCast_zero] at hone
      rw [← hn, ← hf] at hone hbd
      obtain ⟨o1, o2, o3⟩ := hone
      simp only [List.drop_zero, Nat.sub_zero, Nat.zero_add] at o1 o3
      obtain ⟨f, rfl⟩ := Int.eq_ofNat_of_zero_le (show 0 ≤ f by omega)
      have hfl : f ≤ l.length := by omega
      have hfc : (f : Int) ≤ c := by omega
      have hn63 : n ≤ 9223372036854775807 := by omega
      have hO := Lib.hid o1
      clear hb hn hf hbd o1 o3 he
      go_enter Try.func6, Try.ntmps6
      go_wp2_with fail
      refine (wakes01 _).mono ?_
      rintro e w1 ⟨rfl, hw1⟩
      go_wp2_with fail
      refine (HG.out _ (r0.ext (by repeat' (first | (with_reducible exact Ext.refl _) | (with_reducible assumption) | (with_reducible refine Ext.alloc ?_ _) | (with_reducible refine Ext.drewN ?_ _) | (with_reducible refine Ext.drew ?_) | (with_reducible refine Ext.trans ?_ (by assumption)))))).mono ?_
      rintro e w2 ⟨rfl, rfl⟩
      go_wp2_with fail
      go_region_with (first | (go_at_call 18; refine (put_any _ [] n _ (RdI.nil _ _) (fits_small (by simp)) (by omega) (by omega)).mono ?_; rintro e w3 ⟨v3, rfl, ho3, hx3⟩) | (go_at_call 19; refine (same_any _ _ _ (l.take f) _ ho3.rd ((r0.take f hfl).ext (by repeat' (first | (with_reducible exact Ext.refl _) | (with_reducible assumption) | (with_reducible refine Ext.alloc ?_ _) | (with_reducible refine Ext.drewN ?_ _) | (with_reducible refine Ext.drew ?_) | (with_reducible refine Ext.trans ?_ (by assumption)))))).mono ?_; rintro e w4 ⟨rfl, hx4⟩))
      go_wp2
      go_ret
      refine ⟨ret_bool (decide_eq_true ?_), (by repeat' (first | (with_reducible exact Ext.refl _) | (with_reducible assumption) | (with_reducible refine Ext.alloc ?_ _) | (with_reducible refine Ext.drewN ?_ _) | (with_reducible refine Ext.drew ?_) | (with_reducible refine Ext.trans ?_ (by assumption))))⟩
      have := hO.out
      simp at this
      exact this
    · have hz := getN_zero he
      have hne : ((getN l 0).2.2 != 0) = true := by rw [bne_iff_ne]; exact he
      obtain ⟨x, hx⟩ : ∃ x, x = (getN l 0).2.2 := ⟨_, rfl⟩
      rw [← hx] at HG hne
      rw [hz.1, hz.2] at HG
      clear hb hx he hz
      go_enter Try.func6, Try.ntmps6
      go_wp2_with fail
      refine (wakes01 _).mono ?_
      rintro e w1 ⟨rfl, hw1⟩
      go_wp2_with fail
      refine (HG.out _ (r0.ext (by repeat' (first | (with_reducible exact Ext.refl _) | (with_reducible assumption) | (with_reducible refine Ext.alloc ?_ _) | (with_reducible refine Ext.drewN ?_ _) | (with_reducible refine Ext.drew ?_) | (with_reducible refine Ext.trans ?_ (by assumption)))))).mono ?_
      rintro e w2 ⟨rfl, rfl⟩
      go_wp2_with fail
      go_ret
      exact ⟨rfl, (by repeat' (first | (with_reducible exact Ext.refl _) | (with_reducible assumption) | (with_reducible refine Ext.alloc ?_ _) | (with_reducible refine Ext.drewN ?_ _) | (with_reducible refine Ext.drew ?_) | (with_reducible refine Ext.trans ?_ (by assumption))))⟩
end Go.Proofs.Ytmkobmkaalfecaa
