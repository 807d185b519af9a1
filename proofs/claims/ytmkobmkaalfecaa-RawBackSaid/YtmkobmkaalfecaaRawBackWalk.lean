/-
  gradinelaw01.RawBack answers true. No condition.
-/
import Derived.Test.YtmkobmkaalfecaaWakes01
import Derived.Test.YtmkobmkaalfecaaRawRef
import Derived.Test.YtmkobmkaalfecaaGetText
import Derived.Test.YtmkobmkaalfecaaRawLaw
import Derived.Test.YtmkobmkaalfecaaFrame
namespace Go.Proofs.Ytmkobmkaalfecaa
open Go.RowKit

theorem byte_bounds' {l : List Int} (h : ∀ x ∈ l, (Lit.int .u8 x).wf = true) : ∀ x ∈ l, 0 ≤ x ∧ x ≤ 255 := by
  intro x hx
  have := h x hx
  simpa [Lit.wf, IntKind.min, IntKind.max, IntKind.signed, IntKind.bits] using this

/-- the bytes of RawBack -/
def backL (m : Nat) (t : List Int) (is : Bool) : List Int := [7] ++ enc m ++ enc t.length ++ t ++ [bit is]

theorem back1 (m : Nat) (t : List Int) (is : Bool) (h : m < 9223372036854775808) : getN (backL m t is) 1 = ((m : Int), ((1 + (enc m).length : Nat) : Int), 0) := by
  have := getN_enc [7] (enc t.length ++ t ++ [bit is]) m h
  simpa [backL] using this

theorem back2 (m : Nat) (t : List Int) (is : Bool) (h : t.length < 9223372036854775808) :
    getT (backL m t is) ((1 + (enc m).length : Nat) : Int) t.length = (t, ((1 + (enc m).length + (enc t.length).length + t.length : Nat) : Int), 0) := by
  have hg := getN_enc ([7] ++ enc m) (t ++ [bit is]) t.length h
  have e1 : ([7] ++ enc m) ++ (enc t.length ++ (t ++ [bit is])) = backL m t is := by simp [backL]
  have e2 : (([7] ++ enc m).length : Int) = ((1 + (enc m).length : Nat) : Int) := by simp; omega
  rw [e1, e2] at hg
  unfold getT
  rw [hg]
  have e3 : (backL m t is).length = 1 + (enc m).length + (enc t.length).length + t.length + 1 := by simp [backL]; omega
  rw [if_neg (by simp), if_neg (by simp), if_neg (by rw [e3]; simp; omega)]
  have e4 : (([7] ++ enc m).length + (enc t.length).length) = ([7] ++ enc m ++ enc t.length).length := by simp; omega
  have e5 : backL m t is = ([7] ++ enc m ++ enc t.length) ++ (t ++ [bit is]) := by simp [backL]
  simp only [Int.toNat_natCast]
  rw [e4, e5, List.drop_left, List.take_left]
  simp only [Prod.mk.injEq, true_and, and_true]
  simp; omega

theorem back3 (m : Nat) (t : List Int) (is : Bool) :
    getB (backL m t is) ((1 + (enc m).length + (enc t.length).length + t.length : Nat) : Int) = (is, ((backL m t is).length : Int), 0) := by
  have e3 : (backL m t is).length = 1 + (enc m).length + (enc t.length).length + t.length + 1 := by simp [backL]; omega
  have e5 : backL m t is = ([7] ++ enc m ++ enc t.length ++ t) ++ [bit is] := by simp [backL]
  have e6 : ([7] ++ enc m ++ enc t.length ++ t).length = 1 + (enc m).length + (enc t.length).length + t.length := by simp; omega
  have hd : (backL m t is).getD (1 + (enc m).length + (enc t.length).length + t.length) 0 = bit is := by
    rw [e5, ← e6]; simp [List.getD]
  unfold getB
  rw [if_pos (by rw [e3]; omega), if_neg (by rw [e3]; omega), Int.toNat_natCast, hd]
  rw [if_neg (by cases is <;> simp [bit]), e3]
  cases is <;> simp [bit]

theorem back_bytes (m : Nat) {t : List Int} (is : Bool) (h : ∀ x ∈ t, 0 ≤ x ∧ x ≤ 255) : ∀ x ∈ backL m t is, 0 ≤ x ∧ x ≤ 255 := by
  intro x hx
  simp only [backL, List.mem_append, List.mem_singleton] at hx
  rcases hx with (((rfl | hx) | hx) | hx) | rfl
  · omega
  · exact enc_byte m m (Nat.le_refl _) x hx
  · exact enc_byte _ _ (Nat.le_refl _) x hx
  · exact h x hx
  · cases is <;> simp [bit]

set_option maxRecDepth 100000 in
set_option maxHeartbeats 1000000 in
theorem walk_RawBack (v0 v1 v2 : Value) (w : World) (h0 : IsInt .i64 v0) (h1 : IsInts .u8 w v1) (h2 : IsBool v2) :
    Calls Try.prog 7 #[v0, v1, v2] w fun e w' => e = .returned (.bool true) ∧ Ext w w' := by
  obtain ⟨n, rfl, wf⟩ := h0
  have hn : -9223372036854775808 ≤ n ∧ n ≤ 9223372036854775807 := by simpa [Lit.wf, IntKind.min, IntKind.max, IntKind.signed, IntKind.bits] using wf
  obtain ⟨hn0, hn1⟩ := hn
  clear wf
  obtain ⟨is, rfl⟩ := h2
  obtain ⟨t, r0, q0⟩ := h1
  have hb := byte_bounds' q0
  obtain ⟨a, c, rfl, hc, hm, hz⟩ := r0.parts
  clear hm hz q0 hc
  by_cases hA : (1000 : Int) < (t.length : Int)
  · clear hb
    go_enter Try.func7, Try.ntmps7
    go_wp2_with (go_at_call 17; refine (wakes01 _).mono ?_; rintro e w1 ⟨rfl, hw1⟩)
    go_ret
    exact ⟨rfl, (by repeat' (first | (with_reducible exact Ext.refl _) | (with_reducible assumption) | (with_reducible refine Ext.alloc ?_ _) | (with_reducible refine Ext.drewN ?_ _) | (with_reducible refine Ext.drew ?_) | (with_reducible refine Ext.trans ?_ (by assumption))))⟩
  · have e1 := enc_len_le 8 n.toNat (by omega)
    have e2 := enc_len_le 1 t.length (by omega)
    have e3 : (backL n.toNat t is).length = 1 + (enc n.toNat).length + (enc t.length).length + t.length + 1 := by simp [backL]; omega
    have hbb := back_bytes n.toNat is hb
    have b1 := back1 n.toNat t is (by omega)
    have b2 := back2 n.toNat t is (by omega)
    have b3 := back3 n.toNat t is
    obtain ⟨p, hp⟩ : ∃ p : Int, p = ((1 + (enc n.toNat).length : Nat) : Int) := ⟨_, rfl⟩
    obtain ⟨q, hq⟩ : ∃ q : Int, q = ((1 + (enc n.toNat).length + (enc t.length).length + t.length : Nat) : Int) := ⟨_, rfl⟩
    rw [← hp] at b1 b2
    rw [← hq] at b2 b3
    have B1 := Lib.hid b1
    have B2 := Lib.hid b2
    have B3 := Lib.hid b3
    clear b1 b2 b3 hp hq
    have HBB := Lib.hid hbb
    have E3 := Lib.hid e3
    clear hb hbb e3
    go_enter Try.func7, Try.ntmps7
    go_wp2_with fail
    refine (wakes01 _).mono ?_
    rintro e w1 ⟨rfl, hw1⟩
    go_wp2_with fail
    refine (put_any _ [7] n _ (RdI.lit .u8 w1 [7] _ (by simp [maxLen])) (fits_small (by simp)) (by omega) (by omega)).mono ?_
    rintro e w2 ⟨v2, rfl, ho2, hx2⟩
    go_wp2_with fail
    refine (puttext_any _ _ _ t _ (ho2.rd.ext (by repeat' (first | (with_reducible exact Ext.refl _) | (with_reducible assumption) | (with_reducible refine Ext.alloc ?_ _) | (with_reducible refine Ext.drewN ?_ _) | (with_reducible refine Ext.drew ?_) | (with_reducible refine Ext.trans ?_ (by assumption))))) (r0.ext (by repeat' (first | (with_reducible exact Ext.refl _) | (with_reducible assumption) | (with_reducible refine Ext.alloc ?_ _) | (with_reducible refine Ext.drewN ?_ _) | (with_reducible refine Ext.drew ?_) | (with_reducible refine Ext.trans ?_ (by assumption))))) (fits_small (by simp; omega))).mono ?_
    rintro e w3 ⟨v3, rfl, ho3, hx3⟩
    go_wp2_with fail
    refine (puttruth_any _ _ is _ (ho3.rd.ext (by repeat' (first | (with_reducible exact Ext.refl _) | (with_reducible assumption) | (with_reducible refine Ext.alloc ?_ _) | (with_reducible refine Ext.drewN ?_ _) | (with_reducible refine Ext.drew ?_) | (with_reducible refine Ext.trans ?_ (by assumption))))) (fits_small (by simp; omega))).mono ?_
    rintro e w4 ⟨v4, rfl, ho4, hx4⟩
    have ho5 : RdI .u8 w4 v4 (backL n.toNat t is) := ho4.rd
    clear ho2 ho3 ho4
    obtain ⟨a4, c4, rfl, _⟩ := ho5.parts
    go_wp2_with fail
    refine (get_any _ (backL n.toNat t is) 1 _ (ho5.ext (by repeat' (first | (with_reducible exact Ext.refl _) | (with_reducible assumption) | (with_reducible refine Ext.alloc ?_ _) | (with_reducible refine Ext.drewN ?_ _) | (with_reducible refine Ext.drew ?_) | (with_reducible refine Ext.trans ?_ (by assumption))))) HBB.out (by rw [E3.out]; omega)).mono ?_
    rintro e w5 ⟨rfl, rfl⟩
    rw [B1.out]
    go_wp2_with fail
    refine (gettext_any _ (backL n.toNat t is) _ _ _ (ho5.ext (by repeat' (first | (with_reducible exact Ext.refl _) | (with_reducible assumption) | (with_reducible refine Ext.alloc ?_ _) | (with_reducible refine Ext.drewN ?_ _) | (with_reducible refine Ext.drew ?_) | (with_reducible refine Ext.trans ?_ (by assumption))))) HBB.out (fits_small (by rw [E3.out]; omega))).mono ?_
    rintro e w6 ⟨v6, rfl, ho6, hx6⟩
    rw [B2.out] at ho6
    rw [B2.out]
    go_wp2_with fail
    refine (gettruth_any _ (backL n.toNat t is) _ _ (ho5.ext (by repeat' (first | (with_reducible exact Ext.refl _) | (with_reducible assumption) | (with_reducible refine Ext.alloc ?_ _) | (with_reducible refine Ext.drewN ?_ _) | (with_reducible refine Ext.drew ?_) | (with_reducible refine Ext.trans ?_ (by assumption))))) HBB.out).mono ?_
    rintro e w7 ⟨rfl, rfl⟩
    rw [B3.out]
    have hmax : (((n.toNat : Nat) : Int) == max n 0) = true := by simp
    have hii : (is == is) = true := by simp
    go_wp2_with fail
    all_goals
      refine (same_any _ _ _ _ _ ho6.rd (r0.ext (by repeat' (first | (with_reducible exact Ext.refl _) | (with_reducible assumption) | (with_reducible refine Ext.alloc ?_ _) | (with_reducible refine Ext.drewN ?_ _) | (with_reducible refine Ext.drew ?_) | (with_reducible refine Ext.trans ?_ (by assumption)))))).mono ?_
      rintro e w8 ⟨rfl, hx8⟩
      simp only [decide_true]
      go_wp2_with fail
      go_ret
      exact ⟨rfl, (by repeat' (first | (with_reducible exact Ext.refl _) | (with_reducible assumption) | (with_reducible refine Ext.alloc ?_ _) | (with_reducible refine Ext.drewN ?_ _) | (with_reducible refine Ext.drew ?_) | (with_reducible refine Ext.trans ?_ (by assumption))))⟩
end Go.Proofs.Ytmkobmkaalfecaa
