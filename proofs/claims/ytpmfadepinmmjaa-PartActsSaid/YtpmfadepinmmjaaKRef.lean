/-
  gradineref14: Caps, denser, Range. No condition but that the hints read, and are right.
-/
import Derived.Test.YtpmfadepinmmjaaKRange
import Derived.Test.YtpmfadepinmmjaaKSel
import Derived.Test.YtpmfadepinmmjaaRHints
namespace Go.Proofs.Ytpmfadepinmmjaa
open Go.RowKit

theorem cmp_gt (T B : Nat → Int) (x y : Nat) : decide (0 < cmpF (T x) (B x) (T y) (B y)) = decide (dl T B x y) ∧ (cmpF (T x) (B x) (T y) (B y) == 0) = decide (¬ dl T B x y ∧ ¬ dl T B y x) := by
  have e : cmpF (T x) (B x) (T y) (B y) = if T x * B y < T y * B x then -1 else if T y * B x < T x * B y then 1 else 0 := rfl
  have e1 : dl T B x y ↔ T y * B x < T x * B y := Iff.rfl
  have e2 : dl T B y x ↔ T x * B y < T y * B x := Iff.rfl
  rw [e]
  simp only [e1, e2]
  generalize T x * B y = p
  generalize T y * B x = q
  rcases Int.lt_trichotomy p q with h | h | h
  · rw [if_pos h]
    exact ⟨by rw [decide_eq_false (by omega : ¬ (0 : Int) < -1), decide_eq_false (by omega)], by rw [decide_eq_false (by omega)]; rfl⟩
  · rw [if_neg (by omega), if_neg (by omega)]
    exact ⟨by rw [decide_eq_false (by omega : ¬ (0 : Int) < 0), decide_eq_false (by omega)], by rw [decide_eq_true (by omega)]; rfl⟩
  · rw [if_neg (by omega), if_pos h]
    exact ⟨by rw [decide_eq_true (by omega : (0 : Int) < 1), decide_eq_true (by omega)], by rw [decide_eq_false (by omega)]; rfl⟩
set_option maxRecDepth 100000 in
set_option maxHeartbeats 2000000 in
theorem rdenser (v : Value) (n : Nat) (F : Nat → Nat → Int) (L : Nat → Bool) (w : World) (h : RdH w v n F L) (ok : FrOk n F) (hn : n ≤ 8) (i k : Nat) (hi : i < n) (hk : k < n) (r : Bool) (hr : decide (bf (kT n F) (kB n F) i k) = r) :
    Calls Try.prog 53 #[v, .int .i64 i, .int .i64 k] w fun e w' => e = .returned (.bool r) ∧ Ext w w' := by
  obtain ⟨a, c, rfl, hnc, hcm, _, hs⟩ := h
  obtain ⟨b, o, rfl, hb, hcell⟩ := hs (by omega)
  have y1 := hcell i 1 hi (by omega)
  have y2 := hcell i 2 hi (by omega)
  have z1 := hcell k 1 hk (by omega)
  have z2 := hcell k 2 hk (by omega)
  simp only [HV, ← Nat.add_assoc, if_pos (show (1 : Nat) < 3 by omega), if_pos (show (2 : Nat) < 3 by omega)] at y1 y2 z1 z2
  have hT : ∀ j, j < n → kT n F j = F j 2 ∧ kB n F j = F j 1 := fun j hj => by unfold kT kB; rw [if_pos hj, if_pos hj]; exact ⟨rfl, rfl⟩
  obtain ⟨g1, g2⟩ := cmp_gt (kT n F) (kB n F) i k
  rw [(hT i hi).1, (hT i hi).2, (hT k hk).1, (hT k hk).2] at g1 g2
  obtain ⟨i1, i2, i3, i4⟩ := ok i hi
  obtain ⟨k1, k2, k3, k4⟩ := ok k hk
  have HC := Lib.hid (fun w' => refcompare_in (F i 2) (F i 1) (F k 2) (F k 1) w' (by have := k_right ok i hi; rwa [(hT i hi).1, (hT i hi).2] at this) (by have := k_right ok k hk; rwa [(hT k hk).1, (hT k hk).2] at this))
  obtain ⟨x, hx⟩ : ∃ x, cmpF (F i 2) (F i 1) (F k 2) (F k 1) = x := ⟨_, rfl⟩
  rw [hx] at g1 g2 HC
  have hii : (i : Int) < (n : Int) := by omega
  have hkk : (k : Int) < (n : Int) := by omega
  have hi0 : (0 : Int) ≤ (i : Int) := by omega
  have hk0 : (0 : Int) ≤ (k : Int) := by omega
  obtain ⟨q1, hq1⟩ : ∃ q, F i 1 = q := ⟨_, rfl⟩
  obtain ⟨q2, hq2⟩ : ∃ q, F i 2 = q := ⟨_, rfl⟩
  obtain ⟨q3, hq3⟩ : ∃ q, F k 1 = q := ⟨_, rfl⟩
  obtain ⟨q4, hq4⟩ : ∃ q, F k 2 = q := ⟨_, rfl⟩
  rw [hq1] at y1 HC
  rw [hq2] at y2 HC
  rw [hq3] at z1 HC
  rw [hq4] at z2 HC
  have hbf : bf (kT n F) (kB n F) i k ↔ (dl (kT n F) (kB n F) i k ∨ (¬ dl (kT n F) (kB n F) k i ∧ i < k)) := Iff.rfl
  clear hs hcell hT hx ok hq1 hq2 hq3 hq4 i1 i2 i3 i4 k1 k2 k3 k4
  by_cases h1 : dl (kT n F) (kB n F) i k
  · have e1 : (0 : Int) < x := of_decide_eq_true (by rw [g1]; exact decide_eq_true h1)
    have hrr : r = true := by rw [← hr]; exact decide_eq_true (hbf.2 (.inl h1))
    subst hrr
    clear hbf g1 g2 h1 hr
    go_enter Try.func53, Try.ntmps53
    go_wp2_with fail
    go_quiet ((go_at_call 56; exact Calls.quiet_of_same (v := .int .i64 x) ((HC.out _).mono fun e w' h => ⟨h.1, h.2.symm⟩)))
    go_wp2_with fail
    go_ret
    exact ⟨rfl, (by repeat' (first | (with_reducible exact Ext.refl _) | (with_reducible assumption) | (with_reducible refine Ext.alloc ?_ _) | (with_reducible refine Ext.drewN ?_ _) | (with_reducible refine Ext.drew ?_) | (with_reducible refine Ext.trans ?_ (by assumption))))⟩
  · have e1 : decide ((0 : Int) < x) = false := by rw [g1]; exact decide_eq_false h1
    by_cases h2 : dl (kT n F) (kB n F) k i
    · have e2 : (x == 0) = false := by rw [g2]; exact decide_eq_false (fun h => h.2 h2)
      have hrr : r = false := by rw [← hr]; exact decide_eq_false (fun h => (hbf.1 h).elim h1 (fun h => h.1 h2))
      subst hrr
      clear hbf g1 g2 h1 h2 hr
      go_enter Try.func53, Try.ntmps53
      go_wp2_with fail
      go_quiet ((go_at_call 56; exact Calls.quiet_of_same (v := .int .i64 x) ((HC.out _).mono fun e w' h => ⟨h.1, h.2.symm⟩)))
      go_wp2_with fail
      go_ret
      exact ⟨rfl, (by repeat' (first | (with_reducible exact Ext.refl _) | (with_reducible assumption) | (with_reducible refine Ext.alloc ?_ _) | (with_reducible refine Ext.drewN ?_ _) | (with_reducible refine Ext.drew ?_) | (with_reducible refine Ext.trans ?_ (by assumption))))⟩
    · have e2 : (x == 0) = true := by rw [g2]; exact decide_eq_true ⟨h1, h2⟩
      have hrr : r = decide (i < k) := by rw [← hr, decide_eq_decide, hbf]; exact ⟨fun h => h.elim (fun h => absurd h h1) (fun h => h.2), fun h => .inr ⟨h2, h⟩⟩
      subst hrr
      clear hbf g1 g2 h1 h2 hr
      go_enter Try.func53, Try.ntmps53
      go_wp2_with fail
      go_quiet ((go_at_call 56; exact Calls.quiet_of_same (v := .int .i64 x) ((HC.out _).mono fun e w' h => ⟨h.1, h.2.symm⟩)))
      go_wp2_with fail
      go_ret
      exact ⟨ret_bool (by simp), (by repeat' (first | (with_reducible exact Ext.refl _) | (with_reducible assumption) | (with_reducible refine Ext.alloc ?_ _) | (with_reducible refine Ext.drewN ?_ _) | (with_reducible refine Ext.drew ?_) | (with_reducible refine Ext.trans ?_ (by assumption))))⟩

set_option maxHeartbeats 2000000 in
theorem rrange (v : Value) (n : Nat) (F : Nat → Nat → Int) (L : Nat → Bool) (m : Int) (b : Int) (hwb : (Lit.int .i64 b).wf = true) (w : World) (h : RdH w v n F L) (ok : HsOk n F m) (is : Bool) (x : Nat) (hr : RngB n F b is x) (r : Int) (hrr : (if is = true then (x : Int) else -1) = r) :
    Calls Try.prog 37 #[v, .int .i64 b] w fun e w' => e = .returned (.int .i64 r) ∧ Ext w w' := by
  have HRR := Lib.hid hrr
  clear hrr
  have hn8 := ok.2.2
  obtain ⟨b0, b1⟩ := i64_bd hwb
  obtain ⟨a, c, rfl, hnc, hcm, _, hs⟩ := h
  have HS := Lib.hid hs
  have HOK := Lib.hid ok
  have HR := Lib.hid hr
  have hni : (n : Int) ≤ 8 := by omega
  clear hs hcm ok hr hwb
  go_enter Try.func37, Try.ntmps37
  go_wp2_with fail
  go_loopw [5] (fun ci wr => ∃ i : Nat, i ≤ n ∧ ci = .int .i64 i ∧ (∀ j, j < i → ¬ HIn F j b) ∧ Ext w wr) (fun ci _ => n - (intOf ci).toNat)
  case atStart => exact ⟨0, Nat.zero_le _, rfl, fun j hj => absurd hj (by omega), Ext.refl _⟩
  case round =>
    obtain ⟨i, hi, rfl, hno, hx⟩ := hrel
    have HNO := Lib.hid hno
    clear hno
    by_cases hlt : i < n
    · have hii : (i : Int) < (n : Int) := by omega
      have hi0 : (0 : Int) ≤ (i : Int) := by omega
      obtain ⟨bb, o, rfl, hbb, hcell⟩ := HS.out (by omega)
      have y0 := (hx.cell hbb).trans (hcell i 0 hlt (by omega))
      have y1 := (hx.cell hbb).trans (hcell i 1 hlt (by omega))
      simp only [HV, ← Nat.add_assoc, Nat.add_zero, if_pos (show (0 : Nat) < 3 by omega), if_pos (show (1 : Nat) < 3 by omega)] at y0 y1
      obtain ⟨g0, g1, g2, g3, g4, g5, g6⟩ := HOK.out.1 i hlt
      have hin : HIn F i b ↔ (F i 0 ≤ b ∧ b < F i 0 + F i 1) := Iff.rfl
      obtain ⟨x0, hx0⟩ : ∃ x, F i 0 = x := ⟨_, rfl⟩
      obtain ⟨x1, hx1⟩ : ∃ x, F i 1 = x := ⟨_, rfl⟩
      rw [hx0] at y0 hin g0 g4
      rw [hx1] at y1 hin g1 g4
      have HIND := Lib.hid hin
      have g32 : x0 ≤ 32 := by omega
      have s32 : x1 ≤ 32 := by omega
      have s0 : 0 ≤ x1 := by omega
      clear hcell hin hx0 hx1 g1 g2 g3 g4 g5 g6
      by_cases hd0 : x0 ≤ b
      · by_cases hd1 : b - x0 < x1
        · have HE : Hid ((if is = true then (x : Int) else -1) = i) := Lib.hid (by
            rcases HR.out with ⟨a1, a2, a3⟩ | ⟨a1, a2, a3⟩
            · exact absurd (HIND.out.2 ⟨hd0, by omega⟩) (a3 i hlt)
            · rw [if_pos a1, HOK.out.one a2 hlt a3 (HIND.out.2 ⟨hd0, by omega⟩)])
          go_wp2_with fail
          go_quiet (fail)
          go_wp2_with fail
          go_ret
          exact ⟨ret_int (HE.out.symm.trans HRR.out), (by repeat' (first | (with_reducible exact Ext.refl _) | (with_reducible assumption) | (with_reducible refine Ext.alloc ?_ _) | (with_reducible refine Ext.drewN ?_ _) | (with_reducible refine Ext.drew ?_) | (with_reducible refine Ext.trans ?_ (by assumption))))⟩
        · have HN2 : Hid (∀ j, j < i + 1 → ¬ HIn F j b) := Lib.hid (fun j hj => by
            by_cases e : j = i
            · subst e; exact fun h => hd1 (by have := HIND.out.1 h; omega)
            · exact HNO.out j (by omega))
          have hd1d : decide (b - x0 < x1) = false := decide_eq_false hd1
          go_wp2_with fail
          go_quiet (fail)
          go_wp2_with fail
          go_roundw
          case rel => exact ⟨i + 1, by omega, by go_num, HN2.out, (by repeat' (first | (with_reducible exact Ext.refl _) | (with_reducible assumption) | (with_reducible refine Ext.alloc ?_ _) | (with_reducible refine Ext.drewN ?_ _) | (with_reducible refine Ext.drew ?_) | (with_reducible refine Ext.trans ?_ (by assumption))))⟩
          case measure => simp [intOf]; omega
      · have HN2 : Hid (∀ j, j < i + 1 → ¬ HIn F j b) := Lib.hid (fun j hj => by
          by_cases e : j = i
          · subst e; exact fun h => hd0 (by have := HIND.out.1 h; omega)
          · exact HNO.out j (by omega))
        have hd0d : decide (x0 ≤ b) = false := decide_eq_false hd0
        go_wp2_with fail
        go_quiet (fail)
        go_wp2_with fail
        go_roundw
        case rel => exact ⟨i + 1, by omega, by go_num, HN2.out, (by repeat' (first | (with_reducible exact Ext.refl _) | (with_reducible assumption) | (with_reducible refine Ext.alloc ?_ _) | (with_reducible refine Ext.drewN ?_ _) | (with_reducible refine Ext.drew ?_) | (with_reducible refine Ext.trans ?_ (by assumption))))⟩
        case measure => simp [intOf]; omega
    · obtain rfl : i = n := by omega
      have HE : Hid ((if is = true then (x : Int) else -1) = -1) := Lib.hid (by
        rcases HR.out with ⟨a1, a2, a3⟩ | ⟨a1, a2, a3⟩
        · rw [if_neg (by rw [a1]; simp)]
        · exact absurd a3 (HNO.out x a2))
      go_wp2_with fail
      go_ret
      exact ⟨ret_int (HE.out.symm.trans HRR.out), hx⟩
end Go.Proofs.Ytpmfadepinmmjaa
