/-
  Two pieces of a row of places change places. No condition but that the row is there.
-/
import Derived.Test.YthoioocfembkgaaWoRow
namespace Go.Proofs.Ythoioocfembkgaa
open Go.RowKit

set_option maxRecDepth 100000 in
set_option maxHeartbeats 4000000 in
theorem wo_rot (g n c a m b : Nat) (X : Nat → Nat) (cmp : Value) (w : World) (ha : ArF w g n X) (h1 : a < m) (h2 : m < b) (h3 : b ≤ n) (hn : n ≤ 1000) :
    Calls Try.prog 25 #[.slice (some ⟨g, 0, none⟩) n c, .int .i64 a, .int .i64 m, .int .i64 b, cmp] w fun e w' => e = .returned (.tuple #[]) ∧ ArF w' g n (rotF X a m b) ∧ Chg [g] w w' := by
  have HA := Lib.hid ha
  obtain ⟨i0, hi0⟩ : ∃ i, m = a + i := ⟨m - a, by omega⟩
  obtain ⟨j0, hj0⟩ : ∃ j, b = m + j := ⟨b - m, by omega⟩
  have hwi : IntKind.i64.wrap ((m : Int) - (a : Int)) = (i0 : Int) := by rw [IntKind.wrap_i64]; omega
  have hwj : IntKind.i64.wrap ((b : Int) - (m : Int)) = (j0 : Int) := by rw [IntKind.wrap_i64]; omega
  have HM := Lib.hid (show m ≤ 1000 by omega)
  have HN := Lib.hid hn
  have HST : Hid (1 ≤ i0 ∧ 1 ≤ j0 ∧ i0 ≤ m ∧ m + j0 ≤ n ∧ rotF X (m - i0) m (m + j0) = rotF X a m b) := Lib.hid ⟨by omega, by omega, by omega, by omega, by rw [show m - i0 = a by omega, ← hj0]⟩
  clear ha h1 h2 h3 hn hi0 hj0
  go_enter Try.func25, Try.ntmps25
  go_wp2_with fail
  go_loopw [10, 11] (fun ci cj wr => ∃ i j : Nat, ci = .int .i64 i ∧ cj = .int .i64 j ∧ Hid (1 ≤ i ∧ 1 ≤ j ∧ i ≤ m ∧ m + j ≤ n ∧ ∃ Z, rotF Z (m - i) m (m + j) = rotF X a m b ∧ ArF wr g n Z) ∧ Hid (Chg [g] w wr)) (fun ci cj _ => (intOf ci).toNat + (intOf cj).toNat)
  case atStart => exact ⟨i0, j0, rfl, rfl, Lib.hid (by obtain ⟨a1, a2, a3, a4, a5⟩ := HST.out; exact ⟨a1, a2, a3, a4, X, a5, HA.out⟩), Lib.hid (Chg.refl _ _)⟩
  case round =>
    clear hwi hwj HST HA
    obtain ⟨i, j, rfl, rfl, HR, HC⟩ := hrel
    obtain ⟨i1, j1, i2, j2, Z, hZ, hZa⟩ := HR.out
    have hM := HM.out
    have hN := HN.out
    obtain ⟨s, hs⟩ : ∃ s, m = s + i := ⟨m - i, by omega⟩
    have hms : m - i = s := by omega
    have hws : IntKind.i64.wrap ((m : Int) - (i : Int)) = (s : Int) := by rw [IntKind.wrap_i64]; omega
    have HZ := Lib.hid hZ
    have HZA := Lib.hid hZa
    by_cases heq : i = j
    · have hb : ((i : Int) != (j : Int)) = false := by rw [bne_eq_false_iff_eq]; omega
      have KS := Lib.hid (fun w' (hx : Ext wr w') => wo_swap g n c s m i Z cmp w' (hZa.ext hx) (by omega) (by omega) (by omega))
      have hend : swpF Z s m i = rotF X a m b := by rw [← hms, rot_same Z i2, ← hZ, heq]
      have HE := Lib.hid hend
      clear hZ hZa HZ HZA i1 j1 i2 j2 hM hN hs hms HR heq hend
      go_wp2_with fail
      refine (KS.out _ (by repeat' (first | (with_reducible exact Ext.refl _) | (with_reducible assumption) | (with_reducible refine Ext.alloc ?_ _) | (with_reducible refine Ext.drewN ?_ _) | (with_reducible refine Ext.drew ?_) | (with_reducible refine Ext.trans ?_ (by assumption))))).mono ?_
      rintro e w1 ⟨rfl, hr, hc⟩
      have HRR := Lib.hid (hr.eq HE.out)
      have HCC := Lib.hid (HC.out.trans hc)
      clear hr hc HE KS
      go_wp2_with fail
      go_end0
      exact ⟨rfl, HRR.out, HCC.out⟩
    · have hb : ((i : Int) != (j : Int)) = true := by rw [bne_iff_ne]; omega
      by_cases hgt : j < i
      · have hgi : (j : Int) < (i : Int) := by omega
        obtain ⟨d, hd⟩ : ∃ d, i = d + j := ⟨i - j, by omega⟩
        have hwd : IntKind.i64.wrap ((i : Int) - (j : Int)) = (d : Int) := by rw [IntKind.wrap_i64]; omega
        have KS := Lib.hid (fun w' (hx : Ext wr w') => wo_swap g n c s m j Z cmp w' (hZa.ext hx) (by omega) (by omega) (by omega))
        have hend : 1 ≤ d ∧ 1 ≤ j ∧ d ≤ m ∧ m + j ≤ n ∧ rotF (swpF Z s m j) (m - d) m (m + j) = rotF X a m b := ⟨by omega, by omega, by omega, by omega, by rw [← hms, show d = i - j by omega, rot_more Z i2 hgt, hZ]⟩
        have HE := Lib.hid hend
        have HME := Lib.hid (show d + j < i + j by omega)
        clear hZ hZa HZ HZA i1 j1 i2 j2 hM hN hs hms HR heq hend hgt hd
        go_wp2_with fail
        refine (KS.out _ (by repeat' (first | (with_reducible exact Ext.refl _) | (with_reducible assumption) | (with_reducible refine Ext.alloc ?_ _) | (with_reducible refine Ext.drewN ?_ _) | (with_reducible refine Ext.drew ?_) | (with_reducible refine Ext.trans ?_ (by assumption))))).mono ?_
        rintro e w1 ⟨rfl, hr, hc⟩
        have HRR := Lib.hid hr
        have HCC := Lib.hid (HC.out.trans hc)
        clear hr hc KS
        go_wp2_with fail
        go_roundw
        case rel => exact ⟨d, j, by go_num, rfl, Lib.hid (by obtain ⟨a1, a2, a3, a4, a5⟩ := HE.out; exact ⟨a1, a2, a3, a4, _, a5, HRR.out.ext (by repeat' (first | (with_reducible exact Ext.refl _) | (with_reducible assumption) | (with_reducible refine Ext.alloc ?_ _) | (with_reducible refine Ext.drewN ?_ _) | (with_reducible refine Ext.drew ?_) | (with_reducible refine Ext.trans ?_ (by assumption))))⟩), Lib.hid (HCC.out.ext (by repeat' (first | (with_reducible exact Ext.refl _) | (with_reducible assumption) | (with_reducible refine Ext.alloc ?_ _) | (with_reducible refine Ext.drewN ?_ _) | (with_reducible refine Ext.drew ?_) | (with_reducible refine Ext.trans ?_ (by assumption)))))⟩
        case measure => have := HME.out; simp [intOf]; omega
      · have hgi : ¬ (j : Int) < (i : Int) := by omega
        obtain ⟨d, hd⟩ : ∃ d, j = d + i := ⟨j - i, by omega⟩
        obtain ⟨t, ht⟩ : ∃ t, t = m + d := ⟨_, rfl⟩
        have hwd : IntKind.i64.wrap ((j : Int) - (i : Int)) = (d : Int) := by rw [IntKind.wrap_i64]; omega
        have hwt0 : IntKind.i64.wrap ((m : Int) + (j : Int)) = (m : Int) + (j : Int) := by rw [IntKind.wrap_i64]; omega
        have hwt : IntKind.i64.wrap ((m : Int) + (j : Int) - (i : Int)) = (t : Int) := by rw [IntKind.wrap_i64]; omega
        have KS := Lib.hid (fun w' (hx : Ext wr w') => wo_swap g n c s t i Z cmp w' (hZa.ext hx) (by omega) (by omega) (by omega))
        have hend : 1 ≤ i ∧ 1 ≤ d ∧ i ≤ m ∧ m + d ≤ n ∧ rotF (swpF Z s t i) (m - i) m (m + d) = rotF X a m b := ⟨by omega, by omega, by omega, by omega, by rw [← hms, show d = j - i by omega, show t = m + j - i by omega, rot_less Z i2 (by omega), hZ]⟩
        have HE := Lib.hid hend
        have HME := Lib.hid (show i + d < i + j by omega)
        clear hZ hZa HZ HZA i1 j1 i2 j2 hM hN hs hms HR heq hend hgt hd ht
        go_wp2_with fail
        refine (KS.out _ (by repeat' (first | (with_reducible exact Ext.refl _) | (with_reducible assumption) | (with_reducible refine Ext.alloc ?_ _) | (with_reducible refine Ext.drewN ?_ _) | (with_reducible refine Ext.drew ?_) | (with_reducible refine Ext.trans ?_ (by assumption))))).mono ?_
        rintro e w1 ⟨rfl, hr, hc⟩
        have HRR := Lib.hid hr
        have HCC := Lib.hid (HC.out.trans hc)
        clear hr hc KS
        go_wp2_with fail
        go_roundw
        case rel => exact ⟨i, d, rfl, by go_num, Lib.hid (by obtain ⟨a1, a2, a3, a4, a5⟩ := HE.out; exact ⟨a1, a2, a3, a4, _, a5, HRR.out.ext (by repeat' (first | (with_reducible exact Ext.refl _) | (with_reducible assumption) | (with_reducible refine Ext.alloc ?_ _) | (with_reducible refine Ext.drewN ?_ _) | (with_reducible refine Ext.drew ?_) | (with_reducible refine Ext.trans ?_ (by assumption))))⟩), Lib.hid (HCC.out.ext (by repeat' (first | (with_reducible exact Ext.refl _) | (with_reducible assumption) | (with_reducible refine Ext.alloc ?_ _) | (with_reducible refine Ext.drewN ?_ _) | (with_reducible refine Ext.drew ?_) | (with_reducible refine Ext.trans ?_ (by assumption)))))⟩
        case measure => have := HME.out; simp [intOf]; omega
end Go.Proofs.Ythoioocfembkgaa
