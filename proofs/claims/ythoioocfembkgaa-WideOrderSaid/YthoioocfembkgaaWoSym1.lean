/-
  Two sorted pieces of a row of places put together, where the first is one place. No condition but that the row is there, and the fractions read, and are right.
-/
import Derived.Test.YthoioocfembkgaaWoRow
namespace Go.Proofs.Ythoioocfembkgaa
open Go.RowKit

set_option maxRecDepth 100000 in
set_option maxHeartbeats 8000000 in
theorem wo_sym1 (pl g n c a m b : Nat) (T B : Nat → Int) (X : Nat → Nat) (w : World) (ha : ArF w g n X) (hB : ∀ i, 0 < B i) (hM : MrgF T B X a m b) (hm : m = a + 1) (hmb : m < b) (hb : b ≤ n) (hn : n ≤ 1000) (hF : ∀ w', Chg [g] w w' → FrAt w' pl n T B) :
    Calls Try.prog 23 #[.slice (some ⟨g, 0, none⟩) n c, .int .i64 a, .int .i64 m, .int .i64 b, .func (.func 14) #[] #[.pointer (some ⟨pl, 0, none⟩)]] w fun e w' => e = .returned (.tuple #[]) ∧ (∃ Z, SrtF T B Z a b ∧ FrmF X Z a b ∧ ArF w' g n Z) ∧ Chg [g] w w' := by
  have HA := Lib.hid ha
  have HF := Lib.hid hF
  have HB := Lib.hid hB
  have HMG := Lib.hid hM
  have HM := Lib.hid hm
  have HMB := Lib.hid hmb
  have HBN := Lib.hid hb
  have HN := Lib.hid hn
  have hn1 : (n : Int) ≤ 1000 := by omega
  have ha0 : (0 : Int) ≤ (a : Int) := by omega
  have ha1 : (a : Int) ≤ 1000 := by omega
  have hb1 : (b : Int) ≤ 1000 := by omega
  have han : (a : Int) < (n : Int) := by omega
  have hane : IntKind.i64.wrap ((m : Int) - (a : Int)) = 1 := by rw [IntKind.wrap_i64]; omega
  clear ha hF hB hM hmb hb hn hm
  go_enter Try.func23, Try.ntmps23
  go_wp2_with fail
  go_loopw [10, 11] (fun ci cj wr => ∃ i j : Nat, ci = .int .i64 i ∧ cj = .int .i64 j ∧ Hid (m ≤ i ∧ i ≤ j ∧ j ≤ b ∧ (∀ p, m ≤ p → p < i → dl T B (X p) (X a)) ∧ (∀ p, j ≤ p → p < b → ¬ dl T B (X p) (X a))) ∧ Hid (Ext w wr)) (fun ci cj _ => (intOf cj).toNat - (intOf ci).toNat)
  case atStart => exact ⟨m, b, rfl, rfl, Lib.hid ⟨Nat.le_refl _, Nat.le_of_lt HMB.out, Nat.le_refl _, fun p p1 p2 => by omega, fun p p1 p2 => by omega⟩, Lib.hid (Ext.refl _)⟩
  case round =>
    obtain ⟨i, j, rfl, rfl, HR, HC⟩ := hrel
    obtain ⟨r1, r2, r3, r4, r5⟩ := HR.out
    have e1 := HM.out
    have e2 := HBN.out
    have e3 := HN.out
    by_cases hlt : i < j
    · have hii : (i : Int) < (j : Int) := by omega
      obtain ⟨h, hh⟩ : ∃ h, h = (i + j) / 2 := ⟨_, rfl⟩
      have hw1 : IntKind.i64.wrap ((i : Int) + (j : Int)) = (i : Int) + (j : Int) := by rw [IntKind.wrap_i64]; omega
      have hhn : h < n := by omega
      have hh2 : ((i : Int) + (j : Int)) / 2 = (h : Int) := by omega
      have han2 : a < n := by omega
      have hhi : (h : Int) < (n : Int) := by omega
      have hh0 : (0 : Int) ≤ (h : Int) := by omega
      have hh1 : IntKind.i64.wrap ((h : Int) + 1) = (h : Int) + 1 := by rw [IntKind.wrap_i64]; omega
      have hMa := HA.out.ext HC.out
      have x0 := hMa.cell hhn
      have y0 := hMa.cell han2
      have hxn := hMa.ok _ hhn
      have hyn := hMa.ok _ han2
      have hT : dl T B (X h) (X a) → (m ≤ h + 1 ∧ h + 1 ≤ j ∧ j ≤ b ∧ (∀ p, m ≤ p → p < h + 1 → dl T B (X p) (X a)) ∧ (∀ p, j ≤ p → p < b → ¬ dl T B (X p) (X a))) := fun hd =>
        ⟨by omega, by omega, r3, fun p p1 p2 => HMG.out.mon1 HB.out e1 p1 (show p ≤ h by omega) (by omega) hd, r5⟩
      have hN : ¬ dl T B (X h) (X a) → (m ≤ i ∧ i ≤ h ∧ h ≤ b ∧ (∀ p, m ≤ p → p < i → dl T B (X p) (X a)) ∧ (∀ p, h ≤ p → p < b → ¬ dl T B (X p) (X a))) := fun hd =>
        ⟨r1, by omega, by omega, r4, fun p p1 p2 hp => hd (HMG.out.mon1 HB.out e1 (by omega) p1 p2 hp)⟩
      have HME := Lib.hid (show i ≤ h ∧ h < j by omega)
      have HKC := Lib.hid (fun w' (hx : Ext wr w') => kcmp pl n T B (X h) (X a) w' (HF.out _ (Chg.of_ext (HC.out.trans hx))) hxn hyn)
      obtain ⟨x, hx⟩ : ∃ x, x = X h := ⟨_, rfl⟩
      obtain ⟨y, hy⟩ : ∃ y, y = X a := ⟨_, rfl⟩
      rw [← hx] at x0 HKC
      rw [← hy] at y0 HKC
      have hT' : dl T B x y → (m ≤ h + 1 ∧ h + 1 ≤ j ∧ j ≤ b ∧ (∀ p, m ≤ p → p < h + 1 → dl T B (X p) (X a)) ∧ (∀ p, j ≤ p → p < b → ¬ dl T B (X p) (X a))) := by rw [hx, hy]; exact hT
      have hN' : ¬ dl T B x y → (m ≤ i ∧ i ≤ h ∧ h ≤ b ∧ (∀ p, m ≤ p → p < i → dl T B (X p) (X a)) ∧ (∀ p, h ≤ p → p < b → ¬ dl T B (X p) (X a))) := by rw [hx, hy]; exact hN
      have HT := Lib.hid hT'
      have HN' := Lib.hid hN'
      clear hT hN hT' hN' hx hy hxn hyn hMa r1 r2 r3 r4 r5 e1 e2 e3 hh hhn han2 HR hlt
      by_cases hd : dl T B x y
      · have HD := Lib.hid hd
        have HKT : Hid (∀ w', Ext wr w' → Calls Try.prog 14 #[.int .i64 x, .int .i64 y, .pointer (some ⟨pl, 0, none⟩)] w' fun e w'' => ∃ r : Int, e = .returned (.int .i64 r) ∧ decide (r < 0) = true ∧ Ext w' w'') := Lib.hid (fun w' hx => (HKC.out w' hx).mono (by rintro e w'' ⟨r, he, hr, hx⟩; exact ⟨r, he, by rw [hr]; exact decide_eq_true hd, hx⟩))
        clear hd HKC
        go_upto_region 5 with fail
        go_region_held3 (fun w' => w'.cell? ⟨g, h, none⟩ = some (.int .i64 x) ∧ w'.cell? ⟨g, a, none⟩ = some (.int .i64 y) ∧ Ext wr w') (exact ⟨Ext.cellv (w := wr) (by repeat' (first | (with_reducible exact Ext.refl _) | (with_reducible assumption) | (with_reducible refine Ext.alloc ?_ _) | (with_reducible refine Ext.drewN ?_ _) | (with_reducible refine Ext.drew ?_) | (with_reducible refine Ext.trans ?_ (by assumption)))) x0, Ext.cellv (w := wr) (by repeat' (first | (with_reducible exact Ext.refl _) | (with_reducible assumption) | (with_reducible refine Ext.alloc ?_ _) | (with_reducible refine Ext.drewN ?_ _) | (with_reducible refine Ext.drew ?_) | (with_reducible refine Ext.trans ?_ (by assumption)))) y0, (by repeat' (first | (with_reducible exact Ext.refl _) | (with_reducible assumption) | (with_reducible refine Ext.alloc ?_ _) | (with_reducible refine Ext.drewN ?_ _) | (with_reducible refine Ext.drew ?_) | (with_reducible refine Ext.trans ?_ (by assumption))))⟩) (first | (go_at_call 14; refine (HKT.out _ (by repeat' (first | (with_reducible exact Ext.refl _) | (with_reducible assumption) | (with_reducible refine Ext.alloc ?_ _) | (with_reducible refine Ext.drewN ?_ _) | (with_reducible refine Ext.drew ?_) | (with_reducible refine Ext.trans ?_ (by assumption))))).mono ?_; rintro e wA ⟨r, rfl, hr, hxA⟩))
        all_goals
          go_wp2_with fail
          go_roundw
          case rel => exact ⟨h + 1, j, by go_num, rfl, Lib.hid (HT.out HD.out), Lib.hid (HC.out.trans (by repeat' (first | (with_reducible exact Ext.refl _) | (with_reducible assumption) | (with_reducible refine Ext.alloc ?_ _) | (with_reducible refine Ext.drewN ?_ _) | (with_reducible refine Ext.drew ?_) | (with_reducible refine Ext.trans ?_ (by assumption)))))⟩
          case measure => have := HME.out; simp [intOf]; omega
      · have HD := Lib.hid hd
        have HKT : Hid (∀ w', Ext wr w' → Calls Try.prog 14 #[.int .i64 x, .int .i64 y, .pointer (some ⟨pl, 0, none⟩)] w' fun e w'' => ∃ r : Int, e = .returned (.int .i64 r) ∧ decide (r < 0) = false ∧ Ext w' w'') := Lib.hid (fun w' hx => (HKC.out w' hx).mono (by rintro e w'' ⟨r, he, hr, hx⟩; exact ⟨r, he, by rw [hr]; exact decide_eq_false hd, hx⟩))
        clear hd HKC
        go_upto_region 5 with fail
        go_region_held3 (fun w' => w'.cell? ⟨g, h, none⟩ = some (.int .i64 x) ∧ w'.cell? ⟨g, a, none⟩ = some (.int .i64 y) ∧ Ext wr w') (exact ⟨Ext.cellv (w := wr) (by repeat' (first | (with_reducible exact Ext.refl _) | (with_reducible assumption) | (with_reducible refine Ext.alloc ?_ _) | (with_reducible refine Ext.drewN ?_ _) | (with_reducible refine Ext.drew ?_) | (with_reducible refine Ext.trans ?_ (by assumption)))) x0, Ext.cellv (w := wr) (by repeat' (first | (with_reducible exact Ext.refl _) | (with_reducible assumption) | (with_reducible refine Ext.alloc ?_ _) | (with_reducible refine Ext.drewN ?_ _) | (with_reducible refine Ext.drew ?_) | (with_reducible refine Ext.trans ?_ (by assumption)))) y0, (by repeat' (first | (with_reducible exact Ext.refl _) | (with_reducible assumption) | (with_reducible refine Ext.alloc ?_ _) | (with_reducible refine Ext.drewN ?_ _) | (with_reducible refine Ext.drew ?_) | (with_reducible refine Ext.trans ?_ (by assumption))))⟩) (first | (go_at_call 14; refine (HKT.out _ (by repeat' (first | (with_reducible exact Ext.refl _) | (with_reducible assumption) | (with_reducible refine Ext.alloc ?_ _) | (with_reducible refine Ext.drewN ?_ _) | (with_reducible refine Ext.drew ?_) | (with_reducible refine Ext.trans ?_ (by assumption))))).mono ?_; rintro e wA ⟨r, rfl, hr, hxA⟩))
        all_goals
          go_wp2_with fail
          go_roundw
          case rel => exact ⟨i, h, rfl, by go_num, Lib.hid (HN'.out HD.out), Lib.hid (HC.out.trans (by repeat' (first | (with_reducible exact Ext.refl _) | (with_reducible assumption) | (with_reducible refine Ext.alloc ?_ _) | (with_reducible refine Ext.drewN ?_ _) | (with_reducible refine Ext.drew ?_) | (with_reducible refine Ext.trans ?_ (by assumption)))))⟩
          case measure => have := HME.out; simp [intOf]; omega
    · obtain rfl : i = j := by omega
      have hS : SrtF T B (mvL X a (i - 1)) a b := HMG.out.one e1 r1 r3 r4 r5
      obtain ⟨i', hi'⟩ : ∃ i', i = i' + 1 := ⟨i - 1, by omega⟩
      have hwi : IntKind.i64.wrap ((i : Int) - 1) = (i' : Int) := by rw [IntKind.wrap_i64]; omega
      have HS : Hid (SrtF T B (mvL X a i') a b ∧ FrmF X (mvL X a i') a b) := Lib.hid ⟨by rw [show i' = i - 1 by omega]; exact hS, frm_mvL X (by omega) (by omega)⟩
      have HI := Lib.hid (show a ≤ i' ∧ i' < b by omega)
      have HAR : Hid (ArF wr g n (mvL X a a)) := Lib.hid ((HA.out.ext HC.out).eq (mvL_self X a).symm)
      have HCH : Hid (Chg [g] w wr) := Lib.hid (Chg.of_ext HC.out)
      clear hS hi' r1 r2 r3 r4 r5 e1 e2 e3 HR HC HA
      go_wp2_with fail
      go_loopw [13] (fun ck ws => ∃ k : Nat, ck = .int .i64 k ∧ Hid (a ≤ k ∧ k ≤ i' ∧ ArF ws g n (mvL X a k)) ∧ Hid (Chg [g] w ws)) (fun ck _ => i' - (intOf ck).toNat)
      case atStart => exact ⟨a, rfl, Lib.hid ⟨Nat.le_refl _, HI.out.1, HAR.out⟩, HCH⟩
      case round =>
        clear HAR HCH
        obtain ⟨k, rfl, HK, HC⟩ := hrel
        obtain ⟨k1, k2, hMa⟩ := HK.out
        have e2 := HBN.out
        have e3 := HN.out
        have e4 := HI.out.2
        by_cases hlt : k < i'
        · have hki : (k : Int) < (i' : Int) := by omega
          have hj1n : k + 1 < n := by omega
          have hj0n : k < n := by omega
          have x0 := hMa.cell hj0n
          have y0 := hMa.cell hj1n
          rw [mvL_at X] at x0
          rw [mvL_hi X (by omega)] at y0
          have hj1 : (k : Int) + 1 < (n : Int) := by omega
          have hjj : (k : Int) < (n : Int) := by omega
          have hj0 : (0 : Int) ≤ (k : Int) := by omega
          have hj01 : (0 : Int) ≤ (k : Int) + 1 := by omega
          have hwk : IntKind.i64.wrap ((k : Int) + 1) = (k : Int) + 1 := by rw [IntKind.wrap_i64]; omega
          have f1 := hMa.free (k + 1)
          have f0 := hMa.free k
          have hup : ∀ w', Swp wr w' g n (mvL X a k) k (k + 1) → ArF w' g n (mvL X a (k + 1)) := fun w' hs => hs.ar.eq (by rw [mvL_at X, mvL_hi X (by omega)]; exact mvL_step X k1)
          have HUP := Lib.hid hup
          have HMA := Lib.hid hMa
          have HJ1 := Lib.hid hj1n
          have HJ0 := Lib.hid hj0n
          have HKK := Lib.hid (show a ≤ k + 1 ∧ k + 1 ≤ i' by omega)
          obtain ⟨x, hx⟩ : ∃ x, x = X a := ⟨_, rfl⟩
          obtain ⟨y, hy⟩ : ∃ y, y = X (k + 1) := ⟨_, rfl⟩
          rw [← hx] at x0
          rw [← hy] at y0
          have HXE : Hid (x = mvL X a k k) := Lib.hid (by rw [mvL_at X]; exact hx)
          have HYE : Hid (y = mvL X a k (k + 1)) := Lib.hid (by rw [mvL_hi X (by omega)]; exact hy)
          clear hup hMa hj1n hj0n hx hy k1 k2 e2 e3 e4 HK hlt
          go_wp2_with fail
          go_region_with (fail)
          all_goals
            go_wp2_with fail
            go_roundw
            case rel =>
              refine ⟨k + 1, by go_num, Lib.hid ⟨HKK.out.1, HKK.out.2, HUP.out _ ?s⟩, Lib.hid (HC.out.trans (Swp.ch (n := n) (X := mvL X a k) (p := k) (q := k + 1) ?s2))⟩
              case s => (first | exact (swp_pq HMA.out (Ext.refl _) HJ0.out HJ1.out HXE.out HYE.out).ext (Ext.refl _).drew | exact (swp_qp HMA.out (Ext.refl _) HJ0.out HJ1.out (Nat.succ_ne_self k).symm HXE.out HYE.out).ext (Ext.refl _).drew | exact swp_pq HMA.out (Ext.refl _) HJ0.out HJ1.out HXE.out HYE.out | exact swp_qp HMA.out (Ext.refl _) HJ0.out HJ1.out (Nat.succ_ne_self k).symm HXE.out HYE.out)
              case s2 => (first | exact (swp_pq HMA.out (Ext.refl _) HJ0.out HJ1.out HXE.out HYE.out).ext (Ext.refl _).drew | exact (swp_qp HMA.out (Ext.refl _) HJ0.out HJ1.out (Nat.succ_ne_self k).symm HXE.out HYE.out).ext (Ext.refl _).drew | exact swp_pq HMA.out (Ext.refl _) HJ0.out HJ1.out HXE.out HYE.out | exact swp_qp HMA.out (Ext.refl _) HJ0.out HJ1.out (Nat.succ_ne_self k).symm HXE.out HYE.out)
            case measure => have := HKK.out; simp [intOf]; omega
        · obtain rfl : k = i' := by omega
          have HMA := Lib.hid hMa
          clear hMa k1 k2 e2 e3 e4 HK hlt
          go_wp2_with fail
          refine bodyPost_ret (results_none rfl _ _ _) rfl ?_
          exact ⟨rfl, ⟨_, HS.out.1, HS.out.2, HMA.out⟩, HC.out⟩
end Go.Proofs.Ythoioocfembkgaa
