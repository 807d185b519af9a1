/-
  gradineref03: in, Hints, between. No condition but that the hints read.
-/
import Derived.Test.YtepnmclgkbphmaaCRight
namespace Go.Proofs.Ytepnmclgkbphmaa
open Go.RowKit

theorem rin (f s o b : Int) (lp : Bool) (r : Bool) (hr : decide (f ≤ b ∧ b < f + s) = r) (f0 : 0 ≤ f) (f1 : f ≤ 100) (b0 : 0 ≤ b) (b1 : b ≤ 100) (w : World) :
    Calls Try.prog 30 #[.agg #[.int .i64 f, .int .i64 s, .int .i64 o, .bool lp], .int .i64 b] w fun e w' => e = .returned (.bool r) ∧ Ext w w' := by
  have k0 : (w.alloc (.cells #[.int .i64 f, .int .i64 s, .int .i64 o, .bool lp] 44)).cell? ⟨w.heap.size, 0, none⟩ = some (.int .i64 f) := cell_new _ _ _ _ rfl
  have k1 : (w.alloc (.cells #[.int .i64 f, .int .i64 s, .int .i64 o, .bool lp] 44)).cell? ⟨w.heap.size, 1, none⟩ = some (.int .i64 s) := cell_new _ _ _ _ rfl
  subst hr
  by_cases h1 : f ≤ b
  · by_cases h2 : b - f < s
    · go_enter Try.func30, Try.ntmps30
      go_wp2_with fail
      go_ret
      exact ⟨ret_bool (by symm; exact decide_eq_true ⟨h1, by omega⟩), (by repeat' (first | (with_reducible exact Ext.refl _) | (with_reducible assumption) | (with_reducible refine Ext.alloc ?_ _) | (with_reducible refine Ext.drewN ?_ _) | (with_reducible refine Ext.drew ?_) | (with_reducible refine Ext.trans ?_ (by assumption))))⟩
    · have h2d : decide (b - f < s) = false := decide_eq_false h2
      go_enter Try.func30, Try.ntmps30
      go_wp2_with fail
      go_ret
      exact ⟨ret_bool (by symm; exact decide_eq_false (fun h => by omega)), (by repeat' (first | (with_reducible exact Ext.refl _) | (with_reducible assumption) | (with_reducible refine Ext.alloc ?_ _) | (with_reducible refine Ext.drewN ?_ _) | (with_reducible refine Ext.drew ?_) | (with_reducible refine Ext.trans ?_ (by assumption))))⟩
  · go_enter Try.func30, Try.ntmps30
    go_wp2_with fail
    go_ret
    exact ⟨ret_bool (by simp; omega), (by repeat' (first | (with_reducible exact Ext.refl _) | (with_reducible assumption) | (with_reducible refine Ext.alloc ?_ _) | (with_reducible refine Ext.drewN ?_ _) | (with_reducible refine Ext.drew ?_) | (with_reducible refine Ext.trans ?_ (by assumption))))⟩

set_option maxRecDepth 100000 in
set_option maxHeartbeats 4000000 in
theorem rhints (v : Value) (n : Nat) (F : Nat → Nat → Int) (L : Nat → Bool) (m : Int) (w : World) (h : RdH w v n F L) (hn : n ≤ 1000) (hwf : ∀ i j, i < n → j < 3 → (Lit.int .i64 (F i j)).wf = true) (r : Bool) (hr : r = true ↔ HsOk n F m) :
    Calls Try.prog 14 #[v, .int .i64 m] w fun e w' => e = .returned (.bool r) ∧ Ext w w' := by
  have HBAD := Lib.hid (fun (h : ¬ HsOk n F m) => ret_true_false hr h)
  have HRR := Lib.hid hr
  have HW := Lib.hid hwf
  obtain ⟨a, c, rfl, hnc, hcm, _, hs⟩ := h
  have HS := Lib.hid hs
  clear hr hwf hs hcm
  by_cases h8 : (8 : Int) < (n : Int)
  · obtain rfl := HBAD.out (fun ok => by have := ok.2.2; omega)
    go_enter Try.func14, Try.ntmps14
    go_wp2_with fail
    go_ret
    exact ⟨rfl, Ext.refl _⟩
  go_enter Try.func14, Try.ntmps14
  go_wp2_with fail
  go_loopw [5] (fun ci wr => ∃ i : Nat, i ≤ n ∧ ci = .int .i64 i ∧ (∀ j, j < i → HOk F m j) ∧ (∀ j k, j < k → k < i → ∀ b, HIn F j b → ¬ HIn F k b) ∧ Ext w wr) (fun ci _ => n - (intOf ci).toNat)
  case atStart => exact ⟨0, by omega, rfl, fun j hj => absurd hj (by omega), fun j k _ hk => absurd hk (by omega), Ext.refl _⟩
  case round =>
    obtain ⟨i, hi, rfl, hok, hdj, hx⟩ := hrel
    have HOK := Lib.hid hok
    have HDJ := Lib.hid hdj
    clear hok hdj
    by_cases hlt : i < n
    · have hii : (i : Int) < (n : Int) := by omega
      obtain ⟨bb, o, rfl, hb, hcell⟩ := HS.out (by omega)
      have y0 := (hx.cell hb).trans (hcell i 0 hlt (by omega))
      have y1 := (hx.cell hb).trans (hcell i 1 hlt (by omega))
      have y2 := (hx.cell hb).trans (hcell i 2 hlt (by omega))
      have y3 := (hx.cell hb).trans (hcell i 3 hlt (by omega))
      simp only [HV, ← Nat.add_assoc, Nat.add_zero, if_pos (show (0 : Nat) < 3 by omega), if_pos (show (1 : Nat) < 3 by omega), if_pos (show (2 : Nat) < 3 by omega), if_neg (show ¬ (3 : Nat) < 3 by omega)] at y0 y1 y2 y3
      have HCELL := Lib.hid hcell
      obtain ⟨w0, w0'⟩ := i64_bd (HW.out i 0 hlt (by omega))
      obtain ⟨w1, w1'⟩ := i64_bd (HW.out i 1 hlt (by omega))
      have hokd : HOk F m i = (0 ≤ F i 0 ∧ 1 ≤ F i 1 ∧ F i 0 ≤ m ∧ F i 1 ≤ m - F i 0 ∧ F i 0 + F i 1 ≤ 32 ∧ 0 ≤ F i 2 ∧ F i 2 ≤ 2147483647) := rfl
      have hind : ∀ b, HIn F i b = (F i 0 ≤ b ∧ b < F i 0 + F i 1) := fun _ => rfl
      obtain ⟨x0, hx0⟩ : ∃ x, F i 0 = x := ⟨_, rfl⟩
      obtain ⟨x1, hx1⟩ : ∃ x, F i 1 = x := ⟨_, rfl⟩
      obtain ⟨x2, hx2⟩ : ∃ x, F i 2 = x := ⟨_, rfl⟩
      obtain ⟨lp, hlp⟩ : ∃ x, L i = x := ⟨_, rfl⟩
      rw [hx0] at y0 w0 w0'
      rw [hx1] at y1 w1 w1'
      rw [hx2] at y2
      rw [hlp] at y3
      rw [hx0, hx1, hx2] at hokd
      simp only [hx0, hx1] at hind
      have HOKD := Lib.hid hokd
      have HIND := Lib.hid hind
      have hbad : ¬ HOk F m i → r = false := fun h => HBAD.out (fun ok => h (ok.1 i hlt))
      have HB2 := Lib.hid hbad
      clear hcell hokd hind hx0 hx1 hx2 hlp hbad
      have k0 : (wr.alloc (.cells #[.int .i64 x0, .int .i64 x1, .int .i64 x2, .bool lp] 44)).cell? ⟨wr.heap.size, 0, none⟩ = some (.int .i64 x0) := cell_new _ _ _ _ rfl
      have k1 : (wr.alloc (.cells #[.int .i64 x0, .int .i64 x1, .int .i64 x2, .bool lp] 44)).cell? ⟨wr.heap.size, 1, none⟩ = some (.int .i64 x1) := cell_new _ _ _ _ rfl
      have k2 : (wr.alloc (.cells #[.int .i64 x0, .int .i64 x1, .int .i64 x2, .bool lp] 44)).cell? ⟨wr.heap.size, 2, none⟩ = some (.int .i64 x2) := cell_new _ _ _ _ rfl
      have k3 : (wr.alloc (.cells #[.int .i64 x0, .int .i64 x1, .int .i64 x2, .bool lp] 44)).cell? ⟨wr.heap.size, 3, none⟩ = some (.bool lp) := cell_new _ _ _ _ rfl
      have hxa : Ext w (wr.alloc (.cells #[.int .i64 x0, .int .i64 x1, .int .i64 x2, .bool lp] 44)) := hx.alloc _
      by_cases q0 : x0 < 0
      · obtain rfl := HB2.out (fun h => by rw [HOKD.out] at h; omega)
        go_wp2_with fail
        go_ret
        exact ⟨rfl, hxa⟩
      have d0 : decide (x0 < 0) = false := decide_eq_false q0
      by_cases q1 : x1 < 1
      · obtain rfl := HB2.out (fun h => by rw [HOKD.out] at h; omega)
        go_wp2_with fail
        go_ret
        exact ⟨rfl, hxa⟩
      have d1 : decide (x1 < 1) = false := decide_eq_false q1
      by_cases q2 : 32 < x0
      · obtain rfl := HB2.out (fun h => by rw [HOKD.out] at h; omega)
        go_wp2_with fail
        go_ret
        exact ⟨rfl, hxa⟩
      have d2 : decide (32 < x0) = false := decide_eq_false q2
      by_cases q3 : 32 < x1
      · obtain rfl := HB2.out (fun h => by rw [HOKD.out] at h; omega)
        go_wp2_with fail
        go_ret
        exact ⟨rfl, hxa⟩
      have d3 : decide (32 < x1) = false := decide_eq_false q3
      by_cases q4 : m < x0 + x1
      · obtain rfl := HB2.out (fun h => by rw [HOKD.out] at h; omega)
        go_wp2_with fail
        go_ret
        exact ⟨rfl, hxa⟩
      have d4 : decide (m < x0 + x1) = false := decide_eq_false q4
      by_cases q5 : 32 < x0 + x1
      · obtain rfl := HB2.out (fun h => by rw [HOKD.out] at h; omega)
        go_wp2_with fail
        go_ret
        exact ⟨rfl, hxa⟩
      have d5 : decide (32 < x0 + x1) = false := decide_eq_false q5
      by_cases q6 : x2 < 0
      · obtain rfl := HB2.out (fun h => by rw [HOKD.out] at h; omega)
        go_wp2_with fail
        go_ret
        exact ⟨rfl, hxa⟩
      have d6 : decide (x2 < 0) = false := decide_eq_false q6
      by_cases q7 : 2147483647 < x2
      · obtain rfl := HB2.out (fun h => by rw [HOKD.out] at h; omega)
        go_wp2_with fail
        go_ret
        exact ⟨rfl, hxa⟩
      have d7 : decide (2147483647 < x2) = false := decide_eq_false q7
      have hHOK : HOk F m i := by rw [HOKD.out]; omega
      have HHOK := Lib.hid hHOK
      clear hHOK
      have hx32 : x0 ≤ 31 := by omega
      have hx00 : 0 ≤ x0 := by omega
      go_wp2_with fail
      generalize (wr.alloc (.cells #[.int .i64 x0, .int .i64 x1, .int .i64 x2, .bool lp] 44)) = w5 at *
      have hX5 : Ext w w5 := hxa
      clear hxa
      have hxr := hx
      clear hx y0 y1 y2 y3
      go_loopw [7] (fun cb wb => ∃ b : Nat, b ≤ 32 ∧ cb = .int .i64 b ∧ (∀ b', b' < b → ∀ k, k < i → HIn F k (b' : Int) → ¬ HIn F i (b' : Int)) ∧ Ext w5 wb) (fun cb _ => 32 - (intOf cb).toNat)
      case atStart => exact ⟨0, by omega, rfl, fun b' hb' => absurd hb' (by omega), Ext.refl _⟩
      case round =>
        obtain ⟨b, hb32, rfl, hno, hxb⟩ := hrel
        have HNO := Lib.hid hno
        clear hno
        by_cases hbl : b < 32
        · have hbi : (b : Int) < 32 := by omega
          go_wp2_with fail
          go_loopw [8] (fun ck wk => ∃ k : Nat, k ≤ i ∧ ck = .int .i64 k ∧ (∀ k', k' < k → HIn F k' (b : Int) → ¬ HIn F i (b : Int)) ∧ Ext w5 wk) (fun ck _ => i - (intOf ck).toNat)
          case atStart => exact ⟨0, by omega, rfl, fun k' hk' => absurd hk' (by omega), hxb⟩
          case round =>
            obtain ⟨k, hk, rfl, hnk, hxk⟩ := hrel
            have HNK := Lib.hid hnk
            clear hnk
            by_cases hki : k < i
            · have hkii : (k : Int) < (i : Int) := by omega
              have g0 := hxk.cellv k0
              have g1 := hxk.cellv k1
              have g2 := hxk.cellv k2
              have g3 := hxk.cellv k3
              obtain ⟨q1, hq1⟩ : ∃ q, decide (x0 ≤ (b : Int) ∧ (b : Int) < x0 + x1) = q := ⟨_, rfl⟩
              have HQ1 := Lib.hid hq1
              clear hq1
              have hXk : Ext w _ := hX5.trans hxk
              have z0 := (hXk.cell hb).trans (HCELL.out k 0 (by omega) (by omega))
              have z1 := (hXk.cell hb).trans (HCELL.out k 1 (by omega) (by omega))
              have z2 := (hXk.cell hb).trans (HCELL.out k 2 (by omega) (by omega))
              have z3 := (hXk.cell hb).trans (HCELL.out k 3 (by omega) (by omega))
              simp only [HV, ← Nat.add_assoc, Nat.add_zero, if_pos (show (0 : Nat) < 3 by omega), if_pos (show (1 : Nat) < 3 by omega), if_pos (show (2 : Nat) < 3 by omega), if_neg (show ¬ (3 : Nat) < 3 by omega)] at z0 z1 z2 z3
              have hkok := HOK.out k hki
              have hind : HIn F k (b : Int) = (F k 0 ≤ (b : Int) ∧ (b : Int) < F k 0 + F k 1) := rfl
              have hf0 : 0 ≤ F k 0 := hkok.1
              have hf1 : F k 0 ≤ 100 := by have h1 := hkok.2.1; have h2 := hkok.2.2.2.2.1; omega
              obtain ⟨f0, hF0⟩ : ∃ x, F k 0 = x := ⟨_, rfl⟩
              obtain ⟨f1, hF1⟩ : ∃ x, F k 1 = x := ⟨_, rfl⟩
              obtain ⟨f2, hF2⟩ : ∃ x, F k 2 = x := ⟨_, rfl⟩
              obtain ⟨fl, hFl⟩ : ∃ x, L k = x := ⟨_, rfl⟩
              rw [hF0] at z0 hind hf0 hf1
              rw [hF1] at z1 hind
              rw [hF2] at z2
              rw [hFl] at z3
              have HIND2 := Lib.hid hind
              obtain ⟨q2, hq2⟩ : ∃ q, decide (f0 ≤ (b : Int) ∧ (b : Int) < f0 + f1) = q := ⟨_, rfl⟩
              have HQ2 := Lib.hid hq2
              clear hq2 hkok hind hF0 hF1 hF2 hFl
              go_wp2_with fail
              refine (rin x0 x1 x2 b lp q1 HQ1.out hx00 (by omega) (by omega) (by omega) _).mono ?_
              rintro e w6 ⟨rfl, hx6⟩
              have hX6 : Ext w5 w6 := hxk.trans hx6
              have z0 := hx6.cellv z0
              have z1 := hx6.cellv z1
              have z2 := hx6.cellv z2
              have z3 := hx6.cellv z3
              have step : ¬ (q1 = true ∧ q2 = true) → ∀ k', k' < k + 1 → HIn F k' (b : Int) → ¬ HIn F i (b : Int) := by
                intro hqq k' hk' h1 h2
                by_cases e : k' < k
                · exact HNK.out k' e h1 h2
                · obtain rfl : k' = k := by omega
                  refine hqq ⟨?_, ?_⟩
                  · rw [← HQ1.out]; rw [HIND.out] at h2; exact decide_eq_true h2
                  · rw [← HQ2.out]; rw [HIND2.out] at h1; exact decide_eq_true h1
              have STEP := Lib.hid step
              clear step hx6 hxk g0 g1 g2 g3
              cases q1
              · go_wp2_with fail
                go_roundw
                case rel => exact ⟨k + 1, by omega, by go_num, STEP.out (by simp), hX6⟩
                case measure => simp [intOf]; omega
              · go_wp2_with fail
                refine (rin f0 f1 f2 b fl q2 HQ2.out hf0 hf1 (by omega) (by omega) _).mono ?_
                rintro e w7 ⟨rfl, hx7⟩
                cases q2
                · go_wp2_with fail
                  go_roundw
                  case rel => exact ⟨k + 1, by omega, by go_num, STEP.out (by simp), hX6.trans hx7⟩
                  case measure => simp [intOf]; omega
                · obtain rfl : r = false := HBAD.out (fun ok => ok.2.1 k i hki hlt b (by rw [HIND2.out]; exact of_decide_eq_true HQ2.out) (by rw [HIND.out]; exact of_decide_eq_true HQ1.out))
                  go_wp2_with fail
                  go_ret
                  exact ⟨rfl, hX5.trans (hX6.trans hx7)⟩
            · obtain rfl : i = k := by omega
              go_wp2_with fail
              go_roundw
              case rel =>
                refine ⟨b + 1, by omega, by go_num, ?_, hxk⟩
                intro b' hb' k' hk'
                by_cases e : b' < b
                · exact HNO.out b' e k' hk'
                · obtain rfl : b' = b := by omega
                  exact HNK.out k' hk'
              case measure => simp [intOf]; omega
        · obtain rfl : b = 32 := by omega
          go_wp2_with fail
          go_roundw
          case rel =>
            refine ⟨i + 1, by omega, by go_num, ?_, ?_, hX5.trans hxb⟩
            · intro j hj
              by_cases e : j < i
              · exact HOK.out j e
              · obtain rfl : j = i := by omega
                exact HHOK.out
            · intro j k hjk hk z h1 h2
              by_cases e : k < i
              · exact HDJ.out j k hjk e z h1 h2
              · obtain rfl : k = i := by omega
                have h3 := HIND.out z ▸ h2
                have hz0 : 0 ≤ z := by omega
                obtain ⟨zn, rfl⟩ := Int.eq_ofNat_of_zero_le hz0
                exact HNO.out zn (by have := h3.2; omega) j hjk h1 h2
          case measure => simp [intOf]; omega
    · obtain rfl : n = i := by omega
      obtain rfl : r = true := HRR.out.2 ⟨HOK.out, HDJ.out, by omega⟩
      go_wp2_with fail
      go_ret
      exact ⟨rfl, hx⟩
end Go.Proofs.Ytepnmclgkbphmaa
