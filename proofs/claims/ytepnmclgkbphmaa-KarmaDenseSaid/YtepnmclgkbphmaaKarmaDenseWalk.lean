/-
  gradinelaw14.KarmaDense answers true. No condition.
-/
import Derived.Test.YtepnmclgkbphmaaKWakes
import Derived.Test.YtepnmclgkbphmaaKRoom
namespace Go.Proofs.Ytepnmclgkbphmaa
open Go.RowKit

set_option maxRecDepth 100000 in
set_option maxHeartbeats 16000000 in
theorem walk_KarmaDense (v0 : Value) (w : World) (h0 : IsFlat Try.prog 25 w v0) :
    Calls Try.prog 5 #[v0] w fun e w' => e = .returned (.bool true) ∧ Ext w w' := by
  obtain ⟨hv, n, F, L, bl, k0, k1, k2, rfl, hr, hwf, _⟩ := lay_of h0
  have HRD := Lib.hid hr
  have HWF := Lib.hid hwf
  obtain ⟨a, c, rfl, hnc, hcm, _, hcs⟩ := hr
  have HCS := Lib.hid hcs
  have hn63 : (n : Int) ≤ 9223372036854775807 := by unfold maxLen at hcm; omega
  clear h0 hwf hcm hnc hcs
  go_enter Try.func5, Try.ntmps5
  go_upto_region 1 with fail
  have hx0 : Ext w (w.alloc (.cells #[.slice a n c, .int .i64 bl, .int .i64 k0, .int .i64 k1, .int .i64 k2] 25)) := (Ext.refl w).alloc _
  have y0 := cell_new w #[.slice a n c, .int .i64 bl, .int .i64 k0, .int .i64 k1, .int .i64 k2] 25 (0, 0) (j := 0) rfl
  have y1 := cell_new w #[.slice a n c, .int .i64 bl, .int .i64 k0, .int .i64 k1, .int .i64 k2] 25 (0, 0) (j := 1) rfl
  have y2 := cell_new w #[.slice a n c, .int .i64 bl, .int .i64 k0, .int .i64 k1, .int .i64 k2] 25 (0, 0) (j := 2) rfl
  have y3 := cell_new w #[.slice a n c, .int .i64 bl, .int .i64 k0, .int .i64 k1, .int .i64 k2] 25 (0, 0) (j := 3) rfl
  have y4 := cell_new w #[.slice a n c, .int .i64 bl, .int .i64 k0, .int .i64 k1, .int .i64 k2] 25 (0, 0) (j := 4) rfl
  generalize (w.alloc (.cells #[.slice a n c, .int .i64 bl, .int .i64 k0, .int .i64 k1, .int .i64 k2] 25)) = w0 at *
  obtain ⟨pb, hpb⟩ : ∃ pb, pb = w.heap.size := ⟨_, rfl⟩
  rw [← hpb] at y0 y1 y2 y3 y4 ⊢
  clear hpb
  go_wp2_with fail
  refine (wakes14 _).mono ?_
  rintro e w1 ⟨rfl, hx1⟩
  have hX1 := hx0.trans hx1
  have y0 := hx1.cellv y0
  have y1 := hx1.cellv y1
  have y2 := hx1.cellv y2
  have y3 := hx1.cellv y3
  have y4 := hx1.cellv y4
  clear hx0 hx1
  by_cases hl : 20 < n
  · go_wp2_with fail
    refine (klong a n c hn63 bl k0 k1 k2 _ true (decide_eq_true hl)).mono ?_
    rintro e w2 ⟨rfl, hx2⟩
    go_wp2_with fail
    go_ret
    exact ⟨rfl, (by repeat' (first | (with_reducible exact Ext.refl _) | (with_reducible assumption) | (with_reducible refine Ext.alloc ?_ _) | (with_reducible refine Ext.drewN ?_ _) | (with_reducible refine Ext.drew ?_) | (with_reducible refine Ext.trans ?_ (by assumption))))⟩
  go_wp2_with fail
  refine (klong a n c hn63 bl k0 k1 k2 _ false (decide_eq_false hl)).mono ?_
  rintro e w2 ⟨rfl, hx2⟩
  have hX2 := hX1.trans hx2
  have y0 := hx2.cellv y0
  have y1 := hx2.cellv y1
  have y2 := hx2.cellv y2
  have y3 := hx2.cellv y3
  have y4 := hx2.cellv y4
  clear hx2 hX1
  have hlp : n ≤ 20 := by omega
  clear hl
  by_cases hK : (1 ≤ k0 ∧ k0 ≤ 16) ∧ (1 ≤ k1 ∧ k1 ≤ 16) ∧ (1 ≤ k2 ∧ k2 ≤ 16)
  case neg =>
    have HN := Lib.hid (fun w' => (knew_caps (.slice a n c) bl w' (fun t => if t = 0 then k0 else if t = 1 then k1 else k2) (fun h => hK ⟨h 0 (by omega), h 1 (by omega), h 2 (by omega)⟩) : Calls Try.prog 12 #[.slice a n c, .int .i64 bl, .agg #[.int .i64 k0, .int .i64 k1, .int .i64 k2]] w' _))
    clear hK
    go_wp2_with fail
    refine (HN.out _).mono ?_
    rintro e w3 ⟨rfl, hx3⟩
    go_wp2_with fail
    go_ret
    exact ⟨rfl, (by repeat' (first | (with_reducible exact Ext.refl _) | (with_reducible assumption) | (with_reducible refine Ext.alloc ?_ _) | (with_reducible refine Ext.drewN ?_ _) | (with_reducible refine Ext.drew ?_) | (with_reducible refine Ext.trans ?_ (by assumption))))⟩
  by_cases hb : 1 ≤ bl ∧ bl ≤ 32
  case neg =>
    have HN := Lib.hid (fun w' => knew_blocks (.slice a n c) bl w' k0 k1 k2 hK hb)
    clear hK hb
    go_wp2_with fail
    refine (HN.out _).mono ?_
    rintro e w3 ⟨rfl, hx3⟩
    go_wp2_with fail
    go_ret
    exact ⟨rfl, (by repeat' (first | (with_reducible exact Ext.refl _) | (with_reducible assumption) | (with_reducible refine Ext.alloc ?_ _) | (with_reducible refine Ext.drewN ?_ _) | (with_reducible refine Ext.drew ?_) | (with_reducible refine Ext.trans ?_ (by assumption))))⟩
  obtain ⟨cc, hcc, e0, e1, e2⟩ : ∃ cc : Nat → Nat, CapsOk cc ∧ k0 = (cc 0 : Nat) ∧ k1 = (cc 1 : Nat) ∧ k2 = (cc 2 : Nat) := caps_nat hK
  subst e0 e1 e2
  clear hK
  by_cases hok : HsOk n F bl
  case neg =>
    have HN := Lib.hid (fun w' (hx : Ext w w') => knew_hints (.slice a n c) n F L bl w' (HRD.out.ext hx) (by omega) HWF.out cc hcc hb hok)
    clear hok hb
    go_wp2_with fail
    refine (HN.out _ hX2).mono ?_
    rintro e w3 ⟨rfl, hx3⟩
    go_wp2_with fail
    go_ret
    exact ⟨rfl, (by repeat' (first | (with_reducible exact Ext.refl _) | (with_reducible assumption) | (with_reducible refine Ext.alloc ?_ _) | (with_reducible refine Ext.drewN ?_ _) | (with_reducible refine Ext.drew ?_) | (with_reducible refine Ext.trans ?_ (by assumption))))⟩
  have HN := Lib.hid (knew_ok (.slice a n c) n F L bl w2 (HRD.out.ext hX2) (by omega) HWF.out cc hcc hb hok)
  have hn8 := hok.2.2
  have HOK := Lib.hid hok
  have HCC := Lib.hid hcc
  clear hok hb hcc
  have hc0 := HCC.out.1 0
  have hc1 := HCC.out.1 1
  have hc2 := HCC.out.1 2
  have hycc : ∀ t, t < 3 → w2.cell? ⟨pb, 2 + t, none⟩ = some (.int .i64 (cc t : Nat)) := by
    intro t ht
    have : t = 0 ∨ t = 1 ∨ t = 2 := by omega
    rcases this with rfl | rfl | rfl
    · exact y2
    · exact y3
    · exact y4
  have HYC := Lib.hid hycc
  have hpbl := cell_lt y0
  have hwpb := hX2.size
  clear hycc
  obtain ⟨q0, hq0⟩ : ∃ q : Int, q = (cc 0 : Nat) := ⟨_, rfl⟩
  obtain ⟨q1, hq1⟩ : ∃ q : Int, q = (cc 1 : Nat) := ⟨_, rfl⟩
  obtain ⟨q2, hq2⟩ : ∃ q : Int, q = (cc 2 : Nat) := ⟨_, rfl⟩
  rw [← hq0, ← hq1, ← hq2] at HN
  rw [← hq0] at y2 ⊢
  rw [← hq1] at y3 ⊢
  rw [← hq2] at y4 ⊢
  clear hq0 hq1 hq2 hc0 hc1 hc2
  go_wp2_with fail
  refine HN.out.mono ?_
  rintro e w3 ⟨p, M, rfl, hwp, hpl, hx3⟩
  have HPL := Lib.hid hpl
  have hX3 := hX2.trans hx3
  have y0 := hx3.cellv y0
  clear hpl HN hX2 y1 y2 y3 y4
  go_wp2_with fail
  refine (kparts p bl cc n F L M _ HPL.out).mono ?_
  rintro e w5 ⟨v5, rfl, hp5, _, hx5⟩
  obtain ⟨a5, c5, rfl, hc5, hm5, _, hs5⟩ := hp5
  have HP5 := Lib.hid hs5
  have hX5 := hX3.trans hx5
  have y0 := hx5.cellv y0
  have HPM : Hid (∀ i k, i < n → k < n → ∀ j, j = i → F k 2 * F i 1 < F i 2 * F k 1 → ∀ t u, t < 4 → u < 4 → 0 < PR F cc M i t → 0 < PR F cc M k u → t ≤ u) := Lib.hid (fun i k hi hk _ _ h t u ht hu h1 h2 => pr_dense HPL.out.ord hi hk (by unfold dl kT kB; rw [if_pos hi, if_pos hi, if_pos hk, if_pos hk]; exact h) ht hu h1 h2)
  clear hs5 hm5 hx3 hx5 hX3 hc5 HYC
  go_wp2_with fail
  go_loopw [36] (fun ci wr => ∃ i : Nat, i ≤ n ∧ ci = .int .i64 i ∧ Ext w5 wr) (fun ci _ => n - (intOf ci).toNat)
  case atStart => exact ⟨0, Nat.zero_le _, rfl, Ext.refl _⟩
  case round =>
    obtain ⟨i, hi, rfl, hx⟩ := hrel
    by_cases hlt : i < n
    case neg =>
      obtain rfl : i = n := by omega
      go_wp2_with fail
      go_ret
      exact ⟨rfl, hX5.trans hx⟩
    obtain ⟨bb, o, rfl, hbb, hcell⟩ := HCS.out (by omega)
    obtain ⟨b5, o5, rfl, hb5, hcell5⟩ := HP5.out (by omega)
    have HCELL := Lib.hid hcell
    have HCELL5 := Lib.hid hcell5
    have hXr := hX5.trans hx
    have z0 := (hXr.cell hbb).trans (hcell i 0 hlt (by omega))
    have z1 := (hXr.cell hbb).trans (hcell i 1 hlt (by omega))
    have z2 := (hXr.cell hbb).trans (hcell i 2 hlt (by omega))
    have z3 := (hXr.cell hbb).trans (hcell i 3 hlt (by omega))
    simp only [Proofs.Ytepnmclgkbphmaa.HV, ← Nat.add_assoc, Nat.add_zero, if_pos (show (0 : Nat) < 3 by omega), if_pos (show (1 : Nat) < 3 by omega), if_pos (show (2 : Nat) < 3 by omega), if_neg (show ¬ (3 : Nat) < 3 by omega)] at z0 z1 z2 z3
    obtain ⟨g0, g1, g2, g3, g4, g5, g6⟩ := HOK.out.1 i hlt
    obtain ⟨x0, hx0⟩ : ∃ x, F i 0 = x := ⟨_, rfl⟩
    obtain ⟨x1, hx1⟩ : ∃ x, F i 1 = x := ⟨_, rfl⟩
    obtain ⟨x2, hx2⟩ : ∃ x, F i 2 = x := ⟨_, rfl⟩
    obtain ⟨lp, hlp⟩ : ∃ x, L i = x := ⟨_, rfl⟩
    have HX1 := Lib.hid hx1
    have HX2 := Lib.hid hx2
    rw [hx0] at z0 g0 g4
    rw [hx1] at z1 g1 g4
    rw [hx2] at z2 g5 g6
    rw [hlp] at z3
    have hs32 : x1 ≤ 32 := by omega
    have hii : (i : Int) < (n : Int) := by omega
    have hi0 : (0 : Int) ≤ (i : Int) := by omega
    have y0r := hx.cellv y0
    clear hcell hcell5 hx0 hx1 hx2 hlp g0 g2 g3 g4
    go_upto_region 12 with fail
    have ka := cell_new wr #[.int .i64 x0, .int .i64 x1, .int .i64 x2, .bool lp] 44 (0, 0) (j := 1) rfl
    have kb := cell_new wr #[.int .i64 x0, .int .i64 x1, .int .i64 x2, .bool lp] 44 (0, 0) (j := 2) rfl
    have hx6 : Ext wr (wr.alloc (.cells #[.int .i64 x0, .int .i64 x1, .int .i64 x2, .bool lp] 44)) := (Ext.refl wr).alloc _
    generalize (wr.alloc (.cells #[.int .i64 x0, .int .i64 x1, .int .i64 x2, .bool lp] 44)) = w6 at *
    obtain ⟨pa, hpa⟩ : ∃ pa, pa = wr.heap.size := ⟨_, rfl⟩
    rw [← hpa] at ka kb ⊢
    have y06 := hx6.cellv y0r
    have hX6 := hXr.trans hx6
    have hx56 := hx.trans hx6
    clear hpa z0 z1 z2 z3 y0r hx6 hXr
    obtain ⟨wo, rfl⟩ : ∃ wo : World, wo = wr := ⟨_, rfl⟩
    go_wp2_with fail
    go_loopw [44] (fun ck ws => ∃ k : Nat, k ≤ n ∧ ck = .int .i64 k ∧ Ext w6 ws) (fun ck _ => n - (intOf ck).toNat)
    case atStart => exact ⟨0, Nat.zero_le _, rfl, Ext.refl _⟩
    case round =>
      obtain ⟨k, hk, rfl, hxk⟩ := hrel
      by_cases hltk : k < n
      case neg =>
        obtain rfl : k = n := by omega
        go_wp2_with fail
        go_roundw
        case rel => exact ⟨i + 1, by omega, by go_num, hx56.trans hxk⟩
        case measure => simp [intOf]; omega
      have hXk := hX6.trans hxk
      have z0 := (hXk.cell hbb).trans (HCELL.out k 0 hltk (by omega))
      have z1 := (hXk.cell hbb).trans (HCELL.out k 1 hltk (by omega))
      have z2 := (hXk.cell hbb).trans (HCELL.out k 2 hltk (by omega))
      have z3 := (hXk.cell hbb).trans (HCELL.out k 3 hltk (by omega))
      simp only [Proofs.Ytepnmclgkbphmaa.HV, ← Nat.add_assoc, Nat.add_zero, if_pos (show (0 : Nat) < 3 by omega), if_pos (show (1 : Nat) < 3 by omega), if_pos (show (2 : Nat) < 3 by omega), if_neg (show ¬ (3 : Nat) < 3 by omega)] at z0 z1 z2 z3
      obtain ⟨g0, g1', g2, g3, g4, g5', g6'⟩ := HOK.out.1 k hltk
      obtain ⟨u0, hu0⟩ : ∃ x, F k 0 = x := ⟨_, rfl⟩
      obtain ⟨u1, hu1⟩ : ∃ x, F k 1 = x := ⟨_, rfl⟩
      obtain ⟨u2, hu2⟩ : ∃ x, F k 2 = x := ⟨_, rfl⟩
      obtain ⟨lq, hlq⟩ : ∃ x, L k = x := ⟨_, rfl⟩
      have HU1 := Lib.hid hu1
      have HU2 := Lib.hid hu2
      rw [hu0] at z0 g0 g4
      rw [hu1] at z1 g1' g4
      rw [hu2] at z2 g5' g6'
      rw [hlq] at z3
      have hs32' : u1 ≤ 32 := by omega
      have hkk : (k : Int) < (n : Int) := by omega
      have hk0 : (0 : Int) ≤ (k : Int) := by omega
      have ka7 := hxk.cellv ka
      have kb7 := hxk.cellv kb
      have y07 := hxk.cellv y06
      have ka8 := cell_old (.cells #[.int .i64 u0, .int .i64 u1, .int .i64 u2, .bool lq] 44) ka7
      have kb8 := cell_old (.cells #[.int .i64 u0, .int .i64 u1, .int .i64 u2, .bool lq] 44) kb7
      obtain ⟨m0, m1⟩ := nonneg_mul_bd g5 g6 (show 0 ≤ u1 by omega) (show u1 ≤ 2147483647 by omega)
      obtain ⟨m2, m3⟩ := nonneg_mul_bd g5' g6' (show 0 ≤ x1 by omega) (show x1 ≤ 2147483647 by omega)
      clear hu0 hu1 hu2 hlq g0 g2 g3 g4
      by_cases hle : x2 * u1 ≤ u2 * x1
      · go_wp2_with fail
        go_roundw
        case rel => exact ⟨k + 1, by omega, by go_num, (by repeat' (first | (with_reducible exact Ext.refl _) | (with_reducible assumption) | (with_reducible refine Ext.alloc ?_ _) | (with_reducible refine Ext.drewN ?_ _) | (with_reducible refine Ext.drew ?_) | (with_reducible refine Ext.trans ?_ (by assumption))))⟩
        case measure => simp [intOf]; omega
      have HPM2 := Lib.hid (HPM.out i k hlt hltk i rfl (by rw [HX1.out, HX2.out, HU1.out, HU2.out]; omega))
      obtain ⟨wp, rfl⟩ : ∃ wp : World, wp = wr := ⟨_, rfl⟩
      go_upto_region 16 with fail
      have hx8 : Ext w6 (wp.alloc (.cells #[.int .i64 u0, .int .i64 u1, .int .i64 u2, .bool lq] 44)) := hxk.alloc _
      generalize (wp.alloc (.cells #[.int .i64 u0, .int .i64 u1, .int .i64 u2, .bool lq] 44)) = w8 at *
      have hx58 := hx56.trans hx8
      clear z0 z1 z2 z3 m0 m1 m2 m3 ka kb ka7 kb7
      go_wp2_with fail
      go_loopw [10, 11, 60] (fun cl cf ct ws => ∃ t a b : Nat, t ≤ 4 ∧ ct = .int .i64 t ∧ cl = .int .i64 a ∧ cf = .int .i64 b ∧ Hid (a = 0 ∨ (a < 4 ∧ 0 < PR F cc M i a)) ∧ Hid (b = 3 ∨ (b < 4 ∧ 0 < PR F cc M k b)) ∧ Ext w8 ws) (fun _ _ ct _ => 4 - (intOf ct).toNat)
      case atStart => exact ⟨0, 0, 3, by omega, rfl, rfl, rfl, Lib.hid (.inl rfl), Lib.hid (.inl rfl), Ext.refl _⟩
      case round =>
        obtain ⟨t, a, b, ht, rfl, rfl, rfl, HA, HB, hxt⟩ := hrel
        by_cases h4 : t < 4
        case neg =>
          obtain rfl : t = 4 := by omega
          have hab : a ≤ b := by
            rcases HA.out with h | ⟨h, h'⟩
            · omega
            · rcases HB.out with e | ⟨e, e'⟩
              · omega
              · exact HPM2.out a b h e h' e'
          go_wp2_with fail
          go_roundw
          case rel => exact ⟨k + 1, by omega, by go_num, hx8.trans hxt⟩
          case measure => simp [intOf]; omega
        have hx5t := hx58.trans hxt
        have q0 := (hx5t.cell hb5).trans (HCELL5.out i t hlt h4)
        have q1 := (hx5t.cell hb5).trans (HCELL5.out k (3 - t) hltk (by omega))
        simp only [PV, ← Nat.add_assoc] at q0 q1
        have hti : (t : Int) < 4 := by omega
        have ht0 : (0 : Int) ≤ (t : Int) := by omega
        have h3i : (3 : Int) - (t : Int) < 4 := by omega
        have h30 : (0 : Int) ≤ (3 : Int) - (t : Int) := by omega
        have htn : ((3 : Int) - (t : Int)).toNat = 3 - t := by omega
        have h3c : (3 : Int) - (t : Int) = ((3 - t : Nat) : Int) := by omega
        have H3C := Lib.hid h3c
        clear h3c
        by_cases p0 : 0 < PR F cc M i t
        · have HA' : Hid (t = 0 ∨ (t < 4 ∧ 0 < PR F cc M i t)) := Lib.hid (.inr ⟨h4, p0⟩)
          by_cases p1 : 0 < PR F cc M k (3 - t)
          · have HB' : Hid (3 - t = 3 ∨ (3 - t < 4 ∧ 0 < PR F cc M k (3 - t))) := Lib.hid (.inr ⟨by omega, p1⟩)
            obtain ⟨r0, hr0⟩ : ∃ x, x = PR F cc M i t := ⟨_, rfl⟩
            obtain ⟨r1, hr1⟩ : ∃ x, x = PR F cc M k (3 - t) := ⟨_, rfl⟩
            rw [← hr0] at q0 p0
            rw [← hr1] at q1 p1
            clear hr0 hr1
            go_wp2_with fail
            go_roundw
            case rel => exact ⟨t + 1, t, 3 - t, by omega, by go_num, rfl, by rw [H3C.out], HA', HB', hxt⟩
            case measure => simp [intOf]; omega
          · obtain ⟨r0, hr0⟩ : ∃ x, x = PR F cc M i t := ⟨_, rfl⟩
            rw [← hr0] at q0 p0
            have e1 : PR F cc M k (3 - t) = 0 := by omega
            rw [e1] at q1
            clear hr0 e1 p1
            go_wp2_with fail
            go_roundw
            case rel => exact ⟨t + 1, t, b, by omega, by go_num, rfl, rfl, HA', HB, hxt⟩
            case measure => simp [intOf]; omega
        · have e0 : PR F cc M i t = 0 := by omega
          rw [e0] at q0
          clear e0 p0
          by_cases p1 : 0 < PR F cc M k (3 - t)
          · have HB' : Hid (3 - t = 3 ∨ (3 - t < 4 ∧ 0 < PR F cc M k (3 - t))) := Lib.hid (.inr ⟨by omega, p1⟩)
            obtain ⟨r1, hr1⟩ : ∃ x, x = PR F cc M k (3 - t) := ⟨_, rfl⟩
            rw [← hr1] at q1 p1
            clear hr1
            go_wp2_with fail
            go_roundw
            case rel => exact ⟨t + 1, a, 3 - t, by omega, by go_num, rfl, by rw [H3C.out], HA, HB', hxt⟩
            case measure => simp [intOf]; omega
          · have e1 : PR F cc M k (3 - t) = 0 := by omega
            rw [e1] at q1
            clear e1 p1
            go_wp2_with fail
            go_roundw
            case rel => exact ⟨t + 1, a, b, by omega, by go_num, rfl, rfl, HA, HB, hxt⟩
            case measure => simp [intOf]; omega
end Go.Proofs.Ytepnmclgkbphmaa
