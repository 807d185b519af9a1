/-
  gradinelaw15.PartActs answers true. No condition.
-/
import Derived.Test.YtpmfadepinmmjaaRp5
import Derived.Test.YtpmfadepinmmjaaKLay
import Derived.Test.YtpmfadepinmmjaaStruct
import Derived.Test.YtpmfadepinmmjaaPWakes
import Derived.Test.YtpmfadepinmmjaaKPlan
namespace Go.Proofs.Ytpmfadepinmmjaa
open Go.RowKit

set_option maxRecDepth 100000 in
set_option maxHeartbeats 16000000 in
theorem walk_PartActs (v0 v1 v2 : Value) (w : World) (h0 : IsFlat Try.prog 25 w v0) (h1 : IsInt .i64 v1) (h2 : IsRows 2 w v2) :
    Calls Try.prog 5 #[v0, v1, v2] w fun e w' => e = .returned (.bool true) ∧ Ext w w' := by
  obtain ⟨hv, n, F, L, bl, k0, k1, k2, rfl, hr, hwf, _⟩ := lay_of h0
  obtain ⟨tv, rfl, wt⟩ := h1
  obtain ⟨t0, t1⟩ := i64_bd wt
  obtain ⟨na, A, hra, hwa⟩ := h2
  have HRD := Lib.hid hr
  have HWF := Lib.hid hwf
  have HWA := Lib.hid hwa
  obtain ⟨a, c, rfl, hnc, hcm, _, hcs⟩ := hr
  obtain ⟨a2, c2, rfl, hnc2, hcm2, _, hcs2⟩ := hra
  have HCA := Lib.hid hcs2
  have hn63 : (n : Int) ≤ 9223372036854775807 := by unfold maxLen at hcm; omega
  have hn632 : (na : Int) ≤ 9223372036854775807 := by unfold maxLen at hcm2; omega
  clear h0 hwf hwa hcm hcm2 hnc hnc2 hcs hcs2 wt
  go_enter Try.func5, Try.ntmps5
  go_upto_region 1 with fail
  have hx0 : Ext w (w.alloc (.cells #[.slice a n c, .int .i64 bl, .int .i64 k0, .int .i64 k1, .int .i64 k2] 25)) := (Ext.refl w).alloc _
  have y0 := cell_new w #[.slice a n c, .int .i64 bl, .int .i64 k0, .int .i64 k1, .int .i64 k2] 25 (0, 0) (j := 0) rfl
  have y1 := cell_new w #[.slice a n c, .int .i64 bl, .int .i64 k0, .int .i64 k1, .int .i64 k2] 25 (0, 0) (j := 1) rfl
  have y2 := cell_new w #[.slice a n c, .int .i64 bl, .int .i64 k0, .int .i64 k1, .int .i64 k2] 25 (0, 0) (j := 2) rfl
  have y3 := cell_new w #[.slice a n c, .int .i64 bl, .int .i64 k0, .int .i64 k1, .int .i64 k2] 25 (0, 0) (j := 3) rfl
  have y4 := cell_new w #[.slice a n c, .int .i64 bl, .int .i64 k0, .int .i64 k1, .int .i64 k2] 25 (0, 0) (j := 4) rfl
  generalize (w.alloc (.cells #[.slice a n c, .int .i64 bl, .int .i64 k0, .int .i64 k1, .int .i64 k2] 25)) = w0 at *
  obtain ⟨pb, hpb⟩ : ∃ pb, pb = w.heap.size := ⟨_, rfl⟩
  rw [← hpb] at y0 y1 y2 y3 y4 ⊢
  clear hpb
  go_wp2_with fail
  refine (wakes15 _).mono ?_
  rintro e w1 ⟨rfl, hx1⟩
  have hX1 := hx0.trans hx1
  replace y0 := hx1.cellv y0
  replace y1 := hx1.cellv y1
  replace y2 := hx1.cellv y2
  replace y3 := hx1.cellv y3
  replace y4 := hx1.cellv y4
  clear hx0 hx1
  by_cases hl : 20 < n ∨ 150 < na
  · go_wp2_with fail
    refine (plong a n c hn63 bl k0 k1 k2 a2 na c2 hn632 _ true (decide_eq_true hl)).mono ?_
    rintro e w2 ⟨rfl, hx2⟩
    go_wp2_with fail
    go_ret
    exact ⟨rfl, (by repeat' (first | (with_reducible exact Ext.refl _) | (with_reducible assumption) | (with_reducible refine Ext.alloc ?_ _) | (with_reducible refine Ext.drewN ?_ _) | (with_reducible refine Ext.drew ?_) | (with_reducible refine Ext.trans ?_ (by assumption))))⟩
  go_wp2_with fail
  refine (plong a n c hn63 bl k0 k1 k2 a2 na c2 hn632 _ false (decide_eq_false hl)).mono ?_
  rintro e w2 ⟨rfl, hx2⟩
  have hX2 := hX1.trans hx2
  replace y0 := hx2.cellv y0
  replace y1 := hx2.cellv y1
  replace y2 := hx2.cellv y2
  replace y3 := hx2.cellv y3
  replace y4 := hx2.cellv y4
  clear hx2 hX1
  have hlp : n ≤ 20 := by omega
  have hlp2 : na ≤ 150 := by omega
  clear hl
  by_cases hK : (1 ≤ k0 ∧ k0 ≤ 16) ∧ (1 ≤ k1 ∧ k1 ≤ 16) ∧ (1 ≤ k2 ∧ k2 ≤ 16)
  case neg =>
    have HN := Lib.hid (fun w' => (knew_caps (.slice a n c) bl w' (fun t => if t = 0 then k0 else if t = 1 then k1 else k2) (fun h => hK ⟨h 0 (by omega), h 1 (by omega), h 2 (by omega)⟩) : Calls Try.prog 9 #[.slice a n c, .int .i64 bl, .agg #[.int .i64 k0, .int .i64 k1, .int .i64 k2]] w' _))
    clear hK
    go_wp2_with fail
    refine (HN.out _).mono ?_
    rintro e w3 ⟨rfl, hx3⟩
    go_wp2_with fail
    go_ret
    exact ⟨rfl, (by repeat' (first | (with_reducible exact Ext.refl _) | (with_reducible assumption) | (with_reducible refine Ext.alloc ?_ _) | (with_reducible refine Ext.drewN ?_ _) | (with_reducible refine Ext.drew ?_) | (with_reducible refine Ext.trans ?_ (by assumption))))⟩
  by_cases hb : 1 ≤ bl ∧ bl ≤ 32
  case neg =>
    have HN := Lib.hid (fun w' => knew_blocks (.slice a n c) bl w' k0 k1 k2 hK hb)
    clear hK hb
    go_wp2_with fail
    refine (HN.out _).mono ?_
    rintro e w3 ⟨rfl, hx3⟩
    go_wp2_with fail
    go_ret
    exact ⟨rfl, (by repeat' (first | (with_reducible exact Ext.refl _) | (with_reducible assumption) | (with_reducible refine Ext.alloc ?_ _) | (with_reducible refine Ext.drewN ?_ _) | (with_reducible refine Ext.drew ?_) | (with_reducible refine Ext.trans ?_ (by assumption))))⟩
  obtain ⟨cc, hcc, e0, e1, e2⟩ : ∃ cc : Nat → Nat, CapsOk cc ∧ k0 = (cc 0 : Nat) ∧ k1 = (cc 1 : Nat) ∧ k2 = (cc 2 : Nat) := caps_nat hK
  subst e0 e1 e2
  clear hK
  by_cases hok : HsOk n F bl
  case neg =>
    have HN := Lib.hid (fun w' (hx : Ext w w') => knew_hints (.slice a n c) n F L bl w' (HRD.out.ext hx) (by omega) HWF.out cc hcc hb hok)
    clear hok hb
    go_wp2_with fail
    refine (HN.out _ hX2).mono ?_
    rintro e w3 ⟨rfl, hx3⟩
    go_wp2_with fail
    go_ret
    exact ⟨rfl, (by repeat' (first | (with_reducible exact Ext.refl _) | (with_reducible assumption) | (with_reducible refine Ext.alloc ?_ _) | (with_reducible refine Ext.drewN ?_ _) | (with_reducible refine Ext.drew ?_) | (with_reducible refine Ext.trans ?_ (by assumption))))⟩
  have HN := Lib.hid (knew_ok (.slice a n c) n F L bl w2 (HRD.out.ext hX2) (by omega) HWF.out cc hcc hb hok)
  have hn8 := hok.2.2
  have HOK := Lib.hid hok
  have HCC := Lib.hid hcc
  clear hok hb hcc
  have hc0 := HCC.out.1 0
  have hc1 := HCC.out.1 1
  have hc2 := HCC.out.1 2
  have hycc : ∀ t, t < 3 → w2.cell? ⟨pb, 2 + t, none⟩ = some (.int .i64 (cc t : Nat)) := by
    intro t ht
    have : t = 0 ∨ t = 1 ∨ t = 2 := by omega
    rcases this with rfl | rfl | rfl
    · exact y2
    · exact y3
    · exact y4
  have HYC := Lib.hid hycc
  have hpbl := cell_lt y0
  have hwpb := hX2.size
  clear hycc
  obtain ⟨q0, hq0⟩ : ∃ q : Int, q = (cc 0 : Nat) := ⟨_, rfl⟩
  obtain ⟨q1, hq1⟩ : ∃ q : Int, q = (cc 1 : Nat) := ⟨_, rfl⟩
  obtain ⟨q2, hq2⟩ : ∃ q : Int, q = (cc 2 : Nat) := ⟨_, rfl⟩
  rw [← hq0, ← hq1, ← hq2] at HN
  rw [← hq0] at y2 ⊢
  rw [← hq1] at y3 ⊢
  rw [← hq2] at y4 ⊢
  have HQ012 : Hid (q0 = (cc 0 : Nat) ∧ q1 = (cc 1 : Nat) ∧ q2 = (cc 2 : Nat)) := Lib.hid ⟨hq0, hq1, hq2⟩
  clear hq0 hq1 hq2 hc0 hc1 hc2
  go_wp2_with fail
  refine HN.out.mono ?_
  rintro e w3 ⟨p, M, rfl, hwp, hpl, hx3⟩
  have HPL := Lib.hid hpl
  have hX3 := hX2.trans hx3
  replace y0 := hx3.cellv y0
  replace y2 := hx3.cellv y2
  replace y3 := hx3.cellv y3
  replace y4 := hx3.cellv y4
  clear hpl HN hX2 y1
  have hwp3 := hX3.size
  by_cases htr : 1 ≤ tv ∧ tv ≤ 3
  case neg =>
    --[[A
    have HPT := Lib.hid (pnew_tier p tv htr w3)
    by_cases h1 : tv < 1
    · clear htr
      go_wp2_with fail
      refine HPT.out.mono ?_
      rintro e w4 ⟨rfl, rfl⟩
      go_wp2_with fail
      go_ret
      exact ⟨rfl, hX3.trans (by repeat' (first | (with_reducible exact Ext.refl _) | (with_reducible assumption) | (with_reducible refine Ext.alloc ?_ _) | (with_reducible refine Ext.drewN ?_ _) | (with_reducible refine Ext.drew ?_) | (with_reducible refine Ext.trans ?_ (by assumption))))⟩
    · have h2 : 3 < tv := by omega
      clear htr
      go_wp2_with fail
      refine HPT.out.mono ?_
      rintro e w4 ⟨rfl, rfl⟩
      go_wp2_with fail
      go_ret
      exact ⟨rfl, hX3.trans (by repeat' (first | (with_reducible exact Ext.refl _) | (with_reducible assumption) | (with_reducible refine Ext.alloc ?_ _) | (with_reducible refine Ext.drewN ?_ _) | (with_reducible refine Ext.drew ?_) | (with_reducible refine Ext.trans ?_ (by assumption))))⟩
    --]]
  obtain ⟨t, rfl⟩ := Int.eq_ofNat_of_zero_le (show 0 ≤ tv by omega)
  have htb : 1 ≤ t ∧ t ≤ 3 := by omega
  have HTB := Lib.hid htb
  have HNP := Lib.hid (pnew p t bl cc n F L M w3 HPL.out htb)
  have ht1 : ¬ (t : Int) < 1 := by omega
  have ht2 : ¬ (3 : Int) < (t : Int) := by omega
  have hpl3 := cell_lt y0
  clear htr hx3 HYC
  go_wp2_with fail
  refine HNP.out.mono ?_
  rintro e w4 ⟨pc, bs, be, rfl, hpa, hbs, hbe, hx4⟩
  have HPA := Lib.hid hpa
  have hX4 := hX3.trans hx4
  replace y0 := hx4.cellv y0
  replace y2 := hx4.cellv y2
  replace y3 := hx4.cellv y3
  replace y4 := hx4.cellv y4
  have HM := Lib.hid HPL.out.ord
  have hx4' := hx4
  have hpbs : pb ∉ [bs, be] := by simp; omega
  have HBS : Hid (w.heap.size ≤ bs ∧ w.heap.size ≤ be ∧ bs < w4.heap.size ∧ be < w4.heap.size ∧ pc < w4.heap.size) := Lib.hid (by
    obtain ⟨A, E, k1, _⟩ := hpa.space
    have := k1.lt1
    have := k1.lt2
    have := cell_lt hpa.c0
    omega)
  have HX4 := Lib.hid hX4
  have HNR : Hid (∀ w' v, RdH w' v n F L → Calls Try.prog 19 #[v, .agg #[.int .i64 q0, .int .i64 q1, .int .i64 q2], .int .i64 (t : Nat)] w' _) := Lib.hid (fun w' v hv => by
    rw [HQ012.out.1, HQ012.out.2.1, HQ012.out.2.2]
    exact rnew15 v n F L cc M w' hv HOK.out.fr hn8 HCC.out.1 HM.out t)
  clear hpa hbs hbe hx4 HNP hX3 hX4 htb hx4'
  go_upto_region 11 with fail
  go_region_held3 (fun w' => w'.cell? ⟨pb, 0, none⟩ = some (.slice a n c) ∧ w'.cell? ⟨pb, 2, none⟩ = some (.int .i64 q0) ∧ w'.cell? ⟨pb, 3, none⟩ = some (.int .i64 q1) ∧ w'.cell? ⟨pb, 4, none⟩ = some (.int .i64 q2) ∧ Ext w4 w') (exact ⟨Ext.cellv (w := w4) (by repeat' (first | (with_reducible exact Ext.refl _) | (with_reducible assumption) | (with_reducible refine Ext.alloc ?_ _) | (with_reducible refine Ext.drewN ?_ _) | (with_reducible refine Ext.drew ?_) | (with_reducible refine Ext.trans ?_ (by assumption)))) y0, Ext.cellv (w := w4) (by repeat' (first | (with_reducible exact Ext.refl _) | (with_reducible assumption) | (with_reducible refine Ext.alloc ?_ _) | (with_reducible refine Ext.drewN ?_ _) | (with_reducible refine Ext.drew ?_) | (with_reducible refine Ext.trans ?_ (by assumption)))) y2, Ext.cellv (w := w4) (by repeat' (first | (with_reducible exact Ext.refl _) | (with_reducible assumption) | (with_reducible refine Ext.alloc ?_ _) | (with_reducible refine Ext.drewN ?_ _) | (with_reducible refine Ext.drew ?_) | (with_reducible refine Ext.trans ?_ (by assumption)))) y3, Ext.cellv (w := w4) (by repeat' (first | (with_reducible exact Ext.refl _) | (with_reducible assumption) | (with_reducible refine Ext.alloc ?_ _) | (with_reducible refine Ext.drewN ?_ _) | (with_reducible refine Ext.drew ?_) | (with_reducible refine Ext.trans ?_ (by assumption)))) y4, (by repeat' (first | (with_reducible exact Ext.refl _) | (with_reducible assumption) | (with_reducible refine Ext.alloc ?_ _) | (with_reducible refine Ext.drewN ?_ _) | (with_reducible refine Ext.drew ?_) | (with_reducible refine Ext.trans ?_ (by assumption))))⟩) (first | (refine step_append_rdg (by rfl) _ _ _ (by rfl) 58 (.agg #[.int .i64 0, .int .i64 0, .int .i64 0, .bool false]) 4 32 Try.underlying22 hint_zero (by rfl) (by decide) (by decide) w4.heap.size (Ext.size (w := w4) (by repeat' (first | (with_reducible exact Ext.refl _) | (with_reducible assumption) | (with_reducible refine Ext.alloc ?_ _) | (with_reducible refine Ext.drewN ?_ _) | (with_reducible refine Ext.drew ?_) | (with_reducible refine Ext.trans ?_ (by assumption))))) _ 0 [] (by rfl) (by first | exact own_empty _ 4 (Nat.le_refl _) | exact own_ext (own_empty _ 4 (Nat.le_refl _)) (by repeat' (first | (with_reducible exact Ext.refl _) | (with_reducible assumption) | (with_reducible refine Ext.alloc ?_ _) | (with_reducible refine Ext.drewN ?_ _) | (with_reducible refine Ext.drew ?_) | (with_reducible refine Ext.trans ?_ (by assumption))))) _ n (rcl 4 (HV F L) n) (by rfl) ((RdV.ext HRD.out (HX4.out.trans (by repeat' (first | (with_reducible exact Ext.refl _) | (with_reducible assumption) | (with_reducible refine Ext.alloc ?_ _) | (with_reducible refine Ext.drewN ?_ _) | (with_reducible refine Ext.drew ?_) | (with_reducible refine Ext.trans ?_ (by assumption)))))).rd (by decide)) (fun u hu => by obtain ⟨i, f, _, _, rfl⟩ := rcl_mem n u hu; exact HV_one F L i f) (by omega) ?_; intro vN wN hownN hgN; have hRN := RdV.of_rd (Rd.of_own (by simpa using hownN)); have HRN : Hid (RdH wN vN n F L ∧ ∀ z, vN.ownBlock = some z → w4.heap.size ≤ z) := Lib.hid ⟨hRN, fun z hz => (World.ownsRow.lt hownN z hz).1⟩; have hxN : Ext w4 wN := Below.grown (show Ext w4 _ from (by repeat' (first | (with_reducible exact Ext.refl _) | (with_reducible assumption) | (with_reducible refine Ext.alloc ?_ _) | (with_reducible refine Ext.drewN ?_ _) | (with_reducible refine Ext.drew ?_) | (with_reducible refine Ext.trans ?_ (by assumption))))) hgN (Ext.size (w := w4) (by repeat' (first | (with_reducible exact Ext.refl _) | (with_reducible assumption) | (with_reducible refine Ext.alloc ?_ _) | (with_reducible refine Ext.drewN ?_ _) | (with_reducible refine Ext.drew ?_) | (with_reducible refine Ext.trans ?_ (by assumption))))) (fun g hg => by cases hg; exact Ext.size (w := w4) (by repeat' (first | (with_reducible exact Ext.refl _) | (with_reducible assumption) | (with_reducible refine Ext.alloc ?_ _) | (with_reducible refine Ext.drewN ?_ _) | (with_reducible refine Ext.drew ?_) | (with_reducible refine Ext.trans ?_ (by assumption))))); clear hownN hgN hRN) | (go_at_call 19; refine (HNR.out _ vN (RdH.ext HRN.out.1 (by repeat' (first | (with_reducible exact Ext.refl _) | (with_reducible assumption) | (with_reducible refine Ext.alloc ?_ _) | (with_reducible refine Ext.drewN ?_ _) | (with_reducible refine Ext.drew ?_) | (with_reducible refine Ext.trans ?_ (by assumption)))))).mono ?_; rintro e wC ⟨px, gl, gp, rfl, hpx, hgl, hpx1, hgl1, hgp1, hrc, hxC⟩))
  have hxC4 : Ext w4 wC := (by repeat' (first | (with_reducible exact Ext.refl _) | (with_reducible assumption) | (with_reducible refine Ext.alloc ?_ _) | (with_reducible refine Ext.drewN ?_ _) | (with_reducible refine Ext.drew ?_) | (with_reducible refine Ext.trans ?_ (by assumption))))
  have HRC : Hid (RcAt wC [bs, be, gl] px gl vN gp n t F L cc M (List.replicate (n + 1) [])) := Lib.hid (by
    refine hrc [bs, be, gl] (by simp) ?_ ?_
    · have h1 := HBS.out
      have h2 : w4.heap.size ≤ wN.heap.size := hxN.size
      intro f hf
      simp at hf
      rcases hf with rfl | rfl | rfl
      · exact .inr (by omega)
      · exact .inr (by omega)
      · exact .inl rfl
    · intro h0 g hg hm
      have h1 := HBS.out
      have h3 := HRN.out.2 g hg
      have h2 : g < wN.heap.size := by
        obtain ⟨a9, c9, he, _, _, _, hk⟩ := HRN.out.1
        obtain ⟨b9, o9, rfl, hlt, _⟩ := hk h0
        rw [he] at hg
        cases hg
        exact hlt
      simp at hm
      omega)
  have HGS : Hid (pc ≠ gl ∧ bs ≠ gl ∧ be ≠ gl ∧ bs ≤ gl ∧ w.heap.size ≤ gl ∧ w.heap.size ≤ bs ∧ w.heap.size ≤ be ∧ bs < wC.heap.size ∧ be < wC.heap.size ∧ gl < wC.heap.size) := Lib.hid (by
    have h1 := HBS.out
    have h2 : w4.heap.size ≤ wN.heap.size := hxN.size
    have h3 : wN.heap.size ≤ wC.heap.size := hxC.size
    have h4 := HX4.out.size
    omega)
  have HXC := Lib.hid (HX4.out.trans hxC4)
  have HPC := Lib.hid (HPA.out.ext hxC4)
  obtain ⟨w5, rfl⟩ : ∃ w5 : World, w5 = wC := ⟨_, rfl⟩
  clear hrc hxC hxN HPA HX4 HNR hpx hgl hpx1 hgl1 hgp1 HBS hxC4 HRN hpbs y0 y2 y3 y4
  go_wp2_with fail
  go_loopw [63] (fun ci wr => ∃ (i : Nat) (Ls : List (List Nat)), i ≤ na ∧ ci = .int .i64 i ∧ Hid (PartAt wr pc p bs be t bl cc n F L M Ls) ∧ Hid (RcAt wr [bs, be, gl] px gl vN gp n t F L cc M Ls) ∧ Hid (Chg [bs, be, gl] w5 wr)) (fun ci _ => na - (intOf ci).toNat)
  case atStart => exact ⟨0, _, Nat.zero_le _, rfl, HPC, HRC, Lib.hid (Chg.refl _ _)⟩
  case round =>
    clear HPC HRC
    obtain ⟨i, Ls, hi, rfl, HP, HR, HC⟩ := hrel
    have hXr : Ext w wr := Ext.chg HXC.out HC.out (by have := HGS.out; simp; omega)
    by_cases hlt : i < na
    case neg =>
      obtain rfl : i = na := by omega
      go_wp2_with fail
      go_ret
      exact ⟨rfl, hXr⟩
    have hii : (i : Int) < (na : Int) := by omega
    have hi0 : (0 : Int) ≤ (i : Int) := by omega
    obtain ⟨ba, oa, rfl, hba, hcella⟩ := HCA.out (by omega)
    have z0 := (hXr.cell hba).trans (hcella i 0 hlt (by omega))
    have z1 := (hXr.cell hba).trans (hcella i 1 hlt (by omega))
    simp only [← Nat.add_assoc, Nat.add_zero] at z0 z1
    obtain ⟨kd, hkd⟩ : ∃ x, x = A i 0 := ⟨_, rfl⟩
    obtain ⟨b, hb⟩ : ∃ x, x = A i 1 := ⟨_, rfl⟩
    have HWB : Hid ((Lit.int .i64 b).wf = true) := Lib.hid (by rw [hb]; exact HWA.out i 1 hlt (by omega))
    rw [← hkd] at z0
    rw [← hb] at z1
    obtain ⟨is, x, hrb⟩ := rng_ex n F b
    have HRB := Lib.hid hrb
    clear hcella hkd hb hrb
    obtain ⟨wo, rfl⟩ : ∃ wo : World, wo = wr := ⟨_, rfl⟩
    go_upto_region 15 with fail
    have k0 := cell_new wo #[.int .i64 kd, .int .i64 b] 37 (0, 0) (j := 0) rfl
    have k1 := cell_new wo #[.int .i64 kd, .int .i64 b] 37 (0, 0) (j := 1) rfl
    have hx6 : Ext wo (wo.alloc (.cells #[.int .i64 kd, .int .i64 b] 37)) := (Ext.refl wo).alloc _
    generalize (wo.alloc (.cells #[.int .i64 kd, .int .i64 b] 37)) = w6 at *
    obtain ⟨pa, hpa⟩ : ∃ pa, pa = wo.heap.size := ⟨_, rfl⟩
    rw [← hpa] at k0 k1 ⊢
    simp only [List.getElem_toArray, List.getElem_cons_zero, List.getElem_cons_succ] at k0 k1
    have HPA6 : Hid (pa ≠ bs ∧ pa ≠ be ∧ pa ≠ gl) := Lib.hid (by have h1 := HGS.out; have h2 := HC.out.size; omega)
    have HP6 := Lib.hid (HP.out.ext hx6)
    have HR6 := Lib.hid (HR.out.ext hx6)
    have HC6 := Lib.hid (HC.out.ext hx6)
    clear hpa z0 z1 HP HR HC hx6 hXr
    by_cases hkk : 0 ≤ kd ∧ kd ≤ 2
    case neg =>
      --[[A
      by_cases hk1 : kd < 0
      · clear hkk
        go_wp2_with fail
        go_roundw
        case rel => exact ⟨i + 1, Ls, by omega, by go_num, Lib.hid (HP6.out.ext (by repeat' (first | (with_reducible exact Ext.refl _) | (with_reducible assumption) | (with_reducible refine Ext.alloc ?_ _) | (with_reducible refine Ext.drewN ?_ _) | (with_reducible refine Ext.drew ?_) | (with_reducible refine Ext.trans ?_ (by assumption))))), Lib.hid (HR6.out.ext (by repeat' (first | (with_reducible exact Ext.refl _) | (with_reducible assumption) | (with_reducible refine Ext.alloc ?_ _) | (with_reducible refine Ext.drewN ?_ _) | (with_reducible refine Ext.drew ?_) | (with_reducible refine Ext.trans ?_ (by assumption))))), Lib.hid (HC6.out.ext (by repeat' (first | (with_reducible exact Ext.refl _) | (with_reducible assumption) | (with_reducible refine Ext.alloc ?_ _) | (with_reducible refine Ext.drewN ?_ _) | (with_reducible refine Ext.drew ?_) | (with_reducible refine Ext.trans ?_ (by assumption)))))⟩
        case measure => simp [intOf]; omega
      · have hk2 : 2 < kd := by omega
        clear hkk
        go_wp2_with fail
        go_roundw
        case rel => exact ⟨i + 1, Ls, by omega, by go_num, Lib.hid (HP6.out.ext (by repeat' (first | (with_reducible exact Ext.refl _) | (with_reducible assumption) | (with_reducible refine Ext.alloc ?_ _) | (with_reducible refine Ext.drewN ?_ _) | (with_reducible refine Ext.drew ?_) | (with_reducible refine Ext.trans ?_ (by assumption))))), Lib.hid (HR6.out.ext (by repeat' (first | (with_reducible exact Ext.refl _) | (with_reducible assumption) | (with_reducible refine Ext.alloc ?_ _) | (with_reducible refine Ext.drewN ?_ _) | (with_reducible refine Ext.drew ?_) | (with_reducible refine Ext.trans ?_ (by assumption))))), Lib.hid (HC6.out.ext (by repeat' (first | (with_reducible exact Ext.refl _) | (with_reducible assumption) | (with_reducible refine Ext.alloc ?_ _) | (with_reducible refine Ext.drewN ?_ _) | (with_reducible refine Ext.drew ?_) | (with_reducible refine Ext.trans ?_ (by assumption)))))⟩
        case measure => simp [intOf]; omega
      --]]
    obtain ⟨V, Gn, W, E, T, hres⟩ : ∃ V Gn W E T, doF kd (PR F cc M x (t - 1)) (L x) (Ls.getD x []) b.toNat is = (V, Gn, W, E, T) := ⟨_, _, _, _, _, rfl⟩
    have HRES := Lib.hid hres
    have HDO := Lib.hid (rdo15 w6 [bs, be, gl] px gl vN gp n t F L cc M Ls HR6.out (by have h1 := HGS.out; have h2 := HC6.out.size; simp; omega) HP6.out.ok.len bl HOK.out HTB.out (fun r hr => by have h1 := HP6.out.ok.few r hr; have h2 := pr_32 (c := cc) HOK.out.fr HM.out r (t - 1); omega) (fun x => pr_32 HOK.out.fr HM.out x (t - 1)) kd b (by omega) HWB.out is x HRB.out V Gn W E T hres)
    have hk1 : ¬ kd < 0 := by omega
    have hk2 : ¬ 2 < kd := by omega
    clear hres
    go_upto_region 16 with fail
    go_wp2_with fail
    refine HDO.out.mono ?_
    rintro e w7 ⟨rfl, hr7, hc7⟩
    replace k0 := chg_cellc hc7 k0 (by have := HPA6.out; simp; omega)
    replace k1 := chg_cellc hc7 k1 (by have := HPA6.out; simp; omega)
    have HR7 := Lib.hid hr7
    have HP7 := Lib.hid (HP6.out.off hc7 HGS.out.1 HGS.out.2.1 HGS.out.2.2.1 HGS.out.2.2.2.1)
    have HC7 : Hid (Chg [bs, be, gl] w5 w7) := Lib.hid (HC6.out.trans (hc7.mono (by simp)))
    clear hr7 hc7 HR6 HP6 HC6 HDO
    go_upto_region 17 with fail
    have z1 := cell_new w7 #[.slice none 0 0, .int .i64 V, .bool Gn, .bool W, .int .i64 E] 53 (0, 0) (j := 1) rfl
    have z2 := cell_new w7 #[.slice none 0 0, .int .i64 V, .bool Gn, .bool W, .int .i64 E] 53 (0, 0) (j := 2) rfl
    have z3 := cell_new w7 #[.slice none 0 0, .int .i64 V, .bool Gn, .bool W, .int .i64 E] 53 (0, 0) (j := 3) rfl
    have z4 := cell_new w7 #[.slice none 0 0, .int .i64 V, .bool Gn, .bool W, .int .i64 E] 53 (0, 0) (j := 4) rfl
    have hx8 : Ext w7 (w7.alloc (.cells #[.slice none 0 0, .int .i64 V, .bool Gn, .bool W, .int .i64 E] 53)) := (Ext.refl w7).alloc _
    generalize (w7.alloc (.cells #[.slice none 0 0, .int .i64 V, .bool Gn, .bool W, .int .i64 E] 53)) = w8 at *
    obtain ⟨q, hq⟩ : ∃ q, q = w7.heap.size := ⟨_, rfl⟩
    rw [← hq] at z1 z2 z3 z4 ⊢
    simp only [List.getElem_toArray, List.getElem_cons_zero, List.getElem_cons_succ] at z1 z2 z3 z4
    have HQ : Hid (q ≠ bs ∧ q ≠ be ∧ q ≠ gl) := Lib.hid (by have h1 := HGS.out; have h2 := HC7.out.size; omega)
    replace k0 := hx8.cellv k0
    replace k1 := hx8.cellv k1
    have HR8 := Lib.hid (HR7.out.ext hx8)
    have HP8 := Lib.hid (HP7.out.ext hx8)
    have HC8 := Lib.hid (HC7.out.ext hx8)
    clear hq hx8 HR7 HP7 HC7
    obtain ⟨LT, hLT⟩ : ∃ y, y = (if is = true then Ls.set x T else Ls) := ⟨_, rfl⟩
    rw [← hLT] at HR8
    have HLT := Lib.hid hLT
    clear hLT
    have N1 : Hid (pa ∉ [bs, be] ∧ q ∉ [bs, be]) := Lib.hid (by have h1 := HPA6.out; have h2 := HQ.out; simp; omega)
    have hww : (W != W) = false := by simp
    have hgg : (Gn != Gn) = false := by simp
    have hvv : (V != V) = false := by simp
    have hee : (E != E) = false := by simp
    have hkd : kd = 0 ∨ kd = 1 ∨ kd = 2 := by omega
    rcases hkd with rfl | rfl | rfl
    ·
      --[[B
      have HAC := Lib.hid (fun w' (hx' : Ext w8 w') => (by have := act_use pc p bs be t bl cc n F L M Ls w' (HP8.out.ext hx') b is x HRB.out V Gn W E T HRES.out; rw [← HLT.out] at this; exact this : Calls Try.prog 21 #[.pointer (some ⟨pc, 0, none⟩), .int .i64 b] w' fun e w'' => e = .returned (.bool W) ∧ PartAt w'' pc p bs be t bl cc n F L M LT ∧ Chg [bs, be] w' w''))
      go_upto_region 19 with fail
      go_region_held3 (fun w' => w'.cell? ⟨pa, 1, none⟩ = some (.int .i64 b) ∧ w'.cell? ⟨q, 3, none⟩ = some (.bool W) ∧ Chg [bs, be] w8 w') (exact ⟨chg_cellc (S := [bs, be]) (w := w8) (by repeat' (first | (with_reducible exact Chg.refl _ _) | (with_reducible assumption) | (with_reducible refine Chg.drewN ?_ _) | (with_reducible refine Chg.drew ?_) | (with_reducible refine Chg.alloc ?_ _) | (with_reducible refine Chg.setCell ?_ (.inl (by simp)) _) | (with_reducible refine Chg.trans ?_ (by assumption)) | (with_reducible refine Chg.ext ?_ (by assumption)))) k1 N1.out.1, chg_cellc (S := [bs, be]) (w := w8) (by repeat' (first | (with_reducible exact Chg.refl _ _) | (with_reducible assumption) | (with_reducible refine Chg.drewN ?_ _) | (with_reducible refine Chg.drew ?_) | (with_reducible refine Chg.alloc ?_ _) | (with_reducible refine Chg.setCell ?_ (.inl (by simp)) _) | (with_reducible refine Chg.trans ?_ (by assumption)) | (with_reducible refine Chg.ext ?_ (by assumption)))) z3 N1.out.2, (by repeat' (first | (with_reducible exact Chg.refl _ _) | (with_reducible assumption) | (with_reducible refine Chg.drewN ?_ _) | (with_reducible refine Chg.drew ?_) | (with_reducible refine Chg.alloc ?_ _) | (with_reducible refine Chg.setCell ?_ (.inl (by simp)) _) | (with_reducible refine Chg.trans ?_ (by assumption)) | (with_reducible refine Chg.ext ?_ (by assumption))))⟩) ((go_at_call 21; refine (HAC.out _ (by repeat' (first | (with_reducible exact Ext.refl _) | (with_reducible assumption) | (with_reducible refine Ext.alloc ?_ _) | (with_reducible refine Ext.drewN ?_ _) | (with_reducible refine Ext.drew ?_) | (with_reducible refine Ext.trans ?_ (by assumption))))).mono ?_; rintro e wU ⟨rfl, hpU, hcU⟩))
      all_goals
        have hc9 : Chg [bs, be] w8 wU := (by repeat' (first | (with_reducible exact Chg.refl _ _) | (with_reducible assumption) | (with_reducible refine Chg.drewN ?_ _) | (with_reducible refine Chg.drew ?_) | (with_reducible refine Chg.alloc ?_ _) | (with_reducible refine Chg.setCell ?_ (.inl (by simp)) _) | (with_reducible refine Chg.trans ?_ (by assumption)) | (with_reducible refine Chg.ext ?_ (by assumption))))
        have hp9 := hpU
        clear hpU hcU
        obtain ⟨w9, rfl⟩ : ∃ w9 : World, w9 = wU := ⟨_, rfl⟩
        have HR9 : Hid (RcAt w9 [bs, be, gl] px gl vN gp n t F L cc M LT) := Lib.hid (HR8.out.chg hc9 (by simp) (by have := HGS.out; simp; omega))
        have HP9 := Lib.hid hp9
        have HC9 : Hid (Chg [bs, be, gl] w5 w9) := Lib.hid (HC8.out.trans (hc9.mono (by intro z hz; simp at hz ⊢; omega)))
        replace k1 := chg_cellc hc9 k1 N1.out.1
        clear hp9 hc9 HR8 HP8 HC8 HAC HRES k0
        obtain ⟨FL, hFL⟩ : ∃ y, y = flatP LT n := ⟨_, rfl⟩
        obtain ⟨fl, hfl⟩ : ∃ y, y = FL.length := ⟨_, rfl⟩
        have hff : ((fl : Int) != (fl : Int)) = false := by simp
        have hasl : (asInts (flatP LT n)).length = fl := by rw [hfl, hFL]; simp [asInts]
        have HAL := Lib.hid (fun w' (hx' : Ext w9 w') => ((pall pc p bs be t bl cc n F L M LT w' (HP9.out.ext hx')).mono (by rintro e w'' ⟨v, rfl, ho, hx⟩; obtain ⟨a', c', hv, _⟩ := ho.rd.parts; rw [hasl] at hv; exact ⟨a', c', by rw [hv], by rw [← hv, hFL]; exact ho.rd, hx⟩) : Calls Try.prog 12 #[.pointer (some ⟨pc, 0, none⟩)] w' fun e w'' => ∃ a' c', e = .returned (.slice a' fl c') ∧ RdI .i64 w'' (.slice a' fl c') (asInts FL) ∧ Ext w' w''))
        have HRL := Lib.hid (fun w' (hx' : Ext w9 w') => ((rall15 w' [bs, be, gl] px gl vN gp n t F L cc M LT (HR9.out.ext hx') hn8 (fun k hk => by have := flat_len pc p bs be t bl cc n F L M LT w9 HP9.out k hk; omega)).mono (by rintro e w'' ⟨v, rfl, ho, hx⟩; obtain ⟨a', c', hv, _⟩ := ho.rd.parts; rw [hasl] at hv; exact ⟨a', c', by rw [hv], by rw [← hv, hFL]; exact ho.rd, hx⟩) : Calls Try.prog 22 #[.pointer (some ⟨px, 0, none⟩)] w' fun e w'' => ∃ a' c', e = .returned (.slice a' fl c') ∧ RdI .i64 w'' (.slice a' fl c') (asInts FL) ∧ Ext w' w''))
        have HSM := Lib.hid (fun v1 v2 w' (h1 : RdI .i64 w' v1 (asInts FL)) (h2 : RdI .i64 w' v2 (asInts FL)) => ((sameints_any v1 v2 (asInts FL) (asInts FL) w' h1 h2).mono (by rintro e w'' ⟨rfl, hx⟩; exact ⟨by rw [decide_eq_true rfl], hx⟩) : Calls Try.prog 18 #[v1, v2] w' fun e w'' => e = .returned (.bool true) ∧ Ext w' w''))
        have HLN := Lib.hid (fun w' (hx' : Ext w9 w') => (by have := plen pc p bs be t bl cc n F L M LT w' (HP9.out.ext hx'); rw [← hFL, ← hfl] at this; exact this : Calls Try.prog 16 #[.pointer (some ⟨pc, 0, none⟩)] w' fun e w'' => e = .returned (.int .i64 (fl : Nat)) ∧ Ext w' w''))
        obtain ⟨r9, hr9⟩ : ∃ r9, decide (is = true ∧ b.toNat ∈ LT.getD x []) = r9 := ⟨_, rfl⟩
        have hrr : (r9 != r9) = false := by simp
        have HHA := Lib.hid (fun w' (hx' : Ext w9 w') => phas pc p bs be t bl cc n F L M LT w' (HP9.out.ext hx') b is x HRB.out r9 hr9)
        have HRH := Lib.hid (fun w' (hx' : Ext w9 w') => rhas15 w' [bs, be, gl] px gl vN gp n t F L cc M LT (HR9.out.ext hx') bl HOK.out b HWB.out is x HRB.out r9 hr9)
        obtain ⟨z9, hz9⟩ : ∃ z9, z9 = if is = true then PR F cc M x (t - 1) else 0 := ⟨_, rfl⟩
        have hpv9 : partV F cc M is x (t : Nat) = z9 := by
          rw [hz9]
          cases is with
          | true => rw [HP9.out.pv x, if_pos rfl]
          | false => unfold partV; rw [if_neg (by simp), if_neg (by simp)]
        have HTK := Lib.hid (fun r (hr : decide (0 < z9) = r) w' (hx' : Ext w9 w') => ptakes pc p bs be t bl cc n F L M LT w' (HP9.out.ext hx') b is x HRB.out r (by rw [hpv9]; exact hr))
        have HRP := Lib.hid (fun w' (hx' : Ext w9 w') => rpart15 w' [bs, be, gl] px gl vN gp n t F L cc M LT (HR9.out.ext hx') bl HOK.out HTB.out b HWB.out is x HRB.out z9 hz9)
        obtain ⟨k9, hk9, hzk⟩ : ∃ k9, decide (0 < z9) = k9 ∧ (k9 = true ∧ 0 < z9 ∨ k9 = false ∧ z9 = 0) := by
          refine ⟨_, rfl, ?_⟩
          by_cases h : 0 < z9
          · exact .inl ⟨decide_eq_true h, h⟩
          · exact .inr ⟨decide_eq_false h, by omega⟩
        have HTK9 := Lib.hid (HTK.out k9 hk9)
        clear hr9 hz9 hpv9 HTK hk9 hasl hfl hFL hww hgg hvv hee
        rcases hzk with ⟨rfl, hzp⟩ | ⟨rfl, rfl⟩
        all_goals
          go_upto_region 28 with fail
          go_region_held3 (fun w' => w'.cell? ⟨pa, 1, none⟩ = some (.int .i64 b) ∧ Ext w9 w') (exact ⟨Ext.cellv (w := w9) (by repeat' (first | (with_reducible exact Ext.refl _) | (with_reducible assumption) | (with_reducible refine Ext.alloc ?_ _) | (with_reducible refine Ext.drewN ?_ _) | (with_reducible refine Ext.drew ?_) | (with_reducible refine Ext.trans ?_ (by assumption)))) k1, (by repeat' (first | (with_reducible exact Ext.refl _) | (with_reducible assumption) | (with_reducible refine Ext.alloc ?_ _) | (with_reducible refine Ext.drewN ?_ _) | (with_reducible refine Ext.drew ?_) | (with_reducible refine Ext.trans ?_ (by assumption))))⟩) (first | (go_at_call 12; refine (HAL.out _ (by repeat' (first | (with_reducible exact Ext.refl _) | (with_reducible assumption) | (with_reducible refine Ext.alloc ?_ _) | (with_reducible refine Ext.drewN ?_ _) | (with_reducible refine Ext.drew ?_) | (with_reducible refine Ext.trans ?_ (by assumption))))).mono ?_; rintro e wA ⟨aA, cA, rfl, hA, hxA⟩; have HA := Lib.hid hA; clear hA) | (go_at_call 22; refine (HRL.out _ (by repeat' (first | (with_reducible exact Ext.refl _) | (with_reducible assumption) | (with_reducible refine Ext.alloc ?_ _) | (with_reducible refine Ext.drewN ?_ _) | (with_reducible refine Ext.drew ?_) | (with_reducible refine Ext.trans ?_ (by assumption))))).mono ?_; rintro e wB ⟨aB, cB, rfl, hB, hxB⟩; have HB := Lib.hid hB; clear hB) | (go_at_call 18; refine (HSM.out _ _ _ (HA.out.ext (by repeat' (first | (with_reducible exact Ext.refl _) | (with_reducible assumption) | (with_reducible refine Ext.alloc ?_ _) | (with_reducible refine Ext.drewN ?_ _) | (with_reducible refine Ext.drew ?_) | (with_reducible refine Ext.trans ?_ (by assumption))))) (HB.out.ext (by repeat' (first | (with_reducible exact Ext.refl _) | (with_reducible assumption) | (with_reducible refine Ext.alloc ?_ _) | (with_reducible refine Ext.drewN ?_ _) | (with_reducible refine Ext.drew ?_) | (with_reducible refine Ext.trans ?_ (by assumption)))))).mono ?_; rintro e wD ⟨rfl, hxD⟩) | (go_at_call 16; refine (HLN.out _ (by repeat' (first | (with_reducible exact Ext.refl _) | (with_reducible assumption) | (with_reducible refine Ext.alloc ?_ _) | (with_reducible refine Ext.drewN ?_ _) | (with_reducible refine Ext.drew ?_) | (with_reducible refine Ext.trans ?_ (by assumption))))).mono ?_; rintro e wE ⟨rfl, hxE⟩) | (go_at_call 23; refine (HHA.out _ (by repeat' (first | (with_reducible exact Ext.refl _) | (with_reducible assumption) | (with_reducible refine Ext.alloc ?_ _) | (with_reducible refine Ext.drewN ?_ _) | (with_reducible refine Ext.drew ?_) | (with_reducible refine Ext.trans ?_ (by assumption))))).mono ?_; rintro e wF ⟨rfl, rfl⟩) | (go_at_call 24; refine (HRH.out _ (by repeat' (first | (with_reducible exact Ext.refl _) | (with_reducible assumption) | (with_reducible refine Ext.alloc ?_ _) | (with_reducible refine Ext.drewN ?_ _) | (with_reducible refine Ext.drew ?_) | (with_reducible refine Ext.trans ?_ (by assumption))))).mono ?_; rintro e wG ⟨rfl, hxG⟩) | (go_at_call 14; refine (HTK9.out _ (by repeat' (first | (with_reducible exact Ext.refl _) | (with_reducible assumption) | (with_reducible refine Ext.alloc ?_ _) | (with_reducible refine Ext.drewN ?_ _) | (with_reducible refine Ext.drew ?_) | (with_reducible refine Ext.trans ?_ (by assumption))))).mono ?_; rintro e wH ⟨rfl, hxH⟩) | (go_at_call 25; refine (HRP.out _ (by repeat' (first | (with_reducible exact Ext.refl _) | (with_reducible assumption) | (with_reducible refine Ext.alloc ?_ _) | (with_reducible refine Ext.drewN ?_ _) | (with_reducible refine Ext.drew ?_) | (with_reducible refine Ext.trans ?_ (by assumption))))).mono ?_; rintro e wI ⟨rfl, hxI⟩))
          all_goals
            go_wp2_with fail
            go_roundw
            case rel => exact ⟨i + 1, LT, by omega, by go_num, Lib.hid (HP9.out.ext (by repeat' (first | (with_reducible exact Ext.refl _) | (with_reducible assumption) | (with_reducible refine Ext.alloc ?_ _) | (with_reducible refine Ext.drewN ?_ _) | (with_reducible refine Ext.drew ?_) | (with_reducible refine Ext.trans ?_ (by assumption))))), Lib.hid (HR9.out.ext (by repeat' (first | (with_reducible exact Ext.refl _) | (with_reducible assumption) | (with_reducible refine Ext.alloc ?_ _) | (with_reducible refine Ext.drewN ?_ _) | (with_reducible refine Ext.drew ?_) | (with_reducible refine Ext.trans ?_ (by assumption))))), Lib.hid (HC9.out.ext (by repeat' (first | (with_reducible exact Ext.refl _) | (with_reducible assumption) | (with_reducible refine Ext.alloc ?_ _) | (with_reducible refine Ext.drewN ?_ _) | (with_reducible refine Ext.drew ?_) | (with_reducible refine Ext.trans ?_ (by assumption)))))⟩
            case measure => simp [intOf]; omega
      --]]
    ·
      --[[C
      have HAC := Lib.hid (fun w' (hx' : Ext w8 w') => (by have := act_add pc p bs be t bl cc n F L M Ls w' (HP8.out.ext hx') b is x HRB.out V Gn W E T HRES.out; rw [← HLT.out] at this; exact this : Calls Try.prog 11 #[.pointer (some ⟨pc, 0, none⟩), .int .i64 b] w' fun e w'' => e = .returned (.tuple #[.int .i64 V, .bool Gn, .int .i64 E]) ∧ PartAt w'' pc p bs be t bl cc n F L M LT ∧ Chg [bs, be] w' w''))
      go_wp2_with fail
      refine (HAC.out _ (Ext.refl _)).mono ?_
      rintro e w9 ⟨rfl, hp9, hc9⟩
      replace z1 := chg_cellc hc9 z1 N1.out.2
      replace z2 := chg_cellc hc9 z2 N1.out.2
      replace z3 := chg_cellc hc9 z3 N1.out.2
      replace z4 := chg_cellc hc9 z4 N1.out.2
      go_upto_region 24 with fail
      have HR9 : Hid (RcAt w9 [bs, be, gl] px gl vN gp n t F L cc M LT) := Lib.hid (HR8.out.chg hc9 (by simp) (by have := HGS.out; simp; omega))
      have HP9 := Lib.hid hp9
      have HC9 : Hid (Chg [bs, be, gl] w5 w9) := Lib.hid (HC8.out.trans (hc9.mono (by intro z hz; simp at hz ⊢; omega)))
      replace k1 := chg_cellc hc9 k1 N1.out.1
      clear hp9 hc9 HR8 HP8 HC8 HAC HRES k0
      obtain ⟨FL, hFL⟩ : ∃ y, y = flatP LT n := ⟨_, rfl⟩
      obtain ⟨fl, hfl⟩ : ∃ y, y = FL.length := ⟨_, rfl⟩
      have hff : ((fl : Int) != (fl : Int)) = false := by simp
      have hasl : (asInts (flatP LT n)).length = fl := by rw [hfl, hFL]; simp [asInts]
      have HAL := Lib.hid (fun w' (hx' : Ext w9 w') => ((pall pc p bs be t bl cc n F L M LT w' (HP9.out.ext hx')).mono (by rintro e w'' ⟨v, rfl, ho, hx⟩; obtain ⟨a', c', hv, _⟩ := ho.rd.parts; rw [hasl] at hv; exact ⟨a', c', by rw [hv], by rw [← hv, hFL]; exact ho.rd, hx⟩) : Calls Try.prog 12 #[.pointer (some ⟨pc, 0, none⟩)] w' fun e w'' => ∃ a' c', e = .returned (.slice a' fl c') ∧ RdI .i64 w'' (.slice a' fl c') (asInts FL) ∧ Ext w' w''))
      have HRL := Lib.hid (fun w' (hx' : Ext w9 w') => ((rall15 w' [bs, be, gl] px gl vN gp n t F L cc M LT (HR9.out.ext hx') hn8 (fun k hk => by have := flat_len pc p bs be t bl cc n F L M LT w9 HP9.out k hk; omega)).mono (by rintro e w'' ⟨v, rfl, ho, hx⟩; obtain ⟨a', c', hv, _⟩ := ho.rd.parts; rw [hasl] at hv; exact ⟨a', c', by rw [hv], by rw [← hv, hFL]; exact ho.rd, hx⟩) : Calls Try.prog 22 #[.pointer (some ⟨px, 0, none⟩)] w' fun e w'' => ∃ a' c', e = .returned (.slice a' fl c') ∧ RdI .i64 w'' (.slice a' fl c') (asInts FL) ∧ Ext w' w''))
      have HSM := Lib.hid (fun v1 v2 w' (h1 : RdI .i64 w' v1 (asInts FL)) (h2 : RdI .i64 w' v2 (asInts FL)) => ((sameints_any v1 v2 (asInts FL) (asInts FL) w' h1 h2).mono (by rintro e w'' ⟨rfl, hx⟩; exact ⟨by rw [decide_eq_true rfl], hx⟩) : Calls Try.prog 18 #[v1, v2] w' fun e w'' => e = .returned (.bool true) ∧ Ext w' w''))
      have HLN := Lib.hid (fun w' (hx' : Ext w9 w') => (by have := plen pc p bs be t bl cc n F L M LT w' (HP9.out.ext hx'); rw [← hFL, ← hfl] at this; exact this : Calls Try.prog 16 #[.pointer (some ⟨pc, 0, none⟩)] w' fun e w'' => e = .returned (.int .i64 (fl : Nat)) ∧ Ext w' w''))
      obtain ⟨r9, hr9⟩ : ∃ r9, decide (is = true ∧ b.toNat ∈ LT.getD x []) = r9 := ⟨_, rfl⟩
      have hrr : (r9 != r9) = false := by simp
      have HHA := Lib.hid (fun w' (hx' : Ext w9 w') => phas pc p bs be t bl cc n F L M LT w' (HP9.out.ext hx') b is x HRB.out r9 hr9)
      have HRH := Lib.hid (fun w' (hx' : Ext w9 w') => rhas15 w' [bs, be, gl] px gl vN gp n t F L cc M LT (HR9.out.ext hx') bl HOK.out b HWB.out is x HRB.out r9 hr9)
      obtain ⟨z9, hz9⟩ : ∃ z9, z9 = if is = true then PR F cc M x (t - 1) else 0 := ⟨_, rfl⟩
      have hpv9 : partV F cc M is x (t : Nat) = z9 := by
        rw [hz9]
        cases is with
        | true => rw [HP9.out.pv x, if_pos rfl]
        | false => unfold partV; rw [if_neg (by simp), if_neg (by simp)]
      have HTK := Lib.hid (fun r (hr : decide (0 < z9) = r) w' (hx' : Ext w9 w') => ptakes pc p bs be t bl cc n F L M LT w' (HP9.out.ext hx') b is x HRB.out r (by rw [hpv9]; exact hr))
      have HRP := Lib.hid (fun w' (hx' : Ext w9 w') => rpart15 w' [bs, be, gl] px gl vN gp n t F L cc M LT (HR9.out.ext hx') bl HOK.out HTB.out b HWB.out is x HRB.out z9 hz9)
      obtain ⟨k9, hk9, hzk⟩ : ∃ k9, decide (0 < z9) = k9 ∧ (k9 = true ∧ 0 < z9 ∨ k9 = false ∧ z9 = 0) := by
        refine ⟨_, rfl, ?_⟩
        by_cases h : 0 < z9
        · exact .inl ⟨decide_eq_true h, h⟩
        · exact .inr ⟨decide_eq_false h, by omega⟩
      have HTK9 := Lib.hid (HTK.out k9 hk9)
      clear hr9 hz9 hpv9 HTK hk9 hasl hfl hFL hww hgg hvv hee
      rcases hzk with ⟨rfl, hzp⟩ | ⟨rfl, rfl⟩
      all_goals
        go_upto_region 28 with fail
        go_region_held3 (fun w' => w'.cell? ⟨pa, 1, none⟩ = some (.int .i64 b) ∧ Ext w9 w') (exact ⟨Ext.cellv (w := w9) (by repeat' (first | (with_reducible exact Ext.refl _) | (with_reducible assumption) | (with_reducible refine Ext.alloc ?_ _) | (with_reducible refine Ext.drewN ?_ _) | (with_reducible refine Ext.drew ?_) | (with_reducible refine Ext.trans ?_ (by assumption)))) k1, (by repeat' (first | (with_reducible exact Ext.refl _) | (with_reducible assumption) | (with_reducible refine Ext.alloc ?_ _) | (with_reducible refine Ext.drewN ?_ _) | (with_reducible refine Ext.drew ?_) | (with_reducible refine Ext.trans ?_ (by assumption))))⟩) (first | (go_at_call 12; refine (HAL.out _ (by repeat' (first | (with_reducible exact Ext.refl _) | (with_reducible assumption) | (with_reducible refine Ext.alloc ?_ _) | (with_reducible refine Ext.drewN ?_ _) | (with_reducible refine Ext.drew ?_) | (with_reducible refine Ext.trans ?_ (by assumption))))).mono ?_; rintro e wA ⟨aA, cA, rfl, hA, hxA⟩; have HA := Lib.hid hA; clear hA) | (go_at_call 22; refine (HRL.out _ (by repeat' (first | (with_reducible exact Ext.refl _) | (with_reducible assumption) | (with_reducible refine Ext.alloc ?_ _) | (with_reducible refine Ext.drewN ?_ _) | (with_reducible refine Ext.drew ?_) | (with_reducible refine Ext.trans ?_ (by assumption))))).mono ?_; rintro e wB ⟨aB, cB, rfl, hB, hxB⟩; have HB := Lib.hid hB; clear hB) | (go_at_call 18; refine (HSM.out _ _ _ (HA.out.ext (by repeat' (first | (with_reducible exact Ext.refl _) | (with_reducible assumption) | (with_reducible refine Ext.alloc ?_ _) | (with_reducible refine Ext.drewN ?_ _) | (with_reducible refine Ext.drew ?_) | (with_reducible refine Ext.trans ?_ (by assumption))))) (HB.out.ext (by repeat' (first | (with_reducible exact Ext.refl _) | (with_reducible assumption) | (with_reducible refine Ext.alloc ?_ _) | (with_reducible refine Ext.drewN ?_ _) | (with_reducible refine Ext.drew ?_) | (with_reducible refine Ext.trans ?_ (by assumption)))))).mono ?_; rintro e wD ⟨rfl, hxD⟩) | (go_at_call 16; refine (HLN.out _ (by repeat' (first | (with_reducible exact Ext.refl _) | (with_reducible assumption) | (with_reducible refine Ext.alloc ?_ _) | (with_reducible refine Ext.drewN ?_ _) | (with_reducible refine Ext.drew ?_) | (with_reducible refine Ext.trans ?_ (by assumption))))).mono ?_; rintro e wE ⟨rfl, hxE⟩) | (go_at_call 23; refine (HHA.out _ (by repeat' (first | (with_reducible exact Ext.refl _) | (with_reducible assumption) | (with_reducible refine Ext.alloc ?_ _) | (with_reducible refine Ext.drewN ?_ _) | (with_reducible refine Ext.drew ?_) | (with_reducible refine Ext.trans ?_ (by assumption))))).mono ?_; rintro e wF ⟨rfl, rfl⟩) | (go_at_call 24; refine (HRH.out _ (by repeat' (first | (with_reducible exact Ext.refl _) | (with_reducible assumption) | (with_reducible refine Ext.alloc ?_ _) | (with_reducible refine Ext.drewN ?_ _) | (with_reducible refine Ext.drew ?_) | (with_reducible refine Ext.trans ?_ (by assumption))))).mono ?_; rintro e wG ⟨rfl, hxG⟩) | (go_at_call 14; refine (HTK9.out _ (by repeat' (first | (with_reducible exact Ext.refl _) | (with_reducible assumption) | (with_reducible refine Ext.alloc ?_ _) | (with_reducible refine Ext.drewN ?_ _) | (with_reducible refine Ext.drew ?_) | (with_reducible refine Ext.trans ?_ (by assumption))))).mono ?_; rintro e wH ⟨rfl, hxH⟩) | (go_at_call 25; refine (HRP.out _ (by repeat' (first | (with_reducible exact Ext.refl _) | (with_reducible assumption) | (with_reducible refine Ext.alloc ?_ _) | (with_reducible refine Ext.drewN ?_ _) | (with_reducible refine Ext.drew ?_) | (with_reducible refine Ext.trans ?_ (by assumption))))).mono ?_; rintro e wI ⟨rfl, hxI⟩))
        all_goals
          go_wp2_with fail
          go_roundw
          case rel => exact ⟨i + 1, LT, by omega, by go_num, Lib.hid (HP9.out.ext (by repeat' (first | (with_reducible exact Ext.refl _) | (with_reducible assumption) | (with_reducible refine Ext.alloc ?_ _) | (with_reducible refine Ext.drewN ?_ _) | (with_reducible refine Ext.drew ?_) | (with_reducible refine Ext.trans ?_ (by assumption))))), Lib.hid (HR9.out.ext (by repeat' (first | (with_reducible exact Ext.refl _) | (with_reducible assumption) | (with_reducible refine Ext.alloc ?_ _) | (with_reducible refine Ext.drewN ?_ _) | (with_reducible refine Ext.drew ?_) | (with_reducible refine Ext.trans ?_ (by assumption))))), Lib.hid (HC9.out.ext (by repeat' (first | (with_reducible exact Ext.refl _) | (with_reducible assumption) | (with_reducible refine Ext.alloc ?_ _) | (with_reducible refine Ext.drewN ?_ _) | (with_reducible refine Ext.drew ?_) | (with_reducible refine Ext.trans ?_ (by assumption)))))⟩
          case measure => simp [intOf]; omega
      --]]
    ·
      --[[D
      have HAC := Lib.hid (fun w' (hx' : Ext w8 w') => (by have := act_rem pc p bs be t bl cc n F L M Ls w' (HP8.out.ext hx') b is x HRB.out V Gn W E T HRES.out; rw [← HLT.out] at this; exact this : Calls Try.prog 17 #[.pointer (some ⟨pc, 0, none⟩), .int .i64 b] w' fun e w'' => e = .returned (.bool W) ∧ PartAt w'' pc p bs be t bl cc n F L M LT ∧ Chg [bs, be] w' w''))
      go_upto_region 26 with fail
      go_region_held3 (fun w' => w'.cell? ⟨pa, 1, none⟩ = some (.int .i64 b) ∧ w'.cell? ⟨q, 3, none⟩ = some (.bool W) ∧ Chg [bs, be] w8 w') (exact ⟨chg_cellc (S := [bs, be]) (w := w8) (by repeat' (first | (with_reducible exact Chg.refl _ _) | (with_reducible assumption) | (with_reducible refine Chg.drewN ?_ _) | (with_reducible refine Chg.drew ?_) | (with_reducible refine Chg.alloc ?_ _) | (with_reducible refine Chg.setCell ?_ (.inl (by simp)) _) | (with_reducible refine Chg.trans ?_ (by assumption)) | (with_reducible refine Chg.ext ?_ (by assumption)))) k1 N1.out.1, chg_cellc (S := [bs, be]) (w := w8) (by repeat' (first | (with_reducible exact Chg.refl _ _) | (with_reducible assumption) | (with_reducible refine Chg.drewN ?_ _) | (with_reducible refine Chg.drew ?_) | (with_reducible refine Chg.alloc ?_ _) | (with_reducible refine Chg.setCell ?_ (.inl (by simp)) _) | (with_reducible refine Chg.trans ?_ (by assumption)) | (with_reducible refine Chg.ext ?_ (by assumption)))) z3 N1.out.2, (by repeat' (first | (with_reducible exact Chg.refl _ _) | (with_reducible assumption) | (with_reducible refine Chg.drewN ?_ _) | (with_reducible refine Chg.drew ?_) | (with_reducible refine Chg.alloc ?_ _) | (with_reducible refine Chg.setCell ?_ (.inl (by simp)) _) | (with_reducible refine Chg.trans ?_ (by assumption)) | (with_reducible refine Chg.ext ?_ (by assumption))))⟩) ((go_at_call 17; refine (HAC.out _ (by repeat' (first | (with_reducible exact Ext.refl _) | (with_reducible assumption) | (with_reducible refine Ext.alloc ?_ _) | (with_reducible refine Ext.drewN ?_ _) | (with_reducible refine Ext.drew ?_) | (with_reducible refine Ext.trans ?_ (by assumption))))).mono ?_; rintro e wU ⟨rfl, hpU, hcU⟩))
      all_goals
        have hc9 : Chg [bs, be] w8 wU := (by repeat' (first | (with_reducible exact Chg.refl _ _) | (with_reducible assumption) | (with_reducible refine Chg.drewN ?_ _) | (with_reducible refine Chg.drew ?_) | (with_reducible refine Chg.alloc ?_ _) | (with_reducible refine Chg.setCell ?_ (.inl (by simp)) _) | (with_reducible refine Chg.trans ?_ (by assumption)) | (with_reducible refine Chg.ext ?_ (by assumption))))
        have hp9 := hpU
        clear hpU hcU
        obtain ⟨w9, rfl⟩ : ∃ w9 : World, w9 = wU := ⟨_, rfl⟩
        have HR9 : Hid (RcAt w9 [bs, be, gl] px gl vN gp n t F L cc M LT) := Lib.hid (HR8.out.chg hc9 (by simp) (by have := HGS.out; simp; omega))
        have HP9 := Lib.hid hp9
        have HC9 : Hid (Chg [bs, be, gl] w5 w9) := Lib.hid (HC8.out.trans (hc9.mono (by intro z hz; simp at hz ⊢; omega)))
        replace k1 := chg_cellc hc9 k1 N1.out.1
        clear hp9 hc9 HR8 HP8 HC8 HAC HRES k0
        obtain ⟨FL, hFL⟩ : ∃ y, y = flatP LT n := ⟨_, rfl⟩
        obtain ⟨fl, hfl⟩ : ∃ y, y = FL.length := ⟨_, rfl⟩
        have hff : ((fl : Int) != (fl : Int)) = false := by simp
        have hasl : (asInts (flatP LT n)).length = fl := by rw [hfl, hFL]; simp [asInts]
        have HAL := Lib.hid (fun w' (hx' : Ext w9 w') => ((pall pc p bs be t bl cc n F L M LT w' (HP9.out.ext hx')).mono (by rintro e w'' ⟨v, rfl, ho, hx⟩; obtain ⟨a', c', hv, _⟩ := ho.rd.parts; rw [hasl] at hv; exact ⟨a', c', by rw [hv], by rw [← hv, hFL]; exact ho.rd, hx⟩) : Calls Try.prog 12 #[.pointer (some ⟨pc, 0, none⟩)] w' fun e w'' => ∃ a' c', e = .returned (.slice a' fl c') ∧ RdI .i64 w'' (.slice a' fl c') (asInts FL) ∧ Ext w' w''))
        have HRL := Lib.hid (fun w' (hx' : Ext w9 w') => ((rall15 w' [bs, be, gl] px gl vN gp n t F L cc M LT (HR9.out.ext hx') hn8 (fun k hk => by have := flat_len pc p bs be t bl cc n F L M LT w9 HP9.out k hk; omega)).mono (by rintro e w'' ⟨v, rfl, ho, hx⟩; obtain ⟨a', c', hv, _⟩ := ho.rd.parts; rw [hasl] at hv; exact ⟨a', c', by rw [hv], by rw [← hv, hFL]; exact ho.rd, hx⟩) : Calls Try.prog 22 #[.pointer (some ⟨px, 0, none⟩)] w' fun e w'' => ∃ a' c', e = .returned (.slice a' fl c') ∧ RdI .i64 w'' (.slice a' fl c') (asInts FL) ∧ Ext w' w''))
        have HSM := Lib.hid (fun v1 v2 w' (h1 : RdI .i64 w' v1 (asInts FL)) (h2 : RdI .i64 w' v2 (asInts FL)) => ((sameints_any v1 v2 (asInts FL) (asInts FL) w' h1 h2).mono (by rintro e w'' ⟨rfl, hx⟩; exact ⟨by rw [decide_eq_true rfl], hx⟩) : Calls Try.prog 18 #[v1, v2] w' fun e w'' => e = .returned (.bool true) ∧ Ext w' w''))
        have HLN := Lib.hid (fun w' (hx' : Ext w9 w') => (by have := plen pc p bs be t bl cc n F L M LT w' (HP9.out.ext hx'); rw [← hFL, ← hfl] at this; exact this : Calls Try.prog 16 #[.pointer (some ⟨pc, 0, none⟩)] w' fun e w'' => e = .returned (.int .i64 (fl : Nat)) ∧ Ext w' w''))
        obtain ⟨r9, hr9⟩ : ∃ r9, decide (is = true ∧ b.toNat ∈ LT.getD x []) = r9 := ⟨_, rfl⟩
        have hrr : (r9 != r9) = false := by simp
        have HHA := Lib.hid (fun w' (hx' : Ext w9 w') => phas pc p bs be t bl cc n F L M LT w' (HP9.out.ext hx') b is x HRB.out r9 hr9)
        have HRH := Lib.hid (fun w' (hx' : Ext w9 w') => rhas15 w' [bs, be, gl] px gl vN gp n t F L cc M LT (HR9.out.ext hx') bl HOK.out b HWB.out is x HRB.out r9 hr9)
        obtain ⟨z9, hz9⟩ : ∃ z9, z9 = if is = true then PR F cc M x (t - 1) else 0 := ⟨_, rfl⟩
        have hpv9 : partV F cc M is x (t : Nat) = z9 := by
          rw [hz9]
          cases is with
          | true => rw [HP9.out.pv x, if_pos rfl]
          | false => unfold partV; rw [if_neg (by simp), if_neg (by simp)]
        have HTK := Lib.hid (fun r (hr : decide (0 < z9) = r) w' (hx' : Ext w9 w') => ptakes pc p bs be t bl cc n F L M LT w' (HP9.out.ext hx') b is x HRB.out r (by rw [hpv9]; exact hr))
        have HRP := Lib.hid (fun w' (hx' : Ext w9 w') => rpart15 w' [bs, be, gl] px gl vN gp n t F L cc M LT (HR9.out.ext hx') bl HOK.out HTB.out b HWB.out is x HRB.out z9 hz9)
        obtain ⟨k9, hk9, hzk⟩ : ∃ k9, decide (0 < z9) = k9 ∧ (k9 = true ∧ 0 < z9 ∨ k9 = false ∧ z9 = 0) := by
          refine ⟨_, rfl, ?_⟩
          by_cases h : 0 < z9
          · exact .inl ⟨decide_eq_true h, h⟩
          · exact .inr ⟨decide_eq_false h, by omega⟩
        have HTK9 := Lib.hid (HTK.out k9 hk9)
        clear hr9 hz9 hpv9 HTK hk9 hasl hfl hFL hww hgg hvv hee
        rcases hzk with ⟨rfl, hzp⟩ | ⟨rfl, rfl⟩
        all_goals
          go_upto_region 28 with fail
          go_region_held3 (fun w' => w'.cell? ⟨pa, 1, none⟩ = some (.int .i64 b) ∧ Ext w9 w') (exact ⟨Ext.cellv (w := w9) (by repeat' (first | (with_reducible exact Ext.refl _) | (with_reducible assumption) | (with_reducible refine Ext.alloc ?_ _) | (with_reducible refine Ext.drewN ?_ _) | (with_reducible refine Ext.drew ?_) | (with_reducible refine Ext.trans ?_ (by assumption)))) k1, (by repeat' (first | (with_reducible exact Ext.refl _) | (with_reducible assumption) | (with_reducible refine Ext.alloc ?_ _) | (with_reducible refine Ext.drewN ?_ _) | (with_reducible refine Ext.drew ?_) | (with_reducible refine Ext.trans ?_ (by assumption))))⟩) (first | (go_at_call 12; refine (HAL.out _ (by repeat' (first | (with_reducible exact Ext.refl _) | (with_reducible assumption) | (with_reducible refine Ext.alloc ?_ _) | (with_reducible refine Ext.drewN ?_ _) | (with_reducible refine Ext.drew ?_) | (with_reducible refine Ext.trans ?_ (by assumption))))).mono ?_; rintro e wA ⟨aA, cA, rfl, hA, hxA⟩; have HA := Lib.hid hA; clear hA) | (go_at_call 22; refine (HRL.out _ (by repeat' (first | (with_reducible exact Ext.refl _) | (with_reducible assumption) | (with_reducible refine Ext.alloc ?_ _) | (with_reducible refine Ext.drewN ?_ _) | (with_reducible refine Ext.drew ?_) | (with_reducible refine Ext.trans ?_ (by assumption))))).mono ?_; rintro e wB ⟨aB, cB, rfl, hB, hxB⟩; have HB := Lib.hid hB; clear hB) | (go_at_call 18; refine (HSM.out _ _ _ (HA.out.ext (by repeat' (first | (with_reducible exact Ext.refl _) | (with_reducible assumption) | (with_reducible refine Ext.alloc ?_ _) | (with_reducible refine Ext.drewN ?_ _) | (with_reducible refine Ext.drew ?_) | (with_reducible refine Ext.trans ?_ (by assumption))))) (HB.out.ext (by repeat' (first | (with_reducible exact Ext.refl _) | (with_reducible assumption) | (with_reducible refine Ext.alloc ?_ _) | (with_reducible refine Ext.drewN ?_ _) | (with_reducible refine Ext.drew ?_) | (with_reducible refine Ext.trans ?_ (by assumption)))))).mono ?_; rintro e wD ⟨rfl, hxD⟩) | (go_at_call 16; refine (HLN.out _ (by repeat' (first | (with_reducible exact Ext.refl _) | (with_reducible assumption) | (with_reducible refine Ext.alloc ?_ _) | (with_reducible refine Ext.drewN ?_ _) | (with_reducible refine Ext.drew ?_) | (with_reducible refine Ext.trans ?_ (by assumption))))).mono ?_; rintro e wE ⟨rfl, hxE⟩) | (go_at_call 23; refine (HHA.out _ (by repeat' (first | (with_reducible exact Ext.refl _) | (with_reducible assumption) | (with_reducible refine Ext.alloc ?_ _) | (with_reducible refine Ext.drewN ?_ _) | (with_reducible refine Ext.drew ?_) | (with_reducible refine Ext.trans ?_ (by assumption))))).mono ?_; rintro e wF ⟨rfl, rfl⟩) | (go_at_call 24; refine (HRH.out _ (by repeat' (first | (with_reducible exact Ext.refl _) | (with_reducible assumption) | (with_reducible refine Ext.alloc ?_ _) | (with_reducible refine Ext.drewN ?_ _) | (with_reducible refine Ext.drew ?_) | (with_reducible refine Ext.trans ?_ (by assumption))))).mono ?_; rintro e wG ⟨rfl, hxG⟩) | (go_at_call 14; refine (HTK9.out _ (by repeat' (first | (with_reducible exact Ext.refl _) | (with_reducible assumption) | (with_reducible refine Ext.alloc ?_ _) | (with_reducible refine Ext.drewN ?_ _) | (with_reducible refine Ext.drew ?_) | (with_reducible refine Ext.trans ?_ (by assumption))))).mono ?_; rintro e wH ⟨rfl, hxH⟩) | (go_at_call 25; refine (HRP.out _ (by repeat' (first | (with_reducible exact Ext.refl _) | (with_reducible assumption) | (with_reducible refine Ext.alloc ?_ _) | (with_reducible refine Ext.drewN ?_ _) | (with_reducible refine Ext.drew ?_) | (with_reducible refine Ext.trans ?_ (by assumption))))).mono ?_; rintro e wI ⟨rfl, hxI⟩))
          all_goals
            go_wp2_with fail
            go_roundw
            case rel => exact ⟨i + 1, LT, by omega, by go_num, Lib.hid (HP9.out.ext (by repeat' (first | (with_reducible exact Ext.refl _) | (with_reducible assumption) | (with_reducible refine Ext.alloc ?_ _) | (with_reducible refine Ext.drewN ?_ _) | (with_reducible refine Ext.drew ?_) | (with_reducible refine Ext.trans ?_ (by assumption))))), Lib.hid (HR9.out.ext (by repeat' (first | (with_reducible exact Ext.refl _) | (with_reducible assumption) | (with_reducible refine Ext.alloc ?_ _) | (with_reducible refine Ext.drewN ?_ _) | (with_reducible refine Ext.drew ?_) | (with_reducible refine Ext.trans ?_ (by assumption))))), Lib.hid (HC9.out.ext (by repeat' (first | (with_reducible exact Ext.refl _) | (with_reducible assumption) | (with_reducible refine Ext.alloc ?_ _) | (with_reducible refine Ext.drewN ?_ _) | (with_reducible refine Ext.drew ?_) | (with_reducible refine Ext.trans ?_ (by assumption)))))⟩
            case measure => simp [intOf]; omega
      --]]
end Go.Proofs.Ytpmfadepinmmjaa
