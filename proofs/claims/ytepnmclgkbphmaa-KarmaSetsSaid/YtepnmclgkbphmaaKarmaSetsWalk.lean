/-
  gradinelaw14.KarmaSets answers true. No condition.
-/
import Derived.Test.YtepnmclgkbphmaaKWakes
namespace Go.Proofs.Ytepnmclgkbphmaa
open Go.RowKit

set_option maxRecDepth 100000 in
set_option maxHeartbeats 8000000 in
theorem walk_KarmaSets (v0 v1 : Value) (w : World) (h0 : IsFlat Try.prog 25 w v0) (h1 : IsRecs Try.prog 44 w v1) :
    Calls Try.prog 3 #[v0, v1] w fun e w' => e = .returned (.bool true) ∧ Ext w w' := by
  obtain ⟨hv, n, F, L, bl, k0, k1, k2, rfl, hr, hwf, hwb⟩ := lay_of h0
  obtain ⟨n2, F2, L2, hr2, hwf2⟩ := khints_of h1
  have HRD := Lib.hid hr
  have HWF := Lib.hid hwf
  have HRD2 := Lib.hid hr2
  have HWF2 := Lib.hid hwf2
  obtain ⟨a, c, rfl, hnc, hcm, _, _⟩ := hr
  obtain ⟨a2, c2, rfl, hnc2, hcm2, hnil2, _⟩ := hr2
  have hn63 : (n : Int) ≤ 9223372036854775807 := by unfold maxLen at hcm; omega
  have hn632 : (n2 : Int) ≤ 9223372036854775807 := by unfold maxLen at hcm2; omega
  have HNIL2 := Lib.hid hnil2
  clear h0 h1 hwf hwf2 hnil2 hcm hcm2 hnc hnc2 hwb
  go_enter Try.func3, Try.ntmps3
  go_upto_region 1 with fail
  have hx0 : Ext w (w.alloc (.cells #[.slice a n c, .int .i64 bl, .int .i64 k0, .int .i64 k1, .int .i64 k2] 25)) := (Ext.refl w).alloc _
  have y0 := cell_new w #[.slice a n c, .int .i64 bl, .int .i64 k0, .int .i64 k1, .int .i64 k2] 25 (0, 0) (j := 0) rfl
  have y1 := cell_new w #[.slice a n c, .int .i64 bl, .int .i64 k0, .int .i64 k1, .int .i64 k2] 25 (0, 0) (j := 1) rfl
  have y2 := cell_new w #[.slice a n c, .int .i64 bl, .int .i64 k0, .int .i64 k1, .int .i64 k2] 25 (0, 0) (j := 2) rfl
  have y3 := cell_new w #[.slice a n c, .int .i64 bl, .int .i64 k0, .int .i64 k1, .int .i64 k2] 25 (0, 0) (j := 3) rfl
  have y4 := cell_new w #[.slice a n c, .int .i64 bl, .int .i64 k0, .int .i64 k1, .int .i64 k2] 25 (0, 0) (j := 4) rfl
  generalize (w.alloc (.cells #[.slice a n c, .int .i64 bl, .int .i64 k0, .int .i64 k1, .int .i64 k2] 25)) = w0 at *
  obtain ⟨pb, hpb⟩ : ∃ pb, pb = w.heap.size := ⟨_, rfl⟩
  rw [← hpb] at y0 y1 y2 y3 y4 ⊢
  clear hpb
  go_wp2_with fail
  refine (wakes14 _).mono ?_
  rintro e w1 ⟨rfl, hx1⟩
  have hX1 := hx0.trans hx1
  have y0 := hx1.cellv y0
  have y1 := hx1.cellv y1
  have y2 := hx1.cellv y2
  have y3 := hx1.cellv y3
  have y4 := hx1.cellv y4
  clear hx0 hx1
  by_cases hl : 20 < n
  · go_wp2_with fail
    refine (klong a n c hn63 bl k0 k1 k2 _ true (decide_eq_true hl)).mono ?_
    rintro e w2 ⟨rfl, hx2⟩
    go_wp2_with fail
    go_ret
    exact ⟨rfl, (by repeat' (first | (with_reducible exact Ext.refl _) | (with_reducible assumption) | (with_reducible refine Ext.alloc ?_ _) | (with_reducible refine Ext.drewN ?_ _) | (with_reducible refine Ext.drew ?_) | (with_reducible refine Ext.trans ?_ (by assumption))))⟩
  by_cases hl2 : 20 < n2
  · have hl2i : (20 : Int) < (n2 : Int) := by omega
    go_wp2_with fail
    refine (klong a n c hn63 bl k0 k1 k2 _ false (decide_eq_false hl)).mono ?_
    rintro e w2 ⟨rfl, hx2⟩
    go_wp2_with fail
    go_ret
    exact ⟨rfl, (by repeat' (first | (with_reducible exact Ext.refl _) | (with_reducible assumption) | (with_reducible refine Ext.alloc ?_ _) | (with_reducible refine Ext.drewN ?_ _) | (with_reducible refine Ext.drew ?_) | (with_reducible refine Ext.trans ?_ (by assumption))))⟩
  have hl2i : ¬ (20 : Int) < (n2 : Int) := by omega
  go_wp2_with fail
  refine (klong a n c hn63 bl k0 k1 k2 _ false (decide_eq_false hl)).mono ?_
  rintro e w2 ⟨rfl, hx2⟩
  have hX2 := hX1.trans hx2
  have y0 := hx2.cellv y0
  have y1 := hx2.cellv y1
  have y2 := hx2.cellv y2
  have y3 := hx2.cellv y3
  have y4 := hx2.cellv y4
  clear hx2 hX1
  have hlp : n ≤ 20 := by omega
  have hlp2 : n2 ≤ 20 := by omega
  clear hl hl2
  by_cases hK : (1 ≤ k0 ∧ k0 ≤ 16) ∧ (1 ≤ k1 ∧ k1 ≤ 16) ∧ (1 ≤ k2 ∧ k2 ≤ 16)
  case neg =>
    have HN := Lib.hid (fun w' => (knew_caps (.slice a n c) bl w' (fun t => if t = 0 then k0 else if t = 1 then k1 else k2) (fun h => hK ⟨h 0 (by omega), h 1 (by omega), h 2 (by omega)⟩) : Calls Try.prog 12 #[.slice a n c, .int .i64 bl, .agg #[.int .i64 k0, .int .i64 k1, .int .i64 k2]] w' _))
    clear hK
    go_wp2_with fail
    refine (HN.out _).mono ?_
    rintro e w3 ⟨rfl, hx3⟩
    go_wp2_with fail
    go_ret
    exact ⟨rfl, (by repeat' (first | (with_reducible exact Ext.refl _) | (with_reducible assumption) | (with_reducible refine Ext.alloc ?_ _) | (with_reducible refine Ext.drewN ?_ _) | (with_reducible refine Ext.drew ?_) | (with_reducible refine Ext.trans ?_ (by assumption))))⟩
  by_cases hb : 1 ≤ bl ∧ bl ≤ 32
  case neg =>
    have HN := Lib.hid (fun w' => knew_blocks (.slice a n c) bl w' k0 k1 k2 hK hb)
    clear hK hb
    go_wp2_with fail
    refine (HN.out _).mono ?_
    rintro e w3 ⟨rfl, hx3⟩
    go_wp2_with fail
    go_ret
    exact ⟨rfl, (by repeat' (first | (with_reducible exact Ext.refl _) | (with_reducible assumption) | (with_reducible refine Ext.alloc ?_ _) | (with_reducible refine Ext.drewN ?_ _) | (with_reducible refine Ext.drew ?_) | (with_reducible refine Ext.trans ?_ (by assumption))))⟩
  obtain ⟨cc, hcc, e0, e1, e2⟩ : ∃ cc : Nat → Nat, CapsOk cc ∧ k0 = (cc 0 : Nat) ∧ k1 = (cc 1 : Nat) ∧ k2 = (cc 2 : Nat) := caps_nat hK
  subst e0 e1 e2
  clear hK
  by_cases hok : HsOk n F bl
  case neg =>
    have HN := Lib.hid (fun w' (hx : Ext w w') => knew_hints (.slice a n c) n F L bl w' (HRD.out.ext hx) (by omega) HWF.out cc hcc hb hok)
    clear hok hb
    go_wp2_with fail
    refine (HN.out _ hX2).mono ?_
    rintro e w3 ⟨rfl, hx3⟩
    go_wp2_with fail
    go_ret
    exact ⟨rfl, (by repeat' (first | (with_reducible exact Ext.refl _) | (with_reducible assumption) | (with_reducible refine Ext.alloc ?_ _) | (with_reducible refine Ext.drewN ?_ _) | (with_reducible refine Ext.drew ?_) | (with_reducible refine Ext.trans ?_ (by assumption))))⟩
  have HN := Lib.hid (fun w' (hx : Ext w w') => knew_ok (.slice a n c) n F L bl w' (HRD.out.ext hx) (by omega) HWF.out cc hcc hb hok)
  have hn8 := hok.2.2
  have HOK := Lib.hid hok
  have HCC := Lib.hid hcc
  have HB := Lib.hid hb
  clear hok hb hcc
  obtain ⟨q0, hq0⟩ : ∃ q : Int, q = (cc 0 : Nat) := ⟨_, rfl⟩
  obtain ⟨q1, hq1⟩ : ∃ q : Int, q = (cc 1 : Nat) := ⟨_, rfl⟩
  obtain ⟨q2, hq2⟩ : ∃ q : Int, q = (cc 2 : Nat) := ⟨_, rfl⟩
  rw [← hq0, ← hq1, ← hq2] at HN
  rw [← hq0] at y2 ⊢
  rw [← hq1] at y3 ⊢
  rw [← hq2] at y4 ⊢
  have HRP := Lib.hid (fun w' M (hx : Ext w w') (hM : Ord (kT n F) (kB n F) n M) => (by have := rparts (.slice a n c) n F L cc M w' (HRD.out.ext hx) HOK.out.fr hn8 HCC.out.1 hM; rwa [← hq0, ← hq1, ← hq2] at this : Calls Try.prog 17 #[.slice a n c, .agg #[.int .i64 q0, .int .i64 q1, .int .i64 q2]] w' _))
  have HRP2 := Lib.hid (fun (ok : HsOk n2 F2 bl) w' M (hx : Ext w w') (hM : Ord (kT n2 F2) (kB n2 F2) n2 M) => (by have := rparts (.slice a2 n2 c2) n2 F2 L2 cc M w' (HRD2.out.ext hx) ok.fr ok.2.2 HCC.out.1 hM; rwa [← hq0, ← hq1, ← hq2] at this : Calls Try.prog 17 #[.slice a2 n2 c2, .agg #[.int .i64 q0, .int .i64 q1, .int .i64 q2]] w' _))
  clear hq0 hq1 hq2
  go_wp2_with fail
  refine (HN.out _ hX2).mono ?_
  rintro e w3 ⟨p, M, rfl, hwp, hpl, hx3⟩
  have HPL := Lib.hid hpl
  have hX3 := hX2.trans hx3
  have hwp2 := hX2.size
  have hpbl := cell_lt y0
  have y0 := hx3.cellv y0
  have y1 := hx3.cellv y1
  have y2 := hx3.cellv y2
  have y3 := hx3.cellv y3
  have y4 := hx3.cellv y4
  clear hpl hx3 HN hX2
  obtain ⟨i0, hi, hz0, hz1, hz2⟩ := info_parts hint_zero
  have HRV := Lib.hid ((HRD2.out.ext hX3).ext ((Ext.refl w3).alloc (.cells #[] 44)))
  go_wp2_with (at_builtin; refine wpList_append_rd rfl _ _ 22 rfl w3.heap.size 44 i0 (.agg #[.int .i64 0, .int .i64 0, .int .i64 0, .bool false]) 4 32 Try.underlying22 hi hz0 hz1 hz2 rfl (by decide) _ 0 [] rfl (own_empty _ 4 (Nat.le_refl _)) _ n2 (rcl 4 (HV F2 L2) n2) rfl (RdV.rd (by decide) HRV.out) (fun u hu => by obtain ⟨i, f, _, _, rfl⟩ := rcl_mem n2 u hu; exact HV_one F2 L2 i f) (by unfold maxLen; omega) (by omega) (by simp) ?_)
  intro v4 w4 hown hg
  have hx4 : Ext w3 w4 := Below.grown ((Ext.refl _).alloc _) hg (by simp) (fun g hg => by cases hg; exact Nat.le_refl _)
  have HR4 := Lib.hid (RdV.of_rd (Rd.of_own hown) : RdH w4 v4 n2 F2 L2)
  have hX4 := hX3.trans hx4
  have y0 := hx4.cellv y0
  have y1 := hx4.cellv y1
  have y2 := hx4.cellv y2
  have y3 := hx4.cellv y3
  have y4 := hx4.cellv y4
  have HP4 := Lib.hid (HPL.out.ext hx4)
  clear hown hg hx4 HPL hX3
  by_cases hok2 : HsOk n2 F2 bl
  --[[A
  · obtain ⟨hv, pg, hhd, _⟩ := HP4.out.hd
    have HS := Lib.hid (kset_ok p bl cc hv _ v4 n2 F2 L2 w4 hhd HR4.out (by omega) HWF2.out HB.out HCC.out hok2)
    have hn8x := hok2.2.2
    have HRH := Lib.hid (fun w' (hx : Ext w w') => rhints (.slice a2 n2 c2) n2 F2 L2 bl w' (HRD2.out.ext hx) (by omega) HWF2.out true (by simp [hok2]))
    have HR5 := Lib.hid (HRP2.out hok2)
    have hpbp : pb ≠ p := by omega
    clear hok2 hhd HRP2 HRP
    go_wp2_with fail
    refine HS.out.mono ?_
    rintro e w5 ⟨rfl, ⟨M2, hpl5⟩, hc5⟩
    have HP5 := Lib.hid hpl5
    have hX5 : Ext w w5 := Ext.chg hX4 hc5 (by simp; omega)
    have y1 := (World.cell?_of_block (hc5.block pb (cell_lt y1) (by simpa using hpbp))).trans y1
    have y2 := (World.cell?_of_block (hc5.block pb (cell_lt y2) (by simpa using hpbp))).trans y2
    have y3 := (World.cell?_of_block (hc5.block pb (cell_lt y3) (by simpa using hpbp))).trans y3
    have y4 := (World.cell?_of_block (hc5.block pb (cell_lt y4) (by simpa using hpbp))).trans y4
    clear hpl5 hc5 y0 HS HP4 HR4 hX4
    go_wp2_with fail
    refine (HRH.out _ hX5).mono ?_
    rintro e w6 ⟨rfl, hx6⟩
    have hXf := hX5.trans hx6
    have y2 := hx6.cellv y2
    have y3 := hx6.cellv y3
    have y4 := hx6.cellv y4
    have HP6 := Lib.hid (HP5.out.ext hx6)
    have HR6 := Lib.hid (fun w' (hx : Ext w6 w') => HR5.out w' M2 (hXf.trans hx) HP6.out.ord)
    clear y1 hx6 HP5 HR5 hX5
    go_upto_region 11 with fail
    go_region_held3 (fun w' => w'.cell? ⟨pb, 2, none⟩ = some (.int .i64 q0) ∧ w'.cell? ⟨pb, 3, none⟩ = some (.int .i64 q1) ∧ w'.cell? ⟨pb, 4, none⟩ = some (.int .i64 q2) ∧ Ext w6 w') (exact ⟨Ext.cellv (w := w6) (by repeat' (first | (with_reducible exact Ext.refl _) | (with_reducible assumption) | (with_reducible refine Ext.alloc ?_ _) | (with_reducible refine Ext.drewN ?_ _) | (with_reducible refine Ext.drew ?_) | (with_reducible refine Ext.trans ?_ (by assumption)))) y2, Ext.cellv (w := w6) (by repeat' (first | (with_reducible exact Ext.refl _) | (with_reducible assumption) | (with_reducible refine Ext.alloc ?_ _) | (with_reducible refine Ext.drewN ?_ _) | (with_reducible refine Ext.drew ?_) | (with_reducible refine Ext.trans ?_ (by assumption)))) y3, Ext.cellv (w := w6) (by repeat' (first | (with_reducible exact Ext.refl _) | (with_reducible assumption) | (with_reducible refine Ext.alloc ?_ _) | (with_reducible refine Ext.drewN ?_ _) | (with_reducible refine Ext.drew ?_) | (with_reducible refine Ext.trans ?_ (by assumption)))) y4, (by repeat' (first | (with_reducible exact Ext.refl _) | (with_reducible assumption) | (with_reducible refine Ext.alloc ?_ _) | (with_reducible refine Ext.drewN ?_ _) | (with_reducible refine Ext.drew ?_) | (with_reducible refine Ext.trans ?_ (by assumption))))⟩) (first | (go_at_call 16; refine (kparts p bl cc n2 F2 _ M2 _ (HP6.out.ext (by repeat' (first | (with_reducible exact Ext.refl _) | (with_reducible assumption) | (with_reducible refine Ext.alloc ?_ _) | (with_reducible refine Ext.drewN ?_ _) | (with_reducible refine Ext.drew ?_) | (with_reducible refine Ext.trans ?_ (by assumption)))))).mono ?_; rintro e wA ⟨vA, rfl, hA, _, hxA⟩; have HA := Lib.hid hA; clear hA) | (go_at_call 17; refine (HR6.out _ (by repeat' (first | (with_reducible exact Ext.refl _) | (with_reducible assumption) | (with_reducible refine Ext.alloc ?_ _) | (with_reducible refine Ext.drewN ?_ _) | (with_reducible refine Ext.drew ?_) | (with_reducible refine Ext.trans ?_ (by assumption))))).mono ?_; rintro e wB ⟨gB, rfl, hB, _, hxB⟩; have HBB := Lib.hid hB; clear hB) | (go_at_call 15; refine (ksame vA n2 gB (fun i f => ((PR F2 cc M2 i f : Nat) : Int)) _ (HA.out.ext (by repeat' (first | (with_reducible exact Ext.refl _) | (with_reducible assumption) | (with_reducible refine Ext.alloc ?_ _) | (with_reducible refine Ext.drewN ?_ _) | (with_reducible refine Ext.drew ?_) | (with_reducible refine Ext.trans ?_ (by assumption))))) (HBB.out.ext (by repeat' (first | (with_reducible exact Ext.refl _) | (with_reducible assumption) | (with_reducible refine Ext.alloc ?_ _) | (with_reducible refine Ext.drewN ?_ _) | (with_reducible refine Ext.drew ?_) | (with_reducible refine Ext.trans ?_ (by assumption))))) hn8x).mono ?_; rintro e wC ⟨rfl, hxC⟩))
    all_goals
      go_wp2_with fail
      go_ret
      exact ⟨rfl, hXf.trans (by repeat' (first | (with_reducible exact Ext.refl _) | (with_reducible assumption) | (with_reducible refine Ext.alloc ?_ _) | (with_reducible refine Ext.drewN ?_ _) | (with_reducible refine Ext.drew ?_) | (with_reducible refine Ext.trans ?_ (by assumption))))⟩
  --]]
  --[[B
  · obtain ⟨hv, pg, hhd, _⟩ := HP4.out.hd
    have HS := Lib.hid (kset_no p bl cc hv _ v4 n2 F2 L2 w4 hhd HR4.out (by omega) HWF2.out HB.out hok2)
    have hn8x := hn8
    have HRH := Lib.hid (fun w' (hx : Ext w w') => rhints (.slice a2 n2 c2) n2 F2 L2 bl w' (HRD2.out.ext hx) (by omega) HWF2.out false (by simp [hok2]))
    clear hok2 hhd HRP2
    go_wp2_with fail
    refine HS.out.mono ?_
    rintro e w5 ⟨rfl, hx5⟩
    have hX5 := hX4.trans hx5
    have y0 := hx5.cellv y0
    have y1 := hx5.cellv y1
    have y2 := hx5.cellv y2
    have y3 := hx5.cellv y3
    have y4 := hx5.cellv y4
    have HP5 := Lib.hid (HP4.out.ext hx5)
    clear hx5 HS HP4 HR4 hX4
    go_wp2_with fail
    refine (HRH.out _ hX5).mono ?_
    rintro e w6 ⟨rfl, hx6⟩
    have hXf := hX5.trans hx6
    have y0 := hx6.cellv y0
    have y2 := hx6.cellv y2
    have y3 := hx6.cellv y3
    have y4 := hx6.cellv y4
    have HP6 := Lib.hid (HP5.out.ext hx6)
    have HR6 := Lib.hid (fun w' (hx : Ext w6 w') => HRP.out w' M (hXf.trans hx) HP6.out.ord)
    clear y1 hx6 HP5 HRP hX5
    go_upto_region 10 with fail
    go_region_held3 (fun w' => w'.cell? ⟨pb, 0, none⟩ = some (.slice a n c) ∧ w'.cell? ⟨pb, 2, none⟩ = some (.int .i64 q0) ∧ w'.cell? ⟨pb, 3, none⟩ = some (.int .i64 q1) ∧ w'.cell? ⟨pb, 4, none⟩ = some (.int .i64 q2) ∧ Ext w6 w') (exact ⟨Ext.cellv (w := w6) (by repeat' (first | (with_reducible exact Ext.refl _) | (with_reducible assumption) | (with_reducible refine Ext.alloc ?_ _) | (with_reducible refine Ext.drewN ?_ _) | (with_reducible refine Ext.drew ?_) | (with_reducible refine Ext.trans ?_ (by assumption)))) y0, Ext.cellv (w := w6) (by repeat' (first | (with_reducible exact Ext.refl _) | (with_reducible assumption) | (with_reducible refine Ext.alloc ?_ _) | (with_reducible refine Ext.drewN ?_ _) | (with_reducible refine Ext.drew ?_) | (with_reducible refine Ext.trans ?_ (by assumption)))) y2, Ext.cellv (w := w6) (by repeat' (first | (with_reducible exact Ext.refl _) | (with_reducible assumption) | (with_reducible refine Ext.alloc ?_ _) | (with_reducible refine Ext.drewN ?_ _) | (with_reducible refine Ext.drew ?_) | (with_reducible refine Ext.trans ?_ (by assumption)))) y3, Ext.cellv (w := w6) (by repeat' (first | (with_reducible exact Ext.refl _) | (with_reducible assumption) | (with_reducible refine Ext.alloc ?_ _) | (with_reducible refine Ext.drewN ?_ _) | (with_reducible refine Ext.drew ?_) | (with_reducible refine Ext.trans ?_ (by assumption)))) y4, (by repeat' (first | (with_reducible exact Ext.refl _) | (with_reducible assumption) | (with_reducible refine Ext.alloc ?_ _) | (with_reducible refine Ext.drewN ?_ _) | (with_reducible refine Ext.drew ?_) | (with_reducible refine Ext.trans ?_ (by assumption))))⟩) (first | (go_at_call 16; refine (kparts p bl cc n F _ M _ (HP6.out.ext (by repeat' (first | (with_reducible exact Ext.refl _) | (with_reducible assumption) | (with_reducible refine Ext.alloc ?_ _) | (with_reducible refine Ext.drewN ?_ _) | (with_reducible refine Ext.drew ?_) | (with_reducible refine Ext.trans ?_ (by assumption)))))).mono ?_; rintro e wA ⟨vA, rfl, hA, _, hxA⟩; have HA := Lib.hid hA; clear hA) | (go_at_call 17; refine (HR6.out _ (by repeat' (first | (with_reducible exact Ext.refl _) | (with_reducible assumption) | (with_reducible refine Ext.alloc ?_ _) | (with_reducible refine Ext.drewN ?_ _) | (with_reducible refine Ext.drew ?_) | (with_reducible refine Ext.trans ?_ (by assumption))))).mono ?_; rintro e wB ⟨gB, rfl, hB, _, hxB⟩; have HBB := Lib.hid hB; clear hB) | (go_at_call 15; refine (ksame vA n gB (fun i f => ((PR F cc M i f : Nat) : Int)) _ (HA.out.ext (by repeat' (first | (with_reducible exact Ext.refl _) | (with_reducible assumption) | (with_reducible refine Ext.alloc ?_ _) | (with_reducible refine Ext.drewN ?_ _) | (with_reducible refine Ext.drew ?_) | (with_reducible refine Ext.trans ?_ (by assumption))))) (HBB.out.ext (by repeat' (first | (with_reducible exact Ext.refl _) | (with_reducible assumption) | (with_reducible refine Ext.alloc ?_ _) | (with_reducible refine Ext.drewN ?_ _) | (with_reducible refine Ext.drew ?_) | (with_reducible refine Ext.trans ?_ (by assumption))))) hn8x).mono ?_; rintro e wC ⟨rfl, hxC⟩))
    all_goals
      go_wp2_with fail
      go_ret
      exact ⟨rfl, hXf.trans (by repeat' (first | (with_reducible exact Ext.refl _) | (with_reducible assumption) | (with_reducible refine Ext.alloc ?_ _) | (with_reducible refine Ext.drewN ?_ _) | (with_reducible refine Ext.drew ?_) | (with_reducible refine Ext.trans ?_ (by assumption))))⟩
  --]]
end Go.Proofs.Ytepnmclgkbphmaa
