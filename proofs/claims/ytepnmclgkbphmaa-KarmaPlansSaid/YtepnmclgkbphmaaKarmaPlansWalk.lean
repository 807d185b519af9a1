/-
  gradinelaw14.KarmaPlans answers true. No condition.
-/
import Derived.Test.YtepnmclgkbphmaaKWakes
namespace Go.Proofs.Ytepnmclgkbphmaa
open Go.RowKit

set_option maxRecDepth 100000 in
set_option maxHeartbeats 16000000 in
theorem walk_KarmaPlans (v0 v1 v2 : Value) (w : World) (h0 : IsFlat Try.prog 25 w v0) (h1 : IsInt .i64 v1) (h2 : IsInt .i64 v2) :
    Calls Try.prog 6 #[v0, v1, v2] w fun e w' => e = .returned (.bool true) ∧ Ext w w' := by
  obtain ⟨hv, n, F, L, bl, k0, k1, k2, rfl, hr, hwf, hwb⟩ := lay_of h0
  obtain ⟨b, rfl, wb⟩ := h1
  obtain ⟨t, rfl, wt⟩ := h2
  obtain ⟨t0, t1⟩ := i64_bd wt
  have HWB := Lib.hid wb
  have HRD := Lib.hid hr
  have HWF := Lib.hid hwf
  obtain ⟨a, c, rfl, hnc, hcm, _, hcs⟩ := hr
  have HCS := Lib.hid hcs
  have hn63 : (n : Int) ≤ 9223372036854775807 := by unfold maxLen at hcm; omega
  clear h0 hwf hcm hnc hwb wb wt hcs
  go_enter Try.func6, Try.ntmps6
  go_upto_region 1 with fail
  have hx0 : Ext w (w.alloc (.cells #[.slice a n c, .int .i64 bl, .int .i64 k0, .int .i64 k1, .int .i64 k2] 25)) := (Ext.refl w).alloc _
  have y0 := cell_new w #[.slice a n c, .int .i64 bl, .int .i64 k0, .int .i64 k1, .int .i64 k2] 25 (0, 0) (j := 0) rfl
  have y1 := cell_new w #[.slice a n c, .int .i64 bl, .int .i64 k0, .int .i64 k1, .int .i64 k2] 25 (0, 0) (j := 1) rfl
  have y2 := cell_new w #[.slice a n c, .int .i64 bl, .int .i64 k0, .int .i64 k1, .int .i64 k2] 25 (0, 0) (j := 2) rfl
  have y3 := cell_new w #[.slice a n c, .int .i64 bl, .int .i64 k0, .int .i64 k1, .int .i64 k2] 25 (0, 0) (j := 3) rfl
  have y4 := cell_new w #[.slice a n c, .int .i64 bl, .int .i64 k0, .int .i64 k1, .int .i64 k2] 25 (0, 0) (j := 4) rfl
  generalize (w.alloc (.cells #[.slice a n c, .int .i64 bl, .int .i64 k0, .int .i64 k1, .int .i64 k2] 25)) = w0 at *
  obtain ⟨pb, hpb⟩ : ∃ pb, pb = w.heap.size := ⟨_, rfl⟩
  rw [← hpb] at y0 y1 y2 y3 y4 ⊢
  clear hpb
  go_wp2_with fail
  refine (wakes14 _).mono ?_
  rintro e w1 ⟨rfl, hx1⟩
  have hX1 := hx0.trans hx1
  have y0 := hx1.cellv y0
  have y1 := hx1.cellv y1
  have y2 := hx1.cellv y2
  have y3 := hx1.cellv y3
  have y4 := hx1.cellv y4
  clear hx0 hx1
  by_cases hl : 20 < n
  · go_wp2_with fail
    refine (klong a n c hn63 bl k0 k1 k2 _ true (decide_eq_true hl)).mono ?_
    rintro e w2 ⟨rfl, hx2⟩
    go_wp2_with fail
    go_ret
    exact ⟨rfl, (by repeat' (first | (with_reducible exact Ext.refl _) | (with_reducible assumption) | (with_reducible refine Ext.alloc ?_ _) | (with_reducible refine Ext.drewN ?_ _) | (with_reducible refine Ext.drew ?_) | (with_reducible refine Ext.trans ?_ (by assumption))))⟩
  go_wp2_with fail
  refine (klong a n c hn63 bl k0 k1 k2 _ false (decide_eq_false hl)).mono ?_
  rintro e w2 ⟨rfl, hx2⟩
  have hX2 := hX1.trans hx2
  have y0 := hx2.cellv y0
  have y1 := hx2.cellv y1
  have y2 := hx2.cellv y2
  have y3 := hx2.cellv y3
  have y4 := hx2.cellv y4
  clear hx2 hX1
  have hlp : n ≤ 20 := by omega
  clear hl
  obtain ⟨i0, hi, hz0, hz1, hz2⟩ := info_parts hint_zero
  have y0a := cell_old (.cells #[] 44) y0
  have HRV := Lib.hid ((HRD.out.ext hX2).ext ((Ext.refl w2).alloc (.cells #[] 44)))
  go_wp2_with (at_builtin; refine wpList_append_rd rfl _ _ 22 rfl w2.heap.size 44 i0 (.agg #[.int .i64 0, .int .i64 0, .int .i64 0, .bool false]) 4 32 Try.underlying22 hi hz0 hz1 hz2 rfl (by decide) _ 0 [] rfl (own_empty _ 4 (Nat.le_refl _)) _ n (rcl 4 (HV F L) n) rfl (RdV.rd (by decide) HRV.out) (fun u hu => by obtain ⟨i, f, _, _, rfl⟩ := rcl_mem n u hu; exact HV_one F L i f) (by unfold maxLen; omega) (by omega) (by simp) ?_)
  intro v4 w4 hown hg
  have hx4 : Ext w2 w4 := Below.grown ((Ext.refl _).alloc _) hg (by simp) (fun g hg => by cases hg; exact Nat.le_refl _)
  have HR4 := Lib.hid (RdV.of_rd (Rd.of_own hown) : RdH w4 v4 n F L)
  have hX4 := hX2.trans hx4
  have y0 := hx4.cellv y0
  have y1 := hx4.cellv y1
  have y2 := hx4.cellv y2
  have y3 := hx4.cellv y3
  have y4 := hx4.cellv y4
  clear hown hg hx4 HRV hX2 y0a
  by_cases hK : (1 ≤ k0 ∧ k0 ≤ 16) ∧ (1 ≤ k1 ∧ k1 ≤ 16) ∧ (1 ≤ k2 ∧ k2 ≤ 16)
  case neg =>
    have HN := Lib.hid (fun w' => (knew_caps v4 bl w' (fun t => if t = 0 then k0 else if t = 1 then k1 else k2) (fun h => hK ⟨h 0 (by omega), h 1 (by omega), h 2 (by omega)⟩) : Calls Try.prog 12 #[v4, .int .i64 bl, .agg #[.int .i64 k0, .int .i64 k1, .int .i64 k2]] w' _))
    have HCP := Lib.hid (fun w' => rcaps k0 k1 k2 false (decide_eq_false hK) w')
    clear hK
    go_wp2_with fail
    refine (HN.out _).mono ?_
    rintro e w5 ⟨rfl, hx5⟩
    have y0 := hx5.cellv y0
    have y1 := hx5.cellv y1
    have y2 := hx5.cellv y2
    have y3 := hx5.cellv y3
    have y4 := hx5.cellv y4
    go_wp2_with fail
    refine (HCP.out _).mono ?_
    rintro e w6 ⟨rfl, hx6⟩
    go_wp2_with fail
    go_ret
    exact ⟨rfl, (by repeat' (first | (with_reducible exact Ext.refl _) | (with_reducible assumption) | (with_reducible refine Ext.alloc ?_ _) | (with_reducible refine Ext.drewN ?_ _) | (with_reducible refine Ext.drew ?_) | (with_reducible refine Ext.trans ?_ (by assumption))))⟩
  have HCP := Lib.hid (fun w' => rcaps k0 k1 k2 true (decide_eq_true hK) w')
  by_cases hb : 1 ≤ bl ∧ bl ≤ 32
  case neg =>
    have HN := Lib.hid (fun w' => knew_blocks v4 bl w' k0 k1 k2 hK hb)
    have hbl : bl < 1 ∨ (¬ bl < 1 ∧ 32 < bl) := by omega
    clear hK hb
    go_wp2_with fail
    refine (HN.out _).mono ?_
    rintro e w5 ⟨rfl, hx5⟩
    have y0 := hx5.cellv y0
    have y1 := hx5.cellv y1
    have y2 := hx5.cellv y2
    have y3 := hx5.cellv y3
    have y4 := hx5.cellv y4
    go_wp2_with fail
    refine (HCP.out _).mono ?_
    rintro e w6 ⟨rfl, hx6⟩
    have y0 := hx6.cellv y0
    have y1 := hx6.cellv y1
    have y2 := hx6.cellv y2
    have y3 := hx6.cellv y3
    have y4 := hx6.cellv y4
    rcases hbl with hbl | ⟨hbl, hbl2⟩
    · go_wp2_with fail
      go_ret
      exact ⟨rfl, (by repeat' (first | (with_reducible exact Ext.refl _) | (with_reducible assumption) | (with_reducible refine Ext.alloc ?_ _) | (with_reducible refine Ext.drewN ?_ _) | (with_reducible refine Ext.drew ?_) | (with_reducible refine Ext.trans ?_ (by assumption))))⟩
    · go_wp2_with fail
      go_ret
      exact ⟨rfl, (by repeat' (first | (with_reducible exact Ext.refl _) | (with_reducible assumption) | (with_reducible refine Ext.alloc ?_ _) | (with_reducible refine Ext.drewN ?_ _) | (with_reducible refine Ext.drew ?_) | (with_reducible refine Ext.trans ?_ (by assumption))))⟩
  obtain ⟨cc, hcc, e0, e1, e2⟩ : ∃ cc : Nat → Nat, CapsOk cc ∧ k0 = (cc 0 : Nat) ∧ k1 = (cc 1 : Nat) ∧ k2 = (cc 2 : Nat) := caps_nat hK
  subst e0 e1 e2
  clear hK
  have hb1 : ¬ bl < 1 := by omega
  have hb2 : ¬ 32 < bl := by omega
  by_cases hok : HsOk n F bl
  case neg =>
    have HN := Lib.hid (knew_hints v4 n F L bl w4 HR4.out (by omega) HWF.out cc hcc hb hok)
    have HRH := Lib.hid (fun w' (hx : Ext w w') => rhints (.slice a n c) n F L bl w' (HRD.out.ext hx) (by omega) HWF.out false (by simp [hok]))
    clear hok hb
    go_wp2_with fail
    refine HN.out.mono ?_
    rintro e w5 ⟨rfl, hx5⟩
    have y0 := hx5.cellv y0
    have y1 := hx5.cellv y1
    have y2 := hx5.cellv y2
    have y3 := hx5.cellv y3
    have y4 := hx5.cellv y4
    go_wp2_with fail
    refine (HCP.out _).mono ?_
    rintro e w6 ⟨rfl, hx6⟩
    have y0 := hx6.cellv y0
    have y1 := hx6.cellv y1
    have y2 := hx6.cellv y2
    have y3 := hx6.cellv y3
    have y4 := hx6.cellv y4
    go_wp2_with fail
    refine (HRH.out _ (hX4.trans (hx5.trans hx6))).mono ?_
    rintro e w7 ⟨rfl, hx7⟩
    go_wp2_with fail
    go_ret
    exact ⟨rfl, (by repeat' (first | (with_reducible exact Ext.refl _) | (with_reducible assumption) | (with_reducible refine Ext.alloc ?_ _) | (with_reducible refine Ext.drewN ?_ _) | (with_reducible refine Ext.drew ?_) | (with_reducible refine Ext.trans ?_ (by assumption))))⟩
  have HN := Lib.hid (knew_ok v4 n F L bl w4 HR4.out (by omega) HWF.out cc hcc hb hok)
  have HRH := Lib.hid (fun w' (hx : Ext w w') => rhints (.slice a n c) n F L bl w' (HRD.out.ext hx) (by omega) HWF.out true (by simp [hok]))
  have hn8 := hok.2.2
  obtain ⟨is, x, hrb⟩ := rng_ex n F b
  obtain ⟨rr, hrr⟩ : ∃ rr, (if is = true then (x : Int) else -1) = rr := ⟨_, rfl⟩
  have HRR := Lib.hid (fun w' (hx : Ext w w') => rrange (.slice a n c) n F L bl b HWB.out w' (HRD.out.ext hx) hok is x hrb rr hrr)
  have HRB := Lib.hid hrb
  have HOK := Lib.hid hok
  have HCC := Lib.hid hcc
  have HRE := Lib.hid hrr
  clear hok hb hcc hrb hrr
  obtain ⟨q0, hq0⟩ : ∃ q : Int, q = (cc 0 : Nat) := ⟨_, rfl⟩
  obtain ⟨q1, hq1⟩ : ∃ q : Int, q = (cc 1 : Nat) := ⟨_, rfl⟩
  obtain ⟨q2, hq2⟩ : ∃ q : Int, q = (cc 2 : Nat) := ⟨_, rfl⟩
  rw [← hq0, ← hq1, ← hq2] at HN HCP
  rw [← hq0] at y2 ⊢
  rw [← hq1] at y3 ⊢
  rw [← hq2] at y4 ⊢
  have HRP := Lib.hid (fun w' M (hx : Ext w w') (hM : Ord (kT n F) (kB n F) n M) => (by have := rparts (.slice a n c) n F L cc M w' (HRD.out.ext hx) HOK.out.fr hn8 HCC.out.1 hM; rwa [← hq0, ← hq1, ← hq2] at this : Calls Try.prog 17 #[.slice a n c, .agg #[.int .i64 q0, .int .i64 q1, .int .i64 q2]] w' _))
  clear hq0 hq1 hq2
  go_wp2_with fail
  refine HN.out.mono ?_
  rintro e w5 ⟨p, M, rfl, hwp, hpl, hx5⟩
  have HPL := Lib.hid hpl
  have hX5 := hX4.trans hx5
  have y0 := hx5.cellv y0
  have y1 := hx5.cellv y1
  have y2 := hx5.cellv y2
  have y3 := hx5.cellv y3
  have y4 := hx5.cellv y4
  clear hpl hx5 HN hX4 HR4
  go_wp2_with fail
  refine (HCP.out _).mono ?_
  rintro e w6 ⟨rfl, hx6⟩
  have hX6 := hX5.trans hx6
  have y0 := hx6.cellv y0
  have y1 := hx6.cellv y1
  have y2 := hx6.cellv y2
  have y3 := hx6.cellv y3
  have y4 := hx6.cellv y4
  go_wp2_with fail
  refine (HRH.out _ hX6).mono ?_
  rintro e w7 ⟨rfl, hx7⟩
  have hX7 := hX6.trans hx7
  have y0 := hx7.cellv y0
  have y1 := hx7.cellv y1
  have y2 := hx7.cellv y2
  have y3 := hx7.cellv y3
  have y4 := hx7.cellv y4
  have HPL7 := Lib.hid (HPL.out.ext (hx6.trans hx7))
  clear hx6 hx7 hX5 hX6 HPL HRH HCP
  go_wp2_with fail
  refine (HRP.out _ M hX7 HPL7.out.ord).mono ?_
  rintro e w8 ⟨g, rfl, hg8, hwg, hx8⟩
  have HG := Lib.hid hg8
  have hX8 := hX7.trans hx8
  have y0 := hx8.cellv y0
  have y1 := hx8.cellv y1
  have y2 := hx8.cellv y2
  have y3 := hx8.cellv y3
  have y4 := hx8.cellv y4
  go_wp2_with fail
  refine (krange p bl cc n F L M _ (HPL7.out.ext hx8) b is x HRB.out).mono ?_
  rintro e w9 ⟨rfl, hx9⟩
  have hX9 := hX8.trans hx9
  have y0 := hx9.cellv y0
  have y1 := hx9.cellv y1
  have y2 := hx9.cellv y2
  have y3 := hx9.cellv y3
  have y4 := hx9.cellv y4
  go_wp2_with fail
  refine (HRR.out _ hX9).mono ?_
  rintro e w10 ⟨rfl, hx10⟩
  have hX10 := hX9.trans hx10
  have y0 := hx10.cellv y0
  have y1 := hx10.cellv y1
  have y2 := hx10.cellv y2
  have y3 := hx10.cellv y3
  have y4 := hx10.cellv y4
  have HP := Lib.hid (HPL7.out.ext (hx8.trans (hx9.trans hx10)))
  have HG10 := Lib.hid (HG.out.ext (hx9.trans hx10))
  clear hg8 hwg hwp hx8 hx9 hx10 hX7 hX8 hX9 HRR HRP HPL7 HG y1 y2 y3 y4
  go_wp2_with fail
  refine (kparts p bl cc n F L M _ HP.out).mono ?_
  rintro e w11 ⟨v11, rfl, hp11, _, hx11⟩
  have HP11 := Lib.hid hp11
  have y0 := hx11.cellv y0
  have hX11 := hX10.trans hx11
  clear hp11
  go_wp2_with fail
  refine (ksame v11 n g (fun i f => ((PR F cc M i f : Nat) : Int)) _ HP11.out (HG10.out.ext hx11) hn8).mono ?_
  rintro e w12 ⟨rfl, hx12⟩
  have y0 := hx12.cellv y0
  have hX12 := hX11.trans hx12
  have HP12 := Lib.hid (fun w' (hx : Ext w12 w') => HP.out.ext ((hx11.trans hx12).trans hx))
  have HG12 := Lib.hid (HG10.out.ext (hx11.trans hx12))
  clear hx11 hx12 hX10 hX11 HP HG10 HP11
  have hbool : ∀ x : Bool, (!x && x) = false := by decide
  cases is with
  | false =>
    obtain ⟨rfl, hne⟩ : x = 0 ∧ rr = -1 := by
      refine ⟨?_, ?_⟩
      · rcases HRB.out with ⟨_, h, _⟩ | ⟨h, _⟩
        · exact h
        · cases h
      · have := HRE.out; simpa using this.symm
    subst hne
    have HK := Lib.hid (fun w' (hx : Ext w12 w') => kpart p bl cc n F L M w' (HP12.out w' hx) b false 0 HRB.out t)
    have HLP := Lib.hid (fun w' (hx : Ext w12 w') => kloop p bl cc n F L M w' (HP12.out w' hx) b false 0 HRB.out)
    have hpv : partV F cc M false 0 t = 0 := by unfold partV; rw [if_neg (by simp)]
    rw [hpv] at HK
    clear hpv hbool
    go_wp2_with fail
    refine (HK.out _ (Ext.refl _)).mono ?_
    rintro e w13 ⟨rfl, hx13⟩
    go_wp2_with fail
    refine (HLP.out _ hx13).mono ?_
    rintro e w14 ⟨rfl, hx14⟩
    go_wp2_with fail
    go_ret
    exact ⟨rfl, (by repeat' (first | (with_reducible exact Ext.refl _) | (with_reducible assumption) | (with_reducible refine Ext.alloc ?_ _) | (with_reducible refine Ext.drewN ?_ _) | (with_reducible refine Ext.drew ?_) | (with_reducible refine Ext.trans ?_ (by assumption))))⟩
  | true =>
    have hrx : rr = x := by have := HRE.out; simpa using this.symm
    subst hrx
    have hxn : x < n := by
      rcases HRB.out with ⟨h, _⟩ | ⟨_, h, _⟩
      · cases h
      · exact h
    have HK := Lib.hid (fun w' (hx : Ext w12 w') => kpart p bl cc n F L M w' (HP12.out w' hx) b true x HRB.out t)
    have HLP := Lib.hid (fun w' (hx : Ext w12 w') => kloop p bl cc n F L M w' (HP12.out w' hx) b true x HRB.out)
    obtain ⟨bb, o, rfl, hbb, hcell⟩ := HCS.out (by omega)
    have z3 := (hX12.cell hbb).trans (hcell x 3 hxn (by omega))
    simp only [Proofs.Ytepnmclgkbphmaa.HV, ← Nat.add_assoc, if_neg (show ¬ (3 : Nat) < 3 by omega)] at z3
    obtain ⟨l, hl⟩ : ∃ l, L x = l := ⟨_, rfl⟩
    rw [hl] at z3 HLP
    have hxi : (x : Int) < (n : Int) := by omega
    have hx0' : (0 : Int) ≤ (x : Int) := by omega
    have hxm : ((x : Nat) : Int) ≤ 8 := by omega
    clear hcell hl hbool
    by_cases q1 : 1 ≤ t
    · by_cases q2 : t ≤ 3
      · obtain ⟨k, rfl⟩ : ∃ k : Nat, t = (k : Int) + 1 := ⟨(t - 1).toNat, by omega⟩
        have hk3 : k < 3 := by omega
        have z := HG12.out.cell (show 4 * x + k < n * 4 by omega)
        simp only [show (4 * x + k) / 4 = x by omega, show (4 * x + k) % 4 = k by omega] at z
        have hpv : partV F cc M true x ((k : Int) + 1) = PR F cc M x k := by unfold partV; rw [if_pos ⟨rfl, q1, q2⟩]; congr 1; omega
        rw [hpv] at HK
        obtain ⟨y, hy⟩ : ∃ y, PR F cc M x k = y := ⟨_, rfl⟩
        rw [hy] at z HK
        have hidx : 4 * (x : Int) + (k : Int) < ((n * 4 : Nat) : Int) := by omega
        have hidx0 : (0 : Int) ≤ 4 * (x : Int) + (k : Int) := by omega
        have htn : (4 * (x : Int) + (k : Int)).toNat = 4 * x + k := by omega
        have hk3i : (k : Int) < 3 := by omega
        clear hpv hy
        go_wp2_with fail
        refine (HK.out _ (Ext.refl _)).mono ?_
        rintro e w13 ⟨rfl, hx13⟩
        have y0 := hx13.cellv y0
        have z3 := hx13.cellv z3
        go_wp2_with fail
        refine (HLP.out _ hx13).mono ?_
        rintro e w14 ⟨rfl, hx14⟩
        have y0 := hx14.cellv y0
        have z3 := hx14.cellv z3
        go_wp2_with fail
        go_ret
        exact ⟨by simp, (by repeat' (first | (with_reducible exact Ext.refl _) | (with_reducible assumption) | (with_reducible refine Ext.alloc ?_ _) | (with_reducible refine Ext.drewN ?_ _) | (with_reducible refine Ext.drew ?_) | (with_reducible refine Ext.trans ?_ (by assumption))))⟩
      · have hpv : partV F cc M true x t = 0 := by unfold partV; rw [if_neg (by omega)]
        rw [hpv] at HK
        clear hpv
        go_wp2_with fail
        refine (HK.out _ (Ext.refl _)).mono ?_
        rintro e w13 ⟨rfl, hx13⟩
        have y0 := hx13.cellv y0
        have z3 := hx13.cellv z3
        go_wp2_with fail
        refine (HLP.out _ hx13).mono ?_
        rintro e w14 ⟨rfl, hx14⟩
        have y0 := hx14.cellv y0
        have z3 := hx14.cellv z3
        go_wp2_with fail
        go_ret
        exact ⟨by simp, (by repeat' (first | (with_reducible exact Ext.refl _) | (with_reducible assumption) | (with_reducible refine Ext.alloc ?_ _) | (with_reducible refine Ext.drewN ?_ _) | (with_reducible refine Ext.drew ?_) | (with_reducible refine Ext.trans ?_ (by assumption))))⟩
    · have hpv : partV F cc M true x t = 0 := by unfold partV; rw [if_neg (by omega)]
      rw [hpv] at HK
      clear hpv
      go_wp2_with fail
      refine (HK.out _ (Ext.refl _)).mono ?_
      rintro e w13 ⟨rfl, hx13⟩
      have y0 := hx13.cellv y0
      have z3 := hx13.cellv z3
      go_wp2_with fail
      refine (HLP.out _ hx13).mono ?_
      rintro e w14 ⟨rfl, hx14⟩
      have y0 := hx14.cellv y0
      have z3 := hx14.cellv z3
      go_wp2_with fail
      go_ret
      exact ⟨by simp, (by repeat' (first | (with_reducible exact Ext.refl _) | (with_reducible assumption) | (with_reducible refine Ext.alloc ?_ _) | (with_reducible refine Ext.drewN ?_ _) | (with_reducible refine Ext.drew ?_) | (with_reducible refine Ext.trans ?_ (by assumption))))⟩
end Go.Proofs.Ytepnmclgkbphmaa
