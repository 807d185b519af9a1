/-
  gradinelaw15.PartApart answers true. No condition.
-/
import Derived.Test.YtpmfadepinmmjaaPLaw
import Derived.Test.YtpmfadepinmmjaaKLay
import Derived.Test.YtpmfadepinmmjaaStruct
import Derived.Test.YtpmfadepinmmjaaInts
namespace Go.Proofs.Ytpmfadepinmmjaa
open Go.RowKit

set_option maxRecDepth 100000 in
set_option maxHeartbeats 16000000 in
theorem walk_PartApart (v0 v1 v2 : Value) (w : World) (h0 : IsFlat Try.prog 25 w v0) (h1 : IsInt .u8 v1) (h2 : IsRows 2 w v2) :
    Calls Try.prog 4 #[v0, v1, v2] w fun e w' => e = .returned (.bool true) ∧ Ext w w' := by
  obtain ⟨hv, n, F, L, bl, k0, k1, k2, rfl, hr, hwf, _⟩ := lay_of h0
  obtain ⟨tv, rfl, wt⟩ := h1
  obtain ⟨t0, t1⟩ := u8_bd wt
  obtain ⟨tn, rfl⟩ := Int.eq_ofNat_of_zero_le t0
  obtain ⟨na, A, hra, hwa⟩ := h2
  have HRD := Lib.hid hr
  have HWF := Lib.hid hwf
  have HWA := Lib.hid hwa
  obtain ⟨a, c, rfl, hnc, hcm, _, hcs⟩ := hr
  obtain ⟨a2, c2, rfl, hnc2, hcm2, _, hcs2⟩ := hra
  have HCA := Lib.hid hcs2
  have hn63 : (n : Int) ≤ 9223372036854775807 := by unfold maxLen at hcm; omega
  have hn632 : (na : Int) ≤ 9223372036854775807 := by unfold maxLen at hcm2; omega
  have htm : (tn : Int) % 3 = ((tn % 3 : Nat) : Int) := by simp
  have HTM := Lib.hid htm
  have htn3 : tn % 3 < 3 := Nat.mod_lt _ (by omega)
  clear h0 hwf hwa hcm hcm2 hnc hnc2 hcs hcs2 wt htm t0
  go_enter Try.func4, Try.ntmps4
  go_upto_region 1 with fail
  have hx0 : Ext w (w.alloc (.cells #[.slice a n c, .int .i64 bl, .int .i64 k0, .int .i64 k1, .int .i64 k2] 25)) := (Ext.refl w).alloc _
  have y0 := cell_new w #[.slice a n c, .int .i64 bl, .int .i64 k0, .int .i64 k1, .int .i64 k2] 25 (0, 0) (j := 0) rfl
  have y1 := cell_new w #[.slice a n c, .int .i64 bl, .int .i64 k0, .int .i64 k1, .int .i64 k2] 25 (0, 0) (j := 1) rfl
  have y2 := cell_new w #[.slice a n c, .int .i64 bl, .int .i64 k0, .int .i64 k1, .int .i64 k2] 25 (0, 0) (j := 2) rfl
  have y3 := cell_new w #[.slice a n c, .int .i64 bl, .int .i64 k0, .int .i64 k1, .int .i64 k2] 25 (0, 0) (j := 3) rfl
  have y4 := cell_new w #[.slice a n c, .int .i64 bl, .int .i64 k0, .int .i64 k1, .int .i64 k2] 25 (0, 0) (j := 4) rfl
  generalize (w.alloc (.cells #[.slice a n c, .int .i64 bl, .int .i64 k0, .int .i64 k1, .int .i64 k2] 25)) = w0 at *
  obtain ⟨pb, hpb⟩ : ∃ pb, pb = w.heap.size := ⟨_, rfl⟩
  rw [← hpb] at y0 y1 y2 y3 y4 ⊢
  clear hpb
  go_wp2_with fail
  refine (wakes15 _).mono ?_
  rintro e w1 ⟨rfl, hx1⟩
  have hX1 := hx0.trans hx1
  have y0 := hx1.cellv y0
  have y1 := hx1.cellv y1
  have y2 := hx1.cellv y2
  have y3 := hx1.cellv y3
  have y4 := hx1.cellv y4
  clear hx0 hx1
  by_cases hl : 20 < n ∨ 150 < na
  · go_wp2_with fail
    refine (plong a n c hn63 bl k0 k1 k2 a2 na c2 hn632 _ true (decide_eq_true hl)).mono ?_
    rintro e w2 ⟨rfl, hx2⟩
    go_wp2_with fail
    go_ret
    exact ⟨rfl, (by repeat' (first | (with_reducible exact Ext.refl _) | (with_reducible assumption) | (with_reducible refine Ext.alloc ?_ _) | (with_reducible refine Ext.drewN ?_ _) | (with_reducible refine Ext.drew ?_) | (with_reducible refine Ext.trans ?_ (by assumption))))⟩
  go_wp2_with fail
  refine (plong a n c hn63 bl k0 k1 k2 a2 na c2 hn632 _ false (decide_eq_false hl)).mono ?_
  rintro e w2 ⟨rfl, hx2⟩
  have hX2 := hX1.trans hx2
  have y0 := hx2.cellv y0
  have y1 := hx2.cellv y1
  have y2 := hx2.cellv y2
  have y3 := hx2.cellv y3
  have y4 := hx2.cellv y4
  clear hx2 hX1
  have hlp : n ≤ 20 := by omega
  have hlp2 : na ≤ 150 := by omega
  clear hl
  by_cases hK : (1 ≤ k0 ∧ k0 ≤ 16) ∧ (1 ≤ k1 ∧ k1 ≤ 16) ∧ (1 ≤ k2 ∧ k2 ≤ 16)
  case neg =>
    have HN := Lib.hid (fun w' => (knew_caps (.slice a n c) bl w' (fun t => if t = 0 then k0 else if t = 1 then k1 else k2) (fun h => hK ⟨h 0 (by omega), h 1 (by omega), h 2 (by omega)⟩) : Calls Try.prog 9 #[.slice a n c, .int .i64 bl, .agg #[.int .i64 k0, .int .i64 k1, .int .i64 k2]] w' _))
    clear hK
    go_wp2_with fail
    refine (HN.out _).mono ?_
    rintro e w3 ⟨rfl, hx3⟩
    go_wp2_with fail
    go_ret
    exact ⟨rfl, (by repeat' (first | (with_reducible exact Ext.refl _) | (with_reducible assumption) | (with_reducible refine Ext.alloc ?_ _) | (with_reducible refine Ext.drewN ?_ _) | (with_reducible refine Ext.drew ?_) | (with_reducible refine Ext.trans ?_ (by assumption))))⟩
  by_cases hb : 1 ≤ bl ∧ bl ≤ 32
  case neg =>
    have HN := Lib.hid (fun w' => knew_blocks (.slice a n c) bl w' k0 k1 k2 hK hb)
    clear hK hb
    go_wp2_with fail
    refine (HN.out _).mono ?_
    rintro e w3 ⟨rfl, hx3⟩
    go_wp2_with fail
    go_ret
    exact ⟨rfl, (by repeat' (first | (with_reducible exact Ext.refl _) | (with_reducible assumption) | (with_reducible refine Ext.alloc ?_ _) | (with_reducible refine Ext.drewN ?_ _) | (with_reducible refine Ext.drew ?_) | (with_reducible refine Ext.trans ?_ (by assumption))))⟩
  obtain ⟨cc, hcc, e0, e1, e2⟩ : ∃ cc : Nat → Nat, CapsOk cc ∧ k0 = (cc 0 : Nat) ∧ k1 = (cc 1 : Nat) ∧ k2 = (cc 2 : Nat) := caps_nat hK
  subst e0 e1 e2
  clear hK
  by_cases hok : HsOk n F bl
  case neg =>
    have HN := Lib.hid (fun w' (hx : Ext w w') => knew_hints (.slice a n c) n F L bl w' (HRD.out.ext hx) (by omega) HWF.out cc hcc hb hok)
    clear hok hb
    go_wp2_with fail
    refine (HN.out _ hX2).mono ?_
    rintro e w3 ⟨rfl, hx3⟩
    go_wp2_with fail
    go_ret
    exact ⟨rfl, (by repeat' (first | (with_reducible exact Ext.refl _) | (with_reducible assumption) | (with_reducible refine Ext.alloc ?_ _) | (with_reducible refine Ext.drewN ?_ _) | (with_reducible refine Ext.drew ?_) | (with_reducible refine Ext.trans ?_ (by assumption))))⟩
  have HN := Lib.hid (knew_ok (.slice a n c) n F L bl w2 (HRD.out.ext hX2) (by omega) HWF.out cc hcc hb hok)
  have hn8 := hok.2.2
  have HOK := Lib.hid hok
  have HCC := Lib.hid hcc
  clear hok hb hcc
  have hc0 := HCC.out.1 0
  have hc1 := HCC.out.1 1
  have hc2 := HCC.out.1 2
  have hycc : ∀ t, t < 3 → w2.cell? ⟨pb, 2 + t, none⟩ = some (.int .i64 (cc t : Nat)) := by
    intro t ht
    have : t = 0 ∨ t = 1 ∨ t = 2 := by omega
    rcases this with rfl | rfl | rfl
    · exact y2
    · exact y3
    · exact y4
  have HYC := Lib.hid hycc
  have hpbl := cell_lt y0
  have hwpb := hX2.size
  clear hycc
  obtain ⟨q0, hq0⟩ : ∃ q : Int, q = (cc 0 : Nat) := ⟨_, rfl⟩
  obtain ⟨q1, hq1⟩ : ∃ q : Int, q = (cc 1 : Nat) := ⟨_, rfl⟩
  obtain ⟨q2, hq2⟩ : ∃ q : Int, q = (cc 2 : Nat) := ⟨_, rfl⟩
  rw [← hq0, ← hq1, ← hq2] at HN
  rw [← hq0] at y2 ⊢
  rw [← hq1] at y3 ⊢
  rw [← hq2] at y4 ⊢
  clear hq0 hq1 hq2 hc0 hc1 hc2
  go_wp2_with fail
  refine HN.out.mono ?_
  rintro e w3 ⟨p, M, rfl, hwp, hpl, hx3⟩
  have HPL := Lib.hid hpl
  have hX3 := hX2.trans hx3
  have y0 := hx3.cellv y0
  clear hpl HN hX2 y1 y2 y3 y4
  have hwp3 := hX3.size
  have HNP := Lib.hid (pnew p (tn % 3 + 1) bl cc n F L M w3 HPL.out (by omega))
  have HYC3 : Hid (∀ t, t < 3 → w3.cell? ⟨pb, 2 + t, none⟩ = some (.int .i64 (cc t : Nat))) := Lib.hid (fun t ht => hx3.cellv (HYC.out t ht))
  have htt : (1 : Int) + ((tn : Nat) : Int) % 3 = ((tn % 3 + 1 : Nat) : Int) := by rw [HTM.out]; omega
  obtain ⟨t, ht⟩ : ∃ t, t = tn % 3 + 1 := ⟨_, rfl⟩
  rw [← ht] at HNP htt
  have htb : 1 ≤ t ∧ t ≤ 3 := by omega
  have hsz23 := hx3.size
  clear HYC hx3 HPL y0 ht htn3
  go_wp2_with fail
  refine HNP.out.mono ?_
  rintro e w4 ⟨pc, bs, be, rfl, hpa, hbs, hbe, hx4⟩
  have HPA := Lib.hid hpa
  have hX4 := hX3.trans hx4
  have hpbs : pb ∉ [bs, be] := by simp; omega
  have hws : ∀ s ∈ [bs, be], w.heap.size ≤ s := by simp; omega
  have HWS := Lib.hid hws
  have HYC4 : Hid (∀ t, t < 3 → w4.cell? ⟨pb, 2 + t, none⟩ = some (.int .i64 (cc t : Nat))) := Lib.hid (fun t ht => hx4.cellv (HYC3.out t ht))
  have hn8' : (n : Int) ≤ 8 := by omega
  clear hpa hbs hbe hx4 HNP HYC3 hX3 hws
  go_wp2_with fail
  go_loopw [56] (fun ci wr => ∃ (i : Nat) (Ls : List (List Nat)), i ≤ na ∧ ci = .int .i64 i ∧ Hid (PartAt wr pc p bs be t bl cc n F L M Ls) ∧ Hid (Chg [bs, be] w4 wr)) (fun ci _ => na - (intOf ci).toNat)
  case atStart => exact ⟨0, _, Nat.zero_le _, rfl, HPA, Lib.hid (Chg.refl _ _)⟩
  case round =>
    obtain ⟨i, Ls, hi, rfl, HP, HC⟩ := hrel
    clear HPA
    have hXr : Ext w wr := Ext.chg hX4 HC.out HWS.out
    by_cases hlt : i < na
    case neg =>
      obtain rfl : i = na := by omega
      go_wp2_with fail
      go_ret
      exact ⟨rfl, hXr⟩
    have hii : (i : Int) < (na : Int) := by omega
    have hi0 : (0 : Int) ≤ (i : Int) := by omega
    obtain ⟨ba, oa, rfl, hba, hcella⟩ := HCA.out (by omega)
    have z0 := (hXr.cell hba).trans (hcella i 0 hlt (by omega))
    have z1 := (hXr.cell hba).trans (hcella i 1 hlt (by omega))
    simp only [← Nat.add_assoc, Nat.add_zero] at z0 z1
    obtain ⟨kd, hkd⟩ : ∃ x, x = A i 0 := ⟨_, rfl⟩
    obtain ⟨b, hb⟩ : ∃ x, x = A i 1 := ⟨_, rfl⟩
    rw [← hkd] at z0
    rw [← hb] at z1
    obtain ⟨is, x, hrb⟩ := rng_ex n F b
    have hxn : x < n ∨ (x = 0 ∧ is = false) := by
      rcases hrb with ⟨h1, h2, _⟩ | ⟨_, h2, _⟩
      · exact .inr ⟨h2, h1⟩
      · exact .inl h2
    have HRB := Lib.hid hrb
    clear hcella hkd hb hrb
    obtain ⟨wo, rfl⟩ : ∃ wo : World, wo = wr := ⟨_, rfl⟩
    go_upto_region 14 with fail
    have k0' := cell_new wo #[.int .i64 kd, .int .i64 b] 37 (0, 0) (j := 0) rfl
    have k1' := cell_new wo #[.int .i64 kd, .int .i64 b] 37 (0, 0) (j := 1) rfl
    have hx5 : Ext wo (wo.alloc (.cells #[.int .i64 kd, .int .i64 b] 37)) := (Ext.refl wo).alloc _
    generalize (wo.alloc (.cells #[.int .i64 kd, .int .i64 b] 37)) = w5 at *
    obtain ⟨pa, hpa⟩ : ∃ pa, pa = wo.heap.size := ⟨_, rfl⟩
    have hpa2 : pa ∉ [bs, be] := by have := HP.out.space.lt1; have := HP.out.space.lt2; simp; omega
    rw [← hpa] at k0' k1' ⊢
    have HP5 := Lib.hid (HP.out.ext hx5)
    have HC5 := Lib.hid (HC.out.ext hx5)
    clear hpa z0 z1 HP HC hx5 hXr
    go_wp2_with fail
    refine (pall pc p bs be t bl cc n F L M Ls _ HP5.out).mono ?_
    rintro e w6 ⟨v6, rfl, ho6, hx6⟩
    have HO6 := Lib.hid ho6
    obtain ⟨a6, cp6, rfl, _⟩ := ho6.rd.parts
    have hpl6 : (asInts (flatP Ls n)).length = (flatP Ls n).length := by simp [asInts]
    rw [hpl6] at HO6 ⊢
    have k0' := hx6.cellv k0'
    have k1' := hx6.cellv k1'
    have HP6 := Lib.hid (HP5.out.ext hx6)
    have HC6 := Lib.hid (HC5.out.ext hx6)
    have HPL5 := HP5
    clear ho6 hpl6 HC5
    go_wp2_with fail
    refine (krange p bl cc n F L M _ HP6.out.pl b is x HRB.out).mono ?_
    rintro e w7 ⟨rfl, hx7⟩
    have k0' := hx7.cellv k0'
    have k1' := hx7.cellv k1'
    have HP7 := Lib.hid (HP6.out.ext hx7)
    have HC7 := Lib.hid (HC6.out.ext hx7)
    clear HP6 HC6
    have hbs5 : ∀ s ∈ [bs, be], s < w5.heap.size := by have := HPL5.out.space.lt1; have := HPL5.out.space.lt2; simp; omega
    by_cases hk2 : kd = 2
    --[[X
    · subst hk2
      go_wp2_with fail
      refine (premove_any pc p bs be t bl cc n F L M Ls _ HP7.out b is x HRB.out).mono ?_
      rintro e w8 ⟨g8, Ls', rfl, hap, hp8, hc8⟩
      have HAP := Lib.hid hap
      have HP8 := Lib.hid hp8
      have HC8 := Lib.hid (HC7.out.trans hc8)
      have hS5 : ∀ s ∈ [bs, be], s < w5.heap.size := hbs5
      have HV8 := Lib.hid ((HO6.out.ext hx7).chg hc8 hS5).rd
      obtain ⟨G6, hG6⟩ : ∃ G, G = flatP Ls n := ⟨_, rfl⟩
      have HG6 := Lib.hid hG6
      have HGL6 : Hid (G6.length ≤ 8 * 64) := Lib.hid (by rw [hG6]; have := flat_len pc p bs be t bl cc n F L M Ls _ HP7.out n (Nat.le_refl _); omega)
      have HS6 : Hid (∀ j, j < G6.length → ∃ b o, a6 = some ⟨b, o, none⟩ ∧ w8.cell? ⟨b, o + j, none⟩ = some (.int .i64 (G6.getD j 0 : Nat))) := Lib.hid (fun j hj => by
        obtain ⟨a', c', e, _, _, _, hs⟩ := HV8.out.parts
        simp only [Value.slice.injEq] at e
        obtain ⟨rfl, _, rfl⟩ := e
        obtain ⟨b', o', e, hb', hc'⟩ := hs (by intro e; rw [← hG6] at e; have := congrArg List.length e; simp [asInts] at this; rw [this] at hj; simp at hj)
        refine ⟨b', o', e, ?_⟩
        rw [hc' j (by simp only [asInts, List.length_map, ← hG6]; exact hj), ← hG6]
        exact congrArg (fun z => some (Value.int IntKind.i64 z)) (plz_at G6 j))
      have HFL6 : Hid (∀ j, j < G6.length → ∃ r, r < n ∧ HIn F r (G6.getD j 0 : Nat)) := Lib.hid (fun j hj => by
        rw [hG6] at hj ⊢
        obtain ⟨r, h1, _, h3, _⟩ := flat_at HP7.out.ok hj
        exact ⟨r, h1, h3⟩)
      rw [← hG6]
      clear hap hp8 hc8 hx7 HC7 HO6 HV8 hS5 hG6 k0' k1'
      have hgl6 : G6.length ≤ 600 := by have := HGL6.out; omega
      obtain ⟨gl6, hgle6⟩ : ∃ gl, gl = G6.length := ⟨_, rfl⟩
      rw [← hgle6] at hgl6 HS6 HFL6 ⊢
      have HGE6 := Lib.hid hgle6
      have hgi6 : (gl6 : Int) ≤ 600 := by omega
      clear hgle6
      go_wp2_with fail
      go_loopw [16, 82] (fun cb cj ws => ∃ j : Nat, j ≤ gl6 ∧ cj = .int .i64 j ∧ Hid (OwnI .i64 3 w8.heap.size ws cb (asInts ((G6.take j).filter (kpR F x)))) ∧ Ext w8 ws) (fun _ cj _ => gl6 - (intOf cj).toNat)
      case atStart => exact ⟨0, Nat.zero_le _, rfl, Lib.hid (OwnI.nil _ _ _ _), Ext.refl _⟩
      case round =>
        obtain ⟨j, hj, rfl, HO, hxj⟩ := hrel
        by_cases hltj : j < gl6
        --[[A
        · have hjj : (j : Int) < (gl6 : Int) := by omega
          have hj0 : (0 : Int) ≤ (j : Int) := by omega
          obtain ⟨b8, o8, hb8, hc8⟩ := HS6.out j hltj
          subst hb8
          have q0 := hxj.cellv hc8
          obtain ⟨r, hrn, hin⟩ := HFL6.out j hltj
          have htk := take_kp F x G6 (j := j) (by rw [← HGE6.out]; exact hltj)
          have hll : ((G6.take j).filter (kpR F x)).length ≤ 600 := Nat.le_trans (List.length_filter_le _ _) (by have h8 := List.length_take_le' j G6; have := HGE6.out; omega)
          obtain ⟨bj, hbj⟩ : ∃ z, z = G6.getD j 0 := ⟨_, rfl⟩
          rw [← hbj] at q0 hin htk
          have HPR := Lib.hid (fun w' (hx : Ext w8 w') => krange p bl cc n F L M w' (HP8.out.pl.ext hx) (bj : Nat) true r (.inr ⟨rfl, hrn, hin⟩))
          have hri : (r : Int) ≤ 8 := by omega
          have hlen9 : (asInts ((G6.take j).filter (kpR F x))).length + 1 ≤ 100000 := by simp only [asInts, List.length_map]; omega
          have HL9 := Lib.hid hlen9
          by_cases hrx : r = x
          · have hkp : kpR F x bj = false := by subst hrx; exact decide_eq_false (fun h => h hin)
            rw [if_neg (by rw [hkp]; simp), List.append_nil] at htk
            have HTK := Lib.hid htk
            subst hrx
            clear hc8 hin htk hbj hkp hll hlen9
            go_wp2_with fail
            refine (HPR.out _ hxj).mono ?_
            rintro e wA ⟨rfl, hxA⟩
            go_wp2_with fail
            go_roundw
            case rel => exact ⟨j + 1, by omega, by go_num, Lib.hid (by rw [HTK.out]; exact HO.out.ext hxA), hxj.trans hxA⟩
            case measure => simp [intOf]; omega
          · have hkp : kpR F x bj = true := decide_eq_true (fun h => by
              rcases hxn with h1 | ⟨h1, _⟩
              · exact hrx (HOK.out.one hrn h1 hin h)
              · exact hrx (HOK.out.one hrn (by omega) hin h))
            rw [if_pos hkp] at htk
            have hrxi : ((r : Int) == (x : Int)) = false := by rw [beq_eq_false_iff_ne]; omega
            have hrxd : decide (r = x) = false := decide_eq_false hrx
            have HTK : Hid (asInts ((G6.take (j + 1)).filter (kpR F x)) = asInts ((G6.take j).filter (kpR F x)) ++ [(bj : Int)]) := Lib.hid (by rw [htk]; simp [asInts])
            clear hc8 hin htk hbj hkp hll hlen9
            go_wp2_with fail
            refine (HPR.out _ hxj).mono ?_
            rintro e wA ⟨rfl, hxA⟩
            go_wp2_with (at_builtin; refine wpList_append_ints rfl _ _ 41 rfl 3 .i64 0 8 Try.underlying41 kints_info (by decide) w8 ((hxj.trans hxA).alloc _) _ _ rfl (HO.out.ext (hxA.alloc _)) _ _ rfl (RdI.one _ _ _ _) (fits_small HL9.out) ?_)
            intro v' w' ho' hx'
            rw [← HTK.out] at ho'
            have HO' := Lib.hid ho'
            clear ho'
            go_wp2_with fail
            go_roundw
            case rel => exact ⟨j + 1, by omega, by go_num, HO', hx'⟩
            case measure => simp [intOf]; omega
        --]]
        --[[B
        · obtain rfl : gl6 = j := by omega
          have HBF := HO
          have hX8j := hxj
          clear HS6 HFL6
          go_wp2_with fail
          refine (pall pc p bs be t bl cc n F L M Ls' _ (HP8.out.ext hX8j)).mono ?_
          rintro e w9 ⟨v9, rfl, ho9, hx9⟩
          have HX89 := Lib.hid (hX8j.trans hx9)
          have hpl9 : (asInts (flatP Ls' n)).length = (flatP Ls' n).length := by simp [asInts]
          obtain ⟨a9, cp9, rfl, _, _, _, hs9⟩ := ho9.rd.parts
          rw [hpl9] at hs9 ⊢
          obtain ⟨G9, hG9⟩ : ∃ G, G = flatP Ls' n := ⟨_, rfl⟩
          have HG9 := Lib.hid hG9
          have HGL9 : Hid (G9.length ≤ 8 * 64) := Lib.hid (by rw [hG9]; have := flat_len pc p bs be t bl cc n F L M Ls' _ HP8.out n (Nat.le_refl _); omega)
          have HS9 : Hid (∀ j, j < G9.length → ∃ b o, a9 = some ⟨b, o, none⟩ ∧ w9.cell? ⟨b, o + j, none⟩ = some (.int .i64 (G9.getD j 0 : Nat))) := Lib.hid (fun j hj => by
            obtain ⟨b', o', e, hb', hc'⟩ := hs9 (by intro e; rw [← hG9] at e; have := congrArg List.length e; simp [asInts] at this; rw [this] at hj; simp at hj)
            refine ⟨b', o', e, ?_⟩
            rw [hc' j (by rw [← hG9]; exact hj), ← hG9]
            exact congrArg (fun z => some (Value.int IntKind.i64 z)) (plz_at G9 j))
          have HFL9 : Hid (∀ j, j < G9.length → ∃ r, r < n ∧ HIn F r (G9.getD j 0 : Nat)) := Lib.hid (fun j hj => by
            rw [hG9] at hj ⊢
            obtain ⟨r, h1, _, h3, _⟩ := flat_at HP8.out.ok hj
            exact ⟨r, h1, h3⟩)
          rw [← hG9]
          clear ho9 hs9 hpl9 hG9
          have HBF9 := Lib.hid (HBF.out.rd.ext hx9)
          clear HO HBF hxj hX8j hx9
          have hgl9 : G9.length ≤ 600 := by have := HGL9.out; omega
          obtain ⟨gl9, hgle9⟩ : ∃ gl, gl = G9.length := ⟨_, rfl⟩
          rw [← hgle9] at hgl9 HS9 HFL9 ⊢
          have HGE9 := Lib.hid hgle9
          have hgi9 : (gl9 : Int) ≤ 600 := by omega
          clear hgle9
          go_wp2_with fail
          go_loopw [17, 103] (fun cb cj ws => ∃ j : Nat, j ≤ gl9 ∧ cj = .int .i64 j ∧ Hid (OwnI .i64 3 w9.heap.size ws cb (asInts ((G9.take j).filter (kpR F x)))) ∧ Ext w9 ws) (fun _ cj _ => gl9 - (intOf cj).toNat)
          case atStart => exact ⟨0, Nat.zero_le _, rfl, Lib.hid (OwnI.nil _ _ _ _), Ext.refl _⟩
          case round =>
            obtain ⟨j, hj, rfl, HO, hxj⟩ := hrel
            by_cases hltj : j < gl9
            --[[C
            · have hjj : (j : Int) < (gl9 : Int) := by omega
              have hj0 : (0 : Int) ≤ (j : Int) := by omega
              obtain ⟨b8, o8, hb8, hc8⟩ := HS9.out j hltj
              subst hb8
              have q0 := hxj.cellv hc8
              obtain ⟨r, hrn, hin⟩ := HFL9.out j hltj
              have htk := take_kp F x G9 (j := j) (by rw [← HGE9.out]; exact hltj)
              have hll : ((G9.take j).filter (kpR F x)).length ≤ 600 := Nat.le_trans (List.length_filter_le _ _) (by have h8 := List.length_take_le' j G9; have := HGE9.out; omega)
              obtain ⟨bj, hbj⟩ : ∃ z, z = G9.getD j 0 := ⟨_, rfl⟩
              rw [← hbj] at q0 hin htk
              have HPR := Lib.hid (fun w' (hx : Ext w9 w') => krange p bl cc n F L M w' (HP8.out.pl.ext (HX89.out.trans hx)) (bj : Nat) true r (.inr ⟨rfl, hrn, hin⟩))
              have hri : (r : Int) ≤ 8 := by omega
              have hlen9 : (asInts ((G9.take j).filter (kpR F x))).length + 1 ≤ 100000 := by simp only [asInts, List.length_map]; omega
              have HL9 := Lib.hid hlen9
              by_cases hrx : r = x
              · have hkp : kpR F x bj = false := by subst hrx; exact decide_eq_false (fun h => h hin)
                rw [if_neg (by rw [hkp]; simp), List.append_nil] at htk
                have HTK := Lib.hid htk
                subst hrx
                clear hc8 hin htk hbj hkp hll hlen9
                go_wp2_with fail
                refine (HPR.out _ hxj).mono ?_
                rintro e wA ⟨rfl, hxA⟩
                go_wp2_with fail
                go_roundw
                case rel => exact ⟨j + 1, by omega, by go_num, Lib.hid (by rw [HTK.out]; exact HO.out.ext hxA), hxj.trans hxA⟩
                case measure => simp [intOf]; omega
              · have hkp : kpR F x bj = true := decide_eq_true (fun h => by
                  rcases hxn with h1 | ⟨h1, _⟩
                  · exact hrx (HOK.out.one hrn h1 hin h)
                  · exact hrx (HOK.out.one hrn (by omega) hin h))
                rw [if_pos hkp] at htk
                have hrxi : ((r : Int) == (x : Int)) = false := by rw [beq_eq_false_iff_ne]; omega
                have hrxd : decide (r = x) = false := decide_eq_false hrx
                have HTK : Hid (asInts ((G9.take (j + 1)).filter (kpR F x)) = asInts ((G9.take j).filter (kpR F x)) ++ [(bj : Int)]) := Lib.hid (by rw [htk]; simp [asInts])
                clear hc8 hin htk hbj hkp hll hlen9
                go_wp2_with fail
                refine (HPR.out _ hxj).mono ?_
                rintro e wA ⟨rfl, hxA⟩
                go_wp2_with (at_builtin; refine wpList_append_ints rfl _ _ 41 rfl 3 .i64 0 8 Try.underlying41 kints_info (by decide) w9 ((hxj.trans hxA).alloc _) _ _ rfl (HO.out.ext (hxA.alloc _)) _ _ rfl (RdI.one _ _ _ _) (fits_small HL9.out) ?_)
                intro v' w' ho' hx'
                rw [← HTK.out] at ho'
                have HO' := Lib.hid ho'
                clear ho'
                go_wp2_with fail
                go_roundw
                case rel => exact ⟨j + 1, by omega, by go_num, HO', hx'⟩
                case measure => simp [intOf]; omega
            --]]
            --[[D
            · obtain rfl : j = gl9 := by omega
              have HFIN : Hid (asInts ((G6.take gl6).filter (kpR F x)) = asInts ((G9.take j).filter (kpR F x))) := Lib.hid (by
                rw [HGE6.out, HGE9.out, List.take_length, List.take_length, HG6.out, HG9.out, kp_flat HP7.out.ok HP8.out.ok HAP.out n (Nat.le_refl _)])
              have hd : decide (asInts ((G6.take gl6).filter (kpR F x)) = asInts ((G9.take j).filter (kpR F x))) = true := decide_eq_true HFIN.out
              have HSI := Lib.hid (sameints_any _ _ _ _ wr (HBF9.out.ext hxj) HO.out.rd)
              rw [hd] at HSI
              have hXf := HX89.out.trans hxj
              clear hd HO HBF9 HS9 HFL9
              go_wp2_with fail
              refine HSI.out.mono ?_
              rintro e wB ⟨rfl, hxB⟩
              go_wp2_with fail
              go_roundw
              case rel => exact ⟨i + 1, Ls', by omega, by go_num, Lib.hid (HP8.out.ext (hXf.trans hxB)), Lib.hid (HC8.out.ext (hXf.trans hxB))⟩
              case measure => simp [intOf]; omega
            --]]
        --]]
    --]]
    --[[Y
    · have hk2b : (kd == 2) = false := by rw [beq_eq_false_iff_ne]; exact hk2
      go_wp2_with fail
      refine (padd_any pc p bs be t bl cc n F L M Ls _ HP7.out b is x HRB.out).mono ?_
      rintro e w8 ⟨v8, g8, e8, Ls', rfl, hap, hp8, hc8⟩
      have HAP := Lib.hid hap
      have HP8 := Lib.hid hp8
      have HC8 := Lib.hid (HC7.out.trans hc8)
      have hS5 : ∀ s ∈ [bs, be], s < w5.heap.size := hbs5
      have HV8 := Lib.hid ((HO6.out.ext hx7).chg hc8 hS5).rd
      obtain ⟨G6, hG6⟩ : ∃ G, G = flatP Ls n := ⟨_, rfl⟩
      have HG6 := Lib.hid hG6
      have HGL6 : Hid (G6.length ≤ 8 * 64) := Lib.hid (by rw [hG6]; have := flat_len pc p bs be t bl cc n F L M Ls _ HP7.out n (Nat.le_refl _); omega)
      have HS6 : Hid (∀ j, j < G6.length → ∃ b o, a6 = some ⟨b, o, none⟩ ∧ w8.cell? ⟨b, o + j, none⟩ = some (.int .i64 (G6.getD j 0 : Nat))) := Lib.hid (fun j hj => by
        obtain ⟨a', c', e, _, _, _, hs⟩ := HV8.out.parts
        simp only [Value.slice.injEq] at e
        obtain ⟨rfl, _, rfl⟩ := e
        obtain ⟨b', o', e, hb', hc'⟩ := hs (by intro e; rw [← hG6] at e; have := congrArg List.length e; simp [asInts] at this; rw [this] at hj; simp at hj)
        refine ⟨b', o', e, ?_⟩
        rw [hc' j (by simp only [asInts, List.length_map, ← hG6]; exact hj), ← hG6]
        exact congrArg (fun z => some (Value.int IntKind.i64 z)) (plz_at G6 j))
      have HFL6 : Hid (∀ j, j < G6.length → ∃ r, r < n ∧ HIn F r (G6.getD j 0 : Nat)) := Lib.hid (fun j hj => by
        rw [hG6] at hj ⊢
        obtain ⟨r, h1, _, h3, _⟩ := flat_at HP7.out.ok hj
        exact ⟨r, h1, h3⟩)
      rw [← hG6]
      clear hap hp8 hc8 hx7 HC7 HO6 HV8 hS5 hG6 k0' k1'
      have hgl6 : G6.length ≤ 600 := by have := HGL6.out; omega
      obtain ⟨gl6, hgle6⟩ : ∃ gl, gl = G6.length := ⟨_, rfl⟩
      rw [← hgle6] at hgl6 HS6 HFL6 ⊢
      have HGE6 := Lib.hid hgle6
      have hgi6 : (gl6 : Int) ≤ 600 := by omega
      clear hgle6
      go_wp2_with fail
      go_loopw [16, 82] (fun cb cj ws => ∃ j : Nat, j ≤ gl6 ∧ cj = .int .i64 j ∧ Hid (OwnI .i64 3 w8.heap.size ws cb (asInts ((G6.take j).filter (kpR F x)))) ∧ Ext w8 ws) (fun _ cj _ => gl6 - (intOf cj).toNat)
      case atStart => exact ⟨0, Nat.zero_le _, rfl, Lib.hid (OwnI.nil _ _ _ _), Ext.refl _⟩
      case round =>
        obtain ⟨j, hj, rfl, HO, hxj⟩ := hrel
        by_cases hltj : j < gl6
        --[[A
        · have hjj : (j : Int) < (gl6 : Int) := by omega
          have hj0 : (0 : Int) ≤ (j : Int) := by omega
          obtain ⟨b8, o8, hb8, hc8⟩ := HS6.out j hltj
          subst hb8
          have q0 := hxj.cellv hc8
          obtain ⟨r, hrn, hin⟩ := HFL6.out j hltj
          have htk := take_kp F x G6 (j := j) (by rw [← HGE6.out]; exact hltj)
          have hll : ((G6.take j).filter (kpR F x)).length ≤ 600 := Nat.le_trans (List.length_filter_le _ _) (by have h8 := List.length_take_le' j G6; have := HGE6.out; omega)
          obtain ⟨bj, hbj⟩ : ∃ z, z = G6.getD j 0 := ⟨_, rfl⟩
          rw [← hbj] at q0 hin htk
          have HPR := Lib.hid (fun w' (hx : Ext w8 w') => krange p bl cc n F L M w' (HP8.out.pl.ext hx) (bj : Nat) true r (.inr ⟨rfl, hrn, hin⟩))
          have hri : (r : Int) ≤ 8 := by omega
          have hlen9 : (asInts ((G6.take j).filter (kpR F x))).length + 1 ≤ 100000 := by simp only [asInts, List.length_map]; omega
          have HL9 := Lib.hid hlen9
          by_cases hrx : r = x
          · have hkp : kpR F x bj = false := by subst hrx; exact decide_eq_false (fun h => h hin)
            rw [if_neg (by rw [hkp]; simp), List.append_nil] at htk
            have HTK := Lib.hid htk
            subst hrx
            clear hc8 hin htk hbj hkp hll hlen9
            go_wp2_with fail
            refine (HPR.out _ hxj).mono ?_
            rintro e wA ⟨rfl, hxA⟩
            go_wp2_with fail
            go_roundw
            case rel => exact ⟨j + 1, by omega, by go_num, Lib.hid (by rw [HTK.out]; exact HO.out.ext hxA), hxj.trans hxA⟩
            case measure => simp [intOf]; omega
          · have hkp : kpR F x bj = true := decide_eq_true (fun h => by
              rcases hxn with h1 | ⟨h1, _⟩
              · exact hrx (HOK.out.one hrn h1 hin h)
              · exact hrx (HOK.out.one hrn (by omega) hin h))
            rw [if_pos hkp] at htk
            have hrxi : ((r : Int) == (x : Int)) = false := by rw [beq_eq_false_iff_ne]; omega
            have hrxd : decide (r = x) = false := decide_eq_false hrx
            have HTK : Hid (asInts ((G6.take (j + 1)).filter (kpR F x)) = asInts ((G6.take j).filter (kpR F x)) ++ [(bj : Int)]) := Lib.hid (by rw [htk]; simp [asInts])
            clear hc8 hin htk hbj hkp hll hlen9
            go_wp2_with fail
            refine (HPR.out _ hxj).mono ?_
            rintro e wA ⟨rfl, hxA⟩
            go_wp2_with (at_builtin; refine wpList_append_ints rfl _ _ 41 rfl 3 .i64 0 8 Try.underlying41 kints_info (by decide) w8 ((hxj.trans hxA).alloc _) _ _ rfl (HO.out.ext (hxA.alloc _)) _ _ rfl (RdI.one _ _ _ _) (fits_small HL9.out) ?_)
            intro v' w' ho' hx'
            rw [← HTK.out] at ho'
            have HO' := Lib.hid ho'
            clear ho'
            go_wp2_with fail
            go_roundw
            case rel => exact ⟨j + 1, by omega, by go_num, HO', hx'⟩
            case measure => simp [intOf]; omega
        --]]
        --[[B
        · obtain rfl : gl6 = j := by omega
          have HBF := HO
          have hX8j := hxj
          clear HS6 HFL6
          go_wp2_with fail
          refine (pall pc p bs be t bl cc n F L M Ls' _ (HP8.out.ext hX8j)).mono ?_
          rintro e w9 ⟨v9, rfl, ho9, hx9⟩
          have HX89 := Lib.hid (hX8j.trans hx9)
          have hpl9 : (asInts (flatP Ls' n)).length = (flatP Ls' n).length := by simp [asInts]
          obtain ⟨a9, cp9, rfl, _, _, _, hs9⟩ := ho9.rd.parts
          rw [hpl9] at hs9 ⊢
          obtain ⟨G9, hG9⟩ : ∃ G, G = flatP Ls' n := ⟨_, rfl⟩
          have HG9 := Lib.hid hG9
          have HGL9 : Hid (G9.length ≤ 8 * 64) := Lib.hid (by rw [hG9]; have := flat_len pc p bs be t bl cc n F L M Ls' _ HP8.out n (Nat.le_refl _); omega)
          have HS9 : Hid (∀ j, j < G9.length → ∃ b o, a9 = some ⟨b, o, none⟩ ∧ w9.cell? ⟨b, o + j, none⟩ = some (.int .i64 (G9.getD j 0 : Nat))) := Lib.hid (fun j hj => by
            obtain ⟨b', o', e, hb', hc'⟩ := hs9 (by intro e; rw [← hG9] at e; have := congrArg List.length e; simp [asInts] at this; rw [this] at hj; simp at hj)
            refine ⟨b', o', e, ?_⟩
            rw [hc' j (by rw [← hG9]; exact hj), ← hG9]
            exact congrArg (fun z => some (Value.int IntKind.i64 z)) (plz_at G9 j))
          have HFL9 : Hid (∀ j, j < G9.length → ∃ r, r < n ∧ HIn F r (G9.getD j 0 : Nat)) := Lib.hid (fun j hj => by
            rw [hG9] at hj ⊢
            obtain ⟨r, h1, _, h3, _⟩ := flat_at HP8.out.ok hj
            exact ⟨r, h1, h3⟩)
          rw [← hG9]
          clear ho9 hs9 hpl9 hG9
          have HBF9 := Lib.hid (HBF.out.rd.ext hx9)
          clear HO HBF hxj hX8j hx9
          have hgl9 : G9.length ≤ 600 := by have := HGL9.out; omega
          obtain ⟨gl9, hgle9⟩ : ∃ gl, gl = G9.length := ⟨_, rfl⟩
          rw [← hgle9] at hgl9 HS9 HFL9 ⊢
          have HGE9 := Lib.hid hgle9
          have hgi9 : (gl9 : Int) ≤ 600 := by omega
          clear hgle9
          go_wp2_with fail
          go_loopw [17, 103] (fun cb cj ws => ∃ j : Nat, j ≤ gl9 ∧ cj = .int .i64 j ∧ Hid (OwnI .i64 3 w9.heap.size ws cb (asInts ((G9.take j).filter (kpR F x)))) ∧ Ext w9 ws) (fun _ cj _ => gl9 - (intOf cj).toNat)
          case atStart => exact ⟨0, Nat.zero_le _, rfl, Lib.hid (OwnI.nil _ _ _ _), Ext.refl _⟩
          case round =>
            obtain ⟨j, hj, rfl, HO, hxj⟩ := hrel
            by_cases hltj : j < gl9
            --[[C
            · have hjj : (j : Int) < (gl9 : Int) := by omega
              have hj0 : (0 : Int) ≤ (j : Int) := by omega
              obtain ⟨b8, o8, hb8, hc8⟩ := HS9.out j hltj
              subst hb8
              have q0 := hxj.cellv hc8
              obtain ⟨r, hrn, hin⟩ := HFL9.out j hltj
              have htk := take_kp F x G9 (j := j) (by rw [← HGE9.out]; exact hltj)
              have hll : ((G9.take j).filter (kpR F x)).length ≤ 600 := Nat.le_trans (List.length_filter_le _ _) (by have h8 := List.length_take_le' j G9; have := HGE9.out; omega)
              obtain ⟨bj, hbj⟩ : ∃ z, z = G9.getD j 0 := ⟨_, rfl⟩
              rw [← hbj] at q0 hin htk
              have HPR := Lib.hid (fun w' (hx : Ext w9 w') => krange p bl cc n F L M w' (HP8.out.pl.ext (HX89.out.trans hx)) (bj : Nat) true r (.inr ⟨rfl, hrn, hin⟩))
              have hri : (r : Int) ≤ 8 := by omega
              have hlen9 : (asInts ((G9.take j).filter (kpR F x))).length + 1 ≤ 100000 := by simp only [asInts, List.length_map]; omega
              have HL9 := Lib.hid hlen9
              by_cases hrx : r = x
              · have hkp : kpR F x bj = false := by subst hrx; exact decide_eq_false (fun h => h hin)
                rw [if_neg (by rw [hkp]; simp), List.append_nil] at htk
                have HTK := Lib.hid htk
                subst hrx
                clear hc8 hin htk hbj hkp hll hlen9
                go_wp2_with fail
                refine (HPR.out _ hxj).mono ?_
                rintro e wA ⟨rfl, hxA⟩
                go_wp2_with fail
                go_roundw
                case rel => exact ⟨j + 1, by omega, by go_num, Lib.hid (by rw [HTK.out]; exact HO.out.ext hxA), hxj.trans hxA⟩
                case measure => simp [intOf]; omega
              · have hkp : kpR F x bj = true := decide_eq_true (fun h => by
                  rcases hxn with h1 | ⟨h1, _⟩
                  · exact hrx (HOK.out.one hrn h1 hin h)
                  · exact hrx (HOK.out.one hrn (by omega) hin h))
                rw [if_pos hkp] at htk
                have hrxi : ((r : Int) == (x : Int)) = false := by rw [beq_eq_false_iff_ne]; omega
                have hrxd : decide (r = x) = false := decide_eq_false hrx
                have HTK : Hid (asInts ((G9.take (j + 1)).filter (kpR F x)) = asInts ((G9.take j).filter (kpR F x)) ++ [(bj : Int)]) := Lib.hid (by rw [htk]; simp [asInts])
                clear hc8 hin htk hbj hkp hll hlen9
                go_wp2_with fail
                refine (HPR.out _ hxj).mono ?_
                rintro e wA ⟨rfl, hxA⟩
                go_wp2_with (at_builtin; refine wpList_append_ints rfl _ _ 41 rfl 3 .i64 0 8 Try.underlying41 kints_info (by decide) w9 ((hxj.trans hxA).alloc _) _ _ rfl (HO.out.ext (hxA.alloc _)) _ _ rfl (RdI.one _ _ _ _) (fits_small HL9.out) ?_)
                intro v' w' ho' hx'
                rw [← HTK.out] at ho'
                have HO' := Lib.hid ho'
                clear ho'
                go_wp2_with fail
                go_roundw
                case rel => exact ⟨j + 1, by omega, by go_num, HO', hx'⟩
                case measure => simp [intOf]; omega
            --]]
            --[[D
            · obtain rfl : j = gl9 := by omega
              have HFIN : Hid (asInts ((G6.take gl6).filter (kpR F x)) = asInts ((G9.take j).filter (kpR F x))) := Lib.hid (by
                rw [HGE6.out, HGE9.out, List.take_length, List.take_length, HG6.out, HG9.out, kp_flat HP7.out.ok HP8.out.ok HAP.out n (Nat.le_refl _)])
              have hd : decide (asInts ((G6.take gl6).filter (kpR F x)) = asInts ((G9.take j).filter (kpR F x))) = true := decide_eq_true HFIN.out
              have HSI := Lib.hid (sameints_any _ _ _ _ wr (HBF9.out.ext hxj) HO.out.rd)
              rw [hd] at HSI
              have hXf := HX89.out.trans hxj
              clear hd HO HBF9 HS9 HFL9
              go_wp2_with fail
              refine HSI.out.mono ?_
              rintro e wB ⟨rfl, hxB⟩
              go_wp2_with fail
              go_roundw
              case rel => exact ⟨i + 1, Ls', by omega, by go_num, Lib.hid (HP8.out.ext (hXf.trans hxB)), Lib.hid (HC8.out.ext (hXf.trans hxB))⟩
              case measure => simp [intOf]; omega
            --]]
        --]]
    --]]
end Go.Proofs.Ytpmfadepinmmjaa
