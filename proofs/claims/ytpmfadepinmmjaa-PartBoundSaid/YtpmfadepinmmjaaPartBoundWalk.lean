/-
  gradinelaw15.PartBound answers true. No condition.
-/
import Derived.Test.YtpmfadepinmmjaaPLaw
import Derived.Test.YtpmfadepinmmjaaKLay
import Derived.Test.YtpmfadepinmmjaaStruct
namespace Go.Proofs.Ytpmfadepinmmjaa
open Go.RowKit

set_option maxRecDepth 100000 in
set_option maxHeartbeats 16000000 in
theorem walk_PartBound (v0 v1 v2 : Value) (w : World) (h0 : IsFlat Try.prog 25 w v0) (h1 : IsInt .u8 v1) (h2 : IsRows 2 w v2) :
    Calls Try.prog 3 #[v0, v1, v2] w fun e w' => e = .returned (.bool true) ∧ Ext w w' := by
  obtain ⟨hv, n, F, L, bl, k0, k1, k2, rfl, hr, hwf, _⟩ := lay_of h0
  obtain ⟨tv, rfl, wt⟩ := h1
  obtain ⟨t0, t1⟩ := u8_bd wt
  obtain ⟨tn, rfl⟩ := Int.eq_ofNat_of_zero_le t0
  obtain ⟨na, A, hra, hwa⟩ := h2
  have HRD := Lib.hid hr
  have HWF := Lib.hid hwf
  have HWA := Lib.hid hwa
  obtain ⟨a, c, rfl, hnc, hcm, _, hcs⟩ := hr
  obtain ⟨a2, c2, rfl, hnc2, hcm2, _, hcs2⟩ := hra
  have HCA := Lib.hid hcs2
  have hn63 : (n : Int) ≤ 9223372036854775807 := by unfold maxLen at hcm; omega
  have hn632 : (na : Int) ≤ 9223372036854775807 := by unfold maxLen at hcm2; omega
  have htm : (tn : Int) % 3 = ((tn % 3 : Nat) : Int) := by simp
  have HTM := Lib.hid htm
  have htn3 : tn % 3 < 3 := Nat.mod_lt _ (by omega)
  clear h0 hwf hwa hcm hcm2 hnc hnc2 hcs hcs2 wt htm t0
  go_enter Try.func3, Try.ntmps3
  go_upto_region 1 with fail
  have hx0 : Ext w (w.alloc (.cells #[.slice a n c, .int .i64 bl, .int .i64 k0, .int .i64 k1, .int .i64 k2] 25)) := (Ext.refl w).alloc _
  have y0 := cell_new w #[.slice a n c, .int .i64 bl, .int .i64 k0, .int .i64 k1, .int .i64 k2] 25 (0, 0) (j := 0) rfl
  have y1 := cell_new w #[.slice a n c, .int .i64 bl, .int .i64 k0, .int .i64 k1, .int .i64 k2] 25 (0, 0) (j := 1) rfl
  have y2 := cell_new w #[.slice a n c, .int .i64 bl, .int .i64 k0, .int .i64 k1, .int .i64 k2] 25 (0, 0) (j := 2) rfl
  have y3 := cell_new w #[.slice a n c, .int .i64 bl, .int .i64 k0, .int .i64 k1, .int .i64 k2] 25 (0, 0) (j := 3) rfl
  have y4 := cell_new w #[.slice a n c, .int .i64 bl, .int .i64 k0, .int .i64 k1, .int .i64 k2] 25 (0, 0) (j := 4) rfl
  generalize (w.alloc (.cells #[.slice a n c, .int .i64 bl, .int .i64 k0, .int .i64 k1, .int .i64 k2] 25)) = w0 at *
  obtain ⟨pb, hpb⟩ : ∃ pb, pb = w.heap.size := ⟨_, rfl⟩
  rw [← hpb] at y0 y1 y2 y3 y4 ⊢
  clear hpb
  go_wp2_with fail
  refine (wakes15 _).mono ?_
  rintro e w1 ⟨rfl, hx1⟩
  have hX1 := hx0.trans hx1
  have y0 := hx1.cellv y0
  have y1 := hx1.cellv y1
  have y2 := hx1.cellv y2
  have y3 := hx1.cellv y3
  have y4 := hx1.cellv y4
  clear hx0 hx1
  by_cases hl : 20 < n ∨ 150 < na
  · go_wp2_with fail
    refine (plong a n c hn63 bl k0 k1 k2 a2 na c2 hn632 _ true (decide_eq_true hl)).mono ?_
    rintro e w2 ⟨rfl, hx2⟩
    go_wp2_with fail
    go_ret
    exact ⟨rfl, (by repeat' (first | (with_reducible exact Ext.refl _) | (with_reducible assumption) | (with_reducible refine Ext.alloc ?_ _) | (with_reducible refine Ext.drewN ?_ _) | (with_reducible refine Ext.drew ?_) | (with_reducible refine Ext.trans ?_ (by assumption))))⟩
  go_wp2_with fail
  refine (plong a n c hn63 bl k0 k1 k2 a2 na c2 hn632 _ false (decide_eq_false hl)).mono ?_
  rintro e w2 ⟨rfl, hx2⟩
  have hX2 := hX1.trans hx2
  have y0 := hx2.cellv y0
  have y1 := hx2.cellv y1
  have y2 := hx2.cellv y2
  have y3 := hx2.cellv y3
  have y4 := hx2.cellv y4
  clear hx2 hX1
  have hlp : n ≤ 20 := by omega
  have hlp2 : na ≤ 150 := by omega
  clear hl
  by_cases hK : (1 ≤ k0 ∧ k0 ≤ 16) ∧ (1 ≤ k1 ∧ k1 ≤ 16) ∧ (1 ≤ k2 ∧ k2 ≤ 16)
  case neg =>
    have HN := Lib.hid (fun w' => (knew_caps (.slice a n c) bl w' (fun t => if t = 0 then k0 else if t = 1 then k1 else k2) (fun h => hK ⟨h 0 (by omega), h 1 (by omega), h 2 (by omega)⟩) : Calls Try.prog 9 #[.slice a n c, .int .i64 bl, .agg #[.int .i64 k0, .int .i64 k1, .int .i64 k2]] w' _))
    clear hK
    go_wp2_with fail
    refine (HN.out _).mono ?_
    rintro e w3 ⟨rfl, hx3⟩
    go_wp2_with fail
    go_ret
    exact ⟨rfl, (by repeat' (first | (with_reducible exact Ext.refl _) | (with_reducible assumption) | (with_reducible refine Ext.alloc ?_ _) | (with_reducible refine Ext.drewN ?_ _) | (with_reducible refine Ext.drew ?_) | (with_reducible refine Ext.trans ?_ (by assumption))))⟩
  by_cases hb : 1 ≤ bl ∧ bl ≤ 32
  case neg =>
    have HN := Lib.hid (fun w' => knew_blocks (.slice a n c) bl w' k0 k1 k2 hK hb)
    clear hK hb
    go_wp2_with fail
    refine (HN.out _).mono ?_
    rintro e w3 ⟨rfl, hx3⟩
    go_wp2_with fail
    go_ret
    exact ⟨rfl, (by repeat' (first | (with_reducible exact Ext.refl _) | (with_reducible assumption) | (with_reducible refine Ext.alloc ?_ _) | (with_reducible refine Ext.drewN ?_ _) | (with_reducible refine Ext.drew ?_) | (with_reducible refine Ext.trans ?_ (by assumption))))⟩
  obtain ⟨cc, hcc, e0, e1, e2⟩ : ∃ cc : Nat → Nat, CapsOk cc ∧ k0 = (cc 0 : Nat) ∧ k1 = (cc 1 : Nat) ∧ k2 = (cc 2 : Nat) := caps_nat hK
  subst e0 e1 e2
  clear hK
  by_cases hok : HsOk n F bl
  case neg =>
    have HN := Lib.hid (fun w' (hx : Ext w w') => knew_hints (.slice a n c) n F L bl w' (HRD.out.ext hx) (by omega) HWF.out cc hcc hb hok)
    clear hok hb
    go_wp2_with fail
    refine (HN.out _ hX2).mono ?_
    rintro e w3 ⟨rfl, hx3⟩
    go_wp2_with fail
    go_ret
    exact ⟨rfl, (by repeat' (first | (with_reducible exact Ext.refl _) | (with_reducible assumption) | (with_reducible refine Ext.alloc ?_ _) | (with_reducible refine Ext.drewN ?_ _) | (with_reducible refine Ext.drew ?_) | (with_reducible refine Ext.trans ?_ (by assumption))))⟩
  have HN := Lib.hid (knew_ok (.slice a n c) n F L bl w2 (HRD.out.ext hX2) (by omega) HWF.out cc hcc hb hok)
  have hn8 := hok.2.2
  have HOK := Lib.hid hok
  have HCC := Lib.hid hcc
  clear hok hb hcc
  have hc0 := HCC.out.1 0
  have hc1 := HCC.out.1 1
  have hc2 := HCC.out.1 2
  have hycc : ∀ t, t < 3 → w2.cell? ⟨pb, 2 + t, none⟩ = some (.int .i64 (cc t : Nat)) := by
    intro t ht
    have : t = 0 ∨ t = 1 ∨ t = 2 := by omega
    rcases this with rfl | rfl | rfl
    · exact y2
    · exact y3
    · exact y4
  have HYC := Lib.hid hycc
  have hpbl := cell_lt y0
  have hwpb := hX2.size
  clear hycc
  obtain ⟨q0, hq0⟩ : ∃ q : Int, q = (cc 0 : Nat) := ⟨_, rfl⟩
  obtain ⟨q1, hq1⟩ : ∃ q : Int, q = (cc 1 : Nat) := ⟨_, rfl⟩
  obtain ⟨q2, hq2⟩ : ∃ q : Int, q = (cc 2 : Nat) := ⟨_, rfl⟩
  rw [← hq0, ← hq1, ← hq2] at HN
  rw [← hq0] at y2 ⊢
  rw [← hq1] at y3 ⊢
  rw [← hq2] at y4 ⊢
  clear hq0 hq1 hq2 hc0 hc1 hc2
  go_wp2_with fail
  refine HN.out.mono ?_
  rintro e w3 ⟨p, M, rfl, hwp, hpl, hx3⟩
  have HPL := Lib.hid hpl
  have hX3 := hX2.trans hx3
  have y0 := hx3.cellv y0
  clear hpl HN hX2 y1 y2 y3 y4
  have hwp3 := hX3.size
  have HNP := Lib.hid (pnew p (tn % 3 + 1) bl cc n F L M w3 HPL.out (by omega))
  have HYC3 : Hid (∀ t, t < 3 → w3.cell? ⟨pb, 2 + t, none⟩ = some (.int .i64 (cc t : Nat))) := Lib.hid (fun t ht => hx3.cellv (HYC.out t ht))
  have htt : (1 : Int) + ((tn : Nat) : Int) % 3 = ((tn % 3 + 1 : Nat) : Int) := by rw [HTM.out]; omega
  obtain ⟨t, ht⟩ : ∃ t, t = tn % 3 + 1 := ⟨_, rfl⟩
  rw [← ht] at HNP htt
  have htb : 1 ≤ t ∧ t ≤ 3 := by omega
  have hsz23 := hx3.size
  clear HYC hx3 HPL y0 ht htn3
  go_wp2_with fail
  refine HNP.out.mono ?_
  rintro e w4 ⟨pc, bs, be, rfl, hpa, hbs, hbe, hx4⟩
  have HPA := Lib.hid hpa
  have hX4 := hX3.trans hx4
  have hpbs : pb ∉ [bs, be] := by simp; omega
  have hws : ∀ s ∈ [bs, be], w.heap.size ≤ s := by simp; omega
  have HWS := Lib.hid hws
  have HYC4 : Hid (∀ t, t < 3 → w4.cell? ⟨pb, 2 + t, none⟩ = some (.int .i64 (cc t : Nat))) := Lib.hid (fun t ht => hx4.cellv (HYC3.out t ht))
  have hn8' : (n : Int) ≤ 8 := by omega
  clear hpa hbs hbe hx4 HNP HYC3 hX3 hws
  go_wp2_with fail
  go_loopw [50] (fun ci wr => ∃ (i : Nat) (Ls : List (List Nat)), i ≤ na ∧ ci = .int .i64 i ∧ Hid (PartAt wr pc p bs be t bl cc n F L M Ls) ∧ Hid (Chg [bs, be] w4 wr)) (fun ci _ => na - (intOf ci).toNat)
  case atStart => exact ⟨0, _, Nat.zero_le _, rfl, HPA, Lib.hid (Chg.refl _ _)⟩
  case round =>
    obtain ⟨i, Ls, hi, rfl, HP, HC⟩ := hrel
    clear HPA
    have hXr : Ext w wr := Ext.chg hX4 HC.out HWS.out
    by_cases hlt : i < na
    case neg =>
      obtain rfl : i = na := by omega
      go_wp2_with fail
      go_ret
      exact ⟨rfl, hXr⟩
    have hii : (i : Int) < (na : Int) := by omega
    have hi0 : (0 : Int) ≤ (i : Int) := by omega
    obtain ⟨ba, oa, rfl, hba, hcella⟩ := HCA.out (by omega)
    have z0 := (hXr.cell hba).trans (hcella i 0 hlt (by omega))
    have z1 := (hXr.cell hba).trans (hcella i 1 hlt (by omega))
    simp only [← Nat.add_assoc, Nat.add_zero] at z0 z1
    obtain ⟨kd, hkd⟩ : ∃ x, x = A i 0 := ⟨_, rfl⟩
    obtain ⟨b, hb⟩ : ∃ x, x = A i 1 := ⟨_, rfl⟩
    rw [← hkd] at z0
    rw [← hb] at z1
    obtain ⟨is, x, hrb⟩ := rng_ex n F b
    have HRB := Lib.hid hrb
    clear hcella hkd hb hrb
    obtain ⟨wo, rfl⟩ : ∃ wo : World, wo = wr := ⟨_, rfl⟩
    go_upto_region 15 with fail
    have k1 := cell_new wo #[.int .i64 kd, .int .i64 b] 37 (0, 0) (j := 1) rfl
    have hx5 : Ext wo (wo.alloc (.cells #[.int .i64 kd, .int .i64 b] 37)) := (Ext.refl wo).alloc _
    generalize (wo.alloc (.cells #[.int .i64 kd, .int .i64 b] 37)) = w5 at *
    obtain ⟨pa, hpa⟩ : ∃ pa, pa = wo.heap.size := ⟨_, rfl⟩
    rw [← hpa] at k1 ⊢
    clear hpa z0 z1
    go_wp2_with fail
    refine (padd_any pc p bs be t bl cc n F L M Ls _ (HP.out.ext hx5) b is x HRB.out).mono ?_
    rintro e w6 ⟨v, g, kk, Ls', rfl, _, hp6, hc6⟩
    have HP6 := Lib.hid hp6
    have HC6 := Lib.hid ((HC.out.ext hx5).trans hc6)
    have hX6 : Ext w w6 := Ext.chg hX4 HC6.out HWS.out
    clear hp6 hc6 HP HC hx5 k1 hXr
    go_upto_region 17 with fail
    have hm0 : IRow (w6.alloc (.cells #[.int .i64 0, .int .i64 0, .int .i64 0, .int .i64 0, .int .i64 0, .int .i64 0, .int .i64 0, .int .i64 0, .int .i64 0, .int .i64 0, .int .i64 0, .int .i64 0, .int .i64 0, .int .i64 0, .int .i64 0, .int .i64 0, .int .i64 0, .int .i64 0, .int .i64 0, .int .i64 0, .int .i64 0, .int .i64 0, .int .i64 0, .int .i64 0, .int .i64 0, .int .i64 0, .int .i64 0, .int .i64 0, .int .i64 0, .int .i64 0, .int .i64 0, .int .i64 0] 40)) w6.heap.size 32 (fun _ => 0) := ⟨_, _, heap_alloc_new w6 _, fun j hj => by
      show ((List.replicate 32 (Value.int .i64 0)).toArray)[j]? = _
      rw [List.getElem?_toArray, List.getElem?_replicate, if_pos hj]⟩
    have hx7 : Ext w6 (w6.alloc (.cells #[.int .i64 0, .int .i64 0, .int .i64 0, .int .i64 0, .int .i64 0, .int .i64 0, .int .i64 0, .int .i64 0, .int .i64 0, .int .i64 0, .int .i64 0, .int .i64 0, .int .i64 0, .int .i64 0, .int .i64 0, .int .i64 0, .int .i64 0, .int .i64 0, .int .i64 0, .int .i64 0, .int .i64 0, .int .i64 0, .int .i64 0, .int .i64 0, .int .i64 0, .int .i64 0, .int .i64 0, .int .i64 0, .int .i64 0, .int .i64 0, .int .i64 0, .int .i64 0] 40)) := (Ext.refl w6).alloc _
    generalize (w6.alloc (.cells #[.int .i64 0, .int .i64 0, .int .i64 0, .int .i64 0, .int .i64 0, .int .i64 0, .int .i64 0, .int .i64 0, .int .i64 0, .int .i64 0, .int .i64 0, .int .i64 0, .int .i64 0, .int .i64 0, .int .i64 0, .int .i64 0, .int .i64 0, .int .i64 0, .int .i64 0, .int .i64 0, .int .i64 0, .int .i64 0, .int .i64 0, .int .i64 0, .int .i64 0, .int .i64 0, .int .i64 0, .int .i64 0, .int .i64 0, .int .i64 0, .int .i64 0, .int .i64 0] 40)) = w7 at *
    obtain ⟨pm, hpm⟩ : ∃ pm, pm = w6.heap.size := ⟨_, rfl⟩
    rw [← hpm] at hm0 ⊢
    have hpm6 : w6.heap.size ≤ pm := by omega
    have HM0 := Lib.hid hm0
    clear hm0 hpm
    go_wp2_with fail
    refine (pall pc p bs be t bl cc n F L M Ls' _ (HP6.out.ext hx7)).mono ?_
    rintro e w8 ⟨v8, rfl, ho8, hx8⟩
    have hx68 := hx7.trans hx8
    have HM8 := Lib.hid (HM0.out.ext hx8)
    have hpl : (asInts (flatP Ls' n)).length = (flatP Ls' n).length := by simp [asInts]
    obtain ⟨a8, c8, rfl, hc8, hm8, _, hs8⟩ := ho8.rd.parts
    rw [hpl] at hc8 hs8 ⊢
    obtain ⟨G, hG⟩ : ∃ G, G = flatP Ls' n := ⟨_, rfl⟩
    have hl9 : G.length ≤ 600 := by rw [hG]; have := flat_len pc p bs be t bl cc n F L M Ls' w6 HP6.out n (Nat.le_refl _); omega
    have HS8 : Hid (∀ j, j < G.length → ∃ b o, a8 = some ⟨b, o, none⟩ ∧ b < w8.heap.size ∧ b ≠ pm ∧ w8.cell? ⟨b, o + j, none⟩ = some (.int .i64 (G.getD j 0 : Nat))) := Lib.hid (fun j hj => by
      obtain ⟨b', o', e, hb', hc'⟩ := hs8 (by intro e; rw [← hG] at e; have := congrArg List.length e; simp [asInts] at this; rw [this] at hj; simp at hj)
      refine ⟨b', o', e, hb', ?_, ?_⟩
      · have h1 := ho8.lt b' (by rw [e]; rfl)
        have := HM0.out.lt
        omega
      · rw [hc' j (by rw [← hG]; exact hj), ← hG]
        exact congrArg (fun z => some (Value.int IntKind.i64 z)) (plz_at G j))
    have HFL : Hid (∀ j, j < G.length → ∃ r, r < n ∧ HIn F r (G.getD j 0 : Nat) ∧ 1 ≤ PR F cc M r (t - 1)) := Lib.hid (fun j hj => by
      rw [hG] at hj ⊢
      obtain ⟨r, h1, _, h3, h4⟩ := flat_at HP6.out.ok hj
      exact ⟨r, h1, h3, h4⟩)
    have HCN : Hid (∀ j r, r < n → cntR F r (G.take j) ≤ PR F cc M r (t - 1)) := Lib.hid (fun j r hr => by rw [hG]; exact cnt_le HP6.out.ok HOK.out hr j)
    have HSUM : Hid (G.length ≤ cc (t - 1)) := Lib.hid (by
      rw [hG, flat_length]
      exact Nat.le_trans (sumN_mono' n (fun r hr => HP6.out.ok.few r hr)) (pr_room HP6.out.pl.ord (by omega)).1)
    rw [← hG]
    have hgl : (G.length : Int) ≤ 600 := by omega
    have HGE := Lib.hid hG
    clear ho8 hs8 hm8 hc8 hpl hG hx7 hx8 HM0
    obtain ⟨gl, hgle⟩ : ∃ gl, gl = G.length := ⟨_, rfl⟩
    rw [← hgle] at hl9 HS8 HFL HSUM hgl ⊢
    have HGL := Lib.hid hgle
    clear hgle
    go_wp2_with fail
    go_loopw [61] (fun cj ws => ∃ j : Nat, j ≤ gl ∧ cj = .int .i64 j ∧ Hid (IRow ws pm 32 (fun r => ((if r < n then cntR F r (G.take j) else 0 : Nat) : Int))) ∧ Hid (Chg [pm] w8 ws)) (fun cj _ => gl - (intOf cj).toNat)
    case atStart => exact ⟨0, Nat.zero_le _, rfl, Lib.hid (HM8.out.congr (fun r _ => by rw [List.take_zero]; split <;> rfl)), Lib.hid (Chg.refl _ _)⟩
    case round =>
      clear HM8
      obtain ⟨j, hj, rfl, HM, HCM⟩ := hrel
      have hx6r : Ext w6 wr := Ext.chg hx68 HCM.out (by simpa using hpm6)
      by_cases hltj : j < gl
      --[[A
      · have hjj : (j : Int) < (gl : Int) := by omega
        have hj0 : (0 : Int) ≤ (j : Int) := by omega
        obtain ⟨b8, o8, rfl, hb8, hne8, hc8⟩ := HS8.out j hltj
        have q0 := (World.cell?_of_block (HCM.out.block b8 hb8 (by simpa using hne8))).trans hc8
        obtain ⟨r, hrn, hin, hr1⟩ := HFL.out j hltj
        have hcnt := cnt_next F r G (j := j) (by rw [← HGL.out]; exact hltj)
        rw [if_pos hin] at hcnt
        have hoth : ∀ r', r' < n → r' ≠ r → cntR F r' (G.take (j + 1)) = cntR F r' (G.take j) := fun r' hr' hne => by
          rw [cnt_next F r' G (j := j) (by rw [← HGL.out]; exact hltj), if_neg (fun h => hne (HOK.out.one hr' hrn h hin))]; rfl
        have hcl := HCN.out (j + 1) r hrn
        have y := HM.out.cell (show r < 32 by omega)
        have f0 := HM.out.free r
        rw [if_pos hrn] at y
        obtain ⟨bj, hbj⟩ : ∃ x, x = G.getD j 0 := ⟨_, rfl⟩
        rw [← hbj] at q0 hin
        obtain ⟨cn, hcn⟩ : ∃ x, x = cntR F r (G.take j) := ⟨_, rfl⟩
        have hset : ∀ w', IRow w' pm 32 (fun r => ((if r < n then cntR F r (G.take j) else 0 : Nat) : Int)) → IRow (w'.setCell ⟨pm, r, none⟩ (.int .i64 ((cn : Int) + 1))) pm 32 (fun r => ((if r < n then cntR F r (G.take (j + 1)) else 0 : Nat) : Int)) := fun w' hh => hh.set (by omega) _ (fun r' hr' => by
          by_cases e : r' = r
          · subst e; rw [if_pos rfl, if_pos hrn, hcnt, hcn]; rfl
          · rw [if_neg e]
            by_cases e2 : r' < n
            · rw [if_pos e2, if_pos e2, hoth r' e2 e]
            · rw [if_neg e2, if_neg e2])
        rw [← hcn] at y hcnt
        rw [hcnt] at hcl
        have HSET := Lib.hid hset
        have HY4 : Hid ((((if r < n then cntR F r (G.take (j + 1)) else 0 : Nat) : Int)) = (cn : Int) + 1) := Lib.hid (by rw [if_pos hrn, hcnt]; rfl)
        have HPR := Lib.hid (fun w' (hx : Ext w6 w') => krange p bl cc n F L M w' (HP6.out.pl.ext hx) (bj : Nat) true r (.inr ⟨rfl, hrn, hin⟩))
        have HPT := Lib.hid (fun w' (hx : Ext w6 w') => ptakes pc p bs be t bl cc n F L M Ls' w' (HP6.out.ext hx) (bj : Nat) true r (.inr ⟨rfl, hrn, hin⟩) true (decide_eq_true (by rw [HP6.out.pv r]; omega)))
        have HPP := Lib.hid (fun w' (hx : Ext w6 w') => (by have := kpart p bl cc n F L M w' (HP6.out.pl.ext hx) (bj : Nat) true r (.inr ⟨rfl, hrn, hin⟩) (t : Nat); rw [HP6.out.pv r] at this; exact this : Calls Try.prog 15 #[.pointer (some ⟨p, 0, none⟩), .int .i64 (bj : Nat), .int .i64 (t : Nat)] w' fun e w'' => e = .returned (.int .i64 (PR F cc M r (t - 1) : Nat)) ∧ Ext w' w''))
        obtain ⟨R, hR⟩ : ∃ x, x = PR F cc M r (t - 1) := ⟨_, rfl⟩
        rw [← hR] at hcl HPP
        have hcni : (cn : Int) + 1 ≤ (R : Int) := by omega
        have hcn6 : (cn : Int) ≤ 600 := by
          have h8 : cn ≤ (G.take j).length := by rw [hcn]; exact List.countP_le_length
          have h9 : (G.take j).length ≤ G.length := List.length_take_le' _ _
          have := HGL.out
          omega
        have hri : (r : Int) < 32 := by omega
        have hr0 : (0 : Int) ≤ (r : Int) := by omega
        clear hc8 hin hcnt hoth hset hbj hcn hR hr1 hcl
        obtain ⟨wp, rfl⟩ : ∃ wp : World, wp = wr := ⟨_, rfl⟩
        go_wp2_with fail
        refine (HPR.out _ hx6r).mono ?_
        rintro e wA ⟨rfl, hxA⟩
        go_wp2_with fail
        refine (HPT.out _ (hx6r.trans hxA)).mono ?_
        rintro e wB ⟨rfl, hxB⟩
        have hxpB := hxA.trans hxB
        have y2 := hxpB.cellv y
        have f2 := (HM.out.ext hxpB).free r
        have HMB := Lib.hid (HM.out.ext hxpB)
        have HCB := Lib.hid (HCM.out.ext hxpB)
        clear y f0 hxA hxB HM HCM
        go_upto_region 24 with fail
        have HMC := Lib.hid (HSET.out _ HMB.out)
        have HCC2 : Hid (Chg [pm] w8 (wB.setCell ⟨pm, r, none⟩ (.int .i64 ((cn : Int) + 1)))) := Lib.hid (HCB.out.trans (by repeat' (first | (with_reducible exact Chg.refl _ _) | (with_reducible assumption) | (with_reducible refine Chg.drewN ?_ _) | (with_reducible refine Chg.drew ?_) | (with_reducible refine Chg.alloc ?_ _) | (with_reducible refine Chg.setCell ?_ (.inl (by simp)) _) | (with_reducible refine Chg.trans ?_ (by assumption)) | (with_reducible refine Chg.ext ?_ (by assumption)))))
        have y4 : (wB.setCell ⟨pm, r, none⟩ (.int .i64 ((cn : Int) + 1))).cell? ⟨pm, r, none⟩ = some (.int .i64 ((cn : Int) + 1)) := (HMC.out.cell (show r < 32 by omega)).trans (by rw [HY4.out])
        have hx6C : Ext w6 (wB.setCell ⟨pm, r, none⟩ (.int .i64 ((cn : Int) + 1))) := Ext.chg hx68 HCC2.out (by simpa using hpm6)
        go_region_held3 (fun w' => w'.cell? ⟨pm, r, none⟩ = some (.int .i64 ((cn : Int) + 1)) ∧ Ext (wB.setCell ⟨pm, r, none⟩ (.int .i64 ((cn : Int) + 1))) w') (exact ⟨Ext.cellv (w := wB.setCell ⟨pm, r, none⟩ (.int .i64 ((cn : Int) + 1))) (by repeat' (first | (with_reducible exact Ext.refl _) | (with_reducible assumption) | (with_reducible refine Ext.alloc ?_ _) | (with_reducible refine Ext.drewN ?_ _) | (with_reducible refine Ext.drew ?_) | (with_reducible refine Ext.trans ?_ (by assumption)))) y4, (by repeat' (first | (with_reducible exact Ext.refl _) | (with_reducible assumption) | (with_reducible refine Ext.alloc ?_ _) | (with_reducible refine Ext.drewN ?_ _) | (with_reducible refine Ext.drew ?_) | (with_reducible refine Ext.trans ?_ (by assumption))))⟩) (first | (go_at_call 15; refine (HPP.out _ (hx6C.trans (by repeat' (first | (with_reducible exact Ext.refl _) | (with_reducible assumption) | (with_reducible refine Ext.alloc ?_ _) | (with_reducible refine Ext.drewN ?_ _) | (with_reducible refine Ext.drew ?_) | (with_reducible refine Ext.trans ?_ (by assumption)))))).mono ?_; rintro e wD ⟨rfl, hxD⟩))
        all_goals
          go_wp2_with fail
          go_roundw
          case rel => exact ⟨j + 1, by omega, by go_num, Lib.hid (HMC.out.ext (by repeat' (first | (with_reducible exact Ext.refl _) | (with_reducible assumption) | (with_reducible refine Ext.alloc ?_ _) | (with_reducible refine Ext.drewN ?_ _) | (with_reducible refine Ext.drew ?_) | (with_reducible refine Ext.trans ?_ (by assumption))))), Lib.hid (HCC2.out.ext (by repeat' (first | (with_reducible exact Ext.refl _) | (with_reducible assumption) | (with_reducible refine Ext.alloc ?_ _) | (with_reducible refine Ext.drewN ?_ _) | (with_reducible refine Ext.drew ?_) | (with_reducible refine Ext.trans ?_ (by assumption)))))⟩
          case measure => simp [intOf]; omega
      --]]
      --[[B
      · obtain rfl : j = gl := by omega
        have yc := hx6r.cellv ((World.cell?_of_block (HC6.out.block pb (cell_lt (HYC4.out (t - 1) (by omega))) hpbs)).trans (HYC4.out (t - 1) (by omega)))
        have HLN := Lib.hid (fun w' (hx : Ext w6 w') => (by have := plen pc p bs be t bl cc n F L M Ls' w' (HP6.out.ext hx); rw [← HGE.out, ← HGL.out] at this; exact this : Calls Try.prog 16 #[.pointer (some ⟨pc, 0, none⟩)] w' fun e w'' => e = .returned (.int .i64 (j : Nat)) ∧ Ext w' w''))
        have hsum := HSUM.out
        obtain ⟨ct, hct⟩ : ∃ x, x = cc (t - 1) := ⟨_, rfl⟩
        rw [← hct] at yc hsum
        have hgt : ¬ (ct : Int) < (j : Int) := by omega
        have hgt2 : decide ((ct : Int) < (j : Int)) = false := decide_eq_false hgt
        have hgt3 : ¬ ct < j := by omega
        have ht1 : IntKind.i64.wrap ((t : Int) - 1) = (t : Int) - 1 := IntWalk.i64_in _ (by omega)
        have ht2 : (0 : Int) ≤ (t : Int) - 1 := by omega
        have ht3 : (t : Int) - 1 < 3 := by omega
        have ht4 : ((t : Int) - 1).toNat = t - 1 := by omega
        have ht5 : (1 : Int) ≤ (t : Int) := by omega
        have ht6 : (t : Int) < 4 := by omega
        have ht7 : (t : Int) < 3 + 1 := by omega
        have ht8 : (t : Int) - 1 ≤ 2 := by omega
        have HCF := Lib.hid (HC6.out.ext hx6r)
        clear hct HM HCM HC6 HSUM HGE HGL
        go_wp2_with fail
        go_region_held3 (fun w' => w'.cell? ⟨pb, 2 + (t - 1), none⟩ = some (.int .i64 (ct : Nat)) ∧ Ext wr w') (exact ⟨Ext.cellv (w := wr) (by repeat' (first | (with_reducible exact Ext.refl _) | (with_reducible assumption) | (with_reducible refine Ext.alloc ?_ _) | (with_reducible refine Ext.drewN ?_ _) | (with_reducible refine Ext.drew ?_) | (with_reducible refine Ext.trans ?_ (by assumption)))) yc, (by repeat' (first | (with_reducible exact Ext.refl _) | (with_reducible assumption) | (with_reducible refine Ext.alloc ?_ _) | (with_reducible refine Ext.drewN ?_ _) | (with_reducible refine Ext.drew ?_) | (with_reducible refine Ext.trans ?_ (by assumption))))⟩) (first | (go_at_call 16; refine (HLN.out _ (hx6r.trans (by repeat' (first | (with_reducible exact Ext.refl _) | (with_reducible assumption) | (with_reducible refine Ext.alloc ?_ _) | (with_reducible refine Ext.drewN ?_ _) | (with_reducible refine Ext.drew ?_) | (with_reducible refine Ext.trans ?_ (by assumption)))))).mono ?_; rintro e wD ⟨rfl, hxD⟩))
        all_goals
          go_wp2_with fail
          go_roundw
          case rel => exact ⟨i + 1, Ls', by omega, by go_num, Lib.hid (HP6.out.ext (hx6r.trans (by repeat' (first | (with_reducible exact Ext.refl _) | (with_reducible assumption) | (with_reducible refine Ext.alloc ?_ _) | (with_reducible refine Ext.drewN ?_ _) | (with_reducible refine Ext.drew ?_) | (with_reducible refine Ext.trans ?_ (by assumption)))))), Lib.hid (HCF.out.ext (by repeat' (first | (with_reducible exact Ext.refl _) | (with_reducible assumption) | (with_reducible refine Ext.alloc ?_ _) | (with_reducible refine Ext.drewN ?_ _) | (with_reducible refine Ext.drew ?_) | (with_reducible refine Ext.trans ?_ (by assumption)))))⟩
          case measure => simp [intOf]; omega
      --]]
end Go.Proofs.Ytpmfadepinmmjaa
