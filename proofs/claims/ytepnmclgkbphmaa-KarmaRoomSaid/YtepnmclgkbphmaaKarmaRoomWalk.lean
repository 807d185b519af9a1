/-
  gradinelaw14.KarmaRoom answers true. No condition.
-/
import Derived.Test.YtepnmclgkbphmaaKWakes
import Derived.Test.YtepnmclgkbphmaaKRoom
namespace Go.Proofs.Ytepnmclgkbphmaa
open Go.RowKit

set_option maxRecDepth 100000 in
set_option maxHeartbeats 16000000 in
theorem walk_KarmaRoom (v0 : Value) (w : World) (h0 : IsFlat Try.prog 25 w v0) :
    Calls Try.prog 4 #[v0] w fun e w' => e = .returned (.bool true) ∧ Ext w w' := by
  obtain ⟨hv, n, F, L, bl, k0, k1, k2, rfl, hr, hwf, _⟩ := lay_of h0
  have HRD := Lib.hid hr
  have HWF := Lib.hid hwf
  obtain ⟨a, c, rfl, hnc, hcm, _, hcs⟩ := hr
  have HCS := Lib.hid hcs
  have hn63 : (n : Int) ≤ 9223372036854775807 := by unfold maxLen at hcm; omega
  clear h0 hwf hcm hnc hcs
  go_enter Try.func4, Try.ntmps4
  go_upto_region 1 with fail
  have hx0 : Ext w (w.alloc (.cells #[.slice a n c, .int .i64 bl, .int .i64 k0, .int .i64 k1, .int .i64 k2] 25)) := (Ext.refl w).alloc _
  have y0 := cell_new w #[.slice a n c, .int .i64 bl, .int .i64 k0, .int .i64 k1, .int .i64 k2] 25 (0, 0) (j := 0) rfl
  have y1 := cell_new w #[.slice a n c, .int .i64 bl, .int .i64 k0, .int .i64 k1, .int .i64 k2] 25 (0, 0) (j := 1) rfl
  have y2 := cell_new w #[.slice a n c, .int .i64 bl, .int .i64 k0, .int .i64 k1, .int .i64 k2] 25 (0, 0) (j := 2) rfl
  have y3 := cell_new w #[.slice a n c, .int .i64 bl, .int .i64 k0, .int .i64 k1, .int .i64 k2] 25 (0, 0) (j := 3) rfl
  have y4 := cell_new w #[.slice a n c, .int .i64 bl, .int .i64 k0, .int .i64 k1, .int .i64 k2] 25 (0, 0) (j := 4) rfl
  generalize (w.alloc (.cells #[.slice a n c, .int .i64 bl, .int .i64 k0, .int .i64 k1, .int .i64 k2] 25)) = w0 at *
  obtain ⟨pb, hpb⟩ : ∃ pb, pb = w.heap.size := ⟨_, rfl⟩
  rw [← hpb] at y0 y1 y2 y3 y4 ⊢
  clear hpb
  go_wp2_with fail
  refine (wakes14 _).mono ?_
  rintro e w1 ⟨rfl, hx1⟩
  have hX1 := hx0.trans hx1
  have y0 := hx1.cellv y0
  have y1 := hx1.cellv y1
  have y2 := hx1.cellv y2
  have y3 := hx1.cellv y3
  have y4 := hx1.cellv y4
  clear hx0 hx1
  by_cases hl : 20 < n
  · go_wp2_with fail
    refine (klong a n c hn63 bl k0 k1 k2 _ true (decide_eq_true hl)).mono ?_
    rintro e w2 ⟨rfl, hx2⟩
    go_wp2_with fail
    go_ret
    exact ⟨rfl, (by repeat' (first | (with_reducible exact Ext.refl _) | (with_reducible assumption) | (with_reducible refine Ext.alloc ?_ _) | (with_reducible refine Ext.drewN ?_ _) | (with_reducible refine Ext.drew ?_) | (with_reducible refine Ext.trans ?_ (by assumption))))⟩
  go_wp2_with fail
  refine (klong a n c hn63 bl k0 k1 k2 _ false (decide_eq_false hl)).mono ?_
  rintro e w2 ⟨rfl, hx2⟩
  have hX2 := hX1.trans hx2
  have y0 := hx2.cellv y0
  have y1 := hx2.cellv y1
  have y2 := hx2.cellv y2
  have y3 := hx2.cellv y3
  have y4 := hx2.cellv y4
  clear hx2 hX1
  have hlp : n ≤ 20 := by omega
  clear hl
  by_cases hK : (1 ≤ k0 ∧ k0 ≤ 16) ∧ (1 ≤ k1 ∧ k1 ≤ 16) ∧ (1 ≤ k2 ∧ k2 ≤ 16)
  case neg =>
    have HN := Lib.hid (fun w' => (knew_caps (.slice a n c) bl w' (fun t => if t = 0 then k0 else if t = 1 then k1 else k2) (fun h => hK ⟨h 0 (by omega), h 1 (by omega), h 2 (by omega)⟩) : Calls Try.prog 12 #[.slice a n c, .int .i64 bl, .agg #[.int .i64 k0, .int .i64 k1, .int .i64 k2]] w' _))
    clear hK
    go_wp2_with fail
    refine (HN.out _).mono ?_
    rintro e w3 ⟨rfl, hx3⟩
    go_wp2_with fail
    go_ret
    exact ⟨rfl, (by repeat' (first | (with_reducible exact Ext.refl _) | (with_reducible assumption) | (with_reducible refine Ext.alloc ?_ _) | (with_reducible refine Ext.drewN ?_ _) | (with_reducible refine Ext.drew ?_) | (with_reducible refine Ext.trans ?_ (by assumption))))⟩
  by_cases hb : 1 ≤ bl ∧ bl ≤ 32
  case neg =>
    have HN := Lib.hid (fun w' => knew_blocks (.slice a n c) bl w' k0 k1 k2 hK hb)
    clear hK hb
    go_wp2_with fail
    refine (HN.out _).mono ?_
    rintro e w3 ⟨rfl, hx3⟩
    go_wp2_with fail
    go_ret
    exact ⟨rfl, (by repeat' (first | (with_reducible exact Ext.refl _) | (with_reducible assumption) | (with_reducible refine Ext.alloc ?_ _) | (with_reducible refine Ext.drewN ?_ _) | (with_reducible refine Ext.drew ?_) | (with_reducible refine Ext.trans ?_ (by assumption))))⟩
  obtain ⟨cc, hcc, e0, e1, e2⟩ : ∃ cc : Nat → Nat, CapsOk cc ∧ k0 = (cc 0 : Nat) ∧ k1 = (cc 1 : Nat) ∧ k2 = (cc 2 : Nat) := caps_nat hK
  subst e0 e1 e2
  clear hK
  by_cases hok : HsOk n F bl
  case neg =>
    have HN := Lib.hid (fun w' (hx : Ext w w') => knew_hints (.slice a n c) n F L bl w' (HRD.out.ext hx) (by omega) HWF.out cc hcc hb hok)
    clear hok hb
    go_wp2_with fail
    refine (HN.out _ hX2).mono ?_
    rintro e w3 ⟨rfl, hx3⟩
    go_wp2_with fail
    go_ret
    exact ⟨rfl, (by repeat' (first | (with_reducible exact Ext.refl _) | (with_reducible assumption) | (with_reducible refine Ext.alloc ?_ _) | (with_reducible refine Ext.drewN ?_ _) | (with_reducible refine Ext.drew ?_) | (with_reducible refine Ext.trans ?_ (by assumption))))⟩
  have HN := Lib.hid (knew_ok (.slice a n c) n F L bl w2 (HRD.out.ext hX2) (by omega) HWF.out cc hcc hb hok)
  have hn8 := hok.2.2
  have HOK := Lib.hid hok
  have HCC := Lib.hid hcc
  clear hok hb hcc
  have hc0 := HCC.out.1 0
  have hc1 := HCC.out.1 1
  have hc2 := HCC.out.1 2
  have hycc : ∀ t, t < 3 → w2.cell? ⟨pb, 2 + t, none⟩ = some (.int .i64 (cc t : Nat)) := by
    intro t ht
    have : t = 0 ∨ t = 1 ∨ t = 2 := by omega
    rcases this with rfl | rfl | rfl
    · exact y2
    · exact y3
    · exact y4
  have HYC := Lib.hid hycc
  have hpbl := cell_lt y0
  have hwpb := hX2.size
  clear hycc
  obtain ⟨q0, hq0⟩ : ∃ q : Int, q = (cc 0 : Nat) := ⟨_, rfl⟩
  obtain ⟨q1, hq1⟩ : ∃ q : Int, q = (cc 1 : Nat) := ⟨_, rfl⟩
  obtain ⟨q2, hq2⟩ : ∃ q : Int, q = (cc 2 : Nat) := ⟨_, rfl⟩
  rw [← hq0, ← hq1, ← hq2] at HN
  rw [← hq0] at y2 ⊢
  rw [← hq1] at y3 ⊢
  rw [← hq2] at y4 ⊢
  clear hq0 hq1 hq2 hc0 hc1 hc2
  go_wp2_with fail
  refine HN.out.mono ?_
  rintro e w3 ⟨p, M, rfl, hwp, hpl, hx3⟩
  have HPL := Lib.hid hpl
  have hX3 := hX2.trans hx3
  have y0 := hx3.cellv y0
  clear hpl HN hX2 y1 y2 y3 y4
  have HKP := Lib.hid (fun w' (hx : Ext w3 w') => kparts p bl cc n F L M w' (HPL.out.ext hx))
  go_upto_region 9 with fail
  have hs0 : IRow (w3.alloc (.cells #[.int .i64 0, .int .i64 0, .int .i64 0, .int .i64 0] 40)) w3.heap.size 4 (fun _ => 0) := ⟨_, _, heap_alloc_new w3 _, fun j hj => by
    have : j = 0 ∨ j = 1 ∨ j = 2 ∨ j = 3 := by omega
    rcases this with rfl | rfl | rfl | rfl <;> rfl⟩
  have hx4 : Ext w3 (w3.alloc (.cells #[.int .i64 0, .int .i64 0, .int .i64 0, .int .i64 0] 40)) := (Ext.refl w3).alloc _
  generalize (w3.alloc (.cells #[.int .i64 0, .int .i64 0, .int .i64 0, .int .i64 0] 40)) = w4 at *
  obtain ⟨ps, hps⟩ : ∃ ps, ps = w3.heap.size := ⟨_, rfl⟩
  rw [← hps] at hs0 ⊢
  have hpps : pb ≠ ps := by have := hx3.size; omega
  have hwps : w.heap.size ≤ ps := by have := hX3.size; omega
  have HS0 := Lib.hid hs0
  clear hs0 hps
  go_wp2_with fail
  refine (HKP.out _ hx4).mono ?_
  rintro e w5 ⟨v5, rfl, hp5, hob5, hx5⟩
  have hps4 := HS0.out.lt
  have HOB5 := Lib.hid hob5
  clear hob5
  obtain ⟨a5, c5, rfl, hc5, hm5, _, hs5⟩ := hp5
  have HP5 := Lib.hid hs5
  have hX5 := hX3.trans (hx4.trans hx5)
  have hx25 := hx3.trans (hx4.trans hx5)
  have y0 := (hx4.trans hx5).cellv y0
  have HS5 := Lib.hid (HS0.out.ext hx5)
  have hsz5 : ps < w5.heap.size := HS5.out.lt
  clear hs5 hm5 hx3 hx4 hx5 hX3 HKP HS0 hc5
  have hP32 : ∀ i, i < n → ∀ t, t < 4 → PR F cc M i t ≤ 32 := fun i hi t ht => by
    have h9 := pr_all (c := cc) HPL.out.ord hi
    have := (HPL.out.ok.1 i hi)
    have hk : kS F i ≤ 32 := by unfold kS; obtain ⟨_, _, _, _, h, _⟩ := this; omega
    have h4 : t = 0 ∨ t = 1 ∨ t = 2 ∨ t = 3 := by omega
    rcases h4 with rfl | rfl | rfl | rfl <;> omega
  have H32 := Lib.hid hP32
  clear hP32
  go_wp2_with fail
  go_loopw [32] (fun ci wr => ∃ i : Nat, i ≤ n ∧ ci = .int .i64 i ∧ Hid (IRow wr ps 4 (fun t => (sumN (fun j => PR F cc M j t) i : Nat))) ∧ Hid (Chg [ps] w5 wr)) (fun ci _ => n - (intOf ci).toNat)
  case atStart => exact ⟨0, Nat.zero_le _, rfl, Lib.hid (HS5.out.congr (fun j _ => rfl)), Lib.hid (Chg.refl _ _)⟩
  case round =>
    obtain ⟨i, hi, rfl, HSR, HCH⟩ := hrel
    clear HS5
    have hxr : Ext w wr := Ext.chg hX5 HCH.out (by simpa using hwps)
    have y0 := (World.cell?_of_block (HCH.out.block pb (cell_lt y0) (by simpa using hpps))).trans y0
    by_cases hlt : i < n
    --[[A
    · obtain ⟨b5, o5, rfl, hb5, hcell5⟩ := HP5.out (by omega)
      have hne5 : b5 ≠ ps := by have := HOB5.out b5 rfl; omega
      have hz : ∀ f, f < 4 → wr.cell? ⟨b5, o5 + (i * 4 + f), none⟩ = some (.int .i64 (PR F cc M i f : Nat)) := fun f hf => (World.cell?_of_block (HCH.out.block b5 hb5 (by simpa using hne5))).trans (hcell5 i f hlt hf)
      have hall := pr_all (c := cc) HPL.out.ord hlt
      have hR32 : ∀ t, t < 4 → sumN (fun j => PR F cc M j t) i ≤ 256 := fun t ht => Nat.le_trans (sumN_le 32 i (fun j hj => H32.out j (by omega) t ht)) (by omega)
      have hRn : ∀ t, sumN (fun j => PR F cc M j t) (i + 1) = sumN (fun j => PR F cc M j t) i + PR F cc M i t := fun t => rfl
      have hQ32 : ∀ t, t < 4 → PR F cc M i t ≤ 32 := H32.out i hlt
      obtain ⟨R, hR⟩ : ∃ R, R = fun t => sumN (fun j => PR F cc M j t) i := ⟨_, rfl⟩
      obtain ⟨R', hR'⟩ : ∃ R', R' = fun t => sumN (fun j => PR F cc M j t) (i + 1) := ⟨_, rfl⟩
      obtain ⟨Q, hQ⟩ : ∃ Q, Q = PR F cc M i := ⟨_, rfl⟩
      have HRE' := Lib.hid hR'
      have HSR' : Hid (IRow wr ps 4 (fun t => (R t : Nat))) := Lib.hid (by rw [hR]; exact HSR.out)
      have HRN : Hid (∀ t, R' t = R t + Q t) := Lib.hid (fun t => by rw [hR, hR', hQ]; exact hRn t)
      have HR32 : Hid (∀ t, t < 4 → R t ≤ 256) := Lib.hid (fun t ht => by rw [hR]; exact hR32 t ht)
      rw [← hQ] at hz hall hQ32
      have HQ32 := Lib.hid hQ32
      have HALL := Lib.hid hall
      have z0 := hz 0 (by omega)
      have z1 := hz 1 (by omega)
      have z2 := hz 2 (by omega)
      have z3 := hz 3 (by omega)
      simp only [← Nat.add_assoc, Nat.add_zero] at z0 z1 z2 z3
      obtain ⟨bb, o, rfl, hbb, hcell⟩ := HCS.out (by omega)
      have yh := (hxr.cell hbb).trans (hcell i 1 hlt (by omega))
      have hsz : F i 1 = ((kS F i : Nat) : Int) := by have := (HOK.out.1 i hlt).2.1; unfold kS; omega
      simp only [Proofs.Ytepnmclgkbphmaa.HV, ← Nat.add_assoc, if_pos (show (1 : Nat) < 3 by omega), hsz] at yh
      obtain ⟨S, hS⟩ : ∃ S, S = kS F i := ⟨_, rfl⟩
      rw [← hS] at yh HALL
      have hii : (i : Int) < (n : Int) := by omega
      have hi0 : (0 : Int) ≤ (i : Int) := by omega
      clear hz hall hR32 hRn hQ32 hR hR' hQ hcell5 hcell hsz hS HSR
      go_upto_region 12 with fail
      have hpx : IRow (wr.alloc (.cells #[.int .i64 (Q 0 : Nat), .int .i64 (Q 1 : Nat), .int .i64 (Q 2 : Nat), .int .i64 (Q 3 : Nat)] 42)) wr.heap.size 4 (fun f => (Q f : Nat)) := ⟨_, _, heap_alloc_new wr _, fun j hj => by
        have : j = 0 ∨ j = 1 ∨ j = 2 ∨ j = 3 := by omega
        rcases this with rfl | rfl | rfl | rfl <;> rfl⟩
      have hx6 : Ext wr (wr.alloc (.cells #[.int .i64 (Q 0 : Nat), .int .i64 (Q 1 : Nat), .int .i64 (Q 2 : Nat), .int .i64 (Q 3 : Nat)] 42)) := (Ext.refl wr).alloc _
      generalize (wr.alloc (.cells #[.int .i64 (Q 0 : Nat), .int .i64 (Q 1 : Nat), .int .i64 (Q 2 : Nat), .int .i64 (Q 3 : Nat)] 42)) = w6 at *
      obtain ⟨px, hpx'⟩ : ∃ px, px = wr.heap.size := ⟨_, rfl⟩
      rw [← hpx'] at hpx ⊢
      have hpsx : ps ≠ px := by have := HSR'.out.lt; omega
      have hpxs : px ≠ ps := Ne.symm hpsx
      have HPX := Lib.hid hpx
      have HS6 := Lib.hid (HSR'.out.ext hx6)
      have y06 := hx6.cellv y0
      have yh6 := hx6.cellv yh
      have HC6 := Lib.hid (HCH.out.ext hx6)
      have hbps : bb ≠ ps := by omega
      clear hpx hpx' z0 z1 z2 z3 HCH HSR' hx6
      obtain ⟨wo, rfl⟩ : ∃ wo : World, wo = wr := ⟨_, rfl⟩
      go_wp2_with fail
      go_loopw [8, 37] (fun cn ct ws => ∃ t : Nat, t ≤ 4 ∧ ct = .int .i64 t ∧ cn = .int .i64 (sumN Q t : Nat) ∧ Hid (IRow ws ps 4 (fun u => ((R u + if u < t then Q u else 0 : Nat) : Int))) ∧ Hid (IRow ws px 4 (fun f => (Q f : Nat))) ∧ Hid (Chg [ps] w6 ws)) (fun _ ct _ => 4 - (intOf ct).toNat)
      case atStart => exact ⟨0, by omega, rfl, rfl, Lib.hid (HS6.out.congr (fun u _ => by rw [if_neg (by omega)]; rfl)), HPX, Lib.hid (Chg.refl _ _)⟩
      case round =>
        clear HS6 HPX
        obtain ⟨t, ht, rfl, rfl, HS, HP, HC⟩ := hrel
        have hst : sumN Q t ≤ 128 := Nat.le_trans (sumN_le 32 t (fun j hj => HQ32.out j (by omega))) (by omega)
        have y07 := (World.cell?_of_block (HC.out.block pb (cell_lt y06) (by simpa using hpps))).trans y06
        have yh7 := (World.cell?_of_block (HC.out.block bb (cell_lt yh6) (by simpa using hbps))).trans yh6
        by_cases h4 : t < 4
        · have q0 := HS.out.cell h4
          have q1 := HP.out.cell h4
          have f0 := HS.out.free t
          rw [if_neg (by omega)] at q0
          simp only [Nat.add_zero] at q0
          have r0 := HR32.out t h4
          have r1 := HQ32.out t h4
          have hti : (t : Int) < 4 := by omega
          have ht0 : (0 : Int) ≤ (t : Int) := by omega
          have hnx : sumN Q (t + 1) = sumN Q t + Q t := rfl
          have HNX := Lib.hid hnx
          have hset : ∀ w' v, v = ((R t + Q t : Nat) : Int) → IRow w' ps 4 (fun u => ((R u + if u < t then Q u else 0 : Nat) : Int)) → IRow (w'.setCell ⟨ps, t, none⟩ (.int .i64 v)) ps 4 (fun u => ((R u + if u < t + 1 then Q u else 0 : Nat) : Int)) := by
            intro w' v hv hh
            refine hh.set h4 _ (fun u hu => ?_)
            by_cases e : u = t
            · subst e; rw [if_pos rfl, if_pos (by omega), hv]
            · rw [if_neg e]
              by_cases e2 : u < t
              · rw [if_pos (by omega), if_pos e2]
              · rw [if_neg (by omega), if_neg e2]
          have HSET := Lib.hid hset
          obtain ⟨rt, hrt⟩ : ∃ x, x = R t := ⟨_, rfl⟩
          obtain ⟨qt, hqt⟩ : ∃ x, x = Q t := ⟨_, rfl⟩
          obtain ⟨st, hst'⟩ : ∃ x, x = sumN Q t := ⟨_, rfl⟩
          rw [← hrt] at q0 r0 HSET
          rw [← hqt] at q1 r1 HSET HNX
          rw [← hst'] at hst HNX ⊢
          clear hnx hset hrt hqt hst'
          obtain ⟨wp, rfl⟩ : ∃ wp : World, wp = wr := ⟨_, rfl⟩
          go_wp2_with fail
          go_region
          all_goals
            go_wp2_with fail
            go_roundw
            case rel => exact ⟨t + 1, by omega, by go_num, by rw [HNX.out]; go_num, Lib.hid ((HSET.out _ _ (by omega) HS.out).ext ((Ext.refl _).drew)), Lib.hid ((HP.out.other hpxs _).ext ((Ext.refl _).drew)), Lib.hid (HC.out.trans (by repeat' (first | (with_reducible exact Chg.refl _ _) | (with_reducible assumption) | (with_reducible refine Chg.drewN ?_ _) | (with_reducible refine Chg.drew ?_) | (with_reducible refine Chg.alloc ?_ _) | (with_reducible refine Chg.setCell ?_ (.inl (by simp)) _) | (with_reducible refine Chg.trans ?_ (by assumption)) | (with_reducible refine Chg.ext ?_ (by assumption)))))⟩
            case measure => simp [intOf]; omega
        · obtain rfl : t = 4 := by omega
          have hse : sumN Q 4 = S := by rw [← HALL.out]; simp [sumN]
          rw [hse]
          have HSF : Hid (IRow wr ps 4 (fun u => (R' u : Nat))) := Lib.hid (HS.out.congr (fun u hu => by rw [if_pos hu, HRN.out]))
          have HCF := Lib.hid (HC6.out.trans HC.out)
          clear hse hst HS HC HC6
          go_wp2_with fail
          go_roundw
          case rel => exact ⟨i + 1, by omega, by go_num, Lib.hid (by have h9 := HSF.out; rw [HRE'.out] at h9; exact h9), HCF⟩
          case measure => simp [intOf]; omega
    --]]
    --[[B
    · obtain rfl : i = n := by omega
      have hroom : ∀ t, t < 3 → sumN (fun j => PR F cc M j t) i ≤ cc t ∧ (sumN (fun j => PR F cc M j t) i < cc t → sumN (fun j => PR F cc M j (t + 1)) i = 0) := fun t ht => pr_room HPL.out.ord ht
      obtain ⟨R, hR⟩ : ∃ R, R = fun t => sumN (fun j => PR F cc M j t) i := ⟨_, rfl⟩
      have HSR' : Hid (IRow wr ps 4 (fun t => (R t : Nat))) := Lib.hid (by rw [hR]; exact HSR.out)
      have HRM : Hid (∀ t, t < 3 → R t ≤ cc t ∧ (R t < cc t → R (t + 1) = 0)) := Lib.hid (fun t ht => by rw [hR]; exact hroom t ht)
      have HYR : Hid (∀ t, t < 3 → wr.cell? ⟨pb, 2 + t, none⟩ = some (.int .i64 (cc t : Nat))) := Lib.hid (fun t ht => (World.cell?_of_block (HCH.out.block pb (by have := hx25.size; omega) (by simpa using hpps))).trans (hx25.cellv (HYC.out t ht)))
      clear hroom hR HSR HYC
      obtain ⟨wo, rfl⟩ : ∃ wo : World, wo = wr := ⟨_, rfl⟩
      go_wp2_with fail
      go_loopw [65] (fun ct ws => ∃ t : Nat, t ≤ 3 ∧ ct = .int .i64 t ∧ Ext wo ws) (fun ct _ => 3 - (intOf ct).toNat)
      case atStart => exact ⟨0, by omega, rfl, Ext.refl _⟩
      case round =>
        obtain ⟨t, ht, rfl, hxs⟩ := hrel
        by_cases h3 : t < 3
        · have q0 := (HSR'.out.ext hxs).cell (show t < 4 by omega)
          have q1 := (HSR'.out.ext hxs).cell (show t + 1 < 4 by omega)
          have qc := hxs.cellv (HYR.out t h3)
          obtain ⟨r0, r1⟩ := HRM.out t h3
          have hti : (t : Int) < 3 := by omega
          have hti4 : (t : Int) + 1 < 4 := by omega
          have ht0 : (0 : Int) ≤ (t : Int) := by omega
          have ht1 : (0 : Int) ≤ (t : Int) + 1 := by omega
          have htn : ((t : Int) + 1).toNat = t + 1 := by omega
          have hc16 := HCC.out.1 t
          obtain ⟨ct, hct⟩ : ∃ x, x = cc t := ⟨_, rfl⟩
          obtain ⟨rt, hrt⟩ : ∃ x, x = R t := ⟨_, rfl⟩
          obtain ⟨ru, hru⟩ : ∃ x, x = R (t + 1) := ⟨_, rfl⟩
          rw [← hct] at qc r0 r1 hc16
          rw [← hrt] at q0 r0 r1
          rw [← hru] at q1 r1
          clear hct hrt hru
          by_cases h : rt < ct
          · obtain rfl := r1 h
            have e0 : decide ((ct : Int) < (rt : Int)) = false := decide_eq_false (by omega)
            have e0' : decide (ct < rt) = false := decide_eq_false (by omega)
            have e1 : decide (rt < ct) = true := decide_eq_true h
            clear r1
            go_wp2_with fail
            go_quiet (fail)
            go_wp2_with fail
            go_roundw
            case rel => exact ⟨t + 1, by omega, by go_num, (by repeat' (first | (with_reducible exact Ext.refl _) | (with_reducible assumption) | (with_reducible refine Ext.alloc ?_ _) | (with_reducible refine Ext.drewN ?_ _) | (with_reducible refine Ext.drew ?_) | (with_reducible refine Ext.trans ?_ (by assumption))))⟩
            case measure => simp [intOf]; omega
          · have e0' : decide (ct < rt) = false := decide_eq_false (by omega)
            have e1 : decide (rt < ct) = false := decide_eq_false h
            clear r1
            go_wp2_with fail
            go_quiet (fail)
            go_wp2_with fail
            go_roundw
            case rel => exact ⟨t + 1, by omega, by go_num, (by repeat' (first | (with_reducible exact Ext.refl _) | (with_reducible assumption) | (with_reducible refine Ext.alloc ?_ _) | (with_reducible refine Ext.drewN ?_ _) | (with_reducible refine Ext.drew ?_) | (with_reducible refine Ext.trans ?_ (by assumption))))⟩
            case measure => simp [intOf]; omega
        · obtain rfl : t = 3 := by omega
          go_wp2_with fail
          go_ret
          exact ⟨rfl, hxr.trans hxs⟩
    --]]
end Go.Proofs.Ytepnmclgkbphmaa
