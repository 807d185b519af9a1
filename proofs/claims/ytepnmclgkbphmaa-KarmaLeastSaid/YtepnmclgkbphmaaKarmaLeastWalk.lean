/-
  gradinelaw14.KarmaLeast answers true. No condition.
-/
import Derived.Test.YtepnmclgkbphmaaKLeast3
import Derived.Test.YtepnmclgkbphmaaKIn
import Derived.Test.YtepnmclgkbphmaaKWakes
import Derived.Test.YtepnmclgkbphmaaArr
namespace Go.Proofs.Ytepnmclgkbphmaa
open Go.RowKit

/-- the costs, summed up -/
def csA (A : Nat → Int) (t : Nat) : Nat := sumN (fun i => (A i).toNat) (t + 1)
theorem csA_succ (A : Nat → Int) (t : Nat) : csA A (t + 1) = csA A t + (A (t + 1)).toNat := rfl
theorem csA_le (A : Nat → Int) (h : ∀ i, i < 4 → 0 ≤ A i ∧ A i ≤ 255) {t : Nat} (ht : t < 4) : csA A t ≤ 1020 := by
  have : ∀ k, k ≤ 4 → sumN (fun i => (A i).toNat) k ≤ k * 255 := fun k hk => sumN_le 255 k (fun u hu => by have := h u (by omega); show (A u).toNat ≤ 255; omega)
  have := this (t + 1) (by omega)
  unfold csA; omega
theorem csA_mono (A : Nat → Int) (t : Nat) : csA A t ≤ csA A (t + 1) := by rw [csA_succ]; omega
/-- the document's least is the plan's -/
theorem least_top {n : Nat} {F : Nat → Nat → Int} {cc : Nat → Nat} {M : List Nat} {m : Int} {b V : Nat} {C : Nat → Nat} (ok : HsOk n F m) (h : Ord (kT n F) (kB n F) n M) (hc : CapsOk cc) (hb : ∀ i, i < n → kS F i ∣ b)
    (h0 : C 0 ≤ C 1) (h1 : C 1 ≤ C 2) (h2 : C 2 ≤ C 3) (hV : MinV n (fun j => kS F (0 + j)) (fun j => unitC b F (0 + j)) C cc V) : topC b F (PR F cc M) C n = V := by
  have e1 : (fun j => kS F (0 + j)) = kS F := by funext j; rw [Nat.zero_add]
  have e2 : (fun j => unitC b F (0 + j)) = unitC b F := by funext j; rw [Nat.zero_add]
  rw [e1, e2] at hV
  obtain ⟨⟨x, hx, rfl⟩, hmin⟩ := hV
  have a1 := pr_least ok h hc hb hx h0 h1 h2
  have a2 := hmin _ (pr_way (c := cc) h)
  unfold topC at a1 ⊢
  omega
theorem IRow.congr' {w : World} {g m : Nat} {V V' : Nat → Int} (h : IRow w g m V) (e : ∀ j, j < m → V' j = V j) : IRow w g m V' := h.congr e

set_option maxRecDepth 100000 in
set_option maxHeartbeats 16000000 in
theorem walk_KarmaLeast (v0 v1 : Value) (w : World) (h0 : IsFlat Try.prog 25 w v0) (h1 : IsArr .u8 4 v1) :
    Calls Try.prog 8 #[v0, v1] w fun e w' => e = .returned (.bool true) ∧ Ext w w' := by
  obtain ⟨hv, n, F, L, bl, k0, k1, k2, rfl, hr, hwf, _⟩ := lay_of h0
  obtain ⟨A, rfl, hA⟩ := h1
  have HRD := Lib.hid hr
  have HWF := Lib.hid hwf
  have HA : Hid (∀ i, i < 4 → 0 ≤ A i ∧ A i ≤ 255) := Lib.hid (fun i hi => u8_bd (hA i hi))
  obtain ⟨a, c, rfl, hnc, hcm, _, hcs⟩ := hr
  have HCS := Lib.hid hcs
  have hn63 : (n : Int) ≤ 9223372036854775807 := by unfold maxLen at hcm; omega
  clear h0 hwf hcm hnc hcs hA
  have eA : (Value.agg ((List.range 4).map (fun i => Value.int .u8 (A i))).toArray) = .agg #[.int .u8 (A 0), .int .u8 (A 1), .int .u8 (A 2), .int .u8 (A 3)] := rfl
  rw [eA]
  clear eA
  go_enter Try.func8, Try.ntmps8
  go_upto_region 1 with fail
  have hx0 : Ext w (w.alloc (.cells #[.slice a n c, .int .i64 bl, .int .i64 k0, .int .i64 k1, .int .i64 k2] 25)) := (Ext.refl w).alloc _
  have y0 := cell_new w #[.slice a n c, .int .i64 bl, .int .i64 k0, .int .i64 k1, .int .i64 k2] 25 (0, 0) (j := 0) rfl
  have y1 := cell_new w #[.slice a n c, .int .i64 bl, .int .i64 k0, .int .i64 k1, .int .i64 k2] 25 (0, 0) (j := 1) rfl
  have y2 := cell_new w #[.slice a n c, .int .i64 bl, .int .i64 k0, .int .i64 k1, .int .i64 k2] 25 (0, 0) (j := 2) rfl
  have y3 := cell_new w #[.slice a n c, .int .i64 bl, .int .i64 k0, .int .i64 k1, .int .i64 k2] 25 (0, 0) (j := 3) rfl
  have y4 := cell_new w #[.slice a n c, .int .i64 bl, .int .i64 k0, .int .i64 k1, .int .i64 k2] 25 (0, 0) (j := 4) rfl
  have hsz : (w.alloc (.cells #[.slice a n c, .int .i64 bl, .int .i64 k0, .int .i64 k1, .int .i64 k2] 25)).heap.size = w.heap.size + 1 := by simp
  generalize (w.alloc (.cells #[.slice a n c, .int .i64 bl, .int .i64 k0, .int .i64 k1, .int .i64 k2] 25)) = w00 at *
  have hx00 : Ext w00 (w00.alloc (.cells #[.int .u8 (A 0), .int .u8 (A 1), .int .u8 (A 2), .int .u8 (A 3)] 52)) := (Ext.refl w00).alloc _
  have ya : ∀ t, t < 4 → (w00.alloc (.cells #[.int .u8 (A 0), .int .u8 (A 1), .int .u8 (A 2), .int .u8 (A 3)] 52)).cell? ⟨w00.heap.size, t, none⟩ = some (.int .u8 (A t)) := by
    intro t ht
    refine cell_new w00 #[.int .u8 (A 0), .int .u8 (A 1), .int .u8 (A 2), .int .u8 (A 3)] 52 (0, 0) (j := t) ?_
    have : t = 0 ∨ t = 1 ∨ t = 2 ∨ t = 3 := by omega
    rcases this with rfl | rfl | rfl | rfl <;> rfl
  have y0 := hx00.cellv y0
  have y1 := hx00.cellv y1
  have y2 := hx00.cellv y2
  have y3 := hx00.cellv y3
  have y4 := hx00.cellv y4
  have hx0 := hx0.trans hx00
  rw [hsz] at ya
  clear hx00 hsz
  generalize (w00.alloc (.cells #[.int .u8 (A 0), .int .u8 (A 1), .int .u8 (A 2), .int .u8 (A 3)] 52)) = w0 at *
  obtain ⟨pb, hpb⟩ : ∃ pb, pb = w.heap.size := ⟨_, rfl⟩
  rw [← hpb] at y0 y1 y2 y3 y4 ya ⊢
  clear hpb
  have HYA := Lib.hid ya
  clear ya
  go_wp2_with fail
  refine (wakes14 _).mono ?_
  rintro e w2 ⟨rfl, hx1⟩
  have hX2 := hx0.trans hx1
  have HYA2 : Hid (∀ t, t < 4 → w2.cell? ⟨pb + 1, t, none⟩ = some (.int .u8 (A t))) := Lib.hid (fun t ht => hx1.cellv (HYA.out t ht))
  have y0 := hx1.cellv y0
  have y1 := hx1.cellv y1
  have y2 := hx1.cellv y2
  have y3 := hx1.cellv y3
  have y4 := hx1.cellv y4
  clear hx0 hx1 HYA
  by_cases hl : 3 < n
  · have hli : (n : Int) > 3 := by omega
    go_wp2_with fail
    go_ret
    exact ⟨rfl, (by repeat' (first | (with_reducible exact Ext.refl _) | (with_reducible assumption) | (with_reducible refine Ext.alloc ?_ _) | (with_reducible refine Ext.drewN ?_ _) | (with_reducible refine Ext.drew ?_) | (with_reducible refine Ext.trans ?_ (by assumption))))⟩
  have hli : ¬ (n : Int) > 3 := by omega
  have hlp : n ≤ 3 := by omega
  clear hl
  by_cases hK : (1 ≤ k0 ∧ k0 ≤ 16) ∧ (1 ≤ k1 ∧ k1 ≤ 16) ∧ (1 ≤ k2 ∧ k2 ≤ 16)
  case neg =>
    have HN := Lib.hid (fun w' => (knew_caps (.slice a n c) bl w' (fun t => if t = 0 then k0 else if t = 1 then k1 else k2) (fun h => hK ⟨h 0 (by omega), h 1 (by omega), h 2 (by omega)⟩) : Calls Try.prog 12 #[.slice a n c, .int .i64 bl, .agg #[.int .i64 k0, .int .i64 k1, .int .i64 k2]] w' _))
    clear hK
    go_wp2_with fail
    refine (HN.out _).mono ?_
    rintro e w3 ⟨rfl, hx3⟩
    go_wp2_with fail
    go_ret
    exact ⟨rfl, (by repeat' (first | (with_reducible exact Ext.refl _) | (with_reducible assumption) | (with_reducible refine Ext.alloc ?_ _) | (with_reducible refine Ext.drewN ?_ _) | (with_reducible refine Ext.drew ?_) | (with_reducible refine Ext.trans ?_ (by assumption))))⟩
  by_cases hb : 1 ≤ bl ∧ bl ≤ 32
  case neg =>
    have HN := Lib.hid (fun w' => knew_blocks (.slice a n c) bl w' k0 k1 k2 hK hb)
    clear hK hb
    go_wp2_with fail
    refine (HN.out _).mono ?_
    rintro e w3 ⟨rfl, hx3⟩
    go_wp2_with fail
    go_ret
    exact ⟨rfl, (by repeat' (first | (with_reducible exact Ext.refl _) | (with_reducible assumption) | (with_reducible refine Ext.alloc ?_ _) | (with_reducible refine Ext.drewN ?_ _) | (with_reducible refine Ext.drew ?_) | (with_reducible refine Ext.trans ?_ (by assumption))))⟩
  obtain ⟨cc, hcc, e0, e1, e2⟩ : ∃ cc : Nat → Nat, CapsOk cc ∧ k0 = (cc 0 : Nat) ∧ k1 = (cc 1 : Nat) ∧ k2 = (cc 2 : Nat) := caps_nat hK
  subst e0 e1 e2
  clear hK
  by_cases hok : HsOk n F bl
  case neg =>
    have HN := Lib.hid (fun w' (hx : Ext w w') => knew_hints (.slice a n c) n F L bl w' (HRD.out.ext hx) (by omega) HWF.out cc hcc hb hok)
    clear hok hb
    go_wp2_with fail
    refine (HN.out _ hX2).mono ?_
    rintro e w3 ⟨rfl, hx3⟩
    go_wp2_with fail
    go_ret
    exact ⟨rfl, (by repeat' (first | (with_reducible exact Ext.refl _) | (with_reducible assumption) | (with_reducible refine Ext.alloc ?_ _) | (with_reducible refine Ext.drewN ?_ _) | (with_reducible refine Ext.drew ?_) | (with_reducible refine Ext.trans ?_ (by assumption))))⟩
  have HN := Lib.hid (knew_ok (.slice a n c) n F L bl w2 (HRD.out.ext hX2) (by omega) HWF.out cc hcc hb hok)
  have HOK := Lib.hid hok
  have HCC := Lib.hid hcc
  have hok32 : HsOk n F 32 := ⟨fun i hi => by
    obtain ⟨g0, g1, g2, g3, g4, g5, g6⟩ := hok.1 i hi
    exact ⟨g0, g1, by omega, by omega, g4, g5, g6⟩, hok.2⟩
  have HOK32 := Lib.hid hok32
  clear hok hb hcc hok32
  obtain ⟨q0, hq0⟩ : ∃ q : Int, q = (cc 0 : Nat) := ⟨_, rfl⟩
  obtain ⟨q1, hq1⟩ : ∃ q : Int, q = (cc 1 : Nat) := ⟨_, rfl⟩
  obtain ⟨q2, hq2⟩ : ∃ q : Int, q = (cc 2 : Nat) := ⟨_, rfl⟩
  have HQ0 := Lib.hid hq0
  have HQ1 := Lib.hid hq1
  have HQ2 := Lib.hid hq2
  rw [← hq0, ← hq1, ← hq2] at HN
  rw [← hq0] at y2 ⊢
  rw [← hq1] at y3 ⊢
  rw [← hq2] at y4 ⊢
  clear hq0 hq1 hq2
  go_wp2_with fail
  refine HN.out.mono ?_
  rintro e w3 ⟨p, M, rfl, hwp, hpl, hx3⟩
  have HPL := Lib.hid hpl
  have hX3 := hX2.trans hx3
  have y0 := hx3.cellv y0
  have y1 := hx3.cellv y1
  have y2 := hx3.cellv y2
  have y3 := hx3.cellv y3
  have y4 := hx3.cellv y4
  have HYA3 : Hid (∀ t, t < 4 → w3.cell? ⟨pb + 1, t, none⟩ = some (.int .u8 (A t))) := Lib.hid (fun t ht => hx3.cellv (HYA2.out t ht))
  clear hpl HN hX2 hwp hx3 HYA2
  go_upto_region 9 with fail
  have hxc : Ext w3 (w3.alloc (.cells #[.int .i64 0, .int .i64 0, .int .i64 0, .int .i64 0] 40)) := (Ext.refl w3).alloc _
  have hrow : IRow (w3.alloc (.cells #[.int .i64 0, .int .i64 0, .int .i64 0, .int .i64 0] 40)) w3.heap.size 4 (fun j => if j < 0 then (csA A j : Nat) else 0) := ⟨_, _, heap_alloc_new w3 _, fun t ht => by
    have : t = 0 ∨ t = 1 ∨ t = 2 ∨ t = 3 := by omega
    rcases this with rfl | rfl | rfl | rfl <;> rfl⟩
  generalize (w3.alloc (.cells #[.int .i64 0, .int .i64 0, .int .i64 0, .int .i64 0] 40)) = w4 at *
  obtain ⟨pc, hpc⟩ : ∃ pc, pc = w3.heap.size := ⟨_, rfl⟩
  rw [← hpc] at hrow ⊢
  have HPC : Hid (w3.heap.size ≤ pc) := Lib.hid (by omega)
  clear hpc
  go_wp2_with fail
  go_loopw [8, 34] (fun _ ci wr => ∃ i : Nat, i ≤ 4 ∧ ci = .int .i64 i ∧ IRow wr pc 4 (fun j => if j < i then (csA A j : Nat) else 0) ∧ Ext w3 wr) (fun _ ci _ => 4 - (intOf ci).toNat)
  case atStart => exact ⟨0, by omega, rfl, hrow, hxc⟩
  case round =>
    clear hrow hxc
    obtain ⟨i, hi, rfl, hrow, hx⟩ := hrel
    by_cases h4 : i < 4
    case pos =>
      --[[A
      have ya := hx.cellv (HYA3.out i h4)
      obtain ⟨A0, A1⟩ := HA.out i h4
      have hii : (i : Int) < 4 := by omega
      have hfr := hrow.free i
      obtain ⟨ov, hov⟩ : ∃ v, wr.cell? ⟨pc, i, none⟩ = some v := ⟨_, hrow.cell h4⟩
      obtain ⟨x, hxe⟩ : ∃ x, x = A i := ⟨_, rfl⟩
      have HXE := Lib.hid hxe
      rw [← hxe] at ya A0 A1
      have hR := Lib.hid hrow
      clear hxe hrow y0 y1 y2 y3 y4
      go_upto_region 13 with fail
      have hrow2 : IRow (wr.setCell ⟨pc, i, none⟩ (.int .i64 x)) pc 4 (fun j => if j = i then x else if j < i then (csA A j : Nat) else 0) := hR.out.set h4 _ (fun _ _ => rfl)
      have hx2 : Ext w3 (wr.setCell ⟨pc, i, none⟩ (.int .i64 x)) := Below.setCell hx (p := ⟨pc, i, none⟩) HPC.out _
      generalize wr.setCell ⟨pc, i, none⟩ (.int .i64 x) = w5 at *
      clear hR hov hfr ya
      cases i with
      | zero =>
        have hR : Hid (IRow w5 pc 4 (fun j => if j < 0 + 1 then (csA A j : Nat) else 0)) := Lib.hid (hrow2.congr' (fun j hj => by
          by_cases e : j = 0
          · subst e
            rw [if_pos rfl, if_pos (by omega), HXE.out]
            have := HXE.out
            simp [csA, sumN]; omega
          · rw [if_neg e, if_neg (by omega), if_neg (by omega)]))
        clear hrow2
        go_wp2_with fail
        go_roundw
        case rel => exact ⟨0 + 1, by omega, by go_num, hR.out, hx2⟩
        case measure => simp [intOf]
      | succ i' =>
        have c1 : w5.cell? ⟨pc, i' + 1, none⟩ = some (.int .i64 x) := by have := hrow2.cell h4; simpa using this
        have c0 : w5.cell? ⟨pc, i', none⟩ = some (.int .i64 (csA A i' : Nat)) := by
          have := hrow2.cell (j := i') (by omega)
          rwa [if_neg (by omega), if_pos (by omega)] at this
        have hle := csA_le A HA.out (t := i') (by omega)
        have hfr := hrow2.free (i' + 1)
        have hR : Hid (∀ y : Int, y = x + (csA A i' : Nat) → IRow (w5.setCell ⟨pc, i' + 1, none⟩ (.int .i64 y)) pc 4 (fun j => if j < i' + 1 + 1 then (csA A j : Nat) else 0)) := Lib.hid (fun y hy => hrow2.set h4 y (fun j hj => by
          by_cases e : j = i' + 1
          · subst e
            rw [if_pos (by omega), if_pos rfl, hy, csA_succ, HXE.out]
            have := HXE.out
            omega
          · rw [if_neg e, if_neg e]
            by_cases e2 : j < i' + 1
            · rw [if_pos e2, if_pos (by omega)]
            · rw [if_neg e2, if_neg (by omega)]))
        have hx3 : Hid (∀ y : Value, Ext w3 (w5.setCell ⟨pc, i' + 1, none⟩ y)) := Lib.hid (fun y => Below.setCell hx2 (p := ⟨pc, i' + 1, none⟩) HPC.out _)
        obtain ⟨q, hq⟩ : ∃ q, q = csA A i' := ⟨_, rfl⟩
        rw [← hq] at hle c0 hR
        have hii1 : (i' : Int) < 4 := by omega
        have hi3 : (i' : Int) + 1 < 4 := by omega
        clear hrow2 hq
        go_wp2_with fail
        go_region
        go_wp2_with fail
        go_roundw
        case rel => exact ⟨i' + 1 + 1, by omega, by go_num, (hR.out _ rfl).ext ((Ext.refl _).drew), (hx3.out _).drew⟩
        case measure => simp [intOf]; omega
      --]]
    have hi4 : i = 4 := by omega
    subst hi4
    --[[B
    obtain ⟨C, hC⟩ : ∃ C : Nat → Nat, C = csA A := ⟨_, rfl⟩
    have HROW : Hid (IRow wr pc 4 (fun j => ((C j : Nat) : Int))) := Lib.hid (hrow.congr' (fun j hj => by rw [if_pos hj, hC]))
    have HC : Hid (∀ t, t < 4 → C t ≤ 1020) := Lib.hid (fun t ht => by rw [hC]; exact csA_le A HA.out ht)
    have HM : Hid (C 0 ≤ C 1 ∧ C 1 ≤ C 2 ∧ C 2 ≤ C 3) := Lib.hid (by rw [hC]; exact ⟨csA_mono A 0, csA_mono A 1, csA_mono A 2⟩)
    have y0 := hx.cellv y0
    have y1 := hx.cellv y1
    have y2 := hx.cellv y2
    have y3 := hx.cellv y3
    have y4 := hx.cellv y4
    have HPL4 := Lib.hid (HPL.out.ext hx)
    have hX4 := hX3.trans hx
    clear hrow hC hx hX3 HA HYA3 HPC
    obtain ⟨w5, rfl⟩ : ∃ w5 : World, w5 = wr := ⟨_, rfl⟩
    go_wp2_with fail
    go_loopw [10, 58] (fun _ ck ws => ∃ k : Nat, k ≤ n ∧ ck = .int .i64 k ∧ Hid (∀ j, j < k → F j 2 ≤ 100000) ∧ Ext w5 ws) (fun _ ck _ => n - (intOf ck).toNat)
    case atStart => exact ⟨0, Nat.zero_le _, rfl, Lib.hid (fun j hj => absurd hj (by omega)), Ext.refl _⟩
    case round =>
      obtain ⟨k, hk, rfl, HOF, hxs⟩ := hrel
      have hXs := hX4.trans hxs
      by_cases hltk : k < n
      case pos =>
        --[[C
        have hkk : (k : Int) < (n : Int) := by omega
        obtain ⟨bb, o, rfl, hbb, hcell⟩ := HCS.out (by omega)
        have s0 := (hXs.cell hbb).trans (hcell k 0 hltk (by omega))
        have s1 := (hXs.cell hbb).trans (hcell k 1 hltk (by omega))
        have s2 := (hXs.cell hbb).trans (hcell k 2 hltk (by omega))
        have s3 := (hXs.cell hbb).trans (hcell k 3 hltk (by omega))
        simp only [Proofs.Ytepnmclgkbphmaa.HV, ← Nat.add_assoc, Nat.add_zero, if_pos (show (0 : Nat) < 3 by omega), if_pos (show (1 : Nat) < 3 by omega), if_pos (show (2 : Nat) < 3 by omega), if_neg (show ¬ (3 : Nat) < 3 by omega)] at s0 s1 s2 s3
        obtain ⟨x0, hx0⟩ : ∃ x, F k 0 = x := ⟨_, rfl⟩
        obtain ⟨x1, hx1⟩ : ∃ x, F k 1 = x := ⟨_, rfl⟩
        obtain ⟨x2, hx2⟩ : ∃ x, F k 2 = x := ⟨_, rfl⟩
        obtain ⟨lp, hlp⟩ : ∃ x, L k = x := ⟨_, rfl⟩
        rw [hx0] at s0
        rw [hx1] at s1
        rw [hx2] at s2
        rw [hlp] at s3
        have HX2 := Lib.hid hx2
        clear hcell hx0 hx1 hx2 hlp y0 y1 y2 y3 y4
        go_upto_region 19 with fail
        have ka := cell_new wr #[.int .i64 x0, .int .i64 x1, .int .i64 x2, .bool lp] 44 (0, 0) (j := 1) rfl
        have kb := cell_new wr #[.int .i64 x0, .int .i64 x1, .int .i64 x2, .bool lp] 44 (0, 0) (j := 2) rfl
        have hx9 : Ext wr (wr.alloc (.cells #[.int .i64 x0, .int .i64 x1, .int .i64 x2, .bool lp] 44)) := (Ext.refl wr).alloc _
        generalize (wr.alloc (.cells #[.int .i64 x0, .int .i64 x1, .int .i64 x2, .bool lp] 44)) = w9 at *
        obtain ⟨px, hpx⟩ : ∃ px, px = wr.heap.size := ⟨_, rfl⟩
        rw [← hpx] at ka kb ⊢
        clear hpx s0 s1 s2 s3
        by_cases hb5 : 5 < x1
        · go_wp2_with fail
          go_ret
          exact ⟨rfl, hXs.trans hx9⟩
        by_cases hbig : 100000 < x2
        · go_wp2_with fail
          go_ret
          exact ⟨rfl, hXs.trans hx9⟩
        have HOF2 : Hid (∀ j, j < k + 1 → F j 2 ≤ 100000) := Lib.hid (fun j hj => by
          by_cases e : j = k
          · subst e; rw [HX2.out]; omega
          · exact HOF.out j (by omega))
        go_wp2_with fail
        go_roundw
        case rel => exact ⟨k + 1, by omega, by go_num, HOF2, hxs.trans hx9⟩
        case measure => simp [intOf]; omega
        --]]
      have hkn : k = n := by omega
      subst hkn
      --[[D
      have y0 := hxs.cellv y0
      have y1 := hxs.cellv y1
      have y2 := hxs.cellv y2
      have y3 := hxs.cellv y3
      have y4 := hxs.cellv y4
      have hrw := HROW.out.ext hxs
      have c0 := hrw.cell (show 0 < 4 by omega)
      have c1 := hrw.cell (show 1 < 4 by omega)
      have c2 := hrw.cell (show 2 < 4 by omega)
      have c3 := hrw.cell (show 3 < 4 by omega)
      have hCt0 := HC.out 0 (by omega)
      have hCt1 := HC.out 1 (by omega)
      have hCt2 := HC.out 2 (by omega)
      have hCt3 := HC.out 3 (by omega)
      have HPL5 := Lib.hid (HPL4.out.ext hxs)
      obtain ⟨res, hres⟩ := costRes_ex k F k (fun i t => ((PR F cc M i t : Nat) : Int)) (fun t => ((C t : Nat) : Int))
      have hPR : ∀ i, i < k → ¬ Bad 32 (fun t => ((PR F cc M i t : Nat) : Int)) := by
        intro i hi ⟨x, hx, hb⟩
        have := pr_all (c := cc) HPL.out.ord hi
        have := (kS_le HOK32.out hi).2
        simp only [List.mem_cons, List.not_mem_nil, or_false] at hx
        rcases hx with rfl | rfl | rfl | rfl <;> omega
      have hBad : Bad 1000 (fun t => ((C t : Nat) : Int)) ↔ 1000 < C 3 := by
        obtain ⟨m0, m1, m2⟩ := HM.out
        constructor
        · rintro ⟨x, hx, hb⟩
          simp only [List.mem_cons, List.not_mem_nil, or_false] at hx
          rcases hx with rfl | rfl | rfl | rfl <;> omega
        · intro h
          exact ⟨((C 3 : Nat) : Int), by simp, .inr (by omega)⟩
      have HKC := Lib.hid (fun w' v' (hx : Ext w w') (h : RdV 4 w' v' k (PV F cc M)) => (kcost (.slice a k c) k F L v' k (fun i t => ((PR F cc M i t : Nat) : Int)) (fun t => ((C t : Nat) : Int)) w' (HRD.out.ext hx) (by omega) HWF.out h (by omega) res hres : Calls Try.prog 23 #[.slice a k c, v', .agg #[.int .i64 (C 0 : Nat), .int .i64 (C 1 : Nat), .int .i64 (C 2 : Nat), .int .i64 (C 3 : Nat)]] w' _))
      have HB9 := lcmK_le HOK32.out (k := k) (Nat.le_refl _)
      have HRC := Lib.hid (fun w' (hx : Ext w w') => rcommon (.slice a k c) k F L 32 w' (HRD.out.ext hx) HOK32.out)
      have HRL := Lib.hid (fun w' (hx : Ext w w') => (rleast (.slice a k c) k F L 32 C (lcmK F k) w HRD.out HOK32.out HOF.out (fun t ht => HC.out t ht) (by omega) k 0 (by omega) cc (fun t => HCC.out.1 t) w' hx : Calls Try.prog 25 #[.slice a k c, .int .i64 0, .agg #[.int .i64 (cc 0 : Nat), .int .i64 (cc 1 : Nat), .int .i64 (cc 2 : Nat)], .agg #[.int .i64 (C 0 : Nat), .int .i64 (C 1 : Nat), .int .i64 (C 2 : Nat), .int .i64 (C 3 : Nat)], .int .i64 (lcmK F k : Nat)] w' _))
      rw [← HQ0.out, ← HQ1.out, ← HQ2.out] at HRL
      obtain ⟨r1, r2, r3⟩ := res
      have HRES := Lib.hid hres
      have HPR := Lib.hid hPR
      have HBAD := Lib.hid hBad
      have hTV : Hid (∀ V, MinV k (fun j => kS F (0 + j)) (fun j => unitC (lcmK F k) F (0 + j)) C cc V → topC (lcmK F k) F (PR F cc M) C k = V) := Lib.hid (fun V hV => least_top HOK32.out HPL.out.ord HCC.out (fun i hi => lcmK_dvd F k i hi) HM.out.1 HM.out.2.1 HM.out.2.2 hV)
      obtain ⟨B, hBe⟩ : ∃ B, B = lcmK F k := ⟨_, rfl⟩
      have HBE := Lib.hid hBe
      rw [← hBe] at HRC HRL HB9 hTV
      have HKP := Lib.hid (kparts p bl cc k F L M)
      have hPRn : (fun (i t : Nat) => (((PR F cc M i t : Nat) : Int)).toNat) = PR F cc M := by funext i t; simp
      have hCn : (fun t => (((C t : Nat) : Int)).toNat) = C := by funext t; simp
      have HPRN := Lib.hid hPRn
      have HCN := Lib.hid hCn
      clear hres hPR hBad hBe hPRn hCn hrw HM
      obtain ⟨g0, hg0⟩ : ∃ x, x = C 0 := ⟨_, rfl⟩
      obtain ⟨g1, hg1⟩ : ∃ x, x = C 1 := ⟨_, rfl⟩
      obtain ⟨g2, hg2⟩ : ∃ x, x = C 2 := ⟨_, rfl⟩
      obtain ⟨g3, hg3⟩ : ∃ x, x = C 3 := ⟨_, rfl⟩
      rw [← hg0] at c0 hCt0 HKC HRL
      rw [← hg1] at c1 hCt1 HKC HRL
      rw [← hg2] at c2 hCt2 HKC HRL
      rw [← hg3] at c3 hCt3 HKC HRL HBAD
      clear hg0 hg1 hg2 hg3 hxs
      go_wp2_with fail
      obtain ⟨w6, rfl⟩ : ∃ w6 : World, w6 = wr := ⟨_, rfl⟩
      go_region_held3 (fun w' => w'.cell? ⟨pb, 0, none⟩ = some (.slice a k c) ∧ w'.cell? ⟨pc, 0, none⟩ = some (.int .i64 (g0 : Nat)) ∧ w'.cell? ⟨pc, 1, none⟩ = some (.int .i64 (g1 : Nat)) ∧ w'.cell? ⟨pc, 2, none⟩ = some (.int .i64 (g2 : Nat)) ∧ w'.cell? ⟨pc, 3, none⟩ = some (.int .i64 (g3 : Nat)) ∧ Ext w6 w') (exact ⟨Ext.cellv (w := w6) (by repeat' (first | (with_reducible exact Ext.refl _) | (with_reducible assumption) | (with_reducible refine Ext.alloc ?_ _) | (with_reducible refine Ext.drewN ?_ _) | (with_reducible refine Ext.drew ?_) | (with_reducible refine Ext.trans ?_ (by assumption)))) y0, Ext.cellv (w := w6) (by repeat' (first | (with_reducible exact Ext.refl _) | (with_reducible assumption) | (with_reducible refine Ext.alloc ?_ _) | (with_reducible refine Ext.drewN ?_ _) | (with_reducible refine Ext.drew ?_) | (with_reducible refine Ext.trans ?_ (by assumption)))) c0, Ext.cellv (w := w6) (by repeat' (first | (with_reducible exact Ext.refl _) | (with_reducible assumption) | (with_reducible refine Ext.alloc ?_ _) | (with_reducible refine Ext.drewN ?_ _) | (with_reducible refine Ext.drew ?_) | (with_reducible refine Ext.trans ?_ (by assumption)))) c1, Ext.cellv (w := w6) (by repeat' (first | (with_reducible exact Ext.refl _) | (with_reducible assumption) | (with_reducible refine Ext.alloc ?_ _) | (with_reducible refine Ext.drewN ?_ _) | (with_reducible refine Ext.drew ?_) | (with_reducible refine Ext.trans ?_ (by assumption)))) c2, Ext.cellv (w := w6) (by repeat' (first | (with_reducible exact Ext.refl _) | (with_reducible assumption) | (with_reducible refine Ext.alloc ?_ _) | (with_reducible refine Ext.drewN ?_ _) | (with_reducible refine Ext.drew ?_) | (with_reducible refine Ext.trans ?_ (by assumption)))) c3, (by repeat' (first | (with_reducible exact Ext.refl _) | (with_reducible assumption) | (with_reducible refine Ext.alloc ?_ _) | (with_reducible refine Ext.drewN ?_ _) | (with_reducible refine Ext.drew ?_) | (with_reducible refine Ext.trans ?_ (by assumption))))⟩) (first | (go_at_call 16; refine (HKP.out _ (PlAt.ext HPL5.out (by repeat' (first | (with_reducible exact Ext.refl _) | (with_reducible assumption) | (with_reducible refine Ext.alloc ?_ _) | (with_reducible refine Ext.drewN ?_ _) | (with_reducible refine Ext.drew ?_) | (with_reducible refine Ext.trans ?_ (by assumption)))))).mono ?_; rintro e wP ⟨vP, rfl, hpP, _, hxP⟩; have HPV := Lib.hid hpP; clear hpP) | (go_at_call 23; refine (HKC.out _ vP (hXs.trans (Ext.trans (show Ext w6 wP from (by repeat' (first | (with_reducible exact Ext.refl _) | (with_reducible assumption) | (with_reducible refine Ext.alloc ?_ _) | (with_reducible refine Ext.drewN ?_ _) | (with_reducible refine Ext.drew ?_) | (with_reducible refine Ext.trans ?_ (by assumption))))) (by repeat' (first | (with_reducible exact Ext.refl _) | (with_reducible assumption) | (with_reducible refine Ext.alloc ?_ _) | (with_reducible refine Ext.drewN ?_ _) | (with_reducible refine Ext.drew ?_) | (with_reducible refine Ext.trans ?_ (by assumption)))))) (RdV.ext HPV.out (by repeat' (first | (with_reducible exact Ext.refl _) | (with_reducible assumption) | (with_reducible refine Ext.alloc ?_ _) | (with_reducible refine Ext.drewN ?_ _) | (with_reducible refine Ext.drew ?_) | (with_reducible refine Ext.trans ?_ (by assumption)))))).mono ?_; rintro e wC ⟨rfl, hxC⟩))
      all_goals
        have hx6C : Ext w6 wC := (by repeat' (first | (with_reducible exact Ext.refl _) | (with_reducible assumption) | (with_reducible refine Ext.alloc ?_ _) | (with_reducible refine Ext.drewN ?_ _) | (with_reducible refine Ext.drew ?_) | (with_reducible refine Ext.trans ?_ (by assumption))))
        have hXC := hXs.trans hx6C
        have u0 := hx6C.cellv y0
        have u2 := hx6C.cellv y2
        have u3 := hx6C.cellv y3
        have u4 := hx6C.cellv y4
        have d0 := hx6C.cellv c0
        have d1 := hx6C.cellv c1
        have d2 := hx6C.cellv c2
        have d3 := hx6C.cellv c3
        clear y0 y1 y2 y3 y4 c0 c1 c2 c3 hxP hxC hx6C HPV
        by_cases hbig : 1000 < g3
        · have hre := HRES.out.arg HOK32.out (.inr (.inl (HBAD.out.2 hbig)))
          obtain ⟨rfl, rfl, rfl⟩ : r1 = 0 ∧ r2 = 0 ∧ r3 = 6 := by simpa using hre
          have hbi : (1000 : Int) < (g3 : Int) := by omega
          clear HRES hre
          go_wp2_with fail
          go_ret
          exact ⟨rfl, hXC⟩
        · have hre := HRES.out.ok HOK32.out rfl (fun h => hbig (HBAD.out.1 h)) HPR.out HOF.out
          rw [HPRN.out, HCN.out, ← HBE.out] at hre
          obtain ⟨T, hT⟩ : ∃ T, T = topC B F (PR F cc M) C k := ⟨_, rfl⟩
          rw [← hT] at hre
          have HTV : Hid (∀ V, MinV k (fun j => kS F (0 + j)) (fun j => unitC B F (0 + j)) C cc V → T = V) := Lib.hid (by rw [hT]; exact hTV.out)
          obtain ⟨rfl, rfl, rfl⟩ : r1 = (T : Nat) ∧ r2 = (B : Nat) ∧ r3 = 0 := by simpa using hre
          have hbi : ¬ (1000 : Int) < (g3 : Int) := by omega
          clear HRES hre hT hTV
          go_wp2_with fail
          refine (HRC.out _ hXC).mono ?_
          rintro e wA ⟨rfl, hxA⟩
          have u0 := hxA.cellv u0
          have u2 := hxA.cellv u2
          have u3 := hxA.cellv u3
          have u4 := hxA.cellv u4
          have d0 := hxA.cellv d0
          have d1 := hxA.cellv d1
          have d2 := hxA.cellv d2
          have d3 := hxA.cellv d3
          go_wp2_with fail
          refine (HRL.out _ (hXC.trans hxA)).mono ?_
          rintro e wB ⟨V, rfl, hV, hxB⟩
          obtain rfl := HTV.out V hV
          clear hV
          go_wp2_with fail
          go_ret
          exact ⟨rfl, hXC.trans (hxA.trans hxB)⟩
      --]]
    --]]
end Go.Proofs.Ytepnmclgkbphmaa
