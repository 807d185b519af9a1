/-
  karma.Cost. No condition but that the hints and the parts read.
-/
import Derived.Test.YtepnmclgkbphmaaKCost
namespace Go.Proofs.Ytepnmclgkbphmaa
open Go.RowKit

/-- a row with a number that may not be -/
def Bad (m : Int) (Q : Nat → Int) : Prop := ∃ x ∈ [Q 0, Q 1, Q 2, Q 3], x < 0 ∨ m < x
instance (m : Int) (Q : Nat → Int) : Decidable (Bad m Q) := by unfold Bad; infer_instance
theorem not_bad {m : Int} {Q : Nat → Int} (h : ¬ Bad m Q) {t : Nat} (ht : t < 4) : 0 ≤ Q t ∧ Q t ≤ m := by
  have : t = 0 ∨ t = 1 ∨ t = 2 ∨ t = 3 := by omega
  have key : ∀ x, x ∈ [Q 0, Q 1, Q 2, Q 3] → 0 ≤ x ∧ x ≤ m := fun x hx => by
    by_cases e : x < 0 ∨ m < x
    · exact absurd ⟨x, hx, e⟩ h
    · omega
  rcases this with rfl | rfl | rfl | rfl <;> exact key _ (by simp)
structure CostRes (n : Nat) (F : Nat → Nat → Int) (n2 : Nat) (P : Nat → Nat → Int) (C : Nat → Int) (res : Int × Int × Int) : Prop where
  hint : ¬ HsOk n F 32 → res = (0, 0, 14)
  arg : HsOk n F 32 → n2 ≠ n ∨ Bad 1000 C ∨ (∃ i, i < n2 ∧ Bad 32 (P i)) → res = (0, 0, 6)
  full : HsOk n F 32 → n2 = n → ¬ Bad 1000 C → (∀ i, i < n2 → ¬ Bad 32 (P i)) → (∃ i, i < n ∧ 100000 < F i 2) → res = (0, 0, 4)
  ok : HsOk n F 32 → n2 = n → ¬ Bad 1000 C → (∀ i, i < n2 → ¬ Bad 32 (P i)) → (∀ i, i < n → F i 2 ≤ 100000) → res = (((topC (lcmK F n) F (fun i t => (P i t).toNat) (fun t => (C t).toNat) n : Nat) : Int), ((lcmK F n : Nat) : Int), 0)
theorem costRes_ex (n : Nat) (F : Nat → Nat → Int) (n2 : Nat) (P : Nat → Nat → Int) (C : Nat → Int) : ∃ res, CostRes n F n2 P C res := by
  by_cases h1 : HsOk n F 32
  · by_cases h2 : n2 ≠ n ∨ Bad 1000 C ∨ (∃ i, i < n2 ∧ Bad 32 (P i))
    · exact ⟨_, fun h => absurd h1 h, fun _ _ => rfl, fun _ a b c _ => h2.elim (fun h => absurd a h) (fun h => h.elim (fun h => absurd h b) (fun ⟨i, h, h'⟩ => absurd h' (c i h))), fun _ a b c _ => h2.elim (fun h => absurd a h) (fun h => h.elim (fun h => absurd h b) (fun ⟨i, h, h'⟩ => absurd h' (c i h)))⟩
    · by_cases h3 : ∃ i, i < n ∧ 100000 < F i 2
      · exact ⟨_, fun h => absurd h1 h, fun _ h => absurd h h2, fun _ _ _ _ _ => rfl, fun _ _ _ _ h => (by obtain ⟨i, h4, h5⟩ := h3; have := h i h4; omega)⟩
      · exact ⟨_, fun h => absurd h1 h, fun _ h => absurd h h2, fun _ _ _ _ h => absurd h h3, fun _ _ _ _ _ => rfl⟩
  · exact ⟨_, fun _ => rfl, fun h => absurd h h1, fun h => absurd h h1, fun h => absurd h h1⟩

set_option maxRecDepth 100000 in
set_option maxHeartbeats 16000000 in
theorem kcost (v : Value) (n : Nat) (F : Nat → Nat → Int) (L : Nat → Bool) (v2 : Value) (n2 : Nat) (P : Nat → Nat → Int) (C : Nat → Int) (w : World) (h : RdH w v n F L) (hn : n ≤ 1000) (hwf : ∀ i j, i < n → j < 3 → (Lit.int .i64 (F i j)).wf = true)
    (h2 : RdV 4 w v2 n2 (fun i f => .int .i64 (P i f))) (hn2 : n2 ≤ 1000) (res : Int × Int × Int) (hres : CostRes n F n2 P C res) :
    Calls Try.prog 23 #[v, v2, .agg #[.int .i64 (C 0), .int .i64 (C 1), .int .i64 (C 2), .int .i64 (C 3)]] w fun e w' => e = .returned (.tuple #[.int .i64 res.1, .int .i64 res.2.1, .int .i64 res.2.2]) ∧ Ext w w' := by
  have HRES := Lib.hid hres
  have HRD := Lib.hid h
  have HCH := Lib.hid (fun w' (hx : Ext w w') r hr => chints v n F L 32 w' (h.ext hx) hn hwf (by decide) r hr)
  obtain ⟨a, c, rfl, hnc, hcm, _, hs⟩ := h
  obtain ⟨a2, c2, rfl, hnc2, hcm2, _, hs2⟩ := h2
  have HS := Lib.hid hs
  have HS2 := Lib.hid hs2
  have hni : (n : Int) ≤ 1000 := by omega
  have hni2 : (n2 : Int) ≤ 1000 := by omega
  clear hs hs2 hcm hcm2 hnc hnc2 hwf hres
  obtain ⟨k0, hk0⟩ : ∃ x, x = C 0 := ⟨_, rfl⟩
  obtain ⟨k1, hk1⟩ : ∃ x, x = C 1 := ⟨_, rfl⟩
  obtain ⟨k2, hk2⟩ : ∃ x, x = C 2 := ⟨_, rfl⟩
  obtain ⟨k3, hk3⟩ : ∃ x, x = C 3 := ⟨_, rfl⟩
  have HBC : Hid (Bad 1000 C ↔ ∃ x ∈ [k0, k1, k2, k3], x < 0 ∨ 1000 < x) := Lib.hid (by unfold Bad; rw [hk0, hk1, hk2, hk3])
  have HIR : Hid (∀ w', IRow w' w.heap.size 4 (fun t => [k0, k1, k2, k3].getD t 0) → IRow w' w.heap.size 4 C) := Lib.hid (fun w' hh => hh.congr (fun t ht => by
    have : t = 0 ∨ t = 1 ∨ t = 2 ∨ t = 3 := by omega
    rcases this with rfl | rfl | rfl | rfl
    · exact hk0.symm
    · exact hk1.symm
    · exact hk2.symm
    · exact hk3.symm))
  rw [← hk0, ← hk1, ← hk2, ← hk3]
  clear hk0 hk1 hk2 hk3
  go_enter Try.func23, Try.ntmps23
  go_upto_region 1 with fail
  have hx0 : Ext w (w.alloc (.cells #[.int .i64 k0, .int .i64 k1, .int .i64 k2, .int .i64 k3] 40)) := (Ext.refl w).alloc _
  have hcr : RdI .i64 (w.alloc (.cells #[.int .i64 k0, .int .i64 k1, .int .i64 k2, .int .i64 k3] 40)) (.slice (some ⟨w.heap.size, 0, none⟩) 4 4) [k0, k1, k2, k3] := RdI.lit .i64 w [k0, k1, k2, k3] 40 (by simp [maxLen])
  have hci : IRow (w.alloc (.cells #[.int .i64 k0, .int .i64 k1, .int .i64 k2, .int .i64 k3] 40)) w.heap.size 4 (fun t => [k0, k1, k2, k3].getD t 0) := ⟨_, _, heap_alloc_new w _, fun t ht => by
    have : t = 0 ∨ t = 1 ∨ t = 2 ∨ t = 3 := by omega
    rcases this with rfl | rfl | rfl | rfl <;> rfl⟩
  have hci := HIR.out _ hci
  generalize (w.alloc (.cells #[.int .i64 k0, .int .i64 k1, .int .i64 k2, .int .i64 k3] 40)) = w0 at *
  obtain ⟨pc, hpc⟩ : ∃ pc, pc = w.heap.size := ⟨_, rfl⟩
  rw [← hpc] at hcr hci ⊢
  have HCR := Lib.hid hcr
  have HCI := Lib.hid hci
  clear hcr hci hpc HIR
  by_cases hok : HsOk n F 32
  case neg =>
    have hre := HRES.out.hint hok
    subst hre
    have HC2 := Lib.hid (HCH.out w0 hx0 false (by simp [hok]))
    clear hok HRES
    go_wp2_with fail
    refine HC2.out.mono ?_
    rintro e w1 ⟨rfl, hx1⟩
    go_wp2_with fail
    go_ret3
    exact ⟨rfl, (by repeat' (first | (with_reducible exact Ext.refl _) | (with_reducible assumption) | (with_reducible refine Ext.alloc ?_ _) | (with_reducible refine Ext.drewN ?_ _) | (with_reducible refine Ext.drew ?_) | (with_reducible refine Ext.trans ?_ (by assumption))))⟩
  have HC2 := Lib.hid (HCH.out w0 hx0 true (by simp [hok]))
  have hn8 := hok.2.2
  have HOK := Lib.hid hok
  clear HCH
  by_cases hnn : n2 = n
  case neg =>
    have hre := HRES.out.arg hok (.inl hnn)
    subst hre
    have hnd : (n2 == n) = false := by rw [beq_eq_false_iff_ne]; exact hnn
    have hnd2 : decide (n2 = n) = false := decide_eq_false hnn
    have hnd3 : (n2 != n) = true := by rw [bne_iff_ne]; exact hnn
    have hnd4 : ((n2 : Int) != (n : Int)) = true := by rw [bne_iff_ne]; omega
    have hnd5 : ((n2 : Int) == (n : Int)) = false := by rw [beq_eq_false_iff_ne]; omega
    clear hok HRES hn
    go_wp2_with fail
    refine HC2.out.mono ?_
    rintro e w1 ⟨rfl, hx1⟩
    go_wp2_with fail
    go_quiet (fail)
    go_wp2_with fail
    go_ret3
    exact ⟨rfl, (by repeat' (first | (with_reducible exact Ext.refl _) | (with_reducible assumption) | (with_reducible refine Ext.alloc ?_ _) | (with_reducible refine Ext.drewN ?_ _) | (with_reducible refine Ext.drew ?_) | (with_reducible refine Ext.trans ?_ (by assumption))))⟩
  subst hnn
  obtain ⟨bc, hbc⟩ : ∃ bc, decide (∃ x ∈ [k0, k1, k2, k3], x < 0 ∨ 1000 < x) = bc := ⟨_, rfl⟩
  have HBD := Lib.hid hbc
  clear hbc hok
  go_wp2_with fail
  refine HC2.out.mono ?_
  rintro e w1 ⟨rfl, hx1⟩
  have hX1 := hx0.trans hx1
  clear HC2
  go_wp2_with fail
  go_region_held3 (fun w' => Ext w1 w') (exact (by repeat' (first | (with_reducible exact Ext.refl _) | (with_reducible assumption) | (with_reducible refine Ext.alloc ?_ _) | (with_reducible refine Ext.drewN ?_ _) | (with_reducible refine Ext.drew ?_) | (with_reducible refine Ext.trans ?_ (by assumption))))) (first | (go_at_call 35; refine (kwrong1 1000 _).mono ?_; rintro e wA ⟨pA, rfl, hA, hxA⟩) | (go_at_call 37; refine (kcontI _ [k0, k1, k2, k3] 1000 pA _ (HCR.out.ext (hx1.trans (by repeat' (first | (with_reducible exact Ext.refl _) | (with_reducible assumption) | (with_reducible refine Ext.alloc ?_ _) | (with_reducible refine Ext.drewN ?_ _) | (with_reducible refine Ext.drew ?_) | (with_reducible refine Ext.trans ?_ (by assumption)))))) (by simp) (Ext.cellv (w := wA) (by repeat' (first | (with_reducible exact Ext.refl _) | (with_reducible assumption) | (with_reducible refine Ext.alloc ?_ _) | (with_reducible refine Ext.drewN ?_ _) | (with_reducible refine Ext.drew ?_) | (with_reducible refine Ext.trans ?_ (by assumption)))) hA) bc HBD.out).mono ?_; rintro e wB ⟨rfl, hxB⟩))
  all_goals
    have hX2 : Ext w wB := hX1.trans (by repeat' (first | (with_reducible exact Ext.refl _) | (with_reducible assumption) | (with_reducible refine Ext.alloc ?_ _) | (with_reducible refine Ext.drewN ?_ _) | (with_reducible refine Ext.drew ?_) | (with_reducible refine Ext.trans ?_ (by assumption))))
    have hx12 : Ext w1 wB := (by repeat' (first | (with_reducible exact Ext.refl _) | (with_reducible assumption) | (with_reducible refine Ext.alloc ?_ _) | (with_reducible refine Ext.drewN ?_ _) | (with_reducible refine Ext.drew ?_) | (with_reducible refine Ext.trans ?_ (by assumption))))
    clear hxA hxB hA
    cases bc with
    | true =>
      have hre := HRES.out.arg HOK.out (.inr (.inl (HBC.out.2 (of_decide_eq_true HBD.out))))
      subst hre
      clear HRES
      go_wp2_with fail
      go_ret3
      exact ⟨rfl, (by repeat' (first | (with_reducible exact Ext.refl _) | (with_reducible assumption) | (with_reducible refine Ext.alloc ?_ _) | (with_reducible refine Ext.drewN ?_ _) | (with_reducible refine Ext.drew ?_) | (with_reducible refine Ext.trans ?_ (by assumption))))⟩
    | false =>
      have HNB : Hid (¬ Bad 1000 C) := Lib.hid (fun h => of_decide_eq_false HBD.out (HBC.out.1 h))
      clear HBD HBC
      have HCI2 := Lib.hid (HCI.out.ext (hx1.trans hx12))
      clear HCI HCR hx0 hx1 hx12 hX1
      go_wp2_with fail
      go_loopw [6, 35] (fun c6 ci wr => ∃ i : Nat, i ≤ n2 ∧ c6 = .int .i64 0 ∧ ci = .int .i64 i ∧ (∀ j, j < i → ¬ Bad 32 (P j)) ∧ Ext wB wr) (fun _ ci _ => n2 - (intOf ci).toNat)
      case atStart => exact ⟨0, Nat.zero_le _, rfl, rfl, fun j hj => absurd hj (by omega), Ext.refl _⟩
      case round =>
        obtain ⟨i, hi, rfl, rfl, hnb, hx⟩ := hrel
        have HNO := Lib.hid hnb
        have hXr := hX2.trans hx
        clear hnb
        by_cases hlt : i < n2
        --[[A
        · have hii : (i : Int) < (n2 : Int) := by omega
          have hi0 : (0 : Int) ≤ (i : Int) := by omega
          obtain ⟨b5, o5, rfl, hb5, hcell5⟩ := HS2.out (by omega)
          have z0 := (hXr.cell hb5).trans (hcell5 i 0 hlt (by omega))
          have z1 := (hXr.cell hb5).trans (hcell5 i 1 hlt (by omega))
          have z2 := (hXr.cell hb5).trans (hcell5 i 2 hlt (by omega))
          have z3 := (hXr.cell hb5).trans (hcell5 i 3 hlt (by omega))
          simp only [← Nat.add_assoc, Nat.add_zero] at z0 z1 z2 z3
          obtain ⟨p0, hp0⟩ : ∃ x, x = P i 0 := ⟨_, rfl⟩
          obtain ⟨p1, hp1⟩ : ∃ x, x = P i 1 := ⟨_, rfl⟩
          obtain ⟨p2, hp2⟩ : ∃ x, x = P i 2 := ⟨_, rfl⟩
          obtain ⟨p3, hp3⟩ : ∃ x, x = P i 3 := ⟨_, rfl⟩
          have HBI : Hid (Bad 32 (P i) ↔ ∃ x ∈ [p0, p1, p2, p3], x < 0 ∨ 32 < x) := Lib.hid (by unfold Bad; rw [hp0, hp1, hp2, hp3])
          rw [← hp0] at z0
          rw [← hp1] at z1
          rw [← hp2] at z2
          rw [← hp3] at z3
          obtain ⟨bi, hbi⟩ : ∃ bi, decide (∃ x ∈ [p0, p1, p2, p3], x < 0 ∨ 32 < x) = bi := ⟨_, rfl⟩
          have HBB := Lib.hid hbi
          clear hcell5 hp0 hp1 hp2 hp3 hbi
          go_upto_region 9 with fail
          have hpr : RdI .i64 (wr.alloc (.cells #[.int .i64 p0, .int .i64 p1, .int .i64 p2, .int .i64 p3] 42)) (.slice (some ⟨wr.heap.size, 0, none⟩) 4 4) [p0, p1, p2, p3] := RdI.lit .i64 wr [p0, p1, p2, p3] 42 (by simp [maxLen])
          have hx9 : Ext wr (wr.alloc (.cells #[.int .i64 p0, .int .i64 p1, .int .i64 p2, .int .i64 p3] 42)) := (Ext.refl wr).alloc _
          generalize (wr.alloc (.cells #[.int .i64 p0, .int .i64 p1, .int .i64 p2, .int .i64 p3] 42)) = w9 at *
          obtain ⟨px, hpx⟩ : ∃ px, px = wr.heap.size := ⟨_, rfl⟩
          rw [← hpx] at hpr ⊢
          have HPR := Lib.hid hpr
          clear hpr hpx z0 z1 z2 z3
          go_region_held3 (fun w' => Ext w9 w') (exact (by repeat' (first | (with_reducible exact Ext.refl _) | (with_reducible assumption) | (with_reducible refine Ext.alloc ?_ _) | (with_reducible refine Ext.drewN ?_ _) | (with_reducible refine Ext.drew ?_) | (with_reducible refine Ext.trans ?_ (by assumption))))) (first | (go_at_call 35; refine (kwrong1 32 _).mono ?_; rintro e wC ⟨pA, rfl, hA, hxA⟩) | (go_at_call 37; refine (kcontI _ [p0, p1, p2, p3] 32 pA _ (HPR.out.ext (by repeat' (first | (with_reducible exact Ext.refl _) | (with_reducible assumption) | (with_reducible refine Ext.alloc ?_ _) | (with_reducible refine Ext.drewN ?_ _) | (with_reducible refine Ext.drew ?_) | (with_reducible refine Ext.trans ?_ (by assumption))))) (by simp) (Ext.cellv (w := wC) (by repeat' (first | (with_reducible exact Ext.refl _) | (with_reducible assumption) | (with_reducible refine Ext.alloc ?_ _) | (with_reducible refine Ext.drewN ?_ _) | (with_reducible refine Ext.drew ?_) | (with_reducible refine Ext.trans ?_ (by assumption)))) hA) bi HBB.out).mono ?_; rintro e wD ⟨rfl, hxB⟩))
          all_goals
            have hx9D : Ext w9 wD := (by repeat' (first | (with_reducible exact Ext.refl _) | (with_reducible assumption) | (with_reducible refine Ext.alloc ?_ _) | (with_reducible refine Ext.drewN ?_ _) | (with_reducible refine Ext.drew ?_) | (with_reducible refine Ext.trans ?_ (by assumption))))
            clear hxA hxB hA
            have hxf := hx.trans (hx9.trans hx9D)
            cases bi with
            | true =>
              have hre := HRES.out.arg HOK.out (.inr (.inr ⟨i, hlt, HBI.out.2 (of_decide_eq_true HBB.out)⟩))
              subst hre
              clear HRES
              go_wp2_with fail
              go_ret3
              exact ⟨rfl, hX2.trans hxf⟩
            | false =>
              have HN2 : Hid (∀ j, j < i + 1 → ¬ Bad 32 (P j)) := Lib.hid (fun j hj => by
                by_cases e : j = i
                · subst e; exact fun h => of_decide_eq_false HBB.out (HBI.out.1 h)
                · exact HNO.out j (by omega))
              clear HBB HBI
              go_wp2_with fail
              go_roundw
              case rel => exact ⟨i + 1, by omega, rfl, by go_num, HN2.out, hxf⟩
              case measure => simp [intOf]; omega
        --]]
        --[[B
        · obtain rfl : i = n2 := by omega
          have HNP := HNO
          have HCI3 := Lib.hid (HCI2.out.ext hx)
          clear HCI2 hx
          obtain ⟨wo, rfl⟩ : ∃ wo : World, wo = wr := ⟨_, rfl⟩
          go_wp2_with fail
          go_loopw [6, 7, 47] (fun c6 cb ci ws => ∃ k : Nat, k ≤ i ∧ c6 = .int .i64 0 ∧ ci = .int .i64 k ∧ cb = .int .i64 (lcmK F k : Nat) ∧ (∀ j, j < k → F j 2 ≤ 100000) ∧ Ext wo ws) (fun _ _ ci _ => i - (intOf ci).toNat)
          case atStart => exact ⟨0, Nat.zero_le _, rfl, rfl, rfl, fun j hj => absurd hj (by omega), Ext.refl _⟩
          case round =>
            obtain ⟨k, hk, rfl, rfl, rfl, hof, hxs⟩ := hrel
            have HOF := Lib.hid hof
            have hXs := hXr.trans hxs
            clear hof
            by_cases hltk : k < i
            --[[C
            · have hkk : (k : Int) < (i : Int) := by omega
              have hk0 : (0 : Int) ≤ (k : Int) := by omega
              obtain ⟨bb, o, rfl, hbb, hcell⟩ := HS.out (by omega)
              have z0 := (hXs.cell hbb).trans (hcell k 0 hltk (by omega))
              have z1 := (hXs.cell hbb).trans (hcell k 1 hltk (by omega))
              have z2 := (hXs.cell hbb).trans (hcell k 2 hltk (by omega))
              have z3 := (hXs.cell hbb).trans (hcell k 3 hltk (by omega))
              have hsz : F k 1 = ((kS F k : Nat) : Int) := by have := (HOK.out.1 k hltk).2.1; unfold kS; omega
              simp only [Proofs.Ytepnmclgkbphmaa.HV, ← Nat.add_assoc, Nat.add_zero, if_pos (show (0 : Nat) < 3 by omega), if_pos (show (1 : Nat) < 3 by omega), if_pos (show (2 : Nat) < 3 by omega), if_neg (show ¬ (3 : Nat) < 3 by omega), hsz] at z0 z1 z2 z3
              obtain ⟨s1, s2⟩ := kS_le HOK.out hltk
              have l1 := lcmK_le HOK.out (k := k) (by omega)
              have l3 := lcmK_pos HOK.out (k := k) (by omega)
              have hlc : lcmK F (k + 1) = Nat.lcm (lcmK F k) (kS F k) := rfl
              have HLC := Lib.hid hlc
              obtain ⟨S, hS⟩ : ∃ s, s = kS F k := ⟨_, rfl⟩
              obtain ⟨A, hA⟩ : ∃ s, s = lcmK F k := ⟨_, rfl⟩
              obtain ⟨x0, hx0⟩ : ∃ x, F k 0 = x := ⟨_, rfl⟩
              obtain ⟨x2, hx2⟩ : ∃ x, F k 2 = x := ⟨_, rfl⟩
              obtain ⟨lp, hlp⟩ : ∃ x, L k = x := ⟨_, rfl⟩
              rw [hx0] at z0
              rw [hx2] at z2
              rw [hlp] at z3
              rw [← hS] at z1 s1 s2 HLC
              rw [← hA] at l1 l3 HLC ⊢
              have HX2 := Lib.hid hx2
              clear hcell hsz hlc hS hA hx0 hx2 hlp
              go_upto_region 16 with fail
              have ka := cell_new wr #[.int .i64 x0, .int .i64 (S : Nat), .int .i64 x2, .bool lp] 44 (0, 0) (j := 1) rfl
              have kb := cell_new wr #[.int .i64 x0, .int .i64 (S : Nat), .int .i64 x2, .bool lp] 44 (0, 0) (j := 2) rfl
              have hx9 : Ext wr (wr.alloc (.cells #[.int .i64 x0, .int .i64 (S : Nat), .int .i64 x2, .bool lp] 44)) := (Ext.refl wr).alloc _
              generalize (wr.alloc (.cells #[.int .i64 x0, .int .i64 (S : Nat), .int .i64 x2, .bool lp] 44)) = w9 at *
              obtain ⟨px, hpx⟩ : ∃ px, px = wr.heap.size := ⟨_, rfl⟩
              rw [← hpx] at ka kb ⊢
              clear hpx z0 z1 z2 z3
              by_cases hbig : 100000 < x2
              · have hre := HRES.out.full HOK.out rfl HNB.out HNP.out ⟨k, hltk, by rw [HX2.out]; exact hbig⟩
                subst hre
                clear HRES
                go_wp2_with fail
                go_ret3
                exact ⟨rfl, hXs.trans hx9⟩
              · have HOF2 : Hid (∀ j, j < k + 1 → F j 2 ≤ 100000) := Lib.hid (fun j hj => by
                  by_cases e : j = k
                  · subst e; rw [HX2.out]; omega
                  · exact HOF.out j (by omega))
                go_wp2_with fail
                refine (kcommon A S l3 (by omega) s1 s2 _).mono ?_
                rintro e w10 ⟨rfl, hx10⟩
                go_wp2_with fail
                go_roundw
                case rel => exact ⟨k + 1, by omega, rfl, by go_num, by rw [HLC.out], HOF2.out, hxs.trans (hx9.trans hx10)⟩
                case measure => simp [intOf]; omega
            --]]
            --[[D
            · obtain rfl : k = i := by omega
              have hre := HRES.out.ok HOK.out rfl HNB.out HNP.out HOF.out
              have HCI4 := Lib.hid (HCI3.out.ext hxs)
              subst hre
              clear HRES HCI3
              have hB := lcmK_le HOK.out (k := k) (Nat.le_refl _)
              have hB0 := lcmK_pos HOK.out (k := k) (Nat.le_refl _)
              have hTOP := fun j (hj : j ≤ k) => topC_le (b := lcmK F k) (F := F) (P := fun i t => (P i t).toNat) (C := fun t => (C t).toNat) (by omega) HOF.out (fun i hi t ht => by have := not_bad (HNP.out i hi) ht; show (P i t).toNat ≤ 32; omega) (fun t ht => by have := not_bad HNB.out ht; show (C t).toNat ≤ 1000; omega) hj
              have HTOP := Lib.hid hTOP
              have hTN : ∀ j, topC (lcmK F k) F (fun i t => (P i t).toNat) (fun t => (C t).toNat) (j + 1) = topC (lcmK F k) F (fun i t => (P i t).toNat) (fun t => (C t).toNat) j + unitC (lcmK F k) F j * rowC (fun i t => (P i t).toNat) (fun t => (C t).toNat) j := fun _ => rfl
              have HTN := Lib.hid hTN
              obtain ⟨T, hT⟩ : ∃ T, T = topC (lcmK F k) F (fun i t => (P i t).toNat) (fun t => (C t).toNat) := ⟨_, rfl⟩
              have hT0 : T 0 = 0 := by rw [hT]; rfl
              have HT := Lib.hid hT
              rw [← hT] at HTOP HTN
              have HUC := Lib.hid (fun j => unitC_le (b := lcmK F k) (F := F) (i := j) (by omega))
              have HUD : Hid (∀ j, unitC (lcmK F k) F j = lcmK F k / kS F j * (F j 2).toNat) := Lib.hid (fun _ => rfl)
              obtain ⟨B, hBe⟩ : ∃ B, B = lcmK F k := ⟨_, rfl⟩
              have HBE := Lib.hid hBe
              rw [← hBe] at hB hB0 HTN HUC HUD ⊢
              clear hTOP hTN hT hBe
              obtain ⟨wp, rfl⟩ : ∃ wp : World, wp = wr := ⟨_, rfl⟩
              go_wp2_with fail
              go_loopw [6, 61] (fun ct ci ws => ∃ j : Nat, j ≤ k ∧ ci = .int .i64 j ∧ ct = .int .i64 (T j : Nat) ∧ Ext wp ws) (fun _ ci _ => k - (intOf ci).toNat)
              case atStart => exact ⟨0, Nat.zero_le _, rfl, by rw [hT0]; rfl, Ext.refl _⟩
              case round =>
                obtain ⟨j, hj, rfl, rfl, hxt⟩ := hrel
                have hXt := hXs.trans hxt
                by_cases hltj : j < k
                --[[E
                · have hjj : (j : Int) < (k : Int) := by omega
                  have hj0 : (0 : Int) ≤ (j : Int) := by omega
                  obtain ⟨bb, o, rfl, hbb, hcell⟩ := HS.out (by omega)
                  obtain ⟨b5, o5, rfl, hb5, hcell5⟩ := HS2.out (by omega)
                  have z0 := (hXt.cell hbb).trans (hcell j 0 hltj (by omega))
                  have z1 := (hXt.cell hbb).trans (hcell j 1 hltj (by omega))
                  have z2 := (hXt.cell hbb).trans (hcell j 2 hltj (by omega))
                  have z3 := (hXt.cell hbb).trans (hcell j 3 hltj (by omega))
                  have hsz : F j 1 = ((kS F j : Nat) : Int) := by have := (HOK.out.1 j hltj).2.1; unfold kS; omega
                  have hof : F j 2 = (((F j 2).toNat : Nat) : Int) := by have := (HOK.out.1 j hltj).2.2.2.2.2.1; omega
                  have hof2 : (F j 2).toNat ≤ 100000 := by have := HOF.out j hltj; omega
                  simp only [Proofs.Ytepnmclgkbphmaa.HV, ← Nat.add_assoc, Nat.add_zero, if_pos (show (0 : Nat) < 3 by omega), if_pos (show (1 : Nat) < 3 by omega), if_pos (show (2 : Nat) < 3 by omega), if_neg (show ¬ (3 : Nat) < 3 by omega), hsz] at z0 z1 z2 z3
                  rw [hof] at z2
                  obtain ⟨s1, s2⟩ := kS_le HOK.out hltj
                  have hPc : ∀ t, t < 4 → wr.cell? ⟨b5, o5 + (j * 4 + t), none⟩ = some (.int .i64 (((P j t).toNat : Nat) : Int)) := fun t ht => by
                    rw [(hXt.cell hb5).trans (hcell5 j t hltj ht)]
                    have := not_bad (HNP.out j hltj) ht
                    rw [Int.toNat_of_nonneg this.1]
                  have hCc : ∀ w', IRow w' pc 4 C → IRow w' pc 4 (fun t => (((C t).toNat : Nat) : Int)) := fun w' hh => hh.congr (fun t ht => by have := not_bad HNB.out ht; rw [Int.toNat_of_nonneg this.1])
                  have HCC := Lib.hid (hCc _ (HCI4.out.ext hxt))
                  have hQ32 : ∀ t, t < 4 → (P j t).toNat ≤ 32 := fun t ht => by have := not_bad (HNP.out j hltj) ht; omega
                  have hD : ∀ t, t < 4 → (C t).toNat ≤ 1000 := fun t ht => by have := not_bad HNB.out ht; omega
                  have hro : rowC (fun i t => (P i t).toNat) (fun t => (C t).toNat) j = sumN (fun t => (P j t).toNat * (C t).toNat) 4 := rfl
                  have hrl := fun t (ht : t ≤ 4) => rowC_le (P := fun i t => (P i t).toNat) (C := fun t => (C t).toNat) (i := j) hQ32 hD ht
                  obtain ⟨Q, hQ⟩ : ∃ Q : Nat → Nat, Q = fun t => (P j t).toNat := ⟨_, rfl⟩
                  obtain ⟨D, hDe⟩ : ∃ D : Nat → Nat, D = fun t => (C t).toNat := ⟨_, rfl⟩
                  have HPC : Hid (∀ t, t < 4 → wr.cell? ⟨b5, o5 + (j * 4 + t), none⟩ = some (.int .i64 ((Q t : Nat) : Int))) := Lib.hid (by rw [hQ]; exact hPc)
                  have HCD : Hid (IRow wr pc 4 (fun t => ((D t : Nat) : Int))) := Lib.hid (by rw [hDe]; exact HCC.out)
                  have HQ : Hid (∀ t, t < 4 → Q t ≤ 32) := Lib.hid (by rw [hQ]; exact hQ32)
                  have HDD : Hid (∀ t, t < 4 → D t ≤ 1000) := Lib.hid (by rw [hDe]; exact hD)
                  have HRO : Hid (rowC (fun i t => (P i t).toNat) (fun t => (C t).toNat) j = sumN (fun t => Q t * D t) 4) := Lib.hid (by rw [hQ, hDe]; exact hro)
                  have HRL : Hid (∀ t, t ≤ 4 → sumN (fun t => Q t * D t) t ≤ t * 32000) := Lib.hid (by rw [hQ, hDe]; exact hrl)
                  have htn := HTN.out j
                  rw [HRO.out, HUD.out j] at htn
                  have huc := HUC.out j (HOF.out j hltj)
                  rw [HUD.out j] at huc
                  have htl := HTOP.out j (by omega)
                  obtain ⟨S, hS⟩ : ∃ s, s = kS F j := ⟨_, rfl⟩
                  obtain ⟨O, hO⟩ : ∃ s, s = (F j 2).toNat := ⟨_, rfl⟩
                  obtain ⟨x0, hx0⟩ : ∃ x, F j 0 = x := ⟨_, rfl⟩
                  obtain ⟨lp, hlp⟩ : ∃ x, L j = x := ⟨_, rfl⟩
                  rw [hx0] at z0
                  rw [hlp] at z3
                  rw [← hS] at z1 s1 s2 htn huc
                  rw [← hO] at z2 htn huc hof2
                  have HTJ := Lib.hid htn
                  have HUL := Lib.hid huc
                  obtain ⟨tj, htj⟩ : ∃ x, x = T j := ⟨_, rfl⟩
                  rw [← htj] at htl HTJ ⊢
                  clear hcell hcell5 hsz hof hPc hCc hQ32 hD hro hrl hQ hDe HCC htn huc hS hO hx0 hlp htj HRO
                  have w0 := HPC.out 0 (by omega)
                  have w1 := HPC.out 1 (by omega)
                  have w2 := HPC.out 2 (by omega)
                  have w3 := HPC.out 3 (by omega)
                  simp only [← Nat.add_assoc, Nat.add_zero] at w0 w1 w2 w3
                  have i0 : ∀ w, (Instr.index 40 (.agg #[.int .i64 (Q 0 : Nat), .int .i64 (Q 1 : Nat), .int .i64 (Q 2 : Nat), .int .i64 (Q 3 : Nat)]) (.int .i64 0)).run Try.prog w = .ok (.int .i64 (Q 0 : Nat)) w := fun _ => by kernel_rfl
                  have i1 : ∀ w, (Instr.index 40 (.agg #[.int .i64 (Q 0 : Nat), .int .i64 (Q 1 : Nat), .int .i64 (Q 2 : Nat), .int .i64 (Q 3 : Nat)]) (.int .i64 1)).run Try.prog w = .ok (.int .i64 (Q 1 : Nat)) w := fun _ => by kernel_rfl
                  have i2 : ∀ w, (Instr.index 40 (.agg #[.int .i64 (Q 0 : Nat), .int .i64 (Q 1 : Nat), .int .i64 (Q 2 : Nat), .int .i64 (Q 3 : Nat)]) (.int .i64 2)).run Try.prog w = .ok (.int .i64 (Q 2 : Nat)) w := fun _ => by kernel_rfl
                  have i3 : ∀ w, (Instr.index 40 (.agg #[.int .i64 (Q 0 : Nat), .int .i64 (Q 1 : Nat), .int .i64 (Q 2 : Nat), .int .i64 (Q 3 : Nat)]) (.int .i64 3)).run Try.prog w = .ok (.int .i64 (Q 3 : Nat)) w := fun _ => by kernel_rfl
                  go_upto_region 23 with fail
                  have ka := cell_new wr #[.int .i64 x0, .int .i64 (S : Nat), .int .i64 (O : Nat), .bool lp] 44 (0, 0) (j := 1) rfl
                  have kb := cell_new wr #[.int .i64 x0, .int .i64 (S : Nat), .int .i64 (O : Nat), .bool lp] 44 (0, 0) (j := 2) rfl
                  have hx9 : Ext wr (wr.alloc (.cells #[.int .i64 x0, .int .i64 (S : Nat), .int .i64 (O : Nat), .bool lp] 44)) := (Ext.refl wr).alloc _
                  generalize (wr.alloc (.cells #[.int .i64 x0, .int .i64 (S : Nat), .int .i64 (O : Nat), .bool lp] 44)) = w9 at *
                  obtain ⟨px, hpx⟩ : ∃ px, px = wr.heap.size := ⟨_, rfl⟩
                  rw [← hpx] at ka kb ⊢
                  have v0 := hx9.cellv w0
                  have v1 := hx9.cellv w1
                  have v2 := hx9.cellv w2
                  have v3 := hx9.cellv w3
                  have HC9 := Lib.hid (HCD.out.ext hx9)
                  have hxt9 := hxt.trans hx9
                  clear hpx z0 z1 z2 z3 w0 w1 w2 w3
                  go_wp2_with fail
                  go_loopw [16, 71] (fun cs ct ws => ∃ t : Nat, t ≤ 4 ∧ ct = .int .i64 t ∧ cs = .int .i64 (sumN (fun t => Q t * D t) t : Nat) ∧ Ext w9 ws) (fun _ ct _ => 4 - (intOf ct).toNat)
                  case atStart => exact ⟨0, by omega, rfl, rfl, Ext.refl _⟩
                  case round =>
                    clear v0 v1 v2 v3
                    obtain ⟨t, ht, rfl, rfl, hxu⟩ := hrel
                    have hrl := HRL.out t ht
                    have hcase : t = 0 ∨ t = 1 ∨ t = 2 ∨ t = 3 ∨ t = 4 := by omega
                    rcases hcase with rfl | rfl | rfl | rfl | rfl
                    case inl =>
                      have y := (HC9.out.ext hxu).cell (show 0 < 4 by omega)
                      have q := HQ.out 0 (by omega)
                      have d := HDD.out 0 (by omega)
                      have hm : Q 0 * D 0 ≤ 32000 := Nat.mul_le_mul q d
                      have hmi : ((Q 0 : Nat) : Int) * ((D 0 : Nat) : Int) = ((Q 0 * D 0 : Nat) : Int) := by simp
                      have hm1 : ((Q 0 : Nat) : Int) * ((D 0 : Nat) : Int) ≤ 32000 := by rw [hmi]; omega
                      have hm0 : 0 ≤ ((Q 0 : Nat) : Int) * ((D 0 : Nat) : Int) := by rw [hmi]; exact Int.natCast_nonneg _
                      have hn : sumN (fun t => Q t * D t) (0 + 1) = sumN (fun t => Q t * D t) 0 + Q 0 * D 0 := rfl
                      have HN := Lib.hid hn
                      obtain ⟨s, hs⟩ : ∃ s, s = sumN (fun t => Q t * D t) 0 := ⟨_, rfl⟩
                      rw [← hs] at hrl HN ⊢
                      clear hmi hm hn hs
                      go_wp2_with fail
                      go_roundw
                      case rel => exact ⟨1, by omega, by go_num, by rw [show (1 : Nat) = 0 + 1 from rfl, HN.out]; go_num, hxu⟩
                      case measure => simp [intOf]
                    case inr.inl =>
                      have y := (HC9.out.ext hxu).cell (show 1 < 4 by omega)
                      have q := HQ.out 1 (by omega)
                      have d := HDD.out 1 (by omega)
                      have hm : Q 1 * D 1 ≤ 32000 := Nat.mul_le_mul q d
                      have hmi : ((Q 1 : Nat) : Int) * ((D 1 : Nat) : Int) = ((Q 1 * D 1 : Nat) : Int) := by simp
                      have hm1 : ((Q 1 : Nat) : Int) * ((D 1 : Nat) : Int) ≤ 32000 := by rw [hmi]; omega
                      have hm0 : 0 ≤ ((Q 1 : Nat) : Int) * ((D 1 : Nat) : Int) := by rw [hmi]; exact Int.natCast_nonneg _
                      have hn : sumN (fun t => Q t * D t) (1 + 1) = sumN (fun t => Q t * D t) 1 + Q 1 * D 1 := rfl
                      have HN := Lib.hid hn
                      obtain ⟨s, hs⟩ : ∃ s, s = sumN (fun t => Q t * D t) 1 := ⟨_, rfl⟩
                      rw [← hs] at hrl HN ⊢
                      clear hmi hm hn hs
                      go_wp2_with fail
                      go_roundw
                      case rel => exact ⟨2, by omega, by go_num, by rw [show (2 : Nat) = 1 + 1 from rfl, HN.out]; go_num, hxu⟩
                      case measure => simp [intOf]
                    case inr.inr.inl =>
                      have y := (HC9.out.ext hxu).cell (show 2 < 4 by omega)
                      have q := HQ.out 2 (by omega)
                      have d := HDD.out 2 (by omega)
                      have hm : Q 2 * D 2 ≤ 32000 := Nat.mul_le_mul q d
                      have hmi : ((Q 2 : Nat) : Int) * ((D 2 : Nat) : Int) = ((Q 2 * D 2 : Nat) : Int) := by simp
                      have hm1 : ((Q 2 : Nat) : Int) * ((D 2 : Nat) : Int) ≤ 32000 := by rw [hmi]; omega
                      have hm0 : 0 ≤ ((Q 2 : Nat) : Int) * ((D 2 : Nat) : Int) := by rw [hmi]; exact Int.natCast_nonneg _
                      have hn : sumN (fun t => Q t * D t) (2 + 1) = sumN (fun t => Q t * D t) 2 + Q 2 * D 2 := rfl
                      have HN := Lib.hid hn
                      obtain ⟨s, hs⟩ : ∃ s, s = sumN (fun t => Q t * D t) 2 := ⟨_, rfl⟩
                      rw [← hs] at hrl HN ⊢
                      clear hmi hm hn hs
                      go_wp2_with fail
                      go_roundw
                      case rel => exact ⟨3, by omega, by go_num, by rw [show (3 : Nat) = 2 + 1 from rfl, HN.out]; go_num, hxu⟩
                      case measure => simp [intOf]
                    case inr.inr.inr.inl =>
                      have y := (HC9.out.ext hxu).cell (show 3 < 4 by omega)
                      have q := HQ.out 3 (by omega)
                      have d := HDD.out 3 (by omega)
                      have hm : Q 3 * D 3 ≤ 32000 := Nat.mul_le_mul q d
                      have hmi : ((Q 3 : Nat) : Int) * ((D 3 : Nat) : Int) = ((Q 3 * D 3 : Nat) : Int) := by simp
                      have hm1 : ((Q 3 : Nat) : Int) * ((D 3 : Nat) : Int) ≤ 32000 := by rw [hmi]; omega
                      have hm0 : 0 ≤ ((Q 3 : Nat) : Int) * ((D 3 : Nat) : Int) := by rw [hmi]; exact Int.natCast_nonneg _
                      have hn : sumN (fun t => Q t * D t) (3 + 1) = sumN (fun t => Q t * D t) 3 + Q 3 * D 3 := rfl
                      have HN := Lib.hid hn
                      obtain ⟨s, hs⟩ : ∃ s, s = sumN (fun t => Q t * D t) 3 := ⟨_, rfl⟩
                      rw [← hs] at hrl HN ⊢
                      clear hmi hm hn hs
                      go_wp2_with fail
                      go_roundw
                      case rel => exact ⟨4, by omega, by go_num, by rw [show (4 : Nat) = 3 + 1 from rfl, HN.out]; go_num, hxu⟩
                      case measure => simp [intOf]
                    case inr.inr.inr.inr =>
                      have ka2 := hxu.cellv ka
                      have kb2 := hxu.cellv kb
                      obtain ⟨s, hs⟩ : ∃ s, s = sumN (fun t => Q t * D t) 4 := ⟨_, rfl⟩
                      have HTJ2 : Hid (T (j + 1) = tj + B / S * O * s) := Lib.hid (by rw [hs]; exact HTJ.out)
                      rw [← hs] at hrl ⊢
                      have hu := HUL.out
                      have hus : B / S * O * s ≤ 12290000000 * 128000 := Nat.mul_le_mul hu hrl
                      have e1 : (B : Int) / (S : Int) = ((B / S : Nat) : Int) := by simp
                      have e2 : (B : Int) / (S : Int) * (O : Int) = ((B / S * O : Nat) : Int) := by rw [e1]; simp
                      have e3 : (B : Int) / (S : Int) * (O : Int) * (s : Int) = ((B / S * O * s : Nat) : Int) := by rw [e2]; simp
                      have b1 : 0 ≤ (B : Int) / (S : Int) := by rw [e1]; exact Int.natCast_nonneg _
                      have b2 : (B : Int) / (S : Int) ≤ 122900 := by rw [e1]; have := Nat.div_le_self B S; omega
                      have b3 : 0 ≤ (B : Int) / (S : Int) * (O : Int) := by rw [e2]; exact Int.natCast_nonneg _
                      have b4 : (B : Int) / (S : Int) * (O : Int) ≤ 12290000000 := by rw [e2]; omega
                      have b5' : 0 ≤ (B : Int) / (S : Int) * (O : Int) * (s : Int) := by rw [e3]; exact Int.natCast_nonneg _
                      have b6 : (B : Int) / (S : Int) * (O : Int) * (s : Int) ≤ 1573120000000000 := by rw [e3]; omega
                      have b7 : (tj : Int) ≤ 12584960000000000 := by omega
                      have E3 := Lib.hid e3
                      have hSi : (0 : Int) < (S : Int) := by omega
                      clear hs hu hus e1 e2 e3
                      go_wp2_with fail
                      go_quiet (fail)
                      go_wp2_with fail
                      go_roundw
                      case rel => exact ⟨j + 1, by omega, by go_num, by rw [HTJ2.out]; have h9 := E3.out; go_num, hxt9.trans (by repeat' (first | (with_reducible exact Ext.refl _) | (with_reducible assumption) | (with_reducible refine Ext.alloc ?_ _) | (with_reducible refine Ext.drewN ?_ _) | (with_reducible refine Ext.drew ?_) | (with_reducible refine Ext.trans ?_ (by assumption))))⟩
                      case measure => simp [intOf]; omega
                --]]
                --[[F
                · obtain rfl : j = k := by omega
                  go_wp2_with fail
                  go_ret3
                  exact ⟨by rw [HT.out, HBE.out]; rfl, hXt⟩
                --]]
            --]]
        --]]
end Go.Proofs.Ytepnmclgkbphmaa
