/-
  gradinelaw14.KarmaCost answers true. No condition.
-/
import Derived.Test.YtepnmclgkbphmaaKCost3
import Derived.Test.YtepnmclgkbphmaaKIn
import Derived.Test.YtepnmclgkbphmaaKWakes
namespace Go.Proofs.Ytepnmclgkbphmaa
open Go.RowKit

theorem bad_iff {m : Int} {Q : Nat → Int} : Bad m Q ↔ ∃ u, u < 4 ∧ (Q u < 0 ∨ m < Q u) := by
  constructor
  · rintro ⟨x, hx, h⟩
    simp only [List.mem_cons, List.not_mem_nil, or_false] at hx
    rcases hx with rfl | rfl | rfl | rfl
    · exact ⟨0, by omega, h⟩
    · exact ⟨1, by omega, h⟩
    · exact ⟨2, by omega, h⟩
    · exact ⟨3, by omega, h⟩
  · rintro ⟨u, hu, h⟩
    have : u = 0 ∨ u = 1 ∨ u = 2 ∨ u = 3 := by omega
    rcases this with rfl | rfl | rfl | rfl <;> exact ⟨_, by simp, h⟩
theorem step_bad {p : Prop} {f : Nat → Prop} {t : Nat} {b b' : Bool} (h : b = true ↔ (p ∨ ∃ u, u < t ∧ f u)) (hb : b' = true ↔ (b = true ∨ f t)) : b' = true ↔ (p ∨ ∃ u, u < t + 1 ∧ f u) := by
  rw [hb, h]
  constructor
  · rintro ((h | ⟨u, h1, h2⟩) | h)
    · exact .inl h
    · exact .inr ⟨u, by omega, h2⟩
    · exact .inr ⟨t, by omega, h⟩
  · rintro (h | ⟨u, h1, h2⟩)
    · exact .inl (.inl h)
    · by_cases e : u = t
      · subst e; exact .inr h2
      · exact .inl (.inr ⟨u, by omega, h2⟩)

/-- what was found bad up to row i, and within it up to t -/
def XO (n n2 : Nat) (C : Nat → Int) (P : Nat → Nat → Int) (i : Nat) : Prop := (n2 ≠ n ∨ Bad 1000 C) ∨ ∃ u, u < i ∧ Bad 32 (P u)
def XI (n n2 : Nat) (C : Nat → Int) (P : Nat → Nat → Int) (i : Nat) (Q : Nat → Int) (t : Nat) : Prop := XO n n2 C P i ∨ ∃ u, u < t ∧ (Q u < 0 ∨ 32 < Q u)
def CostIn (wo : World) (P : Nat → Nat → Int) (m : Nat) (X : Prop) (cb ca : Value) (ws : World) : Prop := ∃ b : Bool, cb = .bool b ∧ OwnI .i64 3 wo.heap.size ws ca (alP P m) ∧ (b = true ↔ X)

set_option maxRecDepth 100000 in
set_option maxHeartbeats 16000000 in
theorem walk_KarmaCost (v0 v1 v2 : Value) (w : World) (h0 : IsRecs Try.prog 44 w v0) (h1 : IsQuads w v1) (h2 : IsArr .i64 4 v2) :
    Calls Try.prog 9 #[v0, v1, v2] w fun e w' => e = .returned (.bool true) ∧ Ext w w' := by
  obtain ⟨n, F, L, hr, hwf⟩ := khints_of h0
  obtain ⟨n2, P, hr2⟩ := h1
  obtain ⟨C, rfl, _⟩ := h2.four
  obtain ⟨res, hres⟩ := costRes_ex n F n2 P C
  obtain ⟨r1, r2, r3⟩ := res
  have HRES := Lib.hid hres
  have HRD := Lib.hid hr
  have HRD2 := Lib.hid hr2
  have HWF := Lib.hid hwf
  obtain ⟨a, c, rfl, hnc, hcm, _, hcs⟩ := hr
  obtain ⟨a2, c2, rfl, hnc2, hcm2, _, hcs2⟩ := hr2
  have HCS := Lib.hid hcs
  have HCS2 := Lib.hid hcs2
  have hn63 : (n : Int) ≤ 9223372036854775807 := by unfold maxLen at hcm; omega
  have hn632 : (n2 : Int) ≤ 9223372036854775807 := by unfold maxLen at hcm2; omega
  clear h0 h2 hwf hcm hcm2 hnc hnc2 hcs hcs2 hres
  have HIX : Hid (∀ t, t < 4 → ∀ w, (Instr.index 40 (.agg #[.int .i64 (C 0), .int .i64 (C 1), .int .i64 (C 2), .int .i64 (C 3)]) (.int .i64 (t : Nat))).run Try.prog w = .ok (.int .i64 (C t)) w) := Lib.hid (fun t ht => by
    have : t = 0 ∨ t = 1 ∨ t = 2 ∨ t = 3 := by omega
    rcases this with rfl | rfl | rfl | rfl <;> (intro w; kernel_rfl))
  have HKC := Lib.hid (fun w' v' (hx : Ext w w') (hn : n ≤ 1000) (hn2 : n2 ≤ 1000) (h : RdV 4 w' v' n2 (fun i f => .int .i64 (P i f))) => kcost (.slice a n c) n F L v' n2 P C w' (HRD.out.ext hx) hn HWF.out h hn2 (r1, r2, r3) HRES.out)
  obtain ⟨k0, hk0⟩ : ∃ x, x = C 0 := ⟨_, rfl⟩
  obtain ⟨k1, hk1⟩ : ∃ x, x = C 1 := ⟨_, rfl⟩
  obtain ⟨k2, hk2⟩ : ∃ x, x = C 2 := ⟨_, rfl⟩
  obtain ⟨k3, hk3⟩ : ∃ x, x = C 3 := ⟨_, rfl⟩
  have HCK : Hid (∀ t, t < 4 → [k0, k1, k2, k3].getD t 0 = C t) := Lib.hid (fun t ht => by
    have : t = 0 ∨ t = 1 ∨ t = 2 ∨ t = 3 := by omega
    rcases this with rfl | rfl | rfl | rfl
    · exact hk0
    · exact hk1
    · exact hk2
    · exact hk3)
  rw [← hk0, ← hk1, ← hk2, ← hk3] at HIX HKC ⊢
  clear hk0 hk1 hk2 hk3
  go_enter Try.func9, Try.ntmps9
  go_upto_region 1 with fail
  have hx0 : Ext w (w.alloc (.cells #[.int .i64 k0, .int .i64 k1, .int .i64 k2, .int .i64 k3] 40)) := (Ext.refl w).alloc _
  have y0 := cell_new w #[.int .i64 k0, .int .i64 k1, .int .i64 k2, .int .i64 k3] 40 (0, 0) (j := 0) rfl
  have y1 := cell_new w #[.int .i64 k0, .int .i64 k1, .int .i64 k2, .int .i64 k3] 40 (0, 0) (j := 1) rfl
  have y2 := cell_new w #[.int .i64 k0, .int .i64 k1, .int .i64 k2, .int .i64 k3] 40 (0, 0) (j := 2) rfl
  have y3 := cell_new w #[.int .i64 k0, .int .i64 k1, .int .i64 k2, .int .i64 k3] 40 (0, 0) (j := 3) rfl
  generalize (w.alloc (.cells #[.int .i64 k0, .int .i64 k1, .int .i64 k2, .int .i64 k3] 40)) = w0 at *
  obtain ⟨pc, hpc⟩ : ∃ pc, pc = w.heap.size := ⟨_, rfl⟩
  rw [← hpc] at y0 y1 y2 y3 ⊢
  clear hpc
  go_wp2_with fail
  refine (wakes14 _).mono ?_
  rintro e w1 ⟨rfl, hx1⟩
  have hX1 := hx0.trans hx1
  have y0 := hx1.cellv y0
  have y1 := hx1.cellv y1
  have y2 := hx1.cellv y2
  have y3 := hx1.cellv y3
  clear hx0 hx1
  by_cases hl : 20 < n
  · have hli : (20 : Int) < (n : Int) := by omega
    go_wp2_with fail
    go_ret
    exact ⟨rfl, (by repeat' (first | (with_reducible exact Ext.refl _) | (with_reducible assumption) | (with_reducible refine Ext.alloc ?_ _) | (with_reducible refine Ext.drewN ?_ _) | (with_reducible refine Ext.drew ?_) | (with_reducible refine Ext.trans ?_ (by assumption))))⟩
  have hli : ¬ (20 : Int) < (n : Int) := by omega
  by_cases hl2 : 20 < n2
  · have hl2i : (20 : Int) < (n2 : Int) := by omega
    go_wp2_with fail
    go_ret
    exact ⟨rfl, (by repeat' (first | (with_reducible exact Ext.refl _) | (with_reducible assumption) | (with_reducible refine Ext.alloc ?_ _) | (with_reducible refine Ext.drewN ?_ _) | (with_reducible refine Ext.drew ?_) | (with_reducible refine Ext.trans ?_ (by assumption))))⟩
  have hl2i : ¬ (20 : Int) < (n2 : Int) := by omega
  have hln : n ≤ 20 := by omega
  have hln2 : n2 ≤ 20 := by omega
  clear hl hl2
  go_wp2_with fail
  go_region_held3 (fun w' => w'.cell? ⟨pc, 0, none⟩ = some (.int .i64 k0) ∧ w'.cell? ⟨pc, 1, none⟩ = some (.int .i64 k1) ∧ w'.cell? ⟨pc, 2, none⟩ = some (.int .i64 k2) ∧ w'.cell? ⟨pc, 3, none⟩ = some (.int .i64 k3) ∧ Ext w1 w') (exact ⟨Ext.cellv (w := w1) (by repeat' (first | (with_reducible exact Ext.refl _) | (with_reducible assumption) | (with_reducible refine Ext.alloc ?_ _) | (with_reducible refine Ext.drewN ?_ _) | (with_reducible refine Ext.drew ?_) | (with_reducible refine Ext.trans ?_ (by assumption)))) y0, Ext.cellv (w := w1) (by repeat' (first | (with_reducible exact Ext.refl _) | (with_reducible assumption) | (with_reducible refine Ext.alloc ?_ _) | (with_reducible refine Ext.drewN ?_ _) | (with_reducible refine Ext.drew ?_) | (with_reducible refine Ext.trans ?_ (by assumption)))) y1, Ext.cellv (w := w1) (by repeat' (first | (with_reducible exact Ext.refl _) | (with_reducible assumption) | (with_reducible refine Ext.alloc ?_ _) | (with_reducible refine Ext.drewN ?_ _) | (with_reducible refine Ext.drew ?_) | (with_reducible refine Ext.trans ?_ (by assumption)))) y2, Ext.cellv (w := w1) (by repeat' (first | (with_reducible exact Ext.refl _) | (with_reducible assumption) | (with_reducible refine Ext.alloc ?_ _) | (with_reducible refine Ext.drewN ?_ _) | (with_reducible refine Ext.drew ?_) | (with_reducible refine Ext.trans ?_ (by assumption)))) y3, (by repeat' (first | (with_reducible exact Ext.refl _) | (with_reducible assumption) | (with_reducible refine Ext.alloc ?_ _) | (with_reducible refine Ext.drewN ?_ _) | (with_reducible refine Ext.drew ?_) | (with_reducible refine Ext.trans ?_ (by assumption))))⟩) (first | (refine step_append_rdg (by rfl) _ _ _ (by rfl) 42 (.agg #[.int .i64 0, .int .i64 0, .int .i64 0, .int .i64 0]) 4 32 Try.underlying35 part_zero (by rfl) (by decide) (by decide) w1.heap.size (Ext.size (w := w1) (by repeat' (first | (with_reducible exact Ext.refl _) | (with_reducible assumption) | (with_reducible refine Ext.alloc ?_ _) | (with_reducible refine Ext.drewN ?_ _) | (with_reducible refine Ext.drew ?_) | (with_reducible refine Ext.trans ?_ (by assumption))))) _ 0 [] (by rfl) (by first | exact own_empty _ 4 (Nat.le_refl _) | exact own_ext (own_empty _ 4 (Nat.le_refl _)) (by repeat' (first | (with_reducible exact Ext.refl _) | (with_reducible assumption) | (with_reducible refine Ext.alloc ?_ _) | (with_reducible refine Ext.drewN ?_ _) | (with_reducible refine Ext.drew ?_) | (with_reducible refine Ext.trans ?_ (by assumption))))) _ n2 (rcl 4 (fun i f => .int .i64 (P i f)) n2) (by rfl) ((RdV.ext HRD2.out (hX1.trans (by repeat' (first | (with_reducible exact Ext.refl _) | (with_reducible assumption) | (with_reducible refine Ext.alloc ?_ _) | (with_reducible refine Ext.drewN ?_ _) | (with_reducible refine Ext.drew ?_) | (with_reducible refine Ext.trans ?_ (by assumption)))))).rd (by decide)) (fun u hu => by obtain ⟨i, f, _, _, rfl⟩ := rcl_mem n2 u hu; rfl) (by omega) ?_; intro vN wN hownN hgN; have hRN := RdV.of_rd (Rd.of_own (by simpa using hownN)); have HRN := Lib.hid hRN; have hxN : Ext w1 wN := Below.grown (show Ext w1 _ from (by repeat' (first | (with_reducible exact Ext.refl _) | (with_reducible assumption) | (with_reducible refine Ext.alloc ?_ _) | (with_reducible refine Ext.drewN ?_ _) | (with_reducible refine Ext.drew ?_) | (with_reducible refine Ext.trans ?_ (by assumption))))) hgN (Ext.size (w := w1) (by repeat' (first | (with_reducible exact Ext.refl _) | (with_reducible assumption) | (with_reducible refine Ext.alloc ?_ _) | (with_reducible refine Ext.drewN ?_ _) | (with_reducible refine Ext.drew ?_) | (with_reducible refine Ext.trans ?_ (by assumption))))) (fun g hg => by cases hg; exact Ext.size (w := w1) (by repeat' (first | (with_reducible exact Ext.refl _) | (with_reducible assumption) | (with_reducible refine Ext.alloc ?_ _) | (with_reducible refine Ext.drewN ?_ _) | (with_reducible refine Ext.drew ?_) | (with_reducible refine Ext.trans ?_ (by assumption))))); clear hownN hgN hRN) | (go_at_call 23; refine (HKC.out _ vN (hX1.trans (hxN.trans (by repeat' (first | (with_reducible exact Ext.refl _) | (with_reducible assumption) | (with_reducible refine Ext.alloc ?_ _) | (with_reducible refine Ext.drewN ?_ _) | (with_reducible refine Ext.drew ?_) | (with_reducible refine Ext.trans ?_ (by assumption)))))) (by omega) (by omega) (RdV.ext HRN.out (by repeat' (first | (with_reducible exact Ext.refl _) | (with_reducible assumption) | (with_reducible refine Ext.alloc ?_ _) | (with_reducible refine Ext.drewN ?_ _) | (with_reducible refine Ext.drew ?_) | (with_reducible refine Ext.trans ?_ (by assumption)))))).mono ?_; rintro e wC ⟨rfl, hxC⟩))
  all_goals
    have hx1C : Ext w1 wC := (by repeat' (first | (with_reducible exact Ext.refl _) | (with_reducible assumption) | (with_reducible refine Ext.alloc ?_ _) | (with_reducible refine Ext.drewN ?_ _) | (with_reducible refine Ext.drew ?_) | (with_reducible refine Ext.trans ?_ (by assumption))))
    have hXC := hX1.trans hx1C
    have u0 := hx1C.cellv y0
    have u1 := hx1C.cellv y1
    have u2 := hx1C.cellv y2
    have u3 := hx1C.cellv y3
    clear HKC hxN hxC HRN y0 y1 y2 y3
    by_cases hok : HsOk n F 32
    case neg =>
      obtain ⟨rfl, rfl, rfl⟩ : r1 = 0 ∧ r2 = 0 ∧ r3 = 14 := by have := HRES.out.hint hok; simpa using this
      have HRH := Lib.hid (fun w' (hx : Ext w w') => rhints (.slice a n c) n F L 32 w' (HRD.out.ext hx) (by omega) HWF.out false (by simp [hok]))
      clear hok HRES
      go_wp2_with fail
      refine (HRH.out _ hXC).mono ?_
      rintro e w3 ⟨rfl, hx3⟩
      go_wp2_with fail
      go_ret
      exact ⟨rfl, hXC.trans (by repeat' (first | (with_reducible exact Ext.refl _) | (with_reducible assumption) | (with_reducible refine Ext.alloc ?_ _) | (with_reducible refine Ext.drewN ?_ _) | (with_reducible refine Ext.drew ?_) | (with_reducible refine Ext.trans ?_ (by assumption))))⟩
    have HRH := Lib.hid (fun w' (hx : Ext w w') => rhints (.slice a n c) n F L 32 w' (HRD.out.ext hx) (by omega) HWF.out true (by simp [hok]))
    have HOK := Lib.hid hok
    clear hok
    go_wp2_with fail
    refine (HRH.out _ hXC).mono ?_
    rintro e w3 ⟨rfl, hx3⟩
    have hX3 := hXC.trans hx3
    have z0 := hx3.cellv u0
    have z1 := hx3.cellv u1
    have z2 := hx3.cellv u2
    have z3 := hx3.cellv u3
    clear HRH u0 u1 u2 u3 hXC hx1C hx3
    go_wp2_with fail
    go_loopw [10, 59] (fun cb ct wr => ∃ (t : Nat) (b : Bool), t ≤ 4 ∧ ct = .int .i64 t ∧ cb = .bool b ∧ Hid (b = true ↔ (n2 ≠ n ∨ ∃ u, u < t ∧ (C u < 0 ∨ 1000 < C u))) ∧ Ext w3 wr) (fun _ ct _ => 4 - (intOf ct).toNat)
    case atStart => exact ⟨0, _, by omega, rfl, rfl, Lib.hid ⟨fun h => .inl (by simp at h; omega), fun h => h.elim (fun h => by simp; omega) (fun ⟨u, hu, _⟩ => absurd hu (by omega))⟩, Ext.refl _⟩
    case round =>
      obtain ⟨t, b, ht, rfl, rfl, HB, hx⟩ := hrel
      by_cases h4 : t < 4
      --[[A
      · have ixt := HIX.out t h4
        have hti : (t : Int) < 4 := by omega
        obtain ⟨x, hx'⟩ : ∃ x, x = C t := ⟨_, rfl⟩
        have HSB : Hid (∀ b' : Bool, (b' = true ↔ (b = true ∨ (x < 0 ∨ 1000 < x))) → (b' = true ↔ (n2 ≠ n ∨ ∃ u, u < t + 1 ∧ (C u < 0 ∨ 1000 < C u)))) := Lib.hid (fun b' hb => step_bad HB.out (by rw [← hx']; exact hb))
        rw [← hx'] at ixt
        clear hx' HB
        cases b with
        | true =>
          have HN := Lib.hid (HSB.out true (by simp))
          clear HSB
          go_wp2_with fail
          go_roundw
          case rel => exact ⟨t + 1, true, by omega, by go_num, rfl, HN, hx⟩
          case measure => simp [intOf]; omega
        | false =>
          by_cases q0 : x < 0
          · have HN := Lib.hid (HSB.out true (by simp [q0]))
            clear HSB
            go_wp2_with fail
            go_roundw
            case rel => exact ⟨t + 1, true, by omega, by go_num, rfl, HN, hx⟩
            case measure => simp [intOf]; omega
          · by_cases q1 : 1000 < x
            · have HN := Lib.hid (HSB.out true (by simp [q1]))
              clear HSB
              go_wp2_with fail
              go_roundw
              case rel => exact ⟨t + 1, true, by omega, by go_num, rfl, HN, hx⟩
              case measure => simp [intOf]; omega
            · have HN := Lib.hid (HSB.out false (by simp; omega))
              clear HSB
              go_wp2_with fail
              go_roundw
              case rel => exact ⟨t + 1, false, by omega, by go_num, rfl, HN, hx⟩
              case measure => simp [intOf]; omega
      --]]
      --[[B
      · obtain rfl : t = 4 := by omega
        have HB1 : Hid (b = true ↔ (n2 ≠ n ∨ Bad 1000 C)) := Lib.hid (by rw [HB.out, bad_iff])
        have hXr := hX3.trans hx
        have w0' := hx.cellv z0
        have w1' := hx.cellv z1
        have w2' := hx.cellv z2
        have w3' := hx.cellv z3
        clear HB HIX z0 z1 z2 z3 hx hX3
        obtain ⟨wo, rfl⟩ : ∃ wo : World, wo = wr := ⟨_, rfl⟩
        go_wp2_with fail
        go_loopw [10, 13, 74] (fun cb ca ci ws => ∃ i : Nat, i ≤ n2 ∧ ci = .int .i64 i ∧ CostIn wo P (4 * i) (XO n n2 C P i) cb ca ws ∧ Ext wo ws) (fun _ _ ci _ => n2 - (intOf ci).toNat)
        case atStart => exact ⟨0, Nat.zero_le _, rfl, ⟨b, rfl, OwnI.nil _ _ _ _, ⟨fun h => .inl (HB1.out.1 h), fun h => h.elim HB1.out.2 (fun ⟨u, hu, _⟩ => absurd hu (by omega))⟩⟩, Ext.refl _⟩
        case round =>
          clear HB1
          obtain ⟨i, hi, rfl, ⟨b, rfl, ho, hb⟩, hx⟩ := hrel
          have HO := Lib.hid ho
          have HB := Lib.hid hb
          clear ho hb
          by_cases hlt : i < n2
          --[[C
          · have hii : (i : Int) < (n2 : Int) := by omega
            obtain ⟨b5, o5, rfl, hb5, hcell5⟩ := HCS2.out (by omega)
            have hXi := hXr.trans hx
            have s0 := (hXi.cell hb5).trans (hcell5 i 0 hlt (by omega))
            have s1 := (hXi.cell hb5).trans (hcell5 i 1 hlt (by omega))
            have s2 := (hXi.cell hb5).trans (hcell5 i 2 hlt (by omega))
            have s3 := (hXi.cell hb5).trans (hcell5 i 3 hlt (by omega))
            simp only [← Nat.add_assoc, Nat.add_zero] at s0 s1 s2 s3
            have HIP : Hid (∀ t, t < 4 → ∀ w, (Instr.index 40 (.agg #[.int .i64 (P i 0), .int .i64 (P i 1), .int .i64 (P i 2), .int .i64 (P i 3)]) (.int .i64 (t : Nat))).run Try.prog w = .ok (.int .i64 (P i t)) w) := Lib.hid (fun t ht => by
              have : t = 0 ∨ t = 1 ∨ t = 2 ∨ t = 3 := by omega
              rcases this with rfl | rfl | rfl | rfl <;> (intro w; kernel_rfl))
            obtain ⟨Q, hQ⟩ : ∃ Q, Q = P i := ⟨_, rfl⟩
            have HQE := Lib.hid hQ
            rw [← hQ] at s0 s1 s2 s3 HIP
            obtain ⟨p0, hp0⟩ : ∃ x, x = Q 0 := ⟨_, rfl⟩
            obtain ⟨p1, hp1⟩ : ∃ x, x = Q 1 := ⟨_, rfl⟩
            obtain ⟨p2, hp2⟩ : ∃ x, x = Q 2 := ⟨_, rfl⟩
            obtain ⟨p3, hp3⟩ : ∃ x, x = Q 3 := ⟨_, rfl⟩
            rw [← hp0, ← hp1, ← hp2, ← hp3] at HIP
            rw [← hp0] at s0
            rw [← hp1] at s1
            rw [← hp2] at s2
            rw [← hp3] at s3
            clear hcell5 hp0 hp1 hp2 hp3 hQ
            obtain ⟨wp, rfl⟩ : ∃ wp : World, wp = wr := ⟨_, rfl⟩
            go_upto_region 18 with fail
            have e0 := cell_new wp #[.int .i64 p0, .int .i64 p1, .int .i64 p2, .int .i64 p3] 42 (0, 0) (j := 0) rfl
            have e1 := cell_new wp #[.int .i64 p0, .int .i64 p1, .int .i64 p2, .int .i64 p3] 42 (0, 0) (j := 1) rfl
            have e2 := cell_new wp #[.int .i64 p0, .int .i64 p1, .int .i64 p2, .int .i64 p3] 42 (0, 0) (j := 2) rfl
            have e3 := cell_new wp #[.int .i64 p0, .int .i64 p1, .int .i64 p2, .int .i64 p3] 42 (0, 0) (j := 3) rfl
            have hx9 : Ext wp (wp.alloc (.cells #[.int .i64 p0, .int .i64 p1, .int .i64 p2, .int .i64 p3] 42)) := (Ext.refl wp).alloc _
            generalize (wp.alloc (.cells #[.int .i64 p0, .int .i64 p1, .int .i64 p2, .int .i64 p3] 42)) = w9 at *
            obtain ⟨px, hpx⟩ : ∃ px, px = wp.heap.size := ⟨_, rfl⟩
            rw [← hpx] at e0 e1 e2 e3 ⊢
            have hxo9 := hx.trans hx9
            have HO9 := Lib.hid (HO.out.ext hx9)
            clear hpx s0 s1 s2 s3 HO hx9
            go_wp2_with fail
            go_loopw [10, 13, 80] (fun cb ca ct ws => ∃ t : Nat, t ≤ 4 ∧ ct = .int .i64 t ∧ CostIn wo P (4 * i + t) (XI n n2 C P i Q t) cb ca ws ∧ Ext wo ws) (fun _ _ ct _ => 4 - (intOf ct).toNat)
            case atStart => exact ⟨0, by omega, rfl, ⟨b, rfl, HO9.out, ⟨fun h => .inl (HB.out.1 h), fun h => h.elim HB.out.2 (fun ⟨u, hu, _⟩ => absurd hu (by omega))⟩⟩, hxo9⟩
            case round =>
              clear HO9 HB e0 e1 e2 e3
              obtain ⟨t, ht, rfl, ⟨b, rfl, ho, hb⟩, hxu⟩ := hrel
              have HO := Lib.hid ho
              have HB := Lib.hid hb
              clear ho hb
              by_cases h4 : t < 4
              --[[D
              · have ixt := HIP.out t h4
                have hti : (t : Int) < 4 := by omega
                have hal := alP_succ P (i := i) h4
                rw [← HQE.out] at hal
                obtain ⟨x, hx'⟩ : ∃ x, x = Q t := ⟨_, rfl⟩
                have HSB : Hid (∀ b' : Bool, (b' = true ↔ (b = true ∨ (x < 0 ∨ 32 < x))) → (b' = true ↔ XI n n2 C P i Q (t + 1))) := Lib.hid (fun b' hb => step_bad HB.out (by rw [← hx']; exact hb))
                rw [← hx'] at ixt hal
                have HAL := Lib.hid hal
                clear hx' HB hal
                have fin : ∀ b', (b' = true ↔ (b = true ∨ (x < 0 ∨ 32 < x))) → ∀ v' w', OwnI .i64 3 wo.heap.size w' v' (alP P (4 * i + t) ++ [x]) → CostIn wo P (4 * i + (t + 1)) (XI n n2 C P i Q (t + 1)) (.bool b') v' w' := fun b' hb v' w' ho => ⟨b', rfl, by rw [← Nat.add_assoc, HAL.out]; exact ho, HSB.out b' hb⟩
                have FIN := Lib.hid fin
                clear fin HSB HAL
                cases b with
                | true =>
                  go_wp2_with (at_builtin; refine wpList_append_ints rfl _ _ 37 rfl 3 .i64 0 8 Try.underlying37 kints_info (by decide) wo (hxu.alloc _) _ _ rfl (HO.out.ext ((Ext.refl _).alloc _)) _ _ rfl (RdI.one _ _ _ _) (fits_small (by rw [alP_len]; simp; omega)) ?_)
                  intro v' w' ho' hx''
                  have HF := Lib.hid (FIN.out true (by simp) v' w' ho')
                  clear ho'
                  go_wp2_with fail
                  refine ⟨?_, ?measure⟩
                  (repeat apply Exists.intro)
                  refine ⟨?rel, rfl⟩
                  case rel => exact ⟨t + 1, by omega, by go_num, HF.out, hx''⟩
                  case measure => simp [intOf]; omega
                | false =>
                  by_cases q0 : x < 0
                  · go_wp2_with (at_builtin; refine wpList_append_ints rfl _ _ 37 rfl 3 .i64 0 8 Try.underlying37 kints_info (by decide) wo (hxu.alloc _) _ _ rfl (HO.out.ext ((Ext.refl _).alloc _)) _ _ rfl (RdI.one _ _ _ _) (fits_small (by rw [alP_len]; simp; omega)) ?_)
                    intro v' w' ho' hx''
                    have HF := Lib.hid (FIN.out true (by simp [q0]) v' w' ho')
                    clear ho'
                    go_wp2_with fail
                    refine ⟨?_, ?measure⟩
                    (repeat apply Exists.intro)
                    refine ⟨?rel, rfl⟩
                    case rel => exact ⟨t + 1, by omega, by go_num, HF.out, hx''⟩
                    case measure => simp [intOf]; omega
                  · by_cases q1 : 32 < x
                    · go_wp2_with (at_builtin; refine wpList_append_ints rfl _ _ 37 rfl 3 .i64 0 8 Try.underlying37 kints_info (by decide) wo (hxu.alloc _) _ _ rfl (HO.out.ext ((Ext.refl _).alloc _)) _ _ rfl (RdI.one _ _ _ _) (fits_small (by rw [alP_len]; simp; omega)) ?_)
                      intro v' w' ho' hx''
                      have HF := Lib.hid (FIN.out true (by simp [q1]) v' w' ho')
                      clear ho'
                      go_wp2_with fail
                      refine ⟨?_, ?measure⟩
                      (repeat apply Exists.intro)
                      refine ⟨?rel, rfl⟩
                      case rel => exact ⟨t + 1, by omega, by go_num, HF.out, hx''⟩
                      case measure => simp [intOf]; omega
                    · go_wp2_with (at_builtin; refine wpList_append_ints rfl _ _ 37 rfl 3 .i64 0 8 Try.underlying37 kints_info (by decide) wo (hxu.alloc _) _ _ rfl (HO.out.ext ((Ext.refl _).alloc _)) _ _ rfl (RdI.one _ _ _ _) (fits_small (by rw [alP_len]; simp; omega)) ?_)
                      intro v' w' ho' hx''
                      have HF := Lib.hid (FIN.out false (by simp; omega) v' w' ho')
                      clear ho'
                      go_wp2_with fail
                      refine ⟨?_, ?measure⟩
                      (repeat apply Exists.intro)
                      refine ⟨?rel, rfl⟩
                      case rel => exact ⟨t + 1, by omega, by go_num, HF.out, hx''⟩
                      case measure => simp [intOf]; omega
              --]]
              --[[E
              · obtain rfl : t = 4 := by omega
                have hfin : CostIn wo P (4 * (i + 1)) (XO n n2 C P (i + 1)) (.bool b) u13 wr := by
                  refine ⟨b, rfl, HO.out, ?_⟩
                  rw [HB.out]
                  unfold XI XO
                  rw [← bad_iff, HQE.out]
                  constructor
                  · rintro ((h | ⟨u, h1, h2⟩) | h)
                    · exact .inl h
                    · exact .inr ⟨u, by omega, h2⟩
                    · exact .inr ⟨i, by omega, h⟩
                  · rintro (h | ⟨u, h1, h2⟩)
                    · exact .inl (.inl h)
                    · by_cases e : u = i
                      · subst e; exact .inr h2
                      · exact .inl (.inr ⟨u, by omega, h2⟩)
                have HFIN := Lib.hid hfin
                clear HB hfin
                go_wp2_with fail
                go_roundw
                case rel => exact ⟨i + 1, by omega, by go_num, HFIN.out, hxu⟩
                case measure => simp [intOf]; omega
              --]]
          --]]
          --[[F
          · obtain rfl : i = n2 := by omega
            have hXi := hXr.trans hx
            cases b with
            | true =>
              obtain ⟨rfl, rfl, rfl⟩ : r1 = 0 ∧ r2 = 0 ∧ r3 = 6 := by
                have h9 : XO n i C P i := HB.out.1 rfl
                have := HRES.out.arg HOK.out (by
                  rcases h9 with (h | h) | ⟨u, h1, h2⟩
                  · exact .inl h
                  · exact .inr (.inl h)
                  · exact .inr (.inr ⟨u, h1, h2⟩))
                simpa using this
              clear HRES HB
              go_wp2_with fail
              go_ret
              exact ⟨rfl, hXi⟩
            | false =>
              have hnx : ¬ XO n i C P i := fun h => by have := HB.out.2 h; cases this
              have hnn : i = n := by
                by_cases e : i = n
                · exact e
                · exact absurd (.inl (.inl e)) hnx
              have HNC : Hid (¬ Bad 1000 C) := Lib.hid (fun h => hnx (.inl (.inr h)))
              have HNP : Hid (∀ u, u < i → ¬ Bad 32 (P u)) := Lib.hid (fun u hu h => hnx (.inr ⟨u, hu, h⟩))
              clear hnx HB
              subst hnn
              have y0 := hx.cellv w0'
              have y1 := hx.cellv w1'
              have y2 := hx.cellv w2'
              have y3 := hx.cellv w3'
              clear w0' w1' w2' w3'
              have hn8 := HOK.out.2.2
              obtain ⟨wq, rfl⟩ : ∃ wq : World, wq = wr := ⟨_, rfl⟩
              go_wp2_with fail
              go_loopw [111] (fun ci ws => ∃ k : Nat, k ≤ i ∧ ci = .int .i64 k ∧ Hid (∀ j, j < k → F j 2 ≤ 100000) ∧ Ext wq ws) (fun ci _ => i - (intOf ci).toNat)
              case atStart => exact ⟨0, Nat.zero_le _, rfl, Lib.hid (fun j hj => absurd hj (by omega)), Ext.refl _⟩
              case round =>
                obtain ⟨k, hk, rfl, HOF, hxs⟩ := hrel
                have hXs := hXi.trans hxs
                by_cases hltk : k < i
                --[[G
                · have hkk : (k : Int) < (i : Int) := by omega
                  obtain ⟨bb, o, rfl, hbb, hcell⟩ := HCS.out (by omega)
                  have s0 := (hXs.cell hbb).trans (hcell k 0 hltk (by omega))
                  have s1 := (hXs.cell hbb).trans (hcell k 1 hltk (by omega))
                  have s2 := (hXs.cell hbb).trans (hcell k 2 hltk (by omega))
                  have s3 := (hXs.cell hbb).trans (hcell k 3 hltk (by omega))
                  simp only [Proofs.Ytepnmclgkbphmaa.HV, ← Nat.add_assoc, Nat.add_zero, if_pos (show (0 : Nat) < 3 by omega), if_pos (show (1 : Nat) < 3 by omega), if_pos (show (2 : Nat) < 3 by omega), if_neg (show ¬ (3 : Nat) < 3 by omega)] at s0 s1 s2 s3
                  obtain ⟨x0, hx0⟩ : ∃ x, F k 0 = x := ⟨_, rfl⟩
                  obtain ⟨x1, hx1⟩ : ∃ x, F k 1 = x := ⟨_, rfl⟩
                  obtain ⟨x2, hx2⟩ : ∃ x, F k 2 = x := ⟨_, rfl⟩
                  obtain ⟨lp, hlp⟩ : ∃ x, L k = x := ⟨_, rfl⟩
                  rw [hx0] at s0
                  rw [hx1] at s1
                  rw [hx2] at s2
                  rw [hlp] at s3
                  have HX2 := Lib.hid hx2
                  clear hcell hx0 hx1 hx2 hlp
                  go_upto_region 30 with fail
                  have kb := cell_new wr #[.int .i64 x0, .int .i64 x1, .int .i64 x2, .bool lp] 44 (0, 0) (j := 2) rfl
                  have hx9 : Ext wr (wr.alloc (.cells #[.int .i64 x0, .int .i64 x1, .int .i64 x2, .bool lp] 44)) := (Ext.refl wr).alloc _
                  generalize (wr.alloc (.cells #[.int .i64 x0, .int .i64 x1, .int .i64 x2, .bool lp] 44)) = w9 at *
                  obtain ⟨px, hpx⟩ : ∃ px, px = wr.heap.size := ⟨_, rfl⟩
                  rw [← hpx] at kb ⊢
                  clear hpx s0 s1 s2 s3
                  by_cases hbig : 100000 < x2
                  · obtain ⟨rfl, rfl, rfl⟩ : r1 = 0 ∧ r2 = 0 ∧ r3 = 4 := by
                      have := HRES.out.full HOK.out rfl HNC.out HNP.out ⟨k, hltk, by rw [HX2.out]; exact hbig⟩
                      simpa using this
                    clear HRES
                    go_wp2_with fail
                    go_ret
                    exact ⟨rfl, hXs.trans hx9⟩
                  · have HOF2 : Hid (∀ j, j < k + 1 → F j 2 ≤ 100000) := Lib.hid (fun j hj => by
                      by_cases e : j = k
                      · subst e; rw [HX2.out]; omega
                      · exact HOF.out j (by omega))
                    go_wp2_with fail
                    go_roundw
                    case rel => exact ⟨k + 1, by omega, by go_num, HOF2, hxs.trans hx9⟩
                    case measure => simp [intOf]; omega
                --]]
                --[[H
                · obtain rfl : k = i := by omega
                  have hre := HRES.out.ok HOK.out rfl HNC.out HNP.out HOF.out
                  have HB9 := lcmK_le HOK.out (k := k) (Nat.le_refl _)
                  have HRC := Lib.hid (fun w' (hx : Ext w w') => rcommon (.slice a k c) k F L 32 w' (HRD.out.ext hx) HOK.out)
                  have HRT := Lib.hid (fun w' (hx : Ext w w') va (hv : RdI .i64 w' va (alP P (4 * k))) => rcost (.slice a k c) k F L va P C (lcmK F k) w' (HRD.out.ext hx) HOK.out hv HNP.out HNC.out HOF.out (by omega) k0 k1 k2 k3 HCK.out)
                  obtain ⟨T, hT⟩ : ∃ T, T = topC (lcmK F k) F (fun i t => (P i t).toNat) (fun t => (C t).toNat) k := ⟨_, rfl⟩
                  obtain ⟨B, hBe⟩ : ∃ B, B = lcmK F k := ⟨_, rfl⟩
                  rw [← hT] at hre HRT
                  rw [← hBe] at hre HRT HRC
                  obtain ⟨rfl, rfl, rfl⟩ : r1 = (T : Nat) ∧ r2 = (B : Nat) ∧ r3 = 0 := by simpa using hre
                  have HO9 := Lib.hid (HO.out.ext hxs).rd
                  have q0 := hxs.cellv y0
                  have q1 := hxs.cellv y1
                  have q2 := hxs.cellv y2
                  have q3 := hxs.cellv y3
                  clear HRES hre hT hBe HO y0 y1 y2 y3
                  go_wp2_with fail
                  refine (HRC.out _ hXs).mono ?_
                  rintro e wA ⟨rfl, hxA⟩
                  have q0 := hxA.cellv q0
                  have q1 := hxA.cellv q1
                  have q2 := hxA.cellv q2
                  have q3 := hxA.cellv q3
                  go_wp2_with fail
                  refine (HRT.out _ (hXs.trans hxA) _ (HO9.out.ext hxA)).mono ?_
                  rintro e wB ⟨rfl, hxB⟩
                  go_wp2_with fail
                  go_ret
                  exact ⟨rfl, hXs.trans (hxA.trans hxB)⟩
                --]]
          --]]
      --]]
end Go.Proofs.Ytepnmclgkbphmaa
