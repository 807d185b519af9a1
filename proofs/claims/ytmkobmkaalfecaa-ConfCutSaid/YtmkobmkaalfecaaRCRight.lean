/-
  gradineref03.Right of any configuration. No condition but that the hints read, and are few.
-/
import Derived.Test.YtmkobmkaalfecaaRHints
import Derived.Deep.Cut
import Derived.Deep.CutRange
import Derived.Deep.CutBlock
namespace Go.Proofs.Ytmkobmkaalfecaa
open Go.RowKit

def RA (N : Nat → Int) : Prop := Btw (N 0) 1 4 ∧ Btw (N 1) 1 4 ∧ Btw (N 2) 1 32 ∧ Btw (N 3) 1 16
def RB (N : Nat → Int) : Prop := RA N ∧ Btw (N 4) 1 3 ∧ Btw (N 5) 0 2 ∧ (N 5 ≠ 0 → N 4 = 2)
def RC (N : Nat → Int) (k : Nat) : Prop := RB N ∧ ∀ t, t < k → Btw (N (6 + t)) 1 2 ∧ Btw (N (9 + t)) 1 16
def RD (N : Nat → Int) : Prop := RC N 3 ∧ Btw (N 12) 1 8 ∧ Btw (N 13) 1 100 ∧ Btw (N 14) 0 16 ∧ Btw (N 15) 1 16

set_option maxRecDepth 100000 in
set_option maxHeartbeats 4000000 in
theorem rcright (N : Nat → Int) (v : Value) (n : Nat) (F : Nat → Nat → Int) (L : Nat → Bool) (w : World) (h : RdH w v n F L) (hn : n ≤ 20) (hwf : ∀ i j, i < n → j < 3 → (Lit.int .i64 (F i j)).wf = true) (r : Bool) (hr : r = true ↔ CfgOk N n F) :
    Calls Try.prog 49 #[cfgV N v] w fun e w' => e = .returned (.bool r) ∧ Ext w w' := by
  have HRR := Lib.hid hr
  have HW := Lib.hid hwf
  have HBAD := Lib.hid (fun (h : ¬ CfgOk N n F) => ret_true_false hr h)
  have HH := Lib.hid h
  obtain ⟨sa, sc, rfl, _⟩ := h
  obtain ⟨v, hv⟩ : ∃ v, v = Value.slice sa n sc := ⟨_, rfl⟩
  rw [← hv] at HH ⊢
  unfold cfgV
  have HV := Lib.hid hv
  clear hr hwf hv
  go_enter Try.func49, Try.ntmps49
  go_upto_region 1 with fail
  have hC := cfg_new w N v 75
  have hX := (Ext.refl w).alloc (.cells #[.int .i64 (N 0), .int .i64 (N 1), .int .i64 (N 2), .int .i64 (N 3), .int .i64 (N 4), .int .i64 (N 5), .int .i64 (N 6), .int .i64 (N 7), .int .i64 (N 8), .int .i64 (N 9), .int .i64 (N 10), .int .i64 (N 11), .int .i64 (N 12), .int .i64 (N 13), .int .i64 (N 14), .int .i64 (N 15), v] 75)
  obtain ⟨p, hp⟩ : ∃ p, p = w.heap.size := ⟨_, rfl⟩
  rw [← hp] at hC ⊢
  clear hp
  generalize (w.alloc (.cells #[.int .i64 (N 0), .int .i64 (N 1), .int .i64 (N 2), .int .i64 (N 3), .int .i64 (N 4), .int .i64 (N 5), .int .i64 (N 6), .int .i64 (N 7), .int .i64 (N 8), .int .i64 (N 9), .int .i64 (N 10), .int .i64 (N 11), .int .i64 (N 12), .int .i64 (N 13), .int .i64 (N 14), .int .i64 (N 15), v] 75)) = w1 at *
  have HC := Lib.hid hC
  clear hC
  have c0 := HC.out.1 0 (by omega)
  have c1 := HC.out.1 1 (by omega)
  have c2 := HC.out.1 2 (by omega)
  have c3 := HC.out.1 3 (by omega)
  have c4 := HC.out.1 4 (by omega)
  have c5 := HC.out.1 5 (by omega)
  have c12 := HC.out.1 12 (by omega)
  have c13 := HC.out.1 13 (by omega)
  have c14 := HC.out.1 14 (by omega)
  have c15 := HC.out.1 15 (by omega)
  have c16 := HC.out.2
  rw [HV.out] at c16
  go_cut [3] from 5 to 22 (fun s3 wx => ∃ q : Bool, s3 = .bool q ∧ Hid (q = true ↔ RA N) ∧ wx = w1)
  case first =>
    go_wp2_with fail
    by_cases h0 : Btw (N 0) 1 4
    rotate_left
    · refine (rbetween _ 1 4 false (decide_eq_false h0) _).mono ?_
      rintro e w3 ⟨rfl, rfl⟩
      go_wp2_with fail
      go_meet
      exact ⟨false, rfl, Lib.hid ⟨fun h => (by cases h), fun h => absurd h.1 (by assumption)⟩, rfl⟩
    refine (rbetween _ 1 4 true h0.dec _).mono ?_
    rintro e w3 ⟨rfl, rfl⟩
    go_wp2_with fail
    by_cases h1 : Btw (N 1) 1 4
    rotate_left
    · refine (rbetween _ 1 4 false (decide_eq_false h1) _).mono ?_
      rintro e w3 ⟨rfl, rfl⟩
      go_wp2_with fail
      go_meet
      exact ⟨false, rfl, Lib.hid ⟨fun h => (by cases h), fun h => absurd h.2.1 (by assumption)⟩, rfl⟩
    refine (rbetween _ 1 4 true h1.dec _).mono ?_
    rintro e w3 ⟨rfl, rfl⟩
    go_wp2_with fail
    by_cases h2 : Btw (N 2) 1 32
    rotate_left
    · refine (rbetween _ 1 32 false (decide_eq_false h2) _).mono ?_
      rintro e w3 ⟨rfl, rfl⟩
      go_wp2_with fail
      go_meet
      exact ⟨false, rfl, Lib.hid ⟨fun h => (by cases h), fun h => absurd h.2.2.1 (by assumption)⟩, rfl⟩
    refine (rbetween _ 1 32 true h2.dec _).mono ?_
    rintro e w3 ⟨rfl, rfl⟩
    go_wp2_with fail
    by_cases h3 : Btw (N 3) 1 16
    rotate_left
    · refine (rbetween _ 1 16 false (decide_eq_false h3) _).mono ?_
      rintro e w3 ⟨rfl, rfl⟩
      go_wp2_with fail
      go_meet
      exact ⟨false, rfl, Lib.hid ⟨fun h => (by cases h), fun h => absurd h.2.2.2 (by assumption)⟩, rfl⟩
    refine (rbetween _ 1 16 true h3.dec _).mono ?_
    rintro e w3 ⟨rfl, rfl⟩
    go_wp2_with fail
    go_meet
    exact ⟨true, rfl, Lib.hid (iff_of_true rfl ⟨h0, h1, h2, h3⟩), rfl⟩
  case rest =>
    obtain ⟨q, rfl, hq, rfl⟩ := hcut
    go_upto_region 2 with fail
    go_cut [3] from 23 to 43 (fun s3 wx => ∃ q : Bool, s3 = .bool q ∧ Hid (q = true ↔ RB N) ∧ wx = wc)
    case first =>
      cases q
      · go_wp2_with fail
        go_meet
        exact ⟨false, rfl, Lib.hid ⟨fun h => (by cases h), fun h => absurd (hq.out.2 h.1) (by simp)⟩, rfl⟩
      · go_wp2_with fail
        by_cases h4 : Btw (N 4) 1 3
        rotate_left
        · refine (rbetween _ 1 3 false (decide_eq_false h4) _).mono ?_
          rintro e w3 ⟨rfl, rfl⟩
          go_wp2_with fail
          go_meet
          exact ⟨false, rfl, Lib.hid ⟨fun h => (by cases h), fun h => absurd h.2.1 (by assumption)⟩, rfl⟩
        refine (rbetween _ 1 3 true h4.dec _).mono ?_
        rintro e w3 ⟨rfl, rfl⟩
        go_wp2_with fail
        by_cases h5 : Btw (N 5) 0 2
        rotate_left
        · refine (rbetween _ 0 2 false (decide_eq_false h5) _).mono ?_
          rintro e w3 ⟨rfl, rfl⟩
          go_wp2_with fail
          go_meet
          exact ⟨false, rfl, Lib.hid ⟨fun h => (by cases h), fun h => absurd h.2.2.1 (by assumption)⟩, rfl⟩
        refine (rbetween _ 0 2 true h5.dec _).mono ?_
        rintro e w3 ⟨rfl, rfl⟩
        by_cases e5 : N 5 = 0
        · rw [e5] at c5
          have E5 := Lib.hid e5
          clear e5
          go_wp2_with fail
          go_meet
          exact ⟨true, rfl, Lib.hid (iff_of_true rfl ⟨hq.out.1 (by first | rfl | trivial), h4, h5, fun h => absurd E5.out h⟩), rfl⟩
        · have e5b : (N 5 == 0) = false := by rw [beq_eq_false_iff_ne]; exact e5
          by_cases e4 : N 4 = 2
          · rw [e4] at c4
            have E4 := Lib.hid e4
            clear e4
            go_wp2_with fail
            go_meet
            exact ⟨true, rfl, Lib.hid (iff_of_true rfl ⟨hq.out.1 (by first | rfl | trivial), h4, h5, fun _ => E4.out⟩), rfl⟩
          · have e4b : (N 4 == 2) = false := by rw [beq_eq_false_iff_ne]; exact e4
            go_wp2_with fail
            go_meet
            exact ⟨false, rfl, Lib.hid ⟨fun h => (by cases h), fun h => absurd (h.2.2.2 e5) e4⟩, rfl⟩
    case rest =>
      clear hq q
      obtain ⟨q, rfl, hq, rfl⟩ := hcut
      go_wp2_with fail
      go_loopw [3, 4] (fun cq ci wr => ∃ (k : Nat) (q : Bool), k ≤ 3 ∧ ci = .int .i64 k ∧ cq = .bool q ∧ Hid (q = true ↔ RC N k) ∧ wr = wc) (fun _ ci _ => 3 - (intOf ci).toNat)
      case atStart => exact ⟨0, q, by omega, rfl, rfl, Lib.hid ⟨fun h => ⟨hq.out.1 h, fun t ht => absurd ht (by omega)⟩, fun h => hq.out.2 h.1⟩, rfl⟩
      case round =>
        clear hq q
        obtain ⟨k, q, hk, rfl, rfl, hq, rfl⟩ := hrel
        by_cases hk3 : k < 3
        · have x1 := HC.out.1 (6 + k) (by omega)
          have x2 := HC.out.1 (9 + k) (by omega)
          have hki : (k : Int) < 3 := by omega
          have snoc : (Btw (N (6 + k)) 1 2 ∧ Btw (N (9 + k)) 1 16) → RC N k → RC N (k + 1) := by
            intro hb hr
            refine ⟨hr.1, fun t ht => ?_⟩
            by_cases e : t < k
            · exact hr.2 t e
            · obtain rfl : t = k := by omega
              exact hb
          have less : RC N (k + 1) → RC N k ∧ Btw (N (6 + k)) 1 2 ∧ Btw (N (9 + k)) 1 16 := fun h => ⟨⟨h.1, fun t ht => h.2 t (by omega)⟩, h.2 k (by omega)⟩
          have SNOC := Lib.hid snoc
          have LESS := Lib.hid less
          clear snoc less
          cases q
          · go_wp2_with fail
            go_roundw
            case rel => exact ⟨k + 1, false, by omega, by go_num, rfl, Lib.hid ⟨fun h => (by cases h), fun h => absurd (hq.out.2 (LESS.out h).1) (by simp)⟩, by first | rfl | trivial⟩
            case measure => simp [intOf]; omega
          · go_wp2_with fail
            by_cases b1 : Btw (N (6 + k)) 1 2
            rotate_left
            · refine (rbetween _ 1 2 false (decide_eq_false b1) _).mono ?_
              rintro e w3 ⟨rfl, rfl⟩
              go_wp2_with fail
              go_roundw
              case rel => exact ⟨k + 1, false, by omega, by go_num, rfl, Lib.hid ⟨fun h => (by cases h), fun h => absurd (LESS.out h).2.1 b1⟩, by first | rfl | trivial⟩
              case measure => simp [intOf]; omega
            refine (rbetween _ 1 2 true b1.dec _).mono ?_
            rintro e w3 ⟨rfl, rfl⟩
            go_wp2_with fail
            by_cases b2 : Btw (N (9 + k)) 1 16
            rotate_left
            · refine (rbetween _ 1 16 false (decide_eq_false b2) _).mono ?_
              rintro e w3 ⟨rfl, rfl⟩
              go_wp2_with fail
              go_roundw
              case rel => exact ⟨k + 1, false, by omega, by go_num, rfl, Lib.hid ⟨fun h => (by cases h), fun h => absurd (LESS.out h).2.2 b2⟩, by first | rfl | trivial⟩
              case measure => simp [intOf]; omega
            refine (rbetween _ 1 16 true b2.dec _).mono ?_
            rintro e w3 ⟨rfl, rfl⟩
            go_wp2_with fail
            go_roundw
            case rel => exact ⟨k + 1, true, by omega, by go_num, rfl, Lib.hid (iff_of_true rfl (SNOC.out ⟨b1, b2⟩ (hq.out.1 (by first | rfl | trivial)))), by first | rfl | trivial⟩
            case measure => simp [intOf]; omega
        · obtain rfl : k = 3 := by omega
          go_upto_region 7 with fail
          go_cut [3] from 63 to 83 (fun s3 wx => ∃ q : Bool, s3 = .bool q ∧ Hid (q = true ↔ RD N) ∧ wx = wr)
          case first =>
            cases q
            · go_wp2_with fail
              go_meet
              exact ⟨false, rfl, Lib.hid ⟨fun h => (by cases h), fun h => absurd (hq.out.2 h.1) (by simp)⟩, rfl⟩
            · go_wp2_with fail
              by_cases h12 : Btw (N 12) 1 8
              rotate_left
              · refine (rbetween _ 1 8 false (decide_eq_false h12) _).mono ?_
                rintro e w3 ⟨rfl, rfl⟩
                go_wp2_with fail
                go_meet
                exact ⟨false, rfl, Lib.hid ⟨fun h => (by cases h), fun h => absurd h.2.1 (by assumption)⟩, rfl⟩
              refine (rbetween _ 1 8 true h12.dec _).mono ?_
              rintro e w3 ⟨rfl, rfl⟩
              go_wp2_with fail
              by_cases h13 : Btw (N 13) 1 100
              rotate_left
              · refine (rbetween _ 1 100 false (decide_eq_false h13) _).mono ?_
                rintro e w3 ⟨rfl, rfl⟩
                go_wp2_with fail
                go_meet
                exact ⟨false, rfl, Lib.hid ⟨fun h => (by cases h), fun h => absurd h.2.2.1 (by assumption)⟩, rfl⟩
              refine (rbetween _ 1 100 true h13.dec _).mono ?_
              rintro e w3 ⟨rfl, rfl⟩
              go_wp2_with fail
              by_cases h14 : Btw (N 14) 0 16
              rotate_left
              · refine (rbetween _ 0 16 false (decide_eq_false h14) _).mono ?_
                rintro e w3 ⟨rfl, rfl⟩
                go_wp2_with fail
                go_meet
                exact ⟨false, rfl, Lib.hid ⟨fun h => (by cases h), fun h => absurd h.2.2.2.1 (by assumption)⟩, rfl⟩
              refine (rbetween _ 0 16 true h14.dec _).mono ?_
              rintro e w3 ⟨rfl, rfl⟩
              go_wp2_with fail
              by_cases h15 : Btw (N 15) 1 16
              rotate_left
              · refine (rbetween _ 1 16 false (decide_eq_false h15) _).mono ?_
                rintro e w3 ⟨rfl, rfl⟩
                go_wp2_with fail
                go_meet
                exact ⟨false, rfl, Lib.hid ⟨fun h => (by cases h), fun h => absurd h.2.2.2.2 (by assumption)⟩, rfl⟩
              refine (rbetween _ 1 16 true h15.dec _).mono ?_
              rintro e w3 ⟨rfl, rfl⟩
              go_wp2_with fail
              go_meet
              exact ⟨true, rfl, Lib.hid (iff_of_true rfl ⟨hq.out.1 (by first | rfl | trivial), h12, h13, h14, h15⟩), rfl⟩
          case rest =>
            clear hq
            obtain ⟨q, rfl, hq, rfl⟩ := hcut
            cases q
            · obtain rfl := HBAD.out (fun ok => absurd (hq.out.2 ⟨⟨⟨⟨ok.n0, ok.n1, ok.n2, ok.n3⟩, ok.n4, ok.n5, ok.m5⟩, ok.pol⟩, ok.n12, ok.n13, ok.n14, ok.n15⟩) (by simp))
              go_wp2_with fail
              go_ret
              exact ⟨rfl, hX⟩
            · obtain ⟨⟨⟨⟨h0, h1, h2, h3⟩, h4, h5, m5⟩, hpol⟩, h12, h13, h14, h15⟩ := hq.out.1 (by first | rfl | trivial)
              have hiff : (N 5 ≠ 2 → n = 0) → (r = true ↔ HsOk n F (N 2)) := fun h => HRR.out.trans ⟨fun ok => ok.hs, fun hs => ⟨hpol, h0, h1, h2, h3, h4, h5, m5, h12, h13, h14, h15, h, hs⟩⟩
              have HIFF := Lib.hid hiff
              have HXX := Lib.hid hX
              clear hiff h0 h1 h2 h3 h4 h5 m5 hpol h12 h13 h14 h15 hq
              by_cases e5 : N 5 = 2
              · rw [e5] at c5
                have E5 := Lib.hid e5
                clear e5
                go_wp2_with fail
                refine (rhints _ _ F L (N 2) _ (by rw [← HV.out]; exact HH.out.ext HXX.out) (by omega) HW.out r (HIFF.out (fun h => absurd E5.out h))).mono ?_
                rintro e w3 ⟨rfl, hx3⟩
                go_wp2_with fail
                go_ret
                exact ⟨rfl, (by repeat' (first | (with_reducible exact Ext.refl _) | (with_reducible assumption) | (with_reducible refine Ext.alloc ?_ _) | (with_reducible refine Ext.drewN ?_ _) | (with_reducible refine Ext.drew ?_) | (with_reducible refine Ext.trans ?_ (by assumption))))⟩
              · have e5b : (N 5 == 2) = false := by rw [beq_eq_false_iff_ne]; exact e5
                by_cases hz : n = 0
                · subst hz
                  clear e5
                  go_wp2_with fail
                  refine (rhints _ _ F L (N 2) _ (by rw [← HV.out]; exact HH.out.ext HXX.out) (by omega) HW.out r (HIFF.out (fun _ => by first | rfl | trivial))).mono ?_
                  rintro e w3 ⟨rfl, hx3⟩
                  go_wp2_with fail
                  go_ret
                  exact ⟨rfl, (by repeat' (first | (with_reducible exact Ext.refl _) | (with_reducible assumption) | (with_reducible refine Ext.alloc ?_ _) | (with_reducible refine Ext.drewN ?_ _) | (with_reducible refine Ext.drew ?_) | (with_reducible refine Ext.trans ?_ (by assumption))))⟩
                · obtain rfl := HBAD.out (fun ok => absurd (ok.h5 e5) hz)
                  have hzb : ((n : Int) == 0) = false := by rw [beq_eq_false_iff_ne]; omega
                  go_wp2_with fail
                  go_ret
                  exact ⟨rfl, hX⟩
end Go.Proofs.Ytmkobmkaalfecaa
