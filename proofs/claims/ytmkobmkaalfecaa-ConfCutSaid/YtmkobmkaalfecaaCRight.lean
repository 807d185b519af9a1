/-
  conf.Right of any configuration. No condition but that the hints read, and are few.
-/
import Derived.Test.YtmkobmkaalfecaaRight
namespace Go.Proofs.Ytmkobmkaalfecaa
open Go.RowKit

theorem ret_true_false {P : Prop} {r : Bool} (hr : r = true ↔ P) (h : ¬ P) : r = false := by
  rw [Bool.eq_false_iff]; exact fun e => h (hr.1 e)
set_option maxHeartbeats 4000000 in
theorem cright (N : Nat → Int) (v : Value) (n : Nat) (F : Nat → Nat → Int) (L : Nat → Bool) (w : World) (h : RdH w v n F L) (hn : n ≤ 20) (hwf : ∀ i j, i < n → j < 3 → (Lit.int .i64 (F i j)).wf = true) (r : Bool) (hr : r = true ↔ CfgOk N n F) :
    Calls Try.prog 48 #[cfgV N v] w fun e w' => e = .returned (.bool r) ∧ Ext w w' := by
  have HRR := Lib.hid hr
  have HW := Lib.hid hwf
  have HBAD := Lib.hid (fun (h : ¬ CfgOk N n F) => ret_true_false hr h)
  have HH := Lib.hid h
  obtain ⟨sa, sc, rfl, _⟩ := h
  obtain ⟨v, hv⟩ : ∃ v, v = Value.slice sa n sc := ⟨_, rfl⟩
  rw [← hv] at HH ⊢
  unfold cfgV
  have HV := Lib.hid hv
  clear hr hwf hv
  go_enter Try.func48, Try.ntmps48
  go_wp2_with fail
  have hC := cfg_new w N v 75
  have hX := (Ext.refl w).alloc (.cells #[.int .i64 (N 0), .int .i64 (N 1), .int .i64 (N 2), .int .i64 (N 3), .int .i64 (N 4), .int .i64 (N 5), .int .i64 (N 6), .int .i64 (N 7), .int .i64 (N 8), .int .i64 (N 9), .int .i64 (N 10), .int .i64 (N 11), .int .i64 (N 12), .int .i64 (N 13), .int .i64 (N 14), .int .i64 (N 15), v] 75)
  obtain ⟨p, hp⟩ : ∃ p, p = w.heap.size := ⟨_, rfl⟩
  rw [← hp] at hC ⊢
  clear hp
  generalize (w.alloc (.cells #[.int .i64 (N 0), .int .i64 (N 1), .int .i64 (N 2), .int .i64 (N 3), .int .i64 (N 4), .int .i64 (N 5), .int .i64 (N 6), .int .i64 (N 7), .int .i64 (N 8), .int .i64 (N 9), .int .i64 (N 10), .int .i64 (N 11), .int .i64 (N 12), .int .i64 (N 13), .int .i64 (N 14), .int .i64 (N 15), v] 75)) = w1 at *
  have HC := Lib.hid hC
  clear hC
  go_loopw [4] (fun ci wr => ∃ k : Nat, k ≤ 3 ∧ ci = .int .i64 k ∧ (∀ t, t < k → Btw (N (6 + t)) 1 2 ∧ Btw (N (9 + t)) 1 16) ∧ wr = w1) (fun ci _ => 3 - (intOf ci).toNat)
  case atStart => exact ⟨0, by omega, rfl, fun t ht => absurd ht (by omega), rfl⟩
  case round =>
    obtain ⟨k, hk, rfl, hpol, rfl⟩ := hrel
    have HPOL := Lib.hid hpol
    clear hpol
    by_cases hk3 : k < 3
    · have x1 := HC.out.1 (6 + k) (by omega)
      have x2 := HC.out.1 (9 + k) (by omega)
      have hki : (k : Int) < 3 := by omega
      go_wp2_with fail
      by_cases b1 : Btw (N (6 + k)) 1 2
      rotate_left
      · obtain rfl := HBAD.out (fun ok => b1 (ok.pol k hk3).1)
        refine (cwithin _ 1 2 false (decide_eq_false b1) _).mono ?_
        rintro e w3 ⟨rfl, rfl⟩
        go_wp2_with fail
        go_ret
        exact ⟨rfl, hX⟩
      refine (cwithin _ 1 2 true b1.dec _).mono ?_
      rintro e w3 ⟨rfl, rfl⟩
      go_wp2_with fail
      by_cases b2 : Btw (N (9 + k)) 1 16
      rotate_left
      · obtain rfl := HBAD.out (fun ok => b2 (ok.pol k hk3).2)
        refine (cwithin _ 1 16 false (decide_eq_false b2) _).mono ?_
        rintro e w3 ⟨rfl, rfl⟩
        go_wp2_with fail
        go_ret
        exact ⟨rfl, hX⟩
      refine (cwithin _ 1 16 true b2.dec _).mono ?_
      rintro e w3 ⟨rfl, rfl⟩
      go_wp2_with fail
      go_roundw
      case rel =>
        refine ⟨k + 1, by omega, by go_num, ?_, by first | rfl | trivial⟩
        intro t ht
        by_cases e : t < k
        · exact HPOL.out t e
        · obtain rfl : t = k := by omega
          exact ⟨b1, b2⟩
      case measure => simp [intOf]; omega
    · obtain rfl : k = 3 := by omega
      have c0 := HC.out.1 0 (by omega)
      have c1 := HC.out.1 1 (by omega)
      have c2 := HC.out.1 2 (by omega)
      have c3 := HC.out.1 3 (by omega)
      have c4 := HC.out.1 4 (by omega)
      have c5 := HC.out.1 5 (by omega)
      have c12 := HC.out.1 12 (by omega)
      have c13 := HC.out.1 13 (by omega)
      have c14 := HC.out.1 14 (by omega)
      have c15 := HC.out.1 15 (by omega)
      have c16 := HC.out.2
      rw [HV.out] at c16
      go_wp2_with fail
      by_cases h0 : Btw (N 0) 1 4
      rotate_left
      · obtain rfl := HBAD.out (fun ok => h0 ok.n0)
        refine (cwithin _ 1 4 false (decide_eq_false h0) _).mono ?_
        rintro e w3 ⟨rfl, rfl⟩
        go_wp2_with fail
        go_ret
        exact ⟨rfl, hX⟩
      refine (cwithin _ 1 4 true h0.dec _).mono ?_
      rintro e w3 ⟨rfl, rfl⟩
      go_wp2_with fail
      by_cases h1 : Btw (N 1) 1 4
      rotate_left
      · obtain rfl := HBAD.out (fun ok => h1 ok.n1)
        refine (cwithin _ 1 4 false (decide_eq_false h1) _).mono ?_
        rintro e w3 ⟨rfl, rfl⟩
        go_wp2_with fail
        go_ret
        exact ⟨rfl, hX⟩
      refine (cwithin _ 1 4 true h1.dec _).mono ?_
      rintro e w3 ⟨rfl, rfl⟩
      go_wp2_with fail
      by_cases h2 : Btw (N 2) 1 32
      rotate_left
      · obtain rfl := HBAD.out (fun ok => h2 ok.n2)
        refine (cwithin _ 1 32 false (decide_eq_false h2) _).mono ?_
        rintro e w3 ⟨rfl, rfl⟩
        go_wp2_with fail
        go_ret
        exact ⟨rfl, hX⟩
      refine (cwithin _ 1 32 true h2.dec _).mono ?_
      rintro e w3 ⟨rfl, rfl⟩
      go_wp2_with fail
      by_cases h3 : Btw (N 3) 1 16
      rotate_left
      · obtain rfl := HBAD.out (fun ok => h3 ok.n3)
        refine (cwithin _ 1 16 false (decide_eq_false h3) _).mono ?_
        rintro e w3 ⟨rfl, rfl⟩
        go_wp2_with fail
        go_ret
        exact ⟨rfl, hX⟩
      refine (cwithin _ 1 16 true h3.dec _).mono ?_
      rintro e w3 ⟨rfl, rfl⟩
      go_wp2_with fail
      by_cases h4 : Btw (N 4) 1 3
      rotate_left
      · obtain rfl := HBAD.out (fun ok => h4 ok.n4)
        refine (cwithin _ 1 3 false (decide_eq_false h4) _).mono ?_
        rintro e w3 ⟨rfl, rfl⟩
        go_wp2_with fail
        go_ret
        exact ⟨rfl, hX⟩
      refine (cwithin _ 1 3 true h4.dec _).mono ?_
      rintro e w3 ⟨rfl, rfl⟩
      go_wp2_with fail
      by_cases h5 : Btw (N 5) 0 2
      rotate_left
      · obtain rfl := HBAD.out (fun ok => h5 ok.n5)
        refine (cwithin _ 0 2 false (decide_eq_false h5) _).mono ?_
        rintro e w3 ⟨rfl, rfl⟩
        go_wp2_with fail
        go_ret
        exact ⟨rfl, hX⟩
      refine (cwithin _ 0 2 true h5.dec _).mono ?_
      rintro e w3 ⟨rfl, rfl⟩
      have hcase : N 5 = 0 ∨ N 5 = 1 ∨ N 5 = 2 := by unfold Btw at h5; omega
      have hn0i : 0 < n → (0 : Int) < (n : Int) := by omega
      rcases hcase with e5 | e5 | e5
      · rw [e5] at c5
        by_cases hz : 0 < n
        rotate_left
        · obtain rfl : n = 0 := by omega
          go_wp2_with fail
          by_cases h12 : Btw (N 12) 1 8
          rotate_left
          · obtain rfl := HBAD.out (fun ok => h12 ok.n12)
            refine (cwithin _ 1 8 false (decide_eq_false h12) _).mono ?_
            rintro e w3 ⟨rfl, rfl⟩
            go_wp2_with fail
            go_ret
            exact ⟨rfl, hX⟩
          refine (cwithin _ 1 8 true h12.dec _).mono ?_
          rintro e w3 ⟨rfl, rfl⟩
          go_wp2_with fail
          by_cases h13 : Btw (N 13) 1 100
          rotate_left
          · obtain rfl := HBAD.out (fun ok => h13 ok.n13)
            refine (cwithin _ 1 100 false (decide_eq_false h13) _).mono ?_
            rintro e w3 ⟨rfl, rfl⟩
            go_wp2_with fail
            go_ret
            exact ⟨rfl, hX⟩
          refine (cwithin _ 1 100 true h13.dec _).mono ?_
          rintro e w3 ⟨rfl, rfl⟩
          go_wp2_with fail
          by_cases h14 : Btw (N 14) 0 16
          rotate_left
          · obtain rfl := HBAD.out (fun ok => h14 ok.n14)
            refine (cwithin _ 0 16 false (decide_eq_false h14) _).mono ?_
            rintro e w3 ⟨rfl, rfl⟩
            go_wp2_with fail
            go_ret
            exact ⟨rfl, hX⟩
          refine (cwithin _ 0 16 true h14.dec _).mono ?_
          rintro e w3 ⟨rfl, rfl⟩
          go_wp2_with fail
          by_cases h15 : Btw (N 15) 1 16
          rotate_left
          · obtain rfl := HBAD.out (fun ok => h15 ok.n15)
            refine (cwithin _ 1 16 false (decide_eq_false h15) _).mono ?_
            rintro e w3 ⟨rfl, rfl⟩
            go_wp2_with fail
            go_ret
            exact ⟨rfl, hX⟩
          refine (cwithin _ 1 16 true h15.dec _).mono ?_
          rintro e w3 ⟨rfl, rfl⟩
          go_wp2_with fail
          have hiff : r = true ↔ HsOk 0 F (N 2) := HRR.out.trans ⟨fun ok => ok.hs, fun hs => ⟨HPOL.out, h0, h1, h2, h3, h4, h5, fun h => absurd e5 h, h12, h13, h14, h15, fun _ => rfl, hs⟩⟩
          refine (chints _ _ F L (N 2) _ (by rw [← HV.out]; exact HH.out.ext hX) (by omega) HW.out (by unfold Btw at h2; simp [Lit.wf, IntKind.min, IntKind.max, IntKind.signed, IntKind.bits]; omega) r hiff).mono ?_
          rintro e w3 ⟨rfl, hx3⟩
          go_wp2_with fail
          go_ret
          exact ⟨rfl, (by repeat' (first | (with_reducible exact Ext.refl _) | (with_reducible assumption) | (with_reducible refine Ext.alloc ?_ _) | (with_reducible refine Ext.drewN ?_ _) | (with_reducible refine Ext.drew ?_) | (with_reducible refine Ext.trans ?_ (by assumption))))⟩
        have hzi := hn0i hz
        go_wp2_with fail
        by_cases h12 : Btw (N 12) 1 8
        rotate_left
        · obtain rfl := HBAD.out (fun ok => h12 ok.n12)
          refine (cwithin _ 1 8 false (decide_eq_false h12) _).mono ?_
          rintro e w3 ⟨rfl, rfl⟩
          go_wp2_with fail
          go_ret
          exact ⟨rfl, hX⟩
        refine (cwithin _ 1 8 true h12.dec _).mono ?_
        rintro e w3 ⟨rfl, rfl⟩
        go_wp2_with fail
        by_cases h13 : Btw (N 13) 1 100
        rotate_left
        · obtain rfl := HBAD.out (fun ok => h13 ok.n13)
          refine (cwithin _ 1 100 false (decide_eq_false h13) _).mono ?_
          rintro e w3 ⟨rfl, rfl⟩
          go_wp2_with fail
          go_ret
          exact ⟨rfl, hX⟩
        refine (cwithin _ 1 100 true h13.dec _).mono ?_
        rintro e w3 ⟨rfl, rfl⟩
        go_wp2_with fail
        by_cases h14 : Btw (N 14) 0 16
        rotate_left
        · obtain rfl := HBAD.out (fun ok => h14 ok.n14)
          refine (cwithin _ 0 16 false (decide_eq_false h14) _).mono ?_
          rintro e w3 ⟨rfl, rfl⟩
          go_wp2_with fail
          go_ret
          exact ⟨rfl, hX⟩
        refine (cwithin _ 0 16 true h14.dec _).mono ?_
        rintro e w3 ⟨rfl, rfl⟩
        go_wp2_with fail
        by_cases h15 : Btw (N 15) 1 16
        rotate_left
        · obtain rfl := HBAD.out (fun ok => h15 ok.n15)
          refine (cwithin _ 1 16 false (decide_eq_false h15) _).mono ?_
          rintro e w3 ⟨rfl, rfl⟩
          go_wp2_with fail
          go_ret
          exact ⟨rfl, hX⟩
        refine (cwithin _ 1 16 true h15.dec _).mono ?_
        rintro e w3 ⟨rfl, rfl⟩
        go_wp2_with fail
        obtain rfl := HBAD.out (fun ok => absurd (ok.h5 (by omega)) (by omega))
        go_ret
        exact ⟨rfl, hX⟩
      · rw [e5] at c5
        by_cases e4 : N 4 = 2
        rotate_left
        · obtain rfl := HBAD.out (fun ok => e4 (ok.m5 (by omega)))
          have e4b : (N 4 == 2) = false := by rw [beq_eq_false_iff_ne]; exact e4
          go_wp2_with fail
          go_ret
          exact ⟨rfl, hX⟩
        rw [e4] at c4
        by_cases hz : 0 < n
        rotate_left
        · obtain rfl : n = 0 := by omega
          go_wp2_with fail
          by_cases h12 : Btw (N 12) 1 8
          rotate_left
          · obtain rfl := HBAD.out (fun ok => h12 ok.n12)
            refine (cwithin _ 1 8 false (decide_eq_false h12) _).mono ?_
            rintro e w3 ⟨rfl, rfl⟩
            go_wp2_with fail
            go_ret
            exact ⟨rfl, hX⟩
          refine (cwithin _ 1 8 true h12.dec _).mono ?_
          rintro e w3 ⟨rfl, rfl⟩
          go_wp2_with fail
          by_cases h13 : Btw (N 13) 1 100
          rotate_left
          · obtain rfl := HBAD.out (fun ok => h13 ok.n13)
            refine (cwithin _ 1 100 false (decide_eq_false h13) _).mono ?_
            rintro e w3 ⟨rfl, rfl⟩
            go_wp2_with fail
            go_ret
            exact ⟨rfl, hX⟩
          refine (cwithin _ 1 100 true h13.dec _).mono ?_
          rintro e w3 ⟨rfl, rfl⟩
          go_wp2_with fail
          by_cases h14 : Btw (N 14) 0 16
          rotate_left
          · obtain rfl := HBAD.out (fun ok => h14 ok.n14)
            refine (cwithin _ 0 16 false (decide_eq_false h14) _).mono ?_
            rintro e w3 ⟨rfl, rfl⟩
            go_wp2_with fail
            go_ret
            exact ⟨rfl, hX⟩
          refine (cwithin _ 0 16 true h14.dec _).mono ?_
          rintro e w3 ⟨rfl, rfl⟩
          go_wp2_with fail
          by_cases h15 : Btw (N 15) 1 16
          rotate_left
          · obtain rfl := HBAD.out (fun ok => h15 ok.n15)
            refine (cwithin _ 1 16 false (decide_eq_false h15) _).mono ?_
            rintro e w3 ⟨rfl, rfl⟩
            go_wp2_with fail
            go_ret
            exact ⟨rfl, hX⟩
          refine (cwithin _ 1 16 true h15.dec _).mono ?_
          rintro e w3 ⟨rfl, rfl⟩
          go_wp2_with fail
          have hiff : r = true ↔ HsOk 0 F (N 2) := HRR.out.trans ⟨fun ok => ok.hs, fun hs => ⟨HPOL.out, h0, h1, h2, h3, h4, h5, fun _ => e4, h12, h13, h14, h15, fun _ => rfl, hs⟩⟩
          refine (chints _ _ F L (N 2) _ (by rw [← HV.out]; exact HH.out.ext hX) (by omega) HW.out (by unfold Btw at h2; simp [Lit.wf, IntKind.min, IntKind.max, IntKind.signed, IntKind.bits]; omega) r hiff).mono ?_
          rintro e w3 ⟨rfl, hx3⟩
          go_wp2_with fail
          go_ret
          exact ⟨rfl, (by repeat' (first | (with_reducible exact Ext.refl _) | (with_reducible assumption) | (with_reducible refine Ext.alloc ?_ _) | (with_reducible refine Ext.drewN ?_ _) | (with_reducible refine Ext.drew ?_) | (with_reducible refine Ext.trans ?_ (by assumption))))⟩
        have hzi := hn0i hz
        go_wp2_with fail
        by_cases h12 : Btw (N 12) 1 8
        rotate_left
        · obtain rfl := HBAD.out (fun ok => h12 ok.n12)
          refine (cwithin _ 1 8 false (decide_eq_false h12) _).mono ?_
          rintro e w3 ⟨rfl, rfl⟩
          go_wp2_with fail
          go_ret
          exact ⟨rfl, hX⟩
        refine (cwithin _ 1 8 true h12.dec _).mono ?_
        rintro e w3 ⟨rfl, rfl⟩
        go_wp2_with fail
        by_cases h13 : Btw (N 13) 1 100
        rotate_left
        · obtain rfl := HBAD.out (fun ok => h13 ok.n13)
          refine (cwithin _ 1 100 false (decide_eq_false h13) _).mono ?_
          rintro e w3 ⟨rfl, rfl⟩
          go_wp2_with fail
          go_ret
          exact ⟨rfl, hX⟩
        refine (cwithin _ 1 100 true h13.dec _).mono ?_
        rintro e w3 ⟨rfl, rfl⟩
        go_wp2_with fail
        by_cases h14 : Btw (N 14) 0 16
        rotate_left
        · obtain rfl := HBAD.out (fun ok => h14 ok.n14)
          refine (cwithin _ 0 16 false (decide_eq_false h14) _).mono ?_
          rintro e w3 ⟨rfl, rfl⟩
          go_wp2_with fail
          go_ret
          exact ⟨rfl, hX⟩
        refine (cwithin _ 0 16 true h14.dec _).mono ?_
        rintro e w3 ⟨rfl, rfl⟩
        go_wp2_with fail
        by_cases h15 : Btw (N 15) 1 16
        rotate_left
        · obtain rfl := HBAD.out (fun ok => h15 ok.n15)
          refine (cwithin _ 1 16 false (decide_eq_false h15) _).mono ?_
          rintro e w3 ⟨rfl, rfl⟩
          go_wp2_with fail
          go_ret
          exact ⟨rfl, hX⟩
        refine (cwithin _ 1 16 true h15.dec _).mono ?_
        rintro e w3 ⟨rfl, rfl⟩
        go_wp2_with fail
        obtain rfl := HBAD.out (fun ok => absurd (ok.h5 (by omega)) (by omega))
        go_ret
        exact ⟨rfl, hX⟩
      · rw [e5] at c5
        by_cases e4 : N 4 = 2
        rotate_left
        · obtain rfl := HBAD.out (fun ok => e4 (ok.m5 (by omega)))
          have e4b : (N 4 == 2) = false := by rw [beq_eq_false_iff_ne]; exact e4
          go_wp2_with fail
          go_ret
          exact ⟨rfl, hX⟩
        rw [e4] at c4
        go_wp2_with fail
        by_cases h12 : Btw (N 12) 1 8
        rotate_left
        · obtain rfl := HBAD.out (fun ok => h12 ok.n12)
          refine (cwithin _ 1 8 false (decide_eq_false h12) _).mono ?_
          rintro e w3 ⟨rfl, rfl⟩
          go_wp2_with fail
          go_ret
          exact ⟨rfl, hX⟩
        refine (cwithin _ 1 8 true h12.dec _).mono ?_
        rintro e w3 ⟨rfl, rfl⟩
        go_wp2_with fail
        by_cases h13 : Btw (N 13) 1 100
        rotate_left
        · obtain rfl := HBAD.out (fun ok => h13 ok.n13)
          refine (cwithin _ 1 100 false (decide_eq_false h13) _).mono ?_
          rintro e w3 ⟨rfl, rfl⟩
          go_wp2_with fail
          go_ret
          exact ⟨rfl, hX⟩
        refine (cwithin _ 1 100 true h13.dec _).mono ?_
        rintro e w3 ⟨rfl, rfl⟩
        go_wp2_with fail
        by_cases h14 : Btw (N 14) 0 16
        rotate_left
        · obtain rfl := HBAD.out (fun ok => h14 ok.n14)
          refine (cwithin _ 0 16 false (decide_eq_false h14) _).mono ?_
          rintro e w3 ⟨rfl, rfl⟩
          go_wp2_with fail
          go_ret
          exact ⟨rfl, hX⟩
        refine (cwithin _ 0 16 true h14.dec _).mono ?_
        rintro e w3 ⟨rfl, rfl⟩
        go_wp2_with fail
        by_cases h15 : Btw (N 15) 1 16
        rotate_left
        · obtain rfl := HBAD.out (fun ok => h15 ok.n15)
          refine (cwithin _ 1 16 false (decide_eq_false h15) _).mono ?_
          rintro e w3 ⟨rfl, rfl⟩
          go_wp2_with fail
          go_ret
          exact ⟨rfl, hX⟩
        refine (cwithin _ 1 16 true h15.dec _).mono ?_
        rintro e w3 ⟨rfl, rfl⟩
        go_wp2_with fail
        have hiff : r = true ↔ HsOk n F (N 2) := HRR.out.trans ⟨fun ok => ok.hs, fun hs => ⟨HPOL.out, h0, h1, h2, h3, h4, h5, fun _ => e4, h12, h13, h14, h15, fun h => absurd e5 h, hs⟩⟩
        refine (chints _ _ F L (N 2) _ (by rw [← HV.out]; exact HH.out.ext hX) (by omega) HW.out (by unfold Btw at h2; simp [Lit.wf, IntKind.min, IntKind.max, IntKind.signed, IntKind.bits]; omega) r hiff).mono ?_
        rintro e w3 ⟨rfl, hx3⟩
        go_wp2_with fail
        go_ret
        exact ⟨rfl, (by repeat' (first | (with_reducible exact Ext.refl _) | (with_reducible assumption) | (with_reducible refine Ext.alloc ?_ _) | (with_reducible refine Ext.drewN ?_ _) | (with_reducible refine Ext.drew ?_) | (with_reducible refine Ext.trans ?_ (by assumption))))⟩
end Go.Proofs.Ytmkobmkaalfecaa
