/-
  karma.Plan: Range, Part, Loop. No condition but that the plan lies there.
-/
import Derived.Test.YtpmfadepinmmjaaKNew
namespace Go.Proofs.Ytpmfadepinmmjaa
open Go.RowKit

/-- the range that a block is in -/
def RngB (n : Nat) (F : Nat → Nat → Int) (b : Int) (is : Bool) (x : Nat) : Prop := (is = false ∧ x = 0 ∧ ∀ i, i < n → ¬ HIn F i b) ∨ (is = true ∧ x < n ∧ HIn F x b)
theorem rng_ex (n : Nat) (F : Nat → Nat → Int) (b : Int) : ∃ is x, RngB n F b is x := by
  by_cases h : ∃ i, i < n ∧ HIn F i b
  · obtain ⟨i, h1, h2⟩ := h
    exact ⟨true, i, .inr ⟨rfl, h1, h2⟩⟩
  · exact ⟨false, 0, .inl ⟨rfl, rfl, fun i hi hin => h ⟨i, hi, hin⟩⟩⟩
theorem HsOk.one {n : Nat} {F : Nat → Nat → Int} {m : Int} (ok : HsOk n F m) {i j : Nat} {b : Int} (hi : i < n) (hj : j < n) (h1 : HIn F i b) (h2 : HIn F j b) : i = j := by
  rcases Nat.lt_trichotomy i j with h | h | h
  · exact absurd h2 (ok.2.1 i j h hj b h1)
  · exact h
  · exact absurd h1 (ok.2.1 j i h hi b h2)
theorem rng_one {n : Nat} {F : Nat → Nat → Int} {m : Int} {b : Int} {is is' : Bool} {x x' : Nat} (ok : HsOk n F m) (h : RngB n F b is x) (h' : RngB n F b is' x') : is = is' ∧ x = x' := by
  rcases h with ⟨a1, a2, a3⟩ | ⟨a1, a2, a3⟩ <;> rcases h' with ⟨b1, b2, b3⟩ | ⟨b1, b2, b3⟩
  · exact ⟨by rw [a1, b1], by rw [a2, b2]⟩
  · exact absurd b3 (a3 _ b2)
  · exact absurd a3 (b3 _ a2)
  · exact ⟨by rw [a1, b1], ok.one a2 b2 a3 b3⟩

theorem kin (f s o : Int) (lp : Bool) (b : Int) (pb : Nat) (r : Bool) (hr : decide (f ≤ b ∧ b < f + s) = r) (f0 : 0 ≤ f) (f1 : f ≤ 32) (s0 : 0 ≤ s) (s1 : s ≤ 32) (w : World) (hb : w.cell? ⟨pb, 0, none⟩ = some (.int .i64 b)) :
    Calls Try.prog 35 #[.agg #[.int .i64 f, .int .i64 s, .int .i64 o, .bool lp], .pointer (some ⟨pb, 0, none⟩)] w fun e w' => e = .returned (.bool r) ∧ Ext w w' := by
  have k0 : (w.alloc (.cells #[.int .i64 f, .int .i64 s, .int .i64 o, .bool lp] 58)).cell? ⟨w.heap.size, 0, none⟩ = some (.int .i64 f) := cell_new _ _ _ _ rfl
  have k1 : (w.alloc (.cells #[.int .i64 f, .int .i64 s, .int .i64 o, .bool lp] 58)).cell? ⟨w.heap.size, 1, none⟩ = some (.int .i64 s) := cell_new _ _ _ _ rfl
  have kb := cell_old (.cells #[.int .i64 f, .int .i64 s, .int .i64 o, .bool lp] 58) hb
  subst hr
  by_cases h1 : f ≤ b
  · by_cases h2 : b < f + s
    · go_enter Try.func35, Try.ntmps35
      go_wp2_with fail
      go_ret
      exact ⟨ret_bool (by symm; exact decide_eq_true ⟨h1, by omega⟩), (by repeat' (first | (with_reducible exact Ext.refl _) | (with_reducible assumption) | (with_reducible refine Ext.alloc ?_ _) | (with_reducible refine Ext.drewN ?_ _) | (with_reducible refine Ext.drew ?_) | (with_reducible refine Ext.trans ?_ (by assumption))))⟩
    · have h2d : decide (b < f + s) = false := decide_eq_false h2
      go_enter Try.func35, Try.ntmps35
      go_wp2_with fail
      go_ret
      exact ⟨ret_bool (by symm; exact decide_eq_false (fun h => by omega)), (by repeat' (first | (with_reducible exact Ext.refl _) | (with_reducible assumption) | (with_reducible refine Ext.alloc ?_ _) | (with_reducible refine Ext.drewN ?_ _) | (with_reducible refine Ext.drew ?_) | (with_reducible refine Ext.trans ?_ (by assumption))))⟩
  · go_enter Try.func35, Try.ntmps35
    go_wp2_with fail
    go_ret
    exact ⟨ret_bool (by simp; omega), (by repeat' (first | (with_reducible exact Ext.refl _) | (with_reducible assumption) | (with_reducible refine Ext.alloc ?_ _) | (with_reducible refine Ext.drewN ?_ _) | (with_reducible refine Ext.drew ?_) | (with_reducible refine Ext.trans ?_ (by assumption))))⟩

set_option maxHeartbeats 2000000 in
theorem kidx (v : Value) (n : Nat) (F : Nat → Nat → Int) (L : Nat → Bool) (m : Int) (b : Int) (pb : Nat) (w : World) (h : RdH w v n F L) (ok : HsOk n F m) (hb : w.cell? ⟨pb, 0, none⟩ = some (.int .i64 b)) (is : Bool) (x : Nat) (hr : RngB n F b is x) (r : Int) (hrr : (if is = true then (x : Int) else -1) = r) :
    Calls Try.prog 34 #[v, .func (.func 35) #[] #[.pointer (some ⟨pb, 0, none⟩)]] w fun e w' => e = .returned (.int .i64 r) ∧ Ext w w' := by
  have HRR := Lib.hid hrr
  clear hrr
  have hn8 := ok.2.2
  obtain ⟨a, c, rfl, hnc, hcm, _, hs⟩ := h
  have HS := Lib.hid hs
  have HOK := Lib.hid ok
  have HR := Lib.hid hr
  have hni : (n : Int) ≤ 8 := by omega
  clear hs hcm ok hr
  go_enter Try.func34, Try.ntmps34
  go_wp2_with fail
  go_loopw [8] (fun ci wr => ∃ i : Nat, i ≤ n ∧ ci = .int .i64 i ∧ (∀ j, j < i → ¬ HIn F j b) ∧ Ext w wr) (fun ci _ => n - (intOf ci).toNat)
  case atStart => exact ⟨0, Nat.zero_le _, rfl, fun j hj => absurd hj (by omega), Ext.refl _⟩
  case round =>
    obtain ⟨i, hi, rfl, hno, hx⟩ := hrel
    have HNO := Lib.hid hno
    clear hno
    by_cases hlt : i < n
    · have hii : (i : Int) < (n : Int) := by omega
      obtain ⟨bb, o, rfl, hbb, hcell⟩ := HS.out (by omega)
      have y0 := (hx.cell hbb).trans (hcell i 0 hlt (by omega))
      have y1 := (hx.cell hbb).trans (hcell i 1 hlt (by omega))
      have y2 := (hx.cell hbb).trans (hcell i 2 hlt (by omega))
      have y3 := (hx.cell hbb).trans (hcell i 3 hlt (by omega))
      simp only [HV, ← Nat.add_assoc, Nat.add_zero, if_pos (show (0 : Nat) < 3 by omega), if_pos (show (1 : Nat) < 3 by omega), if_pos (show (2 : Nat) < 3 by omega), if_neg (show ¬ (3 : Nat) < 3 by omega)] at y0 y1 y2 y3
      obtain ⟨g0, g1, g2, g3, g4, g5, g6⟩ := HOK.out.1 i hlt
      have hin : HIn F i b ↔ (F i 0 ≤ b ∧ b < F i 0 + F i 1) := Iff.rfl
      obtain ⟨x0, hx0⟩ : ∃ x, F i 0 = x := ⟨_, rfl⟩
      obtain ⟨x1, hx1⟩ : ∃ x, F i 1 = x := ⟨_, rfl⟩
      obtain ⟨x2, hx2⟩ : ∃ x, F i 2 = x := ⟨_, rfl⟩
      obtain ⟨lp, hlp⟩ : ∃ x, L i = x := ⟨_, rfl⟩
      rw [hx0] at y0 hin g0 g4
      rw [hx1] at y1 hin g1 g4
      rw [hx2] at y2
      rw [hlp] at y3
      have HIND := Lib.hid hin
      have hbr := hx.cellv hb
      have g32 : x0 ≤ 32 := by omega
      have s32 : x1 ≤ 32 := by omega
      have s0 : 0 ≤ x1 := by omega
      clear hcell hin hx0 hx1 hx2 hlp g1 g2 g3 g4 g5 g6
      by_cases hd : x0 ≤ b ∧ b < x0 + x1
      · have HE : Hid ((if is = true then (x : Int) else -1) = i) := Lib.hid (by
          rcases HR.out with ⟨a1, a2, a3⟩ | ⟨a1, a2, a3⟩
          · exact absurd (HIND.out.2 hd) (a3 i hlt)
          · rw [if_pos a1, HOK.out.one a2 hlt a3 (HIND.out.2 hd)])
        have HK := Lib.hid (fun w' hb' => kin x0 x1 x2 lp b pb true (decide_eq_true hd) g0 g32 s0 s32 w' hb')
        clear hd
        go_wp2_with fail
        refine (HK.out _ hbr).mono ?_
        rintro e w1 ⟨rfl, hx1⟩
        go_wp2_with fail
        go_ret
        exact ⟨ret_int (HE.out.symm.trans HRR.out), (by repeat' (first | (with_reducible exact Ext.refl _) | (with_reducible assumption) | (with_reducible refine Ext.alloc ?_ _) | (with_reducible refine Ext.drewN ?_ _) | (with_reducible refine Ext.drew ?_) | (with_reducible refine Ext.trans ?_ (by assumption))))⟩
      · have HN2 : Hid (∀ j, j < i + 1 → ¬ HIn F j b) := Lib.hid (fun j hj => by
          by_cases e : j = i
          · subst e; exact fun h => hd (HIND.out.1 h)
          · exact HNO.out j (by omega))
        have HK := Lib.hid (fun w' hb' => kin x0 x1 x2 lp b pb false (decide_eq_false hd) g0 g32 s0 s32 w' hb')
        clear hd
        go_wp2_with fail
        refine (HK.out _ hbr).mono ?_
        rintro e w1 ⟨rfl, hx1⟩
        go_wp2_with fail
        go_roundw
        case rel => exact ⟨i + 1, by omega, by go_num, HN2.out, (by repeat' (first | (with_reducible exact Ext.refl _) | (with_reducible assumption) | (with_reducible refine Ext.alloc ?_ _) | (with_reducible refine Ext.drewN ?_ _) | (with_reducible refine Ext.drew ?_) | (with_reducible refine Ext.trans ?_ (by assumption))))⟩
        case measure => simp [intOf]; omega
    · obtain rfl : i = n := by omega
      have HE : Hid ((if is = true then (x : Int) else -1) = -1) := Lib.hid (by
        rcases HR.out with ⟨a1, a2, a3⟩ | ⟨a1, a2, a3⟩
        · rw [if_neg (by rw [a1]; simp)]
        · exact absurd a3 (HNO.out x a2))
      go_wp2_with fail
      go_ret
      exact ⟨ret_int (HE.out.symm.trans HRR.out), hx⟩

theorem krange_nil (b : Int) (w : World) : Calls Try.prog 13 #[.pointer none, .int .i64 b] w fun e w' => e = .returned (.tuple #[.int .i64 0, .bool false]) ∧ Ext w w' := by
  go_enter Try.func13, Try.ntmps13
  go_wp2_with fail
  go_ret2
  exact ⟨rfl, (by repeat' (first | (with_reducible exact Ext.refl _) | (with_reducible assumption) | (with_reducible refine Ext.alloc ?_ _) | (with_reducible refine Ext.drewN ?_ _) | (with_reducible refine Ext.drew ?_) | (with_reducible refine Ext.trans ?_ (by assumption))))⟩
section
variable (p : Nat) (bl : Int) (c : Nat → Nat) (n : Nat) (F : Nat → Nat → Int) (L : Nat → Bool) (M : List Nat) (w : World) (h : PlAt w p bl c n F L M) (b : Int) (is : Bool) (x : Nat) (hr : RngB n F b is x)
include h hr
set_option maxHeartbeats 1000000 in
theorem krange : Calls Try.prog 13 #[.pointer (some ⟨p, 0, none⟩), .int .i64 b] w fun e w' => e = .returned (.tuple #[.int .i64 (x : Nat), .bool is]) ∧ Ext w w' := by
  have hn := h.ok.2.2
  have hxn : x ≤ 8 := by rcases hr with ⟨_, h2, _⟩ | ⟨_, h2, _⟩ <;> omega
  obtain ⟨hv, g, h1, h2, _, _, _⟩ := h.hd
  have c4 := cell_old (.cells #[.int .i64 b] 3) h1.c4
  have kb : (w.alloc (.cells #[.int .i64 b] 3)).cell? ⟨w.heap.size, 0, none⟩ = some (.int .i64 b) := cell_new _ _ _ _ rfl
  have HI := Lib.hid (kidx hv n F L bl b w.heap.size _ (h2.ext ((Ext.refl w).alloc (.cells #[.int .i64 b] 3))) h.ok kb is x hr _ rfl)
  have hx0 : is = false → x = 0 := fun e => by
    rcases hr with ⟨_, h2, _⟩ | ⟨h2, _⟩
    · exact h2
    · rw [e] at h2; cases h2
  clear h h1 h2 hr kb
  cases is with
  | true =>
    have HI2 := Lib.hid (by have := HI.out; simp only [reduceIte] at this; exact this)
    clear HI hx0
    go_enter Try.func13, Try.ntmps13
    go_wp2_with fail
    refine HI2.out.mono ?_
    rintro e w1 ⟨rfl, hx1⟩
    go_wp2_with fail
    go_ret2
    exact ⟨rfl, (by repeat' (first | (with_reducible exact Ext.refl _) | (with_reducible assumption) | (with_reducible refine Ext.alloc ?_ _) | (with_reducible refine Ext.drewN ?_ _) | (with_reducible refine Ext.drew ?_) | (with_reducible refine Ext.trans ?_ (by assumption))))⟩
  | false =>
    obtain rfl := hx0 rfl
    have HI2 := Lib.hid (by have := HI.out; simp only [Bool.false_eq_true, reduceIte] at this; exact this)
    clear HI hx0
    go_enter Try.func13, Try.ntmps13
    go_wp2_with fail
    refine HI2.out.mono ?_
    rintro e w1 ⟨rfl, hx1⟩
    go_wp2_with fail
    go_ret2
    exact ⟨rfl, (by repeat' (first | (with_reducible exact Ext.refl _) | (with_reducible assumption) | (with_reducible refine Ext.alloc ?_ _) | (with_reducible refine Ext.drewN ?_ _) | (with_reducible refine Ext.drew ?_) | (with_reducible refine Ext.trans ?_ (by assumption))))⟩
end
theorem kpart_nil (b t : Int) (w : World) : Calls Try.prog 15 #[.pointer none, .int .i64 b, .int .i64 t] w fun e w' => e = .returned (.int .i64 0) ∧ Ext w w' := by
  go_enter Try.func15, Try.ntmps15
  go_wp2_with fail
  refine (krange_nil b _).mono ?_
  rintro e w1 ⟨rfl, hx1⟩
  go_wp2_with fail
  go_ret
  exact ⟨rfl, (by repeat' (first | (with_reducible exact Ext.refl _) | (with_reducible assumption) | (with_reducible refine Ext.alloc ?_ _) | (with_reducible refine Ext.drewN ?_ _) | (with_reducible refine Ext.drew ?_) | (with_reducible refine Ext.trans ?_ (by assumption))))⟩
theorem kloop_nil (b : Int) (w : World) : Calls Try.prog 48 #[.pointer none, .int .i64 b] w fun e w' => e = .returned (.bool false) ∧ Ext w w' := by
  go_enter Try.func48, Try.ntmps48
  go_wp2_with fail
  refine (krange_nil b _).mono ?_
  rintro e w1 ⟨rfl, hx1⟩
  go_wp2_with fail
  go_ret
  exact ⟨rfl, (by repeat' (first | (with_reducible exact Ext.refl _) | (with_reducible assumption) | (with_reducible refine Ext.alloc ?_ _) | (with_reducible refine Ext.drewN ?_ _) | (with_reducible refine Ext.drew ?_) | (with_reducible refine Ext.trans ?_ (by assumption))))⟩
/-- a range's part of a tier, as it is told -/
def partV (F : Nat → Nat → Int) (c : Nat → Nat) (M : List Nat) (is : Bool) (x : Nat) (t : Int) : Nat := if is = true ∧ 1 ≤ t ∧ t ≤ 3 then PR F c M x (t - 1).toNat else 0
section
variable (p : Nat) (bl : Int) (c : Nat → Nat) (n : Nat) (F : Nat → Nat → Int) (L : Nat → Bool) (M : List Nat) (w : World) (h : PlAt w p bl c n F L M) (b : Int) (is : Bool) (x : Nat) (hr : RngB n F b is x)
include h hr
set_option maxHeartbeats 1000000 in
theorem kpart (t : Int) : Calls Try.prog 15 #[.pointer (some ⟨p, 0, none⟩), .int .i64 b, .int .i64 t] w fun e w' => e = .returned (.int .i64 (partV F c M is x t : Nat)) ∧ Ext w w' := by
  have HR := Lib.hid (fun w' (hx : Ext w w') => krange p bl c n F L M w' (h.ext hx) b is x hr)
  have hn := h.ok.2.2
  obtain ⟨hv, g, h1, _, _, h4, _⟩ := h.hd
  have c5 := h1.c5
  by_cases hg : is = true ∧ 1 ≤ t ∧ t ≤ 3
  · obtain ⟨rfl, t1, t2⟩ := hg
    have hxn : x < n := by
      rcases hr with ⟨h1, _⟩ | ⟨_, h2, _⟩
      · cases h1
      · exact h2
    obtain ⟨k, rfl⟩ : ∃ k : Nat, t = (k : Int) + 1 := ⟨(t - 1).toNat, by omega⟩
    have z := h4.cell (show x * 4 + k < n * 4 by omega)
    simp only [show (x * 4 + k) / 4 = x by omega, show (x * 4 + k) % 4 = k by omega] at z
    have HE : Hid (partV F c M true x ((k : Int) + 1) = PR F c M x k) := Lib.hid (by unfold partV; rw [if_pos ⟨rfl, t1, t2⟩]; congr 1; omega)
    have hk0 : (0 : Int) ≤ (k : Int) := by omega
    have hk4 : (k : Int) < 4 := by omega
    have hxi : (x : Int) < (n : Int) := by omega
    have hkk : (k : Int) + 1 - 1 = (k : Int) := by omega
    obtain ⟨y, hy⟩ : ∃ y, PR F c M x k = y := ⟨_, rfl⟩
    rw [hy] at z HE
    clear h h1 h4 hr hy
    go_enter Try.func15, Try.ntmps15
    go_wp2_with fail
    refine (HR.out _ (by repeat' (first | (with_reducible exact Ext.refl _) | (with_reducible assumption) | (with_reducible refine Ext.alloc ?_ _) | (with_reducible refine Ext.drewN ?_ _) | (with_reducible refine Ext.drew ?_) | (with_reducible refine Ext.trans ?_ (by assumption))))).mono ?_
    rintro e w1 ⟨rfl, hx1⟩
    have c5 := hx1.cellv c5
    have z := hx1.cellv z
    go_wp2_with fail
    go_ret
    exact ⟨ret_int (by rw [HE.out]), (by repeat' (first | (with_reducible exact Ext.refl _) | (with_reducible assumption) | (with_reducible refine Ext.alloc ?_ _) | (with_reducible refine Ext.drewN ?_ _) | (with_reducible refine Ext.drew ?_) | (with_reducible refine Ext.trans ?_ (by assumption))))⟩
  · have HE : Hid (partV F c M is x t = 0) := Lib.hid (by unfold partV; rw [if_neg hg])
    clear h h1 h4 hr c5
    cases is with
    | false =>
      clear hg
      go_enter Try.func15, Try.ntmps15
      go_wp2_with fail
      refine (HR.out _ (by repeat' (first | (with_reducible exact Ext.refl _) | (with_reducible assumption) | (with_reducible refine Ext.alloc ?_ _) | (with_reducible refine Ext.drewN ?_ _) | (with_reducible refine Ext.drew ?_) | (with_reducible refine Ext.trans ?_ (by assumption))))).mono ?_
      rintro e w1 ⟨rfl, hx1⟩
      go_wp2_with fail
      go_ret
      exact ⟨ret_int (by rw [HE.out]; rfl), (by repeat' (first | (with_reducible exact Ext.refl _) | (with_reducible assumption) | (with_reducible refine Ext.alloc ?_ _) | (with_reducible refine Ext.drewN ?_ _) | (with_reducible refine Ext.drew ?_) | (with_reducible refine Ext.trans ?_ (by assumption))))⟩
    | true =>
      by_cases t1 : t < 1
      · clear hg
        go_enter Try.func15, Try.ntmps15
        go_wp2_with fail
        refine (HR.out _ (by repeat' (first | (with_reducible exact Ext.refl _) | (with_reducible assumption) | (with_reducible refine Ext.alloc ?_ _) | (with_reducible refine Ext.drewN ?_ _) | (with_reducible refine Ext.drew ?_) | (with_reducible refine Ext.trans ?_ (by assumption))))).mono ?_
        rintro e w1 ⟨rfl, hx1⟩
        go_wp2_with fail
        go_ret
        exact ⟨ret_int (by rw [HE.out]; rfl), (by repeat' (first | (with_reducible exact Ext.refl _) | (with_reducible assumption) | (with_reducible refine Ext.alloc ?_ _) | (with_reducible refine Ext.drewN ?_ _) | (with_reducible refine Ext.drew ?_) | (with_reducible refine Ext.trans ?_ (by assumption))))⟩
      · have t2 : 3 < t := by
          by_cases e : 3 < t
          · exact e
          · exact absurd ⟨rfl, by omega, by omega⟩ hg
        clear hg
        go_enter Try.func15, Try.ntmps15
        go_wp2_with fail
        refine (HR.out _ (by repeat' (first | (with_reducible exact Ext.refl _) | (with_reducible assumption) | (with_reducible refine Ext.alloc ?_ _) | (with_reducible refine Ext.drewN ?_ _) | (with_reducible refine Ext.drew ?_) | (with_reducible refine Ext.trans ?_ (by assumption))))).mono ?_
        rintro e w1 ⟨rfl, hx1⟩
        go_wp2_with fail
        go_ret
        exact ⟨ret_int (by rw [HE.out]; rfl), (by repeat' (first | (with_reducible exact Ext.refl _) | (with_reducible assumption) | (with_reducible refine Ext.alloc ?_ _) | (with_reducible refine Ext.drewN ?_ _) | (with_reducible refine Ext.drew ?_) | (with_reducible refine Ext.trans ?_ (by assumption))))⟩
set_option maxHeartbeats 1000000 in
theorem kloop : Calls Try.prog 48 #[.pointer (some ⟨p, 0, none⟩), .int .i64 b] w fun e w' => e = .returned (.bool (is && L x)) ∧ Ext w w' := by
  have HR := Lib.hid (fun w' (hx : Ext w w') => krange p bl c n F L M w' (h.ext hx) b is x hr)
  have hn := h.ok.2.2
  obtain ⟨hv, g, h1, h2, _, _, _⟩ := h.hd
  have c4 := h1.c4
  cases is with
  | false =>
    clear h h1 h2 hr c4
    go_enter Try.func48, Try.ntmps48
    go_wp2_with fail
    refine (HR.out _ (by repeat' (first | (with_reducible exact Ext.refl _) | (with_reducible assumption) | (with_reducible refine Ext.alloc ?_ _) | (with_reducible refine Ext.drewN ?_ _) | (with_reducible refine Ext.drew ?_) | (with_reducible refine Ext.trans ?_ (by assumption))))).mono ?_
    rintro e w1 ⟨rfl, hx1⟩
    go_wp2_with fail
    go_ret
    exact ⟨rfl, (by repeat' (first | (with_reducible exact Ext.refl _) | (with_reducible assumption) | (with_reducible refine Ext.alloc ?_ _) | (with_reducible refine Ext.drewN ?_ _) | (with_reducible refine Ext.drew ?_) | (with_reducible refine Ext.trans ?_ (by assumption))))⟩
  | true =>
    have hxn : x < n := by
      rcases hr with ⟨h1, _⟩ | ⟨_, h2, _⟩
      · cases h1
      · exact h2
    have hxi : (x : Int) < (n : Int) := by omega
    obtain ⟨a, ca, rfl, _, _, _, hs⟩ := h2
    obtain ⟨bb, o, rfl, hbb, hcell⟩ := hs (by omega)
    have y3 := hcell x 3 hxn (by omega)
    simp only [HV, ← Nat.add_assoc, if_neg (show ¬ (3 : Nat) < 3 by omega)] at y3
    obtain ⟨l, hl⟩ : ∃ l, L x = l := ⟨_, rfl⟩
    rw [hl] at y3 ⊢
    clear h h1 hr hs hcell hl
    go_enter Try.func48, Try.ntmps48
    go_wp2_with fail
    refine (HR.out _ (by repeat' (first | (with_reducible exact Ext.refl _) | (with_reducible assumption) | (with_reducible refine Ext.alloc ?_ _) | (with_reducible refine Ext.drewN ?_ _) | (with_reducible refine Ext.drew ?_) | (with_reducible refine Ext.trans ?_ (by assumption))))).mono ?_
    rintro e w1 ⟨rfl, hx1⟩
    have c4 := hx1.cellv c4
    have y3 := hx1.cellv y3
    go_wp2_with fail
    go_ret
    exact ⟨by simp, (by repeat' (first | (with_reducible exact Ext.refl _) | (with_reducible assumption) | (with_reducible refine Ext.alloc ?_ _) | (with_reducible refine Ext.drewN ?_ _) | (with_reducible refine Ext.drew ?_) | (with_reducible refine Ext.trans ?_ (by assumption))))⟩
end
end Go.Proofs.Ytpmfadepinmmjaa
