/-
  gradineref06.Store.Wrong. No condition but that the store lies in memory.
-/
import Derived.Test.YtoadjmeopamgbaaRfLaw
namespace Go.Proofs.Ytoadjmeopamgbaa
open Go.RowKit

/-- what is wrong with a write -/
def rBad (h : Sh) (x : RX) (a s b o bk : Int) (n : Nat) : Int := if stBad h a s b o bk n ≠ 0 then stBad h a s b o bk n else if rOld x (rIx h a.toNat s.toNat) b o then 12 else 0
section
variable {h : Sh} {x : RX} {a s b o bk : Int} {n : Nat}
theorem rBad_st {z : Int} (e : stBad h a s b o bk n = z) (hz : z ≠ 0) : rBad h x a s b o bk n = z := by unfold rBad; rw [e, if_pos hz]
theorem rBad_9 (h1 : ¬ (0 ≤ bk ∧ bk < h.b)) : rBad h x a s b o bk n = 9 := rBad_st (by unfold stBad; rw [if_pos h1]) (by decide)
theorem rBad_10 (h1 : 0 ≤ bk ∧ bk < h.b) (h2 : n ≠ h.s) : rBad h x a s b o bk n = 10 := rBad_st (by unfold stBad; rw [if_neg (fun e => e h1), if_pos h2]) (by decide)
theorem rBad_6 (h1 : 0 ≤ bk ∧ bk < h.b) (h2 : n = h.s) (h3 : ¬ FitW h a s b o) : rBad h x a s b o bk n = 6 := rBad_st (by unfold stBad; rw [if_neg (fun e => e h1), if_neg (fun e => e h2), if_pos h3]) (by decide)
theorem rBad_fit (h1 : 0 ≤ bk ∧ bk < h.b) (h2 : n = h.s) (h3 : FitW h a s b o) : rBad h x a s b o bk n = if rOld x (rIx h a.toNat s.toNat) b o then 12 else 0 := by
  have e : stBad h a s b o bk n = 0 := by unfold stBad; rw [if_neg (fun e => e h1), if_neg (fun e => e h2), if_neg (fun e => e h3)]
  unfold rBad; rw [e, if_neg (by decide)]
end

set_option maxRecDepth 100000 in
set_option maxHeartbeats 8000000 in
theorem rwrong (w : World) (F : List Nat) (ps : Nat) (g : Nat → Nat) (h : Sh) (x : RX) (r : RefAt w F ps g h x) (ok : h.Ok) (a s b o bk : Int) (dv : Value) (D : List Int) (hD : RdI .u8 w dv D) (z : Int) (hz : z = rBad h x a s b o bk D.length) :
    Calls Try.prog 40 #[.pointer (some ⟨ps, 0, none⟩), .agg #[.int .i64 a, .int .i64 s, .int .i64 b, .int .i64 o, .int .i64 bk, dv]] w fun e w' => e = .returned (.int .i64 z) ∧ Ext w w' := by
  obtain ⟨c0, c1, c2, c3⟩ := r.heads
  obtain ⟨cp, hcp⟩ := r.rows
  have c6 := (hcp 2 (by omega)).1
  have c7 := (hcp 3 (by omega)).1
  have HAT2 := Lib.hid (fun (i : Nat) (hi : i < rLen h 2) => r.at (j := 2) (by omega) (by omega) hi)
  have HAT3 := Lib.hid (fun (i : Nat) (hi : i < rLen h 3) => r.at (j := 3) (by omega) (by omega) hi)
  have HM : Hid (rLen h 2 = h.c * h.k ∧ rLen h 3 = h.c * h.k) := Lib.hid ⟨by unfold rLen; rw [if_neg (by omega)], by unfold rLen; rw [if_neg (by omega)]⟩
  have hck := ok.ck
  have HCK := Lib.hid hck
  have HKC := Lib.hid (And.intro ok.k2 ok.c2)
  obtain ⟨m2, hm2⟩ : ∃ y, y = rLen h 2 := ⟨_, rfl⟩
  obtain ⟨m3, hm3⟩ : ∃ y, y = rLen h 3 := ⟨_, rfl⟩
  obtain ⟨p2, hp2⟩ : ∃ y, y = cp 2 := ⟨_, rfl⟩
  obtain ⟨p3, hp3⟩ : ∃ y, y = cp 3 := ⟨_, rfl⟩
  obtain ⟨g2, hg2⟩ : ∃ y, y = g 2 := ⟨_, rfl⟩
  obtain ⟨g3, hg3⟩ : ∃ y, y = g 3 := ⟨_, rfl⟩
  rw [← hm2] at HAT2 HM
  rw [← hm3] at HAT3 HM
  rw [← hg2] at HAT2
  rw [← hg3] at HAT3
  simp only [Nat.reduceAdd] at c6 c7
  rw [← hm2, ← hp2, ← hg2] at c6
  rw [← hm3, ← hp3, ← hg3] at c7
  have hs16 := ok.s2
  obtain ⟨ad, cc, rfl, hlc, hcm, _, _⟩ := hD.parts
  have hln : (D.length : Int) ≤ 9223372036854775807 := by unfold maxLen at hcm; omega
  obtain ⟨n, hn⟩ : ∃ n, n = D.length := ⟨_, rfl⟩
  rw [← hn] at hz hln ⊢
  obtain ⟨x0, hx0⟩ : ∃ x, x = h.b := ⟨_, rfl⟩
  obtain ⟨x1, hx1⟩ : ∃ x, x = h.s := ⟨_, rfl⟩
  obtain ⟨x2, hx2⟩ : ∃ x, x = h.c := ⟨_, rfl⟩
  obtain ⟨x3, hx3⟩ : ∃ x, x = h.k := ⟨_, rfl⟩
  have HX : Hid (x0 = h.b ∧ x1 = h.s ∧ x2 = h.c ∧ x3 = h.k) := Lib.hid ⟨hx0, hx1, hx2, hx3⟩
  rw [← hx0] at c0
  rw [← hx1] at c1 hs16
  rw [← hx2] at c2
  rw [← hx3] at c3
  have HZ := Lib.hid hz
  clear r hD hlc hcm hn hx0 hx1 hx2 hx3 hz hcp hck hm2 hm3 hp2 hp3 hg2 hg3 ok
  go_enter Try.func40, Try.ntmps40
  go_upto_region 1 with fail
  have hxA : Ext w (w.alloc (.cells #[.int .i64 a, .int .i64 s, .int .i64 b, .int .i64 o, .int .i64 bk, .slice ad n cc] 38)) := (Ext.refl w).alloc _
  have e0 := cell_new w #[.int .i64 a, .int .i64 s, .int .i64 b, .int .i64 o, .int .i64 bk, .slice ad n cc] 38 (0, 0) (j := 0) rfl
  have e1 := cell_new w #[.int .i64 a, .int .i64 s, .int .i64 b, .int .i64 o, .int .i64 bk, .slice ad n cc] 38 (0, 0) (j := 1) rfl
  have e2 := cell_new w #[.int .i64 a, .int .i64 s, .int .i64 b, .int .i64 o, .int .i64 bk, .slice ad n cc] 38 (0, 0) (j := 2) rfl
  have e3 := cell_new w #[.int .i64 a, .int .i64 s, .int .i64 b, .int .i64 o, .int .i64 bk, .slice ad n cc] 38 (0, 0) (j := 3) rfl
  have e4 := cell_new w #[.int .i64 a, .int .i64 s, .int .i64 b, .int .i64 o, .int .i64 bk, .slice ad n cc] 38 (0, 0) (j := 4) rfl
  have e5 := cell_new w #[.int .i64 a, .int .i64 s, .int .i64 b, .int .i64 o, .int .i64 bk, .slice ad n cc] 38 (0, 0) (j := 5) rfl
  generalize (w.alloc (.cells #[.int .i64 a, .int .i64 s, .int .i64 b, .int .i64 o, .int .i64 bk, .slice ad n cc] 38)) = w1 at *
  obtain ⟨pw, hpw⟩ : ∃ pw, pw = w.heap.size := ⟨_, rfl⟩
  rw [← hpw] at e0 e1 e2 e3 e4 e5 ⊢
  clear hpw
  have c0 := hxA.cellv c0
  have c1 := hxA.cellv c1
  have c2 := hxA.cellv c2
  have c3 := hxA.cellv c3
  have c6 := hxA.cellv c6
  have c7 := hxA.cellv c7
  by_cases h0 : 0 ≤ bk
  case neg =>
    have hd0 : decide (bk < 0) = true := decide_eq_true (by omega)
    have hd1 : bk < 0 := by omega
    go_wp2_with fail
    go_quiet (fail)
    go_wp2_with fail
    go_ret
    exact ⟨ret_int (by rw [HZ.out]; exact (rBad_9 (by omega)).symm), hxA.trans (by repeat' (first | (with_reducible exact Ext.refl _) | (with_reducible assumption) | (with_reducible refine Ext.alloc ?_ _) | (with_reducible refine Ext.drewN ?_ _) | (with_reducible refine Ext.drew ?_) | (with_reducible refine Ext.trans ?_ (by assumption))))⟩
  have hd0 : decide (bk < 0) = false := decide_eq_false (by omega)
  by_cases h1 : bk < (x0 : Int)
  case neg =>
    have hd1 : decide ((x0 : Int) ≤ bk) = true := decide_eq_true (by omega)
    go_wp2_with fail
    go_quiet (fail)
    go_wp2_with fail
    go_ret
    exact ⟨ret_int (by rw [HZ.out]; exact (rBad_9 (by have := HX.out.1; omega)).symm), hxA.trans (by repeat' (first | (with_reducible exact Ext.refl _) | (with_reducible assumption) | (with_reducible refine Ext.alloc ?_ _) | (with_reducible refine Ext.drewN ?_ _) | (with_reducible refine Ext.drew ?_) | (with_reducible refine Ext.trans ?_ (by assumption))))⟩
  have hd1 : decide ((x0 : Int) ≤ bk) = false := decide_eq_false (by omega)
  have hd2 : ¬ (x0 : Int) ≤ bk := by omega
  have H1 : Hid (0 ≤ bk ∧ bk < h.b) := Lib.hid ⟨h0, by have := HX.out.1; omega⟩
  go_wp2_with fail
  go_quiet (fail)
  by_cases h2 : n = x1
  case neg =>
    have e1' : ((n : Int) != (x1 : Int)) = true := by rw [bne_iff_ne]; omega
    go_wp2_with fail
    go_quiet (fail)
    go_wp2_with fail
    go_ret
    exact ⟨ret_int (by rw [HZ.out]; exact (rBad_10 H1.out (fun e => h2 (by have := HX.out.2.1; omega))).symm), hxA.trans (by repeat' (first | (with_reducible exact Ext.refl _) | (with_reducible assumption) | (with_reducible refine Ext.alloc ?_ _) | (with_reducible refine Ext.drewN ?_ _) | (with_reducible refine Ext.drew ?_) | (with_reducible refine Ext.trans ?_ (by assumption))))⟩
  have e1' : ((n : Int) != (x1 : Int)) = false := by rw [h2]; simp
  have H2 : Hid (n = h.s) := Lib.hid (by have := HX.out.2.1; omega)
  go_wp2_with fail
  go_quiet (fail)
  clear h0 hd0 hd1 hd2 h1 e1' hs16 hln
  by_cases q0 : 0 ≤ a
  case neg =>
    have dq0 : decide (a < 0) = true := decide_eq_true (by omega)
    go_wp2_with fail
    go_quiet (fail)
    go_wp2_with fail
    go_ret
    exact ⟨ret_int (by rw [HZ.out]; exact (rBad_6 H1.out H2.out (fun e => by unfold FitW at e; have := HX.out; omega)).symm), hxA.trans (by repeat' (first | (with_reducible exact Ext.refl _) | (with_reducible assumption) | (with_reducible refine Ext.alloc ?_ _) | (with_reducible refine Ext.drewN ?_ _) | (with_reducible refine Ext.drew ?_) | (with_reducible refine Ext.trans ?_ (by assumption))))⟩
  have dq0 : decide (a < 0) = false := decide_eq_false (by omega)
  by_cases q1 : a < (x2 : Int)
  case neg =>
    have dq1 : decide ((x2 : Int) ≤ a) = true := decide_eq_true (by omega)
    go_wp2_with fail
    go_quiet (fail)
    go_wp2_with fail
    go_ret
    exact ⟨ret_int (by rw [HZ.out]; exact (rBad_6 H1.out H2.out (fun e => by unfold FitW at e; have := HX.out; omega)).symm), hxA.trans (by repeat' (first | (with_reducible exact Ext.refl _) | (with_reducible assumption) | (with_reducible refine Ext.alloc ?_ _) | (with_reducible refine Ext.drewN ?_ _) | (with_reducible refine Ext.drew ?_) | (with_reducible refine Ext.trans ?_ (by assumption))))⟩
  have dq1 : decide ((x2 : Int) ≤ a) = false := decide_eq_false (by omega)
  by_cases q2 : 0 ≤ s
  case neg =>
    have dq2 : decide (s < 0) = true := decide_eq_true (by omega)
    go_wp2_with fail
    go_quiet (fail)
    go_wp2_with fail
    go_ret
    exact ⟨ret_int (by rw [HZ.out]; exact (rBad_6 H1.out H2.out (fun e => by unfold FitW at e; have := HX.out; omega)).symm), hxA.trans (by repeat' (first | (with_reducible exact Ext.refl _) | (with_reducible assumption) | (with_reducible refine Ext.alloc ?_ _) | (with_reducible refine Ext.drewN ?_ _) | (with_reducible refine Ext.drew ?_) | (with_reducible refine Ext.trans ?_ (by assumption))))⟩
  have dq2 : decide (s < 0) = false := decide_eq_false (by omega)
  by_cases q3 : s < (x3 : Int)
  case neg =>
    have dq3 : decide ((x3 : Int) ≤ s) = true := decide_eq_true (by omega)
    go_wp2_with fail
    go_quiet (fail)
    go_wp2_with fail
    go_ret
    exact ⟨ret_int (by rw [HZ.out]; exact (rBad_6 H1.out H2.out (fun e => by unfold FitW at e; have := HX.out; omega)).symm), hxA.trans (by repeat' (first | (with_reducible exact Ext.refl _) | (with_reducible assumption) | (with_reducible refine Ext.alloc ?_ _) | (with_reducible refine Ext.drewN ?_ _) | (with_reducible refine Ext.drew ?_) | (with_reducible refine Ext.trans ?_ (by assumption))))⟩
  have dq3 : decide ((x3 : Int) ≤ s) = false := decide_eq_false (by omega)
  by_cases q4 : 1 ≤ b
  case neg =>
    have dq4 : decide (b < 1) = true := decide_eq_true (by omega)
    go_wp2_with fail
    go_quiet (fail)
    go_wp2_with fail
    go_ret
    exact ⟨ret_int (by rw [HZ.out]; exact (rBad_6 H1.out H2.out (fun e => by unfold FitW at e; have := HX.out; omega)).symm), hxA.trans (by repeat' (first | (with_reducible exact Ext.refl _) | (with_reducible assumption) | (with_reducible refine Ext.alloc ?_ _) | (with_reducible refine Ext.drewN ?_ _) | (with_reducible refine Ext.drew ?_) | (with_reducible refine Ext.trans ?_ (by assumption))))⟩
  have dq4 : decide (b < 1) = false := decide_eq_false (by omega)
  by_cases q5 : b ≤ 1099511627776
  case neg =>
    have dq5 : decide (1099511627776 < b) = true := decide_eq_true (by omega)
    go_wp2_with fail
    go_quiet (fail)
    go_wp2_with fail
    go_ret
    exact ⟨ret_int (by rw [HZ.out]; exact (rBad_6 H1.out H2.out (fun e => by unfold FitW at e; have := HX.out; omega)).symm), hxA.trans (by repeat' (first | (with_reducible exact Ext.refl _) | (with_reducible assumption) | (with_reducible refine Ext.alloc ?_ _) | (with_reducible refine Ext.drewN ?_ _) | (with_reducible refine Ext.drew ?_) | (with_reducible refine Ext.trans ?_ (by assumption))))⟩
  have dq5 : decide (1099511627776 < b) = false := decide_eq_false (by omega)
  by_cases q6 : 1 ≤ o
  case neg =>
    have dq6 : decide (o < 1) = true := decide_eq_true (by omega)
    go_wp2_with fail
    go_quiet (fail)
    go_wp2_with fail
    go_ret
    exact ⟨ret_int (by rw [HZ.out]; exact (rBad_6 H1.out H2.out (fun e => by unfold FitW at e; have := HX.out; omega)).symm), hxA.trans (by repeat' (first | (with_reducible exact Ext.refl _) | (with_reducible assumption) | (with_reducible refine Ext.alloc ?_ _) | (with_reducible refine Ext.drewN ?_ _) | (with_reducible refine Ext.drew ?_) | (with_reducible refine Ext.trans ?_ (by assumption))))⟩
  have dq6 : decide (o < 1) = false := decide_eq_false (by omega)
  by_cases q7 : o ≤ 1099511627776
  case neg =>
    have dq7 : decide (1099511627776 < o) = true := decide_eq_true (by omega)
    go_wp2_with fail
    go_quiet (fail)
    go_wp2_with fail
    go_ret
    exact ⟨ret_int (by rw [HZ.out]; exact (rBad_6 H1.out H2.out (fun e => by unfold FitW at e; have := HX.out; omega)).symm), hxA.trans (by repeat' (first | (with_reducible exact Ext.refl _) | (with_reducible assumption) | (with_reducible refine Ext.alloc ?_ _) | (with_reducible refine Ext.drewN ?_ _) | (with_reducible refine Ext.drew ?_) | (with_reducible refine Ext.trans ?_ (by assumption))))⟩
  have dq7 : decide (1099511627776 < o) = false := decide_eq_false (by omega)
  go_wp2_with fail
  go_quiet (fail)
  have HFT : Hid (FitW h a s b o) := Lib.hid (by unfold FitW; have := HX.out; omega)
  clear dq0 dq1 dq2 dq3 dq4 dq5 dq6 dq7
  obtain ⟨c, k, rfl, rfl, hc, hk⟩ : ∃ c k : Nat, a = (c : Nat) ∧ s = (k : Nat) ∧ c < x2 ∧ k < x3 := ⟨a.toNat, s.toNat, by omega, by omega, by omega, by omega⟩
  obtain ⟨i, hi⟩ : ∃ i, i = rIx h c k := ⟨_, rfl⟩
  have HI := Lib.hid hi
  have him : i < m2 ∧ i < m3 := by
    have h9 := rIx_lt (h := h) (c := c) (k := k) (by have := HX.out; omega) (by have := HX.out; omega)
    rw [HM.out.1, HM.out.2, hi]
    exact ⟨h9, h9⟩
  have k2 := Ext.cellv hxA (HAT2.out i him.1)
  have k3 := Ext.cellv hxA (HAT3.out i him.2)
  obtain ⟨him2, him3⟩ := him
  have hi2 : (i : Int) < (m2 : Int) := by omega
  have hi3 : (i : Int) < (m3 : Int) := by omega
  obtain ⟨vb, hvb⟩ : ∃ y, y = x.int 2 i := ⟨_, rfl⟩
  obtain ⟨vo, hvo⟩ : ∃ y, y = x.int 3 i := ⟨_, rfl⟩
  rw [← hvb] at k2
  rw [← hvo] at k3
  have HV : Hid (∀ q : Prop, (b < vb ∨ (b = vb ∧ o < vo) ↔ q) → (rOld x (rIx h (c : Int).toNat (k : Int).toNat) b o ↔ q)) := Lib.hid (fun q hq => by
    rw [Int.toNat_natCast, Int.toNat_natCast, ← hi]
    unfold rOld
    rw [← hvb, ← hvo]
    exact hq)
  have hmx : h.k * c ≤ 16 := by
    have h1 := HCK.out
    have h2 : h.k * c ≤ h.k * h.c := Nat.mul_le_mul_left _ (by have := HX.out; omega)
    rw [Nat.mul_comm h.k h.c] at h2
    omega
  have hwm : IntKind.i64.wrap ((c : Int) * (x3 : Int)) = ((h.k * c : Nat) : Int) := by
    have e : (c : Int) * (x3 : Int) = ((h.k * c : Nat) : Int) := by rw [HX.out.2.2.2, Nat.mul_comm]; simp
    rw [e, IntKind.wrap_i64]
    omega
  have hwa : IntKind.i64.wrap (((h.k * c : Nat) : Int) + (k : Int)) = (i : Nat) := by
    have e : (((h.k * c : Nat) : Int) + (k : Int)) = (i : Nat) := by rw [hi]; unfold rIx; simp
    rw [e, IntKind.wrap_i64]
    have : i ≤ 16 + k := by rw [hi]; unfold rIx; omega
    have := HKC.out
    have := HX.out
    omega
  obtain ⟨zm, hzm⟩ : ∃ y : Int, y = ((h.k * c : Nat) : Int) := ⟨_, rfl⟩
  rw [← hzm] at hwm hwa
  clear hi hvb hvo hmx hzm q0 q1 q2 q3 q4 q5 q6 q7 h2
  go_wp2_with fail
  go_quiet (fail)
  go_wp2_with fail
  by_cases h3 : b < vb
  case pos =>
    have d3 : decide (b < vb) = true := decide_eq_true h3
    go_wp2_with fail
    go_quiet (fail)
    go_wp2_with fail
    go_ret
    exact ⟨ret_int (by rw [HZ.out, rBad_fit H1.out H2.out HFT.out, if_pos ((HV.out _ Iff.rfl).2 (.inl h3))]), hxA.trans (by repeat' (first | (with_reducible exact Ext.refl _) | (with_reducible assumption) | (with_reducible refine Ext.alloc ?_ _) | (with_reducible refine Ext.drewN ?_ _) | (with_reducible refine Ext.drew ?_) | (with_reducible refine Ext.trans ?_ (by assumption))))⟩
  have d3 : decide (b < vb) = false := decide_eq_false h3
  by_cases h4 : b = vb
  case neg =>
    have d4 : (b == vb) = false := by simpa using h4
    go_wp2_with fail
    go_quiet (fail)
    go_wp2_with fail
    go_ret
    exact ⟨ret_int (by rw [HZ.out, rBad_fit H1.out H2.out HFT.out, if_neg (fun e => absurd ((HV.out _ Iff.rfl).1 e) (by omega))]), hxA.trans (by repeat' (first | (with_reducible exact Ext.refl _) | (with_reducible assumption) | (with_reducible refine Ext.alloc ?_ _) | (with_reducible refine Ext.drewN ?_ _) | (with_reducible refine Ext.drew ?_) | (with_reducible refine Ext.trans ?_ (by assumption))))⟩
  have d4 : (b == vb) = true := by simpa using h4
  by_cases h5 : o < vo
  case pos =>
    have d5 : decide (o < vo) = true := decide_eq_true h5
    go_wp2_with fail
    go_quiet (fail)
    go_wp2_with fail
    go_ret
    exact ⟨ret_int (by rw [HZ.out, rBad_fit H1.out H2.out HFT.out, if_pos ((HV.out _ Iff.rfl).2 (.inr ⟨h4, h5⟩))]), hxA.trans (by repeat' (first | (with_reducible exact Ext.refl _) | (with_reducible assumption) | (with_reducible refine Ext.alloc ?_ _) | (with_reducible refine Ext.drewN ?_ _) | (with_reducible refine Ext.drew ?_) | (with_reducible refine Ext.trans ?_ (by assumption))))⟩
  case neg =>
    have d5 : decide (o < vo) = false := decide_eq_false h5
    go_wp2_with fail
    go_quiet (fail)
    go_wp2_with fail
    go_ret
    exact ⟨ret_int (by rw [HZ.out, rBad_fit H1.out H2.out HFT.out, if_neg (fun e => absurd ((HV.out _ Iff.rfl).1 e) (by omega))]), hxA.trans (by repeat' (first | (with_reducible exact Ext.refl _) | (with_reducible assumption) | (with_reducible refine Ext.alloc ?_ _) | (with_reducible refine Ext.drewN ?_ _) | (with_reducible refine Ext.drew ?_) | (with_reducible refine Ext.trans ?_ (by assumption))))⟩
end Go.Proofs.Ytoadjmeopamgbaa
