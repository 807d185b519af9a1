/-
  gradineref06.Store.Wrong. No condition but that the store lies in memory. And: gradineref06.Store.Write. No condition but that the store lies in memory, and the bytes read.
-/
import Derived.Test.YtoadjmeopamgbaaRfLaw
namespace Go.Proofs.Ytoadjmeopamgbaa
open Go.RowKit

/-- what is wrong with a write -/
def rBad (h : Sh) (x : RX) (a s b o bk : Int) (n : Nat) : Int := if stBad h a s b o bk n ≠ 0 then stBad h a s b o bk n else if rOld x (rIx h a.toNat s.toNat) b o then 12 else 0
section
variable {h : Sh} {x : RX} {a s b o bk : Int} {n : Nat}
theorem rBad_st {z : Int} (e : stBad h a s b o bk n = z) (hz : z ≠ 0) : rBad h x a s b o bk n = z := by unfold rBad; rw [e, if_pos hz]
theorem rBad_9 (h1 : ¬ (0 ≤ bk ∧ bk < h.b)) : rBad h x a s b o bk n = 9 := rBad_st (by unfold stBad; rw [if_pos h1]) (by decide)
theorem rBad_10 (h1 : 0 ≤ bk ∧ bk < h.b) (h2 : n ≠ h.s) : rBad h x a s b o bk n = 10 := rBad_st (by unfold stBad; rw [if_neg (fun e => e h1), if_pos h2]) (by decide)
theorem rBad_6 (h1 : 0 ≤ bk ∧ bk < h.b) (h2 : n = h.s) (h3 : ¬ FitW h a s b o) : rBad h x a s b o bk n = 6 := rBad_st (by unfold stBad; rw [if_neg (fun e => e h1), if_neg (fun e => e h2), if_pos h3]) (by decide)
theorem rBad_fit (h1 : 0 ≤ bk ∧ bk < h.b) (h2 : n = h.s) (h3 : FitW h a s b o) : rBad h x a s b o bk n = if rOld x (rIx h a.toNat s.toNat) b o then 12 else 0 := by
  have e : stBad h a s b o bk n = 0 := by unfold stBad; rw [if_neg (fun e => e h1), if_neg (fun e => e h2), if_neg (fun e => e h3)]
  unfold rBad; rw [e, if_neg (by decide)]
end

set_option maxRecDepth 100000 in
set_option maxHeartbeats 8000000 in
theorem rwrong (w : World) (F : List Nat) (ps : Nat) (g : Nat → Nat) (h : Sh) (x : RX) (r : RefAt w F ps g h x) (ok : h.Ok) (a s b o bk : Int) (dv : Value) (D : List Int) (hD : RdI .u8 w dv D) (z : Int) (hz : z = rBad h x a s b o bk D.length) :
    Calls Try.prog 40 #[.pointer (some ⟨ps, 0, none⟩), .agg #[.int .i64 a, .int .i64 s, .int .i64 b, .int .i64 o, .int .i64 bk, dv]] w fun e w' => e = .returned (.int .i64 z) ∧ Ext w w' := by
  obtain ⟨c0, c1, c2, c3⟩ := r.heads
  obtain ⟨cp, hcp⟩ := r.rows
  have c6 := (hcp 2 (by omega)).1
  have c7 := (hcp 3 (by omega)).1
  have HAT2 := Lib.hid (fun (i : Nat) (hi : i < rLen h 2) => r.at (j := 2) (by omega) (by omega) hi)
  have HAT3 := Lib.hid (fun (i : Nat) (hi : i < rLen h 3) => r.at (j := 3) (by omega) (by omega) hi)
  have HM : Hid (rLen h 2 = h.c * h.k ∧ rLen h 3 = h.c * h.k) := Lib.hid ⟨by unfold rLen; rw [if_neg (by omega)], by unfold rLen; rw [if_neg (by omega)]⟩
  have hck := ok.ck
  have HCK := Lib.hid hck
  have HKC := Lib.hid (And.intro ok.k2 ok.c2)
  obtain ⟨m2, hm2⟩ : ∃ y, y = rLen h 2 := ⟨_, rfl⟩
  obtain ⟨m3, hm3⟩ : ∃ y, y = rLen h 3 := ⟨_, rfl⟩
  obtain ⟨p2, hp2⟩ : ∃ y, y = cp 2 := ⟨_, rfl⟩
  obtain ⟨p3, hp3⟩ : ∃ y, y = cp 3 := ⟨_, rfl⟩
  obtain ⟨g2, hg2⟩ : ∃ y, y = g 2 := ⟨_, rfl⟩
  obtain ⟨g3, hg3⟩ : ∃ y, y = g 3 := ⟨_, rfl⟩
  rw [← hm2] at HAT2 HM
  rw [← hm3] at HAT3 HM
  rw [← hg2] at HAT2
  rw [← hg3] at HAT3
  simp only [Nat.reduceAdd] at c6 c7
  rw [← hm2, ← hp2, ← hg2] at c6
  rw [← hm3, ← hp3, ← hg3] at c7
  have hs16 := ok.s2
  obtain ⟨ad, cc, rfl, hlc, hcm, _, _⟩ := hD.parts
  have hln : (D.length : Int) ≤ 9223372036854775807 := by unfold maxLen at hcm; omega
  obtain ⟨n, hn⟩ : ∃ n, n = D.length := ⟨_, rfl⟩
  rw [← hn] at hz hln ⊢
  obtain ⟨x0, hx0⟩ : ∃ x, x = h.b := ⟨_, rfl⟩
  obtain ⟨x1, hx1⟩ : ∃ x, x = h.s := ⟨_, rfl⟩
  obtain ⟨x2, hx2⟩ : ∃ x, x = h.c := ⟨_, rfl⟩
  obtain ⟨x3, hx3⟩ : ∃ x, x = h.k := ⟨_, rfl⟩
  have HX : Hid (x0 = h.b ∧ x1 = h.s ∧ x2 = h.c ∧ x3 = h.k) := Lib.hid ⟨hx0, hx1, hx2, hx3⟩
  rw [← hx0] at c0
  rw [← hx1] at c1 hs16
  rw [← hx2] at c2
  rw [← hx3] at c3
  have HZ := Lib.hid hz
  clear r hD hlc hcm hn hx0 hx1 hx2 hx3 hz hcp hck hm2 hm3 hp2 hp3 hg2 hg3 ok
  go_enter Try.func40, Try.ntmps40
  go_upto_region 1 with fail
  have hxA : Ext w (w.alloc (.cells #[.int .i64 a, .int .i64 s, .int .i64 b, .int .i64 o, .int .i64 bk, .slice ad n cc] 38)) := (Ext.refl w).alloc _
  have e0 := cell_new w #[.int .i64 a, .int .i64 s, .int .i64 b, .int .i64 o, .int .i64 bk, .slice ad n cc] 38 (0, 0) (j := 0) rfl
  have e1 := cell_new w #[.int .i64 a, .int .i64 s, .int .i64 b, .int .i64 o, .int .i64 bk, .slice ad n cc] 38 (0, 0) (j := 1) rfl
  have e2 := cell_new w #[.int .i64 a, .int .i64 s, .int .i64 b, .int .i64 o, .int .i64 bk, .slice ad n cc] 38 (0, 0) (j := 2) rfl
  have e3 := cell_new w #[.int .i64 a, .int .i64 s, .int .i64 b, .int .i64 o, .int .i64 bk, .slice ad n cc] 38 (0, 0) (j := 3) rfl
  have e4 := cell_new w #[.int .i64 a, .int .i64 s, .int .i64 b, .int .i64 o, .int .i64 bk, .slice ad n cc] 38 (0, 0) (j := 4) rfl
  have e5 := cell_new w #[.int .i64 a, .int .i64 s, .int .i64 b, .int .i64 o, .int .i64 bk, .slice ad n cc] 38 (0, 0) (j := 5) rfl
  generalize (w.alloc (.cells #[.int .i64 a, .int .i64 s, .int .i64 b, .int .i64 o, .int .i64 bk, .slice ad n cc] 38)) = w1 at *
  obtain ⟨pw, hpw⟩ : ∃ pw, pw = w.heap.size := ⟨_, rfl⟩
  rw [← hpw] at e0 e1 e2 e3 e4 e5 ⊢
  clear hpw
  have c0 := hxA.cellv c0
  have c1 := hxA.cellv c1
  have c2 := hxA.cellv c2
  have c3 := hxA.cellv c3
  have c6 := hxA.cellv c6
  have c7 := hxA.cellv c7
  by_cases h0 : 0 ≤ bk
  case neg =>
    have hd0 : decide (bk < 0) = true := decide_eq_true (by omega)
    have hd1 : bk < 0 := by omega
    go_wp2_with fail
    go_quiet (fail)
    go_wp2_with fail
    go_ret
    exact ⟨ret_int (by rw [HZ.out]; exact (rBad_9 (by omega)).symm), hxA.trans (by repeat' (first | (with_reducible exact Ext.refl _) | (with_reducible assumption) | (with_reducible refine Ext.alloc ?_ _) | (with_reducible refine Ext.drewN ?_ _) | (with_reducible refine Ext.drew ?_) | (with_reducible refine Ext.trans ?_ (by assumption))))⟩
  have hd0 : decide (bk < 0) = false := decide_eq_false (by omega)
  by_cases h1 : bk < (x0 : Int)
  case neg =>
    have hd1 : decide ((x0 : Int) ≤ bk) = true := decide_eq_true (by omega)
    go_wp2_with fail
    go_quiet (fail)
    go_wp2_with fail
    go_ret
    exact ⟨ret_int (by rw [HZ.out]; exact (rBad_9 (by have := HX.out.1; omega)).symm), hxA.trans (by repeat' (first | (with_reducible exact Ext.refl _) | (with_reducible assumption) | (with_reducible refine Ext.alloc ?_ _) | (with_reducible refine Ext.drewN ?_ _) | (with_reducible refine Ext.drew ?_) | (with_reducible refine Ext.trans ?_ (by assumption))))⟩
  have hd1 : decide ((x0 : Int) ≤ bk) = false := decide_eq_false (by omega)
  have hd2 : ¬ (x0 : Int) ≤ bk := by omega
  have H1 : Hid (0 ≤ bk ∧ bk < h.b) := Lib.hid ⟨h0, by have := HX.out.1; omega⟩
  go_wp2_with fail
  go_quiet (fail)
  by_cases h2 : n = x1
  case neg =>
    have e1' : ((n : Int) != (x1 : Int)) = true := by rw [bne_iff_ne]; omega
    go_wp2_with fail
    go_quiet (fail)
    go_wp2_with fail
    go_ret
    exact ⟨ret_int (by rw [HZ.out]; exact (rBad_10 H1.out (fun e => h2 (by have := HX.out.2.1; omega))).symm), hxA.trans (by repeat' (first | (with_reducible exact Ext.refl _) | (with_reducible assumption) | (with_reducible refine Ext.alloc ?_ _) | (with_reducible refine Ext.drewN ?_ _) | (with_reducible refine Ext.drew ?_) | (with_reducible refine Ext.trans ?_ (by assumption))))⟩
  have e1' : ((n : Int) != (x1 : Int)) = false := by rw [h2]; simp
  have H2 : Hid (n = h.s) := Lib.hid (by have := HX.out.2.1; omega)
  go_wp2_with fail
  go_quiet (fail)
  clear h0 hd0 hd1 hd2 h1 e1' hs16 hln
  by_cases q0 : 0 ≤ a
  case neg =>
    have dq0 : decide (a < 0) = true := decide_eq_true (by omega)
    go_wp2_with fail
    go_quiet (fail)
    go_wp2_with fail
    go_ret
    exact ⟨ret_int (by rw [HZ.out]; exact (rBad_6 H1.out H2.out (fun e => by unfold FitW at e; have := HX.out; omega)).symm), hxA.trans (by repeat' (first | (with_reducible exact Ext.refl _) | (with_reducible assumption) | (with_reducible refine Ext.alloc ?_ _) | (with_reducible refine Ext.drewN ?_ _) | (with_reducible refine Ext.drew ?_) | (with_reducible refine Ext.trans ?_ (by assumption))))⟩
  have dq0 : decide (a < 0) = false := decide_eq_false (by omega)
  by_cases q1 : a < (x2 : Int)
  case neg =>
    have dq1 : decide ((x2 : Int) ≤ a) = true := decide_eq_true (by omega)
    go_wp2_with fail
    go_quiet (fail)
    go_wp2_with fail
    go_ret
    exact ⟨ret_int (by rw [HZ.out]; exact (rBad_6 H1.out H2.out (fun e => by unfold FitW at e; have := HX.out; omega)).symm), hxA.trans (by repeat' (first | (with_reducible exact Ext.refl _) | (with_reducible assumption) | (with_reducible refine Ext.alloc ?_ _) | (with_reducible refine Ext.drewN ?_ _) | (with_reducible refine Ext.drew ?_) | (with_reducible refine Ext.trans ?_ (by assumption))))⟩
  have dq1 : decide ((x2 : Int) ≤ a) = false := decide_eq_false (by omega)
  by_cases q2 : 0 ≤ s
  case neg =>
    have dq2 : decide (s < 0) = true := decide_eq_true (by omega)
    go_wp2_with fail
    go_quiet (fail)
    go_wp2_with fail
    go_ret
    exact ⟨ret_int (by rw [HZ.out]; exact (rBad_6 H1.out H2.out (fun e => by unfold FitW at e; have := HX.out; omega)).symm), hxA.trans (by repeat' (first | (with_reducible exact Ext.refl _) | (with_reducible assumption) | (with_reducible refine Ext.alloc ?_ _) | (with_reducible refine Ext.drewN ?_ _) | (with_reducible refine Ext.drew ?_) | (with_reducible refine Ext.trans ?_ (by assumption))))⟩
  have dq2 : decide (s < 0) = false := decide_eq_false (by omega)
  by_cases q3 : s < (x3 : Int)
  case neg =>
    have dq3 : decide ((x3 : Int) ≤ s) = true := decide_eq_true (by omega)
    go_wp2_with fail
    go_quiet (fail)
    go_wp2_with fail
    go_ret
    exact ⟨ret_int (by rw [HZ.out]; exact (rBad_6 H1.out H2.out (fun e => by unfold FitW at e; have := HX.out; omega)).symm), hxA.trans (by repeat' (first | (with_reducible exact Ext.refl _) | (with_reducible assumption) | (with_reducible refine Ext.alloc ?_ _) | (with_reducible refine Ext.drewN ?_ _) | (with_reducible refine Ext.drew ?_) | (with_reducible refine Ext.trans ?_ (by assumption))))⟩
  have dq3 : decide ((x3 : Int) ≤ s) = false := decide_eq_false (by omega)
  by_cases q4 : 1 ≤ b
  case neg =>
    have dq4 : decide (b < 1) = true := decide_eq_true (by omega)
    go_wp2_with fail
    go_quiet (fail)
    go_wp2_with fail
    go_ret
    exact ⟨ret_int (by rw [HZ.out]; exact (rBad_6 H1.out H2.out (fun e => by unfold FitW at e; have := HX.out; omega)).symm), hxA.trans (by repeat' (first | (with_reducible exact Ext.refl _) | (with_reducible assumption) | (with_reducible refine Ext.alloc ?_ _) | (with_reducible refine Ext.drewN ?_ _) | (with_reducible refine Ext.drew ?_) | (with_reducible refine Ext.trans ?_ (by assumption))))⟩
  have dq4 : decide (b < 1) = false := decide_eq_false (by omega)
  by_cases q5 : b ≤ 1099511627776
  case neg =>
    have dq5 : decide (1099511627776 < b) = true := decide_eq_true (by omega)
    go_wp2_with fail
    go_quiet (fail)
    go_wp2_with fail
    go_ret
    exact ⟨ret_int (by rw [HZ.out]; exact (rBad_6 H1.out H2.out (fun e => by unfold FitW at e; have := HX.out; omega)).symm), hxA.trans (by repeat' (first | (with_reducible exact Ext.refl _) | (with_reducible assumption) | (with_reducible refine Ext.alloc ?_ _) | (with_reducible refine Ext.drewN ?_ _) | (with_reducible refine Ext.drew ?_) | (with_reducible refine Ext.trans ?_ (by assumption))))⟩
  have dq5 : decide (1099511627776 < b) = false := decide_eq_false (by omega)
  by_cases q6 : 1 ≤ o
  case neg =>
    have dq6 : decide (o < 1) = true := decide_eq_true (by omega)
    go_wp2_with fail
    go_quiet (fail)
    go_wp2_with fail
    go_ret
    exact ⟨ret_int (by rw [HZ.out]; exact (rBad_6 H1.out H2.out (fun e => by unfold FitW at e; have := HX.out; omega)).symm), hxA.trans (by repeat' (first | (with_reducible exact Ext.refl _) | (with_reducible assumption) | (with_reducible refine Ext.alloc ?_ _) | (with_reducible refine Ext.drewN ?_ _) | (with_reducible refine Ext.drew ?_) | (with_reducible refine Ext.trans ?_ (by assumption))))⟩
  have dq6 : decide (o < 1) = false := decide_eq_false (by omega)
  by_cases q7 : o ≤ 1099511627776
  case neg =>
    have dq7 : decide (1099511627776 < o) = true := decide_eq_true (by omega)
    go_wp2_with fail
    go_quiet (fail)
    go_wp2_with fail
    go_ret
    exact ⟨ret_int (by rw [HZ.out]; exact (rBad_6 H1.out H2.out (fun e => by unfold FitW at e; have := HX.out; omega)).symm), hxA.trans (by repeat' (first | (with_reducible exact Ext.refl _) | (with_reducible assumption) | (with_reducible refine Ext.alloc ?_ _) | (with_reducible refine Ext.drewN ?_ _) | (with_reducible refine Ext.drew ?_) | (with_reducible refine Ext.trans ?_ (by assumption))))⟩
  have dq7 : decide (1099511627776 < o) = false := decide_eq_false (by omega)
  go_wp2_with fail
  go_quiet (fail)
  have HFT : Hid (FitW h a s b o) := Lib.hid (by unfold FitW; have := HX.out; omega)
  clear dq0 dq1 dq2 dq3 dq4 dq5 dq6 dq7
  obtain ⟨c, k, rfl, rfl, hc, hk⟩ : ∃ c k : Nat, a = (c : Nat) ∧ s = (k : Nat) ∧ c < x2 ∧ k < x3 := ⟨a.toNat, s.toNat, by omega, by omega, by omega, by omega⟩
  obtain ⟨i, hi⟩ : ∃ i, i = rIx h c k := ⟨_, rfl⟩
  have HI := Lib.hid hi
  have him : i < m2 ∧ i < m3 := by
    have h9 := rIx_lt (h := h) (c := c) (k := k) (by have := HX.out; omega) (by have := HX.out; omega)
    rw [HM.out.1, HM.out.2, hi]
    exact ⟨h9, h9⟩
  have k2 := Ext.cellv hxA (HAT2.out i him.1)
  have k3 := Ext.cellv hxA (HAT3.out i him.2)
  obtain ⟨him2, him3⟩ := him
  have hi2 : (i : Int) < (m2 : Int) := by omega
  have hi3 : (i : Int) < (m3 : Int) := by omega
  obtain ⟨vb, hvb⟩ : ∃ y, y = x.int 2 i := ⟨_, rfl⟩
  obtain ⟨vo, hvo⟩ : ∃ y, y = x.int 3 i := ⟨_, rfl⟩
  rw [← hvb] at k2
  rw [← hvo] at k3
  have HV : Hid (∀ q : Prop, (b < vb ∨ (b = vb ∧ o < vo) ↔ q) → (rOld x (rIx h (c : Int).toNat (k : Int).toNat) b o ↔ q)) := Lib.hid (fun q hq => by
    rw [Int.toNat_natCast, Int.toNat_natCast, ← hi]
    unfold rOld
    rw [← hvb, ← hvo]
    exact hq)
  have hmx : h.k * c ≤ 16 := by
    have h1 := HCK.out
    have h2 : h.k * c ≤ h.k * h.c := Nat.mul_le_mul_left _ (by have := HX.out; omega)
    rw [Nat.mul_comm h.k h.c] at h2
    omega
  have hwm : IntKind.i64.wrap ((c : Int) * (x3 : Int)) = ((h.k * c : Nat) : Int) := by
    have e : (c : Int) * (x3 : Int) = ((h.k * c : Nat) : Int) := by rw [HX.out.2.2.2, Nat.mul_comm]; simp
    rw [e, IntKind.wrap_i64]
    omega
  have hwa : IntKind.i64.wrap (((h.k * c : Nat) : Int) + (k : Int)) = (i : Nat) := by
    have e : (((h.k * c : Nat) : Int) + (k : Int)) = (i : Nat) := by rw [hi]; unfold rIx; simp
    rw [e, IntKind.wrap_i64]
    have : i ≤ 16 + k := by rw [hi]; unfold rIx; omega
    have := HKC.out
    have := HX.out
    omega
  obtain ⟨zm, hzm⟩ : ∃ y : Int, y = ((h.k * c : Nat) : Int) := ⟨_, rfl⟩
  rw [← hzm] at hwm hwa
  clear hi hvb hvo hmx hzm q0 q1 q2 q3 q4 q5 q6 q7 h2
  go_wp2_with fail
  go_quiet (fail)
  go_wp2_with fail
  by_cases h3 : b < vb
  case pos =>
    have d3 : decide (b < vb) = true := decide_eq_true h3
    go_wp2_with fail
    go_quiet (fail)
    go_wp2_with fail
    go_ret
    exact ⟨ret_int (by rw [HZ.out, rBad_fit H1.out H2.out HFT.out, if_pos ((HV.out _ Iff.rfl).2 (.inl h3))]), hxA.trans (by repeat' (first | (with_reducible exact Ext.refl _) | (with_reducible assumption) | (with_reducible refine Ext.alloc ?_ _) | (with_reducible refine Ext.drewN ?_ _) | (with_reducible refine Ext.drew ?_) | (with_reducible refine Ext.trans ?_ (by assumption))))⟩
  have d3 : decide (b < vb) = false := decide_eq_false h3
  by_cases h4 : b = vb
  case neg =>
    have d4 : (b == vb) = false := by simpa using h4
    go_wp2_with fail
    go_quiet (fail)
    go_wp2_with fail
    go_ret
    exact ⟨ret_int (by rw [HZ.out, rBad_fit H1.out H2.out HFT.out, if_neg (fun e => absurd ((HV.out _ Iff.rfl).1 e) (by omega))]), hxA.trans (by repeat' (first | (with_reducible exact Ext.refl _) | (with_reducible assumption) | (with_reducible refine Ext.alloc ?_ _) | (with_reducible refine Ext.drewN ?_ _) | (with_reducible refine Ext.drew ?_) | (with_reducible refine Ext.trans ?_ (by assumption))))⟩
  have d4 : (b == vb) = true := by simpa using h4
  by_cases h5 : o < vo
  case pos =>
    have d5 : decide (o < vo) = true := decide_eq_true h5
    go_wp2_with fail
    go_quiet (fail)
    go_wp2_with fail
    go_ret
    exact ⟨ret_int (by rw [HZ.out, rBad_fit H1.out H2.out HFT.out, if_pos ((HV.out _ Iff.rfl).2 (.inr ⟨h4, h5⟩))]), hxA.trans (by repeat' (first | (with_reducible exact Ext.refl _) | (with_reducible assumption) | (with_reducible refine Ext.alloc ?_ _) | (with_reducible refine Ext.drewN ?_ _) | (with_reducible refine Ext.drew ?_) | (with_reducible refine Ext.trans ?_ (by assumption))))⟩
  case neg =>
    have d5 : decide (o < vo) = false := decide_eq_false h5
    go_wp2_with fail
    go_quiet (fail)
    go_wp2_with fail
    go_ret
    exact ⟨ret_int (by rw [HZ.out, rBad_fit H1.out H2.out HFT.out, if_neg (fun e => absurd ((HV.out _ Iff.rfl).1 e) (by omega))]), hxA.trans (by repeat' (first | (with_reducible exact Ext.refl _) | (with_reducible assumption) | (with_reducible refine Ext.alloc ?_ _) | (with_reducible refine Ext.drewN ?_ _) | (with_reducible refine Ext.drew ?_) | (with_reducible refine Ext.trans ?_ (by assumption))))⟩


/-- a write, whatever it is -/
def rWr (h : Sh) (x : RX) (a s b o bk : Int) (D : List Int) : (Int × Int) × RX :=
  if stBad h a s b o bk D.length ≠ 0 then ((0, stBad h a s b o bk D.length), x) else rW x (rIx h a.toNat s.toNat) bk.toNat b o D
section
variable {h : Sh} {x : RX} {a s b o bk : Int} {D : List Int}
theorem rWr_bad {z : Int} (hz : z = rBad h x a s b o bk D.length) (h0 : z ≠ 0) : rWr h x a s b o bk D = ((0, z), x) := by
  unfold rWr
  unfold rBad at hz
  by_cases e : stBad h a s b o bk D.length = 0
  · rw [if_neg (fun h => h e)] at hz ⊢
    unfold rW
    by_cases e2 : rOld x (rIx h a.toNat s.toNat) b o
    · rw [if_pos e2] at hz ⊢; rw [hz]
    · rw [if_neg e2] at hz; exact absurd hz h0
  · rw [if_pos e] at hz ⊢; rw [hz]
theorem rBad_zero {n : Nat} (hz : 0 = rBad h x a s b o bk n) : stBad h a s b o bk n = 0 ∧ ¬ rOld x (rIx h a.toNat s.toNat) b o := by
  unfold rBad at hz
  by_cases e : stBad h a s b o bk n = 0
  · rw [if_neg (fun h => h e)] at hz
    refine ⟨e, fun e2 => ?_⟩
    rw [if_pos e2] at hz
    cases hz
  · rw [if_pos e] at hz
    exact absurd hz.symm e
theorem rWr_fit (e : stBad h a s b o bk D.length = 0) : rWr h x a s b o bk D = rW x (rIx h a.toNat s.toNat) bk.toNat b o D := by unfold rWr; rw [if_neg (fun h => h e)]
end

set_option maxRecDepth 100000 in
set_option maxHeartbeats 8000000 in
theorem rwrite06 (w : World) (F : List Nat) (ps : Nat) (g : Nat → Nat) (h : Sh) (x : RX) (r : RefAt w F ps g h x) (ok : h.Ok) (hbd : ∀ j, j < h.b → 0 ≤ x.int 0 j ∧ x.int 0 j ≤ 1000) (hF : ∀ f ∈ F, f < w.heap.size) (a s b o bk : Int) (dv : Value) (D : List Int) (hD : RdI .u8 w dv D) (hDo : 0 < D.length → ∀ q, dv.ownBlock = some q → q ∉ F) (r1 r2 : Int) (x' : RX) (hr : rWr h x a s b o bk D = ((r1, r2), x')) :
    Calls Try.prog 16 #[.pointer (some ⟨ps, 0, none⟩), .agg #[.int .i64 a, .int .i64 s, .int .i64 b, .int .i64 o, .int .i64 bk, dv]] w fun e w' => e = .returned (.tuple #[.int .i64 r1, .int .i64 r2]) ∧ RefAt w' F ps g h x' ∧ Chg [g 0, g 1, g 2, g 3, g 4] w w' := by
  obtain ⟨z, hz⟩ : ∃ z, z = rBad h x a s b o bk D.length := ⟨_, rfl⟩
  have HWRG := Lib.hid (fun w' (hx : Ext w w') => rwrong w' F ps g h x (r.ext hx) ok a s b o bk dv D (hD.ext hx) z hz)
  have HD := Lib.hid hD
  have HZ := Lib.hid hz
  have HR := Lib.hid hr
  have HRA := Lib.hid r
  have HOK := Lib.hid ok
  have HBD := Lib.hid hbd
  have HF := Lib.hid hF
  obtain ⟨c0, c1, c2, c3⟩ := r.heads
  obtain ⟨cp, hcp⟩ := r.rows
  have l0 := r.lt
  obtain ⟨g0, eg0⟩ : ∃ y, y = g 0 := ⟨_, rfl⟩
  obtain ⟨g1, eg1⟩ : ∃ y, y = g 1 := ⟨_, rfl⟩
  obtain ⟨g2, eg2⟩ : ∃ y, y = g 2 := ⟨_, rfl⟩
  obtain ⟨g3, eg3⟩ : ∃ y, y = g 3 := ⟨_, rfl⟩
  obtain ⟨g4, eg4⟩ : ∃ y, y = g 4 := ⟨_, rfl⟩
  have HG : Hid (g0 = g 0 ∧ g1 = g 1 ∧ g2 = g 2 ∧ g3 = g 3 ∧ g4 = g 4) := Lib.hid ⟨eg0, eg1, eg2, eg3, eg4⟩
  have HLT : Hid (ps < w.heap.size ∧ g0 < w.heap.size ∧ g1 < w.heap.size ∧ g2 < w.heap.size ∧ g3 < w.heap.size ∧ g4 < w.heap.size) := Lib.hid (by
    rw [eg0, eg1, eg2, eg3, eg4]
    exact ⟨r.lt, r.glt (by omega), r.glt (by omega), r.glt (by omega), r.glt (by omega), r.glt (by omega)⟩)
  have HNE : Hid ((g0 ≠ g1 ∧ g0 ≠ g2 ∧ g0 ≠ g3 ∧ g0 ≠ g4 ∧ g1 ≠ g2 ∧ g1 ≠ g3 ∧ g1 ≠ g4 ∧ g2 ≠ g3 ∧ g2 ≠ g4 ∧ g3 ≠ g4) ∧ g0 ≠ ps ∧ g1 ≠ ps ∧ g2 ≠ ps ∧ g3 ≠ ps ∧ g4 ≠ ps) := Lib.hid (by
    rw [eg0, eg1, eg2, eg3, eg4]
    have ap := fun i j (hi : i < 5) (hj : j < 5) (hij : i ≠ j) (e : g i = g j) => hij (r.apart i j hi hj e)
    exact ⟨⟨ap 0 1 (by omega) (by omega) (by omega), ap 0 2 (by omega) (by omega) (by omega), ap 0 3 (by omega) (by omega) (by omega), ap 0 4 (by omega) (by omega) (by omega), ap 1 2 (by omega) (by omega) (by omega), ap 1 3 (by omega) (by omega) (by omega), ap 1 4 (by omega) (by omega) (by omega), ap 2 3 (by omega) (by omega) (by omega), ap 2 4 (by omega) (by omega) (by omega), ap 3 4 (by omega) (by omega) (by omega)⟩, r.psg 0 (by omega), r.psg 1 (by omega), r.psg 2 (by omega), r.psg 3 (by omega), r.psg 4 (by omega)⟩)
  have c4 := (hcp 0 (by omega)).1
  have c5 := (hcp 1 (by omega)).1
  have c6 := (hcp 2 (by omega)).1
  have c7 := (hcp 3 (by omega)).1
  have c8 := (hcp 4 (by omega)).1
  obtain ⟨m0, hm0⟩ : ∃ y, y = h.b := ⟨_, rfl⟩
  obtain ⟨m2, hm2⟩ : ∃ y, y = h.c * h.k := ⟨_, rfl⟩
  have er0 : rLen h 0 = m0 := by rw [hm0]; rfl
  have er1 : rLen h 1 = m0 := by rw [hm0]; rfl
  have er2 : rLen h 2 = m2 := by rw [hm2]; rfl
  have er3 : rLen h 3 = m2 := by rw [hm2]; rfl
  have er4 : rLen h 4 = m2 := by rw [hm2]; rfl
  rw [← eg0, er0] at c4
  rw [← eg1, er1] at c5
  rw [← eg2, er2] at c6
  rw [← eg3, er3] at c7
  rw [← eg4, er4] at c8
  obtain ⟨p0, hp0⟩ : ∃ y, y = cp 0 := ⟨_, rfl⟩
  obtain ⟨p1, hp1⟩ : ∃ y, y = cp 1 := ⟨_, rfl⟩
  obtain ⟨p2, hp2⟩ : ∃ y, y = cp 2 := ⟨_, rfl⟩
  obtain ⟨p3, hp3⟩ : ∃ y, y = cp 3 := ⟨_, rfl⟩
  obtain ⟨p4, hp4⟩ : ∃ y, y = cp 4 := ⟨_, rfl⟩
  simp only [Nat.reduceAdd] at c4 c5 c6 c7 c8
  rw [← hp0] at c4
  rw [← hp1] at c5
  rw [← hp2] at c6
  rw [← hp3] at c7
  rw [← hp4] at c8
  have HER : Hid (rLen h 0 = m0 ∧ rLen h 1 = m0 ∧ rLen h 2 = m2 ∧ rLen h 3 = m2 ∧ rLen h 4 = m2) := Lib.hid ⟨er0, er1, er2, er3, er4⟩
  have HM : Hid (m0 = h.b ∧ m2 = h.c * h.k) := Lib.hid ⟨hm0, hm2⟩
  obtain ⟨ad, cc, rfl, hlc, hcm, _, _⟩ := hD.parts
  obtain ⟨n, hn⟩ : ∃ n, n = D.length := ⟨_, rfl⟩
  rw [← hn] at HWRG HZ hz hDo ⊢
  have HN := Lib.hid hn
  have HDO := Lib.hid hDo
  obtain ⟨x3, hx3⟩ : ∃ x, x = h.k := ⟨_, rfl⟩
  rw [← hx3] at c3
  have HX := Lib.hid hx3
  clear r hD hlc hcm hx3 hz hcp hp0 hp1 hp2 hp3 hp4 eg0 eg1 eg2 eg3 eg4 ok hbd hF hr er0 er1 er2 er3 er4 hm0 hm2 c0 c1 c2 hDo l0
  by_cases hz0 : z = 0
  case neg =>
    have hz1 : (z != 0) = true := by simpa using hz0
    obtain ⟨⟨rfl, rfl⟩, rfl⟩ : (r1 = 0 ∧ r2 = z) ∧ x' = x := by
      have h1 := rWr_bad (D := D) (by rw [← hn]; exact HZ.out) hz0
      rw [HR.out] at h1
      simp only [Prod.mk.injEq] at h1
      exact h1
    clear hn
    go_enter Try.func16, Try.ntmps16
    go_upto_region 1 with fail
    have hxA : Ext w (w.alloc (.cells #[.int .i64 a, .int .i64 s, .int .i64 b, .int .i64 o, .int .i64 bk, .slice ad n cc] 38)) := (Ext.refl w).alloc _
    have e0 := cell_new w #[.int .i64 a, .int .i64 s, .int .i64 b, .int .i64 o, .int .i64 bk, .slice ad n cc] 38 (0, 0) (j := 0) rfl
    have e1 := cell_new w #[.int .i64 a, .int .i64 s, .int .i64 b, .int .i64 o, .int .i64 bk, .slice ad n cc] 38 (0, 0) (j := 1) rfl
    have e2 := cell_new w #[.int .i64 a, .int .i64 s, .int .i64 b, .int .i64 o, .int .i64 bk, .slice ad n cc] 38 (0, 0) (j := 2) rfl
    have e3 := cell_new w #[.int .i64 a, .int .i64 s, .int .i64 b, .int .i64 o, .int .i64 bk, .slice ad n cc] 38 (0, 0) (j := 3) rfl
    have e4 := cell_new w #[.int .i64 a, .int .i64 s, .int .i64 b, .int .i64 o, .int .i64 bk, .slice ad n cc] 38 (0, 0) (j := 4) rfl
    have e5 := cell_new w #[.int .i64 a, .int .i64 s, .int .i64 b, .int .i64 o, .int .i64 bk, .slice ad n cc] 38 (0, 0) (j := 5) rfl
    generalize (w.alloc (.cells #[.int .i64 a, .int .i64 s, .int .i64 b, .int .i64 o, .int .i64 bk, .slice ad n cc] 38)) = w1 at *
    obtain ⟨pw, hpw⟩ : ∃ pw, pw = w.heap.size := ⟨_, rfl⟩
    rw [← hpw] at e0 e1 e2 e3 e4 e5 ⊢
    clear hpw
    go_wp2_with fail
    refine (HWRG.out _ hxA).mono ?_
    rintro e w2 ⟨rfl, hx2⟩
    go_wp2_with fail
    go_ret2
    exact ⟨rfl, HRA.out.ext (hxA.trans (hx2.trans (by repeat' (first | (with_reducible exact Ext.refl _) | (with_reducible assumption) | (with_reducible refine Ext.alloc ?_ _) | (with_reducible refine Ext.drewN ?_ _) | (with_reducible refine Ext.drew ?_) | (with_reducible refine Ext.trans ?_ (by assumption)))))), Chg.of_ext (hxA.trans (hx2.trans (by repeat' (first | (with_reducible exact Ext.refl _) | (with_reducible assumption) | (with_reducible refine Ext.alloc ?_ _) | (with_reducible refine Ext.drewN ?_ _) | (with_reducible refine Ext.drew ?_) | (with_reducible refine Ext.trans ?_ (by assumption))))))⟩
  obtain rfl : 0 = z := hz0.symm
  obtain ⟨hst, hno⟩ := rBad_zero HZ.out
  obtain ⟨c, k, blk, rfl, rfl, rfl, hc, hk, hb, hbb, hoo, hns⟩ := fit_nat hst
  have HFT := Lib.hid (And.intro hst hno)
  obtain ⟨i, hi⟩ : ∃ i, i = rIx h c k := ⟨_, rfl⟩
  have hr := rWr_fit (x := x) (by rw [← hn]; exact hst)
  rw [HR.out] at hr
  simp only [Int.toNat_natCast] at hr hno
  rw [← hi] at hr hno
  have HRW := Lib.hid hr
  have HNO := Lib.hid hno
  have hi2 : i < m2 := by rw [HM.out.2, hi]; exact rIx_lt hc hk
  have hii : (i : Int) < (m2 : Int) := by omega
  have hb0 : blk < m0 := by rw [HM.out.1]; exact hb
  have hbi : (blk : Int) < (m0 : Int) := by omega
  have hmx : h.k * c ≤ 16 := by
    have h1 := HOK.out.ck
    have h2 : h.k * c ≤ h.k * h.c := Nat.mul_le_mul_left _ (by omega)
    rw [Nat.mul_comm h.k h.c] at h2
    omega
  have hwm : IntKind.i64.wrap ((c : Int) * (x3 : Int)) = ((h.k * c : Nat) : Int) := by
    have e : (c : Int) * (x3 : Int) = ((h.k * c : Nat) : Int) := by rw [HX.out, Nat.mul_comm]; simp
    rw [e, IntKind.wrap_i64]
    omega
  have hwa : IntKind.i64.wrap (((h.k * c : Nat) : Int) + (k : Int)) = (i : Nat) := by
    have e : (((h.k * c : Nat) : Int) + (k : Int)) = (i : Nat) := by rw [hi]; unfold rIx; simp
    rw [e, IntKind.wrap_i64]
    have : i ≤ 16 + k := by rw [hi]; unfold rIx; omega
    have := HOK.out.k2
    omega
  obtain ⟨zm, hzm⟩ : ∃ y : Int, y = ((h.k * c : Nat) : Int) := ⟨_, rfl⟩
  rw [← hzm] at hwm hwa
  have HBL := Lib.hid hb
  have k0 := HRA.out.at (j := 0) (i := blk) (by omega) (by omega) (by rw [HER.out.1]; exact hb0)
  have k2 := HRA.out.at (j := 2) (i := i) (by omega) (by omega) (by rw [HER.out.2.2.1]; exact hi2)
  have k3 := HRA.out.at (j := 3) (i := i) (by omega) (by omega) (by rw [HER.out.2.2.2.1]; exact hi2)
  have k4 := HRA.out.at (j := 4) (i := i) (by omega) (by omega) (by rw [HER.out.2.2.2.2]; exact hi2)
  obtain ⟨vd, k1, hvd⟩ := HRA.out.atD (i := blk) hb
  obtain ⟨av1, nv1, cv1, rfl⟩ := hvd.1.isSlice
  rw [← HG.out.1] at k0
  rw [← HG.out.2.1] at k1
  rw [← HG.out.2.2.1] at k2
  rw [← HG.out.2.2.2.1] at k3
  rw [← HG.out.2.2.2.2] at k4
  obtain ⟨vv, hvv⟩ : ∃ y, y = x.int 0 blk := ⟨_, rfl⟩
  obtain ⟨vb, hvb⟩ : ∃ y, y = x.int 2 i := ⟨_, rfl⟩
  obtain ⟨vo, hvo⟩ : ∃ y, y = x.int 3 i := ⟨_, rfl⟩
  obtain ⟨vc, hvc⟩ : ∃ y, y = x.int 4 i := ⟨_, rfl⟩
  rw [← hvv] at k0
  rw [← hvb] at k2
  rw [← hvo] at k3
  rw [← hvc] at k4
  have HV : Hid (vv = x.int 0 blk ∧ vb = x.int 2 i ∧ vo = x.int 3 i ∧ vc = x.int 4 i) := Lib.hid ⟨hvv, hvb, hvo, hvc⟩
  have hvb1 : 0 ≤ vv ∧ vv ≤ 1000 := by rw [hvv]; exact HBD.out blk hb
  obtain ⟨hv0, hv1⟩ := hvb1
  have hnl : n ≤ 16 := by have := HOK.out.s2; omega
  clear hn hst hno hc hk hb hi hr hmx hzm hvv hvb hvo hvc hns hbb hoo hvd
  go_enter Try.func16, Try.ntmps16
  go_upto_region 1 with fail
  have hxA : Ext w (w.alloc (.cells #[.int .i64 (c : Nat), .int .i64 (k : Nat), .int .i64 b, .int .i64 o, .int .i64 (blk : Nat), .slice ad n cc] 38)) := (Ext.refl w).alloc _
  have e0 := cell_new w #[.int .i64 (c : Nat), .int .i64 (k : Nat), .int .i64 b, .int .i64 o, .int .i64 (blk : Nat), .slice ad n cc] 38 (0, 0) (j := 0) rfl
  have e1 := cell_new w #[.int .i64 (c : Nat), .int .i64 (k : Nat), .int .i64 b, .int .i64 o, .int .i64 (blk : Nat), .slice ad n cc] 38 (0, 0) (j := 1) rfl
  have e2 := cell_new w #[.int .i64 (c : Nat), .int .i64 (k : Nat), .int .i64 b, .int .i64 o, .int .i64 (blk : Nat), .slice ad n cc] 38 (0, 0) (j := 2) rfl
  have e3 := cell_new w #[.int .i64 (c : Nat), .int .i64 (k : Nat), .int .i64 b, .int .i64 o, .int .i64 (blk : Nat), .slice ad n cc] 38 (0, 0) (j := 3) rfl
  have e4 := cell_new w #[.int .i64 (c : Nat), .int .i64 (k : Nat), .int .i64 b, .int .i64 o, .int .i64 (blk : Nat), .slice ad n cc] 38 (0, 0) (j := 4) rfl
  have e5 := cell_new w #[.int .i64 (c : Nat), .int .i64 (k : Nat), .int .i64 b, .int .i64 o, .int .i64 (blk : Nat), .slice ad n cc] 38 (0, 0) (j := 5) rfl
  generalize (w.alloc (.cells #[.int .i64 (c : Nat), .int .i64 (k : Nat), .int .i64 b, .int .i64 o, .int .i64 (blk : Nat), .slice ad n cc] 38)) = w1 at *
  obtain ⟨pw, hpw⟩ : ∃ pw, pw = w.heap.size := ⟨_, rfl⟩
  rw [← hpw] at e0 e1 e2 e3 e4 e5 ⊢
  have HPW : Hid (w.heap.size ≤ pw) := Lib.hid (by omega)
  clear hpw
  go_wp2_with fail
  refine (HWRG.out _ hxA).mono ?_
  rintro e w2 ⟨rfl, hx2⟩
  have hxB := hxA.trans hx2
  have e0 := hx2.cellv e0
  have e1 := hx2.cellv e1
  have e2 := hx2.cellv e2
  have e3 := hx2.cellv e3
  have e4 := hx2.cellv e4
  have e5 := hx2.cellv e5
  have c3 := hxB.cellv c3
  have c4 := hxB.cellv c4
  have c5 := hxB.cellv c5
  have c6 := hxB.cellv c6
  have c7 := hxB.cellv c7
  have c8 := hxB.cellv c8
  have k0 := hxB.cellv k0
  have k1 := hxB.cellv k1
  have k2 := hxB.cellv k2
  have k3 := hxB.cellv k3
  have k4 := hxB.cellv k4
  have hr2 := HRA.out.ext hxB
  have f0 := hr2.frz (j := 0) (by omega) blk
  have f1 := hr2.frz (j := 1) (by omega) blk
  have f2 := hr2.frz (j := 2) (by omega) i
  have f3 := hr2.frz (j := 3) (by omega) i
  have f4 := hr2.frz (j := 4) (by omega) i
  rw [← HG.out.1] at f0
  rw [← HG.out.2.1] at f1
  rw [← HG.out.2.2.1] at f2
  rw [← HG.out.2.2.2.1] at f3
  rw [← HG.out.2.2.2.2] at f4
  have HR2 := Lib.hid hr2
  have HX2 := Lib.hid hxB
  clear hx2 hxA hr2 hxB HWRG
  go_wp2_with fail
  go_quiet (fail)
  go_wp2_with fail
  by_cases hs : b = vb ∧ o = vo
  case pos =>
    --[[S
    have hs1 : (b == vb) = true := by simpa using hs.1
    have hs2 : (o == vo) = true := by simpa using hs.2
    obtain ⟨⟨rfl, rfl⟩, rfl⟩ : (r1 = vc ∧ r2 = 0) ∧ x' = x := by
      have h1 := HRW.out
      unfold rW at h1
      rw [if_neg HNO.out, if_pos (by unfold rSame; rw [← HV.out.2.1, ← HV.out.2.2.1]; exact hs), ← HV.out.2.2.2] at h1
      simp only [Prod.mk.injEq] at h1
      exact h1
    go_quiet (fail)
    go_wp2_with fail
    go_ret2
    exact ⟨rfl, HR2.out.ext (by repeat' (first | (with_reducible exact Ext.refl _) | (with_reducible assumption) | (with_reducible refine Ext.alloc ?_ _) | (with_reducible refine Ext.drewN ?_ _) | (with_reducible refine Ext.drew ?_) | (with_reducible refine Ext.trans ?_ (by assumption)))), Chg.of_ext (HX2.out.trans (by repeat' (first | (with_reducible exact Ext.refl _) | (with_reducible assumption) | (with_reducible refine Ext.alloc ?_ _) | (with_reducible refine Ext.drewN ?_ _) | (with_reducible refine Ext.drew ?_) | (with_reducible refine Ext.trans ?_ (by assumption)))))⟩
    --]]
  have HS : Hid (¬ rSame x i b o) := Lib.hid (by unfold rSame; rw [← HV.out.2.1, ← HV.out.2.2.1]; exact hs)
  rcases (show ¬ b = vb ∨ (b = vb ∧ ¬ o = vo) by omega) with hs1 | ⟨hs1, hs2⟩
  · replace hs1 : (b == vb) = false := by simpa using hs1
    clear hs
    go_quiet (fail)
    go_wp2_with fail
    go_region
    generalize hgw : w2.drewN _ = wq
    have hxq : Ext w2 wq := by rw [← hgw]; exact (Ext.refl _).drewN _
    clear hgw
    replace c4 := hxq.cellv c4
    replace c5 := hxq.cellv c5
    replace c6 := hxq.cellv c6
    replace c7 := hxq.cellv c7
    replace c8 := hxq.cellv c8
    replace k0 := hxq.cellv k0
    replace k1 := hxq.cellv k1
    replace k3 := hxq.cellv k3
    replace k4 := hxq.cellv k4
    replace e3 := hxq.cellv e3
    replace e4 := hxq.cellv e4
    replace e5 := hxq.cellv e5
    have hrq := (HR2.out.ext hxq).setI (j := 2) (i := i) (by omega) (by omega) (by rw [HER.out.2.2.1]; exact hi2) b
    rw [← HG.out.2.2.1] at hrq
    have hC : Chg [g 0, g 1, g 2, g 3, g 4] w (wq.setCell ⟨g2, i, none⟩ (.int .i64 b)) := (Chg.of_ext (HX2.out.trans hxq)).setCell (.inl (by simp [HG.out.2.2.1])) _
    have hcS : Chg [g2] wq (wq.setCell ⟨g2, i, none⟩ (.int .i64 b)) := chg_one _ _ _ _
    replace c4 := chg_cellc hcS c4 (by have := HNE.out; have := HLT.out; have := HPW.out; simp; omega)
    replace c5 := chg_cellc hcS c5 (by have := HNE.out; have := HLT.out; have := HPW.out; simp; omega)
    replace c6 := chg_cellc hcS c6 (by have := HNE.out; have := HLT.out; have := HPW.out; simp; omega)
    replace c7 := chg_cellc hcS c7 (by have := HNE.out; have := HLT.out; have := HPW.out; simp; omega)
    replace c8 := chg_cellc hcS c8 (by have := HNE.out; have := HLT.out; have := HPW.out; simp; omega)
    replace k0 := chg_cellc hcS k0 (by have := HNE.out; have := HLT.out; have := HPW.out; simp; omega)
    replace k1 := chg_cellc hcS k1 (by have := HNE.out; have := HLT.out; have := HPW.out; simp; omega)
    replace k3 := chg_cellc hcS k3 (by have := HNE.out; have := HLT.out; have := HPW.out; simp; omega)
    replace k4 := chg_cellc hcS k4 (by have := HNE.out; have := HLT.out; have := HPW.out; simp; omega)
    replace e3 := chg_cellc hcS e3 (by have := HNE.out; have := HLT.out; have := HPW.out; simp; omega)
    replace e4 := chg_cellc hcS e4 (by have := HNE.out; have := HLT.out; have := HPW.out; simp; omega)
    replace e5 := chg_cellc hcS e5 (by have := HNE.out; have := HLT.out; have := HPW.out; simp; omega)
    generalize (wq.setCell ⟨g2, i, none⟩ (.int .i64 b)) = w3 at *
    clear hcS hxq
    have f3 := hrq.frz (j := 3) (by omega) i
    rw [← HG.out.2.2.2.1] at f3
    have HR3 := Lib.hid hrq
    have HC3 := Lib.hid hC
    clear hrq hC f0 f1 f2 f4
    go_wp2_with fail
    go_region
    have hrq := (HR3.out).setI (j := 3) (i := i) (by omega) (by omega) (by rw [HER.out.2.2.2.1]; exact hi2) o
    rw [← HG.out.2.2.2.1] at hrq
    have hxq : Ext (w3.setCell ⟨g3, i, none⟩ (.int .i64 o)) (w3.setCell ⟨g3, i, none⟩ (.int .i64 o)).drew := (Ext.refl _).drew
    replace hrq := hrq.ext hxq
    have hC : Chg [g 0, g 1, g 2, g 3, g 4] w (w3.setCell ⟨g3, i, none⟩ (.int .i64 o)).drew := (HC3.out.setCell (.inl (by simp [HG.out.2.2.2.1])) _).ext hxq
    have hcS : Chg [g3] w3 (w3.setCell ⟨g3, i, none⟩ (.int .i64 o)).drew := (chg_one _ _ _ _).ext hxq
    replace c4 := chg_cellc hcS c4 (by have := HNE.out; have := HLT.out; have := HPW.out; simp; omega)
    replace c5 := chg_cellc hcS c5 (by have := HNE.out; have := HLT.out; have := HPW.out; simp; omega)
    replace c6 := chg_cellc hcS c6 (by have := HNE.out; have := HLT.out; have := HPW.out; simp; omega)
    replace c8 := chg_cellc hcS c8 (by have := HNE.out; have := HLT.out; have := HPW.out; simp; omega)
    replace k0 := chg_cellc hcS k0 (by have := HNE.out; have := HLT.out; have := HPW.out; simp; omega)
    replace k1 := chg_cellc hcS k1 (by have := HNE.out; have := HLT.out; have := HPW.out; simp; omega)
    replace k4 := chg_cellc hcS k4 (by have := HNE.out; have := HLT.out; have := HPW.out; simp; omega)
    replace e4 := chg_cellc hcS e4 (by have := HNE.out; have := HLT.out; have := HPW.out; simp; omega)
    replace e5 := chg_cellc hcS e5 (by have := HNE.out; have := HLT.out; have := HPW.out; simp; omega)
    generalize (w3.setCell ⟨g3, i, none⟩ (.int .i64 o)).drew = w4 at *
    clear hcS hxq
    have f4 := hrq.frz (j := 4) (by omega) i
    rw [← HG.out.2.2.2.2] at f4
    have HR4 := Lib.hid hrq
    have HC4 := Lib.hid hC
    clear hrq hC f3
    go_wp2_with fail
    have hrq := HR4.out.setI (j := 4) (i := i) (by omega) (by omega) (by rw [HER.out.2.2.2.2]; exact hi2) 0
    rw [← HG.out.2.2.2.2] at hrq
    have hC : Chg [g 0, g 1, g 2, g 3, g 4] w (w4.setCell ⟨g4, i, none⟩ (.int .i64 0)) := HC4.out.setCell (.inl (by simp [HG.out.2.2.2.2])) _
    have hcS : Chg [g4] w4 (w4.setCell ⟨g4, i, none⟩ (.int .i64 0)) := chg_one _ _ _ _
    have k4 : (w4.setCell ⟨g4, i, none⟩ (.int .i64 0)).cell? ⟨g4, i, none⟩ = some (.int .i64 0) := by
      have h9 := hrq.at (j := 4) (i := i) (by omega) (by omega) (by rw [HER.out.2.2.2.2]; exact hi2)
      rw [← HG.out.2.2.2.2] at h9
      rw [h9]; simp [RX.setI]
    replace c4 := chg_cellc hcS c4 (by have := HNE.out; have := HLT.out; have := HPW.out; simp; omega)
    replace c5 := chg_cellc hcS c5 (by have := HNE.out; have := HLT.out; have := HPW.out; simp; omega)
    replace c6 := chg_cellc hcS c6 (by have := HNE.out; have := HLT.out; have := HPW.out; simp; omega)
    replace c8 := chg_cellc hcS c8 (by have := HNE.out; have := HLT.out; have := HPW.out; simp; omega)
    replace k0 := chg_cellc hcS k0 (by have := HNE.out; have := HLT.out; have := HPW.out; simp; omega)
    replace k1 := chg_cellc hcS k1 (by have := HNE.out; have := HLT.out; have := HPW.out; simp; omega)
    replace e4 := chg_cellc hcS e4 (by have := HNE.out; have := HLT.out; have := HPW.out; simp; omega)
    replace e5 := chg_cellc hcS e5 (by have := HNE.out; have := HLT.out; have := HPW.out; simp; omega)
    generalize (w4.setCell ⟨g4, i, none⟩ (.int .i64 0)) = w5 at *
    clear hcS
    have f4 := hrq.frz (j := 4) (by omega) i
    have f0 := hrq.frz (j := 0) (by omega) blk
    rw [← HG.out.2.2.2.2] at f4
    rw [← HG.out.1] at f0
    have HR5 := Lib.hid hrq
    have HC5 := Lib.hid hC
    clear hrq hC
    by_cases hv : vv = 1000
    case pos =>
      have hvt : (vv == 1000) = true := by simpa using hv
      obtain ⟨⟨rfl, rfl⟩, rfl⟩ : (r1 = 11 ∧ r2 = 0) ∧ x' = rLast x i b o := by
        have h1 := HRW.out
        unfold rW at h1
        rw [if_neg HNO.out, if_neg HS.out, if_pos (by rw [← HV.out.1]; exact hv)] at h1
        simp only [Prod.mk.injEq] at h1
        exact h1
      go_wp2_with fail
      go_quiet (fail)
      go_wp2_with fail
      generalize hgw : w5.drewN _ = wq
      have hxq : Ext w5 wq := by rw [← hgw]; exact (Ext.refl _).drewN _
      go_ret2
      have hrq := (HR5.out.ext hxq).setI (j := 4) (i := i) (by omega) (by omega) (by rw [HER.out.2.2.2.2]; exact hi2) 11
      rw [← HG.out.2.2.2.2] at hrq
      exact ⟨rfl, hrq, (HC5.out.ext hxq).setCell (.inl (by simp [HG.out.2.2.2.2])) _⟩
    have hvt : (vv == 1000) = false := by simpa using hv
    have hvw : IntKind.i64.wrap (vv + 1) = vv + 1 := by rw [IntKind.wrap_i64]; omega
    obtain ⟨⟨rfl, rfl⟩, rfl⟩ : (r1 = 0 ∧ r2 = 0) ∧ x' = rDone x i blk b o D := by
      have h1 := HRW.out
      unfold rW at h1
      rw [if_neg HNO.out, if_neg HS.out, if_neg (by rw [← HV.out.1]; exact hv)] at h1
      simp only [Prod.mk.injEq] at h1
      exact h1
    go_wp2_with fail
    go_quiet (fail)
    go_wp2_with fail
    generalize hgw : w5.drewN _ = wq
    have hxq : Ext w5 wq := by rw [← hgw]; exact (Ext.refl _).drewN _
    clear hgw
    replace c4 := hxq.cellv c4
    replace c5 := hxq.cellv c5
    replace k0 := hxq.cellv k0
    replace k1 := hxq.cellv k1
    replace e4 := hxq.cellv e4
    replace e5 := hxq.cellv e5
    have f0 : wq.frozen? ⟨g0, blk, none⟩ = false := by have h9 := (HR5.out.ext hxq).frz (j := 0) (by omega) blk; rw [← HG.out.1] at h9; exact h9
    go_region
    have hrq := (HR5.out.ext hxq).setI (j := 0) (i := blk) (by omega) (by omega) (by rw [HER.out.1]; exact hb0) (vv + 1)
    rw [← HG.out.1] at hrq
    have hxs : Ext (wq.setCell ⟨g0, blk, none⟩ (.int .i64 (vv + 1))) (wq.setCell ⟨g0, blk, none⟩ (.int .i64 (vv + 1))).drew := (Ext.refl _).drew
    replace hrq := hrq.ext hxs
    have hC : Chg [g 0, g 1, g 2, g 3, g 4] w (wq.setCell ⟨g0, blk, none⟩ (.int .i64 (vv + 1))).drew := ((HC5.out.ext hxq).setCell (.inl (by simp [HG.out.1])) _).ext hxs
    have hcS : Chg [g0] wq (wq.setCell ⟨g0, blk, none⟩ (.int .i64 (vv + 1))).drew := (chg_one _ _ _ _).ext hxs
    replace c5 := chg_cellc hcS c5 (by have := HNE.out; have := HLT.out; have := HPW.out; simp; omega)
    replace k1 := chg_cellc hcS k1 (by have := HNE.out; have := HLT.out; have := HPW.out; simp; omega)
    replace e4 := chg_cellc hcS e4 (by have := HNE.out; have := HLT.out; have := HPW.out; simp; omega)
    replace e5 := chg_cellc hcS e5 (by have := HNE.out; have := HLT.out; have := HPW.out; simp; omega)
    generalize (wq.setCell ⟨g0, blk, none⟩ (.int .i64 (vv + 1))).drew = w6 at *
    clear hcS hxq hxs f0 f4
    have HR6 := Lib.hid hrq
    have HC6 := Lib.hid hC
    have HD6 : Hid (RdI .u8 w6 (.slice ad n cc) D) := Lib.hid (by
      rw [HN.out]
      refine HD.out.chgc hC (fun hne q hq hm => ?_)
      rw [← HN.out] at hq
      have h0 : 0 < n := by rw [HN.out]; cases D with | nil => exact absurd rfl hne | cons _ _ => simp
      refine HDO.out h0 q hq ?_
      have hg := HRA.out.gF
      simp only [List.mem_cons, List.not_mem_nil, or_false] at hm
      rcases hm with rfl | rfl | rfl | rfl | rfl
      · exact hg 0 (by omega)
      · exact hg 1 (by omega)
      · exact hg 2 (by omega)
      · exact hg 3 (by omega)
      · exact hg 4 (by omega))
    clear hrq hC
    go_wp2_with (at_builtin; refine wpList_append_ints rfl _ _ 36 rfl 5 .u8 0 1 Try.underlying36 bytes_info (by decide) w6 (by repeat' (first | (with_reducible exact Ext.refl _) | (with_reducible assumption) | (with_reducible refine Ext.alloc ?_ _) | (with_reducible refine Ext.drewN ?_ _) | (with_reducible refine Ext.drew ?_) | (with_reducible refine Ext.trans ?_ (by assumption)))) _ _ rfl (OwnI.nil .u8 _ _ _) _ _ rfl (HD6.out) (by have := HN.out; simp; exact fits_small (by omega)) ?_)
    intro v2 w7 ho7 hx7
    replace c5 := hx7.cellv c5
    replace k1 := hx7.cellv k1
    replace e4 := hx7.cellv e4
    have hr7 := HR6.out.ext hx7
    have f1 := hr7.frz (j := 1) (by omega) blk
    rw [← HG.out.2.1] at f1
    have hr8 := hr7.setD (i := blk) HBL.out (v := v2) (D := D) (by simpa using ho7.rd) (fun q hq hm => by
      have h1 := HF.out q hm
      have h2 := (ho7.lt q hq).1
      have h3 := HC6.out.size
      omega)
    rw [← HG.out.2.1] at hr8
    have hc8 : Chg [g 0, g 1, g 2, g 3, g 4] w (w7.setCell ⟨g1, blk, none⟩ v2) := (HC6.out.ext hx7).setCell (.inl (by simp [HG.out.2.1])) _
    have HR8 : Hid (RefAt (w7.setCell ⟨g1, blk, none⟩ v2) F ps g h (rDone x i blk b o D)) := Lib.hid (by unfold rDone; rw [← HV.out.1]; exact hr8)
    have HC8 := Lib.hid hc8
    obtain ⟨a3, n3, c3', rfl⟩ := ho7.rd.isSlice
    clear hr7 hr8 hc8 ho7 hx7 e5
    go_wp2_with fail
    go_region
    go_wp2_with fail
    go_ret2
    exact ⟨rfl, HR8.out.ext (Ext.refl _).drew, HC8.out.ext (Ext.refl _).drew⟩
  · replace hs1 : (b == vb) = true := by simpa using hs1
    replace hs2 : (o == vo) = false := by simpa using hs2
    clear hs
    go_quiet (fail)
    go_wp2_with fail
    go_region
    generalize hgw : w2.drewN _ = wq
    have hxq : Ext w2 wq := by rw [← hgw]; exact (Ext.refl _).drewN _
    clear hgw
    replace c4 := hxq.cellv c4
    replace c5 := hxq.cellv c5
    replace c6 := hxq.cellv c6
    replace c7 := hxq.cellv c7
    replace c8 := hxq.cellv c8
    replace k0 := hxq.cellv k0
    replace k1 := hxq.cellv k1
    replace k3 := hxq.cellv k3
    replace k4 := hxq.cellv k4
    replace e3 := hxq.cellv e3
    replace e4 := hxq.cellv e4
    replace e5 := hxq.cellv e5
    have hrq := (HR2.out.ext hxq).setI (j := 2) (i := i) (by omega) (by omega) (by rw [HER.out.2.2.1]; exact hi2) b
    rw [← HG.out.2.2.1] at hrq
    have hC : Chg [g 0, g 1, g 2, g 3, g 4] w (wq.setCell ⟨g2, i, none⟩ (.int .i64 b)) := (Chg.of_ext (HX2.out.trans hxq)).setCell (.inl (by simp [HG.out.2.2.1])) _
    have hcS : Chg [g2] wq (wq.setCell ⟨g2, i, none⟩ (.int .i64 b)) := chg_one _ _ _ _
    replace c4 := chg_cellc hcS c4 (by have := HNE.out; have := HLT.out; have := HPW.out; simp; omega)
    replace c5 := chg_cellc hcS c5 (by have := HNE.out; have := HLT.out; have := HPW.out; simp; omega)
    replace c6 := chg_cellc hcS c6 (by have := HNE.out; have := HLT.out; have := HPW.out; simp; omega)
    replace c7 := chg_cellc hcS c7 (by have := HNE.out; have := HLT.out; have := HPW.out; simp; omega)
    replace c8 := chg_cellc hcS c8 (by have := HNE.out; have := HLT.out; have := HPW.out; simp; omega)
    replace k0 := chg_cellc hcS k0 (by have := HNE.out; have := HLT.out; have := HPW.out; simp; omega)
    replace k1 := chg_cellc hcS k1 (by have := HNE.out; have := HLT.out; have := HPW.out; simp; omega)
    replace k3 := chg_cellc hcS k3 (by have := HNE.out; have := HLT.out; have := HPW.out; simp; omega)
    replace k4 := chg_cellc hcS k4 (by have := HNE.out; have := HLT.out; have := HPW.out; simp; omega)
    replace e3 := chg_cellc hcS e3 (by have := HNE.out; have := HLT.out; have := HPW.out; simp; omega)
    replace e4 := chg_cellc hcS e4 (by have := HNE.out; have := HLT.out; have := HPW.out; simp; omega)
    replace e5 := chg_cellc hcS e5 (by have := HNE.out; have := HLT.out; have := HPW.out; simp; omega)
    generalize (wq.setCell ⟨g2, i, none⟩ (.int .i64 b)) = w3 at *
    clear hcS hxq
    have f3 := hrq.frz (j := 3) (by omega) i
    rw [← HG.out.2.2.2.1] at f3
    have HR3 := Lib.hid hrq
    have HC3 := Lib.hid hC
    clear hrq hC f0 f1 f2 f4
    go_wp2_with fail
    go_region
    have hrq := (HR3.out).setI (j := 3) (i := i) (by omega) (by omega) (by rw [HER.out.2.2.2.1]; exact hi2) o
    rw [← HG.out.2.2.2.1] at hrq
    have hxq : Ext (w3.setCell ⟨g3, i, none⟩ (.int .i64 o)) (w3.setCell ⟨g3, i, none⟩ (.int .i64 o)).drew := (Ext.refl _).drew
    replace hrq := hrq.ext hxq
    have hC : Chg [g 0, g 1, g 2, g 3, g 4] w (w3.setCell ⟨g3, i, none⟩ (.int .i64 o)).drew := (HC3.out.setCell (.inl (by simp [HG.out.2.2.2.1])) _).ext hxq
    have hcS : Chg [g3] w3 (w3.setCell ⟨g3, i, none⟩ (.int .i64 o)).drew := (chg_one _ _ _ _).ext hxq
    replace c4 := chg_cellc hcS c4 (by have := HNE.out; have := HLT.out; have := HPW.out; simp; omega)
    replace c5 := chg_cellc hcS c5 (by have := HNE.out; have := HLT.out; have := HPW.out; simp; omega)
    replace c6 := chg_cellc hcS c6 (by have := HNE.out; have := HLT.out; have := HPW.out; simp; omega)
    replace c8 := chg_cellc hcS c8 (by have := HNE.out; have := HLT.out; have := HPW.out; simp; omega)
    replace k0 := chg_cellc hcS k0 (by have := HNE.out; have := HLT.out; have := HPW.out; simp; omega)
    replace k1 := chg_cellc hcS k1 (by have := HNE.out; have := HLT.out; have := HPW.out; simp; omega)
    replace k4 := chg_cellc hcS k4 (by have := HNE.out; have := HLT.out; have := HPW.out; simp; omega)
    replace e4 := chg_cellc hcS e4 (by have := HNE.out; have := HLT.out; have := HPW.out; simp; omega)
    replace e5 := chg_cellc hcS e5 (by have := HNE.out; have := HLT.out; have := HPW.out; simp; omega)
    generalize (w3.setCell ⟨g3, i, none⟩ (.int .i64 o)).drew = w4 at *
    clear hcS hxq
    have f4 := hrq.frz (j := 4) (by omega) i
    rw [← HG.out.2.2.2.2] at f4
    have HR4 := Lib.hid hrq
    have HC4 := Lib.hid hC
    clear hrq hC f3
    go_wp2_with fail
    have hrq := HR4.out.setI (j := 4) (i := i) (by omega) (by omega) (by rw [HER.out.2.2.2.2]; exact hi2) 0
    rw [← HG.out.2.2.2.2] at hrq
    have hC : Chg [g 0, g 1, g 2, g 3, g 4] w (w4.setCell ⟨g4, i, none⟩ (.int .i64 0)) := HC4.out.setCell (.inl (by simp [HG.out.2.2.2.2])) _
    have hcS : Chg [g4] w4 (w4.setCell ⟨g4, i, none⟩ (.int .i64 0)) := chg_one _ _ _ _
    have k4 : (w4.setCell ⟨g4, i, none⟩ (.int .i64 0)).cell? ⟨g4, i, none⟩ = some (.int .i64 0) := by
      have h9 := hrq.at (j := 4) (i := i) (by omega) (by omega) (by rw [HER.out.2.2.2.2]; exact hi2)
      rw [← HG.out.2.2.2.2] at h9
      rw [h9]; simp [RX.setI]
    replace c4 := chg_cellc hcS c4 (by have := HNE.out; have := HLT.out; have := HPW.out; simp; omega)
    replace c5 := chg_cellc hcS c5 (by have := HNE.out; have := HLT.out; have := HPW.out; simp; omega)
    replace c6 := chg_cellc hcS c6 (by have := HNE.out; have := HLT.out; have := HPW.out; simp; omega)
    replace c8 := chg_cellc hcS c8 (by have := HNE.out; have := HLT.out; have := HPW.out; simp; omega)
    replace k0 := chg_cellc hcS k0 (by have := HNE.out; have := HLT.out; have := HPW.out; simp; omega)
    replace k1 := chg_cellc hcS k1 (by have := HNE.out; have := HLT.out; have := HPW.out; simp; omega)
    replace e4 := chg_cellc hcS e4 (by have := HNE.out; have := HLT.out; have := HPW.out; simp; omega)
    replace e5 := chg_cellc hcS e5 (by have := HNE.out; have := HLT.out; have := HPW.out; simp; omega)
    generalize (w4.setCell ⟨g4, i, none⟩ (.int .i64 0)) = w5 at *
    clear hcS
    have f4 := hrq.frz (j := 4) (by omega) i
    have f0 := hrq.frz (j := 0) (by omega) blk
    rw [← HG.out.2.2.2.2] at f4
    rw [← HG.out.1] at f0
    have HR5 := Lib.hid hrq
    have HC5 := Lib.hid hC
    clear hrq hC
    by_cases hv : vv = 1000
    case pos =>
      have hvt : (vv == 1000) = true := by simpa using hv
      obtain ⟨⟨rfl, rfl⟩, rfl⟩ : (r1 = 11 ∧ r2 = 0) ∧ x' = rLast x i b o := by
        have h1 := HRW.out
        unfold rW at h1
        rw [if_neg HNO.out, if_neg HS.out, if_pos (by rw [← HV.out.1]; exact hv)] at h1
        simp only [Prod.mk.injEq] at h1
        exact h1
      go_wp2_with fail
      go_quiet (fail)
      go_wp2_with fail
      generalize hgw : w5.drewN _ = wq
      have hxq : Ext w5 wq := by rw [← hgw]; exact (Ext.refl _).drewN _
      go_ret2
      have hrq := (HR5.out.ext hxq).setI (j := 4) (i := i) (by omega) (by omega) (by rw [HER.out.2.2.2.2]; exact hi2) 11
      rw [← HG.out.2.2.2.2] at hrq
      exact ⟨rfl, hrq, (HC5.out.ext hxq).setCell (.inl (by simp [HG.out.2.2.2.2])) _⟩
    have hvt : (vv == 1000) = false := by simpa using hv
    have hvw : IntKind.i64.wrap (vv + 1) = vv + 1 := by rw [IntKind.wrap_i64]; omega
    obtain ⟨⟨rfl, rfl⟩, rfl⟩ : (r1 = 0 ∧ r2 = 0) ∧ x' = rDone x i blk b o D := by
      have h1 := HRW.out
      unfold rW at h1
      rw [if_neg HNO.out, if_neg HS.out, if_neg (by rw [← HV.out.1]; exact hv)] at h1
      simp only [Prod.mk.injEq] at h1
      exact h1
    go_wp2_with fail
    go_quiet (fail)
    go_wp2_with fail
    generalize hgw : w5.drewN _ = wq
    have hxq : Ext w5 wq := by rw [← hgw]; exact (Ext.refl _).drewN _
    clear hgw
    replace c4 := hxq.cellv c4
    replace c5 := hxq.cellv c5
    replace k0 := hxq.cellv k0
    replace k1 := hxq.cellv k1
    replace e4 := hxq.cellv e4
    replace e5 := hxq.cellv e5
    have f0 : wq.frozen? ⟨g0, blk, none⟩ = false := by have h9 := (HR5.out.ext hxq).frz (j := 0) (by omega) blk; rw [← HG.out.1] at h9; exact h9
    go_region
    have hrq := (HR5.out.ext hxq).setI (j := 0) (i := blk) (by omega) (by omega) (by rw [HER.out.1]; exact hb0) (vv + 1)
    rw [← HG.out.1] at hrq
    have hxs : Ext (wq.setCell ⟨g0, blk, none⟩ (.int .i64 (vv + 1))) (wq.setCell ⟨g0, blk, none⟩ (.int .i64 (vv + 1))).drew := (Ext.refl _).drew
    replace hrq := hrq.ext hxs
    have hC : Chg [g 0, g 1, g 2, g 3, g 4] w (wq.setCell ⟨g0, blk, none⟩ (.int .i64 (vv + 1))).drew := ((HC5.out.ext hxq).setCell (.inl (by simp [HG.out.1])) _).ext hxs
    have hcS : Chg [g0] wq (wq.setCell ⟨g0, blk, none⟩ (.int .i64 (vv + 1))).drew := (chg_one _ _ _ _).ext hxs
    replace c5 := chg_cellc hcS c5 (by have := HNE.out; have := HLT.out; have := HPW.out; simp; omega)
    replace k1 := chg_cellc hcS k1 (by have := HNE.out; have := HLT.out; have := HPW.out; simp; omega)
    replace e4 := chg_cellc hcS e4 (by have := HNE.out; have := HLT.out; have := HPW.out; simp; omega)
    replace e5 := chg_cellc hcS e5 (by have := HNE.out; have := HLT.out; have := HPW.out; simp; omega)
    generalize (wq.setCell ⟨g0, blk, none⟩ (.int .i64 (vv + 1))).drew = w6 at *
    clear hcS hxq hxs f0 f4
    have HR6 := Lib.hid hrq
    have HC6 := Lib.hid hC
    have HD6 : Hid (RdI .u8 w6 (.slice ad n cc) D) := Lib.hid (by
      rw [HN.out]
      refine HD.out.chgc hC (fun hne q hq hm => ?_)
      rw [← HN.out] at hq
      have h0 : 0 < n := by rw [HN.out]; cases D with | nil => exact absurd rfl hne | cons _ _ => simp
      refine HDO.out h0 q hq ?_
      have hg := HRA.out.gF
      simp only [List.mem_cons, List.not_mem_nil, or_false] at hm
      rcases hm with rfl | rfl | rfl | rfl | rfl
      · exact hg 0 (by omega)
      · exact hg 1 (by omega)
      · exact hg 2 (by omega)
      · exact hg 3 (by omega)
      · exact hg 4 (by omega))
    clear hrq hC
    go_wp2_with (at_builtin; refine wpList_append_ints rfl _ _ 36 rfl 5 .u8 0 1 Try.underlying36 bytes_info (by decide) w6 (by repeat' (first | (with_reducible exact Ext.refl _) | (with_reducible assumption) | (with_reducible refine Ext.alloc ?_ _) | (with_reducible refine Ext.drewN ?_ _) | (with_reducible refine Ext.drew ?_) | (with_reducible refine Ext.trans ?_ (by assumption)))) _ _ rfl (OwnI.nil .u8 _ _ _) _ _ rfl (HD6.out) (by have := HN.out; simp; exact fits_small (by omega)) ?_)
    intro v2 w7 ho7 hx7
    replace c5 := hx7.cellv c5
    replace k1 := hx7.cellv k1
    replace e4 := hx7.cellv e4
    have hr7 := HR6.out.ext hx7
    have f1 := hr7.frz (j := 1) (by omega) blk
    rw [← HG.out.2.1] at f1
    have hr8 := hr7.setD (i := blk) HBL.out (v := v2) (D := D) (by simpa using ho7.rd) (fun q hq hm => by
      have h1 := HF.out q hm
      have h2 := (ho7.lt q hq).1
      have h3 := HC6.out.size
      omega)
    rw [← HG.out.2.1] at hr8
    have hc8 : Chg [g 0, g 1, g 2, g 3, g 4] w (w7.setCell ⟨g1, blk, none⟩ v2) := (HC6.out.ext hx7).setCell (.inl (by simp [HG.out.2.1])) _
    have HR8 : Hid (RefAt (w7.setCell ⟨g1, blk, none⟩ v2) F ps g h (rDone x i blk b o D)) := Lib.hid (by unfold rDone; rw [← HV.out.1]; exact hr8)
    have HC8 := Lib.hid hc8
    obtain ⟨a3, n3, c3', rfl⟩ := ho7.rd.isSlice
    clear hr7 hr8 hc8 ho7 hx7 e5
    go_wp2_with fail
    go_region
    go_wp2_with fail
    go_ret2
    exact ⟨rfl, HR8.out.ext (Ext.refl _).drew, HC8.out.ext (Ext.refl _).drew⟩

end Go.Proofs.Ytoadjmeopamgbaa
