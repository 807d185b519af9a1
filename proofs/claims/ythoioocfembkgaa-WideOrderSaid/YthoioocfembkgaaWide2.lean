/-
  wide: Right, Compare; gradineref02: Word, Plain, Right, Compare; the examples of gradinelaw02. No condition but ranges.
-/
import Derived.Test.YthoioocfembkgaaWide
namespace Go.Proofs.Ythoioocfembkgaa
open Go.RowKit

theorem isF_eq {a b : Nat} {n : Int} (ha : IsF a n) (hb : IsF b n) : FloatKind.f64.format.order a b = some .eq := by
  obtain ⟨s, m, i, e1, k, a0, a1⟩ := ha
  obtain ⟨t, q, j, e2, l, b0, b1⟩ := hb
  obtain ⟨a0', a1'⟩ := val_scale a0 a1 l
  obtain ⟨b0', b1'⟩ := val_scale b0 b1 k
  rw [Nat.add_comm l k] at b0' b1'
  show (Ieee.Datum.order (Ieee.double.read a) (Ieee.double.read b)) = _
  rw [e1, e2]
  simp only [Ieee.Datum.order, Option.some.injEq]
  obtain ⟨u, hu⟩ : ∃ u : Nat, min i j + ((k + l : Nat) : Int) = u := ⟨(min i j + ((k + l : Nat) : Int)).toNat, by omega⟩
  have h1 : (i + ((k + l : Nat) : Int)).toNat = (i - min i j).toNat + u := by omega
  have h2 : (j + ((k + l : Nat) : Int)).toNat = (j - min i j).toNat + u := by omega
  rw [h1, signed_add] at a1'
  rw [h2, signed_add] at b1'
  have : Ieee.signed s m (i - min i j).toNat = Ieee.signed t q (j - min i j).toNat :=
    Int.eq_of_mul_eq_mul_right (by have : (0 : Int) < 2 ^ u := Int.pow_pos (by decide); omega) (a1'.trans b1'.symm)
  rw [this]
  simp

theorem isF_one : IsF 4607182418800017408 1 := ⟨false, 4503599627370496, -52, by decide +kernel, 52, by omega, by decide +kernel⟩
theorem isF_two : IsF 4611686018427387904 2 := ⟨false, 4503599627370496, -51, by decide +kernel, 52, by omega, by decide +kernel⟩

/-- a fraction that may be -/
def rightB (t b : Int) : Bool := decide (0 ≤ t ∧ t ≤ 2147483647) && decide (0 ≤ b ∧ b ≤ 2147483647) && decide (0 < b)
theorem right_of {t b : Int} (h : rightB t b = true) : 0 ≤ t ∧ t ≤ 2147483647 ∧ 0 < b ∧ b ≤ 2147483647 := by
  simp [rightB] at h; omega
theorem right_mk {t b : Int} (h : 0 ≤ t ∧ t ≤ 2147483647 ∧ 0 < b ∧ b ≤ 2147483647) : rightB t b = true := by
  simp [rightB]; omega
theorem right_not {t b : Int} (h : rightB t b = false) : ¬(0 ≤ t ∧ t ≤ 2147483647 ∧ 0 < b ∧ b ≤ 2147483647) := by
  intro hh; rw [right_mk hh] at h; cases h

theorem wRight_is (t b : Int) (w : World) (r : Bool) (hr : rightB t b = r) :
    Calls Try.prog 12 #[.agg #[.int .i64 t, .int .i64 b]] w fun e w' => e = .returned (.bool r) ∧ Ext w w' := by
  subst hr
  cases h1 : decide (0 ≤ t ∧ t ≤ 2147483647)
  · have H1 := Lib.hid (fun W => wwithin_is t 2147483647 W false h1)
    have HR := Lib.hid (show rightB t b = false by unfold rightB; rw [h1]; rfl)
    clear h1
    go_enter Try.func12, Try.ntmps12
    go_wp2_with fail
    refine (H1.out _).mono ?_
    rintro e w1 ⟨rfl, rfl⟩
    go_wp2
    go_ret
    exact ⟨ret_bool HR.out.symm, (by repeat' (first | (with_reducible exact Ext.refl _) | (with_reducible assumption) | (with_reducible refine Ext.alloc ?_ _) | (with_reducible refine Ext.drewN ?_ _) | (with_reducible refine Ext.drew ?_) | (with_reducible refine Ext.trans ?_ (by assumption))))⟩
  · cases h2 : decide (0 ≤ b ∧ b ≤ 2147483647)
    · have H1 := Lib.hid (fun W => wwithin_is t 2147483647 W true h1)
      have H2 := Lib.hid (fun W => wwithin_is b 2147483647 W false h2)
      have HR := Lib.hid (show rightB t b = false by unfold rightB; rw [h1, h2]; rfl)
      clear h1 h2
      go_enter Try.func12, Try.ntmps12
      go_wp2_with fail
      refine (H1.out _).mono ?_
      rintro e w1 ⟨rfl, rfl⟩
      go_wp2_with fail
      refine (H2.out _).mono ?_
      rintro e w1 ⟨rfl, rfl⟩
      go_wp2
      go_ret
      exact ⟨ret_bool HR.out.symm, (by repeat' (first | (with_reducible exact Ext.refl _) | (with_reducible assumption) | (with_reducible refine Ext.alloc ?_ _) | (with_reducible refine Ext.drewN ?_ _) | (with_reducible refine Ext.drew ?_) | (with_reducible refine Ext.trans ?_ (by assumption))))⟩
    · have H1 := Lib.hid (fun W => wwithin_is t 2147483647 W true h1)
      have H2 := Lib.hid (fun W => wwithin_is b 2147483647 W true h2)
      have HR := Lib.hid (show rightB t b = decide (0 < b) by unfold rightB; rw [h1, h2]; rfl)
      clear h1 h2
      go_enter Try.func12, Try.ntmps12
      go_wp2_with fail
      refine (H1.out _).mono ?_
      rintro e w1 ⟨rfl, rfl⟩
      go_wp2_with fail
      refine (H2.out _).mono ?_
      rintro e w1 ⟨rfl, rfl⟩
      go_wp2
      go_ret
      exact ⟨ret_bool HR.out.symm, (by repeat' (first | (with_reducible exact Ext.refl _) | (with_reducible assumption) | (with_reducible refine Ext.alloc ?_ _) | (with_reducible refine Ext.drewN ?_ _) | (with_reducible refine Ext.drew ?_) | (with_reducible refine Ext.trans ?_ (by assumption))))⟩

/-- how two fractions stand -/
def cmpF (a b c d : Int) : Int := if a * d < c * b then -1 else if c * b < a * d then 1 else 0

theorem compare_out (a b c d : Int) (w : World) (h : rightB a b = false ∨ rightB c d = false) :
    Calls Try.prog 9 #[.agg #[.int .i64 a, .int .i64 b], .agg #[.int .i64 c, .int .i64 d]] w fun e w' => e = .returned (.tuple #[.int .i64 0, .int .i64 6]) ∧ Ext w w' := by
  cases h1 : rightB a b
  · have H1 := Lib.hid (fun W => wRight_is a b W false h1)
    clear h1 h
    go_enter Try.func9, Try.ntmps9
    go_wp2_with fail
    refine (H1.out _).mono ?_
    rintro e w1 ⟨rfl, hx1⟩
    go_wp2_with fail
    go_ret2
    exact ⟨rfl, (by repeat' (first | (with_reducible exact Ext.refl _) | (with_reducible assumption) | (with_reducible refine Ext.alloc ?_ _) | (with_reducible refine Ext.drewN ?_ _) | (with_reducible refine Ext.drew ?_) | (with_reducible refine Ext.trans ?_ (by assumption))))⟩
  · have h2 : rightB c d = false := by rcases h with h | h; rw [h1] at h; cases h; exact h
    have H1 := Lib.hid (fun W => wRight_is a b W true h1)
    have H2 := Lib.hid (fun W => wRight_is c d W false h2)
    clear h1 h2 h
    go_enter Try.func9, Try.ntmps9
    go_wp2_with fail
    refine (H1.out _).mono ?_
    rintro e w1 ⟨rfl, hx1⟩
    have c0 := hx1.cellv (b := w.heap.size + 1) (o := 0) (u := .int .i64 c) (by simp)
    have c1 := hx1.cellv (b := w.heap.size + 1) (o := 1) (u := .int .i64 d) (by simp)
    go_wp2_with fail
    refine (H2.out _).mono ?_
    rintro e w2 ⟨rfl, hx2⟩
    go_wp2_with fail
    go_ret2
    exact ⟨rfl, (by repeat' (first | (with_reducible exact Ext.refl _) | (with_reducible assumption) | (with_reducible refine Ext.alloc ?_ _) | (with_reducible refine Ext.drewN ?_ _) | (with_reducible refine Ext.drew ?_) | (with_reducible refine Ext.trans ?_ (by assumption))))⟩
theorem nonneg_mul_bd {a b : Int} (h0 : 0 ≤ a) (h1 : a ≤ 2147483647) (h2 : 0 ≤ b) (h3 : b ≤ 2147483647) : 0 ≤ a * b ∧ a * b ≤ 4611686014132420609 := by
  refine ⟨Int.mul_nonneg h0 h2, ?_⟩
  have := Int.mul_le_mul h1 h3 h2 (by omega)
  omega

set_option maxHeartbeats 1000000 in
theorem compare_in (a b c d : Int) (w : World) (h1 : rightB a b = true) (h2 : rightB c d = true) :
    Calls Try.prog 9 #[.agg #[.int .i64 a, .int .i64 b], .agg #[.int .i64 c, .int .i64 d]] w fun e w' => e = .returned (.tuple #[.int .i64 (cmpF a b c d), .int .i64 0]) ∧ Ext w w' := by
  have H1 := Lib.hid (fun W => wRight_is a b W true h1)
  have H2 := Lib.hid (fun W => wRight_is c d W true h2)
  obtain ⟨a0, a1, b0, b1⟩ := right_of h1
  obtain ⟨c0, c1, d0, d1⟩ := right_of h2
  have M1 := Lib.hid (fun W => mul_in a d W a0 a1 (by omega) d1)
  have M2 := Lib.hid (fun W => mul_in c b W c0 c1 (by omega) b1)
  have HC := Lib.hid (show cmpF a b c d = if a * d < c * b then -1 else if c * b < a * d then 1 else 0 from rfl)
  generalize a * d = X at *
  generalize c * b = Y at *
  clear h1 h2 a0 a1 b0 b1 c0 c1 d0 d1
  go_enter Try.func9, Try.ntmps9
  go_wp2_with fail
  refine (H1.out _).mono ?_
  rintro e w1 ⟨rfl, hx1⟩
  have p0 := hx1.cellv (b := w.heap.size + 1) (o := 0) (u := .int .i64 c) (by simp)
  have p1 := hx1.cellv (b := w.heap.size + 1) (o := 1) (u := .int .i64 d) (by simp)
  have q0 := hx1.cellv (b := w.heap.size) (o := 0) (u := .int .i64 a) (by simp)
  have q1 := hx1.cellv (b := w.heap.size) (o := 1) (u := .int .i64 b) (by simp)
  go_wp2_with fail
  refine (H2.out _).mono ?_
  rintro e w2 ⟨rfl, hx2⟩
  replace p0 := hx2.cellv p0
  replace p1 := hx2.cellv p1
  replace q0 := hx2.cellv q0
  replace q1 := hx2.cellv q1
  go_wp2_with fail
  refine (M1.out _).mono ?_
  rintro e w3 ⟨rfl, rfl⟩
  go_wp2_with fail
  refine (M2.out _).mono ?_
  rintro e w3 ⟨rfl, rfl⟩
  by_cases hlt : X < Y
  · have HE := Lib.hid (show cmpF a b c d = -1 by rw [HC.out, if_pos hlt])
    go_wp2_with fail
    go_ret2
    refine ⟨?_, (by repeat' (first | (with_reducible exact Ext.refl _) | (with_reducible assumption) | (with_reducible refine Ext.alloc ?_ _) | (with_reducible refine Ext.drewN ?_ _) | (with_reducible refine Ext.drew ?_) | (with_reducible refine Ext.trans ?_ (by assumption))))⟩
    rw [HE.out]; rfl
  · by_cases hgt : Y < X
    · have HE := Lib.hid (show cmpF a b c d = 1 by rw [HC.out, if_neg hlt, if_pos hgt])
      go_wp2_with fail
      go_ret2
      refine ⟨?_, (by repeat' (first | (with_reducible exact Ext.refl _) | (with_reducible assumption) | (with_reducible refine Ext.alloc ?_ _) | (with_reducible refine Ext.drewN ?_ _) | (with_reducible refine Ext.drew ?_) | (with_reducible refine Ext.trans ?_ (by assumption))))⟩
      rw [HE.out]; rfl
    · have HE := Lib.hid (show cmpF a b c d = 0 by rw [HC.out, if_neg hlt, if_neg hgt])
      go_wp2_with fail
      go_ret2
      refine ⟨?_, (by repeat' (first | (with_reducible exact Ext.refl _) | (with_reducible assumption) | (with_reducible refine Ext.alloc ?_ _) | (with_reducible refine Ext.drewN ?_ _) | (with_reducible refine Ext.drew ?_) | (with_reducible refine Ext.trans ?_ (by assumption))))⟩
      rw [HE.out]; rfl

theorem plain_is (n : Int) (w : World) (r : Bool) (hr : decide (0 ≤ n ∧ n ≤ 2147483647) = r) :
    Calls Try.prog 15 #[.int .i64 n] w fun e w' => e = .returned (.bool r) ∧ w = w' := by
  subst hr
  by_cases h0 : 0 ≤ n
  · by_cases h1 : n ≤ 2147483647
    · go_enter Try.func15, Try.ntmps15
      go_wp2
      go_ret
      exact ⟨ret_bool (by simp [h0, h1]), rfl⟩
    · go_enter Try.func15, Try.ntmps15
      go_wp2
      go_ret
      exact ⟨ret_bool (by simp [h1]), rfl⟩
  · have hd : decide (0 ≤ n) = false := by simpa using h0
    go_enter Try.func15, Try.ntmps15
    go_wp2
    go_ret
    exact ⟨ret_bool (by simp), rfl⟩

theorem refright_is (t b : Int) (w : World) (r : Bool) (hr : rightB t b = r) :
    Calls Try.prog 6 #[.int .i64 t, .int .i64 b] w fun e w' => e = .returned (.bool r) ∧ w = w' := by
  subst hr
  cases h1 : decide (0 ≤ t ∧ t ≤ 2147483647)
  · have H1 := Lib.hid (fun W => plain_is t W false h1)
    have HR := Lib.hid (show rightB t b = false by unfold rightB; rw [h1]; rfl)
    clear h1
    go_enter Try.func6, Try.ntmps6
    go_wp2_with fail
    refine (H1.out _).mono ?_
    rintro e w1 ⟨rfl, rfl⟩
    go_wp2
    go_ret
    exact ⟨ret_bool HR.out.symm, rfl⟩
  · cases h2 : decide (0 ≤ b ∧ b ≤ 2147483647)
    · have H1 := Lib.hid (fun W => plain_is t W true h1)
      have H2 := Lib.hid (fun W => plain_is b W false h2)
      have HR := Lib.hid (show rightB t b = false by unfold rightB; rw [h1, h2]; rfl)
      clear h1 h2
      go_enter Try.func6, Try.ntmps6
      go_wp2_with fail
      refine (H1.out _).mono ?_
      rintro e w1 ⟨rfl, rfl⟩
      go_wp2_with fail
      refine (H2.out _).mono ?_
      rintro e w1 ⟨rfl, rfl⟩
      go_wp2
      go_ret
      exact ⟨ret_bool HR.out.symm, rfl⟩
    · have H1 := Lib.hid (fun W => plain_is t W true h1)
      have H2 := Lib.hid (fun W => plain_is b W true h2)
      have HR := Lib.hid (show rightB t b = decide (0 < b) by unfold rightB; rw [h1, h2]; rfl)
      clear h1 h2
      go_enter Try.func6, Try.ntmps6
      go_wp2_with fail
      refine (H1.out _).mono ?_
      rintro e w1 ⟨rfl, rfl⟩
      go_wp2_with fail
      refine (H2.out _).mono ?_
      rintro e w1 ⟨rfl, rfl⟩
      go_wp2
      go_ret
      exact ⟨ret_bool HR.out.symm, rfl⟩

theorem refcompare_in (a b c d : Int) (w : World) (h1 : rightB a b = true) (h2 : rightB c d = true) :
    Calls Try.prog 7 #[.int .i64 a, .int .i64 b, .int .i64 c, .int .i64 d] w fun e w' => e = .returned (.int .i64 (cmpF a b c d)) ∧ w = w' := by
  obtain ⟨a0, a1, b0, b1⟩ := right_of h1
  obtain ⟨c0, c1, d0, d1⟩ := right_of h2
  obtain ⟨x0, x1⟩ := nonneg_mul_bd a0 a1 (Int.le_of_lt d0) d1
  obtain ⟨y0, y1⟩ := nonneg_mul_bd c0 c1 (Int.le_of_lt b0) b1
  have HC := Lib.hid (show cmpF a b c d = if a * d < c * b then -1 else if c * b < a * d then 1 else 0 from rfl)
  clear h1 h2
  by_cases hlt : a * d < c * b
  · have HE := Lib.hid (show cmpF a b c d = -1 by rw [HC.out, if_pos hlt])
    go_enter Try.func7, Try.ntmps7
    go_wp2
    go_ret
    refine ⟨?_, rfl⟩
    rw [HE.out]; rfl
  · by_cases hgt : c * b < a * d
    · have HE := Lib.hid (show cmpF a b c d = 1 by rw [HC.out, if_neg hlt, if_pos hgt])
      go_enter Try.func7, Try.ntmps7
      go_wp2
      go_ret
      refine ⟨?_, rfl⟩
      rw [HE.out]; rfl
    · have HE := Lib.hid (show cmpF a b c d = 0 by rw [HC.out, if_neg hlt, if_neg hgt])
      go_enter Try.func7, Try.ntmps7
      go_wp2
      go_ret
      refine ⟨?_, rfl⟩
      rw [HE.out]; rfl

theorem wakes02 (w : World) : Calls Try.prog 4 #[] w fun e w' => e = .returned (.bool true) ∧ Ext w w' := by
  go_enter Try.func4, Try.ntmps4
  go_wp2_with fail
  refine (wPoint_in 65538 _ (by omega) (by omega)).mono ?_
  rintro e w1 ⟨a, b, rfl, ha, hb, rfl⟩
  have ea := isF_eq ha isF_one
  have eb := isF_eq hb isF_two
  go_wp2_with fail
  refine (compare_in 1 3 2 6 _ (by decide) (by decide)).mono ?_
  rintro e w2 ⟨rfl, hx2⟩
  go_wp2_with fail
  refine (compare_in 1 2 1 3 _ (by decide) (by decide)).mono ?_
  rintro e w3 ⟨rfl, hx3⟩
  have e1 : (cmpF 1 3 2 6 == 0) = true := by decide
  have e2 : (cmpF 1 2 1 3 == 1) = true := by decide
  go_wp2_with fail
  go_ret
  exact ⟨rfl, (by repeat' (first | (with_reducible exact Ext.refl _) | (with_reducible assumption) | (with_reducible refine Ext.alloc ?_ _) | (with_reducible refine Ext.drewN ?_ _) | (with_reducible refine Ext.drew ?_) | (with_reducible refine Ext.trans ?_ (by assumption))))⟩
end Go.Proofs.Ythoioocfembkgaa
