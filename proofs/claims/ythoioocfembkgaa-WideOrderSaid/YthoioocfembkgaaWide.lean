/-
  wide: within, point, mirror, Point, Parts, Mul; gradineref02: Word, Plain, Right, Compare. No condition but ranges.
-/
import Derived.Test.YthoioocfembkgaaRows
import Derived.Test.YthoioocfembkgaaMem
import Derived.Test.YthoioocfembkgaaFloat
import Derived.Laws.FloatArith
namespace Go.Proofs.Ythoioocfembkgaa
open Go.RowKit

theorem wwithin_is (n m : Int) (w : World) (r : Bool) (hr : decide (0 ≤ n ∧ n ≤ m) = r) :
    Calls Try.prog 16 #[.int .i64 n, .int .i64 m] w fun e w' => e = .returned (.bool r) ∧ w = w' := by
  subst hr
  by_cases h0 : 0 ≤ n
  · by_cases h1 : n ≤ m
    · go_enter Try.func16, Try.ntmps16
      go_wp2
      go_ret
      exact ⟨ret_bool (by simp [h0, h1]), rfl⟩
    · go_enter Try.func16, Try.ntmps16
      go_wp2
      go_ret
      exact ⟨ret_bool (by simp [h1]), rfl⟩
  · have hd : decide (0 ≤ n) = false := by simpa using h0
    go_enter Try.func16, Try.ntmps16
    go_wp2
    go_ret
    exact ⟨ret_bool (by simp), rfl⟩

theorem and_65535 (n : Int) (h0 : 0 ≤ n) (h1 : n < 9223372036854775808) : bits .and .i64 n 65535 = n % 65536 := bits_mask .i64 63 (by decide) (fun n h₀ h₁ => by rw [IntKind.wrap_i64]; omega) 16 (by decide) n h0 (by omega)

theorem point_any (n : Int) (w : World) (h0 : 0 ≤ n) (h1 : n ≤ 4294967295) :
    Calls Try.prog 17 #[.int .i64 n] w fun e w' => ∃ a b, e = .returned (.complex .f64 a b) ∧ IsF a (n / 65536) ∧ IsF b (n % 65536) ∧ w = w' := by
  go_enter Try.func17, Try.ntmps17
  go_wp2
  go_ret
  refine ⟨_, _, rfl, isF_ofInt _ (by omega), ?_, rfl⟩
  rw [and_65535 n h0 (by omega)]
  exact isF_ofInt _ (by omega)

theorem mirror_any (a b : Nat) (y : Int) (w : World) (h : IsF b y) :
    Calls Try.prog 24 #[.complex .f64 a b] w fun e w' => ∃ b', e = .returned (.complex .f64 a b') ∧ IsF b' (-y) ∧ w = w' := by
  have hneg : ∀ w' : World, (Go.Op.unary .neg (.float .f64 b)).run Try.prog w' = .ok (.float .f64 (Go.Op.negFloat .f64 b)) w' := fun _ => rfl
  go_enter Try.func24, Try.ntmps24
  go_wp2
  go_ret
  exact ⟨_, rfl, isF_neg h, rfl⟩

theorem wPoint_in (n : Int) (w : World) (h0 : 0 ≤ n) (h1 : n ≤ 4294967295) :
    Calls Try.prog 8 #[.int .i64 n] w fun e w' => ∃ a b, e = .returned (.tuple #[.complex .f64 a b, .int .i64 0]) ∧ IsF a (n / 65536) ∧ IsF b (n % 65536) ∧ w = w' := by
  have HW := Lib.hid (wwithin_is n 4294967295 w true (by simp; omega))
  go_enter Try.func8, Try.ntmps8
  go_wp2_with (first | (go_at_call 16; refine HW.out.mono ?_; rintro e w1 ⟨rfl, rfl⟩) | (go_at_call 17; refine (point_any n w h0 h1).mono ?_; rintro e w1 ⟨a, b, rfl, ha, hb, rfl⟩))
  go_ret2
  exact ⟨a, b, rfl, ha, hb, rfl⟩

theorem wPoint_out (n : Int) (w : World) (h : ¬(0 ≤ n ∧ n ≤ 4294967295)) :
    Calls Try.prog 8 #[.int .i64 n] w fun e w' => e = .returned (.tuple #[.complex .f64 0 0, .int .i64 3]) ∧ w = w' := by
  have HW := Lib.hid (wwithin_is n 4294967295 w false (by simpa using h))
  clear h
  go_enter Try.func8, Try.ntmps8
  go_wp2_with (go_at_call 16; refine HW.out.mono ?_; rintro e w1 ⟨rfl, rfl⟩)
  go_ret2
  exact ⟨rfl, rfl⟩

theorem parts_out (x y : Int) (w : World) (h : ¬(0 ≤ x ∧ x ≤ 4294967295) ∨ ¬(0 ≤ y ∧ y ≤ 4294967295)) :
    Calls Try.prog 21 #[.int .i64 x, .int .i64 y] w fun e w' => e = .returned (.tuple #[.int .i64 0, .int .i64 0, .int .i64 0, .int .i64 3]) ∧ w = w' := by
  by_cases hx : 0 ≤ x ∧ x ≤ 4294967295
  · have hy : ¬(0 ≤ y ∧ y ≤ 4294967295) := by rcases h with h | h; exact absurd hx h; exact h
    have HX := Lib.hid (wwithin_is x 4294967295 w true (by simpa using hx))
    have HY := Lib.hid (wwithin_is y 4294967295 w false (by simpa using hy))
    clear hx hy h
    go_enter Try.func21, Try.ntmps21
    go_wp2_with fail
    refine HX.out.mono ?_
    rintro e w1 ⟨rfl, rfl⟩
    go_wp2_with fail
    refine HY.out.mono ?_
    rintro e w1 ⟨rfl, rfl⟩
    go_wp2_with fail
    exact bodyPost_ret (v := .tuple #[.int .i64 0, .int .i64 0, .int .i64 0, .int .i64 3]) (by simp [results, Try.results21, go_sem]) rfl ⟨rfl, rfl⟩
  · have HX := Lib.hid (wwithin_is x 4294967295 w false (by simpa using hx))
    clear hx h
    go_enter Try.func21, Try.ntmps21
    go_wp2_with fail
    refine HX.out.mono ?_
    rintro e w1 ⟨rfl, rfl⟩
    go_wp2_with fail
    exact bodyPost_ret (v := .tuple #[.int .i64 0, .int .i64 0, .int .i64 0, .int .i64 3]) (by simp [results, Try.results21, go_sem]) rfl ⟨rfl, rfl⟩

theorem mul_bd {a b : Int} (h0 : 0 ≤ a) (h1 : a ≤ 65535) (h2 : 0 ≤ b) (h3 : b ≤ 65535) : 0 ≤ a * b ∧ a * b ≤ 4294836225 := by
  refine ⟨Int.mul_nonneg h0 h2, ?_⟩
  have := Int.mul_le_mul h1 h3 h2 (by omega)
  omega

theorem ret4 {a a' b b' c c' d : Int} {k1 k2 k3 k4 : IntKind} (h1 : a = a') (h2 : b = b') (h3 : c = c') : Ending.returned (.tuple #[.int k1 a, .int k2 b, .int k3 c, .int k4 d]) = .returned (.tuple #[.int k1 a', .int k2 b', .int k3 c', .int k4 d]) := by rw [h1, h2, h3]

set_option maxHeartbeats 1000000 in
theorem parts_in (x y : Int) (w : World) (hx0 : 0 ≤ x) (hx1 : x ≤ 4294967295) (hy0 : 0 ≤ y) (hy1 : y ≤ 4294967295) :
    Calls Try.prog 21 #[.int .i64 x, .int .i64 y] w fun e w' =>
      e = .returned (.tuple #[.int .i64 (x / 65536 * (y / 65536)), .int .i64 (x / 65536 * (y % 65536) + x % 65536 * (y / 65536)), .int .i64 (x % 65536 * (y % 65536)), .int .i64 0]) ∧ w = w' := by
  have HX := Lib.hid (wwithin_is x 4294967295 w true (by simp; omega))
  have HY := Lib.hid (wwithin_is y 4294967295 w true (by simp; omega))
  go_enter Try.func21, Try.ntmps21
  go_wp2_with fail
  refine HX.out.mono ?_
  rintro e w1 ⟨rfl, rfl⟩
  go_wp2_with fail
  refine HY.out.mono ?_
  rintro e w1 ⟨rfl, rfl⟩
  go_wp2_with fail
  refine (point_any x _ hx0 hx1).mono ?_
  rintro e w1 ⟨a1, b1, rfl, ha1, hb1, rfl⟩
  go_wp2_with fail
  refine (point_any y _ hy0 hy1).mono ?_
  rintro e w1 ⟨c1, d1, rfl, hc1, hd1, rfl⟩
  obtain ⟨r1, i1, m1, fr1, fi1⟩ := cmul_int ha1 hb1 hc1 hd1 (by omega) (by omega) (by omega) (by omega)
  have hm1 := fun w' => run_complex_mul (P := Try.prog) w' 34 _ _ _ _ _ _ m1
  clear m1
  go_wp2_with fail
  refine (point_any x _ hx0 hx1).mono ?_
  rintro e w1 ⟨a2, b2, rfl, ha2, hb2, rfl⟩
  go_wp2_with fail
  refine (point_any y _ hy0 hy1).mono ?_
  rintro e w1 ⟨c2, d2, rfl, hc2, hd2, rfl⟩
  go_wp2_with fail
  refine (mirror_any _ _ _ _ hd2).mono ?_
  rintro e w1 ⟨f2, rfl, hf2, rfl⟩
  obtain ⟨r2, i2, m2, fr2, fi2⟩ := cmul_int ha2 hb2 hc2 hf2 (by omega) (by omega) (by omega) (by omega)
  have hm2 := fun w' => run_complex_mul (P := Try.prog) w' 34 _ _ _ _ _ _ m2
  clear m2 fi2 ha1 hb1 hc1 hd1 ha2 hb2 hc2 hd2 hf2
  obtain ⟨P0, P1⟩ := mul_bd (a := x / 65536) (b := y / 65536) (by omega) (by omega) (by omega) (by omega)
  obtain ⟨Q0, Q1⟩ := mul_bd (a := x % 65536) (b := y % 65536) (by omega) (by omega) (by omega) (by omega)
  obtain ⟨M0, M1⟩ := mul_bd (a := x / 65536) (b := y % 65536) (by omega) (by omega) (by omega) (by omega)
  obtain ⟨N0, N1⟩ := mul_bd (a := x % 65536) (b := y / 65536) (by omega) (by omega) (by omega) (by omega)
  rw [Int.mul_neg, Int.sub_neg] at fr2
  obtain ⟨PP, hPP⟩ : ∃ PP, PP = x / 65536 * (y / 65536) := ⟨_, rfl⟩
  obtain ⟨QQ, hQQ⟩ : ∃ QQ, QQ = x % 65536 * (y % 65536) := ⟨_, rfl⟩
  obtain ⟨MM, hMM⟩ : ∃ MM, MM = x / 65536 * (y % 65536) + x % 65536 * (y / 65536) := ⟨_, rfl⟩
  have MMb : 0 ≤ MM ∧ MM ≤ 8589672450 := by omega
  obtain ⟨MM0, MM1⟩ := MMb
  rw [← hPP, ← hQQ] at fr1 fr2
  rw [← hMM] at fi1
  rw [← hPP] at P0 P1
  rw [← hQQ] at Q0 Q1
  have h53 : (2 : Nat) ^ 53 = 9007199254740992 := by decide
  have f64s : (Try.prog.underlying 39).isSome = true := by rw [Try.underlying39]; rfl
  have c1 := fun w' => run_convert_float_int (P := Try.prog) w' 39 3 .f64 .i64 r1 (PP - QQ) f64s Try.underlying3 (isF_toInt fr1 (by omega))
  have c2 := fun w' => run_convert_float_int (P := Try.prog) w' 39 3 .f64 .i64 r2 (PP + QQ) f64s Try.underlying3 (isF_toInt fr2 (by omega))
  have c3 := fun w' => run_convert_float_int (P := Try.prog) w' 39 3 .f64 .i64 i1 MM f64s Try.underlying3 (isF_toInt fi1 (by omega))
  have HP := Lib.hid hPP
  have HQ := Lib.hid hQQ
  have HM := Lib.hid hMM
  clear hPP hQQ hMM fr1 fr2 fi1 f64s h53 M0 M1 N0 N1 HX HY
  go_wp2_with fail
  refine bodyPost_ret (v := .tuple #[.int .i64 ((PP + QQ + (PP - QQ)) / 2), .int .i64 MM, .int .i64 ((PP + QQ - (PP - QQ)) / 2), .int .i64 0]) (by simp [results, Try.results21, go_sem]) rfl ⟨?_, rfl⟩
  rw [← HP.out, ← HQ.out, ← HM.out]
  exact ret4 (by omega) rfl (by omega)

theorem mul_out (x y : Int) (w : World) (h : ¬(0 ≤ x ∧ x ≤ 2147483647) ∨ ¬(0 ≤ y ∧ y ≤ 2147483647)) :
    Calls Try.prog 18 #[.int .i64 x, .int .i64 y] w fun e w' => e = .returned (.tuple #[.int .i64 0, .int .i64 3]) ∧ w = w' := by
  by_cases hx : 0 ≤ x ∧ x ≤ 2147483647
  · have hy : ¬(0 ≤ y ∧ y ≤ 2147483647) := by rcases h with h | h; exact absurd hx h; exact h
    have HX := Lib.hid (wwithin_is x 2147483647 w true (by simpa using hx))
    have HY := Lib.hid (wwithin_is y 2147483647 w false (by simpa using hy))
    clear hx hy h
    go_enter Try.func18, Try.ntmps18
    go_wp2_with fail
    refine HX.out.mono ?_
    rintro e w1 ⟨rfl, rfl⟩
    go_wp2_with fail
    refine HY.out.mono ?_
    rintro e w1 ⟨rfl, rfl⟩
    go_wp2_with fail
    go_ret2
    exact ⟨rfl, rfl⟩
  · have HX := Lib.hid (wwithin_is x 2147483647 w false (by simpa using hx))
    clear hx h
    go_enter Try.func18, Try.ntmps18
    go_wp2_with fail
    refine HX.out.mono ?_
    rintro e w1 ⟨rfl, rfl⟩
    go_wp2_with fail
    go_ret2
    exact ⟨rfl, rfl⟩

theorem mul_split (x y : Int) : x * y = x / 65536 * (y / 65536) * 4294967296 + (x / 65536 * (y % 65536) + x % 65536 * (y / 65536)) * 65536 + x % 65536 * (y % 65536) := by
  have hx : x = 65536 * (x / 65536) + x % 65536 := by omega
  have hy : y = 65536 * (y / 65536) + y % 65536 := by omega
  generalize x / 65536 = a at *
  generalize x % 65536 = b at *
  generalize y / 65536 = c at *
  generalize y % 65536 = d at *
  subst hx
  subst hy
  rw [Int.add_mul, Int.mul_add, Int.mul_add]
  have e1 : 65536 * a * (65536 * c) = a * c * 4294967296 := by rw [Int.mul_assoc, Int.mul_left_comm a, ← Int.mul_assoc]; omega
  have e2 : 65536 * a * d = a * d * 65536 := by rw [Int.mul_assoc, Int.mul_comm]
  have e3 : b * (65536 * c) = b * c * 65536 := by rw [Int.mul_left_comm, Int.mul_comm]
  rw [e1, e2, e3, Int.add_mul]
  omega

set_option maxHeartbeats 1000000 in
theorem mul_in (x y : Int) (w : World) (hx0 : 0 ≤ x) (hx1 : x ≤ 2147483647) (hy0 : 0 ≤ y) (hy1 : y ≤ 2147483647) :
    Calls Try.prog 18 #[.int .i64 x, .int .i64 y] w fun e w' => e = .returned (.tuple #[.int .i64 (x * y), .int .i64 0]) ∧ w = w' := by
  have HX := Lib.hid (wwithin_is x 2147483647 w true (by simp; omega))
  have HY := Lib.hid (wwithin_is y 2147483647 w true (by simp; omega))
  have HPa := parts_in x y w hx0 (by omega) hy0 (by omega)
  have hsp := mul_split x y
  have P01 : 0 ≤ x / 65536 * (y / 65536) ∧ x / 65536 * (y / 65536) ≤ 1073676289 := by
    refine ⟨Int.mul_nonneg (by omega) (by omega), ?_⟩
    have := Int.mul_le_mul (a := x / 65536) (b := y / 65536) (c := 32767) (d := 32767) (by omega) (by omega) (by omega) (by omega)
    omega
  obtain ⟨P0, P1⟩ := P01
  obtain ⟨Q0, Q1⟩ := mul_bd (a := x % 65536) (b := y % 65536) (by omega) (by omega) (by omega) (by omega)
  obtain ⟨M0, M1⟩ := mul_bd (a := x / 65536) (b := y % 65536) (by omega) (by omega) (by omega) (by omega)
  obtain ⟨N0, N1⟩ := mul_bd (a := x % 65536) (b := y / 65536) (by omega) (by omega) (by omega) (by omega)
  obtain ⟨MMa, MMb⟩ : 0 ≤ x / 65536 * (y % 65536) + x % 65536 * (y / 65536) ∧ x / 65536 * (y % 65536) + x % 65536 * (y / 65536) ≤ 8589672450 := by omega
  clear M0 M1 N0 N1
  generalize x / 65536 * (y % 65536) + x % 65536 * (y / 65536) = M at *
  generalize x / 65536 * (y / 65536) = P at *
  generalize x % 65536 * (y % 65536) = Q at *
  have HS := Lib.hid hsp
  have HP := Lib.hid HPa
  clear hsp HPa
  go_enter Try.func18, Try.ntmps18
  go_wp2_with fail
  refine HX.out.mono ?_
  rintro e w1 ⟨rfl, rfl⟩
  go_wp2_with fail
  refine HY.out.mono ?_
  rintro e w1 ⟨rfl, rfl⟩
  go_wp2_with fail
  refine HP.out.mono ?_
  rintro e w1 ⟨rfl, rfl⟩
  go_wp2_with fail
  go_ret2
  refine ⟨?_, rfl⟩
  rw [HS.out]
  rfl
end Go.Proofs.Ythoioocfembkgaa
