/-
  gradinelaw02.WideThree answers true. No condition.
-/
import Derived.Test.YtmlkjolpoldchaaWide2
import Derived.Test.YtmlkjolpoldchaaFrac
namespace Go.Proofs.Ytmlkjolpoldchaa
open Go.RowKit

theorem cmp_trans {a b c d e f : Int} (h1 : rightB a b = true) (h2 : rightB c d = true) (h3 : rightB e f = true) (x : 0 ≤ cmpF a b c d) (y : 0 ≤ cmpF c d e f) :
    0 ≤ cmpF a b e f ∧ (0 < cmpF a b e f ∨ cmpF a b c d = 0 ∧ cmpF c d e f = 0) := by
  obtain ⟨a0, a1, b0, b1⟩ := right_of h1
  obtain ⟨c0, c1, d0, d1⟩ := right_of h2
  obtain ⟨e0, e1, f0, f1⟩ := right_of h3
  have p : c * b ≤ a * d := by unfold cmpF at x; split at x <;> omega
  have q : e * d ≤ c * f := by unfold cmpF at y; split at y <;> omega
  have p1 : c * b * f ≤ a * d * f := Int.mul_le_mul_of_nonneg_right p (by omega)
  have q1 : e * d * b ≤ c * f * b := Int.mul_le_mul_of_nonneg_right q (by omega)
  have e1 : c * b * f = c * f * b := by rw [Int.mul_assoc, Int.mul_comm b, ← Int.mul_assoc]
  have e2 : a * d * f = a * f * d := by rw [Int.mul_assoc, Int.mul_comm d, ← Int.mul_assoc]
  have e3 : e * d * b = e * b * d := by rw [Int.mul_assoc, Int.mul_comm d, ← Int.mul_assoc]
  rw [e1, e2] at p1
  rw [e3] at q1
  have r : e * b ≤ a * f := Int.le_of_mul_le_mul_right (Int.le_trans q1 p1) d0
  by_cases hlt : e * b < a * f
  · have hz : cmpF a b e f = 1 := by unfold cmpF; rw [if_neg (by omega), if_pos hlt]
    rw [hz]; exact ⟨by omega, .inl (by omega)⟩
  · have heq : e * b = a * f := by omega
    have hz : cmpF a b e f = 0 := by unfold cmpF; rw [if_neg (by omega), if_neg (by omega)]
    rw [hz]
    refine ⟨by omega, .inr ⟨?_, ?_⟩⟩
    · have p2 : c * b * f = a * d * f := by rw [e1, e2]; rw [heq] at q1; omega
      have p3 : c * b = a * d := Int.eq_of_mul_eq_mul_right (by omega) p2
      unfold cmpF; rw [if_neg (by omega), if_neg (by omega)]
    · have q2 : e * d * b = c * f * b := by rw [e3]; rw [heq] at q1 ⊢; omega
      have q3 : e * d = c * f := Int.eq_of_mul_eq_mul_right (by omega) q2
      unfold cmpF; rw [if_neg (by omega), if_neg (by omega)]

/-- what Compare hands back, whatever the fractions -/
theorem compare_any (a b c d : Int) (w : World) (x e : Int) (h : (rightB a b = true ∧ rightB c d = true ∧ x = cmpF a b c d ∧ e = 0) ∨ ((rightB a b = false ∨ rightB c d = false) ∧ x = 0 ∧ e = 6)) :
    Calls Try.prog 16 #[.agg #[.int .i64 a, .int .i64 b], .agg #[.int .i64 c, .int .i64 d]] w fun en w' => en = .returned (.tuple #[.int .i64 x, .int .i64 e]) ∧ Ext w w' := by
  rcases h with ⟨h1, h2, rfl, rfl⟩ | ⟨h, rfl, rfl⟩
  · exact compare_in a b c d w h1 h2
  · exact compare_out a b c d w h

theorem cmp_pick (a b c d : Int) : ∃ x e : Int, -1 ≤ x ∧ x ≤ 1 ∧ ((rightB a b = true ∧ rightB c d = true ∧ x = cmpF a b c d ∧ e = 0) ∨ ((rightB a b = false ∨ rightB c d = false) ∧ x = 0 ∧ e = 6)) := by
  cases h1 : rightB a b
  · exact ⟨0, 6, by omega, by omega, .inr ⟨.inl rfl, rfl, rfl⟩⟩
  · cases h2 : rightB c d
    · exact ⟨0, 6, by omega, by omega, .inr ⟨.inr rfl, rfl, rfl⟩⟩
    · exact ⟨cmpF a b c d, 0, by unfold cmpF; split <;> (try split) <;> omega, by unfold cmpF; split <;> (try split) <;> omega, .inl ⟨rfl, rfl, rfl, rfl⟩⟩

set_option maxHeartbeats 2000000 in
theorem walk_WideThree (v0 v1 v2 : Value) (w : World) (h0 : IsFrac v0) (h1 : IsFrac v1) (h2 : IsFrac v2) :
    Calls Try.prog 7 #[v0, v1, v2] w fun e w' => e = .returned (.bool true) ∧ Ext w w' := by
  obtain ⟨a, b, rfl, _, _⟩ := h0
  obtain ⟨c, d, rfl, _, _⟩ := h1
  obtain ⟨m, n, rfl, _, _⟩ := h2
  obtain ⟨x, e, x0, x1, hx⟩ := cmp_pick a b c d
  obtain ⟨y, f, y0, y1, hy⟩ := cmp_pick c d m n
  obtain ⟨z, g, z0, z1, hz⟩ := cmp_pick a b m n
  have HX := Lib.hid (fun W => compare_any a b c d W x e hx)
  have HY := Lib.hid (fun W => compare_any c d m n W y f hy)
  have HZ := Lib.hid (fun W => compare_any a b m n W z g hz)
  have key : e ≠ 0 ∨ f ≠ 0 ∨ g ≠ 0 ∨ (x < 0 ∨ y < 0 ∨ (0 ≤ z ∧ (0 < z ∨ x = 0 ∧ y = 0))) := by
    rcases hx with ⟨r1, r2, rfl, rfl⟩ | ⟨_, _, rfl⟩
    · rcases hy with ⟨_, r3, rfl, rfl⟩ | ⟨_, _, rfl⟩
      · rcases hz with ⟨_, _, rfl, rfl⟩ | ⟨_, _, rfl⟩
        · by_cases hx0 : 0 ≤ cmpF a b c d
          · by_cases hy0 : 0 ≤ cmpF c d m n
            · have := cmp_trans r1 r2 r3 hx0 hy0
              exact .inr (.inr (.inr (.inr (.inr this))))
            · exact .inr (.inr (.inr (.inr (.inl (by omega)))))
          · exact .inr (.inr (.inr (.inl (by omega))))
        · exact .inr (.inr (.inl (by omega)))
      · exact .inr (.inl (by omega))
    · exact .inl (by omega)
  have HK := Lib.hid key
  clear hx hy hz key
  go_enter Try.func7, Try.ntmps7
  go_wp2_with fail
  refine (wakes02 _).mono ?_
  rintro en w1 ⟨rfl, hx1⟩
  have a0 := hx1.cellv (cell_old _ (cell_old _ (cell_new w #[.int .i64 a, .int .i64 b] 37 (0, 0) (j := 0) rfl)))
  have a1 := hx1.cellv (cell_old _ (cell_old _ (cell_new w #[.int .i64 a, .int .i64 b] 37 (0, 0) (j := 1) rfl)))
  have b0 := hx1.cellv (cell_old _ (cell_new1 w _ #[.int .i64 c, .int .i64 d] 37 (0, 0) (j := 0) rfl))
  have b1 := hx1.cellv (cell_old _ (cell_new1 w _ #[.int .i64 c, .int .i64 d] 37 (0, 0) (j := 1) rfl))
  have c0 := hx1.cellv (cell_new2 w _ _ #[.int .i64 m, .int .i64 n] 37 (0, 0) (j := 0) rfl)
  have c1 := hx1.cellv (cell_new2 w _ _ #[.int .i64 m, .int .i64 n] 37 (0, 0) (j := 1) rfl)
  go_wp2_with fail
  refine (HX.out _).mono ?_
  rintro en w2 ⟨rfl, hx2⟩
  replace a0 := hx2.cellv a0
  replace a1 := hx2.cellv a1
  replace b0 := hx2.cellv b0
  replace b1 := hx2.cellv b1
  replace c0 := hx2.cellv c0
  replace c1 := hx2.cellv c1
  go_wp2_with fail
  refine (HY.out _).mono ?_
  rintro en w3 ⟨rfl, hx3⟩
  replace a0 := hx3.cellv a0
  replace a1 := hx3.cellv a1
  replace b0 := hx3.cellv b0
  replace b1 := hx3.cellv b1
  replace c0 := hx3.cellv c0
  replace c1 := hx3.cellv c1
  go_wp2_with fail
  refine (HZ.out _).mono ?_
  rintro en w4 ⟨rfl, hx4⟩
  clear a0 a1 b0 b1 c0 c1 HX HY HZ
  have hE : Ext w w4 := (by repeat' (first | (with_reducible exact Ext.refl _) | (with_reducible assumption) | (with_reducible refine Ext.alloc ?_ _) | (with_reducible refine Ext.drewN ?_ _) | (with_reducible refine Ext.drew ?_) | (with_reducible refine Ext.trans ?_ (by assumption))))
  clear hx1 hx2 hx3 hx4
  by_cases he : e = 0
  · subst he
    by_cases hf : f = 0
    · subst hf
      by_cases hg : g = 0
      · subst hg
        have hk := HK.out
        by_cases hx0 : x < 0
        · go_wp2_with fail
          go_ret
          exact ⟨rfl, hE⟩
        · by_cases hy0 : y < 0
          · go_wp2_with fail
            go_ret
            exact ⟨rfl, hE⟩
          · have hz0 : 0 ≤ z := by omega
            by_cases hzp : 0 < z
            · clear hk
              go_wp2_with fail
              go_ret
              exact ⟨rfl, hE⟩
            · have hxe : (x == 0) = true := by rw [beq_iff_eq]; omega
              have hye : (y == 0) = true := by rw [beq_iff_eq]; omega
              clear hk
              go_wp2_with fail
              go_ret
              exact ⟨rfl, hE⟩
      · have hgb : (g != 0) = true := by rw [bne_iff_ne]; exact hg
        clear hg
        go_wp2_with fail
        go_ret
        exact ⟨rfl, hE⟩
    · have hfb : (f != 0) = true := by rw [bne_iff_ne]; exact hf
      clear hf
      go_wp2_with fail
      go_ret
      exact ⟨rfl, hE⟩
  · have heb : (e != 0) = true := by rw [bne_iff_ne]; exact he
    clear he
    go_wp2_with fail
    go_ret
    exact ⟨rfl, hE⟩
end Go.Proofs.Ytmlkjolpoldchaa
