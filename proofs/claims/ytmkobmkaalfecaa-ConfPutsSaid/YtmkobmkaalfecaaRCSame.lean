/-
  gradineref03.Same of configurations that are the same but for where their hints lie. No condition but that the hints read.
-/
import Derived.Test.YtmkobmkaalfecaaRCRight
import Derived.Test.YtmkobmkaalfecaaCCells
import Derived.ChangeKeysEq
namespace Go.Proofs.Ytmkobmkaalfecaa
open Go.RowKit

theorem int_cells : Try.prog.cellsOf 3 = 1 := by kernel_rfl
theorem arr3_eq (a b c : Int) (w : World) : (Op.equalIn 10000 73 (.agg #[.int .i64 a, .int .i64 b, .int .i64 c]) (.agg #[.int .i64 a, .int .i64 b, .int .i64 c])).run Try.prog w = .ok true w := by
  obtain ⟨i, hi⟩ : ∃ i, Try.prog.info? 3 = some i := Option.isSome_iff_exists.1 (by kernel_rfl)
  rw [show (10000 : Nat) = 9999 + 1 from rfl, run_equalIn_array w 9999 _ _ Try.underlying73 hi, int_cells]
  have hp : ∀ (k : Nat) (x : Int) (w : World), #[Value.int .i64 a, .int .i64 b, .int .i64 c][k]? = some (.int .i64 x) → (part 3 #[.int .i64 a, .int .i64 b, .int .i64 c] k).run Try.prog w = .ok (.int .i64 x) w := by
    intro k x w hk
    simp [part, isAgg, run_underlying Try.underlying3, hk]
  have he : ∀ (x : Int) (w : World), (Op.equalIn 9999 3 (.int .i64 x) (.int .i64 x)).run Try.prog w = .ok true w := by
    intro x w
    rw [show (9999 : Nat) = 9998 + 1 from rfl, run_equalIn_int w 9998 _ .i64 .i64 x x Try.underlying3]; simp
  have hr : List.range 3 = [0, 1, 2] := rfl
  rw [hr]
  simp only [Op.eqItems, Sem.run_bind, Nat.mul_one]
  rw [hp 0 a w rfl]
  simp only [Result.andThen_ok]
  rw [hp 0 a w rfl]
  simp only [Result.andThen_ok]
  rw [he]
  simp only [Result.andThen_ok, Bool.not_true, Bool.false_eq_true, if_false, Sem.run_bind]
  rw [hp 1 b w rfl]
  simp only [Result.andThen_ok]
  rw [hp 1 b w rfl]
  simp only [Result.andThen_ok]
  rw [he]
  simp only [Result.andThen_ok, Bool.not_true, Bool.false_eq_true, if_false, Sem.run_bind]
  rw [hp 2 c w rfl]
  simp only [Result.andThen_ok]
  rw [hp 2 c w rfl]
  simp only [Result.andThen_ok]
  rw [he]
  simp

set_option maxRecDepth 100000 in
set_option maxHeartbeats 4000000 in
theorem rcsame (N : Nat → Int) (u v : Value) (n : Nat) (F : Nat → Nat → Int) (L : Nat → Bool) (w : World) (hu : RdH w u n F L) (hv : RdH w v n F L) :
    Calls Try.prog 47 #[cfgV N u, cfgV N v] w fun e w' => e = .returned (.bool true) ∧ Ext w w' := by
  obtain ⟨sa, sc, rfl, hnsc, hscm, _, hs⟩ := hu
  obtain ⟨ta, tc, rfl, _, _, _, ht⟩ := hv
  have HS := Lib.hid hs
  have HT := Lib.hid ht
  have hn63 : (n : Int) ≤ 9223372036854775807 := by unfold maxLen at hscm; omega
  unfold cfgV
  clear hs ht hscm hnsc
  go_enter Try.func47, Try.ntmps47
  have h1r : ((w.alloc (.cells #[.int .i64 (N 0), .int .i64 (N 1), .int .i64 (N 2), .int .i64 (N 3), .int .i64 (N 4), .int .i64 (N 5), .int .i64 (N 6), .int .i64 (N 7), .int .i64 (N 8), .int .i64 (N 9), .int .i64 (N 10), .int .i64 (N 11), .int .i64 (N 12), .int .i64 (N 13), .int .i64 (N 14), .int .i64 (N 15), .slice sa n sc] 75)).alloc (.cells #[.int .i64 (N 0), .int .i64 (N 1), .int .i64 (N 2), .int .i64 (N 3), .int .i64 (N 4), .int .i64 (N 5), .int .i64 (N 6), .int .i64 (N 7), .int .i64 (N 8), .int .i64 (N 9), .int .i64 (N 10), .int .i64 (N 11), .int .i64 (N 12), .int .i64 (N 13), .int .i64 (N 14), .int .i64 (N 15), .slice ta n tc] 75)).heap[w.heap.size]? = some (.cells #[.int .i64 (N 0), .int .i64 (N 1), .int .i64 (N 2), .int .i64 (N 3), .int .i64 (N 4), .int .i64 (N 5), .int .i64 (N 6), .int .i64 (N 7), .int .i64 (N 8), .int .i64 (N 9), .int .i64 (N 10), .int .i64 (N 11), .int .i64 (N 12), .int .i64 (N 13), .int .i64 (N 14), .int .i64 (N 15), .slice sa n sc] 75 (0, 0)) := heap_alloc2_old w _ _
  have h2r : ((w.alloc (.cells #[.int .i64 (N 0), .int .i64 (N 1), .int .i64 (N 2), .int .i64 (N 3), .int .i64 (N 4), .int .i64 (N 5), .int .i64 (N 6), .int .i64 (N 7), .int .i64 (N 8), .int .i64 (N 9), .int .i64 (N 10), .int .i64 (N 11), .int .i64 (N 12), .int .i64 (N 13), .int .i64 (N 14), .int .i64 (N 15), .slice sa n sc] 75)).alloc (.cells #[.int .i64 (N 0), .int .i64 (N 1), .int .i64 (N 2), .int .i64 (N 3), .int .i64 (N 4), .int .i64 (N 5), .int .i64 (N 6), .int .i64 (N 7), .int .i64 (N 8), .int .i64 (N 9), .int .i64 (N 10), .int .i64 (N 11), .int .i64 (N 12), .int .i64 (N 13), .int .i64 (N 14), .int .i64 (N 15), .slice ta n tc] 75)).heap[w.heap.size + 1]? = some (.cells #[.int .i64 (N 0), .int .i64 (N 1), .int .i64 (N 2), .int .i64 (N 3), .int .i64 (N 4), .int .i64 (N 5), .int .i64 (N 6), .int .i64 (N 7), .int .i64 (N 8), .int .i64 (N 9), .int .i64 (N 10), .int .i64 (N 11), .int .i64 (N 12), .int .i64 (N 13), .int .i64 (N 14), .int .i64 (N 15), .slice ta n tc] 75 (0, 0)) := heap_alloc2_new w _ _
  have hX : Ext w ((w.alloc (.cells #[.int .i64 (N 0), .int .i64 (N 1), .int .i64 (N 2), .int .i64 (N 3), .int .i64 (N 4), .int .i64 (N 5), .int .i64 (N 6), .int .i64 (N 7), .int .i64 (N 8), .int .i64 (N 9), .int .i64 (N 10), .int .i64 (N 11), .int .i64 (N 12), .int .i64 (N 13), .int .i64 (N 14), .int .i64 (N 15), .slice sa n sc] 75)).alloc (.cells #[.int .i64 (N 0), .int .i64 (N 1), .int .i64 (N 2), .int .i64 (N 3), .int .i64 (N 4), .int .i64 (N 5), .int .i64 (N 6), .int .i64 (N 7), .int .i64 (N 8), .int .i64 (N 9), .int .i64 (N 10), .int .i64 (N 11), .int .i64 (N 12), .int .i64 (N 13), .int .i64 (N 14), .int .i64 (N 15), .slice ta n tc] 75)) := ((Ext.refl w).alloc _).alloc _
  have c16 : ((w.alloc (.cells #[.int .i64 (N 0), .int .i64 (N 1), .int .i64 (N 2), .int .i64 (N 3), .int .i64 (N 4), .int .i64 (N 5), .int .i64 (N 6), .int .i64 (N 7), .int .i64 (N 8), .int .i64 (N 9), .int .i64 (N 10), .int .i64 (N 11), .int .i64 (N 12), .int .i64 (N 13), .int .i64 (N 14), .int .i64 (N 15), .slice sa n sc] 75)).alloc (.cells #[.int .i64 (N 0), .int .i64 (N 1), .int .i64 (N 2), .int .i64 (N 3), .int .i64 (N 4), .int .i64 (N 5), .int .i64 (N 6), .int .i64 (N 7), .int .i64 (N 8), .int .i64 (N 9), .int .i64 (N 10), .int .i64 (N 11), .int .i64 (N 12), .int .i64 (N 13), .int .i64 (N 14), .int .i64 (N 15), .slice ta n tc] 75)).cell? ⟨w.heap.size, 16, none⟩ = some (.slice sa n sc) := cell_of_row _ _ 16 _ _ _ h1r
  have d16 : ((w.alloc (.cells #[.int .i64 (N 0), .int .i64 (N 1), .int .i64 (N 2), .int .i64 (N 3), .int .i64 (N 4), .int .i64 (N 5), .int .i64 (N 6), .int .i64 (N 7), .int .i64 (N 8), .int .i64 (N 9), .int .i64 (N 10), .int .i64 (N 11), .int .i64 (N 12), .int .i64 (N 13), .int .i64 (N 14), .int .i64 (N 15), .slice sa n sc] 75)).alloc (.cells #[.int .i64 (N 0), .int .i64 (N 1), .int .i64 (N 2), .int .i64 (N 3), .int .i64 (N 4), .int .i64 (N 5), .int .i64 (N 6), .int .i64 (N 7), .int .i64 (N 8), .int .i64 (N 9), .int .i64 (N 10), .int .i64 (N 11), .int .i64 (N 12), .int .i64 (N 13), .int .i64 (N 14), .int .i64 (N 15), .slice ta n tc] 75)).cell? ⟨w.heap.size + 1, 16, none⟩ = some (.slice ta n tc) := cell_of_row _ _ 16 _ _ _ h2r
  obtain ⟨W, hW⟩ : ∃ W, W = ((w.alloc (.cells #[.int .i64 (N 0), .int .i64 (N 1), .int .i64 (N 2), .int .i64 (N 3), .int .i64 (N 4), .int .i64 (N 5), .int .i64 (N 6), .int .i64 (N 7), .int .i64 (N 8), .int .i64 (N 9), .int .i64 (N 10), .int .i64 (N 11), .int .i64 (N 12), .int .i64 (N 13), .int .i64 (N 14), .int .i64 (N 15), .slice sa n sc] 75)).alloc (.cells #[.int .i64 (N 0), .int .i64 (N 1), .int .i64 (N 2), .int .i64 (N 3), .int .i64 (N 4), .int .i64 (N 5), .int .i64 (N 6), .int .i64 (N 7), .int .i64 (N 8), .int .i64 (N 9), .int .i64 (N 10), .int .i64 (N 11), .int .i64 (N 12), .int .i64 (N 13), .int .i64 (N 14), .int .i64 (N 15), .slice ta n tc] 75)) := ⟨_, rfl⟩
  obtain ⟨p, hp⟩ : ∃ p, p = w.heap.size := ⟨_, rfl⟩
  obtain ⟨q, hq⟩ : ∃ q, q = w.heap.size + 1 := ⟨_, rfl⟩
  go_upto_region 1 with fail
  rw [← hW, ← hp] at h1r c16
  rw [← hW, ← hq] at h2r d16
  rw [← hW] at hX
  rw [← hW, ← hq, ← hp]
  have H1R := Lib.hid h1r
  have H2R := Lib.hid h2r
  clear hW hp hq h1r h2r
  go_wp2_with fail
  go_loopw [5] (fun ci wr => ∃ i : Nat, i ≤ n ∧ ci = .int .i64 i ∧ Ext W wr) (fun ci _ => n - (intOf ci).toNat)
  case atStart => exact ⟨0, by omega, rfl, Ext.refl _⟩
  case round =>
    obtain ⟨i, hi, rfl, hx⟩ := hrel
    have c16 := hx.cellv c16
    have d16 := hx.cellv d16
    by_cases hlt : i < n
    · have hii : (i : Int) < (n : Int) := by omega
      obtain ⟨b, o, rfl, hb, hcl⟩ := HS.out (by omega)
      obtain ⟨b', o', rfl, hb', hcl'⟩ := HT.out (by omega)
      have hxw : Ext w wr := hX.trans hx
      have y0 := (hxw.cell hb).trans (hcl i 0 hlt (by omega))
      have y1 := (hxw.cell hb).trans (hcl i 1 hlt (by omega))
      have y2 := (hxw.cell hb).trans (hcl i 2 hlt (by omega))
      have y3 := (hxw.cell hb).trans (hcl i 3 hlt (by omega))
      have z0 := (hxw.cell hb').trans (hcl' i 0 hlt (by omega))
      have z1 := (hxw.cell hb').trans (hcl' i 1 hlt (by omega))
      have z2 := (hxw.cell hb').trans (hcl' i 2 hlt (by omega))
      have z3 := (hxw.cell hb').trans (hcl' i 3 hlt (by omega))
      simp only [Proofs.Ytmkobmkaalfecaa.HV, ← Nat.add_assoc, Nat.add_zero, if_pos (show (0 : Nat) < 3 by omega), if_pos (show (1 : Nat) < 3 by omega), if_pos (show (2 : Nat) < 3 by omega), if_neg (show ¬ (3 : Nat) < 3 by omega)] at y0 y1 y2 y3 z0 z1 z2 z3
      obtain ⟨x0, hx0⟩ : ∃ x, F i 0 = x := ⟨_, rfl⟩
      obtain ⟨x1, hx1⟩ : ∃ x, F i 1 = x := ⟨_, rfl⟩
      obtain ⟨x2, hx2⟩ : ∃ x, F i 2 = x := ⟨_, rfl⟩
      obtain ⟨lp, hlp⟩ : ∃ x, L i = x := ⟨_, rfl⟩
      rw [hx0] at y0 z0
      rw [hx1] at y1 z1
      rw [hx2] at y2 z2
      rw [hlp] at y3 z3
      clear hcl hcl' hx0 hx1 hx2 hlp hxw
      go_wp2_with fail
      go_quiet (fail)
      go_wp2_with fail
      exact ⟨⟨i + 1, by omega, by go_num, hx.drewN nq⟩, by simp [intOf]; omega⟩
    · obtain rfl : n = i := by omega
      have h1r := (Below.block hx _ (Array.getElem?_eq_some_iff.1 H1R.out).1).trans H1R.out
      have h2r := (Below.block hx _ (Array.getElem?_eq_some_iff.1 H2R.out).1).trans H2R.out
      have c0 : wr.cell? ⟨p, 0, none⟩ = some (.int .i64 (N 0)) := cell_of_row wr p 0 _ _ _ h1r
      have c1 : wr.cell? ⟨p, 1, none⟩ = some (.int .i64 (N 1)) := cell_of_row wr p 1 _ _ _ h1r
      have c2 : wr.cell? ⟨p, 2, none⟩ = some (.int .i64 (N 2)) := cell_of_row wr p 2 _ _ _ h1r
      have c3 : wr.cell? ⟨p, 3, none⟩ = some (.int .i64 (N 3)) := cell_of_row wr p 3 _ _ _ h1r
      have c4 : wr.cell? ⟨p, 4, none⟩ = some (.int .i64 (N 4)) := cell_of_row wr p 4 _ _ _ h1r
      have c5 : wr.cell? ⟨p, 5, none⟩ = some (.int .i64 (N 5)) := cell_of_row wr p 5 _ _ _ h1r
      have c6 : wr.cell? ⟨p, 6, none⟩ = some (.int .i64 (N 6)) := cell_of_row wr p 6 _ _ _ h1r
      have c7 : wr.cell? ⟨p, 7, none⟩ = some (.int .i64 (N 7)) := cell_of_row wr p 7 _ _ _ h1r
      have c8 : wr.cell? ⟨p, 8, none⟩ = some (.int .i64 (N 8)) := cell_of_row wr p 8 _ _ _ h1r
      have c9 : wr.cell? ⟨p, 9, none⟩ = some (.int .i64 (N 9)) := cell_of_row wr p 9 _ _ _ h1r
      have c10 : wr.cell? ⟨p, 10, none⟩ = some (.int .i64 (N 10)) := cell_of_row wr p 10 _ _ _ h1r
      have c11 : wr.cell? ⟨p, 11, none⟩ = some (.int .i64 (N 11)) := cell_of_row wr p 11 _ _ _ h1r
      have c12 : wr.cell? ⟨p, 12, none⟩ = some (.int .i64 (N 12)) := cell_of_row wr p 12 _ _ _ h1r
      have c13 : wr.cell? ⟨p, 13, none⟩ = some (.int .i64 (N 13)) := cell_of_row wr p 13 _ _ _ h1r
      have c14 : wr.cell? ⟨p, 14, none⟩ = some (.int .i64 (N 14)) := cell_of_row wr p 14 _ _ _ h1r
      have c15 : wr.cell? ⟨p, 15, none⟩ = some (.int .i64 (N 15)) := cell_of_row wr p 15 _ _ _ h1r
      have d0 : wr.cell? ⟨q, 0, none⟩ = some (.int .i64 (N 0)) := cell_of_row wr q 0 _ _ _ h2r
      have d1 : wr.cell? ⟨q, 1, none⟩ = some (.int .i64 (N 1)) := cell_of_row wr q 1 _ _ _ h2r
      have d2 : wr.cell? ⟨q, 2, none⟩ = some (.int .i64 (N 2)) := cell_of_row wr q 2 _ _ _ h2r
      have d3 : wr.cell? ⟨q, 3, none⟩ = some (.int .i64 (N 3)) := cell_of_row wr q 3 _ _ _ h2r
      have d4 : wr.cell? ⟨q, 4, none⟩ = some (.int .i64 (N 4)) := cell_of_row wr q 4 _ _ _ h2r
      have d5 : wr.cell? ⟨q, 5, none⟩ = some (.int .i64 (N 5)) := cell_of_row wr q 5 _ _ _ h2r
      have d6 : wr.cell? ⟨q, 6, none⟩ = some (.int .i64 (N 6)) := cell_of_row wr q 6 _ _ _ h2r
      have d7 : wr.cell? ⟨q, 7, none⟩ = some (.int .i64 (N 7)) := cell_of_row wr q 7 _ _ _ h2r
      have d8 : wr.cell? ⟨q, 8, none⟩ = some (.int .i64 (N 8)) := cell_of_row wr q 8 _ _ _ h2r
      have d9 : wr.cell? ⟨q, 9, none⟩ = some (.int .i64 (N 9)) := cell_of_row wr q 9 _ _ _ h2r
      have d10 : wr.cell? ⟨q, 10, none⟩ = some (.int .i64 (N 10)) := cell_of_row wr q 10 _ _ _ h2r
      have d11 : wr.cell? ⟨q, 11, none⟩ = some (.int .i64 (N 11)) := cell_of_row wr q 11 _ _ _ h2r
      have d12 : wr.cell? ⟨q, 12, none⟩ = some (.int .i64 (N 12)) := cell_of_row wr q 12 _ _ _ h2r
      have d13 : wr.cell? ⟨q, 13, none⟩ = some (.int .i64 (N 13)) := cell_of_row wr q 13 _ _ _ h2r
      have d14 : wr.cell? ⟨q, 14, none⟩ = some (.int .i64 (N 14)) := cell_of_row wr q 14 _ _ _ h2r
      have d15 : wr.cell? ⟨q, 15, none⟩ = some (.int .i64 (N 15)) := cell_of_row wr q 15 _ _ _ h2r
      have hXr : Ext w wr := hX.trans hx
      clear h1r h2r hx hX
      have e1 := arr3_eq (N 6) (N 7) (N 8)
      have e2 := arr3_eq (N 9) (N 10) (N 11)
      go_wp2_with fail
      go_ret
      exact ⟨rfl, hXr⟩
end Go.Proofs.Ytmkobmkaalfecaa
