/-
  gradineref10: Without, Ahead. No condition but that the slices read.
-/
import Derived.Test.YtpmfadepinmmjaaInts
namespace Go.Proofs.Ytpmfadepinmmjaa
open Go.RowKit

theorem ints_info : (Try.prog.info? 3).map (fun i => (i.zero, i.size, i.bytes)) = some (some (.int .i64 0), 1, 8) := by kernel_rfl

/-- a list without a number -/
def woL (l : List Int) (n : Int) : List Int := l.filter (· ≠ n)
theorem woL_snoc_ne (l : List Int) (x n : Int) (h : x ≠ n) : woL (l ++ [x]) n = woL l n ++ [x] := by unfold woL; rw [List.filter_append]; simp [h]
theorem woL_snoc_eq (l : List Int) (x n : Int) (h : x = n) : woL (l ++ [x]) n = woL l n := by unfold woL; rw [List.filter_append]; simp [h]
theorem woL_len (l : List Int) (n : Int) : (woL l n).length ≤ l.length := List.length_filter_le _ _
theorem take_snoc_getD {l : List Int} {k : Nat} (h : k < l.length) : l.take (k + 1) = l.take k ++ [l.getD k 0] := by
  rw [List.take_succ_eq_append_getElem h]; simp [List.getD, h]

set_option maxHeartbeats 1000000 in
theorem without_any (v : Value) (l : List Int) (n : Int) (w : World) (h : RdI .i64 w v l) (hfit : Fits l.length) :
    Calls Try.prog 38 #[v, .int .i64 n] w fun e w' => ∃ v', e = .returned v' ∧ OwnI .i64 3 w.heap.size w' v' (woL l n) ∧ Ext w w' := by
  obtain ⟨a, c, rfl, hc, hm, hn, hs⟩ := h.parts
  have hl63 : (l.length : Int) ≤ 9223372036854775807 := by unfold maxLen at hm; omega
  clear hm hc hn h
  have HS := Lib.hid hs
  clear hs
  go_enter Try.func38, Try.ntmps38
  go_wp2_with fail
  go_loopw [5, 6] (fun vo i wr => ∃ k : Nat, k ≤ l.length ∧ i = .int .i64 k ∧ OwnI .i64 3 w.heap.size wr vo (woL (l.take k) n) ∧ Ext w wr) (fun _ i _ => l.length - (intOf i).toNat)
  case atStart => exact ⟨0, Nat.zero_le _, rfl, OwnI.nil _ _ _ _, Ext.refl _⟩
  case round =>
    obtain ⟨k, hk, rfl, ho, hx⟩ := hrel
    by_cases hlt : k < l.length
    · obtain ⟨b, o, rfl, hb, hcell⟩ := HS.out (by intro e; subst e; simp at hlt)
      have e1 := (hx.cell hb).trans (hcell k hlt)
      obtain ⟨x, hxx⟩ : ∃ x, x = l.getD k 0 := ⟨_, rfl⟩
      rw [← hxx] at e1
      have HX := Lib.hid hxx
      have hki : (k : Int) < (l.length : Int) := by omega
      clear hxx hcell
      by_cases he : x = n
      · have heb : (x != n) = false := by simp [he]
        have HE := Lib.hid he
        clear he
        go_wp2_with fail
        go_roundw
        case rel =>
          refine ⟨k + 1, by omega, by go_num, ?_, hx⟩
          rw [take_snoc_getD hlt, woL_snoc_eq _ _ _ (by rw [← HX.out]; exact HE.out)]; exact ho
        case measure => simp [intOf]; omega
      · have heb : (x != n) = true := by simp [he]
        have HE := Lib.hid he
        clear he
        have hle : (woL (l.take k) n).length ≤ k := Nat.le_trans (woL_len _ _) (List.length_take_le _ _)
        have HL := Lib.hid hle
        clear hle
        go_wp2_with (at_builtin; refine wpList_append_ints rfl _ _ 41 rfl 3 .i64 0 8 Try.underlying41 ints_info (by decide) w (by repeat' (first | (with_reducible exact Ext.refl _) | (with_reducible assumption) | (with_reducible refine Ext.alloc ?_ _) | (with_reducible refine Ext.drewN ?_ _) | (with_reducible refine Ext.drew ?_) | (with_reducible refine Ext.trans ?_ (by assumption)))) _ _ rfl (ho.ext (by repeat' (first | (with_reducible exact Ext.refl _) | (with_reducible assumption) | (with_reducible refine Ext.alloc ?_ _) | (with_reducible refine Ext.drewN ?_ _) | (with_reducible refine Ext.drew ?_) | (with_reducible refine Ext.trans ?_ (by assumption))))) _ _ rfl (RdI.one _ _ _ _) (by have := hfit.out; have := HL.out; unfold Fits; simp only [List.length_singleton]; omega) ?_)
        intro v2 w2 ho2 hx2
        go_wp2_with fail
        go_roundw
        case rel =>
          refine ⟨k + 1, by omega, by go_num, ?_, hx2⟩
          rw [take_snoc_getD hlt, woL_snoc_ne _ _ _ (by rw [← HX.out]; exact HE.out), ← HX.out]; exact ho2
        case measure => simp [intOf]; omega
    · obtain rfl : k = l.length := by omega
      go_wp2_with fail
      go_ret
      refine ⟨_, rfl, ?_, hx⟩
      rw [List.take_length] at ho
      exact ho

theorem refahead_any (v : Value) (l : List Int) (n : Int) (w : World) (h : RdI .i64 w v l) (hfit : Fits (l.length + 1)) :
    Calls Try.prog 39 #[v, .int .i64 n] w fun e w' => ∃ v', e = .returned v' ∧ OwnI .i64 3 w.heap.size w' v' (n :: l) ∧ Ext w w' := by
  go_enter Try.func39, Try.ntmps39
  go_wp2_with (at_builtin; refine wpList_append_ints rfl _ _ 41 rfl 3 .i64 0 8 Try.underlying41 ints_info (by decide) w (by repeat' (first | (with_reducible exact Ext.refl _) | (with_reducible assumption) | (with_reducible refine Ext.alloc ?_ _) | (with_reducible refine Ext.drewN ?_ _) | (with_reducible refine Ext.drew ?_) | (with_reducible refine Ext.trans ?_ (by assumption)))) _ _ rfl (OwnI.nil _ _ _ _) _ _ rfl (RdI.one _ _ _ _) (by exact fits_small (by simp)) ?_)
  intro v2 w2 ho2 hx2
  go_wp2_with (at_builtin; refine wpList_append_ints rfl _ _ 41 rfl 3 .i64 0 8 Try.underlying41 ints_info (by decide) w (by repeat' (first | (with_reducible exact Ext.refl _) | (with_reducible assumption) | (with_reducible refine Ext.alloc ?_ _) | (with_reducible refine Ext.drewN ?_ _) | (with_reducible refine Ext.drew ?_) | (with_reducible refine Ext.trans ?_ (by assumption)))) _ _ rfl ho2 _ _ rfl (h.ext hx2) (by have := hfit.out; unfold Fits; simp; omega) ?_)
  intro v3 w3 ho3 hx3
  go_wp2_with fail
  go_ret
  exact ⟨_, rfl, ho3, hx3⟩
end Go.Proofs.Ytpmfadepinmmjaa
