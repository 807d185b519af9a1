/-
  slices.SortStableFunc of fewer than twenty places, and wide.Order of as many fractions. No condition but that the fractions read, and are right.
-/
import Derived.Test.YthoioocfembkgaaKSort
import Derived.Laws.OwnMore
namespace Go.Proofs.Ythoioocfembkgaa
open Go.RowKit

theorem ksort0 (a : Option Addr) (c pl : Nat) (w : World) :
    Calls Try.prog 22 #[.slice a 0 c, .int .i64 0, .int .i64 0, .func (.func 14) #[] #[.pointer (some ⟨pl, 0, none⟩)]] w fun e w' => e = .returned (.tuple #[]) ∧ w = w' := by
  go_enter Try.func22, Try.ntmps22
  go_wp2_with fail
  refine wp_loop_rounds 1 ?_
  rw [rounds_succ]
  go_wp2_with fail
  go_end0
  exact ⟨rfl, by first | rfl | trivial⟩
theorem kstable0 (a : Option Addr) (c pl : Nat) (w : World) :
    Calls Try.prog 13 #[.slice a 0 c, .func (.func 14) #[] #[.pointer (some ⟨pl, 0, none⟩)]] w fun e w' => e = .returned (.tuple #[]) ∧ w = w' := by
  have key : ∀ w, Calls Try.prog 20 #[.slice a 0 c, .int .i64 0, .func (.func 14) #[] #[.pointer (some ⟨pl, 0, none⟩)]] w fun e w' => e = .returned (.tuple #[]) ∧ w = w' := by
    intro w
    go_enter Try.func20, Try.ntmps20
    go_wp2_with fail
    refine wp_loop_rounds 1 ?_
    rw [rounds_succ]
    go_wp2_with fail
    refine (ksort0 a c pl _).mono ?_
    rintro e w1 ⟨rfl, rfl⟩
    go_wp2_with fail
    refine wp_loop_rounds 1 ?_
    rw [rounds_succ]
    go_wp2_with fail
    go_end0
    exact ⟨rfl, by first | rfl | trivial⟩
  have KEY := Lib.hid key
  clear key
  go_enter Try.func13, Try.ntmps13
  go_wp2_with fail
  refine (KEY.out _).mono ?_
  rintro e w1 ⟨rfl, rfl⟩
  go_wp2_with fail
  go_end0
  exact ⟨rfl, by first | rfl | trivial⟩
theorem kstable (pl g n c : Nat) (T B : Nat → Int) (w : World) (ha : ArrAt w g n (List.range n)) (hB : ∀ i, 0 < B i) (hn : n < 20) (hF : ∀ w', Chg [g] w w' → FrAt w' pl n T B) :
    Calls Try.prog 13 #[.slice (some ⟨g, 0, none⟩) n c, .func (.func 14) #[] #[.pointer (some ⟨pl, 0, none⟩)]] w fun e w' => e = .returned (.tuple #[]) ∧ (∃ M, Ord T B n M ∧ ArrAt w' g n M) ∧ Chg [g] w w' := by
  have KS := Lib.hid (ksort pl g n c T B w ha hB (by omega) hF)
  have hni : (n : Int) < 20 := by omega
  have hni2 : ¬ (20 : Int) ≤ (n : Int) := by omega
  have hni3 : ¬ (20 : Int) < (n : Int) := by omega
  clear ha hB hF
  have key : Calls Try.prog 20 #[.slice (some ⟨g, 0, none⟩) n c, .int .i64 n, .func (.func 14) #[] #[.pointer (some ⟨pl, 0, none⟩)]] w fun e w' => e = .returned (.tuple #[]) ∧ (∃ M, Ord T B n M ∧ ArrAt w' g n M) ∧ Chg [g] w w' := by
    go_enter Try.func20, Try.ntmps20
    go_wp2_with fail
    refine wp_loop_rounds 1 ?_
    rw [rounds_succ]
    go_wp2_with fail
    refine KS.out.mono ?_
    rintro e w1 ⟨rfl, hM, hc⟩
    have HM := Lib.hid hM
    clear hM
    go_wp2_with fail
    refine wp_loop_rounds 1 ?_
    rw [rounds_succ]
    go_wp2_with fail
    go_end0
    exact ⟨rfl, HM.out, hc⟩
  have KEY := Lib.hid key
  clear key
  go_enter Try.func13, Try.ntmps13
  go_wp2_with fail
  refine KEY.out.mono ?_
  rintro e w1 ⟨rfl, hM, hc⟩
  have HM := Lib.hid hM
  clear hM
  go_wp2_with fail
  go_end0
  exact ⟨rfl, HM.out, hc⟩

theorem kwrong (t b : Int) (r : Bool) (hr : rightB t b = r) (w : World) : Calls Try.prog 11 #[.agg #[.int .i64 t, .int .i64 b]] w fun e w' => e = .returned (.bool (!r)) ∧ Ext w w' := by
  have H := Lib.hid (fun w' => wRight_is t b w' r hr)
  clear hr
  go_enter Try.func11, Try.ntmps11
  go_wp2_with fail
  refine (H.out _).mono ?_
  rintro e w1 ⟨rfl, hx1⟩
  go_wp2_with fail
  go_ret
  exact ⟨rfl, (by repeat' (first | (with_reducible exact Ext.refl _) | (with_reducible assumption) | (with_reducible refine Ext.alloc ?_ _) | (with_reducible refine Ext.drewN ?_ _) | (with_reducible refine Ext.drew ?_) | (with_reducible refine Ext.trans ?_ (by assumption))))⟩
/-- fractions that a slice holds -/
def RdF (w : World) (v : Value) (n : Nat) (T B : Nat → Int) : Prop :=
  ∃ a c, v = .slice a n c ∧ n ≤ c ∧ c ≤ maxLen ∧ (0 < n → ∃ b o, a = some ⟨b, o, none⟩ ∧ b < w.heap.size ∧ ∀ i, i < n → w.cell? ⟨b, o + i * 2, none⟩ = some (.int .i64 (T i)) ∧ w.cell? ⟨b, o + i * 2 + 1, none⟩ = some (.int .i64 (B i)))
theorem RdF.ext {w w' : World} {v : Value} {n : Nat} {T B : Nat → Int} (h : RdF w v n T B) (hx : Ext w w') : RdF w' v n T B := by
  obtain ⟨a, c, rfl, h2, h3, h4⟩ := h
  exact ⟨a, c, rfl, h2, h3, fun h0 => by obtain ⟨b, o, e, hb, hc⟩ := h4 h0; exact ⟨b, o, e, Nat.lt_of_lt_of_le hb hx.size, fun i hi => ⟨hx.cellv (hc i hi).1, hx.cellv (hc i hi).2⟩⟩⟩
set_option maxHeartbeats 2000000 in
theorem kindex (v : Value) (n : Nat) (T B : Nat → Int) (w : World) (h : RdF w v n T B) (ok : ∀ i, i < n → rightB (T i) (B i) = true) :
    Calls Try.prog 19 #[v, .func (.func 11) #[] #[]] w fun e w' => e = .returned (.int .i64 (-1)) ∧ Ext w w' := by
  obtain ⟨a, c, rfl, hc, hm, hs⟩ := h
  have HS := Lib.hid hs
  have HOK := Lib.hid ok
  have hn63 : (n : Int) ≤ 9223372036854775807 := by unfold maxLen at hm; omega
  clear hs ok hm hc
  go_enter Try.func19, Try.ntmps19
  go_wp2_with fail
  go_loopw [8] (fun ci wr => ∃ i : Nat, i ≤ n ∧ ci = .int .i64 i ∧ Ext w wr) (fun ci _ => n - (intOf ci).toNat)
  case atStart => exact ⟨0, Nat.zero_le _, rfl, Ext.refl _⟩
  case round =>
    obtain ⟨i, hi, rfl, hx⟩ := hrel
    by_cases hlt : i < n
    · obtain ⟨b, o, rfl, hb, hcell⟩ := HS.out (by omega)
      have x0 := hx.cellv (hcell i hlt).1
      have x1 := hx.cellv (hcell i hlt).2
      have hii : (i : Int) < (n : Int) := by omega
      have HW := Lib.hid (fun w' => kwrong (T i) (B i) true (HOK.out i hlt) w')
      obtain ⟨t, ht⟩ : ∃ t, t = T i := ⟨_, rfl⟩
      obtain ⟨d, hd⟩ : ∃ d, d = B i := ⟨_, rfl⟩
      rw [← ht] at x0 HW
      rw [← hd] at x1 HW
      clear hcell ht hd
      go_wp2_with fail
      refine (HW.out _).mono ?_
      rintro e w1 ⟨rfl, hx1⟩
      go_wp2_with fail
      go_roundw
      case rel => exact ⟨i + 1, by omega, by go_num, (by repeat' (first | (with_reducible exact Ext.refl _) | (with_reducible assumption) | (with_reducible refine Ext.alloc ?_ _) | (with_reducible refine Ext.drewN ?_ _) | (with_reducible refine Ext.drew ?_) | (with_reducible refine Ext.trans ?_ (by assumption))))⟩
      case measure => simp [intOf]; omega
    · obtain rfl : i = n := by omega
      go_wp2_with fail
      go_ret
      exact ⟨rfl, hx⟩
theorem kcontains (v : Value) (n : Nat) (T B : Nat → Int) (w : World) (h : RdF w v n T B) (ok : ∀ i, i < n → rightB (T i) (B i) = true) :
    Calls Try.prog 10 #[v, .func (.func 11) #[] #[]] w fun e w' => e = .returned (.bool false) ∧ Ext w w' := by
  have HK := Lib.hid (kindex v n T B w h ok)
  clear h ok
  go_enter Try.func10, Try.ntmps10
  go_wp2_with fail
  refine HK.out.mono ?_
  rintro e w1 ⟨rfl, hx1⟩
  go_wp2_with fail
  go_ret
  exact ⟨rfl, hx1⟩
end Go.Proofs.Ythoioocfembkgaa
