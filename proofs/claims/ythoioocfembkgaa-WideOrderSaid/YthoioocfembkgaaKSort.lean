/-
  wide.Order's comparison, and the insertion sort of places over it. No condition but that the fractions read, and are right.
-/
import Derived.Test.YthoioocfembkgaaKOrd
import Derived.Test.YthoioocfembkgaaWide2
import Derived.Test.YthoioocfembkgaaRecs
import Derived.Test.YthoioocfembkgaaSpc
import Derived.Deep.RegionHeld3
import Derived.StillTailTactics
import Derived.Deep.Cut
import Derived.Deep.CutRange
namespace Go.Proofs.Ythoioocfembkgaa
open Go.RowKit

/-- a row of places -/
structure ArrAt (w : World) (g n : Nat) (M : List Nat) : Prop where
  len : M.length = n
  row : ∃ cs t, w.heap[g]? = some (.cells cs t (0, 0)) ∧ ∀ j, j < n → cs[j]? = some (.int .i64 (M.getD j 0 : Nat))
section
variable {w w' : World} {g n : Nat} {M : List Nat}
theorem ArrAt.lt (h : ArrAt w g n M) : g < w.heap.size := by obtain ⟨cs, t, h1, _⟩ := h.row; exact (Array.getElem?_eq_some_iff.1 h1).1
theorem ArrAt.cell (h : ArrAt w g n M) {j : Nat} (hj : j < n) : w.cell? ⟨g, j, none⟩ = some (.int .i64 (M.getD j 0 : Nat)) := by
  obtain ⟨cs, t, h1, h2⟩ := h.row
  exact (cell_of_row w g j cs t _ h1).trans (h2 j hj)
theorem ArrAt.free (h : ArrAt w g n M) (o : Nat) : w.frozen? ⟨g, o, none⟩ = false := by obtain ⟨cs, t, h1, _⟩ := h.row; exact frozen_row h1 o
theorem ArrAt.ext (h : ArrAt w g n M) (hx : Ext w w') : ArrAt w' g n M := by
  obtain ⟨cs, t, h1, h2⟩ := h.row
  exact ⟨h.len, cs, t, (Below.block hx _ h.lt).trans h1, h2⟩
theorem ArrAt.set (h : ArrAt w g n M) {j : Nat} (hj : j < n) (x : Nat) : ArrAt (w.setCell ⟨g, j, none⟩ (.int .i64 x)) g n (M.set j x) := by
  obtain ⟨cs, t, h1, h2⟩ := h.row
  refine ⟨by rw [List.length_set]; exact h.len, _, t, heap_set (o := j) h1 _, fun k hk => ?_⟩
  have hl := h.len
  by_cases e : k = j
  · subst e
    rw [Array.getElem?_setIfInBounds_self_of_lt (Array.getElem?_eq_some_iff.1 (h2 k hk)).1]
    simp [List.getD, hl, hk]
  · rw [Array.getElem?_setIfInBounds_ne (fun x => e x.symm), h2 k hk]
    have e2 : ¬ j = k := fun x => e x.symm
    simp only [List.getD_eq_getElem?_getD, List.getElem?_set, if_neg e2]
end
/-- fractions that a variable holds -/
def FrV (T B : Nat → Int) (i j : Nat) : Value := if j = 0 then .int .i64 (T i) else .int .i64 (B i)
structure FrAt (w : World) (pl n : Nat) (T B : Nat → Int) : Prop where
  ok : ∀ i, i < n → rightB (T i) (B i) = true
  var : ∃ b o c, w.cell? ⟨pl, 0, none⟩ = some (.slice (some ⟨b, o, none⟩) n c) ∧ n ≤ c ∧ c ≤ maxLen ∧ ∀ i, i < n → w.cell? ⟨b, o + i * 2, none⟩ = some (.int .i64 (T i)) ∧ w.cell? ⟨b, o + i * 2 + 1, none⟩ = some (.int .i64 (B i))
theorem FrAt.ext {w w' : World} {pl n : Nat} {T B : Nat → Int} (h : FrAt w pl n T B) (hx : Ext w w') : FrAt w' pl n T B := by
  obtain ⟨b, o, c, h1, h2, h3, h4⟩ := h.var
  exact ⟨h.ok, b, o, c, hx.cellv h1, h2, h3, fun i hi => ⟨hx.cellv (h4 i hi).1, hx.cellv (h4 i hi).2⟩⟩
theorem cmp_lt (T B : Nat → Int) (x y : Nat) : decide (cmpF (T y) (B y) (T x) (B x) < 0) = decide (dl T B x y) := by
  rw [decide_eq_decide]
  unfold cmpF dl
  split
  · simp; omega
  · split <;> simp <;> omega
set_option maxRecDepth 100000 in
set_option maxHeartbeats 2000000 in
theorem kcmp (pl n : Nat) (T B : Nat → Int) (x y : Nat) (w : World) (h : FrAt w pl n T B) (hx : x < n) (hy : y < n) :
    Calls Try.prog 14 #[.int .i64 x, .int .i64 y, .pointer (some ⟨pl, 0, none⟩)] w fun e w' => ∃ r : Int, e = .returned (.int .i64 r) ∧ decide (r < 0) = decide (dl T B x y) ∧ Ext w w' := by
  have hcl := cmp_lt T B x y
  have H1 := Lib.hid (fun w' => compare_in (T y) (B y) (T x) (B x) w' (h.ok y hy) (h.ok x hx))
  obtain ⟨b, o, c, h1, h2, h3, h4⟩ := h.var
  obtain ⟨x0, x1⟩ := h4 x hx
  obtain ⟨y0, y1⟩ := h4 y hy
  have hxi : (x : Int) < (n : Int) := by omega
  have hyi : (y : Int) < (n : Int) := by omega
  have hx0 : (0 : Int) ≤ (x : Int) := by omega
  have hy0 : (0 : Int) ≤ (y : Int) := by omega
  obtain ⟨r, hr⟩ : ∃ r, r = cmpF (T y) (B y) (T x) (B x) := ⟨_, rfl⟩
  rw [← hr] at hcl H1
  have HC := Lib.hid hcl
  obtain ⟨tx, htx⟩ : ∃ z, z = T x := ⟨_, rfl⟩
  obtain ⟨bx, hbx⟩ : ∃ z, z = B x := ⟨_, rfl⟩
  obtain ⟨ty, hty⟩ : ∃ z, z = T y := ⟨_, rfl⟩
  obtain ⟨by', hby⟩ : ∃ z, z = B y := ⟨_, rfl⟩
  rw [← htx] at x0 H1
  rw [← hbx] at x1 H1
  rw [← hty] at y0 H1
  rw [← hby] at y1 H1
  clear h h4 h2 h3 hcl hr htx hbx hty hby hx hy
  go_enter Try.func14, Try.ntmps14
  go_wp2_with fail
  go_region_held3 (fun w' => w'.cell? ⟨pl, 0, none⟩ = some (.slice (some ⟨b, o, none⟩) n c) ∧ w'.cell? ⟨b, o + x * 2, none⟩ = some (.int .i64 tx) ∧ w'.cell? ⟨b, o + x * 2 + 1, none⟩ = some (.int .i64 bx) ∧ w'.cell? ⟨b, o + y * 2, none⟩ = some (.int .i64 ty) ∧ w'.cell? ⟨b, o + y * 2 + 1, none⟩ = some (.int .i64 by') ∧ Ext w w') (exact ⟨Ext.cellv (w := w) (by repeat' (first | (with_reducible exact Ext.refl _) | (with_reducible assumption) | (with_reducible refine Ext.alloc ?_ _) | (with_reducible refine Ext.drewN ?_ _) | (with_reducible refine Ext.drew ?_) | (with_reducible refine Ext.trans ?_ (by assumption)))) h1, Ext.cellv (w := w) (by repeat' (first | (with_reducible exact Ext.refl _) | (with_reducible assumption) | (with_reducible refine Ext.alloc ?_ _) | (with_reducible refine Ext.drewN ?_ _) | (with_reducible refine Ext.drew ?_) | (with_reducible refine Ext.trans ?_ (by assumption)))) x0, Ext.cellv (w := w) (by repeat' (first | (with_reducible exact Ext.refl _) | (with_reducible assumption) | (with_reducible refine Ext.alloc ?_ _) | (with_reducible refine Ext.drewN ?_ _) | (with_reducible refine Ext.drew ?_) | (with_reducible refine Ext.trans ?_ (by assumption)))) x1, Ext.cellv (w := w) (by repeat' (first | (with_reducible exact Ext.refl _) | (with_reducible assumption) | (with_reducible refine Ext.alloc ?_ _) | (with_reducible refine Ext.drewN ?_ _) | (with_reducible refine Ext.drew ?_) | (with_reducible refine Ext.trans ?_ (by assumption)))) y0, Ext.cellv (w := w) (by repeat' (first | (with_reducible exact Ext.refl _) | (with_reducible assumption) | (with_reducible refine Ext.alloc ?_ _) | (with_reducible refine Ext.drewN ?_ _) | (with_reducible refine Ext.drew ?_) | (with_reducible refine Ext.trans ?_ (by assumption)))) y1, (by repeat' (first | (with_reducible exact Ext.refl _) | (with_reducible assumption) | (with_reducible refine Ext.alloc ?_ _) | (with_reducible refine Ext.drewN ?_ _) | (with_reducible refine Ext.drew ?_) | (with_reducible refine Ext.trans ?_ (by assumption))))⟩) (first | (go_at_call 9; refine (H1.out _).mono ?_; rintro e w1 ⟨rfl, hx1⟩))
  all_goals
    go_wp2_with fail
    go_ret
    exact ⟨r, rfl, HC.out, (by repeat' (first | (with_reducible exact Ext.refl _) | (with_reducible assumption) | (with_reducible refine Ext.alloc ?_ _) | (with_reducible refine Ext.drewN ?_ _) | (with_reducible refine Ext.drew ?_) | (with_reducible refine Ext.trans ?_ (by assumption))))⟩

set_option maxRecDepth 100000 in
set_option maxHeartbeats 8000000 in
theorem ksort (pl g n c : Nat) (T B : Nat → Int) (w : World) (ha : ArrAt w g n (List.range n)) (hB : ∀ i, 0 < B i) (hn : n ≤ 1000) (hF : ∀ w', Chg [g] w w' → FrAt w' pl n T B) :
    Calls Try.prog 22 #[.slice (some ⟨g, 0, none⟩) n c, .int .i64 0, .int .i64 n, .func (.func 14) #[] #[.pointer (some ⟨pl, 0, none⟩)]] w fun e w' => e = .returned (.tuple #[]) ∧ (∃ M, Ord T B n M ∧ ArrAt w' g n M) ∧ Chg [g] w w' := by
  have HA := Lib.hid ha
  have HF := Lib.hid hF
  have HB := Lib.hid hB
  have h0 : (0 : Int) ≤ (n : Int) := by omega
  have hn1 : (n : Int) ≤ 1000 := by omega
  clear ha hF hB
  go_enter Try.func22, Try.ntmps22
  go_wp2_with fail
  go_loopw [8] (fun ci wr => ∃ i : Nat, ci = .int .i64 i ∧ 1 ≤ i ∧ (i ≤ n ∨ i = 1) ∧ Hid (∃ M, (1 ≤ n → OrdTo T B n i M) ∧ (n = 0 → M = []) ∧ ArrAt wr g n M) ∧ Hid (Chg [g] w wr)) (fun ci _ => n - (intOf ci).toNat)
  case atStart => exact ⟨1, rfl, Nat.le_refl _, .inr rfl, Lib.hid ⟨List.range n, fun h => ordTo_one T B h, fun h => by subst h; rfl, HA.out⟩, Lib.hid (Chg.refl _ _)⟩
  case round =>
    obtain ⟨i, rfl, hi1, hi2, HM, HC⟩ := hrel
    by_cases hlt : i < n
    · have hii : (i : Int) < (n : Int) := by omega
      obtain ⟨M, hM, _, hMa⟩ := HM.out
      have HST := Lib.hid (InsAt.start (hM (by omega)) hlt)
      have HMA := Lib.hid hMa
      clear hM hMa HM
      go_wp2_with fail
      go_loopw [9] (fun cj ws => ∃ j : Nat, cj = .int .i64 j ∧ j ≤ i ∧ Hid (∃ M, InsAt T B n i j M ∧ ArrAt ws g n M) ∧ Hid (Chg [g] w ws)) (fun cj _ => (intOf cj).toNat)
      case atStart => exact ⟨i, rfl, Nat.le_refl _, Lib.hid ⟨M, HST.out, HMA.out⟩, HC⟩
      case round =>
        clear HST HMA HC
        obtain ⟨j, rfl, hji, HM, HC⟩ := hrel
        obtain ⟨M, hI, hMa⟩ := HM.out
        cases j with
        | zero =>
          have hz : decide ((0 : Int) < ((0 : Nat) : Int)) = false := by decide
          have hend : ∃ M, (1 ≤ n → OrdTo T B n (i + 1) M) ∧ (n = 0 → M = []) ∧ ArrAt wr g n M := ⟨M, fun _ => hI.done HB.out (fun k hk => by omega), fun h => by omega, hMa⟩
          have HE := Lib.hid hend
          clear hend hI hMa HM
          go_wp2_with fail
          go_quiet (fail)
          go_wp2_with fail
          go_roundw
          case rel => exact ⟨i + 1, by go_num, by omega, .inl (by omega), Lib.hid (by obtain ⟨M, a, b, c⟩ := HE.out; exact ⟨M, a, b, c.ext (by repeat' (first | (with_reducible exact Ext.refl _) | (with_reducible assumption) | (with_reducible refine Ext.alloc ?_ _) | (with_reducible refine Ext.drewN ?_ _) | (with_reducible refine Ext.drew ?_) | (with_reducible refine Ext.trans ?_ (by assumption))))⟩), Lib.hid (HC.out.ext (by repeat' (first | (with_reducible exact Ext.refl _) | (with_reducible assumption) | (with_reducible refine Ext.alloc ?_ _) | (with_reducible refine Ext.drewN ?_ _) | (with_reducible refine Ext.drew ?_) | (with_reducible refine Ext.trans ?_ (by assumption)))))⟩
          case measure => simp [intOf]; omega
        | succ j =>
          have hz : decide ((0 : Int) < ((j : Int) + 1)) = true := decide_eq_true (by omega)
          have hz2 : (0 : Int) < (j : Int) + 1 := by omega
          have hjn : j + 1 < n := by omega
          have x0 := hMa.cell hjn
          have y0 := hMa.cell (show j < n by omega)
          have ex := hI.at
          rw [ex] at x0
          have hym := hI.mem hlt (show j < n by omega)
          have hj1 : (j : Int) + 1 < (n : Int) := by omega
          have hjj : (j : Int) < (n : Int) := by omega
          have hj0 : (0 : Int) ≤ (j : Int) + 1 := by omega
          have hw0 : IntKind.i64.wrap (j : Int) = (j : Int) := by rw [IntKind.wrap_i64]; omega
          have hw1 : IntKind.i64.wrap ((j : Int) + 1 - 1) = (j : Int) := by rw [IntKind.wrap_i64]; omega
          have f1 := hMa.free (j + 1)
          have f0 := hMa.free j
          have HKC := Lib.hid (fun w' (hx : Ext wr w') => kcmp pl n T B i (M.getD j 0) w' ((HF.out _ HC.out).ext hx) hlt hym)
          have hsw : dl T B i (M.getD j 0) → InsAt T B n i j ((M.set (j + 1) (M.getD j 0)).set j i) := fun hd => by have := hI.swap hd; rw [ex] at this; exact this
          have hdn : ¬ dl T B i (M.getD j 0) → OrdTo T B n (i + 1) M := fun hd => hI.done HB.out (fun k hk => by rw [show k = j by omega]; exact hd)
          obtain ⟨y, hy⟩ : ∃ y, y = M.getD j 0 := ⟨_, rfl⟩
          rw [← hy] at y0 HKC hsw hdn
          have HSW := Lib.hid hsw
          have HDN := Lib.hid hdn
          have HMA := Lib.hid hMa
          clear hsw hdn hy hym ex hI hMa HM
          by_cases hd : dl T B i y
          · have HD := Lib.hid hd
            have HKT : Hid (∀ w', Ext wr w' → Calls Try.prog 14 #[.int .i64 i, .int .i64 y, .pointer (some ⟨pl, 0, none⟩)] w' fun e w'' => ∃ r : Int, e = .returned (.int .i64 r) ∧ decide (r < 0) = true ∧ Ext w' w'') := Lib.hid (fun w' hx => (HKC.out w' hx).mono (by rintro e w'' ⟨r, he, hr, hx⟩; exact ⟨r, he, by rw [hr]; exact decide_eq_true hd, hx⟩))
            clear hd HKC
            go_upto_region 4 with fail
            go_region_held3 (fun w' => w'.cell? ⟨g, j + 1, none⟩ = some (.int .i64 i) ∧ w'.cell? ⟨g, j, none⟩ = some (.int .i64 y) ∧ Ext wr w') (exact ⟨Ext.cellv (w := wr) (by repeat' (first | (with_reducible exact Ext.refl _) | (with_reducible assumption) | (with_reducible refine Ext.alloc ?_ _) | (with_reducible refine Ext.drewN ?_ _) | (with_reducible refine Ext.drew ?_) | (with_reducible refine Ext.trans ?_ (by assumption)))) x0, Ext.cellv (w := wr) (by repeat' (first | (with_reducible exact Ext.refl _) | (with_reducible assumption) | (with_reducible refine Ext.alloc ?_ _) | (with_reducible refine Ext.drewN ?_ _) | (with_reducible refine Ext.drew ?_) | (with_reducible refine Ext.trans ?_ (by assumption)))) y0, (by repeat' (first | (with_reducible exact Ext.refl _) | (with_reducible assumption) | (with_reducible refine Ext.alloc ?_ _) | (with_reducible refine Ext.drewN ?_ _) | (with_reducible refine Ext.drew ?_) | (with_reducible refine Ext.trans ?_ (by assumption))))⟩) (first | (go_at_call 14; refine (HKT.out _ (by repeat' (first | (with_reducible exact Ext.refl _) | (with_reducible assumption) | (with_reducible refine Ext.alloc ?_ _) | (with_reducible refine Ext.drewN ?_ _) | (with_reducible refine Ext.drew ?_) | (with_reducible refine Ext.trans ?_ (by assumption))))).mono ?_; rintro e wA ⟨r, rfl, hr, hxA⟩))
            all_goals
              have x0' := Ext.cellv (w := wr) (w' := wA) (by repeat' (first | (with_reducible exact Ext.refl _) | (with_reducible assumption) | (with_reducible refine Ext.alloc ?_ _) | (with_reducible refine Ext.drewN ?_ _) | (with_reducible refine Ext.drew ?_) | (with_reducible refine Ext.trans ?_ (by assumption)))) x0
              have y0' := Ext.cellv (w := wr) (w' := wA) (by repeat' (first | (with_reducible exact Ext.refl _) | (with_reducible assumption) | (with_reducible refine Ext.alloc ?_ _) | (with_reducible refine Ext.drewN ?_ _) | (with_reducible refine Ext.drew ?_) | (with_reducible refine Ext.trans ?_ (by assumption)))) y0
              have f1' := (HMA.out.ext (w' := wA) (by repeat' (first | (with_reducible exact Ext.refl _) | (with_reducible assumption) | (with_reducible refine Ext.alloc ?_ _) | (with_reducible refine Ext.drewN ?_ _) | (with_reducible refine Ext.drew ?_) | (with_reducible refine Ext.trans ?_ (by assumption))))).free (j + 1)
              have f0' := (HMA.out.ext (w' := wA) (by repeat' (first | (with_reducible exact Ext.refl _) | (with_reducible assumption) | (with_reducible refine Ext.alloc ?_ _) | (with_reducible refine Ext.drewN ?_ _) | (with_reducible refine Ext.drew ?_) | (with_reducible refine Ext.trans ?_ (by assumption))))).free j
              have hxw : Ext wr wA := (by repeat' (first | (with_reducible exact Ext.refl _) | (with_reducible assumption) | (with_reducible refine Ext.alloc ?_ _) | (with_reducible refine Ext.drewN ?_ _) | (with_reducible refine Ext.drew ?_) | (with_reducible refine Ext.trans ?_ (by assumption))))
              clear x0 y0 f1 f0
              go_wp2_with fail
              go_region_with (fail)
              all_goals
                go_wp2_with fail
                go_roundw
                case rel =>
                  refine ⟨j, by go_num, by omega, Lib.hid ⟨_, HSW.out HD.out, ?_⟩, Lib.hid ?_⟩
                  · first
                    | exact ((HMA.out.ext hxw).set hjn _).set (show j < n by omega) _
                    | (rw [← List.set_comm _ _ (show j ≠ j + 1 by omega)]; exact ((HMA.out.ext hxw).set (show j < n by omega) _).set hjn _)
                    | exact (((HMA.out.ext hxw).set hjn _).set (show j < n by omega) _).ext (by repeat' (first | (with_reducible exact Ext.refl _) | (with_reducible assumption) | (with_reducible refine Ext.alloc ?_ _) | (with_reducible refine Ext.drewN ?_ _) | (with_reducible refine Ext.drew ?_) | (with_reducible refine Ext.trans ?_ (by assumption))))
                    | (rw [← List.set_comm _ _ (show j ≠ j + 1 by omega)]; exact (((HMA.out.ext hxw).set (show j < n by omega) _).set hjn _).ext (by repeat' (first | (with_reducible exact Ext.refl _) | (with_reducible assumption) | (with_reducible refine Ext.alloc ?_ _) | (with_reducible refine Ext.drewN ?_ _) | (with_reducible refine Ext.drew ?_) | (with_reducible refine Ext.trans ?_ (by assumption)))))
                    | exact (((HMA.out.ext (by repeat' (first | (with_reducible exact Ext.refl _) | (with_reducible assumption) | (with_reducible refine Ext.alloc ?_ _) | (with_reducible refine Ext.drewN ?_ _) | (with_reducible refine Ext.drew ?_) | (with_reducible refine Ext.trans ?_ (by assumption))))).set hjn _).set (show j < n by omega) _)
                    | (rw [← List.set_comm _ _ (show j ≠ j + 1 by omega)]; exact (((HMA.out.ext (by repeat' (first | (with_reducible exact Ext.refl _) | (with_reducible assumption) | (with_reducible refine Ext.alloc ?_ _) | (with_reducible refine Ext.drewN ?_ _) | (with_reducible refine Ext.drew ?_) | (with_reducible refine Ext.trans ?_ (by assumption))))).set (show j < n by omega) _).set hjn _))
                  · exact HC.out.trans (by have hcw := Chg.of_ext (S := [g]) hxw; exact (by repeat' (first | (with_reducible exact Chg.refl _ _) | (with_reducible assumption) | (with_reducible refine Chg.drewN ?_ _) | (with_reducible refine Chg.drew ?_) | (with_reducible refine Chg.alloc ?_ _) | (with_reducible refine Chg.setCell ?_ (.inl (by simp)) _) | (with_reducible refine Chg.trans ?_ (by assumption)) | (with_reducible refine Chg.ext ?_ (by assumption)))))
                case measure => simp [intOf]
          · have HD := Lib.hid hd
            have HKT : Hid (∀ w', Ext wr w' → Calls Try.prog 14 #[.int .i64 i, .int .i64 y, .pointer (some ⟨pl, 0, none⟩)] w' fun e w'' => ∃ r : Int, e = .returned (.int .i64 r) ∧ decide (r < 0) = false ∧ Ext w' w'') := Lib.hid (fun w' hx => (HKC.out w' hx).mono (by rintro e w'' ⟨r, he, hr, hx⟩; exact ⟨r, he, by rw [hr]; exact decide_eq_false hd, hx⟩))
            clear hd HKC
            go_upto_region 4 with fail
            go_region_held3 (fun w' => w'.cell? ⟨g, j + 1, none⟩ = some (.int .i64 i) ∧ w'.cell? ⟨g, j, none⟩ = some (.int .i64 y) ∧ Ext wr w') (exact ⟨Ext.cellv (w := wr) (by repeat' (first | (with_reducible exact Ext.refl _) | (with_reducible assumption) | (with_reducible refine Ext.alloc ?_ _) | (with_reducible refine Ext.drewN ?_ _) | (with_reducible refine Ext.drew ?_) | (with_reducible refine Ext.trans ?_ (by assumption)))) x0, Ext.cellv (w := wr) (by repeat' (first | (with_reducible exact Ext.refl _) | (with_reducible assumption) | (with_reducible refine Ext.alloc ?_ _) | (with_reducible refine Ext.drewN ?_ _) | (with_reducible refine Ext.drew ?_) | (with_reducible refine Ext.trans ?_ (by assumption)))) y0, (by repeat' (first | (with_reducible exact Ext.refl _) | (with_reducible assumption) | (with_reducible refine Ext.alloc ?_ _) | (with_reducible refine Ext.drewN ?_ _) | (with_reducible refine Ext.drew ?_) | (with_reducible refine Ext.trans ?_ (by assumption))))⟩) (first | (go_at_call 14; refine (HKT.out _ (by repeat' (first | (with_reducible exact Ext.refl _) | (with_reducible assumption) | (with_reducible refine Ext.alloc ?_ _) | (with_reducible refine Ext.drewN ?_ _) | (with_reducible refine Ext.drew ?_) | (with_reducible refine Ext.trans ?_ (by assumption))))).mono ?_; rintro e wA ⟨r, rfl, hr, hxA⟩))
            all_goals
              go_wp2_with fail
              go_roundw
              case rel => exact ⟨i + 1, by go_num, by omega, .inl (by omega), Lib.hid ⟨M, fun _ => HDN.out HD.out, fun h => by omega, HMA.out.ext (by repeat' (first | (with_reducible exact Ext.refl _) | (with_reducible assumption) | (with_reducible refine Ext.alloc ?_ _) | (with_reducible refine Ext.drewN ?_ _) | (with_reducible refine Ext.drew ?_) | (with_reducible refine Ext.trans ?_ (by assumption))))⟩, Lib.hid (HC.out.ext (by repeat' (first | (with_reducible exact Ext.refl _) | (with_reducible assumption) | (with_reducible refine Ext.alloc ?_ _) | (with_reducible refine Ext.drewN ?_ _) | (with_reducible refine Ext.drew ?_) | (with_reducible refine Ext.trans ?_ (by assumption)))))⟩
              case measure => simp [intOf]; omega
    · go_wp2_with fail
      go_end0
      obtain ⟨M, hM, hz, hMa⟩ := HM.out
      refine ⟨rfl, ⟨M, ?_, hMa⟩, HC.out⟩
      by_cases e : n = 0
      · subst e; rw [hz rfl]; exact Ord.zero T B
      · exact ordTo_end (hM (by omega)) (by omega)
end Go.Proofs.Ythoioocfembkgaa
