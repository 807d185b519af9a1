/-
  store's reader: num, text. No condition but that the bytes read.
-/
import Derived.Test.YtoadjmeopamgbaaStFn
import Derived.Test.YtoadjmeopamgbaaClone
import Derived.Deep.RegionHeld3
namespace Go.Proofs.Ytoadjmeopamgbaa
open Go.RowKit

theorem rd_fill {w : World} {g : Nat} {v x0 y0 : Value} {t : TypeId} (h : w.heap[g]? = some (.cells #[v, x0, y0] t (0, 0))) (x y : Value) :
    ((w.setCell ⟨g, 1, none⟩ x).setCell ⟨g, 2, none⟩ y).heap[g]? = some (.cells #[v, x, y] t (0, 0)) := by
  simpa using heap_set (o := 2) (heap_set (o := 1) h x) y
theorem rd_fill2 {w : World} {g : Nat} {v x0 y0 : Value} {t : TypeId} (h : w.heap[g]? = some (.cells #[v, x0, y0] t (0, 0))) (y : Value) :
    (w.setCell ⟨g, 2, none⟩ y).heap[g]? = some (.cells #[v, x0, y] t (0, 0)) := by
  simpa using heap_set (o := 2) h y

section
variable (v : Value) (B : List Int) (a : Int) (ok : Bool) (g : Nat) (t : TypeId) (w : World)
set_option maxHeartbeats 1000000 in
theorem snum (hr : w.heap[g]? = some (.cells #[v, .int .i64 a, .bool ok] t (0, 0))) (hB : RdI .u8 w v B) (hb : ∀ x ∈ B, 0 ≤ x ∧ x ≤ 255) (hl : B.length ≤ 100000) :
    Calls Try.prog 49 #[.pointer (some ⟨g, 0, none⟩)] w fun e w' => e = .returned (.int .i64 (rdNum B (a, ok)).1) ∧ w'.heap[g]? = some (.cells #[v, .int .i64 (rdNum B (a, ok)).2.1, .bool (rdNum B (a, ok)).2.2] t (0, 0)) ∧ Chg [g] w w' := by
  have c0 := cell_of_row w g 0 _ _ _ hr
  have c1 := cell_of_row w g 1 _ _ _ hr
  have c2 := cell_of_row w g 2 _ _ _ hr
  have f1 := frozen_row hr 1
  have f2 := frozen_row hr 2
  simp at c0 c1 c2
  cases ok with
  | false =>
    have HR := Lib.hid hr
    clear hr hB
    go_enter Try.func49, Try.ntmps49
    go_wp2_with fail
    go_ret
    exact ⟨rfl, HR.out, Chg.refl _ _⟩
  | true =>
    have HG := Lib.hid (fun w' (hx : Ext w w') => get_any v B a w' (hB.ext hx) hb (by omega))
    have e1 : rdNum B (a, true) = ((getN B a).1, ((getN B a).2.1, decide ((getN B a).2.2 = 0))) := rfl
    rw [e1]
    clear e1
    obtain ⟨n, hn⟩ : ∃ n, n = (getN B a).1 := ⟨_, rfl⟩
    obtain ⟨x, hx⟩ : ∃ x, x = (getN B a).2.1 := ⟨_, rfl⟩
    obtain ⟨z, hz⟩ : ∃ z, z = (getN B a).2.2 := ⟨_, rfl⟩
    rw [← hn, ← hx, ← hz] at HG
    rw [← hn, ← hx, ← hz]
    have hgl : g < w.heap.size := (Array.getElem?_eq_some_iff.1 hr).1
    have HF := Lib.hid (fun (w' : World) (hx : Ext w w') x y => rd_fill ((Below.block hx g hgl).trans hr) x y)
    obtain ⟨av, cv, rfl, _, _, _, _⟩ := hB.parts
    clear hr hB hn hx hz
    by_cases h0 : z = 0
    · subst h0
      go_enter Try.func49, Try.ntmps49
      go_wp2_with fail
      go_region_held3 (fun w' => w'.cell? ⟨g, 0, none⟩ = some (.slice av B.length cv) ∧ w'.cell? ⟨g, 1, none⟩ = some (.int .i64 a) ∧ Ext w w') (exact ⟨Ext.cellv (w := w) (by repeat' (first | (with_reducible exact Ext.refl _) | (with_reducible assumption) | (with_reducible refine Ext.alloc ?_ _) | (with_reducible refine Ext.drewN ?_ _) | (with_reducible refine Ext.drew ?_) | (with_reducible refine Ext.trans ?_ (by assumption)))) c0, Ext.cellv (w := w) (by repeat' (first | (with_reducible exact Ext.refl _) | (with_reducible assumption) | (with_reducible refine Ext.alloc ?_ _) | (with_reducible refine Ext.drewN ?_ _) | (with_reducible refine Ext.drew ?_) | (with_reducible refine Ext.trans ?_ (by assumption)))) c1, (by repeat' (first | (with_reducible exact Ext.refl _) | (with_reducible assumption) | (with_reducible refine Ext.alloc ?_ _) | (with_reducible refine Ext.drewN ?_ _) | (with_reducible refine Ext.drew ?_) | (with_reducible refine Ext.trans ?_ (by assumption))))⟩) ((go_at_call 55; refine (HG.out _ (by repeat' (first | (with_reducible exact Ext.refl _) | (with_reducible assumption) | (with_reducible refine Ext.alloc ?_ _) | (with_reducible refine Ext.drewN ?_ _) | (with_reducible refine Ext.drew ?_) | (with_reducible refine Ext.trans ?_ (by assumption))))).mono ?_; rintro e w1 ⟨rfl, rfl⟩))
      go_wp2_with fail
      go_ret
      exact ⟨rfl, HF.out _ (by repeat' (first | (with_reducible exact Ext.refl _) | (with_reducible assumption) | (with_reducible refine Ext.alloc ?_ _) | (with_reducible refine Ext.drewN ?_ _) | (with_reducible refine Ext.drew ?_) | (with_reducible refine Ext.trans ?_ (by assumption)))) _ _, (by repeat' (first | (with_reducible exact Chg.refl _ _) | (with_reducible assumption) | (with_reducible refine Chg.drewN ?_ _) | (with_reducible refine Chg.drew ?_) | (with_reducible refine Chg.alloc ?_ _) | (with_reducible refine Chg.setCell ?_ (.inl (by simp)) _) | (with_reducible refine Chg.trans ?_ (by assumption)) | (with_reducible refine Chg.ext ?_ (by assumption))))⟩
    · have hz1 : (z == 0) = false := by rw [beq_eq_false_iff_ne]; exact h0
      have hz2 : decide (z = 0) = false := decide_eq_false h0
      simp only [hz2]
      go_enter Try.func49, Try.ntmps49
      go_wp2_with fail
      go_region_held3 (fun w' => w'.cell? ⟨g, 0, none⟩ = some (.slice av B.length cv) ∧ w'.cell? ⟨g, 1, none⟩ = some (.int .i64 a) ∧ Ext w w') (exact ⟨Ext.cellv (w := w) (by repeat' (first | (with_reducible exact Ext.refl _) | (with_reducible assumption) | (with_reducible refine Ext.alloc ?_ _) | (with_reducible refine Ext.drewN ?_ _) | (with_reducible refine Ext.drew ?_) | (with_reducible refine Ext.trans ?_ (by assumption)))) c0, Ext.cellv (w := w) (by repeat' (first | (with_reducible exact Ext.refl _) | (with_reducible assumption) | (with_reducible refine Ext.alloc ?_ _) | (with_reducible refine Ext.drewN ?_ _) | (with_reducible refine Ext.drew ?_) | (with_reducible refine Ext.trans ?_ (by assumption)))) c1, (by repeat' (first | (with_reducible exact Ext.refl _) | (with_reducible assumption) | (with_reducible refine Ext.alloc ?_ _) | (with_reducible refine Ext.drewN ?_ _) | (with_reducible refine Ext.drew ?_) | (with_reducible refine Ext.trans ?_ (by assumption))))⟩) ((go_at_call 55; refine (HG.out _ (by repeat' (first | (with_reducible exact Ext.refl _) | (with_reducible assumption) | (with_reducible refine Ext.alloc ?_ _) | (with_reducible refine Ext.drewN ?_ _) | (with_reducible refine Ext.drew ?_) | (with_reducible refine Ext.trans ?_ (by assumption))))).mono ?_; rintro e w1 ⟨rfl, rfl⟩))
      go_wp2_with fail
      go_ret
      exact ⟨rfl, HF.out _ (by repeat' (first | (with_reducible exact Ext.refl _) | (with_reducible assumption) | (with_reducible refine Ext.alloc ?_ _) | (with_reducible refine Ext.drewN ?_ _) | (with_reducible refine Ext.drew ?_) | (with_reducible refine Ext.trans ?_ (by assumption)))) _ _, (by repeat' (first | (with_reducible exact Chg.refl _ _) | (with_reducible assumption) | (with_reducible refine Chg.drewN ?_ _) | (with_reducible refine Chg.drew ?_) | (with_reducible refine Chg.alloc ?_ _) | (with_reducible refine Chg.setCell ?_ (.inl (by simp)) _) | (with_reducible refine Chg.trans ?_ (by assumption)) | (with_reducible refine Chg.ext ?_ (by assumption))))⟩
set_option maxHeartbeats 2000000 in
theorem stext (hr : w.heap[g]? = some (.cells #[v, .int .i64 a, .bool ok] t (0, 0))) (hB : RdI .u8 w v B) (hb : ∀ x ∈ B, 0 ≤ x ∧ x ≤ 255) (hl : B.length ≤ 100000) (n : Nat) (hn : n ≤ 64) :
    Calls Try.prog 50 #[.pointer (some ⟨g, 0, none⟩), .int .i64 (n : Nat)] w fun e w' => ∃ v', e = .returned v' ∧ OwnI .u8 5 w.heap.size w' v' (rdText B (a, ok) n).1 ∧ w'.heap[g]? = some (.cells #[v, .int .i64 a, .bool (rdText B (a, ok) n).2] t (0, 0)) ∧ Chg [g] w w' := by
  have c0 := cell_of_row w g 0 _ _ _ hr
  have c1 := cell_of_row w g 1 _ _ _ hr
  have c2 := cell_of_row w g 2 _ _ _ hr
  have f2 := frozen_row hr 2
  have hgl : g < w.heap.size := (Array.getElem?_eq_some_iff.1 hr).1
  simp at c0 c1 c2
  cases ok with
  | false =>
    have HR := Lib.hid hr
    clear hr hB
    go_enter Try.func50, Try.ntmps50
    go_wp2_with fail
    go_ret
    exact ⟨_, rfl, OwnI.nil _ _ _ _, HR.out, Chg.refl _ _⟩
  | true =>
    have HG := Lib.hid (fun w' (hx : Ext w w') => gettext_any v B a n w' (hB.ext hx) hb (by unfold Fits; omega))
    have e1 : rdText B (a, true) n = ((getT B a n).1, decide ((getT B a n).2.2 = 0 ∧ ((getT B a n).1.length : Int) = n ∧ (getT B a n).2.1 = B.length)) := rfl
    rw [e1]
    clear e1
    have hlen : (getT B a n).1.length ≤ 64 := by
      unfold getT
      rcases getN B a with ⟨q, f, e⟩
      simp only
      repeat' split
      all_goals simp
      all_goals omega
    obtain ⟨T, hT⟩ : ∃ T, T = (getT B a n).1 := ⟨_, rfl⟩
    obtain ⟨x, hx⟩ : ∃ x, x = (getT B a n).2.1 := ⟨_, rfl⟩
    obtain ⟨z, hz⟩ : ∃ z, z = (getT B a n).2.2 := ⟨_, rfl⟩
    rw [← hT, ← hx, ← hz] at HG
    rw [← hT] at hlen
    rw [← hT, ← hx, ← hz]
    have HF := Lib.hid (fun (w' : World) (h : w'.heap[g]? = some (.cells #[v, .int .i64 a, .bool true] t (0, 0))) y => rd_fill2 h y)
    have HR := Lib.hid (fun (w' : World) (hx : Ext w w') => (Below.block hx g hgl).trans hr)
    obtain ⟨av, cv, rfl, hlb, hmb, _, _⟩ := hB.parts
    obtain ⟨L, hL⟩ : ∃ L, L = B.length := ⟨_, rfl⟩
    obtain ⟨M, hM⟩ : ∃ M, M = T.length := ⟨_, rfl⟩
    rw [← hL] at c0 HG HF HR hl ⊢
    rw [← hM] at hlen ⊢
    have HM := Lib.hid hM
    clear hr hB hT hx hz hL hM hb hmb hlb
    have fin : ∀ (b : Bool) (w' : World) v', b = decide (z = 0 ∧ (M : Int) = n ∧ x = L) → OwnI .u8 5 w.heap.size w' v' T → Ext w w' → OwnI .u8 5 w.heap.size (w'.setCell ⟨g, 2, none⟩ (.bool b)) v' T ∧ (w'.setCell ⟨g, 2, none⟩ (.bool b)).heap[g]? = some (.cells #[.slice av L cv, .int .i64 a, .bool (decide (z = 0 ∧ (M : Int) = n ∧ x = L))] t (0, 0)) ∧ Chg [g] w (w'.setCell ⟨g, 2, none⟩ (.bool b)) := by
      intro b w' v' hb ho hx
      refine ⟨ho.chg (S := [g]) ((Chg.refl _ _).setCell (.inl (by simp)) _) (by simpa using hgl), ?_, ((Chg.refl _ w).ext hx).setCell (.inl (by simp)) _⟩
      rw [← hb]
      exact HF.out _ (HR.out _ hx) _
    have FIN := Lib.hid fin
    have HZ := Lib.hid (fun (w' : World) (hx : Ext w w') => frozen_row (HR.out _ hx) 2)
    clear fin HF HR
    by_cases h0 : z = 0
    · subst h0
      by_cases h1 : (M : Int) = n
      · have h1' : M = n := by omega
        subst h1'
        by_cases h2 : x = (L : Int)
        · have HD : Hid (true = decide ((0 : Int) = 0 ∧ (M : Int) = M ∧ x = L)) := Lib.hid (decide_eq_true ⟨rfl, rfl, h2⟩).symm
          subst h2
          clear h1
          go_enter Try.func50, Try.ntmps50
          go_wp2_with fail
          go_region_held3 (fun w' => w'.cell? ⟨g, 0, none⟩ = some (.slice av L cv) ∧ w'.cell? ⟨g, 1, none⟩ = some (.int .i64 a) ∧ Ext w w') (exact ⟨Ext.cellv (w := w) (by repeat' (first | (with_reducible exact Ext.refl _) | (with_reducible assumption) | (with_reducible refine Ext.alloc ?_ _) | (with_reducible refine Ext.drewN ?_ _) | (with_reducible refine Ext.drew ?_) | (with_reducible refine Ext.trans ?_ (by assumption)))) c0, Ext.cellv (w := w) (by repeat' (first | (with_reducible exact Ext.refl _) | (with_reducible assumption) | (with_reducible refine Ext.alloc ?_ _) | (with_reducible refine Ext.drewN ?_ _) | (with_reducible refine Ext.drew ?_) | (with_reducible refine Ext.trans ?_ (by assumption)))) c1, (by repeat' (first | (with_reducible exact Ext.refl _) | (with_reducible assumption) | (with_reducible refine Ext.alloc ?_ _) | (with_reducible refine Ext.drewN ?_ _) | (with_reducible refine Ext.drew ?_) | (with_reducible refine Ext.trans ?_ (by assumption))))⟩) ((go_at_call 56; refine (HG.out _ (by repeat' (first | (with_reducible exact Ext.refl _) | (with_reducible assumption) | (with_reducible refine Ext.alloc ?_ _) | (with_reducible refine Ext.drewN ?_ _) | (with_reducible refine Ext.drew ?_) | (with_reducible refine Ext.trans ?_ (by assumption))))).mono ?_; rintro e w1 ⟨v1, rfl, ho, hx1⟩))
          obtain ⟨a1, m1, rfl, _, _, _, _⟩ := ho.rd.parts
          have hxw : Ext w w1 := (by repeat' (first | (with_reducible exact Ext.refl _) | (with_reducible assumption) | (with_reducible refine Ext.alloc ?_ _) | (with_reducible refine Ext.drewN ?_ _) | (with_reducible refine Ext.drew ?_) | (with_reducible refine Ext.trans ?_ (by assumption))))
          have hH := FIN.out _ w1 _ HD.out (ho.mono (Ext.size (w := w) (by repeat' (first | (with_reducible exact Ext.refl _) | (with_reducible assumption) | (with_reducible refine Ext.alloc ?_ _) | (with_reducible refine Ext.drewN ?_ _) | (with_reducible refine Ext.drew ?_) | (with_reducible refine Ext.trans ?_ (by assumption)))))) hxw
          have HH := Lib.hid hH
          have f2 := HZ.out _ hxw
          rw [← HM.out] at ho HH ⊢
          have c0 := hxw.cellv c0
          have c1 := hxw.cellv c1
          have c2 := hxw.cellv c2
          clear hH
          go_wp2_with fail
          go_ret
          exact ⟨_, rfl, HH.out⟩
        · have HD : Hid (false = decide ((0 : Int) = 0 ∧ (M : Int) = M ∧ x = L)) := Lib.hid (decide_eq_false (fun h => h2 h.2.2)).symm
          have hb2 : (x == (L : Int)) = false := by rw [beq_eq_false_iff_ne]; exact h2
          have hd2 : decide (x = (L : Int)) = false := decide_eq_false h2
          clear h1
          go_enter Try.func50, Try.ntmps50
          go_wp2_with fail
          go_region_held3 (fun w' => w'.cell? ⟨g, 0, none⟩ = some (.slice av L cv) ∧ w'.cell? ⟨g, 1, none⟩ = some (.int .i64 a) ∧ Ext w w') (exact ⟨Ext.cellv (w := w) (by repeat' (first | (with_reducible exact Ext.refl _) | (with_reducible assumption) | (with_reducible refine Ext.alloc ?_ _) | (with_reducible refine Ext.drewN ?_ _) | (with_reducible refine Ext.drew ?_) | (with_reducible refine Ext.trans ?_ (by assumption)))) c0, Ext.cellv (w := w) (by repeat' (first | (with_reducible exact Ext.refl _) | (with_reducible assumption) | (with_reducible refine Ext.alloc ?_ _) | (with_reducible refine Ext.drewN ?_ _) | (with_reducible refine Ext.drew ?_) | (with_reducible refine Ext.trans ?_ (by assumption)))) c1, (by repeat' (first | (with_reducible exact Ext.refl _) | (with_reducible assumption) | (with_reducible refine Ext.alloc ?_ _) | (with_reducible refine Ext.drewN ?_ _) | (with_reducible refine Ext.drew ?_) | (with_reducible refine Ext.trans ?_ (by assumption))))⟩) ((go_at_call 56; refine (HG.out _ (by repeat' (first | (with_reducible exact Ext.refl _) | (with_reducible assumption) | (with_reducible refine Ext.alloc ?_ _) | (with_reducible refine Ext.drewN ?_ _) | (with_reducible refine Ext.drew ?_) | (with_reducible refine Ext.trans ?_ (by assumption))))).mono ?_; rintro e w1 ⟨v1, rfl, ho, hx1⟩))
          obtain ⟨a1, m1, rfl, _, _, _, _⟩ := ho.rd.parts
          have hxw : Ext w w1 := (by repeat' (first | (with_reducible exact Ext.refl _) | (with_reducible assumption) | (with_reducible refine Ext.alloc ?_ _) | (with_reducible refine Ext.drewN ?_ _) | (with_reducible refine Ext.drew ?_) | (with_reducible refine Ext.trans ?_ (by assumption))))
          have hH := FIN.out _ w1 _ HD.out (ho.mono (Ext.size (w := w) (by repeat' (first | (with_reducible exact Ext.refl _) | (with_reducible assumption) | (with_reducible refine Ext.alloc ?_ _) | (with_reducible refine Ext.drewN ?_ _) | (with_reducible refine Ext.drew ?_) | (with_reducible refine Ext.trans ?_ (by assumption)))))) hxw
          have HH := Lib.hid hH
          have f2 := HZ.out _ hxw
          rw [← HM.out] at ho HH ⊢
          have c0 := hxw.cellv c0
          have c1 := hxw.cellv c1
          have c2 := hxw.cellv c2
          clear hH
          go_wp2_with fail
          go_ret
          exact ⟨_, rfl, HH.out⟩
      · have HD : Hid (false = decide ((0 : Int) = 0 ∧ (M : Int) = n ∧ x = L)) := Lib.hid (decide_eq_false (fun h => h1 h.2.1)).symm
        have h1n : ¬ M = n := by omega
        have hb2 : ((M : Int) == (n : Int)) = false := by rw [beq_eq_false_iff_ne]; exact h1
        have hd2 : decide (M = n) = false := decide_eq_false h1n
        go_enter Try.func50, Try.ntmps50
        go_wp2_with fail
        go_region_held3 (fun w' => w'.cell? ⟨g, 0, none⟩ = some (.slice av L cv) ∧ w'.cell? ⟨g, 1, none⟩ = some (.int .i64 a) ∧ Ext w w') (exact ⟨Ext.cellv (w := w) (by repeat' (first | (with_reducible exact Ext.refl _) | (with_reducible assumption) | (with_reducible refine Ext.alloc ?_ _) | (with_reducible refine Ext.drewN ?_ _) | (with_reducible refine Ext.drew ?_) | (with_reducible refine Ext.trans ?_ (by assumption)))) c0, Ext.cellv (w := w) (by repeat' (first | (with_reducible exact Ext.refl _) | (with_reducible assumption) | (with_reducible refine Ext.alloc ?_ _) | (with_reducible refine Ext.drewN ?_ _) | (with_reducible refine Ext.drew ?_) | (with_reducible refine Ext.trans ?_ (by assumption)))) c1, (by repeat' (first | (with_reducible exact Ext.refl _) | (with_reducible assumption) | (with_reducible refine Ext.alloc ?_ _) | (with_reducible refine Ext.drewN ?_ _) | (with_reducible refine Ext.drew ?_) | (with_reducible refine Ext.trans ?_ (by assumption))))⟩) ((go_at_call 56; refine (HG.out _ (by repeat' (first | (with_reducible exact Ext.refl _) | (with_reducible assumption) | (with_reducible refine Ext.alloc ?_ _) | (with_reducible refine Ext.drewN ?_ _) | (with_reducible refine Ext.drew ?_) | (with_reducible refine Ext.trans ?_ (by assumption))))).mono ?_; rintro e w1 ⟨v1, rfl, ho, hx1⟩))
        obtain ⟨a1, m1, rfl, _, _, _, _⟩ := ho.rd.parts
        have hxw : Ext w w1 := (by repeat' (first | (with_reducible exact Ext.refl _) | (with_reducible assumption) | (with_reducible refine Ext.alloc ?_ _) | (with_reducible refine Ext.drewN ?_ _) | (with_reducible refine Ext.drew ?_) | (with_reducible refine Ext.trans ?_ (by assumption))))
        have hH := FIN.out _ w1 _ HD.out (ho.mono (Ext.size (w := w) (by repeat' (first | (with_reducible exact Ext.refl _) | (with_reducible assumption) | (with_reducible refine Ext.alloc ?_ _) | (with_reducible refine Ext.drewN ?_ _) | (with_reducible refine Ext.drew ?_) | (with_reducible refine Ext.trans ?_ (by assumption)))))) hxw
        have HH := Lib.hid hH
        have f2 := HZ.out _ hxw
        rw [← HM.out] at ho HH ⊢
        have c0 := hxw.cellv c0
        have c1 := hxw.cellv c1
        have c2 := hxw.cellv c2
        clear hH
        go_wp2_with fail
        go_ret
        exact ⟨_, rfl, HH.out⟩
    · have HD : Hid (false = decide (z = 0 ∧ (M : Int) = n ∧ x = L)) := Lib.hid (decide_eq_false (fun h => h0 h.1)).symm
      have hb2 : (z == 0) = false := by rw [beq_eq_false_iff_ne]; exact h0
      have hd2 : decide (z = 0) = false := decide_eq_false h0
      go_enter Try.func50, Try.ntmps50
      go_wp2_with fail
      go_region_held3 (fun w' => w'.cell? ⟨g, 0, none⟩ = some (.slice av L cv) ∧ w'.cell? ⟨g, 1, none⟩ = some (.int .i64 a) ∧ Ext w w') (exact ⟨Ext.cellv (w := w) (by repeat' (first | (with_reducible exact Ext.refl _) | (with_reducible assumption) | (with_reducible refine Ext.alloc ?_ _) | (with_reducible refine Ext.drewN ?_ _) | (with_reducible refine Ext.drew ?_) | (with_reducible refine Ext.trans ?_ (by assumption)))) c0, Ext.cellv (w := w) (by repeat' (first | (with_reducible exact Ext.refl _) | (with_reducible assumption) | (with_reducible refine Ext.alloc ?_ _) | (with_reducible refine Ext.drewN ?_ _) | (with_reducible refine Ext.drew ?_) | (with_reducible refine Ext.trans ?_ (by assumption)))) c1, (by repeat' (first | (with_reducible exact Ext.refl _) | (with_reducible assumption) | (with_reducible refine Ext.alloc ?_ _) | (with_reducible refine Ext.drewN ?_ _) | (with_reducible refine Ext.drew ?_) | (with_reducible refine Ext.trans ?_ (by assumption))))⟩) ((go_at_call 56; refine (HG.out _ (by repeat' (first | (with_reducible exact Ext.refl _) | (with_reducible assumption) | (with_reducible refine Ext.alloc ?_ _) | (with_reducible refine Ext.drewN ?_ _) | (with_reducible refine Ext.drew ?_) | (with_reducible refine Ext.trans ?_ (by assumption))))).mono ?_; rintro e w1 ⟨v1, rfl, ho, hx1⟩))
      obtain ⟨a1, m1, rfl, _, _, _, _⟩ := ho.rd.parts
      have hxw : Ext w w1 := (by repeat' (first | (with_reducible exact Ext.refl _) | (with_reducible assumption) | (with_reducible refine Ext.alloc ?_ _) | (with_reducible refine Ext.drewN ?_ _) | (with_reducible refine Ext.drew ?_) | (with_reducible refine Ext.trans ?_ (by assumption))))
      have hH := FIN.out _ w1 _ HD.out (ho.mono (Ext.size (w := w) (by repeat' (first | (with_reducible exact Ext.refl _) | (with_reducible assumption) | (with_reducible refine Ext.alloc ?_ _) | (with_reducible refine Ext.drewN ?_ _) | (with_reducible refine Ext.drew ?_) | (with_reducible refine Ext.trans ?_ (by assumption)))))) hxw
      have HH := Lib.hid hH
      have f2 := HZ.out _ hxw
      rw [← HM.out] at ho HH ⊢
      have c0 := hxw.cellv c0
      have c1 := hxw.cellv c1
      have c2 := hxw.cellv c2
      clear hH
      go_wp2_with fail
      go_ret
      exact ⟨_, rfl, HH.out⟩
end
end Go.Proofs.Ytoadjmeopamgbaa
