/-
  A row of places as a function, its swaps; the swap of two pieces. No condition but that the row is there.
-/
import Derived.Test.YthoioocfembkgaaKSort
import Derived.Test.YthoioocfembkgaaWoLaw
namespace Go.Proofs.Ythoioocfembkgaa
open Go.RowKit

/-- a row of places, as a function -/
structure ArF (w : World) (g n : Nat) (X : Nat → Nat) : Prop where
  ok : ∀ k, k < n → X k < n
  row : ∃ cs t, w.heap[g]? = some (.cells cs t (0, 0)) ∧ ∀ j, j < n → cs[j]? = some (.int .i64 (X j : Nat))
section
variable {w w' : World} {g n : Nat} {X : Nat → Nat}
theorem ArF.lt (h : ArF w g n X) : g < w.heap.size := by obtain ⟨cs, t, h1, _⟩ := h.row; exact (Array.getElem?_eq_some_iff.1 h1).1
theorem ArF.cell (h : ArF w g n X) {j : Nat} (hj : j < n) : w.cell? ⟨g, j, none⟩ = some (.int .i64 (X j : Nat)) := by
  obtain ⟨cs, t, h1, h2⟩ := h.row
  exact (cell_of_row w g j cs t _ h1).trans (h2 j hj)
theorem ArF.free (h : ArF w g n X) (o : Nat) : w.frozen? ⟨g, o, none⟩ = false := by obtain ⟨cs, t, h1, _⟩ := h.row; exact frozen_row h1 o
theorem ArF.ext (h : ArF w g n X) (hx : Ext w w') : ArF w' g n X := by
  obtain ⟨cs, t, h1, h2⟩ := h.row
  exact ⟨h.ok, cs, t, (Below.block hx _ h.lt).trans h1, h2⟩
theorem ArF.set (h : ArF w g n X) {j x : Nat} (hj : j < n) (hx : x < n) : ArF (w.setCell ⟨g, j, none⟩ (.int .i64 x)) g n (updF X j x) := by
  obtain ⟨cs, t, h1, h2⟩ := h.row
  refine ⟨fun k hk => ?_, _, t, heap_set (o := j) h1 _, fun k hk => ?_⟩
  · unfold updF; split
    · exact hx
    · exact h.ok k hk
  · by_cases e : k = j
    · subst e
      rw [Array.getElem?_setIfInBounds_self_of_lt (Array.getElem?_eq_some_iff.1 (h2 k hk)).1]
      unfold updF; rw [if_pos rfl]
    · rw [Array.getElem?_setIfInBounds_ne (fun x => e x.symm), h2 k hk]
      unfold updF; rw [if_neg e]
theorem ArF.eq (h : ArF w g n X) {Y : Nat → Nat} (e : X = Y) : ArF w g n Y := e ▸ h
theorem ArF.of (h : ∃ M, ArrAt w g n M ∧ ∀ k, M.getD k 0 = X k) (hX : ∀ k, k < n → X k < n) : ArF w g n X := by
  obtain ⟨M, ha, hm⟩ := h
  obtain ⟨cs, t, h1, h2⟩ := ha.row
  exact ⟨hX, cs, t, h1, fun j hj => by rw [← hm j]; exact h2 j hj⟩
end
theorem updF_comm (X : Nat → Nat) {p q x y : Nat} (h : p ≠ q) : updF (updF X p x) q y = updF (updF X q y) p x := by
  funext k; unfold updF
  by_cases e1 : k = q
  · rw [if_pos e1, if_neg (show ¬ k = p by omega), if_pos e1]
  · rw [if_neg e1, if_neg e1]
/-- two places change what they hold, in either order of the stores -/
structure Swp (w w' : World) (g n : Nat) (X : Nat → Nat) (p q : Nat) : Prop where
  ar : ArF w' g n (updF (updF X p (X q)) q (X p))
  ch : Chg [g] w w'
theorem Swp.ext {w w1 w2 : World} {g n : Nat} {X : Nat → Nat} {p q : Nat} (h : Swp w w1 g n X p q) (hx : Ext w1 w2) : Swp w w2 g n X p q := ⟨h.ar.ext hx, h.ch.ext hx⟩
theorem swp_pq {w w1 : World} {g n : Nat} {X : Nat → Nat} {p q x y : Nat} (h : ArF w g n X) (hx : Ext w w1) (hp : p < n) (hq : q < n) (ex : x = X p) (ey : y = X q) :
    Swp w ((w1.setCell ⟨g, p, none⟩ (.int .i64 y)).setCell ⟨g, q, none⟩ (.int .i64 x)) g n X p q := by
  subst ex ey
  have hc := Chg.of_ext (S := [g]) hx
  exact ⟨((h.ext hx).set hp (h.ok q hq)).set hq (h.ok p hp), (by repeat' (first | (with_reducible exact Chg.refl _ _) | (with_reducible assumption) | (with_reducible refine Chg.drewN ?_ _) | (with_reducible refine Chg.drew ?_) | (with_reducible refine Chg.alloc ?_ _) | (with_reducible refine Chg.setCell ?_ (.inl (by simp)) _) | (with_reducible refine Chg.trans ?_ (by assumption)) | (with_reducible refine Chg.ext ?_ (by assumption))))⟩
theorem swp_qp {w w1 : World} {g n : Nat} {X : Nat → Nat} {p q x y : Nat} (h : ArF w g n X) (hx : Ext w w1) (hp : p < n) (hq : q < n) (hne : p ≠ q) (ex : x = X p) (ey : y = X q) :
    Swp w ((w1.setCell ⟨g, q, none⟩ (.int .i64 x)).setCell ⟨g, p, none⟩ (.int .i64 y)) g n X p q := by
  subst ex ey
  have hc := Chg.of_ext (S := [g]) hx
  refine ⟨?_, (by repeat' (first | (with_reducible exact Chg.refl _ _) | (with_reducible assumption) | (with_reducible refine Chg.drewN ?_ _) | (with_reducible refine Chg.drew ?_) | (with_reducible refine Chg.alloc ?_ _) | (with_reducible refine Chg.setCell ?_ (.inl (by simp)) _) | (with_reducible refine Chg.trans ?_ (by assumption)) | (with_reducible refine Chg.ext ?_ (by assumption))))⟩
  rw [updF_comm X hne]
  exact ((h.ext hx).set hq (h.ok p hp)).set hp (h.ok q hq)

set_option maxRecDepth 100000 in
set_option maxHeartbeats 4000000 in
theorem wo_swap (g n c a b m : Nat) (X : Nat → Nat) (cmp : Value) (w : World) (ha : ArF w g n X) (h1 : a + m ≤ b) (h2 : b + m ≤ n) (hn : n ≤ 1000) :
    Calls Try.prog 26 #[.slice (some ⟨g, 0, none⟩) n c, .int .i64 a, .int .i64 b, .int .i64 m, cmp] w fun e w' => e = .returned (.tuple #[]) ∧ ArF w' g n (swpF X a b m) ∧ Chg [g] w w' := by
  have HA := Lib.hid ha
  have hm0 : (0 : Int) ≤ (m : Int) := by omega
  have hm1 : (m : Int) ≤ 1000 := by omega
  have H1 := Lib.hid h1
  have H2 := Lib.hid h2
  have HN := Lib.hid hn
  clear ha h1 h2 hn
  go_enter Try.func26, Try.ntmps26
  go_wp2_with fail
  go_loopw [10] (fun ci wr => ∃ i : Nat, ci = .int .i64 i ∧ i ≤ m ∧ Hid (ArF wr g n (swpF X a b i)) ∧ Hid (Chg [g] w wr)) (fun ci _ => m - (intOf ci).toNat)
  case atStart => exact ⟨0, rfl, Nat.zero_le _, Lib.hid (HA.out.eq (swpF_zero X a b).symm), Lib.hid (Chg.refl _ _)⟩
  case round =>
    obtain ⟨i, rfl, hi, HM, HC⟩ := hrel
    clear HA
    by_cases hlt : i < m
    · have hii : (i : Int) < (m : Int) := by omega
      obtain ⟨p, hp⟩ : ∃ p, p = a + i := ⟨_, rfl⟩
      obtain ⟨q, hq⟩ : ∃ q, q = b + i := ⟨_, rfl⟩
      have q1 := H1.out
      have q2 := H2.out
      have q3 := HN.out
      have hpn : p < n := by omega
      have hqn : q < n := by omega
      have hpi : (p : Int) < (n : Int) := by omega
      have hqi : (q : Int) < (n : Int) := by omega
      have hp0 : (0 : Int) ≤ (p : Int) := by omega
      have hq0 : (0 : Int) ≤ (q : Int) := by omega
      have hwp : IntKind.i64.wrap ((a : Int) + (i : Int)) = (p : Int) := by rw [IntKind.wrap_i64]; omega
      have hwq : IntKind.i64.wrap ((b : Int) + (i : Int)) = (q : Int) := by rw [IntKind.wrap_i64]; omega
      have hne : p ≠ q := by omega
      have HNE := Lib.hid hne
      have hne1 : ¬ p = q := hne
      have hne2 : ¬ q = p := fun e => hne e.symm
      have x0 := HM.out.cell hpn
      have y0 := HM.out.cell hqn
      have f0 := HM.out.free p
      have f1 := HM.out.free q
      obtain ⟨x, hx⟩ : ∃ x, x = swpF X a b i p := ⟨_, rfl⟩
      obtain ⟨y, hy⟩ : ∃ y, y = swpF X a b i q := ⟨_, rfl⟩
      rw [← hx] at x0
      rw [← hy] at y0
      have HX := Lib.hid hx
      have HY := Lib.hid hy
      have HPN := Lib.hid hpn
      have HQN := Lib.hid hqn
      have hend : ∀ w', Swp wr w' g n (swpF X a b i) p q → ArF w' g n (swpF X a b (i + 1)) := fun w' hs => hs.ar.eq (by rw [hp, hq, swpF_a X (by omega), swpF_b X (by omega)]; exact swpF_step X (by omega))
      have HEND := Lib.hid hend
      clear q1 q2 q3 hx hy hp hq hne hpn hqn hend
      go_wp2_with fail
      go_region_with (fail)
      all_goals
        go_wp2_with fail
        go_roundw
        case rel =>
          refine ⟨i + 1, by go_num, by omega, Lib.hid (HEND.out _ ?_), Lib.hid (HC.out.trans (Swp.ch (n := n) (X := swpF X a b i) (p := p) (q := q) ?_))⟩ <;>
            (first | exact (swp_pq HM.out (Ext.refl _) HPN.out HQN.out HX.out HY.out).ext (Ext.refl _).drew | exact (swp_qp HM.out (Ext.refl _) HPN.out HQN.out HNE.out HX.out HY.out).ext (Ext.refl _).drew | exact swp_pq HM.out (Ext.refl _) HPN.out HQN.out HX.out HY.out | exact swp_qp HM.out (Ext.refl _) HPN.out HQN.out HNE.out HX.out HY.out)
        case measure => simp [intOf]; omega
    · obtain rfl : i = m := by omega
      go_wp2_with fail
      go_end0
      exact ⟨rfl, HM.out, HC.out⟩
end Go.Proofs.Ythoioocfembkgaa
