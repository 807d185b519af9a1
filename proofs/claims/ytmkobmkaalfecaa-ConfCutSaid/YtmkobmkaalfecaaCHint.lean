/-
  conf.hint: a hint of bytes. No condition but that the bytes read.
-/
import Derived.Test.YtmkobmkaalfecaaCNum
namespace Go.Proofs.Ytmkobmkaalfecaa
open Go.RowKit

theorem results_row_tmp2 {P : Program} {fn : Func} {p u t2 : Tmp} {ty : TypeId} (h : fn.results = #[.cell p ty, .tmp u, .tmp t2]) (tmps : Array Value) (w : World) (g : Nat) (t : TypeId) (cs : Array Value) (fr : Nat × Nat) (d : TypeDesc)
    (hp : tmps.getD p undef = .pointer (some ⟨g, 0, none⟩)) (hg : w.heap[g]? = some (.cells cs t fr))
    (hu : P.underlying ty = some d) (hd : (match d with | .struct _ | .array _ _ => true | _ => false) = true) (hi : (P.info? ty).map (·.size) = some cs.size) :
    (results fn tmps).run P w = .ok (.tuple #[.agg cs, tmps.getD u undef, tmps.getD t2 undef]) w := by
  have hp' : tmps[p]?.getD undef = .pointer (some ⟨g, 0, none⟩) := by simpa using hp
  simp [results, h, hp', asAddr, Result.andThen, run_loadVar_row w g t ty cs fr d hg hu hd hi]

theorem hint_info : (Try.prog.info? 36).map (·.size) = some 4 := by kernel_rfl
theorem put3 {w : World} {p : Nat} {t : TypeId} {b : Bool} (V : Nat → Int) (h : w.heap[p]? = some (.cells #[.int .i64 0, .int .i64 0, .int .i64 0, .bool b] t (0, 0))) :
    ∀ K, K ≤ 3 → (putAll (fun _ => p) (fun k => k) V K w).heap[p]? = some (.cells #[.int .i64 (if 0 < K then V 0 else 0), .int .i64 (if 1 < K then V 1 else 0), .int .i64 (if 2 < K then V 2 else 0), .bool b] t (0, 0)) := by
  intro K hK
  have h1 := heap_set (o := 0) h (.int .i64 (V 0))
  have h2 := heap_set (o := 1) h1 (.int .i64 (V 1))
  have h3 := heap_set (o := 2) h2 (.int .i64 (V 2))
  have : K = 0 ∨ K = 1 ∨ K = 2 ∨ K = 3 := by omega
  rcases this with rfl | rfl | rfl | rfl
  · exact h
  · exact h1
  · exact h2
  · exact h3

theorem fill4 {w : World} {p : Nat} {u0 u1 u2 u3 : Value} {t : TypeId} (h : w.heap[p]? = some (.cells #[u0, u1, u2, u3] t (0, 0))) (v0 v1 v2 v3 : Value) :
    ((((w.setCell ⟨p, 0, none⟩ v0).setCell ⟨p, 1, none⟩ v1).setCell ⟨p, 2, none⟩ v2).setCell ⟨p, 3, none⟩ v3).heap[p]? = some (.cells #[v0, v1, v2, v3] t (0, 0)) :=
  heap_set (heap_set (heap_set (heap_set h _) _) _) _
theorem fill4h {w : World} {p : Nat} {u0 u1 u2 u3 : Value} {t : TypeId} (h : w.heap[p]? = some (.cells #[u0, u1, u2, u3] t (0, 0))) (b v0 v1 v2 v3 : Value) :
    (((((w.setCell ⟨p, 3, none⟩ b).setCell ⟨p, 0, none⟩ v0).setCell ⟨p, 1, none⟩ v1).setCell ⟨p, 2, none⟩ v2).setCell ⟨p, 3, none⟩ v3).heap[p]? = some (.cells #[v0, v1, v2, v3] t (0, 0)) :=
  heap_set (heap_set (heap_set (heap_set (heap_set h _) _) _) _) _
/-- a hint's error, and where the next one begins -/
def herr (B : List Int) (a : Int) : Int :=
  if errK B a 0 ≠ 0 then errK B a 0 else if errK B a 1 ≠ 0 then errK B a 1 else if errK B a 2 ≠ 0 then errK B a 2 else (getB B (posK B a 3)).2.2
def hnext (B : List Int) (a : Int) : Int := (getB B (posK B a 3)).2.1
theorem herr_first {B : List Int} {a x : Int} (h : herr B a = x) : (∃ K, K < 3 ∧ (∀ j, j < K → errK B a j = 0) ∧ errK B a K = x) ∨ ((∀ j, j < 3 → errK B a j = 0) ∧ (getB B (posK B a 3)).2.2 = x) := by
  unfold herr at h
  by_cases e0 : errK B a 0 = 0
  · rw [if_neg (by simpa using e0)] at h
    by_cases e1 : errK B a 1 = 0
    · rw [if_neg (by simpa using e1)] at h
      by_cases e2 : errK B a 2 = 0
      · rw [if_neg (by simpa using e2)] at h
        refine .inr ⟨fun j hj => ?_, h⟩
        have : j = 0 ∨ j = 1 ∨ j = 2 := by omega
        rcases this with rfl | rfl | rfl <;> assumption
      · rw [if_pos e2] at h
        refine .inl ⟨2, by omega, fun j hj => ?_, h⟩
        have : j = 0 ∨ j = 1 := by omega
        rcases this with rfl | rfl <;> assumption
    · rw [if_pos e1] at h
      refine .inl ⟨1, by omega, fun j hj => ?_, h⟩
      obtain rfl : j = 0 := by omega
      exact e0
  · rw [if_pos e0] at h
    exact .inl ⟨0, by omega, fun j hj => absurd hj (by omega), h⟩
theorem herr_ok {B : List Int} {a : Int} (h : herr B a = 0) : (∀ j, j < 3 → errK B a j = 0) ∧ (getB B (posK B a 3)).2.2 = 0 := by
  unfold herr at h
  by_cases e0 : errK B a 0 = 0
  · rw [if_neg (by simpa using e0)] at h
    by_cases e1 : errK B a 1 = 0
    · rw [if_neg (by simpa using e1)] at h
      by_cases e2 : errK B a 2 = 0
      · rw [if_neg (by simpa using e2)] at h
        refine ⟨fun j hj => ?_, h⟩
        have : j = 0 ∨ j = 1 ∨ j = 2 := by omega
        rcases this with rfl | rfl | rfl <;> assumption
      · rw [if_pos e2] at h; exact absurd h e2
    · rw [if_pos e1] at h; exact absurd h e1
  · rw [if_pos e0] at h; exact absurd h e0

section
variable (v : Value) (B : List Int) (a : Int) (w : World) (hB : RdI .u8 w v B) (hb : ∀ x ∈ B, 0 ≤ x ∧ x ≤ 255) (hl : B.length ≤ 100000)
include hB hb hl
set_option maxHeartbeats 2000000 in
theorem chint (x : Int) (hx : herr B a = x) :
    Calls Try.prog 70 #[v, .int .i64 a] w fun e w' => ∃ f0 f1 f2 t nx, e = .returned (.tuple #[.agg #[.int .i64 f0, .int .i64 f1, .int .i64 f2, .bool t], .int .i64 nx, .int .i64 x]) ∧
      (x = 0 → f0 = valK B a 0 ∧ f1 = valK B a 1 ∧ f2 = valK B a 2 ∧ t = (getB B (posK B a 3)).1 ∧ nx = hnext B a) ∧ Ext w w' := by
  have hvlt : B ≠ [] → ∀ g, v.ownBlock = some g → g < w.heap.size := by
    intro hne g hg
    obtain ⟨av, cv, rfl, _, _, _, hs⟩ := hB.parts
    obtain ⟨b', o', rfl, hlt, _⟩ := hs hne
    cases hg; exact hlt
  obtain ⟨av, cv, hvv, _, _, hnil, hss⟩ := hB.parts
  have HX := Lib.hid hx
  have HB := Lib.hid hB
  have HBB := Lib.hid hb
  have HVV := Lib.hid hvv
  clear hx hB hb hnil hss
  subst hvv
  go_enter Try.func70, Try.ntmps70
  go_wp2_with fail
  have hwx : Ext w ((w.alloc (.cells #[.int .i64 0, .int .i64 0, .int .i64 0, .bool false] 36)).alloc (.cells #[.pointer (some ⟨w.heap.size, 0, none⟩), .pointer (some ⟨w.heap.size, 1, none⟩), .pointer (some ⟨w.heap.size, 2, none⟩)] 66)) := ((Ext.refl w).alloc _).alloc _
  have hrow : ((w.alloc (.cells #[.int .i64 0, .int .i64 0, .int .i64 0, .bool false] 36)).alloc (.cells #[.pointer (some ⟨w.heap.size, 0, none⟩), .pointer (some ⟨w.heap.size, 1, none⟩), .pointer (some ⟨w.heap.size, 2, none⟩)] 66)).heap[w.heap.size]? = some (.cells #[.int .i64 0, .int .i64 0, .int .i64 0, .bool false] 36 (0, 0)) := heap_alloc2_old w _ _
  have hptr : ∀ k, k < 3 → ((w.alloc (.cells #[.int .i64 0, .int .i64 0, .int .i64 0, .bool false] 36)).alloc (.cells #[.pointer (some ⟨w.heap.size, 0, none⟩), .pointer (some ⟨w.heap.size, 1, none⟩), .pointer (some ⟨w.heap.size, 2, none⟩)] 66)).cell? ⟨w.heap.size + 1, 0 + k, none⟩ = some (.pointer (some ⟨w.heap.size, k, none⟩)) := by
    intro k hk
    have : k = 0 ∨ k = 1 ∨ k = 2 := by omega
    rcases this with rfl | rfl | rfl <;> exact cell_new1 _ _ _ _ _ rfl
  generalize ((w.alloc (.cells #[.int .i64 0, .int .i64 0, .int .i64 0, .bool false] 36)).alloc (.cells #[.pointer (some ⟨w.heap.size, 0, none⟩), .pointer (some ⟨w.heap.size, 1, none⟩), .pointer (some ⟨w.heap.size, 2, none⟩)] 66)) = w2 at *
  obtain ⟨p, hp⟩ : ∃ p, p = w.heap.size := ⟨_, rfl⟩
  rw [← hp] at hrow hptr ⊢
  have hT : Tgs w2 (fun _ => p) (fun k => k) 3 := fun k hk => ⟨_, _, hrow, by simp; omega⟩
  have hpB : B ≠ [] → ∀ x, (Value.slice av B.length cv).ownBlock = some x → x ∉ [p] := by
    intro hne x hx hm
    have := hvlt hne x hx
    simp at hm; omega
  have HPP := Lib.hid hp
  have HPB := Lib.hid hpB
  clear hp
  by_cases h3 : ∀ j, j < 3 → errK B a j = 0
  · refine (cnumbers _ B a (p + 1) 0 3 3 (fun _ => p) (fun k => k) [p] w2 (HB.out.ext hwx) HBB.out hl (by omega) hptr hT (by simp) (by simp) hpB 3 h3 0 (.inl ⟨rfl, rfl⟩)).mono ?_
    rintro e w3 ⟨rfl, hw3⟩
    rw [if_pos rfl]
    have hch : Chg [p] w2 w3 := by rw [hw3]; exact putAll_chg (m := 3) (by simp) 3 (by omega)
    have hrow3 := put3 (valK B a) hrow 3 (by omega)
    rw [← hw3] at hrow3
    simp only [if_pos (show (0 : Nat) < 3 by omega), if_pos (show (1 : Nat) < 3 by omega), if_pos (show (2 : Nat) < 3 by omega)] at hrow3
    have hx3 : Ext w w3 := Ext.chg hwx hch (by have := HPP.out; simp; omega)
    have hB3 := (HB.out.ext hwx).chgc hch hpB
    have HGB := Lib.hid (gettruth_any _ B (posK B a 3) w3 hB3 HBB.out)
    have hnx : hnext B a = (getB B (posK B a 3)).2.1 := rfl
    have herrv : herr B a = (getB B (posK B a 3)).2.2 := by
      unfold herr
      rw [if_neg (by simpa using h3 0 (by omega)), if_neg (by simpa using h3 1 (by omega)), if_neg (by simpa using h3 2 (by omega))]
    obtain ⟨tb, htb⟩ : ∃ z, (getB B (posK B a 3)).1 = z := ⟨_, rfl⟩
    obtain ⟨tn, htn⟩ : ∃ z, (getB B (posK B a 3)).2.1 = z := ⟨_, rfl⟩
    obtain ⟨te, hte⟩ : ∃ z, (getB B (posK B a 3)).2.2 = z := ⟨_, rfl⟩
    obtain ⟨ps, hps⟩ : ∃ z, posK B a 3 = z := ⟨_, rfl⟩
    obtain ⟨x0, hx0⟩ : ∃ z, valK B a 0 = z := ⟨_, rfl⟩
    obtain ⟨x1, hx1⟩ : ∃ z, valK B a 1 = z := ⟨_, rfl⟩
    obtain ⟨x2, hx2⟩ : ∃ z, valK B a 2 = z := ⟨_, rfl⟩
    rw [htb, htn, hte] at HGB
    rw [htn] at hnx
    rw [hte] at herrv
    rw [hx0, hx1, hx2] at hrow3
    obtain rfl : te = x := herrv.symm.trans HX.out
    have HNX := Lib.hid hnx
    have H0 := Lib.hid (And.intro hx0 (And.intro hx1 hx2))
    have HTB := Lib.hid htb
    have HPS := Lib.hid hps
    rw [hps] at HGB HTB ⊢
    clear hnx herrv htb htn hte hps hx0 hx1 hx2 h3 hptr hT hpB hch hB3 hw3
    have m0 : w3.cell? ⟨p, 0, none⟩ = some (.int .i64 x0) := cell_of_row w3 p 0 _ _ _ hrow3
    have m1 : w3.cell? ⟨p, 1, none⟩ = some (.int .i64 x1) := cell_of_row w3 p 1 _ _ _ hrow3
    have m2 : w3.cell? ⟨p, 2, none⟩ = some (.int .i64 x2) := cell_of_row w3 p 2 _ _ _ hrow3
    have m3 : w3.cell? ⟨p, 3, none⟩ = some (.bool false) := cell_of_row w3 p 3 _ _ _ hrow3
    have fz := frozen_row hrow3
    have HROW3 := Lib.hid hrow3
    clear hrow hrow3
    go_wp2_with fail
    refine HGB.out.mono ?_
    rintro e w4 ⟨rfl, rfl⟩
    go_wp2_with fail
    refine bodyPost_ret (results_row_tmp2 rfl _ _ p _ _ _ _ rfl (fill4h HROW3.out _ _ _ _ _) Try.underlying36 rfl hint_info) rfl ?_
    refine ⟨x0, x1, x2, tb, tn, rfl, fun _ => ⟨H0.out.1.symm, H0.out.2.1.symm, H0.out.2.2.symm, ?_, HNX.out.symm⟩, ?_⟩
    · rw [HPS.out]; exact HTB.out.symm
    · have hc5 : Chg [p] w3 (((((w3.setCell ⟨p, 3, none⟩ (.bool tb)).setCell ⟨p, 0, none⟩ (.int .i64 x0)).setCell ⟨p, 1, none⟩ (.int .i64 x1)).setCell ⟨p, 2, none⟩ (.int .i64 x2)).setCell ⟨p, 3, none⟩ (.bool tb)) := (by repeat' (first | (with_reducible exact Chg.refl _ _) | (with_reducible assumption) | (with_reducible refine Chg.drewN ?_ _) | (with_reducible refine Chg.drew ?_) | (with_reducible refine Chg.alloc ?_ _) | (with_reducible refine Chg.setCell ?_ (.inl (by simp)) _) | (with_reducible refine Chg.trans ?_ (by assumption)) | (with_reducible refine Chg.ext ?_ (by assumption))))
      exact Ext.chg hx3 hc5 (by have := HPP.out; simp; omega)
  · have hxne : x ≠ 0 := by
      intro e
      exact h3 (herr_ok (HX.out.trans e)).1
    obtain ⟨K, hK3, hall, hKx⟩ : ∃ K, K < 3 ∧ (∀ j, j < K → errK B a j = 0) ∧ errK B a K = x := by
      rcases herr_first HX.out with h | h
      · exact h
      · exact absurd h.1 h3
    refine (cnumbers _ B a (p + 1) 0 3 3 (fun _ => p) (fun k => k) [p] w2 (HB.out.ext hwx) HBB.out hl (by omega) hptr hT (by simp) (by simp) hpB K hall x (.inr ⟨hK3, hKx, hxne⟩)).mono ?_
    rintro e w3 ⟨rfl, hw3⟩
    rw [if_neg hxne]
    have hch : Chg [p] w2 w3 := by rw [hw3]; exact putAll_chg (m := 3) (by simp) K (by omega)
    have hrow3 := put3 (valK B a) hrow K (by omega)
    rw [← hw3] at hrow3
    have hx3 : Ext w w3 := Ext.chg hwx hch (by have := HPP.out; simp; omega)
    obtain ⟨x0, hx0⟩ : ∃ z, (if 0 < K then valK B a 0 else 0) = z := ⟨_, rfl⟩
    obtain ⟨x1, hx1⟩ : ∃ z, (if 1 < K then valK B a 1 else 0) = z := ⟨_, rfl⟩
    obtain ⟨x2, hx2⟩ : ∃ z, (if 2 < K then valK B a 2 else 0) = z := ⟨_, rfl⟩
    rw [hx0, hx1, hx2] at hrow3
    have hxb : (x == 0) = false := by rw [beq_eq_false_iff_ne]; exact hxne
    clear hptr hT hpB hch hw3 h3 hx0 hx1 hx2 hall hKx
    have m0 : w3.cell? ⟨p, 0, none⟩ = some (.int .i64 x0) := cell_of_row w3 p 0 _ _ _ hrow3
    have m1 : w3.cell? ⟨p, 1, none⟩ = some (.int .i64 x1) := cell_of_row w3 p 1 _ _ _ hrow3
    have m2 : w3.cell? ⟨p, 2, none⟩ = some (.int .i64 x2) := cell_of_row w3 p 2 _ _ _ hrow3
    have m3 : w3.cell? ⟨p, 3, none⟩ = some (.bool false) := cell_of_row w3 p 3 _ _ _ hrow3
    have fz := frozen_row hrow3
    have HROW3 := Lib.hid hrow3
    clear hrow hrow3
    go_wp2_with fail
    refine bodyPost_ret (results_row_tmp2 rfl _ _ p _ _ _ _ rfl (fill4 HROW3.out _ _ _ _) Try.underlying36 rfl hint_info) rfl ?_
    refine ⟨x0, x1, x2, false, 0, rfl, fun h => absurd h hxne, ?_⟩
    have hc5 : Chg [p] w3 ((((w3.setCell ⟨p, 0, none⟩ (.int .i64 x0)).setCell ⟨p, 1, none⟩ (.int .i64 x1)).setCell ⟨p, 2, none⟩ (.int .i64 x2)).setCell ⟨p, 3, none⟩ (.bool false)) := (by repeat' (first | (with_reducible exact Chg.refl _ _) | (with_reducible assumption) | (with_reducible refine Chg.drewN ?_ _) | (with_reducible refine Chg.drew ?_) | (with_reducible refine Chg.alloc ?_ _) | (with_reducible refine Chg.setCell ?_ (.inl (by simp)) _) | (with_reducible refine Chg.trans ?_ (by assumption)) | (with_reducible refine Chg.ext ?_ (by assumption))))
    exact Ext.chg hx3 hc5 (by have := HPP.out; simp; omega)
end
end Go.Proofs.Ytmkobmkaalfecaa
