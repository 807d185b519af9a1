/-
  gradinelaw06.StoreOthers answers true. No condition.
-/
import Derived.Test.YtoadjmeopamgbaaStLong
import Derived.Test.YtoadjmeopamgbaaStAny
namespace Go.Proofs.Ytoadjmeopamgbaa
open Go.RowKit

/-- what was read: texts in the block q, versions in the block r, up to j -/
structure Was (w : World) (q r j : Nat) (T : Nat → List Int) (U : Nat → Int) (S : List Nat) : Prop where
  a : ∃ cs t, w.heap[q]? = some (.cells cs t (0, 0)) ∧ cs.size = 32 ∧ ∀ i, i < j → ∃ v, cs[i]? = some v ∧ RdI .u8 w v (T i) ∧ ∀ x, v.ownBlock = some x → x ∉ q :: r :: S
  b : ∃ cs t, w.heap[r]? = some (.cells cs t (0, 0)) ∧ cs.size = 32 ∧ ∀ i, i < j → cs[i]? = some (.int .i64 (U i))
  ne : q ≠ r
  qS : q ∉ S
  rS : r ∉ S
section
variable {w w' : World} {q r j : Nat} {T : Nat → List Int} {U : Nat → Int} {S : List Nat}
theorem Was.ltq (h : Was w q r j T U S) : q < w.heap.size := by obtain ⟨cs, t, h1, _⟩ := h.a; exact (Array.getElem?_eq_some_iff.1 h1).1
theorem Was.ltr (h : Was w q r j T U S) : r < w.heap.size := by obtain ⟨cs, t, h1, _⟩ := h.b; exact (Array.getElem?_eq_some_iff.1 h1).1
theorem Was.chg (h : Was w q r j T U S) (hx : Chg S w w') : Was w' q r j T U S := by
  have lq := h.ltq
  have lr := h.ltr
  obtain ⟨⟨cs, t, h1, h2, h3⟩, ⟨cs2, t2, g1, g2, g3⟩, ne, qS, rS⟩ := h
  refine ⟨⟨cs, t, (hx.block q lq qS).trans h1, h2, fun i hi => ?_⟩, ⟨cs2, t2, (hx.block r lr rS).trans g1, g2, g3⟩, ne, qS, rS⟩
  obtain ⟨v, hv, hr, ho⟩ := h3 i hi
  exact ⟨v, hv, hr.chgc hx (fun _ x hx' => fun hm => ho x hx' (by simp [hm])), ho⟩
theorem Was.ext (h : Was w q r j T U S) (hx : Ext w w') : Was w' q r j T U S := by
  have lq := h.ltq
  have lr := h.ltr
  obtain ⟨⟨cs, t, h1, h2, h3⟩, ⟨cs2, t2, g1, g2, g3⟩, ne, qS, rS⟩ := h
  refine ⟨⟨cs, t, (Below.block hx q lq).trans h1, h2, fun i hi => ?_⟩, ⟨cs2, t2, (Below.block hx r lr).trans g1, g2, g3⟩, ne, qS, rS⟩
  obtain ⟨v, hv, hr, ho⟩ := h3 i hi
  exact ⟨v, hv, hr.ext hx, ho⟩
theorem Was.cells (h : Was w q r j T U S) {i : Nat} (hi : i < 32) : (∃ u, w.cell? ⟨q, i, none⟩ = some u) ∧ w.frozen? ⟨q, i, none⟩ = false ∧ (∃ u, w.cell? ⟨r, i, none⟩ = some u) ∧ w.frozen? ⟨r, i, none⟩ = false := by
  obtain ⟨⟨cs, t, h1, h2, h3⟩, ⟨cs2, t2, g1, g2, g3⟩, ne, qS, rS⟩ := h
  exact ⟨⟨cs[i]'(by omega), by rw [cell_of_row w q i _ _ _ h1]; simp [h2, hi]⟩, frozen_row h1 i, ⟨cs2[i]'(by omega), by rw [cell_of_row w r i _ _ _ g1]; simp [g2, hi]⟩, frozen_row g1 i⟩
theorem Was.at (h : Was w q r j T U S) {i : Nat} (hi : i < j) : (∃ v, w.cell? ⟨q, i, none⟩ = some v ∧ RdI .u8 w v (T i) ∧ ∀ x, v.ownBlock = some x → x ∉ q :: r :: S) ∧ w.cell? ⟨r, i, none⟩ = some (.int .i64 (U i)) := by
  obtain ⟨⟨cs, t, h1, h2, h3⟩, ⟨cs2, t2, g1, g2, g3⟩, ne, qS, rS⟩ := h
  obtain ⟨v, hv, hr⟩ := h3 i hi
  exact ⟨⟨v, by rw [cell_of_row w q i _ _ _ h1]; exact hv, hr⟩, by rw [cell_of_row w r i _ _ _ g1]; exact g3 i hi⟩
theorem Was.step (h : Was w q r j T U S) (hj : j < 32) {v : Value} (hv : RdI .u8 w v (T j)) (ho : ∀ x, v.ownBlock = some x → x ∉ q :: r :: S) : Was ((w.setCell ⟨q, j, none⟩ v).setCell ⟨r, j, none⟩ (.int .i64 (U j))) q r (j + 1) T U S := by
  have hc : Chg [q, r] w ((w.setCell ⟨q, j, none⟩ v).setCell ⟨r, j, none⟩ (.int .i64 (U j))) := ((Chg.refl _ _).setCell (.inl (by simp)) _).setCell (.inl (by simp)) _
  obtain ⟨⟨cs, t, h1, h2, h3⟩, ⟨cs2, t2, g1, g2, g3⟩, ne, qS, rS⟩ := h
  have hin : ∀ x, x ∉ q :: r :: S → x ∉ [q, r] := fun x hx hm => hx (by simp at hm ⊢; rcases hm with rfl | rfl <;> simp)
  refine ⟨⟨_, t, (Below.heap_setCell _ _ _ _ ne).trans (heap_set h1 v), by simpa using h2, fun i hi => ?_⟩, ⟨_, t2, heap_set ((Below.heap_setCell _ _ _ _ (fun e => ne e.symm)).trans g1) _, by simpa using g2, fun i hi => ?_⟩, ne, qS, rS⟩
  · by_cases e : i = j
    · subst e
      exact ⟨v, by rw [Array.getElem?_setIfInBounds, if_pos rfl, if_pos (by omega)], hv.chgc hc (fun _ x hx => hin x (ho x hx)), ho⟩
    · obtain ⟨v', hv', hr', ho'⟩ := h3 i (by omega)
      exact ⟨v', by rw [Array.getElem?_setIfInBounds, if_neg (fun h => e h.symm)]; exact hv', hr'.chgc hc (fun _ x hx => hin x (ho' x hx)), ho'⟩
  · by_cases e : i = j
    · subst e
      rw [Array.getElem?_setIfInBounds, if_pos rfl, if_pos (by omega)]
    · rw [Array.getElem?_setIfInBounds, if_neg (fun h => e h.symm)]
      exact g3 i (by omega)
end
theorem was_new (w : World) (t t2 : TypeId) (T : Nat → List Int) (U : Nat → Int) (S : List Nat) (hS : ∀ s ∈ S, s < w.heap.size) :
    Was ((w.alloc (.cells #[.slice none 0 0, .slice none 0 0, .slice none 0 0, .slice none 0 0, .slice none 0 0, .slice none 0 0, .slice none 0 0, .slice none 0 0, .slice none 0 0, .slice none 0 0, .slice none 0 0, .slice none 0 0, .slice none 0 0, .slice none 0 0, .slice none 0 0, .slice none 0 0, .slice none 0 0, .slice none 0 0, .slice none 0 0, .slice none 0 0, .slice none 0 0, .slice none 0 0, .slice none 0 0, .slice none 0 0, .slice none 0 0, .slice none 0 0, .slice none 0 0, .slice none 0 0, .slice none 0 0, .slice none 0 0, .slice none 0 0, .slice none 0 0] t)).alloc (.cells #[.int .i64 0, .int .i64 0, .int .i64 0, .int .i64 0, .int .i64 0, .int .i64 0, .int .i64 0, .int .i64 0, .int .i64 0, .int .i64 0, .int .i64 0, .int .i64 0, .int .i64 0, .int .i64 0, .int .i64 0, .int .i64 0, .int .i64 0, .int .i64 0, .int .i64 0, .int .i64 0, .int .i64 0, .int .i64 0, .int .i64 0, .int .i64 0, .int .i64 0, .int .i64 0, .int .i64 0, .int .i64 0, .int .i64 0, .int .i64 0, .int .i64 0, .int .i64 0] t2)) w.heap.size (w.heap.size + 1) 0 T U S := by
  refine ⟨⟨_, t, (Below.block ((Ext.refl _).alloc _) w.heap.size (by simp)).trans (heap_alloc_new w _), by simp, fun i hi => absurd hi (by omega)⟩, ⟨_, t2, by simpa using heap_alloc_new (w.alloc (.cells #[.slice none 0 0, .slice none 0 0, .slice none 0 0, .slice none 0 0, .slice none 0 0, .slice none 0 0, .slice none 0 0, .slice none 0 0, .slice none 0 0, .slice none 0 0, .slice none 0 0, .slice none 0 0, .slice none 0 0, .slice none 0 0, .slice none 0 0, .slice none 0 0, .slice none 0 0, .slice none 0 0, .slice none 0 0, .slice none 0 0, .slice none 0 0, .slice none 0 0, .slice none 0 0, .slice none 0 0, .slice none 0 0, .slice none 0 0, .slice none 0 0, .slice none 0 0, .slice none 0 0, .slice none 0 0, .slice none 0 0, .slice none 0 0] t)) (.cells #[.int .i64 0, .int .i64 0, .int .i64 0, .int .i64 0, .int .i64 0, .int .i64 0, .int .i64 0, .int .i64 0, .int .i64 0, .int .i64 0, .int .i64 0, .int .i64 0, .int .i64 0, .int .i64 0, .int .i64 0, .int .i64 0, .int .i64 0, .int .i64 0, .int .i64 0, .int .i64 0, .int .i64 0, .int .i64 0, .int .i64 0, .int .i64 0, .int .i64 0, .int .i64 0, .int .i64 0, .int .i64 0, .int .i64 0, .int .i64 0, .int .i64 0, .int .i64 0] t2), by simp, fun i hi => absurd hi (by omega)⟩, by omega, fun h => ?_, fun h => ?_⟩
  · have := hS _ h; omega
  · have := hS _ h; omega

theorem sBlk_len (n : Nat) (B : List Int) : (sBlk n B).2.length = n := by
  unfold sBlk
  split
  · rename_i h
    have h1 := h.1
    unfold rdText at h1 ⊢
    split at h1
    · rename_i h2
      rw [if_pos h2]
      have h3 := (of_decide_eq_true h1).2.1
      simp only
      exact Int.ofNat.inj h3
    · cases h1
  · simp
theorem own_at {k : IntKind} {e : TypeId} {base : Nat} {w : World} {v : Value} {l : List Int} (h : OwnI k e base w v l) (hl : 0 < l.length) : ∃ g c, v = .slice (some ⟨g, 0, none⟩) l.length c ∧ base ≤ g := by
  obtain ⟨_, h2⟩ := h
  rcases h2 with ⟨rfl, h2⟩ | ⟨g, cap, cur, rfl, hb, _⟩
  · omega
  · exact ⟨g, _, rfl, hb⟩
theorem own_free {k : IntKind} {e : TypeId} {base : Nat} {w : World} {g L c : Nat} {l : List Int} (h : OwnI k e base w (.slice (some ⟨g, 0, none⟩) L c) l) (o : Nat) : w.frozen? ⟨g, o, none⟩ = false := by
  obtain ⟨_, h2⟩ := h
  rcases h2 with ⟨h2, _⟩ | ⟨g', cap, cur, he, hb, hg, _⟩
  · cases h2
  · simp only [Value.slice.injEq, Option.some.injEq, Addr.mk.injEq] at he
    obtain ⟨⟨rfl, _⟩, _, _⟩ := he
    exact frozen_row hg o
theorem own_set {k : IntKind} {e : TypeId} {base : Nat} {w : World} {g L c : Nat} {l : List Int} (h : OwnI k e base w (.slice (some ⟨g, 0, none⟩) L c) l) {i : Nat} (_hi : i < l.length) (x : Int) : OwnI k e base (w.setCell ⟨g, i, none⟩ (.int k x)) (.slice (some ⟨g, 0, none⟩) L c) (l.set i x) := by
  obtain ⟨h1, h2⟩ := h
  rcases h2 with ⟨h2, _⟩ | ⟨g', cap, cur, he, hb, hg, hn, hm, hs, ht⟩
  · cases h2
  · simp only [Value.slice.injEq, Option.some.injEq, Addr.mk.injEq] at he
    obtain ⟨⟨rfl, _⟩, rfl, rfl⟩ := he
    refine ⟨by simp, .inr ⟨g, c, cur.setIfInBounds i (.int k x), by simp, hb, heap_set hg _, by simpa using hn, hm, by simpa using hs, ?_⟩⟩
    have e1 : (cur.setIfInBounds i (.int k x)).toList = cur.toList.set i (.int k x) := by simp
    have e2 : cellsOf k (l.set i x) = (cellsOf k l).set i (.int k x) := by simp [cellsOf]
    rw [e1, List.length_set, e2, ← ht, List.take_set]

set_option maxRecDepth 100000 in
set_option maxHeartbeats 16000000 in
theorem walk_StoreOthers (v0 v1 v2 : Value) (w : World) (h0 : IsAgg4 v0) (h1 : IsNest Try.prog 40 w v1) (h2 : IsFlat Try.prog 38 w v2) :
    Calls Try.prog 6 #[v0, v1, v2] w fun e w' => e = .returned (.bool true) ∧ Ext w w' := by
  obtain ⟨x0, x1, x2, x3, rfl, _⟩ := h0
  obtain ⟨n, V, A, hr, hA⟩ := acts_of h1
  obtain ⟨⟨a2, s2, b2, o2, bk2, D2⟩, dv2, rfl, hD2, hok2⟩ := write_of h2
  have HD2 := Lib.hid hD2
  have hD2b := hok2.D
  simp only at hD2b
  have HD2B := Lib.hid hD2b
  obtain ⟨ad2, cc2, rfl, hlc2, hcm2, _, hDs2⟩ := hD2.parts
  have HDS2 := Lib.hid hDs2
  simp only at hlc2
  have hn263 : (D2.length : Int) ≤ 9223372036854775807 := by unfold maxLen at hcm2; omega
  obtain ⟨n2, hn2⟩ : ∃ z, z = D2.length := ⟨_, rfl⟩
  simp only at HD2
  rw [← hn2] at HD2 hn263
  have HNN2 := Lib.hid hn2
  have HRV := Lib.hid hr
  have HA := Lib.hid hA
  have HLO := Lib.hid (fun w' (hx : Ext w w') => llong v1 n V A w' (hr.ext hx) (fun i hi => by
    obtain ⟨g0, g1, g2, g3, g4, g5, g6, g7, g8⟩ := hA i hi
    exact ⟨g0, g1, g2, g3, g4, g5, g6, g7.ext hx, g8⟩))
  obtain ⟨av, cv, rfl, hnc, hcm, _, hs⟩ := hr
  have HS := Lib.hid hs
  clear hA hs hcm hnc h1 hD2 hok2 hD2b hlc2 hcm2 hDs2 h2
  show Calls Try.prog 6 #[.agg #[.int .i64 x0, .int .i64 x1, .int .i64 x2, .int .i64 x3], .slice av n cv, .agg #[.int .i64 a2, .int .i64 s2, .int .i64 b2, .int .i64 o2, .int .i64 bk2, .slice ad2 D2.length cc2]] w _
  rw [← hn2]
  clear hn2
  go_enter Try.func6, Try.ntmps6
  go_upto_region 1 with fail
  have y0 := cell_new w #[.int .i64 x0, .int .i64 x1, .int .i64 x2, .int .i64 x3] 23 (0, 0) (j := 0) rfl
  have y1 := cell_new w #[.int .i64 x0, .int .i64 x1, .int .i64 x2, .int .i64 x3] 23 (0, 0) (j := 1) rfl
  have y2 := cell_new w #[.int .i64 x0, .int .i64 x1, .int .i64 x2, .int .i64 x3] 23 (0, 0) (j := 2) rfl
  have y3 := cell_new w #[.int .i64 x0, .int .i64 x1, .int .i64 x2, .int .i64 x3] 23 (0, 0) (j := 3) rfl
  have hszA : (w.alloc (.cells #[.int .i64 x0, .int .i64 x1, .int .i64 x2, .int .i64 x3] 23)).heap.size = w.heap.size + 1 := by simp
  have hxA : Ext w (w.alloc (.cells #[.int .i64 x0, .int .i64 x1, .int .i64 x2, .int .i64 x3] 23)) := (Ext.refl w).alloc _
  generalize (w.alloc (.cells #[.int .i64 x0, .int .i64 x1, .int .i64 x2, .int .i64 x3] 23)) = w0 at *
  obtain ⟨pb, hpb⟩ : ∃ pb, pb = w.heap.size := ⟨_, rfl⟩
  rw [← hpb] at y0 y1 y2 y3 hszA ⊢
  have hxB : Ext w0 (w0.alloc (.cells #[.int .i64 a2, .int .i64 s2, .int .i64 b2, .int .i64 o2, .int .i64 bk2, .slice ad2 n2 cc2] 38)) := (Ext.refl w0).alloc _
  have t0 := cell_new w0 #[.int .i64 a2, .int .i64 s2, .int .i64 b2, .int .i64 o2, .int .i64 bk2, .slice ad2 n2 cc2] 38 (0, 0) (j := 0) rfl
  have t1 := cell_new w0 #[.int .i64 a2, .int .i64 s2, .int .i64 b2, .int .i64 o2, .int .i64 bk2, .slice ad2 n2 cc2] 38 (0, 0) (j := 1) rfl
  have t2 := cell_new w0 #[.int .i64 a2, .int .i64 s2, .int .i64 b2, .int .i64 o2, .int .i64 bk2, .slice ad2 n2 cc2] 38 (0, 0) (j := 2) rfl
  have t3 := cell_new w0 #[.int .i64 a2, .int .i64 s2, .int .i64 b2, .int .i64 o2, .int .i64 bk2, .slice ad2 n2 cc2] 38 (0, 0) (j := 3) rfl
  have t4 := cell_new w0 #[.int .i64 a2, .int .i64 s2, .int .i64 b2, .int .i64 o2, .int .i64 bk2, .slice ad2 n2 cc2] 38 (0, 0) (j := 4) rfl
  have t5 := cell_new w0 #[.int .i64 a2, .int .i64 s2, .int .i64 b2, .int .i64 o2, .int .i64 bk2, .slice ad2 n2 cc2] 38 (0, 0) (j := 5) rfl
  rw [hszA] at t0 t1 t2 t3 t4 t5
  have y0 := hxB.cellv y0
  have y1 := hxB.cellv y1
  have y2 := hxB.cellv y2
  have y3 := hxB.cellv y3
  have hxA := hxA.trans hxB
  clear hxB hszA
  generalize (w0.alloc (.cells #[.int .i64 a2, .int .i64 s2, .int .i64 b2, .int .i64 o2, .int .i64 bk2, .slice ad2 n2 cc2] 38)) = w1 at *
  clear hpb
  go_wp2_with fail
  refine (wakes06 _).mono ?_
  rintro e w2 ⟨rfl, hx2⟩
  have y0 := hx2.cellv y0
  have y1 := hx2.cellv y1
  have y2 := hx2.cellv y2
  have y3 := hx2.cellv y3
  have t0 := hx2.cellv t0
  have t1 := hx2.cellv t1
  have t2 := hx2.cellv t2
  have t3 := hx2.cellv t3
  have t4 := hx2.cellv t4
  have t5 := hx2.cellv t5
  have hxA := hxA.trans hx2
  clear hx2
  go_wp2_with fail
  refine (HLO.out _ hxA).mono ?_
  rintro e w3 ⟨lg, rfl, hlg, hx3⟩
  have y0 := hx3.cellv y0
  have y1 := hx3.cellv y1
  have y2 := hx3.cellv y2
  have y3 := hx3.cellv y3
  have t0 := hx3.cellv t0
  have t1 := hx3.cellv t1
  have t2 := hx3.cellv t2
  have t3 := hx3.cellv t3
  have t4 := hx3.cellv t4
  have t5 := hx3.cellv t5
  have hxA := hxA.trans hx3
  clear hx3 HLO
  cases lg with
  | true =>
    go_wp2_with fail
    go_ret
    exact ⟨rfl, hxA.trans (by repeat' (first | (with_reducible exact Ext.refl _) | (with_reducible assumption) | (with_reducible refine Ext.alloc ?_ _) | (with_reducible refine Ext.drewN ?_ _) | (with_reducible refine Ext.drew ?_) | (with_reducible refine Ext.trans ?_ (by assumption))))⟩
  | false =>
  obtain ⟨hn60, hDL⟩ := hlg rfl
  have HDL := Lib.hid hDL
  clear hlg hDL
  by_cases hok : ShOk x0 x1 x2 x3
  case neg =>
    have HRI := Lib.hid (fun w' => lright x0 x1 x2 x3 false (decide_eq_false hok) w')
    clear hok
    go_wp2_with fail
    refine (HRI.out _).mono ?_
    rintro e w4 ⟨rfl, hx4⟩
    go_wp2_with fail
    go_ret
    exact ⟨rfl, hxA.trans (hx4.trans (by repeat' (first | (with_reducible exact Ext.refl _) | (with_reducible assumption) | (with_reducible refine Ext.alloc ?_ _) | (with_reducible refine Ext.drewN ?_ _) | (with_reducible refine Ext.drew ?_) | (with_reducible refine Ext.trans ?_ (by assumption)))))⟩
  have HRI := Lib.hid (fun w' => lright x0 x1 x2 x3 true (decide_eq_true hok) w')
  obtain ⟨h, ok, rfl, rfl, rfl, rfl⟩ := shape_of hok
  have HOK := Lib.hid ok
  clear hok ok
  obtain ⟨z0, hz0⟩ : ∃ x : Int, x = (h.b : Nat) := ⟨_, rfl⟩
  obtain ⟨z1, hz1⟩ : ∃ x : Int, x = (h.s : Nat) := ⟨_, rfl⟩
  obtain ⟨z2, hz2⟩ : ∃ x : Int, x = (h.c : Nat) := ⟨_, rfl⟩
  obtain ⟨z3, hz3⟩ : ∃ x : Int, x = (h.k : Nat) := ⟨_, rfl⟩
  have HOP : Hid (∀ w' p bl, DiskAt w' [p, bl] p bl exD → Calls Try.prog 14 #[.pointer (some ⟨p, 0, none⟩), .agg #[.int .i64 z0, .int .i64 z1, .int .i64 z2, .int .i64 z3]] w' fun e w'' => ∃ ps, e = .returned (.tuple #[.pointer (some ⟨ps, 0, none⟩), .int .i64 0]) ∧ StAt w'' [p, bl] ps p bl h exD ∧ w'.heap.size ≤ ps ∧ Ext w' w'') := Lib.hid (fun w' p bl hd => by
    rw [hz0, hz1, hz2, hz3]
    have hF : ∀ f ∈ [p, bl], f < w'.heap.size := by
      have h1 := hd.plt
      obtain ⟨cs, t, h2, _⟩ := hd.row
      have h3 := (Array.getElem?_eq_some_iff.1 (h2 (by decide))).1
      simp; omega
    exact sopen w' [p, bl] p bl h exD hd (rep_byt 64) hF HOK.out (by have := HOK.out.many; show h.many ≤ 64; omega) (by show (jT [] h.s).2 = false; exact jT_nil h.s))
  rw [← hz0, ← hz1, ← hz2, ← hz3] at HRI
  rw [← hz0] at y0 ⊢
  rw [← hz1] at y1 ⊢
  rw [← hz2] at y2 ⊢
  rw [← hz3] at y3 ⊢
  have HZ0 := Lib.hid hz0
  clear hz0 hz1 hz2 hz3
  go_wp2_with fail
  refine (HRI.out _).mono ?_
  rintro e w4 ⟨rfl, hx4⟩
  have y0 := hx4.cellv y0
  have y1 := hx4.cellv y1
  have y2 := hx4.cellv y2
  have y3 := hx4.cellv y3
  have t0 := hx4.cellv t0
  have t1 := hx4.cellv t1
  have t2 := hx4.cellv t2
  have t3 := hx4.cellv t3
  have t4 := hx4.cellv t4
  have t5 := hx4.cellv t5
  have hxA := hxA.trans hx4
  clear hx4 HRI
  by_cases h100 : 100 < n2
  · have hi1 : (100 : Int) < (n2 : Int) := by omega
    go_wp2_with fail
    go_ret
    exact ⟨rfl, hxA.trans (by repeat' (first | (with_reducible exact Ext.refl _) | (with_reducible assumption) | (with_reducible refine Ext.alloc ?_ _) | (with_reducible refine Ext.drewN ?_ _) | (with_reducible refine Ext.drew ?_) | (with_reducible refine Ext.trans ?_ (by assumption))))⟩
  have hi1 : ¬ (100 : Int) < (n2 : Int) := by omega
  go_wp2_with fail
  go_region_held3 (fun w' => w'.cell? ⟨pb, 0, none⟩ = some (.int .i64 z0) ∧ w'.cell? ⟨pb, 1, none⟩ = some (.int .i64 z1) ∧ w'.cell? ⟨pb, 2, none⟩ = some (.int .i64 z2) ∧ w'.cell? ⟨pb, 3, none⟩ = some (.int .i64 z3) ∧ Ext w4 w') (exact ⟨Ext.cellv (w := w4) (by repeat' (first | (with_reducible exact Ext.refl _) | (with_reducible assumption) | (with_reducible refine Ext.alloc ?_ _) | (with_reducible refine Ext.drewN ?_ _) | (with_reducible refine Ext.drew ?_) | (with_reducible refine Ext.trans ?_ (by assumption)))) y0, Ext.cellv (w := w4) (by repeat' (first | (with_reducible exact Ext.refl _) | (with_reducible assumption) | (with_reducible refine Ext.alloc ?_ _) | (with_reducible refine Ext.drewN ?_ _) | (with_reducible refine Ext.drew ?_) | (with_reducible refine Ext.trans ?_ (by assumption)))) y1, Ext.cellv (w := w4) (by repeat' (first | (with_reducible exact Ext.refl _) | (with_reducible assumption) | (with_reducible refine Ext.alloc ?_ _) | (with_reducible refine Ext.drewN ?_ _) | (with_reducible refine Ext.drew ?_) | (with_reducible refine Ext.trans ?_ (by assumption)))) y2, Ext.cellv (w := w4) (by repeat' (first | (with_reducible exact Ext.refl _) | (with_reducible assumption) | (with_reducible refine Ext.alloc ?_ _) | (with_reducible refine Ext.drewN ?_ _) | (with_reducible refine Ext.drew ?_) | (with_reducible refine Ext.trans ?_ (by assumption)))) y3, (by repeat' (first | (with_reducible exact Ext.refl _) | (with_reducible assumption) | (with_reducible refine Ext.alloc ?_ _) | (with_reducible refine Ext.drewN ?_ _) | (with_reducible refine Ext.drew ?_) | (with_reducible refine Ext.trans ?_ (by assumption))))⟩)
    (first
      | (go_at_call 12; refine Calls.mono (dnew_any 64 _ (by omega) (by omega)) ?_; rintro e w5 ⟨p, bl, rfl, hd5, hp, hbl, hp1, hb1, hx5⟩)
      | (go_at_call 14; refine Calls.mono (HOP.out _ p bl ((hd5 [p, bl] (by simp) (by simp)).ext (by (repeat' (first | (with_reducible exact Ext.refl _) | (with_reducible assumption) | (with_reducible refine Ext.alloc ?_ _) | (with_reducible refine Ext.drewN ?_ _) | (with_reducible refine Ext.drew ?_) | (with_reducible refine Ext.trans ?_ (by assumption)))); done))) ?_; rintro e w6 ⟨ps, rfl, hst, hps, hx6⟩))
  have h46 : Ext w4 w6 := (by repeat' (first | (with_reducible exact Ext.refl _) | (with_reducible assumption) | (with_reducible refine Ext.alloc ?_ _) | (with_reducible refine Ext.drewN ?_ _) | (with_reducible refine Ext.drew ?_) | (with_reducible refine Ext.trans ?_ (by assumption))))
  have hX6 : Ext w w6 := hxA.trans h46
  have HSP : Hid (∀ x ∈ [p, bl], w.heap.size ≤ x) := Lib.hid (by
    have h1 : w.heap.size ≤ w4.drew.heap.size := by simpa using hxA.size
    simp; omega)
  have HST6 := Lib.hid hst
  have HPB : Hid (pb ∉ [p, bl] ∧ pb + 1 ∉ [p, bl]) := Lib.hid (by have h1 := cell_lt y0; have h2 := cell_lt t0; simp at hp hbl; simp; omega)
  have y0 := h46.cellv y0
  have t0 := h46.cellv t0
  have t1 := h46.cellv t1
  have t2 := h46.cellv t2
  have t3 := h46.cellv t3
  have t4 := h46.cellv t4
  have t5 := h46.cellv t5
  have HF6 : Hid (∀ f ∈ [p, bl], f < w6.heap.size) := Lib.hid (by have := hx6.size; simp; omega)
  clear h46 hst hps hp hbl hp1 hb1 hd5 hx5 hx6 hxA y1 y2 y3 HOP
  go_wp2_with fail
  go_loopw [49] (fun ci wr => ∃ (i : Nat) (d : Dk), i ≤ n ∧ ci = .int .i64 i ∧ Hid (Fresh d) ∧ Hid (StAt wr [p, bl] ps p bl h d) ∧ Hid (∀ f ∈ [p, bl], f < wr.heap.size) ∧ Chg [p, bl] w6 wr ∧ Ext w wr) (fun ci _ => n - (intOf ci).toNat)
  case atStart => exact ⟨0, exD, Nat.zero_le _, rfl, Lib.hid ⟨rfl, rfl⟩, HST6, HF6, Chg.refl _ _, hX6⟩
  case round =>
    clear HST6 HF6 hX6
    obtain ⟨i, d, hi, rfl, HFR, HST, HF, hc6, hx⟩ := hrel
    by_cases hlt : i < n
    case neg =>
      --[[N
      obtain rfl : i = n := by omega
      have y0 := chg_cellc hc6 y0 HPB.out.1
      have t0 := chg_cellc hc6 t0 HPB.out.2
      have t1 := chg_cellc hc6 t1 HPB.out.2
      have t2 := chg_cellc hc6 t2 HPB.out.2
      have t3 := chg_cellc hc6 t3 HPB.out.2
      have t4 := chg_cellc hc6 t4 HPB.out.2
      have t5 := chg_cellc hc6 t5 HPB.out.2
      clear hc6
      obtain ⟨wl, rfl⟩ : ∃ wl : World, wl = wr := ⟨_, rfl⟩
      go_upto_region 15 with fail
      have hwas := was_new wl 58 59 (fun j => (sBlk h.s (d.rows.getD (1 + j) [])).2) (fun j => (sBlk h.s (d.rows.getD (1 + j) [])).1) [p, bl] HF.out
      have hxq : Ext wl ((wl.alloc (.cells #[.slice none 0 0, .slice none 0 0, .slice none 0 0, .slice none 0 0, .slice none 0 0, .slice none 0 0, .slice none 0 0, .slice none 0 0, .slice none 0 0, .slice none 0 0, .slice none 0 0, .slice none 0 0, .slice none 0 0, .slice none 0 0, .slice none 0 0, .slice none 0 0, .slice none 0 0, .slice none 0 0, .slice none 0 0, .slice none 0 0, .slice none 0 0, .slice none 0 0, .slice none 0 0, .slice none 0 0, .slice none 0 0, .slice none 0 0, .slice none 0 0, .slice none 0 0, .slice none 0 0, .slice none 0 0, .slice none 0 0, .slice none 0 0] 58)).alloc (.cells #[.int .i64 0, .int .i64 0, .int .i64 0, .int .i64 0, .int .i64 0, .int .i64 0, .int .i64 0, .int .i64 0, .int .i64 0, .int .i64 0, .int .i64 0, .int .i64 0, .int .i64 0, .int .i64 0, .int .i64 0, .int .i64 0, .int .i64 0, .int .i64 0, .int .i64 0, .int .i64 0, .int .i64 0, .int .i64 0, .int .i64 0, .int .i64 0, .int .i64 0, .int .i64 0, .int .i64 0, .int .i64 0, .int .i64 0, .int .i64 0, .int .i64 0, .int .i64 0] 59)) := ((Ext.refl wl).alloc _).alloc _
      generalize ((wl.alloc (.cells #[.slice none 0 0, .slice none 0 0, .slice none 0 0, .slice none 0 0, .slice none 0 0, .slice none 0 0, .slice none 0 0, .slice none 0 0, .slice none 0 0, .slice none 0 0, .slice none 0 0, .slice none 0 0, .slice none 0 0, .slice none 0 0, .slice none 0 0, .slice none 0 0, .slice none 0 0, .slice none 0 0, .slice none 0 0, .slice none 0 0, .slice none 0 0, .slice none 0 0, .slice none 0 0, .slice none 0 0, .slice none 0 0, .slice none 0 0, .slice none 0 0, .slice none 0 0, .slice none 0 0, .slice none 0 0, .slice none 0 0, .slice none 0 0] 58)).alloc (.cells #[.int .i64 0, .int .i64 0, .int .i64 0, .int .i64 0, .int .i64 0, .int .i64 0, .int .i64 0, .int .i64 0, .int .i64 0, .int .i64 0, .int .i64 0, .int .i64 0, .int .i64 0, .int .i64 0, .int .i64 0, .int .i64 0, .int .i64 0, .int .i64 0, .int .i64 0, .int .i64 0, .int .i64 0, .int .i64 0, .int .i64 0, .int .i64 0, .int .i64 0, .int .i64 0, .int .i64 0, .int .i64 0, .int .i64 0, .int .i64 0, .int .i64 0, .int .i64 0] 59)) = wm at *
      obtain ⟨q, hq⟩ : ∃ q, q = wl.heap.size := ⟨_, rfl⟩
      rw [← hq] at hwas ⊢
      have hXm := hx.trans hxq
      have HPQ : Hid (pb + 1 < q) := Lib.hid (by have := cell_lt t0; omega)
      have HQ : Hid (∀ f ∈ [p, bl], f < q) := Lib.hid (by rw [hq]; exact HF.out)
      have HQL : Hid (wl.heap.size = q) := Lib.hid hq.symm
      have HSM := Lib.hid (HST.out.ext hxq)
      have y0 := hxq.cellv y0
      have t0 := hxq.cellv t0
      have t1 := hxq.cellv t1
      have t2 := hxq.cellv t2
      have t3 := hxq.cellv t3
      have t4 := hxq.cellv t4
      have t5 := hxq.cellv t5
      obtain rfl := HZ0.out
      have hb32 := HOK.out.b2
      have HB32 := Lib.hid hb32
      have HWA := Lib.hid hwas
      obtain ⟨Bn, hBn⟩ : ∃ x, x = h.b := ⟨_, rfl⟩
      have HBN := Lib.hid hBn
      rw [← hBn] at y0 hb32
      have HRD := Lib.hid (fun w' (hx : Ext wl w') j (hj : j < Bn) => sRead w' [p, bl] ps p bl h d (HST.out.ext hx) j (by rw [← hBn]; exact hj))
      have HXL := Lib.hid hx
      have HXQ := Lib.hid hxq
      clear hwas hq hBn hx hxq
      go_wp2_with fail
      go_loopw [13, 60] (fun _ cj ws => ∃ j : Nat, j ≤ Bn ∧ cj = .int .i64 j ∧ Hid (Was ws q (q + 1) j (fun j => (sBlk h.s (d.rows.getD (1 + j) [])).2) (fun j => (sBlk h.s (d.rows.getD (1 + j) [])).1) [p, bl]) ∧ Ext wl ws ∧ Chg [q, q + 1] wm ws) (fun _ cj _ => Bn - (intOf cj).toNat)
      case atStart => exact ⟨0, Nat.zero_le _, rfl, HWA, HXQ.out, Chg.refl _ _⟩
      case round =>
        clear HWA
        obtain ⟨j, hj, rfl, HWJ, hxj, hcj⟩ := hrel
        by_cases hjb : j < Bn
        case pos =>
          have hji : (j : Int) < (Bn : Int) := by omega
          have hj32 : j < 32 := by omega
          have hj32i : (j : Int) < 32 := by omega
          have HR := Lib.hid (HRD.out wr hxj j hjb)
          obtain ⟨T, hT⟩ : ∃ T : Nat → List Int, T = fun j => (sBlk h.s (d.rows.getD (1 + j) [])).2 := ⟨_, rfl⟩
          obtain ⟨U, hU⟩ : ∃ U : Nat → Int, U = fun j => (sBlk h.s (d.rows.getD (1 + j) [])).1 := ⟨_, rfl⟩
          have eT : (sBlk h.s (d.rows.getD (1 + j) [])).2 = T j := by rw [hT]
          have eU : (sBlk h.s (d.rows.getD (1 + j) [])).1 = U j := by rw [hU]
          rw [eT, eU] at HR
          have HTU := Lib.hid (And.intro hT hU)
          rw [← hT, ← hU] at HWJ
          clear hT hU eT eU
          clear y0 t0 t1 t2 t3 t4 t5
          obtain ⟨uj, huj⟩ : ∃ x, x = U j := ⟨_, rfl⟩
          have HUJ := Lib.hid huj
          rw [← huj] at HR
          clear huj
          go_wp2_with fail
          refine HR.out.mono ?_
          rintro e wx ⟨vt, rfl, ho, hxx⟩
          have hwx := HWJ.out.ext hxx
          obtain ⟨⟨u1, k1⟩, f1, ⟨u2, k2⟩, f2⟩ := hwx.cells hj32
          have hown : ∀ x, vt.ownBlock = some x → x ∉ q :: (q + 1) :: [p, bl] := fun x hx hm => by
            have h1 := (ho.lt x hx).1
            have h2 := HWJ.out.ltq
            have h3 := HWJ.out.ltr
            have h4 := HQ.out
            simp at hm h4
            omega
          have HS := Lib.hid (hwx.step hj32 ho.rd hown)
          obtain ⟨av9, nv9, cv9, rfl⟩ := ho.rd.isSlice
          have k2' : (wx.setCell ⟨q, j, none⟩ (.slice av9 nv9 cv9)).cell? ⟨q + 1, j, none⟩ = some u2 := (World.cell?_setCell_other _ _ _ _ (by simp)).trans k2
          have hxl : Ext wl ((wx.setCell ⟨q, j, none⟩ (.slice av9 nv9 cv9)).setCell ⟨q + 1, j, none⟩ (.int .i64 uj)) := by
            have h1 := HQL.out
            exact (Below.setCell (hxj.trans hxx) (p := ⟨q, j, none⟩) (by simp; omega) _).setCell (p := ⟨q + 1, j, none⟩) (by simp; omega) _
          have hcl : Chg [q, q + 1] wm ((wx.setCell ⟨q, j, none⟩ (.slice av9 nv9 cv9)).setCell ⟨q + 1, j, none⟩ (.int .i64 uj)) := ((hcj.ext hxx).setCell (.inl (by simp)) _).setCell (.inl (by simp)) _
          rw [← HUJ.out] at HS
          have HXLL := Lib.hid hxl
          have HCL := Lib.hid hcl
          clear hwx hown ho hxx hxl hcl hcj hxj
          go_wp2_with fail
          go_roundw
          case rel => exact ⟨j + 1, by omega, by go_num, by rw [← HTU.out.1, ← HTU.out.2]; exact HS, HXLL.out, HCL.out⟩
          case measure => simp [intOf]; omega
        --[[L
        obtain rfl : Bn = j := by omega
        have y0 := chg_cellc hcj y0 (by have := HPQ.out; simp; omega)
        have t0 := chg_cellc hcj t0 (by have := HPQ.out; simp; omega)
        have t1 := chg_cellc hcj t1 (by have := HPQ.out; simp; omega)
        have t2 := chg_cellc hcj t2 (by have := HPQ.out; simp; omega)
        have t3 := chg_cellc hcj t3 (by have := HPQ.out; simp; omega)
        have t4 := chg_cellc hcj t4 (by have := HPQ.out; simp; omega)
        have t5 := chg_cellc hcj t5 (by have := HPQ.out; simp; omega)
        obtain ⟨wv, rfl⟩ : ∃ wv : World, wv = wr := ⟨_, rfl⟩
        have hXv := HXL.out.trans hxj
        have HDO2 : Hid (0 < D2.length → ∀ x, (Value.slice ad2 n2 cc2).ownBlock = some x → x ∉ [p, bl]) := Lib.hid (fun hl x hx hm => by
          obtain ⟨b', o', rfl, hlt', _⟩ := HDS2.out (by intro e; rw [e] at hl; simp at hl)
          have h1 := HSP.out _ hm
          cases hx
          simp only at h1
          omega)
        have HWR := Lib.hid (swrite_any wv [p, bl] ps p bl h d (HST.out.ext hxj) (fun f hf => Nat.lt_of_lt_of_le (HF.out f hf) hxj.size) HFR.out a2 s2 b2 o2 bk2 (.slice ad2 n2 cc2) D2 (HD2.out.ext hXv) HD2B.out HDO2.out)
        obtain ⟨T, hT⟩ : ∃ T : Nat → List Int, T = fun j => (sBlk h.s (d.rows.getD (1 + j) [])).2 := ⟨_, rfl⟩
        obtain ⟨U, hU⟩ : ∃ U : Nat → Int, U = fun j => (sBlk h.s (d.rows.getD (1 + j) [])).1 := ⟨_, rfl⟩
        rw [← hT, ← hU] at HWJ
        have HTE := Lib.hid hT
        have HUE := Lib.hid hU
        clear hT hU HRD hcj
        go_wp2_with fail
        refine HWR.out.mono ?_
        rintro e wy ⟨r1, r2, d2, rfl, hsty, hcy, hfr2, hstep⟩
        have HSY := Lib.hid hsty
        have HSTEP := Lib.hid hstep
        have HWY := Lib.hid (HWJ.out.chg hcy)
        have hXy : Ext w wy := hXv.chg hcy HSP.out
        have y0 := chg_cellc hcy y0 HPB.out.1
        have t4 := chg_cellc hcy t4 HPB.out.2
        have t5 := chg_cellc hcy t5 HPB.out.2
        have HDY : Hid (RdI .u8 wy (.slice ad2 n2 cc2) D2) := Lib.hid ((HD2.out.ext hXv).chgc hcy (fun hne => HDO2.out (by cases D2; exact absurd rfl hne; simp)))
        have HFY : Hid (∀ f ∈ [p, bl], f < wy.heap.size) := Lib.hid (fun f hf => Nat.lt_of_lt_of_le (HF.out f hf) (Nat.le_trans hxj.size hcy.size))
        have hhb : Bn = h.b := HBN.out
        have HRD := Lib.hid (fun w' (hx : Ext wy w') j (hj : j < Bn) => sRead w' [p, bl] ps p bl h d2 (hsty.ext hx) j (by rw [← hhb]; exact hj))
        have HSAME : Hid (∀ j, j < Bn → ¬ ((j : Int) = bk2 ∧ r2 = 0 ∧ r1 = 0) → sBlk h.s (d2.rows.getD (1 + j) []) = (U j, T j)) := Lib.hid (fun j hj hn => by rw [hstep.same j (by omega) hn, HTE.out, HUE.out])
        have HOWN : Hid (∀ j, j < Bn → (j : Int) = bk2 → r2 = 0 → r1 = 0 → sBlk h.s (d2.rows.getD (1 + j) []) = (U j, T j) ∨ sBlk h.s (d2.rows.getD (1 + j) []) = (U j + 1, D2)) := Lib.hid (fun j hj h1 h2 h3 => by
          rcases hstep.own j (by omega) h1 h2 h3 with e | e
          · left; rw [e, HTE.out, HUE.out]
          · right; rw [e, HUE.out])
        clear hsty hfr2 hstep hcy hxj hXv hhb
        go_wp2_with fail
        go_loopw [16, 83] (fun _ cj ws => ∃ j : Nat, j ≤ Bn ∧ cj = .int .i64 j ∧ Ext wy ws) (fun _ cj _ => Bn - (intOf cj).toNat)
        case atStart => exact ⟨0, Nat.zero_le _, rfl, Ext.refl _⟩
        case round =>
          obtain ⟨j, hj', rfl, hxs⟩ := hrel
          by_cases hjb2 : j < Bn
          case neg =>
            obtain rfl : j = Bn := by omega
            go_wp2_with fail
            go_ret
            exact ⟨rfl, hXy.trans hxs⟩
          have hji : (j : Int) < (Bn : Int) := by omega
          have hj32 : j < 32 := by omega
          have hj32i : (j : Int) < 32 := by omega
          obtain ⟨⟨vw, kq, hvw, _⟩, kr⟩ := (HWY.out.ext hxs).at hjb2
          obtain ⟨aw, nw, cw, rfl⟩ := hvw.isSlice
          have HVW := Lib.hid hvw
          have HR := Lib.hid (HRD.out wr hxs j hjb2)
          have z4 := hxs.cellv t4
          have z5 := hxs.cellv t5
          clear hvw y0 t0 t1 t2 t3 t4 t5
          by_cases hX : (j : Int) = bk2 ∧ r2 = 0 ∧ r1 = 0
          case neg =>
            --[[X
            have hs := HSAME.out j hjb2 hX
            rw [hs] at HR
            simp only at HR
            obtain ⟨uj, huj⟩ : ∃ x, x = U j := ⟨_, rfl⟩
            rw [← huj] at HR kr
            obtain ⟨tj, htj⟩ : ∃ x, x = T j := ⟨_, rfl⟩
            rw [← htj] at HR HVW
            clear hs huj htj
            rcases (show (j : Int) ≠ bk2 ∨ ((j : Int) = bk2 ∧ r2 ≠ 0) ∨ ((j : Int) = bk2 ∧ r2 = 0 ∧ r1 ≠ 0) by omega) with g | ⟨g, g'⟩ | ⟨g, g', g''⟩
            · have e1 : ((j : Int) != bk2) = true := by rw [bne_iff_ne]; exact g
              clear hX
              go_wp2_with fail
              refine HR.out.mono ?_
              rintro e wx ⟨vt, rfl, ho, hxx⟩
              have HO := Lib.hid ho.rd
              have HVX := Lib.hid (HVW.out.ext hxx)
              obtain ⟨at9, nt9, ct9, rfl⟩ := ho.rd.isSlice
              have kq := hxx.cellv kq
              have kr := hxx.cellv kr
              have z4 := hxx.cellv z4
              have hxs2 := hxs.trans hxx
              clear ho hxx
              go_wp2_with fail
              refine (same_any _ _ tj tj _ (HO.out.ext (by repeat' (first | (with_reducible exact Ext.refl _) | (with_reducible assumption) | (with_reducible refine Ext.alloc ?_ _) | (with_reducible refine Ext.drewN ?_ _) | (with_reducible refine Ext.drew ?_) | (with_reducible refine Ext.trans ?_ (by assumption))))) (HVX.out.ext (by repeat' (first | (with_reducible exact Ext.refl _) | (with_reducible assumption) | (with_reducible refine Ext.alloc ?_ _) | (with_reducible refine Ext.drewN ?_ _) | (with_reducible refine Ext.drew ?_) | (with_reducible refine Ext.trans ?_ (by assumption)))))).mono ?_
              rintro e wz ⟨rfl, hxz⟩
              rw [show decide (tj = tj) = true from decide_eq_true rfl]
              go_wp2_with fail
              go_roundw
              case rel => exact ⟨j + 1, by omega, by go_num, hxs2.trans (by repeat' (first | (with_reducible exact Ext.refl _) | (with_reducible assumption) | (with_reducible refine Ext.alloc ?_ _) | (with_reducible refine Ext.drewN ?_ _) | (with_reducible refine Ext.drew ?_) | (with_reducible refine Ext.trans ?_ (by assumption))))⟩
              case measure => simp [intOf]; omega
            · obtain rfl : (j : Int) = bk2 := g
              have e1 : (r2 != 0) = true := by rw [bne_iff_ne]; exact g'
              clear hX
              go_wp2_with fail
              refine HR.out.mono ?_
              rintro e wx ⟨vt, rfl, ho, hxx⟩
              have HO := Lib.hid ho.rd
              have HVX := Lib.hid (HVW.out.ext hxx)
              obtain ⟨at9, nt9, ct9, rfl⟩ := ho.rd.isSlice
              have kq := hxx.cellv kq
              have kr := hxx.cellv kr
              have z4 := hxx.cellv z4
              have hxs2 := hxs.trans hxx
              clear ho hxx
              go_wp2_with fail
              refine (same_any _ _ tj tj _ (HO.out.ext (by repeat' (first | (with_reducible exact Ext.refl _) | (with_reducible assumption) | (with_reducible refine Ext.alloc ?_ _) | (with_reducible refine Ext.drewN ?_ _) | (with_reducible refine Ext.drew ?_) | (with_reducible refine Ext.trans ?_ (by assumption))))) (HVX.out.ext (by repeat' (first | (with_reducible exact Ext.refl _) | (with_reducible assumption) | (with_reducible refine Ext.alloc ?_ _) | (with_reducible refine Ext.drewN ?_ _) | (with_reducible refine Ext.drew ?_) | (with_reducible refine Ext.trans ?_ (by assumption)))))).mono ?_
              rintro e wz ⟨rfl, hxz⟩
              rw [show decide (tj = tj) = true from decide_eq_true rfl]
              go_wp2_with fail
              go_roundw
              case rel => exact ⟨j + 1, by omega, by go_num, hxs2.trans (by repeat' (first | (with_reducible exact Ext.refl _) | (with_reducible assumption) | (with_reducible refine Ext.alloc ?_ _) | (with_reducible refine Ext.drewN ?_ _) | (with_reducible refine Ext.drew ?_) | (with_reducible refine Ext.trans ?_ (by assumption))))⟩
              case measure => simp [intOf]; omega
            · obtain rfl : (j : Int) = bk2 := g
              obtain rfl : 0 = r2 := g'.symm
              have e1 : (r1 != 0) = true := by rw [bne_iff_ne]; exact g''
              clear hX
              go_wp2_with fail
              refine HR.out.mono ?_
              rintro e wx ⟨vt, rfl, ho, hxx⟩
              have HO := Lib.hid ho.rd
              have HVX := Lib.hid (HVW.out.ext hxx)
              obtain ⟨at9, nt9, ct9, rfl⟩ := ho.rd.isSlice
              have kq := hxx.cellv kq
              have kr := hxx.cellv kr
              have z4 := hxx.cellv z4
              have hxs2 := hxs.trans hxx
              clear ho hxx
              go_wp2_with fail
              refine (same_any _ _ tj tj _ (HO.out.ext (by repeat' (first | (with_reducible exact Ext.refl _) | (with_reducible assumption) | (with_reducible refine Ext.alloc ?_ _) | (with_reducible refine Ext.drewN ?_ _) | (with_reducible refine Ext.drew ?_) | (with_reducible refine Ext.trans ?_ (by assumption))))) (HVX.out.ext (by repeat' (first | (with_reducible exact Ext.refl _) | (with_reducible assumption) | (with_reducible refine Ext.alloc ?_ _) | (with_reducible refine Ext.drewN ?_ _) | (with_reducible refine Ext.drew ?_) | (with_reducible refine Ext.trans ?_ (by assumption)))))).mono ?_
              rintro e wz ⟨rfl, hxz⟩
              rw [show decide (tj = tj) = true from decide_eq_true rfl]
              go_wp2_with fail
              go_roundw
              case rel => exact ⟨j + 1, by omega, by go_num, hxs2.trans (by repeat' (first | (with_reducible exact Ext.refl _) | (with_reducible assumption) | (with_reducible refine Ext.alloc ?_ _) | (with_reducible refine Ext.drewN ?_ _) | (with_reducible refine Ext.drew ?_) | (with_reducible refine Ext.trans ?_ (by assumption))))⟩
              case measure => simp [intOf]; omega
            --]]
          --[[Y
          obtain ⟨g, g', g''⟩ := hX
          subst g' g''
          obtain rfl : (j : Int) = bk2 := g
          rcases HOWN.out j hjb2 rfl rfl rfl with e | e
          · rw [e] at HR
            simp only at HR
            have hlen : (sBlk h.s (d2.rows.getD (1 + j) [])).2.length = h.s := sBlk_len _ _
            rw [e] at hlen
            simp only at hlen
            have HRD2 := Lib.hid (fun w' hx => HRD.out w' hx j hjb2)
            rw [e] at HRD2
            simp only at HRD2
            obtain ⟨uj, huj⟩ : ∃ x, x = U j := ⟨_, rfl⟩
            rw [← huj] at HR HRD2 kr
            obtain ⟨tj, htj⟩ : ∃ x, x = T j := ⟨_, rfl⟩
            rw [← htj] at HR HRD2 hlen
            clear htj
            clear e huj
            obtain ⟨L, hLe⟩ : ∃ x, x = tj.length := ⟨_, rfl⟩
            have hs1 := HOK.out.s1
            have hs2 := HOK.out.s2
            have HLE := Lib.hid hLe
            have hL0 : 0 < L := by omega
            have hL16 : (L : Int) ≤ 16 := by omega
            clear hs1 hs2 hlen hLe
            have KR := Lib.hid kr
            have Z4 := Lib.hid z4
            have Z5 := Lib.hid z5
            have HXO := Lib.hid hxs
            go_wp2_with fail
            refine HR.out.mono ?_
            rintro e wx ⟨vt, rfl, ho, hxx⟩
            obtain ⟨gt, ct, hvt, hgt⟩ := own_at ho (by rw [← HLE.out]; exact hL0)
            rw [← HLE.out] at hvt
            subst hvt
            have HOO := Lib.hid ho
            have HGT : Hid (wr.heap.size ≤ gt) := Lib.hid hgt
            have HRX := Lib.hid ho.rd
            have kr := hxx.cellv kr
            have kq := hxx.cellv kq
            have z4 := hxx.cellv z4
            have z5 := hxx.cellv z5
            have hxs2 := hxs.trans hxx
            have HDX := Lib.hid (HDY.out.ext hxs2)
            have hrx := hxx
            clear ho hgt hxx
            go_wp2_with fail
            go_loopw [20, 140] (fun _ ci ws => ∃ (i : Nat) (l : List Int), i ≤ L ∧ l.length = L ∧ ci = .int .i64 i ∧ Hid (OwnI .u8 5 wr.heap.size ws (.slice (some ⟨gt, 0, none⟩) L ct) l) ∧ Ext wr ws) (fun _ ci _ => L - (intOf ci).toNat)
            case atStart => exact ⟨0, tj, Nat.zero_le _, HLE.out.symm, rfl, Lib.hid (HOO.out.ext (by repeat' (first | (with_reducible exact Ext.refl _) | (with_reducible assumption) | (with_reducible refine Ext.alloc ?_ _) | (with_reducible refine Ext.drewN ?_ _) | (with_reducible refine Ext.drew ?_) | (with_reducible refine Ext.trans ?_ (by assumption))))), hrx.trans (by repeat' (first | (with_reducible exact Ext.refl _) | (with_reducible assumption) | (with_reducible refine Ext.alloc ?_ _) | (with_reducible refine Ext.drewN ?_ _) | (with_reducible refine Ext.drew ?_) | (with_reducible refine Ext.trans ?_ (by assumption))))⟩
            case round =>
              obtain ⟨i4, l, hi4, hl, rfl, HOW, hx4⟩ := hrel
              by_cases h4 : i4 < L
              case pos =>
                have h4i : (i4 : Int) < (L : Int) := by omega
                obtain ⟨aq, cq, hq1, _, _, _, hq2⟩ := HOW.out.rd.parts
                obtain ⟨bq, oq, hq3, _, hq4⟩ := hq2 (by intro e; rw [e] at hl; simp at hl; omega)
                simp only [Value.slice.injEq] at hq1
                obtain ⟨rfl, _, _⟩ := hq1
                simp only [Option.some.injEq, Addr.mk.injEq] at hq3
                obtain ⟨rfl, rfl, _⟩ := hq3
                have hc4 := hq4 i4 (by omega)
                rw [Nat.zero_add] at hc4
                have hf4 := own_free HOW.out i4
                have HLL := Lib.hid hl
                obtain ⟨x4, hx4e⟩ : ∃ x, x = l.getD i4 0 := ⟨_, rfl⟩
                rw [← hx4e] at hc4
                have HSET := Lib.hid (fun x => own_set HOW.out (i := i4) (by omega) x)
                have HXS := Lib.hid (fun (x : Value) => Below.setCell hx4 (p := ⟨gt, i4, none⟩) HGT.out x)
                clear hq2 hq4 hx4e hl hL0
                go_wp2_with fail
                go_roundw
                case rel => exact ⟨i4 + 1, _, by omega, by rw [List.length_set]; exact HLL.out, by go_num, Lib.hid (HSET.out _), HXS.out _⟩
                case measure => simp [intOf]; omega
              obtain rfl : L = i4 := by omega
              have hxw := HXO.out.trans hx4
              have kr := hx4.cellv KR.out
              have z4 := hx4.cellv Z4.out
              have z5 := hx4.cellv Z5.out
              have HXW := Lib.hid hxw
              have HR4 := Lib.hid (HRD2.out _ hxw)
              clear hx4 hxw hxs2 hrx HGT HOO HRX HOW hl
              obtain ⟨w8, rfl⟩ : ∃ w8 : World, w8 = wr := ⟨_, rfl⟩
              go_wp2_with fail
              refine HR4.out.mono ?_
              rintro e w9 ⟨vu, rfl, hou, hx9⟩
              have HO9 := Lib.hid hou.rd
              obtain ⟨au9, nu9, cu9, rfl⟩ := hou.rd.isSlice
              have kr := hx9.cellv kr
              have z4 := hx9.cellv z4
              have z5 := hx9.cellv z5
              have hxw9 := HXW.out.trans hx9
              have HD9 := Lib.hid (HDY.out.ext hxw9)
              clear hou hx9
              go_wp2_with fail
              go_roundw
              case rel => exact ⟨j + 1, by omega, by go_num, hxw9.trans (by repeat' (first | (with_reducible exact Ext.refl _) | (with_reducible assumption) | (with_reducible refine Ext.alloc ?_ _) | (with_reducible refine Ext.drewN ?_ _) | (with_reducible refine Ext.drew ?_) | (with_reducible refine Ext.trans ?_ (by assumption))))⟩
              case measure => simp [intOf]; omega
          · rw [e] at HR
            simp only at HR
            have hlen : (sBlk h.s (d2.rows.getD (1 + j) [])).2.length = h.s := sBlk_len _ _
            rw [e] at hlen
            simp only at hlen
            have HRD2 := Lib.hid (fun w' hx => HRD.out w' hx j hjb2)
            rw [e] at HRD2
            simp only at HRD2
            obtain ⟨uj, huj⟩ : ∃ x, x = U j := ⟨_, rfl⟩
            rw [← huj] at HR HRD2 kr
            have hub : 0 ≤ uj ∧ uj ≤ 1000 := by rw [huj, HUE.out]; exact sBlk_bd _ _
            obtain ⟨hu0, hu1⟩ := hub
            have hwu : IntKind.i64.wrap (uj + 1 - 1) = uj := by rw [show uj + 1 - 1 = uj by omega]; exact IntWalk.i64_in _ (by omega)
            obtain ⟨tj, htj⟩ : ∃ x, x = D2 := ⟨_, rfl⟩
            rw [← htj] at HR HRD2 hlen
            have HTJ := Lib.hid htj
            clear htj
            clear e huj
            obtain ⟨L, hLe⟩ : ∃ x, x = tj.length := ⟨_, rfl⟩
            have hs1 := HOK.out.s1
            have hs2 := HOK.out.s2
            have HLE := Lib.hid hLe
            have hL0 : 0 < L := by omega
            have hL16 : (L : Int) ≤ 16 := by omega
            clear hs1 hs2 hlen hLe
            have KR := Lib.hid kr
            have Z4 := Lib.hid z4
            have Z5 := Lib.hid z5
            have HXO := Lib.hid hxs
            go_wp2_with fail
            refine HR.out.mono ?_
            rintro e wx ⟨vt, rfl, ho, hxx⟩
            obtain ⟨gt, ct, hvt, hgt⟩ := own_at ho (by rw [← HLE.out]; exact hL0)
            rw [← HLE.out] at hvt
            subst hvt
            have HOO := Lib.hid ho
            have HGT : Hid (wr.heap.size ≤ gt) := Lib.hid hgt
            have HRX := Lib.hid ho.rd
            have kr := hxx.cellv kr
            have kq := hxx.cellv kq
            have z4 := hxx.cellv z4
            have z5 := hxx.cellv z5
            have hxs2 := hxs.trans hxx
            have HDX := Lib.hid (HDY.out.ext hxs2)
            have hrx := hxx
            clear ho hgt hxx
            go_wp2_with fail
            refine (same_any _ _ tj D2 _ (HRX.out.ext (by repeat' (first | (with_reducible exact Ext.refl _) | (with_reducible assumption) | (with_reducible refine Ext.alloc ?_ _) | (with_reducible refine Ext.drewN ?_ _) | (with_reducible refine Ext.drew ?_) | (with_reducible refine Ext.trans ?_ (by assumption))))) (HDX.out.ext (by repeat' (first | (with_reducible exact Ext.refl _) | (with_reducible assumption) | (with_reducible refine Ext.alloc ?_ _) | (with_reducible refine Ext.drewN ?_ _) | (with_reducible refine Ext.drew ?_) | (with_reducible refine Ext.trans ?_ (by assumption)))))).mono ?_
            rintro e wz ⟨rfl, hxz⟩
            rw [show decide (tj = D2) = true from decide_eq_true HTJ.out]
            go_wp2_with fail
            go_loopw [20, 140] (fun _ ci ws => ∃ (i : Nat) (l : List Int), i ≤ L ∧ l.length = L ∧ ci = .int .i64 i ∧ Hid (OwnI .u8 5 wr.heap.size ws (.slice (some ⟨gt, 0, none⟩) L ct) l) ∧ Ext wr ws) (fun _ ci _ => L - (intOf ci).toNat)
            case atStart => exact ⟨0, tj, Nat.zero_le _, HLE.out.symm, rfl, Lib.hid (HOO.out.ext (by repeat' (first | (with_reducible exact Ext.refl _) | (with_reducible assumption) | (with_reducible refine Ext.alloc ?_ _) | (with_reducible refine Ext.drewN ?_ _) | (with_reducible refine Ext.drew ?_) | (with_reducible refine Ext.trans ?_ (by assumption))))), hrx.trans (by repeat' (first | (with_reducible exact Ext.refl _) | (with_reducible assumption) | (with_reducible refine Ext.alloc ?_ _) | (with_reducible refine Ext.drewN ?_ _) | (with_reducible refine Ext.drew ?_) | (with_reducible refine Ext.trans ?_ (by assumption))))⟩
            case round =>
              obtain ⟨i4, l, hi4, hl, rfl, HOW, hx4⟩ := hrel
              by_cases h4 : i4 < L
              case pos =>
                have h4i : (i4 : Int) < (L : Int) := by omega
                obtain ⟨aq, cq, hq1, _, _, _, hq2⟩ := HOW.out.rd.parts
                obtain ⟨bq, oq, hq3, _, hq4⟩ := hq2 (by intro e; rw [e] at hl; simp at hl; omega)
                simp only [Value.slice.injEq] at hq1
                obtain ⟨rfl, _, _⟩ := hq1
                simp only [Option.some.injEq, Addr.mk.injEq] at hq3
                obtain ⟨rfl, rfl, _⟩ := hq3
                have hc4 := hq4 i4 (by omega)
                rw [Nat.zero_add] at hc4
                have hf4 := own_free HOW.out i4
                have HLL := Lib.hid hl
                obtain ⟨x4, hx4e⟩ : ∃ x, x = l.getD i4 0 := ⟨_, rfl⟩
                rw [← hx4e] at hc4
                have HSET := Lib.hid (fun x => own_set HOW.out (i := i4) (by omega) x)
                have HXS := Lib.hid (fun (x : Value) => Below.setCell hx4 (p := ⟨gt, i4, none⟩) HGT.out x)
                clear hq2 hq4 hx4e hl hL0
                go_wp2_with fail
                go_roundw
                case rel => exact ⟨i4 + 1, _, by omega, by rw [List.length_set]; exact HLL.out, by go_num, Lib.hid (HSET.out _), HXS.out _⟩
                case measure => simp [intOf]; omega
              obtain rfl : L = i4 := by omega
              have hxw := HXO.out.trans hx4
              have kr := hx4.cellv KR.out
              have z4 := hx4.cellv Z4.out
              have z5 := hx4.cellv Z5.out
              have HXW := Lib.hid hxw
              have HR4 := Lib.hid (HRD2.out _ hxw)
              clear hx4 hxw hxs2 hrx HGT HOO HRX HOW hl
              obtain ⟨w8, rfl⟩ : ∃ w8 : World, w8 = wr := ⟨_, rfl⟩
              go_wp2_with fail
              refine HR4.out.mono ?_
              rintro e w9 ⟨vu, rfl, hou, hx9⟩
              have HO9 := Lib.hid hou.rd
              obtain ⟨au9, nu9, cu9, rfl⟩ := hou.rd.isSlice
              have kr := hx9.cellv kr
              have z4 := hx9.cellv z4
              have z5 := hx9.cellv z5
              have hxw9 := HXW.out.trans hx9
              have HD9 := Lib.hid (HDY.out.ext hxw9)
              clear hou hx9
              go_wp2_with fail
              refine (same_any _ _ tj D2 _ (HO9.out.ext (by repeat' (first | (with_reducible exact Ext.refl _) | (with_reducible assumption) | (with_reducible refine Ext.alloc ?_ _) | (with_reducible refine Ext.drewN ?_ _) | (with_reducible refine Ext.drew ?_) | (with_reducible refine Ext.trans ?_ (by assumption))))) (HD9.out.ext (by repeat' (first | (with_reducible exact Ext.refl _) | (with_reducible assumption) | (with_reducible refine Ext.alloc ?_ _) | (with_reducible refine Ext.drewN ?_ _) | (with_reducible refine Ext.drew ?_) | (with_reducible refine Ext.trans ?_ (by assumption)))))).mono ?_
              rintro e w10 ⟨rfl, hx10⟩
              rw [show decide (tj = D2) = true from decide_eq_true HTJ.out]
              go_wp2_with fail
              go_roundw
              case rel => exact ⟨j + 1, by omega, by go_num, hxw9.trans (by repeat' (first | (with_reducible exact Ext.refl _) | (with_reducible assumption) | (with_reducible refine Ext.alloc ?_ _) | (with_reducible refine Ext.drewN ?_ _) | (with_reducible refine Ext.drew ?_) | (with_reducible refine Ext.trans ?_ (by assumption))))⟩
              case measure => simp [intOf]; omega
          --]]
        --]]
      --]]
    have hii : (i : Int) < (n : Int) := by omega
    obtain ⟨bb, oo, rfl, hbb, hcell⟩ := HS.out (by omega)
    obtain ⟨g0, g1, g2, g3, g4, g5, g6, g7⟩ := act_cells hx hbb hcell HA.out hlt
    obtain ⟨_, _, _, _, _, _, _, hD, hok, _⟩ := HA.out i hlt
    have hDb := hok.D
    have hbo := hok.o
    obtain ⟨K0, hK0⟩ : ∃ z, z = (A i).1 := ⟨_, rfl⟩
    obtain ⟨K1, hK1⟩ : ∃ z, z = (A i).2.1 := ⟨_, rfl⟩
    obtain ⟨a, ha⟩ : ∃ z, z = (A i).2.2.c := ⟨_, rfl⟩
    obtain ⟨s, hs⟩ : ∃ z, z = (A i).2.2.k := ⟨_, rfl⟩
    obtain ⟨b, hb⟩ : ∃ z, z = (A i).2.2.b := ⟨_, rfl⟩
    obtain ⟨o, ho⟩ : ∃ z, z = (A i).2.2.o := ⟨_, rfl⟩
    obtain ⟨bk, hbk⟩ : ∃ z, z = (A i).2.2.bk := ⟨_, rfl⟩
    obtain ⟨D, hDe⟩ : ∃ z, z = (A i).2.2.D := ⟨_, rfl⟩
    rw [← hK0] at g0
    rw [← hK1] at g1
    rw [← ha] at g2
    rw [← hs] at g3
    rw [← hb] at g4
    rw [← ho] at g5 hbo
    rw [← hbk] at g6
    rw [← hDe] at hD hDb
    obtain ⟨dv, hdv⟩ : ∃ z, z = V i 7 := ⟨_, rfl⟩
    rw [← hdv] at g7 hD
    have HD := Lib.hid hD
    obtain ⟨ad, cc, rfl, _, _, _, hDs⟩ := hD.parts
    have HDo : Hid (0 < D.length → ∀ x, (Value.slice ad D.length cc).ownBlock = some x → x ∉ [p, bl]) := Lib.hid (fun hl x hx hm => by
      obtain ⟨b', o', rfl, hlt', _⟩ := hDs (by intro e; rw [e] at hl; simp at hl)
      have h1 := HSP.out _ hm
      cases hx
      simp only at h1
      omega)
    obtain ⟨nn, hnn⟩ : ∃ z, z = D.length := ⟨_, rfl⟩
    rw [← hnn] at HD HDo g7
    have HNN := Lib.hid hnn
    have HDB := Lib.hid hDb
    clear hK0 hK1 ha hs hb ho hbk hDe hdv hD hDs hnn hDb hcell hok
    go_upto_region 11 with fail
    have hxa : Ext wr (wr.alloc (.cells #[.int .i64 K0, .int .i64 K1, .int .i64 a, .int .i64 s, .int .i64 b, .int .i64 o, .int .i64 bk, .slice ad nn cc] 40)) := (Ext.refl wr).alloc _
    have e2 := cell_new wr #[.int .i64 K0, .int .i64 K1, .int .i64 a, .int .i64 s, .int .i64 b, .int .i64 o, .int .i64 bk, .slice ad nn cc] 40 (0, 0) (j := 2) rfl
    have e3 := cell_new wr #[.int .i64 K0, .int .i64 K1, .int .i64 a, .int .i64 s, .int .i64 b, .int .i64 o, .int .i64 bk, .slice ad nn cc] 40 (0, 0) (j := 3) rfl
    have e4 := cell_new wr #[.int .i64 K0, .int .i64 K1, .int .i64 a, .int .i64 s, .int .i64 b, .int .i64 o, .int .i64 bk, .slice ad nn cc] 40 (0, 0) (j := 4) rfl
    have e5 := cell_new wr #[.int .i64 K0, .int .i64 K1, .int .i64 a, .int .i64 s, .int .i64 b, .int .i64 o, .int .i64 bk, .slice ad nn cc] 40 (0, 0) (j := 5) rfl
    have e6 := cell_new wr #[.int .i64 K0, .int .i64 K1, .int .i64 a, .int .i64 s, .int .i64 b, .int .i64 o, .int .i64 bk, .slice ad nn cc] 40 (0, 0) (j := 6) rfl
    have e7 := cell_new wr #[.int .i64 K0, .int .i64 K1, .int .i64 a, .int .i64 s, .int .i64 b, .int .i64 o, .int .i64 bk, .slice ad nn cc] 40 (0, 0) (j := 7) rfl
    generalize (wr.alloc (.cells #[.int .i64 K0, .int .i64 K1, .int .i64 a, .int .i64 s, .int .i64 b, .int .i64 o, .int .i64 bk, .slice ad nn cc] 40)) = wa at *
    obtain ⟨q, hq⟩ : ∃ q, q = wr.heap.size := ⟨_, rfl⟩
    rw [← hq] at e2 e3 e4 e5 e6 e7 ⊢
    have N1 : q ∉ [p, bl] := fun hm => by have := HF.out _ hm; omega
    have hXa := hx.trans hxa
    have hc6a := hc6.ext hxa
    have HSA := Lib.hid (HST.out.ext hxa)
    have HFA : Hid (∀ f ∈ [p, bl], f < wa.heap.size) := Lib.hid (fun f hf => Nat.lt_of_lt_of_le (HF.out f hf) hxa.size)
    have HDA := Lib.hid (HD.out.ext hXa)
    clear hq hx hxa HST HF g0 g1 g2 g3 g4 g5 g6 g7
    by_cases hbad : stBad h a s b o bk nn = 0
    case neg =>
      have HB := Lib.hid (swrite_bad wa [p, bl] ps p bl h d HSA.out a s b o bk (.slice ad nn cc) D HDA.out (by rw [← HNN.out]; exact hbad))
      rw [← HNN.out] at HB
      obtain ⟨z, hz⟩ : ∃ z, z = stBad h a s b o bk nn := ⟨_, rfl⟩
      rw [← hz] at HB hbad
      clear hz hbad
      go_wp2_with fail
      refine HB.out.mono ?_
      rintro e wb ⟨rfl, hxb⟩
      go_wp2_with fail
      go_roundw
      case rel => exact ⟨i + 1, d, by omega, by go_num, HFR, Lib.hid (HSA.out.ext hxb), Lib.hid (fun f hf => Nat.lt_of_lt_of_le (HFA.out f hf) hxb.size), hc6a.ext hxb, hXa.trans hxb⟩
      case measure => simp [intOf]; omega
    have hbo2 := bad_old hbad
    obtain ⟨c, k, blk, rfl, rfl, rfl, hc, hk, hbl, hbb2, hoo, hns⟩ := fit_nat hbad
    have hns' := hns
    rw [HNN.out] at hns'
    have hn0 : 0 < nn := by rw [hns]; exact HOK.out.s1
    have HFR1 := Lib.hid (st_view HOK.out HFR.out HSA.out.many hc hk hbl hbb2 hoo hns').1
    have HW1 := Lib.hid (swrite_st wa [p, bl] ps p bl h d HSA.out HFA.out c k blk hc hk hbl b o hbb2 hoo (.slice ad nn cc) D HDA.out hns' HDB.out (HDo.out hn0))
    clear hbo2 hbad hns hns' hc hk hbl hn0 hbb2 hoo
    go_wp2_with fail
    refine HW1.out.mono ?_
    rintro e wb ⟨rfl, hstb, hcb⟩
    have hXb : Ext w wb := hXa.chg hcb HSP.out
    have HSB := Lib.hid hstb
    have HFB : Hid (∀ f ∈ [p, bl], f < wb.heap.size) := Lib.hid (fun f hf => Nat.lt_of_lt_of_le (HFA.out f hf) hcb.size)
    have hc6b := hc6a.trans hcb
    clear hstb hcb
    go_wp2_with fail
    go_roundw
    case rel => exact ⟨i + 1, _, by omega, by go_num, HFR1, HSB, HFB, hc6b, hXb⟩
    case measure => simp [intOf]; omega
end Go.Proofs.Ytoadjmeopamgbaa
