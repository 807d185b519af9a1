/-
  gradineref13: Right, New, SameMoves.
-/
import Derived.Test.YtibcfmnkpemieaaUniRef6
import Derived.Test.YtibcfmnkpemieaaUniMovesWalk
import Derived.Deep.RegionLaw
namespace Go.Proofs.Ytibcfmnkpemieaa
open Go.RowKit

def c3F (c1 c2 c3 : Int) (j : Nat) : Int := if j = 0 then c1 else if j = 1 then c2 else c3

theorem rright13 (c1 c2 c3 : Int) (r : Bool) (hr : r = true ↔ (okC c1 ∧ okC c2 ∧ okC c3)) (w : World) : Calls Try.prog 19 #[.agg #[.int .i64 c1, .int .i64 c2, .int .i64 c3]] w fun e w' => e = .returned (.bool r) ∧ Ext w w' := by
  have HRR := Lib.hid hr
  clear hr
  go_enter Try.func19, Try.ntmps19
  go_wp2_with fail
  have p0 : (w.alloc (.cells #[.int .i64 c1, .int .i64 c2, .int .i64 c3] 22)).cell? ⟨w.heap.size, 0, none⟩ = some (.int .i64 c1) := cell_new _ _ _ _ rfl
  have p1 : (w.alloc (.cells #[.int .i64 c1, .int .i64 c2, .int .i64 c3] 22)).cell? ⟨w.heap.size, 1, none⟩ = some (.int .i64 c2) := cell_new _ _ _ _ rfl
  have p2 : (w.alloc (.cells #[.int .i64 c1, .int .i64 c2, .int .i64 c3] 22)).cell? ⟨w.heap.size, 2, none⟩ = some (.int .i64 c3) := cell_new _ _ _ _ rfl
  have hC : ∀ j, j < 3 → (w.alloc (.cells #[.int .i64 c1, .int .i64 c2, .int .i64 c3] 22)).cell? ⟨w.heap.size, j, none⟩ = some (.int .i64 (c3F c1 c2 c3 j)) := by
    intro j hj
    have : j = 0 ∨ j = 1 ∨ j = 2 := by omega
    rcases this with rfl | rfl | rfl
    · exact p0
    · exact p1
    · exact p2
  have HC := Lib.hid hC
  have hX : Ext w (w.alloc (.cells #[.int .i64 c1, .int .i64 c2, .int .i64 c3] 22)) := (Ext.refl w).alloc _
  generalize (w.alloc (.cells #[.int .i64 c1, .int .i64 c2, .int .i64 c3] 22)) = w1 at *
  clear p0 p1 p2 hC
  go_loopw [3] (fun vi wr => ∃ k : Nat, k ≤ 3 ∧ vi = .int .i64 k ∧ (∀ j, j < k → okC (c3F c1 c2 c3 j)) ∧ wr = w1) (fun vi _ => 3 - (intOf vi).toNat)
  case atStart => exact ⟨0, by omega, rfl, by omega, rfl⟩
  case round =>
    obtain ⟨k, hk, rfl, hall, rfl⟩ := hrel
    have HALL := Lib.hid hall
    clear hall
    by_cases hlt : k < 3
    · have hki : (k : Int) < 3 := by omega
      have hc := HC.out k hlt
      obtain ⟨x, hx⟩ : ∃ x, c3F c1 c2 c3 k = x := ⟨_, rfl⟩
      rw [hx] at hc
      have HX := Lib.hid hx
      clear hx
      have hbad : ¬ okC x → r = false := by
        intro h
        rw [Bool.eq_false_iff]
        intro ht
        obtain ⟨o1, o2, o3⟩ := HRR.out.1 ht
        have : k = 0 ∨ k = 1 ∨ k = 2 := by omega
        have hX := HX.out
        rcases this with rfl | rfl | rfl
        · exact h (by rw [← hX]; exact o1)
        · exact h (by rw [← hX]; exact o2)
        · exact h (by rw [← hX]; exact o3)
      have HBAD := Lib.hid hbad
      clear hbad
      by_cases h1 : x < 1
      · obtain rfl := HBAD.out (fun h => by have := h.1; omega)
        go_wp2_with fail
        go_ret
        exact ⟨rfl, hX⟩
      · have hd1 : decide (x < 1) = false := decide_eq_false h1
        by_cases h2 : 16 < x
        · obtain rfl := HBAD.out (fun h => by have := h.2; omega)
          go_wp2_with fail
          go_ret
          exact ⟨rfl, hX⟩
        · go_wp2_with fail
          go_roundw
          case rel =>
            refine ⟨k + 1, by omega, by go_num, ?_, by first | rfl | trivial⟩
            intro j hj
            by_cases e : j < k
            · exact HALL.out j e
            · obtain rfl : j = k := by omega
              rw [HX.out]; exact ⟨by omega, by omega⟩
          case measure => simp [intOf]; omega
    · obtain rfl : k = 3 := by omega
      obtain rfl : r = true := HRR.out.2 ⟨HALL.out 0 (by omega), HALL.out 1 (by omega), HALL.out 2 (by omega)⟩
      go_wp2_with fail
      go_ret
      exact ⟨rfl, hX⟩

set_option maxHeartbeats 1000000 in
theorem rsamemoves (ms : List (Nat × Nat)) (va vb : Value) (w : World) (ha : Rd w 3 va ms.length (mcells ms)) (hb : Rd w 3 vb ms.length (mcells ms)) : Calls Try.prog 24 #[va, vb] w fun e w' => e = .returned (.bool true) ∧ Ext w w' := by
  obtain ⟨_, aa, ca, rfl, hca, hma, _, hsa⟩ := ha
  obtain ⟨_, ab, cb, rfl, hcb, _, _, hsb⟩ := hb
  unfold maxLen at hma
  have HSA := Lib.hid hsa
  have HSB := Lib.hid hsb
  obtain ⟨n, hn⟩ : ∃ n, n = ms.length := ⟨_, rfl⟩
  rw [← hn] at HSA HSB hca ⊢
  have HN := Lib.hid hn
  clear hsa hsb hn
  go_enter Try.func24, Try.ntmps24
  go_wp2_with fail
  go_loopw [5] (fun vi wr => ∃ k : Nat, k ≤ n ∧ vi = .int .i64 k ∧ Ext w wr) (fun vi _ => n - (intOf vi).toNat)
  case atStart => exact ⟨0, by omega, rfl, Ext.refl _⟩
  case round =>
    obtain ⟨k, hk, rfl, hx⟩ := hrel
    by_cases hlt : k < n
    · have hki : (k : Int) < (n : Int) := by omega
      obtain ⟨b1, o1, rfl, _, h1⟩ := HSA.out (by omega)
      obtain ⟨b2, o2, rfl, _, h2⟩ := HSB.out (by omega)
      have hspl : ∃ D m T, ms = D ++ m :: T ∧ D.length = k := by
        have hk' : k < ms.length := by have := HN.out; omega
        exact ⟨ms.take k, ms[k], ms.drop (k + 1), by rw [← List.drop_eq_getElem_cons hk', List.take_append_drop], by rw [List.length_take]; omega⟩
      obtain ⟨D, ⟨m1, m2⟩, T, hms, rfl⟩ := hspl
      obtain ⟨e0, e1, e2⟩ := mcells_at (D := D) (T := T) (m := (m1, m2))
      rw [← hms] at e0 e1 e2
      have f0 := hx.cellv (h1 _ _ e0)
      have f1 := hx.cellv (h1 _ _ e1)
      have f2 := hx.cellv (h1 _ _ e2)
      have g0 := hx.cellv (h2 _ _ e0)
      have g1 := hx.cellv (h2 _ _ e1)
      have g2 := hx.cellv (h2 _ _ e2)
      rw [← Nat.add_assoc] at f1 f2 g1 g2
      clear h1 h2 e0 e1 e2 hms HSA HSB
      go_wp2_with fail
      go_quiet (fail)
      go_wp2_with fail
      exact ⟨⟨D.length + 1, by omega, by go_num, hx.drewN nq⟩, by simp [intOf]; omega⟩
    · obtain rfl : k = n := by omega
      go_wp2_with fail
      go_ret
      exact ⟨rfl, hx⟩

/-- 'append(s, x...)', integers, as a step of a region: s is nil -/
theorem step_append_ints {P : Program} {ops : Array Oper} {o : Oper} {a : Act} {w : World} {K : Act → World → Prop} {Q : Exit → Act → World → Prop} {E : Prop} (hgd : o.guard = none) (s x : Operand) (t : TypeId)
    (ho : o.op = .call { callee := .builtin .append, args := #[s, x], argTypes := #[t, t] }) (e : TypeId) (k : IntKind) (z : Int) (bytes : Nat) (ht : P.underlying t = some (.slice e))
    (hinfo : (P.info? e).map (fun i => (i.zero, i.size, i.bytes)) = some (some (.int k z), 1, bytes)) (hby : bytes ≤ 8) (B : Nat) (hB : B ≤ w.heap.size) (hs : a.eval s = .slice none 0 0)
    (y : Value) (l : List Int) (hx : a.eval x = y) (hr : RdI k w y l) (hl0 : 0 < l.length) (hfit : l.length ≤ 1000)
    (h : ∀ g cap w', OwnI k e B w' (.slice (some ⟨g, 0, none⟩) l.length cap) l → Ext w w' → g = w.heap.size → K (a.put o.dst (.slice (some ⟨g, 0, none⟩) l.length cap)) w') :
    if Region.wanted o (yielded ops a.tmps) = true then Oper.wp P o a w K Q else E := by
  obtain ⟨i0, hi, hz0, hz1, hz2⟩ := info_parts hinfo
  obtain ⟨hl, ad, c, rfl, hmc, hcm, hnil, hsome⟩ := hr
  obtain ⟨b, f, rfl, hlt, hc⟩ := hsome hl0
  refine step_append_lies _ hgd s x t ho B e i0 (.int k z) 1 bytes ht hi hz0 hz1 hz2 rfl (by decide) (.slice none 0 0) 0 [] hs (World.ownsRow_nil _ _ _ _) ⟨b, f, none⟩ l.length c (cellsOf k l) hx (by simp) (fun j q hj => by rw [add_none]; exact hc j q hj) cellsOf_one hl0 (by unfold maxLen; omega) ?_ hB _ rfl ?_
  · have : (0 + l.length) * bytes ≤ 1000 * 8 := Nat.mul_le_mul (by omega) hby
    omega
  · intro g cap w' ho' hg' hat _
    simp only [Nat.zero_add, List.nil_append] at ho' ⊢
    refine h g cap w' ho' (Below.grown (Ext.refl _) hg' (Nat.le_refl _) (by intro k h; cases h)) ?_
    rcases hat with h | h
    · cases h
    · exact h

theorem RdI.four (w : World) (a b c d : Int) (e : TypeId) : RdI .i64 (w.alloc (.cells #[.int .i64 a, .int .i64 b, .int .i64 c, .int .i64 d] e)) (.slice (some ⟨w.heap.size, 0, none⟩) 4 4) [a, b, c, d] :=
  RdI.lit .i64 w [a, b, c, d] e (by simp [maxLen])

set_option maxHeartbeats 1000000 in
theorem rnew13 (c1 c2 c3 : Int) (h1 : okC c1) (h2 : okC c2) (h3 : okC c3) (w : World) : Calls Try.prog 20 #[.agg #[.int .i64 c1, .int .i64 c2, .int .i64 c3]] w fun e w' =>
    ∃ p vC, e = .returned (.pointer (some ⟨p, 0, none⟩)) ∧ RefAt w' p (.slice none 0 0) vC (capF c1 c2 c3) [] (fun _ => 0) ∧ w.heap.size ≤ p ∧ (∀ g, vC.ownBlock = some g → w.heap.size ≤ g) ∧ Ext w w' := by
  have HH := Lib.hid (And.intro h1 (And.intro h2 h3))
  clear h1 h2 h3
  go_enter Try.func20, Try.ntmps20
  go_wp2_with fail
  have k0 : ((w.alloc (.cells #[.int .i64 c1, .int .i64 c2, .int .i64 c3] 22)).alloc (.cells #[.slice none 0 0, .slice none 0 0] 91)).cell? ⟨w.heap.size, 0, none⟩ = some (.int .i64 c1) := cell_old _ (cell_new _ _ _ _ rfl)
  have k1 : ((w.alloc (.cells #[.int .i64 c1, .int .i64 c2, .int .i64 c3] 22)).alloc (.cells #[.slice none 0 0, .slice none 0 0] 91)).cell? ⟨w.heap.size, 1, none⟩ = some (.int .i64 c2) := cell_old _ (cell_new _ _ _ _ rfl)
  have k2 : ((w.alloc (.cells #[.int .i64 c1, .int .i64 c2, .int .i64 c3] 22)).alloc (.cells #[.slice none 0 0, .slice none 0 0] 91)).cell? ⟨w.heap.size, 2, none⟩ = some (.int .i64 c3) := cell_old _ (cell_new _ _ _ _ rfl)
  have HP : ((w.alloc (.cells #[.int .i64 c1, .int .i64 c2, .int .i64 c3] 22)).alloc (.cells #[.slice none 0 0, .slice none 0 0] 91)).heap[w.heap.size + 1]? = some (.cells #[.slice none 0 0, .slice none 0 0] 91 (0, 0)) := by
    have := heap_alloc_new (w.alloc (.cells #[.int .i64 c1, .int .i64 c2, .int .i64 c3] 22)) (.cells #[.slice none 0 0, .slice none 0 0] 91 (0, 0))
    simpa using this
  have hX : Ext w ((w.alloc (.cells #[.int .i64 c1, .int .i64 c2, .int .i64 c3] 22)).alloc (.cells #[.slice none 0 0, .slice none 0 0] 91)) := ((Ext.refl w).alloc _).alloc _
  generalize ((w.alloc (.cells #[.int .i64 c1, .int .i64 c2, .int .i64 c3] 22)).alloc (.cells #[.slice none 0 0, .slice none 0 0] 91)) = w2 at *
  obtain ⟨p, hp⟩ : ∃ p, p = w.heap.size + 1 := ⟨_, rfl⟩
  obtain ⟨q, hq⟩ : ∃ q, q = w.heap.size := ⟨_, rfl⟩
  rw [← hp] at HP ⊢
  rw [← hq] at k0 k1 k2 ⊢
  have hpq : p ≠ q := by omega
  have hqp : q ≠ p := by omega
  have hwp : w.heap.size ≤ p := by omega
  have hpl : p < w2.heap.size := (Array.getElem?_eq_some_iff.1 HP).1
  have m1 : w2.cell? ⟨p, 1, none⟩ = some (.slice none 0 0) := cell_of_row w2 p 1 _ _ _ HP
  have fz := frozen_row HP 1
  have HPH := Lib.hid HP
  have a1 := cell_old (.cells #[.int .i64 0, .int .i64 c1, .int .i64 c2, .int .i64 c3] 3 (0, 0)) m1
  clear hp hq HP
  have b0 := cell_old (.cells #[.int .i64 0, .int .i64 c1, .int .i64 c2, .int .i64 c3] 3 (0, 0)) k0
  go_region_law
    (refine step_append_ints (by rfl) _ _ _ (by rfl) 3 .i64 0 8 Try.underlying23 ints_info (by decide) w2.heap.size (Ext.size (w := w2) (by repeat' (first | (with_reducible exact Ext.refl _) | (with_reducible assumption) | (with_reducible refine Ext.alloc ?_ _) | (with_reducible refine Ext.drewN ?_ _) | (with_reducible refine Ext.drew ?_) | (with_reducible refine Ext.trans ?_ (by assumption))))) (by rfl) _ [0, c1, c2, c3] (by rfl) (by first | exact RdI.four _ _ _ _ _ _ | exact (RdI.four _ _ _ _ _ _).ext (Ext.drew (Ext.refl _)) | exact (RdI.four _ _ _ _ _ _).ext (Ext.drewN (Ext.refl _) _)) (by simp) (by simp) ?_; intro g cap w5 ho5 hx5 hg5; clear hg5; have hx25 : Ext w2 w5 := Ext.trans (b := _) (show Ext w2 _ from (by repeat' (first | (with_reducible exact Ext.refl _) | (with_reducible assumption) | (with_reducible refine Ext.alloc ?_ _) | (with_reducible refine Ext.drewN ?_ _) | (with_reducible refine Ext.drew ?_) | (with_reducible refine Ext.trans ?_ (by assumption))))) hx5; have m15 := hx25.cellv m1; have fz5 := Ext.frz hx25 m1 fz)
  all_goals
    have HO5 := Lib.hid ho5
    have hr5 : RefAt (w5.setCell ⟨p, 1, none⟩ (.slice (some ⟨g, 0, none⟩) 4 cap)) p (.slice none 0 0) (.slice (some ⟨g, 0, none⟩) 4 cap) (capF c1 c2 c3) [] (fun _ => 0) := by
      obtain ⟨o1, o2, o3⟩ := HH.out
      have hgp : w2.heap.size ≤ g := (OwnI.lt HO5.out g rfl).1
      have hcz : Chg [p] w5 (w5.setCell ⟨p, 1, none⟩ (.slice (some ⟨g, 0, none⟩) 4 cap)) := (by repeat' (first | (with_reducible exact Chg.refl _ _) | (with_reducible assumption) | (with_reducible refine Chg.drewN ?_ _) | (with_reducible refine Chg.drew ?_) | (with_reducible refine Chg.alloc ?_ _) | (with_reducible refine Chg.setCell ?_ (.inl (by simp)) _) | (with_reducible refine Chg.trans ?_ (by assumption)) | (with_reducible refine Chg.ext ?_ (by assumption))))
      refine ⟨heap_set (o := 1) ((Below.block hx25 _ (Array.getElem?_eq_some_iff.1 HPH.out).1).trans HPH.out) _, Rd.nil _ _, ?_, by simp [Value.ownBlock], ?_⟩
      · have e1 : ((capF c1 c2 c3 1 : Nat) : Int) = c1 := by have := o1.1; simp [capF]; omega
        have e2 : ((capF c1 c2 c3 2 : Nat) : Int) = c2 := by have := o2.1; simp [capF]; omega
        have e3 : ((capF c1 c2 c3 3 : Nat) : Int) = c3 := by have := o3.1; simp [capF]; omega
        rw [e1, e2, e3]
        exact Rd.chg (OwnI.rd HO5.out) hcz (by intro x hx; cases hx; simp; omega)
      · intro e
        have : g = p := by simpa [Value.ownBlock] using e
        omega
    have HR5 := Lib.hid hr5
    have hx5' : Ext w (w5.setCell ⟨p, 1, none⟩ (.slice (some ⟨g, 0, none⟩) 4 cap)) := Below.setCell (show Ext w w5 from hX.trans hx25) (by simpa using hwp) _
    have hgw : w.heap.size ≤ g := Nat.le_trans hX.size (OwnI.lt HO5.out g rfl).1
    clear ho5 hr5 a1 b0 k0 k1 k2
    go_wp2_with fail
    go_ret
    exact ⟨p, _, rfl, HR5.out, hwp, fun x hx => by cases hx; exact hgw, hx5'⟩
end Go.Proofs.Ytibcfmnkpemieaa
