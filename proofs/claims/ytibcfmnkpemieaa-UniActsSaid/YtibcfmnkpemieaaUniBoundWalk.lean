/-
  gradinelaw13.UniBound answers true. No condition.
-/
import Derived.Test.YtibcfmnkpemieaaUniWakes
import Derived.Test.YtibcfmnkpemieaaArr
import Derived.Deep.RegionHeld3
namespace Go.Proofs.Ytibcfmnkpemieaa
open Go.RowKit

theorem uni_nil (caps : Nat → Nat) : Uni caps [] (fun _ => 0) := ⟨stk_nil, fun l _ _ => by simp [cntU], fun _ => by simp [cntU], fun h => absurd rfl h⟩

/-- what a use does, whatever the block: the state behind it -/
def afterU (caps : Nat → Nat) (S : List Nat × (Nat → Nat)) (b : Int) : List Nat × (Nat → Nat) := if okB b then usedM caps S.1 S.2 b.toNat else S
theorem after_uni {caps : Nat → Nat} {S : List Nat × (Nat → Nat)} (h : Uni caps S.1 S.2) (b : Int) : Uni caps (afterU caps S b).1 (afterU caps S b).2 := by
  unfold afterU
  split
  · rename_i hb
    exact used_uni h (by have := hb.1; have := hb.2; omega)
  · exact h
theorem uuse_any (pu bs be : Nat) (caps : Nat → Nat) (S : List Nat × (Nat → Nat)) (w : World) (h : UniAt w pu bs be caps S.1 S.2) (b : Int) :
    Calls Try.prog 15 #[.pointer (some ⟨pu, 0, none⟩), .int .i64 b] w fun e w' => ∃ a v f, e = .returned (.tuple #[.int .i64 a, v, .int .i64 f]) ∧
      UniAt w' pu bs be caps (afterU caps S b).1 (afterU caps S b).2 ∧ Chg [pu, bs, be] w w' := by
  unfold afterU
  by_cases hb : okB b
  · rw [if_pos hb]
    obtain ⟨k, rfl⟩ := Int.eq_ofNat_of_zero_le hb.1
    rw [Int.toNat_natCast]
    refine (uuse pu bs be caps _ _ w h k (by have := hb.2; omega)).mono ?_
    rintro e w' ⟨v, rfl, hU, _, hc⟩
    exact ⟨_, v, _, rfl, hU, hc⟩
  · rw [if_neg hb]
    refine (uuse_out pu w b hb).mono ?_
    rintro e w' ⟨rfl, rfl⟩
    exact ⟨_, _, _, rfl, h, Chg.refl _ _⟩

set_option maxHeartbeats 2000000 in
theorem walk_UniBound (v0 v1 : Value) (w : World) (h0 : IsArr .i64 3 v0) (h1 : IsInts .i64 w v1) :
    Calls Try.prog 3 #[v0, v1] w fun e w' => e = .returned (.bool true) ∧ Ext w w' := by
  obtain ⟨c1, c2, c3, rfl, _, _, _⟩ := h0.three
  obtain ⟨l, hl, hlw⟩ := h1
  obtain ⟨a, k0, rfl, hlk, hkm, hnil, hcells⟩ := hl.parts
  have hn63 : (l.length : Int) ≤ 9223372036854775807 := by unfold maxLen at hkm; omega
  have HC := Lib.hid hcells
  clear h0 hl hlw hnil hcells hkm
  obtain ⟨n, hn⟩ : ∃ n, l.length = n := ⟨_, rfl⟩
  rw [hn] at hn63 hlk ⊢
  have HN := Lib.hid hn
  clear hn
  by_cases h120 : (120 : Int) < (n : Int)
  · go_enter Try.func3, Try.ntmps3
    go_wp2_with fail
    refine (wakes13 _).mono ?_
    rintro e w1 ⟨rfl, hx1⟩
    go_wp2_with fail
    go_ret
    exact ⟨rfl, (by repeat' (first | (with_reducible exact Ext.refl _) | (with_reducible assumption) | (with_reducible refine Ext.alloc ?_ _) | (with_reducible refine Ext.drewN ?_ _) | (with_reducible refine Ext.drew ?_) | (with_reducible refine Ext.trans ?_ (by assumption))))⟩
  · have hn120 : (n : Int) ≤ 120 := by omega
    go_enter Try.func3, Try.ntmps3
    go_wp2_with fail
    have q0 : (w.alloc (.cells #[.int .i64 c1, .int .i64 c2, .int .i64 c3] 22)).cell? ⟨w.heap.size, 0, none⟩ = some (.int .i64 c1) := cell_new _ _ _ _ rfl
    have q1 : (w.alloc (.cells #[.int .i64 c1, .int .i64 c2, .int .i64 c3] 22)).cell? ⟨w.heap.size, 1, none⟩ = some (.int .i64 c2) := cell_new _ _ _ _ rfl
    have q2 : (w.alloc (.cells #[.int .i64 c1, .int .i64 c2, .int .i64 c3] 22)).cell? ⟨w.heap.size, 2, none⟩ = some (.int .i64 c3) := cell_new _ _ _ _ rfl
    obtain ⟨w0, hw0⟩ : ∃ w0, w0 = w.alloc (.cells #[.int .i64 c1, .int .i64 c2, .int .i64 c3] 22) := ⟨_, rfl⟩
    have hx0 : Ext w w0 := by rw [hw0]; exact (Ext.refl w).alloc _
    rw [← hw0] at q0 q1 q2 ⊢
    clear hw0
    obtain ⟨pb, hpb⟩ : ∃ pb, pb = w.heap.size := ⟨_, rfl⟩
    rw [← hpb] at q0 q1 q2 ⊢
    have hpw0 : pb < w0.heap.size := cell_lt q0
    have hpbw : w.heap.size ≤ pb := by omega
    clear hpb
    refine (wakes13 _).mono ?_
    rintro e w1 ⟨rfl, hx1⟩
    have r0 := hx1.cellv q0
    have r1 := hx1.cellv q1
    have r2 := hx1.cellv q2
    have hX1 : Ext w w1 := hx0.trans hx1
    clear q0 q1 q2
    go_wp2_with fail
    refine (unew c1 c2 c3 _).mono ?_
    intro e w2 hr
    have hpw1 : pb < w1.heap.size := cell_lt r0
    rcases hr with ⟨_, rfl, hx2⟩ | ⟨⟨o1, o2, o3⟩, p, bs, be, rfl, hU, hp, hb1, hb2, hx2⟩
    · clear r0 r1 r2
      go_wp2_with fail
      go_ret
      exact ⟨rfl, (by repeat' (first | (with_reducible exact Ext.refl _) | (with_reducible assumption) | (with_reducible refine Ext.alloc ?_ _) | (with_reducible refine Ext.drewN ?_ _) | (with_reducible refine Ext.drew ?_) | (with_reducible refine Ext.trans ?_ (by assumption))))⟩
    · have s0 := hx2.cellv r0
      have s1 := hx2.cellv r1
      have s2 := hx2.cellv r2
      have hX2 : Ext w w2 := hX1.trans hx2
      have hS1 : ∀ s ∈ [p, bs, be], w1.heap.size ≤ s := by simp; omega
      have hw1 := hX1.size
      have HS1 := Lib.hid hS1
      obtain ⟨y1, y2⟩ := o1
      obtain ⟨y3, y4⟩ := o2
      obtain ⟨y5, y6⟩ := o3
      obtain ⟨d1, rfl⟩ := Int.eq_ofNat_of_zero_le (show 0 ≤ c1 by omega)
      obtain ⟨d2, rfl⟩ := Int.eq_ofNat_of_zero_le (show 0 ≤ c2 by omega)
      obtain ⟨d3, rfl⟩ := Int.eq_ofNat_of_zero_le (show 0 ≤ c3 by omega)
      have hX21 : Ext w1 w2 := hx2
      clear hS1 hx2
      obtain ⟨caps, hcaps⟩ : ∃ caps, caps = capF d1 d2 d3 := ⟨_, rfl⟩
      rw [← hcaps] at hU
      have e1 : caps 1 = d1 := by rw [hcaps]; simp [capF]
      have e2 : caps 2 = d2 := by rw [hcaps]; simp [capF]
      have e3 : caps 3 = d3 := by rw [hcaps]; simp [capF]
      have hcell : ∀ j, j < 3 → w1.cell? ⟨pb, j, none⟩ = some (.int .i64 (caps (j + 1))) := by
        intro j hj
        have : j = 0 ∨ j = 1 ∨ j = 2 := by omega
        rcases this with rfl | rfl | rfl
        · rw [e1]; exact r0
        · rw [e2]; exact r1
        · rw [e3]; exact r2
      have HCELL := Lib.hid hcell
      have HCAP1 := Lib.hid e1
      have hU0 : UniAt w2 p bs be caps ([] : List Nat) (fun _ => 0) := hU
      have hI0 : Uni caps ([] : List Nat) (fun _ => 0) := uni_nil caps
      clear e1 e2 e3 hcell hcaps hU r0 r1 r2 s0 s1 s2
      go_wp2_with fail
      go_loopw [26] (fun ci wr => ∃ (k : Nat) (S : List Nat × (Nat → Nat)), k ≤ n ∧ ci = .int .i64 k ∧ UniAt wr p bs be caps S.1 S.2 ∧ Uni caps S.1 S.2 ∧ Ext w1 wr) (fun ci _ => n - (intOf ci).toNat)
      case atStart => exact ⟨0, ([], fun _ => 0), Nat.zero_le _, rfl, hU0, hI0, hX21⟩
      case round =>
        obtain ⟨k, S, hk, rfl, hU, hI, hx⟩ := hrel
        have HU := Lib.hid hU
        have HI := Lib.hid hI
        clear hU hI
        by_cases hlt : k < n
        · obtain ⟨g, o, rfl, hg, hcc⟩ := HC.out (by intro e; have := HN.out; rw [e] at this; simp at this; omega)
          have x0 := (hX1.trans hx).cellv (hcc k (by have := HN.out; omega))
          obtain ⟨x, hxx⟩ : ∃ x, l.getD k 0 = x := ⟨_, rfl⟩
          rw [hxx] at x0
          have hki : (k : Int) < (n : Int) := by omega
          clear hcc hxx
          go_wp2_with fail
          refine (uuse_any p bs be caps S _ HU.out x).mono ?_
          rintro e w4 ⟨ra, rv, rf, rfl, hU4, hc4⟩
          have hx4 : Ext w1 w4 := hx.chg hc4 HS1.out
          have hI4 := after_uni HI.out x
          obtain ⟨T, hT⟩ : ∃ T, afterU caps S x = T := ⟨_, rfl⟩
          rw [hT] at hU4 hI4
          have HU4 := Lib.hid hU4
          have HI4 := Lib.hid hI4
          clear hT hU4 hI4 hc4 x0
          go_wp2_with fail
          obtain ⟨wo, rfl⟩ : ∃ wo : World, wo = wr := ⟨_, rfl⟩
          go_loopw [33] (fun cj wj => ∃ j : Nat, j ≤ 3 ∧ cj = .int .i64 j ∧ Ext w4 wj) (fun cj _ => 3 - (intOf cj).toNat)
          case atStart => exact ⟨0, by omega, rfl, Ext.refl _⟩
          case round =>
            obtain ⟨j, hj, rfl, hxj⟩ := hrel
            by_cases hj3 : j < 3
            · have xj := (hx4.trans hxj).cellv (HCELL.out j hj3)
              obtain ⟨m, hm⟩ : ∃ m, caps (j + 1) = m := ⟨_, rfl⟩
              obtain ⟨c, hc⟩ : ∃ c, (if 1 ≤ (j : Int) + 1 ∧ (j : Int) + 1 ≤ 4 then cntU T.1 T.2 ((j : Int) + 1).toNat else 0) = c := ⟨_, rfl⟩
              have hcm : c ≤ m := by
                rw [← hc, ← hm, if_pos (by omega), show ((j : Int) + 1).toNat = j + 1 by omega]
                exact HI4.out.fit (j + 1) (by omega) (by omega)
              have hcmi : (c : Int) ≤ (m : Int) := by omega
              have HCC := Lib.hid hc
              rw [hm] at xj
              have hji : (j : Int) < 3 := by omega
              have hwr : IntKind.i64.wrap ((j : Int) + 1) = (j : Int) + 1 := by rw [IntKind.wrap_i64]; omega
              clear hc hm hcm
              go_wp2_with fail
              go_region_held3 (fun w' => w'.cell? ⟨pb, j, none⟩ = some (.int .i64 m) ∧ Ext wr w') (exact ⟨Ext.cellv (w := wr) (by repeat' (first | (with_reducible exact Ext.refl _) | (with_reducible assumption) | (with_reducible refine Ext.alloc ?_ _) | (with_reducible refine Ext.drewN ?_ _) | (with_reducible refine Ext.drew ?_) | (with_reducible refine Ext.trans ?_ (by assumption)))) xj, (by repeat' (first | (with_reducible exact Ext.refl _) | (with_reducible assumption) | (with_reducible refine Ext.alloc ?_ _) | (with_reducible refine Ext.drewN ?_ _) | (with_reducible refine Ext.drew ?_) | (with_reducible refine Ext.trans ?_ (by assumption))))⟩)
                (first | (go_at_call 16; refine (ucount p bs be caps _ _ _ (HU4.out.ext (by repeat' (first | (with_reducible exact Ext.refl _) | (with_reducible assumption) | (with_reducible refine Ext.alloc ?_ _) | (with_reducible refine Ext.drewN ?_ _) | (with_reducible refine Ext.drew ?_) | (with_reducible refine Ext.trans ?_ (by assumption))))) ((j : Int) + 1) c HCC.out).mono ?_; rintro e wC ⟨rfl, rfl⟩))
              all_goals
                go_wp2_with fail
                go_roundw
                case rel => exact ⟨j + 1, by omega, by go_num, (by repeat' (first | (with_reducible exact Ext.refl _) | (with_reducible assumption) | (with_reducible refine Ext.alloc ?_ _) | (with_reducible refine Ext.drewN ?_ _) | (with_reducible refine Ext.drew ?_) | (with_reducible refine Ext.trans ?_ (by assumption))))⟩
                case measure => simp [intOf]; omega
            · obtain rfl : j = 3 := by omega
              have xj := (hx4.trans hxj).cellv (HCELL.out 0 (by omega))
              rw [Nat.zero_add] at xj
              obtain ⟨m, hm⟩ : ∃ m, caps 1 = m := ⟨_, rfl⟩
              have E1 := Lib.hid (show (if (1 : Int) ≤ 1 ∧ (1 : Int) ≤ 4 then cntU T.1 T.2 (1 : Int).toNat else 0) = cntU T.1 T.2 1 from rfl)
              have E2 := Lib.hid (show (if (1 : Int) ≤ 2 ∧ (2 : Int) ≤ 4 then cntU T.1 T.2 (2 : Int).toNat else 0) = cntU T.1 T.2 2 from rfl)
              have E3 := Lib.hid (show (if (1 : Int) ≤ 3 ∧ (3 : Int) ≤ 4 then cntU T.1 T.2 (3 : Int).toNat else 0) = cntU T.1 T.2 3 from rfl)
              have E4 := Lib.hid (show (if (1 : Int) ≤ 4 ∧ (4 : Int) ≤ 4 then cntU T.1 T.2 (4 : Int).toNat else 0) = cntU T.1 T.2 4 from rfl)
              have hden := HI4.out.dense
              unfold Dense at hden
              rw [hm] at hden xj
              obtain ⟨c, hc⟩ : ∃ c, cntU T.1 T.2 1 = c := ⟨_, rfl⟩
              rw [hc] at hden E1
              clear hc hm
              by_cases hcm : c < m
              · obtain ⟨d2', d3', d4'⟩ := hden hcm
                rw [d2'] at E2
                rw [d3'] at E3
                rw [d4'] at E4
                have hcmi : (c : Int) < (m : Int) := by omega
                clear hden d2' d3' d4' hcm
                go_wp2_with fail
                go_region_held3 (fun w' => w'.cell? ⟨pb, 0, none⟩ = some (.int .i64 m) ∧ Ext wr w') (exact ⟨Ext.cellv (w := wr) (by repeat' (first | (with_reducible exact Ext.refl _) | (with_reducible assumption) | (with_reducible refine Ext.alloc ?_ _) | (with_reducible refine Ext.drewN ?_ _) | (with_reducible refine Ext.drew ?_) | (with_reducible refine Ext.trans ?_ (by assumption)))) xj, (by repeat' (first | (with_reducible exact Ext.refl _) | (with_reducible assumption) | (with_reducible refine Ext.alloc ?_ _) | (with_reducible refine Ext.drewN ?_ _) | (with_reducible refine Ext.drew ?_) | (with_reducible refine Ext.trans ?_ (by assumption))))⟩)
                  (first | (go_at_call 16; refine (ucount p bs be caps _ _ _ (HU4.out.ext (by repeat' (first | (with_reducible exact Ext.refl _) | (with_reducible assumption) | (with_reducible refine Ext.alloc ?_ _) | (with_reducible refine Ext.drewN ?_ _) | (with_reducible refine Ext.drew ?_) | (with_reducible refine Ext.trans ?_ (by assumption))))) _ _ rfl).mono ?_; rintro e wC ⟨rfl, rfl⟩; first | rw [E1.out] | rw [E2.out] | rw [E3.out] | rw [E4.out]))
                all_goals
                  go_wp2_with fail
                  go_roundw
                  case rel => exact ⟨k + 1, T, by omega, by go_num, HU4.out.ext (by repeat' (first | (with_reducible exact Ext.refl _) | (with_reducible assumption) | (with_reducible refine Ext.alloc ?_ _) | (with_reducible refine Ext.drewN ?_ _) | (with_reducible refine Ext.drew ?_) | (with_reducible refine Ext.trans ?_ (by assumption)))), HI4.out, (by repeat' (first | (with_reducible exact Ext.refl _) | (with_reducible assumption) | (with_reducible refine Ext.alloc ?_ _) | (with_reducible refine Ext.drewN ?_ _) | (with_reducible refine Ext.drew ?_) | (with_reducible refine Ext.trans ?_ (by assumption))))⟩
                  case measure => simp [intOf]; omega
              · have hcmi : decide ((c : Int) < (m : Int)) = false := by simp; omega
                clear hden
                go_wp2_with fail
                go_quiet ((go_at_call 16; exact Calls.quiet_of_same ((ucount p bs be caps _ _ _ (HU4.out.ext (by repeat' (first | (with_reducible exact Ext.refl _) | (with_reducible assumption) | (with_reducible refine Ext.alloc ?_ _) | (with_reducible refine Ext.drewN ?_ _) | (with_reducible refine Ext.drew ?_) | (with_reducible refine Ext.trans ?_ (by assumption))))) 1 c E1.out).mono fun e w' h => ⟨h.1, h.2.symm⟩)))
                go_wp2_with fail
                go_roundw
                case rel => exact ⟨k + 1, T, by omega, by go_num, HU4.out.ext (by repeat' (first | (with_reducible exact Ext.refl _) | (with_reducible assumption) | (with_reducible refine Ext.alloc ?_ _) | (with_reducible refine Ext.drewN ?_ _) | (with_reducible refine Ext.drew ?_) | (with_reducible refine Ext.trans ?_ (by assumption)))), HI4.out, (by repeat' (first | (with_reducible exact Ext.refl _) | (with_reducible assumption) | (with_reducible refine Ext.alloc ?_ _) | (with_reducible refine Ext.drewN ?_ _) | (with_reducible refine Ext.drew ?_) | (with_reducible refine Ext.trans ?_ (by assumption))))⟩
                case measure => simp [intOf]; omega
        · obtain rfl : k = n := by omega
          go_wp2_with fail
          go_ret
          exact ⟨rfl, (by repeat' (first | (with_reducible exact Ext.refl _) | (with_reducible assumption) | (with_reducible refine Ext.alloc ?_ _) | (with_reducible refine Ext.drewN ?_ _) | (with_reducible refine Ext.drew ?_) | (with_reducible refine Ext.trans ?_ (by assumption))))⟩
end Go.Proofs.Ytibcfmnkpemieaa
