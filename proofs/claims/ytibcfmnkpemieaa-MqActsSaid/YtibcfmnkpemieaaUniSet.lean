/-
  uni.Stack.set, Level, Count, All. No condition but that the stack lies in memory.
-/
import Derived.Test.YtibcfmnkpemieaaRows
import Derived.Test.YtibcfmnkpemieaaUniMem
namespace Go.Proofs.Ytibcfmnkpemieaa
open Go.RowKit

set_option maxHeartbeats 1000000 in
theorem uset (pu bs : Nat) (caps lv : Nat → Nat) (cn : Nat → Int) (b x : Nat) (w : World) (h : UAt w pu bs caps lv cn) (hb : b < 64) (hx : x < 5) (hl : lv b < 5) (hc : ∀ l, -1000 ≤ cn l ∧ cn l ≤ 1000) :
    Calls Try.prog 53 #[.pointer (some ⟨pu, 0, none⟩), .int .i64 b, .int .i64 x] w fun e w' => e = .returned (.tuple #[]) ∧ UAt w' pu bs caps (updN lv b x) (setCn lv cn b x) ∧ Chg [pu] w w' := by
  have c1 := h.lev hb
  have c2 := h.cnt hl
  have hf := h.free
  have hbi : (b : Int) < 64 := by omega
  have hxi : (x : Int) < 5 := by omega
  have hli : (lv b : Int) < 5 := by omega
  obtain ⟨c10, c11⟩ := hc (lv b)
  go_enter Try.func53, Try.ntmps53
  go_wp2_with fail
  go_region_with (fail)
  have hw0 : IntKind.i64.wrap (cn (lv b) - 1) = cn (lv b) - 1 := by rw [IntKind.wrap_i64]; omega
  obtain ⟨w1, hw1⟩ : ∃ w1, w1 = (w.setCell ⟨pu, 69 + lv b, none⟩ (.int .i64 (IntKind.i64.wrap (cn (lv b) - 1)))).drew := ⟨_, rfl⟩
  rw [← hw1]
  rw [hw0] at hw1
  have h1 : UAt w1 pu bs caps lv (updI cn (lv b) (cn (lv b) - 1)) := by rw [hw1]; exact (h.setCnt hl _).ext (Ext.refl _).drew
  have hc1 : Chg [pu] w w1 := by rw [hw1]; exact ((Chg.refl _ _).setCell (.inl (by simp)) _).drew
  have h2 := h1.setLev hb x
  have hc2 : Chg [pu] w (w1.setCell ⟨pu, 5 + b, none⟩ (.int .i64 x)) := hc1.setCell (.inl (by simp)) _
  have f1 := h1.free
  have f2 := h2.free
  have e1 := h1.lev hb
  have e2 := h2.cnt hx
  obtain ⟨y, hy⟩ : ∃ y, y = updI cn (lv b) (cn (lv b) - 1) x := ⟨_, rfl⟩
  have hy1 : -2000 ≤ y ∧ y ≤ 2000 := by
    have := hc x
    rw [hy]; unfold updI; split <;> omega
  obtain ⟨y1, y2⟩ := hy1
  have hs : setCn lv cn b x = updI (updI cn (lv b) (cn (lv b) - 1)) x (y + 1) := by rw [hy]; rfl
  rw [← hy] at e2
  have HS := Lib.hid hs
  clear hs hy hw1 hw0 c1 c2 hf h
  go_wp2_with fail
  have hw2 : IntKind.i64.wrap (y + 1) = y + 1 := by rw [IntKind.wrap_i64]; omega
  obtain ⟨w2, hw2'⟩ : ∃ w2, w2 = w1.setCell ⟨pu, 5 + b, none⟩ (.int .i64 x) := ⟨_, rfl⟩
  rw [← hw2'] at h2 hc2 f2 e2 ⊢
  clear hw2' f1 e1 h1 hc1
  go_region_with (fail)
  all_goals
    obtain ⟨w3, hw3⟩ : ∃ w3, w3 = (w2.setCell ⟨pu, 69 + x, none⟩ (.int .i64 (y + 1))).drew := ⟨_, rfl⟩
    rw [← hw3]
    have h3 : UAt w3 pu bs caps (updN lv b x) (updI (updI cn (lv b) (cn (lv b) - 1)) x (y + 1)) := by rw [hw3]; exact (h2.setCnt hx _).ext (Ext.refl _).drew
    have hc3 : Chg [pu] w w3 := by rw [hw3]; exact (hc2.setCell (.inl (by simp)) _).drew
    rw [← HS.out] at h3
    clear hw3 h2 hc2 f2 e2
    go_wp2_with fail
    go_end0
    exact ⟨rfl, h3, hc3⟩

theorem ulevel (pu bs : Nat) (caps lv : Nat → Nat) (cn : Nat → Int) (b : Int) (r : Nat) (hr : (if okB b then lv b.toNat else 0) = r) (w : World) (h : UAt w pu bs caps lv cn) :
    Calls Try.prog 17 #[.pointer (some ⟨pu, 0, none⟩), .int .i64 b] w fun e w' => e = .returned (.int .i64 r) ∧ w = w' := by
  by_cases hb : okB b
  · rw [if_pos hb] at hr
    obtain ⟨k, rfl⟩ := Int.eq_ofNat_of_zero_le hb.1
    have hk : k < 64 := by have := hb.2; omega
    have c1 := h.lev hk
    rw [Int.toNat_natCast] at hr
    rw [hr] at c1
    have hki : (k : Int) < 64 := by omega
    clear hb hr h
    go_enter Try.func17, Try.ntmps17
    go_wp2_with fail
    go_ret
    exact ⟨rfl, rfl⟩
  · rw [if_neg hb] at hr
    subst hr
    clear h
    by_cases h0 : 0 ≤ b
    · have h1 : 64 ≤ b := by unfold okB at hb; omega
      clear hb
      go_enter Try.func17, Try.ntmps17
      go_wp2_with fail
      go_ret
      exact ⟨rfl, rfl⟩
    · have h1 : b < 0 := by omega
      clear hb h0
      go_enter Try.func17, Try.ntmps17
      go_wp2_with fail
      go_ret
      exact ⟨rfl, rfl⟩

section
variable (pu bs be : Nat) (caps : Nat → Nat) (M : List Nat) (lv : Nat → Nat) (w : World) (h : UniAt w pu bs be caps M lv)
include h
theorem ucount (l : Int) (r : Nat) (hr : (if 1 ≤ l ∧ l ≤ 4 then cntU M lv l.toNat else 0) = r) :
    Calls Try.prog 16 #[.pointer (some ⟨pu, 0, none⟩), .int .i64 l] w fun e w' => e = .returned (.int .i64 r) ∧ w = w' := by
  by_cases hb : 1 ≤ l ∧ l ≤ 4
  · rw [if_pos hb] at hr
    obtain ⟨k, rfl⟩ := Int.eq_ofNat_of_zero_le (show 0 ≤ l by omega)
    have c1 := h.cnt (l := k) (by omega) (by omega)
    rw [Int.toNat_natCast] at hr
    rw [hr] at c1
    have hk1 : (1 : Int) ≤ (k : Int) := hb.1
    have hk4 : (k : Int) ≤ 4 := hb.2
    clear hb hr h
    go_enter Try.func16, Try.ntmps16
    go_wp2_with fail
    go_ret
    exact ⟨rfl, rfl⟩
  · rw [if_neg hb] at hr
    subst hr
    clear h
    by_cases h0 : 1 ≤ l
    · have h1 : 4 < l := by omega
      clear hb
      go_enter Try.func16, Try.ntmps16
      go_wp2_with fail
      go_ret
      exact ⟨rfl, rfl⟩
    · have h1 : l < 1 := by omega
      clear hb h0
      go_enter Try.func16, Try.ntmps16
      go_wp2_with fail
      go_ret
      exact ⟨rfl, rfl⟩
theorem uall : Calls Try.prog 18 #[.pointer (some ⟨pu, 0, none⟩)] w fun e w' => ∃ v, e = .returned v ∧ OwnI .i64 3 w.heap.size w' v (asInts M) ∧ Ext w w' := by
  have c0 := h.obj.c0
  go_enter Try.func18, Try.ntmps18
  go_wp2_with fail
  refine (all_any bs be [M] 0 _ h.space).mono ?_
  rintro e w1 ⟨v, rfl, ho, hx⟩
  rw [all_one] at ho
  go_wp2_with fail
  go_ret
  exact ⟨_, rfl, ho, (by repeat' (first | (with_reducible exact Ext.refl _) | (with_reducible assumption) | (with_reducible refine Ext.alloc ?_ _) | (with_reducible refine Ext.drewN ?_ _) | (with_reducible refine Ext.drew ?_) | (with_reducible refine Ext.trans ?_ (by assumption))))⟩
end
end Go.Proofs.Ytibcfmnkpemieaa
