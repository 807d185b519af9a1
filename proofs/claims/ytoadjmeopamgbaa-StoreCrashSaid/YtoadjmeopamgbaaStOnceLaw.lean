/-
  A write that comes again. No program in sight.
-/
import Derived.Test.YtoadjmeopamgbaaStView
namespace Go.Proofs.Ytoadjmeopamgbaa

section
variable {h : Sh} (ok : h.Ok) {d : Dk} (hf : Fresh d) (hm : h.many ≤ d.rows.length) {c k blk : Nat} (hc : c < h.c) (hk : k < h.k) (hb : blk < h.b) {b o : Int} (hbb : 1 ≤ b ∧ b ≤ 1099511627776) (hoo : 1 ≤ o ∧ o ≤ 1099511627776) {D : List Int} (hD : D.length = h.s)
include ok hf hm hc hk hb hbb hoo hD
theorem once_law (he : (stW2 h d c k blk b o D).1.2 = 0) : sSlot ((stW2 h d c k blk b o D).2.rows.getD (h.slotAt c k) []) = (b, o, (stW2 h d c k blk b o D).1.1) := by
  obtain ⟨_, h1 | h2 | h3 | h4⟩ := st_view ok hf hm hc hk hb hbb hoo hD
  · rw [h1.2] at he; cases he
  · obtain ⟨_, ⟨e1, e2⟩, e⟩ := h2
    rw [e]
    show sSlot (d.rows.getD (h.slotAt c k) []) = (b, o, (sSlot (d.rows.getD (h.slotAt c k) [])).2.2)
    rw [e1, e2]
  · rw [h3.2.2.2.2.slot, h3.2.2.2.1]
  · rw [h4.2.2.2.2.slot, h4.2.2.2.1]
end
theorem once_again {h : Sh} {d : Dk} {c k blk : Nat} {b o z : Int} {D : List Int} (hs : sSlot (d.rows.getD (h.slotAt c k) []) = (b, o, z)) : stW2 h d c k blk b o D = ((z, 0), d) := by
  unfold stW2
  rw [hs]
  simp
theorem once_old {h : Sh} {d : Dk} {c k blk : Nat} {b o z : Int} {D : List Int} (hs : sSlot (d.rows.getD (h.slotAt c k) []) = (b, o, z)) : stW2 h d c k blk b (o - 1) D = ((0, 12), d) := by
  unfold stW2
  rw [hs, if_pos (.inr ⟨rfl, by show o - 1 < o; omega⟩)]
/-- a write that may be, as numbers that may be -/
theorem fit_nat {h : Sh} {a s b o bk : Int} {n : Nat} (hz : stBad h a s b o bk n = 0) : ∃ c k blk : Nat, a = (c : Nat) ∧ s = (k : Nat) ∧ bk = (blk : Nat) ∧ c < h.c ∧ k < h.k ∧ blk < h.b ∧ (1 ≤ b ∧ b ≤ 1099511627776) ∧ (1 ≤ o ∧ o ≤ 1099511627776) ∧ n = h.s := by
  unfold stBad at hz
  by_cases h1 : 0 ≤ bk ∧ bk < h.b
  · rw [if_neg (fun h => h h1)] at hz
    by_cases h2 : n = h.s
    · rw [if_neg (fun h => h h2)] at hz
      by_cases h3 : FitW h a s b o
      · unfold FitW at h3
        exact ⟨a.toNat, s.toNat, bk.toNat, by omega, by omega, by omega, by omega, by omega, by omega, by omega, by omega, h2⟩
      · rw [if_pos h3] at hz; cases hz
    · rw [if_pos h2] at hz; cases hz
  · rw [if_pos h1] at hz; cases hz
theorem bad_old {h : Sh} {a s b o bk : Int} {n : Nat} (hz : stBad h a s b o bk n = 0) : stBad h a s b (o - 1) bk n = if o = 1 then 6 else 0 := by
  obtain ⟨c, k, blk, rfl, rfl, rfl, h1, h2, h3, h4, h5, h6⟩ := fit_nat hz
  unfold stBad
  rw [if_neg (fun h => h ⟨by omega, by omega⟩), if_neg (fun h => h h6)]
  by_cases e : o = 1
  · rw [if_pos e, if_pos (by unfold FitW; omega)]
  · rw [if_neg e, if_neg (fun h => h (by unfold FitW; omega))]
end Go.Proofs.Ytoadjmeopamgbaa
