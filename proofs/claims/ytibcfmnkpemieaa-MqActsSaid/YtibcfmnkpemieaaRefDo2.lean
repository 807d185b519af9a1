/-
  gradineref11.Do: what the document's list does is what the cache does. Joined from the ways through it.
-/
import Derived.Test.YtibcfmnkpemieaaRefDo
namespace Go.Proofs.Ytibcfmnkpemieaa
open Go.RowKit

theorem asInts_last : ∀ (x : Nat) (L : List Nat), (asInts (x :: L)).getD L.length 0 = lst 0 (x :: L) := by
  intro x L
  rcases lst_nat (x :: L) 0 with ⟨h, _⟩ | ⟨L0, c, h, hc⟩
  · cases h
  · have hl : L.length = L0.length := by
      have := congrArg List.length h
      simp at this
      exact this
    rw [hc, h, hl]
    unfold asInts
    simp [List.getD]
def actL (cap : Nat) (L : List Nat) (k b : Int) : List Nat := if k = 0 then useL L b else if k = 1 then addL cap L b else remL L b
def actV (cap : Nat) (L : List Nat) (k b : Int) : Int := if k = 1 then addV cap L b else 0
def actG (cap : Nat) (L : List Nat) (k b : Int) : Bool := if k = 1 then addG cap L b else false
def actE (k b : Int) : Int := if k = 1 then addE b else 0

theorem refdo_any (v : Value) (L : List Nat) (cap : Nat) (kd b : Int) (w : World) (h : RdI .i64 w v (asInts L)) (hH : Held cap L) (hc : cap ≤ 16) (h0 : 0 ≤ kd) (h2 : kd ≤ 2) :
    Calls Try.prog 33 #[v, .int .i64 cap, .agg #[.int .i64 kd, .int .i64 b]] w fun e w' => ∃ v', e = .returned (.agg #[v', .int .i64 (actV cap L kd b), .bool (actG cap L kd b), .bool (decide (b ∈ asInts L)), .int .i64 (actE kd b)]) ∧
      RdI .i64 w' v' (asInts (actL cap L kd b)) ∧ (∀ g, v'.ownBlock = some g → (w.heap.size ≤ g ∧ g < w'.heap.size) ∨ v.ownBlock = some g) ∧ Ext w w' := by
  have hf : L.length ≤ 64 := by have := hH.len; omega
  have hcases : kd = 0 ∨ kd = 1 ∨ kd = 2 := by omega
  rcases hcases with rfl | rfl | rfl
  · have e1 : actL cap L 0 b = useL L b := rfl
    have e2 : actV cap L 0 b = 0 := rfl
    have e3 : actG cap L 0 b = false := rfl
    have e4 : actE 0 b = 0 := rfl
    rw [e1, e2, e3, e4]
    by_cases hb : b ∈ asInts L
    · exact refdo_was v L cap 0 b w h hf _ rfl (by decide) (decide_eq_true hb)
    · have e5 : useL L b = L := by unfold useL; rw [if_neg hb]
      rw [e5]
      exact refdo_use v L cap 0 b w h hf _ rfl (by decide) (by decide) (decide_eq_false hb)
  · have e1 : actL cap L 1 b = addL cap L b := rfl
    have e2 : actV cap L 1 b = addV cap L b := rfl
    have e3 : actG cap L 1 b = addG cap L b := rfl
    have e4 : actE 1 b = addE b := rfl
    rw [e1, e2, e3, e4]
    by_cases hb : b ∈ asInts L
    · obtain ⟨a1, a2, a3, a4⟩ := add_mem hH hb
      have e5 : topL L b = useL L b := by unfold useL; rw [if_pos hb]
      rw [a1, a2, a3, a4, e5]
      exact refdo_was v L cap 1 b w h hf _ rfl (by decide) (decide_eq_true hb)
    · by_cases ho : okB b
      · have hn : b.toNat ∉ L := fun hm => hb (mem_asInts.2 ⟨ho.1, hm⟩)
        have ht := top_not hn
        have hb1 : b ≤ 63 := by have := ho.2; omega
        have hcast : ((b.toNat : Nat) : Int) = b := by have := ho.1; omega
        have hai : asInts (b.toNat :: L) = b :: asInts L := by unfold asInts; rw [List.map_cons, hcast]
        have a4 : addE b = 0 := by unfold addE; rw [if_pos ho]
        rw [a4]
        by_cases hl : L.length + 1 ≤ cap
        · have a1 : addL cap L b = b.toNat :: L := by unfold addL; rw [if_pos ho, ht, List.take_of_length_le (by simpa using hl)]
          have a2 : addG cap L b = false := by unfold addG; rw [ht]; simp; intro _; omega
          have a3 : addV cap L b = 0 := by unfold addV; rw [ht, if_neg (by simp; omega)]
          rw [a1, a2, a3, hai]
          exact refdo_new v L cap 1 b w h hf _ rfl (by decide) (by decide) (decide_eq_false hb) ho.1 hb1 hl
        · have hle := hH.len
          have a1 : asInts (addL cap L b) = (b :: asInts L).take L.length := by
            unfold addL
            rw [if_pos ho, ht, ← hai]
            unfold asInts
            rw [List.map_take]
            congr 1; omega
          have a2 : addG cap L b = true := by unfold addG; rw [ht]; simp; exact ⟨ho, by omega⟩
          have a3 : addV cap L b = (b :: asInts L).getD L.length 0 := by unfold addV; rw [ht, if_pos ⟨ho, by simp; omega⟩, ← hai, asInts_last]
          rw [a1, a2, a3]
          exact refdo_over v L cap 1 b w h hf _ rfl (by decide) (by decide) (decide_eq_false hb) ho.1 hb1 (by omega) _ rfl _ rfl
      · have a1 : addL cap L b = L := by unfold addL; rw [if_neg ho]
        have a2 : addG cap L b = false := by unfold addG; simp; intro h; exact absurd h ho
        have a3 : addV cap L b = 0 := by unfold addV; rw [if_neg (fun h => ho h.1)]
        have a4 : addE b = 3 := by unfold addE; rw [if_neg ho]
        rw [a1, a2, a3, a4]
        by_cases hlo : b < 0
        · exact refdo_lo v L cap 1 b w h hf _ rfl (by decide) (by decide) (decide_eq_false hb) hlo
        · exact refdo_hi v L cap 1 b w h hf _ rfl (by decide) (by decide) (decide_eq_false hb) (by unfold okB at ho; omega)
  · have e1 : actL cap L 2 b = remL L b := rfl
    have e2 : actV cap L 2 b = 0 := rfl
    have e3 : actG cap L 2 b = false := rfl
    have e4 : actE 2 b = 0 := rfl
    rw [e1, e2, e3, e4]
    exact refdo2 v L cap 2 b w h hf _ rfl (by decide)
theorem Held.act {cap : Nat} {L : List Nat} (h : Held cap L) (k b : Int) : Held cap (actL cap L k b) := by
  unfold actL
  split
  · exact h.use b
  · split
    · exact h.add b
    · exact h.rem b
/-- what reads still reads, if its block is none of those that changed -/
theorem RdI.chg {S : List Nat} {k : IntKind} {w w' : World} {v : Value} {l : List Int} (h : RdI k w v l) (hx : Chg S w w') (hS : ∀ g, v.ownBlock = some g → g ∉ S) : RdI k w' v l := by
  obtain ⟨h1, a, c, rfl, h2, h3, h4, h5⟩ := h
  refine ⟨h1, a, c, rfl, h2, h3, h4, fun hn => ?_⟩
  obtain ⟨b, o, rfl, hlt, hc⟩ := h5 hn
  refine ⟨b, o, rfl, Nat.lt_of_lt_of_le hlt hx.size, fun j x hj => ?_⟩
  exact chg_cell hx (hc j x hj) (hS b rfl)
end Go.Proofs.Ytibcfmnkpemieaa
