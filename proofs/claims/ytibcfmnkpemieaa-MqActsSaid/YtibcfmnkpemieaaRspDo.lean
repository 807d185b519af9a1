/-
  gradineref10.Space.Do. No condition but that the space lies in memory, and that no block is in two lists.
-/
import Derived.Test.YtibcfmnkpemieaaRspOf
import Derived.Maps.AppendAt
import Derived.Deep.Cut
import Derived.Deep.CutRange
import Derived.Deep.RegionHeld3
namespace Go.Proofs.Ytibcfmnkpemieaa
open Go.RowKit

theorem mem_as {L : List Nat} {b : Nat} : (b : Int) ∈ asInts L ↔ b ∈ L := by
  unfold asInts
  rw [List.mem_map]
  constructor
  · rintro ⟨x, hx, he⟩
    have : x = b := by omega
    exact this ▸ hx
  · exact fun h => ⟨b, h, rfl⟩
theorem ofR_eq (Ls : List (List Nat)) (b : Nat) : ofR Ls b = match ofL Ls b with | some l => (l : Int) | none => -1 := by
  unfold ofR ofL
  simp only [mem_as]
  cases (List.range Ls.length).find? (fun l => decide (b ∈ Ls.getD l [])) <;> rfl
/-- no block is in two lists -/
def Uni (Ls : List (List Nat)) : Prop := ∀ i j x, i < Ls.length → j < Ls.length → x ∈ Ls.getD i [] → x ∈ Ls.getD j [] → i = j
theorem wo_as (L : List Nat) (b : Nat) : woL (asInts L) b = asInts (L.filter (· ≠ b)) := by
  unfold woL asInts
  induction L with
  | nil => rfl
  | cons x t ih =>
    by_cases e : x = b
    · subst e
      simp at ih ⊢
      exact ih
    · have e' : ¬ (x : Int) = (b : Int) := by omega
      simp [e, e'] at ih ⊢
      exact ih
theorem ofL_mem {Ls : List (List Nat)} {b i : Nat} (h : ofL Ls b = some i) : i < Ls.length ∧ b ∈ Ls.getD i [] := by
  unfold ofL at h
  rw [List.find?_range_eq_some] at h
  exact ⟨by simpa using h.2.1, by simpa using h.1⟩
theorem ofL_not {Ls : List (List Nat)} {b : Nat} (h : ofL Ls b = none) : ∀ j, j < Ls.length → b ∉ Ls.getD j [] := by
  unfold ofL at h
  rw [List.find?_range_eq_none] at h
  exact fun j hj => by simpa using h j hj
theorem filter_id {L : List Nat} {b : Nat} (h : b ∉ L) : L.filter (· ≠ b) = L := by
  rw [List.filter_eq_self]
  intro x hx
  simp
  rintro rfl
  exact h hx
theorem out_some' {Ls : List (List Nat)} {b i : Nat} (hu : Uni Ls) (h : ofL Ls b = some i) : Ls.set i ((Ls.getD i []).filter (· ≠ b)) = outL Ls b := by
  obtain ⟨hi, hm⟩ := ofL_mem h
  refine ext_getD (by rw [List.length_set, outL_length]) fun k hk => ?_
  rw [List.length_set] at hk
  rw [getD_map_filter, getD_set hi]
  by_cases e : k = i
  · rw [if_pos e, e]
  · rw [if_neg e, filter_id]
    exact fun hx => e (hu k i b hk hi hx hm)
theorem out_none' {Ls : List (List Nat)} {b : Nat} (h : ofL Ls b = none) : outL Ls b = Ls := by
  refine ext_getD (by rw [outL_length]) fun k hk => ?_
  rw [outL_length] at hk
  rw [getD_map_filter, filter_id (ofL_not h k hk)]

theorem chg_one (w : World) (b o : Nat) (u : Value) : Chg [b] w (w.setCell ⟨b, o, none⟩ u) := (Chg.refl _ w).setCell (.inl (by simp)) u

end Go.Proofs.Ytibcfmnkpemieaa
