/-
  gradineref11.Cap. No condition.
-/
import Derived.Test.YtibcfmnkpemieaaLru2
namespace Go.Proofs.Ytibcfmnkpemieaa
open Go.RowKit

theorem capN_pos (c : Int) : 1 ≤ capN c ∧ capN c ≤ 16 := by
  have := capN_eq c
  omega

/-- what goes is not there any more -/
theorem gone_not {n : Nat} {L : List Nat} (hn : L.Nodup) (hl : L.length ≤ n) {b : Int} (h : addG n L b = true) : decide (addV n L b ∈ asInts (addL n L b)) = false := by
  unfold addG at h
  obtain ⟨hok, hlt⟩ := of_decide_eq_true h
  have hN := top_nodup hn b
  have h1 : (topL L b).length ≤ L.length + 1 := by unfold topL; have := List.length_filter_le (fun x => decide (x ≠ b.toNat)) L; simpa using this
  have hne : topL L b ≠ [] := by unfold topL; simp
  have h2 : addL n L b = cutL (topL L b) (lst 0 (topL L b)) := by
    unfold addL
    rw [if_pos hok, cut_last hN]
    congr 1; omega
  have h3 : addV n L b = lst 0 (topL L b) := by unfold addV; rw [if_pos ⟨hok, hlt⟩]
  rw [h2, h3]
  exact decide_eq_false mem_filter_asInts
theorem asInts_length (L : List Nat) : (asInts L).length = L.length := by unfold asInts; exact List.length_map _
theorem asInts_nodup {L : List Nat} (h : L.Nodup) : (asInts L).Nodup := by
  unfold asInts
  unfold List.Nodup at h ⊢
  rw [List.pairwise_map]
  exact h.imp (fun hne => by omega)
theorem nodup_take_not {l : List Int} (h : l.Nodup) {k : Nat} (hk : k < l.length) : decide (l.getD k 0 ∈ l.take k) = false := by
  apply decide_eq_false
  intro hm
  have e : l.getD k 0 = l[k] := by simp [List.getD, hk]
  rw [e, List.mem_take_iff_getElem] at hm
  obtain ⟨j, hj, hjk⟩ := hm
  have := List.pairwise_iff_getElem.1 h j k (by omega) hk (by omega)
  exact this hjk
theorem row2_cells {w w' : World} {b o n k : Nat} {F : Nat → Nat → Int} (hx : Ext w w') (hb : b < w.heap.size) (hc : ∀ i f, i < n → f < 2 → w.cell? ⟨b, o + (i * 2 + f), none⟩ = some (.int .i64 (F i f))) (hk : k < n) :
    w'.cell? ⟨b, o + k * 2, none⟩ = some (.int .i64 (F k 0)) ∧ w'.cell? ⟨b, o + k * 2 + 1, none⟩ = some (.int .i64 (F k 1)) :=
  ⟨(hx.cell hb).trans (hc k 0 hk (by omega)), (hx.cell hb).trans (hc k 1 hk (by omega))⟩
end Go.Proofs.Ytibcfmnkpemieaa
