/-
  gradineref15's cache in memory. No condition.
-/
import Derived.Test.YtpmfadepinmmjaaPLaw
import Derived.Test.YtpmfadepinmmjaaInts2
import Derived.Test.YtpmfadepinmmjaaStepApp
namespace Go.Proofs.Ytpmfadepinmmjaa
open Go.RowKit

theorem chg_one (w : World) (b o : Nat) (u : Value) : Chg [b] w (w.setCell ⟨b, o, none⟩ u) := (Chg.refl _ w).setCell (.inl (by simp)) u
theorem chg_cellc {S : List Nat} {w w' : World} (h : Chg S w w') {b o : Nat} {u : Value} (hc : w.cell? ⟨b, o, none⟩ = some u) (hS : b ∉ S) : w'.cell? ⟨b, o, none⟩ = some u := (World.cell?_of_block (h.block b (cell_lt hc) hS)).trans hc
theorem rdi_chg {S : List Nat} {k : IntKind} {w w' : World} {v : Value} {l : List Int} (h : RdI k w v l) (hx : Chg S w w') (hS : l ≠ [] → ∀ g, v.ownBlock = some g → g ∉ S) : RdI k w' v l := by
  obtain ⟨h1, a, c, rfl, h2, h3, h4, h5⟩ := h
  refine ⟨h1, a, c, rfl, h2, h3, h4, fun hn => ?_⟩
  obtain ⟨b, o, rfl, hlt, hc⟩ := h5 hn
  have hb := hS (List.length_pos_iff.1 hn) b rfl
  exact ⟨b, o, rfl, Nat.lt_of_lt_of_le hlt hx.size, fun j u hu => (World.cell?_of_block (hx.block b hlt hb)).trans (hc j u hu)⟩
theorem rdv_chg {S : List Nat} {m : Nat} {w w' : World} {v : Value} {n : Nat} {V : Nat → Nat → Value} (h : RdV m w v n V) (hx : Chg S w w') (hS : 0 < n → ∀ b, v.ownBlock = some b → b ∉ S) : RdV m w' v n V := by
  obtain ⟨a, c, rfl, h2, h3, h4, h5⟩ := h
  refine ⟨a, c, rfl, h2, h3, h4, fun hn => ?_⟩
  obtain ⟨b, o, rfl, hlt, hc⟩ := h5 hn
  have hb := hS hn b rfl
  exact ⟨b, o, rfl, Nat.lt_of_lt_of_le hlt hx.size, fun i f hi hf => (World.cell?_of_block (hx.block b hlt hb)).trans (hc i f hi hf)⟩
theorem asInts_ne {L : List Nat} (h : asInts L ≠ []) : L ≠ [] := by intro e; rw [e] at h; exact h rfl
/-- the cache: hints, parts, the tier, a list for each range -/
structure RcAt (w : World) (G : List Nat) (px gl : Nat) (hv : Value) (gp n t : Nat) (F : Nat → Nat → Int) (L : Nat → Bool) (c : Nat → Nat) (M : List Nat) (Ls : List (List Nat)) : Prop where
  row : ∃ a cap ty, w.heap[px]? = some (.cells #[hv, .slice (some ⟨gp, 0, none⟩) (n * 4) (n * 4), .int .i64 (t : Nat), .slice a n cap] ty (0, 0)) ∧ n ≤ cap ∧ cap ≤ maxLen ∧ (0 < n → a = some ⟨gl, 0, none⟩)
  hints : RdH w hv n F L
  hown : 0 < n → ∀ g, hv.ownBlock = some g → g ∉ G
  parts : IRow w gp (n * 4) (fun j => (PR F c M (j / 4) (j % 4) : Nat))
  gpG : gp ∉ G
  pxG : px ∉ G
  glG : gl ∈ G
  lists : ∃ cs ty, (0 < n → w.heap[gl]? = some (.cells cs ty (0, 0))) ∧ ∀ r, r < n → ∃ v, cs[r]? = some v ∧ RdI .i64 w v (asInts (Ls.getD r [])) ∧ (Ls.getD r [] ≠ [] → ∀ b, v.ownBlock = some b → b ∉ G)
section
variable {w w' : World} {G : List Nat} {px gl : Nat} {hv : Value} {gp n t : Nat} {F : Nat → Nat → Int} {L : Nat → Bool} {c : Nat → Nat} {M : List Nat} {Ls : List (List Nat)}
theorem RcAt.lt (h : RcAt w G px gl hv gp n t F L c M Ls) : px < w.heap.size := by obtain ⟨a, cap, ty, h1, _⟩ := h.row; exact (Array.getElem?_eq_some_iff.1 h1).1
theorem RcAt.chg {S : List Nat} (h : RcAt w G px gl hv gp n t F L c M Ls) (hx : Chg S w w') (hS : ∀ s ∈ S, s ∈ G) (hg : gl ∉ S) : RcAt w' G px gl hv gp n t F L c M Ls := by
  have hl := h.lt
  obtain ⟨⟨a, cap, ty, h1, h2⟩, h3, h4, h5, h6, h7, h8, ⟨cs, ty2, h9, h10⟩⟩ := h
  refine ⟨⟨a, cap, ty, (hx.block px hl (fun hm => h7 (hS _ hm))).trans h1, h2⟩, rdv_chg h3 hx (fun h0 g hg' hm => h4 h0 g hg' (hS _ hm)), h4, h5.chg hx (fun hm => h6 (hS _ hm)), h6, h7, h8, ⟨cs, ty2, fun h0 => (hx.block gl (Array.getElem?_eq_some_iff.1 (h9 h0)).1 hg).trans (h9 h0), fun r hr => ?_⟩⟩
  obtain ⟨v, k1, k2, k3⟩ := h10 r hr
  exact ⟨v, k1, rdi_chg k2 hx (fun h0 g hg' hm => k3 (asInts_ne h0) g hg' (hS _ hm)), k3⟩
theorem RcAt.ext (h : RcAt w G px gl hv gp n t F L c M Ls) (hx : Ext w w') : RcAt w' G px gl hv gp n t F L c M Ls := h.chg (Chg.of_ext (S := []) hx) (by simp) (by simp)
theorem RcAt.cells (h : RcAt w G px gl hv gp n t F L c M Ls) : ∃ a cap, w.cell? ⟨px, 0, none⟩ = some hv ∧ w.cell? ⟨px, 1, none⟩ = some (.slice (some ⟨gp, 0, none⟩) (n * 4) (n * 4)) ∧ w.cell? ⟨px, 2, none⟩ = some (.int .i64 (t : Nat)) ∧ w.cell? ⟨px, 3, none⟩ = some (.slice a n cap) ∧ (0 < n → a = some ⟨gl, 0, none⟩) := by
  obtain ⟨a, cap, ty, h1, _, _, h2⟩ := h.row
  refine ⟨a, cap, ?_, ?_, ?_, ?_, h2⟩ <;> (rw [cell_of_row w px _ _ _ _ h1]; rfl)
theorem RcAt.at (h : RcAt w G px gl hv gp n t F L c M Ls) {r : Nat} (hr : r < n) : (∃ v, w.cell? ⟨gl, r, none⟩ = some v ∧ RdI .i64 w v (asInts (Ls.getD r []))) ∧ w.frozen? ⟨gl, r, none⟩ = false := by
  obtain ⟨cs, ty, h9, h10⟩ := h.lists
  obtain ⟨v, k1, k2, k3⟩ := h10 r hr
  have h1 := h9 (by omega)
  exact ⟨⟨v, by rw [cell_of_row w gl _ _ _ _ h1]; exact k1, k2⟩, frozen_row h1 r⟩
theorem RcAt.at2 (h : RcAt w G px gl hv gp n t F L c M Ls) {r : Nat} (hr : r < n) : ∃ v, w.cell? ⟨gl, r, none⟩ = some v ∧ (Ls.getD r [] ≠ [] → ∀ b, v.ownBlock = some b → b ∉ G) := by
  obtain ⟨cs, ty, h9, h10⟩ := h.lists
  obtain ⟨v, k1, k2, k3⟩ := h10 r hr
  exact ⟨v, by rw [cell_of_row w gl _ _ _ _ (h9 (by omega))]; exact k1, k3⟩
theorem RcAt.set (h : RcAt w G px gl hv gp n t F L c M Ls) {r : Nat} (hr : r < n) (hl : Ls.length = n + 1) {v : Value} {L' : List Nat} (hv' : RdI .i64 w v (asInts L')) (ho : L' ≠ [] → ∀ b, v.ownBlock = some b → b ∉ G) : RcAt (w.setCell ⟨gl, r, none⟩ v) G px gl hv gp n t F L c M (Ls.set r L') := by
  have hx : Chg [gl] w (w.setCell ⟨gl, r, none⟩ v) := (Chg.refl _ w).setCell (.inl (by simp)) v
  have hlt := h.lt
  obtain ⟨⟨a, cap, ty, h1, h2⟩, h3, h4, h5, h6, h7, h8, ⟨cs, ty2, h9, h10⟩⟩ := h
  have hS : ∀ s ∈ [gl], s ∈ G := by intro s hs; simp at hs; rw [hs]; exact h8
  have h90 := h9 (by omega)
  refine ⟨⟨a, cap, ty, (hx.block px hlt (fun hm => h7 (hS _ hm))).trans h1, h2⟩, rdv_chg h3 hx (fun h0 g hg' hm => h4 h0 g hg' (hS _ hm)), h4, h5.chg hx (fun hm => h6 (hS _ hm)), h6, h7, h8, ⟨_, ty2, fun _ => heap_set h90 v, fun k hk => ?_⟩⟩
  obtain ⟨v', k1, k2, k3⟩ := h10 k hk
  by_cases e : k = r
  · subst e
    refine ⟨v, by rw [Array.getElem?_setIfInBounds, if_pos rfl, if_pos (Array.getElem?_eq_some_iff.1 k1).1], ?_, ?_⟩
    · rw [getD_set (by omega), if_pos rfl]
      exact rdi_chg hv' hx (fun h0 g hg' hm => ho (asInts_ne h0) g hg' (hS _ hm))
    · rw [getD_set (by omega), if_pos rfl]
      exact ho
  · have e9 : (Ls.set r L').getD k [] = Ls.getD k [] := by rw [getD_set (by omega), if_neg e]
    refine ⟨v', by rw [Array.getElem?_setIfInBounds, if_neg (fun h => e h.symm)]; exact k1, ?_, by rw [e9]; exact k3⟩
    rw [e9]
    exact rdi_chg k2 hx (fun h0 g hg' hm => k3 (asInts_ne h0) g hg' (hS _ hm))
theorem RcAt.fresh (h : RcAt w G px gl hv gp n t F L c M Ls) {q : Nat} (hq : w.heap.size ≤ q) : RcAt w (q :: G) px gl hv gp n t F L c M Ls := by
  have hlt := h.lt
  obtain ⟨h1, h2, h3, h4, h5, h6, h7, ⟨cs, ty, h8, h9⟩⟩ := h
  have hgp := h4.lt
  refine ⟨h1, h2, fun h0 g hg hm => ?_, h4, fun hm => ?_, fun hm => ?_, by simp [h7], ⟨cs, ty, h8, fun r hr => ?_⟩⟩
  · rcases List.mem_cons.1 hm with e | e
    · obtain ⟨a, cp, rfl, _, _, _, k⟩ := h2
      obtain ⟨b, o, rfl, k2, _⟩ := k h0
      cases hg
      have e' : b = q := e
      omega
    · exact h3 h0 g hg e
  · rcases List.mem_cons.1 hm with e | e
    · omega
    · exact h5 e
  · rcases List.mem_cons.1 hm with e | e
    · omega
    · exact h6 e
  · obtain ⟨v, k1, k2, k3⟩ := h9 r hr
    refine ⟨v, k1, k2, fun h0 b hb hm => ?_⟩
    rcases List.mem_cons.1 hm with e | e
    · obtain ⟨a, cp, he, _, _, _, k⟩ := k2.parts
      obtain ⟨b', o, rfl, k4, _⟩ := k (fun e => h0 (by unfold asInts at e; exact List.map_eq_nil_iff.1 e))
      rw [he] at hb
      cases hb
      have e' : b' = q := e
      omega
    · exact k3 h0 b hb e
theorem RcAt.mono {G' : List Nat} (h : RcAt w G px gl hv gp n t F L c M Ls) (hG : ∀ f ∈ G', f ∈ G) (hg : gl ∈ G') : RcAt w G' px gl hv gp n t F L c M Ls := by
  obtain ⟨h1, h2, h3, h4, h5, h6, _, ⟨cs, ty, h8, h9⟩⟩ := h
  exact ⟨h1, h2, fun h0 g hg' hm => h3 h0 g hg' (hG _ hm), h4, fun hm => h5 (hG _ hm), fun hm => h6 (hG _ hm), hg, ⟨cs, ty, h8, fun r hr => by obtain ⟨v, k1, k2, k3⟩ := h9 r hr; exact ⟨v, k1, k2, fun h0 b hb hm => k3 h0 b hb (hG _ hm)⟩⟩⟩
/-- a store into a block that is none of the cache's -/
theorem RcAt.off (h : RcAt w G px gl hv gp n t F L c M Ls) {q : Nat} (hm : q ∈ G) (hq : gl ≠ q) (o : Nat) (v : Value) : RcAt (w.setCell ⟨q, o, none⟩ v) G px gl hv gp n t F L c M Ls :=
  h.chg (S := [q]) ((Chg.refl _ w).setCell (.inl (by simp)) v) (by simpa using hm) (by simpa using hq)
end
/-- the part that a block's range has -/
theorem irow_part {w : World} {gp n t : Nat} {F : Nat → Nat → Int} {c : Nat → Nat} {M : List Nat} (h : IRow w gp (n * 4) (fun j => (PR F c M (j / 4) (j % 4) : Nat))) {x : Nat} (hx : x < n) (ht : 1 ≤ t ∧ t ≤ 3) : w.cell? ⟨gp, 4 * x + t - 1, none⟩ = some (.int .i64 (PR F c M x (t - 1) : Nat)) := by
  have h1 := h.cell (j := 4 * x + t - 1) (by omega)
  rw [h1, show (4 * x + t - 1) / 4 = x by omega, show (4 * x + t - 1) % 4 = t - 1 by omega]
end Go.Proofs.Ytpmfadepinmmjaa
