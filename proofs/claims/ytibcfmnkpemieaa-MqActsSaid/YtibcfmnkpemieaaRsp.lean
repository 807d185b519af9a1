/-
  A space of plain lists (slices of slices of integers) as it lies in memory. No program in sight.
-/
import Derived.Test.YtibcfmnkpemieaaSpaceNew
namespace Go.Proofs.Ytibcfmnkpemieaa
open Go.RowKit

theorem asInts_len (L : List Nat) : (asInts L).length = L.length := by simp [asInts]

theorem Chg.mono {S S' : List Nat} {a b : World} (h : Chg S a b) (hS : ∀ s ∈ S, s ∈ S') : Chg S' a b :=
  ⟨h.os, h.tape, h.output, h.size, fun k hk hn => h.block k hk (fun hm => hn (hS k hm))⟩

/-- the space whose header is block p and whose rows lie in block bl; each row is a slice of its own, from block B on -/
structure RspAt (w : World) (B p bl : Nat) (Ls : List (List Nat)) : Prop where
  pos : 1 ≤ Ls.length
  top : Ls.length ≤ 40
  pB : p < B
  lB : bl < B
  ne : p ≠ bl
  hdr : ∃ c t, w.heap[p]? = some (.cells #[.slice (some ⟨bl, 0, none⟩) Ls.length c] t (0, 0)) ∧ Ls.length ≤ c ∧ c ≤ maxLen
  row : ∃ cs t, w.heap[bl]? = some (.cells cs t (0, 0)) ∧ (∀ i, i < Ls.length → ∃ v, cs[i]? = some v ∧ OwnI .i64 3 B w v (asInts (Ls.getD i []))) ∧
    (∀ i j v v' g, i < Ls.length → j < Ls.length → cs[i]? = some v → cs[j]? = some v' → v.ownBlock = some g → v'.ownBlock = some g → i = j)

section
variable {w w' : World} {B p bl : Nat} {Ls : List (List Nat)}
theorem RspAt.plt (h : RspAt w B p bl Ls) : p < w.heap.size := by obtain ⟨c, t, h1, _⟩ := h.hdr; exact (Array.getElem?_eq_some_iff.1 h1).1
theorem RspAt.llt (h : RspAt w B p bl Ls) : bl < w.heap.size := by obtain ⟨c, t, h1, _⟩ := h.row; exact (Array.getElem?_eq_some_iff.1 h1).1
theorem RspAt.cell0 (h : RspAt w B p bl Ls) : ∃ c, w.cell? ⟨p, 0, none⟩ = some (.slice (some ⟨bl, 0, none⟩) Ls.length c) := by
  obtain ⟨c, t, h1, _⟩ := h.hdr
  exact ⟨c, cell_of_row w p 0 _ _ _ h1⟩
theorem RspAt.cell (h : RspAt w B p bl Ls) {i : Nat} (hi : i < Ls.length) : ∃ v, w.cell? ⟨bl, i, none⟩ = some v ∧ OwnI .i64 3 B w v (asInts (Ls.getD i [])) := by
  obtain ⟨cs, t, h1, h2, _⟩ := h.row
  obtain ⟨v, hv, h3⟩ := h2 i hi
  exact ⟨v, (cell_of_row w bl i _ _ _ h1).trans hv, h3⟩
theorem RspAt.frz (h : RspAt w B p bl Ls) (j : Nat) : w.frozen? ⟨bl, j, none⟩ = false := by
  obtain ⟨cs, t, h1, _⟩ := h.row; exact frozen_row h1 j
theorem RspAt.chg {S : List Nat} (h : RspAt w B p bl Ls) (hx : Chg S w w') (hp : p ∉ S) (hb : bl ∉ S) (hS : ∀ s ∈ S, s < B) : RspAt w' B p bl Ls := by
  obtain ⟨h1, h2, h3, h4, h5, ⟨c, t, g1, g2⟩, ⟨cs, t2, r1, r2, r3⟩⟩ := h
  refine ⟨h1, h2, h3, h4, h5, ⟨c, t, (hx.block p (Array.getElem?_eq_some_iff.1 g1).1 hp).trans g1, g2⟩, ⟨cs, t2, (hx.block bl (Array.getElem?_eq_some_iff.1 r1).1 hb).trans r1, fun i hi => ?_, r3⟩⟩
  obtain ⟨v, hv, ho⟩ := r2 i hi
  exact ⟨v, hv, ho.chg hx hS⟩
theorem RspAt.ext (h : RspAt w B p bl Ls) (hx : Ext w w') : RspAt w' B p bl Ls := h.chg (Chg.of_ext (S := []) hx) (by simp) (by simp) (by simp)
theorem RspAt.mono {B' : Nat} (h : RspAt w B p bl Ls) (hB : B' ≤ B) (hp : p < B') (hb : bl < B') : RspAt w B' p bl Ls := by
  obtain ⟨h1, h2, h3, h4, h5, g, ⟨cs, t2, r1, r2, r3⟩⟩ := h
  refine ⟨h1, h2, hp, hb, h5, g, ⟨cs, t2, r1, fun i hi => ?_, r3⟩⟩
  obtain ⟨v, hv, ho⟩ := r2 i hi
  exact ⟨v, hv, ho.mono hB⟩

/-- a fresh row in the place of another one -/
theorem RspAt.setFresh {w0 : World} (h : RspAt w0 B p bl Ls) (hx : Ext w0 w) (hBw : B ≤ w0.heap.size) {i : Nat} (hi : i < Ls.length) {u : Value} {L : List Nat} (hu : OwnI .i64 3 w0.heap.size w u (asInts L)) :
    RspAt (w.setCell ⟨bl, i, none⟩ u) B p bl (Ls.set i L) := by
  obtain ⟨h1, h2, h3, h4, h5, ⟨c, t, g1, g2⟩, ⟨cs, t2, r1, r2, r3⟩⟩ := h
  have hplt := (Array.getElem?_eq_some_iff.1 g1).1
  have hllt := (Array.getElem?_eq_some_iff.1 r1).1
  have hsame := heap_setCell_same w bl i _ _ u ((Below.block hx bl hllt).trans r1)
  have hold : ∀ j v, j < Ls.length → cs[j]? = some v → ∀ g, v.ownBlock = some g → g < w0.heap.size := by
    intro j v hj hv g hg
    obtain ⟨v', hv', ho⟩ := r2 j hj
    rw [hv] at hv'
    cases hv'
    exact (ho.lt g hg).2
  refine ⟨by simpa using h1, by simpa using h2, h3, h4, h5, ⟨c, t, (Below.heap_setCell _ _ _ _ (by simpa using h5)).trans ((Below.block hx p hplt).trans (by simpa using g1)), by simpa using g2⟩, ⟨_, t2, hsame, fun j hj => ?_, ?_⟩⟩
  · rw [List.length_set] at hj
    obtain ⟨v, hv, ho⟩ := r2 j hj
    by_cases e : j = i
    · subst e
      refine ⟨u, by rw [Array.getElem?_setIfInBounds, if_pos rfl, if_pos (Array.getElem?_eq_some_iff.1 hv).1], ?_⟩
      have : (Ls.set j L).getD j [] = L := by simp [List.getD, hi]
      rw [this]
      exact (hu.mono hBw).chg (S := [bl]) ((Chg.refl _ _).setCell (.inl (by simp)) _) (by simpa using h4)
    · refine ⟨v, by rw [Array.getElem?_setIfInBounds, if_neg (fun h => e h.symm)]; exact hv, ?_⟩
      have : (Ls.set i L).getD j [] = Ls.getD j [] := by
        have e' : ¬ i = j := fun h => e h.symm
        simp [List.getD, e']
      rw [this]
      exact (ho.ext hx).chg (S := [bl]) ((Chg.refl _ _).setCell (.inl (by simp)) _) (by simpa using h4)
  · intro a b v v' g ha hb hv hv' hg hg'
    rw [List.length_set] at ha hb
    rw [Array.getElem?_setIfInBounds] at hv hv'
    by_cases ea : i = a
    · by_cases eb : i = b
      · omega
      · rw [if_neg eb] at hv'
        rw [if_pos ea] at hv
        split at hv
        · simp at hv
          subst hv
          have := hold b v' hb hv' g hg'
          have := (hu.lt g hg).1
          omega
        · cases hv
    · rw [if_neg ea] at hv
      by_cases eb : i = b
      · rw [if_pos eb] at hv'
        split at hv'
        · simp at hv'
          subst hv'
          have := hold a v ha hv g hg
          have := (hu.lt g hg').1
          omega
        · cases hv'
      · rw [if_neg eb] at hv'
        exact r3 a b v v' g ha hb hv hv' hg hg'

/-- a row that was appended to: its block, or a new one -/
theorem RspAt.setGrown {w0 : World} (h : RspAt w0 B p bl Ls) {i : Nat} (hi : i < Ls.length) {v0 u : Value} {L : List Nat} (hv0 : w0.cell? ⟨bl, i, none⟩ = some v0) (hg0 : w0.grownBy w v0.ownBlock)
    (hu : OwnI .i64 3 B w u (asInts L)) (hat : u.ownBlock = v0.ownBlock ∨ u.ownBlock = some w0.heap.size) :
    RspAt (w.setCell ⟨bl, i, none⟩ u) B p bl (Ls.set i L) ∧ (∃ S, Chg S w0 (w.setCell ⟨bl, i, none⟩ u) ∧ ∀ s ∈ S, s = bl ∨ v0.ownBlock = some s) := by
  obtain ⟨h1, h2, h3, h4, h5, ⟨c, t, g1, g2⟩, ⟨cs, t2, r1, r2, r3⟩⟩ := h
  have hplt := (Array.getElem?_eq_some_iff.1 g1).1
  have hllt := (Array.getElem?_eq_some_iff.1 r1).1
  have hcv0 : cs[i]? = some v0 := by rw [← hv0, cell_of_row w0 bl i _ _ _ r1]
  have hv0B : ∀ g, v0.ownBlock = some g → B ≤ g := by
    intro g hg
    obtain ⟨v', hv', ho⟩ := r2 i hi
    rw [hcv0] at hv'
    cases hv'
    exact (ho.lt g hg).1
  have hblk : ∀ k, k < w0.heap.size → k < B → w.heap[k]? = w0.heap[k]? := fun k hk hkB => hg0.block k hk (fun e => by have := hv0B k e.symm; omega)
  have hsame := heap_setCell_same w bl i _ _ u ((hblk bl hllt h4).trans r1)
  have hold : ∀ j v, j < Ls.length → cs[j]? = some v → ∀ g, v.ownBlock = some g → g < w0.heap.size := by
    intro j v hj hv g hg
    obtain ⟨v', hv', ho⟩ := r2 j hj
    rw [hv] at hv'
    cases hv'
    exact (ho.lt g hg).2
  have hne : ∀ j v, j < Ls.length → j ≠ i → cs[j]? = some v → ∀ g, v.ownBlock = some g → u.ownBlock ≠ some g := by
    intro j v hj hji hv g hg he
    rcases hat with h | h
    · rw [h] at he
      exact hji (r3 j i v v0 g hj hi hv hcv0 hg he)
    · rw [h] at he
      have := hold j v hj hv g hg
      simp at he
      omega
  refine ⟨⟨by simpa using h1, by simpa using h2, h3, h4, h5, ⟨c, t, (Below.heap_setCell _ _ _ _ (by simpa using h5)).trans ((hblk p hplt h3).trans (by simpa using g1)), by simpa using g2⟩, ⟨_, t2, hsame, fun j hj => ?_, ?_⟩⟩, ?_⟩
  · rw [List.length_set] at hj
    obtain ⟨v, hv, ho⟩ := r2 j hj
    by_cases e : j = i
    · subst e
      refine ⟨u, by rw [Array.getElem?_setIfInBounds, if_pos rfl, if_pos (Array.getElem?_eq_some_iff.1 hv).1], ?_⟩
      have : (Ls.set j L).getD j [] = L := by simp [List.getD, hi]
      rw [this]
      exact hu.chg (S := [bl]) ((Chg.refl _ _).setCell (.inl (by simp)) _) (by simpa using h4)
    · refine ⟨v, by rw [Array.getElem?_setIfInBounds, if_neg (fun h => e h.symm)]; exact hv, ?_⟩
      have : (Ls.set i L).getD j [] = Ls.getD j [] := by
        have e' : ¬ i = j := fun h => e h.symm
        simp [List.getD, e']
      rw [this]
      refine OwnI.chg (S := [bl]) ?_ ((Chg.refl _ _).setCell (.inl (by simp)) _) (by simpa using h4)
      refine World.ownsRow.kept ho hg0 ?_
      cases hvb : v.ownBlock with
      | none => exact .inl rfl
      | some g =>
        refine .inr fun he => e (r3 j i v v0 g hj hi hv hcv0 hvb he.symm)
  · intro a b v v' g ha hb hv hv' hg hg'
    rw [List.length_set] at ha hb
    rw [Array.getElem?_setIfInBounds] at hv hv'
    by_cases ea : i = a
    · by_cases eb : i = b
      · omega
      · rw [if_neg eb] at hv'
        rw [if_pos ea] at hv
        split at hv
        · simp at hv
          subst hv
          exact absurd hg (hne b v' hb (fun h => eb h.symm) hv' g hg')
        · cases hv
    · rw [if_neg ea] at hv
      by_cases eb : i = b
      · rw [if_pos eb] at hv'
        split at hv'
        · simp at hv'
          subst hv'
          exact absurd hg' (hne a v ha (fun h => ea h.symm) hv g hg)
        · cases hv'
      · rw [if_neg eb] at hv'
        exact r3 a b v v' g ha hb hv hv' hg hg'
  · cases hvb : v0.ownBlock with
    | none =>
      refine ⟨[bl], Chg.trans (S := [bl]) ⟨hg0.os, hg0.tape, hg0.output, hg0.size, fun k hk hn => hg0.block k hk (by rw [hvb]; simp)⟩ ((Chg.refl _ _).setCell (.inl (by simp)) _), by simp⟩
    | some g =>
      refine ⟨[bl, g], Chg.trans (S := [bl, g]) ⟨hg0.os, hg0.tape, hg0.output, hg0.size, fun k hk hn => hg0.block k hk (by rw [hvb]; simp at hn ⊢; exact hn.2)⟩ ((Chg.refl _ _).setCell (.inl (by simp)) _), ?_⟩
      intro s hs
      simp at hs
      rcases hs with rfl | rfl
      · exact .inl rfl
      · exact .inr rfl
end
end Go.Proofs.Ytibcfmnkpemieaa
