/-
  The reference's MQ as it lies in memory. No condition.
-/
import Derived.Test.YtibcfmnkpemieaaMqLaw
import Derived.Test.YtibcfmnkpemieaaRspOf
import Derived.Test.YtibcfmnkpemieaaRefDo2
import Derived.Laws.Rows
namespace Go.Proofs.Ytibcfmnkpemieaa
open Go.RowKit

/-- a list that reads, whose block is one of B, and none of S -/
def RowOk (w : World) (B : Nat → Prop) (S : List Nat) (v : Value) (L : List Nat) : Prop := RdI .i64 w v (asInts L) ∧ ∀ g, v.ownBlock = some g → B g ∧ g ∉ S ∧ g < w.heap.size
theorem RowOk.ext {w w' : World} {B : Nat → Prop} {S : List Nat} {v : Value} {L : List Nat} (h : RowOk w B S v L) (hx : Ext w w') : RowOk w' B S v L := ⟨h.1.ext hx, fun g hg => ⟨(h.2 g hg).1, (h.2 g hg).2.1, Nat.lt_of_lt_of_le (h.2 g hg).2.2 hx.size⟩⟩
theorem RowOk.chg {w w' : World} {B : Nat → Prop} {S S' : List Nat} {v : Value} {L : List Nat} (h : RowOk w B S v L) (hx : Chg S' w w') (hS : ∀ g, v.ownBlock = some g → g ∉ S') : RowOk w' B S v L := ⟨h.1.chg hx hS, fun g hg => ⟨(h.2 g hg).1, (h.2 g hg).2.1, Nat.lt_of_lt_of_le (h.2 g hg).2.2 hx.size⟩⟩
theorem RowOk.fresh {w w' : World} {B : Nat → Prop} {S : List Nat} {v : Value} {L : List Nat} (h : OwnI .i64 3 w.heap.size w' v (asInts L)) (hB : ∀ g, w.heap.size ≤ g → B g) (hS : ∀ s ∈ S, s < w.heap.size) : RowOk w' B S v L :=
  ⟨h.rd, fun g hg => ⟨hB g (h.lt g hg).1, fun hm => by have h1 := (h.lt g hg).1; have h2 := hS g hm; omega, (h.lt g hg).2⟩⟩
theorem RowOk.mono {w : World} {B B' : Nat → Prop} {S : List Nat} {v : Value} {L : List Nat} (h : RowOk w B S v L) (hB : ∀ g, g < w.heap.size → B g → B' g) : RowOk w B' S v L := ⟨h.1, fun g hg => ⟨hB g (h.2 g hg).2.2 (h.2 g hg).1, (h.2 g hg).2⟩⟩
theorem RowOk.nil (w : World) (B : Nat → Prop) (S : List Nat) : RowOk w B S (.slice none 0 0) [] := ⟨RdI.nil _ _, fun g hg => (by cases hg)⟩
theorem RowOk.form {w : World} {B : Nat → Prop} {S : List Nat} {v : Value} {L : List Nat} (h : RowOk w B S v L) : ∃ a c, v = .slice a L.length c := by
  obtain ⟨a, c, e, _⟩ := h.1.parts
  exact ⟨a, c, by rw [e, asInts_len]⟩

/-- the reference's MQ: its header, its queues' row, how often, when it expires -/
structure RmqAt (w : World) (B : Nat → Prop) (pr bq bo be : Nat) (p : Shp) (s : Mq) : Prop where
  nd : pr ≠ bq ∧ pr ≠ bo ∧ pr ≠ be ∧ bq ≠ bo ∧ bq ≠ be ∧ bo ≠ be
  low : B pr ∧ B bq ∧ B bo ∧ B be
  top : ∀ g, w.heap.size ≤ g → B g
  hdr : ∃ vg c t, w.heap[pr]? = some (.cells #[.int .i64 p.cap, .int .i64 p.life, .int .i64 p.gh, .slice (some ⟨bq, 0, none⟩) p.qs c, vg, .slice (some ⟨bo, 0, none⟩) 64 64, .slice (some ⟨be, 0, none⟩) 64 64, .int .i64 s.now] t (0, 0)) ∧ p.qs ≤ c ∧ c ≤ maxLen ∧ RowOk w B [pr, bq, bo, be] vg (s.Ls.getD p.qs [])
  row : ∃ cs t, w.heap[bq]? = some (.cells cs t (0, 0)) ∧ ∀ i, i < p.qs → ∃ v, cs[i]? = some v ∧ RowOk w B [pr, bq, bo, be] v (s.Ls.getD i [])
  ofc : ∃ cs t, w.heap[bo]? = some (.cells cs t (0, 0)) ∧ ∀ b, b < 64 → cs[b]? = some (.int .i64 (s.of b))
  exc : ∃ cs t, w.heap[be]? = some (.cells cs t (0, 0)) ∧ ∀ b, b < 64 → cs[b]? = some (.int .i64 (s.ex b))
  len : s.Ls.length = p.qs + 1
section
variable {w w' : World} {B : Nat → Prop} {pr bq bo be : Nat} {p : Shp} {s : Mq}
theorem RmqAt.l1 (h : RmqAt w B pr bq bo be p s) : pr < w.heap.size := by obtain ⟨_, _, _, h1, _⟩ := h.hdr; exact (Array.getElem?_eq_some_iff.1 h1).1
theorem RmqAt.l2 (h : RmqAt w B pr bq bo be p s) : bq < w.heap.size := by obtain ⟨_, _, h1, _⟩ := h.row; exact (Array.getElem?_eq_some_iff.1 h1).1
theorem RmqAt.l3 (h : RmqAt w B pr bq bo be p s) : bo < w.heap.size := by obtain ⟨_, _, h1, _⟩ := h.ofc; exact (Array.getElem?_eq_some_iff.1 h1).1
theorem RmqAt.l4 (h : RmqAt w B pr bq bo be p s) : be < w.heap.size := by obtain ⟨_, _, h1, _⟩ := h.exc; exact (Array.getElem?_eq_some_iff.1 h1).1
theorem RmqAt.all (h : RmqAt w B pr bq bo be p s) : ∀ x ∈ [pr, bq, bo, be], x < w.heap.size := by
  have h1 := h.l1; have h2 := h.l2; have h3 := h.l3; have h4 := h.l4
  intro x hx
  simp only [List.mem_cons, List.not_mem_nil, or_false] at hx
  rcases hx with rfl | rfl | rfl | rfl <;> assumption
/-- blocks that are none of this one's may change -/
theorem RmqAt.chg {S : List Nat} (h : RmqAt w B pr bq bo be p s) (hx : Chg S w w') (hS : ∀ x ∈ S, ¬ B x) : RmqAt w' B pr bq bo be p s := by
  have l1 := h.l1; have l2 := h.l2; have l3 := h.l3; have l4 := h.l4
  obtain ⟨b1, b2, b3, b4⟩ := h.low
  have ho : ∀ x, B x → x ∉ S := fun x hx hm => hS x hm hx
  have hr : ∀ v L, RowOk w B [pr, bq, bo, be] v L → RowOk w' B [pr, bq, bo, be] v L := fun v L hv => hv.chg hx (fun g hg => ho g (hv.2 g hg).1)
  refine ⟨h.nd, h.low, fun g hg => h.top g (Nat.le_trans hx.size hg), ?_, ?_, ?_, ?_, h.len⟩
  · obtain ⟨vg, c, t, e1, e2, e3, e4⟩ := h.hdr
    exact ⟨vg, c, t, (hx.block _ l1 (ho _ b1)).trans e1, e2, e3, hr _ _ e4⟩
  · obtain ⟨cs, t, e1, e2⟩ := h.row
    exact ⟨cs, t, (hx.block _ l2 (ho _ b2)).trans e1, fun i hi => by obtain ⟨v, q1, q2⟩ := e2 i hi; exact ⟨v, q1, hr _ _ q2⟩⟩
  · obtain ⟨cs, t, e1, e2⟩ := h.ofc
    exact ⟨cs, t, (hx.block _ l3 (ho _ b3)).trans e1, e2⟩
  · obtain ⟨cs, t, e1, e2⟩ := h.exc
    exact ⟨cs, t, (hx.block _ l4 (ho _ b4)).trans e1, e2⟩
theorem RmqAt.ext (h : RmqAt w B pr bq bo be p s) (hx : Ext w w') : RmqAt w' B pr bq bo be p s := h.chg (Chg.of_ext (S := []) hx) (by simp)
theorem RmqAt.hcells (h : RmqAt w B pr bq bo be p s) : ∃ c vg, w.cell? ⟨pr, 0, none⟩ = some (.int .i64 p.cap) ∧ w.cell? ⟨pr, 1, none⟩ = some (.int .i64 p.life) ∧ w.cell? ⟨pr, 2, none⟩ = some (.int .i64 p.gh) ∧ w.cell? ⟨pr, 3, none⟩ = some (.slice (some ⟨bq, 0, none⟩) p.qs c) ∧ w.cell? ⟨pr, 4, none⟩ = some vg ∧
    w.cell? ⟨pr, 5, none⟩ = some (.slice (some ⟨bo, 0, none⟩) 64 64) ∧ w.cell? ⟨pr, 6, none⟩ = some (.slice (some ⟨be, 0, none⟩) 64 64) ∧ w.cell? ⟨pr, 7, none⟩ = some (.int .i64 s.now) ∧ RowOk w B [pr, bq, bo, be] vg (s.Ls.getD p.qs []) := by
  obtain ⟨vg, c, t, e1, _, _, e4⟩ := h.hdr
  exact ⟨c, vg, cell_of_row w pr 0 _ _ _ e1, cell_of_row w pr 1 _ _ _ e1, cell_of_row w pr 2 _ _ _ e1, cell_of_row w pr 3 _ _ _ e1, cell_of_row w pr 4 _ _ _ e1, cell_of_row w pr 5 _ _ _ e1, cell_of_row w pr 6 _ _ _ e1, cell_of_row w pr 7 _ _ _ e1, e4⟩
theorem RmqAt.c3 (h : RmqAt w B pr bq bo be p s) : ∃ c, w.cell? ⟨pr, 3, none⟩ = some (.slice (some ⟨bq, 0, none⟩) p.qs c) := by obtain ⟨c, _, _, _, _, h3, _⟩ := h.hcells; exact ⟨c, h3⟩
theorem RmqAt.cg (h : RmqAt w B pr bq bo be p s) : ∃ a c, w.cell? ⟨pr, 4, none⟩ = some (.slice a (s.Ls.getD p.qs []).length c) ∧ RowOk w B [pr, bq, bo, be] (.slice a (s.Ls.getD p.qs []).length c) (s.Ls.getD p.qs []) := by
  obtain ⟨_, vg, _, _, _, _, h4, _, _, _, hg⟩ := h.hcells
  obtain ⟨a, c, rfl⟩ := hg.form
  exact ⟨a, c, h4, hg⟩
theorem RmqAt.d0 (h : RmqAt w B pr bq bo be p s) : w.cell? ⟨pr, 0, none⟩ = some (.int .i64 p.cap) := by obtain ⟨_, _, _, e1, _⟩ := h.hdr; exact cell_of_row w pr 0 _ _ _ e1
theorem RmqAt.d1 (h : RmqAt w B pr bq bo be p s) : w.cell? ⟨pr, 1, none⟩ = some (.int .i64 p.life) := by obtain ⟨_, _, _, e1, _⟩ := h.hdr; exact cell_of_row w pr 1 _ _ _ e1
theorem RmqAt.d2 (h : RmqAt w B pr bq bo be p s) : w.cell? ⟨pr, 2, none⟩ = some (.int .i64 p.gh) := by obtain ⟨_, _, _, e1, _⟩ := h.hdr; exact cell_of_row w pr 2 _ _ _ e1
theorem RmqAt.d5 (h : RmqAt w B pr bq bo be p s) : w.cell? ⟨pr, 5, none⟩ = some (.slice (some ⟨bo, 0, none⟩) 64 64) := by obtain ⟨_, _, _, e1, _⟩ := h.hdr; exact cell_of_row w pr 5 _ _ _ e1
theorem RmqAt.d6 (h : RmqAt w B pr bq bo be p s) : w.cell? ⟨pr, 6, none⟩ = some (.slice (some ⟨be, 0, none⟩) 64 64) := by obtain ⟨_, _, _, e1, _⟩ := h.hdr; exact cell_of_row w pr 6 _ _ _ e1
theorem RmqAt.d7 (h : RmqAt w B pr bq bo be p s) : w.cell? ⟨pr, 7, none⟩ = some (.int .i64 s.now) := by obtain ⟨_, _, _, e1, _⟩ := h.hdr; exact cell_of_row w pr 7 _ _ _ e1
theorem RmqAt.cell (h : RmqAt w B pr bq bo be p s) {i : Nat} (hi : i < p.qs) : ∃ a c, w.cell? ⟨bq, i, none⟩ = some (.slice a (s.Ls.getD i []).length c) ∧ RowOk w B [pr, bq, bo, be] (.slice a (s.Ls.getD i []).length c) (s.Ls.getD i []) := by
  obtain ⟨cs, t, e1, e2⟩ := h.row
  obtain ⟨v, q1, q2⟩ := e2 i hi
  obtain ⟨a, c, rfl⟩ := q2.form
  exact ⟨a, c, (cell_of_row w bq i cs t _ e1).trans q1, q2⟩
theorem RmqAt.cof (h : RmqAt w B pr bq bo be p s) {b : Nat} (hb : b < 64) : w.cell? ⟨bo, b, none⟩ = some (.int .i64 (s.of b)) := by
  obtain ⟨cs, t, e1, e2⟩ := h.ofc; exact (cell_of_row w bo b cs t _ e1).trans (e2 b hb)
theorem RmqAt.cex (h : RmqAt w B pr bq bo be p s) {b : Nat} (hb : b < 64) : w.cell? ⟨be, b, none⟩ = some (.int .i64 (s.ex b)) := by
  obtain ⟨cs, t, e1, e2⟩ := h.exc; exact (cell_of_row w be b cs t _ e1).trans (e2 b hb)
theorem RmqAt.f1 (h : RmqAt w B pr bq bo be p s) (o : Nat) : w.frozen? ⟨pr, o, none⟩ = false := by obtain ⟨_, _, _, h1, _⟩ := h.hdr; exact frozen_row h1 o
theorem RmqAt.f2 (h : RmqAt w B pr bq bo be p s) (o : Nat) : w.frozen? ⟨bq, o, none⟩ = false := by obtain ⟨_, _, h1, _⟩ := h.row; exact frozen_row h1 o
theorem RmqAt.f3 (h : RmqAt w B pr bq bo be p s) (o : Nat) : w.frozen? ⟨bo, o, none⟩ = false := by obtain ⟨_, _, h1, _⟩ := h.ofc; exact frozen_row h1 o
theorem RmqAt.f4 (h : RmqAt w B pr bq bo be p s) (o : Nat) : w.frozen? ⟨be, o, none⟩ = false := by obtain ⟨_, _, h1, _⟩ := h.exc; exact frozen_row h1 o
theorem rowok_set (_h : RmqAt w B pr bq bo be p s) {x o : Nat} (hx : x = pr ∨ x = bq ∨ x = bo ∨ x = be) (u : Value) {v : Value} {L : List Nat} (hv : RowOk w B [pr, bq, bo, be] v L) : RowOk (w.setCell ⟨x, o, none⟩ u) B [pr, bq, bo, be] v L := by
  refine hv.chg ((Chg.refl [x] w).setCell (.inl (by simp)) u) (fun g hg hm => ?_)
  have := (hv.2 g hg).2.1
  simp at hm
  subst hm
  exact this (by simp; omega)
theorem RmqAt.setNow (h : RmqAt w B pr bq bo be p s) (x : Nat) : RmqAt (w.setCell ⟨pr, 7, none⟩ (.int .i64 x)) B pr bq bo be p { s with now := x } := by
  obtain ⟨n1, n2, n3, n4, n5, n6⟩ := h.nd
  refine ⟨h.nd, h.low, fun g hg => h.top g (by simpa using hg), ?_, ?_, ?_, ?_, h.len⟩
  · obtain ⟨vg, c, t, e1, e2, e3, e4⟩ := h.hdr
    exact ⟨vg, c, t, heap_set (o := 7) e1 (.int .i64 x), e2, e3, rowok_set h (.inl rfl) _ e4⟩
  · obtain ⟨cs, t, e1, e2⟩ := h.row
    exact ⟨cs, t, (Below.heap_setCell _ _ _ _ (Ne.symm n1)).trans e1, fun i hi => by obtain ⟨v, q1, q2⟩ := e2 i hi; exact ⟨v, q1, rowok_set h (.inl rfl) _ q2⟩⟩
  · obtain ⟨cs, t, e1, e2⟩ := h.ofc
    exact ⟨cs, t, (Below.heap_setCell _ _ _ _ (Ne.symm n2)).trans e1, e2⟩
  · obtain ⟨cs, t, e1, e2⟩ := h.exc
    exact ⟨cs, t, (Below.heap_setCell _ _ _ _ (Ne.symm n3)).trans e1, e2⟩
theorem getD_set_nat (Ls : List (List Nat)) (i k : Nat) (L : List Nat) (hi : i < Ls.length) : (Ls.set i L).getD k [] = if k = i then L else Ls.getD k [] := by
  simp only [List.getD_eq_getElem?_getD, List.getElem?_set]
  by_cases h : i = k
  · subst h; simp [hi]
  · rw [if_neg h, if_neg (fun e => h e.symm)]
theorem RmqAt.setRow (h : RmqAt w B pr bq bo be p s) {i : Nat} (hi : i < p.qs) {u : Value} {L : List Nat} (hu : RowOk w B [pr, bq, bo, be] u L) : RmqAt (w.setCell ⟨bq, i, none⟩ u) B pr bq bo be p (s.inLs (s.Ls.set i L)) := by
  obtain ⟨n1, n2, n3, n4, n5, n6⟩ := h.nd
  have hl : i < s.Ls.length := by rw [h.len]; omega
  refine ⟨h.nd, h.low, fun g hg => h.top g (by simpa using hg), ?_, ?_, ?_, ?_, by show (s.Ls.set i L).length = _; rw [List.length_set]; exact h.len⟩
  · obtain ⟨vg, c, t, e1, e2, e3, e4⟩ := h.hdr
    refine ⟨vg, c, t, (Below.heap_setCell _ _ _ _ n1).trans e1, e2, e3, ?_⟩
    show RowOk _ _ _ _ ((s.Ls.set i L).getD p.qs [])
    rw [getD_set_nat _ _ _ _ hl, if_neg (by omega)]
    exact rowok_set h (.inr (.inl rfl)) _ e4
  · obtain ⟨cs, t, e1, e2⟩ := h.row
    refine ⟨_, t, heap_set (o := i) e1 u, fun k hk => ?_⟩
    show ∃ v, _ ∧ RowOk _ _ _ _ ((s.Ls.set i L).getD k [])
    obtain ⟨v, q1, q2⟩ := e2 k hk
    rw [getD_set_nat _ _ _ _ hl]
    by_cases e : k = i
    · subst e
      rw [if_pos rfl]
      exact ⟨u, by rw [Array.getElem?_setIfInBounds_self_of_lt (Array.getElem?_eq_some_iff.1 q1).1], rowok_set h (.inr (.inl rfl)) _ hu⟩
    · rw [if_neg e]
      exact ⟨v, by rw [Array.getElem?_setIfInBounds_ne (fun x => e x.symm)]; exact q1, rowok_set h (.inr (.inl rfl)) _ q2⟩
  · obtain ⟨cs, t, e1, e2⟩ := h.ofc
    exact ⟨cs, t, (Below.heap_setCell _ _ _ _ (Ne.symm n4)).trans e1, e2⟩
  · obtain ⟨cs, t, e1, e2⟩ := h.exc
    exact ⟨cs, t, (Below.heap_setCell _ _ _ _ (Ne.symm n5)).trans e1, e2⟩
theorem RmqAt.setGh (h : RmqAt w B pr bq bo be p s) {u : Value} {L : List Nat} (hu : RowOk w B [pr, bq, bo, be] u L) : RmqAt (w.setCell ⟨pr, 4, none⟩ u) B pr bq bo be p (s.inLs (s.Ls.set p.qs L)) := by
  obtain ⟨n1, n2, n3, n4, n5, n6⟩ := h.nd
  have hl : p.qs < s.Ls.length := by rw [h.len]; omega
  refine ⟨h.nd, h.low, fun g hg => h.top g (by simpa using hg), ?_, ?_, ?_, ?_, by show (s.Ls.set p.qs L).length = _; rw [List.length_set]; exact h.len⟩
  · obtain ⟨vg, c, t, e1, e2, e3, e4⟩ := h.hdr
    refine ⟨u, c, t, heap_set (o := 4) e1 u, e2, e3, ?_⟩
    show RowOk _ _ _ _ ((s.Ls.set p.qs L).getD p.qs [])
    rw [getD_set_nat _ _ _ _ hl, if_pos rfl]
    exact rowok_set h (.inl rfl) _ hu
  · obtain ⟨cs, t, e1, e2⟩ := h.row
    refine ⟨cs, t, (Below.heap_setCell _ _ _ _ (Ne.symm n1)).trans e1, fun k hk => ?_⟩
    obtain ⟨v, q1, q2⟩ := e2 k hk
    refine ⟨v, q1, ?_⟩
    show RowOk _ _ _ _ ((s.Ls.set p.qs L).getD k [])
    rw [getD_set_nat _ _ _ _ hl, if_neg (by omega)]
    exact rowok_set h (.inl rfl) _ q2
  · obtain ⟨cs, t, e1, e2⟩ := h.ofc
    exact ⟨cs, t, (Below.heap_setCell _ _ _ _ (Ne.symm n2)).trans e1, e2⟩
  · obtain ⟨cs, t, e1, e2⟩ := h.exc
    exact ⟨cs, t, (Below.heap_setCell _ _ _ _ (Ne.symm n3)).trans e1, e2⟩
theorem RmqAt.setOf (h : RmqAt w B pr bq bo be p s) {b : Nat} (hb : b < 64) (x : Nat) : RmqAt (w.setCell ⟨bo, b, none⟩ (.int .i64 x)) B pr bq bo be p { s with of := updN s.of b x } := by
  obtain ⟨n1, n2, n3, n4, n5, n6⟩ := h.nd
  refine ⟨h.nd, h.low, fun g hg => h.top g (by simpa using hg), ?_, ?_, ?_, ?_, h.len⟩
  · obtain ⟨vg, c, t, e1, e2, e3, e4⟩ := h.hdr
    exact ⟨vg, c, t, (Below.heap_setCell _ _ _ _ n2).trans e1, e2, e3, rowok_set h (.inr (.inr (.inl rfl))) _ e4⟩
  · obtain ⟨cs, t, e1, e2⟩ := h.row
    exact ⟨cs, t, (Below.heap_setCell _ _ _ _ n4).trans e1, fun i hi => by obtain ⟨v, q1, q2⟩ := e2 i hi; exact ⟨v, q1, rowok_set h (.inr (.inr (.inl rfl))) _ q2⟩⟩
  · obtain ⟨cs, t, e1, e2⟩ := h.ofc
    refine ⟨_, t, heap_set (o := b) e1 _, fun k hk => ?_⟩
    show _ = some (Value.int .i64 (updN s.of b x k : Nat))
    unfold updN
    by_cases e : k = b
    · subst e
      rw [if_pos rfl, Array.getElem?_setIfInBounds_self_of_lt (Array.getElem?_eq_some_iff.1 (e2 k hk)).1]
    · rw [if_neg e, Array.getElem?_setIfInBounds_ne (fun x => e x.symm)]
      exact e2 k hk
  · obtain ⟨cs, t, e1, e2⟩ := h.exc
    exact ⟨cs, t, (Below.heap_setCell _ _ _ _ (Ne.symm n6)).trans e1, e2⟩
theorem RmqAt.setEx (h : RmqAt w B pr bq bo be p s) {b : Nat} (hb : b < 64) (x : Nat) : RmqAt (w.setCell ⟨be, b, none⟩ (.int .i64 x)) B pr bq bo be p { s with ex := updN s.ex b x } := by
  obtain ⟨n1, n2, n3, n4, n5, n6⟩ := h.nd
  refine ⟨h.nd, h.low, fun g hg => h.top g (by simpa using hg), ?_, ?_, ?_, ?_, h.len⟩
  · obtain ⟨vg, c, t, e1, e2, e3, e4⟩ := h.hdr
    exact ⟨vg, c, t, (Below.heap_setCell _ _ _ _ n3).trans e1, e2, e3, rowok_set h (.inr (.inr (.inr rfl))) _ e4⟩
  · obtain ⟨cs, t, e1, e2⟩ := h.row
    exact ⟨cs, t, (Below.heap_setCell _ _ _ _ n5).trans e1, fun i hi => by obtain ⟨v, q1, q2⟩ := e2 i hi; exact ⟨v, q1, rowok_set h (.inr (.inr (.inr rfl))) _ q2⟩⟩
  · obtain ⟨cs, t, e1, e2⟩ := h.ofc
    exact ⟨cs, t, (Below.heap_setCell _ _ _ _ n6).trans e1, e2⟩
  · obtain ⟨cs, t, e1, e2⟩ := h.exc
    refine ⟨_, t, heap_set (o := b) e1 _, fun k hk => ?_⟩
    show _ = some (Value.int .i64 (updN s.ex b x k : Nat))
    unfold updN
    by_cases e : k = b
    · subst e
      rw [if_pos rfl, Array.getElem?_setIfInBounds_self_of_lt (Array.getElem?_eq_some_iff.1 (e2 k hk)).1]
    · rw [if_neg e, Array.getElem?_setIfInBounds_ne (fun x => e x.symm)]
      exact e2 k hk
/-- the blocks that it may lie in, told anew -/
theorem RmqAt.mono (h : RmqAt w B pr bq bo be p s) {B' : Nat → Prop} (hB : ∀ g, g < w.heap.size → B g → B' g) (ht : ∀ g, w.heap.size ≤ g → B' g) : RmqAt w B' pr bq bo be p s := by
  have l1 := h.l1; have l2 := h.l2; have l3 := h.l3; have l4 := h.l4
  obtain ⟨b1, b2, b3, b4⟩ := h.low
  refine ⟨h.nd, ⟨hB _ l1 b1, hB _ l2 b2, hB _ l3 b3, hB _ l4 b4⟩, ht, ?_, ?_, h.ofc, h.exc, h.len⟩
  · obtain ⟨vg, c, t, e1, e2, e3, e4⟩ := h.hdr
    exact ⟨vg, c, t, e1, e2, e3, e4.mono hB⟩
  · obtain ⟨cs, t, e1, e2⟩ := h.row
    exact ⟨cs, t, e1, fun i hi => by obtain ⟨v, q1, q2⟩ := e2 i hi; exact ⟨v, q1, q2.mono hB⟩⟩
/-- a new block, which it may not lie in -/
theorem RmqAt.but (h : RmqAt w B pr bq bo be p s) (o : Obj) : RmqAt (w.alloc o) (fun g => B g ∧ g ≠ w.heap.size) pr bq bo be p s := by
  have h1 := h.mono (B' := fun g => B g ∧ g ≠ w.heap.size ∨ w.heap.size ≤ g) (fun g hg hb => .inl ⟨hb, by omega⟩) (fun g hg => .inr hg)
  have h2 : RmqAt (w.alloc o) B pr bq bo be p s := h.ext ((Ext.refl w).alloc o)
  have l1 := h.l1; have l2 := h.l2; have l3 := h.l3; have l4 := h.l4
  obtain ⟨b1, b2, b3, b4⟩ := h.low
  have hx : Ext w (w.alloc o) := (Ext.refl w).alloc o
  have hr : ∀ v L, RowOk w B [pr, bq, bo, be] v L → RowOk (w.alloc o) (fun g => B g ∧ g ≠ w.heap.size) [pr, bq, bo, be] v L := fun v L hv =>
    (hv.mono (B' := fun g => B g ∧ g ≠ w.heap.size) (fun g hg hb => ⟨hb, by omega⟩)).ext hx
  refine ⟨h.nd, ⟨⟨b1, by omega⟩, ⟨b2, by omega⟩, ⟨b3, by omega⟩, ⟨b4, by omega⟩⟩, fun g hg => ?_, ?_, ?_, h2.ofc, h2.exc, h.len⟩
  · have : w.heap.size + 1 ≤ g := by simpa using hg
    exact ⟨h.top g (by omega), by omega⟩
  · obtain ⟨vg, c, t, e1, e2, e3, e4⟩ := h.hdr
    exact ⟨vg, c, t, (Below.block hx _ l1).trans e1, e2, e3, hr _ _ e4⟩
  · obtain ⟨cs, t, e1, e2⟩ := h.row
    exact ⟨cs, t, (Below.block hx _ l2).trans e1, fun i hi => by obtain ⟨v, q1, q2⟩ := e2 i hi; exact ⟨v, q1, hr _ _ q2⟩⟩
end
/-- the first k lists without a block -/
def outTo (Ls : List (List Nat)) (b : Nat) : Nat → List (List Nat)
  | 0 => Ls
  | k + 1 => (outTo Ls b k).set k ((Ls.getD k []).filter (· ≠ b))
theorem outTo_length (Ls : List (List Nat)) (b : Nat) : ∀ k, (outTo Ls b k).length = Ls.length
  | 0 => rfl
  | k + 1 => by rw [outTo, List.length_set, outTo_length Ls b k]
theorem outTo_at (Ls : List (List Nat)) (b : Nat) : ∀ k, k ≤ Ls.length → ∀ i, (outTo Ls b k).getD i [] = if i < k then (Ls.getD i []).filter (· ≠ b) else Ls.getD i []
  | 0, _, i => by rw [if_neg (by omega)]; rfl
  | k + 1, hk, i => by
    rw [outTo, getD_set_nat _ _ _ _ (by rw [outTo_length]; omega), outTo_at Ls b k (by omega) i]
    by_cases e : i = k
    · subst e; rw [if_pos rfl, if_pos (by omega)]
    · rw [if_neg e]
      by_cases h : i < k
      · rw [if_pos h, if_pos (by omega)]
      · rw [if_neg h, if_neg (by omega)]
theorem list_ext_getD {A C : List (List Nat)} (hl : A.length = C.length) (h : ∀ i, i < A.length → A.getD i [] = C.getD i []) : A = C := by
  refine List.ext_getElem? fun i => ?_
  by_cases hi : i < A.length
  · have := h i hi
    simp only [List.getD_eq_getElem?_getD, List.getElem?_eq_getElem hi, List.getElem?_eq_getElem (show i < C.length by omega), Option.getD_some] at this
    rw [List.getElem?_eq_getElem hi, List.getElem?_eq_getElem (show i < C.length by omega), this]
  · rw [List.getElem?_eq_none (by omega), List.getElem?_eq_none (by omega)]
theorem outTo_all (Ls : List (List Nat)) (b : Nat) : outTo Ls b Ls.length = outL Ls b := by
  refine list_ext_getD (by rw [outTo_length, outL_length]) fun i hi => ?_
  rw [outTo_length] at hi
  rw [outTo_at _ _ _ (Nat.le_refl _), if_pos hi, getD_out]
end Go.Proofs.Ytibcfmnkpemieaa
