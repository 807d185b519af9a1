/-
  A disk as it lies in memory, and what is done to it, plainly. No program in sight.
-/
import Derived.Test.YtoadjmeopamgbaaSpc
import Derived.Laws.CopyOwn
namespace Go.Proofs.Ytoadjmeopamgbaa
open Go.RowKit

theorem chg_cell {S : List Nat} {w w' : World} (h : Chg S w w') {b o : Nat} {u : Value} (hc : w.cell? ⟨b, o, none⟩ = some u) (hS : b ∉ S) : w'.cell? ⟨b, o, none⟩ = some u := by
  have hb := cell_lt hc
  have := h.block b hb hS
  simp only [World.cell?] at hc ⊢
  rw [this]; exact hc
theorem Chg.mono {S S' : List Nat} {a b : World} (h : Chg S a b) (hS : ∀ s ∈ S, s ∈ S') : Chg S' a b :=
  ⟨h.os, h.tape, h.output, h.size, fun k hk hn => h.block k hk (fun hm => hn (hS k hm))⟩
/-- what reads still reads, if its block is none of those that changed -/
theorem RdI.chg {S : List Nat} {k : IntKind} {w w' : World} {v : Value} {l : List Int} (h : RdI k w v l) (hx : Chg S w w') (hS : ∀ g, v.ownBlock = some g → g ∉ S) : RdI k w' v l := by
  obtain ⟨h1, a, c, rfl, h2, h3, h4, h5⟩ := h
  refine ⟨h1, a, c, rfl, h2, h3, h4, fun hn => ?_⟩
  obtain ⟨b, o, rfl, hlt, hc⟩ := h5 hn
  exact ⟨b, o, rfl, Nat.lt_of_lt_of_le hlt hx.size, fun j x hj => chg_cell hx (hc j x hj) (hS b rfl)⟩

/-- a store into a cell that holds something else -/
theorem RdI.other {k : IntKind} {w : World} {v : Value} {l : List Int} (h : RdI k w v l) {a : Addr} {u0 : Value} (hc : w.cell? a = some u0) (hne : ∀ x, u0 ≠ .int k x) (u : Value) : RdI k (w.setCell a u) v l := by
  obtain ⟨h1, ad, c, rfl, h2, h3, h4, h5⟩ := h
  refine ⟨h1, ad, c, rfl, h2, h3, h4, fun hn => ?_⟩
  obtain ⟨b, o, rfl, hlt, hcell⟩ := h5 hn
  refine ⟨b, o, rfl, by simpa [World.setCell] using hlt, fun j x hj => ?_⟩
  have h6 := hcell j x hj
  refine (World.cell?_setCell_other _ _ _ _ (fun e => ?_)).trans h6
  rw [e, h6] at hc
  rw [List.getElem?_map] at hj
  obtain ⟨y, _, rfl⟩ := Option.map_eq_some_iff.1 hj
  simp only [Option.some.injEq] at hc
  exact hne y hc.symm

/-- 'copy' into a slice that the call itself made, of the very length: integers -/
theorem wpList_copy_ints {P : Program} {w : World} {ops : Array Oper} {rest : List Oper} {o : Oper} {a : Act} {Q : Exit → Act → World → Prop} (hgd : o.guard = none) (d s : Operand) (dT sT : TypeId)
    (ho : o.op = .call { callee := .builtin .copy, args := #[d, s], argTypes := #[dT, sT] }) (elem : TypeId) (hu : P.underlying dT = some (.slice elem)) (hsz : (P.info? elem).map (·.size) = some 1)
    (k : IntKind) (w0 : World) (hx0 : Ext w0 w) (g n : Nat) (hd : a.eval d = .slice (some ⟨g, 0, none⟩) n n) (y : Value) (l : List Int) (hs : a.eval s = y) (hr : RdI k w y l) (hn : l.length = n)
    (xs : List Value) (base : Nat) (hown : w.ownsRow base elem 1 (.slice (some ⟨g, 0, none⟩) n n) n xs) (hbase : base = w0.heap.size)
    (h : ∀ w', OwnI k elem w0.heap.size w' (.slice (some ⟨g, 0, none⟩) n n) l → Ext w0 w' → wpList P ops Q rest (a.put o.dst (goInt n)) w') : wpList P ops Q (o :: rest) a w := by
  subst hbase
  obtain ⟨hl, h2⟩ := hown
  rcases h2 with ⟨h2, _⟩ | ⟨g', cap, cur, he, hb, hg, hnc, hm, hcs, ht⟩
  · cases h2
  · simp only [Value.slice.injEq, Option.some.injEq, Addr.mk.injEq] at he
    obtain ⟨⟨rfl, _⟩, _, rfl⟩ := he
    obtain ⟨hrl, a', c', rfl, hlc, hcm, hnil, hsome⟩ := hr
    subst hn
    refine wpList_copy_splice hgd d s dT sT ho elem hu hsz _ _ _ _ _ _ hd hs g 0 cur.toList elem (by simpa using hg) (cellsOf k l) (by simp) ?_ (by simp [hcs]) cellsOf_one w0.heap.size w0 hx0 hb ?_
    · intro h0
      obtain ⟨b, o', rfl, hlt, hc⟩ := hsome (by simpa using h0)
      refine ⟨rfl, _, rfl, fun j v hj => ?_⟩
      rw [add_none]; exact hc j v hj
    · intro w' hw' hx'
      have hrow : splice cur.toList 0 (cellsOf k l) = cellsOf k l := by
        unfold splice
        have : cur.toList.drop (0 + (cellsOf k l).length) = [] := by rw [List.drop_eq_nil_iff]; simp [hcs]
        rw [this, List.append_nil, List.take_zero, List.nil_append]
      rw [hrow] at hw'
      have := h w' ⟨by simp, .inr ⟨g, l.length, (cellsOf k l).toArray, rfl, hb, hw', Nat.le_refl _, hm, by simp, List.take_of_length_le (by simp)⟩⟩ hx'
      simpa using this

/-- a disk -/
structure Dk where
  fuse : Int
  down : Bool
  rows : List (List Int)

/-- what a write answers -/
def Dk.bad (d : Dk) (i : Int) (b : List Int) : Int :=
  if d.down then 8 else if 0 ≤ i ∧ i < d.rows.length then (if 64 < b.length then 4 else if d.fuse = 0 then 8 else 0) else 3
/-- what a write makes of it -/
def Dk.wr (d : Dk) (i : Int) (b : List Int) : Dk :=
  if d.bad i b = 0 then ⟨max (d.fuse - 1) (-1), d.down, d.rows.set i.toNat b⟩ else if d.bad i b = 8 then ⟨d.fuse, true, d.rows⟩ else d

/-- the disk of the block p; none of its sectors lies in a block of F -/
structure DiskAt (w : World) (F : List Nat) (p bl : Nat) (d : Dk) : Prop where
  top : d.rows.length ≤ 256
  lo : -1 ≤ d.fuse
  hi : d.fuse ≤ 9223372036854775807
  pF : p ∈ F
  lF : bl ∈ F
  ne : 0 < d.rows.length → p ≠ bl
  hdr : ∃ a c t, w.heap[p]? = some (.cells #[.slice a d.rows.length c, .int .i64 d.fuse, .bool d.down] t (0, 0)) ∧ d.rows.length ≤ c ∧ c ≤ maxLen ∧ (0 < d.rows.length → a = some ⟨bl, 0, none⟩)
  small : ∀ j, (d.rows.getD j []).length ≤ 64
  row : ∃ cs t, (0 < d.rows.length → w.heap[bl]? = some (.cells cs t (0, 0))) ∧ ∀ i, i < d.rows.length → ∃ v, cs[i]? = some v ∧ RdI .u8 w v (d.rows.getD i []) ∧ ∀ g, v.ownBlock = some g → g ∉ F

section
variable {w w' : World} {F : List Nat} {p bl : Nat} {d : Dk}
theorem DiskAt.plt (h : DiskAt w F p bl d) : p < w.heap.size := by obtain ⟨a, c, t, h1, _⟩ := h.hdr; exact (Array.getElem?_eq_some_iff.1 h1).1
theorem DiskAt.cell0 (h : DiskAt w F p bl d) : ∃ a c, w.cell? ⟨p, 0, none⟩ = some (.slice a d.rows.length c) ∧ d.rows.length ≤ c ∧ c ≤ maxLen ∧ (0 < d.rows.length → a = some ⟨bl, 0, none⟩) := by
  obtain ⟨a, c, t, h1, h2, h3, h4⟩ := h.hdr
  exact ⟨a, c, cell_of_row w p 0 _ _ _ h1, h2, h3, h4⟩
theorem DiskAt.cell1 (h : DiskAt w F p bl d) : w.cell? ⟨p, 1, none⟩ = some (.int .i64 d.fuse) := by
  obtain ⟨a, c, t, h1, _⟩ := h.hdr; exact cell_of_row w p 1 _ _ _ h1
theorem DiskAt.cell2 (h : DiskAt w F p bl d) : w.cell? ⟨p, 2, none⟩ = some (.bool d.down) := by
  obtain ⟨a, c, t, h1, _⟩ := h.hdr; exact cell_of_row w p 2 _ _ _ h1
theorem DiskAt.frz (h : DiskAt w F p bl d) (j : Nat) : w.frozen? ⟨p, j, none⟩ = false := by
  obtain ⟨a, c, t, h1, _⟩ := h.hdr; exact frozen_row h1 j
theorem DiskAt.frz2 (h : DiskAt w F p bl d) (h0 : 0 < d.rows.length) (j : Nat) : w.frozen? ⟨bl, j, none⟩ = false := by
  obtain ⟨cs, t, h1, _⟩ := h.row; exact frozen_row (h1 h0) j
theorem DiskAt.cell (h : DiskAt w F p bl d) {i : Nat} (hi : i < d.rows.length) : ∃ v, w.cell? ⟨bl, i, none⟩ = some v ∧ RdI .u8 w v (d.rows.getD i []) ∧ ∀ g, v.ownBlock = some g → g ∉ F := by
  obtain ⟨cs, t, h1, h2⟩ := h.row
  obtain ⟨v, hv, h3⟩ := h2 i hi
  exact ⟨v, (cell_of_row w bl i _ _ _ (h1 (by omega))).trans hv, h3⟩

theorem DiskAt.chg {S : List Nat} (h : DiskAt w F p bl d) (hx : Chg S w w') (hp : p ∉ S) (hb : bl ∉ S) (hS : ∀ s ∈ S, s ∈ F) : DiskAt w' F p bl d := by
  obtain ⟨h1, h2, h3, h4, h5, h6, ⟨a, c, t, g1, g2⟩, hsm, ⟨cs, t2, r1, r2⟩⟩ := h
  refine ⟨h1, h2, h3, h4, h5, h6, ⟨a, c, t, (hx.block p (Array.getElem?_eq_some_iff.1 g1).1 hp).trans g1, g2⟩, hsm, ⟨cs, t2, fun h0 => (hx.block bl (Array.getElem?_eq_some_iff.1 (r1 h0)).1 hb).trans (r1 h0), fun i hi => ?_⟩⟩
  obtain ⟨v, hv, hr, ho⟩ := r2 i hi
  exact ⟨v, hv, hr.chg hx (fun g hg hm => ho g hg (hS g hm)), ho⟩
theorem DiskAt.ext (h : DiskAt w F p bl d) (hx : Ext w w') : DiskAt w' F p bl d := h.chg (Chg.of_ext (S := []) hx) (by simp) (by simp) (by simp)
/-- more blocks that no sector lies in -/
theorem DiskAt.mono {F' : List Nat} (h : DiskAt w F p bl d) (hF : ∀ f ∈ F', f ∈ F) (hp : p ∈ F') (hb : bl ∈ F') : DiskAt w F' p bl d := by
  obtain ⟨h1, h2, h3, h4, h5, h6, h7, hsm, ⟨cs, t2, r1, r2⟩⟩ := h
  refine ⟨h1, h2, h3, hp, hb, h6, h7, hsm, ⟨cs, t2, r1, fun i hi => ?_⟩⟩
  obtain ⟨v, hv, hr, ho⟩ := r2 i hi
  exact ⟨v, hv, hr, fun g hg hm => ho g hg (hF g hm)⟩

theorem chg_one (w : World) (b o : Nat) (u : Value) : Chg [b] w (w.setCell ⟨b, o, none⟩ u) := (Chg.refl _ w).setCell (.inl (by simp)) u

theorem DiskAt.setFuse (h : DiskAt w F p bl d) (f : Int) (hlo : -1 ≤ f) (hhi : f ≤ 9223372036854775807) : DiskAt (w.setCell ⟨p, 1, none⟩ (.int .i64 f)) F p bl ⟨f, d.down, d.rows⟩ := by
  obtain ⟨h1, h2, h3, h4, h5, h6, ⟨a, c, t, g1, g2⟩, hsm, ⟨cs, t2, r1, r2⟩⟩ := h
  refine ⟨h1, hlo, hhi, h4, h5, h6, ⟨a, c, t, by simpa using heap_setCell_same w p 1 _ _ (.int .i64 f) g1, g2⟩, hsm, ⟨cs, t2, fun h0 => (Below.heap_setCell _ _ _ _ (by simpa using fun e => h6 h0 e.symm)).trans (r1 h0), fun i hi => ?_⟩⟩
  obtain ⟨v, hv, hr, ho⟩ := r2 i hi
  exact ⟨v, hv, hr.chg (chg_one w p 1 _) (fun g hg hm => by simp at hm; subst hm; exact ho _ hg h4), ho⟩
theorem DiskAt.setDown (h : DiskAt w F p bl d) (f : Bool) : DiskAt (w.setCell ⟨p, 2, none⟩ (.bool f)) F p bl ⟨d.fuse, f, d.rows⟩ := by
  obtain ⟨h1, h2, h3, h4, h5, h6, ⟨a, c, t, g1, g2⟩, hsm, ⟨cs, t2, r1, r2⟩⟩ := h
  refine ⟨h1, h2, h3, h4, h5, h6, ⟨a, c, t, by simpa using heap_setCell_same w p 2 _ _ (.bool f) g1, g2⟩, hsm, ⟨cs, t2, fun h0 => (Below.heap_setCell _ _ _ _ (by simpa using fun e => h6 h0 e.symm)).trans (r1 h0), fun i hi => ?_⟩⟩
  obtain ⟨v, hv, hr, ho⟩ := r2 i hi
  exact ⟨v, hv, hr.chg (chg_one w p 2 _) (fun g hg hm => by simp at hm; subst hm; exact ho _ hg h4), ho⟩
theorem DiskAt.setRow (h : DiskAt w F p bl d) {i : Nat} (hi : i < d.rows.length) {u : Value} {b : List Int} (hu : RdI .u8 w u b) (hb64 : b.length ≤ 64) (hF : ∀ g, u.ownBlock = some g → g ∉ F) : DiskAt (w.setCell ⟨bl, i, none⟩ u) F p bl ⟨d.fuse, d.down, d.rows.set i b⟩ := by
  obtain ⟨h1, h2, h3, h4, h5, h6, ⟨a, c, t, g1, g2⟩, hsm, ⟨cs, t2, r1, r2⟩⟩ := h
  have hsame := heap_setCell_same w bl i _ _ u (r1 (by omega))
  refine ⟨by simpa using h1, h2, h3, h4, h5, fun _ => h6 (by omega), ⟨a, c, t, (Below.heap_setCell _ _ _ _ (by simpa using h6 (by omega))).trans (by simpa using g1), by simpa using g2⟩, fun j => ?_, ⟨_, t2, fun _ => hsame, fun j hj => ?_⟩⟩
  · by_cases e : j = i
    · subst e
      have : (d.rows.set j b).getD j [] = b := by simp [List.getD, hi]
      show ((d.rows.set j b).getD j []).length ≤ 64
      rw [this]; exact hb64
    · have : (d.rows.set i b).getD j [] = d.rows.getD j [] := by
        have e' : ¬ i = j := fun h => e h.symm
        simp [List.getD, e']
      show ((d.rows.set i b).getD j []).length ≤ 64
      rw [this]; exact hsm j
  rw [List.length_set] at hj
  obtain ⟨v, hv, hr, ho⟩ := r2 j hj
  by_cases e : j = i
  · subst e
    refine ⟨u, ?_, ?_, hF⟩
    · rw [Array.getElem?_setIfInBounds, if_pos rfl, if_pos (Array.getElem?_eq_some_iff.1 hv).1]
    · have : (d.rows.set j b).getD j [] = b := by simp [List.getD, hj]
      rw [this]
      exact hu.chg (chg_one w bl j _) (fun g hg hm => by simp at hm; subst hm; exact hF _ hg h5)
  · refine ⟨v, ?_, ?_, ho⟩
    · rw [Array.getElem?_setIfInBounds, if_neg (fun h => e h.symm)]; exact hv
    · have : (d.rows.set i b).getD j [] = d.rows.getD j [] := by
        have e' : ¬ i = j := fun h => e h.symm
        simp [List.getD, e']
      rw [this]
      exact hr.chg (chg_one w bl i _) (fun g hg hm => by simp at hm; subst hm; exact ho _ hg h5)
end
end Go.Proofs.Ytoadjmeopamgbaa
