/-
  A space of lists as it lies in memory: a block of 193 cells (64 nodes, the slice of the ends) and a block of the ends. What stores, new blocks and draws do to it. No program in sight.
-/
import Derived.Test.YthoioocfembkgaaMem
import Derived.Deep.RegionWith
import Derived.BigRegion
namespace Go.Proofs.Ythoioocfembkgaa
open Go.RowKit

/-- the world w' is w but for the blocks of S and for new ones -/
structure Chg (S : List Nat) (w w' : World) : Prop where
  os : w'.os = w.os
  tape : w'.tape = w.tape
  output : w'.output = w.output
  size : w.heap.size ≤ w'.heap.size
  block : ∀ k, k < w.heap.size → k ∉ S → w'.heap[k]? = w.heap[k]?
theorem Chg.refl (S : List Nat) (w : World) : Chg S w w := ⟨rfl, rfl, rfl, Nat.le_refl _, fun _ _ _ => rfl⟩
theorem Chg.trans {S : List Nat} {a b c : World} (h : Chg S a b) (k : Chg S b c) : Chg S a c :=
  ⟨k.os.trans h.os, k.tape.trans h.tape, k.output.trans h.output, Nat.le_trans h.size k.size, fun i hi hn => (k.block i (Nat.lt_of_lt_of_le hi h.size) hn).trans (h.block i hi hn)⟩
theorem Chg.ext {S : List Nat} {a b c : World} (h : Chg S a b) (k : Ext b c) : Chg S a c :=
  ⟨(Below.os k).trans h.os, (Below.tape k).trans h.tape, (Below.output k).trans h.output, Nat.le_trans h.size k.size, fun i hi hn => (Below.block k i (Nat.lt_of_lt_of_le hi h.size)).trans (h.block i hi hn)⟩
theorem Chg.of_ext {S : List Nat} {a b : World} (h : Ext a b) : Chg S a b := (Chg.refl S a).ext h
theorem Chg.alloc {S : List Nat} {a w : World} (h : Chg S a w) (o : Obj) : Chg S a (w.alloc o) := h.ext ((Ext.refl w).alloc o)
theorem Chg.drew {S : List Nat} {a w : World} (h : Chg S a w) : Chg S a w.drew := h.ext (Ext.refl w).drew
theorem Chg.drewN {S : List Nat} {a w : World} (h : Chg S a w) (n : Nat) : Chg S a (w.drewN n) := h.ext ((Ext.refl w).drewN n)
theorem Chg.setCell {S : List Nat} {a w : World} (h : Chg S a w) {p : Addr} (hp : p.block ∈ S ∨ a.heap.size ≤ p.block) (u : Value) : Chg S a (w.setCell p u) :=
  ⟨h.os, h.tape, h.output, by simpa [World.setCell] using h.size, fun k hk hn => (Below.heap_setCell _ _ _ k (by
    rcases hp with hp | hp
    · intro e; subst e; exact hn hp
    · omega)).trans (h.block k hk hn)⟩
/-- what stands below B is as it was, if all blocks that may have changed stand from B on -/
theorem Chg.below {S : List Nat} {B : Nat} {a b c : World} (h : Below B a b) (k : Chg S b c) (hB : B ≤ b.heap.size) (hS : ∀ s ∈ S, B ≤ s) : Below B a c :=
  ⟨k.os.trans h.os, k.tape.trans h.tape, k.output.trans h.output, Nat.le_trans h.size k.size, fun i hi => (k.block i (Nat.lt_of_lt_of_le hi hB) (fun hm => by have := hS i hm; omega)).trans (h.block i hi)⟩
theorem Ext.chg {S : List Nat} {a b c : World} (h : Ext a b) (k : Chg S b c) (hS : ∀ s ∈ S, a.heap.size ≤ s) : Ext a c := Chg.below h k h.size hS
theorem own_chg {S : List Nat} {w w' : World} {base : Nat} {e : TypeId} {size n : Nat} {v : Value} {xs : List Value} (h : w.ownsRow base e size v n xs) (hb : Chg S w w') (hS : ∀ s ∈ S, s < base) : w'.ownsRow base e size v n xs := by
  refine ⟨h.1, ?_⟩
  rcases h.2 with hn | ⟨g, cap, cur, rfl, hb', hgg, rest⟩
  · exact .inl hn
  · exact .inr ⟨g, cap, cur, rfl, hb', (hb.block g (Array.getElem?_eq_some_iff.1 hgg).1 (fun hm => by have := hS g hm; omega)).trans hgg, rest⟩
theorem OwnI.chg {S : List Nat} {k : IntKind} {e : TypeId} {base : Nat} {w w' : World} {v : Value} {l : List Int} (h : OwnI k e base w v l) (hb : Chg S w w') (hS : ∀ s ∈ S, s < base) : OwnI k e base w' v l := own_chg h hb hS

/-! ### a space -/

/-- cells that are integers -/
def upd (A : Nat → Nat → Int) (b f : Nat) (x : Int) : Nat → Nat → Int := fun i j => if i = b ∧ j = f then x else A i j
theorem upd_same (A : Nat → Nat → Int) (b f : Nat) (x : Int) : upd A b f x b f = x := by simp [upd]
theorem upd_other (A : Nat → Nat → Int) (b f : Nat) (x : Int) {i j : Nat} (h : i ≠ b ∨ j ≠ f) : upd A b f x i j = A i j := by
  unfold upd; rw [if_neg (by omega)]

/-- a block of rows of three integers each, behind which there may be more cells -/
def Rows3 (cs : Array Value) (n : Nat) (A : Nat → Nat → Int) : Prop := ∀ b f, b < n → f < 3 → cs[b * 3 + f]? = some (.int .i64 (A b f))
theorem Rows3.set {cs : Array Value} {n : Nat} {A : Nat → Nat → Int} (h : Rows3 cs n A) {b f : Nat} (hb : b < n) (hf : f < 3) (x : Int) : Rows3 (cs.setIfInBounds (b * 3 + f) (.int .i64 x)) n (upd A b f x) := by
  intro i j hi hj
  by_cases he : i = b ∧ j = f
  · obtain ⟨rfl, rfl⟩ := he
    have h1 := h i j hi hj
    have hlt : i * 3 + j < cs.size := (Array.getElem?_eq_some_iff.1 h1).1
    rw [upd_same, Array.getElem?_setIfInBounds]
    simp [hlt]
  · rw [upd_other A b f x (by omega), Array.getElem?_setIfInBounds, if_neg (by omega)]
    exact h i j hi hj

/-- the space whose nodes lie in block bs and whose ends lie in block be: n lists -/
structure SpcAt (w : World) (bs be n : Nat) (A E : Nat → Nat → Int) : Prop where
  ne : bs ≠ be
  pos : 1 ≤ n
  top : n ≤ 40
  cells : ∃ cs t, w.heap[bs]? = some (.cells cs t (0, 0)) ∧ Rows3 cs 64 A ∧ cs[192]? = some (.slice (some ⟨be, 0, none⟩) n n)
  ends : ∃ cs t, w.heap[be]? = some (.cells cs t (0, 0)) ∧ Rows3 cs n E

section
variable {w w' : World} {bs be n : Nat} {A E : Nat → Nat → Int}
theorem SpcAt.lt1 (h : SpcAt w bs be n A E) : bs < w.heap.size := by obtain ⟨cs, t, h1, _⟩ := h.cells; exact (Array.getElem?_eq_some_iff.1 h1).1
theorem SpcAt.lt2 (h : SpcAt w bs be n A E) : be < w.heap.size := by obtain ⟨cs, t, h1, _⟩ := h.ends; exact (Array.getElem?_eq_some_iff.1 h1).1
theorem SpcAt.node (h : SpcAt w bs be n A E) {b f : Nat} (hb : b < 64) (hf : f < 3) : w.cell? ⟨bs, b * 3 + f, none⟩ = some (.int .i64 (A b f)) := by
  obtain ⟨cs, t, h1, h2, _⟩ := h.cells
  rw [cell_of_row w bs _ cs t (0, 0) h1]; exact h2 b f hb hf
theorem SpcAt.node0 (h : SpcAt w bs be n A E) {b : Nat} (hb : b < 64) : w.cell? ⟨bs, b * 3, none⟩ = some (.int .i64 (A b 0)) := h.node (f := 0) hb (by omega)
theorem SpcAt.slice (h : SpcAt w bs be n A E) : w.cell? ⟨bs, 192, none⟩ = some (.slice (some ⟨be, 0, none⟩) n n) := by
  obtain ⟨cs, t, h1, _, h2⟩ := h.cells
  rw [cell_of_row w bs _ cs t (0, 0) h1]; exact h2
theorem SpcAt.endc (h : SpcAt w bs be n A E) {l f : Nat} (hl : l < n) (hf : f < 3) : w.cell? ⟨be, l * 3 + f, none⟩ = some (.int .i64 (E l f)) := by
  obtain ⟨cs, t, h1, h2⟩ := h.ends
  rw [cell_of_row w be _ cs t (0, 0) h1]; exact h2 l f hl hf
theorem SpcAt.endc0 (h : SpcAt w bs be n A E) {l : Nat} (hl : l < n) : w.cell? ⟨be, l * 3, none⟩ = some (.int .i64 (E l 0)) := h.endc (f := 0) hl (by omega)
theorem frozen_row {g : Nat} {cs : Array Value} {t : TypeId} (h : w.heap[g]? = some (.cells cs t (0, 0))) (o : Nat) : w.frozen? ⟨g, o, none⟩ = false := by
  simp [World.frozen?, h]
theorem SpcAt.free1 (h : SpcAt w bs be n A E) (o : Nat) : w.frozen? ⟨bs, o, none⟩ = false := by obtain ⟨cs, t, h1, _⟩ := h.cells; exact frozen_row h1 o
theorem SpcAt.free2 (h : SpcAt w bs be n A E) (o : Nat) : w.frozen? ⟨be, o, none⟩ = false := by obtain ⟨cs, t, h1, _⟩ := h.ends; exact frozen_row h1 o
theorem SpcAt.same (h : SpcAt w bs be n A E) (h1 : w'.heap[bs]? = w.heap[bs]?) (h2 : w'.heap[be]? = w.heap[be]?) : SpcAt w' bs be n A E :=
  ⟨h.ne, h.pos, h.top, by rw [h1]; exact h.cells, by rw [h2]; exact h.ends⟩
theorem SpcAt.ext (h : SpcAt w bs be n A E) (hx : Ext w w') : SpcAt w' bs be n A E := h.same (Below.block hx _ h.lt1) (Below.block hx _ h.lt2)
theorem SpcAt.chg {S : List Nat} (h : SpcAt w bs be n A E) (hx : Chg S w w') (h1 : bs ∉ S) (h2 : be ∉ S) : SpcAt w' bs be n A E := h.same (hx.block _ h.lt1 h1) (hx.block _ h.lt2 h2)
theorem SpcAt.alloc (h : SpcAt w bs be n A E) (o : Obj) : SpcAt (w.alloc o) bs be n A E := h.ext ((Ext.refl w).alloc o)
theorem heap_set {g o : Nat} {cs : Array Value} {t : TypeId} {f : Nat × Nat} (h : w.heap[g]? = some (.cells cs t f)) (u : Value) : (w.setCell ⟨g, o, none⟩ u).heap[g]? = some (.cells (cs.setIfInBounds o u) t f) := by
  simp only [World.setCell, Array.getElem?_modify, if_true, h]
  simp
theorem SpcAt.setNode (h : SpcAt w bs be n A E) {b f : Nat} (hb : b < 64) (hf : f < 3) (x : Int) : SpcAt (w.setCell ⟨bs, b * 3 + f, none⟩ (.int .i64 x)) bs be n (upd A b f x) E := by
  obtain ⟨cs, t, h1, h2, h3⟩ := h.cells
  refine ⟨h.ne, h.pos, h.top, ⟨_, t, heap_set h1 _, h2.set hb hf x, ?_⟩, ?_⟩
  · rw [Array.getElem?_setIfInBounds, if_neg (by omega)]; exact h3
  · rw [Below.heap_setCell _ _ _ _ (Ne.symm h.ne)]; exact h.ends
theorem SpcAt.setEnd (h : SpcAt w bs be n A E) {l f : Nat} (hl : l < n) (hf : f < 3) (x : Int) : SpcAt (w.setCell ⟨be, l * 3 + f, none⟩ (.int .i64 x)) bs be n A (upd E l f x) := by
  obtain ⟨cs, t, h1, h2⟩ := h.ends
  refine ⟨h.ne, h.pos, h.top, ?_, ⟨_, t, heap_set h1 _, h2.set hl hf x⟩⟩
  rw [Below.heap_setCell _ _ _ _ h.ne]; exact h.cells
theorem SpcAt.setNode0 (h : SpcAt w bs be n A E) {b : Nat} (hb : b < 64) (x : Int) : SpcAt (w.setCell ⟨bs, b * 3, none⟩ (.int .i64 x)) bs be n (upd A b 0 x) E := h.setNode (f := 0) hb (by omega) x
theorem SpcAt.setEnd0 (h : SpcAt w bs be n A E) {l : Nat} (hl : l < n) (x : Int) : SpcAt (w.setCell ⟨be, l * 3, none⟩ (.int .i64 x)) bs be n A (upd E l 0 x) := h.setEnd (f := 0) hl (by omega) x
/-- a store into another block -/
theorem SpcAt.setOther (h : SpcAt w bs be n A E) {p : Addr} (h1 : bs ≠ p.block) (h2 : be ≠ p.block) (u : Value) : SpcAt (w.setCell p u) bs be n A E := h.same (Below.heap_setCell _ _ _ _ h1) (Below.heap_setCell _ _ _ _ h2)
end
end Go.Proofs.Ythoioocfembkgaa
