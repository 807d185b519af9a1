/-
  Queues by how often a block was used, as plain functions on the lists, the clock, the numbers of uses and the times. No program in sight, no condition.
-/
import Derived.Test.YtibcfmnkpemieaaUniMem
import Derived.Test.YtibcfmnkpemieaaBits
namespace Go.Proofs.Ytibcfmnkpemieaa
open Go.RowKit

/-- what an MQ is: its capacity, its queues, a lifetime, its ghosts -/
structure Shp where
  cap : Nat
  qs : Nat
  life : Nat
  gh : Nat
/-- what it holds: queues and, behind them, the ghosts; the clock; how often each block was used; when it expires -/
structure Mq where
  Ls : List (List Nat)
  now : Nat
  of : Nat → Nat
  ex : Nat → Nat
def Mq.inLs (s : Mq) (L : List (List Nat)) : Mq := { s with Ls := L }
def renewQ (p : Shp) (s : Mq) (b : Nat) : Mq := { s with ex := updN s.ex b (s.now + p.life) }
def qOf (p : Shp) (n : Nat) : Nat := min (Lib.bitLen n - 1) (p.qs - 1)
def placeQ (p : Shp) (s : Mq) (b : Nat) : Mq := renewQ p (s.inLs (frontL s.Ls (qOf p (s.of b)) b)) b
/-- the last of a queue -/
def lastQ (s : Mq) (q : Nat) : Nat := lastU (s.Ls.getD q [])
def ageStep (p : Shp) (s : Mq) (q : Nat) : Mq :=
  if s.Ls.getD q [] ≠ [] ∧ s.ex (lastQ s q) < s.now then renewQ p (s.inLs (frontL s.Ls (q - 1) (lastQ s q))) (lastQ s q) else s
def ageQ (p : Shp) : Nat → Nat → Mq → Mq
  | 0, _, s => s
  | k + 1, q, s => ageQ p k (q + 1) (ageStep p s q)
def hasQ (p : Shp) (s : Mq) (b : Nat) : Bool := match ofL s.Ls b with | some l => decide (l < p.qs) | none => false
def tickQ (s : Mq) : Mq := { s with now := s.now + 1 }
def oftenQ (s : Mq) (b : Nat) : Mq := { s with of := updN s.of b (s.of b + 1) }
def freshQ (s : Mq) (b : Nat) : Mq := if ofL s.Ls b = none then { s with of := updN s.of b 0 } else s
def useQ (p : Shp) (s : Mq) (b : Nat) : Mq := if hasQ p s b then ageQ p (p.qs - 1) 1 (placeQ p (oftenQ (tickQ s) b) b) else s
def sumQ : List (List Nat) → Nat → Nat
  | _, 0 => 0
  | Ls, k + 1 => sumQ Ls k + (Ls.getD k []).length
def lenQ (p : Shp) (s : Mq) : Nat := sumQ s.Ls p.qs
/-- the first queue that holds something -/
def firstQ : Nat → Nat → List (List Nat) → Nat
  | 0, q, _ => q
  | k + 1, q, Ls => if Ls.getD q [] = [] then firstQ k (q + 1) Ls else q
def victimQ (p : Shp) (s : Mq) : Nat := lastQ s (firstQ p.qs 0 s.Ls)
def evictQ (p : Shp) (s : Mq) : Mq :=
  if p.gh < ((frontL s.Ls p.qs (victimQ p s)).getD p.qs []).length then s.inLs (outL (frontL s.Ls p.qs (victimQ p s)) (lastU ((frontL s.Ls p.qs (victimQ p s)).getD p.qs [])))
  else s.inLs (frontL s.Ls p.qs (victimQ p s))
/-- room for one more: whether one goes -/
def roomQ (p : Shp) (s : Mq) : Mq := if lenQ p s = p.cap then evictQ p s else s
def addQ (p : Shp) (s : Mq) (b : Nat) : Mq :=
  if hasQ p s b then useQ p s b
  else ageQ p (p.qs - 1) 1 (placeQ p (oftenQ (freshQ (roomQ p (tickQ s)) b) b) b)
def newQ (p : Shp) : Mq := ⟨List.replicate (p.qs + 1) [], 0, fun _ => 0, fun _ => 0⟩

/-! ### the cells -/
structure MCells (cs : Array Value) (bs : Nat) (p : Shp) (now : Nat) (of ex : Nat → Nat) : Prop where
  c0 : cs[0]? = some (.pointer (some ⟨bs, 0, none⟩))
  c1 : cs[1]? = some (.int .i64 p.cap)
  c2 : cs[2]? = some (.int .i64 p.qs)
  c3 : cs[3]? = some (.int .i64 p.life)
  c4 : cs[4]? = some (.int .i64 p.gh)
  c5 : cs[5]? = some (.int .i64 now)
  of : ∀ b, b < 64 → cs[6 + b]? = some (.int .i64 (of b))
  ex : ∀ b, b < 64 → cs[70 + b]? = some (.int .i64 (ex b))
structure MAt (w : World) (pm bs : Nat) (p : Shp) (now : Nat) (of ex : Nat → Nat) : Prop where
  cells : ∃ cs t, w.heap[pm]? = some (.cells cs t (0, 0)) ∧ MCells cs bs p now of ex
section
variable {w w' : World} {pm bs : Nat} {p : Shp} {now : Nat} {of ex : Nat → Nat}
theorem MAt.lt (h : MAt w pm bs p now of ex) : pm < w.heap.size := by obtain ⟨cs, t, h1, _⟩ := h.cells; exact (Array.getElem?_eq_some_iff.1 h1).1
theorem MAt.cell (h : MAt w pm bs p now of ex) {o : Nat} {u : Value} (hu : ∀ cs, MCells cs bs p now of ex → cs[o]? = some u) : w.cell? ⟨pm, o, none⟩ = some u := by
  obtain ⟨cs, t, h1, h2⟩ := h.cells
  rw [cell_of_row w pm _ cs t (0, 0) h1]; exact hu cs h2
theorem MAt.c0 (h : MAt w pm bs p now of ex) : w.cell? ⟨pm, 0, none⟩ = some (.pointer (some ⟨bs, 0, none⟩)) := h.cell fun _ m => m.c0
theorem MAt.c1 (h : MAt w pm bs p now of ex) : w.cell? ⟨pm, 1, none⟩ = some (.int .i64 p.cap) := h.cell fun _ m => m.c1
theorem MAt.c2 (h : MAt w pm bs p now of ex) : w.cell? ⟨pm, 2, none⟩ = some (.int .i64 p.qs) := h.cell fun _ m => m.c2
theorem MAt.c3 (h : MAt w pm bs p now of ex) : w.cell? ⟨pm, 3, none⟩ = some (.int .i64 p.life) := h.cell fun _ m => m.c3
theorem MAt.c4 (h : MAt w pm bs p now of ex) : w.cell? ⟨pm, 4, none⟩ = some (.int .i64 p.gh) := h.cell fun _ m => m.c4
theorem MAt.c5 (h : MAt w pm bs p now of ex) : w.cell? ⟨pm, 5, none⟩ = some (.int .i64 now) := h.cell fun _ m => m.c5
theorem MAt.cof (h : MAt w pm bs p now of ex) {b : Nat} (hb : b < 64) : w.cell? ⟨pm, 6 + b, none⟩ = some (.int .i64 (of b)) := h.cell fun _ m => m.of b hb
theorem MAt.cex (h : MAt w pm bs p now of ex) {b : Nat} (hb : b < 64) : w.cell? ⟨pm, 70 + b, none⟩ = some (.int .i64 (ex b)) := h.cell fun _ m => m.ex b hb
theorem MAt.free (h : MAt w pm bs p now of ex) (o : Nat) : w.frozen? ⟨pm, o, none⟩ = false := by obtain ⟨cs, t, h1, _⟩ := h.cells; exact frozen_row h1 o
theorem MAt.same (h : MAt w pm bs p now of ex) (h1 : w'.heap[pm]? = w.heap[pm]?) : MAt w' pm bs p now of ex := ⟨by rw [h1]; exact h.cells⟩
theorem MAt.ext (h : MAt w pm bs p now of ex) (hx : Ext w w') : MAt w' pm bs p now of ex := h.same (Below.block hx _ h.lt)
theorem MAt.chg {S : List Nat} (h : MAt w pm bs p now of ex) (hx : Chg S w w') (h1 : pm ∉ S) : MAt w' pm bs p now of ex := h.same (hx.block _ h.lt h1)
theorem MAt.setNow (h : MAt w pm bs p now of ex) (x : Nat) : MAt (w.setCell ⟨pm, 5, none⟩ (.int .i64 x)) pm bs p x of ex := by
  obtain ⟨cs, t, h1, m⟩ := h.cells
  have hlt : 5 < cs.size := (Array.getElem?_eq_some_iff.1 m.c5).1
  refine ⟨_, t, heap_set h1 _, ?_, ?_, ?_, ?_, ?_, ?_, ?_, ?_⟩
  · rw [Array.getElem?_setIfInBounds, if_neg (by omega)]; exact m.c0
  · rw [Array.getElem?_setIfInBounds, if_neg (by omega)]; exact m.c1
  · rw [Array.getElem?_setIfInBounds, if_neg (by omega)]; exact m.c2
  · rw [Array.getElem?_setIfInBounds, if_neg (by omega)]; exact m.c3
  · rw [Array.getElem?_setIfInBounds, if_neg (by omega)]; exact m.c4
  · rw [Array.getElem?_setIfInBounds]; simp [hlt]
  · intro b hb; rw [Array.getElem?_setIfInBounds, if_neg (by omega)]; exact m.of b hb
  · intro b hb; rw [Array.getElem?_setIfInBounds, if_neg (by omega)]; exact m.ex b hb
theorem MAt.setOf (h : MAt w pm bs p now of ex) {b : Nat} (hb : b < 64) (x : Nat) : MAt (w.setCell ⟨pm, 6 + b, none⟩ (.int .i64 x)) pm bs p now (updN of b x) ex := by
  obtain ⟨cs, t, h1, m⟩ := h.cells
  refine ⟨_, t, heap_set h1 _, ?_, ?_, ?_, ?_, ?_, ?_, ?_, ?_⟩
  · rw [Array.getElem?_setIfInBounds, if_neg (by omega)]; exact m.c0
  · rw [Array.getElem?_setIfInBounds, if_neg (by omega)]; exact m.c1
  · rw [Array.getElem?_setIfInBounds, if_neg (by omega)]; exact m.c2
  · rw [Array.getElem?_setIfInBounds, if_neg (by omega)]; exact m.c3
  · rw [Array.getElem?_setIfInBounds, if_neg (by omega)]; exact m.c4
  · rw [Array.getElem?_setIfInBounds, if_neg (by omega)]; exact m.c5
  · intro i hi
    by_cases e : i = b
    · subst e
      have hlt : 6 + i < cs.size := (Array.getElem?_eq_some_iff.1 (m.of i hi)).1
      rw [Array.getElem?_setIfInBounds, updN_same]; simp [hlt]
    · rw [Array.getElem?_setIfInBounds, if_neg (by omega), updN_other _ _ e]; exact m.of i hi
  · intro i hi; rw [Array.getElem?_setIfInBounds, if_neg (by omega)]; exact m.ex i hi
theorem MAt.setEx (h : MAt w pm bs p now of ex) {b : Nat} (hb : b < 64) (x : Nat) : MAt (w.setCell ⟨pm, 70 + b, none⟩ (.int .i64 x)) pm bs p now of (updN ex b x) := by
  obtain ⟨cs, t, h1, m⟩ := h.cells
  refine ⟨_, t, heap_set h1 _, ?_, ?_, ?_, ?_, ?_, ?_, ?_, ?_⟩
  · rw [Array.getElem?_setIfInBounds, if_neg (by omega)]; exact m.c0
  · rw [Array.getElem?_setIfInBounds, if_neg (by omega)]; exact m.c1
  · rw [Array.getElem?_setIfInBounds, if_neg (by omega)]; exact m.c2
  · rw [Array.getElem?_setIfInBounds, if_neg (by omega)]; exact m.c3
  · rw [Array.getElem?_setIfInBounds, if_neg (by omega)]; exact m.c4
  · rw [Array.getElem?_setIfInBounds, if_neg (by omega)]; exact m.c5
  · intro i hi; rw [Array.getElem?_setIfInBounds, if_neg (by omega)]; exact m.of i hi
  · intro i hi
    by_cases e : i = b
    · subst e
      have hlt : 70 + i < cs.size := (Array.getElem?_eq_some_iff.1 (m.ex i hi)).1
      rw [Array.getElem?_setIfInBounds, updN_same]; simp [hlt]
    · rw [Array.getElem?_setIfInBounds, if_neg (by omega), updN_other _ _ e]; exact m.ex i hi
end
/-- a shape is right -/
structure ShpOk (p : Shp) : Prop where
  c1 : 1 ≤ p.cap
  c2 : p.cap ≤ 16
  q1 : 1 ≤ p.qs
  q2 : p.qs ≤ 8
  l1 : 1 ≤ p.life
  l2 : p.life ≤ 100
  g2 : p.gh ≤ 16
/-- an MQ: its block is pm, its space lies in the blocks bs and be -/
structure MqAt (w : World) (pm bs be : Nat) (p : Shp) (s : Mq) : Prop where
  obj : MAt w pm bs p s.now s.of s.ex
  n1 : pm ≠ bs
  n2 : pm ≠ be
  space : SpaceAt w bs be s.Ls
  len : s.Ls.length = p.qs + 1
  ok : ShpOk p
theorem MqAt.ext {w w' : World} {pm bs be : Nat} {p : Shp} {s : Mq} (h : MqAt w pm bs be p s) (hx : Ext w w') : MqAt w' pm bs be p s := ⟨h.obj.ext hx, h.n1, h.n2, h.space.ext hx, h.len, h.ok⟩
theorem MqAt.chg {S : List Nat} {w w' : World} {pm bs be : Nat} {p : Shp} {s : Mq} (h : MqAt w pm bs be p s) (hx : Chg S w w') (h1 : pm ∉ S) (h2 : bs ∉ S) (h3 : be ∉ S) : MqAt w' pm bs be p s :=
  ⟨h.obj.chg hx h1, h.n1, h.n2, h.space.chg hx h2 h3, h.len, h.ok⟩
/-- the space turned alone -/
theorem MqAt.spc {w w' : World} {pm bs be : Nat} {p : Shp} {s : Mq} (h : MqAt w pm bs be p s) {L : List (List Nat)} (hx : Chg [bs, be] w w') (hs : SpaceAt w' bs be L) (hl : L.length = s.Ls.length) : MqAt w' pm bs be p (s.inLs L) :=
  ⟨h.obj.chg hx (by have := h.n1; have := h.n2; simp; omega), h.n1, h.n2, hs, hl.trans h.len, h.ok⟩
/-- the object's own block turned alone -/
theorem MqAt.own {w w' : World} {pm bs be : Nat} {p : Shp} {s s' : Mq} (h : MqAt w pm bs be p s) (hx : Chg [pm] w w') (ho : MAt w' pm bs p s'.now s'.of s'.ex) (hl : s'.Ls = s.Ls) : MqAt w' pm bs be p s' :=
  ⟨ho, h.n1, h.n2, by rw [hl]; exact h.space.chg hx (by have := h.n1; simp; omega) (by have := h.n2; simp; omega), by rw [hl]; exact h.len, h.ok⟩
end Go.Proofs.Ytibcfmnkpemieaa
