/-
  gradineref06's store in memory: while it is made, and made. No condition.
-/
import Derived.Test.YtoadjmeopamgbaaStLong
import Derived.Test.YtoadjmeopamgbaaStepApp
namespace Go.Proofs.Ytoadjmeopamgbaa
open Go.RowKit

/-- 'append(s, x)', one element of one cell; where the row lies is told too -/
theorem wpList_append_one {P : Program} {w : World} {ops : Array Oper} {rest : List Oper} {o : Oper} {a : Act} {Q : Exit → Act → World → Prop} (hgd : o.guard = none) (s x : Operand) (t : TypeId)
    (ho : o.op = .call { callee := .builtin .append, args := #[s, x], argTypes := #[t, t] }) (e : TypeId) (z : Value) (bytes : Nat) (ht : P.underlying t = some (.slice e))
    (hinfo : (P.info? e).map (fun i => (i.zero, i.size, i.bytes)) = some (some z, 1, bytes)) (hzs : z.cells.size = 1) (hby : bytes ≤ 64) (B : Nat) (hB : B ≤ w.heap.size) (v : Value) (xs : List Value) (hs : a.eval s = v) (hown : w.ownsRow B e 1 v xs.length xs)
    (y : Value) (u : Value) (hx : a.eval x = y) (hr : Rd w 1 y 1 [u]) (h1 : u.oneCell' = true) (hfit : xs.length ≤ 1000000)
    (h : ∀ g cap w', w'.ownsRow B e 1 (.slice (some ⟨g, 0, none⟩) (xs.length + 1) cap) (xs.length + 1) (xs ++ [u]) → w.grownBy w' v.ownBlock → (v.ownBlock = some g ∨ g = w.heap.size) → wpList P ops Q rest (a.put o.dst (.slice (some ⟨g, 0, none⟩) (xs.length + 1) cap)) w') : wpList P ops Q (o :: rest) a w := by
  obtain ⟨i0, hi, hz0, hz1, hz2⟩ := info_parts hinfo
  obtain ⟨hl, ad, c, rfl, hmc, hcm, hnil, hsome⟩ := hr
  obtain ⟨b, f, rfl, hlt, hc⟩ := hsome (by omega)
  refine wpList_append_lies _ hgd s x t ho B e i0 z 1 bytes ht hi hz0 hz1 hz2 hzs (by decide) v xs.length _ hs hown ⟨b, f, none⟩ 1 c [u] hx hl (fun j q hj => by rw [add_none]; exact hc j q hj) (by simpa using h1) (by decide) (by unfold maxLen; omega) ?_ hB _ rfl ?_
  · have : (xs.length + 1) * bytes ≤ 1000001 * 64 := Nat.mul_le_mul (by omega) hby
    omega
  · intro g cap w' ho' hg' hat _
    exact h g cap w' ho' hg' hat

theorem chg_grown {w w' : World} {r : Option Nat} (hg : w.grownBy w' r) : Chg r.toList w w' :=
  ⟨hg.os, hg.tape, hg.output, hg.size, fun k hk hn => hg.block k hk (fun e => hn (by rw [← e]; simp))⟩

def eR (j : Nat) : TypeId := if j = 1 then 36 else 3
def updF {α : Type} (V : Nat → α) (j : Nat) (v : α) : Nat → α := fun i => if i = j then v else V i
theorem updF_same {α : Type} (V : Nat → α) (j : Nat) (v : α) : updF V j v j = v := by simp [updF]
theorem updF_other {α : Type} (V : Nat → α) {i j : Nat} (v : α) (h : i ≠ j) : updF V j v i = V i := by simp [updF, h]
/-- while it is made: five slices, each in a block of its own -/
structure NewAt (w : World) (ps : Nat) (B S C K : Int) (t : TypeId) (Z : List Int) (V : Nat → Value) (X : Nat → List Value) : Prop where
  row : ∃ cs, w.heap[ps]? = some (.cells cs t (0, 0)) ∧ cs[0]? = some (.int .i64 B) ∧ cs[1]? = some (.int .i64 S) ∧ cs[2]? = some (.int .i64 C) ∧ cs[3]? = some (.int .i64 K) ∧ ∀ j, j < 5 → cs[4 + j]? = some (V j)
  own : ∀ j, j < 5 → w.ownsRow (ps + 1) (eR j) 1 (V j) (X j).length (X j)
  apart : ∀ i j g, i < 5 → j < 5 → (V i).ownBlock = some g → (V j).ownBlock = some g → i = j
  ints : ∀ j, j < 5 → j ≠ 1 → ∀ u ∈ X j, u = .int .i64 0
  data : ∀ u ∈ X 1, RdI .u8 w u Z ∧ ∀ g, u.ownBlock = some g → ps < g ∧ g < w.heap.size ∧ ∀ j, j < 5 → (V j).ownBlock ≠ some g
section
variable {w w1 w2 : World} {ps : Nat} {B S C K : Int} {t : TypeId} {Z : List Int} {V : Nat → Value} {X : Nat → List Value}
theorem NewAt.lt (h : NewAt w ps B S C K t Z V X) : ps < w.heap.size := by obtain ⟨cs, h1, _⟩ := h.row; exact (Array.getElem?_eq_some_iff.1 h1).1
theorem NewAt.ext (h : NewAt w ps B S C K t Z V X) (hx : Ext w w1) : NewAt w1 ps B S C K t Z V X := by
  have hl := h.lt
  obtain ⟨⟨cs, h1, h2⟩, h3, h4, h5, h6⟩ := h
  refine ⟨⟨cs, (Below.block hx ps hl).trans h1, h2⟩, fun j hj => own_ext (h3 j hj) hx, h4, h5, fun u hu => ⟨(h6 u hu).1.ext hx, fun g hg => ?_⟩⟩
  obtain ⟨g1, g2, g3⟩ := (h6 u hu).2 g hg
  exact ⟨g1, Nat.lt_of_lt_of_le g2 hx.size, g3⟩
theorem NewAt.cell (h : NewAt w ps B S C K t Z V X) {j : Nat} (hj : j < 5) : w.cell? ⟨ps, 4 + j, none⟩ = some (V j) ∧ w.frozen? ⟨ps, 4 + j, none⟩ = false := by
  obtain ⟨cs, h1, _, _, _, _, h2⟩ := h.row
  exact ⟨by rw [cell_of_row w ps _ _ _ _ h1]; exact h2 j hj, frozen_row h1 _⟩
theorem NewAt.heads (h : NewAt w ps B S C K t Z V X) : w.cell? ⟨ps, 0, none⟩ = some (.int .i64 B) ∧ w.cell? ⟨ps, 1, none⟩ = some (.int .i64 S) ∧ w.cell? ⟨ps, 2, none⟩ = some (.int .i64 C) ∧ w.cell? ⟨ps, 3, none⟩ = some (.int .i64 K) := by
  obtain ⟨cs, h1, g0, g1, g2, g3, _⟩ := h.row
  refine ⟨?_, ?_, ?_, ?_⟩ <;> (rw [cell_of_row w ps _ _ _ _ h1]; assumption)
theorem NewAt.step (h : NewAt w ps B S C K t Z V X) (hx : Ext w w1) {j : Nat} (hj : j < 5) {g cap n : Nat} {u : Value} (hn : n = (X j).length + 1) (ho : w2.ownsRow (ps + 1) (eR j) 1 (.slice (some ⟨g, 0, none⟩) n cap) n (X j ++ [u]))
    (hg : w1.grownBy w2 (V j).ownBlock) (hat : (V j).ownBlock = some g ∨ g = w1.heap.size) (hu : j ≠ 1 → u = .int .i64 0) (hud : j = 1 → RdI .u8 w1 u Z ∧ ∀ q, u.ownBlock = some q → w.heap.size ≤ q ∧ q < w1.heap.size) :
    NewAt (w2.setCell ⟨ps, 4 + j, none⟩ (.slice (some ⟨g, 0, none⟩) n cap)) ps B S C K t Z (updF V j (.slice (some ⟨g, 0, none⟩) n cap)) (updF X j (X j ++ [u])) := by
  have hl := h.lt
  have hown : ∀ i, i < 5 → ∀ q, (V i).ownBlock = some q → ps + 1 ≤ q ∧ q < w.heap.size := fun i hi q hq => (h.own i hi).lt q hq
  obtain ⟨⟨cs, h1, g0, g1, g2, g3, h2⟩, h3, h4, h5, h6⟩ := h
  have hpV : (V j).ownBlock ≠ some ps := fun e => by have := (hown j hj ps e).1; omega
  have hrow2 : w2.heap[ps]? = some (.cells cs t (0, 0)) := (hg.block ps (Nat.lt_of_lt_of_le hl hx.size) (fun e => hpV e.symm)).trans ((Below.block hx ps hl).trans h1)
  have hgi : ∀ i, i < 5 → i ≠ j → (V i).ownBlock ≠ some g := by
    intro i hi hij e
    rcases hat with h | h
    · exact hij (h4 i j g hi hj e h)
    · have := (hown i hi g e).2
      have := hx.size
      omega
  have hc1 := chg_grown hg
  have hc2 : Chg [ps] w2 (w2.setCell ⟨ps, 4 + j, none⟩ (.slice (some ⟨g, 0, none⟩) n cap)) := chg_one _ _ _ _
  have hsz : w2.heap.size ≤ (w2.setCell ⟨ps, 4 + j, none⟩ (.slice (some ⟨g, 0, none⟩) n cap)).heap.size := hc2.size
  have hs12 := hg.size
  have key : ∀ u', (RdI .u8 w1 u' Z ∧ ∀ q, u'.ownBlock = some q → ps < q ∧ q < w1.heap.size ∧ ∀ i, i < 5 → (V i).ownBlock ≠ some q) → RdI .u8 (w2.setCell ⟨ps, 4 + j, none⟩ (.slice (some ⟨g, 0, none⟩) n cap)) u' Z ∧ ∀ q, u'.ownBlock = some q → ps < q ∧ q < (w2.setCell ⟨ps, 4 + j, none⟩ (.slice (some ⟨g, 0, none⟩) n cap)).heap.size ∧ ∀ i, i < 5 → (updF V j (.slice (some ⟨g, 0, none⟩) n cap) i).ownBlock ≠ some q := by
    rintro u' ⟨k1, k2⟩
    refine ⟨(k1.chgc hc1 (fun _ q hq hm => ?_)).chgc hc2 (fun _ q hq hm => ?_), fun q hq => ?_⟩
    · have h9 := (k2 q hq).2.2 j hj
      exact h9 (by simpa using hm)
    · have := (k2 q hq).1
      simp at hm; omega
    · obtain ⟨k3, k4, k5⟩ := k2 q hq
      refine ⟨k3, by omega, fun i hi => ?_⟩
      by_cases e : i = j
      · subst e
        rw [updF_same]
        intro e2
        have e3 : g = q := by simpa [Value.ownBlock] using e2
        subst e3
        rcases hat with h | h
        · exact k5 _ hj h
        · omega
      · rw [updF_other _ _ e]; exact k5 i hi
  refine ⟨⟨_, heap_set hrow2 _, ?_, ?_, ?_, ?_, fun i hi => ?_⟩, fun i hi => ?_, fun i k q hi hk hq hq' => ?_, fun i hi hi1 u' hu' => ?_, fun u' hu' => ?_⟩
  · rw [Array.getElem?_setIfInBounds, if_neg (by omega)]; exact g0
  · rw [Array.getElem?_setIfInBounds, if_neg (by omega)]; exact g1
  · rw [Array.getElem?_setIfInBounds, if_neg (by omega)]; exact g2
  · rw [Array.getElem?_setIfInBounds, if_neg (by omega)]; exact g3
  · by_cases e : i = j
    · subst e
      rw [Array.getElem?_setIfInBounds, if_pos rfl, if_pos (Array.getElem?_eq_some_iff.1 (h2 _ hj)).1, updF_same]
    · rw [Array.getElem?_setIfInBounds, if_neg (by omega), updF_other _ _ e]; exact h2 i hi
  · by_cases e : i = j
    · subst e
      rw [updF_same, updF_same, List.length_append, List.length_singleton, ← hn]
      exact own_chg ho hc2 (by simp)
    · rw [updF_other _ _ e, updF_other _ _ e]
      refine own_chg (World.ownsRow.kept (own_ext (h3 i hi) hx) hg ?_) hc2 (by simp)
      cases hv : (V i).ownBlock with
      | none => exact .inl rfl
      | some q => exact .inr fun he => e (h4 i j q hi hj hv he.symm)
  · by_cases e : i = j
    · by_cases e' : k = j
      · omega
      · subst e
        rw [updF_same] at hq
        rw [updF_other _ _ e'] at hq'
        have e3 : g = q := by simpa [Value.ownBlock] using hq
        subst e3
        exact absurd hq' (hgi k hk e')
    · rw [updF_other _ _ e] at hq
      by_cases e' : k = j
      · subst e'
        rw [updF_same] at hq'
        have e3 : g = q := by simpa [Value.ownBlock] using hq'
        subst e3
        exact absurd hq (hgi i hi e)
      · rw [updF_other _ _ e'] at hq'
        exact h4 i k q hi hk hq hq'
  · by_cases e : i = j
    · subst e
      rw [updF_same] at hu'
      rcases List.mem_append.1 hu' with h | h
      · exact h5 _ hi hi1 u' h
      · simp at h; rw [h]; exact hu hi1
    · rw [updF_other _ _ e] at hu'
      exact h5 i hi hi1 u' hu'
  · have old : ∀ u'' ∈ X 1, RdI .u8 w1 u'' Z ∧ ∀ q, u''.ownBlock = some q → ps < q ∧ q < w1.heap.size ∧ ∀ i, i < 5 → (V i).ownBlock ≠ some q := fun u'' h7 => ⟨(h6 u'' h7).1.ext hx, fun q hq => by
      obtain ⟨k1, k2, k3⟩ := (h6 u'' h7).2 q hq
      exact ⟨k1, Nat.lt_of_lt_of_le k2 hx.size, k3⟩⟩
    by_cases e : 1 = j
    · subst e
      rw [updF_same] at hu'
      rcases List.mem_append.1 hu' with h | h
      · exact key u' (old u' h)
      · simp at h
        subst h
        obtain ⟨k1, k2⟩ := hud rfl
        exact key u' ⟨k1, fun q hq => ⟨by have := (k2 q hq).1; omega, (k2 q hq).2, fun i hi e => by have := (hown i hi q e).2; have := (k2 q hq).1; omega⟩⟩
    · rw [updF_other _ _ e] at hu'
      exact key u' (old u' hu')
end

/-- what it has: by slice, 0 versions, 2 boots, 3 numbers, 4 answers; and the blocks' bytes -/
structure RX where
  int : Nat → Nat → Int
  data : Nat → List Int
def rLen (h : Sh) (j : Nat) : Nat := if j < 2 then h.b else h.c * h.k
structure RefAt (w : World) (F : List Nat) (ps : Nat) (g : Nat → Nat) (h : Sh) (x : RX) : Prop where
  row : ∃ cs t, ∃ c : Nat → Nat, w.heap[ps]? = some (.cells cs t (0, 0)) ∧ cs[0]? = some (.int .i64 h.b) ∧ cs[1]? = some (.int .i64 h.s) ∧ cs[2]? = some (.int .i64 h.c) ∧ cs[3]? = some (.int .i64 h.k) ∧ ∀ j, j < 5 → cs[4 + j]? = some (.slice (some ⟨g j, 0, none⟩) (rLen h j) (c j)) ∧ rLen h j ≤ c j ∧ c j ≤ maxLen
  ints : ∀ j, j < 5 → j ≠ 1 → ∃ cs t, w.heap[g j]? = some (.cells cs t (0, 0)) ∧ ∀ i, i < rLen h j → cs[i]? = some (.int .i64 (x.int j i))
  data : ∃ cs t, w.heap[g 1]? = some (.cells cs t (0, 0)) ∧ ∀ i, i < h.b → ∃ v, cs[i]? = some v ∧ RdI .u8 w v (x.data i) ∧ ∀ b, v.ownBlock = some b → b ∉ F
  psF : ps ∈ F
  gF : ∀ j, j < 5 → g j ∈ F
  apart : ∀ i j, i < 5 → j < 5 → g i = g j → i = j
  psg : ∀ j, j < 5 → g j ≠ ps
def RX.setI (x : RX) (j i : Nat) (v : Int) : RX := ⟨fun a b => if a = j ∧ b = i then v else x.int a b, x.data⟩
def RX.setD (x : RX) (i : Nat) (D : List Int) : RX := ⟨x.int, fun k => if k = i then D else x.data k⟩
section
variable {w w' : World} {F : List Nat} {ps : Nat} {g : Nat → Nat} {h : Sh} {x : RX}
theorem RefAt.lt (r : RefAt w F ps g h x) : ps < w.heap.size := by obtain ⟨cs, _, _, h1, _⟩ := r.row; exact (Array.getElem?_eq_some_iff.1 h1).1
theorem RefAt.glt (r : RefAt w F ps g h x) {j : Nat} (hj : j < 5) : g j < w.heap.size := by
  by_cases e : j = 1
  · subst e; obtain ⟨cs, t, h1, _⟩ := r.data; exact (Array.getElem?_eq_some_iff.1 h1).1
  · obtain ⟨cs, t, h1, _⟩ := r.ints j hj e; exact (Array.getElem?_eq_some_iff.1 h1).1
theorem RefAt.mono {F' : List Nat} (r : RefAt w F ps g h x) (hF : ∀ f ∈ F', f ∈ F) (h1 : ps ∈ F') (h2 : ∀ j, j < 5 → g j ∈ F') : RefAt w F' ps g h x := by
  obtain ⟨cs, t, h3, h4⟩ := r.data
  exact ⟨r.row, r.ints, ⟨cs, t, h3, fun i hi => by obtain ⟨v, a, b, c⟩ := h4 i hi; exact ⟨v, a, b, fun q hq hm => c q hq (hF q hm)⟩⟩, h1, h2, r.apart, r.psg⟩
theorem RefAt.chg {S : List Nat} (r : RefAt w F ps g h x) (hx : Chg S w w') (hS : ∀ s ∈ S, s ∈ F) (hp : ps ∉ S) (hg : ∀ j, j < 5 → g j ∉ S) : RefAt w' F ps g h x := by
  have l1 := r.lt
  have l2 := fun j hj => r.glt (j := j) hj
  obtain ⟨⟨cs, t, c, h1, h2⟩, hi, ⟨cs2, t2, h3, h4⟩, h5, h6, h7, h8⟩ := r
  refine ⟨⟨cs, t, c, (hx.block ps l1 hp).trans h1, h2⟩, fun j hj h1 => ?_, ⟨cs2, t2, (hx.block _ (l2 1 (by omega)) (hg 1 (by omega))).trans h3, fun i hi => ?_⟩, h5, h6, h7, h8⟩
  · obtain ⟨cs, t, h9, h10⟩ := hi j hj h1
    exact ⟨cs, t, (hx.block _ (l2 j hj) (hg j hj)).trans h9, h10⟩
  · obtain ⟨v, a, b, d⟩ := h4 i hi
    exact ⟨v, a, b.chgc hx (fun _ q hq hm => d q hq (hS q hm)), d⟩
theorem RefAt.ext (r : RefAt w F ps g h x) (hx : Ext w w') : RefAt w' F ps g h x := r.chg (Chg.of_ext (S := []) hx) (by simp) (by simp) (by simp)
theorem RefAt.heads (r : RefAt w F ps g h x) : w.cell? ⟨ps, 0, none⟩ = some (.int .i64 h.b) ∧ w.cell? ⟨ps, 1, none⟩ = some (.int .i64 h.s) ∧ w.cell? ⟨ps, 2, none⟩ = some (.int .i64 h.c) ∧ w.cell? ⟨ps, 3, none⟩ = some (.int .i64 h.k) := by
  obtain ⟨cs, _, _, h1, g0, g1, g2, g3, _⟩ := r.row
  refine ⟨?_, ?_, ?_, ?_⟩ <;> (rw [cell_of_row w ps _ _ _ _ h1]; assumption)
theorem RefAt.rows (r : RefAt w F ps g h x) : ∃ c : Nat → Nat, ∀ j, j < 5 → w.cell? ⟨ps, 4 + j, none⟩ = some (.slice (some ⟨g j, 0, none⟩) (rLen h j) (c j)) ∧ rLen h j ≤ c j ∧ c j ≤ maxLen := by
  obtain ⟨cs, _, c, h1, _, _, _, _, h2⟩ := r.row
  exact ⟨c, fun j hj => ⟨by rw [cell_of_row w ps _ _ _ _ h1]; exact (h2 j hj).1, (h2 j hj).2⟩⟩
theorem RefAt.at (r : RefAt w F ps g h x) {j i : Nat} (hj : j < 5) (h1 : j ≠ 1) (hi : i < rLen h j) : w.cell? ⟨g j, i, none⟩ = some (.int .i64 (x.int j i)) := by
  obtain ⟨cs, t, h2, h3⟩ := r.ints j hj h1
  rw [cell_of_row w _ _ _ _ _ h2]; exact h3 i hi
theorem RefAt.atD (r : RefAt w F ps g h x) {i : Nat} (hi : i < h.b) : ∃ v, w.cell? ⟨g 1, i, none⟩ = some v ∧ RdI .u8 w v (x.data i) ∧ ∀ b, v.ownBlock = some b → b ∉ F := by
  obtain ⟨cs, t, h2, h3⟩ := r.data
  obtain ⟨v, hv, h4⟩ := h3 i hi
  exact ⟨v, by rw [cell_of_row w _ _ _ _ _ h2]; exact hv, h4⟩
theorem RefAt.frz (r : RefAt w F ps g h x) {j : Nat} (hj : j < 5) (o : Nat) : w.frozen? ⟨g j, o, none⟩ = false := by
  by_cases e : j = 1
  · subst e; obtain ⟨cs, t, h1, _⟩ := r.data; exact frozen_row h1 o
  · obtain ⟨cs, t, h1, _⟩ := r.ints j hj e; exact frozen_row h1 o
theorem RefAt.setI (r : RefAt w F ps g h x) {j i : Nat} (hj : j < 5) (h1 : j ≠ 1) (hi : i < rLen h j) (v : Int) : RefAt (w.setCell ⟨g j, i, none⟩ (.int .i64 v)) F ps g h (x.setI j i v) := by
  have hc : Chg [g j] w (w.setCell ⟨g j, i, none⟩ (.int .i64 v)) := chg_one _ _ _ _
  have l1 := r.lt
  have l2 := fun j hj => r.glt (j := j) hj
  obtain ⟨⟨cs, t, c, e1, e2⟩, hin, ⟨cs2, t2, h3, h4⟩, h5, h6, h7, h8⟩ := r
  refine ⟨⟨cs, t, c, (hc.block ps l1 (by simpa using fun e => h8 j hj e.symm)).trans e1, e2⟩, fun k hk hk1 => ?_, ⟨cs2, t2, (hc.block _ (l2 1 (by omega)) (by simpa using fun e => h1 (h7 1 j (by omega) hj e).symm)).trans h3, fun k hk => ?_⟩, h5, h6, h7, h8⟩
  · obtain ⟨cs, t, h9, h10⟩ := hin k hk hk1
    by_cases e : k = j
    · subst e
      refine ⟨_, t, heap_set h9 _, fun q hq => ?_⟩
      by_cases e' : q = i
      · subst e'
        rw [Array.getElem?_setIfInBounds, if_pos rfl, if_pos (Array.getElem?_eq_some_iff.1 (h10 q hq)).1]
        simp [RX.setI]
      · rw [Array.getElem?_setIfInBounds, if_neg (fun e => e' e.symm), h10 q hq]
        simp [RX.setI, e']
    · refine ⟨cs, t, (hc.block _ (l2 k hk) (by simpa using fun e2 => e (h7 k j hk hj e2))).trans h9, fun q hq => ?_⟩
      rw [h10 q hq]
      simp [RX.setI, e]
  · obtain ⟨v', a, b, d⟩ := h4 k hk
    exact ⟨v', a, b.chgc hc (fun _ q hq hm => d q hq (by simp at hm; rw [hm]; exact h6 j hj)), d⟩
theorem RefAt.setD (r : RefAt w F ps g h x) {i : Nat} (hi : i < h.b) {v : Value} {D : List Int} (hv : RdI .u8 w v D) (ho : ∀ b, v.ownBlock = some b → b ∉ F) : RefAt (w.setCell ⟨g 1, i, none⟩ v) F ps g h (x.setD i D) := by
  have hc : Chg [g 1] w (w.setCell ⟨g 1, i, none⟩ v) := chg_one _ _ _ _
  have l1 := r.lt
  have l2 := fun j hj => r.glt (j := j) hj
  obtain ⟨⟨cs, t, c, e1, e2⟩, hin, ⟨cs2, t2, h3, h4⟩, h5, h6, h7, h8⟩ := r
  refine ⟨⟨cs, t, c, (hc.block ps l1 (by simpa using fun e => h8 1 (by omega) e.symm)).trans e1, e2⟩, fun k hk hk1 => ?_, ⟨_, t2, heap_set h3 _, fun k hk => ?_⟩, h5, h6, h7, h8⟩
  · obtain ⟨cs, t, h9, h10⟩ := hin k hk hk1
    exact ⟨cs, t, (hc.block _ (l2 k hk) (by simpa using fun e2 => hk1 (h7 k 1 hk (by omega) e2))).trans h9, h10⟩
  · obtain ⟨v', a, b, d⟩ := h4 k hk
    by_cases e : k = i
    · subst e
      refine ⟨v, by rw [Array.getElem?_setIfInBounds, if_pos rfl, if_pos (Array.getElem?_eq_some_iff.1 a).1], ?_, ho⟩
      have : (x.setD k D).data k = D := by simp [RX.setD]
      rw [this]
      exact hv.chgc hc (fun _ q hq hm => ho q hq (by simp at hm; rw [hm]; exact h6 1 (by omega)))
    · refine ⟨v', by rw [Array.getElem?_setIfInBounds, if_neg (fun h => e h.symm)]; exact a, ?_, d⟩
      have : (x.setD i D).data k = x.data k := by simp [RX.setD, e]
      rw [this]
      exact b.chgc hc (fun _ q hq hm => d q hq (by simp at hm; rw [hm]; exact h6 1 (by omega)))
end
/-- at its beginning -/
def rX0 (h : Sh) : RX := ⟨fun _ _ => 0, fun _ => List.replicate h.s 0⟩
theorem ref_of {w : World} {ps : Nat} {t : TypeId} {V : Nat → Value} {X : Nat → List Value} {h : Sh} (r : NewAt w ps h.b h.s h.c h.k t (List.replicate h.s 0) V X) (hl : ∀ j, j < 5 → (X j).length = rLen h j) (hp : ∀ j, j < 5 → 0 < rLen h j) :
    ∃ g : Nat → Nat, (∀ j, j < 5 → ps < g j ∧ g j < w.heap.size) ∧ ∀ F, ps ∈ F → (∀ j, j < 5 → g j ∈ F) → (∀ f ∈ F, f ≤ ps ∨ ∃ j, j < 5 ∧ f = g j) → RefAt w F ps g h (rX0 h) := by
  have hk : ∀ j, j < 5 → ∃ g cap cur, V j = .slice (some ⟨g, 0, none⟩) (X j).length cap ∧ ps + 1 ≤ g ∧ w.heap[g]? = some (.cells cur (eR j) (0, 0)) ∧ (X j).length ≤ cap ∧ cap ≤ maxLen ∧ cur.toList.take ((X j).length * 1) = X j := by
    intro j hj
    rcases (r.own j hj).2 with ⟨_, h2⟩ | ⟨g, cap, cur, h1, h2, h3, h4, h5, _, h6⟩
    · have := hl j hj; have := hp j hj; omega
    · exact ⟨g, cap, cur, h1, h2, h3, h4, h5, h6⟩
  obtain ⟨g, hg⟩ : ∃ g : Nat → Nat, ∀ j, j < 5 → ∃ cap cur, V j = .slice (some ⟨g j, 0, none⟩) (X j).length cap ∧ ps + 1 ≤ g j ∧ w.heap[g j]? = some (.cells cur (eR j) (0, 0)) ∧ (X j).length ≤ cap ∧ cap ≤ maxLen ∧ cur.toList.take ((X j).length * 1) = X j := by
    refine ⟨fun j => ((V j).ownBlock).getD 0, fun j hj => ?_⟩
    obtain ⟨g, cap, cur, h1, h2⟩ := hk j hj
    have e : ((V j).ownBlock).getD 0 = g := by rw [h1]; rfl
    show ∃ cap cur, V j = .slice (some ⟨((V j).ownBlock).getD 0, 0, none⟩) (X j).length cap ∧ ps + 1 ≤ ((V j).ownBlock).getD 0 ∧ w.heap[((V j).ownBlock).getD 0]? = some (.cells cur (eR j) (0, 0)) ∧ _
    rw [e]
    exact ⟨cap, cur, h1, h2⟩
  have hob : ∀ j, j < 5 → (V j).ownBlock = some (g j) := fun j hj => by obtain ⟨cap, cur, h1, _⟩ := hg j hj; rw [h1]; rfl
  have hat : ∀ j, j < 5 → ∃ cur, w.heap[g j]? = some (.cells cur (eR j) (0, 0)) ∧ ∀ i, i < rLen h j → ∃ u, u ∈ X j ∧ cur[i]? = some u := by
    intro j hj
    obtain ⟨cap, cur, h1, h2, h3, h4, h5, h6⟩ := hg j hj
    refine ⟨cur, h3, fun i hi => ?_⟩
    have hi' : i < (X j).length := by rw [hl j hj]; exact hi
    obtain ⟨u, e⟩ : ∃ u, (X j)[i]? = some u := ⟨_, List.getElem?_eq_getElem hi'⟩
    refine ⟨u, List.mem_of_getElem? e, ?_⟩
    rw [← h6, List.getElem?_take, if_pos (by omega)] at e
    rw [← e]
    simp
  obtain ⟨cs, r1, r2, r3, r4, r5, r6⟩ := r.row
  refine ⟨g, fun j hj => ?_, fun F f1 f2 f3 => ⟨⟨cs, t, fun j => match V j with | .slice _ _ c => c | _ => 0, r1, r2, r3, r4, r5, fun j hj => ?_⟩, fun j hj h1 => ?_, ?_, f1, f2, fun i j hi hj e => ?_, fun j hj e => ?_⟩⟩
  · obtain ⟨cap, cur, h1, h2, h3, _⟩ := hg j hj
    exact ⟨by omega, (Array.getElem?_eq_some_iff.1 h3).1⟩
  · obtain ⟨cap, cur, h1, h2, h3, h4, h5, h6⟩ := hg j hj
    rw [r6 j hj, ← hl j hj]
    simp only [h1]
    exact ⟨trivial, h4, h5⟩
  · obtain ⟨cur, h2, h3⟩ := hat j hj
    refine ⟨cur, _, h2, fun i hi => ?_⟩
    obtain ⟨u, hu, h4⟩ := h3 i hi
    rw [h4, r.ints j hj h1 u hu]
    rfl
  · obtain ⟨cur, h2, h3⟩ := hat 1 (by omega)
    refine ⟨cur, _, h2, fun i hi => ?_⟩
    obtain ⟨u, hu, h4⟩ := h3 i (by unfold rLen; simpa using hi)
    obtain ⟨k1, k2⟩ := r.data u hu
    refine ⟨u, h4, k1, fun b hb hm => ?_⟩
    obtain ⟨k3, k4, k5⟩ := k2 b hb
    rcases f3 b hm with e | ⟨j, hj, e⟩
    · omega
    · exact k5 j hj (by rw [e]; exact hob j hj)
  · exact r.apart i j (g i) hi hj (hob i hi) (by rw [e]; exact hob j hj)
  · obtain ⟨cap, cur, h1, h2, _⟩ := hg j hj
    omega
end Go.Proofs.Ytoadjmeopamgbaa
