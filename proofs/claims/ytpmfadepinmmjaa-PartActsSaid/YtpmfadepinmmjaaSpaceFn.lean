/-
  What the operations on a space of lists answer and leave, on plain lists. No program in sight.
-/
import Derived.Test.YtpmfadepinmmjaaLay2
namespace Go.Proofs.Ytpmfadepinmmjaa

/-- the list that a block is in -/
def ofL (Ls : List (List Nat)) (b : Nat) : Option Nat := (List.range Ls.length).find? (fun l => decide (b ∈ Ls.getD l []))
/-- the lists without a block -/
def outL (Ls : List (List Nat)) (b : Nat) : List (List Nat) := Ls.map (fun L => L.filter (· ≠ b))
def frontL (Ls : List (List Nat)) (l b : Nat) : List (List Nat) := (outL Ls b).set l (b :: (outL Ls b).getD l [])
def putBackL (Ls : List (List Nat)) (l b : Nat) : List (List Nat) := (outL Ls b).set l ((outL Ls b).getD l [] ++ [b])

def okB (b : Int) : Prop := 0 ≤ b ∧ b < 64
instance (b : Int) : Decidable (okB b) := by unfold okB; infer_instance
def okL (Ls : List (List Nat)) (l : Int) : Prop := 0 ≤ l ∧ l < Ls.length
instance (Ls : List (List Nat)) (l : Int) : Decidable (okL Ls l) := by unfold okL; infer_instance

def ofI (Ls : List (List Nat)) (b : Int) : Int × Bool :=
  if okB b then (match ofL Ls b.toNat with | some l => ((l : Int), true) | none => (0, false)) else (0, false)
def firstI (Ls : List (List Nat)) (l : Int) : Int × Bool :=
  if okL Ls l then (match Ls.getD l.toNat [] with | [] => (0, false) | b :: _ => ((b : Int), true)) else (0, false)
def lastI (Ls : List (List Nat)) (l : Int) : Int × Bool :=
  if okL Ls l then (if Ls.getD l.toNat [] = [] then (0, false) else (lst (-1) (Ls.getD l.toNat []), true)) else (0, false)
def lenI (Ls : List (List Nat)) (l : Int) : Int := if okL Ls l then ((Ls.getD l.toNat []).length : Int) else 0
def allI (Ls : List (List Nat)) (l : Int) : List Int := if okL Ls l then (Ls.getD l.toNat []).map (fun (b : Nat) => (b : Int)) else []

section
variable {A E : Nat → Nat → Int} {Ls : List (List Nat)}
theorem getD_nil_of_le {l : Nat} (h : Ls.length ≤ l) : Ls.getD l [] = [] := by simp [List.getD, List.getElem?_eq_none h]

theorem Lay.of_some (h : Lay A E Ls) {b l : Nat} (he : ofL Ls b = some l) : A b 0 = l ∧ l < Ls.length ∧ b ∈ Ls.getD l [] ∧ b < 64 := by
  unfold ofL at he
  have h1 := List.find?_some he
  have h2 := List.mem_of_find?_eq_some he
  simp at h1 h2
  have h3 := h.mem h2 (by simpa using h1)
  exact ⟨h3.2, h2, by simpa using h1, h3.1⟩
theorem Lay.of_none (h : Lay A E Ls) {b : Nat} (hb : b < 64) (he : ofL Ls b = none) : A b 0 = -1 := by
  rcases h.all b hb with h1 | ⟨l, hl, h1, h2⟩
  · exact h1
  · unfold ofL at he
    rw [List.find?_eq_none] at he
    have := he l (by simpa using hl)
    simp only [decide_eq_true_eq] at this
    exact absurd h2 this

theorem getD_map_filter (Ls : List (List Nat)) (b k : Nat) : (outL Ls b).getD k [] = (Ls.getD k []).filter (· ≠ b) := by
  simp only [outL, List.getD, List.getElem?_map]
  cases Ls[k]? <;> simp
theorem outL_length (Ls : List (List Nat)) (b : Nat) : (outL Ls b).length = Ls.length := by simp [outL]

theorem ext_getD {L M : List (List Nat)} (h : L.length = M.length) (hh : ∀ k, k < L.length → L.getD k [] = M.getD k []) : L = M := by
  apply List.ext_getElem h
  intro k h1 h2
  have := hh k h1
  simpa [List.getD, h1, h2] using this

/-- a block that is in no list is taken out of none -/
theorem Lay.out_none (h : Lay A E Ls) {b : Nat} (hb : A b 0 = -1) : outL Ls b = Ls := by
  apply ext_getD (outL_length Ls b)
  intro k hk
  rw [outL_length] at hk
  rw [getD_map_filter, List.filter_eq_self]
  intro x hx
  simp
  rintro rfl
  exact h.not hk hb hx
theorem Lay.out_some (h : Lay A E Ls) {b l : Nat} (hl : l < Ls.length) (hb : A b 0 = l) : Ls.set l ((Ls.getD l []).filter (· ≠ b)) = outL Ls b := by
  apply ext_getD (by simp [outL])
  intro k hk
  rw [List.length_set] at hk
  rw [getD_set hl, getD_map_filter]
  by_cases e : k = l
  · rw [if_pos e, e]
  · rw [if_neg e, eq_comm, List.filter_eq_self]
    intro x hx
    simp
    rintro rfl
    have := (h.mem hk hx).2
    omega
end

/-- a space of the lists Ls -/
def SpaceAt (w : World) (bs be : Nat) (Ls : List (List Nat)) : Prop := ∃ A E, SpcAt w bs be Ls.length A E ∧ Lay A E Ls
section
variable {w w' : World} {bs be : Nat} {Ls : List (List Nat)}
theorem SpaceAt.ext (h : SpaceAt w bs be Ls) (hx : Ext w w') : SpaceAt w' bs be Ls := by obtain ⟨A, E, h1, h2⟩ := h; exact ⟨A, E, h1.ext hx, h2⟩
theorem SpaceAt.chg {S : List Nat} (h : SpaceAt w bs be Ls) (hx : Chg S w w') (h1 : bs ∉ S) (h2 : be ∉ S) : SpaceAt w' bs be Ls := by obtain ⟨A, E, h3, h4⟩ := h; exact ⟨A, E, h3.chg hx h1 h2, h4⟩
theorem SpaceAt.lt1 (h : SpaceAt w bs be Ls) : bs < w.heap.size := by obtain ⟨A, E, h1, _⟩ := h; exact h1.lt1
theorem SpaceAt.lt2 (h : SpaceAt w bs be Ls) : be < w.heap.size := by obtain ⟨A, E, h1, _⟩ := h; exact h1.lt2
theorem SpaceAt.bound (h : SpaceAt w bs be Ls) : 1 ≤ Ls.length ∧ Ls.length ≤ 40 := by obtain ⟨A, E, h1, _⟩ := h; exact ⟨h1.pos, h1.top⟩
end
end Go.Proofs.Ytpmfadepinmmjaa
