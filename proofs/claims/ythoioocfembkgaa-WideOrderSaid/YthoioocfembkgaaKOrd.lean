/-
  The order of fractions, the greatest first, those that are as great as they came. No program in sight.
-/
import Derived.WalkKit
namespace Go.Proofs.Ythoioocfembkgaa

/-- x is greater than y -/
def dl (T B : Nat → Int) (x y : Nat) : Prop := T y * B x < T x * B y
instance (T B : Nat → Int) (x y : Nat) : Decidable (dl T B x y) := by unfold dl; infer_instance
/-- x is ahead of y -/
def bf (T B : Nat → Int) (x y : Nat) : Prop := dl T B x y ∨ (¬ dl T B y x ∧ x < y)
instance (T B : Nat → Int) (x y : Nat) : Decidable (bf T B x y) := by unfold bf; infer_instance
section
variable {T B : Nat → Int} (hB : ∀ i, 0 < B i)
include hB
theorem le_tr {x y z : Nat} (h1 : ¬ dl T B y x) (h2 : ¬ dl T B z y) : ¬ dl T B z x := by
  unfold dl at *
  have a1 : T y * B x ≤ T x * B y := by omega
  have a2 : T z * B y ≤ T y * B z := by omega
  have b1 := Int.mul_le_mul_of_nonneg_right a1 (Int.le_of_lt (hB z))
  have b2 := Int.mul_le_mul_of_nonneg_right a2 (Int.le_of_lt (hB x))
  have e1 : T z * B y * B x = T z * B x * B y := by rw [Int.mul_assoc, Int.mul_comm (B y), ← Int.mul_assoc]
  have e2 : T y * B z * B x = T y * B x * B z := by rw [Int.mul_assoc, Int.mul_comm (B z), ← Int.mul_assoc]
  have e3 : T x * B y * B z = T x * B z * B y := by rw [Int.mul_assoc, Int.mul_comm (B y), ← Int.mul_assoc]
  have h3 : T z * B x * B y ≤ T x * B z * B y := by omega
  have := Int.le_of_mul_le_mul_right h3 (hB y)
  omega
omit hB in
theorem dl_not {x y : Nat} (h : dl T B x y) : ¬ dl T B y x := by unfold dl at *; omega
theorem bf_tr {x y z : Nat} (h1 : bf T B x y) (h2 : bf T B y z) : bf T B x z := by
  have n1 : ¬ dl T B y x := h1.elim dl_not (·.1)
  have n2 : ¬ dl T B z y := h2.elim dl_not (·.1)
  have n3 := le_tr hB n1 n2
  by_cases e : dl T B x z
  · exact .inl e
  · refine .inr ⟨n3, ?_⟩
    rcases h1 with h1 | ⟨_, h1⟩
    · exact absurd (le_tr hB n2 e) (fun h => h h1)
    · rcases h2 with h2 | ⟨_, h2⟩
      · exact absurd (le_tr hB e n1) (fun h => h h2)
      · omega
omit hB in
theorem bf_not {x y : Nat} (h1 : bf T B x y) (h2 : bf T B y x) : False := by
  rcases h1 with h1 | ⟨n1, h1⟩ <;> rcases h2 with h2 | ⟨n2, h2⟩
  · exact dl_not h1 h2
  · exact n2 h1
  · exact n1 h2
  · omega
omit hB in
theorem bf_total {x y : Nat} (h : x ≠ y) : bf T B x y ∨ bf T B y x := by
  by_cases h1 : dl T B x y
  · exact .inl (.inl h1)
  · by_cases h2 : dl T B y x
    · exact .inr (.inl h2)
    · by_cases h3 : x < y
      · exact .inl (.inr ⟨h2, h3⟩)
      · exact .inr (.inr ⟨h1, by omega⟩)
/-- one more, in its place -/
theorem ins_ok {A C : List Nat} {x : Nat} (hP : (A ++ C).Pairwise (bf T B)) (hlt : ∀ p ∈ A ++ C, p < x) (hC : ∀ c ∈ C, dl T B x c) (hA : ∀ A' a, A = A' ++ [a] → ¬ dl T B x a) : (A ++ x :: C).Pairwise (bf T B) := by
  obtain ⟨p1, p2, p3⟩ := List.pairwise_append.1 hP
  refine List.pairwise_append.2 ⟨p1, List.pairwise_cons.2 ⟨fun c hc => .inl (hC c hc), p2⟩, fun a ha y hy => ?_⟩
  rcases List.mem_cons.1 hy with rfl | hy
  · have hne : A ≠ [] := by intro e; rw [e] at ha; simp at ha
    obtain ⟨A', l, rfl⟩ : ∃ A' l, A = A' ++ [l] := ⟨A.dropLast, A.getLast hne, (List.dropLast_concat_getLast hne).symm⟩
    have hl : bf T B l y := .inr ⟨hA A' l rfl, hlt l (by simp)⟩
    rcases List.mem_append.1 ha with h | h
    · exact bf_tr hB ((List.pairwise_append.1 p1).2.2 a h l (by simp)) hl
    · simp at h; subst h; exact hl
  · exact p3 a ha y hy
end
/-- the order of the first n -/
structure Ord (T B : Nat → Int) (n : Nat) (M : List Nat) : Prop where
  perm : M.Perm (List.range n)
  sort : M.Pairwise (bf T B)
theorem Ord.len {T B : Nat → Int} {n : Nat} {M : List Nat} (h : Ord T B n M) : M.length = n := by have := h.perm.length_eq; simpa using this
theorem Ord.lt {T B : Nat → Int} {n : Nat} {M : List Nat} (h : Ord T B n M) {x : Nat} (hx : x ∈ M) : x < n := by have := h.perm.mem_iff.1 hx; simpa using this
theorem Ord.mem {T B : Nat → Int} {n : Nat} {M : List Nat} (h : Ord T B n M) {x : Nat} (hx : x < n) : x ∈ M := h.perm.mem_iff.2 (by simpa using hx)
theorem Ord.zero (T B : Nat → Int) : Ord T B 0 [] := ⟨by simp, List.Pairwise.nil⟩
/-- the sort's state: sorted ahead of j and of x, x, what is behind x, what is still to come -/
structure InsAt (T B : Nat → Int) (n i j : Nat) (M : List Nat) : Prop where
  split : ∃ A C, M = A ++ i :: C ++ List.range' (i + 1) (n - (i + 1)) ∧ A.length = j ∧ (A ++ C).Pairwise (bf T B) ∧ (A ++ C).Perm (List.range i) ∧ ∀ c ∈ C, dl T B i c
def OrdTo (T B : Nat → Int) (n i : Nat) (M : List Nat) : Prop := ∃ P, Ord T B i P ∧ M = P ++ List.range' i (n - i)
theorem ordTo_one (T B : Nat → Int) {n : Nat} (h : 1 ≤ n) : OrdTo T B n 1 (List.range n) := by
  refine ⟨[0], ⟨by simp, by simp⟩, ?_⟩
  obtain ⟨m, rfl⟩ : ∃ m, n = m + 1 := ⟨n - 1, by omega⟩
  rw [List.range_eq_range', List.range'_succ]
  simp
theorem ordTo_end {T B : Nat → Int} {n i : Nat} {M : List Nat} (h : OrdTo T B n i M) (hi : i = n) : Ord T B n M := by
  subst hi
  obtain ⟨P, h1, rfl⟩ := h
  simpa using h1
theorem InsAt.start {T B : Nat → Int} {n i : Nat} {M : List Nat} (h : OrdTo T B n i M) (hi : i < n) : InsAt T B n i i M := by
  obtain ⟨P, h1, rfl⟩ := h
  obtain ⟨m, hm⟩ : ∃ m, n - i = m + 1 := ⟨n - i - 1, by omega⟩
  refine ⟨P, [], ?_, h1.len, by simpa using h1.sort, by simpa using h1.perm, by simp⟩
  rw [hm, List.range'_succ, show n - (i + 1) = m by omega]
  simp
theorem InsAt.len {T B : Nat → Int} {n i j : Nat} {M : List Nat} (h : InsAt T B n i j M) (hi : i < n) : M.length = n ∧ j ≤ i := by
  obtain ⟨A, C, rfl, hA, _, hp, _⟩ := h.split
  have := hp.length_eq
  simp only [List.length_append, List.length_cons, List.length_range', List.length_range] at this ⊢
  omega
/-- the one at j is x -/
theorem InsAt.at {T B : Nat → Int} {n i j : Nat} {M : List Nat} (h : InsAt T B n i j M) : M.getD j 0 = i := by
  obtain ⟨A, C, rfl, rfl, _⟩ := h.split
  simp [List.getD]
theorem InsAt.mem {T B : Nat → Int} {n i j : Nat} {M : List Nat} (h : InsAt T B n i j M) (hi : i < n) {k : Nat} (hk : k < n) : M.getD k 0 < n := by
  have hl := (h.len hi).1
  have hm : M.getD k 0 ∈ M := by
    rw [List.getD_eq_getElem?_getD, List.getElem?_eq_getElem (by omega)]; exact List.getElem_mem _
  obtain ⟨A, C, e, _, _, hp, _⟩ := h.split
  rw [e] at hm ⊢
  rcases List.mem_append.1 hm with h1 | h1
  · rcases List.mem_append.1 h1 with h2 | h2
    · have := hp.mem_iff.1 (List.mem_append_left C h2)
      have := List.mem_range.1 this
      omega
    · rcases List.mem_cons.1 h2 with h3 | h3
      · omega
      · have := hp.mem_iff.1 (List.mem_append_right A h3)
        have := List.mem_range.1 this
        omega
  · have := List.mem_range'_1.1 h1
    omega
/-- x goes ahead of the one ahead of it -/
theorem InsAt.swap {T B : Nat → Int} {n i j : Nat} {M : List Nat} (h : InsAt T B n i (j + 1) M) (hd : dl T B i (M.getD j 0)) : InsAt T B n i j ((M.set (j + 1) (M.getD j 0)).set j (M.getD (j + 1) 0)) := by
  have hat := h.at
  obtain ⟨A, C, rfl, hA, h1, h2, h3⟩ := h.split
  have hne : A ≠ [] := by intro e; rw [e] at hA; simp at hA
  obtain ⟨A', l, rfl⟩ : ∃ A' l, A = A' ++ [l] := ⟨A.dropLast, A.getLast hne, (List.dropLast_concat_getLast hne).symm⟩
  have hA' : A'.length = j := by simpa using hA
  subst hA'
  have hl : (A' ++ [l] ++ i :: C ++ List.range' (i + 1) (n - (i + 1))).getD A'.length 0 = l := by simp [List.getD]
  rw [hl] at hd ⊢
  rw [hat]
  refine ⟨A', l :: C, ?_, rfl, by simpa using h1, by simpa using h2, ?_⟩
  · simp
  · intro c hc
    rcases List.mem_cons.1 hc with rfl | hc
    · exact hd
    · exact h3 c hc
theorem InsAt.done {T B : Nat → Int} (hB : ∀ i, 0 < B i) {n i j : Nat} {M : List Nat} (h : InsAt T B n i j M) (hd : ∀ k, j = k + 1 → ¬ dl T B i (M.getD k 0)) : OrdTo T B n (i + 1) M := by
  obtain ⟨A, C, rfl, hA, h1, h2, h3⟩ := h.split
  refine ⟨A ++ i :: C, ⟨?_, ?_⟩, rfl⟩
  · rw [List.range_succ]
    have : (A ++ i :: C).Perm ((A ++ C) ++ [i]) := by
      have h9 := List.perm_middle (a := i) (l₁ := A) (l₂ := C)
      exact h9.trans (by simpa using (List.perm_append_comm (l₁ := [i]) (l₂ := A ++ C)))
    exact this.trans (h2.append_right _)
  · refine ins_ok hB h1 (fun p hp => by have := h2.mem_iff.1 hp; simpa using this) h3 (fun A' a e => ?_)
    subst e
    have := hd A'.length (by rw [← hA]; simp)
    simpa [List.getD] using this
end Go.Proofs.Ythoioocfembkgaa
