/-
  The least cost, range by range: what gradineref14.Least's loops hold. No program in sight.
-/
import Derived.Test.YtepnmclgkbphmaaKLeastLaw
namespace Go.Proofs.Ytepnmclgkbphmaa

theorem sumN_head (g : Nat → Nat) : ∀ k, sumN g (k + 1) = g 0 + sumN (fun j => g (j + 1)) k
  | 0 => by simp [sumN]
  | k + 1 => by rw [sumN, sumN_head g k, sumN]; omega
/-- V is the least cost of laying k ranges within what is left -/
def MinV (k : Nat) (S U C left : Nat → Nat) (V : Nat) : Prop :=
  (∃ x, Way k S left x ∧ V = sumN (fun j => U j * rowC x C j) k) ∧ ∀ x, Way k S left x → V ≤ sumN (fun j => U j * rowC x C j) k
theorem MinV.one {k : Nat} {S U C left : Nat → Nat} {V V' : Nat} (h : MinV k S U C left V) (h' : MinV k S U C left V') : V = V' := by
  obtain ⟨⟨x, hx, rfl⟩, h2⟩ := h
  obtain ⟨⟨y, hy, rfl⟩, h4⟩ := h'
  have := h2 y hy
  have := h4 x hx
  omega
theorem MinV.zero (S U C left : Nat → Nat) : MinV 0 S U C left 0 := ⟨⟨fun _ _ => 0, ⟨fun i hi => absurd hi (by omega), fun t _ => Nat.zero_le _⟩, rfl⟩, fun _ _ => Nat.zero_le _⟩
def valK (s u : Nat) (C : Nat → Nat) (a b c : Nat) : Nat := u * (a * C 0 + b * C 1 + c * C 2 + (s - a - b - c) * C 3)
def lessK (left : Nat → Nat) (a b c t : Nat) : Nat := left t - if t = 0 then a else if t = 1 then b else c
def FsK (s : Nat) (left : Nat → Nat) (a b c : Nat) : Prop := a ≤ left 0 ∧ b ≤ left 1 ∧ c ≤ left 2 ∧ a + b + c ≤ s
def DnK (s : Nat) (left : Nat → Nat) (A B D a b c : Nat) : Prop := FsK s left a b c ∧ (a < A ∨ a = A ∧ (b < B ∨ b = B ∧ c < D))
section
variable {k : Nat} {S U C left : Nat → Nat}
/-- the best of the ways that were tried -/
def BstK (k : Nat) (S U C left : Nat → Nat) (A B D : Nat) (z : Int) : Prop :=
  (z = -1 ∧ ∀ a b c, ¬ DnK (S 0) left A B D a b c) ∨
  ∃ V : Nat, z = V ∧ (∃ a b c V', DnK (S 0) left A B D a b c ∧ MinV k (fun j => S (j + 1)) (fun j => U (j + 1)) C (lessK left a b c) V' ∧ V = valK (S 0) (U 0) C a b c + V') ∧
    ∀ a b c V', DnK (S 0) left A B D a b c → MinV k (fun j => S (j + 1)) (fun j => U (j + 1)) C (lessK left a b c) V' → V ≤ valK (S 0) (U 0) C a b c + V'
theorem BstK.congr {A B D A' B' D' : Nat} {z : Int} (h : BstK k S U C left A B D z) (hd : ∀ a b c, DnK (S 0) left A B D a b c ↔ DnK (S 0) left A' B' D' a b c) : BstK k S U C left A' B' D' z := by
  rcases h with ⟨h1, h2⟩ | ⟨V, h1, ⟨a, b, c, V', h3, h4, h5⟩, h6⟩
  · exact .inl ⟨h1, fun a b c h => h2 a b c ((hd a b c).2 h)⟩
  · exact .inr ⟨V, h1, ⟨a, b, c, V', (hd a b c).1 h3, h4, h5⟩, fun a b c V' h => h6 a b c V' ((hd a b c).2 h)⟩
theorem BstK.zero : BstK k S U C left 0 0 0 (-1) := .inl ⟨rfl, fun a b c h => by unfold DnK at h; omega⟩
theorem dn_next {s : Nat} {A B D : Nat} (hf : FsK s left A B D) (a b c : Nat) : DnK s left A B (D + 1) a b c ↔ DnK s left A B D a b c ∨ (a = A ∧ b = B ∧ c = D) := by
  unfold DnK
  constructor
  · rintro ⟨h1, h2⟩
    by_cases e : a = A ∧ b = B ∧ c = D
    · exact .inr e
    · exact .inl ⟨h1, by omega⟩
  · rintro (⟨h1, h2⟩ | ⟨rfl, rfl, rfl⟩)
    · exact ⟨h1, by omega⟩
    · exact ⟨hf, by omega⟩
theorem BstK.better {A B D : Nat} {z : Int} {W : Nat} (h : BstK k S U C left A B D z) (hf : FsK (S 0) left A B D) (hW : MinV k (fun j => S (j + 1)) (fun j => U (j + 1)) C (lessK left A B D) W)
    (hz : z < 0 ∨ ((valK (S 0) (U 0) C A B D + W : Nat) : Int) < z) : BstK k S U C left A B (D + 1) ((valK (S 0) (U 0) C A B D + W : Nat) : Int) := by
  refine .inr ⟨_, rfl, ⟨A, B, D, W, (dn_next hf _ _ _).2 (.inr ⟨rfl, rfl, rfl⟩), hW, rfl⟩, fun a b c V' hd hV => ?_⟩
  rcases (dn_next hf _ _ _).1 hd with hd | ⟨rfl, rfl, rfl⟩
  · rcases h with ⟨_, h2⟩ | ⟨V, h1, _, h6⟩
    · exact absurd hd (h2 a b c)
    · have := h6 a b c V' hd hV; omega
  · rw [hW.one hV]; exact Nat.le_refl _
theorem BstK.worse {A B D : Nat} {z : Int} {W : Nat} (h : BstK k S U C left A B D z) (hf : FsK (S 0) left A B D) (hW : MinV k (fun j => S (j + 1)) (fun j => U (j + 1)) C (lessK left A B D) W)
    (hz : ¬ (z < 0 ∨ ((valK (S 0) (U 0) C A B D + W : Nat) : Int) < z)) : BstK k S U C left A B (D + 1) z := by
  rcases h with ⟨h1, _⟩ | ⟨V, h1, ⟨a, b, c, V', h3, h4, h5⟩, h6⟩
  · omega
  · refine .inr ⟨V, h1, ⟨a, b, c, V', (dn_next hf _ _ _).2 (.inl h3), h4, h5⟩, fun a b c V' hd hV => ?_⟩
    rcases (dn_next hf _ _ _).1 hd with hd | ⟨rfl, rfl, rfl⟩
    · exact h6 a b c V' hd hV
    · have := hW.one hV; omega
theorem BstK.nextB {A B D : Nat} {z : Int} (h : BstK k S U C left A B D z) (hx : ¬ (A + B + D ≤ S 0 ∧ D ≤ left 2)) : BstK k S U C left A (B + 1) 0 z :=
  h.congr (fun a b c => by unfold DnK FsK; omega)
theorem BstK.nextA {A B : Nat} {z : Int} (h : BstK k S U C left A B 0 z) (hx : ¬ (A + B ≤ S 0 ∧ B ≤ left 1)) : BstK k S U C left (A + 1) 0 0 z :=
  h.congr (fun a b c => by unfold DnK FsK; omega)
/-- all were tried: it is the least -/
theorem BstK.all {A : Nat} {z : Int} (h : BstK k S U C left A 0 0 z) (hx : ¬ (A ≤ S 0 ∧ A ≤ left 0)) (hM : ∀ l, ∃ V, MinV k (fun j => S (j + 1)) (fun j => U (j + 1)) C l V) : ∃ V : Nat, z = V ∧ MinV (k + 1) S U C left V := by
  have hd : ∀ a b c, DnK (S 0) left A 0 0 a b c ↔ FsK (S 0) left a b c := fun a b c => by unfold DnK FsK; omega
  rcases h with ⟨_, h2⟩ | ⟨V, h1, ⟨a, b, c, V', h3, ⟨⟨y, hy, hVy⟩, _⟩, h5⟩, h6⟩
  · exact absurd ((hd 0 0 0).2 (by unfold FsK; omega)) (h2 0 0 0)
  · refine ⟨V, h1, ⟨fun i t => if i = 0 then (if t = 0 then a else if t = 1 then b else if t = 2 then c else S 0 - a - b - c) else y (i - 1) t, ⟨fun i hi => ?_, fun t ht => ?_⟩, ?_⟩, fun x hx' => ?_⟩
    · have hf := (hd a b c).1 h3
      unfold FsK at hf
      by_cases e : i = 0
      · subst e; simp; omega
      · obtain ⟨i', rfl⟩ : ∃ i', i = i' + 1 := ⟨i - 1, by omega⟩
        simpa using hy.all i' (by omega)
    · have hf := (hd a b c).1 h3
      unfold FsK at hf
      rw [sumN_head]
      have := hy.room t ht
      simp only [Nat.add_one_ne_zero, if_false, Nat.add_sub_cancel, if_true]
      have h3' : t = 0 ∨ t = 1 ∨ t = 2 := by omega
      rcases h3' with rfl | rfl | rfl <;> (simp [lessK] at this ⊢; omega)
    · rw [sumN_head, h5, hVy]
      simp only [rowC, sumN, valK, Nat.add_one_ne_zero, if_false, Nat.add_sub_cancel, if_true]
      simp
    · have hx0 := hx'.all 0 (by omega)
      have hr : ∀ t, t < 3 → x 0 t + sumN (fun j => x (j + 1) t) k ≤ left t := fun t ht => by have := hx'.room t ht; rwa [sumN_head] at this
      have r0 := hr 0 (by omega)
      have r1 := hr 1 (by omega)
      have r2 := hr 2 (by omega)
      obtain ⟨W, hW⟩ := hM (lessK left (x 0 0) (x 0 1) (x 0 2))
      have h7 := h6 _ _ _ W ((hd (x 0 0) (x 0 1) (x 0 2)).2 (by unfold FsK; omega)) hW
      have h8 := hW.2 (fun i t => x (i + 1) t) ⟨fun i hi => hx'.all (i + 1) (by omega), fun t ht => by
        have := hr t ht
        have h3' : t = 0 ∨ t = 1 ∨ t = 2 := by omega
        rcases h3' with rfl | rfl | rfl <;> (simp [lessK]; omega)⟩
      rw [sumN_head]
      have h9 : valK (S 0) (U 0) C (x 0 0) (x 0 1) (x 0 2) = U 0 * rowC x C 0 := by
        unfold valK
        rw [show S 0 - x 0 0 - x 0 1 - x 0 2 = x 0 3 by omega]
        simp [rowC, sumN]
      rw [h9] at h7
      exact Nat.le_trans h7 (Nat.add_le_add_left h8 _)
end
end Go.Proofs.Ytepnmclgkbphmaa
