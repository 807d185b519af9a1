/-
  gradineref14.Parts, plainly: the best of those that are left is the next of the order; a range is shared out block by block. No program in sight.
-/
import Derived.Test.YtpmfadepinmmjaaKAl
namespace Go.Proofs.Ytpmfadepinmmjaa

/-- the tier that the next block goes to -/
def tfK (c : Nat → Nat) (s : Nat) : Nat := if capA c s 0 ≠ 0 then 0 else if capA c s 1 ≠ 0 then 1 else if capA c s 2 ≠ 0 then 2 else 3
theorem tf_lt (c : Nat → Nat) (s : Nat) : tfK c s < 4 := by unfold tfK; split <;> (try split) <;> (try split) <;> omega
theorem tf_zero {c : Nat → Nat} {s t : Nat} (h : t < tfK c s) : capA c s t = 0 := by
  unfold tfK at h
  split at h
  · omega
  · split at h
    · obtain rfl : t = 0 := by omega
      omega
    · split at h
      · have : t = 0 ∨ t = 1 := by omega
        rcases this with rfl | rfl <;> omega
      · have : t = 0 ∨ t = 1 ∨ t = 2 := by omega
        rcases this with rfl | rfl | rfl <;> omega
theorem tf_pos {c : Nat → Nat} {s : Nat} (h : tfK c s < 3) : 0 < capA c s (tfK c s) := by
  unfold tfK at h ⊢
  split
  · omega
  · split
    · omega
    · split
      · omega
      · rename_i h1 h2 h3; rw [if_neg h1, if_neg h2, if_neg h3] at h; omega
theorem lf_sub (c : Nat → Nat) (s t : Nat) : lfK c s (t + 1) = lfK c s t - c t := by show lfK c s t - min (lfK c s t) (c t) = _; omega
theorem cap_sub (c : Nat → Nat) (s t : Nat) : capA c s t = c t - lfK c s t := by unfold capA tkK; omega
theorem row_sub (c : Nat → Nat) (s : Nat) {t : Nat} (ht : t < 3) : rowK c s t = lfK c s t - lfK c s (t + 1) := by rw [lf_sub]; unfold rowK tkK; rw [if_pos ht]; omega
theorem lf_upto (c : Nat → Nat) (s : Nat) : ∀ t, t ≤ tfK c s → lfK c (s + 1) t = lfK c s t + 1
  | 0, _ => rfl
  | t + 1, h => by
    have ih := lf_upto c s t (by omega)
    have hz := tf_zero (show t < tfK c s by omega)
    rw [cap_sub] at hz
    rw [lf_sub, lf_sub, ih]
    omega
theorem lf_past (c : Nat → Nat) (s : Nat) (h3 : tfK c s < 3) : ∀ k, lfK c s (tfK c s + 1 + k) = 0 ∧ lfK c (s + 1) (tfK c s + 1 + k) = 0
  | 0 => by
    have hp := tf_pos h3
    have hu := lf_upto c s _ (Nat.le_refl _)
    rw [cap_sub] at hp
    rw [Nat.add_zero, lf_sub, lf_sub, hu]
    omega
  | k + 1 => by
    have ih := lf_past c s h3 k
    rw [← Nat.add_assoc, lf_sub, lf_sub]
    omega
theorem lf_past' (c : Nat → Nat) (s : Nat) {t : Nat} (ht : t < 4) (h : tfK c s < t) : lfK c s t = 0 ∧ lfK c (s + 1) t = 0 := by
  have := lf_past c s (by omega) (t - (tfK c s + 1))
  rwa [show tfK c s + 1 + (t - (tfK c s + 1)) = t by omega] at this
theorem cap_next (c : Nat → Nat) (s : Nat) {t : Nat} (ht : t < 3) : capA c (s + 1) t = capA c s t - if t = tfK c s then 1 else 0 := by
  rcases Nat.lt_trichotomy t (tfK c s) with h | h | h
  · have h1 := lf_upto c s t (by omega)
    have h2 := tf_zero h
    rw [if_neg (by omega), cap_sub, cap_sub, h1]
    rw [cap_sub] at h2
    omega
  · have h1 := lf_upto c s t (by omega)
    rw [if_pos h, cap_sub, cap_sub, h1]
    omega
  · have h1 := lf_past' c s (by omega) h
    rw [if_neg (by omega), cap_sub, cap_sub, h1.1, h1.2]
    rfl
theorem row_next (c : Nat → Nat) (s : Nat) {t : Nat} (ht : t < 4) : rowK c (s + 1) t = rowK c s t + if t = tfK c s then 1 else 0 := by
  have htf := tf_lt c s
  by_cases h3 : t = 3
  · subst h3
    show lfK c (s + 1) 3 = lfK c s 3 + _
    by_cases h : 3 = tfK c s
    · rw [if_pos h, lf_upto c s 3 (by omega)]
    · have h1 := lf_past' c s (t := 3) (by omega) (by omega)
      rw [if_neg h, h1.1, h1.2]
  · have ht3 : t < 3 := by omega
    rw [row_sub c _ ht3, row_sub c _ ht3]
    rcases Nat.lt_trichotomy t (tfK c s) with h | h | h
    · rw [if_neg (by omega), lf_upto c s t (by omega), lf_upto c s (t + 1) (by omega)]
      omega
    · have h1 := lf_past' c s (t := t + 1) (by omega) (by omega)
      rw [if_pos h, lf_upto c s t (by omega), h1.1, h1.2]
      omega
    · have h1 := lf_past' c s ht h
      have h2 := lf_past' c s (t := t + 1) (by omega) (by omega)
      rw [if_neg (by omega), h1.1, h1.2, h2.1, h2.2]
theorem cap_zero (c : Nat → Nat) (t : Nat) : capA c 0 t = c t := by
  have : lfK c 0 t = 0 := by have := lfK_le c 0 t; omega
  unfold capA tkK; rw [this]; omega
theorem row_zero (c : Nat → Nat) (t : Nat) : rowK c 0 t = 0 := by
  have h3 : lfK c 0 3 = 0 := by have := lfK_le c 0 3; omega
  have : lfK c 0 t = 0 := by have := lfK_le c 0 t; omega
  unfold rowK tkK; rw [this, h3]; split <;> omega

/-! ### the best of those that are left -/
def SelS (T B : Nat → Int) (D : Nat → Bool) (i : Nat) (b : Int) : Prop :=
  (b = -1 ∧ ∀ j, j < i → D j = true) ∨ ∃ x : Nat, b = x ∧ x < i ∧ D x = false ∧ ∀ j, j < i → D j = false → j ≠ x → bf T B x j
section
variable {T B : Nat → Int} {D : Nat → Bool} {i : Nat} {b : Int}
theorem SelS.zero : SelS T B D 0 (-1) := .inl ⟨rfl, fun j hj => absurd hj (by omega)⟩
theorem SelS.done (h : SelS T B D i b) (hD : D i = true) : SelS T B D (i + 1) b := by
  rcases h with ⟨h1, h2⟩ | ⟨x, h1, h2, h3, h4⟩
  · refine .inl ⟨h1, fun j hj => ?_⟩
    by_cases e : j = i
    · subst e; exact hD
    · exact h2 j (by omega)
  · refine .inr ⟨x, h1, by omega, h3, fun j hj hj2 hj3 => ?_⟩
    by_cases e : j = i
    · subst e; rw [hD] at hj2; cases hj2
    · exact h4 j (by omega) hj2 hj3
theorem SelS.first (h : SelS T B D i b) (hD : D i = false) (hb : b < 0) : SelS T B D (i + 1) (i : Nat) := by
  rcases h with ⟨h1, h2⟩ | ⟨x, h1, _⟩
  · refine .inr ⟨i, rfl, by omega, hD, fun j hj hj2 hj3 => ?_⟩
    rw [h2 j (by omega)] at hj2; cases hj2
  · omega
theorem SelS.get (h : SelS T B D i b) (hb : ¬ b < 0) : ∃ x : Nat, b = x ∧ x < i ∧ D x = false := by
  rcases h with ⟨h1, _⟩ | ⟨x, h1, h2, h3, _⟩
  · omega
  · exact ⟨x, h1, h2, h3⟩
theorem SelS.more (hB : ∀ i, 0 < B i) {x : Nat} (h : SelS T B D i x) (hD : D i = false) (hd : bf T B i x) : SelS T B D (i + 1) (i : Nat) := by
  rcases h with ⟨h1, _⟩ | ⟨y, h1, h2, h3, h4⟩
  · omega
  · obtain rfl : x = y := by omega
    refine .inr ⟨i, rfl, by omega, hD, fun j hj hj2 hj3 => ?_⟩
    by_cases e : j = x
    · subst e; exact hd
    · exact bf_tr hB hd (h4 j (by omega) hj2 e)
theorem SelS.less {x : Nat} (h : SelS T B D i x) (hd : ¬ bf T B i x) : SelS T B D (i + 1) (x : Nat) := by
  rcases h with ⟨h1, _⟩ | ⟨y, h1, h2, h3, h4⟩
  · omega
  · obtain rfl : x = y := by omega
    refine .inr ⟨x, rfl, by omega, h3, fun j hj hj2 hj3 => ?_⟩
    by_cases e : j = i
    · subst e; exact (bf_total hj3).elim (fun h => absurd h hd) id
    · exact h4 j (by omega) hj2 hj3
end
theorem ord_nodup {T B : Nat → Int} {n : Nat} {M : List Nat} (h : Ord T B n M) : M.Nodup := h.perm.nodup_iff.2 List.nodup_range
/-- it is the next of the order -/
theorem SelS.next {T B : Nat → Int} {n k : Nat} {M : List Nat} {D : Nat → Bool} {b : Int} (hM : Ord T B n M) (hk : k < n) (hD : ∀ j, j < n → (D j = true ↔ j ∈ M.take k)) (h : SelS T B D n b) : b = (M.getD k 0 : Nat) := by
  have hl := hM.len
  have hkm : k < M.length := by omega
  have hg : M.getD k 0 = M[k] := by simp [List.getD, hkm]
  have hsp : M = M.take k ++ M[k] :: M.drop (k + 1) := by rw [← List.drop_eq_getElem_cons hkm, List.take_append_drop]
  have hnd := ord_nodup hM
  have hpw := hM.sort
  rw [hsp] at hnd hpw
  obtain ⟨_, n2, n3⟩ := List.nodup_append.1 hnd
  obtain ⟨_, p2, _⟩ := List.pairwise_append.1 hpw
  have hz : D M[k] = false := by
    cases e : D M[k]
    · rfl
    · exact absurd rfl (n3 _ ((hD _ (hM.lt (List.getElem_mem hkm))).1 e) _ List.mem_cons_self)
  rw [hg]
  rcases h with ⟨_, h2⟩ | ⟨x, rfl, h2, h3, h4⟩
  · rw [h2 _ (hM.lt (List.getElem_mem hkm))] at hz; cases hz
  · by_cases e : M[k] = x
    · rw [e]
    · exfalso
      have h5 := h4 _ (hM.lt (List.getElem_mem hkm)) hz e
      have hx : x ∈ M := hM.mem h2
      rw [hsp] at hx
      rcases List.mem_append.1 hx with hx | hx
      · rw [(hD x h2).2 hx] at h3; cases h3
      · rcases List.mem_cons.1 hx with hx | hx
        · exact e hx.symm
        · exact bf_not h5 ((List.pairwise_cons.1 p2).1 x hx)
/-- two orders are one -/
theorem ord_one {T B : Nat → Int} {n : Nat} {M M' : List Nat} (h : Ord T B n M) (h' : Ord T B n M') : M = M' :=
  (h.perm.trans h'.perm.symm).eq_of_pairwise (fun _ _ _ _ h1 h2 => absurd h2 (fun h2 => bf_not h1 h2)) h.sort h'.sort
/-- there is one -/
theorem ord_ex {T B : Nat → Int} (hB : ∀ i, 0 < B i) (n : Nat) : ∃ M, Ord T B n M := by
  induction n with
  | zero => exact ⟨[], Ord.zero T B⟩
  | succ n ih =>
    obtain ⟨P, hP⟩ := ih
    have start : InsAt T B (n + 1) n n (P ++ List.range' n (n + 1 - n)) := InsAt.start ⟨P, hP, rfl⟩ (by omega)
    have key : ∀ j M, InsAt T B (n + 1) n j M → ∃ M', OrdTo T B (n + 1) (n + 1) M' := by
      intro j
      induction j with
      | zero => exact fun M h => ⟨M, h.done hB (fun k hk => by omega)⟩
      | succ j ih =>
        intro M h
        by_cases hd : dl T B n (M.getD j 0)
        · exact ih _ (by have := h.swap hd; exact this)
        · exact ⟨M, h.done hB (fun k hk => by rw [show k = j by omega]; exact hd)⟩
    obtain ⟨M', h'⟩ := key _ _ start
    exact ⟨M', ordTo_end h' rfl⟩
end Go.Proofs.Ytpmfadepinmmjaa
