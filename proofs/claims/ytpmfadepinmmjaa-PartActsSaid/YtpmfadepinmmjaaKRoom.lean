/-
  What the parts are, plainly: each range's blocks are all somewhere, no tier has more than its capacity, the denser ones go first. No program in sight.
-/
import Derived.Test.YtpmfadepinmmjaaKParts
namespace Go.Proofs.Ytpmfadepinmmjaa

def sumN (f : Nat → Nat) : Nat → Nat
  | 0 => 0
  | n + 1 => sumN f n + f n
theorem sumN_congr {f g : Nat → Nat} : ∀ n, (∀ i, i < n → f i = g i) → sumN f n = sumN g n
  | 0, _ => rfl
  | n + 1, h => by rw [sumN, sumN, sumN_congr n (fun i hi => h i (by omega)), h n (by omega)]
theorem sumN_zero {f : Nat → Nat} (n : Nat) (h : ∀ i, i < n → f i = 0) : sumN f n = 0 := by
  induction n with
  | zero => rfl
  | succ n ih => rw [sumN, ih (fun i hi => h i (by omega)), h n (by omega)]
theorem sumN_le {f : Nat → Nat} (m n : Nat) (h : ∀ i, i < n → f i ≤ m) : sumN f n ≤ n * m := by
  induction n with
  | zero => exact Nat.zero_le _
  | succ n ih => rw [sumN, Nat.succ_mul]; have := ih (fun i hi => h i (by omega)); have := h n (by omega); omega
theorem sumN_one {f : Nat → Nat} {n x : Nat} (a : Nat) (hx : x < n) (h0 : f x = 0) : sumN (fun i => if i = x then a else f i) n = sumN f n + a := by
  induction n with
  | zero => omega
  | succ n ih =>
    rw [sumN, sumN]
    by_cases e : x = n
    · subst e
      rw [if_pos rfl, sumN_congr x (g := f) (fun i hi => by show (if i = x then a else f i) = f i; rw [if_neg (by omega)]), h0]
      omega
    · rw [ih (by omega), if_neg (by omega)]
      omega
theorem sumN_pos {f : Nat → Nat} {n : Nat} (h : sumN f n = 0) {i : Nat} (hi : i < n) : f i = 0 := by
  induction n with
  | zero => omega
  | succ n ih =>
    rw [sumN] at h
    by_cases e : i = n
    · subst e; omega
    · exact ih (by omega) (by omega)

theorem lf_mono (c : Nat → Nat) (s : Nat) (t : Nat) : lfK c s (t + 1) ≤ lfK c s t := by rw [lf_sub]; omega
theorem lf_anti (c : Nat → Nat) (s : Nat) {t u : Nat} (h : t ≤ u) : lfK c s u ≤ lfK c s t := by
  obtain ⟨k, rfl⟩ := Nat.le.dest h
  induction k with
  | zero => exact Nat.le_refl _
  | succ k ih => exact Nat.le_trans (lf_mono c s (t + k)) (ih (by omega))
theorem row_sum (c : Nat → Nat) (s : Nat) : rowK c s 0 + rowK c s 1 + rowK c s 2 + rowK c s 3 = s := by
  have r0 : rowK c s 0 = lfK c s 0 - lfK c s 1 := row_sub c s (by omega)
  have r1 : rowK c s 1 = lfK c s 1 - lfK c s 2 := row_sub c s (by omega)
  have r2 : rowK c s 2 = lfK c s 2 - lfK c s 3 := row_sub c s (by omega)
  have r3 : rowK c s 3 = lfK c s 3 := rfl
  have h0 : lfK c s 0 = s := rfl
  have m0 : lfK c s 1 ≤ lfK c s 0 := lf_mono c s 0
  have m1 : lfK c s 2 ≤ lfK c s 1 := lf_mono c s 1
  have m2 : lfK c s 3 ≤ lfK c s 2 := lf_mono c s 2
  omega
theorem row_cap (c : Nat → Nat) (s : Nat) {t : Nat} (ht : t < 3) : rowK c s t + capA c s t = c t := by
  unfold rowK capA tkK
  rw [if_pos ht]
  omega
/-- whoever is in a tier has left nothing ahead of it -/
theorem row_ahead {c : Nat → Nat} {s t u : Nat} (ht : t < 4) (h : 0 < rowK c s t) (hu : u < t) : capA c s u = 0 := by
  have hl : 0 < lfK c s t := by
    unfold rowK tkK at h
    split at h
    · omega
    · obtain rfl : t = 3 := by omega
      exact h
  have h1 := lf_anti c s (show u + 1 ≤ t by omega)
  rw [lf_sub] at h1
  rw [cap_sub]
  omega
/-- where there is room, nobody is behind -/
theorem row_room {c : Nat → Nat} {s t u : Nat} (hu : u < 4) (h : 0 < capA c s t) (htu : t < u) : rowK c s u = 0 := by
  rcases Nat.eq_zero_or_pos (rowK c s u) with e | e
  · exact e
  · have := row_ahead hu e htu
    omega

section
variable (S c : Nat → Nat)
theorem stK_app (A B : List Nat) : stK S c (A ++ B) = B.foldl (stp S) (stK S c A) := by unfold stK; rw [List.foldl_append]
theorem stK_snoc (A : List Nat) (x : Nat) : stK S c (A ++ [x]) = stp S (stK S c A) x := by rw [stK_app]; rfl
theorem fold_other (B : List Nat) (st : (Nat → Nat) × (Nat → Nat → Nat)) {x : Nat} (hx : x ∉ B) (t : Nat) : (B.foldl (stp S) st).2 x t = st.2 x t := by
  induction B generalizing st with
  | nil => rfl
  | cons y B ih =>
    rw [List.foldl_cons, ih _ (fun h => hx (List.mem_cons_of_mem _ h))]
    show (if x = y ∧ t < 4 then rowK st.1 (S y) t else st.2 x t) = _
    rw [if_neg (show ¬ (x = y ∧ t < 4) from fun h => hx (by rw [h.1]; exact List.mem_cons_self))]
theorem fold_cap (B : List Nat) (st : (Nat → Nat) × (Nat → Nat → Nat)) (t : Nat) : (B.foldl (stp S) st).1 t ≤ st.1 t := by
  induction B generalizing st with
  | nil => exact Nat.le_refl _
  | cons y B ih =>
    rw [List.foldl_cons]
    refine Nat.le_trans (ih _) ?_
    show (if t < 3 then capA st.1 (S y) t else st.1 t) ≤ st.1 t
    split
    · unfold capA; omega
    · exact Nat.le_refl _
theorem stK_at {A B : List Nat} {x : Nat} (h : (A ++ x :: B).Nodup) {t : Nat} (ht : t < 4) : (stK S c (A ++ x :: B)).2 x t = rowK (stK S c A).1 (S x) t := by
  have hx : x ∉ B := (List.nodup_cons.1 (List.nodup_append.1 h).2.1).1
  rw [stK_app, List.foldl_cons, fold_other S B _ hx]
  show (if x = x ∧ t < 4 then rowK (stK S c A).1 (S x) t else _) = _
  rw [if_pos ⟨rfl, ht⟩]
end
variable {T B : Nat → Int} {n : Nat} {M : List Nat}
theorem ord_split (h : Ord T B n M) {i k : Nat} (hi : i < n) (hk : k < n) (hd : dl T B i k) : ∃ A C D, M = A ++ i :: (C ++ k :: D) := by
  obtain ⟨A, R, hM⟩ := List.append_of_mem (h.mem hi)
  have hk' := h.mem hk
  rw [hM] at hk'
  rcases List.mem_append.1 hk' with hk' | hk'
  · have hs := h.sort
    rw [hM] at hs
    have := (List.pairwise_append.1 hs).2.2 k hk' i List.mem_cons_self
    exact absurd (.inl hd) (fun h => bf_not h this)
  · rcases List.mem_cons.1 hk' with e | hk'
    · subst e; exact absurd hd (fun h => dl_not h h)
    · obtain ⟨C, D, rfl⟩ := List.append_of_mem hk'
      exact ⟨A, C, D, hM⟩
/-- the denser one goes first -/
theorem pr_dense {F : Nat → Nat → Int} {c : Nat → Nat} (h : Ord (kT n F) (kB n F) n M) {i k : Nat} (hi : i < n) (hk : k < n) (hd : dl (kT n F) (kB n F) i k) {t u : Nat} (ht : t < 4) (hu : u < 4) (h1 : 0 < PR F c M i t) (h2 : 0 < PR F c M k u) : t ≤ u := by
  obtain ⟨A, C, D, rfl⟩ := ord_split h hi hk hd
  have hnd := ord_nodup h
  unfold PR at h1 h2
  rw [stK_at _ _ hnd ht] at h1
  rw [← List.cons_append, ← List.append_assoc] at hnd h2
  rw [stK_at _ _ hnd hu] at h2
  rcases Nat.lt_or_ge u t with e | e
  · exfalso
    have h3 := row_ahead ht h1 e
    have h4 : (stK (kS F) c (A ++ i :: C)).1 u ≤ capA (stK (kS F) c A).1 (kS F i) u := by
      rw [stK_app, List.foldl_cons]
      refine Nat.le_trans (fold_cap (kS F) C _ u) ?_
      show (if u < 3 then capA (stK (kS F) c A).1 (kS F i) u else _) ≤ _
      rw [if_pos (by omega)]
      exact Nat.le_refl _
    have h5 := row_cap (stK (kS F) c (A ++ i :: C)).1 (kS F k) (t := u) (by omega)
    omega
  · exact e
/-- all blocks of a range are somewhere -/
theorem pr_all {F : Nat → Nat → Int} {c : Nat → Nat} (h : Ord (kT n F) (kB n F) n M) {i : Nat} (hi : i < n) : PR F c M i 0 + PR F c M i 1 + PR F c M i 2 + PR F c M i 3 = kS F i := by
  obtain ⟨A, R, hM⟩ := List.append_of_mem (h.mem hi)
  have hnd := ord_nodup h
  subst hM
  unfold PR
  rw [stK_at _ _ hnd (by omega), stK_at _ _ hnd (by omega), stK_at _ _ hnd (by omega), stK_at _ _ hnd (by omega)]
  exact row_sum _ _
theorem room_inv (F : Nat → Nat → Int) (c : Nat → Nat) (N : List Nat) : (∀ x ∈ N, x < n) → N.Nodup →
    (∀ t, t < 3 → sumN (fun i => (stK (kS F) c N).2 i t) n + (stK (kS F) c N).1 t = c t) ∧ (∀ t, t < 3 → 0 < (stK (kS F) c N).1 t → sumN (fun i => (stK (kS F) c N).2 i (t + 1)) n = 0) := by
  have snoc : ∀ (N : List Nat) (x : Nat), x < n → x ∉ N →
      ((∀ t, t < 3 → sumN (fun i => (stK (kS F) c N).2 i t) n + (stK (kS F) c N).1 t = c t) ∧ (∀ t, t < 3 → 0 < (stK (kS F) c N).1 t → sumN (fun i => (stK (kS F) c N).2 i (t + 1)) n = 0)) →
      ((∀ t, t < 3 → sumN (fun i => (stK (kS F) c (N ++ [x])).2 i t) n + (stK (kS F) c (N ++ [x])).1 t = c t) ∧ (∀ t, t < 3 → 0 < (stK (kS F) c (N ++ [x])).1 t → sumN (fun i => (stK (kS F) c (N ++ [x])).2 i (t + 1)) n = 0)) := by
    intro N x hx hn ih
    have h2 : ∀ t, t < 4 → sumN (fun i => (stK (kS F) c (N ++ [x])).2 i t) n = sumN (fun i => (stK (kS F) c N).2 i t) n + rowK (stK (kS F) c N).1 (kS F x) t := by
      intro t ht
      rw [stK_snoc, ← sumN_one (f := fun i => (stK (kS F) c N).2 i t) (rowK (stK (kS F) c N).1 (kS F x) t) hx (stK_out _ _ _ _ hn t)]
      refine sumN_congr n (fun i hi => ?_)
      show (if i = x ∧ t < 4 then rowK (stK (kS F) c N).1 (kS F x) t else (stK (kS F) c N).2 i t) = if i = x then _ else _
      by_cases e : i = x
      · rw [if_pos ⟨e, ht⟩, if_pos e]
      · rw [if_neg (fun h => e h.1), if_neg e]
    have h1 : ∀ t, t < 3 → (stK (kS F) c (N ++ [x])).1 t = capA (stK (kS F) c N).1 (kS F x) t := by
      intro t ht
      rw [stK_snoc]
      show (if t < 3 then capA (stK (kS F) c N).1 (kS F x) t else _) = _
      rw [if_pos ht]
    refine ⟨fun t ht => ?_, fun t ht hp => ?_⟩
    · rw [h2 t (by omega), h1 t ht]
      have := ih.1 t ht
      have := row_cap (stK (kS F) c N).1 (kS F x) ht
      omega
    · rw [h1 t ht] at hp
      have := row_cap (stK (kS F) c N).1 (kS F x) ht
      rw [h2 (t + 1) (by omega), ih.2 t ht (by omega), row_room (by omega) hp (Nat.lt_succ_self t)]
  have key : ∀ k (N : List Nat), N.length = k → (∀ x ∈ N, x < n) → N.Nodup →
    (∀ t, t < 3 → sumN (fun i => (stK (kS F) c N).2 i t) n + (stK (kS F) c N).1 t = c t) ∧ (∀ t, t < 3 → 0 < (stK (kS F) c N).1 t → sumN (fun i => (stK (kS F) c N).2 i (t + 1)) n = 0) := by
    intro k
    induction k with
    | zero =>
      intro N hl _ _
      obtain rfl := List.eq_nil_of_length_eq_zero hl
      refine ⟨fun t _ => ?_, fun t _ _ => ?_⟩
      · have := sumN_zero (f := fun i => (stK (kS F) c []).2 i t) n (fun i _ => rfl)
        rw [this]; exact Nat.zero_add _
      · exact sumN_zero n (fun i _ => rfl)
    | succ k ih =>
      intro N hl hN hnd
      have hne : N ≠ [] := by intro e; rw [e] at hl; cases hl
      obtain ⟨N', x, rfl⟩ : ∃ N' x, N = N' ++ [x] := ⟨N.dropLast, N.getLast hne, (List.dropLast_concat_getLast hne).symm⟩
      have hnd' := List.nodup_append.1 hnd
      exact snoc N' x (hN x (by simp)) (fun h => hnd'.2.2 x h x (by simp) rfl) (ih N' (by simpa using hl) (fun y hy => hN y (by simp [hy])) hnd'.1)
  exact key _ N rfl
/-- the tiers' sums -/
theorem pr_room {F : Nat → Nat → Int} {c : Nat → Nat} (h : Ord (kT n F) (kB n F) n M) {t : Nat} (ht : t < 3) :
    sumN (fun i => PR F c M i t) n ≤ c t ∧ (sumN (fun i => PR F c M i t) n < c t → sumN (fun i => PR F c M i (t + 1)) n = 0) := by
  obtain ⟨h1, h2⟩ := room_inv (n := n) F c M (fun x hx => h.lt hx) (ord_nodup h)
  have := h1 t ht
  unfold PR
  exact ⟨by omega, fun hlt => h2 t ht (by omega)⟩
end Go.Proofs.Ytpmfadepinmmjaa
