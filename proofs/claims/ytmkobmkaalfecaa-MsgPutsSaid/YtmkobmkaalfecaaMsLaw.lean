/-
  The plain law of messages: what is put is got; what is cut off, or has a byte more, is none. No program in sight.
-/
import Derived.Test.YtmkobmkaalfecaaMsGet
import Derived.Test.YtmkobmkaalfecaaRawLaw
namespace Go.Proofs.Ytmkobmkaalfecaa
open Go.RowKit

theorem getN_cutL' : ∀ (f m i acc : Nat) (s t : List Int), m ≤ f → m < 128 ^ (9 - i) → i ≤ 8 → enc m = s ++ t → t ≠ [] → getL s i acc = (0, 0, 1) := by
  intro f
  induction f with
  | zero =>
    intro m i acc s t h1 _ _ he ht
    obtain rfl : m = 0 := by omega
    rw [enc_lt (by omega)] at he
    cases s with
    | nil => rfl
    | cons c s =>
      simp at he
      exact absurd he.2.2 ht
  | succ f ih =>
    intro m i acc s t h1 h2 hi he ht
    cases s with
    | nil => rfl
    | cons c s =>
      by_cases hm : m < 128
      · rw [enc_lt hm] at he
        simp at he
        exact absurd he.2.2 ht
      · have h8 : i ≠ 8 := by
          intro h; subst h; simp at h2; omega
        rw [enc_ge (by omega)] at he
        simp only [List.cons_append, List.cons.injEq] at he
        rw [getL_more (by rw [← he.1]; omega) h8]
        have hp : 128 ^ (9 - i) = 128 ^ (9 - (i + 1)) * 128 := by rw [← Nat.pow_succ]; congr 1; omega
        exact ih (m / 128) (i + 1) _ s t (by omega) (by rw [Nat.div_lt_iff_lt_mul (by omega), ← hp]; exact h2) (by omega) he.2 ht
theorem getN_cut' (a s t : List Int) (m : Nat) (h : m < 9223372036854775808) (he : enc m = s ++ t) (ht : t ≠ []) : getN (a ++ s) a.length = (0, 0, 1) := by
  unfold getN
  rw [if_pos ⟨by omega, by simp; omega⟩, Int.toNat_natCast, List.drop_left, getN_cutL' m m 0 0 s t (Nat.le_refl _) (by rw [Nat.sub_zero, pow128_9]; exact h) (by omega) he ht]
  simp
theorem getB_bit' (a r : List Int) (b : Bool) : getB (a ++ ([bit b] ++ r)) a.length = (b, ((a.length + 1 : Nat) : Int), 0) := by
  unfold getB
  rw [if_pos ⟨by omega, by simp; omega⟩, if_neg (by simp; omega), Int.toNat_natCast]
  have : (a ++ ([bit b] ++ r)).getD a.length 0 = bit b := by simp [List.getD_eq_getElem?_getD]
  rw [this]
  cases b <;> simp [bit]
theorem getT_enc' (a t r : List Int) (h : t.length ≤ 64) : getT (a ++ ((enc t.length ++ t) ++ r)) a.length 64 = (t, ((a.length + (enc t.length ++ t).length : Nat) : Int), 0) := by
  have h1 := getN_enc a (t ++ r) t.length (by omega)
  have e1 : a ++ ((enc t.length ++ t) ++ r) = a ++ (enc t.length ++ (t ++ r)) := by simp
  unfold getT
  rw [e1, h1]
  simp only [ne_eq, not_true_eq_false, if_false]
  rw [if_neg (by omega), if_neg (by simp only [List.length_append]; omega)]
  have e2 : (a ++ (enc t.length ++ (t ++ r))).drop (((a.length + (enc t.length).length : Nat) : Int)).toNat = t ++ r := by
    rw [Int.toNat_natCast, ← List.append_assoc, ← List.length_append, List.drop_left]
  rw [e2, Int.toNat_natCast, List.take_left]
  simp only [List.length_append, Prod.mk.injEq, true_and, and_true]
  omega
theorem getT_cut (a s u t : List Int) (h : t.length ≤ 64) (he : enc t.length ++ t = s ++ u) (hu : u ≠ []) : (getT (a ++ s) a.length 64).2.2 = 1 := by
  rcases List.append_eq_append_iff.1 he with ⟨c, h1, h2⟩ | ⟨c, h1, h2⟩
  · -- s = enc ++ c, t = c ++ u
    have hn := getN_enc a c t.length (by omega)
    rw [← h1] at hn
    have hl : c.length < t.length := by
      rw [h2, List.length_append]
      have := List.length_pos_iff.2 hu
      omega
    unfold getT
    rw [hn]
    simp only [ne_eq, not_true_eq_false, if_false]
    rw [if_neg (by omega), if_pos (by rw [h1]; simp only [List.length_append]; omega)]
  · by_cases hc : c = []
    · subst hc
      have hs : s = enc t.length := by simpa using h1.symm
      have hut : u = t := by simpa using h2
      have hn := getN_enc a [] t.length (by omega)
      simp only [List.append_nil] at hn
      have htl : 0 < t.length := by rw [← hut]; exact List.length_pos_iff.2 hu
      unfold getT
      rw [hs, hn]
      simp only [ne_eq, not_true_eq_false, if_false]
      rw [if_neg (by omega), if_pos (by simp only [List.length_append]; omega)]
    · have hn := getN_cut' a s c t.length (by omega) h1 hc
      unfold getT
      rw [hn]
      simp

section
variable {K : Int} {N : Nat → Int} {g : Bool} {t : List Int}
theorem fB_num {f : Nat} (h8 : f ≤ 8) : fB N g t f = enc (N f).toNat := by unfold fB; rw [if_neg (by omega), if_neg (by omega)]
/-- a field that is read -/
theorem field_read (ok : MOk K N g t.length) {B pre r : List Int} {f : Nat} (h1 : 1 ≤ f) (h10 : f ≤ 10) (hB : B = pre ++ (fB N g t f ++ r)) :
    fGet B f pre.length = (((pre ++ fB N g t f).length : Int), 0) ∧ (f = 9 → (getB B pre.length).1 = g) ∧ (f = 10 → (getT B pre.length 64).1 = t) ∧ (f ≤ 8 → numF B f pre.length = N f) := by
  by_cases h9 : f = 9
  · subst h9
    have e : fB N g t 9 = [bit g] := rfl
    rw [e] at hB ⊢
    have := getB_bit' pre r g
    rw [← hB] at this
    refine ⟨?_, fun _ => by rw [this], fun h => absurd h (by decide), fun h => absurd h (by decide)⟩
    show (getB B pre.length).2 = _
    rw [this]
    simp
  · by_cases hA : f = 10
    · subst hA
      have e : fB N g t 10 = enc t.length ++ t := rfl
      rw [e] at hB ⊢
      have := getT_enc' pre t r ok.len
      rw [← hB] at this
      refine ⟨?_, fun h => absurd h (by decide), fun _ => by rw [this], fun h => absurd h (by decide)⟩
      show (getT B pre.length 64).2 = _
      rw [this]
      simp only [List.length_append]
    · have h8 : f ≤ 8 := by omega
      rw [fB_num h8] at hB ⊢
      have hb := ok.num h1 h8
      have := getN_enc pre r (N f).toNat (by omega)
      rw [← hB] at this
      have hN : (((N f).toNat : Nat) : Int) = N f := by omega
      refine ⟨?_, fun h => absurd h h9, fun h => absurd h hA, fun _ => ?_⟩
      · unfold fGet
        rw [if_neg h9, if_neg hA, this]
        simp only [List.length_append]
      · unfold numF
        rw [this, hN]
        by_cases e8 : f = 8
        · have h5 := ok.2 f h1 h10
          unfold fOk fRight mostF at h5
          subst e8
          simp at h5
          rw [if_pos rfl, if_pos h5.1.2]
        · rw [if_neg e8]
/-- a field that is cut off -/
theorem field_cut (ok : MOk K N g t.length) {B pre s u : List Int} {f : Nat} (h1 : 1 ≤ f) (h10 : f ≤ 10) (hB : B = pre ++ s) (he : fB N g t f = s ++ u) (hu : u ≠ []) : (fGet B f pre.length).2 = 1 := by
  by_cases h9 : f = 9
  · subst h9
    have e : fB N g t 9 = [bit g] := rfl
    rw [e] at he
    have hs : s = [] := by
      cases s with
      | nil => rfl
      | cons c s => simp at he; exact absurd he.2.2 hu
    subst hs
    rw [List.append_nil] at hB
    show (getB B pre.length).2.2 = 1
    unfold getB
    rw [if_pos ⟨by omega, by rw [hB]; omega⟩, if_pos (by rw [hB])]
  · by_cases hA : f = 10
    · subst hA
      have e : fB N g t 10 = enc t.length ++ t := rfl
      rw [e] at he
      show (getT B pre.length 64).2.2 = 1
      rw [hB]
      exact getT_cut pre s u t ok.len he hu
    · have h8 : f ≤ 8 := by omega
      rw [fB_num h8] at he
      have hb := ok.num h1 h8
      unfold fGet
      rw [if_neg h9, if_neg hA, hB, getN_cut' pre s u (N f).toNat (by omega) he hu]

theorem flat_at (F : Nat → List Int) (l : List Nat) : ∀ m k, k < m → m ≤ l.length → ∃ s, (l.take m).flatMap F = (l.take k).flatMap F ++ (F (l.getD k 0) ++ s) := by
  intro m
  induction m with
  | zero => intro k h; omega
  | succ m ih =>
    intro k hk hm
    have e1 : (l.take (m + 1)).flatMap F = (l.take m).flatMap F ++ F (l.getD m 0) := by
      rw [List.take_succ_eq_append_getElem (by omega), List.flatMap_append]
      congr 1
      simp [List.getD, show m < l.length by omega]
    by_cases e : k < m
    · obtain ⟨s, hs⟩ := ih k e (by omega)
      exact ⟨s ++ F (l.getD m 0), by rw [e1, hs]; simp⟩
    · obtain rfl : k = m := by omega
      exact ⟨[], by rw [e1]; simp⟩
theorem flat_cut (F : Nat → List Int) : ∀ (l : List Nat) (s u : List Int), (∀ f ∈ l, F f ≠ []) → l.flatMap F = s ++ u → u ≠ [] → ∃ i s' u', i < l.length ∧ s = (l.take i).flatMap F ++ s' ∧ F (l.getD i 0) = s' ++ u' ∧ u' ≠ [] := by
  intro l
  induction l with
  | nil => intro s u _ h hu; simp at h; exact absurd h.2 hu
  | cons a l ih =>
    intro s u hne h hu
    rw [List.flatMap_cons] at h
    rcases List.append_eq_append_iff.1 h with ⟨c, h1, h2⟩ | ⟨c, h1, h2⟩
    · obtain ⟨i, s', u', q1, q2, q3, q4⟩ := ih c u (fun f hf => hne f (List.mem_cons_of_mem _ hf)) h2 hu
      exact ⟨i + 1, s', u', by simpa using q1, by rw [h1, q2]; simp, by simpa using q3, q4⟩
    · by_cases hc : c = []
      · subst hc
        have hu2 : u = l.flatMap F := by simpa using h2
        obtain ⟨i, s', u', q1, q2, q3, q4⟩ := ih [] u (fun f hf => hne f (List.mem_cons_of_mem _ hf)) (by rw [hu2]; rfl) hu
        exact ⟨i + 1, s', u', by simpa using q1, by
          have hs : s = F a := by simpa using h1.symm
          rw [hs]
          have := q2
          simp only [List.nil_eq, List.append_eq_nil_iff] at this
          simp [this.1, this.2], by simpa using q3, q4⟩
      · exact ⟨0, s, c, by simp, by simp, by simpa using h1, hc⟩
theorem fB_ne (N : Nat → Int) (g : Bool) (t : List Int) (f : Nat) : fB N g t f ≠ [] := by
  unfold fB
  by_cases h9 : f = 9
  · rw [if_pos h9]; simp
  · rw [if_neg h9]
    by_cases hA : f = 10
    · rw [if_pos hA]
      intro h
      have := congrArg List.length h
      have h2 := enc_len_pos t.length
      rw [List.length_append, List.length_nil] at this
      omega
    · rw [if_neg hA]
      intro h
      have := enc_len_pos (N f).toNat
      rw [h] at this; simp at this

def preB (K : Int) (N : Nat → Int) (g : Bool) (t : List Int) (m : Nat) : List Int := enc K.toNat ++ ((fieldsOf K).take m).flatMap (fB N g t)
theorem preB_all (K : Int) (N : Nat → Int) (g : Bool) (t : List Int) : preB K N g t (fieldsOf K).length = mB K N g t := by unfold preB mB; rw [List.take_length]
theorem preB_at (K : Int) (N : Nat → Int) (g : Bool) (t : List Int) {m k : Nat} (hk : k < m) (hm : m ≤ (fieldsOf K).length) : ∃ s, preB K N g t m = preB K N g t k ++ (fB N g t ((fieldsOf K).getD k 0) ++ s) := by
  obtain ⟨s, hs⟩ := flat_at (fB N g t) (fieldsOf K) m k hk hm
  exact ⟨s, by unfold preB; rw [hs]; simp⟩
theorem preB_succ (K : Int) (N : Nat → Int) (g : Bool) (t : List Int) {k : Nat} (hk : k < (fieldsOf K).length) : preB K N g t (k + 1) = preB K N g t k ++ fB N g t ((fieldsOf K).getD k 0) := by
  unfold preB
  rw [List.take_succ_eq_append_getElem hk, List.flatMap_append, ← List.append_assoc]
  congr 1
  simp [List.getD, hk]
theorem kind_read (ok : MOk K N g t.length) {B r : List Int} (hB : B = enc K.toNat ++ r) : getN B 0 = (K, ((enc K.toNat).length : Int), 0) := by
  obtain ⟨h1, h14⟩ := ok.kind
  have := getN_enc [] r K.toNat (by omega)
  simp only [List.nil_append, List.length_nil] at this
  rw [← hB] at this
  rw [show (0 : Int) = ((0 : Nat) : Int) from rfl, this]
  simp only [Prod.mk.injEq]
  omega
theorem fields_at {k : Nat} (hk : k < (fieldsOf K).length) : (fieldsOf K).getD k 0 ∈ fieldsOf K := by
  rw [List.getD_eq_getElem?_getD, List.getElem?_eq_getElem hk]; exact List.getElem_mem hk
/-- what was read of the first fields -/
theorem reads (ok : MOk K N g t.length) {B r : List Int} {m : Nat} (hm : m ≤ (fieldsOf K).length) (hB : B = preB K N g t m ++ r) :
    ∀ k, k ≤ m → (readR B K k).pos = ((preB K N g t k).length : Int) ∧ (∀ f, f ≤ 8 → (readR B K k).num f = if f ∈ (fieldsOf K).take k then N f else 0) ∧
      (readR B K k).gr = (if 9 ∈ (fieldsOf K).take k then g else false) ∧ (readR B K k).txt = (if 10 ∈ (fieldsOf K).take k then t else []) ∧ (∀ j, j < k → errR B K j = 0) := by
  have hk0 : getN B 0 = (K, ((enc K.toNat).length : Int), 0) := kind_read ok (r := ((fieldsOf K).take m).flatMap (fB N g t) ++ r) (by rw [hB]; unfold preB; simp)
  intro k
  induction k with
  | zero =>
    intro _
    refine ⟨?_, fun f _ => by simp [readR], by simp [readR], by simp [readR], fun j hj => absurd hj (by omega)⟩
    show (getN B 0).2.1 = _
    rw [hk0]
    simp [preB]
  | succ k ih =>
    intro hk
    obtain ⟨i1, i2, i3, i4, i5⟩ := ih (by omega)
    obtain ⟨s, hs⟩ := preB_at K N g t (m := m) (k := k) (by omega) hm
    have hkl : k < (fieldsOf K).length := by omega
    obtain ⟨f1, f10⟩ := fields_bd K _ (fields_at hkl)
    have hB2 : B = preB K N g t k ++ (fB N g t ((fieldsOf K).getD k 0) ++ (s ++ r)) := by rw [hB, hs]; simp
    obtain ⟨q1, q2, q3, q4⟩ := field_read ok f1 f10 hB2
    rw [← i1] at q1 q2 q3 q4
    have hmem : ∀ f, f ∈ (fieldsOf K).take (k + 1) ↔ f ∈ (fieldsOf K).take k ∨ f = (fieldsOf K).getD k 0 := by
      intro f
      rw [List.take_succ_eq_append_getElem hkl, List.mem_append, List.mem_singleton]
      simp [List.getD, hkl]
    have hps := preB_succ K N g t hkl
    obtain ⟨f0, hf0⟩ : ∃ f0, f0 = (fieldsOf K).getD k 0 := ⟨_, rfl⟩
    rw [← hf0] at q1 q2 q3 q4 f1 f10 hmem hps
    have hst : readR B K (k + 1) = stepR B f0 (readR B K k) := by rw [hf0]; rfl
    have herr : errR B K k = (fGet B f0 (readR B K k).pos).2 := by rw [hf0]; rfl
    rw [hst]
    refine ⟨?_, fun f hf => ?_, ?_, ?_, fun j hj => ?_⟩
    · show (fGet B f0 (readR B K k).pos).1 = _
      rw [q1, hps]
    · show (if f0 = 9 ∨ f0 = 10 then (readR B K k).num else updF (readR B K k).num f0 (numF B f0 (readR B K k).pos)) f = _
      by_cases h9 : f0 = 9 ∨ f0 = 10
      · rw [if_pos h9, i2 f hf]
        have : (f ∈ (fieldsOf K).take (k + 1)) = (f ∈ (fieldsOf K).take k) := by
          apply propext; rw [hmem f]; constructor
          · rintro (h | h)
            · exact h
            · omega
          · exact .inl
        simp only [this]
      · rw [if_neg h9, q4 (by omega)]
        unfold updF
        by_cases e : f = f0
        · subst e
          rw [if_pos rfl, if_pos ((hmem f).2 (.inr rfl))]
        · rw [if_neg e, i2 f hf]
          have : (f ∈ (fieldsOf K).take (k + 1)) = (f ∈ (fieldsOf K).take k) := by
            apply propext; rw [hmem f]; constructor
            · rintro (h | h)
              · exact h
              · exact absurd h e
            · exact .inl
          simp only [this]
    · show (if f0 = 9 then (getB B (readR B K k).pos).1 else (readR B K k).gr) = _
      by_cases e : f0 = 9
      · rw [if_pos e, q2 e, if_pos ((hmem 9).2 (.inr e.symm))]
      · rw [if_neg e, i3]
        have : (9 ∈ (fieldsOf K).take (k + 1)) = (9 ∈ (fieldsOf K).take k) := by
          apply propext; rw [hmem 9]; constructor
          · rintro (h | h)
            · exact h
            · exact absurd h.symm e
          · exact .inl
        simp only [this]
    · show (if f0 = 10 then (getT B (readR B K k).pos 64).1 else (readR B K k).txt) = _
      by_cases e : f0 = 10
      · rw [if_pos e, q3 e, if_pos ((hmem 10).2 (.inr e.symm))]
      · rw [if_neg e, i4]
        have : (10 ∈ (fieldsOf K).take (k + 1)) = (10 ∈ (fieldsOf K).take k) := by
          apply propext; rw [hmem 10]; constructor
          · rintro (h | h)
            · exact h
            · exact absurd h.symm e
          · exact .inl
        simp only [this]
    · by_cases e : j < k
      · exact i5 j e
      · obtain rfl : j = k := by omega
        rw [herr, q1]
theorem nmd_mem (K : Int) (f : Nat) : nmd K f = true ↔ f ∈ fieldsOf K := by unfold nmd; simp
/-- all that a message's bytes, and what stands behind, are read as -/
theorem msg_reads (ok : MOk K N g t.length) (r : List Int) : getN (mB K N g t ++ r) 0 = (K, ((enc K.toNat).length : Int), 0) ∧ (∀ j, j < (fieldsOf K).length → errR (mB K N g t ++ r) K j = 0) ∧
    (readR (mB K N g t ++ r) K (fieldsOf K).length).pos = ((mB K N g t).length : Int) ∧ (∀ f, 1 ≤ f → f ≤ 8 → (readR (mB K N g t ++ r) K (fieldsOf K).length).num f = N f) ∧
    (readR (mB K N g t ++ r) K (fieldsOf K).length).gr = g ∧ (readR (mB K N g t ++ r) K (fieldsOf K).length).txt = t := by
  have hB : mB K N g t ++ r = preB K N g t (fieldsOf K).length ++ r := by rw [preB_all]
  obtain ⟨h1, h2, h3, h4, h5⟩ := reads ok (Nat.le_refl _) hB _ (Nat.le_refl _)
  rw [List.take_length] at h2 h3 h4
  have hz : ∀ f, 1 ≤ f → f ≤ 10 → f ∉ fieldsOf K → fZero N g t.length f = true := by
    intro f a b hn
    have := ok.2 f a b
    unfold fOk at this
    rw [Bool.and_eq_true, Bool.or_eq_true] at this
    rcases this.2 with h | h
    · exact absurd ((nmd_mem K f).1 h) hn
    · exact h
  refine ⟨kind_read ok (r := (fieldsOf K).flatMap (fB N g t) ++ r) (by unfold mB; simp), h5, by rw [h1, preB_all], fun f a b => ?_, ?_, ?_⟩
  · rw [h2 f b]
    by_cases e : f ∈ fieldsOf K
    · rw [if_pos e]
    · rw [if_neg e]
      have := hz f a (by omega) e
      unfold fZero at this
      rw [if_neg (by omega), if_neg (by omega)] at this
      exact (of_decide_eq_true this).symm
  · rw [h3]
    by_cases e : 9 ∈ fieldsOf K
    · rw [if_pos e]
    · rw [if_neg e]
      have := hz 9 (by omega) (by omega) e
      unfold fZero at this
      simp at this
      exact this.symm
  · rw [h4]
    by_cases e : 10 ∈ fieldsOf K
    · rw [if_pos e]
    · rw [if_neg e]
      have := hz 10 (by omega) (by omega) e
      unfold fZero at this
      simp at this
      exact this.symm
theorem mok_congr {N' : Nat → Int} {n : Nat} (ok : MOk K N g n) (h : ∀ f, 1 ≤ f → f ≤ 8 → N' f = N f) : MOk K N' g n := by
  refine ⟨ok.1, fun f h1 h10 => ?_⟩
  have := ok.2 f h1 h10
  unfold fOk fRight fZero at this ⊢
  by_cases h9 : f = 9
  · simpa [h9] using this
  · by_cases hA : f = 10
    · simpa [hA] using this
    · rw [h f h1 (by omega)]; exact this

theorem mgout_ok (ok : MOk K N g t.length) : MGOut (mB K N g t) 0 := by
  obtain ⟨h1, h2, h3, h4, h5, h6⟩ := msg_reads ok []
  simp only [List.append_nil] at h1 h2 h3 h4 h5 h6
  refine .inr ⟨by rw [h1], by rw [h1]; exact ok.1, .inr ⟨by rw [h1]; exact h2, .inr ⟨by rw [h1]; exact h3, ?_, rfl⟩⟩⟩
  rw [h1]
  show MOk K _ _ _
  rw [h5, h6]
  exact mok_congr ok h4
theorem mgout_more (ok : MOk K N g t.length) (x : Int) : MGOut (mB K N g t ++ [x]) 2 := by
  obtain ⟨h1, h2, h3, _⟩ := msg_reads ok [x]
  refine .inr ⟨by rw [h1], by rw [h1]; exact ok.1, .inr ⟨by rw [h1]; exact h2, .inl ⟨?_, rfl⟩⟩⟩
  rw [h1]
  show (readR _ K _).pos < _
  rw [h3]
  simp; omega
theorem mgout_cut (ok : MOk K N g t.length) (s u : List Int) (h : mB K N g t = s ++ u) (hu : u ≠ []) : MGOut s 1 := by
  unfold mB at h
  obtain ⟨k1, k14⟩ := ok.kind
  have key : ∀ s', s = enc K.toNat ++ s' → (fieldsOf K).flatMap (fB N g t) = s' ++ u → MGOut s 1 := by
    intro s' h1 h2
    obtain ⟨i, s2, u2, hi, q2, q3, q4⟩ := flat_cut (fB N g t) (fieldsOf K) s' u (fun f _ => fB_ne N g t f) h2 hu
    have hk := kind_read ok h1
    have hs : s = preB K N g t i ++ s2 := by rw [h1, q2]; unfold preB; simp
    obtain ⟨r1, _, _, _, r5⟩ := reads ok (by omega) hs i (Nat.le_refl _)
    obtain ⟨f1, f10⟩ := fields_bd K _ (fields_at hi)
    refine .inr ⟨by rw [hk], by rw [hk]; exact ok.1, .inl ⟨i, by rw [hk]; exact hi, by rw [hk]; exact r5, ?_, by decide⟩⟩
    rw [hk]
    show (fGet s ((fieldsOf K).getD i 0) (readR s K i).pos).2 = 1
    rw [r1]
    exact field_cut ok f1 f10 hs q3 q4
  rcases List.append_eq_append_iff.1 h with ⟨c, h1, h2⟩ | ⟨c, h1, h2⟩
  · exact key c h1 h2
  · by_cases hc : c = []
    · subst hc
      exact key [] (by simpa using h1.symm) (by simpa using h2.symm)
    · have := getN_cut' [] s c K.toNat (by omega) h1 hc
      simp only [List.nil_append, List.length_nil] at this
      exact .inl ⟨by rw [show (0 : Int) = ((0 : Nat) : Int) from rfl, this], by decide⟩
end
end Go.Proofs.Ytmkobmkaalfecaa
