/-
  A cache in which each range has its part, on plain lists. No program in sight.
-/
import Derived.Test.YtpmfadepinmmjaaSpaceFn
import Derived.Test.YtpmfadepinmmjaaKRange
import Derived.Test.YtpmfadepinmmjaaKRoom
namespace Go.Proofs.Ytpmfadepinmmjaa

/-- a list for each range, and one more that stays empty; R: as many as each may have -/
structure PartOk (n : Nat) (F : Nat → Nat → Int) (R : Nat → Nat) (Ls : List (List Nat)) : Prop where
  len : Ls.length = n + 1
  mem : ∀ r, r < n → ∀ b ∈ Ls.getD r [], HIn F r (b : Nat)
  last : Ls.getD n [] = []
  nodup : ∀ r, r < n → (Ls.getD r []).Nodup
  few : ∀ r, r < n → (Ls.getD r []).length ≤ R r
section
variable {n : Nat} {F : Nat → Nat → Int} {R : Nat → Nat} {Ls : List (List Nat)} {m : Int}
theorem PartOk.new (n : Nat) (F : Nat → Nat → Int) (R : Nat → Nat) : PartOk n F R (List.replicate (n + 1) []) := by
  have h : ∀ r, (List.replicate (n + 1) ([] : List Nat)).getD r [] = [] := by
    intro r
    simp only [List.getD_eq_getElem?_getD, List.getElem?_replicate]
    split <;> rfl
  exact ⟨by simp, fun r _ b hb => (by rw [h] at hb; cases hb), h n, fun r _ => (by rw [h]; exact List.nodup_nil), fun r _ => (by rw [h]; exact Nat.zero_le _)⟩
theorem PartOk.set (h : PartOk n F R Ls) {x : Nat} (hx : x < n) {L : List Nat} (h1 : ∀ b ∈ L, HIn F x (b : Nat)) (h2 : L.Nodup) (h3 : L.length ≤ R x) : PartOk n F R (Ls.set x L) := by
  have hxl : x < Ls.length := by rw [h.len]; omega
  refine ⟨by rw [List.length_set]; exact h.len, fun r hr b hb => ?_, ?_, fun r hr => ?_, fun r hr => ?_⟩
  · rw [getD_set hxl] at hb
    by_cases e : r = x
    · subst e; rw [if_pos rfl] at hb; exact h1 b hb
    · rw [if_neg e] at hb; exact h.mem r hr b hb
  · rw [getD_set hxl, if_neg (by omega)]; exact h.last
  · rw [getD_set hxl]
    by_cases e : r = x
    · rw [if_pos e]; exact h2
    · rw [if_neg e]; exact h.nodup r hr
  · rw [getD_set hxl]
    by_cases e : r = x
    · rw [if_pos e, e]; exact h3
    · rw [if_neg e]; exact h.few r hr
/-- whoever is in a list is in that range's -/
theorem PartOk.one (h : PartOk n F R Ls) (ok : HsOk n F m) {x r b : Nat} (hx : x < n) (hin : HIn F x (b : Nat)) (hb : b ∈ Ls.getD r []) : r = x := by
  rcases Nat.lt_trichotomy r n with hr | hr | hr
  · exact ok.one hr hx (h.mem r hr b hb) hin
  · subst hr; rw [h.last] at hb; cases hb
  · rw [List.getD_eq_getElem?_getD, List.getElem?_eq_none (by rw [h.len]; omega)] at hb; cases hb
theorem hin_ok (ok : HsOk n F m) {x : Nat} (hx : x < n) {b : Int} (h : HIn F x b) : 0 ≤ b ∧ b < 32 := by
  obtain ⟨h0, h1, _, _, h4, _⟩ := ok.1 x hx
  unfold HIn at h
  omega
theorem PartOk.of (h : PartOk n F R Ls) (ok : HsOk n F m) {b : Int} {is : Bool} {x : Nat} (hr : RngB n F b is x) :
    ofI Ls b = if is = true ∧ b.toNat ∈ Ls.getD x [] then ((x : Int), true) else (0, false) := by
  have key : ∀ l, ofL Ls b.toNat = some l → okB b → is = true ∧ l = x ∧ b.toNat ∈ Ls.getD x [] := by
    intro l hl hb
    unfold ofL at hl
    have h1 := List.find?_some hl
    have h2 := List.mem_of_find?_eq_some hl
    simp only [List.mem_range] at h2
    have h1 : b.toNat ∈ Ls.getD l [] := by simpa using h1
    have hln : l < n := by
      rw [h.len] at h2
      rcases Nat.lt_or_ge l n with e | e
      · exact e
      · obtain rfl : l = n := by omega
        rw [h.last] at h1; cases h1
    have hin := h.mem l hln _ h1
    rw [Int.toNat_of_nonneg hb.1] at hin
    rcases hr with ⟨a1, a2, a3⟩ | ⟨a1, a2, a3⟩
    · exact absurd hin (a3 l hln)
    · have := ok.one hln a2 hin a3
      subst this
      exact ⟨a1, rfl, h1⟩
  unfold ofI
  by_cases hm : is = true ∧ b.toNat ∈ Ls.getD x []
  · rw [if_pos hm]
    rcases hr with ⟨a1, _⟩ | ⟨a1, a2, a3⟩
    · rw [a1] at hm; cases hm.1
    · have hb := hin_ok ok a2 a3
      have hob : okB b := ⟨hb.1, by omega⟩
      rw [if_pos hob]
      cases e : ofL Ls b.toNat with
      | none =>
        unfold ofL at e
        rw [List.find?_eq_none] at e
        have := e x (by simp only [List.mem_range]; rw [h.len]; omega)
        exact absurd (by simpa using hm.2) this
      | some l =>
        obtain ⟨_, rfl, _⟩ := key l e hob
        rfl
  · rw [if_neg hm]
    by_cases hob : okB b
    · rw [if_pos hob]
      cases e : ofL Ls b.toNat with
      | none => rfl
      | some l =>
        obtain ⟨h1, rfl, h2⟩ := key l e hob
        exact absurd ⟨h1, h2⟩ hm
    · rw [if_neg hob]
theorem filter_not {L : List Nat} {b : Nat} (h : b ∉ L) : L.filter (fun x => decide (x ≠ b)) = L := by
  rw [List.filter_eq_self]
  intro x hx
  simp only [decide_eq_true_eq]
  intro e; subst e; exact h hx
theorem PartOk.out (h : PartOk n F R Ls) (ok : HsOk n F m) {x b : Nat} (hx : x < n) (hin : HIn F x (b : Nat)) : outL Ls b = Ls.set x ((Ls.getD x []).filter (fun y => decide (y ≠ b))) := by
  have hxl : x < Ls.length := by rw [h.len]; omega
  apply ext_getD (by simp [outL])
  intro k hk
  rw [getD_map_filter, getD_set hxl]
  by_cases e : k = x
  · subst e; rw [if_pos rfl]
  · rw [if_neg e]
    exact filter_not (fun hb => e (h.one ok hx hin hb))
theorem PartOk.front (h : PartOk n F R Ls) (ok : HsOk n F m) {x b : Nat} (hx : x < n) (hin : HIn F x (b : Nat)) : frontL Ls x b = Ls.set x (b :: (Ls.getD x []).filter (fun y => decide (y ≠ b))) := by
  have hxl : x < Ls.length := by rw [h.len]; omega
  unfold frontL
  rw [h.out ok hx hin, getD_set hxl, if_pos rfl, List.set_set]
end
/-- used -/
def useP (L : List Nat) (b : Nat) : List Nat := if b ∈ L then b :: L.filter (fun y => decide (y ≠ b)) else L
/-- removed -/
def remP (L : List Nat) (b : Nat) : List Nat := L.filter (fun y => decide (y ≠ b))
/-- which one goes -/
def vicP (loop : Bool) (L : List Nat) : Nat := if loop then L.headD 0 else L.getLastD 0
/-- added: which one goes, whether, the error, the list -/
def addP (part : Nat) (loop : Bool) (L : List Nat) (b : Nat) : Int × Bool × Int × List Nat :=
  if part = 0 then (0, false, 5, L)
  else if b ∈ L then (0, false, 0, useP L b)
  else if part ≤ L.length then ((vicP loop L : Nat), true, 0, b :: remP L (vicP loop L))
  else (0, false, 0, b :: L)
theorem vic_mem {loop : Bool} {L : List Nat} (h : L ≠ []) : vicP loop L ∈ L := by
  unfold vicP
  cases loop with
  | true =>
    cases L with
    | nil => exact absurd rfl h
    | cons a t => simp
  | false =>
    simp only [Bool.false_eq_true, if_false]
    rw [List.getLastD_eq_getLast?, List.getLast?_eq_some_getLast h]
    exact List.getLast_mem h
theorem use_mem {L : List Nat} {b y : Nat} (h : y ∈ useP L b) : y ∈ L := by
  unfold useP at h
  split at h
  · rcases List.mem_cons.1 h with rfl | h
    · assumption
    · exact (List.mem_filter.1 h).1
  · exact h
theorem cons_rem_nodup {L : List Nat} (h : L.Nodup) (b : Nat) : (b :: L.filter (fun y => decide (y ≠ b))).Nodup := by
  refine List.nodup_cons.2 ⟨fun h => ?_, h.filter _⟩
  have := (List.mem_filter.1 h).2
  simp at this
theorem rem_lt {L : List Nat} {b : Nat} (h : b ∈ L) : (L.filter (fun y => decide (y ≠ b))).length < L.length := by
  rw [List.length_filter_lt_length_iff_exists]
  exact ⟨b, h, by simp⟩
theorem use_ok {L : List Nat} (h : L.Nodup) (b : Nat) : (useP L b).Nodup ∧ (useP L b).length ≤ L.length := by
  unfold useP
  split
  · rename_i hb
    exact ⟨cons_rem_nodup h b, rem_lt hb⟩
  · exact ⟨h, Nat.le_refl _⟩
theorem add_ok {part : Nat} {loop : Bool} {L : List Nat} {b : Nat} (hn : L.Nodup) (hl : L.length ≤ part) : (addP part loop L b).2.2.2.Nodup ∧ (addP part loop L b).2.2.2.length ≤ part ∧ ∀ y ∈ (addP part loop L b).2.2.2, y = b ∨ y ∈ L := by
  unfold addP
  split
  · exact ⟨hn, hl, fun y h => .inr h⟩
  · split
    · have := use_ok hn b
      exact ⟨this.1, Nat.le_trans this.2 hl, fun y h => .inr (use_mem h)⟩
    · rename_i h0 hb
      split
      · rename_i hp
        have hne : L ≠ [] := by intro e; rw [e] at hp; simp at hp; omega
        refine ⟨List.nodup_cons.2 ⟨fun h => hb (List.mem_filter.1 h).1, hn.filter _⟩, ?_, fun y h => ?_⟩
        · have := rem_lt (vic_mem (loop := loop) hne)
          show (remP L (vicP loop L)).length + 1 ≤ part
          unfold remP; omega
        · rcases List.mem_cons.1 h with h | h
          · exact .inl h
          · exact .inr (List.mem_filter.1 h).1
      · refine ⟨List.nodup_cons.2 ⟨hb, hn⟩, ?_, fun y h => ?_⟩
        · show L.length + 1 ≤ part; omega
        · rcases List.mem_cons.1 h with h | h
          · exact .inl h
          · exact .inr h
end Go.Proofs.Ytpmfadepinmmjaa
