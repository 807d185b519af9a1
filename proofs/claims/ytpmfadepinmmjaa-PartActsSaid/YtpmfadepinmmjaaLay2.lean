/-
  Lists that are linked by their numbers: putting a block to the front and to the back. No program in sight.
-/
import Derived.Test.YtpmfadepinmmjaaLay
namespace Go.Proofs.Ytpmfadepinmmjaa

theorem seg_congr {A A' : Nat → Nat → Int} {k : Nat} : ∀ {L : List Nat} {p q : Int}, (∀ x ∈ L, ∀ f, A' x f = A x f) → Seg A k p L q → Seg A' k p L q
  | [], _, _, _, _ => trivial
  | c :: t, p, q, ho, hs => by
    obtain ⟨h1, h2, h3, h4, h5⟩ := hs
    have e := ho c (by simp)
    exact ⟨h1, by rw [e]; exact h2, by rw [e]; exact h3, by rw [e]; exact h4, seg_congr (fun x hx => ho x (by simp [hx])) h5⟩

/-- what the two have in common: one list has a block more, the others are as they were -/
theorem lay_put {A E A' E' : Nat → Nat → Int} {Ls : List (List Nat)} (h : Lay A E Ls) {l b : Nat} {L' : List Nat} (hl : l < Ls.length) (hb : A b 0 = -1)
    (h1 : Seg A' l (-1) L' (-1)) (h2 : L'.Nodup) (h3 : E' l 0 = hd L' (-1)) (h4 : E' l 1 = lst (-1) L') (h5 : E' l 2 = L'.length)
    (hm : ∀ x, x ∈ L' ↔ x = b ∨ x ∈ Ls.getD l [])
    (ho : ∀ x, x ≠ b → x ∉ Ls.getD l [] → ∀ f, A' x f = A x f) (h0 : ∀ x, x ≠ b → A' x 0 = A x 0) (hb0 : A' b 0 = l) (hE : ∀ k, k ≠ l → ∀ f, E' k f = E k f) : Lay A' E' (Ls.set l L') := by
  refine ⟨?_, ?_, ?_, ?_, ?_, ?_⟩
  · intro k hk
    rw [List.length_set] at hk
    rw [getD_set hl]
    by_cases e : k = l
    · subst e; rw [if_pos rfl]; exact h1
    · rw [if_neg e]
      refine seg_congr (fun x hx => ho x ?_ ?_) (h.seg k hk)
      · rintro rfl; exact h.not hk hb hx
      · exact fun hx2 => e (h.one hk hl hx hx2)
  · intro k hk
    rw [List.length_set] at hk
    rw [getD_set hl]
    by_cases e : k = l
    · rw [if_pos e]; exact h2
    · rw [if_neg e]; exact h.nodup k hk
  · intro k hk
    rw [List.length_set] at hk
    rw [getD_set hl]
    by_cases e : k = l
    · subst e; rw [if_pos rfl]; exact h3
    · rw [if_neg e, hE k e]; exact h.front k hk
  · intro k hk
    rw [List.length_set] at hk
    rw [getD_set hl]
    by_cases e : k = l
    · subst e; rw [if_pos rfl]; exact h4
    · rw [if_neg e, hE k e]; exact h.back k hk
  · intro k hk
    rw [List.length_set] at hk
    rw [getD_set hl]
    by_cases e : k = l
    · subst e; rw [if_pos rfl]; exact h5
    · rw [if_neg e, hE k e]; exact h.many k hk
  · intro x hx
    by_cases e : x = b
    · subst e; refine .inr ⟨l, by rw [List.length_set]; exact hl, hb0, ?_⟩
      rw [getD_set hl, if_pos rfl]; exact (hm _).2 (.inl rfl)
    · rw [h0 x e]
      rcases h.all x hx with h1 | ⟨k, hk, h1, h2⟩
      · exact .inl h1
      · refine .inr ⟨k, by rw [List.length_set]; exact hk, h1, ?_⟩
        rw [getD_set hl]
        by_cases e2 : k = l
        · subst e2; rw [if_pos rfl]; exact (hm x).2 (.inr h2)
        · rw [if_neg e2]; exact h2

/-- three cells of one node are set -/
theorem upd3_other (A : Nat → Nat → Int) (b : Nat) (x y z : Int) {i : Nat} (h : i ≠ b) (f : Nat) : upd (upd (upd A b 0 x) b 1 y) b 2 z i f = A i f := by
  rw [upd_other _ b 2 _ (.inl h), upd_other _ b 1 _ (.inl h), upd_other _ b 0 _ (.inl h)]
theorem upd3_0 (A : Nat → Nat → Int) (b : Nat) (x y z : Int) : upd (upd (upd A b 0 x) b 1 y) b 2 z b 0 = x := by simp [upd]
theorem upd3_1 (A : Nat → Nat → Int) (b : Nat) (x y z : Int) : upd (upd (upd A b 0 x) b 1 y) b 2 z b 1 = y := by simp [upd]
theorem upd3_2 (A : Nat → Nat → Int) (b : Nat) (x y z : Int) : upd (upd (upd A b 0 x) b 1 y) b 2 z b 2 = z := by simp [upd]

theorem lay_front {A E : Nat → Nat → Int} {Ls : List (List Nat)} (h : Lay A E Ls) {l b : Nat} (hl : l < Ls.length) (hb : A b 0 = -1) (hb64 : b < 64) :
    Lay (frontA A E l b) (frontE E l b) (Ls.set l (b :: Ls.getD l [])) ∧ (E l 0 = -1 ∨ ∃ p : Nat, E l 0 = p ∧ p < 64 ∧ p ≠ b) := by
  have hseg := h.seg l hl
  have hnd := h.nodup l hl
  have hfr := h.front l hl
  have hbk := h.back l hl
  have hmn := h.many l hl
  have hn := h.not hl hb
  have hlt := fun x hx => (h.mem hl (b := x) hx).1
  have key : Seg (frontA A E l b) l (-1) (b :: Ls.getD l []) (-1) ∧ frontE E l b l 0 = b ∧ frontE E l b l 1 = lst (-1) (b :: Ls.getD l []) ∧
      (∀ x, x ≠ b → x ∉ Ls.getD l [] → ∀ f, frontA A E l b x f = A x f) ∧ (∀ x, x ≠ b → frontA A E l b x 0 = A x 0) ∧ frontA A E l b b 0 = l ∧
      (E l 0 = -1 ∨ ∃ p : Nat, E l 0 = p ∧ p < 64 ∧ p ≠ b) := by
    revert hseg hnd hfr hbk hn hlt
    generalize Ls.getD l [] = L
    intro hseg hnd hfr hbk hn hlt
    cases L with
    | nil =>
      simp only [hd] at hfr
      have eA : frontA A E l b = upd (upd (upd A b 0 l) b 1 (-1)) b 2 (-1) := by simp [frontA, hfr]
      have eE : frontE E l b = upd (upd (upd E l 1 b) l 0 b) l 2 (E l 2 + 1) := by simp [frontE, hfr]
      rw [eA, eE]
      refine ⟨⟨hb64, upd3_0 .., upd3_1 .., upd3_2 .., trivial⟩, by simp [upd], by simp [upd, lst], fun x hx _ f => upd3_other _ _ _ _ _ hx f, fun x hx => upd3_other _ _ _ _ _ hx 0, upd3_0 .., .inl hfr⟩
    | cons c t =>
      simp only [hd] at hfr
      have hc := hlt c (by simp)
      have hcn : (c : Int) ≠ -1 := by omega
      have hcb : c ≠ b := fun e => hn (by simp [e])
      have eA : frontA A E l b = upd (upd (upd (upd A b 0 l) b 1 (-1)) b 2 c) c 1 b := by simp [frontA, hfr, hcn]
      have eE : frontE E l b = upd (upd E l 0 b) l 2 (E l 2 + 1) := by simp [frontE, hfr, hcn]
      rw [eA, eE]
      refine ⟨⟨hb64, ?_, ?_, ?_, ?_⟩, by simp [upd], ?_, ?_, ?_, ?_, .inr ⟨c, hfr, hc, hcb⟩⟩
      · rw [upd_other _ c 1 _ (.inl (Ne.symm hcb)), upd3_0]
      · rw [upd_other _ c 1 _ (.inl (Ne.symm hcb)), upd3_1]
      · rw [upd_other _ c 1 _ (.inl (Ne.symm hcb)), upd3_2]; rfl
      · refine seg_prev (p := -1) ?_ (List.nodup_cons.1 hnd).1
        exact seg_congr (fun x hx f => upd3_other _ _ _ _ _ (fun e => hn (by subst e; exact hx)) f) hseg
      · simp [upd, hbk, lst]
      · intro x hx h2 f
        rw [upd_other _ c 1 _ (.inl (fun e => h2 (by simp [e]))), upd3_other _ _ _ _ _ hx]
      · intro x hx
        rw [upd_other _ c 1 _ (.inr (by omega)), upd3_other _ _ _ _ _ hx]
      · rw [upd_other _ c 1 _ (.inl (Ne.symm hcb)), upd3_0]
  obtain ⟨k1, k2, k3, k4, k5, k6, k7⟩ := key
  refine ⟨lay_put h hl hb k1 (List.nodup_cons.2 ⟨hn, hnd⟩) k2 k3 ?_ (fun x => by simp) k4 k5 k6 ?_, k7⟩
  · have : frontE E l b l 2 = E l 2 + 1 := by simp [frontE, upd]
    rw [this, hmn]; simp
  · intro k hk f
    simp only [frontE]
    split <;> simp [upd, hk]

theorem lay_back {A E : Nat → Nat → Int} {Ls : List (List Nat)} (h : Lay A E Ls) {l b : Nat} (hl : l < Ls.length) (hb : A b 0 = -1) (hb64 : b < 64) :
    Lay (backA A E l b) (backE E l b) (Ls.set l (Ls.getD l [] ++ [b])) ∧ (E l 1 = -1 ∨ ∃ p : Nat, E l 1 = p ∧ p < 64 ∧ p ≠ b) := by
  have hseg := h.seg l hl
  have hnd := h.nodup l hl
  have hfr := h.front l hl
  have hbk := h.back l hl
  have hmn := h.many l hl
  have hn := h.not hl hb
  have hlt := fun x hx => (h.mem hl (b := x) hx).1
  have key : Seg (backA A E l b) l (-1) (Ls.getD l [] ++ [b]) (-1) ∧ backE E l b l 0 = hd (Ls.getD l [] ++ [b]) (-1) ∧ backE E l b l 1 = b ∧
      (∀ x, x ≠ b → x ∉ Ls.getD l [] → ∀ f, backA A E l b x f = A x f) ∧ (∀ x, x ≠ b → backA A E l b x 0 = A x 0) ∧ backA A E l b b 0 = l ∧
      (E l 1 = -1 ∨ ∃ p : Nat, E l 1 = p ∧ p < 64 ∧ p ≠ b) := by
    revert hseg hnd hfr hbk hn hlt
    generalize Ls.getD l [] = L
    intro hseg hnd hfr hbk hn hlt
    rcases lst_nat L (-1) with ⟨rfl, e1⟩ | ⟨L0, c, rfl, e1⟩
    · rw [e1] at hbk
      have eA : backA A E l b = upd (upd (upd A b 0 l) b 1 (-1)) b 2 (-1) := by simp [backA, hbk]
      have eE : backE E l b = upd (upd (upd E l 0 b) l 1 b) l 2 (E l 2 + 1) := by simp [backE, hbk]
      rw [eA, eE]
      refine ⟨⟨hb64, upd3_0 .., upd3_1 .., upd3_2 .., trivial⟩, by simp [upd, hd], by simp [upd], fun x hx _ f => upd3_other _ _ _ _ _ hx f, fun x hx => upd3_other _ _ _ _ _ hx 0, upd3_0 .., .inl hbk⟩
    · rw [e1] at hbk
      have hc := hlt c (by simp)
      have hcn : (c : Int) ≠ -1 := by omega
      have hcb : c ≠ b := fun e => hn (by simp [e])
      have hc0 : c ∉ L0 := by
        rw [List.nodup_append] at hnd
        exact fun hm => hnd.2.2 c hm c (by simp) rfl
      have eA : backA A E l b = upd (upd (upd (upd A b 0 l) b 1 c) b 2 (-1)) c 2 b := by simp [backA, hbk, hcn]
      have eE : backE E l b = upd (upd E l 1 b) l 2 (E l 2 + 1) := by simp [backE, hbk, hcn]
      rw [eA, eE]
      refine ⟨?_, ?_, by simp [upd], ?_, ?_, ?_, .inr ⟨c, hbk, hc, hcb⟩⟩
      · rw [seg_append]
        refine ⟨?_, hb64, ?_, ?_, ?_, trivial⟩
        · refine seg_next (p := -1) (q := -1) ?_ hc0
          exact seg_congr (fun x hx f => upd3_other _ _ _ _ _ (fun e => hn (by subst e; exact hx)) f) hseg
        · rw [upd_other _ c 2 _ (.inl (Ne.symm hcb)), upd3_0]
        · rw [upd_other _ c 2 _ (.inl (Ne.symm hcb)), upd3_1, e1]
        · rw [upd_other _ c 2 _ (.inl (Ne.symm hcb)), upd3_2]; rfl
      · have : E l 0 = hd (L0 ++ [c] ++ [b]) (-1) := by rw [hfr]; cases L0 <;> rfl
        simp only [upd]; rw [if_neg (by omega), if_neg (by omega)]; exact this
      · intro x hx h2 f
        rw [upd_other _ c 2 _ (.inl (fun e => h2 (by simp [e]))), upd3_other _ _ _ _ _ hx]
      · intro x hx
        rw [upd_other _ c 2 _ (.inr (by omega)), upd3_other _ _ _ _ _ hx]
      · rw [upd_other _ c 2 _ (.inl (Ne.symm hcb)), upd3_0]
  obtain ⟨k1, k2, k3, k4, k5, k6, k7⟩ := key
  refine ⟨lay_put h hl hb k1 ?_ k2 (by rw [k3, lst_snoc]) ?_ (fun x => by simp [or_comm]) k4 k5 k6 ?_, k7⟩
  · rw [List.nodup_append]
    exact ⟨hnd, by simp, fun x hx y hy e => by simp at hy; subst hy; subst e; exact hn hx⟩
  · have : backE E l b l 2 = E l 2 + 1 := by simp [backE, upd]
    rw [this, hmn]; simp
  · intro k hk f
    simp only [backE]
    split <;> simp [upd, hk]

/-- the lists of a new space -/
theorem lay_new (A E : Nat → Nat → Int) (n : Nat) (hA : ∀ b, b < 64 → A b 0 = -1) (hE : ∀ l, l < n → E l 0 = -1 ∧ E l 1 = -1 ∧ E l 2 = 0) : Lay A E (List.replicate n []) := by
  have e : ∀ l : Nat, (List.replicate n ([] : List Nat)).getD l [] = [] := by
    intro l; simp only [List.getD, List.getElem?_replicate]; split <;> rfl
  refine ⟨?_, ?_, ?_, ?_, ?_, fun b hb => .inl (hA b hb)⟩ <;> intro l hl <;> rw [e l] <;> rw [List.length_replicate] at hl
  · trivial
  · exact List.nodup_nil
  · exact (hE l hl).1
  · exact (hE l hl).2.1
  · exact (hE l hl).2.2
end Go.Proofs.Ytpmfadepinmmjaa
