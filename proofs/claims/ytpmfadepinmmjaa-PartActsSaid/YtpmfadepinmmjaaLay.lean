/-
  Lists that are linked by their numbers: what the cells must be for some lists to be told by them, and that taking out, putting to the front and to the back keep that. No program in sight.
-/
import Derived.Test.YtpmfadepinmmjaaSpc
import Derived.Test.YtpmfadepinmmjaaSpcFn
namespace Go.Proofs.Ytpmfadepinmmjaa

/-- the first of a list, else q -/
def hd : List Nat → Int → Int
  | [], q => q
  | b :: _, _ => b
/-- the last of a list, else p -/
def lst : Int → List Nat → Int
  | p, [] => p
  | _, b :: t => lst b t

/-- the blocks L stand in list l, behind p, ahead of q -/
def Seg (A : Nat → Nat → Int) (l : Nat) : Int → List Nat → Int → Prop
  | _, [], _ => True
  | p, b :: t, q => b < 64 ∧ A b 0 = l ∧ A b 1 = p ∧ A b 2 = hd t q ∧ Seg A l b t q

theorem hd_append (L1 L2 : List Nat) (q : Int) : hd (L1 ++ L2) q = hd L1 (hd L2 q) := by cases L1 <;> rfl
theorem lst_append : ∀ (L1 L2 : List Nat) (p : Int), lst p (L1 ++ L2) = lst (lst p L1) L2
  | [], _, _ => rfl
  | _ :: t, L2, _ => lst_append t L2 _
theorem lst_snoc (L : List Nat) (b : Nat) (p : Int) : lst p (L ++ [b]) = b := by rw [lst_append]; rfl

theorem seg_append (A : Nat → Nat → Int) (l : Nat) : ∀ (L1 L2 : List Nat) (p q : Int), Seg A l p (L1 ++ L2) q ↔ Seg A l p L1 (hd L2 q) ∧ Seg A l (lst p L1) L2 q
  | [], L2, p, q => by simp [Seg, lst]
  | b :: t, L2, p, q => by
    simp only [List.cons_append, Seg, lst, hd_append, seg_append A l t L2 b q, and_assoc]

theorem seg_lt {A : Nat → Nat → Int} {l : Nat} : ∀ {L : List Nat} {p q : Int}, Seg A l p L q → ∀ b ∈ L, b < 64 ∧ A b 0 = l
  | [], _, _, _, b, hb => by simp at hb
  | c :: t, _, _, h, b, hb => by
    rcases List.mem_cons.1 hb with rfl | hb
    · exact ⟨h.1, h.2.1⟩
    · exact seg_lt h.2.2.2.2 b hb

theorem seg_frame {A : Nat → Nat → Int} {l b f : Nat} {x : Int} : ∀ {L : List Nat} {p q : Int}, Seg A l p L q → b ∉ L → Seg (upd A b f x) l p L q
  | [], _, _, _, _ => trivial
  | c :: t, p, q, h, hb => by
    have hc : c ≠ b := fun e => hb (by simp [e])
    have ht : b ∉ t := fun e => hb (by simp [e])
    obtain ⟨h1, h2, h3, h4, h5⟩ := h
    exact ⟨h1, by rw [upd_other A b f x (.inl hc)]; exact h2, by rw [upd_other A b f x (.inl hc)]; exact h3, by rw [upd_other A b f x (.inl hc)]; exact h4, seg_frame h5 ht⟩

/-- what is ahead of the first one -/
theorem seg_prev {A : Nat → Nat → Int} {l c : Nat} {t : List Nat} {p q p' : Int} (h : Seg A l p (c :: t) q) (hn : c ∉ t) : Seg (upd A c 1 p') l p' (c :: t) q := by
  obtain ⟨h1, h2, h3, h4, h5⟩ := h
  exact ⟨h1, by rw [upd_other A c 1 p' (.inr (by omega))]; exact h2, upd_same A c 1 p', by rw [upd_other A c 1 p' (.inr (by omega))]; exact h4, seg_frame h5 hn⟩

/-- what is behind the last one -/
theorem seg_next {A : Nat → Nat → Int} {l c : Nat} {q q' : Int} : ∀ {L : List Nat} {p : Int}, Seg A l p (L ++ [c]) q → c ∉ L → Seg (upd A c 2 q') l p (L ++ [c]) q'
  | [], p, h, _ => by
    obtain ⟨h1, h2, h3, h4, h5⟩ := h
    exact ⟨h1, by rw [upd_other A c 2 q' (.inr (by omega))]; exact h2, by rw [upd_other A c 2 q' (.inr (by omega))]; exact h3, upd_same A c 2 q', trivial⟩
  | b :: t, p, h, hn => by
    have hb : b ≠ c := fun e => hn (by simp [e])
    obtain ⟨h1, h2, h3, h4, h5⟩ := h
    have hh : hd (t ++ [c]) q = hd (t ++ [c]) q' := by cases t <;> rfl
    refine ⟨h1, by rw [upd_other A c 2 q' (.inl hb)]; exact h2, by rw [upd_other A c 2 q' (.inl hb)]; exact h3, ?_, seg_next h5 (fun e => hn (List.mem_cons_of_mem _ e))⟩
    rw [upd_other A c 2 q' (.inl hb)]
    exact h4.trans hh

/-- the cells tell the lists Ls -/
structure Lay (A E : Nat → Nat → Int) (Ls : List (List Nat)) : Prop where
  seg : ∀ l, l < Ls.length → Seg A l (-1) (Ls.getD l []) (-1)
  nodup : ∀ l, l < Ls.length → (Ls.getD l []).Nodup
  front : ∀ l, l < Ls.length → E l 0 = hd (Ls.getD l []) (-1)
  back : ∀ l, l < Ls.length → E l 1 = lst (-1) (Ls.getD l [])
  many : ∀ l, l < Ls.length → E l 2 = (Ls.getD l []).length
  all : ∀ b, b < 64 → A b 0 = -1 ∨ ∃ l, l < Ls.length ∧ A b 0 = l ∧ b ∈ Ls.getD l []

section
variable {A E : Nat → Nat → Int} {Ls : List (List Nat)}
theorem Lay.mem (h : Lay A E Ls) {l b : Nat} (hl : l < Ls.length) (hb : b ∈ Ls.getD l []) : b < 64 ∧ A b 0 = l := seg_lt (h.seg l hl) b hb
/-- a block is in one list at most -/
theorem Lay.one (h : Lay A E Ls) {l k b : Nat} (hl : l < Ls.length) (hk : k < Ls.length) (h1 : b ∈ Ls.getD l []) (h2 : b ∈ Ls.getD k []) : l = k := by
  have e1 := (h.mem hl h1).2
  have e2 := (h.mem hk h2).2
  rw [e1] at e2; omega
theorem Lay.not (h : Lay A E Ls) {l b : Nat} (hl : l < Ls.length) (hb : A b 0 = -1) : b ∉ Ls.getD l [] := fun hm => by
  have := (h.mem hl hm).2; omega
/-- no list has more than 64 blocks -/
theorem Lay.len (h : Lay A E Ls) {l : Nat} (hl : l < Ls.length) : (Ls.getD l []).length ≤ 64 := by
  have h1 : (Ls.getD l []).Subset (List.range 64) := fun b hb => List.mem_range.2 (h.mem hl hb).1
  have := (h.nodup l hl).length_le_of_subset h1
  simpa using this
end

theorem getD_set {Ls : List (List Nat)} {l k : Nat} {L : List Nat} (hl : l < Ls.length) : (Ls.set l L).getD k [] = if k = l then L else Ls.getD k [] := by
  simp only [List.getD, List.getElem?_set]
  by_cases h : l = k
  · subst h; simp [hl]
  · rw [if_neg h, if_neg (Ne.symm h)]

theorem lst_nat : ∀ (L : List Nat) (p : Int), (L = [] ∧ lst p L = p) ∨ ∃ (L0 : List Nat) (c : Nat), L = L0 ++ [c] ∧ lst p L = c := by
  intro L p
  rcases List.eq_nil_or_concat L with rfl | ⟨L0, c, rfl⟩
  · exact .inl ⟨rfl, rfl⟩
  · refine .inr ⟨L0, c, by simp, ?_⟩
    rw [List.concat_eq_append, lst_snoc]

/-- taking a block out of its list -/
theorem lay_out {A E : Nat → Nat → Int} {Ls : List (List Nat)} (h : Lay A E Ls) {l b : Nat} (hl : l < Ls.length) (hb : A b 0 = l) (hb64 : b < 64) :
    Lay (outA A b) (outE A E b) (Ls.set l ((Ls.getD l []).filter (· ≠ b))) ∧
      (A b 1 = -1 ∨ ∃ p : Nat, A b 1 = p ∧ p < 64) ∧ (A b 2 = -1 ∨ ∃ p : Nat, A b 2 = p ∧ p < 64) := by
  have hmem : b ∈ Ls.getD l [] := by
    rcases h.all b hb64 with h1 | ⟨k, hk, h1, h2⟩
    · omega
    · obtain rfl : k = l := by omega
      exact h2
  obtain ⟨L1, L2, hL⟩ := List.append_of_mem hmem
  have hseg := h.seg l hl
  have hnd := h.nodup l hl
  have hfr := h.front l hl
  have hbk := h.back l hl
  have hmn := h.many l hl
  rw [hL] at hseg hnd hfr hbk hmn
  have hn1 : b ∉ L1 := by
    intro hm
    rw [List.nodup_append] at hnd
    exact hnd.2.2 b hm b (by simp) rfl
  have hn2 : b ∉ L2 := by
    rw [List.nodup_append] at hnd
    exact (List.nodup_cons.1 hnd.2.1).1
  have hnd1 : L1.Nodup := (List.nodup_append.1 hnd).1
  have hnd2 : L2.Nodup := (List.nodup_cons.1 (List.nodup_append.1 hnd).2.1).2
  have hdis : ∀ x ∈ L1, x ∉ L2 := fun x hx hx2 => (List.nodup_append.1 hnd).2.2 x hx x (by simp [hx2]) rfl
  rw [seg_append] at hseg
  obtain ⟨s1, sb, _, hA1, hA2, s2⟩ := hseg
  simp only [hd] at s1
  have hfil : (Ls.getD l []).filter (· ≠ b) = L1 ++ L2 := by
    rw [hL, List.filter_append, List.filter_cons]
    simp only [ne_eq, not_true_eq_false, decide_false, Bool.false_eq_true, if_false]
    rw [List.filter_eq_self.2 (fun x hx => by simp; rintro rfl; exact hn1 hx), List.filter_eq_self.2 (fun x hx => by simp; rintro rfl; exact hn2 hx)]
  rw [hfil]
  have hother : ∀ k, k < Ls.length → k ≠ l → ∀ x ∈ Ls.getD k [], x ≠ b ∧ x ∉ L1 ∧ x ∉ L2 := by
    intro k hk hkl x hx
    have e := (h.mem hk hx).2
    refine ⟨fun e2 => by subst e2; omega, fun hx1 => ?_, fun hx2 => ?_⟩
    · have := (h.mem hl (show x ∈ Ls.getD l [] by rw [hL]; simp [hx1])).2; omega
    · have := (h.mem hl (show x ∈ Ls.getD l [] by rw [hL]; simp [hx2])).2; omega
  have hl0 : (A b 0).toNat = l := by omega
  -- the four cases: is there one ahead, is there one behind?
  have key : Seg (outA A b) l (-1) L1 (hd L2 (-1)) ∧ Seg (outA A b) l (lst (-1) L1) L2 (-1) ∧
      (∀ x, x ≠ b → x ∉ L1 → x ∉ L2 → ∀ f, outA A b x f = A x f) ∧ (∀ x, x ≠ b → outA A b x 0 = A x 0) ∧ outA A b b 0 = -1 ∧
      outE A E b l 0 = hd (L1 ++ L2) (-1) ∧ outE A E b l 1 = lst (-1) (L1 ++ L2) ∧ outE A E b l 2 = E l 2 - 1 ∧ (∀ k, k ≠ l → ∀ f, outE A E b k f = E k f) ∧
      (A b 1 = -1 ∨ ∃ p : Nat, A b 1 = p ∧ p < 64) ∧ (A b 2 = -1 ∨ ∃ p : Nat, A b 2 = p ∧ p < 64) := by
    rcases lst_nat L1 (-1) with ⟨rfl, e1⟩ | ⟨L0, c, rfl, e1⟩
    · rw [e1] at hA1
      cases L2 with
      | nil =>
        simp only [hd] at hA2
        have eA : outA A b = upd A b 0 (-1) := by simp [outA, hA1, hA2]
        have eE : outE A E b = upd (upd (upd E l 0 (-1)) l 1 (-1)) l 2 (E l 2 - 1) := by simp [outE, hA1, hA2, hl0]
        rw [eA, eE]
        refine ⟨trivial, trivial, fun x hx _ _ f => upd_other A b 0 _ (.inl hx), fun x hx => upd_other A b 0 _ (.inl hx), upd_same A b 0 _, ?_, ?_, ?_, ?_, .inl hA1, .inl hA2⟩
        · simp [upd, hd]
        · simp [upd, lst]
        · simp [upd]
        · intro k hk f; simp [upd, hk]
      | cons d t =>
        simp only [hd] at hA2
        have hd64 := (seg_lt s2 d (by simp)).1
        have hdn : (d : Int) ≠ -1 := by omega
        have hdb : d ≠ b := fun e => hn2 (by simp [e])
        have eA : outA A b = upd (upd A d 1 (-1)) b 0 (-1) := by simp [outA, hA1, hA2, hdn]
        have eE : outE A E b = upd (upd E l 0 d) l 2 (E l 2 - 1) := by simp [outE, hA1, hA2, hl0, hdn]
        rw [eA, eE]
        refine ⟨trivial, ?_, ?_, ?_, upd_same _ b 0 _, ?_, ?_, ?_, ?_, .inl hA1, .inr ⟨d, hA2, hd64⟩⟩
        · rw [e1]; exact seg_frame (seg_prev s2 (List.nodup_cons.1 hnd2).1) hn2
        · intro x hx _ h2 f
          rw [upd_other _ b 0 _ (.inl hx), upd_other _ d 1 _ (.inl (fun e => h2 (by simp [e])))]
        · intro x hx
          rw [upd_other _ b 0 _ (.inl hx), upd_other _ d 1 _ (.inr (by omega))]
        · simp [upd, hd]
        · simp only [List.nil_append, lst] at hbk ⊢
          simp [upd, hbk]
        · simp [upd]
        · intro k hk f; simp [upd, hk]
    · rw [e1] at hA1
      have hc64 := (seg_lt s1 c (by simp)).1
      have hcn : (c : Int) ≠ -1 := by omega
      have hcb : c ≠ b := fun e => hn1 (by simp [e])
      have hc0 : c ∉ L0 := by
        rw [List.nodup_append] at hnd1
        exact fun hm => hnd1.2.2 c hm c (by simp) rfl
      cases L2 with
      | nil =>
        simp only [hd] at hA2
        have eA : outA A b = upd (upd A c 2 (-1)) b 0 (-1) := by simp [outA, hA1, hA2, hcn]
        have eE : outE A E b = upd (upd E l 1 c) l 2 (E l 2 - 1) := by simp [outE, hA1, hA2, hl0, hcn]
        rw [eA, eE]
        refine ⟨?_, trivial, ?_, ?_, upd_same _ b 0 _, ?_, ?_, ?_, ?_, .inr ⟨c, hA1, hc64⟩, .inl hA2⟩
        · exact seg_frame (seg_next (p := -1) s1 hc0) hn1
        · intro x hx h1 _ f
          rw [upd_other _ b 0 _ (.inl hx), upd_other _ c 2 _ (.inl (fun e => h1 (by simp [e])))]
        · intro x hx
          rw [upd_other _ b 0 _ (.inl hx), upd_other _ c 2 _ (.inr (by omega))]
        · rw [List.append_nil]
          have : E l 0 = hd (L0 ++ [c]) (-1) := by rw [hfr, hd_append (L0 ++ [c])]; cases L0 <;> rfl
          simp [upd, this]
        · rw [List.append_nil, lst_snoc]; simp [upd]
        · simp [upd]
        · intro k hk f; simp [upd, hk]
      | cons d t =>
        simp only [hd] at hA2
        have hd64 := (seg_lt s2 d (by simp)).1
        have hdn : (d : Int) ≠ -1 := by omega
        have hdb : d ≠ b := fun e => hn2 (by simp [e])
        have hdc : d ≠ c := fun e => hdis c (by simp) (by simp [e])
        have eA : outA A b = upd (upd (upd A c 2 d) d 1 c) b 0 (-1) := by simp [outA, hA1, hA2, hcn, hdn]
        have eE : outE A E b = upd E l 2 (E l 2 - 1) := by simp [outE, hA1, hA2, hl0, hcn, hdn]
        rw [eA, eE]
        refine ⟨?_, ?_, ?_, ?_, upd_same _ b 0 _, ?_, ?_, ?_, ?_, .inr ⟨c, hA1, hc64⟩, .inr ⟨d, hA2, hd64⟩⟩
        · refine seg_frame (seg_frame (seg_next (p := -1) s1 hc0) (fun hm => hdis d hm (by simp))) hn1
        · rw [e1]
          refine seg_frame (seg_prev (p := b) (seg_frame s2 (fun hm => hdis c (by simp) hm)) (List.nodup_cons.1 hnd2).1) hn2
        · intro x hx h1 h2 f
          rw [upd_other _ b 0 _ (.inl hx), upd_other _ d 1 _ (.inl (fun e => h2 (by simp [e]))), upd_other _ c 2 _ (.inl (fun e => h1 (by simp [e])))]
        · intro x hx
          rw [upd_other _ b 0 _ (.inl hx), upd_other _ d 1 _ (.inr (by omega)), upd_other _ c 2 _ (.inr (by omega))]
        · have : E l 0 = hd (L0 ++ [c] ++ d :: t) (-1) := by rw [hfr]; cases L0 <;> rfl
          simp only [upd]; rw [if_neg (by omega)]; exact this
        · have : E l 1 = lst (-1) (L0 ++ [c] ++ d :: t) := by rw [hbk, lst_append, lst_append (L0 ++ [c])]; rfl
          simp only [upd]; rw [if_neg (by omega)]; exact this
        · simp [upd]
        · intro k hk f; simp [upd, hk]
  obtain ⟨k1, k2, k3, k4, k5, k6, k7, k8, k9, k10, k11⟩ := key
  refine ⟨⟨?_, ?_, ?_, ?_, ?_, ?_⟩, k10, k11⟩
  · intro k hk
    rw [List.length_set] at hk
    rw [getD_set hl]
    by_cases e : k = l
    · subst e; rw [if_pos rfl, seg_append]; exact ⟨k1, k2⟩
    · rw [if_neg e]
      have ho := hother k hk e
      have hs := h.seg k hk
      revert hs ho
      generalize Ls.getD k [] = L
      generalize (-1 : Int) = p
      have : ∀ (L : List Nat) (p q : Int), (∀ x ∈ L, x ≠ b ∧ x ∉ L1 ∧ x ∉ L2) → Seg A k p L q → Seg (outA A b) k p L q := by
        intro L
        induction L with
        | nil => intros; trivial
        | cons c t ih =>
          intro p q ho hs
          obtain ⟨o1, o2, o3⟩ := ho c (by simp)
          obtain ⟨h1, h2, h3, h4, h5⟩ := hs
          have e := k3 c o1 o2 o3
          exact ⟨h1, by rw [e]; exact h2, by rw [e]; exact h3, by rw [e]; exact h4, ih _ _ (fun x hx => ho x (by simp [hx])) h5⟩
      exact fun ho hs => this L p p ho hs
  · intro k hk
    rw [List.length_set] at hk
    rw [getD_set hl]
    by_cases e : k = l
    · rw [if_pos e, List.nodup_append]
      exact ⟨hnd1, hnd2, fun x hx y hy e => by subst e; exact hdis x hx hy⟩
    · rw [if_neg e]; exact h.nodup k hk
  · intro k hk
    rw [List.length_set] at hk
    rw [getD_set hl]
    by_cases e : k = l
    · subst e; rw [if_pos rfl]; exact k6
    · rw [if_neg e, k9 k e]; exact h.front k hk
  · intro k hk
    rw [List.length_set] at hk
    rw [getD_set hl]
    by_cases e : k = l
    · subst e; rw [if_pos rfl]; exact k7
    · rw [if_neg e, k9 k e]; exact h.back k hk
  · intro k hk
    rw [List.length_set] at hk
    rw [getD_set hl]
    by_cases e : k = l
    · subst e; rw [if_pos rfl, k8, hmn]; simp; omega
    · rw [if_neg e, k9 k e]; exact h.many k hk
  · intro x hx
    by_cases e : x = b
    · subst e; exact .inl k5
    · rw [k4 x e]
      rcases h.all x hx with h1 | ⟨k, hk, h1, h2⟩
      · exact .inl h1
      · refine .inr ⟨k, by rw [List.length_set]; exact hk, h1, ?_⟩
        rw [getD_set hl]
        by_cases e2 : k = l
        · subst e2; rw [if_pos rfl]; rw [hL] at h2
          simp only [List.mem_append, List.mem_cons] at h2 ⊢
          rcases h2 with h2 | h2 | h2
          · exact .inl h2
          · exact absurd h2 e
          · exact .inr h2
        · rw [if_neg e2]; exact h2
end Go.Proofs.Ytpmfadepinmmjaa
