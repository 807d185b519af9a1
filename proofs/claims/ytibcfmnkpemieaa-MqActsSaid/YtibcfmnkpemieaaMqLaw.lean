/-
  Queues by how often a block was used: what an add keeps. No program in sight.
-/
import Derived.Test.YtibcfmnkpemieaaMqWakes
namespace Go.Proofs.Ytibcfmnkpemieaa
open Go.RowKit

/-- no block stands twice -/
structure Good (Ls : List (List Nat)) : Prop where
  nodup : ∀ q, (Ls.getD q []).Nodup
  one : ∀ i j b, b ∈ Ls.getD i [] → b ∈ Ls.getD j [] → i = j
theorem getD_out (Ls : List (List Nat)) (b k : Nat) : (outL Ls b).getD k [] = (Ls.getD k []).filter (· ≠ b) := getD_map_filter Ls b k
theorem getD_front {Ls : List (List Nat)} {l : Nat} (hl : l < Ls.length) (b k : Nat) : (frontL Ls l b).getD k [] = if k = l then b :: (Ls.getD l []).filter (· ≠ b) else (Ls.getD k []).filter (· ≠ b) := by
  unfold frontL
  rw [getD_set (by rw [outL_length]; exact hl)]
  split
  · rw [getD_out]
  · rw [getD_out]
theorem Good.out {Ls : List (List Nat)} (h : Good Ls) (b : Nat) : Good (outL Ls b) := by
  refine ⟨fun q => ?_, fun i j x h1 h2 => ?_⟩
  · rw [getD_out]; exact (h.nodup q).filter _
  · rw [getD_out] at h1 h2
    exact h.one i j x (List.mem_filter.1 h1).1 (List.mem_filter.1 h2).1
theorem mem_front {Ls : List (List Nat)} {l b k x : Nat} (hl : l < Ls.length) : x ∈ (frontL Ls l b).getD k [] ↔ (x = b ∧ k = l) ∨ (x ≠ b ∧ x ∈ Ls.getD k []) := by
  rw [getD_front hl]
  by_cases hk : k = l
  · subst hk
    rw [if_pos rfl]
    by_cases hx : x = b
    · subst hx; simp
    · simp [hx]
  · rw [if_neg hk]
    by_cases hx : x = b
    · subst hx; simp [hk]
    · simp [hx]
theorem mem_out {Ls : List (List Nat)} {b k x : Nat} : x ∈ (outL Ls b).getD k [] ↔ x ≠ b ∧ x ∈ Ls.getD k [] := by
  rw [getD_out]
  simp
  exact ⟨fun h => ⟨h.2, h.1⟩, fun h => ⟨h.2, h.1⟩⟩
theorem Good.front {Ls : List (List Nat)} (h : Good Ls) {l : Nat} (hl : l < Ls.length) (b : Nat) : Good (frontL Ls l b) := by
  refine ⟨fun q => ?_, fun i j x h1 h2 => ?_⟩
  · rw [getD_front hl]
    split
    · rw [List.nodup_cons]
      exact ⟨by simp, (h.nodup l).filter _⟩
    · exact (h.nodup q).filter _
  · rcases (mem_front hl).1 h1 with ⟨rfl, rfl⟩ | ⟨n1, m1⟩
    · rcases (mem_front hl).1 h2 with ⟨_, rfl⟩ | ⟨n2, _⟩
      · rfl
      · exact absurd rfl n2
    · rcases (mem_front hl).1 h2 with ⟨rfl, _⟩ | ⟨_, m2⟩
      · exact absurd rfl n1
      · exact h.one i j x m1 m2
theorem sum_out {Ls : List (List Nat)} (h : Good Ls) (b : Nat) : ∀ k, ((∃ q, q < k ∧ b ∈ Ls.getD q []) → sumQ (outL Ls b) k + 1 = sumQ Ls k) ∧ ((¬ ∃ q, q < k ∧ b ∈ Ls.getD q []) → sumQ (outL Ls b) k = sumQ Ls k) := by
  intro k
  induction k with
  | zero => exact ⟨fun ⟨q, h1, _⟩ => by omega, fun _ => rfl⟩
  | succ k ih =>
    rw [sumQ, sumQ, getD_out]
    by_cases hk : b ∈ Ls.getD k []
    · have hno : ¬ ∃ q, q < k ∧ b ∈ Ls.getD q [] := fun ⟨q, h1, h2⟩ => by have := h.one q k b h2 hk; omega
      have := nodup_filter_length (h.nodup k) hk
      have := ih.2 hno
      exact ⟨fun _ => by omega, fun hn => absurd ⟨k, by omega, hk⟩ hn⟩
    · have hf : (Ls.getD k []).filter (· ≠ b) = Ls.getD k [] := filter_self hk
      rw [hf]
      refine ⟨fun ⟨q, h1, h2⟩ => ?_, fun hn => ?_⟩
      · have : q ≠ k := fun e => hk (e ▸ h2)
        have := ih.1 ⟨q, by omega, h2⟩
        omega
      · have := ih.2 (fun ⟨q, h1, h2⟩ => hn ⟨q, by omega, h2⟩)
        omega
theorem sum_front {Ls : List (List Nat)} {l : Nat} (hl : l < Ls.length) (b : Nat) : ∀ k, sumQ (frontL Ls l b) k = sumQ (outL Ls b) k + (if l < k then 1 else 0) := by
  intro k
  induction k with
  | zero => simp [sumQ]
  | succ k ih =>
    rw [sumQ, sumQ, ih, getD_front hl, getD_out]
    by_cases e : k = l
    · subst e
      rw [if_pos rfl, if_neg (by omega), if_pos (by omega), List.length_cons]
      omega
    · rw [if_neg e]
      by_cases hlk : l < k
      · rw [if_pos hlk, if_pos (by omega)]; omega
      · rw [if_neg hlk, if_neg (by omega)]; omega

/-- what holds of the queues -/
structure Inq (p : Shp) (s : Mq) : Prop where
  ok : ShpOk p
  len : s.Ls.length = p.qs + 1
  good : Good s.Ls
  often : ∀ q b, q < p.qs → b ∈ s.Ls.getD q [] → 2 ^ q ≤ s.of b
  gh : (s.Ls.getD p.qs []).length ≤ p.gh
theorem inq_new {p : Shp} (ok : ShpOk p) : Inq p (newQ p) := by
  have e : ∀ q, (newQ p).Ls.getD q [] = [] := by
    intro q
    unfold newQ
    simp only [List.getD, List.getElem?_replicate]
    split <;> rfl
  refine ⟨ok, (by simp [newQ]), ⟨fun q => (by rw [e]; exact List.nodup_nil), fun i j b h1 => ?_⟩, fun q b _ hb => ?_, (by rw [e]; simp)⟩
  · rw [e] at h1; cases h1
  · rw [e] at hb; cases hb
theorem two_pow_bitLen {n : Nat} (h : 1 ≤ n) (h2 : n < 2 ^ 64) : 2 ^ (Lib.bitLen n - 1) ≤ n := by
  have key : ∀ f n, 1 ≤ n → n < 2 ^ f → 2 ^ (Lib.bitLenAux f n - 1) ≤ n := by
    intro f
    induction f with
    | zero => intro n h1 h2; omega
    | succ f ih =>
      intro n h1 h2
      rw [Lib.bitLenAux, if_neg (by omega)]
      by_cases e : n / 2 = 0
      · have : n = 1 := by omega
        subst this
        have : Lib.bitLenAux f (1 / 2) = 0 := by
          cases f with
          | zero => rfl
          | succ f => rw [Lib.bitLenAux, if_pos rfl]
        rw [this]
        simp
      · have := ih (n / 2) (by omega) (by rw [Nat.pow_succ] at h2; omega)
        have hb : 1 ≤ Lib.bitLenAux f (n / 2) := by
          cases f with
          | zero => simp at h2; omega
          | succ f => rw [Lib.bitLenAux, if_neg e]; omega
        rw [show 1 + Lib.bitLenAux f (n / 2) - 1 = (Lib.bitLenAux f (n / 2) - 1) + 1 by omega, Nat.pow_succ]
        omega
  exact key 64 n h h2

theorem Inq.place {p : Shp} {s : Mq} (h : Inq p s) {b : Nat} (h1 : 1 ≤ s.of b) (h2 : s.of b < 256) : Inq p (placeQ p s b) := by
  have hq : qOf p (s.of b) < p.qs := by unfold qOf; have := h.ok.q1; omega
  have hl : qOf p (s.of b) < s.Ls.length := by rw [h.len]; omega
  refine ⟨h.ok, (frontL_length _ _ _).trans h.len, h.good.front hl b, fun q x hq1 hx => ?_, ?_⟩
  · rcases (mem_front hl).1 hx with ⟨rfl, rfl⟩ | ⟨_, hm⟩
    · refine Nat.le_trans (Nat.pow_le_pow_right (by omega) (show qOf p (s.of x) ≤ Lib.bitLen (s.of x) - 1 by unfold qOf; omega)) ?_
      exact two_pow_bitLen h1 (by omega)
    · exact h.often q x hq1 hm
  · show ((frontL s.Ls (qOf p (s.of b)) b).getD p.qs []).length ≤ p.gh
    rw [getD_front hl, if_neg (by omega)]
    exact Nat.le_trans (List.length_filter_le _ _) h.gh
theorem Inq.step {p : Shp} {s : Mq} (h : Inq p s) {q : Nat} (q1 : 1 ≤ q) (hq : q < p.qs) : Inq p (ageStep p s q) := by
  unfold ageStep
  split
  · rename_i hc
    have hl : q - 1 < s.Ls.length := by rw [h.len]; omega
    have hb : lastQ s q ∈ s.Ls.getD q [] := lastU_mem hc.1
    refine ⟨h.ok, (frontL_length _ _ _).trans h.len, h.good.front hl _, fun k x hk hx => ?_, ?_⟩
    · rcases (mem_front hl).1 hx with ⟨rfl, rfl⟩ | ⟨_, hm⟩
      · exact Nat.le_trans (Nat.pow_le_pow_right (by omega) (by omega)) (h.often q _ hq hb)
      · exact h.often k x hk hm
    · show ((frontL s.Ls (q - 1) (lastQ s q)).getD p.qs []).length ≤ p.gh
      rw [getD_front hl, if_neg (by omega)]
      exact Nat.le_trans (List.length_filter_le _ _) h.gh
  · exact h
theorem Inq.age {p : Shp} : ∀ (k q : Nat) {s : Mq}, Inq p s → 1 ≤ q → q + k ≤ p.qs → Inq p (ageQ p k q s) := by
  intro k
  induction k with
  | zero => intro q s h _ _; exact h
  | succ k ih => intro q s h q1 hq; exact ih (q + 1) (h.step q1 (by omega)) (by omega) (by omega)
theorem sum_step {p : Shp} {s : Mq} (h : Inq p s) {q : Nat} (q1 : 1 ≤ q) (hq : q < p.qs) : lenQ p (ageStep p s q) = lenQ p s := by
  unfold ageStep
  split
  · rename_i hc
    have hl : q - 1 < s.Ls.length := by rw [h.len]; omega
    have hb : lastQ s q ∈ s.Ls.getD q [] := lastU_mem hc.1
    show sumQ (frontL s.Ls (q - 1) (lastQ s q)) p.qs = sumQ s.Ls p.qs
    rw [sum_front hl, if_pos (by omega)]
    exact (sum_out h.good _ p.qs).1 ⟨q, hq, hb⟩
  · rfl
theorem sum_age {p : Shp} : ∀ (k q : Nat) {s : Mq}, Inq p s → 1 ≤ q → q + k ≤ p.qs → lenQ p (ageQ p k q s) = lenQ p s := by
  intro k
  induction k with
  | zero => intro q s _ _ _; rfl
  | succ k ih => intro q s h q1 hq; exact (ih (q + 1) (h.step q1 (by omega)) (by omega) (by omega)).trans (sum_step h q1 (by omega))
theorem has_mem {p : Shp} {s : Mq} (h : Inq p s) {b : Nat} : hasQ p s b = true ↔ ∃ q, q < p.qs ∧ b ∈ s.Ls.getD q [] := by
  unfold hasQ
  constructor
  · intro hh
    cases hl : ofL s.Ls b with
    | none => rw [hl] at hh; cases hh
    | some l =>
      rw [hl] at hh
      unfold ofL at hl
      rw [List.find?_range_eq_some] at hl
      exact ⟨l, by simpa using hh, by simpa using hl.1⟩
  · rintro ⟨q, hq, hb⟩
    cases hl : ofL s.Ls b with
    | none =>
      unfold ofL at hl
      rw [List.find?_range_eq_none] at hl
      have := hl q (by rw [h.len]; omega)
      simp only [Bool.not_eq_true', decide_eq_false_iff_not] at this
      exact absurd hb this
    | some l =>
      unfold ofL at hl
      rw [List.find?_range_eq_some] at hl
      have := h.good.one l q b (by simpa using hl.1) hb
      subst this
      simpa using hq
theorem of_none_mem {s : Mq} {b : Nat} (h : ofL s.Ls b = none) : ∀ q, b ∉ s.Ls.getD q [] := by
  intro q hm
  unfold ofL at h
  rw [List.find?_range_eq_none] at h
  by_cases hq : q < s.Ls.length
  · have := h q hq
    simp only [Bool.not_eq_true', decide_eq_false_iff_not] at this
    exact this hm
  · rw [getD_nil_of_le (by omega)] at hm; cases hm
theorem Inq.tick {p : Shp} {s : Mq} (h : Inq p s) : Inq p (tickQ s) := ⟨h.ok, h.len, h.good, h.often, h.gh⟩
theorem Inq.more {p : Shp} {s : Mq} (h : Inq p s) (b : Nat) : Inq p (oftenQ s b) := by
  refine ⟨h.ok, h.len, h.good, fun q x hq hx => ?_, h.gh⟩
  have := h.often q x hq hx
  show 2 ^ q ≤ updN s.of b (s.of b + 1) x
  unfold updN
  split
  · rename_i e; subst e; omega
  · exact this
theorem Inq.fresh {p : Shp} {s : Mq} (h : Inq p s) (b : Nat) : Inq p (freshQ s b) := by
  unfold freshQ
  split
  · rename_i hn
    refine ⟨h.ok, h.len, h.good, fun q x hq hx => ?_, h.gh⟩
    have : x ≠ b := fun e => of_none_mem hn q (e ▸ hx)
    show 2 ^ q ≤ updN s.of b 0 x
    rw [updN_other _ _ this]
    exact h.often q x hq hx
  · exact h
theorem firstQ_ne {p : Shp} {s : Mq} (h : 0 < lenQ p s) : firstQ p.qs 0 s.Ls < p.qs ∧ s.Ls.getD (firstQ p.qs 0 s.Ls) [] ≠ [] := by
  have key : ∀ k q, (∃ i, q ≤ i ∧ i < q + k ∧ s.Ls.getD i [] ≠ []) → firstQ k q s.Ls < q + k ∧ s.Ls.getD (firstQ k q s.Ls) [] ≠ [] := by
    intro k
    induction k with
    | zero => intro q ⟨i, h1, h2, _⟩; omega
    | succ k ih =>
      intro q ⟨i, h1, h2, h3⟩
      unfold firstQ
      split
      · rename_i e
        have : i ≠ q := fun e2 => h3 (e2 ▸ e)
        have := ih (q + 1) ⟨i, by omega, by omega, h3⟩
        exact ⟨by omega, this.2⟩
      · rename_i e
        exact ⟨by omega, e⟩
  obtain ⟨q, h1, h2⟩ := sumQ_pos h
  have := key p.qs 0 ⟨q, by omega, by omega, h2⟩
  exact ⟨by omega, this.2⟩
theorem Inq.room {p : Shp} {s : Mq} (h : Inq p s) : Inq p (roomQ p s) ∧ (lenQ p s ≤ p.cap → lenQ p (roomQ p s) + 1 ≤ p.cap) := by
  unfold roomQ
  split
  · rename_i hc
    have hc1 := h.ok.c1
    obtain ⟨hf, hne⟩ := firstQ_ne (p := p) (s := s) (by omega)
    have hv : victimQ p s ∈ s.Ls.getD (firstQ p.qs 0 s.Ls) [] := lastU_mem hne
    obtain ⟨q, hq⟩ : ∃ q, firstQ p.qs 0 s.Ls = q := ⟨_, rfl⟩
    rw [hq] at hf hv
    obtain ⟨b, hb⟩ : ∃ b, victimQ p s = b := ⟨_, rfl⟩
    rw [hb] at hv
    have hl : p.qs < s.Ls.length := by rw [h.len]; omega
    have hg := h.good.front hl b
    have hsum : sumQ (frontL s.Ls p.qs b) p.qs + 1 = sumQ s.Ls p.qs := by
      rw [sum_front hl, if_neg (by omega)]
      exact (sum_out h.good b p.qs).1 ⟨q, hf, hv⟩
    have hof : ∀ k x, k < p.qs → x ∈ (frontL s.Ls p.qs b).getD k [] → 2 ^ k ≤ s.of x := by
      intro k x hk hx
      rcases (mem_front hl).1 hx with ⟨_, e⟩ | ⟨_, hm⟩
      · omega
      · exact h.often k x hk hm
    have hbg : b ∉ s.Ls.getD p.qs [] := fun hm => by have := h.good.one _ _ _ hv hm; omega
    have hglen : ((frontL s.Ls p.qs b).getD p.qs []).length = (s.Ls.getD p.qs []).length + 1 := by
      rw [getD_front hl, if_pos rfl, List.length_cons, filter_self hbg]
    have hgh := h.gh
    unfold evictQ
    rw [hb]
    split
    · rename_i hgt
      have hne2 : (frontL s.Ls p.qs b).getD p.qs [] ≠ [] := by intro e; rw [e] at hgt; simp at hgt
      obtain ⟨g, hg9⟩ : ∃ g, lastU ((frontL s.Ls p.qs b).getD p.qs []) = g := ⟨_, rfl⟩
      have hgm := lastU_mem hne2
      rw [hg9] at hgm ⊢
      refine ⟨⟨h.ok, by show (outL _ _).length = _; rw [outL_length, frontL_length]; exact h.len, hg.out g, fun k x hk hx => hof k x hk (mem_out.1 hx).2, ?_⟩, fun _ => ?_⟩
      · show ((outL (frontL s.Ls p.qs b) g).getD p.qs []).length ≤ p.gh
        rw [getD_out]
        have := nodup_filter_length (hg.nodup p.qs) hgm
        omega
      · show sumQ (outL (frontL s.Ls p.qs b) g) p.qs + 1 ≤ p.cap
        have hno : ¬ ∃ k, k < p.qs ∧ g ∈ (frontL s.Ls p.qs b).getD k [] := fun ⟨k, h1, h2⟩ => by have := hg.one _ _ _ h2 hgm; omega
        rw [(sum_out hg g p.qs).2 hno]
        unfold lenQ at hc
        omega
    · refine ⟨⟨h.ok, by show (frontL _ _ _).length = _; rw [frontL_length]; exact h.len, hg, hof, by show ((frontL s.Ls p.qs b).getD p.qs []).length ≤ p.gh; omega⟩, fun _ => ?_⟩
      show sumQ (frontL s.Ls p.qs b) p.qs + 1 ≤ p.cap
      unfold lenQ at hc
      omega
  · rename_i hc
    exact ⟨h, fun _ => by omega⟩
/-- an add keeps the queues right, and their number of blocks within the capacity -/
theorem Inq.add {p : Shp} {s : Mq} (h : Inq p s) {b k : Nat} (hk : Small k s) (hk2 : k < 255) (hc : lenQ p s ≤ p.cap) : Inq p (addQ p s b) ∧ lenQ p (addQ p s b) ≤ p.cap := by
  have hq1 := h.ok.q1
  unfold addQ
  split
  · rename_i hh
    unfold useQ
    rw [if_pos hh]
    have h1 := (h.tick.more b)
    have e1 : (oftenQ (tickQ s) b).of b = s.of b + 1 := by show updN s.of b (s.of b + 1) b = _; rw [updN_same]
    have h2 := h1.place (b := b) (by rw [e1]; omega) (by rw [e1]; have := hk.2 b; omega)
    refine ⟨h2.age _ 1 (by omega) (by omega), ?_⟩
    rw [sum_age _ 1 h2 (by omega) (by omega)]
    have hq : qOf p ((oftenQ (tickQ s) b).of b) < p.qs := by unfold qOf; omega
    show sumQ (frontL s.Ls (qOf p ((oftenQ (tickQ s) b).of b)) b) p.qs ≤ p.cap
    rw [sum_front (by rw [h.len]; omega), if_pos hq, (sum_out h.good b p.qs).1 ((has_mem h).1 hh)]
    exact hc
  · rename_i hh
    obtain ⟨h1, h1c⟩ := h.tick.room
    have h2 := (h1.fresh b)
    have h3 := h2.more b
    obtain ⟨r1, r2⟩ := room_keeps p (tickQ s)
    obtain ⟨S, hS⟩ : ∃ S, freshQ (roomQ p (tickQ s)) b = S := ⟨_, rfl⟩
    have hSof : S.of b ≤ k := by
      rw [← hS]
      unfold freshQ
      split
      · show updN _ b 0 b ≤ k; rw [updN_same]; omega
      · rw [r2]; exact hk.2 b
    have hSL : S.Ls = (roomQ p (tickQ s)).Ls := by rw [← hS]; unfold freshQ; split <;> rfl
    rw [hS] at h2 h3 ⊢
    have e1 : (oftenQ S b).of b = S.of b + 1 := by show updN S.of b (S.of b + 1) b = _; rw [updN_same]
    have h4 := h3.place (b := b) (by rw [e1]; omega) (by rw [e1]; omega)
    refine ⟨h4.age _ 1 (by omega) (by omega), ?_⟩
    rw [sum_age _ 1 h4 (by omega) (by omega)]
    have hq : qOf p ((oftenQ S b).of b) < p.qs := by unfold qOf; omega
    show sumQ (frontL S.Ls (qOf p ((oftenQ S b).of b)) b) p.qs ≤ p.cap
    rw [sum_front (by rw [h2.len]; omega), if_pos hq, hSL]
    have hle := h1c hc
    unfold lenQ at hle
    have h5 := sum_out h1.good b p.qs
    by_cases e : ∃ q, q < p.qs ∧ b ∈ (roomQ p (tickQ s)).Ls.getD q []
    · have := h5.1 e; omega
    · have := h5.2 e; omega
end Go.Proofs.Ytibcfmnkpemieaa
