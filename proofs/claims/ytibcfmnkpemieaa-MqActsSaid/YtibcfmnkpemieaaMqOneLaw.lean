/-
  With one queue it is the plain cache. No program in sight.
-/
import Derived.Test.YtibcfmnkpemieaaMqLaw
import Derived.Test.YtibcfmnkpemieaaRefDo2
namespace Go.Proofs.Ytibcfmnkpemieaa
open Go.RowKit

section
variable {p : Shp} {s : Mq}
theorem qOf_one (q1 : p.qs = 1) (n : Nat) : qOf p n = 0 := by unfold qOf; omega
theorem age_one (q1 : p.qs = 1) (s : Mq) : ageQ p (p.qs - 1) 1 s = s := by rw [q1]; rfl
theorem len_one_q (q1 : p.qs = 1) (s : Mq) : lenQ p s = (s.Ls.getD 0 []).length := by unfold lenQ; rw [q1, sumQ, sumQ]; omega
theorem has_one (h : Inq p s) (q1 : p.qs = 1) (b : Nat) : hasQ p s b = decide (b ∈ s.Ls.getD 0 []) := by
  by_cases hb : b ∈ s.Ls.getD 0 []
  · rw [(has_mem h).2 ⟨0, by omega, hb⟩, decide_eq_true hb]
  · cases hh : hasQ p s b with
    | false => rw [decide_eq_false hb]
    | true =>
      obtain ⟨q, h1, h2⟩ := (has_mem h).1 hh
      obtain rfl : q = 0 := by omega
      exact absurd h2 hb
theorem front_zero (h : Inq p s) (b : Nat) : (frontL s.Ls 0 b).getD 0 [] = topL (s.Ls.getD 0 []) b := by
  rw [getD_front (by rw [h.len]; omega), if_pos rfl]
  unfold topL
  rw [Int.toNat_natCast]
theorem one_use (h : Inq p s) (q1 : p.qs = 1) (b : Nat) : (useQ p s b).Ls.getD 0 [] = useL (s.Ls.getD 0 []) b := by
  have e : ((b : Int) ∈ asInts (s.Ls.getD 0 [])) ↔ b ∈ s.Ls.getD 0 [] := by rw [mem_asInts, Int.toNat_natCast]; exact ⟨fun h => h.2, fun h => ⟨by omega, h⟩⟩
  unfold useQ useL
  rw [has_one h q1]
  by_cases hb : b ∈ s.Ls.getD 0 []
  · rw [decide_eq_true hb, if_pos rfl, if_pos (e.2 hb), age_one q1]
    show (frontL s.Ls (qOf p _) b).getD 0 [] = _
    rw [qOf_one q1]
    exact front_zero h b
  · rw [decide_eq_false hb, if_neg (by simp), if_neg (fun h => hb (e.1 h))]
theorem one_remove (b : Nat) : (removeQ s b).Ls.getD 0 [] = cutL (s.Ls.getD 0 []) b := by
  show (outL s.Ls b).getD 0 [] = _
  rw [getD_out]
  unfold cutL
  rw [Int.toNat_natCast]
theorem one_add (h : Inq p s) (q1 : p.qs = 1) (hc : lenQ p s ≤ p.cap) {b : Nat} (hb : b < 64) :
    (addQ p s b).Ls.getD 0 [] = addL p.cap (s.Ls.getD 0 []) b ∧ ((outQ p s b : Nat) : Int) = addV p.cap (s.Ls.getD 0 []) b ∧ goneQ p s b = addG p.cap (s.Ls.getD 0 []) b := by
  have hn := h.good.nodup 0
  have hok : okB (b : Int) := ⟨by omega, by omega⟩
  rw [len_one_q q1] at hc
  have hl := len_one_q q1 s
  have hcap := h.ok.c1
  obtain ⟨L, hL⟩ : ∃ L, s.Ls.getD 0 [] = L := ⟨_, rfl⟩
  by_cases hm : b ∈ s.Ls.getD 0 []
  · have hh : hasQ p s b = true := by rw [has_one h q1]; exact decide_eq_true hm
    have hmi : (b : Int) ∈ asInts (s.Ls.getD 0 []) := mem_asInts.2 ⟨by omega, by rw [Int.toNat_natCast]; exact hm⟩
    have htl := top_length_mem hn hmi
    have hg : goneQ p s b = false := by unfold goneQ; rw [hh]; rfl
    refine ⟨?_, ?_, ?_⟩
    · unfold addQ
      rw [if_pos hh, one_use h q1]
      unfold useL addL
      rw [if_pos hmi, if_pos hok, List.take_of_length_le (by omega)]
    · unfold outQ addV
      rw [hg, if_neg (by simp), if_neg (fun h9 => by have := h9.2; omega)]
      rfl
    · rw [hg]
      unfold addG
      symm
      simp only [decide_eq_false_iff_not]
      intro h9
      have := h9.2
      omega
  · have hh : hasQ p s b = false := by rw [has_one h q1]; exact decide_eq_false hm
    have hnb : (b : Int).toNat ∉ s.Ls.getD 0 [] := by rw [Int.toNat_natCast]; exact hm
    have htl := top_length_not (b := (b : Int)) hnb
    have htop := top_not (b := (b : Int)) hnb
    rw [Int.toNat_natCast] at htop
    have hg : goneQ p s b = decide (lenQ p s = p.cap) := by unfold goneQ; rw [hh]; simp
    -- the list behind the making of room
    have hroom : (roomQ p (tickQ s)).Ls.getD 0 [] = (s.Ls.getD 0 []).take (p.cap - 1) := by
      unfold roomQ
      by_cases hfull : lenQ p (tickQ s) = p.cap
      · rw [if_pos hfull]
        have hfull2 : (s.Ls.getD 0 []).length = p.cap := by rw [← hl]; exact hfull
        have hne : s.Ls.getD 0 [] ≠ [] := by intro e; rw [e] at hfull2; simp at hfull2; omega
        have hfq : firstQ p.qs 0 s.Ls = 0 := by rw [q1]; unfold firstQ; rw [if_neg hne]
        have hv : victimQ p (tickQ s) = lastU (s.Ls.getD 0 []) := by unfold victimQ lastQ; show lastU (s.Ls.getD (firstQ p.qs 0 s.Ls) []) = _; rw [hfq]
        have hl1 : p.qs < s.Ls.length := by rw [h.len]; omega
        have hf0 : (frontL s.Ls p.qs (lastU (s.Ls.getD 0 []))).getD 0 [] = (s.Ls.getD 0 []).take (p.cap - 1) := by
          rw [getD_front hl1, if_neg (by omega), ← hfull2]
          have := cut_last hn
          rw [(lastU_split hne).2] at this
          unfold cutL at this
          rw [Int.toNat_natCast] at this
          exact this
        unfold evictQ
        rw [hv]
        split
        · rename_i hgt
          show (outL _ _).getD 0 [] = _
          rw [getD_out]
          have hgood := h.good.front hl1 (lastU (s.Ls.getD 0 []))
          have hne2 : (frontL s.Ls p.qs (lastU (s.Ls.getD 0 []))).getD p.qs [] ≠ [] := by intro e; change p.gh < ((frontL s.Ls p.qs (lastU (s.Ls.getD 0 []))).getD p.qs []).length at hgt; rw [e] at hgt; simp at hgt
          have hgm := lastU_mem hne2
          change ((frontL s.Ls p.qs (lastU (s.Ls.getD 0 []))).getD 0 []).filter _ = _
          rw [filter_self]
          · exact hf0
          · intro hm0
            have := hgood.one _ _ _ hm0 hgm
            omega
        · exact hf0
      · rw [if_neg hfull]
        have : lenQ p (tickQ s) = (s.Ls.getD 0 []).length := hl
        show s.Ls.getD 0 [] = _
        rw [List.take_of_length_le (by omega)]
    refine ⟨?_, ?_, ?_⟩
    · unfold addQ
      rw [hh, if_neg (by simp), age_one q1]
      have hS : ∀ S : Mq, (freshQ S b).Ls = S.Ls := by intro S; unfold freshQ; split <;> rfl
      show (frontL (freshQ (roomQ p (tickQ s)) b).Ls (qOf p _) b).getD 0 [] = _
      rw [qOf_one q1, hS]
      have h1 := (h.tick.room).1
      rw [front_zero h1, hroom]
      unfold addL
      rw [if_pos hok, htop]
      have hnt : (b : Int).toNat ∉ (s.Ls.getD 0 []).take (p.cap - 1) := fun h => hnb (List.mem_of_mem_take h)
      rw [top_not hnt, Int.toNat_natCast]
      conv => rhs; rw [show p.cap = (p.cap - 1) + 1 by omega]
      rw [List.take_succ_cons]
    · unfold outQ addV
      rw [hg]
      by_cases hfull : lenQ p s = p.cap
      · have hfull2 : (s.Ls.getD 0 []).length = p.cap := by rw [← hl]; exact hfull
        have hne : s.Ls.getD 0 [] ≠ [] := by intro e; rw [e] at hfull2; simp at hfull2; omega
        have hfq : firstQ p.qs 0 s.Ls = 0 := by rw [q1]; unfold firstQ; rw [if_neg hne]
        rw [decide_eq_true hfull, if_pos rfl, if_pos ⟨hok, by omega⟩, htop]
        unfold victimQ lastQ
        rw [hfq]
        show ((lastU (s.Ls.getD 0 []) : Nat) : Int) = lst b (s.Ls.getD 0 [])
        rw [← (lastU_split hne).2]
        exact lst_default _ _ _ hne
      · rw [decide_eq_false hfull, if_neg (by simp), if_neg (fun h9 => by have := h9.2; omega)]
        rfl
    · rw [hg]
      unfold addG
      by_cases hfull : lenQ p s = p.cap
      · rw [decide_eq_true hfull]
        symm
        simp only [decide_eq_true_iff]
        exact ⟨hok, by omega⟩
      · rw [decide_eq_false hfull]
        symm
        simp only [decide_eq_false_iff_not]
        intro h9
        have := h9.2
        omega
end
end Go.Proofs.Ytibcfmnkpemieaa
