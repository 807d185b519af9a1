/-
  part.Cache.Add and Remove, whatever block; how many of a range's blocks there are. No condition but that the cache lies in memory.
-/
import Derived.Test.YtpmfadepinmmjaaPWakes
namespace Go.Proofs.Ytpmfadepinmmjaa
open Go.RowKit

instance decHIn (F : Nat → Nat → Int) (i : Nat) (b : Int) : Decidable (HIn F i b) := by unfold HIn; infer_instance
/-- the lists behind an act on a block: those of other ranges are as they were -/
def Apart (is : Bool) (x : Nat) (Ls Ls' : List (List Nat)) : Prop := ∃ L', Ls' = if is = true then Ls.set x L' else Ls
section
variable {n : Nat} {F : Nat → Nat → Int} {R : Nat → Nat} {Ls : List (List Nat)} {m : Int}
/-- how many are of a range -/
def cntR (F : Nat → Nat → Int) (r : Nat) (l : List Nat) : Nat := l.countP (fun b => decide (HIn F r (b : Nat)))
theorem cnt_flat (h : PartOk n F R Ls) (ok : HsOk n F m) {r : Nat} (hr : r < n) : ∀ k, k ≤ n → cntR F r (flatP Ls k) = if r < k then (Ls.getD r []).length else 0
  | 0, _ => by rw [if_neg (by omega)]; rfl
  | k + 1, hk => by
    have ih := cnt_flat h ok hr k (by omega)
    unfold cntR at ih ⊢
    rw [flatP, List.countP_append, ih]
    by_cases e : r = k
    · subst e
      rw [if_neg (by omega), if_pos (by omega), Nat.zero_add, List.countP_eq_length]
      intro b hb
      exact decide_eq_true (h.mem r hr b hb)
    · have hz : (Ls.getD k []).countP (fun b => decide (HIn F r (b : Nat))) = 0 := by
        rw [List.countP_eq_zero]
        intro b hb
        simp only [decide_eq_true_eq]
        intro hin
        exact e (ok.one hr (by omega) hin (h.mem k (by omega) b hb))
      rw [hz]
      by_cases e2 : r < k
      · rw [if_pos e2, if_pos (by omega)]; rfl
      · rw [if_neg e2, if_neg (by omega)]
theorem cnt_le (h : PartOk n F R Ls) (ok : HsOk n F m) {r : Nat} (hr : r < n) (j : Nat) : cntR F r ((flatP Ls n).take j) ≤ R r := by
  have h1 : cntR F r ((flatP Ls n).take j) ≤ cntR F r (flatP Ls n) := (List.take_sublist j _).countP_le
  rw [cnt_flat h ok hr n (Nat.le_refl _), if_pos hr] at h1
  exact Nat.le_trans h1 (h.few r hr)
theorem flat_mem (h : PartOk n F R Ls) {b : Nat} : ∀ k, k ≤ n → b ∈ flatP Ls k → ∃ r, r < n ∧ b ∈ Ls.getD r []
  | 0, _, hb => by cases hb
  | k + 1, hk, hb => by
    rw [flatP] at hb
    rcases List.mem_append.1 hb with hb | hb
    · exact flat_mem h k (by omega) hb
    · exact ⟨k, by omega, hb⟩
theorem flat_at (h : PartOk n F R Ls) {j : Nat} (hj : j < (flatP Ls n).length) : ∃ r, r < n ∧ (flatP Ls n).getD j 0 ∈ Ls.getD r [] ∧ HIn F r ((flatP Ls n).getD j 0 : Nat) ∧ 1 ≤ R r := by
  have hm : (flatP Ls n).getD j 0 ∈ flatP Ls n := by rw [List.getD_eq_getElem?_getD, List.getElem?_eq_getElem hj]; exact List.getElem_mem _
  obtain ⟨r, hr, hb⟩ := flat_mem h n (Nat.le_refl _) hm
  have := h.few r hr
  have := List.length_pos_of_mem hb
  exact ⟨r, hr, hb, h.mem r hr _ hb, by omega⟩
theorem flat_length (Ls : List (List Nat)) : ∀ k, (flatP Ls k).length = sumN (fun r => (Ls.getD r []).length) k
  | 0 => rfl
  | k + 1 => by rw [flatP, List.length_append, flat_length Ls k, sumN]
theorem sumN_mono' {f g : Nat → Nat} (n : Nat) (h : ∀ i, i < n → f i ≤ g i) : sumN f n ≤ sumN g n := by
  induction n with
  | zero => exact Nat.le_refl _
  | succ n ih => rw [sumN, sumN]; have := ih (fun i hi => h i (by omega)); have := h n (by omega); omega
theorem cnt_next (F : Nat → Nat → Int) (r : Nat) (l : List Nat) {j : Nat} (hj : j < l.length) : cntR F r (l.take (j + 1)) = cntR F r (l.take j) + if HIn F r (l.getD j 0 : Nat) then 1 else 0 := by
  unfold cntR
  rw [List.take_succ_eq_append_getElem hj, List.countP_append, List.countP_singleton]
  have : l.getD j 0 = l[j] := by simp [List.getD, hj]
  rw [this]
  by_cases h : HIn F r (l[j] : Nat) <;> simp [h]
end
/-- is a block of another range? -/
def kpR (F : Nat → Nat → Int) (x : Nat) (b : Nat) : Bool := decide (¬ HIn F x (b : Nat))
theorem take_kp (F : Nat → Nat → Int) (x : Nat) (G : List Nat) {j : Nat} (hj : j < G.length) : (G.take (j + 1)).filter (kpR F x) = (G.take j).filter (kpR F x) ++ if kpR F x (G.getD j 0) = true then [G.getD j 0] else [] := by
  rw [List.take_succ_eq_append_getElem hj, List.filter_append, show G.getD j 0 = G[j] by simp [List.getD, hj]]
  congr 1
  cases h : kpR F x G[j] <;> simp [h]
theorem kp_flat {n : Nat} {F : Nat → Nat → Int} {R : Nat → Nat} {Ls Ls' : List (List Nat)} {is : Bool} {x : Nat} (h : PartOk n F R Ls) (h' : PartOk n F R Ls') (ha : Apart is x Ls Ls') : ∀ k, k ≤ n → (flatP Ls k).filter (kpR F x) = (flatP Ls' k).filter (kpR F x)
  | 0, _ => rfl
  | k + 1, hk => by
    have ih := kp_flat h h' ha k (by omega)
    rw [flatP, flatP, List.filter_append, List.filter_append, ih]
    congr 1
    by_cases e : k = x
    · subst e
      have z : ∀ (Ls : List (List Nat)), PartOk n F R Ls → (Ls.getD k []).filter (kpR F k) = [] := fun Ls h => by
        rw [List.filter_eq_nil_iff]
        intro b hb
        unfold kpR
        simp only [decide_eq_true_eq, Classical.not_not]
        exact h.mem k (by omega) b hb
      rw [z Ls h, z Ls' h']
    · obtain ⟨L', rfl⟩ := ha
      cases is with
      | false => rfl
      | true =>
        rw [if_pos rfl]
        by_cases hx : x < Ls.length
        · rw [getD_set hx, if_neg e]
        · rw [List.set_eq_of_length_le (by omega)]
section
variable (pc pp bs be t : Nat) (bl : Int) (c : Nat → Nat) (n : Nat) (F : Nat → Nat → Int) (L : Nat → Bool) (M : List Nat) (Ls : List (List Nat)) (w : World) (h : PartAt w pc pp bs be t bl c n F L M Ls) (b : Int) (is : Bool) (x : Nat) (hr : RngB n F b is x)
include h hr
theorem padd_any : Calls Try.prog 11 #[.pointer (some ⟨pc, 0, none⟩), .int .i64 b] w fun e w' => ∃ (v : Int) (g : Bool) (k : Int) (Ls' : List (List Nat)), e = .returned (.tuple #[.int .i64 v, .bool g, .int .i64 k]) ∧ Apart is x Ls Ls' ∧ PartAt w' pc pp bs be t bl c n F L M Ls' ∧ Chg [bs, be] w w' := by
  cases is with
  | false =>
    refine (padd_no pc pp bs be t bl c n F L M Ls w h b false x hr (by unfold partV; rw [if_neg (by simp)])).mono ?_
    rintro e w' ⟨rfl, hx⟩
    exact ⟨_, _, _, Ls, rfl, ⟨[], rfl⟩, h.ext hx, Chg.of_ext hx⟩
  | true =>
    have hb : 0 ≤ b := by
      rcases hr with ⟨a, _⟩ | ⟨_, h1, h2⟩
      · cases a
      · exact (hin_ok h.pl.ok h1 h2).1
    obtain ⟨k, rfl⟩ := Int.eq_ofNat_of_zero_le hb
    refine (padd_in pc pp bs be t bl c n F L M Ls w h k k x rfl hr _ rfl).mono ?_
    rintro e w' ⟨rfl, hp, hc⟩
    exact ⟨_, _, _, _, rfl, ⟨_, rfl⟩, hp, hc⟩
theorem premove_any : Calls Try.prog 17 #[.pointer (some ⟨pc, 0, none⟩), .int .i64 b] w fun e w' => ∃ (g : Bool) (Ls' : List (List Nat)), e = .returned (.bool g) ∧ Apart is x Ls Ls' ∧ PartAt w' pc pp bs be t bl c n F L M Ls' ∧ Chg [bs, be] w w' := by
  refine (premove pc pp bs be t bl c n F L M Ls w h b is x hr _ rfl).mono ?_
  rintro e w' ⟨rfl, hp, hc⟩
  exact ⟨_, _, rfl, ⟨_, rfl⟩, hp, hc⟩
end
end Go.Proofs.Ytpmfadepinmmjaa
