/-
  gradineref10.Place; the answer of Of and of Ahead by places. No condition but that the slice reads.
-/
import Derived.Test.YtclajmbmchaidaaAhead
import Derived.Test.YtclajmbmchaidaaRspDo
namespace Go.Proofs.Ytclajmbmchaidaa
open Go.RowKit

/-- where a block stands; -1: it doesn't -/
def plI (l : List Int) (b : Int) : Int := if b ∈ l then ((l.takeWhile (· ≠ b)).length : Int) else -1
theorem tw_at {l : List Int} {b : Int} : ∀ {k : Nat}, k < l.length → l.getD k 0 = b → (∀ j, j < k → l.getD j 0 ≠ b) → (l.takeWhile (· ≠ b)).length = k := by
  induction l with
  | nil => intro k hk; simp at hk
  | cons x t ih =>
    intro k hk he hn
    cases k with
    | zero =>
      have : x = b := by simpa [List.getD] using he
      simp [this]
    | succ k =>
      have hx : ¬ x = b := by have := hn 0 (by omega); simpa [List.getD] using this
      have := ih (k := k) (by simpa using hk) (by simpa [List.getD] using he) (fun j hj => by have := hn (j + 1) (by omega); simpa [List.getD] using this)
      simp [hx]
      simpa using this
theorem not_mem_of {l : List Int} {b : Int} (h : ∀ j, j < l.length → l.getD j 0 ≠ b) : b ∉ l := by
  intro hm
  obtain ⟨q, hq, he⟩ := List.getElem_of_mem hm
  exact h q hq (by simp [List.getD, hq, he])

theorem place_any (v : Value) (l : List Int) (b : Int) (w : World) (h : RdI .i64 w v l) :
    Calls Try.prog 28 #[v, .int .i64 b] w fun e w' => e = .returned (.int .i64 (plI l b)) ∧ Ext w w' := by
  obtain ⟨a, c, rfl, hc, hm, hnil, hs⟩ := h.parts
  have hl63 : (l.length : Int) ≤ 9223372036854775807 := by unfold maxLen at hm; omega
  obtain ⟨n, hn⟩ : ∃ n, l.length = n := ⟨_, rfl⟩
  rw [hn] at hl63 ⊢
  have HN := Lib.hid hn
  have HS := Lib.hid hs
  clear hn hs h hc hm hnil
  go_enter Try.func28, Try.ntmps28
  go_wp2_with fail
  go_loopw [5] (fun ci wr => ∃ k : Nat, k ≤ n ∧ ci = .int .i64 k ∧ (∀ j, j < k → l.getD j 0 ≠ b) ∧ Ext w wr) (fun ci _ => n - (intOf ci).toNat)
  case atStart => exact ⟨0, Nat.zero_le _, rfl, fun j hj => absurd hj (Nat.not_lt_zero _), Ext.refl _⟩
  case round =>
    obtain ⟨k, hk, rfl, hno, hx⟩ := hrel
    have HNO := Lib.hid hno
    clear hno
    by_cases hlt : k < n
    · obtain ⟨g, o, rfl, hg, hcell⟩ := HS.out (by intro h; have := HN.out; subst h; simp at this; omega)
      have e1 := (hx.cell hg).trans (hcell k (by have := HN.out; omega))
      obtain ⟨u, hu⟩ : ∃ u, l.getD k 0 = u := ⟨_, rfl⟩
      rw [hu] at e1
      have HU := Lib.hid hu
      have hki : (k : Int) < (n : Int) := by omega
      clear hcell hu
      by_cases he : u = b
      · subst he
        go_wp2_with fail
        go_ret
        refine ⟨ret_int ?_, hx⟩
        have hkl : k < l.length := by have := HN.out; omega
        unfold plI
        rw [if_pos (by rw [← HU.out]; exact getD_mem hkl), tw_at hkl HU.out HNO.out]
      · have he' : (u == b) = false := by simpa using he
        go_wp2_with fail
        go_roundw
        case rel =>
          refine ⟨k + 1, by omega, by go_num, fun t ht => ?_, hx⟩
          by_cases e : t = k
          · subst e; rw [HU.out]; exact he
          · exact HNO.out t (by omega)
        case measure => simp [intOf]; omega
    · obtain rfl : k = n := by omega
      go_wp2_with fail
      go_ret
      refine ⟨ret_int ?_, hx⟩
      unfold plI
      rw [if_neg (not_mem_of (by rw [HN.out]; exact HNO.out))]

theorem tw_as (L : List Nat) (b : Nat) : (asInts L).takeWhile (· ≠ (b : Int)) = asInts (preL L b) := by
  unfold asInts preL
  induction L with
  | nil => rfl
  | cons x t ih =>
    by_cases e : x = b
    · subst e; simp
    · have e' : ¬ (x : Int) = (b : Int) := by omega
      simp [e, e'] at ih ⊢
      exact ih
theorem pl_as {L : List Nat} {b : Nat} (h : b ∈ L) : plI (asInts L) b = ((preL L b).length : Int) := by
  unfold plI
  rw [if_pos (mem_as.2 h), tw_as, asInts_len]
/-- ahead of b just where the place is smaller -/
theorem pre_lt {L : List Nat} {a b : Nat} (ha : a ∈ L) (hb : b ∈ L) : ((preL L a).length : Int) < ((preL L b).length : Int) ↔ a ∈ preL L b := by
  induction L with
  | nil => cases ha
  | cons x t ih =>
    by_cases ea : x = a
    · subst ea
      by_cases eb : x = b
      · subst eb; simp [preL]
      · simp [preL, eb] <;> omega
    · have ha' : a ∈ t := by
        rcases List.mem_cons.1 ha with h | h
        · exact absurd h.symm ea
        · exact h
      by_cases eb : x = b
      · subst eb
        simp [preL, ea]
        omega
      · have hb' : b ∈ t := by
          rcases List.mem_cons.1 hb with h | h
          · exact absurd h.symm eb
          · exact h
        have h1 := ih ha' hb'
        have ha2 : ¬ a = x := fun h => ea h.symm
        simp [preL, ea, eb, ha2] at h1 ⊢
        exact h1

/-- the program's answer and the document's are one -/
theorem ofR_of {Ls : List (List Nat)} (h64 : ∀ i x, i < Ls.length → x ∈ Ls.getD i [] → x < 64) (b : Int) : (ofR Ls b = -1 ∧ ofI Ls b = (0, false)) ∨ ∃ k l : Nat, b = k ∧ ofL Ls k = some l ∧ ofR Ls b = l ∧ ofI Ls b = ((l : Int), true) := by
  by_cases h0 : 0 ≤ b
  · obtain ⟨k, rfl⟩ := Int.eq_ofNat_of_zero_le h0
    cases hof : ofL Ls k with
    | none =>
      refine .inl ⟨by rw [ofR_eq, hof], ?_⟩
      unfold ofI
      split
      · rw [Int.toNat_natCast, hof]
      · rfl
    | some l =>
      refine .inr ⟨k, l, rfl, hof, by rw [ofR_eq, hof], ?_⟩
      obtain ⟨h1, h2⟩ := ofL_in hof
      have := h64 l k h1 h2
      unfold ofI
      rw [if_pos ⟨by omega, by omega⟩, Int.toNat_natCast, hof]
  · refine .inl ⟨ofR_none fun j hj hm => ?_, ?_⟩
    · unfold asInts at hm
      rw [List.mem_map] at hm
      obtain ⟨x, _, rfl⟩ := hm
      omega
    · unfold ofI
      rw [if_neg (fun h => h0 h.1)]
theorem ahd_eq {Ls : List (List Nat)} {a b l : Nat} (ia : ofI Ls a = ((l : Int), true)) (ib : ofI Ls b = ((l : Int), true)) (ofa : ofL Ls a = some l) (ofb : ofL Ls b = some l) :
    ahdI Ls a b = decide (plI (asInts (Ls.getD l [])) a < plI (asInts (Ls.getD l [])) b) := by
  obtain ⟨_, ha⟩ := ofL_in ofa
  obtain ⟨_, hb⟩ := ofL_in ofb
  unfold ahdI
  rw [ia, ib, pl_as ha, pl_as hb]
  simp only [Bool.true_and, decide_true, Int.toNat_natCast]
  exact decide_eq_decide.2 (pre_lt ha hb).symm
theorem ahd_na {Ls : List (List Nat)} {a b : Int} (ia : (ofI Ls a).2 = false) : ahdI Ls a b = false := by unfold ahdI; rw [ia]; simp
theorem ahd_nb {Ls : List (List Nat)} {a b : Int} (ib : (ofI Ls b).2 = false) : ahdI Ls a b = false := by unfold ahdI; rw [ib]; simp
theorem ahd_nl {Ls : List (List Nat)} {a b : Int} (h : ¬ (ofI Ls a).1 = (ofI Ls b).1) : ahdI Ls a b = false := by unfold ahdI; simp [h]
theorem ahd_self {Ls : List (List Nat)} (a : Int) : ahdI Ls a a = false := by
  unfold ahdI preL
  have : ¬ (a.toNat ∈ (Ls.getD (ofI Ls a).1.toNat []).takeWhile (· ≠ a.toNat)) := by
    intro hm
    have := List.all_takeWhile (p := (· ≠ a.toNat)) (l := Ls.getD (ofI Ls a).1.toNat [])
    rw [List.all_eq_true] at this
    have := this _ hm
    simp at this
  simp only [decide_eq_false this, Bool.and_false]
end Go.Proofs.Ytclajmbmchaidaa
