/-
  A cache on plain lists, and as it lies in memory. No program in sight.
-/
import Derived.Test.YtpmfadepinmmjaaDo10
namespace Go.Proofs.Ytpmfadepinmmjaa
open Go.RowKit

theorem mem_asInts {L : List Nat} {b : Int} : b ∈ asInts L ↔ 0 ≤ b ∧ b.toNat ∈ L := by
  unfold asInts
  rw [List.mem_map]
  constructor
  · rintro ⟨x, hx, rfl⟩
    exact ⟨by omega, by simpa using hx⟩
  · rintro ⟨h, hx⟩
    exact ⟨_, hx, by omega⟩
theorem okL_one {L : List Nat} : okL [L] 0 := ⟨by omega, by simp⟩
theorem okL_one_iff {L : List Nat} {l : Int} : okL [L] l ↔ l = 0 := by unfold okL; simp; omega
theorem ofL_one (L : List Nat) (b : Nat) : ofL [L] b = if b ∈ L then some 0 else none := by
  unfold ofL
  by_cases h : b ∈ L <;> simp [h, List.range_succ]

/-- what is used, or added, comes first -/
def topL (L : List Nat) (b : Int) : List Nat := b.toNat :: L.filter (· ≠ b.toNat)
def cutL (L : List Nat) (b : Int) : List Nat := L.filter (· ≠ b.toNat)
def useL (L : List Nat) (b : Int) : List Nat := if b ∈ asInts L then topL L b else L
def remL (L : List Nat) (b : Int) : List Nat := if b ∈ asInts L then cutL L b else L
def addL (cap : Nat) (L : List Nat) (b : Int) : List Nat := if okB b then (topL L b).take cap else L
/-- the victim, if any -/
def addV (cap : Nat) (L : List Nat) (b : Int) : Int := if okB b ∧ cap < (topL L b).length then lst 0 (topL L b) else 0
def addG (cap : Nat) (L : List Nat) (b : Int) : Bool := decide (okB b ∧ cap < (topL L b).length)
def addE (b : Int) : Int := if okB b then 0 else 3

/-- a list that a cache holds -/
structure Held (cap : Nat) (L : List Nat) : Prop where
  nodup : L.Nodup
  lt : ∀ x ∈ L, x < 64
  len : L.length ≤ cap
theorem Held.ok {cap : Nat} {L : List Nat} (h : Held cap L) {b : Int} (hb : b ∈ asInts L) : okB b := by
  obtain ⟨h0, h1⟩ := mem_asInts.1 hb
  have := h.lt _ h1
  exact ⟨h0, by omega⟩
theorem cut_nodup {L : List Nat} (h : L.Nodup) (b : Int) : (cutL L b).Nodup := h.filter _
theorem top_nodup {L : List Nat} (h : L.Nodup) (b : Int) : (topL L b).Nodup := by
  unfold topL
  rw [List.nodup_cons]
  exact ⟨by simp, h.filter _⟩
theorem cut_self {L : List Nat} {b : Int} (h : b.toNat ∉ L) : cutL L b = L := by
  unfold cutL
  rw [List.filter_eq_self]
  intro x hx
  simp
  rintro rfl
  exact h hx
theorem nodup_filter_length {L : List Nat} {b : Nat} (h : L.Nodup) (hb : b ∈ L) : (L.filter (· ≠ b)).length + 1 = L.length := by
  induction L with
  | nil => simp at hb
  | cons x t ih =>
    rw [List.nodup_cons] at h
    by_cases e : x = b
    · subst e
      have : (x :: t).filter (· ≠ x) = t := by
        rw [List.filter_cons_of_neg (by simp), List.filter_eq_self]
        intro y hy
        simp
        rintro rfl
        exact h.1 hy
      rw [this]; rfl
    · rw [List.filter_cons_of_pos (by simpa using e)]
      have hb' : b ∈ t := by
        rcases List.mem_cons.1 hb with h1 | h1
        · exact absurd h1.symm e
        · exact h1
      have := ih h.2 hb'
      simp only [List.length_cons]
      omega
theorem top_length_mem {L : List Nat} {b : Int} (h : L.Nodup) (hb : b ∈ asInts L) : (topL L b).length = L.length := by
  obtain ⟨_, h1⟩ := mem_asInts.1 hb
  have := nodup_filter_length h h1
  unfold topL
  simpa using this
theorem top_length_not {L : List Nat} {b : Int} (hb : b.toNat ∉ L) : (topL L b).length = L.length + 1 := by
  have := cut_self hb
  unfold cutL at this
  unfold topL
  rw [List.length_cons, this]
theorem top_not {L : List Nat} {b : Int} (hb : b.toNat ∉ L) : topL L b = b.toNat :: L := by
  have := cut_self hb
  unfold cutL at this
  unfold topL
  rw [this]
/-- taking the last one out is taking all but the last -/
theorem cut_last {M : List Nat} (h : M.Nodup) : cutL M (lst 0 M) = M.take (M.length - 1) := by
  rcases lst_nat M 0 with ⟨rfl, _⟩ | ⟨L0, c, rfl, hc⟩
  · rfl
  · rw [hc]
    rw [List.nodup_append] at h
    have hn : c ∉ L0 := fun hm => h.2.2 c hm c (by simp) rfl
    unfold cutL
    rw [List.filter_append, List.filter_eq_self.2]
    · simp
    · intro x hx
      simp
      rintro rfl
      exact hn hx
theorem lst_mem {M : List Nat} (h : M ≠ []) : lst 0 M ∈ asInts M := by
  rcases lst_nat M 0 with ⟨rfl, _⟩ | ⟨L0, c, rfl, hc⟩
  · exact absurd rfl h
  · rw [hc]; simp [asInts]
theorem mem_filter_asInts {L : List Nat} {b : Int} : b ∉ asInts (cutL L b) := by
  rw [mem_asInts]
  rintro ⟨_, h1⟩
  simp [cutL] at h1

theorem Held.take {cap n : Nat} {L : List Nat} (h : L.Nodup) (hl : ∀ x ∈ L, x < 64) (hn : n ≤ cap) : Held cap (L.take n) :=
  ⟨h.sublist (List.take_sublist _ _), fun x hx => hl x (List.mem_of_mem_take hx), by rw [List.length_take]; omega⟩
theorem Held.top {cap : Nat} {L : List Nat} (h : Held cap L) {b : Int} (hb : okB b) : ∀ x ∈ topL L b, x < 64 := by
  intro x hx
  unfold topL at hx
  rcases List.mem_cons.1 hx with h1 | h1
  · have := hb.1; have := hb.2; omega
  · exact h.lt x ((List.mem_filter.1 h1).1)
theorem Held.add {cap : Nat} {L : List Nat} (h : Held cap L) (b : Int) : Held cap (addL cap L b) := by
  unfold addL
  split
  · rename_i hb
    exact Held.take (top_nodup h.nodup b) (h.top hb) (Nat.le_refl _)
  · exact h
theorem Held.use {cap : Nat} {L : List Nat} (h : Held cap L) (b : Int) : Held cap (useL L b) := by
  unfold useL
  split
  · rename_i hb
    exact ⟨top_nodup h.nodup b, h.top (h.ok hb), by rw [top_length_mem h.nodup hb]; exact h.len⟩
  · exact h
theorem Held.rem {cap : Nat} {L : List Nat} (h : Held cap L) (b : Int) : Held cap (remL L b) := by
  unfold remL
  split
  · exact ⟨cut_nodup h.nodup b, fun x hx => h.lt x ((List.mem_filter.1 hx).1), Nat.le_trans (List.length_filter_le _ _) h.len⟩
  · exact h
theorem Held.nil (cap : Nat) : Held cap [] := ⟨List.nodup_nil, by simp, by simp⟩

theorem of_one {cap : Nat} {L : List Nat} (h : Held cap L) (b : Int) : ofI [L] b = (0, decide (b ∈ asInts L)) := by
  unfold ofI
  rw [ofL_one]
  by_cases hb : b ∈ asInts L
  · obtain ⟨h0, h1⟩ := mem_asInts.1 hb
    simp [h.ok hb, h1, hb]
  · have : ¬ (okB b ∧ b.toNat ∈ L) := fun hh => hb (mem_asInts.2 ⟨hh.1.1, hh.2⟩)
    by_cases ho : okB b
    · have h1 : b.toNat ∉ L := fun hm => this ⟨ho, hm⟩
      simp [ho, h1, hb]
    · simp [ho, hb]
theorem front_one (L : List Nat) (b : Int) : doE [L] 0 0 b = addE b ∧ doL [L] 0 0 b = if okB b then [topL L b] else [L] := by
  constructor
  · simp [doE, addE, okL_one]
  · simp only [doL, okL_one, true_and, if_true]
    split
    · simp [frontL, outL, topL]
    · rfl
theorem remove_one {cap : Nat} {L : List Nat} (h : Held cap L) {b : Int} (hb : b ∈ asInts L) : doE [L] 2 0 b = 0 ∧ doL [L] 2 0 b = [cutL L b] := by
  obtain ⟨h0, h1⟩ := mem_asInts.1 hb
  have := h.ok hb
  constructor
  · simp [doE, this, ofL_one, h1]
  · simp [doL, this, ofL_one, h1, outL, cutL]
theorem len_one (L : List Nat) : lenI [L] 0 = L.length := by simp [lenI, okL_one]
theorem all_one (L : List Nat) : allI [L] 0 = asInts L := by simp [allI, okL_one, asInts]
theorem lst_default : ∀ (L : List Nat) (p q : Int), L ≠ [] → lst p L = lst q L := by
  intro L p q h
  rcases lst_nat L p with ⟨rfl, _⟩ | ⟨L0, c, rfl, hc⟩
  · exact absurd rfl h
  · rw [hc, lst_snoc]
theorem last_one {L : List Nat} (h : L ≠ []) : lastI [L] 0 = (lst 0 L, true) := by simp [lastI, okL_one, h]; exact lst_default L _ _ h

theorem add_mem {cap : Nat} {L : List Nat} (h : Held cap L) {b : Int} (hb : b ∈ asInts L) : addL cap L b = topL L b ∧ addG cap L b = false ∧ addV cap L b = 0 ∧ addE b = 0 := by
  have h1 := top_length_mem h.nodup hb
  have h2 := h.len
  have h3 := h.ok hb
  refine ⟨?_, ?_, ?_, ?_⟩
  · unfold addL; rw [if_pos h3, List.take_of_length_le (by omega)]
  · unfold addG; simp; intro _; omega
  · unfold addV; rw [if_neg (by omega)]
  · unfold addE; rw [if_pos h3]

/-- the cache in block p, whose space lies in the blocks bs and be -/
structure LruAt (w : World) (p bs be cap : Nat) (L : List Nat) : Prop where
  c0 : w.cell? ⟨p, 0, none⟩ = some (.pointer (some ⟨bs, 0, none⟩))
  c1 : w.cell? ⟨p, 1, none⟩ = some (.int .i64 cap)
  n1 : p ≠ bs
  n2 : p ≠ be
  space : SpaceAt w bs be [L]
theorem space_held {w : World} {bs be : Nat} {L : List Nat} (h : SpaceAt w bs be [L]) : Held L.length L := by
  obtain ⟨A, E, _, h2⟩ := h
  exact ⟨h2.nodup 0 (by simp), fun x hx => (h2.mem (l := 0) (by simp) hx).1, Nat.le_refl _⟩
theorem LruAt.held {w : World} {p bs be cap : Nat} {L : List Nat} (h : LruAt w p bs be cap L) : Held L.length L := space_held h.space
theorem chg_cell {S : List Nat} {w w' : World} (h : Chg S w w') {b o : Nat} {u : Value} (hc : w.cell? ⟨b, o, none⟩ = some u) (hS : b ∉ S) : w'.cell? ⟨b, o, none⟩ = some u := by
  have hb := cell_lt hc
  have h1 := h.block b hb hS
  rw [← hc]
  unfold World.cell?
  simp only [h1]
theorem LruAt.ext {w w' : World} {p bs be cap : Nat} {L : List Nat} (h : LruAt w p bs be cap L) (hx : Ext w w') : LruAt w' p bs be cap L :=
  ⟨hx.cellv h.c0, hx.cellv h.c1, h.n1, h.n2, h.space.ext hx⟩
theorem LruAt.to {w w' : World} {p bs be cap : Nat} {L M : List Nat} (h : LruAt w p bs be cap L) (hx : Chg [bs, be] w w') (hs : SpaceAt w' bs be [M]) : LruAt w' p bs be cap M :=
  ⟨chg_cell hx h.c0 (by have := h.n1; have := h.n2; simp; omega), chg_cell hx h.c1 (by have := h.n1; have := h.n2; simp; omega), h.n1, h.n2, hs⟩
end Go.Proofs.Ytpmfadepinmmjaa
