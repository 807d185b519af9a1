/-
  A configuration's cells; what conf.Get reads. No condition.
-/
import Derived.Test.YtmkobmkaalfecaaCHint
import Derived.ArgAppend
import Derived.Deep.AppendLies
import Derived.Laws.OwnMore
namespace Go.Proofs.Ytmkobmkaalfecaa
open Go.RowKit

def cfgCells (N : Nat → Int) (h : Value) : Array Value := #[.int .i64 (N 0), .int .i64 (N 1), .int .i64 (N 2), .int .i64 (N 3), .int .i64 (N 4), .int .i64 (N 5), .int .i64 (N 6), .int .i64 (N 7), .int .i64 (N 8), .int .i64 (N 9), .int .i64 (N 10), .int .i64 (N 11), .int .i64 (N 12), .int .i64 (N 13), .int .i64 (N 14), .int .i64 (N 15), h]
theorem cfgCells_at (N : Nat → Int) (h : Value) {k : Nat} (hk : k < 16) : (cfgCells N h)[k]? = some (.int .i64 (N k)) := by
  have : k = 0 ∨ k = 1 ∨ k = 2 ∨ k = 3 ∨ k = 4 ∨ k = 5 ∨ k = 6 ∨ k = 7 ∨ k = 8 ∨ k = 9 ∨ k = 10 ∨ k = 11 ∨ k = 12 ∨ k = 13 ∨ k = 14 ∨ k = 15 := by omega
  rcases this with rfl | rfl | rfl | rfl | rfl | rfl | rfl | rfl | rfl | rfl | rfl | rfl | rfl | rfl | rfl | rfl <;> rfl
theorem cfgCells_h (N : Nat → Int) (h : Value) : (cfgCells N h)[16]? = some h := rfl
theorem cfgCells_size (N : Nat → Int) (h : Value) : (cfgCells N h).size = 17 := rfl
theorem cfgCells_set (N : Nat → Int) (h : Value) {k : Nat} (hk : k < 16) (x : Int) : (cfgCells N h).setIfInBounds k (.int .i64 x) = cfgCells (fun i => if i = k then x else N i) h := by
  have : k = 0 ∨ k = 1 ∨ k = 2 ∨ k = 3 ∨ k = 4 ∨ k = 5 ∨ k = 6 ∨ k = 7 ∨ k = 8 ∨ k = 9 ∨ k = 10 ∨ k = 11 ∨ k = 12 ∨ k = 13 ∨ k = 14 ∨ k = 15 := by omega
  rcases this with rfl | rfl | rfl | rfl | rfl | rfl | rfl | rfl | rfl | rfl | rfl | rfl | rfl | rfl | rfl | rfl <;> rfl
theorem cfgCells_seth (N : Nat → Int) (h u : Value) : (cfgCells N h).setIfInBounds 16 u = cfgCells N u := rfl
theorem cfgCells_congr {N N' : Nat → Int} {h : Value} (e : ∀ k, k < 16 → N k = N' k) : cfgCells N h = cfgCells N' h := by
  unfold cfgCells
  rw [e 0 (by omega), e 1 (by omega), e 2 (by omega), e 3 (by omega), e 4 (by omega), e 5 (by omega), e 6 (by omega), e 7 (by omega), e 8 (by omega), e 9 (by omega), e 10 (by omega), e 11 (by omega), e 12 (by omega), e 13 (by omega), e 14 (by omega), e 15 (by omega)]
theorem cfgV_cells (N : Nat → Int) (h : Value) : cfgV N h = .agg (cfgCells N h) := rfl
theorem cfg_info : (Try.prog.info? 75).map (·.size) = some 17 := by kernel_rfl

/-- the places that Get reads into -/
def gtb (p q : Nat) (k : Nat) : Nat := if k < 16 then p else q
def gtq (k : Nat) : Nat := if k < 16 then k else 0
theorem put16 {w : World} {p q : Nat} {t : TypeId} {hv : Value} (V : Nat → Int) (hpq : p ≠ q) (h : w.heap[p]? = some (.cells (cfgCells (fun _ => 0) hv) t (0, 0))) :
    ∀ K, K ≤ 17 → (putAll (gtb p q) gtq V K w).heap[p]? = some (.cells (cfgCells (fun i => if i < K then V i else 0) hv) t (0, 0)) := by
  intro K
  induction K with
  | zero => intro _; exact h
  | succ K ih =>
    intro hK
    have ih := ih (by omega)
    by_cases h16 : K < 16
    · show ((putAll (gtb p q) gtq V K w).setCell ⟨gtb p q K, gtq K, none⟩ (.int .i64 (V K))).heap[p]? = _
      have e1 : gtb p q K = p := by unfold gtb; rw [if_pos h16]
      have e2 : gtq K = K := by unfold gtq; rw [if_pos h16]
      rw [e1, e2, heap_set (o := K) ih (.int .i64 (V K)), cfgCells_set _ _ h16]
      have : (fun i => if i = K then V K else if i < K then V i else 0) = (fun i => if i < K + 1 then V i else 0) := by
        funext i
        by_cases e : i = K
        · subst e; rw [if_pos rfl, if_pos (by omega)]
        · rw [if_neg e]
          by_cases e2 : i < K
          · rw [if_pos e2, if_pos (by omega)]
          · rw [if_neg e2, if_neg (by omega)]
      rw [this]
    · obtain rfl : K = 16 := by omega
      show ((putAll (gtb p q) gtq V 16 w).setCell ⟨gtb p q 16, gtq 16, none⟩ (.int .i64 (V 16))).heap[p]? = _
      have e1 : gtb p q 16 = q := rfl
      rw [e1, Below.heap_setCell _ _ _ _ hpq, ih]
      exact congrArg some (congrArg (fun a => Obj.cells a t (0, 0)) (cfgCells_congr (fun k hk => by rw [if_pos hk, if_pos (by omega)])))
theorem put17 {w : World} {p q : Nat} {t : TypeId} {u : Value} (V : Nat → Int) (hpq : p ≠ q) (h : w.heap[q]? = some (.cells #[u] t (0, 0))) :
    (putAll (gtb p q) gtq V 17 w).heap[q]? = some (.cells #[.int .i64 (V 16)] t (0, 0)) := by
  have key : ∀ K, K ≤ 16 → (putAll (gtb p q) gtq V K w).heap[q]? = some (.cells #[u] t (0, 0)) := by
    intro K
    induction K with
    | zero => intro _; exact h
    | succ K ih =>
      intro hK
      have e1 : gtb p q K = p := by unfold gtb; rw [if_pos (by omega)]
      show ((putAll (gtb p q) gtq V K w).setCell ⟨gtb p q K, gtq K, none⟩ (.int .i64 (V K))).heap[q]? = _
      rw [e1, Below.heap_setCell _ _ _ _ (Ne.symm hpq)]
      exact ih (by omega)
  exact heap_set (o := 0) (key 16 (by omega)) (.int .i64 (V 16))

/-- where the i-th hint begins; its numbers; its truth -/
def hpos (B : List Int) (a : Int) : Nat → Int
  | 0 => a
  | i + 1 => hnext B (hpos B a i)
def gF (B : List Int) (i j : Nat) : Int := valK B (hpos B (posK B 0 17) i) j
def gL (B : List Int) (i : Nat) : Bool := (getB B (posK B (hpos B (posK B 0 17) i) 3)).1
/-- the cells of hints -/
def hcells (F : Nat → Nat → Int) (L : Nat → Bool) : Nat → List Value
  | 0 => []
  | i + 1 => hcells F L i ++ [.int .i64 (F i 0), .int .i64 (F i 1), .int .i64 (F i 2), .bool (L i)]
theorem hcells_len (F : Nat → Nat → Int) (L : Nat → Bool) (n : Nat) : (hcells F L n).length = n * 4 := by
  induction n with
  | zero => rfl
  | succ n ih => simp only [hcells, List.length_append, ih, List.length_cons, List.length_nil]; omega
theorem hcells_at (F : Nat → Nat → Int) (L : Nat → Bool) : ∀ n i f, i < n → f < 4 → (hcells F L n)[i * 4 + f]? = some (HV F L i f) := by
  intro n
  induction n with
  | zero => intro i f h; omega
  | succ n ih =>
    intro i f hi hf
    simp only [hcells]
    by_cases e : i < n
    · rw [List.getElem?_append_left (by rw [hcells_len]; omega)]
      exact ih i f e hf
    · obtain rfl : i = n := by omega
      rw [List.getElem?_append_right (by rw [hcells_len]; omega), hcells_len, show i * 4 + f - i * 4 = f by omega]
      have : f = 0 ∨ f = 1 ∨ f = 2 ∨ f = 3 := by omega
      rcases this with rfl | rfl | rfl | rfl <;> rfl
theorem hcells_one (F : Nat → Nat → Int) (L : Nat → Bool) (n : Nat) : ∀ u ∈ hcells F L n, u.oneCell' = true := by
  induction n with
  | zero => intro u hu; cases hu
  | succ n ih =>
    intro u hu
    rcases List.mem_append.1 hu with h | h
    · exact ih u h
    · simp at h; rcases h with rfl | rfl | rfl | rfl <;> rfl
theorem rdh_of_own {w : World} {base : Nat} {v : Value} {n : Nat} {F : Nat → Nat → Int} {L : Nat → Bool} {e : TypeId} (h : w.ownsRow base e 4 v n (hcells F L n)) : RdH w v n F L := by
  obtain ⟨_, a, c, rfl, h2, h3, h4, h5⟩ := Rd.of_own h
  refine ⟨a, c, rfl, h2, h3, h4, fun hn => ?_⟩
  obtain ⟨b, o, e, hb, hc⟩ := h5 hn
  exact ⟨b, o, e, hb, fun i f hi hf => hc _ _ (hcells_at F L n i f hi hf)⟩
theorem Rd.hint (w : World) (a b c : Int) (l : Bool) (e : TypeId) : Rd (w.alloc (.cells #[.int .i64 a, .int .i64 b, .int .i64 c, .bool l] e)) 4 (.slice (some ⟨w.heap.size, 0, none⟩) 1 1) 1 [.int .i64 a, .int .i64 b, .int .i64 c, .bool l] := by
  refine ⟨by simp, _, _, rfl, Nat.le_refl _, by simp [maxLen], fun h => (by cases h), fun _ => ⟨w.heap.size, 0, rfl, by simp, fun j v hj => ?_⟩⟩
  match j, hj with
  | 0, hj => simp at hj; subst hj; exact cell_new _ _ _ _ rfl
  | 1, hj => simp at hj; subst hj; exact cell_new _ _ _ _ rfl
  | 2, hj => simp at hj; subst hj; exact cell_new _ _ _ _ rfl
  | 3, hj => simp at hj; subst hj; exact cell_new _ _ _ _ rfl
theorem hint_zero : (Try.prog.info? 36).map (fun i => (i.zero, i.size, i.bytes)) = some (some (.agg #[.int .i64 0, .int .i64 0, .int .i64 0, .bool false]), 4, 32) := by kernel_rfl
theorem ptr_info : (Try.prog.info? 66).map (fun i => (i.zero, i.size, i.bytes)) = some (some (.pointer none), 1, 8) := by kernel_rfl

/-- what conf.Get answers -/
def GOut (B : List Int) (x : Int) : Prop :=
  (∃ K, K < 17 ∧ (∀ j, j < K → errK B 0 j = 0) ∧ errK B 0 K = x ∧ x ≠ 0) ∨
  ((∀ j, j < 17 → errK B 0 j = 0) ∧ ∃ n : Nat, n ≤ 8 ∧ valK B 0 16 = (n : Int) ∧
    ((∃ i, i < n ∧ (∀ j, j < i → herr B (hpos B (posK B 0 17) j) = 0) ∧ herr B (hpos B (posK B 0 17) i) = x ∧ x ≠ 0) ∨
     ((∀ j, j < n → herr B (hpos B (posK B 0 17) j) = 0) ∧
       ((hpos B (posK B 0 17) n < B.length ∧ x = 2) ∨ (hpos B (posK B 0 17) n = B.length ∧ CfgOk (valK B 0) n (gF B) ∧ x = 0)))))
end Go.Proofs.Ytmkobmkaalfecaa
