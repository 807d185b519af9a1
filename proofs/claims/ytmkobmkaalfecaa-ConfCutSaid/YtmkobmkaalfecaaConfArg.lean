/-
  A configuration as it came in. No condition.
-/
import Derived.Test.YtmkobmkaalfecaaCCells
import Derived.Test.YtmkobmkaalfecaaConfLaw
import Derived.Test.YtmkobmkaalfecaaStruct
namespace Go.Proofs.Ytmkobmkaalfecaa
open Go.RowKit

theorem hints_of' {w : World} {v : Value} (h : IsRecs Try.prog 36 w v) : ∃ n F L, RdH w v n F L ∧ ∀ i j, i < n → j < 3 → (Lit.int .i64 (F i j)).wf = true := by
  obtain ⟨fs, n, V, he, hr, hc⟩ := h
  have hfs := he.symm.trans Try.underlying36
  simp only [Option.some.injEq, TypeDesc.struct.injEq] at hfs
  subst hfs
  have each : ∀ i, ∃ t : Int × Int × Int × Bool, i < n → V i 0 = .int .i64 t.1 ∧ V i 1 = .int .i64 t.2.1 ∧ V i 2 = .int .i64 t.2.2.1 ∧ V i 3 = .bool t.2.2.2 ∧ (Lit.int .i64 t.1).wf = true ∧ (Lit.int .i64 t.2.1).wf = true ∧ (Lit.int .i64 t.2.2.1).wf = true := by
    intro i
    by_cases hi : i < n
    · obtain ⟨k, hk, wk⟩ := (hc i 0 _ hi rfl).int Try.underlying3
      obtain ⟨a, ha, wa⟩ := (hc i 1 _ hi rfl).int Try.underlying3
      obtain ⟨b, hb, wb⟩ := (hc i 2 _ hi rfl).int Try.underlying3
      obtain ⟨l, hl⟩ := (hc i 3 _ hi rfl).bool Try.underlying4
      exact ⟨(k, a, b, l), fun _ => ⟨hk, ha, hb, hl, wk, wa, wb⟩⟩
    · exact ⟨(0, 0, 0, false), fun h => absurd h hi⟩
  obtain ⟨T, hT⟩ := Classical.axiomOfChoice each
  refine ⟨n, fun i j => if j = 0 then (T i).1 else if j = 1 then (T i).2.1 else (T i).2.2.1, fun i => (T i).2.2.2, ?_, ?_⟩
  · obtain ⟨a, c, rfl, h1, h2, h3, h4⟩ := hr
    refine ⟨a, c, rfl, h1, h2, h3, fun hn => ?_⟩
    obtain ⟨b, o, rfl, hb, hcc⟩ := h4 hn
    refine ⟨b, o, rfl, hb, fun i f hi hf => ?_⟩
    refine (hcc i f hi hf).trans ?_
    obtain ⟨e0, e1, e2, e3, _⟩ := hT i hi
    have hf4 : f < 4 := hf
    have : f = 0 ∨ f = 1 ∨ f = 2 ∨ f = 3 := by omega
    rcases this with rfl | rfl | rfl | rfl
    · rw [e0]; simp [HV]
    · rw [e1]; simp [HV]
    · rw [e2]; simp [HV]
    · rw [e3]; simp [HV]
  · intro i j hi hj
    obtain ⟨_, _, _, _, e0, e1, e2⟩ := hT i hi
    have : j = 0 ∨ j = 1 ∨ j = 2 := by omega
    rcases this with rfl | rfl | rfl <;> simp [*]


theorem RdH.flat' {w : World} {v : Value} {n : Nat} {F : Nat → Nat → Int} {L : Nat → Bool} (h : RdH w v n F L) : Rd w 4 v n (hcells F L n) := by
  obtain ⟨a, c, rfl, h1, h2, h3, h4⟩ := h
  refine ⟨hcells_len F L n, a, c, rfl, h1, h2, h3, fun hn => ?_⟩
  obtain ⟨b, o, rfl, hb, hcc⟩ := h4 hn
  refine ⟨b, o, rfl, hb, fun j u hu => ?_⟩
  have hj : j < n * 4 := by have := (List.getElem?_eq_some_iff.1 hu).1; rwa [hcells_len] at this
  have := hcells_at F L n (j / 4) (j % 4) (by omega) (by omega)
  rw [show j / 4 * 4 + j % 4 = j by omega, hu] at this
  cases this
  have := hcc (j / 4) (j % 4) (by omega) (by omega)
  rwa [show o + (j / 4 * 4 + j % 4) = o + j by omega] at this
theorem RdH.congr {w : World} {v : Value} {n : Nat} {F F' : Nat → Nat → Int} {L L' : Nat → Bool} (h : RdH w v n F L) (hF : ∀ i j, i < n → j < 3 → F i j = F' i j) (hL : ∀ i, i < n → L i = L' i) : RdH w v n F' L' := by
  obtain ⟨a, c, rfl, h1, h2, h3, h4⟩ := h
  refine ⟨a, c, rfl, h1, h2, h3, fun hn => ?_⟩
  obtain ⟨b, o, rfl, hb, hcc⟩ := h4 hn
  refine ⟨b, o, rfl, hb, fun i f hi hf => (hcc i f hi hf).trans ?_⟩
  unfold HV
  by_cases h3 : f < 3
  · rw [if_pos h3, if_pos h3, hF i f hi h3]
  · rw [if_neg h3, if_neg h3, hL i hi]
theorem own_empty' (e : TypeId) (size : Nat) (w : World) {base : Nat} (hb : base ≤ w.heap.size) : (w.alloc (.cells #[] e)).ownsRow base e size (.slice (some ⟨w.heap.size, 0, none⟩) 0 0) 0 [] :=
  ⟨by simp, .inr ⟨w.heap.size, 0, #[], rfl, hb, by simpa using heap_alloc_new w _, Nat.le_refl _, by simp [maxLen], by simp, by simp⟩⟩
theorem enc_bytes (n : Nat) : ∀ x ∈ enc n, 0 ≤ x ∧ x ≤ 255 := enc_byte n n (Nat.le_refl _)
theorem numB_bytes (N : Nat → Int) : ∀ k, ∀ x ∈ numB N k, 0 ≤ x ∧ x ≤ 255 := by
  intro k
  induction k with
  | zero => intro x hx; cases hx
  | succ k ih =>
    intro x hx
    rcases List.mem_append.1 hx with h | h
    · exact ih x h
    · exact enc_bytes _ x h
theorem hintsB_bytes (F : Nat → Nat → Int) (L : Nat → Bool) : ∀ k, ∀ x ∈ hintsB F L k, 0 ≤ x ∧ x ≤ 255 := by
  intro k
  induction k with
  | zero => intro x hx; cases hx
  | succ k ih =>
    intro x hx
    rcases List.mem_append.1 hx with h | h
    · exact ih x h
    · rw [hintB_num] at h
      rcases List.mem_append.1 h with h | h
      · exact numB_bytes _ _ x h
      · simp at h; subst h; cases L k <;> simp [bit]
theorem confB_bytes (N : Nat → Int) (n : Nat) (F : Nat → Nat → Int) (L : Nat → Bool) : ∀ x ∈ confB N n F L, 0 ≤ x ∧ x ≤ 255 := by
  intro x hx
  rw [confB_first] at hx
  rcases List.mem_append.1 hx with h | h
  · exact numB_bytes _ _ x h
  · exact hintsB_bytes _ _ _ x h
theorem confB_len {N : Nat → Int} {n : Nat} {F : Nat → Nat → Int} {L : Nat → Bool} (ok : CfgOk N n F) : (confB N n F L).length ≤ 400 ∧ 0 < (confB N n F L).length := by
  have h1 := numB_len17 (first_bd ok) 17 (by omega)
  have h2 := hintsB_len (L := L) (n := n) (F := F) (fun i j hi hj => (hint_bd ok hi j hj).2) n (Nat.le_refl _)
  have h3 := ok.hs.2.2
  have h4 := enc_len_pos n
  rw [confB_first]
  constructor
  · rw [List.length_append]; omega
  · rw [firstB]; simp only [List.length_append]; omega

/-- a configuration -/
theorem cfg_of {w : World} {v : Value} (h : IsFlat Try.prog 75 w v) : ∃ N hv n F L, v = cfgV N hv ∧ RdH w hv n F L ∧ ∀ i j, i < n → j < 3 → (Lit.int .i64 (F i j)).wf = true := by
  obtain ⟨fs, cs, he, rfl, hsz, hc⟩ := h
  have hfs := he.symm.trans Try.underlying75
  simp only [Option.some.injEq, TypeDesc.struct.injEq] at hfs
  subst hfs
  have h17 : cs.size = 17 := hsz.trans (by kernel_rfl)
  obtain ⟨c0, c1, c2, c3, c4, c5, c6, c7, c8, c9, c10, c11, c12, c13, c14, c15, c16, hcs⟩ : ∃ c0 c1 c2 c3 c4 c5 c6 c7 c8 c9 c10 c11 c12 c13 c14 c15 c16, cs = #[c0, c1, c2, c3, c4, c5, c6, c7, c8, c9, c10, c11, c12, c13, c14, c15, c16] := by
    match cs, h17 with
    | ⟨[c0, c1, c2, c3, c4, c5, c6, c7, c8, c9, c10, c11, c12, c13, c14, c15, c16]⟩, _ => exact ⟨c0, c1, c2, c3, c4, c5, c6, c7, c8, c9, c10, c11, c12, c13, c14, c15, c16, rfl⟩
  subst hcs
  obtain ⟨n0, rfl, _⟩ := ((hc 0 _ rfl).1 (by kernel_rfl) c0 rfl).1.int Try.underlying3
  obtain ⟨n1, rfl, _⟩ := ((hc 1 _ rfl).1 (by kernel_rfl) c1 rfl).1.int Try.underlying3
  obtain ⟨n2, rfl, _⟩ := ((hc 2 _ rfl).1 (by kernel_rfl) c2 rfl).1.int Try.underlying3
  obtain ⟨n3, rfl, _⟩ := ((hc 3 _ rfl).1 (by kernel_rfl) c3 rfl).1.int Try.underlying3
  obtain ⟨n4, rfl, _⟩ := ((hc 4 _ rfl).1 (by kernel_rfl) c4 rfl).1.int Try.underlying3
  obtain ⟨n5, rfl, _⟩ := ((hc 5 _ rfl).1 (by kernel_rfl) c5 rfl).1.int Try.underlying3
  obtain ⟨n12, rfl, _⟩ := ((hc 8 _ rfl).1 (by kernel_rfl) c12 rfl).1.int Try.underlying3
  obtain ⟨n13, rfl, _⟩ := ((hc 9 _ rfl).1 (by kernel_rfl) c13 rfl).1.int Try.underlying3
  obtain ⟨n14, rfl, _⟩ := ((hc 10 _ rfl).1 (by kernel_rfl) c14 rfl).1.int Try.underlying3
  obtain ⟨n15, rfl, _⟩ := ((hc 11 _ rfl).1 (by kernel_rfl) c15 rfl).1.int Try.underlying3
  obtain ⟨n6, rfl, _⟩ := (hc 6 _ rfl).2 _ _ .i64 Try.underlying73 Try.underlying3 (by kernel_rfl) (by kernel_rfl) 0 c6 (by decide) rfl
  obtain ⟨n7, rfl, _⟩ := (hc 6 _ rfl).2 _ _ .i64 Try.underlying73 Try.underlying3 (by kernel_rfl) (by kernel_rfl) 1 c7 (by decide) rfl
  obtain ⟨n8, rfl, _⟩ := (hc 6 _ rfl).2 _ _ .i64 Try.underlying73 Try.underlying3 (by kernel_rfl) (by kernel_rfl) 2 c8 (by decide) rfl
  obtain ⟨n9, rfl, _⟩ := (hc 7 _ rfl).2 _ _ .i64 Try.underlying73 Try.underlying3 (by kernel_rfl) (by kernel_rfl) 0 c9 (by decide) rfl
  obtain ⟨n10, rfl, _⟩ := (hc 7 _ rfl).2 _ _ .i64 Try.underlying73 Try.underlying3 (by kernel_rfl) (by kernel_rfl) 1 c10 (by decide) rfl
  obtain ⟨n11, rfl, _⟩ := (hc 7 _ rfl).2 _ _ .i64 Try.underlying73 Try.underlying3 (by kernel_rfl) (by kernel_rfl) 2 c11 (by decide) rfl
  have hrecs := ((hc 12 _ rfl).1 (by kernel_rfl) c16 rfl).2 _ _ Try.underlying33 Try.underlying36 (by kernel_rfl) (by kernel_rfl) (by decide)
  obtain ⟨n, F, L, hr, hwf⟩ := hints_of' hrecs
  exact ⟨fun k => [n0, n1, n2, n3, n4, n5, n6, n7, n8, n9, n10, n11, n12, n13, n14, n15].getD k 0, c16, n, F, L, rfl, hr, hwf⟩
end Go.Proofs.Ytmkobmkaalfecaa
