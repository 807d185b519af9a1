/-
  A message as it came in; its bytes. No condition.
-/
import Derived.Test.YtmkobmkaalfecaaMsLaw
import Derived.Test.YtmkobmkaalfecaaStruct
namespace Go.Proofs.Ytmkobmkaalfecaa
open Go.RowKit

theorem msg_of0 {w : World} {v : Value} (h : IsFlat Try.prog 62 w v) :
    ∃ (K : Int) (N : Nat → Int) (g : Bool) (u : Value) (t : List Int), v = msgV K N g u ∧ RdI .u8 w u t ∧ (∀ x ∈ t, 0 ≤ x ∧ x ≤ 255) ∧ (Lit.int .i64 K).wf = true ∧ ∀ f, (Lit.int .i64 (N f)).wf = true := by
  obtain ⟨fs, cs, he, rfl, hsz, hc⟩ := h
  have hfs := he.symm.trans Try.underlying62
  simp only [Option.some.injEq, TypeDesc.struct.injEq] at hfs
  subst hfs
  have h5 : cs.size = 11 := hsz.trans (by kernel_rfl)
  obtain ⟨c0, c1, c2, c3, c4, c5, c6, c7, c8, c9, c10, rfl⟩ : ∃ c0 c1 c2 c3 c4 c5 c6 c7 c8 c9 c10, cs = #[c0, c1, c2, c3, c4, c5, c6, c7, c8, c9, c10] := by
    match cs, h5 with
    | ⟨[a, b, c, d, e, f, g, h, i, j, k]⟩, _ => exact ⟨a, b, c, d, e, f, g, h, i, j, k, rfl⟩
  obtain ⟨n0, rfl, w0⟩ := ((hc 0 _ rfl).1 (by kernel_rfl) c0 rfl).1.int Try.underlying3
  obtain ⟨n1, rfl, w1⟩ := ((hc 1 _ rfl).1 (by kernel_rfl) c1 rfl).1.int Try.underlying3
  obtain ⟨n2, rfl, w2⟩ := ((hc 2 _ rfl).1 (by kernel_rfl) c2 rfl).1.int Try.underlying3
  obtain ⟨n3, rfl, w3⟩ := ((hc 3 _ rfl).1 (by kernel_rfl) c3 rfl).1.int Try.underlying3
  obtain ⟨n4, rfl, w4⟩ := ((hc 4 _ rfl).1 (by kernel_rfl) c4 rfl).1.int Try.underlying3
  obtain ⟨n5, rfl, w5⟩ := ((hc 5 _ rfl).1 (by kernel_rfl) c5 rfl).1.int Try.underlying3
  obtain ⟨n6, rfl, w6⟩ := ((hc 6 _ rfl).1 (by kernel_rfl) c6 rfl).1.int Try.underlying3
  obtain ⟨n7, rfl, w7⟩ := ((hc 7 _ rfl).1 (by kernel_rfl) c7 rfl).1.int Try.underlying3
  obtain ⟨n8, rfl, w8⟩ := ((hc 8 _ rfl).1 (by kernel_rfl) c8 rfl).1.int Try.underlying39
  obtain ⟨g, rfl⟩ := ((hc 9 _ rfl).1 (by kernel_rfl) c9 rfl).1.bool Try.underlying4
  obtain ⟨t, ht, hb⟩ := ((hc 10 _ rfl).1 (by kernel_rfl) c10 rfl).1.ints Try.underlying24 Try.underlying5 (by kernel_rfl)
  refine ⟨n0, fun f => if f = 1 then n1 else if f = 2 then n2 else if f = 3 then n3 else if f = 4 then n4 else if f = 5 then n5 else if f = 6 then n6 else if f = 7 then n7 else n8, g, c10, t, rfl, ht, fun x hx => ?_, w0, fun f => ?_⟩
  · have := hb x hx
    simp [Lit.wf, IntKind.min, IntKind.max, IntKind.signed, IntKind.bits] at this
    omega
  · show (Lit.int .i64 (if f = 1 then n1 else if f = 2 then n2 else if f = 3 then n3 else if f = 4 then n4 else if f = 5 then n5 else if f = 6 then n6 else if f = 7 then n7 else n8)).wf = true
    by_cases h1 : f = 1
    · rw [if_pos h1]; exact w1
    rw [if_neg h1]
    by_cases h2 : f = 2
    · rw [if_pos h2]; exact w2
    rw [if_neg h2]
    by_cases h3 : f = 3
    · rw [if_pos h3]; exact w3
    rw [if_neg h3]
    by_cases h4 : f = 4
    · rw [if_pos h4]; exact w4
    rw [if_neg h4]
    by_cases h5 : f = 5
    · rw [if_pos h5]; exact w5
    rw [if_neg h5]
    by_cases h6 : f = 6
    · rw [if_pos h6]; exact w6
    rw [if_neg h6]
    by_cases h7 : f = 7
    · rw [if_pos h7]; exact w7
    rw [if_neg h7]
    exact w8

theorem msg_of' {w : World} {v : Value} (h : IsFlat Try.prog 62 w v) :
    ∃ (K : Int) (N : Nat → Int) (g : Bool) (u : Value) (t : List Int), v = msgV K N g u ∧ RdI .u8 w u t ∧ (∀ x ∈ t, 0 ≤ x ∧ x ≤ 255) := by
  obtain ⟨K, N, g, u, t, h1, h2, h3, _⟩ := msg_of0 h
  exact ⟨K, N, g, u, t, h1, h2, h3⟩
theorem mB_bytes {K : Int} {N : Nat → Int} {g : Bool} {t : List Int} (_ok : MOk K N g t.length) (ht : ∀ x ∈ t, 0 ≤ x ∧ x ≤ 255) : ∀ x ∈ mB K N g t, 0 ≤ x ∧ x ≤ 255 := by
  have he : ∀ n, ∀ x ∈ enc n, 0 ≤ x ∧ x ≤ 255 := fun n => enc_byte n n (Nat.le_refl _)
  intro x hx
  unfold mB at hx
  rcases List.mem_append.1 hx with h | h
  · exact he _ x h
  · obtain ⟨f, _, hf⟩ := List.mem_flatMap.1 h
    unfold fB at hf
    by_cases h9 : f = 9
    · rw [if_pos h9] at hf
      simp at hf; subst hf; cases g <;> simp [bit]
    · rw [if_neg h9] at hf
      by_cases hA : f = 10
      · rw [if_pos hA] at hf
        rcases List.mem_append.1 hf with h | h
        · exact he _ x h
        · exact ht x h
      · rw [if_neg hA] at hf
        exact he _ x hf
theorem mB_len {K : Int} {N : Nat → Int} {g : Bool} {t : List Int} (ok : MOk K N g t.length) : (mB K N g t).length ≤ 1100 ∧ 0 < (mB K N g t).length := by
  have h1 := mB_part ok (fieldsOf K).length
  rw [List.take_length] at h1
  have h2 := enc_len_pos K.toNat
  refine ⟨h1, ?_⟩
  unfold mB
  rw [List.length_append]
  omega
end Go.Proofs.Ytmkobmkaalfecaa
