/-
  What came in, as gradinelaw06 has it: writes, shapes, acts. No program in sight.
-/
import Derived.Test.YtoadjmeopamgbaaRecs
import Derived.Test.YtoadjmeopamgbaaStruct
import Derived.Test.YtoadjmeopamgbaaFrame
namespace Go.Proofs.Ytoadjmeopamgbaa
open Go.RowKit

/-- a write as it came in -/
structure Wr where
  c : Int
  k : Int
  b : Int
  o : Int
  bk : Int
  D : List Int
structure WrOk (x : Wr) : Prop where
  c : -9223372036854775808 ≤ x.c ∧ x.c ≤ 9223372036854775807
  k : -9223372036854775808 ≤ x.k ∧ x.k ≤ 9223372036854775807
  b : -9223372036854775808 ≤ x.b ∧ x.b ≤ 9223372036854775807
  o : -9223372036854775808 ≤ x.o ∧ x.o ≤ 9223372036854775807
  bk : -9223372036854775808 ≤ x.bk ∧ x.bk ≤ 9223372036854775807
  D : ∀ y ∈ x.D, 0 ≤ y ∧ y ≤ 255
def wrV (x : Wr) (dv : Value) : Value := .agg #[.int .i64 x.c, .int .i64 x.k, .int .i64 x.b, .int .i64 x.o, .int .i64 x.bk, dv]
theorem write_of {w : World} {v : Value} (h : IsFlat Try.prog 38 w v) : ∃ x dv, v = wrV x dv ∧ RdI .u8 w dv x.D ∧ WrOk x := by
  obtain ⟨fs, cs, he, rfl, hsz, hc⟩ := h
  have hfs := he.symm.trans Try.underlying38
  simp only [Option.some.injEq, TypeDesc.struct.injEq] at hfs
  subst hfs
  have h6 : cs.size = 6 := hsz.trans (by kernel_rfl)
  obtain ⟨c0, c1, c2, c3, c4, c5, hcs⟩ : ∃ c0 c1 c2 c3 c4 c5, cs = #[c0, c1, c2, c3, c4, c5] := by
    match cs, h6 with
    | ⟨[c0, c1, c2, c3, c4, c5]⟩, _ => exact ⟨c0, c1, c2, c3, c4, c5, rfl⟩
  subst hcs
  obtain ⟨a, rfl, wa⟩ := ((hc 0 _ rfl).1 (by kernel_rfl) c0 rfl).1.int Try.underlying3
  obtain ⟨s, rfl, ws⟩ := ((hc 1 _ rfl).1 (by kernel_rfl) c1 rfl).1.int Try.underlying3
  obtain ⟨b, rfl, wb⟩ := ((hc 2 _ rfl).1 (by kernel_rfl) c2 rfl).1.int Try.underlying3
  obtain ⟨o, rfl, wo⟩ := ((hc 3 _ rfl).1 (by kernel_rfl) c3 rfl).1.int Try.underlying3
  obtain ⟨bk, rfl, wk⟩ := ((hc 4 _ rfl).1 (by kernel_rfl) c4 rfl).1.int Try.underlying3
  obtain ⟨D, hD, wD⟩ := ((hc 5 _ rfl).1 (by kernel_rfl) c5 rfl).1.ints Try.underlying36 Try.underlying5 (by kernel_rfl)
  exact ⟨⟨a, s, b, o, bk, D⟩, c5, rfl, hD, ⟨i64_bd wa, i64_bd ws, i64_bd wb, i64_bd wo, i64_bd wk, fun y hy => u8_bd (wD y hy)⟩⟩
end Go.Proofs.Ytoadjmeopamgbaa
