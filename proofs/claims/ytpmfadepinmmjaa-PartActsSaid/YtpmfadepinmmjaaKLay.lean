/-
  gradinelaw14: what came in, long, same, wakes. No condition but that the parts read.
-/
import Derived.Test.YtpmfadepinmmjaaKParts
import Derived.Test.YtpmfadepinmmjaaStruct
import Derived.ChangeKeysEq
namespace Go.Proofs.Ytpmfadepinmmjaa
open Go.RowKit

theorem khints_of {w : World} {v : Value} (h : IsRecs Try.prog 58 w v) : ∃ n F L, RdH w v n F L ∧ ∀ i j, i < n → j < 3 → (Lit.int .i64 (F i j)).wf = true := by
  obtain ⟨fs, n, V, he, hr, hc⟩ := h
  have hfs := he.symm.trans Try.underlying58
  simp only [Option.some.injEq, TypeDesc.struct.injEq] at hfs
  subst hfs
  have each : ∀ i, ∃ t : Int × Int × Int × Bool, i < n → V i 0 = .int .i64 t.1 ∧ V i 1 = .int .i64 t.2.1 ∧ V i 2 = .int .i64 t.2.2.1 ∧ V i 3 = .bool t.2.2.2 ∧ (Lit.int .i64 t.1).wf = true ∧ (Lit.int .i64 t.2.1).wf = true ∧ (Lit.int .i64 t.2.2.1).wf = true := by
    intro i
    by_cases hi : i < n
    · obtain ⟨k, hk, wk⟩ := (hc i 0 _ hi rfl).int Try.underlying3
      obtain ⟨a, ha, wa⟩ := (hc i 1 _ hi rfl).int Try.underlying3
      obtain ⟨b, hb, wb⟩ := (hc i 2 _ hi rfl).int Try.underlying3
      obtain ⟨l, hl⟩ := (hc i 3 _ hi rfl).bool Try.underlying4
      exact ⟨(k, a, b, l), fun _ => ⟨hk, ha, hb, hl, wk, wa, wb⟩⟩
    · exact ⟨(0, 0, 0, false), fun h => absurd h hi⟩
  obtain ⟨T, hT⟩ := Classical.axiomOfChoice each
  refine ⟨n, fun i j => if j = 0 then (T i).1 else if j = 1 then (T i).2.1 else (T i).2.2.1, fun i => (T i).2.2.2, ?_, ?_⟩
  · obtain ⟨a, c, rfl, h1, h2, h3, h4⟩ := hr
    refine ⟨a, c, rfl, h1, h2, h3, fun hn => ?_⟩
    obtain ⟨b, o, rfl, hb, hcc⟩ := h4 hn
    refine ⟨b, o, rfl, hb, fun i f hi hf => ?_⟩
    refine (hcc i f hi hf).trans ?_
    obtain ⟨e0, e1, e2, e3, _⟩ := hT i hi
    have hf4 : f < 4 := hf
    have : f = 0 ∨ f = 1 ∨ f = 2 ∨ f = 3 := by omega
    rcases this with rfl | rfl | rfl | rfl
    · rw [e0]; simp [HV]
    · rw [e1]; simp [HV]
    · rw [e2]; simp [HV]
    · rw [e3]; simp [HV]
  · intro i j hi hj
    obtain ⟨_, _, _, _, e0, e1, e2⟩ := hT i hi
    have : j = 0 ∨ j = 1 ∨ j = 2 := by omega
    rcases this with rfl | rfl | rfl <;> simp [*]
/-- a plan's making, as it came in -/
theorem lay_of {w : World} {v : Value} (h : IsFlat Try.prog 25 w v) : ∃ hv n F L bl k0 k1 k2, v = .agg #[hv, .int .i64 bl, .int .i64 k0, .int .i64 k1, .int .i64 k2] ∧ RdH w hv n F L ∧ (∀ i j, i < n → j < 3 → (Lit.int .i64 (F i j)).wf = true) ∧ (Lit.int .i64 bl).wf = true := by
  obtain ⟨fs, cs, he, rfl, hsz, hc⟩ := h
  have hfs := he.symm.trans Try.underlying25
  simp only [Option.some.injEq, TypeDesc.struct.injEq] at hfs
  subst hfs
  have h5 : cs.size = 5 := hsz.trans (by kernel_rfl)
  obtain ⟨c0, c1, c2, c3, c4, hcs⟩ : ∃ c0 c1 c2 c3 c4, cs = #[c0, c1, c2, c3, c4] := by
    match cs, h5 with
    | ⟨[c0, c1, c2, c3, c4]⟩, _ => exact ⟨c0, c1, c2, c3, c4, rfl⟩
  subst hcs
  obtain ⟨bl, rfl, wb⟩ := ((hc 1 _ rfl).1 (by kernel_rfl) c1 rfl).1.int Try.underlying3
  obtain ⟨k0, rfl, _⟩ := (hc 2 _ rfl).2 _ _ .i64 Try.underlying23 Try.underlying3 (by kernel_rfl) (by kernel_rfl) 0 c2 (by decide) rfl
  obtain ⟨k1, rfl, _⟩ := (hc 2 _ rfl).2 _ _ .i64 Try.underlying23 Try.underlying3 (by kernel_rfl) (by kernel_rfl) 1 c3 (by decide) rfl
  obtain ⟨k2, rfl, _⟩ := (hc 2 _ rfl).2 _ _ .i64 Try.underlying23 Try.underlying3 (by kernel_rfl) (by kernel_rfl) 2 c4 (by decide) rfl
  have hrecs := ((hc 0 _ rfl).1 (by kernel_rfl) c0 rfl).2 _ _ Try.underlying22 Try.underlying58 (by kernel_rfl) (by kernel_rfl) (by decide)
  obtain ⟨n, F, L, hr, hwf⟩ := khints_of hrecs
  exact ⟨c0, n, F, L, bl, k0, k1, k2, rfl, hr, hwf, wb⟩

theorem caps_nat {k0 k1 k2 : Int} (h : (1 ≤ k0 ∧ k0 ≤ 16) ∧ (1 ≤ k1 ∧ k1 ≤ 16) ∧ (1 ≤ k2 ∧ k2 ≤ 16)) : ∃ cc : Nat → Nat, CapsOk cc ∧ k0 = (cc 0 : Nat) ∧ k1 = (cc 1 : Nat) ∧ k2 = (cc 2 : Nat) := by
  refine ⟨fun t => if t = 0 then k0.toNat else if t = 1 then k1.toNat else if t = 2 then k2.toNat else 0, ⟨fun t => ?_, fun t ht => ?_⟩, ?_, ?_, ?_⟩
  · show (if t = 0 then k0.toNat else if t = 1 then k1.toNat else if t = 2 then k2.toNat else 0) ≤ 16
    (repeat' split) <;> omega
  · show 1 ≤ (if t = 0 then k0.toNat else if t = 1 then k1.toNat else if t = 2 then k2.toNat else 0)
    (repeat' split) <;> omega
  · show k0 = ((k0.toNat : Nat) : Int); omega
  · show k1 = ((k1.toNat : Nat) : Int); omega
  · show k2 = ((k2.toNat : Nat) : Int); omega
theorem arr4_eq (a b c d : Int) (w : World) : (Op.equalIn 10000 75 (.agg #[.int .i64 a, .int .i64 b, .int .i64 c, .int .i64 d]) (.agg #[.int .i64 a, .int .i64 b, .int .i64 c, .int .i64 d])).run Try.prog w = .ok true w := by
  obtain ⟨i, hi⟩ : ∃ i, Try.prog.info? 3 = some i := Option.isSome_iff_exists.1 (by kernel_rfl)
  have int_cells : Try.prog.cellsOf 3 = 1 := by kernel_rfl
  rw [show (10000 : Nat) = 9999 + 1 from rfl, run_equalIn_array w 9999 _ _ Try.underlying75 hi, int_cells]
  have hp : ∀ (k : Nat) (x : Int) (w : World), #[Value.int .i64 a, .int .i64 b, .int .i64 c, .int .i64 d][k]? = some (.int .i64 x) → (part 3 #[.int .i64 a, .int .i64 b, .int .i64 c, .int .i64 d] k).run Try.prog w = .ok (.int .i64 x) w := by
    intro k x w hk
    simp [part, isAgg, run_underlying Try.underlying3, hk]
  have he : ∀ (x : Int) (w : World), (Op.equalIn 9999 3 (.int .i64 x) (.int .i64 x)).run Try.prog w = .ok true w := by
    intro x w
    rw [show (9999 : Nat) = 9998 + 1 from rfl, run_equalIn_int w 9998 _ .i64 .i64 x x Try.underlying3]; simp
  have hr : List.range 4 = [0, 1, 2, 3] := rfl
  rw [hr]
  simp only [Op.eqItems, Sem.run_bind, Nat.mul_one]
  rw [hp 0 a w rfl]
  simp only [Result.andThen_ok]
  rw [hp 0 a w rfl]
  simp only [Result.andThen_ok]
  rw [he]
  simp only [Result.andThen_ok, Bool.not_true, Bool.false_eq_true, if_false, Sem.run_bind]
  rw [hp 1 b w rfl]
  simp only [Result.andThen_ok]
  rw [hp 1 b w rfl]
  simp only [Result.andThen_ok]
  rw [he]
  simp only [Result.andThen_ok, Bool.not_true, Bool.false_eq_true, if_false, Sem.run_bind]
  rw [hp 2 c w rfl]
  simp only [Result.andThen_ok]
  rw [hp 2 c w rfl]
  simp only [Result.andThen_ok]
  rw [he]
  simp only [Result.andThen_ok, Bool.not_true, Bool.false_eq_true, if_false, Sem.run_bind]
  rw [hp 3 d w rfl]
  simp only [Result.andThen_ok]
  rw [hp 3 d w rfl]
  simp only [Result.andThen_ok]
  rw [he]
  simp only [Result.andThen_ok, Bool.not_true, Bool.false_eq_true, if_false, Sem.run_pure]

end Go.Proofs.Ytpmfadepinmmjaa
