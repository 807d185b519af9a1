/-
  'WideOrder': for every input the law answers true, and each argument reads behind the call as it read before. No condition but the form's own reach.
-/
import Derived.Test.YthoioocfembkgaaRows
import Derived.Test.YthoioocfembkgaaFrame
import Derived.Test.YthoioocfembkgaaWideOrderWalk
import Derived.SizedLaws
import Derived.Lib.SmallJoins
namespace Go.Proofs.Ythoioocfembkgaa.wideOrder
open Go.ChangeShapes Go.WideShapes Go.ChangeAt Go.RowKit
set_option linter.unusedVariables false

set_option maxRecDepth 100000 in
theorem lifted (os : Os) (started : os.Started) (H : Type) (enc : TypeId × Value → H) :
    ReturnsInHanded {} Try.checked os 3 .any (Rows.wideOrderSpec.pre6 enc Try.prog Try.f3 Rows.wideOrderRow.domain false) (Rows.wideOrderSpec.post enc Try.prog Try.f3 false true false false) := by
  refine returnsInHanded_of_change_sized (C := Try.checked) own started (by kernel_rfl) Try.func3
    (ChangeSpec.witness6 (enc := enc) (C := Try.checked) false ⟨#[], #[.slice none 0 0], []⟩ 8 (by kernel_rfl) (by kernel_rfl) (by kernel_rfl) (by kernel_rfl)) ?_
  intro W base args ds gs before hval0 hW hcnd hsz0 _
  have hsz : (DataW.weightsEach Try.prog (Try.f3.params.toList ++ Rows.wideOrderSpec.plain.varTypes Try.prog) (ds ++ gs)).all (· ≤ reachBytes) = true := hsz0
  have hval : ∀ (j : Nat) t v, Try.f3.params[j]? = some t → args[j]? = some v → Value.okWide Try.prog W .any base t v := hval0
  have hW' := hW
  obtain ⟨p, q, hA0, hV, rfl, hfz, hnd⟩ := hW
  have hA : DataW.TrodAll enc Try.prog W 0 (fun _ => true) true Try.f3.params.toList args.toList ds p := hA0
  rw [Try.params3] at hA hval hsz
  obtain ⟨v0, vs0, d0, ds0, p0, q0, hargs, rfl, rfl, h0, r0⟩ := trodAll_cons hA
  obtain ⟨rfl, rfl, rfl⟩ := trodAll_nil r0
  obtain rfl : args = #[v0] := by cases args; simp_all
  obtain ⟨rfl, rfl⟩ := trodVars_none hV
  have lt0 : ∀ x ∈ p0, x.block < W.heap.size := by obtain ⟨m, hm⟩ := h0; exact DataW.trod_lt m _ _ _ hm
  clear hA0 hval0
  have h0k := h0
  obtain ⟨n, F, hr, _⟩ := is_rows Try.underlying22 Try.underlying29 (by kernel_rfl) (by kernel_rfl) (by decide) (by intro j f hj; rcases j with _ | _ | j <;> simp at hj <;> (subst hj; exact Try.underlying3)) (hval 0 22 v0 rfl rfl) h0
  have hlen : n ≤ 8796093022208 := by
    obtain ⟨a, c, rfl, _⟩ := hr
    have hl := Go.Joins.sliceLen_Trod Try.underlying22 h0k
    cases d0 with
    | slice elems spare =>
      have h9 := sized_slice hsz (j := 0) (t := 22) (e := 29) rfl rfl Try.underlying22
      rw [show Try.prog.bytesOf 29 = 16 by kernel_rfl] at h9
      have h8 : elems.length = n := hl
      unfold reachBytes at h9
      omega
    | _ => have h8 : 0 = n := hl; omega
  refine (walk_WideOrder v0 W ⟨n, F, hr, hlen⟩).mono fun e W' ⟨he, bel⟩ => ?_
  subst he
  exact ⟨_, rfl, _, _, _, [], _, [], hW', trodAll_mk1 (shut_bool Try.underlying4 _), (trodAll_cons_mk (Below.trod laidOut (by kernel_rfl) (of_decide_eq_true (by kernel_rfl)) h0 bel lt0) trodAll_mk0), rfl, bel.frame _, fun h => by cases h⟩

theorem over : Rows.wideOrderRow.holds Try.pinned (OpenSpec.ofChange Rows.wideOrderSpec) :=
  OpenClaim.holds_of_wide 3 Try.f3 rfl rfl rfl rfl rfl rfl rfl ⟨rfl, rfl, rfl, rfl, rfl⟩ rfl rfl rfl rfl rfl (by kernel_rfl) Try.func3 (by kernel_rfl)
    (of_decide_eq_true (by kernel_rfl)) (by unfold Func.isWrapper; first | (rw [if_pos (by decide +kernel)]; kernel_rfl) | (rw [if_neg (by decide +kernel)]; exact ⟨rfl, rfl⟩))
    (fun os started H enc _ => lifted os started H enc)

/-- the statement -/
theorem proved : Rows.WideOrderSaid := over
#print axioms proved
end Go.Proofs.Ythoioocfembkgaa.wideOrder
