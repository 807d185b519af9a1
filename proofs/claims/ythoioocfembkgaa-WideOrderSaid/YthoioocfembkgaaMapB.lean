/-
  A look-up in a map of truths that the call itself has made, at the operation; the map as a set of integers. No condition.
-/
import Derived.Test.YthoioocfembkgaaMem
import Derived.Maps.OwnSet
namespace Go.Proofs.Ythoioocfembkgaa
open Go.RowKit Go.Maps

theorem plainElem_bool_inv {H : Type} {P : Program} {e : TypeId} (he : P.underlying e = some .bool) {v : Value} {z : DataW H × List MemPlace} (h : plainElem P e v = some z) : ∃ x, v = .bool x ∧ z = (.lit (.bool x), []) := by
  unfold plainElem at h
  rw [he] at h
  cases v <;> simp at h
  exact ⟨_, rfl, h.symm⟩
theorem wpList_lookup_own_bool {H : Type} {P : Program} (w : World) {ops : Array Oper} {rest : List Oper} {o : Oper} {a : Act} {Q : Exit → Act → World → Prop}
    (hg : o.guard = none) (m x : Operand) (t : TypeId) (hop : o.op = Op.lookup t m x false)
    (k e : TypeId) (K : Keyed P k) (ht : P.underlying t = some (.map k e)) (he : P.underlying e = some .bool) (hz : (zeroValue e).run P w = .ok (.bool false) w) (b n : Nat) (D : DataW H)
    (hm : a.eval m = .map (some b)) (hown : w.ownsMap P k (plainElem P e) b n D) (key : Value) (kl : Lit) (hx : a.eval x = key) (hkey : keyOf P k key = some kl)
    (c : Bool) (hc : D.atKey kl (.lit (.bool false)) = .lit (.bool c)) (hK : wpList P ops Q rest (a.put o.dst (.bool c)) w) :
    wpList P ops Q (o :: rest) a w := by
  refine wpList_plain hg fun K' hK' => ?_
  obtain ⟨v, ps, hrun, hv⟩ := hown.lookup K ht hz (plainElem_bool he false) hkey
  obtain ⟨c', rfl, hc'⟩ := plainElem_bool_inv he hv
  simp only [Prod.mk.injEq] at hc'
  rw [hc] at hc'
  have e : c = c' := by simpa using hc'.1
  subst e
  unfold Oper.wp
  simp [execOp, hop, hm, hx, hrun, Result.andThen]
  exact hK' _ _ hK

/-- the map holds true at the numbers of a list, and nothing else -/
def SetOf (D : DataW Unit) (l : List Int) : Prop := IsMap D ∧ ∀ x : Int, D.atKey (.int .i64 x) (.lit (.bool false)) = .lit (.bool (decide (x ∈ l)))
theorem SetOf.nil : SetOf (.map []) [] := ⟨⟨_, rfl⟩, fun x => by simp [DataW.atKey]⟩
theorem SetOf.put {D : DataW Unit} {l : List Int} (h : SetOf D l) (y : Int) : SetOf (D.put (.int .i64 y) (.lit (.bool true))) (l ++ [y]) := by
  refine ⟨h.1.put _ _, fun x => ?_⟩
  by_cases e : x = y
  · subst e
    rw [atKey_put_same h.1 (show Go.WideAt.IsKeyLit (.int .i64 x) from True.intro)]
    simp
  · rw [atKey_put_other (fun h => by injection h; exact e (by assumption)), h.2 x]
    simp [e]
end Go.Proofs.Ythoioocfembkgaa
