/-
  'append(s, x...)' as a step of a drawn region: integers onto integers of one's own.
-/
import Derived.Test.YtpmfadepinmmjaaMem
import Derived.Deep.AppendLies
import Derived.Deep.RegionLaw
namespace Go.Proofs.Ytpmfadepinmmjaa
open Go.RowKit

theorem step_append_intsx {P : Program} {ops : Array Oper} {o : Oper} {a : Act} {w : World} {K : Act → World → Prop} {Q : Exit → Act → World → Prop} {E : Prop} (hgd : o.guard = none) (s x : Operand) (t : TypeId)
    (ho : o.op = .call { callee := .builtin .append, args := #[s, x], argTypes := #[t, t] }) (e : TypeId) (k : IntKind) (z : Int) (bytes : Nat) (ht : P.underlying t = some (.slice e))
    (hinfo : (P.info? e).map (fun i => (i.zero, i.size, i.bytes)) = some (some (.int k z), 1, bytes)) (hby : bytes ≤ 8) (w0 : World) (hx0 : Ext w0 w)
    (v : Value) (l : List Int) (hs : a.eval s = v) (hown : OwnI k e w0.heap.size w v l)
    (y : Value) (m : List Int) (hx : a.eval x = y) (hr : RdI k w y m) (hm0 : 0 < m.length) (hfit : Fits (l.length + m.length))
    (h : ∀ v' w', OwnI k e w0.heap.size w' v' (l ++ m) → Ext w0 w' → K (a.put o.dst v') w') :
    if Region.wanted o (yielded ops a.tmps) = true then Oper.wp P o a w K Q else E := by
  obtain ⟨i0, hi, hz0, hz1, hz2⟩ := info_parts hinfo
  have hf := hfit.out
  obtain ⟨hl, ad, c, rfl, hmc, hcm, hnil, hsome⟩ := hr
  obtain ⟨b, f, rfl, hlt, hc⟩ := hsome hm0
  refine step_append_lies _ hgd s x t ho w0.heap.size e i0 (.int k z) 1 bytes ht hi hz0 hz1 hz2 rfl (by decide) v l.length _ hs hown ⟨b, f, none⟩ m.length c (cellsOf k m) hx (by simp) (fun j q hj => by rw [add_none]; exact hc j q hj) cellsOf_one hm0 (by unfold maxLen; omega) ?_ hx0.size _ rfl ?_
  · have : (l.length + m.length) * bytes ≤ 1099511627776 * 8 := Nat.mul_le_mul hf hby
    omega
  · intro g cap w' ho' hg' _ _
    refine h _ w' ?_ (below_own hx0 hown hg' (Nat.le_refl _) hx0.size)
    unfold OwnI
    simpa using ho'
theorem step_append_rdx {P : Program} {ops : Array Oper} {o : Oper} {a : Act} {w : World} {K : Act → World → Prop} {Q : Exit → Act → World → Prop} {E : Prop} (hgd : o.guard = none) (s x : Operand) (t : TypeId)
    (ho : o.op = .call { callee := .builtin .append, args := #[s, x], argTypes := #[t, t] }) (e : TypeId) (z : Value) (size bytes : Nat) (ht : P.underlying t = some (.slice e))
    (hinfo : (P.info? e).map (fun i => (i.zero, i.size, i.bytes)) = some (some z, size, bytes)) (hzs : z.cells.size = size) (hsz : 0 < size) (hby : bytes ≤ 64) (B : Nat) (hB : B ≤ w.heap.size) (v : Value) (n : Nat) (xs : List Value) (hs : a.eval s = v) (hown : w.ownsRow B e size v n xs)
    (y : Value) (ys : List Value) (hx : a.eval x = y) (hr : Rd w size y 1 ys) (h1 : ∀ u ∈ ys, u.oneCell' = true) (hfit : n ≤ 1000000)
    (h : ∀ g cap w', w'.ownsRow B e size (.slice (some ⟨g, 0, none⟩) (n + 1) cap) (n + 1) (xs ++ ys) → w.grownBy w' v.ownBlock → (v.ownBlock = some g ∨ g = w.heap.size) → K (a.put o.dst (.slice (some ⟨g, 0, none⟩) (n + 1) cap)) w') :
    if Region.wanted o (yielded ops a.tmps) = true then Oper.wp P o a w K Q else E := by
  obtain ⟨i0, hi, hz0, hz1, hz2⟩ := info_parts hinfo
  obtain ⟨hl, ad, c, rfl, hmc, hcm, hnil, hsome⟩ := hr
  obtain ⟨b, f, rfl, hlt, hc⟩ := hsome (by omega)
  refine step_append_lies _ hgd s x t ho B e i0 z size bytes ht hi hz0 hz1 hz2 hzs hsz v n _ hs hown ⟨b, f, none⟩ 1 c ys hx hl (fun j q hj => by rw [add_none]; exact hc j q hj) h1 (by decide) (by unfold maxLen; omega) ?_ hB _ rfl ?_
  · have : (n + 1) * bytes ≤ 1000001 * 64 := Nat.mul_le_mul (by omega) hby
    omega
  · intro g cap w' ho' hg' hat _
    exact h g cap w' ho' hg' hat

/-- 'append(s, x...)', integers, x not empty; where the new row lies is told too -/
theorem wpList_append_intsa {P : Program} {w : World} {ops : Array Oper} {rest : List Oper} {o : Oper} {a : Act} {Q : Exit → Act → World → Prop} (hgd : o.guard = none) (s x : Operand) (t : TypeId)
    (ho : o.op = .call { callee := .builtin .append, args := #[s, x], argTypes := #[t, t] })
    (e : TypeId) (k : IntKind) (z : Int) (bytes : Nat) (ht : P.underlying t = some (.slice e)) (hinfo : (P.info? e).map (fun i => (i.zero, i.size, i.bytes)) = some (some (.int k z), 1, bytes)) (hby : bytes ≤ 8)
    (w0 : World) (hx0 : Ext w0 w) (v : Value) (l : List Int) (hs : a.eval s = v) (hown : OwnI k e w0.heap.size w v l)
    (y : Value) (m : List Int) (hx : a.eval x = y) (hr : RdI k w y m) (hm0 : 0 < m.length) (hfit : Fits (l.length + m.length))
    (h : ∀ v' w', OwnI k e w0.heap.size w' v' (l ++ m) → Ext w0 w' → w.grownBy w' v.ownBlock → (∀ g, v'.ownBlock = some g → v.ownBlock = some g ∨ w.heap.size ≤ g) → wpList P ops Q rest (a.put o.dst v') w') : wpList P ops Q (o :: rest) a w := by
  obtain ⟨i0, hi, hz0, hz1, hz2⟩ := info_parts hinfo
  have hf := hfit.out
  obtain ⟨hl, ad, c, rfl, hmc, hcm, hnil, hsome⟩ := hr
  obtain ⟨b, f, rfl, hlt, hc⟩ := hsome hm0
  refine wpList_append_lies _ hgd s x t ho w0.heap.size e i0 (.int k z) 1 bytes ht hi hz0 hz1 hz2 rfl (by decide) v l.length _ hs hown ⟨b, f, none⟩ m.length c (cellsOf k m) hx (by simp) (fun j q hj => by rw [add_none]; exact hc j q hj) cellsOf_one hm0 (by unfold maxLen; omega) ?_ hx0.size _ rfl ?_
  · have : (l.length + m.length) * bytes ≤ 1099511627776 * 8 := Nat.mul_le_mul hf hby
    omega
  · intro g cap w' ho' hg' hat _
    refine h _ w' ?_ (below_own hx0 hown hg' (Nat.le_refl _) hx0.size) hg' ?_
    · unfold OwnI; simpa using ho'
    · intro g' hg2
      cases hg2
      rcases hat with h | h
      · exact .inl h
      · exact .inr (Nat.le_of_eq h.symm)
/-- a cell that is not in the own row stays, and is not in the new one -/
theorem grown_keep {w w' : World} {v v' : Value} {q : Nat} (hg : w.grownBy w' v.ownBlock) (hat : ∀ g, v'.ownBlock = some g → v.ownBlock = some g ∨ w.heap.size ≤ g) (hq : q < w.heap.size) (hv : v.ownBlock ≠ some q) :
    v'.ownBlock ≠ some q ∧ ∀ {o : Nat} {u : Value}, w.cell? ⟨q, o, none⟩ = some u → w'.cell? ⟨q, o, none⟩ = some u := by
  refine ⟨fun h => ?_, fun h => hg.cell h (fun e => hv e.symm)⟩
  rcases hat q h with h | h
  · exact hv h
  · omega
end Go.Proofs.Ytpmfadepinmmjaa
