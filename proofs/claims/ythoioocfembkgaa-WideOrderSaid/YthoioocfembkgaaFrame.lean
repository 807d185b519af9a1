/-
  What an argument that came in is, as the walks take it: integers, truths, slices of integers; and that what the reader reads gives just that. No condition.
-/
import Derived.Test.YthoioocfembkgaaRows
import Derived.Test.YthoioocfembkgaaMem
import Derived.ProofKit
import Derived.OpenShut
import Derived.ShutString
import Derived.ChangeOld
import Derived.Below
namespace Go.Proofs.Ythoioocfembkgaa
open Go.ChangeShapes Go.WideShapes Go.ChangeAt Go.RowKit

theorem own : ownKnob Try.prog.godebug = none := by kernel_rfl
theorem laidOut : laidOutB Try.prog = true := by kernel_rfl

def IsInt (k : IntKind) (v : Value) : Prop := ∃ a : Int, v = .int k a ∧ (Lit.int k a).wf = true
def IsBool (v : Value) : Prop := ∃ b : Bool, v = .bool b
def IsInts (k : IntKind) (w : World) (v : Value) : Prop := ∃ l : List Int, RdI k w v l ∧ ∀ x ∈ l, (Lit.int k x).wf = true

section
variable {H : Type} {enc : TypeId × Value → H} {P : Program} {w : World} {base : Nat} {spare : Nat → Bool} {held : Bool} {r : Reach} {b0 : Nat} {t e : TypeId} {k : IntKind} {v : Value} {d : DataW H} {p : List MemPlace}

theorem is_int (ht : P.underlying t = some (.int k)) (hv : Value.okWide P w r b0 t v) (h : DataW.Trod enc P w base spare held t v d p) : IsInt k v := by
  obtain ⟨a, rfl, _, _, wf⟩ := open_int ht hv h
  exact ⟨a, rfl, wf⟩

theorem is_bool (ht : P.underlying t = some .bool) (hv : Value.okWide P w r b0 t v) (h : DataW.Trod enc P w base spare held t v d p) : IsBool v := by
  obtain ⟨a, rfl, _, _⟩ := open_bool ht hv h
  exact ⟨a, rfl⟩

theorem addr_of_cell {x : Addr} {u : Value} (h : w.cell? x = some u) : ∃ b o, x = ⟨b, o, none⟩ := by
  obtain ⟨b, o, s⟩ := x
  cases s with
  | none => exact ⟨b, o, rfl⟩
  | some s =>
    exfalso
    simp only [World.cell?] at h
    split at h <;> simp at h

theorem is_ints (ht : P.underlying t = some (.slice e)) (he : P.underlying e = some (.int k)) (hc : P.cellsOf e = 1) (hv : Value.okWide P w r b0 t v) (h : DataW.Trod enc P w base spare held t v d p) : IsInts k w v := by
  obtain ⟨a, len, cap, rfl⟩ := okWide_slice ht hv
  obtain ⟨fuel, hf⟩ := h
  rcases open_ints ht he hc hf with ⟨hcs, _⟩ | ⟨x, l, c, zs, hcs, _, hl, hm, hz, _, hcell, hwz⟩
  · simp [Value.cells] at hcs
    obtain ⟨rfl, rfl, rfl⟩ := hcs
    exact ⟨[], RdI.nil _ _, by simp⟩
  · simp [Value.cells] at hcs
    obtain ⟨rfl, rfl, rfl⟩ := hcs
    have hlz : len ≤ zs.length := by rw [hz]; split <;> omega
    have hlen : (zs.take len).length = len := by simp; omega
    refine ⟨zs.take len, ⟨by simp, some x, cap, by rw [hlen], by omega, hm, fun h => (by cases h), fun h0 => ?_⟩, fun y hy => hwz y (List.mem_of_mem_take hy)⟩
    rw [hlen] at h0
    obtain ⟨b, o, rfl⟩ := addr_of_cell (x := x) (by simpa [Addr.add] using hcell 0 (by omega))
    have hh := hcell 0 (by omega)
    have hadd : ∀ j, (⟨b, o, none⟩ : Addr).add j = ⟨b, o + j, none⟩ := by intro j; unfold Addr.add; split <;> simp_all
    rw [hadd] at hh
    refine ⟨b, o, rfl, cell_lt hh, fun j u hu => ?_⟩
    rw [List.getElem?_map] at hu
    obtain ⟨y, hy, rfl⟩ := Option.map_eq_some_iff.1 hu
    have hj : j < len := by have := (List.getElem?_eq_some_iff.1 hy).1; omega
    have := hcell j (by omega)
    rw [hadd] at this
    rw [this]
    rw [List.getElem?_take, if_pos hj] at hy
    simp [List.getD, hy]
end
end Go.Proofs.Ythoioocfembkgaa
