/-
  gradinelaw03.wakes. No condition.
-/
import Derived.Test.YtmkobmkaalfecaaRight
namespace Go.Proofs.Ytmkobmkaalfecaa
open Go.RowKit

def N0 (i : Nat) : Int := if i = 5 ∨ i = 14 then 0 else 1
theorem least_any (w : World) : Calls Try.prog 56 #[] w fun e w' => e = .returned (cfgV N0 (.slice none 0 0)) ∧ Ext w w' := by
  go_enter Try.func56, Try.ntmps56
  go_wp2_with fail
  refine bodyPost_ret (results_cell_row rfl _ _ _ _ _ _ _ rfl (heap_alloc_new w _) Try.underlying75 rfl (by kernel_rfl)) rfl ?_
  exact ⟨rfl, (by repeat' (first | (with_reducible exact Ext.refl _) | (with_reducible assumption) | (with_reducible refine Ext.alloc ?_ _) | (with_reducible refine Ext.drewN ?_ _) | (with_reducible refine Ext.drew ?_) | (with_reducible refine Ext.trans ?_ (by assumption))))⟩
theorem n0_ok : CfgOk N0 0 (fun _ _ => 0) := by
  refine ⟨?_, ?_, ?_, ?_, ?_, ?_, ?_, ?_, ?_, ?_, ?_, ?_, ?_, ?_⟩
  · intro t ht
    have : t = 0 ∨ t = 1 ∨ t = 2 := by omega
    rcases this with rfl | rfl | rfl <;> simp [Btw, N0]
  all_goals first | (simp [Btw, N0]; done) | skip
  exact ⟨by simp, by simp, by omega⟩
theorem wakes03 (w : World) : Calls Try.prog 25 #[] w fun e w' => e = .returned (.bool true) ∧ Ext w w' := by
  go_enter Try.func25, Try.ntmps25
  go_wp2_with fail
  refine (least_any _).mono ?_
  rintro e w1 ⟨rfl, hx1⟩
  unfold cfgV
  go_wp2_with fail
  refine (cright_true N0 _ 0 (fun _ _ => 0) (fun _ => false) _ ⟨none, 0, rfl, by omega, by omega, fun _ => ⟨rfl, rfl⟩, fun h => by omega⟩ (fun i j hi => by omega) n0_ok).mono ?_
  rintro e w2 ⟨rfl, hx2⟩
  go_wp2_with fail
  go_ret
  exact ⟨rfl, (by repeat' (first | (with_reducible exact Ext.refl _) | (with_reducible assumption) | (with_reducible refine Ext.alloc ?_ _) | (with_reducible refine Ext.drewN ?_ _) | (with_reducible refine Ext.drew ?_) | (with_reducible refine Ext.trans ?_ (by assumption))))⟩
end Go.Proofs.Ytmkobmkaalfecaa
