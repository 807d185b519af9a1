/-
  gradinelaw14.KarmaNil answers true. No condition.
-/
import Derived.Test.YtepnmclgkbphmaaKWakes
namespace Go.Proofs.Ytepnmclgkbphmaa
open Go.RowKit

set_option maxHeartbeats 2000000 in
theorem walk_KarmaNil (v0 v1 : Value) (w : World) (_h0 : IsRecs Try.prog 44 w v0) (h1 : IsInt .i64 v1) :
    Calls Try.prog 7 #[v0, v1] w fun e w' => e = .returned (.bool true) ∧ Ext w w' := by
  obtain ⟨m, rfl, _⟩ := h1
  go_enter Try.func7, Try.ntmps7
  go_wp2_with fail
  refine (wakes14 _).mono ?_
  rintro e w1 ⟨rfl, hx1⟩
  go_wp2_with fail
  refine (krange_nil m _).mono ?_
  rintro e w2 ⟨rfl, hx2⟩
  go_wp2_with fail
  refine (kset_nil v0 _).mono ?_
  rintro e w3 ⟨rfl, rfl⟩
  go_wp2_with fail
  refine (kpart_nil m 1 _).mono ?_
  rintro e w4 ⟨rfl, hx4⟩
  go_wp2_with fail
  refine (kloop_nil m _).mono ?_
  rintro e w5 ⟨rfl, hx5⟩
  go_wp2_with fail
  refine (kparts_nil _).mono ?_
  rintro e w6 ⟨rfl, rfl⟩
  go_wp2_with fail
  go_ret
  exact ⟨rfl, (by repeat' (first | (with_reducible exact Ext.refl _) | (with_reducible assumption) | (with_reducible refine Ext.alloc ?_ _) | (with_reducible refine Ext.drewN ?_ _) | (with_reducible refine Ext.drew ?_) | (with_reducible refine Ext.trans ?_ (by assumption))))⟩
end Go.Proofs.Ytepnmclgkbphmaa
