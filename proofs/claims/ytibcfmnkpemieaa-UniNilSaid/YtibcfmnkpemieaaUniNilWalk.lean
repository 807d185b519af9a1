/-
  gradinelaw13.UniNil answers true. No condition.
-/
import Derived.Test.YtibcfmnkpemieaaUniWakes
import Derived.Test.YtibcfmnkpemieaaFrame
namespace Go.Proofs.Ytibcfmnkpemieaa
open Go.RowKit

theorem walk_UniNil (v0 : Value) (w : World) (h0 : IsInt .i64 v0) :
    Calls Try.prog 7 #[v0] w fun e w' => e = .returned (.bool true) ∧ Ext w w' := by
  obtain ⟨b, rfl, _⟩ := h0
  go_enter Try.func7, Try.ntmps7
  go_wp2_with fail
  refine (wakes13 _).mono ?_
  rintro e w1 ⟨rfl, hx1⟩
  go_wp2_with fail
  refine (uuse_nil b _).mono ?_
  rintro e w2 ⟨rfl, rfl⟩
  go_wp2_with fail
  refine (uyard_nil b _).mono ?_
  rintro e w2 ⟨rfl, rfl⟩
  go_wp2_with fail
  refine (udrop_nil b _).mono ?_
  rintro e w2 ⟨rfl, rfl⟩
  go_wp2_with fail
  refine (ulevel_nil b _).mono ?_
  rintro e w2 ⟨rfl, rfl⟩
  go_wp2_with fail
  refine (ucount_nil b _).mono ?_
  rintro e w2 ⟨rfl, rfl⟩
  go_wp2_with fail
  refine (uall_nil _).mono ?_
  rintro e w2 ⟨rfl, rfl⟩
  go_wp2_with fail
  go_ret
  exact ⟨rfl, (by repeat' (first | (with_reducible exact Ext.refl _) | (with_reducible assumption) | (with_reducible refine Ext.alloc ?_ _) | (with_reducible refine Ext.drewN ?_ _) | (with_reducible refine Ext.drew ?_) | (with_reducible refine Ext.trans ?_ (by assumption))))⟩
end Go.Proofs.Ytibcfmnkpemieaa
