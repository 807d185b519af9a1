/-
  gradinelaw10.ListNil answers true. No condition.
-/
import Derived.Test.YtclajmbmchaidaaDo10
import Derived.Test.YtclajmbmchaidaaRowsIn
namespace Go.Proofs.Ytclajmbmchaidaa
open Go.RowKit

theorem walk_ListNil (v0 : Value) (w : World) (h0 : IsAgg3 v0) :
    Calls Try.prog 8 #[v0] w fun e w' => e = .returned (.bool true) ∧ Ext w w' := by
  obtain ⟨k, l, b, rfl, _, _, _⟩ := h0
  go_enter Try.func8, Try.ntmps8
  go_wp2_with fail
  refine (wakes10 _).mono ?_
  rintro e w1 ⟨rfl, hx1⟩
  have c0 := hx1.cellv (cell_new w #[.int .i64 k, .int .i64 l, .int .i64 b] 27 (0, 0) (j := 0) rfl)
  have c1 := hx1.cellv (cell_new w #[.int .i64 k, .int .i64 l, .int .i64 b] 27 (0, 0) (j := 1) rfl)
  have c2 := hx1.cellv (cell_new w #[.int .i64 k, .int .i64 l, .int .i64 b] 27 (0, 0) (j := 2) rfl)
  go_wp2_with fail
  refine (first_nil l _).mono ?_
  rintro e w2 ⟨rfl, rfl⟩
  go_wp2_with fail
  refine (last_nil l _).mono ?_
  rintro e w2 ⟨rfl, rfl⟩
  go_wp2_with fail
  refine (of_nil b _).mono ?_
  rintro e w2 ⟨rfl, rfl⟩
  go_wp2_with fail
  refine (do_nil k l b _).mono ?_
  rintro e w2 ⟨rfl, hx2⟩
  replace c1 := hx2.cellv c1
  replace c2 := hx2.cellv c2
  go_wp2_with fail
  refine (all_nil l _).mono ?_
  rintro e w3 ⟨rfl, rfl⟩
  go_wp2_with fail
  refine (len_nil l _).mono ?_
  rintro e w3 ⟨rfl, rfl⟩
  go_wp2_with fail
  refine (ahead_nil b l _).mono ?_
  rintro e w3 ⟨rfl, rfl⟩
  go_wp2_with fail
  go_ret
  exact ⟨rfl, (by repeat' (first | (with_reducible exact Ext.refl _) | (with_reducible assumption) | (with_reducible refine Ext.alloc ?_ _) | (with_reducible refine Ext.drewN ?_ _) | (with_reducible refine Ext.drew ?_) | (with_reducible refine Ext.trans ?_ (by assumption))))⟩
end Go.Proofs.Ytclajmbmchaidaa
