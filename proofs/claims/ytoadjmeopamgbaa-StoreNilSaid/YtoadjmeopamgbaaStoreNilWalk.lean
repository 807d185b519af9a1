/-
  gradinelaw06.StoreNil answers true. No condition.
-/
import Derived.Test.YtoadjmeopamgbaaStWakes
import Derived.Test.YtoadjmeopamgbaaStArg
namespace Go.Proofs.Ytoadjmeopamgbaa
open Go.RowKit

set_option maxRecDepth 100000 in
set_option maxHeartbeats 2000000 in
theorem walk_StoreNil (v0 : Value) (w : World) (h0 : IsFlat Try.prog 38 w v0) :
    Calls Try.prog 7 #[v0] w fun e w' => e = .returned (.bool true) ∧ Ext w w' := by
  obtain ⟨⟨a, s, b, o, bk, D⟩, dv, rfl, hD, _⟩ := write_of h0
  obtain ⟨ad, n, cc, rfl⟩ := hD.isSlice
  have HW := Lib.hid (fun w' => swrite_nil w' a s b o bk (.slice ad n cc) ⟨_, _, _, rfl⟩)
  have HR := Lib.hid (fun w' => sRead_nil w' bk)
  have HO := Lib.hid (fun w' => sopen_nil w' (.agg #[.int .i64 1, .int .i64 1, .int .i64 1, .int .i64 1]) ⟨_, _, _, _, rfl⟩)
  clear hD h0
  show Calls Try.prog 7 #[.agg #[.int .i64 a, .int .i64 s, .int .i64 b, .int .i64 o, .int .i64 bk, .slice ad n cc]] w _
  go_enter Try.func7, Try.ntmps7
  go_upto_region 1 with fail
  have hxA : Ext w (w.alloc (.cells #[.int .i64 a, .int .i64 s, .int .i64 b, .int .i64 o, .int .i64 bk, .slice ad n cc] 38)) := (Ext.refl w).alloc _
  have e0 := cell_new w #[.int .i64 a, .int .i64 s, .int .i64 b, .int .i64 o, .int .i64 bk, .slice ad n cc] 38 (0, 0) (j := 0) rfl
  have e1 := cell_new w #[.int .i64 a, .int .i64 s, .int .i64 b, .int .i64 o, .int .i64 bk, .slice ad n cc] 38 (0, 0) (j := 1) rfl
  have e2 := cell_new w #[.int .i64 a, .int .i64 s, .int .i64 b, .int .i64 o, .int .i64 bk, .slice ad n cc] 38 (0, 0) (j := 2) rfl
  have e3 := cell_new w #[.int .i64 a, .int .i64 s, .int .i64 b, .int .i64 o, .int .i64 bk, .slice ad n cc] 38 (0, 0) (j := 3) rfl
  have e4 := cell_new w #[.int .i64 a, .int .i64 s, .int .i64 b, .int .i64 o, .int .i64 bk, .slice ad n cc] 38 (0, 0) (j := 4) rfl
  have e5 := cell_new w #[.int .i64 a, .int .i64 s, .int .i64 b, .int .i64 o, .int .i64 bk, .slice ad n cc] 38 (0, 0) (j := 5) rfl
  generalize (w.alloc (.cells #[.int .i64 a, .int .i64 s, .int .i64 b, .int .i64 o, .int .i64 bk, .slice ad n cc] 38)) = w1 at *
  obtain ⟨pw, hpw⟩ : ∃ pw, pw = w.heap.size := ⟨_, rfl⟩
  rw [← hpw] at e0 e1 e2 e3 e4 e5 ⊢
  clear hpw
  go_wp2_with fail
  refine (wakes06 _).mono ?_
  rintro e w2 ⟨rfl, hx2⟩
  have e0 := hx2.cellv e0
  have e1 := hx2.cellv e1
  have e2 := hx2.cellv e2
  have e3 := hx2.cellv e3
  have e4 := hx2.cellv e4
  have e5 := hx2.cellv e5
  go_wp2_with fail
  refine (HW.out _).mono ?_
  rintro e w3 ⟨rfl, hx3⟩
  have e4 := hx3.cellv e4
  go_wp2_with fail
  refine (HR.out _).mono ?_
  rintro e w4 ⟨rfl, hx4⟩
  go_wp2_with fail
  refine (HO.out _).mono ?_
  rintro e w5 ⟨rfl, hx5⟩
  go_wp2_with fail
  refine (sDown_nil _).mono ?_
  rintro e w6 ⟨rfl, hx6⟩
  go_wp2_with fail
  go_ret
  exact ⟨rfl, hxA.trans (hx2.trans (hx3.trans (hx4.trans (hx5.trans (hx6.trans (by repeat' (first | (with_reducible exact Ext.refl _) | (with_reducible assumption) | (with_reducible refine Ext.alloc ?_ _) | (with_reducible refine Ext.drewN ?_ _) | (with_reducible refine Ext.drew ?_) | (with_reducible refine Ext.trans ?_ (by assumption)))))))))⟩
end Go.Proofs.Ytoadjmeopamgbaa
