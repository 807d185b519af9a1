/-
  gradinelaw13.wakes, and a stack that is not there. No condition.
-/
import Derived.Test.YtibcfmnkpemieaaUniLaw
namespace Go.Proofs.Ytibcfmnkpemieaa
open Go.RowKit

theorem OwnM.len {base : Nat} {w : World} {v : Value} {ms : List (Nat × Nat)} (h : OwnM base w v ms) : ∃ a c, v = .slice a ms.length c := by
  obtain ⟨_, a, c, rfl, _⟩ := Rd.of_own h
  exact ⟨a, c, rfl⟩
theorem okC_one : okC 1 := ⟨by omega, by omega⟩

set_option maxRecDepth 10000 in
theorem wakes13 (w : World) : Calls Try.prog 13 #[] w fun e w' => e = .returned (.bool true) ∧ Ext w w' := by
  have H1 := Lib.hid (show nextU (capF 1 1 1) [] (fun _ => 0) 5 = 1 by decide)
  have H2 := Lib.hid (show nextU (capF 1 1 1) (usedM (capF 1 1 1) [] (fun _ => 0) 5).1 (usedM (capF 1 1 1) [] (fun _ => 0) 5).2 6 = 2 by decide)
  have H3 := Lib.hid (show nextU (capF 1 1 1) (usedM (capF 1 1 1) (usedM (capF 1 1 1) [] (fun _ => 0) 5).1 (usedM (capF 1 1 1) [] (fun _ => 0) 5).2 6).1 (usedM (capF 1 1 1) (usedM (capF 1 1 1) [] (fun _ => 0) 5).1 (usedM (capF 1 1 1) [] (fun _ => 0) 5).2 6).2 5 = 1 by decide)
  have H4 := Lib.hid (show movesU (capF 1 1 1) (usedM (capF 1 1 1) (usedM (capF 1 1 1) [] (fun _ => 0) 5).1 (usedM (capF 1 1 1) [] (fun _ => 0) 5).2 6).1 (usedM (capF 1 1 1) (usedM (capF 1 1 1) [] (fun _ => 0) 5).1 (usedM (capF 1 1 1) [] (fun _ => 0) 5).2 6).2 5 = [] by decide)
  go_enter Try.func13, Try.ntmps13
  go_wp2_with fail
  refine (unew 1 1 1 _).mono ?_
  intro e w1 hr
  rcases hr with ⟨hbad, _⟩ | ⟨_, p, bs, be, rfl, hU, hp, hb1, hb2, hx1⟩
  · exact absurd ⟨okC_one, okC_one, okC_one⟩ hbad
  have hS : ∀ s ∈ [p, bs, be], w.heap.size ≤ s := by simp; omega
  go_wp2_with fail
  refine (uuse p bs be _ _ _ _ hU 5 (by omega)).mono ?_
  rintro e w2 ⟨v2, rfl, hU2, ho2, hc2⟩
  rw [H1.out]
  have hx2 := hx1.chg hc2 hS
  obtain ⟨a2, k2, rfl⟩ := ho2.len
  clear hc2 hx1 hU
  go_wp2_with fail
  refine (uuse p bs be _ _ _ _ hU2 6 (by omega)).mono ?_
  rintro e w3 ⟨v3, rfl, hU3, ho3, hc3⟩
  rw [H2.out]
  have hx3 := hx2.chg hc3 hS
  obtain ⟨a3, k3, rfl⟩ := ho3.len
  clear hc3 hx2 hU2 ho2
  go_wp2_with fail
  refine (uuse p bs be _ _ _ _ hU3 5 (by omega)).mono ?_
  rintro e w4 ⟨v4, rfl, hU4, ho4, hc4⟩
  rw [H3.out]
  have hx4 := hx3.chg hc4 hS
  rw [H4.out] at ho4
  obtain ⟨a4, k4, rfl⟩ := ho4.len
  clear hc4 hx3 hU3 ho3 hU4
  go_wp2_with fail
  go_ret
  exact ⟨rfl, hx4⟩

theorem uuse_nil (b : Int) (w : World) : Calls Try.prog 15 #[.pointer none, .int .i64 b] w fun e w' => e = .returned (.tuple #[.int .i64 0, .slice none 0 0, .int .i64 7]) ∧ w = w' := by
  go_enter Try.func15, Try.ntmps15
  go_wp2_with fail
  go_ret3
  exact ⟨rfl, rfl⟩
theorem uyard_nil (b : Int) (w : World) : Calls Try.prog 27 #[.pointer none, .int .i64 b] w fun e w' => e = .returned (.tuple #[.int .i64 0, .bool false]) ∧ w = w' := by
  go_enter Try.func27, Try.ntmps27
  go_wp2_with fail
  go_ret2
  exact ⟨rfl, rfl⟩
theorem ulevel_nil (b : Int) (w : World) : Calls Try.prog 17 #[.pointer none, .int .i64 b] w fun e w' => e = .returned (.int .i64 0) ∧ w = w' := by
  go_enter Try.func17, Try.ntmps17
  go_wp2_with fail
  go_ret
  exact ⟨rfl, rfl⟩
theorem ucount_nil (b : Int) (w : World) : Calls Try.prog 16 #[.pointer none, .int .i64 b] w fun e w' => e = .returned (.int .i64 0) ∧ w = w' := by
  go_enter Try.func16, Try.ntmps16
  go_wp2_with fail
  go_ret
  exact ⟨rfl, rfl⟩
theorem uall_nil (w : World) : Calls Try.prog 18 #[.pointer none] w fun e w' => e = .returned (.slice none 0 0) ∧ w = w' := by
  go_enter Try.func18, Try.ntmps18
  go_wp2_with fail
  go_ret
  exact ⟨rfl, rfl⟩
theorem udrop_nil (b : Int) (w : World) : Calls Try.prog 21 #[.pointer none, .int .i64 b] w fun e w' => e = .returned (.bool false) ∧ w = w' := by
  go_enter Try.func21, Try.ntmps21
  go_wp2_with fail
  refine (ulevel_nil b _).mono ?_
  rintro e w1 ⟨rfl, rfl⟩
  go_wp2_with fail
  go_ret
  exact ⟨rfl, rfl⟩
end Go.Proofs.Ytibcfmnkpemieaa
