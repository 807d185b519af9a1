/-
  gradinelaw12.wakes, and an MQ that is not there. No condition.
-/
import Derived.Test.YtibcfmnkpemieaaMq5
namespace Go.Proofs.Ytibcfmnkpemieaa
open Go.RowKit

theorem small_use {p : Shp} {s : Mq} {k b : Nat} (h : Small k s) : Small (k + 1) (useQ p s b) := by
  obtain ⟨h1, h2⟩ := h
  unfold useQ
  split
  · obtain ⟨a1, a2, _⟩ := ageQ_keeps p (p.qs - 1) 1 (placeQ p (oftenQ (tickQ s) b) b)
    refine ⟨by rw [a1]; show s.now + 1 ≤ k + 1; omega, fun x => ?_⟩
    rw [a2]
    show updN s.of b (s.of b + 1) x ≤ k + 1
    unfold updN
    split
    · have := h2 b; omega
    · have := h2 x; omega
  · exact ⟨by omega, fun x => by have := h2 x; omega⟩
theorem small_new (p : Shp) : Small 0 (newQ p) := ⟨Nat.le_refl _, fun _ => Nat.le_refl _⟩
def p0 : Shp := ⟨2, 2, 9, 0⟩
theorem p0_ok : ShpOk p0 := ⟨by decide, by decide, by decide, by decide, by decide, by decide, by decide⟩

set_option maxRecDepth 10000 in
theorem wakes12 (w : World) : Calls Try.prog 28 #[] w fun e w' => e = .returned (.bool true) ∧ Ext w w' := by
  have H1 := Lib.hid (show (okB (1 : Int) && hasQ p0 (addQ p0 (newQ p0) 1) (1 : Int).toNat : Bool) = true by decide +kernel)
  have H2 := Lib.hid (show outQ p0 (addQ p0 (useQ p0 (addQ p0 (newQ p0) 1) 1) 2) 3 = 2 by decide +kernel)
  have H3 := Lib.hid (show goneQ p0 (addQ p0 (useQ p0 (addQ p0 (newQ p0) 1) 1) 2) 3 = true by decide +kernel)
  have s0 := small_new p0
  have s1 := small_add (p := p0) (b := 1) s0
  have s2 := small_use (p := p0) (b := 1) s1
  have s3 := small_add (p := p0) (b := 2) s2
  have S0 := Lib.hid s0
  have S1 := Lib.hid s1
  have S2 := Lib.hid s2
  have S3 := Lib.hid s3
  clear s0 s1 s2 s3
  go_enter Try.func28, Try.ntmps28
  go_wp2_with fail
  refine (mnew p0 p0_ok _).mono ?_
  rintro e w1 ⟨pm, bs, be, rfl, hm1, hp, hb1, hb2, hx1⟩
  have hS : ∀ s ∈ [pm, bs, be], w.heap.size ≤ s := by simp; omega
  go_wp2_with fail
  refine (madd pm bs be p0 _ _ hm1 1 (by omega) (by have := S0.out.1; omega) (fun b => by have := S0.out.2 b; omega)).mono ?_
  rintro e w2 ⟨rfl, hm2, hc2⟩
  have hx2 := hx1.chg hc2 hS
  clear hc2 hx1 hm1
  go_wp2_with fail
  refine (muse pm bs be p0 _ _ hm2 1 true H1.out (by have := S1.out.1; omega) (fun b => by have := S1.out.2 b; omega)).mono ?_
  rintro e w3 ⟨rfl, hm3, hc3⟩
  rw [if_pos rfl] at hm3
  have hm3' : MqAt w3 pm bs be p0 (useQ p0 (addQ p0 (newQ p0) 1) 1) := hm3
  have hx3 := hx2.chg hc3 hS
  clear hc3 hx2 hm2 hm3
  go_wp2_with fail
  refine (madd pm bs be p0 _ _ hm3' 2 (by omega) (by have := S2.out.1; omega) (fun b => by have := S2.out.2 b; omega)).mono ?_
  rintro e w4 ⟨rfl, hm4, hc4⟩
  have hx4 := hx3.chg hc4 hS
  clear hc4 hx3 hm3'
  go_wp2_with fail
  refine (madd pm bs be p0 _ _ hm4 3 (by omega) (by have := S3.out.1; omega) (fun b => by have := S3.out.2 b; omega)).mono ?_
  rintro e w5 ⟨rfl, hm5, hc5⟩
  rw [H2.out, H3.out]
  have hx5 := hx4.chg hc5 hS
  clear hc5 hx4 hm4 hm5
  go_wp2_with fail
  go_ret
  exact ⟨rfl, hx5⟩

theorem mhas_nil (b : Int) (w : World) : Calls Try.prog 40 #[.pointer none, .int .i64 b] w fun e w' => e = .returned (.bool false) ∧ w = w' := by
  go_enter Try.func40, Try.ntmps40
  go_wp2_with fail
  go_ret
  exact ⟨rfl, rfl⟩
theorem muse_nil (b : Int) (w : World) : Calls Try.prog 34 #[.pointer none, .int .i64 b] w fun e w' => e = .returned (.bool false) ∧ w = w' := by
  go_enter Try.func34, Try.ntmps34
  go_wp2_with fail
  refine (mhas_nil b _).mono ?_
  rintro e w1 ⟨rfl, rfl⟩
  go_wp2_with fail
  go_ret
  exact ⟨rfl, rfl⟩
theorem mremove_nil (b : Int) (w : World) : Calls Try.prog 35 #[.pointer none, .int .i64 b] w fun e w' => e = .returned (.bool false) ∧ w = w' := by
  go_enter Try.func35, Try.ntmps35
  go_wp2_with fail
  refine (mhas_nil b _).mono ?_
  rintro e w1 ⟨rfl, rfl⟩
  go_wp2_with fail
  go_ret
  exact ⟨rfl, rfl⟩
theorem madd_nil (b : Int) (w : World) : Calls Try.prog 30 #[.pointer none, .int .i64 b] w fun e w' => e = .returned (.tuple #[.int .i64 0, .bool false, .int .i64 7]) ∧ w = w' := by
  go_enter Try.func30, Try.ntmps30
  go_wp2_with fail
  go_ret3
  exact ⟨rfl, rfl⟩
theorem mall_nil (w : World) : Calls Try.prog 37 #[.pointer none] w fun e w' => e = .returned (.slice none 0 0) ∧ w = w' := by
  go_enter Try.func37, Try.ntmps37
  go_wp2_with fail
  go_ret
  exact ⟨rfl, rfl⟩
theorem mqueue_nil (b : Int) (w : World) : Calls Try.prog 31 #[.pointer none, .int .i64 b] w fun e w' => e = .returned (.slice none 0 0) ∧ w = w' := by
  go_enter Try.func31, Try.ntmps31
  go_wp2_with fail
  go_ret
  exact ⟨rfl, rfl⟩
theorem mghosts_nil (w : World) : Calls Try.prog 38 #[.pointer none] w fun e w' => e = .returned (.slice none 0 0) ∧ w = w' := by
  go_enter Try.func38, Try.ntmps38
  go_wp2_with fail
  go_ret
  exact ⟨rfl, rfl⟩
theorem mlen_nil (w : World) : Calls Try.prog 41 #[.pointer none] w fun e w' => e = .returned (.int .i64 0) ∧ w = w' := by
  go_enter Try.func41, Try.ntmps41
  go_wp2_with fail
  go_ret
  exact ⟨rfl, rfl⟩
theorem moften_nil (b : Int) (w : World) : Calls Try.prog 32 #[.pointer none, .int .i64 b] w fun e w' => e = .returned (.int .i64 0) ∧ w = w' := by
  go_enter Try.func32, Try.ntmps32
  go_wp2_with fail
  go_ret
  exact ⟨rfl, rfl⟩
end Go.Proofs.Ytibcfmnkpemieaa
