/-
  gradinelaw06.long. No condition but that the acts read.
-/
import Derived.Test.YtoadjmeopamgbaaStIn
import Derived.Test.YtoadjmeopamgbaaStOnceLaw
namespace Go.Proofs.Ytoadjmeopamgbaa
open Go.RowKit

/-- a row's cells -/
theorem act_cells {w w' : World} {b o n k : Nat} {V : Nat → Nat → Value} {A : Nat → Int × Int × Wr} (hx : Ext w w') (hb : b < w.heap.size) (hc : ∀ i f, i < n → f < 8 → w.cell? ⟨b, o + (i * 8 + f), none⟩ = some (V i f)) (hA : ActsAt w n V A) (hk : k < n) :
    w'.cell? ⟨b, o + k * 8, none⟩ = some (.int .i64 (A k).1) ∧ w'.cell? ⟨b, o + k * 8 + 1, none⟩ = some (.int .i64 (A k).2.1) ∧ w'.cell? ⟨b, o + k * 8 + 2, none⟩ = some (.int .i64 (A k).2.2.c) ∧ w'.cell? ⟨b, o + k * 8 + 3, none⟩ = some (.int .i64 (A k).2.2.k) ∧ w'.cell? ⟨b, o + k * 8 + 4, none⟩ = some (.int .i64 (A k).2.2.b) ∧
    w'.cell? ⟨b, o + k * 8 + 5, none⟩ = some (.int .i64 (A k).2.2.o) ∧ w'.cell? ⟨b, o + k * 8 + 6, none⟩ = some (.int .i64 (A k).2.2.bk) ∧ w'.cell? ⟨b, o + k * 8 + 7, none⟩ = some (V k 7) := by
  obtain ⟨h0, h1, h2, h3, h4, h5, h6, _⟩ := hA k hk
  have g := fun f (hf : f < 8) => (hx.cell hb).trans (hc k f hk hf)
  have g0 := g 0 (by omega); have g1 := g 1 (by omega); have g2 := g 2 (by omega); have g3 := g 3 (by omega)
  have g4 := g 4 (by omega); have g5 := g 5 (by omega); have g6 := g 6 (by omega); have g7 := g 7 (by omega)
  simp only [← Nat.add_assoc, Nat.add_zero] at g0 g1 g2 g3 g4 g5 g6 g7
  exact ⟨g0.trans (by rw [h0]), g1.trans (by rw [h1]), g2.trans (by rw [h2]), g3.trans (by rw [h3]), g4.trans (by rw [h4]), g5.trans (by rw [h5]), g6.trans (by rw [h6]), g7⟩

set_option maxHeartbeats 2000000 in
theorem llong (v : Value) (n : Nat) (V : Nat → Nat → Value) (A : Nat → Int × Int × Wr) (w : World) (hr : RdV 8 w v n V) (hA : ActsAt w n V A) :
    Calls Try.prog 10 #[v] w fun e w' => ∃ r : Bool, e = .returned (.bool r) ∧ (r = false → n ≤ 60 ∧ ∀ i, i < n → (A i).2.2.D.length ≤ 100) ∧ Ext w w' := by
  obtain ⟨a, c, rfl, hnc, hcm, _, hs⟩ := hr
  have HS := Lib.hid hs
  have HA := Lib.hid hA
  have hn63 : (n : Int) ≤ 9223372036854775807 := by unfold maxLen at hcm; omega
  clear hs hA hnc hcm
  by_cases h60 : 60 < n
  · have hi : (60 : Int) < (n : Int) := by omega
    go_enter Try.func10, Try.ntmps10
    go_wp2_with fail
    go_ret
    exact ⟨true, rfl, (fun h => by cases h), (by repeat' (first | (with_reducible exact Ext.refl _) | (with_reducible assumption) | (with_reducible refine Ext.alloc ?_ _) | (with_reducible refine Ext.drewN ?_ _) | (with_reducible refine Ext.drew ?_) | (with_reducible refine Ext.trans ?_ (by assumption))))⟩
  have hi : ¬ (60 : Int) < (n : Int) := by omega
  go_enter Try.func10, Try.ntmps10
  go_wp2_with fail
  go_loopw [3, 9] (fun _ ci wr => ∃ i : Nat, i ≤ n ∧ ci = .int .i64 i ∧ Hid (∀ j, j < i → (A j).2.2.D.length ≤ 100) ∧ Ext w wr) (fun _ ci _ => n - (intOf ci).toNat)
  case atStart => exact ⟨0, Nat.zero_le _, rfl, Lib.hid (fun j hj => absurd hj (by omega)), Ext.refl _⟩
  case round =>
    obtain ⟨i, hi', rfl, HL, hx⟩ := hrel
    by_cases hlt : i < n
    · have hii : (i : Int) < (n : Int) := by omega
      obtain ⟨bb, o, rfl, hbb, hcell⟩ := HS.out (by omega)
      obtain ⟨_, _, _, _, _, _, _, g7⟩ := act_cells hx hbb hcell HA.out hlt
      obtain ⟨_, _, _, _, _, _, _, hD, _⟩ := HA.out i hlt
      obtain ⟨ad, cc, hV7, _, hcm, _, _⟩ := hD.parts
      rw [hV7] at g7
      obtain ⟨L, hL⟩ : ∃ L, L = (A i).2.2.D.length := ⟨_, rfl⟩
      rw [← hL] at g7
      have HLE := Lib.hid hL
      have hl63 : (L : Int) ≤ 9223372036854775807 := by unfold maxLen at hcm; omega
      clear hcell hD hV7 hcm hL
      by_cases h100 : 100 < L
      · have hi1 : (100 : Int) < (L : Int) := by omega
        go_wp2_with fail
        go_ret
        exact ⟨true, rfl, (fun h => by cases h), hx⟩
      · have hi1 : ¬ (100 : Int) < (L : Int) := by omega
        have HN : Hid (∀ j, j < i + 1 → (A j).2.2.D.length ≤ 100) := Lib.hid (fun j hj => by
          by_cases e : j = i
          · subst e; rw [← HLE.out]; omega
          · exact HL.out j (by omega))
        go_wp2_with fail
        go_roundw
        case rel => exact ⟨i + 1, by omega, by go_num, HN, hx⟩
        case measure => simp [intOf]; omega
    · obtain rfl : i = n := by omega
      go_wp2_with fail
      go_ret
      exact ⟨false, rfl, fun _ => ⟨by omega, HL.out⟩, hx⟩
end Go.Proofs.Ytoadjmeopamgbaa
