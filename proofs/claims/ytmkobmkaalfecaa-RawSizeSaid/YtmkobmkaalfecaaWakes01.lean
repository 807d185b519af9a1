/-
  gradinelaw01.wakes answers true. No condition.
-/
import Derived.Test.YtmkobmkaalfecaaPut
import Derived.Test.YtmkobmkaalfecaaSame
namespace Go.Proofs.Ytmkobmkaalfecaa
open Go.RowKit

theorem fits_small {n : Nat} (h : n ≤ 100000) : Fits n := by unfold Fits; omega

theorem RdI.of_own {k : IntKind} {w : World} {base : Nat} {e : TypeId} {v : Value} {l : List Int} (h : w.ownsRow base e 1 v l.length (cellsOf k l)) : RdI k w v l := Rd.of_own h

/-- a slice literal of integers, fresh -/
theorem RdI.lit (k : IntKind) (w : World) (l : List Int) (e : TypeId) (hm : l.length ≤ maxLen) : RdI k (w.alloc (.cells (cellsOf k l).toArray e)) (.slice (some ⟨w.heap.size, 0, none⟩) l.length l.length) l := by
  refine ⟨by simp, _, _, rfl, Nat.le_refl _, hm, fun h => (by cases h), fun _ => ⟨w.heap.size, 0, rfl, by simp, fun j u hu => ?_⟩⟩
  simp at hu ⊢
  exact hu

set_option maxHeartbeats 400000 in
theorem wakes01 (w : World) : Calls Try.prog 17 #[] w fun e w' => e = .returned (.bool true) ∧ Below w.heap.size w w' := by
  have HP := Lib.hid (put_any (.slice none 0 0) [] 128 w (RdI.nil _ _) (fits_small (by simp)) (by omega) (by omega))
  go_enter Try.func17, Try.ntmps17
  go_wp2_with fail
  refine HP.out.mono ?_
  rintro e w1 ⟨v1, rfl, hown, hb⟩
  have HO := Lib.hid (RdI.of_own hown)
  have HB := Lib.hid hb
  clear hown hb
  go_wp2_with fail
  have e : enc (128 : Int).toNat = [128, 1] := by
    rw [show (128 : Int).toNat = 128 from rfl, enc_ge (by omega), enc_lt (by omega)]; rfl
  refine (same_any _ _ ([] ++ enc (128 : Int).toNat) [128, 1] _ (HO.out.below ((Below.refl _ _).alloc (Nat.le_refl _) _) (Nat.le_refl _)) (RdI.lit .u8 _ [128, 1] _ (by simp [maxLen]))).mono ?_
  rintro e w2 ⟨rfl, hb2⟩
  go_wp2
  go_ret
  refine ⟨ret_bool ?_, (HB.out.alloc (HB.out.size) _).trans (hb2.mono (by have := HB.out.size; simp; omega))⟩
  exact decide_eq_true e
end Go.Proofs.Ytmkobmkaalfecaa
