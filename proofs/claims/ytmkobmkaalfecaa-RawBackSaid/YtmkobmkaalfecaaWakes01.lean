/-
  gradinelaw01.wakes answers true. No condition.
-/
import Derived.Test.YtmkobmkaalfecaaPut
import Derived.Test.YtmkobmkaalfecaaSame
namespace Go.Proofs.Ytmkobmkaalfecaa
open Go.RowKit

set_option maxHeartbeats 400000 in
theorem wakes01 (w : World) : Calls Try.prog 17 #[] w fun e w' => e = .returned (.bool true) ∧ Ext w w' := by
  go_enter Try.func17, Try.ntmps17
  go_wp2_with fail
  refine (put_any (.slice none 0 0) [] 128 w (RdI.nil _ _) (fits_small (by simp)) (by omega) (by omega)).mono ?_
  rintro e w1 ⟨v1, rfl, ho1, hx1⟩
  go_wp2_with fail
  have e : enc (128 : Int).toNat = [128, 1] := by
    rw [show (128 : Int).toNat = 128 from rfl, enc_ge (by omega), enc_lt (by omega)]; rfl
  refine (same_any _ _ ([] ++ enc (128 : Int).toNat) [128, 1] _ (ho1.rd.ext (by repeat' (first | (with_reducible exact Ext.refl _) | (with_reducible assumption) | (with_reducible refine Ext.alloc ?_ _) | (with_reducible refine Ext.drewN ?_ _) | (with_reducible refine Ext.drew ?_) | (with_reducible refine Ext.trans ?_ (by assumption))))) (RdI.lit .u8 _ [128, 1] _ (by simp [maxLen]))).mono ?_
  rintro e w2 ⟨rfl, hx2⟩
  go_wp2
  go_ret
  exact ⟨ret_bool (decide_eq_true e), (by repeat' (first | (with_reducible exact Ext.refl _) | (with_reducible assumption) | (with_reducible refine Ext.alloc ?_ _) | (with_reducible refine Ext.drewN ?_ _) | (with_reducible refine Ext.drew ?_) | (with_reducible refine Ext.trans ?_ (by assumption))))⟩
end Go.Proofs.Ytmkobmkaalfecaa
