/-
  gradineref01: Put, Text, Join; raw: PutText, PutTruth. No condition but that the slices read.
-/
import Derived.Test.YtoadjmeopamgbaaPut
namespace Go.Proofs.Ytoadjmeopamgbaa
open Go.RowKit

theorem puttext_any (v t : Value) (l m : List Int) (w : World) (h : RdI .u8 w v l) (ht : RdI .u8 w t m) (hlen : Fits (l.length + m.length + 10)) :
    Calls Try.prog 39 #[v, t] w fun e w' => ∃ v', e = .returned v' ∧ OwnI .u8 5 w.heap.size w' v' (l ++ enc m.length ++ m) ∧ Ext w w' := by
  have hf := hlen.out
  obtain ⟨a, c, rfl, hc, hm, hn, hs⟩ := ht.parts
  clear hc hm hn hs
  have hel := enc_len_le 9 m.length (by omega)
  have HF := Lib.hid hf
  clear hf
  go_enter Try.func39, Try.ntmps39
  go_wp2_with fail
  refine (put_any v l _ _ h (by have := HF.out; unfold Fits; omega) (by omega) (by have := HF.out; omega)).mono ?_
  rintro e w1 ⟨v1, rfl, ho1, hx1⟩
  rw [Int.toNat_natCast] at ho1
  go_wp2_with (at_builtin; refine wpList_append_ints rfl _ _ 36 rfl 5 .u8 0 1 Try.underlying36 bytes_info (by decide) w (by repeat' (first | (with_reducible exact Ext.refl _) | (with_reducible assumption) | (with_reducible refine Ext.alloc ?_ _) | (with_reducible refine Ext.drewN ?_ _) | (with_reducible refine Ext.drew ?_) | (with_reducible refine Ext.trans ?_ (by assumption)))) _ _ rfl ho1 _ _ rfl (ht.ext hx1) (by have := HF.out; unfold Fits; simp; omega) ?_)
  intro vb wb hob hxb
  go_wp2
  go_ret
  exact ⟨_, rfl, by simpa using hob, hxb⟩

/-- a truth's byte -/
def bit (b : Bool) : Int := if b then 1 else 0

end Go.Proofs.Ytoadjmeopamgbaa
