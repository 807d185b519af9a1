/-
  raw.GetTruth. No condition but that the slice reads.
-/
import Derived.Test.YtmkobmkaalfecaaGetText
namespace Go.Proofs.Ytmkobmkaalfecaa
open Go.RowKit

set_option maxRecDepth 100000 in
set_option maxHeartbeats 1000000 in
/-- raw.GetTruth -/
def getB (l : List Int) (at_ : Int) : Bool × Int × Int :=
  if 0 ≤ at_ ∧ at_ ≤ l.length then
    if at_ = l.length then (false, 0, 1)
    else if 1 < l.getD at_.toNat 0 then (false, 0, 2)
    else (decide (l.getD at_.toNat 0 = 1), at_ + 1, 0)
  else (false, 0, 3)

set_option maxHeartbeats 1000000 in
theorem gettruth_any (v : Value) (l : List Int) (p : Int) (w : World) (h : RdI .u8 w v l) (hb : ∀ x ∈ l, 0 ≤ x ∧ x ≤ 255) :
    Calls Try.prog 29 #[v, .int .i64 p] w fun e w' =>
      e = .returned (.tuple #[.bool (getB l p).1, .int .i64 (getB l p).2.1, .int .i64 (getB l p).2.2]) ∧ w = w' := by
  obtain ⟨a, c, rfl, hc, hm, hnil, hs⟩ := h.parts
  have hl63 : (l.length : Int) ≤ 9223372036854775807 := by unfold maxLen at hm; omega
  have HS := Lib.hid hs
  clear hm hnil hc hs h
  by_cases hp : 0 ≤ p ∧ p ≤ l.length
  · obtain ⟨k, rfl⟩ := Int.eq_ofNat_of_zero_le hp.1
    have HW := Lib.hid (within_is a l.length c k w true (by simpa using hp))
    by_cases he : k = l.length
    · have HR := Lib.hid (show getB l k = (false, 0, 1) by unfold getB; rw [if_pos hp, if_pos (by omega)])
      have he' : ((k : Int) == (l.length : Int)) = true := by simp; omega
      clear hp he hb
      go_enter Try.func29, Try.ntmps29
      go_wp2_with fail
      refine HW.out.mono ?_
      rintro e1 w1 ⟨rfl, rfl⟩
      go_wp2_with fail
      go_ret3
      refine ⟨?_, rfl⟩
      rw [HR.out]; rfl
    · have hlt : k < l.length := by omega
      obtain ⟨b, o, rfl, hbl, hcell⟩ := HS.out (by intro h; rw [h] at hlt; simp at hlt)
      have hcl := hcell k hlt
      have hx0 := hb _ (getD_mem hlt)
      have he' : ((k : Int) == (l.length : Int)) = false := by simp; omega
      have HR := Lib.hid (show getB l k = if 1 < l.getD k 0 then (false, 0, 2) else (decide (l.getD k 0 = 1), (k : Int) + 1, 0) by unfold getB; rw [if_pos hp, if_neg (by omega), Int.toNat_natCast])
      obtain ⟨x, hx⟩ : ∃ x, x = l.getD k 0 := ⟨_, rfl⟩
      rw [← hx] at hcl hx0 HR
      obtain ⟨hxa, hxb⟩ := hx0
      have hlti : (k : Int) < (l.length : Int) := by omega
      clear hp he hb hcell hx HS
      by_cases h1 : 1 < x
      all_goals
        have H1 := Lib.hid h1
        go_enter Try.func29, Try.ntmps29
        go_wp2_with fail
        refine HW.out.mono ?_
        rintro e1 w1 ⟨rfl, rfl⟩
        go_wp2_with fail
        go_ret3
        refine ⟨?_, rfl⟩
        rw [HR.out]
        first | rw [if_pos (by have := H1.out; omega)] | rw [if_neg (by have := H1.out; omega)]
        rfl
  · have HR := Lib.hid (show getB l p = (false, 0, 3) by unfold getB; rw [if_neg hp])
    have HW := Lib.hid (within_is a l.length c p w false (by simpa using hp))
    clear hp hb
    go_enter Try.func29, Try.ntmps29
    go_wp2_with fail
    refine HW.out.mono ?_
    rintro e1 w1 ⟨rfl, rfl⟩
    go_wp2_with fail
    go_ret3
    refine ⟨?_, rfl⟩
    rw [HR.out]; rfl

end Go.Proofs.Ytmkobmkaalfecaa
