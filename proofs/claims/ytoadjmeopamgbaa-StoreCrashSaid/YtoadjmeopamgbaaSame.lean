/-
  gradineref01.Same: are bytes alike? No condition but that both slices read.
-/
import Derived.Test.YtoadjmeopamgbaaRows
import Derived.Test.YtoadjmeopamgbaaMem
namespace Go.Proofs.Ytoadjmeopamgbaa
open Go.RowKit

set_option maxHeartbeats 400000 in
theorem same_any (v1 v2 : Value) (l1 l2 : List Int) (w : World) (h1 : RdI .u8 w v1 l1) (h2 : RdI .u8 w v2 l2) :
    Calls Try.prog 18 #[v1, v2] w fun e w' => e = .returned (.bool (decide (l1 = l2))) ∧ Ext w w' := by
  obtain ⟨a1, c1, rfl, hc1, hm1, hn1, hs1⟩ := h1.parts
  obtain ⟨a2, c2, rfl, hc2, hm2, hn2, hs2⟩ := h2.parts
  have hl63 : (l1.length : Int) ≤ 9223372036854775807 := by unfold maxLen at hm1; omega
  clear h1 h2 hm1 hm2
  by_cases hL : l1.length = l2.length
  · by_cases hE : l1 = []
    · subst hE
      have hE2 : l2 = [] := List.eq_nil_of_length_eq_zero (by simpa using hL.symm)
      subst hE2
      clear hn1 hs1 hn2 hs2 hL hc1 hc2
      go_enter Try.func18, Try.ntmps18
      go_wp2
      refine wp_loop_rounds 1 ?_
      rw [rounds_succ]
      go_wp2
      go_ret
      exact ⟨rfl, Ext.refl _⟩
    · obtain ⟨b1, o1, rfl, hb1, hx1⟩ := hs1 hE
      obtain ⟨b2, o2, rfl, hb2, hx2⟩ := hs2 (by intro h; subst h; exact hE (List.eq_nil_of_length_eq_zero (by simpa using hL)))
      have X1 := Lib.hid hx1
      have X2 := Lib.hid hx2
      have HL := Lib.hid hL
      have hLb : ((l1.length : Int) != (l2.length : Int)) = false := by rw [hL]; simp
      clear hn1 hs1 hn2 hs2 hE hx1 hx2 hL
      go_enter Try.func18, Try.ntmps18
      go_wp2
      go_loopw [5] (fun i wr => ∃ k : Nat, k ≤ l1.length ∧ i = .int .i64 k ∧ l1.take k = l2.take k ∧ Ext w wr) (fun i _ => l1.length - (intOf i).toNat)
      case atStart => exact ⟨0, Nat.zero_le _, rfl, rfl, Ext.refl _⟩
      case round =>
        obtain ⟨k, hk, rfl, ht, hb⟩ := hrel
        have HT := Lib.hid ht
        clear ht
        by_cases hlt : k < l1.length
        · have e1 := (hb.cell hb1).trans (X1.out k hlt)
          have e2 := (hb.cell hb2).trans (X2.out k (by have := HL.out; omega))
          obtain ⟨x, hx⟩ : ∃ x, x = l1.getD k 0 := ⟨_, rfl⟩
          obtain ⟨y, hy⟩ : ∃ y, y = l2.getD k 0 := ⟨_, rfl⟩
          rw [← hx] at e1
          rw [← hy] at e2
          have HX := Lib.hid hx
          have HY := Lib.hid hy
          clear hx hy
          have hlt2 : (k : Int) < (l2.length : Int) := by have := HL.out; omega
          have HB := Lib.hid hb
          clear hb
          go_wp2
          go_quiet (fail)
          go_wp2
          · have hne : (x != y) = true := by assumption
            go_ret
            refine ⟨ret_bool (a := false) (decide_eq_false ?_).symm, HB.out.drewN nq⟩
            intro h
            have := HX.out
            rw [h, ← HY.out] at this
            simp [this] at hne
          · go_roundw
            case rel =>
              have heq : (x != y) = false := by assumption
              exact ⟨k + 1, by omega, by go_num, take_succ_eq HL.out hlt HT.out (by rw [← HX.out, ← HY.out]; simpa using heq), HB.out.drewN nq⟩
            case measure => simp [intOf]; omega
        · obtain rfl : k = l1.length := by omega
          go_wp2
          go_ret
          refine ⟨?_, hb⟩
          have e := HT.out
          rw [List.take_of_length_le (Nat.le_refl _), List.take_of_length_le (by rw [HL.out]; exact Nat.le_refl _)] at e
          simp [e]
  · have hLb : ((l1.length : Int) != (l2.length : Int)) = true := by rw [bne_iff_ne]; omega
    clear hn1 hs1 hn2 hs2
    go_enter Try.func18, Try.ntmps18
    go_wp2
    go_ret
    exact ⟨ret_bool (a := false) (decide_eq_false (by intro h; subst h; exact hL rfl)).symm, Ext.refl _⟩
end Go.Proofs.Ytoadjmeopamgbaa
