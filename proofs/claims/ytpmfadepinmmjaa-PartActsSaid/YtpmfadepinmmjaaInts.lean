/-
  gradineref01.SameInts: are numbers alike? No condition but that both slices read.
-/
import Derived.Test.YtpmfadepinmmjaaRows
import Derived.Test.YtpmfadepinmmjaaMem
namespace Go.Proofs.Ytpmfadepinmmjaa
open Go.RowKit

set_option maxHeartbeats 400000 in
theorem sameints_any (v1 v2 : Value) (l1 l2 : List Int) (w : World) (h1 : RdI .i64 w v1 l1) (h2 : RdI .i64 w v2 l2) :
    Calls Try.prog 18 #[v1, v2] w fun e w' => e = .returned (.bool (decide (l1 = l2))) ∧ Ext w w' := by
  obtain ⟨a1, c1, rfl, hc1, hm1, hn1, hs1⟩ := h1.parts
  obtain ⟨a2, c2, rfl, hc2, hm2, hn2, hs2⟩ := h2.parts
  have hl63 : (l1.length : Int) ≤ 9223372036854775807 := by unfold maxLen at hm1; omega
  clear h1 h2 hm1 hm2
  by_cases hL : l1.length = l2.length
  · by_cases hE : l1 = []
    · subst hE
      have hE2 : l2 = [] := List.eq_nil_of_length_eq_zero (by simpa using hL.symm)
      subst hE2
      clear hn1 hs1 hn2 hs2 hL hc1 hc2
      go_enter Try.func18, Try.ntmps18
      go_wp2
      refine wp_loop_rounds 1 ?_
      rw [rounds_succ]
      go_wp2
      go_ret
      exact ⟨rfl, Ext.refl _⟩
    · obtain ⟨b1, o1, rfl, hb1, hx1⟩ := hs1 hE
      obtain ⟨b2, o2, rfl, hb2, hx2⟩ := hs2 (by intro h; subst h; exact hE (List.eq_nil_of_length_eq_zero (by simpa using hL)))
      have X1 := Lib.hid hx1
      have X2 := Lib.hid hx2
      have HL := Lib.hid hL
      have hLb : ((l1.length : Int) != (l2.length : Int)) = false := by rw [hL]; simp
      clear hn1 hs1 hn2 hs2 hE hx1 hx2 hL
      go_enter Try.func18, Try.ntmps18
      go_wp2
      go_loopw [5] (fun i wr => ∃ k : Nat, k ≤ l1.length ∧ i = .int .i64 k ∧ l1.take k = l2.take k ∧ Ext w wr) (fun i _ => l1.length - (intOf i).toNat)
      case atStart => exact ⟨0, Nat.zero_le _, rfl, rfl, Ext.refl _⟩
      case round =>
        obtain ⟨k, hk, rfl, ht, hb⟩ := hrel
        have HT := Lib.hid ht
        clear ht
        by_cases hlt : k < l1.length
        · have e1 := (hb.cell hb1).trans (X1.out k hlt)
          have e2 := (hb.cell hb2).trans (X2.out k (by have := HL.out; omega))
          obtain ⟨x, hx⟩ : ∃ x, x = l1.getD k 0 := ⟨_, rfl⟩
          obtain ⟨y, hy⟩ : ∃ y, y = l2.getD k 0 := ⟨_, rfl⟩
          rw [← hx] at e1
          rw [← hy] at e2
          have HX := Lib.hid hx
          have HY := Lib.hid hy
          clear hx hy
          have hlt2 : (k : Int) < (l2.length : Int) := by have := HL.out; omega
          have HB := Lib.hid hb
          clear hb
          go_wp2
          go_quiet (fail)
          go_wp2
          · have hne : (x != y) = true := by assumption
            go_ret
            refine ⟨ret_bool (a := false) (decide_eq_false ?_).symm, HB.out.drewN nq⟩
            intro h
            have := HX.out
            rw [h, ← HY.out] at this
            simp [this] at hne
          · go_roundw
            case rel =>
              have heq : (x != y) = false := by assumption
              exact ⟨k + 1, by omega, by go_num, take_succ_eq HL.out hlt HT.out (by rw [← HX.out, ← HY.out]; simpa using heq), HB.out.drewN nq⟩
            case measure => simp [intOf]; omega
        · obtain rfl : k = l1.length := by omega
          go_wp2
          go_ret
          refine ⟨?_, hb⟩
          have e := HT.out
          rw [List.take_of_length_le (Nat.le_refl _), List.take_of_length_le (by rw [HL.out]; exact Nat.le_refl _)] at e
          simp [e]
  · have hLb : ((l1.length : Int) != (l2.length : Int)) = true := by rw [bne_iff_ne]; omega
    clear hn1 hs1 hn2 hs2
    go_enter Try.func18, Try.ntmps18
    go_wp2
    go_ret
    exact ⟨ret_bool (a := false) (decide_eq_false (by intro h; subst h; exact hL rfl)).symm, Ext.refl _⟩
theorem getD_lt {l : List Int} {k : Nat} (h : k < l.length) : l[k]? = some (l.getD k 0) := by simp [List.getD, h]

set_option maxHeartbeats 400000 in
theorem has_any (v : Value) (l : List Int) (n : Int) (w : World) (h : RdI .i64 w v l) :
    Calls Try.prog 41 #[v, .int .i64 n] w fun e w' => e = .returned (.bool (decide (n ∈ l))) ∧ Ext w w' := by
  obtain ⟨a, c, rfl, hc, hm, hn, hs⟩ := h.parts
  have hl63 : (l.length : Int) ≤ 9223372036854775807 := by unfold maxLen at hm; omega
  clear hm hc hn h
  have HS := Lib.hid hs
  clear hs
  go_enter Try.func41, Try.ntmps41
  go_wp2_with fail
  go_loopw [5] (fun i wr => ∃ k : Nat, k ≤ l.length ∧ i = .int .i64 k ∧ n ∉ l.take k ∧ Ext w wr) (fun i _ => l.length - (intOf i).toNat)
  case atStart => exact ⟨0, Nat.zero_le _, rfl, by simp, Ext.refl _⟩
  case round =>
    obtain ⟨k, hk, rfl, ht, hx⟩ := hrel
    have HT := Lib.hid ht
    clear ht
    by_cases hlt : k < l.length
    · obtain ⟨b, o, rfl, hb, hcell⟩ := HS.out (by intro e; subst e; simp at hlt)
      have e1 := (hx.cell hb).trans (hcell k hlt)
      obtain ⟨x, hxx⟩ : ∃ x, x = l.getD k 0 := ⟨_, rfl⟩
      rw [← hxx] at e1
      have HX := Lib.hid hxx
      have hki : (k : Int) < (l.length : Int) := by omega
      clear hxx hcell
      by_cases he : x = n
      · have heb : (x == n) = true := by simp [he]
        have HE := Lib.hid he
        clear he
        go_wp2_with fail
        go_ret
        refine ⟨ret_bool (a := true) (decide_eq_true ?_).symm, (by repeat' (first | (with_reducible exact Ext.refl _) | (with_reducible assumption) | (with_reducible refine Ext.alloc ?_ _) | (with_reducible refine Ext.drewN ?_ _) | (with_reducible refine Ext.drew ?_) | (with_reducible refine Ext.trans ?_ (by assumption))))⟩
        rw [← HE.out, HX.out]; exact getD_mem hlt
      · have heb : (x == n) = false := by simp [he]
        have HE := Lib.hid he
        clear he
        go_wp2_with fail
        go_roundw
        case rel =>
          refine ⟨k + 1, by omega, by go_num, ?_, (by repeat' (first | (with_reducible exact Ext.refl _) | (with_reducible assumption) | (with_reducible refine Ext.alloc ?_ _) | (with_reducible refine Ext.drewN ?_ _) | (with_reducible refine Ext.drew ?_) | (with_reducible refine Ext.trans ?_ (by assumption))))⟩
          rw [List.take_succ_eq_append_getElem hlt, List.mem_append]
          rintro (hm | hm)
          · exact HT.out hm
          · simp at hm
            have := HX.out
            simp [List.getD, hlt] at this
            exact HE.out (by rw [this]; exact hm.symm)
        case measure => simp [intOf]; omega
    · obtain rfl : k = l.length := by omega
      go_wp2_with fail
      go_ret
      refine ⟨ret_bool (a := false) (decide_eq_false ?_).symm, hx⟩
      have := HT.out
      rwa [List.take_length] at this
end Go.Proofs.Ytpmfadepinmmjaa
