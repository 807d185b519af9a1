/-
  list.Space: block, list, ready, Of, First, Last, Len. No condition but that the space lies in memory.
-/
import Derived.Test.YtpmfadepinmmjaaSpcOut
import Derived.Test.YtpmfadepinmmjaaSpaceFn
namespace Go.Proofs.Ytpmfadepinmmjaa
open Go.RowKit

theorem block_is (bs : Nat) (b : Int) (w : World) (r : Bool) (hr : decide (okB b) = r) :
    Calls Try.prog 50 #[.pointer (some ⟨bs, 0, none⟩), .int .i64 b] w fun e w' => e = .returned (.bool r) ∧ w = w' := by
  subst hr
  by_cases h0 : 0 ≤ b
  · by_cases h1 : b < 64
    · have HR := Lib.hid (show okB b from ⟨h0, h1⟩)
      go_enter Try.func50, Try.ntmps50
      go_wp2
      go_ret
      exact ⟨ret_bool (by simp [HR.out]), rfl⟩
    · have HR := Lib.hid (show ¬ okB b from fun h => h1 h.2)
      go_enter Try.func50, Try.ntmps50
      go_wp2
      go_ret
      exact ⟨ret_bool (by simp [HR.out]), rfl⟩
  · have hd : decide (0 ≤ b) = false := by simpa using h0
    have HR := Lib.hid (show ¬ okB b from fun h => h0 h.1)
    go_enter Try.func50, Try.ntmps50
    go_wp2
    go_ret
    exact ⟨ret_bool (by simp [HR.out]), rfl⟩

theorem list_is (bs be n : Nat) (A E : Nat → Nat → Int) (l : Int) (w : World) (h : SpcAt w bs be n A E) (r : Bool) (hr : decide (0 ≤ l ∧ l < n) = r) :
    Calls Try.prog 46 #[.pointer (some ⟨bs, 0, none⟩), .int .i64 l] w fun e w' => e = .returned (.bool r) ∧ w = w' := by
  subst hr
  have sl := h.slice
  by_cases h0 : 0 ≤ l
  · by_cases h1 : l < n
    · have HR := Lib.hid (show decide (0 ≤ l ∧ l < n) = true by simp [h0, h1])
      go_enter Try.func46, Try.ntmps46
      go_wp2
      go_ret
      exact ⟨ret_bool (by rw [HR.out]), rfl⟩
    · go_enter Try.func46, Try.ntmps46
      go_wp2
      go_ret
      exact ⟨ret_bool (by simp [h1]), rfl⟩
  · have hd : decide (0 ≤ l) = false := by simpa using h0
    go_enter Try.func46, Try.ntmps46
    go_wp2
    go_ret
    exact ⟨ret_bool rfl, rfl⟩

theorem block_nil (b : Int) (w : World) : Calls Try.prog 50 #[.pointer none, .int .i64 b] w fun e w' => e = .returned (.bool false) ∧ w = w' := by
  go_enter Try.func50, Try.ntmps50
  go_wp2
  go_ret
  exact ⟨rfl, rfl⟩
theorem list_nil (l : Int) (w : World) : Calls Try.prog 46 #[.pointer none, .int .i64 l] w fun e w' => e = .returned (.bool false) ∧ w = w' := by
  go_enter Try.func46, Try.ntmps46
  go_wp2
  go_ret
  exact ⟨rfl, rfl⟩

theorem of_any (bs be : Nat) (Ls : List (List Nat)) (b : Int) (w : World) (h : SpaceAt w bs be Ls) :
    Calls Try.prog 40 #[.pointer (some ⟨bs, 0, none⟩), .int .i64 b] w fun e w' => e = .returned (.tuple #[.int .i64 (ofI Ls b).1, .bool (ofI Ls b).2]) ∧ w = w' := by
  obtain ⟨A, E, h1, h2⟩ := h
  by_cases hb : okB b
  · obtain ⟨k, rfl⟩ := Int.eq_ofNat_of_zero_le hb.1
    have hk : k < 64 := by have := hb.2; omega
    have hki : (k : Int) < 64 := by omega
    have HB := Lib.hid (fun W => block_is bs k W true (by simpa using hb))
    have n0 := h1.node0 hk
    cases hof : ofL Ls k with
    | none =>
      rw [h2.of_none hk hof] at n0
      have HR := Lib.hid (show ofI Ls k = (0, false) by unfold ofI; rw [if_pos hb, Int.toNat_natCast, hof])
      clear hof hb
      go_enter Try.func40, Try.ntmps40
      go_wp2_with fail
      refine (HB.out _).mono ?_
      rintro e w1 ⟨rfl, rfl⟩
      go_wp2_with fail
      go_ret2
      refine ⟨?_, rfl⟩
      rw [HR.out]; rfl
    | some l =>
      rw [(h2.of_some hof).1] at n0
      have HR := Lib.hid (show ofI Ls k = ((l : Int), true) by unfold ofI; rw [if_pos hb, Int.toNat_natCast, hof])
      have hl : ((l : Int) == -1) = false := by rw [beq_eq_false_iff_ne]; omega
      clear hof hb
      go_enter Try.func40, Try.ntmps40
      go_wp2_with fail
      refine (HB.out _).mono ?_
      rintro e w1 ⟨rfl, rfl⟩
      go_wp2_with fail
      go_ret2
      refine ⟨?_, rfl⟩
      rw [HR.out]; rfl
  · have HB := Lib.hid (fun W => block_is bs b W false (by simpa using hb))
    have HR := Lib.hid (show ofI Ls b = (0, false) by unfold ofI; rw [if_neg hb])
    clear hb
    go_enter Try.func40, Try.ntmps40
    go_wp2_with fail
    refine (HB.out _).mono ?_
    rintro e w1 ⟨rfl, rfl⟩
    go_wp2_with fail
    go_ret2
    refine ⟨?_, rfl⟩
    rw [HR.out]; rfl

theorem first_any (bs be : Nat) (Ls : List (List Nat)) (l : Int) (w : World) (h : SpaceAt w bs be Ls) :
    Calls Try.prog 49 #[.pointer (some ⟨bs, 0, none⟩), .int .i64 l] w fun e w' => e = .returned (.tuple #[.int .i64 (firstI Ls l).1, .bool (firstI Ls l).2]) ∧ w = w' := by
  obtain ⟨A, E, h1, h2⟩ := h
  by_cases hl : okL Ls l
  · obtain ⟨k, rfl⟩ := Int.eq_ofNat_of_zero_le hl.1
    have hk : k < Ls.length := by have := hl.2; omega
    have hki : (k : Int) < (Ls.length : Int) := by omega
    have HB := Lib.hid (fun W hW => list_is bs be Ls.length A E k W hW true (by simpa [okL] using hl))
    have n0 := h1.endc0 hk
    have n2 := h1.endc (f := 2) hk (by omega)
    have sl := h1.slice
    rw [h2.front k hk] at n0
    rw [h2.many k hk] at n2
    cases hL : Ls.getD k [] with
    | nil =>
      rw [hL] at n0 n2
      have HR := Lib.hid (show firstI Ls k = (0, false) by unfold firstI; rw [if_pos hl, Int.toNat_natCast, hL])
      clear hL hl
      go_enter Try.func49, Try.ntmps49
      go_wp2_with fail
      refine (HB.out _ h1).mono ?_
      rintro e w1 ⟨rfl, rfl⟩
      go_wp2_with fail
      go_ret2
      refine ⟨?_, rfl⟩
      rw [HR.out]; rfl
    | cons b t =>
      rw [hL] at n0 n2
      have HR := Lib.hid (show firstI Ls k = ((b : Int), true) by unfold firstI; rw [if_pos hl, Int.toNat_natCast, hL])
      have hz : ((((b :: t).length : Nat) : Int) == 0) = false := by rw [beq_eq_false_iff_ne]; simp; omega
      obtain ⟨m, hm⟩ : ∃ m : Int, m = (((b :: t).length : Nat) : Int) := ⟨_, rfl⟩
      rw [← hm] at n2 hz
      simp only [hd] at n0
      clear hL hl hm
      go_enter Try.func49, Try.ntmps49
      go_wp2_with fail
      refine (HB.out _ h1).mono ?_
      rintro e w1 ⟨rfl, rfl⟩
      go_wp2_with fail
      go_ret2
      refine ⟨?_, rfl⟩
      rw [HR.out]; rfl
  · have HB := Lib.hid (fun W hW => list_is bs be Ls.length A E l W hW false (by simpa [okL] using hl))
    have HR := Lib.hid (show firstI Ls l = (0, false) by unfold firstI; rw [if_neg hl])
    clear hl
    go_enter Try.func49, Try.ntmps49
    go_wp2_with fail
    refine (HB.out _ h1).mono ?_
    rintro e w1 ⟨rfl, rfl⟩
    go_wp2_with fail
    go_ret2
    refine ⟨?_, rfl⟩
    rw [HR.out]; rfl

theorem last_any (bs be : Nat) (Ls : List (List Nat)) (l : Int) (w : World) (h : SpaceAt w bs be Ls) :
    Calls Try.prog 47 #[.pointer (some ⟨bs, 0, none⟩), .int .i64 l] w fun e w' => e = .returned (.tuple #[.int .i64 (lastI Ls l).1, .bool (lastI Ls l).2]) ∧ w = w' := by
  obtain ⟨A, E, h1, h2⟩ := h
  by_cases hl : okL Ls l
  · obtain ⟨k, rfl⟩ := Int.eq_ofNat_of_zero_le hl.1
    have hk : k < Ls.length := by have := hl.2; omega
    have hki : (k : Int) < (Ls.length : Int) := by omega
    have HB := Lib.hid (fun W hW => list_is bs be Ls.length A E k W hW true (by simpa [okL] using hl))
    have n1 := h1.endc (f := 1) hk (by omega)
    have n2 := h1.endc (f := 2) hk (by omega)
    have sl := h1.slice
    rw [h2.back k hk] at n1
    rw [h2.many k hk] at n2
    by_cases hL : Ls.getD k [] = []
    · rw [hL] at n1 n2
      have HR := Lib.hid (show lastI Ls k = (0, false) by unfold lastI; rw [if_pos hl, Int.toNat_natCast, if_pos hL])
      clear hL hl
      go_enter Try.func47, Try.ntmps47
      go_wp2_with fail
      refine (HB.out _ h1).mono ?_
      rintro e w1 ⟨rfl, rfl⟩
      go_wp2_with fail
      go_ret2
      refine ⟨?_, rfl⟩
      rw [HR.out]; rfl
    · have HR := Lib.hid (show lastI Ls k = (lst (-1) (Ls.getD k []), true) by unfold lastI; rw [if_pos hl, Int.toNat_natCast, if_neg hL])
      obtain ⟨x, hx⟩ : ∃ x, x = lst (-1) (Ls.getD k []) := ⟨_, rfl⟩
      have hz : (((Ls.getD k []).length : Int) == 0) = false := by
        rw [beq_eq_false_iff_ne]
        have := List.length_pos_iff.2 hL
        omega
      obtain ⟨m, hm⟩ : ∃ m : Int, m = ((Ls.getD k []).length : Int) := ⟨_, rfl⟩
      rw [← hm] at n2 hz
      rw [← hx] at n1 HR
      clear hL hl hm hx
      go_enter Try.func47, Try.ntmps47
      go_wp2_with fail
      refine (HB.out _ h1).mono ?_
      rintro e w1 ⟨rfl, rfl⟩
      go_wp2_with fail
      go_ret2
      refine ⟨?_, rfl⟩
      rw [HR.out]; rfl
  · have HB := Lib.hid (fun W hW => list_is bs be Ls.length A E l W hW false (by simpa [okL] using hl))
    have HR := Lib.hid (show lastI Ls l = (0, false) by unfold lastI; rw [if_neg hl])
    clear hl
    go_enter Try.func47, Try.ntmps47
    go_wp2_with fail
    refine (HB.out _ h1).mono ?_
    rintro e w1 ⟨rfl, rfl⟩
    go_wp2_with fail
    go_ret2
    refine ⟨?_, rfl⟩
    rw [HR.out]; rfl

theorem len_any (bs be : Nat) (Ls : List (List Nat)) (l : Int) (w : World) (h : SpaceAt w bs be Ls) :
    Calls Try.prog 29 #[.pointer (some ⟨bs, 0, none⟩), .int .i64 l] w fun e w' => e = .returned (.int .i64 (lenI Ls l)) ∧ w = w' := by
  obtain ⟨A, E, h1, h2⟩ := h
  by_cases hl : okL Ls l
  · obtain ⟨k, rfl⟩ := Int.eq_ofNat_of_zero_le hl.1
    have hk : k < Ls.length := by have := hl.2; omega
    have hki : (k : Int) < (Ls.length : Int) := by omega
    have HB := Lib.hid (fun W hW => list_is bs be Ls.length A E k W hW true (by simpa [okL] using hl))
    have n2 := h1.endc (f := 2) hk (by omega)
    have sl := h1.slice
    rw [h2.many k hk] at n2
    have HR := Lib.hid (show lenI Ls k = ((Ls.getD k []).length : Int) by unfold lenI; rw [if_pos hl, Int.toNat_natCast])
    obtain ⟨m, hm⟩ : ∃ m : Int, m = ((Ls.getD k []).length : Int) := ⟨_, rfl⟩
    rw [← hm] at n2 HR
    clear hl hm
    go_enter Try.func29, Try.ntmps29
    go_wp2_with fail
    refine (HB.out _ h1).mono ?_
    rintro e w1 ⟨rfl, rfl⟩
    go_wp2_with fail
    go_ret
    refine ⟨?_, rfl⟩
    rw [HR.out]; rfl
  · have HB := Lib.hid (fun W hW => list_is bs be Ls.length A E l W hW false (by simpa [okL] using hl))
    have HR := Lib.hid (show lenI Ls l = 0 by unfold lenI; rw [if_neg hl])
    clear hl
    go_enter Try.func29, Try.ntmps29
    go_wp2_with fail
    refine (HB.out _ h1).mono ?_
    rintro e w1 ⟨rfl, rfl⟩
    go_wp2_with fail
    go_ret
    refine ⟨?_, rfl⟩
    rw [HR.out]; rfl
end Go.Proofs.Ytpmfadepinmmjaa
