/-
  list.Space: ready, Front, Back, Remove. No condition but that the space lies in memory.
-/
import Derived.Test.YtpmfadepinmmjaaSpace
namespace Go.Proofs.Ytpmfadepinmmjaa
open Go.RowKit

theorem ready_out (bs be : Nat) (Ls : List (List Nat)) (l b : Int) (w : World) (h : SpaceAt w bs be Ls) (hn : ¬(okL Ls l ∧ okB b)) :
    Calls Try.prog 52 #[.pointer (some ⟨bs, 0, none⟩), .int .i64 l, .int .i64 b] w fun e w' => e = .returned (.int .i64 3) ∧ w = w' := by
  obtain ⟨A, E, h1, h2⟩ := h
  by_cases hl : okL Ls l
  · have hb : ¬ okB b := fun hb => hn ⟨hl, hb⟩
    have HL := Lib.hid (fun W hW => list_is bs be Ls.length A E l W hW true (by simpa [okL] using hl))
    have HB := Lib.hid (fun W => block_is bs b W false (by simpa using hb))
    clear hl hb hn
    go_enter Try.func52, Try.ntmps52
    go_wp2_with fail
    refine (HL.out _ h1).mono ?_
    rintro e w1 ⟨rfl, rfl⟩
    go_wp2_with fail
    refine (HB.out _).mono ?_
    rintro e w1 ⟨rfl, rfl⟩
    go_wp2_with fail
    go_ret
    exact ⟨rfl, rfl⟩
  · have HL := Lib.hid (fun W hW => list_is bs be Ls.length A E l W hW false (by simpa [okL] using hl))
    clear hl hn
    go_enter Try.func52, Try.ntmps52
    go_wp2_with fail
    refine (HL.out _ h1).mono ?_
    rintro e w1 ⟨rfl, rfl⟩
    go_wp2_with fail
    go_ret
    exact ⟨rfl, rfl⟩

theorem ready_ok (bs be : Nat) (Ls : List (List Nat)) (l : Int) (b : Nat) (w : World) (h : SpaceAt w bs be Ls) (hl : okL Ls l) (hb : b < 64) :
    Calls Try.prog 52 #[.pointer (some ⟨bs, 0, none⟩), .int .i64 l, .int .i64 b] w fun e w' => e = .returned (.int .i64 0) ∧
      (∃ A E, SpcAt w' bs be Ls.length A E ∧ Lay A E (outL Ls b) ∧ A b 0 = -1) ∧ Chg [bs, be] w w' := by
  obtain ⟨A, E, h1, h2⟩ := h
  have HL := Lib.hid (fun W hW => list_is bs be Ls.length A E l W hW true (by simpa [okL] using hl))
  have hbok : okB (b : Int) := ⟨by omega, by omega⟩
  have HB := Lib.hid (fun W => block_is bs b W true (by simpa using hbok))
  have hbi : (b : Int) < 64 := by omega
  have n0 := h1.node0 hb
  clear hl hbok
  cases hof : ofL Ls b with
  | none =>
    have e0 := h2.of_none hb hof
    rw [e0] at n0
    have H0 := Lib.hid e0
    clear hof e0
    go_enter Try.func52, Try.ntmps52
    go_wp2_with fail
    refine (HL.out _ h1).mono ?_
    rintro e w1 ⟨rfl, rfl⟩
    go_wp2_with fail
    refine (HB.out _).mono ?_
    rintro e w1 ⟨rfl, rfl⟩
    go_wp2_with fail
    go_ret
    exact ⟨rfl, ⟨A, E, h1, by rw [h2.out_none H0.out]; exact h2, H0.out⟩, Chg.refl _ _⟩
  | some k =>
    obtain ⟨e0, hk, hm, _⟩ := h2.of_some hof
    rw [e0] at n0
    obtain ⟨o1, o2, o3⟩ := lay_out h2 hk e0 hb
    have o4 := h2.many k hk
    have o5 := h2.len hk
    have hk1 : ((k : Int) != -1) = true := by rw [bne_iff_ne]; omega
    have HO := Lib.hid (fun W hW => out_any W bs be Ls.length b k A E hW hb e0 hk o2 o3 (by rw [o4]; omega))
    have o6 := o1
    rw [h2.out_some hk e0] at o6
    clear hof e0 o2 o3 o4 o5 hm o1
    go_enter Try.func52, Try.ntmps52
    go_wp2_with fail
    refine (HL.out _ h1).mono ?_
    rintro e w1 ⟨rfl, rfl⟩
    go_wp2_with fail
    refine (HB.out _).mono ?_
    rintro e w1 ⟨rfl, rfl⟩
    go_wp2_with fail
    refine (HO.out _ h1).mono ?_
    rintro e w1 ⟨rfl, hs1, hc1⟩
    go_wp2_with fail
    go_ret
    refine ⟨rfl, ⟨_, _, hs1, o6, ?_⟩, hc1⟩
    simp [outA, upd]

theorem front_out (bs be : Nat) (Ls : List (List Nat)) (l b : Int) (w : World) (h : SpaceAt w bs be Ls) (hn : ¬(okL Ls l ∧ okB b)) :
    Calls Try.prog 32 #[.pointer (some ⟨bs, 0, none⟩), .int .i64 l, .int .i64 b] w fun e w' => e = .returned (.int .i64 3) ∧ w = w' := by
  have HR := Lib.hid (ready_out bs be Ls l b w h hn)
  clear hn
  go_enter Try.func32, Try.ntmps32
  go_wp2_with fail
  refine HR.out.mono ?_
  rintro e w1 ⟨rfl, rfl⟩
  go_wp2_with fail
  go_ret
  exact ⟨rfl, rfl⟩
theorem frontL_length (Ls : List (List Nat)) (l b : Nat) : (frontL Ls l b).length = Ls.length := by simp [frontL, outL]
theorem putBackL_length (Ls : List (List Nat)) (l b : Nat) : (putBackL Ls l b).length = Ls.length := by simp [putBackL, outL]

set_option maxHeartbeats 2000000 in
theorem front_ok (bs be : Nat) (Ls : List (List Nat)) (l b : Nat) (w : World) (h : SpaceAt w bs be Ls) (hl : l < Ls.length) (hb : b < 64) :
    Calls Try.prog 32 #[.pointer (some ⟨bs, 0, none⟩), .int .i64 l, .int .i64 b] w fun e w' => e = .returned (.int .i64 0) ∧ SpaceAt w' bs be (frontL Ls l b) ∧ Chg [bs, be] w w' := by
  have HR := Lib.hid (ready_ok bs be Ls l b w h ⟨by omega, by omega⟩ hb)
  have hbi : (b : Int) < 64 := by omega
  have hli : (l : Int) < (Ls.length : Int) := by omega
  go_enter Try.func32, Try.ntmps32
  go_wp2_with fail
  refine HR.out.mono ?_
  rintro e w1 ⟨rfl, ⟨A, E, hs1, hy, hA⟩, hc1⟩
  have hl' : l < (outL Ls b).length := by rw [outL_length]; exact hl
  obtain ⟨y1, y2⟩ := lay_front hy hl' hA hb
  have HY := Lib.hid y1
  have hm1 := hy.many l hl'
  have hm2 := hy.len hl'
  obtain ⟨m, hm⟩ : ∃ m, m = E l 2 := ⟨_, rfl⟩
  have hm0 : 0 ≤ m ∧ m ≤ 64 := by omega
  obtain ⟨m0, m1⟩ := hm0
  have sl := hs1.slice
  have e2 := hs1.endc (f := 2) hl (by omega)
  have e1 := hs1.endc (f := 1) hl (by omega)
  have e0 := hs1.endc0 hl
  have k0 := hs1.node0 hb
  have k1 := hs1.node (f := 1) hb (by omega)
  have k2 := hs1.node (f := 2) hb (by omega)
  have f2 := hs1.free2
  have f1 := hs1.free1
  have ne1 := hs1.ne
  have ne2 := Ne.symm hs1.ne
  rw [← hm] at e2
  have HM := Lib.hid hm
  clear y1 hA hm hm1 hm2 hl'
  rcases y2 with y2 | ⟨p, y2, hp, hpb⟩
  · rw [y2] at e0
    have EA := Lib.hid (show frontA A E l b = upd (upd (upd A b 0 l) b 1 (-1)) b 2 (-1) by simp [frontA, y2])
    have EE := Lib.hid (show frontE E l b = upd (upd (upd E l 1 b) l 0 b) l 2 (m + 1) by simp [frontE, y2, HM.out])
    clear y2
    go_wp2_with fail
    go_region
    all_goals go_wp2_with fail
    go_ret
    refine ⟨rfl, ⟨_, _, ?_, HY.out⟩, ?_⟩
    · rw [EA.out, EE.out, frontL_length]
      refine SpcAt.ext ?_ (Ext.refl _).drew
      exact (((((hs1.setNode0 hb _).setNode (f := 1) hb (by omega) _).setNode (f := 2) hb (by omega) _).setEnd (f := 1) hl (by omega) _).setEnd0 hl _).setEnd (f := 2) hl (by omega) _
    · exact (by repeat' (first | (with_reducible exact Chg.refl _ _) | (with_reducible assumption) | (with_reducible refine Chg.drewN ?_ _) | (with_reducible refine Chg.drew ?_) | (with_reducible refine Chg.alloc ?_ _) | (with_reducible refine Chg.setCell ?_ (.inl (by simp)) _) | (with_reducible refine Chg.trans ?_ (by assumption)) | (with_reducible refine Chg.ext ?_ (by assumption))))
  · have hpi : (p : Int) < 64 := by omega
    have hpn : ((p : Int) == -1) = false := by rw [beq_eq_false_iff_ne]; omega
    have hpn' : (p : Int) ≠ -1 := by omega
    rw [y2] at e0
    have EA := Lib.hid (show frontA A E l b = upd (upd (upd (upd A b 0 l) b 1 (-1)) b 2 p) p 1 b by simp [frontA, y2, hpn'])
    have EE := Lib.hid (show frontE E l b = upd (upd E l 0 b) l 2 (m + 1) by simp [frontE, y2, hpn', HM.out])
    have p1 := hs1.node (f := 1) hp (by omega)
    clear y2 hpn'
    go_wp2_with fail
    go_region
    all_goals go_wp2_with fail
    go_region
    all_goals go_wp2_with fail
    go_ret
    refine ⟨rfl, ⟨_, _, ?_, HY.out⟩, ?_⟩
    · rw [EA.out, EE.out, frontL_length]
      refine SpcAt.ext ?_ ((Ext.refl _).drew.drew)
      exact (((((hs1.setNode0 hb _).setNode (f := 1) hb (by omega) _).setNode (f := 2) hb (by omega) _).setNode (f := 1) hp (by omega) _).setEnd0 hl _).setEnd (f := 2) hl (by omega) _
    · exact (by repeat' (first | (with_reducible exact Chg.refl _ _) | (with_reducible assumption) | (with_reducible refine Chg.drewN ?_ _) | (with_reducible refine Chg.drew ?_) | (with_reducible refine Chg.alloc ?_ _) | (with_reducible refine Chg.setCell ?_ (.inl (by simp)) _) | (with_reducible refine Chg.trans ?_ (by assumption)) | (with_reducible refine Chg.ext ?_ (by assumption))))
theorem remove_out (bs : Nat) (b : Int) (w : World) (hb : ¬ okB b) :
    Calls Try.prog 31 #[.pointer (some ⟨bs, 0, none⟩), .int .i64 b] w fun e w' => e = .returned (.int .i64 3) ∧ w = w' := by
  have HB := Lib.hid (fun W => block_is bs b W false (by simpa using hb))
  clear hb
  go_enter Try.func31, Try.ntmps31
  go_wp2_with fail
  refine (HB.out _).mono ?_
  rintro e w1 ⟨rfl, rfl⟩
  go_wp2_with fail
  go_ret
  exact ⟨rfl, rfl⟩

theorem remove_none (bs be : Nat) (Ls : List (List Nat)) (b : Nat) (w : World) (h : SpaceAt w bs be Ls) (hb : b < 64) (hof : ofL Ls b = none) :
    Calls Try.prog 31 #[.pointer (some ⟨bs, 0, none⟩), .int .i64 b] w fun e w' => e = .returned (.int .i64 5) ∧ w = w' := by
  obtain ⟨A, E, h1, h2⟩ := h
  have hbok : okB (b : Int) := ⟨by omega, by omega⟩
  have HB := Lib.hid (fun W => block_is bs b W true (by simpa using hbok))
  have hbi : (b : Int) < 64 := by omega
  have n0 := h1.node0 hb
  rw [h2.of_none hb hof] at n0
  clear hof hbok
  go_enter Try.func31, Try.ntmps31
  go_wp2_with fail
  refine (HB.out _).mono ?_
  rintro e w1 ⟨rfl, rfl⟩
  go_wp2_with fail
  go_ret
  exact ⟨rfl, rfl⟩

theorem remove_some (bs be : Nat) (Ls : List (List Nat)) (b k : Nat) (w : World) (h : SpaceAt w bs be Ls) (hof : ofL Ls b = some k) :
    Calls Try.prog 31 #[.pointer (some ⟨bs, 0, none⟩), .int .i64 b] w fun e w' => e = .returned (.int .i64 0) ∧ SpaceAt w' bs be (outL Ls b) ∧ Chg [bs, be] w w' := by
  obtain ⟨A, E, h1, h2⟩ := h
  obtain ⟨e0, hk, hm, hb⟩ := h2.of_some hof
  have hbok : okB (b : Int) := ⟨by omega, by omega⟩
  have HB := Lib.hid (fun W => block_is bs b W true (by simpa using hbok))
  have hbi : (b : Int) < 64 := by omega
  have n0 := h1.node0 hb
  rw [e0] at n0
  obtain ⟨o1, o2, o3⟩ := lay_out h2 hk e0 hb
  have o4 := h2.many k hk
  have o5 := h2.len hk
  have hk1 : ((k : Int) == -1) = false := by rw [beq_eq_false_iff_ne]; omega
  have HO := Lib.hid (fun W hW => out_any W bs be Ls.length b k A E hW hb e0 hk o2 o3 (by rw [o4]; omega))
  rw [h2.out_some hk e0] at o1
  clear hof e0 o2 o3 o4 o5 hm hbok
  go_enter Try.func31, Try.ntmps31
  go_wp2_with fail
  refine (HB.out _).mono ?_
  rintro e w1 ⟨rfl, rfl⟩
  go_wp2_with fail
  refine (HO.out _ h1).mono ?_
  rintro e w1 ⟨rfl, hs1, hc1⟩
  go_wp2_with fail
  go_ret
  exact ⟨rfl, ⟨_, _, by rw [outL_length]; exact hs1, o1⟩, hc1⟩
end Go.Proofs.Ytpmfadepinmmjaa
