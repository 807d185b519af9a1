/-
  gradinelaw10.do and wakes; what a space that is not there answers. No condition but that the space lies in memory.
-/
import Derived.Test.YtpmfadepinmmjaaSpaceNew
namespace Go.Proofs.Ytpmfadepinmmjaa
open Go.RowKit

/-- an act: its error, and the lists behind it -/
def doE (Ls : List (List Nat)) (k l b : Int) : Int :=
  if k = 0 ∨ k = 1 then (if okL Ls l ∧ okB b then 0 else 3)
  else if okB b then (match ofL Ls b.toNat with | some _ => 0 | none => 5) else 3
def doL (Ls : List (List Nat)) (k l b : Int) : List (List Nat) :=
  if k = 0 then (if okL Ls l ∧ okB b then frontL Ls l.toNat b.toNat else Ls)
  else if k = 1 then (if okL Ls l ∧ okB b then putBackL Ls l.toNat b.toNat else Ls)
  else if okB b then (match ofL Ls b.toNat with | some _ => outL Ls b.toNat | none => Ls) else Ls

theorem doL_length (Ls : List (List Nat)) (k l b : Int) : (doL Ls k l b).length = Ls.length := by
  unfold doL
  split
  · split
    · exact frontL_length _ _ _
    · rfl
  · split
    · split
      · exact putBackL_length _ _ _
      · rfl
    · split
      · split
        · exact outL_length _ _
        · rfl
      · rfl

/-- Front, whatever the list and the block -/
theorem front_any (bs be : Nat) (Ls : List (List Nat)) (l b : Int) (w : World) (h : SpaceAt w bs be Ls) :
    Calls Try.prog 32 #[.pointer (some ⟨bs, 0, none⟩), .int .i64 l, .int .i64 b] w fun e w' => e = .returned (.int .i64 (doE Ls 0 l b)) ∧ SpaceAt w' bs be (doL Ls 0 l b) ∧ Chg [bs, be] w w' := by
  by_cases hok : okL Ls l ∧ okB b
  · obtain ⟨x, rfl⟩ := Int.eq_ofNat_of_zero_le hok.1.1
    obtain ⟨y, rfl⟩ := Int.eq_ofNat_of_zero_le hok.2.1
    have h1 : doE Ls 0 x y = 0 := by simp [doE, hok]
    have h2 : doL Ls 0 x y = frontL Ls x y := by simp [doL, hok]
    rw [h1, h2]
    exact front_ok bs be Ls x y w h (by have := hok.1.2; omega) (by have := hok.2.2; omega)
  · have h1 : doE Ls 0 l b = 3 := by simp [doE, hok]
    have h2 : doL Ls 0 l b = Ls := by simp [doL, hok]
    rw [h1, h2]
    exact (front_out bs be Ls l b w h hok).mono fun e w' ⟨he, hw⟩ => ⟨he, hw ▸ h, hw ▸ Chg.refl _ _⟩
theorem remove_any (bs be : Nat) (Ls : List (List Nat)) (b : Int) (w : World) (h : SpaceAt w bs be Ls) :
    Calls Try.prog 31 #[.pointer (some ⟨bs, 0, none⟩), .int .i64 b] w fun e w' => e = .returned (.int .i64 (doE Ls 2 0 b)) ∧ SpaceAt w' bs be (doL Ls 2 0 b) ∧ Chg [bs, be] w w' := by
  by_cases hok : okB b
  · obtain ⟨y, rfl⟩ := Int.eq_ofNat_of_zero_le hok.1
    cases hof : ofL Ls y with
    | none =>
      have h1 : doE Ls 2 0 y = 5 := by simp [doE, hok, hof]
      have h2 : doL Ls 2 0 y = Ls := by simp [doL, hok, hof]
      rw [h1, h2]
      exact (remove_none bs be Ls y w h (by have := hok.2; omega) hof).mono fun e w' ⟨he, hw⟩ => ⟨he, hw ▸ h, hw ▸ Chg.refl _ _⟩
    | some k =>
      have h1 : doE Ls 2 0 y = 0 := by simp [doE, hok, hof]
      have h2 : doL Ls 2 0 y = outL Ls y := by simp [doL, hok, hof]
      rw [h1, h2]
      exact remove_some bs be Ls y k w h hof
  · have h1 : doE Ls 2 0 b = 3 := by simp [doE, hok]
    have h2 : doL Ls 2 0 b = Ls := by simp [doL, hok]
    rw [h1, h2]
    exact (remove_out bs b w hok).mono fun e w' ⟨he, hw⟩ => ⟨he, hw ▸ h, hw ▸ Chg.refl _ _⟩

theorem doE_list (Ls : List (List Nat)) (k l b : Int) (h0 : k ≠ 0) (h1 : k ≠ 1) : doE Ls k l b = doE Ls 2 0 b ∧ doL Ls k l b = doL Ls 2 0 b := by
  simp [doE, doL, h0, h1]

theorem all_any (bs be : Nat) (Ls : List (List Nat)) (l : Int) (w : World) (h : SpaceAt w bs be Ls) :
    Calls Try.prog 33 #[.pointer (some ⟨bs, 0, none⟩), .int .i64 l] w fun e w' => ∃ v, e = .returned v ∧ OwnI .i64 3 w.heap.size w' v (allI Ls l) ∧ Ext w w' := by
  by_cases hl : okL Ls l
  · obtain ⟨k, rfl⟩ := Int.eq_ofNat_of_zero_le hl.1
    have he : allI Ls k = asInts (Ls.getD k []) := by unfold allI; rw [if_pos hl, Int.toNat_natCast]; rfl
    rw [he]
    exact all_in bs be Ls k w h (by have := hl.2; omega)
  · have he : allI Ls l = [] := by unfold allI; rw [if_neg hl]
    rw [he]
    obtain ⟨A, E, h1, h2⟩ := h
    have HL := Lib.hid (fun W hW => list_is bs be Ls.length A E l W hW false (by simpa [okL] using hl))
    clear hl he
    go_enter Try.func33, Try.ntmps33
    go_wp2_with fail
    refine (HL.out _ h1).mono ?_
    rintro e w1 ⟨rfl, rfl⟩
    go_wp2_with fail
    go_ret
    exact ⟨_, rfl, OwnI.nil _ _ _ _, Ext.refl _⟩

/-! ### a space that is not there -/
theorem ready_nil (l b : Int) (w : World) : Calls Try.prog 52 #[.pointer none, .int .i64 l, .int .i64 b] w fun e w' => e = .returned (.int .i64 7) ∧ w = w' := by
  go_enter Try.func52, Try.ntmps52
  go_wp2_with fail
  go_ret
  exact ⟨rfl, rfl⟩
theorem front_nil (l b : Int) (w : World) : Calls Try.prog 32 #[.pointer none, .int .i64 l, .int .i64 b] w fun e w' => e = .returned (.int .i64 7) ∧ w = w' := by
  go_enter Try.func32, Try.ntmps32
  go_wp2_with fail
  refine (ready_nil l b _).mono ?_
  rintro e w1 ⟨rfl, rfl⟩
  go_wp2_with fail
  go_ret
  exact ⟨rfl, rfl⟩
theorem remove_nil (b : Int) (w : World) : Calls Try.prog 31 #[.pointer none, .int .i64 b] w fun e w' => e = .returned (.int .i64 7) ∧ w = w' := by
  go_enter Try.func31, Try.ntmps31
  go_wp2_with fail
  go_ret
  exact ⟨rfl, rfl⟩
theorem of_nil (b : Int) (w : World) : Calls Try.prog 40 #[.pointer none, .int .i64 b] w fun e w' => e = .returned (.tuple #[.int .i64 0, .bool false]) ∧ w = w' := by
  go_enter Try.func40, Try.ntmps40
  go_wp2_with fail
  refine (block_nil b _).mono ?_
  rintro e w1 ⟨rfl, rfl⟩
  go_wp2_with fail
  go_ret2
  exact ⟨rfl, rfl⟩
theorem first_nil (l : Int) (w : World) : Calls Try.prog 49 #[.pointer none, .int .i64 l] w fun e w' => e = .returned (.tuple #[.int .i64 0, .bool false]) ∧ w = w' := by
  go_enter Try.func49, Try.ntmps49
  go_wp2_with fail
  refine (list_nil l _).mono ?_
  rintro e w1 ⟨rfl, rfl⟩
  go_wp2_with fail
  go_ret2
  exact ⟨rfl, rfl⟩
theorem last_nil (l : Int) (w : World) : Calls Try.prog 47 #[.pointer none, .int .i64 l] w fun e w' => e = .returned (.tuple #[.int .i64 0, .bool false]) ∧ w = w' := by
  go_enter Try.func47, Try.ntmps47
  go_wp2_with fail
  refine (list_nil l _).mono ?_
  rintro e w1 ⟨rfl, rfl⟩
  go_wp2_with fail
  go_ret2
  exact ⟨rfl, rfl⟩
theorem len_nil (l : Int) (w : World) : Calls Try.prog 29 #[.pointer none, .int .i64 l] w fun e w' => e = .returned (.int .i64 0) ∧ w = w' := by
  go_enter Try.func29, Try.ntmps29
  go_wp2_with fail
  refine (list_nil l _).mono ?_
  rintro e w1 ⟨rfl, rfl⟩
  go_wp2_with fail
  go_ret
  exact ⟨rfl, rfl⟩
theorem all_nil (l : Int) (w : World) : Calls Try.prog 33 #[.pointer none, .int .i64 l] w fun e w' => e = .returned (.slice none 0 0) ∧ w = w' := by
  go_enter Try.func33, Try.ntmps33
  go_wp2_with fail
  refine (list_nil l _).mono ?_
  rintro e w1 ⟨rfl, rfl⟩
  go_wp2_with fail
  go_ret
  exact ⟨rfl, rfl⟩
end Go.Proofs.Ytpmfadepinmmjaa
