/-
  gradinelaw10.do and wakes; what a space that is not there answers. No condition but that the space lies in memory.
-/
import Derived.Test.YtclajmbmchaidaaSpaceNew
namespace Go.Proofs.Ytclajmbmchaidaa
open Go.RowKit

/-- an act: its error, and the lists behind it -/
def doE (Ls : List (List Nat)) (k l b : Int) : Int :=
  if k = 0 ∨ k = 1 then (if okL Ls l ∧ okB b then 0 else 3)
  else if okB b then (match ofL Ls b.toNat with | some _ => 0 | none => 5) else 3
def doL (Ls : List (List Nat)) (k l b : Int) : List (List Nat) :=
  if k = 0 then (if okL Ls l ∧ okB b then frontL Ls l.toNat b.toNat else Ls)
  else if k = 1 then (if okL Ls l ∧ okB b then putBackL Ls l.toNat b.toNat else Ls)
  else if okB b then (match ofL Ls b.toNat with | some _ => outL Ls b.toNat | none => Ls) else Ls

theorem doL_length (Ls : List (List Nat)) (k l b : Int) : (doL Ls k l b).length = Ls.length := by
  unfold doL
  split
  · split
    · exact frontL_length _ _ _
    · rfl
  · split
    · split
      · exact putBackL_length _ _ _
      · rfl
    · split
      · split
        · exact outL_length _ _
        · rfl
      · rfl

/-- Front, whatever the list and the block -/
theorem front_any (bs be : Nat) (Ls : List (List Nat)) (l b : Int) (w : World) (h : SpaceAt w bs be Ls) :
    Calls Try.prog 22 #[.pointer (some ⟨bs, 0, none⟩), .int .i64 l, .int .i64 b] w fun e w' => e = .returned (.int .i64 (doE Ls 0 l b)) ∧ SpaceAt w' bs be (doL Ls 0 l b) ∧ Chg [bs, be] w w' := by
  by_cases hok : okL Ls l ∧ okB b
  · obtain ⟨x, rfl⟩ := Int.eq_ofNat_of_zero_le hok.1.1
    obtain ⟨y, rfl⟩ := Int.eq_ofNat_of_zero_le hok.2.1
    have h1 : doE Ls 0 x y = 0 := by simp [doE, hok]
    have h2 : doL Ls 0 x y = frontL Ls x y := by simp [doL, hok]
    rw [h1, h2]
    exact front_ok bs be Ls x y w h (by have := hok.1.2; omega) (by have := hok.2.2; omega)
  · have h1 : doE Ls 0 l b = 3 := by simp [doE, hok]
    have h2 : doL Ls 0 l b = Ls := by simp [doL, hok]
    rw [h1, h2]
    exact (front_out bs be Ls l b w h hok).mono fun e w' ⟨he, hw⟩ => ⟨he, hw ▸ h, hw ▸ Chg.refl _ _⟩
theorem back_any (bs be : Nat) (Ls : List (List Nat)) (l b : Int) (w : World) (h : SpaceAt w bs be Ls) :
    Calls Try.prog 19 #[.pointer (some ⟨bs, 0, none⟩), .int .i64 l, .int .i64 b] w fun e w' => e = .returned (.int .i64 (doE Ls 1 l b)) ∧ SpaceAt w' bs be (doL Ls 1 l b) ∧ Chg [bs, be] w w' := by
  by_cases hok : okL Ls l ∧ okB b
  · obtain ⟨x, rfl⟩ := Int.eq_ofNat_of_zero_le hok.1.1
    obtain ⟨y, rfl⟩ := Int.eq_ofNat_of_zero_le hok.2.1
    have h1 : doE Ls 1 x y = 0 := by simp [doE, hok]
    have h2 : doL Ls 1 x y = putBackL Ls x y := by simp [doL, hok]
    rw [h1, h2]
    exact back_ok bs be Ls x y w h (by have := hok.1.2; omega) (by have := hok.2.2; omega)
  · have h1 : doE Ls 1 l b = 3 := by simp [doE, hok]
    have h2 : doL Ls 1 l b = Ls := by simp [doL, hok]
    rw [h1, h2]
    exact (back_out bs be Ls l b w h hok).mono fun e w' ⟨he, hw⟩ => ⟨he, hw ▸ h, hw ▸ Chg.refl _ _⟩
theorem remove_any (bs be : Nat) (Ls : List (List Nat)) (b : Int) (w : World) (h : SpaceAt w bs be Ls) :
    Calls Try.prog 43 #[.pointer (some ⟨bs, 0, none⟩), .int .i64 b] w fun e w' => e = .returned (.int .i64 (doE Ls 2 0 b)) ∧ SpaceAt w' bs be (doL Ls 2 0 b) ∧ Chg [bs, be] w w' := by
  by_cases hok : okB b
  · obtain ⟨y, rfl⟩ := Int.eq_ofNat_of_zero_le hok.1
    cases hof : ofL Ls y with
    | none =>
      have h1 : doE Ls 2 0 y = 5 := by simp [doE, hok, hof]
      have h2 : doL Ls 2 0 y = Ls := by simp [doL, hok, hof]
      rw [h1, h2]
      exact (remove_none bs be Ls y w h (by have := hok.2; omega) hof).mono fun e w' ⟨he, hw⟩ => ⟨he, hw ▸ h, hw ▸ Chg.refl _ _⟩
    | some k =>
      have h1 : doE Ls 2 0 y = 0 := by simp [doE, hok, hof]
      have h2 : doL Ls 2 0 y = outL Ls y := by simp [doL, hok, hof]
      rw [h1, h2]
      exact remove_some bs be Ls y k w h hof
  · have h1 : doE Ls 2 0 b = 3 := by simp [doE, hok]
    have h2 : doL Ls 2 0 b = Ls := by simp [doL, hok]
    rw [h1, h2]
    exact (remove_out bs b w hok).mono fun e w' ⟨he, hw⟩ => ⟨he, hw ▸ h, hw ▸ Chg.refl _ _⟩

theorem doE_list (Ls : List (List Nat)) (k l b : Int) (h0 : k ≠ 0) (h1 : k ≠ 1) : doE Ls k l b = doE Ls 2 0 b ∧ doL Ls k l b = doL Ls 2 0 b := by
  simp [doE, doL, h0, h1]

theorem do_any (bs be : Nat) (Ls : List (List Nat)) (k l b : Int) (w : World) (h : SpaceAt w bs be Ls) :
    Calls Try.prog 15 #[.pointer (some ⟨bs, 0, none⟩), .agg #[.int .i64 k, .int .i64 l, .int .i64 b]] w fun e w' => e = .returned (.int .i64 (doE Ls k l b)) ∧ SpaceAt w' bs be (doL Ls k l b) ∧ Chg [bs, be] w w' := by
  have hx : ∀ o : Obj, SpaceAt (w.alloc o) bs be Ls := fun o => h.ext ((Ext.refl w).alloc o)
  have HX := Lib.hid hx
  clear hx
  by_cases h0 : k = 0
  · subst h0
    go_enter Try.func15, Try.ntmps15
    go_wp2_with fail
    refine (front_any bs be Ls l b _ (HX.out _)).mono ?_
    rintro e w1 ⟨rfl, hs1, hc1⟩
    go_wp2_with fail
    go_ret
    exact ⟨rfl, hs1, ((Chg.refl _ _).alloc _).trans hc1⟩
  · have hb0 : (k == 0) = false := by simp [h0]
    by_cases h1 : k = 1
    · subst h1
      clear h0
      go_enter Try.func15, Try.ntmps15
      go_wp2_with fail
      refine (back_any bs be Ls l b _ (HX.out _)).mono ?_
      rintro e w1 ⟨rfl, hs1, hc1⟩
      go_wp2_with fail
      go_ret
      exact ⟨rfl, hs1, ((Chg.refl _ _).alloc _).trans hc1⟩
    · have hb1 : (k == 1) = false := by simp [h1]
      obtain ⟨d1, d2⟩ := doE_list Ls k l b h0 h1
      rw [d1, d2]
      clear h0 h1 d1 d2
      go_enter Try.func15, Try.ntmps15
      go_wp2_with fail
      refine (remove_any bs be Ls b _ (HX.out _)).mono ?_
      rintro e w1 ⟨rfl, hs1, hc1⟩
      go_wp2_with fail
      go_ret
      exact ⟨rfl, hs1, ((Chg.refl _ _).alloc _).trans hc1⟩

theorem all_any (bs be : Nat) (Ls : List (List Nat)) (l : Int) (w : World) (h : SpaceAt w bs be Ls) :
    Calls Try.prog 16 #[.pointer (some ⟨bs, 0, none⟩), .int .i64 l] w fun e w' => ∃ v, e = .returned v ∧ OwnI .i64 3 w.heap.size w' v (allI Ls l) ∧ Ext w w' := by
  by_cases hl : okL Ls l
  · obtain ⟨k, rfl⟩ := Int.eq_ofNat_of_zero_le hl.1
    have he : allI Ls k = asInts (Ls.getD k []) := by unfold allI; rw [if_pos hl, Int.toNat_natCast]; rfl
    rw [he]
    exact all_in bs be Ls k w h (by have := hl.2; omega)
  · have he : allI Ls l = [] := by unfold allI; rw [if_neg hl]
    rw [he]
    obtain ⟨A, E, h1, h2⟩ := h
    have HL := Lib.hid (fun W hW => list_is bs be Ls.length A E l W hW false (by simpa [okL] using hl))
    clear hl he
    go_enter Try.func16, Try.ntmps16
    go_wp2_with fail
    refine (HL.out _ h1).mono ?_
    rintro e w1 ⟨rfl, rfl⟩
    go_wp2_with fail
    go_ret
    exact ⟨_, rfl, OwnI.nil _ _ _ _, Ext.refl _⟩

theorem wakes10 (w : World) : Calls Try.prog 13 #[] w fun e w' => e = .returned (.bool true) ∧ Ext w w' := by
  go_enter Try.func13, Try.ntmps13
  go_wp2_with fail
  refine (new_any 1 _ (by omega) (by omega)).mono ?_
  rintro e w1 ⟨bs, be, rfl, hs, hb1, hb2, hx1⟩
  have hS : ∀ s ∈ [bs, be], w.heap.size ≤ s := by simp; omega
  go_wp2_with fail
  refine (front_any bs be _ 0 3 _ hs).mono ?_
  rintro e w2 ⟨rfl, hs2, hc2⟩
  have e1 : (doE (List.replicate (newN 1) []) 0 0 3 == 0) = true := by decide
  go_wp2_with fail
  refine (front_any bs be _ 0 4 _ hs2).mono ?_
  rintro e w3 ⟨rfl, hs3, hc3⟩
  have e2 : (doE (doL (List.replicate (newN 1) []) 0 0 3) 0 0 4 == 0) = true := by decide
  go_wp2_with fail
  refine (back_any bs be _ 0 5 _ hs3).mono ?_
  rintro e w4 ⟨rfl, hs4, hc4⟩
  have e3 : (doE (doL (doL (List.replicate (newN 1) []) 0 0 3) 0 0 4) 1 0 5 == 0) = true := by decide
  have e4 : allI (doL (doL (doL (List.replicate (newN 1) []) 0 0 3) 0 0 4) 1 0 5) 0 = [4, 3, 5] := by decide
  have hx4 : Ext w w4 := ((hx1.chg hc2 hS).chg hc3 hS).chg hc4 hS
  have H4 := Lib.hid e4
  clear e4
  go_wp2_with fail
  refine (all_any bs be _ 0 _ hs4).mono ?_
  rintro e w5 ⟨v, rfl, ho5, hx5⟩
  rw [H4.out] at ho5
  go_wp2_with fail
  refine (sameints_any _ _ [4, 3, 5] [4, 3, 5] _ (ho5.rd.ext (by repeat' (first | (with_reducible exact Ext.refl _) | (with_reducible assumption) | (with_reducible refine Ext.alloc ?_ _) | (with_reducible refine Ext.drewN ?_ _) | (with_reducible refine Ext.drew ?_) | (with_reducible refine Ext.trans ?_ (by assumption))))) (RdI.lit .i64 _ [4, 3, 5] _ (by simp [maxLen]))).mono ?_
  rintro e w6 ⟨rfl, hx6⟩
  simp only [decide_true]
  go_wp2_with fail
  go_ret
  exact ⟨rfl, (by repeat' (first | (with_reducible exact Ext.refl _) | (with_reducible assumption) | (with_reducible refine Ext.alloc ?_ _) | (with_reducible refine Ext.drewN ?_ _) | (with_reducible refine Ext.drew ?_) | (with_reducible refine Ext.trans ?_ (by assumption))))⟩

/-! ### a space that is not there -/
theorem ready_nil (l b : Int) (w : World) : Calls Try.prog 46 #[.pointer none, .int .i64 l, .int .i64 b] w fun e w' => e = .returned (.int .i64 7) ∧ w = w' := by
  go_enter Try.func46, Try.ntmps46
  go_wp2_with fail
  go_ret
  exact ⟨rfl, rfl⟩
theorem front_nil (l b : Int) (w : World) : Calls Try.prog 22 #[.pointer none, .int .i64 l, .int .i64 b] w fun e w' => e = .returned (.int .i64 7) ∧ w = w' := by
  go_enter Try.func22, Try.ntmps22
  go_wp2_with fail
  refine (ready_nil l b _).mono ?_
  rintro e w1 ⟨rfl, rfl⟩
  go_wp2_with fail
  go_ret
  exact ⟨rfl, rfl⟩
theorem back_nil (l b : Int) (w : World) : Calls Try.prog 19 #[.pointer none, .int .i64 l, .int .i64 b] w fun e w' => e = .returned (.int .i64 7) ∧ w = w' := by
  go_enter Try.func19, Try.ntmps19
  go_wp2_with fail
  refine (ready_nil l b _).mono ?_
  rintro e w1 ⟨rfl, rfl⟩
  go_wp2_with fail
  go_ret
  exact ⟨rfl, rfl⟩
theorem remove_nil (b : Int) (w : World) : Calls Try.prog 43 #[.pointer none, .int .i64 b] w fun e w' => e = .returned (.int .i64 7) ∧ w = w' := by
  go_enter Try.func43, Try.ntmps43
  go_wp2_with fail
  go_ret
  exact ⟨rfl, rfl⟩
theorem of_nil (b : Int) (w : World) : Calls Try.prog 17 #[.pointer none, .int .i64 b] w fun e w' => e = .returned (.tuple #[.int .i64 0, .bool false]) ∧ w = w' := by
  go_enter Try.func17, Try.ntmps17
  go_wp2_with fail
  refine (block_nil b _).mono ?_
  rintro e w1 ⟨rfl, rfl⟩
  go_wp2_with fail
  go_ret2
  exact ⟨rfl, rfl⟩
theorem first_nil (l : Int) (w : World) : Calls Try.prog 23 #[.pointer none, .int .i64 l] w fun e w' => e = .returned (.tuple #[.int .i64 0, .bool false]) ∧ w = w' := by
  go_enter Try.func23, Try.ntmps23
  go_wp2_with fail
  refine (list_nil l _).mono ?_
  rintro e w1 ⟨rfl, rfl⟩
  go_wp2_with fail
  go_ret2
  exact ⟨rfl, rfl⟩
theorem last_nil (l : Int) (w : World) : Calls Try.prog 20 #[.pointer none, .int .i64 l] w fun e w' => e = .returned (.tuple #[.int .i64 0, .bool false]) ∧ w = w' := by
  go_enter Try.func20, Try.ntmps20
  go_wp2_with fail
  refine (list_nil l _).mono ?_
  rintro e w1 ⟨rfl, rfl⟩
  go_wp2_with fail
  go_ret2
  exact ⟨rfl, rfl⟩
theorem len_nil (l : Int) (w : World) : Calls Try.prog 30 #[.pointer none, .int .i64 l] w fun e w' => e = .returned (.int .i64 0) ∧ w = w' := by
  go_enter Try.func30, Try.ntmps30
  go_wp2_with fail
  refine (list_nil l _).mono ?_
  rintro e w1 ⟨rfl, rfl⟩
  go_wp2_with fail
  go_ret
  exact ⟨rfl, rfl⟩
theorem all_nil (l : Int) (w : World) : Calls Try.prog 16 #[.pointer none, .int .i64 l] w fun e w' => e = .returned (.slice none 0 0) ∧ w = w' := by
  go_enter Try.func16, Try.ntmps16
  go_wp2_with fail
  refine (list_nil l _).mono ?_
  rintro e w1 ⟨rfl, rfl⟩
  go_wp2_with fail
  go_ret
  exact ⟨rfl, rfl⟩
theorem ahead_nil (a b : Int) (w : World) : Calls Try.prog 29 #[.pointer none, .int .i64 a, .int .i64 b] w fun e w' => e = .returned (.bool false) ∧ w = w' := by
  go_enter Try.func29, Try.ntmps29
  go_wp2_with fail
  refine (of_nil a _).mono ?_
  rintro e w1 ⟨rfl, rfl⟩
  go_wp2_with fail
  refine (of_nil b _).mono ?_
  rintro e w1 ⟨rfl, rfl⟩
  go_wp2_with fail
  go_ret
  exact ⟨rfl, rfl⟩
theorem do_nil (k l b : Int) (w : World) : Calls Try.prog 15 #[.pointer none, .agg #[.int .i64 k, .int .i64 l, .int .i64 b]] w fun e w' => e = .returned (.int .i64 7) ∧ Ext w w' := by
  by_cases h0 : k = 0
  · subst h0
    go_enter Try.func15, Try.ntmps15
    go_wp2_with fail
    refine (front_nil l b _).mono ?_
    rintro e w1 ⟨rfl, rfl⟩
    go_wp2_with fail
    go_ret
    exact ⟨rfl, (by repeat' (first | (with_reducible exact Ext.refl _) | (with_reducible assumption) | (with_reducible refine Ext.alloc ?_ _) | (with_reducible refine Ext.drewN ?_ _) | (with_reducible refine Ext.drew ?_) | (with_reducible refine Ext.trans ?_ (by assumption))))⟩
  · have hb0 : (k == 0) = false := by simp [h0]
    clear h0
    by_cases h1 : k = 1
    · subst h1
      go_enter Try.func15, Try.ntmps15
      go_wp2_with fail
      refine (back_nil l b _).mono ?_
      rintro e w1 ⟨rfl, rfl⟩
      go_wp2_with fail
      go_ret
      exact ⟨rfl, (by repeat' (first | (with_reducible exact Ext.refl _) | (with_reducible assumption) | (with_reducible refine Ext.alloc ?_ _) | (with_reducible refine Ext.drewN ?_ _) | (with_reducible refine Ext.drew ?_) | (with_reducible refine Ext.trans ?_ (by assumption))))⟩
    · have hb1 : (k == 1) = false := by simp [h1]
      clear h1
      go_enter Try.func15, Try.ntmps15
      go_wp2_with fail
      refine (remove_nil b _).mono ?_
      rintro e w1 ⟨rfl, rfl⟩
      go_wp2_with fail
      go_ret
      exact ⟨rfl, (by repeat' (first | (with_reducible exact Ext.refl _) | (with_reducible assumption) | (with_reducible refine Ext.alloc ?_ _) | (with_reducible refine Ext.drewN ?_ _) | (with_reducible refine Ext.drew ?_) | (with_reducible refine Ext.trans ?_ (by assumption))))⟩
end Go.Proofs.Ytclajmbmchaidaa
