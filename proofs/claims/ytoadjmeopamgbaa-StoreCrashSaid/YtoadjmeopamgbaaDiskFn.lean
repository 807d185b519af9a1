/-
  What the functions of package sector do to a disk. No condition.
-/
import Derived.Test.YtoadjmeopamgbaaDisk
import Derived.Test.YtoadjmeopamgbaaClone
namespace Go.Proofs.Ytoadjmeopamgbaa
open Go.RowKit

theorem dthere_any (F : List Nat) (p bl : Nat) (d : Dk) (w : World) (h : DiskAt w F p bl d) (i : Int) (r : Bool) (hr : decide (0 ≤ i ∧ i < d.rows.length) = r) :
    Calls Try.prog 41 #[.pointer (some ⟨p, 0, none⟩), .int .i64 i] w fun e w' => e = .returned (.bool r) ∧ w = w' := by
  obtain ⟨a, c, hc, _⟩ := h.cell0
  subst hr
  clear h
  generalize d.rows.length = n at *
  by_cases h0 : 0 ≤ i
  · by_cases h1 : i < n
    · go_enter Try.func41, Try.ntmps41
      go_wp2_with fail
      go_ret
      exact ⟨ret_bool (by simp; omega), rfl⟩
    · go_enter Try.func41, Try.ntmps41
      go_wp2_with fail
      go_ret
      exact ⟨ret_bool (by simp; omega), rfl⟩
  · go_enter Try.func41, Try.ntmps41
    go_wp2_with fail
    go_ret
    exact ⟨ret_bool (by simp; omega), rfl⟩

theorem ddown_any (F : List Nat) (p bl : Nat) (d : Dk) (w : World) (h : DiskAt w F p bl d) :
    Calls Try.prog 45 #[.pointer (some ⟨p, 0, none⟩)] w fun e w' => e = .returned (.bool d.down) ∧ w = w' := by
  have hc := h.cell2
  clear h
  go_enter Try.func45, Try.ntmps45
  go_wp2_with fail
  go_ret
  exact ⟨rfl, rfl⟩
theorem dlen_any (F : List Nat) (p bl : Nat) (d : Dk) (w : World) (h : DiskAt w F p bl d) :
    Calls Try.prog 30 #[.pointer (some ⟨p, 0, none⟩)] w fun e w' => e = .returned (.int .i64 d.rows.length) ∧ w = w' := by
  obtain ⟨a, c, hc, _⟩ := h.cell0
  clear h
  go_enter Try.func30, Try.ntmps30
  go_wp2_with fail
  go_ret
  exact ⟨rfl, rfl⟩
/-- what a fuse makes of a disk -/
def Dk.fuseTo (d : Dk) (n : Int) : Dk := if d.down then d else ⟨max n (-1), d.down, d.rows⟩
theorem dfuse_any (F : List Nat) (p bl : Nat) (d : Dk) (w : World) (h : DiskAt w F p bl d) (n : Int) (hn : n ≤ 9223372036854775807) :
    Calls Try.prog 25 #[.pointer (some ⟨p, 0, none⟩), .int .i64 n] w fun e w' => e = .returned (.tuple #[]) ∧ DiskAt w' F p bl (d.fuseTo n) ∧ Chg [p] w w' := by
  have hc := h.cell2
  have hc1 := h.cell1
  have fr := h.frz 1
  cases hd : d.down
  · have HD := Lib.hid hd
    rw [hd] at hc
    by_cases hn1 : -1 ≤ n
    · have HS := Lib.hid (h.setFuse n hn1 hn)
      have hm : max n (-1) = n := by omega
      clear h hd
      go_enter Try.func25, Try.ntmps25
      go_wp2_with fail
      all_goals
        go_end0
        exact ⟨rfl, by unfold Dk.fuseTo; rw [if_neg (by rw [HD.out]; simp), hm]; exact HS.out, chg_one _ _ _ _⟩
    · have HS := Lib.hid (h.setFuse (-1) (by omega) (by omega))
      have hm : max n (-1) = -1 := by omega
      clear h hd
      go_enter Try.func25, Try.ntmps25
      go_wp2_with fail
      all_goals
        go_end0
        exact ⟨rfl, by unfold Dk.fuseTo; rw [if_neg (by rw [HD.out]; simp), hm]; exact HS.out, chg_one _ _ _ _⟩
  · have HD := Lib.hid hd
    have H := Lib.hid h
    rw [hd] at hc
    clear h hd
    go_enter Try.func25, Try.ntmps25
    go_wp2_with fail
    go_end0
    exact ⟨rfl, by simpa [Dk.fuseTo, HD.out] using H.out, Chg.refl _ _⟩
theorem dup_any (F : List Nat) (p bl : Nat) (d : Dk) (w : World) (h : DiskAt w F p bl d) :
    Calls Try.prog 26 #[.pointer (some ⟨p, 0, none⟩)] w fun e w' => e = .returned (.tuple #[]) ∧ DiskAt w' F p bl ⟨-1, false, d.rows⟩ ∧ Chg [p] w w' := by
  have hc := h.cell2
  have hc1 := h.cell1
  have fr := h.frz 1
  have fr2 := h.frz 2
  have hs := (h.setDown false).setFuse (-1) (by omega) (by omega)
  have HS := Lib.hid hs
  clear h hs
  go_enter Try.func26, Try.ntmps26
  go_wp2_with fail
  go_end0
  exact ⟨rfl, HS.out, (by repeat' (first | (with_reducible exact Chg.refl _ _) | (with_reducible assumption) | (with_reducible refine Chg.drewN ?_ _) | (with_reducible refine Chg.drew ?_) | (with_reducible refine Chg.alloc ?_ _) | (with_reducible refine Chg.setCell ?_ (.inl (by simp)) _) | (with_reducible refine Chg.trans ?_ (by assumption)) | (with_reducible refine Chg.ext ?_ (by assumption))))⟩

theorem dread_any (F : List Nat) (p bl : Nat) (d : Dk) (w : World) (h : DiskAt w F p bl d) (i : Int) (hi : 0 ≤ i ∧ i < d.rows.length) :
    Calls Try.prog 20 #[.pointer (some ⟨p, 0, none⟩), .int .i64 i] w fun e w' => ∃ v, e = .returned (.tuple #[v, .int .i64 0]) ∧ OwnI .u8 5 w.heap.size w' v (d.rows.getD i.toNat []) ∧ Ext w w' := by
  obtain ⟨k, rfl⟩ : ∃ k : Nat, i = k := ⟨i.toNat, by omega⟩
  have hk : k < d.rows.length := by omega
  obtain ⟨a, c, hc, hnc, hcm, ha⟩ := h.cell0
  obtain rfl := ha (by omega)
  obtain ⟨v, hv, hr, _⟩ := h.cell hk
  have hfit : Fits (d.rows.getD k []).length := fits_small (by have := h.small k; omega)
  simp only [Int.toNat_natCast] at *
  have hki : (k : Int) < d.rows.length := by omega
  go_enter Try.func20, Try.ntmps20
  go_wp2_with fail
  refine (dthere_any F p bl d _ h _ true (by simp; omega)).mono ?_
  rintro e w1 ⟨rfl, rfl⟩
  go_wp2_with fail
  refine (clone_any v _ _ hr hfit).mono ?_
  rintro e w1 ⟨v1, rfl, ho, hx⟩
  go_wp2_with fail
  go_ret2
  exact ⟨_, rfl, ho, hx⟩
theorem dread_out (F : List Nat) (p bl : Nat) (d : Dk) (w : World) (h : DiskAt w F p bl d) (i : Int) (hi : ¬ (0 ≤ i ∧ i < d.rows.length)) :
    Calls Try.prog 20 #[.pointer (some ⟨p, 0, none⟩), .int .i64 i] w fun e w' => e = .returned (.tuple #[.slice none 0 0, .int .i64 3]) ∧ w = w' := by
  go_enter Try.func20, Try.ntmps20
  go_wp2_with fail
  refine (dthere_any F p bl d _ h _ false (by simp; omega)).mono ?_
  rintro e w1 ⟨rfl, rfl⟩
  go_wp2_with fail
  go_ret2
  exact ⟨rfl, rfl⟩

/-! ### a disk that is not there -/
theorem ddown_nil (w : World) : Calls Try.prog 45 #[.pointer none] w fun e w' => e = .returned (.bool false) ∧ w = w' := by
  go_enter Try.func45, Try.ntmps45
  go_wp2_with fail
  go_ret
  exact ⟨rfl, rfl⟩
theorem dlen_nil (w : World) : Calls Try.prog 30 #[.pointer none] w fun e w' => e = .returned (.int .i64 0) ∧ w = w' := by
  go_enter Try.func30, Try.ntmps30
  go_wp2_with fail
  go_ret
  exact ⟨rfl, rfl⟩
theorem dup_nil (w : World) : Calls Try.prog 26 #[.pointer none] w fun e w' => e = .returned (.tuple #[]) ∧ w = w' := by
  go_enter Try.func26, Try.ntmps26
  go_wp2_with fail
  go_end0
  exact ⟨rfl, rfl⟩
theorem dfuse_nil (n : Int) (w : World) : Calls Try.prog 25 #[.pointer none, .int .i64 n] w fun e w' => e = .returned (.tuple #[]) ∧ w = w' := by
  go_enter Try.func25, Try.ntmps25
  go_wp2_with fail
  go_end0
  exact ⟨rfl, rfl⟩
theorem dread_nil (n : Int) (w : World) : Calls Try.prog 20 #[.pointer none, .int .i64 n] w fun e w' => e = .returned (.tuple #[.slice none 0 0, .int .i64 7]) ∧ w = w' := by
  go_enter Try.func20, Try.ntmps20
  go_wp2_with fail
  go_ret2
  exact ⟨rfl, rfl⟩
theorem dwrite_nil (n : Int) (v : Value) (w : World) : Calls Try.prog 19 #[.pointer none, .int .i64 n, v] w fun e w' => e = .returned (.int .i64 7) ∧ w = w' := by
  go_enter Try.func19, Try.ntmps19
  go_wp2_with fail
  go_ret
  exact ⟨rfl, rfl⟩
end Go.Proofs.Ytoadjmeopamgbaa
