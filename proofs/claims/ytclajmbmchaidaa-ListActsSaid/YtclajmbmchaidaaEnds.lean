/-
  gradinelaw10.ends. No condition but that the space lies in memory and that the slice reads as its list.
-/
import Derived.Test.YtclajmbmchaidaaDo10
import Derived.BigQuiet
import Derived.Deep.QuietTactic
namespace Go.Proofs.Ytclajmbmchaidaa
open Go.RowKit

set_option maxRecDepth 100000 in
set_option maxHeartbeats 1000000 in
theorem ends_any (bs be i : Nat) (Ls : List (List Nat)) (v : Value) (w : World) (h : SpaceAt w bs be Ls) (hi : i < Ls.length) (hv : RdI .i64 w v (asInts (Ls.getD i []))) :
    Calls Try.prog 31 #[.pointer (some ⟨bs, 0, none⟩), v, .int .i64 i] w fun e w' => e = .returned (.bool true) ∧ Ext w w' := by
  have hok : okL Ls i := ⟨by omega, by omega⟩
  obtain ⟨L, hL⟩ : ∃ L, Ls.getD i [] = L := ⟨_, rfl⟩
  rw [hL] at hv
  obtain ⟨a, c, rfl, hlc, hcm, hnil, hs⟩ := hv.parts
  have hl63 : ((asInts L).length : Int) ≤ 9223372036854775807 := by unfold maxLen at hcm; omega
  have hlen : (asInts L).length = L.length := by simp [asInts]
  rw [hlen] at hl63 ⊢
  cases L with
  | nil =>
    have hf : firstI Ls i = (0, false) := by unfold firstI; rw [if_pos hok, Int.toNat_natCast, hL]
    have hl : lastI Ls i = (0, false) := by unfold lastI; rw [if_pos hok, Int.toNat_natCast, hL, if_pos rfl]
    have HF := Lib.hid hf
    have HL := Lib.hid hl
    have H := Lib.hid h
    clear hf hl h hs hnil hlc hcm hv hok hL hlen
    go_enter Try.func31, Try.ntmps31
    go_wp2_with fail
    refine (first_any bs be Ls i _ H.out).mono ?_
    rintro e w1 ⟨rfl, rfl⟩
    rw [HF.out]
    go_wp2_with fail
    refine (last_any bs be Ls i _ H.out).mono ?_
    rintro e w1 ⟨rfl, rfl⟩
    rw [HL.out]
    go_wp2_with fail
    go_ret
    exact ⟨rfl, (by repeat' (first | (with_reducible exact Ext.refl _) | (with_reducible assumption) | (with_reducible refine Ext.alloc ?_ _) | (with_reducible refine Ext.drewN ?_ _) | (with_reducible refine Ext.drew ?_) | (with_reducible refine Ext.trans ?_ (by assumption))))⟩
  | cons x t =>
    have hf : firstI Ls i = ((x : Int), true) := by unfold firstI; rw [if_pos hok, Int.toNat_natCast, hL]
    have hl : lastI Ls i = (lst (-1) (x :: t), true) := by unfold lastI; rw [if_pos hok, Int.toNat_natCast, hL, if_neg (by simp)]
    obtain ⟨g, o, rfl, hg, hcell⟩ := hs (by simp [asInts])
    have c0 := hcell 0 (by simp [asInts])
    have cl := hcell t.length (by simp [asInts])
    have hlast : ∀ (y : Nat) (u : List Nat), (asInts (y :: u)).getD u.length 0 = lst (-1) (y :: u) := by
      intro y u
      induction u generalizing y with
      | nil => simp [asInts, lst]
      | cons z u ih =>
        have := ih z
        simpa [asInts, lst] using this
    rw [hlast x t] at cl
    rw [show (asInts (x :: t)).getD 0 0 = (x : Int) by simp [asInts]] at c0
    obtain ⟨z, hz⟩ : ∃ z, lst (-1) (x :: t) = z := ⟨_, rfl⟩
    rw [hz] at cl hl
    obtain ⟨n, hxn⟩ : ∃ n, (x :: t).length = n := ⟨_, rfl⟩
    have htn : t.length = n - 1 := by have := hxn; simp at this; omega
    have hn1 : 1 ≤ n := by have := hxn; simp at this; omega
    rw [htn] at cl
    rw [hxn] at hl63 ⊢
    have HF := Lib.hid hf
    have HL := Lib.hid hl
    have H := Lib.hid h
    have hm0 : (0 : Int) ≤ (n : Int) - 1 := by omega
    have hm1 : (n : Int) - 1 < (n : Int) := by omega
    have hm2 : ((n : Int) - 1).toNat = n - 1 := by omega
    have hn0 : (0 : Int) < (n : Int) := by omega
    have hnz : ((n : Int) == 0) = false := by simp; omega
    clear hf hl h hnil hlc hcm hv hok hL hlen hlast hcell hz htn hxn hn1
    simp only [Nat.add_zero] at c0
    go_enter Try.func31, Try.ntmps31
    go_wp2_with fail
    refine (first_any bs be Ls i _ H.out).mono ?_
    rintro e w1 ⟨rfl, rfl⟩
    rw [HF.out]
    go_wp2_with fail
    refine (last_any bs be Ls i _ H.out).mono ?_
    rintro e w1 ⟨rfl, rfl⟩
    rw [HL.out]
    go_wp2_with fail
    go_ret
    exact ⟨rfl, (by repeat' (first | (with_reducible exact Ext.refl _) | (with_reducible assumption) | (with_reducible refine Ext.alloc ?_ _) | (with_reducible refine Ext.drewN ?_ _) | (with_reducible refine Ext.drew ?_) | (with_reducible refine Ext.trans ?_ (by assumption))))⟩
end Go.Proofs.Ytclajmbmchaidaa
