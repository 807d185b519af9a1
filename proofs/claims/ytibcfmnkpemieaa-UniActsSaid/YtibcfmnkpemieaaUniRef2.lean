/-
  gradineref13: Next. No condition but that the stack is there and its blocks are a stack's.
-/
import Derived.Test.YtibcfmnkpemieaaUniRef1
import Derived.Deep.RegionHeld3
namespace Go.Proofs.Ytibcfmnkpemieaa
open Go.RowKit

theorem cap_at {w : World} {vC : Value} {caps : Nat → Nat} (h : RdI .i64 w vC [0, (caps 1 : Int), (caps 2 : Int), (caps 3 : Int)]) :
    ∃ b o c, vC = .slice (some ⟨b, o, none⟩) 4 c ∧ 4 ≤ c ∧ b < w.heap.size ∧ ∀ l, 1 ≤ l → l ≤ 3 → w.cell? ⟨b, o + l, none⟩ = some (.int .i64 (caps l)) := by
  obtain ⟨a, c, rfl, hc, _, _, hs⟩ := h.parts
  obtain ⟨b, o, rfl, hb, hcell⟩ := hs (by simp)
  refine ⟨b, o, c, rfl, hc, hb, fun l h1 h3 => ?_⟩
  have := hcell l (by simp; omega)
  have h4 : l = 1 ∨ l = 2 ∨ l = 3 := by omega
  rcases h4 with rfl | rfl | rfl <;> simpa using this

section
variable (p : Nat) (vL vC : Value) (caps : Nat → Nat) (M : List Nat) (lv : Nat → Nat) (w : World) (h : RefAt w p vL vC caps M lv)
include h
theorem ryard' (l : Nat) (y : Int) (hy : IsYard M lv l y) : Calls Try.prog 61 #[.pointer (some ⟨p, 0, none⟩), .int .i64 l] w fun e w' => e = .returned (.int .i64 y) ∧ w = w' :=
  (ryard p vL vC caps M lv w h l).mono fun e w' ⟨r, he, hr, hw⟩ => ⟨by rw [he, yard_unique hr hy], hw⟩
set_option maxHeartbeats 2000000 in
theorem rnext (hs : Stk M lv) (b : Nat) : Calls Try.prog 59 #[.pointer (some ⟨p, 0, none⟩), .int .i64 b] w fun e w' => e = .returned (.int .i64 (nextU caps M lv b)) ∧ Ext w w' := by
  have HR := Lib.hid h
  have HS := Lib.hid hs
  obtain ⟨bc, oc, cc, rfl, hcc, hbc, hcap⟩ := cap_at h.cap
  have c1 := h.c1
  have HCAP := Lib.hid hcap
  have hcc' : (4 : Int) ≤ (cc : Int) := by omega
  clear h hs hcap hcc
  go_enter Try.func59, Try.ntmps59
  go_wp2_with fail
  refine (rplace p vL _ caps M lv _ HR.out b).mono ?_
  rintro e w1 ⟨r, rfl, hp, rfl⟩
  have HP := Lib.hid hp
  clear hp
  go_wp2_with fail
  go_loopw [6] (fun vi wr => ∃ l : Nat, 1 ≤ l ∧ l ≤ 4 ∧ vi = .int .i64 l ∧ (∀ i, 1 ≤ i → i < l → nextOk caps M lv b i = false) ∧ Ext w wr) (fun vi _ => 4 - (intOf vi).toNat)
  case atStart => exact ⟨1, by omega, by omega, rfl, by intro i h1 h2; omega, Ext.refl _⟩
  case round =>
    obtain ⟨l, l1, l4, rfl, hall, hx⟩ := hrel
    have HALL := Lib.hid hall
    clear hall
    by_cases hlt : l ≤ 3
    · have hli : (l : Int) ≤ 3 := by omega
      have k1 := hx.cellv c1
      have k2 := hx.cellv (HCAP.out l l1 hlt)
      by_cases hr : r < 0
      · have hr2 : ¬ 0 ≤ r := by omega
        obtain ⟨n, hn⟩ : ∃ n, cntU M lv l = n := ⟨_, rfl⟩
        obtain ⟨m, hm⟩ : ∃ m, caps l = m := ⟨_, rfl⟩
        have HN := Lib.hid hn
        have HM := Lib.hid hm
        rw [hm] at k2
        clear hn hm
        by_cases hlt2 : n < m
        · have hok : nextOk caps M lv b l = true := by
            obtain ⟨y, hy⟩ : ∃ y, IsYard M lv l y := is_yard_ex M lv l
            refine (next_test HS.out HP.out hy).1 (.inl ⟨hr, ?_⟩)
            rw [HN.out, HM.out]; exact hlt2
          have HOK := Lib.hid hok
          have hlti : (n : Int) < (m : Int) := by omega
          clear hok
          go_wp2_with fail
          go_quiet ((first | (go_at_call 60; exact Calls.quiet_of_same (v := .int .i64 n) ((rcount p vL _ caps M lv _ (HR.out.ext (by repeat' (first | (with_reducible exact Ext.refl _) | (with_reducible assumption) | (with_reducible refine Ext.alloc ?_ _) | (with_reducible refine Ext.drewN ?_ _) | (with_reducible refine Ext.drew ?_) | (with_reducible refine Ext.trans ?_ (by assumption))))) l).mono fun e w' h => ⟨by rw [h.1, HN.out], h.2.symm⟩))))
          go_wp2_with fail
          go_ret
          exact ⟨by rw [nextU_at l1 (by omega) HALL.out HOK.out]; rfl, (by repeat' (first | (with_reducible exact Ext.refl _) | (with_reducible assumption) | (with_reducible refine Ext.alloc ?_ _) | (with_reducible refine Ext.drewN ?_ _) | (with_reducible refine Ext.drew ?_) | (with_reducible refine Ext.trans ?_ (by assumption))))⟩
        · have hok : nextOk caps M lv b l = false := by
            obtain ⟨y, hy⟩ : ∃ y, IsYard M lv l y := is_yard_ex M lv l
            rw [Bool.eq_false_iff]
            intro h
            rcases (next_test HS.out HP.out hy).2 h with ⟨_, h2⟩ | ⟨h2, _⟩
            · rw [HN.out, HM.out] at h2; exact hlt2 h2
            · exact hr2 h2
          have HOK := Lib.hid hok
          have hlti : ¬ (n : Int) < (m : Int) := by omega
          have hrd : decide (0 ≤ r) = false := decide_eq_false hr2
          clear hok
          go_wp2_with fail
          go_quiet ((go_at_call 60; exact Calls.quiet_of_same (v := .int .i64 n) ((rcount p vL _ caps M lv _ (HR.out.ext (by repeat' (first | (with_reducible exact Ext.refl _) | (with_reducible assumption) | (with_reducible refine Ext.alloc ?_ _) | (with_reducible refine Ext.drewN ?_ _) | (with_reducible refine Ext.drew ?_) | (with_reducible refine Ext.trans ?_ (by assumption))))) l).mono fun e w' h => ⟨by rw [h.1, HN.out], h.2.symm⟩)))
          go_wp2_with fail
          go_roundw
          case rel => exact ⟨l + 1, by omega, by omega, by go_num, false_snoc HALL.out HOK.out, (by repeat' (first | (with_reducible exact Ext.refl _) | (with_reducible assumption) | (with_reducible refine Ext.alloc ?_ _) | (with_reducible refine Ext.drewN ?_ _) | (with_reducible refine Ext.drew ?_) | (with_reducible refine Ext.trans ?_ (by assumption))))⟩
          case measure => simp [intOf]; omega
      · have hr2 : 0 ≤ r := by omega
        have hrd : decide (r < 0) = false := decide_eq_false hr
        obtain ⟨y, hy⟩ : ∃ y, IsYard M lv l y := is_yard_ex M lv l
        have HY := Lib.hid hy
        clear hy
        by_cases hry : r ≤ y
        · have HOK := Lib.hid ((next_test (caps := caps) HS.out HP.out HY.out).1 (.inr ⟨hr2, hry⟩))
          go_wp2_with fail
          go_quiet ((go_at_call 61; exact Calls.quiet_of_same (v := .int .i64 y) ((ryard' p vL _ caps M lv _ (HR.out.ext (by repeat' (first | (with_reducible exact Ext.refl _) | (with_reducible assumption) | (with_reducible refine Ext.alloc ?_ _) | (with_reducible refine Ext.drewN ?_ _) | (with_reducible refine Ext.drew ?_) | (with_reducible refine Ext.trans ?_ (by assumption))))) l y HY.out).mono fun e w' h => ⟨h.1, h.2.symm⟩)))
          go_wp2_with fail
          go_ret
          exact ⟨by rw [nextU_at l1 (by omega) HALL.out HOK.out]; rfl, (by repeat' (first | (with_reducible exact Ext.refl _) | (with_reducible assumption) | (with_reducible refine Ext.alloc ?_ _) | (with_reducible refine Ext.drewN ?_ _) | (with_reducible refine Ext.drew ?_) | (with_reducible refine Ext.trans ?_ (by assumption))))⟩
        · have hok : nextOk caps M lv b l = false := by
            rw [Bool.eq_false_iff]
            intro h
            rcases (next_test HS.out HP.out HY.out).2 h with ⟨h2, _⟩ | ⟨_, h2⟩
            · exact hr h2
            · exact hry h2
          have HOK := Lib.hid hok
          clear hok
          go_wp2_with fail
          go_quiet ((go_at_call 61; exact Calls.quiet_of_same (v := .int .i64 y) ((ryard' p vL _ caps M lv _ (HR.out.ext (by repeat' (first | (with_reducible exact Ext.refl _) | (with_reducible assumption) | (with_reducible refine Ext.alloc ?_ _) | (with_reducible refine Ext.drewN ?_ _) | (with_reducible refine Ext.drew ?_) | (with_reducible refine Ext.trans ?_ (by assumption))))) l y HY.out).mono fun e w' h => ⟨h.1, h.2.symm⟩)))
          go_wp2_with fail
          go_roundw
          case rel => exact ⟨l + 1, by omega, by omega, by go_num, false_snoc HALL.out HOK.out, (by repeat' (first | (with_reducible exact Ext.refl _) | (with_reducible assumption) | (with_reducible refine Ext.alloc ?_ _) | (with_reducible refine Ext.drewN ?_ _) | (with_reducible refine Ext.drew ?_) | (with_reducible refine Ext.trans ?_ (by assumption))))⟩
          case measure => simp [intOf]; omega
    · obtain rfl : l = 4 := by omega
      go_wp2_with fail
      go_ret
      exact ⟨by rw [nextU_out HALL.out]; rfl, hx⟩
end
end Go.Proofs.Ytibcfmnkpemieaa
