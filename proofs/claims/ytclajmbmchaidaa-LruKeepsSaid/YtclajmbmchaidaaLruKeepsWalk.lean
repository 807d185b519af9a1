/-
  gradinelaw11.LruKeeps answers true. No condition.
-/
import Derived.Test.YtclajmbmchaidaaLru2
import Derived.Test.YtclajmbmchaidaaRowsIn
namespace Go.Proofs.Ytclajmbmchaidaa
open Go.RowKit

theorem keeps {n : Nat} {L : List Nat} (hn : L.Nodup) (hL : ∀ x ∈ L, x < n) (n64 : n ≤ 64) {b : Int} (b0 : 0 ≤ b) (b1 : b < n) :
    addG n L b = false ∧ addE b = 0 ∧ ∀ x ∈ addL n L b, x < n := by
  have hok : okB b := ⟨b0, by omega⟩
  have ht : ∀ x ∈ topL L b, x < n := by
    intro x hx
    unfold topL at hx
    rcases List.mem_cons.1 hx with h1 | h1
    · omega
    · exact hL x (List.mem_filter.1 h1).1
  have hl : (topL L b).length ≤ n := by
    have h1 : (topL L b).Subset (List.range n) := fun x hx => List.mem_range.2 (ht x hx)
    have := (top_nodup hn b).length_le_of_subset h1
    simpa using this
  refine ⟨?_, ?_, ?_⟩
  · unfold addG; simp; intro _; omega
  · unfold addE; rw [if_pos hok]
  · unfold addL; rw [if_pos hok]; exact fun x hx => ht x (List.mem_of_mem_take hx)

set_option maxHeartbeats 2000000 in
theorem walk_LruKeeps (v0 v1 : Value) (w : World) (h0 : IsInt .u8 v0) (h1 : IsInts .u8 w v1) :
    Calls Try.prog 7 #[v0, v1] w fun e w' => e = .returned (.bool true) ∧ Ext w w' := by
  obtain ⟨x, rfl, wx⟩ := h0
  obtain ⟨l, hr, hw⟩ := h1
  obtain ⟨x0, x1⟩ := u8_bd wx
  obtain ⟨a, c, rfl, hc, hm, hn, hs⟩ := hr.parts
  have hl63 : (l.length : Int) ≤ 9223372036854775807 := by unfold maxLen at hm; omega
  have HS := Lib.hid hs
  have hbd : ∀ k, k < l.length → 0 ≤ l.getD k 0 ∧ l.getD k 0 ≤ 255 := fun k hk => u8_bd (hw _ (getD_mem hk))
  have HB := Lib.hid hbd
  clear wx hs hm hc hn hr hw hbd
  by_cases hA : (200 : Int) < (l.length : Int)
  · go_enter Try.func7, Try.ntmps7
    go_wp2_with fail
    refine (wakes11 _).mono ?_
    rintro e w1 ⟨rfl, hx1⟩
    go_wp2_with fail
    go_ret
    exact ⟨rfl, (by repeat' (first | (with_reducible exact Ext.refl _) | (with_reducible assumption) | (with_reducible refine Ext.alloc ?_ _) | (with_reducible refine Ext.drewN ?_ _) | (with_reducible refine Ext.drew ?_) | (with_reducible refine Ext.trans ?_ (by assumption))))⟩
  · go_enter Try.func7, Try.ntmps7
    go_wp2_with fail
    refine (wakes11 _).mono ?_
    rintro e w1 ⟨rfl, hx1⟩
    go_wp2_with fail
    obtain ⟨n, hn⟩ := Int.eq_ofNat_of_zero_le (show 0 ≤ 1 + x % 16 by omega)
    have hcap : capN (n : Int) = n := by unfold capN; rw [if_neg (by omega), if_neg (by omega)]; omega
    have n1 : 1 ≤ n := by omega
    have n16 : n ≤ 16 := by omega
    refine (lru_new _ _).mono ?_
    rintro e w2 ⟨p, bs, be, rfl, h2, hp, hb1, hb2, hx2⟩
    have hS : ∀ s ∈ [bs, be], w.heap.size ≤ s := by have := hx1.size; simp; omega
    have hX : Ext w w2 := (by repeat' (first | (with_reducible exact Ext.refl _) | (with_reducible assumption) | (with_reducible refine Ext.alloc ?_ _) | (with_reducible refine Ext.drewN ?_ _) | (with_reducible refine Ext.drew ?_) | (with_reducible refine Ext.trans ?_ (by assumption))))
    rw [hn, hcap] at h2
    rw [hn]
    clear hcap
    clear x0 x1 hn
    go_wp2_with fail
    go_loopw [25] (fun ci wr => ∃ (k : Nat) (L : List Nat), k ≤ l.length ∧ ci = .int .i64 k ∧ LruAt wr p bs be n L ∧ (∀ x ∈ L, x < n) ∧ L.length ≤ n ∧ Ext w wr) (fun ci _ => l.length - (intOf ci).toNat)
    case atStart => exact ⟨0, _, Nat.zero_le _, rfl, h2, by simp, by simp, hX⟩
    case round =>
      obtain ⟨k, L, hk, rfl, h3, hL, hLl, hx⟩ := hrel
      have HL := Lib.hid hL
      clear hL
      by_cases hlt : k < l.length
      · obtain ⟨b, o, rfl, hb, hcell⟩ := HS.out (by intro e; subst e; simp at hlt)
        have e1 := (hx.cell hb).trans (hcell k hlt)
        obtain ⟨y0, y1⟩ := HB.out k hlt
        generalize l.getD k 0 = y at *
        have hki : (k : Int) < (l.length : Int) := by omega
        have hni : ((n : Int) == 0) = false := by simp; omega
        clear hcell
        go_wp2_with fail
        obtain ⟨q1, q2, q3⟩ := keeps h3.held.nodup HL.out (by omega) (b := y % n) (Int.emod_nonneg _ (by omega)) (Int.emod_lt_of_pos _ (by omega))
        have HQ := Lib.hid q3
        refine (lru_add p bs be n L _ h3 _ hLl).mono ?_
        rintro e w4 ⟨rfl, h4, hc4⟩
        rw [q1, q2]
        have hH : Held n L := ⟨h3.held.nodup, h3.held.lt, hLl⟩
        have hl4 := (hH.add (y % n)).len
        have hx4 : Ext w w4 := hx.chg hc4 hS
        clear q1 q2 q3 hH
        go_wp2_with fail
        go_roundw
        case rel => exact ⟨k + 1, _, by omega, by go_num, h4, HQ.out, hl4, hx4⟩
        case measure => simp [intOf]; omega
      · obtain rfl : k = l.length := by omega
        have hLi : (L.length : Int) ≤ (n : Int) := by omega
        go_wp2_with fail
        refine (lru_len p bs be n L _ h3).mono ?_
        rintro e w4 ⟨rfl, rfl⟩
        go_wp2_with fail
        go_ret
        exact ⟨rfl, (by repeat' (first | (with_reducible exact Ext.refl _) | (with_reducible assumption) | (with_reducible refine Ext.alloc ?_ _) | (with_reducible refine Ext.drewN ?_ _) | (with_reducible refine Ext.drew ?_) | (with_reducible refine Ext.trans ?_ (by assumption))))⟩
end Go.Proofs.Ytclajmbmchaidaa
