/-
  gradinelaw11.LruStack answers true. No condition.
-/
import Derived.Test.YtclajmbmchaidaaRef11
import Derived.Test.YtclajmbmchaidaaRowsIn
namespace Go.Proofs.Ytclajmbmchaidaa
open Go.RowKit

/-- at most one goes: what is far enough ahead stays -/
theorem take_filter_one : ∀ (L : List Nat) (b n : Nat), L.Nodup → ((L.take (n + 1)).filter (fun x => decide (x ≠ b))).take n = (L.filter (fun x => decide (x ≠ b))).take n
  | [], b, n, _ => by simp
  | x :: t, b, n, h => by
    rw [List.nodup_cons] at h
    rw [List.take_succ_cons]
    by_cases e : x = b
    · subst e
      rw [List.filter_cons_of_neg (by simp), List.filter_cons_of_neg (by simp)]
      have h1 : t.filter (fun y => decide (y ≠ x)) = t := by
        rw [List.filter_eq_self]
        intro y hy
        simp
        rintro rfl
        exact h.1 hy
      have h2 : (t.take n).filter (fun y => decide (y ≠ x)) = t.take n := by
        rw [List.filter_eq_self]
        intro y hy
        simp
        rintro rfl
        exact h.1 (List.mem_of_mem_take hy)
      rw [h1, h2, List.take_take, Nat.min_self]
    · rw [List.filter_cons_of_pos (by simpa using e), List.filter_cons_of_pos (by simpa using e)]
      cases n with
      | zero => simp
      | succ n =>
        rw [List.take_succ_cons, List.take_succ_cons, take_filter_one t b n h.2]
theorem add_take {n m : Nat} {L : List Nat} (hn : 1 ≤ n) (hnm : n ≤ m) (h : L.Nodup) (b : Int) : addL n (L.take n) b = (addL m L b).take n := by
  unfold addL
  split
  · rw [List.take_take, Nat.min_eq_left hnm]
    obtain ⟨k, rfl⟩ : ∃ k, n = k + 1 := ⟨n - 1, by omega⟩
    unfold topL
    rw [List.take_succ_cons, List.take_succ_cons, take_filter_one L _ k h]
  · rfl
theorem asInts_take (L : List Nat) (n : Nat) : asInts (L.take n) = (asInts L).take n := by unfold asInts; rw [List.map_take]

theorem LruAt.chg {S : List Nat} {w w' : World} {p bs be cap : Nat} {L : List Nat} (h : LruAt w p bs be cap L) (hx : Chg S w w') (h0 : p ∉ S) (h1 : bs ∉ S) (h2 : be ∉ S) : LruAt w' p bs be cap L :=
  ⟨chg_cell hx h.c0 h0, chg_cell hx h.c1 h0, h.n1, h.n2, h.space.chg hx h1 h2⟩

set_option maxHeartbeats 2000000 in
theorem walk_LruStack (v0 v1 v2 : Value) (w : World) (h0 : IsInt .u8 v0) (h1 : IsInt .u8 v1) (h2 : IsInts .i64 w v2) :
    Calls Try.prog 10 #[v0, v1, v2] w fun e w' => e = .returned (.bool true) ∧ Ext w w' := by
  obtain ⟨x, rfl, wx⟩ := h0
  obtain ⟨y, rfl, wy⟩ := h1
  obtain ⟨l, hr, _⟩ := h2
  obtain ⟨x0, x1⟩ := u8_bd wx
  obtain ⟨y0, y1⟩ := u8_bd wy
  obtain ⟨a, c, rfl, hc, hm, hn, hs⟩ := hr.parts
  have hl63 : (l.length : Int) ≤ 9223372036854775807 := by unfold maxLen at hm; omega
  have HS := Lib.hid hs
  clear wx wy hs hm hc hn hr
  by_cases hA : (150 : Int) < (l.length : Int)
  · go_enter Try.func10, Try.ntmps10
    go_wp2_with fail
    refine (wakes11 _).mono ?_
    rintro e w1 ⟨rfl, hx1⟩
    go_wp2_with fail
    go_ret
    exact ⟨rfl, (by repeat' (first | (with_reducible exact Ext.refl _) | (with_reducible assumption) | (with_reducible refine Ext.alloc ?_ _) | (with_reducible refine Ext.drewN ?_ _) | (with_reducible refine Ext.drew ?_) | (with_reducible refine Ext.trans ?_ (by assumption))))⟩
  · go_enter Try.func10, Try.ntmps10
    go_wp2_with fail
    refine (wakes11 _).mono ?_
    rintro e w1 ⟨rfl, hx1⟩
    go_wp2_with fail
    refine (lru_new _ _).mono ?_
    rintro e w2 ⟨p, bs, be, rfl, h2, hp, hb1, hb2, hx2⟩
    go_wp2_with fail
    refine (lru_new _ _).mono ?_
    rintro e w3 ⟨p', bs', be', rfl, h3, hp', hb1', hb2', hx3⟩
    obtain ⟨n, hn⟩ := Int.eq_ofNat_of_zero_le (show 0 ≤ 1 + x % 8 by omega)
    obtain ⟨m, hm⟩ := Int.eq_ofNat_of_zero_le (show 0 ≤ 1 + x % 8 + y % 8 by omega)
    have hcap : capN (n : Int) = n := by unfold capN; rw [if_neg (by omega), if_neg (by omega)]; omega
    have hcap' : capN (m : Int) = m := by unfold capN; rw [if_neg (by omega), if_neg (by omega)]; omega
    have n1 : 1 ≤ n := by omega
    have nm : n ≤ m := by omega
    rw [hn, hcap] at h2
    rw [hm, hcap'] at h3
    have g1 := hx1.size
    have g2 := hx2.size
    have lt1 := h2.space.lt1
    have lt2 := h2.space.lt2
    have ltp := cell_lt h2.c0
    have hS : ∀ s ∈ [bs, be], w.heap.size ≤ s := by simp; omega
    have hS' : ∀ s ∈ [bs', be'], w.heap.size ≤ s := by simp; omega
    have hX : Ext w w3 := (by repeat' (first | (with_reducible exact Ext.refl _) | (with_reducible assumption) | (with_reducible refine Ext.alloc ?_ _) | (with_reducible refine Ext.drewN ?_ _) | (with_reducible refine Ext.drew ?_) | (with_reducible refine Ext.trans ?_ (by assumption))))
    have h2 := h2.ext hx3
    have o1 : bs' ∉ [bs, be] := by simp; omega
    have o2 : be' ∉ [bs, be] := by simp; omega
    have o3 : p' ∉ [bs, be] := by simp; omega
    have o4 : bs ∉ [bs', be'] := by simp; omega
    have o5 : be ∉ [bs', be'] := by simp; omega
    have o6 : p ∉ [bs', be'] := by simp; omega
    clear hx1 hx2 hx3 hcap hcap' hn hm g1 g2 lt1 lt2 ltp hp hb1 hb2 hp' hb1' hb2' x0 x1 y0 y1
    go_wp2_with fail
    go_loopw [33] (fun ci wr => ∃ (k : Nat) (L : List Nat), k ≤ l.length ∧ ci = .int .i64 k ∧ LruAt wr p bs be n (L.take n) ∧ LruAt wr p' bs' be' m L ∧ L.length ≤ m ∧ Ext w wr) (fun ci _ => l.length - (intOf ci).toNat)
    case atStart => exact ⟨0, [], Nat.zero_le _, rfl, by rw [List.take_nil]; exact h2, h3, by simp, hX⟩
    case round =>
      obtain ⟨k, L, hk, rfl, h4, h5, hLl, hx⟩ := hrel
      by_cases hlt : k < l.length
      · obtain ⟨b, o, rfl, hb, hcell⟩ := HS.out (by intro e; subst e; simp at hlt)
        have e1 := (hx.cell hb).trans (hcell k hlt)
        generalize l.getD k 0 = z at *
        have hki : (k : Int) < (l.length : Int) := by omega
        clear hcell
        have HA := Lib.hid (add_take n1 nm h5.held.nodup z)
        have hH : Held m L := ⟨h5.held.nodup, h5.held.lt, hLl⟩
        have hl4 := (hH.add z).len
        have HL4 := Lib.hid hl4
        clear hl4 hH
        go_wp2_with fail
        refine (lru_add p bs be n (L.take n) _ h4 z (by rw [List.length_take]; omega)).mono ?_
        rintro e w4 ⟨rfl, h6, hc4⟩
        rw [HA.out] at h6
        have h7 := h5.chg hc4 o3 o1 o2
        have hx4 : Ext w w4 := Ext.chg (by repeat' (first | (with_reducible exact Ext.refl _) | (with_reducible assumption) | (with_reducible refine Ext.alloc ?_ _) | (with_reducible refine Ext.drewN ?_ _) | (with_reducible refine Ext.drew ?_) | (with_reducible refine Ext.trans ?_ (by assumption)))) hc4 hS
        clear hc4 h4 h5 hx
        go_wp2_with fail
        refine (lru_add p' bs' be' m L _ h7 z hLl).mono ?_
        rintro e w5 ⟨rfl, h8, hc5⟩
        have h9 := h6.chg hc5 o6 o4 o5
        have hx5 : Ext w w5 := Ext.chg (by repeat' (first | (with_reducible exact Ext.refl _) | (with_reducible assumption) | (with_reducible refine Ext.alloc ?_ _) | (with_reducible refine Ext.drewN ?_ _) | (with_reducible refine Ext.drew ?_) | (with_reducible refine Ext.trans ?_ (by assumption)))) hc5 hS'
        clear hc5 h6 h7 hx4 HA
        have HQ := HL4.out
        clear HL4
        generalize addL m L z = M at *
        go_wp2_with fail
        refine (lru_all p bs be n _ _ h9).mono ?_
        rintro e w6 ⟨v6, rfl, ho6, hx6⟩
        go_wp2_with fail
        refine (lru_all p' bs' be' m _ _ (h8.ext (by repeat' (first | (with_reducible exact Ext.refl _) | (with_reducible assumption) | (with_reducible refine Ext.alloc ?_ _) | (with_reducible refine Ext.drewN ?_ _) | (with_reducible refine Ext.drew ?_) | (with_reducible refine Ext.trans ?_ (by assumption)))))).mono ?_
        rintro e w7 ⟨v7, rfl, ho7, hx7⟩
        have hX7 : Ext w w7 := (by repeat' (first | (with_reducible exact Ext.refl _) | (with_reducible assumption) | (with_reducible refine Ext.alloc ?_ _) | (with_reducible refine Ext.drewN ?_ _) | (with_reducible refine Ext.drew ?_) | (with_reducible refine Ext.trans ?_ (by assumption))))
        have h10 := h9.ext (hx6.trans hx7)
        have h11 := h8.ext (hx6.trans hx7)
        have r6 := ho6.rd.ext hx7
        have r7 := ho7.rd
        rw [asInts_take] at r6
        have hlm : ((asInts M).take n).length ≤ (asInts M).length := by rw [List.length_take]; omega
        obtain ⟨a7, c7, rfl, hc7, hm7, hn7, hs7⟩ := r7.parts
        have hfl := r7.take ((asInts M).take n).length hlm
        have htt : (asInts M).take ((asInts M).take n).length = (asInts M).take n := by
          rw [List.length_take]
          by_cases q : n ≤ (asInts M).length
          · rw [Nat.min_eq_left q]
          · rw [Nat.min_eq_right (by omega), List.take_of_length_le (Nat.le_refl _), List.take_of_length_le (by omega)]
        rw [htt] at hfl
        clear ho6 ho7 hx6 hx7 h8 h9 hx5 htt
        generalize asInts M = J at *
        generalize J.take n = I at *
        obtain ⟨a6, c6, rfl, hc6, hm6, hn6, hs6⟩ := r6.parts
        have hli : (I.length : Int) ≤ (J.length : Int) := by omega
        have hcc : (I.length : Int) ≤ c7 := by omega
        unfold maxLen at hm6 hm7
        clear hs6 hs7 hn6 hn7
        go_wp2_with fail
        refine (sameints_any _ _ I I _ r6 hfl).mono ?_
        rintro e w8 ⟨rfl, hx8⟩
        simp only [decide_true]
        go_wp2_with fail
        go_roundw
        case rel => exact ⟨k + 1, M, by omega, by go_num, h10.ext (by repeat' (first | (with_reducible exact Ext.refl _) | (with_reducible assumption) | (with_reducible refine Ext.alloc ?_ _) | (with_reducible refine Ext.drewN ?_ _) | (with_reducible refine Ext.drew ?_) | (with_reducible refine Ext.trans ?_ (by assumption)))), h11.ext (by repeat' (first | (with_reducible exact Ext.refl _) | (with_reducible assumption) | (with_reducible refine Ext.alloc ?_ _) | (with_reducible refine Ext.drewN ?_ _) | (with_reducible refine Ext.drew ?_) | (with_reducible refine Ext.trans ?_ (by assumption)))), HQ, (by repeat' (first | (with_reducible exact Ext.refl _) | (with_reducible assumption) | (with_reducible refine Ext.alloc ?_ _) | (with_reducible refine Ext.drewN ?_ _) | (with_reducible refine Ext.drew ?_) | (with_reducible refine Ext.trans ?_ (by assumption))))⟩
        case measure => simp [intOf]; omega
      · obtain rfl : k = l.length := by omega
        go_wp2_with fail
        go_ret
        exact ⟨rfl, (by repeat' (first | (with_reducible exact Ext.refl _) | (with_reducible assumption) | (with_reducible refine Ext.alloc ?_ _) | (with_reducible refine Ext.drewN ?_ _) | (with_reducible refine Ext.drew ?_) | (with_reducible refine Ext.trans ?_ (by assumption))))⟩
end Go.Proofs.Ytclajmbmchaidaa
