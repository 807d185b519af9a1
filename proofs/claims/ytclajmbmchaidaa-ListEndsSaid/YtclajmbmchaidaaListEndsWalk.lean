/-
  gradinelaw10.ListEnds answers true. No condition.
-/
import Derived.Test.YtclajmbmchaidaaDo10
import Derived.Test.YtclajmbmchaidaaRowsIn
import Derived.Test.YtclajmbmchaidaaGuard
namespace Go.Proofs.Ytclajmbmchaidaa
open Go.RowKit

/-- a row of three integers, an element of a slice, in a later world -/
theorem row3_cells {w w' : World} {b o n k : Nat} {F : Nat → Nat → Int} (hx : Ext w w') (hb : b < w.heap.size) (hc : ∀ i f, i < n → f < 3 → w.cell? ⟨b, o + (i * 3 + f), none⟩ = some (.int .i64 (F i f))) (hk : k < n) :
    w'.cell? ⟨b, o + k * 3, none⟩ = some (.int .i64 (F k 0)) ∧ w'.cell? ⟨b, o + k * 3 + 1, none⟩ = some (.int .i64 (F k 1)) ∧ w'.cell? ⟨b, o + k * 3 + 2, none⟩ = some (.int .i64 (F k 2)) :=
  ⟨(hx.cell hb).trans (hc k 0 hk (by omega)), (hx.cell hb).trans (hc k 1 hk (by omega)), (hx.cell hb).trans (hc k 2 hk (by omega))⟩

set_option maxHeartbeats 2000000 in
theorem walk_ListEnds (v0 v1 v2 : Value) (w : World) (h0 : IsRows 3 w v0) (h1 : IsInt .u8 v1) (h2 : IsBool v2) :
    Calls Try.prog 4 #[v0, v1, v2] w fun e w' => e = .returned (.bool true) ∧ Ext w w' := by
  obtain ⟨n, F, hr, _⟩ := h0
  obtain ⟨x, rfl, wx⟩ := h1
  obtain ⟨back, rfl⟩ := h2
  obtain ⟨x0, x1⟩ := u8_bd wx
  obtain ⟨a, c, rfl, hnc, hn63, hs⟩ := hr.parts
  have HS := Lib.hid hs
  clear wx hs hr hnc
  by_cases hA : (100 : Int) < (n : Int)
  · go_enter Try.func4, Try.ntmps4
    go_wp2_with fail
    refine (wakes10 _).mono ?_
    rintro e w1 ⟨rfl, hx1⟩
    go_wp2_with fail
    go_ret
    exact ⟨rfl, (by repeat' (first | (with_reducible exact Ext.refl _) | (with_reducible assumption) | (with_reducible refine Ext.alloc ?_ _) | (with_reducible refine Ext.drewN ?_ _) | (with_reducible refine Ext.drew ?_) | (with_reducible refine Ext.trans ?_ (by assumption))))⟩
  · go_enter Try.func4, Try.ntmps4
    go_wp2_with fail
    refine (wakes10 _).mono ?_
    rintro e w1 ⟨rfl, hx1⟩
    go_wp2_with fail
    refine (new_any 3 _ (by omega) (by omega)).mono ?_
    rintro e w2 ⟨bs, be, rfl, hs2, hb1, hb2, hx2⟩
    have hS : ∀ s ∈ [bs, be], w.heap.size ≤ s := by have := hx1.size; simp; omega
    have hX2 : Ext w w2 := (by repeat' (first | (with_reducible exact Ext.refl _) | (with_reducible assumption) | (with_reducible refine Ext.alloc ?_ _) | (with_reducible refine Ext.drewN ?_ _) | (with_reducible refine Ext.drew ?_) | (with_reducible refine Ext.trans ?_ (by assumption))))
    go_wp2_with fail
    go_loopw [24] (fun ci wr => ∃ (k : Nat) (Ls : List (List Nat)), k ≤ n ∧ ci = .int .i64 k ∧ SpaceAt wr bs be Ls ∧ Ls.length = 3 ∧ Ext w wr) (fun ci _ => n - (intOf ci).toNat)
    case atStart => exact ⟨0, _, Nat.zero_le _, rfl, hs2, by rw [List.length_replicate]; rfl, hX2⟩
    case round =>
      obtain ⟨k, Ls, hk, rfl, hsp, hlen, hx⟩ := hrel
      have HL := Lib.hid hlen
      clear hlen
      by_cases hlt : k < n
      · obtain ⟨b, o, rfl, hb, hcell⟩ := HS.out (by omega)
        obtain ⟨e0, e1, e2⟩ := row3_cells hx hb hcell hlt
        have hki : (k : Int) < (n : Int) := by omega
        generalize F k 0 = kd at *
        generalize F k 1 = li at *
        generalize F k 2 = bl at *
        clear hcell
        by_cases hkd : 0 ≤ kd ∧ kd ≤ 2
        · obtain ⟨k0, k2⟩ := hkd
          go_wp2_with fail
          refine (do_any bs be Ls kd li bl _ (hsp.ext (by repeat' (first | (with_reducible exact Ext.refl _) | (with_reducible assumption) | (with_reducible refine Ext.alloc ?_ _) | (with_reducible refine Ext.drewN ?_ _) | (with_reducible refine Ext.drew ?_) | (with_reducible refine Ext.trans ?_ (by assumption)))))).mono ?_
          rintro e w4 ⟨rfl, hs4, hc4⟩
          have hx4 : Ext w w4 := Ext.chg (by repeat' (first | (with_reducible exact Ext.refl _) | (with_reducible assumption) | (with_reducible refine Ext.alloc ?_ _) | (with_reducible refine Ext.drewN ?_ _) | (with_reducible refine Ext.drew ?_) | (with_reducible refine Ext.trans ?_ (by assumption)))) hc4 hS
          have hl4 : (doL Ls kd li bl).length = 3 := by rw [doL_length]; exact HL.out
          have HL4 := Lib.hid hl4
          clear hl4
          go_wp2_with fail
          go_roundw
          case rel => exact ⟨k + 1, _, by omega, by go_num, hs4, HL4.out, hx4⟩
          case measure => simp [intOf]; omega
        · by_cases k0 : 0 ≤ kd
          · have k2 : ¬ kd ≤ 2 := fun h => hkd ⟨k0, h⟩
            clear hkd
            go_wp2_with fail
            go_roundw
            case rel => exact ⟨k + 1, Ls, by omega, by go_num, hsp.ext (by repeat' (first | (with_reducible exact Ext.refl _) | (with_reducible assumption) | (with_reducible refine Ext.alloc ?_ _) | (with_reducible refine Ext.drewN ?_ _) | (with_reducible refine Ext.drew ?_) | (with_reducible refine Ext.trans ?_ (by assumption)))), HL.out, (by repeat' (first | (with_reducible exact Ext.refl _) | (with_reducible assumption) | (with_reducible refine Ext.alloc ?_ _) | (with_reducible refine Ext.drewN ?_ _) | (with_reducible refine Ext.drew ?_) | (with_reducible refine Ext.trans ?_ (by assumption))))⟩
            case measure => simp [intOf]; omega
          · have k0' : decide (0 ≤ kd) = false := by simpa using k0
            clear hkd
            go_wp2_with fail
            go_roundw
            case rel => exact ⟨k + 1, Ls, by omega, by go_num, hsp.ext (by repeat' (first | (with_reducible exact Ext.refl _) | (with_reducible assumption) | (with_reducible refine Ext.alloc ?_ _) | (with_reducible refine Ext.drewN ?_ _) | (with_reducible refine Ext.drew ?_) | (with_reducible refine Ext.trans ?_ (by assumption)))), HL.out, (by repeat' (first | (with_reducible exact Ext.refl _) | (with_reducible assumption) | (with_reducible refine Ext.alloc ?_ _) | (with_reducible refine Ext.drewN ?_ _) | (with_reducible refine Ext.drew ?_) | (with_reducible refine Ext.trans ?_ (by assumption))))⟩
            case measure => simp [intOf]; omega
      · obtain rfl : k = n := by omega
        clear HS
        go_wp2_with fail
        obtain ⟨b, hb⟩ := Int.eq_ofNat_of_zero_le (show 0 ≤ x % 64 by omega)
        have hb64 : b < 64 := by omega
        have h1L : 1 < Ls.length := by have := HL.out; omega
        have hok : okL Ls 1 := ⟨by omega, by omega⟩
        have hokb : okB (b : Int) := ⟨by omega, by omega⟩
        have hA1 : allI Ls 1 = asInts (Ls.getD 1 []) := by unfold allI; rw [if_pos hok]; rfl
        have hlen : (Ls.getD 1 []).length ≤ 64 := by obtain ⟨A, E, _, hy⟩ := hsp; exact hy.len h1L
        refine (all_any bs be Ls 1 _ hsp).mono ?_
        rintro e w3 ⟨v3, rfl, ho3, hx3⟩
        rw [hA1] at ho3
        have HB := Lib.hid hb
        rw [hb]
        clear hA1 hb
        go_wp2_with fail
        refine (without_any v3 _ b _ (ho3.rd.ext (by repeat' (first | (with_reducible exact Ext.refl _) | (with_reducible assumption) | (with_reducible refine Ext.alloc ?_ _) | (with_reducible refine Ext.drewN ?_ _) | (with_reducible refine Ext.drew ?_) | (with_reducible refine Ext.trans ?_ (by assumption))))) (fits_small (by unfold asInts; rw [List.length_map]; omega))).mono ?_
        rintro e w4 ⟨v4, rfl, ho4, hx4⟩
        have hw4 : woL (asInts (Ls.getD 1 [])) b = asInts ((Ls.getD 1 []).filter (· ≠ b)) := by
          unfold woL asInts
          rw [List.filter_map]
          congr 1
          apply List.filter_congr
          intro y _
          simp
          omega
        rw [hw4] at ho4
        have hsp4 : SpaceAt w4 bs be Ls := hsp.ext (by repeat' (first | (with_reducible exact Ext.refl _) | (with_reducible assumption) | (with_reducible refine Ext.alloc ?_ _) | (with_reducible refine Ext.drewN ?_ _) | (with_reducible refine Ext.drew ?_) | (with_reducible refine Ext.trans ?_ (by assumption))))
        have hbase3 : ∀ s ∈ [bs, be], s < w3.heap.size := by have a := (hsp.ext hx3).lt1; have b := (hsp.ext hx3).lt2; simp; omega
        have hX4 : Ext w w4 := (by repeat' (first | (with_reducible exact Ext.refl _) | (with_reducible assumption) | (with_reducible refine Ext.alloc ?_ _) | (with_reducible refine Ext.drewN ?_ _) | (with_reducible refine Ext.drew ?_) | (with_reducible refine Ext.trans ?_ (by assumption))))
        have hbase : w.heap.size ≤ w3.heap.size := by have := hx.size; have := hx3.size; omega
        have hlf : ((Ls.getD 1 []).filter (· ≠ b)).length ≤ 64 := Nat.le_trans (List.length_filter_le _ _) hlen
        obtain ⟨L0, hL0⟩ : ∃ L0, L0 = (Ls.getD 1 []).filter (· ≠ b) := ⟨_, rfl⟩
        rw [← hL0] at ho4 hlf
        have HL0 := Lib.hid hL0
        clear hw4 ho3 hx3 hx4 hlen hL0
        cases back
        · have hE0 : (doE Ls 0 1 b == 0) = true := by simp [doE, hok, hokb]
          have hF : (doL Ls 0 1 b) = frontL Ls 1 b := by simp [doL, hok, hokb]
          have hg1 : (frontL Ls 1 b).getD 1 [] = b :: L0 := by
            rw [HL0.out, ← getD_map_filter]
            unfold frontL
            rw [getD_set (by rw [outL_length]; exact h1L), if_pos rfl]
          have hok2 : okL (frontL Ls 1 b) 1 := ⟨by omega, by rw [frontL_length]; omega⟩
          have hfi : firstI (frontL Ls 1 b) 1 = ((b : Int), true) := by
            unfold firstI
            rw [if_pos hok2, show (1 : Int).toNat = 1 from rfl, hg1]
          have hai : allI (frontL Ls 1 b) 1 = (b : Int) :: asInts L0 := by
            unfold allI
            rw [if_pos hok2, show (1 : Int).toNat = 1 from rfl, hg1]
            rfl
          have HFI := Lib.hid hfi
          have HAI := Lib.hid hai
          clear hok hokb hg1 hok2 hfi hai
          go_wp2_with fail
          refine (front_any bs be Ls 1 b _ hsp4).mono ?_
          rintro e w5 ⟨rfl, hs5, hc5⟩
          rw [hF] at hs5
          have ho5 := ho4.chg hc5 hbase3
          have hx5 : Ext w w5 := hX4.chg hc5 hS
          clear hF ho4 hc5
          go_wp2_with fail
          refine (first_any bs be _ 1 _ hs5).mono ?_
          rintro e w6 ⟨rfl, rfl⟩
          rw [HFI.out]
          go_wp2_with fail
          refine (all_any bs be _ 1 _ hs5).mono ?_
          rintro e w6 ⟨v6, rfl, ho6, hx6⟩
          rw [HAI.out] at ho6
          go_wp2_with fail
          refine (refahead_any v4 _ b _ (ho5.rd.ext (by repeat' (first | (with_reducible exact Ext.refl _) | (with_reducible assumption) | (with_reducible refine Ext.alloc ?_ _) | (with_reducible refine Ext.drewN ?_ _) | (with_reducible refine Ext.drew ?_) | (with_reducible refine Ext.trans ?_ (by assumption))))) (fits_small (by simp [asInts]; omega))).mono ?_
          rintro e w7 ⟨v7, rfl, ho7, hx7⟩
          go_wp2_with fail
          refine (sameints_any _ _ _ _ _ (ho6.rd.ext (by repeat' (first | (with_reducible exact Ext.refl _) | (with_reducible assumption) | (with_reducible refine Ext.alloc ?_ _) | (with_reducible refine Ext.drewN ?_ _) | (with_reducible refine Ext.drew ?_) | (with_reducible refine Ext.trans ?_ (by assumption))))) ho7.rd).mono ?_
          rintro e w8 ⟨rfl, hx8⟩
          simp only [decide_true]
          go_wp2_with fail
          go_ret
          exact ⟨rfl, (by repeat' (first | (with_reducible exact Ext.refl _) | (with_reducible assumption) | (with_reducible refine Ext.alloc ?_ _) | (with_reducible refine Ext.drewN ?_ _) | (with_reducible refine Ext.drew ?_) | (with_reducible refine Ext.trans ?_ (by assumption))))⟩
        · have hE0 : (doE Ls 1 1 b == 0) = true := by simp [doE, hok, hokb]
          have hF : (doL Ls 1 1 b) = putBackL Ls 1 b := by simp [doL, hok, hokb]
          have hg1 : (putBackL Ls 1 b).getD 1 [] = L0 ++ [b] := by
            rw [HL0.out, ← getD_map_filter]
            unfold putBackL
            rw [getD_set (by rw [outL_length]; exact h1L), if_pos rfl]
          have hok2 : okL (putBackL Ls 1 b) 1 := ⟨by omega, by rw [putBackL_length]; omega⟩
          have hfi : lastI (putBackL Ls 1 b) 1 = ((b : Int), true) := by
            unfold lastI
            rw [if_pos hok2, show (1 : Int).toNat = 1 from rfl, hg1, if_neg (by simp), lst_snoc]
          have hai : allI (putBackL Ls 1 b) 1 = asInts L0 ++ [(b : Int)] := by
            unfold allI
            rw [if_pos hok2, show (1 : Int).toNat = 1 from rfl, hg1]
            simp [asInts]
          have HFI := Lib.hid hfi
          have HAI := Lib.hid hai
          clear hok hokb hg1 hok2 hfi hai
          go_wp2_with fail
          refine (back_any bs be Ls 1 b _ hsp4).mono ?_
          rintro e w5 ⟨rfl, hs5, hc5⟩
          rw [hF] at hs5
          have ho5 := ho4.chg hc5 hbase3
          have hx5 : Ext w w5 := hX4.chg hc5 hS
          clear hF ho4 hc5
          go_wp2_with fail
          refine (last_any bs be _ 1 _ hs5).mono ?_
          rintro e w6 ⟨rfl, rfl⟩
          rw [HFI.out]
          go_wp2_with fail
          refine (all_any bs be _ 1 _ hs5).mono ?_
          rintro e w6 ⟨v6, rfl, ho6, hx6⟩
          rw [HAI.out] at ho6
          have hlt5 := fun g hg => (ho5.lt g hg).2
          go_wp2_with (at_builtin; refine wpList_unguard rfl ?_; (at_builtin; refine wpList_append_intsg rfl _ _ 31 rfl 3 .i64 0 8 Try.underlying31 ints_info (by decide) w (by repeat' (first | (with_reducible exact Ext.refl _) | (with_reducible assumption) | (with_reducible refine Ext.alloc ?_ _) | (with_reducible refine Ext.drewN ?_ _) | (with_reducible refine Ext.drew ?_) | (with_reducible refine Ext.trans ?_ (by assumption)))) _ _ rfl ((ho5.ext hx6).mono hbase |>.ext (by repeat' (first | (with_reducible exact Ext.refl _) | (with_reducible assumption) | (with_reducible refine Ext.alloc ?_ _) | (with_reducible refine Ext.drewN ?_ _) | (with_reducible refine Ext.drew ?_) | (with_reducible refine Ext.trans ?_ (by assumption))))) _ _ rfl (RdI.one _ _ _ _) (by exact fits_small (by simp [asInts]; omega)) ?_))
          intro v7 w7 ho7 hx7 hg7
          have ho6' := (ho6.ext ((Ext.refl w6).alloc _)).grown hg7 hlt5
          go_wp2_with fail
          refine (sameints_any _ _ _ _ _ ho6'.rd ho7.rd).mono ?_
          rintro e w8 ⟨rfl, hx8⟩
          simp only [decide_true]
          go_wp2_with fail
          go_ret
          exact ⟨rfl, (by repeat' (first | (with_reducible exact Ext.refl _) | (with_reducible assumption) | (with_reducible refine Ext.alloc ?_ _) | (with_reducible refine Ext.drewN ?_ _) | (with_reducible refine Ext.drew ?_) | (with_reducible refine Ext.trans ?_ (by assumption))))⟩
end Go.Proofs.Ytclajmbmchaidaa
