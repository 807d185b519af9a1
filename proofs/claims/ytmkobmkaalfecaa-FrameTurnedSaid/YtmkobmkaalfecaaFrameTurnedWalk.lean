/-
  gradinelaw07.FrameTurned answers true. No condition.
-/
import Derived.Test.YtmkobmkaalfecaaFrameLastWalk
namespace Go.Proofs.Ytmkobmkaalfecaa
open Go.RowKit

/-- a byte turned, but by 251: the last byte is not the sum -/
theorem turned_bad (pl : List Int) (i : Nat) (y : Int) (hi : i ≤ pl.length) (hN : pl.length ≤ 177) (hb : ∀ x ∈ pl, 0 ≤ x ∧ x ≤ 255) (hy : 0 ≤ y ∧ y ≤ 255)
    (h0 : y - (pl ++ [ssum pl]).getD i 0 ≠ 0) (h1 : y - (pl ++ [ssum pl]).getD i 0 ≠ 251) (h2 : y - (pl ++ [ssum pl]).getD i 0 ≠ -251) :
    ((pl ++ [ssum pl]).set i y).getD pl.length 0 ≠ ssum (((pl ++ [ssum pl]).set i y).take pl.length) := by
  by_cases hl : i = pl.length
  · subst hl
    have e1 : (pl ++ [ssum pl]).set pl.length y = pl ++ [y] := by simp
    have e2 : (pl ++ [ssum pl]).getD pl.length 0 = ssum pl := by rw [List.getD_eq_getElem?_getD]; simp
    have e3 : (pl ++ [y]).getD pl.length 0 = y := by rw [List.getD_eq_getElem?_getD]; simp
    rw [e1, e3, List.take_left']
    · rw [e2] at h0; omega
    · rfl
  · have hlt : i < pl.length := by omega
    have e1 : (pl ++ [ssum pl]).set i y = pl.set i y ++ [ssum pl] := by rw [List.set_append_left _ _ hlt]
    have e2 : (pl ++ [ssum pl]).getD i 0 = pl.getD i 0 := by rw [List.getD_eq_getElem?_getD, List.getD_eq_getElem?_getD, List.getElem?_append_left hlt]
    have e3 : (pl.set i y ++ [ssum pl]).getD pl.length 0 = ssum pl := by rw [List.getD_eq_getElem?_getD]; simp
    have e4 : (pl.set i y ++ [ssum pl]).take pl.length = pl.set i y := List.take_left' (by simp)
    rw [e1, e3, e4]
    rw [e2] at h0 h1 h2
    have hx := hb _ (getD_mem hlt)
    exact fun h => ssum_turned pl i y hlt (by omega) (by omega) h.symm

set_option maxRecDepth 100000 in
set_option maxHeartbeats 4000000 in
theorem walk_FrameTurned (v0 v1 v2 : Value) (w : World) (h0 : IsFlat Try.prog 49 w v0) (h1 : IsInt .u8 v1) (h2 : IsInt .u8 v2) :
    Calls Try.prog 9 #[v0, v1, v2] w fun e w' => e = .returned (.bool true) ∧ Ext w w' := by
  obtain ⟨m, y, s, k, u, t, rfl, hr, hb⟩ := pkt_of h0
  obtain ⟨at_, rfl, a0, a1⟩ := byte_of h1
  obtain ⟨by_, rfl, b0, b1⟩ := byte_of h2
  have HR := Lib.hid hr
  have HB := Lib.hid hb
  obtain ⟨a, c, rfl, hc, hm, hn, hs⟩ := hr.parts
  have hl63 : (t.length : Int) ≤ 9223372036854775807 := by unfold maxLen at hm; omega
  obtain ⟨n, hnn⟩ : ∃ n, n = t.length := ⟨_, rfl⟩
  have HN := Lib.hid hnn
  clear h0 h1 h2 hb hc hm hn hs
  rw [← hnn] at hl63 ⊢
  have HBad := Lib.hid (fun w h => frput_bad m y s k a c n w h)
  have HOk := Lib.hid (fun w h ok => frput_ok m y s k (.slice a n c) t w h HB.out ok)
  have HRR : Hid (RdI .u8 w (.slice a n c) t) := Lib.hid (by rw [hnn]; exact hr)
  clear hnn hr HR
  unfold pktV at HBad HOk ⊢
  by_cases hbig : n ≤ 300
  · by_cases hz : by_ = 0
    · have hb5 : (n : Int) ≤ 300 := by omega
      subst hz
      go_enter Try.func9, Try.ntmps9
      go_wp2_with fail
      refine (wakes07 _).mono ?_
      rintro e w1 ⟨rfl, hx1⟩
      have c4 := hx1.cellv (cell_new w #[.int .i64 m, .int .i64 y, .int .i64 s, .int .i64 k, .slice a n c] 49 (0, 0) (j := 4) rfl)
      go_wp2_with fail
      go_ret
      exact ⟨rfl, (by repeat' (first | (with_reducible exact Ext.refl _) | (with_reducible assumption) | (with_reducible refine Ext.alloc ?_ _) | (with_reducible refine Ext.drewN ?_ _) | (with_reducible refine Ext.drew ?_) | (with_reducible refine Ext.trans ?_ (by assumption))))⟩
    · have hb5 : (n : Int) ≤ 300 := by omega
      have hz' : (by_ == 0) = false := by simpa using hz
      by_cases ok : FOk m y s k n
      · have ok' : FOk m y s k t.length := by rw [← HN.out]; exact ok
        have hlen := fplain_len ok'
        have hpos := fplain_pos m y s k t
        obtain ⟨pl, hpl⟩ : ∃ pl, pl = fplain m y s k t := ⟨_, rfl⟩
        have HOK := Lib.hid ok'
        have HPB := Lib.hid (fbytes_byte m y s k t HB.out)
        have HPL := Lib.hid hpl
        rw [← hpl] at hlen hpos
        have hfb : fbytes m y s k t = pl ++ [ssum pl] := by rw [hpl]; rfl
        rw [hfb] at HOk HPB
        obtain ⟨N, hN⟩ : ∃ N, N = pl.length := ⟨_, rfl⟩
        obtain ⟨x, hx⟩ : ∃ x, x = ssum pl := ⟨_, rfl⟩
        have hxb := ssum_bd pl
        rw [← hx] at hxb HOk HPB
        obtain ⟨hx0, hx250⟩ := hxb
        have HX := Lib.hid hx
        have HNN := Lib.hid hN
        rw [← hN] at hlen hpos
        clear ok ok' hpl hfb hN hx
        go_enter Try.func9, Try.ntmps9
        go_wp2_with fail
        refine (wakes07 _).mono ?_
        rintro e w1 ⟨rfl, hx1⟩
        have c0 := hx1.cellv (cell_new w #[.int .i64 m, .int .i64 y, .int .i64 s, .int .i64 k, .slice a n c] 49 (0, 0) (j := 0) rfl)
        have c1 := hx1.cellv (cell_new w #[.int .i64 m, .int .i64 y, .int .i64 s, .int .i64 k, .slice a n c] 49 (0, 0) (j := 1) rfl)
        have c2 := hx1.cellv (cell_new w #[.int .i64 m, .int .i64 y, .int .i64 s, .int .i64 k, .slice a n c] 49 (0, 0) (j := 2) rfl)
        have c3 := hx1.cellv (cell_new w #[.int .i64 m, .int .i64 y, .int .i64 s, .int .i64 k, .slice a n c] 49 (0, 0) (j := 3) rfl)
        have c4 := hx1.cellv (cell_new w #[.int .i64 m, .int .i64 y, .int .i64 s, .int .i64 k, .slice a n c] 49 (0, 0) (j := 4) rfl)
        have hX1 : Ext w w1 := (by repeat' (first | (with_reducible exact Ext.refl _) | (with_reducible assumption) | (with_reducible refine Ext.alloc ?_ _) | (with_reducible refine Ext.drewN ?_ _) | (with_reducible refine Ext.drew ?_) | (with_reducible refine Ext.trans ?_ (by assumption))))
        clear hx1
        go_wp2_with fail
        refine (HOk.out _ (HRR.out.ext hX1) HOK.out).mono ?_
        rintro e w2 ⟨v2, rfl, ho2, hx2⟩
        obtain ⟨g, cap, rfl, hgb, hnc, hcm, hB⟩ := own_bat ho2 (by simp)
        have hLn : (pl ++ [x]).length = N + 1 := by have := HNN.out; simp; omega
        obtain ⟨i, hi⟩ : ∃ i : Nat, at_ % ((N : Int) + 1) = i := ⟨(at_ % ((N : Int) + 1)).toNat, (Int.toNat_of_nonneg (Int.emod_nonneg _ (by omega))).symm⟩
        have hiN : i ≤ N := by have := Int.emod_lt_of_pos at_ (show (0 : Int) < (N : Int) + 1 by omega); omega
        have hcl := hB.cell (i := i) (by omega)
        have hxb := HPB.out _ (getD_mem (show i < (pl ++ [x]).length by omega))
        obtain ⟨xi, hxi⟩ : ∃ xi, xi = (pl ++ [x]).getD i 0 := ⟨_, rfl⟩
        rw [← hxi] at hcl hxb
        obtain ⟨xb0, xb1⟩ := hxb
        have HXI := Lib.hid hxi
        have hfz := hB.frz i
        have HBA := Lib.hid hB
        have hX2 : Ext w w2 := (by repeat' (first | (with_reducible exact Ext.refl _) | (with_reducible assumption) | (with_reducible refine Ext.alloc ?_ _) | (with_reducible refine Ext.drewN ?_ _) | (with_reducible refine Ext.drew ?_) | (with_reducible refine Ext.trans ?_ (by assumption))))
        have hgw : w.heap.size ≤ g := by have := hX1.size; omega
        clear hB ho2 hx2 hxi c0 c1 c2 c3 c4
        rw [hLn] at hnc ⊢
        have hn1 : (i : Int) < ((N + 1 : Nat) : Int) := by omega
        have hi63 : (i : Int) < (N : Int) + 1 := by omega
        by_cases d1 : (xi + by_) % 256 - xi = 251
        · have hq1 : ((xi + by_) % 256 - xi == 251) = true := by simpa using d1
          go_wp2_with fail
          go_ret
          exact ⟨rfl, Below.setCell (p := ⟨g, i, none⟩) hX2 hgw _⟩
        · have hq1 : ((xi + by_) % 256 - xi == 251) = false := by simpa using d1
          by_cases d2 : (xi + by_) % 256 - xi = -251
          · have hq2 : ((xi + by_) % 256 - xi == -251) = true := by simpa using d2
            go_wp2_with fail
            go_ret
            exact ⟨rfl, Below.setCell (p := ⟨g, i, none⟩) hX2 hgw _⟩
          · have hq2 : ((xi + by_) % 256 - xi == -251) = false := by simpa using d2
            go_wp2_with fail
            have hrd4 : RdI .u8 (w2.setCell ⟨g, i, none⟩ (.int .u8 ((xi + by_) % 256))) (.slice (some ⟨g, 0, none⟩) (N + 1) cap) ((pl ++ [x]).set i ((xi + by_) % 256)) := by
              have h4 := (HBA.out.set (i := i) (by omega) ((xi + by_) % 256)).rd (by rw [List.length_set, hLn]; exact hnc) hcm
              rw [List.length_set, hLn] at h4
              exact h4
            refine (frget_bad _ _ N _ hrd4 ?_ (by rw [List.length_set]; exact hLn) (by rw [List.length_set]; omega) ?_).mono ?_
            · exact set_byte HPB.out (by omega)
            · have hby : by_ ≠ 0 := by simpa using hz'
              have h5 := turned_bad pl i ((xi + by_) % 256) (by have := HNN.out; omega) (by have := HNN.out; omega) (fun z hz => HPB.out z (List.mem_append_left _ hz)) (by omega)
              rw [← HX.out, ← HXI.out, ← HNN.out] at h5
              exact h5 (by omega) d1 d2
            · rintro e w4 ⟨rfl, hx4⟩
              have hX4 : Ext w w4 := Ext.trans (show Ext w (w2.setCell ⟨g, i, none⟩ (.int .u8 ((xi + by_) % 256))) from Below.setCell (p := ⟨g, i, none⟩) hX2 hgw _) hx4
              unfold pktV
              go_wp2_with fail
              go_ret
              exact ⟨rfl, (by repeat' (first | (with_reducible exact Ext.refl _) | (with_reducible assumption) | (with_reducible refine Ext.alloc ?_ _) | (with_reducible refine Ext.drewN ?_ _) | (with_reducible refine Ext.drew ?_) | (with_reducible refine Ext.trans ?_ (by assumption))))⟩
      · have HNO := Lib.hid ok
        clear ok
        go_enter Try.func9, Try.ntmps9
        go_wp2_with fail
        refine (wakes07 _).mono ?_
        rintro e w1 ⟨rfl, hx1⟩
        have c0 := hx1.cellv (cell_new w #[.int .i64 m, .int .i64 y, .int .i64 s, .int .i64 k, .slice a n c] 49 (0, 0) (j := 0) rfl)
        have c1 := hx1.cellv (cell_new w #[.int .i64 m, .int .i64 y, .int .i64 s, .int .i64 k, .slice a n c] 49 (0, 0) (j := 1) rfl)
        have c2 := hx1.cellv (cell_new w #[.int .i64 m, .int .i64 y, .int .i64 s, .int .i64 k, .slice a n c] 49 (0, 0) (j := 2) rfl)
        have c3 := hx1.cellv (cell_new w #[.int .i64 m, .int .i64 y, .int .i64 s, .int .i64 k, .slice a n c] 49 (0, 0) (j := 3) rfl)
        have c4 := hx1.cellv (cell_new w #[.int .i64 m, .int .i64 y, .int .i64 s, .int .i64 k, .slice a n c] 49 (0, 0) (j := 4) rfl)
        have hX1 : Ext w w1 := (by repeat' (first | (with_reducible exact Ext.refl _) | (with_reducible assumption) | (with_reducible refine Ext.alloc ?_ _) | (with_reducible refine Ext.drewN ?_ _) | (with_reducible refine Ext.drew ?_) | (with_reducible refine Ext.trans ?_ (by assumption))))
        clear hx1
        go_wp2_with fail
        refine (HBad.out _ HNO.out).mono ?_
        rintro e w2 ⟨rfl, hx2⟩
        go_wp2_with fail
        go_ret
        exact ⟨rfl, (by repeat' (first | (with_reducible exact Ext.refl _) | (with_reducible assumption) | (with_reducible refine Ext.alloc ?_ _) | (with_reducible refine Ext.drewN ?_ _) | (with_reducible refine Ext.drew ?_) | (with_reducible refine Ext.trans ?_ (by assumption))))⟩
  · have hb5 : ¬ (n : Int) ≤ 300 := by omega
    go_enter Try.func9, Try.ntmps9
    go_wp2_with fail
    refine (wakes07 _).mono ?_
    rintro e w1 ⟨rfl, hx1⟩
    have c4 := hx1.cellv (cell_new w #[.int .i64 m, .int .i64 y, .int .i64 s, .int .i64 k, .slice a n c] 49 (0, 0) (j := 4) rfl)
    go_wp2_with fail
    go_ret
    exact ⟨rfl, (by repeat' (first | (with_reducible exact Ext.refl _) | (with_reducible assumption) | (with_reducible refine Ext.alloc ?_ _) | (with_reducible refine Ext.drewN ?_ _) | (with_reducible refine Ext.drew ?_) | (with_reducible refine Ext.trans ?_ (by assumption))))⟩
end Go.Proofs.Ytmkobmkaalfecaa
