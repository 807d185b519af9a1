/-
  gradinelaw07.FrameLast answers true. No condition.
-/
import Derived.Test.YtmkobmkaalfecaaFrLaw
namespace Go.Proofs.Ytmkobmkaalfecaa
open Go.RowKit

theorem byte_of {v : Value} (h : IsInt .u8 v) : ∃ x : Int, v = .int .u8 x ∧ 0 ≤ x ∧ x ≤ 255 := by
  obtain ⟨x, rfl, wf⟩ := h
  simp [Lit.wf, IntKind.min, IntKind.max, IntKind.signed, IntKind.bits] at wf
  exact ⟨x, rfl, by omega, by omega⟩
theorem fplain_pos (m y s k : Int) (t : List Int) : 0 < (fplain m y s k t).length := by
  have := enc_len_pos m.toNat
  simp [fplain]; omega
theorem fplain_len {m y s k : Int} {t : List Int} (ok : FOk m y s k t.length) : (fplain m y s k t).length ≤ 177 := by
  have h1 : (enc m.toNat).length ≤ 6 := enc_len_le 5 m.toNat (by have := ok.1; unfold Bt at this; omega)
  have h2 : (enc y.toNat).length ≤ 6 := enc_len_le 5 y.toNat (by have := ok.2.1; unfold Bt at this; omega)
  have h3 : (enc s.toNat).length ≤ 6 := enc_len_le 5 s.toNat (by have := ok.2.2.1; unfold Bt at this; omega)
  have h4 : (enc k.toNat).length ≤ 6 := enc_len_le 5 k.toNat (by have := ok.2.2.2.1; unfold Bt at this; omega)
  have h5 : t.length ≤ 128 := ok.2.2.2.2.1
  have h6 : (enc t.length).length ≤ 2 := enc_len_le 1 t.length (by omega)
  simp [fplain]; omega
theorem fbytes_byte (m y s k : Int) (t : List Int) (hb : ∀ x ∈ t, 0 ≤ x ∧ x ≤ 255) : ∀ x ∈ fbytes m y s k t, 0 ≤ x ∧ x ≤ 255 := by
  intro x hx
  rcases List.mem_append.1 hx with h | h
  · exact fplain_bytes m y s k t hb x h
  · simp at h; have := ssum_bd (fplain m y s k t); omega
theorem set_byte {l : List Int} {i : Nat} {y : Int} (hb : ∀ x ∈ l, 0 ≤ x ∧ x ≤ 255) (hy : 0 ≤ y ∧ y ≤ 255) : ∀ x ∈ l.set i y, 0 ≤ x ∧ x ≤ 255 := by
  intro x hx
  rcases List.mem_or_eq_of_mem_set hx with h | rfl
  · exact hb x h
  · exact hy

set_option maxRecDepth 100000 in
set_option maxHeartbeats 4000000 in
theorem walk_FrameLast (v0 v1 : Value) (w : World) (h0 : IsFlat Try.prog 49 w v0) (h1 : IsInt .u8 v1) :
    Calls Try.prog 10 #[v0, v1] w fun e w' => e = .returned (.bool true) ∧ Ext w w' := by
  obtain ⟨m, y, s, k, u, t, rfl, hr, hb⟩ := pkt_of h0
  obtain ⟨by_, rfl, b0, b1⟩ := byte_of h1
  have HR := Lib.hid hr
  have HB := Lib.hid hb
  obtain ⟨a, c, rfl, hc, hm, hn, hs⟩ := hr.parts
  have hl63 : (t.length : Int) ≤ 9223372036854775807 := by unfold maxLen at hm; omega
  obtain ⟨n, hnn⟩ : ∃ n, n = t.length := ⟨_, rfl⟩
  have HN := Lib.hid hnn
  clear h0 h1 hb hc hm hn hs
  rw [← hnn] at hl63 ⊢
  have HBad := Lib.hid (fun w h => frput_bad m y s k a c n w h)
  have HOk := Lib.hid (fun w h ok => frput_ok m y s k (.slice a n c) t w h HB.out ok)
  have HRR : Hid (RdI .u8 w (.slice a n c) t) := Lib.hid (by rw [hnn]; exact hr)
  clear hnn hr HR
  unfold pktV at HBad HOk ⊢
  by_cases hbig : n ≤ 300
  · by_cases hz : by_ = 0
    · have hb5 : (n : Int) ≤ 300 := by omega
      subst hz
      go_enter Try.func10, Try.ntmps10
      go_wp2_with fail
      refine (wakes07 _).mono ?_
      rintro e w1 ⟨rfl, hx1⟩
      have c4 := hx1.cellv (cell_new w #[.int .i64 m, .int .i64 y, .int .i64 s, .int .i64 k, .slice a n c] 49 (0, 0) (j := 4) rfl)
      go_wp2_with fail
      go_ret
      exact ⟨rfl, (by repeat' (first | (with_reducible exact Ext.refl _) | (with_reducible assumption) | (with_reducible refine Ext.alloc ?_ _) | (with_reducible refine Ext.drewN ?_ _) | (with_reducible refine Ext.drew ?_) | (with_reducible refine Ext.trans ?_ (by assumption))))⟩
    · have hb5 : (n : Int) ≤ 300 := by omega
      have hz' : (by_ == 0) = false := by simpa using hz
      by_cases ok : FOk m y s k n
      · have ok' : FOk m y s k t.length := by rw [← HN.out]; exact ok
        have hlen := fplain_len ok'
        have hpos := fplain_pos m y s k t
        obtain ⟨pl, hpl⟩ : ∃ pl, pl = fplain m y s k t := ⟨_, rfl⟩
        have HOK := Lib.hid ok'
        have HPB := Lib.hid (fbytes_byte m y s k t HB.out)
        have HPL := Lib.hid hpl
        rw [← hpl] at hlen hpos
        have hfb : fbytes m y s k t = pl ++ [ssum pl] := by rw [hpl]; rfl
        rw [hfb] at HOk HPB
        obtain ⟨N, hN⟩ : ∃ N, N = pl.length := ⟨_, rfl⟩
        obtain ⟨x, hx⟩ : ∃ x, x = ssum pl := ⟨_, rfl⟩
        have hxb := ssum_bd pl
        rw [← hx] at hxb HOk HPB
        obtain ⟨hx0, hx250⟩ := hxb
        have HX := Lib.hid hx
        have HNN := Lib.hid hN
        rw [← hN] at hlen hpos
        clear ok ok' hpl hfb hN hx
        go_enter Try.func10, Try.ntmps10
        go_wp2_with fail
        refine (wakes07 _).mono ?_
        rintro e w1 ⟨rfl, hx1⟩
        have c0 := hx1.cellv (cell_new w #[.int .i64 m, .int .i64 y, .int .i64 s, .int .i64 k, .slice a n c] 49 (0, 0) (j := 0) rfl)
        have c1 := hx1.cellv (cell_new w #[.int .i64 m, .int .i64 y, .int .i64 s, .int .i64 k, .slice a n c] 49 (0, 0) (j := 1) rfl)
        have c2 := hx1.cellv (cell_new w #[.int .i64 m, .int .i64 y, .int .i64 s, .int .i64 k, .slice a n c] 49 (0, 0) (j := 2) rfl)
        have c3 := hx1.cellv (cell_new w #[.int .i64 m, .int .i64 y, .int .i64 s, .int .i64 k, .slice a n c] 49 (0, 0) (j := 3) rfl)
        have c4 := hx1.cellv (cell_new w #[.int .i64 m, .int .i64 y, .int .i64 s, .int .i64 k, .slice a n c] 49 (0, 0) (j := 4) rfl)
        have hX1 : Ext w w1 := (by repeat' (first | (with_reducible exact Ext.refl _) | (with_reducible assumption) | (with_reducible refine Ext.alloc ?_ _) | (with_reducible refine Ext.drewN ?_ _) | (with_reducible refine Ext.drew ?_) | (with_reducible refine Ext.trans ?_ (by assumption))))
        clear hx1
        go_wp2_with fail
        refine (HOk.out _ (HRR.out.ext hX1) HOK.out).mono ?_
        rintro e w2 ⟨v2, rfl, ho2, hx2⟩
        obtain ⟨g, cap, rfl, hgb, hnc, hcm, hB⟩ := own_bat ho2 (by simp)
        have hLn : (pl ++ [x]).length = N + 1 := by have := HNN.out; simp; omega
        have hcl := hB.cell (i := N) (by omega)
        have hgN : (pl ++ [x]).getD N 0 = x := by rw [HNN.out, List.getD_eq_getElem?_getD]; simp
        rw [hgN] at hcl
        have hfz := hB.frz N
        have HBA := Lib.hid hB
        have hX2 : Ext w w2 := (by repeat' (first | (with_reducible exact Ext.refl _) | (with_reducible assumption) | (with_reducible refine Ext.alloc ?_ _) | (with_reducible refine Ext.drewN ?_ _) | (with_reducible refine Ext.drew ?_) | (with_reducible refine Ext.trans ?_ (by assumption))))
        have hgw : w.heap.size ≤ g := by have := hX1.size; omega
        clear hB ho2 hx2 hgN c0 c1 c2 c3 c4
        rw [hLn] at hnc ⊢
        have hn1 : (N : Int) < ((N + 1 : Nat) : Int) := by omega
        have hncap : (N : Int) ≤ (cap : Int) := by omega
        have hge : decide (x ≥ 251) = false := by simp; omega
        have HRS : Hid (∀ w', Ext w2 w' → Calls Try.prog 37 #[.slice (some ⟨g, 0, none⟩) N cap] w' fun e w'' => e = .returned (.int .u8 x) ∧ w' = w'') := Lib.hid (by
          intro w' hx'
          have hrd := ((HBA.out.ext hx').rd (by rw [hLn]; exact hnc) hcm).take N (by omega)
          have htk : (pl ++ [x]).take N = pl := by rw [HNN.out]; simp
          rw [htk] at hrd
          have := frefsum _ pl w' hrd (fun z hz => HPB.out z (List.mem_append_left _ hz)) (by have := HNN.out; omega)
          rw [← HX.out] at this
          exact this)
        go_wp2_with fail
        go_quiet ((go_at_call 37; exact Calls.quiet_of_same (v := .int .u8 x) ((HRS.out _ (by repeat' (first | (with_reducible exact Ext.refl _) | (with_reducible assumption) | (with_reducible refine Ext.alloc ?_ _) | (with_reducible refine Ext.drewN ?_ _) | (with_reducible refine Ext.drew ?_) | (with_reducible refine Ext.trans ?_ (by assumption))))).mono fun e w' h => ⟨h.1, h.2.symm⟩)))
        have hB3 := HBA.out.ext ((Ext.refl w2).drewN nq)
        have hX3 : Ext w (w2.drewN nq) := (by repeat' (first | (with_reducible exact Ext.refl _) | (with_reducible assumption) | (with_reducible refine Ext.alloc ?_ _) | (with_reducible refine Ext.drewN ?_ _) | (with_reducible refine Ext.drew ?_) | (with_reducible refine Ext.trans ?_ (by assumption))))
        have hcl3 := ((Ext.refl w2).drewN nq).cellv hcl
        have hfz3 := hB3.frz N
        generalize w2.drewN nq = w3 at *
        have HB3 := Lib.hid hB3
        clear hB3 hcl hfz
        go_wp2_with fail
        have hrd4 : RdI .u8 (w3.setCell ⟨g, N, none⟩ (.int .u8 ((x + by_) % 256))) (.slice (some ⟨g, 0, none⟩) (N + 1) cap) (pl ++ [(x + by_) % 256]) := by
          have h4 := (HB3.out.set (i := N) (by omega) ((x + by_) % 256)).rd (by rw [List.length_set, hLn]; exact hnc) hcm
          have hset : (pl ++ [x]).set N ((x + by_) % 256) = pl ++ [(x + by_) % 256] := by rw [HNN.out]; simp
          rw [hset] at h4
          rw [show (pl ++ [(x + by_) % 256]).length = N + 1 by rw [HNN.out]; simp] at h4
          exact h4
        refine (frget_bad _ _ N _ hrd4 ?_ (by rw [HNN.out]; simp) (by have := HNN.out; simp; omega) ?_).mono ?_
        · intro z hz
          rcases List.mem_append.1 hz with h | h
          · exact HPB.out z (List.mem_append_left _ h)
          · simp at h; omega
        · have e1 : (pl ++ [(x + by_) % 256]).getD N 0 = (x + by_) % 256 := by rw [HNN.out, List.getD_eq_getElem?_getD]; simp
          have e2 : (pl ++ [(x + by_) % 256]).take N = pl := by rw [HNN.out]; simp
          rw [e1, e2, ← HX.out]
          have : by_ ≠ 0 := by simpa using hz'
          omega
        · rintro e w4 ⟨rfl, hx4⟩
          have hX4 : Ext w w4 := Ext.trans (show Ext w (w3.setCell ⟨g, N, none⟩ (.int .u8 ((x + by_) % 256))) from Below.setCell (p := ⟨g, N, none⟩) hX3 hgw _) hx4
          unfold pktV
          go_wp2_with fail
          go_ret
          exact ⟨rfl, (by repeat' (first | (with_reducible exact Ext.refl _) | (with_reducible assumption) | (with_reducible refine Ext.alloc ?_ _) | (with_reducible refine Ext.drewN ?_ _) | (with_reducible refine Ext.drew ?_) | (with_reducible refine Ext.trans ?_ (by assumption))))⟩
      · have HNO := Lib.hid ok
        clear ok
        go_enter Try.func10, Try.ntmps10
        go_wp2_with fail
        refine (wakes07 _).mono ?_
        rintro e w1 ⟨rfl, hx1⟩
        have c0 := hx1.cellv (cell_new w #[.int .i64 m, .int .i64 y, .int .i64 s, .int .i64 k, .slice a n c] 49 (0, 0) (j := 0) rfl)
        have c1 := hx1.cellv (cell_new w #[.int .i64 m, .int .i64 y, .int .i64 s, .int .i64 k, .slice a n c] 49 (0, 0) (j := 1) rfl)
        have c2 := hx1.cellv (cell_new w #[.int .i64 m, .int .i64 y, .int .i64 s, .int .i64 k, .slice a n c] 49 (0, 0) (j := 2) rfl)
        have c3 := hx1.cellv (cell_new w #[.int .i64 m, .int .i64 y, .int .i64 s, .int .i64 k, .slice a n c] 49 (0, 0) (j := 3) rfl)
        have c4 := hx1.cellv (cell_new w #[.int .i64 m, .int .i64 y, .int .i64 s, .int .i64 k, .slice a n c] 49 (0, 0) (j := 4) rfl)
        have hX1 : Ext w w1 := (by repeat' (first | (with_reducible exact Ext.refl _) | (with_reducible assumption) | (with_reducible refine Ext.alloc ?_ _) | (with_reducible refine Ext.drewN ?_ _) | (with_reducible refine Ext.drew ?_) | (with_reducible refine Ext.trans ?_ (by assumption))))
        clear hx1
        go_wp2_with fail
        refine (HBad.out _ HNO.out).mono ?_
        rintro e w2 ⟨rfl, hx2⟩
        go_wp2_with fail
        go_ret
        exact ⟨rfl, (by repeat' (first | (with_reducible exact Ext.refl _) | (with_reducible assumption) | (with_reducible refine Ext.alloc ?_ _) | (with_reducible refine Ext.drewN ?_ _) | (with_reducible refine Ext.drew ?_) | (with_reducible refine Ext.trans ?_ (by assumption))))⟩
  · have hb5 : ¬ (n : Int) ≤ 300 := by omega
    go_enter Try.func10, Try.ntmps10
    go_wp2_with fail
    refine (wakes07 _).mono ?_
    rintro e w1 ⟨rfl, hx1⟩
    have c4 := hx1.cellv (cell_new w #[.int .i64 m, .int .i64 y, .int .i64 s, .int .i64 k, .slice a n c] 49 (0, 0) (j := 4) rfl)
    go_wp2_with fail
    go_ret
    exact ⟨rfl, (by repeat' (first | (with_reducible exact Ext.refl _) | (with_reducible assumption) | (with_reducible refine Ext.alloc ?_ _) | (with_reducible refine Ext.drewN ?_ _) | (with_reducible refine Ext.drew ?_) | (with_reducible refine Ext.trans ?_ (by assumption))))⟩
end Go.Proofs.Ytmkobmkaalfecaa
