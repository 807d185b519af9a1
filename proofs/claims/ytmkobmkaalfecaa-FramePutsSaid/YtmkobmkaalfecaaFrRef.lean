/-
  gradineref07: Right, Plain, Summed, Put, Same of packets that are the same. No condition but that the loads read.
-/
import Derived.Test.YtmkobmkaalfecaaFrameLastWalk
namespace Go.Proofs.Ytmkobmkaalfecaa
open Go.RowKit

set_option maxHeartbeats 4000000 in
theorem rfright (m y s k : Int) (a : Option Addr) (c n : Nat) (w : World) (r : Bool) (hr : decide (FOk m y s k n) = r) :
    Calls Try.prog 35 #[pktV m y s k (.slice a n c)] w fun e w' => e = .returned (.bool r) ∧ Ext w w' := by
  have HR := Lib.hid hr
  clear hr
  unfold pktV
  by_cases b1 : 1 ≤ m
  · skip
    by_cases b2 : m ≤ 1099511627776
    · skip
      by_cases b3 : 0 ≤ y
      · skip
        by_cases b4 : y ≤ 1099511627776
        · skip
          by_cases b5 : 0 ≤ s
          · skip
            by_cases b6 : s ≤ 1099511627776
            · skip
              by_cases b7 : 0 ≤ k
              · skip
                by_cases b8 : k ≤ 1099511627776
                · skip
                  by_cases a5 : n ≤ 128
                  · have a5' : (n : Int) ≤ 128 := by omega
                    by_cases a6 : 0 < s
                    · go_enter Try.func35, Try.ntmps35
                      go_wp2
                      go_ret
                      exact ⟨ret_bool (by rw [← HR.out]; symm; exact decide_eq_true ⟨⟨b1, b2⟩, ⟨b3, b4⟩, ⟨b5, b6⟩, ⟨b7, b8⟩, a5, .inl a6⟩), (by repeat' (first | (with_reducible exact Ext.refl _) | (with_reducible assumption) | (with_reducible refine Ext.alloc ?_ _) | (with_reducible refine Ext.drewN ?_ _) | (with_reducible refine Ext.drew ?_) | (with_reducible refine Ext.trans ?_ (by assumption))))⟩
                    · by_cases a7 : n = 0
                      · subst a7
                        go_enter Try.func35, Try.ntmps35
                        go_wp2
                        go_ret
                        exact ⟨ret_bool (by rw [← HR.out]; symm; exact decide_eq_true ⟨⟨b1, b2⟩, ⟨b3, b4⟩, ⟨b5, b6⟩, ⟨b7, b8⟩, a5, .inr rfl⟩), (by repeat' (first | (with_reducible exact Ext.refl _) | (with_reducible assumption) | (with_reducible refine Ext.alloc ?_ _) | (with_reducible refine Ext.drewN ?_ _) | (with_reducible refine Ext.drew ?_) | (with_reducible refine Ext.trans ?_ (by assumption))))⟩
                      · have a8 : ((n : Int) == 0) = false := by simpa using a7
                        have hno : ¬ FOk m y s k n := fun q => by unfold FOk Bt at q; omega
                        have HN := Lib.hid hno
                        clear hno
                        go_enter Try.func35, Try.ntmps35
                        go_wp2
                        go_ret
                        exact ⟨ret_bool (by rw [← HR.out]; simp [HN.out]), (by repeat' (first | (with_reducible exact Ext.refl _) | (with_reducible assumption) | (with_reducible refine Ext.alloc ?_ _) | (with_reducible refine Ext.drewN ?_ _) | (with_reducible refine Ext.drew ?_) | (with_reducible refine Ext.trans ?_ (by assumption))))⟩
                  · have a5' : ¬ (n : Int) ≤ 128 := by omega
                    have hno : ¬ FOk m y s k n := fun q => by unfold FOk Bt at q; omega
                    have HN := Lib.hid hno
                    clear hno
                    go_enter Try.func35, Try.ntmps35
                    go_wp2
                    go_ret
                    exact ⟨ret_bool (by rw [← HR.out]; simp [HN.out]), (by repeat' (first | (with_reducible exact Ext.refl _) | (with_reducible assumption) | (with_reducible refine Ext.alloc ?_ _) | (with_reducible refine Ext.drewN ?_ _) | (with_reducible refine Ext.drew ?_) | (with_reducible refine Ext.trans ?_ (by assumption))))⟩
                · have hno : ¬ FOk m y s k n := fun q => by unfold FOk Bt at q; omega
                  have HN := Lib.hid hno
                  clear hno
                  go_enter Try.func35, Try.ntmps35
                  go_wp2
                  go_ret
                  exact ⟨ret_bool (by rw [← HR.out]; simp [HN.out]), (by repeat' (first | (with_reducible exact Ext.refl _) | (with_reducible assumption) | (with_reducible refine Ext.alloc ?_ _) | (with_reducible refine Ext.drewN ?_ _) | (with_reducible refine Ext.drew ?_) | (with_reducible refine Ext.trans ?_ (by assumption))))⟩
              · have hno : ¬ FOk m y s k n := fun q => by unfold FOk Bt at q; omega
                have HN := Lib.hid hno
                clear hno
                go_enter Try.func35, Try.ntmps35
                go_wp2
                go_ret
                exact ⟨ret_bool (by rw [← HR.out]; simp [HN.out]), (by repeat' (first | (with_reducible exact Ext.refl _) | (with_reducible assumption) | (with_reducible refine Ext.alloc ?_ _) | (with_reducible refine Ext.drewN ?_ _) | (with_reducible refine Ext.drew ?_) | (with_reducible refine Ext.trans ?_ (by assumption))))⟩
            · have hno : ¬ FOk m y s k n := fun q => by unfold FOk Bt at q; omega
              have HN := Lib.hid hno
              clear hno
              go_enter Try.func35, Try.ntmps35
              go_wp2
              go_ret
              exact ⟨ret_bool (by rw [← HR.out]; simp [HN.out]), (by repeat' (first | (with_reducible exact Ext.refl _) | (with_reducible assumption) | (with_reducible refine Ext.alloc ?_ _) | (with_reducible refine Ext.drewN ?_ _) | (with_reducible refine Ext.drew ?_) | (with_reducible refine Ext.trans ?_ (by assumption))))⟩
          · have hno : ¬ FOk m y s k n := fun q => by unfold FOk Bt at q; omega
            have HN := Lib.hid hno
            clear hno
            go_enter Try.func35, Try.ntmps35
            go_wp2
            go_ret
            exact ⟨ret_bool (by rw [← HR.out]; simp [HN.out]), (by repeat' (first | (with_reducible exact Ext.refl _) | (with_reducible assumption) | (with_reducible refine Ext.alloc ?_ _) | (with_reducible refine Ext.drewN ?_ _) | (with_reducible refine Ext.drew ?_) | (with_reducible refine Ext.trans ?_ (by assumption))))⟩
        · have hno : ¬ FOk m y s k n := fun q => by unfold FOk Bt at q; omega
          have HN := Lib.hid hno
          clear hno
          go_enter Try.func35, Try.ntmps35
          go_wp2
          go_ret
          exact ⟨ret_bool (by rw [← HR.out]; simp [HN.out]), (by repeat' (first | (with_reducible exact Ext.refl _) | (with_reducible assumption) | (with_reducible refine Ext.alloc ?_ _) | (with_reducible refine Ext.drewN ?_ _) | (with_reducible refine Ext.drew ?_) | (with_reducible refine Ext.trans ?_ (by assumption))))⟩
      · have hno : ¬ FOk m y s k n := fun q => by unfold FOk Bt at q; omega
        have HN := Lib.hid hno
        clear hno
        go_enter Try.func35, Try.ntmps35
        go_wp2
        go_ret
        exact ⟨ret_bool (by rw [← HR.out]; simp [HN.out]), (by repeat' (first | (with_reducible exact Ext.refl _) | (with_reducible assumption) | (with_reducible refine Ext.alloc ?_ _) | (with_reducible refine Ext.drewN ?_ _) | (with_reducible refine Ext.drew ?_) | (with_reducible refine Ext.trans ?_ (by assumption))))⟩
    · have hno : ¬ FOk m y s k n := fun q => by unfold FOk Bt at q; omega
      have HN := Lib.hid hno
      clear hno
      go_enter Try.func35, Try.ntmps35
      go_wp2
      go_ret
      exact ⟨ret_bool (by rw [← HR.out]; simp [HN.out]), (by repeat' (first | (with_reducible exact Ext.refl _) | (with_reducible assumption) | (with_reducible refine Ext.alloc ?_ _) | (with_reducible refine Ext.drewN ?_ _) | (with_reducible refine Ext.drew ?_) | (with_reducible refine Ext.trans ?_ (by assumption))))⟩
  · have hno : ¬ FOk m y s k n := fun q => by unfold FOk Bt at q; omega
    have HN := Lib.hid hno
    clear hno
    go_enter Try.func35, Try.ntmps35
    go_wp2
    go_ret
    exact ⟨ret_bool (by rw [← HR.out]; simp [HN.out]), (by repeat' (first | (with_reducible exact Ext.refl _) | (with_reducible assumption) | (with_reducible refine Ext.alloc ?_ _) | (with_reducible refine Ext.drewN ?_ _) | (with_reducible refine Ext.drew ?_) | (with_reducible refine Ext.trans ?_ (by assumption))))⟩

set_option maxHeartbeats 2000000 in
theorem rplain (m y s k : Int) (v : Value) (t : List Int) (w : World) (h : RdI .u8 w v t) (ok : FOk m y s k t.length) :
    Calls Try.prog 61 #[pktV m y s k v] w fun e w' => ∃ v', e = .returned v' ∧ OwnI .u8 5 w.heap.size w' v' (fplain m y s k t) ∧ Ext w w' := by
  have hlen : t.length ≤ 128 := ok.2.2.2.2.1
  have hm : -9223372036854775808 ≤ m ∧ m ≤ 9223372036854775807 := by have := ok.1; unfold Bt at this; omega
  have hy : -9223372036854775808 ≤ y ∧ y ≤ 9223372036854775807 := by have := ok.2.1; unfold Bt at this; omega
  have hs : -9223372036854775808 ≤ s ∧ s ≤ 9223372036854775807 := by have := ok.2.2.1; unfold Bt at this; omega
  have hk : -9223372036854775808 ≤ k ∧ k ≤ 9223372036854775807 := by have := ok.2.2.2.1; unfold Bt at this; omega
  have hl1 : (enc m.toNat).length ≤ 9 := enc_len_le 8 m.toNat (by have := ok.1; unfold Bt at this; omega)
  have hl2 : (enc y.toNat).length ≤ 9 := enc_len_le 8 y.toNat (by have := ok.2.1; unfold Bt at this; omega)
  have hl3 : (enc s.toNat).length ≤ 9 := enc_len_le 8 s.toNat (by have := ok.2.2.1; unfold Bt at this; omega)
  have hl4 : (enc k.toNat).length ≤ 9 := enc_len_le 8 k.toNat (by have := ok.2.2.2.1; unfold Bt at this; omega)
  have hl5 : (enc t.length).length ≤ 9 := enc_len_le 8 t.length (by omega)
  have HL := Lib.hid (And.intro hlen (And.intro hl1 (And.intro hl2 (And.intro hl3 (And.intro hl4 hl5)))))
  have HM := Lib.hid hm
  have HY := Lib.hid hy
  have HS := Lib.hid hs
  have HK := Lib.hid hk
  have HT := Lib.hid h
  clear ok hlen hl1 hl2 hl3 hl4 hl5 hm hy hs hk h
  unfold pktV
  go_enter Try.func61, Try.ntmps61
  go_wp2_with (go_at_call 21; fail)
  obtain ⟨W0, hW0⟩ : ∃ W0, W0 = w.alloc (.cells #[.int .i64 m, .int .i64 y, .int .i64 s, .int .i64 k, v] 49) := ⟨_, rfl⟩
  have c1 : W0.cell? ⟨w.heap.size, 1, none⟩ = some (.int .i64 y) := by rw [hW0]; exact cell_new w _ _ _ rfl
  have c2 : W0.cell? ⟨w.heap.size, 2, none⟩ = some (.int .i64 s) := by rw [hW0]; exact cell_new w _ _ _ rfl
  have c3 : W0.cell? ⟨w.heap.size, 3, none⟩ = some (.int .i64 k) := by rw [hW0]; exact cell_new w _ _ _ rfl
  have c4 : W0.cell? ⟨w.heap.size, 4, none⟩ = some v := by rw [hW0]; exact cell_new w _ _ _ rfl
  have hXW : Ext w W0 := by rw [hW0]; exact (by repeat' (first | (with_reducible exact Ext.refl _) | (with_reducible assumption) | (with_reducible refine Ext.alloc ?_ _) | (with_reducible refine Ext.drewN ?_ _) | (with_reducible refine Ext.drew ?_) | (with_reducible refine Ext.trans ?_ (by assumption))))
  rw [← hW0]
  clear hW0
  refine (refput_any m _ HM.out.1 HM.out.2).mono ?_
  rintro e w1 ⟨v1, rfl, ho1, hx1⟩
  have Y1 : Ext W0 w1 := hx1
  go_wp2_with (at_builtin; refine wpList_append_ints rfl _ _ 24 rfl 5 .u8 0 1 Try.underlying24 bytes_info (by decide) W0 (by repeat' (first | (with_reducible exact Ext.refl _) | (with_reducible assumption) | (with_reducible refine Ext.alloc ?_ _) | (with_reducible refine Ext.drewN ?_ _) | (with_reducible refine Ext.drew ?_) | (with_reducible refine Ext.trans ?_ (by assumption)))) _ _ rfl (OwnI.nil _ _ _ _) _ _ rfl ho1.rd (by have := HL.out; unfold Fits; simp; omega) ?_)
  intro g1 q1 go1 X1
  clear hx1 ho1 Y1
  have d1 := X1.cellv c1
  go_wp2_with fail
  refine (refput_any y _ HY.out.1 HY.out.2).mono ?_
  rintro e w2 ⟨v2, rfl, ho2, hx2⟩
  have Y2 : Ext W0 w2 := X1.trans hx2
  go_wp2_with (at_builtin; refine wpList_append_ints rfl _ _ 24 rfl 5 .u8 0 1 Try.underlying24 bytes_info (by decide) W0 (by repeat' (first | (with_reducible exact Ext.refl _) | (with_reducible assumption) | (with_reducible refine Ext.alloc ?_ _) | (with_reducible refine Ext.drewN ?_ _) | (with_reducible refine Ext.drew ?_) | (with_reducible refine Ext.trans ?_ (by assumption)))) _ _ rfl (go1.ext hx2) _ _ rfl ho2.rd (by have := HL.out; unfold Fits; simp; omega) ?_)
  intro g2 q2 go2 X2
  clear hx2 ho2 Y2 go1 d1 X1
  have d2 := X2.cellv c2
  go_wp2_with fail
  refine (refput_any s _ HS.out.1 HS.out.2).mono ?_
  rintro e w3 ⟨v3, rfl, ho3, hx3⟩
  have Y3 : Ext W0 w3 := X2.trans hx3
  go_wp2_with (at_builtin; refine wpList_append_ints rfl _ _ 24 rfl 5 .u8 0 1 Try.underlying24 bytes_info (by decide) W0 (by repeat' (first | (with_reducible exact Ext.refl _) | (with_reducible assumption) | (with_reducible refine Ext.alloc ?_ _) | (with_reducible refine Ext.drewN ?_ _) | (with_reducible refine Ext.drew ?_) | (with_reducible refine Ext.trans ?_ (by assumption)))) _ _ rfl (go2.ext hx3) _ _ rfl ho3.rd (by have := HL.out; unfold Fits; simp; omega) ?_)
  intro g3 q3 go3 X3
  clear hx3 ho3 Y3 go2 d2 X2
  have d3 := X3.cellv c3
  go_wp2_with fail
  refine (refput_any k _ HK.out.1 HK.out.2).mono ?_
  rintro e w4 ⟨v4, rfl, ho4, hx4⟩
  have Y4 : Ext W0 w4 := X3.trans hx4
  go_wp2_with (at_builtin; refine wpList_append_ints rfl _ _ 24 rfl 5 .u8 0 1 Try.underlying24 bytes_info (by decide) W0 (by repeat' (first | (with_reducible exact Ext.refl _) | (with_reducible assumption) | (with_reducible refine Ext.alloc ?_ _) | (with_reducible refine Ext.drewN ?_ _) | (with_reducible refine Ext.drew ?_) | (with_reducible refine Ext.trans ?_ (by assumption)))) _ _ rfl (go3.ext hx4) _ _ rfl ho4.rd (by have := HL.out; unfold Fits; simp; omega) ?_)
  intro g4 q4 go4 X4
  clear hx4 ho4 Y4 go3 d3 X3
  have d4 := X4.cellv c4
  go_wp2_with fail
  refine (text_any v t _ (HT.out.ext (hXW.trans X4)) (fits_small (by have := HL.out; omega))).mono ?_
  rintro e w5 ⟨v5, rfl, ho5, hx5⟩
  have Y5 : Ext W0 w5 := X4.trans hx5
  go_wp2_with (at_builtin; refine wpList_append_ints rfl _ _ 24 rfl 5 .u8 0 1 Try.underlying24 bytes_info (by decide) W0 (by repeat' (first | (with_reducible exact Ext.refl _) | (with_reducible assumption) | (with_reducible refine Ext.alloc ?_ _) | (with_reducible refine Ext.drewN ?_ _) | (with_reducible refine Ext.drew ?_) | (with_reducible refine Ext.trans ?_ (by assumption)))) _ _ rfl (go4.ext hx5) _ _ rfl ho5.rd (by have := HL.out; unfold Fits; simp; omega) ?_)
  intro g5 q5 go5 X5
  have e5 : enc m.toNat ++ (enc y.toNat ++ (enc s.toNat ++ (enc k.toNat ++ (enc t.length ++ t)))) = fplain m y s k t := by simp [fplain]
  rw [e5] at go5
  go_wp2_with fail
  go_ret
  exact ⟨_, rfl, go5.mono (hXW.size), hXW.trans X5⟩

theorem rsummed (v : Value) (l : List Int) (w : World) (h : RdI .u8 w v l) (hb : ∀ x ∈ l, 0 ≤ x ∧ x ≤ 255) (hl : l.length ≤ 10000) :
    Calls Try.prog 60 #[v] w fun e w' => ∃ v', e = .returned v' ∧ OwnI .u8 5 w.heap.size w' v' (l ++ [ssum l]) ∧ Ext w w' := by
  have HT := Lib.hid h
  have HB := Lib.hid hb
  clear h hb
  go_enter Try.func60, Try.ntmps60
  go_wp2_with (at_builtin; refine wpList_append_ints rfl _ _ 24 rfl 5 .u8 0 1 Try.underlying24 bytes_info (by decide) w (by repeat' (first | (with_reducible exact Ext.refl _) | (with_reducible assumption) | (with_reducible refine Ext.alloc ?_ _) | (with_reducible refine Ext.drewN ?_ _) | (with_reducible refine Ext.drew ?_) | (with_reducible refine Ext.trans ?_ (by assumption)))) _ _ rfl (OwnI.nil _ _ _ _) _ _ rfl HT.out (by unfold Fits; simp; omega) ?_)
  intro g1 q1 go1 X1
  go_wp2_with fail
  refine (frefsum _ l _ (HT.out.ext X1) HB.out (by omega)).mono ?_
  rintro e w2 ⟨rfl, rfl⟩
  go_wp2_with (at_builtin; refine wpList_append_ints rfl _ _ 24 rfl 5 .u8 0 1 Try.underlying24 bytes_info (by decide) w (by repeat' (first | (with_reducible exact Ext.refl _) | (with_reducible assumption) | (with_reducible refine Ext.alloc ?_ _) | (with_reducible refine Ext.drewN ?_ _) | (with_reducible refine Ext.drew ?_) | (with_reducible refine Ext.trans ?_ (by assumption)))) _ _ rfl (go1.ext (by repeat' (first | (with_reducible exact Ext.refl _) | (with_reducible assumption) | (with_reducible refine Ext.alloc ?_ _) | (with_reducible refine Ext.drewN ?_ _) | (with_reducible refine Ext.drew ?_) | (with_reducible refine Ext.trans ?_ (by assumption))))) _ _ rfl (RdI.one _ _ _ _) (by unfold Fits; simp; omega) ?_)
  intro g2 q2 go2 X2
  go_wp2_with fail
  go_ret
  exact ⟨_, rfl, go2, X2⟩

theorem rput_bad (m y s k : Int) (a : Option Addr) (c n : Nat) (w : World) (hno : ¬ FOk m y s k n) :
    Calls Try.prog 32 #[pktV m y s k (.slice a n c)] w fun e w' => e = .returned (.tuple #[.slice none 0 0, .int .i64 6]) ∧ Ext w w' := by
  have HN := Lib.hid hno
  clear hno
  have HC := Lib.hid (fun w => rfright m y s k a c n w false (decide_eq_false HN.out))
  unfold pktV at HC ⊢
  go_enter Try.func32, Try.ntmps32
  go_wp2_with fail
  refine (HC.out _).mono ?_
  rintro e w1 ⟨rfl, hx1⟩
  go_wp2_with fail
  go_ret2
  exact ⟨rfl, (by repeat' (first | (with_reducible exact Ext.refl _) | (with_reducible assumption) | (with_reducible refine Ext.alloc ?_ _) | (with_reducible refine Ext.drewN ?_ _) | (with_reducible refine Ext.drew ?_) | (with_reducible refine Ext.trans ?_ (by assumption))))⟩

theorem rput_ok (m y s k : Int) (v : Value) (t : List Int) (w : World) (h : RdI .u8 w v t) (hb : ∀ x ∈ t, 0 ≤ x ∧ x ≤ 255) (ok : FOk m y s k t.length) :
    Calls Try.prog 32 #[pktV m y s k v] w fun e w' => ∃ v', e = .returned (.tuple #[v', .int .i64 0]) ∧ OwnI .u8 5 w.heap.size w' v' (fbytes m y s k t) ∧ Ext w w' := by
  have HT := Lib.hid h
  have HB := Lib.hid hb
  have HOK := Lib.hid ok
  have hpn := fplain_len ok
  obtain ⟨_, sa, sc, rfl, _⟩ := h
  have HC := Lib.hid (fun w => rfright m y s k sa sc t.length w true (decide_eq_true HOK.out))
  clear ok hb
  obtain ⟨v, hv⟩ : ∃ v, v = Value.slice sa t.length sc := ⟨_, rfl⟩
  rw [← hv] at HC HT ⊢
  have HP := Lib.hid (fun w h => rplain m y s k v t w h HOK.out)
  clear hv
  unfold pktV at HC HP ⊢
  go_enter Try.func32, Try.ntmps32
  go_wp2_with fail
  refine (HC.out _).mono ?_
  rintro e w1 ⟨rfl, hx1⟩
  have c0 := hx1.cellv (cell_new w #[.int .i64 m, .int .i64 y, .int .i64 s, .int .i64 k, v] 49 (0, 0) (j := 0) rfl)
  have c1 := hx1.cellv (cell_new w #[.int .i64 m, .int .i64 y, .int .i64 s, .int .i64 k, v] 49 (0, 0) (j := 1) rfl)
  have c2 := hx1.cellv (cell_new w #[.int .i64 m, .int .i64 y, .int .i64 s, .int .i64 k, v] 49 (0, 0) (j := 2) rfl)
  have c3 := hx1.cellv (cell_new w #[.int .i64 m, .int .i64 y, .int .i64 s, .int .i64 k, v] 49 (0, 0) (j := 3) rfl)
  have c4 := hx1.cellv (cell_new w #[.int .i64 m, .int .i64 y, .int .i64 s, .int .i64 k, v] 49 (0, 0) (j := 4) rfl)
  have hX1 : Ext w w1 := (by repeat' (first | (with_reducible exact Ext.refl _) | (with_reducible assumption) | (with_reducible refine Ext.alloc ?_ _) | (with_reducible refine Ext.drewN ?_ _) | (with_reducible refine Ext.drew ?_) | (with_reducible refine Ext.trans ?_ (by assumption))))
  clear hx1
  go_wp2_with fail
  refine (HP.out _ (HT.out.ext hX1)).mono ?_
  rintro e w2 ⟨v2, rfl, ho2, hx2⟩
  go_wp2_with fail
  refine (rsummed _ _ _ ho2.rd (fplain_bytes m y s k t HB.out) (by omega)).mono ?_
  rintro e w3 ⟨v3, rfl, ho3, hx3⟩
  have hX2 : Ext w w2 := hX1.trans hx2
  go_wp2_with fail
  go_ret2
  exact ⟨_, rfl, ho3.mono hX2.size, (by repeat' (first | (with_reducible exact Ext.refl _) | (with_reducible assumption) | (with_reducible refine Ext.alloc ?_ _) | (with_reducible refine Ext.drewN ?_ _) | (with_reducible refine Ext.drew ?_) | (with_reducible refine Ext.trans ?_ (by assumption))))⟩

/-- packets that are the same but for where their loads lie -/
theorem rsame (m y s k : Int) (u v : Value) (t : List Int) (w : World) (hu : RdI .u8 w u t) (hv : RdI .u8 w v t) :
    Calls Try.prog 33 #[pktV m y s k u, pktV m y s k v] w fun e w' => e = .returned (.bool true) ∧ Ext w w' := by
  have HU := Lib.hid hu
  have HV := Lib.hid hv
  clear hu hv
  unfold pktV
  go_enter Try.func33, Try.ntmps33
  go_wp2_with fail
  refine (same_any u v t t _ (HU.out.ext (by repeat' (first | (with_reducible exact Ext.refl _) | (with_reducible assumption) | (with_reducible refine Ext.alloc ?_ _) | (with_reducible refine Ext.drewN ?_ _) | (with_reducible refine Ext.drew ?_) | (with_reducible refine Ext.trans ?_ (by assumption))))) (HV.out.ext (by repeat' (first | (with_reducible exact Ext.refl _) | (with_reducible assumption) | (with_reducible refine Ext.alloc ?_ _) | (with_reducible refine Ext.drewN ?_ _) | (with_reducible refine Ext.drew ?_) | (with_reducible refine Ext.trans ?_ (by assumption)))))).mono ?_
  rintro e w1 ⟨rfl, hx1⟩
  rw [decide_eq_true rfl]
  go_wp2_with fail
  go_ret
  exact ⟨rfl, (by repeat' (first | (with_reducible exact Ext.refl _) | (with_reducible assumption) | (with_reducible refine Ext.alloc ?_ _) | (with_reducible refine Ext.drewN ?_ _) | (with_reducible refine Ext.drew ?_) | (with_reducible refine Ext.trans ?_ (by assumption))))⟩
end Go.Proofs.Ytmkobmkaalfecaa
