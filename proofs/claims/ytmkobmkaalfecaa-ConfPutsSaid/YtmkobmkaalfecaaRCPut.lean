/-
  gradineref03.Put of any configuration. No condition but that the hints read, and are few.
-/
import Derived.Test.YtmkobmkaalfecaaRCRight
import Derived.Test.YtmkobmkaalfecaaConfLaw
import Derived.Test.YtmkobmkaalfecaaInts2
import Derived.Test.YtmkobmkaalfecaaStepApp
namespace Go.Proofs.Ytmkobmkaalfecaa
open Go.RowKit

theorem rcput_bad (N : Nat → Int) (v : Value) (n : Nat) (F : Nat → Nat → Int) (L : Nat → Bool) (w : World) (h : RdH w v n F L) (hn : n ≤ 20) (hwf : ∀ i j, i < n → j < 3 → (Lit.int .i64 (F i j)).wf = true) (ok : ¬ CfgOk N n F) :
    Calls Try.prog 46 #[cfgV N v] w fun e w' => e = .returned (.tuple #[.slice none 0 0, .int .i64 6]) ∧ Ext w w' := by
  have HH := Lib.hid (fun w' (hx : Ext w w') => rcright N v n F L w' (h.ext hx) hn hwf false (by simpa using ok))
  obtain ⟨sa, sc, rfl, _⟩ := h
  unfold cfgV at HH ⊢
  clear ok hwf
  go_enter Try.func46, Try.ntmps46
  go_wp2_with fail
  refine (HH.out _ (by repeat' (first | (with_reducible exact Ext.refl _) | (with_reducible assumption) | (with_reducible refine Ext.alloc ?_ _) | (with_reducible refine Ext.drewN ?_ _) | (with_reducible refine Ext.drew ?_) | (with_reducible refine Ext.trans ?_ (by assumption))))).mono ?_
  rintro e w1 ⟨rfl, hx1⟩
  go_wp2_with fail
  go_ret2
  exact ⟨rfl, (by repeat' (first | (with_reducible exact Ext.refl _) | (with_reducible assumption) | (with_reducible refine Ext.alloc ?_ _) | (with_reducible refine Ext.drewN ?_ _) | (with_reducible refine Ext.drew ?_) | (with_reducible refine Ext.trans ?_ (by assumption))))⟩

def firstL (N : Nat → Int) (n : Nat) : List Int := [N 0, N 1, N 2, N 3, N 4, N 5, N 6, N 7, N 8, N 9, N 10, N 11, N 12, N 13, N 14, N 15, n]
theorem firstL_at (N : Nat → Int) (n : Nat) {k : Nat} (hk : k < 17) : (firstL N n).getD k 0 = firstV N n k := by
  have : k = 0 ∨ k = 1 ∨ k = 2 ∨ k = 3 ∨ k = 4 ∨ k = 5 ∨ k = 6 ∨ k = 7 ∨ k = 8 ∨ k = 9 ∨ k = 10 ∨ k = 11 ∨ k = 12 ∨ k = 13 ∨ k = 14 ∨ k = 15 ∨ k = 16 := by omega
  rcases this with rfl | rfl | rfl | rfl | rfl | rfl | rfl | rfl | rfl | rfl | rfl | rfl | rfl | rfl | rfl | rfl | rfl <;> rfl

set_option maxRecDepth 100000 in
set_option maxHeartbeats 4000000 in
theorem rcput_ok (N : Nat → Int) (v : Value) (n : Nat) (F : Nat → Nat → Int) (L : Nat → Bool) (w : World) (h : RdH w v n F L) (hwf : ∀ i j, i < n → j < 3 → (Lit.int .i64 (F i j)).wf = true) (ok : CfgOk N n F) :
    Calls Try.prog 46 #[cfgV N v] w fun e w' => ∃ v', e = .returned (.tuple #[v', .int .i64 0]) ∧ OwnI .u8 5 w.heap.size w' v' (confB N n F L) ∧ Ext w w' := by
  have hn8 : n ≤ 8 := ok.hs.2.2
  have HRT := Lib.hid (fun w' (hx : Ext w w') => rcright N v n F L w' (h.ext hx) (by omega) hwf true (by simpa using ok))
  have HBD := Lib.hid (first_bd ok)
  have HFB : Hid (∀ i j, i < n → j < 3 → F i j ≤ 9223372036854775807 ∧ -9223372036854775808 ≤ F i j) := Lib.hid (fun i j hi hj => by have := i64_bd (hwf i j hi hj); omega)
  have HN9 := Lib.hid (fun k (hk : k ≤ 17) => numB_len17 (first_bd ok) k hk)
  have HH9 := Lib.hid (hintsB_len (L := L) (n := n) (F := F) (fun i j hi hj => (HFB.out i j hi hj).1))
  obtain ⟨sa, sc, rfl, hsc, hsm, _, hs⟩ := h
  have HS := Lib.hid hs
  obtain ⟨v, hv⟩ : ∃ v, v = Value.slice sa n sc := ⟨_, rfl⟩
  rw [← hv] at HRT ⊢
  unfold cfgV at HRT ⊢
  have HV := Lib.hid hv
  clear ok hwf hs hsm hv
  go_enter Try.func46, Try.ntmps46
  go_wp2_with fail
  have hC := cfg_new w N v 75
  have hX := (Ext.refl w).alloc (.cells #[.int .i64 (N 0), .int .i64 (N 1), .int .i64 (N 2), .int .i64 (N 3), .int .i64 (N 4), .int .i64 (N 5), .int .i64 (N 6), .int .i64 (N 7), .int .i64 (N 8), .int .i64 (N 9), .int .i64 (N 10), .int .i64 (N 11), .int .i64 (N 12), .int .i64 (N 13), .int .i64 (N 14), .int .i64 (N 15), v] 75)
  obtain ⟨p, hp⟩ : ∃ p, p = w.heap.size := ⟨_, rfl⟩
  rw [← hp] at hC ⊢
  clear hp
  generalize (w.alloc (.cells #[.int .i64 (N 0), .int .i64 (N 1), .int .i64 (N 2), .int .i64 (N 3), .int .i64 (N 4), .int .i64 (N 5), .int .i64 (N 6), .int .i64 (N 7), .int .i64 (N 8), .int .i64 (N 9), .int .i64 (N 10), .int .i64 (N 11), .int .i64 (N 12), .int .i64 (N 13), .int .i64 (N 14), .int .i64 (N 15), v] 75)) = w1 at *
  have HC := Lib.hid hC
  clear hC
  refine (HRT.out _ hX).mono ?_
  rintro e w2 ⟨rfl, hx2⟩
  have hX2 := hX.trans hx2
  have HC2 := Lib.hid (HC.out.ext hx2)
  have c0 := HC2.out.1 0 (by omega)
  have c1 := HC2.out.1 1 (by omega)
  have c2 := HC2.out.1 2 (by omega)
  have c3 := HC2.out.1 3 (by omega)
  have c4 := HC2.out.1 4 (by omega)
  have c5 := HC2.out.1 5 (by omega)
  have c6 := HC2.out.1 6 (by omega)
  have c7 := HC2.out.1 7 (by omega)
  have c8 := HC2.out.1 8 (by omega)
  have c9 := HC2.out.1 9 (by omega)
  have c10 := HC2.out.1 10 (by omega)
  have c11 := HC2.out.1 11 (by omega)
  have c12 := HC2.out.1 12 (by omega)
  have c13 := HC2.out.1 13 (by omega)
  have c14 := HC2.out.1 14 (by omega)
  have c15 := HC2.out.1 15 (by omega)
  have c16 := HC2.out.2
  clear hx2 hX
  go_wp2_with (at_builtin; refine wpList_append_ints rfl _ _ 63 rfl 3 .i64 0 8 Try.underlying63 ints_info (by decide) w2 (by repeat' (first | (with_reducible exact Ext.refl _) | (with_reducible assumption) | (with_reducible refine Ext.alloc ?_ _) | (with_reducible refine Ext.drewN ?_ _) | (with_reducible refine Ext.drew ?_) | (with_reducible refine Ext.trans ?_ (by assumption)))) _ _ rfl (OwnI.nil _ _ _ _) _ _ rfl (RdI.lit .i64 _ [N 0, N 1, N 2, N 3, N 4, N 5, N 6, N 7, N 8] _ (by simp [maxLen])) (by unfold Fits; simp) ?_)
  intro v3 w3 ho3 hx3
  have d9 := hx3.cellv c9
  have d10 := hx3.cellv c10
  have d11 := hx3.cellv c11
  have d12 := hx3.cellv c12
  have d13 := hx3.cellv c13
  have d14 := hx3.cellv c14
  have d15 := hx3.cellv c15
  have d16 := hx3.cellv c16
  rw [HV.out] at d16
  clear c0 c1 c2 c3 c4 c5 c6 c7 c8 c9 c10 c11 c12 c13 c14 c15 c16
  go_wp2_with (at_builtin; refine wpList_append_ints rfl _ _ 63 rfl 3 .i64 0 8 Try.underlying63 ints_info (by decide) w2 (by repeat' (first | (with_reducible exact Ext.refl _) | (with_reducible assumption) | (with_reducible refine Ext.alloc ?_ _) | (with_reducible refine Ext.drewN ?_ _) | (with_reducible refine Ext.drew ?_) | (with_reducible refine Ext.trans ?_ (by assumption)))) _ _ rfl (ho3.ext (by repeat' (first | (with_reducible exact Ext.refl _) | (with_reducible assumption) | (with_reducible refine Ext.alloc ?_ _) | (with_reducible refine Ext.drewN ?_ _) | (with_reducible refine Ext.drew ?_) | (with_reducible refine Ext.trans ?_ (by assumption))))) _ _ rfl (RdI.lit .i64 _ [N 9, N 10, N 11, N 12, N 13, N 14, N 15, n] _ (by simp [maxLen])) (by unfold Fits; simp) ?_)
  intro v4 w4 ho4 hx4
  have hX4 : Ext w w4 := hX2.trans hx4
  have HC4 := Lib.hid (HC2.out.ext hx4)
  have hr4 : RdI .i64 w4 v4 (firstL N n) := ho4.rd
  obtain ⟨av, cv, hvv, _, _, _, hss⟩ := hr4.parts
  obtain ⟨b4, o4, rfl, hb4, hcl4⟩ := hss (by simp [firstL])
  have HCL : Hid (∀ k, k < 17 → w4.cell? ⟨b4, o4 + k, none⟩ = some (.int .i64 (firstV N n k))) := Lib.hid (fun k hk => (hcl4 k hk).trans (by rw [firstL_at N n hk]))
  have hlen17 : (firstL N n).length = 17 := rfl
  rw [hlen17] at hvv
  subst hvv
  clear d9 d10 d11 d12 d13 d14 d15 d16 hss hcl4 hr4 ho4 ho3 hx3 hX2 hx4 hlen17 HC2 HC
  go_wp2_with fail
  go_loopw [5, 6] (fun cb ci wr => ∃ k : Nat, k ≤ 17 ∧ ci = .int .i64 k ∧ OwnI .u8 5 w4.heap.size wr cb (numB (firstV N n) k) ∧ Ext w4 wr) (fun _ ci _ => 17 - (intOf ci).toNat)
  case atStart => exact ⟨0, by omega, rfl, OwnI.nil _ _ _ _, Ext.refl _⟩
  case round =>
    obtain ⟨k, hk, rfl, ho, hx⟩ := hrel
    have HO := Lib.hid ho
    clear ho
    by_cases hk17 : k < 17
    · have hki : (k : Int) < 17 := by omega
      have hcell := hx.cellv (HCL.out k hk17)
      have hlen := HN9.out k hk
      have hlen2 := HN9.out (k + 1) hk17
      have hbd := HBD.out k hk17
      have e1 : numB (firstV N n) (k + 1) = numB (firstV N n) k ++ enc (firstV N n k).toNat := rfl
      rw [e1, List.length_append] at hlen2
      obtain ⟨x, hx0⟩ : ∃ x, firstV N n k = x := ⟨_, rfl⟩
      rw [hx0] at hcell hbd e1 hlen2
      have HE1 := Lib.hid e1
      clear e1 hx0
      go_wp2_with fail
      refine (refput_any x _ (by omega) (by omega)).mono ?_
      rintro e w5 ⟨v5, rfl, ho5, hx5⟩
      go_wp2_with (at_builtin; refine wpList_append_ints rfl _ _ 24 rfl 5 .u8 0 1 Try.underlying24 bytes_info (by decide) w4 (by repeat' (first | (with_reducible exact Ext.refl _) | (with_reducible assumption) | (with_reducible refine Ext.alloc ?_ _) | (with_reducible refine Ext.drewN ?_ _) | (with_reducible refine Ext.drew ?_) | (with_reducible refine Ext.trans ?_ (by assumption)))) _ _ rfl (HO.out.ext hx5) _ _ rfl ho5.rd (by unfold Fits; omega) ?_)
      intro v6 w6 ho6 hx6
      go_wp2_with fail
      go_roundw
      case rel => exact ⟨k + 1, by omega, by go_num, by rw [HE1.out]; exact ho6, hx6⟩
      case measure => simp [intOf]; omega
    · obtain rfl : k = 17 := by omega
      have hlen := HN9.out 17 (by omega)
      go_wp2_with fail
      go_loopw [5, 7] (fun cb ci wr => ∃ i : Nat, i ≤ n ∧ ci = .int .i64 i ∧ OwnI .u8 5 w4.heap.size wr cb (numB (firstV N n) 17 ++ hintsB F L i) ∧ Ext w4 wr) (fun _ ci _ => n - (intOf ci).toNat)
      case atStart => exact ⟨0, by omega, rfl, by simpa [hintsB] using HO.out, hx⟩
      case round =>
        obtain ⟨i, hi, rfl, ho, hx⟩ := hrel
        have HO := Lib.hid ho
        clear ho
        have hcell := hx.cellv HC4.out.2
        rw [HV.out] at hcell
        by_cases hlt : i < n
        · have hii : (i : Int) < (n : Int) := by omega
          obtain ⟨b, o, rfl, hb, hcl⟩ := HS.out (by omega)
          have hxw : Ext w wr := hX4.trans hx
          have y0 := (hxw.cell hb).trans (hcl i 0 hlt (by omega))
          have y1 := (hxw.cell hb).trans (hcl i 1 hlt (by omega))
          have y2 := (hxw.cell hb).trans (hcl i 2 hlt (by omega))
          have y3 := (hxw.cell hb).trans (hcl i 3 hlt (by omega))
          simp only [Proofs.Ytmkobmkaalfecaa.HV, ← Nat.add_assoc, Nat.add_zero, if_pos (show (0 : Nat) < 3 by omega), if_pos (show (1 : Nat) < 3 by omega), if_pos (show (2 : Nat) < 3 by omega), if_neg (show ¬ (3 : Nat) < 3 by omega)] at y0 y1 y2 y3
          have hlB : (hintsB F L (i + 1)) = hintsB F L i ++ hintB F L i := rfl
          have hhB : hintB F L i = enc (F i 0).toNat ++ enc (F i 1).toNat ++ enc (F i 2).toNat ++ [bit (L i)] := rfl
          have hlen9 := HH9.out i (by omega)
          have b0 := HFB.out i 0 hlt (by omega)
          have b1 := HFB.out i 1 hlt (by omega)
          have b2 := HFB.out i 2 hlt (by omega)
          obtain ⟨x0, hx0⟩ : ∃ x, F i 0 = x := ⟨_, rfl⟩
          obtain ⟨x1, hx1⟩ : ∃ x, F i 1 = x := ⟨_, rfl⟩
          obtain ⟨x2, hx2⟩ : ∃ x, F i 2 = x := ⟨_, rfl⟩
          obtain ⟨lp, hlp⟩ : ∃ x, L i = x := ⟨_, rfl⟩
          rw [hx0] at y0 b0
          rw [hx1] at y1 b1
          rw [hx2] at y2 b2
          rw [hlp] at y3
          rw [hx0, hx1, hx2, hlp] at hhB
          have HLB := Lib.hid (hlB.trans (by rw [hhB]))
          have hl0 := enc_len9 b0.1
          have hl1 := enc_len9 b1.1
          have hl2 := enc_len9 b2.1
          obtain ⟨B0, hB0⟩ : ∃ B, numB (firstV N n) 17 ++ hintsB F L i = B := ⟨_, rfl⟩
          have hB0l : B0.length ≤ 420 := by rw [← hB0]; simp only [List.length_append]; omega
          have HB0 := Lib.hid hB0
          have HO1 := Lib.hid (show OwnI .u8 5 w4.heap.size wr u5 B0 by rw [← hB0]; exact HO.out)
          have k0 : (wr.alloc (.cells #[.int .i64 x0, .int .i64 x1, .int .i64 x2, .bool lp] 36)).cell? ⟨wr.heap.size, 0, none⟩ = some (.int .i64 x0) := cell_new _ _ _ _ rfl
          have k1 : (wr.alloc (.cells #[.int .i64 x0, .int .i64 x1, .int .i64 x2, .bool lp] 36)).cell? ⟨wr.heap.size, 1, none⟩ = some (.int .i64 x1) := cell_new _ _ _ _ rfl
          have k2 : (wr.alloc (.cells #[.int .i64 x0, .int .i64 x1, .int .i64 x2, .bool lp] 36)).cell? ⟨wr.heap.size, 2, none⟩ = some (.int .i64 x2) := cell_new _ _ _ _ rfl
          have k3 : (wr.alloc (.cells #[.int .i64 x0, .int .i64 x1, .int .i64 x2, .bool lp] 36)).cell? ⟨wr.heap.size, 3, none⟩ = some (.bool lp) := cell_new _ _ _ _ rfl
          have hxa : Ext wr (wr.alloc (.cells #[.int .i64 x0, .int .i64 x1, .int .i64 x2, .bool lp] 36)) := (Ext.refl wr).alloc _
          clear hlB hhB hx0 hx1 hx2 hlp HO hB0 hcl
          go_wp2_with (go_at_call 21; fail)
          obtain ⟨q, hq⟩ : ∃ q, q = wr.heap.size := ⟨_, rfl⟩
          rw [← hq] at k0 k1 k2 k3 ⊢
          have hqo : u5.ownBlock ≠ some q := fun h => by have := (OwnI.lt HO1.out q h).2; omega
          have hq6 : q < (wr.alloc (.cells #[.int .i64 x0, .int .i64 x1, .int .i64 x2, .bool lp] 36)).heap.size := by simp; omega
          clear hq
          generalize (wr.alloc (.cells #[.int .i64 x0, .int .i64 x1, .int .i64 x2, .bool lp] 36)) = w6 at *
          have ho6 := HO1.out.ext hxa
          have hX6 : Ext w4 w6 := hx.trans hxa
          clear hx hxw hxa y0 y1 y2 y3 HO1 hcell
          refine (refput_any x0 _ b0.2 b0.1).mono ?_
          rintro e w7 ⟨v7, rfl, ho7, hx7⟩
          go_wp2_with (at_builtin; refine wpList_append_intsa rfl _ _ 24 rfl 5 .u8 0 1 Try.underlying24 bytes_info (by decide) w4 (by repeat' (first | (with_reducible exact Ext.refl _) | (with_reducible assumption) | (with_reducible refine Ext.alloc ?_ _) | (with_reducible refine Ext.drewN ?_ _) | (with_reducible refine Ext.drew ?_) | (with_reducible refine Ext.trans ?_ (by assumption)))) _ _ rfl (ho6.ext hx7) _ _ rfl ho7.rd (by simp [enc_len_pos]) (by unfold Fits; omega) ?_)
          intro v8 w8 ho8 hx8 hg8 hat8
          have hq7 := Nat.lt_of_lt_of_le hq6 hx7.size
          obtain ⟨hqo8, keep8⟩ := grown_keep hg8 hat8 hq7 hqo
          have k1 := keep8 (hx7.cellv k1)
          have k2 := keep8 (hx7.cellv k2)
          have k3 := keep8 (hx7.cellv k3)
          have hq8 : q < w8.heap.size := cell_lt k1
          clear ho7 ho6 hg8 hat8 keep8 hqo hq7 hq6 hx7 k0 hX6
          go_wp2_with fail
          refine (refput_any x1 _ b1.2 b1.1).mono ?_
          rintro e w9 ⟨v9, rfl, ho9, hx9⟩
          go_wp2_with (at_builtin; refine wpList_append_intsa rfl _ _ 24 rfl 5 .u8 0 1 Try.underlying24 bytes_info (by decide) w4 (by repeat' (first | (with_reducible exact Ext.refl _) | (with_reducible assumption) | (with_reducible refine Ext.alloc ?_ _) | (with_reducible refine Ext.drewN ?_ _) | (with_reducible refine Ext.drew ?_) | (with_reducible refine Ext.trans ?_ (by assumption)))) _ _ rfl (ho8.ext hx9) _ _ rfl ho9.rd (by simp [enc_len_pos]) (by unfold Fits; simp only [List.length_append]; omega) ?_)
          intro v10 w10 ho10 hx10 hg10 hat10
          obtain ⟨hqo10, keep10⟩ := grown_keep hg10 hat10 (Nat.lt_of_lt_of_le hq8 hx9.size) hqo8
          have k2 := keep10 (hx9.cellv k2)
          have k3 := keep10 (hx9.cellv k3)
          have hq10 : q < w10.heap.size := cell_lt k2
          clear ho9 ho8 hg10 hat10 keep10 hqo8 hq8 hx9 k1 hx8
          go_wp2_with fail
          refine (refput_any x2 _ b2.2 b2.1).mono ?_
          rintro e w11 ⟨v11, rfl, ho11, hx11⟩
          go_wp2_with (at_builtin; refine wpList_append_intsa rfl _ _ 24 rfl 5 .u8 0 1 Try.underlying24 bytes_info (by decide) w4 (by repeat' (first | (with_reducible exact Ext.refl _) | (with_reducible assumption) | (with_reducible refine Ext.alloc ?_ _) | (with_reducible refine Ext.drewN ?_ _) | (with_reducible refine Ext.drew ?_) | (with_reducible refine Ext.trans ?_ (by assumption)))) _ _ rfl (ho10.ext hx11) _ _ rfl ho11.rd (by simp [enc_len_pos]) (by unfold Fits; simp only [List.length_append]; omega) ?_)
          intro v12 w12 ho12 hx12 hg12 hat12
          obtain ⟨_, keep12⟩ := grown_keep hg12 hat12 (Nat.lt_of_lt_of_le hq10 hx11.size) hqo10
          have k3 := keep12 (hx11.cellv k3)
          clear ho11 ho10 hg12 hat12 keep12 hqo10 hq10 hx11 k2 hx10
          cases lp
          · go_wp2_with (at_builtin; refine wpList_append_ints rfl _ _ 24 rfl 5 .u8 0 1 Try.underlying24 bytes_info (by decide) w4 (by repeat' (first | (with_reducible exact Ext.refl _) | (with_reducible assumption) | (with_reducible refine Ext.alloc ?_ _) | (with_reducible refine Ext.drewN ?_ _) | (with_reducible refine Ext.drew ?_) | (with_reducible refine Ext.trans ?_ (by assumption)))) _ _ rfl (ho12.ext (by repeat' (first | (with_reducible exact Ext.refl _) | (with_reducible assumption) | (with_reducible refine Ext.alloc ?_ _) | (with_reducible refine Ext.drewN ?_ _) | (with_reducible refine Ext.drew ?_) | (with_reducible refine Ext.trans ?_ (by assumption))))) _ _ rfl (RdI.one _ _ _ _) (by unfold Fits; simp only [List.length_append, List.length_singleton]; omega) ?_)
            intro v13 w13 ho13 hx13
            go_wp2_with fail
            refine ⟨?_, ?measure⟩
            (repeat apply Exists.intro)
            refine ⟨?rel, rfl⟩
            case rel => exact ⟨i + 1, by omega, by go_num, by rw [HLB.out, ← List.append_assoc, HB0.out]; simpa [bit] using ho13, hx13⟩
            case measure => simp [intOf]; omega
          · go_wp2_with (at_builtin; refine wpList_append_ints rfl _ _ 24 rfl 5 .u8 0 1 Try.underlying24 bytes_info (by decide) w4 (by repeat' (first | (with_reducible exact Ext.refl _) | (with_reducible assumption) | (with_reducible refine Ext.alloc ?_ _) | (with_reducible refine Ext.drewN ?_ _) | (with_reducible refine Ext.drew ?_) | (with_reducible refine Ext.trans ?_ (by assumption)))) _ _ rfl (ho12.ext (by repeat' (first | (with_reducible exact Ext.refl _) | (with_reducible assumption) | (with_reducible refine Ext.alloc ?_ _) | (with_reducible refine Ext.drewN ?_ _) | (with_reducible refine Ext.drew ?_) | (with_reducible refine Ext.trans ?_ (by assumption))))) _ _ rfl (RdI.one _ _ _ _) (by unfold Fits; simp only [List.length_append, List.length_singleton]; omega) ?_)
            intro v13 w13 ho13 hx13
            go_wp2_with fail
            refine ⟨?_, ?measure⟩
            (repeat apply Exists.intro)
            refine ⟨?rel, rfl⟩
            case rel => exact ⟨i + 1, by omega, by go_num, by rw [HLB.out, ← List.append_assoc, HB0.out]; simpa [bit] using ho13, hx13⟩
            case measure => simp [intOf]; omega
        · obtain rfl : n = i := by omega
          have ho := HO.out
          go_wp2_with fail
          go_ret2
          exact ⟨_, rfl, by rw [confB_first]; exact ho.mono hX4.size, hX4.trans hx⟩
end Go.Proofs.Ytmkobmkaalfecaa
