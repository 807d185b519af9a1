/-
  frame.Put. No condition but that the load reads.
-/
import Derived.Test.YtmkobmkaalfecaaFrRight
import Derived.Test.YtmkobmkaalfecaaRawRef
namespace Go.Proofs.Ytmkobmkaalfecaa
open Go.RowKit

/-- a packet's bytes, but for the sum -/
def fplain (m y s k : Int) (t : List Int) : List Int := enc m.toNat ++ enc y.toNat ++ enc s.toNat ++ enc k.toNat ++ (enc t.length ++ t)
def fbytes (m y s k : Int) (t : List Int) : List Int := fplain m y s k t ++ [ssum (fplain m y s k t)]

theorem frput_bad (m y s k : Int) (a : Option Addr) (c n : Nat) (w : World) (hno : ¬ FOk m y s k n) :
    Calls Try.prog 31 #[pktV m y s k (.slice a n c)] w fun e w' => e = .returned (.tuple #[.slice none 0 0, .int .i64 6]) ∧ Ext w w' := by
  have HN := Lib.hid hno
  clear hno
  have HC := Lib.hid (fun w => fright m y s k a c n w false (decide_eq_false HN.out))
  unfold pktV at HC ⊢
  go_enter Try.func31, Try.ntmps31
  go_wp2_with fail
  refine (HC.out _).mono ?_
  rintro e w1 ⟨rfl, hx1⟩
  go_wp2_with fail
  go_ret2
  exact ⟨rfl, (by repeat' (first | (with_reducible exact Ext.refl _) | (with_reducible assumption) | (with_reducible refine Ext.alloc ?_ _) | (with_reducible refine Ext.drewN ?_ _) | (with_reducible refine Ext.drew ?_) | (with_reducible refine Ext.trans ?_ (by assumption))))⟩

/-- what stands after so many numbers -/
def fpre (m y s k : Int) : Nat → List Int
  | 0 => []
  | 1 => enc m.toNat
  | 2 => enc m.toNat ++ enc y.toNat
  | 3 => enc m.toNat ++ enc y.toNat ++ enc s.toNat
  | _ => enc m.toNat ++ enc y.toNat ++ enc s.toNat ++ enc k.toNat
theorem fplain_bytes (m y s k : Int) (t : List Int) (hb : ∀ x ∈ t, 0 ≤ x ∧ x ≤ 255) : ∀ x ∈ fplain m y s k t, 0 ≤ x ∧ x ≤ 255 := by
  intro x hx
  unfold fplain at hx
  simp only [List.mem_append] at hx
  rcases hx with (((h | h) | h) | h) | h | h
  · exact enc_byte _ _ (Nat.le_refl _) _ h
  · exact enc_byte _ _ (Nat.le_refl _) _ h
  · exact enc_byte _ _ (Nat.le_refl _) _ h
  · exact enc_byte _ _ (Nat.le_refl _) _ h
  · exact enc_byte _ _ (Nat.le_refl _) _ h
  · exact hb _ h

set_option maxHeartbeats 2000000 in
theorem frput_ok (m y s k : Int) (v : Value) (t : List Int) (w : World) (h : RdI .u8 w v t) (hb : ∀ x ∈ t, 0 ≤ x ∧ x ≤ 255) (ok : FOk m y s k t.length) :
    Calls Try.prog 31 #[pktV m y s k v] w fun e w' => ∃ v', e = .returned (.tuple #[v', .int .i64 0]) ∧ OwnI .u8 5 w.heap.size w' v' (fbytes m y s k t) ∧ Ext w w' := by
  have hlen : t.length ≤ 128 := ok.2.2.2.2.1
  have hbts : Bt m 0 ∧ Bt y 0 ∧ Bt s 0 ∧ Bt k 0 := ⟨⟨by have := ok.1.1; omega, ok.1.2⟩, ok.2.1, ok.2.2.1, ok.2.2.2.1⟩
  have hl1 : (enc m.toNat).length ≤ 9 := enc_len_le 8 m.toNat (by have := hbts.1; unfold Bt at this; omega)
  have hl2 : (enc y.toNat).length ≤ 9 := enc_len_le 8 y.toNat (by have := hbts.2.1; unfold Bt at this; omega)
  have hl3 : (enc s.toNat).length ≤ 9 := enc_len_le 8 s.toNat (by have := hbts.2.2.1; unfold Bt at this; omega)
  have hl4 : (enc k.toNat).length ≤ 9 := enc_len_le 8 k.toNat (by have := hbts.2.2.2; unfold Bt at this; omega)
  have HL := Lib.hid (And.intro hlen (And.intro hl1 (And.intro hl2 (And.intro hl3 hl4))))
  have HB := Lib.hid hbts
  have HT := Lib.hid h
  have HBB := Lib.hid hb
  obtain ⟨_, sa, sc, rfl, _⟩ := h
  have HC := Lib.hid (fun w => fright m y s k sa sc t.length w true (decide_eq_true ok))
  clear ok hlen hbts hl1 hl2 hl3 hl4 hb
  obtain ⟨v, hv⟩ : ∃ v, v = Value.slice sa t.length sc := ⟨_, rfl⟩
  rw [← hv] at HC HT ⊢
  clear hv
  unfold pktV at HC ⊢
  go_enter Try.func31, Try.ntmps31
  go_wp2_with fail
  refine (HC.out _).mono ?_
  rintro e w1 ⟨rfl, hx1⟩
  have i0 : ∀ w : World, (Instr.index 93 (.agg #[.int .i64 m, .int .i64 y, .int .i64 s, .int .i64 k]) (.int .i64 0)).run Try.prog w = .ok (.int .i64 m) w := fun _ => by kernel_rfl
  have i1 : ∀ w : World, (Instr.index 93 (.agg #[.int .i64 m, .int .i64 y, .int .i64 s, .int .i64 k]) (.int .i64 1)).run Try.prog w = .ok (.int .i64 y) w := fun _ => by kernel_rfl
  have i2 : ∀ w : World, (Instr.index 93 (.agg #[.int .i64 m, .int .i64 y, .int .i64 s, .int .i64 k]) (.int .i64 2)).run Try.prog w = .ok (.int .i64 s) w := fun _ => by kernel_rfl
  have i3 : ∀ w : World, (Instr.index 93 (.agg #[.int .i64 m, .int .i64 y, .int .i64 s, .int .i64 k]) (.int .i64 3)).run Try.prog w = .ok (.int .i64 k) w := fun _ => by kernel_rfl
  have c0 := hx1.cellv (cell_new w #[.int .i64 m, .int .i64 y, .int .i64 s, .int .i64 k, v] 49 (0, 0) (j := 0) rfl)
  have c1 := hx1.cellv (cell_new w #[.int .i64 m, .int .i64 y, .int .i64 s, .int .i64 k, v] 49 (0, 0) (j := 1) rfl)
  have c2 := hx1.cellv (cell_new w #[.int .i64 m, .int .i64 y, .int .i64 s, .int .i64 k, v] 49 (0, 0) (j := 2) rfl)
  have c3 := hx1.cellv (cell_new w #[.int .i64 m, .int .i64 y, .int .i64 s, .int .i64 k, v] 49 (0, 0) (j := 3) rfl)
  have c4 := hx1.cellv (cell_new w #[.int .i64 m, .int .i64 y, .int .i64 s, .int .i64 k, v] 49 (0, 0) (j := 4) rfl)
  have hx : Ext w w1 := (by repeat' (first | (with_reducible exact Ext.refl _) | (with_reducible assumption) | (with_reducible refine Ext.alloc ?_ _) | (with_reducible refine Ext.drewN ?_ _) | (with_reducible refine Ext.drew ?_) | (with_reducible refine Ext.trans ?_ (by assumption))))
  clear hx1
  go_wp2_with fail
  go_loopw [4, 19] (fun vo i wr => ∃ j : Nat, j ≤ 4 ∧ i = .int .i64 j ∧ OwnI .u8 5 w.heap.size wr vo (fpre m y s k j) ∧ Ext w1 wr) (fun _ i _ => 4 - (intOf i).toNat)
  case atStart => exact ⟨0, by omega, rfl, OwnI.nil _ _ _ _, Ext.refl _⟩
  case round =>
    obtain ⟨j, hj, rfl, ho, hx2⟩ := hrel
    have hj5 : j = 0 ∨ j = 1 ∨ j = 2 ∨ j = 3 ∨ j = 4 := by omega
    rcases hj5 with rfl | rfl | rfl | rfl | rfl
    · go_wp2_with fail
      refine (put_any _ _ m _ ho.rd (fits_small (by simp [fpre])) (by have := HB.out.1; unfold Bt at this; omega) (by have := HB.out.1; unfold Bt at this; omega)).mono ?_
      rintro e w2 ⟨v2, rfl, ho2, hx3⟩
      go_wp2_with fail
      go_roundw
      case rel => exact ⟨1, by omega, rfl, ho2.mono (by have := hx.size; have := hx2.size; omega), (by repeat' (first | (with_reducible exact Ext.refl _) | (with_reducible assumption) | (with_reducible refine Ext.alloc ?_ _) | (with_reducible refine Ext.drewN ?_ _) | (with_reducible refine Ext.drew ?_) | (with_reducible refine Ext.trans ?_ (by assumption))))⟩
      case measure => simp [intOf]
    · go_wp2_with fail
      refine (put_any _ _ y _ ho.rd (fits_small (by have := HL.out; simp [fpre]; omega)) (by have := HB.out.2.1; unfold Bt at this; omega) (by have := HB.out.2.1; unfold Bt at this; omega)).mono ?_
      rintro e w2 ⟨v2, rfl, ho2, hx3⟩
      go_wp2_with fail
      go_roundw
      case rel => exact ⟨2, by omega, rfl, ho2.mono (by have := hx.size; have := hx2.size; omega), (by repeat' (first | (with_reducible exact Ext.refl _) | (with_reducible assumption) | (with_reducible refine Ext.alloc ?_ _) | (with_reducible refine Ext.drewN ?_ _) | (with_reducible refine Ext.drew ?_) | (with_reducible refine Ext.trans ?_ (by assumption))))⟩
      case measure => simp [intOf]
    · go_wp2_with fail
      refine (put_any _ _ s _ ho.rd (fits_small (by have := HL.out; simp [fpre]; omega)) (by have := HB.out.2.2.1; unfold Bt at this; omega) (by have := HB.out.2.2.1; unfold Bt at this; omega)).mono ?_
      rintro e w2 ⟨v2, rfl, ho2, hx3⟩
      go_wp2_with fail
      go_roundw
      case rel => exact ⟨3, by omega, rfl, ho2.mono (by have := hx.size; have := hx2.size; omega), (by repeat' (first | (with_reducible exact Ext.refl _) | (with_reducible assumption) | (with_reducible refine Ext.alloc ?_ _) | (with_reducible refine Ext.drewN ?_ _) | (with_reducible refine Ext.drew ?_) | (with_reducible refine Ext.trans ?_ (by assumption))))⟩
      case measure => simp [intOf]
    · go_wp2_with fail
      refine (put_any _ _ k _ ho.rd (fits_small (by have := HL.out; simp [fpre]; omega)) (by have := HB.out.2.2.2; unfold Bt at this; omega) (by have := HB.out.2.2.2; unfold Bt at this; omega)).mono ?_
      rintro e w2 ⟨v2, rfl, ho2, hx3⟩
      go_wp2_with fail
      go_roundw
      case rel => exact ⟨4, by omega, rfl, ho2.mono (by have := hx.size; have := hx2.size; omega), (by repeat' (first | (with_reducible exact Ext.refl _) | (with_reducible assumption) | (with_reducible refine Ext.alloc ?_ _) | (with_reducible refine Ext.drewN ?_ _) | (with_reducible refine Ext.drew ?_) | (with_reducible refine Ext.trans ?_ (by assumption))))⟩
      case measure => simp [intOf]
    · have c4' := hx2.cellv c4
      go_wp2_with fail
      refine (puttext_any _ v _ t _ ho.rd (HT.out.ext (hx.trans hx2)) (fits_small (by have := HL.out; simp [fpre]; omega))).mono ?_
      rintro e w2 ⟨v2, rfl, ho2, hx3⟩
      have hpl : fpre m y s k 4 ++ enc t.length ++ t = fplain m y s k t := by simp [fpre, fplain]
      rw [hpl] at ho2
      have hpn : (fplain m y s k t).length ≤ 1000 := by have := HL.out; have := enc_len_le 8 t.length (by omega); simp [fplain]; omega
      have ho3 := ho2.mono (show w.heap.size ≤ _ by have := hx.size; have := hx2.size; omega)
      clear ho2 ho
      go_wp2_with fail
      refine (fsum _ _ _ ho3.rd (fplain_bytes m y s k t HBB.out) (by omega)).mono ?_
      rintro e w3 ⟨rfl, rfl⟩
      go_wp2_with (at_builtin; refine wpList_append_ints rfl _ _ 24 rfl 5 .u8 0 1 Try.underlying24 bytes_info (by decide) w (by repeat' (first | (with_reducible exact Ext.refl _) | (with_reducible assumption) | (with_reducible refine Ext.alloc ?_ _) | (with_reducible refine Ext.drewN ?_ _) | (with_reducible refine Ext.drew ?_) | (with_reducible refine Ext.trans ?_ (by assumption)))) _ _ rfl (ho3.ext (by repeat' (first | (with_reducible exact Ext.refl _) | (with_reducible assumption) | (with_reducible refine Ext.alloc ?_ _) | (with_reducible refine Ext.drewN ?_ _) | (with_reducible refine Ext.drew ?_) | (with_reducible refine Ext.trans ?_ (by assumption))))) _ _ rfl (RdI.one _ _ _ _) (by unfold Fits; simp; omega) ?_)
      intro v4 w4 ho4 hx4
      go_wp2_with fail
      go_ret2
      exact ⟨_, rfl, ho4, hx4⟩
end Go.Proofs.Ytmkobmkaalfecaa
