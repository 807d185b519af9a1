/-
  frame.Get of a packet's bytes. No condition but that the slice reads.
-/
import Derived.Test.YtmkobmkaalfecaaFrameLastWalk
import Derived.Test.YtmkobmkaalfecaaGetText
import Derived.Test.YtmkobmkaalfecaaRawLaw
namespace Go.Proofs.Ytmkobmkaalfecaa
open Go.RowKit

theorem getT_enc (a t : List Int) (h : t.length ≤ 128) : getT (a ++ (enc t.length ++ t)) a.length 128 = (t, ((a ++ (enc t.length ++ t)).length : Int), 0) := by
  have e := getN_enc a t t.length (by omega)
  unfold getT
  rw [e]
  have hd : (a ++ (enc t.length ++ t)).drop (a.length + (enc t.length).length) = t := by
    rw [← List.append_assoc, ← List.length_append, List.drop_left']
    rfl
  have hl : ((a ++ (enc t.length ++ t)).length : Int) = ((a.length + (enc t.length).length : Nat) : Int) + t.length := by
    simp only [List.length_append]; omega
  simp only
  rw [if_neg (by simp), if_neg (by omega), if_neg (by rw [hl]; omega), hl, Int.toNat_natCast, Int.toNat_natCast, hd, List.take_of_length_le (Nat.le_refl _)]

/-- the number at a place, where it has been got -/
def Zf (j i : Nat) (x : Int) : Value := .int .i64 (if i < j then x else 0)
def qrow (m y s k : Int) (j : Nat) : Array Value := #[Zf j 0 m, Zf j 1 y, Zf j 2 s, Zf j 3 k, .slice none 0 0]

theorem qrow_set0 (m y s k : Int) : (qrow m y s k 0).setIfInBounds 0 (.int .i64 m) = qrow m y s k 1 := by simp [qrow, Zf]
theorem qrow_set1 (m y s k : Int) : (qrow m y s k 1).setIfInBounds 1 (.int .i64 y) = qrow m y s k 2 := by simp [qrow, Zf]
theorem qrow_set2 (m y s k : Int) : (qrow m y s k 2).setIfInBounds 2 (.int .i64 s) = qrow m y s k 3 := by simp [qrow, Zf]
theorem qrow_set3 (m y s k : Int) : (qrow m y s k 3).setIfInBounds 3 (.int .i64 k) = qrow m y s k 4 := by simp [qrow, Zf]

set_option maxRecDepth 100000 in
set_option maxHeartbeats 16000000 in
theorem frget_ok (m y s k : Int) (v : Value) (t : List Int) (w : World) (hb : ∀ x ∈ t, 0 ≤ x ∧ x ≤ 255) (ok : FOk m y s k t.length) (h : RdI .u8 w v (fbytes m y s k t)) :
    Calls Try.prog 36 #[v] w fun e w' => ∃ u, e = .returned (.tuple #[pktV m y s k u, .int .i64 0]) ∧ RdI .u8 w' u t ∧ Ext w w' := by
  have hlen := fplain_len ok
  have HOK := Lib.hid ok
  have HPB := Lib.hid (fplain_bytes m y s k t hb)
  have HBB := Lib.hid (fbytes_byte m y s k t hb)
  have hfb : fbytes m y s k t = fplain m y s k t ++ [ssum (fplain m y s k t)] := rfl
  have HEQ := Lib.hid (show fplain m y s k t = fpre m y s k 4 ++ (enc t.length ++ t) by simp [fplain, fpre])
  have ht128 : t.length ≤ 128 := ok.2.2.2.2.1
  have hG0 : getN (fplain m y s k t) ((fpre m y s k 0).length : Nat) = (m, ((fpre m y s k 1).length : Int), 0) := by
    have := getN_enc [] (enc y.toNat ++ (enc s.toNat ++ (enc k.toNat ++ (enc t.length ++ t)))) m.toNat (by have := ok.1; unfold Bt at this; omega)
    simp only [List.nil_append, List.length_nil, Nat.zero_add] at this
    rw [show fplain m y s k t = enc m.toNat ++ (enc y.toNat ++ (enc s.toNat ++ (enc k.toNat ++ (enc t.length ++ t)))) by simp [fplain]]
    simp only [fpre, List.length_nil]
    rw [this, Int.toNat_of_nonneg (by have := ok.1; unfold Bt at this; omega)]
  have hG1 : getN (fplain m y s k t) ((fpre m y s k 1).length : Nat) = (y, ((fpre m y s k 2).length : Int), 0) := by
    have := getN_enc (enc m.toNat) (enc s.toNat ++ (enc k.toNat ++ (enc t.length ++ t))) y.toNat (by have := ok.2.1; unfold Bt at this; omega)
    rw [show fplain m y s k t = enc m.toNat ++ (enc y.toNat ++ (enc s.toNat ++ (enc k.toNat ++ (enc t.length ++ t)))) by simp [fplain]]
    simp only [fpre, List.length_append]
    rw [this, Int.toNat_of_nonneg (by have := ok.2.1; unfold Bt at this; omega)]
  have hG2 : getN (fplain m y s k t) ((fpre m y s k 2).length : Nat) = (s, ((fpre m y s k 3).length : Int), 0) := by
    have := getN_enc (enc m.toNat ++ enc y.toNat) (enc k.toNat ++ (enc t.length ++ t)) s.toNat (by have := ok.2.2.1; unfold Bt at this; omega)
    rw [show fplain m y s k t = (enc m.toNat ++ enc y.toNat) ++ (enc s.toNat ++ (enc k.toNat ++ (enc t.length ++ t))) by simp [fplain]]
    simp only [fpre, List.length_append] at this ⊢
    rw [this, Int.toNat_of_nonneg (by have := ok.2.2.1; unfold Bt at this; omega)]
  have hG3 : getN (fplain m y s k t) ((fpre m y s k 3).length : Nat) = (k, ((fpre m y s k 4).length : Int), 0) := by
    have := getN_enc (enc m.toNat ++ enc y.toNat ++ enc s.toNat) (enc t.length ++ t) k.toNat (by have := ok.2.2.2.1; unfold Bt at this; omega)
    rw [show fplain m y s k t = (enc m.toNat ++ enc y.toNat ++ enc s.toNat) ++ (enc k.toNat ++ (enc t.length ++ t)) by simp [fplain]]
    simp only [fpre, List.length_append] at this ⊢
    rw [this, Int.toNat_of_nonneg (by have := ok.2.2.2.1; unfold Bt at this; omega)]
  have hG4 : getT (fplain m y s k t) ((fpre m y s k 4).length : Nat) 128 = (t, ((fplain m y s k t).length : Int), 0) := by
    rw [HEQ.out]; exact getT_enc _ _ ht128
  have HG0 := Lib.hid (show getN (fplain m y s k t) 0 = (m, ((fpre m y s k 1).length : Int), 0) from hG0)
  have HG1 := Lib.hid hG1
  have HG2 := Lib.hid hG2
  have HG3 := Lib.hid hG3
  have HG4 := Lib.hid hG4
  obtain ⟨P1, hP1⟩ : ∃ P, P = (fpre m y s k 1).length := ⟨_, rfl⟩
  obtain ⟨P2, hP2⟩ : ∃ P, P = (fpre m y s k 2).length := ⟨_, rfl⟩
  obtain ⟨P3, hP3⟩ : ∃ P, P = (fpre m y s k 3).length := ⟨_, rfl⟩
  obtain ⟨P4, hP4⟩ : ∃ P, P = (fpre m y s k 4).length := ⟨_, rfl⟩
  have HP1 := Lib.hid hP1
  have HP2 := Lib.hid hP2
  have HP3 := Lib.hid hP3
  have HP4 := Lib.hid hP4
  rw [← hP1] at HG0 HG1
  rw [← hP2] at HG1 HG2
  rw [← hP3] at HG2 HG3
  rw [← hP4] at HG3 HG4
  rw [hfb] at h HBB
  obtain ⟨pl, hpl⟩ : ∃ pl, pl = fplain m y s k t := ⟨_, rfl⟩
  rw [← hpl] at h HBB HPB HG0 HG1 HG2 HG3 HG4 hlen
  clear hpl hG0 hG1 hG2 hG3 hG4 hP1 hP2 hP3 hP4 hfb ok HEQ hb
  obtain ⟨N, hN⟩ : ∃ N, N = pl.length := ⟨_, rfl⟩
  rw [← hN] at HG4 hlen
  obtain ⟨a, c, rfl, hc, hm, hn, hs⟩ := h.parts
  have hLn : (pl ++ [ssum pl]).length = N + 1 := by rw [hN]; simp
  obtain ⟨b, o, rfl, hbl, hcell⟩ := hs (by simp)
  have hcl := hcell N (by omega)
  have hgN : (pl ++ [ssum pl]).getD N 0 = ssum pl := by rw [hN, List.getD_eq_getElem?_getD]; simp
  have htk : (pl ++ [ssum pl]).take N = pl := by rw [hN]; simp
  have hrd := h.take N (by omega)
  rw [htk] at hrd
  rw [hgN] at hcl
  rw [hLn] at hc ⊢
  obtain ⟨x, hx⟩ : ∃ x, x = ssum pl := ⟨_, rfl⟩
  have HS := Lib.hid (fun w h => fsum (.slice (some ⟨b, o, none⟩) N c) pl w h HPB.out (by omega))
  rw [← hx] at hcl HS
  have HT := Lib.hid hrd
  have hxs : (x != x) = false := by simp
  have hn1 : (N : Int) < ((N + 1 : Nat) : Int) := by omega
  have hn3 : (N : Int) ≤ c := by omega
  have HN := Lib.hid hN
  clear hm hn hs hcell hx h hN hLn hgN htk hrd
  unfold pktV
  go_enter Try.func36, Try.ntmps36
  go_wp2_with fail
  apply wp_scope_straight
  go_wp2_with fail
  go_quiet ((go_at_call 59; exact Calls.quiet_of_same (v := .int .u8 x) ((HS.out _ (HT.out.ext (by repeat' (first | (with_reducible exact Ext.refl _) | (with_reducible assumption) | (with_reducible refine Ext.alloc ?_ _) | (with_reducible refine Ext.drewN ?_ _) | (with_reducible refine Ext.drew ?_) | (with_reducible refine Ext.trans ?_ (by assumption)))))).mono fun e w' h => ⟨h.1, h.2.symm⟩)))
  have hsz : (w.alloc (.cells #[.int .i64 0, .int .i64 0, .int .i64 0, .int .i64 0, .slice none 0 0] 49)).heap.size = w.heap.size + 1 := Array.size_push _
  have hX : Ext w (((w.alloc (.cells #[.int .i64 0, .int .i64 0, .int .i64 0, .int .i64 0, .slice none 0 0] 49)).alloc (.cells #[.int .i64 0, .int .i64 0, .int .i64 0, .int .i64 0, .slice none 0 0] 49)).drewN nq) := (by repeat' (first | (with_reducible exact Ext.refl _) | (with_reducible assumption) | (with_reducible refine Ext.alloc ?_ _) | (with_reducible refine Ext.drewN ?_ _) | (with_reducible refine Ext.drew ?_) | (with_reducible refine Ext.trans ?_ (by assumption))))
  have hp0 : (((w.alloc (.cells #[.int .i64 0, .int .i64 0, .int .i64 0, .int .i64 0, .slice none 0 0] 49)).alloc (.cells #[.int .i64 0, .int .i64 0, .int .i64 0, .int .i64 0, .slice none 0 0] 49)).drewN nq).heap[w.heap.size]? = some (.cells #[.int .i64 0, .int .i64 0, .int .i64 0, .int .i64 0, .slice none 0 0] 49) :=
    (Below.block (show Ext (w.alloc (.cells #[.int .i64 0, .int .i64 0, .int .i64 0, .int .i64 0, .slice none 0 0] 49)) _ from (by repeat' (first | (with_reducible exact Ext.refl _) | (with_reducible assumption) | (with_reducible refine Ext.alloc ?_ _) | (with_reducible refine Ext.drewN ?_ _) | (with_reducible refine Ext.drew ?_) | (with_reducible refine Ext.trans ?_ (by assumption))))) _ (by rw [hsz]; omega)).trans (heap_alloc_new w _)
  have hq0 : (((w.alloc (.cells #[.int .i64 0, .int .i64 0, .int .i64 0, .int .i64 0, .slice none 0 0] 49)).alloc (.cells #[.int .i64 0, .int .i64 0, .int .i64 0, .int .i64 0, .slice none 0 0] 49)).drewN nq).heap[w.heap.size + 1]? = some (.cells (qrow m y s k 0) 49) := by
    rw [show qrow m y s k 0 = #[.int .i64 0, .int .i64 0, .int .i64 0, .int .i64 0, .slice none 0 0] by simp [qrow, Zf], ← hsz]
    exact (Below.block (show Ext ((w.alloc (.cells #[.int .i64 0, .int .i64 0, .int .i64 0, .int .i64 0, .slice none 0 0] 49)).alloc (.cells #[.int .i64 0, .int .i64 0, .int .i64 0, .int .i64 0, .slice none 0 0] 49)) _ from (by repeat' (first | (with_reducible exact Ext.refl _) | (with_reducible assumption) | (with_reducible refine Ext.alloc ?_ _) | (with_reducible refine Ext.drewN ?_ _) | (with_reducible refine Ext.drew ?_) | (with_reducible refine Ext.trans ?_ (by assumption))))) _ (by rw [show ((w.alloc (.cells #[.int .i64 0, .int .i64 0, .int .i64 0, .int .i64 0, .slice none 0 0] 49)).alloc (.cells #[.int .i64 0, .int .i64 0, .int .i64 0, .int .i64 0, .slice none 0 0] 49)).heap.size = (w.alloc (.cells #[.int .i64 0, .int .i64 0, .int .i64 0, .int .i64 0, .slice none 0 0] 49)).heap.size + 1 from Array.size_push _]; omega)).trans (heap_alloc_new _ _)
  generalize (((w.alloc (.cells #[.int .i64 0, .int .i64 0, .int .i64 0, .int .i64 0, .slice none 0 0] 49)).alloc (.cells #[.int .i64 0, .int .i64 0, .int .i64 0, .int .i64 0, .slice none 0 0] 49)).drewN nq) = W2 at *
  clear hsz
  obtain ⟨p, hp⟩ : ∃ p, p = w.heap.size := ⟨_, rfl⟩
  have hwp : w.heap.size ≤ p := by omega
  rw [← hp] at hp0 hq0 ⊢
  obtain ⟨q, hq⟩ : ∃ q, q = p + 1 := ⟨_, rfl⟩
  have hwq : w.heap.size ≤ q := by omega
  have hpq : p ≠ q := by omega
  rw [← hq] at hq0 ⊢
  clear hp hq
  have i0 : ∀ w : World, (Instr.index 96 (.agg #[.pointer (some ⟨q, 0, none⟩), .pointer (some ⟨q, 1, none⟩), .pointer (some ⟨q, 2, none⟩), .pointer (some ⟨q, 3, none⟩)]) (.int .i64 0)).run Try.prog w = .ok (.pointer (some ⟨q, 0, none⟩)) w := fun _ => by kernel_rfl
  have i1 : ∀ w : World, (Instr.index 96 (.agg #[.pointer (some ⟨q, 0, none⟩), .pointer (some ⟨q, 1, none⟩), .pointer (some ⟨q, 2, none⟩), .pointer (some ⟨q, 3, none⟩)]) (.int .i64 1)).run Try.prog w = .ok (.pointer (some ⟨q, 1, none⟩)) w := fun _ => by kernel_rfl
  have i2 : ∀ w : World, (Instr.index 96 (.agg #[.pointer (some ⟨q, 0, none⟩), .pointer (some ⟨q, 1, none⟩), .pointer (some ⟨q, 2, none⟩), .pointer (some ⟨q, 3, none⟩)]) (.int .i64 2)).run Try.prog w = .ok (.pointer (some ⟨q, 2, none⟩)) w := fun _ => by kernel_rfl
  have i3 : ∀ w : World, (Instr.index 96 (.agg #[.pointer (some ⟨q, 0, none⟩), .pointer (some ⟨q, 1, none⟩), .pointer (some ⟨q, 2, none⟩), .pointer (some ⟨q, 3, none⟩)]) (.int .i64 3)).run Try.prog w = .ok (.pointer (some ⟨q, 3, none⟩)) w := fun _ => by kernel_rfl
  go_wp2_with fail
  go_loopw [5, 6, 32] (fun at_ e i wr => ∃ (j P : Nat) (er : Int), j ≤ 4 ∧ i = .int .i64 j ∧ at_ = .int .i64 P ∧ P = (fpre m y s k j).length ∧ e = .int .i64 er ∧ wr.heap[q]? = some (.cells (qrow m y s k j) 49) ∧ wr.heap[p]? = some (.cells #[.int .i64 0, .int .i64 0, .int .i64 0, .int .i64 0, .slice none 0 0] 49) ∧ Ext w wr) (fun _ _ i _ => 4 - (intOf i).toNat)
  case atStart => exact ⟨0, 0, 2, by omega, rfl, rfl, rfl, rfl, hq0, hp0, hX⟩
  case round =>
    obtain ⟨j, P, er, hj, rfl, rfl, hP, rfl, hqr, hpr, hxr⟩ := hrel
    clear hq0 hp0 hX
    have HQR := Lib.hid hqr
    have HPR := Lib.hid hpr
    have hj5 : j = 0 ∨ j = 1 ∨ j = 2 ∨ j = 3 ∨ j = 4 := by omega
    rcases hj5 with rfl | rfl | rfl | rfl | rfl
    · obtain rfl : P = 0 := hP
      have d := cell_of_row wr q 0 _ _ _ hqr
      have fz := frozen_row hqr 0
      simp only [qrow, Zf, List.getElem?_toArray, List.getElem?_cons_zero, List.getElem?_cons_succ] at d
      clear hqr hpr
      go_wp2_with fail
      refine (get_any _ pl 0 _ (HT.out.ext hxr) HPB.out (by have := HN.out; omega)).mono ?_
      rintro e w1 ⟨rfl, rfl⟩
      rw [HG0.out]
      dsimp only
      go_wp2_with fail
      go_roundw
      case rel => exact ⟨1, P1, 0, by omega, rfl, rfl, HP1.out, rfl, by rw [heap_set HQR.out, qrow_set0], (Below.heap_setCell _ _ _ _ hpq).trans HPR.out, Below.setCell (p := ⟨q, 0, none⟩) hxr hwq _⟩
      case measure => simp [intOf]
    · have hP' : P1 = P := HP1.out.trans hP.symm
      subst hP'
      clear hP
      have d := cell_of_row wr q 1 _ _ _ hqr
      have fz := frozen_row hqr 1
      simp only [qrow, Zf, List.getElem?_toArray, List.getElem?_cons_zero, List.getElem?_cons_succ] at d
      clear hqr hpr
      go_wp2_with fail
      refine (get_any _ pl P1 _ (HT.out.ext hxr) HPB.out (by have := HN.out; omega)).mono ?_
      rintro e w1 ⟨rfl, rfl⟩
      rw [HG1.out]
      dsimp only
      go_wp2_with fail
      go_roundw
      case rel => exact ⟨2, P2, 0, by omega, rfl, rfl, HP2.out, rfl, by rw [heap_set HQR.out, qrow_set1], (Below.heap_setCell _ _ _ _ hpq).trans HPR.out, Below.setCell (p := ⟨q, 1, none⟩) hxr hwq _⟩
      case measure => simp [intOf]
    · have hP' : P2 = P := HP2.out.trans hP.symm
      subst hP'
      clear hP
      have d := cell_of_row wr q 2 _ _ _ hqr
      have fz := frozen_row hqr 2
      simp only [qrow, Zf, List.getElem?_toArray, List.getElem?_cons_zero, List.getElem?_cons_succ] at d
      clear hqr hpr
      go_wp2_with fail
      refine (get_any _ pl P2 _ (HT.out.ext hxr) HPB.out (by have := HN.out; omega)).mono ?_
      rintro e w1 ⟨rfl, rfl⟩
      rw [HG2.out]
      dsimp only
      go_wp2_with fail
      go_roundw
      case rel => exact ⟨3, P3, 0, by omega, rfl, rfl, HP3.out, rfl, by rw [heap_set HQR.out, qrow_set2], (Below.heap_setCell _ _ _ _ hpq).trans HPR.out, Below.setCell (p := ⟨q, 2, none⟩) hxr hwq _⟩
      case measure => simp [intOf]
    · have hP' : P3 = P := HP3.out.trans hP.symm
      subst hP'
      clear hP
      have d := cell_of_row wr q 3 _ _ _ hqr
      have fz := frozen_row hqr 3
      simp only [qrow, Zf, List.getElem?_toArray, List.getElem?_cons_zero, List.getElem?_cons_succ] at d
      clear hqr hpr
      go_wp2_with fail
      refine (get_any _ pl P3 _ (HT.out.ext hxr) HPB.out (by have := HN.out; omega)).mono ?_
      rintro e w1 ⟨rfl, rfl⟩
      rw [HG3.out]
      dsimp only
      go_wp2_with fail
      go_roundw
      case rel => exact ⟨4, P4, 0, by omega, rfl, rfl, HP4.out, rfl, by rw [heap_set HQR.out, qrow_set3], (Below.heap_setCell _ _ _ _ hpq).trans HPR.out, Below.setCell (p := ⟨q, 3, none⟩) hxr hwq _⟩
      case measure => simp [intOf]
    · have hP' : P4 = P := HP4.out.trans hP.symm
      subst hP'
      clear hP
      have d := cell_of_row wr q 4 _ _ _ hqr
      have fz := frozen_row hqr 4
      simp only [qrow, Zf, List.getElem?_toArray, List.getElem?_cons_zero, List.getElem?_cons_succ] at d
      clear hqr hpr
      go_wp2_with fail
      refine (gettext_any _ pl P4 128 _ (HT.out.ext hxr) HPB.out (fits_small (by have := HN.out; omega))).mono ?_
      rintro e w1 ⟨v1, rfl, ho1, hx1⟩
      rw [HG4.out] at ho1 ⊢
      have hqr1 : w1.heap[q]? = some (.cells #[.int .i64 m, .int .i64 y, .int .i64 s, .int .i64 k, .slice none 0 0] 49) := by
        rw [Below.block hx1 _ (Array.getElem?_eq_some_iff.1 HQR.out).1, HQR.out]; simp [qrow, Zf]
      have hpr1 := (Below.block hx1 _ (Array.getElem?_eq_some_iff.1 HPR.out).1).trans HPR.out
      have HO1 := Lib.hid ho1
      obtain ⟨_, a1, c1, hv1, _⟩ := ho1.rd
      subst hv1
      have d0 : w1.cell? ⟨q, 0, none⟩ = some (.int .i64 m) := cell_of_row w1 q 0 _ _ _ hqr1
      have d1 : w1.cell? ⟨q, 1, none⟩ = some (.int .i64 y) := cell_of_row w1 q 1 _ _ _ hqr1
      have d2 : w1.cell? ⟨q, 2, none⟩ = some (.int .i64 s) := cell_of_row w1 q 2 _ _ _ hqr1
      have d3 : w1.cell? ⟨q, 3, none⟩ = some (.int .i64 k) := cell_of_row w1 q 3 _ _ _ hqr1
      have d4 : w1.cell? ⟨q, 4, none⟩ = some (.slice none 0 0) := cell_of_row w1 q 4 _ _ _ hqr1
      have fz4 := frozen_row hqr1 4
      have hqlt : q < wr.heap.size := (Array.getElem?_eq_some_iff.1 HQR.out).1
      have hX1 : Ext w w1 := hxr.trans hx1
      have HF := Lib.hid (fun w => fright m y s k a1 c1 t.length w true (decide_eq_true HOK.out))
      unfold pktV at HF
      clear d fz ho1
      go_wp2_with fail
      have hq2 : (w1.setCell ⟨q, 4, none⟩ (.slice a1 t.length c1)).heap[q]? = some (.cells #[.int .i64 m, .int .i64 y, .int .i64 s, .int .i64 k, .slice a1 t.length c1] 49) := heap_set (o := 4) hqr1 _
      have hp2 : (w1.setCell ⟨q, 4, none⟩ (.slice a1 t.length c1)).heap[p]? = _ := (Below.heap_setCell _ _ _ _ hpq).trans hpr1
      have hX2 : Ext w (w1.setCell ⟨q, 4, none⟩ (.slice a1 t.length c1)) := Below.setCell (p := ⟨q, 4, none⟩) hX1 hwq _
      have HO2 := Lib.hid (HO1.out.chg (S := [q]) (w' := w1.setCell ⟨q, 4, none⟩ (.slice a1 t.length c1)) (by repeat' (first | (with_reducible exact Chg.refl _ _) | (with_reducible assumption) | (with_reducible refine Chg.drewN ?_ _) | (with_reducible refine Chg.drew ?_) | (with_reducible refine Chg.alloc ?_ _) | (with_reducible refine Chg.setCell ?_ (.inl (by simp)) _) | (with_reducible refine Chg.trans ?_ (by assumption)) | (with_reducible refine Chg.ext ?_ (by assumption)))) (by simp; exact hqlt))
      generalize (w1.setCell ⟨q, 4, none⟩ (.slice a1 t.length c1)) = w2 at *
      clear d0 d1 d2 d3 d4 fz4 hqr1 hpr1 hX1
      refine (HF.out _).mono ?_
      rintro e w3 ⟨rfl, hx3⟩
      have hq3 := (Below.block hx3 _ (Array.getElem?_eq_some_iff.1 hq2).1).trans hq2
      have hp3 := (Below.block hx3 _ (Array.getElem?_eq_some_iff.1 hp2).1).trans hp2
      have d0 : w3.cell? ⟨q, 0, none⟩ = some (.int .i64 m) := cell_of_row w3 q 0 _ _ _ hq3
      have d1 : w3.cell? ⟨q, 1, none⟩ = some (.int .i64 y) := cell_of_row w3 q 1 _ _ _ hq3
      have d2 : w3.cell? ⟨q, 2, none⟩ = some (.int .i64 s) := cell_of_row w3 q 2 _ _ _ hq3
      have d3 : w3.cell? ⟨q, 3, none⟩ = some (.int .i64 k) := cell_of_row w3 q 3 _ _ _ hq3
      have d4 : w3.cell? ⟨q, 4, none⟩ = some (.slice a1 t.length c1) := cell_of_row w3 q 4 _ _ _ hq3
      have e0 : w3.cell? ⟨p, 0, none⟩ = some (.int .i64 0) := cell_of_row w3 p 0 _ _ _ hp3
      have e1 : w3.cell? ⟨p, 1, none⟩ = some (.int .i64 0) := cell_of_row w3 p 1 _ _ _ hp3
      have e2 : w3.cell? ⟨p, 2, none⟩ = some (.int .i64 0) := cell_of_row w3 p 2 _ _ _ hp3
      have e3 : w3.cell? ⟨p, 3, none⟩ = some (.int .i64 0) := cell_of_row w3 p 3 _ _ _ hp3
      have e4 : w3.cell? ⟨p, 4, none⟩ = some (.slice none 0 0) := cell_of_row w3 p 4 _ _ _ hp3
      have fz0 := frozen_row hp3 0
      have fz1 := frozen_row hp3 1
      have fz2 := frozen_row hp3 2
      have fz3 := frozen_row hp3 3
      have fz4 := frozen_row hp3 4
      have hX3 : Ext w w3 := hX2.trans hx3
      have hplt : p < wr.heap.size := (Array.getElem?_eq_some_iff.1 HPR.out).1
      have HO3 := Lib.hid (HO2.out.ext hx3)
      clear hx1 hx3 hX2
      go_wp2_with fail
      rw [Exit.noGoto_ret]
      refine bodyPost_ret (results_row_tmp rfl _ _ p _ _ _ _ rfl (fillp hp3 _ _ _ _ _) Try.underlying49 rfl pkt_info) rfl ?_
      refine ⟨.slice a1 t.length c1, rfl, ?_, ?_⟩
      · exact (HO3.out.chg (S := [p]) (by repeat' (first | (with_reducible exact Chg.refl _ _) | (with_reducible assumption) | (with_reducible refine Chg.drewN ?_ _) | (with_reducible refine Chg.drew ?_) | (with_reducible refine Chg.alloc ?_ _) | (with_reducible refine Chg.setCell ?_ (.inl (by simp)) _) | (with_reducible refine Chg.trans ?_ (by assumption)) | (with_reducible refine Chg.ext ?_ (by assumption)))) (by simp; exact hplt)).rd
      · exact Below.setCell (Below.setCell (Below.setCell (Below.setCell (Below.setCell hX3 hwp _) hwp _) hwp _) hwp _) hwp _
end Go.Proofs.Ytmkobmkaalfecaa
