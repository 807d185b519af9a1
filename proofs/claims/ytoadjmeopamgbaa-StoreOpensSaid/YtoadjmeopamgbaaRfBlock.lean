/-
  gradineref06.Block: a block's sector, as the store reads it. No condition but that the bytes read.
-/
import Derived.Test.YtoadjmeopamgbaaRgText
import Derived.Test.YtoadjmeopamgbaaStLong
namespace Go.Proofs.Ytoadjmeopamgbaa
open Go.RowKit

section
variable {S : Nat} {l : List Int}
theorem getT_le {p m : Int} (h : (getT l p m).2.2 = 0) : (getT l p m).2.1 ≤ l.length := by
  unfold getT at h ⊢
  by_cases h0 : (getN l p).2.2 ≠ 0
  · rw [if_pos h0] at h; exact absurd h h0
  · rw [if_neg h0] at h ⊢
    by_cases h1 : m < (getN l p).1
    · rw [if_pos h1] at h; cases h
    · rw [if_neg h1] at h ⊢
      by_cases h2 : (l.length : Int) - (getN l p).2.1 < (getN l p).1
      · rw [if_pos h2] at h; cases h
      · rw [if_neg h2]; show (getN l p).2.1 + (getN l p).1 ≤ _; omega
theorem blk_bad1 (h : (getN l 0).2.2 ≠ 0) : sBlk S l = (0, List.replicate S 0) := by
  unfold sBlk rdNum rdText
  rw [if_neg]
  rintro ⟨h1, _⟩
  simp [h] at h1
theorem blk_bad2 (h : 1000 < (getN l 0).1) : sBlk S l = (0, List.replicate S 0) := by
  unfold sBlk rdNum
  rw [if_neg]
  rintro ⟨_, h1⟩
  simp at h1
  omega
theorem blk_bad3 (h : ¬ ((getT l (getN l 0).2.1 S).2.2 = 0 ∧ (getT l (getN l 0).2.1 S).1.length = S ∧ (getT l (getN l 0).2.1 S).2.1 = l.length)) : sBlk S l = (0, List.replicate S 0) := by
  unfold sBlk rdNum rdText
  rw [if_neg]
  rintro ⟨h1, _⟩
  simp only [if_true] at h1
  split at h1
  · simp only [decide_eq_true_eq] at h1
    exact h ⟨h1.1, by omega, h1.2.2⟩
  · cases h1
theorem blk_good (h0 : (getN l 0).2.2 = 0) (hn : ¬ 1000 < (getN l 0).1) (h : (getT l (getN l 0).2.1 S).2.2 = 0 ∧ (getT l (getN l 0).2.1 S).1.length = S ∧ (getT l (getN l 0).2.1 S).2.1 = l.length) : sBlk S l = ((getN l 0).1, (getT l (getN l 0).2.1 S).1) := by
  unfold sBlk rdNum rdText
  simp only [if_true, h0, decide_true]
  rw [if_pos]
  exact ⟨decide_eq_true ⟨h.1, by omega, h.2.2⟩, by omega⟩
end

set_option maxRecDepth 100000 in
set_option maxHeartbeats 4000000 in
theorem rblock (v : Value) (l : List Int) (S : Nat) (w : World) (h : RdI .u8 w v l) (hb : ∀ x ∈ l, 0 ≤ x ∧ x ≤ 255) (hl : l.length ≤ 100000) (hS : S ≤ 64) :
    Calls Try.prog 21 #[v, .int .i64 S] w fun e w' => ∃ vt, e = .returned (.tuple #[.int .i64 (sBlk S l).1, vt]) ∧ RdI .u8 w' vt (sBlk S l).2 ∧ Ext w w' := by
  have HG := Lib.hid (fun w' (hx : Ext w w') => rget_any v l 0 w' (h.ext hx) hb (by omega))
  have HT := Lib.hid (fun w' (hx : Ext w w') => rgettext v l (getN l 0).2.1 S w' (h.ext hx) hb hl)
  have HLE := Lib.hid (@getT_le l (getN l 0).2.1 S)
  have HB1 := Lib.hid (@blk_bad1 S l)
  have HB2 := Lib.hid (@blk_bad2 S l)
  have HB3 := Lib.hid (@blk_bad3 S l)
  have HB4 := Lib.hid (@blk_good S l)
  obtain ⟨R, hR⟩ : ∃ R, R = sBlk S l := ⟨_, rfl⟩
  rw [← hR] at HB1 HB2 HB3 HB4 ⊢
  obtain ⟨T, hT⟩ : ∃ T, T = (getT l (getN l 0).2.1 S).1 := ⟨_, rfl⟩
  obtain ⟨nx, hnx⟩ : ∃ T, T = (getT l (getN l 0).2.1 S).2.1 := ⟨_, rfl⟩
  obtain ⟨e2, he2⟩ : ∃ T, T = (getT l (getN l 0).2.1 S).2.2 := ⟨_, rfl⟩
  rw [← hT, ← hnx, ← he2] at HT
  rw [← hT, ← hnx, ← he2] at HB3
  rw [← hT, ← hnx, ← he2] at HB4
  rw [← hnx, ← he2] at HLE
  clear hT hnx he2
  obtain ⟨n, hn⟩ : ∃ n, n = (getN l 0).1 := ⟨_, rfl⟩
  obtain ⟨f, hfr⟩ : ∃ f, f = (getN l 0).2.1 := ⟨_, rfl⟩
  obtain ⟨e, he⟩ : ∃ e, e = (getN l 0).2.2 := ⟨_, rfl⟩
  rw [← hn, ← hfr, ← he] at HG
  rw [← hfr] at HT
  rw [← he] at HB1
  rw [← hn] at HB2
  rw [← hn, ← he] at HB4
  have HMK := make8 S hS
  have HOZ := Lib.hid (fun (w' : World) => own_zeros S w' (base := 0) (by omega) hS)
  clear hn hfr he hR hb
  obtain ⟨a, c, rfl, _, _, _, _⟩ := h.parts
  obtain ⟨L, hL⟩ : ∃ L, L = l.length := ⟨_, rfl⟩
  rw [← hL] at HLE HB3 HB4 HG HT hl ⊢
  clear h hL
  go_enter Try.func21, Try.ntmps21
  go_wp2_with fail
  refine (HG.out _ (Ext.refl _)).mono ?_
  rintro e1 w1 ⟨rfl, hx1⟩
  go_upto_region 2 with fail
  have hxA : Ext w1 (w1.alloc (.cells #[.int .i64 n, .slice none 0 0, .int .i64 f, .int .i64 e] 87)) := (Ext.refl w1).alloc _
  have y0 := cell_new w1 #[.int .i64 n, .slice none 0 0, .int .i64 f, .int .i64 e] 87 (0, 0) (j := 0) rfl
  have y2 := cell_new w1 #[.int .i64 n, .slice none 0 0, .int .i64 f, .int .i64 e] 87 (0, 0) (j := 2) rfl
  have y3 := cell_new w1 #[.int .i64 n, .slice none 0 0, .int .i64 f, .int .i64 e] 87 (0, 0) (j := 3) rfl
  generalize (w1.alloc (.cells #[.int .i64 n, .slice none 0 0, .int .i64 f, .int .i64 e] 87)) = w2 at *
  obtain ⟨q, hq⟩ : ∃ q, q = w1.heap.size := ⟨_, rfl⟩
  rw [← hq] at y0 y2 y3 ⊢
  clear hq
  have hxB := hx1.trans hxA
  clear hx1 hxA
  by_cases h0 : e = 0
  case neg =>
    have hb0 : (e != 0) = true := by rw [bne_iff_ne]; exact h0
    obtain rfl := HB1.out h0
    clear h0
    go_wp2_with fail
    go_region
    go_wp2_with fail
    go_ret2
    exact ⟨_, rfl, (HOZ.out w2).rd.ext ((Ext.refl _).drew), hxB.trans (by repeat' (first | (with_reducible exact Ext.refl _) | (with_reducible assumption) | (with_reducible refine Ext.alloc ?_ _) | (with_reducible refine Ext.drewN ?_ _) | (with_reducible refine Ext.drew ?_) | (with_reducible refine Ext.trans ?_ (by assumption))))⟩
  have hb0 : (e != 0) = false := by rw [h0]; rfl
  by_cases h1 : 1000 < n
  case pos =>
    obtain rfl := HB2.out h1
    clear h0
    go_wp2_with fail
    go_region
    go_wp2_with fail
    go_ret2
    exact ⟨_, rfl, (HOZ.out w2).rd.ext ((Ext.refl _).drew), hxB.trans (by repeat' (first | (with_reducible exact Ext.refl _) | (with_reducible assumption) | (with_reducible refine Ext.alloc ?_ _) | (with_reducible refine Ext.drewN ?_ _) | (with_reducible refine Ext.drew ?_) | (with_reducible refine Ext.trans ?_ (by assumption))))⟩
  subst h0
  have HT2 := Lib.hid (HT.out w2 hxB)
  have HXB := Lib.hid hxB
  clear hxB
  go_wp2_with fail
  refine HT2.out.mono ?_
  rintro e3 w3 ⟨vt, rfl, ho, hx3⟩
  have HO := Lib.hid ho.rd
  obtain ⟨at9, ct9, rfl, _, _, _, _⟩ := ho.rd.parts
  obtain ⟨nt, hnt⟩ : ∃ n, n = T.length := ⟨_, rfl⟩
  rw [← hnt] at HB3 HB4 HO ⊢
  clear ho hnt
  replace y0 := hx3.cellv y0
  have hX3 := HXB.out.trans hx3
  clear hx3 y2 y3
  go_upto_region 5 with fail
  have hxC : Ext w3 (w3.alloc (.cells #[.int .i64 0, .slice at9 nt ct9, .int .i64 nx, .int .i64 e2] 87)) := (Ext.refl w3).alloc _
  have z1 := cell_new w3 #[.int .i64 0, .slice at9 nt ct9, .int .i64 nx, .int .i64 e2] 87 (0, 0) (j := 1) rfl
  have z2 := cell_new w3 #[.int .i64 0, .slice at9 nt ct9, .int .i64 nx, .int .i64 e2] 87 (0, 0) (j := 2) rfl
  have z3 := cell_new w3 #[.int .i64 0, .slice at9 nt ct9, .int .i64 nx, .int .i64 e2] 87 (0, 0) (j := 3) rfl
  generalize (w3.alloc (.cells #[.int .i64 0, .slice at9 nt ct9, .int .i64 nx, .int .i64 e2] 87)) = w4 at *
  obtain ⟨q2, hq2⟩ : ∃ q, q = w3.heap.size := ⟨_, rfl⟩
  rw [← hq2] at z1 z2 z3 ⊢
  clear hq2
  replace y0 := hxC.cellv y0
  have HO4 := Lib.hid (HO.out.ext hxC)
  have hX4 := hX3.trans hxC
  clear hX3 hxC HO
  by_cases g0 : e2 = 0
  case neg =>
    have hb1 : (e2 != 0) = true := by rw [bne_iff_ne]; exact g0
    obtain rfl := HB3.out (fun h => g0 h.1)
    clear g0
    go_wp2_with fail
    go_region
    go_wp2_with fail
    go_ret2
    exact ⟨_, rfl, (HOZ.out w4).rd.ext ((Ext.refl _).drew), hX4.trans (by repeat' (first | (with_reducible exact Ext.refl _) | (with_reducible assumption) | (with_reducible refine Ext.alloc ?_ _) | (with_reducible refine Ext.drewN ?_ _) | (with_reducible refine Ext.drew ?_) | (with_reducible refine Ext.trans ?_ (by assumption))))⟩
  have hb1 : (e2 != 0) = false := by rw [g0]; rfl
  by_cases g1 : nt = S
  case neg =>
    have hb2 : ((nt : Int) != (S : Int)) = true := by rw [bne_iff_ne]; omega
    obtain rfl := HB3.out (fun h => g1 h.2.1)
    clear g0 g1
    go_wp2_with fail
    go_region
    go_wp2_with fail
    go_ret2
    exact ⟨_, rfl, (HOZ.out w4).rd.ext ((Ext.refl _).drew), hX4.trans (by repeat' (first | (with_reducible exact Ext.refl _) | (with_reducible assumption) | (with_reducible refine Ext.alloc ?_ _) | (with_reducible refine Ext.drewN ?_ _) | (with_reducible refine Ext.drew ?_) | (with_reducible refine Ext.trans ?_ (by assumption))))⟩
  have hb2 : ((nt : Int) != (S : Int)) = false := by rw [g1]; simp
  by_cases g2 : nx < (L : Int)
  case pos =>
    obtain rfl := HB3.out (fun h => by have := h.2.2; omega)
    clear g0 g1
    go_wp2_with fail
    go_region
    go_wp2_with fail
    go_ret2
    exact ⟨_, rfl, (HOZ.out w4).rd.ext ((Ext.refl _).drew), hX4.trans (by repeat' (first | (with_reducible exact Ext.refl _) | (with_reducible assumption) | (with_reducible refine Ext.alloc ?_ _) | (with_reducible refine Ext.drewN ?_ _) | (with_reducible refine Ext.drew ?_) | (with_reducible refine Ext.trans ?_ (by assumption))))⟩
  obtain rfl := HB4.out (by trivial) h1 ⟨g0, g1, by have := HLE.out g0; omega⟩
  clear g0 g1
  go_wp2_with fail
  go_quiet (fail)
  go_wp2_with fail
  go_ret2
  exact ⟨_, rfl, HO4.out.ext (by repeat' (first | (with_reducible exact Ext.refl _) | (with_reducible assumption) | (with_reducible refine Ext.alloc ?_ _) | (with_reducible refine Ext.drewN ?_ _) | (with_reducible refine Ext.drew ?_) | (with_reducible refine Ext.trans ?_ (by assumption)))), hX4.trans (by repeat' (first | (with_reducible exact Ext.refl _) | (with_reducible assumption) | (with_reducible refine Ext.alloc ?_ _) | (with_reducible refine Ext.drewN ?_ _) | (with_reducible refine Ext.drew ?_) | (with_reducible refine Ext.trans ?_ (by assumption))))⟩
end Go.Proofs.Ytoadjmeopamgbaa
