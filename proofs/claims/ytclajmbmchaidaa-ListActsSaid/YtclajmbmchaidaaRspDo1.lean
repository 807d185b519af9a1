/-
  gradineref10.Space.Do, kinds 0 and 1. No condition but that the space lies in memory, and that no block is in two lists.
-/
import Derived.Test.YtclajmbmchaidaaRspDo
import Derived.Deep.RegionLaw
import Derived.Deep.AppendLies
namespace Go.Proofs.Ytclajmbmchaidaa
open Go.RowKit

theorem refdo10_out (B p bl : Nat) (Ls : List (List Nat)) (k l : Int) (y : Nat) (w : World) (h : RspAt w B p bl Ls) (hb : okB y) (hk : k = 0 ∨ k = 1) (hl : ¬ okL Ls l) :
    Calls Try.prog 26 #[.pointer (some ⟨p, 0, none⟩), .int .i64 k, .int .i64 l, .int .i64 y] w fun e w' => e = .returned (.int .i64 (doE Ls k l y)) ∧ RspAt w' B p bl (doL Ls k l y) ∧ Chg [bl] w w' := by
  obtain ⟨c, hc0⟩ := h.cell0
  have hE : doE Ls k l y = 3 := by unfold doE; rw [if_pos hk, if_neg (fun h => hl h.1)]
  have hL : doL Ls k l y = Ls := by
    unfold doL
    rcases hk with rfl | rfl
    · rw [if_pos rfl, if_neg (fun h => hl h.1)]
    · rw [if_neg (by decide), if_pos rfl, if_neg (fun h => hl h.1)]
  rw [hE, hL]
  have hy63 : (y : Int) ≤ 63 := by have := hb.2; omega
  have hy0 : (0 : Int) ≤ (y : Int) := by omega
  have hyl : ¬ (y : Int) < 0 := by omega
  have hk2 : k < 2 := by omega
  have H := Lib.hid h
  have hl' : ¬ (0 ≤ l ∧ l < (Ls.length : Int)) := hl
  clear hE hL hb h hk hl
  generalize Ls.length = n at *
  by_cases hl0 : l < 0
  · clear hl'
    go_enter Try.func26, Try.ntmps26
    go_wp2_with fail
    go_ret
    exact ⟨rfl, H.out, Chg.refl _ _⟩
  · have hln : l ≥ (n : Int) := by omega
    clear hl'
    go_enter Try.func26, Try.ntmps26
    go_wp2_with fail
    go_ret
    exact ⟨rfl, H.out, Chg.refl _ _⟩

set_option maxRecDepth 100000 in
set_option maxHeartbeats 2000000 in
theorem refdo10_put0 (B p bl : Nat) (Ls : List (List Nat)) (k : Int) (q y : Nat) (w : World) (h : RspAt w B p bl Ls) (hB : B ≤ w.heap.size) (hu : Uni Ls) (hlen : ∀ i, (Ls.getD i []).length ≤ 64) (hb : okB y) (hk : k = 0) (hl : q < Ls.length) :
    Calls Try.prog 26 #[.pointer (some ⟨p, 0, none⟩), .int .i64 k, .int .i64 q, .int .i64 y] w fun e w' => e = .returned (.int .i64 0) ∧ RspAt w' B p bl (frontL Ls q y) ∧ Chg [bl] w w' := by
  obtain ⟨c, hc0⟩ := h.cell0
  obtain ⟨n, hn⟩ : ∃ n, Ls.length = n := ⟨_, rfl⟩
  rw [hn] at hc0
  have HN := Lib.hid hn
  have H := Lib.hid h
  have hy63 : (y : Int) ≤ 63 := by have := hb.2; omega
  have hy0 : (0 : Int) ≤ (y : Int) := by omega
  have hyl : ¬ (y : Int) < 0 := by omega
  have hk2 : k < 2 := by omega
  have hkb : (k == 2) = false := by simp; omega
  have hq0 : ¬ (q : Int) < 0 := by omega
  have hqn : ¬ (q : Int) ≥ (n : Int) := by omega
  have hqn2 : (q : Int) < (n : Int) := by omega
  obtain ⟨r, hr⟩ : ∃ r, ofR Ls y = r := ⟨_, rfl⟩
  have HR := Lib.hid hr
  have HLEN := Lib.hid hlen
  have HU := Lib.hid hu
  have HL := Lib.hid hl
  clear hn h hb hr hlen hu hl
  go_enter Try.func26, Try.ntmps26
  go_wp2_with fail
  refine (refof_any B p bl Ls y _ H.out).mono ?_
  rintro e w1 ⟨rfl, hx1⟩
  rw [HR.out]
  go_upto_if 43 with fail
  go_cut [9] from 10 to 93 (fun s9 wx => Hid (RspAt wx B p bl (outL Ls y)) ∧ Hid (Chg [bl] w wx))
  case first =>
    cases hof : ofL Ls y with
    | none =>
      have hrn : r = -1 := by rw [← HR.out, ofR_eq, hof]
      have hO := Lib.hid (out_none' hof)
      subst hrn
      clear hof
      go_wp2_with fail
      go_meet
      exact ⟨by rw [hO.out]; exact H.out.ext (by repeat' (first | (with_reducible exact Ext.refl _) | (with_reducible assumption) | (with_reducible refine Ext.alloc ?_ _) | (with_reducible refine Ext.drewN ?_ _) | (with_reducible refine Ext.drew ?_) | (with_reducible refine Ext.trans ?_ (by assumption)))), Chg.of_ext (by repeat' (first | (with_reducible exact Ext.refl _) | (with_reducible assumption) | (with_reducible refine Ext.alloc ?_ _) | (with_reducible refine Ext.drewN ?_ _) | (with_reducible refine Ext.drew ?_) | (with_reducible refine Ext.trans ?_ (by assumption))))⟩
    | some i =>
      have hrn : r = (i : Int) := by rw [← HR.out, ofR_eq, hof]
      have hi := (ofL_mem hof).1
      have HO := Lib.hid (out_some' HU.out hof)
      subst hrn
      have hii : (i : Int) < (n : Int) := by have := HN.out; omega
      have hi0 : (0 : Int) ≤ (i : Int) := by omega
      have hil : ¬ (i : Int) < 0 := by omega
      have h1 := H.out.ext hx1
      obtain ⟨v, hv, hvo⟩ := h1.cell hi
      have hx0 := hx1.cellv hc0
      have hvr := hvo.rd
      have frz := h1.frz i
      have HVR := Lib.hid hvr
      obtain ⟨a, c2, hva, _, _, _, _⟩ := hvr.parts
      obtain ⟨m, hm⟩ : ∃ m, v = .slice a m c2 := ⟨_, hva⟩
      have H1 := Lib.hid h1
      clear hva hvo hvr h1 hof
      subst hm
      go_wp2_with fail
      go_region_with ((go_at_call 18; refine (without_any _ (asInts (Ls.getD i [])) y _ (HVR.out.ext (by repeat' (first | (with_reducible exact Ext.refl _) | (with_reducible assumption) | (with_reducible refine Ext.alloc ?_ _) | (with_reducible refine Ext.drewN ?_ _) | (with_reducible refine Ext.drew ?_) | (with_reducible refine Ext.trans ?_ (by assumption))))) (fits_small (by have := HLEN.out i; rw [asInts_len]; omega))).mono ?_; rintro e w2 ⟨v2, rfl, ho2, hx2⟩; obtain ⟨a5, c5, hv5, _, _, _, _⟩ := ho2.rd.parts; obtain ⟨n5, hn5⟩ : ∃ n5, v2 = .slice a5 n5 c5 := ⟨_, hv5⟩; clear hv5; subst hn5; have z0 := Ext.cellv (w := w1) (w' := w2) (by repeat' (first | (with_reducible exact Ext.refl _) | (with_reducible assumption) | (with_reducible refine Ext.alloc ?_ _) | (with_reducible refine Ext.drewN ?_ _) | (with_reducible refine Ext.drew ?_) | (with_reducible refine Ext.trans ?_ (by assumption)))) hx0; have zv := Ext.cellv (w := w1) (w' := w2) (by repeat' (first | (with_reducible exact Ext.refl _) | (with_reducible assumption) | (with_reducible refine Ext.alloc ?_ _) | (with_reducible refine Ext.drewN ?_ _) | (with_reducible refine Ext.drew ?_) | (with_reducible refine Ext.trans ?_ (by assumption)))) hv; have zf := (H1.out.ext (w' := w2) (by repeat' (first | (with_reducible exact Ext.refl _) | (with_reducible assumption) | (with_reducible refine Ext.alloc ?_ _) | (with_reducible refine Ext.drewN ?_ _) | (with_reducible refine Ext.drew ?_) | (with_reducible refine Ext.trans ?_ (by assumption))))).frz i))
      all_goals
        rw [wo_as] at ho2
        have hs2 := RspAt.setFresh (w0 := w1) H1.out (by repeat' (first | (with_reducible exact Ext.refl _) | (with_reducible assumption) | (with_reducible refine Ext.alloc ?_ _) | (with_reducible refine Ext.drewN ?_ _) | (with_reducible refine Ext.drew ?_) | (with_reducible refine Ext.trans ?_ (by assumption)))) (Nat.le_trans hB hx1.size) hi ho2
        have hch := (Chg.of_ext (S := [bl]) (show Ext w w2 from (by repeat' (first | (with_reducible exact Ext.refl _) | (with_reducible assumption) | (with_reducible refine Ext.alloc ?_ _) | (with_reducible refine Ext.drewN ?_ _) | (with_reducible refine Ext.drew ?_) | (with_reducible refine Ext.trans ?_ (by assumption)))))).trans (chg_one w2 bl i (.slice a5 n5 c5))
        rw [HO.out] at hs2
        have HS2 := Lib.hid hs2
        clear hs2 ho2
        go_wp2_with fail
        go_meet
        exact ⟨HS2.out.ext (by repeat' (first | (with_reducible exact Ext.refl _) | (with_reducible assumption) | (with_reducible refine Ext.alloc ?_ _) | (with_reducible refine Ext.drewN ?_ _) | (with_reducible refine Ext.drew ?_) | (with_reducible refine Ext.trans ?_ (by assumption)))), hch.ext (by repeat' (first | (with_reducible exact Ext.refl _) | (with_reducible assumption) | (with_reducible refine Ext.alloc ?_ _) | (with_reducible refine Ext.drewN ?_ _) | (with_reducible refine Ext.drew ?_) | (with_reducible refine Ext.trans ?_ (by assumption))))⟩
  case rest =>
    obtain ⟨HO, HCH⟩ := hcut
    clear hx1 w1
    have h1 := HO.out
    have hS0 := HCH.out
    have hql : q < (outL Ls y).length := by rw [outL_length]; exact HL.out
    obtain ⟨c1, hx0⟩ := h1.cell0
    rw [outL_length, HN.out] at hx0
    obtain ⟨v, hv, hvo⟩ := h1.cell hql
    have frz := h1.frz q
    have hvr := hvo.rd
    have HVR := Lib.hid hvr
    have HVO := Lib.hid hvo
    have hBc : B ≤ wc.heap.size := Nat.le_trans hB hS0.size
    have hl64 : ((outL Ls y).getD q []).length ≤ 64 := by rw [getD_map_filter]; exact Nat.le_trans (List.length_filter_le _ _) (HLEN.out q)
    have HL64 := Lib.hid hl64
    have HQL := Lib.hid hql
    have HS0 := Lib.hid hS0
    obtain ⟨a, c2, hva, _, _, _, _⟩ := hvr.parts
    obtain ⟨m, hm⟩ : ∃ m, v = .slice a m c2 := ⟨_, hva⟩
    clear hva hvo hvr h1 hS0 hql hl64 HCH
    subst hm
    subst hk
    go_wp2_with fail
    go_region_with ((go_at_call 24; refine (refahead_any _ (asInts ((outL Ls y).getD q [])) y _ (HVR.out.ext (by repeat' (first | (with_reducible exact Ext.refl _) | (with_reducible assumption) | (with_reducible refine Ext.alloc ?_ _) | (with_reducible refine Ext.drewN ?_ _) | (with_reducible refine Ext.drew ?_) | (with_reducible refine Ext.trans ?_ (by assumption))))) (fits_small (by have := HL64.out; rw [asInts_len]; omega))).mono ?_; rintro e w2 ⟨v2, rfl, ho2, hx2⟩; obtain ⟨a5, c5, hv5, _, _, _, _⟩ := ho2.rd.parts; obtain ⟨n5, hn5⟩ : ∃ n5, v2 = .slice a5 n5 c5 := ⟨_, hv5⟩; clear hv5; subst hn5; have z0 := Ext.cellv (w := wc) (w' := w2) (by repeat' (first | (with_reducible exact Ext.refl _) | (with_reducible assumption) | (with_reducible refine Ext.alloc ?_ _) | (with_reducible refine Ext.drewN ?_ _) | (with_reducible refine Ext.drew ?_) | (with_reducible refine Ext.trans ?_ (by assumption)))) hx0; have zv := Ext.cellv (w := wc) (w' := w2) (by repeat' (first | (with_reducible exact Ext.refl _) | (with_reducible assumption) | (with_reducible refine Ext.alloc ?_ _) | (with_reducible refine Ext.drewN ?_ _) | (with_reducible refine Ext.drew ?_) | (with_reducible refine Ext.trans ?_ (by assumption)))) hv; have zf := (HO.out.ext (w' := w2) (by repeat' (first | (with_reducible exact Ext.refl _) | (with_reducible assumption) | (with_reducible refine Ext.alloc ?_ _) | (with_reducible refine Ext.drewN ?_ _) | (with_reducible refine Ext.drew ?_) | (with_reducible refine Ext.trans ?_ (by assumption))))).frz q))
    all_goals
      have hs2 := RspAt.setFresh (w0 := wc) (L := y :: (outL Ls y).getD q []) HO.out (by repeat' (first | (with_reducible exact Ext.refl _) | (with_reducible assumption) | (with_reducible refine Ext.alloc ?_ _) | (with_reducible refine Ext.drewN ?_ _) | (with_reducible refine Ext.drew ?_) | (with_reducible refine Ext.trans ?_ (by assumption)))) hBc HQL.out ho2
      have hch := (Chg.of_ext (S := [bl]) (show Ext wc w2 from (by repeat' (first | (with_reducible exact Ext.refl _) | (with_reducible assumption) | (with_reducible refine Ext.alloc ?_ _) | (with_reducible refine Ext.drewN ?_ _) | (with_reducible refine Ext.drew ?_) | (with_reducible refine Ext.trans ?_ (by assumption)))))).trans (chg_one w2 bl q (.slice a5 n5 c5))
      have HS2 := Lib.hid hs2
      clear hs2 ho2
      go_wp2_with fail
      go_ret
      exact ⟨rfl, (by have h9 := HS2.out; first | exact h9.ext (by repeat' (first | (with_reducible exact Ext.refl _) | (with_reducible assumption) | (with_reducible refine Ext.alloc ?_ _) | (with_reducible refine Ext.drewN ?_ _) | (with_reducible refine Ext.drew ?_) | (with_reducible refine Ext.trans ?_ (by assumption)))) | (rw [if_pos rfl]; exact h9.ext (by repeat' (first | (with_reducible exact Ext.refl _) | (with_reducible assumption) | (with_reducible refine Ext.alloc ?_ _) | (with_reducible refine Ext.drewN ?_ _) | (with_reducible refine Ext.drew ?_) | (with_reducible refine Ext.trans ?_ (by assumption)))))), (HS0.out.trans hch).ext (by repeat' (first | (with_reducible exact Ext.refl _) | (with_reducible assumption) | (with_reducible refine Ext.alloc ?_ _) | (with_reducible refine Ext.drewN ?_ _) | (with_reducible refine Ext.drew ?_) | (with_reducible refine Ext.trans ?_ (by assumption))))⟩
end Go.Proofs.Ytclajmbmchaidaa
