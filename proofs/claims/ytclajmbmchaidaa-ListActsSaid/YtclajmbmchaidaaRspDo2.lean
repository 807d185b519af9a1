/-
  gradineref10.Space.Do, kind 2. No condition but that the space lies in memory, and that no block is in two lists.
-/
import Derived.Test.YtclajmbmchaidaaRspDo
namespace Go.Proofs.Ytclajmbmchaidaa
open Go.RowKit

set_option maxRecDepth 100000 in
set_option maxHeartbeats 2000000 in
theorem refdo10_two (B p bl : Nat) (Ls : List (List Nat)) (l : Int) (y : Nat) (w : World) (h : RspAt w B p bl Ls) (hB : B ≤ w.heap.size) (hu : Uni Ls) (hlen : ∀ i, (Ls.getD i []).length ≤ 64) (hb : okB y) :
    Calls Try.prog 26 #[.pointer (some ⟨p, 0, none⟩), .int .i64 2, .int .i64 l, .int .i64 y] w fun e w' => e = .returned (.int .i64 (doE Ls 2 l y)) ∧ RspAt w' B p bl (doL Ls 2 l y) ∧ Chg [bl] w w' := by
  obtain ⟨c, hc0⟩ := h.cell0
  obtain ⟨n, hn⟩ : ∃ n, Ls.length = n := ⟨_, rfl⟩
  rw [hn] at hc0
  have HN := Lib.hid hn
  have H := Lib.hid h
  clear hn h
  have hy63 : (y : Int) ≤ 63 := by have := hb.2; omega
  have hy0 : (0 : Int) ≤ (y : Int) := by omega
  have hyl : ¬ (y : Int) < 0 := by omega
  cases hof : ofL Ls y with
  | none =>
    have hE : doE Ls 2 l y = 5 := by simp [doE, hb, hof]
    have hL : doL Ls 2 l y = Ls := by simp [doL, hb, hof]
    have hR : ofR Ls y = -1 := by rw [ofR_eq, hof]
    rw [hE, hL]
    have HR := Lib.hid hR
    clear hE hL hR hof hb
    go_enter Try.func26, Try.ntmps26
    go_wp2_with fail
    refine (refof_any B p bl Ls y _ H.out).mono ?_
    rintro e w1 ⟨rfl, hx1⟩
    rw [HR.out]
    go_wp2_with fail
    go_ret
    exact ⟨rfl, H.out.ext hx1, Chg.of_ext hx1⟩
  | some i =>
    have hE : doE Ls 2 l y = 0 := by simp [doE, hb, hof]
    have hL : doL Ls 2 l y = outL Ls y := by simp [doL, hb, hof]
    have hR : ofR Ls y = i := by rw [ofR_eq, hof]
    have hO := out_some' hu hof
    have hi := (ofL_mem hof).1
    rw [hE, hL]
    have HR := Lib.hid hR
    have HO := Lib.hid hO
    have HLEN := Lib.hid (hlen i)
    have hii : (i : Int) < (n : Int) := by have := HN.out; omega
    have hi0 : (0 : Int) ≤ (i : Int) := by omega
    have hil : ¬ (i : Int) < 0 := by omega
    clear hE hL hR hof hO hb hlen
    go_enter Try.func26, Try.ntmps26
    go_wp2_with fail
    refine (refof_any B p bl Ls y _ H.out).mono ?_
    rintro e w1 ⟨rfl, hx1⟩
    rw [HR.out]
    have h1 := H.out.ext hx1
    obtain ⟨v, hv, hvo⟩ := h1.cell hi
    have hx0 := hx1.cellv hc0
    have hvr := hvo.rd
    have frz := h1.frz i
    have HVR := Lib.hid hvr
    obtain ⟨a, c2, hva, _, _, _, _⟩ := hvr.parts
    obtain ⟨m, hm⟩ : ∃ m, v = .slice a m c2 := ⟨_, hva⟩
    have H1 := Lib.hid h1
    clear hva hvo hvr h1
    subst hm
    go_wp2_with fail
    go_region_with ((go_at_call 18; refine (without_any _ (asInts (Ls.getD i [])) y _ (HVR.out.ext (by repeat' (first | (with_reducible exact Ext.refl _) | (with_reducible assumption) | (with_reducible refine Ext.alloc ?_ _) | (with_reducible refine Ext.drewN ?_ _) | (with_reducible refine Ext.drew ?_) | (with_reducible refine Ext.trans ?_ (by assumption))))) (fits_small (by have := HLEN.out; rw [asInts_len]; omega))).mono ?_; rintro e w2 ⟨v2, rfl, ho2, hx2⟩; obtain ⟨a5, c5, hv5, _, _, _, _⟩ := ho2.rd.parts; obtain ⟨n5, hn5⟩ : ∃ n5, v2 = .slice a5 n5 c5 := ⟨_, hv5⟩; clear hv5; subst hn5; have z0 := Ext.cellv (w := w1) (w' := w2) (by repeat' (first | (with_reducible exact Ext.refl _) | (with_reducible assumption) | (with_reducible refine Ext.alloc ?_ _) | (with_reducible refine Ext.drewN ?_ _) | (with_reducible refine Ext.drew ?_) | (with_reducible refine Ext.trans ?_ (by assumption)))) hx0; have zv := Ext.cellv (w := w1) (w' := w2) (by repeat' (first | (with_reducible exact Ext.refl _) | (with_reducible assumption) | (with_reducible refine Ext.alloc ?_ _) | (with_reducible refine Ext.drewN ?_ _) | (with_reducible refine Ext.drew ?_) | (with_reducible refine Ext.trans ?_ (by assumption)))) hv; have zf := (H1.out.ext (w' := w2) (by repeat' (first | (with_reducible exact Ext.refl _) | (with_reducible assumption) | (with_reducible refine Ext.alloc ?_ _) | (with_reducible refine Ext.drewN ?_ _) | (with_reducible refine Ext.drew ?_) | (with_reducible refine Ext.trans ?_ (by assumption))))).frz i))
    all_goals
      rw [wo_as] at ho2
      have hs2 := RspAt.setFresh (w0 := w1) H1.out (by repeat' (first | (with_reducible exact Ext.refl _) | (with_reducible assumption) | (with_reducible refine Ext.alloc ?_ _) | (with_reducible refine Ext.drewN ?_ _) | (with_reducible refine Ext.drew ?_) | (with_reducible refine Ext.trans ?_ (by assumption)))) (Nat.le_trans hB hx1.size) hi ho2
      have hch := (Chg.of_ext (S := [bl]) (show Ext w w2 from (by repeat' (first | (with_reducible exact Ext.refl _) | (with_reducible assumption) | (with_reducible refine Ext.alloc ?_ _) | (with_reducible refine Ext.drewN ?_ _) | (with_reducible refine Ext.drew ?_) | (with_reducible refine Ext.trans ?_ (by assumption)))))).trans (chg_one w2 bl i (.slice a5 n5 c5))
      rw [HO.out] at hs2
      have HS2 := Lib.hid hs2
      clear hs2 ho2
      go_wp2_with fail
      go_ret
      exact ⟨rfl, HS2.out.ext (by repeat' (first | (with_reducible exact Ext.refl _) | (with_reducible assumption) | (with_reducible refine Ext.alloc ?_ _) | (with_reducible refine Ext.drewN ?_ _) | (with_reducible refine Ext.drew ?_) | (with_reducible refine Ext.trans ?_ (by assumption)))), hch.ext (by repeat' (first | (with_reducible exact Ext.refl _) | (with_reducible assumption) | (with_reducible refine Ext.alloc ?_ _) | (with_reducible refine Ext.drewN ?_ _) | (with_reducible refine Ext.drew ?_) | (with_reducible refine Ext.trans ?_ (by assumption))))⟩
end Go.Proofs.Ytclajmbmchaidaa
