/-
  gradinelaw12.same: an MQ and the reference's that hold the same. No condition but that both lie in memory, and are right.
-/
import Derived.Test.YtibcfmnkpemieaaRmq5
import Derived.Deep.RegionHeld3
namespace Go.Proofs.Ytibcfmnkpemieaa
open Go.RowKit

theorem same_eqI (v1 v2 : Value) (l : List Int) (w : World) (h1 : RdI .i64 w v1 l) (h2 : RdI .i64 w v2 l) :
    Calls Try.prog 36 #[v1, v2] w fun e w' => e = .returned (.bool true) ∧ Ext w w' :=
  (sameints_any v1 v2 l l w h1 h2).mono fun e w' h => ⟨by have := h.1; simpa using this, h.2⟩

set_option maxRecDepth 100000 in
set_option maxHeartbeats 8000000 in
theorem same12 (pm bs bd : Nat) (B : Nat → Prop) (pr bq bo be : Nat) (p : Shp) (s : Mq) (w : World) (hm : MqAt w pm bs bd p s) (h : RmqAt w B pr bq bo be p s) (inq : Inq p s) (b64 : B64 s) :
    Calls Try.prog 47 #[.pointer (some ⟨pm, 0, none⟩), .pointer (some ⟨pr, 0, none⟩)] w fun e w' => e = .returned (.bool true) ∧ Ext w w' := by
  have H := Lib.hid h
  have HM := Lib.hid hm
  have HI := Lib.hid inq
  have H64 := Lib.hid b64
  obtain ⟨c, hc0⟩ := h.c3
  have hq8 := inq.ok.q2
  obtain ⟨n, hn⟩ : ∃ n, n = p.qs := ⟨_, rfl⟩
  rw [← hn] at hc0 hq8
  have HN := Lib.hid hn
  clear h hm inq b64 hn
  go_enter Try.func47, Try.ntmps47
  go_wp2_with fail
  go_loopw [11] (fun ci wr => ∃ i : Nat, i ≤ n ∧ ci = .int .i64 i ∧ Ext w wr) (fun ci _ => n - (intOf ci).toNat)
  case atStart => exact ⟨0, Nat.zero_le _, rfl, Ext.refl _⟩
  case round =>
    obtain ⟨i, hi, rfl, hx⟩ := hrel
    have x0 := hx.cellv hc0
    by_cases hlt : i < n
    · have hip : i < p.qs := by rw [← HN.out]; exact hlt
      obtain ⟨a, cc, hv, hrow⟩ := (H.out.ext hx).cell hip
      have HQU := Lib.hid (fun w' (hx' : Ext wr w') => mqueue pm bs bd p s w' (HM.out.ext (hx.trans hx')) i hip)
      obtain ⟨L, hL⟩ : ∃ L, L = s.Ls.getD i [] := ⟨_, rfl⟩
      rw [← hL] at hv hrow HQU
      have HROW := Lib.hid hrow
      have hii : (i : Int) < (n : Int) := by omega
      obtain ⟨m, hm⟩ : ∃ m, m = L.length := ⟨_, rfl⟩
      rw [← hm] at hv HROW
      clear hrow hL hm hip
      go_upto_region 4 with fail
      go_region_held3 (fun w' => w'.cell? ⟨pr, 3, none⟩ = some (.slice (some ⟨bq, 0, none⟩) n c) ∧ w'.cell? ⟨bq, i, none⟩ = some (.slice a m cc) ∧ Ext wr w') (exact ⟨Ext.cellv (w := wr) (by repeat' (first | (with_reducible exact Ext.refl _) | (with_reducible assumption) | (with_reducible refine Ext.alloc ?_ _) | (with_reducible refine Ext.drewN ?_ _) | (with_reducible refine Ext.drew ?_) | (with_reducible refine Ext.trans ?_ (by assumption)))) x0, Ext.cellv (w := wr) (by repeat' (first | (with_reducible exact Ext.refl _) | (with_reducible assumption) | (with_reducible refine Ext.alloc ?_ _) | (with_reducible refine Ext.drewN ?_ _) | (with_reducible refine Ext.drew ?_) | (with_reducible refine Ext.trans ?_ (by assumption)))) hv, (by repeat' (first | (with_reducible exact Ext.refl _) | (with_reducible assumption) | (with_reducible refine Ext.alloc ?_ _) | (with_reducible refine Ext.drewN ?_ _) | (with_reducible refine Ext.drew ?_) | (with_reducible refine Ext.trans ?_ (by assumption))))⟩)
        (first | (go_at_call 31; refine (HQU.out _ (by repeat' (first | (with_reducible exact Ext.refl _) | (with_reducible assumption) | (with_reducible refine Ext.alloc ?_ _) | (with_reducible refine Ext.drewN ?_ _) | (with_reducible refine Ext.drew ?_) | (with_reducible refine Ext.trans ?_ (by assumption))))).mono ?_; rintro e wA ⟨vA, rfl, hoA, hxA⟩) | (go_at_call 36; refine (same_eqI _ _ (asInts L) _ (hoA.rd.ext (by repeat' (first | (with_reducible exact Ext.refl _) | (with_reducible assumption) | (with_reducible refine Ext.alloc ?_ _) | (with_reducible refine Ext.drewN ?_ _) | (with_reducible refine Ext.drew ?_) | (with_reducible refine Ext.trans ?_ (by assumption))))) (HROW.out.1.ext (by repeat' (first | (with_reducible exact Ext.refl _) | (with_reducible assumption) | (with_reducible refine Ext.alloc ?_ _) | (with_reducible refine Ext.drewN ?_ _) | (with_reducible refine Ext.drew ?_) | (with_reducible refine Ext.trans ?_ (by assumption)))))).mono ?_; rintro e wB ⟨rfl, hxB⟩))
      all_goals
        go_wp2_with fail
        go_roundw
        case rel => exact ⟨i + 1, by omega, by go_num, hx.trans (by repeat' (first | (with_reducible exact Ext.refl _) | (with_reducible assumption) | (with_reducible refine Ext.alloc ?_ _) | (with_reducible refine Ext.drewN ?_ _) | (with_reducible refine Ext.drew ?_) | (with_reducible refine Ext.trans ?_ (by assumption))))⟩
        case measure => simp [intOf]; omega
    · obtain rfl : i = n := by omega
      have hxr := hx
      have hHr := H.out.ext hx
      have hMr := HM.out.ext hx
      obtain ⟨ag, cg, yg, hrow⟩ := hHr.cg
      have HG1 := Lib.hid (fun w' (hx' : Ext wr w') => mghosts pm bs bd p s w' (hMr.ext hx'))
      obtain ⟨Gh, hGh⟩ : ∃ Gh, Gh = s.Ls.getD p.qs [] := ⟨_, rfl⟩
      rw [← hGh] at yg hrow HG1
      have HROW := Lib.hid hrow
      obtain ⟨A, hA⟩ : ∃ A, A = allQ p s := ⟨_, rfl⟩
      have HA1 := Lib.hid (fun w' (hx' : Ext wr w') => mall pm bs bd p s w' (hMr.ext hx'))
      have HA2 := Lib.hid (fun w' (hx' : Ext wr w') => rqall B pr bq bo be p s w' (hHr.ext hx') HI.out H64.out)
      rw [← hA] at HA1 HA2
      obtain ⟨ln, hln⟩ : ∃ ln, ln = lenQ p s := ⟨_, rfl⟩
      have HL1 := Lib.hid (fun w' (hx' : Ext wr w') => mlen pm bs bd p s w' (hMr.ext hx'))
      have HL2 := Lib.hid (fun w' (hx' : Ext wr w') => rqlen B pr bq bo be p s w' (hHr.ext hx') HI.out.ok.q2 (len64 HI.out.good H64.out))
      rw [← hln] at HL1 HL2
      have HO1 := Lib.hid (fun (j : Int) (hj : ¬ (0 ≤ j ∧ j < (i : Int))) w' (hx' : Ext wr w') => mqueue_out pm bs bd p s w' (hMr.ext hx') j (by rw [← HN.out]; exact hj))
      obtain ⟨m, hm⟩ : ∃ m, m = Gh.length := ⟨_, rfl⟩
      rw [← hm] at yg HROW
      have HRD := Lib.hid HROW.out.1
      have hlb : ((ln : Int) == (ln : Int)) = true := by simp
      clear hrow hGh hA hln hm hHr hMr
      go_upto_region 7 with fail
      go_region_held3 (fun w' => w'.cell? ⟨pr, 3, none⟩ = some (.slice (some ⟨bq, 0, none⟩) i c) ∧ w'.cell? ⟨pr, 4, none⟩ = some (.slice ag m cg) ∧ Ext wr w') (exact ⟨Ext.cellv (w := wr) (by repeat' (first | (with_reducible exact Ext.refl _) | (with_reducible assumption) | (with_reducible refine Ext.alloc ?_ _) | (with_reducible refine Ext.drewN ?_ _) | (with_reducible refine Ext.drew ?_) | (with_reducible refine Ext.trans ?_ (by assumption)))) x0, Ext.cellv (w := wr) (by repeat' (first | (with_reducible exact Ext.refl _) | (with_reducible assumption) | (with_reducible refine Ext.alloc ?_ _) | (with_reducible refine Ext.drewN ?_ _) | (with_reducible refine Ext.drew ?_) | (with_reducible refine Ext.trans ?_ (by assumption)))) yg, (by repeat' (first | (with_reducible exact Ext.refl _) | (with_reducible assumption) | (with_reducible refine Ext.alloc ?_ _) | (with_reducible refine Ext.drewN ?_ _) | (with_reducible refine Ext.drew ?_) | (with_reducible refine Ext.trans ?_ (by assumption))))⟩)
        (first | (go_at_call 38; refine (HG1.out _ (by repeat' (first | (with_reducible exact Ext.refl _) | (with_reducible assumption) | (with_reducible refine Ext.alloc ?_ _) | (with_reducible refine Ext.drewN ?_ _) | (with_reducible refine Ext.drew ?_) | (with_reducible refine Ext.trans ?_ (by assumption))))).mono ?_; rintro e wA ⟨vA, rfl, hoA, hxA⟩) | (go_at_call 37; refine (HA1.out _ (by repeat' (first | (with_reducible exact Ext.refl _) | (with_reducible assumption) | (with_reducible refine Ext.alloc ?_ _) | (with_reducible refine Ext.drewN ?_ _) | (with_reducible refine Ext.drew ?_) | (with_reducible refine Ext.trans ?_ (by assumption))))).mono ?_; rintro e wC ⟨vC, rfl, hoC, hxC⟩) | (go_at_call 73; refine (HA2.out _ (by repeat' (first | (with_reducible exact Ext.refl _) | (with_reducible assumption) | (with_reducible refine Ext.alloc ?_ _) | (with_reducible refine Ext.drewN ?_ _) | (with_reducible refine Ext.drew ?_) | (with_reducible refine Ext.trans ?_ (by assumption))))).mono ?_; rintro e wD ⟨vD, rfl, hoD, hxD⟩) | (go_at_call 41; refine (HL1.out _ (by repeat' (first | (with_reducible exact Ext.refl _) | (with_reducible assumption) | (with_reducible refine Ext.alloc ?_ _) | (with_reducible refine Ext.drewN ?_ _) | (with_reducible refine Ext.drew ?_) | (with_reducible refine Ext.trans ?_ (by assumption))))).mono ?_; rintro e wE ⟨rfl, rfl⟩) | (go_at_call 72; refine (HL2.out _ (by repeat' (first | (with_reducible exact Ext.refl _) | (with_reducible assumption) | (with_reducible refine Ext.alloc ?_ _) | (with_reducible refine Ext.drewN ?_ _) | (with_reducible refine Ext.drew ?_) | (with_reducible refine Ext.trans ?_ (by assumption))))).mono ?_; rintro e wE ⟨rfl, rfl⟩) | (go_at_call 31; refine (HO1.out _ (by omega) _ (by repeat' (first | (with_reducible exact Ext.refl _) | (with_reducible assumption) | (with_reducible refine Ext.alloc ?_ _) | (with_reducible refine Ext.drewN ?_ _) | (with_reducible refine Ext.drew ?_) | (with_reducible refine Ext.trans ?_ (by assumption))))).mono ?_; rintro e wE ⟨rfl, rfl⟩) | (go_at_call 36; ((with_reducible refine (same_eqI _ _ (asInts A) _ (hoC.rd.ext (by repeat' (first | (with_reducible exact Ext.refl _) | (with_reducible assumption) | (with_reducible refine Ext.alloc ?_ _) | (with_reducible refine Ext.drewN ?_ _) | (with_reducible refine Ext.drew ?_) | (with_reducible refine Ext.trans ?_ (by assumption))))) (hoD.rd.ext (by repeat' (first | (with_reducible exact Ext.refl _) | (with_reducible assumption) | (with_reducible refine Ext.alloc ?_ _) | (with_reducible refine Ext.drewN ?_ _) | (with_reducible refine Ext.drew ?_) | (with_reducible refine Ext.trans ?_ (by assumption)))))).mono ?_); rintro e wB ⟨rfl, hxB⟩)) | (go_at_call 36; ((with_reducible refine (same_eqI _ _ (asInts Gh) _ (hoA.rd.ext (by repeat' (first | (with_reducible exact Ext.refl _) | (with_reducible assumption) | (with_reducible refine Ext.alloc ?_ _) | (with_reducible refine Ext.drewN ?_ _) | (with_reducible refine Ext.drew ?_) | (with_reducible refine Ext.trans ?_ (by assumption))))) (HRD.out.ext (by repeat' (first | (with_reducible exact Ext.refl _) | (with_reducible assumption) | (with_reducible refine Ext.alloc ?_ _) | (with_reducible refine Ext.drewN ?_ _) | (with_reducible refine Ext.drew ?_) | (with_reducible refine Ext.trans ?_ (by assumption)))))).mono ?_); rintro e wB ⟨rfl, hxB⟩)))
      all_goals
        go_wp2_with fail
        go_ret
        exact ⟨rfl, hxr.trans (by repeat' (first | (with_reducible exact Ext.refl _) | (with_reducible assumption) | (with_reducible refine Ext.alloc ?_ _) | (with_reducible refine Ext.drewN ?_ _) | (with_reducible refine Ext.drew ?_) | (with_reducible refine Ext.trans ?_ (by assumption))))⟩
end Go.Proofs.Ytibcfmnkpemieaa
