/-
  gradineref12: Of, Len, first. No condition but that the MQ lies in memory, and that its numbers are small.
-/
import Derived.Test.YtibcfmnkpemieaaRmq
import Derived.Test.YtibcfmnkpemieaaRspDo
import Derived.Deep.RegionHeld3
namespace Go.Proofs.Ytibcfmnkpemieaa
open Go.RowKit

/-- the queue that a block is in; -1: none -/
def QPlace (p : Shp) (s : Mq) (b r : Int) : Prop :=
  (r = -1 ∧ ∀ i, i < p.qs → b ∉ asInts (s.Ls.getD i [])) ∨ ∃ i, i < p.qs ∧ r = (i : Int) ∧ b ∈ asInts (s.Ls.getD i [])
section
variable (B : Nat → Prop) (pr bq bo be : Nat) (p : Shp) (s : Mq) (w : World) (h : RmqAt w B pr bq bo be p s)
include h
set_option maxHeartbeats 2000000 in
theorem rqof (hq8 : p.qs ≤ 8) (b : Int) : Calls Try.prog 48 #[.pointer (some ⟨pr, 0, none⟩), .int .i64 b] w fun e w' => ∃ r : Int, e = .returned (.int .i64 r) ∧ QPlace p s b r ∧ Ext w w' := by
  have H := Lib.hid h
  obtain ⟨c, hc0⟩ := h.c3
  obtain ⟨n, hn⟩ : ∃ n, n = p.qs := ⟨_, rfl⟩
  have HN := Lib.hid hn
  rw [← hn] at hc0 hq8
  clear hn h
  go_enter Try.func48, Try.ntmps48
  go_wp2_with fail
  go_loopw [5] (fun ci wr => ∃ i : Nat, i ≤ n ∧ ci = .int .i64 i ∧ Hid (∀ j, j < i → b ∉ asInts (s.Ls.getD j [])) ∧ Ext w wr) (fun ci _ => n - (intOf ci).toNat)
  case atStart => exact ⟨0, Nat.zero_le _, rfl, Lib.hid (fun j hj => absurd hj (Nat.not_lt_zero _)), Ext.refl _⟩
  case round =>
    obtain ⟨i, hi, rfl, HNO, hx⟩ := hrel
    have x0 := hx.cellv hc0
    by_cases hlt : i < n
    · obtain ⟨a, cc, hv, ho⟩ := H.out.cell (i := i) (by rw [← HN.out]; exact hlt)
      have HO := Lib.hid ho
      obtain ⟨L, hL⟩ : ∃ L, L = s.Ls.getD i [] := ⟨_, rfl⟩
      rw [← hL] at hv HO
      have HL := Lib.hid hL
      have hii : (i : Int) < (n : Int) := by omega
      have x1 := hx.cellv hv
      clear ho hL hv
      obtain ⟨r, hr⟩ : ∃ r, decide (b ∈ asInts L) = r := ⟨_, rfl⟩
      have HR := Lib.hid hr
      clear hr
      go_wp2_with fail
      refine (has_any _ (asInts L) b _ (HO.out.1.ext hx)).mono ?_
      rintro e w1 ⟨rfl, hx1⟩
      rw [HR.out]
      cases r
      · go_wp2_with fail
        go_roundw
        case rel =>
          refine ⟨i + 1, by omega, by go_num, Lib.hid (fun t ht => ?_), (by repeat' (first | (with_reducible exact Ext.refl _) | (with_reducible assumption) | (with_reducible refine Ext.alloc ?_ _) | (with_reducible refine Ext.drewN ?_ _) | (with_reducible refine Ext.drew ?_) | (with_reducible refine Ext.trans ?_ (by assumption))))⟩
          by_cases e : t = i
          · subst e; rw [← HL.out]; exact of_decide_eq_false HR.out
          · exact HNO.out t (by omega)
        case measure => simp [intOf]; omega
      · go_wp2_with fail
        go_ret
        exact ⟨i, rfl, .inr ⟨i, by rw [← HN.out]; exact hlt, rfl, by rw [← HL.out]; exact of_decide_eq_true HR.out⟩, (by repeat' (first | (with_reducible exact Ext.refl _) | (with_reducible assumption) | (with_reducible refine Ext.alloc ?_ _) | (with_reducible refine Ext.drewN ?_ _) | (with_reducible refine Ext.drew ?_) | (with_reducible refine Ext.trans ?_ (by assumption))))⟩
    · obtain rfl : i = n := by omega
      go_wp2_with fail
      go_ret
      exact ⟨-1, rfl, .inl ⟨rfl, by rw [← HN.out]; exact HNO.out⟩, hx⟩

set_option maxHeartbeats 2000000 in
theorem rqlen (hq8 : p.qs ≤ 8) (hlen : ∀ i, (s.Ls.getD i []).length ≤ 64) : Calls Try.prog 72 #[.pointer (some ⟨pr, 0, none⟩)] w fun e w' => e = .returned (.int .i64 (lenQ p s)) ∧ w = w' := by
  have H := Lib.hid h
  obtain ⟨c, hc0⟩ := h.c3
  obtain ⟨n, hn⟩ : ∃ n, n = p.qs := ⟨_, rfl⟩
  have HN := Lib.hid hn
  rw [← hn] at hc0 hq8
  have HLEN := Lib.hid hlen
  have hsum : ∀ k, sumQ s.Ls k ≤ 64 * k := by
    intro k
    induction k with
    | zero => simp [sumQ]
    | succ k ih => rw [sumQ]; have := hlen k; omega
  have HSUM := Lib.hid hsum
  clear hn h hlen hsum
  go_enter Try.func72, Try.ntmps72
  go_wp2_with fail
  go_loopw [3, 4] (fun cn ci wr => ∃ i : Nat, i ≤ n ∧ ci = .int .i64 i ∧ cn = .int .i64 (sumQ s.Ls i) ∧ w = wr) (fun _ ci _ => n - (intOf ci).toNat)
  case atStart => exact ⟨0, Nat.zero_le _, rfl, rfl, rfl⟩
  case round =>
    obtain ⟨i, hi, rfl, rfl, rfl⟩ := hrel
    by_cases hlt : i < n
    · obtain ⟨a, cc, hv, _⟩ := H.out.cell (i := i) (by rw [← HN.out]; exact hlt)
      have hl64 := HLEN.out i
      have hs1 : sumQ s.Ls (i + 1) = sumQ s.Ls i + (s.Ls.getD i []).length := rfl
      have hs2 := HSUM.out i
      obtain ⟨m, hm⟩ : ∃ m, m = (s.Ls.getD i []).length := ⟨_, rfl⟩
      obtain ⟨S, hS⟩ : ∃ S, S = sumQ s.Ls i := ⟨_, rfl⟩
      rw [← hm] at hv hl64 hs1
      rw [← hS] at hs1 hs2 ⊢
      have HS1 := Lib.hid hs1
      have hii : (i : Int) < (n : Int) := by omega
      clear hm hS hs1
      go_wp2_with fail
      go_roundw
      case rel => exact ⟨i + 1, by omega, by go_num, by rw [HS1.out]; go_num, by first | rfl | trivial⟩
      case measure => simp [intOf]; omega
    · obtain rfl : i = n := by omega
      go_wp2_with fail
      go_ret
      exact ⟨ret_int (by unfold lenQ; rw [← HN.out]), by first | rfl | trivial⟩

set_option maxRecDepth 100000 in
set_option maxHeartbeats 8000000 in
theorem rqfirst (ok : ShpOk p) (hlen : ∀ i, (s.Ls.getD i []).length ≤ 64) (hn : s.now ≤ 1000000) (q b : Nat) (hq : q < p.qs) (hb : b < 64) : Calls Try.prog 82 #[.pointer (some ⟨pr, 0, none⟩), .int .i64 q, .int .i64 b] w fun e w' =>
    e = .returned (.tuple #[]) ∧ RmqAt w' B pr bq bo be p (renewQ p (s.inLs (frontL s.Ls q b)) b) ∧ Chg [pr, bq, bo, be] w w' := by
  have H := Lib.hid h
  have hBw := Lib.hid h.top
  have HLEN := Lib.hid hlen
  have hq8 := ok.q2
  have hlf := ok.l2
  have hlen1 := h.len
  have HLS := Lib.hid hlen1
  have HQ := Lib.hid hq
  obtain ⟨n, hnn⟩ : ∃ n, n = p.qs := ⟨_, rfl⟩
  have HN := Lib.hid hnn
  rw [← hnn] at hq8 hq
  have HNOW := Lib.hid hn
  have hbi : (b : Int) < 64 := by omega
  have hqi : (q : Int) < (n : Int) := by omega
  clear hnn h hlen hlen1 hn ok
  go_enter Try.func82, Try.ntmps82
  go_wp2_with fail
  go_loopw [6] (fun ci wr => ∃ k : Nat, k ≤ n ∧ ci = .int .i64 k ∧ Hid (RmqAt wr B pr bq bo be p (s.inLs (outTo s.Ls b k))) ∧ Hid (Chg [pr, bq, bo, be] w wr)) (fun ci _ => n - (intOf ci).toNat)
  case atStart => exact ⟨0, Nat.zero_le _, rfl, H, Lib.hid (Chg.refl _ _)⟩
  case round =>
    obtain ⟨k, hk, rfl, HM, HC⟩ := hrel
    obtain ⟨c, hc0⟩ := HM.out.c3
    rw [← HN.out] at hc0
    have hBr := Lib.hid HM.out.top
    by_cases hlt : k < n
    · have hkp : k < p.qs := by rw [← HN.out]; exact hlt
      have HKP := Lib.hid hkp
      obtain ⟨a, cc, hv, hrow⟩ := HM.out.cell hkp
      have e : (s.inLs (outTo s.Ls b k)).Ls.getD k [] = s.Ls.getD k [] := by
        show (outTo s.Ls b k).getD k [] = _
        rw [outTo_at _ _ _ (by rw [HLS.out]; omega), if_neg (by omega)]
      rw [e] at hv hrow
      have hl64 := HLEN.out k
      have HROW := Lib.hid hrow
      have fz := HM.out.f2 k
      obtain ⟨L, hL⟩ : ∃ L, L = s.Ls.getD k [] := ⟨_, rfl⟩
      rw [← hL] at hv HROW hl64
      have HL := Lib.hid hL
      have hki : (k : Int) < (n : Int) := by omega
      clear hrow e hL hkp
      go_upto_region 3 with fail
      go_region_with ((go_at_call 67; refine (without_any _ (asInts L) b _ (HROW.out.1.ext (by repeat' (first | (with_reducible exact Ext.refl _) | (with_reducible assumption) | (with_reducible refine Ext.alloc ?_ _) | (with_reducible refine Ext.drewN ?_ _) | (with_reducible refine Ext.drew ?_) | (with_reducible refine Ext.trans ?_ (by assumption))))) (fits_small (by rw [asInts_len]; omega))).mono ?_; rintro e w2 ⟨v2, rfl, ho2, hx2⟩; obtain ⟨a5, c5, hv5, _, _, _, _⟩ := ho2.rd.parts; obtain ⟨n5, hn5⟩ : ∃ n5, v2 = .slice a5 n5 c5 := ⟨_, hv5⟩; clear hv5; subst hn5; have z0 := Ext.cellv (w := wr) (w' := w2) (by repeat' (first | (with_reducible exact Ext.refl _) | (with_reducible assumption) | (with_reducible refine Ext.alloc ?_ _) | (with_reducible refine Ext.drewN ?_ _) | (with_reducible refine Ext.drew ?_) | (with_reducible refine Ext.trans ?_ (by assumption)))) hc0; have zv := Ext.cellv (w := wr) (w' := w2) (by repeat' (first | (with_reducible exact Ext.refl _) | (with_reducible assumption) | (with_reducible refine Ext.alloc ?_ _) | (with_reducible refine Ext.drewN ?_ _) | (with_reducible refine Ext.drew ?_) | (with_reducible refine Ext.trans ?_ (by assumption)))) hv; have zf := (HM.out.ext (w' := w2) (by repeat' (first | (with_reducible exact Ext.refl _) | (with_reducible assumption) | (with_reducible refine Ext.alloc ?_ _) | (with_reducible refine Ext.drewN ?_ _) | (with_reducible refine Ext.drew ?_) | (with_reducible refine Ext.trans ?_ (by assumption))))).f2 k))
      all_goals
        rw [wo_as] at ho2
        have hxw : Ext wr w2 := (by repeat' (first | (with_reducible exact Ext.refl _) | (with_reducible assumption) | (with_reducible refine Ext.alloc ?_ _) | (with_reducible refine Ext.drewN ?_ _) | (with_reducible refine Ext.drew ?_) | (with_reducible refine Ext.trans ?_ (by assumption))))
        have hr5 := RowOk.fresh (B := B) (S := [pr, bq, bo, be]) ho2 (fun g hg => hBr.out g (Nat.le_trans (Ext.size (w := wr) (by repeat' (first | (with_reducible exact Ext.refl _) | (with_reducible assumption) | (with_reducible refine Ext.alloc ?_ _) | (with_reducible refine Ext.drewN ?_ _) | (with_reducible refine Ext.drew ?_) | (with_reducible refine Ext.trans ?_ (by assumption))))) hg)) (fun x hx => Nat.lt_of_lt_of_le (HM.out.all x hx) (Ext.size (w := wr) (by repeat' (first | (with_reducible exact Ext.refl _) | (with_reducible assumption) | (with_reducible refine Ext.alloc ?_ _) | (with_reducible refine Ext.drewN ?_ _) | (with_reducible refine Ext.drew ?_) | (with_reducible refine Ext.trans ?_ (by assumption))))))
        have hs2 := (HM.out.ext hxw).setRow HKP.out hr5
        have hs3 : RmqAt (w2.setCell ⟨bq, k, none⟩ (.slice a5 n5 c5)) B pr bq bo be p (s.inLs (outTo s.Ls b (k + 1))) := by rw [HL.out] at hs2; exact hs2
        have hch := HC.out.trans ((Chg.of_ext (S := [pr, bq, bo, be]) hxw).setCell (.inl (by simp)) (p := ⟨bq, k, none⟩) (.slice a5 n5 c5))
        have HS3 := Lib.hid hs3
        have HCH := Lib.hid hch
        clear hs2 hs3 ho2 hr5 hch z0 zv zf
        go_wp2_with fail
        go_roundw
        case rel => exact ⟨k + 1, by omega, by go_num, by first | exact HS3 | exact Lib.hid (HS3.out.ext (by repeat' (first | (with_reducible exact Ext.refl _) | (with_reducible assumption) | (with_reducible refine Ext.alloc ?_ _) | (with_reducible refine Ext.drewN ?_ _) | (with_reducible refine Ext.drew ?_) | (with_reducible refine Ext.trans ?_ (by assumption))))), by first | exact HCH | exact Lib.hid (HCH.out.ext (by repeat' (first | (with_reducible exact Ext.refl _) | (with_reducible assumption) | (with_reducible refine Ext.alloc ?_ _) | (with_reducible refine Ext.drewN ?_ _) | (with_reducible refine Ext.drew ?_) | (with_reducible refine Ext.trans ?_ (by assumption)))))⟩
        case measure => simp [intOf]; omega
    · obtain rfl : n = k := by omega
      obtain ⟨a, cc, hv, hrow⟩ := HM.out.cg
      have e : (s.inLs (outTo s.Ls b n)).Ls.getD p.qs [] = s.Ls.getD p.qs [] := by
        show (outTo s.Ls b n).getD p.qs [] = _
        rw [outTo_at _ _ _ (by rw [HLS.out, HN.out]; omega), if_neg (by rw [HN.out]; omega)]
      rw [e] at hv hrow
      have hl64 := HLEN.out p.qs
      have HROW := Lib.hid hrow
      have fz := HM.out.f1 4
      obtain ⟨L, hL⟩ : ∃ L, L = s.Ls.getD p.qs [] := ⟨_, rfl⟩
      rw [← hL] at hv HROW hl64
      have HL := Lib.hid hL
      clear hrow e hL
      go_wp2_with fail
      refine (without_any _ (asInts L) b _ (HROW.out.1.ext (by repeat' (first | (with_reducible exact Ext.refl _) | (with_reducible assumption) | (with_reducible refine Ext.alloc ?_ _) | (with_reducible refine Ext.drewN ?_ _) | (with_reducible refine Ext.drew ?_) | (with_reducible refine Ext.trans ?_ (by assumption))))) (fits_small (by rw [asInts_len]; omega))).mono ?_
      rintro e w2 ⟨v2, rfl, ho2, hx2⟩
      obtain ⟨a5, c5, hv5, _, _, _, _⟩ := ho2.rd.parts
      obtain ⟨n5, hn5⟩ : ∃ n5, v2 = .slice a5 n5 c5 := ⟨_, hv5⟩
      clear hv5
      subst hn5
      rw [wo_as] at ho2
      have z0 := hx2.cellv hv
      have zf := (HM.out.ext hx2).f1 4
      go_upto_region 5 with fail
      have hr5 := RowOk.fresh (B := B) (S := [pr, bq, bo, be]) ho2 hBr.out (fun x hx => HM.out.all x hx)
      have hs2 := (HM.out.ext hx2).setGh hr5
      have hs3 : RmqAt (w2.setCell ⟨pr, 4, none⟩ (.slice a5 n5 c5)) B pr bq bo be p (s.inLs (outL s.Ls b)) := by
        have e9 : outL s.Ls b = (outTo s.Ls b n).set p.qs (L.filter (· ≠ b)) := by
          rw [← outTo_all, HLS.out, HL.out, HN.out]; rfl
        rw [e9]; exact hs2
      have hch : Chg [pr, bq, bo, be] w (w2.setCell ⟨pr, 4, none⟩ (.slice a5 n5 c5)) := HC.out.trans ((Chg.of_ext (S := [pr, bq, bo, be]) hx2).setCell (.inl (by simp)) (p := ⟨pr, 4, none⟩) (.slice a5 n5 c5))
      generalize (w2.setCell ⟨pr, 4, none⟩ (.slice a5 n5 c5)) = w3 at *
      clear hs2 hr5 ho2 z0 zf hx2 hv fz HROW hl64 HM HC hc0
      have HM := Lib.hid hs3
      have HC := Lib.hid hch
      clear hs3 hch HL
      have hB3 := Lib.hid HM.out.top
      obtain ⟨c0, hc0⟩ := HM.out.c3
      rw [← HN.out] at hc0
      obtain ⟨a, cc, hv, hrow⟩ := HM.out.cell HQ.out
      have e : (s.inLs (outL s.Ls b)).Ls.getD q [] = (outL s.Ls b).getD q [] := rfl
      rw [e] at hv hrow
      have hl64 : ((outL s.Ls b).getD q []).length ≤ 64 := by rw [getD_out]; exact Nat.le_trans (List.length_filter_le _ _) (HLEN.out q)
      have HROW := Lib.hid hrow
      have fz := HM.out.f2 q
      obtain ⟨L, hL⟩ : ∃ L, L = (outL s.Ls b).getD q [] := ⟨_, rfl⟩
      rw [← hL] at hv HROW hl64
      have HL := Lib.hid hL
      clear hrow e hL
      go_region_with ((go_at_call 68; refine (refahead_any _ (asInts L) b _ (HROW.out.1.ext (by repeat' (first | (with_reducible exact Ext.refl _) | (with_reducible assumption) | (with_reducible refine Ext.alloc ?_ _) | (with_reducible refine Ext.drewN ?_ _) | (with_reducible refine Ext.drew ?_) | (with_reducible refine Ext.trans ?_ (by assumption))))) (fits_small (by rw [asInts_len]; omega))).mono ?_; rintro e w2 ⟨v2, rfl, ho2, hx2⟩; obtain ⟨a5, c5, hv5, _, _, _, _⟩ := ho2.rd.parts; obtain ⟨n5, hn5⟩ : ∃ n5, v2 = .slice a5 n5 c5 := ⟨_, hv5⟩; clear hv5; subst hn5; have z0 := Ext.cellv (w := w3) (w' := w2) (by repeat' (first | (with_reducible exact Ext.refl _) | (with_reducible assumption) | (with_reducible refine Ext.alloc ?_ _) | (with_reducible refine Ext.drewN ?_ _) | (with_reducible refine Ext.drew ?_) | (with_reducible refine Ext.trans ?_ (by assumption)))) hc0; have zv := Ext.cellv (w := w3) (w' := w2) (by repeat' (first | (with_reducible exact Ext.refl _) | (with_reducible assumption) | (with_reducible refine Ext.alloc ?_ _) | (with_reducible refine Ext.drewN ?_ _) | (with_reducible refine Ext.drew ?_) | (with_reducible refine Ext.trans ?_ (by assumption)))) hv; have zf := (HM.out.ext (w' := w2) (by repeat' (first | (with_reducible exact Ext.refl _) | (with_reducible assumption) | (with_reducible refine Ext.alloc ?_ _) | (with_reducible refine Ext.drewN ?_ _) | (with_reducible refine Ext.drew ?_) | (with_reducible refine Ext.trans ?_ (by assumption))))).f2 q))
      all_goals
        have hxw : Ext w3 w2 := (by repeat' (first | (with_reducible exact Ext.refl _) | (with_reducible assumption) | (with_reducible refine Ext.alloc ?_ _) | (with_reducible refine Ext.drewN ?_ _) | (with_reducible refine Ext.drew ?_) | (with_reducible refine Ext.trans ?_ (by assumption))))
        have hr5 : RowOk w2 B [pr, bq, bo, be] (.slice a5 n5 c5) (b :: L) := RowOk.fresh ho2 (fun g hg => hB3.out g (Nat.le_trans (Ext.size (w := w3) (by repeat' (first | (with_reducible exact Ext.refl _) | (with_reducible assumption) | (with_reducible refine Ext.alloc ?_ _) | (with_reducible refine Ext.drewN ?_ _) | (with_reducible refine Ext.drew ?_) | (with_reducible refine Ext.trans ?_ (by assumption))))) hg)) (fun x hx => Nat.lt_of_lt_of_le (HM.out.all x hx) (Ext.size (w := w3) (by repeat' (first | (with_reducible exact Ext.refl _) | (with_reducible assumption) | (with_reducible refine Ext.alloc ?_ _) | (with_reducible refine Ext.drewN ?_ _) | (with_reducible refine Ext.drew ?_) | (with_reducible refine Ext.trans ?_ (by assumption))))))
        have hs2 := (HM.out.ext hxw).setRow HQ.out hr5
        have hs3 : RmqAt (w2.setCell ⟨bq, q, none⟩ (.slice a5 n5 c5)) B pr bq bo be p (s.inLs (frontL s.Ls q b)) := by rw [HL.out] at hs2; exact hs2
        have hch := HC.out.trans ((Chg.of_ext (S := [pr, bq, bo, be]) hxw).setCell (.inl (by simp)) (p := ⟨bq, q, none⟩) (.slice a5 n5 c5))
        have HS3 := Lib.hid hs3
        have HCH := Lib.hid hch
        clear hs2 hs3 ho2 hr5 hch z0 zv zf hxw
        go_upto_region 6 with fail
        have hs4 : RmqAt _ B pr bq bo be p (s.inLs (frontL s.Ls q b)) := HS3.out
        have hch4 := HCH.out
        generalize (w2.setCell ⟨bq, q, none⟩ (.slice a5 n5 c5)) = w4 at *
        obtain ⟨_, _, _, y1, _, _, _, _, y6, y7, _⟩ := hs4.hcells
        have yx := hs4.cex hb
        have yf := hs4.f4 b
        have e7 : (s.inLs (frontL s.Ls q b)).now = s.now := rfl
        rw [e7] at y7
        have hnow := HNOW.out
        obtain ⟨nw, hnw⟩ : ∃ x, x = s.now := ⟨_, rfl⟩
        obtain ⟨lf, hlf9⟩ : ∃ x, x = p.life := ⟨_, rfl⟩
        have HFIN : Hid (RmqAt (w4.setCell ⟨be, b, none⟩ (.int .i64 ((nw + lf : Nat) : Int))) B pr bq bo be p (renewQ p (s.inLs (frontL s.Ls q b)) b) ∧ Chg [pr, bq, bo, be] w (w4.setCell ⟨be, b, none⟩ (.int .i64 ((nw + lf : Nat) : Int)))) :=
          Lib.hid ⟨by have := hs4.setEx hb (nw + lf); rw [hnw, hlf9] at this ⊢; exact this, hch4.setCell (.inl (by simp)) _⟩
        have ecast : ((nw + lf : Nat) : Int) = (nw : Int) + (lf : Int) := by omega
        have NPB : pr ∉ [be] := by have := hs4.nd; simp; exact this.2.2.1
        rw [ecast] at HFIN
        rw [← hnw] at y7 hnow
        rw [← hlf9] at y1 hlf
        have hwr : IntKind.i64.wrap ((nw : Int) + (lf : Int)) = (nw : Int) + (lf : Int) := by rw [IntKind.wrap_i64]; omega
        clear hs4 hch4 HS3 HCH e7 hnw hlf9 ecast hx2 HROW hv fz hl64 HL HM HC hc0 HLEN
        go_region_held3 (fun w' => w'.cell? ⟨pr, 6, none⟩ = some (.slice (some ⟨be, 0, none⟩) 64 64) ∧ w'.cell? ⟨pr, 7, none⟩ = some (.int .i64 nw) ∧ w'.cell? ⟨pr, 1, none⟩ = some (.int .i64 lf)) (exact ⟨chg_cell (S := [be]) (w := w4) (by repeat' (first | (with_reducible exact Chg.refl _ _) | (with_reducible assumption) | (with_reducible refine Chg.drewN ?_ _) | (with_reducible refine Chg.drew ?_) | (with_reducible refine Chg.alloc ?_ _) | (with_reducible refine Chg.setCell ?_ (.inl (by simp)) _) | (with_reducible refine Chg.trans ?_ (by assumption)) | (with_reducible refine Chg.ext ?_ (by assumption)))) y6 NPB, chg_cell (S := [be]) (w := w4) (by repeat' (first | (with_reducible exact Chg.refl _ _) | (with_reducible assumption) | (with_reducible refine Chg.drewN ?_ _) | (with_reducible refine Chg.drew ?_) | (with_reducible refine Chg.alloc ?_ _) | (with_reducible refine Chg.setCell ?_ (.inl (by simp)) _) | (with_reducible refine Chg.trans ?_ (by assumption)) | (with_reducible refine Chg.ext ?_ (by assumption)))) y7 NPB, chg_cell (S := [be]) (w := w4) (by repeat' (first | (with_reducible exact Chg.refl _ _) | (with_reducible assumption) | (with_reducible refine Chg.drewN ?_ _) | (with_reducible refine Chg.drew ?_) | (with_reducible refine Chg.alloc ?_ _) | (with_reducible refine Chg.setCell ?_ (.inl (by simp)) _) | (with_reducible refine Chg.trans ?_ (by assumption)) | (with_reducible refine Chg.ext ?_ (by assumption)))) y1 NPB⟩) (fail)
        all_goals
          go_wp2_with fail
          go_end0
          first | exact ⟨rfl, HFIN.out.1, HFIN.out.2⟩ | exact ⟨rfl, HFIN.out.1.ext (by repeat' (first | (with_reducible exact Ext.refl _) | (with_reducible assumption) | (with_reducible refine Ext.alloc ?_ _) | (with_reducible refine Ext.drewN ?_ _) | (with_reducible refine Ext.drew ?_) | (with_reducible refine Ext.trans ?_ (by assumption)))), HFIN.out.2.ext (by repeat' (first | (with_reducible exact Ext.refl _) | (with_reducible assumption) | (with_reducible refine Ext.alloc ?_ _) | (with_reducible refine Ext.drewN ?_ _) | (with_reducible refine Ext.drew ?_) | (with_reducible refine Ext.trans ?_ (by assumption))))⟩
end
end Go.Proofs.Ytibcfmnkpemieaa
