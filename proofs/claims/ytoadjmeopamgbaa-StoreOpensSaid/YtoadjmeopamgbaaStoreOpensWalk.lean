/-
  gradinelaw06.StoreOpens answers true. No condition.
-/
import Derived.Test.YtoadjmeopamgbaaRfBlock
import Derived.Test.YtoadjmeopamgbaaStOpen2
import Derived.Test.YtoadjmeopamgbaaTexts
namespace Go.Proofs.Ytoadjmeopamgbaa
open Go.RowKit

theorem fresh_wr {d : Dk} (hf : Fresh d) {i : Nat} (hi : i < d.rows.length) (b : List Int) : Fresh (d.wr i b) := by
  by_cases hb : b.length ≤ 64
  · rw [hf.wr hi hb]; exact ⟨rfl, rfl⟩
  · have e : d.bad i b = 4 := by unfold Dk.bad; rw [hf.u, if_neg (by simp), if_pos ⟨by omega, by omega⟩, if_pos (by omega)]
    have e2 : d.wr i b = d := by unfold Dk.wr; rw [e, if_neg (by decide), if_neg (by decide)]
    rw [e2]; exact hf
def DskOk (w : World) (p bl : Nat) (d : Dk) (n : Nat) : Prop := DiskAt w [p, bl] p bl d ∧ Fresh d ∧ Byt d ∧ d.rows.length = n

set_option maxRecDepth 100000 in
set_option maxHeartbeats 16000000 in
theorem walk_StoreOpens (v0 v1 : Value) (w : World) (h0 : IsAgg4 v0) (h1 : IsTexts Try.prog 36 w v1) :
    Calls Try.prog 4 #[v0, v1] w fun e w' => e = .returned (.bool true) ∧ Ext w w' := by
  obtain ⟨x0, x1, x2, x3, rfl, _⟩ := h0
  obtain ⟨n, V, T, hr, hT⟩ := texts_of Try.underlying36 Try.underlying5 (by kernel_rfl) h1
  obtain ⟨av, cv, rfl, hnc, hcm, _, hs⟩ := hr
  have HT := Lib.hid hT
  have HS := Lib.hid hs
  have hn63 : (n : Int) ≤ 9223372036854775807 := by unfold maxLen at hcm; omega
  clear hT hs hcm hnc h1
  go_enter Try.func4, Try.ntmps4
  go_upto_region 1 with fail
  have y0 := cell_new w #[.int .i64 x0, .int .i64 x1, .int .i64 x2, .int .i64 x3] 23 (0, 0) (j := 0) rfl
  have y1 := cell_new w #[.int .i64 x0, .int .i64 x1, .int .i64 x2, .int .i64 x3] 23 (0, 0) (j := 1) rfl
  have y2 := cell_new w #[.int .i64 x0, .int .i64 x1, .int .i64 x2, .int .i64 x3] 23 (0, 0) (j := 2) rfl
  have y3 := cell_new w #[.int .i64 x0, .int .i64 x1, .int .i64 x2, .int .i64 x3] 23 (0, 0) (j := 3) rfl
  have hxA : Ext w (w.alloc (.cells #[.int .i64 x0, .int .i64 x1, .int .i64 x2, .int .i64 x3] 23)) := (Ext.refl w).alloc _
  generalize (w.alloc (.cells #[.int .i64 x0, .int .i64 x1, .int .i64 x2, .int .i64 x3] 23)) = w1 at *
  obtain ⟨pb, hpb⟩ : ∃ pb, pb = w.heap.size := ⟨_, rfl⟩
  rw [← hpb] at y0 y1 y2 y3 ⊢
  clear hpb
  go_wp2_with fail
  refine (wakes06 _).mono ?_
  rintro e w2 ⟨rfl, hx2⟩
  replace y0 := hx2.cellv y0
  replace y1 := hx2.cellv y1
  replace y2 := hx2.cellv y2
  replace y3 := hx2.cellv y3
  replace hxA := hxA.trans hx2
  clear hx2
  by_cases h64 : 64 < n
  · have hi1 : (64 : Int) < (n : Int) := by omega
    go_wp2_with fail
    go_ret
    exact ⟨rfl, hxA.trans (by repeat' (first | (with_reducible exact Ext.refl _) | (with_reducible assumption) | (with_reducible refine Ext.alloc ?_ _) | (with_reducible refine Ext.drewN ?_ _) | (with_reducible refine Ext.drew ?_) | (with_reducible refine Ext.trans ?_ (by assumption))))⟩
  have hi1 : ¬ (64 : Int) < (n : Int) := by omega
  have HPW : Hid (pb < w2.heap.size) := Lib.hid (cell_lt y0)
  go_wp2_with fail
  refine (dnew_any n _ (by omega) (by omega)).mono ?_
  rintro e w5 ⟨p, bl, rfl, hd5, hp, hbl, hp1, hb1, hx5⟩
  replace y0 := hx5.cellv y0
  replace y1 := hx5.cellv y1
  replace y2 := hx5.cellv y2
  replace y3 := hx5.cellv y3
  have HPB : Hid (pb ∉ [p, bl] ∧ ∀ x ∈ [p, bl], w.heap.size ≤ x) := Lib.hid (by
    have h1 := hxA.size
    have h2 := HPW.out
    refine ⟨by simp; omega, fun x hx => ?_⟩
    simp at hx; omega)
  replace hxA := hxA.trans hx5
  have HD5 : Hid (DskOk w5 p bl ⟨-1, false, List.replicate (dskN n) []⟩ n) := Lib.hid ⟨hd5 _ (by simp) (by simp), ⟨rfl, rfl⟩, rep_byt _, by simp [dskN]; omega⟩
  have HF5 : Hid (∀ f ∈ [p, bl], f < w5.heap.size) := Lib.hid (by simp; omega)
  have HX5 := Lib.hid hxA
  clear hd5 hp hbl hp1 hb1 hx5 hxA
  go_wp2_with fail
  go_loopw [6, 27] (fun _ ci wr => ∃ (i : Nat) (d : Dk), i ≤ n ∧ ci = .int .i64 i ∧ Hid (DskOk wr p bl d n) ∧ Hid (∀ f ∈ [p, bl], f < wr.heap.size) ∧ Chg [p, bl] w5 wr ∧ Ext w wr) (fun _ ci _ => n - (intOf ci).toNat)
  case atStart => exact ⟨0, _, Nat.zero_le _, rfl, HD5, HF5, Chg.refl _ _, HX5.out⟩
  case round =>
    clear HD5 HF5 HX5
    obtain ⟨i, d, hi, rfl, HDK, HF, hc5, hx⟩ := hrel
    by_cases hlt : i < n
    case pos =>
      have hii : (i : Int) < (n : Int) := by omega
      obtain ⟨bb, oo, rfl, hbb, hcell⟩ := HS.out (by omega)
      have k0 := hx.cellv (hcell i 0 hlt (by omega))
      rw [show oo + (i * 1 + 0) = oo + i by omega] at k0
      obtain ⟨dv, hdv⟩ : ∃ z, z = V i 0 := ⟨_, rfl⟩
      have hrd := (HT.out i hlt).1
      rw [← hdv] at k0 hrd
      obtain ⟨ad, nd, cd, rfl⟩ := hrd.isSlice
      have HRD := Lib.hid (hrd.ext hx)
      have HBY := Lib.hid (HT.out i hlt).2
      have HW := Lib.hid (dwrite_any [p, bl] p bl d wr HDK.out.1 i (.slice ad nd cd) (T i) HRD.out HF.out)
      clear hdv hrd hcell y0 y1 y2 y3
      go_wp2_with fail
      refine HW.out.mono ?_
      rintro e wx ⟨rfl, hd', hcx⟩
      have hil : i < d.rows.length := by rw [HDK.out.2.2.2]; exact hlt
      have HD' : Hid (DskOk wx p bl (d.wr i (T i)) n) := Lib.hid ⟨hd', fresh_wr HDK.out.2.1 hil _, wr_byt HDK.out.2.2.1 _ HBY.out, by rw [wr_len]; exact HDK.out.2.2.2⟩
      have hxx := hx.chg hcx HPB.out.2
      have hF' : Hid (∀ f ∈ [p, bl], f < wx.heap.size) := Lib.hid (fun f hf => Nat.lt_of_lt_of_le (HF.out f hf) hcx.size)
      have hc5' := hc5.trans hcx
      clear hd' hil hcx
      go_wp2_with fail
      go_roundw
      case rel => exact ⟨i + 1, _, by omega, by go_num, HD', hF', hc5', hxx⟩
      case measure => simp [intOf]; omega
    obtain rfl : i = n := by omega
    obtain ⟨wl, rfl⟩ : ∃ wl : World, wl = wr := ⟨_, rfl⟩
    replace y0 := chg_cellc hc5 y0 HPB.out.1
    replace y1 := chg_cellc hc5 y1 HPB.out.1
    replace y2 := chg_cellc hc5 y2 HPB.out.1
    replace y3 := chg_cellc hc5 y3 HPB.out.1
    clear hc5
    by_cases hok : ShOk x0 x1 x2 x3
    case neg =>
      have HOP := Lib.hid (fun w' => sopen_shape w' p x0 x1 x2 x3 hok)
      have HRI := Lib.hid (fun w' => lright x0 x1 x2 x3 false (decide_eq_false hok) w')
      clear hok
      by_cases hn0 : 0 < i
      case neg =>
        have hn1 : ¬ (0 : Int) < (i : Int) := by omega
        clear hn0
        go_wp2_with fail
        refine (HOP.out _).mono ?_
        rintro e w6 ⟨rfl, hx6⟩
        replace y0 := hx6.cellv y0
        replace y1 := hx6.cellv y1
        replace y2 := hx6.cellv y2
        replace y3 := hx6.cellv y3
        have hxw := hx.trans hx6
        clear hx hx6
        go_wp2_with fail
        refine (HRI.out _).mono ?_
        rintro e w7 ⟨rfl, hx7⟩
        go_wp2_with fail
        go_ret
        exact ⟨rfl, hxw.trans (hx7.trans (by repeat' (first | (with_reducible exact Ext.refl _) | (with_reducible assumption) | (with_reducible refine Ext.alloc ?_ _) | (with_reducible refine Ext.drewN ?_ _) | (with_reducible refine Ext.drew ?_) | (with_reducible refine Ext.trans ?_ (by assumption)))))⟩
      have hn1 : (0 : Int) < (i : Int) := by omega
      have HW := Lib.hid (dwrite_any [p, bl] p bl d wl HDK.out.1 0 (.slice none 0 0) [] (RdI.nil _ _) HF.out)
      clear hn0
      go_wp2_with fail
      refine HW.out.mono ?_
      rintro e w8 ⟨rfl, _, hc8⟩
      replace y0 := chg_cellc hc8 y0 HPB.out.1
      replace y1 := chg_cellc hc8 y1 HPB.out.1
      replace y2 := chg_cellc hc8 y2 HPB.out.1
      replace y3 := chg_cellc hc8 y3 HPB.out.1
      have hxw := hx.chg hc8 HPB.out.2
      clear hx hc8
      go_wp2_with fail
      refine (HOP.out _).mono ?_
      rintro e w6 ⟨rfl, hx6⟩
      replace y0 := hx6.cellv y0
      replace y1 := hx6.cellv y1
      replace y2 := hx6.cellv y2
      replace y3 := hx6.cellv y3
      replace hxw := hxw.trans hx6
      clear hx6
      go_wp2_with fail
      refine (HRI.out _).mono ?_
      rintro e w7 ⟨rfl, hx7⟩
      go_wp2_with fail
      go_ret
      exact ⟨rfl, hxw.trans (hx7.trans (by repeat' (first | (with_reducible exact Ext.refl _) | (with_reducible assumption) | (with_reducible refine Ext.alloc ?_ _) | (with_reducible refine Ext.drewN ?_ _) | (with_reducible refine Ext.drew ?_) | (with_reducible refine Ext.trans ?_ (by assumption)))))⟩
    have HRI := Lib.hid (fun w' => lright x0 x1 x2 x3 true (decide_eq_true hok) w')
    obtain ⟨h, ok, rfl, rfl, rfl, rfl⟩ := shape_of hok
    have HOK := Lib.hid ok
    have hck := ok.ck
    have hb32 := ok.b2
    obtain ⟨M, hM⟩ : ∃ M, M = h.many := ⟨_, rfl⟩
    obtain ⟨m, hm⟩ : ∃ m, m = h.c * h.k := ⟨_, rfl⟩
    have hMe : M = 1 + h.b + m := by rw [hM, hm]; rfl
    obtain ⟨z0, hz0⟩ : ∃ x : Int, x = (h.b : Nat) := ⟨_, rfl⟩
    obtain ⟨z1, hz1⟩ : ∃ x : Int, x = (h.s : Nat) := ⟨_, rfl⟩
    obtain ⟨z2, hz2⟩ : ∃ x : Int, x = (h.c : Nat) := ⟨_, rfl⟩
    obtain ⟨z3, hz3⟩ : ∃ x : Int, x = (h.k : Nat) := ⟨_, rfl⟩
    have hwm : IntKind.i64.wrap (z2 * z3) = (m : Nat) := by
      have e : z2 * z3 = ((m : Nat) : Int) := by rw [hz2, hz3, hm]; simp
      rw [e, IntKind.wrap_i64]
      omega
    have hw1 : IntKind.i64.wrap (1 + z0) = ((1 + h.b : Nat) : Int) := by rw [hz0, IntKind.wrap_i64]; omega
    have hw2 : IntKind.i64.wrap (((1 + h.b : Nat) : Int) + (m : Nat)) = (M : Nat) := by rw [IntKind.wrap_i64]; omega
    obtain ⟨zb, hzb⟩ : ∃ x : Int, x = ((1 + h.b : Nat) : Int) := ⟨_, rfl⟩
    rw [← hzb] at hw1 hw2
    have HZ : Hid (z0 = (h.b : Nat) ∧ z1 = (h.s : Nat) ∧ z2 = (h.c : Nat) ∧ z3 = (h.k : Nat)) := Lib.hid ⟨hz0, hz1, hz2, hz3⟩
    have HM := Lib.hid hM
    rw [← hz0, ← hz1, ← hz2, ← hz3] at HRI
    rw [← hz0] at y0 ⊢
    rw [← hz1] at y1 ⊢
    rw [← hz2] at y2 ⊢
    rw [← hz3] at y3 ⊢
    clear hz0 hz1 hz2 hz3 hzb hMe hm hM hck hb32 hok ok
    by_cases hsh : i < M
    case pos =>
      --[[S
      have hshi : (i : Int) < (M : Int) := by omega
      have HOP : Hid (∀ w' d', DiskAt w' [p, bl] p bl d' → d'.rows.length = i → Calls Try.prog 14 #[.pointer (some ⟨p, 0, none⟩), .agg #[.int .i64 z0, .int .i64 z1, .int .i64 z2, .int .i64 z3]] w' fun e w'' => e = .returned (.tuple #[.pointer none, .int .i64 6]) ∧ Ext w' w'') := Lib.hid (fun w' d' hd hl => by
        rw [HZ.out.1, HZ.out.2.1, HZ.out.2.2.1, HZ.out.2.2.2]
        exact sopen_short w' [p, bl] p bl h d' hd HOK.out (by rw [hl, ← HM.out]; exact hsh))
      by_cases hn0 : 0 < i
      case neg =>
        have hn1 : ¬ (0 : Int) < (i : Int) := by omega
        clear hn0
        go_wp2_with fail
        refine (HOP.out _ d HDK.out.1 HDK.out.2.2.2).mono ?_
        rintro e w6 ⟨rfl, hx6⟩
        replace y0 := hx6.cellv y0
        replace y1 := hx6.cellv y1
        replace y2 := hx6.cellv y2
        replace y3 := hx6.cellv y3
        have hxw := hx.trans hx6
        clear hx hx6
        go_wp2_with fail
        refine (HRI.out _).mono ?_
        rintro e w7 ⟨rfl, hx7⟩
        replace y0 := hx7.cellv y0
        replace y1 := hx7.cellv y1
        replace y2 := hx7.cellv y2
        replace y3 := hx7.cellv y3
        go_wp2_with fail
        go_ret
        exact ⟨rfl, hxw.trans (hx7.trans (by repeat' (first | (with_reducible exact Ext.refl _) | (with_reducible assumption) | (with_reducible refine Ext.alloc ?_ _) | (with_reducible refine Ext.drewN ?_ _) | (with_reducible refine Ext.drew ?_) | (with_reducible refine Ext.trans ?_ (by assumption)))))⟩
      have hn1 : (0 : Int) < (i : Int) := by omega
      have HW := Lib.hid (dwrite_any [p, bl] p bl d wl HDK.out.1 0 (.slice none 0 0) [] (RdI.nil _ _) HF.out)
      clear hn0
      go_wp2_with fail
      refine HW.out.mono ?_
      rintro e w8 ⟨rfl, hd8, hc8⟩
      have HD8 := Lib.hid hd8
      replace y0 := chg_cellc hc8 y0 HPB.out.1
      replace y1 := chg_cellc hc8 y1 HPB.out.1
      replace y2 := chg_cellc hc8 y2 HPB.out.1
      replace y3 := chg_cellc hc8 y3 HPB.out.1
      have hxw := hx.chg hc8 HPB.out.2
      clear hx hc8 hd8
      go_wp2_with fail
      refine (HOP.out _ _ HD8.out (by rw [wr_len]; exact HDK.out.2.2.2)).mono ?_
      rintro e w6 ⟨rfl, hx6⟩
      replace y0 := hx6.cellv y0
      replace y1 := hx6.cellv y1
      replace y2 := hx6.cellv y2
      replace y3 := hx6.cellv y3
      replace hxw := hxw.trans hx6
      clear hx6
      go_wp2_with fail
      refine (HRI.out _).mono ?_
      rintro e w7 ⟨rfl, hx7⟩
      replace y0 := hx7.cellv y0
      replace y1 := hx7.cellv y1
      replace y2 := hx7.cellv y2
      replace y3 := hx7.cellv y3
      go_wp2_with fail
      go_ret
      exact ⟨rfl, hxw.trans (hx7.trans (by repeat' (first | (with_reducible exact Ext.refl _) | (with_reducible assumption) | (with_reducible refine Ext.alloc ?_ _) | (with_reducible refine Ext.drewN ?_ _) | (with_reducible refine Ext.drew ?_) | (with_reducible refine Ext.trans ?_ (by assumption)))))⟩
      --]]
    --[[L
    have hshi : ¬ (i : Int) < (M : Int) := by omega
    have hMi : M ≤ i := by omega
    have HMI := Lib.hid hMi
    have hM1 : 0 < M := by rw [HM.out]; unfold Sh.many; omega
    have hn1 : (0 : Int) < (i : Int) := by omega
    have HW := Lib.hid (dwrite_any [p, bl] p bl d wl HDK.out.1 0 (.slice none 0 0) [] (RdI.nil _ _) HF.out)
    have hil : 0 < d.rows.length := by rw [HDK.out.2.2.2]; omega
    have HE : Hid (DskOk wl p bl d i) := HDK
    have hwr := HDK.out.2.1.wr (i := 0) hil (R := []) (by simp)
    obtain ⟨d2, hd2⟩ : ∃ d2, d2 = d.wr 0 [] := ⟨_, rfl⟩
    have HB2 : Hid (Byt d2) := Lib.hid (by rw [hd2]; exact wr_byt HDK.out.2.2.1 _ (by simp))
    have HL2 : Hid (d2.rows.length = i) := Lib.hid (by rw [hd2, wr_len]; exact HDK.out.2.2.2)
    have H00 : Hid (d2.rows.getD 0 [] = []) := Lib.hid (by
      have e : d2 = ⟨-1, false, d.rows.set 0 []⟩ := by rw [hd2]; exact_mod_cast hwr
      rw [e]
      show (d.rows.set 0 []).getD 0 [] = []
      rw [getD_set _ _ _ _ hil, if_pos rfl])
    rw [← hd2] at HW
    clear hd2 hwr hil hMi
    go_wp2_with fail
    refine HW.out.mono ?_
    rintro e w8 ⟨rfl, hd8, hc8⟩
    replace y0 := chg_cellc hc8 y0 HPB.out.1
    replace y1 := chg_cellc hc8 y1 HPB.out.1
    replace y2 := chg_cellc hc8 y2 HPB.out.1
    replace y3 := chg_cellc hc8 y3 HPB.out.1
    have hxw := hx.chg hc8 HPB.out.2
    have HF8 : Hid (∀ f ∈ [p, bl], f < w8.heap.size) := Lib.hid (fun f hf => Nat.lt_of_lt_of_le (HF.out f hf) hc8.size)
    have HOP : Hid (Calls Try.prog 14 #[.pointer (some ⟨p, 0, none⟩), .agg #[.int .i64 z0, .int .i64 z1, .int .i64 z2, .int .i64 z3]] w8 fun e w'' => ∃ ps, e = .returned (.tuple #[.pointer (some ⟨ps, 0, none⟩), .int .i64 0]) ∧ StAt w'' [p, bl] ps p bl h d2 ∧ w8.heap.size ≤ ps ∧ Ext w8 w'') := Lib.hid (by
      rw [HZ.out.1, HZ.out.2.1, HZ.out.2.2.1, HZ.out.2.2.2]
      exact sopen w8 [p, bl] p bl h d2 hd8 HB2.out HF8.out HOK.out (by rw [HL2.out, ← HM.out]; exact HMI.out) (by rw [H00.out]; exact jT_nil h.s))
    clear hx hc8 hd8 HDK HF HE
    go_wp2_with fail
    refine HOP.out.mono ?_
    rintro e w6 ⟨ps, rfl, hst, hps, hx6⟩
    replace y0 := hx6.cellv y0
    replace y1 := hx6.cellv y1
    replace y2 := hx6.cellv y2
    replace y3 := hx6.cellv y3
    have HST6 := Lib.hid hst
    replace hxw := hxw.trans hx6
    clear hx6 hps hst
    go_wp2_with fail
    refine (HRI.out _).mono ?_
    rintro e w7 ⟨rfl, hx7⟩
    replace y0 := hx7.cellv y0
    replace y1 := hx7.cellv y1
    replace y2 := hx7.cellv y2
    replace y3 := hx7.cellv y3
    have HST := Lib.hid (HST6.out.ext hx7)
    have HXW := Lib.hid (hxw.trans hx7)
    clear HST6 hxw hx7
    obtain ⟨Bn, hBn⟩ : ∃ x, x = h.b := ⟨_, rfl⟩
    obtain ⟨Sn, hSn⟩ : ∃ x, x = h.s := ⟨_, rfl⟩
    have HBS : Hid (Bn = h.b ∧ Sn = h.s ∧ Bn ≤ 32 ∧ Sn ≤ 16 ∧ 1 + Bn ≤ d2.rows.length) := Lib.hid ⟨hBn, hSn, by have := HOK.out.b2; omega, by have := HOK.out.s2; omega, by have h1 := HMI.out; have h2 := HL2.out; have h3 := HM.out; unfold Sh.many at h3; omega⟩
    have ez0 : z0 = (Bn : Nat) := by rw [hBn]; exact HZ.out.1
    have ez1 : z1 = (Sn : Nat) := by rw [hSn]; exact HZ.out.2.1
    clear hBn hSn
    subst ez0 ez1
    clear HOP HRI hn1 hM1
    have hB32 : Bn ≤ 32 := HBS.out.2.2.1
    go_wp2_with fail
    go_loopw [4, 9, 74] (fun cr _ cj ws => ∃ j : Nat, j ≤ Bn ∧ cj = .int .i64 j ∧ cr = .bool false ∧ Ext w7 ws) (fun _ _ cj _ => Bn - (intOf cj).toNat)
    case atStart => exact ⟨0, Nat.zero_le _, rfl, rfl, Ext.refl _⟩
    case round =>
      obtain ⟨j, hj, rfl, rfl, hxj⟩ := hrel
      by_cases hjb : j < Bn
      case neg =>
        obtain rfl : j = Bn := by omega
        go_wp2_with fail
        go_ret
        exact ⟨rfl, HXW.out.trans (hxj.trans (by repeat' (first | (with_reducible exact Ext.refl _) | (with_reducible assumption) | (with_reducible refine Ext.alloc ?_ _) | (with_reducible refine Ext.drewN ?_ _) | (with_reducible refine Ext.drew ?_) | (with_reducible refine Ext.trans ?_ (by assumption)))))⟩
      have hji : (j : Int) < (Bn : Int) := by omega
      replace y1 := hxj.cellv y1
      have st := HST.out.ext hxj
      have HR1 := Lib.hid (dread_any [p, bl] p bl d2 wr st.dk ((1 + j : Nat) : Int) ⟨by omega, by have := HBS.out; omega⟩)
      have HR2 := Lib.hid (fun w' (hx : Ext wr w') => sRead w' [p, bl] ps p bl h d2 (st.ext hx) j (by have := HBS.out; omega))
      have HSM := Lib.hid (st.dk.small (1 + j))
      have HBY := Lib.hid (HB2.out (1 + j))
      have e1 : ((1 + j : Nat) : Int) = 1 + (j : Int) := by omega
      simp only [Int.toNat_natCast] at HR1
      rw [e1] at HR1
      have hw3 : IntKind.i64.wrap (1 + (j : Int)) = 1 + (j : Int) := by rw [IntKind.wrap_i64]; omega
      obtain ⟨R, hR⟩ : ∃ R, R = d2.rows.getD (1 + j) [] := ⟨_, rfl⟩
      rw [← hR] at HR1 HR2 HSM HBY
      rw [← HBS.out.2.1] at HR2
      have HXJ := Lib.hid hxj
      clear hR e1 st hxj
      go_wp2_with fail
      refine HR1.out.mono ?_
      rintro e wa ⟨va, rfl, hoa, hxa⟩
      replace y1 := hxa.cellv y1
      have HBK := Lib.hid (rblock va R Sn wa hoa.rd HBY.out (by have := HSM.out; omega) (by have := HBS.out; omega))
      obtain ⟨aa, na, ca, rfl⟩ := hoa.rd.isSlice
      clear hoa
      go_wp2_with fail
      refine HBK.out.mono ?_
      rintro e wb ⟨vb, rfl, hob, hxb⟩
      have HOB := Lib.hid hob
      obtain ⟨ab, nb, cb, rfl⟩ := hob.isSlice
      have hxab := hxa.trans hxb
      clear hob
      go_wp2_with fail
      refine (HR2.out _ hxab).mono ?_
      rintro e wc ⟨vc, rfl, hoc, hxc⟩
      have HOC := Lib.hid hoc.rd
      have HOB2 := Lib.hid (HOB.out.ext hxc)
      obtain ⟨ac, nc, cc, rfl⟩ := hoc.rd.isSlice
      obtain ⟨u, hu⟩ : ∃ u, u = (sBlk Sn R).1 := ⟨_, rfl⟩
      obtain ⟨tx, htx⟩ : ∃ u, u = (sBlk Sn R).2 := ⟨_, rfl⟩
      rw [← hu]
      rw [← htx] at HOC HOB2
      clear hu htx hoc
      go_wp2_with fail
      refine (same_any _ _ tx tx _ (HOB2.out.ext (by repeat' (first | (with_reducible exact Ext.refl _) | (with_reducible assumption) | (with_reducible refine Ext.alloc ?_ _) | (with_reducible refine Ext.drewN ?_ _) | (with_reducible refine Ext.drew ?_) | (with_reducible refine Ext.trans ?_ (by assumption))))) (HOC.out.ext (by repeat' (first | (with_reducible exact Ext.refl _) | (with_reducible assumption) | (with_reducible refine Ext.alloc ?_ _) | (with_reducible refine Ext.drewN ?_ _) | (with_reducible refine Ext.drew ?_) | (with_reducible refine Ext.trans ?_ (by assumption)))))).mono ?_
      rintro e wz ⟨rfl, hxz⟩
      rw [show decide (tx = tx) = true from decide_eq_true rfl]
      go_wp2_with fail
      go_roundw
      case rel => exact ⟨j + 1, by omega, by go_num, rfl, HXJ.out.trans (hxab.trans (hxc.trans (hxz.trans (by repeat' (first | (with_reducible exact Ext.refl _) | (with_reducible assumption) | (with_reducible refine Ext.alloc ?_ _) | (with_reducible refine Ext.drewN ?_ _) | (with_reducible refine Ext.drew ?_) | (with_reducible refine Ext.trans ?_ (by assumption)))))))⟩
      case measure => simp [intOf]; omega
    --]]
end Go.Proofs.Ytoadjmeopamgbaa
