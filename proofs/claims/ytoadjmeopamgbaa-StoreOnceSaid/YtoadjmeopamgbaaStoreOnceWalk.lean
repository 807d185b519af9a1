/-
  gradinelaw06.StoreOnce answers true. No condition.
-/
import Derived.Test.YtoadjmeopamgbaaStLong
namespace Go.Proofs.Ytoadjmeopamgbaa
open Go.RowKit

set_option maxRecDepth 100000 in
set_option maxHeartbeats 16000000 in
theorem walk_StoreOnce (v0 v1 v2 : Value) (w : World) (h0 : IsAgg4 v0) (h1 : IsNest Try.prog 40 w v1) (h2 : IsInt .u8 v2) :
    Calls Try.prog 5 #[v0, v1, v2] w fun e w' => e = .returned (.bool true) ∧ Ext w w' := by
  obtain ⟨x0, x1, x2, x3, rfl, _⟩ := h0
  obtain ⟨n, V, A, hr, hA⟩ := acts_of h1
  obtain ⟨m, rfl, wm⟩ := h2
  obtain ⟨m0, m1⟩ := u8_bd wm
  obtain ⟨mm, rfl⟩ : ∃ mm : Nat, m = mm := ⟨m.toNat, by omega⟩
  have hmm : mm ≤ 255 := by omega
  have HRV := Lib.hid hr
  have HA := Lib.hid hA
  have HLO := Lib.hid (fun w' (hx : Ext w w') => llong v1 n V A w' (hr.ext hx) (fun i hi => by
    obtain ⟨g0, g1, g2, g3, g4, g5, g6, g7, g8⟩ := hA i hi
    exact ⟨g0, g1, g2, g3, g4, g5, g6, g7.ext hx, g8⟩))
  obtain ⟨av, cv, rfl, hnc, hcm, _, hs⟩ := hr
  have HS := Lib.hid hs
  clear hA hs hcm hnc h1 wm
  go_enter Try.func5, Try.ntmps5
  go_upto_region 1 with fail
  have y0 := cell_new w #[.int .i64 x0, .int .i64 x1, .int .i64 x2, .int .i64 x3] 23 (0, 0) (j := 0) rfl
  have y1 := cell_new w #[.int .i64 x0, .int .i64 x1, .int .i64 x2, .int .i64 x3] 23 (0, 0) (j := 1) rfl
  have y2 := cell_new w #[.int .i64 x0, .int .i64 x1, .int .i64 x2, .int .i64 x3] 23 (0, 0) (j := 2) rfl
  have y3 := cell_new w #[.int .i64 x0, .int .i64 x1, .int .i64 x2, .int .i64 x3] 23 (0, 0) (j := 3) rfl
  have hxA : Ext w (w.alloc (.cells #[.int .i64 x0, .int .i64 x1, .int .i64 x2, .int .i64 x3] 23)) := (Ext.refl w).alloc _
  generalize (w.alloc (.cells #[.int .i64 x0, .int .i64 x1, .int .i64 x2, .int .i64 x3] 23)) = w1 at *
  obtain ⟨pb, hpb⟩ : ∃ pb, pb = w.heap.size := ⟨_, rfl⟩
  rw [← hpb] at y0 y1 y2 y3 ⊢
  clear hpb
  go_wp2_with fail
  refine (wakes06 _).mono ?_
  rintro e w2 ⟨rfl, hx2⟩
  have y0 := hx2.cellv y0
  have y1 := hx2.cellv y1
  have y2 := hx2.cellv y2
  have y3 := hx2.cellv y3
  have hxA := hxA.trans hx2
  clear hx2
  go_wp2_with fail
  refine (HLO.out _ hxA).mono ?_
  rintro e w3 ⟨lg, rfl, hlg, hx3⟩
  have y0 := hx3.cellv y0
  have y1 := hx3.cellv y1
  have y2 := hx3.cellv y2
  have y3 := hx3.cellv y3
  have hxA := hxA.trans hx3
  clear hx3 HLO
  cases lg with
  | true =>
    go_wp2_with fail
    go_ret
    exact ⟨rfl, hxA.trans (by repeat' (first | (with_reducible exact Ext.refl _) | (with_reducible assumption) | (with_reducible refine Ext.alloc ?_ _) | (with_reducible refine Ext.drewN ?_ _) | (with_reducible refine Ext.drew ?_) | (with_reducible refine Ext.trans ?_ (by assumption))))⟩
  | false =>
  obtain ⟨hn60, hDL⟩ := hlg rfl
  have HDL := Lib.hid hDL
  clear hlg hDL
  by_cases hok : ShOk x0 x1 x2 x3
  case neg =>
    have HRI := Lib.hid (fun w' => lright x0 x1 x2 x3 false (decide_eq_false hok) w')
    clear hok
    go_wp2_with fail
    refine (HRI.out _).mono ?_
    rintro e w4 ⟨rfl, hx4⟩
    go_wp2_with fail
    go_ret
    exact ⟨rfl, hxA.trans (hx4.trans (by repeat' (first | (with_reducible exact Ext.refl _) | (with_reducible assumption) | (with_reducible refine Ext.alloc ?_ _) | (with_reducible refine Ext.drewN ?_ _) | (with_reducible refine Ext.drew ?_) | (with_reducible refine Ext.trans ?_ (by assumption)))))⟩
  have HRI := Lib.hid (fun w' => lright x0 x1 x2 x3 true (decide_eq_true hok) w')
  obtain ⟨h, ok, rfl, rfl, rfl, rfl⟩ := shape_of hok
  have HOK := Lib.hid ok
  clear hok ok
  obtain ⟨z0, hz0⟩ : ∃ x : Int, x = (h.b : Nat) := ⟨_, rfl⟩
  obtain ⟨z1, hz1⟩ : ∃ x : Int, x = (h.s : Nat) := ⟨_, rfl⟩
  obtain ⟨z2, hz2⟩ : ∃ x : Int, x = (h.c : Nat) := ⟨_, rfl⟩
  obtain ⟨z3, hz3⟩ : ∃ x : Int, x = (h.k : Nat) := ⟨_, rfl⟩
  have HOP : Hid (∀ w' p bl, DiskAt w' [p, bl] p bl exD → Calls Try.prog 14 #[.pointer (some ⟨p, 0, none⟩), .agg #[.int .i64 z0, .int .i64 z1, .int .i64 z2, .int .i64 z3]] w' fun e w'' => ∃ ps, e = .returned (.tuple #[.pointer (some ⟨ps, 0, none⟩), .int .i64 0]) ∧ StAt w'' [p, bl] ps p bl h exD ∧ w'.heap.size ≤ ps ∧ Ext w' w'') := Lib.hid (fun w' p bl hd => by
    rw [hz0, hz1, hz2, hz3]
    have hF : ∀ f ∈ [p, bl], f < w'.heap.size := by
      have h1 := hd.plt
      obtain ⟨cs, t, h2, _⟩ := hd.row
      have h3 := (Array.getElem?_eq_some_iff.1 (h2 (by decide))).1
      simp; omega
    exact sopen w' [p, bl] p bl h exD hd (rep_byt 64) hF HOK.out (by have := HOK.out.many; show h.many ≤ 64; omega) (by show (jT [] h.s).2 = false; exact jT_nil h.s))
  rw [← hz0, ← hz1, ← hz2, ← hz3] at HRI
  rw [← hz0] at y0 ⊢
  rw [← hz1] at y1 ⊢
  rw [← hz2] at y2 ⊢
  rw [← hz3] at y3 ⊢
  clear hz0 hz1 hz2 hz3
  go_wp2_with fail
  refine (HRI.out _).mono ?_
  rintro e w4 ⟨rfl, hx4⟩
  have y0 := hx4.cellv y0
  have y1 := hx4.cellv y1
  have y2 := hx4.cellv y2
  have y3 := hx4.cellv y3
  have hxA := hxA.trans hx4
  clear hx4 HRI
  go_wp2_with fail
  go_region_held3 (fun w' => w'.cell? ⟨pb, 0, none⟩ = some (.int .i64 z0) ∧ w'.cell? ⟨pb, 1, none⟩ = some (.int .i64 z1) ∧ w'.cell? ⟨pb, 2, none⟩ = some (.int .i64 z2) ∧ w'.cell? ⟨pb, 3, none⟩ = some (.int .i64 z3) ∧ Ext w4 w') (exact ⟨Ext.cellv (w := w4) (by repeat' (first | (with_reducible exact Ext.refl _) | (with_reducible assumption) | (with_reducible refine Ext.alloc ?_ _) | (with_reducible refine Ext.drewN ?_ _) | (with_reducible refine Ext.drew ?_) | (with_reducible refine Ext.trans ?_ (by assumption)))) y0, Ext.cellv (w := w4) (by repeat' (first | (with_reducible exact Ext.refl _) | (with_reducible assumption) | (with_reducible refine Ext.alloc ?_ _) | (with_reducible refine Ext.drewN ?_ _) | (with_reducible refine Ext.drew ?_) | (with_reducible refine Ext.trans ?_ (by assumption)))) y1, Ext.cellv (w := w4) (by repeat' (first | (with_reducible exact Ext.refl _) | (with_reducible assumption) | (with_reducible refine Ext.alloc ?_ _) | (with_reducible refine Ext.drewN ?_ _) | (with_reducible refine Ext.drew ?_) | (with_reducible refine Ext.trans ?_ (by assumption)))) y2, Ext.cellv (w := w4) (by repeat' (first | (with_reducible exact Ext.refl _) | (with_reducible assumption) | (with_reducible refine Ext.alloc ?_ _) | (with_reducible refine Ext.drewN ?_ _) | (with_reducible refine Ext.drew ?_) | (with_reducible refine Ext.trans ?_ (by assumption)))) y3, (by repeat' (first | (with_reducible exact Ext.refl _) | (with_reducible assumption) | (with_reducible refine Ext.alloc ?_ _) | (with_reducible refine Ext.drewN ?_ _) | (with_reducible refine Ext.drew ?_) | (with_reducible refine Ext.trans ?_ (by assumption))))⟩)
    (first
      | (go_at_call 12; refine Calls.mono (dnew_any 64 _ (by omega) (by omega)) ?_; rintro e w5 ⟨p, bl, rfl, hd5, hp, hbl, hp1, hb1, hx5⟩)
      | (go_at_call 14; refine Calls.mono (HOP.out _ p bl ((hd5 [p, bl] (by simp) (by simp)).ext (by (repeat' (first | (with_reducible exact Ext.refl _) | (with_reducible assumption) | (with_reducible refine Ext.alloc ?_ _) | (with_reducible refine Ext.drewN ?_ _) | (with_reducible refine Ext.drew ?_) | (with_reducible refine Ext.trans ?_ (by assumption)))); done))) ?_; rintro e w6 ⟨ps, rfl, hst, hps, hx6⟩))
  have hX6 : Ext w w6 := hxA.trans (show Ext w4 w6 from (by repeat' (first | (with_reducible exact Ext.refl _) | (with_reducible assumption) | (with_reducible refine Ext.alloc ?_ _) | (with_reducible refine Ext.drewN ?_ _) | (with_reducible refine Ext.drew ?_) | (with_reducible refine Ext.trans ?_ (by assumption)))))
  have HSP : Hid (∀ x ∈ [p, bl], w.heap.size ≤ x) := Lib.hid (by
    have h1 : w.heap.size ≤ w4.drew.heap.size := by simpa using hxA.size
    simp; omega)
  have HST6 := Lib.hid hst
  have HF6 : Hid (∀ f ∈ [p, bl], f < w6.heap.size) := Lib.hid (by have := hx6.size; simp; omega)
  clear hst hps hp hbl hp1 hb1 hd5 hx5 hx6 hxA y0 y1 y2 y3 HOP
  go_wp2_with fail
  go_loopw [43] (fun ci wr => ∃ (i : Nat) (d : Dk), i ≤ n ∧ ci = .int .i64 i ∧ Hid (Fresh d) ∧ Hid (StAt wr [p, bl] ps p bl h d) ∧ Hid (∀ f ∈ [p, bl], f < wr.heap.size) ∧ Ext w wr) (fun ci _ => n - (intOf ci).toNat)
  case atStart => exact ⟨0, exD, Nat.zero_le _, rfl, Lib.hid ⟨rfl, rfl⟩, HST6, HF6, hX6⟩
  case round =>
    clear HST6 HF6 hX6
    obtain ⟨i, d, hi, rfl, HFR, HST, HF, hx⟩ := hrel
    by_cases hlt : i < n
    case neg =>
      obtain rfl : i = n := by omega
      go_wp2_with fail
      go_ret
      exact ⟨rfl, hx⟩
    have hii : (i : Int) < (n : Int) := by omega
    obtain ⟨bb, oo, rfl, hbb, hcell⟩ := HS.out (by omega)
    obtain ⟨g0, g1, g2, g3, g4, g5, g6, g7⟩ := act_cells hx hbb hcell HA.out hlt
    obtain ⟨_, _, _, _, _, _, _, hD, hok, _⟩ := HA.out i hlt
    have hDb := hok.D
    have hbo := hok.o
    obtain ⟨K0, hK0⟩ : ∃ z, z = (A i).1 := ⟨_, rfl⟩
    obtain ⟨K1, hK1⟩ : ∃ z, z = (A i).2.1 := ⟨_, rfl⟩
    obtain ⟨a, ha⟩ : ∃ z, z = (A i).2.2.c := ⟨_, rfl⟩
    obtain ⟨s, hs⟩ : ∃ z, z = (A i).2.2.k := ⟨_, rfl⟩
    obtain ⟨b, hb⟩ : ∃ z, z = (A i).2.2.b := ⟨_, rfl⟩
    obtain ⟨o, ho⟩ : ∃ z, z = (A i).2.2.o := ⟨_, rfl⟩
    obtain ⟨bk, hbk⟩ : ∃ z, z = (A i).2.2.bk := ⟨_, rfl⟩
    obtain ⟨D, hDe⟩ : ∃ z, z = (A i).2.2.D := ⟨_, rfl⟩
    rw [← hK0] at g0
    rw [← hK1] at g1
    rw [← ha] at g2
    rw [← hs] at g3
    rw [← hb] at g4
    rw [← ho] at g5 hbo
    rw [← hbk] at g6
    rw [← hDe] at hD hDb
    obtain ⟨dv, hdv⟩ : ∃ z, z = V i 7 := ⟨_, rfl⟩
    rw [← hdv] at g7 hD
    have HD := Lib.hid hD
    obtain ⟨ad, cc, rfl, _, _, _, hDs⟩ := hD.parts
    have HDo : Hid (0 < D.length → ∀ x, (Value.slice ad D.length cc).ownBlock = some x → x ∉ [p, bl]) := Lib.hid (fun hl x hx hm => by
      obtain ⟨b', o', rfl, hlt', _⟩ := hDs (by intro e; rw [e] at hl; simp at hl)
      have h1 := HSP.out _ hm
      cases hx
      simp only at h1
      omega)
    obtain ⟨nn, hnn⟩ : ∃ z, z = D.length := ⟨_, rfl⟩
    rw [← hnn] at HD HDo g7
    have HNN := Lib.hid hnn
    have HDB := Lib.hid hDb
    clear hK0 hK1 ha hs hb ho hbk hDe hdv hD hDs hnn hDb hcell hok
    go_upto_region 11 with fail
    have hxa : Ext wr (wr.alloc (.cells #[.int .i64 K0, .int .i64 K1, .int .i64 a, .int .i64 s, .int .i64 b, .int .i64 o, .int .i64 bk, .slice ad nn cc] 40)) := (Ext.refl wr).alloc _
    have e2 := cell_new wr #[.int .i64 K0, .int .i64 K1, .int .i64 a, .int .i64 s, .int .i64 b, .int .i64 o, .int .i64 bk, .slice ad nn cc] 40 (0, 0) (j := 2) rfl
    have e3 := cell_new wr #[.int .i64 K0, .int .i64 K1, .int .i64 a, .int .i64 s, .int .i64 b, .int .i64 o, .int .i64 bk, .slice ad nn cc] 40 (0, 0) (j := 3) rfl
    have e4 := cell_new wr #[.int .i64 K0, .int .i64 K1, .int .i64 a, .int .i64 s, .int .i64 b, .int .i64 o, .int .i64 bk, .slice ad nn cc] 40 (0, 0) (j := 4) rfl
    have e5 := cell_new wr #[.int .i64 K0, .int .i64 K1, .int .i64 a, .int .i64 s, .int .i64 b, .int .i64 o, .int .i64 bk, .slice ad nn cc] 40 (0, 0) (j := 5) rfl
    have e6 := cell_new wr #[.int .i64 K0, .int .i64 K1, .int .i64 a, .int .i64 s, .int .i64 b, .int .i64 o, .int .i64 bk, .slice ad nn cc] 40 (0, 0) (j := 6) rfl
    have e7 := cell_new wr #[.int .i64 K0, .int .i64 K1, .int .i64 a, .int .i64 s, .int .i64 b, .int .i64 o, .int .i64 bk, .slice ad nn cc] 40 (0, 0) (j := 7) rfl
    generalize (wr.alloc (.cells #[.int .i64 K0, .int .i64 K1, .int .i64 a, .int .i64 s, .int .i64 b, .int .i64 o, .int .i64 bk, .slice ad nn cc] 40)) = wa at *
    obtain ⟨q, hq⟩ : ∃ q, q = wr.heap.size := ⟨_, rfl⟩
    rw [← hq] at e2 e3 e4 e5 e6 e7 ⊢
    have N1 : q ∉ [p, bl] := fun hm => by have := HF.out _ hm; omega
    have hXa := hx.trans hxa
    have HSA := Lib.hid (HST.out.ext hxa)
    have HFA : Hid (∀ f ∈ [p, bl], f < wa.heap.size) := Lib.hid (fun f hf => Nat.lt_of_lt_of_le (HF.out f hf) hxa.size)
    have HDA := Lib.hid (HD.out.ext hXa)
    clear hq hx hxa HST HF g0 g1 g2 g3 g4 g5 g6 g7
    by_cases hbad : stBad h a s b o bk nn = 0
    case neg =>
      have HB := Lib.hid (swrite_bad wa [p, bl] ps p bl h d HSA.out a s b o bk (.slice ad nn cc) D HDA.out (by rw [← HNN.out]; exact hbad))
      rw [← HNN.out] at HB
      obtain ⟨z, hz⟩ : ∃ z, z = stBad h a s b o bk nn := ⟨_, rfl⟩
      rw [← hz] at HB hbad
      have hb9 : (z != 0) = true := by rw [bne_iff_ne]; exact hbad
      clear hz hbad
      go_wp2_with fail
      refine HB.out.mono ?_
      rintro e wb ⟨rfl, hxb⟩
      go_wp2_with fail
      go_roundw
      case rel => exact ⟨i + 1, d, by omega, by go_num, HFR, Lib.hid (HSA.out.ext hxb), Lib.hid (fun f hf => Nat.lt_of_lt_of_le (HFA.out f hf) hxb.size), hXa.trans hxb⟩
      case measure => simp [intOf]; omega
    --[[B
    have hbo2 := bad_old hbad
    obtain ⟨c, k, blk, rfl, rfl, rfl, hc, hk, hbl, hbb2, hoo, hns⟩ := fit_nat hbad
    have hns' := hns
    rw [HNN.out] at hns'
    have hn0 : 0 < nn := by rw [hns]; exact HOK.out.s1
    have HVW := Lib.hid (st_view HOK.out HFR.out HSA.out.many hc hk hbl hbb2 hoo hns')
    have HOL := Lib.hid (once_law HOK.out HFR.out HSA.out.many hc hk hbl hbb2 hoo hns')
    have HW1 := Lib.hid (swrite_st wa [p, bl] ps p bl h d HSA.out HFA.out c k blk hc hk hbl b o hbb2 hoo (.slice ad nn cc) D HDA.out hns' HDB.out (HDo.out hn0))
    obtain ⟨res, hres⟩ : ∃ res, res = stW2 h d c k blk b o D := ⟨_, rfl⟩
    rw [← hres] at HVW HOL HW1
    obtain ⟨⟨r1, r2⟩, d1⟩ := res
    have HFR1 : Hid (Fresh d1) := Lib.hid HVW.out.1
    have HFT := Lib.hid (show (1 ≤ b ∧ b ≤ 1099511627776) ∧ (1 ≤ o ∧ o ≤ 1099511627776) ∧ c < h.c ∧ k < h.k ∧ blk < h.b ∧ D.length = h.s ∧ 0 < nn from ⟨hbb2, hoo, hc, hk, hbl, hns', hn0⟩)
    clear hres HVW hbad hns hns' hc hk hbl hn0 hbb2
    go_wp2_with fail
    refine HW1.out.mono ?_
    rintro e wb ⟨rfl, hstb, hcb⟩
    have hXb : Ext w wb := hXa.chg hcb HSP.out
    have HSB := Lib.hid hstb
    have HFB : Hid (∀ f ∈ [p, bl], f < wb.heap.size) := Lib.hid (fun f hf => Nat.lt_of_lt_of_le (HFA.out f hf) hcb.size)
    have HDBb := Lib.hid (HDA.out.chgc hcb (fun _ => HDo.out HFT.out.2.2.2.2.2.2))
    by_cases hr2 : r2 = 0
    case neg =>
      have hb9 : (r2 != 0) = true := by rw [bne_iff_ne]; exact hr2
      clear hstb hcb
      go_wp2_with fail
      go_roundw
      case rel => exact ⟨i + 1, d1, by omega, by go_num, HFR1, HSB, HFB, hXb⟩
      case measure => simp [intOf]; omega
    subst hr2
    have HSL : Hid (sSlot (d1.rows.getD (h.slotAt c k) []) = (b, o, r1)) := Lib.hid (HOL.out rfl)
    have e2 := chg_cellc hcb e2 N1
    have e3 := chg_cellc hcb e3 N1
    have e4 := chg_cellc hcb e4 N1
    have e5 := chg_cellc hcb e5 N1
    have e6 := chg_cellc hcb e6 N1
    have e7 := chg_cellc hcb e7 N1
    have HRD := Lib.hid (fun w' (st : StAt w' [p, bl] ps p bl h d1) => sRead w' [p, bl] ps p bl h d1 st blk HFT.out.2.2.2.2.1)
    obtain ⟨vv, hvv⟩ : ∃ x, x = (sBlk h.s (d1.rows.getD (1 + blk) [])).1 := ⟨_, rfl⟩
    obtain ⟨tt, htt⟩ : ∃ x, x = (sBlk h.s (d1.rows.getD (1 + blk) [])).2 := ⟨_, rfl⟩
    rw [← hvv, ← htt] at HRD
    clear hstb hcb HOL hvv htt
    go_wp2_with fail
    refine (HRD.out _ HSB.out).mono ?_
    rintro e wc ⟨vt, rfl, hot, hxc⟩
    obtain ⟨at1, nt1, ct1, rfl⟩ := hot.rd.isSlice
    have hXc := hXb.trans hxc
    have HSC := Lib.hid (HSB.out.ext hxc)
    have HFC : Hid (∀ f ∈ [p, bl], f < wc.heap.size) := Lib.hid (fun f hf => Nat.lt_of_lt_of_le (HFB.out f hf) hxc.size)
    have HDC := Lib.hid (HDBb.out.ext hxc)
    have HTC := Lib.hid hot.rd
    have HTO : Hid (∀ x, (Value.slice at1 nt1 ct1).ownBlock = some x → x ∉ [p, bl]) := Lib.hid (fun x hx hm => by have h1 := (hot.lt x hx).1; have h2 := HFB.out _ hm; omega)
    have e2 := hxc.cellv e2
    have e3 := hxc.cellv e3
    have e4 := hxc.cellv e4
    have e5 := hxc.cellv e5
    have e6 := hxc.cellv e6
    have e7 := hxc.cellv e7
    clear hot hxc
    go_wp2_with fail
    go_loopw [68] (fun cj ws => ∃ j : Nat, j ≤ mm % 4 ∧ cj = .int .i64 j ∧ Hid (StAt ws [p, bl] ps p bl h d1) ∧ Chg [p, bl] wc ws) (fun cj _ => mm % 4 - (intOf cj).toNat)
    case atStart => exact ⟨0, Nat.zero_le _, rfl, HSC, Chg.refl _ _⟩
    case round =>
      obtain ⟨j, hj, rfl, HSD, hcd⟩ := hrel
      have k2 := chg_cellc hcd e2 N1
      have k3 := chg_cellc hcd e3 N1
      have k4 := chg_cellc hcd e4 N1
      have k5 := chg_cellc hcd e5 N1
      have k6 := chg_cellc hcd e6 N1
      have k7 := chg_cellc hcd e7 N1
      have HDD := Lib.hid (HDC.out.chgc hcd (fun _ => HDo.out HFT.out.2.2.2.2.2.2))
      have HFD : Hid (∀ f ∈ [p, bl], f < wr.heap.size) := Lib.hid (fun f hf => Nat.lt_of_lt_of_le (HFC.out f hf) hcd.size)
      by_cases hjm : j < mm % 4
      case pos =>
        have hji : (j : Int) < (mm : Int) % 4 := by omega
        have HW2 := Lib.hid (swrite_st wr [p, bl] ps p bl h d1 HSD.out HFD.out c k blk HFT.out.2.2.1 HFT.out.2.2.2.1 HFT.out.2.2.2.2.1 b o HFT.out.1 HFT.out.2.1 (.slice ad nn cc) D HDD.out HFT.out.2.2.2.2.2.1 HDB.out (HDo.out HFT.out.2.2.2.2.2.2))
        rw [once_again HSL.out] at HW2
        clear e2 e3 e4 e5 e6 e7
        go_wp2_with fail
        refine HW2.out.mono ?_
        rintro e we ⟨rfl, hste, hce⟩
        have HSE := Lib.hid hste
        have hcde := hcd.trans hce
        clear hste hce
        go_wp2_with fail
        go_roundw
        case rel => exact ⟨j + 1, by omega, by go_num, HSE, hcde⟩
        case measure => simp [intOf]; omega
      have hji : ¬ (j : Int) < (mm : Int) % 4 := by omega
      --[[C
      clear e2 e3 e4 e5 e6 e7
      obtain ⟨wd, rfl⟩ : ∃ wd : World, wd = wr := ⟨_, rfl⟩
      go_upto_region 21 with fail
      have hxe : Ext wd (wd.alloc (.cells #[.int .i64 c, .int .i64 k, .int .i64 b, .int .i64 o, .int .i64 blk, .slice ad nn cc] 38)) := (Ext.refl wd).alloc _
      have hrow := heap_alloc_new wd (.cells #[.int .i64 c, .int .i64 k, .int .i64 b, .int .i64 o, .int .i64 blk, .slice ad nn cc] 38)
      have hXd : Ext w wd := hXc.chg hcd HSP.out
      generalize (wd.alloc (.cells #[.int .i64 c, .int .i64 k, .int .i64 b, .int .i64 o, .int .i64 blk, .slice ad nn cc] 38)) = we at *
      obtain ⟨q2, hq2⟩ : ∃ q2, q2 = wd.heap.size := ⟨_, rfl⟩
      rw [← hq2] at hrow ⊢
      have HQ2 := Lib.hid hq2
      clear hq2
      have h33 := cell_of_row we q2 3 _ _ _ hrow
      simp at h33
      have hfz := frozen_row hrow 3
      have hwo : IntKind.i64.wrap (o - 1) = o - 1 := IntWalk.i64_in _ (by have := HFT.out.2.1; omega)
      go_upto_region 22 with fail
      have hrow2 : (we.setCell ⟨q2, 3, none⟩ (.int .i64 (o - 1))).heap[q2]? = some (.cells #[.int .i64 c, .int .i64 k, .int .i64 b, .int .i64 (o - 1), .int .i64 blk, .slice ad nn cc] 38) := by simpa using heap_set (o := 3) hrow (.int .i64 (o - 1))
      have hxf : Ext wd (we.setCell ⟨q2, 3, none⟩ (.int .i64 (o - 1))) := Below.setCell hxe (p := ⟨q2, 3, none⟩) (by have := HQ2.out; simp; omega) _
      generalize (we.setCell ⟨q2, 3, none⟩ (.int .i64 (o - 1))) = wf at *
      have f0 := cell_of_row wf q2 0 _ _ _ hrow2
      have f1 := cell_of_row wf q2 1 _ _ _ hrow2
      have f2 := cell_of_row wf q2 2 _ _ _ hrow2
      have f3 := cell_of_row wf q2 3 _ _ _ hrow2
      have f4 := cell_of_row wf q2 4 _ _ _ hrow2
      have f5 := cell_of_row wf q2 5 _ _ _ hrow2
      simp at f0 f1 f2 f3 f4 f5
      have k6 := hxf.cellv k6
      have HSF := Lib.hid (HSD.out.ext hxf)
      have HFF : Hid (∀ f ∈ [p, bl], f < wf.heap.size) := Lib.hid (fun f hf => Nat.lt_of_lt_of_le (HFD.out f hf) hxf.size)
      have HDF := Lib.hid (HDD.out.ext hxf)
      have HTF := Lib.hid ((HTC.out.chgc hcd (fun _ => HTO.out)).ext hxf)
      have hXf := hXd.trans hxf
      clear hxe hrow h33 hfz hwo hrow2 hxf hcd hXd k2 k3 k4 k5 k7
      by_cases ho1 : o = 1
      · rw [if_pos ho1] at hbo2
        have HB := Lib.hid (swrite_bad wf [p, bl] ps p bl h d1 HSF.out c k b (o - 1) blk (.slice ad nn cc) D HDF.out (by rw [← HNN.out, hbo2]; decide))
        rw [← HNN.out, hbo2] at HB
        clear hbo2 ho1
        go_wp2_with fail
        refine HB.out.mono ?_
        rintro e wg ⟨rfl, hxg⟩
        have k6 := hxg.cellv k6
        have HS2 := Lib.hid (HSF.out.ext hxg)
        have HF2 : Hid (∀ f ∈ [p, bl], f < wg.heap.size) := Lib.hid (fun f hf => Nat.lt_of_lt_of_le (HFF.out f hf) hxg.size)
        have HT2 := Lib.hid (HTF.out.ext hxg)
        have HX2 : Hid (Ext w wg) := Lib.hid (hXf.trans hxg)
        clear hxg f0 f1 f2 f3 f4 f5
        have hst2 := HS2.out
        go_wp2_with fail
        refine (HRD.out _ HS2.out).mono ?_
        rintro e wh ⟨vt2, rfl, ho2, hxh⟩
        obtain ⟨at2, nt2, ct2, rfl⟩ := ho2.rd.isSlice
        have HT1 := Lib.hid (HT2.out.ext hxh)
        have HT3 := Lib.hid ho2.rd
        have hXh := HX2.out.trans hxh
        have HSH := Lib.hid (HS2.out.ext hxh)
        have HFH : Hid (∀ f ∈ [p, bl], f < wh.heap.size) := Lib.hid (fun f hf => Nat.lt_of_lt_of_le (HF2.out f hf) hxh.size)
        clear ho2 hxh hst2
        go_wp2_with fail
        refine (same_any _ _ tt tt _ (HT1.out.ext (by repeat' (first | (with_reducible exact Ext.refl _) | (with_reducible assumption) | (with_reducible refine Ext.alloc ?_ _) | (with_reducible refine Ext.drewN ?_ _) | (with_reducible refine Ext.drew ?_) | (with_reducible refine Ext.trans ?_ (by assumption))))) (HT3.out.ext (by repeat' (first | (with_reducible exact Ext.refl _) | (with_reducible assumption) | (with_reducible refine Ext.alloc ?_ _) | (with_reducible refine Ext.drewN ?_ _) | (with_reducible refine Ext.drew ?_) | (with_reducible refine Ext.trans ?_ (by assumption)))))).mono ?_
        rintro e wi ⟨rfl, hxi⟩
        rw [show decide (tt = tt) = true from decide_eq_true rfl]
        go_wp2_with fail
        go_roundw
        case rel => exact ⟨i + 1, d1, by omega, by go_num, HFR1, Lib.hid (HSH.out.ext (by repeat' (first | (with_reducible exact Ext.refl _) | (with_reducible assumption) | (with_reducible refine Ext.alloc ?_ _) | (with_reducible refine Ext.drewN ?_ _) | (with_reducible refine Ext.drew ?_) | (with_reducible refine Ext.trans ?_ (by assumption))))), Lib.hid (fun f hf => Nat.lt_of_lt_of_le (HFH.out f hf) (Ext.size (w := wh) (by repeat' (first | (with_reducible exact Ext.refl _) | (with_reducible assumption) | (with_reducible refine Ext.alloc ?_ _) | (with_reducible refine Ext.drewN ?_ _) | (with_reducible refine Ext.drew ?_) | (with_reducible refine Ext.trans ?_ (by assumption)))))), hXh.trans (by repeat' (first | (with_reducible exact Ext.refl _) | (with_reducible assumption) | (with_reducible refine Ext.alloc ?_ _) | (with_reducible refine Ext.drewN ?_ _) | (with_reducible refine Ext.drew ?_) | (with_reducible refine Ext.trans ?_ (by assumption))))⟩
        case measure => simp [intOf]; omega
      · rw [if_neg ho1] at hbo2
        have HW3 := Lib.hid (swrite_st wf [p, bl] ps p bl h d1 HSF.out HFF.out c k blk HFT.out.2.2.1 HFT.out.2.2.2.1 HFT.out.2.2.2.2.1 b (o - 1) HFT.out.1 (by have := HFT.out.2.1; omega) (.slice ad nn cc) D HDF.out HFT.out.2.2.2.2.2.1 HDB.out (HDo.out HFT.out.2.2.2.2.2.2))
        rw [once_old HSL.out] at HW3
        clear hbo2 ho1
        go_wp2_with fail
        refine HW3.out.mono ?_
        rintro e wg ⟨rfl, hstg, hcg⟩
        have k6 := chg_cellc hcg k6 N1
        have HS2 := Lib.hid hstg
        have HF2 : Hid (∀ f ∈ [p, bl], f < wg.heap.size) := Lib.hid (fun f hf => Nat.lt_of_lt_of_le (HFF.out f hf) hcg.size)
        have HT2 := Lib.hid (HTF.out.chgc hcg (fun _ => HTO.out))
        have HX2 : Hid (Ext w wg) := Lib.hid (hXf.chg hcg HSP.out)
        clear hstg hcg f0 f1 f2 f3 f4 f5
        have hst2 := HS2.out
        go_wp2_with fail
        refine (HRD.out _ HS2.out).mono ?_
        rintro e wh ⟨vt2, rfl, ho2, hxh⟩
        obtain ⟨at2, nt2, ct2, rfl⟩ := ho2.rd.isSlice
        have HT1 := Lib.hid (HT2.out.ext hxh)
        have HT3 := Lib.hid ho2.rd
        have hXh := HX2.out.trans hxh
        have HSH := Lib.hid (HS2.out.ext hxh)
        have HFH : Hid (∀ f ∈ [p, bl], f < wh.heap.size) := Lib.hid (fun f hf => Nat.lt_of_lt_of_le (HF2.out f hf) hxh.size)
        clear ho2 hxh hst2
        go_wp2_with fail
        refine (same_any _ _ tt tt _ (HT1.out.ext (by repeat' (first | (with_reducible exact Ext.refl _) | (with_reducible assumption) | (with_reducible refine Ext.alloc ?_ _) | (with_reducible refine Ext.drewN ?_ _) | (with_reducible refine Ext.drew ?_) | (with_reducible refine Ext.trans ?_ (by assumption))))) (HT3.out.ext (by repeat' (first | (with_reducible exact Ext.refl _) | (with_reducible assumption) | (with_reducible refine Ext.alloc ?_ _) | (with_reducible refine Ext.drewN ?_ _) | (with_reducible refine Ext.drew ?_) | (with_reducible refine Ext.trans ?_ (by assumption)))))).mono ?_
        rintro e wi ⟨rfl, hxi⟩
        rw [show decide (tt = tt) = true from decide_eq_true rfl]
        go_wp2_with fail
        go_roundw
        case rel => exact ⟨i + 1, d1, by omega, by go_num, HFR1, Lib.hid (HSH.out.ext (by repeat' (first | (with_reducible exact Ext.refl _) | (with_reducible assumption) | (with_reducible refine Ext.alloc ?_ _) | (with_reducible refine Ext.drewN ?_ _) | (with_reducible refine Ext.drew ?_) | (with_reducible refine Ext.trans ?_ (by assumption))))), Lib.hid (fun f hf => Nat.lt_of_lt_of_le (HFH.out f hf) (Ext.size (w := wh) (by repeat' (first | (with_reducible exact Ext.refl _) | (with_reducible assumption) | (with_reducible refine Ext.alloc ?_ _) | (with_reducible refine Ext.drewN ?_ _) | (with_reducible refine Ext.drew ?_) | (with_reducible refine Ext.trans ?_ (by assumption)))))), hXh.trans (by repeat' (first | (with_reducible exact Ext.refl _) | (with_reducible assumption) | (with_reducible refine Ext.alloc ?_ _) | (with_reducible refine Ext.drewN ?_ _) | (with_reducible refine Ext.drew ?_) | (with_reducible refine Ext.trans ?_ (by assumption))))⟩
        case measure => simp [intOf]; omega
      --]]
    --]]
end Go.Proofs.Ytoadjmeopamgbaa
