/-
  gradinelaw06.StoreWrites answers true. No condition.
-/
import Derived.Test.YtoadjmeopamgbaaRfNew
import Derived.Test.YtoadjmeopamgbaaRfSame
import Derived.Test.YtoadjmeopamgbaaRfStep
namespace Go.Proofs.Ytoadjmeopamgbaa
open Go.RowKit

theorem setCell_at {w : World} {b o : Nat} {u : Value} (h : w.cell? ⟨b, o, none⟩ = some u) (v : Value) : (w.setCell ⟨b, o, none⟩ v).cell? ⟨b, o, none⟩ = some v := World.cell?_setCell_same _ _ _ h
theorem cell_keep9 {w : World} {b o o' : Nat} {u : Value} (h : w.cell? ⟨b, o, none⟩ = some u) {v : Value} (hne : o ≠ o') : (w.setCell ⟨b, o', none⟩ v).cell? ⟨b, o, none⟩ = some u := (World.cell?_setCell_other _ _ _ _ (by simp)).trans h
set_option maxRecDepth 100000 in
set_option maxHeartbeats 16000000 in
theorem walk_StoreWrites (v0 v1 : Value) (w : World) (h0 : IsAgg4 v0) (h1 : IsNest Try.prog 40 w v1) :
    Calls Try.prog 3 #[v0, v1] w fun e w' => e = .returned (.bool true) ∧ Ext w w' := by
  obtain ⟨x0, x1, x2, x3, rfl, _⟩ := h0
  obtain ⟨n, V, A, hr, hA⟩ := acts_of h1
  have HRV := Lib.hid hr
  have HA := Lib.hid hA
  have HLO := Lib.hid (fun w' (hx : Ext w w') => llong v1 n V A w' (hr.ext hx) (fun i hi => by
    obtain ⟨g0, g1, g2, g3, g4, g5, g6, g7, g8⟩ := hA i hi
    exact ⟨g0, g1, g2, g3, g4, g5, g6, g7.ext hx, g8⟩))
  obtain ⟨av, cv, rfl, hnc, hcm, _, hs⟩ := hr
  have HS := Lib.hid hs
  clear hA hs hcm hnc h1
  go_enter Try.func3, Try.ntmps3
  go_upto_region 1 with fail
  have y0 := cell_new w #[.int .i64 x0, .int .i64 x1, .int .i64 x2, .int .i64 x3] 23 (0, 0) (j := 0) rfl
  have y1 := cell_new w #[.int .i64 x0, .int .i64 x1, .int .i64 x2, .int .i64 x3] 23 (0, 0) (j := 1) rfl
  have y2 := cell_new w #[.int .i64 x0, .int .i64 x1, .int .i64 x2, .int .i64 x3] 23 (0, 0) (j := 2) rfl
  have y3 := cell_new w #[.int .i64 x0, .int .i64 x1, .int .i64 x2, .int .i64 x3] 23 (0, 0) (j := 3) rfl
  have hszA : (w.alloc (.cells #[.int .i64 x0, .int .i64 x1, .int .i64 x2, .int .i64 x3] 23)).heap.size = w.heap.size + 1 := by simp
  have hxA : Ext w (w.alloc (.cells #[.int .i64 x0, .int .i64 x1, .int .i64 x2, .int .i64 x3] 23)) := (Ext.refl w).alloc _
  generalize (w.alloc (.cells #[.int .i64 x0, .int .i64 x1, .int .i64 x2, .int .i64 x3] 23)) = w1 at *
  obtain ⟨pb, hpb⟩ : ∃ pb, pb = w.heap.size := ⟨_, rfl⟩
  rw [← hpb] at y0 y1 y2 y3 hszA ⊢
  clear hszA
  clear hpb
  go_wp2_with fail
  refine (wakes06 _).mono ?_
  rintro e w2 ⟨rfl, hx2⟩
  have y0 := hx2.cellv y0
  have y1 := hx2.cellv y1
  have y2 := hx2.cellv y2
  have y3 := hx2.cellv y3
  have hxA := hxA.trans hx2
  clear hx2
  go_wp2_with fail
  refine (HLO.out _ hxA).mono ?_
  rintro e w3 ⟨lg, rfl, hlg, hx3⟩
  have y0 := hx3.cellv y0
  have y1 := hx3.cellv y1
  have y2 := hx3.cellv y2
  have y3 := hx3.cellv y3
  have hxA := hxA.trans hx3
  clear hx3 HLO
  cases lg with
  | true =>
    go_wp2_with fail
    go_ret
    exact ⟨rfl, hxA.trans (by repeat' (first | (with_reducible exact Ext.refl _) | (with_reducible assumption) | (with_reducible refine Ext.alloc ?_ _) | (with_reducible refine Ext.drewN ?_ _) | (with_reducible refine Ext.drew ?_) | (with_reducible refine Ext.trans ?_ (by assumption))))⟩
  | false =>
  obtain ⟨hn60, hDL⟩ := hlg rfl
  have HDL := Lib.hid hDL
  clear hlg hDL
  by_cases hok : ShOk x0 x1 x2 x3
  case neg =>
    have HRI := Lib.hid (fun w' => lright x0 x1 x2 x3 false (decide_eq_false hok) w')
    clear hok
    go_wp2_with fail
    refine (HRI.out _).mono ?_
    rintro e w4 ⟨rfl, hx4⟩
    go_wp2_with fail
    go_ret
    exact ⟨rfl, hxA.trans (hx4.trans (by repeat' (first | (with_reducible exact Ext.refl _) | (with_reducible assumption) | (with_reducible refine Ext.alloc ?_ _) | (with_reducible refine Ext.drewN ?_ _) | (with_reducible refine Ext.drew ?_) | (with_reducible refine Ext.trans ?_ (by assumption)))))⟩
  have HRI := Lib.hid (fun w' => lright x0 x1 x2 x3 true (decide_eq_true hok) w')
  obtain ⟨h, ok, rfl, rfl, rfl, rfl⟩ := shape_of hok
  have HOK := Lib.hid ok
  clear hok ok
  obtain ⟨z0, hz0⟩ : ∃ x : Int, x = (h.b : Nat) := ⟨_, rfl⟩
  obtain ⟨z1, hz1⟩ : ∃ x : Int, x = (h.s : Nat) := ⟨_, rfl⟩
  obtain ⟨z2, hz2⟩ : ∃ x : Int, x = (h.c : Nat) := ⟨_, rfl⟩
  obtain ⟨z3, hz3⟩ : ∃ x : Int, x = (h.k : Nat) := ⟨_, rfl⟩
  have HOP : Hid (∀ w' F p bl d, DiskAt w' F p bl d → Byt d → (∀ f ∈ F, f < w'.heap.size) → h.many ≤ d.rows.length → d.rows.getD 0 [] = [] → Calls Try.prog 14 #[.pointer (some ⟨p, 0, none⟩), .agg #[.int .i64 z0, .int .i64 z1, .int .i64 z2, .int .i64 z3]] w' fun e w'' => ∃ ps, e = .returned (.tuple #[.pointer (some ⟨ps, 0, none⟩), .int .i64 0]) ∧ StAt w'' F ps p bl h d ∧ w'.heap.size ≤ ps ∧ Ext w' w'') := Lib.hid (fun w' F p bl d hd hb hF hm h0 => by
    rw [hz0, hz1, hz2, hz3]
    exact sopen w' F p bl h d hd hb hF HOK.out hm (by rw [h0]; exact jT_nil h.s))
  have HNW : Hid (∀ w', Calls Try.prog 13 #[.int .i64 z0, .int .i64 z1, .int .i64 z2, .int .i64 z3] w' fun e w'' => ∃ (ps : Nat) (g : Nat → Nat), e = .returned (.pointer (some ⟨ps, 0, none⟩)) ∧ w'.heap.size ≤ ps ∧ ps < w''.heap.size ∧ (∀ j, j < 5 → ps < g j ∧ g j < w''.heap.size) ∧ (∀ F, ps ∈ F → (∀ j, j < 5 → g j ∈ F) → (∀ f ∈ F, f ≤ ps ∨ ∃ j, j < 5 ∧ f = g j) → RefAt w'' F ps g h (rX0 h)) ∧ Ext w' w'') := Lib.hid (fun w' => by
    rw [hz0, hz1, hz2, hz3]
    exact rnew06 h HOK.out w')
  rw [← hz0, ← hz1, ← hz2, ← hz3] at HRI
  rw [← hz0] at y0 ⊢
  rw [← hz1] at y1 ⊢
  rw [← hz2] at y2 ⊢
  rw [← hz3] at y3 ⊢
  have HMY : Hid (h.many ≤ 64) := Lib.hid (by have := HOK.out.many; omega)
  clear hz0 hz1 hz2 hz3
  go_wp2_with fail
  refine (HRI.out _).mono ?_
  rintro e w4 ⟨rfl, hx4⟩
  have y0 := hx4.cellv y0
  have y1 := hx4.cellv y1
  have y2 := hx4.cellv y2
  have y3 := hx4.cellv y3
  have hxA := hxA.trans hx4
  clear hx4 HRI
  have HX4 := Lib.hid hxA
  have HPB4 : Hid (pb < w4.heap.size) := Lib.hid (cell_lt y0)
  go_wp2_with fail
  refine (dnew_any 64 _ (by omega) (by omega)).mono ?_
  rintro e w5 ⟨p, bl, rfl, hd5, hp, hbl, hp1, hb1, hx5⟩
  replace y0 := hx5.cellv y0
  replace y1 := hx5.cellv y1
  replace y2 := hx5.cellv y2
  replace y3 := hx5.cellv y3
  have hxA := hxA.trans hx5
  go_wp2_with fail
  refine (HNW.out _).mono ?_
  rintro e w6 ⟨pr, g, rfl, hpr, hpr1, hg, hra, hx6⟩
  replace y0 := hx6.cellv y0
  replace y1 := hx6.cellv y1
  replace y2 := hx6.cellv y2
  replace y3 := hx6.cellv y3
  obtain ⟨FF, hFF⟩ : ∃ FF : List Nat, FF = [p, bl, pr, g 0, g 1, g 2, g 3, g 4] := ⟨_, rfl⟩
  have hFlt : ∀ f ∈ FF, f < w6.heap.size := by
    have h0 := hg 0 (by omega)
    have h1 := hg 1 (by omega)
    have h2 := hg 2 (by omega)
    have h3 := hg 3 (by omega)
    have h4 := hg 4 (by omega)
    have := hx6.size
    rw [hFF]; simp; omega
  have hgF : ∀ j, j < 5 → g j ∈ FF := by
    intro j hj
    rw [hFF]
    match j, hj with
    | 0, _ => simp
    | 1, _ => simp
    | 2, _ => simp
    | 3, _ => simp
    | 4, _ => simp
  have HGE : Hid (∀ f ∈ FF, w4.heap.size ≤ f) := Lib.hid (by
    have h0 := hg 0 (by omega)
    have h1 := hg 1 (by omega)
    have h2 := hg 2 (by omega)
    have h3 := hg 3 (by omega)
    have h4 := hg 4 (by omega)
    have := hx5.size
    rw [hFF]; simp; omega)
  have HR6 := Lib.hid (hra FF (by rw [hFF]; simp) hgF (fun f hf => by
    rw [hFF] at hf
    simp only [List.mem_cons, List.not_mem_nil, or_false] at hf
    rcases hf with rfl | rfl | rfl | rfl | rfl | rfl | rfl | rfl
    · left; omega
    · left; omega
    · left; omega
    · exact .inr ⟨0, by omega, rfl⟩
    · exact .inr ⟨1, by omega, rfl⟩
    · exact .inr ⟨2, by omega, rfl⟩
    · exact .inr ⟨3, by omega, rfl⟩
    · exact .inr ⟨4, by omega, rfl⟩))
  have HD6 := Lib.hid ((hd5 FF (by rw [hFF]; simp) (by rw [hFF]; simp)).ext hx6)
  have HAP : Hid (p ∉ [g 0, g 1, g 2, g 3, g 4] ∧ bl ∉ [g 0, g 1, g 2, g 3, g 4] ∧ pr ∉ [p, bl] ∧ (∀ j, j < 5 → g j ∉ [p, bl])) := Lib.hid (by
    have h0 := hg 0 (by omega)
    have h1 := hg 1 (by omega)
    have h2 := hg 2 (by omega)
    have h3 := hg 3 (by omega)
    have h4 := hg 4 (by omega)
    refine ⟨by simp; omega, by simp; omega, by simp; omega, fun j hj => ?_⟩
    have := hg j hj
    simp; omega)
  have HGF : Hid (∀ q ∈ [g 0, g 1, g 2, g 3, g 4], q ∈ FF) := Lib.hid (by rw [hFF]; simp)
  have HPF : Hid (∀ q ∈ [p, bl], q ∈ FF) := Lib.hid (by rw [hFF]; simp)
  have HCF : Hid (∀ q, q ∈ FF ↔ q ∈ [p, bl, pr, g 0, g 1, g 2, g 3, g 4]) := Lib.hid (by rw [hFF]; simp)
  have HFL := Lib.hid hFlt
  have hxA := hxA.trans hx6
  have HSP : Hid (∀ x ∈ FF, w.heap.size ≤ x) := Lib.hid (by
    intro x hx
    have h1 := HGE.out x hx
    have h2 := HX4.out.size
    omega)
  have HY : Hid (pb ∉ FF) := Lib.hid (fun hm => by have h1 := HGE.out _ hm; have := HPB4.out; omega)
  clear hd5 hp hbl hp1 hb1 hx5 hpr hpr1 hg hra hx6 hFF hFlt hgF HNW
  go_wp2_with fail
  refine (HOP.out _ FF p bl exD HD6.out (rep_byt 64) HFL.out (by show h.many ≤ 64; exact HMY.out) rfl).mono ?_
  rintro e w7 ⟨ps, rfl, hst, hps, hx7⟩
  replace y0 := hx7.cellv y0
  replace y1 := hx7.cellv y1
  replace y2 := hx7.cellv y2
  replace y3 := hx7.cellv y3
  have HST7 := Lib.hid hst
  have HR7 := Lib.hid (HR6.out.ext hx7)
  have HX7 := Lib.hid (hxA.trans hx7)
  have HF7 : Hid (∀ f ∈ FF, f < w7.heap.size) := Lib.hid (fun f hf => Nat.lt_of_lt_of_le (HFL.out f hf) hx7.size)
  have HPS7 : Hid (ps ∉ FF) := Lib.hid (fun hm => by have := HFL.out _ hm; omega)
  have HSIM := Lib.hid (sim_start h)
  clear hst hps hx7 HD6 HR6 HFL hxA HGE
  go_wp2_with fail
  go_loopw [7, 8, 45] (fun ck ce ci wr => ∃ (i ps : Nat) (d : Dk) (x : RX), i ≤ n ∧ ci = .int .i64 i ∧ ck = .pointer (some ⟨ps, 0, none⟩) ∧ ce = .int .i64 0 ∧ Hid (StAt wr FF ps p bl h d ∧ ps ∉ FF) ∧ Hid (RefAt wr FF pr g h x) ∧ Hid (Sim h d x) ∧ Hid (Fresh d ∧ d.rows.getD 0 [] = []) ∧ Hid (∀ f ∈ FF, f < wr.heap.size) ∧ Chg FF w7 wr ∧ Ext w wr) (fun _ _ ci _ => n - (intOf ci).toNat)
  case atStart => exact ⟨0, ps, exD, rX0 h, Nat.zero_le _, rfl, rfl, rfl, Lib.hid ⟨HST7.out, HPS7.out⟩, HR7, HSIM, Lib.hid ⟨⟨rfl, rfl⟩, rfl⟩, HF7, Chg.refl _ _, HX7.out⟩
  case round =>
    clear HST7 HR7 HSIM HF7 HX7 HPS7
    obtain ⟨i, ps, d, x, hi, rfl, rfl, rfl, HST, HRA, HSI, HFR, HF, hc7, hx⟩ := hrel
    by_cases hlt : i < n
    case neg =>
      go_wp2_with fail
      go_ret
      exact ⟨rfl, hx.trans (by repeat' (first | (with_reducible exact Ext.refl _) | (with_reducible assumption) | (with_reducible refine Ext.alloc ?_ _) | (with_reducible refine Ext.drewN ?_ _) | (with_reducible refine Ext.drew ?_) | (with_reducible refine Ext.trans ?_ (by assumption))))⟩
    have hii : (i : Int) < (n : Int) := by omega
    obtain ⟨bb, oo, rfl, hbb, hcell⟩ := HS.out (by omega)
    obtain ⟨g0, g1, g2, g3, g4, g5, g6, g7⟩ := act_cells hx hbb hcell HA.out hlt
    obtain ⟨_, _, _, _, _, _, _, hD, hok, _⟩ := HA.out i hlt
    have hDb := hok.D
    have hbo := hok.o
    obtain ⟨K0, hK0⟩ : ∃ z, z = (A i).1 := ⟨_, rfl⟩
    obtain ⟨K1, hK1⟩ : ∃ z, z = (A i).2.1 := ⟨_, rfl⟩
    obtain ⟨a, ha⟩ : ∃ z, z = (A i).2.2.c := ⟨_, rfl⟩
    obtain ⟨s, hs⟩ : ∃ z, z = (A i).2.2.k := ⟨_, rfl⟩
    obtain ⟨b, hb⟩ : ∃ z, z = (A i).2.2.b := ⟨_, rfl⟩
    obtain ⟨o, ho⟩ : ∃ z, z = (A i).2.2.o := ⟨_, rfl⟩
    obtain ⟨bk, hbk⟩ : ∃ z, z = (A i).2.2.bk := ⟨_, rfl⟩
    obtain ⟨D, hDe⟩ : ∃ z, z = (A i).2.2.D := ⟨_, rfl⟩
    rw [← hK0] at g0
    rw [← hK1] at g1
    rw [← ha] at g2
    rw [← hs] at g3
    rw [← hb] at g4
    rw [← ho] at g5 hbo
    rw [← hbk] at g6
    rw [← hDe] at hD hDb
    obtain ⟨dv, hdv⟩ : ∃ z, z = V i 7 := ⟨_, rfl⟩
    rw [← hdv] at g7 hD
    have HD := Lib.hid hD
    obtain ⟨ad, cc, rfl, _, _, _, hDs⟩ := hD.parts
    have HDo : Hid (0 < D.length → ∀ x, (Value.slice ad D.length cc).ownBlock = some x → x ∉ FF) := Lib.hid (fun hl x hx hm => by
      obtain ⟨b', o', rfl, hlt', _⟩ := hDs (by intro e; rw [e] at hl; simp at hl)
      have h1 := HSP.out _ hm
      cases hx
      simp only at h1
      omega)
    obtain ⟨nn, hnn⟩ : ∃ z, z = D.length := ⟨_, rfl⟩
    rw [← hnn] at HD HDo g7
    have HNN := Lib.hid hnn
    have HDB := Lib.hid hDb
    have HL100 : Hid (nn ≤ 100) := Lib.hid (by rw [hnn, hDe]; exact HDL.out i hlt)
    clear hK0 hK1 ha hs hb ho hbk hDe hdv hD hDs hnn hDb hcell hok
    replace y0 := chg_cellc hc7 y0 HY.out
    replace y1 := chg_cellc hc7 y1 HY.out
    replace y2 := chg_cellc hc7 y2 HY.out
    replace y3 := chg_cellc hc7 y3 HY.out
    by_cases hk : K0 = 0
    case neg =>
      have hk1 : (K0 != 0) = true := by simpa using hk
      go_upto_region 13 with fail
      have hxa : Ext wr (wr.alloc (.cells #[.int .i64 K0, .int .i64 K1, .int .i64 a, .int .i64 s, .int .i64 b, .int .i64 o, .int .i64 bk, .slice ad nn cc] 40)) := (Ext.refl wr).alloc _
      have e0 := cell_new wr #[.int .i64 K0, .int .i64 K1, .int .i64 a, .int .i64 s, .int .i64 b, .int .i64 o, .int .i64 bk, .slice ad nn cc] 40 (0, 0) (j := 0) rfl
      generalize (wr.alloc (.cells #[.int .i64 K0, .int .i64 K1, .int .i64 a, .int .i64 s, .int .i64 b, .int .i64 o, .int .i64 bk, .slice ad nn cc] 40)) = wa at *
      obtain ⟨q, hq⟩ : ∃ q, q = wr.heap.size := ⟨_, rfl⟩
      rw [← hq] at e0 ⊢
      clear hq g0 g1 g2 g3 g4 g5 g6 g7
      replace y0 := hxa.cellv y0
      replace y1 := hxa.cellv y1
      replace y2 := hxa.cellv y2
      replace y3 := hxa.cellv y3
      go_wp2_with fail
      refine (HOP.out _ FF p bl d (HST.out.1.dk.ext hxa) HST.out.1.byt (fun f hf => Nat.lt_of_lt_of_le (HF.out f hf) hxa.size) HST.out.1.many HFR.out.2).mono ?_
      rintro e wb ⟨ps2, rfl, hst2, hps2, hxb⟩
      have HS2 := Lib.hid hst2
      have HP2 : Hid (ps2 ∉ FF) := Lib.hid (fun hm => by have := HF.out _ hm; have := hxa.size; omega)
      have hxab := hxa.trans hxb
      clear hst2 hps2 hxa hxb
      go_wp2_with fail
      go_roundw
      case rel => exact ⟨i + 1, ps2, d, x, by omega, by go_num, rfl, rfl, Lib.hid ⟨HS2.out, HP2.out⟩, Lib.hid (HRA.out.ext hxab), HSI, HFR, Lib.hid (fun f hf => Nat.lt_of_lt_of_le (HF.out f hf) hxab.size), hc7.ext hxab, hx.trans hxab⟩
      case measure => simp [intOf]; omega
    have hk1 : (K0 != 0) = false := by simpa using hk
    clear hk
    go_upto_region 13 with fail
    have hxa : Ext wr (wr.alloc (.cells #[.int .i64 K0, .int .i64 K1, .int .i64 a, .int .i64 s, .int .i64 b, .int .i64 o, .int .i64 bk, .slice ad nn cc] 40)) := (Ext.refl wr).alloc _
    have e0 := cell_new wr #[.int .i64 K0, .int .i64 K1, .int .i64 a, .int .i64 s, .int .i64 b, .int .i64 o, .int .i64 bk, .slice ad nn cc] 40 (0, 0) (j := 0) rfl
    have e2 := cell_new wr #[.int .i64 K0, .int .i64 K1, .int .i64 a, .int .i64 s, .int .i64 b, .int .i64 o, .int .i64 bk, .slice ad nn cc] 40 (0, 0) (j := 2) rfl
    have e3 := cell_new wr #[.int .i64 K0, .int .i64 K1, .int .i64 a, .int .i64 s, .int .i64 b, .int .i64 o, .int .i64 bk, .slice ad nn cc] 40 (0, 0) (j := 3) rfl
    have e4 := cell_new wr #[.int .i64 K0, .int .i64 K1, .int .i64 a, .int .i64 s, .int .i64 b, .int .i64 o, .int .i64 bk, .slice ad nn cc] 40 (0, 0) (j := 4) rfl
    have e5 := cell_new wr #[.int .i64 K0, .int .i64 K1, .int .i64 a, .int .i64 s, .int .i64 b, .int .i64 o, .int .i64 bk, .slice ad nn cc] 40 (0, 0) (j := 5) rfl
    have e6 := cell_new wr #[.int .i64 K0, .int .i64 K1, .int .i64 a, .int .i64 s, .int .i64 b, .int .i64 o, .int .i64 bk, .slice ad nn cc] 40 (0, 0) (j := 6) rfl
    have e7 := cell_new wr #[.int .i64 K0, .int .i64 K1, .int .i64 a, .int .i64 s, .int .i64 b, .int .i64 o, .int .i64 bk, .slice ad nn cc] 40 (0, 0) (j := 7) rfl
    generalize (wr.alloc (.cells #[.int .i64 K0, .int .i64 K1, .int .i64 a, .int .i64 s, .int .i64 b, .int .i64 o, .int .i64 bk, .slice ad nn cc] 40)) = wa at *
    obtain ⟨q, hq⟩ : ∃ q, q = wr.heap.size := ⟨_, rfl⟩
    rw [← hq] at e0 e2 e3 e4 e5 e6 e7 ⊢
    have N1 : q ∉ FF := fun hm => by have := HF.out _ hm; omega
    have hXa := hx.trans hxa
    have hc7a := hc7.ext hxa
    have HSA := Lib.hid (HST.out.1.ext hxa)
    have HPS := Lib.hid HST.out.2
    have HRA2 := Lib.hid (HRA.out.ext hxa)
    have HFA : Hid (∀ f ∈ FF, f < wa.heap.size) := Lib.hid (fun f hf => Nat.lt_of_lt_of_le (HF.out f hf) hxa.size)
    have HDA := Lib.hid (HD.out.ext hXa)
    have HQ : Hid (q < wa.heap.size) := Lib.hid (cell_lt e2)
    clear hq hx hxa HST HF HRA g0 g1 g2 g3 g4 g5 g6 g7 y0 y1 y2 y3 HOP
    --[[A
    go_upto_region 18 with fail
    have hxw : Ext wa (wa.alloc (.cells #[.int .i64 a, .int .i64 s, .int .i64 b, .int .i64 o, .int .i64 bk, .slice ad nn cc] 38)) := (Ext.refl wa).alloc _
    have u0 := cell_new wa #[.int .i64 a, .int .i64 s, .int .i64 b, .int .i64 o, .int .i64 bk, .slice ad nn cc] 38 (0, 0) (j := 0) rfl
    have u1 := cell_new wa #[.int .i64 a, .int .i64 s, .int .i64 b, .int .i64 o, .int .i64 bk, .slice ad nn cc] 38 (0, 0) (j := 1) rfl
    have u2 := cell_new wa #[.int .i64 a, .int .i64 s, .int .i64 b, .int .i64 o, .int .i64 bk, .slice ad nn cc] 38 (0, 0) (j := 2) rfl
    have u3 := cell_new wa #[.int .i64 a, .int .i64 s, .int .i64 b, .int .i64 o, .int .i64 bk, .slice ad nn cc] 38 (0, 0) (j := 3) rfl
    have u4 := cell_new wa #[.int .i64 a, .int .i64 s, .int .i64 b, .int .i64 o, .int .i64 bk, .slice ad nn cc] 38 (0, 0) (j := 4) rfl
    have u5 := cell_new wa #[.int .i64 a, .int .i64 s, .int .i64 b, .int .i64 o, .int .i64 bk, .slice ad nn cc] 38 (0, 0) (j := 5) rfl
    have fu := frozen_row (heap_alloc_new wa (.cells #[.int .i64 a, .int .i64 s, .int .i64 b, .int .i64 o, .int .i64 bk, .slice ad nn cc] 38 (0, 0))) 5
    have hsw : (wa.alloc (.cells #[.int .i64 a, .int .i64 s, .int .i64 b, .int .i64 o, .int .i64 bk, .slice ad nn cc] 38)).heap.size = wa.heap.size + 1 := by simp
    generalize (wa.alloc (.cells #[.int .i64 a, .int .i64 s, .int .i64 b, .int .i64 o, .int .i64 bk, .slice ad nn cc] 38)) = wb at *
    obtain ⟨qw, hqw⟩ : ∃ q, q = wa.heap.size := ⟨_, rfl⟩
    rw [← hqw] at u0 u1 u2 u3 u4 u5 fu hsw ⊢
    replace e2 := hxw.cellv e2
    replace e3 := hxw.cellv e3
    replace e4 := hxw.cellv e4
    replace e5 := hxw.cellv e5
    replace e6 := hxw.cellv e6
    replace e7 := hxw.cellv e7
    have HQW : Hid (qw = wa.heap.size ∧ wb.heap.size = qw + 1) := Lib.hid ⟨hqw, hsw⟩
    have N2 : qw ∉ FF := fun hm => by have := HFA.out _ hm; omega
    have HXW := Lib.hid hxw
    have HQL : Hid (q < qw) := Lib.hid (by have := cell_lt e2; have := e2; rw [hqw]; exact HQ.out)
    clear hqw hsw hxw
    have a7 := cell_old (.cells #[] 5) e7
    go_wp2_with (at_builtin; go_loud (refine wpList_append_ints rfl _ _ 36 rfl 5 .u8 0 1 Try.underlying36 bytes_info (by decide) wb (by repeat' (first | (with_reducible exact Ext.refl _) | (with_reducible assumption) | (with_reducible refine Ext.alloc ?_ _) | (with_reducible refine Ext.drewN ?_ _) | (with_reducible refine Ext.drew ?_) | (with_reducible refine Ext.trans ?_ (by assumption)))) _ _ rfl (OwnI.empty .u8 5 wb (Nat.le_refl _)) _ _ rfl (HDA.out.ext (HXW.out.trans (by repeat' (first | (with_reducible exact Ext.refl _) | (with_reducible assumption) | (with_reducible refine Ext.alloc ?_ _) | (with_reducible refine Ext.drewN ?_ _) | (with_reducible refine Ext.drew ?_) | (with_reducible refine Ext.trans ?_ (by assumption)))))) (by have := HNN.out; have := HL100.out; unfold Fits; simp; omega) ?_))
    intro v2 w8 ho8 hx8
    try simp only [List.nil_append] at ho8
    have hown9 := own_other ho8 (a := ⟨qw, 5, none⟩) (fun b hb => by have := (ho8.lt b hb).1; have := HQW.out; simp; omega) v2
    have hx9 : Ext wa (w8.setCell ⟨qw, 5, none⟩ v2) := Below.setCell (HXW.out.trans hx8) (p := ⟨qw, 5, none⟩) (by have := HQW.out; simp; omega) v2
    have f8 := Ext.frz hx8 u5 fu
    replace u0 := hx8.cellv u0
    replace u1 := hx8.cellv u1
    replace u2 := hx8.cellv u2
    replace u3 := hx8.cellv u3
    replace u4 := hx8.cellv u4
    replace u5 := hx8.cellv u5
    replace e2 := hx8.cellv e2
    replace e3 := hx8.cellv e3
    replace e4 := hx8.cellv e4
    replace e5 := hx8.cellv e5
    replace e6 := hx8.cellv e6
    replace e7 := hx8.cellv e7
    have hrow9 : (w8.setCell ⟨qw, 5, none⟩ v2).cell? ⟨qw, 5, none⟩ = some v2 := setCell_at u5 v2
    have hc9 : Chg [qw] w8 (w8.setCell ⟨qw, 5, none⟩ v2) := chg_one _ _ _ _
    have HOV : Hid (∀ z, v2.ownBlock = some z → wa.heap.size < z) := Lib.hid (fun z hz => by have := (ho8.lt z hz).1; have := HQW.out; omega)
    obtain ⟨av2, nv2, cv2, rfl⟩ := ho8.rd.isSlice
    clear ho8 hx8 fu a7
    go_upto_region 19 with fail
    replace u0 := cell_keep9 u0 (v := .slice av2 nv2 cv2) (show (0 : Nat) ≠ 5 by decide)
    replace u1 := cell_keep9 u1 (v := .slice av2 nv2 cv2) (show (1 : Nat) ≠ 5 by decide)
    replace u2 := cell_keep9 u2 (v := .slice av2 nv2 cv2) (show (2 : Nat) ≠ 5 by decide)
    replace u3 := cell_keep9 u3 (v := .slice av2 nv2 cv2) (show (3 : Nat) ≠ 5 by decide)
    replace u4 := cell_keep9 u4 (v := .slice av2 nv2 cv2) (show (4 : Nat) ≠ 5 by decide)
    replace e2 := chg_cellc hc9 e2 (by have := HQL.out; simp; omega)
    replace e3 := chg_cellc hc9 e3 (by have := HQL.out; simp; omega)
    replace e4 := chg_cellc hc9 e4 (by have := HQL.out; simp; omega)
    replace e5 := chg_cellc hc9 e5 (by have := HQL.out; simp; omega)
    replace e6 := chg_cellc hc9 e6 (by have := HQL.out; simp; omega)
    replace e7 := chg_cellc hc9 e7 (by have := HQL.out; simp; omega)
    clear u5 f8
    have u5 := hrow9
    generalize (w8.setCell ⟨qw, 5, none⟩ (.slice av2 nv2 cv2)) = w9 at *
    clear hc9 hrow9
    have HO9 := Lib.hid hown9
    have HX9 := Lib.hid hx9
    have HS9 := Lib.hid (HSA.out.ext hx9)
    have HF9 : Hid (∀ f ∈ FF, f < w9.heap.size) := Lib.hid (fun f hf => Nat.lt_of_lt_of_le (HFA.out f hf) hx9.size)
    have HWS := Lib.hid (swrite_sim w9 FF ps p bl h d HS9.out HF9.out HFR.out.1 x HSI.out a s b o bk (.slice av2 nv2 cv2) D hown9.rd HDB.out (fun _ z hz hm => by have := HOV.out z hz; have := HFA.out z (HPF.out z hm); omega))
    clear hown9 hx9
    go_wp2_with fail
    refine HWS.out.mono ?_
    rintro e w10 ⟨r1, r2, d', x', rfl, hrw, hst', hch, hsim', hfr', hz'⟩
    replace e2 := chg_cellc hch e2 (fun hm => N1 (HPF.out _ hm))
    replace e3 := chg_cellc hch e3 (fun hm => N1 (HPF.out _ hm))
    replace e4 := chg_cellc hch e4 (fun hm => N1 (HPF.out _ hm))
    replace e5 := chg_cellc hch e5 (fun hm => N1 (HPF.out _ hm))
    replace e6 := chg_cellc hch e6 (fun hm => N1 (HPF.out _ hm))
    replace e7 := chg_cellc hch e7 (fun hm => N1 (HPF.out _ hm))
    replace u5 := chg_cellc hch u5 (fun hm => N2 (HPF.out _ hm))
    have hra10 := (HRA2.out.ext HX9.out).chg hch HPF.out HAP.out.2.2.1 HAP.out.2.2.2
    have HD10 : Hid (RdI .u8 w10 (.slice ad nn cc) D) := Lib.hid ((HDA.out.ext HX9.out).chgc hch (fun hne z hz hm => HDo.out (by rw [HNN.out]; cases D with | nil => exact absurd rfl hne | cons _ _ => simp) z hz (HPF.out z hm)))
    have HV10 : Hid (RdI .u8 w10 (.slice av2 nv2 cv2) D) := Lib.hid (HO9.out.rd.chgc hch (fun _ z hz hm => by have := HOV.out z hz; have := HFA.out z (HPF.out z hm); omega))
    have HF10 : Hid (∀ f ∈ FF, f < w10.heap.size) := Lib.hid (fun f hf => Nat.lt_of_lt_of_le (HF9.out f hf) hch.size)
    have HWX := Lib.hid (rwrite06 w10 FF pr g h x hra10 HOK.out (fun j hj => HSI.out.bd hj) HF10.out a s b o bk (.slice ad nn cc) D HD10.out (by rw [← HNN.out]; exact HDo.out) r1 r2 x' hrw)
    have HST' := Lib.hid hst'
    have HSI' := Lib.hid hsim'
    have HFR' : Hid (Fresh d' ∧ d'.rows.getD 0 [] = []) := Lib.hid ⟨hfr', hz' HFR.out.2⟩
    have HC10 : Hid (Chg FF w7 w10) := Lib.hid (hc7a.trans ((Chg.of_ext HX9.out).trans (hch.mono HPF.out)))
    have HX10 : Hid (Ext w w10) := Lib.hid ((hXa.trans HX9.out).chg hch (fun z hz => HSP.out z (HPF.out z hz)))
    clear hrw hst' hch hsim' hfr' hz' hra10 hc7a hXa HWS HS9 HO9 HX9 u0 u1 u2 u3 u4
    go_wp2_with fail
    refine HWX.out.mono ?_
    rintro e w11 ⟨rfl, hra11, hcg⟩
    replace e7 := chg_cellc hcg e7 (fun hm => N1 (HGF.out _ hm))
    replace u5 := chg_cellc hcg u5 (fun hm => N2 (HGF.out _ hm))
    have HS11 := Lib.hid (HST'.out.other hcg HGF.out (fun hm => HPS.out (HGF.out _ hm)) HAP.out.1 HAP.out.2.1)
    have HR11 := Lib.hid hra11
    have HD11 : Hid (RdI .u8 w11 (.slice ad nn cc) D) := Lib.hid (HD10.out.chgc hcg (fun hne z hz hm => HDo.out (by rw [HNN.out]; cases D with | nil => exact absurd rfl hne | cons _ _ => simp) z hz (HGF.out z hm)))
    have HV11 : Hid (RdI .u8 w11 (.slice av2 nv2 cv2) D) := Lib.hid (HV10.out.chgc hcg (fun _ z hz hm => by have := HOV.out z hz; have := HFA.out z (HGF.out z hm); omega))
    have HF11 : Hid (∀ f ∈ FF, f < w11.heap.size) := Lib.hid (fun f hf => Nat.lt_of_lt_of_le (HF10.out f hf) hcg.size)
    have HC11 : Hid (Chg FF w7 w11) := Lib.hid (HC10.out.trans (hcg.mono HGF.out))
    have HX11 : Hid (Ext w w11) := Lib.hid (HX10.out.chg hcg (fun z hz => HSP.out z (HGF.out z hz)))
    have HSM := Lib.hid (lsame w11 FF ps p bl h d' HS11.out FF pr g x' HR11.out true ⟨fun _ j hj => HSI'.out.blk j hj, fun _ => rfl⟩)
    clear hra11 hcg HWX e2 e3 e4 e5 e6
    go_wp2_with fail
    refine HSM.out.mono ?_
    rintro e w12 ⟨rfl, hx12⟩
    replace e7 := hx12.cellv e7
    replace u5 := hx12.cellv u5
    go_wp2_with fail
    refine (same_any _ _ D D _ (HV11.out.ext hx12) (HD11.out.ext hx12)).mono ?_
    rintro e w13 ⟨rfl, hx13⟩
    rw [show decide (D = D) = true from decide_eq_true rfl]
    have hx3 := hx12.trans hx13
    clear hx12 hx13
    go_wp2_with fail
    go_roundw
    case rel => exact ⟨i + 1, ps, d', x', by omega, by go_num, rfl, rfl, Lib.hid ⟨HS11.out.ext hx3, HPS.out⟩, Lib.hid (HR11.out.ext hx3), HSI', HFR', Lib.hid (fun f hf => Nat.lt_of_lt_of_le (HF11.out f hf) hx3.size), HC11.out.ext hx3, HX11.out.trans hx3⟩
    case measure => simp [intOf]; omega
    --]]
end Go.Proofs.Ytoadjmeopamgbaa
