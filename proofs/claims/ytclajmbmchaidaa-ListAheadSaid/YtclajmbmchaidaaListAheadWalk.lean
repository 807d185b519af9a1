/-
  gradinelaw10.ListAhead answers true. No condition.
-/
import Derived.Test.YtclajmbmchaidaaRspDo4
import Derived.Test.YtclajmbmchaidaaLruFn
import Derived.Test.YtclajmbmchaidaaRspNew
import Derived.Test.YtclajmbmchaidaaPlace
import Derived.Test.YtclajmbmchaidaaRowsIn
import Derived.Deep.RegionHeld3
namespace Go.Proofs.Ytclajmbmchaidaa
open Go.RowKit

theorem row3i_cells {w w' : World} {b o n k : Nat} {F : Nat → Nat → Int} (hx : Ext w w') (hb : b < w.heap.size) (hc : ∀ i f, i < n → f < 3 → w.cell? ⟨b, o + (i * 3 + f), none⟩ = some (.int .i64 (F i f))) (hk : k < n) :
    w'.cell? ⟨b, o + k * 3, none⟩ = some (.int .i64 (F k 0)) ∧ w'.cell? ⟨b, o + k * 3 + 1, none⟩ = some (.int .i64 (F k 1)) ∧ w'.cell? ⟨b, o + k * 3 + 2, none⟩ = some (.int .i64 (F k 2)) :=
  ⟨(hx.cell hb).trans (hc k 0 hk (by omega)), (hx.cell hb).trans (hc k 1 hk (by omega)), (hx.cell hb).trans (hc k 2 hk (by omega))⟩

set_option maxRecDepth 100000 in
set_option maxHeartbeats 4000000 in
theorem walk_ListAhead (v0 v1 v2 : Value) (w : World) (h0 : IsRows 3 w v0) (h1 : IsInt .i64 v1) (h2 : IsInt .i64 v2) :
    Calls Try.prog 5 #[v0, v1, v2] w fun e w' => e = .returned (.bool true) ∧ Ext w w' := by
  obtain ⟨n, F, hr, _⟩ := h0
  obtain ⟨x, rfl, _⟩ := h1
  obtain ⟨y, rfl, _⟩ := h2
  obtain ⟨a, cp, rfl, hnc, hn63, hs⟩ := hr.parts
  have HS := Lib.hid hs
  clear hs hr hnc
  by_cases hA : (100 : Int) < (n : Int)
  · go_enter Try.func5, Try.ntmps5
    go_wp2_with fail
    refine (wakes10 _).mono ?_
    rintro e w1 ⟨rfl, hx1⟩
    go_wp2_with fail
    go_ret
    exact ⟨rfl, (by repeat' (first | (with_reducible exact Ext.refl _) | (with_reducible assumption) | (with_reducible refine Ext.alloc ?_ _) | (with_reducible refine Ext.drewN ?_ _) | (with_reducible refine Ext.drew ?_) | (with_reducible refine Ext.trans ?_ (by assumption))))⟩
  · go_enter Try.func5, Try.ntmps5
    go_wp2_with fail
    refine (wakes10 _).mono ?_
    rintro e w1 ⟨rfl, hx1⟩
    go_wp2_with fail
    refine (new_any 3 _ (by omega) (by omega)).mono ?_
    rintro e w2 ⟨bs, be, rfl, h2, hb1, hb2, hx2⟩
    rw [show newN 3 = 3 by decide] at h2
    go_wp2_with fail
    refine (refnew10_any 3 _).mono ?_
    rintro e w3 ⟨p, bl, rfl, h3, hp1, hp2, hp3, hp4, hx3⟩
    rw [show newN 3 = 3 by decide] at h3
    obtain ⟨B, hBe⟩ : ∃ B, B = w3.heap.size := ⟨_, rfl⟩
    have h3 := h3 B (by omega) (by omega)
    have hs3 := h2.ext hx3
    have hlt1 := h2.lt1
    have hlt2 := h2.lt2
    have hX3 : Ext w w3 := (by repeat' (first | (with_reducible exact Ext.refl _) | (with_reducible assumption) | (with_reducible refine Ext.alloc ?_ _) | (with_reducible refine Ext.drewN ?_ _) | (with_reducible refine Ext.drew ?_) | (with_reducible refine Ext.trans ?_ (by assumption))))
    have hz1 := hx1.size
    have hz2 := hx2.size
    have hz3 := hx3.size
    have hfa : (∀ s ∈ [bs, be], w.heap.size ≤ s) ∧ (∀ s ∈ [bs, be], s < B) ∧ p ∉ [bs, be] ∧ bl ∉ [bs, be] ∧ w.heap.size ≤ bl ∧ w.heap.size ≤ B := by
      refine ⟨by simp; omega, by simp; omega, by simp; omega, by simp; omega, by omega, by omega⟩
    have FA := Lib.hid hfa
    have hB3 : B ≤ w3.heap.size := by omega
    clear h2 hb1 hb2 hp1 hp2 hp3 hp4 hlt1 hlt2 hz1 hz2 hz3 hx1 hx2 hx3 hfa hBe
    go_wp2_with fail
    go_loopw [22] (fun ci wr => ∃ (k : Nat) (Ls : List (List Nat)), k ≤ n ∧ ci = .int .i64 k ∧ SpaceAt wr bs be Ls ∧ RspAt wr B p bl Ls ∧ B ≤ wr.heap.size ∧ Ext w wr) (fun ci _ => n - (intOf ci).toNat)
    case atStart => exact ⟨0, _, Nat.zero_le _, rfl, hs3, h3, hB3, hX3⟩
    case round =>
      obtain ⟨k, Ls, hk, rfl, hsp, hrs, hB, hx⟩ := hrel
      clear hs3 h3 hB3 hX3
      have HSP := Lib.hid hsp
      have HRS := Lib.hid hrs
      clear hsp hrs
      by_cases hlt : k < n
      · obtain ⟨b, o, rfl, hb, hcell⟩ := HS.out (by omega)
        obtain ⟨e0, e1, e2⟩ := row3i_cells hx hb hcell hlt
        generalize F k 0 = kd at *
        generalize F k 1 = ls at *
        generalize F k 2 = bk at *
        have hki : (k : Int) < (n : Int) := by omega
        clear hcell
        by_cases k0 : 0 ≤ kd
        · by_cases k2 : kd ≤ 2
          · have z0 : (wr.alloc (.cells #[.int .i64 kd, .int .i64 ls, .int .i64 bk] 27 (0, 0))).cell? ⟨wr.heap.size, 0, none⟩ = some (.int .i64 kd) := cell_new _ _ _ _ rfl
            have z1 : (wr.alloc (.cells #[.int .i64 kd, .int .i64 ls, .int .i64 bk] 27 (0, 0))).cell? ⟨wr.heap.size, 1, none⟩ = some (.int .i64 ls) := cell_new _ _ _ _ rfl
            have z2 : (wr.alloc (.cells #[.int .i64 kd, .int .i64 ls, .int .i64 bk] 27 (0, 0))).cell? ⟨wr.heap.size, 2, none⟩ = some (.int .i64 bk) := cell_new _ _ _ _ rfl
            have hn8 : wr.heap.size ∉ [bs, be] := fun hm => by have := FA.out.2.1 _ hm; omega
            have N8 := Lib.hid hn8
            clear hn8
            go_wp2_with fail
            refine (do_any bs be Ls kd ls bk _ (HSP.out.ext (by repeat' (first | (with_reducible exact Ext.refl _) | (with_reducible assumption) | (with_reducible refine Ext.alloc ?_ _) | (with_reducible refine Ext.drewN ?_ _) | (with_reducible refine Ext.drew ?_) | (with_reducible refine Ext.trans ?_ (by assumption)))))).mono ?_
            rintro e w4 ⟨rfl, h4, hc4⟩
            have y0 := chg_cell hc4 z0 N8.out
            have y1 := chg_cell hc4 z1 N8.out
            have y2 := chg_cell hc4 z2 N8.out
            have hcw4 : Chg [bs, be] wr w4 := ((Chg.refl _ _).alloc _).trans hc4
            obtain ⟨hu, hl64, _⟩ := uni_of HSP.out
            have hr4 := HRS.out.chg hcw4 FA.out.2.2.1 FA.out.2.2.2.1 FA.out.2.1
            have HR4 := Lib.hid hr4
            have H4 := Lib.hid h4
            have HU := Lib.hid hu
            have HL := Lib.hid hl64
            have hB4 : B ≤ w4.heap.size := Nat.le_trans hB hcw4.size
            have hx4 : Ext w w4 := hx.chg hcw4 FA.out.1
            clear z0 z1 z2 hr4 h4 hu hl64
            go_wp2_with fail
            refine (refdo10_any B p bl Ls kd ls bk _ (HR4.out.ext (by repeat' (first | (with_reducible exact Ext.refl _) | (with_reducible assumption) | (with_reducible refine Ext.alloc ?_ _) | (with_reducible refine Ext.drewN ?_ _) | (with_reducible refine Ext.drew ?_) | (with_reducible refine Ext.trans ?_ (by assumption))))) (Nat.le_trans hB4 (Ext.size (by repeat' (first | (with_reducible exact Ext.refl _) | (with_reducible assumption) | (with_reducible refine Ext.alloc ?_ _) | (with_reducible refine Ext.drewN ?_ _) | (with_reducible refine Ext.drew ?_) | (with_reducible refine Ext.trans ?_ (by assumption)))))) HU.out HL.out k0 k2).mono ?_
            rintro e w5 ⟨rfl, h5, S, hc5, hS5⟩
            have hn5 : bs ∉ S ∧ be ∉ S := by
              constructor
              · intro hm
                have h6 := FA.out.2.1 bs (by simp)
                rcases hS5 _ hm with h | h
                · exact FA.out.2.2.2.1 (by simp [← h])
                · omega
              · intro hm
                have h6 := FA.out.2.1 be (by simp)
                rcases hS5 _ hm with h | h
                · exact FA.out.2.2.2.1 (by simp [← h])
                · omega
            have hcw5 : Chg S w4 w5 := (Chg.of_ext (S := S) (by repeat' (first | (with_reducible exact Ext.refl _) | (with_reducible assumption) | (with_reducible refine Ext.alloc ?_ _) | (with_reducible refine Ext.drewN ?_ _) | (with_reducible refine Ext.drew ?_) | (with_reducible refine Ext.trans ?_ (by assumption))))).trans hc5
            have hs5 := H4.out.chg hcw5 hn5.1 hn5.2
            have hx5 : Ext w w5 := hx4.chg hcw5 (fun s hs => by have := FA.out.2.2.2.2; rcases hS5 s hs with h | h <;> omega)
            have HS5 := Lib.hid hs5
            have H5 := Lib.hid h5
            have hB5 : B ≤ w5.heap.size := Nat.le_trans hB4 hcw5.size
            clear hs5 h5 hS5 hn5 hc5
            go_wp2_with fail
            go_roundw
            case rel => exact ⟨k + 1, _, by omega, by go_num, HS5.out, H5.out, hB5, hx5⟩
            case measure => simp [intOf]; omega
          · have k3 : 2 < kd := by omega
            clear k2
            go_wp2_with fail
            go_roundw
            case rel => exact ⟨k + 1, Ls, by omega, by go_num, HSP.out.ext (by repeat' (first | (with_reducible exact Ext.refl _) | (with_reducible assumption) | (with_reducible refine Ext.alloc ?_ _) | (with_reducible refine Ext.drewN ?_ _) | (with_reducible refine Ext.drew ?_) | (with_reducible refine Ext.trans ?_ (by assumption)))), HRS.out.ext (by repeat' (first | (with_reducible exact Ext.refl _) | (with_reducible assumption) | (with_reducible refine Ext.alloc ?_ _) | (with_reducible refine Ext.drewN ?_ _) | (with_reducible refine Ext.drew ?_) | (with_reducible refine Ext.trans ?_ (by assumption)))), Nat.le_trans hB (Ext.size (by repeat' (first | (with_reducible exact Ext.refl _) | (with_reducible assumption) | (with_reducible refine Ext.alloc ?_ _) | (with_reducible refine Ext.drewN ?_ _) | (with_reducible refine Ext.drew ?_) | (with_reducible refine Ext.trans ?_ (by assumption))))), (by repeat' (first | (with_reducible exact Ext.refl _) | (with_reducible assumption) | (with_reducible refine Ext.alloc ?_ _) | (with_reducible refine Ext.drewN ?_ _) | (with_reducible refine Ext.drew ?_) | (with_reducible refine Ext.trans ?_ (by assumption))))⟩
            case measure => simp [intOf]; omega
        · have k0' : kd < 0 := by omega
          clear k0
          go_wp2_with fail
          go_roundw
          case rel => exact ⟨k + 1, Ls, by omega, by go_num, HSP.out.ext (by repeat' (first | (with_reducible exact Ext.refl _) | (with_reducible assumption) | (with_reducible refine Ext.alloc ?_ _) | (with_reducible refine Ext.drewN ?_ _) | (with_reducible refine Ext.drew ?_) | (with_reducible refine Ext.trans ?_ (by assumption)))), HRS.out.ext (by repeat' (first | (with_reducible exact Ext.refl _) | (with_reducible assumption) | (with_reducible refine Ext.alloc ?_ _) | (with_reducible refine Ext.drewN ?_ _) | (with_reducible refine Ext.drew ?_) | (with_reducible refine Ext.trans ?_ (by assumption)))), Nat.le_trans hB (Ext.size (by repeat' (first | (with_reducible exact Ext.refl _) | (with_reducible assumption) | (with_reducible refine Ext.alloc ?_ _) | (with_reducible refine Ext.drewN ?_ _) | (with_reducible refine Ext.drew ?_) | (with_reducible refine Ext.trans ?_ (by assumption))))), (by repeat' (first | (with_reducible exact Ext.refl _) | (with_reducible assumption) | (with_reducible refine Ext.alloc ?_ _) | (with_reducible refine Ext.drewN ?_ _) | (with_reducible refine Ext.drew ?_) | (with_reducible refine Ext.trans ?_ (by assumption))))⟩
          case measure => simp [intOf]; omega
      · obtain rfl : k = n := by omega
        obtain ⟨_, _, hm64⟩ := uni_of HSP.out
        have ASELF := Lib.hid (ahd_self (Ls := Ls) x)
        rcases ofR_of hm64 x with ⟨ra, ia⟩ | ⟨ka, la, rfl, ofa, ra, ia⟩
        · have AH := Lib.hid (ahd_na (b := y) (show (ofI Ls x).2 = false by rw [ia]))
          have RA := Lib.hid ra
          clear ra ia hm64
          go_wp2_with fail
          refine (refof_any B p bl Ls x _ (HRS.out.ext (by repeat' (first | (with_reducible exact Ext.refl _) | (with_reducible assumption) | (with_reducible refine Ext.alloc ?_ _) | (with_reducible refine Ext.drewN ?_ _) | (with_reducible refine Ext.drew ?_) | (with_reducible refine Ext.trans ?_ (by assumption)))))).mono ?_
          rintro e w4 ⟨rfl, hx4⟩
          rw [RA.out]
          go_wp2_with fail
          refine (ahead_any bs be Ls x y _ (HSP.out.ext (by repeat' (first | (with_reducible exact Ext.refl _) | (with_reducible assumption) | (with_reducible refine Ext.alloc ?_ _) | (with_reducible refine Ext.drewN ?_ _) | (with_reducible refine Ext.drew ?_) | (with_reducible refine Ext.trans ?_ (by assumption)))))).mono ?_
          rintro e w5 ⟨rfl, rfl⟩
          rw [AH.out]
          go_wp2_with fail
          refine (ahead_any bs be Ls x x _ (HSP.out.ext (by repeat' (first | (with_reducible exact Ext.refl _) | (with_reducible assumption) | (with_reducible refine Ext.alloc ?_ _) | (with_reducible refine Ext.drewN ?_ _) | (with_reducible refine Ext.drew ?_) | (with_reducible refine Ext.trans ?_ (by assumption)))))).mono ?_
          rintro e w5 ⟨rfl, rfl⟩
          rw [ASELF.out]
          go_wp2_with fail
          go_ret
          exact ⟨rfl, (by repeat' (first | (with_reducible exact Ext.refl _) | (with_reducible assumption) | (with_reducible refine Ext.alloc ?_ _) | (with_reducible refine Ext.drewN ?_ _) | (with_reducible refine Ext.drew ?_) | (with_reducible refine Ext.trans ?_ (by assumption))))⟩
        · have hla0 : (0 : Int) ≤ (la : Int) := by omega
          rcases ofR_of hm64 y with ⟨rb, ib⟩ | ⟨kb, lb, rfl, ofb, rb, ib⟩
          · have AH := Lib.hid (ahd_nb (a := (ka : Int)) (show (ofI Ls y).2 = false by rw [ib]))
            have RA := Lib.hid ra
            have RB := Lib.hid rb
            have hne : ((la : Int) == -1) = false := by simp <;> omega
            clear ra ia rb ib hm64 ofa
            go_wp2_with fail
            refine (refof_any B p bl Ls ka _ (HRS.out.ext (by repeat' (first | (with_reducible exact Ext.refl _) | (with_reducible assumption) | (with_reducible refine Ext.alloc ?_ _) | (with_reducible refine Ext.drewN ?_ _) | (with_reducible refine Ext.drew ?_) | (with_reducible refine Ext.trans ?_ (by assumption)))))).mono ?_
            rintro e w4 ⟨rfl, hx4⟩
            rw [RA.out]
            go_wp2_with fail
            refine (refof_any B p bl Ls y _ (HRS.out.ext (by repeat' (first | (with_reducible exact Ext.refl _) | (with_reducible assumption) | (with_reducible refine Ext.alloc ?_ _) | (with_reducible refine Ext.drewN ?_ _) | (with_reducible refine Ext.drew ?_) | (with_reducible refine Ext.trans ?_ (by assumption)))))).mono ?_
            rintro e w5 ⟨rfl, hx5⟩
            rw [RB.out]
            go_wp2_with fail
            refine (ahead_any bs be Ls ka y _ (HSP.out.ext (by repeat' (first | (with_reducible exact Ext.refl _) | (with_reducible assumption) | (with_reducible refine Ext.alloc ?_ _) | (with_reducible refine Ext.drewN ?_ _) | (with_reducible refine Ext.drew ?_) | (with_reducible refine Ext.trans ?_ (by assumption)))))).mono ?_
            rintro e w6 ⟨rfl, rfl⟩
            rw [AH.out]
            go_wp2_with fail
            refine (ahead_any bs be Ls ka ka _ (HSP.out.ext (by repeat' (first | (with_reducible exact Ext.refl _) | (with_reducible assumption) | (with_reducible refine Ext.alloc ?_ _) | (with_reducible refine Ext.drewN ?_ _) | (with_reducible refine Ext.drew ?_) | (with_reducible refine Ext.trans ?_ (by assumption)))))).mono ?_
            rintro e w6 ⟨rfl, rfl⟩
            rw [ASELF.out]
            go_wp2_with fail
            go_ret
            exact ⟨rfl, (by repeat' (first | (with_reducible exact Ext.refl _) | (with_reducible assumption) | (with_reducible refine Ext.alloc ?_ _) | (with_reducible refine Ext.drewN ?_ _) | (with_reducible refine Ext.drew ?_) | (with_reducible refine Ext.trans ?_ (by assumption))))⟩
          · by_cases hab : la = lb
            · subst hab
              have ahe := ahd_eq ia ib ofa ofb
              obtain ⟨pa, hpa⟩ : ∃ pa, plI (asInts (Ls.getD la [])) ka = pa := ⟨_, rfl⟩
              obtain ⟨pb, hpb⟩ : ∃ pb, plI (asInts (Ls.getD la [])) kb = pb := ⟨_, rfl⟩
              rw [hpa, hpb] at ahe
              obtain ⟨hll, _⟩ := ofL_in ofa
              have hx4f := fun (w4 : World) (hx4 : Ext wr w4) => (HRS.out.ext hx4).cell hll
              obtain ⟨c0, hc0⟩ := HRS.out.cell0
              obtain ⟨v, hv, hvo⟩ := HRS.out.cell hll
              obtain ⟨N, hN⟩ : ∃ N, Ls.length = N := ⟨_, rfl⟩
              rw [hN] at hc0 hll
              have hlN : (la : Int) < (N : Int) := by omega
              have HVR := Lib.hid hvo.rd
              obtain ⟨a6, c6, hv6, _, _, _, _⟩ := hvo.rd.parts
              obtain ⟨n6, hn6⟩ : ∃ n6, v = .slice a6 n6 c6 := ⟨_, hv6⟩
              have AH := Lib.hid ahe
              have RA := Lib.hid ra
              have RB := Lib.hid rb
              have PA := Lib.hid hpa
              have PB := Lib.hid hpb
              clear ahe ra ia rb ib hm64 ofa ofb hpa hpb hll hx4f hvo hv6 hN
              subst hn6
              go_wp2_with fail
              refine (refof_any B p bl Ls ka _ (HRS.out.ext (by repeat' (first | (with_reducible exact Ext.refl _) | (with_reducible assumption) | (with_reducible refine Ext.alloc ?_ _) | (with_reducible refine Ext.drewN ?_ _) | (with_reducible refine Ext.drew ?_) | (with_reducible refine Ext.trans ?_ (by assumption)))))).mono ?_
              rintro e w4 ⟨rfl, hx4⟩
              rw [RA.out]
              go_wp2_with fail
              refine (refof_any B p bl Ls kb _ (HRS.out.ext (by repeat' (first | (with_reducible exact Ext.refl _) | (with_reducible assumption) | (with_reducible refine Ext.alloc ?_ _) | (with_reducible refine Ext.drewN ?_ _) | (with_reducible refine Ext.drew ?_) | (with_reducible refine Ext.trans ?_ (by assumption)))))).mono ?_
              rintro e w5 ⟨rfl, hx5⟩
              rw [RB.out]
              have hx45 : Ext wr w5 := hx4.trans hx5
              have x0 := hx45.cellv hc0
              have xv := hx45.cellv hv
              go_wp2_with fail
              go_region_held3 (fun w' => w'.cell? ⟨p, 0, none⟩ = some (.slice (some ⟨bl, 0, none⟩) N c0) ∧ w'.cell? ⟨bl, la, none⟩ = some (.slice a6 n6 c6) ∧ Ext w5 w') (exact ⟨Ext.cellv (w := w5) (by repeat' (first | (with_reducible exact Ext.refl _) | (with_reducible assumption) | (with_reducible refine Ext.alloc ?_ _) | (with_reducible refine Ext.drewN ?_ _) | (with_reducible refine Ext.drew ?_) | (with_reducible refine Ext.trans ?_ (by assumption)))) x0, Ext.cellv (w := w5) (by repeat' (first | (with_reducible exact Ext.refl _) | (with_reducible assumption) | (with_reducible refine Ext.alloc ?_ _) | (with_reducible refine Ext.drewN ?_ _) | (with_reducible refine Ext.drew ?_) | (with_reducible refine Ext.trans ?_ (by assumption)))) xv, (by repeat' (first | (with_reducible exact Ext.refl _) | (with_reducible assumption) | (with_reducible refine Ext.alloc ?_ _) | (with_reducible refine Ext.drewN ?_ _) | (with_reducible refine Ext.drew ?_) | (with_reducible refine Ext.trans ?_ (by assumption))))⟩)
                (first
                  | (go_at_call 28; refine (place_any _ (asInts (Ls.getD la [])) _ _ (HVR.out.ext (by repeat' (first | (with_reducible exact Ext.refl _) | (with_reducible assumption) | (with_reducible refine Ext.alloc ?_ _) | (with_reducible refine Ext.drewN ?_ _) | (with_reducible refine Ext.drew ?_) | (with_reducible refine Ext.trans ?_ (by assumption)))))).mono ?_; rintro e w6 ⟨rfl, hx6⟩; first | rw [PA.out] | rw [PB.out]))
              all_goals
                by_cases hpp : pa < pb
                · have HAH := Lib.hid (show ahdI Ls ka kb = true by rw [AH.out]; simpa using hpp)
                  go_wp2_with fail
                  refine (ahead_any bs be Ls ka kb _ (HSP.out.ext (by repeat' (first | (with_reducible exact Ext.refl _) | (with_reducible assumption) | (with_reducible refine Ext.alloc ?_ _) | (with_reducible refine Ext.drewN ?_ _) | (with_reducible refine Ext.drew ?_) | (with_reducible refine Ext.trans ?_ (by assumption)))))).mono ?_
                  rintro e w8 ⟨rfl, rfl⟩
                  rw [HAH.out]
                  go_wp2_with fail
                  refine (ahead_any bs be Ls ka ka _ (HSP.out.ext (by repeat' (first | (with_reducible exact Ext.refl _) | (with_reducible assumption) | (with_reducible refine Ext.alloc ?_ _) | (with_reducible refine Ext.drewN ?_ _) | (with_reducible refine Ext.drew ?_) | (with_reducible refine Ext.trans ?_ (by assumption)))))).mono ?_
                  rintro e w8 ⟨rfl, rfl⟩
                  rw [ASELF.out]
                  go_wp2_with fail
                  go_ret
                  exact ⟨ret_bool (by simp), (by repeat' (first | (with_reducible exact Ext.refl _) | (with_reducible assumption) | (with_reducible refine Ext.alloc ?_ _) | (with_reducible refine Ext.drewN ?_ _) | (with_reducible refine Ext.drew ?_) | (with_reducible refine Ext.trans ?_ (by assumption))))⟩
                · have HAH := Lib.hid (show ahdI Ls ka kb = false by rw [AH.out]; simpa using hpp)
                  go_wp2_with fail
                  refine (ahead_any bs be Ls ka kb _ (HSP.out.ext (by repeat' (first | (with_reducible exact Ext.refl _) | (with_reducible assumption) | (with_reducible refine Ext.alloc ?_ _) | (with_reducible refine Ext.drewN ?_ _) | (with_reducible refine Ext.drew ?_) | (with_reducible refine Ext.trans ?_ (by assumption)))))).mono ?_
                  rintro e w8 ⟨rfl, rfl⟩
                  rw [HAH.out]
                  go_wp2_with fail
                  refine (ahead_any bs be Ls ka ka _ (HSP.out.ext (by repeat' (first | (with_reducible exact Ext.refl _) | (with_reducible assumption) | (with_reducible refine Ext.alloc ?_ _) | (with_reducible refine Ext.drewN ?_ _) | (with_reducible refine Ext.drew ?_) | (with_reducible refine Ext.trans ?_ (by assumption)))))).mono ?_
                  rintro e w8 ⟨rfl, rfl⟩
                  rw [ASELF.out]
                  go_wp2_with fail
                  go_ret
                  exact ⟨ret_bool (by simp [hpp]), (by repeat' (first | (with_reducible exact Ext.refl _) | (with_reducible assumption) | (with_reducible refine Ext.alloc ?_ _) | (with_reducible refine Ext.drewN ?_ _) | (with_reducible refine Ext.drew ?_) | (with_reducible refine Ext.trans ?_ (by assumption))))⟩
            · have AH := Lib.hid (ahd_nl (a := (ka : Int)) (b := (kb : Int)) (Ls := Ls) (by intro h; rw [ia, ib] at h; exact hab (by have h9 : (la : Int) = (lb : Int) := h; omega)))
              have RA := Lib.hid ra
              have RB := Lib.hid rb
              have hne : ((la : Int) == (lb : Int)) = false := by simp <;> omega
              clear ra ia rb ib hm64 ofa ofb
              go_wp2_with fail
              refine (refof_any B p bl Ls ka _ (HRS.out.ext (by repeat' (first | (with_reducible exact Ext.refl _) | (with_reducible assumption) | (with_reducible refine Ext.alloc ?_ _) | (with_reducible refine Ext.drewN ?_ _) | (with_reducible refine Ext.drew ?_) | (with_reducible refine Ext.trans ?_ (by assumption)))))).mono ?_
              rintro e w4 ⟨rfl, hx4⟩
              rw [RA.out]
              go_wp2_with fail
              refine (refof_any B p bl Ls kb _ (HRS.out.ext (by repeat' (first | (with_reducible exact Ext.refl _) | (with_reducible assumption) | (with_reducible refine Ext.alloc ?_ _) | (with_reducible refine Ext.drewN ?_ _) | (with_reducible refine Ext.drew ?_) | (with_reducible refine Ext.trans ?_ (by assumption)))))).mono ?_
              rintro e w5 ⟨rfl, hx5⟩
              rw [RB.out]
              go_wp2_with fail
              refine (ahead_any bs be Ls ka kb _ (HSP.out.ext (by repeat' (first | (with_reducible exact Ext.refl _) | (with_reducible assumption) | (with_reducible refine Ext.alloc ?_ _) | (with_reducible refine Ext.drewN ?_ _) | (with_reducible refine Ext.drew ?_) | (with_reducible refine Ext.trans ?_ (by assumption)))))).mono ?_
              rintro e w6 ⟨rfl, rfl⟩
              rw [AH.out]
              go_wp2_with fail
              refine (ahead_any bs be Ls ka ka _ (HSP.out.ext (by repeat' (first | (with_reducible exact Ext.refl _) | (with_reducible assumption) | (with_reducible refine Ext.alloc ?_ _) | (with_reducible refine Ext.drewN ?_ _) | (with_reducible refine Ext.drew ?_) | (with_reducible refine Ext.trans ?_ (by assumption)))))).mono ?_
              rintro e w6 ⟨rfl, rfl⟩
              rw [ASELF.out]
              go_wp2_with fail
              go_ret
              exact ⟨rfl, (by repeat' (first | (with_reducible exact Ext.refl _) | (with_reducible assumption) | (with_reducible refine Ext.alloc ?_ _) | (with_reducible refine Ext.drewN ?_ _) | (with_reducible refine Ext.drew ?_) | (with_reducible refine Ext.trans ?_ (by assumption))))⟩
end Go.Proofs.Ytclajmbmchaidaa
