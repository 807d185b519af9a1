/-
  gradinelaw10.ListActs answers true. No condition.
-/
import Derived.Test.YtclajmbmchaidaaRspDo4
import Derived.Test.YtclajmbmchaidaaRspNew
import Derived.Test.YtclajmbmchaidaaPlace
import Derived.Test.YtclajmbmchaidaaRowsIn
import Derived.Test.YtclajmbmchaidaaEnds
import Derived.Test.YtclajmbmchaidaaLruFn
import Derived.Deep.RegionHeld3
import Derived.Deep.Cut
import Derived.Deep.CutRange
namespace Go.Proofs.Ytclajmbmchaidaa
open Go.RowKit

theorem row3i_cells {w w' : World} {b o n k : Nat} {F : Nat → Nat → Int} (hx : Ext w w') (hb : b < w.heap.size) (hc : ∀ i f, i < n → f < 3 → w.cell? ⟨b, o + (i * 3 + f), none⟩ = some (.int .i64 (F i f))) (hk : k < n) :
    w'.cell? ⟨b, o + k * 3, none⟩ = some (.int .i64 (F k 0)) ∧ w'.cell? ⟨b, o + k * 3 + 1, none⟩ = some (.int .i64 (F k 1)) ∧ w'.cell? ⟨b, o + k * 3 + 2, none⟩ = some (.int .i64 (F k 2)) :=
  ⟨(hx.cell hb).trans (hc k 0 hk (by omega)), (hx.cell hb).trans (hc k 1 hk (by omega)), (hx.cell hb).trans (hc k 2 hk (by omega))⟩
theorem RspAt.tops {w : World} {B p bl : Nat} {Ls : List (List Nat)} (h : RspAt w B p bl Ls) : ∀ i v g, i < Ls.length → w.cell? ⟨bl, i, none⟩ = some v → v.ownBlock = some g → g < w.heap.size := by
  intro i v g hi hv hg
  obtain ⟨v', hv', ho⟩ := h.cell hi
  rw [hv] at hv'
  cases hv'
  exact (ho.lt g hg).2
theorem lenI_at {Ls : List (List Nat)} {i : Nat} (hi : i < Ls.length) : lenI Ls i = (((asInts (Ls.getD i [])).length : Nat) : Int) := by
  unfold lenI; rw [if_pos ⟨by omega, by omega⟩, Int.toNat_natCast, asInts_len]
theorem allI_at {Ls : List (List Nat)} {i : Nat} (hi : i < Ls.length) : allI Ls i = asInts (Ls.getD i []) := by
  unfold allI; rw [if_pos ⟨by omega, by omega⟩, Int.toNat_natCast]; rfl

set_option maxRecDepth 100000 in
set_option maxHeartbeats 4000000 in
theorem walk_ListActs (v0 v1 : Value) (w : World) (h0 : IsInt .i64 v0) (h1 : IsRows 3 w v1) :
    Calls Try.prog 6 #[v0, v1] w fun e w' => e = .returned (.bool true) ∧ Ext w w' := by
  obtain ⟨c, rfl, hc⟩ := h0
  obtain ⟨clo, chi⟩ := i64_bd hc
  obtain ⟨n, F, hr, _⟩ := h1
  obtain ⟨a, cp, rfl, hnc, hn63, hs⟩ := hr.parts
  have HS := Lib.hid hs
  clear hs hr hnc hc
  by_cases hA : (100 : Int) < (n : Int)
  · go_enter Try.func6, Try.ntmps6
    go_wp2_with fail
    refine (wakes10 _).mono ?_
    rintro e w1 ⟨rfl, hx1⟩
    go_wp2_with fail
    go_ret
    exact ⟨rfl, (by repeat' (first | (with_reducible exact Ext.refl _) | (with_reducible assumption) | (with_reducible refine Ext.alloc ?_ _) | (with_reducible refine Ext.drewN ?_ _) | (with_reducible refine Ext.drew ?_) | (with_reducible refine Ext.trans ?_ (by assumption))))⟩
  · go_enter Try.func6, Try.ntmps6
    go_wp2_with fail
    refine (wakes10 _).mono ?_
    rintro e w1 ⟨rfl, hx1⟩
    go_wp2_with fail
    refine (new_any c _ clo chi).mono ?_
    rintro e w2 ⟨bs, be, rfl, h2, hb1, hb2, hx2⟩
    go_wp2_with fail
    refine (refnew10_any c _).mono ?_
    rintro e w3 ⟨p, bl, rfl, h3, hp1, hp2, hp3, hp4, hx3⟩
    obtain ⟨B, hBe⟩ : ∃ B, B = w3.heap.size := ⟨_, rfl⟩
    have h3 := h3 B (by omega) (by omega)
    have hs3 := h2.ext hx3
    have hlt1 := h2.lt1
    have hlt2 := h2.lt2
    have hX3 : Ext w w3 := (by repeat' (first | (with_reducible exact Ext.refl _) | (with_reducible assumption) | (with_reducible refine Ext.alloc ?_ _) | (with_reducible refine Ext.drewN ?_ _) | (with_reducible refine Ext.drew ?_) | (with_reducible refine Ext.trans ?_ (by assumption))))
    have hz1 := hx1.size
    have hz2 := hx2.size
    have hz3 := hx3.size
    have hfa : (∀ s ∈ [bs, be], w.heap.size ≤ s) ∧ (∀ s ∈ [bs, be], s < B) ∧ p ∉ [bs, be] ∧ bl ∉ [bs, be] ∧ w.heap.size ≤ bl ∧ w.heap.size ≤ B ∧ bl < B := by
      refine ⟨by simp; omega, by simp; omega, by simp; omega, by simp; omega, by omega, by omega, by omega⟩
    have FA := Lib.hid hfa
    have hB3 : B ≤ w3.heap.size := by omega
    generalize (List.replicate (newN c) ([] : List Nat)) = L0 at *
    clear h2 hb1 hb2 hp1 hp2 hp3 hp4 hlt1 hlt2 hz1 hz2 hz3 hx1 hx2 hx3 hfa hBe
    go_wp2_with fail
    go_loopw [24] (fun ci wr => ∃ (k : Nat) (Ls : List (List Nat)), k ≤ n ∧ ci = .int .i64 k ∧ SpaceAt wr bs be Ls ∧ RspAt wr B p bl Ls ∧ B ≤ wr.heap.size ∧ Ext w wr) (fun ci _ => n - (intOf ci).toNat)
    case atStart => exact ⟨0, _, Nat.zero_le _, rfl, hs3, h3, hB3, hX3⟩
    case round =>
      obtain ⟨k, Ls, hk, rfl, hsp, hrs, hB, hx⟩ := hrel
      clear hs3 h3 hB3 hX3
      have HSP := Lib.hid hsp
      have HRS := Lib.hid hrs
      clear hsp hrs
      by_cases hlt : k < n
      · obtain ⟨b, o, rfl, hb, hcell⟩ := HS.out (by omega)
        obtain ⟨e0, e1, e2⟩ := row3i_cells hx hb hcell hlt
        generalize F k 0 = kd at *
        generalize F k 1 = ls at *
        generalize F k 2 = bk at *
        have hki : (k : Int) < (n : Int) := by omega
        clear hcell
        by_cases k0 : 0 ≤ kd
        · by_cases k2 : kd ≤ 2
          · have z0 : (wr.alloc (.cells #[.int .i64 kd, .int .i64 ls, .int .i64 bk] 27 (0, 0))).cell? ⟨wr.heap.size, 0, none⟩ = some (.int .i64 kd) := cell_new _ _ _ _ rfl
            have z1 : (wr.alloc (.cells #[.int .i64 kd, .int .i64 ls, .int .i64 bk] 27 (0, 0))).cell? ⟨wr.heap.size, 1, none⟩ = some (.int .i64 ls) := cell_new _ _ _ _ rfl
            have z2 : (wr.alloc (.cells #[.int .i64 kd, .int .i64 ls, .int .i64 bk] 27 (0, 0))).cell? ⟨wr.heap.size, 2, none⟩ = some (.int .i64 bk) := cell_new _ _ _ _ rfl
            have hxz : Ext wr (wr.alloc (.cells #[.int .i64 kd, .int .i64 ls, .int .i64 bk] 27 (0, 0))) := (Ext.refl wr).alloc _
            have hpz : wr.heap.size < (wr.alloc (.cells #[.int .i64 kd, .int .i64 ls, .int .i64 bk] 27 (0, 0))).heap.size := by simp
            have htops := HRS.out.tops
            have hllr := HRS.out.llt
            go_upto_region 10 with fail
            generalize (wr.alloc (.cells #[.int .i64 kd, .int .i64 ls, .int .i64 bk] 27 (0, 0))) = wz at *
            obtain ⟨p8, hp8⟩ : ∃ p8, p8 = wr.heap.size := ⟨_, rfl⟩
            rw [← hp8] at z0 z1 z2 hpz htops ⊢
            have hn8 : p8 ∉ [bs, be] := fun hm => by have := FA.out.2.1 _ hm; omega
            have hn9 : p8 ≠ bl := by omega
            obtain ⟨hu, hl64, hm64⟩ := uni_of HSP.out
            obtain ⟨er, her⟩ : ∃ er, doE Ls kd ls bk = er := ⟨_, rfl⟩
            have hllz : bl < wz.heap.size := by omega
            have htz : ∀ i v g, i < Ls.length → wz.cell? ⟨bl, i, none⟩ = some v → v.ownBlock = some g → g < p8 := fun i v g hi hv hg => htops i v g hi ((hxz.cell hllr).symm.trans hv) hg
            have HSZ := Lib.hid (HSP.out.ext hxz)
            have HRZ := Lib.hid (HRS.out.ext hxz)
            have HTZ := Lib.hid htz
            have N8 := Lib.hid (And.intro hn8 hn9)
            have HU := Lib.hid hu
            have HL := Lib.hid hl64
            have HER := Lib.hid her
            have hBz : B ≤ wz.heap.size := Nat.le_trans hB hxz.size
            have hxwz : Ext w wz := hx.trans hxz
            -- what the document's Do leaves of the block p8 and of the other space
            have hbs : bs ∉ [bl] ∧ be ∉ [bl] := by have := FA.out.2.2.2.1; simp at this ⊢; omega
            clear hp8 hn8 hn9 hu hl64 her htz htops e0 e1 e2 hx HSP HRS hllr hm64
            go_cut [47] from 36 to 46 (fun s47 wx => s47 = .bool false ∧ Hid (SpaceAt wx bs be (doL Ls kd ls bk)) ∧ Hid (RspAt wx B p bl (doL Ls kd ls bk)) ∧ wx.cell? ⟨p8, 2, none⟩ = some (.int .i64 bk) ∧ B ≤ wx.heap.size ∧ Ext w wx)
            case first =>
              have doS : ∀ (wX wB : World) (S : List Nat), bl < wX.heap.size → p8 < wX.heap.size → (∀ v i, i < Ls.length → wX.cell? ⟨bl, i, none⟩ = some v → wz.cell? ⟨bl, i, none⟩ = some v) → Chg S wX wB → (∀ s ∈ S, s = bl ∨ (B ≤ s ∧ (wX.heap.size ≤ s ∨ ∃ i v, i < Ls.length ∧ wX.cell? ⟨bl, i, none⟩ = some v ∧ v.ownBlock = some s))) →
                  p8 ∉ S ∧ bs ∉ S ∧ be ∉ S ∧ (∀ s ∈ S, w.heap.size ≤ s) := by
                intro wX wB S h1 h2 h3 h4 h5
                have hfa := FA.out
                have hbB : bs < B ∧ be < B := ⟨hfa.2.1 bs (by simp), hfa.2.1 be (by simp)⟩
                refine ⟨fun hm => ?_, fun hm => ?_, fun hm => ?_, fun s hs => ?_⟩
                · rcases h5 _ hm with h | ⟨_, h | ⟨i, v, hi, hv, hg⟩⟩
                  · exact N8.out.2 h
                  · omega
                  · have := HTZ.out i v p8 hi (h3 v i hi hv) hg
                    omega
                · rcases h5 _ hm with h | ⟨h, _⟩
                  · exact hfa.2.2.2.1 (by simp [← h])
                  · omega
                · rcases h5 _ hm with h | ⟨h, _⟩
                  · exact hfa.2.2.2.1 (by simp [← h])
                  · omega
                · rcases h5 _ hs with h | ⟨h, _⟩
                  · rw [h]; exact hfa.2.2.2.2.1
                  · have := hfa.2.2.2.2.2.1; omega
              have DOS := Lib.hid doS
              clear doS
              go_region_held3 (fun w' => w'.cell? ⟨p8, 0, none⟩ = some (.int .i64 kd) ∧ w'.cell? ⟨p8, 1, none⟩ = some (.int .i64 ls) ∧ w'.cell? ⟨p8, 2, none⟩ = some (.int .i64 bk))
                (first
                  | exact ⟨Ext.cellv (w := wB) (by (repeat' (first | (with_reducible exact Ext.refl _) | (with_reducible assumption) | (with_reducible refine Ext.alloc ?_ _) | (with_reducible refine Ext.drewN ?_ _) | (with_reducible refine Ext.drew ?_) | (with_reducible refine Ext.trans ?_ (by assumption)))); done) yb0, Ext.cellv (w := wB) (by (repeat' (first | (with_reducible exact Ext.refl _) | (with_reducible assumption) | (with_reducible refine Ext.alloc ?_ _) | (with_reducible refine Ext.drewN ?_ _) | (with_reducible refine Ext.drew ?_) | (with_reducible refine Ext.trans ?_ (by assumption)))); done) yb1, Ext.cellv (w := wB) (by (repeat' (first | (with_reducible exact Ext.refl _) | (with_reducible assumption) | (with_reducible refine Ext.alloc ?_ _) | (with_reducible refine Ext.drewN ?_ _) | (with_reducible refine Ext.drew ?_) | (with_reducible refine Ext.trans ?_ (by assumption)))); done) yb2⟩
                  | exact ⟨Ext.cellv (w := wA) (by (repeat' (first | (with_reducible exact Ext.refl _) | (with_reducible assumption) | (with_reducible refine Ext.alloc ?_ _) | (with_reducible refine Ext.drewN ?_ _) | (with_reducible refine Ext.drew ?_) | (with_reducible refine Ext.trans ?_ (by assumption)))); done) ya0, Ext.cellv (w := wA) (by (repeat' (first | (with_reducible exact Ext.refl _) | (with_reducible assumption) | (with_reducible refine Ext.alloc ?_ _) | (with_reducible refine Ext.drewN ?_ _) | (with_reducible refine Ext.drew ?_) | (with_reducible refine Ext.trans ?_ (by assumption)))); done) ya1, Ext.cellv (w := wA) (by (repeat' (first | (with_reducible exact Ext.refl _) | (with_reducible assumption) | (with_reducible refine Ext.alloc ?_ _) | (with_reducible refine Ext.drewN ?_ _) | (with_reducible refine Ext.drew ?_) | (with_reducible refine Ext.trans ?_ (by assumption)))); done) ya2⟩
                  | exact ⟨Ext.cellv (w := wz) (by (repeat' (first | (with_reducible exact Ext.refl _) | (with_reducible assumption) | (with_reducible refine Ext.alloc ?_ _) | (with_reducible refine Ext.drewN ?_ _) | (with_reducible refine Ext.drew ?_) | (with_reducible refine Ext.trans ?_ (by assumption)))); done) z0, Ext.cellv (w := wz) (by (repeat' (first | (with_reducible exact Ext.refl _) | (with_reducible assumption) | (with_reducible refine Ext.alloc ?_ _) | (with_reducible refine Ext.drewN ?_ _) | (with_reducible refine Ext.drew ?_) | (with_reducible refine Ext.trans ?_ (by assumption)))); done) z1, Ext.cellv (w := wz) (by (repeat' (first | (with_reducible exact Ext.refl _) | (with_reducible assumption) | (with_reducible refine Ext.alloc ?_ _) | (with_reducible refine Ext.drewN ?_ _) | (with_reducible refine Ext.drew ?_) | (with_reducible refine Ext.trans ?_ (by assumption)))); done) z2⟩)
                (first
                  | (go_at_call 15; refine (do_any bs be Ls kd ls bk _ (HSZ.out.ext (by (repeat' (first | (with_reducible exact Ext.refl _) | (with_reducible assumption) | (with_reducible refine Ext.alloc ?_ _) | (with_reducible refine Ext.drewN ?_ _) | (with_reducible refine Ext.drew ?_) | (with_reducible refine Ext.trans ?_ (by assumption)))); done))).mono ?_; rintro e wA ⟨rfl, hA, hcA⟩; rw [HER.out]; have hcz : Chg [bs, be] wz wA := (Chg.of_ext (by (repeat' (first | (with_reducible exact Ext.refl _) | (with_reducible assumption) | (with_reducible refine Ext.alloc ?_ _) | (with_reducible refine Ext.drewN ?_ _) | (with_reducible refine Ext.drew ?_) | (with_reducible refine Ext.trans ?_ (by assumption)))); done)).trans hcA; have ya0 := chg_cell hcz z0 N8.out.1; have ya1 := chg_cell hcz z1 N8.out.1; have ya2 := chg_cell hcz z2 N8.out.1; have HA := Lib.hid hA; have HRA := Lib.hid (HRZ.out.chg hcz FA.out.2.2.1 FA.out.2.2.2.1 FA.out.2.1); have hxA : Ext w wA := hxwz.chg hcz FA.out.1; have hbA : B ≤ wA.heap.size := Nat.le_trans hBz hcz.size; have hllA := Nat.lt_of_lt_of_le hllz hcz.size; have hpA := Nat.lt_of_lt_of_le hpz hcz.size; have HCA := Lib.hid (show ∀ v i, i < Ls.length → wA.cell? ⟨bl, i, none⟩ = some v → wz.cell? ⟨bl, i, none⟩ = some v from fun v i _ hv => by have hbk := hcz.block bl hllz FA.out.2.2.2.1; simp only [World.cell?] at hv ⊢; rw [← hbk]; exact hv); clear hA)
                  | (go_at_call 26; refine (refdo10_all B p bl Ls kd ls bk _ (HRA.out.ext (by (repeat' (first | (with_reducible exact Ext.refl _) | (with_reducible assumption) | (with_reducible refine Ext.alloc ?_ _) | (with_reducible refine Ext.drewN ?_ _) | (with_reducible refine Ext.drew ?_) | (with_reducible refine Ext.trans ?_ (by assumption)))); done)) (Nat.le_trans hbA (Ext.size (by (repeat' (first | (with_reducible exact Ext.refl _) | (with_reducible assumption) | (with_reducible refine Ext.alloc ?_ _) | (with_reducible refine Ext.drewN ?_ _) | (with_reducible refine Ext.drew ?_) | (with_reducible refine Ext.trans ?_ (by assumption)))); done))) HU.out HL.out k0 k2).mono ?_; rintro e wB ⟨rfl, hB', S, hcS, hSS⟩; rw [HER.out]; obtain ⟨m1, m2, m3, m4⟩ := DOS.out _ wB S (Nat.lt_of_lt_of_le hllA (Ext.size (w := wA) (by (repeat' (first | (with_reducible exact Ext.refl _) | (with_reducible assumption) | (with_reducible refine Ext.alloc ?_ _) | (with_reducible refine Ext.drewN ?_ _) | (with_reducible refine Ext.drew ?_) | (with_reducible refine Ext.trans ?_ (by assumption)))); done))) (Nat.lt_of_lt_of_le hpA (Ext.size (w := wA) (by (repeat' (first | (with_reducible exact Ext.refl _) | (with_reducible assumption) | (with_reducible refine Ext.alloc ?_ _) | (with_reducible refine Ext.drewN ?_ _) | (with_reducible refine Ext.drew ?_) | (with_reducible refine Ext.trans ?_ (by assumption)))); done))) (fun v i hi hv => HCA.out v i hi ((Ext.cell (w := wA) (by (repeat' (first | (with_reducible exact Ext.refl _) | (with_reducible assumption) | (with_reducible refine Ext.alloc ?_ _) | (with_reducible refine Ext.drewN ?_ _) | (with_reducible refine Ext.drew ?_) | (with_reducible refine Ext.trans ?_ (by assumption)))); done) hllA).symm.trans hv)) hcS hSS; have hcy : Chg S wA wB := (Chg.of_ext (by (repeat' (first | (with_reducible exact Ext.refl _) | (with_reducible assumption) | (with_reducible refine Ext.alloc ?_ _) | (with_reducible refine Ext.drewN ?_ _) | (with_reducible refine Ext.drew ?_) | (with_reducible refine Ext.trans ?_ (by assumption)))); done)).trans hcS; have yb0 := chg_cell hcy ya0 m1; have yb1 := chg_cell hcy ya1 m1; have yb2 := chg_cell hcy ya2 m1; have HB := Lib.hid hB'; have HA2 := Lib.hid (HA.out.chg hcy m2 m3); have hxB : Ext w wB := hxA.chg hcy m4; have hbB : B ≤ wB.heap.size := Nat.le_trans hbA hcy.size; clear hB'))
              all_goals
                go_wp2_with fail
                go_meet
                exact ⟨rfl, Lib.hid (HA2.out.ext (by (repeat' (first | (with_reducible exact Ext.refl _) | (with_reducible assumption) | (with_reducible refine Ext.alloc ?_ _) | (with_reducible refine Ext.drewN ?_ _) | (with_reducible refine Ext.drew ?_) | (with_reducible refine Ext.trans ?_ (by assumption)))); done)), Lib.hid (HB.out.ext (by (repeat' (first | (with_reducible exact Ext.refl _) | (with_reducible assumption) | (with_reducible refine Ext.alloc ?_ _) | (with_reducible refine Ext.drewN ?_ _) | (with_reducible refine Ext.drew ?_) | (with_reducible refine Ext.trans ?_ (by assumption)))); done)), Ext.cellv (w := wB) (by (repeat' (first | (with_reducible exact Ext.refl _) | (with_reducible assumption) | (with_reducible refine Ext.alloc ?_ _) | (with_reducible refine Ext.drewN ?_ _) | (with_reducible refine Ext.drew ?_) | (with_reducible refine Ext.trans ?_ (by assumption)))); done) yb2, Nat.le_trans hbB (Ext.size (by (repeat' (first | (with_reducible exact Ext.refl _) | (with_reducible assumption) | (with_reducible refine Ext.alloc ?_ _) | (with_reducible refine Ext.drewN ?_ _) | (with_reducible refine Ext.drew ?_) | (with_reducible refine Ext.trans ?_ (by assumption)))); done)), hxB.trans (by (repeat' (first | (with_reducible exact Ext.refl _) | (with_reducible assumption) | (with_reducible refine Ext.alloc ?_ _) | (with_reducible refine Ext.drewN ?_ _) | (with_reducible refine Ext.drew ?_) | (with_reducible refine Ext.trans ?_ (by assumption)))); done)⟩
            case rest =>
              obtain ⟨rfl, HSX, HRX, y2, hBx, hxx⟩ := hcut
              generalize doL Ls kd ls bk = M at *
              clear z0 z1 z2 hxz hxwz hBz hllz hpz HSZ HRZ HTZ HU HL HER
              obtain ⟨N, hN⟩ : ∃ N, M.length = N := ⟨_, rfl⟩
              obtain ⟨c0, hc0⟩ := HRX.out.cell0
              rw [hN] at hc0
              have HN := Lib.hid hN
              clear hN
              go_wp2_with fail
              go_loopw [53] (fun cj wj => ∃ j : Nat, j ≤ N ∧ cj = .int .i64 j ∧ Ext wc wj) (fun cj _ => N - (intOf cj).toNat)
              case atStart => exact ⟨0, Nat.zero_le _, rfl, Ext.refl _⟩
              case round =>
                obtain ⟨j, hj, rfl, hxj⟩ := hrel
                have x0 := hxj.cellv hc0
                by_cases hjN : j < N
                · have hjM : j < M.length := by have := HN.out; omega
                  obtain ⟨v, hv, hvo⟩ := HRX.out.cell hjM
                  obtain ⟨R, hR⟩ : ∃ R, asInts (M.getD j []) = R := ⟨_, rfl⟩
                  have hvr := hvo.rd
                  obtain ⟨a6, c6, hv6, _, _, _, _⟩ := hvr.parts
                  obtain ⟨n6, hn6, hn6'⟩ : ∃ n6, v = .slice a6 n6 c6 ∧ n6 = (asInts (M.getD j [])).length := ⟨_, hv6, rfl⟩
                  have HVR := Lib.hid hvr
                  have HVR2 := Lib.hid (hR ▸ hvr)
                  have HLI := Lib.hid (show lenI M j = (n6 : Int) by rw [lenI_at hjM, hn6'])
                  have HAI := Lib.hid (show allI M j = R by rw [allI_at hjM, hR])
                  have HJM := Lib.hid hjM
                  have HJN := Lib.hid hjN
                  have xv := hxj.cellv hv
                  have hji : (j : Int) < (N : Int) := by omega
                  have hj0 : (0 : Int) ≤ (j : Int) := by omega
                  have hN4 : (N : Int) ≤ 40 := by have := HSX.out.bound; have := HN.out; omega
                  have hj4 : (j : Int) ≤ 40 := by omega
                  clear hvo hvr hv6 hn6' hR hjM hv
                  subst hn6
                  go_wp2_with fail
                  go_region_held3 (fun w' => w'.cell? ⟨p, 0, none⟩ = some (.slice (some ⟨bl, 0, none⟩) N c0) ∧ w'.cell? ⟨bl, j, none⟩ = some (.slice a6 n6 c6) ∧ Ext wr w') (exact ⟨Ext.cellv (w := wr) (by repeat' (first | (with_reducible exact Ext.refl _) | (with_reducible assumption) | (with_reducible refine Ext.alloc ?_ _) | (with_reducible refine Ext.drewN ?_ _) | (with_reducible refine Ext.drew ?_) | (with_reducible refine Ext.trans ?_ (by assumption)))) x0, Ext.cellv (w := wr) (by repeat' (first | (with_reducible exact Ext.refl _) | (with_reducible assumption) | (with_reducible refine Ext.alloc ?_ _) | (with_reducible refine Ext.drewN ?_ _) | (with_reducible refine Ext.drew ?_) | (with_reducible refine Ext.trans ?_ (by assumption)))) xv, (by repeat' (first | (with_reducible exact Ext.refl _) | (with_reducible assumption) | (with_reducible refine Ext.alloc ?_ _) | (with_reducible refine Ext.drewN ?_ _) | (with_reducible refine Ext.drew ?_) | (with_reducible refine Ext.trans ?_ (by assumption))))⟩)
                    (first
                      | (go_at_call 16; refine (all_any bs be M _ _ (HSX.out.ext (by repeat' (first | (with_reducible exact Ext.refl _) | (with_reducible assumption) | (with_reducible refine Ext.alloc ?_ _) | (with_reducible refine Ext.drewN ?_ _) | (with_reducible refine Ext.drew ?_) | (with_reducible refine Ext.trans ?_ (by assumption)))))).mono ?_; rintro e wP ⟨vP, rfl, hoP, hxP⟩; rw [HAI.out] at hoP)
                      | (go_at_call 21; refine (sameints_any vP _ R R _ (hoP.rd.ext (by repeat' (first | (with_reducible exact Ext.refl _) | (with_reducible assumption) | (with_reducible refine Ext.alloc ?_ _) | (with_reducible refine Ext.drewN ?_ _) | (with_reducible refine Ext.drew ?_) | (with_reducible refine Ext.trans ?_ (by assumption))))) (HVR2.out.ext (by repeat' (first | (with_reducible exact Ext.refl _) | (with_reducible assumption) | (with_reducible refine Ext.alloc ?_ _) | (with_reducible refine Ext.drewN ?_ _) | (with_reducible refine Ext.drew ?_) | (with_reducible refine Ext.trans ?_ (by assumption)))))).mono ?_; rintro e wQ ⟨rfl, hxQ⟩; rw [show decide (R = R) = true by simp])
                      | (go_at_call 30; refine (len_any bs be M _ _ (HSX.out.ext (by repeat' (first | (with_reducible exact Ext.refl _) | (with_reducible assumption) | (with_reducible refine Ext.alloc ?_ _) | (with_reducible refine Ext.drewN ?_ _) | (with_reducible refine Ext.drew ?_) | (with_reducible refine Ext.trans ?_ (by assumption)))))).mono ?_; rintro e wL ⟨rfl, rfl⟩; rw [HLI.out])
                      | (go_at_call 31; refine (ends_any bs be j M _ _ (HSX.out.ext (by repeat' (first | (with_reducible exact Ext.refl _) | (with_reducible assumption) | (with_reducible refine Ext.alloc ?_ _) | (with_reducible refine Ext.drewN ?_ _) | (with_reducible refine Ext.drew ?_) | (with_reducible refine Ext.trans ?_ (by assumption))))) HJM.out (HVR.out.ext (by repeat' (first | (with_reducible exact Ext.refl _) | (with_reducible assumption) | (with_reducible refine Ext.alloc ?_ _) | (with_reducible refine Ext.drewN ?_ _) | (with_reducible refine Ext.drew ?_) | (with_reducible refine Ext.trans ?_ (by assumption)))))).mono ?_; rintro e wE ⟨rfl, hxE⟩))
                  all_goals
                    go_wp2_with fail
                    go_roundw
                    case rel => exact ⟨j + 1, by have := HJN.out; omega, by go_num, (by repeat' (first | (with_reducible exact Ext.refl _) | (with_reducible assumption) | (with_reducible refine Ext.alloc ?_ _) | (with_reducible refine Ext.drewN ?_ _) | (with_reducible refine Ext.drew ?_) | (with_reducible refine Ext.trans ?_ (by assumption))))⟩
                    case measure => have := HJN.out; simp [intOf]; omega
                · obtain rfl : j = N := by omega
                  obtain ⟨_, _, hm64⟩ := uni_of HSX.out
                  have u2 := hxj.cellv y2
                  rcases ofR_of hm64 bk with ⟨ro, io⟩ | ⟨kb, lb, rfl, _, ro, io⟩
                  · have RO := Lib.hid ro
                    have IO := Lib.hid io
                    clear ro io hm64
                    go_wp2_with fail
                    refine (of_any bs be M bk _ (HSX.out.ext (by repeat' (first | (with_reducible exact Ext.refl _) | (with_reducible assumption) | (with_reducible refine Ext.alloc ?_ _) | (with_reducible refine Ext.drewN ?_ _) | (with_reducible refine Ext.drew ?_) | (with_reducible refine Ext.trans ?_ (by assumption)))))).mono ?_
                    rintro e w6 ⟨rfl, rfl⟩
                    rw [IO.out]
                    go_wp2_with fail
                    refine (refof_any B p bl M bk _ (HRX.out.ext (by repeat' (first | (with_reducible exact Ext.refl _) | (with_reducible assumption) | (with_reducible refine Ext.alloc ?_ _) | (with_reducible refine Ext.drewN ?_ _) | (with_reducible refine Ext.drew ?_) | (with_reducible refine Ext.trans ?_ (by assumption)))))).mono ?_
                    rintro e w7 ⟨rfl, hx7⟩
                    rw [RO.out]
                    go_wp2_with fail
                    go_roundw
                    case rel => exact ⟨k + 1, M, by omega, by go_num, HSX.out.ext (by repeat' (first | (with_reducible exact Ext.refl _) | (with_reducible assumption) | (with_reducible refine Ext.alloc ?_ _) | (with_reducible refine Ext.drewN ?_ _) | (with_reducible refine Ext.drew ?_) | (with_reducible refine Ext.trans ?_ (by assumption)))), HRX.out.ext (by repeat' (first | (with_reducible exact Ext.refl _) | (with_reducible assumption) | (with_reducible refine Ext.alloc ?_ _) | (with_reducible refine Ext.drewN ?_ _) | (with_reducible refine Ext.drew ?_) | (with_reducible refine Ext.trans ?_ (by assumption)))), Nat.le_trans hBx (Ext.size (by repeat' (first | (with_reducible exact Ext.refl _) | (with_reducible assumption) | (with_reducible refine Ext.alloc ?_ _) | (with_reducible refine Ext.drewN ?_ _) | (with_reducible refine Ext.drew ?_) | (with_reducible refine Ext.trans ?_ (by assumption))))), hxx.trans (by repeat' (first | (with_reducible exact Ext.refl _) | (with_reducible assumption) | (with_reducible refine Ext.alloc ?_ _) | (with_reducible refine Ext.drewN ?_ _) | (with_reducible refine Ext.drew ?_) | (with_reducible refine Ext.trans ?_ (by assumption))))⟩
                    case measure => simp [intOf]; omega
                  · have RO := Lib.hid ro
                    have IO := Lib.hid io
                    have hlb0 : (0 : Int) ≤ (lb : Int) := by omega
                    clear ro io hm64
                    go_wp2_with fail
                    refine (of_any bs be M kb _ (HSX.out.ext (by repeat' (first | (with_reducible exact Ext.refl _) | (with_reducible assumption) | (with_reducible refine Ext.alloc ?_ _) | (with_reducible refine Ext.drewN ?_ _) | (with_reducible refine Ext.drew ?_) | (with_reducible refine Ext.trans ?_ (by assumption)))))).mono ?_
                    rintro e w6 ⟨rfl, rfl⟩
                    rw [IO.out]
                    go_wp2_with fail
                    refine (refof_any B p bl M kb _ (HRX.out.ext (by repeat' (first | (with_reducible exact Ext.refl _) | (with_reducible assumption) | (with_reducible refine Ext.alloc ?_ _) | (with_reducible refine Ext.drewN ?_ _) | (with_reducible refine Ext.drew ?_) | (with_reducible refine Ext.trans ?_ (by assumption)))))).mono ?_
                    rintro e w7 ⟨rfl, hx7⟩
                    rw [RO.out]
                    go_wp2_with fail
                    go_roundw
                    case rel => exact ⟨k + 1, M, by omega, by go_num, HSX.out.ext (by repeat' (first | (with_reducible exact Ext.refl _) | (with_reducible assumption) | (with_reducible refine Ext.alloc ?_ _) | (with_reducible refine Ext.drewN ?_ _) | (with_reducible refine Ext.drew ?_) | (with_reducible refine Ext.trans ?_ (by assumption)))), HRX.out.ext (by repeat' (first | (with_reducible exact Ext.refl _) | (with_reducible assumption) | (with_reducible refine Ext.alloc ?_ _) | (with_reducible refine Ext.drewN ?_ _) | (with_reducible refine Ext.drew ?_) | (with_reducible refine Ext.trans ?_ (by assumption)))), Nat.le_trans hBx (Ext.size (by repeat' (first | (with_reducible exact Ext.refl _) | (with_reducible assumption) | (with_reducible refine Ext.alloc ?_ _) | (with_reducible refine Ext.drewN ?_ _) | (with_reducible refine Ext.drew ?_) | (with_reducible refine Ext.trans ?_ (by assumption))))), hxx.trans (by repeat' (first | (with_reducible exact Ext.refl _) | (with_reducible assumption) | (with_reducible refine Ext.alloc ?_ _) | (with_reducible refine Ext.drewN ?_ _) | (with_reducible refine Ext.drew ?_) | (with_reducible refine Ext.trans ?_ (by assumption))))⟩
                    case measure => simp [intOf]; omega
          · have k3 : 2 < kd := by omega
            clear k2
            go_wp2_with fail
            go_roundw
            case rel => exact ⟨k + 1, Ls, by omega, by go_num, HSP.out.ext (by repeat' (first | (with_reducible exact Ext.refl _) | (with_reducible assumption) | (with_reducible refine Ext.alloc ?_ _) | (with_reducible refine Ext.drewN ?_ _) | (with_reducible refine Ext.drew ?_) | (with_reducible refine Ext.trans ?_ (by assumption)))), HRS.out.ext (by repeat' (first | (with_reducible exact Ext.refl _) | (with_reducible assumption) | (with_reducible refine Ext.alloc ?_ _) | (with_reducible refine Ext.drewN ?_ _) | (with_reducible refine Ext.drew ?_) | (with_reducible refine Ext.trans ?_ (by assumption)))), Nat.le_trans hB (Ext.size (by repeat' (first | (with_reducible exact Ext.refl _) | (with_reducible assumption) | (with_reducible refine Ext.alloc ?_ _) | (with_reducible refine Ext.drewN ?_ _) | (with_reducible refine Ext.drew ?_) | (with_reducible refine Ext.trans ?_ (by assumption))))), (by repeat' (first | (with_reducible exact Ext.refl _) | (with_reducible assumption) | (with_reducible refine Ext.alloc ?_ _) | (with_reducible refine Ext.drewN ?_ _) | (with_reducible refine Ext.drew ?_) | (with_reducible refine Ext.trans ?_ (by assumption))))⟩
            case measure => simp [intOf]; omega
        · have k0' : kd < 0 := by omega
          clear k0
          go_wp2_with fail
          go_roundw
          case rel => exact ⟨k + 1, Ls, by omega, by go_num, HSP.out.ext (by repeat' (first | (with_reducible exact Ext.refl _) | (with_reducible assumption) | (with_reducible refine Ext.alloc ?_ _) | (with_reducible refine Ext.drewN ?_ _) | (with_reducible refine Ext.drew ?_) | (with_reducible refine Ext.trans ?_ (by assumption)))), HRS.out.ext (by repeat' (first | (with_reducible exact Ext.refl _) | (with_reducible assumption) | (with_reducible refine Ext.alloc ?_ _) | (with_reducible refine Ext.drewN ?_ _) | (with_reducible refine Ext.drew ?_) | (with_reducible refine Ext.trans ?_ (by assumption)))), Nat.le_trans hB (Ext.size (by repeat' (first | (with_reducible exact Ext.refl _) | (with_reducible assumption) | (with_reducible refine Ext.alloc ?_ _) | (with_reducible refine Ext.drewN ?_ _) | (with_reducible refine Ext.drew ?_) | (with_reducible refine Ext.trans ?_ (by assumption))))), (by repeat' (first | (with_reducible exact Ext.refl _) | (with_reducible assumption) | (with_reducible refine Ext.alloc ?_ _) | (with_reducible refine Ext.drewN ?_ _) | (with_reducible refine Ext.drew ?_) | (with_reducible refine Ext.trans ?_ (by assumption))))⟩
          case measure => simp [intOf]; omega
      · obtain rfl : k = n := by omega
        obtain ⟨c0, hc0⟩ := HRS.out.cell0
        have l1 := Lib.hid (show lenI Ls (Ls.length : Nat) = 0 by unfold lenI; rw [if_neg (show ¬ okL Ls ((Ls.length : Nat) : Int) from fun h => Int.lt_irrefl _ h.2)])
        have l2 := Lib.hid (show lenI Ls (-1) = 0 by unfold lenI; rw [if_neg (show ¬ okL Ls (-1) from fun h => absurd h.1 (by decide))])
        have l3 := Lib.hid (show allI Ls (-1) = [] by unfold allI; rw [if_neg (fun h => by have := h.1; omega)])
        go_wp2_with fail
        refine (len_any bs be Ls _ _ (HSP.out.ext (by repeat' (first | (with_reducible exact Ext.refl _) | (with_reducible assumption) | (with_reducible refine Ext.alloc ?_ _) | (with_reducible refine Ext.drewN ?_ _) | (with_reducible refine Ext.drew ?_) | (with_reducible refine Ext.trans ?_ (by assumption)))))).mono ?_
        rintro e w4 ⟨rfl, rfl⟩
        rw [l1.out]
        go_wp2_with fail
        refine (len_any bs be Ls _ _ (HSP.out.ext (by repeat' (first | (with_reducible exact Ext.refl _) | (with_reducible assumption) | (with_reducible refine Ext.alloc ?_ _) | (with_reducible refine Ext.drewN ?_ _) | (with_reducible refine Ext.drew ?_) | (with_reducible refine Ext.trans ?_ (by assumption)))))).mono ?_
        rintro e w4 ⟨rfl, rfl⟩
        rw [l2.out]
        go_wp2_with fail
        refine (all_any bs be Ls _ _ (HSP.out.ext (by repeat' (first | (with_reducible exact Ext.refl _) | (with_reducible assumption) | (with_reducible refine Ext.alloc ?_ _) | (with_reducible refine Ext.drewN ?_ _) | (with_reducible refine Ext.drew ?_) | (with_reducible refine Ext.trans ?_ (by assumption)))))).mono ?_
        rintro e w5 ⟨v5, rfl, ho5, hx5⟩
        rw [l3.out] at ho5
        obtain ⟨a5, c5, hv5, _, _, _, _⟩ := ho5.rd.parts
        clear ho5
        subst hv5
        go_wp2_with fail
        go_ret
        exact ⟨rfl, (by repeat' (first | (with_reducible exact Ext.refl _) | (with_reducible assumption) | (with_reducible refine Ext.alloc ?_ _) | (with_reducible refine Ext.drewN ?_ _) | (with_reducible refine Ext.drew ?_) | (with_reducible refine Ext.trans ?_ (by assumption))))⟩
end Go.Proofs.Ytclajmbmchaidaa
