/-
  gradinelaw05.SectorActs answers true. No condition.
-/
import Derived.Test.YtfnooojgkdjifaaActs05
import Derived.Test.YtfnooojgkdjifaaRefDiskWr
import Derived.Test.YtfnooojgkdjifaaSame
import Derived.Test.YtfnooojgkdjifaaSameQ
import Derived.Deep.Cut
import Derived.Deep.CutRange
import Derived.Deep.CutBlock
import Derived.Deep.RegionHeld3
namespace Go.Proofs.Ytfnooojgkdjifaa
open Go.RowKit

theorem ActsAt.ext {w w' : World} {n : Nat} {V : Nat → Nat → Value} {T : Nat → Int × Int × List Int} (h : ActsAt w n V T) (hx : Ext w w') : ActsAt w' n V T :=
  fun i hi => ⟨(h i hi).1, (h i hi).2.1, (h i hi).2.2.1.ext hx, (h i hi).2.2.2⟩

set_option maxRecDepth 100000 in
set_option maxHeartbeats 4000000 in
theorem walk_SectorActs (v0 v1 : Value) (w : World) (h0 : IsInt .i64 v0) (h1 : IsRecs Try.prog 29 w v1) :
    Calls Try.prog 5 #[v0, v1] w fun e w' => e = .returned (.bool true) ∧ Ext w w' := by
  obtain ⟨c, rfl, hc⟩ := h0
  obtain ⟨clo, chi⟩ := i64_bd hc
  obtain ⟨n, V, T, hr, hT⟩ := acts_of h1
  have hr' := hr
  obtain ⟨a, cp, rfl, hnc, hcm, hnil, hs⟩ := hr'
  have hn63 : (n : Int) ≤ 9223372036854775807 := by unfold maxLen at hcm; omega
  have HS := Lib.hid hs
  have HT := Lib.hid hT
  have HR := Lib.hid hr
  clear h1 hc hs hT hr hnil hnc hcm
  go_enter Try.func5, Try.ntmps5
  go_wp2_with fail
  refine (wakes05 _).mono ?_
  rintro e w1 ⟨rfl, hx1⟩
  go_upto_region 3 with fail
  go_cut [24] from 15 to 24 (fun s24 wx => (s24 = .bool true ∨ s24 = .bool false ∧ Hid (n ≤ 100 ∧ ∀ i, i < n → (T i).2.2.length ≤ 200)) ∧ Ext w wx)
  case first =>
    go_wp2_with fail
    refine (long05_any _ n V T _ (HR.out.ext hx1) (HT.out.ext hx1)).mono ?_
    rintro e w2 ⟨⟨r, rfl, hrl⟩, hx2⟩
    cases r
    · have HRL := Lib.hid (hrl rfl)
      clear hrl
      by_cases h20 : 20 < c
      · by_cases h256 : c ≤ 256
        · go_wp2_with fail
          go_meet
          exact ⟨.inl (congrArg Value.bool (by simp <;> omega)), (by repeat' (first | (with_reducible exact Ext.refl _) | (with_reducible assumption) | (with_reducible refine Ext.alloc ?_ _) | (with_reducible refine Ext.drewN ?_ _) | (with_reducible refine Ext.drew ?_) | (with_reducible refine Ext.trans ?_ (by assumption))))⟩
        · go_wp2_with fail
          go_meet
          exact ⟨.inr ⟨congrArg Value.bool (by simp <;> omega), HRL⟩, (by repeat' (first | (with_reducible exact Ext.refl _) | (with_reducible assumption) | (with_reducible refine Ext.alloc ?_ _) | (with_reducible refine Ext.drewN ?_ _) | (with_reducible refine Ext.drew ?_) | (with_reducible refine Ext.trans ?_ (by assumption))))⟩
      · go_wp2_with fail
        go_meet
        exact ⟨.inr ⟨(by first | rfl | exact congrArg Value.bool (by simp <;> omega)), HRL⟩, (by repeat' (first | (with_reducible exact Ext.refl _) | (with_reducible assumption) | (with_reducible refine Ext.alloc ?_ _) | (with_reducible refine Ext.drewN ?_ _) | (with_reducible refine Ext.drew ?_) | (with_reducible refine Ext.trans ?_ (by assumption))))⟩
    · clear hrl
      go_wp2_with fail
      go_meet
      exact ⟨.inl rfl, (by repeat' (first | (with_reducible exact Ext.refl _) | (with_reducible assumption) | (with_reducible refine Ext.alloc ?_ _) | (with_reducible refine Ext.drewN ?_ _) | (with_reducible refine Ext.drew ?_) | (with_reducible refine Ext.trans ?_ (by assumption))))⟩
  case rest =>
    obtain ⟨hor, hxc⟩ := hcut
    clear hx1 w1
    rcases hor with rfl | ⟨rfl, hrl⟩
    · go_wp2_with fail
      go_ret
      exact ⟨rfl, (by repeat' (first | (with_reducible exact Ext.refl _) | (with_reducible assumption) | (with_reducible refine Ext.alloc ?_ _) | (with_reducible refine Ext.drewN ?_ _) | (with_reducible refine Ext.drew ?_) | (with_reducible refine Ext.trans ?_ (by assumption))))⟩
    · obtain ⟨n100, hl200⟩ := hrl.out
      have HLEN := Lib.hid hl200
      clear hrl hl200
      go_wp2_with fail
      refine (dnew_any c _ clo chi).mono ?_
      rintro e w2 ⟨p, bl, rfl, hd2, hp2, hb2, hp2', hb2', hx2⟩
      go_wp2_with fail
      refine (rnew_any c _ clo chi).mono ?_
      rintro e w3 ⟨q, ql, rfl, hr3, hq3, hl3, hq3', hl3', hx3⟩
      obtain ⟨F, hFe⟩ : ∃ F, F = [p, bl, q, ql] := ⟨_, rfl⟩
      have hzc := hxc.size
      have hd3 := (hd2 F (by simp [hFe]) (by simp [hFe])).ext hx3
      have hr3 := hr3 F (by simp [hFe]) (by simp [hFe])
      have hFs : ∀ f ∈ F, f < w3.heap.size := by have := hx3.size; simp [hFe]; omega
      have hX3 : Ext w w3 := (by repeat' (first | (with_reducible exact Ext.refl _) | (with_reducible assumption) | (with_reducible refine Ext.alloc ?_ _) | (with_reducible refine Ext.drewN ?_ _) | (with_reducible refine Ext.drew ?_) | (with_reducible refine Ext.trans ?_ (by assumption))))
      have hFw : ∀ s ∈ F, w.heap.size ≤ s := by have := hx2.size; simp [hFe]; omega
      have hm1 : ∀ s ∈ [p, bl], s ∈ F := by simp [hFe]
      have hm2 : ∀ s ∈ [q, ql], s ∈ F := by simp [hFe]
      have hdis : p ≠ q ∧ p ≠ ql ∧ bl ≠ q ∧ bl ≠ ql := by omega
      have HC := Lib.hid (And.intro hFw (And.intro hm1 (And.intro hm2 hdis)))
      clear hd2 hp2 hb2 hp2' hb2' hx2 hq3 hl3 hq3' hl3' hx3 hFe hFw hm1 hm2 hdis hzc hxc
      go_wp2_with fail
      go_loopw [31] (fun ci wr => ∃ (k : Nat) (d : Dk), k ≤ n ∧ ci = .int .i64 k ∧ DiskAt wr F p bl d ∧ DiskAt wr F q ql d ∧ (∀ f ∈ F, f < wr.heap.size) ∧ Ext w wr) (fun ci _ => n - (intOf ci).toNat)
      case atStart => exact ⟨0, _, Nat.zero_le _, rfl, hd3, hr3, hFs, hX3⟩
      case round =>
        obtain ⟨k, d, hk, rfl, hd, hx', hF, hx⟩ := hrel
        clear hd3 hr3 hFs hX3
        have HF := Lib.hid hF
        have HD := Lib.hid hd
        have HX := Lib.hid hx'
        clear hF hd hx'
        by_cases hlt : k < n
        · obtain ⟨b, o, rfl, hb, hcell⟩ := HS.out (by omega)
          obtain ⟨e0, e1, e2⟩ := row3_cells hx hb hcell hlt
          obtain ⟨g0, g1, g2, g3⟩ := HT.out k hlt
          have hbt := HLEN.out k hlt
          generalize V k 2 = u2 at *
          obtain ⟨a3, c3, hv3, _, _, _, _⟩ := g2.parts
          obtain ⟨n3, hn3, hn3'⟩ : ∃ n3, u2 = .slice a3 n3 c3 ∧ n3 = (T k).2.2.length := ⟨_, hv3, rfl⟩
          subst hn3
          rw [g0] at e0
          rw [g1] at e1
          generalize (T k).1 = kd at *
          generalize (T k).2.1 = pl at *
          generalize (T k).2.2 = bt at *
          have hki : (k : Int) < (n : Int) := by omega
          have HG := Lib.hid (g2.ext hx)
          have HG0 := Lib.hid g2
          have HN3 := Lib.hid hn3'
          have HBT := Lib.hid hbt
          obtain ⟨plo, phi⟩ := g3
          clear hcell g0 g1 g2 hv3 hn3' hbt
          go_upto_region 9 with fail
          obtain ⟨p8, hp8⟩ : ∃ p8, p8 = wr.heap.size := ⟨_, rfl⟩
          have z0 : (wr.alloc (.cells #[.int .i64 kd, .int .i64 pl, .slice a3 n3 c3] 29 (0, 0))).cell? ⟨wr.heap.size, 0, none⟩ = some (.int .i64 kd) := cell_new _ _ _ _ rfl
          have z1 : (wr.alloc (.cells #[.int .i64 kd, .int .i64 pl, .slice a3 n3 c3] 29 (0, 0))).cell? ⟨wr.heap.size, 1, none⟩ = some (.int .i64 pl) := cell_new _ _ _ _ rfl
          have z2 : (wr.alloc (.cells #[.int .i64 kd, .int .i64 pl, .slice a3 n3 c3] 29 (0, 0))).cell? ⟨wr.heap.size, 2, none⟩ = some (.slice a3 n3 c3) := cell_new _ _ _ _ rfl
          have hxz : Ext wr (wr.alloc (.cells #[.int .i64 kd, .int .i64 pl, .slice a3 n3 c3] 29 (0, 0))) := (Ext.refl wr).alloc _
          generalize (wr.alloc (.cells #[.int .i64 kd, .int .i64 pl, .slice a3 n3 c3] 29 (0, 0))) = wz at *
          rw [← hp8] at z0 z1 z2 ⊢
          have n8 : p8 ∉ F := fun hm => by have := HF.out p8 hm; omega
          have N8 := Lib.hid n8
          clear hp8 n8 e0 e1 e2
          go_cut [9] from 35 to 38 (fun s9 wx => ∃ ao no co, s9 = .slice ao no co ∧ RdI .u8 wx (.slice ao no co) bt ∧ (∀ g, (Value.slice ao no co).ownBlock = some g → g ∉ F) ∧ Ext wz wx)
          case first =>
            have z2' := cell_old (.cells #[] 5 (0, 0)) z2
            go_wp2_with (at_builtin; refine wpList_append_ints rfl _ _ 23 rfl 5 .u8 0 1 Try.underlying23 bytes_info (by decide) wz (by repeat' (first | (with_reducible exact Ext.refl _) | (with_reducible assumption) | (with_reducible refine Ext.alloc ?_ _) | (with_reducible refine Ext.drewN ?_ _) | (with_reducible refine Ext.drew ?_) | (with_reducible refine Ext.trans ?_ (by assumption)))) _ _ rfl (OwnI.empty .u8 5 wz (Nat.le_refl _)) _ _ rfl ((HG.out.ext hxz).ext (by repeat' (first | (with_reducible exact Ext.refl _) | (with_reducible assumption) | (with_reducible refine Ext.alloc ?_ _) | (with_reducible refine Ext.drewN ?_ _) | (with_reducible refine Ext.drew ?_) | (with_reducible refine Ext.trans ?_ (by assumption))))) (by have := HBT.out; simp; exact fits_small (by omega)) ?_)
            intro vo wo ho hxo
            obtain ⟨ao, co, hvo, _, _, _, _⟩ := ho.rd.parts
            have hro := ho.rd
            have hgo := ho.lt
            have HGO := Lib.hid hgo
            have HRO := Lib.hid hro
            clear ho hro hgo
            go_wp2_with fail
            go_meet
            refine ⟨_, _, _, hvo, ?_, ?_, hxo⟩
            · rw [← hvo]; simpa using HRO.out
            · rw [← hvo]; intro g hg hm
              have h1 := (HGO.out g hg).1
              have h2 := HF.out g hm
              have h3 := hxz.size
              omega
          case rest =>
            obtain ⟨ao, no, co, rfl, hro, hgo, hxo⟩ := hcut
            have y0 := hxo.cellv z0
            have y1 := hxo.cellv z1
            have y2 := hxo.cellv z2
            have hxz2 := hxz.trans hxo
            have hxw : Ext w wc := hx.trans hxz2
            have hd := HD.out.ext hxz2
            have hr := HX.out.ext hxz2
            have hFc : ∀ f ∈ F, f < wc.heap.size := fun f hf => Nat.lt_of_lt_of_le (HF.out f hf) hxz2.size
            have hg0 := HG0.out
            have HD' := Lib.hid hd
            have HR' := Lib.hid hr
            have HFC := Lib.hid hFc
            have HRO := Lib.hid hro
            have HGO := Lib.hid hgo
            clear z0 z1 z2 hxz hxo hxz2 hd hr hFc hro hgo HD HX HF HG hg0 hx wr
            obtain ⟨hFw, hm1, hm2, hpq, hpl, hbq, hbl⟩ := HC.out
            have hp2 : p ∉ [q, ql] := by simp; omega
            have hb2 : bl ∉ [q, ql] := by simp; omega
            have hq1 : q ∉ [p, bl] := by simp; omega
            have hl1 : ql ∉ [p, bl] := by simp; omega
            have HP2 := Lib.hid hp2
            have HB2 := Lib.hid hb2
            have HQ1 := Lib.hid hq1
            have HL1 := Lib.hid hl1
            have HFW := Lib.hid hFw
            have HM1 := Lib.hid hm1
            have HM2 := Lib.hid hm2
            clear hp2 hb2 hq1 hl1 hFw hm1 hm2 hpq hpl hbq hbl
            go_upto_block 2 with fail
            go_cut [9] from 35 to 88 (fun s9 wx => s9 = .slice ao no co ∧ ∃ d', DiskAt wx F p bl d' ∧ DiskAt wx F q ql d' ∧ wx.cell? ⟨p8, 1, none⟩ = some (.int .i64 pl) ∧ (∀ f ∈ F, f < wx.heap.size) ∧ Ext w wx)
            case first =>
              by_cases k0 : kd = 0
              · subst k0
                obtain ⟨er, her⟩ : ∃ er, d.bad pl bt = er := ⟨_, rfl⟩
                have HER := Lib.hid her
                clear her
                go_wp2_with fail
                go_region_held3 (fun w' => w'.cell? ⟨p8, 1, none⟩ = some (.int .i64 pl) ∧ w'.cell? ⟨p8, 2, none⟩ = some (.slice a3 n3 c3) ∧ Chg F wc w') (exact ⟨chg_cell (S := F) (w := wc) (by repeat' (first | (with_reducible exact Chg.refl _ _) | (with_reducible assumption) | (with_reducible refine Chg.drewN ?_ _) | (with_reducible refine Chg.drew ?_) | (with_reducible refine Chg.alloc ?_ _) | (with_reducible refine Chg.setCell ?_ (.inl (by simp)) _) | (with_reducible refine Chg.trans ?_ (by assumption)) | (with_reducible refine Chg.ext ?_ (by assumption)))) y1 N8.out, chg_cell (S := F) (w := wc) (by repeat' (first | (with_reducible exact Chg.refl _ _) | (with_reducible assumption) | (with_reducible refine Chg.drewN ?_ _) | (with_reducible refine Chg.drew ?_) | (with_reducible refine Chg.alloc ?_ _) | (with_reducible refine Chg.setCell ?_ (.inl (by simp)) _) | (with_reducible refine Chg.trans ?_ (by assumption)) | (with_reducible refine Chg.ext ?_ (by assumption)))) y2 N8.out, (by repeat' (first | (with_reducible exact Chg.refl _ _) | (with_reducible assumption) | (with_reducible refine Chg.drewN ?_ _) | (with_reducible refine Chg.drew ?_) | (with_reducible refine Chg.alloc ?_ _) | (with_reducible refine Chg.setCell ?_ (.inl (by simp)) _) | (with_reducible refine Chg.trans ?_ (by assumption)) | (with_reducible refine Chg.ext ?_ (by assumption))))⟩)
                  (first
                    | (go_at_call 16; refine (dwrite_any F p bl d _ (HD'.out.chg (S := [q, ql]) (by repeat' (first | (with_reducible exact Chg.refl _ _) | (with_reducible assumption) | (with_reducible refine Chg.drewN ?_ _) | (with_reducible refine Chg.drew ?_) | (with_reducible refine Chg.alloc ?_ _) | (with_reducible refine Chg.setCell ?_ (.inl (by simp)) _) | (with_reducible refine Chg.trans ?_ (by assumption)) | (with_reducible refine Chg.ext ?_ (by assumption)))) HP2.out HB2.out HM2.out) pl _ bt (HRO.out.chg (S := F) (by repeat' (first | (with_reducible exact Chg.refl _ _) | (with_reducible assumption) | (with_reducible refine Chg.drewN ?_ _) | (with_reducible refine Chg.drew ?_) | (with_reducible refine Chg.alloc ?_ _) | (with_reducible refine Chg.setCell ?_ (.inl (by simp)) _) | (with_reducible refine Chg.trans ?_ (by assumption)) | (with_reducible refine Chg.ext ?_ (by assumption)))) HGO.out) (fun f hf => Nat.lt_of_lt_of_le (HFC.out f hf) (Chg.size (S := F) (w := wc) (by repeat' (first | (with_reducible exact Chg.refl _ _) | (with_reducible assumption) | (with_reducible refine Chg.drewN ?_ _) | (with_reducible refine Chg.drew ?_) | (with_reducible refine Chg.alloc ?_ _) | (with_reducible refine Chg.setCell ?_ (.inl (by simp)) _) | (with_reducible refine Chg.trans ?_ (by assumption)) | (with_reducible refine Chg.ext ?_ (by assumption))))))).mono ?_; rintro e wA ⟨rfl, hA, hcA⟩; have hcAF := hcA.mono HM1.out; rw [HER.out])
                    | (go_at_call 23; refine (rwrite_any F q ql d _ (HR'.out.chg (S := [p, bl]) (by repeat' (first | (with_reducible exact Chg.refl _ _) | (with_reducible assumption) | (with_reducible refine Chg.drewN ?_ _) | (with_reducible refine Chg.drew ?_) | (with_reducible refine Chg.alloc ?_ _) | (with_reducible refine Chg.setCell ?_ (.inl (by simp)) _) | (with_reducible refine Chg.trans ?_ (by assumption)) | (with_reducible refine Chg.ext ?_ (by assumption)))) HQ1.out HL1.out HM1.out) pl _ bt (HG0.out.ext (Ext.chg (S := F) hxw (by repeat' (first | (with_reducible exact Chg.refl _ _) | (with_reducible assumption) | (with_reducible refine Chg.drewN ?_ _) | (with_reducible refine Chg.drew ?_) | (with_reducible refine Chg.alloc ?_ _) | (with_reducible refine Chg.setCell ?_ (.inl (by simp)) _) | (with_reducible refine Chg.trans ?_ (by assumption)) | (with_reducible refine Chg.ext ?_ (by assumption)))) HFW.out)) (fun f hf => Nat.lt_of_lt_of_le (HFC.out f hf) (Chg.size (S := F) (w := wc) (by repeat' (first | (with_reducible exact Chg.refl _ _) | (with_reducible assumption) | (with_reducible refine Chg.drewN ?_ _) | (with_reducible refine Chg.drew ?_) | (with_reducible refine Chg.alloc ?_ _) | (with_reducible refine Chg.setCell ?_ (.inl (by simp)) _) | (with_reducible refine Chg.trans ?_ (by assumption)) | (with_reducible refine Chg.ext ?_ (by assumption))))))).mono ?_; rintro e wB ⟨rfl, hB, hcB⟩; have hcBF := hcB.mono HM2.out; rw [HER.out])
                    | (go_at_call 18; refine (same_any _ _ bt bt _ (HRO.out.chg (S := F) (by repeat' (first | (with_reducible exact Chg.refl _ _) | (with_reducible assumption) | (with_reducible refine Chg.drewN ?_ _) | (with_reducible refine Chg.drew ?_) | (with_reducible refine Chg.alloc ?_ _) | (with_reducible refine Chg.setCell ?_ (.inl (by simp)) _) | (with_reducible refine Chg.trans ?_ (by assumption)) | (with_reducible refine Chg.ext ?_ (by assumption)))) HGO.out) (HG0.out.ext (Ext.chg (S := F) hxw (by repeat' (first | (with_reducible exact Chg.refl _ _) | (with_reducible assumption) | (with_reducible refine Chg.drewN ?_ _) | (with_reducible refine Chg.drew ?_) | (with_reducible refine Chg.alloc ?_ _) | (with_reducible refine Chg.setCell ?_ (.inl (by simp)) _) | (with_reducible refine Chg.trans ?_ (by assumption)) | (with_reducible refine Chg.ext ?_ (by assumption)))) HFW.out))).mono ?_; rintro e wS ⟨rfl, hxS⟩; rw [show decide (bt = bt) = true by simp]))
                all_goals
                  go_wp2_with fail
                  go_meet
                  exact ⟨rfl, _, hA.chg (S := [q, ql]) (by repeat' (first | (with_reducible exact Chg.refl _ _) | (with_reducible assumption) | (with_reducible refine Chg.drewN ?_ _) | (with_reducible refine Chg.drew ?_) | (with_reducible refine Chg.alloc ?_ _) | (with_reducible refine Chg.setCell ?_ (.inl (by simp)) _) | (with_reducible refine Chg.trans ?_ (by assumption)) | (with_reducible refine Chg.ext ?_ (by assumption)))) HP2.out HB2.out HM2.out, hB.chg (S := [p, bl]) (by repeat' (first | (with_reducible exact Chg.refl _ _) | (with_reducible assumption) | (with_reducible refine Chg.drewN ?_ _) | (with_reducible refine Chg.drew ?_) | (with_reducible refine Chg.alloc ?_ _) | (with_reducible refine Chg.setCell ?_ (.inl (by simp)) _) | (with_reducible refine Chg.trans ?_ (by assumption)) | (with_reducible refine Chg.ext ?_ (by assumption)))) HQ1.out HL1.out HM1.out, chg_cell (S := F) (w := wc) (by repeat' (first | (with_reducible exact Chg.refl _ _) | (with_reducible assumption) | (with_reducible refine Chg.drewN ?_ _) | (with_reducible refine Chg.drew ?_) | (with_reducible refine Chg.alloc ?_ _) | (with_reducible refine Chg.setCell ?_ (.inl (by simp)) _) | (with_reducible refine Chg.trans ?_ (by assumption)) | (with_reducible refine Chg.ext ?_ (by assumption)))) y1 N8.out, (fun f hf => Nat.lt_of_lt_of_le (HFC.out f hf) (Chg.size (S := F) (w := wc) (by repeat' (first | (with_reducible exact Chg.refl _ _) | (with_reducible assumption) | (with_reducible refine Chg.drewN ?_ _) | (with_reducible refine Chg.drew ?_) | (with_reducible refine Chg.alloc ?_ _) | (with_reducible refine Chg.setCell ?_ (.inl (by simp)) _) | (with_reducible refine Chg.trans ?_ (by assumption)) | (with_reducible refine Chg.ext ?_ (by assumption)))))), Ext.chg (S := F) hxw (by repeat' (first | (with_reducible exact Chg.refl _ _) | (with_reducible assumption) | (with_reducible refine Chg.drewN ?_ _) | (with_reducible refine Chg.drew ?_) | (with_reducible refine Chg.alloc ?_ _) | (with_reducible refine Chg.setCell ?_ (.inl (by simp)) _) | (with_reducible refine Chg.trans ?_ (by assumption)) | (with_reducible refine Chg.ext ?_ (by assumption)))) HFW.out⟩
              · have kb0 : (kd == 0) = false := by simpa using k0
                have hpF : ∀ s ∈ [p], s ∈ F := fun s hs => HM1.out s (by simp at hs; simp [hs])
                have hqF : ∀ s ∈ [q], s ∈ F := fun s hs => HM2.out s (by simp at hs; simp [hs])
                have n1 : q ∉ [p] ∧ ql ∉ [p] ∧ p ∉ [q] ∧ bl ∉ [q] := by
                  have := HQ1.out; have := HL1.out; have := HP2.out; have := HB2.out
                  simp at *
                  omega
                have HPF := Lib.hid hpF
                have HQF := Lib.hid hqF
                have N1 := Lib.hid n1
                clear hpF hqF n1
                by_cases k1 : kd = 1
                · subst k1
                  cases hdn : d.down
                  · have hfu : d.fuseTo pl = ⟨max pl (-1), d.down, d.rows⟩ := by unfold Dk.fuseTo; rw [if_neg (by rw [hdn]; simp)]
                    have HFU := Lib.hid hfu
                    have HDN := Lib.hid hdn
                    clear hfu hdn
                    by_cases hp1 : -1 ≤ pl
                    · have hmx : max pl (-1) = pl := by omega
                      have HMX := Lib.hid hmx
                      clear hmx
                      go_wp2_with fail
                      refine (dfuse_any F p bl d _ (HD'.out.ext (by repeat' (first | (with_reducible exact Ext.refl _) | (with_reducible assumption) | (with_reducible refine Ext.alloc ?_ _) | (with_reducible refine Ext.drewN ?_ _) | (with_reducible refine Ext.drew ?_) | (with_reducible refine Ext.trans ?_ (by assumption))))) pl phi).mono ?_
                      rintro e w5 ⟨rfl, h5, hc5⟩
                      have r5 := HR'.out.chg (S := [p]) (w' := w5) (by repeat' (first | (with_reducible exact Chg.refl _ _) | (with_reducible assumption) | (with_reducible refine Chg.drewN ?_ _) | (with_reducible refine Chg.drew ?_) | (with_reducible refine Chg.alloc ?_ _) | (with_reducible refine Chg.setCell ?_ (.inl (by simp)) _) | (with_reducible refine Chg.trans ?_ (by assumption)) | (with_reducible refine Chg.ext ?_ (by assumption)))) N1.out.1 N1.out.2.1 HPF.out
                      have rc2 := r5.cell2
                      rw [HDN.out] at rc2
                      have rc1 := r5.cell1
                      have rf1 := r5.frz 1
                      have y15 := chg_cell (S := F) (w := wc) (w' := w5) (hc5.mono HPF.out) y1 N8.out
                      have hcF5 : Chg F wc w5 := hc5.mono HPF.out
                      have rs := r5.setFuse pl hp1 phi
                      have RS := Lib.hid rs
                      have H5 := Lib.hid h5
                      have hq5 : q ∈ F := r5.pF
                      clear r5 rs h5
                      go_wp2_with fail
                      go_meet
                      refine ⟨rfl, d.fuseTo pl, H5.out.chg (chg_one _ _ _ _) N1.out.2.2.1 N1.out.2.2.2 HQF.out, ?_, ?_, ?_, ?_⟩
                      · have h9 := RS.out
                        rw [HFU.out, HMX.out]; exact h9
                      · exact chg_cell (S := F) (w := w5) ((chg_one _ _ _ _).mono HQF.out) y15 N8.out
                      · exact fun f hf => Nat.lt_of_lt_of_le (HFC.out f hf) (Chg.size (S := F) (hcF5.trans ((chg_one _ _ _ _).mono HQF.out)))
                      · exact Ext.chg (S := F) hxw (hcF5.trans ((chg_one _ _ _ _).mono HQF.out)) HFW.out
                    · have hmx : max pl (-1) = -1 := by omega
                      have HMX := Lib.hid hmx
                      clear hmx
                      go_wp2_with fail
                      refine (dfuse_any F p bl d _ (HD'.out.ext (by repeat' (first | (with_reducible exact Ext.refl _) | (with_reducible assumption) | (with_reducible refine Ext.alloc ?_ _) | (with_reducible refine Ext.drewN ?_ _) | (with_reducible refine Ext.drew ?_) | (with_reducible refine Ext.trans ?_ (by assumption))))) pl phi).mono ?_
                      rintro e w5 ⟨rfl, h5, hc5⟩
                      have r5 := HR'.out.chg (S := [p]) (w' := w5) (by repeat' (first | (with_reducible exact Chg.refl _ _) | (with_reducible assumption) | (with_reducible refine Chg.drewN ?_ _) | (with_reducible refine Chg.drew ?_) | (with_reducible refine Chg.alloc ?_ _) | (with_reducible refine Chg.setCell ?_ (.inl (by simp)) _) | (with_reducible refine Chg.trans ?_ (by assumption)) | (with_reducible refine Chg.ext ?_ (by assumption)))) N1.out.1 N1.out.2.1 HPF.out
                      have rc2 := r5.cell2
                      rw [HDN.out] at rc2
                      have rc1 := r5.cell1
                      have rf1 := r5.frz 1
                      have y15 := chg_cell (S := F) (w := wc) (w' := w5) (hc5.mono HPF.out) y1 N8.out
                      have hcF5 : Chg F wc w5 := hc5.mono HPF.out
                      have rs := r5.setFuse (-1) (by omega) (by omega)
                      have RS := Lib.hid rs
                      have H5 := Lib.hid h5
                      clear r5 rs h5
                      go_wp2_with fail
                      go_meet
                      refine ⟨rfl, d.fuseTo pl, H5.out.chg (chg_one _ _ _ _) N1.out.2.2.1 N1.out.2.2.2 HQF.out, ?_, ?_, ?_, ?_⟩
                      · have h9 := RS.out
                        rw [HFU.out, HMX.out]; exact h9
                      · exact chg_cell (S := F) (w := w5) ((chg_one _ _ _ _).mono HQF.out) y15 N8.out
                      · exact fun f hf => Nat.lt_of_lt_of_le (HFC.out f hf) (Chg.size (S := F) (hcF5.trans ((chg_one _ _ _ _).mono HQF.out)))
                      · exact Ext.chg (S := F) hxw (hcF5.trans ((chg_one _ _ _ _).mono HQF.out)) HFW.out
                  · have hfu : d.fuseTo pl = d := by unfold Dk.fuseTo; rw [if_pos hdn]
                    have HFU := Lib.hid hfu
                    have HDN := Lib.hid hdn
                    clear hfu hdn
                    go_wp2_with fail
                    refine (dfuse_any F p bl d _ (HD'.out.ext (by repeat' (first | (with_reducible exact Ext.refl _) | (with_reducible assumption) | (with_reducible refine Ext.alloc ?_ _) | (with_reducible refine Ext.drewN ?_ _) | (with_reducible refine Ext.drew ?_) | (with_reducible refine Ext.trans ?_ (by assumption))))) pl phi).mono ?_
                    rintro e w5 ⟨rfl, h5, hc5⟩
                    rw [HFU.out] at h5
                    have r5 := HR'.out.chg (S := [p]) (w' := w5) (by repeat' (first | (with_reducible exact Chg.refl _ _) | (with_reducible assumption) | (with_reducible refine Chg.drewN ?_ _) | (with_reducible refine Chg.drew ?_) | (with_reducible refine Chg.alloc ?_ _) | (with_reducible refine Chg.setCell ?_ (.inl (by simp)) _) | (with_reducible refine Chg.trans ?_ (by assumption)) | (with_reducible refine Chg.ext ?_ (by assumption)))) N1.out.1 N1.out.2.1 HPF.out
                    have rc2 := r5.cell2
                    rw [HDN.out] at rc2
                    have y15 := chg_cell (S := F) (w := wc) (w' := w5) (hc5.mono HPF.out) y1 N8.out
                    have hcF5 : Chg F wc w5 := hc5.mono HPF.out
                    have H5 := Lib.hid h5
                    have R5 := Lib.hid r5
                    clear h5 r5
                    go_wp2_with fail
                    go_meet
                    exact ⟨rfl, d, H5.out, R5.out, y15, fun f hf => Nat.lt_of_lt_of_le (HFC.out f hf) (Chg.size (S := F) hcF5), Ext.chg (S := F) hxw hcF5 HFW.out⟩
                · have kb1 : (kd == 1) = false := by simpa using k1
                  by_cases k2 : kd = 2
                  · subst k2
                    go_wp2_with fail
                    refine (dup_any F p bl d _ (HD'.out.ext (by repeat' (first | (with_reducible exact Ext.refl _) | (with_reducible assumption) | (with_reducible refine Ext.alloc ?_ _) | (with_reducible refine Ext.drewN ?_ _) | (with_reducible refine Ext.drew ?_) | (with_reducible refine Ext.trans ?_ (by assumption)))))).mono ?_
                    rintro e w5 ⟨rfl, h5, hc5⟩
                    have r5 := HR'.out.chg (S := [p]) (w' := w5) (by repeat' (first | (with_reducible exact Chg.refl _ _) | (with_reducible assumption) | (with_reducible refine Chg.drewN ?_ _) | (with_reducible refine Chg.drew ?_) | (with_reducible refine Chg.alloc ?_ _) | (with_reducible refine Chg.setCell ?_ (.inl (by simp)) _) | (with_reducible refine Chg.trans ?_ (by assumption)) | (with_reducible refine Chg.ext ?_ (by assumption)))) N1.out.1 N1.out.2.1 HPF.out
                    have rc2 := r5.cell2
                    have rc1 := r5.cell1
                    have rf1 := r5.frz 1
                    have rf2 := r5.frz 2
                    have y15 := chg_cell (S := F) (w := wc) (w' := w5) (hc5.mono HPF.out) y1 N8.out
                    have hcF5 : Chg F wc w5 := hc5.mono HPF.out
                    have rs := (r5.setDown false).setFuse (-1) (by omega) (by omega)
                    have RS := Lib.hid rs
                    have H5 := Lib.hid h5
                    have hcq : Chg [q] w5 ((w5.setCell ⟨q, 2, none⟩ (.bool false)).setCell ⟨q, 1, none⟩ (.int .i64 (-1))) := (by repeat' (first | (with_reducible exact Chg.refl _ _) | (with_reducible assumption) | (with_reducible refine Chg.drewN ?_ _) | (with_reducible refine Chg.drew ?_) | (with_reducible refine Chg.alloc ?_ _) | (with_reducible refine Chg.setCell ?_ (.inl (by simp)) _) | (with_reducible refine Chg.trans ?_ (by assumption)) | (with_reducible refine Chg.ext ?_ (by assumption))))
                    have HCQ := Lib.hid hcq
                    clear r5 rs h5 hcq
                    go_wp2_with fail
                    go_meet
                    exact ⟨rfl, ⟨-1, false, d.rows⟩, H5.out.chg HCQ.out N1.out.2.2.1 N1.out.2.2.2 HQF.out, RS.out, chg_cell (S := F) (w := w5) (HCQ.out.mono HQF.out) y15 N8.out, fun f hf => Nat.lt_of_lt_of_le (HFC.out f hf) (Chg.size (S := F) (hcF5.trans (HCQ.out.mono HQF.out))), Ext.chg (S := F) hxw (hcF5.trans (HCQ.out.mono HQF.out)) HFW.out⟩
                  · have kb2 : (kd == 2) = false := by simpa using k2
                    go_wp2_with fail
                    go_meet
                    exact ⟨rfl, d, HD'.out.ext (by repeat' (first | (with_reducible exact Ext.refl _) | (with_reducible assumption) | (with_reducible refine Ext.alloc ?_ _) | (with_reducible refine Ext.drewN ?_ _) | (with_reducible refine Ext.drew ?_) | (with_reducible refine Ext.trans ?_ (by assumption)))), HR'.out.ext (by repeat' (first | (with_reducible exact Ext.refl _) | (with_reducible assumption) | (with_reducible refine Ext.alloc ?_ _) | (with_reducible refine Ext.drewN ?_ _) | (with_reducible refine Ext.drew ?_) | (with_reducible refine Ext.trans ?_ (by assumption)))), y1, HFC.out, hxw⟩
            case rest =>
              clear y0 y1 y2 hxw
              obtain ⟨rfl, d', hA, hB, y1, hF', hxw⟩ := hcut
              obtain ⟨aq, cq, hq0, _, _, haq⟩ := hB.cell0
              have hq2 := hB.cell2
              obtain ⟨N, hN⟩ : ∃ N, d'.rows.length = N := ⟨_, rfl⟩
              obtain ⟨dn, hdn⟩ : ∃ dn, d'.down = dn := ⟨_, rfl⟩
              rw [hN] at hq0 haq
              rw [hdn] at hq2
              have HA := Lib.hid hA
              have HB := Lib.hid hB
              have HN := Lib.hid hN
              have HDN := Lib.hid hdn
              have HF' := Lib.hid hF'
              have HAQ := Lib.hid haq
              clear hA hB hN hdn hF' haq
              go_wp2_with fail
              go_region_held3 (fun w' => w'.cell? ⟨q, 2, none⟩ = some (.bool dn) ∧ w'.cell? ⟨q, 0, none⟩ = some (.slice aq N cq) ∧ Ext wc w') (exact ⟨Ext.cellv (w := wc) (by repeat' (first | (with_reducible exact Ext.refl _) | (with_reducible assumption) | (with_reducible refine Ext.alloc ?_ _) | (with_reducible refine Ext.drewN ?_ _) | (with_reducible refine Ext.drew ?_) | (with_reducible refine Ext.trans ?_ (by assumption)))) hq2, Ext.cellv (w := wc) (by repeat' (first | (with_reducible exact Ext.refl _) | (with_reducible assumption) | (with_reducible refine Ext.alloc ?_ _) | (with_reducible refine Ext.drewN ?_ _) | (with_reducible refine Ext.drew ?_) | (with_reducible refine Ext.trans ?_ (by assumption)))) hq0, (by repeat' (first | (with_reducible exact Ext.refl _) | (with_reducible assumption) | (with_reducible refine Ext.alloc ?_ _) | (with_reducible refine Ext.drewN ?_ _) | (with_reducible refine Ext.drew ?_) | (with_reducible refine Ext.trans ?_ (by assumption))))⟩)
                (first
                  | (go_at_call 21; refine (ddown_any F p bl d' _ (HA.out.ext (by repeat' (first | (with_reducible exact Ext.refl _) | (with_reducible assumption) | (with_reducible refine Ext.alloc ?_ _) | (with_reducible refine Ext.drewN ?_ _) | (with_reducible refine Ext.drew ?_) | (with_reducible refine Ext.trans ?_ (by assumption)))))).mono ?_; rintro e wA ⟨rfl, rfl⟩; rw [HDN.out])
                  | (go_at_call 24; refine (dlen_any F p bl d' _ (HA.out.ext (by repeat' (first | (with_reducible exact Ext.refl _) | (with_reducible assumption) | (with_reducible refine Ext.alloc ?_ _) | (with_reducible refine Ext.drewN ?_ _) | (with_reducible refine Ext.drew ?_) | (with_reducible refine Ext.trans ?_ (by assumption)))))).mono ?_; rintro e wB ⟨rfl, rfl⟩; rw [HN.out]))
              by_cases hin : 0 ≤ pl ∧ pl < (N : Int)
              · obtain ⟨i, rfl⟩ : ∃ i : Nat, pl = i := ⟨pl.toNat, by omega⟩
                have hiN : i < N := by omega
                have hi1 : (i : Int) < (N : Int) := by omega
                have hi0 : (0 : Int) ≤ (i : Int) := by omega
                obtain rfl := HAQ.out (by omega)
                obtain ⟨vi, hvi, hri, _⟩ := HB.out.cell (i := i) (by rw [HN.out]; exact hiN)
                obtain ⟨ri, hri'⟩ : ∃ ri, d'.rows.getD i [] = ri := ⟨_, rfl⟩
                rw [hri'] at hri
                have HRI := Lib.hid hri
                have HRI' := Lib.hid hri'
                clear hri hri' hin
                go_wp2_with fail
                refine (dread_any F p bl d' _ (HA.out.ext (by repeat' (first | (with_reducible exact Ext.refl _) | (with_reducible assumption) | (with_reducible refine Ext.alloc ?_ _) | (with_reducible refine Ext.drewN ?_ _) | (with_reducible refine Ext.drew ?_) | (with_reducible refine Ext.trans ?_ (by assumption))))) i (by rw [HN.out]; exact ⟨hi0, hi1⟩)).mono ?_
                rintro e w6 ⟨v6, rfl, ho6, hx6⟩
                have hr6 := ho6.rd
                rw [show ((i : Nat) : Int).toNat = i by simp, HRI'.out] at hr6
                have HR6 := Lib.hid hr6
                clear ho6 hr6
                have x1 := hx6.cellv y1
                have x0 := hx6.cellv hq0
                go_upto_region 24 with fail
                go_cut [12] from 35 to 152 (fun s12 wx => s12 = .bool true ∧ Ext w6 wx)
                case first =>
                  go_region_held3 (fun w' => w'.cell? ⟨p8, 1, none⟩ = some (.int .i64 i) ∧ w'.cell? ⟨q, 0, none⟩ = some (.slice (some ⟨ql, 0, none⟩) N cq) ∧ Ext w6 w') (exact ⟨Ext.cellv (w := w6) (by repeat' (first | (with_reducible exact Ext.refl _) | (with_reducible assumption) | (with_reducible refine Ext.alloc ?_ _) | (with_reducible refine Ext.drewN ?_ _) | (with_reducible refine Ext.drew ?_) | (with_reducible refine Ext.trans ?_ (by assumption)))) x1, Ext.cellv (w := w6) (by repeat' (first | (with_reducible exact Ext.refl _) | (with_reducible assumption) | (with_reducible refine Ext.alloc ?_ _) | (with_reducible refine Ext.drewN ?_ _) | (with_reducible refine Ext.drew ?_) | (with_reducible refine Ext.trans ?_ (by assumption)))) x0, (by repeat' (first | (with_reducible exact Ext.refl _) | (with_reducible assumption) | (with_reducible refine Ext.alloc ?_ _) | (with_reducible refine Ext.drewN ?_ _) | (with_reducible refine Ext.drew ?_) | (with_reducible refine Ext.trans ?_ (by assumption))))⟩) (fail)
                  all_goals
                    go_wp2_with fail
                    go_meet
                    exact ⟨rfl, (by repeat' (first | (with_reducible exact Ext.refl _) | (with_reducible assumption) | (with_reducible refine Ext.alloc ?_ _) | (with_reducible refine Ext.drewN ?_ _) | (with_reducible refine Ext.drew ?_) | (with_reducible refine Ext.trans ?_ (by assumption))))⟩
                case rest =>
                  obtain ⟨rfl, hx7⟩ := hcut
                  have u1 := hx7.cellv x1
                  have u0 := hx7.cellv x0
                  have ui := hx7.cellv (hx6.cellv hvi)
                  clear x1 x0
                  go_wp2_with fail
                  go_quiet ((go_at_call 18; exact Calls.quiet_of ((same_q v6 vi ri ri _ (HR6.out.ext (by repeat' (first | (with_reducible exact Ext.refl _) | (with_reducible assumption) | (with_reducible refine Ext.alloc ?_ _) | (with_reducible refine Ext.drewN ?_ _) | (with_reducible refine Ext.drew ?_) | (with_reducible refine Ext.trans ?_ (by assumption))))) (HRI.out.ext (by repeat' (first | (with_reducible exact Ext.refl _) | (with_reducible assumption) | (with_reducible refine Ext.alloc ?_ _) | (with_reducible refine Ext.drewN ?_ _) | (with_reducible refine Ext.drew ?_) | (with_reducible refine Ext.trans ?_ (by assumption)))))).mono fun e w' h => ⟨h.1.trans (ret_bool (b := true) (by simp)), h.2⟩)))
                  go_wp2_with fail
                  go_roundw
                  case rel => exact ⟨k + 1, d', by omega, by go_num, HA.out.ext (by repeat' (first | (with_reducible exact Ext.refl _) | (with_reducible assumption) | (with_reducible refine Ext.alloc ?_ _) | (with_reducible refine Ext.drewN ?_ _) | (with_reducible refine Ext.drew ?_) | (with_reducible refine Ext.trans ?_ (by assumption)))), HB.out.ext (by repeat' (first | (with_reducible exact Ext.refl _) | (with_reducible assumption) | (with_reducible refine Ext.alloc ?_ _) | (with_reducible refine Ext.drewN ?_ _) | (with_reducible refine Ext.drew ?_) | (with_reducible refine Ext.trans ?_ (by assumption)))), (fun f hf => Nat.lt_of_lt_of_le (HF'.out f hf) (Ext.size (by repeat' (first | (with_reducible exact Ext.refl _) | (with_reducible assumption) | (with_reducible refine Ext.alloc ?_ _) | (with_reducible refine Ext.drewN ?_ _) | (with_reducible refine Ext.drew ?_) | (with_reducible refine Ext.trans ?_ (by assumption)))))), (by repeat' (first | (with_reducible exact Ext.refl _) | (with_reducible assumption) | (with_reducible refine Ext.alloc ?_ _) | (with_reducible refine Ext.drewN ?_ _) | (with_reducible refine Ext.drew ?_) | (with_reducible refine Ext.trans ?_ (by assumption))))⟩
                  case measure => simp [intOf]; omega
              · have HIN := Lib.hid hin
                go_wp2_with fail
                refine (dread_out F p bl d' _ (HA.out.ext (by repeat' (first | (with_reducible exact Ext.refl _) | (with_reducible assumption) | (with_reducible refine Ext.alloc ?_ _) | (with_reducible refine Ext.drewN ?_ _) | (with_reducible refine Ext.drew ?_) | (with_reducible refine Ext.trans ?_ (by assumption))))) pl (by rw [HN.out]; exact HIN.out)).mono ?_
                rintro e w6 ⟨rfl, hx6e⟩
                have hx6 : Ext wc w6 := hx6e ▸ (by repeat' (first | (with_reducible exact Ext.refl _) | (with_reducible assumption) | (with_reducible refine Ext.alloc ?_ _) | (with_reducible refine Ext.drewN ?_ _) | (with_reducible refine Ext.drew ?_) | (with_reducible refine Ext.trans ?_ (by assumption))))
                clear hx6e
                have x1 := hx6.cellv y1
                have x0 := hx6.cellv hq0
                go_upto_region 24 with fail
                go_cut [12] from 35 to 152 (fun s12 wx => s12 = .bool false ∧ Ext w6 wx)
                case first =>
                  by_cases hp0 : pl < 0
                  · clear hin
                    have hd1 : decide (0 ≤ pl) = false := decide_eq_false (by omega)
                    have hd2 : decide (pl ≥ 0) = false := decide_eq_false (by omega)
                    go_quiet (fail)
                    go_wp2_with fail
                    go_meet
                    exact ⟨congrArg Value.bool (by simp <;> omega), (by repeat' (first | (with_reducible exact Ext.refl _) | (with_reducible assumption) | (with_reducible refine Ext.alloc ?_ _) | (with_reducible refine Ext.drewN ?_ _) | (with_reducible refine Ext.drew ?_) | (with_reducible refine Ext.trans ?_ (by assumption))))⟩
                  · have hp1 : 0 ≤ pl := by omega
                    have hp2 : ¬ pl < (N : Int) := by omega
                    clear hin
                    go_quiet (fail)
                    go_wp2_with fail
                    go_meet
                    exact ⟨congrArg Value.bool (by simp <;> omega), (by repeat' (first | (with_reducible exact Ext.refl _) | (with_reducible assumption) | (with_reducible refine Ext.alloc ?_ _) | (with_reducible refine Ext.drewN ?_ _) | (with_reducible refine Ext.drew ?_) | (with_reducible refine Ext.trans ?_ (by assumption))))⟩
                case rest =>
                  obtain ⟨rfl, hx7⟩ := hcut
                  have u1 := hx7.cellv x1
                  have u0 := hx7.cellv x0
                  clear x1 x0 hin
                  go_wp2_with fail
                  go_quiet (fail)
                  go_wp2_with fail
                  go_roundw
                  case rel => exact ⟨k + 1, d', by omega, by go_num, HA.out.ext (by repeat' (first | (with_reducible exact Ext.refl _) | (with_reducible assumption) | (with_reducible refine Ext.alloc ?_ _) | (with_reducible refine Ext.drewN ?_ _) | (with_reducible refine Ext.drew ?_) | (with_reducible refine Ext.trans ?_ (by assumption)))), HB.out.ext (by repeat' (first | (with_reducible exact Ext.refl _) | (with_reducible assumption) | (with_reducible refine Ext.alloc ?_ _) | (with_reducible refine Ext.drewN ?_ _) | (with_reducible refine Ext.drew ?_) | (with_reducible refine Ext.trans ?_ (by assumption)))), (fun f hf => Nat.lt_of_lt_of_le (HF'.out f hf) (Ext.size (by repeat' (first | (with_reducible exact Ext.refl _) | (with_reducible assumption) | (with_reducible refine Ext.alloc ?_ _) | (with_reducible refine Ext.drewN ?_ _) | (with_reducible refine Ext.drew ?_) | (with_reducible refine Ext.trans ?_ (by assumption)))))), (by repeat' (first | (with_reducible exact Ext.refl _) | (with_reducible assumption) | (with_reducible refine Ext.alloc ?_ _) | (with_reducible refine Ext.drewN ?_ _) | (with_reducible refine Ext.drew ?_) | (with_reducible refine Ext.trans ?_ (by assumption))))⟩
                  case measure => simp [intOf]; omega
        · obtain rfl : k = n := by omega
          go_wp2_with fail
          go_ret
          exact ⟨rfl, (by repeat' (first | (with_reducible exact Ext.refl _) | (with_reducible assumption) | (with_reducible refine Ext.alloc ?_ _) | (with_reducible refine Ext.drewN ?_ _) | (with_reducible refine Ext.drew ?_) | (with_reducible refine Ext.trans ?_ (by assumption))))⟩
end Go.Proofs.Ytfnooojgkdjifaa
