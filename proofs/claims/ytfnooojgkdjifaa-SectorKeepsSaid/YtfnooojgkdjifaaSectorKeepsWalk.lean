/-
  gradinelaw05.SectorKeeps answers true. No condition.
-/
import Derived.Test.YtfnooojgkdjifaaActs05
import Derived.Test.YtfnooojgkdjifaaSame
namespace Go.Proofs.Ytfnooojgkdjifaa
open Go.RowKit

theorem ActsAt.ext {w w' : World} {n : Nat} {V : Nat → Nat → Value} {T : Nat → Int × Int × List Int} (h : ActsAt w n V T) (hx : Ext w w') : ActsAt w' n V T :=
  fun i hi => ⟨(h i hi).1, (h i hi).2.1, (h i hi).2.2.1.ext hx, (h i hi).2.2.2⟩

/-- eight slices in a block, of which the first k are told -/
def WasAt (w : World) (F : List Nat) (q k : Nat) (rows : List (List Int)) : Prop :=
  ∃ cs t, w.heap[q]? = some (.cells cs t (0, 0)) ∧ cs.size = 8 ∧ ∀ j, j < k → ∃ v, cs[j]? = some v ∧ RdI .u8 w v (rows.getD j []) ∧ ∀ g, v.ownBlock = some g → g ∉ F
section
variable {w w' : World} {F S : List Nat} {q k : Nat} {rows : List (List Int)}
theorem WasAt.chg (h : WasAt w F q k rows) (hx : Chg S w w') (hq : q ∉ S) (hS : ∀ s ∈ S, s ∈ F) : WasAt w' F q k rows := by
  obtain ⟨cs, t, h1, h2, h3⟩ := h
  refine ⟨cs, t, (hx.block q (Array.getElem?_eq_some_iff.1 h1).1 hq).trans h1, h2, fun j hj => ?_⟩
  obtain ⟨v, hv, hr, ho⟩ := h3 j hj
  exact ⟨v, hv, hr.chg hx (fun g hg hm => ho g hg (hS g hm)), ho⟩
theorem WasAt.ext (h : WasAt w F q k rows) (hx : Ext w w') : WasAt w' F q k rows := h.chg (Chg.of_ext (S := []) hx) (by simp) (by simp)
theorem WasAt.any (h : WasAt w F q k rows) {j : Nat} (hj : j < 8) : ∃ u, w.cell? ⟨q, j, none⟩ = some u := by
  obtain ⟨cs, t, h1, h2, h3⟩ := h
  exact ⟨_, (cell_of_row w q j _ _ _ h1).trans (Array.getElem?_eq_getElem (by omega))⟩
theorem WasAt.frz (h : WasAt w F q k rows) (j : Nat) : w.frozen? ⟨q, j, none⟩ = false := by
  obtain ⟨cs, t, h1, _⟩ := h; exact frozen_row h1 j
theorem WasAt.cell (h : WasAt w F q k rows) {j : Nat} (hj : j < k) : ∃ v, w.cell? ⟨q, j, none⟩ = some v ∧ RdI .u8 w v (rows.getD j []) := by
  obtain ⟨cs, t, h1, h2, h3⟩ := h
  obtain ⟨v, hv, hr, _⟩ := h3 j hj
  exact ⟨v, (cell_of_row w q j _ _ _ h1).trans hv, hr⟩
theorem WasAt.set (h : WasAt w F q k rows) (hk : k < 8) (hq : q ∈ F) {u : Value} (hu : RdI .u8 w u (rows.getD k [])) (hF : ∀ g, u.ownBlock = some g → g ∉ F) : WasAt (w.setCell ⟨q, k, none⟩ u) F q (k + 1) rows := by
  obtain ⟨cs, t, h1, h2, h3⟩ := h
  refine ⟨_, t, heap_setCell_same w q k _ _ u h1, by simpa using h2, fun j hj => ?_⟩
  by_cases e : j = k
  · subst e
    exact ⟨u, by rw [Array.getElem?_setIfInBounds, if_pos rfl, if_pos (by omega)], hu.chg (chg_one w q j _) (fun g hg hm => by simp at hm; subst hm; exact hF _ hg hq), hF⟩
  · obtain ⟨v, hv, hr, ho⟩ := h3 j (by omega)
    exact ⟨v, by rw [Array.getElem?_setIfInBounds, if_neg (fun h => e h.symm)]; exact hv, hr.chg (chg_one w q k _) (fun g hg hm => by simp at hm; subst hm; exact ho _ hg hq), ho⟩
end

theorem wr_up (rows : List (List Int)) (i : Int) (b : List Int) : ∃ rows', (⟨-1, false, rows⟩ : Dk).wr i b = ⟨-1, false, rows'⟩ ∧ rows'.length = rows.length := by
  have h8 : (⟨-1, false, rows⟩ : Dk).bad i b ≠ 8 := by
    unfold Dk.bad
    rw [if_neg (by simp)]
    split
    · split
      · decide
      · rw [if_neg (by simp)]; decide
    · decide
  unfold Dk.wr
  by_cases h0 : (⟨-1, false, rows⟩ : Dk).bad i b = 0
  · rw [if_pos h0]; exact ⟨rows.set i.toNat b, rfl, by simp⟩
  · rw [if_neg h0, if_neg h8]; exact ⟨rows, rfl, rfl⟩

set_option maxRecDepth 100000 in
set_option maxHeartbeats 4000000 in
theorem walk_SectorKeeps (v0 v1 v2 : Value) (w : World) (h0 : IsRecs Try.prog 29 w v0) (h1 : IsInt .u8 v1) (h2 : IsInts .u8 w v2) :
    Calls Try.prog 3 #[v0, v1, v2] w fun e w' => e = .returned (.bool true) ∧ Ext w w' := by
  obtain ⟨n, V, T, hr, hT⟩ := acts_of h0
  obtain ⟨y, rfl, hy⟩ := h1
  obtain ⟨y0, y255⟩ := u8_bd hy
  obtain ⟨l, hl, _⟩ := h2
  obtain ⟨a2, c2, rfl, hlc2, hcm2, hni2, hso2⟩ := hl.parts
  have hl63 : (l.length : Int) ≤ 9223372036854775807 := by unfold maxLen at hcm2; omega
  clear hni2 hso2 hlc2 hcm2
  have hr' := hr
  obtain ⟨a, c, rfl, hnc, hcm, hnil, hs⟩ := hr'
  have hn63 : (n : Int) ≤ 9223372036854775807 := by unfold maxLen at hcm; omega
  have HS := Lib.hid hs
  have HT := Lib.hid hT
  have HR := Lib.hid hr
  have HL := Lib.hid hl
  clear h0 hy hs hT hr hl hnil hnc hcm
  obtain ⟨len, hlen⟩ : ∃ len, len = l.length := ⟨_, rfl⟩
  have HLEN := Lib.hid hlen
  rw [← hlen] at hl63 ⊢
  clear hlen
  by_cases h64 : (64 : Int) < (len : Int)
  · go_enter Try.func3, Try.ntmps3
    go_wp2_with fail
    refine (wakes05 _).mono ?_
    rintro e w1 ⟨rfl, hx1⟩
    go_wp2_with fail
    refine (long05_any _ n V T _ (HR.out.ext hx1) (HT.out.ext hx1)).mono ?_
    rintro e w2 ⟨⟨r, rfl, hrl⟩, hx2⟩
    cases r
    · go_wp2_with fail
      go_ret
      exact ⟨rfl, (by repeat' (first | (with_reducible exact Ext.refl _) | (with_reducible assumption) | (with_reducible refine Ext.alloc ?_ _) | (with_reducible refine Ext.drewN ?_ _) | (with_reducible refine Ext.drew ?_) | (with_reducible refine Ext.trans ?_ (by assumption))))⟩
    · go_wp2_with fail
      go_ret
      exact ⟨rfl, (by repeat' (first | (with_reducible exact Ext.refl _) | (with_reducible assumption) | (with_reducible refine Ext.alloc ?_ _) | (with_reducible refine Ext.drewN ?_ _) | (with_reducible refine Ext.drew ?_) | (with_reducible refine Ext.trans ?_ (by assumption))))⟩
  · go_enter Try.func3, Try.ntmps3
    go_wp2_with fail
    refine (wakes05 _).mono ?_
    rintro e w1 ⟨rfl, hx1⟩
    go_wp2_with fail
    refine (long05_any _ n V T _ (HR.out.ext hx1) (HT.out.ext hx1)).mono ?_
    rintro e w2 ⟨⟨r, rfl, hrl⟩, hx2⟩
    cases r
    · obtain ⟨n100, _⟩ := hrl rfl
      clear hrl
      go_wp2_with fail
      refine (dnew_any 8 _ (by omega) (by omega)).mono ?_
      rintro e w3 ⟨p, bl, rfl, h3, hp, hb, hp1, hb1, hx3⟩
      have h3 := h3 [p, bl] (by simp) (by simp)
      have hS : ∀ s ∈ [p, bl], w.heap.size ≤ s := by have := hx1.size; have := hx2.size; simp; omega
      rw [show dskN 8 = 8 by decide] at h3
      have hF3 : ∀ f ∈ [p, bl], f < w3.heap.size := by simp; omega
      have hX3 : Ext w w3 := (by repeat' (first | (with_reducible exact Ext.refl _) | (with_reducible assumption) | (with_reducible refine Ext.alloc ?_ _) | (with_reducible refine Ext.drewN ?_ _) | (with_reducible refine Ext.drew ?_) | (with_reducible refine Ext.trans ?_ (by assumption))))
      have HC := Lib.hid hS
      clear hp hb hp1 hb1 hx1 hx2 hx3 hS
      go_wp2_with fail
      go_loopw [28] (fun ci wr => ∃ (k : Nat) (rows : List (List Int)), k ≤ n ∧ ci = .int .i64 k ∧ rows.length = 8 ∧ DiskAt wr [p, bl] p bl ⟨-1, false, rows⟩ ∧ (∀ f ∈ [p, bl], f < wr.heap.size) ∧ Ext w wr) (fun ci _ => n - (intOf ci).toNat)
      case atStart => exact ⟨0, _, Nat.zero_le _, rfl, by simp, h3, hF3, hX3⟩
      case round =>
        obtain ⟨k, rows, hk, rfl, hrl, hd, hF, hx⟩ := hrel
        clear h3 hF3 hX3
        have HF := Lib.hid hF
        have HRL := Lib.hid hrl
        have HD := Lib.hid hd
        clear hF hrl hd
        by_cases hlt : k < n
        · obtain ⟨b, o, rfl, hb, hcell⟩ := HS.out (by omega)
          obtain ⟨e0, e1, e2⟩ := row3_cells hx hb hcell hlt
          obtain ⟨g0, g1, g2, _⟩ := HT.out k hlt
          generalize V k 2 = u2 at *
          obtain ⟨a3, c3, rfl, _, _, _, _⟩ := g2.parts
          rw [g0] at e0
          rw [g1] at e1
          generalize (T k).1 = kd at *
          generalize (T k).2.1 = pl at *
          generalize (T k).2.2 = bt at *
          have hki : (k : Int) < (n : Int) := by omega
          have HG := Lib.hid g2
          clear hcell g0 g1 g2
          have hFx : ∀ f ∈ [p, bl], f < (wr.alloc (.cells #[.int .i64 kd, .int .i64 pl, .slice a3 bt.length c3] 29 (0, 0))).heap.size := fun f hf => by have := HF.out f hf; simp; omega
          have HFX := Lib.hid hFx
          clear hFx
          by_cases hkd : kd = 0
          · subst hkd
            go_wp2_with fail
            refine (dwrite_any _ p bl _ _ (HD.out.ext (by repeat' (first | (with_reducible exact Ext.refl _) | (with_reducible assumption) | (with_reducible refine Ext.alloc ?_ _) | (with_reducible refine Ext.drewN ?_ _) | (with_reducible refine Ext.drew ?_) | (with_reducible refine Ext.trans ?_ (by assumption))))) pl _ bt (HG.out.ext (by repeat' (first | (with_reducible exact Ext.refl _) | (with_reducible assumption) | (with_reducible refine Ext.alloc ?_ _) | (with_reducible refine Ext.drewN ?_ _) | (with_reducible refine Ext.drew ?_) | (with_reducible refine Ext.trans ?_ (by assumption))))) HFX.out).mono ?_
            rintro e w4 ⟨rfl, h4, hc4⟩
            obtain ⟨rows', hrw, hrl'⟩ := wr_up rows pl bt
            rw [hrw] at h4
            have HH4 := Lib.hid h4
            have HRL' := Lib.hid (hrl'.trans HRL.out)
            have hx4 : Ext w w4 := (hx.alloc _).chg hc4 HC.out
            have hz4 := hc4.size
            have HHF : Hid (∀ f ∈ [p, bl], f < w4.heap.size) := Lib.hid (fun f hf => Nat.lt_of_lt_of_le (HFX.out f hf) hz4)
            clear hz4 h4 hrw hrl'
            go_wp2_with fail
            go_roundw
            case rel => exact ⟨k + 1, rows', by omega, by go_num, HRL'.out, HH4.out, HHF.out, hx4⟩
            case measure => simp [intOf]; omega
          · have hkd' : (kd == 0) = false := by simpa using hkd
            go_wp2_with fail
            go_roundw
            case rel => exact ⟨k + 1, rows, by omega, by go_num, HRL.out, HD.out.ext (by repeat' (first | (with_reducible exact Ext.refl _) | (with_reducible assumption) | (with_reducible refine Ext.alloc ?_ _) | (with_reducible refine Ext.drewN ?_ _) | (with_reducible refine Ext.drew ?_) | (with_reducible refine Ext.trans ?_ (by assumption)))), (fun f hf => Nat.lt_of_lt_of_le (HF.out f hf) (Ext.size (w := wr) (by repeat' (first | (with_reducible exact Ext.refl _) | (with_reducible assumption) | (with_reducible refine Ext.alloc ?_ _) | (with_reducible refine Ext.drewN ?_ _) | (with_reducible refine Ext.drew ?_) | (with_reducible refine Ext.trans ?_ (by assumption)))))), (by repeat' (first | (with_reducible exact Ext.refl _) | (with_reducible assumption) | (with_reducible refine Ext.alloc ?_ _) | (with_reducible refine Ext.drewN ?_ _) | (with_reducible refine Ext.drew ?_) | (with_reducible refine Ext.trans ?_ (by assumption))))⟩
            case measure => simp [intOf]; omega
        · obtain rfl : k = n := by omega
          go_wp2_with fail
          obtain ⟨w4, rfl⟩ : ∃ w4, w4 = wr := ⟨_, rfl⟩
          obtain ⟨q, hq⟩ : ∃ q, q = w4.heap.size := ⟨_, rfl⟩
          have h0q : WasAt (w4.alloc (.cells #[.slice none 0 0, .slice none 0 0, .slice none 0 0, .slice none 0 0, .slice none 0 0, .slice none 0 0, .slice none 0 0, .slice none 0 0] 32 (0, 0))) [p, bl, q] q 0 rows :=
            ⟨_, _, by rw [hq]; exact heap_alloc_new w4 _, rfl, fun j hj => absurd hj (Nat.not_lt_zero _)⟩
          have hqz : q < (w4.alloc (.cells #[.slice none 0 0, .slice none 0 0, .slice none 0 0, .slice none 0 0, .slice none 0 0, .slice none 0 0, .slice none 0 0, .slice none 0 0] 32 (0, 0))).heap.size := by simp; omega
          have hx0 : Ext w4 (w4.alloc (.cells #[.slice none 0 0, .slice none 0 0, .slice none 0 0, .slice none 0 0, .slice none 0 0, .slice none 0 0, .slice none 0 0, .slice none 0 0] 32 (0, 0))) := (Ext.refl w4).alloc _
          rw [← hq]
          generalize (w4.alloc (.cells #[.slice none 0 0, .slice none 0 0, .slice none 0 0, .slice none 0 0, .slice none 0 0, .slice none 0 0, .slice none 0 0, .slice none 0 0] 32 (0, 0))) = wq at *
          have hqF : ∀ f ∈ [p, bl], f < q := by rw [hq]; exact HF.out
          have hqp : p ≠ q ∧ bl ≠ q := by have := hqF p (by simp); have := hqF bl (by simp); omega
          have hqr : w4.heap.size ≤ q := by omega
          have HQ := Lib.hid (And.intro hqF (And.intro hqp hqr))
          clear hq hqF hqp hqr
          go_loopw [42] (fun ci wt => ∃ (j : Nat), j ≤ 8 ∧ ci = .int .i64 j ∧ WasAt wt [p, bl, q] q j rows ∧ q < wt.heap.size ∧ Ext w4 wt) (fun ci _ => 8 - (intOf ci).toNat)
          case atStart => exact ⟨0, Nat.zero_le _, rfl, h0q, hqz, hx0⟩
          case round =>
            obtain ⟨j, hj, rfl, hwas, hqt, hxt⟩ := hrel
            clear h0q hqz hx0
            by_cases hj8 : j < 8
            · have hji : (j : Int) < 8 := by omega
              obtain ⟨uj, huj⟩ := hwas.any hj8
              have HWAS := Lib.hid hwas
              have HQT := Lib.hid hqt
              clear huj hwas hqt
              go_wp2_with fail
              refine (dread_any _ p bl _ _ (HD.out.ext hxt) j (by show 0 ≤ (j : Int) ∧ (j : Int) < (rows.length : Int); have := HRL.out; omega)).mono ?_
              rintro e w5 ⟨v5, rfl, ho5, hx5⟩
              have hw5 := HWAS.out.ext hx5
              obtain ⟨uj, huj⟩ := hw5.any hj8
              have fr5 := hw5.frz j
              have hset := hw5.set hj8 (by simp) (u := v5) (by simpa using ho5.rd) (fun g hg hm => by
                have h1 := (ho5.lt g hg).1
                have h2 := HQT.out
                have h3 := HQ.out.1 p (by simp)
                have h4 := HQ.out.1 bl (by simp)
                simp at hm
                omega)
              have HSET := Lib.hid hset
              have hz5 : q < w5.heap.size := Nat.lt_of_lt_of_le HQT.out hx5.size
              have hxs : Ext w4 (w5.setCell ⟨q, j, none⟩ v5) := Ext.chg (S := [q]) (hxt.trans hx5) (chg_one _ _ _ _) (by have := HQ.out.2.2; simpa using this)
              obtain ⟨a5, c5, hv5, _, _, _, _⟩ := ho5.rd.parts
              obtain ⟨n5, hn5⟩ : ∃ n5, v5 = .slice a5 n5 c5 := ⟨_, hv5⟩
              clear hw5 ho5 hset hv5
              subst hn5
              go_wp2_with fail
              go_roundw
              case rel => exact ⟨j + 1, by omega, by go_num, HSET.out, by simpa [World.setCell] using hz5, hxs⟩
              case measure => simp [intOf]; omega
            · obtain rfl : j = 8 := by omega
              have hi : 0 ≤ y % 8 ∧ y % 8 < (rows.length : Int) := by have := HRL.out; omega
              have HI := Lib.hid hi
              have hFt : ∀ f ∈ [p, bl], f < wr.heap.size := fun f hf => Nat.lt_of_lt_of_le (HF.out f hf) hxt.size
              have HFT := Lib.hid hFt
              have hlt2 := HL.out.ext (hx.trans hxt)
              rw [← HLEN.out] at hlt2
              have HLT := Lib.hid hlt2
              have HWAS := Lib.hid hwas
              clear hi hFt hlt2 hwas
              go_wp2_with fail
              refine (dwrite_any _ p bl _ _ (HD.out.ext hxt) (y % 8) _ l HLT.out HFT.out).mono ?_
              rintro e w6 ⟨rfl, h6, hc6⟩
              have hbad : (⟨-1, false, rows⟩ : Dk).bad (y % 8) l = 0 := by
                unfold Dk.bad
                rw [if_neg (by simp), if_pos HI.out, if_neg (by have := HLEN.out; omega), if_neg (by simp)]
              rw [hbad]
              have hwr6 : (⟨-1, false, rows⟩ : Dk).wr (y % 8) l = ⟨-1, false, rows.set (y % 8).toNat l⟩ := by unfold Dk.wr; rw [if_pos hbad]; rfl
              rw [hwr6] at h6
              have hwas6 := HWAS.out.chg hc6 (by have := HQ.out.2.1; simp; omega) (by simp)
              have hx6 : Ext w w6 := (hx.trans hxt).chg hc6 HC.out
              have HD6 := Lib.hid h6
              have HW6 := Lib.hid hwas6
              have h8l : (y % 8).toNat < rows.length := by have := HRL.out; have := HI.out; omega
              have H8L := Lib.hid h8l
              have hlx := HL.out.ext hx6
              rw [← HLEN.out] at hlx
              have HLX := Lib.hid hlx
              clear hbad hwr6 hwas6 h6 hc6 h8l hxt hlx
              go_wp2_with fail
              go_loopw [62] (fun ci wt => ∃ (j : Nat), j ≤ 8 ∧ ci = .int .i64 j ∧ Ext w6 wt) (fun ci _ => 8 - (intOf ci).toNat)
              case atStart => exact ⟨0, Nat.zero_le _, rfl, Ext.refl _⟩
              case round =>
                obtain ⟨j, hj, rfl, hxu⟩ := hrel
                by_cases hj8 : j < 8
                · have hji : (j : Int) < 8 := by omega
                  go_wp2_with fail
                  refine (dread_any _ p bl _ _ (HD6.out.ext hxu) j (by show 0 ≤ (j : Int) ∧ (j : Int) < ((rows.set (y % 8).toNat l).length : Int); rw [List.length_set]; have := HRL.out; omega)).mono ?_
                  rintro e w7 ⟨v7, rfl, ho7, hx7⟩
                  have ho7' := ho7.rd
                  have hx67 : Ext w6 w7 := hxu.trans hx7
                  by_cases hjk : (j : Int) = y % 8
                  · have hrow : (⟨-1, false, rows.set (y % 8).toNat l⟩ : Dk).rows.getD ((j : Int)).toNat [] = l := by
                      rw [hjk]
                      show (rows.set (y % 8).toNat l).getD (y % 8).toNat [] = l
                      simp [List.getD, H8L.out]
                    rw [hrow] at ho7'
                    have HO7 := Lib.hid ho7'
                    have hjk' : ((j : Int) == y % 8) = true := by simpa using hjk
                    clear ho7 hrow ho7'
                    go_wp2_with fail
                    refine (same_any v7 _ l l _ (HO7.out.ext (by repeat' (first | (with_reducible exact Ext.refl _) | (with_reducible assumption) | (with_reducible refine Ext.alloc ?_ _) | (with_reducible refine Ext.drewN ?_ _) | (with_reducible refine Ext.drew ?_) | (with_reducible refine Ext.trans ?_ (by assumption))))) (HLX.out.ext hx67)).mono ?_
                    rintro e w8 ⟨rfl, hx8⟩
                    rw [show decide (l = l) = true by simp]
                    go_wp2_with fail
                    go_roundw
                    case rel => exact ⟨j + 1, by omega, by go_num, (by repeat' (first | (with_reducible exact Ext.refl _) | (with_reducible assumption) | (with_reducible refine Ext.alloc ?_ _) | (with_reducible refine Ext.drewN ?_ _) | (with_reducible refine Ext.drew ?_) | (with_reducible refine Ext.trans ?_ (by assumption))))⟩
                    case measure => simp [intOf]; omega
                  · have hrow : (⟨-1, false, rows.set (y % 8).toNat l⟩ : Dk).rows.getD ((j : Int)).toNat [] = rows.getD j [] := by
                      show (rows.set (y % 8).toNat l).getD (j : Int).toNat [] = rows.getD j []
                      have : ¬ (y % 8).toNat = j := by have := HI.out; omega
                      simp [List.getD, this]
                    rw [hrow] at ho7'
                    have HO7 := Lib.hid ho7'
                    obtain ⟨u8, hu8, hru8⟩ := (HW6.out.ext hx67).cell hj8
                    have hjk' : ((j : Int) == y % 8) = false := by simpa using hjk
                    have HU := Lib.hid hru8
                    generalize rows.getD j [] = rj at *
                    clear ho7 hrow ho7' hru8
                    go_wp2_with fail
                    refine (same_any v7 _ rj rj _ (HO7.out.ext (by repeat' (first | (with_reducible exact Ext.refl _) | (with_reducible assumption) | (with_reducible refine Ext.alloc ?_ _) | (with_reducible refine Ext.drewN ?_ _) | (with_reducible refine Ext.drew ?_) | (with_reducible refine Ext.trans ?_ (by assumption))))) (HU.out.ext (by repeat' (first | (with_reducible exact Ext.refl _) | (with_reducible assumption) | (with_reducible refine Ext.alloc ?_ _) | (with_reducible refine Ext.drewN ?_ _) | (with_reducible refine Ext.drew ?_) | (with_reducible refine Ext.trans ?_ (by assumption)))))).mono ?_
                    rintro e w8 ⟨rfl, hx8⟩
                    rw [show decide (rj = rj) = true by simp]
                    go_wp2_with fail
                    go_roundw
                    case rel => exact ⟨j + 1, by omega, by go_num, (by repeat' (first | (with_reducible exact Ext.refl _) | (with_reducible assumption) | (with_reducible refine Ext.alloc ?_ _) | (with_reducible refine Ext.drewN ?_ _) | (with_reducible refine Ext.drew ?_) | (with_reducible refine Ext.trans ?_ (by assumption))))⟩
                    case measure => simp [intOf]; omega
                · obtain rfl : j = 8 := by omega
                  go_wp2_with fail
                  go_ret
                  exact ⟨rfl, (by repeat' (first | (with_reducible exact Ext.refl _) | (with_reducible assumption) | (with_reducible refine Ext.alloc ?_ _) | (with_reducible refine Ext.drewN ?_ _) | (with_reducible refine Ext.drew ?_) | (with_reducible refine Ext.trans ?_ (by assumption))))⟩
    · go_wp2_with fail
      go_ret
      exact ⟨rfl, (by repeat' (first | (with_reducible exact Ext.refl _) | (with_reducible assumption) | (with_reducible refine Ext.alloc ?_ _) | (with_reducible refine Ext.drewN ?_ _) | (with_reducible refine Ext.drew ?_) | (with_reducible refine Ext.trans ?_ (by assumption))))⟩
end Go.Proofs.Ytfnooojgkdjifaa
