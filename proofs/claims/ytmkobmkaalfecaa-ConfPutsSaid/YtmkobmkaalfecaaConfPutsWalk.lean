/-
  gradinelaw03.ConfPuts answers true. No condition.
-/
import Derived.Test.YtmkobmkaalfecaaConfArg
import Derived.Test.YtmkobmkaalfecaaConfWakes
import Derived.Test.YtmkobmkaalfecaaRCPut
import Derived.Test.YtmkobmkaalfecaaRCSame
import Derived.Test.YtmkobmkaalfecaaCGet
import Derived.Test.YtmkobmkaalfecaaGuard
import Derived.Test.YtmkobmkaalfecaaSame
import Derived.Deep.RegionHeld3
import Derived.Deep.MidRow
import Derived.Laws.CopyOwn
namespace Go.Proofs.Ytmkobmkaalfecaa
open Go.RowKit

theorem same_eq' (v1 v2 : Value) (l : List Int) (w : World) (h1 : RdI .u8 w v1 l) (h2 : RdI .u8 w v2 l) :
    Calls Try.prog 19 #[v1, v2] w fun e w' => e = .returned (.bool true) ∧ Ext w w' :=
  (same_any v1 v2 l l w h1 h2).mono fun e w' h => ⟨by have := h.1; simpa using this, h.2⟩
/-- a configuration's size: a name that the walk's simp leaves -/
def szC : Sem Nat := sizeOf 75
theorem szC_run (w : World) : szC.run Try.prog w = .ok 17 w := by
  unfold szC
  cases hq : Try.prog.info? 75 with
  | none => have := cfg_info; simp [hq] at this
  | some i => have := cfg_info; simp [hq] at this; simp [sizeOf, typeInfo, hq, this]
theorem lc_row {P : Program} {w : World} {g n : Nat} {cs : Array Value} {t : TypeId} (hg : w.heap[g]? = some (.cells cs t (0, 0))) (hn : cs.size = n) :
    (loadCellsFrom ⟨g, 0, none⟩ 0 n #[]).run P w = .ok cs w := by
  subst hn
  have := run_loadCells_list (P := P) w ⟨g, 0, none⟩ cs.toList (fun j v hv => by
    rw [add_none, Nat.zero_add, cell_of_row w g j cs t (0, 0) hg]
    simpa using hv)
  simpa [loadCells] using this
set_option maxRecDepth 100000 in
set_option maxHeartbeats 8000000 in
theorem walk_ConfPuts (v0 : Value) (w : World) (h0 : IsFlat Try.prog 75 w v0) :
    Calls Try.prog 13 #[v0] w fun e w' => e = .returned (.bool true) ∧ Ext w w' := by
  obtain ⟨N, hv, n, F, L, rfl, hr, hwf⟩ := cfg_of h0
  have HRR := Lib.hid hr
  have HWF := Lib.hid hwf
  obtain ⟨a, c, rfl, hnc, hcm, _⟩ := hr
  have hn63 : (n : Int) ≤ 9223372036854775807 := by unfold maxLen at hcm; omega
  clear h0 hwf hcm hnc
  unfold cfgV
  by_cases h20 : n ≤ 20
  · have h20' : (n : Int) ≤ 20 := by omega
    go_enter Try.func13, Try.ntmps13
    go_wp2_with fail
    have h1r : (w.alloc (.cells #[.int .i64 (N 0), .int .i64 (N 1), .int .i64 (N 2), .int .i64 (N 3), .int .i64 (N 4), .int .i64 (N 5), .int .i64 (N 6), .int .i64 (N 7), .int .i64 (N 8), .int .i64 (N 9), .int .i64 (N 10), .int .i64 (N 11), .int .i64 (N 12), .int .i64 (N 13), .int .i64 (N 14), .int .i64 (N 15), .slice a n c] 75)).heap[w.heap.size]? = some (.cells (cfgCells N (.slice a n c)) 75 (0, 0)) := heap_alloc_new w _
    have hX0 : Ext w (w.alloc (.cells #[.int .i64 (N 0), .int .i64 (N 1), .int .i64 (N 2), .int .i64 (N 3), .int .i64 (N 4), .int .i64 (N 5), .int .i64 (N 6), .int .i64 (N 7), .int .i64 (N 8), .int .i64 (N 9), .int .i64 (N 10), .int .i64 (N 11), .int .i64 (N 12), .int .i64 (N 13), .int .i64 (N 14), .int .i64 (N 15), .slice a n c] 75)) := (Ext.refl w).alloc _
    generalize (w.alloc (.cells #[.int .i64 (N 0), .int .i64 (N 1), .int .i64 (N 2), .int .i64 (N 3), .int .i64 (N 4), .int .i64 (N 5), .int .i64 (N 6), .int .i64 (N 7), .int .i64 (N 8), .int .i64 (N 9), .int .i64 (N 10), .int .i64 (N 11), .int .i64 (N 12), .int .i64 (N 13), .int .i64 (N 14), .int .i64 (N 15), .slice a n c] 75)) = w0 at *
    obtain ⟨p1, hp1⟩ : ∃ p, p = w.heap.size := ⟨_, rfl⟩
    rw [← hp1] at h1r ⊢
    have HP1 := Lib.hid hp1
    clear hp1
    refine (wakes03 _).mono ?_
    rintro e w1 ⟨rfl, hx1⟩
    have h1r := (Below.block hx1 _ (Array.getElem?_eq_some_iff.1 h1r).1).trans h1r
    have hX1 := hX0.trans hx1
    clear hx1 hX0
    have c16 : w1.cell? ⟨p1, 16, none⟩ = some (.slice a n c) := cell_of_row w1 p1 16 _ _ _ h1r
    have h3r : (w1.alloc (.cells #[.int .i64 0, .int .i64 0, .int .i64 0, .int .i64 0, .int .i64 0, .int .i64 0, .int .i64 0, .int .i64 0, .int .i64 0, .int .i64 0, .int .i64 0, .int .i64 0, .int .i64 0, .int .i64 0, .int .i64 0, .int .i64 0, .slice none 0 0] 75)).heap[w1.heap.size]? = some (.cells #[.int .i64 0, .int .i64 0, .int .i64 0, .int .i64 0, .int .i64 0, .int .i64 0, .int .i64 0, .int .i64 0, .int .i64 0, .int .i64 0, .int .i64 0, .int .i64 0, .int .i64 0, .int .i64 0, .int .i64 0, .int .i64 0, .slice none 0 0] 75 (0, 0)) := heap_alloc_new w1 _
    have hcc1 : (cfgCells N (.slice a n c)).all (·.oneCell') = true := by simp [cfgCells, Value.oneCell']
    go_upto_region 6 with (first | (refine wpList_load_row rfl 75 _ rfl p1 rfl 75 (cfgCells N (.slice a n c)) (0, 0) _ h1r Try.underlying75 rfl cfg_info ?_) | (refine wpList_store_row rfl 75 _ _ rfl w1.heap.size (cfgCells N (.slice a n c)) rfl rfl 75 _ h3r cfg_info rfl hcc1 ?_))
    have h3s := setRow_heap _ _ _ (cfgCells N (.slice a n c)) _ _ h3r
    have hl1 : p1 < w1.heap.size := (Array.getElem?_eq_some_iff.1 h1r).1
    have h1s : ((w1.alloc (.cells #[.int .i64 0, .int .i64 0, .int .i64 0, .int .i64 0, .int .i64 0, .int .i64 0, .int .i64 0, .int .i64 0, .int .i64 0, .int .i64 0, .int .i64 0, .int .i64 0, .int .i64 0, .int .i64 0, .int .i64 0, .int .i64 0, .slice none 0 0] 75)).setRow w1.heap.size (cfgCells N (.slice a n c))).heap[p1]? = some (.cells (cfgCells N (.slice a n c)) 75 (0, 0)) := (setRow_other _ _ _ _ (by omega)).trans ((Below.heap_alloc w1 _ _ hl1).trans h1r)
    have hX3 : Ext w ((w1.alloc (.cells #[.int .i64 0, .int .i64 0, .int .i64 0, .int .i64 0, .int .i64 0, .int .i64 0, .int .i64 0, .int .i64 0, .int .i64 0, .int .i64 0, .int .i64 0, .int .i64 0, .int .i64 0, .int .i64 0, .int .i64 0, .int .i64 0, .slice none 0 0] 75)).setRow w1.heap.size (cfgCells N (.slice a n c))) := below_setRow (hX1.alloc _) hX1.size _
    obtain ⟨p3, hp3⟩ : ∃ p, p = w1.heap.size := ⟨_, rfl⟩
    rw [← hp3] at h3s h1s hX3 ⊢
    generalize ((w1.alloc (.cells #[.int .i64 0, .int .i64 0, .int .i64 0, .int .i64 0, .int .i64 0, .int .i64 0, .int .i64 0, .int .i64 0, .int .i64 0, .int .i64 0, .int .i64 0, .int .i64 0, .int .i64 0, .int .i64 0, .int .i64 0, .int .i64 0, .slice none 0 0] 75)).setRow p3 (cfgCells N (.slice a n c))) = w3 at *
    have hw3 : w.heap.size ≤ p3 := by rw [hp3]; exact hX1.size
    have h13 : p1 ≠ p3 := by omega
    clear hp3 h3r c16 h1r hcc1 hX1 hl1
    have c16 : (w3.alloc (.cells #[] 36)).cell? ⟨p1, 16, none⟩ = some (.slice a n c) := cell_old _ (cell_of_row w3 p1 16 _ _ _ h1s)
    obtain ⟨ih, hih, hz0, hz1, hz2⟩ := info_parts hint_zero
    have hrd := (HRR.out.ext (hX3.alloc (.cells #[] 36))).flat'
    go_wp2_with (at_builtin; refine wpList_append_rd rfl _ _ 33 rfl w3.heap.size 36 ih (.agg #[.int .i64 0, .int .i64 0, .int .i64 0, .bool false]) 4 32 Try.underlying33 hih hz0 hz1 hz2 rfl (by omega) _ _ _ rfl (own_empty' _ _ _ (Nat.le_refl _)) _ n _ rfl hrd (hcells_one F L n) (by unfold maxLen; omega) (by omega) (by simp) ?_)
    intro v5 w5 ho5 hg5
    try simp only [Nat.zero_add, List.nil_append] at ho5
    have hx5 : Ext w3 w5 := ((Ext.refl w3).alloc (.cells #[] 36)).grown hg5 (by simp) (fun k hk => by simp [Value.ownBlock] at hk; subst hk; exact Nat.le_refl _)
    have h1r := (Below.block hx5 _ (Array.getElem?_eq_some_iff.1 h1s).1).trans h1s
    have h3r := (Below.block hx5 _ (Array.getElem?_eq_some_iff.1 h3s).1).trans h3s
    have hl3 : p3 < w3.heap.size := (Array.getElem?_eq_some_iff.1 h3s).1
    obtain ⟨a3, q3, rfl, _⟩ := rdh_of_own ho5
    have z16 : w5.cell? ⟨p3, 16, none⟩ = some (.slice a n c) := cell_of_row w5 p3 16 _ _ _ h3r
    have fz := frozen_row h3r 16
    have HO5 := Lib.hid ho5
    have H1R := Lib.hid h1r
    have H3R := Lib.hid h3r
    have hX5 := hX3.trans hx5
    clear ho5 hg5 hx5 c16 hrd hih hz0 hz1 hz2 h1s h3s h1r h3r hX3
    go_upto_region 7 with fail
    have hr3 : RdH (w5.setCell ⟨p3, 16, none⟩ (.slice a3 n q3)) (.slice a3 n q3) n F L := rdh_of_own (own_chg HO5.out (S := [p3]) (by repeat' (first | (with_reducible exact Chg.refl _ _) | (with_reducible assumption) | (with_reducible refine Chg.drewN ?_ _) | (with_reducible refine Chg.drew ?_) | (with_reducible refine Chg.alloc ?_ _) | (with_reducible refine Chg.setCell ?_ (.inl (by simp)) _) | (with_reducible refine Chg.trans ?_ (by assumption)) | (with_reducible refine Chg.ext ?_ (by assumption)))) (by simpa using hl3))
    have h1r : (w5.setCell ⟨p3, 16, none⟩ (.slice a3 n q3)).heap[p1]? = some (.cells (cfgCells N (.slice a n c)) 75 (0, 0)) := (Below.heap_setCell _ _ _ _ h13).trans H1R.out
    have h3r : (w5.setCell ⟨p3, 16, none⟩ (.slice a3 n q3)).heap[p3]? = some (.cells (cfgCells N (.slice a3 n q3)) 75 (0, 0)) := heap_set (o := 16) H3R.out (.slice a3 n q3)
    have hX6 : Ext w (w5.setCell ⟨p3, 16, none⟩ (.slice a3 n q3)) := Ext.chg hX5 (S := [p3]) (by repeat' (first | (with_reducible exact Chg.refl _ _) | (with_reducible assumption) | (with_reducible refine Chg.drewN ?_ _) | (with_reducible refine Chg.drew ?_) | (with_reducible refine Chg.alloc ?_ _) | (with_reducible refine Chg.setCell ?_ (.inl (by simp)) _) | (with_reducible refine Chg.trans ?_ (by assumption)) | (with_reducible refine Chg.ext ?_ (by assumption)))) (by simpa using hw3)
    generalize (w5.setCell ⟨p3, 16, none⟩ (.slice a3 n q3)) = w6 at *
    have HR3 := Lib.hid hr3
    clear z16 fz HO5 H1R H3R hX5 hr3
    obtain ⟨k1, hk1⟩ : ∃ k, k = cfgCells N (.slice a n c) := ⟨_, rfl⟩
    obtain ⟨k3, hk3⟩ : ∃ k, k = cfgCells N (.slice a3 n q3) := ⟨_, rfl⟩
    have hi1 : (Try.prog.info? 75).map (·.size) = some k1.size := by rw [hk1]; exact cfg_info
    have hi3 : (Try.prog.info? 75).map (·.size) = some k3.size := by rw [hk3]; exact cfg_info
    rw [← hk1] at h1r
    rw [← hk3] at h3r
    have e1 : cfgV N (.slice a n c) = .agg k1 := by rw [hk1]; rfl
    have e3 : cfgV N (.slice a3 n q3) = .agg k3 := by rw [hk3]; rfl
    have HE1 := Lib.hid e1
    have HE3 := Lib.hid e3
    have HK1 := Lib.hid hk1
    have HK3 := Lib.hid hk3
    clear hk1 hk3 e1 e3
    have HS : Hid (∀ w', Ext w6 w' → Calls Try.prog 47 #[.agg k3, .agg k1] w' fun e w'' => e = .returned (.bool true) ∧ Ext w' w'') := Lib.hid (fun w' hx => by rw [← HE1.out, ← HE3.out]; exact rcsame N _ _ n F L w' (HR3.out.ext hx) (HRR.out.ext (hX6.trans hx)))
    by_cases ok : CfgOk N n F
    · have HOK := Lib.hid ok
      have HF : Hid (∀ w', Ext w6 w' → Calls Try.prog 48 #[.agg k1] w' fun e w'' => e = .returned (.bool true) ∧ Ext w' w'') := Lib.hid (fun w' hx => by rw [← HE1.out]; exact cright N _ n F L w' (HRR.out.ext (hX6.trans hx)) h20 HWF.out true (iff_of_true rfl ok))
      have HG : Hid (∀ w', Ext w6 w' → Calls Try.prog 49 #[.agg k1] w' fun e w'' => e = .returned (.bool true) ∧ Ext w' w'') := Lib.hid (fun w' hx => by rw [← HE1.out]; exact rcright N _ n F L w' (HRR.out.ext (hX6.trans hx)) h20 HWF.out true (iff_of_true rfl ok))
      have HPut : Hid (Calls Try.prog 45 #[.agg k3] w6 fun e w' => ∃ v', e = .returned (.tuple #[v', .int .i64 0]) ∧ OwnI .u8 5 w6.heap.size w' v' (confB N n F L) ∧ Ext w6 w') := Lib.hid (by rw [← HE3.out]; exact cput_ok N _ n F L w6 HR3.out HWF.out ok)
      have HRef : Hid (∀ w', Ext w6 w' → Calls Try.prog 46 #[.agg k1] w' fun e w'' => ∃ v', e = .returned (.tuple #[v', .int .i64 0]) ∧ OwnI .u8 5 w'.heap.size w'' v' (confB N n F L) ∧ Ext w' w'') := Lib.hid (fun w' hx => by rw [← HE1.out]; exact rcput_ok N _ n F L w' (HRR.out.ext (hX6.trans hx)) HWF.out ok)
      clear ok
      go_wp2_with (refine wpList_load_row rfl 75 _ rfl p3 rfl 75 k3 (0, 0) _ h3r Try.underlying75 rfl hi3 ?_)
      refine HPut.out.mono ?_
      rintro e w7 ⟨v7, rfl, ho7, hx7⟩
      have h1r7 := (Below.block hx7 _ (Array.getElem?_eq_some_iff.1 h1r).1).trans h1r
      go_wp2_with (refine wpList_load_row rfl 75 _ rfl p1 rfl 75 k1 (0, 0) _ h1r7 Try.underlying75 rfl hi1 ?_)
      refine (HRef.out _ hx7).mono ?_
      rintro e w8 ⟨v8, rfl, ho8, hx8⟩
      have hx68 := hx7.trans hx8
      have y1 := (Below.block hx68 _ (Array.getElem?_eq_some_iff.1 h1r).1).trans h1r
      have y3 := (Below.block hx68 _ (Array.getElem?_eq_some_iff.1 h3r).1).trans h3r
      have l1 : p1 < w8.heap.size := (Array.getElem?_eq_some_iff.1 y1).1
      have l3 : p3 < w8.heap.size := (Array.getElem?_eq_some_iff.1 y3).1
      have h7 : RdI .u8 w8 v7 (confB N n F L) := ho7.rd.ext hx8
      have HR7 := Lib.hid h7
      have HSB : Hid (∀ w', Ext w8 w' → Calls Try.prog 19 #[v7, v8] w' fun e w'' => e = .returned (.bool true) ∧ Ext w' w'') := Lib.hid (fun w' hx' => same_eq' _ _ (confB N n F L) w' (h7.ext hx') (ho8.rd.ext hx'))
      have HX68 := Lib.hid hx68
      clear ho7 ho8 hx7 hx8 h7 h1r h3r h1r7 hx68 HPut HRef
      obtain ⟨m, hm⟩ : ∃ m : Nat, m = 17 := ⟨_, rfl⟩
      have hA : sizeOf 75 = szC := rfl
      have hB : ∀ w', szC.run Try.prog w' = .ok m w' := fun w' => by rw [hm]; exact szC_run w'
      have hz1 : k1.size = m := by rw [HK1.out, hm]; rfl
      have hz3 : k3.size = m := by rw [HK3.out, hm]; rfl
      have HM := Lib.hid hm
      clear hm
      go_upto_region 9 with fail
      go_region_held3 (fun w' => w'.heap[p1]? = some (.cells k1 75 (0, 0)) ∧ w'.heap[p3]? = some (.cells k3 75 (0, 0)) ∧ (loadCellsFrom ⟨p1, 0, none⟩ 0 m #[]).run Try.prog w' = .ok k1 w' ∧ (loadCellsFrom ⟨p3, 0, none⟩ 0 m #[]).run Try.prog w' = .ok k3 w' ∧ Ext w8 w') (exact ⟨(Below.block (show Ext w8 _ from (by repeat' (first | (with_reducible exact Ext.refl _) | (with_reducible assumption) | (with_reducible refine Ext.alloc ?_ _) | (with_reducible refine Ext.drewN ?_ _) | (with_reducible refine Ext.drew ?_) | (with_reducible refine Ext.trans ?_ (by assumption))))) _ l1).trans y1, (Below.block (show Ext w8 _ from (by repeat' (first | (with_reducible exact Ext.refl _) | (with_reducible assumption) | (with_reducible refine Ext.alloc ?_ _) | (with_reducible refine Ext.drewN ?_ _) | (with_reducible refine Ext.drew ?_) | (with_reducible refine Ext.trans ?_ (by assumption))))) _ l3).trans y3, lc_row ((Below.block (show Ext w8 _ from (by repeat' (first | (with_reducible exact Ext.refl _) | (with_reducible assumption) | (with_reducible refine Ext.alloc ?_ _) | (with_reducible refine Ext.drewN ?_ _) | (with_reducible refine Ext.drew ?_) | (with_reducible refine Ext.trans ?_ (by assumption))))) _ l1).trans y1) hz1, lc_row ((Below.block (show Ext w8 _ from (by repeat' (first | (with_reducible exact Ext.refl _) | (with_reducible assumption) | (with_reducible refine Ext.alloc ?_ _) | (with_reducible refine Ext.drewN ?_ _) | (with_reducible refine Ext.drew ?_) | (with_reducible refine Ext.trans ?_ (by assumption))))) _ l3).trans y3) hz3, (by repeat' (first | (with_reducible exact Ext.refl _) | (with_reducible assumption) | (with_reducible refine Ext.alloc ?_ _) | (with_reducible refine Ext.drewN ?_ _) | (with_reducible refine Ext.drew ?_) | (with_reducible refine Ext.trans ?_ (by assumption))))⟩)
        (first | (go_at_call 19; refine (HSB.out _ (by repeat' (first | (with_reducible exact Ext.refl _) | (with_reducible assumption) | (with_reducible refine Ext.alloc ?_ _) | (with_reducible refine Ext.drewN ?_ _) | (with_reducible refine Ext.drew ?_) | (with_reducible refine Ext.trans ?_ (by assumption))))).mono ?_; rintro e wC ⟨rfl, hxC⟩) | (go_at_call 47; refine (HS.out _ (HX68.out.trans (by repeat' (first | (with_reducible exact Ext.refl _) | (with_reducible assumption) | (with_reducible refine Ext.alloc ?_ _) | (with_reducible refine Ext.drewN ?_ _) | (with_reducible refine Ext.drew ?_) | (with_reducible refine Ext.trans ?_ (by assumption)))))).mono ?_; rintro e wC ⟨rfl, hxC⟩) | (go_at_call 48; refine (HF.out _ (HX68.out.trans (by repeat' (first | (with_reducible exact Ext.refl _) | (with_reducible assumption) | (with_reducible refine Ext.alloc ?_ _) | (with_reducible refine Ext.drewN ?_ _) | (with_reducible refine Ext.drew ?_) | (with_reducible refine Ext.trans ?_ (by assumption)))))).mono ?_; rintro e wC ⟨rfl, hxC⟩) | (go_at_call 49; refine (HG.out _ (HX68.out.trans (by repeat' (first | (with_reducible exact Ext.refl _) | (with_reducible assumption) | (with_reducible refine Ext.alloc ?_ _) | (with_reducible refine Ext.drewN ?_ _) | (with_reducible refine Ext.drew ?_) | (with_reducible refine Ext.trans ?_ (by assumption)))))).mono ?_; rintro e wC ⟨rfl, hxC⟩))
      have LEN := confB_len (L := L) HOK.out
      have HRE := Lib.hid (conf_reads (L := L) HOK.out [])
      clear hA hB y3 l3
      go_wp2_with fail
      refine (cget _ (confB N n F L) _ (HR7.out.ext (by repeat' (first | (with_reducible exact Ext.refl _) | (with_reducible assumption) | (with_reducible refine Ext.alloc ?_ _) | (with_reducible refine Ext.drewN ?_ _) | (with_reducible refine Ext.drew ?_) | (with_reducible refine Ext.trans ?_ (by assumption))))) (confB_bytes N n F L) (by omega) 0 (gout_ok HOK.out)).mono ?_
      rintro e w9 ⟨N', hv', rfl, himp, hx9⟩
      obtain ⟨n', hn', hN', hr'⟩ := himp (by first | rfl | trivial)
      have hre := HRE.out
      simp only [List.append_nil] at hre
      obtain rfl : n' = n := by have := hn'.symm.trans hre.2.1; omega
      have hr9 : RdH w9 hv' n' F L := hr'.congr (fun i j hi hj => (hre.2.2.2.1 i hi).2.1 j hj) (fun i hi => (hre.2.2.2.1 i hi).2.2)
      obtain ⟨a9, q9, rfl, _⟩ := id hr9
      obtain ⟨k9, hk9⟩ : ∃ k, k = cfgCells N (.slice a9 n' q9) := ⟨_, rfl⟩
      have e9 : cfgV N' (.slice a9 n' q9) = .agg k9 := by rw [cfgV_cells, hk9, cfgCells_congr (fun k hk => (hN' k hk).trans (hre.1 k hk))]
      have e9' : cfgV N (.slice a9 n' q9) = .agg k9 := by rw [hk9]; rfl
      have hi9 : (Try.prog.info? 75).map (·.size) = some k9.size := by rw [hk9]; exact cfg_info
      have ho9 : k9.all (·.oneCell') = true := by rw [hk9]; simp [cfgCells, Value.oneCell']
      have hz9 : k9.size = m := by rw [hk9, HM.out]; rfl
      have hz9' : (#[.int .i64 0, .int .i64 0, .int .i64 0, .int .i64 0, .int .i64 0, .int .i64 0, .int .i64 0, .int .i64 0, .int .i64 0, .int .i64 0, .int .i64 0, .int .i64 0, .int .i64 0, .int .i64 0, .int .i64 0, .int .i64 0, .slice none 0 0] : Array Value).size = k9.size := by rw [hk9]; rfl
      have h1r9 := (Below.block (show Ext w8 w9 from (by repeat' (first | (with_reducible exact Ext.refl _) | (with_reducible assumption) | (with_reducible refine Ext.alloc ?_ _) | (with_reducible refine Ext.drewN ?_ _) | (with_reducible refine Ext.drew ?_) | (with_reducible refine Ext.trans ?_ (by assumption))))) _ l1).trans y1
      have hX9 : Ext w w9 := (hX6.trans HX68.out).trans (by repeat' (first | (with_reducible exact Ext.refl _) | (with_reducible assumption) | (with_reducible refine Ext.alloc ?_ _) | (with_reducible refine Ext.drewN ?_ _) | (with_reducible refine Ext.drew ?_) | (with_reducible refine Ext.trans ?_ (by assumption))))
      rw [e9]
      have HR9 := Lib.hid hr9
      have HE9 := Lib.hid e9'
      clear hre hn' hN' hr' himp hr9 hk9 e9 e9' LEN y1 l1 HRE
      have h8r : (w9.alloc (.cells #[.int .i64 0, .int .i64 0, .int .i64 0, .int .i64 0, .int .i64 0, .int .i64 0, .int .i64 0, .int .i64 0, .int .i64 0, .int .i64 0, .int .i64 0, .int .i64 0, .int .i64 0, .int .i64 0, .int .i64 0, .int .i64 0, .slice none 0 0] 75)).heap[w9.heap.size]? = some (.cells #[.int .i64 0, .int .i64 0, .int .i64 0, .int .i64 0, .int .i64 0, .int .i64 0, .int .i64 0, .int .i64 0, .int .i64 0, .int .i64 0, .int .i64 0, .int .i64 0, .int .i64 0, .int .i64 0, .int .i64 0, .int .i64 0, .slice none 0 0] 75 (0, 0)) := heap_alloc_new w9 _
      go_upto_region 14 with (refine wpList_store_row rfl 75 _ _ rfl w9.heap.size k9 rfl rfl 75 _ h8r hi9 hz9' ho9 ?_)
      have h8s := setRow_heap _ _ _ k9 _ _ h8r
      have hl1 : p1 < w9.heap.size := (Array.getElem?_eq_some_iff.1 h1r9).1
      have h1s : ((w9.alloc (.cells #[.int .i64 0, .int .i64 0, .int .i64 0, .int .i64 0, .int .i64 0, .int .i64 0, .int .i64 0, .int .i64 0, .int .i64 0, .int .i64 0, .int .i64 0, .int .i64 0, .int .i64 0, .int .i64 0, .int .i64 0, .int .i64 0, .slice none 0 0] 75)).setRow w9.heap.size k9).heap[p1]? = some (.cells k1 75 (0, 0)) := (setRow_other _ _ _ _ (by omega)).trans ((Below.heap_alloc w9 _ _ hl1).trans h1r9)
      have hx9s : Ext w9 ((w9.alloc (.cells #[.int .i64 0, .int .i64 0, .int .i64 0, .int .i64 0, .int .i64 0, .int .i64 0, .int .i64 0, .int .i64 0, .int .i64 0, .int .i64 0, .int .i64 0, .int .i64 0, .int .i64 0, .int .i64 0, .int .i64 0, .int .i64 0, .slice none 0 0] 75)).setRow w9.heap.size k9) := below_setRow ((Ext.refl w9).alloc _) (Nat.le_refl _) _
      obtain ⟨p8, hp8⟩ : ∃ p, p = w9.heap.size := ⟨_, rfl⟩
      rw [← hp8] at h8s h1s hx9s ⊢
      clear h8r h1r9 hl1 hp8
      generalize ((w9.alloc (.cells #[.int .i64 0, .int .i64 0, .int .i64 0, .int .i64 0, .int .i64 0, .int .i64 0, .int .i64 0, .int .i64 0, .int .i64 0, .int .i64 0, .int .i64 0, .int .i64 0, .int .i64 0, .int .i64 0, .int .i64 0, .int .i64 0, .slice none 0 0] 75)).setRow p8 k9) = w10 at *
      have HS9 : Hid (Calls Try.prog 47 #[.agg k9, .agg k1] w10 fun e w'' => e = .returned (.bool true) ∧ Ext w10 w'') := Lib.hid (by rw [← HE1.out, ← HE9.out]; exact rcsame N _ _ n' F L w10 (HR9.out.ext hx9s) (HRR.out.ext (hX9.trans hx9s)))
      have hA : sizeOf 75 = szC := rfl
      have hB : ∀ w', szC.run Try.prog w' = .ok m w' := fun w' => by rw [HM.out]; exact szC_run w'
      have f1 : (loadCellsFrom ⟨p1, 0, none⟩ 0 m #[]).run Try.prog w10 = .ok k1 w10 := lc_row h1s hz1
      have f8 : (loadCellsFrom ⟨p8, 0, none⟩ 0 m #[]).run Try.prog w10 = .ok k9 w10 := lc_row h8s hz9
      clear h1s h8s
      go_wp2_with fail
      refine HS9.out.mono ?_
      rintro e w11 ⟨rfl, hx11⟩
      clear hA hB f1 f8
      go_wp2_with fail
      go_ret
      exact ⟨rfl, (hX9.trans hx9s).trans hx11⟩
    · have HF : Hid (∀ w', Ext w6 w' → Calls Try.prog 48 #[.agg k1] w' fun e w'' => e = .returned (.bool false) ∧ Ext w' w'') := Lib.hid (fun w' hx => by rw [← HE1.out]; exact cright N _ n F L w' (HRR.out.ext (hX6.trans hx)) h20 HWF.out false (by simpa using ok))
      have HG : Hid (∀ w', Ext w6 w' → Calls Try.prog 49 #[.agg k1] w' fun e w'' => e = .returned (.bool false) ∧ Ext w' w'') := Lib.hid (fun w' hx => by rw [← HE1.out]; exact rcright N _ n F L w' (HRR.out.ext (hX6.trans hx)) h20 HWF.out false (by simpa using ok))
      have HPut : Hid (Calls Try.prog 45 #[.agg k3] w6 fun e w' => e = .returned (.tuple #[.slice none 0 0, .int .i64 6]) ∧ Ext w6 w') := Lib.hid (by rw [← HE3.out]; exact cput_bad N _ n F L w6 HR3.out h20 HWF.out ok)
      have HRef : Hid (∀ w', Ext w6 w' → Calls Try.prog 46 #[.agg k1] w' fun e w'' => e = .returned (.tuple #[.slice none 0 0, .int .i64 6]) ∧ Ext w' w'') := Lib.hid (fun w' hx => by rw [← HE1.out]; exact rcput_bad N _ n F L w' (HRR.out.ext (hX6.trans hx)) h20 HWF.out ok)
      clear ok
      go_wp2_with (refine wpList_load_row rfl 75 _ rfl p3 rfl 75 k3 (0, 0) _ h3r Try.underlying75 rfl hi3 ?_)
      refine HPut.out.mono ?_
      rintro e w7 ⟨rfl, hx7⟩
      have h1r7 := (Below.block hx7 _ (Array.getElem?_eq_some_iff.1 h1r).1).trans h1r
      go_wp2_with (refine wpList_load_row rfl 75 _ rfl p1 rfl 75 k1 (0, 0) _ h1r7 Try.underlying75 rfl hi1 ?_)
      refine (HRef.out _ hx7).mono ?_
      rintro e w8 ⟨rfl, hx8⟩
      have hx68 := hx7.trans hx8
      have y1 := (Below.block hx68 _ (Array.getElem?_eq_some_iff.1 h1r).1).trans h1r
      have y3 := (Below.block hx68 _ (Array.getElem?_eq_some_iff.1 h3r).1).trans h3r
      have l1 : p1 < w8.heap.size := (Array.getElem?_eq_some_iff.1 y1).1
      have l3 : p3 < w8.heap.size := (Array.getElem?_eq_some_iff.1 y3).1
      have HSB : Hid (∀ w', Ext w8 w' → Calls Try.prog 19 #[.slice none 0 0, .slice none 0 0] w' fun e w'' => e = .returned (.bool true) ∧ Ext w' w'') := Lib.hid (fun w' hx' => same_eq' _ _ [] w' (RdI.nil .u8 w') (RdI.nil .u8 w'))
      have HX68 := Lib.hid hx68
      clear hx7 hx8 h1r h3r h1r7 hx68 HPut HRef
      obtain ⟨m, hm⟩ : ∃ m : Nat, m = 17 := ⟨_, rfl⟩
      have hA : sizeOf 75 = szC := rfl
      have hB : ∀ w', szC.run Try.prog w' = .ok m w' := fun w' => by rw [hm]; exact szC_run w'
      have hz1 : k1.size = m := by rw [HK1.out, hm]; rfl
      have hz3 : k3.size = m := by rw [HK3.out, hm]; rfl
      clear hm
      go_upto_region 9 with fail
      go_region_held3 (fun w' => w'.heap[p1]? = some (.cells k1 75 (0, 0)) ∧ w'.heap[p3]? = some (.cells k3 75 (0, 0)) ∧ (loadCellsFrom ⟨p1, 0, none⟩ 0 m #[]).run Try.prog w' = .ok k1 w' ∧ (loadCellsFrom ⟨p3, 0, none⟩ 0 m #[]).run Try.prog w' = .ok k3 w' ∧ Ext w8 w') (exact ⟨(Below.block (show Ext w8 _ from (by repeat' (first | (with_reducible exact Ext.refl _) | (with_reducible assumption) | (with_reducible refine Ext.alloc ?_ _) | (with_reducible refine Ext.drewN ?_ _) | (with_reducible refine Ext.drew ?_) | (with_reducible refine Ext.trans ?_ (by assumption))))) _ l1).trans y1, (Below.block (show Ext w8 _ from (by repeat' (first | (with_reducible exact Ext.refl _) | (with_reducible assumption) | (with_reducible refine Ext.alloc ?_ _) | (with_reducible refine Ext.drewN ?_ _) | (with_reducible refine Ext.drew ?_) | (with_reducible refine Ext.trans ?_ (by assumption))))) _ l3).trans y3, lc_row ((Below.block (show Ext w8 _ from (by repeat' (first | (with_reducible exact Ext.refl _) | (with_reducible assumption) | (with_reducible refine Ext.alloc ?_ _) | (with_reducible refine Ext.drewN ?_ _) | (with_reducible refine Ext.drew ?_) | (with_reducible refine Ext.trans ?_ (by assumption))))) _ l1).trans y1) hz1, lc_row ((Below.block (show Ext w8 _ from (by repeat' (first | (with_reducible exact Ext.refl _) | (with_reducible assumption) | (with_reducible refine Ext.alloc ?_ _) | (with_reducible refine Ext.drewN ?_ _) | (with_reducible refine Ext.drew ?_) | (with_reducible refine Ext.trans ?_ (by assumption))))) _ l3).trans y3) hz3, (by repeat' (first | (with_reducible exact Ext.refl _) | (with_reducible assumption) | (with_reducible refine Ext.alloc ?_ _) | (with_reducible refine Ext.drewN ?_ _) | (with_reducible refine Ext.drew ?_) | (with_reducible refine Ext.trans ?_ (by assumption))))⟩)
        (first | (go_at_call 19; refine (HSB.out _ (by repeat' (first | (with_reducible exact Ext.refl _) | (with_reducible assumption) | (with_reducible refine Ext.alloc ?_ _) | (with_reducible refine Ext.drewN ?_ _) | (with_reducible refine Ext.drew ?_) | (with_reducible refine Ext.trans ?_ (by assumption))))).mono ?_; rintro e wC ⟨rfl, hxC⟩) | (go_at_call 47; refine (HS.out _ (HX68.out.trans (by repeat' (first | (with_reducible exact Ext.refl _) | (with_reducible assumption) | (with_reducible refine Ext.alloc ?_ _) | (with_reducible refine Ext.drewN ?_ _) | (with_reducible refine Ext.drew ?_) | (with_reducible refine Ext.trans ?_ (by assumption)))))).mono ?_; rintro e wC ⟨rfl, hxC⟩) | (go_at_call 48; refine (HF.out _ (HX68.out.trans (by repeat' (first | (with_reducible exact Ext.refl _) | (with_reducible assumption) | (with_reducible refine Ext.alloc ?_ _) | (with_reducible refine Ext.drewN ?_ _) | (with_reducible refine Ext.drew ?_) | (with_reducible refine Ext.trans ?_ (by assumption)))))).mono ?_; rintro e wC ⟨rfl, hxC⟩) | (go_at_call 49; refine (HG.out _ (HX68.out.trans (by repeat' (first | (with_reducible exact Ext.refl _) | (with_reducible assumption) | (with_reducible refine Ext.alloc ?_ _) | (with_reducible refine Ext.drewN ?_ _) | (with_reducible refine Ext.drew ?_) | (with_reducible refine Ext.trans ?_ (by assumption)))))).mono ?_; rintro e wC ⟨rfl, hxC⟩))
      all_goals
        clear hA hB
        go_wp2_with fail
        go_ret
        exact ⟨rfl, (hX6.trans HX68.out).trans (by repeat' (first | (with_reducible exact Ext.refl _) | (with_reducible assumption) | (with_reducible refine Ext.alloc ?_ _) | (with_reducible refine Ext.drewN ?_ _) | (with_reducible refine Ext.drew ?_) | (with_reducible refine Ext.trans ?_ (by assumption))))⟩
  · have h20' : ¬ (n : Int) ≤ 20 := by omega
    go_enter Try.func13, Try.ntmps13
    go_wp2_with fail
    refine (wakes03 _).mono ?_
    rintro e w1 ⟨rfl, hx1⟩
    have c16 := hx1.cellv (cell_new w #[.int .i64 (N 0), .int .i64 (N 1), .int .i64 (N 2), .int .i64 (N 3), .int .i64 (N 4), .int .i64 (N 5), .int .i64 (N 6), .int .i64 (N 7), .int .i64 (N 8), .int .i64 (N 9), .int .i64 (N 10), .int .i64 (N 11), .int .i64 (N 12), .int .i64 (N 13), .int .i64 (N 14), .int .i64 (N 15), .slice a n c] 75 (0, 0) (j := 16) rfl)
    go_wp2_with fail
    go_ret
    exact ⟨rfl, (by repeat' (first | (with_reducible exact Ext.refl _) | (with_reducible assumption) | (with_reducible refine Ext.alloc ?_ _) | (with_reducible refine Ext.drewN ?_ _) | (with_reducible refine Ext.drew ?_) | (with_reducible refine Ext.trans ?_ (by assumption))))⟩
end Go.Proofs.Ytmkobmkaalfecaa
