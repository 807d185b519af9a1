/-
  gradinelaw03.ConfCut answers true. No condition.
-/
import Derived.Test.YtmkobmkaalfecaaConfArg
import Derived.Test.YtmkobmkaalfecaaConfWakes
import Derived.Test.YtmkobmkaalfecaaCPut
import Derived.Test.YtmkobmkaalfecaaCGet2
import Derived.Laws.CopyOwn
namespace Go.Proofs.Ytmkobmkaalfecaa
open Go.RowKit

theorem cfg_one (N : Nat → Int) (a : Option Addr) (l c : Nat) : (cfgCells N (.slice a l c)).all (·.oneCell') = true := by simp [cfgCells, Value.oneCell']
set_option maxRecDepth 100000 in
set_option maxHeartbeats 8000000 in
theorem walk_ConfCut (v0 v1 v2 : Value) (w : World) (h0 : IsFlat Try.prog 75 w v0) (h1 : IsInt .u8 v1) (h2 : IsInt .u8 v2) :
    Calls Try.prog 14 #[v0, v1, v2] w fun e w' => e = .returned (.bool true) ∧ Ext w w' := by
  obtain ⟨N, hv, n, F, L, rfl, hr, hwf⟩ := cfg_of h0
  obtain ⟨p, rfl, wp⟩ := h1
  obtain ⟨y, rfl, wy⟩ := h2
  obtain ⟨p0, p1⟩ := u8_bd wp
  obtain ⟨y0, y1⟩ := u8_bd wy
  have HRR := Lib.hid hr
  have HWF := Lib.hid hwf
  obtain ⟨a, c, rfl, hnc, hcm, _⟩ := hr
  have hn63 : (n : Int) ≤ 9223372036854775807 := by unfold maxLen at hcm; omega
  clear h0 hwf hcm hnc wp wy
  have HY := Lib.hid (And.intro y0 y1)
  clear y0 y1
  unfold cfgV
  by_cases h20 : n ≤ 20
  · have h20' : (n : Int) ≤ 20 := by omega
    go_enter Try.func14, Try.ntmps14
    go_wp2_with fail
    have h1r : (w.alloc (.cells #[.int .i64 (N 0), .int .i64 (N 1), .int .i64 (N 2), .int .i64 (N 3), .int .i64 (N 4), .int .i64 (N 5), .int .i64 (N 6), .int .i64 (N 7), .int .i64 (N 8), .int .i64 (N 9), .int .i64 (N 10), .int .i64 (N 11), .int .i64 (N 12), .int .i64 (N 13), .int .i64 (N 14), .int .i64 (N 15), .slice a n c] 75)).heap[w.heap.size]? = some (.cells (cfgCells N (.slice a n c)) 75 (0, 0)) := heap_alloc_new w _
    have hX0 : Ext w (w.alloc (.cells #[.int .i64 (N 0), .int .i64 (N 1), .int .i64 (N 2), .int .i64 (N 3), .int .i64 (N 4), .int .i64 (N 5), .int .i64 (N 6), .int .i64 (N 7), .int .i64 (N 8), .int .i64 (N 9), .int .i64 (N 10), .int .i64 (N 11), .int .i64 (N 12), .int .i64 (N 13), .int .i64 (N 14), .int .i64 (N 15), .slice a n c] 75)) := (Ext.refl w).alloc _
    generalize (w.alloc (.cells #[.int .i64 (N 0), .int .i64 (N 1), .int .i64 (N 2), .int .i64 (N 3), .int .i64 (N 4), .int .i64 (N 5), .int .i64 (N 6), .int .i64 (N 7), .int .i64 (N 8), .int .i64 (N 9), .int .i64 (N 10), .int .i64 (N 11), .int .i64 (N 12), .int .i64 (N 13), .int .i64 (N 14), .int .i64 (N 15), .slice a n c] 75)) = w0 at *
    obtain ⟨q1, hq1⟩ : ∃ p, p = w.heap.size := ⟨_, rfl⟩
    rw [← hq1] at h1r ⊢
    clear hq1
    refine (wakes03 _).mono ?_
    rintro e w1 ⟨rfl, hx1⟩
    have h1r := (Below.block hx1 _ (Array.getElem?_eq_some_iff.1 h1r).1).trans h1r
    have hX1 := hX0.trans hx1
    clear hx1 hX0
    have c16 : w1.cell? ⟨q1, 16, none⟩ = some (.slice a n c) := cell_of_row w1 q1 16 _ _ _ h1r
    go_wp2_with (refine wpList_load_row rfl 75 _ rfl q1 rfl 75 (cfgCells N (.slice a n c)) (0, 0) _ h1r Try.underlying75 rfl cfg_info ?_)
    clear c16 h1r
    by_cases ok : CfgOk N n F
    · refine (cput_ok N _ n F L w1 (HRR.out.ext hX1) HWF.out ok).mono ?_
      rintro e w2 ⟨v2, rfl, ho2, hx2⟩
      have LEN := confB_len (L := L) ok
      obtain ⟨B, hB⟩ : ∃ B, B = confB N n F L := ⟨_, rfl⟩
      obtain ⟨m, hm⟩ : ∃ m, m = B.length := ⟨_, rfl⟩
      rw [← hB] at ho2 LEN
      have hbB : ∀ x ∈ B, 0 ≤ x ∧ x ≤ 255 := by rw [hB]; exact confB_bytes N n F L
      obtain ⟨g2, c2, rfl, hg2, hg2l⟩ := World.ownsRow.form ho2 (by omega)
      have hr2 : RdI .u8 w2 (.slice (some ⟨g2, 0, none⟩) B.length c2) B := ho2.rd
      have hmc : m ≤ c2 := by obtain ⟨_, _, e, h, _⟩ := hr2.parts; cases e; omega
      have hcx : (c2 : Int) ≤ 9223372036854775807 := by obtain ⟨_, _, e, _, h, _⟩ := hr2.parts; cases e; unfold maxLen at h; omega
      obtain ⟨f, hf⟩ : ∃ f : Nat, p % (m : Int) = f := ⟨(p % (m : Int)).toNat, (Int.toNat_of_nonneg (Int.emod_nonneg _ (by omega))).symm⟩
      have hfm : f < m := by have := Int.emod_lt_of_pos p (show (0 : Int) < m by omega); omega
      have hG1 : GOut (B.take f) 1 := gout_cut ok (B.take f) (B.drop f) (by rw [← hB, List.take_append_drop]) (by intro e; have := congrArg List.length e; simp at this; omega)
      have hG2 : GOut (B ++ [y]) 2 := by rw [hB]; exact gout_more ok y
      have hr3 := hr2.take f (by omega)
      have hlt : (B.take f).length = f := by rw [List.length_take]; omega
      have hX2 := hX1.trans hx2
      rw [← hm]
      have hmb : ((m : Int) == 0) = false := by rw [beq_eq_false_iff_ne]; omega
      have hfc : (f : Int) ≤ (c2 : Int) := by omega
      have hf0 : (0 : Int) ≤ (f : Int) := by omega
      have HR2 := Lib.hid hr2
      have HR3 := Lib.hid hr3
      have HG1 := Lib.hid hG1
      have HG2 := Lib.hid hG2
      have HBB := Lib.hid hbB
      have HM := Lib.hid hm
      have HLEN := Lib.hid LEN
      have HLT := Lib.hid hlt
      have hm63 : (m : Int) ≤ 9223372036854775807 := by omega
      clear ok hB hr2 hr3 hG1 hG2 hbB LEN hlt ho2 hg2 hx2 hX1 hm hmc
      go_wp2_with fail
      refine (cget2 _ (B.take f) _ HR3.out (fun x hx => HBB.out x (List.mem_of_mem_take hx)) (by have := HLT.out; have := HLEN.out; have := HM.out; omega) 1 HG1.out).mono ?_
      rintro e w3 ⟨N3, hv3, rfl, ⟨a3, l3, c3, rfl⟩, _, hx3⟩
      have hX3 := hX2.trans hx3
      obtain ⟨k3, hk3⟩ : ∃ k, k = cfgCells N3 (.slice a3 l3 c3) := ⟨_, rfl⟩
      have e3 : cfgV N3 (.slice a3 l3 c3) = .agg k3 := by rw [hk3]; rfl
      have hi3 : (Try.prog.info? 75).map (·.size) = some k3.size := by rw [hk3]; exact cfg_info
      have ho3 : k3.all (·.oneCell') = true := by rw [hk3]; exact cfg_one _ _ _ _
      have hz3 : (#[.int .i64 0, .int .i64 0, .int .i64 0, .int .i64 0, .int .i64 0, .int .i64 0, .int .i64 0, .int .i64 0, .int .i64 0, .int .i64 0, .int .i64 0, .int .i64 0, .int .i64 0, .int .i64 0, .int .i64 0, .int .i64 0, .slice none 0 0] : Array Value).size = k3.size := by rw [hk3]; rfl
      rw [e3]
      clear e3 hk3
      have h9r : (w3.alloc (.cells #[.int .i64 0, .int .i64 0, .int .i64 0, .int .i64 0, .int .i64 0, .int .i64 0, .int .i64 0, .int .i64 0, .int .i64 0, .int .i64 0, .int .i64 0, .int .i64 0, .int .i64 0, .int .i64 0, .int .i64 0, .int .i64 0, .slice none 0 0] 75)).heap[w3.heap.size]? = some (.cells #[.int .i64 0, .int .i64 0, .int .i64 0, .int .i64 0, .int .i64 0, .int .i64 0, .int .i64 0, .int .i64 0, .int .i64 0, .int .i64 0, .int .i64 0, .int .i64 0, .int .i64 0, .int .i64 0, .int .i64 0, .int .i64 0, .slice none 0 0] 75 (0, 0)) := heap_alloc_new w3 _
      go_upto_region 9 with (refine wpList_store_row rfl 75 _ _ rfl w3.heap.size k3 rfl rfl 75 _ h9r hi3 hz3 ho3 ?_)
      have hx4 : Ext w3 ((w3.alloc (.cells #[.int .i64 0, .int .i64 0, .int .i64 0, .int .i64 0, .int .i64 0, .int .i64 0, .int .i64 0, .int .i64 0, .int .i64 0, .int .i64 0, .int .i64 0, .int .i64 0, .int .i64 0, .int .i64 0, .int .i64 0, .int .i64 0, .slice none 0 0] 75)).setRow w3.heap.size k3) := below_setRow ((Ext.refl w3).alloc _) (Nat.le_refl _) _
      generalize ((w3.alloc (.cells #[.int .i64 0, .int .i64 0, .int .i64 0, .int .i64 0, .int .i64 0, .int .i64 0, .int .i64 0, .int .i64 0, .int .i64 0, .int .i64 0, .int .i64 0, .int .i64 0, .int .i64 0, .int .i64 0, .int .i64 0, .int .i64 0, .slice none 0 0] 75)).setRow w3.heap.size k3) = w4 at *
      have hX4 := hX3.trans hx4
      have hr4 := HR2.out.ext (hx3.trans hx4)
      rw [← HM.out] at hr4
      have HR4 := Lib.hid hr4
      clear h9r hi3 hz3 ho3 hx3 hx4 hX3 hX2 hr4
      go_wp2_with (at_builtin; refine wpList_append_ints rfl _ _ 24 rfl 5 .u8 0 1 Try.underlying24 bytes_info (by decide) w4 (by repeat' (first | (with_reducible exact Ext.refl _) | (with_reducible assumption) | (with_reducible refine Ext.alloc ?_ _) | (with_reducible refine Ext.drewN ?_ _) | (with_reducible refine Ext.drew ?_) | (with_reducible refine Ext.trans ?_ (by assumption)))) _ _ rfl (OwnI.empty _ _ _ (Nat.le_refl _)) _ _ rfl (HR4.out.ext ((Ext.refl w4).alloc _)) (by have := HLEN.out; unfold Fits; simp; omega) ?_)
      intro v6 w6 ho6 hx6
      go_wp2_with (at_builtin; refine wpList_append_ints rfl _ _ 24 rfl 5 .u8 0 1 Try.underlying24 bytes_info (by decide) w4 (by repeat' (first | (with_reducible exact Ext.refl _) | (with_reducible assumption) | (with_reducible refine Ext.alloc ?_ _) | (with_reducible refine Ext.drewN ?_ _) | (with_reducible refine Ext.drew ?_) | (with_reducible refine Ext.trans ?_ (by assumption)))) _ _ rfl (ho6.ext (by repeat' (first | (with_reducible exact Ext.refl _) | (with_reducible assumption) | (with_reducible refine Ext.alloc ?_ _) | (with_reducible refine Ext.drewN ?_ _) | (with_reducible refine Ext.drew ?_) | (with_reducible refine Ext.trans ?_ (by assumption))))) _ _ rfl (RdI.one _ _ _ _) (by have := HLEN.out; unfold Fits; simp; omega) ?_)
      intro v7 w7 ho7 hx7
      have HBY : Hid (∀ x ∈ B ++ [y], 0 ≤ x ∧ x ≤ 255) := Lib.hid (fun x hx => by
        rcases List.mem_append.1 hx with h | h
        · exact HBB.out x h
        · simp at h; subst h; exact HY.out)
      have HO7 := Lib.hid ho7.rd
      clear ho6 hx6 ho7
      go_wp2_with fail
      refine (cget2 _ (B ++ [y]) _ HO7.out HBY.out (by have := HLEN.out; simp; omega) 2 HG2.out).mono ?_
      rintro e w8 ⟨N8, hv8, rfl, ⟨a8, l8, c8, rfl⟩, _, hx8⟩
      have hX8 := (hX4.trans hx7).trans hx8
      obtain ⟨k8, hk8⟩ : ∃ k, k = cfgCells N8 (.slice a8 l8 c8) := ⟨_, rfl⟩
      have e8 : cfgV N8 (.slice a8 l8 c8) = .agg k8 := by rw [hk8]; rfl
      have hi8 : (Try.prog.info? 75).map (·.size) = some k8.size := by rw [hk8]; exact cfg_info
      have ho8 : k8.all (·.oneCell') = true := by rw [hk8]; exact cfg_one _ _ _ _
      have hz8 : (#[.int .i64 0, .int .i64 0, .int .i64 0, .int .i64 0, .int .i64 0, .int .i64 0, .int .i64 0, .int .i64 0, .int .i64 0, .int .i64 0, .int .i64 0, .int .i64 0, .int .i64 0, .int .i64 0, .int .i64 0, .int .i64 0, .slice none 0 0] : Array Value).size = k8.size := by rw [hk8]; rfl
      rw [e8]
      clear e8 hk8 hx7 hx8
      have h9r : (w8.alloc (.cells #[.int .i64 0, .int .i64 0, .int .i64 0, .int .i64 0, .int .i64 0, .int .i64 0, .int .i64 0, .int .i64 0, .int .i64 0, .int .i64 0, .int .i64 0, .int .i64 0, .int .i64 0, .int .i64 0, .int .i64 0, .int .i64 0, .slice none 0 0] 75)).heap[w8.heap.size]? = some (.cells #[.int .i64 0, .int .i64 0, .int .i64 0, .int .i64 0, .int .i64 0, .int .i64 0, .int .i64 0, .int .i64 0, .int .i64 0, .int .i64 0, .int .i64 0, .int .i64 0, .int .i64 0, .int .i64 0, .int .i64 0, .int .i64 0, .slice none 0 0] 75 (0, 0)) := heap_alloc_new w8 _
      go_upto_region 10 with (refine wpList_store_row rfl 75 _ _ rfl w8.heap.size k8 rfl rfl 75 _ h9r hi8 hz8 ho8 ?_)
      have hx9 : Ext w8 ((w8.alloc (.cells #[.int .i64 0, .int .i64 0, .int .i64 0, .int .i64 0, .int .i64 0, .int .i64 0, .int .i64 0, .int .i64 0, .int .i64 0, .int .i64 0, .int .i64 0, .int .i64 0, .int .i64 0, .int .i64 0, .int .i64 0, .int .i64 0, .slice none 0 0] 75)).setRow w8.heap.size k8) := below_setRow ((Ext.refl w8).alloc _) (Nat.le_refl _) _
      generalize ((w8.alloc (.cells #[.int .i64 0, .int .i64 0, .int .i64 0, .int .i64 0, .int .i64 0, .int .i64 0, .int .i64 0, .int .i64 0, .int .i64 0, .int .i64 0, .int .i64 0, .int .i64 0, .int .i64 0, .int .i64 0, .int .i64 0, .int .i64 0, .slice none 0 0] 75)).setRow w8.heap.size k8) = w9 at *
      go_wp2_with fail
      go_ret
      exact ⟨rfl, hX8.trans hx9⟩
    · refine (cput_bad N _ n F L w1 (HRR.out.ext hX1) h20 HWF.out ok).mono ?_
      rintro e w2 ⟨rfl, hx2⟩
      go_wp2_with fail
      go_ret
      exact ⟨rfl, hX1.trans hx2⟩
  · have h20' : ¬ (n : Int) ≤ 20 := by omega
    go_enter Try.func14, Try.ntmps14
    go_wp2_with fail
    refine (wakes03 _).mono ?_
    rintro e w1 ⟨rfl, hx1⟩
    have c16 := hx1.cellv (cell_new w #[.int .i64 (N 0), .int .i64 (N 1), .int .i64 (N 2), .int .i64 (N 3), .int .i64 (N 4), .int .i64 (N 5), .int .i64 (N 6), .int .i64 (N 7), .int .i64 (N 8), .int .i64 (N 9), .int .i64 (N 10), .int .i64 (N 11), .int .i64 (N 12), .int .i64 (N 13), .int .i64 (N 14), .int .i64 (N 15), .slice a n c] 75 (0, 0) (j := 16) rfl)
    go_wp2_with fail
    go_ret
    exact ⟨rfl, (by repeat' (first | (with_reducible exact Ext.refl _) | (with_reducible assumption) | (with_reducible refine Ext.alloc ?_ _) | (with_reducible refine Ext.drewN ?_ _) | (with_reducible refine Ext.drew ?_) | (with_reducible refine Ext.trans ?_ (by assumption))))⟩
end Go.Proofs.Ytmkobmkaalfecaa
