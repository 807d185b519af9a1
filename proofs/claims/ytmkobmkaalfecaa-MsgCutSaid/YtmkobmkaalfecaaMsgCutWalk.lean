/-
  gradinelaw04.MsgCut answers true. No condition.
-/
import Derived.Test.YtmkobmkaalfecaaMsLaw
import Derived.Test.YtmkobmkaalfecaaMsWakes
import Derived.Test.YtmkobmkaalfecaaMsgArg
import Derived.Laws.CopyOwn
import Derived.Laws.OwnMore
import Derived.Deep.AppendLies
namespace Go.Proofs.Ytmkobmkaalfecaa
open Go.RowKit

set_option maxRecDepth 100000 in
set_option maxHeartbeats 8000000 in
theorem walk_MsgCut (v0 v1 v2 : Value) (w : World) (h0 : IsFlat Try.prog 62 w v0) (h1 : IsInt .u8 v1) (h2 : IsInt .u8 v2) :
    Calls Try.prog 16 #[v0, v1, v2] w fun e w' => e = .returned (.bool true) ∧ Ext w w' := by
  obtain ⟨K, N, g, u, t, rfl, hr, hbt⟩ := msg_of' h0
  obtain ⟨p, rfl, wp⟩ := h1
  obtain ⟨y, rfl, wy⟩ := h2
  obtain ⟨p0, p1⟩ := u8_bd wp
  obtain ⟨y0, y1⟩ := u8_bd wy
  have HT := Lib.hid hbt
  obtain ⟨n, hnn⟩ : ∃ n, n = t.length := ⟨_, rfl⟩
  have HN := Lib.hid hnn
  have HRR := Lib.hid hr
  obtain ⟨a, c, rfl, hnc, hcm, _⟩ := hr.parts
  have hmx : n ≤ maxLen := by omega
  have hn63 : (n : Int) ≤ 9223372036854775807 := by unfold maxLen at hcm; omega
  have HMX := Lib.hid hmx
  rw [← hnn] at HRR ⊢
  clear h0 hbt hcm hnc wp wy hr hmx hnn
  have HY := Lib.hid (And.intro y0 y1)
  clear y0 y1
  unfold msgV mrow
  by_cases h20 : n ≤ 300
  · have h20' : (n : Int) ≤ 300 := by omega
    go_enter Try.func16, Try.ntmps16
    go_wp2_with fail
    have h1r : (w.alloc (.cells #[.int .i64 K, .int .i64 (N 1), .int .i64 (N 2), .int .i64 (N 3), .int .i64 (N 4), .int .i64 (N 5), .int .i64 (N 6), .int .i64 (N 7), .int .i64 (N 8), .bool g, .slice a n c] 62)).heap[w.heap.size]? = some (.cells (mrow K N g (.slice a n c)) 62 (0, 0)) := heap_alloc_new w _
    have hX0 : Ext w (w.alloc (.cells #[.int .i64 K, .int .i64 (N 1), .int .i64 (N 2), .int .i64 (N 3), .int .i64 (N 4), .int .i64 (N 5), .int .i64 (N 6), .int .i64 (N 7), .int .i64 (N 8), .bool g, .slice a n c] 62)) := (Ext.refl w).alloc _
    generalize (w.alloc (.cells #[.int .i64 K, .int .i64 (N 1), .int .i64 (N 2), .int .i64 (N 3), .int .i64 (N 4), .int .i64 (N 5), .int .i64 (N 6), .int .i64 (N 7), .int .i64 (N 8), .bool g, .slice a n c] 62)) = w0 at *
    obtain ⟨q1, hq1⟩ : ∃ p, p = w.heap.size := ⟨_, rfl⟩
    rw [← hq1] at h1r ⊢
    clear hq1
    refine (wakes04 _).mono ?_
    rintro e w1 ⟨rfl, hx1⟩
    have h1r := (Below.block hx1 _ (Array.getElem?_eq_some_iff.1 h1r).1).trans h1r
    have hX1 := hX0.trans hx1
    clear hx1 hX0
    have c16 : w1.cell? ⟨q1, 10, none⟩ = some (.slice a n c) := cell_of_row w1 q1 10 _ _ _ h1r
    go_wp2_with (refine wpList_load_row rfl 62 _ rfl q1 rfl 62 (mrow K N g (.slice a n c)) (0, 0) _ h1r Try.underlying62 rfl msg_info ?_)
    clear c16 h1r
    by_cases ok : MOk K N g n
    · have ok : MOk K N g t.length := by rw [← HN.out]; exact ok
      refine (mput_ok K N g _ t w1 (HRR.out.ext hX1) ok).mono ?_
      rintro e w2 ⟨v2, rfl, ho2, hx2⟩
      have LEN := mB_len ok
      obtain ⟨B, hB⟩ : ∃ B, B = mB K N g t := ⟨_, rfl⟩
      obtain ⟨m, hm⟩ : ∃ m, m = B.length := ⟨_, rfl⟩
      rw [← hB] at ho2 LEN
      have hbB : ∀ x ∈ B, 0 ≤ x ∧ x ≤ 255 := by rw [hB]; exact mB_bytes ok HT.out
      obtain ⟨g2, c2, rfl, hg2, hg2l⟩ := World.ownsRow.form ho2 (by omega)
      have hr2 : RdI .u8 w2 (.slice (some ⟨g2, 0, none⟩) B.length c2) B := ho2.rd
      have hmc : m ≤ c2 := by obtain ⟨_, _, e, h, _⟩ := hr2.parts; cases e; omega
      have hcx : (c2 : Int) ≤ 9223372036854775807 := by obtain ⟨_, _, e, _, h, _⟩ := hr2.parts; cases e; unfold maxLen at h; omega
      obtain ⟨f, hf⟩ : ∃ f : Nat, p % (m : Int) = f := ⟨(p % (m : Int)).toNat, (Int.toNat_of_nonneg (Int.emod_nonneg _ (by omega))).symm⟩
      have hfm : f < m := by have := Int.emod_lt_of_pos p (show (0 : Int) < m by omega); omega
      have hG1 : MGOut (B.take f) 1 := mgout_cut ok (B.take f) (B.drop f) (by rw [← hB, List.take_append_drop]) (by intro e; have := congrArg List.length e; simp at this; omega)
      have hG2 : MGOut (B ++ [y]) 2 := by rw [hB]; exact mgout_more ok y
      have hr3 := hr2.take f (by omega)
      have hlt : (B.take f).length = f := by rw [List.length_take]; omega
      have hX2 := hX1.trans hx2
      rw [← hm]
      have hmb : ((m : Int) == 0) = false := by rw [beq_eq_false_iff_ne]; omega
      have hfc : (f : Int) ≤ (c2 : Int) := by omega
      have hf0 : (0 : Int) ≤ (f : Int) := by omega
      have HR2 := Lib.hid hr2
      have HR3 := Lib.hid hr3
      have HG1 := Lib.hid hG1
      have HG2 := Lib.hid hG2
      have HBB := Lib.hid hbB
      have HM := Lib.hid hm
      have HLEN := Lib.hid LEN
      have HLT := Lib.hid hlt
      have hm63 : (m : Int) ≤ 9223372036854775807 := by omega
      clear ok hB hr2 hr3 hG1 hG2 hbB LEN hlt ho2 hg2 hx2 hX1 hm hmc
      go_wp2_with fail
      refine (mget _ (B.take f) _ HR3.out (fun x hx => HBB.out x (List.mem_of_mem_take hx)) (by have := HLT.out; have := HLEN.out; have := HM.out; omega) 1 HG1.out).mono ?_
      rintro e w3 ⟨K3, N3, g3, a3, l3, c3, rfl, _, hx3⟩
      have hX3 := hX2.trans hx3
      obtain ⟨k3, hk3⟩ : ∃ k, k = mrow K3 N3 g3 (.slice a3 l3 c3) := ⟨_, rfl⟩
      have e3 : msgV K3 N3 g3 (.slice a3 l3 c3) = .agg k3 := by rw [hk3]; rfl
      have hi3 : (Try.prog.info? 62).map (·.size) = some k3.size := by rw [hk3]; exact msg_info
      have ho3 : k3.all (·.oneCell') = true := by rw [hk3]; exact mrow_one _ _ _ _ _ _
      have hz3 : (#[.int .i64 0, .int .i64 0, .int .i64 0, .int .i64 0, .int .i64 0, .int .i64 0, .int .i64 0, .int .i64 0, .int .i64 0, .bool false, .slice none 0 0] : Array Value).size = k3.size := by rw [hk3]; rfl
      rw [e3]
      clear e3 hk3
      have h9r : (w3.alloc (.cells #[.int .i64 0, .int .i64 0, .int .i64 0, .int .i64 0, .int .i64 0, .int .i64 0, .int .i64 0, .int .i64 0, .int .i64 0, .bool false, .slice none 0 0] 62)).heap[w3.heap.size]? = some (.cells #[.int .i64 0, .int .i64 0, .int .i64 0, .int .i64 0, .int .i64 0, .int .i64 0, .int .i64 0, .int .i64 0, .int .i64 0, .bool false, .slice none 0 0] 62 (0, 0)) := heap_alloc_new w3 _
      go_upto_region 9 with (refine wpList_store_row rfl 62 _ _ rfl w3.heap.size k3 rfl rfl 62 _ h9r hi3 hz3 ho3 ?_)
      have hx4 : Ext w3 ((w3.alloc (.cells #[.int .i64 0, .int .i64 0, .int .i64 0, .int .i64 0, .int .i64 0, .int .i64 0, .int .i64 0, .int .i64 0, .int .i64 0, .bool false, .slice none 0 0] 62)).setRow w3.heap.size k3) := below_setRow ((Ext.refl w3).alloc _) (Nat.le_refl _) _
      generalize ((w3.alloc (.cells #[.int .i64 0, .int .i64 0, .int .i64 0, .int .i64 0, .int .i64 0, .int .i64 0, .int .i64 0, .int .i64 0, .int .i64 0, .bool false, .slice none 0 0] 62)).setRow w3.heap.size k3) = w4 at *
      have hX4 := hX3.trans hx4
      have hr4 := HR2.out.ext (hx3.trans hx4)
      rw [← HM.out] at hr4
      have HR4 := Lib.hid hr4
      clear h9r hi3 hz3 ho3 hx3 hx4 hX3 hX2 hr4
      go_wp2_with (at_builtin; refine wpList_append_ints rfl _ _ 24 rfl 5 .u8 0 1 Try.underlying24 bytes_info (by decide) w4 (by repeat' (first | (with_reducible exact Ext.refl _) | (with_reducible assumption) | (with_reducible refine Ext.alloc ?_ _) | (with_reducible refine Ext.drewN ?_ _) | (with_reducible refine Ext.drew ?_) | (with_reducible refine Ext.trans ?_ (by assumption)))) _ _ rfl (OwnI.empty _ _ _ (Nat.le_refl _)) _ _ rfl (HR4.out.ext ((Ext.refl w4).alloc _)) (by have := HLEN.out; unfold Fits; simp; omega) ?_)
      intro v6 w6 ho6 hx6
      go_wp2_with (at_builtin; refine wpList_append_ints rfl _ _ 24 rfl 5 .u8 0 1 Try.underlying24 bytes_info (by decide) w4 (by repeat' (first | (with_reducible exact Ext.refl _) | (with_reducible assumption) | (with_reducible refine Ext.alloc ?_ _) | (with_reducible refine Ext.drewN ?_ _) | (with_reducible refine Ext.drew ?_) | (with_reducible refine Ext.trans ?_ (by assumption)))) _ _ rfl (ho6.ext (by repeat' (first | (with_reducible exact Ext.refl _) | (with_reducible assumption) | (with_reducible refine Ext.alloc ?_ _) | (with_reducible refine Ext.drewN ?_ _) | (with_reducible refine Ext.drew ?_) | (with_reducible refine Ext.trans ?_ (by assumption))))) _ _ rfl (RdI.one _ _ _ _) (by have := HLEN.out; unfold Fits; simp; omega) ?_)
      intro v7 w7 ho7 hx7
      have HBY : Hid (∀ x ∈ B ++ [y], 0 ≤ x ∧ x ≤ 255) := Lib.hid (fun x hx => by
        rcases List.mem_append.1 hx with h | h
        · exact HBB.out x h
        · simp at h; subst h; exact HY.out)
      have HO7 := Lib.hid ho7.rd
      clear ho6 hx6 ho7
      go_wp2_with fail
      refine (mget _ (B ++ [y]) _ HO7.out HBY.out (by have := HLEN.out; simp; omega) 2 HG2.out).mono ?_
      rintro e w8 ⟨K8, N8, g8, a8, l8, c8, rfl, _, hx8⟩
      have hX8 := (hX4.trans hx7).trans hx8
      obtain ⟨k8, hk8⟩ : ∃ k, k = mrow K8 N8 g8 (.slice a8 l8 c8) := ⟨_, rfl⟩
      have e8 : msgV K8 N8 g8 (.slice a8 l8 c8) = .agg k8 := by rw [hk8]; rfl
      have hi8 : (Try.prog.info? 62).map (·.size) = some k8.size := by rw [hk8]; exact msg_info
      have ho8 : k8.all (·.oneCell') = true := by rw [hk8]; exact mrow_one _ _ _ _ _ _
      have hz8 : (#[.int .i64 0, .int .i64 0, .int .i64 0, .int .i64 0, .int .i64 0, .int .i64 0, .int .i64 0, .int .i64 0, .int .i64 0, .bool false, .slice none 0 0] : Array Value).size = k8.size := by rw [hk8]; rfl
      rw [e8]
      clear e8 hk8 hx7 hx8
      have h9r : (w8.alloc (.cells #[.int .i64 0, .int .i64 0, .int .i64 0, .int .i64 0, .int .i64 0, .int .i64 0, .int .i64 0, .int .i64 0, .int .i64 0, .bool false, .slice none 0 0] 62)).heap[w8.heap.size]? = some (.cells #[.int .i64 0, .int .i64 0, .int .i64 0, .int .i64 0, .int .i64 0, .int .i64 0, .int .i64 0, .int .i64 0, .int .i64 0, .bool false, .slice none 0 0] 62 (0, 0)) := heap_alloc_new w8 _
      go_upto_region 10 with (refine wpList_store_row rfl 62 _ _ rfl w8.heap.size k8 rfl rfl 62 _ h9r hi8 hz8 ho8 ?_)
      have hx9 : Ext w8 ((w8.alloc (.cells #[.int .i64 0, .int .i64 0, .int .i64 0, .int .i64 0, .int .i64 0, .int .i64 0, .int .i64 0, .int .i64 0, .int .i64 0, .bool false, .slice none 0 0] 62)).setRow w8.heap.size k8) := below_setRow ((Ext.refl w8).alloc _) (Nat.le_refl _) _
      generalize ((w8.alloc (.cells #[.int .i64 0, .int .i64 0, .int .i64 0, .int .i64 0, .int .i64 0, .int .i64 0, .int .i64 0, .int .i64 0, .int .i64 0, .bool false, .slice none 0 0] 62)).setRow w8.heap.size k8) = w9 at *
      go_wp2_with fail
      go_ret
      exact ⟨rfl, hX8.trans hx9⟩
    · refine (mput_bad K N g a n c w1 HMX.out ok).mono ?_
      rintro e w2 ⟨rfl, hx2⟩
      go_wp2_with fail
      go_ret
      exact ⟨rfl, hX1.trans hx2⟩
  · have h20' : ¬ (n : Int) ≤ 300 := by omega
    go_enter Try.func16, Try.ntmps16
    go_wp2_with fail
    refine (wakes04 _).mono ?_
    rintro e w1 ⟨rfl, hx1⟩
    have c16 := hx1.cellv (cell_new w #[.int .i64 K, .int .i64 (N 1), .int .i64 (N 2), .int .i64 (N 3), .int .i64 (N 4), .int .i64 (N 5), .int .i64 (N 6), .int .i64 (N 7), .int .i64 (N 8), .bool g, .slice a n c] 62 (0, 0) (j := 10) rfl)
    go_wp2_with fail
    go_ret
    exact ⟨rfl, (by repeat' (first | (with_reducible exact Ext.refl _) | (with_reducible assumption) | (with_reducible refine Ext.alloc ?_ _) | (with_reducible refine Ext.drewN ?_ _) | (with_reducible refine Ext.drew ?_) | (with_reducible refine Ext.trans ?_ (by assumption))))⟩
end Go.Proofs.Ytmkobmkaalfecaa
