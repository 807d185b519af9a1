/-
  gradineref12.New of a right shape. No condition.
-/
import Derived.Test.YtibcfmnkpemieaaRmq3
import Derived.StillTailTactics
namespace Go.Proofs.Ytibcfmnkpemieaa
open Go.RowKit

theorem irow_info : (Try.prog.info? 23).map (fun i => (i.zero, i.size, i.bytes)) = some (some (.slice none 0 0), 1, 24) := by kernel_rfl
theorem rqmq_run (w : World) : (zeroValue 103).run Try.prog w = .ok (.agg #[.int .i64 0, .int .i64 0, .int .i64 0, .slice none 0 0, .slice none 0 0, .slice none 0 0, .slice none 0 0, .int .i64 0]) w := by kernel_rfl
theorem made64 : (madeCells (Value.int .i64 0).cells (64 * 1)).toList = List.replicate 64 (Value.int .i64 0) := by kernel_rfl
theorem own64 {w : World} {base g : Nat} {e : TypeId} (h : w.ownsRow base e 1 (.slice (some ⟨g, 0, none⟩) 64 64) 64 (madeCells (Value.int .i64 0).cells (64 * 1)).toList) :
    base ≤ g ∧ ∃ cs t, w.heap[g]? = some (.cells cs t (0, 0)) ∧ ∀ b, b < 64 → cs[b]? = some (.int .i64 ((0 : Nat) : Int)) := by
  obtain ⟨_, h2⟩ := h
  rcases h2 with ⟨h, _⟩ | ⟨g', cap, cur, hv, hb', hg, _, _, _, ht⟩
  · cases h
  · cases hv
    refine ⟨hb', cur, e, hg, fun b hb => ?_⟩
    rw [made64] at ht
    have : (List.replicate 64 (Value.int .i64 0))[b]? = some (.int .i64 0) := by rw [List.getElem?_replicate, if_pos hb]
    rw [← ht, List.getElem?_take, if_pos (by omega)] at this
    simpa using this

set_option maxRecDepth 100000 in
set_option maxHeartbeats 4000000 in
theorem rqnew (p : Shp) (ok : ShpOk p) (w : World) : Calls Try.prog 43 #[.int .i64 p.cap, .int .i64 p.qs, .int .i64 p.life, .int .i64 p.gh] w fun e w' =>
    ∃ pr bq bo be, e = .returned (.pointer (some ⟨pr, 0, none⟩)) ∧ RmqAt w' (fun g => w.heap.size ≤ g) pr bq bo be p (newQ p) ∧ w.heap.size ≤ pr ∧ w.heap.size ≤ bq ∧ w.heap.size ≤ bo ∧ w.heap.size ≤ be ∧ Ext w w' := by
  obtain ⟨i0, hi, hz0, hz1, hz2⟩ := info_parts irow_info
  obtain ⟨j0, hj, hy0, hy1, hy2⟩ := info_parts ints_info
  have hq1 := ok.q1
  have hq8 := ok.q2
  have hzr := rqmq_run
  obtain ⟨n, hn⟩ : ∃ n, n = p.qs := ⟨_, rfl⟩
  rw [← hn] at hq1 hq8 ⊢
  have HN := Lib.hid hn
  clear hn
  go_enter Try.func43, Try.ntmps43
  obtain ⟨pr, hp⟩ : ∃ pr, pr = w.heap.size := ⟨_, rfl⟩
  have HP := Lib.hid hp
  have hp0 : (w.alloc (.cells #[.int .i64 p.cap, .int .i64 p.life, .int .i64 p.gh, .slice none 0 0, .slice none 0 0, .slice none 0 0, .slice none 0 0, .int .i64 0] 103 (0, 0))).heap[pr]? = some (.cells #[.int .i64 p.cap, .int .i64 p.life, .int .i64 p.gh, .slice none 0 0, .slice none 0 0, .slice none 0 0, .slice none 0 0, .int .i64 0] 103 (0, 0)) := by rw [hp]; exact heap_alloc_new w _
  have hx0 : Ext w (w.alloc (.cells #[.int .i64 p.cap, .int .i64 p.life, .int .i64 p.gh, .slice none 0 0, .slice none 0 0, .slice none 0 0, .slice none 0 0, .int .i64 0] 103 (0, 0))) := (Ext.refl w).alloc _
  go_wp2_with fail
  generalize (w.alloc (.cells #[.int .i64 p.cap, .int .i64 p.life, .int .i64 p.gh, .slice none 0 0, .slice none 0 0, .slice none 0 0, .slice none 0 0, .int .i64 0] 103 (0, 0))) = w0 at *
  rw [← hp]
  clear hp hzr
  have hpz0 : pr + 1 ≤ w0.heap.size := (Array.getElem?_eq_some_iff.1 hp0).1
  go_loopw [10] (fun ci wr => ∃ (k : Nat) (v : Value), k ≤ n ∧ ci = .int .i64 k ∧ Hid (wr.heap[pr]? = some (.cells #[.int .i64 p.cap, .int .i64 p.life, .int .i64 p.gh, v, .slice none 0 0, .slice none 0 0, .slice none 0 0, .int .i64 0] 103 (0, 0))) ∧ Hid (wr.ownsRow (pr + 1) 23 1 v k (List.replicate k (.slice none 0 0))) ∧ Ext w wr) (fun ci _ => n - (intOf ci).toNat)
  case atStart => exact ⟨0, .slice none 0 0, Nat.zero_le _, rfl, Lib.hid hp0, Lib.hid (World.ownsRow_nil _ _ _ _), hx0⟩
  case round =>
    clear hp0 hx0 hpz0
    obtain ⟨k, v, hk, rfl, HPR, HO, hx⟩ := hrel
    have c3 := cell_of_row wr pr 3 _ _ _ HPR.out
    have frp := frozen_row HPR.out 3
    simp only [List.getElem?_toArray, List.getElem?_cons_zero, List.getElem?_cons_succ] at c3
    have hpz : pr + 1 ≤ wr.heap.size := cell_lt c3
    by_cases hlt : k < n
    · have hki : (k : Int) < (n : Int) := by omega
      go_wp2_with (at_builtin; refine wpList_append_rd rfl _ _ 101 rfl (pr + 1) 23 i0 (.slice none 0 0) 1 24 Try.underlying101 hi hz0 hz1 hz2 rfl (by decide) v k _ rfl (own_ext HO.out ((Ext.refl wr).alloc _)) _ 1 [.slice none 0 0] rfl (Rd.one wr _ _) (by simp [Value.oneCell']) (by unfold maxLen; omega) (by omega) (by simp; omega) ?_)
      intro v' w' ho' hg'
      have hne : some pr ≠ v.ownBlock := by
        intro he
        have := (HO.out.lt pr he.symm).1
        omega
      have hpr' : w'.heap[pr]? = some (.cells #[.int .i64 p.cap, .int .i64 p.life, .int .i64 p.gh, v, .slice none 0 0, .slice none 0 0, .slice none 0 0, .int .i64 0] 103 (0, 0)) :=
        (hg'.block pr (by simp; omega) hne).trans ((Below.heap_alloc _ _ _ (by omega)).trans HPR.out)
      have hrow' := heap_setCell_same w' pr 3 _ _ v' hpr'
      have hown' := own_chg ho' (chg_one w' pr 3 v') (by simp)
      have hxw : Ext w w' := (hx.alloc _).grown hg' (Ext.size (hx.alloc _)) (fun g hg => by have := (HO.out.lt g hg).1; have := HP.out; omega)
      have hxs : Ext w (w'.setCell ⟨pr, 3, none⟩ v') := Ext.chg (S := [pr]) hxw (chg_one _ _ _ _) (by have := HP.out; simp; omega)
      have c3' := cell_of_row w' pr 3 _ _ _ hpr'
      have frp' := frozen_row hpr' 3
      simp only [List.getElem?_toArray, List.getElem?_cons_zero, List.getElem?_cons_succ] at c3'
      have HROW := Lib.hid hrow'
      have HOWN := Lib.hid hown'
      rcases ho'.2 with ⟨_, h⟩ | ⟨g, cap, cur, hv', _⟩
      · omega
      · clear ho' hg' hpr' hrow' hown' hne HO HPR c3 frp
        obtain ⟨n', hn'⟩ : ∃ n', v' = .slice (some ⟨g, 0, none⟩) n' cap := ⟨_, hv'⟩
        clear hv'
        subst hn'
        go_wp2_with fail
        go_roundw
        case rel =>
          refine ⟨k + 1, _, by omega, by go_num, Lib.hid (by simpa using HROW.out), Lib.hid ?_, hxs⟩
          rw [List.replicate_succ']
          exact HOWN.out
        case measure => simp [intOf]; omega
    · obtain rfl : k = n := by omega
      have hki : ¬ (k : Int) < (k : Int) := by omega
      obtain ⟨hl, h2⟩ := HO.out
      rcases h2 with ⟨_, h⟩ | ⟨bq, cap, cur, hv, hb', hgq, hnc, hcm, hcs, hct⟩
      · omega
      · subst hv
        have hnil : ∀ i, i < k → cur[i]? = some (.slice none 0 0) := by
          intro i hi
          have : (List.replicate k (Value.slice none 0 0))[i]? = some (.slice none 0 0) := by simp [hi]
          rw [← hct, List.getElem?_take, if_pos (by omega)] at this
          simpa using this
        have HNIL := Lib.hid hnil
        have HGQ := Lib.hid hgq
        have hlq : bq < wr.heap.size := (Array.getElem?_eq_some_iff.1 hgq).1
        have c5 := cell_of_row wr pr 5 _ _ _ HPR.out
        have f5 := frozen_row HPR.out 5
        have c6 := cell_of_row wr pr 6 _ _ _ HPR.out
        have f6 := frozen_row HPR.out 6
        simp only [List.getElem?_toArray, List.getElem?_cons_zero, List.getElem?_cons_succ] at c5 c6
        clear hct hgq hnil hl frp c3
        go_wp2_with (at_make; refine wpList_make_full _ rfl _ _ 23 rfl wr.heap.size 3 j0 (.int .i64 0) 1 Try.underlying23 hj hy0 hy1 .i64 .i64 _ _ 64 rfl rfl rfl rfl (by rw [hy2]; omega) (by unfold maxLen; omega) (Nat.le_refl _) ?_)
        intro w1 ho1 hg1
        have hx1 : Ext wr w1 := (Ext.refl _).grown hg1 (Nat.le_refl _) (fun k hk => by cases hk)
        have c5 := hx1.cellv c5
        have f5 : w1.frozen? ⟨pr, 5, none⟩ = false := frozen_row ((Below.block hx1 _ (by omega)).trans HPR.out) 5
        have hp1 := (Below.block hx1 _ (show pr < wr.heap.size by omega)).trans HPR.out
        have hq1' := (Below.block hx1 _ hlq).trans HGQ.out
        obtain ⟨hbo, co, tto, hgo, hzo⟩ := own64 ho1
        have hlo : wr.heap.size < w1.heap.size := (Array.getElem?_eq_some_iff.1 hgo).1
        obtain ⟨bo, hbo'⟩ : ∃ bo, bo = wr.heap.size := ⟨_, rfl⟩
        rw [← hbo'] at hgo hlo ⊢
        have HZO := Lib.hid hzo
        have n12 : pr ≠ bq := by omega
        have n13 : pr ≠ bo := by omega
        have n23 : bq ≠ bo := by omega
        have hX1 := hx.trans hx1
        have hlp1 : pr < w1.heap.size := by omega
        have hlq1 : bq < w1.heap.size := Nat.lt_of_lt_of_le hlq hx1.size
        have hwo : w.heap.size ≤ bo := by rw [hbo']; exact hx.size
        have HP1 := Lib.hid hp1
        have HQ1 := Lib.hid hq1'
        have HGO := Lib.hid hgo
        clear ho1 hg1 c6 f6 hzo hx hx1 hp1 hq1' hgo HPR HGQ hbo hbo' HO hlq
        go_upto_region 7 with fail
        have hp2 := heap_set (o := 5) HP1.out (.slice (some ⟨bo, 0, none⟩) 64 64)
        have hq2 := (Below.heap_setCell w1 ⟨pr, 5, none⟩ (.slice (some ⟨bo, 0, none⟩) 64 64) bq (Ne.symm n12)).trans HQ1.out
        have ho2 := (Below.heap_setCell w1 ⟨pr, 5, none⟩ (.slice (some ⟨bo, 0, none⟩) 64 64) bo (Ne.symm n13)).trans HGO.out
        have hX2 : Ext w (w1.setCell ⟨pr, 5, none⟩ (.slice (some ⟨bo, 0, none⟩) 64 64)) := Ext.chg (S := [pr]) hX1 (chg_one _ _ _ _) (by have := HP.out; simp; omega)
        have hs2 : (w1.setCell ⟨pr, 5, none⟩ (.slice (some ⟨bo, 0, none⟩) 64 64)).heap.size = w1.heap.size := by simp [World.setCell]
        generalize (w1.setCell ⟨pr, 5, none⟩ (.slice (some ⟨bo, 0, none⟩) 64 64)) = w2 at *
        have HS2 := Lib.hid hs2
        clear hs2 HP1 HQ1 HGO c5 f5 hX1
        go_wp2_with (at_make; refine wpList_make_full _ rfl _ _ 23 rfl w2.heap.size 3 j0 (.int .i64 0) 1 Try.underlying23 hj hy0 hy1 .i64 .i64 _ _ 64 rfl rfl rfl rfl (by rw [hy2]; omega) (by unfold maxLen; omega) (Nat.le_refl _) ?_)
        intro w3 ho3 hg3
        have hx3 : Ext w2 w3 := (Ext.refl _).grown hg3 (Nat.le_refl _) (fun k hk => by cases hk)
        obtain ⟨_, ce, te, hge, hze⟩ := own64 ho3
        have hp3 := (Below.block hx3 _ (Array.getElem?_eq_some_iff.1 hp2).1).trans hp2
        have hq3 := (Below.block hx3 _ (Array.getElem?_eq_some_iff.1 hq2).1).trans hq2
        have ho3' := (Below.block hx3 _ (Array.getElem?_eq_some_iff.1 ho2).1).trans ho2
        obtain ⟨be, hbe⟩ : ∃ be, be = w2.heap.size := ⟨_, rfl⟩
        rw [← hbe] at hge ⊢
        have hsz := HS2.out
        have n14 : pr ≠ be := by omega
        have n24 : bq ≠ be := by omega
        have n34 : bo ≠ be := by omega
        have hwe : w.heap.size ≤ be := by rw [hbe]; exact hX2.size
        have hX3 := hX2.trans hx3
        have c6 : w3.cell? ⟨pr, 6, none⟩ = some (.slice none 0 0) := by
          rw [cell_of_row w3 pr 6 _ _ _ hp3]; rfl
        have f6 := frozen_row hp3 6
        have HZE := Lib.hid hze
        have HP3 := Lib.hid hp3
        have HQ3 := Lib.hid hq3
        have HO3 := Lib.hid ho3'
        have HE3 := Lib.hid hge
        have HBE := Lib.hid hbe
        clear ho3 hg3 hx3 hp2 hq2 ho2 hX2 hp3 hq3 ho3' hge hze hsz hbe HS2 hlo
        go_wp2_with fail
        have hp4 := heap_set (o := 6) HP3.out (.slice (some ⟨be, 0, none⟩) 64 64)
        have hq4 := (Below.heap_setCell w3 ⟨pr, 6, none⟩ (.slice (some ⟨be, 0, none⟩) 64 64) bq (Ne.symm n12)).trans HQ3.out
        have ho4 := (Below.heap_setCell w3 ⟨pr, 6, none⟩ (.slice (some ⟨be, 0, none⟩) 64 64) bo (Ne.symm n13)).trans HO3.out
        have he4 := (Below.heap_setCell w3 ⟨pr, 6, none⟩ (.slice (some ⟨be, 0, none⟩) 64 64) be (Ne.symm n14)).trans HE3.out
        have hX4 : Ext w (w3.setCell ⟨pr, 6, none⟩ (.slice (some ⟨be, 0, none⟩) 64 64)) := Ext.chg (S := [pr]) hX3 (chg_one _ _ _ _) (by have := HP.out; simp; omega)
        generalize (w3.setCell ⟨pr, 6, none⟩ (.slice (some ⟨be, 0, none⟩) 64 64)) = w4 at *
        go_ret
        have hpw := HP.out
        have hrep : ∀ i, (newQ p).Ls.getD i [] = [] := by
          intro i
          show (List.replicate (p.qs + 1) ([] : List Nat)).getD i [] = []
          rw [List.getD_eq_getElem?_getD, List.getElem?_replicate]
          split <;> rfl
        refine ⟨pr, bq, bo, be, rfl, ⟨⟨n12, n13, n14, n23, n24, n34⟩, ⟨by omega, by omega, hwo, hwe⟩, fun g hg => Nat.le_trans hX4.size hg, ⟨.slice none 0 0, cap, 103, ?_, by rw [← HN.out]; exact hnc, hcm, by rw [hrep]; exact RowOk.nil _ _ _⟩, ⟨cur, _, hq4, fun i hi => ⟨_, HNIL.out i (by rw [HN.out]; exact hi), by rw [hrep]; exact RowOk.nil _ _ _⟩⟩, ⟨co, _, ho4, HZO.out⟩, ⟨ce, _, he4, HZE.out⟩, by show (List.replicate (p.qs + 1) ([] : List Nat)).length = _; simp⟩, by omega, by omega, hwo, hwe, hX4⟩
        rw [← HN.out]
        exact hp4
end Go.Proofs.Ytibcfmnkpemieaa
