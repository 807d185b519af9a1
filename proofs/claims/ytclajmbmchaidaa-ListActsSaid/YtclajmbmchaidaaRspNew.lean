/-
  gradineref10.New: a space of empty lists. No condition.
-/
import Derived.Test.YtclajmbmchaidaaRspDo
namespace Go.Proofs.Ytclajmbmchaidaa
open Go.RowKit

theorem irow_info : (Try.prog.info? 31).map (fun i => (i.zero, i.size, i.bytes)) = some (some (.slice none 0 0), 1, 24) := by kernel_rfl
theorem zrsp_run (w : World) : (zeroValue 47).run Try.prog w = .ok (.agg #[.slice none 0 0]) w := by kernel_rfl

theorem rsp_of {w : World} {p n : Nat} {v : Value} {e t : TypeId} (n1 : 1 ≤ n) (n40 : n ≤ 40) (hp : w.heap[p]? = some (.cells #[v] t (0, 0))) (ho : w.ownsRow (p + 1) e 1 v n (List.replicate n (.slice none 0 0))) :
    ∃ bl, p < bl ∧ bl < w.heap.size ∧ ∀ B, p < B → bl < B → RspAt w B p bl (List.replicate n []) := by
  obtain ⟨hl, h2⟩ := ho
  rcases h2 with ⟨rfl, rfl⟩ | ⟨g, cap, cur, rfl, hb', hg, hn, hm, hs, ht⟩
  · omega
  · have hnil : ∀ i, i < n → cur[i]? = some (.slice none 0 0) := by
      intro i hi
      have : (List.replicate n (Value.slice none 0 0))[i]? = some (.slice none 0 0) := by simp [hi]
      rw [← ht, List.getElem?_take, if_pos (by omega)] at this
      simpa using this
    refine ⟨g, by omega, (Array.getElem?_eq_some_iff.1 hg).1, fun B h1 h2 => ⟨by simpa using n1, by simpa using n40, h1, h2, by omega, ⟨cap, t, by simpa using hp, by simpa using hn, hm⟩, ⟨cur, e, hg, fun i hi => ?_, ?_⟩⟩⟩
    · have hi' : i < n := by simpa using hi
      refine ⟨.slice none 0 0, hnil i hi', ?_⟩
      have : (List.replicate n ([] : List Nat)).getD i [] = [] := by simp [List.getD, hi']
      rw [this]; exact OwnI.nil _ _ _ _
    · intro i j v v' q hi hj hv hv' hq hq'
      have hi' : i < n := by simpa using hi
      rw [hnil i hi'] at hv
      cases hv
      cases hq

set_option maxRecDepth 100000 in
set_option maxHeartbeats 1000000 in
theorem refnew10_any (many : Int) (w : World) :
    Calls Try.prog 25 #[.int .i64 many] w fun e w' => ∃ p bl, e = .returned (.pointer (some ⟨p, 0, none⟩)) ∧ (∀ B, p < B → bl < B → RspAt w' B p bl (List.replicate (newN many) [])) ∧ w.heap.size ≤ p ∧ w.heap.size ≤ bl ∧ p < w'.heap.size ∧ bl < w'.heap.size ∧ Ext w w' := by
  obtain ⟨i0, hi, hz0, hz1, hz2⟩ := info_parts irow_info
  obtain ⟨n, hn⟩ : ∃ n, n = newN many := ⟨_, rfl⟩
  have HN := Lib.hid hn
  have n1 : 1 ≤ n := by rw [hn]; unfold newN; omega
  have n40 : n ≤ 40 := by rw [hn]; unfold newN; omega
  have hnm : ∀ k : Nat, 1 ≤ k → k < n → (k : Int) < many := by rw [hn]; unfold newN; omega
  have hnn : n < 40 → ¬ ((n : Int) < many) := by rw [hn]; unfold newN; omega
  have HNM := Lib.hid hnm
  have HNN := Lib.hid hnn
  clear hn hnm hnn
  have hzr := zrsp_run
  go_enter Try.func25, Try.ntmps25
  obtain ⟨p, hp⟩ : ∃ p, p = w.heap.size := ⟨_, rfl⟩
  have HP := Lib.hid hp
  have hp0 : (w.alloc (.cells #[.slice none 0 0] 47 (0, 0))).heap[p]? = some (.cells #[.slice none 0 0] 47 (0, 0)) := by rw [hp]; exact heap_alloc_new w _
  have hx0 : Ext w (w.alloc (.cells #[.slice none 0 0] 47 (0, 0))) := (Ext.refl w).alloc _
  go_upto_region 2 with fail
  generalize (w.alloc (.cells #[.slice none 0 0] 47 (0, 0))) = w0 at *
  rw [← hp]
  clear hp hzr
  have c0 := cell_of_row w0 p 0 _ _ _ hp0
  have frp := frozen_row hp0 0
  simp only [List.getElem?_toArray, List.getElem?_cons_zero] at c0
  have hpz : p + 1 ≤ w0.heap.size := cell_lt c0
  go_wp2_with (at_builtin; refine wpList_append_rd rfl _ _ 45 rfl (p + 1) 31 i0 (.slice none 0 0) 1 24 Try.underlying45 hi hz0 hz1 hz2 rfl (by decide) (.slice none 0 0) 0 [] rfl (World.ownsRow_nil _ _ _ _) _ 1 [.slice none 0 0] rfl (Rd.one w0 _ _) (by simp [Value.oneCell']) (by unfold maxLen; omega) (by omega) (by simp; omega) ?_)
  intro v1 w1 ho1 hg1
  have hr1 : w1.heap[p]? = some (.cells #[.slice none 0 0] 47 (0, 0)) :=
    (hg1.block p (by simp; omega) (by simp [Value.ownBlock])).trans ((Below.heap_alloc _ _ _ (by omega)).trans hp0)
  have hrow1 := heap_setCell_same w1 p 0 _ _ v1 hr1
  have hown1 := own_chg ho1 (chg_one w1 p 0 v1) (by simp)
  have hxw1 : Ext w w1 := (hx0.alloc _).grown hg1 (Ext.size (hx0.alloc _)) (fun g hg => by cases hg)
  have hxs1 : Ext w (w1.setCell ⟨p, 0, none⟩ v1) := Ext.chg (S := [p]) hxw1 (chg_one _ _ _ _) (by have := HP.out; simp; omega)
  have c1 := cell_of_row w1 p 0 _ _ _ hr1
  have frp1 := frozen_row hr1 0
  simp only [List.getElem?_toArray, List.getElem?_cons_zero] at c1
  rcases ho1.2 with ⟨_, h⟩ | ⟨g, cap, cur, hv1, _⟩
  · omega
  · clear ho1 hg1 hr1 hxw1 c0 frp hpz hp0 hx0
    obtain ⟨n1', hn1'⟩ : ∃ n', v1 = .slice (some ⟨g, 0, none⟩) n' cap := ⟨_, hv1⟩
    clear hv1
    subst hn1'
    go_wp2_with fail
    go_loopw [4] (fun ci wr => ∃ (k : Nat) (v : Value), 1 ≤ k ∧ k ≤ n ∧ ci = .int .i64 k ∧ wr.heap[p]? = some (.cells #[v] 47 (0, 0)) ∧ wr.ownsRow (p + 1) 31 1 v k (List.replicate k (.slice none 0 0)) ∧ Ext w wr) (fun ci _ => n - (intOf ci).toNat)
    case atStart => exact ⟨1, _, Nat.le_refl _, n1, rfl, by simpa using hrow1, by simpa using hown1, hxs1⟩
    case round =>
      obtain ⟨k, v, hk1, hk, rfl, hpr, ho, hx⟩ := hrel
      clear hrow1 hown1 hxs1 c1 frp1
      have c0 := cell_of_row wr p 0 _ _ _ hpr
      have frp := frozen_row hpr 0
      simp only [List.getElem?_toArray, List.getElem?_cons_zero] at c0
      have HPR := Lib.hid hpr
      have HO := Lib.hid ho
      clear hpr
      by_cases hlt : k < n
      · have hkm := HNM.out k hk1 hlt
        have hk40 : (k : Int) < 40 := by omega
        have hpz : p + 1 ≤ wr.heap.size := cell_lt c0
        clear ho
        go_wp2_with (at_builtin; refine wpList_append_rd rfl _ _ 45 rfl (p + 1) 31 i0 (.slice none 0 0) 1 24 Try.underlying45 hi hz0 hz1 hz2 rfl (by decide) v k _ rfl (own_ext HO.out ((Ext.refl wr).alloc _)) _ 1 [.slice none 0 0] rfl (Rd.one wr _ _) (by simp [Value.oneCell']) (by unfold maxLen; omega) (by omega) (by simp; omega) ?_)
        intro v' w' ho' hg'
        have hne : some p ≠ v.ownBlock := by
          intro he
          have := (HO.out.lt p he.symm).1
          omega
        have hpr' : w'.heap[p]? = some (.cells #[v] 47 (0, 0)) :=
          (hg'.block p (by simp; omega) hne).trans ((Below.heap_alloc _ _ _ (by omega)).trans HPR.out)
        have hrow' := heap_setCell_same w' p 0 _ _ v' hpr'
        have hown' := own_chg ho' (chg_one w' p 0 v') (by simp)
        have hxw : Ext w w' := (hx.alloc _).grown hg' (Ext.size (hx.alloc _)) (fun g hg => by have := (HO.out.lt g hg).1; have := HP.out; omega)
        have hxs : Ext w (w'.setCell ⟨p, 0, none⟩ v') := Ext.chg (S := [p]) hxw (chg_one _ _ _ _) (by have := HP.out; simp; omega)
        have c0' := cell_of_row w' p 0 _ _ _ hpr'
        have frp' := frozen_row hpr' 0
        simp only [List.getElem?_toArray, List.getElem?_cons_zero] at c0'
        have HROW := Lib.hid hrow'
        have HOWN := Lib.hid hown'
        rcases ho'.2 with ⟨_, h⟩ | ⟨g, cap, cur, hv', _⟩
        · omega
        · clear ho' hg' hpr' hrow' hown' hne HO HPR c0 frp
          obtain ⟨n', hn'⟩ : ∃ n', v' = .slice (some ⟨g, 0, none⟩) n' cap := ⟨_, hv'⟩
          clear hv'
          subst hn'
          go_wp2_with fail
          go_roundw
          case rel =>
            refine ⟨k + 1, _, by omega, by omega, by go_num, by simpa using HROW.out, ?_, hxs⟩
            rw [List.replicate_succ']
            exact HOWN.out
          case measure => simp [intOf]; omega
      · obtain rfl : k = n := by omega
        have hpz : p < wr.heap.size := cell_lt c0
        obtain ⟨bl, hb1, hb2, hd⟩ := rsp_of n1 n40 HPR.out HO.out
        have HD := Lib.hid hd
        clear hd ho
        by_cases h40 : k < 40
        · have hnn := HNN.out h40
          go_wp2_with fail
          go_ret
          refine ⟨p, rfl, bl, ?_, by rw [HP.out]; exact Nat.le_refl _, by have := HP.out; omega, hpz, hb2, hx⟩
          rw [← HN.out]
          exact HD.out
        · have hnn : ¬ (k : Int) < 40 := by omega
          go_wp2_with fail
          all_goals
            go_ret
            refine ⟨p, rfl, bl, ?_, by rw [HP.out]; exact Nat.le_refl _, by have := HP.out; omega, hpz, hb2, hx⟩
            rw [← HN.out]
            exact HD.out
end Go.Proofs.Ytclajmbmchaidaa
