/-
  gradineref15.New. No condition but that the hints read.
-/
import Derived.Test.YtpmfadepinmmjaaRp2
namespace Go.Proofs.Ytpmfadepinmmjaa
open Go.RowKit

theorem rows_info : (Try.prog.info? 41).map (fun i => (i.zero, i.size, i.bytes)) = some (some (.slice none 0 0), 1, 24) := by kernel_rfl
set_option maxRecDepth 100000 in
set_option maxHeartbeats 2000000 in
theorem rnew15 (hv : Value) (n : Nat) (F : Nat → Nat → Int) (L : Nat → Bool) (c : Nat → Nat) (M : List Nat) (w : World) (h : RdH w hv n F L) (ok : FrOk n F) (hn8 : n ≤ 8) (hc : ∀ t, c t ≤ 16) (hM : Ord (kT n F) (kB n F) n M) (t : Nat) :
    Calls Try.prog 19 #[hv, .agg #[.int .i64 (c 0 : Nat), .int .i64 (c 1 : Nat), .int .i64 (c 2 : Nat)], .int .i64 (t : Nat)] w fun e w' => ∃ px gl gp, e = .returned (.pointer (some ⟨px, 0, none⟩)) ∧ px < w'.heap.size ∧ gl < w'.heap.size ∧ w.heap.size ≤ px ∧ w.heap.size ≤ gl ∧ w.heap.size ≤ gp ∧ (∀ G, gl ∈ G → (∀ f ∈ G, f = gl ∨ f < w.heap.size) → (0 < n → ∀ g, hv.ownBlock = some g → g ∉ G) → RcAt w' G px gl hv gp n t F L c M (List.replicate (n + 1) [])) ∧ Ext w w' := by
  have HP := Lib.hid (fun w' (hx : Ext w w') => rparts hv n F L c M w' (h.ext hx) ok hn8 hc hM)
  have HH := Lib.hid h
  obtain ⟨ha, hcp, rfl, _⟩ := h
  obtain ⟨i0, hi, hz0, hz1, hz2⟩ := info_parts rows_info
  have hni : (n : Int) ≤ 8 := by omega
  obtain ⟨z0, hz0'⟩ : ∃ z : Int, z = (c 0 : Nat) := ⟨_, rfl⟩
  obtain ⟨z1, hz1'⟩ : ∃ z : Int, z = (c 1 : Nat) := ⟨_, rfl⟩
  obtain ⟨z2, hz2'⟩ : ∃ z : Int, z = (c 2 : Nat) := ⟨_, rfl⟩
  rw [← hz0', ← hz1', ← hz2'] at HP
  rw [← hz0', ← hz1', ← hz2']
  obtain ⟨n4, hn4⟩ : ∃ y, y = n * 4 := ⟨_, rfl⟩
  have HN4 := Lib.hid hn4
  rw [← hn4] at HP
  clear hz0' hz1' hz2' ok hc hM hn4
  have hzr := zrc_run
  go_enter Try.func19, Try.ntmps19
  go_upto_region 1 with fail
  have y0 := cell_new w #[.int .i64 z0, .int .i64 z1, .int .i64 z2] 23 (0, 0) (j := 0) rfl
  have y1 := cell_new w #[.int .i64 z0, .int .i64 z1, .int .i64 z2] 23 (0, 0) (j := 1) rfl
  have y2 := cell_new w #[.int .i64 z0, .int .i64 z1, .int .i64 z2] 23 (0, 0) (j := 2) rfl
  have hxA : Ext w (w.alloc (.cells #[.int .i64 z0, .int .i64 z1, .int .i64 z2] 23)) := (Ext.refl w).alloc _
  have hszA : (w.alloc (.cells #[.int .i64 z0, .int .i64 z1, .int .i64 z2] 23)).heap.size = w.heap.size + 1 := by simp
  generalize (w.alloc (.cells #[.int .i64 z0, .int .i64 z1, .int .i64 z2] 23)) = w1 at *
  obtain ⟨q4, hq4⟩ : ∃ q, q = w.heap.size := ⟨_, rfl⟩
  rw [← hq4] at y0 y1 y2 hszA ⊢
  have HQ : Hid (q4 = w.heap.size ∧ w1.heap.size = q4 + 1) := Lib.hid ⟨hq4, hszA⟩
  clear hq4 hszA
  go_wp2_with fail
  refine (HP.out _ hxA).mono ?_
  rintro e w2 ⟨gp, rfl, hir, hgp, hx2⟩
  have HIR := Lib.hid hir
  have hx12 := hxA.trans hx2
  clear hir y0 y1 y2 hxA
  go_upto_region 2 with fail
  have hrow := heap_alloc_new w2 (.cells #[.slice ha n hcp, .slice (some ⟨gp, 0, none⟩) n4 n4, .int .i64 (t : Nat), .slice none 0 0] 81)
  have hxB : Ext w2 (w2.alloc (.cells #[.slice ha n hcp, .slice (some ⟨gp, 0, none⟩) n4 n4, .int .i64 (t : Nat), .slice none 0 0] 81)) := (Ext.refl w2).alloc _
  generalize (w2.alloc (.cells #[.slice ha n hcp, .slice (some ⟨gp, 0, none⟩) n4 n4, .int .i64 (t : Nat), .slice none 0 0] 81)) = w3 at *
  obtain ⟨px, hpx⟩ : ∃ p, p = w2.heap.size := ⟨_, rfl⟩
  rw [← hpx] at hrow ⊢
  have HPX : Hid (gp < px ∧ q4 < gp ∧ w.heap.size ≤ px) := Lib.hid (by have h1 := HIR.out.lt; have h2 := HQ.out; omega)
  have HIR3 := Lib.hid (HIR.out.ext hxB)
  have HROW := Lib.hid hrow
  have HX3 := Lib.hid (hx12.trans hxB)
  have HXB := Lib.hid hx12
  clear hpx hrow hxB hx12 hx2 hgp HIR hzr
  go_wp2_with fail
  go_loopw [8] (fun ci wr => ∃ (k : Nat) (v : Value), k ≤ n ∧ ci = .int .i64 k ∧ Hid (wr.heap[px]? = some (.cells #[.slice ha n hcp, .slice (some ⟨gp, 0, none⟩) n4 n4, .int .i64 (t : Nat), v] 81 (0, 0))) ∧ Hid (wr.ownsRow (px + 1) 41 1 v k (List.replicate k (.slice none 0 0))) ∧ Hid (IRow wr gp n4 (fun j => (PR F c M (j / 4) (j % 4) : Nat))) ∧ Ext w wr) (fun ci _ => n - (intOf ci).toNat)
  case atStart => exact ⟨0, _, Nat.zero_le _, rfl, HROW, Lib.hid (World.ownsRow_nil _ _ _ _), HIR3, HX3.out⟩
  case round =>
    clear HROW HIR3 HX3
    obtain ⟨k, v, hk, rfl, HPR, HO, HIR, hx⟩ := hrel
    have c0 := cell_of_row wr px 3 _ _ _ HPR.out
    have frp := frozen_row HPR.out 3
    simp only [List.getElem?_toArray, List.getElem?_cons_zero, List.getElem?_cons_succ] at c0
    by_cases hlt : k < n
    · have hki : (k : Int) < (n : Int) := by omega
      have hpz : px + 1 ≤ wr.heap.size := cell_lt c0
      go_wp2_with (at_builtin; go_loud (refine wpList_append_rd rfl _ _ 79 rfl (px + 1) 41 i0 (.slice none 0 0) 1 24 Try.underlying79 hi hz0 hz1 hz2 rfl (by decide) v k _ rfl (own_ext HO.out ((Ext.refl wr).alloc _)) _ 1 [.slice none 0 0] rfl (Rd.one wr _ _) (by simp [Value.oneCell']) (by unfold maxLen; omega) (by omega) (by simp; omega) ?_))
      intro v' w' ho' hg'
      have hne : some px ≠ v.ownBlock := by
        intro he
        have := (HO.out.lt px he.symm).1
        omega
      have hpr' : w'.heap[px]? = some (.cells #[.slice ha n hcp, .slice (some ⟨gp, 0, none⟩) n4 n4, .int .i64 (t : Nat), v] 81 (0, 0)) :=
        (hg'.block px (by simp; omega) hne).trans ((Below.heap_alloc _ _ _ (by omega)).trans HPR.out)
      have hrow' := heap_set (o := 3) hpr' v'
      have hown' := own_chg ho' (chg_one w' px 3 v') (by simp)
      have hirg : Chg v.ownBlock.toList wr w' := ⟨hg'.os, hg'.tape, hg'.output, Nat.le_trans (by simp) hg'.size, fun b hb hm => (hg'.block b (by simp; omega) (fun e => hm (by rw [← e]; simp))).trans (Below.heap_alloc _ _ _ hb)⟩
      have hir' := (HIR.out.chg hirg (fun hm => by have h1 := (HO.out.lt gp (by simpa using hm)).1; have := HPX.out; omega)).chg (chg_one w' px 3 v') (by have := HPX.out; simp; omega)
      have hxw : Ext w w' := (hx.alloc _).grown hg' (Ext.size (hx.alloc _)) (fun g hg => by have := (HO.out.lt g hg).1; have := HPX.out; omega)
      have hxs : Ext w (w'.setCell ⟨px, 3, none⟩ v') := Ext.chg (S := [px]) hxw (chg_one _ _ _ _) (by have := HPX.out; simp; omega)
      have c0' := cell_of_row w' px 3 _ _ _ hpr'
      have frp' := frozen_row hpr' 3
      simp only [List.getElem?_toArray, List.getElem?_cons_zero, List.getElem?_cons_succ] at c0'
      have HROW := Lib.hid hrow'
      have HOWN := Lib.hid hown'
      have HIRN := Lib.hid hir'
      obtain ⟨a5, m5, c5, rfl⟩ : ∃ a m c, v' = .slice a m c := by obtain ⟨_, a, c, h9, _⟩ := Rd.of_own ho'; exact ⟨a, _, c, h9⟩
      clear ho' hg' hpr' hrow' hown' hne HO HPR HIR c0 frp hirg hir' hxw
      go_wp2_with fail
      go_roundw
      case rel =>
        refine ⟨k + 1, _, by omega, by go_num, Lib.hid (by simpa using HROW.out), ?_, HIRN, hxs⟩
        rw [List.replicate_succ']
        exact HOWN
      case measure => simp [intOf]; omega
    · obtain rfl : k = n := by omega
      have hpl := cell_lt c0
      have hpr := HPR.out
      have hir := HIR.out
      rw [HN4.out] at hpr hir
      obtain ⟨gl, h1, h2, h3⟩ := rc_of (L := L) (g0 := q4) hpr HO.out (HH.out.ext hx) hir (by have := HQ.out; have := hx.size; have := HPX.out; omega) HPX.out.1 (by have := HPX.out; omega)
      have HF : Hid (∀ G, gl ∈ G → (∀ f ∈ G, f = gl ∨ f < w.heap.size) → (0 < k → ∀ g, (Value.slice ha k hcp).ownBlock = some g → g ∉ G) → RcAt wr G px gl (.slice ha k hcp) gp k t F L c M (List.replicate (k + 1) [])) := Lib.hid (fun G g1 g2 g3 => h3 G g1 (fun f hf => by
        rcases g2 f hf with e | e
        · exact .inl e
        · right; have := HPX.out; have := HQ.out; omega) g3)
      have HB : Hid (w.heap.size ≤ gl ∧ gl < wr.heap.size ∧ w.heap.size ≤ gp) := Lib.hid (by have := HPX.out; have := HQ.out; omega)
      clear h1 h2 h3 hpr hir
      go_wp2_with fail
      go_ret
      exact ⟨px, gl, gp, rfl, hpl, HB.out.2.1, HPX.out.2.2, HB.out.1, HB.out.2.2, HF.out, hx⟩
end Go.Proofs.Ytpmfadepinmmjaa
