/-
  gradineref03.Read: numbers, one behind the other. No condition but that the bytes read. And: gradineref06.Slot: a slot's sector, as the store reads it. No condition but that the bytes read. And: gradinelaw06.slots. No condition but that the disk and the store lie in memory.
-/
import Derived.Test.YtoadjmeopamgbaaRfCopy
import Derived.Test.YtoadjmeopamgbaaRfSame
namespace Go.Proofs.Ytoadjmeopamgbaa
open Go.RowKit

theorem vcol_succ (f : Nat → Value) (n : Nat) : vcol f n ++ [f n] = vcol f (n + 1) := by simp [vcol, List.range_succ]
theorem nums3 {w : World} {p : Nat} {u0 u1 u2 : Value} {t : TypeId} (h : w.heap[p]? = some (.cells #[u0, u1, u2] t (0, 0))) (v0 v1 v2 : Value) :
    (((w.setCell ⟨p, 0, none⟩ v0).setCell ⟨p, 1, none⟩ v1).setCell ⟨p, 2, none⟩ v2).heap[p]? = some (.cells #[v0, v1, v2] t (0, 0)) :=
  (heap_set (heap_set (heap_set h v0) v1) v2).trans (by kernel_rfl)
theorem nums_info : (Try.prog.info? 103).map (·.size) = some 3 := by kernel_rfl
theorem rdAll_bad {B : List Int} {r : Int × Bool} {i : Nat} (h : (rdAll B r i).2 = false) : ∀ j, (rdAll B r (i + j)).2 = false := by
  intro j
  induction j with
  | zero => exact h
  | succ j ih =>
    rw [← Nat.add_assoc, rdAll]
    unfold rdNum
    rw [if_neg (by rw [ih]; decide)]
    exact ih
/-- what is said of a row of numbers -/
def ReadOk (B : List Int) (n : Nat) (w : World) (v : Value) (nx e : Int) : Prop :=
  ((rdAll B (0, true) n).2 = true → e = 0 ∧ nx = (rdAll B (0, true) n).1 ∧ Rd w 1 v n (vcol (fun j => .int .i64 (rdVal B (0, true) j)) n)) ∧ ((rdAll B (0, true) n).2 = false → e ≠ 0)

set_option maxRecDepth 100000 in
set_option maxHeartbeats 4000000 in
theorem rread03 (v : Value) (l : List Int) (n : Nat) (w : World) (h : RdI .u8 w v l) (hb : ∀ x ∈ l, 0 ≤ x ∧ x ≤ 255) (hl : l.length ≤ 100000) (hn : n ≤ 100) :
    Calls Try.prog 54 #[v, .int .i64 0, .int .i64 n] w fun e w' => ∃ (vL : Value) (nx er : Int), e = .returned (.agg #[vL, .int .i64 nx, .int .i64 er]) ∧ ReadOk l n w' vL nx er ∧ (∃ a m c, vL = .slice a m c) ∧ Ext w w' := by
  have HG := Lib.hid (fun w' (hx : Ext w w') p => rget_any v l p w' (h.ext hx) hb (by omega))
  obtain ⟨a, c, rfl, _, _, _, _⟩ := h.parts
  obtain ⟨L, hL⟩ : ∃ L, L = l.length := ⟨_, rfl⟩
  rw [← hL] at HG ⊢
  clear h hb hL hl
  go_enter Try.func54, Try.ntmps54
  go_upto_region 2 with fail
  have hr6 : ((w.alloc (.cells #[.slice none 0 0, .int .i64 0, .int .i64 0] 103)).alloc (.cells #[.slice none 0 0, .int .i64 0, .int .i64 0] 103)).heap[w.heap.size]? = some (.cells #[.slice none 0 0, .int .i64 0, .int .i64 0] 103 (0, 0)) := heap_alloc2_old w _ _
  have hr7 : ((w.alloc (.cells #[.slice none 0 0, .int .i64 0, .int .i64 0] 103)).alloc (.cells #[.slice none 0 0, .int .i64 0, .int .i64 0] 103)).heap[w.heap.size + 1]? = some (.cells #[.slice none 0 0, .int .i64 0, .int .i64 0] 103 (0, 0)) := heap_alloc2_new w _ _
  have hxA : Ext w ((w.alloc (.cells #[.slice none 0 0, .int .i64 0, .int .i64 0] 103)).alloc (.cells #[.slice none 0 0, .int .i64 0, .int .i64 0] 103)) := ((Ext.refl w).alloc _).alloc _
  generalize ((w.alloc (.cells #[.slice none 0 0, .int .i64 0, .int .i64 0] 103)).alloc (.cells #[.slice none 0 0, .int .i64 0, .int .i64 0] 103)) = w1 at *
  obtain ⟨q7, hq7⟩ : ∃ q, q = w.heap.size + 1 := ⟨_, rfl⟩
  obtain ⟨q6, hq6⟩ : ∃ q, q = w.heap.size := ⟨_, rfl⟩
  rw [← hq7] at hr7 ⊢
  rw [← hq6] at hr6 ⊢
  have HQ : Hid (q7 = q6 + 1 ∧ w.heap.size = q6) := Lib.hid (by omega)
  have HR6 := Lib.hid hr6
  have HR7 := Lib.hid hr7
  have HXA := Lib.hid hxA
  clear hq7 hq6 hr6 hr7 hxA
  go_wp2_with fail
  go_loopw [8, 9] (fun ci _ wr => ∃ (i : Nat) (vL : Value) (nx : Int), i ≤ n ∧ ci = .int .i64 i ∧ Hid (rdAll l (0, true) i = (nx, true)) ∧ Hid (wr.heap[q6]? = some (.cells #[.slice none 0 0, .int .i64 0, .int .i64 0] 103 (0, 0))) ∧ Hid (wr.heap[q7]? = some (.cells #[vL, .int .i64 nx, .int .i64 0] 103 (0, 0))) ∧ Hid (wr.ownsRow (q7 + 1) 3 1 vL i (vcol (fun j => .int .i64 (rdVal l (0, true) j)) i)) ∧ Ext w wr) (fun ci _ _ => n - (intOf ci).toNat)
  case atStart => exact ⟨0, _, 0, Nat.zero_le _, rfl, Lib.hid rfl, HR6, HR7, Lib.hid (World.ownsRow_nil _ _ _ _), HXA.out⟩
  case round =>
    clear HR6 HR7 HXA
    obtain ⟨i, vL, nx, hi, rfl, HAL, H6, H7, HO, hx⟩ := hrel
    have k0 := cell_of_row wr q7 0 _ _ _ H7.out
    have k1 := cell_of_row wr q7 1 _ _ _ H7.out
    have k2 := cell_of_row wr q7 2 _ _ _ H7.out
    have y0 := cell_of_row wr q6 0 _ _ _ H6.out
    have y1 := cell_of_row wr q6 1 _ _ _ H6.out
    have y2 := cell_of_row wr q6 2 _ _ _ H6.out
    simp only [List.getElem?_toArray, List.getElem?_cons_zero, List.getElem?_cons_succ] at k0 k1 k2 y0 y1 y2
    by_cases hlt : i < n
    case neg =>
      obtain rfl : i = n := by omega
      have fz0 := frozen_row H6.out 0
      have fz1 := frozen_row H6.out 1
      have fz2 := frozen_row H6.out 2
      obtain ⟨aL, nL, cL, rfl⟩ := slice_of_own HO.out
      have HX := Lib.hid hx
      have hrd := Rd.of_own HO.out
      have HRD := Lib.hid hrd
      clear hrd hx
      go_wp2_with fail
      refine bodyPost_ret (results_cell_row rfl _ _ q6 _ _ _ _ rfl (nums3 H6.out _ _ _) Try.underlying103 rfl nums_info) rfl ?_
      refine ⟨_, _, _, rfl, ⟨fun _ => ⟨rfl, by rw [HAL.out], ?_⟩, fun h => by rw [HAL.out] at h; cases h⟩, ⟨_, _, _, rfl⟩, ?_⟩
      · have h9 := Rd.of_own (own_chg (S := [q6]) (own_chg (S := [q6]) (own_chg (S := [q6]) HO.out (chg_one _ q6 0 (.slice aL nL cL)) (by have := HQ.out; simp; omega)) (chg_one _ q6 1 (.int .i64 nx)) (by have := HQ.out; simp; omega)) (chg_one _ q6 2 (.int .i64 0)) (by have := HQ.out; simp; omega))
        exact h9
      · exact (((Below.setCell HX.out (p := ⟨q6, 0, none⟩) (by have := HQ.out; simp; omega) _).setCell (p := ⟨q6, 1, none⟩) (by have := HQ.out; simp; omega) _).setCell (p := ⟨q6, 2, none⟩) (by have := HQ.out; simp; omega) _)
    have hli : (i : Int) < (n : Int) := by omega
    have HGG := Lib.hid (HG.out wr hx nx)
    obtain ⟨gn, hgn⟩ : ∃ y, y = (getN l nx).1 := ⟨_, rfl⟩
    obtain ⟨gf, hgf⟩ : ∃ y, y = (getN l nx).2.1 := ⟨_, rfl⟩
    obtain ⟨ge, hge⟩ : ∃ y, y = (getN l nx).2.2 := ⟨_, rfl⟩
    rw [← hgn, ← hgf, ← hge] at HGG
    have HST : Hid (rdAll l (0, true) (i + 1) = (gf, decide (ge = 0)) ∧ rdVal l (0, true) i = gn) := Lib.hid (by
      unfold rdVal
      rw [rdAll, HAL.out]
      unfold rdNum
      rw [if_pos rfl, ← hgn, ← hgf, ← hge]
      exact ⟨rfl, rfl⟩)
    clear hgn hgf hge
    go_wp2_with fail
    refine HGG.out.mono ?_
    rintro e1 w2 ⟨rfl, hx2⟩
    have H62 := Lib.hid ((Below.block hx2 q6 (Array.getElem?_eq_some_iff.1 H6.out).1).trans H6.out)
    have H72 := Lib.hid ((Below.block hx2 q7 (Array.getElem?_eq_some_iff.1 H7.out).1).trans H7.out)
    have HO2 := Lib.hid (own_ext HO.out hx2)
    have hX2 := hx.trans hx2
    have hql := cell_lt k0
    have hql2 := hx2.size
    clear H6 H7 HO HGG hx hx2 k0 k1 k2 y0 y1 y2
    go_upto_region 6 with fail
    have hxC : Ext w2 (w2.alloc (.cells #[.int .i64 gn, .slice none 0 0, .int .i64 gf, .int .i64 ge] 87)) := (Ext.refl w2).alloc _
    have e0 := cell_new w2 #[.int .i64 gn, .slice none 0 0, .int .i64 gf, .int .i64 ge] 87 (0, 0) (j := 0) rfl
    have e2 := cell_new w2 #[.int .i64 gn, .slice none 0 0, .int .i64 gf, .int .i64 ge] 87 (0, 0) (j := 2) rfl
    have e3 := cell_new w2 #[.int .i64 gn, .slice none 0 0, .int .i64 gf, .int .i64 ge] 87 (0, 0) (j := 3) rfl
    generalize (w2.alloc (.cells #[.int .i64 gn, .slice none 0 0, .int .i64 gf, .int .i64 ge] 87)) = w3 at *
    obtain ⟨q9, hq9⟩ : ∃ q, q = w2.heap.size := ⟨_, rfl⟩
    rw [← hq9] at e0 e2 e3 ⊢
    have HQ9 : Hid (q7 < q9 ∧ q7 < w3.heap.size) := Lib.hid (by have := hxC.size; omega)
    have H63 := Lib.hid ((Below.block hxC q6 (Array.getElem?_eq_some_iff.1 H62.out).1).trans H62.out)
    have H73 := Lib.hid ((Below.block hxC q7 (Array.getElem?_eq_some_iff.1 H72.out).1).trans H72.out)
    have HO3 := Lib.hid (own_ext HO2.out hxC)
    have HX3 := Lib.hid (hX2.trans hxC)
    have HVL : Hid (∀ z, vL.ownBlock = some z → z < q9) := Lib.hid (fun z hz => by rw [hq9]; exact (HO2.out.lt z hz).2)
    clear H62 H72 HO2 hX2 hxC hq9 hql hql2
    by_cases hg0 : ge = 0
    case neg =>
      have hb0 : (ge != 0) = true := by rw [bne_iff_ne]; exact hg0
      have HBAD : Hid ((rdAll l (0, true) n).2 = false) := Lib.hid (by
        have h9 := rdAll_bad (B := l) (r := (0, true)) (i := i + 1) (by rw [HST.out.1]; simpa using hg0) (n - (i + 1))
        rwa [show i + 1 + (n - (i + 1)) = n by omega] at h9)
      have HGE := Lib.hid hg0
      have y0 := cell_of_row w3 q6 0 _ _ _ H63.out
      have y1 := cell_of_row w3 q6 1 _ _ _ H63.out
      have y2 := cell_of_row w3 q6 2 _ _ _ H63.out
      simp only [List.getElem?_toArray, List.getElem?_cons_zero, List.getElem?_cons_succ] at y0 y1 y2
      have fz0 := frozen_row H63.out 0
      have fz1 := frozen_row H63.out 1
      have fz2 := frozen_row H63.out 2
      clear hg0
      go_wp2_with fail
      refine bodyPost_ret (results_cell_row rfl _ _ q6 _ _ _ _ rfl (nums3 H63.out _ _ _) Try.underlying103 rfl nums_info) rfl ?_
      refine ⟨_, _, _, rfl, ⟨fun h => (by rw [HBAD.out] at h; cases h), fun _ => HGE.out⟩, ⟨_, _, _, rfl⟩, ?_⟩
      exact (((Below.setCell HX3.out (p := ⟨q6, 0, none⟩) (by have := HQ.out; simp; omega) _).setCell (p := ⟨q6, 1, none⟩) (by have := HQ.out; simp; omega) _).setCell (p := ⟨q6, 2, none⟩) (by have := HQ.out; simp; omega) _)
    have hb0 : (ge != 0) = false := by rw [hg0]; rfl
    have k0 := cell_of_row w3 q7 0 _ _ _ H73.out
    simp only [List.getElem?_toArray, List.getElem?_cons_zero] at k0
    have hlen : (vcol (fun j => Value.int .i64 (rdVal l (0, true) j)) i).length = i := vcol_len _ _
    obtain ⟨xs, hxs⟩ : ∃ xs, xs = vcol (fun j => Value.int .i64 (rdVal l (0, true) j)) i := ⟨_, rfl⟩
    have HXS := Lib.hid hxs
    rw [← hxs] at hlen HO3
    have HLN := Lib.hid hlen
    have HO4 : Hid (w3.ownsRow (q7 + 1) 3 1 vL xs.length xs) := Lib.hid (by rw [hlen]; exact HO3.out)
    clear hxs hlen HO3
    go_wp2_with (at_builtin; go_loud (refine wpList_append_one rfl _ _ 68 rfl 3 (.int .i64 0) 8 Try.underlying68 ints_info rfl (by decide) (q7 + 1) (by have := HQ9.out.2; simp; omega) vL xs rfl (own_ext HO4.out ((Ext.refl w3).alloc _)) _ (.int .i64 gn) rfl (Rd.one w3 _ _) rfl (by rw [HLN.out]; omega) ?_))
    intro g4 cap4 w4 ho hg hat
    have hq7o : vL.ownBlock ≠ some q7 := fun e => by have := (HO4.out.lt _ e).1; omega
    have hq6o : vL.ownBlock ≠ some q6 := fun e => by have := (HO4.out.lt _ e).1; have := HQ.out; omega
    have hxw3 : Ext w3 (w3.alloc (.cells #[.int .i64 gn] 3)) := (Ext.refl _).alloc _
    have H74 := (hg.block q7 (Nat.lt_of_lt_of_le HQ9.out.2 hxw3.size) (fun e => hq7o e.symm)).trans ((Below.block hxw3 q7 HQ9.out.2).trans H73.out)
    have H64 := (hg.block q6 (Nat.lt_of_lt_of_le (by have := HQ9.out.2; have := HQ.out; omega) hxw3.size) (fun e => hq6o e.symm)).trans ((Below.block hxw3 q6 (by have := HQ9.out.2; have := HQ.out; omega)).trans H63.out)
    have hX4 : Ext w w4 := (HX3.out.trans hxw3).grown hg (HX3.out.trans hxw3).size (fun k hk => by have := (HO4.out.lt k hk).1; have := HQ.out; omega)
    have e24 := hg.cell (hxw3.cellv e2) (fun e => Nat.lt_irrefl q9 (HVL.out q9 e.symm))
    have k04 := cell_of_row w4 q7 0 _ _ _ H74
    simp only [List.getElem?_toArray, List.getElem?_cons_zero] at k04
    have f04 := frozen_row H74 0
    have ho5 := own_chg (S := [q7]) ho (chg_one w4 q7 0 (.slice (some ⟨g4, 0, none⟩) (xs.length + 1) cap4)) (by simp)
    have H75 := heap_set (o := 0) H74 (.slice (some ⟨g4, 0, none⟩) (xs.length + 1) cap4)
    have H65 := (Below.heap_setCell w4 ⟨q7, 0, none⟩ (.slice (some ⟨g4, 0, none⟩) (xs.length + 1) cap4) q6 (by have := HQ.out; simp; omega)).trans H64
    have hX5 : Ext w (w4.setCell ⟨q7, 0, none⟩ (.slice (some ⟨g4, 0, none⟩) (xs.length + 1) cap4)) := Ext.chg (S := [q7]) hX4 (chg_one _ _ _ _) (by have := HQ.out; simp; omega)
    have e25 := chg_cellc (chg_one w4 q7 0 (.slice (some ⟨g4, 0, none⟩) (xs.length + 1) cap4)) e24 (by have := HQ9.out.1; simp; omega)
    have H7R := Lib.hid H75
    have H6R := Lib.hid H65
    have HOR := Lib.hid ho5
    have HXR := Lib.hid hX5
    clear ho hg hat hq7o hq6o hxw3 H74 H64 hX4 ho5 H75 H65 hX5 k0
    go_upto_region 9 with fail
    clear e24 k04 f04
    generalize (w4.setCell ⟨q7, 0, none⟩ (.slice (some ⟨g4, 0, none⟩) (xs.length + 1) cap4)) = w5 at *
    have h7r := H7R.out
    have k1 := cell_of_row w5 q7 1 _ _ _ h7r
    have fz1 := frozen_row h7r 1
    simp at k1
    clear h7r e0 e2 e3
    go_wp2_with fail
    have ho6 := own_chg (S := [q7]) HOR.out (chg_one w5 q7 1 (.int .i64 gf)) (by simp)
    have H76 := heap_set (o := 1) H7R.out (.int .i64 gf)
    have H66 := (Below.heap_setCell w5 ⟨q7, 1, none⟩ (.int .i64 gf) q6 (by have := HQ.out; simp; omega)).trans H6R.out
    have hX6 : Ext w (w5.setCell ⟨q7, 1, none⟩ (.int .i64 gf)) := Ext.chg (S := [q7]) HXR.out (chg_one _ _ _ _) (by have := HQ.out; simp; omega)
    have hxs1 : xs ++ [Value.int .i64 gn] = vcol (fun j => Value.int .i64 (rdVal l (0, true) j)) (i + 1) := by
      rw [HXS.out, ← vcol_succ, HST.out.2]
    rw [hxs1, HLN.out] at ho6
    have H7F := Lib.hid H76
    have H6F := Lib.hid H66
    have HOF := Lib.hid ho6
    clear ho6 H76 H66 hxs1
    go_roundw
    case rel => exact ⟨i + 1, _, gf, by omega, by go_num, Lib.hid (by rw [HST.out.1, hg0]; rfl), H6F, Lib.hid (by have h9 := H7F.out; rw [HLN.out] at h9; simpa using h9), HOF, hX6⟩
    case measure => simp [intOf]; omega


theorem rdAll_le {l : List Int} {k : Nat} (h : (rdAll l (0, true) (k + 1)).2 = true) : (rdAll l (0, true) (k + 1)).1 ≤ l.length := by
  rw [rdAll] at h ⊢
  unfold rdNum at h ⊢
  by_cases h1 : (rdAll l (0, true) k).2 = true
  · rw [if_pos h1] at h ⊢
    simp only [decide_eq_true_eq] at h
    exact (getN_bd h).2.2.2.2
  · rw [if_neg h1] at h
    exact absurd h h1
theorem make3 (w : World) : (Instr.makeSlice 68 (.int .i64 3) (.int .i64 3)).run Try.prog w = .ok (.slice (some ⟨w.heap.size, 0, none⟩) 3 3) (w.alloc (.cells #[.int .i64 0, .int .i64 0, .int .i64 0] 3)) := by
  obtain ⟨i0, hi0, hz0, hz1, hz2⟩ := info_parts ints_info
  have hr := run_make (P := Try.prog) w 68 3 i0 (.int .i64 0) Try.underlying68 hi0 hz0 .i64 .i64 3 3 (by omega) (by omega) (by rw [hz2]; omega) (by omega)
  have e : madeCells (Value.int .i64 0).cells ((3 : Int).toNat * i0.size) = #[Value.int .i64 0, .int .i64 0, .int .i64 0] := by
    rw [hz1]; kernel_rfl
  rw [hr, e]
  rfl
def slV (s : Int × Int × Int) : List Value := [.int .i64 s.1, .int .i64 s.2.1, .int .i64 s.2.2]
theorem zero3 (w : World) : Rd (w.alloc (.cells #[.int .i64 0, .int .i64 0, .int .i64 0] 3)) 1 (.slice (some ⟨w.heap.size, 0, none⟩) 3 3) 3 (slV (0, 0, 0)) := by
  have h := RdI.lit .i64 w [0, 0, 0] 3 (by unfold maxLen; simp)
  exact h

set_option maxRecDepth 100000 in
set_option maxHeartbeats 4000000 in
theorem rslot (v : Value) (l : List Int) (w : World) (h : RdI .u8 w v l) (hb : ∀ x ∈ l, 0 ≤ x ∧ x ≤ 255) (hl : l.length ≤ 100000) :
    Calls Try.prog 46 #[v] w fun e w' => ∃ vL, e = .returned vL ∧ Rd w' 1 vL 3 (slV (sSlot l)) ∧ Ext w w' := by
  have HR := Lib.hid (rread03 v l 3 w h hb hl (by omega))
  have HLE := Lib.hid (@rdAll_le l 2)
  obtain ⟨Z, hZ⟩ : ∃ Z, Z = sSlot l := ⟨_, rfl⟩
  have HZ0 : Hid (¬ sSlotOk l → Z = (0, 0, 0)) := Lib.hid (fun h => by rw [hZ]; unfold sSlot; rw [if_neg h])
  have HZ1 : Hid (sSlotOk l → Z = (rdVal l (0, true) 0, rdVal l (0, true) 1, rdVal l (0, true) 2)) := Lib.hid (fun h => by rw [hZ]; unfold sSlot; rw [if_pos h])
  rw [← hZ]
  have HMK := make3
  obtain ⟨a, c, rfl, _, _, _, _⟩ := h.parts
  obtain ⟨L, hL⟩ : ∃ L, L = l.length := ⟨_, rfl⟩
  have HL := Lib.hid hL
  rw [← hL] at HR ⊢
  clear h hb hl hZ hL
  go_enter Try.func46, Try.ntmps46
  go_wp2_with fail
  refine HR.out.mono ?_
  rintro e w1 ⟨vL, nx, er, rfl, hok, ⟨aL, mL, cL, rfl⟩, hx1⟩
  have HOKR := Lib.hid hok
  clear hok
  go_upto_region 2 with fail
  have hxC : Ext w1 (w1.alloc (.cells #[.slice aL mL cL, .int .i64 nx, .int .i64 er] 103)) := (Ext.refl w1).alloc _
  have e0 := cell_new w1 #[.slice aL mL cL, .int .i64 nx, .int .i64 er] 103 (0, 0) (j := 0) rfl
  have e1 := cell_new w1 #[.slice aL mL cL, .int .i64 nx, .int .i64 er] 103 (0, 0) (j := 1) rfl
  have e2 := cell_new w1 #[.slice aL mL cL, .int .i64 nx, .int .i64 er] 103 (0, 0) (j := 2) rfl
  generalize (w1.alloc (.cells #[.slice aL mL cL, .int .i64 nx, .int .i64 er] 103)) = w2 at *
  obtain ⟨q, hq⟩ : ∃ q, q = w1.heap.size := ⟨_, rfl⟩
  rw [← hq] at e0 e1 e2 ⊢
  clear hq
  have hX := hx1.trans hxC
  by_cases h0 : (rdAll l (0, true) 3).2 = true
  case neg =>
    have h0 : (rdAll l (0, true) 3).2 = false := by simpa using h0
    have hb0 : (er != 0) = true := by rw [bne_iff_ne]; exact HOKR.out.2 h0
    obtain rfl := HZ0.out (fun h => by have := h.1; rw [h0] at this; cases this)
    clear h0 hx1 hxC
    go_wp2_with fail
    go_ret
    exact ⟨_, rfl, zero3 w2, hX.trans (by repeat' (first | (with_reducible exact Ext.refl _) | (with_reducible assumption) | (with_reducible refine Ext.alloc ?_ _) | (with_reducible refine Ext.drewN ?_ _) | (with_reducible refine Ext.drew ?_) | (with_reducible refine Ext.trans ?_ (by assumption))))⟩
  obtain ⟨rfl, hnx, hrd⟩ := HOKR.out.1 h0
  have hrd := hrd.ext hxC
  have HLN : Hid ((rdAll l (0, true) 3).1 ≤ l.length) := Lib.hid (HLE.out h0)
  by_cases h1 : nx < (L : Int)
  case pos =>
    obtain rfl := HZ0.out (fun h => by have := h.2.1; have := HL.out; omega)
    clear h0 hx1 hxC hnx hrd
    go_wp2_with fail
    go_ret
    exact ⟨_, rfl, zero3 w2, hX.trans (by repeat' (first | (with_reducible exact Ext.refl _) | (with_reducible assumption) | (with_reducible refine Ext.alloc ?_ _) | (with_reducible refine Ext.drewN ?_ _) | (with_reducible refine Ext.drew ?_) | (with_reducible refine Ext.trans ?_ (by assumption))))⟩
  obtain ⟨a0, ha0⟩ : ∃ y, y = rdVal l (0, true) 0 := ⟨_, rfl⟩
  obtain ⟨a1, ha1⟩ : ∃ y, y = rdVal l (0, true) 1 := ⟨_, rfl⟩
  obtain ⟨a2, ha2⟩ : ∃ y, y = rdVal l (0, true) 2 := ⟨_, rfl⟩
  have ev : vcol (fun j => Value.int .i64 (rdVal l (0, true) j)) 3 = slV (a0, a1, a2) := by rw [ha0, ha1, ha2]; rfl
  rw [ev] at hrd
  obtain ⟨_, aL2, cL2, he, _, _, _, hs⟩ := id hrd
  obtain ⟨b, o, rfl, _, hc⟩ := hs (by omega)
  simp only [Value.slice.injEq] at he
  obtain ⟨rfl, rfl, rfl⟩ := he
  have k0 := hc 0 _ rfl
  have k1 := hc 1 _ rfl
  have k2 := hc 2 _ rfl
  simp only [Nat.add_zero] at k0
  have HRD := Lib.hid hrd
  have HOKS : Hid (sSlotOk l ↔ (a0 ≤ 1099511627776 ∧ a1 ≤ 1099511627776 ∧ a2 ≤ 16)) := Lib.hid (by
    unfold sSlotOk
    rw [← ha0, ← ha1, ← ha2]
    exact ⟨fun h => h.2.2, fun h => ⟨h0, by have := HL.out; have := HLN.out; omega, h⟩⟩)
  have HZ2 : Hid (sSlotOk l → Z = (a0, a1, a2)) := Lib.hid (by rw [ha0, ha1, ha2]; exact HZ1.out)
  clear h0 hx1 hxC hnx hrd ev ha0 ha1 ha2 hs hc
  by_cases g0 : 1099511627776 < a0
  case pos =>
    obtain rfl := HZ0.out (fun h => by have := (HOKS.out.1 h).1; omega)
    go_wp2_with fail
    go_ret
    exact ⟨_, rfl, zero3 w2, hX.trans (by repeat' (first | (with_reducible exact Ext.refl _) | (with_reducible assumption) | (with_reducible refine Ext.alloc ?_ _) | (with_reducible refine Ext.drewN ?_ _) | (with_reducible refine Ext.drew ?_) | (with_reducible refine Ext.trans ?_ (by assumption))))⟩
  by_cases g1 : 1099511627776 < a1
  case pos =>
    obtain rfl := HZ0.out (fun h => by have := (HOKS.out.1 h).2.1; omega)
    go_wp2_with fail
    go_ret
    exact ⟨_, rfl, zero3 w2, hX.trans (by repeat' (first | (with_reducible exact Ext.refl _) | (with_reducible assumption) | (with_reducible refine Ext.alloc ?_ _) | (with_reducible refine Ext.drewN ?_ _) | (with_reducible refine Ext.drew ?_) | (with_reducible refine Ext.trans ?_ (by assumption))))⟩
  by_cases g2 : 16 < a2
  case pos =>
    obtain rfl := HZ0.out (fun h => by have := (HOKS.out.1 h).2.2; omega)
    go_wp2_with fail
    go_ret
    exact ⟨_, rfl, zero3 w2, hX.trans (by repeat' (first | (with_reducible exact Ext.refl _) | (with_reducible assumption) | (with_reducible refine Ext.alloc ?_ _) | (with_reducible refine Ext.drewN ?_ _) | (with_reducible refine Ext.drew ?_) | (with_reducible refine Ext.trans ?_ (by assumption))))⟩
  obtain rfl := HZ2.out (HOKS.out.2 ⟨by omega, by omega, by omega⟩)
  go_wp2_with fail
  go_ret
  exact ⟨_, rfl, HRD.out, hX.trans (by repeat' (first | (with_reducible exact Ext.refl _) | (with_reducible assumption) | (with_reducible refine Ext.alloc ?_ _) | (with_reducible refine Ext.drewN ?_ _) | (with_reducible refine Ext.drew ?_) | (with_reducible refine Ext.trans ?_ (by assumption))))⟩

def SlEq (h : Sh) (d : Dk) (x : RX) (n : Nat) : Prop := ∀ i, i < n → sSlot (d.rows.getD (1 + h.b + i) []) = (x.int 2 i, x.int 3 i, x.int 4 i)
theorem Sim.slots {h : Sh} {d : Dk} {x : RX} (hb : BlkEq h d x h.b) (hs : SlEq h d x (h.c * h.k)) : Sim h d x :=
  ⟨hb, fun a s ha hs' => by
    have h1 := hs (rIx h a s) (rIx_lt ha hs')
    have e : 1 + h.b + rIx h a s = h.slotAt a s := by unfold rIx Sh.slotAt; omega
    rwa [e] at h1⟩
theorem Sim.toSl {h : Sh} {d : Dk} {x : RX} (s : Sim h d x) (k1 : 0 < h.k) : SlEq h d x (h.c * h.k) := by
  intro i hi
  have h1 : i / h.k < h.c := by rw [Nat.div_lt_iff_lt_mul k1]; exact hi
  have h2 := s.slot (i / h.k) (i % h.k) h1 (Nat.mod_lt _ k1)
  have e : rIx h (i / h.k) (i % h.k) = i := by unfold rIx; exact Nat.div_add_mod i h.k
  have e2 : h.slotAt (i / h.k) (i % h.k) = 1 + h.b + i := by
    have : h.slotAt (i / h.k) (i % h.k) = 1 + h.b + rIx h (i / h.k) (i % h.k) := by unfold rIx Sh.slotAt; omega
    rw [this, e]
  rwa [e, e2] at h2


set_option maxRecDepth 100000 in
set_option maxHeartbeats 8000000 in
theorem lslots (w : World) (F : List Nat) (p bl : Nat) (h : Sh) (d : Dk) (hd : DiskAt w F p bl d) (byt : Byt d) (ok : h.Ok) (hm : h.many ≤ d.rows.length) (G : List Nat) (pr : Nat) (g : Nat → Nat) (x : RX) (r : RefAt w G pr g h x) (v : Bool) (hv : v = true ↔ SlEq h d x (h.c * h.k)) :
    Calls Try.prog 27 #[.pointer (some ⟨p, 0, none⟩), .agg #[.int .i64 h.b, .int .i64 h.s, .int .i64 h.c, .int .i64 h.k], .pointer (some ⟨pr, 0, none⟩)] w fun e w' => e = .returned (.bool v) ∧ Ext w w' := by
  obtain ⟨cp, hcp⟩ := r.rows
  have c6 := (hcp 2 (by omega)).1
  have c7 := (hcp 3 (by omega)).1
  have c8 := (hcp 4 (by omega)).1
  have hck := ok.ck
  have hb2 := ok.b2
  obtain ⟨m, hmm⟩ : ∃ y, y = h.c * h.k := ⟨_, rfl⟩
  obtain ⟨g2, eg2⟩ : ∃ y, y = g 2 := ⟨_, rfl⟩
  obtain ⟨g3, eg3⟩ : ∃ y, y = g 3 := ⟨_, rfl⟩
  obtain ⟨g4, eg4⟩ : ∃ y, y = g 4 := ⟨_, rfl⟩
  obtain ⟨p2, ep2⟩ : ∃ y, y = cp 2 := ⟨_, rfl⟩
  obtain ⟨p3, ep3⟩ : ∃ y, y = cp 3 := ⟨_, rfl⟩
  obtain ⟨p4, ep4⟩ : ∃ y, y = cp 4 := ⟨_, rfl⟩
  have er2 : rLen h 2 = m := by rw [hmm]; rfl
  have er3 : rLen h 3 = m := by rw [hmm]; rfl
  have er4 : rLen h 4 = m := by rw [hmm]; rfl
  simp only [Nat.reduceAdd] at c6 c7 c8
  rw [← eg2, er2, ← ep2] at c6
  rw [← eg3, er3, ← ep3] at c7
  rw [← eg4, er4, ← ep4] at c8
  have HK2 := Lib.hid (fun (j : Nat) (hj : j < m) => (show w.cell? ⟨g2, j, none⟩ = some (.int .i64 (x.int 2 j)) by rw [eg2]; exact r.at (j := 2) (by omega) (by omega) (by rw [er2]; exact hj)))
  have HK3 := Lib.hid (fun (j : Nat) (hj : j < m) => (show w.cell? ⟨g3, j, none⟩ = some (.int .i64 (x.int 3 j)) by rw [eg3]; exact r.at (j := 3) (by omega) (by omega) (by rw [er3]; exact hj)))
  have HK4 := Lib.hid (fun (j : Nat) (hj : j < m) => (show w.cell? ⟨g4, j, none⟩ = some (.int .i64 (x.int 4 j)) by rw [eg4]; exact r.at (j := 4) (by omega) (by omega) (by rw [er4]; exact hj)))
  obtain ⟨B, hB⟩ : ∃ y, y = h.b := ⟨_, rfl⟩
  have HRD := Lib.hid (fun w' (hx : Ext w w') i (hi : i < m) => dread_any F p bl d w' (hd.ext hx) ((1 + B + i : Nat) : Int) ⟨by omega, by unfold Sh.many at hm; omega⟩)
  have HSM := Lib.hid hd.small
  have HBY := Lib.hid byt
  obtain ⟨z0, hz0⟩ : ∃ y : Int, y = (h.b : Nat) := ⟨_, rfl⟩
  obtain ⟨z1, hz1⟩ : ∃ y : Int, y = (h.s : Nat) := ⟨_, rfl⟩
  obtain ⟨z2, hz2⟩ : ∃ y : Int, y = (h.c : Nat) := ⟨_, rfl⟩
  obtain ⟨z3, hz3⟩ : ∃ y : Int, y = (h.k : Nat) := ⟨_, rfl⟩
  have hwm : IntKind.i64.wrap (z2 * z3) = (m : Nat) := by
    have e : z2 * z3 = ((m : Nat) : Int) := by rw [hz2, hz3, hmm]; simp
    rw [e, IntKind.wrap_i64]
    omega
  have hw1 : IntKind.i64.wrap (1 + z0) = ((1 + B : Nat) : Int) := by rw [hz0, IntKind.wrap_i64]; omega
  obtain ⟨zb, hzb⟩ : ∃ y : Int, y = ((1 + B : Nat) : Int) := ⟨_, rfl⟩
  rw [← hzb] at hw1
  have HZB : Hid (zb = ((1 + B : Nat) : Int) ∧ B ≤ 32 ∧ B = h.b) := Lib.hid ⟨hzb, by omega, hB⟩
  have hm16 : m ≤ 16 := by omega
  rw [← hmm] at hv
  rw [← hz0, ← hz1, ← hz2, ← hz3]
  have HV := Lib.hid hv
  clear hd byt r hcp hck hb2 hmm eg2 eg3 eg4 ep2 ep3 ep4 er2 er3 er4 hB hz0 hz1 hz2 hz3 hzb hv hm ok
  go_enter Try.func27, Try.ntmps27
  go_upto_region 1 with fail
  have y0 := cell_new w #[.int .i64 z0, .int .i64 z1, .int .i64 z2, .int .i64 z3] 23 (0, 0) (j := 0) rfl
  have y2 := cell_new w #[.int .i64 z0, .int .i64 z1, .int .i64 z2, .int .i64 z3] 23 (0, 0) (j := 2) rfl
  have y3 := cell_new w #[.int .i64 z0, .int .i64 z1, .int .i64 z2, .int .i64 z3] 23 (0, 0) (j := 3) rfl
  have hxA : Ext w (w.alloc (.cells #[.int .i64 z0, .int .i64 z1, .int .i64 z2, .int .i64 z3] 23)) := (Ext.refl w).alloc _
  generalize (w.alloc (.cells #[.int .i64 z0, .int .i64 z1, .int .i64 z2, .int .i64 z3] 23)) = w1 at *
  obtain ⟨pb, hpb⟩ : ∃ pb, pb = w.heap.size := ⟨_, rfl⟩
  rw [← hpb] at y0 y2 y3 ⊢
  clear hpb
  have HXA := Lib.hid hxA
  clear hxA
  go_wp2_with fail
  go_loopw [6, 7, 16] (fun cr _ cj ws => ∃ j : Nat, j ≤ m ∧ cj = .int .i64 j ∧ cr = .bool false ∧ Hid (SlEq h d x j) ∧ Ext w1 ws) (fun _ _ cj _ => m - (intOf cj).toNat)
  case atStart => exact ⟨0, Nat.zero_le _, rfl, rfl, Lib.hid (fun j hj => absurd hj (by omega)), Ext.refl _⟩
  case round =>
    obtain ⟨j, hj, rfl, rfl, HE, hx⟩ := hrel
    by_cases hlt : j < m
    case neg =>
      obtain rfl : j = m := by omega
      obtain rfl : v = true := HV.out.2 HE.out
      go_wp2_with fail
      go_ret
      exact ⟨rfl, HXA.out.trans (hx.trans (by repeat' (first | (with_reducible exact Ext.refl _) | (with_reducible assumption) | (with_reducible refine Ext.alloc ?_ _) | (with_reducible refine Ext.drewN ?_ _) | (with_reducible refine Ext.drew ?_) | (with_reducible refine Ext.trans ?_ (by assumption)))))⟩
    have hji : (j : Int) < (m : Int) := by omega
    have hxw := HXA.out.trans hx
    replace y0 := hx.cellv y0
    replace c6 := hxw.cellv c6
    replace c7 := hxw.cellv c7
    replace c8 := hxw.cellv c8
    have k2 := hxw.cellv (HK2.out j hlt)
    have k3 := hxw.cellv (HK3.out j hlt)
    have k4 := hxw.cellv (HK4.out j hlt)
    have hw2 : IntKind.i64.wrap (zb + (j : Int)) = zb + (j : Int) := by rw [IntKind.wrap_i64]; have := HZB.out; omega
    have HR := Lib.hid (HRD.out wr hxw j hlt)
    have e1 : ((1 + B + j : Nat) : Int) = zb + (j : Int) := by have := HZB.out.1; omega
    simp only [Int.toNat_natCast] at HR
    rw [e1] at HR
    have HS1 := Lib.hid (HSM.out (1 + B + j))
    have HB1 := Lib.hid (HBY.out (1 + B + j))
    obtain ⟨R, hR⟩ : ∃ R, R = d.rows.getD (1 + B + j) [] := ⟨_, rfl⟩
    rw [← hR] at HR HS1 HB1
    obtain ⟨s0, hs0⟩ : ∃ y, y = (sSlot R).1 := ⟨_, rfl⟩
    obtain ⟨s1, hs1⟩ : ∃ y, y = (sSlot R).2.1 := ⟨_, rfl⟩
    obtain ⟨s2, hs2⟩ : ∃ y, y = (sSlot R).2.2 := ⟨_, rfl⟩
    obtain ⟨u0, hu0⟩ : ∃ y, y = x.int 2 j := ⟨_, rfl⟩
    obtain ⟨u1, hu1⟩ : ∃ y, y = x.int 3 j := ⟨_, rfl⟩
    obtain ⟨u2, hu2⟩ : ∃ y, y = x.int 4 j := ⟨_, rfl⟩
    rw [← hu0] at k2
    rw [← hu1] at k3
    rw [← hu2] at k4
    have HJ : Hid ((s0 = u0 ∧ s1 = u1 ∧ s2 = u2) ↔ sSlot (d.rows.getD (1 + h.b + j) []) = (x.int 2 j, x.int 3 j, x.int 4 j)) := Lib.hid (by
      rw [← HZB.out.2.2, ← hR, hs0, hs1, hs2, hu0, hu1, hu2]
      exact ⟨fun ⟨a, b, c⟩ => Prod.ext a (Prod.ext b c), fun e => ⟨congrArg Prod.fst e, congrArg (fun q => q.2.1) e, congrArg (fun q => q.2.2) e⟩⟩)
    have HSL : Hid (slV (sSlot R) = [.int .i64 s0, .int .i64 s1, .int .i64 s2]) := Lib.hid (by rw [hs0, hs1, hs2]; rfl)
    have HNO : Hid (¬ (s0 = u0 ∧ s1 = u1 ∧ s2 = u2) → v = false) := Lib.hid (fun hn => by
      cases v with
      | false => rfl
      | true => exact absurd (HJ.out.2 (HV.out.1 rfl j hlt)) hn)
    have HX := Lib.hid hxw
    have HXR := Lib.hid hx
    clear hR hs0 hs1 hs2 hu0 hu1 hu2 e1 hxw hx
    go_wp2_with fail
    refine HR.out.mono ?_
    rintro e wa ⟨va, rfl, hoa, hxa⟩
    have HSC := Lib.hid (rslot va R wa hoa.rd HB1.out (by have := HS1.out; omega))
    obtain ⟨aa, na, ca, rfl⟩ := hoa.rd.isSlice
    clear hoa
    go_wp2_with fail
    refine HSC.out.mono ?_
    rintro e wb ⟨vL, rfl, hrd, hxb⟩
    rw [HSL.out] at hrd
    obtain ⟨_, aL, cL, rfl, _, _, _, hs⟩ := hrd
    obtain ⟨b, o, rfl, _, hc⟩ := hs (by omega)
    have l0 := hc 0 _ rfl
    have l1 := hc 1 _ rfl
    have l2 := hc 2 _ rfl
    simp only [Nat.add_zero] at l0
    have hxab := hxa.trans hxb
    replace c6 := hxab.cellv c6
    replace c7 := hxab.cellv c7
    replace c8 := hxab.cellv c8
    replace k2 := hxab.cellv k2
    replace k3 := hxab.cellv k3
    replace k4 := hxab.cellv k4
    have HXF := Lib.hid (HX.out.trans hxab)
    have HXG := Lib.hid (HXR.out.trans hxab)
    clear hs hc hxa hxb hxab
    by_cases q0 : s0 = u0
    case neg =>
      have d0 : (s0 != u0) = true := by rw [bne_iff_ne]; exact q0
      obtain rfl := HNO.out (fun h => q0 h.1)
      clear q0
      go_wp2_with fail
      go_quiet (fail)
      go_wp2_with fail
      go_ret
      exact ⟨rfl, HXF.out.trans (by repeat' (first | (with_reducible exact Ext.refl _) | (with_reducible assumption) | (with_reducible refine Ext.alloc ?_ _) | (with_reducible refine Ext.drewN ?_ _) | (with_reducible refine Ext.drew ?_) | (with_reducible refine Ext.trans ?_ (by assumption))))⟩
    have d0 : (s0 != u0) = false := by rw [q0]; simp
    by_cases q1 : s1 = u1
    case neg =>
      have d1 : (s1 != u1) = true := by rw [bne_iff_ne]; exact q1
      obtain rfl := HNO.out (fun h => q1 h.2.1)
      clear q0 q1
      go_wp2_with fail
      go_quiet (fail)
      go_wp2_with fail
      go_ret
      exact ⟨rfl, HXF.out.trans (by repeat' (first | (with_reducible exact Ext.refl _) | (with_reducible assumption) | (with_reducible refine Ext.alloc ?_ _) | (with_reducible refine Ext.drewN ?_ _) | (with_reducible refine Ext.drew ?_) | (with_reducible refine Ext.trans ?_ (by assumption))))⟩
    have d1 : (s1 != u1) = false := by rw [q1]; simp
    by_cases q2 : s2 = u2
    case neg =>
      have d2 : (s2 != u2) = true := by rw [bne_iff_ne]; exact q2
      obtain rfl := HNO.out (fun h => q2 h.2.2)
      clear q0 q1 q2
      go_wp2_with fail
      go_quiet (fail)
      go_wp2_with fail
      go_ret
      exact ⟨rfl, HXF.out.trans (by repeat' (first | (with_reducible exact Ext.refl _) | (with_reducible assumption) | (with_reducible refine Ext.alloc ?_ _) | (with_reducible refine Ext.drewN ?_ _) | (with_reducible refine Ext.drew ?_) | (with_reducible refine Ext.trans ?_ (by assumption))))⟩
    have d2 : (s2 != u2) = false := by rw [q2]; simp
    have HE2 : Hid (SlEq h d x (j + 1)) := Lib.hid (fun i hi => by
      by_cases e : i = j
      · subst e; exact HJ.out.1 ⟨q0, q1, q2⟩
      · exact HE.out i (by omega))
    clear q0 q1 q2
    go_wp2_with fail
    go_quiet (fail)
    go_wp2_with fail
    go_roundw
    case rel => exact ⟨j + 1, by omega, by go_num, rfl, HE2, HXG.out.trans (by repeat' (first | (with_reducible exact Ext.refl _) | (with_reducible assumption) | (with_reducible refine Ext.alloc ?_ _) | (with_reducible refine Ext.drewN ?_ _) | (with_reducible refine Ext.drew ?_) | (with_reducible refine Ext.trans ?_ (by assumption))))⟩
    case measure => simp [intOf]; omega

end Go.Proofs.Ytoadjmeopamgbaa
