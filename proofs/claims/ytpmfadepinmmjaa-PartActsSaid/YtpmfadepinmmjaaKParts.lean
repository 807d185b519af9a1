/-
  gradineref14.Parts of right hints. No condition but that the hints read.
-/
import Derived.Test.YtpmfadepinmmjaaKRef
namespace Go.Proofs.Ytpmfadepinmmjaa
open Go.RowKit

theorem bool_zero : (Try.prog.info? 4).map (fun i => (i.zero, i.size, i.bytes)) = some (some (.bool false), 1, 1) := by kernel_rfl
/-- a row of truths -/
structure BRow (w : World) (g m : Nat) (V : Nat → Bool) : Prop where
  row : ∃ cs t, w.heap[g]? = some (.cells cs t (0, 0)) ∧ ∀ j, j < m → cs[j]? = some (.bool (V j))
section
variable {w w' : World} {g m : Nat} {V : Nat → Bool}
theorem BRow.lt (h : BRow w g m V) : g < w.heap.size := by obtain ⟨cs, t, h1, _⟩ := h.row; exact (Array.getElem?_eq_some_iff.1 h1).1
theorem BRow.cell (h : BRow w g m V) {j : Nat} (hj : j < m) : w.cell? ⟨g, j, none⟩ = some (.bool (V j)) := by
  obtain ⟨cs, t, h1, h2⟩ := h.row
  exact (cell_of_row w g j cs t _ h1).trans (h2 j hj)
theorem BRow.free (h : BRow w g m V) (o : Nat) : w.frozen? ⟨g, o, none⟩ = false := by obtain ⟨cs, t, h1, _⟩ := h.row; exact frozen_row h1 o
theorem BRow.chg {S : List Nat} (h : BRow w g m V) (hx : Chg S w w') (hS : g ∉ S) : BRow w' g m V := by
  obtain ⟨cs, t, h1, h2⟩ := h.row
  exact ⟨cs, t, (hx.block _ h.lt hS).trans h1, h2⟩
theorem BRow.ext (h : BRow w g m V) (hx : Ext w w') : BRow w' g m V := h.chg (Chg.of_ext (S := []) hx) (by simp)
theorem BRow.congr {V' : Nat → Bool} (h : BRow w g m V) (hV : ∀ j, j < m → V' j = V j) : BRow w g m V' := by
  obtain ⟨cs, t, h1, h2⟩ := h.row
  exact ⟨cs, t, h1, fun j hj => by rw [hV j hj]; exact h2 j hj⟩
theorem BRow.set (h : BRow w g m V) {j : Nat} (hj : j < m) (x : Bool) {V' : Nat → Bool} (hV : ∀ k, k < m → V' k = if k = j then x else V k) : BRow (w.setCell ⟨g, j, none⟩ (.bool x)) g m V' := by
  obtain ⟨cs, t, h1, h2⟩ := h.row
  refine ⟨_, t, heap_set (o := j) h1 _, fun k hk => ?_⟩
  rw [hV k hk]
  by_cases e : k = j
  · subst e
    rw [if_pos rfl, Array.getElem?_setIfInBounds_self_of_lt (Array.getElem?_eq_some_iff.1 (h2 k hk)).1]
  · rw [if_neg e, Array.getElem?_setIfInBounds_ne (fun x => e x.symm)]
    exact h2 k hk
theorem BRow.other (h : BRow w g m V) {a : Addr} (ha : g ≠ a.block) (u : Value) : BRow (w.setCell a u) g m V := by
  obtain ⟨cs, t, h1, h2⟩ := h.row
  exact ⟨cs, t, (Below.heap_setCell _ _ _ _ ha).trans h1, h2⟩
end
theorem made1_at (z : Value) {n j : Nat} (hj : j < n) : (madeCells #[z] n).toList[j]? = some z := by
  simp only [madeCells, Array.toList_map, Array.toList_range, List.getElem?_map, List.getElem?_range hj, Option.map_some]
  show some ((#[z] : Array Value)[j % 1]!) = _
  rw [Nat.mod_one]; rfl
theorem row_own {w : World} {base n g : Nat} {e : TypeId} {z : Value} (h : w.ownsRow base e 1 (.slice (some ⟨g, 0, none⟩) n n) n (madeCells #[z] n).toList) :
    ∃ cs t, w.heap[g]? = some (.cells cs t (0, 0)) ∧ ∀ j, j < n → cs[j]? = some z := by
  obtain ⟨_, h2⟩ := h
  rcases h2 with ⟨h, _⟩ | ⟨g', cap, cur, hv, hb', hg, _, _, _, ht⟩
  · cases h
  · cases hv
    refine ⟨cur, e, hg, fun j hj => ?_⟩
    have := made1_at z hj
    rw [← ht, List.getElem?_take, if_pos (by omega)] at this
    simpa using this
theorem irow_of_own {w : World} {base : Nat} {e : TypeId} {v : Value} {l : List Int} (h : OwnI .i64 e base w v l) (h0 : 1 ≤ l.length) : ∃ g c, v = .slice (some ⟨g, 0, none⟩) l.length c ∧ l.length ≤ c ∧ base ≤ g ∧ IRow w g l.length (fun j => l.getD j 0) := by
  obtain ⟨hl, h2⟩ := h
  rcases h2 with ⟨_, e⟩ | ⟨g, cap, cur, rfl, hb, hg, hn, hm, _, ht⟩
  · omega
  · refine ⟨g, cap, rfl, hn, hb, cur, _, hg, fun j hj => ?_⟩
    have : (cellsOf .i64 l)[j]? = some (.int .i64 (l.getD j 0)) := by
      rw [List.getElem?_map, List.getElem?_eq_getElem hj]; simp [List.getD, hj]
    rw [← ht, List.getElem?_take, if_pos (by omega)] at this
    simpa using this

/-- what is left of the tiers, z behind them -/
def LV (c : Nat → Nat) (z s t : Nat) : Nat := if t < 3 then capA c s t else z - rowK c s 3
theorem LV_next (c : Nat → Nat) (z s : Nat) {t : Nat} (ht : t < 4) : LV c z (s + 1) t = LV c z s t - if t = tfK c s then 1 else 0 := by
  unfold LV
  split
  · rename_i h; exact cap_next c s h
  · obtain rfl : t = 3 := by omega
    have := row_next c s (t := 3) (by omega)
    split at this <;> (rw [this]; rename_i h; first | rw [if_pos h] | rw [if_neg h]) <;> omega
theorem row_le (c : Nat → Nat) (s t : Nat) : rowK c s t ≤ s := by
  unfold rowK tkK
  have := lfK_le c s t
  have := lfK_le c s 3
  split <;> omega
theorem LV_pos (c : Nat → Nat) {z s : Nat} (hz : s < z) : 0 < LV c z s (tfK c s) := by
  unfold LV
  split
  · rename_i h; exact tf_pos h
  · have := row_le c s 3; omega
theorem LV_zero (c : Nat → Nat) {z s t : Nat} (h : t < tfK c s) : LV c z s t = 0 := by
  have := tf_lt c s
  unfold LV
  rw [if_pos (by omega)]
  exact tf_zero h
theorem LV_le (c : Nat → Nat) (z s t : Nat) (hc : ∀ t, c t ≤ 16) (hz : z ≤ 1000) : LV c z s t ≤ 1000 := by
  unfold LV
  split
  · have := hc t; unfold capA; omega
  · omega
def OV (c : Nat → Nat) (O : Nat → Nat → Nat) (x s j : Nat) : Nat := if j / 4 = x then rowK c s (j % 4) else O (j / 4) (j % 4)
theorem OV_next (c : Nat → Nat) (O : Nat → Nat → Nat) (x s : Nat) (j : Nat) : OV c O x (s + 1) j = if j = 4 * x + tfK c s then OV c O x s (4 * x + tfK c s) + 1 else OV c O x s j := by
  have ht := tf_lt c s
  by_cases e : j = 4 * x + tfK c s
  · have h1 : j / 4 = x := by omega
    have h2 : j % 4 = tfK c s := by omega
    rw [if_pos e, ← e]
    unfold OV
    rw [if_pos h1, if_pos h1, row_next c s (by omega), if_pos h2]
  · rw [if_neg e]
    unfold OV
    by_cases h : j / 4 = x
    · have h2 : ¬ j % 4 = tfK c s := by omega
      rw [if_pos h, if_pos h, row_next c s (by omega), if_neg h2]
      rfl
    · rw [if_neg h, if_neg h]
theorem OV_le (c : Nat → Nat) (O : Nat → Nat → Nat) (x s j : Nat) (hs : s ≤ 32) (hO : ∀ i t, O i t ≤ 32) : OV c O x s j ≤ 32 := by
  unfold OV
  split
  · exact Nat.le_trans (row_le _ _ _) hs
  · exact hO _ _
theorem stK_le (S c : Nat → Nat) (hS : ∀ i, S i ≤ 32) (M : List Nat) (i t : Nat) : (stK S c M).2 i t ≤ 32 := by
  have key : ∀ (M : List Nat) (st : (Nat → Nat) × (Nat → Nat → Nat)), (∀ i t, st.2 i t ≤ 32) → ∀ i t, (M.foldl (stp S) st).2 i t ≤ 32 := by
    intro M
    induction M with
    | nil => intro st h; exact h
    | cons x M ih =>
      intro st h
      rw [List.foldl_cons]
      refine ih _ (fun i t => ?_)
      show (if i = x ∧ t < 4 then rowK st.1 (S x) t else st.2 i t) ≤ 32
      split
      · exact Nat.le_trans (row_le _ _ _) (hS x)
      · exact h i t
  exact key M _ (fun _ _ => by simp) i t

theorem stK_out (S c : Nat → Nat) (M : List Nat) (x : Nat) (h : x ∉ M) (t : Nat) : (stK S c M).2 x t = 0 := by
  have key : ∀ (M : List Nat) (st : (Nat → Nat) × (Nat → Nat → Nat)), x ∉ M → st.2 x t = 0 → (M.foldl (stp S) st).2 x t = 0 := by
    intro M
    induction M with
    | nil => intro st _ h; exact h
    | cons y M ih =>
      intro st hx h0
      rw [List.foldl_cons]
      refine ih _ (fun h => hx (List.mem_cons_of_mem _ h)) ?_
      show (if x = y ∧ t < 4 then rowK st.1 (S y) t else st.2 x t) = 0
      rw [if_neg (show ¬ (x = y ∧ t < 4) from fun h => hx (by rw [h.1]; exact List.mem_cons_self))]
      exact h0
  exact key M _ h rfl
theorem stK_le' {n : Nat} {F : Nat → Nat → Int} {c : Nat → Nat} {M : List Nat} (ok : FrOk n F) (hM : Ord (kT n F) (kB n F) n M) (k i t : Nat) : (stK (kS F) c (M.take k)).2 i t ≤ 32 := by
  by_cases hi : i < n
  · have key : ∀ (N : List Nat) (st : (Nat → Nat) × (Nat → Nat → Nat)), (∀ y ∈ N, y < n) → (st.2 i t ≤ 32) → (N.foldl (stp (kS F)) st).2 i t ≤ 32 := by
      intro N
      induction N with
      | nil => intro st _ h; exact h
      | cons y N ih =>
        intro st hN h
        rw [List.foldl_cons]
        refine ih _ (fun z hz => hN z (List.mem_cons_of_mem _ hz)) ?_
        show (if i = y ∧ t < 4 then rowK st.1 (kS F y) t else st.2 i t) ≤ 32
        split
        · have := ok y (hN y List.mem_cons_self)
          have := row_le st.1 (kS F y) t
          unfold kS at *
          omega
        · exact h
    exact key _ _ (fun y hy => hM.lt (List.mem_of_mem_take hy)) (by simp)
  · rw [stK_out _ _ _ _ (fun h => hi (hM.lt (List.mem_of_mem_take h)))]
    omega
theorem ord_next {T B : Nat → Int} {n k : Nat} {M : List Nat} (hM : Ord T B n M) (hk : k < n) : M.getD k 0 ∉ M.take k ∧ ∀ j, j ∈ M.take (k + 1) ↔ j ∈ M.take k ∨ j = M.getD k 0 := by
  have hkm : k < M.length := by have := hM.len; omega
  have hg : M.getD k 0 = M[k] := by simp [List.getD, hkm]
  have hnd := ord_nodup hM
  rw [hg]
  refine ⟨fun h => ?_, fun j => by rw [List.take_succ_eq_append_getElem hkm, List.mem_append, List.mem_singleton]⟩
  have hsp : M = M.take k ++ M[k] :: M.drop (k + 1) := by rw [← List.drop_eq_getElem_cons hkm, List.take_append_drop]
  rw [hsp] at hnd
  exact (List.nodup_append.1 hnd).2.2 _ h _ List.mem_cons_self rfl
set_option maxRecDepth 100000 in
set_option maxHeartbeats 16000000 in
theorem rparts (v : Value) (n : Nat) (F : Nat → Nat → Int) (L : Nat → Bool) (c : Nat → Nat) (M : List Nat) (w : World) (h : RdH w v n F L) (ok : FrOk n F) (hn : n ≤ 8) (hc : ∀ t, c t ≤ 16) (hM : Ord (kT n F) (kB n F) n M) :
    Calls Try.prog 36 #[v, .agg #[.int .i64 (c 0 : Nat), .int .i64 (c 1 : Nat), .int .i64 (c 2 : Nat)]] w fun e w' => ∃ g, e = .returned (.slice (some ⟨g, 0, none⟩) (n * 4) (n * 4)) ∧ IRow w' g (n * 4) (fun j => (PR F c M (j / 4) (j % 4) : Nat)) ∧ w.heap.size ≤ g ∧ Ext w w' := by
  have HOK := Lib.hid ok
  have HC := Lib.hid hc
  have HM := Lib.hid hM
  have HD := Lib.hid (fun w' (hx : Ext w w') => rdenser v n F L w' (h.ext hx) ok hn)
  obtain ⟨i0, hi, hz0, hz1, hz2⟩ := info_parts kints_info
  obtain ⟨j0, hj, hy0, hy1, hy2⟩ := info_parts bool_zero
  obtain ⟨sa, sc, rfl, hsc, hsm, _, hs⟩ := h
  have HS := Lib.hid hs
  have hn63 : (n : Int) ≤ 8 := by omega
  clear ok hc hs hsc hsm hM
  go_enter Try.func36, Try.ntmps36
  go_upto_region 1 with fail
  have hx0 : Ext w (w.alloc (.cells #[.int .i64 (c 0 : Nat), .int .i64 (c 1 : Nat), .int .i64 (c 2 : Nat)] 23)) := (Ext.refl w).alloc _
  have z0 := cell_new w #[.int .i64 (c 0 : Nat), .int .i64 (c 1 : Nat), .int .i64 (c 2 : Nat)] 23 (0, 0) (j := 0) rfl
  have z1 := cell_new w #[.int .i64 (c 0 : Nat), .int .i64 (c 1 : Nat), .int .i64 (c 2 : Nat)] 23 (0, 0) (j := 1) rfl
  have z2 := cell_new w #[.int .i64 (c 0 : Nat), .int .i64 (c 1 : Nat), .int .i64 (c 2 : Nat)] 23 (0, 0) (j := 2) rfl
  generalize (w.alloc (.cells #[.int .i64 (c 0 : Nat), .int .i64 (c 1 : Nat), .int .i64 (c 2 : Nat)] 23)) = w0 at *
  obtain ⟨pc, hpc⟩ : ∃ pc, pc = w.heap.size := ⟨_, rfl⟩
  rw [← hpc] at z0 z1 z2 ⊢
  clear hpc
  go_wp2_with (at_make; refine wpList_make_full _ rfl _ _ 41 rfl w0.heap.size 3 i0 (.int .i64 0) 1 Try.underlying41 hi hz0 hz1 .i64 .i64 _ _ (n * 4) rfl rfl (by omega) (by omega) (by rw [hz2]; omega) (by unfold maxLen; omega) (Nat.le_refl _) ?_)
  intro w1 ho1 hg1
  have hx1 : Ext w0 w1 := (Ext.refl _).grown hg1 (Nat.le_refl _) (fun k hk => by cases hk)
  have R1 := row_own ho1
  obtain ⟨g, hg⟩ : ∃ g, g = w0.heap.size := ⟨_, rfl⟩
  rw [← hg] at R1 ⊢
  have hR1 : IRow w1 g (n * 4) (fun _ => 0) := ⟨R1⟩
  have HR1 := Lib.hid hR1
  have hwg : w.heap.size ≤ g := by have := hx0.size; omega
  clear ho1 hg1 R1 hR1 hg
  go_wp2_with (at_make; refine wpList_make_full _ rfl _ _ 99 rfl w1.heap.size 4 j0 (.bool false) 1 Try.underlying99 hj hy0 hy1 .i64 .i64 _ _ n rfl rfl rfl rfl (by rw [hy2]; omega) (by unfold maxLen; omega) (Nat.le_refl _) ?_)
  intro w2 ho2 hg2
  have hx2 : Ext w1 w2 := (Ext.refl _).grown hg2 (Nat.le_refl _) (fun k hk => by cases hk)
  have R2 := row_own ho2
  obtain ⟨d, hd⟩ : ∃ d, d = w1.heap.size := ⟨_, rfl⟩
  rw [← hd] at R2 ⊢
  have hR2 : BRow w2 d n (fun _ => false) := ⟨R2⟩
  have HR2 := Lib.hid hR2
  have hgd : g < d := by have := HR1.out.lt; omega
  have hX2 := hx1.trans hx2
  have z0 := hX2.cellv z0
  have z1 := hX2.cellv z1
  have z2 := hX2.cellv z2
  clear ho2 hg2 R2 hR2 hd
  have hb0 := HC.out 0
  have hb1 := HC.out 1
  have hb2 := HC.out 2
  go_wp2_with (at_builtin; refine wpList_append_ints rfl _ _ 41 rfl 3 .i64 0 8 Try.underlying41 kints_info (by decide) w2 (by repeat' (first | (with_reducible exact Ext.refl _) | (with_reducible assumption) | (with_reducible refine Ext.alloc ?_ _) | (with_reducible refine Ext.drewN ?_ _) | (with_reducible refine Ext.drew ?_) | (with_reducible refine Ext.trans ?_ (by assumption)))) _ [] rfl ((OwnI.nil .i64 3 _ _).ext (by repeat' (first | (with_reducible exact Ext.refl _) | (with_reducible assumption) | (with_reducible refine Ext.alloc ?_ _) | (with_reducible refine Ext.drewN ?_ _) | (with_reducible refine Ext.drew ?_) | (with_reducible refine Ext.trans ?_ (by assumption))))) _ [(c 0 : Int), (c 1 : Int), (c 2 : Int), 1000] rfl (RdI.lit .i64 w2 [(c 0 : Int), (c 1 : Int), (c 2 : Int), 1000] 3 (by simp [maxLen])) (by unfold Fits; simp) ?_)
  intro v3 w3 ho3 hx3
  obtain ⟨lf, cl, rfl, hcl, hlb, hR3⟩ := irow_of_own ho3 (by simp)
  have hZ : IRow w3 lf 4 (fun t => (LV c 1000 0 t : Nat)) := hR3.congr (fun t ht => by
    have ht4 : t < 4 := ht
    have : t = 0 ∨ t = 1 ∨ t = 2 ∨ t = 3 := by omega
    unfold LV
    rcases this with rfl | rfl | rfl | rfl
    · rw [if_pos (by omega), cap_zero]; rfl
    · rw [if_pos (by omega), cap_zero]; rfl
    · rw [if_pos (by omega), cap_zero]; rfl
    · rw [if_neg (by omega), row_zero]; rfl)
  have HZ := Lib.hid hZ
  have hdl : d < lf := Nat.lt_of_lt_of_le HR2.out.lt hlb
  have hX3 := hX2.trans hx3
  have hX0 := hx0.trans hX3
  have HG3 := Lib.hid (HR1.out.ext (hx2.trans hx3))
  have HD3 := Lib.hid (HR2.out.ext hx3)
  have hgl : g ≠ lf := by omega
  have hgd' : g ≠ d := by omega
  have hdl' : d ≠ lf := by omega
  clear ho3 hR3 hZ z0 z1 z2 hb0 hb1 hb2 HR1 HR2 hx1 hx2 hx3 hX2 hX3
  go_wp2_with fail
  go_loopw [8] (fun ci wr => ∃ k : Nat, k ≤ n ∧ ci = .int .i64 k ∧ Hid (IRow wr g (n * 4) (fun j => ((stK (kS F) c (M.take k)).2 (j / 4) (j % 4) : Nat))) ∧ Hid (BRow wr d n (fun j => decide (j ∈ M.take k))) ∧ Hid (∃ z, 1000 ≤ z + 32 * k ∧ z ≤ 1000 ∧ IRow wr lf 4 (fun t => (LV (stK (kS F) c (M.take k)).1 z 0 t : Nat))) ∧ Hid (Chg [g, d, lf] w3 wr)) (fun ci _ => n - (intOf ci).toNat)
  case atStart => exact ⟨0, Nat.zero_le _, rfl, Lib.hid (by rw [List.take_zero]; exact HG3.out), Lib.hid (HD3.out.congr (fun j _ => by simp)), Lib.hid ⟨1000, by omega, by omega, by rw [List.take_zero]; exact HZ.out⟩, Lib.hid (Chg.refl _ _)⟩
  case round =>
    obtain ⟨k, hk, rfl, HG, HB, HL, HCH⟩ := hrel
    clear HG3 HD3 HZ
    by_cases hlt : k < n
    --[[A
    · have hki : (k : Int) < (n : Int) := by omega
      have hTk : (M.take k).length = k := by rw [List.length_take, HM.out.len]; omega
      obtain ⟨D, hD⟩ : ∃ D : Nat → Bool, D = fun j => decide (j ∈ M.take k) := ⟨_, rfl⟩
      have HDM : Hid (∀ j, j < n → (D j = true ↔ j ∈ M.take k)) := Lib.hid (fun j _ => by rw [hD]; simp)
      have HB' : Hid (BRow wr d n D) := Lib.hid (by rw [hD]; exact HB.out)
      clear HB hD hTk
      obtain ⟨wo, rfl⟩ : ∃ wo : World, wo = wr := ⟨_, rfl⟩
      go_wp2_with fail
      go_loopw [9, 10] (fun cb ci ws => ∃ (i : Nat) (b : Int), i ≤ n ∧ ci = .int .i64 i ∧ cb = .int .i64 b ∧ SelS (kT n F) (kB n F) D i b ∧ Ext wo ws) (fun _ ci _ => n - (intOf ci).toNat)
      case atStart => exact ⟨0, -1, Nat.zero_le _, rfl, rfl, SelS.zero, Ext.refl _⟩
      case round =>
        obtain ⟨i, b, hi', rfl, rfl, hS, hxs⟩ := hrel
        have HSS := Lib.hid hS
        clear hS
        by_cases hlt2 : i < n
        --[[B
        · have hii : (i : Int) < (n : Int) := by omega
          have hi0 : (0 : Int) ≤ (i : Int) := by omega
          have y0 := (HB'.out.ext hxs).cell hlt2
          cases hDi : D i with
          | true =>
            rw [hDi] at y0
            have HN := Lib.hid (HSS.out.done hDi)
            clear hDi
            go_wp2_with fail
            go_roundw
            case rel => exact ⟨i + 1, b, by omega, by go_num, rfl, HN.out, hxs⟩
            case measure => simp [intOf]; omega
          | false =>
            rw [hDi] at y0
            by_cases hb : b < 0
            · have HN := Lib.hid (HSS.out.first hDi hb)
              clear hDi
              go_wp2_with fail
              go_roundw
              case rel => exact ⟨i + 1, i, by omega, by go_num, rfl, HN.out, hxs⟩
              case measure => simp [intOf]; omega
            · obtain ⟨x, rfl, hxi, _⟩ := HSS.out.get hb
              obtain ⟨r, hr⟩ : ∃ r, decide (bf (kT n F) (kB n F) i x) = r := ⟨_, rfl⟩
              have HDD := Lib.hid (fun w' hx => HD.out w' hx i x hlt2 (by omega) r hr)
              have hbd : decide ((x : Int) < 0) = false := decide_eq_false hb
              have hxw := (Ext.chg hX0 HCH.out (by simp; omega)).trans hxs
              cases r with
              | true =>
                have HN := Lib.hid (HSS.out.more (kB_pos HOK.out) hDi (of_decide_eq_true hr))
                clear hDi hr hb
                go_wp2_with fail
                refine (HDD.out _ hxw).mono ?_
                rintro e wa ⟨rfl, hxa⟩
                go_wp2_with fail
                refine ⟨?_, ?measure⟩
                (repeat apply Exists.intro)
                refine ⟨?rel, rfl⟩
                case rel => exact ⟨i + 1, i, by omega, by go_num, rfl, HN.out, hxs.trans hxa⟩
                case measure => simp [intOf]; omega
              | false =>
                have HN := Lib.hid (HSS.out.less (of_decide_eq_false hr))
                clear hDi hr hb
                go_wp2_with fail
                refine (HDD.out _ hxw).mono ?_
                rintro e wa ⟨rfl, hxa⟩
                go_wp2_with fail
                refine ⟨?_, ?measure⟩
                (repeat apply Exists.intro)
                refine ⟨?rel, rfl⟩
                case rel => exact ⟨i + 1, x, by omega, by go_num, rfl, HN.out, hxs.trans hxa⟩
                case measure => simp [intOf]; omega
        --]]
        --[[C
        · obtain rfl : i = n := by omega
          obtain rfl := HSS.out.next HM.out hlt HDM.out
          clear HSS
          have hxn : M.getD k 0 < i := HM.out.lt (by rw [List.getD_eq_getElem?_getD, List.getElem?_eq_getElem (by have := HM.out.len; omega)]; exact List.getElem_mem _)
          have hstk := stK_succ (kS F) c M (k := k) (by have := HM.out.len; omega)
          have hnx := ord_next HM.out hlt
          obtain ⟨x, hx⟩ : ∃ x, x = M.getD k 0 := ⟨_, rfl⟩
          rw [← hx] at hxn hstk hnx ⊢
          clear hx
          have hxw : Ext w wr := (Ext.chg hX0 HCH.out (by simp; omega)).trans hxs
          obtain ⟨bb, o, rfl, hbb, hcell⟩ := HS.out (by omega)
          have y1 := (hxw.cell hbb).trans (hcell x 1 hxn (by omega))
          obtain ⟨f1, f2, _⟩ := HOK.out x hxn
          have hsz : F x 1 = ((kS F x : Nat) : Int) := by unfold kS; omega
          have hs32 : kS F x ≤ 32 := by omega
          simp only [Proofs.Ytpmfadepinmmjaa.HV, ← Nat.add_assoc, if_pos (show (1 : Nat) < 3 by omega), hsz] at y1
          unfold stp at hstk
          obtain ⟨S, hS⟩ : ∃ s, s = kS F x := ⟨_, rfl⟩
          rw [← hS] at y1 hs32 hstk
          obtain ⟨st, hst⟩ : ∃ st, st = stK (kS F) c (M.take k) := ⟨_, rfl⟩
          have hst0 : ∀ t, st.2 x t = 0 := fun t => by rw [hst]; exact stK_out _ _ _ _ hnx.1 t
          have hst32 : ∀ i t, st.2 i t ≤ 32 := fun i' t => by rw [hst]; exact stK_le' HOK.out HM.out k i' t
          have hcl : ∀ t, st.1 t ≤ 16 := fun t => by rw [hst]; exact Nat.le_trans (cap_le _ _ _ _) (HC.out t)
          rw [← hst] at hstk
          obtain ⟨z, hz1', hz2', hLf⟩ := HL.out
          rw [← hst] at hLf
          have HG' : Hid (IRow wr g (i * 4) (fun j => (OV st.1 st.2 x 0 j : Nat))) := Lib.hid ((HG.out.ext hxs).congr (fun j hj => by
            rw [← hst]; unfold OV
            by_cases e : j / 4 = x
            · rw [if_pos e, row_zero, e, hst0]
            · rw [if_neg e]))
          have HL' : Hid (IRow wr lf 4 (fun t => (LV st.1 z 0 t : Nat))) := Lib.hid (hLf.ext hxs)
          have HB2 := Lib.hid (HB'.out.ext hxs)
          have HSTK := Lib.hid hstk
          have H32 := Lib.hid hst32
          have HCL := Lib.hid hcl
          have HDN : Hid (∀ j, j < i → decide (j ∈ M.take (k + 1)) = if j = x then true else D j) := Lib.hid (fun j hj => by
            have := HDM.out j hj
            by_cases e : j = x
            · subst e; rw [if_pos rfl]; exact decide_eq_true (hnx.2 j |>.2 (.inr rfl))
            · rw [if_neg e, Bool.eq_iff_iff, this, decide_eq_true_iff, hnx.2 j]
              exact ⟨fun h => h.elim id (fun h => absurd h e), .inl⟩)
          have hxi : (x : Int) < (i : Int) := by omega
          have hx0' : (0 : Int) ≤ (x : Int) := by omega
          have u0 := HB2.out.cell hxn
          have f0 := HB2.out.free x
          have hz32 : 700 ≤ z := by omega
          have HZ1 := Lib.hid hz1'
          have hS64 : (S : Int) ≤ 32 := by omega
          obtain ⟨dx, hdx⟩ : ∃ y, D x = y := ⟨_, rfl⟩
          rw [hdx] at u0
          clear hstk hst hS hsz f1 f2 hcell hnx hst0 hst32 hcl hLf HG HB' HL HDM hdx hz1'
          obtain ⟨wp, rfl⟩ : ∃ wp : World, wp = wr := ⟨_, rfl⟩
          go_wp2_with fail
          go_loopw [11] (fun cs wt => ∃ s : Nat, s ≤ S ∧ cs = .int .i64 s ∧ Hid (IRow wt g (i * 4) (fun j => (OV st.1 st.2 x s j : Nat))) ∧ Hid (BRow wt d i (fun j => decide (j ∈ M.take (k + 1)))) ∧ Hid (IRow wt lf 4 (fun t => (LV st.1 z s t : Nat))) ∧ Hid (Chg [g, d, lf] w3 wt)) (fun cs _ => S - (intOf cs).toNat)
          case atStart => exact ⟨0, Nat.zero_le _, rfl, Lib.hid (HG'.out.other hgd' _), Lib.hid (HB2.out.set hxn true HDN.out), Lib.hid (HL'.out.other (Ne.symm hdl') _), Lib.hid ((HCH.out.ext hxs).trans (by repeat' (first | (with_reducible exact Chg.refl _ _) | (with_reducible assumption) | (with_reducible refine Chg.drewN ?_ _) | (with_reducible refine Chg.drew ?_) | (with_reducible refine Chg.alloc ?_ _) | (with_reducible refine Chg.setCell ?_ (.inl (by simp)) _) | (with_reducible refine Chg.trans ?_ (by assumption)) | (with_reducible refine Chg.ext ?_ (by assumption)))))⟩
          case round =>
            clear HG' HL' HB2 u0 f0
            obtain ⟨s, hs, rfl, HG, HB, HL, HC3⟩ := hrel
            have hxt : Ext w wr := Ext.chg hX0 HC3.out (by simp; omega)
            have y1 := (hxt.cell hbb).trans ((hxw.cell hbb).symm.trans y1)
            by_cases hlt3 : s < S
            --[[D
            · have hsi : (s : Int) < (S : Int) := by omega
              have htf := tf_lt st.1 s
              have hpp := LV_pos st.1 (z := z) (s := s) (by omega)
              have hpz : ∀ t, t < tfK st.1 s → LV st.1 z s t = 0 := fun t h => LV_zero st.1 h
              have hpl := LV_le st.1 z s (tfK st.1 s) HCL.out (by omega)
              have hol := OV_le st.1 st.2 x s (4 * x + tfK st.1 s) (by omega) H32.out
              have hG2 : ∀ w', IRow w' g (i * 4) (fun j => (OV st.1 st.2 x s j : Nat)) → IRow (w'.setCell ⟨g, 4 * x + tfK st.1 s, none⟩ (.int .i64 ((OV st.1 st.2 x s (4 * x + tfK st.1 s) : Nat) + 1))) g (i * 4) (fun j => (OV st.1 st.2 x (s + 1) j : Nat)) := fun w' hh => hh.set (by omega) _ (fun j hj => by
                rw [OV_next]; split <;> rfl)
              have hL2 : ∀ w', IRow w' lf 4 (fun t => (LV st.1 z s t : Nat)) → IRow (w'.setCell ⟨lf, tfK st.1 s, none⟩ (.int .i64 ((LV st.1 z s (tfK st.1 s) : Nat) - 1))) lf 4 (fun t => (LV st.1 z (s + 1) t : Nat)) := fun w' hh => hh.set htf _ (fun t ht => by
                rw [LV_next _ _ _ ht]
                by_cases e : t = tfK st.1 s
                · rw [if_pos e, if_pos e, e]; omega
                · rw [if_neg e, if_neg e]; rfl)
              have q0 := HL.out.cell htf
              have q1 := HG.out.cell (show 4 * x + tfK st.1 s < i * 4 by omega)
              have g0 := HL.out.free (tfK st.1 s)
              have g1 := HG.out.free (4 * x + tfK st.1 s)
              have HG2 := Lib.hid hG2
              have HL2 := Lib.hid hL2
              have HZC : Hid (∀ t, t < tfK st.1 s → wr.cell? ⟨lf, t, none⟩ = some (.int .i64 0)) := Lib.hid (fun t ht => by have := HL.out.cell (show t < 4 by omega); rw [hpz t ht] at this; exact this)
              obtain ⟨T, hT⟩ : ∃ T, T = tfK st.1 s := ⟨_, rfl⟩
              rw [← hT] at htf hpp hpl hol q0 q1 g0 g1 HG2 HL2 HZC
              obtain ⟨P, hP⟩ : ∃ P, P = LV st.1 z s T := ⟨_, rfl⟩
              rw [← hP] at hpp hpl q0 HL2
              obtain ⟨Q, hQ⟩ : ∃ Q, Q = OV st.1 st.2 x s (4 * x + T) := ⟨_, rfl⟩
              rw [← hQ] at hol q1 HG2
              have hP0 : ((P : Int) == 0) = false := by rw [beq_eq_false_iff_ne]; omega
              clear hG2 hL2 hpz hT hP hQ
              obtain ⟨wq, rfl⟩ : ∃ wq : World, wq = wr := ⟨_, rfl⟩
              go_wp2_with fail
              go_loopw [12] (fun ct wu => ∃ t : Nat, t ≤ T ∧ ct = .int .i64 t ∧ wu = wq) (fun ct _ => 4 - (intOf ct).toNat)
              case atStart => exact ⟨0, Nat.zero_le _, rfl, rfl⟩
              case round =>
                obtain ⟨t, ht, rfl, rfl⟩ := hrel
                by_cases hlt4 : t < T
                · have q := HZC.out t hlt4
                  have hti : (t : Int) < 4 := by omega
                  have ht0 : (0 : Int) ≤ (t : Int) := by omega
                  go_wp2_with fail
                  go_roundw
                  case rel => first | exact ⟨t + 1, by omega, by go_num, by trivial⟩ | exact ⟨t + 1, by omega, by go_num⟩
                  case measure => simp [intOf]; omega
                · obtain rfl : t = T := by omega
                  have hti : (t : Int) < 4 := by omega
                  have ht0 : (0 : Int) ≤ (t : Int) := by omega
                  have hidx : (4 * (x : Int) + (t : Int)) < ((i * 4 : Nat) : Int) := by omega
                  have hidx0 : (0 : Int) ≤ (4 * (x : Int) + (t : Int)) := by omega
                  have htn : (4 * (x : Int) + (t : Int)).toNat = 4 * x + t := by omega
                  go_wp2_with fail
                  go_roundw
                  case rel => exact ⟨s + 1, by omega, by go_num, Lib.hid (HG2.out _ (HG.out.other hgl _)), Lib.hid ((HB.out.other hdl' _).other (Ne.symm hgd') _), Lib.hid ((HL2.out _ HL.out).other (Ne.symm hgl) _), Lib.hid (HC3.out.trans (by repeat' (first | (with_reducible exact Chg.refl _ _) | (with_reducible assumption) | (with_reducible refine Chg.drewN ?_ _) | (with_reducible refine Chg.drew ?_) | (with_reducible refine Chg.alloc ?_ _) | (with_reducible refine Chg.setCell ?_ (.inl (by simp)) _) | (with_reducible refine Chg.trans ?_ (by assumption)) | (with_reducible refine Chg.ext ?_ (by assumption)))))⟩
                  case measure => simp [intOf]; omega
            --]]
            --[[E
            · obtain rfl : s = S := by omega
              go_wp2_with fail
              go_roundw
              case rel =>
                refine ⟨k + 1, by omega, by go_num, Lib.hid (HG.out.congr (fun j hj => ?_)), HB, Lib.hid ⟨z - rowK st.1 s 3, ?_, by omega, HL.out.congr (fun t ht => ?_)⟩, HC3⟩
                · rw [HSTK.out]
                  show ((if j / 4 = x ∧ j % 4 < 4 then rowK st.1 s (j % 4) else st.2 (j / 4) (j % 4) : Nat) : Int) = (OV st.1 st.2 x s j : Nat)
                  unfold OV
                  by_cases e : j / 4 = x
                  · rw [if_pos e, if_pos (by omega)]
                  · rw [if_neg e, if_neg (by omega)]
                · have := row_le st.1 s 3
                  have := HZ1.out
                  omega
                · rw [HSTK.out]
                  unfold LV
                  by_cases e : t < 3
                  · rw [if_pos e, if_pos e, cap_zero]
                    show ((if t < 3 then capA st.1 s t else st.1 t : Nat) : Int) = _
                    rw [if_pos e]
                  · rw [if_neg e, if_neg e, row_zero]; rfl
              case measure => simp [intOf]; omega
            --]]
        --]]
    --]]
    --[[Z
    · obtain rfl : k = n := by omega
      have HTK := HM.out.len
      have HR' := HG.out
      rw [List.take_of_length_le (by omega)] at HR'
      have HR2 := Lib.hid HR'
      clear HTK HR'
      go_wp2_with fail
      go_ret
      exact ⟨g, rfl, HR2.out, hwg, Ext.chg hX0 HCH.out (by simp; omega)⟩
    --]]
end Go.Proofs.Ytpmfadepinmmjaa
