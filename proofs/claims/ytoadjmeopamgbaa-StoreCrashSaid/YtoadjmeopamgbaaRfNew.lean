/-
  gradineref06.New. No condition but that the shape may be.
-/
import Derived.Test.YtoadjmeopamgbaaRfLaw
import Derived.Test.YtoadjmeopamgbaaInts2
import Derived.Deep.AppendLies
import Derived.Deep.RegionLaw
namespace Go.Proofs.Ytoadjmeopamgbaa
open Go.RowKit

theorem Ext.frz {w w' : World} (h : Ext w w') {b o : Nat} {u : Value} (hc : w.cell? ⟨b, o, none⟩ = some u) (hf : w.frozen? ⟨b, o, none⟩ = false) : w'.frozen? ⟨b, o, none⟩ = false := (Below.frozen (p := ⟨b, o, none⟩) h (cell_lt hc)).trans hf
theorem NewAt.stepx {a w w1 w2 : World} {ps : Nat} {B S C K : Int} {t : TypeId} {Z : List Int} {V : Nat → Value} {X : Nat → List Value} (h : NewAt w ps B S C K t Z V X) (hX : Ext a w1) (ha : a.heap.size ≤ ps) {j : Nat} (hj : j < 5) (hg : w1.grownBy w2 (V j).ownBlock) (v' : Value) : Ext a (w2.setCell ⟨ps, 4 + j, none⟩ v') :=
  Ext.chg (S := [ps]) (hX.grown hg hX.size (fun q hq => by have := ((h.own j hj).lt q hq).1; omega)) (chg_one _ _ _ _) (by simpa using ha)
theorem new_start (w : World) (B S C K : Int) (t : TypeId) (Z : List Int) : NewAt (w.alloc (.cells #[.int .i64 B, .int .i64 S, .int .i64 C, .int .i64 K, .slice none 0 0, .slice none 0 0, .slice none 0 0, .slice none 0 0, .slice none 0 0] t (0, 0))) w.heap.size B S C K t Z (fun _ => .slice none 0 0) (fun _ => []) := by
  refine ⟨⟨_, heap_alloc_new w _, rfl, rfl, rfl, rfl, fun j hj => ?_⟩, fun j hj => World.ownsRow_nil _ _ _ _, fun i j g hi hj hg => (by cases hg), fun j hj h1 u hu => (by cases hu), fun u hu => (by cases hu)⟩
  match j, hj with
  | 0, _ => rfl
  | 1, _ => rfl
  | 2, _ => rfl
  | 3, _ => rfl
  | 4, _ => rfl
/-- a row grown by an integer, and set -/
theorem NewAt.stepI {w : World} {ps : Nat} {B S C K : Int} {t : TypeId} {Z : List Int} {V : Nat → Value} {X : Nat → List Value} (h : NewAt w ps B S C K t Z V X) (e : TypeId) {j : Nat} (hj : j < 5) (h1 : j ≠ 1) {g cap n : Nat} {v : Value} (hv : v = V j) {xs : List Value} (hxs : xs = X j) (hn : n = xs.length + 1) {w2 : World} (ho : w2.ownsRow (ps + 1) 3 1 (.slice (some ⟨g, 0, none⟩) n cap) n (xs ++ [.int .i64 0]))
    (hg : (w.alloc (.cells #[.int .i64 0] e)).grownBy w2 v.ownBlock) (hat : v.ownBlock = some g ∨ g = w.heap.size + 1) {a : World} (hX : Ext a w) (ha : a.heap.size ≤ ps) :
    Hid (NewAt (w2.setCell ⟨ps, 4 + j, none⟩ (.slice (some ⟨g, 0, none⟩) n cap)) ps B S C K t Z (updF V j (.slice (some ⟨g, 0, none⟩) n cap)) (updF X j (X j ++ [.int .i64 0]))) ∧ Ext a (w2.setCell ⟨ps, 4 + j, none⟩ (.slice (some ⟨g, 0, none⟩) n cap)) ∧ w2.cell? ⟨ps, 4 + j, none⟩ = some v ∧ w2.frozen? ⟨ps, 4 + j, none⟩ = false := by
  subst hv hxs
  have hx1 : Ext w (w.alloc (.cells #[.int .i64 0] e)) := (Ext.refl w).alloc _
  have hps : (V j).ownBlock ≠ some ps := fun e => by have := ((h.own j hj).lt _ e).1; omega
  refine ⟨Lib.hid (h.step hx1 hj hn (by unfold eR; rw [if_neg h1]; exact ho) hg (by simpa using hat) (fun _ => rfl) (fun e => absurd e h1)), h.stepx (hX.alloc _) ha hj hg _, ?_, ?_⟩
  · exact hg.cell (hx1.cellv (h.cell hj).1) (fun e => hps e.symm)
  · obtain ⟨cs, hr, _⟩ := h.row
    have := (hg.block ps (Nat.lt_of_lt_of_le h.lt hx1.size) (fun e => hps e.symm)).trans ((Below.block hx1 ps h.lt).trans hr)
    exact frozen_row this _
/-- the data grown by a text of noughts, and set -/
theorem NewAt.stepD {w : World} {ps S : Nat} {B S' C K : Int} {t : TypeId} {V : Nat → Value} {X : Nat → List Value} (h : NewAt w ps B S' C K t (List.replicate S 0) V X) {g cap n : Nat} {v : Value} (hv : v = V 1) {xs : List Value} (hxs : xs = X 1) (hn : n = xs.length) {w1 w2 : World} (ho : w2.ownsRow (ps + 1) 36 1 (.slice (some ⟨g, 0, none⟩) (n + 1) cap) (n + 1) (xs ++ [.slice (some ⟨w.heap.size, 0, none⟩) S S]))
    (hg : w1.grownBy w2 v.ownBlock) (hat : v.ownBlock = some g ∨ g = w.heap.size + 2) (hsz : w1.heap.size = w.heap.size + 2) (hS : S ≤ 64) (hx : Ext w w1) (hxm : Ext (w.alloc (.cells (Array.replicate S (.int .u8 0)) 5)) w1) {a : World} (hX : Ext a w) (ha : a.heap.size ≤ ps) :
    Hid (NewAt (w2.setCell ⟨ps, 5, none⟩ (.slice (some ⟨g, 0, none⟩) (n + 1) cap)) ps B S' C K t (List.replicate S 0) (updF V 1 (.slice (some ⟨g, 0, none⟩) (n + 1) cap)) (updF X 1 (X 1 ++ [.slice (some ⟨w.heap.size, 0, none⟩) S S]))) ∧ Ext a (w2.setCell ⟨ps, 5, none⟩ (.slice (some ⟨g, 0, none⟩) (n + 1) cap)) := by
  subst hv hxs hn
  refine ⟨Lib.hid (h.step hx (j := 1) (by omega) rfl ho hg (by rw [hsz]; exact hat) (fun e => absurd rfl e) (fun _ => ⟨(own_zeros S w (base := 0) (by omega) hS).rd.ext hxm, fun q hq => ?_⟩)), h.stepx (j := 1) (hX.trans hx) ha (by omega) hg _⟩
  have e : w.heap.size = q := by simpa [Value.ownBlock] using hq
  omega
theorem refz_run (w : World) : (zeroValue 70).run Try.prog w = .ok (.agg #[.int .i64 0, .int .i64 0, .int .i64 0, .int .i64 0, .slice none 0 0, .slice none 0 0, .slice none 0 0, .slice none 0 0, .slice none 0 0]) w := by kernel_rfl

set_option maxRecDepth 100000 in
set_option maxHeartbeats 4000000 in
theorem rnew06 (h : Sh) (ok : h.Ok) (w : World) :
    Calls Try.prog 13 #[.int .i64 h.b, .int .i64 h.s, .int .i64 h.c, .int .i64 h.k] w fun e w' => ∃ (ps : Nat) (g : Nat → Nat), e = .returned (.pointer (some ⟨ps, 0, none⟩)) ∧ w.heap.size ≤ ps ∧ ps < w'.heap.size ∧ (∀ j, j < 5 → ps < g j ∧ g j < w'.heap.size) ∧ (∀ F, ps ∈ F → (∀ j, j < 5 → g j ∈ F) → (∀ f ∈ F, f ≤ ps ∨ ∃ j, j < 5 ∧ f = g j) → RefAt w' F ps g h (rX0 h)) ∧ Ext w w' := by
  have hck := ok.ck
  obtain ⟨b1, b2, s1, s2, c1, c2, k1, k2⟩ := ok
  obtain ⟨S, hS⟩ : ∃ x, x = h.s := ⟨_, rfl⟩
  obtain ⟨Bn, hB⟩ : ∃ x, x = h.b := ⟨_, rfl⟩
  obtain ⟨m, hm⟩ : ∃ x, x = h.c * h.k := ⟨_, rfl⟩
  obtain ⟨zc, hzc⟩ : ∃ x : Int, x = (h.c : Nat) := ⟨_, rfl⟩
  obtain ⟨zk, hzk⟩ : ∃ x : Int, x = (h.k : Nat) := ⟨_, rfl⟩
  have hwm : IntKind.i64.wrap (zc * zk) = (m : Nat) := by
    have e : zc * zk = ((m : Nat) : Int) := by rw [hzc, hzk, hm]; simp
    rw [e, IntKind.wrap_i64]
    omega
  have hm16 : m ≤ 16 := by omega
  have hm1 : 0 < m := by rw [hm]; exact Nat.mul_pos (by omega) (by omega)
  have HF : Hid (S = h.s ∧ Bn = h.b ∧ m = h.c * h.k ∧ zc = (h.c : Nat) ∧ zk = (h.k : Nat)) := Lib.hid ⟨hS, hB, hm, hzc, hzk⟩
  rw [← hB] at b1 b2
  rw [← hS] at s1 s2
  rw [← hS, ← hB, ← hzc, ← hzk]
  clear hS hB hm hzc hzk hck c1 c2 k1 k2
  have hzr := refz_run
  go_enter Try.func13, Try.ntmps13
  go_upto_region 2 with fail
  have HN0 := Lib.hid (new_start w Bn S zc zk 70 (List.replicate S 0))
  have hx0 : Ext w (w.alloc (.cells #[.int .i64 Bn, .int .i64 S, .int .i64 zc, .int .i64 zk, .slice none 0 0, .slice none 0 0, .slice none 0 0, .slice none 0 0, .slice none 0 0] 70 (0, 0))) := (Ext.refl w).alloc _
  generalize (w.alloc (.cells #[.int .i64 Bn, .int .i64 S, .int .i64 zc, .int .i64 zk, .slice none 0 0, .slice none 0 0, .slice none 0 0, .slice none 0 0, .slice none 0 0] 70 (0, 0))) = w0 at *
  obtain ⟨ps, hps⟩ : ∃ ps, ps = w.heap.size := ⟨_, rfl⟩
  rw [← hps] at HN0 ⊢
  have HPS : Hid (w.heap.size ≤ ps) := Lib.hid (by omega)
  clear hps hzr
  go_wp2_with fail
  go_loopw [10] (fun ci wr => ∃ (i : Nat) (V : Nat → Value) (X : Nat → List Value), i ≤ Bn ∧ ci = .int .i64 i ∧ Hid (NewAt wr ps Bn S zc zk 70 (List.replicate S 0) V X) ∧ Hid (∀ j, j < 5 → (X j).length = if j < 2 then i else 0) ∧ Ext w wr) (fun ci _ => Bn - (intOf ci).toNat)
  case atStart => exact ⟨0, _, _, Nat.zero_le _, rfl, HN0, Lib.hid (fun j _ => by simp), hx0⟩
  case round =>
    clear HN0 hx0
    obtain ⟨i, V, X, hi, rfl, HNA, HXL, hx⟩ := hrel
    by_cases hlt : i < Bn
    · have hli : (i : Int) < (Bn : Int) := by omega
      obtain ⟨v0, hv0⟩ : ∃ v, v = V 0 := ⟨_, rfl⟩
      obtain ⟨x0, hx0⟩ : ∃ v, v = X 0 := ⟨_, rfl⟩
      have c4 := (HNA.out.cell (j := 0) (by omega)).1
      rw [← hv0] at c4
      have HV0 := Lib.hid hv0
      have HX0 := Lib.hid hx0
      have HO : Hid (wr.ownsRow (ps + 1) 3 1 v0 x0.length x0) := Lib.hid (by rw [hv0, hx0]; exact HNA.out.own 0 (by omega))
      have HLN : Hid (x0.length = i) := Lib.hid (by rw [hx0, HXL.out 0 (by omega)]; rfl)
      have hpz := HNA.out.lt
      clear hv0 hx0
      go_wp2_with (at_builtin; go_loud (refine wpList_append_one rfl _ _ 68 rfl 3 (.int .i64 0) 8 Try.underlying68 ints_info rfl (by decide) (ps + 1) (by simp; omega) v0 x0 rfl (own_ext HO.out ((Ext.refl wr).alloc _)) _ (.int .i64 0) rfl (Rd.one wr _ _) rfl (by rw [HLN.out]; omega) ?_))
      intro g4 cap4 w2 ho hg hat
      obtain ⟨n4, hn4⟩ : ∃ n, n = x0.length + 1 := ⟨_, rfl⟩
      rw [← hn4] at ho ⊢
      obtain ⟨HN2, hx2, z4, f4⟩ := HNA.out.stepI _ (j := 0) (by omega) (by decide) HV0.out HX0.out hn4 ho hg hat hx HPS.out
      simp only [Nat.add_zero] at HN2 hx2 z4 f4
      clear ho hg hat c4 hn4 HO HLN hpz
      go_wp2_with fail
      generalize (w2.setCell ⟨ps, 4, none⟩ (.slice (some ⟨g4, 0, none⟩) n4 cap4)) = w3 at *
      have HN3 : Hid (NewAt w3 ps Bn S zc zk 70 (List.replicate S 0) (updF V 0 (.slice (some ⟨g4, 0, none⟩) n4 cap4)) (updF X 0 (X 0 ++ [.int .i64 0]))) := HN2
      obtain ⟨v1, hv1⟩ : ∃ v, v = V 1 := ⟨_, rfl⟩
      obtain ⟨x1, hx1⟩ : ∃ v, v = X 1 := ⟨_, rfl⟩
      have c5 := (HN3.out.cell (j := 1) (by omega)).1
      have f5 := (HN3.out.cell (j := 1) (by omega)).2
      rw [updF_other _ _ (by decide), ← hv1] at c5
      simp only [Nat.reduceAdd] at c5 f5
      have HV1 := Lib.hid hv1
      have HX1 := Lib.hid hx1
      have hps3 : ps + 1 ≤ w3.heap.size := HN3.out.lt
      have HO : Hid (w3.ownsRow (ps + 1) 36 1 v1 x1.length x1) := Lib.hid (by
        have h9 := HN3.out.own 1 (by omega)
        rw [updF_other _ _ (by decide), updF_other _ _ (by decide), ← hv1, ← hx1] at h9
        exact h9)
      have HLN : Hid (x1.length = i) := Lib.hid (by rw [hx1, HXL.out 1 (by omega)]; rfl)
      have HB1 : Hid (v1.ownBlock ≠ some ps) := Lib.hid (fun e => by have := (HO.out.lt _ e).1; omega)
      have HMK := make8 S (by omega)
      have a5 := cell_old (.cells (Array.replicate S (.int .u8 0)) 5) c5
      have b5 := cell_old (.cells #[.slice (some ⟨w3.heap.size, 0, none⟩) S S] 36) a5
      have hfit : x1.length ≤ 1000000 := by rw [HLN.out]; omega
      have HFT := Lib.hid hfit
      have HRD : Hid (Rd ((w3.alloc (.cells (Array.replicate S (.int .u8 0)) 5)).alloc (.cells #[.slice (some ⟨w3.heap.size, 0, none⟩) S S] 36)) 1 (.slice (some ⟨w3.heap.size + 1, 0, none⟩) 1 1) 1 [.slice (some ⟨w3.heap.size, 0, none⟩) S S]) := Lib.hid (by simpa using Rd.one (w3.alloc (.cells (Array.replicate S (.int .u8 0)) 5)) (.slice (some ⟨w3.heap.size, 0, none⟩) S S) 36)
      clear hv1 hx1 hfit HN2 z4 f4
      obtain ⟨n5, hn5⟩ : ∃ n, n = x1.length := ⟨_, rfl⟩
      have HN5 := Lib.hid hn5
      rw [← hn5] at HO HFT
      clear hn5
      go_region_law (refine step_append_rdx (by rfl) _ _ _ (by rfl) 36 (.slice none 0 0) 1 24 Try.underlying48 row_info (by rfl) (by decide) (by decide) (ps + 1) (Nat.le_trans hps3 (Ext.size (w := w3) (by repeat' (first | (with_reducible exact Ext.refl _) | (with_reducible assumption) | (with_reducible refine Ext.alloc ?_ _) | (with_reducible refine Ext.drewN ?_ _) | (with_reducible refine Ext.drew ?_) | (with_reducible refine Ext.trans ?_ (by assumption)))))) v1 n5 x1 (by rfl) (own_ext HO.out (show Ext w3 _ from (by repeat' (first | (with_reducible exact Ext.refl _) | (with_reducible assumption) | (with_reducible refine Ext.alloc ?_ _) | (with_reducible refine Ext.drewN ?_ _) | (with_reducible refine Ext.drew ?_) | (with_reducible refine Ext.trans ?_ (by assumption)))))) _ [.slice (some ⟨w3.heap.size, 0, none⟩) S S] (by rfl) (by first | exact HRD.out | exact HRD.out.ext (Ext.drew (Ext.refl _)) | exact HRD.out.ext (Ext.drewN (Ext.refl _) _)) (by simp [Value.oneCell']) HFT.out ?_; intro g5 cap5 w5 ho5 hg5 hat5; have z5 := hg5.cell (Ext.cellv (w := w3) (by repeat' (first | (with_reducible exact Ext.refl _) | (with_reducible assumption) | (with_reducible refine Ext.alloc ?_ _) | (with_reducible refine Ext.drewN ?_ _) | (with_reducible refine Ext.drew ?_) | (with_reducible refine Ext.trans ?_ (by assumption)))) c5) (fun e => HB1.out e.symm); have zf := (World.frozen?_of_block (a := ⟨ps, 5, none⟩) (hg5.block ps (Nat.lt_of_lt_of_le (Nat.lt_of_succ_le hps3) (Ext.size (w := w3) (by repeat' (first | (with_reducible exact Ext.refl _) | (with_reducible assumption) | (with_reducible refine Ext.alloc ?_ _) | (with_reducible refine Ext.drewN ?_ _) | (with_reducible refine Ext.drew ?_) | (with_reducible refine Ext.trans ?_ (by assumption)))))) (fun e => HB1.out e.symm))).trans (Ext.frz (w := w3) (by repeat' (first | (with_reducible exact Ext.refl _) | (with_reducible assumption) | (with_reducible refine Ext.alloc ?_ _) | (with_reducible refine Ext.drewN ?_ _) | (with_reducible refine Ext.drew ?_) | (with_reducible refine Ext.trans ?_ (by assumption)))) c5 f5))
      all_goals
        obtain ⟨HN6, hx6⟩ := HN3.out.stepD (V := updF V 0 (.slice (some ⟨g4, 0, none⟩) n4 cap4)) (by rw [updF_other _ _ (by decide)]; exact HV1.out) (by rw [updF_other _ _ (by decide)]; exact HX1.out) HN5.out ho5 hg5 (by simpa using hat5) (by simp) (by omega) (show Ext w3 _ from (by repeat' (first | (with_reducible exact Ext.refl _) | (with_reducible assumption) | (with_reducible refine Ext.alloc ?_ _) | (with_reducible refine Ext.drewN ?_ _) | (with_reducible refine Ext.drew ?_) | (with_reducible refine Ext.trans ?_ (by assumption))))) (show Ext (w3.alloc (.cells (Array.replicate S (.int .u8 0)) 5)) _ from (by repeat' (first | (with_reducible exact Ext.refl _) | (with_reducible assumption) | (with_reducible refine Ext.alloc ?_ _) | (with_reducible refine Ext.drewN ?_ _) | (with_reducible refine Ext.drew ?_) | (with_reducible refine Ext.trans ?_ (by assumption))))) hx2 HPS.out
        clear ho5 hg5 hat5 z5 zf
        generalize (w5.setCell ⟨ps, 5, none⟩ (.slice (some ⟨g5, 0, none⟩) (n5 + 1) cap5)) = w6 at *
        clear HN3 HO HRD HMK c5 a5 b5
        go_wp2_with fail
        go_roundw
        case rel => exact ⟨i + 1, _, _, by omega, by go_num, HN6, Lib.hid (fun j hj => by
          rcases (show j = 0 ∨ j = 1 ∨ 2 ≤ j by omega) with rfl | rfl | h9
          · simp [updF, HXL.out 0 (by omega)]
          · simp [updF, HXL.out 1 (by omega)]
          · rw [updF_other _ _ (by omega), updF_other _ _ (by omega), HXL.out j hj, if_neg (by omega), if_neg (by omega)]), hx6⟩
        case measure => simp [intOf]; omega
    · obtain rfl : i = Bn := by omega
      obtain ⟨wv, rfl⟩ : ∃ wv, wv = wr := ⟨_, rfl⟩
      have HX1 := Lib.hid hx
      have HXL1 : Hid (∀ j, j < 5 → (X j).length = if j < 2 then i else 0) := HXL
      clear HXL hx
      go_wp2_with fail
      go_loopw [11] (fun ci wr => ∃ (k : Nat) (V : Nat → Value) (X : Nat → List Value), k ≤ m ∧ ci = .int .i64 k ∧ Hid (NewAt wr ps i S zc zk 70 (List.replicate S 0) V X) ∧ Hid (∀ j, j < 5 → (X j).length = if j < 2 then i else k) ∧ Ext w wr) (fun ci _ => m - (intOf ci).toNat)
      case atStart => exact ⟨0, _, _, Nat.zero_le _, rfl, HNA, HXL1, HX1.out⟩
      case round =>
        clear HNA HXL1 HX1
        obtain ⟨k, V, X, hk, rfl, HNA, HXL, hx⟩ := hrel
        by_cases hltk : k < m
        case neg =>
          obtain rfl : k = m := by omega
          have HXX := Lib.hid hx
          have hltp := HNA.out.lt
          clear hx
          go_wp2_with fail
          go_ret
          obtain ⟨e1, e2, e3, e4, e5⟩ := HF.out
          have hlen : ∀ j, j < 5 → (X j).length = rLen h j := fun j hj => by rw [HXL.out j hj]; unfold rLen; rw [← e2, ← e3]
          obtain ⟨g, hg1, hg2⟩ := ref_of (h := h) (by rw [← e2, ← e1, ← e4, ← e5]; exact HNA.out) hlen (fun j hj => by unfold rLen; split <;> omega)
          exact ⟨ps, g, rfl, HPS.out, hltp, hg1, hg2, HXX.out⟩
        have hlki : (k : Int) < (m : Int) := by omega
        have HXK := Lib.hid hx
        obtain ⟨v2, hv2⟩ : ∃ v, v = V 2 := ⟨_, rfl⟩
        obtain ⟨x2, hx2⟩ : ∃ v, v = X 2 := ⟨_, rfl⟩
        have HV2 : Hid (v2 = V 2) := Lib.hid (by exact hv2)
        have HX2 : Hid (x2 = X 2) := Lib.hid (by exact hx2)
        have c4 := (HNA.out.cell (j := 2) (by omega)).1
        rw [← HV2.out] at c4
        simp only [Nat.reduceAdd] at c4
        have HO : Hid (wr.ownsRow (ps + 1) 3 1 v2 x2.length x2) := Lib.hid (by rw [HV2.out, HX2.out]; exact HNA.out.own 2 (by omega))
        have HLN : Hid (x2.length = k) := Lib.hid (by rw [hx2, HXL.out 2 (by omega)]; rfl)
        have hpz := HNA.out.lt
        clear hv2 hx2
        go_wp2_with (at_builtin; go_loud (refine wpList_append_one rfl _ _ 68 rfl 3 (.int .i64 0) 8 Try.underlying68 ints_info rfl (by decide) (ps + 1) (by simp; omega) v2 x2 rfl (own_ext HO.out ((Ext.refl wr).alloc _)) _ (.int .i64 0) rfl (Rd.one wr _ _) rfl (by rw [HLN.out]; omega) ?_))
        intro g2 cap2 w2 ho hg hat
        obtain ⟨n2, hn2⟩ : ∃ n, n = x2.length + 1 := ⟨_, rfl⟩
        rw [← hn2] at ho ⊢
        obtain ⟨HN2, hxx2, z4, f4⟩ := HNA.out.stepI _ (j := 2) (by omega) (by decide) HV2.out HX2.out hn2 ho hg hat HXK.out HPS.out
        simp only [Nat.reduceAdd] at HN2 hxx2 z4 f4
        clear ho hg hat c4 hn2 HO HLN hpz
        go_upto_region 11 with fail
        generalize (w2.setCell ⟨ps, 6, none⟩ (.slice (some ⟨g2, 0, none⟩) n2 cap2)) = wb2 at *
        clear z4 f4
        obtain ⟨v3, hv3⟩ : ∃ v, v = V 3 := ⟨_, rfl⟩
        obtain ⟨x3, hx3⟩ : ∃ v, v = X 3 := ⟨_, rfl⟩
        have HV3 : Hid (v3 = (updF V 2 (.slice (some ⟨g2, 0, none⟩) n2 cap2)) 3) := Lib.hid (by simp only [updF_other _ _ (show (3 : Nat) ≠ 2 by decide)]; exact hv3)
        have HX3 : Hid (x3 = (updF X 2 (X 2 ++ [.int .i64 0])) 3) := Lib.hid (by simp only [updF_other _ _ (show (3 : Nat) ≠ 2 by decide)]; exact hx3)
        have c4 := (HN2.out.cell (j := 3) (by omega)).1
        rw [← HV3.out] at c4
        simp only [Nat.reduceAdd] at c4
        have HO : Hid (wb2.ownsRow (ps + 1) 3 1 v3 x3.length x3) := Lib.hid (by rw [HV3.out, HX3.out]; exact HN2.out.own 3 (by omega))
        have HLN : Hid (x3.length = k) := Lib.hid (by rw [hx3, HXL.out 3 (by omega)]; rfl)
        have hpz := HN2.out.lt
        clear hv3 hx3
        go_wp2_with (at_builtin; go_loud (refine wpList_append_one rfl _ _ 68 rfl 3 (.int .i64 0) 8 Try.underlying68 ints_info rfl (by decide) (ps + 1) (by simp; omega) v3 x3 rfl (own_ext HO.out ((Ext.refl wb2).alloc _)) _ (.int .i64 0) rfl (Rd.one wb2 _ _) rfl (by rw [HLN.out]; omega) ?_))
        intro g3 cap3 w2 ho hg hat
        obtain ⟨n3, hn3⟩ : ∃ n, n = x3.length + 1 := ⟨_, rfl⟩
        rw [← hn3] at ho ⊢
        obtain ⟨HN3, hxx3, z4, f4⟩ := HN2.out.stepI _ (j := 3) (by omega) (by decide) HV3.out HX3.out hn3 ho hg hat hxx2 HPS.out
        simp only [Nat.reduceAdd] at HN3 hxx3 z4 f4
        clear ho hg hat c4 hn3 HO HLN hpz
        go_upto_region 12 with fail
        generalize (w2.setCell ⟨ps, 7, none⟩ (.slice (some ⟨g3, 0, none⟩) n3 cap3)) = wb3 at *
        clear z4 f4
        obtain ⟨v4, hv4⟩ : ∃ v, v = V 4 := ⟨_, rfl⟩
        obtain ⟨x4, hx4⟩ : ∃ v, v = X 4 := ⟨_, rfl⟩
        have HV4 : Hid (v4 = (updF (updF V 2 (.slice (some ⟨g2, 0, none⟩) n2 cap2)) 3 (.slice (some ⟨g3, 0, none⟩) n3 cap3)) 4) := Lib.hid (by simp only [updF_other _ _ (show (4 : Nat) ≠ 2 by decide), updF_other _ _ (show (4 : Nat) ≠ 3 by decide)]; exact hv4)
        have HX4 : Hid (x4 = (updF (updF X 2 (X 2 ++ [.int .i64 0])) 3 ((updF X 2 (X 2 ++ [.int .i64 0])) 3 ++ [.int .i64 0])) 4) := Lib.hid (by simp only [updF_other _ _ (show (4 : Nat) ≠ 2 by decide), updF_other _ _ (show (4 : Nat) ≠ 3 by decide)]; exact hx4)
        have c4 := (HN3.out.cell (j := 4) (by omega)).1
        rw [← HV4.out] at c4
        simp only [Nat.reduceAdd] at c4
        have HO : Hid (wb3.ownsRow (ps + 1) 3 1 v4 x4.length x4) := Lib.hid (by rw [HV4.out, HX4.out]; exact HN3.out.own 4 (by omega))
        have HLN : Hid (x4.length = k) := Lib.hid (by rw [hx4, HXL.out 4 (by omega)]; rfl)
        have hpz := HN3.out.lt
        clear hv4 hx4
        go_wp2_with (at_builtin; go_loud (refine wpList_append_one rfl _ _ 68 rfl 3 (.int .i64 0) 8 Try.underlying68 ints_info rfl (by decide) (ps + 1) (by simp; omega) v4 x4 rfl (own_ext HO.out ((Ext.refl wb3).alloc _)) _ (.int .i64 0) rfl (Rd.one wb3 _ _) rfl (by rw [HLN.out]; omega) ?_))
        intro g4 cap4 w2 ho hg hat
        obtain ⟨n4, hn4⟩ : ∃ n, n = x4.length + 1 := ⟨_, rfl⟩
        rw [← hn4] at ho ⊢
        obtain ⟨HN4, hxx4, z4, f4⟩ := HN3.out.stepI _ (j := 4) (by omega) (by decide) HV4.out HX4.out hn4 ho hg hat hxx3 HPS.out
        simp only [Nat.reduceAdd] at HN4 hxx4 z4 f4
        clear ho hg hat c4 hn4 HO HLN hpz
        go_wp2_with fail
        generalize (w2.setCell ⟨ps, 8, none⟩ (.slice (some ⟨g4, 0, none⟩) n4 cap4)) = wb4 at *
        clear z4 f4
        go_roundw
        case rel => exact ⟨k + 1, _, _, by omega, by go_num, HN4, Lib.hid (fun j hj => by
          rcases (show j < 2 ∨ j = 2 ∨ j = 3 ∨ j = 4 by omega) with h9 | rfl | rfl | rfl
          · rw [updF_other _ _ (by omega), updF_other _ _ (by omega), updF_other _ _ (by omega), HXL.out j hj, if_pos h9, if_pos h9]
          · simp [updF, HXL.out 2 (by omega)]
          · simp [updF, HXL.out 3 (by omega)]
          · simp [updF, HXL.out 4 (by omega)]), hxx4⟩
        case measure => simp [intOf]; omega
end Go.Proofs.Ytoadjmeopamgbaa
