/-
  gradineref04: numbers, most, Right, Same of messages that are the same. No condition but that the loads read.
-/
import Derived.Test.YtmkobmkaalfecaaMsWakes
import Derived.Test.YtmkobmkaalfecaaInts2
import Derived.Test.YtmkobmkaalfecaaSame
import Derived.Deep.RegionLaw
import Derived.Deep.Cut
import Derived.Deep.CutRange
import Derived.Deep.CutBlock
import Derived.Laws.Rows
namespace Go.Proofs.Ytmkobmkaalfecaa
open Go.RowKit

def numL (N : Nat → Int) : List Int := [N 1, N 2, N 3, N 4, N 5, N 6, N 7, N 8]
theorem numL_at (N : Nat → Int) {i : Nat} (h : i < 8) : (numL N).getD i 0 = N (i + 1) := by
  have : i = 0 ∨ i = 1 ∨ i = 2 ∨ i = 3 ∨ i = 4 ∨ i = 5 ∨ i = 6 ∨ i = 7 := by omega
  rcases this with rfl | rfl | rfl | rfl | rfl | rfl | rfl | rfl <;> rfl
theorem msg_info' : (Try.prog.info? 62).map (·.size) = some 11 := by kernel_rfl
theorem rnumbers (K : Int) (N : Nat → Int) (g : Bool) (a : Option Addr) (n c : Nat) (w : World) :
    Calls Try.prog 71 #[msgV K N g (.slice a n c)] w fun e w' => ∃ v, e = .returned v ∧ RdI .i64 w' v (numL N) ∧ Ext w w' := by
  unfold msgV mrow
  go_enter Try.func71, Try.ntmps71
  go_wp2_with fail
  have HM := msg_new w K N g (.slice a n c)
  have hX0 : Ext w (w.alloc (.cells (mrow K N g (.slice a n c)) 62)) := (by repeat' (first | (with_reducible exact Ext.refl _) | (with_reducible assumption) | (with_reducible refine Ext.alloc ?_ _) | (with_reducible refine Ext.drewN ?_ _) | (with_reducible refine Ext.drew ?_) | (with_reducible refine Ext.trans ?_ (by assumption))))
  unfold mrow at HM hX0
  have hsz : w.heap.size + 1 = (w.alloc (.cells #[.int .i64 K, .int .i64 (N 1), .int .i64 (N 2), .int .i64 (N 3), .int .i64 (N 4), .int .i64 (N 5), .int .i64 (N 6), .int .i64 (N 7), .int .i64 (N 8), .bool g, .slice a n c] 62)).heap.size := by simp
  generalize (w.alloc (.cells #[.int .i64 K, .int .i64 (N 1), .int .i64 (N 2), .int .i64 (N 3), .int .i64 (N 4), .int .i64 (N 5), .int .i64 (N 6), .int .i64 (N 7), .int .i64 (N 8), .bool g, .slice a n c] 62)) = w0 at *
  have HSZ := Lib.hid hsz
  clear hsz
  have c1 := HM.num (f := 1) (by omega) (by omega)
  have c2 := HM.num (f := 2) (by omega) (by omega)
  have c3 := HM.num (f := 3) (by omega) (by omega)
  have c4 := HM.num (f := 4) (by omega) (by omega)
  have c5 := HM.num (f := 5) (by omega) (by omega)
  have c6 := HM.num (f := 6) (by omega) (by omega)
  have c7 := HM.num (f := 7) (by omega) (by omega)
  have c8 := HM.num (f := 8) (by omega) (by omega)
  go_wp2_with fail
  go_ret
  exact ⟨_, rfl, RdI.lit_at (numL N) HSZ.out rfl rfl (by simp [numL, maxLen]), (by repeat' (first | (with_reducible exact Ext.refl _) | (with_reducible assumption) | (with_reducible refine Ext.alloc ?_ _) | (with_reducible refine Ext.drewN ?_ _) | (with_reducible refine Ext.drew ?_) | (with_reducible refine Ext.trans ?_ (by assumption))))⟩
theorem rmost (w : World) :
    Calls Try.prog 72 #[] w fun e w' => ∃ b, e = .returned (.slice (some ⟨b, 0, none⟩) 8 8) ∧ (∀ i, i < 8 → w'.cell? ⟨b, i, none⟩ = some (.int .i64 (mostF (i + 1)))) ∧ Ext w w' := by
  go_enter Try.func72, Try.ntmps72
  go_wp2_with fail
  go_ret
  refine ⟨_, rfl, fun i hi => ?_, (by repeat' (first | (with_reducible exact Ext.refl _) | (with_reducible assumption) | (with_reducible refine Ext.alloc ?_ _) | (with_reducible refine Ext.drewN ?_ _) | (with_reducible refine Ext.drew ?_) | (with_reducible refine Ext.trans ?_ (by assumption))))⟩
  have : i = 0 ∨ i = 1 ∨ i = 2 ∨ i = 3 ∨ i = 4 ∨ i = 5 ∨ i = 6 ∨ i = 7 := by omega
  rcases this with rfl | rfl | rfl | rfl | rfl | rfl | rfl | rfl <;> exact cell_new _ _ _ _ rfl
theorem fields_pos' : ∀ k, k < 15 → (0 < (fieldsN k).length ↔ k ≠ 0) := by decide +kernel
theorem mem_zints' {l : List Nat} {f : Nat} : ((f : Int) ∈ zints l) ↔ f ∈ l := by
  unfold zints
  rw [List.mem_map]
  constructor
  · rintro ⟨x, h1, h2⟩
    have : x = f := by omega
    subst this; exact h1
  · intro h; exact ⟨f, h, rfl⟩
theorem has_nmd' (v : Value) (K : Int) (f : Nat) (x : Int) (hx : x = (f : Int)) (b : Bool) (hb : nmd K f = b) (w : World) (h : RdI .i64 w v (zints (fieldsOf K))) :
    Calls Try.prog 42 #[v, .int .i64 x] w fun e w' => e = .returned (.bool b) ∧ Ext w w' :=
  (has_any v _ x w h).mono fun e w' h => ⟨by rw [h.1, ← hb, hx]; unfold nmd; congr 2; exact decide_eq_decide.2 mem_zints', h.2⟩

/-- messages that are the same but for where their data lie -/
theorem rmsame (K : Int) (N : Nat → Int) (g : Bool) (u v : Value) (t : List Int) (w : World) (hu : RdI .u8 w u t) (hv : RdI .u8 w v t) :
    Calls Try.prog 52 #[msgV K N g u, msgV K N g v] w fun e w' => e = .returned (.bool true) ∧ Ext w w' := by
  have HU := Lib.hid hu
  have HV := Lib.hid hv
  obtain ⟨a, c, rfl, _⟩ := hu.parts
  obtain ⟨a', c', rfl, _⟩ := hv.parts
  obtain ⟨n, hn⟩ : ∃ n, n = t.length := ⟨_, rfl⟩
  rw [← hn] at HU HV ⊢
  clear hu hv hn
  have HN := Lib.hid (fun a c w => rnumbers K N g a n c w)
  unfold msgV mrow at HN ⊢
  go_enter Try.func52, Try.ntmps52
  have HM1 : MsgAt ((w.alloc (.cells #[.int .i64 K, .int .i64 (N 1), .int .i64 (N 2), .int .i64 (N 3), .int .i64 (N 4), .int .i64 (N 5), .int .i64 (N 6), .int .i64 (N 7), .int .i64 (N 8), .bool g, .slice a n c] 62)).alloc (.cells #[.int .i64 K, .int .i64 (N 1), .int .i64 (N 2), .int .i64 (N 3), .int .i64 (N 4), .int .i64 (N 5), .int .i64 (N 6), .int .i64 (N 7), .int .i64 (N 8), .bool g, .slice a' n c'] 62)) w.heap.size K N g (.slice a n c) := heap_alloc2_old w _ _
  have HM2 : MsgAt ((w.alloc (.cells #[.int .i64 K, .int .i64 (N 1), .int .i64 (N 2), .int .i64 (N 3), .int .i64 (N 4), .int .i64 (N 5), .int .i64 (N 6), .int .i64 (N 7), .int .i64 (N 8), .bool g, .slice a n c] 62)).alloc (.cells #[.int .i64 K, .int .i64 (N 1), .int .i64 (N 2), .int .i64 (N 3), .int .i64 (N 4), .int .i64 (N 5), .int .i64 (N 6), .int .i64 (N 7), .int .i64 (N 8), .bool g, .slice a' n c'] 62)) (w.heap.size + 1) K N g (.slice a' n c') := heap_alloc2_new w _ _
  have hX : Ext w ((w.alloc (.cells #[.int .i64 K, .int .i64 (N 1), .int .i64 (N 2), .int .i64 (N 3), .int .i64 (N 4), .int .i64 (N 5), .int .i64 (N 6), .int .i64 (N 7), .int .i64 (N 8), .bool g, .slice a n c] 62)).alloc (.cells #[.int .i64 K, .int .i64 (N 1), .int .i64 (N 2), .int .i64 (N 3), .int .i64 (N 4), .int .i64 (N 5), .int .i64 (N 6), .int .i64 (N 7), .int .i64 (N 8), .bool g, .slice a' n c'] 62)) := ((Ext.refl w).alloc _).alloc _
  obtain ⟨W, hW⟩ : ∃ W, W = ((w.alloc (.cells #[.int .i64 K, .int .i64 (N 1), .int .i64 (N 2), .int .i64 (N 3), .int .i64 (N 4), .int .i64 (N 5), .int .i64 (N 6), .int .i64 (N 7), .int .i64 (N 8), .bool g, .slice a n c] 62)).alloc (.cells #[.int .i64 K, .int .i64 (N 1), .int .i64 (N 2), .int .i64 (N 3), .int .i64 (N 4), .int .i64 (N 5), .int .i64 (N 6), .int .i64 (N 7), .int .i64 (N 8), .bool g, .slice a' n c'] 62)) := ⟨_, rfl⟩
  obtain ⟨p, hp⟩ : ∃ p, p = w.heap.size := ⟨_, rfl⟩
  obtain ⟨q, hq⟩ : ∃ q, q = w.heap.size + 1 := ⟨_, rfl⟩
  rw [← hW, ← hp] at HM1
  rw [← hW, ← hq] at HM2
  rw [← hW] at hX
  have h1 := HM1
  have h2 := HM2
  unfold MsgAt mrow at h1 h2
  go_upto_region 1 with fail
  rw [← hW, ← hq, ← hp]
  clear hW hp hq
  go_wp2_with (refine wpList_load_row rfl 62 _ rfl p rfl 62 _ (0, 0) _ h1 Try.underlying62 rfl msg_info' ?_)
  refine (HN.out _ _ _).mono ?_
  rintro e w1 ⟨v1, rfl, hr1, hx1⟩
  have h2b := (Below.block hx1 _ HM2.lt).trans h2
  go_wp2_with (refine wpList_load_row rfl 62 _ rfl q rfl 62 _ (0, 0) _ h2b Try.underlying62 rfl msg_info' ?_)
  refine (HN.out _ _ _).mono ?_
  rintro e w2 ⟨v2, rfl, hr2, hx2⟩
  have HM1 := (HM1.ext hx1).ext hx2
  have HM2 := (HM2.ext hx1).ext hx2
  have y0 := HM1.kind
  have y9 := HM1.grant
  have y10 := HM1.data
  have z0 := HM2.kind
  have z9 := HM2.grant
  have z10 := HM2.data
  have hX2 := (hX.trans hx1).trans hx2
  have hr1 := hr1.ext hx2
  clear h1 h2 h2b hx1 hx2 hX
  go_wp2_with fail
  refine (sameints_any v1 v2 (numL N) (numL N) _ hr1 hr2).mono ?_
  rintro e w3 ⟨rfl, hx3⟩
  rw [decide_eq_true rfl]
  have y9 := hx3.cellv y9
  have z9 := hx3.cellv z9
  have y10 := hx3.cellv y10
  have z10 := hx3.cellv z10
  go_wp2_with fail
  refine (same_any _ _ t t _ (HU.out.ext (hX2.trans hx3)) (HV.out.ext (hX2.trans hx3))).mono ?_
  rintro e w4 ⟨rfl, hx4⟩
  rw [decide_eq_true rfl]
  go_wp2_with fail
  go_ret
  exact ⟨rfl, (hX2.trans hx3).trans hx4⟩
end Go.Proofs.Ytmkobmkaalfecaa
