/-
  karma.Plan: Set, New, Parts. No condition but that the hints read.
-/
import Derived.Test.YtpmfadepinmmjaaKAlloc
import Derived.Test.YtpmfadepinmmjaaKClone
namespace Go.Proofs.Ytpmfadepinmmjaa
open Go.RowKit

theorem RdV.chg {S : List Nat} {m : Nat} {w w' : World} {v : Value} {n : Nat} {V : Nat → Nat → Value} (h : RdV m w v n V) (hx : Chg S w w') (hS : ∀ b, v.ownBlock = some b → b ∉ S) : RdV m w' v n V := by
  obtain ⟨a, c, rfl, h1, h2, h3, h4⟩ := h
  refine ⟨a, c, rfl, h1, h2, h3, fun hn => ?_⟩
  obtain ⟨b, o, rfl, hb, hc⟩ := h4 hn
  exact ⟨b, o, rfl, Nat.lt_of_lt_of_le hb hx.size, fun i f hi hf => (World.cell?_of_block (hx.block b hb (hS b rfl))).trans (hc i f hi hf)⟩
theorem HV_one (F : Nat → Nat → Int) (L : Nat → Bool) (i f : Nat) : (HV F L i f).oneCell' = true := by unfold HV; split <;> rfl

/-- a plan's block -/
def PlHd (w : World) (p : Nat) (bl : Int) (c : Nat → Nat) (hv pv : Value) : Prop :=
  w.heap[p]? = some (.cells #[.int .i64 bl, .int .i64 (c 0), .int .i64 (c 1), .int .i64 (c 2), hv, pv] 61 (0, 0))
theorem PlHd.lt {w : World} {p : Nat} {bl : Int} {c : Nat → Nat} {hv pv : Value} (h : PlHd w p bl c hv pv) : p < w.heap.size := (Array.getElem?_eq_some_iff.1 h).1
theorem PlHd.ext {w w' : World} {p : Nat} {bl : Int} {c : Nat → Nat} {hv pv : Value} (h : PlHd w p bl c hv pv) (hx : Ext w w') : PlHd w' p bl c hv pv := (Below.block hx _ h.lt).trans h
theorem PlHd.fill {w : World} {p : Nat} {bl : Int} {c : Nat → Nat} {hv pv : Value} (h : PlHd w p bl c hv pv) (a b : Value) : PlHd ((w.setCell ⟨p, 4, none⟩ a).setCell ⟨p, 5, none⟩ b) p bl c a b := heap_set (heap_set h _) _
theorem PlHd.fill' {w : World} {p : Nat} {bl : Int} {c : Nat → Nat} {hv pv : Value} (h : PlHd w p bl c hv pv) (a b : Value) : PlHd ((w.setCell ⟨p, 5, none⟩ b).setCell ⟨p, 4, none⟩ a) p bl c a b := heap_set (heap_set h _) _
theorem wf_small {b : Int} (h : 1 ≤ b ∧ b ≤ 32) : (Lit.int .i64 b).wf = true := by
  obtain ⟨k, rfl⟩ := Int.eq_ofNat_of_zero_le (show 0 ≤ b by omega)
  simp [Lit.wf, IntKind.min, IntKind.max, IntKind.signed, IntKind.bits]
  omega
theorem PlHd.free {w : World} {p : Nat} {bl : Int} {c : Nat → Nat} {hv pv : Value} (h : PlHd w p bl c hv pv) (o : Nat) : w.frozen? ⟨p, o, none⟩ = false := frozen_row h o
section
variable {w : World} {p : Nat} {bl : Int} {c : Nat → Nat} {hv pv : Value} (h : PlHd w p bl c hv pv)
include h
theorem PlHd.c0 : w.cell? ⟨p, 0, none⟩ = some (.int .i64 bl) := cell_of_row w p 0 _ _ _ h
theorem PlHd.c1 : w.cell? ⟨p, 1, none⟩ = some (.int .i64 (c 0)) := cell_of_row w p 1 _ _ _ h
theorem PlHd.c2 : w.cell? ⟨p, 2, none⟩ = some (.int .i64 (c 1)) := cell_of_row w p 2 _ _ _ h
theorem PlHd.c3 : w.cell? ⟨p, 3, none⟩ = some (.int .i64 (c 2)) := cell_of_row w p 3 _ _ _ h
theorem PlHd.c4 : w.cell? ⟨p, 4, none⟩ = some hv := cell_of_row w p 4 _ _ _ h
theorem PlHd.c5 : w.cell? ⟨p, 5, none⟩ = some pv := cell_of_row w p 5 _ _ _ h
end
def PR (F : Nat → Nat → Int) (c : Nat → Nat) (M : List Nat) (i t : Nat) : Nat := (stK (kS F) c M).2 i t
def CapsOk (c : Nat → Nat) : Prop := (∀ t, c t ≤ 16) ∧ ∀ t, t < 3 → 1 ≤ c t
structure PlAt (w : World) (p : Nat) (bl : Int) (c : Nat → Nat) (n : Nat) (F : Nat → Nat → Int) (L : Nat → Bool) (M : List Nat) : Prop where
  hd : ∃ hv g, PlHd w p bl c hv (.slice (some ⟨g, 0, none⟩) n n) ∧ RdH w hv n F L ∧ hv.ownBlock ≠ some p ∧ IRow w g (n * 4) (fun j => (PR F c M (j / 4) (j % 4) : Nat)) ∧ g ≠ p
  ok : HsOk n F bl
  ord : Ord (kT n F) (kB n F) n M
  caps : CapsOk c
theorem PlAt.ext {w w' : World} {p : Nat} {bl : Int} {c : Nat → Nat} {n : Nat} {F : Nat → Nat → Int} {L : Nat → Bool} {M : List Nat} (h : PlAt w p bl c n F L M) (hx : Ext w w') : PlAt w' p bl c n F L M := by
  obtain ⟨hv, g, h1, h2, h3, h4, h5⟩ := h.hd
  exact ⟨⟨hv, g, h1.ext hx, h2.ext hx, h3, h4.ext hx, h5⟩, h.ok, h.ord, h.caps⟩
theorem PlAt.lt {w : World} {p : Nat} {bl : Int} {c : Nat → Nat} {n : Nat} {F : Nat → Nat → Int} {L : Nat → Bool} {M : List Nat} (h : PlAt w p bl c n F L M) : p < w.heap.size := by
  obtain ⟨hv, g, h1, _⟩ := h.hd
  exact h1.lt
theorem PlAt.fill {w1 w2 w' : World} {p : Nat} {bl : Int} {c : Nat → Nat} {n : Nat} {F : Nat → Nat → Int} {L : Nat → Bool} {M : List Nat} {hv : Value} {g : Nat}
    (hd : PlHd w' p bl c hv (.slice (some ⟨g, 0, none⟩) n n)) (hr : RdV 4 w1 hv n (HV F L)) (hr' : Chg [p] w1 w') (hb : hv.ownBlock ≠ some p) (hi : IRow w2 g (n * 4) (fun j => ((stK (kS F) c M).2 (j / 4) (j % 4) : Nat))) (hi' : Chg [p] w2 w') (hg : g ≠ p)
    (ok : HsOk n F bl) (ord : Ord (kT n F) (kB n F) n M) (caps : CapsOk c) : PlAt w' p bl c n F L M :=
  ⟨⟨hv, g, hd, hr.chg hr' (fun b h1 h2 => by simp at h2; subst h2; exact hb h1), hb, hi.chg hi' (by simpa using hg), hg⟩, ok, ord, caps⟩

theorem kset_nil (v : Value) (w : World) : Calls Try.prog 26 #[.pointer none, v] w fun e w' => e = .returned (.int .i64 7) ∧ w = w' := by
  go_enter Try.func26, Try.ntmps26
  go_wp2_with fail
  go_ret
  exact ⟨rfl, rfl⟩
section
variable (p : Nat) (bl : Int) (c : Nat → Nat) (hv pv v : Value) (n : Nat) (F : Nat → Nat → Int) (L : Nat → Bool) (w : World)
  (hd : PlHd w p bl c hv pv) (h : RdH w v n F L) (hn : n ≤ 1000) (hwf : ∀ i j, i < n → j < 3 → (Lit.int .i64 (F i j)).wf = true) (hb : 1 ≤ bl ∧ bl ≤ 32) (hc : CapsOk c)
include hd h hn hwf hb
theorem kset_no (hr : ¬ HsOk n F bl) : Calls Try.prog 26 #[.pointer (some ⟨p, 0, none⟩), v] w fun e w' => e = .returned (.int .i64 14) ∧ Ext w w' := by
  have HH := Lib.hid (chints v n F L bl w h hn hwf (wf_small hb) false (by simp [hr]))
  have c0 := hd.c0
  clear hd h hn hwf hr
  go_enter Try.func26, Try.ntmps26
  go_wp2_with fail
  refine HH.out.mono ?_
  rintro e w1 ⟨rfl, hx1⟩
  go_wp2_with fail
  go_ret
  exact ⟨rfl, hx1⟩
include hc
set_option maxHeartbeats 4000000 in
theorem kset_ok (hr : HsOk n F bl) : Calls Try.prog 26 #[.pointer (some ⟨p, 0, none⟩), v] w fun e w' => e = .returned (.int .i64 0) ∧ (∃ M, PlAt w' p bl c n F L M) ∧ Chg [p] w w' := by
  have HH := Lib.hid (chints v n F L bl w h hn hwf (wf_small hb) true (by simp [hr]))
  have hn8 := hr.2.2
  have HCL := Lib.hid (fun w' (hx : Ext w w') => clone_hints v n (HV F L) w' (RdV.ext h hx) (HV_one F L) hn)
  have HAL := Lib.hid (fun w' (hx : Ext w w') => kalloc v n F L c w' (RdH.ext h hx) hr.fr hn8 hc.1)
  have HHD := Lib.hid hd
  have HOK := Lib.hid hr
  have HCP := Lib.hid hc
  have c0 := hd.c0
  have c1 := hd.c1
  have c2 := hd.c2
  have c3 := hd.c3
  have c4 := hd.c4
  have c5 := hd.c5
  have hpl := hd.lt
  clear hd h hn hwf hr hc hn8
  obtain ⟨k0, hk0⟩ : ∃ k, c 0 = k := ⟨_, rfl⟩
  obtain ⟨k1, hk1⟩ : ∃ k, c 1 = k := ⟨_, rfl⟩
  obtain ⟨k2, hk2⟩ : ∃ k, c 2 = k := ⟨_, rfl⟩
  rw [hk0] at c1 HAL
  rw [hk1] at c2 HAL
  rw [hk2] at c3 HAL
  clear hk0 hk1 hk2
  go_enter Try.func26, Try.ntmps26
  go_wp2_with fail
  refine HH.out.mono ?_
  rintro e w1 ⟨rfl, hx1⟩
  have c1 := hx1.cellv c1
  have c2 := hx1.cellv c2
  have c3 := hx1.cellv c3
  have c4 := hx1.cellv c4
  have c5 := hx1.cellv c5
  have fz := (HHD.out.ext hx1).free
  clear HH c0
  go_wp2_with fail
  go_region_with (first | (go_at_call 43; refine (HCL.out _ (hx1.trans (by repeat' (first | (with_reducible exact Ext.refl _) | (with_reducible assumption) | (with_reducible refine Ext.alloc ?_ _) | (with_reducible refine Ext.drewN ?_ _) | (with_reducible refine Ext.drew ?_) | (with_reducible refine Ext.trans ?_ (by assumption)))))).mono ?_; rintro e wA ⟨vA, rfl, hrdA, hownA, hxA⟩; have HRA := Lib.hid hrdA; have HOA := Lib.hid (fun b (h : _ = some b) => Nat.le_trans (Ext.size (hx1.trans (by repeat' (first | (with_reducible exact Ext.refl _) | (with_reducible assumption) | (with_reducible refine Ext.alloc ?_ _) | (with_reducible refine Ext.drewN ?_ _) | (with_reducible refine Ext.drew ?_) | (with_reducible refine Ext.trans ?_ (by assumption)))))) (hownA b h)); obtain ⟨aA, cA, rfl, _, _, _, _⟩ := hrdA; clear hownA; have hwA : Ext w1 wA := (by repeat' (first | (with_reducible exact Ext.refl _) | (with_reducible assumption) | (with_reducible refine Ext.alloc ?_ _) | (with_reducible refine Ext.drewN ?_ _) | (with_reducible refine Ext.drew ?_) | (with_reducible refine Ext.trans ?_ (by assumption)))); have kwA1 := hwA.cellv c1; have kwA2 := hwA.cellv c2; have kwA3 := hwA.cellv c3; have kwA4 := hwA.cellv c4; have kwA5 := hwA.cellv c5; have fzwA := (HHD.out.ext (hx1.trans hwA)).free) | (go_at_call 44; refine (HAL.out _ (hx1.trans (by repeat' (first | (with_reducible exact Ext.refl _) | (with_reducible assumption) | (with_reducible refine Ext.alloc ?_ _) | (with_reducible refine Ext.drewN ?_ _) | (with_reducible refine Ext.drew ?_) | (with_reducible refine Ext.trans ?_ (by assumption)))))).mono ?_; rintro e wB ⟨gB, MB, rfl, hordB, hirB, hgB, hxB⟩; have hgB := Nat.le_trans (Ext.size (hx1.trans (by repeat' (first | (with_reducible exact Ext.refl _) | (with_reducible assumption) | (with_reducible refine Ext.alloc ?_ _) | (with_reducible refine Ext.drewN ?_ _) | (with_reducible refine Ext.drew ?_) | (with_reducible refine Ext.trans ?_ (by assumption)))))) hgB; have HOB := Lib.hid hordB; have HIB := Lib.hid hirB; clear hordB hirB; have hwB : Ext w1 wB := (by repeat' (first | (with_reducible exact Ext.refl _) | (with_reducible assumption) | (with_reducible refine Ext.alloc ?_ _) | (with_reducible refine Ext.drewN ?_ _) | (with_reducible refine Ext.drew ?_) | (with_reducible refine Ext.trans ?_ (by assumption)))); have kwB1 := hwB.cellv c1; have kwB2 := hwB.cellv c2; have kwB3 := hwB.cellv c3; have kwB4 := hwB.cellv c4; have kwB5 := hwB.cellv c5; have fzwB := (HHD.out.ext (hx1.trans hwB)).free))
  all_goals
    go_wp2_with fail
    go_ret
    refine ⟨rfl, ⟨MB, PlAt.fill (hv := .slice aA n cA) (g := gB) (w1 := wA) (w2 := wB) ?_ HRA.out ?_ ?_ HIB.out ?_ ?_ HOK.out HOB.out HCP.out⟩, ?_⟩
    · first
      | exact PlHd.ext (PlHd.fill (HHD.out.ext (hx1.trans hwB)) _ _) (by (repeat' (first | (with_reducible exact Ext.refl _) | (with_reducible assumption) | (with_reducible refine Ext.alloc ?_ _) | (with_reducible refine Ext.drewN ?_ _) | (with_reducible refine Ext.drew ?_) | (with_reducible refine Ext.trans ?_ (by assumption)))); done)
      | exact PlHd.ext (PlHd.fill (HHD.out.ext (hx1.trans hwA)) _ _) (by (repeat' (first | (with_reducible exact Ext.refl _) | (with_reducible assumption) | (with_reducible refine Ext.alloc ?_ _) | (with_reducible refine Ext.drewN ?_ _) | (with_reducible refine Ext.drew ?_) | (with_reducible refine Ext.trans ?_ (by assumption)))); done)
    · first
      | exact (Chg.of_ext hxB).trans (by repeat' (first | (with_reducible exact Chg.refl _ _) | (with_reducible refine Chg.drewN ?_ _) | (with_reducible refine Chg.drew ?_) | (with_reducible refine Chg.setCell ?_ (.inl (by simp)) _)))
      | (repeat' (first | (with_reducible exact Chg.refl _ _) | (with_reducible refine Chg.drewN ?_ _) | (with_reducible refine Chg.drew ?_) | (with_reducible refine Chg.setCell ?_ (.inl (by simp)) _)))
    · intro e
      have := HOA.out _ e
      omega
    · first
      | exact (Chg.of_ext hxA).trans (by repeat' (first | (with_reducible exact Chg.refl _ _) | (with_reducible refine Chg.drewN ?_ _) | (with_reducible refine Chg.drew ?_) | (with_reducible refine Chg.setCell ?_ (.inl (by simp)) _)))
      | (repeat' (first | (with_reducible exact Chg.refl _ _) | (with_reducible refine Chg.drewN ?_ _) | (with_reducible refine Chg.drew ?_) | (with_reducible refine Chg.setCell ?_ (.inl (by simp)) _)))
    · omega
    · first
      | exact (Chg.of_ext (hx1.trans hwB)).trans (by repeat' (first | (with_reducible exact Chg.refl _ _) | (with_reducible refine Chg.drewN ?_ _) | (with_reducible refine Chg.drew ?_) | (with_reducible refine Chg.setCell ?_ (.inl (by simp)) _)))
      | exact (Chg.of_ext (hx1.trans hwA)).trans (by repeat' (first | (with_reducible exact Chg.refl _ _) | (with_reducible refine Chg.drewN ?_ _) | (with_reducible refine Chg.drew ?_) | (with_reducible refine Chg.setCell ?_ (.inl (by simp)) _)))
end
end Go.Proofs.Ytpmfadepinmmjaa
