/-
  store.Open. No condition but that the disk lies in memory.
-/
import Derived.Test.YtoadjmeopamgbaaStJour
namespace Go.Proofs.Ytoadjmeopamgbaa
open Go.RowKit

section
variable (w : World) (F : List Nat) (p bl : Nat) (h : Sh) (d : Dk)
theorem sopen_nil (v : Value) (hv : ∃ a b c d : Int, v = .agg #[.int .i64 a, .int .i64 b, .int .i64 c, .int .i64 d]) : Calls Try.prog 14 #[.pointer none, v] w fun e w' => e = .returned (.tuple #[.pointer none, .int .i64 7]) ∧ Ext w w' := by
  obtain ⟨a, b, c, d, rfl⟩ := hv
  go_enter Try.func14, Try.ntmps14
  go_wp2_with fail
  go_ret2
  exact ⟨rfl, (by repeat' (first | (with_reducible exact Ext.refl _) | (with_reducible assumption) | (with_reducible refine Ext.alloc ?_ _) | (with_reducible refine Ext.drewN ?_ _) | (with_reducible refine Ext.drew ?_) | (with_reducible refine Ext.trans ?_ (by assumption))))⟩

set_option maxRecDepth 100000 in
set_option maxHeartbeats 4000000 in
theorem sopen (hd : DiskAt w F p bl d) (byt : Byt d) (hF : ∀ f ∈ F, f < w.heap.size) (ok : h.Ok) (hm : h.many ≤ d.rows.length) (hj : (jT (d.rows.getD 0 []) h.s).2 = false) :
    Calls Try.prog 14 #[.pointer (some ⟨p, 0, none⟩), .agg #[.int .i64 h.b, .int .i64 h.s, .int .i64 h.c, .int .i64 h.k]] w fun e w' => ∃ ps, e = .returned (.tuple #[.pointer (some ⟨ps, 0, none⟩), .int .i64 0]) ∧ StAt w' F ps p bl h d ∧ w.heap.size ≤ ps ∧ Ext w w' := by
  have HRI := Lib.hid (fun w' => sright h.b h.s h.c h.k true (decide_eq_true (by have := ok.b1; have := ok.b2; have := ok.s1; have := ok.s2; have := ok.c1; have := ok.c2; have := ok.k1; have := ok.k2; omega)) w')
  have HSE := Lib.hid (fun w' => ssectors h ok w')
  have HLE := Lib.hid (fun w' (hx : Ext w w') => dlen_any F p bl d w' (hd.ext hx))
  have HST : Hid (∀ w' ps, Ext w w' → w.heap.size ≤ ps → (∃ t, w'.heap[ps]? = some (.cells #[.int .i64 h.b, .int .i64 h.s, .int .i64 h.c, .int .i64 h.k, .pointer (some ⟨p, 0, none⟩)] t (0, 0))) → StAt w' F ps p bl h d) := Lib.hid (fun w' ps hx hps hh => ⟨hh, hd.ext hx, by have := hF _ hd.pF; omega, by have := hF _ hd.lF; omega, byt, ok, hm⟩)
  have HJ := Lib.hid hj
  have HJN : Hid (∀ w' ps, StAt w' F ps p bl h d → Calls Try.prog 32 #[.pointer (some ⟨ps, 0, none⟩)] w' _) := Lib.hid (fun w' ps st => sjournal w' F ps p bl h d st (.inl hj))
  have hni : ¬ jIs h (d.rows.getD 0 []) := by unfold jIs; rw [hj]; simp
  rw [decide_eq_false hni] at HJN
  obtain ⟨v0, hv0⟩ : ∃ x, x = jV (d.rows.getD 0 []) 0 := ⟨_, rfl⟩
  obtain ⟨v1, hv1⟩ : ∃ x, x = jV (d.rows.getD 0 []) 1 := ⟨_, rfl⟩
  obtain ⟨v2, hv2⟩ : ∃ x, x = jV (d.rows.getD 0 []) 2 := ⟨_, rfl⟩
  obtain ⟨v3, hv3⟩ : ∃ x, x = jV (d.rows.getD 0 []) 3 := ⟨_, rfl⟩
  obtain ⟨v4, hv4⟩ : ∃ x, x = jV (d.rows.getD 0 []) 4 := ⟨_, rfl⟩
  obtain ⟨v5, hv5⟩ : ∃ x, x = jV (d.rows.getD 0 []) 5 := ⟨_, rfl⟩
  rw [← hv0, ← hv1, ← hv2, ← hv3, ← hv4, ← hv5] at HJN
  obtain ⟨L, hL⟩ : ∃ L, L = d.rows.length := ⟨_, rfl⟩
  obtain ⟨M, hM⟩ : ∃ M, M = h.many := ⟨_, rfl⟩
  have hML : M ≤ L := by omega
  have hMi : ¬ (L : Int) < (M : Int) := by omega
  rw [← hL] at HLE
  rw [← hM] at HSE
  have HSTT := Lib.hid (fun (x0 x1 x2 x3 : Nat) (e0 : x0 = h.b) (e1 : x1 = h.s) (e2 : x2 = h.c) (e3 : x3 = h.k) w' ps hx hps (hh : ∃ t, w'.heap[ps]? = some (.cells #[.int .i64 x0, .int .i64 x1, .int .i64 x2, .int .i64 x3, .pointer (some ⟨p, 0, none⟩)] t (0, 0))) => HST.out w' ps hx hps (by rw [e0, e1, e2, e3] at hh; exact hh))
  obtain ⟨x0, hx0⟩ : ∃ x, x = h.b := ⟨_, rfl⟩
  obtain ⟨x1, hx1⟩ : ∃ x, x = h.s := ⟨_, rfl⟩
  obtain ⟨x2, hx2⟩ : ∃ x, x = h.c := ⟨_, rfl⟩
  obtain ⟨x3, hx3⟩ : ∃ x, x = h.k := ⟨_, rfl⟩
  have HST2 := Lib.hid (HSTT.out x0 x1 x2 x3 hx0 hx1 hx2 hx3)
  rw [← hx0, ← hx1, ← hx2, ← hx3] at HRI
  rw [← hx0, ← hx1, ← hx2, ← hx3] at HSE
  rw [← hx0, ← hx1, ← hx2, ← hx3]
  clear hd byt hF ok hm hj hni hv0 hv1 hv2 hv3 hv4 hv5 hL hM hML hx0 hx1 hx2 hx3 HST HSTT HJ
  go_enter Try.func14, Try.ntmps14
  go_upto_region 1 with fail
  have y0 := cell_new w #[.int .i64 x0, .int .i64 x1, .int .i64 x2, .int .i64 x3] 23 (0, 0) (j := 0) rfl
  have y1 := cell_new w #[.int .i64 x0, .int .i64 x1, .int .i64 x2, .int .i64 x3] 23 (0, 0) (j := 1) rfl
  have y2 := cell_new w #[.int .i64 x0, .int .i64 x1, .int .i64 x2, .int .i64 x3] 23 (0, 0) (j := 2) rfl
  have y3 := cell_new w #[.int .i64 x0, .int .i64 x1, .int .i64 x2, .int .i64 x3] 23 (0, 0) (j := 3) rfl
  have hxA : Ext w (w.alloc (.cells #[.int .i64 x0, .int .i64 x1, .int .i64 x2, .int .i64 x3] 23)) := (Ext.refl w).alloc _
  generalize (w.alloc (.cells #[.int .i64 x0, .int .i64 x1, .int .i64 x2, .int .i64 x3] 23)) = w1 at *
  obtain ⟨pb, hpb⟩ : ∃ pb, pb = w.heap.size := ⟨_, rfl⟩
  rw [← hpb] at y0 y1 y2 y3 ⊢
  clear hpb
  go_wp2_with fail
  go_region_held3 (fun w' => w'.cell? ⟨pb, 0, none⟩ = some (.int .i64 x0) ∧ w'.cell? ⟨pb, 1, none⟩ = some (.int .i64 x1) ∧ w'.cell? ⟨pb, 2, none⟩ = some (.int .i64 x2) ∧ w'.cell? ⟨pb, 3, none⟩ = some (.int .i64 x3) ∧ Ext w1 w') (exact ⟨Ext.cellv (w := w1) (by repeat' (first | (with_reducible exact Ext.refl _) | (with_reducible assumption) | (with_reducible refine Ext.alloc ?_ _) | (with_reducible refine Ext.drewN ?_ _) | (with_reducible refine Ext.drew ?_) | (with_reducible refine Ext.trans ?_ (by assumption)))) y0, Ext.cellv (w := w1) (by repeat' (first | (with_reducible exact Ext.refl _) | (with_reducible assumption) | (with_reducible refine Ext.alloc ?_ _) | (with_reducible refine Ext.drewN ?_ _) | (with_reducible refine Ext.drew ?_) | (with_reducible refine Ext.trans ?_ (by assumption)))) y1, Ext.cellv (w := w1) (by repeat' (first | (with_reducible exact Ext.refl _) | (with_reducible assumption) | (with_reducible refine Ext.alloc ?_ _) | (with_reducible refine Ext.drewN ?_ _) | (with_reducible refine Ext.drew ?_) | (with_reducible refine Ext.trans ?_ (by assumption)))) y2, Ext.cellv (w := w1) (by repeat' (first | (with_reducible exact Ext.refl _) | (with_reducible assumption) | (with_reducible refine Ext.alloc ?_ _) | (with_reducible refine Ext.drewN ?_ _) | (with_reducible refine Ext.drew ?_) | (with_reducible refine Ext.trans ?_ (by assumption)))) y3, (by repeat' (first | (with_reducible exact Ext.refl _) | (with_reducible assumption) | (with_reducible refine Ext.alloc ?_ _) | (with_reducible refine Ext.drewN ?_ _) | (with_reducible refine Ext.drew ?_) | (with_reducible refine Ext.trans ?_ (by assumption))))⟩)
    (first
      | (go_at_call 29; refine Calls.mono (HRI.out _) ?_; rintro e wR ⟨rfl, hxR⟩)
      | (go_at_call 30; refine Calls.mono (HLE.out _ (hxA.trans (by (repeat' (first | (with_reducible exact Ext.refl _) | (with_reducible assumption) | (with_reducible refine Ext.alloc ?_ _) | (with_reducible refine Ext.drewN ?_ _) | (with_reducible refine Ext.drew ?_) | (with_reducible refine Ext.trans ?_ (by assumption)))); done))) ?_; rintro e wL ⟨rfl, rfl⟩)
      | (go_at_call 31; refine Calls.mono (HSE.out _) ?_; rintro e wS ⟨rfl, hxS⟩))
  all_goals
    have hx1S : Ext w1 wS := (by repeat' (first | (with_reducible exact Ext.refl _) | (with_reducible assumption) | (with_reducible refine Ext.alloc ?_ _) | (with_reducible refine Ext.drewN ?_ _) | (with_reducible refine Ext.drew ?_) | (with_reducible refine Ext.trans ?_ (by assumption))))
    have hXS := hxA.trans hx1S
    have y0 := hx1S.cellv y0
    have y1 := hx1S.cellv y1
    have y2 := hx1S.cellv y2
    have y3 := hx1S.cellv y3
    clear hx1S hxS hxR hxA
    go_upto_region 6 with fail
    have hxB : Ext w (wS.alloc (.cells #[.int .i64 x0, .int .i64 x1, .int .i64 x2, .int .i64 x3, .pointer (some ⟨p, 0, none⟩)] 73)) := hXS.alloc _
    have hst := HST2.out (wS.alloc (.cells #[.int .i64 x0, .int .i64 x1, .int .i64 x2, .int .i64 x3, .pointer (some ⟨p, 0, none⟩)] 73)) wS.heap.size hxB hXS.size ⟨_, heap_alloc_new wS _⟩
    have hsz := hXS.size
    generalize (wS.alloc (.cells #[.int .i64 x0, .int .i64 x1, .int .i64 x2, .int .i64 x3, .pointer (some ⟨p, 0, none⟩)] 73)) = w3 at *
    obtain ⟨ps, hps⟩ : ∃ ps, ps = wS.heap.size := ⟨_, rfl⟩
    rw [← hps] at hst hsz ⊢
    have HSTT := Lib.hid hst
    have HJJ := Lib.hid (HJN.out w3 ps hst)
    clear hps hst y0 y1 y2 y3
    go_wp2_with fail
    refine HJJ.out.mono ?_
    rintro e wJ ⟨vt, rfl, ho, hxJ⟩
    obtain ⟨aT, nT, cT, rfl⟩ := ho.rd.isSlice
    clear ho
    go_wp2_with fail
    go_ret2
    exact ⟨ps, rfl, HSTT.out.ext (by repeat' (first | (with_reducible exact Ext.refl _) | (with_reducible assumption) | (with_reducible refine Ext.alloc ?_ _) | (with_reducible refine Ext.drewN ?_ _) | (with_reducible refine Ext.drew ?_) | (with_reducible refine Ext.trans ?_ (by assumption)))), hsz, hxB.trans (by repeat' (first | (with_reducible exact Ext.refl _) | (with_reducible assumption) | (with_reducible refine Ext.alloc ?_ _) | (with_reducible refine Ext.drewN ?_ _) | (with_reducible refine Ext.drew ?_) | (with_reducible refine Ext.trans ?_ (by assumption))))⟩
end
end Go.Proofs.Ytoadjmeopamgbaa
