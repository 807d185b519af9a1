/-
  gradinelaw07.FramePuts answers true. No condition.
-/
import Derived.Test.YtmkobmkaalfecaaFrRef
import Derived.Test.YtmkobmkaalfecaaFrGet2
import Derived.Deep.RegionHeld3
namespace Go.Proofs.Ytmkobmkaalfecaa
open Go.RowKit

theorem same_eq (v1 v2 : Value) (l : List Int) (w : World) (h1 : RdI .u8 w v1 l) (h2 : RdI .u8 w v2 l) :
    Calls Try.prog 19 #[v1, v2] w fun e w' => e = .returned (.bool true) ∧ Ext w w' :=
  (same_any v1 v2 l l w h1 h2).mono fun e w' h => ⟨by have := h.1; simpa using this, h.2⟩

theorem own_empty_at {k : IntKind} {e : TypeId} {w : World} {base g : Nat} (hg : g = w.heap.size) (hb : base ≤ w.heap.size) : OwnI k e base (w.alloc (.cells #[] e)) (.slice (some ⟨g, 0, none⟩) 0 0) [] := by
  subst hg; exact OwnI.empty k e w hb
/-- a packet's cells -/
def PAt (w : World) (p : Nat) (m y s k : Int) (v : Value) : Prop := w.heap[p]? = some (.cells #[.int .i64 m, .int .i64 y, .int .i64 s, .int .i64 k, v] 49)
theorem PAt.ext {w w' : World} {p : Nat} {m y s k : Int} {v : Value} (h : PAt w p m y s k v) (hx : Ext w w') : PAt w' p m y s k v :=
  (Below.block hx _ (Array.getElem?_eq_some_iff.1 h).1).trans h
theorem PAt.c0 {w : World} {p : Nat} {m y s k : Int} {v : Value} (h : PAt w p m y s k v) : w.cell? ⟨p, 0, none⟩ = some (.int .i64 m) := cell_of_row w p 0 _ _ _ h
theorem PAt.c1 {w : World} {p : Nat} {m y s k : Int} {v : Value} (h : PAt w p m y s k v) : w.cell? ⟨p, 1, none⟩ = some (.int .i64 y) := cell_of_row w p 1 _ _ _ h
theorem PAt.c2 {w : World} {p : Nat} {m y s k : Int} {v : Value} (h : PAt w p m y s k v) : w.cell? ⟨p, 2, none⟩ = some (.int .i64 s) := cell_of_row w p 2 _ _ _ h
theorem PAt.c3 {w : World} {p : Nat} {m y s k : Int} {v : Value} (h : PAt w p m y s k v) : w.cell? ⟨p, 3, none⟩ = some (.int .i64 k) := cell_of_row w p 3 _ _ _ h
theorem PAt.c4 {w : World} {p : Nat} {m y s k : Int} {v : Value} (h : PAt w p m y s k v) : w.cell? ⟨p, 4, none⟩ = some v := cell_of_row w p 4 _ _ _ h
theorem PAt.lt {w : World} {p : Nat} {m y s k : Int} {v : Value} (h : PAt w p m y s k v) : p < w.heap.size := (Array.getElem?_eq_some_iff.1 h).1
theorem pat_new (w : World) (m y s k : Int) (v : Value) : PAt (w.alloc (.cells #[.int .i64 m, .int .i64 y, .int .i64 s, .int .i64 k, v] 49)) w.heap.size m y s k v := heap_alloc_new w _

set_option maxRecDepth 100000 in
set_option maxHeartbeats 8000000 in
theorem walk_FramePuts (v0 : Value) (w : World) (h0 : IsFlat Try.prog 49 w v0) :
    Calls Try.prog 8 #[v0] w fun e w' => e = .returned (.bool true) ∧ Ext w w' := by
  obtain ⟨m, y, s, k, u, t, rfl, hr, hb⟩ := pkt_of h0
  have HB := Lib.hid hb
  obtain ⟨a, c, rfl, hc, hm, hn, hs⟩ := hr.parts
  have hl63 : (t.length : Int) ≤ 9223372036854775807 := by unfold maxLen at hm; omega
  obtain ⟨n, hnn⟩ : ∃ n, n = t.length := ⟨_, rfl⟩
  have HN := Lib.hid hnn
  clear h0 hb hc hm hn hs
  rw [← hnn] at hl63 hr ⊢
  have HRR := Lib.hid hr
  clear hnn hr
  unfold pktV
  by_cases hbig : n ≤ 300
  · have hb5 : (n : Int) ≤ 300 := by omega
    go_enter Try.func8, Try.ntmps8
    go_wp2_with fail
    have hP1 := pat_new w m y s k (.slice a n c)
    have hX0 : Ext w (w.alloc (.cells #[.int .i64 m, .int .i64 y, .int .i64 s, .int .i64 k, .slice a n c] 49)) := (by repeat' (first | (with_reducible exact Ext.refl _) | (with_reducible assumption) | (with_reducible refine Ext.alloc ?_ _) | (with_reducible refine Ext.drewN ?_ _) | (with_reducible refine Ext.drew ?_) | (with_reducible refine Ext.trans ?_ (by assumption))))
    generalize (w.alloc (.cells #[.int .i64 m, .int .i64 y, .int .i64 s, .int .i64 k, .slice a n c] 49)) = w0 at *
    refine (wakes07 _).mono ?_
    rintro e w1 ⟨rfl, hx1⟩
    have hP1 := hP1.ext hx1
    have c0 := hP1.c0
    have c1 := hP1.c1
    have c2 := hP1.c2
    have c3 := hP1.c3
    have c4 := hP1.c4
    have hX1 : Ext w w1 := hX0.trans hx1
    clear hx1 hX0
    have hw01 : w.heap.size ≤ w1.heap.size := hX1.size
    have hP3 := pat_new w1 m y s k (.slice a n c)
    have hp13 : w.heap.size ≠ w1.heap.size := by have := hP1.lt; omega
    have c4' : ((w1.alloc (.cells #[.int .i64 m, .int .i64 y, .int .i64 s, .int .i64 k, .slice a n c] 49)).alloc (.cells #[] 5)).cell? ⟨w.heap.size, 4, none⟩ = some (.slice a n c) := cell_old _ (cell_old _ c4)
    have hsz : (w1.alloc (.cells #[.int .i64 m, .int .i64 y, .int .i64 s, .int .i64 k, .slice a n c] 49)).heap.size = w1.heap.size + 1 := Array.size_push _
    go_wp2_with (at_builtin; refine wpList_append_ints rfl _ _ 24 rfl 5 .u8 0 1 Try.underlying24 bytes_info (by decide) (w1.alloc (.cells #[.int .i64 m, .int .i64 y, .int .i64 s, .int .i64 k, .slice a n c] 49)) (by repeat' (first | (with_reducible exact Ext.refl _) | (with_reducible assumption) | (with_reducible refine Ext.alloc ?_ _) | (with_reducible refine Ext.drewN ?_ _) | (with_reducible refine Ext.drew ?_) | (with_reducible refine Ext.trans ?_ (by assumption)))) _ _ rfl (own_empty_at hsz.symm (Nat.le_refl _)) _ _ rfl (HRR.out.ext (by repeat' (first | (with_reducible exact Ext.refl _) | (with_reducible assumption) | (with_reducible refine Ext.alloc ?_ _) | (with_reducible refine Ext.drewN ?_ _) | (with_reducible refine Ext.drew ?_) | (with_reducible refine Ext.trans ?_ (by assumption))))) (by have := HN.out; unfold Fits; simp; omega) ?_)
    intro v3 w3 ho3 hx3
    have hP1 := (hP1.ext ((Ext.refl w1).alloc (.cells #[.int .i64 m, .int .i64 y, .int .i64 s, .int .i64 k, .slice a n c] 49))).ext hx3
    have hP3 := hP3.ext hx3
    have hX3 : Ext w w3 := (hX1.trans ((Ext.refl w1).alloc (.cells #[.int .i64 m, .int .i64 y, .int .i64 s, .int .i64 k, .slice a n c] 49))).trans hx3
    have hX13 : Ext w1 w3 := ((Ext.refl w1).alloc (.cells #[.int .i64 m, .int .i64 y, .int .i64 s, .int .i64 k, .slice a n c] 49)).trans hx3
    clear c0 c1 c2 c3 c4 c4' hx3 hsz hX1
    have HO3 := Lib.hid ho3
    obtain ⟨_, a3, q3, hv3, _⟩ := ho3.rd
    rw [← HN.out] at hv3
    subst hv3
    have d4 := hP3.c4
    have fz := frozen_row hP3 4
    have e0 := hP3.c0
    have e1 := hP3.c1
    have e2 := hP3.c2
    have e3 := hP3.c3
    clear ho3
    go_wp2_with fail
    have hX6 : Ext w (w3.setCell ⟨w1.heap.size, 4, none⟩ (.slice a3 n q3)) := Below.setCell (p := ⟨w1.heap.size, 4, none⟩) hX3 hw01 _
    have hP1 : PAt (w3.setCell ⟨w1.heap.size, 4, none⟩ (.slice a3 n q3)) w.heap.size m y s k (.slice a n c) := (Below.heap_setCell _ _ _ _ hp13).trans hP1
    have hP3 : PAt (w3.setCell ⟨w1.heap.size, 4, none⟩ (.slice a3 n q3)) w1.heap.size m y s k (.slice a3 n q3) := by
      have := heap_set (o := 4) hP3 (.slice a3 n q3)
      exact this
    have HR3 := Lib.hid ((HO3.out.chg (S := [w1.heap.size]) (w' := w3.setCell ⟨w1.heap.size, 4, none⟩ (.slice a3 n q3)) (by repeat' (first | (with_reducible exact Chg.refl _ _) | (with_reducible assumption) | (with_reducible refine Chg.drewN ?_ _) | (with_reducible refine Chg.drew ?_) | (with_reducible refine Chg.alloc ?_ _) | (with_reducible refine Chg.setCell ?_ (.inl (by simp)) _) | (with_reducible refine Chg.trans ?_ (by assumption)) | (with_reducible refine Chg.ext ?_ (by assumption)))) (by simp)).rd)
    generalize (w3.setCell ⟨w1.heap.size, 4, none⟩ (.slice a3 n q3)) = w6 at *
    clear d4 fz e0 e1 e2 e3 HO3 hX3 hX13
    by_cases ok : FOk m y s k n
    · have HOK : Hid (FOk m y s k t.length) := Lib.hid (by rw [← HN.out]; exact ok)
      have HF := Lib.hid (fun w => fright m y s k a c n w true (decide_eq_true ok))
      have HG := Lib.hid (fun w => rfright m y s k a c n w true (decide_eq_true ok))
      have HPut := Lib.hid (fun w h => frput_ok m y s k (.slice a3 n q3) t w h HB.out HOK.out)
      have HRef := Lib.hid (fun w h => rput_ok m y s k (.slice a n c) t w h HB.out HOK.out)
      have HGet := Lib.hid (fun v w h => frget_ok m y s k v t w HB.out HOK.out h)
      clear ok
      unfold pktV at HF HG HPut HRef HGet
      refine (HPut.out _ HR3.out).mono ?_
      rintro e w7 ⟨v7, rfl, ho7, hx7⟩
      have ho7 := ho7.rd
      have c0 := (hP1.ext hx7).c0
      have c1 := (hP1.ext hx7).c1
      have c2 := (hP1.ext hx7).c2
      have c3 := (hP1.ext hx7).c3
      have c4 := (hP1.ext hx7).c4
      go_wp2_with fail
      refine (HRef.out _ (HRR.out.ext (hX6.trans hx7))).mono ?_
      rintro e w8 ⟨v8, rfl, ho8, hx8⟩
      have ho8 := ho8.rd
      have ho7 := ho7.ext hx8
      have HB7 := Lib.hid ho7
      clear c0 c1 c2 c3 c4
      have hP1 := (hP1.ext hx7).ext hx8
      have hP3 := (hP3.ext hx7).ext hx8
      have y0 := hP1.c0
      have y1 := hP1.c1
      have y2 := hP1.c2
      have y3 := hP1.c3
      have y4 := hP1.c4
      have z0 := hP3.c0
      have z1 := hP3.c1
      have z2 := hP3.c2
      have z3 := hP3.c3
      have z4 := hP3.c4
      have hX8 : Ext w w8 := (hX6.trans hx7).trans hx8
      have HS1 : Hid (∀ w', Ext w8 w' → Calls Try.prog 19 #[v7, v8] w' fun e w'' => e = .returned (.bool true) ∧ Ext w' w'') := Lib.hid (fun w' hx' => same_eq _ _ (fbytes m y s k t) w' (ho7.ext hx') (ho8.ext hx'))
      have HS2 : Hid (∀ w', Ext w8 w' → Calls Try.prog 33 #[.agg #[.int .i64 m, .int .i64 y, .int .i64 s, .int .i64 k, .slice a3 n q3], .agg #[.int .i64 m, .int .i64 y, .int .i64 s, .int .i64 k, .slice a n c]] w' fun e w'' => e = .returned (.bool true) ∧ Ext w' w'') := Lib.hid (fun w' hx' => rsame m y s k _ _ t w' (HR3.out.ext ((hx7.trans hx8).trans hx')) (HRR.out.ext (hX8.trans hx')))
      clear ho7 ho8 hx7 hx8 hX6
      go_wp2_with fail
      go_region_held3 (fun w' => w'.cell? ⟨w.heap.size, 0, none⟩ = some (.int .i64 m) ∧ w'.cell? ⟨w.heap.size, 1, none⟩ = some (.int .i64 y) ∧ w'.cell? ⟨w.heap.size, 2, none⟩ = some (.int .i64 s) ∧ w'.cell? ⟨w.heap.size, 3, none⟩ = some (.int .i64 k) ∧ w'.cell? ⟨w.heap.size, 4, none⟩ = some (.slice a n c) ∧ w'.cell? ⟨w1.heap.size, 0, none⟩ = some (.int .i64 m) ∧ w'.cell? ⟨w1.heap.size, 1, none⟩ = some (.int .i64 y) ∧ w'.cell? ⟨w1.heap.size, 2, none⟩ = some (.int .i64 s) ∧ w'.cell? ⟨w1.heap.size, 3, none⟩ = some (.int .i64 k) ∧ w'.cell? ⟨w1.heap.size, 4, none⟩ = some (.slice a3 n q3) ∧ Ext w8 w') (exact ⟨Ext.cellv (w := w8) (by repeat' (first | (with_reducible exact Ext.refl _) | (with_reducible assumption) | (with_reducible refine Ext.alloc ?_ _) | (with_reducible refine Ext.drewN ?_ _) | (with_reducible refine Ext.drew ?_) | (with_reducible refine Ext.trans ?_ (by assumption)))) y0, Ext.cellv (w := w8) (by repeat' (first | (with_reducible exact Ext.refl _) | (with_reducible assumption) | (with_reducible refine Ext.alloc ?_ _) | (with_reducible refine Ext.drewN ?_ _) | (with_reducible refine Ext.drew ?_) | (with_reducible refine Ext.trans ?_ (by assumption)))) y1, Ext.cellv (w := w8) (by repeat' (first | (with_reducible exact Ext.refl _) | (with_reducible assumption) | (with_reducible refine Ext.alloc ?_ _) | (with_reducible refine Ext.drewN ?_ _) | (with_reducible refine Ext.drew ?_) | (with_reducible refine Ext.trans ?_ (by assumption)))) y2, Ext.cellv (w := w8) (by repeat' (first | (with_reducible exact Ext.refl _) | (with_reducible assumption) | (with_reducible refine Ext.alloc ?_ _) | (with_reducible refine Ext.drewN ?_ _) | (with_reducible refine Ext.drew ?_) | (with_reducible refine Ext.trans ?_ (by assumption)))) y3, Ext.cellv (w := w8) (by repeat' (first | (with_reducible exact Ext.refl _) | (with_reducible assumption) | (with_reducible refine Ext.alloc ?_ _) | (with_reducible refine Ext.drewN ?_ _) | (with_reducible refine Ext.drew ?_) | (with_reducible refine Ext.trans ?_ (by assumption)))) y4, Ext.cellv (w := w8) (by repeat' (first | (with_reducible exact Ext.refl _) | (with_reducible assumption) | (with_reducible refine Ext.alloc ?_ _) | (with_reducible refine Ext.drewN ?_ _) | (with_reducible refine Ext.drew ?_) | (with_reducible refine Ext.trans ?_ (by assumption)))) z0, Ext.cellv (w := w8) (by repeat' (first | (with_reducible exact Ext.refl _) | (with_reducible assumption) | (with_reducible refine Ext.alloc ?_ _) | (with_reducible refine Ext.drewN ?_ _) | (with_reducible refine Ext.drew ?_) | (with_reducible refine Ext.trans ?_ (by assumption)))) z1, Ext.cellv (w := w8) (by repeat' (first | (with_reducible exact Ext.refl _) | (with_reducible assumption) | (with_reducible refine Ext.alloc ?_ _) | (with_reducible refine Ext.drewN ?_ _) | (with_reducible refine Ext.drew ?_) | (with_reducible refine Ext.trans ?_ (by assumption)))) z2, Ext.cellv (w := w8) (by repeat' (first | (with_reducible exact Ext.refl _) | (with_reducible assumption) | (with_reducible refine Ext.alloc ?_ _) | (with_reducible refine Ext.drewN ?_ _) | (with_reducible refine Ext.drew ?_) | (with_reducible refine Ext.trans ?_ (by assumption)))) z3, Ext.cellv (w := w8) (by repeat' (first | (with_reducible exact Ext.refl _) | (with_reducible assumption) | (with_reducible refine Ext.alloc ?_ _) | (with_reducible refine Ext.drewN ?_ _) | (with_reducible refine Ext.drew ?_) | (with_reducible refine Ext.trans ?_ (by assumption)))) z4, (by repeat' (first | (with_reducible exact Ext.refl _) | (with_reducible assumption) | (with_reducible refine Ext.alloc ?_ _) | (with_reducible refine Ext.drewN ?_ _) | (with_reducible refine Ext.drew ?_) | (with_reducible refine Ext.trans ?_ (by assumption))))⟩)
        (first | (go_at_call 19; refine (HS1.out _ (by repeat' (first | (with_reducible exact Ext.refl _) | (with_reducible assumption) | (with_reducible refine Ext.alloc ?_ _) | (with_reducible refine Ext.drewN ?_ _) | (with_reducible refine Ext.drew ?_) | (with_reducible refine Ext.trans ?_ (by assumption))))).mono ?_; rintro e wC ⟨rfl, hxC⟩) | (go_at_call 33; refine (HS2.out _ (by repeat' (first | (with_reducible exact Ext.refl _) | (with_reducible assumption) | (with_reducible refine Ext.alloc ?_ _) | (with_reducible refine Ext.drewN ?_ _) | (with_reducible refine Ext.drew ?_) | (with_reducible refine Ext.trans ?_ (by assumption))))).mono ?_; rintro e wC ⟨rfl, hxC⟩) | (go_at_call 34; refine (HF.out _).mono ?_; rintro e wC ⟨rfl, hxC⟩) | (go_at_call 35; refine (HG.out _).mono ?_; rintro e wC ⟨rfl, hxC⟩))
      all_goals
        go_wp2_with fail
        refine (HGet.out _ _ (HB7.out.ext (by repeat' (first | (with_reducible exact Ext.refl _) | (with_reducible assumption) | (with_reducible refine Ext.alloc ?_ _) | (with_reducible refine Ext.drewN ?_ _) | (with_reducible refine Ext.drew ?_) | (with_reducible refine Ext.trans ?_ (by assumption)))))).mono ?_
        rintro e w9 ⟨u9, rfl, hu9, hx9⟩
        have HU9 := Lib.hid hu9
        obtain ⟨_, a9, q9, hv9, _⟩ := hu9
        subst hv9
        have hX89 : Ext w8 w9 := (by repeat' (first | (with_reducible exact Ext.refl _) | (with_reducible assumption) | (with_reducible refine Ext.alloc ?_ _) | (with_reducible refine Ext.drewN ?_ _) | (with_reducible refine Ext.drew ?_) | (with_reducible refine Ext.trans ?_ (by assumption))))
        have hX9 : Ext w w9 := hX8.trans hX89
        have f0 := cell_old (.cells #[.int .i64 m, .int .i64 y, .int .i64 s, .int .i64 k, .slice a9 t.length q9] 49) (Ext.cellv hX89 y0)
        have f1 := cell_old (.cells #[.int .i64 m, .int .i64 y, .int .i64 s, .int .i64 k, .slice a9 t.length q9] 49) (Ext.cellv hX89 y1)
        have f2 := cell_old (.cells #[.int .i64 m, .int .i64 y, .int .i64 s, .int .i64 k, .slice a9 t.length q9] 49) (Ext.cellv hX89 y2)
        have f3 := cell_old (.cells #[.int .i64 m, .int .i64 y, .int .i64 s, .int .i64 k, .slice a9 t.length q9] 49) (Ext.cellv hX89 y3)
        have f4 := cell_old (.cells #[.int .i64 m, .int .i64 y, .int .i64 s, .int .i64 k, .slice a9 t.length q9] 49) (Ext.cellv hX89 y4)
        go_wp2_with fail
        refine (rsame m y s k (.slice a9 t.length q9) (.slice a n c) t _ (HU9.out.ext (by repeat' (first | (with_reducible exact Ext.refl _) | (with_reducible assumption) | (with_reducible refine Ext.alloc ?_ _) | (with_reducible refine Ext.drewN ?_ _) | (with_reducible refine Ext.drew ?_) | (with_reducible refine Ext.trans ?_ (by assumption))))) (HRR.out.ext (by repeat' (first | (with_reducible exact Ext.refl _) | (with_reducible assumption) | (with_reducible refine Ext.alloc ?_ _) | (with_reducible refine Ext.drewN ?_ _) | (with_reducible refine Ext.drew ?_) | (with_reducible refine Ext.trans ?_ (by assumption)))))).mono ?_
        rintro e w10 ⟨rfl, hx10⟩
        go_wp2_with fail
        go_ret
        exact ⟨rfl, (by repeat' (first | (with_reducible exact Ext.refl _) | (with_reducible assumption) | (with_reducible refine Ext.alloc ?_ _) | (with_reducible refine Ext.drewN ?_ _) | (with_reducible refine Ext.drew ?_) | (with_reducible refine Ext.trans ?_ (by assumption))))⟩
    · have HF := Lib.hid (fun w => fright m y s k a c n w false (decide_eq_false ok))
      have HG := Lib.hid (fun w => rfright m y s k a c n w false (decide_eq_false ok))
      have HPut := Lib.hid (fun w => frput_bad m y s k a3 q3 n w ok)
      have HRef := Lib.hid (fun w => rput_bad m y s k a c n w ok)
      clear ok
      unfold pktV at HF HG HPut HRef
      refine (HPut.out _).mono ?_
      rintro e w7 ⟨rfl, hx7⟩
      have c0 := (hP1.ext hx7).c0
      have c1 := (hP1.ext hx7).c1
      have c2 := (hP1.ext hx7).c2
      have c3 := (hP1.ext hx7).c3
      have c4 := (hP1.ext hx7).c4
      go_wp2_with fail
      refine (HRef.out _).mono ?_
      rintro e w8 ⟨rfl, hx8⟩
      have ho7 := RdI.nil .u8 w8
      have ho8 := RdI.nil .u8 w8
      clear c0 c1 c2 c3 c4
      have hP1 := (hP1.ext hx7).ext hx8
      have hP3 := (hP3.ext hx7).ext hx8
      have y0 := hP1.c0
      have y1 := hP1.c1
      have y2 := hP1.c2
      have y3 := hP1.c3
      have y4 := hP1.c4
      have z0 := hP3.c0
      have z1 := hP3.c1
      have z2 := hP3.c2
      have z3 := hP3.c3
      have z4 := hP3.c4
      have hX8 : Ext w w8 := (hX6.trans hx7).trans hx8
      have HS1 : Hid (∀ w', Ext w8 w' → Calls Try.prog 19 #[.slice none 0 0, .slice none 0 0] w' fun e w'' => e = .returned (.bool true) ∧ Ext w' w'') := Lib.hid (fun w' hx' => same_eq _ _ [] w' (ho7.ext hx') (ho8.ext hx'))
      have HS2 : Hid (∀ w', Ext w8 w' → Calls Try.prog 33 #[.agg #[.int .i64 m, .int .i64 y, .int .i64 s, .int .i64 k, .slice a3 n q3], .agg #[.int .i64 m, .int .i64 y, .int .i64 s, .int .i64 k, .slice a n c]] w' fun e w'' => e = .returned (.bool true) ∧ Ext w' w'') := Lib.hid (fun w' hx' => rsame m y s k _ _ t w' (HR3.out.ext ((hx7.trans hx8).trans hx')) (HRR.out.ext (hX8.trans hx')))
      clear ho7 ho8 hx7 hx8 hX6
      go_wp2_with fail
      go_region_held3 (fun w' => w'.cell? ⟨w.heap.size, 0, none⟩ = some (.int .i64 m) ∧ w'.cell? ⟨w.heap.size, 1, none⟩ = some (.int .i64 y) ∧ w'.cell? ⟨w.heap.size, 2, none⟩ = some (.int .i64 s) ∧ w'.cell? ⟨w.heap.size, 3, none⟩ = some (.int .i64 k) ∧ w'.cell? ⟨w.heap.size, 4, none⟩ = some (.slice a n c) ∧ w'.cell? ⟨w1.heap.size, 0, none⟩ = some (.int .i64 m) ∧ w'.cell? ⟨w1.heap.size, 1, none⟩ = some (.int .i64 y) ∧ w'.cell? ⟨w1.heap.size, 2, none⟩ = some (.int .i64 s) ∧ w'.cell? ⟨w1.heap.size, 3, none⟩ = some (.int .i64 k) ∧ w'.cell? ⟨w1.heap.size, 4, none⟩ = some (.slice a3 n q3) ∧ Ext w8 w') (exact ⟨Ext.cellv (w := w8) (by repeat' (first | (with_reducible exact Ext.refl _) | (with_reducible assumption) | (with_reducible refine Ext.alloc ?_ _) | (with_reducible refine Ext.drewN ?_ _) | (with_reducible refine Ext.drew ?_) | (with_reducible refine Ext.trans ?_ (by assumption)))) y0, Ext.cellv (w := w8) (by repeat' (first | (with_reducible exact Ext.refl _) | (with_reducible assumption) | (with_reducible refine Ext.alloc ?_ _) | (with_reducible refine Ext.drewN ?_ _) | (with_reducible refine Ext.drew ?_) | (with_reducible refine Ext.trans ?_ (by assumption)))) y1, Ext.cellv (w := w8) (by repeat' (first | (with_reducible exact Ext.refl _) | (with_reducible assumption) | (with_reducible refine Ext.alloc ?_ _) | (with_reducible refine Ext.drewN ?_ _) | (with_reducible refine Ext.drew ?_) | (with_reducible refine Ext.trans ?_ (by assumption)))) y2, Ext.cellv (w := w8) (by repeat' (first | (with_reducible exact Ext.refl _) | (with_reducible assumption) | (with_reducible refine Ext.alloc ?_ _) | (with_reducible refine Ext.drewN ?_ _) | (with_reducible refine Ext.drew ?_) | (with_reducible refine Ext.trans ?_ (by assumption)))) y3, Ext.cellv (w := w8) (by repeat' (first | (with_reducible exact Ext.refl _) | (with_reducible assumption) | (with_reducible refine Ext.alloc ?_ _) | (with_reducible refine Ext.drewN ?_ _) | (with_reducible refine Ext.drew ?_) | (with_reducible refine Ext.trans ?_ (by assumption)))) y4, Ext.cellv (w := w8) (by repeat' (first | (with_reducible exact Ext.refl _) | (with_reducible assumption) | (with_reducible refine Ext.alloc ?_ _) | (with_reducible refine Ext.drewN ?_ _) | (with_reducible refine Ext.drew ?_) | (with_reducible refine Ext.trans ?_ (by assumption)))) z0, Ext.cellv (w := w8) (by repeat' (first | (with_reducible exact Ext.refl _) | (with_reducible assumption) | (with_reducible refine Ext.alloc ?_ _) | (with_reducible refine Ext.drewN ?_ _) | (with_reducible refine Ext.drew ?_) | (with_reducible refine Ext.trans ?_ (by assumption)))) z1, Ext.cellv (w := w8) (by repeat' (first | (with_reducible exact Ext.refl _) | (with_reducible assumption) | (with_reducible refine Ext.alloc ?_ _) | (with_reducible refine Ext.drewN ?_ _) | (with_reducible refine Ext.drew ?_) | (with_reducible refine Ext.trans ?_ (by assumption)))) z2, Ext.cellv (w := w8) (by repeat' (first | (with_reducible exact Ext.refl _) | (with_reducible assumption) | (with_reducible refine Ext.alloc ?_ _) | (with_reducible refine Ext.drewN ?_ _) | (with_reducible refine Ext.drew ?_) | (with_reducible refine Ext.trans ?_ (by assumption)))) z3, Ext.cellv (w := w8) (by repeat' (first | (with_reducible exact Ext.refl _) | (with_reducible assumption) | (with_reducible refine Ext.alloc ?_ _) | (with_reducible refine Ext.drewN ?_ _) | (with_reducible refine Ext.drew ?_) | (with_reducible refine Ext.trans ?_ (by assumption)))) z4, (by repeat' (first | (with_reducible exact Ext.refl _) | (with_reducible assumption) | (with_reducible refine Ext.alloc ?_ _) | (with_reducible refine Ext.drewN ?_ _) | (with_reducible refine Ext.drew ?_) | (with_reducible refine Ext.trans ?_ (by assumption))))⟩)
        (first | (go_at_call 19; refine (HS1.out _ (by repeat' (first | (with_reducible exact Ext.refl _) | (with_reducible assumption) | (with_reducible refine Ext.alloc ?_ _) | (with_reducible refine Ext.drewN ?_ _) | (with_reducible refine Ext.drew ?_) | (with_reducible refine Ext.trans ?_ (by assumption))))).mono ?_; rintro e wC ⟨rfl, hxC⟩) | (go_at_call 33; refine (HS2.out _ (by repeat' (first | (with_reducible exact Ext.refl _) | (with_reducible assumption) | (with_reducible refine Ext.alloc ?_ _) | (with_reducible refine Ext.drewN ?_ _) | (with_reducible refine Ext.drew ?_) | (with_reducible refine Ext.trans ?_ (by assumption))))).mono ?_; rintro e wC ⟨rfl, hxC⟩) | (go_at_call 34; refine (HF.out _).mono ?_; rintro e wC ⟨rfl, hxC⟩) | (go_at_call 35; refine (HG.out _).mono ?_; rintro e wC ⟨rfl, hxC⟩))
      all_goals
        go_wp2_with fail
        go_ret
        exact ⟨rfl, (by repeat' (first | (with_reducible exact Ext.refl _) | (with_reducible assumption) | (with_reducible refine Ext.alloc ?_ _) | (with_reducible refine Ext.drewN ?_ _) | (with_reducible refine Ext.drew ?_) | (with_reducible refine Ext.trans ?_ (by assumption))))⟩
  · have hb5 : ¬ (n : Int) ≤ 300 := by omega
    go_enter Try.func8, Try.ntmps8
    go_wp2_with fail
    refine (wakes07 _).mono ?_
    rintro e w1 ⟨rfl, hx1⟩
    have c4 := hx1.cellv (cell_new w #[.int .i64 m, .int .i64 y, .int .i64 s, .int .i64 k, .slice a n c] 49 (0, 0) (j := 4) rfl)
    go_wp2_with fail
    go_ret
    exact ⟨rfl, (by repeat' (first | (with_reducible exact Ext.refl _) | (with_reducible assumption) | (with_reducible refine Ext.alloc ?_ _) | (with_reducible refine Ext.drewN ?_ _) | (with_reducible refine Ext.drew ?_) | (with_reducible refine Ext.trans ?_ (by assumption))))⟩
end Go.Proofs.Ytmkobmkaalfecaa
