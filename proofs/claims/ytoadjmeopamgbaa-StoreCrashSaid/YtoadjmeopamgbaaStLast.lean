/-
  store.Read, store.last. No condition but that the store lies in memory.
-/
import Derived.Test.YtoadjmeopamgbaaStBlk
import Derived.Deep.Cut
import Derived.Deep.CutRange
import Derived.Deep.CutBlock
namespace Go.Proofs.Ytoadjmeopamgbaa
open Go.RowKit

theorem run_loadVar_int {w : World} {g : Nat} {v : Value} (h : w.cell? ⟨g, 0, none⟩ = some v) : (loadVar 3 ⟨g, 0, none⟩).run Try.prog w = .ok v w := by
  have hagg : (isAgg 3).run Try.prog w = .ok false w := by
    unfold isAgg
    rw [Sem.run_bind, run_underlying Try.underlying3 w]
    rfl
  simp [loadVar, Sem.run_bind, hagg, go_sem, h]
theorem results_cct {fn : Func} {p q u : Tmp} (h : fn.results = #[.cell p 3, .cell q 3, .tmp u]) (tmps : Array Value) (w : World) (g g2 : Nat) (v v2 : Value)
    (hp : tmps.getD p undef = .pointer (some ⟨g, 0, none⟩)) (hq : tmps.getD q undef = .pointer (some ⟨g2, 0, none⟩)) (hg : w.cell? ⟨g, 0, none⟩ = some v) (hg2 : w.cell? ⟨g2, 0, none⟩ = some v2) :
    (results fn tmps).run Try.prog w = .ok (.tuple #[v, v2, tmps.getD u undef]) w := by
  have hp' : tmps[p]?.getD undef = .pointer (some ⟨g, 0, none⟩) := by simpa using hp
  have hq' : tmps[q]?.getD undef = .pointer (some ⟨g2, 0, none⟩) := by simpa using hq
  simp [results, h, hp', hq', asAddr, Result.andThen, run_loadVar_int hg, run_loadVar_int hg2]

theorem two_set {w : World} {g g2 : Nat} {u u2 : Value} {t t2 : TypeId} (h : w.heap[g]? = some (.cells #[u] t (0, 0))) (h2 : w.heap[g2]? = some (.cells #[u2] t2 (0, 0))) (ne : g ≠ g2) (x y : Value) :
    ((w.setCell ⟨g, 0, none⟩ x).setCell ⟨g2, 0, none⟩ y).cell? ⟨g, 0, none⟩ = some x ∧ ((w.setCell ⟨g, 0, none⟩ x).setCell ⟨g2, 0, none⟩ y).cell? ⟨g2, 0, none⟩ = some y := by
  have a1 := heap_set (o := 0) h x
  have a2 : (w.setCell ⟨g, 0, none⟩ x).heap[g2]? = some (.cells #[u2] t2 (0, 0)) := (Below.heap_setCell _ _ _ _ (fun e => ne e.symm)).trans h2
  have a3 := heap_set (o := 0) a2 y
  have a4 : ((w.setCell ⟨g, 0, none⟩ x).setCell ⟨g2, 0, none⟩ y).heap[g]? = _ := (Below.heap_setCell _ _ _ _ ne).trans a1
  exact ⟨by rw [cell_of_row _ _ _ _ _ _ a4]; simp, by rw [cell_of_row _ _ _ _ _ _ a3]; simp⟩
/-- what a slot's sector says: its boot, its number, its answer -/
def sSlotOk (B : List Int) : Prop := (rdAll B (0, true) 3).2 = true ∧ (rdAll B (0, true) 3).1 = B.length ∧ rdVal B (0, true) 0 ≤ 1099511627776 ∧ rdVal B (0, true) 1 ≤ 1099511627776 ∧ rdVal B (0, true) 2 ≤ 16
instance (B : List Int) : Decidable (sSlotOk B) := by unfold sSlotOk; infer_instance
def sSlot (B : List Int) : Int × Int × Int := if sSlotOk B then (rdVal B (0, true) 0, rdVal B (0, true) 1, rdVal B (0, true) 2) else (0, 0, 0)

section
variable (w : World) (F : List Nat) (ps p bl : Nat) (h : Sh) (d : Dk)
theorem sRead (s : StAt w F ps p bl h d) (b : Nat) (hb : b < h.b) :
    Calls Try.prog 22 #[.pointer (some ⟨ps, 0, none⟩), .int .i64 b] w fun e w' => ∃ vt, e = .returned (.tuple #[vt, .int .i64 (sBlk h.s (d.rows.getD (1 + b) [])).1, .int .i64 0]) ∧ OwnI .u8 5 w.heap.size w' vt (sBlk h.s (d.rows.getD (1 + b) [])).2 ∧ Ext w w' := by
  have c0 := s.c0
  have HB := Lib.hid (fun w' (hx : Ext w w') => sblock w' F ps p bl h d (s.ext hx) b hb)
  have hl : (sBlk h.s (d.rows.getD (1 + b) [])).2.length ≤ 100000 := by
    have h1 := s.ok.s2
    have h2 := s.dk.small (1 + b)
    unfold sBlk
    split
    · unfold rdText
      split
      · unfold getT
        rcases getN (d.rows.getD (1 + b) []) (rdNum (d.rows.getD (1 + b) []) (0, true)).2.1 with ⟨q, f, e⟩
        simp only
        repeat' split
        all_goals simp
        all_goals omega
      · simp
    · simp; omega
  obtain ⟨T, hT⟩ : ∃ T, T = (sBlk h.s (d.rows.getD (1 + b) [])).2 := ⟨_, rfl⟩
  obtain ⟨V, hV⟩ : ∃ V, V = (sBlk h.s (d.rows.getD (1 + b) [])).1 := ⟨_, rfl⟩
  rw [← hT] at hl HB ⊢
  rw [← hV] at HB ⊢
  obtain ⟨x0, hx0⟩ : ∃ x, x = h.b := ⟨_, rfl⟩
  rw [← hx0] at c0 hb
  have HL := Lib.hid hl
  have hbi : (b : Int) < (x0 : Int) := by omega
  clear s hT hV hx0 hl
  go_enter Try.func22, Try.ntmps22
  go_wp2_with fail
  refine (HB.out _ (by repeat' (first | (with_reducible exact Ext.refl _) | (with_reducible assumption) | (with_reducible refine Ext.alloc ?_ _) | (with_reducible refine Ext.drewN ?_ _) | (with_reducible refine Ext.drew ?_) | (with_reducible refine Ext.trans ?_ (by assumption))))).mono ?_
  rintro e w1 ⟨vt, rfl, ho, hx1⟩
  have HC := Lib.hid (fun w' (hx : Ext w1 w') => clone_any vt T w' (ho.rd.ext hx) (fits_small HL.out))
  have hw1 := hx1.size
  clear ho
  go_wp2_with fail
  refine (HC.out _ (by repeat' (first | (with_reducible exact Ext.refl _) | (with_reducible assumption) | (with_reducible refine Ext.alloc ?_ _) | (with_reducible refine Ext.drewN ?_ _) | (with_reducible refine Ext.drew ?_) | (with_reducible refine Ext.trans ?_ (by assumption))))).mono ?_
  rintro e w2 ⟨v2, rfl, ho2, hx2⟩
  have HO := Lib.hid (ho2.mono (base' := w.heap.size) (by simpa using hx1.size))
  clear ho2
  go_wp2_with fail
  go_ret3
  exact ⟨_, rfl, HO.out, (by repeat' (first | (with_reducible exact Ext.refl _) | (with_reducible assumption) | (with_reducible refine Ext.alloc ?_ _) | (with_reducible refine Ext.drewN ?_ _) | (with_reducible refine Ext.drew ?_) | (with_reducible refine Ext.trans ?_ (by assumption))))⟩
theorem sRead_out (s : StAt w F ps p bl h d) (b : Int) (hb : ¬ (0 ≤ b ∧ b < h.b)) :
    Calls Try.prog 22 #[.pointer (some ⟨ps, 0, none⟩), .int .i64 b] w fun e w' => e = .returned (.tuple #[.slice none 0 0, .int .i64 0, .int .i64 9]) ∧ Ext w w' := by
  have c0 := s.c0
  obtain ⟨x0, hx0⟩ : ∃ x, x = h.b := ⟨_, rfl⟩
  rw [← hx0] at c0 hb
  clear s hx0
  by_cases h0 : 0 ≤ b
  · have h1 : ¬ b < (x0 : Int) := fun h => hb ⟨h0, h⟩
    clear hb
    go_enter Try.func22, Try.ntmps22
    go_wp2_with fail
    go_ret3
    exact ⟨rfl, (by repeat' (first | (with_reducible exact Ext.refl _) | (with_reducible assumption) | (with_reducible refine Ext.alloc ?_ _) | (with_reducible refine Ext.drewN ?_ _) | (with_reducible refine Ext.drew ?_) | (with_reducible refine Ext.trans ?_ (by assumption))))⟩
  · clear hb
    go_enter Try.func22, Try.ntmps22
    go_wp2_with fail
    go_ret3
    exact ⟨rfl, (by repeat' (first | (with_reducible exact Ext.refl _) | (with_reducible assumption) | (with_reducible refine Ext.alloc ?_ _) | (with_reducible refine Ext.drewN ?_ _) | (with_reducible refine Ext.drew ?_) | (with_reducible refine Ext.trans ?_ (by assumption))))⟩
theorem sRead_nil (b : Int) : Calls Try.prog 22 #[.pointer none, .int .i64 b] w fun e w' => e = .returned (.tuple #[.slice none 0 0, .int .i64 0, .int .i64 7]) ∧ Ext w w' := by
  go_enter Try.func22, Try.ntmps22
  go_wp2_with fail
  go_ret3
  exact ⟨rfl, (by repeat' (first | (with_reducible exact Ext.refl _) | (with_reducible assumption) | (with_reducible refine Ext.alloc ?_ _) | (with_reducible refine Ext.drewN ?_ _) | (with_reducible refine Ext.drew ?_) | (with_reducible refine Ext.trans ?_ (by assumption))))⟩
theorem sDown (s : StAt w F ps p bl h d) : Calls Try.prog 23 #[.pointer (some ⟨ps, 0, none⟩)] w fun e w' => e = .returned (.bool d.down) ∧ Ext w w' := by
  have c4 := s.c4
  have HD := Lib.hid (ddown_any F p bl d w s.dk)
  clear s
  go_enter Try.func23, Try.ntmps23
  go_wp2_with fail
  refine HD.out.mono ?_
  rintro e w1 ⟨rfl, rfl⟩
  go_wp2_with fail
  go_ret
  exact ⟨rfl, (by repeat' (first | (with_reducible exact Ext.refl _) | (with_reducible assumption) | (with_reducible refine Ext.alloc ?_ _) | (with_reducible refine Ext.drewN ?_ _) | (with_reducible refine Ext.drew ?_) | (with_reducible refine Ext.trans ?_ (by assumption))))⟩
theorem sDown_nil : Calls Try.prog 23 #[.pointer none] w fun e w' => e = .returned (.bool false) ∧ Ext w w' := by
  go_enter Try.func23, Try.ntmps23
  go_wp2_with fail
  go_ret
  exact ⟨rfl, (by repeat' (first | (with_reducible exact Ext.refl _) | (with_reducible assumption) | (with_reducible refine Ext.alloc ?_ _) | (with_reducible refine Ext.drewN ?_ _) | (with_reducible refine Ext.drew ?_) | (with_reducible refine Ext.trans ?_ (by assumption))))⟩

set_option maxRecDepth 100000 in
set_option maxHeartbeats 4000000 in
theorem slast (s : StAt w F ps p bl h d) (c k : Nat) (hc : c < h.c) (hk : k < h.k) :
    Calls Try.prog 35 #[.pointer (some ⟨ps, 0, none⟩), .int .i64 c, .int .i64 k] w fun e w' => e = .returned (.tuple #[.int .i64 (sSlot (d.rows.getD (h.slotAt c k) [])).1, .int .i64 (sSlot (d.rows.getD (h.slotAt c k) [])).2.1, .int .i64 (sSlot (d.rows.getD (h.slotAt c k) [])).2.2]) ∧ Ext w w' := by
  have c0 := s.c0
  have c1 := s.c1
  have c2 := s.c2
  have c3 := s.c3
  obtain ⟨hin, _⟩ := s.ok.slot hc hk
  have hin2 : h.slotAt c k < d.rows.length := by have := s.many; omega
  have HR := Lib.hid (fun w' (hx : Ext w w') => sread w' F ps p bl h d (s.ext hx) (h.slotAt c k) hin2)
  have HSA := Lib.hid (fun w' => sslotAt h s.ok c k hc hk w')
  obtain ⟨B, hBe⟩ : ∃ B, B = d.rows.getD (h.slotAt c k) [] := ⟨_, rfl⟩
  have HB : Hid (∀ x ∈ B, 0 ≤ x ∧ x ≤ 255) := Lib.hid (by rw [hBe]; exact s.byt _)
  have hBl : B.length ≤ 64 := by rw [hBe]; exact s.dk.small _
  rw [← hBe] at HR ⊢
  obtain ⟨at', hat⟩ : ∃ x, x = h.slotAt c k := ⟨_, rfl⟩
  rw [← hat] at HR HSA
  obtain ⟨x0, hx0⟩ : ∃ x, x = h.b := ⟨_, rfl⟩
  obtain ⟨x1, hx1⟩ : ∃ x, x = h.s := ⟨_, rfl⟩
  obtain ⟨x2, hx2⟩ : ∃ x, x = h.c := ⟨_, rfl⟩
  obtain ⟨x3, hx3⟩ : ∃ x, x = h.k := ⟨_, rfl⟩
  rw [← hx0] at c0 HSA
  rw [← hx1] at c1 HSA
  rw [← hx2] at c2 HSA
  rw [← hx3] at c3 HSA
  have HSL := Lib.hid (show sSlot B = if (rdAll B (0, true) 3).2 = true ∧ (rdAll B (0, true) 3).1 = B.length ∧ rdVal B (0, true) 0 ≤ 1099511627776 ∧ rdVal B (0, true) 1 ≤ 1099511627776 ∧ rdVal B (0, true) 2 ≤ 16 then (rdVal B (0, true) 0, rdVal B (0, true) 1, rdVal B (0, true) 2) else (0, 0, 0) by unfold sSlot sSlotOk; rfl)
  obtain ⟨res, hres⟩ : ∃ res, res = sSlot B := ⟨_, rfl⟩
  rw [← hres] at HSL ⊢
  obtain ⟨r0, r1, r2⟩ := res
  have hBi : (B.length : Int) ≤ 64 := by omega
  clear s hin hin2 hBe hat hx0 hx1 hx2 hx3 hc hk hres
  go_enter Try.func35, Try.ntmps35
  go_upto_region 1 with fail
  have hx2 : Ext w ((w.alloc (.cells #[.int .i64 0] 3)).alloc (.cells #[.int .i64 0] 3)) := ((Ext.refl w).alloc _).alloc _
  have p6 : ((w.alloc (.cells #[.int .i64 0] 3)).alloc (.cells #[.int .i64 0] 3)).heap[w.heap.size]? = some (.cells #[.int .i64 0] 3) := (Below.block ((Ext.refl _).alloc _) w.heap.size (by simp)).trans (heap_alloc_new w _)
  have p7 : ((w.alloc (.cells #[.int .i64 0] 3)).alloc (.cells #[.int .i64 0] 3)).heap[w.heap.size + 1]? = some (.cells #[.int .i64 0] 3) := by simpa using heap_alloc_new (w.alloc (.cells #[.int .i64 0] 3)) (.cells #[.int .i64 0] 3)
  have hsz : ((w.alloc (.cells #[.int .i64 0] 3)).alloc (.cells #[.int .i64 0] 3)).heap.size = w.heap.size + 2 := by simp
  generalize ((w.alloc (.cells #[.int .i64 0] 3)).alloc (.cells #[.int .i64 0] 3)) = w1 at *
  obtain ⟨q6, hq6⟩ : ∃ q, q = w.heap.size := ⟨_, rfl⟩
  rw [← hq6] at p6 p7 hsz ⊢
  have c0 := hx2.cellv c0
  have c1 := hx2.cellv c1
  have c2 := hx2.cellv c2
  have c3 := hx2.cellv c3
  have HQ6 : Hid (q6 = w.heap.size) := Lib.hid hq6
  have HS1 := Lib.hid hsz
  have P6 := Lib.hid p6
  have P7 := Lib.hid p7
  clear hq6 hsz p6 p7
  go_wp2_with fail
  refine (HSA.out _).mono ?_
  rintro e w2 ⟨rfl, hy2⟩
  go_wp2_with fail
  refine (HR.out _ (hx2.trans hy2)).mono ?_
  rintro e w3 ⟨g, v, t, rfl, hg, hv, hgl, hvg, hy3⟩
  have hX3 := hx2.trans (hy2.trans hy3)
  have hX13 := hy2.trans hy3
  have HG := Lib.hid hg
  have HV := Lib.hid hv
  have HGL : Hid (q6 + 2 ≤ g) := Lib.hid (by have := hy2.size; have := HS1.out; omega)
  have HVG : Hid (∀ x, v.ownBlock = some x → q6 + 2 ≤ x ∧ x < g) := Lib.hid (fun x hx => by have := hvg x hx; have := hy2.size; have := HS1.out; omega)
  have hg3 : g < w3.heap.size := (Array.getElem?_eq_some_iff.1 hg).1
  have HG3 := Lib.hid hg3
  clear hg hv hgl hvg hg3 hy2 hy3 c0 c1 c2 c3
  go_upto_region 3 with fail
  have hx4 : Ext w3 (w3.alloc (.cells #[.int .i64 0] 3)) := (Ext.refl w3).alloc _
  have p10 := heap_alloc_new w3 (.cells #[.int .i64 0] 3)
  have hsz4 : (w3.alloc (.cells #[.int .i64 0] 3)).heap.size = w3.heap.size + 1 := by simp
  generalize (w3.alloc (.cells #[.int .i64 0] 3)) = w4 at *
  obtain ⟨q10, hq10⟩ : ∃ q, q = w3.heap.size := ⟨_, rfl⟩
  rw [← hq10] at p10 hsz4 ⊢
  have h67 : q6 + 2 ≤ q10 := by have := hX13.size; have := HS1.out; omega
  have hgq : g < q10 := by have := HG3.out; omega
  have hvq : ∀ x, v.ownBlock = some x → q6 + 2 ≤ x ∧ x < g := HVG.out
  have hX4 := hX3.trans hx4
  have HQ10 := Lib.hid hq10
  have HSZ4 := Lib.hid hsz4
  have hX14 := hX13.trans hx4
  have P10 := Lib.hid p10
  have P6' : Hid (w4.heap[q6]? = some (.cells #[.int .i64 0] 3)) := Lib.hid ((Below.block hX14 q6 (by have := HS1.out; omega)).trans P6.out)
  have P7' : Hid (w4.heap[q6 + 1]? = some (.cells #[.int .i64 0] 3)) := Lib.hid ((Below.block hX14 (q6 + 1) (by have := HS1.out; omega)).trans P7.out)
  obtain ⟨w5, hw5⟩ : ∃ w5, w5 = w4.alloc (.cells #[.pointer (some ⟨q6, 0, none⟩), .pointer (some ⟨q6 + 1, 0, none⟩), .pointer (some ⟨q10, 0, none⟩)] 94) := ⟨_, rfl⟩
  have hx5 : Ext w4 w5 := by rw [hw5]; exact (Ext.refl w4).alloc _
  have P6 : Hid (w5.heap[q6]? = some (.cells #[.int .i64 0] 3)) := Lib.hid ((Below.block hx5 q6 (by omega)).trans P6'.out)
  have P7 : Hid (w5.heap[q6 + 1]? = some (.cells #[.int .i64 0] 3)) := Lib.hid ((Below.block hx5 (q6 + 1) (by omega)).trans P7'.out)
  have P10 : Hid (w5.heap[q10]? = some (.cells #[.int .i64 0] 3)) := Lib.hid ((Below.block hx5 q10 (by omega)).trans P10.out)
  have hALL := sall v B 0 true g t (q10 + 1) 0 3 3 (fun k => if k = 0 then q6 else if k = 1 then q6 + 1 else q10) (fun _ => 0) [q6, q6 + 1, q10] w5
    ((Below.block (hx4.trans hx5) g HG3.out).trans HG.out) (HV.out.ext (hx4.trans hx5)) HB.out (by omega) (by omega)
    (fun k hk => by
      have hn : ∀ {j u}, #[Value.pointer (some ⟨q6, 0, none⟩), .pointer (some ⟨q6 + 1, 0, none⟩), .pointer (some ⟨q10, 0, none⟩)][j]? = some u → w5.cell? ⟨w4.heap.size, j, none⟩ = some u := fun hu => by rw [hw5]; exact cell_new w4 _ _ _ hu
      rw [HSZ4.out] at hn
      have : k = 0 ∨ k = 1 ∨ k = 2 := by omega
      rcases this with rfl | rfl | rfl
      · exact hn rfl
      · exact hn rfl
      · exact hn rfl)
    (fun k hk => by
      have : k = 0 ∨ k = 1 ∨ k = 2 := by omega
      rcases this with rfl | rfl | rfl
      · exact ⟨_, _, P6.out, by simp⟩
      · exact ⟨_, _, P7.out, by simp⟩
      · exact ⟨_, _, P10.out, by simp⟩)
    (fun j k hj hk hne => by
      have h1 : j = 0 ∨ j = 1 ∨ j = 2 := by omega
      have h2 : k = 0 ∨ k = 1 ∨ k = 2 := by omega
      rcases h1 with rfl | rfl | rfl <;> rcases h2 with rfl | rfl | rfl <;> simp at hne ⊢ <;> omega)
    (fun k hk => by
      have : k = 0 ∨ k = 1 ∨ k = 2 := by omega
      rcases this with rfl | rfl | rfl <;> simp)
    (by have := HGL.out; simp; omega) (by simp; omega) (fun x hx => by have := hvq x hx; have := HGL.out; simp; omega)
  have HA := Lib.hid hALL
  have HVQ := Lib.hid hvq
  have hX5 := hX4.trans hx5
  have HW5 : Hid (w4.alloc (.cells #[.pointer (some ⟨q6, 0, none⟩), .pointer (some ⟨q6 + 1, 0, none⟩), .pointer (some ⟨q10, 0, none⟩)] 94) = w5) := Lib.hid hw5.symm
  have HWL : Hid (∀ s ∈ g :: [q6, q6 + 1, q10], w.heap.size ≤ s) := Lib.hid (by rw [← HQ6.out]; have := HGL.out; intro s hs; simp at hs; omega)
  clear hALL hq10 hsz4 hw5 hvq p10 hx5 hX4 hx4 hX14
  go_wp2_with fail
  rw [HSZ4.out, HW5.out]
  refine HA.out.mono ?_
  rintro e w6 ⟨rfl, hg6, hvals, hshp, hch⟩
  have hX6 : Ext w w6 := hX5.chg hch HWL.out
  have n0 : w6.cell? ⟨q6, 0, none⟩ = some (.int .i64 (rdVal B (0, true) 0)) := hvals 0 (by omega)
  have n1 : w6.cell? ⟨q6 + 1, 0, none⟩ = some (.int .i64 (rdVal B (0, true) 1)) := hvals 1 (by omega)
  have n2 : w6.cell? ⟨q10, 0, none⟩ = some (.int .i64 (rdVal B (0, true) 2)) := hvals 2 (by omega)
  obtain ⟨cs6, g1, g2, _⟩ := hshp q6 _ _ (by have := HGL.out; omega) P6.out
  obtain ⟨cs7, g3, g4, _⟩ := hshp (q6 + 1) _ _ (by have := HGL.out; omega) P7.out
  obtain ⟨u6, rfl⟩ : ∃ u, cs6 = #[u] := by
    match cs6, g2 with
    | ⟨[u]⟩, _ => exact ⟨u, rfl⟩
  obtain ⟨u7, rfl⟩ : ∃ u, cs7 = #[u] := by
    match cs7, g4 with
    | ⟨[u]⟩, _ => exact ⟨u, rfl⟩
  have HT2 := Lib.hid (fun (w7 : World) (hx : Ext w6 w7) x y => two_set ((Below.block hx q6 (Array.getElem?_eq_some_iff.1 g1).1).trans g1) ((Below.block hx (q6 + 1) (Array.getElem?_eq_some_iff.1 g3).1).trans g3) (by omega) x y)
  have fz6 := frozen_row g1 0
  have fz7 := frozen_row g3 0
  have d0 := cell_of_row w6 g 0 _ _ _ hg6
  have d1 := cell_of_row w6 g 1 _ _ _ hg6
  have d2 := cell_of_row w6 g 2 _ _ _ hg6
  simp at d0 d1 d2
  obtain ⟨ac, cc, hve, _, _, _, _⟩ := HV.out.parts
  rw [hve] at d0
  have HL6 : Hid (∀ w7, Ext w6 w7 → ∀ x y, Ext w ((w7.setCell ⟨q6, 0, none⟩ x).setCell ⟨q6 + 1, 0, none⟩ y)) := Lib.hid (fun w7 hx7 x y => by
    have h1 := HQ6.out
    exact (Below.setCell (hX6.trans hx7) (p := ⟨q6, 0, none⟩) (by simp; omega) x).setCell (p := ⟨q6 + 1, 0, none⟩) (by simp; omega) y)
  obtain ⟨a, ha⟩ : ∃ x, x = (rdAll B (0, true) 3).1 := ⟨_, rfl⟩
  obtain ⟨ok, hok⟩ : ∃ x, x = (rdAll B (0, true) 3).2 := ⟨_, rfl⟩
  obtain ⟨v0, hv0⟩ : ∃ x, x = rdVal B (0, true) 0 := ⟨_, rfl⟩
  obtain ⟨v1, hv1⟩ : ∃ x, x = rdVal B (0, true) 1 := ⟨_, rfl⟩
  obtain ⟨v2, hv2⟩ : ∃ x, x = rdVal B (0, true) 2 := ⟨_, rfl⟩
  rw [← ha, ← hok, ← hv0, ← hv1, ← hv2] at HSL
  rw [← hv0] at n0
  rw [← hv1] at n1
  rw [← hv2] at n2
  rw [← ha] at d1
  rw [← hok] at d2
  obtain ⟨LB, hLB⟩ : ∃ x, x = B.length := ⟨_, rfl⟩
  rw [← hLB] at HSL d0 hBi
  clear hg6 hvals hshp hch g1 g2 g3 g4 hve ha hok hv0 hv1 hv2 hLB hX5 hBl HR HSA HB HV HVG HVQ HG HG3 HA HW5 HWL P6 P7 P10 P6' P7' HS1 hX3 hX13 hx2
  have fail : ∀ (h : ¬ (ok = true ∧ a = LB ∧ v0 ≤ 1099511627776 ∧ v1 ≤ 1099511627776 ∧ v2 ≤ 16)), r0 = 0 ∧ r1 = 0 ∧ r2 = 0 := fun h => by
    have h9 := HSL.out
    rw [if_neg h] at h9
    simpa using h9
  have HFAIL := Lib.hid fail
  clear fail
  cases ok with
  | false =>
    obtain ⟨rfl, rfl, rfl⟩ := HFAIL.out (fun h => by cases h.1)
    clear HFAIL HSL
    go_wp2_with fail
    go_quiet (fail)
    go_wp2_with fail
    refine bodyPost_ret (results_cct rfl _ _ q6 (q6 + 1) _ _ rfl rfl (HT2.out _ (by repeat' (first | (with_reducible exact Ext.refl _) | (with_reducible assumption) | (with_reducible refine Ext.alloc ?_ _) | (with_reducible refine Ext.drewN ?_ _) | (with_reducible refine Ext.drew ?_) | (with_reducible refine Ext.trans ?_ (by assumption)))) _ _).1 (HT2.out _ (by repeat' (first | (with_reducible exact Ext.refl _) | (with_reducible assumption) | (with_reducible refine Ext.alloc ?_ _) | (with_reducible refine Ext.drewN ?_ _) | (with_reducible refine Ext.drew ?_) | (with_reducible refine Ext.trans ?_ (by assumption)))) _ _).2) rfl ⟨rfl, ?_⟩
    exact HL6.out _ (by repeat' (first | (with_reducible exact Ext.refl _) | (with_reducible assumption) | (with_reducible refine Ext.alloc ?_ _) | (with_reducible refine Ext.drewN ?_ _) | (with_reducible refine Ext.drew ?_) | (with_reducible refine Ext.trans ?_ (by assumption)))) _ _
  | true =>
    by_cases hA2 : a = LB
    case neg =>
      have e1 : (a != (LB : Int)) = true := by rw [bne_iff_ne]; exact hA2
      obtain ⟨rfl, rfl, rfl⟩ := HFAIL.out (fun h => hA2 h.2.1)
      clear HFAIL HSL
      go_wp2_with fail
      go_quiet (fail)
      go_wp2_with fail
      refine bodyPost_ret (results_cct rfl _ _ q6 (q6 + 1) _ _ rfl rfl (HT2.out _ (by repeat' (first | (with_reducible exact Ext.refl _) | (with_reducible assumption) | (with_reducible refine Ext.alloc ?_ _) | (with_reducible refine Ext.drewN ?_ _) | (with_reducible refine Ext.drew ?_) | (with_reducible refine Ext.trans ?_ (by assumption)))) _ _).1 (HT2.out _ (by repeat' (first | (with_reducible exact Ext.refl _) | (with_reducible assumption) | (with_reducible refine Ext.alloc ?_ _) | (with_reducible refine Ext.drewN ?_ _) | (with_reducible refine Ext.drew ?_) | (with_reducible refine Ext.trans ?_ (by assumption)))) _ _).2) rfl ⟨rfl, ?_⟩
      exact HL6.out _ (by repeat' (first | (with_reducible exact Ext.refl _) | (with_reducible assumption) | (with_reducible refine Ext.alloc ?_ _) | (with_reducible refine Ext.drewN ?_ _) | (with_reducible refine Ext.drew ?_) | (with_reducible refine Ext.trans ?_ (by assumption)))) _ _
    have e1 : (a != (LB : Int)) = false := by rw [bne_eq_false_iff_eq]; exact hA2
    by_cases hA3 : v0 ≤ 1099511627776
    case neg =>
      obtain ⟨rfl, rfl, rfl⟩ := HFAIL.out (fun h => hA3 h.2.2.1)
      clear HFAIL HSL
      go_wp2_with fail
      go_quiet (fail)
      go_wp2_with fail
      refine bodyPost_ret (results_cct rfl _ _ q6 (q6 + 1) _ _ rfl rfl (HT2.out _ (by repeat' (first | (with_reducible exact Ext.refl _) | (with_reducible assumption) | (with_reducible refine Ext.alloc ?_ _) | (with_reducible refine Ext.drewN ?_ _) | (with_reducible refine Ext.drew ?_) | (with_reducible refine Ext.trans ?_ (by assumption)))) _ _).1 (HT2.out _ (by repeat' (first | (with_reducible exact Ext.refl _) | (with_reducible assumption) | (with_reducible refine Ext.alloc ?_ _) | (with_reducible refine Ext.drewN ?_ _) | (with_reducible refine Ext.drew ?_) | (with_reducible refine Ext.trans ?_ (by assumption)))) _ _).2) rfl ⟨rfl, ?_⟩
      exact HL6.out _ (by repeat' (first | (with_reducible exact Ext.refl _) | (with_reducible assumption) | (with_reducible refine Ext.alloc ?_ _) | (with_reducible refine Ext.drewN ?_ _) | (with_reducible refine Ext.drew ?_) | (with_reducible refine Ext.trans ?_ (by assumption)))) _ _
    by_cases hA4 : v1 ≤ 1099511627776
    case neg =>
      obtain ⟨rfl, rfl, rfl⟩ := HFAIL.out (fun h => hA4 h.2.2.2.1)
      clear HFAIL HSL
      go_wp2_with fail
      go_quiet (fail)
      go_wp2_with fail
      refine bodyPost_ret (results_cct rfl _ _ q6 (q6 + 1) _ _ rfl rfl (HT2.out _ (by repeat' (first | (with_reducible exact Ext.refl _) | (with_reducible assumption) | (with_reducible refine Ext.alloc ?_ _) | (with_reducible refine Ext.drewN ?_ _) | (with_reducible refine Ext.drew ?_) | (with_reducible refine Ext.trans ?_ (by assumption)))) _ _).1 (HT2.out _ (by repeat' (first | (with_reducible exact Ext.refl _) | (with_reducible assumption) | (with_reducible refine Ext.alloc ?_ _) | (with_reducible refine Ext.drewN ?_ _) | (with_reducible refine Ext.drew ?_) | (with_reducible refine Ext.trans ?_ (by assumption)))) _ _).2) rfl ⟨rfl, ?_⟩
      exact HL6.out _ (by repeat' (first | (with_reducible exact Ext.refl _) | (with_reducible assumption) | (with_reducible refine Ext.alloc ?_ _) | (with_reducible refine Ext.drewN ?_ _) | (with_reducible refine Ext.drew ?_) | (with_reducible refine Ext.trans ?_ (by assumption)))) _ _
    by_cases hA5 : v2 ≤ 16
    case neg =>
      obtain ⟨rfl, rfl, rfl⟩ := HFAIL.out (fun h => hA5 h.2.2.2.2)
      clear HFAIL HSL
      go_wp2_with fail
      go_quiet (fail)
      go_wp2_with fail
      refine bodyPost_ret (results_cct rfl _ _ q6 (q6 + 1) _ _ rfl rfl (HT2.out _ (by repeat' (first | (with_reducible exact Ext.refl _) | (with_reducible assumption) | (with_reducible refine Ext.alloc ?_ _) | (with_reducible refine Ext.drewN ?_ _) | (with_reducible refine Ext.drew ?_) | (with_reducible refine Ext.trans ?_ (by assumption)))) _ _).1 (HT2.out _ (by repeat' (first | (with_reducible exact Ext.refl _) | (with_reducible assumption) | (with_reducible refine Ext.alloc ?_ _) | (with_reducible refine Ext.drewN ?_ _) | (with_reducible refine Ext.drew ?_) | (with_reducible refine Ext.trans ?_ (by assumption)))) _ _).2) rfl ⟨rfl, ?_⟩
      exact HL6.out _ (by repeat' (first | (with_reducible exact Ext.refl _) | (with_reducible assumption) | (with_reducible refine Ext.alloc ?_ _) | (with_reducible refine Ext.drewN ?_ _) | (with_reducible refine Ext.drew ?_) | (with_reducible refine Ext.trans ?_ (by assumption)))) _ _
    obtain ⟨rfl, rfl, rfl⟩ : r0 = v0 ∧ r1 = v1 ∧ r2 = v2 := by
      have h9 := HSL.out
      rw [if_pos ⟨rfl, hA2, hA3, hA4, hA5⟩] at h9
      simpa using h9
    clear HFAIL HSL
    go_wp2_with fail
    go_quiet (fail)
    go_wp2_with fail
    refine bodyPost_ret (results_cct rfl _ _ q6 (q6 + 1) _ _ rfl rfl (HT2.out _ (by repeat' (first | (with_reducible exact Ext.refl _) | (with_reducible assumption) | (with_reducible refine Ext.alloc ?_ _) | (with_reducible refine Ext.drewN ?_ _) | (with_reducible refine Ext.drew ?_) | (with_reducible refine Ext.trans ?_ (by assumption)))) _ _).1 (HT2.out _ (by repeat' (first | (with_reducible exact Ext.refl _) | (with_reducible assumption) | (with_reducible refine Ext.alloc ?_ _) | (with_reducible refine Ext.drewN ?_ _) | (with_reducible refine Ext.drew ?_) | (with_reducible refine Ext.trans ?_ (by assumption)))) _ _).2) rfl ⟨rfl, ?_⟩
    exact HL6.out _ (by repeat' (first | (with_reducible exact Ext.refl _) | (with_reducible assumption) | (with_reducible refine Ext.alloc ?_ _) | (with_reducible refine Ext.drewN ?_ _) | (with_reducible refine Ext.drew ?_) | (with_reducible refine Ext.trans ?_ (by assumption)))) _ _
end
end Go.Proofs.Ytoadjmeopamgbaa
