/-
  conf.Get, and that what it answers is a configuration of slices. No condition but that the bytes read, and are few.
-/
import Derived.Test.YtmkobmkaalfecaaCGet
namespace Go.Proofs.Ytmkobmkaalfecaa
open Go.RowKit

set_option maxRecDepth 100000 in
set_option maxHeartbeats 8000000 in
theorem cget2 (v : Value) (B : List Int) (w : World) (hB : RdI .u8 w v B) (hb : ∀ x ∈ B, 0 ≤ x ∧ x ≤ 255) (hl : B.length ≤ 100000) (x : Int) (hx : GOut B x) :
    Calls Try.prog 50 #[v] w fun e w' => ∃ N hv, e = .returned (.tuple #[cfgV N hv, .int .i64 x]) ∧ (∃ a l c, hv = .slice a l c) ∧ (x = 0 → ∃ n : Nat, valK B 0 16 = n ∧ (∀ k, k < 16 → N k = valK B 0 k) ∧ RdH w' hv n (gF B) (gL B)) ∧ Ext w w' := by
  have hvlt : B ≠ [] → ∀ g, v.ownBlock = some g → g < w.heap.size := by
    intro hne g hg
    obtain ⟨av, cv, rfl, _, _, _, hs⟩ := hB.parts
    obtain ⟨b', o', rfl, hlt, _⟩ := hs hne
    cases hg; exact hlt
  obtain ⟨av, cv, hvv, _, _, hnil, hss⟩ := hB.parts
  obtain ⟨m, hm⟩ : ∃ m, m = B.length := ⟨_, rfl⟩
  have HX := Lib.hid hx
  have HB := Lib.hid hB
  have HBB := Lib.hid hb
  have HVL := Lib.hid hvlt
  clear hx hB hb hnil hss hvlt
  subst hvv
  go_enter Try.func50, Try.ntmps50
  go_wp2_with fail
  have h2r : ((w.alloc (.cells #[.int .i64 0, .int .i64 0, .int .i64 0, .int .i64 0, .int .i64 0, .int .i64 0, .int .i64 0, .int .i64 0, .int .i64 0, .int .i64 0, .int .i64 0, .int .i64 0, .int .i64 0, .int .i64 0, .int .i64 0, .int .i64 0, .slice none 0 0] 75)).alloc (.cells #[.int .i64 0, .int .i64 0, .int .i64 0, .int .i64 0, .int .i64 0, .int .i64 0, .int .i64 0, .int .i64 0, .int .i64 0, .int .i64 0, .int .i64 0, .int .i64 0, .int .i64 0, .int .i64 0, .int .i64 0, .int .i64 0, .slice none 0 0] 75)).heap[w.heap.size]? = some (.cells #[.int .i64 0, .int .i64 0, .int .i64 0, .int .i64 0, .int .i64 0, .int .i64 0, .int .i64 0, .int .i64 0, .int .i64 0, .int .i64 0, .int .i64 0, .int .i64 0, .int .i64 0, .int .i64 0, .int .i64 0, .int .i64 0, .slice none 0 0] 75 (0, 0)) := heap_alloc2_old w _ _
  have h4r : ((w.alloc (.cells #[.int .i64 0, .int .i64 0, .int .i64 0, .int .i64 0, .int .i64 0, .int .i64 0, .int .i64 0, .int .i64 0, .int .i64 0, .int .i64 0, .int .i64 0, .int .i64 0, .int .i64 0, .int .i64 0, .int .i64 0, .int .i64 0, .slice none 0 0] 75)).alloc (.cells #[.int .i64 0, .int .i64 0, .int .i64 0, .int .i64 0, .int .i64 0, .int .i64 0, .int .i64 0, .int .i64 0, .int .i64 0, .int .i64 0, .int .i64 0, .int .i64 0, .int .i64 0, .int .i64 0, .int .i64 0, .int .i64 0, .slice none 0 0] 75)).heap[w.heap.size + 1]? = some (.cells #[.int .i64 0, .int .i64 0, .int .i64 0, .int .i64 0, .int .i64 0, .int .i64 0, .int .i64 0, .int .i64 0, .int .i64 0, .int .i64 0, .int .i64 0, .int .i64 0, .int .i64 0, .int .i64 0, .int .i64 0, .int .i64 0, .slice none 0 0] 75 (0, 0)) := heap_alloc2_new w _ _
  have hwx : Ext w ((w.alloc (.cells #[.int .i64 0, .int .i64 0, .int .i64 0, .int .i64 0, .int .i64 0, .int .i64 0, .int .i64 0, .int .i64 0, .int .i64 0, .int .i64 0, .int .i64 0, .int .i64 0, .int .i64 0, .int .i64 0, .int .i64 0, .int .i64 0, .slice none 0 0] 75)).alloc (.cells #[.int .i64 0, .int .i64 0, .int .i64 0, .int .i64 0, .int .i64 0, .int .i64 0, .int .i64 0, .int .i64 0, .int .i64 0, .int .i64 0, .int .i64 0, .int .i64 0, .int .i64 0, .int .i64 0, .int .i64 0, .int .i64 0, .slice none 0 0] 75)) := ((Ext.refl w).alloc _).alloc _
  generalize ((w.alloc (.cells #[.int .i64 0, .int .i64 0, .int .i64 0, .int .i64 0, .int .i64 0, .int .i64 0, .int .i64 0, .int .i64 0, .int .i64 0, .int .i64 0, .int .i64 0, .int .i64 0, .int .i64 0, .int .i64 0, .int .i64 0, .int .i64 0, .slice none 0 0] 75)).alloc (.cells #[.int .i64 0, .int .i64 0, .int .i64 0, .int .i64 0, .int .i64 0, .int .i64 0, .int .i64 0, .int .i64 0, .int .i64 0, .int .i64 0, .int .i64 0, .int .i64 0, .int .i64 0, .int .i64 0, .int .i64 0, .int .i64 0, .slice none 0 0] 75)) = w1 at *
  obtain ⟨p4, hp4⟩ : ∃ p, p = w.heap.size + 1 := ⟨_, rfl⟩
  obtain ⟨p2, hp2⟩ : ∃ p, p = w.heap.size := ⟨_, rfl⟩
  rw [← hp4] at h4r ⊢
  rw [← hp2] at h2r ⊢
  have n24 : p2 ≠ p4 := by omega
  have hw2 : w.heap.size ≤ p2 := by omega
  have hw4 : w.heap.size ≤ p4 := by omega
  have HP2 := Lib.hid hp2
  clear hp2 hp4
  refine (cplaces p4 _).mono ?_
  rintro e w2 ⟨rfl, hx2⟩
  unfold plcs
  have hwx2 := hwx.trans hx2
  have h2r := (Below.block hx2 _ (Array.getElem?_eq_some_iff.1 h2r).1).trans h2r
  have h4r := (Below.block hx2 _ (Array.getElem?_eq_some_iff.1 h4r).1).trans h4r
  have l2 : p2 < w2.heap.size := (Array.getElem?_eq_some_iff.1 h2r).1
  have l4 : p4 < w2.heap.size := (Array.getElem?_eq_some_iff.1 h4r).1
  clear hx2 hwx
  obtain ⟨im, him, hz0, hz1, hz2⟩ := info_parts ptr_info
  have hxa : Ext w2 (((w2.alloc (.cells (plcs p4) 103)).alloc (.cells #[.int .i64 0] 3)).alloc (.cells #[.pointer (some ⟨w2.heap.size + 1, 0, none⟩)] 66)) := (((Ext.refl w2).alloc _).alloc _).alloc _
  have hrq : (((w2.alloc (.cells (plcs p4) 103)).alloc (.cells #[.int .i64 0] 3)).alloc (.cells #[.pointer (some ⟨w2.heap.size + 1, 0, none⟩)] 66)).heap[w2.heap.size + 1]? = some (.cells #[.int .i64 0] 3 (0, 0)) := by
    have h1 := heap_alloc2_old (w2.alloc (.cells (plcs p4) 103)) (.cells #[.int .i64 0] 3) (.cells #[.pointer (some ⟨w2.heap.size + 1, 0, none⟩)] 66)
    simpa using h1
  have hpl : ∀ k, k < 16 → (((w2.alloc (.cells (plcs p4) 103)).alloc (.cells #[.int .i64 0] 3)).alloc (.cells #[.pointer (some ⟨w2.heap.size + 1, 0, none⟩)] 66)).cell? ⟨w2.heap.size, k, none⟩ = some (.pointer (some ⟨p4, k, none⟩)) := fun k hk => cell_old _ (cell_old _ (cell_new _ _ _ _ (plcs_at p4 k hk)))
  have hnew : (((w2.alloc (.cells (plcs p4) 103)).alloc (.cells #[.int .i64 0] 3)).alloc (.cells #[.pointer (some ⟨w2.heap.size + 1, 0, none⟩)] 66)).cell? ⟨w2.heap.size + 2, 0, none⟩ = some (.pointer (some ⟨w2.heap.size + 1, 0, none⟩)) := by
    have h1 := cell_new1 (w2.alloc (.cells (plcs p4) 103)) (.cells #[.int .i64 0] 3) #[.pointer (some ⟨w2.heap.size + 1, 0, none⟩)] 66 (0, 0) (j := 0) rfl
    simpa using h1
  unfold plcs at hxa hrq hpl hnew
  go_wp2_with (at_builtin; refine wpList_append_grows _ rfl _ _ 67 rfl 66 im (.pointer none) 1 8 Try.underlying67 him hz0 hz1 hz2 rfl (by omega) (some ⟨w2.heap.size, 0, none⟩) 16 16 (plcs p4).toList rfl (by intro h; cases h) rfl (by intro b hb j u hj; cases hb; rw [add_none]; have hj16 : j < 16 := (List.getElem?_eq_some_iff.1 hj).1; have := plcs_at p4 j hj16; rw [← Array.getElem?_toList, hj] at this; cases this; simpa using hpl j hj16) ⟨w2.heap.size + 2, 0, none⟩ 1 1 [.pointer (some ⟨w2.heap.size + 1, 0, none⟩)] rfl rfl (by intro j u hj; match j, hj with | 0, hj => (simp at hj; subst hj; rw [add_none]; exact hnew)) (by simp [Value.oneCell']) (by omega) (by decide) (by decide) ?_)
  intro v3 w3 ho3 hg3
  obtain ⟨g, c, rfl, hgB, hgl⟩ := World.ownsRow.form ho3 (by omega)
  have hx3a := hxa.trans (Below.grown (Ext.refl _) hg3 (Nat.le_refl _) (by intro k h; cases h))
  have hx3 : Ext w2 w3 := hx3a
  have hrq3 := (Below.block (Below.grown (Ext.refl _) hg3 (Nat.le_refl _) (by intro k h; cases h)) _ (Array.getElem?_eq_some_iff.1 hrq).1).trans hrq
  have h2r := (Below.block hx3 _ (Array.getElem?_eq_some_iff.1 h2r).1).trans h2r
  have h4r := (Below.block hx3 _ (Array.getElem?_eq_some_iff.1 h4r).1).trans h4r
  have hwx3 : Ext w w3 := hwx2.trans hx3
  obtain ⟨q, hq⟩ : ∃ q, q = w2.heap.size + 1 := ⟨_, rfl⟩
  rw [← hq] at hrq3 ho3
  have HQE := Lib.hid hq
  have hptr : ∀ k, k < 17 → w3.cell? ⟨g, 0 + k, none⟩ = some (.pointer (some ⟨gtb p4 q k, gtq k, none⟩)) := by
    intro k hk
    rw [Nat.zero_add, World.ownsRow.cellAt ho3 k (by omega)]
    by_cases h16 : k < 16
    · have h1 := plcs_at p4 k h16
      rw [List.getElem?_append_left (by exact h16), Array.getElem?_toList, h1]
      unfold gtb gtq; rw [if_pos h16, if_pos h16]
    · obtain rfl : k = 16 := by omega
      rfl
  have n4q : p4 ≠ q := by omega
  have n2q : p2 ≠ q := by omega
  have hgS : g ∉ [p4, q] := by simp; omega
  have hqw : w.heap.size ≤ q := by have := hwx2.size; omega
  have hT : Tgs w3 (gtb p4 q) gtq 17 := by
    intro k hk
    by_cases h16 : k < 16
    · refine ⟨_, _, by unfold gtb; rw [if_pos h16]; exact h4r, ?_⟩
      unfold gtq; rw [if_pos h16]; simp; omega
    · refine ⟨_, _, by unfold gtb; rw [if_neg h16]; exact hrq3, ?_⟩
      unfold gtq; rw [if_neg h16]; simp
  have hS : ∀ k, k < 17 → gtb p4 q k ∈ [p4, q] := by
    intro k _; unfold gtb; split <;> simp
  have hvS : B ≠ [] → ∀ x, (Value.slice av B.length cv).ownBlock = some x → x ∉ [p4, q] := by
    intro hne y hy hm
    have := HVL.out hne y hy
    simp at hm; omega
  have HB3 := Lib.hid (HB.out.ext hwx3)
  have HNUM := Lib.hid (fun K hall x hx => cnumbers _ B 0 g 0 17 c (gtb p4 q) gtq [p4, q] w3 HB3.out HBB.out hl (by omega) hptr hT hS hgS hvS K hall x hx)
  have H4R := Lib.hid h4r
  have H2R := Lib.hid h2r
  have HRQ := Lib.hid hrq3
  have HVS := Lib.hid hvS
  have HCHN := Lib.hid (fun (K : Nat) (hK : K ≤ 17) => putAll_chg (w := w3) (tq := gtq) (V := valK B 0) hS K hK)
  clear hptr hT hS hvS hrq hrq3 hpl hnew hxa hx3a hx3 hg3 ho3 hq h2r h4r him hz0 hz1 hz2 hgS
  rcases HX.out with ⟨K, hK, hall, hKx, hxne⟩ | ⟨h17, n, hn8, hval, hrest⟩
  · skip
    have hxb : (x == 0) = false := by rw [beq_eq_false_iff_ne]; exact hxne
    have HXN := Lib.hid hxne
    have HALL := Lib.hid hall
    have HKX := Lib.hid hKx
    clear hxne hall hKx
    go_wp2_with fail
    refine (HNUM.out K HALL.out x (.inr ⟨hK, HKX.out, HXN.out⟩)).mono ?_
    rintro e w4 ⟨rfl, hw4⟩
    rw [if_neg HXN.out]
    have hch : Chg [p4, q] w3 w4 := by rw [hw4]; exact HCHN.out K (by omega)
    have h2r4 := (hch.block _ (Array.getElem?_eq_some_iff.1 H2R.out).1 (by simp; omega)).trans H2R.out
    have hwx4 : Ext w w4 := Ext.chg hwx3 hch (by simp; omega)
    clear hw4 hch
    have hch := chg_row w4 p2 (cfgCells (fun _ => 0) (.slice none 0 0))
    go_wp2_with (refine wpList_store_row rfl 75 _ _ rfl p2 (cfgCells (fun _ => 0) (.slice none 0 0)) rfl rfl 75 _ h2r4 cfg_info rfl cfgZ_one ?_)
    refine bodyPost_ret (results_row_tmpc rfl _ _ p2 _ _ _ _ rfl (setRow_heap _ _ _ _ _ _ h2r4) Try.underlying75 rfl cfg_info) rfl ?_
    refine ⟨fun _ => 0, .slice none 0 0, rfl, ⟨_, _, _, rfl⟩, fun h => absurd h HXN.out, ?_⟩
    exact Ext.chg hwx4 hch (by simpa using hw2)
  · have HR := Lib.hid hrest
    clear hrest
    have HVAL := Lib.hid hval
    have hcfg4 := put16 (valK B 0) n4q (hv := .slice none 0 0) H4R.out 17 (by omega)
    have hq4 := put17 (valK B 0) n4q HRQ.out
    rw [HVAL.out] at hq4
    have hch0 := HCHN.out 17 (by omega)
    have HNUM2 := Lib.hid (HNUM.out 17 h17 0 (.inl ⟨rfl, rfl⟩))
    generalize putAll (gtb p4 q) gtq (valK B 0) 17 w3 = w4 at *
    rw [cfgCells_congr (N' := valK B 0) (fun k hk => by rw [if_pos (by omega)])] at hcfg4
    obtain ⟨a0, ha0⟩ : ∃ a0, posK B 0 17 = a0 := ⟨_, rfl⟩
    rw [ha0] at HR HNUM2
    have HA0 := Lib.hid ha0
    have hwx4 : Ext w w4 := Ext.chg hwx3 hch0 (by intro s hs; simp at hs; rcases hs with rfl | rfl; exact hw4; exact hqw)
    have h2r4 := (hch0.block _ (Array.getElem?_eq_some_iff.1 H2R.out).1 (by simp; omega)).trans H2R.out
    have hB4 := HB3.out.chgc hch0 HVS.out
    have HB4 := Lib.hid hB4
    have HCF := Lib.hid hcfg4
    have HQ4 := Lib.hid hq4
    have H2R4 := Lib.hid h2r4
    have HGF : Hid (∀ i j, gF B i j = valK B (hpos B a0 i) j) := Lib.hid (fun i j => by unfold gF; rw [ha0])
    have HGL : Hid (∀ i, gL B i = (getB B (posK B (hpos B a0 i) 3)).1) := Lib.hid (fun i => by unfold gL; rw [ha0])
    clear hval hcfg4 hq4 hch0 h17 hB4 h2r4 ha0 HNUM H4R H2R HRQ HVS HCHN
    go_wp2_with fail
    refine HNUM2.out.mono ?_
    rintro e w5 ⟨rfl, rfl⟩
    (try simp only [if_true])
    rw [← HQE.out]
    have cq : w5.cell? ⟨q, 0, none⟩ = some (.int .i64 n) := cell_of_row w5 q 0 _ _ _ HQ4.out
    have hn8i : ¬ (8 : Int) < (n : Int) := by omega
    go_wp2_with fail
    have l45 : p4 < w5.heap.size := (Array.getElem?_eq_some_iff.1 HCF.out).1
    have l25 : p2 < w5.heap.size := (Array.getElem?_eq_some_iff.1 H2R4.out).1
    have HVS4 : Hid (B ≠ [] → ∀ y, (Value.slice av B.length cv).ownBlock = some y → y ∉ [p4]) := Lib.hid (by
      intro hne y hy hm
      have := HVL.out hne y hy
      simp at hm; omega)
    clear cq HNUM2
    go_loopw [7, 31] (fun ca ci wr => ∃ (i : Nat) (hv : Value), i ≤ n ∧ ci = .int .i64 i ∧ ca = .int .i64 (hpos B a0 i) ∧ (∀ j, j < i → herr B (hpos B a0 j) = 0) ∧ wr.heap[p4]? = some (.cells (cfgCells (valK B 0) hv) 75 (0, 0)) ∧ wr.ownsRow w5.heap.size 36 4 hv i (hcells (gF B) (gL B) i) ∧ Chg [p4] w5 wr) (fun _ ci _ => n - (intOf ci).toNat)
    case atStart => exact ⟨0, _, by omega, rfl, rfl, fun j hj => absurd hj (by omega), HCF.out, World.ownsRow_nil _ _ _ _, Chg.refl _ _⟩
    case round =>
      obtain ⟨i, hv, hi, rfl, rfl, hok, hrow, hown, hC⟩ := hrel
      have HOK := Lib.hid hok
      have HROW := Lib.hid hrow
      have HOWN := Lib.hid hown
      have hBr := HB4.out.chgc hC HVS4.out
      have HBR := Lib.hid hBr
      have hszr := hC.size
      have h2rr := (hC.block _ l25 (by simpa using n24)).trans H2R4.out
      have H2RR := Lib.hid h2rr
      have hhv : ∀ y, hv.ownBlock = some y → w5.heap.size ≤ y := fun y hy => (World.ownsRow.lt hown y hy).1
      have HHV := Lib.hid hhv
      clear hok hrow hown hBr h2rr hhv
      by_cases hlt : i < n
      · have hii : (i : Int) < (n : Int) := by omega
        obtain ⟨he, hhe⟩ : ∃ z, herr B (hpos B a0 i) = z := ⟨_, rfl⟩
        have HE := Lib.hid hhe
        clear hhe
        have HHINT := Lib.hid (chint _ B (hpos B a0 i) wr HBR.out HBB.out hl he HE.out)
        obtain ⟨ap, hap⟩ : ∃ z, hpos B a0 i = z := ⟨_, rfl⟩
        rw [hap] at HHINT
        rw [hap]
        have HAP := Lib.hid hap
        clear hap
        by_cases he0 : he = 0
        · subst he0
          go_wp2_with fail
          refine HHINT.out.mono ?_
          rintro e w6 ⟨f0, f1, f2, ft, nx, rfl, hvals, hx6⟩
          obtain ⟨hf0, hf1, hf2, hft, hnx⟩ := hvals (by first | rfl | trivial)
          have HF := Lib.hid (And.intro hf0 (And.intro hf1 (And.intro hf2 (And.intro hft hnx))))
          have hrow6 := (Below.block hx6 _ (Nat.lt_of_lt_of_le l45 hszr)).trans HROW.out
          have cH : w6.cell? ⟨p4, 16, none⟩ = some hv := cell_of_row w6 p4 16 _ _ _ hrow6
          have fz := frozen_row hrow6 16
          have HROW6 := Lib.hid hrow6
          have HOWN6 := Lib.hid (own_ext HOWN.out hx6)
          have hsz6 : w5.heap.size ≤ w6.heap.size := Nat.le_trans hszr hx6.size
          have HX6 := Lib.hid hx6
          clear hvals hf0 hf1 hf2 hft hnx hrow6 hx6
          have k0 : (w6.alloc (.cells #[.int .i64 f0, .int .i64 f1, .int .i64 f2, .bool ft] 36)).cell? ⟨w6.heap.size, 0, none⟩ = some (.int .i64 f0) := cell_new _ _ _ _ rfl
          have k1 : (w6.alloc (.cells #[.int .i64 f0, .int .i64 f1, .int .i64 f2, .bool ft] 36)).cell? ⟨w6.heap.size, 1, none⟩ = some (.int .i64 f1) := cell_new _ _ _ _ rfl
          have k2 : (w6.alloc (.cells #[.int .i64 f0, .int .i64 f1, .int .i64 f2, .bool ft] 36)).cell? ⟨w6.heap.size, 2, none⟩ = some (.int .i64 f2) := cell_new _ _ _ _ rfl
          have k3 : (w6.alloc (.cells #[.int .i64 f0, .int .i64 f1, .int .i64 f2, .bool ft] 36)).cell? ⟨w6.heap.size, 3, none⟩ = some (.bool ft) := cell_new _ _ _ _ rfl
          have cH7 := cell_old (.cells #[.int .i64 f0, .int .i64 f1, .int .i64 f2, .bool ft] 36 (0, 0)) cH
          have m0 := cell_old (.cells #[.int .i64 f0, .int .i64 f1, .int .i64 f2, .bool ft] 36 (0, 0)) k0
          have m1 := cell_old (.cells #[.int .i64 f0, .int .i64 f1, .int .i64 f2, .bool ft] 36 (0, 0)) k1
          have m2 := cell_old (.cells #[.int .i64 f0, .int .i64 f1, .int .i64 f2, .bool ft] 36 (0, 0)) k2
          have m3 := cell_old (.cells #[.int .i64 f0, .int .i64 f1, .int .i64 f2, .bool ft] 36 (0, 0)) k3
          have cH9 := cell_old (.cells #[.int .i64 f0, .int .i64 f1, .int .i64 f2, .bool ft] 36 (0, 0)) cH7
          have hi8 : i ≤ 8 := by omega
          obtain ⟨hm', him', hy0, hy1, hy2⟩ := info_parts hint_zero
          have hRd : Rd ((w6.alloc (.cells #[.int .i64 f0, .int .i64 f1, .int .i64 f2, .bool ft] 36)).alloc (.cells #[.int .i64 f0, .int .i64 f1, .int .i64 f2, .bool ft] 36)) 4 (.slice (some ⟨w6.heap.size + 1, 0, none⟩) 1 1) 1 [.int .i64 f0, .int .i64 f1, .int .i64 f2, .bool ft] := by
            have := Rd.hint (w6.alloc (.cells #[.int .i64 f0, .int .i64 f1, .int .i64 f2, .bool ft] 36)) f0 f1 f2 ft 36
            simpa using this
          go_wp2_with (at_builtin; go_loud (refine wpList_append_rd rfl _ _ 33 rfl w5.heap.size 36 hm' (.agg #[.int .i64 0, .int .i64 0, .int .i64 0, .bool false]) 4 32 Try.underlying33 him' hy0 hy1 hy2 rfl (by omega) hv i (hcells (gF B) (gL B) i) rfl (own_ext HOWN6.out (by repeat' (first | (with_reducible exact Ext.refl _) | (with_reducible assumption) | (with_reducible refine Ext.alloc ?_ _) | (with_reducible refine Ext.drewN ?_ _) | (with_reducible refine Ext.drew ?_) | (with_reducible refine Ext.trans ?_ (by assumption))))) (.slice (some ⟨w6.heap.size + 1, 0, none⟩) 1 1) 1 [.int .i64 f0, .int .i64 f1, .int .i64 f2, .bool ft] rfl hRd (by simp [Value.oneCell']) (by unfold maxLen; omega) (by omega) (Nat.le_trans hsz6 (Ext.size (w := w6) (by repeat' (first | (with_reducible exact Ext.refl _) | (with_reducible assumption) | (with_reducible refine Ext.alloc ?_ _) | (with_reducible refine Ext.drewN ?_ _) | (with_reducible refine Ext.drew ?_) | (with_reducible refine Ext.trans ?_ (by assumption)))))) ?_))
          intro v8 w8 ho8 hg8
          obtain ⟨g8, c8, rfl, hg8B, hg8l⟩ := World.ownsRow.form ho8 (by omega)
          have hx68 : Ext w6 ((w6.alloc (.cells #[.int .i64 f0, .int .i64 f1, .int .i64 f2, .bool ft] 36)).alloc (.cells #[.int .i64 f0, .int .i64 f1, .int .i64 f2, .bool ft] 36)) := ((Ext.refl w6).alloc _).alloc _
          have hb8 : Below w5.heap.size w6 w8 := (Below.mono hx68 hsz6).grown hg8 (by have := hx68.size; omega) HHV.out
          have hrow8 := (hb8.block _ l45).trans HROW6.out
          have fz8 := frozen_row hrow8 16
          have cH8 : w8.cell? ⟨p4, 16, none⟩ = some hv := cell_of_row w8 p4 16 _ _ _ hrow8
          have HROW8 := Lib.hid hrow8
          have HB8 := Lib.hid hb8
          have HO8 := Lib.hid ho8
          clear hrow8 hb8 ho8 hg8 hx68 cH cH7 cH9 k0 k1 k2 k3 m0 m1 m2 m3 him' hy0 hy1 hy2 fz hRd
          go_wp2_with fail
          go_roundw
          case rel =>
            have hcz : Chg [p4] w8 (w8.setCell ⟨p4, 16, none⟩ (.slice (some ⟨g8, 0, none⟩) (i + 1) c8)) := (by repeat' (first | (with_reducible exact Chg.refl _ _) | (with_reducible assumption) | (with_reducible refine Chg.drewN ?_ _) | (with_reducible refine Chg.drew ?_) | (with_reducible refine Chg.alloc ?_ _) | (with_reducible refine Chg.setCell ?_ (.inl (by simp)) _) | (with_reducible refine Chg.trans ?_ (by assumption)) | (with_reducible refine Chg.ext ?_ (by assumption))))
            have hc58 : Chg [p4] w5 w8 := by
              have h1 : Chg [p4] w5 w6 := hC.ext HX6.out
              exact ⟨HB8.out.os.trans h1.os, HB8.out.tape.trans h1.tape, HB8.out.output.trans h1.output, Nat.le_trans h1.size HB8.out.size, fun k hk hn => (HB8.out.block k hk).trans (h1.block k hk hn)⟩
            have hfin : (HF.out.2.2.2.2) = (HF.out.2.2.2.2) := rfl
            refine ⟨i + 1, _, by omega, by go_num, ?_, ?_, heap_set (o := 16) HROW8.out _, ?_, hc58.trans hcz⟩
            · have := HF.out.2.2.2.2
              rw [this, ← HAP.out]; rfl
            · intro j hj
              by_cases e : j < i
              · exact HOK.out j e
              · obtain rfl : j = i := by omega
                exact HE.out
            · have e4 : hcells (gF B) (gL B) (i + 1) = hcells (gF B) (gL B) i ++ [.int .i64 f0, .int .i64 f1, .int .i64 f2, .bool ft] := by
                obtain ⟨e0, e1, e2, e3, _⟩ := HF.out
                simp only [hcells]
                rw [HGF.out i 0, HGF.out i 1, HGF.out i 2, HGL.out i, HAP.out, e0, e1, e2, e3]
              rw [e4]
              exact own_chg HO8.out hcz (by simp; omega)
          case measure => simp [intOf]; omega
        · have hxi : x = he := by
            rcases HR.out with ⟨i0, hi0, hall0, hx0, _⟩ | ⟨hallok, _⟩
            · by_cases e1 : i0 < i
              · exact absurd (hx0.symm.trans (HOK.out i0 e1)) (by assumption)
              · by_cases e2 : i < i0
                · exact absurd (HE.out.symm.trans (hall0 i e2)) he0
                · obtain rfl : i = i0 := by omega
                  exact hx0.symm.trans HE.out
            · exact absurd (HE.out.symm.trans (hallok i hlt)) he0
          subst hxi
          have hxb : (x == 0) = false := by rw [beq_eq_false_iff_ne]; exact he0
          have HXN := Lib.hid he0
          clear he0
          go_wp2_with fail
          refine HHINT.out.mono ?_
          rintro e w6 ⟨f0, f1, f2, ft, nx, rfl, _, hx6⟩
          have h2r6 := (Below.block hx6 _ (Nat.lt_of_lt_of_le l25 hszr)).trans H2RR.out
          have hw6 : Ext w w6 := (Ext.chg hwx4 hC (by simpa using hw4)).trans hx6
          have h2r7 := (Below.heap_alloc w6 (.cells #[.int .i64 f0, .int .i64 f1, .int .i64 f2, .bool ft] 36) _ (Array.getElem?_eq_some_iff.1 h2r6).1).trans h2r6
          have hw7 : Ext w (w6.alloc (.cells #[.int .i64 f0, .int .i64 f1, .int .i64 f2, .bool ft] 36)) := hw6.alloc _
          have hch := chg_row (w6.alloc (.cells #[.int .i64 f0, .int .i64 f1, .int .i64 f2, .bool ft] 36)) p2 (cfgCells (fun _ => 0) (.slice none 0 0))
          clear h2r6 hx6
          go_wp2_with (refine wpList_store_row rfl 75 _ _ rfl p2 (cfgCells (fun _ => 0) (.slice none 0 0)) rfl rfl 75 _ h2r7 cfg_info rfl cfgZ_one ?_)
          refine bodyPost_ret (results_row_tmpc rfl _ _ p2 _ _ _ _ rfl (setRow_heap _ _ _ _ _ _ h2r7) Try.underlying75 rfl cfg_info) rfl ?_
          refine ⟨fun _ => 0, .slice none 0 0, rfl, ⟨_, _, _, rfl⟩, fun h => absurd h HXN.out, ?_⟩
          exact Ext.chg hw7 hch (by simpa using hw2)
      · obtain rfl : n = i := by omega
        have hrest : (hpos B a0 n < B.length ∧ x = 2) ∨ (hpos B a0 n = B.length ∧ CfgOk (valK B 0) n (gF B) ∧ x = 0) := by
          rcases HR.out with ⟨i0, hi0, _, hx0, hx00⟩ | ⟨_, h⟩
          · exact absurd (hx0.symm.trans (HOK.out i0 hi0)) hx00
          · exact h
        have hwr : Ext w wr := Ext.chg hwx4 hC (by simpa using hw4)
        rcases hrest with ⟨hat, hx2⟩ | ⟨hat, hcfg, hx2⟩
        · skip
          have HX2 := Lib.hid hx2
          clear hx2
          have h2rr := H2RR.out
          have hch := chg_row wr p2 (cfgCells (fun _ => 0) (.slice none 0 0))
          go_wp2_with (refine wpList_store_row rfl 75 _ _ rfl p2 (cfgCells (fun _ => 0) (.slice none 0 0)) rfl rfl 75 _ h2rr cfg_info rfl cfgZ_one ?_)
          refine bodyPost_ret (results_row_tmpc rfl _ _ p2 _ _ _ _ rfl (setRow_heap _ _ _ _ _ _ h2rr) Try.underlying75 rfl cfg_info) rfl ?_
          refine ⟨fun _ => 0, .slice none 0 0, by rw [HX2.out]; rfl, ⟨_, _, _, rfl⟩, fun h => absurd (HX2.out.symm.trans h) (by decide), ?_⟩
          exact Ext.chg hwr hch (by simpa using hw2)
        · skip
          have HX2 := Lib.hid hx2
          clear hx2
          have hvl := HVAL.out
          have hrw := HROW.out
          have how := HOWN.out
          obtain ⟨N, hN⟩ : ∃ N, N = valK B 0 := ⟨_, rfl⟩
          obtain ⟨G, hG⟩ : ∃ G, G = gF B := ⟨_, rfl⟩
          obtain ⟨M, hM⟩ : ∃ M, M = gL B := ⟨_, rfl⟩
          rw [← hN, ← hG] at hcfg
          rw [← hN] at hrw
          rw [← hG, ← hM] at how
          have HCFG := Lib.hid hcfg
          have HVL2 := Lib.hid hvl
          have HNE : Hid (∀ k, k < 16 → N k = valK B 0 k) := Lib.hid (fun k _ => by rw [hN])
          have HGE := Lib.hid hG
          have HME := Lib.hid hM
          clear HROW HOWN HVAL hvl hN hG hM HGF HGL
          have HROW := Lib.hid hrw
          have HOWN := Lib.hid how
          clear hrw how
          have HWF : Hid (∀ i j, i < n → j < 3 → (Lit.int .i64 (G i j)).wf = true) := Lib.hid (fun i j hi hj => by
            have := hint_bd hcfg hi j hj
            simp [Lit.wf, IntKind.min, IntKind.max, IntKind.signed, IntKind.bits]; omega)
          have hrh := rdh_of_own HOWN.out
          obtain ⟨ah, ch, rfl, _⟩ := hrh
          have HRH := Lib.hid (rdh_of_own HOWN.out)
          have hrow := HROW.out
          have hoc : (cfgCells N (.slice ah n ch)).all (·.oneCell') = true := by simp [cfgCells, Value.oneCell']
          have HCR := Lib.hid (fun w' (hx : Ext wr w') => show Calls Try.prog 48 #[.agg (cfgCells N (.slice ah n ch))] w' (fun e w'' => e = .returned (.bool true) ∧ Ext w' w'') from cright_true N (.slice ah n ch) n G M w' (HRH.out.ext hx) HWF.out HCFG.out)
          obtain ⟨cc, hcc⟩ : ∃ cc, cc = cfgCells N (.slice ah n ch) := ⟨_, rfl⟩
          have hci : (Try.prog.info? 75).map (·.size) = some cc.size := by rw [hcc]; exact cfg_info
          have hcs : cc.size = 17 := by rw [hcc]; rfl
          rw [← hcc] at hrow hoc HCR
          have HCC := Lib.hid hcc
          clear hcc
          go_wp2_with (refine wpList_load_row rfl 75 _ rfl p4 rfl 75 cc (0, 0) _ hrow Try.underlying75 rfl hci ?_)
          refine (HCR.out _ (Ext.refl _)).mono ?_
          rintro e w6 ⟨rfl, hx6⟩
          have hrow6 := (Below.block hx6 _ (Array.getElem?_eq_some_iff.1 hrow).1).trans hrow
          have h2r6 := (Below.block hx6 _ (Array.getElem?_eq_some_iff.1 H2RR.out).1).trans H2RR.out
          have HOWN6 := Lib.hid (own_ext HOWN.out hx6)
          have hwr6 : Ext w w6 := hwr.trans hx6
          clear HCR hrow hx6
          go_wp2_with (first | (refine wpList_load_row rfl 75 _ rfl p4 rfl 75 cc (0, 0) _ hrow6 Try.underlying75 rfl hci ?_) | (refine wpList_store_row rfl 75 _ _ rfl p2 cc rfl rfl 75 _ h2r6 hci (by rw [hcs]; rfl) hoc ?_))
          have hch6 : Chg [p2] w6 (w6.setRow p2 cc) := chg_row w6 p2 cc
          refine bodyPost_ret (results_row_tmpc rfl _ _ p2 _ _ _ _ rfl (setRow_heap _ _ _ cc _ _ h2r6) Try.underlying75 rfl hci) rfl ?_
          refine ⟨N, .slice ah n ch, ?_, ⟨_, _, _, rfl⟩, fun _ => ⟨n, HVL2.out, HNE.out, ?_⟩, ?_⟩
          · rw [HX2.out, HCC.out]
            rfl
          · rw [← HGE.out, ← HME.out]
            exact rdh_of_own (own_chg HOWN6.out hch6 (by simpa using l25))
          · exact Ext.chg hwr6 hch6 (by simpa using hw2)
end Go.Proofs.Ytmkobmkaalfecaa
