/-
  wide.Order of fewer than twenty fractions. No condition but that they read, and are right.
-/
import Derived.Test.YthoioocfembkgaaKOrder
import Derived.Test.YthoioocfembkgaaInts
namespace Go.Proofs.Ythoioocfembkgaa
open Go.RowKit

theorem kints_info : (Try.prog.info? 3).map (fun i => (i.zero, i.size, i.bytes)) = some (some (.int .i64 0), 1, 8) := by kernel_rfl
/-- places as integers -/
def plz (L : List Nat) : List Int := L.map (fun (b : Nat) => (b : Int))
theorem plz_len (L : List Nat) : (plz L).length = L.length := by simp [plz]
theorem plz_at (L : List Nat) (j : Nat) : (plz L).getD j 0 = ((L.getD j 0 : Nat) : Int) := by
  unfold plz
  simp only [List.getD_eq_getElem?_getD, List.getElem?_map]
  cases L[j]? <;> rfl
theorem plz_range (k : Nat) : plz (List.range (k + 1)) = plz (List.range k) ++ [(k : Int)] := by unfold plz; rw [List.range_succ, List.map_append]; rfl
theorem ArrAt.rd {w : World} {g n c : Nat} {M : List Nat} (h : ArrAt w g n M) (hc : n ≤ c) (hm : c ≤ maxLen) : RdI .i64 w (.slice (some ⟨g, 0, none⟩) n c) (plz M) := by
  have hl : (plz M).length = n := by rw [plz_len, h.len]
  refine ⟨by simp, some ⟨g, 0, none⟩, c, by rw [hl], by rw [hl]; exact hc, hm, fun e => (by cases e), fun _ => ⟨g, 0, rfl, h.lt, fun j u hu => ?_⟩⟩
  rw [List.getElem?_map] at hu
  obtain ⟨y, hy, rfl⟩ := Option.map_eq_some_iff.1 hu
  have hj : j < n := by have := (List.getElem?_eq_some_iff.1 hy).1; omega
  rw [Nat.zero_add, h.cell hj, ← plz_at]
  simp [List.getD, hy]
theorem arr_of_own {w : World} {base n : Nat} {v : Value} {M : List Nat} (h : OwnI .i64 3 base w v (plz M)) (hM : M.length = n) (h1 : 1 ≤ n) :
    ∃ g c, v = .slice (some ⟨g, 0, none⟩) n c ∧ n ≤ c ∧ c ≤ maxLen ∧ base ≤ g ∧ ArrAt w g n M := by
  have hl : (plz M).length = n := by rw [plz_len, hM]
  obtain ⟨h0, h2⟩ := h
  rw [hl] at h2
  rcases h2 with ⟨_, e⟩ | ⟨g, cap, cur, rfl, hb, hg, hn, hm, _, ht⟩
  · omega
  · refine ⟨g, cap, rfl, hn, hm, hb, hM, cur, 3, hg, fun j hj => ?_⟩
    have hjl : j < (plz M).length := by omega
    have : (cellsOf .i64 (plz M))[j]? = some (.int .i64 ((plz M).getD j 0)) := by
      rw [List.getElem?_map, List.getElem?_eq_getElem hjl]; simp [List.getD, hjl]
    rw [← ht, List.getElem?_take, if_pos (by omega)] at this
    rw [← plz_at]
    simpa using this

set_option maxRecDepth 100000 in
set_option maxHeartbeats 4000000 in
theorem korder (v : Value) (n : Nat) (T B : Nat → Int) (w : World) (h : RdF w v n T B) (ok : ∀ i, i < n → rightB (T i) (B i) = true) (hB : ∀ i, 0 < B i) (hn : n < 20) :
    Calls Try.prog 5 #[v] w fun e w' => ∃ v' M, e = .returned (.tuple #[v', .int .i64 0]) ∧ Ord T B n M ∧ RdI .i64 w' v' (plz M) ∧ (∀ b, v'.ownBlock = some b → 0 < n → w.heap.size ≤ b) ∧ Ext w w' := by
  have H := Lib.hid h
  have HOK := Lib.hid ok
  have HB := Lib.hid hB
  obtain ⟨a, c, rfl, hc, hm, hs⟩ := h
  have HS := Lib.hid hs
  have hn9 : (n : Int) < 20 := by omega
  clear hc hs ok hB
  go_enter Try.func5, Try.ntmps5
  go_upto_region 1 with fail
  have hr1 : (w.alloc (.cells #[.slice a n c] 22)).heap[w.heap.size]? = some (.cells #[.slice a n c] 22 (0, 0)) := heap_alloc_new w _
  have hx0 : Ext w (w.alloc (.cells #[.slice a n c] 22)) := (Ext.refl w).alloc _
  generalize (w.alloc (.cells #[.slice a n c] 22)) = w0 at *
  obtain ⟨p1, hp⟩ : ∃ p, p = w.heap.size := ⟨_, rfl⟩
  rw [← hp] at hr1 ⊢
  have hp1 : p1 < w0.heap.size := (Array.getElem?_eq_some_iff.1 hr1).1
  have hwp : w.heap.size ≤ p1 := by omega
  have c1 := cell_of_row w0 p1 0 _ _ _ hr1
  simp only [List.getElem?_toArray, List.getElem?_cons_zero] at c1
  clear hp hr1
  go_wp2_with fail
  refine (kcontains _ n T B _ (H.out.ext hx0) HOK.out).mono ?_
  rintro e w1 ⟨rfl, hx1⟩
  have hX1 := hx0.trans hx1
  have c1 := hx1.cellv c1
  have hp1 : p1 < w1.heap.size := Nat.lt_of_lt_of_le hp1 hx1.size
  clear hx0 hx1
  go_wp2_with fail
  go_loopw [4, 13] (fun cv ci wr => ∃ k : Nat, k ≤ n ∧ ci = .int .i64 k ∧ OwnI .i64 3 w1.heap.size wr cv (plz (List.range k)) ∧ Ext w1 wr) (fun _ ci _ => n - (intOf ci).toNat)
  case atStart => exact ⟨0, Nat.zero_le _, rfl, OwnI.nil _ _ _ _, Ext.refl _⟩
  case round =>
    obtain ⟨k, hk, rfl, ho, hx⟩ := hrel
    have HO := Lib.hid ho
    clear ho
    by_cases hlt : k < n
    · have hki : (k : Int) < (n : Int) := by omega
      go_wp2_with (at_builtin; refine wpList_append_ints rfl _ _ 24 rfl 3 .i64 0 8 Try.underlying24 kints_info (by decide) w1 (by repeat' (first | (with_reducible exact Ext.refl _) | (with_reducible assumption) | (with_reducible refine Ext.alloc ?_ _) | (with_reducible refine Ext.drewN ?_ _) | (with_reducible refine Ext.drew ?_) | (with_reducible refine Ext.trans ?_ (by assumption)))) _ _ rfl (HO.out.ext ((Ext.refl _).alloc _)) _ _ rfl (RdI.one _ _ _ _) (by rw [plz_len]; unfold Fits; simp; omega) ?_)
      intro v2 w2 ho2 hx2
      have he := plz_range k
      rw [← he] at ho2
      have HO2 := Lib.hid ho2
      clear he ho2
      go_wp2_with fail
      go_roundw
      case rel => exact ⟨k + 1, by omega, by go_num, HO2.out, hx2⟩
      case measure => simp [intOf]; omega
    · obtain rfl : k = n := by omega
      have c1 := hx.cellv c1
      have hXr := hX1.trans hx
      by_cases h0 : k = 0
      · subst h0
        have ho0 := HO.out
        obtain ⟨a4, c4, e4, _⟩ := ho0.rd.parts
        have e4 : u4 = .slice a4 0 c4 := e4
        have HR := Lib.hid ho0.rd
        clear ho0
        subst e4
        go_wp2_with fail
        refine (kstable0 _ _ p1 _).mono ?_
        rintro e w3 ⟨rfl, rfl⟩
        go_wp2_with fail
        go_ret2
        exact ⟨_, [], rfl, Ord.zero T B, HR.out, fun _ _ h => absurd h (Nat.lt_irrefl _), hXr⟩
      · obtain ⟨g, cg, e4, hgc, hgm, hgb, harr⟩ := arr_of_own HO.out (n := k) (by simp) (by omega)
        obtain ⟨b, o, rfl, hb, hcell⟩ := HS.out (by omega)
        have hrd := (H.out.ext hXr)
        have hFr : ∀ w', Chg [g] wr w' → FrAt w' p1 k T B := by
          intro w' hc
          have h1 : p1 ∉ [g] := by simp; omega
          have h2 : b ∉ [g] := by have := hX1.size; simp; omega
          refine ⟨HOK.out, b, o, c, ?_, ?_, hm, fun i hi => ?_⟩
          · exact (World.cell?_of_block (hc.block p1 (cell_lt c1) h1)).trans c1
          · obtain ⟨_, _, e, hc9, _⟩ := H.out; cases e; exact hc9
          · have hbw := Nat.lt_of_lt_of_le hb hXr.size
            exact ⟨(World.cell?_of_block (hc.block b hbw h2)).trans (hXr.cellv (hcell i hi).1), (World.cell?_of_block (hc.block b hbw h2)).trans (hXr.cellv (hcell i hi).2)⟩
        have HFR := Lib.hid hFr
        have HAR := Lib.hid harr
        have HGB := Lib.hid hgb
        subst e4
        clear hFr harr hrd hcell hgb
        go_wp2_with fail
        refine (kstable p1 g k cg T B _ HAR.out HB.out (by omega) HFR.out).mono ?_
        rintro e w3 ⟨rfl, ⟨M, hM, hMa⟩, hc3⟩
        have HMO := Lib.hid hM
        have HRD := Lib.hid (hMa.rd hgc hgm)
        have hX3 : Ext w w3 := Ext.chg hXr hc3 (by have := HGB.out; have := hX1.size; simp; omega)
        clear hM hMa hc3
        go_wp2_with fail
        go_ret2
        exact ⟨_, M, rfl, HMO.out, HRD.out, fun b hb _ => by cases hb; exact Nat.le_trans hX1.size HGB.out, hX3⟩
end Go.Proofs.Ythoioocfembkgaa
