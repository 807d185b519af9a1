/-
  wide.Order: of any fractions that are right, up to a thousand; of more; of one that is not right. No condition but that they read.
-/
import Derived.Test.YthoioocfembkgaaWoStab
import Derived.Test.YthoioocfembkgaaKOrder2
namespace Go.Proofs.Ythoioocfembkgaa
open Go.RowKit

/-- the first n of a function's values -/
def rngF (n : Nat) (Z : Nat → Nat) : List Nat := (List.range n).map Z
theorem rngF_len (n : Nat) (Z : Nat → Nat) : (rngF n Z).length = n := by simp [rngF]
theorem rngF_at (n : Nat) (Z : Nat → Nat) {j : Nat} (h : j < n) : (rngF n Z).getD j 0 = Z j := by
  simp [rngF, List.getD, h]
theorem ArF.arr {w : World} {g n : Nat} {Z : Nat → Nat} (h : ArF w g n Z) : ArrAt w g n (rngF n Z) := by
  obtain ⟨cs, t, h1, h2⟩ := h.row
  exact ⟨rngF_len n Z, cs, t, h1, fun j hj => by rw [rngF_at n Z hj]; exact h2 j hj⟩
theorem ArrAt.arF {w : World} {g n : Nat} (h : ArrAt w g n (List.range n)) : ArF w g n (fun k => k) := by
  obtain ⟨cs, t, h1, h2⟩ := h.row
  exact ⟨fun k hk => hk, cs, t, h1, fun j hj => by rw [h2 j hj]; simp [List.getD, hj]⟩

set_option maxHeartbeats 2000000 in
theorem wo_index (v : Value) (n i0 : Nat) (T B : Nat → Int) (w : World) (h : RdF w v n T B) (hi0 : i0 < n) (ok : ∀ i, i < i0 → rightB (T i) (B i) = true) (bad : rightB (T i0) (B i0) = false) :
    Calls Try.prog 19 #[v, .func (.func 11) #[] #[]] w fun e w' => e = .returned (.int .i64 i0) ∧ Ext w w' := by
  obtain ⟨a, c, rfl, hc, hm, hs⟩ := h
  obtain ⟨b, o, rfl, hb, hcell⟩ := hs (by omega)
  have HS := Lib.hid hcell
  have HOK := Lib.hid ok
  have HBAD := Lib.hid bad
  have hn63 : (n : Int) ≤ 9223372036854775807 := by unfold maxLen at hm; omega
  have HI := Lib.hid hi0
  clear hs ok hm hc bad hcell hi0
  go_enter Try.func19, Try.ntmps19
  go_wp2_with fail
  go_loopw [8] (fun ci wr => ∃ i : Nat, i ≤ i0 ∧ ci = .int .i64 i ∧ Ext w wr) (fun ci _ => n - (intOf ci).toNat)
  case atStart => exact ⟨0, Nat.zero_le _, rfl, Ext.refl _⟩
  case round =>
    obtain ⟨i, hi, rfl, hx⟩ := hrel
    have hlt : i < n := Nat.lt_of_le_of_lt hi HI.out
    have x0 := hx.cellv (HS.out i hlt).1
    have x1 := hx.cellv (HS.out i hlt).2
    have hii : (i : Int) < (n : Int) := by omega
    obtain ⟨t, ht⟩ : ∃ t, t = T i := ⟨_, rfl⟩
    obtain ⟨d, hd⟩ : ∃ d, d = B i := ⟨_, rfl⟩
    by_cases heq : i = i0
    · have HW := Lib.hid (fun w' => kwrong t d false (by rw [ht, hd, heq]; exact HBAD.out) w')
      have HE := Lib.hid heq
      rw [← ht] at x0
      rw [← hd] at x1
      clear ht hd heq hlt
      go_wp2_with fail
      refine (HW.out _).mono ?_
      rintro e w1 ⟨rfl, hx1⟩
      go_wp2_with fail
      go_ret
      exact ⟨by rw [HE.out]; rfl, (by repeat' (first | (with_reducible exact Ext.refl _) | (with_reducible assumption) | (with_reducible refine Ext.alloc ?_ _) | (with_reducible refine Ext.drewN ?_ _) | (with_reducible refine Ext.drew ?_) | (with_reducible refine Ext.trans ?_ (by assumption))))⟩
    · have HW := Lib.hid (fun w' => kwrong t d true (by rw [ht, hd]; exact HOK.out i (by omega)) w')
      have HE := Lib.hid (show i + 1 ≤ i0 by omega)
      have HL := Lib.hid hlt
      rw [← ht] at x0
      rw [← hd] at x1
      clear ht hd heq hlt
      go_wp2_with fail
      refine (HW.out _).mono ?_
      rintro e w1 ⟨rfl, hx1⟩
      go_wp2_with fail
      go_roundw
      case rel => exact ⟨i + 1, HE.out, by go_num, (by repeat' (first | (with_reducible exact Ext.refl _) | (with_reducible assumption) | (with_reducible refine Ext.alloc ?_ _) | (with_reducible refine Ext.drewN ?_ _) | (with_reducible refine Ext.drew ?_) | (with_reducible refine Ext.trans ?_ (by assumption))))⟩
      case measure => have := HL.out; simp [intOf]; omega
theorem wo_contains (v : Value) (n i0 : Nat) (T B : Nat → Int) (w : World) (h : RdF w v n T B) (hi0 : i0 < n) (ok : ∀ i, i < i0 → rightB (T i) (B i) = true) (bad : rightB (T i0) (B i0) = false) :
    Calls Try.prog 10 #[v, .func (.func 11) #[] #[]] w fun e w' => e = .returned (.bool true) ∧ Ext w w' := by
  have HK := Lib.hid (wo_index v n i0 T B w h hi0 ok bad)
  have hi : (0 : Int) ≤ (i0 : Int) := by omega
  clear h ok bad hi0
  go_enter Try.func10, Try.ntmps10
  go_wp2_with fail
  refine HK.out.mono ?_
  rintro e w1 ⟨rfl, hx1⟩
  go_wp2_with fail
  go_ret
  exact ⟨rfl, hx1⟩
set_option maxRecDepth 100000 in
set_option maxHeartbeats 4000000 in
theorem wo_order_bad (v : Value) (n i0 : Nat) (T B : Nat → Int) (w : World) (h : RdF w v n T B) (hi0 : i0 < n) (ok : ∀ i, i < i0 → rightB (T i) (B i) = true) (bad : rightB (T i0) (B i0) = false) :
    Calls Try.prog 5 #[v] w fun e w' => e = .returned (.tuple #[.slice none 0 0, .int .i64 6]) ∧ Ext w w' := by
  have HK := Lib.hid (fun w' (hx : Ext w w') => wo_contains v n i0 T B w' (h.ext hx) hi0 ok bad)
  obtain ⟨a, c, rfl, hc, hm, hs⟩ := h
  clear hs ok bad hi0 hc hm
  go_enter Try.func5, Try.ntmps5
  go_wp2_with fail
  refine (HK.out _ (by repeat' (first | (with_reducible exact Ext.refl _) | (with_reducible assumption) | (with_reducible refine Ext.alloc ?_ _) | (with_reducible refine Ext.drewN ?_ _) | (with_reducible refine Ext.drew ?_) | (with_reducible refine Ext.trans ?_ (by assumption))))).mono ?_
  rintro e w1 ⟨rfl, hx1⟩
  go_wp2_with fail
  go_ret2
  exact ⟨rfl, (by repeat' (first | (with_reducible exact Ext.refl _) | (with_reducible assumption) | (with_reducible refine Ext.alloc ?_ _) | (with_reducible refine Ext.drewN ?_ _) | (with_reducible refine Ext.drew ?_) | (with_reducible refine Ext.trans ?_ (by assumption))))⟩
set_option maxRecDepth 100000 in
set_option maxHeartbeats 4000000 in
theorem wo_order_many (v : Value) (n : Nat) (T B : Nat → Int) (w : World) (h : RdF w v n T B) (ok : ∀ i, i < n → rightB (T i) (B i) = true) (hn : 1000 < n) :
    Calls Try.prog 5 #[v] w fun e w' => e = .returned (.tuple #[.slice none 0 0, .int .i64 4]) ∧ Ext w w' := by
  have HK := Lib.hid (fun w' (hx : Ext w w') => kcontains v n T B w' (h.ext hx) ok)
  have HH := Lib.hid h
  obtain ⟨a, c, rfl, hc, hm, hs⟩ := h
  have hn9 : (1000 : Int) < (n : Int) := by omega
  have hn63 : (n : Int) ≤ 9223372036854775807 := by unfold maxLen at hm; omega
  clear hs ok hn hc hm
  go_enter Try.func5, Try.ntmps5
  go_upto_region 1 with fail
  have hr1 : (w.alloc (.cells #[.slice a n c] 22)).heap[w.heap.size]? = some (.cells #[.slice a n c] 22 (0, 0)) := heap_alloc_new w _
  have hx0 : Ext w (w.alloc (.cells #[.slice a n c] 22)) := (Ext.refl w).alloc _
  generalize (w.alloc (.cells #[.slice a n c] 22)) = w0 at *
  obtain ⟨p1, hp⟩ : ∃ p, p = w.heap.size := ⟨_, rfl⟩
  rw [← hp] at hr1 ⊢
  have c1 := cell_of_row w0 p1 0 _ _ _ hr1
  simp only [List.getElem?_toArray, List.getElem?_cons_zero] at c1
  clear hp hr1
  go_wp2_with fail
  refine (HK.out _ (by repeat' (first | (with_reducible exact Ext.refl _) | (with_reducible assumption) | (with_reducible refine Ext.alloc ?_ _) | (with_reducible refine Ext.drewN ?_ _) | (with_reducible refine Ext.drew ?_) | (with_reducible refine Ext.trans ?_ (by assumption))))).mono ?_
  rintro e w1 ⟨rfl, hx1⟩
  have c1 := hx1.cellv c1
  go_wp2_with fail
  go_ret2
  exact ⟨rfl, (by repeat' (first | (with_reducible exact Ext.refl _) | (with_reducible assumption) | (with_reducible refine Ext.alloc ?_ _) | (with_reducible refine Ext.drewN ?_ _) | (with_reducible refine Ext.drew ?_) | (with_reducible refine Ext.trans ?_ (by assumption))))⟩
set_option maxRecDepth 100000 in
set_option maxHeartbeats 4000000 in
theorem wo_order (v : Value) (n : Nat) (T B : Nat → Int) (w : World) (h : RdF w v n T B) (ok : ∀ i, i < n → rightB (T i) (B i) = true) (hB : ∀ i, 0 < B i) (hn : n ≤ 1000) :
    Calls Try.prog 5 #[v] w fun e w' => ∃ v' Z, e = .returned (.tuple #[v', .int .i64 0]) ∧ SrtF T B Z 0 n ∧ (∀ k, k < n → Z k < n) ∧ RdI .i64 w' v' (plz (rngF n Z)) ∧ Ext w w' := by
  have H := Lib.hid h
  have HOK := Lib.hid ok
  have HB := Lib.hid hB
  obtain ⟨a, c, rfl, hc, hm, hs⟩ := h
  have HS := Lib.hid hs
  have hn9 : (n : Int) ≤ 1000 := by omega
  clear hc hs ok hB
  go_enter Try.func5, Try.ntmps5
  go_upto_region 1 with fail
  have hr1 : (w.alloc (.cells #[.slice a n c] 22)).heap[w.heap.size]? = some (.cells #[.slice a n c] 22 (0, 0)) := heap_alloc_new w _
  have hx0 : Ext w (w.alloc (.cells #[.slice a n c] 22)) := (Ext.refl w).alloc _
  generalize (w.alloc (.cells #[.slice a n c] 22)) = w0 at *
  obtain ⟨p1, hp⟩ : ∃ p, p = w.heap.size := ⟨_, rfl⟩
  rw [← hp] at hr1 ⊢
  have hp1 : p1 < w0.heap.size := (Array.getElem?_eq_some_iff.1 hr1).1
  have hwp : w.heap.size ≤ p1 := by omega
  have c1 := cell_of_row w0 p1 0 _ _ _ hr1
  simp only [List.getElem?_toArray, List.getElem?_cons_zero] at c1
  clear hp hr1
  go_wp2_with fail
  refine (kcontains _ n T B _ (H.out.ext hx0) HOK.out).mono ?_
  rintro e w1 ⟨rfl, hx1⟩
  have hX1 := hx0.trans hx1
  have c1 := hx1.cellv c1
  have hp1 : p1 < w1.heap.size := Nat.lt_of_lt_of_le hp1 hx1.size
  clear hx0 hx1
  go_wp2_with fail
  go_loopw [4, 13] (fun cv ci wr => ∃ k : Nat, k ≤ n ∧ ci = .int .i64 k ∧ OwnI .i64 3 w1.heap.size wr cv (plz (List.range k)) ∧ Ext w1 wr) (fun _ ci _ => n - (intOf ci).toNat)
  case atStart => exact ⟨0, Nat.zero_le _, rfl, OwnI.nil _ _ _ _, Ext.refl _⟩
  case round =>
    obtain ⟨k, hk, rfl, ho, hx⟩ := hrel
    have HO := Lib.hid ho
    clear ho
    by_cases hlt : k < n
    · have hki : (k : Int) < (n : Int) := by omega
      go_wp2_with (at_builtin; refine wpList_append_ints rfl _ _ 24 rfl 3 .i64 0 8 Try.underlying24 kints_info (by decide) w1 (by repeat' (first | (with_reducible exact Ext.refl _) | (with_reducible assumption) | (with_reducible refine Ext.alloc ?_ _) | (with_reducible refine Ext.drewN ?_ _) | (with_reducible refine Ext.drew ?_) | (with_reducible refine Ext.trans ?_ (by assumption)))) _ _ rfl (HO.out.ext ((Ext.refl _).alloc _)) _ _ rfl (RdI.one _ _ _ _) (by rw [plz_len]; unfold Fits; simp; omega) ?_)
      intro v2 w2 ho2 hx2
      have he := plz_range k
      rw [← he] at ho2
      have HO2 := Lib.hid ho2
      clear he ho2
      go_wp2_with fail
      go_roundw
      case rel => exact ⟨k + 1, by omega, by go_num, HO2.out, hx2⟩
      case measure => simp [intOf]; omega
    · obtain rfl : k = n := by omega
      have c1 := hx.cellv c1
      have hXr := hX1.trans hx
      by_cases h0 : k = 0
      · subst h0
        have ho0 := HO.out
        obtain ⟨a4, c4, e4, _⟩ := ho0.rd.parts
        have e4 : u4 = .slice a4 0 c4 := e4
        have HR := Lib.hid ho0.rd
        clear ho0
        subst e4
        go_wp2_with fail
        refine (kstable0 _ _ p1 _).mono ?_
        rintro e w3 ⟨rfl, rfl⟩
        go_wp2_with fail
        go_ret2
        exact ⟨_, fun k => k, rfl, fun i j _ _ h => absurd h (Nat.not_lt_zero _), fun k h => h, HR.out, hXr⟩
      · obtain ⟨g, cg, e4, hgc, hgm, hgb, harr⟩ := arr_of_own HO.out (n := k) (by simp) (by omega)
        obtain ⟨b, o, rfl, hb, hcell⟩ := HS.out (by omega)
        have hrd := (H.out.ext hXr)
        have hFr : ∀ w', Chg [g] wr w' → FrAt w' p1 k T B := by
          intro w' hc
          have h1 : p1 ∉ [g] := by simp; omega
          have h2 : b ∉ [g] := by have := hX1.size; simp; omega
          refine ⟨HOK.out, b, o, c, ?_, ?_, hm, fun i hi => ?_⟩
          · exact (World.cell?_of_block (hc.block p1 (cell_lt c1) h1)).trans c1
          · obtain ⟨_, _, e, hc9, _⟩ := H.out; cases e; exact hc9
          · have hbw := Nat.lt_of_lt_of_le hb hXr.size
            exact ⟨(World.cell?_of_block (hc.block b hbw h2)).trans (hXr.cellv (hcell i hi).1), (World.cell?_of_block (hc.block b hbw h2)).trans (hXr.cellv (hcell i hi).2)⟩
        have HFR := Lib.hid hFr
        have HAR := Lib.hid harr.arF
        have HGB := Lib.hid hgb
        subst e4
        clear hFr harr hrd hcell hgb
        go_wp2_with fail
        refine (wo_sort p1 g k cg T B _ HAR.out HB.out (by omega) HFR.out).mono ?_
        rintro e w3 ⟨rfl, ⟨Z, hM, hMa⟩, hc3⟩
        have HMO := Lib.hid hM
        have HZN := Lib.hid hMa.ok
        have HRD := Lib.hid (hMa.arr.rd hgc hgm)
        have hX3 : Ext w w3 := Ext.chg hXr hc3 (by have := HGB.out; have := hX1.size; simp; omega)
        clear hM hMa hc3
        go_wp2_with fail
        go_ret2
        exact ⟨_, Z, rfl, HMO.out, HZN.out, HRD.out, hX3⟩
end Go.Proofs.Ythoioocfembkgaa
