/-
  gradineref01.Get: it answers as raw.Get does. No condition but that the bytes read.
-/
import Derived.Test.YtoadjmeopamgbaaStAll
import Derived.Test.YtoadjmeopamgbaaSpc
import Derived.Test.YtoadjmeopamgbaaGetText
import Derived.Deep.Cut
import Derived.Deep.CutRange
namespace Go.Proofs.Ytoadjmeopamgbaa
open Go.RowKit

theorem got4 {w : World} {p : Nat} {u0 u1 u2 u3 : Value} {t : TypeId} (h : w.heap[p]? = some (.cells #[u0, u1, u2, u3] t (0, 0))) (v0 v1 v2 v3 : Value) :
    ((((w.setCell ⟨p, 0, none⟩ v0).setCell ⟨p, 1, none⟩ v1).setCell ⟨p, 2, none⟩ v2).setCell ⟨p, 3, none⟩ v3).heap[p]? = some (.cells #[v0, v1, v2, v3] t (0, 0)) :=
  (heap_set (heap_set (heap_set (heap_set h v0) v1) v2) v3).trans (by kernel_rfl)
theorem got_info : (Try.prog.info? 87).map (·.size) = some 4 := by kernel_rfl
theorem got_unit {U i : Nat} (h : U = 128 ^ i) (hi : i ≤ 7) : IntKind.i64.wrap ((U : Int) * 128) = ((U * 128 : Nat) : Int) ∧ U * 128 = 128 ^ (i + 1) := by
  have h1 : U ≤ 128 ^ 7 := by rw [h]; exact Nat.pow_le_pow_right (by decide) hi
  have h2 : (128 : Nat) ^ 7 = 562949953421312 := by decide
  refine ⟨?_, by rw [h, Nat.pow_succ]⟩
  rw [IntKind.wrap_i64]
  omega
theorem got_add {U i acc : Nat} (h : U = 128 ^ i) (hi : i ≤ 8) (ha : acc < 128 ^ i) {x : Int} : IntKind.i64.wrap ((U : Int) * (x % 128)) = (U : Int) * (x % 128) ∧ IntKind.i64.wrap ((acc : Int) + (U : Int) * (x % 128)) = ((acc + (x % 128).toNat * U : Nat) : Int) ∧ acc + (x % 128).toNat * U < 128 ^ (i + 1) := by
  have h1 : U ≤ 128 ^ 8 := by rw [h]; exact Nat.pow_le_pow_right (by decide) hi
  have h2 : (128 : Nat) ^ 8 = 72057594037927936 := by decide
  obtain ⟨r, hr⟩ : ∃ r : Nat, x % 128 = (r : Int) := ⟨(x % 128).toNat, by omega⟩
  have hr2 : r ≤ 127 := by omega
  rw [hr]
  have h3 : r * U ≤ 127 * U := Nat.mul_le_mul_right _ hr2
  have h4 : (U : Int) * (r : Int) = ((r * U : Nat) : Int) := by rw [Nat.mul_comm]; simp
  have h5 : acc + r * U < 128 ^ (i + 1) := by rw [Nat.pow_succ, ← h]; rw [← h] at ha; omega
  rw [h4, Int.toNat_natCast]
  refine ⟨?_, ?_, h5⟩
  · rw [IntKind.wrap_i64]; omega
  · rw [IntKind.wrap_i64]; omega

set_option maxRecDepth 100000 in
set_option maxHeartbeats 4000000 in
theorem rget_in (v : Value) (l : List Int) (p : Nat) (w : World) (h : RdI .u8 w v l) (hb : ∀ x ∈ l, 0 ≤ x ∧ x ≤ 255) (hp : p ≤ l.length) (hl : l.length ≤ 9223372036854775000) :
    Calls Try.prog 43 #[v, .int .i64 p] w fun e w' => e = .returned (.agg #[.int .i64 (getN l p).1, .slice none 0 0, .int .i64 (getN l p).2.1, .int .i64 (getN l p).2.2]) ∧ Ext w w' := by
  obtain ⟨a, c, rfl, hc, hm, hn, hs⟩ := h.parts
  clear hm hn hc
  have HS := Lib.hid hs
  have HB := Lib.hid hb
  have hg : getN l p = (match getL (l.drop p) 0 0 with | (n, k, e) => if e = 0 then ((n : Int), (p : Int) + k, 0) else (0, 0, (e : Int))) := by
    unfold getN; rw [if_pos ⟨by omega, by omega⟩, Int.toNat_natCast]
  have HG := Lib.hid hg
  clear hs hb h hg
  have hd1 : ¬ (p : Int) < 0 := by omega
  have hd2 : ¬ (l.length : Int) < (p : Int) := by omega
  obtain ⟨L, hL⟩ : ∃ L, L = l.length := ⟨_, rfl⟩
  rw [← hL] at hl hp hd2 HS ⊢
  have HL := Lib.hid hL
  clear hL
  go_enter Try.func43, Try.ntmps43
  go_upto_region 1 with fail
  have hrow := heap_alloc_new w (.cells #[.int .i64 0, .slice none 0 0, .int .i64 0, .int .i64 0] 87)
  have hxA : Ext w (w.alloc (.cells #[.int .i64 0, .slice none 0 0, .int .i64 0, .int .i64 0] 87)) := (Ext.refl w).alloc _
  generalize (w.alloc (.cells #[.int .i64 0, .slice none 0 0, .int .i64 0, .int .i64 0] 87)) = w1 at *
  obtain ⟨q, hq⟩ : ∃ q, q = w.heap.size := ⟨_, rfl⟩
  rw [← hq] at hrow ⊢
  have HROW := Lib.hid hrow
  have HQ : Hid (w.heap.size ≤ q) := Lib.hid (by omega)
  have y0 := cell_of_row w1 q 0 _ _ _ hrow
  have y1 := cell_of_row w1 q 1 _ _ _ hrow
  have y2 := cell_of_row w1 q 2 _ _ _ hrow
  have y3 := cell_of_row w1 q 3 _ _ _ hrow
  simp only [List.getElem?_toArray, List.getElem?_cons_zero, List.getElem?_cons_succ] at y0 y1 y2 y3
  have fz0 := frozen_row hrow 0
  have fz1 := frozen_row hrow 1
  have fz2 := frozen_row hrow 2
  have fz3 := frozen_row hrow 3
  clear hq hrow
  have HXA := Lib.hid hxA
  go_wp2_with fail
  go_loopw [5, 6, 7] (fun cn cu ci wr => ∃ (i acc U k : Nat), i ≤ 8 ∧ k ≤ L ∧ cn = .int .i64 acc ∧ cu = .int .i64 U ∧ ci = .int .i64 (k : Nat) ∧ Hid (k = p + i) ∧ Hid (U = 128 ^ i ∧ acc < 128 ^ i) ∧ Hid (getL (l.drop p) 0 0 = getL (l.drop k) i acc) ∧ wr = w1) (fun _ _ ci _ => L - (intOf ci).toNat)
  case atStart => exact ⟨0, 0, 1, p, by omega, by omega, rfl, rfl, rfl, Lib.hid rfl, Lib.hid ⟨rfl, by decide⟩, Lib.hid rfl, rfl⟩
  case round =>
    obtain ⟨i, acc, U, k, hi, hpi, rfl, rfl, rfl, HK, HU, HE, rfl⟩ := hrel
    by_cases hend : k < L
    case neg =>
      have hres : getN l p = (0, 0, 1) := by rw [HG.out, HE.out, show k = l.length by have := HL.out; omega, List.drop_length]; rfl
      have HR := Lib.hid hres
      clear hres
      go_wp2_with fail
      refine bodyPost_ret (results_cell_row rfl _ _ q _ _ _ _ rfl (got4 HROW.out _ _ _ _) Try.underlying87 rfl got_info) rfl ?_
      refine ⟨by rw [HR.out], ?_⟩
      exact ((((Below.setCell HXA.out (p := ⟨q, 0, none⟩) HQ.out _).setCell (p := ⟨q, 1, none⟩) HQ.out _).setCell (p := ⟨q, 2, none⟩) HQ.out _).setCell (p := ⟨q, 3, none⟩) HQ.out _)
    have hki : (k : Int) < (L : Int) := by omega
    obtain ⟨b, o, rfl, hbl, hcell⟩ := HS.out (by intro h; have := HL.out; rw [h] at this; simp at this; omega)
    have hcl := HXA.out.cellv (hcell k hend)
    have hx0 := HB.out _ (getD_mem (show k < l.length by have := HL.out; omega))
    have hdr := drop_at (show k < l.length by have := HL.out; omega)
    obtain ⟨x, hx⟩ : ∃ x, x = l.getD k 0 := ⟨_, rfl⟩
    rw [← hx] at hcl hx0 hdr
    have HD := Lib.hid hdr
    obtain ⟨hxa, hxb⟩ := hx0
    obtain ⟨A1, A2, A3⟩ := got_add (x := x) HU.out.1 hi HU.out.2
    obtain ⟨acc', hacc'⟩ : ∃ y, y = acc + (x % 128).toNat * U := ⟨_, rfl⟩
    rw [← hacc'] at A2 A3
    have HA3 := Lib.hid A3
    have HAC : Hid (acc' = acc + (x % 128).toNat * U) := Lib.hid hacc'
    clear hcell hdr hx A3 hacc'
    have hsub : IntKind.i64.wrap ((k : Int) - (p : Int)) = (i : Int) := by rw [HK.out, IntKind.wrap_i64]; omega
    by_cases hbig : 128 ≤ x
    · by_cases h9 : i = 8
      · have h9' : ((i : Int) == 8) = true := by simp; omega
        have hres : getN l p = (0, 0, 2) := by rw [HG.out, HE.out, HD.out, h9, getL_nine hbig]; rfl
        have HR := Lib.hid hres
        clear hres h9
        go_wp2_with fail
        refine bodyPost_ret (results_cell_row rfl _ _ q _ _ _ _ rfl (got4 HROW.out _ _ _ _) Try.underlying87 rfl got_info) rfl ?_
        refine ⟨by rw [HR.out], ?_⟩
        exact ((((Below.setCell HXA.out (p := ⟨q, 0, none⟩) HQ.out _).setCell (p := ⟨q, 1, none⟩) HQ.out _).setCell (p := ⟨q, 2, none⟩) HQ.out _).setCell (p := ⟨q, 3, none⟩) HQ.out _)
      · have h9' : ((i : Int) == 8) = false := by simp; omega
        obtain ⟨B1, B2⟩ := got_unit HU.out.1 (show i ≤ 7 by omega)
        obtain ⟨U2, hU2⟩ : ∃ y, y = U * 128 := ⟨_, rfl⟩
        rw [← hU2] at B1 B2
        have HB2 := Lib.hid B2
        have HE2 : Hid (getL (l.drop p) 0 0 = getL (l.drop (k + 1)) (i + 1) acc') := Lib.hid (by
          rw [HE.out, HD.out, getL_more hbig h9, HAC.out, HU.out.1])
        have hi7 : i ≤ 7 := by omega
        clear hU2 B2 h9
        go_wp2_with fail
        refine ⟨⟨i + 1, acc', U2, k + 1, by omega, by omega, rfl, rfl, by go_num, Lib.hid (by have := HK.out; omega), Lib.hid ⟨HB2.out, HA3.out⟩, HE2, trivial⟩, ?_⟩
        simp [intOf]; omega
    · have hsm : x < 128 := by omega
      by_cases hz : x = 0 ∧ 0 < i
      · obtain ⟨hx0, hip⟩ := hz
        have hres : getN l p = (0, 0, 2) := by rw [HG.out, HE.out, HD.out, getL_zero hx0 hip]; rfl
        have HR := Lib.hid hres
        have hz1 : (x == 0) = true := by simp; exact hx0
        have hpk : (p : Int) < (k : Int) := by have := HK.out; omega
        clear hres hx0
        go_wp2_with fail
        refine bodyPost_ret (results_cell_row rfl _ _ q _ _ _ _ rfl (got4 HROW.out _ _ _ _) Try.underlying87 rfl got_info) rfl ?_
        refine ⟨by rw [HR.out], ?_⟩
        exact ((((Below.setCell HXA.out (p := ⟨q, 0, none⟩) HQ.out _).setCell (p := ⟨q, 1, none⟩) HQ.out _).setCell (p := ⟨q, 2, none⟩) HQ.out _).setCell (p := ⟨q, 3, none⟩) HQ.out _)
      · have hres : getN l p = ((acc' : Int), (k : Int) + 1, 0) := by
          rw [HG.out, HE.out, HD.out, getL_ends hsm hz, ← HU.out.1, ← HAC.out, HK.out]
          simp
          omega
        have HR := Lib.hid hres
        clear hres
        by_cases hz0 : x = 0
        · have hz1 : (x == 0) = true := by simp; exact hz0
          have hpk : ¬ (p : Int) < (k : Int) := by have := HK.out; have := fun h => hz ⟨hz0, h⟩; omega
          clear hz hz0
          go_wp2_with fail
          refine bodyPost_ret (results_cell_row rfl _ _ q _ _ _ _ rfl (got4 HROW.out _ _ _ _) Try.underlying87 rfl got_info) rfl ?_
          refine ⟨by rw [HR.out], ?_⟩
          exact ((((Below.setCell HXA.out (p := ⟨q, 0, none⟩) HQ.out _).setCell (p := ⟨q, 1, none⟩) HQ.out _).setCell (p := ⟨q, 2, none⟩) HQ.out _).setCell (p := ⟨q, 3, none⟩) HQ.out _)
        · have hz1 : (x == 0) = false := by simp; exact hz0
          clear hz hz0
          go_wp2_with fail
          refine bodyPost_ret (results_cell_row rfl _ _ q _ _ _ _ rfl (got4 HROW.out _ _ _ _) Try.underlying87 rfl got_info) rfl ?_
          refine ⟨by rw [HR.out], ?_⟩
          exact ((((Below.setCell HXA.out (p := ⟨q, 0, none⟩) HQ.out _).setCell (p := ⟨q, 1, none⟩) HQ.out _).setCell (p := ⟨q, 2, none⟩) HQ.out _).setCell (p := ⟨q, 3, none⟩) HQ.out _)
theorem rget_any (v : Value) (l : List Int) (p : Int) (w : World) (h : RdI .u8 w v l) (hb : ∀ x ∈ l, 0 ≤ x ∧ x ≤ 255) (hl : l.length ≤ 9223372036854775000) :
    Calls Try.prog 43 #[v, .int .i64 p] w fun e w' => e = .returned (.agg #[.int .i64 (getN l p).1, .slice none 0 0, .int .i64 (getN l p).2.1, .int .i64 (getN l p).2.2]) ∧ Ext w w' := by
  by_cases hp : 0 ≤ p ∧ p ≤ l.length
  · obtain ⟨k, rfl⟩ := Int.eq_ofNat_of_zero_le hp.1
    exact rget_in v l k w h hb (by omega) hl
  · have HR := Lib.hid (getN_out hp)
    obtain ⟨a, c, rfl, hc, hm, hn, hs⟩ := h.parts
    clear hm hn hc hs h hb
    obtain ⟨L, hL⟩ : ∃ L, L = l.length := ⟨_, rfl⟩
    rw [← hL] at hp hl ⊢
    clear hL
    by_cases h0 : p < 0
    · go_enter Try.func43, Try.ntmps43
      go_upto_region 1 with fail
      have hrow := heap_alloc_new w (.cells #[.int .i64 0, .slice none 0 0, .int .i64 0, .int .i64 0] 87)
      have hxA : Ext w (w.alloc (.cells #[.int .i64 0, .slice none 0 0, .int .i64 0, .int .i64 0] 87)) := (Ext.refl w).alloc _
      generalize (w.alloc (.cells #[.int .i64 0, .slice none 0 0, .int .i64 0, .int .i64 0] 87)) = w1 at *
      obtain ⟨q, hq⟩ : ∃ q, q = w.heap.size := ⟨_, rfl⟩
      rw [← hq] at hrow ⊢
      have HROW := Lib.hid hrow
      have HQ : Hid (w.heap.size ≤ q) := Lib.hid (by omega)
      have y0 := cell_of_row w1 q 0 _ _ _ hrow
      have y1 := cell_of_row w1 q 1 _ _ _ hrow
      have y2 := cell_of_row w1 q 2 _ _ _ hrow
      have y3 := cell_of_row w1 q 3 _ _ _ hrow
      simp only [List.getElem?_toArray, List.getElem?_cons_zero, List.getElem?_cons_succ] at y0 y1 y2 y3
      have fz0 := frozen_row hrow 0
      have fz1 := frozen_row hrow 1
      have fz2 := frozen_row hrow 2
      have fz3 := frozen_row hrow 3
      clear hq hrow
      have HXA := Lib.hid hxA
      go_wp2_with fail
      refine bodyPost_ret (results_cell_row rfl _ _ q _ _ _ _ rfl (got4 HROW.out _ _ _ _) Try.underlying87 rfl got_info) rfl ?_
      refine ⟨by rw [HR.out], ?_⟩
      exact ((((Below.setCell HXA.out (p := ⟨q, 0, none⟩) HQ.out _).setCell (p := ⟨q, 1, none⟩) HQ.out _).setCell (p := ⟨q, 2, none⟩) HQ.out _).setCell (p := ⟨q, 3, none⟩) HQ.out _)
    · have h1 : (L : Int) < p := by omega
      go_enter Try.func43, Try.ntmps43
      go_upto_region 1 with fail
      have hrow := heap_alloc_new w (.cells #[.int .i64 0, .slice none 0 0, .int .i64 0, .int .i64 0] 87)
      have hxA : Ext w (w.alloc (.cells #[.int .i64 0, .slice none 0 0, .int .i64 0, .int .i64 0] 87)) := (Ext.refl w).alloc _
      generalize (w.alloc (.cells #[.int .i64 0, .slice none 0 0, .int .i64 0, .int .i64 0] 87)) = w1 at *
      obtain ⟨q, hq⟩ : ∃ q, q = w.heap.size := ⟨_, rfl⟩
      rw [← hq] at hrow ⊢
      have HROW := Lib.hid hrow
      have HQ : Hid (w.heap.size ≤ q) := Lib.hid (by omega)
      have y0 := cell_of_row w1 q 0 _ _ _ hrow
      have y1 := cell_of_row w1 q 1 _ _ _ hrow
      have y2 := cell_of_row w1 q 2 _ _ _ hrow
      have y3 := cell_of_row w1 q 3 _ _ _ hrow
      simp only [List.getElem?_toArray, List.getElem?_cons_zero, List.getElem?_cons_succ] at y0 y1 y2 y3
      have fz0 := frozen_row hrow 0
      have fz1 := frozen_row hrow 1
      have fz2 := frozen_row hrow 2
      have fz3 := frozen_row hrow 3
      clear hq hrow
      have HXA := Lib.hid hxA
      go_wp2_with fail
      refine bodyPost_ret (results_cell_row rfl _ _ q _ _ _ _ rfl (got4 HROW.out _ _ _ _) Try.underlying87 rfl got_info) rfl ?_
      refine ⟨by rw [HR.out], ?_⟩
      exact ((((Below.setCell HXA.out (p := ⟨q, 0, none⟩) HQ.out _).setCell (p := ⟨q, 1, none⟩) HQ.out _).setCell (p := ⟨q, 2, none⟩) HQ.out _).setCell (p := ⟨q, 3, none⟩) HQ.out _)
end Go.Proofs.Ytoadjmeopamgbaa
