/-
  gradineref01.Get: it answers as raw.Get does. No condition but that the bytes read. And: gradineref01.GetText: it answers as raw.GetText does. No condition but that the bytes read.
-/
import Derived.Test.YtoadjmeopamgbaaStAll
import Derived.Test.YtoadjmeopamgbaaSpc
import Derived.Test.YtoadjmeopamgbaaGetText
import Derived.Deep.Cut
import Derived.Deep.CutRange
import Derived.Test.YtoadjmeopamgbaaStepApp
import Derived.Deep.AppendLies
import Derived.Deep.RegionLaw
namespace Go.Proofs.Ytoadjmeopamgbaa
open Go.RowKit

theorem got4 {w : World} {p : Nat} {u0 u1 u2 u3 : Value} {t : TypeId} (h : w.heap[p]? = some (.cells #[u0, u1, u2, u3] t (0, 0))) (v0 v1 v2 v3 : Value) :
    ((((w.setCell ⟨p, 0, none⟩ v0).setCell ⟨p, 1, none⟩ v1).setCell ⟨p, 2, none⟩ v2).setCell ⟨p, 3, none⟩ v3).heap[p]? = some (.cells #[v0, v1, v2, v3] t (0, 0)) :=
  (heap_set (heap_set (heap_set (heap_set h v0) v1) v2) v3).trans (by kernel_rfl)
theorem got_info : (Try.prog.info? 87).map (·.size) = some 4 := by kernel_rfl
theorem got_unit {U i : Nat} (h : U = 128 ^ i) (hi : i ≤ 7) : IntKind.i64.wrap ((U : Int) * 128) = ((U * 128 : Nat) : Int) ∧ U * 128 = 128 ^ (i + 1) := by
  have h1 : U ≤ 128 ^ 7 := by rw [h]; exact Nat.pow_le_pow_right (by decide) hi
  have h2 : (128 : Nat) ^ 7 = 562949953421312 := by decide
  refine ⟨?_, by rw [h, Nat.pow_succ]⟩
  rw [IntKind.wrap_i64]
  omega
theorem got_add {U i acc : Nat} (h : U = 128 ^ i) (hi : i ≤ 8) (ha : acc < 128 ^ i) {x : Int} : IntKind.i64.wrap ((U : Int) * (x % 128)) = (U : Int) * (x % 128) ∧ IntKind.i64.wrap ((acc : Int) + (U : Int) * (x % 128)) = ((acc + (x % 128).toNat * U : Nat) : Int) ∧ acc + (x % 128).toNat * U < 128 ^ (i + 1) := by
  have h1 : U ≤ 128 ^ 8 := by rw [h]; exact Nat.pow_le_pow_right (by decide) hi
  have h2 : (128 : Nat) ^ 8 = 72057594037927936 := by decide
  obtain ⟨r, hr⟩ : ∃ r : Nat, x % 128 = (r : Int) := ⟨(x % 128).toNat, by omega⟩
  have hr2 : r ≤ 127 := by omega
  rw [hr]
  have h3 : r * U ≤ 127 * U := Nat.mul_le_mul_right _ hr2
  have h4 : (U : Int) * (r : Int) = ((r * U : Nat) : Int) := by rw [Nat.mul_comm]; simp
  have h5 : acc + r * U < 128 ^ (i + 1) := by rw [Nat.pow_succ, ← h]; rw [← h] at ha; omega
  rw [h4, Int.toNat_natCast]
  refine ⟨?_, ?_, h5⟩
  · rw [IntKind.wrap_i64]; omega
  · rw [IntKind.wrap_i64]; omega

set_option maxRecDepth 100000 in
set_option maxHeartbeats 4000000 in
theorem rget_in (v : Value) (l : List Int) (p : Nat) (w : World) (h : RdI .u8 w v l) (hb : ∀ x ∈ l, 0 ≤ x ∧ x ≤ 255) (hp : p ≤ l.length) (hl : l.length ≤ 9223372036854775000) :
    Calls Try.prog 43 #[v, .int .i64 p] w fun e w' => e = .returned (.agg #[.int .i64 (getN l p).1, .slice none 0 0, .int .i64 (getN l p).2.1, .int .i64 (getN l p).2.2]) ∧ Ext w w' := by
  obtain ⟨a, c, rfl, hc, hm, hn, hs⟩ := h.parts
  clear hm hn hc
  have HS := Lib.hid hs
  have HB := Lib.hid hb
  have hg : getN l p = (match getL (l.drop p) 0 0 with | (n, k, e) => if e = 0 then ((n : Int), (p : Int) + k, 0) else (0, 0, (e : Int))) := by
    unfold getN; rw [if_pos ⟨by omega, by omega⟩, Int.toNat_natCast]
  have HG := Lib.hid hg
  clear hs hb h hg
  have hd1 : ¬ (p : Int) < 0 := by omega
  have hd2 : ¬ (l.length : Int) < (p : Int) := by omega
  obtain ⟨L, hL⟩ : ∃ L, L = l.length := ⟨_, rfl⟩
  rw [← hL] at hl hp hd2 HS ⊢
  have HL := Lib.hid hL
  clear hL
  go_enter Try.func43, Try.ntmps43
  go_upto_region 1 with fail
  have hrow := heap_alloc_new w (.cells #[.int .i64 0, .slice none 0 0, .int .i64 0, .int .i64 0] 87)
  have hxA : Ext w (w.alloc (.cells #[.int .i64 0, .slice none 0 0, .int .i64 0, .int .i64 0] 87)) := (Ext.refl w).alloc _
  generalize (w.alloc (.cells #[.int .i64 0, .slice none 0 0, .int .i64 0, .int .i64 0] 87)) = w1 at *
  obtain ⟨q, hq⟩ : ∃ q, q = w.heap.size := ⟨_, rfl⟩
  rw [← hq] at hrow ⊢
  have HROW := Lib.hid hrow
  have HQ : Hid (w.heap.size ≤ q) := Lib.hid (by omega)
  have y0 := cell_of_row w1 q 0 _ _ _ hrow
  have y1 := cell_of_row w1 q 1 _ _ _ hrow
  have y2 := cell_of_row w1 q 2 _ _ _ hrow
  have y3 := cell_of_row w1 q 3 _ _ _ hrow
  simp only [List.getElem?_toArray, List.getElem?_cons_zero, List.getElem?_cons_succ] at y0 y1 y2 y3
  have fz0 := frozen_row hrow 0
  have fz1 := frozen_row hrow 1
  have fz2 := frozen_row hrow 2
  have fz3 := frozen_row hrow 3
  clear hq hrow
  have HXA := Lib.hid hxA
  go_wp2_with fail
  go_loopw [5, 6, 7] (fun cn cu ci wr => ∃ (i acc U k : Nat), i ≤ 8 ∧ k ≤ L ∧ cn = .int .i64 acc ∧ cu = .int .i64 U ∧ ci = .int .i64 (k : Nat) ∧ Hid (k = p + i) ∧ Hid (U = 128 ^ i ∧ acc < 128 ^ i) ∧ Hid (getL (l.drop p) 0 0 = getL (l.drop k) i acc) ∧ wr = w1) (fun _ _ ci _ => L - (intOf ci).toNat)
  case atStart => exact ⟨0, 0, 1, p, by omega, by omega, rfl, rfl, rfl, Lib.hid rfl, Lib.hid ⟨rfl, by decide⟩, Lib.hid rfl, rfl⟩
  case round =>
    obtain ⟨i, acc, U, k, hi, hpi, rfl, rfl, rfl, HK, HU, HE, rfl⟩ := hrel
    by_cases hend : k < L
    case neg =>
      have hres : getN l p = (0, 0, 1) := by rw [HG.out, HE.out, show k = l.length by have := HL.out; omega, List.drop_length]; rfl
      have HR := Lib.hid hres
      clear hres
      go_wp2_with fail
      refine bodyPost_ret (results_cell_row rfl _ _ q _ _ _ _ rfl (got4 HROW.out _ _ _ _) Try.underlying87 rfl got_info) rfl ?_
      refine ⟨by rw [HR.out], ?_⟩
      exact ((((Below.setCell HXA.out (p := ⟨q, 0, none⟩) HQ.out _).setCell (p := ⟨q, 1, none⟩) HQ.out _).setCell (p := ⟨q, 2, none⟩) HQ.out _).setCell (p := ⟨q, 3, none⟩) HQ.out _)
    have hki : (k : Int) < (L : Int) := by omega
    obtain ⟨b, o, rfl, hbl, hcell⟩ := HS.out (by intro h; have := HL.out; rw [h] at this; simp at this; omega)
    have hcl := HXA.out.cellv (hcell k hend)
    have hx0 := HB.out _ (getD_mem (show k < l.length by have := HL.out; omega))
    have hdr := drop_at (show k < l.length by have := HL.out; omega)
    obtain ⟨x, hx⟩ : ∃ x, x = l.getD k 0 := ⟨_, rfl⟩
    rw [← hx] at hcl hx0 hdr
    have HD := Lib.hid hdr
    obtain ⟨hxa, hxb⟩ := hx0
    obtain ⟨A1, A2, A3⟩ := got_add (x := x) HU.out.1 hi HU.out.2
    obtain ⟨acc', hacc'⟩ : ∃ y, y = acc + (x % 128).toNat * U := ⟨_, rfl⟩
    rw [← hacc'] at A2 A3
    have HA3 := Lib.hid A3
    have HAC : Hid (acc' = acc + (x % 128).toNat * U) := Lib.hid hacc'
    clear hcell hdr hx A3 hacc'
    have hsub : IntKind.i64.wrap ((k : Int) - (p : Int)) = (i : Int) := by rw [HK.out, IntKind.wrap_i64]; omega
    by_cases hbig : 128 ≤ x
    · by_cases h9 : i = 8
      · have h9' : ((i : Int) == 8) = true := by simp; omega
        have hres : getN l p = (0, 0, 2) := by rw [HG.out, HE.out, HD.out, h9, getL_nine hbig]; rfl
        have HR := Lib.hid hres
        clear hres h9
        go_wp2_with fail
        refine bodyPost_ret (results_cell_row rfl _ _ q _ _ _ _ rfl (got4 HROW.out _ _ _ _) Try.underlying87 rfl got_info) rfl ?_
        refine ⟨by rw [HR.out], ?_⟩
        exact ((((Below.setCell HXA.out (p := ⟨q, 0, none⟩) HQ.out _).setCell (p := ⟨q, 1, none⟩) HQ.out _).setCell (p := ⟨q, 2, none⟩) HQ.out _).setCell (p := ⟨q, 3, none⟩) HQ.out _)
      · have h9' : ((i : Int) == 8) = false := by simp; omega
        obtain ⟨B1, B2⟩ := got_unit HU.out.1 (show i ≤ 7 by omega)
        obtain ⟨U2, hU2⟩ : ∃ y, y = U * 128 := ⟨_, rfl⟩
        rw [← hU2] at B1 B2
        have HB2 := Lib.hid B2
        have HE2 : Hid (getL (l.drop p) 0 0 = getL (l.drop (k + 1)) (i + 1) acc') := Lib.hid (by
          rw [HE.out, HD.out, getL_more hbig h9, HAC.out, HU.out.1])
        have hi7 : i ≤ 7 := by omega
        clear hU2 B2 h9
        go_wp2_with fail
        refine ⟨⟨i + 1, acc', U2, k + 1, by omega, by omega, rfl, rfl, by go_num, Lib.hid (by have := HK.out; omega), Lib.hid ⟨HB2.out, HA3.out⟩, HE2, trivial⟩, ?_⟩
        simp [intOf]; omega
    · have hsm : x < 128 := by omega
      by_cases hz : x = 0 ∧ 0 < i
      · obtain ⟨hx0, hip⟩ := hz
        have hres : getN l p = (0, 0, 2) := by rw [HG.out, HE.out, HD.out, getL_zero hx0 hip]; rfl
        have HR := Lib.hid hres
        have hz1 : (x == 0) = true := by simp; exact hx0
        have hpk : (p : Int) < (k : Int) := by have := HK.out; omega
        clear hres hx0
        go_wp2_with fail
        refine bodyPost_ret (results_cell_row rfl _ _ q _ _ _ _ rfl (got4 HROW.out _ _ _ _) Try.underlying87 rfl got_info) rfl ?_
        refine ⟨by rw [HR.out], ?_⟩
        exact ((((Below.setCell HXA.out (p := ⟨q, 0, none⟩) HQ.out _).setCell (p := ⟨q, 1, none⟩) HQ.out _).setCell (p := ⟨q, 2, none⟩) HQ.out _).setCell (p := ⟨q, 3, none⟩) HQ.out _)
      · have hres : getN l p = ((acc' : Int), (k : Int) + 1, 0) := by
          rw [HG.out, HE.out, HD.out, getL_ends hsm hz, ← HU.out.1, ← HAC.out, HK.out]
          simp
          omega
        have HR := Lib.hid hres
        clear hres
        by_cases hz0 : x = 0
        · have hz1 : (x == 0) = true := by simp; exact hz0
          have hpk : ¬ (p : Int) < (k : Int) := by have := HK.out; have := fun h => hz ⟨hz0, h⟩; omega
          clear hz hz0
          go_wp2_with fail
          refine bodyPost_ret (results_cell_row rfl _ _ q _ _ _ _ rfl (got4 HROW.out _ _ _ _) Try.underlying87 rfl got_info) rfl ?_
          refine ⟨by rw [HR.out], ?_⟩
          exact ((((Below.setCell HXA.out (p := ⟨q, 0, none⟩) HQ.out _).setCell (p := ⟨q, 1, none⟩) HQ.out _).setCell (p := ⟨q, 2, none⟩) HQ.out _).setCell (p := ⟨q, 3, none⟩) HQ.out _)
        · have hz1 : (x == 0) = false := by simp; exact hz0
          clear hz hz0
          go_wp2_with fail
          refine bodyPost_ret (results_cell_row rfl _ _ q _ _ _ _ rfl (got4 HROW.out _ _ _ _) Try.underlying87 rfl got_info) rfl ?_
          refine ⟨by rw [HR.out], ?_⟩
          exact ((((Below.setCell HXA.out (p := ⟨q, 0, none⟩) HQ.out _).setCell (p := ⟨q, 1, none⟩) HQ.out _).setCell (p := ⟨q, 2, none⟩) HQ.out _).setCell (p := ⟨q, 3, none⟩) HQ.out _)
theorem rget_any (v : Value) (l : List Int) (p : Int) (w : World) (h : RdI .u8 w v l) (hb : ∀ x ∈ l, 0 ≤ x ∧ x ≤ 255) (hl : l.length ≤ 9223372036854775000) :
    Calls Try.prog 43 #[v, .int .i64 p] w fun e w' => e = .returned (.agg #[.int .i64 (getN l p).1, .slice none 0 0, .int .i64 (getN l p).2.1, .int .i64 (getN l p).2.2]) ∧ Ext w w' := by
  by_cases hp : 0 ≤ p ∧ p ≤ l.length
  · obtain ⟨k, rfl⟩ := Int.eq_ofNat_of_zero_le hp.1
    exact rget_in v l k w h hb (by omega) hl
  · have HR := Lib.hid (getN_out hp)
    obtain ⟨a, c, rfl, hc, hm, hn, hs⟩ := h.parts
    clear hm hn hc hs h hb
    obtain ⟨L, hL⟩ : ∃ L, L = l.length := ⟨_, rfl⟩
    rw [← hL] at hp hl ⊢
    clear hL
    by_cases h0 : p < 0
    · go_enter Try.func43, Try.ntmps43
      go_upto_region 1 with fail
      have hrow := heap_alloc_new w (.cells #[.int .i64 0, .slice none 0 0, .int .i64 0, .int .i64 0] 87)
      have hxA : Ext w (w.alloc (.cells #[.int .i64 0, .slice none 0 0, .int .i64 0, .int .i64 0] 87)) := (Ext.refl w).alloc _
      generalize (w.alloc (.cells #[.int .i64 0, .slice none 0 0, .int .i64 0, .int .i64 0] 87)) = w1 at *
      obtain ⟨q, hq⟩ : ∃ q, q = w.heap.size := ⟨_, rfl⟩
      rw [← hq] at hrow ⊢
      have HROW := Lib.hid hrow
      have HQ : Hid (w.heap.size ≤ q) := Lib.hid (by omega)
      have y0 := cell_of_row w1 q 0 _ _ _ hrow
      have y1 := cell_of_row w1 q 1 _ _ _ hrow
      have y2 := cell_of_row w1 q 2 _ _ _ hrow
      have y3 := cell_of_row w1 q 3 _ _ _ hrow
      simp only [List.getElem?_toArray, List.getElem?_cons_zero, List.getElem?_cons_succ] at y0 y1 y2 y3
      have fz0 := frozen_row hrow 0
      have fz1 := frozen_row hrow 1
      have fz2 := frozen_row hrow 2
      have fz3 := frozen_row hrow 3
      clear hq hrow
      have HXA := Lib.hid hxA
      go_wp2_with fail
      refine bodyPost_ret (results_cell_row rfl _ _ q _ _ _ _ rfl (got4 HROW.out _ _ _ _) Try.underlying87 rfl got_info) rfl ?_
      refine ⟨by rw [HR.out], ?_⟩
      exact ((((Below.setCell HXA.out (p := ⟨q, 0, none⟩) HQ.out _).setCell (p := ⟨q, 1, none⟩) HQ.out _).setCell (p := ⟨q, 2, none⟩) HQ.out _).setCell (p := ⟨q, 3, none⟩) HQ.out _)
    · have h1 : (L : Int) < p := by omega
      go_enter Try.func43, Try.ntmps43
      go_upto_region 1 with fail
      have hrow := heap_alloc_new w (.cells #[.int .i64 0, .slice none 0 0, .int .i64 0, .int .i64 0] 87)
      have hxA : Ext w (w.alloc (.cells #[.int .i64 0, .slice none 0 0, .int .i64 0, .int .i64 0] 87)) := (Ext.refl w).alloc _
      generalize (w.alloc (.cells #[.int .i64 0, .slice none 0 0, .int .i64 0, .int .i64 0] 87)) = w1 at *
      obtain ⟨q, hq⟩ : ∃ q, q = w.heap.size := ⟨_, rfl⟩
      rw [← hq] at hrow ⊢
      have HROW := Lib.hid hrow
      have HQ : Hid (w.heap.size ≤ q) := Lib.hid (by omega)
      have y0 := cell_of_row w1 q 0 _ _ _ hrow
      have y1 := cell_of_row w1 q 1 _ _ _ hrow
      have y2 := cell_of_row w1 q 2 _ _ _ hrow
      have y3 := cell_of_row w1 q 3 _ _ _ hrow
      simp only [List.getElem?_toArray, List.getElem?_cons_zero, List.getElem?_cons_succ] at y0 y1 y2 y3
      have fz0 := frozen_row hrow 0
      have fz1 := frozen_row hrow 1
      have fz2 := frozen_row hrow 2
      have fz3 := frozen_row hrow 3
      clear hq hrow
      have HXA := Lib.hid hxA
      go_wp2_with fail
      refine bodyPost_ret (results_cell_row rfl _ _ q _ _ _ _ rfl (got4 HROW.out _ _ _ _) Try.underlying87 rfl got_info) rfl ?_
      refine ⟨by rw [HR.out], ?_⟩
      exact ((((Below.setCell HXA.out (p := ⟨q, 0, none⟩) HQ.out _).setCell (p := ⟨q, 1, none⟩) HQ.out _).setCell (p := ⟨q, 2, none⟩) HQ.out _).setCell (p := ⟨q, 3, none⟩) HQ.out _)


theorem step_append_rdg {P : Program} {ops : Array Oper} {o : Oper} {a : Act} {w : World} {K : Act → World → Prop} {Q : Exit → Act → World → Prop} {E : Prop} (hgd : o.guard = none) (s x : Operand) (t : TypeId)
    (ho : o.op = .call { callee := .builtin .append, args := #[s, x], argTypes := #[t, t] }) (e : TypeId) (z : Value) (size bytes : Nat) (ht : P.underlying t = some (.slice e))
    (hinfo : (P.info? e).map (fun i => (i.zero, i.size, i.bytes)) = some (some z, size, bytes)) (hzs : z.cells.size = size) (hsz : 0 < size) (hby : bytes ≤ 64) (B : Nat) (hB : B ≤ w.heap.size) (v : Value) (n : Nat) (xs : List Value) (hs : a.eval s = v) (hown : w.ownsRow B e size v n xs)
    (y : Value) (m : Nat) (ys : List Value) (hx : a.eval x = y) (hr : Rd w size y m ys) (h1 : ∀ u ∈ ys, u.oneCell' = true) (hfit : n + m ≤ 1000000)
    (h : ∀ v' w', w'.ownsRow B e size v' (n + m) (xs ++ ys) → w.grownBy w' v.ownBlock → K (a.put o.dst v') w') :
    if Region.wanted o (yielded ops a.tmps) = true then Oper.wp P o a w K Q else E := by
  obtain ⟨i0, hi, hz0, hz1, hz2⟩ := info_parts hinfo
  obtain ⟨hl, ad, c, rfl, hmc, hcm, hnil, hsome⟩ := hr
  have hw : Region.wanted o (yielded ops a.tmps) = true := by simp [Region.wanted, hgd]
  rw [if_pos hw]
  cases ad with
  | none =>
    obtain ⟨rfl, rfl⟩ := hnil rfl
    have : ys = [] := List.eq_nil_of_length_eq_zero (by simpa using hl)
    subst this
    have hrun := run_append_owned_none (P := P) (w := w) B t o.type e i0 size ht hi v n xs hown
    have h9 := h v w
    simp only [List.append_nil, Nat.add_zero] at h9
    unfold Oper.wp
    simp [execOp, ho, resolve, invoke, builtin, hs, hx, hrun, Result.andThen]
    exact h9 hown (World.grownBy.refl _ _)
  | some ad =>
    refine wp_append_own w s x t ho B e i0 z size bytes ht hi hz0 hz1 hz2 hzs hsz v n xs hs hown ad m c ys hx hl ?_ h1 (by unfold maxLen; omega) ?_ hB (fun v' w' h2 h3 _ => h v' w' h2 h3)
    · intro j u hu
      have hpos : 0 < m := by
        rcases Nat.eq_zero_or_pos m with rfl | h
        · have : ys = [] := List.eq_nil_of_length_eq_zero (by simpa using hl)
          subst this; simp at hu
        · exact h
      obtain ⟨b, o, hbo, _, hc⟩ := hsome hpos
      obtain rfl : ad = ⟨b, o, none⟩ := by simpa using hbo
      rw [add_none]
      exact hc j u hu
    · have : (n + m) * bytes ≤ 1000000 * 64 := Nat.mul_le_mul hfit hby
      omega

theorem RdI.grown {w w' : World} {k : IntKind} {v : Value} {l : List Int} {r : Option Nat} (h : RdI k w v l) (hg : w.grownBy w' r) (hr : ∀ g, v.ownBlock = some g → r ≠ some g) : RdI k w' v l :=
  h.chgc (S := r.toList) ⟨hg.os, hg.tape, hg.output, hg.size, fun b hb hn => hg.block b hb (fun e => hn (by rw [← e]; simp))⟩ (fun _ g hg' hm => hr g hg' (by simpa using hm))

theorem Ext.frz4 {w w' : World} (h : Ext w w') {b o : Nat} {u : Value} (hc : w.cell? ⟨b, o, none⟩ = some u) (hf : w.frozen? ⟨b, o, none⟩ = false) : w'.frozen? ⟨b, o, none⟩ = false := (Below.frozen (p := ⟨b, o, none⟩) h (cell_lt hc)).trans hf
theorem slice_of_own {w : World} {B n size : Nat} {e : TypeId} {v : Value} {xs : List Value} (h : w.ownsRow B e size v n xs) : ∃ a m c, v = .slice a m c := by
  obtain ⟨_, a, c, rfl, _⟩ := Rd.of_own h
  exact ⟨a, n, c, rfl⟩
theorem RdI.sliceL {k : IntKind} {w : World} {a : Option Addr} {c L : Nat} {l : List Int} (h : RdI k w (.slice a L c) l) (hL : L = l.length) (f n : Nat) (hfn : f + n ≤ L) : RdI k w (.slice (if c = f then a else a.map (·.add f)) n (c - f)) ((l.drop f).take n) := RdI.slice (by rw [← hL]; exact h) f n (by omega)
theorem RdI.slice_inL {k : IntKind} {w : World} {a : Option Addr} {c L : Nat} {l : List Int} (h : RdI k w (.slice a L c) l) (hL : L = l.length) (f n : Nat) (hfn : f + n ≤ L) (hcf : ¬ c = f) : RdI k w (.slice (a.map (·.add f)) n (c - f)) ((l.drop f).take n) := RdI.slice_in (by rw [← hL]; exact h) f n (by omega) hcf
set_option maxRecDepth 100000 in
set_option maxHeartbeats 4000000 in
theorem rgettext (v : Value) (l : List Int) (p m : Int) (w : World) (h : RdI .u8 w v l) (hb : ∀ x ∈ l, 0 ≤ x ∧ x ≤ 255) (hl : l.length ≤ 100000) :
    Calls Try.prog 44 #[v, .int .i64 p, .int .i64 m] w fun e w' =>
      ∃ v', e = .returned (.agg #[.int .i64 0, v', .int .i64 (getT l p m).2.1, .int .i64 (getT l p m).2.2]) ∧ OwnI .u8 5 w.heap.size w' v' (getT l p m).1 ∧ Ext w w' := by
  have HG := Lib.hid (fun w' (hx : Ext w w') => rget_any v l p w' (h.ext hx) hb (by omega))
  have he0 : (getN l p).2.2 ≠ 0 → (getN l p).1 = 0 ∧ (getN l p).2.1 = 0 := by
    intro h0
    unfold getN at h0 ⊢
    by_cases hp : 0 ≤ p ∧ p ≤ l.length
    · rw [if_pos hp] at h0 ⊢
      by_cases he : (getL (l.drop p.toNat) 0 0).2.2 = 0
      · simp [he] at h0
      · simp [he]
    · rw [if_neg hp]; exact ⟨rfl, rfl⟩
  have hbd := @getN_bd l p
  obtain ⟨n, hn⟩ : ∃ n, n = (getN l p).1 := ⟨_, rfl⟩
  obtain ⟨f, hfr⟩ : ∃ f, f = (getN l p).2.1 := ⟨_, rfl⟩
  obtain ⟨e, he⟩ : ∃ e, e = (getN l p).2.2 := ⟨_, rfl⟩
  rw [← hn, ← hfr, ← he] at HG
  rw [← hn, ← hfr, ← he] at he0
  have HT := Lib.hid (show getT l p m = if e ≠ 0 then ([], 0, e) else if m < n then ([], 0, 4) else if (l.length : Int) - f < n then ([], 0, 1) else ((l.drop f.toNat).take n.toNat, f + n, 0) by rw [hn, hfr, he]; rfl)
  rw [← hn, ← hfr, ← he] at hbd
  clear hn hfr he hb
  obtain ⟨a, c, rfl, hc, hm, hnil, hs⟩ := h.parts
  have HC := Lib.hid hc
  have hRd := Lib.hid h
  have HLL := Lib.hid hl
  clear hm hnil hs hc h
  obtain ⟨L, hL⟩ : ∃ L, L = l.length := ⟨_, rfl⟩
  have HL := Lib.hid hL
  rw [← hL] at hbd HC HG HT
  have hRs := hRd.out
  rw [← hL] at hRs
  have HRS := Lib.hid hRs
  rw [← hL] at hl ⊢
  clear hL hRd hRs
  go_enter Try.func44, Try.ntmps44
  go_upto_region 1 with fail
  have hrow := heap_alloc_new w (.cells #[.int .i64 0, .slice none 0 0, .int .i64 0, .int .i64 0] 87)
  have hxA : Ext w (w.alloc (.cells #[.int .i64 0, .slice none 0 0, .int .i64 0, .int .i64 0] 87)) := (Ext.refl w).alloc _
  generalize (w.alloc (.cells #[.int .i64 0, .slice none 0 0, .int .i64 0, .int .i64 0] 87)) = w1 at *
  obtain ⟨q, hq⟩ : ∃ q, q = w.heap.size := ⟨_, rfl⟩
  rw [← hq] at hrow ⊢
  have HQ : Hid (w.heap.size ≤ q) := Lib.hid (by omega)
  clear hq
  go_wp2_with fail
  refine (HG.out _ hxA).mono ?_
  rintro e1 w2 ⟨rfl, hx2⟩
  have hrow := (Below.block hx2 q (Array.getElem?_eq_some_iff.1 hrow).1).trans hrow
  have hxB := hxA.trans hx2
  clear hxA hx2
  go_upto_region 2 with fail
  have hxC : Ext w2 (w2.alloc (.cells #[.int .i64 n, .slice none 0 0, .int .i64 f, .int .i64 e] 87)) := (Ext.refl w2).alloc _
  have e0 := cell_new w2 #[.int .i64 n, .slice none 0 0, .int .i64 f, .int .i64 e] 87 (0, 0) (j := 0) rfl
  have e1 := cell_new w2 #[.int .i64 n, .slice none 0 0, .int .i64 f, .int .i64 e] 87 (0, 0) (j := 1) rfl
  have e2 := cell_new w2 #[.int .i64 n, .slice none 0 0, .int .i64 f, .int .i64 e] 87 (0, 0) (j := 2) rfl
  have e3 := cell_new w2 #[.int .i64 n, .slice none 0 0, .int .i64 f, .int .i64 e] 87 (0, 0) (j := 3) rfl
  have hrow := (Below.block hxC q (Array.getElem?_eq_some_iff.1 hrow).1).trans hrow
  have hqlt : q < w2.heap.size := Nat.lt_of_lt_of_le (Array.getElem?_eq_some_iff.1 ‹_›).1 (Nat.le_refl _)
  generalize (w2.alloc (.cells #[.int .i64 n, .slice none 0 0, .int .i64 f, .int .i64 e] 87)) = w3 at *
  obtain ⟨q7, hq7⟩ : ∃ q, q = w2.heap.size := ⟨_, rfl⟩
  rw [← hq7] at e0 e1 e2 e3 ⊢
  have HQ7 : Hid (q < q7 ∧ w.heap.size ≤ q7) := Lib.hid (by have := hxB.size; omega)
  have hxD := hxB.trans hxC
  clear hq7 hqlt hxB hxC
  have HROW := Lib.hid hrow
  have HXD := Lib.hid hxD
  have y0 := cell_of_row w3 q 0 _ _ _ hrow
  have y1 := cell_of_row w3 q 1 _ _ _ hrow
  have y2 := cell_of_row w3 q 2 _ _ _ hrow
  have y3 := cell_of_row w3 q 3 _ _ _ hrow
  simp only [List.getElem?_toArray, List.getElem?_cons_zero, List.getElem?_cons_succ] at y0 y1 y2 y3
  have fz0 := frozen_row hrow 0
  have fz1 := frozen_row hrow 1
  have fz2 := frozen_row hrow 2
  have fz3 := frozen_row hrow 3
  clear hrow hxD
  by_cases h0 : e = 0
  case neg =>
    have hb0 : (e != 0) = true := by rw [bne_iff_ne]; exact h0
    have HR := Lib.hid (show getT l p m = ([], 0, e) by rw [HT.out, if_pos h0])
    obtain ⟨rfl, rfl⟩ := he0 h0
    clear h0 hbd
    go_wp2_with fail
    refine bodyPost_ret (results_cell_row rfl _ _ q _ _ _ _ rfl (got4 HROW.out _ _ _ _) Try.underlying87 rfl got_info) rfl ?_
    refine ⟨.slice none 0 0, by rw [HR.out], by rw [HR.out]; exact OwnI.nil _ _ _ _, ?_⟩
    exact ((((Below.setCell HXD.out (p := ⟨q, 0, none⟩) HQ.out _).setCell (p := ⟨q, 1, none⟩) HQ.out _).setCell (p := ⟨q, 2, none⟩) HQ.out _).setCell (p := ⟨q, 3, none⟩) HQ.out _)
  obtain ⟨b1, b2, b3, b4, b5⟩ := hbd h0
  subst h0
  by_cases h1 : m < n
  case pos =>
    have HR := Lib.hid (show getT l p m = ([], 0, 4) by rw [HT.out, if_neg (by simp), if_pos h1])
    clear hbd b2 b3 he0
    go_wp2_with fail
    refine bodyPost_ret (results_cell_row rfl _ _ q _ _ _ _ rfl (got4 HROW.out _ _ _ _) Try.underlying87 rfl got_info) rfl ?_
    refine ⟨.slice none 0 0, by rw [HR.out], by rw [HR.out]; exact OwnI.nil _ _ _ _, ?_⟩
    exact ((((Below.setCell HXD.out (p := ⟨q, 0, none⟩) HQ.out _).setCell (p := ⟨q, 1, none⟩) HQ.out _).setCell (p := ⟨q, 2, none⟩) HQ.out _).setCell (p := ⟨q, 3, none⟩) HQ.out _)
  have hsub : IntKind.i64.wrap ((L : Int) - f) = (L : Int) - f := by rw [IntKind.wrap_i64]; omega
  by_cases h2 : (L : Int) - f < n
  case pos =>
    have HR := Lib.hid (show getT l p m = ([], 0, 1) by rw [HT.out, if_neg (by simp), if_neg h1, if_pos h2])
    clear hbd b2 b3 he0
    go_wp2_with fail
    refine bodyPost_ret (results_cell_row rfl _ _ q _ _ _ _ rfl (got4 HROW.out _ _ _ _) Try.underlying87 rfl got_info) rfl ?_
    refine ⟨.slice none 0 0, by rw [HR.out], by rw [HR.out]; exact OwnI.nil _ _ _ _, ?_⟩
    exact ((((Below.setCell HXD.out (p := ⟨q, 0, none⟩) HQ.out _).setCell (p := ⟨q, 1, none⟩) HQ.out _).setCell (p := ⟨q, 2, none⟩) HQ.out _).setCell (p := ⟨q, 3, none⟩) HQ.out _)
  obtain ⟨n, rfl⟩ := Int.eq_ofNat_of_zero_le b2
  obtain ⟨f, rfl⟩ := Int.eq_ofNat_of_zero_le (show 0 ≤ f by omega)
  have HR := Lib.hid (show getT l p m = ((l.drop f).take n, (f : Int) + n, 0) by rw [HT.out, if_neg (by simp), if_neg h1, if_neg h2, Int.toNat_natCast, Int.toNat_natCast])
  have hfn : f + n ≤ L := by omega
  have hfc : (f : Int) + n ≤ c := by have := HC.out; omega
  have hlen : ((l.drop f).take n).length = n := by simp; have := HL.out; omega
  have HLN := Lib.hid hlen
  have hsum : IntKind.i64.wrap ((f : Int) + (n : Int)) = ((f + n : Nat) : Int) := by rw [IntKind.wrap_i64]; omega
  clear hbd b1 b2 b3 hlen he0
  go_upto_region 9 with fail
  have hxE : Ext w3 (w3.alloc (.cells #[.int .i64 0, .slice none 0 0, .int .i64 ((f : Int) + (n : Int)), .int .i64 0] 87)) := (Ext.refl w3).alloc _
  have hrow8 := heap_alloc_new w3 (.cells #[.int .i64 0, .slice none 0 0, .int .i64 ((f : Int) + (n : Int)), .int .i64 0] 87)
  have hrq := (Below.block hxE q (Array.getElem?_eq_some_iff.1 HROW.out).1).trans HROW.out
  generalize (w3.alloc (.cells #[.int .i64 0, .slice none 0 0, .int .i64 ((f : Int) + (n : Int)), .int .i64 0] 87)) = w4 at *
  obtain ⟨q8, hq8⟩ : ∃ q, q = w3.heap.size := ⟨_, rfl⟩
  rw [← hq8] at hrow8 ⊢
  replace e0 := hxE.cellv e0
  replace e2 := hxE.cellv e2
  have hx4 := HXD.out.trans hxE
  have HX4 := Lib.hid hx4
  have HQ8 : Hid (q < q8 ∧ w.heap.size ≤ q8) := Lib.hid (by have := (Array.getElem?_eq_some_iff.1 HROW.out).1; have := HQ.out; omega)
  have HR8 := Lib.hid hrow8
  have HRQ := Lib.hid hrq
  have d1 := cell_of_row w4 q8 1 _ _ _ hrow8
  have d2 := cell_of_row w4 q8 2 _ _ _ hrow8
  simp only [List.getElem?_toArray, List.getElem?_cons_zero, List.getElem?_cons_succ] at d1 d2
  have fd1 := frozen_row hrow8 1
  have hn6 : n ≤ 100000 := by omega
  clear hx4 hxE hrow8 hrq hq8 HXD HROW y0 y1 y2 y3 fz0 fz1 fz2 fz3 e1 e3
  by_cases hcf : c = f
  · subst hcf
    have hn0 : n = 0 := by have := HC.out; omega
    subst hn0
    have hr := RdI.sliceL HRS.out HL.out c 0 (by omega)
    rw [if_pos rfl, Nat.sub_self] at hr
    have HRR := Lib.hid hr
    clear hr
    have HSL : Hid (Rd w 1 _ 0 (cellsOf .u8 ((l.drop c).take 0))) := Lib.hid (by
      have h9 := HRR.out
      unfold RdI at h9
      rw [HLN.out] at h9
      exact h9)
    go_region_law (refine step_append_rdg (by rfl) _ _ _ (by rfl) 5 (.int .u8 0) 1 1 Try.underlying36 bytes_info (by rfl) (by decide) (by decide) w4.heap.size (Ext.size (w := w4) (by repeat' (first | (with_reducible exact Ext.refl _) | (with_reducible assumption) | (with_reducible refine Ext.alloc ?_ _) | (with_reducible refine Ext.drewN ?_ _) | (with_reducible refine Ext.drew ?_) | (with_reducible refine Ext.trans ?_ (by assumption))))) (.slice none 0 0) 0 [] (by rfl) (World.ownsRow_nil _ _ _ _) _ 0 (cellsOf .u8 ((l.drop c).take 0)) (by rfl) (HSL.out.ext (HX4.out.trans (by repeat' (first | (with_reducible exact Ext.refl _) | (with_reducible assumption) | (with_reducible refine Ext.alloc ?_ _) | (with_reducible refine Ext.drewN ?_ _) | (with_reducible refine Ext.drew ?_) | (with_reducible refine Ext.trans ?_ (by assumption)))))) cellsOf_one (by omega) ?_; intro v5 w5 ho5 hg5; have hx5 : Ext w4 w5 := Ext.trans (b := _) (show Ext w4 _ from (by repeat' (first | (with_reducible exact Ext.refl _) | (with_reducible assumption) | (with_reducible refine Ext.alloc ?_ _) | (with_reducible refine Ext.drewN ?_ _) | (with_reducible refine Ext.drew ?_) | (with_reducible refine Ext.trans ?_ (by assumption))))) (Below.grown (Ext.refl _) hg5 (Nat.le_refl _) (by intro k h; cases h)); have z1 := hx5.cellv d1; have zf := Ext.frz4 hx5 d1 fd1; obtain ⟨a5, n5, c5, rfl⟩ := slice_of_own ho5)
    all_goals
      have hrow8 := heap_set (o := 1) ((Below.block hx5 q8 (Array.getElem?_eq_some_iff.1 HR8.out).1).trans HR8.out) (.slice a5 n5 c5)
      have hrow := (Below.heap_setCell w5 ⟨q8, 1, none⟩ (.slice a5 n5 c5) q (by have := HQ8.out; simp; omega)).trans ((Below.block hx5 q (Array.getElem?_eq_some_iff.1 HRQ.out).1).trans HRQ.out)
      have hc6 : Chg [q8] w5 (w5.setCell ⟨q8, 1, none⟩ (.slice a5 n5 c5)) := chg_one _ _ _ _
      have hxw : Ext w (w5.setCell ⟨q8, 1, none⟩ (.slice a5 n5 c5)) := Ext.chg (S := [q8]) (HX4.out.trans hx5) hc6 (by have := HQ8.out; simp; omega)
      have hlt4 := Array.getElem?_eq_some_iff.1 HR8.out
      have ho6 := own_chg (S := [q8]) ho5 hc6 (by have := hlt4.1; simp; omega)
      clear ho5 hg5 hx5 hc6 z1 zf
      generalize (w5.setCell ⟨q8, 1, none⟩ (.slice a5 n5 c5)) = w6 at *
      have HO6 := Lib.hid ho6
      have HROW6 := Lib.hid hrow
      have HXW := Lib.hid hxw
      have y0 := cell_of_row w6 q 0 _ _ _ hrow
      have y1 := cell_of_row w6 q 1 _ _ _ hrow
      have y2 := cell_of_row w6 q 2 _ _ _ hrow
      have y3 := cell_of_row w6 q 3 _ _ _ hrow
      have d0 := cell_of_row w6 q8 0 _ _ _ hrow8
      have d1 := cell_of_row w6 q8 1 _ _ _ hrow8
      have d2 := cell_of_row w6 q8 2 _ _ _ hrow8
      have d3 := cell_of_row w6 q8 3 _ _ _ hrow8
      simp at y0 y1 y2 y3 d0 d1 d2 d3
      have fz0 := frozen_row hrow 0
      have fz1 := frozen_row hrow 1
      have fz2 := frozen_row hrow 2
      have fz3 := frozen_row hrow 3
      have HQB : Hid (q < w4.heap.size ∧ w.heap.size ≤ w4.heap.size) := Lib.hid (by have := HQ8.out; have := HX4.out.size; have := hlt4.1; omega)
      clear hrow hrow8 ho6 hxw hlt4 HSL
      go_wp2_with fail
      refine bodyPost_ret (results_cell_row rfl _ _ q _ _ _ _ rfl (got4 HROW6.out _ _ _ _) Try.underlying87 rfl got_info) rfl ?_
      refine ⟨.slice a5 n5 c5, (by rw [HR.out]; try simp), ?_, ?_⟩
      · rw [HR.out]
        have h9 : OwnI .u8 5 w4.heap.size w6 (.slice a5 n5 c5) ((l.drop c).take 0) := by
          unfold OwnI
          rw [HLN.out]
          simpa using HO6.out
        refine OwnI.mono (OwnI.chg (S := [q]) h9 ?_ (by have := HQB.out; simp; omega)) HQB.out.2
        exact ((((Chg.refl _ _).setCell (.inl (by simp)) _).setCell (.inl (by simp)) _).setCell (.inl (by simp)) _).setCell (.inl (by simp)) _
      · exact ((((Below.setCell HXW.out (p := ⟨q, 0, none⟩) HQ.out _).setCell (p := ⟨q, 1, none⟩) HQ.out _).setCell (p := ⟨q, 2, none⟩) HQ.out _).setCell (p := ⟨q, 3, none⟩) HQ.out _)
  · have HRR := Lib.hid (RdI.slice_inL HRS.out HL.out f n (by omega) hcf)
    have hk1 : 0 ≤ (f : Int) + (n : Int) := by omega
    have hk2 : ((f : Int) + (n : Int)).toNat = f + n := by omega
    have hk3 : f ≤ f + n := by omega
    have hk4 : f + n - f = n := by omega
    have HSL : Hid (Rd w 1 _ n (cellsOf .u8 ((l.drop f).take n))) := Lib.hid (by
      have h9 := HRR.out
      unfold RdI at h9
      rw [HLN.out] at h9
      exact h9)
    go_region_law (refine step_append_rdg (by rfl) _ _ _ (by rfl) 5 (.int .u8 0) 1 1 Try.underlying36 bytes_info (by rfl) (by decide) (by decide) w4.heap.size (Ext.size (w := w4) (by repeat' (first | (with_reducible exact Ext.refl _) | (with_reducible assumption) | (with_reducible refine Ext.alloc ?_ _) | (with_reducible refine Ext.drewN ?_ _) | (with_reducible refine Ext.drew ?_) | (with_reducible refine Ext.trans ?_ (by assumption))))) (.slice none 0 0) 0 [] (by rfl) (World.ownsRow_nil _ _ _ _) _ n (cellsOf .u8 ((l.drop f).take n)) (by rfl) (HSL.out.ext (HX4.out.trans (by repeat' (first | (with_reducible exact Ext.refl _) | (with_reducible assumption) | (with_reducible refine Ext.alloc ?_ _) | (with_reducible refine Ext.drewN ?_ _) | (with_reducible refine Ext.drew ?_) | (with_reducible refine Ext.trans ?_ (by assumption)))))) cellsOf_one (by omega) ?_; intro v5 w5 ho5 hg5; have hx5 : Ext w4 w5 := Ext.trans (b := _) (show Ext w4 _ from (by repeat' (first | (with_reducible exact Ext.refl _) | (with_reducible assumption) | (with_reducible refine Ext.alloc ?_ _) | (with_reducible refine Ext.drewN ?_ _) | (with_reducible refine Ext.drew ?_) | (with_reducible refine Ext.trans ?_ (by assumption))))) (Below.grown (Ext.refl _) hg5 (Nat.le_refl _) (by intro k h; cases h)); have z1 := hx5.cellv d1; have zf := Ext.frz4 hx5 d1 fd1; obtain ⟨a5, n5, c5, rfl⟩ := slice_of_own ho5)
    all_goals
      have hrow8 := heap_set (o := 1) ((Below.block hx5 q8 (Array.getElem?_eq_some_iff.1 HR8.out).1).trans HR8.out) (.slice a5 n5 c5)
      have hrow := (Below.heap_setCell w5 ⟨q8, 1, none⟩ (.slice a5 n5 c5) q (by have := HQ8.out; simp; omega)).trans ((Below.block hx5 q (Array.getElem?_eq_some_iff.1 HRQ.out).1).trans HRQ.out)
      have hc6 : Chg [q8] w5 (w5.setCell ⟨q8, 1, none⟩ (.slice a5 n5 c5)) := chg_one _ _ _ _
      have hxw : Ext w (w5.setCell ⟨q8, 1, none⟩ (.slice a5 n5 c5)) := Ext.chg (S := [q8]) (HX4.out.trans hx5) hc6 (by have := HQ8.out; simp; omega)
      have hlt4 := Array.getElem?_eq_some_iff.1 HR8.out
      have ho6 := own_chg (S := [q8]) ho5 hc6 (by have := hlt4.1; simp; omega)
      clear ho5 hg5 hx5 hc6 z1 zf
      generalize (w5.setCell ⟨q8, 1, none⟩ (.slice a5 n5 c5)) = w6 at *
      have HO6 := Lib.hid ho6
      have HROW6 := Lib.hid hrow
      have HXW := Lib.hid hxw
      have y0 := cell_of_row w6 q 0 _ _ _ hrow
      have y1 := cell_of_row w6 q 1 _ _ _ hrow
      have y2 := cell_of_row w6 q 2 _ _ _ hrow
      have y3 := cell_of_row w6 q 3 _ _ _ hrow
      have d0 := cell_of_row w6 q8 0 _ _ _ hrow8
      have d1 := cell_of_row w6 q8 1 _ _ _ hrow8
      have d2 := cell_of_row w6 q8 2 _ _ _ hrow8
      have d3 := cell_of_row w6 q8 3 _ _ _ hrow8
      simp at y0 y1 y2 y3 d0 d1 d2 d3
      have fz0 := frozen_row hrow 0
      have fz1 := frozen_row hrow 1
      have fz2 := frozen_row hrow 2
      have fz3 := frozen_row hrow 3
      have HQB : Hid (q < w4.heap.size ∧ w.heap.size ≤ w4.heap.size) := Lib.hid (by have := HQ8.out; have := HX4.out.size; have := hlt4.1; omega)
      clear hrow hrow8 ho6 hxw hlt4 HSL
      go_wp2_with fail
      refine bodyPost_ret (results_cell_row rfl _ _ q _ _ _ _ rfl (got4 HROW6.out _ _ _ _) Try.underlying87 rfl got_info) rfl ?_
      refine ⟨.slice a5 n5 c5, (by rw [HR.out]; try simp), ?_, ?_⟩
      · rw [HR.out]
        have h9 : OwnI .u8 5 w4.heap.size w6 (.slice a5 n5 c5) ((l.drop f).take n) := by
          unfold OwnI
          rw [HLN.out]
          simpa using HO6.out
        refine OwnI.mono (OwnI.chg (S := [q]) h9 ?_ (by have := HQB.out; simp; omega)) HQB.out.2
        exact ((((Chg.refl _ _).setCell (.inl (by simp)) _).setCell (.inl (by simp)) _).setCell (.inl (by simp)) _).setCell (.inl (by simp)) _
      · exact ((((Below.setCell HXW.out (p := ⟨q, 0, none⟩) HQ.out _).setCell (p := ⟨q, 1, none⟩) HQ.out _).setCell (p := ⟨q, 2, none⟩) HQ.out _).setCell (p := ⟨q, 3, none⟩) HQ.out _)

end Go.Proofs.Ytoadjmeopamgbaa
