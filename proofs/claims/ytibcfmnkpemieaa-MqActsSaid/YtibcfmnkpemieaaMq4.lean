/-
  mq: Remove, Queue, Ghosts, Often, All, right, New. No condition but that the MQ lies in memory.
-/
import Derived.Test.YtibcfmnkpemieaaMq3
import Derived.Test.YtibcfmnkpemieaaUniUse
namespace Go.Proofs.Ytibcfmnkpemieaa
open Go.RowKit

def removeQ (s : Mq) (b : Nat) : Mq := s.inLs (outL s.Ls b)
/-- the blocks, the last queue first -/
def allQ (p : Shp) (s : Mq) : List Nat := ((List.range p.qs).reverse.map (fun q => s.Ls.getD q [])).flatten
def allFrom (s : Mq) : Nat → Nat → List Nat
  | 0, _ => []
  | k + 1, q => s.Ls.getD (q + k) [] ++ allFrom s k q
theorem allQ_from (p : Shp) (s : Mq) : allQ p s = allFrom s p.qs 0 := by
  unfold allQ
  have key : ∀ k, ((List.range k).reverse.map (fun q => s.Ls.getD q [])).flatten = allFrom s k 0 := by
    intro k
    induction k with
    | zero => rfl
    | succ k ih => rw [List.range_succ, List.reverse_append]; simp only [List.reverse_singleton, List.singleton_append, List.map_cons, List.flatten_cons]; rw [ih]; show _ = s.Ls.getD (0 + k) [] ++ allFrom s k 0; rw [Nat.zero_add]
  exact key p.qs
theorem all_at {Ls : List (List Nat)} {q : Nat} (hq : q < Ls.length) : allI Ls q = asInts (Ls.getD q []) := by
  unfold allI
  rw [if_pos ⟨by omega, by omega⟩, Int.toNat_natCast]
  rfl

section
variable (pm bs be : Nat) (p : Shp) (s : Mq) (w : World) (h : MqAt w pm bs be p s)
include h
theorem mremove (b : Int) (r : Bool) (hr : (okB b && hasQ p s b.toNat : Bool) = r) :
    Calls Try.prog 35 #[.pointer (some ⟨pm, 0, none⟩), .int .i64 b] w fun e w' => e = .returned (.bool r) ∧ MqAt w' pm bs be p (if r then removeQ s b.toNat else s) ∧ Chg [bs, be] w w' := by
  have HM := Lib.hid h
  have HR := Lib.hid hr
  have c0 := h.obj.c0
  cases r
  · clear h hr
    go_enter Try.func35, Try.ntmps35
    go_wp2_with fail
    refine (mhas pm bs be p s _ HM.out b false HR.out).mono ?_
    rintro e w1 ⟨rfl, rfl⟩
    go_wp2_with fail
    go_ret
    exact ⟨rfl, HM.out, Chg.refl _ _⟩
  · have hok : okB b := by simp at hr; exact hr.1
    obtain ⟨k, rfl⟩ := Int.eq_ofNat_of_zero_le hok.1
    have hk64 : k < 64 := by have := hok.2; omega
    have hh : hasQ p s k = true := by simp at hr; exact hr.2
    obtain ⟨l, hl⟩ : ∃ l, ofL s.Ls k = some l := by
      unfold hasQ at hh
      cases h9 : ofL s.Ls k with
      | none => rw [h9] at hh; simp at hh
      | some l => exact ⟨l, rfl⟩
    have hde : doE s.Ls 2 0 k = 0 := by simp [doE, hok, hl]
    have hdl : doL s.Ls 2 0 k = outL s.Ls k := by simp [doL, hok, hl]
    have HDE := Lib.hid hde
    have HDL := Lib.hid hdl
    clear h hr hok hh hl hde hdl
    go_enter Try.func35, Try.ntmps35
    go_wp2_with fail
    refine (mhas pm bs be p s _ HM.out k true HR.out).mono ?_
    rintro e w1 ⟨rfl, rfl⟩
    go_wp2_with fail
    refine (remove_any bs be s.Ls k _ HM.out.space).mono ?_
    rintro e w2 ⟨rfl, hs2, hc2⟩
    rw [HDE.out]
    rw [HDL.out] at hs2
    go_wp2_with fail
    go_ret
    refine ⟨rfl, ?_, hc2⟩
    exact HM.out.spc hc2 hs2 (outL_length _ _)
theorem mqueue_out (i : Int) (hi : ¬ (0 ≤ i ∧ i < p.qs)) :
    Calls Try.prog 31 #[.pointer (some ⟨pm, 0, none⟩), .int .i64 i] w fun e w' => e = .returned (.slice none 0 0) ∧ w = w' := by
  have c2 := h.obj.c2
  clear h
  by_cases h0 : 0 ≤ i
  · have h1 : (p.qs : Int) ≤ i := by omega
    clear hi
    go_enter Try.func31, Try.ntmps31
    go_wp2_with fail
    go_ret
    exact ⟨rfl, rfl⟩
  · have h1 : i < 0 := by omega
    clear hi h0
    go_enter Try.func31, Try.ntmps31
    go_wp2_with fail
    go_ret
    exact ⟨rfl, rfl⟩
theorem mqueue (q : Nat) (hq : q < p.qs) :
    Calls Try.prog 31 #[.pointer (some ⟨pm, 0, none⟩), .int .i64 q] w fun e w' => ∃ v, e = .returned v ∧ OwnI .i64 3 w.heap.size w' v (asInts (s.Ls.getD q [])) ∧ Ext w w' := by
  have c0 := h.obj.c0
  have c2 := h.obj.c2
  have hqi : (q : Int) < (p.qs : Int) := by omega
  have ha := all_at (Ls := s.Ls) (q := q) (by rw [h.len]; omega)
  have HA := Lib.hid ha
  have HM := Lib.hid h
  clear h ha
  go_enter Try.func31, Try.ntmps31
  go_wp2_with fail
  refine (all_any bs be s.Ls q _ HM.out.space).mono ?_
  rintro e w1 ⟨v, rfl, ho, hx⟩
  rw [HA.out] at ho
  go_wp2_with fail
  go_ret
  exact ⟨_, rfl, ho, (by repeat' (first | (with_reducible exact Ext.refl _) | (with_reducible assumption) | (with_reducible refine Ext.alloc ?_ _) | (with_reducible refine Ext.drewN ?_ _) | (with_reducible refine Ext.drew ?_) | (with_reducible refine Ext.trans ?_ (by assumption))))⟩
theorem mghosts : Calls Try.prog 38 #[.pointer (some ⟨pm, 0, none⟩)] w fun e w' => ∃ v, e = .returned v ∧ OwnI .i64 3 w.heap.size w' v (asInts (s.Ls.getD p.qs [])) ∧ Ext w w' := by
  have c0 := h.obj.c0
  have ha := all_at (Ls := s.Ls) (q := p.qs) (by rw [h.len]; omega)
  have HA := Lib.hid ha
  have HM := Lib.hid h
  clear h ha
  go_enter Try.func38, Try.ntmps38
  go_wp2_with fail
  go_region_with (first | (go_at_call 69; refine (mghost pm bs be p s _ (HM.out.ext (by repeat' (first | (with_reducible exact Ext.refl _) | (with_reducible assumption) | (with_reducible refine Ext.alloc ?_ _) | (with_reducible refine Ext.drewN ?_ _) | (with_reducible refine Ext.drew ?_) | (with_reducible refine Ext.trans ?_ (by assumption)))))).mono ?_; rintro e w1 ⟨rfl, rfl⟩) | (go_at_call 55; refine (all_any bs be s.Ls p.qs _ (HM.out.space.ext (by repeat' (first | (with_reducible exact Ext.refl _) | (with_reducible assumption) | (with_reducible refine Ext.alloc ?_ _) | (with_reducible refine Ext.drewN ?_ _) | (with_reducible refine Ext.drew ?_) | (with_reducible refine Ext.trans ?_ (by assumption)))))).mono ?_; rintro e w1 ⟨v, rfl, ho, hx⟩; rw [HA.out] at ho))
  all_goals
    go_wp2_with fail
    go_ret
    exact ⟨_, rfl, ho.mono (Ext.size (by exact (by repeat' (first | (with_reducible exact Ext.refl _) | (with_reducible assumption) | (with_reducible refine Ext.alloc ?_ _) | (with_reducible refine Ext.drewN ?_ _) | (with_reducible refine Ext.drew ?_) | (with_reducible refine Ext.trans ?_ (by assumption)))))), (by repeat' (first | (with_reducible exact Ext.refl _) | (with_reducible assumption) | (with_reducible refine Ext.alloc ?_ _) | (with_reducible refine Ext.drewN ?_ _) | (with_reducible refine Ext.drew ?_) | (with_reducible refine Ext.trans ?_ (by assumption))))⟩
theorem moften (b : Int) (r : Nat) (hr : (if okB b ∧ ofL s.Ls b.toNat ≠ none then s.of b.toNat else 0) = r) :
    Calls Try.prog 32 #[.pointer (some ⟨pm, 0, none⟩), .int .i64 b] w fun e w' => e = .returned (.int .i64 r) ∧ w = w' := by
  have HM := Lib.hid h
  have c0 := h.obj.c0
  by_cases hok : okB b
  · obtain ⟨k, rfl⟩ := Int.eq_ofNat_of_zero_le hok.1
    have hk64 : k < 64 := by have := hok.2; omega
    have hki : (k : Int) < 64 := by omega
    rw [Int.toNat_natCast] at hr
    have cof := h.obj.cof hk64
    cases hl : ofL s.Ls k with
    | none =>
      have e : r = 0 := by rw [← hr, if_neg (fun h => h.2 hl)]
      subst e
      have HO := Lib.hid (ofI_none hl hk64)
      clear h hr hok hl cof
      go_enter Try.func32, Try.ntmps32
      go_wp2_with fail
      refine (of_any bs be s.Ls k _ HM.out.space).mono ?_
      rintro e w1 ⟨rfl, rfl⟩
      rw [HO.out]
      go_wp2_with fail
      go_ret
      exact ⟨rfl, rfl⟩
    | some l =>
      have e : s.of k = r := by rw [← hr, if_pos ⟨hok, by rw [hl]; simp⟩]
      rw [e] at cof
      have HO := Lib.hid (ofI_some hl hk64)
      clear h hr hok hl e
      go_enter Try.func32, Try.ntmps32
      go_wp2_with fail
      refine (of_any bs be s.Ls k _ HM.out.space).mono ?_
      rintro e w1 ⟨rfl, rfl⟩
      rw [HO.out]
      go_wp2_with fail
      go_ret
      exact ⟨rfl, rfl⟩
  · have e : r = 0 := by rw [← hr, if_neg (fun h => hok h.1)]
    subst e
    have HO := Lib.hid (show ofI s.Ls b = (0, false) by unfold ofI; rw [if_neg hok])
    clear h hr hok
    go_enter Try.func32, Try.ntmps32
    go_wp2_with fail
    refine (of_any bs be s.Ls b _ HM.out.space).mono ?_
    rintro e w1 ⟨rfl, rfl⟩
    rw [HO.out]
    go_wp2_with fail
    go_ret
    exact ⟨rfl, rfl⟩
set_option maxHeartbeats 1000000 in
theorem mall : Calls Try.prog 37 #[.pointer (some ⟨pm, 0, none⟩)] w fun e w' => ∃ v, e = .returned v ∧ OwnI .i64 3 w.heap.size w' v (asInts (allQ p s)) ∧ Ext w w' := by
  have HM := Lib.hid h
  have c2 := h.obj.c2
  have hq1 := h.ok.q1
  have hq2 := h.ok.q2
  have HL64 := Lib.hid (fun q (hq : q < s.Ls.length) => space_len h.space hq)
  have HLEN := Lib.hid h.len
  obtain ⟨R, hR⟩ : ∃ R, allQ p s = R := ⟨_, rfl⟩
  have HR := Lib.hid (show allFrom s p.qs 0 = R by rw [← allQ_from]; exact hR)
  rw [hR]
  have hqi : (p.qs : Int) ≤ 8 := by omega
  have hqi1 : (1 : Int) ≤ (p.qs : Int) := by omega
  clear h hR
  go_enter Try.func37, Try.ntmps37
  go_wp2_with fail
  go_loopw [4, 3] (fun ci cv wr => ∃ (k : Nat) (D : List Nat), k ≤ p.qs ∧ ci = .int .i64 ((k : Int) - 1) ∧ OwnI .i64 3 w.heap.size wr cv (asInts D) ∧ D ++ allFrom s k 0 = R ∧ D.length ≤ 64 * (p.qs - k) ∧ Ext w wr) (fun ci _ _ => (intOf ci + 1).toNat)
  case atStart => exact ⟨p.qs, [], Nat.le_refl _, by go_num, OwnI.nil _ _ _ _, HR.out, by simp, Ext.refl _⟩
  case round =>
    obtain ⟨k, D, hk, rfl, ho, hD, hDl, hx⟩ := hrel
    have HD := Lib.hid hD
    have HO := Lib.hid ho
    clear hD ho
    cases k with
    | zero =>
      have e := HD.out
      unfold allFrom at e
      rw [List.append_nil] at e
      subst e
      go_wp2_with fail
      go_ret
      exact ⟨_, rfl, HO.out, hx⟩
    | succ q =>
      have e1 : (((q + 1 : Nat) : Int) - 1) = (q : Int) := by omega
      rw [e1]
      have hql : q < s.Ls.length := by rw [HLEN.out]; omega
      have hl64 := HL64.out q hql
      obtain ⟨Lq, hLq⟩ : ∃ Lq, s.Ls.getD q [] = Lq := ⟨_, rfl⟩
      rw [hLq] at hl64
      have HLQ := Lib.hid hLq
      have hD2 : (D ++ s.Ls.getD q []) ++ allFrom s q 0 = R := by
        have := HD.out
        unfold allFrom at this
        rw [Nat.zero_add] at this
        rw [List.append_assoc]; exact this
      rw [hLq] at hD2
      have hlen2 : (asInts D).length + (asInts Lq).length ≤ 1000 := by
        unfold asInts
        rw [List.length_map, List.length_map]
        have h9 : 64 * (p.qs - (q + 1)) ≤ 512 := by omega
        omega
      have HD2 := Lib.hid hD2
      have hq0 : (0 : Int) ≤ (q : Int) := by omega
      have hq8 : (q : Int) ≤ 8 := by omega
      have hdl2 : (D ++ Lq).length ≤ 64 * (p.qs - q) := by rw [List.length_append]; omega
      have HDL2 := Lib.hid hdl2
      clear hD2 e1 hl64 hql hdl2 hLq
      go_wp2_with fail
      refine (mqueue pm bs be p s _ (HM.out.ext hx) q (by omega)).mono ?_
      rintro e w1 ⟨v1, rfl, ho1, hx1⟩
      rw [HLQ.out] at ho1
      have hX1 := hx.trans hx1
      have ho2 := HO.out.ext hx1
      go_wp2_with (at_builtin; refine wpList_append_ints rfl _ _ 23 rfl 3 .i64 0 8 Try.underlying23 ints_info (by decide) w (by repeat' (first | (with_reducible exact Ext.refl _) | (with_reducible assumption) | (with_reducible refine Ext.alloc ?_ _) | (with_reducible refine Ext.drewN ?_ _) | (with_reducible refine Ext.drew ?_) | (with_reducible refine Ext.trans ?_ (by assumption)))) _ _ rfl ho2 _ _ rfl (ho1.rd.ext (by repeat' (first | (with_reducible exact Ext.refl _) | (with_reducible assumption) | (with_reducible refine Ext.alloc ?_ _) | (with_reducible refine Ext.drewN ?_ _) | (with_reducible refine Ext.drew ?_) | (with_reducible refine Ext.trans ?_ (by assumption))))) (by exact fits_small (by omega)) ?_)
      intro v2 w2 ho3 hx2
      have e3 : asInts D ++ asInts Lq = asInts (D ++ Lq) := by unfold asInts; rw [List.map_append]
      rw [e3] at ho3
      go_wp2_with fail
      go_roundw
      case rel => exact ⟨q, _, by omega, by go_num, ho3, HD2.out, HDL2.out, (by repeat' (first | (with_reducible exact Ext.refl _) | (with_reducible assumption) | (with_reducible refine Ext.alloc ?_ _) | (with_reducible refine Ext.drewN ?_ _) | (with_reducible refine Ext.drew ?_) | (with_reducible refine Ext.trans ?_ (by assumption))))⟩
      case measure => simp [intOf]
end
end Go.Proofs.Ytibcfmnkpemieaa
