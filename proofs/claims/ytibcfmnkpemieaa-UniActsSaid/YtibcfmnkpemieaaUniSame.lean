/-
  gradinelaw13.same: a stack and the document's, of the same blocks and levels, are alike. No condition but that they lie in memory.
-/
import Derived.Test.YtibcfmnkpemieaaUniRef7
namespace Go.Proofs.Ytibcfmnkpemieaa
open Go.RowKit

theorem asInts_lenU (L : List Nat) : (asInts L).length = L.length := by unfold asInts; exact List.length_map _
theorem asInts_getD (M : List Nat) (k : Nat) : (asInts M).getD k 0 = ((M.getD k 0 : Nat) : Int) := by
  unfold asInts
  rw [List.getD_eq_getElem?_getD, List.getElem?_map, List.getD_eq_getElem?_getD]
  cases M[k]? <;> rfl

section
variable (pu bs be : Nat) (caps : Nat → Nat) (M : List Nat) (lv : Nat → Nat) (w : World) (p : Nat) (vL vC : Value) (hU : UniAt w pu bs be caps M lv) (hR : RefAt w p vL vC caps M lv)
include hU hR
set_option maxRecDepth 100000 in
set_option maxHeartbeats 2000000 in
theorem same13 : Calls Try.prog 25 #[.pointer (some ⟨pu, 0, none⟩), .pointer (some ⟨p, 0, none⟩)] w fun e w' => e = .returned (.bool true) ∧ Ext w w' := by
  obtain ⟨a, c, rfl, hc, hm, hs⟩ := rd_items hR.row
  have c0 := hR.c0
  have C0 := Lib.hid c0
  have hlen := hU.len
  have HS := Lib.hid hs
  have HU := Lib.hid hU
  have HR := Lib.hid hR
  obtain ⟨n, hn⟩ : ∃ n, n = M.length := ⟨_, rfl⟩
  rw [← hn] at c0 hc hlen HS HR C0
  have HN := Lib.hid hn
  clear hU hR hs hn hm
  go_enter Try.func25, Try.ntmps25
  go_wp2_with fail
  refine (uall pu bs be caps M lv _ HU.out).mono ?_
  rintro e w1 ⟨v, rfl, ho, hx1⟩
  obtain ⟨a1, c1, rfl, hc1, _, _, hcell⟩ := ho.rd.parts
  rw [asInts_lenU, ← HN.out] at hc1 hcell ⊢
  have HC := Lib.hid hcell
  have c0 := hx1.cellv c0
  clear ho hcell
  go_wp2_with fail
  go_loopw [23] (fun vi wr => ∃ k : Nat, k ≤ n ∧ vi = .int .i64 k ∧ Ext w1 wr) (fun vi _ => n - (intOf vi).toNat)
  case atStart => exact ⟨0, by omega, rfl, Ext.refl _⟩
  case round =>
    obtain ⟨k, hk, rfl, hx⟩ := hrel
    have c0 := hx.cellv c0
    by_cases hlt : k < n
    · have hki : (k : Int) < (n : Int) := by omega
      obtain ⟨b1, o1, rfl, _, h1⟩ := HC.out (by intro e; have := HN.out; have h2 := asInts_lenU M; rw [e] at h2; simp at h2; omega)
      obtain ⟨b2, o2, rfl, _, h2⟩ := HS.out (by omega)
      have d0 := hx.cellv (h1 k hlt)
      have e0 := (hx1.trans hx).cellv (h2 k (by have := HN.out; omega)).1
      have e1 := (hx1.trans hx).cellv (h2 k (by have := HN.out; omega)).2
      rw [asInts_getD] at d0
      have hy64 : M.getD k 0 < 64 := HU.out.stk.lt _ (getD_memN (by have := HN.out; omega))
      obtain ⟨y, hy⟩ : ∃ y, M.getD k 0 = y := ⟨_, rfl⟩
      rw [hy] at d0 e0 e1 hy64
      obtain ⟨ll, hll⟩ : ∃ ll, lv y = ll := ⟨_, rfl⟩
      rw [hll] at e1
      have hl : (if okB (y : Int) then lv (y : Int).toNat else 0) = ll := by
        rw [if_pos ⟨by omega, by omega⟩]; simpa using hll
      have HL := Lib.hid hl
      clear h1 h2 hy hll hl HC HS
      go_wp2_with fail
      go_quiet ((go_at_call 17; exact Calls.quiet_of_same (v := .int .i64 ll) ((ulevel pu bs caps lv _ y ll HL.out _ (HU.out.ext (hx1.trans hx |>.trans (by repeat' (first | (with_reducible exact Ext.refl _) | (with_reducible assumption) | (with_reducible refine Ext.alloc ?_ _) | (with_reducible refine Ext.drewN ?_ _) | (with_reducible refine Ext.drew ?_) | (with_reducible refine Ext.trans ?_ (by assumption)))))).obj).mono fun e w' h => ⟨h.1, h.2.symm⟩)))
      go_wp2_with fail
      go_roundw
      case rel => exact ⟨k + 1, by omega, by go_num, by exact ((by repeat' (first | (with_reducible exact Ext.refl _) | (with_reducible assumption) | (with_reducible refine Ext.alloc ?_ _) | (with_reducible refine Ext.drewN ?_ _) | (with_reducible refine Ext.drew ?_) | (with_reducible refine Ext.trans ?_ (by assumption)))))⟩
      case measure => simp [intOf]; omega
    · obtain rfl : n = k := by omega
      clear HC
      go_wp2_with fail
      go_loopw [7] (fun vi wr => ∃ l : Nat, 1 ≤ l ∧ l ≤ 5 ∧ vi = .int .i64 l ∧ Ext w wr) (fun vi _ => 5 - (intOf vi).toNat)
      case atStart => exact ⟨1, by omega, by omega, rfl, hx1.trans hx⟩
      case round =>
        obtain ⟨l, l1, l5, rfl, hxr⟩ := hrel
        by_cases hl5 : l = 5
        · subst hl5
          go_wp2_with fail
          refine (ucount pu bs be caps M lv _ (HU.out.ext (by repeat' (first | (with_reducible exact Ext.refl _) | (with_reducible assumption) | (with_reducible refine Ext.alloc ?_ _) | (with_reducible refine Ext.drewN ?_ _) | (with_reducible refine Ext.drew ?_) | (with_reducible refine Ext.trans ?_ (by assumption))))) 0 0 (by rw [if_neg (by omega)])).mono ?_
          rintro e w5 ⟨rfl, rfl⟩
          go_wp2_with fail
          refine (ucount pu bs be caps M lv _ (HU.out.ext (by repeat' (first | (with_reducible exact Ext.refl _) | (with_reducible assumption) | (with_reducible refine Ext.alloc ?_ _) | (with_reducible refine Ext.drewN ?_ _) | (with_reducible refine Ext.drew ?_) | (with_reducible refine Ext.trans ?_ (by assumption))))) 5 0 (by rw [if_neg (by omega)])).mono ?_
          rintro e w5 ⟨rfl, rfl⟩
          go_wp2_with fail
          go_ret
          exact ⟨rfl, by exact ((by repeat' (first | (with_reducible exact Ext.refl _) | (with_reducible assumption) | (with_reducible refine Ext.alloc ?_ _) | (with_reducible refine Ext.drewN ?_ _) | (with_reducible refine Ext.drew ?_) | (with_reducible refine Ext.trans ?_ (by assumption)))))⟩
        · have hli : (l : Int) ≤ 4 := by omega
          obtain ⟨y, hy⟩ := is_yard_ex M lv l
          obtain ⟨nn, hnn⟩ : ∃ nn, cntU M lv l = nn := ⟨_, rfl⟩
          have hcu : (if 1 ≤ (l : Int) ∧ (l : Int) ≤ 4 then cntU M lv (l : Int).toNat else 0) = nn := by rw [if_pos ⟨by omega, by omega⟩]; simpa using hnn
          have HCU := Lib.hid hcu
          have HNN := Lib.hid hnn
          have HY := Lib.hid hy
          by_cases hpos : l < 4 ∧ 0 < nn
          · obtain ⟨l4, hp0⟩ := hpos
            have hl4i : (l : Int) < 4 := by omega
            have hyk : ∃ k, k < M.length ∧ y = (k : Int) ∧ M.getD k 0 = yardU M lv l := by
              rcases yard_is hy with ⟨_, h0⟩ | ⟨k, h1, h2, _, h3⟩
              · omega
              · exact ⟨k, h1, h2, h3⟩
            obtain ⟨j, hj, rfl, hyu⟩ := hyk
            have hjn : j < n := by have := HN.out; omega
            obtain ⟨b2, o2, rfl, _, h2⟩ := HS.out (by omega)
            have e0 := (h2 j (by have := HN.out; omega)).1
            obtain ⟨yy, hyy⟩ : ∃ yy, yardU M lv l = yy := ⟨_, rfl⟩
            rw [hyu, hyy] at e0
            have HYY := Lib.hid hyy
            have hji : (j : Int) < (n : Int) := by omega
            clear hy hnn hcu hyu hyy h2 HS
            go_wp2_with fail
            refine (uyard_some pu bs be caps M lv _ (HU.out.ext (by repeat' (first | (with_reducible exact Ext.refl _) | (with_reducible assumption) | (with_reducible refine Ext.alloc ?_ _) | (with_reducible refine Ext.drewN ?_ _) | (with_reducible refine Ext.drew ?_) | (with_reducible refine Ext.trans ?_ (by assumption))))) l l1 l4 (by rw [HNN.out]; exact hp0)).mono ?_
            rintro e w5 ⟨rfl, hx5⟩
            rw [HYY.out]
            have hX5 : Ext w w5 := (by repeat' (first | (with_reducible exact Ext.refl _) | (with_reducible assumption) | (with_reducible refine Ext.alloc ?_ _) | (with_reducible refine Ext.drewN ?_ _) | (with_reducible refine Ext.drew ?_) | (with_reducible refine Ext.trans ?_ (by assumption))))
            have c05 := hX5.cellv C0.out
            have e05 := hX5.cellv e0
            clear c0 e0 hx5
            go_wp2_with fail
            refine (ryard' p _ vC caps M lv _ (HR.out.ext hX5) l j HY.out).mono ?_
            rintro e w6 ⟨rfl, rfl⟩
            go_wp2_with fail
            refine (ucount pu bs be caps M lv _ (HU.out.ext hX5) l nn HCU.out).mono ?_
            rintro e w6 ⟨rfl, rfl⟩
            go_wp2_with fail
            refine (rcount p _ vC caps M lv _ (HR.out.ext hX5) l).mono ?_
            rintro e w6 ⟨rfl, rfl⟩
            rw [HNN.out]
            go_wp2_with fail
            go_roundw
            case rel => exact ⟨l + 1, by omega, by omega, by go_num, by exact ((by repeat' (first | (with_reducible exact Ext.refl _) | (with_reducible assumption) | (with_reducible refine Ext.alloc ?_ _) | (with_reducible refine Ext.drewN ?_ _) | (with_reducible refine Ext.drew ?_) | (with_reducible refine Ext.trans ?_ (by assumption)))))⟩
            case measure => simp [intOf]; omega
          · have hn' : ¬ (1 ≤ (l : Int) ∧ (l : Int) < 4) ∨ cntU M lv (l : Int).toNat = 0 := by
              by_cases l4 : l < 4
              · refine .inr ?_
                have : nn = 0 := by by_cases e : nn = 0; exact e; exact absurd ⟨l4, by omega⟩ hpos
                rw [← this]; simpa using hnn
              · exact .inl (by omega)
            have HNO := Lib.hid hn'
            have hyn : l < 4 → y < 0 := by
              intro l4
              rcases yard_is hy with ⟨h, _⟩ | ⟨k, _, _, h2, _⟩
              · omega
              · exact absurd ⟨l4, by omega⟩ hpos
            have HYN := Lib.hid hyn
            by_cases l4 : l < 4
            · have hl4i : (l : Int) < 4 := by omega
              have hy0 : y < 0 := HYN.out l4
              have hyd : decide (0 ≤ y) = false := decide_eq_false (by omega)
              clear hy hnn hcu hn' hyn hpos HS
              go_wp2_with fail
              refine (uyard_none pu bs be caps M lv _ (HU.out.ext hxr) l HNO.out).mono ?_
              rintro e w5 ⟨rfl, rfl⟩
              go_wp2_with fail
              refine (ryard' p _ vC caps M lv _ (HR.out.ext hxr) l y HY.out).mono ?_
              rintro e w6 ⟨rfl, rfl⟩
              go_wp2_with fail
              refine (ucount pu bs be caps M lv _ (HU.out.ext hxr) l nn HCU.out).mono ?_
              rintro e w6 ⟨rfl, rfl⟩
              go_wp2_with fail
              refine (rcount p _ vC caps M lv _ (HR.out.ext hxr) l).mono ?_
              rintro e w6 ⟨rfl, rfl⟩
              rw [HNN.out]
              go_wp2_with fail
              go_roundw
              case rel => exact ⟨l + 1, by omega, by omega, by go_num, hxr⟩
              case measure => simp [intOf]; omega
            · obtain rfl : l = 4 := by omega
              clear hy hnn hcu hn' hyn hpos HS
              go_wp2_with fail
              refine (uyard_none pu bs be caps M lv _ (HU.out.ext hxr) 4 (.inl (by omega))).mono ?_
              rintro e w5 ⟨rfl, rfl⟩
              go_wp2_with fail
              refine (ryard' p _ vC caps M lv _ (HR.out.ext hxr) 4 y HY.out).mono ?_
              rintro e w6 ⟨rfl, rfl⟩
              go_wp2_with fail
              refine (ucount pu bs be caps M lv _ (HU.out.ext hxr) 4 nn HCU.out).mono ?_
              rintro e w6 ⟨rfl, rfl⟩
              go_wp2_with fail
              refine (rcount p _ vC caps M lv _ (HR.out.ext hxr) 4).mono ?_
              rintro e w6 ⟨rfl, rfl⟩
              rw [HNN.out]
              go_wp2_with fail
              go_roundw
              case rel => exact ⟨5, by omega, by omega, by go_num, hxr⟩
              case measure => simp [intOf]
end
end Go.Proofs.Ytibcfmnkpemieaa
