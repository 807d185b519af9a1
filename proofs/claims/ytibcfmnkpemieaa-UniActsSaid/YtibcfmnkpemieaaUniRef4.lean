/-
  gradineref13: Prune. Blocks that are out go from the bottom.
-/
import Derived.Test.YtibcfmnkpemieaaUniRef3
import Derived.Laws.OwnMore
namespace Go.Proofs.Ytibcfmnkpemieaa
open Go.RowKit

theorem Rd.take {w : World} {size n m c : Nat} {a : Option Addr} {xs : List Value} (h : Rd w size (.slice a n c) n xs) (hm : m ≤ n) : Rd w size (.slice a m c) m (xs.take (m * size)) := by
  obtain ⟨h1, a', c', e, h2, h3, h4, h5⟩ := h
  simp only [Value.slice.injEq, true_and] at e
  obtain ⟨rfl, rfl⟩ := e
  refine ⟨?_, a, c, rfl, by omega, h3, fun e => ?_, fun h0 => ?_⟩
  · rw [List.length_take, h1]; exact Nat.min_eq_left (Nat.mul_le_mul_right _ hm)
  · have := h4 e; exact ⟨by omega, this.2⟩
  · obtain ⟨b, o, e, hb, hc⟩ := h5 (by omega)
    refine ⟨b, o, e, hb, fun j u hu => hc j u ?_⟩
    rw [List.getElem?_take] at hu
    split at hu
    · exact hu
    · cases hu
theorem icells_take {lv : Nat → Nat} {M : List Nat} {m : Nat} (h : m ≤ M.length) : (icells M lv).take (m * 2) = icells (M.take m) lv := by
  have e : M = M.take m ++ M.drop m := (List.take_append_drop m M).symm
  have hl : (icells (M.take m) lv).length = m * 2 := by rw [icells_len, List.length_take, Nat.min_eq_left h]
  conv => lhs; rw [e, icells_append]
  rw [← hl, List.take_left]
theorem last_getD {M : List Nat} {k : Nat} (h : M.length = k + 1) : M.getD k 0 = lastU M := by
  have hne : M ≠ [] := by intro e; rw [e] at h; simp at h
  obtain ⟨h1, _⟩ := lastU_split hne
  have hk : M.length - 1 = k := by omega
  rw [hk] at h1
  have : M.take (k + 1) = M.take k ++ [M.getD k 0] := take_getD (by omega)
  rw [List.take_of_length_le (by omega)] at this
  have h2 := List.append_cancel_left (h1.symm.trans this)
  simpa using h2.symm

/-- whose block a slice is: that of another, or a new one -/
def Frs (B : Nat) (v v' : Value) : Prop := ∀ g, v'.ownBlock = some g → v.ownBlock = some g ∨ B ≤ g
theorem Frs.refl (B : Nat) (v : Value) : Frs B v v := fun _ h => .inl h
theorem Frs.trans {B B' : Nat} {u v x : Value} (h : Frs B u v) (k : Frs B' v x) (hb : B ≤ B') : Frs B u x := by
  intro g hg
  rcases k g hg with h1 | h1
  · exact h g h1
  · exact .inr (Nat.le_trans hb h1)
/-- how many blocks there are, as the object's cell tells -/
def cntR (p : Nat) (w : World) : Nat := match w.cell? ⟨p, 0, none⟩ with | some (.slice _ n _) => n | _ => 0
theorem RefAt.cntR {w : World} {p : Nat} {a : Option Addr} {n c : Nat} {vC : Value} {caps lv : Nat → Nat} {M : List Nat} (h : RefAt w p (.slice a n c) vC caps M lv) : cntR p w = n := by
  unfold Proofs.Ytibcfmnkpemieaa.cntR; rw [h.c0]

/-- the last block is cut off -/
theorem RefAt.cut {w : World} {p k c : Nat} {a : Option Addr} {vC : Value} {caps lv : Nat → Nat} {M : List Nat} (h : RefAt w p (.slice a (k + 1) c) vC caps M lv) (hs : Stk M lv) (hk : M.length = k + 1) :
    RefAt (w.setCell ⟨p, 0, none⟩ (.slice a k c)) p (.slice a k c) vC caps (M.take (M.length - 1)) (updN lv (lastU M) 0) := by
  have hne : M ≠ [] := by intro e; rw [e] at hk; simp at hk
  have hC : Chg [p] w (w.setCell ⟨p, 0, none⟩ (.slice a k c)) := (by repeat' (first | (with_reducible exact Chg.refl _ _) | (with_reducible assumption) | (with_reducible refine Chg.drewN ?_ _) | (with_reducible refine Chg.drew ?_) | (with_reducible refine Chg.alloc ?_ _) | (with_reducible refine Chg.setCell ?_ (.inl (by simp)) _) | (with_reducible refine Chg.trans ?_ (by assumption)) | (with_reducible refine Chg.ext ?_ (by assumption))))
  have hL : Value.ownBlock (.slice a k c) ≠ some p := by have := h.offL; cases a <;> simp_all [Value.ownBlock]
  have hst := hs.cut hne
  have hmem : ∀ b ∈ M.take (M.length - 1), b ≠ lastU M := by
    intro b hb e
    have := (hst.mem b).1 hb
    rw [e, updN_same] at this
    exact this rfl
  refine ⟨heap_set (o := 0) h.obj _, ?_, Rd.chg h.cap hC (by intro g hg; simp; intro e; subst e; exact h.offC hg), hL, h.offC⟩
  have hl : (M.take (M.length - 1)).length = k := by rw [List.length_take]; omega
  have hr := h.row
  rw [hk] at hr
  have ht := hr.take (m := k) (by omega)
  rw [icells_take (by omega)] at ht
  rw [hl, ← icells_congr (lv := lv) (fun b hb => (updN_other lv 0 (hmem b hb)).symm), show M.length - 1 = k by omega]
  exact ht.chg hC (by intro g hg; simp; intro e; subst e; exact hL hg)

section
variable (p : Nat) (vL vC : Value) (caps : Nat → Nat) (M : List Nat) (lv : Nat → Nat) (w : World) (h : RefAt w p vL vC caps M lv)
include h
set_option maxHeartbeats 2000000 in
theorem rprune (hs : Stk M lv) (hlen : M.length ≤ 1000) : Calls Try.prog 58 #[.pointer (some ⟨p, 0, none⟩)] w fun e w' => e = .returned (.tuple #[]) ∧
    ∃ vL', RefAt w' p vL' vC caps (pruneU M.length M lv).1 (pruneU M.length M lv).2 ∧ Frs w.heap.size vL vL' ∧ Chg [p] w w' := by
  obtain ⟨R, hR⟩ : ∃ R, pruneU M.length M lv = R := ⟨_, rfl⟩
  have HR := Lib.hid hR
  have HU := Lib.hid h
  have HS := Lib.hid hs
  rw [hR]
  clear hR h hs
  go_enter Try.func58, Try.ntmps58
  go_wp2_with fail
  go_loopw [] (fun wr => ∃ (M' : List Nat) (lv' : Nat → Nat) (v : Value), RefAt wr p v vC caps M' lv' ∧ Stk M' lv' ∧ M'.length ≤ 1000 ∧ pruneU M'.length M' lv' = R ∧ Frs w.heap.size vL v ∧ Chg [p] w wr) (fun wr => cntR p wr)
  case atStart => exact ⟨M, lv, vL, HU.out, HS.out, hlen, HR.out, Frs.refl _ _, Chg.refl _ _⟩
  case round =>
    obtain ⟨M', lv', v, hU, hS, hlen', hP, hF, hC⟩ := hrel
    obtain ⟨a, c, rfl, hc, hm, hs⟩ := rd_items hU.row
    have c0 := hU.c0
    have fz := hU.free 0
    have HV := Lib.hid hU
    have HP := Lib.hid hP
    have HT := Lib.hid hS
    have HF := Lib.hid hF
    have HS2 := Lib.hid hs
    clear hP hU hS hF hs hm
    by_cases hne : M' = []
    · subst hne
      simp only [List.length_nil] at c0
      go_wp2_with fail
      go_quiet (fail)
      go_wp2_with fail
      refine bodyPost_end (results_none rfl _ _ _) rfl ?_
      have := HP.out
      rw [pruneU_stop (by simp)] at this
      rw [← this]
      exact ⟨rfl, _, HV.out.ext (by repeat' (first | (with_reducible exact Ext.refl _) | (with_reducible assumption) | (with_reducible refine Ext.alloc ?_ _) | (with_reducible refine Ext.drewN ?_ _) | (with_reducible refine Ext.drew ?_) | (with_reducible refine Ext.trans ?_ (by assumption)))), HF.out, hC.ext (by repeat' (first | (with_reducible exact Ext.refl _) | (with_reducible assumption) | (with_reducible refine Ext.alloc ?_ _) | (with_reducible refine Ext.drewN ?_ _) | (with_reducible refine Ext.drew ?_) | (with_reducible refine Ext.trans ?_ (by assumption))))⟩
    · obtain ⟨k, hk⟩ : ∃ k, M'.length = k + 1 := ⟨M'.length - 1, by have := List.length_pos_iff.2 hne; omega⟩
      obtain ⟨b, o, rfl, hb, hcell⟩ := HS2.out (by omega)
      have e1 := (hcell k (by omega)).2
      rw [last_getD hk] at e1
      obtain ⟨y, hy⟩ : ∃ y, lv' (lastU M') = y := ⟨_, rfl⟩
      rw [hy] at e1
      have HN := Lib.hid hne
      have HY := Lib.hid hy
      have HK := Lib.hid hk
      rw [hk] at c0 hlen' HV HF hc
      have hci : (k : Int) ≤ (c : Int) := by omega
      have hk0 : (0 : Int) < ((k + 1 : Nat) : Int) := by omega
      clear hcell hy hk hne
      by_cases h4 : y = 4
      · subst h4
        go_wp2_with fail
        go_quiet (fail)
        go_wp2_with fail
        go_region
        all_goals go_wp2_with fail
        have hcut := (HV.out.ext (show Ext wr (wr.drewN (nq + 1)) from (by repeat' (first | (with_reducible exact Ext.refl _) | (with_reducible assumption) | (with_reducible refine Ext.alloc ?_ _) | (with_reducible refine Ext.drewN ?_ _) | (with_reducible refine Ext.drew ?_) | (with_reducible refine Ext.trans ?_ (by assumption)))))).cut HT.out HK.out
        have hpos : 0 < M'.length := by have := HK.out; omega
        refine ⟨⟨_, _, _, hcut, HT.out.cut HN.out, ?_, ?_, ?_, ?_⟩, ?_⟩
        · rw [List.length_take]; have := HK.out; omega
        · rw [← HP.out]
          conv => rhs; rw [show M'.length = (M'.length - 1) + 1 by omega]
          conv => rhs; unfold pruneU
          rw [if_pos ⟨HN.out, HY.out⟩, List.length_take, Nat.min_eq_left (by omega)]
        · intro g hg; exact HF.out g hg
        · have hd : Chg [p] w (wr.drewN (nq + 1)) := hC.ext (by repeat' (first | (with_reducible exact Ext.refl _) | (with_reducible assumption) | (with_reducible refine Ext.alloc ?_ _) | (with_reducible refine Ext.drewN ?_ _) | (with_reducible refine Ext.drew ?_) | (with_reducible refine Ext.trans ?_ (by assumption))))
          exact hd.trans (by repeat' (first | (with_reducible exact Chg.refl _ _) | (with_reducible assumption) | (with_reducible refine Chg.drewN ?_ _) | (with_reducible refine Chg.drew ?_) | (with_reducible refine Chg.alloc ?_ _) | (with_reducible refine Chg.setCell ?_ (.inl (by simp)) _) | (with_reducible refine Chg.trans ?_ (by assumption)) | (with_reducible refine Chg.ext ?_ (by assumption))))
        · rw [hcut.cntR, HV.out.cntR]; omega
      · have h4b : ((y : Int) == 4) = false := by rw [beq_eq_false_iff_ne]; omega
        have H4 := Lib.hid h4
        clear h4
        go_wp2_with fail
        go_quiet (fail)
        go_wp2_with fail
        refine bodyPost_end (results_none rfl _ _ _) rfl ?_
        have := HP.out
        rw [pruneU_stop (by rw [HY.out]; exact fun h => H4.out h.2)] at this
        rw [← this]
        exact ⟨rfl, _, HV.out.ext (by repeat' (first | (with_reducible exact Ext.refl _) | (with_reducible assumption) | (with_reducible refine Ext.alloc ?_ _) | (with_reducible refine Ext.drewN ?_ _) | (with_reducible refine Ext.drew ?_) | (with_reducible refine Ext.trans ?_ (by assumption)))), HF.out, hC.ext (by repeat' (first | (with_reducible exact Ext.refl _) | (with_reducible assumption) | (with_reducible refine Ext.alloc ?_ _) | (with_reducible refine Ext.drewN ?_ _) | (with_reducible refine Ext.drew ?_) | (with_reducible refine Ext.trans ?_ (by assumption))))⟩
end
end Go.Proofs.Ytibcfmnkpemieaa
