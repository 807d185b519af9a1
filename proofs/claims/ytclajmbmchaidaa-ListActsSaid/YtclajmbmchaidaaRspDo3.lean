/-
  gradineref10.Space.Do, kind 1. No condition but that the space lies in memory, and that no block is in two lists.
-/
import Derived.Test.YtclajmbmchaidaaRspDo
import Derived.Deep.RegionLaw
import Derived.Deep.AppendLies
namespace Go.Proofs.Ytclajmbmchaidaa
open Go.RowKit

/-- 'append(s, x)', one integer, as a step of a region: the row's block stays, or is a new one -/
theorem step_append_one {P : Program} {ops : Array Oper} {o : Oper} {a : Act} {w : World} {K : Act → World → Prop} {Q : Exit → Act → World → Prop} {E : Prop} (hgd : o.guard = none) (s x : Operand) (t : TypeId)
    (ho : o.op = .call { callee := .builtin .append, args := #[s, x], argTypes := #[t, t] }) (e : TypeId) (k : IntKind) (z : Int) (bytes : Nat) (ht : P.underlying t = some (.slice e))
    (hinfo : (P.info? e).map (fun i => (i.zero, i.size, i.bytes)) = some (some (.int k z), 1, bytes)) (hby : bytes ≤ 8) (B : Nat) (hB : B ≤ w.heap.size) (v : Value) (l : List Int) (hs : a.eval s = v) (hown : OwnI k e B w v l)
    (y : Value) (u : Int) (hx : a.eval x = y) (hr : RdI k w y [u]) (hfit : l.length ≤ 1000)
    (h : ∀ g cap w', OwnI k e B w' (.slice (some ⟨g, 0, none⟩) (l.length + 1) cap) (l ++ [u]) → w.grownBy w' v.ownBlock → (v.ownBlock = some g ∨ g = w.heap.size) → K (a.put o.dst (.slice (some ⟨g, 0, none⟩) (l.length + 1) cap)) w') :
    if Region.wanted o (yielded ops a.tmps) = true then Oper.wp P o a w K Q else E := by
  obtain ⟨i0, hi, hz0, hz1, hz2⟩ := info_parts hinfo
  obtain ⟨hl, ad, c, rfl, hmc, hcm, hnil, hsome⟩ := hr
  obtain ⟨b, f, rfl, hlt, hc⟩ := hsome (by simp)
  refine step_append_lies _ hgd s x t ho B e i0 (.int k z) 1 bytes ht hi hz0 hz1 hz2 rfl (by decide) v l.length _ hs hown ⟨b, f, none⟩ 1 c (cellsOf k [u]) hx (by simp) (fun j q hj => by rw [add_none]; exact hc j q hj) cellsOf_one (by decide) (by unfold maxLen; omega) ?_ hB _ rfl ?_
  · have : (l.length + 1) * bytes ≤ 1001 * 8 := Nat.mul_le_mul (by omega) hby
    omega
  · intro g cap w' ho' hg' hat _
    refine h g cap w' ?_ hg' hat
    unfold OwnI
    simpa using ho'

set_option maxRecDepth 100000 in
set_option maxHeartbeats 2000000 in
theorem refdo10_put1 (B p bl : Nat) (Ls : List (List Nat)) (k : Int) (q y : Nat) (w : World) (h : RspAt w B p bl Ls) (hB : B ≤ w.heap.size) (hu : Uni Ls) (hlen : ∀ i, (Ls.getD i []).length ≤ 64) (hb : okB y) (hk : k = 1) (hl : q < Ls.length) :
    Calls Try.prog 26 #[.pointer (some ⟨p, 0, none⟩), .int .i64 k, .int .i64 q, .int .i64 y] w fun e w' => e = .returned (.int .i64 0) ∧ RspAt w' B p bl (putBackL Ls q y) ∧ ∃ S, Chg S w w' ∧ ∀ s ∈ S, s = bl ∨ (B ≤ s ∧ (w.heap.size ≤ s ∨ ∃ v, w.cell? ⟨bl, q, none⟩ = some v ∧ v.ownBlock = some s)) := by
  obtain ⟨c, hc0⟩ := h.cell0
  obtain ⟨n, hn⟩ : ∃ n, Ls.length = n := ⟨_, rfl⟩
  rw [hn] at hc0
  have HN := Lib.hid hn
  have H := Lib.hid h
  have hy63 : (y : Int) ≤ 63 := by have := hb.2; omega
  have hy0 : (0 : Int) ≤ (y : Int) := by omega
  have hyl : ¬ (y : Int) < 0 := by omega
  have hk2 : k < 2 := by omega
  have hkb : (k == 2) = false := by simp; omega
  have hq0 : ¬ (q : Int) < 0 := by omega
  have hqn : ¬ (q : Int) ≥ (n : Int) := by omega
  have hqn2 : (q : Int) < (n : Int) := by omega
  obtain ⟨r, hr⟩ : ∃ r, ofR Ls y = r := ⟨_, rfl⟩
  have HR := Lib.hid hr
  have HLEN := Lib.hid hlen
  have HU := Lib.hid hu
  have HL := Lib.hid hl
  clear hn h hb hr hlen hu hl
  go_enter Try.func26, Try.ntmps26
  go_wp2_with fail
  refine (refof_any B p bl Ls y _ H.out).mono ?_
  rintro e w1 ⟨rfl, hx1⟩
  rw [HR.out]
  go_upto_if 43 with fail
  go_cut [9] from 10 to 93 (fun s9 wx => Hid (RspAt wx B p bl (outL Ls y)) ∧ Hid (Chg [bl] w wx) ∧ Hid (∀ v, wx.cell? ⟨bl, q, none⟩ = some v → w.cell? ⟨bl, q, none⟩ = some v ∨ ∀ g, v.ownBlock = some g → w.heap.size ≤ g))
  case first =>
    cases hof : ofL Ls y with
    | none =>
      have hrn : r = -1 := by rw [← HR.out, ofR_eq, hof]
      have hO := Lib.hid (out_none' hof)
      subst hrn
      clear hof
      go_wp2_with fail
      go_meet
      exact ⟨by rw [hO.out]; exact H.out.ext (by repeat' (first | (with_reducible exact Ext.refl _) | (with_reducible assumption) | (with_reducible refine Ext.alloc ?_ _) | (with_reducible refine Ext.drewN ?_ _) | (with_reducible refine Ext.drew ?_) | (with_reducible refine Ext.trans ?_ (by assumption)))), Chg.of_ext (by repeat' (first | (with_reducible exact Ext.refl _) | (with_reducible assumption) | (with_reducible refine Ext.alloc ?_ _) | (with_reducible refine Ext.drewN ?_ _) | (with_reducible refine Ext.drew ?_) | (with_reducible refine Ext.trans ?_ (by assumption)))), fun v hv => .inl ((Ext.cell (w := w) (by repeat' (first | (with_reducible exact Ext.refl _) | (with_reducible assumption) | (with_reducible refine Ext.alloc ?_ _) | (with_reducible refine Ext.drewN ?_ _) | (with_reducible refine Ext.drew ?_) | (with_reducible refine Ext.trans ?_ (by assumption)))) H.out.llt).symm.trans hv)⟩
    | some i =>
      have hrn : r = (i : Int) := by rw [← HR.out, ofR_eq, hof]
      have hi := (ofL_mem hof).1
      have HO := Lib.hid (out_some' HU.out hof)
      subst hrn
      have hii : (i : Int) < (n : Int) := by have := HN.out; omega
      have hi0 : (0 : Int) ≤ (i : Int) := by omega
      have hil : ¬ (i : Int) < 0 := by omega
      have h1 := H.out.ext hx1
      obtain ⟨v, hv, hvo⟩ := h1.cell hi
      have hx0 := hx1.cellv hc0
      have hvr := hvo.rd
      have frz := h1.frz i
      have HVR := Lib.hid hvr
      obtain ⟨a, c2, hva, _, _, _, _⟩ := hvr.parts
      obtain ⟨m, hm⟩ : ∃ m, v = .slice a m c2 := ⟨_, hva⟩
      have H1 := Lib.hid h1
      clear hva hvo hvr h1 hof
      subst hm
      go_wp2_with fail
      go_region_with ((go_at_call 18; refine (without_any _ (asInts (Ls.getD i [])) y _ (HVR.out.ext (by repeat' (first | (with_reducible exact Ext.refl _) | (with_reducible assumption) | (with_reducible refine Ext.alloc ?_ _) | (with_reducible refine Ext.drewN ?_ _) | (with_reducible refine Ext.drew ?_) | (with_reducible refine Ext.trans ?_ (by assumption))))) (fits_small (by have := HLEN.out i; rw [asInts_len]; omega))).mono ?_; rintro e w2 ⟨v2, rfl, ho2, hx2⟩; obtain ⟨a5, c5, hv5, _, _, _, _⟩ := ho2.rd.parts; obtain ⟨n5, hn5⟩ : ∃ n5, v2 = .slice a5 n5 c5 := ⟨_, hv5⟩; clear hv5; subst hn5; have z0 := Ext.cellv (w := w1) (w' := w2) (by repeat' (first | (with_reducible exact Ext.refl _) | (with_reducible assumption) | (with_reducible refine Ext.alloc ?_ _) | (with_reducible refine Ext.drewN ?_ _) | (with_reducible refine Ext.drew ?_) | (with_reducible refine Ext.trans ?_ (by assumption)))) hx0; have zv := Ext.cellv (w := w1) (w' := w2) (by repeat' (first | (with_reducible exact Ext.refl _) | (with_reducible assumption) | (with_reducible refine Ext.alloc ?_ _) | (with_reducible refine Ext.drewN ?_ _) | (with_reducible refine Ext.drew ?_) | (with_reducible refine Ext.trans ?_ (by assumption)))) hv; have zf := (H1.out.ext (w' := w2) (by repeat' (first | (with_reducible exact Ext.refl _) | (with_reducible assumption) | (with_reducible refine Ext.alloc ?_ _) | (with_reducible refine Ext.drewN ?_ _) | (with_reducible refine Ext.drew ?_) | (with_reducible refine Ext.trans ?_ (by assumption))))).frz i))
      all_goals
        rw [wo_as] at ho2
        have hs2 := RspAt.setFresh (w0 := w1) H1.out (by repeat' (first | (with_reducible exact Ext.refl _) | (with_reducible assumption) | (with_reducible refine Ext.alloc ?_ _) | (with_reducible refine Ext.drewN ?_ _) | (with_reducible refine Ext.drew ?_) | (with_reducible refine Ext.trans ?_ (by assumption)))) (Nat.le_trans hB hx1.size) hi ho2
        have hch := (Chg.of_ext (S := [bl]) (show Ext w w2 from (by repeat' (first | (with_reducible exact Ext.refl _) | (with_reducible assumption) | (with_reducible refine Ext.alloc ?_ _) | (with_reducible refine Ext.drewN ?_ _) | (with_reducible refine Ext.drew ?_) | (with_reducible refine Ext.trans ?_ (by assumption)))))).trans (chg_one w2 bl i (.slice a5 n5 c5))
        rw [HO.out] at hs2
        have hrc : ∀ v, (w2.setCell ⟨bl, i, none⟩ (.slice a5 n5 c5)).cell? ⟨bl, q, none⟩ = some v → w.cell? ⟨bl, q, none⟩ = some v ∨ ∀ g, v.ownBlock = some g → w.heap.size ≤ g := by
          intro v hv'
          by_cases e : q = i
          · subst e
            rw [World.cell?_setCell_same _ _ _ zv] at hv'
            cases hv'
            exact .inr fun g hg => Nat.le_trans hx1.size (ho2.lt g hg).1
          · rw [World.cell?_setCell_other _ _ _ _ (by simp <;> omega)] at hv'
            exact .inl ((Ext.cell (w := w) (w' := w2) (by repeat' (first | (with_reducible exact Ext.refl _) | (with_reducible assumption) | (with_reducible refine Ext.alloc ?_ _) | (with_reducible refine Ext.drewN ?_ _) | (with_reducible refine Ext.drew ?_) | (with_reducible refine Ext.trans ?_ (by assumption)))) H.out.llt).symm.trans hv')
        have HRC := Lib.hid hrc
        have HS2 := Lib.hid hs2
        clear hs2 ho2 hrc
        go_wp2_with fail
        go_meet
        exact ⟨HS2.out.ext (by repeat' (first | (with_reducible exact Ext.refl _) | (with_reducible assumption) | (with_reducible refine Ext.alloc ?_ _) | (with_reducible refine Ext.drewN ?_ _) | (with_reducible refine Ext.drew ?_) | (with_reducible refine Ext.trans ?_ (by assumption)))), hch.ext (by repeat' (first | (with_reducible exact Ext.refl _) | (with_reducible assumption) | (with_reducible refine Ext.alloc ?_ _) | (with_reducible refine Ext.drewN ?_ _) | (with_reducible refine Ext.drew ?_) | (with_reducible refine Ext.trans ?_ (by assumption)))), HRC.out⟩
  case rest =>
    obtain ⟨HO, HCH, HRC⟩ := hcut
    clear hx1 w1
    have h1 := HO.out
    have hS0 := HCH.out
    have hql : q < (outL Ls y).length := by rw [outL_length]; exact HL.out
    obtain ⟨c1, hx0⟩ := h1.cell0
    rw [outL_length, HN.out] at hx0
    obtain ⟨v, hv, hvo⟩ := h1.cell hql
    obtain ⟨R, hR⟩ : ∃ R, (outL Ls y).getD q [] = R := ⟨_, rfl⟩
    rw [hR] at hvo
    have frz := h1.frz q
    have hvr := hvo.rd
    have HVR := Lib.hid hvr
    have HVO := Lib.hid hvo
    have hBc : B ≤ wc.heap.size := Nat.le_trans hB hS0.size
    have hl64 : R.length ≤ 64 := by rw [← hR, getD_map_filter]; exact Nat.le_trans (List.length_filter_le _ _) (HLEN.out q)
    have HL64 := Lib.hid hl64
    have HRR := Lib.hid hR
    have HQL := Lib.hid hql
    have HS0 := Lib.hid hS0
    obtain ⟨a, c2, hva, _, _, _, _⟩ := hvr.parts
    obtain ⟨m, hm⟩ : ∃ m, v = .slice a m c2 := ⟨_, hva⟩
    clear hva hvo hvr h1 hS0 hql hl64 HCH hR
    subst hm
    subst hk
    have hvB : ∀ g, (Value.slice a m c2).ownBlock = some g → B ≤ g := fun g hg => (HVO.out.lt g hg).1
    have HVB := Lib.hid hvB
    have HN2 := Lib.hid (show (asInts R).length ≤ 1000 by rw [asInts_len]; have := HL64.out; omega)
    have HBC := Lib.hid hBc
    clear hvB hBc
    go_wp2_with fail
    have close : ∀ (wX w2 : World) (gg cap : Nat), Ext wc wX → OwnI .i64 3 B w2 (.slice (some ⟨gg, 0, none⟩) ((asInts R).length + 1) cap) (asInts R ++ [(y : Int)]) → wX.grownBy w2 (Value.slice a m c2).ownBlock →
        ((Value.slice a m c2).ownBlock = some gg ∨ gg = wX.heap.size) → ∀ w3, Ext (w2.setCell ⟨bl, q, none⟩ (.slice (some ⟨gg, 0, none⟩) ((asInts R).length + 1) cap)) w3 → RspAt w3 B p bl (putBackL Ls q y) ∧ ∃ S, Chg S w w3 ∧ ∀ s ∈ S, s = bl ∨ (B ≤ s ∧ (w.heap.size ≤ s ∨ ∃ v, w.cell? ⟨bl, q, none⟩ = some v ∧ v.ownBlock = some s)) := by
      intro wX w2 gg cap hxX ho2 hg2 hat w3 hx3
      have ho3 : OwnI .i64 3 B w2 (.slice (some ⟨gg, 0, none⟩) ((asInts R).length + 1) cap) (asInts (R ++ [y])) := by
        have : asInts (R ++ [y]) = asInts R ++ [(y : Int)] := by simp [asInts]
        rw [this]; exact ho2
      obtain ⟨hs2, S1, hS1, hS1'⟩ := RspAt.setGrown (u := .slice (some ⟨gg, 0, none⟩) ((asInts R).length + 1) cap) (v0 := .slice a m c2) (L := R ++ [y]) (HO.out.ext hxX) HQL.out (hxX.cellv hv) hg2 ho3 (by
        rcases hat with h | h
        · exact .inl h.symm
        · exact .inr (congrArg some h))
      have hpb : putBackL Ls q y = (outL Ls y).set q (R ++ [y]) := by unfold putBackL; rw [HRR.out]
      refine ⟨by rw [hpb]; exact hs2.ext hx3, bl :: S1, ((((HS0.out.ext hxX).mono (S' := bl :: S1) (fun s hs => by simp at hs; simp [hs])).trans (hS1.mono (fun s hs => List.mem_cons_of_mem _ hs))).ext hx3), ?_⟩
      intro s hs
      rcases List.mem_cons.1 hs with h | h
      · exact .inl h
      · rcases hS1' s h with h2 | h2
        · exact .inl h2
        · refine .inr ⟨HVB.out s h2, ?_⟩
          rcases HRC.out _ hv with h3 | h3
          · exact .inr ⟨_, h3, h2⟩
          · exact .inl (h3 s h2)
    have CL := Lib.hid close
    clear close
    have a0 := cell_old (.cells #[.int .i64 (y : Int)] 3 (0, 0)) hx0
    have av := cell_old (.cells #[.int .i64 (y : Int)] 3 (0, 0)) hv
    go_region_law (refine step_append_one rfl _ _ _ rfl 3 .i64 0 8 Try.underlying31 ints_info (by decide) B (Nat.le_trans HBC.out (Ext.size (w := wc) (by repeat' (first | (with_reducible exact Ext.refl _) | (with_reducible assumption) | (with_reducible refine Ext.alloc ?_ _) | (with_reducible refine Ext.drewN ?_ _) | (with_reducible refine Ext.drew ?_) | (with_reducible refine Ext.trans ?_ (by assumption)))))) _ (asInts R) rfl (HVO.out.ext (by repeat' (first | (with_reducible exact Ext.refl _) | (with_reducible assumption) | (with_reducible refine Ext.alloc ?_ _) | (with_reducible refine Ext.drewN ?_ _) | (with_reducible refine Ext.drew ?_) | (with_reducible refine Ext.trans ?_ (by assumption))))) _ y rfl (by first | exact RdI.one _ _ _ _ | exact (RdI.one _ _ _ _).ext (Ext.drew (Ext.refl _)) | exact (RdI.one _ _ _ _).ext (Ext.drewN (Ext.refl _) _)) HN2.out ?_; intro gg cap w2 ho2 hg2 hat; have z0 := hg2.cell (Ext.cellv (w := wc) (by repeat' (first | (with_reducible exact Ext.refl _) | (with_reducible assumption) | (with_reducible refine Ext.alloc ?_ _) | (with_reducible refine Ext.drewN ?_ _) | (with_reducible refine Ext.drew ?_) | (with_reducible refine Ext.trans ?_ (by assumption)))) hx0) (fun h => absurd (HVB.out p h.symm) (by have := HO.out.pB; omega)); have zv := hg2.cell (Ext.cellv (w := wc) (by repeat' (first | (with_reducible exact Ext.refl _) | (with_reducible assumption) | (with_reducible refine Ext.alloc ?_ _) | (with_reducible refine Ext.drewN ?_ _) | (with_reducible refine Ext.drew ?_) | (with_reducible refine Ext.trans ?_ (by assumption)))) hv) (fun h => absurd (HVB.out bl h.symm) (by have := HO.out.lB; omega)); have zf := (World.frozen?_of_block (a := ⟨bl, q, none⟩) (hg2.block bl (Nat.lt_of_lt_of_le HO.out.llt (Ext.size (w := wc) (by repeat' (first | (with_reducible exact Ext.refl _) | (with_reducible assumption) | (with_reducible refine Ext.alloc ?_ _) | (with_reducible refine Ext.drewN ?_ _) | (with_reducible refine Ext.drew ?_) | (with_reducible refine Ext.trans ?_ (by assumption)))))) (fun h => absurd (HVB.out bl h.symm) (by have := HO.out.lB; omega)))).trans ((HO.out.ext (by repeat' (first | (with_reducible exact Ext.refl _) | (with_reducible assumption) | (with_reducible refine Ext.alloc ?_ _) | (with_reducible refine Ext.drewN ?_ _) | (with_reducible refine Ext.drew ?_) | (with_reducible refine Ext.trans ?_ (by assumption))))).frz q))
    all_goals
      have ho3 : OwnI .i64 3 B w2 (.slice (some ⟨gg, 0, none⟩) ((asInts R).length + 1) cap) (asInts R ++ [(y : Int)]) := by
        exact ho2
      have HO3 := Lib.hid ho3
      have HG2 := Lib.hid hg2
      have HAT := Lib.hid hat
      clear ho2 ho3 hg2 hat
      go_wp2_with fail
      go_ret
      exact ⟨rfl, CL.out _ _ gg cap (by repeat' (first | (with_reducible exact Ext.refl _) | (with_reducible assumption) | (with_reducible refine Ext.alloc ?_ _) | (with_reducible refine Ext.drewN ?_ _) | (with_reducible refine Ext.drew ?_) | (with_reducible refine Ext.trans ?_ (by assumption)))) HO3.out HG2.out HAT.out _ (by repeat' (first | (with_reducible exact Ext.refl _) | (with_reducible assumption) | (with_reducible refine Ext.alloc ?_ _) | (with_reducible refine Ext.drewN ?_ _) | (with_reducible refine Ext.drew ?_) | (with_reducible refine Ext.trans ?_ (by assumption))))⟩
end Go.Proofs.Ytclajmbmchaidaa
