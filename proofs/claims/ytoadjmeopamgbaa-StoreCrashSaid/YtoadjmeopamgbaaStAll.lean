/-
  store.all: reads numbers into places by a reader. No condition but that all reads.
-/
import Derived.Test.YtoadjmeopamgbaaStNum
namespace Go.Proofs.Ytoadjmeopamgbaa
open Go.RowKit

theorem RdI.chgc {S : List Nat} {k : IntKind} {w w' : World} {v : Value} {l : List Int} (h : RdI k w v l) (hx : Chg S w w') (hS : l ≠ [] → ∀ g, v.ownBlock = some g → g ∉ S) : RdI k w' v l := by
  obtain ⟨h1, a, c, rfl, h2, h3, h4, h5⟩ := h
  refine ⟨h1, a, c, rfl, h2, h3, h4, fun hn => ?_⟩
  obtain ⟨b, o, rfl, hb, hc⟩ := h5 hn
  exact ⟨b, o, rfl, Nat.lt_of_lt_of_le hb hx.size, fun j u hu => (World.cell?_of_block (hx.block b hb (hS (List.length_pos_iff.1 hn) b rfl))).trans (hc j u hu)⟩
theorem chg_cellc {S : List Nat} {w w' : World} (h : Chg S w w') {b o : Nat} {u : Value} (hc : w.cell? ⟨b, o, none⟩ = some u) (hS : b ∉ S) : w'.cell? ⟨b, o, none⟩ = some u :=
  (World.cell?_of_block (h.block b (cell_lt hc) hS)).trans hc

/-- blocks keep their make, and all cells but those of A and the block g's -/
def Shp (g : Nat) (A : Nat → Nat → Prop) (w w' : World) : Prop := ∀ b cs t, b ≠ g → w.heap[b]? = some (.cells cs t (0, 0)) → ∃ cs', w'.heap[b]? = some (.cells cs' t (0, 0)) ∧ cs'.size = cs.size ∧ ∀ o, ¬ A b o → cs'[o]? = cs[o]?
theorem Shp.refl (g : Nat) (A : Nat → Nat → Prop) (w : World) : Shp g A w w := fun _ cs _ _ h => ⟨cs, h, rfl, fun _ _ => rfl⟩
theorem Shp.chg {g : Nat} {A : Nat → Nat → Prop} {w w1 w2 : World} (h : Shp g A w w1) (hx : Chg [g] w1 w2) : Shp g A w w2 := by
  intro b cs t hb hc
  obtain ⟨cs', h1, h2⟩ := h b cs t hb hc
  exact ⟨cs', (hx.block b (Array.getElem?_eq_some_iff.1 h1).1 (by simpa using hb)).trans h1, h2⟩
theorem Shp.set {g : Nat} {A A' : Nat → Nat → Prop} {w w1 : World} (h : Shp g A w w1) (hA : ∀ b o, A b o → A' b o) {b0 o0 : Nat} (h0 : A' b0 o0) (u : Value) : Shp g A' w (w1.setCell ⟨b0, o0, none⟩ u) := by
  intro b cs t hb hc
  obtain ⟨cs', h1, h2, h3⟩ := h b cs t hb hc
  by_cases e : b = b0
  · subst e
    refine ⟨cs'.setIfInBounds o0 u, heap_set h1 u, by simpa using h2, fun o ho => ?_⟩
    have : o0 ≠ o := fun e => ho (by rw [← e]; exact h0)
    rw [Array.getElem?_setIfInBounds, if_neg this]
    exact h3 o (fun h => ho (hA _ _ h))
  · exact ⟨cs', (Below.heap_setCell _ _ _ _ e).trans h1, h2, fun o ho => h3 o (fun h => ho (hA _ _ h))⟩
theorem Shp.mono {g : Nat} {A A' : Nat → Nat → Prop} {w w1 : World} (h : Shp g A w w1) (hA : ∀ b o, A b o → A' b o) : Shp g A' w w1 := by
  intro b cs t hb hc
  obtain ⟨cs', h1, h2, h3⟩ := h b cs t hb hc
  exact ⟨cs', h1, h2, fun o ho => h3 o (fun h => ho (hA _ _ h))⟩
/-- places that are there -/
def Tgs (w : World) (tb tq : Nat → Nat) (m : Nat) : Prop := ∀ k, k < m → ∃ cs t, w.heap[tb k]? = some (.cells cs t (0, 0)) ∧ tq k < cs.size
/-- the places of the first k -/
def PlK (tb tq : Nat → Nat) (k b o : Nat) : Prop := ∃ j, j < k ∧ b = tb j ∧ o = tq j

section
variable (v : Value) (B : List Int) (a : Int) (ok : Bool) (g : Nat) (t : TypeId) (pg o m c : Nat) (tb tq : Nat → Nat) (S : List Nat) (w : World)
set_option maxHeartbeats 2000000 in
theorem sall (hr : w.heap[g]? = some (.cells #[v, .int .i64 a, .bool ok] t (0, 0))) (hB : RdI .u8 w v B) (hb : ∀ x ∈ B, 0 ≤ x ∧ x ≤ 255) (hl : B.length ≤ 100000) (hm : m ≤ 10)
    (hP : ∀ k, k < m → w.cell? ⟨pg, o + k, none⟩ = some (.pointer (some ⟨tb k, tq k, none⟩))) (hT : Tgs w tb tq m) (hD : ∀ j k, j < m → k < m → j ≠ k → ¬ (tb j = tb k ∧ tq j = tq k))
    (hS : ∀ k, k < m → tb k ∈ S) (hgS : g ∉ S) (hpg : pg ∉ g :: S) (hv : ∀ x, v.ownBlock = some x → x ∉ g :: S) :
    Calls Try.prog 48 #[.func (.func 49) #[.pointer (some ⟨g, 0, none⟩)] #[], .slice (some ⟨pg, o, none⟩) m c] w fun e w' => e = .returned (.tuple #[]) ∧
      w'.heap[g]? = some (.cells #[v, .int .i64 (rdAll B (a, ok) m).1, .bool (rdAll B (a, ok) m).2] t (0, 0)) ∧ (∀ k, k < m → w'.cell? ⟨tb k, tq k, none⟩ = some (.int .i64 (rdVal B (a, ok) k))) ∧ Shp g (PlK tb tq m) w w' ∧ Chg (g :: S) w w' := by
  have HP := Lib.hid hP
  have HT := Lib.hid hT
  have HD := Lib.hid hD
  have HS := Lib.hid hS
  have HGS := Lib.hid hgS
  have HPG := Lib.hid hpg
  have HR := Lib.hid hr
  have HN := Lib.hid (fun (w' : World) (hx : Chg (g :: S) w w') a' ok' h => snum v B a' ok' g t w' h (hB.chgc hx (fun _ => hv)) hb hl)
  have hmi : (m : Int) ≤ 10 := by omega
  clear hP hT hD hS hgS hpg hr hB hb hl hv
  go_enter Try.func48, Try.ntmps48
  go_wp2_with fail
  go_loopw [5, 8] (fun _ ci wr => ∃ k : Nat, k ≤ m ∧ ci = .int .i64 k ∧ Hid (wr.heap[g]? = some (.cells #[v, .int .i64 (rdAll B (a, ok) k).1, .bool (rdAll B (a, ok) k).2] t (0, 0))) ∧ Hid (∀ j, j < k → wr.cell? ⟨tb j, tq j, none⟩ = some (.int .i64 (rdVal B (a, ok) j))) ∧ Hid (Shp g (PlK tb tq k) w wr) ∧ Chg (g :: S) w wr) (fun _ ci _ => m - (intOf ci).toNat)
  case atStart => exact ⟨0, Nat.zero_le _, rfl, HR, Lib.hid (fun j hj => absurd hj (by omega)), Lib.hid (Shp.refl _ _ _), Chg.refl _ _⟩
  case round =>
    obtain ⟨k, hk, rfl, HRK, HC, HSH, hx⟩ := hrel
    by_cases hlt : k < m
    · have hkk : (k : Int) < (m : Int) := by omega
      have p0 := chg_cellc hx (HP.out k hlt) HPG.out
      have hn := HN.out wr hx _ _ HRK.out
      have e1 : rdAll B (a, ok) (k + 1) = (rdNum B (rdAll B (a, ok) k)).2 := rfl
      have e2 : rdVal B (a, ok) k = (rdNum B (rdAll B (a, ok) k)).1 := rfl
      have e3 : ((rdAll B (a, ok) k).1, (rdAll B (a, ok) k).2) = rdAll B (a, ok) k := rfl
      rw [e3, ← e1, ← e2] at hn
      obtain ⟨x, hxe⟩ : ∃ x, x = rdVal B (a, ok) k := ⟨_, rfl⟩
      have HXE := Lib.hid hxe
      rw [← hxe] at hn
      have HNN := Lib.hid hn
      obtain ⟨cs, t2, T1, T2⟩ := HT.out k hlt
      have htg : tb k ≠ g := fun e => HGS.out (e ▸ HS.out k hlt)
      obtain ⟨cs', T3, T4, _⟩ := HSH.out (tb k) cs t2 htg T1
      have HBK : Hid (∀ w1, Chg [g] wr w1 → w1.heap[tb k]? = some (.cells cs' t2 (0, 0))) := Lib.hid (fun w1 h => (h.block _ (Array.getElem?_eq_some_iff.1 T3).1 (by simpa using htg)).trans T3)
      have HTQ : Hid (tq k < cs'.size) := Lib.hid (by omega)
      have HTG := Lib.hid htg
      have HXX := Lib.hid hx
      clear hn e1 e2 e3 hxe T1 T2 T3 T4 htg hx
      go_wp2_with fail
      refine HNN.out.mono ?_
      rintro e w1 ⟨rfl, hr1, hx1⟩
      have hbk := HBK.out w1 hx1
      have fz := frozen_row hbk (tq k)
      obtain ⟨ov, hov⟩ : ∃ ov, w1.cell? ⟨tb k, tq k, none⟩ = some ov := ⟨cs'[tq k]'HTQ.out, by rw [cell_of_row w1 _ _ cs' t2 (0, 0) hbk]; simp [HTQ.out]⟩
      have f1 : (w1.setCell ⟨tb k, tq k, none⟩ (.int .i64 x)).heap[g]? = some (.cells #[v, .int .i64 (rdAll B (a, ok) (k + 1)).1, .bool (rdAll B (a, ok) (k + 1)).2] t (0, 0)) := (Below.heap_setCell _ _ _ _ (fun e => HTG.out e.symm)).trans hr1
      have f2 : ∀ j, j < k + 1 → (w1.setCell ⟨tb k, tq k, none⟩ (.int .i64 x)).cell? ⟨tb j, tq j, none⟩ = some (.int .i64 (rdVal B (a, ok) j)) := by
        intro j hj
        by_cases e : j = k
        · subst e
          rw [← HXE.out, cell_of_row _ _ _ _ _ _ (heap_set hbk (.int .i64 x)), Array.getElem?_setIfInBounds, if_pos rfl, if_pos HTQ.out]
        · have := HC.out j (by omega)
          refine (World.cell?_setCell_other _ _ _ _ (fun e2 => HD.out k j hlt (by omega) (fun h => e h.symm) ?_)).trans (chg_cellc hx1 this (fun h => ?_))
          · simpa using e2
          · have h9 := HS.out j (by omega)
            simp at h
            rw [h] at h9
            exact HGS.out h9
      have f3 : Shp g (PlK tb tq (k + 1)) w (w1.setCell ⟨tb k, tq k, none⟩ (.int .i64 x)) := (HSH.out.chg hx1).set (fun b o ⟨j, h1, h2⟩ => ⟨j, by omega, h2⟩) ⟨k, by omega, rfl, rfl⟩ _
      have f4 : Chg (g :: S) w (w1.setCell ⟨tb k, tq k, none⟩ (.int .i64 x)) := (HXX.out.trans ⟨hx1.os, hx1.tape, hx1.output, hx1.size, fun b hb hn => hx1.block b hb (by simp at hn ⊢; exact hn.1)⟩).setCell (.inl (by simp [HS.out k hlt])) _
      have F1 := Lib.hid f1
      have F2 := Lib.hid f2
      have F3 := Lib.hid f3
      clear hr1 hx1 hbk f1 f2 f3
      go_wp2_with fail
      go_roundw
      case rel => exact ⟨k + 1, by omega, by go_num, F1, F2, F3, f4⟩
      case measure => simp [intOf]; omega
    · obtain rfl : k = m := by omega
      go_wp2_with fail
      go_end0
      exact ⟨rfl, HRK.out, HC.out, HSH.out, hx⟩
end
end Go.Proofs.Ytoadjmeopamgbaa
