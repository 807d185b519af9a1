/-
  conf.numbers: reads numbers into places. No condition but that the bytes and the places lie in memory.
-/
import Derived.Test.YtmkobmkaalfecaaCPut
import Derived.Test.YtmkobmkaalfecaaGetTruth
namespace Go.Proofs.Ytmkobmkaalfecaa
open Go.RowKit

theorem RdI.chgc {S : List Nat} {k : IntKind} {w w' : World} {v : Value} {l : List Int} (h : RdI k w v l) (hx : Chg S w w') (hS : l ≠ [] → ∀ g, v.ownBlock = some g → g ∉ S) : RdI k w' v l := by
  obtain ⟨h1, a, c, rfl, h2, h3, h4, h5⟩ := h
  refine ⟨h1, a, c, rfl, h2, h3, h4, fun hn => ?_⟩
  obtain ⟨b, o, rfl, hb, hc⟩ := h5 hn
  exact ⟨b, o, rfl, Nat.lt_of_lt_of_le hb hx.size, fun j u hu => (World.cell?_of_block (hx.block b hb (hS (List.length_pos_iff.1 hn) b rfl))).trans (hc j u hu)⟩
theorem chg_cellc {S : List Nat} {w w' : World} (h : Chg S w w') {b o : Nat} {u : Value} (hc : w.cell? ⟨b, o, none⟩ = some u) (hS : b ∉ S) : w'.cell? ⟨b, o, none⟩ = some u :=
  (World.cell?_of_block (h.block b (cell_lt hc) hS)).trans hc
/-- where the k-th number begins, what it is, its error -/
def posK (B : List Int) (a : Int) : Nat → Int
  | 0 => a
  | k + 1 => (getN B (posK B a k)).2.1
def valK (B : List Int) (a : Int) (k : Nat) : Int := (getN B (posK B a k)).1
def errK (B : List Int) (a : Int) (k : Nat) : Int := (getN B (posK B a k)).2.2
/-- numbers stored at places -/
def putAll (tb tq : Nat → Nat) (V : Nat → Int) : Nat → World → World
  | 0, w => w
  | k + 1, w => (putAll tb tq V k w).setCell ⟨tb k, tq k, none⟩ (.int .i64 (V k))
/-- places that are there -/
def Tgs (w : World) (tb tq : Nat → Nat) (m : Nat) : Prop := ∀ k, k < m → ∃ cs t, w.heap[tb k]? = some (.cells cs t (0, 0)) ∧ tq k < cs.size
theorem Tgs.ext {w w' : World} {tb tq : Nat → Nat} {m : Nat} (h : Tgs w tb tq m) (hx : Ext w w') : Tgs w' tb tq m := by
  intro k hk
  obtain ⟨cs, t, h1, h2⟩ := h k hk
  exact ⟨cs, t, (Below.block hx _ (Array.getElem?_eq_some_iff.1 h1).1).trans h1, h2⟩
theorem Tgs.set {w : World} {tb tq : Nat → Nat} {m : Nat} (h : Tgs w tb tq m) (b o : Nat) (u : Value) : Tgs (w.setCell ⟨b, o, none⟩ u) tb tq m := by
  intro k hk
  obtain ⟨cs, t, h1, h2⟩ := h k hk
  by_cases e : tb k = b
  · subst e
    exact ⟨cs.setIfInBounds o u, t, heap_set h1 u, by simpa using h2⟩
  · exact ⟨cs, t, (Below.heap_setCell _ _ _ _ e).trans h1, h2⟩
theorem Tgs.cell {w : World} {tb tq : Nat → Nat} {m : Nat} (h : Tgs w tb tq m) {k : Nat} (hk : k < m) : ∃ u, w.cell? ⟨tb k, tq k, none⟩ = some u := by
  obtain ⟨cs, t, h1, h2⟩ := h k hk
  exact ⟨cs[tq k], by rw [cell_of_row w _ _ cs t (0, 0) h1]; simp [h2]⟩
theorem Tgs.free {w : World} {tb tq : Nat → Nat} {m : Nat} (h : Tgs w tb tq m) {k : Nat} (hk : k < m) : w.frozen? ⟨tb k, tq k, none⟩ = false := by
  obtain ⟨cs, t, h1, _⟩ := h k hk
  exact frozen_row h1 _
theorem putAll_tgs {w : World} {tb tq : Nat → Nat} {V : Nat → Int} {m : Nat} (h : Tgs w tb tq m) : ∀ k, Tgs (putAll tb tq V k w) tb tq m := by
  intro k
  induction k with
  | zero => exact h
  | succ k ih => exact ih.set _ _ _
theorem putAll_chg {w : World} {tb tq : Nat → Nat} {V : Nat → Int} {S : List Nat} {m : Nat} (hS : ∀ k, k < m → tb k ∈ S) : ∀ k, k ≤ m → Chg S w (putAll tb tq V k w) := by
  intro k
  induction k with
  | zero => intro _; exact Chg.refl _ _
  | succ k ih => intro hk; exact (ih (by omega)).setCell (.inl (hS k (by omega))) _

section
variable (v : Value) (B : List Int) (a : Int) (g o m c : Nat) (tb tq : Nat → Nat) (S : List Nat) (w : World)
set_option maxHeartbeats 1000000 in
theorem cnumbers (hB : RdI .u8 w v B) (hb : ∀ x ∈ B, 0 ≤ x ∧ x ≤ 255) (hl : B.length ≤ 100000) (hm : m ≤ 100)
    (hP : ∀ k, k < m → w.cell? ⟨g, o + k, none⟩ = some (.pointer (some ⟨tb k, tq k, none⟩)))
    (hT : Tgs w tb tq m) (hS : ∀ k, k < m → tb k ∈ S) (hg : g ∉ S) (hv : B ≠ [] → ∀ x, v.ownBlock = some x → x ∉ S)
    (K : Nat) (hall : ∀ k, k < K → errK B a k = 0) (x : Int) (hx : (K = m ∧ x = 0) ∨ (K < m ∧ errK B a K = x ∧ x ≠ 0)) :
    Calls Try.prog 69 #[v, .int .i64 a, .slice (some ⟨g, o, none⟩) m c] w fun e w' => e = .returned (.tuple #[.int .i64 (if x = 0 then posK B a m else 0), .int .i64 x]) ∧ w' = putAll tb tq (valK B a) K w := by
  have HP := Lib.hid hP
  have HT := Lib.hid hT
  have HALL := Lib.hid hall
  have HX := Lib.hid hx
  have hKm : K ≤ m := by rcases hx with h | h <;> omega
  have HCH := Lib.hid (fun k hk => putAll_chg (w := w) (tq := tq) (V := valK B a) hS k hk)
  have HG := Lib.hid hg
  have HGET := Lib.hid (fun p w' (hc : Chg S w w') => get_any v B p w' (RdI.chgc hB hc hv) hb (by omega))
  obtain ⟨av, cv, rfl, _, _, _, _⟩ := hB.parts
  clear hP hT hall hx hB hb hS hg hv
  go_enter Try.func69, Try.ntmps69
  go_wp2_with fail
  go_loopw [1, 15] (fun ca ci wr => ∃ k : Nat, k ≤ K ∧ ci = .int .i64 k ∧ ca = .int .i64 (posK B a k) ∧ wr = putAll tb tq (valK B a) k w) (fun _ ci _ => K - (intOf ci).toNat)
  case atStart => exact ⟨0, by omega, rfl, rfl, rfl⟩
  case round =>
    obtain ⟨k, hk, rfl, rfl, hwr⟩ := hrel
    have HWR := Lib.hid hwr
    clear hwr
    have hch : Chg S w wr := by rw [HWR.out]; exact HCH.out k (by omega)
    have hget := HGET.out (posK B a k) wr hch
    have HCHR := Lib.hid hch
    by_cases hlt : k < m
    · have hki : (k : Int) < (m : Int) := by omega
      have hp := chg_cellc hch (HP.out k hlt) HG.out
      have hTr : Tgs wr tb tq m := by rw [HWR.out]; exact putAll_tgs HT.out k
      obtain ⟨u0, hu0⟩ := hTr.cell hlt
      have hfz := hTr.free hlt
      have e1 : valK B a k = (getN B (posK B a k)).1 := rfl
      have e2 : posK B a (k + 1) = (getN B (posK B a k)).2.1 := rfl
      have e3 : errK B a k = (getN B (posK B a k)).2.2 := rfl
      obtain ⟨nv, hnv⟩ : ∃ z, (getN B (posK B a k)).1 = z := ⟨_, rfl⟩
      obtain ⟨nx, hnx⟩ : ∃ z, (getN B (posK B a k)).2.1 = z := ⟨_, rfl⟩
      obtain ⟨ne, hne⟩ : ∃ z, (getN B (posK B a k)).2.2 = z := ⟨_, rfl⟩
      rw [hnv] at e1
      rw [hnx] at e2
      rw [hne] at e3
      rw [hnv, hnx, hne] at hget
      have HE1 := Lib.hid e1
      have HE2 := Lib.hid e2
      have HE3 := Lib.hid e3
      have HGET2 := Lib.hid hget
      clear e1 e2 e3 hnv hnx hne hget hch hTr
      by_cases hkK : k < K
      · obtain rfl : ne = 0 := HE3.out.symm.trans (HALL.out k hkK)
        go_wp2_with fail
        refine HGET2.out.mono ?_
        rintro e w5 ⟨rfl, rfl⟩
        go_wp2_with fail
        go_roundw
        case rel =>
          refine ⟨k + 1, by omega, by go_num, by rw [HE2.out], ?_⟩
          show _ = (putAll tb tq (valK B a) k w).setCell _ _
          rw [HE1.out, ← HWR.out]
        case measure => simp [intOf]; omega
      · obtain rfl : K = k := by omega
        obtain ⟨_, hx1, hx2⟩ : K < m ∧ errK B a K = x ∧ x ≠ 0 := by
          rcases HX.out with h | h
          · omega
          · exact h
        obtain rfl : x = ne := hx1.symm.trans HE3.out
        have hxb : (x == 0) = false := by rw [beq_eq_false_iff_ne]; exact hx2
        go_wp2_with fail
        refine HGET2.out.mono ?_
        rintro e w5 ⟨rfl, rfl⟩
        go_wp2_with fail
        go_ret2
        exact ⟨rfl, HWR.out⟩
    · obtain rfl : m = k := by omega
      obtain rfl : K = m := by omega
      obtain rfl : x = 0 := by
        rcases HX.out with h | h
        · exact h.2
        · omega
      go_wp2_with fail
      go_ret2
      exact ⟨rfl, HWR.out⟩
end
end Go.Proofs.Ytmkobmkaalfecaa
