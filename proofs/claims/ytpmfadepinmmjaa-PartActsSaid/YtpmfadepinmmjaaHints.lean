/-
  conf.Hints and conf.within. No condition but that the hints read.
-/
import Derived.Test.YtpmfadepinmmjaaRows
import Derived.Test.YtpmfadepinmmjaaRecs
import Derived.Test.YtpmfadepinmmjaaSpc
namespace Go.Proofs.Ytpmfadepinmmjaa
open Go.RowKit

theorem cwithin (n a b : Int) (r : Bool) (hr : decide (a ≤ n ∧ n ≤ b) = r) (w : World) :
    Calls Try.prog 54 #[.int .i64 n, .int .i64 a, .int .i64 b] w fun e w' => e = .returned (.bool r) ∧ w = w' := by
  by_cases h1 : a ≤ n
  · by_cases h2 : n ≤ b
    · have e : r = true := by rw [← hr]; simp [h1, h2]
      subst e
      clear hr
      go_enter Try.func54, Try.ntmps54
      go_wp2_with fail
      go_ret
      exact ⟨by simp, rfl⟩
    · have e : r = false := by rw [← hr]; simp [h2]
      subst e
      clear hr
      have h3 : b < n := by omega
      go_enter Try.func54, Try.ntmps54
      go_wp2_with fail
      go_ret
      exact ⟨by simp, rfl⟩
  · have e : r = false := by rw [← hr]; simp [h1]
    subst e
    clear hr
    have h3 : n < a := by omega
    go_enter Try.func54, Try.ntmps54
    go_wp2_with fail
    go_ret
    exact ⟨by first | rfl | simp, rfl⟩

/-- a slice of hints: the three numbers of each, and whether it is a loop -/
def HV (F : Nat → Nat → Int) (L : Nat → Bool) (i j : Nat) : Value := if j < 3 then .int .i64 (F i j) else .bool (L i)
def RdH (w : World) (v : Value) (n : Nat) (F : Nat → Nat → Int) (L : Nat → Bool) : Prop := RdV 4 w v n (HV F L)
theorem RdH.ext {w w' : World} {v : Value} {n : Nat} {F : Nat → Nat → Int} {L : Nat → Bool} (h : RdH w v n F L) (hx : Ext w w') : RdH w' v n F L := RdV.ext h hx

/-- a hint may be so -/
def HOk (F : Nat → Nat → Int) (m : Int) (i : Nat) : Prop := 0 ≤ F i 0 ∧ 1 ≤ F i 1 ∧ F i 0 ≤ m ∧ F i 1 ≤ m - F i 0 ∧ F i 0 + F i 1 ≤ 32 ∧ 0 ≤ F i 2 ∧ F i 2 ≤ 2147483647
/-- a block is in a hint -/
def HIn (F : Nat → Nat → Int) (i : Nat) (b : Int) : Prop := F i 0 ≤ b ∧ b < F i 0 + F i 1
/-- hints are right -/
def HsOk (n : Nat) (F : Nat → Nat → Int) (m : Int) : Prop := (∀ i, i < n → HOk F m i) ∧ (∀ i j, i < j → j < n → ∀ b, HIn F i b → ¬ HIn F j b) ∧ n ≤ 8

/-- the blocks that were met -/
structure MetAt (w : World) (p : Nat) (M : Nat → Bool) : Prop where
  cells : ∃ cs t, w.heap[p]? = some (.cells cs t (0, 0)) ∧ ∀ b, b < 32 → cs[b]? = some (.bool (M b))
section
variable {w w' : World} {p : Nat} {M : Nat → Bool}
theorem MetAt.lt (h : MetAt w p M) : p < w.heap.size := by obtain ⟨cs, t, h1, _⟩ := h.cells; exact (Array.getElem?_eq_some_iff.1 h1).1
theorem MetAt.at (h : MetAt w p M) {b : Nat} (hb : b < 32) : w.cell? ⟨p, b, none⟩ = some (.bool (M b)) := by
  obtain ⟨cs, t, h1, h2⟩ := h.cells
  rw [cell_of_row w p _ cs t (0, 0) h1]; exact h2 b hb
theorem MetAt.free (h : MetAt w p M) (o : Nat) : w.frozen? ⟨p, o, none⟩ = false := by obtain ⟨cs, t, h1, _⟩ := h.cells; exact frozen_row h1 o
theorem MetAt.ext (h : MetAt w p M) (hx : Ext w w') : MetAt w' p M := ⟨by rw [Below.block hx _ h.lt]; exact h.cells⟩
theorem MetAt.set (h : MetAt w p M) {b : Nat} (hb : b < 32) (x : Bool) : MetAt (w.setCell ⟨p, b, none⟩ (.bool x)) p (fun i => if i = b then x else M i) := by
  obtain ⟨cs, t, h1, h2⟩ := h.cells
  refine ⟨_, t, heap_set h1 _, ?_⟩
  intro i hi
  by_cases e : i = b
  · subst e
    have hlt : i < cs.size := (Array.getElem?_eq_some_iff.1 (h2 i hi)).1
    rw [Array.getElem?_setIfInBounds]; simp [hlt]
  · rw [Array.getElem?_setIfInBounds, if_neg (by omega), if_neg e]; exact h2 i hi
end
theorem met_new (w : World) (t : TypeId) (cs : Array Value) (hcs : cs = (List.replicate 32 (Value.bool false)).toArray) : MetAt (w.alloc (.cells cs t)) w.heap.size (fun _ => false) := by
  refine ⟨cs, t, heap_alloc_new w _, fun b hb => ?_⟩
  rw [hcs, List.getElem?_toArray, List.getElem?_replicate, if_pos hb]

set_option maxHeartbeats 2000000 in
theorem chints (v : Value) (n : Nat) (F : Nat → Nat → Int) (L : Nat → Bool) (m : Int) (w : World) (h : RdH w v n F L) (hn : n ≤ 1000) (hwf : ∀ i j, i < n → j < 3 → (Lit.int .i64 (F i j)).wf = true) (hm : (Lit.int .i64 m).wf = true) (r : Bool) (hr : r = true ↔ HsOk n F m) :
    Calls Try.prog 42 #[v, .int .i64 m] w fun e w' => e = .returned (.bool r) ∧ Ext w w' := by
  obtain ⟨a, c, rfl, hnc, _, _, hcell⟩ := h
  have HC := Lib.hid hcell
  have HW := Lib.hid hwf
  have HR := Lib.hid hr
  have hni : (n : Int) ≤ 1000 := by omega
  obtain ⟨m0, m1⟩ := i64_bd hm
  clear hcell hwf hr hm
  go_enter Try.func42, Try.ntmps42
  go_wp2_with fail
  have hM := met_new w 101 _ (show _ = (List.replicate 32 (Value.bool false)).toArray from rfl)
  have hx0 := (Ext.refl w).alloc (.cells (List.replicate 32 (Value.bool false)).toArray 101)
  simp only [List.replicate_succ, List.replicate_zero] at hx0 hM
  obtain ⟨w1, hw1⟩ : ∃ w1, w1 = w.alloc (.cells [Value.bool false, .bool false, .bool false, .bool false, .bool false, .bool false, .bool false, .bool false, .bool false, .bool false, .bool false, .bool false, .bool false, .bool false, .bool false, .bool false, .bool false, .bool false, .bool false, .bool false, .bool false, .bool false, .bool false, .bool false, .bool false, .bool false, .bool false, .bool false, .bool false, .bool false, .bool false, .bool false].toArray 101) := ⟨_, rfl⟩
  rw [← hw1] at hM hx0 ⊢
  clear hw1
  obtain ⟨pm, hpm⟩ : ∃ pm, pm = w.heap.size := ⟨_, rfl⟩
  rw [← hpm] at hM ⊢
  have hpw : w.heap.size ≤ pm := by omega
  clear hpm
  go_loopw [11] (fun ci wr => ∃ (k : Nat) (M : Nat → Bool), k ≤ n ∧ ci = .int .i64 k ∧ MetAt wr pm M ∧ (∀ b : Nat, b < 32 → (M b = true ↔ ∃ i, i < k ∧ HIn F i b)) ∧ (∀ i, i < k → HOk F m i) ∧ (∀ i j, i < j → j < k → ∀ b, HIn F i b → ¬ HIn F j b) ∧ Ext w wr) (fun ci _ => n - (intOf ci).toNat)
  case atStart => exact ⟨0, _, by omega, rfl, hM, fun b _ => by simp, fun i hi => by omega, fun i j _ hj => by omega, hx0⟩
  case round =>
    obtain ⟨k, M, hk, rfl, hM, hMi, hok, hdj, hx⟩ := hrel
    have HM := Lib.hid hM
    have HMI := Lib.hid hMi
    have HOK := Lib.hid hok
    have HDJ := Lib.hid hdj
    clear hM hMi hok hdj
    by_cases hlt : k < n
    · obtain ⟨b0, o0, rfl, hb0, hcc⟩ := HC.out (by omega)
      have x0 := hx.cellv (hcc k 0 hlt (by omega))
      have x1 := hx.cellv (hcc k 1 hlt (by omega))
      have x2 := hx.cellv (hcc k 2 hlt (by omega))
      have x3 := hx.cellv (hcc k 3 hlt (by omega))
      rw [Nat.add_zero] at x0
      rw [← Nat.add_assoc] at x1 x2 x3
      simp only [HV, if_pos (show (0 : Nat) < 3 by omega), if_pos (show (1 : Nat) < 3 by omega), if_pos (show (2 : Nat) < 3 by omega), if_neg (show ¬ (3 : Nat) < 3 by omega)] at x0 x1 x2 x3
      obtain ⟨f0, f1⟩ := i64_bd (HW.out k 0 hlt (by omega))
      obtain ⟨s0, s1⟩ := i64_bd (HW.out k 1 hlt (by omega))
      obtain ⟨f, hf⟩ : ∃ f, F k 0 = f := ⟨_, rfl⟩
      obtain ⟨s, hs⟩ : ∃ s, F k 1 = s := ⟨_, rfl⟩
      obtain ⟨o, ho⟩ : ∃ o, F k 2 = o := ⟨_, rfl⟩
      rw [hf] at x0 f0 f1
      rw [hs] at x1 s0 s1
      rw [ho] at x2
      have HHO := Lib.hid (show HOk F m k ↔ (0 ≤ f ∧ 1 ≤ s ∧ f ≤ m ∧ s ≤ m - f ∧ f + s ≤ 32 ∧ 0 ≤ o ∧ o ≤ 2147483647) by unfold HOk; rw [hf, hs, ho])
      have HHI := Lib.hid (show ∀ b, HIn F k b ↔ (f ≤ b ∧ b < f + s) from fun b => by unfold HIn; rw [hf, hs])
      have hki : (k : Int) < (n : Int) := by omega
      clear hcc hf hs ho
      by_cases hbad : HOk F m k
      · obtain ⟨a1, a2, a3, a4, a5, a6, a7⟩ := HHO.out.1 hbad
        have HGD := Lib.hid hbad
        clear hbad
        obtain ⟨fn, rfl⟩ := Int.eq_ofNat_of_zero_le a1
        obtain ⟨sn, rfl⟩ := Int.eq_ofNat_of_zero_le (show 0 ≤ s by omega)
        go_wp2_with fail
        refine (cwithin o 0 2147483647 true (by simp [a6, a7]) _).mono ?_
        rintro e w3 ⟨rfl, rfl⟩
        go_wp2_with fail
        have y0 : (wr.alloc (.cells #[.int .i64 fn, .int .i64 sn, .int .i64 o, .bool (L k)] 58)).cell? ⟨wr.heap.size, 0, none⟩ = some (.int .i64 fn) := cell_new _ _ _ _ rfl
        have y1 : (wr.alloc (.cells #[.int .i64 fn, .int .i64 sn, .int .i64 o, .bool (L k)] 58)).cell? ⟨wr.heap.size, 1, none⟩ = some (.int .i64 sn) := cell_new _ _ _ _ rfl
        have hM4 := HM.out.ext ((Ext.refl wr).alloc (.cells #[.int .i64 fn, .int .i64 sn, .int .i64 o, .bool (L k)] 58))
        have hx4 := hx.alloc (.cells #[.int .i64 fn, .int .i64 sn, .int .i64 o, .bool (L k)] 58)
        have hpb : pm ≠ wr.heap.size := by have := HM.out.lt; omega
        clear x0 x1 x2 x3
        obtain ⟨wo, rfl⟩ : ∃ wo : World, wo = wr := ⟨_, rfl⟩
        obtain ⟨hb, hhb⟩ : ∃ hb, hb = wo.heap.size := ⟨_, rfl⟩
        rw [← hhb] at y0 y1 hpb ⊢
        generalize (wo.alloc (.cells #[.int .i64 fn, .int .i64 sn, .int .i64 o, .bool (L k)] 58)) = w4 at *
        have HY0 := Lib.hid y0
        have HY1 := Lib.hid y1
        have HM4 := Lib.hid hM4
        clear hhb y0 y1 hM4
        go_loopw [54] (fun cj wj => ∃ (j : Nat) (M' : Nat → Bool), j ≤ sn ∧ cj = .int .i64 j ∧ MetAt wj pm M' ∧ (∀ b : Nat, b < 32 → (M' b = true ↔ (∃ i, i < k ∧ HIn F i b) ∨ (fn ≤ b ∧ b < fn + j))) ∧ (∀ i, i < k → ∀ b, b < fn + j → fn ≤ b → ¬ HIn F i b) ∧ Ext w wj ∧ wj.cell? ⟨hb, 0, none⟩ = some (.int .i64 fn)) (fun cj _ => sn - (intOf cj).toNat)
        case atStart => exact ⟨0, M, by omega, rfl, HM4.out, fun b hb => by rw [HMI.out b hb]; simp; omega, fun i _ b h1 h2 => by omega, hx4, HY0.out⟩
        case round =>
          obtain ⟨j, M', hj, rfl, hM', hMi', hno, hxj, y0⟩ := hrel
          have HM' := Lib.hid hM'
          have HMI' := Lib.hid hMi'
          have HNO := Lib.hid hno
          clear hMi' hno
          by_cases hjs : j < sn
          · have hq : fn + j < 32 := by omega
            have z0 := hM'.at hq
            have z1 := hM'.free
            have hqi : (fn : Int) + (j : Int) < 32 := by omega
            have hji : (j : Int) < (sn : Int) := by omega
            have hto : ((fn : Int) + (j : Int)).toNat = fn + j := by omega
            clear hM'
            cases hmq : M' (fn + j) with
            | true =>
              rw [hmq] at z0
              have hrf : r = false := by
                cases r
                · rfl
                · exfalso
                  have hs := HR.out.1 rfl
                  have := (HMI'.out (fn + j) hq).1 hmq
                  rcases this with ⟨i, hi, hin⟩ | ⟨_, h2⟩
                  · exact hs.2.1 i k hi hlt _ hin ((HHI.out _).2 (by omega))
                  · omega
              subst hrf
              clear hmq
              go_wp2_with fail
              go_ret
              exact ⟨rfl, (by repeat' (first | (with_reducible exact Ext.refl _) | (with_reducible assumption) | (with_reducible refine Ext.alloc ?_ _) | (with_reducible refine Ext.drewN ?_ _) | (with_reducible refine Ext.drew ?_) | (with_reducible refine Ext.trans ?_ (by assumption))))⟩
            | false =>
              rw [hmq] at z0
              have HQ := Lib.hid hmq
              clear hmq
              go_wp2_with fail
              go_roundw
              case rel =>
                refine ⟨j + 1, _, by omega, by go_num, HM'.out.set hq true, ?_, ?_, ?_, ?_⟩
                · intro b hb
                  by_cases e : b = fn + j
                  · rw [if_pos e]; simp; exact .inr ⟨by omega, by omega⟩
                  · rw [if_neg e, HMI'.out b hb]
                    constructor
                    · rintro (h | h)
                      · exact .inl h
                      · exact .inr ⟨h.1, by omega⟩
                    · rintro (h | h)
                      · exact .inl h
                      · exact .inr ⟨h.1, by omega⟩
                · intro i hi b h1 h2 hin
                  by_cases e : b = fn + j
                  · subst e
                    have := (HMI'.out (fn + j) hq).2 (.inl ⟨i, hi, hin⟩)
                    rw [HQ.out] at this
                    exact absurd this (by simp)
                  · exact HNO.out i hi b (by omega) h2 hin
                · exact Ext.chg (S := [pm]) hxj ((Chg.refl _ _).setCell (.inl (by simp)) _) (by simpa using hpw)
                · rw [World.cell?_of_block (Below.heap_setCell _ _ _ _ (show hb ≠ pm from fun e => hpb e.symm))]; exact y0
              case measure => simp [intOf]; omega
          · obtain rfl : j = sn := by omega
            clear hM' y0
            go_wp2_with fail
            go_roundw
            case rel =>
              refine ⟨k + 1, M', by omega, by go_num, HM'.out, ?_, ?_, ?_, hxj⟩
              · intro b hb
                rw [HMI'.out b hb]
                constructor
                · rintro (⟨i, hi, hin⟩ | h)
                  · exact ⟨i, by omega, hin⟩
                  · exact ⟨k, by omega, (HHI.out _).2 (by omega)⟩
                · rintro ⟨i, hi, hin⟩
                  by_cases e : i = k
                  · subst e; have := (HHI.out _).1 hin; exact .inr (by omega)
                  · exact .inl ⟨i, by omega, hin⟩
              · intro i hi
                by_cases e : i = k
                · subst e; exact HGD.out
                · exact HOK.out i (by omega)
              · intro i i2 h1 h2 b hin hin2
                by_cases e : i2 = k
                · subst e
                  have := (HHI.out b).1 hin2
                  obtain ⟨bn, rfl⟩ := Int.eq_ofNat_of_zero_le (show 0 ≤ b by omega)
                  exact HNO.out i h1 bn (by omega) (by omega) hin
                · exact HDJ.out i i2 h1 (by omega) b hin hin2
            case measure => simp [intOf]; omega
      · have hrf : r = false := by
          cases r
          · rfl
          · exact absurd ((HR.out.1 rfl).1 k hlt) hbad
        subst hrf
        have hnot : ¬ (0 ≤ f ∧ 1 ≤ s ∧ f ≤ m ∧ s ≤ m - f ∧ f + s ≤ 32 ∧ 0 ≤ o ∧ o ≤ 2147483647) := fun h => hbad (HHO.out.2 h)
        clear hbad
        by_cases a1 : 0 ≤ f
        · by_cases a2 : 1 ≤ s
          · by_cases a3 : f ≤ m
            · by_cases a4 : s ≤ m - f
              · by_cases a5 : f + s ≤ 32
                · have a6 : decide (0 ≤ o ∧ o ≤ 2147483647) = false := by simp; omega
                  clear hnot
                  go_wp2_with fail
                  refine (cwithin o 0 2147483647 false a6 _).mono ?_
                  rintro e w3 ⟨rfl, rfl⟩
                  go_wp2_with fail
                  go_ret
                  exact ⟨rfl, (by repeat' (first | (with_reducible exact Ext.refl _) | (with_reducible assumption) | (with_reducible refine Ext.alloc ?_ _) | (with_reducible refine Ext.drewN ?_ _) | (with_reducible refine Ext.drew ?_) | (with_reducible refine Ext.trans ?_ (by assumption))))⟩
                · clear hnot
                  go_wp2_with fail
                  go_ret
                  exact ⟨rfl, (by repeat' (first | (with_reducible exact Ext.refl _) | (with_reducible assumption) | (with_reducible refine Ext.alloc ?_ _) | (with_reducible refine Ext.drewN ?_ _) | (with_reducible refine Ext.drew ?_) | (with_reducible refine Ext.trans ?_ (by assumption))))⟩
              · clear hnot
                go_wp2_with fail
                go_ret
                exact ⟨rfl, (by repeat' (first | (with_reducible exact Ext.refl _) | (with_reducible assumption) | (with_reducible refine Ext.alloc ?_ _) | (with_reducible refine Ext.drewN ?_ _) | (with_reducible refine Ext.drew ?_) | (with_reducible refine Ext.trans ?_ (by assumption))))⟩
            · clear hnot
              go_wp2_with fail
              go_ret
              exact ⟨rfl, (by repeat' (first | (with_reducible exact Ext.refl _) | (with_reducible assumption) | (with_reducible refine Ext.alloc ?_ _) | (with_reducible refine Ext.drewN ?_ _) | (with_reducible refine Ext.drew ?_) | (with_reducible refine Ext.trans ?_ (by assumption))))⟩
          · clear hnot
            go_wp2_with fail
            go_ret
            exact ⟨rfl, (by repeat' (first | (with_reducible exact Ext.refl _) | (with_reducible assumption) | (with_reducible refine Ext.alloc ?_ _) | (with_reducible refine Ext.drewN ?_ _) | (with_reducible refine Ext.drew ?_) | (with_reducible refine Ext.trans ?_ (by assumption))))⟩
        · clear hnot
          go_wp2_with fail
          go_ret
          exact ⟨rfl, (by repeat' (first | (with_reducible exact Ext.refl _) | (with_reducible assumption) | (with_reducible refine Ext.alloc ?_ _) | (with_reducible refine Ext.drewN ?_ _) | (with_reducible refine Ext.drew ?_) | (with_reducible refine Ext.trans ?_ (by assumption))))⟩
    · obtain rfl : k = n := by omega
      have hrr : r = true ↔ k ≤ 8 := by
        rw [HR.out]
        exact ⟨fun h => h.2.2, fun h => ⟨HOK.out, HDJ.out, h⟩⟩
      cases r
      · have h8 : ¬ (k : Int) ≤ 8 := by simp at hrr; omega
        clear hrr
        go_wp2_with fail
        go_ret
        exact ⟨by simp, (by repeat' (first | (with_reducible exact Ext.refl _) | (with_reducible assumption) | (with_reducible refine Ext.alloc ?_ _) | (with_reducible refine Ext.drewN ?_ _) | (with_reducible refine Ext.drew ?_) | (with_reducible refine Ext.trans ?_ (by assumption))))⟩
      · have h8 : (k : Int) ≤ 8 := by simp at hrr; omega
        clear hrr
        go_wp2_with fail
        go_ret
        exact ⟨by simp, (by repeat' (first | (with_reducible exact Ext.refl _) | (with_reducible assumption) | (with_reducible refine Ext.alloc ?_ _) | (with_reducible refine Ext.drewN ?_ _) | (with_reducible refine Ext.drew ?_) | (with_reducible refine Ext.trans ?_ (by assumption))))⟩
end Go.Proofs.Ytpmfadepinmmjaa
