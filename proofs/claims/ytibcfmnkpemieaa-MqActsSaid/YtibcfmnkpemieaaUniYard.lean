/-
  uni.Stack.Yardstick and next. No condition but that the stack lies in memory.
-/
import Derived.Test.YtibcfmnkpemieaaUniSet
namespace Go.Proofs.Ytibcfmnkpemieaa
open Go.RowKit

section
variable (pu bs be : Nat) (caps : Nat → Nat) (M : List Nat) (lv : Nat → Nat) (w : World) (h : UniAt w pu bs be caps M lv)
include h
theorem uyard_none (l : Int) (hn : ¬ (1 ≤ l ∧ l < 4) ∨ cntU M lv l.toNat = 0) :
    Calls Try.prog 27 #[.pointer (some ⟨pu, 0, none⟩), .int .i64 l] w fun e w' => e = .returned (.tuple #[.int .i64 0, .bool false]) ∧ w = w' := by
  by_cases h1 : 1 ≤ l
  · by_cases h4 : l < 4
    · have h0 : cntU M lv l.toNat = 0 := by rcases hn with hn | hn; exact absurd ⟨h1, h4⟩ hn; exact hn
      obtain ⟨k, rfl⟩ := Int.eq_ofNat_of_zero_le (show 0 ≤ l by omega)
      have c1 := h.cnt (l := k) (by omega) (by omega)
      rw [Int.toNat_natCast] at h0
      rw [h0] at c1
      clear hn h0 h
      go_enter Try.func27, Try.ntmps27
      go_wp2_with fail
      go_ret2
      exact ⟨rfl, rfl⟩
    · have h5 : 4 ≤ l := by omega
      clear hn h h4
      go_enter Try.func27, Try.ntmps27
      go_wp2_with fail
      go_ret2
      exact ⟨rfl, rfl⟩
  · have h5 : l < 1 := by omega
    clear hn h h1
    go_enter Try.func27, Try.ntmps27
    go_wp2_with fail
    go_ret2
    exact ⟨rfl, rfl⟩
theorem uyard_some (k : Nat) (k1 : 1 ≤ k) (k4 : k < 4) (hk : 0 < cntU M lv k) :
    Calls Try.prog 27 #[.pointer (some ⟨pu, 0, none⟩), .int .i64 k] w fun e w' => e = .returned (.tuple #[.int .i64 (yardU M lv k), .bool true]) ∧ Ext w w' := by
  have c0 := h.obj.c0
  have c1 := h.cnt k1 (by omega)
  have hki : (1 : Int) ≤ (k : Int) := by omega
  have hki4 : (k : Int) < 4 := by omega
  have hc0 : (((cntU M lv k : Nat) : Int) == 0) = false := by rw [beq_eq_false_iff_ne]; omega
  obtain ⟨y, hy⟩ : ∃ y, yardU M lv k = y := ⟨_, rfl⟩
  have HY := Lib.hid hy
  have hex := Lib.hid (cntU_pos.1 hk)
  have hl64 := h.len
  have HL := Lib.hid (fun b (hb : b < 64) => h.obj.lev hb)
  have HLT := Lib.hid h.stk.lt
  have HS := Lib.hid h.space
  rw [hy]
  generalize cntU M lv k = cn at c1 hc0
  clear hk hy h
  go_enter Try.func27, Try.ntmps27
  go_wp2_with fail
  refine (all_any bs be [M] 0 _ HS.out).mono ?_
  rintro e w1 ⟨v, rfl, ho, hx⟩
  rw [all_one] at ho
  obtain ⟨a, c, rfl, hlc, hm, _, hcell⟩ := ho.rd.parts
  have hlen : (asInts M).length = M.length := by simp [asInts]
  have hne : asInts M ≠ [] := by
    obtain ⟨b, hb, _⟩ := hex.out
    intro e
    have e2 : M = [] := (by simpa [asInts] using e)
    subst e2
    cases hb
  obtain ⟨g, o, rfl, hg, hcc⟩ := hcell hne
  have HC := Lib.hid hcc
  rw [hlen] at *
  clear hcell hcc ho hne
  have hMi : (M.length : Int) ≤ 64 := by omega
  go_wp2_with fail
  go_loopw [7] (fun ci wr => ∃ P T : List Nat, M = P ++ T ∧ (∀ x ∈ T, lv x ≠ k) ∧ ci = .int .i64 ((P.length : Int) - 1) ∧ Ext w1 wr) (fun ci _ => (intOf ci).toNat)
  case atStart => exact ⟨M, [], by simp, by simp, by go_num, Ext.refl _⟩
  case round =>
    obtain ⟨P, T, hM, hT, rfl, hxr⟩ := hrel
    obtain ⟨P', b, rfl⟩ : ∃ P' b, P = P' ++ [b] := by
      rcases List.eq_nil_or_concat P with rfl | ⟨P', b, rfl⟩
      · exfalso
        obtain ⟨b, hb, hbl⟩ := hex.out
        rw [hM] at hb
        exact hT b (by simpa using hb) hbl
      · exact ⟨P', b, by simp⟩
    have e1 : (((P' ++ [b]).length : Nat) : Int) - 1 = (P'.length : Int) := by simp
    rw [e1]
    have hMl : M.length = P'.length + 1 + T.length := by rw [hM]; simp; omega
    have hb : b ∈ M := by rw [hM]; simp
    have hb64 : b < 64 := HLT.out b hb
    have x1 : wr.cell? ⟨g, o + P'.length, none⟩ = some (.int .i64 b) := by
      refine hxr.cellv ?_
      rw [HC.out P'.length (by omega), hM]
      have : (asInts (P' ++ [b] ++ T)).getD P'.length 0 = (b : Int) := by simp [asInts, List.getD]
      rw [this]
    have x2 : wr.cell? ⟨pu, 5 + b, none⟩ = some (.int .i64 (lv b)) := (hx.trans hxr).cellv (HL.out b hb64)
    have hbi : (b : Int) < 64 := by omega
    have hPi : (P'.length : Int) < (M.length : Int) := by omega
    have hPn : P'.length < M.length := by omega
    by_cases hlb : lv b = k
    · have hyb : y = b := by rw [← HY.out, hM, List.append_assoc]; exact yard_at hlb hT
      rw [hlb] at x2
      clear hM hT e1 hMl hb HC
      subst hyb
      go_wp2_with fail
      go_quiet (fail)
      go_wp2_with fail
      go_ret2
      exact ⟨rfl, (by repeat' (first | (with_reducible exact Ext.refl _) | (with_reducible assumption) | (with_reducible refine Ext.alloc ?_ _) | (with_reducible refine Ext.drewN ?_ _) | (with_reducible refine Ext.drew ?_) | (with_reducible refine Ext.trans ?_ (by assumption))))⟩
    · have hlbi : ((lv b : Int) == (k : Int)) = false := by rw [beq_eq_false_iff_ne]; omega
      have hPos : 0 < P'.length := by
        obtain ⟨z, hz, hzl⟩ := hex.out
        rw [hM] at hz
        rcases List.mem_append.1 hz with hz | hz
        · rcases List.mem_append.1 hz with hz | hz
          · exact List.length_pos_of_mem hz
          · simp at hz; subst hz; exact absurd hzl hlb
        · exact absurd hzl (hT z hz)
      have HT := Lib.hid hT
      have HM := Lib.hid hM
      have HB := Lib.hid hlb
      clear hM hT e1 hMl hb hlb HC
      go_wp2_with fail
      go_quiet (fail)
      go_wp2_with fail
      go_roundw
      case rel => exact ⟨P', b :: T, by rw [HM.out]; simp, (by intro x hxm; rcases List.mem_cons.1 hxm with rfl | hxm; exact HB.out; exact HT.out x hxm), by go_num, (by repeat' (first | (with_reducible exact Ext.refl _) | (with_reducible assumption) | (with_reducible refine Ext.alloc ?_ _) | (with_reducible refine Ext.drewN ?_ _) | (with_reducible refine Ext.drew ?_) | (with_reducible refine Ext.trans ?_ (by assumption))))⟩
      case measure => simp [intOf]; omega
end

theorem nextU_at {caps : Nat → Nat} {M : List Nat} {lv : Nat → Nat} {b j : Nat} (j1 : 1 ≤ j) (j4 : j < 4) (hf : ∀ i, 1 ≤ i → i < j → nextOk caps M lv b i = false) (ht : nextOk caps M lv b j = true) : nextU caps M lv b = j := by
  unfold nextU
  by_cases e1 : j = 1
  · subst e1; rw [if_pos ht]
  · rw [if_neg (by rw [hf 1 (by omega) (by omega)]; simp)]
    by_cases e2 : j = 2
    · subst e2; rw [if_pos ht]
    · rw [if_neg (by rw [hf 2 (by omega) (by omega)]; simp)]
      have e3 : j = 3 := by omega
      subst e3; rw [if_pos ht]
theorem nextU_out {caps : Nat → Nat} {M : List Nat} {lv : Nat → Nat} {b : Nat} (hf : ∀ i, 1 ≤ i → i < 4 → nextOk caps M lv b i = false) : nextU caps M lv b = 4 := by
  unfold nextU
  rw [if_neg (by rw [hf 1 (by omega) (by omega)]; simp), if_neg (by rw [hf 2 (by omega) (by omega)]; simp), if_neg (by rw [hf 3 (by omega) (by omega)]; simp)]
theorem false_snoc {f : Nat → Bool} {j : Nat} (h : ∀ i, 1 ≤ i → i < j → f i = false) (hj : f j = false) : ∀ i, 1 ≤ i → i < j + 1 → f i = false := by
  intro i i1 i2
  by_cases e : i = j
  · subst e; exact hj
  · exact h i i1 (by omega)
theorem ahd_one {M : List Nat} {n a y : Nat} (h : Held n M) (ha : a ∈ M) (hy : y ∈ M) : ahdI [M] a y = decide (a ∈ preL M y) := by
  unfold ahdI
  rw [of_one h, of_one h]
  have h1 : (a : Int) ∈ asInts M := mem_asInts.2 ⟨by omega, by simpa using ha⟩
  have h2 : (y : Int) ∈ asInts M := mem_asInts.2 ⟨by omega, by simpa using hy⟩
  simp [h1, h2]

section
variable (pu bs be : Nat) (caps : Nat → Nat) (M : List Nat) (lv : Nat → Nat) (w : World) (h : UniAt w pu bs be caps M lv)
include h
theorem unext (b : Nat) (hb : b < 64) :
    Calls Try.prog 51 #[.pointer (some ⟨pu, 0, none⟩), .int .i64 b] w fun e w' => e = .returned (.int .i64 (nextU caps M lv b)) ∧ Ext w w' := by
  have c0 := h.obj.c0
  have cb := h.obj.lev hb
  have hbi : (b : Int) < 64 := by omega
  have HU := Lib.hid h
  obtain ⟨r, hr⟩ : ∃ r, nextU caps M lv b = r := ⟨_, rfl⟩
  have HR := Lib.hid hr
  rw [hr]
  clear hr
  by_cases hz : lv b = 0
  · have HZ := Lib.hid hz
    rw [hz] at cb
    clear h hz
    go_enter Try.func51, Try.ntmps51
    go_wp2_with fail
    go_loopw [5] (fun ci wr => ∃ j : Nat, 1 ≤ j ∧ j ≤ 4 ∧ ci = .int .i64 j ∧ (∀ i, 1 ≤ i → i < j → nextOk caps M lv b i = false) ∧ Ext w wr) (fun ci _ => 4 - (intOf ci).toNat)
    case atStart => exact ⟨1, by omega, by omega, rfl, fun i i1 i2 => by omega, Ext.refl _⟩
    case round =>
      obtain ⟨j, j1, j4, rfl, hf, hx⟩ := hrel
      have HF := Lib.hid hf
      clear hf
      have x0 := hx.cellv cb
      by_cases hj : j < 4
      · have x1 := hx.cellv (HU.out.cnt (l := j) (by omega) (by omega))
        have x2 := hx.cellv (HU.out.obj.cap (l := j) (by omega))
        have hj0 : (0 : Int) ≤ (j : Int) := by omega
        have hji : (j : Int) < 4 := by omega
        have hj5 : (j : Int) < 5 := by omega
        by_cases hc : cntU M lv j < caps j
        · have hok : nextOk caps M lv b j = true := by unfold nextOk; rw [if_pos HZ.out]; simpa using hc
          have hci : (cntU M lv j : Int) < (caps j : Int) := by omega
          have HO := Lib.hid hok
          clear hok hc
          go_wp2_with fail
          go_quiet (fail)
          go_wp2_with fail
          go_ret
          have e := nextU_at j1 hj HF.out HO.out
          rw [HR.out] at e
          exact ⟨by rw [e]; rfl, (by repeat' (first | (with_reducible exact Ext.refl _) | (with_reducible assumption) | (with_reducible refine Ext.alloc ?_ _) | (with_reducible refine Ext.drewN ?_ _) | (with_reducible refine Ext.drew ?_) | (with_reducible refine Ext.trans ?_ (by assumption))))⟩
        · have hok : nextOk caps M lv b j = false := by unfold nextOk; rw [if_pos HZ.out]; simpa using hc
          have hci : ¬ (cntU M lv j : Int) < (caps j : Int) := by omega
          have HO := Lib.hid hok
          clear hok hc
          go_wp2_with fail
          go_quiet (fail)
          go_wp2_with fail
          go_roundw
          case rel => exact ⟨j + 1, by omega, by omega, by go_num, false_snoc HF.out HO.out, (by repeat' (first | (with_reducible exact Ext.refl _) | (with_reducible assumption) | (with_reducible refine Ext.alloc ?_ _) | (with_reducible refine Ext.drewN ?_ _) | (with_reducible refine Ext.drew ?_) | (with_reducible refine Ext.trans ?_ (by assumption))))⟩
          case measure => simp [intOf]; omega
      · obtain rfl : j = 4 := by omega
        go_wp2_with fail
        go_ret
        have e := nextU_out HF.out
        rw [HR.out] at e
        exact ⟨by rw [e]; rfl, (by repeat' (first | (with_reducible exact Ext.refl _) | (with_reducible assumption) | (with_reducible refine Ext.alloc ?_ _) | (with_reducible refine Ext.drewN ?_ _) | (with_reducible refine Ext.drew ?_) | (with_reducible refine Ext.trans ?_ (by assumption))))⟩
  · have HZ := Lib.hid hz
    have hzi : ((lv b : Int) == 0) = false := by rw [beq_eq_false_iff_ne]; omega
    have HM := Lib.hid ((h.stk.mem b).2 hz)
    have HH := Lib.hid (space_held h.space)
    clear h hz
    go_enter Try.func51, Try.ntmps51
    go_wp2_with fail
    go_loopw [5] (fun ci wr => ∃ j : Nat, 1 ≤ j ∧ j ≤ 4 ∧ ci = .int .i64 j ∧ (∀ i, 1 ≤ i → i < j → nextOk caps M lv b i = false) ∧ Ext w wr) (fun ci _ => 4 - (intOf ci).toNat)
    case atStart => exact ⟨1, by omega, by omega, rfl, fun i i1 i2 => by omega, Ext.refl _⟩
    case round =>
      obtain ⟨j, j1, j4, rfl, hf, hx⟩ := hrel
      have HF := Lib.hid hf
      clear hf
      have x0 := hx.cellv cb
      by_cases hj : j < 4
      · have hj0 : (0 : Int) ≤ (j : Int) := by omega
        have hji : (j : Int) < 4 := by omega
        by_cases hc : cntU M lv j = 0
        · have hok : nextOk caps M lv b j = false := by unfold nextOk; rw [if_neg HZ.out, hc]; simp
          have HO := Lib.hid hok
          have HC := Lib.hid hc
          clear hok hc
          go_wp2_with fail
          refine (uyard_none pu bs be caps M lv _ (HU.out.ext (by repeat' (first | (with_reducible exact Ext.refl _) | (with_reducible assumption) | (with_reducible refine Ext.alloc ?_ _) | (with_reducible refine Ext.drewN ?_ _) | (with_reducible refine Ext.drew ?_) | (with_reducible refine Ext.trans ?_ (by assumption))))) j (.inr (by rw [Int.toNat_natCast]; exact HC.out))).mono ?_
          rintro e w3 ⟨rfl, rfl⟩
          go_wp2_with fail
          go_roundw
          case rel => exact ⟨j + 1, by omega, by omega, by go_num, false_snoc HF.out HO.out, (by repeat' (first | (with_reducible exact Ext.refl _) | (with_reducible assumption) | (with_reducible refine Ext.alloc ?_ _) | (with_reducible refine Ext.drewN ?_ _) | (with_reducible refine Ext.drew ?_) | (with_reducible refine Ext.trans ?_ (by assumption))))⟩
          case measure => simp [intOf]; omega
        · have hc1 : 0 < cntU M lv j := by omega
          obtain ⟨y, hy⟩ : ∃ y, yardU M lv j = y := ⟨_, rfl⟩
          have hym : y ∈ M := by rw [← hy]; exact (yard_mem hc1).1
          have hok : nextOk caps M lv b j = (y == b || decide (b ∈ preL M y)) := by unfold nextOk abovU; rw [if_neg HZ.out, hy]; simp [hc1]
          have hah := ahd_one HH.out HM.out hym
          have HO := Lib.hid hok
          have HC := Lib.hid hc1
          have HY := Lib.hid hy
          have HA := Lib.hid hah
          clear hok hc hc1 hy hym hah
          by_cases hyb : y = b
          · have hok2 := HO.out
            rw [hyb] at hok2
            simp only [BEq.rfl, Bool.true_or] at hok2
            have HO2 := Lib.hid hok2
            clear hok2
            go_wp2_with fail
            refine (uyard_some pu bs be caps M lv _ (HU.out.ext (by repeat' (first | (with_reducible exact Ext.refl _) | (with_reducible assumption) | (with_reducible refine Ext.alloc ?_ _) | (with_reducible refine Ext.drewN ?_ _) | (with_reducible refine Ext.drew ?_) | (with_reducible refine Ext.trans ?_ (by assumption))))) j j1 hj HC.out).mono ?_
            rintro e w3 ⟨rfl, hx3⟩
            rw [HY.out, hyb]
            go_wp2_with fail
            go_ret
            have e := nextU_at j1 hj HF.out HO2.out
            rw [HR.out] at e
            exact ⟨by rw [e]; rfl, (by repeat' (first | (with_reducible exact Ext.refl _) | (with_reducible assumption) | (with_reducible refine Ext.alloc ?_ _) | (with_reducible refine Ext.drewN ?_ _) | (with_reducible refine Ext.drew ?_) | (with_reducible refine Ext.trans ?_ (by assumption))))⟩
          · have hyb' : (y == b) = false := by simpa using hyb
            have hybi : ((y : Int) == (b : Int)) = false := by rw [beq_eq_false_iff_ne]; omega
            have hok2 := HO.out
            rw [hyb', Bool.false_or] at hok2
            obtain ⟨q, hq⟩ : ∃ q, decide (b ∈ preL M y) = q := ⟨_, rfl⟩
            rw [hq] at hok2
            have HO2 := Lib.hid hok2
            have HQ := Lib.hid hq
            clear hok2 hq hyb hyb'
            go_wp2_with fail
            refine (uyard_some pu bs be caps M lv _ (HU.out.ext (by repeat' (first | (with_reducible exact Ext.refl _) | (with_reducible assumption) | (with_reducible refine Ext.alloc ?_ _) | (with_reducible refine Ext.drewN ?_ _) | (with_reducible refine Ext.drew ?_) | (with_reducible refine Ext.trans ?_ (by assumption))))) j j1 hj HC.out).mono ?_
            rintro e w3 ⟨rfl, hx3⟩
            rw [HY.out]
            have x4 := hx3.cellv (hx.cellv c0)
            go_wp2_with fail
            refine (ahead_any bs be [M] b y _ ((HU.out.ext (by repeat' (first | (with_reducible exact Ext.refl _) | (with_reducible assumption) | (with_reducible refine Ext.alloc ?_ _) | (with_reducible refine Ext.drewN ?_ _) | (with_reducible refine Ext.drew ?_) | (with_reducible refine Ext.trans ?_ (by assumption))))).space)).mono ?_
            rintro e w4 ⟨rfl, rfl⟩
            rw [HA.out, HQ.out]
            cases q
            · go_wp2_with fail
              go_roundw
              case rel => exact ⟨j + 1, by omega, by omega, by go_num, false_snoc HF.out HO2.out, (by repeat' (first | (with_reducible exact Ext.refl _) | (with_reducible assumption) | (with_reducible refine Ext.alloc ?_ _) | (with_reducible refine Ext.drewN ?_ _) | (with_reducible refine Ext.drew ?_) | (with_reducible refine Ext.trans ?_ (by assumption))))⟩
              case measure => simp [intOf]; omega
            · go_wp2_with fail
              go_ret
              have e := nextU_at j1 hj HF.out HO2.out
              rw [HR.out] at e
              exact ⟨by rw [e]; rfl, (by repeat' (first | (with_reducible exact Ext.refl _) | (with_reducible assumption) | (with_reducible refine Ext.alloc ?_ _) | (with_reducible refine Ext.drewN ?_ _) | (with_reducible refine Ext.drew ?_) | (with_reducible refine Ext.trans ?_ (by assumption))))⟩
      · obtain rfl : j = 4 := by omega
        go_wp2_with fail
        go_ret
        have e := nextU_out HF.out
        rw [HR.out] at e
        exact ⟨by rw [e]; rfl, (by repeat' (first | (with_reducible exact Ext.refl _) | (with_reducible assumption) | (with_reducible refine Ext.alloc ?_ _) | (with_reducible refine Ext.drewN ?_ _) | (with_reducible refine Ext.drew ?_) | (with_reducible refine Ext.trans ?_ (by assumption))))⟩
end
end Go.Proofs.Ytibcfmnkpemieaa
