/-
  gradinelaw05.SectorFuse answers true. No condition.
-/
import Derived.Test.YtfnooojgkdjifaaDiskWakes
import Derived.Test.YtfnooojgkdjifaaFrame
import Derived.Test.YtfnooojgkdjifaaSame
namespace Go.Proofs.Ytfnooojgkdjifaa
open Go.RowKit

theorem u8_bd' {n : Int} (h : (Lit.int .u8 n).wf = true) : 0 ≤ n ∧ n ≤ 255 := by
  simpa [Lit.wf, IntKind.min, IntKind.max, IntKind.signed, IntKind.bits] using h

/-- a disk with a fuse of n, behind k writes -/
def burnt (n k : Nat) (rows : List (List Int)) : Dk := ⟨max ((n : Int) - k) 0, decide (n < k), rows⟩
theorem burnt_bad {n k : Nat} {rows : List (List Int)} {i : Int} {b : List Int} (hi : 0 ≤ i ∧ i < rows.length) (hb : b.length ≤ 64) : (burnt n k rows).bad i b = if k < n then 0 else 8 := by
  unfold burnt Dk.bad
  by_cases h : k < n
  · rw [if_neg (by simp; omega), if_pos hi, if_neg (by omega), if_neg (by simp; omega), if_pos h]
  · by_cases h2 : n < k
    · rw [if_pos (by simpa using h2), if_neg h]
    · rw [if_neg (by simp; omega), if_pos hi, if_neg (by omega), if_pos (by simp; omega), if_neg h]
theorem burnt_wr {n k : Nat} {rows : List (List Int)} {i : Int} {b : List Int} (hi : 0 ≤ i ∧ i < rows.length) (hb : b.length ≤ 64) :
    (burnt n k rows).wr i b = burnt n (k + 1) (if k < n then rows.set i.toNat b else rows) := by
  unfold Dk.wr
  rw [burnt_bad hi hb]
  by_cases h : k < n
  · rw [if_pos h, if_pos rfl, if_pos h]
    unfold burnt
    simp
    omega
  · rw [if_neg h, if_neg (by decide), if_pos rfl, if_neg h]
    unfold burnt
    simp
    omega

set_option maxHeartbeats 2000000 in
theorem walk_SectorFuse (v0 v1 : Value) (w : World) (h0 : IsInt .u8 v0) (h1 : IsInts .u8 w v1) :
    Calls Try.prog 4 #[v0, v1] w fun e w' => e = .returned (.bool true) ∧ Ext w w' := by
  obtain ⟨n, rfl, hn⟩ := h0
  obtain ⟨l, hr, hwf⟩ := h1
  obtain ⟨a, c, rfl, hlc, hcm, hnil, hsome⟩ := hr.parts
  have hl63 : (l.length : Int) ≤ 9223372036854775807 := by unfold maxLen at hcm; omega
  obtain ⟨n0, n255⟩ := u8_bd' hn
  obtain ⟨n, rfl⟩ : ∃ m : Nat, n = m := ⟨n.toNat, by omega⟩
  have HS := Lib.hid hsome
  have HW := Lib.hid (fun x hx => u8_bd' (hwf x hx))
  clear hsome hnil hlc hcm hn hr hwf
  by_cases hA : (100 : Int) < (l.length : Int)
  · obtain ⟨len, hlen⟩ : ∃ len, len = l.length := ⟨_, rfl⟩
    rw [← hlen] at hl63 hA ⊢
    clear hlen HS HW
    go_enter Try.func4, Try.ntmps4
    go_wp2_with fail
    refine (wakes05 _).mono ?_
    rintro e w1 ⟨rfl, hx1⟩
    go_wp2_with fail
    go_ret
    exact ⟨rfl, (by repeat' (first | (with_reducible exact Ext.refl _) | (with_reducible assumption) | (with_reducible refine Ext.alloc ?_ _) | (with_reducible refine Ext.drewN ?_ _) | (with_reducible refine Ext.drew ?_) | (with_reducible refine Ext.trans ?_ (by assumption))))⟩
  · obtain ⟨len, hlen⟩ : ∃ len, len = l.length := ⟨_, rfl⟩
    rw [← hlen] at hl63 hA ⊢
    have HL := Lib.hid hlen
    clear hlen
    go_enter Try.func4, Try.ntmps4
    go_wp2_with fail
    refine (wakes05 _).mono ?_
    rintro e w1 ⟨rfl, hx1⟩
    go_wp2_with fail
    refine (dnew_any 16 _ (by omega) (by omega)).mono ?_
    rintro e w2 ⟨p, bl, rfl, h2, hp, hb, hp1, hb1, hx2⟩
    have h2 := h2 [p, bl] (by simp) (by simp)
    have hS : ∀ s ∈ [p, bl], w.heap.size ≤ s := by have := hx1.size; simp; omega
    have hS1 : ∀ s ∈ [p], w.heap.size ≤ s := by have := hx1.size; simp; omega
    rw [show dskN 16 = 16 by decide] at h2
    go_wp2_with fail
    refine (dfuse_any _ p bl _ _ h2 n (by omega)).mono ?_
    rintro e w3 ⟨rfl, h3, hc3⟩
    have hz3 := hc3.size
    have hx3 : Ext w w3 := (hx1.trans hx2).chg hc3 hS1
    have hF3 : ∀ f ∈ [p, bl], f < w3.heap.size := by simp; omega
    have h3' : DiskAt w3 [p, bl] p bl (burnt n 0 (List.replicate 16 [])) := by
      have : (⟨-1, false, List.replicate 16 []⟩ : Dk).fuseTo n = burnt n 0 (List.replicate 16 []) := by
        unfold Dk.fuseTo burnt
        simp
        omega
      rwa [this] at h3
    have HC := Lib.hid hS
    clear h2 h3 hp hb hp1 hb1 hz3 hc3 hx1 hx2 hS hS1
    go_wp2_with fail
    go_loopw [23] (fun c wr => ∃ (k : Nat) (rows : List (List Int)), k ≤ len ∧ c = .int .i64 k ∧ rows.length = 16 ∧ DiskAt wr [p, bl] p bl (burnt n k rows) ∧ (∀ f ∈ [p, bl], f < wr.heap.size) ∧ Ext w wr) (fun c _ => len - (intOf c).toNat)
    case atStart => exact ⟨0, _, Nat.zero_le _, rfl, by simp, h3', hF3, hx3⟩
    case round =>
      obtain ⟨k, rows, hk, rfl, hrl, hd, hF, hx⟩ := hrel
      clear h3' hF3 hx3
      have HF := Lib.hid hF
      have HR := Lib.hid hrl
      clear hF hrl
      by_cases hlt : k < len
      · obtain ⟨b, o, rfl, hb, hcell⟩ := HS.out (by intro h; have := HL.out; subst h; simp at this; omega)
        have e1 := (hx.cell hb).trans (hcell k (by have := HL.out; omega))
        have hy := HW.out (l.getD k 0) (getD_mem (by have := HL.out; omega))
        generalize l.getD k 0 = y at *
        obtain ⟨y0, y255⟩ := hy
        have hki : (k : Int) < (len : Int) := by omega
        clear hcell
        have hi : 0 ≤ y % 16 ∧ y % 16 < (rows.length : Int) := by have := HR.out; omega
        have hi16 : y % 16 < 16 := by omega
        have hi0 : 0 ≤ y % 16 := by omega
        have HI := Lib.hid hi
        have hFx : ∀ f ∈ [p, bl], f < (wr.alloc (.cells #[Value.int .u8 (k : Int)] 5)).heap.size := fun f hf => by have := HF.out f hf; simp; omega
        have HFX := Lib.hid hFx
        clear hi hFx
        by_cases hkn : k < n
        · have hkn' : (k : Int) < (n : Int) := by omega
          go_wp2_with fail
          refine (dwrite_any _ p bl _ _ (hd.ext (by repeat' (first | (with_reducible exact Ext.refl _) | (with_reducible assumption) | (with_reducible refine Ext.alloc ?_ _) | (with_reducible refine Ext.drewN ?_ _) | (with_reducible refine Ext.drew ?_) | (with_reducible refine Ext.trans ?_ (by assumption))))) (y % 16) _ [(k : Int)] (RdI.one .u8 _ k _) HFX.out).mono ?_
          rintro e w4 ⟨rfl, h4, hc4⟩
          rw [burnt_bad HI.out (by simp), if_pos hkn]
          rw [burnt_wr HI.out (by simp), if_pos hkn] at h4
          have hz4 := hc4.size
          have hx4 : Ext w w4 := (hx.alloc _).chg hc4 HC.out
          have HHF : Hid (∀ f ∈ [p, bl], f < w4.heap.size) := Lib.hid (fun f hf => Nat.lt_of_lt_of_le (HFX.out f hf) hz4)
          have hrow : (burnt n (k + 1) (rows.set (y % 16).toNat [(k : Int)])).rows.getD (y % 16).toNat [] = [(k : Int)] := by
            have h1 : (y % 16).toNat < rows.length := by have := HR.out; omega
            show (rows.set (y % 16).toNat [(k : Int)]).getD (y % 16).toNat [] = [(k : Int)]
            simp [List.getD, h1]
          have HROW := Lib.hid hrow
          have hlr : (burnt n (k + 1) (rows.set (y % 16).toNat [(k : Int)])).rows.length = rows.length := by simp [burnt]
          have HLR := Lib.hid hlr
          clear hrow hlr hz4
          go_wp2_with fail
          refine (dread_any _ p bl _ _ h4 (y % 16) (by rw [HLR.out]; exact HI.out)).mono ?_
          rintro e w5 ⟨v5, rfl, ho5, hx5⟩
          rw [HROW.out] at ho5
          go_wp2_with fail
          refine (same_any v5 _ [(k : Int)] [(k : Int)] _ (ho5.rd.ext (by repeat' (first | (with_reducible exact Ext.refl _) | (with_reducible assumption) | (with_reducible refine Ext.alloc ?_ _) | (with_reducible refine Ext.drewN ?_ _) | (with_reducible refine Ext.drew ?_) | (with_reducible refine Ext.trans ?_ (by assumption))))) (RdI.one .u8 _ k _)).mono ?_
          rintro e w6 ⟨rfl, hx6⟩
          rw [show decide (([(k : Int)] : List Int) = [(k : Int)]) = true by simp]
          have HH4 := Lib.hid h4
          clear ho5 hd h4
          go_wp2_with fail
          go_roundw
          case rel => exact ⟨k + 1, _, by omega, by go_num, by rw [List.length_set]; exact HR.out, HH4.out.ext (by repeat' (first | (with_reducible exact Ext.refl _) | (with_reducible assumption) | (with_reducible refine Ext.alloc ?_ _) | (with_reducible refine Ext.drewN ?_ _) | (with_reducible refine Ext.drew ?_) | (with_reducible refine Ext.trans ?_ (by assumption)))), (fun f hf => Nat.lt_of_lt_of_le (HHF.out f hf) (Ext.size (w := w4) (by repeat' (first | (with_reducible exact Ext.refl _) | (with_reducible assumption) | (with_reducible refine Ext.alloc ?_ _) | (with_reducible refine Ext.drewN ?_ _) | (with_reducible refine Ext.drew ?_) | (with_reducible refine Ext.trans ?_ (by assumption)))))), (by repeat' (first | (with_reducible exact Ext.refl _) | (with_reducible assumption) | (with_reducible refine Ext.alloc ?_ _) | (with_reducible refine Ext.drewN ?_ _) | (with_reducible refine Ext.drew ?_) | (with_reducible refine Ext.trans ?_ (by assumption))))⟩
          case measure => simp [intOf]; omega
        · have hkn' : ¬ (k : Int) < (n : Int) := by omega
          go_wp2_with fail
          refine (dwrite_any _ p bl _ _ (hd.ext (by repeat' (first | (with_reducible exact Ext.refl _) | (with_reducible assumption) | (with_reducible refine Ext.alloc ?_ _) | (with_reducible refine Ext.drewN ?_ _) | (with_reducible refine Ext.drew ?_) | (with_reducible refine Ext.trans ?_ (by assumption))))) (y % 16) _ [(k : Int)] (RdI.one .u8 _ k _) HFX.out).mono ?_
          rintro e w4 ⟨rfl, h4, hc4⟩
          rw [burnt_bad HI.out (by simp), if_neg hkn]
          rw [burnt_wr HI.out (by simp), if_neg hkn] at h4
          have hz4 := hc4.size
          have hx4 : Ext w w4 := (hx.alloc _).chg hc4 HC.out
          have HHF : Hid (∀ f ∈ [p, bl], f < w4.heap.size) := Lib.hid (fun f hf => Nat.lt_of_lt_of_le (HFX.out f hf) hz4)
          clear hz4
          go_wp2_with fail
          refine (dread_any _ p bl _ _ h4 (y % 16) HI.out).mono ?_
          rintro e w5 ⟨v5, rfl, ho5, hx5⟩
          have HH4 := Lib.hid h4
          clear ho5 hd h4
          go_wp2_with fail
          go_roundw
          case rel => exact ⟨k + 1, _, by omega, by go_num, HR.out, HH4.out.ext (by repeat' (first | (with_reducible exact Ext.refl _) | (with_reducible assumption) | (with_reducible refine Ext.alloc ?_ _) | (with_reducible refine Ext.drewN ?_ _) | (with_reducible refine Ext.drew ?_) | (with_reducible refine Ext.trans ?_ (by assumption)))), (fun f hf => Nat.lt_of_lt_of_le (HHF.out f hf) (Ext.size (w := w4) (by repeat' (first | (with_reducible exact Ext.refl _) | (with_reducible assumption) | (with_reducible refine Ext.alloc ?_ _) | (with_reducible refine Ext.drewN ?_ _) | (with_reducible refine Ext.drew ?_) | (with_reducible refine Ext.trans ?_ (by assumption)))))), (by repeat' (first | (with_reducible exact Ext.refl _) | (with_reducible assumption) | (with_reducible refine Ext.alloc ?_ _) | (with_reducible refine Ext.drewN ?_ _) | (with_reducible refine Ext.drew ?_) | (with_reducible refine Ext.trans ?_ (by assumption))))⟩
          case measure => simp [intOf]; omega
      · obtain rfl : k = len := by omega
        go_wp2_with fail
        refine (dup_any _ p bl _ _ hd).mono ?_
        rintro e w4 ⟨rfl, h4, hc4⟩
        go_wp2_with fail
        refine (ddown_any _ p bl _ _ h4).mono ?_
        rintro e w5 ⟨rfl, rfl⟩
        go_wp2_with fail
        refine (dwrite_any _ p bl _ _ h4 3 _ [] (RdI.nil _ _) (fun f hf => Nat.lt_of_lt_of_le (HF.out f hf) hc4.size)).mono ?_
        rintro e w5 ⟨rfl, h5, hc5⟩
        rw [show Dk.bad ⟨-1, false, (burnt n k rows).rows⟩ 3 [] = 0 by unfold Dk.bad burnt; simp [HR.out]]
        go_wp2_with fail
        go_ret
        exact ⟨rfl, (hx.chg hc4 (fun s hs => HC.out s (by simp at hs; simp [hs]))).chg hc5 HC.out⟩
end Go.Proofs.Ytfnooojgkdjifaa
