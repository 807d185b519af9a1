/-
  part.Cache: Add, All, Len. No condition but that the cache lies in memory.
-/
import Derived.Test.YtpmfadepinmmjaaPart
namespace Go.Proofs.Ytpmfadepinmmjaa
open Go.RowKit

theorem lst_last {L : List Nat} (h : L ≠ []) (p : Int) : lst p L = ((L.getLastD 0 : Nat) : Int) := by
  rcases lst_nat L p with ⟨e, _⟩ | ⟨L0, c, e, h2⟩
  · exact absurd e h
  · rw [h2, e]; simp
/-- all lists, one behind the other -/
def flatP (Ls : List (List Nat)) : Nat → List Nat
  | 0 => []
  | n + 1 => flatP Ls n ++ Ls.getD n []
section
variable (pc pp bs be t : Nat) (bl : Int) (c : Nat → Nat) (n : Nat) (F : Nat → Nat → Int) (L : Nat → Bool) (M : List Nat) (Ls : List (List Nat)) (w : World) (h : PartAt w pc pp bs be t bl c n F L M Ls)
include h
theorem flat_len (k : Nat) (hk : k ≤ n) : (flatP Ls k).length ≤ k * 64 := by
  obtain ⟨A, E, h1, h2⟩ := h.space
  induction k with
  | zero => exact Nat.zero_le _
  | succ k ih =>
    rw [flatP, List.length_append]
    have := ih (by omega)
    have := h2.len (l := k) (by rw [h.ok.len]; omega)
    omega
set_option maxHeartbeats 2000000 in
theorem pall : Calls Try.prog 12 #[.pointer (some ⟨pc, 0, none⟩)] w fun e w' => ∃ v, e = .returned v ∧ OwnI .i64 3 w.heap.size w' v (asInts (flatP Ls n)) ∧ Ext w w' := by
  have hn := h.pl.ok.2.2
  have c0 := h.c0
  have c1 := h.c1
  have HKP := Lib.hid (kparts pp bl c n F L M w h.pl)
  have H := Lib.hid h
  have hni : (n : Int) ≤ 8 := by omega
  have HLN := Lib.hid h.ok.len
  have HFL := Lib.hid (flat_len pc pp bs be t bl c n F L M Ls w h)
  clear h
  go_enter Try.func12, Try.ntmps12
  go_wp2_with fail
  refine HKP.out.mono ?_
  rintro e w1 ⟨v1, rfl, hr, _, hx1⟩
  obtain ⟨a1, cp1, rfl, _⟩ := hr
  go_wp2_with fail
  go_loopw [3, 13] (fun cv ci wr => ∃ k : Nat, k ≤ n ∧ ci = .int .i64 k ∧ Hid (OwnI .i64 3 w.heap.size wr cv (asInts (flatP Ls k))) ∧ Ext w wr) (fun _ ci _ => n - (intOf ci).toNat)
  case atStart => exact ⟨0, Nat.zero_le _, rfl, Lib.hid (OwnI.nil _ _ _ _), hx1⟩
  case round =>
    obtain ⟨k, hk, rfl, HO, hx⟩ := hrel
    by_cases hlt : k < n
    · have hki : (k : Int) < (n : Int) := by omega
      have z0 := hx.cellv c0
      have HA := Lib.hid (all_in bs be Ls k wr (H.out.space.ext hx) (by rw [HLN.out]; omega))
      go_wp2_with fail
      refine HA.out.mono ?_
      rintro e w2 ⟨v2, rfl, ho2, hx2⟩
      have HO2 := Lib.hid ho2.rd
      have hfl := HFL.out (k + 1) (by omega)
      have hl2 : (asInts (flatP Ls k)).length + (asInts (Ls.getD k [])).length ≤ 600 := by
        rw [flatP, List.length_append] at hfl
        simp only [asInts, List.length_map]
        omega
      have hcat : asInts (flatP Ls (k + 1)) = asInts (flatP Ls k) ++ asInts (Ls.getD k []) := by unfold asInts; rw [flatP, List.map_append]
      obtain ⟨G, hG⟩ : ∃ G, G = Ls.getD k [] := ⟨_, rfl⟩
      rw [← hG] at HO2 hl2 hcat
      have HL2 := Lib.hid hl2
      have HCAT := Lib.hid hcat
      clear ho2 hfl hl2 hcat HA hG
      go_wp2_with (at_builtin; refine wpList_append_ints rfl _ _ 41 rfl 3 .i64 0 8 Try.underlying41 kints_info (by decide) w (hx.trans hx2) _ _ rfl (HO.out.ext hx2) _ _ rfl HO2.out (fits_small (Nat.le_trans HL2.out (by omega))) ?_)
      intro v3 w3 ho3 hx3
      rw [← HCAT.out] at ho3
      have HO3 := Lib.hid ho3
      clear ho3
      go_wp2_with fail
      go_roundw
      case rel => exact ⟨k + 1, by omega, by go_num, HO3, hx3⟩
      case measure => simp [intOf]; omega
    · obtain rfl : k = n := by omega
      go_wp2_with fail
      go_ret
      exact ⟨_, rfl, HO.out, hx⟩
theorem plen : Calls Try.prog 16 #[.pointer (some ⟨pc, 0, none⟩)] w fun e w' => e = .returned (.int .i64 ((flatP Ls n).length : Nat)) ∧ Ext w w' := by
  have HA := Lib.hid (pall pc pp bs be t bl c n F L M Ls w h)
  clear h
  go_enter Try.func16, Try.ntmps16
  go_wp2_with fail
  refine HA.out.mono ?_
  rintro e w1 ⟨v1, rfl, ho, hx1⟩
  obtain ⟨a1, c1, rfl, _⟩ := ho.rd.parts
  have hl : (asInts (flatP Ls n)).length = (flatP Ls n).length := by simp [asInts]
  have HL := Lib.hid hl
  clear ho hl
  go_wp2_with fail
  go_ret
  exact ⟨ret_int (by rw [HL.out]), hx1⟩
set_option maxHeartbeats 1000000 in
theorem pgoes (b : Int) (x : Nat) (hr : RngB n F b true x) (hne : Ls.getD x [] ≠ []) : Calls Try.prog 30 #[.pointer (some ⟨pc, 0, none⟩), .int .i64 (x : Nat), .int .i64 b] w fun e w' => e = .returned (.int .i64 (vicP (L x) (Ls.getD x []) : Nat)) ∧ Ext w w' := by
  have c0 := h.c0
  have c1 := h.c1
  have hxn : x < n := by
    rcases hr with ⟨a, _⟩ | ⟨_, a, _⟩
    · cases a
    · exact a
  have hok : okL Ls x := ⟨by omega, by rw [h.ok.len]; omega⟩
  have hlast : lastI Ls x = ((((Ls.getD x []).getLastD 0 : Nat) : Int), true) := by unfold lastI; rw [if_pos hok, Int.toNat_natCast, if_neg hne, lst_last hne]
  have hfirst : firstI Ls x = ((((Ls.getD x []).headD 0 : Nat) : Int), true) := by
    unfold firstI
    rw [if_pos hok, Int.toNat_natCast]
    cases e : Ls.getD x [] with
    | nil => exact absurd e hne
    | cons a l => rfl
  have HLA := Lib.hid (fun w' (hx : Ext w w') => last_any bs be Ls x w' (h.space.ext hx))
  have HFI := Lib.hid (fun w' (hx : Ext w w') => first_any bs be Ls x w' (h.space.ext hx))
  rw [hlast] at HLA
  rw [hfirst] at HFI
  have HLP := Lib.hid (fun w' (hx : Ext w w') => kloop pp bl c n F L M w' (h.pl.ext hx) b true x hr)
  have HV : Hid (∀ l, L x = l → vicP (L x) (Ls.getD x []) = if l then (Ls.getD x []).headD 0 else (Ls.getD x []).getLastD 0) := Lib.hid (fun l hl => by rw [hl]; rfl)
  obtain ⟨hd', hhd⟩ : ∃ y, y = (Ls.getD x []).headD 0 := ⟨_, rfl⟩
  obtain ⟨la, hla⟩ : ∃ y, y = (Ls.getD x []).getLastD 0 := ⟨_, rfl⟩
  rw [← hhd] at HFI HV
  rw [← hla] at HLA HV
  have hll : ∃ l, L x = l := ⟨_, rfl⟩
  obtain ⟨l, hl⟩ := hll
  have HV2 := Lib.hid (HV.out l hl)
  rw [hl] at HLP
  rw [HV2.out]
  clear h hr hok hlast hfirst hhd hla hne HV hl HV2
  cases l with
  | true =>
    go_enter Try.func30, Try.ntmps30
    go_wp2_with fail
    refine (HLA.out _ (by repeat' (first | (with_reducible exact Ext.refl _) | (with_reducible assumption) | (with_reducible refine Ext.alloc ?_ _) | (with_reducible refine Ext.drewN ?_ _) | (with_reducible refine Ext.drew ?_) | (with_reducible refine Ext.trans ?_ (by assumption))))).mono ?_
    rintro e w1 ⟨rfl, rfl⟩
    go_wp2_with fail
    refine (HLP.out _ (by repeat' (first | (with_reducible exact Ext.refl _) | (with_reducible assumption) | (with_reducible refine Ext.alloc ?_ _) | (with_reducible refine Ext.drewN ?_ _) | (with_reducible refine Ext.drew ?_) | (with_reducible refine Ext.trans ?_ (by assumption))))).mono ?_
    rintro e w2 ⟨rfl, hx2⟩
    have c0 := hx2.cellv c0
    go_wp2_with fail
    refine (HFI.out _ (by repeat' (first | (with_reducible exact Ext.refl _) | (with_reducible assumption) | (with_reducible refine Ext.alloc ?_ _) | (with_reducible refine Ext.drewN ?_ _) | (with_reducible refine Ext.drew ?_) | (with_reducible refine Ext.trans ?_ (by assumption))))).mono ?_
    rintro e w3 ⟨rfl, rfl⟩
    go_wp2_with fail
    go_ret
    exact ⟨rfl, (by repeat' (first | (with_reducible exact Ext.refl _) | (with_reducible assumption) | (with_reducible refine Ext.alloc ?_ _) | (with_reducible refine Ext.drewN ?_ _) | (with_reducible refine Ext.drew ?_) | (with_reducible refine Ext.trans ?_ (by assumption))))⟩
  | false =>
    go_enter Try.func30, Try.ntmps30
    go_wp2_with fail
    refine (HLA.out _ (by repeat' (first | (with_reducible exact Ext.refl _) | (with_reducible assumption) | (with_reducible refine Ext.alloc ?_ _) | (with_reducible refine Ext.drewN ?_ _) | (with_reducible refine Ext.drew ?_) | (with_reducible refine Ext.trans ?_ (by assumption))))).mono ?_
    rintro e w1 ⟨rfl, rfl⟩
    go_wp2_with fail
    refine (HLP.out _ (by repeat' (first | (with_reducible exact Ext.refl _) | (with_reducible assumption) | (with_reducible refine Ext.alloc ?_ _) | (with_reducible refine Ext.drewN ?_ _) | (with_reducible refine Ext.drew ?_) | (with_reducible refine Ext.trans ?_ (by assumption))))).mono ?_
    rintro e w2 ⟨rfl, hx2⟩
    go_wp2_with fail
    go_ret
    exact ⟨rfl, (by repeat' (first | (with_reducible exact Ext.refl _) | (with_reducible assumption) | (with_reducible refine Ext.alloc ?_ _) | (with_reducible refine Ext.drewN ?_ _) | (with_reducible refine Ext.drew ?_) | (with_reducible refine Ext.trans ?_ (by assumption))))⟩
end
end Go.Proofs.Ytpmfadepinmmjaa
