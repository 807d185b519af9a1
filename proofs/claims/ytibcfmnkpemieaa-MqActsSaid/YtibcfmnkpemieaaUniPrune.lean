/-
  uni.Stack.prune: blocks that are out go from the bottom. No condition but that the stack lies in memory.
-/
import Derived.Test.YtibcfmnkpemieaaUniYard
namespace Go.Proofs.Ytibcfmnkpemieaa
open Go.RowKit

/-- how many blocks there are, as the stack's block tells -/
def cnt0 (pu : Nat) (w : World) : Nat := match w.cell? ⟨pu, 69, none⟩ with | some (.int _ z) => (-z).toNat | _ => 0
theorem UniAt.cnt0 {w : World} {pu bs be : Nat} {caps lv : Nat → Nat} {M : List Nat} (h : UniAt w pu bs be caps M lv) : cnt0 pu w = M.length := by
  have := h.obj.cnt (l := 0) (by omega)
  unfold Proofs.Ytibcfmnkpemieaa.cnt0
  rw [show (69 : Nat) = 69 + 0 from rfl, this]
  simp [cnU]
theorem last_none : lastI [[]] 0 = (0, false) := by simp [lastI, okL_one]
theorem pruneU_stop {k : Nat} {M : List Nat} {lv : Nat → Nat} (h : ¬ (M ≠ [] ∧ lv (lastU M) = 4)) : pruneU k M lv = (M, lv) := by
  cases k
  · rfl
  · unfold pruneU; rw [if_neg h]

/-- what Remove and set do to the last block -/
theorem UniAt.cut {w w1 w2 : World} {pu bs be : Nat} {caps lv : Nat → Nat} {M : List Nat} (h : UniAt w pu bs be caps M lv) (h0 : M ≠ [])
    (hs : SpaceAt w1 bs be [M.take (M.length - 1)]) (ho : UAt w2 pu bs caps (updN lv (lastU M) 0) (setCn lv (cnU M lv) (lastU M) 0)) (hc : Chg [pu] w1 w2) :
    UniAt w2 pu bs be caps (M.take (M.length - 1)) (updN lv (lastU M) 0) :=
  ⟨uat_congr ho (fun l _ => setCn_cut h.stk h0 l), h.n1, h.n2, hs.chg hc (by have := h.n1; simp; omega) (by have := h.n2; simp; omega), h.stk.cut h0⟩

set_option maxHeartbeats 1000000 in
theorem uprune (pu bs be : Nat) (caps : Nat → Nat) (M : List Nat) (lv : Nat → Nat) (w : World) (h : UniAt w pu bs be caps M lv) :
    Calls Try.prog 54 #[.pointer (some ⟨pu, 0, none⟩)] w fun e w' => e = .returned (.tuple #[]) ∧ UniAt w' pu bs be caps (pruneU M.length M lv).1 (pruneU M.length M lv).2 ∧ Chg [pu, bs, be] w w' := by
  obtain ⟨R, hR⟩ : ∃ R, pruneU M.length M lv = R := ⟨_, rfl⟩
  have HR := Lib.hid hR
  have HU := Lib.hid h
  rw [hR]
  clear hR h
  go_enter Try.func54, Try.ntmps54
  go_wp2_with fail
  go_loopw [] (fun wr => ∃ (M' : List Nat) (lv' : Nat → Nat), UniAt wr pu bs be caps M' lv' ∧ pruneU M'.length M' lv' = R ∧ Chg [pu, bs, be] w wr) (fun wr => cnt0 pu wr)
  case atStart => exact ⟨M, lv, HU.out, HR.out, Chg.refl _ _⟩
  case round =>
    obtain ⟨M', lv', hU, hP, hC⟩ := hrel
    have c0 := hU.obj.c0
    have HV := Lib.hid hU
    have HP := Lib.hid hP
    clear hP
    by_cases hne : M' = []
    · subst hne
      clear hU
      go_wp2_with fail
      refine (last_any bs be [[]] 0 _ HV.out.space).mono ?_
      rintro e w1 ⟨rfl, rfl⟩
      rw [last_none]
      go_wp2_with fail
      refine bodyPost_ret (results_none rfl _ _ _) rfl ?_
      have := HP.out
      rw [pruneU_stop (by simp)] at this
      rw [← this]
      exact ⟨rfl, HV.out, hC⟩
    · obtain ⟨hsp, hl0⟩ := lastU_split hne
      have hlast := last_one hne
      rw [hl0] at hlast
      have hbm : lastU M' ∈ M' := by have := List.mem_append_right (M'.take (M'.length - 1)) (List.mem_singleton_self (lastU M')); rwa [← hsp] at this
      have hb64 : lastU M' < 64 := hU.stk.lt _ hbm
      have hle := hU.stk.le (lastU M')
      obtain ⟨b, hb⟩ : ∃ b, lastU M' = b := ⟨_, rfl⟩
      rw [hb] at hlast hb64 hle
      have cb := hU.obj.lev hb64
      have hbi : (b : Int) < 64 := by omega
      have HB := Lib.hid hb
      have HN := Lib.hid hne
      have HL := Lib.hid hlast
      have HM := Lib.hid hbm
      have HL0 := Lib.hid hl0
      clear hsp hl0 hlast hbm hb hne hU
      by_cases h4 : lv' b = 4
      · have H4 := Lib.hid h4
        rw [h4] at cb
        clear h4
        go_wp2_with fail
        refine (last_any bs be [M'] 0 _ HV.out.space).mono ?_
        rintro e w1 ⟨rfl, rfl⟩
        rw [HL.out]
        go_wp2_with fail
        refine (remove_any bs be [M'] b _ HV.out.space).mono ?_
        rintro e w2 ⟨rfl, hs2, hc2⟩
        have hone := remove_one (space_held HV.out.space) (b := (b : Int)) (mem_asInts.2 ⟨by omega, by have := HM.out; rw [HB.out] at this; simpa using this⟩)
        have hcut := cut_last HV.out.stk.nodup
        rw [HL0.out, HB.out] at hcut
        rw [hone.2, hcut] at hs2
        have hu2 := HV.out.obj.chg hc2 (by have := HV.out.n1; have := HV.out.n2; simp; omega)
        clear hone hcut
        have HS2 := Lib.hid hs2
        have HC2 := Lib.hid hc2
        clear hs2 hc2
        have c02 := hu2.c0
        have HU2 := Lib.hid hu2
        clear hu2
        go_wp2_with fail
        refine (uset pu bs caps lv' _ b 0 _ HU2.out hb64 (by omega) (by omega) (fun l => by have := cnU_bd (lv := lv') HV.out.len l; omega)).mono ?_
        rintro e w3 ⟨rfl, hu3, hc3⟩
        have hlb := HB.out
        have hnew := HV.out.cut HN.out HS2.out (by rw [hlb]; exact hu3) hc3
        have hstep := HP.out
        have hpos : 0 < M'.length := List.length_pos_iff.2 HN.out
        have hq : pruneU (M'.take (M'.length - 1)).length (M'.take (M'.length - 1)) (updN lv' (lastU M') 0) = R := by
          rw [← hstep]
          conv => rhs; rw [show M'.length = (M'.length - 1) + 1 by omega]
          conv => rhs; unfold pruneU
          rw [if_pos ⟨HN.out, by rw [hlb]; exact H4.out⟩, List.length_take]
          rw [Nat.min_eq_left (by omega)]
        have hcc : Chg [pu, bs, be] w w3 := (hC.trans (HC2.out.mono (fun s hs => by simp at hs; rcases hs with rfl | rfl <;> simp))).trans (hc3.mono (by simp))
        have HQ := Lib.hid hq
        clear hq hstep hu3 hc3
        go_wp2_with fail
        go_roundw
        case rel => exact ⟨_, _, hnew, HQ.out, hcc⟩
        case measure => rw [hnew.cnt0, HV.out.cnt0, List.length_take]; omega
      · have hni : ((lv' b : Int) == 4) = false := by rw [beq_eq_false_iff_ne]; omega
        have H4 := Lib.hid h4
        clear h4
        go_wp2_with fail
        refine (last_any bs be [M'] 0 _ HV.out.space).mono ?_
        rintro e w1 ⟨rfl, rfl⟩
        rw [HL.out]
        go_wp2_with fail
        refine bodyPost_ret (results_none rfl _ _ _) rfl ?_
        have := HP.out
        rw [pruneU_stop (by rw [HB.out]; exact fun h => H4.out h.2)] at this
        rw [← this]
        exact ⟨rfl, HV.out, hC⟩
end Go.Proofs.Ytibcfmnkpemieaa
