/-
  part.Cache.Add; gradinelaw15.wakes, long. No condition but that the cache lies in memory.
-/
import Derived.Test.YtpmfadepinmmjaaPart2
namespace Go.Proofs.Ytpmfadepinmmjaa
open Go.RowKit

section
variable (pc pp bs be t : Nat) (bl : Int) (c : Nat → Nat) (n : Nat) (F : Nat → Nat → Int) (L : Nat → Bool) (M : List Nat) (Ls : List (List Nat)) (w : World) (h : PartAt w pc pp bs be t bl c n F L M Ls) (b : Int)
include h
theorem padd_no (is : Bool) (x : Nat) (hr : RngB n F b is x) (h0 : partV F c M is x (t : Nat) = 0) : Calls Try.prog 11 #[.pointer (some ⟨pc, 0, none⟩), .int .i64 b] w fun e w' => e = .returned (.tuple #[.int .i64 0, .bool false, .int .i64 5]) ∧ Ext w w' := by
  have HT := Lib.hid (ptakes pc pp bs be t bl c n F L M Ls w h b is x hr false (by rw [h0]; rfl))
  clear h hr h0
  go_enter Try.func11, Try.ntmps11
  go_wp2_with fail
  refine HT.out.mono ?_
  rintro e w1 ⟨rfl, hx1⟩
  go_wp2_with fail
  go_ret3
  exact ⟨rfl, (by repeat' (first | (with_reducible exact Ext.refl _) | (with_reducible assumption) | (with_reducible refine Ext.alloc ?_ _) | (with_reducible refine Ext.drewN ?_ _) | (with_reducible refine Ext.drew ?_) | (with_reducible refine Ext.trans ?_ (by assumption))))⟩
set_option maxHeartbeats 4000000 in
theorem padd_in (k x : Nat) (hb : b = (k : Nat)) (hr : RngB n F b true x) (A : Int × Bool × Int × List Nat) (hA : A = addP (PR F c M x (t - 1)) (L x) (Ls.getD x []) k) :
    Calls Try.prog 11 #[.pointer (some ⟨pc, 0, none⟩), .int .i64 b] w fun e w' => e = .returned (.tuple #[.int .i64 A.1, .bool A.2.1, .int .i64 A.2.2.1]) ∧ PartAt w' pc pp bs be t bl c n F L M (Ls.set x A.2.2.2) ∧ Chg [bs, be] w w' := by
  subst hb
  have hpv := h.pv x
  obtain ⟨hxn, hin⟩ : x < n ∧ HIn F x k := by
    rcases hr with ⟨a, _⟩ | ⟨_, a⟩
    · cases a
    · exact a
  have hxl : x < Ls.length := by rw [h.ok.len]; omega
  obtain ⟨_, b32⟩ := hin_ok h.pl.ok hxn hin
  have haok := add_ok (loop := L x) (b := k) (h.ok.nodup x hxn) (h.ok.few x hxn)
  have HOK : Hid (PartOk n F (fun r => PR F c M r (t - 1)) (Ls.set x A.2.2.2)) := Lib.hid (by
    rw [hA]
    refine h.ok.set hxn (fun y hy => ?_) haok.1 haok.2.1
    rcases haok.2.2 y hy with e | e
    · subst e; exact hin
    · exact h.ok.mem x hxn y e)
  have HT := Lib.hid (fun r hrr => ptakes pc pp bs be t bl c n F L M Ls w h k true x hr r hrr)
  rw [hpv] at HT
  have H := Lib.hid h
  have HR := Lib.hid hr
  obtain ⟨R, hR⟩ : ∃ R, R = PR F c M x (t - 1) := ⟨_, rfl⟩
  rw [← hR] at hA HT
  have HRR := Lib.hid hR
  clear haok hpv hr h hR
  by_cases h0 : R = 0
  · subst h0
    have hA' : A = (0, false, 5, Ls.getD x []) := by rw [hA]; unfold addP; rw [if_pos rfl]
    subst hA'
    have HT2 := Lib.hid (HT.out false rfl)
    have HSS := Lib.hid (set_self Ls hxl)
    clear hA HT HOK
    rw [HSS.out]
    go_enter Try.func11, Try.ntmps11
    go_wp2_with fail
    refine HT2.out.mono ?_
    rintro e w1 ⟨rfl, hx1⟩
    go_wp2_with fail
    go_ret3
    exact ⟨rfl, H.out.ext hx1, Chg.of_ext hx1⟩
  have HT2 := Lib.hid (HT.out true (decide_eq_true (by omega)))
  by_cases hm : k ∈ Ls.getD x []
  · have hA' : A = (0, false, 0, useP (Ls.getD x []) k) := by rw [hA]; unfold addP; rw [if_neg h0, if_pos hm]
    subst hA'
    have HU := Lib.hid (fun w' (hx : Ext w w') => puse pc pp bs be t bl c n F L M Ls w' (H.out.ext hx) k true x HR.out true (decide_eq_true ⟨rfl, by rw [Int.toNat_natCast]; exact hm⟩))
    simp only [reduceIte, Int.toNat_natCast] at HU
    clear hA HT HOK h0 hm
    go_enter Try.func11, Try.ntmps11
    go_wp2_with fail
    refine HT2.out.mono ?_
    rintro e w1 ⟨rfl, hx1⟩
    go_wp2_with fail
    refine (HU.out _ hx1).mono ?_
    rintro e w2 ⟨rfl, hp2, hc2⟩
    have HP2 := Lib.hid hp2
    clear hp2
    go_wp2_with fail
    go_ret3
    exact ⟨rfl, HP2.out, (Chg.of_ext hx1).trans hc2⟩
  have HU := Lib.hid (fun w' (hx : Ext w w') => puse pc pp bs be t bl c n F L M Ls w' (H.out.ext hx) k true x HR.out false (decide_eq_false (fun h => hm (by have := h.2; rwa [Int.toNat_natCast] at this))))
  have hus : useP (Ls.getD x []) k = Ls.getD x [] := by unfold useP; rw [if_neg hm]
  simp only [reduceIte, Int.toNat_natCast, hus, set_self Ls hxl] at HU
  have hlen : lenI Ls (x : Int) = ((Ls.getD x []).length : Int) := by unfold lenI; rw [if_pos ⟨by omega, by omega⟩, Int.toNat_natCast]
  have hl64 : (Ls.getD x []).length ≤ 64 := by
    obtain ⟨A, E, h1, h2⟩ := H.out.space
    exact h2.len hxl
  by_cases hle : R ≤ (Ls.getD x []).length
  · have hne : Ls.getD x [] ≠ [] := by intro e; rw [e] at hle; simp at hle; omega
    have hA' : A = (((vicP (L x) (Ls.getD x []) : Nat) : Int), true, 0, k :: remP (Ls.getD x []) (vicP (L x) (Ls.getD x []))) := by rw [hA]; unfold addP; rw [if_neg h0, if_neg hm, if_pos hle]
    have hvm := vic_mem (loop := L x) hne
    have hvin := H.out.ok.mem x hxn _ hvm
    have HG := Lib.hid (fun w' (h' : PartAt w' pc pp bs be t bl c n F L M Ls) => pgoes pc pp bs be t bl c n F L M Ls w' h' k x HR.out hne)
    obtain ⟨v, hv⟩ : ∃ v, v = vicP (L x) (Ls.getD x []) := ⟨_, rfl⟩
    rw [← hv] at hA' hvm hvin HG
    subst hA'
    have hofL : ofL Ls v = some x := by
      have hof := H.out.ok.of (b := (v : Nat)) H.out.pl.ok (is := true) (x := x) (.inr ⟨rfl, hxn, hvin⟩)
      rw [Int.toNat_natCast, if_pos ⟨rfl, hvm⟩] at hof
      obtain ⟨v0, v32⟩ := hin_ok H.out.pl.ok hxn hvin
      unfold ofI at hof
      rw [if_pos (show okB (v : Int) from ⟨by omega, by omega⟩), Int.toNat_natCast] at hof
      cases e : ofL Ls v with
      | none => rw [e] at hof; simp at hof
      | some l => rw [e] at hof; simp at hof; rw [show l = x by omega]
    have hou := H.out.ok.out H.out.pl.ok hxn hvin
    have HRM := Lib.hid (fun w' (hs : SpaceAt w' bs be Ls) => (by have := remove_some bs be Ls v x w' hs hofL; rwa [hou] at this : Calls Try.prog 31 #[.pointer (some ⟨bs, 0, none⟩), .int .i64 (v : Nat)] w' fun e w'' => e = .returned (.int .i64 0) ∧ SpaceAt w'' bs be (Ls.set x ((Ls.getD x []).filter (fun y => decide (y ≠ v)))) ∧ Chg [bs, be] w' w''))
    have hok2 : PartOk n F (fun r => PR F c M r (t - 1)) (Ls.set x ((Ls.getD x []).filter (fun y => decide (y ≠ v)))) := H.out.ok.set hxn (fun y hy => H.out.ok.mem x hxn y (List.mem_filter.1 hy).1) ((H.out.ok.nodup x hxn).filter _) (Nat.le_trans (List.length_filter_le _ _) (H.out.ok.few x hxn))
    have hfr := hok2.front H.out.pl.ok hxn hin
    rw [getD_set hxl, if_pos rfl, List.set_set, filter_not (fun hh => hm (List.mem_filter.1 hh).1)] at hfr
    have HFR := Lib.hid (fun w' (hs : SpaceAt w' bs be (Ls.set x ((Ls.getD x []).filter (fun y => decide (y ≠ v))))) => (by have := front_ok bs be _ x k w' hs (by rw [List.length_set]; exact hxl) (by omega); rwa [hfr] at this : Calls Try.prog 32 #[.pointer (some ⟨bs, 0, none⟩), .int .i64 (x : Nat), .int .i64 (k : Nat)] w' fun e w'' => e = .returned (.int .i64 0) ∧ SpaceAt w'' bs be (Ls.set x (k :: (Ls.getD x []).filter (fun y => decide (y ≠ v)))) ∧ Chg [bs, be] w' w''))
    have HOK2 := Lib.hid hok2
    obtain ⟨len, hlenx⟩ : ∃ len, len = (Ls.getD x []).length := ⟨_, rfl⟩
    rw [← hlenx] at hlen hle hl64
    have HLEN := Lib.hid hlen
    have hlei : (R : Int) ≤ (len : Int) := by omega
    clear hA hm hus hne hv hvm hvin hofL hou hok2 hfr hlenx hlen HT b32 hin h0
    go_enter Try.func11, Try.ntmps11
    go_wp2_with fail
    refine HT2.out.mono ?_
    rintro e w1 ⟨rfl, hx1⟩
    go_wp2_with fail
    refine (HU.out _ hx1).mono ?_
    rintro e w2 ⟨rfl, hp2, hc2⟩
    have HP2 := Lib.hid hp2
    have c1 := hp2.c1
    clear hp2
    go_wp2_with fail
    refine (krange pp bl c n F L M _ HP2.out.pl k true x HR.out).mono ?_
    rintro e w3 ⟨rfl, hx3⟩
    have HP3 := Lib.hid (HP2.out.ext hx3)
    have c0 := HP3.out.c0
    have c1 := HP3.out.c1
    have c2 := HP3.out.c2
    have HPT : Hid (∀ w', Ext w3 w' → Calls Try.prog 15 #[.pointer (some ⟨pp, 0, none⟩), .int .i64 (k : Nat), .int .i64 (t : Nat)] w' fun e w'' => e = .returned (.int .i64 (R : Nat)) ∧ Ext w' w'') := Lib.hid (fun w' hx => by
      have := kpart pp bl c n F L M w' (HP3.out.pl.ext hx) k true x HR.out (t : Nat)
      rw [HP3.out.pv x, ← HRR.out] at this
      exact this)
    have HLN : Hid (∀ w', Ext w3 w' → Calls Try.prog 29 #[.pointer (some ⟨bs, 0, none⟩), .int .i64 (x : Nat)] w' fun e w'' => e = .returned (.int .i64 (len : Nat)) ∧ w' = w'') := Lib.hid (fun w' hx => by
      have := len_any bs be Ls x w' (HP3.out.space.ext hx)
      rw [HLEN.out] at this
      exact this)
    have hc3 := ((Chg.of_ext hx1).trans hc2).ext hx3
    clear hx1 hc2 hx3 HP2
    go_wp2_with fail
    go_region_held3 (fun w' => w'.cell? ⟨pc, 0, none⟩ = some (.pointer (some ⟨bs, 0, none⟩)) ∧ w'.cell? ⟨pc, 1, none⟩ = some (.pointer (some ⟨pp, 0, none⟩)) ∧ w'.cell? ⟨pc, 2, none⟩ = some (.int .i64 (t : Nat)) ∧ Ext w3 w') (exact ⟨Ext.cellv (w := w3) (by repeat' (first | (with_reducible exact Ext.refl _) | (with_reducible assumption) | (with_reducible refine Ext.alloc ?_ _) | (with_reducible refine Ext.drewN ?_ _) | (with_reducible refine Ext.drew ?_) | (with_reducible refine Ext.trans ?_ (by assumption)))) c0, Ext.cellv (w := w3) (by repeat' (first | (with_reducible exact Ext.refl _) | (with_reducible assumption) | (with_reducible refine Ext.alloc ?_ _) | (with_reducible refine Ext.drewN ?_ _) | (with_reducible refine Ext.drew ?_) | (with_reducible refine Ext.trans ?_ (by assumption)))) c1, Ext.cellv (w := w3) (by repeat' (first | (with_reducible exact Ext.refl _) | (with_reducible assumption) | (with_reducible refine Ext.alloc ?_ _) | (with_reducible refine Ext.drewN ?_ _) | (with_reducible refine Ext.drew ?_) | (with_reducible refine Ext.trans ?_ (by assumption)))) c2, (by repeat' (first | (with_reducible exact Ext.refl _) | (with_reducible assumption) | (with_reducible refine Ext.alloc ?_ _) | (with_reducible refine Ext.drewN ?_ _) | (with_reducible refine Ext.drew ?_) | (with_reducible refine Ext.trans ?_ (by assumption))))⟩) (first | (go_at_call 15; refine (HPT.out _ (by repeat' (first | (with_reducible exact Ext.refl _) | (with_reducible assumption) | (with_reducible refine Ext.alloc ?_ _) | (with_reducible refine Ext.drewN ?_ _) | (with_reducible refine Ext.drew ?_) | (with_reducible refine Ext.trans ?_ (by assumption))))).mono ?_; rintro e wA ⟨rfl, hxA⟩) | (go_at_call 29; refine (HLN.out _ (by repeat' (first | (with_reducible exact Ext.refl _) | (with_reducible assumption) | (with_reducible refine Ext.alloc ?_ _) | (with_reducible refine Ext.drewN ?_ _) | (with_reducible refine Ext.drew ?_) | (with_reducible refine Ext.trans ?_ (by assumption))))).mono ?_; rintro e wB ⟨rfl, rfl⟩))
    all_goals
      go_wp2_with fail
      have hw3A : Ext w3 wA := (by repeat' (first | (with_reducible exact Ext.refl _) | (with_reducible assumption) | (with_reducible refine Ext.alloc ?_ _) | (with_reducible refine Ext.drewN ?_ _) | (with_reducible refine Ext.drew ?_) | (with_reducible refine Ext.trans ?_ (by assumption))))
      clear HPT HLN
      refine (HG.out _ (HP3.out.ext (by repeat' (first | (with_reducible exact Ext.refl _) | (with_reducible assumption) | (with_reducible refine Ext.alloc ?_ _) | (with_reducible refine Ext.drewN ?_ _) | (with_reducible refine Ext.drew ?_) | (with_reducible refine Ext.trans ?_ (by assumption)))))).mono ?_
      rintro e w4 ⟨rfl, hx4⟩
      have hx34 : Ext w3 w4 := (by repeat' (first | (with_reducible exact Ext.refl _) | (with_reducible assumption) | (with_reducible refine Ext.alloc ?_ _) | (with_reducible refine Ext.drewN ?_ _) | (with_reducible refine Ext.drew ?_) | (with_reducible refine Ext.trans ?_ (by assumption))))
      have HP4 := Lib.hid (HP3.out.ext hx34)
      have c0 := HP4.out.c0
      go_wp2_with fail
      refine (HRM.out _ HP4.out.space).mono ?_
      rintro e w5 ⟨rfl, hs5, hc5⟩
      have HP5 := Lib.hid (HP4.out.to hc5 hs5 HOK2.out)
      have c0 := HP5.out.c0
      clear hs5
      go_wp2_with fail
      refine (HFR.out _ HP5.out.space).mono ?_
      rintro e w6 ⟨rfl, hs6, hc6⟩
      have HP6 := Lib.hid ((HP5.out.to hc6 hs6 HOK.out : PartAt w6 pc pp bs be t bl c n F L M (Ls.set x (k :: remP (Ls.getD x []) v))))
      have hcf := ((hc3.ext hx34).trans hc5).trans hc6
      clear hs6 hc5 hc6
      go_wp2_with fail
      go_ret3
      exact ⟨rfl, HP6.out, hcf⟩
  · have hA' : A = (0, false, 0, k :: Ls.getD x []) := by rw [hA]; unfold addP; rw [if_neg h0, if_neg hm, if_neg hle]
    subst hA'
    have hfr := H.out.ok.front H.out.pl.ok hxn hin
    rw [filter_not hm] at hfr
    have HFR := Lib.hid (fun w' (hs : SpaceAt w' bs be Ls) => (by have := front_ok bs be _ x k w' hs hxl (by omega); rwa [hfr] at this : Calls Try.prog 32 #[.pointer (some ⟨bs, 0, none⟩), .int .i64 (x : Nat), .int .i64 (k : Nat)] w' fun e w'' => e = .returned (.int .i64 0) ∧ SpaceAt w'' bs be (Ls.set x (k :: Ls.getD x [])) ∧ Chg [bs, be] w' w''))
    obtain ⟨len, hlenx⟩ : ∃ len, len = (Ls.getD x []).length := ⟨_, rfl⟩
    rw [← hlenx] at hlen hle hl64
    have HLEN := Lib.hid hlen
    have hlei : ¬ (R : Int) ≤ (len : Int) := by omega
    clear hA hm hus hfr hlenx hlen HT b32 hin h0
    go_enter Try.func11, Try.ntmps11
    go_wp2_with fail
    refine HT2.out.mono ?_
    rintro e w1 ⟨rfl, hx1⟩
    go_wp2_with fail
    refine (HU.out _ hx1).mono ?_
    rintro e w2 ⟨rfl, hp2, hc2⟩
    have HP2 := Lib.hid hp2
    have c1 := hp2.c1
    clear hp2
    go_wp2_with fail
    refine (krange pp bl c n F L M _ HP2.out.pl k true x HR.out).mono ?_
    rintro e w3 ⟨rfl, hx3⟩
    have HP3 := Lib.hid (HP2.out.ext hx3)
    have c0 := HP3.out.c0
    have c1 := HP3.out.c1
    have c2 := HP3.out.c2
    have HPT : Hid (∀ w', Ext w3 w' → Calls Try.prog 15 #[.pointer (some ⟨pp, 0, none⟩), .int .i64 (k : Nat), .int .i64 (t : Nat)] w' fun e w'' => e = .returned (.int .i64 (R : Nat)) ∧ Ext w' w'') := Lib.hid (fun w' hx => by
      have := kpart pp bl c n F L M w' (HP3.out.pl.ext hx) k true x HR.out (t : Nat)
      rw [HP3.out.pv x, ← HRR.out] at this
      exact this)
    have HLN : Hid (∀ w', Ext w3 w' → Calls Try.prog 29 #[.pointer (some ⟨bs, 0, none⟩), .int .i64 (x : Nat)] w' fun e w'' => e = .returned (.int .i64 (len : Nat)) ∧ w' = w'') := Lib.hid (fun w' hx => by
      have := len_any bs be Ls x w' (HP3.out.space.ext hx)
      rw [HLEN.out] at this
      exact this)
    have hc3 := ((Chg.of_ext hx1).trans hc2).ext hx3
    clear hx1 hc2 hx3 HP2
    go_wp2_with fail
    go_region_held3 (fun w' => w'.cell? ⟨pc, 0, none⟩ = some (.pointer (some ⟨bs, 0, none⟩)) ∧ w'.cell? ⟨pc, 1, none⟩ = some (.pointer (some ⟨pp, 0, none⟩)) ∧ w'.cell? ⟨pc, 2, none⟩ = some (.int .i64 (t : Nat)) ∧ Ext w3 w') (exact ⟨Ext.cellv (w := w3) (by repeat' (first | (with_reducible exact Ext.refl _) | (with_reducible assumption) | (with_reducible refine Ext.alloc ?_ _) | (with_reducible refine Ext.drewN ?_ _) | (with_reducible refine Ext.drew ?_) | (with_reducible refine Ext.trans ?_ (by assumption)))) c0, Ext.cellv (w := w3) (by repeat' (first | (with_reducible exact Ext.refl _) | (with_reducible assumption) | (with_reducible refine Ext.alloc ?_ _) | (with_reducible refine Ext.drewN ?_ _) | (with_reducible refine Ext.drew ?_) | (with_reducible refine Ext.trans ?_ (by assumption)))) c1, Ext.cellv (w := w3) (by repeat' (first | (with_reducible exact Ext.refl _) | (with_reducible assumption) | (with_reducible refine Ext.alloc ?_ _) | (with_reducible refine Ext.drewN ?_ _) | (with_reducible refine Ext.drew ?_) | (with_reducible refine Ext.trans ?_ (by assumption)))) c2, (by repeat' (first | (with_reducible exact Ext.refl _) | (with_reducible assumption) | (with_reducible refine Ext.alloc ?_ _) | (with_reducible refine Ext.drewN ?_ _) | (with_reducible refine Ext.drew ?_) | (with_reducible refine Ext.trans ?_ (by assumption))))⟩) (first | (go_at_call 15; refine (HPT.out _ (by repeat' (first | (with_reducible exact Ext.refl _) | (with_reducible assumption) | (with_reducible refine Ext.alloc ?_ _) | (with_reducible refine Ext.drewN ?_ _) | (with_reducible refine Ext.drew ?_) | (with_reducible refine Ext.trans ?_ (by assumption))))).mono ?_; rintro e wA ⟨rfl, hxA⟩) | (go_at_call 29; refine (HLN.out _ (by repeat' (first | (with_reducible exact Ext.refl _) | (with_reducible assumption) | (with_reducible refine Ext.alloc ?_ _) | (with_reducible refine Ext.drewN ?_ _) | (with_reducible refine Ext.drew ?_) | (with_reducible refine Ext.trans ?_ (by assumption))))).mono ?_; rintro e wB ⟨rfl, rfl⟩))
    all_goals
      go_wp2_with fail
      have hw3A : Ext w3 wA := (by repeat' (first | (with_reducible exact Ext.refl _) | (with_reducible assumption) | (with_reducible refine Ext.alloc ?_ _) | (with_reducible refine Ext.drewN ?_ _) | (with_reducible refine Ext.drew ?_) | (with_reducible refine Ext.trans ?_ (by assumption))))
      clear HPT HLN
      have HP4 := Lib.hid (HP3.out.ext hw3A)
      refine (HFR.out _ (HP3.out.space.ext (by repeat' (first | (with_reducible exact Ext.refl _) | (with_reducible assumption) | (with_reducible refine Ext.alloc ?_ _) | (with_reducible refine Ext.drewN ?_ _) | (with_reducible refine Ext.drew ?_) | (with_reducible refine Ext.trans ?_ (by assumption)))))).mono ?_
      rintro e w6 ⟨rfl, hs6, hc6⟩
      have hcf := (hc3.ext hw3A).trans hc6
      have HP6 := Lib.hid (HP4.out.to hc6 hs6 HOK.out)
      clear hs6 hc6
      go_wp2_with fail
      go_ret3
      exact ⟨rfl, HP6.out, hcf⟩
end
end Go.Proofs.Ytpmfadepinmmjaa
