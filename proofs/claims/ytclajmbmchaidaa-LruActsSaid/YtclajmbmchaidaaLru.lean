/-
  The cache: New, Has, Use, Add, Remove, All, Len. No condition but that the cache lies in memory.
-/
import Derived.Test.YtclajmbmchaidaaLruFn
namespace Go.Proofs.Ytclajmbmchaidaa
open Go.RowKit

/-- a capacity, held within its bounds -/
def capN (c : Int) : Nat := if c < 1 then 1 else if 16 < c then 16 else c.toNat
theorem capN_eq (c : Int) : ((capN c : Nat) : Int) = max 1 (min c 16) := by
  unfold capN
  split
  · omega
  · split <;> omega

theorem lru_new (c : Int) (w : World) :
    Calls Try.prog 33 #[.int .i64 c] w fun e w' => ∃ p bs be, e = .returned (.pointer (some ⟨p, 0, none⟩)) ∧ LruAt w' p bs be (capN c) [] ∧ w.heap.size ≤ p ∧ w.heap.size ≤ bs ∧ w.heap.size ≤ be ∧ Ext w w' := by
  have hc := capN_eq c
  go_enter Try.func33, Try.ntmps33
  go_wp2_with fail
  refine (new_any 1 _ (by omega) (by omega)).mono ?_
  rintro e w1 ⟨bs, be, rfl, hs1, hb1, hb2, hx1⟩
  go_wp2_with fail
  all_goals
    go_ret
    have hlt := hs1.lt1
    have hlt2 := hs1.lt2
    have hz := hx1.size
    refine ⟨_, rfl, bs, be, ⟨cell_new _ _ _ _ rfl, (cell_new _ _ _ _ rfl).trans ?_, ?_, ?_, hs1.ext ((Ext.refl w1).alloc _)⟩, hz, hb1, hb2, hx1.alloc _⟩
    · first | exact congrArg (fun x => some (Value.int IntKind.i64 x)) (show (16 : Int) = ((capN c : Nat) : Int) by omega) | exact congrArg (fun x => some (Value.int IntKind.i64 x)) (show (1 : Int) = ((capN c : Nat) : Int) by omega) | exact congrArg (fun x => some (Value.int IntKind.i64 x)) (show c = ((capN c : Nat) : Int) by omega)
    · show w1.heap.size ≠ bs; omega
    · show w1.heap.size ≠ be; omega

section
variable (p bs be cap : Nat) (L : List Nat) (w : World) (h : LruAt w p bs be cap L)
include h
theorem lru_has (b : Int) (r : Bool) (hr : decide (b ∈ asInts L) = r) : Calls Try.prog 36 #[.pointer (some ⟨p, 0, none⟩), .int .i64 b] w fun e w' => e = .returned (.bool r) ∧ w = w' := by
  have c0 := h.c0
  have hof := of_one h.held b
  rw [hr] at hof
  go_enter Try.func36, Try.ntmps36
  go_wp2_with fail
  refine (of_any bs be [L] b _ h.space).mono ?_
  rintro e w1 ⟨rfl, rfl⟩
  rw [hof]
  go_wp2_with fail
  go_ret
  exact ⟨rfl, rfl⟩
theorem lru_len : Calls Try.prog 35 #[.pointer (some ⟨p, 0, none⟩)] w fun e w' => e = .returned (.int .i64 L.length) ∧ w = w' := by
  have c0 := h.c0
  go_enter Try.func35, Try.ntmps35
  go_wp2_with fail
  refine (len_any bs be [L] 0 _ h.space).mono ?_
  rintro e w1 ⟨rfl, rfl⟩
  rw [len_one]
  go_wp2_with fail
  go_ret
  exact ⟨rfl, rfl⟩
theorem lru_all : Calls Try.prog 37 #[.pointer (some ⟨p, 0, none⟩)] w fun e w' => ∃ v, e = .returned v ∧ OwnI .i64 3 w.heap.size w' v (asInts L) ∧ Ext w w' := by
  have c0 := h.c0
  go_enter Try.func37, Try.ntmps37
  go_wp2_with fail
  refine (all_any bs be [L] 0 _ h.space).mono ?_
  rintro e w1 ⟨v, rfl, ho, hx⟩
  rw [all_one] at ho
  go_wp2_with fail
  go_ret
  exact ⟨_, rfl, ho, (by repeat' (first | (with_reducible exact Ext.refl _) | (with_reducible assumption) | (with_reducible refine Ext.alloc ?_ _) | (with_reducible refine Ext.drewN ?_ _) | (with_reducible refine Ext.drew ?_) | (with_reducible refine Ext.trans ?_ (by assumption))))⟩
theorem lru_use (b : Int) (r : Bool) (hr : decide (b ∈ asInts L) = r) : Calls Try.prog 41 #[.pointer (some ⟨p, 0, none⟩), .int .i64 b] w fun e w' => e = .returned (.bool r) ∧ LruAt w' p bs be cap (useL L b) ∧ Chg [bs, be] w w' := by
  have c0 := h.c0
  obtain ⟨M, hM⟩ : ∃ M, M = useL L b := ⟨_, rfl⟩
  have HM := Lib.hid hM
  have HR := Lib.hid hr
  rw [← hM]
  clear hM hr
  cases r
  · have hM' : M = L := by rw [HM.out]; unfold useL; rw [if_neg (by simpa using HR.out)]
    subst hM'
    clear HM
    go_enter Try.func41, Try.ntmps41
    go_wp2_with fail
    refine (lru_has p bs be cap M _ h b false HR.out).mono ?_
    rintro e w1 ⟨rfl, rfl⟩
    go_wp2_with fail
    go_ret
    exact ⟨rfl, h, Chg.refl _ _⟩
  · have hb : b ∈ asInts L := by simpa using HR.out
    have HB := Lib.hid hb
    clear hb
    go_enter Try.func41, Try.ntmps41
    go_wp2_with fail
    refine (lru_has p bs be cap L _ h b true HR.out).mono ?_
    rintro e w1 ⟨rfl, rfl⟩
    go_wp2_with fail
    refine (front_any bs be [L] 0 b _ h.space).mono ?_
    rintro e w1 ⟨rfl, hs, hc⟩
    go_wp2_with fail
    go_ret
    refine ⟨rfl, h.to hc ?_, hc⟩
    · have hM' := HM.out
      unfold useL at hM'
      rw [if_pos HB.out] at hM'
      rw [(front_one L b).2, if_pos (h.held.ok HB.out)] at hs
      rw [hM']; exact hs
theorem lru_remove (b : Int) (r : Bool) (hr : decide (b ∈ asInts L) = r) : Calls Try.prog 42 #[.pointer (some ⟨p, 0, none⟩), .int .i64 b] w fun e w' => e = .returned (.bool r) ∧ LruAt w' p bs be cap (remL L b) ∧ Chg [bs, be] w w' := by
  have c0 := h.c0
  obtain ⟨M, hM⟩ : ∃ M, M = remL L b := ⟨_, rfl⟩
  have HM := Lib.hid hM
  have HR := Lib.hid hr
  rw [← hM]
  clear hM hr
  cases r
  · have hM' : M = L := by rw [HM.out]; unfold remL; rw [if_neg (by simpa using HR.out)]
    subst hM'
    clear HM
    go_enter Try.func42, Try.ntmps42
    go_wp2_with fail
    refine (lru_has p bs be cap M _ h b false HR.out).mono ?_
    rintro e w1 ⟨rfl, rfl⟩
    go_wp2_with fail
    go_ret
    exact ⟨rfl, h, Chg.refl _ _⟩
  · have hb : b ∈ asInts L := by simpa using HR.out
    have hone := remove_one h.held hb
    have hM' : M = cutL L b := by rw [HM.out]; unfold remL; rw [if_pos hb]
    clear hb
    go_enter Try.func42, Try.ntmps42
    go_wp2_with fail
    refine (lru_has p bs be cap L _ h b true HR.out).mono ?_
    rintro e w1 ⟨rfl, rfl⟩
    go_wp2_with fail
    refine (remove_any bs be [L] b _ h.space).mono ?_
    rintro e w1 ⟨rfl, hs, hc⟩
    rw [hone.1]
    rw [hone.2, ← hM'] at hs
    clear hone hM'
    go_wp2_with fail
    go_ret
    exact ⟨rfl, h.to hc hs, hc⟩
theorem lru_add (b : Int) (hle : L.length ≤ cap) : Calls Try.prog 34 #[.pointer (some ⟨p, 0, none⟩), .int .i64 b] w fun e w' => e = .returned (.tuple #[.int .i64 (addV cap L b), .bool (addG cap L b), .int .i64 (addE b)]) ∧ LruAt w' p bs be cap (addL cap L b) ∧ Chg [bs, be] w w' := by
  have c0 := h.c0
  have c1 := h.c1
  have hH : Held cap L := ⟨h.held.nodup, h.held.lt, hle⟩
  by_cases hb : b ∈ asInts L
  · obtain ⟨a1, a2, a3, a4⟩ := add_mem hH hb
    have hu : useL L b = topL L b := by unfold useL; rw [if_pos hb]
    rw [a1, a2, a3, a4, ← hu]
    have hd : decide (b ∈ asInts L) = true := by simpa using hb
    have HD := Lib.hid hd
    clear a1 a2 a3 a4 hb hu hd hH hle
    go_enter Try.func34, Try.ntmps34
    go_wp2_with fail
    refine (lru_use p bs be cap L _ h b true HD.out).mono ?_
    rintro e w1 ⟨rfl, h1, hc⟩
    go_wp2_with fail
    go_ret3
    exact ⟨rfl, h1, hc⟩
  · have hd : decide (b ∈ asInts L) = false := by simpa using hb
    have hu : useL L b = L := by unfold useL; rw [if_neg hb]
    by_cases ho : okB b
    · have hn : b.toNat ∉ L := fun hm => hb (mem_asInts.2 ⟨ho.1, hm⟩)
      have hE : addE b = 0 := by unfold addE; rw [if_pos ho]
      have hf := front_one L b
      rw [hE, if_pos ho] at hf
      obtain ⟨M, hM⟩ : ∃ M, M = topL L b := ⟨_, rfl⟩
      have hMl : M.length = L.length + 1 := by rw [hM]; exact top_length_not hn
      have hMn : M.Nodup := by rw [hM]; exact top_nodup h.held.nodup b
      have hM64 : ∀ x ∈ M, x < 64 := by rw [hM]; exact h.held.top ho
      have hM0 : M ≠ [] := by intro e; rw [e] at hMl; simp at hMl
      have hlast := last_one hM0
      rw [← hM] at hf
      by_cases hlc : M.length ≤ cap
      · have r1 : addL cap L b = M := by unfold addL; rw [if_pos ho, ← hM, List.take_of_length_le hlc]
        have r2 : addG cap L b = false := by unfold addG; rw [← hM]; simp; intro _; omega
        have r3 : addV cap L b = 0 := by unfold addV; rw [← hM, if_neg (by omega)]
        rw [r1, r2, r3, hE]
        have hli : (M.length : Int) ≤ (cap : Int) := by omega
        have HD := Lib.hid hd
        have HF := Lib.hid hf
        clear hf r1 r2 r3 hE hb hd ho hn hM hMl hMn hM64 hM0 hlast hle hlc hH
        go_enter Try.func34, Try.ntmps34
        go_wp2_with fail
        refine (lru_use p bs be cap L _ h b false HD.out).mono ?_
        rintro e w1 ⟨rfl, h1, hc⟩
        rw [hu] at h1
        have d0 := h1.c0
        have d1 := h1.c1
        clear c0 c1 hu
        go_wp2_with fail
        refine (front_any bs be [L] 0 b _ h1.space).mono ?_
        rintro e w2 ⟨rfl, hs, hc2⟩
        rw [HF.out.1]
        rw [HF.out.2] at hs
        have h2 := h1.to hc2 hs
        have d0 := h2.c0
        have d1 := h2.c1
        have hcc := hc.trans hc2
        clear hs hc hc2
        go_wp2_with fail
        go_region_with (go_at_call 35; refine (lru_len p bs be cap M _ (h2.ext (by repeat' (first | (with_reducible exact Ext.refl _) | (with_reducible assumption) | (with_reducible refine Ext.alloc ?_ _) | (with_reducible refine Ext.drewN ?_ _) | (with_reducible refine Ext.drew ?_) | (with_reducible refine Ext.trans ?_ (by assumption)))))).mono ?_; rintro e w3 ⟨rfl, rfl⟩)
        all_goals
          go_wp2_with fail
          go_ret3
          exact ⟨rfl, h2.ext (by repeat' (first | (with_reducible exact Ext.refl _) | (with_reducible assumption) | (with_reducible refine Ext.alloc ?_ _) | (with_reducible refine Ext.drewN ?_ _) | (with_reducible refine Ext.drew ?_) | (with_reducible refine Ext.trans ?_ (by assumption)))), hcc.ext (by repeat' (first | (with_reducible exact Ext.refl _) | (with_reducible assumption) | (with_reducible refine Ext.alloc ?_ _) | (with_reducible refine Ext.drewN ?_ _) | (with_reducible refine Ext.drew ?_) | (with_reducible refine Ext.trans ?_ (by assumption))))⟩
      · have hcl : ¬ (M.length : Int) ≤ (cap : Int) := by omega
        have hca : M.length - 1 = cap := by omega
        have r1 : addL cap L b = cutL M (lst 0 M) := by rw [cut_last hMn, hca]; unfold addL; rw [if_pos ho, ← hM]
        have r2 : addG cap L b = true := by unfold addG; rw [← hM]; simp; exact ⟨ho, by omega⟩
        have r3 : addV cap L b = lst 0 M := by unfold addV; rw [← hM, if_pos ⟨ho, by omega⟩]
        rw [r1, r2, r3, hE]
        have hm := lst_mem hM0
        have hhM : Held M.length M := ⟨hMn, hM64, Nat.le_refl _⟩
        have hone := remove_one hhM hm
        obtain ⟨v, hv⟩ : ∃ v, v = lst 0 M := ⟨_, rfl⟩
        rw [← hv] at hone hlast hm ⊢
        have HD := Lib.hid hd
        have HF := Lib.hid hf
        have HO := Lib.hid hone
        have HL := Lib.hid hlast
        clear hf r1 r2 r3 hE hb hd ho hn hM hMl hMn hM64 hM0 hlast hle hlc hone hm hv hca hH hhM
        go_enter Try.func34, Try.ntmps34
        go_wp2_with fail
        refine (lru_use p bs be cap L _ h b false HD.out).mono ?_
        rintro e w1 ⟨rfl, h1, hc⟩
        rw [hu] at h1
        have d0 := h1.c0
        have d1 := h1.c1
        clear c0 c1 hu
        go_wp2_with fail
        refine (front_any bs be [L] 0 b _ h1.space).mono ?_
        rintro e w2 ⟨rfl, hs, hc2⟩
        rw [HF.out.1]
        rw [HF.out.2] at hs
        have h2 := h1.to hc2 hs
        have d0 := h2.c0
        have d1 := h2.c1
        have hcc := hc.trans hc2
        clear hs hc hc2 h1
        go_wp2_with fail
        go_region_with (go_at_call 35; refine (lru_len p bs be cap M _ (h2.ext (by repeat' (first | (with_reducible exact Ext.refl _) | (with_reducible assumption) | (with_reducible refine Ext.alloc ?_ _) | (with_reducible refine Ext.drewN ?_ _) | (with_reducible refine Ext.drew ?_) | (with_reducible refine Ext.trans ?_ (by assumption)))))).mono ?_; rintro e w3 ⟨rfl, rfl⟩)
        all_goals
          go_wp2_with fail
          refine (last_any bs be [M] 0 _ (h2.space.ext (by repeat' (first | (with_reducible exact Ext.refl _) | (with_reducible assumption) | (with_reducible refine Ext.alloc ?_ _) | (with_reducible refine Ext.drewN ?_ _) | (with_reducible refine Ext.drew ?_) | (with_reducible refine Ext.trans ?_ (by assumption)))))).mono ?_
          rintro e w3 ⟨rfl, rfl⟩
          rw [HL.out]
          go_wp2_with fail
          refine (remove_any bs be [M] v _ (h2.space.ext (by repeat' (first | (with_reducible exact Ext.refl _) | (with_reducible assumption) | (with_reducible refine Ext.alloc ?_ _) | (with_reducible refine Ext.drewN ?_ _) | (with_reducible refine Ext.drew ?_) | (with_reducible refine Ext.trans ?_ (by assumption)))))).mono ?_
          rintro e w4 ⟨rfl, hs4, hc4⟩
          rw [HO.out.2] at hs4
          go_wp2_with fail
          go_ret3
          exact ⟨rfl, (h2.ext (by repeat' (first | (with_reducible exact Ext.refl _) | (with_reducible assumption) | (with_reducible refine Ext.alloc ?_ _) | (with_reducible refine Ext.drewN ?_ _) | (with_reducible refine Ext.drew ?_) | (with_reducible refine Ext.trans ?_ (by assumption))))).to hc4 hs4, (hcc.ext (by repeat' (first | (with_reducible exact Ext.refl _) | (with_reducible assumption) | (with_reducible refine Ext.alloc ?_ _) | (with_reducible refine Ext.drewN ?_ _) | (with_reducible refine Ext.drew ?_) | (with_reducible refine Ext.trans ?_ (by assumption))))).trans hc4⟩
    · have hE : addE b = 3 := by unfold addE; rw [if_neg ho]
      have hf := front_one L b
      rw [hE, if_neg ho] at hf
      have r1 : addL cap L b = L := by unfold addL; rw [if_neg ho]
      have r2 : addG cap L b = false := by unfold addG; simp; intro h; exact absurd h ho
      have r3 : addV cap L b = 0 := by unfold addV; rw [if_neg (fun h => ho h.1)]
      rw [r1, r2, r3, hE]
      have HD := Lib.hid hd
      have HF := Lib.hid hf
      clear hf r1 r2 r3 hE hb hd ho hH hle
      go_enter Try.func34, Try.ntmps34
      go_wp2_with fail
      refine (lru_use p bs be cap L _ h b false HD.out).mono ?_
      rintro e w1 ⟨rfl, h1, hc⟩
      rw [hu] at h1
      have d0 := h1.c0
      have d1 := h1.c1
      clear c0 c1 hu
      go_wp2_with fail
      refine (front_any bs be [L] 0 b _ h1.space).mono ?_
      rintro e w2 ⟨rfl, hs, hc2⟩
      rw [HF.out.1]
      rw [HF.out.2] at hs
      have h2 := h1.to hc2 hs
      have hcc := hc.trans hc2
      clear hs hc hc2
      go_wp2_with fail
      go_ret3
      exact ⟨rfl, h2.ext (by repeat' (first | (with_reducible exact Ext.refl _) | (with_reducible assumption) | (with_reducible refine Ext.alloc ?_ _) | (with_reducible refine Ext.drewN ?_ _) | (with_reducible refine Ext.drew ?_) | (with_reducible refine Ext.trans ?_ (by assumption)))), hcc.ext (by repeat' (first | (with_reducible exact Ext.refl _) | (with_reducible assumption) | (with_reducible refine Ext.alloc ?_ _) | (with_reducible refine Ext.drewN ?_ _) | (with_reducible refine Ext.drew ?_) | (with_reducible refine Ext.trans ?_ (by assumption))))⟩
end
end Go.Proofs.Ytclajmbmchaidaa
