/-
  What a write leaves; gradinelaw06.wakes. No condition.
-/
import Derived.Test.YtoadjmeopamgbaaStWr2
import Derived.Test.YtoadjmeopamgbaaSame
namespace Go.Proofs.Ytoadjmeopamgbaa
open Go.RowKit

theorem wrAll_len (d : Dk) (I : Nat → Int) (R : Nat → List Int) : ∀ k, (wrAll d I R k).2.rows.length = d.rows.length
  | 0 => rfl
  | k + 1 => by
    rw [wrAll]
    split
    · show ((wrAll d I R k).2.wr (I k) (R k)).rows.length = _
      rw [wr_len, wrAll_len d I R k]
    · exact wrAll_len d I R k
theorem wrAll_byt {d : Dk} (hd : Byt d) (I : Nat → Int) {R : Nat → List Int} (hR : ∀ j, ∀ x ∈ R j, 0 ≤ x ∧ x ≤ 255) : ∀ k, Byt (wrAll d I R k).2
  | 0 => hd
  | k + 1 => by
    rw [wrAll]
    split
    · exact wr_byt (wrAll_byt hd I hR k) _ (hR k)
    · exact wrAll_byt hd I hR k
theorem doesR_byt {boot op ver : Int} {D : List Int} (hD : ∀ x ∈ D, 0 ≤ x ∧ x ≤ 255) : ∀ j, ∀ x ∈ doesR boot op ver D j, 0 ≤ x ∧ x ≤ 255 := by
  intro j x hx
  have he := fun n => enc_byte n n (Nat.le_refl _)
  unfold doesR at hx
  split at hx
  · simp only [List.mem_append] at hx
    rcases hx with (hx | hx) | hx
    · exact he _ x hx
    · exact he _ x hx
    · exact hD x hx
  · split at hx
    · simp only [List.mem_append] at hx
      rcases hx with (hx | hx) | hx <;> exact he _ x hx
    · simp at hx
theorem st_len (h : Sh) (d : Dk) (c k blk : Nat) (b o : Int) (D : List Int) : (stW2 h d c k blk b o D).2.rows.length = d.rows.length := by
  unfold stW2
  repeat' split
  all_goals first | rfl | (show (Dk.wr _ _ _).rows.length = _; exact wr_len _ _ _) | (show (wrAll _ _ _ _).2.rows.length = _; rw [wrAll_len, wr_len])
theorem st_byt {h : Sh} {d : Dk} (hd : Byt d) (c k blk : Nat) (b o : Int) {D : List Int} (hD : ∀ x ∈ D, 0 ≤ x ∧ x ≤ 255) : Byt (stW2 h d c k blk b o D).2 := by
  have hJ : ∀ l : List Int, ∀ x ∈ encL l ++ enc D.length ++ D, 0 ≤ x ∧ x ≤ 255 := by
    intro l x hx
    rw [List.mem_append, List.mem_append] at hx
    rcases hx with (hx | hx) | hx
    · exact encL_byte x hx
    · exact enc_byte _ _ (Nat.le_refl _) x hx
    · exact hD x hx
  unfold stW2
  repeat' split
  all_goals first | exact hd | exact wr_byt hd _ encL_byte | exact wr_byt hd _ (hJ _) | exact wrAll_byt (wr_byt hd _ (hJ _)) _ (doesR_byt hD) 3
/-- a write, and the store behind it -/
theorem swrite_st (w : World) (F : List Nat) (ps p bl : Nat) (h : Sh) (d : Dk) (st : StAt w F ps p bl h d) (hF : ∀ f ∈ F, f < w.heap.size) (c k blk : Nat) (hc : c < h.c) (hk : k < h.k) (hb : blk < h.b) (b o : Int) (hbb : 1 ≤ b ∧ b ≤ 1099511627776) (hoo : 1 ≤ o ∧ o ≤ 1099511627776) (dv : Value) (D : List Int) (hD : RdI .u8 w dv D) (hDl : D.length = h.s) (hDb : ∀ x ∈ D, 0 ≤ x ∧ x ≤ 255) (hDo : ∀ x, dv.ownBlock = some x → x ∉ [p, bl]) :
    Calls Try.prog 15 #[.pointer (some ⟨ps, 0, none⟩), .agg #[.int .i64 c, .int .i64 k, .int .i64 b, .int .i64 o, .int .i64 blk, dv]] w fun e w' => e = .returned (.tuple #[.int .i64 (stW2 h d c k blk b o D).1.1, .int .i64 (stW2 h d c k blk b o D).1.2]) ∧ StAt w' F ps p bl h (stW2 h d c k blk b o D).2 ∧ Chg [p, bl] w w' :=
  (swrite w F ps p bl h d st hF c k blk hc hk hb b o hbb hoo dv D hD hDl hDb hDo).mono fun _ _ ⟨h1, h2, h3⟩ => ⟨h1, st.chg h3 h2 (st_byt st.byt c k blk b o hDb) (st_len h d c k blk b o D), h3⟩

/-- the example's disk -/
def exD : Dk := ⟨-1, false, List.replicate 64 []⟩
def exH : Sh := ⟨4, 1, 1, 1⟩
def exD2 : Dk := (stW2 exH exD 0 0 2 1 1 [7]).2
theorem exH_ok : exH.Ok := ⟨by decide, by decide, by decide, by decide, by decide, by decide, by decide, by decide⟩
theorem rep_byt (n : Nat) : Byt ⟨-1, false, List.replicate n []⟩ := by
  intro i x hx
  by_cases hi : i < n
  · simp [List.getD, hi] at hx
  · simp [List.getD, hi] at hx
theorem ex1 : (stW2 exH exD 0 0 2 1 1 [7]).1 = (0, 0) := by decide +kernel
theorem ex2 : (stW2 exH exD2 0 0 2 1 1 [7]).1 = (0, 0) := by decide +kernel
theorem ex3 : sBlk 1 ((stW2 exH exD2 0 0 2 1 1 [7]).2.rows.getD 3 []) = (1, [7]) := by decide +kernel

set_option maxRecDepth 100000 in
set_option maxHeartbeats 2000000 in
theorem wakes06 (w : World) : Calls Try.prog 9 #[] w fun e w' => e = .returned (.bool true) ∧ Ext w w' := by
  go_enter Try.func9, Try.ntmps9
  go_wp2_with fail
  refine (dnew_any 64 _ (by omega) (by omega)).mono ?_
  rintro e w1 ⟨p, bl, rfl, h1, hp, hb, hp1, hb1, hx1⟩
  have h1 := h1 [p, bl] (by simp) (by simp)
  have hS : ∀ s ∈ [p, bl], w.heap.size ≤ s := by simp; omega
  rw [show dskN 64 = 64 by decide] at h1
  have HO := Lib.hid (sopen w1 [p, bl] p bl exH exD h1 (rep_byt 64) (by simp; omega) exH_ok (by decide +kernel) (by decide +kernel) : Calls Try.prog 14 #[.pointer (some ⟨p, 0, none⟩), .agg #[.int .i64 4, .int .i64 1, .int .i64 1, .int .i64 1]] w1 _)
  have HSS := Lib.hid hS
  have HPL : Hid (∀ s ∈ [p, bl], s < w1.heap.size) := Lib.hid (by simp; omega)
  clear h1 hS hp hb hp1 hb1
  go_wp2_with fail
  refine HO.out.mono ?_
  rintro e w2 ⟨ps, rfl, hst, hps, hx2⟩
  have HST := Lib.hid hst
  have hX2 := hx1.trans hx2
  have HPL2 : Hid (∀ s ∈ [p, bl], s < w2.heap.size) := Lib.hid (fun s hs => Nat.lt_of_lt_of_le (HPL.out s hs) hx2.size)
  clear hst hps HPL hx1 hx2
  go_upto_region 5 with fail
  have hxA : Ext w2 ((w2.alloc (.cells #[.int .u8 7] 5)).alloc (.cells #[.int .i64 0, .int .i64 0, .int .i64 1, .int .i64 1, .int .i64 2, .slice (some ⟨w2.heap.size, 0, none⟩) 1 1] 38)) := ((Ext.refl w2).alloc _).alloc _
  have hrd : RdI .u8 ((w2.alloc (.cells #[.int .u8 7] 5)).alloc (.cells #[.int .i64 0, .int .i64 0, .int .i64 1, .int .i64 1, .int .i64 2, .slice (some ⟨w2.heap.size, 0, none⟩) 1 1] 38)) (.slice (some ⟨w2.heap.size, 0, none⟩) 1 1) [7] := (RdI.one .u8 w2 7 _).ext ((Ext.refl _).alloc _)
  have e0 := cell_new1 w2 (.cells #[.int .u8 7] 5) #[.int .i64 0, .int .i64 0, .int .i64 1, .int .i64 1, .int .i64 2, .slice (some ⟨w2.heap.size, 0, none⟩) 1 1] 38 (0, 0) (j := 0) rfl
  have e1 := cell_new1 w2 (.cells #[.int .u8 7] 5) #[.int .i64 0, .int .i64 0, .int .i64 1, .int .i64 1, .int .i64 2, .slice (some ⟨w2.heap.size, 0, none⟩) 1 1] 38 (0, 0) (j := 1) rfl
  have e2 := cell_new1 w2 (.cells #[.int .u8 7] 5) #[.int .i64 0, .int .i64 0, .int .i64 1, .int .i64 1, .int .i64 2, .slice (some ⟨w2.heap.size, 0, none⟩) 1 1] 38 (0, 0) (j := 2) rfl
  have e3 := cell_new1 w2 (.cells #[.int .u8 7] 5) #[.int .i64 0, .int .i64 0, .int .i64 1, .int .i64 1, .int .i64 2, .slice (some ⟨w2.heap.size, 0, none⟩) 1 1] 38 (0, 0) (j := 3) rfl
  have e4 := cell_new1 w2 (.cells #[.int .u8 7] 5) #[.int .i64 0, .int .i64 0, .int .i64 1, .int .i64 1, .int .i64 2, .slice (some ⟨w2.heap.size, 0, none⟩) 1 1] 38 (0, 0) (j := 4) rfl
  have e5 := cell_new1 w2 (.cells #[.int .u8 7] 5) #[.int .i64 0, .int .i64 0, .int .i64 1, .int .i64 1, .int .i64 2, .slice (some ⟨w2.heap.size, 0, none⟩) 1 1] 38 (0, 0) (j := 5) rfl
  generalize ((w2.alloc (.cells #[.int .u8 7] 5)).alloc (.cells #[.int .i64 0, .int .i64 0, .int .i64 1, .int .i64 1, .int .i64 2, .slice (some ⟨w2.heap.size, 0, none⟩) 1 1] 38)) = w3 at *
  obtain ⟨q, hq⟩ : ∃ q, q = w2.heap.size := ⟨_, rfl⟩
  rw [← hq] at e0 e1 e2 e3 e4 e5 hrd ⊢
  have hne : ∀ x, (Value.slice (some ⟨q, 0, none⟩) 1 1).ownBlock = some x → x ∉ [p, bl] := fun x hx hm => by
    cases hx
    have := HPL2.out _ hm
    simp only at this
    omega
  have N1 : q + 1 ∉ [p, bl] := fun hm => by have := HPL2.out _ hm; omega
  have HNE := Lib.hid hne
  have hF3 : ∀ f ∈ [p, bl], f < w3.heap.size := fun f hf => Nat.lt_of_lt_of_le (HPL2.out f hf) hxA.size
  have HW1 := Lib.hid (swrite_st w3 [p, bl] ps p bl exH exD (HST.out.ext hxA) hF3 0 0 2 (by decide) (by decide) (by decide) 1 1 (by decide) (by decide) _ [7] hrd rfl (by simp) hne : Calls Try.prog 15 #[.pointer (some ⟨ps, 0, none⟩), .agg #[.int .i64 0, .int .i64 0, .int .i64 1, .int .i64 1, .int .i64 2, .slice (some ⟨q, 0, none⟩) 1 1]] w3 _)
  simp only [ex1] at HW1
  have hX3 := hX2.trans hxA
  have HRD := Lib.hid hrd
  have HF3 := Lib.hid hF3
  clear hxA hq hne hrd hF3
  go_wp2_with fail
  refine HW1.out.mono ?_
  rintro e w4 ⟨rfl, hst4, hc4⟩
  have e0 := chg_cellc hc4 e0 N1
  have e1 := chg_cellc hc4 e1 N1
  have e2 := chg_cellc hc4 e2 N1
  have e3 := chg_cellc hc4 e3 N1
  have e4 := chg_cellc hc4 e4 N1
  have e5 := chg_cellc hc4 e5 N1
  have hrd4 := HRD.out.chgc hc4 (fun _ => HNE.out)
  have hF4 : ∀ f ∈ [p, bl], f < w4.heap.size := fun f hf => Nat.lt_of_lt_of_le (HF3.out f hf) hc4.size
  have HW2 := Lib.hid (swrite_st w4 [p, bl] ps p bl exH exD2 hst4 hF4 0 0 2 (by decide) (by decide) (by decide) 1 1 (by decide) (by decide) _ [7] hrd4 rfl (by simp) HNE.out : Calls Try.prog 15 #[.pointer (some ⟨ps, 0, none⟩), .agg #[.int .i64 0, .int .i64 0, .int .i64 1, .int .i64 1, .int .i64 2, .slice (some ⟨q, 0, none⟩) 1 1]] w4 _)
  simp only [ex2] at HW2
  have hX4 := hX3.chg hc4 HSS.out
  clear hst4 hF4 hrd4
  go_wp2_with fail
  refine HW2.out.mono ?_
  rintro e w5 ⟨rfl, hst5, hc5⟩
  have hX5 := hX4.chg hc5 HSS.out
  have HRR := Lib.hid (sRead w5 [p, bl] ps p bl exH _ hst5 2 (by decide) : Calls Try.prog 22 #[.pointer (some ⟨ps, 0, none⟩), .int .i64 2] w5 _)
  have e9 : sBlk exH.s ((stW2 exH exD2 0 0 2 1 1 [7]).2.rows.getD (1 + 2) []) = (1, [7]) := ex3
  simp only [e9] at HRR
  clear hst5 e9 e0 e1 e2 e3 e4 e5
  go_wp2_with fail
  refine HRR.out.mono ?_
  rintro e w6 ⟨vt, rfl, ho, hx6⟩
  obtain ⟨aT, nT, cT, rfl⟩ := ho.rd.isSlice
  have HOO := Lib.hid ho.rd
  have hX6 := hX5.trans hx6
  clear ho hx6
  go_wp2_with fail
  refine (same_any _ _ [7] [7] _ (HOO.out.ext ((Ext.refl _).alloc _)) (RdI.one .u8 _ 7 _)).mono ?_
  rintro e w7 ⟨rfl, hx7⟩
  go_wp2_with fail
  go_ret
  exact ⟨rfl, (by repeat' (first | (with_reducible exact Ext.refl _) | (with_reducible assumption) | (with_reducible refine Ext.alloc ?_ _) | (with_reducible refine Ext.drewN ?_ _) | (with_reducible refine Ext.drew ?_) | (with_reducible refine Ext.trans ?_ (by assumption))))⟩
end Go.Proofs.Ytoadjmeopamgbaa
