/-
  uni.Stack.Drop, and what it does as a plain function. No condition but that the stack lies in memory.
-/
import Derived.Test.YtibcfmnkpemieaaUniUse
namespace Go.Proofs.Ytibcfmnkpemieaa
open Go.RowKit

/-- a stack without a block -/
def dropM (M : List Nat) (lv : Nat → Nat) (b : Int) : List Nat × (Nat → Nat) :=
  if b ∈ asInts M then pruneU (M.filter (· ≠ b.toNat)).length (M.filter (· ≠ b.toNat)) (updN lv b.toNat 0) else (M, lv)

theorem Stk.drop {M : List Nat} {lv : Nat → Nat} (h : Stk M lv) {b : Nat} (hb : b ∈ M) : Stk (M.filter (· ≠ b)) (updN lv b 0) := by
  refine ⟨h.nodup.filter _, fun c hc => h.lt c (List.mem_filter.1 hc).1, fun c => ?_, fun c => ?_⟩
  · unfold updN; split
    · omega
    · exact h.le c
  · rw [List.mem_filter]
    by_cases e : c = b
    · subst e; simp [updN_same]
    · rw [updN_other lv 0 e, h.mem c]; simp [e]
theorem setCn_drop {M : List Nat} {lv : Nat → Nat} (h : Stk M lv) {b : Nat} (hb : b ∈ M) (l : Nat) : setCn lv (cnU M lv) b 0 l = cnU (M.filter (· ≠ b)) (updN lv b 0) l := by
  rw [setCn_at]
  have hl0 : lv b ≠ 0 := (h.mem _).1 hb
  unfold cnU
  by_cases hl : l = 0
  · subst hl
    have := nodup_filter_length h.nodup hb
    rw [if_pos rfl, if_pos rfl, if_neg (by omega), if_pos rfl]
    omega
  · rw [if_neg hl, if_neg hl]
    have h1 := cntU_split h.nodup (lv := lv) l hb
    rw [cntU_upd l not_mem_filter]
    have e0 : (if 0 = l then (1 : Int) else 0) = 0 := if_neg (by omega)
    rw [e0]
    by_cases hx : lv b = l
    · rw [if_pos hx] at h1 ⊢; omega
    · rw [if_neg hx] at h1 ⊢; omega

section
variable (pu bs be : Nat) (caps : Nat → Nat) (M : List Nat) (lv : Nat → Nat) (w : World) (h : UniAt w pu bs be caps M lv)
include h
set_option maxHeartbeats 1000000 in
theorem udrop (b : Int) (r : Bool) (hr : decide (b ∈ asInts M) = r) :
    Calls Try.prog 21 #[.pointer (some ⟨pu, 0, none⟩), .int .i64 b] w fun e w' => e = .returned (.bool r) ∧ UniAt w' pu bs be caps (dropM M lv b).1 (dropM M lv b).2 ∧ Chg [pu, bs, be] w w' := by
  have c0 := h.obj.c0
  have HU := Lib.hid h
  by_cases hb : b ∈ asInts M
  · obtain rfl : true = r := by rw [← hr]; simp [hb]
    obtain ⟨h0, hm⟩ := mem_asInts.1 hb
    obtain ⟨k, rfl⟩ := Int.eq_ofNat_of_zero_le h0
    simp only [Int.toNat_natCast] at hm hb h0 ⊢
    have hk := h.stk.lt k hm
    have hl0 : lv k ≠ 0 := (h.stk.mem k).1 hm
    have hle := h.stk.le k
    have hdr : dropM M lv (k : Int) = pruneU (M.filter (· ≠ k)).length (M.filter (· ≠ k)) (updN lv k 0) := by unfold dropM; rw [if_pos hb]; simp
    rw [hdr]
    obtain ⟨l, hl⟩ : ∃ l, lv k = l := ⟨_, rfl⟩
    rw [hl] at hl0 hle
    have hlb : ((l : Int) == 0) = false := by rw [beq_eq_false_iff_ne]; omega
    have HB := Lib.hid hb
    have HM := Lib.hid hm
    have HL := Lib.hid hl
    clear h hb hm hr hdr hl
    go_enter Try.func21, Try.ntmps21
    go_wp2_with fail
    refine (ulevel pu bs caps lv _ k l (by rw [if_pos ⟨by omega, by omega⟩]; simpa using HL.out) _ HU.out.obj).mono ?_
    rintro e w1 ⟨rfl, rfl⟩
    go_wp2_with fail
    refine (remove_any bs be [M] k _ HU.out.space).mono ?_
    rintro e w2 ⟨rfl, hs2, hc2⟩
    have hone := remove_one (space_held HU.out.space) (b := (k : Int)) HB.out
    rw [hone.2] at hs2
    have hs2' : SpaceAt w2 bs be [M.filter (· ≠ k)] := by simpa [cutL] using hs2
    have hu2 := HU.out.obj.chg hc2 (by have := HU.out.n1; have := HU.out.n2; simp; omega)
    have HS2 := Lib.hid hs2'
    have HC2 := Lib.hid hc2
    have HU2 := Lib.hid hu2
    clear hone hs2 hs2' hc2 hu2
    go_wp2_with fail
    refine (uset pu bs caps lv _ k 0 _ HU2.out hk (by omega) (by have := HL.out; omega) (fun l => by have := cnU_bd (lv := lv) HU.out.len l; omega)).mono ?_
    rintro e w3 ⟨rfl, hu3, hc3⟩
    have hU3 : UniAt w3 pu bs be caps (M.filter (· ≠ k)) (updN lv k 0) :=
      ⟨uat_congr hu3 (fun l _ => setCn_drop HU.out.stk HM.out l), HU.out.n1, HU.out.n2, HS2.out.chg hc3 (by have := HU.out.n1; simp; omega) (by have := HU.out.n2; simp; omega), HU.out.stk.drop HM.out⟩
    have hC3 : Chg [pu, bs, be] w w3 := (HC2.out.mono (fun s hs => by simp at hs; rcases hs with rfl | rfl <;> simp)).trans (hc3.mono (by simp))
    have HU3 := Lib.hid hU3
    have HC3 := Lib.hid hC3
    clear hu3 hc3 hU3 hC3
    go_wp2_with fail
    refine (uprune pu bs be caps _ _ _ HU3.out).mono ?_
    rintro e w4 ⟨rfl, hU4, hc4⟩
    go_wp2_with fail
    go_ret
    exact ⟨rfl, hU4, HC3.out.trans hc4⟩
  · obtain rfl : false = r := by rw [← hr]; simp [hb]
    have hdr : dropM M lv b = (M, lv) := by unfold dropM; rw [if_neg hb]
    rw [hdr]
    have hl : (if okB b then lv b.toNat else 0) = 0 := by
      split
      · rename_i ho
        by_cases e : lv b.toNat = 0
        · exact e
        · exact absurd (mem_asInts.2 ⟨ho.1, (h.stk.mem _).2 e⟩) hb
      · rfl
    have HL := Lib.hid hl
    clear h hb hr hdr hl
    go_enter Try.func21, Try.ntmps21
    go_wp2_with fail
    refine (ulevel pu bs caps lv _ b 0 HL.out _ HU.out.obj).mono ?_
    rintro e w1 ⟨rfl, rfl⟩
    go_wp2_with fail
    go_ret
    exact ⟨rfl, HU.out, Chg.refl _ _⟩
end
end Go.Proofs.Ytibcfmnkpemieaa
