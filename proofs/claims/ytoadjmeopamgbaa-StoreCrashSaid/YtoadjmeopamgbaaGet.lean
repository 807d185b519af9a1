/-
  raw.Get, GetText, GetTruth: what they get of bytes. No condition but that the slices read.
-/
import Derived.Test.YtoadjmeopamgbaaClone
import Derived.Test.YtoadjmeopamgbaaRawFn
namespace Go.Proofs.Ytoadjmeopamgbaa
open Go.RowKit

theorem within_any (a : Option Addr) (n c : Nat) (at_ : Int) (w : World) :
    Calls Try.prog 58 #[.slice a n c, .int .i64 at_] w fun e w' => e = .returned (.bool (decide (0 ≤ at_ ∧ at_ ≤ n))) ∧ w = w' := by
  by_cases h0 : 0 ≤ at_
  · by_cases h1 : at_ ≤ n
    · go_enter Try.func58, Try.ntmps58
      go_wp2
      go_ret
      exact ⟨ret_bool (by simp [h0, h1]), rfl⟩
    · go_enter Try.func58, Try.ntmps58
      go_wp2
      go_ret
      exact ⟨ret_bool (by simp [h1]), rfl⟩
  · have hd : decide (0 ≤ at_) = false := by simpa using h0
    go_enter Try.func58, Try.ntmps58
    go_wp2
    go_ret
    exact ⟨ret_bool (by simp), rfl⟩

theorem within_is (a : Option Addr) (n c : Nat) (at_ : Int) (w : World) (r : Bool) (hr : decide (0 ≤ at_ ∧ at_ ≤ n) = r) :
    Calls Try.prog 58 #[.slice a n c, .int .i64 at_] w fun e w' => e = .returned (.bool r) ∧ w = w' := by
  subst hr; exact within_any a n c at_ w

/-- what holds at the label 'more' -/
def GetJ (l : List Int) (v : Value) (p : Nat) (W : World) (a : Act) (w : World) : Prop :=
  ∃ (i acc : Nat) (u2 u3 u8 u9 u10 u11 u12 u13 u14 u15 u16 u17 u18 u19 u20 u21 u22 u23 u24 u25 u26 u27 u28 u29 u30 u31 u32 u33 u34 u35 u36 u37 u38 u39 u40 u41 u42 u43 u44 u45 u46 u47 u48 : Value),
    a = { tmps := #[v, .int .i64 p, u2, u3, .int .i64 acc, .int .i64 0, .int .i64 0, .int .i64 i, u8, u9, u10, u11, u12, u13, u14, u15, u16, u17, u18, u19, u20, u21, u22, u23, u24, u25, u26, u27, u28, u29, u30, u31, u32, u33, u34, u35, u36, u37, u38, u39, u40, u41, u42, u43, u44, u45, u46, u47, u48], defers := [] } ∧
    i ≤ 8 ∧ acc < 128 ^ i ∧ p + i ≤ l.length ∧ getL (l.drop p) 0 0 = getL (l.drop (p + i)) i acc ∧ W = w

set_option maxRecDepth 100000 in
set_option maxHeartbeats 1000000 in
theorem get_in (v : Value) (l : List Int) (p : Nat) (w : World) (h : RdI .u8 w v l) (hb : ∀ x ∈ l, 0 ≤ x ∧ x ≤ 255) (hp : p ≤ l.length) (hl : l.length ≤ 9223372036854775000) :
    Calls Try.prog 55 #[v, .int .i64 p] w fun e w' =>
      e = .returned (.tuple #[.int .i64 (getN l p).1, .int .i64 (getN l p).2.1, .int .i64 (getN l p).2.2]) ∧ w = w' := by
  obtain ⟨a, c, rfl, hc, hm, hn, hs⟩ := h.parts
  clear hm hn hc
  have HS := Lib.hid hs
  have HB := Lib.hid hb
  have hg : getN l p = (match getL (l.drop p) 0 0 with | (n, k, e) => if e = 0 then ((n : Int), (p : Int) + k, 0) else (0, 0, (e : Int))) := by
    unfold getN; rw [if_pos ⟨by omega, by omega⟩, Int.toNat_natCast]
  have HG := Lib.hid hg
  clear hs hb h hg
  have HW := Lib.hid (within_any a l.length c p w)
  have hd : decide (0 ≤ (p : Int) ∧ (p : Int) ≤ (l.length : Int)) = true := by simp; omega
  go_enter Try.func55, Try.ntmps55
  go_wp2_with fail
  refine wp_scope_label 0 (GetJ l (.slice a l.length c) p w) (fun a' _ => 9 - (intOf (a'.tmps.getD 7 undef)).toNat) rfl ?_ ?_
  · rintro a' w' ⟨i, acc, u2, u3, u8, u9, u10, u11, u12, u13, u14, u15, u16, u17, u18, u19, u20, u21, u22, u23, u24, u25, u26, u27, u28, u29, u30, u31, u32, u33, u34, u35, u36, u37, u38, u39, u40, u41, u42, u43, u44, u45, u46, u47, u48, rfl, hi, hacc, hpi, heq, rfl⟩
    have HE := Lib.hid heq
    have HA := Lib.hid hacc
    clear heq hacc
    by_cases hend : p + i = l.length
    · have hend' : (((p : Int) + (i : Int)) == (l.length : Int)) = true := by simp; omega
      have hres : getN l p = (0, 0, 1) := by rw [HG.out, HE.out, hend, List.drop_length]; rfl
      have HR := Lib.hid hres
      clear hend hres
      go_wp2
      simp only [Exit.jump]
      go_ret3
      refine ⟨?_, rfl⟩
      rw [HR.out]; rfl
    · have hlt : p + i < l.length := by omega
      have hend' : (((p : Int) + (i : Int)) == (l.length : Int)) = false := by simp; omega
      clear hend
      obtain ⟨b, o, rfl, hbl, hcell⟩ := HS.out (by intro h; rw [h] at hlt; simp at hlt)
      have hcl := hcell (p + i) hlt
      have hx0 := HB.out _ (getD_mem hlt)
      have hdr := drop_at hlt
      obtain ⟨x, hx⟩ : ∃ x, x = l.getD (p + i) 0 := ⟨_, rfl⟩
      rw [← hx] at hcl hx0 hdr
      have HD := Lib.hid hdr
      obtain ⟨hxa, hxb⟩ := hx0
      clear hcell hdr hx HS
      have hil : ((p : Int) + (i : Int)) < (l.length : Int) := by omega
      by_cases hbig : 128 ≤ x
      · have hz : (x == 0) = false := by simp; omega
        by_cases h9 : i = 8
        · subst h9
          have hres : getN l p = (0, 0, 2) := by
            rw [HG.out, HE.out, HD.out, getL_nine hbig]; rfl
          have HR := Lib.hid hres
          clear hres
          go_wp2
          simp only [Exit.jump]
          go_ret3
          refine ⟨?_, rfl⟩
          rw [HR.out]; rfl
        · have hi7 : i ≤ 7 := by omega
          have h9' : (((i : Int) + 1) == 9) = false := by simp; omega
          have HI := Lib.hid h9
          clear h9
          go_wp2
          go_step3
          rw [get_bits acc i x hxa hxb (by omega) HA.out]
          refine ⟨rfl, ⟨i + 1, acc + (x % 128).toNat * 128 ^ i, _, _, _, _, _, _, _, _, _, _, _, _, _, _, _, _, _, _, _, _, _, _, _, _, _, _, _, _, _, _, _, _, _, _, _, _, _, _, _, _, _, _, _, rfl, by omega, pow128_succ i acc x HA.out, by omega, ?_, rfl⟩, ?_⟩
          · rw [HE.out, HD.out, getL_more hbig HI.out]
            rfl
          · simp [intOf]; omega
      · have hsm : x < 128 := by omega
        by_cases hz : x = 0 ∧ 0 < i
        · obtain ⟨hx0, hip⟩ := hz
          have hres : getN l p = (0, 0, 2) := by
            rw [HG.out, HE.out, HD.out, getL_zero hx0 hip]; rfl
          have HR := Lib.hid hres
          have hz1 : (x == 0) = true := by simp; exact hx0
          clear hres hx0
          go_wp2
          simp only [Exit.jump]
          go_ret3
          refine ⟨?_, rfl⟩
          rw [HR.out]; rfl
        · have hres : getN l p = (((acc + (x % 128).toNat * 128 ^ i : Nat) : Int), (p : Int) + ((i : Int) + 1), 0) := by
            rw [HG.out, HE.out, HD.out, getL_ends hsm hz]; simp
          have HR := Lib.hid hres
          clear hres
          by_cases hz0 : x = 0
          · have hz1 : (x == 0) = true := by simp; exact hz0
            have hi0 : ¬ (0 < (i : Int)) := by have := fun h => hz ⟨hz0, h⟩; omega
            clear hz hz0
            go_wp2
            simp only [Exit.jump]
            go_ret3
            refine ⟨?_, rfl⟩
            rw [HR.out, ← get_bits acc i x hxa hxb hi HA.out]; rfl
          · have hz1 : (x == 0) = false := by simp; exact hz0
            clear hz hz0
            go_wp2
            simp only [Exit.jump]
            go_ret3
            refine ⟨?_, rfl⟩
            rw [HR.out, ← get_bits acc i x hxa hxb hi HA.out]; rfl
  · intro hpass
    have HP := Lib.hid hpass
    clear hpass
    go_wp2_with (go_at_call 58; refine HW.out.mono ?_; rintro e w1 ⟨rfl, rfl⟩)
    go_step3
    rename_i K hK
    show K _ _
    refine hK _ _ (HP.out _ _ ?_)
    exact ⟨0, 0, _, _, _, _, _, _, _, _, _, _, _, _, _, _, _, _, _, _, _, _, _, _, _, _, _, _, _, _, _, _, _, _, _, _, _, _, _, _, _, _, _, _, _, rfl, by omega, by simp, hp, rfl, rfl⟩
theorem getN_out {l : List Int} {at_ : Int} (h : ¬(0 ≤ at_ ∧ at_ ≤ l.length)) : getN l at_ = (0, 0, 3) := by unfold getN; rw [if_neg h]

theorem get_any (v : Value) (l : List Int) (p : Int) (w : World) (h : RdI .u8 w v l) (hb : ∀ x ∈ l, 0 ≤ x ∧ x ≤ 255) (hl : l.length ≤ 9223372036854775000) :
    Calls Try.prog 55 #[v, .int .i64 p] w fun e w' =>
      e = .returned (.tuple #[.int .i64 (getN l p).1, .int .i64 (getN l p).2.1, .int .i64 (getN l p).2.2]) ∧ w = w' := by
  by_cases hp : 0 ≤ p ∧ p ≤ l.length
  · obtain ⟨k, rfl⟩ := Int.eq_ofNat_of_zero_le hp.1
    exact get_in v l k w h hb (by omega) hl
  · rw [getN_out hp]
    obtain ⟨a, c, rfl, hc, hm, hn, hs⟩ := h.parts
    clear hm hn hc hs h hb
    have HW := Lib.hid (within_any a l.length c p w)
    have hd : decide (0 ≤ p ∧ p ≤ (l.length : Int)) = false := by simpa using hp
    clear hp
    go_enter Try.func55, Try.ntmps55
    go_wp2_with fail
    apply wp_scope_straight
    go_wp2_with (go_at_call 58; refine HW.out.mono ?_; rintro e w1 ⟨rfl, rfl⟩)
    rw [Exit.noGoto_ret]
    go_ret3
    exact ⟨rfl, rfl⟩

/-- raw.GetText -/
def getT (l : List Int) (at_ most : Int) : List Int × Int × Int :=
  if (getN l at_).2.2 ≠ 0 then ([], 0, (getN l at_).2.2)
  else if most < (getN l at_).1 then ([], 0, 4)
  else if (l.length : Int) - (getN l at_).2.1 < (getN l at_).1 then ([], 0, 1)
  else ((l.drop (getN l at_).2.1.toNat).take (getN l at_).1.toNat, (getN l at_).2.1 + (getN l at_).1, 0)

theorem getL_bd : ∀ (l : List Int) (i acc : Nat), acc < 128 ^ i → i ≤ 8 → (getL l i acc).2.2 = 0 → (getL l i acc).1 < 128 ^ 9 ∧ i < (getL l i acc).2.1 ∧ (getL l i acc).2.1 ≤ i + l.length := by
  intro l
  induction l with
  | nil => intro i acc _ _ h; simp [getL] at h
  | cons c t ih =>
    intro i acc ha hi h
    by_cases hc : 128 ≤ c
    · by_cases h8 : i = 8
      · subst h8; rw [getL_nine hc] at h; simp at h
      · rw [getL_more hc h8] at h ⊢
        have := ih (i + 1) _ (pow128_succ i acc c ha) (by omega) h
        simp; omega
    · by_cases hz : c = 0 ∧ 0 < i
      · rw [getL_zero hz.1 hz.2] at h; simp at h
      · rw [getL_ends (by omega) hz]
        have h1 := pow128_succ i acc c ha
        have h2 : 128 ^ (i + 1) ≤ 128 ^ 9 := Nat.pow_le_pow_right (by decide) (by omega)
        simp; omega

theorem getN_bd {l : List Int} {at_ : Int} (h : (getN l at_).2.2 = 0) : 0 ≤ at_ ∧ 0 ≤ (getN l at_).1 ∧ (getN l at_).1 < 9223372036854775808 ∧ at_ < (getN l at_).2.1 ∧ (getN l at_).2.1 ≤ l.length := by
  by_cases hp : 0 ≤ at_ ∧ at_ ≤ l.length
  · obtain ⟨k, rfl⟩ := Int.eq_ofNat_of_zero_le hp.1
    unfold getN at h ⊢
    rw [if_pos hp] at h ⊢
    rw [Int.toNat_natCast] at h ⊢
    have hb := getL_bd (l.drop k) 0 0 (by simp) (by omega)
    rcases hg : getL (l.drop k) 0 0 with ⟨n, j, e⟩
    rw [hg] at h hb
    simp only at h hb ⊢
    by_cases he : e = 0
    · rw [if_pos he] at h ⊢
      obtain ⟨h1, h2, h3⟩ := hb he
      rw [List.length_drop] at h3
      have h9 : (128 : Nat) ^ 9 = 9223372036854775808 := by decide
      simp only
      omega
    · rw [if_neg he] at h; simp at h; omega
  · rw [getN_out hp] at h; simp at h

end Go.Proofs.Ytoadjmeopamgbaa
