/-
  karma.Cost's helpers: common, wrong, slices.ContainsFunc. No condition but that the numbers are small, and read.
-/
import Derived.Test.YtepnmclgkbphmaaKCostLaw
import Derived.Test.YtepnmclgkbphmaaKLay
namespace Go.Proofs.Ytepnmclgkbphmaa
open Go.RowKit

set_option maxHeartbeats 2000000 in
theorem kcommon (a b : Nat) (ha : 0 < a) (ha1 : a ≤ 200000) (hb : 0 < b) (hb1 : b ≤ 32) (w : World) :
    Calls Try.prog 38 #[.int .i64 (a : Nat), .int .i64 (b : Nat)] w fun e w' => e = .returned (.int .i64 (Nat.lcm a b : Nat)) ∧ Ext w w' := by
  have hai : (a : Int) ≤ 200000 := by omega
  have hbi : (b : Int) ≤ 32 := by omega
  go_enter Try.func38, Try.ntmps38
  go_wp2_with fail
  go_loopw [5, 6] (fun cx cy wr => ∃ x y : Nat, cx = .int .i64 x ∧ cy = .int .i64 y ∧ Nat.gcd x y = Nat.gcd a b ∧ 0 < x ∧ x ≤ 200000 ∧ y ≤ 200000 ∧ Ext w wr) (fun _ cy _ => (intOf cy).toNat)
  case atStart => exact ⟨a, b, rfl, rfl, rfl, ha, ha1, by omega, Ext.refl _⟩
  case round =>
    obtain ⟨x, y, rfl, rfl, hg, hx0, hx1, hy1, hx⟩ := hrel
    have HG := Lib.hid hg
    clear hg
    by_cases hy : y = 0
    · subst hy
      have hgx : Nat.gcd a b = x := by rw [← HG.out]; simp
      have hdv : a / x * b = Nat.lcm a b := by
        rw [← hgx]
        unfold Nat.lcm
        exact Nat.div_mul_right_comm (Nat.gcd_dvd_left a b) b
      have hq : (a : Int) / (x : Int) * (b : Int) = ((Nat.lcm a b : Nat) : Int) := by rw [← hdv]; simp
      have h9 : a / x ≤ 200000 := Nat.le_trans (Nat.div_le_self _ _) ha1
      have h10 : (a : Int) / (x : Int) ≤ 200000 := by rw [← Int.natCast_ediv]; omega
      have h11 : 0 ≤ (a : Int) / (x : Int) := by rw [← Int.natCast_ediv]; exact Int.natCast_nonneg _
      have h12 : (a : Int) / (x : Int) * (b : Int) ≤ 6400000 := by
        rw [← Int.natCast_ediv]
        have := Nat.mul_le_mul h9 hb1
        have e : ((a / x : Nat) : Int) * (b : Int) = ((a / x * b : Nat) : Int) := by simp
        rw [e]; omega
      have h13 : 0 ≤ (a : Int) / (x : Int) * (b : Int) := by rw [hq]; exact Int.natCast_nonneg _
      have hxi : (0 : Int) < (x : Int) := by omega
      have HQ := Lib.hid hq
      clear hq hdv hgx h9
      go_wp2_with fail
      go_ret
      exact ⟨ret_int HQ.out, hx⟩
    · have hyi : ((y : Int) == 0) = false := by rw [beq_eq_false_iff_ne]; omega
      have hyp : (0 : Int) < (y : Int) := by omega
      have hm : (x : Int) % (y : Int) = ((x % y : Nat) : Int) := by simp
      have hml : x % y < y := Nat.mod_lt _ (by omega)
      have hgn : Nat.gcd y (x % y) = Nat.gcd a b := by rw [← HG.out, Nat.gcd_comm x y, Nat.gcd_rec y x, Nat.gcd_comm]
      have HGN := Lib.hid hgn
      have HM := Lib.hid hm
      clear hgn hm
      go_wp2_with fail
      go_quiet (fail)
      go_wp2_with fail
      go_roundw
      case rel => exact ⟨y, x % y, rfl, by rw [← HM.out], HGN.out, by omega, by omega, by omega, (by repeat' (first | (with_reducible exact Ext.refl _) | (with_reducible assumption) | (with_reducible refine Ext.alloc ?_ _) | (with_reducible refine Ext.drewN ?_ _) | (with_reducible refine Ext.drew ?_) | (with_reducible refine Ext.trans ?_ (by assumption))))⟩
      case measure => simp [intOf]; omega

theorem kwrong1 (m : Int) (w : World) : Calls Try.prog 35 #[.int .i64 m] w fun e w' => ∃ pb, e = .returned (.func (.func 36) #[] #[.pointer (some ⟨pb, 0, none⟩)]) ∧ w'.cell? ⟨pb, 0, none⟩ = some (.int .i64 m) ∧ Ext w w' := by
  go_enter Try.func35, Try.ntmps35
  go_wp2_with fail
  go_ret
  exact ⟨_, rfl, cell_new _ _ _ _ rfl, (by repeat' (first | (with_reducible exact Ext.refl _) | (with_reducible assumption) | (with_reducible refine Ext.alloc ?_ _) | (with_reducible refine Ext.drewN ?_ _) | (with_reducible refine Ext.drew ?_) | (with_reducible refine Ext.trans ?_ (by assumption))))⟩
theorem kwrong2 (k m : Int) (pb : Nat) (w : World) (h : w.cell? ⟨pb, 0, none⟩ = some (.int .i64 m)) (r : Bool) (hr : decide (k < 0 ∨ m < k) = r) : Calls Try.prog 36 #[.int .i64 k, .pointer (some ⟨pb, 0, none⟩)] w fun e w' => e = .returned (.bool r) ∧ Ext w w' := by
  by_cases h1 : k < 0
  · have hrr : r = true := by rw [← hr]; exact decide_eq_true (.inl h1)
    subst hrr
    clear hr
    go_enter Try.func36, Try.ntmps36
    go_wp2_with fail
    go_ret
    exact ⟨rfl, (by repeat' (first | (with_reducible exact Ext.refl _) | (with_reducible assumption) | (with_reducible refine Ext.alloc ?_ _) | (with_reducible refine Ext.drewN ?_ _) | (with_reducible refine Ext.drew ?_) | (with_reducible refine Ext.trans ?_ (by assumption))))⟩
  · by_cases h2 : m < k
    · have hrr : r = true := by rw [← hr]; exact decide_eq_true (.inr h2)
      subst hrr
      clear hr
      go_enter Try.func36, Try.ntmps36
      go_wp2_with fail
      go_ret
      exact ⟨rfl, (by repeat' (first | (with_reducible exact Ext.refl _) | (with_reducible assumption) | (with_reducible refine Ext.alloc ?_ _) | (with_reducible refine Ext.drewN ?_ _) | (with_reducible refine Ext.drew ?_) | (with_reducible refine Ext.trans ?_ (by assumption))))⟩
    · have hrr : r = false := by rw [← hr]; exact decide_eq_false (fun h => h.elim h1 h2)
      subst hrr
      clear hr
      go_enter Try.func36, Try.ntmps36
      go_wp2_with fail
      go_ret
      exact ⟨rfl, (by repeat' (first | (with_reducible exact Ext.refl _) | (with_reducible assumption) | (with_reducible refine Ext.alloc ?_ _) | (with_reducible refine Ext.drewN ?_ _) | (with_reducible refine Ext.drew ?_) | (with_reducible refine Ext.trans ?_ (by assumption))))⟩
set_option maxHeartbeats 2000000 in
theorem kindexI (v : Value) (l : List Int) (m : Int) (pb : Nat) (w : World) (h : RdI .i64 w v l) (hl : l.length ≤ 100) (hm : w.cell? ⟨pb, 0, none⟩ = some (.int .i64 m)) (bad : Bool) (hb : decide (∃ x ∈ l, x < 0 ∨ m < x) = bad) :
    Calls Try.prog 42 #[v, .func (.func 36) #[] #[.pointer (some ⟨pb, 0, none⟩)]] w fun e w' => ∃ r : Int, e = .returned (.int .i64 r) ∧ decide (0 ≤ r) = bad ∧ Ext w w' := by
  obtain ⟨a, c, rfl, hlc, hcm, _, hs⟩ := h.parts
  have HS := Lib.hid hs
  have HB := Lib.hid hb
  obtain ⟨n, hn⟩ : ∃ n, n = l.length := ⟨_, rfl⟩
  rw [← hn] at HS hl ⊢
  have HN := Lib.hid hn
  have hni : (n : Int) ≤ 100 := by omega
  clear h hs hb hcm hlc hn
  go_enter Try.func42, Try.ntmps42
  go_wp2_with fail
  go_loopw [8] (fun ci wr => ∃ i : Nat, i ≤ n ∧ ci = .int .i64 i ∧ (∀ j, j < i → ¬ (l.getD j 0 < 0 ∨ m < l.getD j 0)) ∧ Ext w wr) (fun ci _ => n - (intOf ci).toNat)
  case atStart => exact ⟨0, Nat.zero_le _, rfl, fun j hj => absurd hj (by omega), Ext.refl _⟩
  case round =>
    obtain ⟨i, hi, rfl, hno, hx⟩ := hrel
    have HNO := Lib.hid hno
    clear hno
    by_cases hlt : i < n
    · have hii : (i : Int) < (n : Int) := by omega
      obtain ⟨bb, o, rfl, hbb, hcell⟩ := HS.out (by intro e; have := HN.out; rw [e] at this; simp at this; omega)
      have y0 := hx.cellv (hcell i hlt)
      have hmem : l.getD i 0 ∈ l := getD_mem (by have := HN.out; omega)
      have hmr := hx.cellv hm
      obtain ⟨y, hy⟩ : ∃ y, y = l.getD i 0 := ⟨_, rfl⟩
      rw [← hy] at y0 hmem
      have HY := Lib.hid hy
      have HMEM := Lib.hid hmem
      clear hcell hy hmem
      by_cases hd : y < 0 ∨ m < y
      · have HBT : Hid (bad = true) := Lib.hid (by rw [← HB.out]; exact decide_eq_true ⟨y, HMEM.out, hd⟩)
        have HK := Lib.hid (fun w' hm' => kwrong2 y m pb w' hm' true (decide_eq_true hd))
        clear hd
        go_wp2_with fail
        refine (HK.out _ hmr).mono ?_
        rintro e w1 ⟨rfl, hx1⟩
        go_wp2_with fail
        go_ret
        exact ⟨i, rfl, by rw [HBT.out]; exact decide_eq_true (by omega), (by repeat' (first | (with_reducible exact Ext.refl _) | (with_reducible assumption) | (with_reducible refine Ext.alloc ?_ _) | (with_reducible refine Ext.drewN ?_ _) | (with_reducible refine Ext.drew ?_) | (with_reducible refine Ext.trans ?_ (by assumption))))⟩
      · have HN2 : Hid (∀ j, j < i + 1 → ¬ (l.getD j 0 < 0 ∨ m < l.getD j 0)) := Lib.hid (fun j hj => by
          by_cases e : j = i
          · subst e; rw [← HY.out]; exact hd
          · exact HNO.out j (by omega))
        have HK := Lib.hid (fun w' hm' => kwrong2 y m pb w' hm' false (decide_eq_false hd))
        clear hd
        go_wp2_with fail
        refine (HK.out _ hmr).mono ?_
        rintro e w1 ⟨rfl, hx1⟩
        go_wp2_with fail
        go_roundw
        case rel => exact ⟨i + 1, by omega, by go_num, HN2.out, (by repeat' (first | (with_reducible exact Ext.refl _) | (with_reducible assumption) | (with_reducible refine Ext.alloc ?_ _) | (with_reducible refine Ext.drewN ?_ _) | (with_reducible refine Ext.drew ?_) | (with_reducible refine Ext.trans ?_ (by assumption))))⟩
        case measure => simp [intOf]; omega
    · obtain rfl : i = n := by omega
      have HBF : Hid (bad = false) := Lib.hid (by
        rw [← HB.out]
        refine decide_eq_false (fun ⟨x, hx, hd⟩ => ?_)
        obtain ⟨j, hj, rfl⟩ := List.getElem_of_mem hx
        have := HNO.out j (by have := HN.out; omega)
        rw [show l.getD j 0 = l[j] by simp [List.getD, hj]] at this
        exact this hd)
      go_wp2_with fail
      go_ret
      exact ⟨-1, rfl, by rw [HBF.out]; rfl, hx⟩
theorem kcontI (v : Value) (l : List Int) (m : Int) (pb : Nat) (w : World) (h : RdI .i64 w v l) (hl : l.length ≤ 100) (hm : w.cell? ⟨pb, 0, none⟩ = some (.int .i64 m)) (bad : Bool) (hb : decide (∃ x ∈ l, x < 0 ∨ m < x) = bad) :
    Calls Try.prog 37 #[v, .func (.func 36) #[] #[.pointer (some ⟨pb, 0, none⟩)]] w fun e w' => e = .returned (.bool bad) ∧ Ext w w' := by
  have HI := Lib.hid (kindexI v l m pb w h hl hm bad hb)
  clear h hl hm hb
  go_enter Try.func37, Try.ntmps37
  go_wp2_with fail
  refine HI.out.mono ?_
  rintro e w1 ⟨r, rfl, hr, hx1⟩
  have HR := Lib.hid hr
  clear hr
  go_wp2_with fail
  go_ret
  exact ⟨ret_bool HR.out, hx1⟩

set_option maxHeartbeats 2000000 in
theorem rcommon (v : Value) (n : Nat) (F : Nat → Nat → Int) (L : Nat → Bool) (m : Int) (w : World) (h : RdH w v n F L) (ok : HsOk n F m) :
    Calls Try.prog 24 #[v] w fun e w' => e = .returned (.int .i64 (lcmK F n : Nat)) ∧ Ext w w' := by
  have hn8 := ok.2.2
  obtain ⟨a, c, rfl, hnc, hcm, _, hs⟩ := h
  have HS := Lib.hid hs
  have HOK := Lib.hid ok
  have hni : (n : Int) ≤ 8 := by omega
  clear hs hcm ok
  go_enter Try.func24, Try.ntmps24
  go_wp2_with fail
  go_loopw [3, 4] (fun cn ci wr => ∃ i : Nat, i ≤ n ∧ ci = .int .i64 i ∧ cn = .int .i64 (lcmK F i : Nat) ∧ Ext w wr) (fun _ ci _ => n - (intOf ci).toNat)
  case atStart => exact ⟨0, Nat.zero_le _, rfl, rfl, Ext.refl _⟩
  case round =>
    obtain ⟨i, hi, rfl, rfl, hx⟩ := hrel
    by_cases hlt : i < n
    · have hii : (i : Int) < (n : Int) := by omega
      have hi0 : (0 : Int) ≤ (i : Int) := by omega
      obtain ⟨bb, o, rfl, hbb, hcell⟩ := HS.out (by omega)
      have y1 := (hx.cell hbb).trans (hcell i 1 hlt (by omega))
      have hsz : F i 1 = ((kS F i : Nat) : Int) := by have := (HOK.out.1 i hlt).2.1; unfold kS; omega
      simp only [Proofs.Ytepnmclgkbphmaa.HV, ← Nat.add_assoc, if_pos (show (1 : Nat) < 3 by omega), hsz] at y1
      obtain ⟨s1, s2⟩ := kS_le HOK.out hlt
      have l1 := lcmK_le HOK.out (k := i) (by omega)
      have l2 := lcmK_le HOK.out (k := i + 1) (by omega)
      have l3 := lcmK_pos HOK.out (k := i) (by omega)
      have hlc : lcmK F (i + 1) = Nat.lcm (lcmK F i) (kS F i) := rfl
      have HLC := Lib.hid hlc
      obtain ⟨S, hS⟩ : ∃ s, s = kS F i := ⟨_, rfl⟩
      obtain ⟨A, hA⟩ : ∃ s, s = lcmK F i := ⟨_, rfl⟩
      rw [← hS] at y1 s1 s2 HLC
      rw [← hA] at l1 l3 HLC ⊢
      have hSi : (0 : Int) < (S : Int) := by omega
      clear hcell hsz hlc hS hA l2
      obtain ⟨wo, rfl⟩ : ∃ wo : World, wo = wr := ⟨_, rfl⟩
      go_wp2_with fail
      go_loopw [3] (fun cn ws => ∃ j : Nat, 0 < j ∧ j ≤ S ∧ cn = .int .i64 ((j * A : Nat) : Int) ∧ (∀ k, 0 < k → k < j → ¬ S ∣ k * A) ∧ Ext wo ws) (fun cn _ => S * A - (intOf cn).toNat)
      case atStart => exact ⟨1, by omega, s1, by simp, fun k h1 h2 => absurd h2 (by omega), Ext.refl _⟩
      case round =>
        obtain ⟨j, hj0, hjS, rfl, hno, hxs⟩ := hrel
        have HNO := Lib.hid hno
        have y2 := hxs.cellv y1
        have hjA : j * A ≤ 32 * 122900 := Nat.mul_le_mul (by omega) (by omega)
        have hmd : (((j * A : Nat) : Int) % (S : Int)) = ((j * A % S : Nat) : Int) := by simp
        have HMD := Lib.hid hmd
        obtain ⟨B, hB⟩ : ∃ B, B = j * A := ⟨_, rfl⟩
        clear hno hmd
        by_cases hd : S ∣ j * A
        · have HL := Lib.hid (lcm_least l3 hj0 hd HNO.out (by omega))
          have hz : j * A % S = 0 := Nat.mod_eq_zero_of_dvd hd
          have hz2 : ((B : Nat) : Int) % (S : Int) = 0 := by rw [hB, HMD.out, hz]; rfl
          rw [← hB] at hjA ⊢
          have HBB := Lib.hid hB
          clear hd hz hB
          go_wp2_with fail
          go_roundw
          case rel => exact ⟨i + 1, by omega, by go_num, by rw [HBB.out, HLC.out, HL.out], hx.trans hxs⟩
          case measure => simp [intOf]; omega
        · have hjS' : j < S := by
            rcases Nat.lt_or_ge j S with h | h
            · exact h
            · exact absurd (by rw [show j = S by omega]; exact Nat.dvd_mul_right S A) hd
          have hz : j * A % S ≠ 0 := fun h => hd (Nat.dvd_of_mod_eq_zero h)
          have hz2 : ((((B : Nat) : Int) % (S : Int)) == 0) = false := by rw [beq_eq_false_iff_ne, hB, HMD.out]; omega
          have HN2 : Hid (∀ k, 0 < k → k < j + 1 → ¬ S ∣ k * A) := Lib.hid (fun k h1 h2 => by
            by_cases e : k = j
            · rw [e]; exact hd
            · exact HNO.out k h1 (by omega))
          have hsuc : (j + 1) * A = j * A + A := Nat.succ_mul j A
          have hle : (j + 1) * A ≤ S * A := Nat.mul_le_mul_right A hjS'
          rw [hsuc, ← hB] at hle
          rw [← hB] at hsuc hjA ⊢
          have HSUC := Lib.hid hsuc
          clear hd hz hB hsuc HMD
          go_wp2_with fail
          go_roundw
          case rel => exact ⟨j + 1, by omega, hjS', by rw [HSUC.out]; go_num, HN2.out, (by repeat' (first | (with_reducible exact Ext.refl _) | (with_reducible assumption) | (with_reducible refine Ext.alloc ?_ _) | (with_reducible refine Ext.drewN ?_ _) | (with_reducible refine Ext.drew ?_) | (with_reducible refine Ext.trans ?_ (by assumption))))⟩
          case measure => simp [intOf]; omega
    · obtain rfl : i = n := by omega
      go_wp2_with fail
      go_ret
      exact ⟨rfl, hx⟩
end Go.Proofs.Ytepnmclgkbphmaa
