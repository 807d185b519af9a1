/-
  frame.sum, frame.within, gradineref07.Sum. No condition but that the slices read.
-/
import Derived.Test.YtmkobmkaalfecaaFrFn
import Derived.Test.YtmkobmkaalfecaaClone
namespace Go.Proofs.Ytmkobmkaalfecaa
open Go.RowKit

theorem fwithin (n least : Int) (r : Bool) (hr : decide (least ≤ n ∧ n ≤ 1099511627776) = r) (w : World) :
    Calls Try.prog 62 #[.int .i64 n, .int .i64 least] w fun e w' => e = .returned (.bool r) ∧ w = w' := by
  by_cases h1 : least ≤ n
  · have hb : decide (n ≥ least) = true := by simpa using h1
    go_enter Try.func62, Try.ntmps62
    go_wp2
    go_ret
    refine ⟨ret_bool ?_, rfl⟩
    rw [← hr]; first | (simp [h1]; done) | (simp [h1]; omega) | (simp; omega)
  · have hb : decide (n ≥ least) = false := by simpa using h1
    go_enter Try.func62, Try.ntmps62
    go_wp2
    go_ret
    refine ⟨ret_bool ?_, rfl⟩
    rw [← hr]; simp; omega

set_option maxHeartbeats 1000000 in
theorem fsum (v : Value) (l : List Int) (w : World) (h : RdI .u8 w v l) (hb : ∀ x ∈ l, 0 ≤ x ∧ x ≤ 255) (hl : l.length ≤ 100000) :
    Calls Try.prog 59 #[v] w fun e w' => e = .returned (.int .u8 (ssum l)) ∧ w = w' := by
  have HB := Lib.hid hb
  obtain ⟨a, c, rfl, hc, hm, hn, hs⟩ := h.parts
  clear hm hn h hb hc
  have HS := Lib.hid hs
  clear hs
  go_enter Try.func59, Try.ntmps59
  go_wp2
  go_loopw [3, 8] (fun n i wr => ∃ k : Nat, k ≤ l.length ∧ i = .int .i64 k ∧ n = .int .i64 (wsum l k % 251) ∧ wr = w) (fun _ i _ => l.length - (intOf i).toNat)
  case atStart => exact ⟨0, by omega, rfl, rfl, rfl⟩
  case round =>
    obtain ⟨k, hk, rfl, rfl, rfl⟩ := hrel
    have hsuc := wsum_succ l k
    obtain ⟨s, hs⟩ : ∃ s, s = wsum l k := ⟨_, rfl⟩
    rw [← hs] at hsuc
    by_cases hlt : k < l.length
    · have hki : (k : Int) < (l.length : Int) := by omega
      have HSU := Lib.hid hsuc
      have hx0 := HB.out _ (getD_mem hlt)
      obtain ⟨x, hx⟩ : ∃ x, x = l.getD k 0 := ⟨_, rfl⟩
      obtain ⟨b, o, rfl, hbl, hcell⟩ := HS.out (by intro h; rw [h] at hlt; simp at hlt)
      have hcl := hcell k hlt
      rw [← hx] at hcl hx0 HSU
      obtain ⟨hx1, hx2⟩ := hx0
      have hmb := mul_bd (k := k) (M := 100000) (by omega) hx1 hx2
      obtain ⟨hm1, hm2⟩ := hmb
      rw [← hs]
      have hmod : (s % 251 + ((k : Int) + 1) * x).tmod 251 = wsum l (k + 1) % 251 := by
        rw [HSU.out, Int.tmod_eq_emod_of_nonneg (by omega)]; omega
      have HM := Lib.hid hmod
      clear hsuc hcell hx hs hmod HS
      go_wp2
      go_roundw
      case rel => exact ⟨k + 1, by omega, by go_num, by first | (rw [← HM.out]; done) | (rw [← HM.out]; rfl) | (simp; exact HM.out) | (simp; rw [HSU.out]), by first | rfl | trivial⟩
      case measure => simp [intOf]; omega
    · obtain rfl : k = l.length := by omega
      have hss : wsum l l.length % 251 = ssum l := rfl
      have hbd := ssum_bd l
      rw [hss]
      obtain ⟨hb1, hb2⟩ := hbd
      clear hsuc hss hs
      go_wp2
      go_ret
      refine ⟨ret_int ?_, rfl⟩
      first | rfl | (simp; omega) | omega

set_option maxHeartbeats 1000000 in
theorem frefsum (v : Value) (l : List Int) (w : World) (h : RdI .u8 w v l) (hb : ∀ x ∈ l, 0 ≤ x ∧ x ≤ 255) (hl : l.length ≤ 100000) :
    Calls Try.prog 37 #[v] w fun e w' => e = .returned (.int .u8 (ssum l)) ∧ w = w' := by
  have HB := Lib.hid hb
  have HW := Lib.hid (wsum_bd l hb 100000 hl)
  obtain ⟨a, c, rfl, hc, hm, hn, hs⟩ := h.parts
  clear hm hn h hb hc
  have HS := Lib.hid hs
  clear hs
  go_enter Try.func37, Try.ntmps37
  go_wp2
  go_loopw [3, 4] (fun n i wr => ∃ k : Nat, k ≤ l.length ∧ i = .int .i64 k ∧ n = .int .i64 (wsum l k) ∧ wr = w) (fun _ i _ => l.length - (intOf i).toNat)
  case atStart => exact ⟨0, by omega, rfl, rfl, rfl⟩
  case round =>
    obtain ⟨k, hk, rfl, rfl, rfl⟩ := hrel
    have hsuc := wsum_succ l k
    have hwb := HW.out k hk
    obtain ⟨s, hs⟩ : ∃ s, s = wsum l k := ⟨_, rfl⟩
    rw [← hs] at hsuc hwb
    obtain ⟨hwb1, hwb2⟩ := hwb
    by_cases hlt : k < l.length
    · have hki : (k : Int) < (l.length : Int) := by omega
      have HSU := Lib.hid hsuc
      have hx0 := HB.out _ (getD_mem hlt)
      obtain ⟨x, hx⟩ : ∃ x, x = l.getD k 0 := ⟨_, rfl⟩
      obtain ⟨b, o, rfl, hbl, hcell⟩ := HS.out (by intro h; rw [h] at hlt; simp at hlt)
      have hcl := hcell k hlt
      rw [← hx] at hcl hx0 HSU
      obtain ⟨hx1, hx2⟩ := hx0
      have hmb := mul_bd (k := k) (M := 100000) (by omega) hx1 hx2
      obtain ⟨hm1, hm2⟩ := hmb
      rw [← hs]
      clear hsuc hcell hx hs HS
      go_wp2
      go_roundw
      case rel => exact ⟨k + 1, by omega, by go_num, by rw [HSU.out], by first | rfl | trivial⟩
      case measure => simp [intOf]; omega
    · obtain rfl : k = l.length := by omega
      have hss : s % 251 = ssum l := by rw [hs]; rfl
      have HSS := Lib.hid hss
      have hbd := ssum_bd l
      rw [← hss] at hbd
      obtain ⟨hb1, hb2⟩ := hbd
      rw [← hs]
      clear hsuc hss hs
      go_wp2
      go_ret
      refine ⟨ret_int ?_, rfl⟩
      rw [← HSS.out]
end Go.Proofs.Ytmkobmkaalfecaa
