/-
  A list of acts on a disk as it came in; gradinelaw05.long. No condition.
-/
import Derived.Test.YtfnooojgkdjifaaRecs
import Derived.Test.YtfnooojgkdjifaaDiskWakes
namespace Go.Proofs.Ytfnooojgkdjifaa
open Go.RowKit

/-- what an act is: its kind, its place, its bytes -/
def ActsAt (w : World) (n : Nat) (V : Nat → Nat → Value) (T : Nat → Int × Int × List Int) : Prop :=
  ∀ i, i < n → V i 0 = .int .i64 (T i).1 ∧ V i 1 = .int .i64 (T i).2.1 ∧ RdI .u8 w (V i 2) (T i).2.2 ∧ (-9223372036854775808 ≤ (T i).2.1 ∧ (T i).2.1 ≤ 9223372036854775807)
theorem acts_of {w : World} {v : Value} (h : IsRecs Try.prog 29 w v) : ∃ n V T, RdV 3 w v n V ∧ ActsAt w n V T := by
  obtain ⟨fs, n, V, he, hr, hc⟩ := h
  have hfs := he.symm.trans Try.underlying29
  simp only [Option.some.injEq, TypeDesc.struct.injEq] at hfs
  subst hfs
  have each : ∀ i, ∃ t : Int × Int × List Int, i < n → V i 0 = .int .i64 t.1 ∧ V i 1 = .int .i64 t.2.1 ∧ RdI .u8 w (V i 2) t.2.2 ∧ (-9223372036854775808 ≤ t.2.1 ∧ t.2.1 ≤ 9223372036854775807) := by
    intro i
    by_cases hi : i < n
    · obtain ⟨k, hk, _⟩ := (hc i 0 _ hi rfl).int Try.underlying3
      obtain ⟨a, ha, wa⟩ := (hc i 1 _ hi rfl).int Try.underlying3
      obtain ⟨b, hb, _⟩ := (hc i 2 _ hi rfl).ints Try.underlying23 Try.underlying5 (by kernel_rfl)
      exact ⟨(k, a, b), fun _ => ⟨hk, ha, hb, i64_bd wa⟩⟩
    · exact ⟨(0, 0, []), fun h => absurd h hi⟩
  obtain ⟨T, hT⟩ := Classical.axiomOfChoice each
  exact ⟨n, V, T, hr, hT⟩

theorem row3_cells {w w' : World} {b o n k : Nat} {V : Nat → Nat → Value} (hx : Ext w w') (hb : b < w.heap.size) (hc : ∀ i f, i < n → f < 3 → w.cell? ⟨b, o + (i * 3 + f), none⟩ = some (V i f)) (hk : k < n) :
    w'.cell? ⟨b, o + k * 3, none⟩ = some (V k 0) ∧ w'.cell? ⟨b, o + k * 3 + 1, none⟩ = some (V k 1) ∧ w'.cell? ⟨b, o + k * 3 + 2, none⟩ = some (V k 2) :=
  ⟨(hx.cell hb).trans (hc k 0 hk (by omega)), (hx.cell hb).trans (hc k 1 hk (by omega)), (hx.cell hb).trans (hc k 2 hk (by omega))⟩

/-- 'long' answers something; if that is false the list is short, and so is what is written -/
theorem long05_any (v : Value) (n : Nat) (V : Nat → Nat → Value) (T : Nat → Int × Int × List Int) (w : World) (hr : RdV 3 w v n V) (hT : ActsAt w n V T) :
    Calls Try.prog 14 #[v] w fun e w' => (∃ r, e = .returned (.bool r) ∧ (r = false → n ≤ 100 ∧ ∀ i, i < n → (T i).2.2.length ≤ 200)) ∧ Ext w w' := by
  obtain ⟨a, c, rfl, hnc, hcm, hnil, hs⟩ := hr
  have hn63 : (n : Int) ≤ 9223372036854775807 := by unfold maxLen at hcm; omega
  have HS := Lib.hid hs
  have HT := Lib.hid hT
  clear hs hT hnil hnc hcm
  by_cases hA : (100 : Int) < (n : Int)
  · go_enter Try.func14, Try.ntmps14
    go_wp2_with fail
    go_ret
    exact ⟨⟨true, rfl, by simp⟩, (by repeat' (first | (with_reducible exact Ext.refl _) | (with_reducible assumption) | (with_reducible refine Ext.alloc ?_ _) | (with_reducible refine Ext.drewN ?_ _) | (with_reducible refine Ext.drew ?_) | (with_reducible refine Ext.trans ?_ (by assumption))))⟩
  · go_enter Try.func14, Try.ntmps14
    go_wp2_with fail
    go_loopw [9] (fun ci wr => ∃ k : Nat, k ≤ n ∧ ci = .int .i64 k ∧ (∀ i, i < k → (T i).2.2.length ≤ 200) ∧ Ext w wr) (fun ci _ => n - (intOf ci).toNat)
    case atStart => exact ⟨0, Nat.zero_le _, rfl, fun i hi => absurd hi (Nat.not_lt_zero _), Ext.refl _⟩
    case round =>
      obtain ⟨k, hk, rfl, hall, hx⟩ := hrel
      have HALL := Lib.hid hall
      clear hall
      by_cases hlt : k < n
      · obtain ⟨b, o, rfl, hb, hcell⟩ := HS.out (by omega)
        obtain ⟨_, _, e2⟩ := row3_cells hx hb hcell hlt
        obtain ⟨_, _, hrd, _⟩ := HT.out k hlt
        obtain ⟨a2, c2, hv2, _, hcm2, _, _⟩ := hrd.parts
        rw [hv2] at e2
        have hl63 : ((T k).2.2.length : Int) ≤ 9223372036854775807 := by unfold maxLen at hcm2; omega
        have hki : (k : Int) < (n : Int) := by omega
        obtain ⟨len, hlen⟩ : ∃ len, len = (T k).2.2.length := ⟨_, rfl⟩
        have HLEN := Lib.hid hlen
        rw [← hlen] at e2 hl63
        clear hcell hrd hv2 hlen hcm2
        by_cases h200 : (200 : Int) < (len : Int)
        · go_wp2_with fail
          go_ret
          exact ⟨⟨true, rfl, by simp⟩, (by repeat' (first | (with_reducible exact Ext.refl _) | (with_reducible assumption) | (with_reducible refine Ext.alloc ?_ _) | (with_reducible refine Ext.drewN ?_ _) | (with_reducible refine Ext.drew ?_) | (with_reducible refine Ext.trans ?_ (by assumption))))⟩
        · go_wp2_with fail
          go_roundw
          case rel =>
            refine ⟨k + 1, by omega, by go_num, fun i hi => ?_, (by repeat' (first | (with_reducible exact Ext.refl _) | (with_reducible assumption) | (with_reducible refine Ext.alloc ?_ _) | (with_reducible refine Ext.drewN ?_ _) | (with_reducible refine Ext.drew ?_) | (with_reducible refine Ext.trans ?_ (by assumption))))⟩
            by_cases e : i = k
            · subst e; rw [← HLEN.out]; omega
            · exact HALL.out i (by omega)
          case measure => simp [intOf]; omega
      · obtain rfl : k = n := by omega
        go_wp2_with fail
        go_ret
        exact ⟨⟨false, rfl, fun _ => ⟨by omega, HALL.out⟩⟩, (by repeat' (first | (with_reducible exact Ext.refl _) | (with_reducible assumption) | (with_reducible refine Ext.alloc ?_ _) | (with_reducible refine Ext.drewN ?_ _) | (with_reducible refine Ext.drew ?_) | (with_reducible refine Ext.trans ?_ (by assumption))))⟩
end Go.Proofs.Ytfnooojgkdjifaa
