/-
  msg.of, msg.Fields, msg.Right. No condition but that the message's number of bytes is one that a slice may have.
-/
import Derived.Test.YtmkobmkaalfecaaMsNamed
import Derived.Test.YtmkobmkaalfecaaMsField
import Derived.Test.YtmkobmkaalfecaaInts2
namespace Go.Proofs.Ytmkobmkaalfecaa
open Go.RowKit

theorem words_index (k : Nat) (hk : k < 15) (w : World) : (Instr.index 113 (.agg wordsV) (.int .i64 k)).run Try.prog w = .ok (.int .u64 (wordN k)) w := by
  have i0 : ∀ w, (Instr.index 113 (.agg wordsV) (.int .i64 ((0 : Nat) : Int))).run Try.prog w = .ok (.int .u64 ((wordN 0 : Nat) : Int)) w := fun _ => by kernel_rfl
  have i1 : ∀ w, (Instr.index 113 (.agg wordsV) (.int .i64 ((1 : Nat) : Int))).run Try.prog w = .ok (.int .u64 ((wordN 1 : Nat) : Int)) w := fun _ => by kernel_rfl
  have i2 : ∀ w, (Instr.index 113 (.agg wordsV) (.int .i64 ((2 : Nat) : Int))).run Try.prog w = .ok (.int .u64 ((wordN 2 : Nat) : Int)) w := fun _ => by kernel_rfl
  have i3 : ∀ w, (Instr.index 113 (.agg wordsV) (.int .i64 ((3 : Nat) : Int))).run Try.prog w = .ok (.int .u64 ((wordN 3 : Nat) : Int)) w := fun _ => by kernel_rfl
  have i4 : ∀ w, (Instr.index 113 (.agg wordsV) (.int .i64 ((4 : Nat) : Int))).run Try.prog w = .ok (.int .u64 ((wordN 4 : Nat) : Int)) w := fun _ => by kernel_rfl
  have i5 : ∀ w, (Instr.index 113 (.agg wordsV) (.int .i64 ((5 : Nat) : Int))).run Try.prog w = .ok (.int .u64 ((wordN 5 : Nat) : Int)) w := fun _ => by kernel_rfl
  have i6 : ∀ w, (Instr.index 113 (.agg wordsV) (.int .i64 ((6 : Nat) : Int))).run Try.prog w = .ok (.int .u64 ((wordN 6 : Nat) : Int)) w := fun _ => by kernel_rfl
  have i7 : ∀ w, (Instr.index 113 (.agg wordsV) (.int .i64 ((7 : Nat) : Int))).run Try.prog w = .ok (.int .u64 ((wordN 7 : Nat) : Int)) w := fun _ => by kernel_rfl
  have i8 : ∀ w, (Instr.index 113 (.agg wordsV) (.int .i64 ((8 : Nat) : Int))).run Try.prog w = .ok (.int .u64 ((wordN 8 : Nat) : Int)) w := fun _ => by kernel_rfl
  have i9 : ∀ w, (Instr.index 113 (.agg wordsV) (.int .i64 ((9 : Nat) : Int))).run Try.prog w = .ok (.int .u64 ((wordN 9 : Nat) : Int)) w := fun _ => by kernel_rfl
  have i10 : ∀ w, (Instr.index 113 (.agg wordsV) (.int .i64 ((10 : Nat) : Int))).run Try.prog w = .ok (.int .u64 ((wordN 10 : Nat) : Int)) w := fun _ => by kernel_rfl
  have i11 : ∀ w, (Instr.index 113 (.agg wordsV) (.int .i64 ((11 : Nat) : Int))).run Try.prog w = .ok (.int .u64 ((wordN 11 : Nat) : Int)) w := fun _ => by kernel_rfl
  have i12 : ∀ w, (Instr.index 113 (.agg wordsV) (.int .i64 ((12 : Nat) : Int))).run Try.prog w = .ok (.int .u64 ((wordN 12 : Nat) : Int)) w := fun _ => by kernel_rfl
  have i13 : ∀ w, (Instr.index 113 (.agg wordsV) (.int .i64 ((13 : Nat) : Int))).run Try.prog w = .ok (.int .u64 ((wordN 13 : Nat) : Int)) w := fun _ => by kernel_rfl
  have i14 : ∀ w, (Instr.index 113 (.agg wordsV) (.int .i64 ((14 : Nat) : Int))).run Try.prog w = .ok (.int .u64 ((wordN 14 : Nat) : Int)) w := fun _ => by kernel_rfl
  have : k = 0 ∨ k = 1 ∨ k = 2 ∨ k = 3 ∨ k = 4 ∨ k = 5 ∨ k = 6 ∨ k = 7 ∨ k = 8 ∨ k = 9 ∨ k = 10 ∨ k = 11 ∨ k = 12 ∨ k = 13 ∨ k = 14 := by omega
  rcases this with rfl | rfl | rfl | rfl | rfl | rfl | rfl | rfl | rfl | rfl | rfl | rfl | rfl | rfl | rfl
  · exact i0 w
  · exact i1 w
  · exact i2 w
  · exact i3 w
  · exact i4 w
  · exact i5 w
  · exact i6 w
  · exact i7 w
  · exact i8 w
  · exact i9 w
  · exact i10 w
  · exact i11 w
  · exact i12 w
  · exact i13 w
  · exact i14 w
theorem mof (k : Int) (w : World) : Calls Try.prog 63 #[.int .i64 k] w fun e w' => e = .returned (.int .u64 (wordOf k)) ∧ Ext w w' := by
  by_cases h : 1 ≤ k ∧ k ≤ 14
  · obtain ⟨h1, h14⟩ := h
    obtain ⟨n, rfl⟩ := Int.eq_ofNat_of_zero_le (show 0 ≤ k by omega)
    have e : wordOf (n : Int) = wordN n := by unfold wordOf kindN; rw [if_pos ⟨h1, h14⟩, Int.toNat_natCast]
    rw [e]
    have ix := words_index n (by omega)
    clear e
    go_enter Try.func63, Try.ntmps63
    go_wp2_with fail
    refine (mnamed _).mono ?_
    rintro e w1 ⟨rfl, hx1⟩
    go_wp2_with fail
    go_ret
    exact ⟨rfl, hx1⟩
  · have e : wordOf k = 0 := by unfold wordOf kindN; rw [if_neg h]; rfl
    rw [e]
    by_cases h1 : 1 ≤ k
    · have h14 : 14 < k := by omega
      clear h e
      go_enter Try.func63, Try.ntmps63
      go_wp2_with fail
      go_ret
      exact ⟨rfl, (by repeat' (first | (with_reducible exact Ext.refl _) | (with_reducible assumption) | (with_reducible refine Ext.alloc ?_ _) | (with_reducible refine Ext.drewN ?_ _) | (with_reducible refine Ext.drew ?_) | (with_reducible refine Ext.trans ?_ (by assumption))))⟩
    · have h1' : k < 1 := by omega
      clear h e h1
      go_enter Try.func63, Try.ntmps63
      go_wp2_with fail
      go_ret
      exact ⟨rfl, (by repeat' (first | (with_reducible exact Ext.refl _) | (with_reducible assumption) | (with_reducible refine Ext.alloc ?_ _) | (with_reducible refine Ext.drewN ?_ _) | (with_reducible refine Ext.drew ?_) | (with_reducible refine Ext.trans ?_ (by assumption))))⟩

/-- naturals as integers -/
def zints (l : List Nat) : List Int := l.map (fun x : Nat => (x : Int))
theorem zints_len (l : List Nat) : (zints l).length = l.length := by unfold zints; exact List.length_map _
theorem zints_at {l : List Nat} {k : Nat} (h : k < l.length) : (zints l).getD k 0 = ((l.getD k 0 : Nat) : Int) := by
  unfold zints; simp [List.getD, h]

theorem word_test (k : Int) (f : Nat) (hf : f < 11) : bits .and .u64 ((wordOf k : Int) / 2 ^ f) 1 = if nmd k f = true then 1 else 0 := by
  have h1 := word_bits (kindN k) (kindN_lt k) f hf
  have h2 := word_lt (kindN k) (kindN_lt k)
  have e : ((wordOf k : Int) / 2 ^ f) = ((wordN (kindN k) / 2 ^ f : Nat) : Int) := by
    unfold wordOf; simp
  have h3 : wordN (kindN k) / 2 ^ f ≤ wordN (kindN k) := Nat.div_le_self _ _
  rw [e, show (1 : Int) = ((1 : Nat) : Int) from rfl, u64_and_nat _ _ (by omega) (by omega), h1]
  unfold nmd fieldsOf
  split <;> simp_all
/-- the fields below f+1 that a kind names -/
def upto (k : Int) (f : Nat) : List Nat := (List.range' 1 f).filter (fun f => nmd k f)
theorem upto_succ (k : Int) (f : Nat) : upto k (f + 1) = upto k f ++ if nmd k (f + 1) = true then [f + 1] else [] := by
  unfold upto
  rw [show List.range' 1 (f + 1) = List.range' 1 f ++ [f + 1] by rw [List.range'_1_concat]; congr 2; omega, List.filter_append]
  congr 1
  simp [List.filter_cons]
theorem upto_all (k : Int) : upto k 10 = fieldsOf k := fields_range (kindN k) (kindN_lt k)
theorem upto_len (k : Int) (f : Nat) : (upto k f).length ≤ f := by
  unfold upto; have := List.length_filter_le (fun f => nmd k f) (List.range' 1 f); simpa using this

set_option maxHeartbeats 1000000 in
set_option maxRecDepth 100000 in
theorem mfields (k : Int) (w : World) : Calls Try.prog 39 #[.int .i64 k] w fun e w' => ∃ v, e = .returned v ∧ OwnI .i64 3 w.heap.size w' v (zints (fieldsOf k)) ∧ Ext w w' := by
  have HW := Lib.hid (fun f hf => word_test k f hf)
  have HA := Lib.hid (upto_all k)
  obtain ⟨W, hW⟩ : ∃ W, wordOf k = W := ⟨_, rfl⟩
  have HWE := Lib.hid hW
  rw [hW] at HW
  clear hW
  go_enter Try.func39, Try.ntmps39
  go_wp2_with fail
  refine (mof k _).mono ?_
  rintro e w1 ⟨rfl, hx1⟩
  rw [HWE.out]
  go_wp2_with fail
  go_loopw [4, 5] (fun vo vf wr => ∃ f : Nat, f ≤ 10 ∧ vf = .int .i64 (f + 1 : Nat) ∧ OwnI .i64 3 w.heap.size wr vo (zints (upto k f)) ∧ Ext w wr) (fun _ vf _ => 11 - (intOf vf).toNat)
  case atStart => exact ⟨0, by omega, rfl, OwnI.nil _ _ _ _, hx1⟩
  case round =>
    obtain ⟨f, hf, rfl, ho, hx⟩ := hrel
    by_cases hlt : f < 10
    · have hb := HW.out (f + 1) (by omega)
      have hl := upto_len k f
      have HS := Lib.hid (upto_succ k f)
      have hz := zints_len (upto k f)
      have HO := Lib.hid ho
      have hfit : Fits ((zints (upto k f)).length + [((f + 1 : Nat) : Int)].length) := fits_small (by rw [hz]; simp; omega)
      have HF := Lib.hid hfit
      obtain ⟨a, q, hv, _⟩ := ho.rd.parts
      clear hfit hl
      by_cases hn : nmd k (f + 1) = true
      · rw [if_pos hn] at hb
        have HN := Lib.hid hn
        clear hn hz ho hv
        have hn0 : ¬ (zints (upto k f)).length = 0 → True := fun _ => trivial
        clear hn0
        go_wp2_with (at_builtin; refine wpList_append_ints rfl _ _ 63 rfl 3 .i64 0 8 Try.underlying63 ints_info (by decide) w (by repeat' (first | (with_reducible exact Ext.refl _) | (with_reducible assumption) | (with_reducible refine Ext.alloc ?_ _) | (with_reducible refine Ext.drewN ?_ _) | (with_reducible refine Ext.drew ?_) | (with_reducible refine Ext.trans ?_ (by assumption)))) _ _ rfl (HO.out.ext (by repeat' (first | (with_reducible exact Ext.refl _) | (with_reducible assumption) | (with_reducible refine Ext.alloc ?_ _) | (with_reducible refine Ext.drewN ?_ _) | (with_reducible refine Ext.drew ?_) | (with_reducible refine Ext.trans ?_ (by assumption))))) _ _ rfl (RdI.one _ _ _ _) (by exact HF.out) ?_)
        intro v' w' ho' hx'
        go_wp2_with fail
        go_roundw
        case rel =>
          refine ⟨f + 1, by omega, by go_num, ?_, hx'⟩
          rw [HS.out, if_pos HN.out]
          unfold zints at ho' ⊢
          simpa using ho'
        case measure => simp [intOf]; omega
      · rw [if_neg hn] at hb
        have HN := Lib.hid hn
        clear hn hz ho hv
        go_wp2_with fail
        go_roundw
        case rel =>
          refine ⟨f + 1, by omega, by go_num, ?_, hx⟩
          rw [HS.out, if_neg HN.out, List.append_nil]
          exact HO.out
        case measure => simp [intOf]; omega
    · obtain rfl : f = 10 := by omega
      rw [HA.out] at ho
      go_wp2_with fail
      go_ret
      exact ⟨_, rfl, ho, hx⟩
end Go.Proofs.Ytmkobmkaalfecaa
