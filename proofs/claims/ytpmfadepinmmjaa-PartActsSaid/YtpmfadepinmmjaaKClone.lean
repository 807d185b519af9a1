/-
  slices.Clone of hints and of parts. No condition but that they read.
-/
import Derived.Test.YtpmfadepinmmjaaHints
namespace Go.Proofs.Ytpmfadepinmmjaa
open Go.RowKit

/-- rows of m cells, one behind the other -/
def rcl (m : Nat) (V : Nat → Nat → Value) : Nat → List Value
  | 0 => []
  | n + 1 => rcl m V n ++ (List.range m).map (V n)
theorem rcl_len (m : Nat) (V : Nat → Nat → Value) : ∀ n, (rcl m V n).length = n * m
  | 0 => by simp [rcl]
  | n + 1 => by rw [rcl, List.length_append, rcl_len m V n, List.length_map, List.length_range, Nat.succ_mul]
theorem rcl_at (m : Nat) (V : Nat → Nat → Value) : ∀ n i f, i < n → f < m → (rcl m V n)[i * m + f]? = some (V i f)
  | n + 1, i, f, hi, hf => by
    have hl := rcl_len m V n
    rw [rcl]
    by_cases e : i < n
    · have h9 : i * m + f < n * m := by
        have := Nat.mul_le_mul_right m (show i + 1 ≤ n by omega)
        rw [Nat.succ_mul] at this
        omega
      rw [List.getElem?_append_left (by omega)]
      exact rcl_at m V n i f e hf
    · obtain rfl : i = n := by omega
      rw [List.getElem?_append_right (by omega), hl, Nat.add_sub_cancel_left]
      simp [hf]
theorem rcl_mem {m : Nat} {V : Nat → Nat → Value} : ∀ n u, u ∈ rcl m V n → ∃ i f, i < n ∧ f < m ∧ u = V i f
  | n + 1, u, h => by
    rw [rcl] at h
    rcases List.mem_append.1 h with h | h
    · obtain ⟨i, f, h1, h2, h3⟩ := rcl_mem n u h
      exact ⟨i, f, by omega, h2, h3⟩
    · obtain ⟨f, hf, rfl⟩ := List.mem_map.1 h
      exact ⟨n, f, by omega, by simpa using hf, rfl⟩
theorem RdV.rd {m : Nat} (hm : 0 < m) {w : World} {v : Value} {n : Nat} {V : Nat → Nat → Value} (h : RdV m w v n V) : Rd w m v n (rcl m V n) := by
  obtain ⟨a, c, rfl, h1, h2, h3, h4⟩ := h
  refine ⟨rcl_len m V n, a, c, rfl, h1, h2, h3, fun h0 => ?_⟩
  obtain ⟨b, o, rfl, hb, hc⟩ := h4 h0
  refine ⟨b, o, rfl, hb, fun j u hu => ?_⟩
  have hj : j < n * m := by have := (List.getElem?_eq_some_iff.1 hu).1; rwa [rcl_len] at this
  have hi : j / m < n := (Nat.div_lt_iff_lt_mul hm).2 hj
  have hf : j % m < m := Nat.mod_lt _ hm
  have he : j / m * m + j % m = j := by rw [Nat.mul_comm]; exact Nat.div_add_mod j m
  have := rcl_at m V n _ _ hi hf
  rw [he, hu] at this
  have h9 := hc _ _ hi hf
  rw [he] at h9
  rw [h9, this]
theorem RdV.of_rd {m : Nat} {w : World} {v : Value} {n : Nat} {V : Nat → Nat → Value} (h : Rd w m v n (rcl m V n)) : RdV m w v n V := by
  obtain ⟨_, a, c, rfl, h1, h2, h3, h4⟩ := h
  refine ⟨a, c, rfl, h1, h2, h3, fun h0 => ?_⟩
  obtain ⟨b, o, rfl, hb, hc⟩ := h4 h0
  exact ⟨b, o, rfl, hb, fun i f hi hf => hc _ _ (rcl_at m V n i f hi hf)⟩
theorem own_empty {w : World} (e : TypeId) (m : Nat) {base : Nat} (hb : base ≤ w.heap.size) : (w.alloc (.cells #[] e)).ownsRow base e m (.slice (some ⟨w.heap.size, 0, none⟩) 0 0) 0 [] :=
  World.ownsRow_lit (base := base) (e := e) (size := m) w #[] 0 hb (by simp) (by simp)
theorem hint_zero : (Try.prog.info? 58).map (fun i => (i.zero, i.size, i.bytes)) = some (some (.agg #[.int .i64 0, .int .i64 0, .int .i64 0, .bool false]), 4, 32) := by kernel_rfl
theorem part_zero : (Try.prog.info? 77).map (fun i => (i.zero, i.size, i.bytes)) = some (some (.agg #[.int .i64 0, .int .i64 0, .int .i64 0, .int .i64 0]), 4, 32) := by kernel_rfl

set_option maxHeartbeats 1000000 in
theorem clone_hints (v : Value) (n : Nat) (V : Nat → Nat → Value) (w : World) (h : RdV 4 w v n V) (hV : ∀ i f, (V i f).oneCell' = true) (hn : n ≤ 1000) :
    Calls Try.prog 43 #[v] w fun e w' => ∃ v', e = .returned v' ∧ RdV 4 w' v' n V ∧ (∀ b, v'.ownBlock = some b → w.heap.size ≤ b) ∧ Ext w w' := by
  obtain ⟨i0, hi, hz0, hz1, hz2⟩ := info_parts hint_zero
  have hn0 := fun (w : World) (a : Option Addr) (n c n' c' : Nat) => Lib.run_eql_slice_nil (P := Try.prog) w 22 58 a n c n' c' Try.underlying22
  have H := Lib.hid h
  obtain ⟨a, c, rfl, hlc, hcm, hnil, _⟩ := h
  cases a with
  | none =>
    obtain ⟨rfl, rfl⟩ := hnil rfl
    clear hnil hcm
    go_enter Try.func43, Try.ntmps43
    go_wp2
    go_ret
    exact ⟨_, rfl, H.out, fun b hb => (by cases hb), Ext.refl _⟩
  | some a =>
    clear hnil hcm
    have HC := Lib.hid hV
    clear hV
    go_enter Try.func43, Try.ntmps43
    go_wp2_with (at_builtin; refine wpList_append_rd rfl _ _ 22 rfl w.heap.size 58 i0 (.agg #[.int .i64 0, .int .i64 0, .int .i64 0, .bool false]) 4 32 Try.underlying22 hi hz0 hz1 hz2 rfl (by decide) _ 0 [] rfl (own_empty _ 4 (Nat.le_refl _)) _ n (rcl 4 V n) rfl ((H.out.ext ((Ext.refl w).alloc _)).rd (by decide)) (fun u hu => by obtain ⟨i, f, _, _, rfl⟩ := rcl_mem n u hu; exact HC.out i f) (by unfold maxLen; omega) (by omega) (by simp) ?_)
    intro v' w' hown hg
    have hx : Ext w w' := Below.grown ((Ext.refl w).alloc _) hg (by simp) (fun g hg => by cases hg; exact Nat.le_refl _)
    have HR := Lib.hid (RdV.of_rd (Rd.of_own hown))
    have HB := Lib.hid (fun b hb => (hown.lt b hb).1)
    clear hown hg
    go_wp2
    go_ret
    exact ⟨_, rfl, HR.out, HB.out, hx⟩
set_option maxHeartbeats 1000000 in
theorem clone_parts (v : Value) (n : Nat) (V : Nat → Nat → Value) (w : World) (h : RdV 4 w v n V) (hV : ∀ i f, (V i f).oneCell' = true) (hn : n ≤ 1000) :
    Calls Try.prog 45 #[v] w fun e w' => ∃ v', e = .returned v' ∧ RdV 4 w' v' n V ∧ (∀ b, v'.ownBlock = some b → w.heap.size ≤ b) ∧ Ext w w' := by
  obtain ⟨i0, hi, hz0, hz1, hz2⟩ := info_parts part_zero
  have hn0 := fun (w : World) (a : Option Addr) (n c n' c' : Nat) => Lib.run_eql_slice_nil (P := Try.prog) w 59 77 a n c n' c' Try.underlying59
  have H := Lib.hid h
  obtain ⟨a, c, rfl, hlc, hcm, hnil, _⟩ := h
  cases a with
  | none =>
    obtain ⟨rfl, rfl⟩ := hnil rfl
    clear hnil hcm
    go_enter Try.func45, Try.ntmps45
    go_wp2
    go_ret
    exact ⟨_, rfl, H.out, fun b hb => (by cases hb), Ext.refl _⟩
  | some a =>
    clear hnil hcm
    have HC := Lib.hid hV
    clear hV
    go_enter Try.func45, Try.ntmps45
    go_wp2_with (at_builtin; refine wpList_append_rd rfl _ _ 59 rfl w.heap.size 77 i0 (.agg #[.int .i64 0, .int .i64 0, .int .i64 0, .int .i64 0]) 4 32 Try.underlying59 hi hz0 hz1 hz2 rfl (by decide) _ 0 [] rfl (own_empty _ 4 (Nat.le_refl _)) _ n (rcl 4 V n) rfl ((H.out.ext ((Ext.refl w).alloc _)).rd (by decide)) (fun u hu => by obtain ⟨i, f, _, _, rfl⟩ := rcl_mem n u hu; exact HC.out i f) (by unfold maxLen; omega) (by omega) (by simp) ?_)
    intro v' w' hown hg
    have hx : Ext w w' := Below.grown ((Ext.refl w).alloc _) hg (by simp) (fun g hg => by cases hg; exact Nat.le_refl _)
    have HR := Lib.hid (RdV.of_rd (Rd.of_own hown))
    have HB := Lib.hid (fun b hb => (hown.lt b hb).1)
    clear hown hg
    go_wp2
    go_ret
    exact ⟨_, rfl, HR.out, HB.out, hx⟩
end Go.Proofs.Ytpmfadepinmmjaa
