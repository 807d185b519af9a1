/-
  karma.New, karma.Plan.Parts. No condition but that the hints read.
-/
import Derived.Test.YtpmfadepinmmjaaKPlan
namespace Go.Proofs.Ytpmfadepinmmjaa
open Go.RowKit

theorem kparts_nil (w : World) : Calls Try.prog 28 #[.pointer none] w fun e w' => e = .returned (.slice none 0 0) ∧ w = w' := by
  go_enter Try.func28, Try.ntmps28
  go_wp2_with fail
  go_ret
  exact ⟨rfl, rfl⟩
theorem IRow.rdv {w : World} {g n : Nat} {P : Nat → Nat → Int} (h : IRow w g (n * 4) (fun j => P (j / 4) (j % 4))) (hn : n ≤ 1000) : RdV 4 w (.slice (some ⟨g, 0, none⟩) n n) n (fun i f => .int .i64 (P i f)) := by
  refine ⟨some ⟨g, 0, none⟩, n, rfl, Nat.le_refl _, by unfold maxLen; omega, fun e => (by cases e), fun _ => ⟨g, 0, rfl, h.lt, fun i f hi hf => ?_⟩⟩
  rw [Nat.zero_add, h.cell (show i * 4 + f < n * 4 by omega), show (i * 4 + f) / 4 = i by omega, show (i * 4 + f) % 4 = f by omega]
/-- parts as they are told -/
def PV (F : Nat → Nat → Int) (c : Nat → Nat) (M : List Nat) (i f : Nat) : Value := .int .i64 ((PR F c M i f : Nat) : Int)
theorem kparts (p : Nat) (bl : Int) (c : Nat → Nat) (n : Nat) (F : Nat → Nat → Int) (L : Nat → Bool) (M : List Nat) (w : World) (h : PlAt w p bl c n F L M) :
    Calls Try.prog 28 #[.pointer (some ⟨p, 0, none⟩)] w fun e w' => ∃ v', e = .returned v' ∧ RdV 4 w' v' n (PV F c M) ∧ (∀ b, v'.ownBlock = some b → w.heap.size ≤ b) ∧ Ext w w' := by
  have hn := h.ok.2.2
  obtain ⟨hv, g, h1, _, _, h4, _⟩ := h.hd
  have c5 := h1.c5
  have HC := Lib.hid (clone_parts _ n (PV F c M) w (h4.rdv (P := fun i f => ((PR F c M i f : Nat) : Int)) (by omega)) (fun _ _ => rfl) (by omega))
  clear h h1 h4
  go_enter Try.func28, Try.ntmps28
  go_wp2_with fail
  refine HC.out.mono ?_
  rintro e w1 ⟨v', rfl, h1, h2, h3⟩
  go_wp2_with fail
  go_ret
  exact ⟨v', rfl, h1, h2, h3⟩

def CapsI (K : Nat → Int) : Prop := ∀ t, t < 3 → 1 ≤ K t ∧ K t ≤ 16
theorem caps_t {t : Nat} (h : t ≤ 3) : t = 0 ∨ t = 1 ∨ t = 2 ∨ t = 3 := by omega
section
variable (v : Value) (n : Nat) (F : Nat → Nat → Int) (L : Nat → Bool) (bl : Int) (w : World) (h : RdH w v n F L) (hn : n ≤ 1000) (hwf : ∀ i j, i < n → j < 3 → (Lit.int .i64 (F i j)).wf = true)
theorem knew_caps (K : Nat → Int) (hK : ¬ CapsI K) : Calls Try.prog 9 #[v, .int .i64 bl, .agg #[.int .i64 (K 0), .int .i64 (K 1), .int .i64 (K 2)]] w fun e w' => e = .returned (.tuple #[.pointer none, .int .i64 6]) ∧ Ext w w' := by
  have HB := Lib.hid hK
  obtain ⟨k0, hk0⟩ : ∃ k, K 0 = k := ⟨_, rfl⟩
  obtain ⟨k1, hk1⟩ : ∃ k, K 1 = k := ⟨_, rfl⟩
  obtain ⟨k2, hk2⟩ : ∃ k, K 2 = k := ⟨_, rfl⟩
  have hK' : ¬ ((1 ≤ k0 ∧ k0 ≤ 16) ∧ (1 ≤ k1 ∧ k1 ≤ 16) ∧ (1 ≤ k2 ∧ k2 ≤ 16)) := by
    intro hh
    refine hK (fun t ht => ?_)
    have : t = 0 ∨ t = 1 ∨ t = 2 := by omega
    rcases this with rfl | rfl | rfl
    · rw [hk0]; exact hh.1
    · rw [hk1]; exact hh.2.1
    · rw [hk2]; exact hh.2.2
  rw [hk0, hk1, hk2]
  have i0 : ∀ w, (Instr.index 23 (.agg #[.int .i64 k0, .int .i64 k1, .int .i64 k2]) (.int .i64 0)).run Try.prog w = .ok (.int .i64 k0) w := fun _ => by kernel_rfl
  have i1 : ∀ w, (Instr.index 23 (.agg #[.int .i64 k0, .int .i64 k1, .int .i64 k2]) (.int .i64 1)).run Try.prog w = .ok (.int .i64 k1) w := fun _ => by kernel_rfl
  have i2 : ∀ w, (Instr.index 23 (.agg #[.int .i64 k0, .int .i64 k1, .int .i64 k2]) (.int .i64 2)).run Try.prog w = .ok (.int .i64 k2) w := fun _ => by kernel_rfl
  have HK := Lib.hid hK'
  clear HB hK hk0 hk1 hk2 hK'
  go_enter Try.func9, Try.ntmps9
  go_upto_region 1 with fail
  have hx0 : Ext w (w.alloc (.cells #[.int .i64 k0, .int .i64 k1, .int .i64 k2] 23)) := (Ext.refl w).alloc _
  go_wp2_with fail
  generalize (w.alloc (.cells #[.int .i64 k0, .int .i64 k1, .int .i64 k2] 23)) = w0 at *
  go_loopw [13] (fun ci wr => ∃ t : Nat, t ≤ 3 ∧ ci = .int .i64 t ∧ (0 < t → 1 ≤ k0 ∧ k0 ≤ 16) ∧ (1 < t → 1 ≤ k1 ∧ k1 ≤ 16) ∧ (2 < t → 1 ≤ k2 ∧ k2 ≤ 16) ∧ Ext w0 wr) (fun ci _ => 3 - (intOf ci).toNat)
  case atStart => exact ⟨0, by omega, rfl, fun h => absurd h (by omega), fun h => absurd h (by omega), fun h => absurd h (by omega), Ext.refl _⟩
  case round =>
    obtain ⟨t, ht, rfl, a0, a1, a2, hx⟩ := hrel
    rcases caps_t ht with rfl | rfl | rfl | rfl
    · skip
      by_cases q1 : 1 ≤ k0
      · by_cases q2 : k0 ≤ 16
        · go_wp2_with fail
          go_roundw
          case rel => exact ⟨1, by omega, by go_num, fun _ => ⟨q1, q2⟩, fun h => absurd h (by omega), fun h => absurd h (by omega), hx⟩
          case measure => simp [intOf]
        · go_wp2_with fail
          go_ret2
          exact ⟨rfl, (by repeat' (first | (with_reducible exact Ext.refl _) | (with_reducible assumption) | (with_reducible refine Ext.alloc ?_ _) | (with_reducible refine Ext.drewN ?_ _) | (with_reducible refine Ext.drew ?_) | (with_reducible refine Ext.trans ?_ (by assumption))))⟩
      · go_wp2_with fail
        go_ret2
        exact ⟨rfl, (by repeat' (first | (with_reducible exact Ext.refl _) | (with_reducible assumption) | (with_reducible refine Ext.alloc ?_ _) | (with_reducible refine Ext.drewN ?_ _) | (with_reducible refine Ext.drew ?_) | (with_reducible refine Ext.trans ?_ (by assumption))))⟩
    · skip
      by_cases q1 : 1 ≤ k1
      · by_cases q2 : k1 ≤ 16
        · go_wp2_with fail
          go_roundw
          case rel => exact ⟨2, by omega, by go_num, fun _ => a0 (by omega), fun _ => ⟨q1, q2⟩, fun h => absurd h (by omega), hx⟩
          case measure => simp [intOf]
        · go_wp2_with fail
          go_ret2
          exact ⟨rfl, (by repeat' (first | (with_reducible exact Ext.refl _) | (with_reducible assumption) | (with_reducible refine Ext.alloc ?_ _) | (with_reducible refine Ext.drewN ?_ _) | (with_reducible refine Ext.drew ?_) | (with_reducible refine Ext.trans ?_ (by assumption))))⟩
      · go_wp2_with fail
        go_ret2
        exact ⟨rfl, (by repeat' (first | (with_reducible exact Ext.refl _) | (with_reducible assumption) | (with_reducible refine Ext.alloc ?_ _) | (with_reducible refine Ext.drewN ?_ _) | (with_reducible refine Ext.drew ?_) | (with_reducible refine Ext.trans ?_ (by assumption))))⟩
    · skip
      by_cases q1 : 1 ≤ k2
      · by_cases q2 : k2 ≤ 16
        · go_wp2_with fail
          go_roundw
          case rel => exact ⟨3, by omega, by go_num, fun _ => a0 (by omega), fun _ => a1 (by omega), fun _ => ⟨q1, q2⟩, hx⟩
          case measure => simp [intOf]
        · go_wp2_with fail
          go_ret2
          exact ⟨rfl, (by repeat' (first | (with_reducible exact Ext.refl _) | (with_reducible assumption) | (with_reducible refine Ext.alloc ?_ _) | (with_reducible refine Ext.drewN ?_ _) | (with_reducible refine Ext.drew ?_) | (with_reducible refine Ext.trans ?_ (by assumption))))⟩
      · go_wp2_with fail
        go_ret2
        exact ⟨rfl, (by repeat' (first | (with_reducible exact Ext.refl _) | (with_reducible assumption) | (with_reducible refine Ext.alloc ?_ _) | (with_reducible refine Ext.drewN ?_ _) | (with_reducible refine Ext.drew ?_) | (with_reducible refine Ext.trans ?_ (by assumption))))⟩
    · exact absurd ⟨a0 (by omega), a1 (by omega), a2 (by omega)⟩ HK.out
set_option maxHeartbeats 1000000 in
theorem knew_blocks (k0 k1 k2 : Int) (hK : (1 ≤ k0 ∧ k0 ≤ 16) ∧ (1 ≤ k1 ∧ k1 ≤ 16) ∧ (1 ≤ k2 ∧ k2 ≤ 16)) (hb : ¬ (1 ≤ bl ∧ bl ≤ 32)) : Calls Try.prog 9 #[v, .int .i64 bl, .agg #[.int .i64 k0, .int .i64 k1, .int .i64 k2]] w fun e w' => e = .returned (.tuple #[.pointer none, .int .i64 6]) ∧ Ext w w' := by
  have i0 : ∀ w, (Instr.index 23 (.agg #[.int .i64 k0, .int .i64 k1, .int .i64 k2]) (.int .i64 0)).run Try.prog w = .ok (.int .i64 k0) w := fun _ => by kernel_rfl
  have i1 : ∀ w, (Instr.index 23 (.agg #[.int .i64 k0, .int .i64 k1, .int .i64 k2]) (.int .i64 1)).run Try.prog w = .ok (.int .i64 k1) w := fun _ => by kernel_rfl
  have i2 : ∀ w, (Instr.index 23 (.agg #[.int .i64 k0, .int .i64 k1, .int .i64 k2]) (.int .i64 2)).run Try.prog w = .ok (.int .i64 k2) w := fun _ => by kernel_rfl
  have Q := Lib.hid hK
  clear hK
  by_cases b1 : 1 ≤ bl
  · have b2 : 32 < bl := by omega
    clear hb
    go_enter Try.func9, Try.ntmps9
    go_upto_region 1 with fail
    have hx0 : Ext w (w.alloc (.cells #[.int .i64 k0, .int .i64 k1, .int .i64 k2] 23)) := (Ext.refl w).alloc _
    have z0 := cell_new w #[.int .i64 k0, .int .i64 k1, .int .i64 k2] 23 (0, 0) (j := 0) rfl
    have z1 := cell_new w #[.int .i64 k0, .int .i64 k1, .int .i64 k2] 23 (0, 0) (j := 1) rfl
    have z2 := cell_new w #[.int .i64 k0, .int .i64 k1, .int .i64 k2] 23 (0, 0) (j := 2) rfl
    go_wp2_with fail
    generalize (w.alloc (.cells #[.int .i64 k0, .int .i64 k1, .int .i64 k2] 23)) = w0 at *
    obtain ⟨pc, hpc⟩ : ∃ pc, pc = w.heap.size := ⟨_, rfl⟩
    rw [← hpc] at z0 z1 z2 ⊢
    clear hpc
    go_loopw [13] (fun ci wr => ∃ t : Nat, t ≤ 3 ∧ ci = .int .i64 t ∧ Ext w0 wr) (fun ci _ => 3 - (intOf ci).toNat)
    case atStart => exact ⟨0, by omega, rfl, Ext.refl _⟩
    case round =>
      obtain ⟨t, ht, rfl, hx⟩ := hrel
      rcases caps_t ht with rfl | rfl | rfl | rfl
      · obtain ⟨q1, q2⟩ := Q.out.1
        go_wp2_with fail
        go_roundw
        case rel => exact ⟨1, by omega, by go_num, hx⟩
        case measure => simp [intOf]
      · obtain ⟨q1, q2⟩ := Q.out.2.1
        go_wp2_with fail
        go_roundw
        case rel => exact ⟨2, by omega, by go_num, hx⟩
        case measure => simp [intOf]
      · obtain ⟨q1, q2⟩ := Q.out.2.2
        go_wp2_with fail
        go_roundw
        case rel => exact ⟨3, by omega, by go_num, hx⟩
        case measure => simp [intOf]
      · go_wp2_with fail
        go_ret2
        exact ⟨rfl, (by repeat' (first | (with_reducible exact Ext.refl _) | (with_reducible assumption) | (with_reducible refine Ext.alloc ?_ _) | (with_reducible refine Ext.drewN ?_ _) | (with_reducible refine Ext.drew ?_) | (with_reducible refine Ext.trans ?_ (by assumption))))⟩
  · have b2 : bl < 1 := by omega
    clear hb
    go_enter Try.func9, Try.ntmps9
    go_upto_region 1 with fail
    have hx0 : Ext w (w.alloc (.cells #[.int .i64 k0, .int .i64 k1, .int .i64 k2] 23)) := (Ext.refl w).alloc _
    have z0 := cell_new w #[.int .i64 k0, .int .i64 k1, .int .i64 k2] 23 (0, 0) (j := 0) rfl
    have z1 := cell_new w #[.int .i64 k0, .int .i64 k1, .int .i64 k2] 23 (0, 0) (j := 1) rfl
    have z2 := cell_new w #[.int .i64 k0, .int .i64 k1, .int .i64 k2] 23 (0, 0) (j := 2) rfl
    go_wp2_with fail
    generalize (w.alloc (.cells #[.int .i64 k0, .int .i64 k1, .int .i64 k2] 23)) = w0 at *
    obtain ⟨pc, hpc⟩ : ∃ pc, pc = w.heap.size := ⟨_, rfl⟩
    rw [← hpc] at z0 z1 z2 ⊢
    clear hpc
    go_loopw [13] (fun ci wr => ∃ t : Nat, t ≤ 3 ∧ ci = .int .i64 t ∧ Ext w0 wr) (fun ci _ => 3 - (intOf ci).toNat)
    case atStart => exact ⟨0, by omega, rfl, Ext.refl _⟩
    case round =>
      obtain ⟨t, ht, rfl, hx⟩ := hrel
      rcases caps_t ht with rfl | rfl | rfl | rfl
      · obtain ⟨q1, q2⟩ := Q.out.1
        go_wp2_with fail
        go_roundw
        case rel => exact ⟨1, by omega, by go_num, hx⟩
        case measure => simp [intOf]
      · obtain ⟨q1, q2⟩ := Q.out.2.1
        go_wp2_with fail
        go_roundw
        case rel => exact ⟨2, by omega, by go_num, hx⟩
        case measure => simp [intOf]
      · obtain ⟨q1, q2⟩ := Q.out.2.2
        go_wp2_with fail
        go_roundw
        case rel => exact ⟨3, by omega, by go_num, hx⟩
        case measure => simp [intOf]
      · go_wp2_with fail
        go_ret2
        exact ⟨rfl, (by repeat' (first | (with_reducible exact Ext.refl _) | (with_reducible assumption) | (with_reducible refine Ext.alloc ?_ _) | (with_reducible refine Ext.drewN ?_ _) | (with_reducible refine Ext.drew ?_) | (with_reducible refine Ext.trans ?_ (by assumption))))⟩
include h hn hwf
set_option maxHeartbeats 1000000 in
theorem knew_hints (c : Nat → Nat) (hc : CapsOk c) (hb : 1 ≤ bl ∧ bl ≤ 32) (hr : ¬ HsOk n F bl) : Calls Try.prog 9 #[v, .int .i64 bl, .agg #[.int .i64 (c 0 : Nat), .int .i64 (c 1 : Nat), .int .i64 (c 2 : Nat)]] w fun e w' => e = .returned (.tuple #[.pointer none, .int .i64 14]) ∧ Ext w w' := by
  obtain ⟨k0, hk0⟩ : ∃ k, ((c 0 : Nat) : Int) = k := ⟨_, rfl⟩
  obtain ⟨k1, hk1⟩ : ∃ k, ((c 1 : Nat) : Int) = k := ⟨_, rfl⟩
  obtain ⟨k2, hk2⟩ : ∃ k, ((c 2 : Nat) : Int) = k := ⟨_, rfl⟩
  have hK : (1 ≤ k0 ∧ k0 ≤ 16) ∧ (1 ≤ k1 ∧ k1 ≤ 16) ∧ (1 ≤ k2 ∧ k2 ≤ 16) := by
    have a0 := hc.1 0; have a1 := hc.1 1; have a2 := hc.1 2
    have b0 := hc.2 0 (by omega); have b1 := hc.2 1 (by omega); have b2 := hc.2 2 (by omega)
    omega
  have HPH : Hid (∀ w' : World, PlHd (w'.alloc (.cells #[.int .i64 bl, .int .i64 k0, .int .i64 k1, .int .i64 k2, .slice none 0 0, .slice none 0 0] 61)) w'.heap.size bl c (.slice none 0 0) (.slice none 0 0)) := Lib.hid (fun w' => by unfold PlHd; rw [hk0, hk1, hk2]; exact heap_alloc_new w' _)
  rw [hk0, hk1, hk2]
  clear hk0 hk1 hk2
  have i0 : ∀ w, (Instr.index 23 (.agg #[.int .i64 k0, .int .i64 k1, .int .i64 k2]) (.int .i64 0)).run Try.prog w = .ok (.int .i64 k0) w := fun _ => by kernel_rfl
  have i1 : ∀ w, (Instr.index 23 (.agg #[.int .i64 k0, .int .i64 k1, .int .i64 k2]) (.int .i64 1)).run Try.prog w = .ok (.int .i64 k1) w := fun _ => by kernel_rfl
  have i2 : ∀ w, (Instr.index 23 (.agg #[.int .i64 k0, .int .i64 k1, .int .i64 k2]) (.int .i64 2)).run Try.prog w = .ok (.int .i64 k2) w := fun _ => by kernel_rfl
  have Q := Lib.hid hK
  have HS := Lib.hid (fun p hv pv w' (hx : Ext w w') (hd : PlHd w' p bl c hv pv) => kset_no p bl c hv pv v n F L w' hd (RdH.ext h hx) hn hwf hb hr)
  obtain ⟨b1, b2⟩ := hb
  clear hK h hn hwf hr hc
  go_enter Try.func9, Try.ntmps9
  go_upto_region 1 with fail
  have hx0 : Ext w (w.alloc (.cells #[.int .i64 k0, .int .i64 k1, .int .i64 k2] 23)) := (Ext.refl w).alloc _
  have z0 := cell_new w #[.int .i64 k0, .int .i64 k1, .int .i64 k2] 23 (0, 0) (j := 0) rfl
  have z1 := cell_new w #[.int .i64 k0, .int .i64 k1, .int .i64 k2] 23 (0, 0) (j := 1) rfl
  have z2 := cell_new w #[.int .i64 k0, .int .i64 k1, .int .i64 k2] 23 (0, 0) (j := 2) rfl
  go_wp2_with fail
  generalize (w.alloc (.cells #[.int .i64 k0, .int .i64 k1, .int .i64 k2] 23)) = w0 at *
  obtain ⟨pc, hpc⟩ : ∃ pc, pc = w.heap.size := ⟨_, rfl⟩
  rw [← hpc] at z0 z1 z2 ⊢
  clear hpc
  go_loopw [13] (fun ci wr => ∃ t : Nat, t ≤ 3 ∧ ci = .int .i64 t ∧ Ext w0 wr) (fun ci _ => 3 - (intOf ci).toNat)
  case atStart => exact ⟨0, by omega, rfl, Ext.refl _⟩
  case round =>
    obtain ⟨t, ht, rfl, hx⟩ := hrel
    rcases caps_t ht with rfl | rfl | rfl | rfl
    · obtain ⟨q1, q2⟩ := Q.out.1
      go_wp2_with fail
      go_roundw
      case rel => exact ⟨1, by omega, by go_num, hx⟩
      case measure => simp [intOf]
    · obtain ⟨q1, q2⟩ := Q.out.2.1
      go_wp2_with fail
      go_roundw
      case rel => exact ⟨2, by omega, by go_num, hx⟩
      case measure => simp [intOf]
    · obtain ⟨q1, q2⟩ := Q.out.2.2
      go_wp2_with fail
      go_roundw
      case rel => exact ⟨3, by omega, by go_num, hx⟩
      case measure => simp [intOf]
    · clear i0 i1 i2
      have z0 := hx.cellv z0
      have z1 := hx.cellv z1
      have z2 := hx.cellv z2
      have hXr := hx0.trans hx
      go_wp2_with fail
      refine (HS.out _ _ _ _ (hXr.alloc _) (HPH.out _)).mono ?_
      rintro e w5 ⟨rfl, hx5⟩
      go_wp2_with fail
      go_ret2
      exact ⟨rfl, (by repeat' (first | (with_reducible exact Ext.refl _) | (with_reducible assumption) | (with_reducible refine Ext.alloc ?_ _) | (with_reducible refine Ext.drewN ?_ _) | (with_reducible refine Ext.drew ?_) | (with_reducible refine Ext.trans ?_ (by assumption))))⟩
set_option maxHeartbeats 1000000 in
theorem knew_ok (c : Nat → Nat) (hc : CapsOk c) (hb : 1 ≤ bl ∧ bl ≤ 32) (hr : HsOk n F bl) : Calls Try.prog 9 #[v, .int .i64 bl, .agg #[.int .i64 (c 0 : Nat), .int .i64 (c 1 : Nat), .int .i64 (c 2 : Nat)]] w fun e w' => ∃ p M, e = .returned (.tuple #[.pointer (some ⟨p, 0, none⟩), .int .i64 0]) ∧ w.heap.size ≤ p ∧ PlAt w' p bl c n F L M ∧ Ext w w' := by
  obtain ⟨k0, hk0⟩ : ∃ k, ((c 0 : Nat) : Int) = k := ⟨_, rfl⟩
  obtain ⟨k1, hk1⟩ : ∃ k, ((c 1 : Nat) : Int) = k := ⟨_, rfl⟩
  obtain ⟨k2, hk2⟩ : ∃ k, ((c 2 : Nat) : Int) = k := ⟨_, rfl⟩
  have hK : (1 ≤ k0 ∧ k0 ≤ 16) ∧ (1 ≤ k1 ∧ k1 ≤ 16) ∧ (1 ≤ k2 ∧ k2 ≤ 16) := by
    have a0 := hc.1 0; have a1 := hc.1 1; have a2 := hc.1 2
    have b0 := hc.2 0 (by omega); have b1 := hc.2 1 (by omega); have b2 := hc.2 2 (by omega)
    omega
  have HPH : Hid (∀ w' : World, PlHd (w'.alloc (.cells #[.int .i64 bl, .int .i64 k0, .int .i64 k1, .int .i64 k2, .slice none 0 0, .slice none 0 0] 61)) w'.heap.size bl c (.slice none 0 0) (.slice none 0 0)) := Lib.hid (fun w' => by unfold PlHd; rw [hk0, hk1, hk2]; exact heap_alloc_new w' _)
  rw [hk0, hk1, hk2]
  clear hk0 hk1 hk2
  have i0 : ∀ w, (Instr.index 23 (.agg #[.int .i64 k0, .int .i64 k1, .int .i64 k2]) (.int .i64 0)).run Try.prog w = .ok (.int .i64 k0) w := fun _ => by kernel_rfl
  have i1 : ∀ w, (Instr.index 23 (.agg #[.int .i64 k0, .int .i64 k1, .int .i64 k2]) (.int .i64 1)).run Try.prog w = .ok (.int .i64 k1) w := fun _ => by kernel_rfl
  have i2 : ∀ w, (Instr.index 23 (.agg #[.int .i64 k0, .int .i64 k1, .int .i64 k2]) (.int .i64 2)).run Try.prog w = .ok (.int .i64 k2) w := fun _ => by kernel_rfl
  have Q := Lib.hid hK
  have HS := Lib.hid (fun p hv pv w' (hx : Ext w w') (hd : PlHd w' p bl c hv pv) => kset_ok p bl c hv pv v n F L w' hd (RdH.ext h hx) hn hwf hb hc hr)
  obtain ⟨b1, b2⟩ := hb
  clear hK h hn hwf hr hc
  go_enter Try.func9, Try.ntmps9
  go_upto_region 1 with fail
  have hx0 : Ext w (w.alloc (.cells #[.int .i64 k0, .int .i64 k1, .int .i64 k2] 23)) := (Ext.refl w).alloc _
  have z0 := cell_new w #[.int .i64 k0, .int .i64 k1, .int .i64 k2] 23 (0, 0) (j := 0) rfl
  have z1 := cell_new w #[.int .i64 k0, .int .i64 k1, .int .i64 k2] 23 (0, 0) (j := 1) rfl
  have z2 := cell_new w #[.int .i64 k0, .int .i64 k1, .int .i64 k2] 23 (0, 0) (j := 2) rfl
  go_wp2_with fail
  generalize (w.alloc (.cells #[.int .i64 k0, .int .i64 k1, .int .i64 k2] 23)) = w0 at *
  obtain ⟨pc, hpc⟩ : ∃ pc, pc = w.heap.size := ⟨_, rfl⟩
  rw [← hpc] at z0 z1 z2 ⊢
  clear hpc
  go_loopw [13] (fun ci wr => ∃ t : Nat, t ≤ 3 ∧ ci = .int .i64 t ∧ Ext w0 wr) (fun ci _ => 3 - (intOf ci).toNat)
  case atStart => exact ⟨0, by omega, rfl, Ext.refl _⟩
  case round =>
    obtain ⟨t, ht, rfl, hx⟩ := hrel
    rcases caps_t ht with rfl | rfl | rfl | rfl
    · obtain ⟨q1, q2⟩ := Q.out.1
      go_wp2_with fail
      go_roundw
      case rel => exact ⟨1, by omega, by go_num, hx⟩
      case measure => simp [intOf]
    · obtain ⟨q1, q2⟩ := Q.out.2.1
      go_wp2_with fail
      go_roundw
      case rel => exact ⟨2, by omega, by go_num, hx⟩
      case measure => simp [intOf]
    · obtain ⟨q1, q2⟩ := Q.out.2.2
      go_wp2_with fail
      go_roundw
      case rel => exact ⟨3, by omega, by go_num, hx⟩
      case measure => simp [intOf]
    · clear i0 i1 i2
      have z0 := hx.cellv z0
      have z1 := hx.cellv z1
      have z2 := hx.cellv z2
      have hXr := hx0.trans hx
      go_wp2_with fail
      refine (HS.out _ _ _ _ (hXr.alloc _) (HPH.out _)).mono ?_
      rintro e w5 ⟨rfl, ⟨M, hpl⟩, hx5⟩
      have HPL := Lib.hid hpl
      have hX5 := Ext.chg (hXr.alloc _) hx5 (by simp; exact hXr.size)
      have hsz := hXr.size
      clear hpl hx5
      go_wp2_with fail
      go_ret2
      exact ⟨_, M, rfl, hsz, HPL.out, hX5⟩
end
end Go.Proofs.Ytpmfadepinmmjaa
