/-
  list.Space: All, Ahead, New. No condition but that the space lies in memory.
-/
import Derived.Test.YtpmfadepinmmjaaSpace2
import Derived.Test.YtpmfadepinmmjaaInts2
namespace Go.Proofs.Ytpmfadepinmmjaa
open Go.RowKit

/-- a slice's length -/
def lenOf : Value → Nat | .slice _ n _ => n | _ => 0
theorem lenOf_own {k : IntKind} {e : TypeId} {base : Nat} {w : World} {v : Value} {l : List Int} (h : OwnI k e base w v l) : lenOf v = l.length := by
  obtain ⟨a, c, rfl, _⟩ := h.rd.parts
  rfl

theorem hd_nil (q : Int) : hd [] q = q := rfl
theorem hd_cons (b : Nat) (t : List Nat) (q : Int) : hd (b :: t) q = b := rfl

/-- blocks as integers -/
def asInts (L : List Nat) : List Int := L.map (fun (b : Nat) => (b : Int))

set_option maxHeartbeats 1000000 in
theorem all_in (bs be : Nat) (Ls : List (List Nat)) (k : Nat) (w : World) (h : SpaceAt w bs be Ls) (hk : k < Ls.length) :
    Calls Try.prog 33 #[.pointer (some ⟨bs, 0, none⟩), .int .i64 k] w fun e w' => ∃ v, e = .returned v ∧ OwnI .i64 3 w.heap.size w' v (asInts (Ls.getD k [])) ∧ Ext w w' := by
  obtain ⟨A, E, h1, h2⟩ := h
  have hki : (k : Int) < (Ls.length : Int) := by omega
  have HL := Lib.hid (fun W hW => list_is bs be Ls.length A E k W hW true (by simp; omega))
  have e0 := h1.endc0 hk
  rw [h2.front k hk] at e0
  have hseg := h2.seg k hk
  have hlen := h2.len hk
  revert e0 hseg hlen
  generalize Ls.getD k [] = L
  intro e0 hseg hlen
  obtain ⟨x0, hx0⟩ : ∃ x0, x0 = hd L (-1) := ⟨_, rfl⟩
  rw [← hx0] at e0
  have HX0 := Lib.hid hx0
  have sl := h1.slice
  have SG := Lib.hid hseg
  clear hseg hx0
  go_enter Try.func33, Try.ntmps33
  go_wp2_with fail
  refine (HL.out _ h1).mono ?_
  rintro e w1 ⟨rfl, rfl⟩
  go_wp2_with fail
  go_loopw [5, 6] (fun vo vb wr => ∃ L1 L2 : List Nat, L = L1 ++ L2 ∧ vb = .int .i64 (hd L2 (-1)) ∧ OwnI .i64 3 w.heap.size wr vo (asInts L1) ∧ Ext w wr) (fun vo _ _ => L.length - lenOf vo)
  case atStart => exact ⟨[], L, rfl, by rw [HX0.out], OwnI.nil _ _ _ _, Ext.refl _⟩
  case round =>
    obtain ⟨L1, L2, hL, rfl, ho, hx⟩ := hrel
    have hlo := lenOf_own ho
    simp only [asInts, List.length_map] at hlo
    have HLe := Lib.hid hL
    have HLo := Lib.hid hlo
    have hle : L1.length + L2.length ≤ 64 := by have := congrArg List.length hL; simp at this; omega
    have HS := Lib.hid (show Seg A k (lst (-1) L1) L2 (-1) by have := SG.out; rw [hL, seg_append] at this; exact this.2)
    clear hL hlo
    cases L2 with
    | nil =>
      rw [hd_nil]
      go_wp2_with fail
      go_ret
      refine ⟨_, rfl, ?_, hx⟩
      have := HLe.out
      rw [List.append_nil] at this
      rw [this]; exact ho
    | cons b t =>
      obtain ⟨hb, _, _, hA2, _⟩ := HS.out
      have n2 := (h1.ext hx).node (f := 2) hb (by omega)
      rw [hA2] at n2
      have hbi : (b : Int) < 64 := by omega
      have hbn : ((b : Int) != -1) = true := by rw [bne_iff_ne]; omega
      rw [hd_cons]
      clear hA2
      go_wp2_with (at_builtin; refine wpList_append_ints rfl _ _ 41 rfl 3 .i64 0 8 Try.underlying41 ints_info (by decide) w (by repeat' (first | (with_reducible exact Ext.refl _) | (with_reducible assumption) | (with_reducible refine Ext.alloc ?_ _) | (with_reducible refine Ext.drewN ?_ _) | (with_reducible refine Ext.drew ?_) | (with_reducible refine Ext.trans ?_ (by assumption)))) _ _ rfl (ho.ext (by repeat' (first | (with_reducible exact Ext.refl _) | (with_reducible assumption) | (with_reducible refine Ext.alloc ?_ _) | (with_reducible refine Ext.drewN ?_ _) | (with_reducible refine Ext.drew ?_) | (with_reducible refine Ext.trans ?_ (by assumption))))) _ _ rfl (RdI.one _ _ _ _) (by exact fits_small (by simp [asInts] at hle ⊢; omega)) ?_)
      intro v2 w2 ho2 hx2
      have n3 := (h1.ext hx2).node (f := 2) hb (by omega)
      obtain ⟨x, hxx⟩ : ∃ x, x = A b 2 := ⟨_, rfl⟩
      have HX := Lib.hid hxx
      rw [← hxx] at n3
      clear hxx n2
      go_wp2_with fail
      go_roundw
      case rel =>
        obtain ⟨_, _, _, hA2, _⟩ := HS.out
        refine ⟨L1 ++ [b], t, by rw [List.append_assoc]; exact HLe.out, by rw [HX.out, hA2], ?_, hx2⟩
        simpa [asInts] using ho2
      case measure =>
        have := lenOf_own ho2
        have h3 := HLo.out
        have h4 := congrArg List.length HLe.out
        simp [asInts] at this h4
        omega
end Go.Proofs.Ytpmfadepinmmjaa
