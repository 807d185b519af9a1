/-
  gradineref13: without, Prune, Drop. No condition but that the stack is there and its blocks are a stack's.
-/
import Derived.Test.YtibcfmnkpemieaaUniRef2
namespace Go.Proofs.Ytibcfmnkpemieaa
open Go.RowKit

theorem Rd.two (w : World) (a b : Value) (e : TypeId) : Rd (w.alloc (.cells #[a, b] e)) 2 (.slice (some ⟨w.heap.size, 0, none⟩) 1 1) 1 [a, b] := by
  refine ⟨by simp, _, _, rfl, Nat.le_refl _, by simp [maxLen], fun h => (by cases h), fun _ => ⟨w.heap.size, 0, rfl, by simp, fun j v hj => ?_⟩⟩
  match j, hj with
  | 0, hj => simp at hj; subst hj; exact cell_new _ _ _ _ rfl
  | 1, hj => simp at hj; subst hj; exact cell_new _ _ _ _ rfl
theorem item_info : (Try.prog.info? 95).map (fun i => (i.zero, i.size, i.bytes)) = some (some (.agg #[.int .i64 0, .int .i64 0]), 2, 16) := by kernel_rfl
/-- an own slice of blocks with levels -/
def OwnU (base : Nat) (w : World) (v : Value) (M : List Nat) (lv : Nat → Nat) : Prop := w.ownsRow base 95 2 v M.length (icells M lv)
theorem OwnU.ext {base : Nat} {w w' : World} {v : Value} {M : List Nat} {lv : Nat → Nat} (h : OwnU base w v M lv) (hb : Ext w w') : OwnU base w' v M lv := own_ext h hb
theorem OwnU.nil (base : Nat) (w : World) (lv : Nat → Nat) : OwnU base w (.slice none 0 0) [] lv := ⟨rfl, .inl ⟨rfl, rfl⟩⟩
theorem OwnU.rd {base : Nat} {w : World} {v : Value} {M : List Nat} {lv : Nat → Nat} (h : OwnU base w v M lv) : Rd w 2 v M.length (icells M lv) := Rd.of_own h

section
variable (p : Nat) (vL vC : Value) (caps : Nat → Nat) (M : List Nat) (lv : Nat → Nat) (w : World) (h : RefAt w p vL vC caps M lv)
include h
set_option maxRecDepth 100000 in
set_option maxHeartbeats 2000000 in
theorem rwithout (hlen : M.length ≤ 1000) (r : Int) : Calls Try.prog 57 #[.pointer (some ⟨p, 0, none⟩), .int .i64 r] w fun e w' => ∃ v, e = .returned v ∧ OwnU w.heap.size w' v (woP M r M.length) lv ∧ Ext w w' := by
  obtain ⟨a, c, rfl, hc, hm, hs⟩ := rd_items h.row
  have HS := Lib.hid hs
  have c0 := h.c0
  obtain ⟨n, hn⟩ : ∃ n, n = M.length := ⟨_, rfl⟩
  have HN := Lib.hid hn
  rw [← hn] at HS c0 hc hlen ⊢
  clear h hs hn hc hm
  go_enter Try.func57, Try.ntmps57
  go_wp2_with fail
  go_loopw [5, 6] (fun vo vi wr => ∃ k : Nat, k ≤ n ∧ vi = .int .i64 k ∧ OwnU w.heap.size wr vo (woP M r k) lv ∧ Ext w wr) (fun _ vi _ => n - (intOf vi).toNat)
  case atStart => exact ⟨0, by omega, rfl, OwnU.nil _ _ _, Ext.refl _⟩
  case round =>
    obtain ⟨k, hk, rfl, ho, hx⟩ := hrel
    have HO := Lib.hid ho
    have c0r := hx.cellv c0
    clear ho
    by_cases hlt : k < n
    · obtain ⟨b, o, rfl, hb, hcell⟩ := HS.out (by omega)
      obtain ⟨e0, e1⟩ := hcell k hlt
      have e0 := hx.cellv e0
      have e1 := hx.cellv e1
      have hstep := woP_succ M r k
      have hwl := woP_len M r k
      obtain ⟨y, hy⟩ : ∃ y, M.getD k 0 = y := ⟨_, rfl⟩
      rw [hy] at e0 e1 hstep
      have HSTEP := Lib.hid hstep
      have HWL := Lib.hid hwl
      clear hcell hy hstep hwl
      by_cases e : (k : Int) = r
      · subst e
        go_wp2_with fail
        go_roundw
        case rel => exact ⟨k + 1, by omega, by go_num, by rw [HSTEP.out, if_pos rfl]; exact HO.out, hx⟩
        case measure => simp [intOf]; omega
      · have hb : ((k : Int) == r) = false := by rw [beq_eq_false_iff_ne]; omega
        have HE := Lib.hid e
        obtain ⟨im, him, hz0, hz1, hz2⟩ := info_parts item_info
        have hsz : w.heap.size ≤ wr.heap.size := hx.size
        clear e
        go_wp2_with (at_builtin; refine wpList_append_rd rfl _ _ 89 rfl w.heap.size 95 im (.agg #[.int .i64 0, .int .i64 0]) 2 16 Try.underlying89 him hz0 hz1 hz2 rfl (by omega) _ _ _ rfl (HO.out.ext (by repeat' (first | (with_reducible exact Ext.refl _) | (with_reducible assumption) | (with_reducible refine Ext.alloc ?_ _) | (with_reducible refine Ext.drewN ?_ _) | (with_reducible refine Ext.drew ?_) | (with_reducible refine Ext.trans ?_ (by assumption))))) _ 1 _ rfl (Rd.two _ _ _ _) (by simp [Value.oneCell']) (by have := HWL.out; unfold maxLen; omega) (by have := HWL.out; omega) (by simp; omega) ?_)
        intro v6 w6 ho6 hg6
        have hx6 : Ext w w6 := by
          refine Below.grown (B := w.heap.size) (show Ext w (wr.alloc _) from hx.alloc _) hg6 (by simp; omega) ?_
          intro g hg
          exact (World.ownsRow.lt (HO.out) g hg).1
        go_wp2_with fail
        go_roundw
        case rel =>
          refine ⟨k + 1, by omega, by go_num, ?_, hx6⟩
          rw [HSTEP.out, if_neg HE.out]
          unfold OwnU
          rw [icells_append, List.length_append]
          exact ho6
        case measure => simp [intOf]; omega
    · obtain rfl : k = n := by omega
      go_wp2_with fail
      go_ret
      exact ⟨_, rfl, HO.out, hx⟩
end
end Go.Proofs.Ytibcfmnkpemieaa
