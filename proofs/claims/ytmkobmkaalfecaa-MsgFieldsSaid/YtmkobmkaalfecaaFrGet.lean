/-
  frame.Get of bytes whose last is not their sum. No condition but that the slice reads.
-/
import Derived.Test.YtmkobmkaalfecaaFrRight
import Derived.Laws.ResultCell
import Derived.Test.YtmkobmkaalfecaaSpc
import Derived.BigQuiet
import Derived.Deep.QuietTactic
namespace Go.Proofs.Ytmkobmkaalfecaa
open Go.RowKit

theorem results_row_tmp {P : Program} {fn : Func} {p u : Tmp} {ty : TypeId} (h : fn.results = #[.cell p ty, .tmp u]) (tmps : Array Value) (w : World) (g : Nat) (t : TypeId) (cs : Array Value) (fr : Nat × Nat) (d : TypeDesc)
    (hp : tmps.getD p undef = .pointer (some ⟨g, 0, none⟩)) (hg : w.heap[g]? = some (.cells cs t fr))
    (hu : P.underlying ty = some d) (hd : (match d with | .struct _ | .array _ _ => true | _ => false) = true) (hi : (P.info? ty).map (·.size) = some cs.size) :
    (results fn tmps).run P w = .ok (.tuple #[.agg cs, tmps.getD u undef]) w := by
  rw [results_cell_tmp h, hp]
  simp [asAddr, run_loadVar_row w g t ty cs fr d hg hu hd hi, Result.andThen]

theorem pkt_info : (Try.prog.info? 49).map (·.size) = some 5 := by kernel_rfl
theorem fillp {w : World} {p : Nat} (h : w.heap[p]? = some (.cells #[.int .i64 0, .int .i64 0, .int .i64 0, .int .i64 0, .slice none 0 0] 49 (0, 0))) (v0 v1 v2 v3 v4 : Value) :
    (((((w.setCell ⟨p, 0, none⟩ v0).setCell ⟨p, 1, none⟩ v1).setCell ⟨p, 2, none⟩ v2).setCell ⟨p, 3, none⟩ v3).setCell ⟨p, 4, none⟩ v4).heap[p]? = some (.cells #[v0, v1, v2, v3, v4] 49 (0, 0)) :=
  heap_set (heap_set (heap_set (heap_set (heap_set h _) _) _) _) _

/-- at the label 'failed' -/
def FrJ (p : Nat) (er : Int) (W : World) (a : Act) (w : World) : Prop :=
  ∃ (u0 u1 u3 u4 u5 u7 u8 u9 u10 u11 u12 u13 u14 u15 u16 u17 u18 u19 u20 u21 u22 u23 u24 u25 u26 u27 u28 u29 u30 u31 u32 u33 u34 u35 u36 u37 u38 u39 u40 u41 u42 u43 u44 u45 u46 u47 u48 u49 u50 u51 u52 u53 u54 u55 u56 u57 u58 u59 u60 u61 u62 u63 u64 : Value),
    a = { tmps := #[u0, u1, .pointer (some ⟨p, 0, none⟩), u3, u4, u5, .int .i64 er, u7, u8, u9, u10, u11, u12, u13, u14, u15, u16, u17, u18, u19, u20, u21, u22, u23, u24, u25, u26, u27, u28, u29, u30, u31, u32, u33, u34, u35, u36, u37, u38, u39, u40, u41, u42, u43, u44, u45, u46, u47, u48, u49, u50, u51, u52, u53, u54, u55, u56, u57, u58, u59, u60, u61, u62, u63, u64], defers := [] } ∧
    w.heap[p]? = some (.cells #[.int .i64 0, .int .i64 0, .int .i64 0, .int .i64 0, .slice none 0 0] 49 (0, 0)) ∧ Ext W w

set_option maxRecDepth 100000 in
set_option maxHeartbeats 2000000 in
theorem frget_bad (v : Value) (l : List Int) (n : Nat) (w : World) (h : RdI .u8 w v l) (hb : ∀ x ∈ l, 0 ≤ x ∧ x ≤ 255) (hl : l.length = n + 1) (hl2 : l.length ≤ 100000) (hne : l.getD n 0 ≠ ssum (l.take n)) :
    Calls Try.prog 36 #[v] w fun e w' => e = .returned (.tuple #[pktV 0 0 0 0 (.slice none 0 0), .int .i64 2]) ∧ Ext w w' := by
  have HN := Lib.hid hne
  have HB := Lib.hid hb
  have hH := Lib.hid h
  obtain ⟨a, c, rfl, hc, hm, hn, hs⟩ := h.parts
  obtain ⟨b, o, rfl, hbl, hcell⟩ := hs (by intro q; rw [q] at hl; simp at hl)
  have hcl := hcell n (by omega)
  obtain ⟨x, hx⟩ : ∃ x, x = l.getD n 0 := ⟨_, rfl⟩
  rw [← hx] at hcl HN
  obtain ⟨s, hss⟩ : ∃ s, s = ssum (l.take n) := ⟨_, rfl⟩
  have HT := Lib.hid (hH.out.take n (by omega))
  have HS := Lib.hid (fun w h => hss ▸ fsum (.slice (some ⟨b, o, none⟩) n c) (l.take n) w h (fun x hx => HB.out x (List.mem_of_mem_take hx)) (by simp; omega))
  rw [← hss] at HN
  have hxs : (x != s) = true := by rw [bne_iff_ne]; exact HN.out
  obtain ⟨L, hL⟩ : ∃ L, L = l.length := ⟨_, rfl⟩
  rw [← hL] at hl hl2 hc ⊢
  have hn1 : (n : Int) < (L : Int) := by omega
  have hn2 : (L : Int) - 1 = (n : Int) := by omega
  have hn3 : (n : Int) ≤ c := by omega
  clear hm hn hs hcell hx hss h hb hne hL
  unfold pktV
  go_enter Try.func36, Try.ntmps36
  go_wp2_with fail
  refine wp_scope_label 0 (FrJ w.heap.size 2 w) (fun _ _ => 0) rfl ?_ ?_
  · rintro a' w' ⟨u0, u1, u3, u4, u5, u7, u8, u9, u10, u11, u12, u13, u14, u15, u16, u17, u18, u19, u20, u21, u22, u23, u24, u25, u26, u27, u28, u29, u30, u31, u32, u33, u34, u35, u36, u37, u38, u39, u40, u41, u42, u43, u44, u45, u46, u47, u48, u49, u50, u51, u52, u53, u54, u55, u56, u57, u58, u59, u60, u61, u62, u63, u64, rfl, hh, hx⟩
    have d0 : w'.cell? ⟨w.heap.size, 0, none⟩ = some (.int .i64 0) := cell_of_row w' _ 0 _ _ _ hh
    have d1 : w'.cell? ⟨w.heap.size, 1, none⟩ = some (.int .i64 0) := cell_of_row w' _ 1 _ _ _ hh
    have d2 : w'.cell? ⟨w.heap.size, 2, none⟩ = some (.int .i64 0) := cell_of_row w' _ 2 _ _ _ hh
    have d3 : w'.cell? ⟨w.heap.size, 3, none⟩ = some (.int .i64 0) := cell_of_row w' _ 3 _ _ _ hh
    have d4 : w'.cell? ⟨w.heap.size, 4, none⟩ = some (.slice none 0 0) := cell_of_row w' _ 4 _ _ _ hh
    have fz0 := frozen_row hh 0
    have fz1 := frozen_row hh 1
    have fz2 := frozen_row hh 2
    have fz3 := frozen_row hh 3
    have fz4 := frozen_row hh 4
    go_wp2
    simp only [Exit.jump]
    refine bodyPost_ret (results_row_tmp rfl _ _ w.heap.size _ _ _ _ rfl (fillp hh _ _ _ _ _) Try.underlying49 rfl pkt_info) rfl ?_
    refine ⟨rfl, ?_⟩
    exact Below.setCell (Below.setCell (Below.setCell (Below.setCell (Below.setCell hx (Nat.le_refl _) _) (Nat.le_refl _) _) (Nat.le_refl _) _) (Nat.le_refl _) _) (Nat.le_refl _) _
  · intro hpass
    have HP := Lib.hid hpass
    clear hpass
    go_wp2_with fail
    go_quiet ((go_at_call 59; exact Calls.quiet_of_same (v := .int .u8 s) ((HS.out _ (HT.out.ext (by repeat' (first | (with_reducible exact Ext.refl _) | (with_reducible assumption) | (with_reducible refine Ext.alloc ?_ _) | (with_reducible refine Ext.drewN ?_ _) | (with_reducible refine Ext.drew ?_) | (with_reducible refine Ext.trans ?_ (by assumption)))))).mono fun e w' h => ⟨h.1, h.2.symm⟩)))
    go_wp2
    go_step3
    refine ⟨rfl, _, _, _, _, _, _, _, _, _, _, _, _, _, _, _, _, _, _, _, _, _, _, _, _, _, _, _, _, _, _, _, _, _, _, _, _, _, _, _, _, _, _, _, _, _, _, _, _, _, _, _, _, _, _, _, _, _, _, _, _, _, _, _, rfl, ?_, (by repeat' (first | (with_reducible exact Ext.refl _) | (with_reducible assumption) | (with_reducible refine Ext.alloc ?_ _) | (with_reducible refine Ext.drewN ?_ _) | (with_reducible refine Ext.drew ?_) | (with_reducible refine Ext.trans ?_ (by assumption))))⟩
    exact (Below.block (show Ext (w.alloc _) _ from (by repeat' (first | (with_reducible exact Ext.refl _) | (with_reducible assumption) | (with_reducible refine Ext.alloc ?_ _) | (with_reducible refine Ext.drewN ?_ _) | (with_reducible refine Ext.drew ?_) | (with_reducible refine Ext.trans ?_ (by assumption))))) _ (cell_lt (cell_new w #[.int .i64 0, .int .i64 0, .int .i64 0, .int .i64 0, .slice none 0 0] 49 (0, 0) (j := 0) rfl))).trans (heap_alloc_new w _)
end Go.Proofs.Ytmkobmkaalfecaa
