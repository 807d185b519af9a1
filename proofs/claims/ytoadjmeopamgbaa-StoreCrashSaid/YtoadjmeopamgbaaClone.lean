/-
  slices.Clone of bytes: the slice that it hands back reads as the one that came in, and is the call's own. No condition but that the slice reads.
-/
import Derived.Test.YtoadjmeopamgbaaRows
import Derived.Test.YtoadjmeopamgbaaMem
namespace Go.Proofs.Ytoadjmeopamgbaa
open Go.RowKit

theorem bytes_info : (Try.prog.info? 5).map (fun i => (i.zero, i.size, i.bytes)) = some (some (.int .u8 0), 1, 1) := by kernel_rfl

theorem clone_any (v : Value) (l : List Int) (w : World) (h : RdI .u8 w v l) (hlen : Fits l.length) :
    Calls Try.prog 42 #[v] w fun e w' => ∃ v', e = .returned v' ∧ OwnI .u8 5 w.heap.size w' v' l ∧ Ext w w' := by
  obtain ⟨a, c, rfl, hlc, hcm, hnil, hsome⟩ := h.parts
  cases a with
  | none =>
    obtain ⟨rfl, rfl⟩ := hnil rfl
    clear hnil hsome hcm
    have hn := fun (w : World) (a : Option Addr) (n c n' c' : Nat) => Lib.run_eql_slice_nil (P := Try.prog) w 36 5 a n c n' c' Try.underlying36
    go_enter Try.func42, Try.ntmps42
    go_wp2
    go_ret
    exact ⟨_, rfl, OwnI.nil _ _ _ _, Ext.refl _⟩
  | some a =>
    clear hnil hsome hcm
    have hn := fun (w : World) (a : Option Addr) (n c n' c' : Nat) => Lib.run_eql_slice_nil (P := Try.prog) w 36 5 a n c n' c' Try.underlying36
    go_enter Try.func42, Try.ntmps42
    go_wp2_with (at_builtin; refine wpList_append_ints rfl _ _ 36 rfl 5 .u8 0 1 Try.underlying36 bytes_info (by decide) w (by repeat' (first | (with_reducible exact Ext.refl _) | (with_reducible assumption) | (with_reducible refine Ext.alloc ?_ _) | (with_reducible refine Ext.drewN ?_ _) | (with_reducible refine Ext.drew ?_) | (with_reducible refine Ext.trans ?_ (by assumption)))) _ _ rfl (OwnI.empty .u8 5 w (Nat.le_refl _)) _ _ rfl (h.ext (by repeat' (first | (with_reducible exact Ext.refl _) | (with_reducible assumption) | (with_reducible refine Ext.alloc ?_ _) | (with_reducible refine Ext.drewN ?_ _) | (with_reducible refine Ext.drew ?_) | (with_reducible refine Ext.trans ?_ (by assumption))))) (by simpa using hlen) ?_)
    intro v' w' hown hx
    go_wp2
    go_ret
    exact ⟨_, rfl, by simpa using hown, hx⟩
end Go.Proofs.Ytoadjmeopamgbaa
