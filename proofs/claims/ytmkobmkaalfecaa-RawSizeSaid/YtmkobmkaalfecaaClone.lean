/-
  slices.Clone of bytes: the slice that it hands back reads as the one that came in, and is the call's own. No condition but that the slice reads.
-/
import Derived.Test.YtmkobmkaalfecaaRows
import Derived.Test.YtmkobmkaalfecaaMem
namespace Go.Proofs.Ytmkobmkaalfecaa
open Go.RowKit

theorem bytes_info : (Try.prog.info? 5).map (fun i => (i.zero, i.size, i.bytes)) = some (some (.int .u8 0), 1, 1) := by kernel_rfl

theorem clone_any (v : Value) (l : List Int) (w : World) (h : RdI .u8 w v l) (hlen : Fits l.length) :
    Calls Try.prog 55 #[v] w fun e w' => ∃ v', e = .returned v' ∧ w'.ownsRow w.heap.size 5 1 v' l.length (cellsOf .u8 l) ∧ Below w.heap.size w w' := by
  obtain ⟨i0, hi, hz0, hz1, hz2⟩ := info_parts bytes_info
  obtain ⟨a, c, rfl, hlc, hcm, hnil, hsome⟩ := h.open
  cases a with
  | none =>
    obtain ⟨rfl, rfl⟩ := hnil rfl
    clear hnil hsome hcm
    have hn := fun (w : World) (a : Option Addr) (n c n' c' : Nat) => Lib.run_eql_slice_nil (P := Try.prog) w 24 5 a n c n' c' Try.underlying24
    go_enter Try.func55, Try.ntmps55
    go_wp2
    go_ret
    exact ⟨_, rfl, World.ownsRow_nil _ _ _ _, Below.refl _ _⟩
  | some a =>
    clear hnil hsome hcm
    have hn := fun (w : World) (a : Option Addr) (n c n' c' : Nat) => Lib.run_eql_slice_nil (P := Try.prog) w 24 5 a n c n' c' Try.underlying24
    go_enter Try.func55, Try.ntmps55
    have ho := World.ownsRow_lit (base := w.heap.size) (e := 5) (size := 1) w #[] 0 (Nat.le_refl _) (by simp) (by simp)
    have hr : RdI .u8 (w.alloc (.cells #[] 5)) (.slice (some a) l.length c) l := h.below ((Below.refl _ _).alloc (Nat.le_refl _) _) (Nat.le_refl _)
    have HO := Lib.hid ho
    have HR := Lib.hid hr
    clear ho hr h
    go_wp2_with (at_builtin; refine wpList_append_rd rfl _ _ 24 rfl w.heap.size 5 i0 (.int .u8 0) 1 1 Try.underlying24 hi hz0 hz1 hz2 rfl (by decide) _ _ _ rfl HO.out _ _ _ rfl HR.out cellsOf_one (by have := hlen.out; unfold maxLen; omega) (by have := hlen.out; omega) (by simp) ?_)
    intro v' w' hown hg
    have HOW := Lib.hid hown
    have HB := Lib.hid (below_own ((Below.refl w.heap.size w).alloc (Nat.le_refl _) (.cells #[] 5)) HO.out hg (Nat.le_refl _) (by simp))
    clear hown hg HO HR
    go_wp2
    go_ret
    refine ⟨_, rfl, ?_, HB.out⟩
    simpa using HOW.out
end Go.Proofs.Ytmkobmkaalfecaa
