/-
  store: a shape's right, fits; read. No condition but that all reads.
-/
import Derived.Test.YtoadjmeopamgbaaStPut
namespace Go.Proofs.Ytoadjmeopamgbaa
open Go.RowKit

set_option maxHeartbeats 2000000 in
theorem sright (b s c k : Int) (r : Bool) (hr : decide (1 ≤ b ∧ b ≤ 32 ∧ 1 ≤ s ∧ s ≤ 16 ∧ 1 ≤ c ∧ c ≤ 4 ∧ 1 ≤ k ∧ k ≤ 4) = r) (w : World) :
    Calls Try.prog 29 #[.agg #[.int .i64 b, .int .i64 s, .int .i64 c, .int .i64 k]] w fun e w' => e = .returned (.bool r) ∧ Ext w w' := by
  subst hr
  by_cases q0 : 1 ≤ b
  case neg =>
    go_enter Try.func29, Try.ntmps29
    go_wp2_with fail
    go_ret
    exact ⟨ret_bool (by first | (exact (decide_eq_false (by omega)).symm) | (exact (decide_eq_true (by omega)).symm) | (simp; omega)), (by repeat' (first | (with_reducible exact Ext.refl _) | (with_reducible assumption) | (with_reducible refine Ext.alloc ?_ _) | (with_reducible refine Ext.drewN ?_ _) | (with_reducible refine Ext.drew ?_) | (with_reducible refine Ext.trans ?_ (by assumption))))⟩
  by_cases q1 : b ≤ 32
  case neg =>
    go_enter Try.func29, Try.ntmps29
    go_wp2_with fail
    go_ret
    exact ⟨ret_bool (by first | (exact (decide_eq_false (by omega)).symm) | (exact (decide_eq_true (by omega)).symm) | (simp; omega)), (by repeat' (first | (with_reducible exact Ext.refl _) | (with_reducible assumption) | (with_reducible refine Ext.alloc ?_ _) | (with_reducible refine Ext.drewN ?_ _) | (with_reducible refine Ext.drew ?_) | (with_reducible refine Ext.trans ?_ (by assumption))))⟩
  by_cases q2 : 1 ≤ s
  case neg =>
    go_enter Try.func29, Try.ntmps29
    go_wp2_with fail
    go_ret
    exact ⟨ret_bool (by first | (exact (decide_eq_false (by omega)).symm) | (exact (decide_eq_true (by omega)).symm) | (simp; omega)), (by repeat' (first | (with_reducible exact Ext.refl _) | (with_reducible assumption) | (with_reducible refine Ext.alloc ?_ _) | (with_reducible refine Ext.drewN ?_ _) | (with_reducible refine Ext.drew ?_) | (with_reducible refine Ext.trans ?_ (by assumption))))⟩
  by_cases q3 : s ≤ 16
  case neg =>
    go_enter Try.func29, Try.ntmps29
    go_wp2_with fail
    go_ret
    exact ⟨ret_bool (by first | (exact (decide_eq_false (by omega)).symm) | (exact (decide_eq_true (by omega)).symm) | (simp; omega)), (by repeat' (first | (with_reducible exact Ext.refl _) | (with_reducible assumption) | (with_reducible refine Ext.alloc ?_ _) | (with_reducible refine Ext.drewN ?_ _) | (with_reducible refine Ext.drew ?_) | (with_reducible refine Ext.trans ?_ (by assumption))))⟩
  by_cases q4 : 1 ≤ c
  case neg =>
    go_enter Try.func29, Try.ntmps29
    go_wp2_with fail
    go_ret
    exact ⟨ret_bool (by first | (exact (decide_eq_false (by omega)).symm) | (exact (decide_eq_true (by omega)).symm) | (simp; omega)), (by repeat' (first | (with_reducible exact Ext.refl _) | (with_reducible assumption) | (with_reducible refine Ext.alloc ?_ _) | (with_reducible refine Ext.drewN ?_ _) | (with_reducible refine Ext.drew ?_) | (with_reducible refine Ext.trans ?_ (by assumption))))⟩
  by_cases q5 : c ≤ 4
  case neg =>
    go_enter Try.func29, Try.ntmps29
    go_wp2_with fail
    go_ret
    exact ⟨ret_bool (by first | (exact (decide_eq_false (by omega)).symm) | (exact (decide_eq_true (by omega)).symm) | (simp; omega)), (by repeat' (first | (with_reducible exact Ext.refl _) | (with_reducible assumption) | (with_reducible refine Ext.alloc ?_ _) | (with_reducible refine Ext.drewN ?_ _) | (with_reducible refine Ext.drew ?_) | (with_reducible refine Ext.trans ?_ (by assumption))))⟩
  by_cases q6 : 1 ≤ k
  case neg =>
    go_enter Try.func29, Try.ntmps29
    go_wp2_with fail
    go_ret
    exact ⟨ret_bool (by first | (exact (decide_eq_false (by omega)).symm) | (exact (decide_eq_true (by omega)).symm) | (simp; omega)), (by repeat' (first | (with_reducible exact Ext.refl _) | (with_reducible assumption) | (with_reducible refine Ext.alloc ?_ _) | (with_reducible refine Ext.drewN ?_ _) | (with_reducible refine Ext.drew ?_) | (with_reducible refine Ext.trans ?_ (by assumption))))⟩
  by_cases q7 : k ≤ 4
  case neg =>
    go_enter Try.func29, Try.ntmps29
    go_wp2_with fail
    go_ret
    exact ⟨ret_bool (by first | (exact (decide_eq_false (by omega)).symm) | (exact (decide_eq_true (by omega)).symm) | (simp; omega)), (by repeat' (first | (with_reducible exact Ext.refl _) | (with_reducible assumption) | (with_reducible refine Ext.alloc ?_ _) | (with_reducible refine Ext.drewN ?_ _) | (with_reducible refine Ext.drew ?_) | (with_reducible refine Ext.trans ?_ (by assumption))))⟩
  go_enter Try.func29, Try.ntmps29
  go_wp2_with fail
  go_ret
  exact ⟨ret_bool (by first | (exact (decide_eq_false (by omega)).symm) | (exact (decide_eq_true (by omega)).symm) | (simp; omega)), (by repeat' (first | (with_reducible exact Ext.refl _) | (with_reducible assumption) | (with_reducible refine Ext.alloc ?_ _) | (with_reducible refine Ext.drewN ?_ _) | (with_reducible refine Ext.drew ?_) | (with_reducible refine Ext.trans ?_ (by assumption))))⟩

/-- may a write be, but for its bytes -/
def FitW (h : Sh) (a s b o : Int) : Prop := 0 ≤ a ∧ a < h.c ∧ 0 ≤ s ∧ s < h.k ∧ 1 ≤ b ∧ b ≤ 1099511627776 ∧ 1 ≤ o ∧ o ≤ 1099511627776
instance (h : Sh) (a s b o : Int) : Decidable (FitW h a s b o) := by unfold FitW; infer_instance
set_option maxHeartbeats 2000000 in
theorem sfits (h : Sh) (a s b o bk : Int) (dv : Value) (hdv : ∃ x n c, dv = .slice x n c) (r : Bool) (hr : decide (FitW h a s b o) = r) (w : World) :
    Calls Try.prog 34 #[.agg #[.int .i64 h.b, .int .i64 h.s, .int .i64 h.c, .int .i64 h.k], .agg #[.int .i64 a, .int .i64 s, .int .i64 b, .int .i64 o, .int .i64 bk, dv]] w fun e w' => e = .returned (.bool r) ∧ Ext w w' := by
  subst hr
  obtain ⟨x, n, c, rfl⟩ := hdv
  unfold FitW
  by_cases q0 : 0 ≤ a
  case neg =>
    go_enter Try.func34, Try.ntmps34
    go_wp2_with fail
    go_ret
    exact ⟨ret_bool (by first | (exact (decide_eq_false (by omega)).symm) | (exact (decide_eq_true (by omega)).symm) | (simp; omega)), (by repeat' (first | (with_reducible exact Ext.refl _) | (with_reducible assumption) | (with_reducible refine Ext.alloc ?_ _) | (with_reducible refine Ext.drewN ?_ _) | (with_reducible refine Ext.drew ?_) | (with_reducible refine Ext.trans ?_ (by assumption))))⟩
  by_cases q1 : a < h.c
  case neg =>
    go_enter Try.func34, Try.ntmps34
    go_wp2_with fail
    go_ret
    exact ⟨ret_bool (by first | (exact (decide_eq_false (by omega)).symm) | (exact (decide_eq_true (by omega)).symm) | (simp; omega)), (by repeat' (first | (with_reducible exact Ext.refl _) | (with_reducible assumption) | (with_reducible refine Ext.alloc ?_ _) | (with_reducible refine Ext.drewN ?_ _) | (with_reducible refine Ext.drew ?_) | (with_reducible refine Ext.trans ?_ (by assumption))))⟩
  by_cases q2 : 0 ≤ s
  case neg =>
    go_enter Try.func34, Try.ntmps34
    go_wp2_with fail
    go_ret
    exact ⟨ret_bool (by first | (exact (decide_eq_false (by omega)).symm) | (exact (decide_eq_true (by omega)).symm) | (simp; omega)), (by repeat' (first | (with_reducible exact Ext.refl _) | (with_reducible assumption) | (with_reducible refine Ext.alloc ?_ _) | (with_reducible refine Ext.drewN ?_ _) | (with_reducible refine Ext.drew ?_) | (with_reducible refine Ext.trans ?_ (by assumption))))⟩
  by_cases q3 : s < h.k
  case neg =>
    go_enter Try.func34, Try.ntmps34
    go_wp2_with fail
    go_ret
    exact ⟨ret_bool (by first | (exact (decide_eq_false (by omega)).symm) | (exact (decide_eq_true (by omega)).symm) | (simp; omega)), (by repeat' (first | (with_reducible exact Ext.refl _) | (with_reducible assumption) | (with_reducible refine Ext.alloc ?_ _) | (with_reducible refine Ext.drewN ?_ _) | (with_reducible refine Ext.drew ?_) | (with_reducible refine Ext.trans ?_ (by assumption))))⟩
  by_cases q4 : 1 ≤ b
  case neg =>
    go_enter Try.func34, Try.ntmps34
    go_wp2_with fail
    go_ret
    exact ⟨ret_bool (by first | (exact (decide_eq_false (by omega)).symm) | (exact (decide_eq_true (by omega)).symm) | (simp; omega)), (by repeat' (first | (with_reducible exact Ext.refl _) | (with_reducible assumption) | (with_reducible refine Ext.alloc ?_ _) | (with_reducible refine Ext.drewN ?_ _) | (with_reducible refine Ext.drew ?_) | (with_reducible refine Ext.trans ?_ (by assumption))))⟩
  by_cases q5 : b ≤ 1099511627776
  case neg =>
    go_enter Try.func34, Try.ntmps34
    go_wp2_with fail
    go_ret
    exact ⟨ret_bool (by first | (exact (decide_eq_false (by omega)).symm) | (exact (decide_eq_true (by omega)).symm) | (simp; omega)), (by repeat' (first | (with_reducible exact Ext.refl _) | (with_reducible assumption) | (with_reducible refine Ext.alloc ?_ _) | (with_reducible refine Ext.drewN ?_ _) | (with_reducible refine Ext.drew ?_) | (with_reducible refine Ext.trans ?_ (by assumption))))⟩
  by_cases q6 : 1 ≤ o
  case neg =>
    go_enter Try.func34, Try.ntmps34
    go_wp2_with fail
    go_ret
    exact ⟨ret_bool (by first | (exact (decide_eq_false (by omega)).symm) | (exact (decide_eq_true (by omega)).symm) | (simp; omega)), (by repeat' (first | (with_reducible exact Ext.refl _) | (with_reducible assumption) | (with_reducible refine Ext.alloc ?_ _) | (with_reducible refine Ext.drewN ?_ _) | (with_reducible refine Ext.drew ?_) | (with_reducible refine Ext.trans ?_ (by assumption))))⟩
  by_cases q7 : o ≤ 1099511627776
  case neg =>
    go_enter Try.func34, Try.ntmps34
    go_wp2_with fail
    go_ret
    exact ⟨ret_bool (by first | (exact (decide_eq_false (by omega)).symm) | (exact (decide_eq_true (by omega)).symm) | (simp; omega)), (by repeat' (first | (with_reducible exact Ext.refl _) | (with_reducible assumption) | (with_reducible refine Ext.alloc ?_ _) | (with_reducible refine Ext.drewN ?_ _) | (with_reducible refine Ext.drew ?_) | (with_reducible refine Ext.trans ?_ (by assumption))))⟩
  go_enter Try.func34, Try.ntmps34
  go_wp2_with fail
  go_ret
  exact ⟨ret_bool (by first | (exact (decide_eq_false (by omega)).symm) | (exact (decide_eq_true (by omega)).symm) | (simp; omega)), (by repeat' (first | (with_reducible exact Ext.refl _) | (with_reducible assumption) | (with_reducible refine Ext.alloc ?_ _) | (with_reducible refine Ext.drewN ?_ _) | (with_reducible refine Ext.drew ?_) | (with_reducible refine Ext.trans ?_ (by assumption))))⟩

/-- all bytes are bytes -/
def Byt (d : Dk) : Prop := ∀ i, ∀ x ∈ d.rows.getD i [], 0 ≤ x ∧ x ≤ 255
/-- a store over a disk -/
structure StAt (w : World) (F : List Nat) (ps p bl : Nat) (h : Sh) (d : Dk) : Prop where
  hd : ∃ t, w.heap[ps]? = some (.cells #[.int .i64 h.b, .int .i64 h.s, .int .i64 h.c, .int .i64 h.k, .pointer (some ⟨p, 0, none⟩)] t (0, 0))
  dk : DiskAt w F p bl d
  np : ps ≠ p
  nb : ps ≠ bl
  byt : Byt d
  ok : h.Ok
  many : h.many ≤ d.rows.length
section
variable {w w' : World} {F : List Nat} {ps p bl : Nat} {h : Sh} {d : Dk}
theorem StAt.lt (s : StAt w F ps p bl h d) : ps < w.heap.size := by obtain ⟨t, h1⟩ := s.hd; exact (Array.getElem?_eq_some_iff.1 h1).1
theorem StAt.ext (s : StAt w F ps p bl h d) (hx : Ext w w') : StAt w' F ps p bl h d :=
  ⟨by obtain ⟨t, h1⟩ := s.hd; exact ⟨t, (Below.block hx ps s.lt).trans h1⟩, s.dk.ext hx, s.np, s.nb, s.byt, s.ok, s.many⟩
theorem StAt.chg (s : StAt w F ps p bl h d) {d' : Dk} (hx : Chg [p, bl] w w') (hd : DiskAt w' F p bl d') (hb : Byt d') (hm : d'.rows.length = d.rows.length) : StAt w' F ps p bl h d' :=
  ⟨by obtain ⟨t, h1⟩ := s.hd; exact ⟨t, (hx.block ps s.lt (by simp [s.np, s.nb])).trans h1⟩, hd, s.np, s.nb, hb, s.ok, by rw [hm]; exact s.many⟩
theorem StAt.c0 (s : StAt w F ps p bl h d) : w.cell? ⟨ps, 0, none⟩ = some (.int .i64 h.b) := by obtain ⟨t, h1⟩ := s.hd; exact cell_of_row w ps 0 _ _ _ h1
theorem StAt.c1 (s : StAt w F ps p bl h d) : w.cell? ⟨ps, 1, none⟩ = some (.int .i64 h.s) := by obtain ⟨t, h1⟩ := s.hd; exact cell_of_row w ps 1 _ _ _ h1
theorem StAt.c2 (s : StAt w F ps p bl h d) : w.cell? ⟨ps, 2, none⟩ = some (.int .i64 h.c) := by obtain ⟨t, h1⟩ := s.hd; exact cell_of_row w ps 2 _ _ _ h1
theorem StAt.c3 (s : StAt w F ps p bl h d) : w.cell? ⟨ps, 3, none⟩ = some (.int .i64 h.k) := by obtain ⟨t, h1⟩ := s.hd; exact cell_of_row w ps 3 _ _ _ h1
theorem StAt.c4 (s : StAt w F ps p bl h d) : w.cell? ⟨ps, 4, none⟩ = some (.pointer (some ⟨p, 0, none⟩)) := by obtain ⟨t, h1⟩ := s.hd; exact cell_of_row w ps 4 _ _ _ h1
end
section
variable (w : World) (F : List Nat) (ps p bl : Nat) (h : Sh) (d : Dk)
theorem sread (s : StAt w F ps p bl h d) (i : Nat) (hi : i < d.rows.length) :
    Calls Try.prog 47 #[.pointer (some ⟨ps, 0, none⟩), .int .i64 i] w fun e w' => ∃ g v t, e = .returned (.pointer (some ⟨g, 0, none⟩)) ∧ w'.heap[g]? = some (.cells #[v, .int .i64 0, .bool true] t (0, 0)) ∧ RdI .u8 w' v (d.rows.getD i []) ∧ w.heap.size ≤ g ∧ (∀ x, v.ownBlock = some x → w.heap.size ≤ x ∧ x < g) ∧ Ext w w' := by
  have c4 := s.c4
  have HR := Lib.hid (dread_any F p bl d w s.dk i ⟨by omega, by omega⟩)
  rw [Int.toNat_natCast] at HR
  obtain ⟨R, hR⟩ : ∃ R, R = d.rows.getD i [] := ⟨_, rfl⟩
  rw [← hR] at HR ⊢
  clear s hR
  go_enter Try.func47, Try.ntmps47
  go_wp2_with fail
  refine HR.out.mono ?_
  rintro e w1 ⟨v1, rfl, ho, hx⟩
  obtain ⟨a, c, rfl, _, _, _, _⟩ := ho.rd.parts
  go_wp2_with fail
  go_ret
  refine ⟨_, _, _, rfl, heap_alloc_new w1 _, ho.rd.ext ((Ext.refl w1).alloc _), hx.size, ?_, (by repeat' (first | (with_reducible exact Ext.refl _) | (with_reducible assumption) | (with_reducible refine Ext.alloc ?_ _) | (with_reducible refine Ext.drewN ?_ _) | (with_reducible refine Ext.drew ?_) | (with_reducible refine Ext.trans ?_ (by assumption))))⟩
  intro x e
  exact ho.lt _ e
end
end Go.Proofs.Ytoadjmeopamgbaa
