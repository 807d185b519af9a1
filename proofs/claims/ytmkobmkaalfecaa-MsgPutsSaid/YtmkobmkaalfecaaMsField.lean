/-
  A message as it lies in memory; msg.spot and msg.field. No condition but that the message is there.
-/
import Derived.Test.YtmkobmkaalfecaaMsBits
import Derived.Test.YtmkobmkaalfecaaSpc
namespace Go.Proofs.Ytmkobmkaalfecaa
open Go.RowKit

def mrow (K : Int) (N : Nat → Int) (g : Bool) (d : Value) : Array Value := #[.int .i64 K, .int .i64 (N 1), .int .i64 (N 2), .int .i64 (N 3), .int .i64 (N 4), .int .i64 (N 5), .int .i64 (N 6), .int .i64 (N 7), .int .i64 (N 8), .bool g, d]
def msgV (K : Int) (N : Nat → Int) (g : Bool) (d : Value) : Value := .agg (mrow K N g d)
def MsgAt (w : World) (p : Nat) (K : Int) (N : Nat → Int) (g : Bool) (d : Value) : Prop := w.heap[p]? = some (.cells (mrow K N g d) 62 (0, 0))
def updF (N : Nat → Int) (f : Nat) (x : Int) : Nat → Int := fun i => if i = f then x else N i
section
variable {w w' : World} {p : Nat} {K : Int} {N : Nat → Int} {g : Bool} {d : Value}
theorem MsgAt.lt (h : MsgAt w p K N g d) : p < w.heap.size := (Array.getElem?_eq_some_iff.1 h).1
theorem MsgAt.ext (h : MsgAt w p K N g d) (hx : Ext w w') : MsgAt w' p K N g d := (Below.block hx _ h.lt).trans h
theorem MsgAt.chg {S : List Nat} (h : MsgAt w p K N g d) (hx : Chg S w w') (hS : p ∉ S) : MsgAt w' p K N g d := (hx.block _ h.lt hS).trans h
theorem MsgAt.kind (h : MsgAt w p K N g d) : w.cell? ⟨p, 0, none⟩ = some (.int .i64 K) := cell_of_row w p 0 _ _ _ h
theorem MsgAt.num (h : MsgAt w p K N g d) {f : Nat} (h1 : 1 ≤ f) (h8 : f ≤ 8) : w.cell? ⟨p, f, none⟩ = some (.int .i64 (N f)) := by
  have : f = 1 ∨ f = 2 ∨ f = 3 ∨ f = 4 ∨ f = 5 ∨ f = 6 ∨ f = 7 ∨ f = 8 := by omega
  rcases this with rfl | rfl | rfl | rfl | rfl | rfl | rfl | rfl <;> exact cell_of_row w p _ _ _ _ h
theorem MsgAt.grant (h : MsgAt w p K N g d) : w.cell? ⟨p, 9, none⟩ = some (.bool g) := cell_of_row w p 9 _ _ _ h
theorem MsgAt.data (h : MsgAt w p K N g d) : w.cell? ⟨p, 10, none⟩ = some d := cell_of_row w p 10 _ _ _ h
theorem MsgAt.free (h : MsgAt w p K N g d) (o : Nat) : w.frozen? ⟨p, o, none⟩ = false := frozen_row h o
theorem MsgAt.setNum (h : MsgAt w p K N g d) {f : Nat} (h1 : 1 ≤ f) (h8 : f ≤ 8) (x : Int) : MsgAt (w.setCell ⟨p, f, none⟩ (.int .i64 x)) p K (updF N f x) g d := by
  have h2 := heap_set (o := f) h (.int .i64 x)
  have e : (mrow K N g d).setIfInBounds f (.int .i64 x) = mrow K (updF N f x) g d := by
    have : f = 1 ∨ f = 2 ∨ f = 3 ∨ f = 4 ∨ f = 5 ∨ f = 6 ∨ f = 7 ∨ f = 8 := by omega
    rcases this with rfl | rfl | rfl | rfl | rfl | rfl | rfl | rfl <;> simp [mrow, updF]
  rw [e] at h2
  exact h2
theorem MsgAt.setKind (h : MsgAt w p K N g d) (x : Int) : MsgAt (w.setCell ⟨p, 0, none⟩ (.int .i64 x)) p x N g d := heap_set (o := 0) h (.int .i64 x)
theorem MsgAt.setGrant (h : MsgAt w p K N g d) (x : Bool) : MsgAt (w.setCell ⟨p, 9, none⟩ (.bool x)) p K N x d := heap_set (o := 9) h (.bool x)
theorem MsgAt.setData (h : MsgAt w p K N g d) (x : Value) : MsgAt (w.setCell ⟨p, 10, none⟩ x) p K N g x := heap_set (o := 10) h x
theorem msg_new (w : World) (K : Int) (N : Nat → Int) (g : Bool) (d : Value) : MsgAt (w.alloc (.cells (mrow K N g d) 62)) w.heap.size K N g d := heap_alloc_new w _
end

/-- the greatest number of a field -/
def mostF (f : Nat) : Int := if f = 1 ∨ f = 2 then 3 else if f = 5 then 31 else if f = 6 then 4 else if f = 8 then 16 else 1099511627776
theorem mspot (p f : Nat) (w : World) (h1 : 1 ≤ f) (h7 : f ≤ 7) :
    Calls Try.prog 65 #[.pointer (some ⟨p, 0, none⟩), .int .i64 f] w fun e w' => e = .returned (.tuple #[.pointer (some ⟨p, f, none⟩), .int .i64 (mostF f)]) ∧ w = w' := by
  have : f = 1 ∨ f = 2 ∨ f = 3 ∨ f = 4 ∨ f = 5 ∨ f = 6 ∨ f = 7 := by omega
  rcases this with rfl | rfl | rfl | rfl | rfl | rfl | rfl
  all_goals
    go_enter Try.func65, Try.ntmps65
    go_wp2_with fail
    go_ret2
    exact ⟨rfl, rfl⟩

/-- whether a field may be so -/
def fRight (N : Nat → Int) (n : Nat) (f : Nat) : Bool := if f = 9 then true else if f = 10 then decide (n ≤ 64) else decide (0 ≤ N f ∧ N f ≤ mostF f)
/-- whether it is zero -/
def fZero (N : Nat → Int) (g : Bool) (n : Nat) (f : Nat) : Bool := if f = 9 then !g else if f = 10 then decide (n = 0) else decide (N f = 0)

theorem ret_bb {a a' b b' : Bool} (h1 : a = a') (h2 : b = b') : Ending.returned (.tuple #[.bool a, .bool b]) = .returned (.tuple #[.bool a', .bool b']) := by rw [h1, h2]
set_option maxHeartbeats 1000000 in
theorem mfield (p f : Nat) (w : World) (K : Int) (N : Nat → Int) (g : Bool) (a : Option Addr) (n c : Nat) (h : MsgAt w p K N g (.slice a n c)) (hn : n ≤ maxLen) (h1 : 1 ≤ f) (h10 : f ≤ 10) (r z : Bool) (hr : fRight N n f = r) (hz : fZero N g n f = z) :
    Calls Try.prog 64 #[.pointer (some ⟨p, 0, none⟩), .int .i64 f] w fun e w' => e = .returned (.tuple #[.bool r, .bool z]) ∧ Ext w w' := by
  have hn63 : (n : Int) ≤ 9223372036854775807 := by unfold maxLen at hn; omega
  clear hn
  by_cases h8 : f ≤ 7
  · have c1 := h.num h1 (by omega)
    obtain ⟨x, hx⟩ : ∃ x, N f = x := ⟨_, rfl⟩
    obtain ⟨m, hm⟩ : ∃ m, mostF f = m := ⟨_, rfl⟩
    have hr' : decide (0 ≤ x ∧ x ≤ m) = r := by rw [← hr, ← hx, ← hm]; unfold fRight; rw [if_neg (by omega), if_neg (by omega)]
    have hz' : decide (x = 0) = z := by rw [← hz, ← hx]; unfold fZero; rw [if_neg (by omega), if_neg (by omega)]
    have b8 : ((f : Int) == 8) = false := by rw [beq_eq_false_iff_ne]; omega
    have b9 : ((f : Int) == 9) = false := by rw [beq_eq_false_iff_ne]; omega
    have b10 : ((f : Int) == 10) = false := by rw [beq_eq_false_iff_ne]; omega
    rw [hx] at c1
    have HM := Lib.hid hm
    clear hx hm hr hz h
    subst hr' hz'
    by_cases h0 : 0 ≤ x
    · go_enter Try.func64, Try.ntmps64
      go_wp2_with fail
      refine (mspot p f _ h1 h8).mono ?_
      rintro e w1 ⟨rfl, rfl⟩
      rw [HM.out]
      go_wp2_with fail
      go_quiet (fail)
      go_wp2_with fail
      go_ret2
      exact ⟨ret_bb (by simp [h0]) rfl, (by repeat' (first | (with_reducible exact Ext.refl _) | (with_reducible assumption) | (with_reducible refine Ext.alloc ?_ _) | (with_reducible refine Ext.drewN ?_ _) | (with_reducible refine Ext.drew ?_) | (with_reducible refine Ext.trans ?_ (by assumption))))⟩
    · have hd : decide (0 ≤ x) = false := decide_eq_false h0
      go_enter Try.func64, Try.ntmps64
      go_wp2_with fail
      refine (mspot p f _ h1 h8).mono ?_
      rintro e w1 ⟨rfl, rfl⟩
      rw [HM.out]
      go_wp2_with fail
      go_quiet (fail)
      go_wp2_with fail
      go_ret2
      exact ⟨ret_bb (by first | rfl | exact (decide_eq_false (by omega)).symm) rfl, (by repeat' (first | (with_reducible exact Ext.refl _) | (with_reducible assumption) | (with_reducible refine Ext.alloc ?_ _) | (with_reducible refine Ext.drewN ?_ _) | (with_reducible refine Ext.drew ?_) | (with_reducible refine Ext.trans ?_ (by assumption))))⟩
  · have : f = 8 ∨ f = 9 ∨ f = 10 := by omega
    clear h8 h10 h1
    rcases this with rfl | rfl | rfl
    · have c1 := h.num (f := 8) (by omega) (by omega)
      obtain ⟨x, hx⟩ : ∃ x, N 8 = x := ⟨_, rfl⟩
      have hr' : decide (0 ≤ x ∧ x ≤ 16) = r := by rw [← hr, ← hx]; simp [fRight, mostF]
      have hz' : decide (x = 0) = z := by rw [← hz, ← hx]; simp [fZero]
      rw [hx] at c1
      clear hx hr hz h
      subst hr' hz'
      by_cases h0 : 0 ≤ x
      · by_cases h16 : x ≤ 16
        all_goals
          go_enter Try.func64, Try.ntmps64
          go_wp2_with fail
          go_ret2
          exact ⟨ret_bb (by simp [h0, h16]) rfl, (by repeat' (first | (with_reducible exact Ext.refl _) | (with_reducible assumption) | (with_reducible refine Ext.alloc ?_ _) | (with_reducible refine Ext.drewN ?_ _) | (with_reducible refine Ext.drew ?_) | (with_reducible refine Ext.trans ?_ (by assumption))))⟩
      · have hd : decide (0 ≤ x) = false := decide_eq_false h0
        go_enter Try.func64, Try.ntmps64
        go_wp2_with fail
        go_ret2
        exact ⟨ret_bb (by first | rfl | exact (decide_eq_false (by omega)).symm) rfl, (by repeat' (first | (with_reducible exact Ext.refl _) | (with_reducible assumption) | (with_reducible refine Ext.alloc ?_ _) | (with_reducible refine Ext.drewN ?_ _) | (with_reducible refine Ext.drew ?_) | (with_reducible refine Ext.trans ?_ (by assumption))))⟩
    · have c1 := h.grant
      have hr' : true = r := by rw [← hr]; simp [fRight]
      have hz' : (!g) = z := by rw [← hz]; simp [fZero]
      clear hr hz h
      subst hr' hz'
      go_enter Try.func64, Try.ntmps64
      go_wp2_with fail
      go_quiet (fail)
      go_wp2_with fail
      go_ret2
      exact ⟨rfl, (by repeat' (first | (with_reducible exact Ext.refl _) | (with_reducible assumption) | (with_reducible refine Ext.alloc ?_ _) | (with_reducible refine Ext.drewN ?_ _) | (with_reducible refine Ext.drew ?_) | (with_reducible refine Ext.trans ?_ (by assumption))))⟩
    · have c1 := h.data
      have hr' : decide (n ≤ 64) = r := by rw [← hr]; simp [fRight]
      have hz' : decide (n = 0) = z := by rw [← hz]; simp [fZero]
      clear hr hz h
      subst hr' hz'
      go_enter Try.func64, Try.ntmps64
      go_wp2_with fail
      go_quiet (fail)
      go_wp2_with fail
      go_ret2
      exact ⟨ret_bb (by rw [decide_eq_decide]; omega) (by rw [Bool.eq_iff_iff]; simp), (by repeat' (first | (with_reducible exact Ext.refl _) | (with_reducible assumption) | (with_reducible refine Ext.alloc ?_ _) | (with_reducible refine Ext.drewN ?_ _) | (with_reducible refine Ext.drew ?_) | (with_reducible refine Ext.trans ?_ (by assumption))))⟩
end Go.Proofs.Ytmkobmkaalfecaa
