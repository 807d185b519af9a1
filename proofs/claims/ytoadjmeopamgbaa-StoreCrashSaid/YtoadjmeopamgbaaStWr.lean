/-
  store.Write. No condition but that the store lies in memory.
-/
import Derived.Test.YtoadjmeopamgbaaStOpen
namespace Go.Proofs.Ytoadjmeopamgbaa
open Go.RowKit

/-- what a write answers, and what it makes of the disk, behind the tests -/
def stW2 (h : Sh) (d : Dk) (c k blk : Nat) (boot op : Int) (D : List Int) : (Int × Int) × Dk :=
  if boot < (sSlot (d.rows.getD (h.slotAt c k) [])).1 ∨ (boot = (sSlot (d.rows.getD (h.slotAt c k) [])).1 ∧ op < (sSlot (d.rows.getD (h.slotAt c k) [])).2.1) then ((0, 12), d)
  else if boot = (sSlot (d.rows.getD (h.slotAt c k) [])).1 ∧ op = (sSlot (d.rows.getD (h.slotAt c k) [])).2.1 then (((sSlot (d.rows.getD (h.slotAt c k) [])).2.2, 0), d)
  else if (sBlk h.s (d.rows.getD (1 + blk) [])).1 = 1000 then
    (if d.bad (h.slotAt c k : Nat) (encL [boot, op, 11]) = 0 then (11, 0) else (0, d.bad (h.slotAt c k : Nat) (encL [boot, op, 11])), d.wr (h.slotAt c k : Nat) (encL [boot, op, 11]))
  else if d.bad 0 (encL [(c : Int), k, boot, op, blk, (sBlk h.s (d.rows.getD (1 + blk) [])).1 + 1] ++ enc D.length ++ D) = 0 then
    ((0, (wrAll (d.wr 0 (encL [(c : Int), k, boot, op, blk, (sBlk h.s (d.rows.getD (1 + blk) [])).1 + 1] ++ enc D.length ++ D)) (doesI h c k blk) (doesR boot op ((sBlk h.s (d.rows.getD (1 + blk) [])).1 + 1) D) 3).1), (wrAll (d.wr 0 (encL [(c : Int), k, boot, op, blk, (sBlk h.s (d.rows.getD (1 + blk) [])).1 + 1] ++ enc D.length ++ D)) (doesI h c k blk) (doesR boot op ((sBlk h.s (d.rows.getD (1 + blk) [])).1 + 1) D) 3).2)
  else ((0, d.bad 0 (encL [(c : Int), k, boot, op, blk, (sBlk h.s (d.rows.getD (1 + blk) [])).1 + 1] ++ enc D.length ++ D)), d.wr 0 (encL [(c : Int), k, boot, op, blk, (sBlk h.s (d.rows.getD (1 + blk) [])).1 + 1] ++ enc D.length ++ D))

section
variable (w : World) (F : List Nat) (ps p bl : Nat) (h : Sh) (d : Dk)
set_option maxRecDepth 100000 in
theorem swrite_nil (a s b o bk : Int) (dv : Value) (hdv : ∃ x n c, dv = .slice x n c) : Calls Try.prog 15 #[.pointer none, .agg #[.int .i64 a, .int .i64 s, .int .i64 b, .int .i64 o, .int .i64 bk, dv]] w fun e w' => e = .returned (.tuple #[.int .i64 0, .int .i64 7]) ∧ Ext w w' := by
  obtain ⟨x, n, c, rfl⟩ := hdv
  go_enter Try.func15, Try.ntmps15
  go_wp2_with fail
  go_ret2
  exact ⟨rfl, (by repeat' (first | (with_reducible exact Ext.refl _) | (with_reducible assumption) | (with_reducible refine Ext.alloc ?_ _) | (with_reducible refine Ext.drewN ?_ _) | (with_reducible refine Ext.drew ?_) | (with_reducible refine Ext.trans ?_ (by assumption))))⟩

/-- the error of a write that may not be -/
def stBad (h : Sh) (a s b o bk : Int) (n : Nat) : Int := if ¬ (0 ≤ bk ∧ bk < h.b) then 9 else if n ≠ h.s then 10 else if ¬ FitW h a s b o then 6 else 0

set_option maxRecDepth 100000 in
set_option maxHeartbeats 4000000 in
theorem swrite_bad (st : StAt w F ps p bl h d) (a s b o bk : Int) (dv : Value) (D : List Int) (hD : RdI .u8 w dv D) (hbad : stBad h a s b o bk D.length ≠ 0) :
    Calls Try.prog 15 #[.pointer (some ⟨ps, 0, none⟩), .agg #[.int .i64 a, .int .i64 s, .int .i64 b, .int .i64 o, .int .i64 bk, dv]] w fun e w' => e = .returned (.tuple #[.int .i64 0, .int .i64 (stBad h a s b o bk D.length)]) ∧ Ext w w' := by
  have c0 := st.c0
  have c1 := st.c1
  have c2 := st.c2
  have c3 := st.c3
  have hs16 := st.ok.s2
  obtain ⟨ad, cc, rfl, hlc, hcm, _, _⟩ := hD.parts
  have hln : (D.length : Int) ≤ 9223372036854775807 := by unfold maxLen at hcm; omega
  obtain ⟨n, hn⟩ : ∃ n, n = D.length := ⟨_, rfl⟩
  rw [← hn] at hbad hln ⊢
  have HFIT := Lib.hid (fun w' bk dv hdv r hr => sfits h a s b o bk dv hdv r hr w')
  obtain ⟨x0, hx0⟩ : ∃ x, x = h.b := ⟨_, rfl⟩
  obtain ⟨x1, hx1⟩ : ∃ x, x = h.s := ⟨_, rfl⟩
  obtain ⟨x2, hx2⟩ : ∃ x, x = h.c := ⟨_, rfl⟩
  obtain ⟨x3, hx3⟩ : ∃ x, x = h.k := ⟨_, rfl⟩
  have HBD : Hid (stBad h a s b o bk n = if ¬ (0 ≤ bk ∧ bk < x0) then 9 else if n ≠ x1 then 10 else if ¬ FitW h a s b o then 6 else 0) := Lib.hid (by rw [hx0, hx1]; rfl)
  rw [← hx0] at c0 HFIT
  rw [← hx1] at c1 hs16 HFIT
  rw [← hx2] at c2 HFIT
  rw [← hx3] at c3 HFIT
  obtain ⟨z, hz⟩ : ∃ z, z = stBad h a s b o bk n := ⟨_, rfl⟩
  rw [← hz] at hbad HBD ⊢
  have HZ := Lib.hid hbad
  clear st hD hlc hcm hn hx0 hx1 hx2 hx3 hz hbad
  by_cases h0 : 0 ≤ bk
  case neg =>
    obtain rfl : z = 9 := by rw [HBD.out, if_pos (fun h => h0 h.1)]
    clear HBD HZ HFIT
    go_enter Try.func15, Try.ntmps15
    go_wp2_with fail
    go_quiet (fail)
    go_wp2_with fail
    go_ret2
    exact ⟨rfl, (by repeat' (first | (with_reducible exact Ext.refl _) | (with_reducible assumption) | (with_reducible refine Ext.alloc ?_ _) | (with_reducible refine Ext.drewN ?_ _) | (with_reducible refine Ext.drew ?_) | (with_reducible refine Ext.trans ?_ (by assumption))))⟩
  have hd0 : decide (bk < 0) = false := decide_eq_false (by omega)
  by_cases h1 : bk < (x0 : Int)
  case neg =>
    obtain rfl : z = 9 := by rw [HBD.out, if_pos (fun h => h1 h.2)]
    clear HBD HZ HFIT
    go_enter Try.func15, Try.ntmps15
    go_upto_region 1 with fail
    have hxA : Ext w (w.alloc (.cells #[.int .i64 a, .int .i64 s, .int .i64 b, .int .i64 o, .int .i64 bk, .slice ad n cc] 38)) := (Ext.refl w).alloc _
    have e0 := cell_new w #[.int .i64 a, .int .i64 s, .int .i64 b, .int .i64 o, .int .i64 bk, .slice ad n cc] 38 (0, 0) (j := 0) rfl
    have e1 := cell_new w #[.int .i64 a, .int .i64 s, .int .i64 b, .int .i64 o, .int .i64 bk, .slice ad n cc] 38 (0, 0) (j := 1) rfl
    have e2 := cell_new w #[.int .i64 a, .int .i64 s, .int .i64 b, .int .i64 o, .int .i64 bk, .slice ad n cc] 38 (0, 0) (j := 2) rfl
    have e3 := cell_new w #[.int .i64 a, .int .i64 s, .int .i64 b, .int .i64 o, .int .i64 bk, .slice ad n cc] 38 (0, 0) (j := 3) rfl
    have e4 := cell_new w #[.int .i64 a, .int .i64 s, .int .i64 b, .int .i64 o, .int .i64 bk, .slice ad n cc] 38 (0, 0) (j := 4) rfl
    have e5 := cell_new w #[.int .i64 a, .int .i64 s, .int .i64 b, .int .i64 o, .int .i64 bk, .slice ad n cc] 38 (0, 0) (j := 5) rfl
    generalize (w.alloc (.cells #[.int .i64 a, .int .i64 s, .int .i64 b, .int .i64 o, .int .i64 bk, .slice ad n cc] 38)) = w1 at *
    obtain ⟨pw, hpw⟩ : ∃ pw, pw = w.heap.size := ⟨_, rfl⟩
    rw [← hpw] at e0 e1 e2 e3 e4 e5 ⊢
    clear hpw
    have c0 := hxA.cellv c0
    have c1 := hxA.cellv c1
    have c2 := hxA.cellv c2
    have c3 := hxA.cellv c3
    go_wp2_with fail
    go_region_held3 (fun w' => w'.cell? ⟨ps, 0, none⟩ = some (.int .i64 x0) ∧ w'.cell? ⟨ps, 1, none⟩ = some (.int .i64 x1) ∧ w'.cell? ⟨ps, 2, none⟩ = some (.int .i64 x2) ∧ w'.cell? ⟨ps, 3, none⟩ = some (.int .i64 x3) ∧ w'.cell? ⟨pw, 0, none⟩ = some (.int .i64 a) ∧ w'.cell? ⟨pw, 1, none⟩ = some (.int .i64 s) ∧ w'.cell? ⟨pw, 2, none⟩ = some (.int .i64 b) ∧ w'.cell? ⟨pw, 3, none⟩ = some (.int .i64 o) ∧ w'.cell? ⟨pw, 4, none⟩ = some (.int .i64 bk) ∧ w'.cell? ⟨pw, 5, none⟩ = some (.slice ad n cc) ∧ Ext w1 w') (exact ⟨Ext.cellv (w := w1) (by repeat' (first | (with_reducible exact Ext.refl _) | (with_reducible assumption) | (with_reducible refine Ext.alloc ?_ _) | (with_reducible refine Ext.drewN ?_ _) | (with_reducible refine Ext.drew ?_) | (with_reducible refine Ext.trans ?_ (by assumption)))) c0, Ext.cellv (w := w1) (by repeat' (first | (with_reducible exact Ext.refl _) | (with_reducible assumption) | (with_reducible refine Ext.alloc ?_ _) | (with_reducible refine Ext.drewN ?_ _) | (with_reducible refine Ext.drew ?_) | (with_reducible refine Ext.trans ?_ (by assumption)))) c1, Ext.cellv (w := w1) (by repeat' (first | (with_reducible exact Ext.refl _) | (with_reducible assumption) | (with_reducible refine Ext.alloc ?_ _) | (with_reducible refine Ext.drewN ?_ _) | (with_reducible refine Ext.drew ?_) | (with_reducible refine Ext.trans ?_ (by assumption)))) c2, Ext.cellv (w := w1) (by repeat' (first | (with_reducible exact Ext.refl _) | (with_reducible assumption) | (with_reducible refine Ext.alloc ?_ _) | (with_reducible refine Ext.drewN ?_ _) | (with_reducible refine Ext.drew ?_) | (with_reducible refine Ext.trans ?_ (by assumption)))) c3, Ext.cellv (w := w1) (by repeat' (first | (with_reducible exact Ext.refl _) | (with_reducible assumption) | (with_reducible refine Ext.alloc ?_ _) | (with_reducible refine Ext.drewN ?_ _) | (with_reducible refine Ext.drew ?_) | (with_reducible refine Ext.trans ?_ (by assumption)))) e0, Ext.cellv (w := w1) (by repeat' (first | (with_reducible exact Ext.refl _) | (with_reducible assumption) | (with_reducible refine Ext.alloc ?_ _) | (with_reducible refine Ext.drewN ?_ _) | (with_reducible refine Ext.drew ?_) | (with_reducible refine Ext.trans ?_ (by assumption)))) e1, Ext.cellv (w := w1) (by repeat' (first | (with_reducible exact Ext.refl _) | (with_reducible assumption) | (with_reducible refine Ext.alloc ?_ _) | (with_reducible refine Ext.drewN ?_ _) | (with_reducible refine Ext.drew ?_) | (with_reducible refine Ext.trans ?_ (by assumption)))) e2, Ext.cellv (w := w1) (by repeat' (first | (with_reducible exact Ext.refl _) | (with_reducible assumption) | (with_reducible refine Ext.alloc ?_ _) | (with_reducible refine Ext.drewN ?_ _) | (with_reducible refine Ext.drew ?_) | (with_reducible refine Ext.trans ?_ (by assumption)))) e3, Ext.cellv (w := w1) (by repeat' (first | (with_reducible exact Ext.refl _) | (with_reducible assumption) | (with_reducible refine Ext.alloc ?_ _) | (with_reducible refine Ext.drewN ?_ _) | (with_reducible refine Ext.drew ?_) | (with_reducible refine Ext.trans ?_ (by assumption)))) e4, Ext.cellv (w := w1) (by repeat' (first | (with_reducible exact Ext.refl _) | (with_reducible assumption) | (with_reducible refine Ext.alloc ?_ _) | (with_reducible refine Ext.drewN ?_ _) | (with_reducible refine Ext.drew ?_) | (with_reducible refine Ext.trans ?_ (by assumption)))) e5, (by repeat' (first | (with_reducible exact Ext.refl _) | (with_reducible assumption) | (with_reducible refine Ext.alloc ?_ _) | (with_reducible refine Ext.drewN ?_ _) | (with_reducible refine Ext.drew ?_) | (with_reducible refine Ext.trans ?_ (by assumption))))⟩) ((fail))
    go_wp2_with fail
    go_ret2
    exact ⟨rfl, hxA.trans (by repeat' (first | (with_reducible exact Ext.refl _) | (with_reducible assumption) | (with_reducible refine Ext.alloc ?_ _) | (with_reducible refine Ext.drewN ?_ _) | (with_reducible refine Ext.drew ?_) | (with_reducible refine Ext.trans ?_ (by assumption))))⟩
  have hd1 : decide ((x0 : Int) ≤ bk) = false := decide_eq_false (by omega)
  have hd2 : ¬ (x0 : Int) ≤ bk := by omega
  by_cases h2 : n = x1
  case neg =>
    obtain rfl : z = 10 := by rw [HBD.out, if_neg (fun h => h ⟨h0, h1⟩), if_pos h2]
    have e1' : ((n : Int) != (x1 : Int)) = true := by rw [bne_iff_ne]; omega
    clear HBD HZ HFIT
    go_enter Try.func15, Try.ntmps15
    go_upto_region 1 with fail
    have hxA : Ext w (w.alloc (.cells #[.int .i64 a, .int .i64 s, .int .i64 b, .int .i64 o, .int .i64 bk, .slice ad n cc] 38)) := (Ext.refl w).alloc _
    have e0 := cell_new w #[.int .i64 a, .int .i64 s, .int .i64 b, .int .i64 o, .int .i64 bk, .slice ad n cc] 38 (0, 0) (j := 0) rfl
    have e1 := cell_new w #[.int .i64 a, .int .i64 s, .int .i64 b, .int .i64 o, .int .i64 bk, .slice ad n cc] 38 (0, 0) (j := 1) rfl
    have e2 := cell_new w #[.int .i64 a, .int .i64 s, .int .i64 b, .int .i64 o, .int .i64 bk, .slice ad n cc] 38 (0, 0) (j := 2) rfl
    have e3 := cell_new w #[.int .i64 a, .int .i64 s, .int .i64 b, .int .i64 o, .int .i64 bk, .slice ad n cc] 38 (0, 0) (j := 3) rfl
    have e4 := cell_new w #[.int .i64 a, .int .i64 s, .int .i64 b, .int .i64 o, .int .i64 bk, .slice ad n cc] 38 (0, 0) (j := 4) rfl
    have e5 := cell_new w #[.int .i64 a, .int .i64 s, .int .i64 b, .int .i64 o, .int .i64 bk, .slice ad n cc] 38 (0, 0) (j := 5) rfl
    generalize (w.alloc (.cells #[.int .i64 a, .int .i64 s, .int .i64 b, .int .i64 o, .int .i64 bk, .slice ad n cc] 38)) = w1 at *
    obtain ⟨pw, hpw⟩ : ∃ pw, pw = w.heap.size := ⟨_, rfl⟩
    rw [← hpw] at e0 e1 e2 e3 e4 e5 ⊢
    clear hpw
    have c0 := hxA.cellv c0
    have c1 := hxA.cellv c1
    have c2 := hxA.cellv c2
    have c3 := hxA.cellv c3
    go_wp2_with fail
    go_region_held3 (fun w' => w'.cell? ⟨ps, 0, none⟩ = some (.int .i64 x0) ∧ w'.cell? ⟨ps, 1, none⟩ = some (.int .i64 x1) ∧ w'.cell? ⟨ps, 2, none⟩ = some (.int .i64 x2) ∧ w'.cell? ⟨ps, 3, none⟩ = some (.int .i64 x3) ∧ w'.cell? ⟨pw, 0, none⟩ = some (.int .i64 a) ∧ w'.cell? ⟨pw, 1, none⟩ = some (.int .i64 s) ∧ w'.cell? ⟨pw, 2, none⟩ = some (.int .i64 b) ∧ w'.cell? ⟨pw, 3, none⟩ = some (.int .i64 o) ∧ w'.cell? ⟨pw, 4, none⟩ = some (.int .i64 bk) ∧ w'.cell? ⟨pw, 5, none⟩ = some (.slice ad n cc) ∧ Ext w1 w') (exact ⟨Ext.cellv (w := w1) (by repeat' (first | (with_reducible exact Ext.refl _) | (with_reducible assumption) | (with_reducible refine Ext.alloc ?_ _) | (with_reducible refine Ext.drewN ?_ _) | (with_reducible refine Ext.drew ?_) | (with_reducible refine Ext.trans ?_ (by assumption)))) c0, Ext.cellv (w := w1) (by repeat' (first | (with_reducible exact Ext.refl _) | (with_reducible assumption) | (with_reducible refine Ext.alloc ?_ _) | (with_reducible refine Ext.drewN ?_ _) | (with_reducible refine Ext.drew ?_) | (with_reducible refine Ext.trans ?_ (by assumption)))) c1, Ext.cellv (w := w1) (by repeat' (first | (with_reducible exact Ext.refl _) | (with_reducible assumption) | (with_reducible refine Ext.alloc ?_ _) | (with_reducible refine Ext.drewN ?_ _) | (with_reducible refine Ext.drew ?_) | (with_reducible refine Ext.trans ?_ (by assumption)))) c2, Ext.cellv (w := w1) (by repeat' (first | (with_reducible exact Ext.refl _) | (with_reducible assumption) | (with_reducible refine Ext.alloc ?_ _) | (with_reducible refine Ext.drewN ?_ _) | (with_reducible refine Ext.drew ?_) | (with_reducible refine Ext.trans ?_ (by assumption)))) c3, Ext.cellv (w := w1) (by repeat' (first | (with_reducible exact Ext.refl _) | (with_reducible assumption) | (with_reducible refine Ext.alloc ?_ _) | (with_reducible refine Ext.drewN ?_ _) | (with_reducible refine Ext.drew ?_) | (with_reducible refine Ext.trans ?_ (by assumption)))) e0, Ext.cellv (w := w1) (by repeat' (first | (with_reducible exact Ext.refl _) | (with_reducible assumption) | (with_reducible refine Ext.alloc ?_ _) | (with_reducible refine Ext.drewN ?_ _) | (with_reducible refine Ext.drew ?_) | (with_reducible refine Ext.trans ?_ (by assumption)))) e1, Ext.cellv (w := w1) (by repeat' (first | (with_reducible exact Ext.refl _) | (with_reducible assumption) | (with_reducible refine Ext.alloc ?_ _) | (with_reducible refine Ext.drewN ?_ _) | (with_reducible refine Ext.drew ?_) | (with_reducible refine Ext.trans ?_ (by assumption)))) e2, Ext.cellv (w := w1) (by repeat' (first | (with_reducible exact Ext.refl _) | (with_reducible assumption) | (with_reducible refine Ext.alloc ?_ _) | (with_reducible refine Ext.drewN ?_ _) | (with_reducible refine Ext.drew ?_) | (with_reducible refine Ext.trans ?_ (by assumption)))) e3, Ext.cellv (w := w1) (by repeat' (first | (with_reducible exact Ext.refl _) | (with_reducible assumption) | (with_reducible refine Ext.alloc ?_ _) | (with_reducible refine Ext.drewN ?_ _) | (with_reducible refine Ext.drew ?_) | (with_reducible refine Ext.trans ?_ (by assumption)))) e4, Ext.cellv (w := w1) (by repeat' (first | (with_reducible exact Ext.refl _) | (with_reducible assumption) | (with_reducible refine Ext.alloc ?_ _) | (with_reducible refine Ext.drewN ?_ _) | (with_reducible refine Ext.drew ?_) | (with_reducible refine Ext.trans ?_ (by assumption)))) e5, (by repeat' (first | (with_reducible exact Ext.refl _) | (with_reducible assumption) | (with_reducible refine Ext.alloc ?_ _) | (with_reducible refine Ext.drewN ?_ _) | (with_reducible refine Ext.drew ?_) | (with_reducible refine Ext.trans ?_ (by assumption))))⟩) ((fail))
    have hxd : Ext w1 w1.drew := (Ext.refl _).drew
    have c0 := hxd.cellv c0
    have c1 := hxd.cellv c1
    have c2 := hxd.cellv c2
    have c3 := hxd.cellv c3
    have e0 := hxd.cellv e0
    have e1 := hxd.cellv e1
    have e2 := hxd.cellv e2
    have e3 := hxd.cellv e3
    have e4 := hxd.cellv e4
    have e5 := hxd.cellv e5
    have hxA := hxA.trans hxd
    clear hxd
    generalize w1.drew = w1 at *
    go_wp2_with fail
    go_region_held3 (fun w' => w'.cell? ⟨ps, 0, none⟩ = some (.int .i64 x0) ∧ w'.cell? ⟨ps, 1, none⟩ = some (.int .i64 x1) ∧ w'.cell? ⟨ps, 2, none⟩ = some (.int .i64 x2) ∧ w'.cell? ⟨ps, 3, none⟩ = some (.int .i64 x3) ∧ w'.cell? ⟨pw, 0, none⟩ = some (.int .i64 a) ∧ w'.cell? ⟨pw, 1, none⟩ = some (.int .i64 s) ∧ w'.cell? ⟨pw, 2, none⟩ = some (.int .i64 b) ∧ w'.cell? ⟨pw, 3, none⟩ = some (.int .i64 o) ∧ w'.cell? ⟨pw, 4, none⟩ = some (.int .i64 bk) ∧ w'.cell? ⟨pw, 5, none⟩ = some (.slice ad n cc) ∧ Ext w1 w') (exact ⟨Ext.cellv (w := w1) (by repeat' (first | (with_reducible exact Ext.refl _) | (with_reducible assumption) | (with_reducible refine Ext.alloc ?_ _) | (with_reducible refine Ext.drewN ?_ _) | (with_reducible refine Ext.drew ?_) | (with_reducible refine Ext.trans ?_ (by assumption)))) c0, Ext.cellv (w := w1) (by repeat' (first | (with_reducible exact Ext.refl _) | (with_reducible assumption) | (with_reducible refine Ext.alloc ?_ _) | (with_reducible refine Ext.drewN ?_ _) | (with_reducible refine Ext.drew ?_) | (with_reducible refine Ext.trans ?_ (by assumption)))) c1, Ext.cellv (w := w1) (by repeat' (first | (with_reducible exact Ext.refl _) | (with_reducible assumption) | (with_reducible refine Ext.alloc ?_ _) | (with_reducible refine Ext.drewN ?_ _) | (with_reducible refine Ext.drew ?_) | (with_reducible refine Ext.trans ?_ (by assumption)))) c2, Ext.cellv (w := w1) (by repeat' (first | (with_reducible exact Ext.refl _) | (with_reducible assumption) | (with_reducible refine Ext.alloc ?_ _) | (with_reducible refine Ext.drewN ?_ _) | (with_reducible refine Ext.drew ?_) | (with_reducible refine Ext.trans ?_ (by assumption)))) c3, Ext.cellv (w := w1) (by repeat' (first | (with_reducible exact Ext.refl _) | (with_reducible assumption) | (with_reducible refine Ext.alloc ?_ _) | (with_reducible refine Ext.drewN ?_ _) | (with_reducible refine Ext.drew ?_) | (with_reducible refine Ext.trans ?_ (by assumption)))) e0, Ext.cellv (w := w1) (by repeat' (first | (with_reducible exact Ext.refl _) | (with_reducible assumption) | (with_reducible refine Ext.alloc ?_ _) | (with_reducible refine Ext.drewN ?_ _) | (with_reducible refine Ext.drew ?_) | (with_reducible refine Ext.trans ?_ (by assumption)))) e1, Ext.cellv (w := w1) (by repeat' (first | (with_reducible exact Ext.refl _) | (with_reducible assumption) | (with_reducible refine Ext.alloc ?_ _) | (with_reducible refine Ext.drewN ?_ _) | (with_reducible refine Ext.drew ?_) | (with_reducible refine Ext.trans ?_ (by assumption)))) e2, Ext.cellv (w := w1) (by repeat' (first | (with_reducible exact Ext.refl _) | (with_reducible assumption) | (with_reducible refine Ext.alloc ?_ _) | (with_reducible refine Ext.drewN ?_ _) | (with_reducible refine Ext.drew ?_) | (with_reducible refine Ext.trans ?_ (by assumption)))) e3, Ext.cellv (w := w1) (by repeat' (first | (with_reducible exact Ext.refl _) | (with_reducible assumption) | (with_reducible refine Ext.alloc ?_ _) | (with_reducible refine Ext.drewN ?_ _) | (with_reducible refine Ext.drew ?_) | (with_reducible refine Ext.trans ?_ (by assumption)))) e4, Ext.cellv (w := w1) (by repeat' (first | (with_reducible exact Ext.refl _) | (with_reducible assumption) | (with_reducible refine Ext.alloc ?_ _) | (with_reducible refine Ext.drewN ?_ _) | (with_reducible refine Ext.drew ?_) | (with_reducible refine Ext.trans ?_ (by assumption)))) e5, (by repeat' (first | (with_reducible exact Ext.refl _) | (with_reducible assumption) | (with_reducible refine Ext.alloc ?_ _) | (with_reducible refine Ext.drewN ?_ _) | (with_reducible refine Ext.drew ?_) | (with_reducible refine Ext.trans ?_ (by assumption))))⟩) ((fail))
    go_wp2_with fail
    go_ret2
    exact ⟨rfl, hxA.trans (by repeat' (first | (with_reducible exact Ext.refl _) | (with_reducible assumption) | (with_reducible refine Ext.alloc ?_ _) | (with_reducible refine Ext.drewN ?_ _) | (with_reducible refine Ext.drew ?_) | (with_reducible refine Ext.trans ?_ (by assumption))))⟩
  subst h2
  by_cases h3 : FitW h a s b o
  case pos => exact absurd (by rw [HBD.out, if_neg (fun h => h ⟨h0, h1⟩), if_neg (fun h => h rfl), if_neg (fun h => h h3)]) HZ.out
  obtain rfl : z = 6 := by rw [HBD.out, if_neg (fun h => h ⟨h0, h1⟩), if_neg (fun h => h rfl), if_pos h3]
  have HFR : Hid (decide (FitW h a s b o) = false) := Lib.hid (decide_eq_false h3)
  clear HBD HZ h3
  go_enter Try.func15, Try.ntmps15
  go_upto_region 1 with fail
  have hxA : Ext w (w.alloc (.cells #[.int .i64 a, .int .i64 s, .int .i64 b, .int .i64 o, .int .i64 bk, .slice ad n cc] 38)) := (Ext.refl w).alloc _
  have e0 := cell_new w #[.int .i64 a, .int .i64 s, .int .i64 b, .int .i64 o, .int .i64 bk, .slice ad n cc] 38 (0, 0) (j := 0) rfl
  have e1 := cell_new w #[.int .i64 a, .int .i64 s, .int .i64 b, .int .i64 o, .int .i64 bk, .slice ad n cc] 38 (0, 0) (j := 1) rfl
  have e2 := cell_new w #[.int .i64 a, .int .i64 s, .int .i64 b, .int .i64 o, .int .i64 bk, .slice ad n cc] 38 (0, 0) (j := 2) rfl
  have e3 := cell_new w #[.int .i64 a, .int .i64 s, .int .i64 b, .int .i64 o, .int .i64 bk, .slice ad n cc] 38 (0, 0) (j := 3) rfl
  have e4 := cell_new w #[.int .i64 a, .int .i64 s, .int .i64 b, .int .i64 o, .int .i64 bk, .slice ad n cc] 38 (0, 0) (j := 4) rfl
  have e5 := cell_new w #[.int .i64 a, .int .i64 s, .int .i64 b, .int .i64 o, .int .i64 bk, .slice ad n cc] 38 (0, 0) (j := 5) rfl
  generalize (w.alloc (.cells #[.int .i64 a, .int .i64 s, .int .i64 b, .int .i64 o, .int .i64 bk, .slice ad n cc] 38)) = w1 at *
  obtain ⟨pw, hpw⟩ : ∃ pw, pw = w.heap.size := ⟨_, rfl⟩
  rw [← hpw] at e0 e1 e2 e3 e4 e5 ⊢
  clear hpw
  have c0 := hxA.cellv c0
  have c1 := hxA.cellv c1
  have c2 := hxA.cellv c2
  have c3 := hxA.cellv c3
  go_wp2_with fail
  go_region_held3 (fun w' => w'.cell? ⟨ps, 0, none⟩ = some (.int .i64 x0) ∧ w'.cell? ⟨ps, 1, none⟩ = some (.int .i64 n) ∧ w'.cell? ⟨ps, 2, none⟩ = some (.int .i64 x2) ∧ w'.cell? ⟨ps, 3, none⟩ = some (.int .i64 x3) ∧ w'.cell? ⟨pw, 0, none⟩ = some (.int .i64 a) ∧ w'.cell? ⟨pw, 1, none⟩ = some (.int .i64 s) ∧ w'.cell? ⟨pw, 2, none⟩ = some (.int .i64 b) ∧ w'.cell? ⟨pw, 3, none⟩ = some (.int .i64 o) ∧ w'.cell? ⟨pw, 4, none⟩ = some (.int .i64 bk) ∧ w'.cell? ⟨pw, 5, none⟩ = some (.slice ad n cc) ∧ Ext w1 w') (exact ⟨Ext.cellv (w := w1) (by repeat' (first | (with_reducible exact Ext.refl _) | (with_reducible assumption) | (with_reducible refine Ext.alloc ?_ _) | (with_reducible refine Ext.drewN ?_ _) | (with_reducible refine Ext.drew ?_) | (with_reducible refine Ext.trans ?_ (by assumption)))) c0, Ext.cellv (w := w1) (by repeat' (first | (with_reducible exact Ext.refl _) | (with_reducible assumption) | (with_reducible refine Ext.alloc ?_ _) | (with_reducible refine Ext.drewN ?_ _) | (with_reducible refine Ext.drew ?_) | (with_reducible refine Ext.trans ?_ (by assumption)))) c1, Ext.cellv (w := w1) (by repeat' (first | (with_reducible exact Ext.refl _) | (with_reducible assumption) | (with_reducible refine Ext.alloc ?_ _) | (with_reducible refine Ext.drewN ?_ _) | (with_reducible refine Ext.drew ?_) | (with_reducible refine Ext.trans ?_ (by assumption)))) c2, Ext.cellv (w := w1) (by repeat' (first | (with_reducible exact Ext.refl _) | (with_reducible assumption) | (with_reducible refine Ext.alloc ?_ _) | (with_reducible refine Ext.drewN ?_ _) | (with_reducible refine Ext.drew ?_) | (with_reducible refine Ext.trans ?_ (by assumption)))) c3, Ext.cellv (w := w1) (by repeat' (first | (with_reducible exact Ext.refl _) | (with_reducible assumption) | (with_reducible refine Ext.alloc ?_ _) | (with_reducible refine Ext.drewN ?_ _) | (with_reducible refine Ext.drew ?_) | (with_reducible refine Ext.trans ?_ (by assumption)))) e0, Ext.cellv (w := w1) (by repeat' (first | (with_reducible exact Ext.refl _) | (with_reducible assumption) | (with_reducible refine Ext.alloc ?_ _) | (with_reducible refine Ext.drewN ?_ _) | (with_reducible refine Ext.drew ?_) | (with_reducible refine Ext.trans ?_ (by assumption)))) e1, Ext.cellv (w := w1) (by repeat' (first | (with_reducible exact Ext.refl _) | (with_reducible assumption) | (with_reducible refine Ext.alloc ?_ _) | (with_reducible refine Ext.drewN ?_ _) | (with_reducible refine Ext.drew ?_) | (with_reducible refine Ext.trans ?_ (by assumption)))) e2, Ext.cellv (w := w1) (by repeat' (first | (with_reducible exact Ext.refl _) | (with_reducible assumption) | (with_reducible refine Ext.alloc ?_ _) | (with_reducible refine Ext.drewN ?_ _) | (with_reducible refine Ext.drew ?_) | (with_reducible refine Ext.trans ?_ (by assumption)))) e3, Ext.cellv (w := w1) (by repeat' (first | (with_reducible exact Ext.refl _) | (with_reducible assumption) | (with_reducible refine Ext.alloc ?_ _) | (with_reducible refine Ext.drewN ?_ _) | (with_reducible refine Ext.drew ?_) | (with_reducible refine Ext.trans ?_ (by assumption)))) e4, Ext.cellv (w := w1) (by repeat' (first | (with_reducible exact Ext.refl _) | (with_reducible assumption) | (with_reducible refine Ext.alloc ?_ _) | (with_reducible refine Ext.drewN ?_ _) | (with_reducible refine Ext.drew ?_) | (with_reducible refine Ext.trans ?_ (by assumption)))) e5, (by repeat' (first | (with_reducible exact Ext.refl _) | (with_reducible assumption) | (with_reducible refine Ext.alloc ?_ _) | (with_reducible refine Ext.drewN ?_ _) | (with_reducible refine Ext.drew ?_) | (with_reducible refine Ext.trans ?_ (by assumption))))⟩) ((fail))
  have hxd : Ext w1 w1.drew := (Ext.refl _).drew
  have c0 := hxd.cellv c0
  have c1 := hxd.cellv c1
  have c2 := hxd.cellv c2
  have c3 := hxd.cellv c3
  have e0 := hxd.cellv e0
  have e1 := hxd.cellv e1
  have e2 := hxd.cellv e2
  have e3 := hxd.cellv e3
  have e4 := hxd.cellv e4
  have e5 := hxd.cellv e5
  have hxA := hxA.trans hxd
  clear hxd
  generalize w1.drew = w1 at *
  go_wp2_with fail
  go_region_held3 (fun w' => w'.cell? ⟨ps, 0, none⟩ = some (.int .i64 x0) ∧ w'.cell? ⟨ps, 1, none⟩ = some (.int .i64 n) ∧ w'.cell? ⟨ps, 2, none⟩ = some (.int .i64 x2) ∧ w'.cell? ⟨ps, 3, none⟩ = some (.int .i64 x3) ∧ w'.cell? ⟨pw, 0, none⟩ = some (.int .i64 a) ∧ w'.cell? ⟨pw, 1, none⟩ = some (.int .i64 s) ∧ w'.cell? ⟨pw, 2, none⟩ = some (.int .i64 b) ∧ w'.cell? ⟨pw, 3, none⟩ = some (.int .i64 o) ∧ w'.cell? ⟨pw, 4, none⟩ = some (.int .i64 bk) ∧ w'.cell? ⟨pw, 5, none⟩ = some (.slice ad n cc) ∧ Ext w1 w') (exact ⟨Ext.cellv (w := w1) (by repeat' (first | (with_reducible exact Ext.refl _) | (with_reducible assumption) | (with_reducible refine Ext.alloc ?_ _) | (with_reducible refine Ext.drewN ?_ _) | (with_reducible refine Ext.drew ?_) | (with_reducible refine Ext.trans ?_ (by assumption)))) c0, Ext.cellv (w := w1) (by repeat' (first | (with_reducible exact Ext.refl _) | (with_reducible assumption) | (with_reducible refine Ext.alloc ?_ _) | (with_reducible refine Ext.drewN ?_ _) | (with_reducible refine Ext.drew ?_) | (with_reducible refine Ext.trans ?_ (by assumption)))) c1, Ext.cellv (w := w1) (by repeat' (first | (with_reducible exact Ext.refl _) | (with_reducible assumption) | (with_reducible refine Ext.alloc ?_ _) | (with_reducible refine Ext.drewN ?_ _) | (with_reducible refine Ext.drew ?_) | (with_reducible refine Ext.trans ?_ (by assumption)))) c2, Ext.cellv (w := w1) (by repeat' (first | (with_reducible exact Ext.refl _) | (with_reducible assumption) | (with_reducible refine Ext.alloc ?_ _) | (with_reducible refine Ext.drewN ?_ _) | (with_reducible refine Ext.drew ?_) | (with_reducible refine Ext.trans ?_ (by assumption)))) c3, Ext.cellv (w := w1) (by repeat' (first | (with_reducible exact Ext.refl _) | (with_reducible assumption) | (with_reducible refine Ext.alloc ?_ _) | (with_reducible refine Ext.drewN ?_ _) | (with_reducible refine Ext.drew ?_) | (with_reducible refine Ext.trans ?_ (by assumption)))) e0, Ext.cellv (w := w1) (by repeat' (first | (with_reducible exact Ext.refl _) | (with_reducible assumption) | (with_reducible refine Ext.alloc ?_ _) | (with_reducible refine Ext.drewN ?_ _) | (with_reducible refine Ext.drew ?_) | (with_reducible refine Ext.trans ?_ (by assumption)))) e1, Ext.cellv (w := w1) (by repeat' (first | (with_reducible exact Ext.refl _) | (with_reducible assumption) | (with_reducible refine Ext.alloc ?_ _) | (with_reducible refine Ext.drewN ?_ _) | (with_reducible refine Ext.drew ?_) | (with_reducible refine Ext.trans ?_ (by assumption)))) e2, Ext.cellv (w := w1) (by repeat' (first | (with_reducible exact Ext.refl _) | (with_reducible assumption) | (with_reducible refine Ext.alloc ?_ _) | (with_reducible refine Ext.drewN ?_ _) | (with_reducible refine Ext.drew ?_) | (with_reducible refine Ext.trans ?_ (by assumption)))) e3, Ext.cellv (w := w1) (by repeat' (first | (with_reducible exact Ext.refl _) | (with_reducible assumption) | (with_reducible refine Ext.alloc ?_ _) | (with_reducible refine Ext.drewN ?_ _) | (with_reducible refine Ext.drew ?_) | (with_reducible refine Ext.trans ?_ (by assumption)))) e4, Ext.cellv (w := w1) (by repeat' (first | (with_reducible exact Ext.refl _) | (with_reducible assumption) | (with_reducible refine Ext.alloc ?_ _) | (with_reducible refine Ext.drewN ?_ _) | (with_reducible refine Ext.drew ?_) | (with_reducible refine Ext.trans ?_ (by assumption)))) e5, (by repeat' (first | (with_reducible exact Ext.refl _) | (with_reducible assumption) | (with_reducible refine Ext.alloc ?_ _) | (with_reducible refine Ext.drewN ?_ _) | (with_reducible refine Ext.drew ?_) | (with_reducible refine Ext.trans ?_ (by assumption))))⟩) ((fail))
  have hxd : Ext w1 w1.drew := (Ext.refl _).drew
  have c0 := hxd.cellv c0
  have c1 := hxd.cellv c1
  have c2 := hxd.cellv c2
  have c3 := hxd.cellv c3
  have e0 := hxd.cellv e0
  have e1 := hxd.cellv e1
  have e2 := hxd.cellv e2
  have e3 := hxd.cellv e3
  have e4 := hxd.cellv e4
  have e5 := hxd.cellv e5
  have hxA := hxA.trans hxd
  clear hxd
  generalize w1.drew = w1 at *
  go_wp2_with fail
  go_region_held3 (fun w' => w'.cell? ⟨ps, 0, none⟩ = some (.int .i64 x0) ∧ w'.cell? ⟨ps, 1, none⟩ = some (.int .i64 n) ∧ w'.cell? ⟨ps, 2, none⟩ = some (.int .i64 x2) ∧ w'.cell? ⟨ps, 3, none⟩ = some (.int .i64 x3) ∧ w'.cell? ⟨pw, 0, none⟩ = some (.int .i64 a) ∧ w'.cell? ⟨pw, 1, none⟩ = some (.int .i64 s) ∧ w'.cell? ⟨pw, 2, none⟩ = some (.int .i64 b) ∧ w'.cell? ⟨pw, 3, none⟩ = some (.int .i64 o) ∧ w'.cell? ⟨pw, 4, none⟩ = some (.int .i64 bk) ∧ w'.cell? ⟨pw, 5, none⟩ = some (.slice ad n cc) ∧ Ext w1 w') (exact ⟨Ext.cellv (w := w1) (by repeat' (first | (with_reducible exact Ext.refl _) | (with_reducible assumption) | (with_reducible refine Ext.alloc ?_ _) | (with_reducible refine Ext.drewN ?_ _) | (with_reducible refine Ext.drew ?_) | (with_reducible refine Ext.trans ?_ (by assumption)))) c0, Ext.cellv (w := w1) (by repeat' (first | (with_reducible exact Ext.refl _) | (with_reducible assumption) | (with_reducible refine Ext.alloc ?_ _) | (with_reducible refine Ext.drewN ?_ _) | (with_reducible refine Ext.drew ?_) | (with_reducible refine Ext.trans ?_ (by assumption)))) c1, Ext.cellv (w := w1) (by repeat' (first | (with_reducible exact Ext.refl _) | (with_reducible assumption) | (with_reducible refine Ext.alloc ?_ _) | (with_reducible refine Ext.drewN ?_ _) | (with_reducible refine Ext.drew ?_) | (with_reducible refine Ext.trans ?_ (by assumption)))) c2, Ext.cellv (w := w1) (by repeat' (first | (with_reducible exact Ext.refl _) | (with_reducible assumption) | (with_reducible refine Ext.alloc ?_ _) | (with_reducible refine Ext.drewN ?_ _) | (with_reducible refine Ext.drew ?_) | (with_reducible refine Ext.trans ?_ (by assumption)))) c3, Ext.cellv (w := w1) (by repeat' (first | (with_reducible exact Ext.refl _) | (with_reducible assumption) | (with_reducible refine Ext.alloc ?_ _) | (with_reducible refine Ext.drewN ?_ _) | (with_reducible refine Ext.drew ?_) | (with_reducible refine Ext.trans ?_ (by assumption)))) e0, Ext.cellv (w := w1) (by repeat' (first | (with_reducible exact Ext.refl _) | (with_reducible assumption) | (with_reducible refine Ext.alloc ?_ _) | (with_reducible refine Ext.drewN ?_ _) | (with_reducible refine Ext.drew ?_) | (with_reducible refine Ext.trans ?_ (by assumption)))) e1, Ext.cellv (w := w1) (by repeat' (first | (with_reducible exact Ext.refl _) | (with_reducible assumption) | (with_reducible refine Ext.alloc ?_ _) | (with_reducible refine Ext.drewN ?_ _) | (with_reducible refine Ext.drew ?_) | (with_reducible refine Ext.trans ?_ (by assumption)))) e2, Ext.cellv (w := w1) (by repeat' (first | (with_reducible exact Ext.refl _) | (with_reducible assumption) | (with_reducible refine Ext.alloc ?_ _) | (with_reducible refine Ext.drewN ?_ _) | (with_reducible refine Ext.drew ?_) | (with_reducible refine Ext.trans ?_ (by assumption)))) e3, Ext.cellv (w := w1) (by repeat' (first | (with_reducible exact Ext.refl _) | (with_reducible assumption) | (with_reducible refine Ext.alloc ?_ _) | (with_reducible refine Ext.drewN ?_ _) | (with_reducible refine Ext.drew ?_) | (with_reducible refine Ext.trans ?_ (by assumption)))) e4, Ext.cellv (w := w1) (by repeat' (first | (with_reducible exact Ext.refl _) | (with_reducible assumption) | (with_reducible refine Ext.alloc ?_ _) | (with_reducible refine Ext.drewN ?_ _) | (with_reducible refine Ext.drew ?_) | (with_reducible refine Ext.trans ?_ (by assumption)))) e5, (by repeat' (first | (with_reducible exact Ext.refl _) | (with_reducible assumption) | (with_reducible refine Ext.alloc ?_ _) | (with_reducible refine Ext.drewN ?_ _) | (with_reducible refine Ext.drew ?_) | (with_reducible refine Ext.trans ?_ (by assumption))))⟩) ((go_at_call 34; refine Calls.mono (HFIT.out _ bk (.slice ad n cc) ⟨_, _, _, rfl⟩ false HFR.out) ?_; rintro e wF ⟨rfl, hxF⟩))
  go_wp2_with fail
  go_ret2
  exact ⟨rfl, hxA.trans (by repeat' (first | (with_reducible exact Ext.refl _) | (with_reducible assumption) | (with_reducible refine Ext.alloc ?_ _) | (with_reducible refine Ext.drewN ?_ _) | (with_reducible refine Ext.drew ?_) | (with_reducible refine Ext.trans ?_ (by assumption))))⟩
end
end Go.Proofs.Ytoadjmeopamgbaa
