/-
  msg.Right. No condition but that the message's number of bytes is one that a slice may have.
-/
import Derived.Test.YtmkobmkaalfecaaMsRight
namespace Go.Proofs.Ytmkobmkaalfecaa
open Go.RowKit

/-- whether a field of a message is as it may be -/
def fOk (K : Int) (N : Nat → Int) (g : Bool) (n : Nat) (f : Nat) : Bool := fRight N n f && (nmd K f || fZero N g n f)
/-- whether a message is right -/
def MOk (K : Int) (N : Nat → Int) (g : Bool) (n : Nat) : Prop := kindN K ≠ 0 ∧ ∀ f, 1 ≤ f → f ≤ 10 → fOk K N g n f = true
theorem word_of_zero (K : Int) : wordOf K = 0 ↔ kindN K = 0 := word_zero _ (kindN_lt K)
set_option maxRecDepth 100000 in
set_option maxHeartbeats 1000000 in
theorem mright (K : Int) (N : Nat → Int) (g : Bool) (a : Option Addr) (n c : Nat) (w : World) (hn : n ≤ maxLen) (r : Bool) (hr : r = true ↔ MOk K N g n) :
    Calls Try.prog 43 #[msgV K N g (.slice a n c)] w fun e w' => e = .returned (.bool r) ∧ Ext w w' := by
  have HW := Lib.hid (fun f hf => word_test K f hf)
  have HZ := Lib.hid (word_of_zero K)
  have HR := Lib.hid hr
  have HN := Lib.hid hn
  clear hr hn
  obtain ⟨W, hW⟩ : ∃ W, wordOf K = W := ⟨_, rfl⟩
  have HWE := Lib.hid hW
  rw [hW] at HW HZ
  clear hW
  unfold msgV mrow
  go_enter Try.func43, Try.ntmps43
  go_wp2_with fail
  have HM := msg_new w K N g (.slice a n c)
  have hX0 : Ext w (w.alloc (.cells (mrow K N g (.slice a n c)) 62)) := (by repeat' (first | (with_reducible exact Ext.refl _) | (with_reducible assumption) | (with_reducible refine Ext.alloc ?_ _) | (with_reducible refine Ext.drewN ?_ _) | (with_reducible refine Ext.drew ?_) | (with_reducible refine Ext.trans ?_ (by assumption))))
  unfold mrow at HM hX0
  generalize (w.alloc (.cells #[.int .i64 K, .int .i64 (N 1), .int .i64 (N 2), .int .i64 (N 3), .int .i64 (N 4), .int .i64 (N 5), .int .i64 (N 6), .int .i64 (N 7), .int .i64 (N 8), .bool g, .slice a n c] 62)) = w0 at *
  refine (mof K _).mono ?_
  rintro e w1 ⟨rfl, hx1⟩
  rw [HWE.out]
  have hX1 : Ext w w1 := (by repeat' (first | (with_reducible exact Ext.refl _) | (with_reducible assumption) | (with_reducible refine Ext.alloc ?_ _) | (with_reducible refine Ext.drewN ?_ _) | (with_reducible refine Ext.drew ?_) | (with_reducible refine Ext.trans ?_ (by assumption))))
  have HM1 := Lib.hid (HM.ext hx1)
  clear HM hx1 hX0
  generalize w.heap.size = p at *
  by_cases hW0 : W = 0
  · have hk : kindN K = 0 := HZ.out.1 hW0
    subst hW0
    have hrf : r = false := by
      rw [Bool.eq_false_iff]; intro h
      exact (HR.out.1 h).1 hk
    clear hk
    go_wp2_with fail
    go_ret
    exact ⟨ret_bool hrf.symm, hX1⟩
  · have hk : kindN K ≠ 0 := fun h => hW0 (HZ.out.2 h)
    have HK := Lib.hid hk
    have hWb : ((W : Int) == 0) = false := by rw [beq_eq_false_iff_ne]; omega
    clear hk hW0
    go_wp2_with fail
    go_loopw [4] (fun vf wr => ∃ f : Nat, f ≤ 10 ∧ vf = .int .i64 (f + 1 : Nat) ∧ (∀ j, 1 ≤ j → j ≤ f → fOk K N g n j = true) ∧ Ext w1 wr) (fun vf _ => 11 - (intOf vf).toNat)
    case atStart => exact ⟨0, by omega, rfl, by intro j h1 h2; omega, Ext.refl _⟩
    case round =>
      obtain ⟨f, hf, rfl, hall, hx⟩ := hrel
      have HALL := Lib.hid hall
      clear hall
      by_cases hlt : f < 10
      · have hb := HW.out (f + 1) (by omega)
        obtain ⟨rg, hrg⟩ : ∃ b, fRight N n (f + 1) = b := ⟨_, rfl⟩
        obtain ⟨ze, hze⟩ : ∃ b, fZero N g n (f + 1) = b := ⟨_, rfl⟩
        obtain ⟨nm, hnm⟩ : ∃ b, nmd K (f + 1) = b := ⟨_, rfl⟩
        rw [hnm] at hb
        have hok : fOk K N g n (f + 1) = (rg && (nm || ze)) := by unfold fOk; rw [hrg, hze, hnm]
        have HOK := Lib.hid hok
        have HRG := Lib.hid hrg
        have HZE := Lib.hid hze
        have hstop : (rg && (nm || ze)) = false → r = false := by
          intro h
          rw [Bool.eq_false_iff]; intro h2
          have := (HR.out.1 h2).2 (f + 1) (by omega) (by omega)
          rw [HOK.out, h] at this
          cases this
        have HSTOP := Lib.hid hstop
        clear hrg hze hnm hok hstop
        go_wp2_with fail
        refine (mfield p (f + 1) wr K N g a n c (HM1.out.ext hx) HN.out (by omega) (by omega) rg ze HRG.out HZE.out).mono ?_
        rintro e w2 ⟨rfl, hx2⟩
        cases rg
        · have hrf := HSTOP.out rfl
          have HRF := Lib.hid hrf
          clear hrf hb
          go_wp2_with fail
          go_ret
          exact ⟨ret_bool HRF.out.symm, (by repeat' (first | (with_reducible exact Ext.refl _) | (with_reducible assumption) | (with_reducible refine Ext.alloc ?_ _) | (with_reducible refine Ext.drewN ?_ _) | (with_reducible refine Ext.drew ?_) | (with_reducible refine Ext.trans ?_ (by assumption))))⟩
        · cases nm
          · cases ze
            · have hrf := HSTOP.out rfl
              have HRF := Lib.hid hrf
              clear hrf
              go_wp2_with fail
              go_ret
              exact ⟨ret_bool HRF.out.symm, (by repeat' (first | (with_reducible exact Ext.refl _) | (with_reducible assumption) | (with_reducible refine Ext.alloc ?_ _) | (with_reducible refine Ext.drewN ?_ _) | (with_reducible refine Ext.drew ?_) | (with_reducible refine Ext.trans ?_ (by assumption))))⟩
            · go_wp2_with fail
              go_roundw
              case rel =>
                refine ⟨f + 1, by omega, by go_num, ?_, (by repeat' (first | (with_reducible exact Ext.refl _) | (with_reducible assumption) | (with_reducible refine Ext.alloc ?_ _) | (with_reducible refine Ext.drewN ?_ _) | (with_reducible refine Ext.drew ?_) | (with_reducible refine Ext.trans ?_ (by assumption))))⟩
                intro j h1 h2
                by_cases hj : j ≤ f
                · exact HALL.out j h1 hj
                · obtain rfl : j = f + 1 := by omega
                  rw [HOK.out]; rfl
              case measure => simp [intOf]; omega
          · go_wp2_with fail
            go_roundw
            case rel =>
              refine ⟨f + 1, by omega, by go_num, ?_, (by repeat' (first | (with_reducible exact Ext.refl _) | (with_reducible assumption) | (with_reducible refine Ext.alloc ?_ _) | (with_reducible refine Ext.drewN ?_ _) | (with_reducible refine Ext.drew ?_) | (with_reducible refine Ext.trans ?_ (by assumption))))⟩
              intro j h1 h2
              by_cases hj : j ≤ f
              · exact HALL.out j h1 hj
              · obtain rfl : j = f + 1 := by omega
                rw [HOK.out]; rfl
            case measure => simp [intOf]; omega
      · obtain rfl : f = 10 := by omega
        have hrt : r = true := HR.out.2 ⟨HK.out, HALL.out⟩
        go_wp2_with fail
        go_ret
        exact ⟨ret_bool hrt.symm, hX1.trans hx⟩
end Go.Proofs.Ytmkobmkaalfecaa
