/-
  msg.read of any field, of any bytes. No condition but that the bytes read.
-/
import Derived.Test.YtmkobmkaalfecaaMsPut
import Derived.Test.YtmkobmkaalfecaaGetText
import Derived.Test.YtmkobmkaalfecaaGetTruth
namespace Go.Proofs.Ytmkobmkaalfecaa
open Go.RowKit

/-- where a field ends, and its error -/
def fGet (B : List Int) (f : Nat) (at_ : Int) : Int × Int := if f = 9 then (getB B at_).2 else if f = 10 then (getT B at_ 64).2 else (getN B at_).2
/-- what a number's field has then -/
def numF (B : List Int) (f : Nat) (at_ : Int) : Int := if f = 8 then (if (getN B at_).1 ≤ 16 then (getN B at_).1 else -1) else (getN B at_).1
section
variable (p : Nat) (v : Value) (B : List Int) (at_ : Int) (w : World) (K : Int) (N : Nat → Int) (g : Bool) (d : Value)
variable (hB : RdI .u8 w v B) (hb : ∀ x ∈ B, 0 ≤ x ∧ x ≤ 255) (hl : B.length ≤ 100000) (h : MsgAt w p K N g d)
include hB hb h in
theorem mread_grant : Calls Try.prog 73 #[.pointer (some ⟨p, 0, none⟩), .int .i64 9, v, .int .i64 at_] w fun e w' =>
    e = .returned (.tuple #[.int .i64 (getB B at_).2.1, .int .i64 (getB B at_).2.2]) ∧ MsgAt w' p K N (getB B at_).1 d ∧ Chg [p] w w' := by
  have HG := Lib.hid (gettruth_any v B at_ w hB hb)
  have HM := Lib.hid h
  obtain ⟨av, cv, rfl, _, _, _, _⟩ := hB.parts
  have cg := h.grant
  have fz := h.free 9
  clear hB hb h
  go_enter Try.func73, Try.ntmps73
  go_wp2_with fail
  refine HG.out.mono ?_
  rintro e w1 ⟨rfl, rfl⟩
  go_wp2_with fail
  go_ret2
  exact ⟨rfl, HM.out.setGrant _, (by repeat' (first | (with_reducible exact Chg.refl _ _) | (with_reducible assumption) | (with_reducible refine Chg.drewN ?_ _) | (with_reducible refine Chg.drew ?_) | (with_reducible refine Chg.alloc ?_ _) | (with_reducible refine Chg.setCell ?_ (.inl (by simp)) _) | (with_reducible refine Chg.trans ?_ (by assumption)) | (with_reducible refine Chg.ext ?_ (by assumption))))⟩
include hB hb hl h in
theorem mread_data (_hd : ∃ a n c, d = .slice a n c) : Calls Try.prog 73 #[.pointer (some ⟨p, 0, none⟩), .int .i64 10, v, .int .i64 at_] w fun e w' => ∃ a c,
    e = .returned (.tuple #[.int .i64 (getT B at_ 64).2.1, .int .i64 (getT B at_ 64).2.2]) ∧ MsgAt w' p K N g (.slice a (getT B at_ 64).1.length c) ∧ OwnI .u8 5 w.heap.size w' (.slice a (getT B at_ 64).1.length c) (getT B at_ 64).1 ∧ Chg [p] w w' := by
  have HG := Lib.hid (gettext_any v B at_ 64 w hB hb (fits_small hl))
  have HM := Lib.hid h
  obtain ⟨av, cv, rfl, _, _, _, _⟩ := hB.parts
  have cg := h.data
  have hlt := h.lt
  clear hB hb h
  go_enter Try.func73, Try.ntmps73
  go_wp2_with fail
  refine HG.out.mono ?_
  rintro e w1 ⟨v1, rfl, ho1, hx1⟩
  obtain ⟨a1, c1, rfl, _⟩ := ho1.rd.parts
  have hm1 := HM.out.ext hx1
  have cg1 := hm1.data
  have fz1 := hm1.free 10
  clear cg
  go_wp2_with fail
  go_ret2
  have hc : Chg [p] w1 (w1.setCell ⟨p, 10, none⟩ (.slice a1 (getT B at_ 64).1.length c1)) := (by repeat' (first | (with_reducible exact Chg.refl _ _) | (with_reducible assumption) | (with_reducible refine Chg.drewN ?_ _) | (with_reducible refine Chg.drew ?_) | (with_reducible refine Chg.alloc ?_ _) | (with_reducible refine Chg.setCell ?_ (.inl (by simp)) _) | (with_reducible refine Chg.trans ?_ (by assumption)) | (with_reducible refine Chg.ext ?_ (by assumption))))
  exact ⟨_, _, rfl, hm1.setData _, OwnI.chg ho1 hc (by simpa using hlt), (Chg.of_ext hx1).trans hc⟩
include hB hb hl h in
theorem mread_code : Calls Try.prog 73 #[.pointer (some ⟨p, 0, none⟩), .int .i64 8, v, .int .i64 at_] w fun e w' =>
    e = .returned (.tuple #[.int .i64 (getN B at_).2.1, .int .i64 (getN B at_).2.2]) ∧ MsgAt w' p K (updF N 8 (numF B 8 at_)) g d ∧ Chg [p] w w' := by
  have HG := Lib.hid (get_any v B at_ w hB hb (by omega))
  have HM := Lib.hid h
  obtain ⟨av, cv, rfl, _, _, _, _⟩ := hB.parts
  have c8 := h.num (f := 8) (by omega) (by omega)
  have fz := h.free 8
  have hnf : numF B 8 at_ = if (getN B at_).1 ≤ 16 then (getN B at_).1 else -1 := by unfold numF; rw [if_pos rfl]
  obtain ⟨x, hx⟩ : ∃ x, x = (getN B at_).1 := ⟨_, rfl⟩
  rw [← hx] at HG hnf
  clear hB hb h hx
  by_cases h16 : x ≤ 16
  · rw [if_pos h16] at hnf
    have HNF := Lib.hid hnf
    clear hnf
    go_enter Try.func73, Try.ntmps73
    go_wp2_with fail
    refine HG.out.mono ?_
    rintro e w1 ⟨rfl, rfl⟩
    go_wp2_with fail
    go_ret2
    exact ⟨rfl, by rw [HNF.out]; exact HM.out.setNum (by omega) (by omega) _, (by repeat' (first | (with_reducible exact Chg.refl _ _) | (with_reducible assumption) | (with_reducible refine Chg.drewN ?_ _) | (with_reducible refine Chg.drew ?_) | (with_reducible refine Chg.alloc ?_ _) | (with_reducible refine Chg.setCell ?_ (.inl (by simp)) _) | (with_reducible refine Chg.trans ?_ (by assumption)) | (with_reducible refine Chg.ext ?_ (by assumption))))⟩
  · rw [if_neg h16] at hnf
    have HNF := Lib.hid hnf
    clear hnf
    go_enter Try.func73, Try.ntmps73
    go_wp2_with fail
    refine HG.out.mono ?_
    rintro e w1 ⟨rfl, rfl⟩
    have hm1 := HM.out.setNum (f := 8) (by omega) (by omega) x
    have c81 := hm1.num (f := 8) (by omega) (by omega)
    have fz1 := hm1.free 8
    go_wp2_with fail
    go_ret2
    refine ⟨rfl, ?_, (by repeat' (first | (with_reducible exact Chg.refl _ _) | (with_reducible assumption) | (with_reducible refine Chg.drewN ?_ _) | (with_reducible refine Chg.drew ?_) | (with_reducible refine Chg.alloc ?_ _) | (with_reducible refine Chg.setCell ?_ (.inl (by simp)) _) | (with_reducible refine Chg.trans ?_ (by assumption)) | (with_reducible refine Chg.ext ?_ (by assumption))))⟩
    have := hm1.setNum (f := 8) (by omega) (by omega) (-1)
    rw [HNF.out]
    have e8 : updF (updF N 8 x) 8 (-1) = updF N 8 (-1) := by funext i; unfold updF; by_cases e : i = 8 <;> simp [e]
    rwa [e8] at this
include hB hb hl h in
theorem mread_num (f : Nat) (h1 : 1 ≤ f) (h7 : f ≤ 7) : Calls Try.prog 73 #[.pointer (some ⟨p, 0, none⟩), .int .i64 f, v, .int .i64 at_] w fun e w' =>
    e = .returned (.tuple #[.int .i64 (getN B at_).2.1, .int .i64 (getN B at_).2.2]) ∧ MsgAt w' p K (updF N f (numF B f at_)) g d ∧ Chg [p] w w' := by
  have HG := Lib.hid (get_any v B at_ w hB hb (by omega))
  have HM := Lib.hid h
  obtain ⟨av, cv, rfl, _, _, _, _⟩ := hB.parts
  have c8 := h.num h1 (show f ≤ 8 by omega)
  have fz := h.free f
  have hnf : numF B f at_ = (getN B at_).1 := by unfold numF; rw [if_neg (by omega)]
  have HNF := Lib.hid hnf
  have b0 : ((f : Int) == 0) = false := by rw [beq_eq_false_iff_ne]; omega
  have b8 : ((f : Int) == 8) = false := by rw [beq_eq_false_iff_ne]; omega
  have b9 : ((f : Int) == 9) = false := by rw [beq_eq_false_iff_ne]; omega
  have b10 : ((f : Int) == 10) = false := by rw [beq_eq_false_iff_ne]; omega
  clear hB hb h hnf
  go_enter Try.func73, Try.ntmps73
  go_wp2_with fail
  refine HG.out.mono ?_
  rintro e w1 ⟨rfl, rfl⟩
  go_wp2_with fail
  refine (mspot p f _ h1 h7).mono ?_
  rintro e w2 ⟨rfl, rfl⟩
  go_wp2_with fail
  go_ret2
  exact ⟨rfl, by rw [HNF.out]; exact HM.out.setNum h1 (by omega) _, (by repeat' (first | (with_reducible exact Chg.refl _ _) | (with_reducible assumption) | (with_reducible refine Chg.drewN ?_ _) | (with_reducible refine Chg.drew ?_) | (with_reducible refine Chg.alloc ?_ _) | (with_reducible refine Chg.setCell ?_ (.inl (by simp)) _) | (with_reducible refine Chg.trans ?_ (by assumption)) | (with_reducible refine Chg.ext ?_ (by assumption))))⟩
end
end Go.Proofs.Ytmkobmkaalfecaa
