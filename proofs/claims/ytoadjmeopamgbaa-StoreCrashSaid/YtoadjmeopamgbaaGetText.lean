/-
  raw.GetText, GetTruth. No condition but that the slices read.
-/
import Derived.Test.YtoadjmeopamgbaaGet
namespace Go.Proofs.Ytoadjmeopamgbaa
open Go.RowKit

set_option maxRecDepth 100000 in
set_option maxHeartbeats 1000000 in
theorem gettext_any (v : Value) (l : List Int) (p m : Int) (w : World) (h : RdI .u8 w v l) (hb : ∀ x ∈ l, 0 ≤ x ∧ x ≤ 255) (hl : Fits l.length) :
    Calls Try.prog 56 #[v, .int .i64 p, .int .i64 m] w fun e w' =>
      ∃ v', e = .returned (.tuple #[v', .int .i64 (getT l p m).2.1, .int .i64 (getT l p m).2.2]) ∧ OwnI .u8 5 w.heap.size w' v' (getT l p m).1 ∧ Ext w w' := by
  have hf := hl.out
  have HG := Lib.hid (get_any v l p w h hb (by omega))
  obtain ⟨n, hn⟩ : ∃ n, n = (getN l p).1 := ⟨_, rfl⟩
  obtain ⟨f, hfr⟩ : ∃ f, f = (getN l p).2.1 := ⟨_, rfl⟩
  obtain ⟨e, he⟩ : ∃ e, e = (getN l p).2.2 := ⟨_, rfl⟩
  rw [← hn, ← hfr, ← he] at HG
  have HT := Lib.hid (show getT l p m = if e ≠ 0 then ([], 0, e) else if m < n then ([], 0, 4) else if (l.length : Int) - f < n then ([], 0, 1) else ((l.drop f.toNat).take n.toNat, f + n, 0) by rw [hn, hfr, he]; rfl)
  have hbd := @getN_bd l p
  rw [← hn, ← hfr, ← he] at hbd
  clear hn hfr he hb
  obtain ⟨a, c, rfl, hc, hm, hnil, hs⟩ := h.parts
  have HC := Lib.hid hc
  have HF := Lib.hid hf
  have hRd := Lib.hid h
  clear hm hnil hs hf hc h
  by_cases h0 : e = 0
  · obtain ⟨b1, b2, b3, b4, b5⟩ := hbd h0
    have hb0 : (e != 0) = false := by simp [h0]
    have hl63 : (l.length : Int) ≤ 9223372036854775807 := by have := HF.out; omega
    by_cases h1 : m < n
    · have HR := Lib.hid (show getT l p m = ([], 0, 4) by rw [HT.out, if_neg (by simp [h0]), if_pos h1])
      clear h0 hbd b2 b3
      go_enter Try.func56, Try.ntmps56
      go_wp2_with fail
      refine HG.out.mono ?_
      rintro e1 w1 ⟨rfl, rfl⟩
      go_wp2_with fail
      go_ret3
      refine ⟨.slice none 0 0, ?_, ?_, Ext.refl _⟩
      · rw [HR.out]; rfl
      · rw [HR.out]; exact OwnI.nil _ _ _ _
    · by_cases h2 : (l.length : Int) - f < n
      · have HR := Lib.hid (show getT l p m = ([], 0, 1) by rw [HT.out, if_neg (by simp [h0]), if_neg h1, if_pos h2])
        clear h0 hbd b2 b3
        go_enter Try.func56, Try.ntmps56
        go_wp2_with fail
        refine HG.out.mono ?_
        rintro e1 w1 ⟨rfl, rfl⟩
        go_wp2_with fail
        go_ret3
        refine ⟨.slice none 0 0, ?_, ?_, Ext.refl _⟩
        · rw [HR.out]; rfl
        · rw [HR.out]; exact OwnI.nil _ _ _ _
      · obtain ⟨n, rfl⟩ := Int.eq_ofNat_of_zero_le b2
        obtain ⟨f, rfl⟩ := Int.eq_ofNat_of_zero_le (show 0 ≤ f by omega)
        have HR := Lib.hid (show getT l p m = ((l.drop f).take n, (f : Int) + n, 0) by rw [HT.out, if_neg (by simp [h0]), if_neg h1, if_neg h2, Int.toNat_natCast, Int.toNat_natCast])
        have hfn : f + n ≤ l.length := by omega
        have hfc : (f : Int) + n ≤ c := by have := HC.out; omega
        have hlen : ((l.drop f).take n).length = n := by simp; omega
        have hfit : Fits ((l.drop f).take n).length := by rw [hlen]; have := HF.out; unfold Fits; omega
        have HL := Lib.hid hlen
        clear h0 hbd b1 b2 b3 hlen
        by_cases hcf : c = f
        · subst hcf
          have hn0 : n = 0 := by have := HC.out; omega
          subst hn0
          have hr := hRd.out.slice c 0 hfn
          rw [if_pos rfl, Nat.sub_self] at hr
          go_enter Try.func56, Try.ntmps56
          go_wp2_with fail
          refine HG.out.mono ?_
          rintro e1 w1 ⟨rfl, rfl⟩
          go_wp2_with fail
          refine (clone_any _ _ _ hr hfit).mono ?_
          rintro e2 w2 ⟨v2, rfl, ho2, hx2⟩
          go_wp2_with fail
          go_ret3
          refine ⟨v2, ?_, ?_, hx2⟩
          · rw [HR.out]; rfl
          · rw [HR.out]; exact ho2
        · have hr := hRd.out.slice_in f n hfn hcf
          go_enter Try.func56, Try.ntmps56
          go_wp2_with fail
          refine HG.out.mono ?_
          rintro e1 w1 ⟨rfl, rfl⟩
          go_wp2_with fail
          refine (clone_any _ _ _ hr hfit).mono ?_
          rintro e2 w2 ⟨v2, rfl, ho2, hx2⟩
          go_wp2_with fail
          go_ret3
          refine ⟨v2, ?_, ?_, hx2⟩
          · rw [HR.out]; rfl
          · rw [HR.out]; exact ho2
  · have hb0 : (e != 0) = true := by rw [bne_iff_ne]; exact h0
    have HR := Lib.hid (show getT l p m = ([], 0, e) by rw [HT.out, if_pos h0])
    clear h0 hbd
    go_enter Try.func56, Try.ntmps56
    go_wp2_with fail
    refine HG.out.mono ?_
    rintro e1 w1 ⟨rfl, rfl⟩
    go_wp2_with fail
    go_ret3
    refine ⟨.slice none 0 0, ?_, ?_, Ext.refl _⟩
    · rw [HR.out]; rfl
    · rw [HR.out]; exact OwnI.nil _ _ _ _

end Go.Proofs.Ytoadjmeopamgbaa
