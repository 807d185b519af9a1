/-
  store.Write of whatever write, beside the reference's answer: no program but the two contracts. No condition but that the store lies in memory.
-/
import Derived.Test.YtoadjmeopamgbaaRfWrong
namespace Go.Proofs.Ytoadjmeopamgbaa
open Go.RowKit

theorem StAt.other {w w' : World} {F S : List Nat} {ps p bl : Nat} {h : Sh} {d : Dk} (s : StAt w F ps p bl h d) (hx : Chg S w w') (hS : ∀ q ∈ S, q ∈ F) (h0 : ps ∉ S) (h1 : p ∉ S) (h2 : bl ∉ S) : StAt w' F ps p bl h d :=
  ⟨by obtain ⟨t, e⟩ := s.hd; exact ⟨t, (hx.block ps s.lt h0).trans e⟩, s.dk.chg hx h1 h2 hS, s.np, s.nb, s.byt, s.ok, s.many⟩
theorem swrite_sim (w : World) (F : List Nat) (ps p bl : Nat) (h : Sh) (d : Dk) (st : StAt w F ps p bl h d) (hF : ∀ f ∈ F, f < w.heap.size) (hf : Fresh d) (x : RX) (hs : Sim h d x) (a s b o bk : Int) (dv : Value) (D : List Int) (hD : RdI .u8 w dv D) (hDb : ∀ x ∈ D, 0 ≤ x ∧ x ≤ 255) (hDo : 0 < D.length → ∀ x, dv.ownBlock = some x → x ∉ [p, bl]) :
    Calls Try.prog 15 #[.pointer (some ⟨ps, 0, none⟩), .agg #[.int .i64 a, .int .i64 s, .int .i64 b, .int .i64 o, .int .i64 bk, dv]] w fun e w' => ∃ r1 r2 d' x', e = .returned (.tuple #[.int .i64 r1, .int .i64 r2]) ∧ rWr h x a s b o bk D = ((r1, r2), x') ∧ StAt w' F ps p bl h d' ∧ Chg [p, bl] w w' ∧ Sim h d' x' ∧ Fresh d' ∧ (d.rows.getD 0 [] = [] → d'.rows.getD 0 [] = []) := by
  by_cases hbad : stBad h a s b o bk D.length = 0
  · obtain ⟨c, k, blk, rfl, rfl, rfl, hc, hk, hb, hbb, hoo, hns⟩ := fit_nat hbad
    have hn0 : 0 < D.length := by rw [hns]; exact st.ok.s1
    obtain ⟨e1, e2, e3, e4⟩ := sim_write st.ok hs hf st.many hc hk hb hbb hoo hns
    refine (swrite_st w F ps p bl h d st hF c k blk hc hk hb b o hbb hoo dv D hD hns hDb (hDo hn0)).mono ?_
    rintro e w' ⟨rfl, h1, h2⟩
    refine ⟨_, _, _, _, rfl, ?_, h1, h2, e2, e3, e4⟩
    rw [rWr_fit hbad, Int.toNat_natCast, Int.toNat_natCast, Int.toNat_natCast, e1]
  · refine (swrite_bad w F ps p bl h d st a s b o bk dv D hD hbad).mono ?_
    rintro e w' ⟨rfl, hx⟩
    exact ⟨_, _, d, x, rfl, by unfold rWr; rw [if_pos hbad], st.ext hx, Chg.of_ext hx, hs, hf, fun h => h⟩
end Go.Proofs.Ytoadjmeopamgbaa
