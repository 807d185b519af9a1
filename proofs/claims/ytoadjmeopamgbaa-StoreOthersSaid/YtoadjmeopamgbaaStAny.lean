/-
  store.Write of whatever write, on a disk that stays up. No condition but that the store lies in memory.
-/
import Derived.Test.YtoadjmeopamgbaaStOnceLaw
namespace Go.Proofs.Ytoadjmeopamgbaa
open Go.RowKit

/-- what a write may do to the blocks -/
structure StepOk (h : Sh) (d d' : Dk) (bk : Int) (D : List Int) (r1 r2 : Int) : Prop where
  same : ∀ j, j < h.b → ¬ ((j : Int) = bk ∧ r2 = 0 ∧ r1 = 0) → sBlk h.s (d'.rows.getD (1 + j) []) = sBlk h.s (d.rows.getD (1 + j) [])
  own : ∀ j, j < h.b → (j : Int) = bk → r2 = 0 → r1 = 0 → sBlk h.s (d'.rows.getD (1 + j) []) = sBlk h.s (d.rows.getD (1 + j) []) ∨ sBlk h.s (d'.rows.getD (1 + j) []) = ((sBlk h.s (d.rows.getD (1 + j) [])).1 + 1, D)
theorem StepOk.refl (h : Sh) (d : Dk) (bk : Int) (D : List Int) (r1 r2 : Int) : StepOk h d d bk D r1 r2 := ⟨fun _ _ _ => rfl, fun _ _ _ _ _ => .inl rfl⟩
theorem swrite_any (w : World) (F : List Nat) (ps p bl : Nat) (h : Sh) (d : Dk) (st : StAt w F ps p bl h d) (hF : ∀ f ∈ F, f < w.heap.size) (hf : Fresh d) (a s b o bk : Int) (dv : Value) (D : List Int) (hD : RdI .u8 w dv D) (hDb : ∀ x ∈ D, 0 ≤ x ∧ x ≤ 255) (hDo : 0 < D.length → ∀ x, dv.ownBlock = some x → x ∉ [p, bl]) :
    Calls Try.prog 15 #[.pointer (some ⟨ps, 0, none⟩), .agg #[.int .i64 a, .int .i64 s, .int .i64 b, .int .i64 o, .int .i64 bk, dv]] w fun e w' => ∃ r1 r2 d', e = .returned (.tuple #[.int .i64 r1, .int .i64 r2]) ∧ StAt w' F ps p bl h d' ∧ Chg [p, bl] w w' ∧ Fresh d' ∧ StepOk h d d' bk D r1 r2 := by
  by_cases hbad : stBad h a s b o bk D.length = 0
  · obtain ⟨c, k, blk, rfl, rfl, rfl, hc, hk, hb, hbb, hoo, hns⟩ := fit_nat hbad
    have hn0 : 0 < D.length := by rw [hns]; exact st.ok.s1
    obtain ⟨hv1, hv⟩ := st_view st.ok hf st.many hc hk hb hbb hoo hns
    refine (swrite_st w F ps p bl h d st hF c k blk hc hk hb b o hbb hoo dv D hD hns hDb (hDo hn0)).mono ?_
    rintro e w' ⟨rfl, h1, h2⟩
    refine ⟨_, _, _, rfl, h1, h2, hv1, ?_⟩
    rcases hv with ⟨_, e⟩ | ⟨_, _, e⟩ | ⟨_, _, _, e, dn⟩ | ⟨_, _, _, e, dn⟩
    · rw [e]; exact StepOk.refl _ _ _ _ _ _
    · rw [e]; exact StepOk.refl _ _ _ _ _ _
    · exact ⟨fun j hj _ => by rw [dn.blks j hj (.inr rfl)], fun j hj _ _ _ => .inl (by rw [dn.blks j hj (.inr rfl)])⟩
    · rw [e]
      refine ⟨fun j hj hn => ?_, fun j hj hj2 _ _ => .inr ?_⟩
      · rw [dn.blks j hj (.inl (fun e => hn ⟨by rw [e], rfl, rfl⟩))]
      · obtain rfl : j = blk := by omega
        exact dn.bk _ rfl
  · refine (swrite_bad w F ps p bl h d st a s b o bk dv D hD hbad).mono ?_
    rintro e w' ⟨rfl, hx⟩
    exact ⟨_, _, d, rfl, st.ext hx, Chg.of_ext hx, hf, StepOk.refl _ _ _ _ _ _⟩
end Go.Proofs.Ytoadjmeopamgbaa
