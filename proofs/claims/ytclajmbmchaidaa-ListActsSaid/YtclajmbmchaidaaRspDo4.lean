/-
  gradineref10.Space.Do, whatever the kind of 0 to 2. No condition but that the space lies in memory, and that no block is in two lists.
-/
import Derived.Test.YtclajmbmchaidaaRspDo1
import Derived.Test.YtclajmbmchaidaaRspDo2
import Derived.Test.YtclajmbmchaidaaRspDo3
namespace Go.Proofs.Ytclajmbmchaidaa
open Go.RowKit

theorem refdo10_all (B p bl : Nat) (Ls : List (List Nat)) (k l b : Int) (w : World) (h : RspAt w B p bl Ls) (hB : B ≤ w.heap.size) (hu : Uni Ls) (hlen : ∀ i, (Ls.getD i []).length ≤ 64) (k0 : 0 ≤ k) (k2 : k ≤ 2) :
    Calls Try.prog 26 #[.pointer (some ⟨p, 0, none⟩), .int .i64 k, .int .i64 l, .int .i64 b] w fun e w' => e = .returned (.int .i64 (doE Ls k l b)) ∧ RspAt w' B p bl (doL Ls k l b) ∧ ∃ S, Chg S w w' ∧ ∀ s ∈ S, s = bl ∨ (B ≤ s ∧ (w.heap.size ≤ s ∨ ∃ i v, i < Ls.length ∧ w.cell? ⟨bl, i, none⟩ = some v ∧ v.ownBlock = some s)) := by
  by_cases hb : okB b
  · obtain ⟨y, rfl⟩ := Int.eq_ofNat_of_zero_le hb.1
    by_cases hk2 : k = 2
    · subst hk2
      exact (refdo10_two B p bl Ls l y w h hB hu hlen hb).mono fun _ _ ⟨h1, h2, h3⟩ => ⟨h1, h2, [bl], h3, by simp⟩
    · have hk : k = 0 ∨ k = 1 := by omega
      by_cases hl : okL Ls l
      · obtain ⟨q, rfl⟩ := Int.eq_ofNat_of_zero_le hl.1
        have hq : q < Ls.length := by have := hl.2; omega
        rcases hk with rfl | rfl
        · have hE : doE Ls 0 q y = 0 := by unfold doE; rw [if_pos (.inl rfl), if_pos ⟨hl, hb⟩]
          have hL : doL Ls 0 q y = frontL Ls q y := by unfold doL; rw [if_pos rfl, if_pos ⟨hl, hb⟩]; simp
          rw [hE, hL]
          exact (refdo10_put0 B p bl Ls 0 q y w h hB hu hlen hb rfl hq).mono fun _ _ ⟨h1, h2, h3⟩ => ⟨h1, h2, [bl], h3, by simp⟩
        · have hE : doE Ls 1 q y = 0 := by unfold doE; rw [if_pos (.inr rfl), if_pos ⟨hl, hb⟩]
          have hL : doL Ls 1 q y = putBackL Ls q y := by unfold doL; rw [if_neg (by decide), if_pos rfl, if_pos ⟨hl, hb⟩]; simp
          rw [hE, hL]
          exact (refdo10_put1 B p bl Ls 1 q y w h hB hu hlen hb rfl hq).mono fun _ _ ⟨h1, h2, S, h3, h4⟩ => ⟨h1, h2, S, h3, fun s hs => (h4 s hs).imp id (fun ⟨h5, h6⟩ => ⟨h5, h6.imp id (fun ⟨v, h7⟩ => ⟨q, v, hq, h7⟩)⟩)⟩
      · exact (refdo10_out B p bl Ls k l y w h hb hk hl).mono fun _ _ ⟨h1, h2, h3⟩ => ⟨h1, h2, [bl], h3, by simp⟩
  · exact (refdo10_bad B p bl Ls k l b w h hb).mono fun _ _ ⟨h1, h2, h3⟩ => ⟨h1, h2, [bl], h3, by simp⟩
theorem refdo10_any (B p bl : Nat) (Ls : List (List Nat)) (k l b : Int) (w : World) (h : RspAt w B p bl Ls) (hB : B ≤ w.heap.size) (hu : Uni Ls) (hlen : ∀ i, (Ls.getD i []).length ≤ 64) (k0 : 0 ≤ k) (k2 : k ≤ 2) :
    Calls Try.prog 26 #[.pointer (some ⟨p, 0, none⟩), .int .i64 k, .int .i64 l, .int .i64 b] w fun e w' => e = .returned (.int .i64 (doE Ls k l b)) ∧ RspAt w' B p bl (doL Ls k l b) ∧ ∃ S, Chg S w w' ∧ ∀ s ∈ S, s = bl ∨ B ≤ s :=
  (refdo10_all B p bl Ls k l b w h hB hu hlen k0 k2).mono fun _ _ ⟨h1, h2, S, h3, h4⟩ => ⟨h1, h2, S, h3, fun s hs => (h4 s hs).imp id (fun h5 => h5.1)⟩
theorem uni_of {w : World} {bs be : Nat} {Ls : List (List Nat)} (h : SpaceAt w bs be Ls) : Uni Ls ∧ (∀ i, (Ls.getD i []).length ≤ 64) ∧ (∀ i x, i < Ls.length → x ∈ Ls.getD i [] → x < 64) := by
  obtain ⟨A, E, h1, h2⟩ := h
  refine ⟨fun i j x hi hj hx hy => h2.one hi hj hx hy, fun i => ?_, fun i x hi hx => (h2.mem hi hx).1⟩
  by_cases hi : i < Ls.length
  · exact h2.len hi
  · rw [getD_nil_of_le (by omega)]; simp
end Go.Proofs.Ytclajmbmchaidaa
