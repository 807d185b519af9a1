/-
  gradineref13: Drop, SameMoves, New, Right.
-/
import Derived.Test.YtibcfmnkpemieaaUniRef5
import Derived.Test.YtibcfmnkpemieaaUniDrop
import Derived.Test.YtibcfmnkpemieaaUniWakes
namespace Go.Proofs.Ytibcfmnkpemieaa
open Go.RowKit

section
variable (p : Nat) (vL vC : Value) (caps : Nat → Nat) (M : List Nat) (lv : Nat → Nat) (w : World) (h : RefAt w p vL vC caps M lv)
include h
set_option maxHeartbeats 2000000 in
theorem rdrop (hs : Stk M lv) (hlen : M.length ≤ 64) (b : Int) (r : Bool) (hr : decide (b ∈ asInts M) = r) : Calls Try.prog 22 #[.pointer (some ⟨p, 0, none⟩), .int .i64 b] w fun e w' =>
    e = .returned (.bool r) ∧ ∃ vL', RefAt w' p vL' vC caps (dropM M lv b).1 (dropM M lv b).2 ∧ Frs w.heap.size vL vL' ∧ Chg [p] w w' := by
  have c0 := h.c0
  have fz := h.free 0
  have HR := Lib.hid h
  have HS := Lib.hid hs
  have HRR := Lib.hid hr
  obtain ⟨R, hR⟩ : ∃ R, dropM M lv b = R := ⟨_, rfl⟩
  rw [hR]
  have HRD := Lib.hid hR
  clear h hs hr hR
  go_enter Try.func22, Try.ntmps22
  go_wp2_with fail
  refine (rplace p vL _ caps M lv _ HR.out b).mono ?_
  rintro e w1 ⟨j, rfl, hp, rfl⟩
  rcases place_at hp with ⟨hj, hb⟩ | ⟨k, hk, rfl, hb⟩
  · obtain rfl : false = r := by rw [← HRR.out]; simp [hb]
    have hdr : dropM M lv b = (M, lv) := by unfold dropM; rw [if_neg hb]
    have hRe : R = (M, lv) := HRD.out.symm.trans hdr
    have HRE := Lib.hid hRe
    clear hp hb hdr hRe
    go_wp2_with fail
    go_ret
    rw [HRE.out]
    exact ⟨rfl, _, HR.out, Frs.refl _ _, Chg.refl _ _⟩
  · obtain rfl : true = r := by rw [← HRR.out]; simp [hb]
    have hj : ¬ (k : Int) < 0 := by omega
    obtain ⟨h0, hm⟩ := mem_asInts.1 hb
    obtain ⟨y, rfl⟩ := Int.eq_ofNat_of_zero_le h0
    simp only [Int.toNat_natCast] at hm hb h0 hp ⊢
    have hdr : dropM M lv (y : Int) = pruneU (M.filter (· ≠ y)).length (M.filter (· ≠ y)) (updN lv y 0) := by unfold dropM; rw [if_pos hb]; simp
    have hRe := HRD.out.symm.trans hdr
    have HRE := Lib.hid hRe
    have HP := Lib.hid hp
    have HB := Lib.hid hb
    have HM := Lib.hid hm
    clear hp hb hm hdr hRe
    go_wp2_with fail
    refine (rwithout p vL vC caps M lv _ HR.out (by omega) k).mono ?_
    rintro e w3 ⟨v3, rfl, ho3, hx3⟩
    rw [woP_all HS.out.nodup HP.out] at ho3
    have HO3 := Lib.hid ho3
    have hR3 := HR.out.ext hx3
    have HR3 := Lib.hid hR3
    have c03 := hR3.c0
    have fz3 := hR3.free 0
    obtain ⟨a, c, hv⟩ : ∃ a c, v3 = .slice a (M.filter (· ≠ y)).length c := by obtain ⟨_, a, c, e, _⟩ := Rd.of_own ho3; exact ⟨a, c, e⟩
    obtain ⟨n, hn⟩ : ∃ n, n = (M.filter (· ≠ y)).length := ⟨_, rfl⟩
    rw [← hn] at hv
    subst hv
    have HN := Lib.hid hn
    clear ho3 hR3 hn
    go_wp2_with fail
    have hp3 : p < w3.heap.size := HR3.out.lt
    have hpw : p < w.heap.size := HR.out.lt
    have hcz : Chg [p] w3 (w3.setCell ⟨p, 0, none⟩ (.slice a n c)) := (by repeat' (first | (with_reducible exact Chg.refl _ _) | (with_reducible assumption) | (with_reducible refine Chg.drewN ?_ _) | (with_reducible refine Chg.drew ?_) | (with_reducible refine Chg.alloc ?_ _) | (with_reducible refine Chg.setCell ?_ (.inl (by simp)) _) | (with_reducible refine Chg.trans ?_ (by assumption)) | (with_reducible refine Chg.ext ?_ (by assumption))))
    have hlt : ∀ g, (Value.slice a n c).ownBlock = some g → w.heap.size ≤ g := fun g hg => (World.ownsRow.lt HO3.out g hg).1
    have hRz : RefAt (w3.setCell ⟨p, 0, none⟩ (.slice a n c)) p (.slice a n c) vC caps (M.filter (· ≠ y)) (updN lv y 0) := by
      refine ⟨heap_set (o := 0) HR3.out.obj _, ?_, Rd.chg HR3.out.cap hcz ?_, ?_, HR.out.offC⟩
      · rw [← icells_congr (lv := lv) (fun z hz => (updN_other lv 0 (by have := (List.mem_filter.1 hz).2; simpa using this)).symm)]
        exact Rd.of_own (own_chg HO3.out hcz (by simp; omega))
      · intro g hg; simp; intro e; subst e; exact HR.out.offC hg
      · intro e; have := hlt p e; omega
    have HRZ := Lib.hid hRz
    have hCz : Chg [p] w (w3.setCell ⟨p, 0, none⟩ (.slice a n c)) := (Chg.of_ext hx3).trans hcz
    have hsz := hCz.size
    generalize (w3.setCell ⟨p, 0, none⟩ (.slice a n c)) = w4 at *
    clear hRz hcz c03 fz3 hx3
    refine (rprune p _ vC caps _ _ _ HRZ.out (HS.out.drop HM.out) (by have := List.length_filter_le (· ≠ y) M; omega)).mono ?_
    rintro e w5 ⟨rfl, vL', hR5, hF5, hc5⟩
    go_wp2_with fail
    go_ret
    rw [HRE.out]
    refine ⟨rfl, vL', hR5, ?_, hCz.trans hc5⟩
    intro g hg
    rcases hF5 g hg with h | h
    · exact .inr (hlt g h)
    · exact .inr (Nat.le_trans hsz h)
end
end Go.Proofs.Ytibcfmnkpemieaa
