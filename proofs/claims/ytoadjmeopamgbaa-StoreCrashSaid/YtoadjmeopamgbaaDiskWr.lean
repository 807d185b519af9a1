/-
  sector.Disk.Write: what it answers, and what it makes of a disk. No condition but that the bytes read.
-/
import Derived.Test.YtoadjmeopamgbaaDiskNew
namespace Go.Proofs.Ytoadjmeopamgbaa
open Go.RowKit

set_option maxRecDepth 100000 in
set_option maxHeartbeats 1000000 in
theorem dwrite_any (F : List Nat) (p bl : Nat) (d : Dk) (w : World) (h : DiskAt w F p bl d) (i : Int) (v : Value) (b : List Int) (hb : RdI .u8 w v b) (hF : ∀ f ∈ F, f < w.heap.size) :
    Calls Try.prog 19 #[.pointer (some ⟨p, 0, none⟩), .int .i64 i, v] w fun e w' => e = .returned (.int .i64 (d.bad i b)) ∧ DiskAt w' F p bl (d.wr i b) ∧ Chg [p, bl] w w' := by
  have hc2 := h.cell2
  cases hd : d.down
  · rw [hd] at hc2
    by_cases hin : 0 ≤ i ∧ i < d.rows.length
    · obtain ⟨k, rfl⟩ : ∃ k : Nat, i = k := ⟨i.toNat, by omega⟩
      have hk : k < d.rows.length := by omega
      obtain ⟨a, c, rfl, hlc, hcm, hnil, hsome⟩ := hb.parts
      have hl63 : (b.length : Int) ≤ 9223372036854775807 := by unfold maxLen at hcm; omega
      by_cases h64 : 64 < b.length
      · have hbad : d.bad k b = 4 := by unfold Dk.bad; rw [if_neg (by simp [hd]), if_pos hin, if_pos h64]
        have hwr : d.wr k b = d := by unfold Dk.wr; rw [hbad]; simp
        rw [hbad, hwr]
        have HH := Lib.hid h
        have hI : (b.length : Int) > 64 := by omega
        clear hnil hsome hbad hwr
        go_enter Try.func19, Try.ntmps19
        go_wp2_with fail
        refine (dthere_any F p bl d _ HH.out _ true (by simp; omega)).mono ?_
        rintro e w1 ⟨rfl, rfl⟩
        go_wp2_with fail
        go_ret
        exact ⟨rfl, HH.out, Chg.refl _ _⟩
      · have hI : ¬ (b.length : Int) > 64 := by omega
        have hc1 := h.cell1
        have fr1 := h.frz 1
        have fr2 := h.frz 2
        by_cases hf0 : d.fuse = 0
        · have hbad : d.bad k b = 8 := by unfold Dk.bad; rw [if_neg (by simp [hd]), if_pos hin, if_neg h64, if_pos hf0]
          have hwr : d.wr k b = ⟨d.fuse, true, d.rows⟩ := by unfold Dk.wr; rw [hbad]; simp
          rw [hbad, hwr]
          have HS := Lib.hid (h.setDown true)
          rw [hf0] at hc1
          have HH := Lib.hid h
          clear hnil hsome hbad hwr h
          go_enter Try.func19, Try.ntmps19
          go_wp2_with fail
          refine (dthere_any F p bl d _ HH.out _ true (by simp; omega)).mono ?_
          rintro e w1 ⟨rfl, rfl⟩
          go_wp2_with fail
          go_ret
          exact ⟨rfl, HS.out, (by repeat' (first | (with_reducible exact Chg.refl _ _) | (with_reducible assumption) | (with_reducible refine Chg.drewN ?_ _) | (with_reducible refine Chg.drew ?_) | (with_reducible refine Chg.alloc ?_ _) | (with_reducible refine Chg.setCell ?_ (.inl (by simp)) _) | (with_reducible refine Chg.trans ?_ (by assumption)) | (with_reducible refine Chg.ext ?_ (by assumption))))⟩
        · have hbad : d.bad k b = 0 := by unfold Dk.bad; rw [if_neg (by simp [hd]), if_pos hin, if_neg h64, if_neg hf0]
          have hwr : d.wr k b = ⟨max (d.fuse - 1) (-1), d.down, d.rows.set k b⟩ := by unfold Dk.wr; rw [hbad]; simp
          rw [hbad, hwr]
          have hlo := h.lo
          have hhi := h.hi
          have HS : Hid (∀ f : Int, max (d.fuse - 1) (-1) = f → DiskAt (w.setCell ⟨p, 1, none⟩ (.int .i64 f)) F p bl ⟨max (d.fuse - 1) (-1), d.down, d.rows⟩) := Lib.hid (by intro f hf; subst hf; exact h.setFuse (max (d.fuse - 1) (-1)) (by omega) (by omega))
          obtain ⟨i0, hi0, hz0, hz1, hz2⟩ := info_parts bytes_info
          have HH := Lib.hid h
          have HB := Lib.hid (fun u => hb.other hc1 (by simp) u)
          have hneq : (d.fuse == 0) = false := by simpa using hf0
          have hlen : b.length ≤ 64 := by omega
          obtain ⟨n, hn⟩ : ∃ n, n = b.length := ⟨_, rfl⟩
          have HN := Lib.hid hn
          clear hnil hsome hbad hwr h hb hlc hcm
          rw [← hn] at hI hl63 hlen ⊢
          clear hn
          go_enter Try.func19, Try.ntmps19
          go_wp2_with fail
          refine (dthere_any F p bl d _ HH.out _ true (by simp; omega)).mono ?_
          rintro e w1 ⟨rfl, rfl⟩
          go_wp2_with (at_make; refine wpList_make_full _ rfl _ _ 36 rfl _ 5 i0 (.int .u8 0) 1 Try.underlying36 hi0 hz0 hz1 .i64 .i64 _ _ n rfl rfl rfl rfl (by rw [hz2]; omega) (by unfold maxLen; omega) (Nat.le_refl _) ?_)
          all_goals
            intro w1 ho1 hg1
            have hx1 := (Ext.refl _).grown hg1 (Nat.le_refl _) (fun k hk => by cases hk)
            have hb1 := (HB.out _).ext hx1
            have hc1 : Chg [p, bl] w w1 := ((Chg.refl _ w).setCell (.inl (by simp)) _).ext hx1
            rw [← HN.out] at hb1
            go_wp2_with (refine wpList_copy_ints rfl _ _ _ _ rfl 5 Try.underlying36 (by kernel_rfl) .u8 _ hx1 _ _ rfl _ _ rfl hb1 HN.out.symm _ _ ho1 (by simp [World.setCell]) ?_)
            intro w2 ho2 hx2
            have hs2 := (HS.out _ (by omega)).ext hx2
            have hc2' : Chg [p, bl] w w2 := ((Chg.refl _ w).setCell (.inl (by simp)) _).ext hx2
            have hg2 := (ho2.lt _ rfl).1
            obtain ⟨a2, c2, h20, _, _, ha2⟩ := hs2.cell0
            obtain rfl := ha2 (by show 0 < d.rows.length; omega)
            obtain ⟨vk, hvk, _⟩ := hs2.cell hk
            have frk := hs2.frz2 (by show 0 < d.rows.length; omega) k
            have hlk : (k : Int) < ((d.rows.length : Nat) : Int) := by omega
            have hs3 := hs2.setRow (i := k) hk ho2.rd (by rw [← HN.out]; exact hlen) (fun g hg hm => by
              have h1 := hF g hm
              have h2 := (ho2.lt g hg).1
              omega)
            have HS3 := Lib.hid hs3
            clear hs2 hs3 ho2 ho1 hg1 hb1 hx1 hc1
            simp only at h20
            go_wp2_with fail
            go_ret
            exact ⟨rfl, (by have h9 := HS3.out; rw [hd] at h9; exact h9), hc2'.setCell (.inl (by simp)) _⟩
    · have hbad : d.bad i b = 3 := by unfold Dk.bad; rw [if_neg (by simp [hd]), if_neg hin]
      have hwr : d.wr i b = d := by unfold Dk.wr; rw [hbad]; simp
      rw [hbad, hwr]
      have HH := Lib.hid h
      clear hbad hwr
      go_enter Try.func19, Try.ntmps19
      go_wp2_with fail
      refine (dthere_any F p bl d _ HH.out _ false (by simp; omega)).mono ?_
      rintro e w1 ⟨rfl, rfl⟩
      go_wp2_with fail
      go_ret
      exact ⟨rfl, HH.out, Chg.refl _ _⟩
  · have hbad : d.bad i b = 8 := by unfold Dk.bad; rw [if_pos hd]
    have hwr : d.wr i b = d := by unfold Dk.wr; rw [hbad]; simp [← hd]
    rw [hbad, hwr]
    rw [hd] at hc2
    have HH := Lib.hid h
    clear hbad hwr hd h
    go_enter Try.func19, Try.ntmps19
    go_wp2_with fail
    go_ret
    exact ⟨rfl, HH.out, Chg.refl _ _⟩
end Go.Proofs.Ytoadjmeopamgbaa
