/-
  gradineref05.Disk.Write: what it answers, and what it makes of a disk. No condition but that the bytes read.
-/
import Derived.Test.YtfnooojgkdjifaaRefDisk
namespace Go.Proofs.Ytfnooojgkdjifaa
open Go.RowKit

set_option maxRecDepth 100000 in
set_option maxHeartbeats 1000000 in
theorem rwrite_any (F : List Nat) (p bl : Nat) (d : Dk) (w : World) (h : DiskAt w F p bl d) (i : Int) (v : Value) (b : List Int) (hb : RdI .u8 w v b) (hF : ∀ f ∈ F, f < w.heap.size) :
    Calls Try.prog 23 #[.pointer (some ⟨p, 0, none⟩), .int .i64 i, v] w fun e w' => e = .returned (.int .i64 (d.bad i b)) ∧ DiskAt w' F p bl (d.wr i b) ∧ Chg [p, bl] w w' := by
  have hc2 := h.cell2
  obtain ⟨a0, c0, h00, _, _, ha0⟩ := h.cell0
  cases hd : d.down
  · rw [hd] at hc2
    by_cases hin : 0 ≤ i ∧ i < d.rows.length
    · obtain ⟨k, rfl⟩ : ∃ k : Nat, i = k := ⟨i.toNat, by omega⟩
      have hk : k < d.rows.length := by omega
      have hki : ¬ (k : Int) ≥ (d.rows.length : Int) := by omega
      have hki2 : (k : Int) < (d.rows.length : Int) := by omega
      obtain ⟨a, c, rfl, hlc, hcm, hnil, hsome⟩ := hb.parts
      have hl63 : (b.length : Int) ≤ 9223372036854775807 := by unfold maxLen at hcm; omega
      by_cases h64 : 64 < b.length
      · have hbad : d.bad k b = 4 := by unfold Dk.bad; rw [if_neg (by simp [hd]), if_pos hin, if_pos h64]
        have hwr : d.wr k b = d := by unfold Dk.wr; rw [hbad]; simp
        rw [hbad, hwr]
        have HH := Lib.hid h
        have hI : (b.length : Int) > 64 := by omega
        clear hnil hsome hbad hwr h
        generalize d.rows.length = N at *
        go_enter Try.func23, Try.ntmps23
        go_wp2_with fail
        go_ret
        exact ⟨rfl, HH.out, Chg.refl _ _⟩
      · have hI : ¬ (b.length : Int) > 64 := by omega
        have hc1 := h.cell1
        have fr1 := h.frz 1
        have fr2 := h.frz 2
        by_cases hf0 : d.fuse = 0
        · have hbad : d.bad k b = 8 := by unfold Dk.bad; rw [if_neg (by simp [hd]), if_pos hin, if_neg h64, if_pos hf0]
          have hwr : d.wr k b = ⟨d.fuse, true, d.rows⟩ := by unfold Dk.wr; rw [hbad]; simp
          rw [hbad, hwr]
          have HS := Lib.hid (h.setDown true)
          rw [hf0] at hc1
          clear hnil hsome hbad hwr h
          go_enter Try.func23, Try.ntmps23
          go_wp2_with fail
          go_ret
          exact ⟨rfl, (by have h9 := HS.out; rw [hf0] at h9; exact h9), (by repeat' (first | (with_reducible exact Chg.refl _ _) | (with_reducible assumption) | (with_reducible refine Chg.drewN ?_ _) | (with_reducible refine Chg.drew ?_) | (with_reducible refine Chg.alloc ?_ _) | (with_reducible refine Chg.setCell ?_ (.inl (by simp)) _) | (with_reducible refine Chg.trans ?_ (by assumption)) | (with_reducible refine Chg.ext ?_ (by assumption))))⟩
        · have hbad : d.bad k b = 0 := by unfold Dk.bad; rw [if_neg (by simp [hd]), if_pos hin, if_neg h64, if_neg hf0]
          have hwr : d.wr k b = ⟨max (d.fuse - 1) (-1), d.down, d.rows.set k b⟩ := by unfold Dk.wr; rw [hbad]; simp
          rw [hbad, hwr]
          have hlo := h.lo
          have hhi := h.hi
          have hneq : (d.fuse == 0) = false := by simpa using hf0
          have hlen : b.length ≤ 64 := by omega
          obtain rfl := ha0 (by omega)
          by_cases hf1 : 0 < d.fuse
          · have hmx : max (d.fuse - 1) (-1) = d.fuse - 1 := by omega
            rw [hmx]
            have HS := Lib.hid (h.setFuse (d.fuse - 1) (by omega) (by omega))
            have HB := Lib.hid (hb.other hc1 (by simp) (.int .i64 (d.fuse - 1)))
            have HB0 := Lib.hid hb
            obtain ⟨n, hn⟩ : ∃ n, n = b.length := ⟨_, rfl⟩
            have HN := Lib.hid hn
            clear hnil hsome hbad hwr h hb hlc hcm hmx
            rw [← hn] at hI hl63 hlen ⊢
            clear hn
            go_enter Try.func23, Try.ntmps23
            go_wp2_with (at_builtin; refine wpList_append_ints rfl _ _ 23 rfl 5 .u8 0 1 Try.underlying23 bytes_info (by decide) (w.setCell ⟨p, 1, none⟩ (.int .i64 (d.fuse - 1))) (by repeat' (first | (with_reducible exact Ext.refl _) | (with_reducible assumption) | (with_reducible refine Ext.alloc ?_ _) | (with_reducible refine Ext.drewN ?_ _) | (with_reducible refine Ext.drew ?_) | (with_reducible refine Ext.trans ?_ (by assumption)))) _ _ rfl (OwnI.nil .u8 _ _ _) _ _ rfl (by rw [HN.out]; exact HB.out) (by have := HN.out; simp; exact fits_small (by omega)) ?_)
            intro v2 w2 ho2 hx2
            have hs2 := HS.out.ext hx2
            have hc2' : Chg [p, bl] w w2 := ((Chg.refl _ w).setCell (.inl (by simp)) _).ext hx2
            obtain ⟨a2, c2, h20, _, _, ha2⟩ := hs2.cell0
            obtain rfl := ha2 (by show 0 < d.rows.length; omega)
            obtain ⟨vk, hvk, _⟩ := hs2.cell hk
            have frk := hs2.frz2 (by show 0 < d.rows.length; omega) k
            have hs3 := hs2.setRow (i := k) (u := v2) (b := b) hk (by simpa using ho2.rd) (by rw [← HN.out]; exact hlen) (fun g hg hm => by
              have h1 := hF g hm
              have h2 := (ho2.lt g hg).1
              omega)
            have HS3 := Lib.hid hs3
            obtain ⟨a3, c3, hv3, _, _, _, _⟩ := ho2.rd.parts
            obtain ⟨n3, hn3⟩ : ∃ n3, v2 = .slice a3 n3 c3 := ⟨_, hv3⟩
            clear hs2 hs3 ho2 hv3
            subst hn3
            go_wp2_with fail
            go_ret
            exact ⟨rfl, (by have h9 := HS3.out; rw [hd] at h9; exact h9), hc2'.setCell (.inl (by simp)) _⟩
          · have hmx : max (d.fuse - 1) (-1) = d.fuse := by omega
            rw [hmx]
            have HS := Lib.hid h
            have HB0 := Lib.hid hb
            obtain ⟨n, hn⟩ : ∃ n, n = b.length := ⟨_, rfl⟩
            have HN := Lib.hid hn
            clear hnil hsome hbad hwr h hb hlc hcm hmx
            rw [← hn] at hI hl63 hlen ⊢
            clear hn
            go_enter Try.func23, Try.ntmps23
            go_wp2_with (at_builtin; refine wpList_append_ints rfl _ _ 23 rfl 5 .u8 0 1 Try.underlying23 bytes_info (by decide) w (by repeat' (first | (with_reducible exact Ext.refl _) | (with_reducible assumption) | (with_reducible refine Ext.alloc ?_ _) | (with_reducible refine Ext.drewN ?_ _) | (with_reducible refine Ext.drew ?_) | (with_reducible refine Ext.trans ?_ (by assumption)))) _ _ rfl (OwnI.nil .u8 _ _ _) _ _ rfl (by rw [HN.out]; exact HB0.out) (by have := HN.out; simp; exact fits_small (by omega)) ?_)
            intro v2 w2 ho2 hx2
            have hs2 := HS.out.ext hx2
            have hc2' : Chg [p, bl] w w2 := (Chg.refl _ w).ext hx2
            obtain ⟨a2, c2, h20, _, _, ha2⟩ := hs2.cell0
            obtain rfl := ha2 (by omega)
            obtain ⟨vk, hvk, _⟩ := hs2.cell hk
            have frk := hs2.frz2 (by omega) k
            have hs3 := hs2.setRow (i := k) (u := v2) (b := b) hk (by simpa using ho2.rd) (by rw [← HN.out]; exact hlen) (fun g hg hm => by
              have h1 := hF g hm
              have h2 := (ho2.lt g hg).1
              omega)
            have HS3 := Lib.hid hs3
            obtain ⟨a3, c3, hv3, _, _, _, _⟩ := ho2.rd.parts
            obtain ⟨n3, hn3⟩ : ∃ n3, v2 = .slice a3 n3 c3 := ⟨_, hv3⟩
            clear hs2 hs3 ho2 hv3
            subst hn3
            go_wp2_with fail
            go_ret
            exact ⟨rfl, (by have h9 := HS3.out; rw [hd] at h9; exact h9), hc2'.setCell (.inl (by simp)) _⟩
    · have hbad : d.bad i b = 3 := by unfold Dk.bad; rw [if_neg (by simp [hd]), if_neg hin]
      have hwr : d.wr i b = d := by unfold Dk.wr; rw [hbad]; simp
      rw [hbad, hwr]
      have HH := Lib.hid h
      clear hbad hwr h
      generalize d.rows.length = N at *
      by_cases hi0 : i < 0
      · clear hin
        go_enter Try.func23, Try.ntmps23
        go_wp2_with fail
        go_ret
        exact ⟨rfl, HH.out, Chg.refl _ _⟩
      · have hiN : i ≥ (N : Int) := by omega
        have hi0' : 0 ≤ i := by omega
        clear hin hi0
        go_enter Try.func23, Try.ntmps23
        go_wp2_with fail
        go_ret
        exact ⟨rfl, HH.out, Chg.refl _ _⟩
  · have hbad : d.bad i b = 8 := by unfold Dk.bad; rw [if_pos hd]
    have hwr : d.wr i b = d := by unfold Dk.wr; rw [hbad]; simp [← hd]
    rw [hbad, hwr]
    rw [hd] at hc2
    have HH := Lib.hid h
    clear hbad hwr hd h
    go_enter Try.func23, Try.ntmps23
    go_wp2_with fail
    go_ret
    exact ⟨rfl, HH.out, Chg.refl _ _⟩
end Go.Proofs.Ytfnooojgkdjifaa
