/-
  part.Cache: New, Has, Takes, Use, Remove. No condition but that the cache lies in memory.
-/
import Derived.Test.YtpmfadepinmmjaaPFn
import Derived.Test.YtpmfadepinmmjaaSpace3
import Derived.Test.YtpmfadepinmmjaaSpaceNew
import Derived.Test.YtpmfadepinmmjaaDo10
import Derived.Deep.RegionHeld3
namespace Go.Proofs.Ytpmfadepinmmjaa
open Go.RowKit

structure PartAt (w : World) (pc pp bs be t : Nat) (bl : Int) (c : Nat → Nat) (n : Nat) (F : Nat → Nat → Int) (L : Nat → Bool) (M : List Nat) (Ls : List (List Nat)) : Prop where
  c0 : w.cell? ⟨pc, 0, none⟩ = some (.pointer (some ⟨bs, 0, none⟩))
  c1 : w.cell? ⟨pc, 1, none⟩ = some (.pointer (some ⟨pp, 0, none⟩))
  c2 : w.cell? ⟨pc, 2, none⟩ = some (.int .i64 (t : Nat))
  ne1 : pc ≠ bs
  ne2 : pc ≠ be
  tier : 1 ≤ t ∧ t ≤ 3
  plan : ∃ w0, PlAt w0 pp bl c n F L M ∧ Ext w0 w ∧ w0.heap.size ≤ bs ∧ w0.heap.size ≤ be
  space : SpaceAt w bs be Ls
  ok : PartOk n F (fun r => PR F c M r (t - 1)) Ls
section
variable {w w' : World} {pc pp bs be t : Nat} {bl : Int} {c : Nat → Nat} {n : Nat} {F : Nat → Nat → Int} {L : Nat → Bool} {M : List Nat} {Ls Ls' : List (List Nat)}
theorem PartAt.pl (h : PartAt w pc pp bs be t bl c n F L M Ls) : PlAt w pp bl c n F L M := by obtain ⟨w0, h1, h2, _⟩ := h.plan; exact h1.ext h2
theorem PartAt.ext (h : PartAt w pc pp bs be t bl c n F L M Ls) (hx : Ext w w') : PartAt w' pc pp bs be t bl c n F L M Ls :=
  ⟨hx.cellv h.c0, hx.cellv h.c1, hx.cellv h.c2, h.ne1, h.ne2, h.tier, by obtain ⟨w0, h1, h2, h3⟩ := h.plan; exact ⟨w0, h1, h2.trans hx, h3⟩, h.space.ext hx, h.ok⟩
theorem PartAt.to (h : PartAt w pc pp bs be t bl c n F L M Ls) (hc : Chg [bs, be] w w') (hs : SpaceAt w' bs be Ls') (hok : PartOk n F (fun r => PR F c M r (t - 1)) Ls') : PartAt w' pc pp bs be t bl c n F L M Ls' := by
  have hp : pc ∉ [bs, be] := by have := h.ne1; have := h.ne2; simp; omega
  refine ⟨(World.cell?_of_block (hc.block pc (cell_lt h.c0) hp)).trans h.c0, (World.cell?_of_block (hc.block pc (cell_lt h.c0) hp)).trans h.c1, (World.cell?_of_block (hc.block pc (cell_lt h.c0) hp)).trans h.c2, h.ne1, h.ne2, h.tier, ?_, hs, hok⟩
  obtain ⟨w0, h1, h2, h3, h4⟩ := h.plan
  exact ⟨w0, h1, Ext.chg h2 hc (by simp; omega), h3, h4⟩
theorem PartAt.pv (h : PartAt w pc pp bs be t bl c n F L M Ls) (x : Nat) : partV F c M true x (t : Nat) = PR F c M x (t - 1) := by
  have := h.tier
  unfold partV
  rw [if_pos ⟨rfl, by omega, by omega⟩]
  congr 1
  omega
end
theorem set_self (Ls : List (List Nat)) {x : Nat} (hx : x < Ls.length) : Ls.set x (Ls.getD x []) = Ls := by
  apply ext_getD (by simp)
  intro k hk
  rw [getD_set hx]
  split
  · rename_i e; rw [e]
  · rfl

theorem pnew_nil (t : Int) (w : World) : Calls Try.prog 10 #[.pointer none, .int .i64 t] w fun e w' => e = .returned (.tuple #[.pointer none, .int .i64 7]) ∧ w = w' := by
  go_enter Try.func10, Try.ntmps10
  go_wp2_with fail
  go_ret2
  exact ⟨rfl, rfl⟩
theorem pnew_tier (p : Nat) (t : Int) (ht : ¬ (1 ≤ t ∧ t ≤ 3)) (w : World) : Calls Try.prog 10 #[.pointer (some ⟨p, 0, none⟩), .int .i64 t] w fun e w' => e = .returned (.tuple #[.pointer none, .int .i64 6]) ∧ w = w' := by
  by_cases h1 : t < 1
  · clear ht
    go_enter Try.func10, Try.ntmps10
    go_wp2_with fail
    go_ret2
    exact ⟨rfl, rfl⟩
  · have h2 : 3 < t := by omega
    clear ht
    go_enter Try.func10, Try.ntmps10
    go_wp2_with fail
    go_ret2
    exact ⟨rfl, rfl⟩
set_option maxHeartbeats 1000000 in
theorem pnew (pp t : Nat) (bl : Int) (c : Nat → Nat) (n : Nat) (F : Nat → Nat → Int) (L : Nat → Bool) (M : List Nat) (w : World) (h : PlAt w pp bl c n F L M) (ht : 1 ≤ t ∧ t ≤ 3) :
    Calls Try.prog 10 #[.pointer (some ⟨pp, 0, none⟩), .int .i64 (t : Nat)] w fun e w' => ∃ pc bs be, e = .returned (.tuple #[.pointer (some ⟨pc, 0, none⟩), .int .i64 0]) ∧ PartAt w' pc pp bs be t bl c n F L M (List.replicate (n + 1) []) ∧ w.heap.size ≤ bs ∧ w.heap.size ≤ be ∧ Ext w w' := by
  have hn := h.ok.2.2
  have HKP := Lib.hid (kparts pp bl c n F L M w h)
  have H := Lib.hid h
  obtain ⟨t1, t2⟩ := ht
  have hN : newN ((n : Int) + 1) = n + 1 := by unfold newN; omega
  have HNW := Lib.hid (fun w' => (by have := new_any ((n : Int) + 1) w' (by omega) (by omega); rw [hN] at this; exact this : Calls Try.prog 27 #[.int .i64 ((n : Int) + 1)] w' _))
  have ht1 : ¬ (t : Int) < 1 := by omega
  have ht2 : ¬ (3 : Int) < (t : Int) := by omega
  have hni : (n : Int) ≤ 8 := by omega
  clear h hN
  go_enter Try.func10, Try.ntmps10
  go_wp2_with fail
  refine HKP.out.mono ?_
  rintro e w1 ⟨v1, rfl, hr, _, hx1⟩
  obtain ⟨a1, c1, rfl, _⟩ := hr
  go_wp2_with fail
  refine (HNW.out _).mono ?_
  rintro e w2 ⟨bs, be, rfl, hs, hb1, hb2, hx2⟩
  have HS := Lib.hid hs
  clear hs HNW HKP
  go_wp2_with fail
  go_ret2
  have hsl1 := HS.out.lt1
  have hsl2 := HS.out.lt2
  have hsz := hx1.size
  refine ⟨w2.heap.size, bs, be, rfl, ⟨cell_new _ _ _ _ rfl, cell_new _ _ _ _ rfl, cell_new _ _ _ _ rfl, by omega, by omega, ⟨t1, t2⟩, ⟨w1, H.out.ext hx1, by have := hx2; exact this.alloc _, hb1, hb2⟩, HS.out.ext ((Ext.refl w2).alloc _), PartOk.new n F _⟩, by omega, by omega, (hx1.trans hx2).alloc _⟩

theorem phas_nil (b : Int) (w : World) : Calls Try.prog 23 #[.pointer none, .int .i64 b] w fun e w' => e = .returned (.bool false) ∧ w = w' := by
  go_enter Try.func23, Try.ntmps23
  go_wp2_with fail
  go_ret
  exact ⟨rfl, rfl⟩
theorem ptakes_nil (b : Int) (w : World) : Calls Try.prog 14 #[.pointer none, .int .i64 b] w fun e w' => e = .returned (.bool false) ∧ Ext w w' := by
  go_enter Try.func14, Try.ntmps14
  go_wp2_with fail
  go_quiet (fail)
  go_wp2_with fail
  go_ret
  exact ⟨rfl, (by repeat' (first | (with_reducible exact Ext.refl _) | (with_reducible assumption) | (with_reducible refine Ext.alloc ?_ _) | (with_reducible refine Ext.drewN ?_ _) | (with_reducible refine Ext.drew ?_) | (with_reducible refine Ext.trans ?_ (by assumption))))⟩
theorem puse_nil (b : Int) (w : World) : Calls Try.prog 21 #[.pointer none, .int .i64 b] w fun e w' => e = .returned (.bool false) ∧ w = w' := by
  go_enter Try.func21, Try.ntmps21
  go_wp2_with fail
  refine (phas_nil b _).mono ?_
  rintro e w1 ⟨rfl, rfl⟩
  go_wp2_with fail
  go_ret
  exact ⟨rfl, rfl⟩
theorem premove_nil (b : Int) (w : World) : Calls Try.prog 17 #[.pointer none, .int .i64 b] w fun e w' => e = .returned (.bool false) ∧ w = w' := by
  go_enter Try.func17, Try.ntmps17
  go_wp2_with fail
  refine (phas_nil b _).mono ?_
  rintro e w1 ⟨rfl, rfl⟩
  go_wp2_with fail
  go_ret
  exact ⟨rfl, rfl⟩
theorem padd_nil (b : Int) (w : World) : Calls Try.prog 11 #[.pointer none, .int .i64 b] w fun e w' => e = .returned (.tuple #[.int .i64 0, .bool false, .int .i64 7]) ∧ w = w' := by
  go_enter Try.func11, Try.ntmps11
  go_wp2_with fail
  go_ret3
  exact ⟨rfl, rfl⟩
theorem pall_nil (w : World) : Calls Try.prog 12 #[.pointer none] w fun e w' => e = .returned (.slice none 0 0) ∧ w = w' := by
  go_enter Try.func12, Try.ntmps12
  go_wp2_with fail
  go_ret
  exact ⟨rfl, rfl⟩
theorem plen_nil (w : World) : Calls Try.prog 16 #[.pointer none] w fun e w' => e = .returned (.int .i64 0) ∧ w = w' := by
  go_enter Try.func16, Try.ntmps16
  go_wp2_with fail
  refine (pall_nil _).mono ?_
  rintro e w1 ⟨rfl, rfl⟩
  go_wp2_with fail
  go_ret
  exact ⟨rfl, rfl⟩

section
variable (pc pp bs be t : Nat) (bl : Int) (c : Nat → Nat) (n : Nat) (F : Nat → Nat → Int) (L : Nat → Bool) (M : List Nat) (Ls : List (List Nat)) (w : World) (h : PartAt w pc pp bs be t bl c n F L M Ls) (b : Int) (is : Bool) (x : Nat) (hr : RngB n F b is x)
include h hr
theorem phas (r : Bool) (hrr : decide (is = true ∧ b.toNat ∈ Ls.getD x []) = r) : Calls Try.prog 23 #[.pointer (some ⟨pc, 0, none⟩), .int .i64 b] w fun e w' => e = .returned (.bool r) ∧ w = w' := by
  have c0 := h.c0
  have hof := h.ok.of h.pl.ok hr
  have HO := Lib.hid (of_any bs be Ls b w h.space)
  have H2 : Hid ((ofI Ls b).2 = r) := Lib.hid (by
    rw [hof, ← hrr]
    by_cases e : is = true ∧ b.toNat ∈ Ls.getD x []
    · rw [if_pos e, decide_eq_true e]
    · rw [if_neg e, decide_eq_false e])
  obtain ⟨o1, ho1⟩ : ∃ o, o = (ofI Ls b).1 := ⟨_, rfl⟩
  obtain ⟨o2, ho2⟩ : ∃ o, o = (ofI Ls b).2 := ⟨_, rfl⟩
  rw [← ho1, ← ho2] at HO
  rw [← ho2] at H2
  clear h hr hof hrr ho1 ho2
  go_enter Try.func23, Try.ntmps23
  go_wp2_with fail
  refine HO.out.mono ?_
  rintro e w1 ⟨rfl, rfl⟩
  go_wp2_with fail
  go_ret
  exact ⟨ret_bool H2.out, rfl⟩
set_option maxHeartbeats 1000000 in
theorem ptakes (r : Bool) (hrr : decide (0 < partV F c M is x (t : Nat)) = r) : Calls Try.prog 14 #[.pointer (some ⟨pc, 0, none⟩), .int .i64 b] w fun e w' => e = .returned (.bool r) ∧ Ext w w' := by
  have c1 := h.c1
  have c2 := h.c2
  have HP := Lib.hid (fun w' (hx : Ext w w') => kpart pp bl c n F L M w' (h.pl.ext hx) b is x hr (t : Nat))
  obtain ⟨v, hv⟩ : ∃ v, v = partV F c M is x (t : Nat) := ⟨_, rfl⟩
  rw [← hv] at HP hrr
  have HR := Lib.hid hrr
  clear h hr hv hrr
  go_enter Try.func14, Try.ntmps14
  go_wp2_with fail
  go_region_held3 (fun w' => w'.cell? ⟨pc, 1, none⟩ = some (.pointer (some ⟨pp, 0, none⟩)) ∧ w'.cell? ⟨pc, 2, none⟩ = some (.int .i64 (t : Nat)) ∧ Ext w w') (exact ⟨Ext.cellv (w := w) (by repeat' (first | (with_reducible exact Ext.refl _) | (with_reducible assumption) | (with_reducible refine Ext.alloc ?_ _) | (with_reducible refine Ext.drewN ?_ _) | (with_reducible refine Ext.drew ?_) | (with_reducible refine Ext.trans ?_ (by assumption)))) c1, Ext.cellv (w := w) (by repeat' (first | (with_reducible exact Ext.refl _) | (with_reducible assumption) | (with_reducible refine Ext.alloc ?_ _) | (with_reducible refine Ext.drewN ?_ _) | (with_reducible refine Ext.drew ?_) | (with_reducible refine Ext.trans ?_ (by assumption)))) c2, (by repeat' (first | (with_reducible exact Ext.refl _) | (with_reducible assumption) | (with_reducible refine Ext.alloc ?_ _) | (with_reducible refine Ext.drewN ?_ _) | (with_reducible refine Ext.drew ?_) | (with_reducible refine Ext.trans ?_ (by assumption))))⟩) (first | (go_at_call 15; refine (HP.out _ (by repeat' (first | (with_reducible exact Ext.refl _) | (with_reducible assumption) | (with_reducible refine Ext.alloc ?_ _) | (with_reducible refine Ext.drewN ?_ _) | (with_reducible refine Ext.drew ?_) | (with_reducible refine Ext.trans ?_ (by assumption))))).mono ?_; rintro e wA ⟨rfl, hxA⟩))
  all_goals
    go_wp2_with fail
    go_ret
    exact ⟨ret_bool (by rw [← HR.out]), (by repeat' (first | (with_reducible exact Ext.refl _) | (with_reducible assumption) | (with_reducible refine Ext.alloc ?_ _) | (with_reducible refine Ext.drewN ?_ _) | (with_reducible refine Ext.drew ?_) | (with_reducible refine Ext.trans ?_ (by assumption))))⟩
set_option maxHeartbeats 1000000 in
theorem puse (r : Bool) (hrr : decide (is = true ∧ b.toNat ∈ Ls.getD x []) = r) : Calls Try.prog 21 #[.pointer (some ⟨pc, 0, none⟩), .int .i64 b] w fun e w' => e = .returned (.bool r) ∧ PartAt w' pc pp bs be t bl c n F L M (if is = true then Ls.set x (useP (Ls.getD x []) b.toNat) else Ls) ∧ Chg [bs, be] w w' := by
  have HH := Lib.hid (phas pc pp bs be t bl c n F L M Ls w h b is x hr r hrr)
  have c0 := h.c0
  cases r with
  | false =>
    have hnot : ¬ (is = true ∧ b.toNat ∈ Ls.getD x []) := of_decide_eq_false hrr
    have HSM : Hid ((if is = true then Ls.set x (useP (Ls.getD x []) b.toNat) else Ls) = Ls) := Lib.hid (by
      by_cases e : is = true
      · have hm : b.toNat ∉ Ls.getD x [] := fun hm => hnot ⟨e, hm⟩
        have hxn : x < n := by
          rcases hr with ⟨a, _⟩ | ⟨_, a, _⟩
          · rw [a] at e; cases e
          · exact a
        rw [if_pos e]; unfold useP; rw [if_neg hm]; exact set_self Ls (by rw [h.ok.len]; omega)
      · rw [if_neg e])
    have H := Lib.hid h
    clear h hr hrr hnot
    rw [HSM.out]
    go_enter Try.func21, Try.ntmps21
    go_wp2_with fail
    refine HH.out.mono ?_
    rintro e w1 ⟨rfl, rfl⟩
    go_wp2_with fail
    go_ret
    exact ⟨rfl, H.out, Chg.refl _ _⟩
  | true =>
    obtain ⟨his, hm⟩ : is = true ∧ b.toNat ∈ Ls.getD x [] := of_decide_eq_true hrr
    have hxn : x < n ∧ HIn F x b := by
      rcases hr with ⟨a, _⟩ | ⟨_, a⟩
      · rw [a] at his; cases his
      · exact a
    obtain ⟨hxn, hin⟩ := hxn
    obtain ⟨b0, b32⟩ := hin_ok h.pl.ok hxn hin
    obtain ⟨k, rfl⟩ := Int.eq_ofNat_of_zero_le b0
    rw [Int.toNat_natCast] at hm hrr ⊢
    have hof := h.ok.of h.pl.ok hr
    rw [Int.toNat_natCast, if_pos ⟨his, hm⟩] at hof
    have HO := Lib.hid (of_any bs be Ls k w h.space)
    rw [hof] at HO
    have hfr := h.ok.front h.pl.ok hxn hin
    have HF := Lib.hid (front_ok bs be Ls x k w h.space (by rw [h.ok.len]; omega) (by omega))
    rw [hfr] at HF
    have HOK : Hid (PartOk n F (fun r => PR F c M r (t - 1)) (Ls.set x (useP (Ls.getD x []) k))) := Lib.hid (h.ok.set hxn (fun y hy => h.ok.mem x hxn y (use_mem hy)) (use_ok (h.ok.nodup x hxn) k).1 (Nat.le_trans (use_ok (h.ok.nodup x hxn) k).2 (h.ok.few x hxn)))
    have hus : useP (Ls.getD x []) k = k :: (Ls.getD x []).filter (fun y => decide (y ≠ k)) := by unfold useP; rw [if_pos hm]
    rw [← hus] at HF
    have H := Lib.hid h
    subst his
    clear h hr hrr hm hin hof hfr hus
    rw [if_pos rfl]
    go_enter Try.func21, Try.ntmps21
    go_wp2_with fail
    refine HH.out.mono ?_
    rintro e w1 ⟨rfl, rfl⟩
    go_wp2_with fail
    refine HO.out.mono ?_
    rintro e w1 ⟨rfl, rfl⟩
    go_wp2_with fail
    refine HF.out.mono ?_
    rintro e w1 ⟨rfl, hs, hc⟩
    have HS := Lib.hid hs
    clear hs
    go_wp2_with fail
    go_ret
    exact ⟨rfl, H.out.to hc HS.out HOK.out, hc⟩
set_option maxHeartbeats 1000000 in
theorem premove (r : Bool) (hrr : decide (is = true ∧ b.toNat ∈ Ls.getD x []) = r) : Calls Try.prog 17 #[.pointer (some ⟨pc, 0, none⟩), .int .i64 b] w fun e w' => e = .returned (.bool r) ∧ PartAt w' pc pp bs be t bl c n F L M (if is = true then Ls.set x (remP (Ls.getD x []) b.toNat) else Ls) ∧ Chg [bs, be] w w' := by
  have HH := Lib.hid (phas pc pp bs be t bl c n F L M Ls w h b is x hr r hrr)
  have c0 := h.c0
  cases r with
  | false =>
    have hnot : ¬ (is = true ∧ b.toNat ∈ Ls.getD x []) := of_decide_eq_false hrr
    have HSM : Hid ((if is = true then Ls.set x (remP (Ls.getD x []) b.toNat) else Ls) = Ls) := Lib.hid (by
      by_cases e : is = true
      · have hm : b.toNat ∉ Ls.getD x [] := fun hm => hnot ⟨e, hm⟩
        have hxn : x < n := by
          rcases hr with ⟨a, _⟩ | ⟨_, a, _⟩
          · rw [a] at e; cases e
          · exact a
        rw [if_pos e]; unfold remP; rw [filter_not hm]; exact set_self Ls (by rw [h.ok.len]; omega)
      · rw [if_neg e])
    have H := Lib.hid h
    clear h hr hrr hnot
    rw [HSM.out]
    go_enter Try.func17, Try.ntmps17
    go_wp2_with fail
    refine HH.out.mono ?_
    rintro e w1 ⟨rfl, rfl⟩
    go_wp2_with fail
    go_ret
    exact ⟨rfl, H.out, Chg.refl _ _⟩
  | true =>
    obtain ⟨his, hm⟩ : is = true ∧ b.toNat ∈ Ls.getD x [] := of_decide_eq_true hrr
    have hxn : x < n ∧ HIn F x b := by
      rcases hr with ⟨a, _⟩ | ⟨_, a⟩
      · rw [a] at his; cases his
      · exact a
    obtain ⟨hxn, hin⟩ := hxn
    obtain ⟨b0, b32⟩ := hin_ok h.pl.ok hxn hin
    obtain ⟨k, rfl⟩ := Int.eq_ofNat_of_zero_le b0
    rw [Int.toNat_natCast] at hm hrr ⊢
    have hof := h.ok.of h.pl.ok hr
    rw [Int.toNat_natCast, if_pos ⟨his, hm⟩] at hof
    have hofL : ofL Ls k = some x := by
      unfold ofI at hof
      rw [if_pos (show okB (k : Int) from ⟨by omega, by omega⟩), Int.toNat_natCast] at hof
      cases e : ofL Ls k with
      | none => rw [e] at hof; simp at hof
      | some l => rw [e] at hof; simp at hof; rw [show l = x by omega]
    have hou := h.ok.out h.pl.ok hxn hin
    have HF := Lib.hid (remove_some bs be Ls k x w h.space hofL)
    rw [hou] at HF
    have HOK : Hid (PartOk n F (fun r => PR F c M r (t - 1)) (Ls.set x (remP (Ls.getD x []) k))) := Lib.hid (h.ok.set hxn (fun y hy => h.ok.mem x hxn y (List.mem_filter.1 hy).1) ((h.ok.nodup x hxn).filter _) (Nat.le_trans (List.length_filter_le _ _) (h.ok.few x hxn)))
    have H := Lib.hid h
    subst his
    clear h hr hrr hm hin hof hou hofL
    rw [if_pos rfl]
    go_enter Try.func17, Try.ntmps17
    go_wp2_with fail
    refine HH.out.mono ?_
    rintro e w1 ⟨rfl, rfl⟩
    go_wp2_with fail
    refine HF.out.mono ?_
    rintro e w1 ⟨rfl, hs, hc⟩
    have HS := Lib.hid hs
    clear hs
    go_wp2_with fail
    go_ret
    exact ⟨rfl, H.out.to hc HS.out HOK.out, hc⟩
end
end Go.Proofs.Ytpmfadepinmmjaa
