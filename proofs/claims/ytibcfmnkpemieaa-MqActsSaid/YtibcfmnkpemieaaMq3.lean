/-
  mq: Add, Remove, Queue, Ghosts, Often, All. No condition but that the MQ lies in memory, and that its numbers are small.
-/
import Derived.Test.YtibcfmnkpemieaaMq2
namespace Go.Proofs.Ytibcfmnkpemieaa
open Go.RowKit

/-- whom an add lets go, and whether -/
def goneQ (p : Shp) (s : Mq) (b : Nat) : Bool := !hasQ p s b && decide (lenQ p s = p.cap)
def outQ (p : Shp) (s : Mq) (b : Nat) : Nat := if goneQ p s b then victimQ p s else 0
theorem sumQ_pos {Ls : List (List Nat)} : ∀ {k : Nat}, 0 < sumQ Ls k → ∃ q, q < k ∧ Ls.getD q [] ≠ [] := by
  intro k
  induction k with
  | zero => intro h; simp [sumQ] at h
  | succ k ih =>
    intro h
    rw [sumQ] at h
    by_cases e : Ls.getD k [] = []
    · rw [e] at h
      obtain ⟨q, h1, h2⟩ := ih (by simpa using h)
      exact ⟨q, by omega, h2⟩
    · exact ⟨k, by omega, e⟩
theorem ofI_none {Ls : List (List Nat)} {b : Nat} (h : ofL Ls b = none) (hb : b < 64) : ofI Ls b = (0, false) := by
  unfold ofI
  rw [if_pos ⟨by omega, by omega⟩, Int.toNat_natCast, h]
theorem ofI_some {Ls : List (List Nat)} {b l : Nat} (h : ofL Ls b = some l) (hb : b < 64) : ofI Ls b = ((l : Int), true) := by
  unfold ofI
  rw [if_pos ⟨by omega, by omega⟩, Int.toNat_natCast, h]
/-- the numbers are small -/
def Small (k : Nat) (s : Mq) : Prop := s.now ≤ k ∧ ∀ b, s.of b ≤ k
theorem room_keeps (p : Shp) (s : Mq) : (roomQ p s).now = s.now ∧ (roomQ p s).of = s.of := by
  unfold roomQ evictQ Mq.inLs
  split
  · split <;> exact ⟨rfl, rfl⟩
  · exact ⟨rfl, rfl⟩
theorem small_add {p : Shp} {s : Mq} {k b : Nat} (h : Small k s) : Small (k + 1) (addQ p s b) := by
  obtain ⟨h1, h2⟩ := h
  unfold addQ
  split
  · rename_i hh
    unfold useQ
    rw [if_pos hh]
    · obtain ⟨a1, a2, _⟩ := ageQ_keeps p (p.qs - 1) 1 (placeQ p (oftenQ (tickQ s) b) b)
      refine ⟨by rw [a1]; show s.now + 1 ≤ k + 1; omega, fun x => ?_⟩
      rw [a2]
      show updN s.of b (s.of b + 1) x ≤ k + 1
      unfold updN
      split
      · have := h2 b; omega
      · have := h2 x; omega
  · obtain ⟨a1, a2, _⟩ := ageQ_keeps p (p.qs - 1) 1 (placeQ p (oftenQ (freshQ (roomQ p (tickQ s)) b) b) b)
    obtain ⟨r1, r2⟩ := room_keeps p (tickQ s)
    have f1 : (freshQ (roomQ p (tickQ s)) b).now = s.now + 1 := by unfold freshQ; split <;> exact r1
    have f2 : ∀ x, (freshQ (roomQ p (tickQ s)) b).of x ≤ k := by
      intro x
      unfold freshQ
      split
      · show updN (roomQ p (tickQ s)).of b 0 x ≤ k
        rw [r2]
        unfold updN
        split
        · omega
        · exact h2 x
      · rw [r2]; exact h2 x
    refine ⟨?_, fun x => ?_⟩
    · rw [a1]
      show (freshQ (roomQ p (tickQ s)) b).now ≤ k + 1
      omega
    · rw [a2]
      show updN (freshQ (roomQ p (tickQ s)) b).of b ((freshQ (roomQ p (tickQ s)) b).of b + 1) x ≤ k + 1
      unfold updN
      split
      · have := f2 b; omega
      · have := f2 x; omega

section
variable (pm bs be : Nat) (p : Shp) (s : Mq) (w : World) (h : MqAt w pm bs be p s)
include h
set_option maxRecDepth 4000 in
set_option maxHeartbeats 2000000 in
theorem madd (b : Nat) (hb : b < 64) (hn : s.now < 1000000) (hf : ∀ b, s.of b < 255) :
    Calls Try.prog 30 #[.pointer (some ⟨pm, 0, none⟩), .int .i64 b] w fun e w' => e = .returned (.tuple #[.int .i64 (outQ p s b), .bool (goneQ p s b), .int .i64 0]) ∧ MqAt w' pm bs be p (addQ p s b) ∧ Chg [pm, bs, be] w w' := by
  have HM := Lib.hid h
  have hbi : (b : Int) < 64 := by omega
  have hob : okB (b : Int) := ⟨by omega, hbi⟩
  have HF := Lib.hid hf
  cases hh : hasQ p s b with
  | true =>
    have hr : (okB (b : Int) && hasQ p s (b : Int).toNat : Bool) = true := by rw [Int.toNat_natCast, hh]; simp [hob]
    have hg : goneQ p s b = false := by unfold goneQ; rw [hh]; rfl
    have ho : outQ p s b = 0 := by unfold outQ; rw [hg]; rfl
    have ha : addQ p s b = useQ p s b := by unfold addQ; rw [if_pos hh]
    rw [hg, ho, ha]
    have HR := Lib.hid hr
    clear h hob hf hh hr hg ho ha
    go_enter Try.func30, Try.ntmps30
    go_wp2_with fail
    refine (muse pm bs be p s _ HM.out b true HR.out hn HF.out).mono ?_
    rintro e w1 ⟨rfl, hm1, hc1⟩
    rw [if_pos rfl, Int.toNat_natCast] at hm1
    go_wp2_with fail
    go_ret3
    exact ⟨rfl, hm1, hc1⟩
  | false =>
    have hr : (okB (b : Int) && hasQ p s (b : Int).toNat : Bool) = false := by rw [Int.toNat_natCast, hh]; simp
    obtain ⟨X, hX⟩ : ∃ X, addQ p s b = X := ⟨_, rfl⟩
    obtain ⟨S5, hS5⟩ : ∃ S5, roomQ p (tickQ s) = S5 := ⟨_, rfl⟩
    obtain ⟨S6, hS6⟩ : ∃ S6, freshQ S5 b = S6 := ⟨_, rfl⟩
    have hXe : X = ageQ p (p.qs - 1) 1 (placeQ p (oftenQ S6 b) b) := by rw [← hX]; unfold addQ; rw [hh, if_neg (by simp), hS5, hS6]
    have hgo : goneQ p s b = decide (lenQ p s = p.cap) := by unfold goneQ; rw [hh]; simp
    have hout : outQ p s b = if lenQ p s = p.cap then victimQ p s else 0 := by unfold outQ; rw [hgo]; simp
    rw [hX, hgo, hout]
    have HNN := Lib.hid hn
    have hcap := h.ok.c1
    obtain ⟨k5a, k5b⟩ := room_keeps p (tickQ s)
    rw [hS5] at k5a k5b
    have hn5 : S5.now = s.now + 1 := k5a
    have hf5 : S5.of = s.of := k5b
    have HR := Lib.hid hr
    have HS5 := Lib.hid hS5
    have HS6 := Lib.hid hS6
    have HXE := Lib.hid hXe
    have HN5 := Lib.hid hn5
    have HF5 := Lib.hid hf5
    obtain ⟨L, hL⟩ : ∃ L, lenQ p s = L := ⟨_, rfl⟩
    obtain ⟨V, hV⟩ : ∃ V, victimQ p s = V := ⟨_, rfl⟩
    rw [hL, hV]
    have HL := Lib.hid hL
    have HV := Lib.hid hV
    clear h hob hf hh hr hX hS5 hS6 hXe hgo hout k5a k5b hn5 hf5 hL hV
    have tailN : S6.now = s.now + 1 := by rw [← HS6.out]; unfold freshQ; split <;> exact HN5.out
    have tailF : S6.of b < 255 := by
      rw [← HS6.out]; unfold freshQ; split
      · show updN S5.of b 0 b < 255; rw [updN_same]; omega
      · rw [HF5.out]; exact HF.out b
    have TN := Lib.hid tailN
    have TF := Lib.hid tailF
    clear tailN tailF
    by_cases hc : L = p.cap
    · rw [if_pos hc]
      have hd : decide (L = p.cap) = true := by simpa using hc
      rw [hd]
      subst hc
      have HNE := Lib.hid (show ∃ q, q < p.qs ∧ (tickQ s).Ls.getD q [] ≠ [] from sumQ_pos (show 0 < lenQ p s by rw [HL.out]; omega))
      have HS5e := Lib.hid (show S5 = evictQ p (tickQ s) by rw [← HS5.out]; unfold roomQ; rw [if_pos]; exact HL.out)
      clear hd hcap hn
      go_enter Try.func30, Try.ntmps30
      go_wp2_with fail
      refine (muse pm bs be p s _ HM.out b false HR.out HNN.out HF.out).mono ?_
      rintro e w1 ⟨rfl, hm1, hc1⟩
      rw [if_neg (by simp)] at hm1
      have d5 := hm1.obj.c5
      have fr1 := hm1.obj.free
      have HM1 := Lib.hid hm1
      clear hm1
      have hni : (s.now : Int) < 1000000 := by have := HNN.out; omega
      go_wp2_with fail
      obtain ⟨w2, hw2⟩ : ∃ w2, w2 = w1.setCell ⟨pm, 5, none⟩ (.int .i64 ((s.now : Int) + 1)) := ⟨_, rfl⟩
      rw [← hw2]
      have ho2 : MAt w2 pm bs p (s.now + 1) s.of s.ex := by
        rw [hw2]
        have h9 := HM1.out.obj.setNow (s.now + 1)
        rwa [Int.natCast_add] at h9
      have hc2 : Chg [pm] w1 w2 := by rw [hw2]; exact (Chg.refl _ _).setCell (.inl (by simp)) _
      have hm2 : MqAt w2 pm bs be p (tickQ s) := HM1.out.own hc2 ho2 rfl
      have hC2 : Chg [pm, bs, be] w w2 := hc1.trans (hc2.mono (by simp))
      have d1 := hm2.obj.c1
      have HM2 := Lib.hid hm2
      have HLT := Lib.hid (show lenQ p (tickQ s) = p.cap from HL.out)
      clear hw2 d5 fr1 hm2 ho2 hc1 hc2
      go_quiet ((go_at_call 41; exact Calls.quiet_of_same (v := .int .i64 (p.cap : Nat)) ((mlen pm bs be p _ _ (HM2.out.ext (by repeat' (first | (with_reducible exact Ext.refl _) | (with_reducible assumption) | (with_reducible refine Ext.alloc ?_ _) | (with_reducible refine Ext.drewN ?_ _) | (with_reducible refine Ext.drew ?_) | (with_reducible refine Ext.trans ?_ (by assumption)))))).mono fun e w' h => ⟨by have h1 := h.1; rw [HLT.out] at h1; exact h1, h.2.symm⟩)))
      have hX3 : Ext w2 (w2.drewN nq) := (Ext.refl w2).drewN nq
      have HM3 := Lib.hid (HM2.out.ext hX3)
      have hC3 := hC2.ext hX3
      generalize w2.drewN nq = w3 at *
      clear d1 hX3
      go_wp2_with fail
      refine (mevict pm bs be p (tickQ s) _ HM3.out HNE.out).mono ?_
      rintro e w4 ⟨rfl, hm4, hc4⟩
      rw [show victimQ p (tickQ s) = V from HV.out]
      rw [← HS5e.out] at hm4
      have hC4 := hC3.trans hc4
      have HM4 := Lib.hid hm4
      have e0 := hm4.obj.c0
      clear hm4 hc4 hC3
      go_wp2_with fail
      refine (of_any bs be S5.Ls b _ HM4.out.space).mono ?_
      rintro e w5 ⟨rfl, rfl⟩
      cases hol : ofL S5.Ls b with
      | none =>
        rw [ofI_none hol hb]
        have hS6 : S6 = { S5 with of := updN S5.of b 0 } := by rw [← HS6.out]; unfold freshQ; rw [if_pos hol]
        have HS6e := Lib.hid hS6
        have fr4 := HM4.out.obj.free
        have cof4 := HM4.out.obj.cof hb
        clear hol hS6
        go_wp2_with fail
        obtain ⟨w6, hw6⟩ : ∃ w6, w6 = w4.setCell ⟨pm, 6 + b, none⟩ (.int .i64 0) := ⟨_, rfl⟩
        rw [← hw6]
        have hc6 : Chg [pm] w4 w6 := by rw [hw6]; exact (Chg.refl _ _).setCell (.inl (by simp)) _
        have ho6 : MAt w6 pm bs p S6.now S6.of S6.ex := by
          rw [hw6, HS6e.out]
          exact HM4.out.obj.setOf hb 0
        have HM6 := Lib.hid (show MqAt w6 pm bs be p S6 from HM4.out.own hc6 ho6 (by rw [HS6e.out]))
        have hC6 : Chg [pm, bs, be] w w6 := hC4.trans (hc6.mono (by simp))
        clear hw6 hc6 ho6 fr4 cof4
        obtain ⟨f, hfe⟩ : ∃ f, S6.of b = f := ⟨_, rfl⟩
        have cf := HM6.out.obj.cof hb
        rw [hfe] at cf
        have fr6 := HM6.out.obj.free
        have hf254 : f < 255 := by rw [← hfe]; exact TF.out
        have HFE := Lib.hid hfe
        have hwr : IntKind.i64.wrap ((f : Int) + 1) = (f : Int) + 1 := by rw [IntKind.wrap_i64]; omega
        clear hfe
        go_region_with (fail)
        all_goals
          obtain ⟨w7, hw7⟩ : ∃ w7, w7 = (w6.setCell ⟨pm, 6 + b, none⟩ (.int .i64 ((f : Int) + 1))).drew := ⟨_, rfl⟩
          rw [← hw7]
          have ho7 : MAt w7 pm bs p (oftenQ S6 b).now (oftenQ S6 b).of (oftenQ S6 b).ex := by
            rw [hw7]
            have h9 := (HM6.out.obj.setOf hb (f + 1)).ext (Ext.refl _).drew
            rw [Int.natCast_add] at h9
            have e : (oftenQ S6 b).of = updN S6.of b (f + 1) := by unfold oftenQ; simp only; rw [HFE.out]
            rw [e]
            exact h9
          have hc7 : Chg [pm] w6 w7 := by rw [hw7]; exact ((Chg.refl _ _).setCell (.inl (by simp)) _).drew
          have hm7 : MqAt w7 pm bs be p (oftenQ S6 b) := HM6.out.own hc7 ho7 rfl
          have hC7 : Chg [pm, bs, be] w w7 := hC6.trans (hc7.mono (by simp))
          have hof7 : (oftenQ S6 b).of b = f + 1 := by unfold oftenQ; simp only; rw [updN_same, HFE.out]
          have HM7 := Lib.hid hm7
          have HOF := Lib.hid hof7
          clear hw7 ho7 hm7 hc7 hof7 cf fr6
          go_wp2_with fail
          refine (mplace pm bs be p _ _ HM7.out b hb (by show S6.now ≤ 1000000; rw [TN.out]; have := HNN.out; omega) (by rw [HOF.out]; omega) (by rw [HOF.out]; omega)).mono ?_
          rintro e w8 ⟨rfl, hm8, hc8⟩
          have HM8 := Lib.hid hm8
          have hC8 := hC7.trans hc8
          clear hm8 hc8
          go_wp2_with fail
          refine (mage pm bs be p _ _ HM8.out (by show S6.now ≤ 1000000; rw [TN.out]; have := HNN.out; omega)).mono ?_
          rintro e w9 ⟨rfl, hm9, hc9⟩
          go_wp2_with fail
          go_ret3
          exact ⟨rfl, by rw [HXE.out]; exact hm9, hC8.trans hc9⟩
      | some l =>
        rw [ofI_some hol hb]
        have hS6 : S6 = S5 := by rw [← HS6.out]; unfold freshQ; rw [if_neg (by rw [hol]; simp)]
        have hm6 := HM4.out
        rw [← hS6] at hm6
        have HM6 := Lib.hid hm6
        have hC6 := hC4
        clear hol hS6 hm6
        go_wp2_with fail
        obtain ⟨w6, rfl⟩ : ∃ w6, w6 = w4 := ⟨_, rfl⟩
        obtain ⟨f, hfe⟩ : ∃ f, S6.of b = f := ⟨_, rfl⟩
        have cf := HM6.out.obj.cof hb
        rw [hfe] at cf
        have fr6 := HM6.out.obj.free
        have hf254 : f < 255 := by rw [← hfe]; exact TF.out
        have HFE := Lib.hid hfe
        have hwr : IntKind.i64.wrap ((f : Int) + 1) = (f : Int) + 1 := by rw [IntKind.wrap_i64]; omega
        clear hfe
        go_region_with (fail)
        all_goals
          obtain ⟨w7, hw7⟩ : ∃ w7, w7 = (w6.setCell ⟨pm, 6 + b, none⟩ (.int .i64 ((f : Int) + 1))).drew := ⟨_, rfl⟩
          rw [← hw7]
          have ho7 : MAt w7 pm bs p (oftenQ S6 b).now (oftenQ S6 b).of (oftenQ S6 b).ex := by
            rw [hw7]
            have h9 := (HM6.out.obj.setOf hb (f + 1)).ext (Ext.refl _).drew
            rw [Int.natCast_add] at h9
            have e : (oftenQ S6 b).of = updN S6.of b (f + 1) := by unfold oftenQ; simp only; rw [HFE.out]
            rw [e]
            exact h9
          have hc7 : Chg [pm] w6 w7 := by rw [hw7]; exact ((Chg.refl _ _).setCell (.inl (by simp)) _).drew
          have hm7 : MqAt w7 pm bs be p (oftenQ S6 b) := HM6.out.own hc7 ho7 rfl
          have hC7 : Chg [pm, bs, be] w w7 := hC6.trans (hc7.mono (by simp))
          have hof7 : (oftenQ S6 b).of b = f + 1 := by unfold oftenQ; simp only; rw [updN_same, HFE.out]
          have HM7 := Lib.hid hm7
          have HOF := Lib.hid hof7
          clear hw7 ho7 hm7 hc7 hof7 cf fr6
          go_wp2_with fail
          refine (mplace pm bs be p _ _ HM7.out b hb (by show S6.now ≤ 1000000; rw [TN.out]; have := HNN.out; omega) (by rw [HOF.out]; omega) (by rw [HOF.out]; omega)).mono ?_
          rintro e w8 ⟨rfl, hm8, hc8⟩
          have HM8 := Lib.hid hm8
          have hC8 := hC7.trans hc8
          clear hm8 hc8
          go_wp2_with fail
          refine (mage pm bs be p _ _ HM8.out (by show S6.now ≤ 1000000; rw [TN.out]; have := HNN.out; omega)).mono ?_
          rintro e w9 ⟨rfl, hm9, hc9⟩
          go_wp2_with fail
          go_ret3
          exact ⟨rfl, by rw [HXE.out]; exact hm9, hC8.trans hc9⟩
    · rw [if_neg hc]
      have hd : decide (L = p.cap) = false := by simpa using hc
      rw [hd]
      have hcb : ((L : Int) == (p.cap : Int)) = false := by rw [beq_eq_false_iff_ne]; omega
      have HS5e := Lib.hid (show S5 = tickQ s by rw [← HS5.out]; unfold roomQ; rw [if_neg]; show ¬ lenQ p s = p.cap; rw [HL.out]; exact hc)
      clear hd hcap hn hc
      go_enter Try.func30, Try.ntmps30
      go_wp2_with fail
      refine (muse pm bs be p s _ HM.out b false HR.out HNN.out HF.out).mono ?_
      rintro e w1 ⟨rfl, hm1, hc1⟩
      rw [if_neg (by simp)] at hm1
      have d5 := hm1.obj.c5
      have fr1 := hm1.obj.free
      have HM1 := Lib.hid hm1
      clear hm1
      have hni : (s.now : Int) < 1000000 := by have := HNN.out; omega
      go_wp2_with fail
      obtain ⟨w2, hw2⟩ : ∃ w2, w2 = w1.setCell ⟨pm, 5, none⟩ (.int .i64 ((s.now : Int) + 1)) := ⟨_, rfl⟩
      rw [← hw2]
      have ho2 : MAt w2 pm bs p (s.now + 1) s.of s.ex := by
        rw [hw2]
        have h9 := HM1.out.obj.setNow (s.now + 1)
        rwa [Int.natCast_add] at h9
      have hc2 : Chg [pm] w1 w2 := by rw [hw2]; exact (Chg.refl _ _).setCell (.inl (by simp)) _
      have hm2 : MqAt w2 pm bs be p (tickQ s) := HM1.out.own hc2 ho2 rfl
      have hC2 : Chg [pm, bs, be] w w2 := hc1.trans (hc2.mono (by simp))
      have d1 := hm2.obj.c1
      have HM2 := Lib.hid hm2
      have HLT := Lib.hid (show lenQ p (tickQ s) = L from HL.out)
      clear hw2 d5 fr1 hm2 ho2 hc1 hc2
      go_quiet ((go_at_call 41; exact Calls.quiet_of_same (v := .int .i64 L) ((mlen pm bs be p _ _ (HM2.out.ext (by repeat' (first | (with_reducible exact Ext.refl _) | (with_reducible assumption) | (with_reducible refine Ext.alloc ?_ _) | (with_reducible refine Ext.drewN ?_ _) | (with_reducible refine Ext.drew ?_) | (with_reducible refine Ext.trans ?_ (by assumption)))))).mono fun e w' h => ⟨by have h1 := h.1; rw [HLT.out] at h1; exact h1, h.2.symm⟩)))
      have hX3 : Ext w2 (w2.drewN nq) := (Ext.refl w2).drewN nq
      have hm4 := HM2.out.ext hX3
      rw [← HS5e.out] at hm4
      have HM4 := Lib.hid hm4
      have hC4 := hC2.ext hX3
      have e0 := hm4.obj.c0
      generalize w2.drewN nq = w4 at *
      clear d1 hX3 hm4
      go_wp2_with fail
      refine (of_any bs be S5.Ls b _ HM4.out.space).mono ?_
      rintro e w5 ⟨rfl, rfl⟩
      cases hol : ofL S5.Ls b with
      | none =>
        rw [ofI_none hol hb]
        have hS6 : S6 = { S5 with of := updN S5.of b 0 } := by rw [← HS6.out]; unfold freshQ; rw [if_pos hol]
        have HS6e := Lib.hid hS6
        have fr4 := HM4.out.obj.free
        have cof4 := HM4.out.obj.cof hb
        clear hol hS6
        go_wp2_with fail
        obtain ⟨w6, hw6⟩ : ∃ w6, w6 = w4.setCell ⟨pm, 6 + b, none⟩ (.int .i64 0) := ⟨_, rfl⟩
        rw [← hw6]
        have hc6 : Chg [pm] w4 w6 := by rw [hw6]; exact (Chg.refl _ _).setCell (.inl (by simp)) _
        have ho6 : MAt w6 pm bs p S6.now S6.of S6.ex := by
          rw [hw6, HS6e.out]
          exact HM4.out.obj.setOf hb 0
        have HM6 := Lib.hid (show MqAt w6 pm bs be p S6 from HM4.out.own hc6 ho6 (by rw [HS6e.out]))
        have hC6 : Chg [pm, bs, be] w w6 := hC4.trans (hc6.mono (by simp))
        clear hw6 hc6 ho6 fr4 cof4
        obtain ⟨f, hfe⟩ : ∃ f, S6.of b = f := ⟨_, rfl⟩
        have cf := HM6.out.obj.cof hb
        rw [hfe] at cf
        have fr6 := HM6.out.obj.free
        have hf254 : f < 255 := by rw [← hfe]; exact TF.out
        have HFE := Lib.hid hfe
        have hwr : IntKind.i64.wrap ((f : Int) + 1) = (f : Int) + 1 := by rw [IntKind.wrap_i64]; omega
        clear hfe
        go_region_with (fail)
        all_goals
          obtain ⟨w7, hw7⟩ : ∃ w7, w7 = (w6.setCell ⟨pm, 6 + b, none⟩ (.int .i64 ((f : Int) + 1))).drew := ⟨_, rfl⟩
          rw [← hw7]
          have ho7 : MAt w7 pm bs p (oftenQ S6 b).now (oftenQ S6 b).of (oftenQ S6 b).ex := by
            rw [hw7]
            have h9 := (HM6.out.obj.setOf hb (f + 1)).ext (Ext.refl _).drew
            rw [Int.natCast_add] at h9
            have e : (oftenQ S6 b).of = updN S6.of b (f + 1) := by unfold oftenQ; simp only; rw [HFE.out]
            rw [e]
            exact h9
          have hc7 : Chg [pm] w6 w7 := by rw [hw7]; exact ((Chg.refl _ _).setCell (.inl (by simp)) _).drew
          have hm7 : MqAt w7 pm bs be p (oftenQ S6 b) := HM6.out.own hc7 ho7 rfl
          have hC7 : Chg [pm, bs, be] w w7 := hC6.trans (hc7.mono (by simp))
          have hof7 : (oftenQ S6 b).of b = f + 1 := by unfold oftenQ; simp only; rw [updN_same, HFE.out]
          have HM7 := Lib.hid hm7
          have HOF := Lib.hid hof7
          clear hw7 ho7 hm7 hc7 hof7 cf fr6
          go_wp2_with fail
          refine (mplace pm bs be p _ _ HM7.out b hb (by show S6.now ≤ 1000000; rw [TN.out]; have := HNN.out; omega) (by rw [HOF.out]; omega) (by rw [HOF.out]; omega)).mono ?_
          rintro e w8 ⟨rfl, hm8, hc8⟩
          have HM8 := Lib.hid hm8
          have hC8 := hC7.trans hc8
          clear hm8 hc8
          go_wp2_with fail
          refine (mage pm bs be p _ _ HM8.out (by show S6.now ≤ 1000000; rw [TN.out]; have := HNN.out; omega)).mono ?_
          rintro e w9 ⟨rfl, hm9, hc9⟩
          go_wp2_with fail
          go_ret3
          exact ⟨rfl, by rw [HXE.out]; exact hm9, hC8.trans hc9⟩
      | some l =>
        rw [ofI_some hol hb]
        have hS6 : S6 = S5 := by rw [← HS6.out]; unfold freshQ; rw [if_neg (by rw [hol]; simp)]
        have hm6 := HM4.out
        rw [← hS6] at hm6
        have HM6 := Lib.hid hm6
        have hC6 := hC4
        clear hol hS6 hm6
        go_wp2_with fail
        obtain ⟨w6, rfl⟩ : ∃ w6, w6 = w4 := ⟨_, rfl⟩
        obtain ⟨f, hfe⟩ : ∃ f, S6.of b = f := ⟨_, rfl⟩
        have cf := HM6.out.obj.cof hb
        rw [hfe] at cf
        have fr6 := HM6.out.obj.free
        have hf254 : f < 255 := by rw [← hfe]; exact TF.out
        have HFE := Lib.hid hfe
        have hwr : IntKind.i64.wrap ((f : Int) + 1) = (f : Int) + 1 := by rw [IntKind.wrap_i64]; omega
        clear hfe
        go_region_with (fail)
        all_goals
          obtain ⟨w7, hw7⟩ : ∃ w7, w7 = (w6.setCell ⟨pm, 6 + b, none⟩ (.int .i64 ((f : Int) + 1))).drew := ⟨_, rfl⟩
          rw [← hw7]
          have ho7 : MAt w7 pm bs p (oftenQ S6 b).now (oftenQ S6 b).of (oftenQ S6 b).ex := by
            rw [hw7]
            have h9 := (HM6.out.obj.setOf hb (f + 1)).ext (Ext.refl _).drew
            rw [Int.natCast_add] at h9
            have e : (oftenQ S6 b).of = updN S6.of b (f + 1) := by unfold oftenQ; simp only; rw [HFE.out]
            rw [e]
            exact h9
          have hc7 : Chg [pm] w6 w7 := by rw [hw7]; exact ((Chg.refl _ _).setCell (.inl (by simp)) _).drew
          have hm7 : MqAt w7 pm bs be p (oftenQ S6 b) := HM6.out.own hc7 ho7 rfl
          have hC7 : Chg [pm, bs, be] w w7 := hC6.trans (hc7.mono (by simp))
          have hof7 : (oftenQ S6 b).of b = f + 1 := by unfold oftenQ; simp only; rw [updN_same, HFE.out]
          have HM7 := Lib.hid hm7
          have HOF := Lib.hid hof7
          clear hw7 ho7 hm7 hc7 hof7 cf fr6
          go_wp2_with fail
          refine (mplace pm bs be p _ _ HM7.out b hb (by show S6.now ≤ 1000000; rw [TN.out]; have := HNN.out; omega) (by rw [HOF.out]; omega) (by rw [HOF.out]; omega)).mono ?_
          rintro e w8 ⟨rfl, hm8, hc8⟩
          have HM8 := Lib.hid hm8
          have hC8 := hC7.trans hc8
          clear hm8 hc8
          go_wp2_with fail
          refine (mage pm bs be p _ _ HM8.out (by show S6.now ≤ 1000000; rw [TN.out]; have := HNN.out; omega)).mono ?_
          rintro e w9 ⟨rfl, hm9, hc9⟩
          go_wp2_with fail
          go_ret3
          exact ⟨rfl, by rw [HXE.out]; exact hm9, hC8.trans hc9⟩
end
end Go.Proofs.Ytibcfmnkpemieaa
