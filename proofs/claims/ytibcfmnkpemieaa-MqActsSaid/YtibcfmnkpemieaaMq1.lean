/-
  mq: ghost, Has, renew, place, age. No condition but that the MQ lies in memory, and that its numbers are small.
-/
import Derived.Test.YtibcfmnkpemieaaMqFn
import Derived.Deep.RegionHeld3
namespace Go.Proofs.Ytibcfmnkpemieaa
open Go.RowKit

theorem doL_front {Ls : List (List Nat)} {l b : Nat} (hl : l < Ls.length) (hb : b < 64) : doE Ls 0 l b = 0 ∧ doL Ls 0 l b = frontL Ls l b := by
  have h : okL Ls l ∧ okB b := ⟨⟨by omega, by omega⟩, ⟨by omega, by omega⟩⟩
  constructor
  · simp [doE, h]
  · simp [doL, h]
theorem last_at {Ls : List (List Nat)} {q : Nat} (hq : q < Ls.length) : lastI Ls q = if Ls.getD q [] = [] then (0, false) else ((lastU (Ls.getD q []) : Int), true) := by
  have h : okL Ls q := ⟨by omega, by omega⟩
  unfold lastI
  rw [if_pos h, Int.toNat_natCast]
  by_cases e : Ls.getD q [] = []
  · rw [if_pos e, if_pos e]
  · rw [if_neg e, if_neg e]
    have := (lastU_split e).2
    rw [← this]
    exact congrArg (fun x => (x, true)) (lst_default _ _ _ e)
theorem space_lt {w : World} {bs be : Nat} {Ls : List (List Nat)} (h : SpaceAt w bs be Ls) {q b : Nat} (hq : q < Ls.length) (hb : b ∈ Ls.getD q []) : b < 64 := by
  obtain ⟨A, E, _, hy⟩ := h
  exact (hy.mem hq hb).1
theorem lastU_mem {L : List Nat} (h : L ≠ []) : lastU L ∈ L := by
  obtain ⟨e, _⟩ := lastU_split h
  have := List.mem_append_right (L.take (L.length - 1)) (List.mem_singleton_self (lastU L))
  rwa [← e] at this

theorem ageStep_now (p : Shp) (s : Mq) (q : Nat) : (ageStep p s q).now = s.now := by
  unfold ageStep renewQ Mq.inLs
  split <;> rfl

section
variable (pm bs be : Nat) (p : Shp) (s : Mq) (w : World) (h : MqAt w pm bs be p s)
include h
theorem mghost : Calls Try.prog 69 #[.pointer (some ⟨pm, 0, none⟩)] w fun e w' => e = .returned (.int .i64 p.qs) ∧ w = w' := by
  have c2 := h.obj.c2
  go_enter Try.func69, Try.ntmps69
  go_wp2_with fail
  go_ret
  exact ⟨rfl, rfl⟩
theorem mhas (b : Int) (r : Bool) (hr : (okB b && hasQ p s b.toNat : Bool) = r) : Calls Try.prog 40 #[.pointer (some ⟨pm, 0, none⟩), .int .i64 b] w fun e w' => e = .returned (.bool r) ∧ w = w' := by
  have c0 := h.obj.c0
  have HM := Lib.hid h
  have hq2 := h.ok.q2
  by_cases ho : okB b
  · cases hl : ofL s.Ls b.toNat with
    | none =>
      have hof : ofI s.Ls b = (0, false) := by unfold ofI; rw [if_pos ho, hl]
      have e : r = false := by rw [← hr]; unfold hasQ; rw [hl]; simp
      subst e
      have HO := Lib.hid hof
      clear hr hof hl ho h
      go_enter Try.func40, Try.ntmps40
      go_wp2_with fail
      refine (of_any bs be s.Ls b _ HM.out.space).mono ?_
      rintro e w1 ⟨rfl, rfl⟩
      rw [HO.out]
      go_wp2_with fail
      go_ret
      exact ⟨rfl, rfl⟩
    | some l =>
      have hof : ofI s.Ls b = ((l : Int), true) := by unfold ofI; rw [if_pos ho, hl]
      have e : decide (l < p.qs) = r := by rw [← hr]; unfold hasQ; rw [hl]; simp [ho]
      have HO := Lib.hid hof
      have HE := Lib.hid e
      clear hr hof hl ho h e
      go_enter Try.func40, Try.ntmps40
      go_wp2_with fail
      refine (of_any bs be s.Ls b _ HM.out.space).mono ?_
      rintro e w1 ⟨rfl, rfl⟩
      rw [HO.out]
      go_wp2_with fail
      refine (mghost pm bs be p s _ HM.out).mono ?_
      rintro e w1 ⟨rfl, rfl⟩
      go_wp2_with fail
      go_ret
      exact ⟨ret_bool (by have := HE.out; first | exact this | simpa using this | (rw [← this]; simp)), rfl⟩
  · have hof : ofI s.Ls b = (0, false) := by unfold ofI; rw [if_neg ho]
    have e : r = false := by rw [← hr]; simp [ho]
    subst e
    have HO := Lib.hid hof
    clear hr hof ho h
    go_enter Try.func40, Try.ntmps40
    go_wp2_with fail
    refine (of_any bs be s.Ls b _ HM.out.space).mono ?_
    rintro e w1 ⟨rfl, rfl⟩
    rw [HO.out]
    go_wp2_with fail
    go_ret
    exact ⟨rfl, rfl⟩
theorem mrenew (b : Nat) (hb : b < 64) (hn : s.now ≤ 1000000) : Calls Try.prog 81 #[.pointer (some ⟨pm, 0, none⟩), .int .i64 b] w fun e w' => e = .returned (.tuple #[]) ∧ MqAt w' pm bs be p (renewQ p s b) ∧ Chg [pm] w w' := by
  have c5 := h.obj.c5
  have c3 := h.obj.c3
  have ce := h.obj.cex hb
  have hf := h.obj.free
  have hbi : (b : Int) < 64 := by omega
  have hl := h.ok.l2
  have hni : (s.now : Int) ≤ 1000000 := by omega
  have hli : (p.life : Int) ≤ 100 := by omega
  have hwr : IntKind.i64.wrap ((s.now : Int) + (p.life : Int)) = ((s.now + p.life : Nat) : Int) := by rw [IntKind.wrap_i64]; omega
  have HM := Lib.hid h
  clear h
  go_enter Try.func81, Try.ntmps81
  go_wp2_with fail
  go_region_with (fail)
  all_goals
    obtain ⟨w1, hw1⟩ : ∃ w1, w1 = (w.setCell ⟨pm, 70 + b, none⟩ (.int .i64 ((s.now : Int) + (p.life : Int)))).drew := ⟨_, rfl⟩
    rw [← hw1]
    have ho : MAt w1 pm bs p (renewQ p s b).now (renewQ p s b).of (renewQ p s b).ex := by
      rw [hw1]
      have := (HM.out.obj.setEx hb (s.now + p.life)).ext (Ext.refl _).drew
      rw [Int.natCast_add] at this
      exact this
    have hc1 : Chg [pm] w w1 := by rw [hw1]; exact ((Chg.refl _ _).setCell (.inl (by simp)) _).drew
    clear hw1
    go_end0
    exact ⟨rfl, HM.out.own hc1 ho rfl, hc1⟩

set_option maxHeartbeats 1000000 in
theorem mplace (b : Nat) (hb : b < 64) (hn : s.now ≤ 1000000) (hf1 : 1 ≤ s.of b) (hf2 : s.of b ≤ 255) : Calls Try.prog 65 #[.pointer (some ⟨pm, 0, none⟩), .int .i64 b] w fun e w' => e = .returned (.tuple #[]) ∧ MqAt w' pm bs be p (placeQ p s b) ∧ Chg [pm, bs, be] w w' := by
  have c0 := h.obj.c0
  have c2 := h.obj.c2
  have cf := h.obj.cof hb
  have hbi : (b : Int) < 64 := by omega
  have hq1 := h.ok.q1
  have hq2 := h.ok.q2
  obtain ⟨f, hf⟩ : ∃ f, s.of b = f := ⟨_, rfl⟩
  rw [hf] at hf1 hf2 cf
  have hfi1 : (1 : Int) ≤ (f : Int) := by omega
  have hfi2 : (f : Int) ≤ 255 := by omega
  have hl8 := Lib.bitLen_le f 8 (by omega) (by omega)
  have hl1 : 1 ≤ Lib.bitLen f := by
    rcases Nat.eq_zero_or_pos (Lib.bitLen f) with h0 | h0
    · have := Lib.bitLen_half f (by omega) (by omega); omega
    · exact h0
  obtain ⟨q, hq⟩ : ∃ q, Lib.bitLen f - 1 = q := ⟨_, rfl⟩
  obtain ⟨m, hm⟩ : ∃ m, p.qs - 1 = m := ⟨_, rfl⟩
  have hqe : ((Lib.bitLen f : Nat) : Int) - 1 = (q : Int) := by omega
  have hme : ((p.qs : Nat) : Int) - 1 = (m : Int) := by omega
  have hwr : IntKind.i64.wrap ((p.qs : Int) - 1) = (m : Int) := by rw [IntKind.wrap_i64]; omega
  have hto : (f : Int).toNat = f := by omega
  have hpl : placeQ p s b = renewQ p (s.inLs (frontL s.Ls (min q m) b)) b := by unfold placeQ qOf; rw [hf, hq, hm]
  obtain ⟨mm, hmm⟩ : ∃ mm, min q m = mm := ⟨_, rfl⟩
  rw [hmm] at hpl
  have hlm : mm < s.Ls.length := by rw [h.len]; omega
  obtain ⟨d1, d2⟩ := doL_front (Ls := s.Ls) hlm hb
  have HM := Lib.hid h
  have HPL := Lib.hid hpl
  have D2 := Lib.hid d2
  have HQE := Lib.hid hqe
  have hq8 : (q : Int) ≤ 8 := by omega
  have hm8 : (m : Int) ≤ 8 := by omega
  clear h hpl d1 d2 hq hm hlm hl8 hl1 hf hqe
  rw [HPL.out]
  go_enter Try.func65, Try.ntmps65
  go_wp2_with fail
  refine (blen _ _ (by omega) (by omega)).mono ?_
  rintro e w1 ⟨rfl, rfl⟩
  rw [hto]
  have hqw : RowKit.wrap64 ((Lib.bitLen f : Int) - 1) = (q : Int) := by have := HQE.out; unfold RowKit.wrap64; omega
  have HQW := Lib.hid hqw
  clear hqw
  go_wp2_with fail
  rw [HQW.out]
  clear HQW
  have hwm : IntKind.i64.wrap (m : Int) = (m : Int) := by rw [IntKind.wrap_i64]; omega
  have hmn : min (q : Int) (m : Int) = (mm : Int) := by omega
  clear hmm hwr
  go_region_with (go_at_call 52; refine (front_any bs be s.Ls mm b _ (HM.out.space.ext (by repeat' (first | (with_reducible exact Ext.refl _) | (with_reducible assumption) | (with_reducible refine Ext.alloc ?_ _) | (with_reducible refine Ext.drewN ?_ _) | (with_reducible refine Ext.drew ?_) | (with_reducible refine Ext.trans ?_ (by assumption)))))).mono ?_; rintro e w3 ⟨rfl, hs3, hc3⟩)
  all_goals
    rw [D2.out] at hs3
    have hm3 : MqAt w3 pm bs be p (s.inLs (frontL s.Ls mm b)) := (HM.out.ext (by repeat' (first | (with_reducible exact Ext.refl _) | (with_reducible assumption) | (with_reducible refine Ext.alloc ?_ _) | (with_reducible refine Ext.drewN ?_ _) | (with_reducible refine Ext.drew ?_) | (with_reducible refine Ext.trans ?_ (by assumption))))).spc hc3 hs3 (frontL_length _ _ _)
    have hC3 : Chg [pm, bs, be] w w3 := (Chg.of_ext (by repeat' (first | (with_reducible exact Ext.refl _) | (with_reducible assumption) | (with_reducible refine Ext.alloc ?_ _) | (with_reducible refine Ext.drewN ?_ _) | (with_reducible refine Ext.drew ?_) | (with_reducible refine Ext.trans ?_ (by assumption))))).trans (hc3.mono (by simp))
    clear hs3 hc3
    go_wp2_with fail
    refine (mrenew pm bs be p _ _ hm3 b hb hn).mono ?_
    rintro e w4 ⟨rfl, hm4, hc4⟩
    go_wp2_with fail
    go_end0
    exact ⟨rfl, hm4, hC3.trans (hc4.mono (by simp))⟩

set_option maxHeartbeats 1000000 in
theorem mage (hn : s.now ≤ 1000000) : Calls Try.prog 66 #[.pointer (some ⟨pm, 0, none⟩)] w fun e w' => e = .returned (.tuple #[]) ∧ MqAt w' pm bs be p (ageQ p (p.qs - 1) 1 s) ∧ Chg [pm, bs, be] w w' := by
  obtain ⟨R, hR⟩ : ∃ R, ageQ p (p.qs - 1) 1 s = R := ⟨_, rfl⟩
  have HR := Lib.hid hR
  have HM := Lib.hid h
  have hq1 := h.ok.q1
  have hq2 := h.ok.q2
  rw [hR]
  clear hR h
  go_enter Try.func66, Try.ntmps66
  go_wp2_with fail
  go_loopw [2] (fun cq wr => ∃ (k q : Nat) (s' : Mq), cq = .int .i64 q ∧ q + k = p.qs ∧ 1 ≤ q ∧ s'.now ≤ 1000000 ∧ MqAt wr pm bs be p s' ∧ ageQ p k q s' = R ∧ Chg [pm, bs, be] w wr) (fun cq _ => p.qs - (intOf cq).toNat)
  case atStart => exact ⟨p.qs - 1, 1, s, rfl, by omega, by omega, hn, HM.out, HR.out, Chg.refl _ _⟩
  case round =>
    obtain ⟨k, q, s', rfl, hqk, hq0, hn', hm, hag, hC⟩ := hrel
    have c0 := hm.obj.c0
    have c2 := hm.obj.c2
    have HS := Lib.hid hm
    have HAG := Lib.hid hag
    have HQK := Lib.hid hqk
    have hqi0 : (1 : Int) ≤ (q : Int) := by omega
    have hqs8 : (p.qs : Int) ≤ 8 := by omega
    clear hm hag
    cases k with
    | zero =>
      obtain rfl : q = p.qs := by omega
      have he := HAG.out
      change s' = R at he
      subst he
      clear HAG hqk
      go_wp2_with fail
      go_end0
      exact ⟨rfl, HS.out, hC⟩
    | succ k =>
      have hqi : (q : Int) < (p.qs : Int) := by omega
      have hql : q < s'.Ls.length := by rw [HS.out.len]; omega
      have hla := last_at hql
      have hag2 : ageQ p k (q + 1) (ageStep p s' q) = R := HAG.out
      have HAG2 := Lib.hid hag2
      have HLA := Lib.hid hla
      have HQL := Lib.hid hql
      clear hag2 hla hql hqk
      by_cases hL : s'.Ls.getD q [] = []
      · have hst : ageStep p s' q = s' := by unfold ageStep; rw [if_neg (fun h => h.1 hL)]
        have HL := Lib.hid hL
        have HST := Lib.hid hst
        clear hL hst
        go_wp2_with fail
        refine (last_any bs be s'.Ls q _ HS.out.space).mono ?_
        rintro e w1 ⟨rfl, rfl⟩
        rw [HLA.out, if_pos HL.out]
        go_wp2_with fail
        go_quiet (fail)
        go_wp2_with fail
        go_roundw
        case rel =>
          have h3 := HAG2.out
          rw [HST.out] at h3
          exact ⟨k, q + 1, s', by go_num, by have := HQK.out; omega, by omega, hn', HS.out.ext (by repeat' (first | (with_reducible exact Ext.refl _) | (with_reducible assumption) | (with_reducible refine Ext.alloc ?_ _) | (with_reducible refine Ext.drewN ?_ _) | (with_reducible refine Ext.drew ?_) | (with_reducible refine Ext.trans ?_ (by assumption)))), h3, hC.ext (by repeat' (first | (with_reducible exact Ext.refl _) | (with_reducible assumption) | (with_reducible refine Ext.alloc ?_ _) | (with_reducible refine Ext.drewN ?_ _) | (with_reducible refine Ext.drew ?_) | (with_reducible refine Ext.trans ?_ (by assumption))))⟩
        case measure => simp [intOf]; omega
      · have hbm := lastU_mem hL
        obtain ⟨b, hb⟩ : ∃ b, lastU (s'.Ls.getD q []) = b := ⟨_, rfl⟩
        rw [hb] at hbm
        have hb64 := space_lt HS.out.space HQL.out hbm
        have hbi : (b : Int) < 64 := by omega
        have ce := HS.out.obj.cex hb64
        have c5 := HS.out.obj.c5
        have HL := Lib.hid hL
        have HB := Lib.hid hb
        obtain ⟨x, hx⟩ : ∃ x, s'.ex b = x := ⟨_, rfl⟩
        obtain ⟨nw, hnw⟩ : ∃ nw, s'.now = nw := ⟨_, rfl⟩
        rw [hx] at ce
        rw [hnw] at c5
        have HX := Lib.hid hx
        have HNW := Lib.hid hnw
        clear hL hbm hb hx hnw
        by_cases hlt : x < nw
        · have hst : ageStep p s' q = renewQ p (s'.inLs (frontL s'.Ls (q - 1) b)) b := by
            unfold ageStep lastQ
            rw [HB.out, if_pos ⟨HL.out, by rw [HX.out, HNW.out]; exact hlt⟩]
          obtain ⟨m, hm⟩ : ∃ m, q - 1 = m := ⟨_, rfl⟩
          have hmi : (q : Int) - 1 = (m : Int) := by omega
          obtain ⟨_, d2⟩ := doL_front (Ls := s'.Ls) (l := m) (b := b) (by have := HQL.out; omega) hb64
          have hlti : (x : Int) < (nw : Int) := by omega
          have HST := Lib.hid hst
          have D2 := Lib.hid d2
          have HMM := Lib.hid hm
          have HMI := Lib.hid hmi
          clear hst d2 hm hmi
          go_wp2_with fail
          refine (last_any bs be s'.Ls q _ HS.out.space).mono ?_
          rintro e w1 ⟨rfl, rfl⟩
          rw [HLA.out, if_neg HL.out, HB.out]
          go_wp2_with fail
          go_quiet (fail)
          have hX1 : Ext wr (wr.drewN nq) := (Ext.refl wr).drewN nq
          have c0' := hX1.cellv c0
          have HS1 := Lib.hid (HS.out.ext hX1)
          have hC1 := hC.ext hX1
          generalize wr.drewN nq = w2 at *
          clear c0 c2 ce c5 hX1
          go_wp2_with fail
          rw [HMI.out]
          refine (front_any bs be s'.Ls m b _ HS1.out.space).mono ?_
          rintro e w3 ⟨rfl, hs3, hc3⟩
          rw [D2.out] at hs3
          have hm3 : MqAt w3 pm bs be p (s'.inLs (frontL s'.Ls m b)) := HS1.out.spc hc3 hs3 (frontL_length _ _ _)
          have hC3 : Chg [pm, bs, be] w w3 := hC1.trans (hc3.mono (by simp))
          have HM3 := Lib.hid hm3
          clear hs3 hc3 hm3 hC1
          go_wp2_with fail
          refine (mrenew pm bs be p _ _ HM3.out b hb64 hn').mono ?_
          rintro e w4 ⟨rfl, hm4, hc4⟩
          have hC4 : Chg [pm, bs, be] w w4 := hC3.trans (hc4.mono (by simp))
          have h3 := HAG2.out
          rw [HST.out, HMM.out] at h3
          have HM4 := Lib.hid hm4
          have H3 := Lib.hid h3
          clear hm4 h3 hc4
          go_wp2_with fail
          go_roundw
          case rel => exact ⟨k, q + 1, renewQ p (s'.inLs (frontL s'.Ls m b)) b, by go_num, by have := HQK.out; omega, by omega, hn', HM4.out, H3.out, hC4⟩
          case measure => simp [intOf]; omega
        · have hst : ageStep p s' q = s' := by
            unfold ageStep lastQ
            rw [HB.out, if_neg (fun h => hlt (by have := h.2; rw [HX.out, HNW.out] at this; exact this))]
          have HST := Lib.hid hst
          clear hst
          go_wp2_with fail
          refine (last_any bs be s'.Ls q _ HS.out.space).mono ?_
          rintro e w1 ⟨rfl, rfl⟩
          rw [HLA.out, if_neg HL.out, HB.out]
          go_wp2_with fail
          go_quiet (fail)
          go_wp2_with fail
          go_roundw
          case rel =>
            have h3 := HAG2.out
            rw [HST.out] at h3
            exact ⟨k, q + 1, s', by go_num, by have := HQK.out; omega, by omega, hn', HS.out.ext (by repeat' (first | (with_reducible exact Ext.refl _) | (with_reducible assumption) | (with_reducible refine Ext.alloc ?_ _) | (with_reducible refine Ext.drewN ?_ _) | (with_reducible refine Ext.drew ?_) | (with_reducible refine Ext.trans ?_ (by assumption)))), h3, hC.ext (by repeat' (first | (with_reducible exact Ext.refl _) | (with_reducible assumption) | (with_reducible refine Ext.alloc ?_ _) | (with_reducible refine Ext.drewN ?_ _) | (with_reducible refine Ext.drew ?_) | (with_reducible refine Ext.trans ?_ (by assumption))))⟩
          case measure => simp [intOf]; omega
end
end Go.Proofs.Ytibcfmnkpemieaa
