/-
  mq: Use, Len, evict. No condition but that the MQ lies in memory, and that its numbers are small.
-/
import Derived.Test.YtibcfmnkpemieaaMq1
namespace Go.Proofs.Ytibcfmnkpemieaa
open Go.RowKit

theorem ageQ_keeps (p : Shp) : ∀ (k q : Nat) (s : Mq), (ageQ p k q s).now = s.now ∧ (ageQ p k q s).of = s.of ∧ (ageQ p k q s).Ls.length = s.Ls.length := by
  intro k
  induction k with
  | zero => intro q s; exact ⟨rfl, rfl, rfl⟩
  | succ k ih =>
    intro q s
    obtain ⟨h1, h2, h3⟩ := ih (q + 1) (ageStep p s q)
    have e : (ageStep p s q).now = s.now ∧ (ageStep p s q).of = s.of ∧ (ageStep p s q).Ls.length = s.Ls.length := by
      unfold ageStep renewQ Mq.inLs
      split
      · exact ⟨rfl, rfl, frontL_length _ _ _⟩
      · exact ⟨rfl, rfl, rfl⟩
    exact ⟨h1.trans e.1, h2.trans e.2.1, h3.trans e.2.2⟩
theorem len_at {Ls : List (List Nat)} {q : Nat} (hq : q < Ls.length) : lenI Ls q = ((Ls.getD q []).length : Int) := by
  unfold lenI
  rw [if_pos ⟨by omega, by omega⟩, Int.toNat_natCast]
theorem space_len {w : World} {bs be : Nat} {Ls : List (List Nat)} (h : SpaceAt w bs be Ls) {q : Nat} (hq : q < Ls.length) : (Ls.getD q []).length ≤ 64 := by
  obtain ⟨A, E, _, hy⟩ := h
  exact hy.len hq
theorem firstQ_at {Ls : List (List Nat)} : ∀ (k q i : Nat), q ≤ i → i < q + k → (∀ j, q ≤ j → j < i → Ls.getD j [] = []) → Ls.getD i [] ≠ [] → firstQ k q Ls = i := by
  intro k
  induction k with
  | zero => intro q i h1 h2; omega
  | succ k ih =>
    intro q i h1 h2 h3 h4
    unfold firstQ
    by_cases e : q = i
    · subst e; rw [if_neg h4]
    · rw [if_pos (h3 q (Nat.le_refl _) (by omega))]
      exact ih (q + 1) i (by omega) (by omega) (fun j j1 j2 => h3 j (by omega) j2) h4

theorem doL_remove {Ls : List (List Nat)} {q b : Nat} (hq : q < Ls.length) (hb : b ∈ Ls.getD q []) (h64 : b < 64) : doE Ls 2 0 b = 0 ∧ doL Ls 2 0 b = outL Ls b := by
  have hok : okB (b : Int) := ⟨by omega, by omega⟩
  obtain ⟨l, hl⟩ : ∃ l, ofL Ls b = some l := by
    cases h : ofL Ls b with
    | some l => exact ⟨l, rfl⟩
    | none =>
      unfold ofL at h
      rw [List.find?_range_eq_none] at h
      have := h q hq
      simp only [Bool.not_eq_true', decide_eq_false_iff_not] at this
      exact absurd hb this
  constructor
  · simp [doE, hok, hl]
  · simp [doL, hok, hl]

section
variable (pm bs be : Nat) (p : Shp) (s : Mq) (w : World) (h : MqAt w pm bs be p s)
include h
set_option maxHeartbeats 1000000 in
theorem muse (b : Int) (r : Bool) (hr : (okB b && hasQ p s b.toNat : Bool) = r) (hn : s.now < 1000000) (hf : ∀ b, s.of b < 255) :
    Calls Try.prog 34 #[.pointer (some ⟨pm, 0, none⟩), .int .i64 b] w fun e w' => e = .returned (.bool r) ∧ MqAt w' pm bs be p (if r then useQ p s b.toNat else s) ∧ Chg [pm, bs, be] w w' := by
  have HM := Lib.hid h
  have HR := Lib.hid hr
  cases r
  · simp only [Bool.false_eq_true, if_false]
    clear hr h hf
    go_enter Try.func34, Try.ntmps34
    go_wp2_with fail
    refine (mhas pm bs be p s _ HM.out b false HR.out).mono ?_
    rintro e w1 ⟨rfl, rfl⟩
    go_wp2_with fail
    go_ret
    exact ⟨rfl, HM.out, Chg.refl _ _⟩
  · simp only [if_true]
    have hok : okB b := by simp at hr; exact hr.1
    obtain ⟨k, rfl⟩ := Int.eq_ofNat_of_zero_le hok.1
    have hk64 : k < 64 := by have := hok.2; omega
    have hki : (k : Int) < 64 := by omega
    rw [Int.toNat_natCast]
    have hh : hasQ p s k = true := by simp at hr; exact hr.2
    have hu : useQ p s k = ageQ p (p.qs - 1) 1 (placeQ p (oftenQ (tickQ s) k) k) := by unfold useQ; rw [if_pos hh]
    rw [hu]
    have hfk := hf k
    have c5 := h.obj.c5
    have fr := h.obj.free
    have hni : (s.now : Int) < 1000000 := by omega
    obtain ⟨f, hfe⟩ : ∃ f, s.of k = f := ⟨_, rfl⟩
    rw [hfe] at hfk
    have HFE := Lib.hid hfe
    clear hr h hf hok hh hu hfe
    go_enter Try.func34, Try.ntmps34
    go_wp2_with fail
    refine (mhas pm bs be p s _ HM.out k true HR.out).mono ?_
    rintro e w1 ⟨rfl, rfl⟩
    go_wp2_with fail
    obtain ⟨w2, hw2⟩ : ∃ w2, w2 = w.setCell ⟨pm, 5, none⟩ (.int .i64 ((s.now : Int) + 1)) := ⟨_, rfl⟩
    rw [← hw2]
    have ho2 : MAt w2 pm bs p (s.now + 1) s.of s.ex := by
      rw [hw2]
      have := HM.out.obj.setNow (s.now + 1)
      rwa [Int.natCast_add] at this
    have hc2 : Chg [pm] w w2 := by rw [hw2]; exact (Chg.refl _ _).setCell (.inl (by simp)) _
    have hm2 : MqAt w2 pm bs be p (tickQ s) := HM.out.own hc2 ho2 rfl
    have cf := ho2.cof hk64
    rw [HFE.out] at cf
    have fr2 := ho2.free
    have hwr : IntKind.i64.wrap ((f : Int) + 1) = (f : Int) + 1 := by rw [IntKind.wrap_i64]; omega
    have HM2 := Lib.hid hm2
    clear hw2 c5 fr hm2 ho2
    go_region_with (fail)
    all_goals
      obtain ⟨w3, hw3⟩ : ∃ w3, w3 = (w2.setCell ⟨pm, 6 + k, none⟩ (.int .i64 ((f : Int) + 1))).drew := ⟨_, rfl⟩
      rw [← hw3]
      have ho3 : MAt w3 pm bs p (oftenQ (tickQ s) k).now (oftenQ (tickQ s) k).of (oftenQ (tickQ s) k).ex := by
        rw [hw3]
        have h9 := (HM2.out.obj.setOf hk64 (f + 1)).ext (Ext.refl _).drew
        rw [Int.natCast_add] at h9
        have e : (oftenQ (tickQ s) k).of = updN (tickQ s).of k (f + 1) := by unfold oftenQ tickQ; simp only; rw [HFE.out]
        rw [e]
        exact h9
      have hc3 : Chg [pm] w2 w3 := by rw [hw3]; exact ((Chg.refl _ _).setCell (.inl (by simp)) _).drew
      have hm3 : MqAt w3 pm bs be p (oftenQ (tickQ s) k) := HM2.out.own hc3 ho3 rfl
      have hC3 : Chg [pm, bs, be] w w3 := (hc2.mono (by simp)).trans (hc3.mono (by simp))
      have hof3 : (oftenQ (tickQ s) k).of k = f + 1 := by unfold oftenQ tickQ; simp only; rw [updN_same, HFE.out]
      have HM3 := Lib.hid hm3
      have HOF := Lib.hid hof3
      clear hw3 ho3 hm3 hc3 hof3 cf fr2 hc2
      go_wp2_with fail
      refine (mplace pm bs be p _ _ HM3.out k hk64 (by show s.now + 1 ≤ 1000000; omega) (by rw [HOF.out]; omega) (by rw [HOF.out]; omega)).mono ?_
      rintro e w4 ⟨rfl, hm4, hc4⟩
      have HM4 := Lib.hid hm4
      have hC4 := hC3.trans hc4
      clear hm4 hc4
      go_wp2_with fail
      refine (mage pm bs be p _ _ HM4.out (by show s.now + 1 ≤ 1000000; omega)).mono ?_
      rintro e w5 ⟨rfl, hm5, hc5⟩
      go_wp2_with fail
      go_ret
      exact ⟨rfl, hm5, hC4.trans hc5⟩

theorem mlen : Calls Try.prog 41 #[.pointer (some ⟨pm, 0, none⟩)] w fun e w' => e = .returned (.int .i64 (lenQ p s)) ∧ w = w' := by
  have HM := Lib.hid h
  have c0 := h.obj.c0
  have c2 := h.obj.c2
  have hq2 := h.ok.q2
  have hqi : (p.qs : Int) ≤ 8 := by omega
  clear h
  go_enter Try.func41, Try.ntmps41
  go_wp2_with fail
  go_loopw [12, 3] (fun cq cn wr => ∃ q : Nat, q ≤ p.qs ∧ cq = .int .i64 q ∧ cn = .int .i64 (sumQ s.Ls q) ∧ sumQ s.Ls q ≤ 64 * q ∧ wr = w) (fun cq _ _ => p.qs - (intOf cq).toNat)
  case atStart => exact ⟨0, by omega, rfl, rfl, by simp [sumQ], rfl⟩
  case round =>
    obtain ⟨q, hq, rfl, rfl, hs, rfl⟩ := hrel
    by_cases hlt : q < p.qs
    · have hql : q < s.Ls.length := by rw [HM.out.len]; omega
      have hl64 := space_len HM.out.space hql
      have hle := len_at hql
      have hqi2 : (q : Int) < (p.qs : Int) := by omega
      obtain ⟨l, hl⟩ : ∃ l, (s.Ls.getD q []).length = l := ⟨_, rfl⟩
      rw [hl] at hle hl64
      obtain ⟨m, hm⟩ : ∃ m, sumQ s.Ls q = m := ⟨_, rfl⟩
      have hst : sumQ s.Ls (q + 1) = m + l := by rw [sumQ, hm, hl]
      rw [hm] at hs ⊢
      have HLE := Lib.hid hle
      have HST := Lib.hid hst
      have hmi : (m : Int) ≤ 1000 := by omega
      have hli : (l : Int) ≤ 64 := by omega
      clear hle hl hm hst hql
      go_wp2_with fail
      refine (len_any bs be s.Ls q _ HM.out.space).mono ?_
      rintro e w1 ⟨rfl, rfl⟩
      rw [HLE.out]
      go_wp2_with fail
      go_roundw
      case rel => exact ⟨q + 1, by omega, by go_num, by rw [HST.out]; go_num, by rw [HST.out]; omega, by first | rfl | trivial⟩
      case measure => simp [intOf]; omega
    · obtain rfl : q = p.qs := by omega
      go_wp2_with fail
      go_ret
      exact ⟨rfl, by first | rfl | trivial⟩

set_option maxHeartbeats 1000000 in
theorem mevict (hne : ∃ q, q < p.qs ∧ s.Ls.getD q [] ≠ []) : Calls Try.prog 63 #[.pointer (some ⟨pm, 0, none⟩)] w fun e w' => e = .returned (.int .i64 (victimQ p s)) ∧ MqAt w' pm bs be p (evictQ p s) ∧ Chg [pm, bs, be] w w' := by
  have HM := Lib.hid h
  have HNE := Lib.hid hne
  have c0 := h.obj.c0
  have c4 := h.obj.c4
  have hq2 := h.ok.q2
  have hqi : (p.qs : Int) ≤ 8 := by omega
  obtain ⟨V, hV⟩ : ∃ V, victimQ p s = V := ⟨_, rfl⟩
  obtain ⟨X, hX⟩ : ∃ X, evictQ p s = X := ⟨_, rfl⟩
  rw [hV, hX]
  have HV := Lib.hid hV
  have HX := Lib.hid hX
  clear h hne hV hX
  go_enter Try.func63, Try.ntmps63
  go_wp2_with fail
  go_loopw [3] (fun cq wr => ∃ q : Nat, q < p.qs ∧ cq = .int .i64 q ∧ (∀ j, j < q → s.Ls.getD j [] = []) ∧ wr = w) (fun cq _ => p.qs - (intOf cq).toNat)
  case atStart => exact ⟨0, by obtain ⟨q, h1, _⟩ := HNE.out; omega, rfl, fun j hj => by omega, rfl⟩
  case round =>
    obtain ⟨q, hq, rfl, hem, rfl⟩ := hrel
    have HEM := Lib.hid hem
    have hql : q < s.Ls.length := by rw [HM.out.len]; omega
    have hle := len_at hql
    have HQL := Lib.hid hql
    have hqi2 : (q : Int) < (p.qs : Int) := by omega
    clear hem hql
    by_cases hL : s.Ls.getD q [] = []
    · rw [hL] at hle
      have HL := Lib.hid hL
      have HLE := Lib.hid hle
      clear hL hle
      go_wp2_with fail
      refine (len_any bs be s.Ls q _ HM.out.space).mono ?_
      rintro e w1 ⟨rfl, rfl⟩
      rw [HLE.out]
      have hq3 : q + 1 < p.qs := by
        obtain ⟨i, h1, h2⟩ := HNE.out
        have : ¬ i < q := fun hi => h2 (HEM.out i hi)
        have : i ≠ q := fun e => h2 (e ▸ HL.out)
        omega
      go_wp2_with fail
      go_roundw
      case rel =>
        refine ⟨q + 1, hq3, by go_num, fun j hj => ?_, by first | rfl | trivial⟩
        by_cases e : j = q
        · subst e; exact HL.out
        · exact HEM.out j (by omega)
      case measure => simp [intOf]; omega
    · have hfi : firstQ p.qs 0 s.Ls = q := firstQ_at p.qs 0 q (by omega) (by omega) (fun j _ hj => HEM.out j hj) hL
      have hbm := lastU_mem hL
      obtain ⟨b, hb⟩ : ∃ b, lastU (s.Ls.getD q []) = b := ⟨_, rfl⟩
      have hvi : victimQ p s = b := by unfold victimQ lastQ; rw [hfi, hb]
      rw [hb] at hbm
      have hb64 := space_lt HM.out.space HQL.out hbm
      have hlp : 0 < (s.Ls.getD q []).length := List.length_pos_iff.2 hL
      obtain ⟨n, hn⟩ : ∃ n, (s.Ls.getD q []).length = n := ⟨_, rfl⟩
      rw [hn] at hle hlp
      have hnb : ((n : Int) == 0) = false := by rw [beq_eq_false_iff_ne]; omega
      have hla := last_at HQL.out
      rw [if_neg hL, hb] at hla
      have hgl : p.qs < s.Ls.length := by rw [HM.out.len]; omega
      obtain ⟨_, d2⟩ := doL_front (Ls := s.Ls) hgl hb64
      obtain ⟨F, hF⟩ : ∃ F, frontL s.Ls p.qs b = F := ⟨_, rfl⟩
      rw [hF] at d2
      have hfl : F.length = s.Ls.length := by rw [← hF]; exact frontL_length _ _ _
      have hev : evictQ p s = if p.gh < (F.getD p.qs []).length then s.inLs (outL F (lastU (F.getD p.qs []))) else s.inLs F := by unfold evictQ; rw [hvi, hF]
      have hvb : V = b := HV.out.symm.trans hvi
      subst hvb
      rw [HX.out] at hev
      have HEV := Lib.hid hev
      have HLE := Lib.hid hle
      have HLA := Lib.hid hla
      have D2 := Lib.hid d2
      have HFL := Lib.hid hfl
      have HGL := Lib.hid hgl
      clear hL hbm hb hvi hlp hn hle hla hgl d2 hF hfl hev hfi HEM HNE HV HX
      go_wp2_with fail
      refine (len_any bs be s.Ls q _ HM.out.space).mono ?_
      rintro e w1 ⟨rfl, rfl⟩
      rw [HLE.out]
      go_wp2_with fail
      refine (last_any bs be s.Ls q _ HM.out.space).mono ?_
      rintro e w1 ⟨rfl, rfl⟩
      rw [HLA.out]
      go_wp2_with fail
      go_region_with (first | (go_at_call 69; refine (mghost pm bs be p s _ (HM.out.ext (by repeat' (first | (with_reducible exact Ext.refl _) | (with_reducible assumption) | (with_reducible refine Ext.alloc ?_ _) | (with_reducible refine Ext.drewN ?_ _) | (with_reducible refine Ext.drew ?_) | (with_reducible refine Ext.trans ?_ (by assumption)))))).mono ?_; rintro e w1 ⟨rfl, rfl⟩) | (go_at_call 52; refine (front_any bs be s.Ls p.qs V _ (HM.out.space.ext (by repeat' (first | (with_reducible exact Ext.refl _) | (with_reducible assumption) | (with_reducible refine Ext.alloc ?_ _) | (with_reducible refine Ext.drewN ?_ _) | (with_reducible refine Ext.drew ?_) | (with_reducible refine Ext.trans ?_ (by assumption)))))).mono ?_; rintro e w3 ⟨rfl, hs3, hc3⟩))
      all_goals
        rw [D2.out] at hs3
        have hm3 : MqAt w3 pm bs be p (s.inLs F) := (HM.out.ext (by repeat' (first | (with_reducible exact Ext.refl _) | (with_reducible assumption) | (with_reducible refine Ext.alloc ?_ _) | (with_reducible refine Ext.drewN ?_ _) | (with_reducible refine Ext.drew ?_) | (with_reducible refine Ext.trans ?_ (by assumption))))).spc hc3 hs3 HFL.out
        have hC3 : Chg [pm, bs, be] wr w3 := (Chg.of_ext (by repeat' (first | (with_reducible exact Ext.refl _) | (with_reducible assumption) | (with_reducible refine Ext.alloc ?_ _) | (with_reducible refine Ext.drewN ?_ _) | (with_reducible refine Ext.drew ?_) | (with_reducible refine Ext.trans ?_ (by assumption))))).trans (hc3.mono (by simp))
        have HM3 := Lib.hid hm3
        clear hs3 hc3 hm3 c0 c4
        have c0 := HM3.out.obj.c0
        have c4 := HM3.out.obj.c4
        have hgf : p.qs < F.length := by rw [HFL.out]; exact HGL.out
        have hle := len_at hgf
        have hla := last_at hgf
        obtain ⟨n, hn⟩ : ∃ n, (F.getD p.qs []).length = n := ⟨_, rfl⟩
        rw [hn] at hle
        have hev := HEV.out
        rw [hn] at hev
        have HLE := Lib.hid hle
        have HLA := Lib.hid hla
        have HN := Lib.hid hn
        have HGF := Lib.hid hgf
        clear hle hla hn hgf
        by_cases hgn : p.gh < n
        · rw [if_pos hgn] at hev
          have hev' := Lib.hid hev
          have hgni : (p.gh : Int) < (n : Int) := by omega
          clear hev
          have hFne : F.getD p.qs [] ≠ [] := by intro e; have := HN.out; rw [e] at this; simp at this; omega
          have hgm := lastU_mem hFne
          have hla := HLA.out
          rw [if_neg hFne] at hla
          obtain ⟨g, hg⟩ : ∃ g, lastU (F.getD p.qs []) = g := ⟨_, rfl⟩
          rw [hg] at hgm hla hev'
          have hg64 := space_lt HM3.out.space HGF.out hgm
          obtain ⟨_, d3⟩ := doL_remove HGF.out hgm hg64
          have D3 := Lib.hid d3
          have HLA2 := Lib.hid hla
          clear hFne hgm hla hg d3
          go_wp2_with fail
          go_quiet ((first | (go_at_call 69; exact Calls.quiet_of_same ((mghost pm bs be p _ _ (HM3.out.ext (by repeat' (first | (with_reducible exact Ext.refl _) | (with_reducible assumption) | (with_reducible refine Ext.alloc ?_ _) | (with_reducible refine Ext.drewN ?_ _) | (with_reducible refine Ext.drew ?_) | (with_reducible refine Ext.trans ?_ (by assumption)))))).mono fun e w' h => ⟨h.1, h.2.symm⟩)) | (go_at_call 70; exact Calls.quiet_of_same (v := .int .i64 n) ((len_any bs be F p.qs _ (HM3.out.space.ext (by repeat' (first | (with_reducible exact Ext.refl _) | (with_reducible assumption) | (with_reducible refine Ext.alloc ?_ _) | (with_reducible refine Ext.drewN ?_ _) | (with_reducible refine Ext.drew ?_) | (with_reducible refine Ext.trans ?_ (by assumption)))))).mono fun e w' h => ⟨by have h1 := h.1; rw [HLE.out] at h1; exact h1, h.2.symm⟩))))
          have hX4 : Ext w3 (w3.drewN nq) := (Ext.refl w3).drewN nq
          have HM4 := Lib.hid (HM3.out.ext hX4)
          have hC4 := hC3.ext hX4
          have d0 := hX4.cellv c0
          have d4 := hX4.cellv c4
          generalize w3.drewN nq = w4 at *
          clear c0 c4 hX4
          go_wp2_with fail
          go_quiet ((first | (go_at_call 69; exact Calls.quiet_of_same ((mghost pm bs be p _ _ (HM4.out.ext (by repeat' (first | (with_reducible exact Ext.refl _) | (with_reducible assumption) | (with_reducible refine Ext.alloc ?_ _) | (with_reducible refine Ext.drewN ?_ _) | (with_reducible refine Ext.drew ?_) | (with_reducible refine Ext.trans ?_ (by assumption)))))).mono fun e w' h => ⟨h.1, h.2.symm⟩)) | (go_at_call 76; exact Calls.quiet_of_same (v := .tuple #[.int .i64 g, .bool true]) ((last_any bs be F p.qs _ (HM4.out.space.ext (by repeat' (first | (with_reducible exact Ext.refl _) | (with_reducible assumption) | (with_reducible refine Ext.alloc ?_ _) | (with_reducible refine Ext.drewN ?_ _) | (with_reducible refine Ext.drew ?_) | (with_reducible refine Ext.trans ?_ (by assumption)))))).mono fun e w' h => ⟨by have h1 := h.1; rw [HLA2.out] at h1; exact h1, h.2.symm⟩))))
          have hX5 : Ext w4 (w4.drewN nq) := (Ext.refl w4).drewN nq
          have HM5 := Lib.hid (HM4.out.ext hX5)
          have hC5 := hC4.ext hX5
          have f0 := hX5.cellv d0
          generalize w4.drewN nq = w5 at *
          clear d0 d4 hX5
          go_wp2_with fail
          refine (remove_any bs be F g _ HM5.out.space).mono ?_
          rintro e w6 ⟨rfl, hs6, hc6⟩
          rw [D3.out] at hs6
          have hm6 : MqAt w6 pm bs be p (s.inLs (outL F g)) := HM5.out.spc hc6 hs6 (outL_length _ _)
          go_wp2_with fail
          go_ret
          exact ⟨rfl, by rw [hev'.out]; exact hm6, hC5.trans (hc6.mono (by simp))⟩
        · rw [if_neg hgn] at hev
          have hev' := Lib.hid hev
          have hgni : decide ((p.gh : Int) < (n : Int)) = false := by simp; omega
          clear hev
          go_wp2_with fail
          go_quiet ((first | (go_at_call 69; exact Calls.quiet_of_same ((mghost pm bs be p _ _ (HM3.out.ext (by repeat' (first | (with_reducible exact Ext.refl _) | (with_reducible assumption) | (with_reducible refine Ext.alloc ?_ _) | (with_reducible refine Ext.drewN ?_ _) | (with_reducible refine Ext.drew ?_) | (with_reducible refine Ext.trans ?_ (by assumption)))))).mono fun e w' h => ⟨h.1, h.2.symm⟩)) | (go_at_call 70; exact Calls.quiet_of_same (v := .int .i64 n) ((len_any bs be F p.qs _ (HM3.out.space.ext (by repeat' (first | (with_reducible exact Ext.refl _) | (with_reducible assumption) | (with_reducible refine Ext.alloc ?_ _) | (with_reducible refine Ext.drewN ?_ _) | (with_reducible refine Ext.drew ?_) | (with_reducible refine Ext.trans ?_ (by assumption)))))).mono fun e w' h => ⟨by have h1 := h.1; rw [HLE.out] at h1; exact h1, h.2.symm⟩))))
          go_wp2_with fail
          go_ret
          exact ⟨rfl, by rw [hev'.out]; exact HM3.out.ext (by repeat' (first | (with_reducible exact Ext.refl _) | (with_reducible assumption) | (with_reducible refine Ext.alloc ?_ _) | (with_reducible refine Ext.drewN ?_ _) | (with_reducible refine Ext.drew ?_) | (with_reducible refine Ext.trans ?_ (by assumption)))), hC3.ext (by repeat' (first | (with_reducible exact Ext.refl _) | (with_reducible assumption) | (with_reducible refine Ext.alloc ?_ _) | (with_reducible refine Ext.drewN ?_ _) | (with_reducible refine Ext.drew ?_) | (with_reducible refine Ext.trans ?_ (by assumption))))⟩
end
end Go.Proofs.Ytibcfmnkpemieaa
