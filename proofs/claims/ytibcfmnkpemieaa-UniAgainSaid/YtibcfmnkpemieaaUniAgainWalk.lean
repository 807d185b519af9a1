/-
  gradinelaw13.UniAgain answers true. No condition.
-/
import Derived.Test.YtibcfmnkpemieaaUniBoundWalk
import Derived.Test.YtibcfmnkpemieaaRowsIn
namespace Go.Proofs.Ytibcfmnkpemieaa
open Go.RowKit

section
variable {caps lv : Nat → Nat} {M : List Nat}
theorem yard_head {b : Nat} {t : List Nat} {l : Nat} (hn : (b :: t).Nodup) (h2 : 2 ≤ cntU (b :: t) lv l) : yardU (b :: t) lv l ≠ b := by
  intro e
  obtain ⟨P, T, h1, h3, h4⟩ := yard_split (show 0 < cntU (b :: t) lv l by omega)
  rw [e] at h1 h3
  have hP : P = [] := by
    cases P with
    | nil => rfl
    | cons p P' =>
      exfalso
      have hc : b = p ∧ t = P' ++ b :: T := by simpa using h1
      have := (List.nodup_cons.1 hn).1
      rw [hc.2] at this
      simp at this
  subst hP
  have ht : t = T := by simpa using h1
  subst ht
  have h0 : cntU t lv l = 0 := by
    rcases Nat.eq_zero_or_pos (cntU t lv l) with h | h
    · exact h
    · obtain ⟨x, hx, hl⟩ := cntU_pos.1 h
      exact absurd hl (h4 x hx)
  have : cntU (b :: t) lv l = cntU t lv l + 1 := by unfold cntU; rw [List.countP_cons]; simp [h3]
  omega
/-- the chain leaves the top one's level -/
theorem chain_head {b : Nat} {t : List Nat} (hcap : ∀ l, 1 ≤ l → l < 4 → 1 ≤ caps l) : ∀ (k l : Nat) (lv : Nat → Nat), l + k = 4 → 1 ≤ l → Stk (b :: t) lv → (chainU caps (b :: t) k l lv).1 b = lv b := by
  intro k
  induction k with
  | zero => intro l lv _ _ _; rfl
  | succ k ih =>
    intro l lv hl l1 h
    by_cases hc : caps l < cntU (b :: t) lv l
    · have e : (chainU caps (b :: t) (k + 1) l lv).1 = (chainU caps (b :: t) k (l + 1) (updN lv (yardU (b :: t) lv l) (l + 1))).1 := by
        conv => lhs; unfold chainU
        rw [if_pos hc]
      obtain ⟨ym, yl⟩ := yard_mem (show 0 < cntU (b :: t) lv l by omega)
      have hne := yard_head h.nodup (l := l) (lv := lv) (by have := hcap l l1 (by omega); omega)
      rw [e, ih (l + 1) _ (by omega) (by omega) (h.set ym (by omega) (by omega)), updN_other _ _ (fun e => hne e.symm)]
    · rw [chain_stop hc]

/-- behind a use: the block on top has the level that it was told, or that is 4 -/
theorem used_top (h : Uni caps M lv) (hcap : ∀ l, 1 ≤ l → l < 4 → 1 ≤ caps l) {b : Nat} (hb : b < 64) :
    (nextU caps M lv b ≠ 4 → (usedM caps M lv b).2 b = nextU caps M lv b ∧ ∃ t, (usedM caps M lv b).1 = b :: t) ∧ (usedM caps M lv b).1 ≠ [] := by
  obtain ⟨n, hn⟩ : ∃ n, nextU caps M lv b = n := ⟨_, rfl⟩
  have hbd := nextU_bd caps M lv b
  obtain ⟨t1, t2⟩ := top_fit h hn
  rw [hn] at hbd
  obtain ⟨n1, n4⟩ := hbd
  have hs := h.stk.top (x := n) hb n1 n4
  obtain ⟨c1, c2, c3, c4, c5⟩ := chain_keeps (caps := caps) (4 - n) n (updN lv b n) (by omega) n1 hs t1 t2
  have hh := chain_head (t := M.filter (· ≠ b)) hcap (4 - n) n (updN lv b n) (by omega) n1 hs
  rw [updN_same] at hh
  have hout : n = 4 → (chainU caps (toTop M b) (4 - n) n (updN lv b n)).1 = updN lv b n := by intro e; subst e; rfl
  unfold usedM
  rw [hn]
  change (chainU caps (toTop M b) (4 - n) n (updN lv b n)).1 b = n at hh
  generalize hlv : (chainU caps (toTop M b) (4 - n) n (updN lv b n)).1 = lv2 at *
  obtain ⟨p1, _, _, p4, T, p5, p6⟩ := prune_keeps (k := (toTop M b).length) c1
  generalize pruneU (toTop M b).length (toTop M b) lv2 = R at *
  have stay : ∀ z, z ∈ toTop M b → lv2 z ≠ 4 → z ∈ R.1 := by
    intro z hz h4
    rw [p5] at hz
    rcases List.mem_append.1 hz with hz | hz
    · exact hz
    · exact absurd (p6 z hz) h4
  constructor
  · intro hn4
    have hbR := stay b (by unfold toTop; simp) (by omega)
    refine ⟨?_, ?_⟩
    · rcases p4 b with e | e
      · rw [e, hh]
      · omega
    · cases hR : R.1 with
      | nil => rw [hR] at hbR; cases hbR
      | cons x t =>
        have : x = b := by rw [hR] at p5; unfold toTop at p5; simpa using p5.symm |> fun h => (List.cons.inj h).1
        exact ⟨t, by rw [this]⟩
  · by_cases hn4 : n = 4
    · have e2 := hout hn4
      have hz : ∃ z, z ∈ M ∧ z ≠ b ∧ lv z ≠ 4 := by
        by_cases hm : b ∈ M
        · have hb4 : lv b = 4 := by
            by_cases e : lv b = 4
            · exact e
            · exfalso
              have h0 := (h.stk.mem b).1 hm
              have hle := h.stk.le b
              have := nextU_le (by omega) (by omega) (next_self (caps := caps) h.stk hm)
              omega
          have hM : M ≠ [] := by intro e; rw [e] at hm; cases hm
          obtain ⟨e, _⟩ := lastU_split hM
          have hl := h.cut hM
          have hlm : lastU M ∈ M := by have := List.mem_append_right (M.take (M.length - 1)) (List.mem_singleton_self (lastU M)); rwa [← e] at this
          exact ⟨lastU M, hlm, fun e => hl (by rw [e]; exact hb4), hl⟩
        · have hv : lv b = 0 := by have := h.stk.mem b; simp [hm] at this; omega
          have hfull : ¬ cntU M lv 1 < caps 1 := by
            intro hlt
            have hok : nextOk caps M lv b 1 = true := by unfold nextOk; rw [if_pos hv]; simpa using hlt
            have := nextU_le (by omega) (by omega) hok
            omega
          have := hcap 1 (by omega) (by omega)
          obtain ⟨z, hz, hl⟩ := cntU_pos.1 (show 0 < cntU M lv 1 by omega)
          exact ⟨z, hz, fun e => hm (e ▸ hz), by omega⟩
      obtain ⟨z, hz, hzb, hz4⟩ := hz
      have : z ∈ R.1 := stay z (by unfold toTop; simp [hz, hzb]) (by rw [e2, updN_other _ _ hzb]; exact hz4)
      intro e
      rw [e] at this
      cases this
    · have : b ∈ R.1 := stay b (by unfold toTop; simp) (by omega)
      intro e
      rw [e] at this
      cases this
/-- used twice, one behind the other -/
theorem used_again (h : Uni caps M lv) (hcap : ∀ l, 1 ≤ l → l < 4 → 1 ≤ caps l) {b x y : Nat} (hb : b < 64) (hx : nextU caps M lv b = x) (hy : nextU caps (usedM caps M lv b).1 (usedM caps M lv b).2 b = y) :
    y ≤ x ∧ (x = 4 ∨ (x = y ∧ movesU caps (usedM caps M lv b).1 (usedM caps M lv b).2 b = []) ∨ y < x) := by
  have h1 := used_uni h hb
  obtain ⟨htop, _⟩ := used_top h hcap hb
  rw [hx] at htop
  obtain ⟨S, hS⟩ : ∃ S, usedM caps M lv b = S := ⟨_, rfl⟩
  rw [hS] at hy h1 htop ⊢
  have hy4 : y ≤ 4 := by rw [← hy]; exact (nextU_bd _ _ _ _).2
  by_cases hx4 : x = 4
  · exact ⟨by omega, .inl hx4⟩
  · obtain ⟨hl, t, ht⟩ := htop hx4
    have hm : b ∈ S.1 := by rw [ht]; simp
    have h0 := (h1.stk.mem b).1 hm
    have hle := h1.stk.le b
    have hyx := nextU_le (by omega) (by omega) (next_self (caps := caps) h1.stk hm)
    rw [hy, hl] at hyx
    refine ⟨hyx, ?_⟩
    by_cases e : x = y
    · refine .inr (.inl ⟨e, ?_⟩)
      have hT : toTop S.1 b = S.1 := by
        have hn := h1.stk.nodup
        rw [ht] at hn ⊢
        have hbt := (List.nodup_cons.1 hn).1
        unfold toTop
        rw [List.filter_cons, if_neg (by simp), filter_self hbt]
      have hlv : updN S.2 b y = S.2 := by
        funext i
        unfold updN
        split
        · rename_i e2; subst e2; omega
        · rfl
      unfold movesU
      rw [hy, hT, hlv, chain_stop (by have := h1.fit y (by rw [← e]; omega) (by omega); omega)]
    · exact .inr (.inr (by omega))
end
theorem asInts_cons (b : Nat) (t : List Nat) : asInts (b :: t) = (b : Int) :: asInts t := rfl

set_option maxHeartbeats 2000000 in
theorem walk_UniAgain (v0 v1 v2 : Value) (w : World) (h0 : IsArr .i64 3 v0) (h1 : IsInts .i64 w v1) (h2 : IsInt .u8 v2) :
    Calls Try.prog 5 #[v0, v1, v2] w fun e w' => e = .returned (.bool true) ∧ Ext w w' := by
  obtain ⟨c1, c2, c3, rfl, _, _, _⟩ := h0.three
  obtain ⟨l, hl, hlw⟩ := h1
  obtain ⟨blk, rfl, wb⟩ := h2
  obtain ⟨blk0, blk1⟩ := u8_bd wb
  obtain ⟨a, k0, rfl, hlk, hkm, hnil, hcells⟩ := hl.parts
  have hn63 : (l.length : Int) ≤ 9223372036854775807 := by unfold maxLen at hkm; omega
  have HC := Lib.hid hcells
  clear h0 hl hlw hnil hcells hkm wb
  obtain ⟨n, hn⟩ : ∃ n, l.length = n := ⟨_, rfl⟩
  rw [hn] at hn63 hlk ⊢
  have HN := Lib.hid hn
  clear hn
  by_cases h120 : (120 : Int) < (n : Int)
  · go_enter Try.func5, Try.ntmps5
    go_wp2_with fail
    refine (wakes13 _).mono ?_
    rintro e w1 ⟨rfl, hx1⟩
    go_wp2_with fail
    go_ret
    exact ⟨rfl, (by repeat' (first | (with_reducible exact Ext.refl _) | (with_reducible assumption) | (with_reducible refine Ext.alloc ?_ _) | (with_reducible refine Ext.drewN ?_ _) | (with_reducible refine Ext.drew ?_) | (with_reducible refine Ext.trans ?_ (by assumption))))⟩
  · have hn120 : (n : Int) ≤ 120 := by omega
    go_enter Try.func5, Try.ntmps5
    go_wp2_with fail
    have q0 : (w.alloc (.cells #[.int .i64 c1, .int .i64 c2, .int .i64 c3] 22)).cell? ⟨w.heap.size, 0, none⟩ = some (.int .i64 c1) := cell_new _ _ _ _ rfl
    have q1 : (w.alloc (.cells #[.int .i64 c1, .int .i64 c2, .int .i64 c3] 22)).cell? ⟨w.heap.size, 1, none⟩ = some (.int .i64 c2) := cell_new _ _ _ _ rfl
    have q2 : (w.alloc (.cells #[.int .i64 c1, .int .i64 c2, .int .i64 c3] 22)).cell? ⟨w.heap.size, 2, none⟩ = some (.int .i64 c3) := cell_new _ _ _ _ rfl
    obtain ⟨w0, hw0⟩ : ∃ w0, w0 = w.alloc (.cells #[.int .i64 c1, .int .i64 c2, .int .i64 c3] 22) := ⟨_, rfl⟩
    have hx0 : Ext w w0 := by rw [hw0]; exact (Ext.refl w).alloc _
    rw [← hw0] at q0 q1 q2 ⊢
    clear hw0
    obtain ⟨pb, hpb⟩ : ∃ pb, pb = w.heap.size := ⟨_, rfl⟩
    rw [← hpb] at q0 q1 q2 ⊢
    clear hpb
    refine (wakes13 _).mono ?_
    rintro e w1 ⟨rfl, hx1⟩
    have r0 := hx1.cellv q0
    have r1 := hx1.cellv q1
    have r2 := hx1.cellv q2
    have hX1 : Ext w w1 := hx0.trans hx1
    clear q0 q1 q2
    go_wp2_with fail
    refine (unew c1 c2 c3 _).mono ?_
    intro e w2 hr
    clear r0 r1 r2
    rcases hr with ⟨_, rfl, hx2⟩ | ⟨⟨o1, o2, o3⟩, p, bs, be, rfl, hU, hp, hb1, hb2, hx2⟩
    · go_wp2_with fail
      go_ret
      exact ⟨rfl, (by repeat' (first | (with_reducible exact Ext.refl _) | (with_reducible assumption) | (with_reducible refine Ext.alloc ?_ _) | (with_reducible refine Ext.drewN ?_ _) | (with_reducible refine Ext.drew ?_) | (with_reducible refine Ext.trans ?_ (by assumption))))⟩
    · have hX2 : Ext w w2 := hX1.trans hx2
      have hw1 := hX1.size
      have hS1 : ∀ s ∈ [p, bs, be], w.heap.size ≤ s := by simp; omega
      have HS1 := Lib.hid hS1
      have hcap : ∀ l, 1 ≤ l → l < 4 → 1 ≤ capF c1 c2 c3 l := by
        intro l l1 l4
        unfold okC at o1 o2 o3
        unfold capF
        split
        · omega
        · split
          · omega
          · split
            · omega
            · omega
      obtain ⟨caps, hcaps⟩ : ∃ caps, caps = capF c1 c2 c3 := ⟨_, rfl⟩
      rw [← hcaps] at hU hcap
      have HCAP := Lib.hid hcap
      have hU0 : UniAt w2 p bs be caps ([] : List Nat) (fun _ => 0) := hU
      have hI0 : Uni caps ([] : List Nat) (fun _ => 0) := uni_nil caps
      clear hcaps hU hS1 hcap o1 o2 o3 hx0 hx1 hx2 hX1
      go_wp2_with fail
      go_loopw [34] (fun ci wr => ∃ (k : Nat) (S : List Nat × (Nat → Nat)), k ≤ n ∧ ci = .int .i64 k ∧ UniAt wr p bs be caps S.1 S.2 ∧ Uni caps S.1 S.2 ∧ Ext w wr) (fun ci _ => n - (intOf ci).toNat)
      case atStart => exact ⟨0, ([], fun _ => 0), Nat.zero_le _, rfl, hU0, hI0, hX2⟩
      case round =>
        obtain ⟨k, S, hk, rfl, hU, hI, hx⟩ := hrel
        have HU := Lib.hid hU
        have HI := Lib.hid hI
        clear hU hI
        by_cases hlt : k < n
        · obtain ⟨g, o, rfl, hg, hcc⟩ := HC.out (by intro e; have := HN.out; rw [e] at this; simp at this; omega)
          have x0 := hx.cellv (hcc k (by have := HN.out; omega))
          obtain ⟨x, hxx⟩ : ∃ x, l.getD k 0 = x := ⟨_, rfl⟩
          rw [hxx] at x0
          have hki : (k : Int) < (n : Int) := by omega
          clear hcc hxx
          go_wp2_with fail
          refine (uuse_any p bs be caps S _ HU.out x).mono ?_
          rintro e w4 ⟨ra, rv, rf, rfl, hU4, hc4⟩
          have hx4 : Ext w w4 := hx.chg hc4 HS1.out
          have hI4 := after_uni HI.out x
          have HI4 := Lib.hid hI4
          have HU4 := Lib.hid hU4
          clear hU4 hI4 hc4 x0
          go_wp2_with fail
          go_roundw
          case rel => exact ⟨k + 1, afterU caps S x, by omega, by go_num, HU4.out, HI4.out, hx4⟩
          case measure => simp [intOf]; omega
        · obtain rfl : k = n := by omega
          clear HC
          go_wp2_with fail
          obtain ⟨b, hb⟩ : ∃ b : Nat, blk % 64 = b := ⟨(blk % 64).toNat, (Int.toNat_of_nonneg (Int.emod_nonneg _ (by omega))).symm⟩
          have hb64 : b < 64 := by have := Int.emod_lt_of_pos blk (show (0 : Int) < 64 by omega); omega
          rw [hb]
          clear hb
          refine (uuse p bs be caps S.1 S.2 _ HU.out b hb64).mono ?_
          rintro e w3 ⟨v3, rfl, hU3, _, hc3⟩
          have hI3 := used_uni HI.out hb64
          obtain ⟨x, hxe⟩ : ∃ x, nextU caps S.1 S.2 b = x := ⟨_, rfl⟩
          obtain ⟨y, hye⟩ : ∃ y, nextU caps (usedM caps S.1 S.2 b).1 (usedM caps S.1 S.2 b).2 b = y := ⟨_, rfl⟩
          obtain ⟨g1, g2⟩ := used_again HI.out HCAP.out hb64 hxe hye
          have HX4 := Lib.hid (show x ≤ 4 by rw [← hxe]; exact (nextU_bd _ _ _ _).2)
          rw [hxe]
          obtain ⟨S3, hS3⟩ : ∃ S3, usedM caps S.1 S.2 b = S3 := ⟨_, rfl⟩
          rw [hS3] at hU3 hI3 hye g2
          have hx3 : Ext w w3 := hx.chg hc3 HS1.out
          have HU3 := Lib.hid hU3
          have HI3 := Lib.hid hI3
          have HYE := Lib.hid hye
          have HG2 := Lib.hid g2
          clear hU3 hI3 hc3 hxe hye g2 hS3
          go_wp2_with fail
          refine (uuse p bs be caps S3.1 S3.2 _ HU3.out b hb64).mono ?_
          rintro e w4 ⟨v4, rfl, hU4, ho4, hc4⟩
          obtain ⟨t1, t2⟩ := used_top HI3.out HCAP.out hb64
          rw [HYE.out] at t1 ⊢
          obtain ⟨S4, hS4⟩ : ∃ S4, usedM caps S3.1 S3.2 b = S4 := ⟨_, rfl⟩
          rw [hS4] at hU4 t1 t2
          have hx4 : Ext w w4 := hx3.chg hc4 HS1.out
          obtain ⟨av, cv, rfl⟩ := ho4.len
          obtain ⟨ml, hml⟩ : ∃ ml, (movesU caps S3.1 S3.2 b).length = ml := ⟨_, rfl⟩
          rw [hml]
          have hmi : (ml : Int) ≤ 4 := by have : ml ≤ 4 := (by rw [← hml]; unfold movesU; exact Nat.le_trans (chain_len _ _ _) (by omega)); omega
          have hg2 := HG2.out
          have g3 : x = 4 ∨ (x = y ∧ ml = 0) ∨ y < x := by
            rcases hg2 with h | ⟨h, h2⟩ | h
            · exact .inl h
            · exact .inr (.inl ⟨h, by rw [← hml, h2]; rfl⟩)
            · exact .inr (.inr h)
          obtain ⟨hd0, tl, hM4⟩ : ∃ hd0 tl, S4.1 = hd0 :: tl := by
            cases h : S4.1 with
            | nil => exact absurd h t2
            | cons z t => exact ⟨z, t, rfl⟩
          have t3 : y = 4 ∨ hd0 = b := by
            by_cases e : y = 4
            · exact .inl e
            · obtain ⟨_, t, ht⟩ := t1 e
              rw [hM4] at ht
              exact .inr (List.cons.inj ht).1
          have HU4 := Lib.hid hU4
          have HM4 := Lib.hid hM4
          have HT3 := Lib.hid t3
          have HG3 := Lib.hid g3
          have hyx : (y : Int) ≤ (x : Int) := by omega
          clear hU4 ho4 hc4 t1 t2 hS4 hml hg2 hM4 t3 g3
          have fin : ∀ (Wf : World) (V : Value), OwnI .i64 3 w4.heap.size Wf V (asInts (hd0 :: tl)) → ∃ g o c, V = .slice (some ⟨g, o, none⟩) (tl.length + 1) c ∧ Wf.cell? ⟨g, o, none⟩ = some (.int .i64 hd0) := by
            intro Wf V hV
            obtain ⟨aa, c, rfl, _, _, _, hcell⟩ := hV.rd.parts
            obtain ⟨g, o, rfl, _, hcc⟩ := hcell (by simp [asInts])
            refine ⟨g, o, c, by simp [asInts], ?_⟩
            have := hcc 0 (by simp [asInts])
            simpa [asInts, List.getD] using this
          have FIN := Lib.hid fin
          clear fin
          have hx44 : x ≤ 4 := HX4.out
          go_wp2_with fail
          refine (uall p bs be caps S4.1 S4.2 _ HU4.out).mono ?_
          rintro e w5 ⟨v5, rfl, ho5, hx5⟩
          rw [HM4.out] at ho5
          obtain ⟨g, o, c, rfl, z0⟩ := FIN.out _ _ ho5
          have hX5 : Ext w w5 := hx4.trans hx5
          have hty : (tl.length : Int) + 1 ≤ 9223372036854775807 := by
            have := HU4.out.len
            rw [HM4.out] at this
            simp at this
            omega
          have h0t : (0 : Int) < (tl.length : Int) + 1 := by omega
          clear ho5 hx5
          have hg3 := HG3.out
          have ht3 := HT3.out
          by_cases e3 : x = 4
          · subst e3
            clear hg3
            by_cases e1 : hd0 = b
            · subst e1
              clear ht3
              go_wp2_with fail
              go_ret
              exact ⟨by first | rfl | exact ret_bool (by simp) | simp, hX5⟩
            · have e2 : y = 4 := by omega
              subst e2
              have n1 : ((hd0 : Int) == (b : Int)) = false := by rw [beq_eq_false_iff_ne]; omega
              clear ht3
              go_wp2_with fail
              go_ret
              exact ⟨by first | rfl | exact ret_bool (by simp) | simp, hX5⟩
          · have n3 : ((x : Int) == 4) = false := by rw [beq_eq_false_iff_ne]; omega
            have e1 : hd0 = b := by omega
            subst e1
            clear ht3
            by_cases e4 : x = y
            · subst e4
              have e5 : ml = 0 := by omega
              subst e5
              clear hg3 e3
              go_wp2_with fail
              go_ret
              exact ⟨by first | rfl | exact ret_bool (by simp) | simp, hX5⟩
            · have n4 : ((x : Int) == (y : Int)) = false := by rw [beq_eq_false_iff_ne]; omega
              have hlt2 : y < x := by omega
              have hlti : (y : Int) < (x : Int) := by omega
              clear hg3 e3 e4
              go_wp2_with fail
              go_ret
              exact ⟨by first | rfl | exact ret_bool (by simp [hlt2]) | simp [hlt2], hX5⟩
end Go.Proofs.Ytibcfmnkpemieaa
