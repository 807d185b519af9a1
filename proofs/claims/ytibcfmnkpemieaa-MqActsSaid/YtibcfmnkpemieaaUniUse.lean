/-
  uni.Stack.Use. No condition but that the stack lies in memory.
-/
import Derived.Test.YtibcfmnkpemieaaUniNew
namespace Go.Proofs.Ytibcfmnkpemieaa
open Go.RowKit

theorem Chg.of_grown {w w' : World} {row : Option Nat} (h : w.grownBy w' row) : Chg row.toList w w' :=
  ⟨h.os, h.tape, h.output, h.size, fun k hk hn => h.block k hk (fun e => hn (by rw [← e]; simp))⟩
theorem Chg.grown {S : List Nat} {a w w' : World} {row : Option Nat} (h : Chg S a w) (g : w.grownBy w' row) (hr : ∀ k, row = some k → a.heap.size ≤ k) : Chg S a w' :=
  ⟨g.os.trans h.os, g.tape.trans h.tape, g.output.trans h.output, Nat.le_trans h.size g.size, fun k hk hn => (g.block k (Nat.lt_of_lt_of_le hk h.size) (fun e => by have := hr k e.symm; omega)).trans (h.block k hk hn)⟩
theorem UniAt.chg {S : List Nat} {w w' : World} {pu bs be : Nat} {caps lv : Nat → Nat} {M : List Nat} (h : UniAt w pu bs be caps M lv) (hc : Chg S w w') (h1 : pu ∉ S) (h2 : bs ∉ S) (h3 : be ∉ S) : UniAt w' pu bs be caps M lv :=
  ⟨h.obj.chg hc h1, h.n1, h.n2, h.space.chg hc h2 h3, h.stk⟩
/-- the cells of moves -/
def mcells (ms : List (Nat × Nat)) : List Value := ms.flatMap (fun m => [Value.int .i64 m.1, .int .i64 m.2, .int .i64 ((m.2 + 1 : Nat) : Int)])
theorem Rd.three (w : World) (a b c : Value) (e : TypeId) : Rd (w.alloc (.cells #[a, b, c] e)) 3 (.slice (some ⟨w.heap.size, 0, none⟩) 1 1) 1 [a, b, c] := by
  refine ⟨by simp, _, _, rfl, Nat.le_refl _, by simp [maxLen], fun h => (by cases h), fun _ => ⟨w.heap.size, 0, rfl, by simp, fun j v hj => ?_⟩⟩
  match j, hj with
  | 0, hj => simp at hj; subst hj; exact cell_new _ _ _ _ rfl
  | 1, hj => simp at hj; subst hj; exact cell_new _ _ _ _ rfl
  | 2, hj => simp at hj; subst hj; exact cell_new _ _ _ _ rfl
theorem move_info : (Try.prog.info? 36).map (fun i => (i.zero, i.size, i.bytes)) = some (some (.agg #[.int .i64 0, .int .i64 0, .int .i64 0]), 3, 24) := by kernel_rfl
/-- an own slice of moves -/
def OwnM (base : Nat) (w : World) (v : Value) (ms : List (Nat × Nat)) : Prop := w.ownsRow base 36 3 v ms.length (mcells ms)
theorem OwnM.chg {S : List Nat} {base : Nat} {w w' : World} {v : Value} {ms : List (Nat × Nat)} (h : OwnM base w v ms) (hb : Chg S w w') (hS : ∀ s ∈ S, s < base) : OwnM base w' v ms := own_chg h hb hS
theorem OwnM.ext {base : Nat} {w w' : World} {v : Value} {ms : List (Nat × Nat)} (h : OwnM base w v ms) (hb : Ext w w') : OwnM base w' v ms := own_ext h hb
theorem OwnM.nil (base : Nat) (w : World) : OwnM base w (.slice none 0 0) [] := ⟨rfl, .inl ⟨rfl, rfl⟩⟩

theorem chain_len {caps : Nat → Nat} {M : List Nat} : ∀ (k l : Nat) (lv : Nat → Nat), (chainU caps M k l lv).2.length ≤ k := by
  intro k
  induction k with
  | zero => intro l lv; simp [chainU]
  | succ k ih =>
    intro l lv
    unfold chainU
    split
    · simp only [List.length_cons]; have := ih (l + 1) (updN lv (yardU M lv l) (l + 1)); omega
    · simp
theorem chain_stop {caps : Nat → Nat} {M : List Nat} {k l : Nat} {lv : Nat → Nat} (h : ¬ caps l < cntU M lv l) : chainU caps M k l lv = (lv, []) := by
  cases k
  · rfl
  · unfold chainU; rw [if_neg h]
theorem chain_go {caps : Nat → Nat} {M : List Nat} {l : Nat} {lv lv2 : Nat → Nat} {ms : List (Nat × Nat)} (l4 : l < 4) (h : caps l < cntU M lv l) (e : chainU caps M (4 - l) l lv = (lv2, ms)) :
    ∃ t, ms = (yardU M lv l, l) :: t ∧ chainU caps M (4 - (l + 1)) (l + 1) (updN lv (yardU M lv l) (l + 1)) = (lv2, t) := by
  rw [show 4 - l = (4 - (l + 1)) + 1 by omega] at e
  unfold chainU at e
  rw [if_pos h] at e
  obtain ⟨e1, e2⟩ := Prod.mk.injEq .. ▸ e
  exact ⟨_, e2.symm, by rw [← e1]⟩

theorem uuse_out (pu : Nat) (w : World) (b : Int) (hb : ¬ okB b) :
    Calls Try.prog 15 #[.pointer (some ⟨pu, 0, none⟩), .int .i64 b] w fun e w' => e = .returned (.tuple #[.int .i64 0, .slice none 0 0, .int .i64 3]) ∧ w = w' := by
  by_cases h0 : 0 ≤ b
  · have h1 : 64 ≤ b := by unfold okB at hb; omega
    clear hb
    go_enter Try.func15, Try.ntmps15
    go_wp2_with fail
    go_ret3
    exact ⟨rfl, rfl⟩
  · have h1 : b < 0 := by omega
    clear hb h0
    go_enter Try.func15, Try.ntmps15
    go_wp2_with fail
    go_ret3
    exact ⟨rfl, rfl⟩

section
variable (pu bs be : Nat) (caps : Nat → Nat) (M : List Nat) (lv : Nat → Nat) (w : World) (h : UniAt w pu bs be caps M lv)
include h
set_option maxHeartbeats 1000000 in
theorem uuse (b : Nat) (hb : b < 64) :
    Calls Try.prog 15 #[.pointer (some ⟨pu, 0, none⟩), .int .i64 b] w fun e w' => ∃ v, e = .returned (.tuple #[.int .i64 (nextU caps M lv b), v, .int .i64 0]) ∧
      UniAt w' pu bs be caps (usedM caps M lv b).1 (usedM caps M lv b).2 ∧ OwnM w.heap.size w' v (movesU caps M lv b) ∧ Chg [pu, bs, be] w w' := by
  have hbi : (b : Int) < 64 := by omega
  have hnb := nextU_bd caps M lv b
  have hml : (movesU caps M lv b).length ≤ 4 := by unfold movesU; exact Nat.le_trans (chain_len _ _ _) (by omega)
  obtain ⟨n, hn⟩ : ∃ n, nextU caps M lv b = n := ⟨_, rfl⟩
  obtain ⟨T, hT⟩ : ∃ T, toTop M b = T := ⟨_, rfl⟩
  obtain ⟨lv2, MS, hch⟩ : ∃ lv2 MS, chainU caps T (4 - n) n (updN lv b n) = (lv2, MS) := ⟨_, _, rfl⟩
  have hmv : movesU caps M lv b = MS := by unfold movesU; rw [hn, hT, hch]
  obtain ⟨R, hR⟩ : ∃ R, pruneU T.length T lv2 = R := ⟨_, rfl⟩
  have hus : usedM caps M lv b = R := by unfold usedM; rw [hn, hT, hch, hR]
  rw [hn, hmv, hus]
  rw [hn] at hnb
  rw [hmv] at hml
  obtain ⟨n1, n4⟩ := hnb
  have hp1 := h.obj.lt
  have hp2 := h.space.lt1
  have hp3 := h.space.lt2
  have hbase : ∀ s ∈ [pu, bs, be], s < w.heap.size := by simp; omega
  have HBASE := Lib.hid hbase
  have hne1 := h.n1
  have hne2 := h.n2
  have HU := Lib.hid h
  have HN := Lib.hid hn
  have HT := Lib.hid hT
  have HCH := Lib.hid hch
  have HR := Lib.hid hR
  clear h hn hT hch hmv hus hR hbase
  go_enter Try.func15, Try.ntmps15
  go_wp2_with fail
  refine (unext pu bs be caps M lv _ HU.out b hb).mono ?_
  rintro e w1 ⟨rfl, hx1⟩
  rw [HN.out]
  have c1 := hx1.cellv HU.out.obj.c0
  go_wp2_with fail
  refine (front_any bs be [M] 0 b _ (HU.out.ext hx1).space).mono ?_
  rintro e w2 ⟨rfl, hs2, hc2⟩
  rw [(front_one M b).2, if_pos ⟨by omega, hbi⟩] at hs2
  have hs2' : SpaceAt w2 bs be [T] := by rw [← HT.out]; simpa [topL, toTop] using hs2
  have hu2 := (HU.out.ext hx1).obj.chg hc2 (by simp; omega)
  have hC2 : Chg [pu, bs, be] w w2 := (Chg.of_ext hx1).trans (hc2.mono (by simp))
  have HS2 := Lib.hid hs2'
  have HU2 := Lib.hid hu2
  clear hs2 hs2' hu2 hc2 c1
  go_wp2_with fail
  have hle := HU.out.stk.le b
  refine (uset pu bs caps lv _ b n _ HU2.out hb (by omega) (by omega) (fun l => by have := cnU_bd (lv := lv) HU.out.len l; omega)).mono ?_
  rintro e w3 ⟨rfl, hu3, hc3⟩
  have hC3 : Chg [pu, bs, be] w w3 := hC2.trans (hc3.mono (by simp))
  have hU3 : UniAt w3 pu bs be caps T (updN lv b n) := by
    refine ⟨?_, hne1, hne2, HS2.out.chg hc3 (by simp; omega) (by simp; omega), ?_⟩
    · rw [← HT.out]; exact uat_congr hu3 (fun l _ => setCn_top HU.out.stk n1 l)
    · rw [← HT.out]; exact HU.out.stk.top hb n1 n4
  clear hu3 hc3 hC2 hx1 hle
  go_wp2_with fail
  go_loopw [7, 5] (fun cl cm wr => ∃ (l : Nat) (lv' : Nat → Nat) (ms t : List (Nat × Nat)), 1 ≤ l ∧ l ≤ 4 ∧ cl = .int .i64 l ∧ UniAt wr pu bs be caps T lv' ∧ OwnM w.heap.size wr cm ms ∧ ms ++ t = MS ∧ chainU caps T (4 - l) l lv' = (lv2, t) ∧ Chg [pu, bs, be] w wr) (fun cl _ _ => 4 - (intOf cl).toNat)
  case atStart => exact ⟨n, _, [], MS, n1, n4, rfl, hU3, OwnM.nil _ _, rfl, HCH.out, hC3⟩
  case round =>
    obtain ⟨l, lv', ms, t, l1, l4, rfl, hU, ho, hms, hct, hC⟩ := hrel
    have HV := Lib.hid hU
    have HO := Lib.hid ho
    have HMS := Lib.hid hms
    have HCT := Lib.hid hct
    have hl1i : (1 : Int) ≤ (l : Int) := by omega
    have hl4i : (l : Int) ≤ 4 := by omega
    have hsz := hC.size
    clear hms hct ho
    by_cases hgo : l < 4 ∧ caps l < cntU T lv' l
    · obtain ⟨g4, gc⟩ := hgo
      have cc := hU.cnt l1 l4
      have cp := hU.obj.cap (l := l) (by omega)
      have hci : (caps l : Int) < (cntU T lv' l : Int) := by omega
      have hl4' : (l : Int) < 4 := by omega
      obtain ⟨t', ht', hct'⟩ := chain_go g4 gc HCT.out
      have hpos : 0 < cntU T lv' l := by omega
      obtain ⟨ym, yl⟩ := yard_mem hpos
      obtain ⟨y, hy⟩ : ∃ y, yardU T lv' l = y := ⟨_, rfl⟩
      rw [hy] at ht' hct' ym yl
      have hy64 := hU.stk.lt y ym
      have HPOS := Lib.hid hpos
      have HYM := Lib.hid ym
      have HYL := Lib.hid yl
      have HY := Lib.hid hy
      have HT' := Lib.hid ht'
      have HCT' := Lib.hid hct'
      clear gc hpos ym yl hy ht' hct' hU
      go_wp2_with fail
      go_quiet (fail)
      go_wp2_with fail
      refine (uyard_some pu bs be caps T lv' _ (HV.out.ext (by repeat' (first | (with_reducible exact Ext.refl _) | (with_reducible assumption) | (with_reducible refine Ext.alloc ?_ _) | (with_reducible refine Ext.drewN ?_ _) | (with_reducible refine Ext.drew ?_) | (with_reducible refine Ext.trans ?_ (by assumption))))) l l1 g4 HPOS.out).mono ?_
      rintro e w4 ⟨rfl, hx4⟩
      rw [HY.out]
      have hX4 : Ext wr w4 := (by repeat' (first | (with_reducible exact Ext.refl _) | (with_reducible assumption) | (with_reducible refine Ext.alloc ?_ _) | (with_reducible refine Ext.drewN ?_ _) | (with_reducible refine Ext.drew ?_) | (with_reducible refine Ext.trans ?_ (by assumption))))
      have HX4 := Lib.hid hX4
      clear hx4 hX4 cc cp
      go_wp2_with fail
      refine (uset pu bs caps lv' _ y (l + 1) _ (HV.out.ext HX4.out).obj hy64 (by omega) (by have := HYL.out; omega) (fun l => by have := cnU_bd (lv := lv') HV.out.len l; omega)).mono ?_
      rintro e w5 ⟨rfl, hu5, hc5⟩
      have hU5 : UniAt w5 pu bs be caps T (updN lv' y (l + 1)) := by
        refine ⟨?_, hne1, hne2, ((HV.out.ext HX4.out).space).chg hc5 (by simp; omega) (by simp; omega), ?_⟩
        · exact uat_congr hu5 (fun k _ => setCn_set HV.out.stk HYM.out (by omega) k)
        · exact HV.out.stk.set HYM.out (by omega) (by omega)
      have hC5 : Chg [pu, bs, be] w w5 := (hC.ext HX4.out).trans (hc5.mono (by simp))
      have hO5 : OwnM w.heap.size w5 _ ms := (HO.out.ext HX4.out).chg hc5 (by simp; omega)
      have hms4 : ms.length ≤ 4 := by have := HMS.out; rw [← this, List.length_append] at hml; omega
      obtain ⟨im, him, hz0, hz1, hz2⟩ := info_parts move_info
      have hsz5 : w.heap.size ≤ w5.heap.size := hC5.size
      clear hu5 hc5 hC
      go_wp2_with (at_builtin; refine wpList_append_rd rfl _ _ 29 rfl w.heap.size 36 im (.agg #[.int .i64 0, .int .i64 0, .int .i64 0]) 3 24 Try.underlying29 him hz0 hz1 hz2 rfl (by omega) _ _ _ rfl (hO5.ext (by repeat' (first | (with_reducible exact Ext.refl _) | (with_reducible assumption) | (with_reducible refine Ext.alloc ?_ _) | (with_reducible refine Ext.drewN ?_ _) | (with_reducible refine Ext.drew ?_) | (with_reducible refine Ext.trans ?_ (by assumption))))) _ 1 _ rfl (Rd.three _ _ _ _ _) (by simp [Value.oneCell']) (by unfold maxLen; omega) (by omega) (by simp; omega) ?_)
      intro v6 w6 ho6 hg6
      have hlt5 : ∀ g, Value.ownBlock _ = some g → w.heap.size ≤ g := fun g hg => (hO5.lt g hg).1
      have hC6 : Chg [pu, bs, be] w w6 := (hC5.alloc _).grown hg6 hlt5
      have hU6 : UniAt w6 pu bs be caps T (updN lv' y (l + 1)) := by
        refine (hU5.ext ((Ext.refl _).alloc _)).chg (Chg.of_grown hg6) ?_ ?_ ?_
        all_goals
          intro hm
          have := hlt5 _ (by simpa using hm)
          have := HBASE.out
          simp at this
          omega
      have ho6' : OwnM w.heap.size w6 v6 (ms ++ [(y, l)]) := by
        have e : mcells (ms ++ [(y, l)]) = mcells ms ++ [Value.int .i64 y, .int .i64 l, .int .i64 ((l : Int) + 1)] := by simp [mcells]
        unfold OwnM
        rw [e, List.length_append]
        simpa using ho6
      have hms' : (ms ++ [(y, l)]) ++ t' = MS := by rw [← HMS.out, HT'.out]; simp
      have HM' := Lib.hid hms'
      clear ho6 hms' hU5 hO5
      go_wp2_with fail
      go_roundw
      case rel => exact ⟨l + 1, _, _, t', by omega, by omega, by go_num, hU6, ho6', HM'.out, HCT'.out, hC6⟩
      case measure => simp [intOf]; omega
    · have hst : chainU caps T (4 - l) l lv' = (lv', []) := by
        by_cases e4 : l = 4
        · subst e4; rfl
        · exact chain_stop (fun hx => hgo ⟨by omega, hx⟩)
      have hct2 := HCT.out
      rw [hst, Prod.mk.injEq] at hct2
      obtain ⟨rfl, rfl⟩ := hct2
      have hms2 := HMS.out
      rw [List.append_nil] at hms2
      subst hms2
      have hguard : (l = 4) ∨ (l < 4 ∧ ¬ (caps l : Int) < (cntU T lv' l : Int)) := by
        by_cases e4 : l = 4
        · exact .inl e4
        · exact .inr ⟨by omega, fun hx => hgo ⟨by omega, by omega⟩⟩
      clear hgo hst
      rcases hguard with rfl | ⟨g4, gc⟩
      · have hd : decide (((4 : Nat) : Int) < 4) = false := by decide
        clear hU
        go_wp2_with fail
        go_quiet (fail)
        go_wp2_with fail
        refine (uprune pu bs be caps T lv' _ (HV.out.ext (by repeat' (first | (with_reducible exact Ext.refl _) | (with_reducible assumption) | (with_reducible refine Ext.alloc ?_ _) | (with_reducible refine Ext.drewN ?_ _) | (with_reducible refine Ext.drew ?_) | (with_reducible refine Ext.trans ?_ (by assumption)))))).mono ?_
        rintro e w4 ⟨rfl, hU4, hc4⟩
        rw [HR.out] at hU4
        go_wp2_with fail
        go_ret3
        exact ⟨_, rfl, hU4, (HO.out.ext (by repeat' (first | (with_reducible exact Ext.refl _) | (with_reducible assumption) | (with_reducible refine Ext.alloc ?_ _) | (with_reducible refine Ext.drewN ?_ _) | (with_reducible refine Ext.drew ?_) | (with_reducible refine Ext.trans ?_ (by assumption))))).chg hc4 HBASE.out, (hC.ext (by repeat' (first | (with_reducible exact Ext.refl _) | (with_reducible assumption) | (with_reducible refine Ext.alloc ?_ _) | (with_reducible refine Ext.drewN ?_ _) | (with_reducible refine Ext.drew ?_) | (with_reducible refine Ext.trans ?_ (by assumption))))).trans hc4⟩
      · have cc := hU.cnt l1 l4
        have cp := hU.obj.cap (l := l) (by omega)
        have hl4' : (l : Int) < 4 := by omega
        clear hU
        go_wp2_with fail
        go_quiet (fail)
        go_wp2_with fail
        refine (uprune pu bs be caps T lv' _ (HV.out.ext (by repeat' (first | (with_reducible exact Ext.refl _) | (with_reducible assumption) | (with_reducible refine Ext.alloc ?_ _) | (with_reducible refine Ext.drewN ?_ _) | (with_reducible refine Ext.drew ?_) | (with_reducible refine Ext.trans ?_ (by assumption)))))).mono ?_
        rintro e w4 ⟨rfl, hU4, hc4⟩
        rw [HR.out] at hU4
        go_wp2_with fail
        go_ret3
        exact ⟨_, rfl, hU4, (HO.out.ext (by repeat' (first | (with_reducible exact Ext.refl _) | (with_reducible assumption) | (with_reducible refine Ext.alloc ?_ _) | (with_reducible refine Ext.drewN ?_ _) | (with_reducible refine Ext.drew ?_) | (with_reducible refine Ext.trans ?_ (by assumption))))).chg hc4 HBASE.out, (hC.ext (by repeat' (first | (with_reducible exact Ext.refl _) | (with_reducible assumption) | (with_reducible refine Ext.alloc ?_ _) | (with_reducible refine Ext.drewN ?_ _) | (with_reducible refine Ext.drew ?_) | (with_reducible refine Ext.trans ?_ (by assumption))))).trans hc4⟩
end
end Go.Proofs.Ytibcfmnkpemieaa
