/-
  gradineref12.Add. No condition but that the MQ lies in memory, is right, and that its numbers are small.
-/
import Derived.Test.YtibcfmnkpemieaaRmq4
namespace Go.Proofs.Ytibcfmnkpemieaa
open Go.RowKit

section
variable {p : Shp} {s : Mq}
/-- what goes, as the reference takes it out -/
theorem evict_front (h : Inq p s) {q : Nat} (hq : q < p.qs) {v : Nat} (hv : v ∈ s.Ls.getD q []) :
    ((s.Ls.set q ((s.Ls.getD q []).filter (· ≠ v))).set p.qs (v :: s.Ls.getD p.qs [])) = frontL s.Ls p.qs v := by
  have hl : p.qs < s.Ls.length := by rw [h.len]; omega
  refine list_ext_getD (by rw [List.length_set, List.length_set, frontL_length]) fun i hi => ?_
  rw [getD_set_nat _ _ _ _ (by rw [List.length_set]; exact hl), getD_set_nat _ _ _ _ (by omega), getD_front hl]
  by_cases e : i = p.qs
  · subst e
    rw [if_pos rfl, if_pos rfl, filter_id' (fun hm => by have := h.good.one _ _ _ hv hm; omega)]
  · rw [if_neg e, if_neg e]
    by_cases e2 : i = q
    · subst e2; rw [if_pos rfl]
    · rw [if_neg e2, filter_id' (fun hm => e2 (h.good.one _ _ _ hm hv))]
theorem ghost_cut {F : List (List Nat)} (g : Good F) {k m : Nat} (hk : k < F.length) (hm : (F.getD k []).length = m + 1) :
    F.set k ((F.getD k []).take m) = outL F (lastU (F.getD k [])) := by
  have hne : F.getD k [] ≠ [] := by intro e; rw [e] at hm; simp at hm
  rw [outL_one g hk (lastU_mem hne)]
  congr 1
  have := cut_last (g.nodup k)
  unfold cutL at this
  rw [hm, Nat.add_sub_cancel] at this
  exact this.symm
/-- a block that is in no queue is in a list just where it is a ghost -/
theorem ofL_ghost (h : Inq p s) {b : Nat} (hno : ∀ i, i < p.qs → b ∉ s.Ls.getD i []) : ofL s.Ls b = none ↔ b ∉ s.Ls.getD p.qs [] := by
  constructor
  · intro hn
    exact ofL_not hn p.qs (by rw [h.len]; omega)
  · intro hn
    cases hof : ofL s.Ls b with
    | none => rfl
    | some i =>
      obtain ⟨hi, hm⟩ := ofL_mem hof
      rw [h.len] at hi
      by_cases e : i < p.qs
      · exact absurd hm (hno i e)
      · obtain rfl : i = p.qs := by omega
        exact absurd hm hn
theorem room_b64 (h : Inq p s) (hb : B64 s) : B64 (roomQ p s) := by
  unfold roomQ
  split
  · rename_i hc
    have hc1 := h.ok.c1
    obtain ⟨hf, hne⟩ := firstQ_ne (p := p) (s := s) (by omega)
    have hv : victimQ p s ∈ s.Ls.getD (firstQ p.qs 0 s.Ls) [] := lastU_mem hne
    have hl : p.qs < s.Ls.length := by rw [h.len]; omega
    have hF : ∀ q, ∀ x ∈ (frontL s.Ls p.qs (victimQ p s)).getD q [], x < 64 := by
      intro q x hx
      rcases (mem_front hl).1 hx with ⟨rfl, _⟩ | ⟨_, hm⟩
      · exact hb _ _ hv
      · exact hb q x hm
    unfold evictQ
    split
    · intro q x hx
      exact hF q x (mem_out.1 hx).2
    · exact hF
  · exact hb
/-- room is made with what is in no queue still in none -/
theorem room_no (h : Inq p s) {b : Nat} (hno : ∀ i, i < p.qs → b ∉ s.Ls.getD i []) : ∀ i, i < p.qs → b ∉ (roomQ p s).Ls.getD i [] := by
  intro i hi
  unfold roomQ
  split
  · have hl : p.qs < s.Ls.length := by rw [h.len]; omega
    have hF : b ∉ (frontL s.Ls p.qs (victimQ p s)).getD i [] := by
      intro hx
      rcases (mem_front hl).1 hx with ⟨_, e⟩ | ⟨_, hm⟩
      · omega
      · exact hno i hi hm
    unfold evictQ
    split
    · intro hx
      exact hF (mem_out.1 hx).2
    · exact hF
  · exact hno i hi
end
theorem Chg.newq {S N : List Nat} {a b c : World} (h : Chg S a b) (k : Chg N b c) (hN : ∀ s ∈ N, a.heap.size ≤ s ∨ s ∈ S) : Chg S a c :=
  ⟨k.os.trans h.os, k.tape.trans h.tape, k.output.trans h.output, Nat.le_trans h.size k.size, fun i hi hn => (k.block i (Nat.lt_of_lt_of_le hi h.size) (fun hm => by
    rcases hN i hm with h1 | h1
    · omega
    · exact hn h1)).trans (h.block i hi hn)⟩
theorem firstQ_before (Ls : List (List Nat)) : ∀ (k q j : Nat), q ≤ j → j < firstQ k q Ls → Ls.getD j [] = []
  | 0, q, j, h1, h2 => by unfold firstQ at h2; omega
  | k + 1, q, j, h1, h2 => by
    unfold firstQ at h2
    by_cases e : Ls.getD q [] = []
    · rw [if_pos e] at h2
      by_cases e2 : j = q
      · subst e2; exact e
      · exact firstQ_before Ls k (q + 1) j (by omega) h2
    · rw [if_neg e] at h2; omega
theorem went_info12 : (Try.prog.info? 76).map (·.size) = some 3 := by kernel_rfl
theorem fillw {w : World} {p : Nat} {t : TypeId} {u0 u1 u2 : Value} (h : w.heap[p]? = some (.cells #[u0, u1, u2] t (0, 0))) (v0 v1 v2 : Value) :
    (((w.setCell ⟨p, 0, none⟩ v0).setCell ⟨p, 1, none⟩ v1).setCell ⟨p, 2, none⟩ v2).heap[p]? = some (.cells #[v0, v1, v2] t (0, 0)) := by
  have this := heap_set (o := 2) (heap_set (o := 1) (heap_set (o := 0) h v0) v1) v2
  simpa only [List.setIfInBounds_toArray, List.set_cons_zero, List.set_cons_succ] using this

set_option maxRecDepth 100000 in
set_option maxHeartbeats 4000000 in
theorem rqadd_out (pr : Nat) (b : Int) (hb : ¬ okB b) (w : World) : Calls Try.prog 45 #[.pointer (some ⟨pr, 0, none⟩), .int .i64 b] w fun e w' =>
    e = .returned (.agg #[.int .i64 0, .bool false, .int .i64 3]) ∧ Ext w w' := by
  have hb' : b < 0 ∨ 63 < b := by unfold okB at hb; omega
  clear hb
  rcases hb' with hb' | hb'
  · go_enter Try.func45, Try.ntmps45
    go_wp2_with fail
    refine bodyPost_ret (results_cell_row rfl _ _ w.heap.size _ _ _ _ rfl (heap_alloc_new w _) Try.underlying76 rfl went_info12) rfl ?_
    exact ⟨rfl, (Ext.refl w).alloc _⟩
  · have hb0 : ¬ b < 0 := by omega
    go_enter Try.func45, Try.ntmps45
    go_wp2_with fail
    refine bodyPost_ret (results_cell_row rfl _ _ w.heap.size _ _ _ _ rfl (heap_alloc_new w _) Try.underlying76 rfl went_info12) rfl ?_
    exact ⟨rfl, (Ext.refl w).alloc _⟩

section
variable (B : Nat → Prop) (pr bq bo be : Nat) (p : Shp) (s : Mq) (w : World) (h : RmqAt w B pr bq bo be p s)
include h
set_option maxRecDepth 100000 in
set_option maxHeartbeats 8000000 in
theorem rqadd (inq : Inq p s) (b64 : B64 s) (b : Nat) (hb : b < 64) (hn : s.now < 999999) (hf : ∀ b, s.of b < 255) : Calls Try.prog 45 #[.pointer (some ⟨pr, 0, none⟩), .int .i64 b] w fun e w' =>
    e = .returned (.agg #[.int .i64 (outQ p s b), .bool (goneQ p s b), .int .i64 0]) ∧ RmqAt w' B pr bq bo be p (addQ p s b) ∧ Chg [pr, bq, bo, be] w w' := by
  have HI := Lib.hid inq
  have H64 := Lib.hid b64
  have HN := Lib.hid hn
  have HF := Lib.hid hf
  have HALL := Lib.hid h.all
  have HTOP := Lib.hid h.top
  obtain ⟨hq, hhq⟩ : ∃ x, hasQ p s b = x := ⟨_, rfl⟩
  have HHQ := Lib.hid hhq
  have hbut := h.but (.cells #[.int .i64 0, .bool false, .int .i64 0] 76)
  have HBUT := Lib.hid hbut
  obtain ⟨V, hV⟩ : ∃ V, outQ p s b = V := ⟨_, rfl⟩
  obtain ⟨G, hG⟩ : ∃ G, goneQ p s b = G := ⟨_, rfl⟩
  obtain ⟨R, hR⟩ : ∃ R, addQ p s b = R := ⟨_, rfl⟩
  rw [hV, hG, hR]
  have HV := Lib.hid hV
  have HG := Lib.hid hG
  have HR := Lib.hid hR
  have hbi : (b : Int) < 64 := by omega
  have hb0 : ¬ (b : Int) < 0 := by omega
  have hb63 : ¬ (63 : Int) < (b : Int) := by omega
  clear hV hG hR hhq hbut h inq b64 hn hf
  go_enter Try.func45, Try.ntmps45
  go_wp2_with fail
  have hr4 : (w.alloc (.cells #[.int .i64 0, .bool false, .int .i64 0] 76)).heap[w.heap.size]? = some (.cells #[.int .i64 0, .bool false, .int .i64 0] 76 (0, 0)) := heap_alloc_new w _
  have hx0 : Ext w (w.alloc (.cells #[.int .i64 0, .bool false, .int .i64 0] 76)) := (Ext.refl w).alloc _
  generalize (w.alloc (.cells #[.int .i64 0, .bool false, .int .i64 0] 76)) = w0 at *
  obtain ⟨p4, hp4⟩ : ∃ x, x = w.heap.size := ⟨_, rfl⟩
  rw [← hp4] at hr4 HBUT ⊢
  have HP4 := Lib.hid hp4
  have hw4 : w.heap.size ≤ p4 := by omega
  clear hp4
  have HX0 := Lib.hid hx0
  have HR4 := Lib.hid hr4
  clear hx0 hr4
  refine (rquse _ pr bq bo be p s w0 HBUT.out HI.out H64.out b (by have := HN.out; omega) HF.out hq (by rw [Int.toNat_natCast, HHQ.out, decide_eq_true (show okB (b : Int) from ⟨by omega, by omega⟩)]; rfl)).mono ?_
  rintro e w1 ⟨rfl, hm1, hc1⟩
  have hn4 : p4 ∉ [pr, bq, bo, be] := fun hm => by have := HALL.out p4 hm; have := HP4.out; omega
  have HN4 := Lib.hid hn4
  have hr4 := (hc1.block p4 (by have := (Array.getElem?_eq_some_iff.1 HR4.out).1; exact this) hn4).trans HR4.out
  have hX1 : Chg [pr, bq, bo, be] w w1 := (Chg.of_ext HX0.out).trans hc1
  have HR41 := Lib.hid hr4
  have HX1 := Lib.hid hX1
  have HM1 := Lib.hid hm1
  clear hm1 hc1 hr4 hX1 hn4 HR4 HX0 HBUT
  cases hq
  · have hno : ∀ i, i < p.qs → b ∉ s.Ls.getD i [] := fun i hi hm => by
      have := (has_mem HI.out (b := b)).2 ⟨i, hi, hm⟩
      rw [HHQ.out] at this; cases this
    have HNO := Lib.hid hno
    have hm1 : RmqAt w1 (fun g => B g ∧ g ≠ p4) pr bq bo be p s := HM1.out
    have y7 := hm1.d7
    have f7 := hm1.f1 7
    have hset := hm1.setNow (s.now + 1)
    have ecast : ((s.now + 1 : Nat) : Int) = (s.now : Int) + 1 := by omega
    rw [ecast] at hset
    have HSET := Lib.hid hset
    have hn9 : (s.now : Int) ≤ 999999 := by have := HN.out; omega
    obtain ⟨nw, hnw⟩ : ∃ x, x = s.now := ⟨_, rfl⟩
    rw [← hnw] at y7 HSET hn9
    have HNW := Lib.hid hnw
    clear hm1 hset ecast hno hnw HM1
    go_upto_region 6 with fail
    have hm2 : RmqAt (w1.setCell ⟨pr, 7, none⟩ (.int .i64 ((nw : Int) + 1))) (fun g => B g ∧ g ≠ p4) pr bq bo be p (tickQ s) := by have := HSET.out; rw [HNW.out] at this ⊢; exact this
    have hr42 : (w1.setCell ⟨pr, 7, none⟩ (.int .i64 ((nw : Int) + 1))).heap[p4]? = some (.cells #[.int .i64 0, .bool false, .int .i64 0] 76 (0, 0)) := (Below.heap_setCell _ _ _ _ (by intro e; exact HN4.out (by simp [e]))).trans HR41.out
    have hX2 : Chg [pr, bq, bo, be] w (w1.setCell ⟨pr, 7, none⟩ (.int .i64 ((nw : Int) + 1))) := HX1.out.setCell (.inl (by simp)) _
    generalize (w1.setCell ⟨pr, 7, none⟩ (.int .i64 ((nw : Int) + 1))) = w2 at *
    have HM2 := Lib.hid hm2
    have HR42 := Lib.hid hr42
    have HX2 := Lib.hid hX2
    have hbut2 := hm2.but (.cells #[.int .i64 0, .bool false, .int .i64 0] 76)
    have HBUT2 := Lib.hid hbut2
    have hr5 : (w2.alloc (.cells #[.int .i64 0, .bool false, .int .i64 0] 76)).heap[w2.heap.size]? = some (.cells #[.int .i64 0, .bool false, .int .i64 0] 76 (0, 0)) := heap_alloc_new w2 _
    clear hm2 hr42 hX2 hbut2 y7 f7 HSET HR41 HX1
    go_wp2_with fail
    have hxb : Ext w2 (w2.alloc (.cells #[.int .i64 0, .bool false, .int .i64 0] 76)) := (Ext.refl w2).alloc _
    generalize (w2.alloc (.cells #[.int .i64 0, .bool false, .int .i64 0] 76)) = w3 at *
    obtain ⟨pw, hpw⟩ : ∃ x, x = w2.heap.size := ⟨_, rfl⟩
    rw [← hpw] at hr5 HBUT2 ⊢
    have hr43 := (Below.block hxb _ (Array.getElem?_eq_some_iff.1 HR42.out).1).trans HR42.out
    have h4w : p4 ≠ pw := by have := (Array.getElem?_eq_some_iff.1 HR42.out).1; omega
    have HX3 := Lib.hid (HX2.out.ext hxb)
    have HR43 := Lib.hid hr43
    have HR5 := Lib.hid hr5
    have hwpw : w.heap.size ≤ pw := by rw [hpw]; exact HX2.out.size
    clear hxb hr43 hr5 HR42 HX2 HM2 hpw
    have y0 := HBUT2.out.d0
    have hI2 := HI.out.tick
    have HI2 := Lib.hid hI2
    have hlen2 : lenQ p (tickQ s) = lenQ p s := rfl
    have HQL : Hid (∀ w', Ext w3 w' → Calls Try.prog 72 #[.pointer (some ⟨pr, 0, none⟩)] w' fun e w'' => e = .returned (.int .i64 (lenQ p s)) ∧ w' = w'') := Lib.hid (fun w' hx => rqlen _ pr bq bo be p (tickQ s) w' (HBUT2.out.ext hx) HI.out.ok.q2 (len64 HI2.out.good H64.out))
    have hls : ∀ k, sumQ s.Ls k ≤ 64 * k := by
      intro k
      induction k with
      | zero => simp [sumQ]
      | succ k ih => rw [sumQ]; have := len64 HI.out.good H64.out k; omega
    have hl9 : lenQ p s ≤ 512 := by have := hls p.qs; have := HI.out.ok.q2; unfold lenQ; omega
    obtain ⟨ln, hln⟩ : ∃ x, x = lenQ p s := ⟨_, rfl⟩
    rw [← hln] at HQL hl9
    have HLN := Lib.hid hln
    clear hI2 hlen2 hls hln
    obtain ⟨cp, hcp⟩ : ∃ x, x = p.cap := ⟨_, rfl⟩
    rw [← hcp] at y0
    have HCP := Lib.hid hcp
    obtain ⟨fl, hfl⟩ : ∃ x : Bool, decide (ln = cp) = x := ⟨_, rfl⟩
    have HFL := Lib.hid hfl
    have hflb : ((ln : Int) == (cp : Int)) = fl := by
      rw [← hfl, Bool.eq_iff_iff, beq_iff_eq, decide_eq_true_iff]; omega
    have hGf : goneQ p s b = fl := by
      unfold goneQ
      rw [HHQ.out, ← hfl, HLN.out, HCP.out]; rfl
    have HGF := Lib.hid hGf
    clear hfl hcp hGf
    go_upto_region 7 with fail
    go_quiet ((go_at_call 72; exact Calls.quiet_of_same (v := .int .i64 ln) ((HQL.out _ (by repeat' (first | (with_reducible exact Ext.refl _) | (with_reducible assumption) | (with_reducible refine Ext.alloc ?_ _) | (with_reducible refine Ext.drewN ?_ _) | (with_reducible refine Ext.drew ?_) | (with_reducible refine Ext.trans ?_ (by assumption))))).mono fun e w' h => ⟨h.1, h.2.symm⟩)))
    have hxq : Ext w3 (w3.drewN nq) := (Ext.refl _).drewN nq
    have HM5 := Lib.hid (HBUT2.out.ext hxq)
    have HR45 := Lib.hid ((Below.block hxq _ (Array.getElem?_eq_some_iff.1 HR43.out).1).trans HR43.out)
    have HR55 := Lib.hid ((Below.block hxq _ (Array.getElem?_eq_some_iff.1 HR5.out).1).trans HR5.out)
    have HX5 := Lib.hid (HX3.out.ext hxq)
    generalize w3.drewN nq = w5 at *
    clear hxq y0 HQL HBUT2 HR43 HR5 HX3 hflb
    go_upto_if 32 with fail
    go_cut [6] from 33 to 111 (fun s6 wx => Hid (RmqAt wx (fun g => (B g ∧ g ≠ p4) ∧ g ≠ pw) pr bq bo be p (roomQ p (tickQ s))) ∧ Hid (wx.heap[pw]? = some (.cells #[.int .i64 (outQ p s b), .bool (goneQ p s b), .int .i64 0] 76 (0, 0))) ∧ Hid (Chg [pr, bq, bo, be, pw] w5 wx))
    case first =>
      cases fl
      · have hro : roomQ p (tickQ s) = tickQ s := by
          unfold roomQ
          rw [if_neg]
          rw [← HCP.out, show lenQ p (tickQ s) = ln from HLN.out.symm]
          exact of_decide_eq_false HFL.out
        have HRO := Lib.hid hro
        clear hro
        go_wp2_with fail
        go_meet
        refine ⟨Lib.hid (by rw [HRO.out]; exact HM5.out), Lib.hid ?_, Lib.hid (Chg.refl _ _)⟩
        have e1 : outQ p s b = 0 := by unfold outQ; rw [HGF.out]; rfl
        rw [e1, HGF.out]
        exact HR55.out
      ·
        have hc1 := HI.out.ok.c1
        have hlc : lenQ p (tickQ s) = p.cap := by
          rw [← HCP.out, show lenQ p (tickQ s) = ln from HLN.out.symm]
          exact of_decide_eq_true HFL.out
        obtain ⟨hq0, hne⟩ := firstQ_ne (p := p) (s := tickQ s) (by omega)
        have hbf := firstQ_before (tickQ s).Ls p.qs 0
        have hvv : victimQ p (tickQ s) = lastU ((tickQ s).Ls.getD (firstQ p.qs 0 (tickQ s).Ls) []) := rfl
        have hou : outQ p s b = victimQ p (tickQ s) := by unfold outQ; rw [HGF.out]; rfl
        have hro : roomQ p (tickQ s) = evictQ p (tickQ s) := by unfold roomQ; rw [if_pos hlc]
        have hev : evictQ p (tickQ s) = if p.gh < ((frontL (tickQ s).Ls p.qs (victimQ p (tickQ s))).getD p.qs []).length then (tickQ s).inLs (outL (frontL (tickQ s).Ls p.qs (victimQ p (tickQ s))) (lastU ((frontL (tickQ s).Ls p.qs (victimQ p (tickQ s))).getD p.qs []))) else (tickQ s).inLs (frontL (tickQ s).Ls p.qs (victimQ p (tickQ s))) := rfl
        rw [hev] at hro
        have hvm := lastU_mem hne
        rw [← hvv] at hvm
        have hv64 := H64.out _ _ hvm
        obtain ⟨t, ht⟩ : ∃ t, t = tickQ s := ⟨_, rfl⟩
        have hIt : Inq p t := by rw [ht]; exact HI2.out
        have hBt : B64 t := by rw [ht]; exact H64.out
        have hMt : RmqAt w5 (fun g => (B g ∧ g ≠ p4) ∧ g ≠ pw) pr bq bo be p t := by rw [ht]; exact HM5.out
        rw [← ht] at hq0 hne hbf hvv hou hro hvm hv64
        have HTE := Lib.hid ht
        obtain ⟨q0, hq0e⟩ : ∃ x, x = firstQ p.qs 0 t.Ls := ⟨_, rfl⟩
        rw [← hq0e] at hq0 hne hbf hvv hvm
        obtain ⟨v, hve⟩ : ∃ x, x = victimQ p t := ⟨_, rfl⟩
        rw [← hve] at hvv hou hro hvm hv64
        have HT := Lib.hid hIt
        have HTB := Lib.hid hBt
        have HTM := Lib.hid hMt
        have HNE := Lib.hid hne
        have HBF := Lib.hid (fun j (hj : j < q0) => hbf j (Nat.zero_le _) hj)
        have HVV := Lib.hid hvv
        have HOU := Lib.hid hou
        have HRO := Lib.hid hro
        have HVM := Lib.hid hvm
        have HQ0 := Lib.hid hq0
        obtain ⟨n, hn⟩ : ∃ n, n = p.qs := ⟨_, rfl⟩
        have HNN := Lib.hid hn
        have hq8 := HI.out.ok.q2
        rw [← hn] at hq0 hq8
        obtain ⟨c3, z3⟩ := hMt.c3
        rw [← hn] at z3
        clear hc1 hlc hbf hev hIt hBt hMt hne hvv hou hro hvm hq0e hve ht hn HM5
        go_wp2_with fail
        go_loopw [6] (fun c6 wr => ∃ q : Nat, c6 = .int .i64 q ∧ q ≤ q0 ∧ w5 = wr) (fun c6 _ => q0 - (intOf c6).toNat)
        case atStart => exact ⟨0, rfl, Nat.zero_le _, rfl⟩
        case round =>
          obtain ⟨q, rfl, hqq, rfl⟩ := hrel
          have hqn : q < p.qs := by have := HQ0.out; omega
          obtain ⟨a, cc, hv, hrow⟩ := HTM.out.cell hqn
          have hqi : (q : Int) < (n : Int) := by omega
          by_cases hlt : q < q0
          · rw [HBF.out q hlt, List.length_nil] at hv
            clear hrow
            go_wp2_with fail
            go_roundw
            case rel => exact ⟨q + 1, by go_num, by omega, by first | rfl | trivial⟩
            case measure => simp [intOf]; omega
          · obtain rfl : q = q0 := by omega
            have hne := HNE.out
            have hlast := lastU_at hne
            rw [← HVV.out] at hlast
            obtain ⟨m, hm⟩ : ∃ m, (t.Ls.getD q []).length = m + 1 := ⟨(t.Ls.getD q []).length - 1, by have := List.length_pos_iff.2 hne; omega⟩
            have hl64 := len64 HT.out.good HTB.out q
            rw [hm] at hv hlast hl64
            rw [Nat.add_sub_cancel] at hlast
            obtain ⟨a', c', e', _, _, _, hcl⟩ := hrow.1.parts
            rw [asInts_len, hm] at e'
            cases e'
            obtain ⟨b5, o5, rfl, hb5, hcl⟩ := hcl (by intro e; have := congrArg List.length e; rw [asInts_len, hm] at this; simp at this)
            have hce := hcl m (by rw [asInts_len]; omega)
            rw [asInts_at (by omega), hlast] at hce
            have hv : w5.cell? ⟨bq, q, none⟩ = some (.slice (some ⟨b5, o5, none⟩) (m + 1) cc) := hv
            have HROW := Lib.hid hrow
            have HMM := Lib.hid hm
            have k0 := cell_of_row w5 pw 0 _ _ _ HR55.out
            have k1 := cell_of_row w5 pw 1 _ _ _ HR55.out
            have g0 := frozen_row HR55.out 0
            have g1 := frozen_row HR55.out 1
            simp only [List.getElem?_toArray, List.getElem?_cons_zero, List.getElem?_cons_succ] at k0 k1
            have hmb : ((m : Int) + 1 == 0) = false := by rw [beq_eq_false_iff_ne]; omega
            clear hcl hlast hne hrow hm hlt hqq
            have hmlt : (m : Int) < (m : Int) + 1 := by omega
            have hm0 : (0 : Int) ≤ (m : Int) := by omega
            have hwm1 : IntKind.i64.wrap ((m : Int) + 1 - 1) = (m : Int) := by rw [IntKind.wrap_i64]; omega
            have hwm : IntKind.i64.wrap (m : Int) = (m : Int) := by rw [IntKind.wrap_i64]; omega
            go_upto_region 11 with fail
            go_still_tail 19, (by kernel_rfl)
            change wpList _ _ _ _ _ w5.drew
            have hxd : Ext w5 w5.drew := (Ext.refl w5).drew
            have k0 := hxd.cellv k0
            have k1 := hxd.cellv k1
            have g0 : w5.drew.frozen? ⟨pw, 0, none⟩ = false := g0
            have g1 : w5.drew.frozen? ⟨pw, 1, none⟩ = false := g1
            have HM6 := Lib.hid (HTM.out.ext hxd)
            have HR56 := Lib.hid ((Below.block hxd _ (Array.getElem?_eq_some_iff.1 HR55.out).1).trans HR55.out)
            have hx56 : Ext w5 w5.drew := hxd
            generalize w5.drew = w6 at *
            have HX56 := Lib.hid hx56
            clear hxd hv hce z3 hx56 HR55
            go_upto_region 13 with fail
            have hr8 := heap_set (o := 1) (heap_set (o := 0) HR56.out (.int .i64 v)) (.bool true)
            have hch8 : Chg [pr, bq, bo, be, pw] w5 ((w6.setCell ⟨pw, 0, none⟩ (.int .i64 v)).setCell ⟨pw, 1, none⟩ (.bool true)) := ((Chg.of_ext HX56.out).setCell (.inl (by simp)) _).setCell (.inl (by simp)) _
            have hm8 : RmqAt ((w6.setCell ⟨pw, 0, none⟩ (.int .i64 v)).setCell ⟨pw, 1, none⟩ (.bool true)) (fun g => (B g ∧ g ≠ p4) ∧ g ≠ pw) pr bq bo be p t := HM6.out.chg (S := [pw]) (((Chg.refl _ _).setCell (.inl (by simp)) _).setCell (.inl (by simp)) _) (by intro x hx; simp at hx; subst hx; simp)
            generalize ((w6.setCell ⟨pw, 0, none⟩ (.int .i64 v)).setCell ⟨pw, 1, none⟩ (.bool true)) = w8 at *
            have HR8 := Lib.hid hr8
            have HCH8 := Lib.hid hch8
            have HM8 := Lib.hid hm8
            have k0 := cell_of_row w8 pw 0 _ _ _ hr8
            simp at k0
            obtain ⟨c3, z3⟩ := hm8.c3
            rw [← HNN.out] at z3
            obtain ⟨a, cc, hv, hrow⟩ := hm8.cell hqn
            have HROW8 := Lib.hid hrow
            obtain ⟨L, hL⟩ : ∃ L, L = t.Ls.getD q [] := ⟨_, rfl⟩
            have hll : L.length = m + 1 := by rw [hL]; exact HMM.out
            rw [← hL] at hv HROW8
            have HL := Lib.hid hL
            have HTOP8 := Lib.hid hm8.top
            have fz := hm8.f2 q
            obtain ⟨ll, hll2⟩ : ∃ x, x = L.length := ⟨_, rfl⟩
            have HLL := Lib.hid (hll2.trans hll)
            rw [← hll2] at hv HROW8
            have HLL2 := Lib.hid hll2
            clear hr8 hch8 hm8 hrow hL hll k1 g0 g1 HM6 HX56 HR56 hll2 HROW
            go_cut [] from 64 to 79 (fun wx => Hid (RmqAt wx (fun g => (B g ∧ g ≠ p4) ∧ g ≠ pw) pr bq bo be p (t.inLs (t.Ls.set q ((t.Ls.getD q []).filter (· ≠ v))))) ∧ Hid (wx.heap[pw]? = some (.cells #[.int .i64 v, .bool true, .int .i64 0] 76 (0, 0))) ∧ Hid (Chg [pr, bq, bo, be, pw] w5 wx))
            case first =>
              go_region_with ((go_at_call 67; refine (without_any _ (asInts L) v _ (HROW8.out.1.ext (by repeat' (first | (with_reducible exact Ext.refl _) | (with_reducible assumption) | (with_reducible refine Ext.alloc ?_ _) | (with_reducible refine Ext.drewN ?_ _) | (with_reducible refine Ext.drew ?_) | (with_reducible refine Ext.trans ?_ (by assumption))))) (fits_small (by rw [asInts_len, ← HLL2.out]; have := HLL.out; omega))).mono ?_; rintro e w9 ⟨v9, rfl, ho9, hx9⟩; obtain ⟨a5, c5, hv5, _, _, _, _⟩ := ho9.rd.parts; obtain ⟨n5, hn5⟩ : ∃ n5, v9 = .slice a5 n5 c5 := ⟨_, hv5⟩; clear hv5; subst hn5; have z0 := Ext.cellv (w := w8) (w' := w9) (by repeat' (first | (with_reducible exact Ext.refl _) | (with_reducible assumption) | (with_reducible refine Ext.alloc ?_ _) | (with_reducible refine Ext.drewN ?_ _) | (with_reducible refine Ext.drew ?_) | (with_reducible refine Ext.trans ?_ (by assumption)))) z3; have zv := Ext.cellv (w := w8) (w' := w9) (by repeat' (first | (with_reducible exact Ext.refl _) | (with_reducible assumption) | (with_reducible refine Ext.alloc ?_ _) | (with_reducible refine Ext.drewN ?_ _) | (with_reducible refine Ext.drew ?_) | (with_reducible refine Ext.trans ?_ (by assumption)))) hv; have zk := Ext.cellv (w := w8) (w' := w9) (by repeat' (first | (with_reducible exact Ext.refl _) | (with_reducible assumption) | (with_reducible refine Ext.alloc ?_ _) | (with_reducible refine Ext.drewN ?_ _) | (with_reducible refine Ext.drew ?_) | (with_reducible refine Ext.trans ?_ (by assumption)))) k0; have zf := (HM8.out.ext (w' := w9) (by repeat' (first | (with_reducible exact Ext.refl _) | (with_reducible assumption) | (with_reducible refine Ext.alloc ?_ _) | (with_reducible refine Ext.drewN ?_ _) | (with_reducible refine Ext.drew ?_) | (with_reducible refine Ext.trans ?_ (by assumption))))).f2 q))
              all_goals
                rw [wo_as] at ho9
                have hxw : Ext w8 w9 := (by repeat' (first | (with_reducible exact Ext.refl _) | (with_reducible assumption) | (with_reducible refine Ext.alloc ?_ _) | (with_reducible refine Ext.drewN ?_ _) | (with_reducible refine Ext.drew ?_) | (with_reducible refine Ext.trans ?_ (by assumption))))
                have hr5 := RowOk.fresh (B := fun g => (B g ∧ g ≠ p4) ∧ g ≠ pw) (S := [pr, bq, bo, be]) ho9 (fun g hg => HTOP8.out g (Nat.le_trans (Ext.size (w := w8) (by repeat' (first | (with_reducible exact Ext.refl _) | (with_reducible assumption) | (with_reducible refine Ext.alloc ?_ _) | (with_reducible refine Ext.drewN ?_ _) | (with_reducible refine Ext.drew ?_) | (with_reducible refine Ext.trans ?_ (by assumption))))) hg)) (fun x hx => Nat.lt_of_lt_of_le (HM8.out.all x hx) (Ext.size (w := w8) (by repeat' (first | (with_reducible exact Ext.refl _) | (with_reducible assumption) | (with_reducible refine Ext.alloc ?_ _) | (with_reducible refine Ext.drewN ?_ _) | (with_reducible refine Ext.drew ?_) | (with_reducible refine Ext.trans ?_ (by assumption))))))
                have hs9 := (HM8.out.ext hxw).setRow hqn hr5
                rw [HL.out] at hs9
                have hrw9 := (Below.heap_setCell w9 ⟨bq, q, none⟩ (.slice a5 n5 c5) pw (by obtain ⟨_, q2, _⟩ := HM8.out.low; exact fun e => q2.2 e.symm)).trans ((Below.block hxw _ (Array.getElem?_eq_some_iff.1 HR8.out).1).trans HR8.out)
                have hch9 := HCH8.out.trans (((Chg.of_ext hxw).setCell (.inl (by simp)) (p := ⟨bq, q, none⟩) (.slice a5 n5 c5)) : Chg [pr, bq, bo, be, pw] w8 _)
                have HS9 := Lib.hid hs9
                have HR9 := Lib.hid hrw9
                have HCH9 := Lib.hid hch9
                clear hr5 hs9 hrw9 hch9 z0 zv zk zf ho9
                go_wp2_with fail
                go_meet
                first | exact ⟨HS9, HR9, HCH9⟩ | exact ⟨Lib.hid (HS9.out.ext (by repeat' (first | (with_reducible exact Ext.refl _) | (with_reducible assumption) | (with_reducible refine Ext.alloc ?_ _) | (with_reducible refine Ext.drewN ?_ _) | (with_reducible refine Ext.drew ?_) | (with_reducible refine Ext.trans ?_ (by assumption))))), Lib.hid ((Below.block (show Ext _ _ from (by repeat' (first | (with_reducible exact Ext.refl _) | (with_reducible assumption) | (with_reducible refine Ext.alloc ?_ _) | (with_reducible refine Ext.drewN ?_ _) | (with_reducible refine Ext.drew ?_) | (with_reducible refine Ext.trans ?_ (by assumption))))) _ (Array.getElem?_eq_some_iff.1 HR9.out).1).trans HR9.out), Lib.hid (HCH9.out.ext (by repeat' (first | (with_reducible exact Ext.refl _) | (with_reducible assumption) | (with_reducible refine Ext.alloc ?_ _) | (with_reducible refine Ext.drewN ?_ _) | (with_reducible refine Ext.drew ?_) | (with_reducible refine Ext.trans ?_ (by assumption)))))⟩
            case rest =>
              clear HM8 HR8 HCH8 HTOP8 k0 z3 hv fz HROW8
              obtain ⟨HS10, HR10, HC10⟩ := hcut
              have k0 := cell_of_row wc pw 0 _ _ _ HR10.out
              simp at k0
              obtain ⟨ag, cg, yg, hrow⟩ := HS10.out.cg
              have eg : (t.inLs (t.Ls.set q ((t.Ls.getD q []).filter (· ≠ v)))).Ls.getD p.qs [] = t.Ls.getD p.qs [] := by
                show (t.Ls.set q _).getD p.qs [] = _
                rw [getD_set_nat _ _ _ _ (by rw [HT.out.len]; omega), if_neg (by omega)]
              rw [eg] at yg hrow
              have hgl := HT.out.gh
              have hg2 := HT.out.ok.g2
              obtain ⟨Gh, hGh⟩ : ∃ x, x = t.Ls.getD p.qs [] := ⟨_, rfl⟩
              rw [← hGh] at yg hrow hgl
              obtain ⟨gl, hgle⟩ : ∃ x, x = Gh.length := ⟨_, rfl⟩
              rw [← hgle] at yg hrow hgl
              have HROWG := Lib.hid hrow
              have HGH := Lib.hid hGh
              have HGL := Lib.hid hgle
              have HTOP10 := Lib.hid HS10.out.top
              have HFRO := evict_front HT.out HQ0.out HVM.out
              rw [← hGh] at HFRO
              have HFR := Lib.hid HFRO
              have fz4 := HS10.out.f1 4
              clear hrow eg hGh hgle HFRO
              go_wp2_with fail
              go_cut [] from 80 to 89 (fun wx => Hid (RmqAt wx (fun g => (B g ∧ g ≠ p4) ∧ g ≠ pw) pr bq bo be p (t.inLs (frontL t.Ls p.qs v))) ∧ Hid (wx.heap[pw]? = some (.cells #[.int .i64 v, .bool true, .int .i64 0] 76 (0, 0))) ∧ Hid (Chg [pr, bq, bo, be, pw] w5 wx))
              case first =>
                go_region_with ((go_at_call 68; refine (refahead_any _ (asInts Gh) v _ (HROWG.out.1.ext (by repeat' (first | (with_reducible exact Ext.refl _) | (with_reducible assumption) | (with_reducible refine Ext.alloc ?_ _) | (with_reducible refine Ext.drewN ?_ _) | (with_reducible refine Ext.drew ?_) | (with_reducible refine Ext.trans ?_ (by assumption))))) (fits_small (by rw [asInts_len, ← HGL.out]; omega))).mono ?_; rintro e w9 ⟨v9, rfl, ho9, hx9⟩; obtain ⟨a5, c5, hv5, _, _, _, _⟩ := ho9.rd.parts; obtain ⟨n5, hn5⟩ : ∃ n5, v9 = .slice a5 n5 c5 := ⟨_, hv5⟩; clear hv5; subst hn5; have zv := Ext.cellv (w := wc) (w' := w9) (by repeat' (first | (with_reducible exact Ext.refl _) | (with_reducible assumption) | (with_reducible refine Ext.alloc ?_ _) | (with_reducible refine Ext.drewN ?_ _) | (with_reducible refine Ext.drew ?_) | (with_reducible refine Ext.trans ?_ (by assumption)))) yg; have zk := Ext.cellv (w := wc) (w' := w9) (by repeat' (first | (with_reducible exact Ext.refl _) | (with_reducible assumption) | (with_reducible refine Ext.alloc ?_ _) | (with_reducible refine Ext.drewN ?_ _) | (with_reducible refine Ext.drew ?_) | (with_reducible refine Ext.trans ?_ (by assumption)))) k0; have zf := (HS10.out.ext (w' := w9) (by repeat' (first | (with_reducible exact Ext.refl _) | (with_reducible assumption) | (with_reducible refine Ext.alloc ?_ _) | (with_reducible refine Ext.drewN ?_ _) | (with_reducible refine Ext.drew ?_) | (with_reducible refine Ext.trans ?_ (by assumption))))).f1 4))
                all_goals
                  have hxw : Ext wc w9 := (by repeat' (first | (with_reducible exact Ext.refl _) | (with_reducible assumption) | (with_reducible refine Ext.alloc ?_ _) | (with_reducible refine Ext.drewN ?_ _) | (with_reducible refine Ext.drew ?_) | (with_reducible refine Ext.trans ?_ (by assumption))))
                  have hr5 : RowOk w9 (fun g => (B g ∧ g ≠ p4) ∧ g ≠ pw) [pr, bq, bo, be] (.slice a5 n5 c5) (v :: Gh) := RowOk.fresh ho9 (fun g hg => HTOP10.out g (Nat.le_trans (Ext.size (w := wc) (by repeat' (first | (with_reducible exact Ext.refl _) | (with_reducible assumption) | (with_reducible refine Ext.alloc ?_ _) | (with_reducible refine Ext.drewN ?_ _) | (with_reducible refine Ext.drew ?_) | (with_reducible refine Ext.trans ?_ (by assumption))))) hg)) (fun x hx => Nat.lt_of_lt_of_le (HS10.out.all x hx) (Ext.size (w := wc) (by repeat' (first | (with_reducible exact Ext.refl _) | (with_reducible assumption) | (with_reducible refine Ext.alloc ?_ _) | (with_reducible refine Ext.drewN ?_ _) | (with_reducible refine Ext.drew ?_) | (with_reducible refine Ext.trans ?_ (by assumption))))))
                  have hs9 := (HS10.out.ext hxw).setGh hr5
                  have hs9' : RmqAt (w9.setCell ⟨pr, 4, none⟩ (.slice a5 n5 c5)) (fun g => (B g ∧ g ≠ p4) ∧ g ≠ pw) pr bq bo be p (t.inLs (frontL t.Ls p.qs v)) := by rw [← HFR.out]; exact hs9
                  have hrw9 := (Below.heap_setCell w9 ⟨pr, 4, none⟩ (.slice a5 n5 c5) pw (by obtain ⟨q2, _⟩ := HS10.out.low; exact fun e => q2.2 e.symm)).trans ((Below.block hxw _ (Array.getElem?_eq_some_iff.1 HR10.out).1).trans HR10.out)
                  have hch9 := HC10.out.trans (((Chg.of_ext hxw).setCell (.inl (by simp)) (p := ⟨pr, 4, none⟩) (.slice a5 n5 c5)) : Chg [pr, bq, bo, be, pw] wc _)
                  have HS9 := Lib.hid hs9'
                  have HR9 := Lib.hid hrw9
                  have HCH9 := Lib.hid hch9
                  clear hr5 hs9 hs9' hrw9 hch9 zv zk zf ho9
                  go_wp2_with fail
                  go_meet
                  first | exact ⟨HS9, HR9, HCH9⟩ | exact ⟨Lib.hid (HS9.out.ext (by repeat' (first | (with_reducible exact Ext.refl _) | (with_reducible assumption) | (with_reducible refine Ext.alloc ?_ _) | (with_reducible refine Ext.drewN ?_ _) | (with_reducible refine Ext.drew ?_) | (with_reducible refine Ext.trans ?_ (by assumption))))), Lib.hid ((Below.block (show Ext _ _ from (by repeat' (first | (with_reducible exact Ext.refl _) | (with_reducible assumption) | (with_reducible refine Ext.alloc ?_ _) | (with_reducible refine Ext.drewN ?_ _) | (with_reducible refine Ext.drew ?_) | (with_reducible refine Ext.trans ?_ (by assumption))))) _ (Array.getElem?_eq_some_iff.1 HR9.out).1).trans HR9.out), Lib.hid (HCH9.out.ext (by repeat' (first | (with_reducible exact Ext.refl _) | (with_reducible assumption) | (with_reducible refine Ext.alloc ?_ _) | (with_reducible refine Ext.drewN ?_ _) | (with_reducible refine Ext.drew ?_) | (with_reducible refine Ext.trans ?_ (by assumption)))))⟩
              case rest =>
                clear HS10 HR10 HC10 k0 yg fz4 HTOP10 HROWG
                obtain ⟨HS11, HR11, HC11⟩ := hcut
                have hgF := HT.out.good.front (show p.qs < t.Ls.length by rw [HT.out.len]; omega) v
                obtain ⟨ag, cg, yg, hrow⟩ := HS11.out.cg
                have y2 := HS11.out.d2
                have eF : (t.inLs (frontL t.Ls p.qs v)).Ls.getD p.qs [] = (frontL t.Ls p.qs v).getD p.qs [] := rfl
                rw [eF] at yg hrow
                have hFl : ((frontL t.Ls p.qs v).getD p.qs []).length = gl + 1 := by
                  rw [getD_front (by rw [HT.out.len]; omega), if_pos rfl, List.length_cons, filter_id' (fun hm => by have := HT.out.good.one _ _ _ HVM.out hm; have := HQ0.out; omega), ← HGH.out, HGL.out]
                have hFlen : p.qs < (frontL t.Ls p.qs v).length := by rw [frontL_length, HT.out.len]; omega
                have hcut2 : gl = p.gh → (frontL t.Ls p.qs v).set p.qs (((frontL t.Ls p.qs v).getD p.qs []).take gl) = outL (frontL t.Ls p.qs v) (lastU ((frontL t.Ls p.qs v).getD p.qs [])) := fun _ => ghost_cut hgF hFlen hFl
                have hroom : roomQ p t = if p.gh < gl + 1 then t.inLs (outL (frontL t.Ls p.qs v) (lastU ((frontL t.Ls p.qs v).getD p.qs []))) else t.inLs (frontL t.Ls p.qs v) := by rw [← hFl]; exact HRO.out
                rw [hFl] at yg hrow
                have HCUT2 := Lib.hid hcut2
                have HROOM := Lib.hid hroom
                have HROWG := Lib.hid hrow
                have HFL2 := Lib.hid hFl
                have fz4 := HS11.out.f1 4
                obtain ⟨gh, hgh⟩ : ∃ x, x = p.gh := ⟨_, rfl⟩
                rw [← hgh] at y2 hgl hg2
                have HGHE := Lib.hid hgh
                have yg : wc.cell? ⟨pr, 4, none⟩ = some (.slice ag (gl + 1) cg) := yg
                clear hgF hrow eF hFl hFlen hcut2 hroom hgh
                by_cases hgt : gh < gl + 1
                · obtain rfl : gl = gh := by omega
                  have hgti : decide ((gl : Int) < (gl : Int) + 1) = true := decide_eq_true (by omega)
                  have hgti2 : (gl : Int) < (gl : Int) + 1 := by omega
                  go_wp2_with fail
                  go_quiet (fail)
                  have hxq : Ext wc (wc.drewN nq) := (Ext.refl _).drewN nq
                  have HS12 := Lib.hid (HS11.out.ext hxq)
                  have HR12 := Lib.hid ((Below.block hxq _ (Array.getElem?_eq_some_iff.1 HR11.out).1).trans HR11.out)
                  have HC12 := Lib.hid (HC11.out.ext hxq)
                  have yg := hxq.cellv yg
                  have y2 := hxq.cellv y2
                  have HROW12 := Lib.hid (HROWG.out.ext hxq)
                  have fz4 := HS12.out.f1 4
                  generalize wc.drewN nq = w12 at *
                  clear hxq HS11 HR11 HC11 HROWG
                  have hcg : (gl : Int) ≤ (cg : Int) := by obtain ⟨_, _, e, h, _⟩ := HROW12.out.1.parts; simp only [Value.slice.injEq] at e; obtain ⟨_, _, e3⟩ := e; rw [asInts_len] at h; have := HFL2.out; omega
                  have hg0 : (0 : Int) ≤ (gl : Int) := by omega
                  go_upto_region 16 with fail
                  go_still_tail 12, (by kernel_rfl)
                  change wpList _ _ _ _ _ w12.drew
                  have hxd : Ext w12 w12.drew := (Ext.refl _).drew
                  have HS13 := Lib.hid (HS12.out.ext hxd)
                  have HR13 := Lib.hid ((Below.block hxd _ (Array.getElem?_eq_some_iff.1 HR12.out).1).trans HR12.out)
                  have HC13 := Lib.hid (HC12.out.ext hxd)
                  have yg := hxd.cellv yg
                  have HROW13 := Lib.hid (HROW12.out.ext hxd)
                  have fz4 := HS13.out.f1 4
                  generalize w12.drew = w13 at *
                  clear hxd HS12 HR12 HC12 HROW12 y2
                  have hrd : RdI .i64 w13 (.slice ag (asInts ((frontL t.Ls p.qs v).getD p.qs [])).length cg) (asInts ((frontL t.Ls p.qs v).getD p.qs [])) := by rw [asInts_len, HFL2.out]; exact HROW13.out.1
                  have hrd2 := hrd.take gl (by rw [asInts_len, HFL2.out]; omega)
                  have emap : (asInts ((frontL t.Ls p.qs v).getD p.qs [])).take gl = asInts (((frontL t.Ls p.qs v).getD p.qs []).take gl) := by unfold asInts; rw [List.map_take]
                  rw [emap] at hrd2
                  have hrow2 : RowOk w13 (fun g => (B g ∧ g ≠ p4) ∧ g ≠ pw) [pr, bq, bo, be] (.slice ag gl cg) (((frontL t.Ls p.qs v).getD p.qs []).take gl) := ⟨hrd2, fun g hg => by
                    cases ag with
                    | none => cases hg
                    | some a => exact HROW13.out.2 g hg⟩
                  have hset := HS13.out.setGh hrow2
                  have hroo : roomQ p t = t.inLs ((frontL t.Ls p.qs v).set p.qs (((frontL t.Ls p.qs v).getD p.qs []).take gl)) := by
                    rw [HROOM.out, if_pos (by rw [← HGHE.out]; omega), HCUT2.out HGHE.out]
                  have hfin : RmqAt (w13.setCell ⟨pr, 4, none⟩ (.slice ag gl cg)) (fun g => (B g ∧ g ≠ p4) ∧ g ≠ pw) pr bq bo be p (roomQ p t) := by rw [hroo]; exact hset
                  have hrw := (Below.heap_setCell w13 ⟨pr, 4, none⟩ (.slice ag gl cg) pw (by obtain ⟨q2, _⟩ := HS13.out.low; exact fun e => q2.2 e.symm)).trans HR13.out
                  have HFI := Lib.hid hfin
                  have HRW := Lib.hid hrw
                  have HCW := Lib.hid (HC13.out.setCell (.inl (by simp)) (p := ⟨pr, 4, none⟩) (.slice ag gl cg))
                  clear hrd hrd2 emap hrow2 hset hroo hfin hrw HROW13
                  go_wp2_with fail
                  go_meet
                  exact ⟨by rw [← HTE.out]; exact HFI, by rw [HOU.out, HGF.out]; exact HRW, HCW⟩
                · have hgti : decide ((gh : Int) < (gl : Int) + 1) = false := decide_eq_false (by omega)
                  have hgti2 : ¬ (gh : Int) < (gl : Int) + 1 := by omega
                  have hre : roomQ p t = t.inLs (frontL t.Ls p.qs v) := by rw [HROOM.out, if_neg (by rw [← HGHE.out]; exact hgt)]
                  have HRE := Lib.hid hre
                  clear hre
                  go_wp2_with fail
                  go_quiet (fail)
                  go_wp2_with fail
                  go_meet
                  have hxq : Ext wc (wc.drewN nq) := (Ext.refl _).drewN nq
                  refine ⟨Lib.hid (by rw [← HTE.out, HRE.out]; exact HS11.out.ext hxq), Lib.hid ?_, Lib.hid (HC11.out.ext hxq)⟩
                  rw [HOU.out, HGF.out]
                  exact (Below.block hxq _ (Array.getElem?_eq_some_iff.1 HR11.out).1).trans HR11.out
    case rest =>
      obtain ⟨HMC, HRWC, HCC⟩ := hcut
      have hkeep := room_keeps p (tickQ s)
      have hIx := HI2.out.room.1
      have hBx : B64 (roomQ p (tickQ s)) := room_b64 HI2.out H64.out
      have hNx := room_no HI2.out (b := b) HNO.out
      have HIF := Lib.hid (hIx.fresh b)
      have HBF : Hid (B64 (freshQ (roomQ p (tickQ s)) b)) := Lib.hid (by unfold freshQ; split <;> exact hBx)
      have HNF : Hid ((freshQ (roomQ p (tickQ s)) b).now ≤ 1000000) := Lib.hid (by
        have e : (freshQ (roomQ p (tickQ s)) b).now = (roomQ p (tickQ s)).now := by unfold freshQ; split <;> rfl
        rw [e, hkeep.1]
        have := HN.out
        show s.now + 1 ≤ _
        omega)
      have HOF : Hid ((freshQ (roomQ p (tickQ s)) b).of b < 255) := Lib.hid (by
        unfold freshQ
        split
        · show updN (roomQ p (tickQ s)).of b 0 b < 255
          unfold updN; simp
        · rw [hkeep.2]; exact HF.out b)
      have hfin : ageQ p (p.qs - 1) 1 (placeQ p (oftenQ (freshQ (roomQ p (tickQ s)) b) b) b) = R := by
        rw [← HR.out]; unfold addQ; rw [HHQ.out]; rfl
      have HFIN := Lib.hid hfin
      have hgi := ofL_ghost hIx hNx
      obtain ⟨a, cc, yg, hrow⟩ := HMC.out.cg
      have y5 := HMC.out.d5
      have yo := HMC.out.cof hb
      have fo := HMC.out.f3 b
      obtain ⟨o, ho⟩ : ∃ o, o = (roomQ p (tickQ s)).of b := ⟨_, rfl⟩
      rw [← ho] at yo
      obtain ⟨g, hg⟩ : ∃ g, decide ((b : Int) ∈ asInts ((roomQ p (tickQ s)).Ls.getD p.qs [])) = g := ⟨_, rfl⟩
      have HGH := Lib.hid (rqghas _ pr bq bo be p (roomQ p (tickQ s)) wc b g hg _ hrow)
      have hfr : freshQ (roomQ p (tickQ s)) b = if g then roomQ p (tickQ s) else { roomQ p (tickQ s) with of := updN (roomQ p (tickQ s)).of b 0 } := by
        unfold freshQ
        cases g
        · rw [if_pos (hgi.2 (fun hm => of_decide_eq_false hg (mem_as'.2 ⟨by omega, by simpa using hm⟩)))]; rfl
        · rw [if_neg (fun hno => hgi.1 hno (by have := (mem_as'.1 (of_decide_eq_true hg)).2; simpa using this))]; rfl
      have HFR := Lib.hid hfr
      obtain ⟨m, hm⟩ : ∃ m, m = ((roomQ p (tickQ s)).Ls.getD p.qs []).length := ⟨_, rfl⟩
      rw [← hm] at yg HGH
      have hpwn : pw ∉ [pr, bq, bo, be] := by
        obtain ⟨q1, q2, q3, q4⟩ := HMC.out.low
        have := q1.2; have := q2.2; have := q3.2; have := q4.2
        simp; omega
      have hp4n : p4 ∉ [pr, bq, bo, be, pw] := by
        obtain ⟨q1, q2, q3, q4⟩ := HMC.out.low
        have := q1.1.2; have := q2.1.2; have := q3.1.2; have := q4.1.2
        simp; omega
      have NPW := Lib.hid hpwn
      have NP4 := Lib.hid hp4n
      have hr4c := (HCC.out.block p4 (Array.getElem?_eq_some_iff.1 HR45.out).1 hp4n).trans HR45.out
      have HR4C := Lib.hid hr4c
      have hXc : Chg [pr, bq, bo, be] w wc := Chg.newq HX5.out HCC.out (by intro x hx; simp at hx; rcases hx with rfl | rfl | rfl | rfl | rfl <;> first | exact .inl hwpw | exact .inr (by simp))
      have HXC := Lib.hid hXc
      clear hkeep hIx hBx hNx hfin hgi hrow hg hfr hm hpwn hp4n hr4c hXc ho HR45 HR55 HX5 HM5 HCC
      go_wp2_with fail
      refine HGH.out.mono ?_
      rintro e w6 ⟨rfl, hx6⟩
      have y5 := hx6.cellv y5
      have yo := hx6.cellv yo
      have fo := (HMC.out.ext hx6).f3 b
      cases g
      · have hset := (HMC.out.ext hx6).setOf hb 0
        have HM7 : Hid (RmqAt (w6.setCell ⟨bo, b, none⟩ (.int .i64 0)) (fun g => (B g ∧ g ≠ p4) ∧ g ≠ pw) pr bq bo be p (freshQ (roomQ p (tickQ s)) b)) := Lib.hid (by rw [HFR.out]; exact hset)
        have HC7 : Hid (Chg [pr, bq, bo, be] wc (w6.setCell ⟨bo, b, none⟩ (.int .i64 0))) := Lib.hid ((Chg.of_ext hx6).setCell (.inl (by simp)) _)
        clear hset
        go_upto_region 19 with fail
        generalize (w6.setCell ⟨bo, b, none⟩ (.int .i64 0)) = w7 at *
        clear yg y5 yo fo hx6
        go_wp2_with fail
        refine (rqused _ pr bq bo be p (freshQ (roomQ p (tickQ s)) b) _ HM7.out HIF.out HBF.out b hb HNF.out HOF.out).mono ?_
        rintro e w9 ⟨rfl, hm9, hc9⟩
        rw [HFIN.out] at hm9
        have HC9 := Lib.hid (HC7.out.trans hc9)
        have hpw9 := (HC9.out.block pw (Array.getElem?_eq_some_iff.1 HRWC.out).1 NPW.out).trans HRWC.out
        have hp49 := (HC9.out.block p4 (Array.getElem?_eq_some_iff.1 HR4C.out).1 (fun hm => NP4.out (by simp at hm ⊢; omega))).trans HR4C.out
        rw [HV.out, HG.out] at hpw9
        have HM9 := Lib.hid hm9
        have HP49 := Lib.hid hp49
        have c0 := cell_of_row w9 pw 0 _ _ _ hpw9
        have c1 := cell_of_row w9 pw 1 _ _ _ hpw9
        have c2 := cell_of_row w9 pw 2 _ _ _ hpw9
        have d0 := cell_of_row w9 p4 0 _ _ _ hp49
        have d1 := cell_of_row w9 p4 1 _ _ _ hp49
        have d2 := cell_of_row w9 p4 2 _ _ _ hp49
        have f0 := frozen_row hp49 0
        have f1 := frozen_row hp49 1
        have f2 := frozen_row hp49 2
        simp only [List.getElem?_toArray, List.getElem?_cons_zero, List.getElem?_cons_succ] at c0 c1 c2 d0 d1 d2
        have HX9 := Lib.hid (HXC.out.trans HC9.out)
        clear hm9 hc9 hpw9 hp49 HM7 HC7 HC9 HMC HGH
        go_wp2_with fail
        have hlast := fillw HP49.out (.int .i64 V) (.bool G) (.int .i64 0)
        have hch4 : Chg [p4] w9 (((w9.setCell ⟨p4, 0, none⟩ (.int .i64 V)).setCell ⟨p4, 1, none⟩ (.bool G)).setCell ⟨p4, 2, none⟩ (.int .i64 0)) := (((Chg.refl _ _).setCell (.inl (by simp)) _).setCell (.inl (by simp)) _).setCell (.inl (by simp)) _
        refine bodyPost_ret (results_cell_row rfl _ _ p4 _ _ _ _ rfl hlast Try.underlying76 rfl went_info12) rfl ?_
        refine ⟨rfl, ?_, Chg.newq HX9.out hch4 (by intro x hx; simp at hx; subst hx; exact .inl hw4)⟩
        refine (HM9.out.chg hch4 (by intro x hx; simp at hx; subst hx; simp)).mono (fun g _ hb => hb.1.1) (fun g hg => HTOP.out g (Nat.le_trans (Nat.le_trans HX9.out.size hch4.size) hg))
      · have HM7 : Hid (RmqAt w6 (fun g => (B g ∧ g ≠ p4) ∧ g ≠ pw) pr bq bo be p (freshQ (roomQ p (tickQ s)) b)) := Lib.hid (by rw [HFR.out]; exact HMC.out.ext hx6)
        have HC7 : Hid (Chg [pr, bq, bo, be] wc w6) := Lib.hid (Chg.of_ext hx6)
        clear yg y5 yo fo hx6
        go_wp2_with fail
        refine (rqused _ pr bq bo be p (freshQ (roomQ p (tickQ s)) b) _ HM7.out HIF.out HBF.out b hb HNF.out HOF.out).mono ?_
        rintro e w9 ⟨rfl, hm9, hc9⟩
        rw [HFIN.out] at hm9
        have HC9 := Lib.hid (HC7.out.trans hc9)
        have hpw9 := (HC9.out.block pw (Array.getElem?_eq_some_iff.1 HRWC.out).1 NPW.out).trans HRWC.out
        have hp49 := (HC9.out.block p4 (Array.getElem?_eq_some_iff.1 HR4C.out).1 (fun hm => NP4.out (by simp at hm ⊢; omega))).trans HR4C.out
        rw [HV.out, HG.out] at hpw9
        have HM9 := Lib.hid hm9
        have HP49 := Lib.hid hp49
        have c0 := cell_of_row w9 pw 0 _ _ _ hpw9
        have c1 := cell_of_row w9 pw 1 _ _ _ hpw9
        have c2 := cell_of_row w9 pw 2 _ _ _ hpw9
        have d0 := cell_of_row w9 p4 0 _ _ _ hp49
        have d1 := cell_of_row w9 p4 1 _ _ _ hp49
        have d2 := cell_of_row w9 p4 2 _ _ _ hp49
        have f0 := frozen_row hp49 0
        have f1 := frozen_row hp49 1
        have f2 := frozen_row hp49 2
        simp only [List.getElem?_toArray, List.getElem?_cons_zero, List.getElem?_cons_succ] at c0 c1 c2 d0 d1 d2
        have HX9 := Lib.hid (HXC.out.trans HC9.out)
        clear hm9 hc9 hpw9 hp49 HM7 HC7 HC9 HMC HGH
        go_wp2_with fail
        have hlast := fillw HP49.out (.int .i64 V) (.bool G) (.int .i64 0)
        have hch4 : Chg [p4] w9 (((w9.setCell ⟨p4, 0, none⟩ (.int .i64 V)).setCell ⟨p4, 1, none⟩ (.bool G)).setCell ⟨p4, 2, none⟩ (.int .i64 0)) := (((Chg.refl _ _).setCell (.inl (by simp)) _).setCell (.inl (by simp)) _).setCell (.inl (by simp)) _
        refine bodyPost_ret (results_cell_row rfl _ _ p4 _ _ _ _ rfl hlast Try.underlying76 rfl went_info12) rfl ?_
        refine ⟨rfl, ?_, Chg.newq HX9.out hch4 (by intro x hx; simp at hx; subst hx; exact .inl hw4)⟩
        refine (HM9.out.chg hch4 (by intro x hx; simp at hx; subst hx; simp)).mono (fun g _ hb => hb.1.1) (fun g hg => HTOP.out g (Nat.le_trans (Nat.le_trans HX9.out.size hch4.size) hg))
  ·
    have hus : useQ p s b = R := by rw [← HR.out]; unfold addQ; rw [HHQ.out]; rfl
    have hVV : V = 0 := by rw [← HV.out]; unfold outQ goneQ; rw [HHQ.out]; rfl
    have hGG : G = false := by rw [← HG.out]; unfold goneQ; rw [HHQ.out]; rfl
    have hm1 : RmqAt w1 (fun g => B g ∧ g ≠ p4) pr bq bo be p R := by have := HM1.out; rw [if_pos rfl, Int.toNat_natCast, hus] at this; exact this
    subst hVV
    subst hGG
    have d0 := cell_of_row w1 p4 0 _ _ _ HR41.out
    have d1 := cell_of_row w1 p4 1 _ _ _ HR41.out
    have d2 := cell_of_row w1 p4 2 _ _ _ HR41.out
    have f0 := frozen_row HR41.out 0
    have f1 := frozen_row HR41.out 1
    have f2 := frozen_row HR41.out 2
    simp only [List.getElem?_toArray, List.getElem?_cons_zero, List.getElem?_cons_succ] at d0 d1 d2
    have HM9 := Lib.hid hm1
    clear hus hm1 HM1
    go_wp2_with fail
    have hlast := fillw HR41.out (.int .i64 0) (.bool false) (.int .i64 0)
    have hch4 : Chg [p4] w1 (((w1.setCell ⟨p4, 0, none⟩ (.int .i64 0)).setCell ⟨p4, 1, none⟩ (.bool false)).setCell ⟨p4, 2, none⟩ (.int .i64 0)) := (((Chg.refl _ _).setCell (.inl (by simp)) _).setCell (.inl (by simp)) _).setCell (.inl (by simp)) _
    refine bodyPost_ret (results_cell_row rfl _ _ p4 _ _ _ _ rfl hlast Try.underlying76 rfl went_info12) rfl ?_
    refine ⟨rfl, ?_, Chg.newq HX1.out hch4 (by intro x hx; simp at hx; subst hx; exact .inl hw4)⟩
    refine (HM9.out.chg hch4 (by intro x hx; simp at hx; subst hx; simp)).mono (fun g _ hb => hb.1) (fun g hg => HTOP.out g (Nat.le_trans (Nat.le_trans HX1.out.size hch4.size) hg))
end
end Go.Proofs.Ytibcfmnkpemieaa
