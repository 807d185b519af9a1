/-
  karma.allocate of right hints. No condition but that the hints read.
-/
import Derived.Test.YtpmfadepinmmjaaKAl
namespace Go.Proofs.Ytpmfadepinmmjaa
open Go.RowKit

theorem frac_zero : (Try.prog.info? 105).map (fun i => (i.zero, i.size, i.bytes)) = some (some (.agg #[.int .i64 0, .int .i64 0]), 2, 16) := by kernel_rfl
theorem part_zero : (Try.prog.info? 77).map (fun i => (i.zero, i.size, i.bytes)) = some (some (.agg #[.int .i64 0, .int .i64 0, .int .i64 0, .int .i64 0]), 4, 32) := by kernel_rfl
theorem made4_at {n j : Nat} (hj : j < n * 4) : (madeCells (Value.agg #[.int .i64 0, .int .i64 0, .int .i64 0, .int .i64 0]).cells (n * 4)).toList[j]? = some (.int .i64 0) := by
  simp only [madeCells, Array.toList_map, Array.toList_range, List.getElem?_map, List.getElem?_range hj, Option.map_some]
  have : j % 4 < 4 := Nat.mod_lt _ (by decide)
  have h4 : j % 4 = 0 ∨ j % 4 = 1 ∨ j % 4 = 2 ∨ j % 4 = 3 := by omega
  show some ((#[Value.int .i64 0, .int .i64 0, .int .i64 0, .int .i64 0] : Array Value)[j % 4]!) = _
  rcases h4 with h | h | h | h <;> rw [h] <;> rfl
theorem irow_own {w : World} {base n g : Nat} {e : TypeId} (h : w.ownsRow base e 4 (.slice (some ⟨g, 0, none⟩) n n) n (madeCells (Value.agg #[.int .i64 0, .int .i64 0, .int .i64 0, .int .i64 0]).cells (n * 4)).toList) :
    IRow w g (n * 4) (fun _ => 0) := by
  obtain ⟨_, h2⟩ := h
  rcases h2 with ⟨h, _⟩ | ⟨g', cap, cur, hv, hb', hg, _, _, _, ht⟩
  · cases h
  · cases hv
    refine ⟨cur, e, hg, fun j hj => ?_⟩
    have := made4_at hj
    rw [← ht, List.getElem?_take, if_pos hj] at this
    simpa using this

set_option maxRecDepth 100000 in
set_option maxHeartbeats 8000000 in
theorem kalloc (v : Value) (n : Nat) (F : Nat → Nat → Int) (L : Nat → Bool) (c : Nat → Nat) (w : World) (h : RdH w v n F L) (ok : FrOk n F) (hn : n ≤ 8) (hc : ∀ t, c t ≤ 16) :
    Calls Try.prog 44 #[v, .agg #[.int .i64 (c 0), .int .i64 (c 1), .int .i64 (c 2)]] w fun e w' => ∃ g M, e = .returned (.slice (some ⟨g, 0, none⟩) n n) ∧ Ord (kT n F) (kB n F) n M ∧ IRow w' g (n * 4) (fun j => ((stK (kS F) c M).2 (j / 4) (j % 4) : Nat)) ∧ w.heap.size ≤ g ∧ Ext w w' := by
  have HOK := Lib.hid ok
  have HC := Lib.hid hc
  have H := Lib.hid h
  obtain ⟨i0, hi, hz0, hz1, hz2⟩ := info_parts frac_zero
  obtain ⟨j0, hj, hy0, hy1, hy2⟩ := info_parts part_zero
  obtain ⟨sa, sc, rfl, hsc, hsm, _, hs⟩ := h
  have HS := Lib.hid hs
  have hn63 : (n : Int) ≤ 8 := by omega
  clear ok hc hs hsc hsm
  go_enter Try.func44, Try.ntmps44
  go_upto_region 1 with fail
  have hp3 : IRow (w.alloc (.cells #[.int .i64 (c 0), .int .i64 (c 1), .int .i64 (c 2)] 23)) w.heap.size 3 (fun t => (c t : Nat)) := ⟨_, _, heap_alloc_new w _, fun j hj => by
    have : j = 0 ∨ j = 1 ∨ j = 2 := by omega
    rcases this with rfl | rfl | rfl <;> rfl⟩
  have hx0 : Ext w (w.alloc (.cells #[.int .i64 (c 0), .int .i64 (c 1), .int .i64 (c 2)] 23)) := (Ext.refl w).alloc _
  generalize (w.alloc (.cells #[.int .i64 (c 0), .int .i64 (c 1), .int .i64 (c 2)] 23)) = w0 at *
  obtain ⟨p3, hp⟩ : ∃ p, p = w.heap.size := ⟨_, rfl⟩
  rw [← hp] at hp3 ⊢
  have hwp : w.heap.size ≤ p3 := by omega
  clear hp
  go_wp2_with fail
  go_loopw [5, 18] (fun cv ci wr => ∃ k : Nat, k ≤ n ∧ ci = .int .i64 k ∧ Hid (wr.ownsRow w0.heap.size 105 2 cv k (fcl (kT n F) (kB n F) k)) ∧ Ext w0 wr) (fun _ ci _ => n - (intOf ci).toNat)
  case atStart => exact ⟨0, Nat.zero_le _, rfl, Lib.hid (World.ownsRow_nil _ _ _ _), Ext.refl _⟩
  case round =>
    obtain ⟨k, hk, rfl, HO, hx⟩ := hrel
    by_cases hlt : k < n
    · obtain ⟨b, o, rfl, hb, hcl⟩ := HS.out (by omega)
      have hxw := hx0.trans hx
      have y0 := (hxw.cell hb).trans (hcl k 0 hlt (by omega))
      have y1 := (hxw.cell hb).trans (hcl k 1 hlt (by omega))
      have y2 := (hxw.cell hb).trans (hcl k 2 hlt (by omega))
      have y3 := (hxw.cell hb).trans (hcl k 3 hlt (by omega))
      simp only [Proofs.Ytpmfadepinmmjaa.HV, ← Nat.add_assoc, Nat.add_zero, if_pos (show (0 : Nat) < 3 by omega), if_pos (show (1 : Nat) < 3 by omega), if_pos (show (2 : Nat) < 3 by omega), if_neg (show ¬ (3 : Nat) < 3 by omega)] at y0 y1 y2 y3
      have hki : (k : Int) < (n : Int) := by omega
      have hfc : fcl (kT n F) (kB n F) (k + 1) = fcl (kT n F) (kB n F) k ++ [.int .i64 (F k 2), .int .i64 (F k 1)] := by
        rw [fcl]; unfold kT kB; rw [if_pos hlt, if_pos hlt]
      have HFC := Lib.hid hfc
      obtain ⟨x0, hx0'⟩ : ∃ x, F k 0 = x := ⟨_, rfl⟩
      obtain ⟨x1, hx1'⟩ : ∃ x, F k 1 = x := ⟨_, rfl⟩
      obtain ⟨x2, hx2'⟩ : ∃ x, F k 2 = x := ⟨_, rfl⟩
      obtain ⟨lp, hlp⟩ : ∃ x, L k = x := ⟨_, rfl⟩
      rw [hx0'] at y0
      rw [hx1'] at y1 HFC
      rw [hx2'] at y2 HFC
      rw [hlp] at y3
      have hRd : Rd ((wr.alloc (.cells #[.int .i64 x0, .int .i64 x1, .int .i64 x2, .bool lp] 58)).alloc (.cells #[.int .i64 x2, .int .i64 x1] 105)) 2 (.slice (some ⟨wr.heap.size + 1, 0, none⟩) 1 1) 1 [.int .i64 x2, .int .i64 x1] := by
        have := Rd.two (wr.alloc (.cells #[.int .i64 x0, .int .i64 x1, .int .i64 x2, .bool lp] 58)) (.int .i64 x2) (.int .i64 x1) 105
        simpa using this
      clear hcl hfc hx0' hx1' hx2' hlp
      go_wp2_with (at_builtin; refine wpList_append_rd rfl _ _ 103 rfl w0.heap.size 105 i0 (.agg #[.int .i64 0, .int .i64 0]) 2 16 Try.underlying103 hi hz0 hz1 hz2 rfl (by decide) _ k _ rfl (own_ext HO.out (by repeat' (first | (with_reducible exact Ext.refl _) | (with_reducible assumption) | (with_reducible refine Ext.alloc ?_ _) | (with_reducible refine Ext.drewN ?_ _) | (with_reducible refine Ext.drew ?_) | (with_reducible refine Ext.trans ?_ (by assumption))))) _ 1 [.int .i64 x2, .int .i64 x1] rfl hRd (by simp [Value.oneCell']) (by unfold maxLen; omega) (by omega) (Ext.size (w := w0) (by repeat' (first | (with_reducible exact Ext.refl _) | (with_reducible assumption) | (with_reducible refine Ext.alloc ?_ _) | (with_reducible refine Ext.drewN ?_ _) | (with_reducible refine Ext.drew ?_) | (with_reducible refine Ext.trans ?_ (by assumption))))) ?_)
      intro v' w' ho' hg'
      have hxw' : Ext w0 w' := Below.grown (Ext.alloc (Ext.alloc hx _) _) hg' (Ext.size (Ext.alloc (Ext.alloc hx _) _)) (fun g hg => (HO.out.lt g hg).1)
      rw [← HFC.out] at ho'
      have HO' := Lib.hid ho'
      clear ho' hg'
      go_wp2_with fail
      go_roundw
      case rel => exact ⟨k + 1, by omega, by go_num, HO', hxw'⟩
      case measure => simp [intOf]; omega
    · obtain rfl : k = n := by omega
      have HRF := Lib.hid (rdf_of_own HO.out)
      obtain ⟨af, cf, e5, _⟩ := HRF.out
      subst e5
      have hxw := hx0.trans hx
      go_wp2_with fail
      refine (korder _ k (kT k F) (kB k F) _ HRF.out (k_right HOK.out) (kB_pos HOK.out) (by omega)).mono ?_
      rintro e w2 ⟨v2, M, rfl, hM, hr2, hown2, hx2⟩
      have hX2 := hxw.trans hx2
      have hp3wr := (hp3.ext hx).lt
      have hp32 := hp3.ext (hx.trans hx2)
      obtain ⟨a2, c2, e2, _, _, _, hs2⟩ := hr2.parts
      rw [plz_len, hM.len] at e2 hs2
      subst e2
      have HM := Lib.hid hM
      have HOWN2 := Lib.hid hown2
      clear hown2
      have HS2 := Lib.hid hs2
      have HP32 := Lib.hid hp32
      clear hM hr2 hs2 hp32 HO HRF hxw hx hx2
      go_wp2_with (at_make; refine wpList_make_full _ rfl _ _ 59 rfl w2.heap.size 77 j0 (.agg #[.int .i64 0, .int .i64 0, .int .i64 0, .int .i64 0]) 4 Try.underlying59 hj hy0 hy1 .i64 .i64 _ _ k rfl rfl rfl rfl (by rw [hy2]; omega) (by unfold maxLen; omega) (Nat.le_refl _) ?_)
      intro w3 ho3 hg3
      have hx3 : Ext w2 w3 := (Ext.refl _).grown hg3 (Nat.le_refl _) (fun k hk => by cases hk)
      have hR3 := irow_own ho3
      obtain ⟨g, hg⟩ : ∃ g, g = w2.heap.size := ⟨_, rfl⟩
      rw [← hg] at hR3 ⊢
      have hwg : w.heap.size ≤ g := by rw [hg]; exact hX2.size
      have hgp : p3 < g := by rw [hg]; exact HP32.out.lt
      have HR3 := Lib.hid hR3
      have HP3 := Lib.hid (HP32.out.ext hx3)
      have hX3 := hX2.trans hx3
      have HSM : Hid (∀ j, j < k → ∃ b o, a2 = some ⟨b, o, none⟩ ∧ b < g ∧ p3 < b ∧ w3.cell? ⟨b, o + j, none⟩ = some (.int .i64 (M.getD j 0 : Nat))) := Lib.hid (fun j hj => by
        obtain ⟨b, o, e, hb, hc⟩ := HS2.out (by intro e; have := HM.out.len; have h9 := congrArg List.length e; rw [plz_len, List.length_nil] at h9; omega)
        exact ⟨b, o, e, by omega, Nat.lt_of_lt_of_le hp3wr (HOWN2.out b (by subst e; rfl) (by omega)), by rw [← plz_at]; exact hx3.cellv (hc j hj)⟩)
      clear hR3 ho3 hg3 hg HS2 HP32 hX2 hp3
      go_wp2_with fail
      go_loopw [41] (fun ci wr => ∃ j : Nat, j ≤ k ∧ ci = .int .i64 j ∧ IRow wr p3 3 (fun t => ((stK (kS F) c (M.take j)).1 t : Nat)) ∧ IRow wr g (k * 4) (fun i => ((stK (kS F) c (M.take j)).2 (i / 4) (i % 4) : Nat)) ∧ Chg [p3, g] w3 wr) (fun ci _ => k - (intOf ci).toNat)
      case atStart => exact ⟨0, Nat.zero_le _, rfl, by rw [List.take_zero]; exact HP3.out, by rw [List.take_zero]; exact HR3.out, Chg.refl _ _⟩
      case round =>
        obtain ⟨j, hj, rfl, hP, hR, hC⟩ := hrel
        have HP := Lib.hid hP
        have HR := Lib.hid hR
        have HCH := Lib.hid hC
        clear hP hR hC
        by_cases hlt : j < k
        --[[A
        · obtain ⟨b2, o2, rfl, hb2, hb3, q1⟩ := HSM.out j hlt
          have hbw := cell_lt q1
          have q1 : wr.cell? ⟨b2, o2 + j, none⟩ = some (.int .i64 (M.getD j 0 : Nat)) := (World.cell?_of_block (HCH.out.block b2 hbw (by simp; omega))).trans q1
          have hxk : M.getD j 0 < k := HM.out.lt (by rw [List.getD_eq_getElem?_getD, List.getElem?_eq_getElem (by have := HM.out.len; omega)]; exact List.getElem_mem _)
          have hstk := stK_succ (kS F) c M (k := j) (by have := HM.out.len; omega)
          have hcl := fun t => cap_le (kS F) c (M.take j) t
          obtain ⟨x, hx⟩ : ∃ x, x = M.getD j 0 := ⟨_, rfl⟩
          rw [← hx] at q1 hxk hstk
          clear hx
          obtain ⟨b, o, rfl, hb, hcl4⟩ := HS.out (by omega)
          have y1 := (hX3.cell hb).trans (hcl4 x 1 hxk (by omega))
          have y1 : wr.cell? ⟨b, o + (x * 4 + 1), none⟩ = some (HV F L x 1) := (World.cell?_of_block (HCH.out.block b (Nat.lt_of_lt_of_le hb hX3.size) (by simp; omega))).trans y1
          obtain ⟨f1, f2, _⟩ := HOK.out x hxk
          have hsz : F x 1 = ((kS F x : Nat) : Int) := by unfold kS; omega
          have hs32 : kS F x ≤ 32 := by omega
          simp only [Proofs.Ytpmfadepinmmjaa.HV, ← Nat.add_assoc, if_pos (show (1 : Nat) < 3 by omega), hsz] at y1
          obtain ⟨s, hs⟩ : ∃ s, s = kS F x := ⟨_, rfl⟩
          unfold stp at hstk
          rw [← hs] at y1 hs32 hstk
          obtain ⟨st, hst⟩ : ∃ st, st = stK (kS F) c (M.take j) := ⟨_, rfl⟩
          rw [← hst] at hstk
          have HP' : Hid (IRow wr p3 3 (fun t => (st.1 t : Nat))) := Lib.hid (by rw [hst]; exact HP.out)
          have HR' : Hid (IRow wr g (k * 4) (fun i => (st.2 (i / 4) (i % 4) : Nat))) := Lib.hid (by rw [hst]; exact HR.out)
          have HCL : Hid (∀ t, st.1 t ≤ 16) := Lib.hid (fun t => by rw [hst]; exact Nat.le_trans (hcl t) (HC.out t))
          have HSTK := Lib.hid hstk
          clear HP HR hstk hst hs hsz f1 f2 hcl4 hcl
          have hxi : (x : Int) < (k : Int) := by omega
          have hx0 : (0 : Int) ≤ (x : Int) := by omega
          have hji : (j : Int) < (k : Int) := by omega
          have hjl : (j : Int) < ((plz M).length : Int) := by rw [plz_len, HM.out.len]; omega
          go_wp2_with fail
          obtain ⟨wo, rfl⟩ : ∃ wo : World, wo = wr := ⟨_, rfl⟩
          go_loopw [13, 50] (fun cl ct ws => ∃ t : Nat, t ≤ 3 ∧ ct = .int .i64 t ∧ cl = .int .i64 (lfK st.1 s t : Nat) ∧ Hid (IRow ws p3 3 (fun i => ((if i < t then capA st.1 s i else st.1 i : Nat) : Int))) ∧ Hid (IRow ws g (k * 4) (fun i => ((if i / 4 = x ∧ i % 4 < t then tkK st.1 s (i % 4) else st.2 (i / 4) (i % 4) : Nat) : Int))) ∧ Hid (Chg [p3, g] w3 ws)) (fun _ ct _ => 3 - (intOf ct).toNat)
          case atStart => exact ⟨0, by omega, rfl, rfl, Lib.hid (HP'.out.congr (fun i _ => by rw [if_neg (by omega)])), Lib.hid (HR'.out.congr (fun i _ => by rw [if_neg (by omega)])), HCH⟩
          case round =>
            obtain ⟨t, ht, rfl, rfl, HP1, HR1, HC1⟩ := hrel
            have l32 : lfK st.1 s t ≤ 32 := Nat.le_trans (lfK_le _ _ _) hs32
            have lnx : lfK st.1 s (t + 1) = lfK st.1 s t - min (lfK st.1 s t) (st.1 t) := rfl
            have tkd : tkK st.1 s t = min (lfK st.1 s t) (st.1 t) := rfl
            have cpd : capA st.1 s t = st.1 t - tkK st.1 s t := rfl
            by_cases h3 : t < 3
            · have z0 := HP1.out.cell h3
              have z1 := HR1.out.cell (show x * 4 + t < k * 4 by omega)
              have f0 := HP1.out.free t
              have f1 := HR1.out.free (x * 4 + t)
              have c16 := HCL.out t
              rw [if_neg (by omega)] at z0
              simp only [show (x * 4 + t) / 4 = x by omega, show (x * 4 + t) % 4 = t by omega] at z1
              rw [if_neg (by omega)] at z1
              have hP2 : ∀ ws' v, IRow ws' p3 3 (fun i => ((if i < t then capA st.1 s i else st.1 i : Nat) : Int)) → v = ((capA st.1 s t : Nat) : Int) → IRow (ws'.setCell ⟨p3, t, none⟩ (.int .i64 v)) p3 3 (fun i => ((if i < t + 1 then capA st.1 s i else st.1 i : Nat) : Int)) := by
                intro ws' v hh hv
                refine hh.set h3 _ (fun i hi => ?_)
                by_cases e : i = t
                · subst e; rw [if_pos rfl, if_pos (by omega), hv]
                · rw [if_neg e]
                  by_cases e2 : i < t
                  · rw [if_pos (by omega), if_pos e2]
                  · rw [if_neg (by omega), if_neg e2]
              have hR2 : ∀ ws' v, IRow ws' g (k * 4) (fun i => ((if i / 4 = x ∧ i % 4 < t then tkK st.1 s (i % 4) else st.2 (i / 4) (i % 4) : Nat) : Int)) → v = ((tkK st.1 s t : Nat) : Int) → IRow (ws'.setCell ⟨g, x * 4 + t, none⟩ (.int .i64 v)) g (k * 4) (fun i => ((if i / 4 = x ∧ i % 4 < t + 1 then tkK st.1 s (i % 4) else st.2 (i / 4) (i % 4) : Nat) : Int)) := by
                intro ws' v hh hv
                refine hh.set (by omega) _ (fun i hi => ?_)
                by_cases e : i = x * 4 + t
                · subst e; rw [if_pos rfl, if_pos (by omega), hv, show (x * 4 + t) % 4 = t by omega]
                · rw [if_neg e]
                  by_cases e2 : i / 4 = x ∧ i % 4 < t
                  · rw [if_pos (by omega), if_pos e2]
                  · rw [if_neg (by omega), if_neg e2]
              have hgp' : g ≠ p3 := by omega
              have hpg' : p3 ≠ g := by omega
              have HP2 := Lib.hid hP2
              have HR2 := Lib.hid hR2
              obtain ⟨l, hl⟩ : ∃ l, l = lfK st.1 s t := ⟨_, rfl⟩
              obtain ⟨ct, hct⟩ : ∃ ct, ct = st.1 t := ⟨_, rfl⟩
              rw [← hl] at l32 lnx tkd ⊢
              rw [← hct] at z0 c16 lnx tkd cpd
              have LNX := Lib.hid lnx
              have TKD := Lib.hid tkd
              have CPD := Lib.hid cpd
              have hti : (t : Int) < 3 := by omega
              clear hP2 hR2 lnx tkd cpd hl hct
              by_cases hle : l ≤ ct
              · have hle' : (l : Int) ≤ (ct : Int) := by omega
                go_wp2_with fail
                go_roundw
                case rel => exact ⟨t + 1, by omega, by go_num, by rw [LNX.out]; go_num, Lib.hid (HP2.out _ _ (HP1.out.other hpg' _) (by rw [CPD.out, TKD.out]; omega)), Lib.hid ((HR2.out _ _ HR1.out (by rw [TKD.out]; omega)).other hgp' _), Lib.hid (HC1.out.trans (by repeat' (first | (with_reducible exact Chg.refl _ _) | (with_reducible assumption) | (with_reducible refine Chg.drewN ?_ _) | (with_reducible refine Chg.drew ?_) | (with_reducible refine Chg.alloc ?_ _) | (with_reducible refine Chg.setCell ?_ (.inl (by simp)) _) | (with_reducible refine Chg.trans ?_ (by assumption)) | (with_reducible refine Chg.ext ?_ (by assumption)))))⟩
                case measure => simp [intOf]; omega
              · have hle' : (ct : Int) < (l : Int) := by omega
                go_wp2_with fail
                go_roundw
                case rel => exact ⟨t + 1, by omega, by go_num, by rw [LNX.out]; go_num, Lib.hid (HP2.out _ _ (HP1.out.other hpg' _) (by rw [CPD.out, TKD.out]; omega)), Lib.hid ((HR2.out _ _ HR1.out (by rw [TKD.out]; omega)).other hgp' _), Lib.hid (HC1.out.trans (by repeat' (first | (with_reducible exact Chg.refl _ _) | (with_reducible assumption) | (with_reducible refine Chg.drewN ?_ _) | (with_reducible refine Chg.drew ?_) | (with_reducible refine Chg.alloc ?_ _) | (with_reducible refine Chg.setCell ?_ (.inl (by simp)) _) | (with_reducible refine Chg.trans ?_ (by assumption)) | (with_reducible refine Chg.ext ?_ (by assumption)))))⟩
                case measure => simp [intOf]; omega
            · obtain rfl : t = 3 := by omega
              have z1 := HR1.out.cell (show x * 4 + 3 < k * 4 by omega)
              have f1 := HR1.out.free (x * 4 + 3)
              have hfin : ∀ ws', IRow ws' g (k * 4) (fun i => ((if i / 4 = x ∧ i % 4 < 3 then tkK st.1 s (i % 4) else st.2 (i / 4) (i % 4) : Nat) : Int)) → IRow (ws'.setCell ⟨g, x * 4 + 3, none⟩ (.int .i64 (lfK st.1 s 3 : Nat))) g (k * 4) (fun i => ((stK (kS F) c (M.take (j + 1))).2 (i / 4) (i % 4) : Nat)) := by
                intro ws' hh
                refine hh.set (by omega) _ (fun i hi => ?_)
                rw [HSTK.out]
                show ((if i / 4 = x ∧ i % 4 < 4 then rowK st.1 s (i % 4) else st.2 (i / 4) (i % 4) : Nat) : Int) = _
                by_cases e : i = x * 4 + 3
                · subst e
                  rw [if_pos (by omega), if_pos rfl, show (x * 4 + 3) % 4 = 3 by omega]; rfl
                · rw [if_neg e]
                  by_cases e2 : i / 4 = x
                  · have h3' : i % 4 < 3 := by omega
                    rw [if_pos (by omega), if_pos ⟨e2, h3'⟩]; unfold rowK; rw [if_pos h3']
                  · rw [if_neg (by omega), if_neg (by omega)]
              have hfp : ∀ ws', IRow ws' p3 3 (fun i => ((if i < 3 then capA st.1 s i else st.1 i : Nat) : Int)) → IRow ws' p3 3 (fun i => ((stK (kS F) c (M.take (j + 1))).1 i : Nat)) := by
                intro ws' hh
                refine hh.congr (fun i hi => ?_)
                rw [HSTK.out]
              have HFIN := Lib.hid hfin
              have HFP := Lib.hid hfp
              obtain ⟨l, hl⟩ : ∃ l, l = lfK st.1 s 3 := ⟨_, rfl⟩
              have HLL := Lib.hid hl
              rw [← hl] at l32 ⊢
              have hgp' : g ≠ p3 := by omega
              have hpg' : p3 ≠ g := by omega
              clear hfin hfp lnx tkd cpd hl
              go_wp2_with fail
              go_roundw
              case rel => exact ⟨j + 1, by omega, by go_num, (HFP.out _ HP1.out).other hgp'.symm _, by rw [HLL.out]; exact HFIN.out _ HR1.out, HC1.out.trans (by repeat' (first | (with_reducible exact Chg.refl _ _) | (with_reducible assumption) | (with_reducible refine Chg.drewN ?_ _) | (with_reducible refine Chg.drew ?_) | (with_reducible refine Chg.alloc ?_ _) | (with_reducible refine Chg.setCell ?_ (.inl (by simp)) _) | (with_reducible refine Chg.trans ?_ (by assumption)) | (with_reducible refine Chg.ext ?_ (by assumption))))⟩
              case measure => simp [intOf]; omega
        --]]
        --[[B
        · obtain rfl : j = k := by omega
          have HTK := HM.out.len
          have HR' := HR.out
          rw [List.take_of_length_le (by omega)] at HR'
          have HR2 := Lib.hid HR'
          clear HTK HR'
          go_wp2_with fail
          go_ret
          exact ⟨g, M, rfl, HM.out, HR2.out.ext (by repeat' (first | (with_reducible exact Ext.refl _) | (with_reducible assumption) | (with_reducible refine Ext.alloc ?_ _) | (with_reducible refine Ext.drewN ?_ _) | (with_reducible refine Ext.drew ?_) | (with_reducible refine Ext.trans ?_ (by assumption)))), hwg, Ext.chg hX3 (HCH.out) (by simp; omega)⟩
        --]]
end Go.Proofs.Ytpmfadepinmmjaa
