/-
  gradinelaw11.LruActs answers true. No condition.
-/
import Derived.Test.YtclajmbmchaidaaRefDo2
import Derived.Test.YtclajmbmchaidaaRowsIn
import Derived.Deep.Cut
import Derived.Deep.CutRange
import Derived.Deep.CutBlock
import Derived.Deep.RegionHeld3
namespace Go.Proofs.Ytclajmbmchaidaa
open Go.RowKit

theorem off_own {v v' : Value} {n m : Nat} {S : List Nat} (h : ∀ g, v'.ownBlock = some g → (n ≤ g ∧ g < m) ∨ v.ownBlock = some g) (h1 : ∀ g, v.ownBlock = some g → g ∉ S) (hS : ∀ s ∈ S, s < n) : ∀ g, v'.ownBlock = some g → g ∉ S := by
  intro g hg hm
  rcases h g hg with h2 | h2
  · have := hS g hm; omega
  · exact h1 g h2 hm

set_option maxRecDepth 100000 in
set_option maxHeartbeats 4000000 in
theorem walk_LruActs (v0 v1 : Value) (w : World) (h0 : IsInt .i64 v0) (h1 : IsRows 2 w v1) :
    Calls Try.prog 11 #[v0, v1] w fun e w' => e = .returned (.bool true) ∧ Ext w w' := by
  obtain ⟨c, rfl, _⟩ := h0
  obtain ⟨n, F, hr, _⟩ := h1
  obtain ⟨a, cp, rfl, hnc, hn63, hs⟩ := hr.parts
  have HS := Lib.hid hs
  clear hs hr hnc
  by_cases hA : (150 : Int) < (n : Int)
  · go_enter Try.func11, Try.ntmps11
    go_wp2_with fail
    refine (wakes11 _).mono ?_
    rintro e w1 ⟨rfl, hx1⟩
    go_wp2_with fail
    go_ret
    exact ⟨rfl, (by repeat' (first | (with_reducible exact Ext.refl _) | (with_reducible assumption) | (with_reducible refine Ext.alloc ?_ _) | (with_reducible refine Ext.drewN ?_ _) | (with_reducible refine Ext.drew ?_) | (with_reducible refine Ext.trans ?_ (by assumption))))⟩
  · go_enter Try.func11, Try.ntmps11
    go_wp2_with fail
    refine (wakes11 _).mono ?_
    rintro e w1 ⟨rfl, hx1⟩
    go_wp2_with fail
    refine (lru_new _ _).mono ?_
    rintro e w2 ⟨p, bs, be, rfl, h2, hp, hb1, hb2, hx2⟩
    have hS : ∀ s ∈ [bs, be], w.heap.size ≤ s := by have := hx1.size; simp; omega
    have hX : Ext w w2 := (by repeat' (first | (with_reducible exact Ext.refl _) | (with_reducible assumption) | (with_reducible refine Ext.alloc ?_ _) | (with_reducible refine Ext.drewN ?_ _) | (with_reducible refine Ext.drew ?_) | (with_reducible refine Ext.trans ?_ (by assumption))))
    obtain ⟨m1, m16⟩ := capN_pos c
    obtain ⟨m, hm⟩ : ∃ m, m = capN c := ⟨_, rfl⟩
    rw [← hm] at h2 m1 m16
    have HM := Lib.hid hm
    clear hm
    go_wp2_with fail
    go_loopw [6, 22] (fun vx ci wr => ∃ (k : Nat) (L : List Nat), k ≤ n ∧ ci = .int .i64 k ∧ RdI .i64 wr vx (asInts L) ∧ (∀ g, vx.ownBlock = some g → g ∉ [bs, be] ∧ g < wr.heap.size) ∧ LruAt wr p bs be m L ∧ L.length ≤ m ∧ Ext w wr) (fun _ ci _ => n - (intOf ci).toNat)
    case atStart => exact ⟨0, [], Nat.zero_le _, rfl, RdI.nil _ _, (fun g hg => by cases hg), h2, by simp, hX⟩
    case round =>
      obtain ⟨k, L, hk, rfl, hrd, hoff, h3, hLl, hx⟩ := hrel
      by_cases hlt : k < n
      · obtain ⟨b, o, rfl, hb, hcell⟩ := HS.out (by omega)
        obtain ⟨e0, e1⟩ := row2_cells hx hb hcell hlt
        generalize F k 0 = kd at *
        generalize F k 1 = bl at *
        have hki : (k : Int) < (n : Int) := by omega
        have HOFF := Lib.hid hoff
        clear hcell hoff
        by_cases hkd : 0 ≤ kd ∧ kd ≤ 2
        · obtain ⟨k0, k2⟩ := hkd
          have hH : Held m L := ⟨h3.held.nodup, h3.held.lt, hLl⟩
          have hHa := hH.act kd bl
          have HHA := Lib.hid hHa.len
          clear hHa
          have hw8 : (wr.alloc (.cells #[.int .i64 kd, .int .i64 bl] 62 (0, 0))).cell? ⟨wr.heap.size, 0, none⟩ = some (.int .i64 kd) := cell_new _ _ _ _ rfl
          have hw9 : (wr.alloc (.cells #[.int .i64 kd, .int .i64 bl] 62 (0, 0))).cell? ⟨wr.heap.size, 1, none⟩ = some (.int .i64 bl) := cell_new _ _ _ _ rfl
          have hx8 : Ext w (wr.alloc (.cells #[.int .i64 kd, .int .i64 bl] 62 (0, 0))) := (by repeat' (first | (with_reducible exact Ext.refl _) | (with_reducible assumption) | (with_reducible refine Ext.alloc ?_ _) | (with_reducible refine Ext.drewN ?_ _) | (with_reducible refine Ext.drew ?_) | (with_reducible refine Ext.trans ?_ (by assumption))))
          have h8 : LruAt (wr.alloc (.cells #[.int .i64 kd, .int .i64 bl] 62 (0, 0))) p bs be m L := h3.ext ((Ext.refl wr).alloc _)
          have hr8 := hrd.ext ((Ext.refl wr).alloc (.cells #[.int .i64 kd, .int .i64 bl] 62 (0, 0)))
          have hs8 : ∀ s ∈ [bs, be], s < wr.heap.size := by have := h3.space.lt1; have := h3.space.lt2; simp; omega
          have hz8 : wr.heap.size < (wr.alloc (.cells #[.int .i64 kd, .int .i64 bl] 62 (0, 0))).heap.size := by simp
          have hhid := HOFF.out
          go_upto_region 11 with fail
          generalize (wr.alloc (.cells #[.int .i64 kd, .int .i64 bl] 62 (0, 0))) = wz at *
          obtain ⟨p8, hp8⟩ : ∃ p8, p8 = wr.heap.size := ⟨_, rfl⟩
          rw [← hp8] at hw8 hw9 hs8 hz8 hhid ⊢
          have n8 : p8 ∉ [bs, be] := fun hm => by have := hs8 p8 hm; omega
          have hszz : ∀ s ∈ [bs, be], s < wz.heap.size := fun s hm => Nat.lt_trans (hs8 s hm) hz8
          obtain ⟨q, hq⟩ : ∃ q, decide (bl ∈ asInts L) = q := ⟨_, rfl⟩
          obtain ⟨V, hV⟩ : ∃ V, actV m L kd bl = V := ⟨_, rfl⟩
          obtain ⟨G, hG⟩ : ∃ G, actG m L kd bl = G := ⟨_, rfl⟩
          obtain ⟨E, hE⟩ : ∃ E, actE kd bl = E := ⟨_, rfl⟩
          have HQ := Lib.hid hq
          have HV := Lib.hid hV
          have HG := Lib.hid hG
          have HE := Lib.hid hE
          clear hq hV hG hE
          have HK := Lib.hid (And.intro n8 (And.intro hszz hz8))
          have HO := Lib.hid hhid
          have hA8 := cell_old (.cells #[.slice none 0 0, .int .i64 0, .bool false, .bool false, .int .i64 0] 69 (0, 0)) hw8
          have hA9 := cell_old (.cells #[.slice none 0 0, .int .i64 0, .bool false, .bool false, .int .i64 0] 69 (0, 0)) hw9
          have hne8 : p8 ≠ wz.heap.size := by omega
          clear h3 hrd hp8 hs8 n8 hszz hz8 hhid e0 e1 hx HOFF wr
          go_cut [9] from 34 to 38 (fun s9 wx => ∃ (p9 : Nat) (v6 : Value), s9 = .pointer (some ⟨p9, 0, none⟩) ∧ wx.heap[p9]? = some (.cells #[v6, .int .i64 V, .bool G, .bool q, .int .i64 E] 69 (0, 0)) ∧ RdI .i64 wx v6 (asInts (actL m L kd bl)) ∧ (∀ g, v6.ownBlock = some g → g ∉ [bs, be] ∧ g < wx.heap.size) ∧ wz.heap.size ≤ p9 ∧ Ext wz wx)
          case first =>
            go_region_with (first | (go_at_call 39; refine (refcap_any c _).mono ?_; rintro e w5 ⟨rfl, rfl⟩; rw [← HM.out]) | (go_at_call 40; refine (refdo_any _ L m kd bl _ (hr8.ext (by repeat' (first | (with_reducible exact Ext.refl _) | (with_reducible assumption) | (with_reducible refine Ext.alloc ?_ _) | (with_reducible refine Ext.drewN ?_ _) | (with_reducible refine Ext.drew ?_) | (with_reducible refine Ext.trans ?_ (by assumption))))) hH m16 k0 k2).mono ?_; rintro e w6 ⟨v6, rfl, hr6, hg6, hx6⟩; obtain ⟨a6, c6, rfl, hc6, hm6, hn6, hs6⟩ := hr6.parts; clear hc6 hm6 hn6 hs6; rw [HV.out, HG.out, HQ.out, HE.out]; generalize hn6e : (asInts (actL m L kd bl)).length = n6 at *; have HN6 := Lib.hid hn6e; clear hn6e; (first | (have H9 : w6.heap[wz.heap.size]? = some (.cells #[.slice none 0 0, .int .i64 0, .bool false, .bool false, .int .i64 0] 69 (0, 0)) := (by rw [Below.block hx6 wz.heap.size (by simp)]; exact heap_alloc_new wz (.cells #[.slice none 0 0, .int .i64 0, .bool false, .bool false, .int .i64 0] 69 (0, 0))); have HH9 := Lib.hid H9; have frz := frozen_row H9; have z0 := cell_of_row w6 wz.heap.size 0 _ _ _ H9; have z1 := cell_of_row w6 wz.heap.size 1 _ _ _ H9; have z2 := cell_of_row w6 wz.heap.size 2 _ _ _ H9; have z3 := cell_of_row w6 wz.heap.size 3 _ _ _ H9; have z4 := cell_of_row w6 wz.heap.size 4 _ _ _ H9; simp only [List.getElem?_toArray, List.getElem?_cons_zero, List.getElem?_cons_succ] at z0 z1 z2 z3 z4; clear H9) | skip)))
            all_goals
              have hsz6 := hx6.size
              simp at hsz6
              have hw6 : Ext wz w6 := (by repeat' (first | (with_reducible exact Ext.refl _) | (with_reducible assumption) | (with_reducible refine Ext.alloc ?_ _) | (with_reducible refine Ext.drewN ?_ _) | (with_reducible refine Ext.drew ?_) | (with_reducible refine Ext.trans ?_ (by assumption))))
              have hoffA : ∀ g, (Value.slice a6 n6 c6).ownBlock = some g → (g ∉ [bs, be] ∧ g < w6.heap.size) := by
                intro g hg
                rcases hg6 g hg with h | h
                · have h1 := h.1
                  simp at h1
                  exact ⟨fun hm => by have := HK.out.2.1 g hm; omega, h.2⟩
                · have h1 := HO.out g h
                  exact ⟨h1.1, by have := HK.out.2.2; omega⟩
              have HOA := Lib.hid hoffA
              have HG6 := Lib.hid hg6
              clear hoffA hg6
              go_wp2_with fail
              go_meet
              first
                | exact ⟨_, _, rfl, fill5 HH9.out _ _ _ _ _, hr6.chg (S := [wz.heap.size]) (by repeat' (first | (with_reducible exact Chg.refl _ _) | (with_reducible assumption) | (with_reducible refine Chg.drewN ?_ _) | (with_reducible refine Chg.drew ?_) | (with_reducible refine Chg.alloc ?_ _) | (with_reducible refine Chg.setCell ?_ (.inl (by simp)) _) | (with_reducible refine Chg.trans ?_ (by assumption)) | (with_reducible refine Chg.ext ?_ (by assumption)))) (by
                    intro g hg hm
                    simp only [List.mem_singleton] at hm
                    subst hm
                    rcases HG6.out _ hg with h | h
                    · have h1 := h.1
                      simp at h1 <;> omega
                    · have h1 := (HO.out _ h).2
                      have := HK.out.2.2
                      omega), (fun g hg => ⟨(HOA.out g hg).1, Nat.lt_of_lt_of_le (HOA.out g hg).2 (Chg.size (S := [wz.heap.size]) (by repeat' (first | (with_reducible exact Chg.refl _ _) | (with_reducible assumption) | (with_reducible refine Chg.drewN ?_ _) | (with_reducible refine Chg.drew ?_) | (with_reducible refine Chg.alloc ?_ _) | (with_reducible refine Chg.setCell ?_ (.inl (by simp)) _) | (with_reducible refine Chg.trans ?_ (by assumption)) | (with_reducible refine Chg.ext ?_ (by assumption)))))⟩), Nat.le_refl _, Ext.chg (S := [wz.heap.size]) hw6 (by repeat' (first | (with_reducible exact Chg.refl _ _) | (with_reducible assumption) | (with_reducible refine Chg.drewN ?_ _) | (with_reducible refine Chg.drew ?_) | (with_reducible refine Chg.alloc ?_ _) | (with_reducible refine Chg.setCell ?_ (.inl (by simp)) _) | (with_reducible refine Chg.trans ?_ (by assumption)) | (with_reducible refine Chg.ext ?_ (by assumption)))) (by simp)⟩
                | exact ⟨_, _, rfl, heap_alloc_new w6 _, hr6.ext ((Ext.refl w6).alloc _), (fun g hg => ⟨(HOA.out g hg).1, by have := (HOA.out g hg).2; simp; omega⟩), by omega, (by repeat' (first | (with_reducible exact Ext.refl _) | (with_reducible assumption) | (with_reducible refine Ext.alloc ?_ _) | (with_reducible refine Ext.drewN ?_ _) | (with_reducible refine Ext.drew ?_) | (with_reducible refine Ext.trans ?_ (by assumption))))⟩
          case rest =>
            obtain ⟨p9, v6, rfl, H9, hr7, hoff7, hp9, hx7⟩ := hcut
            have m0 := cell_of_row wc p9 0 _ _ _ H9
            have m1 := cell_of_row wc p9 1 _ _ _ H9
            have m2 := cell_of_row wc p9 2 _ _ _ H9
            have m3 := cell_of_row wc p9 3 _ _ _ H9
            have m4 := cell_of_row wc p9 4 _ _ _ H9
            simp only [List.getElem?_toArray, List.getElem?_cons_zero, List.getElem?_cons_succ] at m0 m1 m2 m3 m4
            have k8 := hx7.cellv hw8
            have k9 := hx7.cellv hw9
            have hX7 : Ext w wc := hx8.trans hx7
            have h7 := h8.ext hx7
            have n8 : p8 ∉ [bs, be] := HK.out.1
            have n9 : p9 ∉ [bs, be] := fun hm => by have := HK.out.2.1 p9 hm; omega
            have HR7 := Lib.hid hr7
            have HOFF7 := Lib.hid hoff7
            obtain ⟨a6, c6, hv6, _, _, _, _⟩ := hr7.parts
            obtain ⟨n6, hn6⟩ : ∃ n6, v6 = .slice a6 n6 c6 ∧ n6 = (asInts (actL m L kd bl)).length := ⟨_, hv6, rfl⟩
            obtain ⟨hv6', hn6⟩ := hn6
            have HN6 := Lib.hid hn6
            clear hv6 hn6
            subst hv6'
            clear H9 hr7 hoff7 hw8 hw9 hA8 hA9 hx8 h8 hr8 hx7
            go_upto_block 2 with fail
            go_cut [6] from 43 to 86 (fun s6 wx => s6 = .slice a6 n6 c6 ∧ RdI .i64 wx (.slice a6 n6 c6) (asInts (actL m L kd bl)) ∧ (∀ g, (Value.slice a6 n6 c6).ownBlock = some g → g ∉ [bs, be] ∧ g < wx.heap.size) ∧ LruAt wx p bs be m (actL m L kd bl) ∧ wx.cell? ⟨p8, 1, none⟩ = some (.int .i64 bl) ∧ Ext w wx)
            case first =>
              have close : ∀ wx, Chg [bs, be] wc wx → LruAt wx p bs be m (actL m L kd bl) → RdI .i64 wx (.slice a6 n6 c6) (asInts (actL m L kd bl)) ∧ (∀ g, (Value.slice a6 n6 c6).ownBlock = some g → g ∉ [bs, be] ∧ g < wx.heap.size) ∧ LruAt wx p bs be m (actL m L kd bl) ∧ wx.cell? ⟨p8, 1, none⟩ = some (.int .i64 bl) ∧ Ext w wx := by
                intro wx hc hl
                exact ⟨HR7.out.chg hc (fun g hg => (HOFF7.out g hg).1), fun g hg => ⟨(HOFF7.out g hg).1, Nat.lt_of_lt_of_le (HOFF7.out g hg).2 hc.size⟩, hl, chg_cell hc k9 n8, hX7.chg hc hS⟩
              have CL := Lib.hid close
              clear close
              have h012 : kd = 0 ∨ kd = 1 ∨ kd = 2 := by omega
              rcases h012 with rfl | rfl | rfl
              · have e1 : actL m L 0 bl = useL L bl := rfl
                rw [e1] at CL
                clear e1
                go_wp2_with fail
                go_region_with (go_at_call 41; refine (lru_use p bs be m L _ (h7.ext (by repeat' (first | (with_reducible exact Ext.refl _) | (with_reducible assumption) | (with_reducible refine Ext.alloc ?_ _) | (with_reducible refine Ext.drewN ?_ _) | (with_reducible refine Ext.drew ?_) | (with_reducible refine Ext.trans ?_ (by assumption))))) bl q HQ.out).mono ?_; rintro e w8 ⟨rfl, h9, hc9⟩; have hcw : Chg [bs, be] wc w8 := (by repeat' (first | (with_reducible exact Chg.refl _ _) | (with_reducible assumption) | (with_reducible refine Chg.drewN ?_ _) | (with_reducible refine Chg.drew ?_) | (with_reducible refine Chg.alloc ?_ _) | (with_reducible refine Chg.setCell ?_ (.inl (by simp)) _) | (with_reducible refine Chg.trans ?_ (by assumption)) | (with_reducible refine Chg.ext ?_ (by assumption)))); have x3 := chg_cell hcw m3 n9; clear hc9)
                all_goals
                  go_wp2_with fail
                  go_meet
                  exact ⟨rfl, CL.out _ (by repeat' (first | (with_reducible exact Chg.refl _ _) | (with_reducible assumption) | (with_reducible refine Chg.drewN ?_ _) | (with_reducible refine Chg.drew ?_) | (with_reducible refine Chg.alloc ?_ _) | (with_reducible refine Chg.setCell ?_ (.inl (by simp)) _) | (with_reducible refine Chg.trans ?_ (by assumption)) | (with_reducible refine Chg.ext ?_ (by assumption)))) (h9.ext (by repeat' (first | (with_reducible exact Ext.refl _) | (with_reducible assumption) | (with_reducible refine Ext.alloc ?_ _) | (with_reducible refine Ext.drewN ?_ _) | (with_reducible refine Ext.drew ?_) | (with_reducible refine Ext.trans ?_ (by assumption)))))⟩
              · have e1 : actL m L 1 bl = addL m L bl := rfl
                have e2 : addV m L bl = V := HV.out
                have e3 : addG m L bl = G := HG.out
                have e4 : addE bl = E := HE.out
                rw [e1] at CL
                have HE2 := Lib.hid e2
                have HE3 := Lib.hid e3
                have HE4 := Lib.hid e4
                clear e1 e2 e3 e4
                go_wp2_with fail
                refine (lru_add p bs be m L _ (h7.ext (by repeat' (first | (with_reducible exact Ext.refl _) | (with_reducible assumption) | (with_reducible refine Ext.alloc ?_ _) | (with_reducible refine Ext.drewN ?_ _) | (with_reducible refine Ext.drew ?_) | (with_reducible refine Ext.trans ?_ (by assumption))))) bl hLl).mono ?_
                rintro e w8 ⟨rfl, h9, hc9⟩
                rw [HE2.out, HE3.out, HE4.out]
                have x1 := chg_cell hc9 m1 n9
                have x2 := chg_cell hc9 m2 n9
                have x4 := chg_cell hc9 m4 n9
                have hcw : Chg [bs, be] wc w8 := hc9
                clear hc9
                go_wp2_with fail
                go_meet
                exact ⟨rfl, CL.out _ (by repeat' (first | (with_reducible exact Chg.refl _ _) | (with_reducible assumption) | (with_reducible refine Chg.drewN ?_ _) | (with_reducible refine Chg.drew ?_) | (with_reducible refine Chg.alloc ?_ _) | (with_reducible refine Chg.setCell ?_ (.inl (by simp)) _) | (with_reducible refine Chg.trans ?_ (by assumption)) | (with_reducible refine Chg.ext ?_ (by assumption)))) (h9.ext (by repeat' (first | (with_reducible exact Ext.refl _) | (with_reducible assumption) | (with_reducible refine Ext.alloc ?_ _) | (with_reducible refine Ext.drewN ?_ _) | (with_reducible refine Ext.drew ?_) | (with_reducible refine Ext.trans ?_ (by assumption)))))⟩
              · have e1 : actL m L 2 bl = remL L bl := rfl
                rw [e1] at CL
                clear e1
                go_wp2_with fail
                go_region_with (go_at_call 42; refine (lru_remove p bs be m L _ (h7.ext (by repeat' (first | (with_reducible exact Ext.refl _) | (with_reducible assumption) | (with_reducible refine Ext.alloc ?_ _) | (with_reducible refine Ext.drewN ?_ _) | (with_reducible refine Ext.drew ?_) | (with_reducible refine Ext.trans ?_ (by assumption))))) bl q HQ.out).mono ?_; rintro e w8 ⟨rfl, h9, hc9⟩; have hcw : Chg [bs, be] wc w8 := (by repeat' (first | (with_reducible exact Chg.refl _ _) | (with_reducible assumption) | (with_reducible refine Chg.drewN ?_ _) | (with_reducible refine Chg.drew ?_) | (with_reducible refine Chg.alloc ?_ _) | (with_reducible refine Chg.setCell ?_ (.inl (by simp)) _) | (with_reducible refine Chg.trans ?_ (by assumption)) | (with_reducible refine Chg.ext ?_ (by assumption)))); have x3 := chg_cell hcw m3 n9; clear hc9)
                all_goals
                  go_wp2_with fail
                  go_meet
                  exact ⟨rfl, CL.out _ (by repeat' (first | (with_reducible exact Chg.refl _ _) | (with_reducible assumption) | (with_reducible refine Chg.drewN ?_ _) | (with_reducible refine Chg.drew ?_) | (with_reducible refine Chg.alloc ?_ _) | (with_reducible refine Chg.setCell ?_ (.inl (by simp)) _) | (with_reducible refine Chg.trans ?_ (by assumption)) | (with_reducible refine Chg.ext ?_ (by assumption)))) (h9.ext (by repeat' (first | (with_reducible exact Ext.refl _) | (with_reducible assumption) | (with_reducible refine Ext.alloc ?_ _) | (with_reducible refine Ext.drewN ?_ _) | (with_reducible refine Ext.drew ?_) | (with_reducible refine Ext.trans ?_ (by assumption)))))⟩
            case rest =>
              obtain ⟨rfl, hr9, hoff9, h9, y9, hx9⟩ := hcut
              have hlen9 : (actL m L kd bl).length = n6 := by rw [HN6.out]; simp [asInts]
              obtain ⟨q9, hq9⟩ : ∃ q9, decide (bl ∈ asInts (actL m L kd bl)) = q9 := ⟨_, rfl⟩
              have HLL := HHA.out
              generalize actL m L kd bl = L9 at *
              have HR9 := Lib.hid hr9
              have HOFF9 := Lib.hid hoff9
              have HLEN9 := Lib.hid hlen9
              have HQ9 := Lib.hid hq9
              have HLL9 := Lib.hid HLL
              clear hr9 hoff9 hlen9 hq9 HLL h7 m0 m1 m2 m3 m4 k8 k9 hX7 HR7 HOFF7
              go_wp2_with fail
              go_region_held3 (fun w' => w'.cell? ⟨p8, 1, none⟩ = some (.int .i64 bl) ∧ Ext wc w') (exact ⟨Ext.cellv (w := wc) (by repeat' (first | (with_reducible exact Ext.refl _) | (with_reducible assumption) | (with_reducible refine Ext.alloc ?_ _) | (with_reducible refine Ext.drewN ?_ _) | (with_reducible refine Ext.drew ?_) | (with_reducible refine Ext.trans ?_ (by assumption)))) y9, (by repeat' (first | (with_reducible exact Ext.refl _) | (with_reducible assumption) | (with_reducible refine Ext.alloc ?_ _) | (with_reducible refine Ext.drewN ?_ _) | (with_reducible refine Ext.drew ?_) | (with_reducible refine Ext.trans ?_ (by assumption))))⟩)
                (first
                  | (go_at_call 37; refine (lru_all p bs be m L9 _ (h9.ext (by repeat' (first | (with_reducible exact Ext.refl _) | (with_reducible assumption) | (with_reducible refine Ext.alloc ?_ _) | (with_reducible refine Ext.drewN ?_ _) | (with_reducible refine Ext.drew ?_) | (with_reducible refine Ext.trans ?_ (by assumption)))))).mono ?_; rintro e wA ⟨vA, rfl, hoA, hxA⟩)
                  | (go_at_call 21; refine (sameints_any vA _ (asInts L9) (asInts L9) _ (hoA.rd.ext (by repeat' (first | (with_reducible exact Ext.refl _) | (with_reducible assumption) | (with_reducible refine Ext.alloc ?_ _) | (with_reducible refine Ext.drewN ?_ _) | (with_reducible refine Ext.drew ?_) | (with_reducible refine Ext.trans ?_ (by assumption))))) (HR9.out.ext (by repeat' (first | (with_reducible exact Ext.refl _) | (with_reducible assumption) | (with_reducible refine Ext.alloc ?_ _) | (with_reducible refine Ext.drewN ?_ _) | (with_reducible refine Ext.drew ?_) | (with_reducible refine Ext.trans ?_ (by assumption)))))).mono ?_; rintro e wB ⟨rfl, hxB⟩; rw [show decide (asInts L9 = asInts L9) = true by simp])
                  | (go_at_call 35; refine (lru_len p bs be m L9 _ (h9.ext (by repeat' (first | (with_reducible exact Ext.refl _) | (with_reducible assumption) | (with_reducible refine Ext.alloc ?_ _) | (with_reducible refine Ext.drewN ?_ _) | (with_reducible refine Ext.drew ?_) | (with_reducible refine Ext.trans ?_ (by assumption)))))).mono ?_; rintro e wC ⟨rfl, rfl⟩; rw [HLEN9.out])
                  | (go_at_call 36; refine (lru_has p bs be m L9 _ (h9.ext (by repeat' (first | (with_reducible exact Ext.refl _) | (with_reducible assumption) | (with_reducible refine Ext.alloc ?_ _) | (with_reducible refine Ext.drewN ?_ _) | (with_reducible refine Ext.drew ?_) | (with_reducible refine Ext.trans ?_ (by assumption))))) bl q9 HQ9.out).mono ?_; rintro e wD ⟨rfl, rfl⟩)
                  | (go_at_call 38; refine (has_any _ (asInts L9) bl _ (HR9.out.ext (by repeat' (first | (with_reducible exact Ext.refl _) | (with_reducible assumption) | (with_reducible refine Ext.alloc ?_ _) | (with_reducible refine Ext.drewN ?_ _) | (with_reducible refine Ext.drew ?_) | (with_reducible refine Ext.trans ?_ (by assumption)))))).mono ?_; rintro e wE ⟨rfl, hxE⟩; rw [HQ9.out]))
              all_goals
                go_wp2_with fail
                go_roundw
                case rel => exact ⟨k + 1, L9, by omega, by go_num, HR9.out.ext (by repeat' (first | (with_reducible exact Ext.refl _) | (with_reducible assumption) | (with_reducible refine Ext.alloc ?_ _) | (with_reducible refine Ext.drewN ?_ _) | (with_reducible refine Ext.drew ?_) | (with_reducible refine Ext.trans ?_ (by assumption)))), (fun g hg => ⟨(HOFF9.out g hg).1, Nat.lt_of_lt_of_le (HOFF9.out g hg).2 (Ext.size (by repeat' (first | (with_reducible exact Ext.refl _) | (with_reducible assumption) | (with_reducible refine Ext.alloc ?_ _) | (with_reducible refine Ext.drewN ?_ _) | (with_reducible refine Ext.drew ?_) | (with_reducible refine Ext.trans ?_ (by assumption)))))⟩), h9.ext (by repeat' (first | (with_reducible exact Ext.refl _) | (with_reducible assumption) | (with_reducible refine Ext.alloc ?_ _) | (with_reducible refine Ext.drewN ?_ _) | (with_reducible refine Ext.drew ?_) | (with_reducible refine Ext.trans ?_ (by assumption)))), HLL9.out, (by repeat' (first | (with_reducible exact Ext.refl _) | (with_reducible assumption) | (with_reducible refine Ext.alloc ?_ _) | (with_reducible refine Ext.drewN ?_ _) | (with_reducible refine Ext.drew ?_) | (with_reducible refine Ext.trans ?_ (by assumption))))⟩
                case measure => simp [intOf]; omega
        · by_cases k0 : 0 ≤ kd
          · have k2 : ¬ kd ≤ 2 := fun h => hkd ⟨k0, h⟩
            have k3 : 2 < kd := by omega
            clear hkd k2
            go_wp2_with fail
            go_roundw
            case rel => exact ⟨k + 1, L, by omega, by go_num, hrd.ext (by repeat' (first | (with_reducible exact Ext.refl _) | (with_reducible assumption) | (with_reducible refine Ext.alloc ?_ _) | (with_reducible refine Ext.drewN ?_ _) | (with_reducible refine Ext.drew ?_) | (with_reducible refine Ext.trans ?_ (by assumption)))), (fun g hg => ⟨(HOFF.out g hg).1, Nat.lt_of_lt_of_le (HOFF.out g hg).2 (by simp)⟩), h3.ext (by repeat' (first | (with_reducible exact Ext.refl _) | (with_reducible assumption) | (with_reducible refine Ext.alloc ?_ _) | (with_reducible refine Ext.drewN ?_ _) | (with_reducible refine Ext.drew ?_) | (with_reducible refine Ext.trans ?_ (by assumption)))), hLl, (by repeat' (first | (with_reducible exact Ext.refl _) | (with_reducible assumption) | (with_reducible refine Ext.alloc ?_ _) | (with_reducible refine Ext.drewN ?_ _) | (with_reducible refine Ext.drew ?_) | (with_reducible refine Ext.trans ?_ (by assumption))))⟩
            case measure => simp [intOf]; omega
          · have k0' : kd < 0 := by omega
            clear hkd k0
            go_wp2_with fail
            go_roundw
            case rel => exact ⟨k + 1, L, by omega, by go_num, hrd.ext (by repeat' (first | (with_reducible exact Ext.refl _) | (with_reducible assumption) | (with_reducible refine Ext.alloc ?_ _) | (with_reducible refine Ext.drewN ?_ _) | (with_reducible refine Ext.drew ?_) | (with_reducible refine Ext.trans ?_ (by assumption)))), (fun g hg => ⟨(HOFF.out g hg).1, Nat.lt_of_lt_of_le (HOFF.out g hg).2 (by simp)⟩), h3.ext (by repeat' (first | (with_reducible exact Ext.refl _) | (with_reducible assumption) | (with_reducible refine Ext.alloc ?_ _) | (with_reducible refine Ext.drewN ?_ _) | (with_reducible refine Ext.drew ?_) | (with_reducible refine Ext.trans ?_ (by assumption)))), hLl, (by repeat' (first | (with_reducible exact Ext.refl _) | (with_reducible assumption) | (with_reducible refine Ext.alloc ?_ _) | (with_reducible refine Ext.drewN ?_ _) | (with_reducible refine Ext.drew ?_) | (with_reducible refine Ext.trans ?_ (by assumption))))⟩
            case measure => simp [intOf]; omega
      · obtain rfl : k = n := by omega
        go_wp2_with fail
        go_ret
        exact ⟨rfl, (by repeat' (first | (with_reducible exact Ext.refl _) | (with_reducible assumption) | (with_reducible refine Ext.alloc ?_ _) | (with_reducible refine Ext.drewN ?_ _) | (with_reducible refine Ext.drew ?_) | (with_reducible refine Ext.trans ?_ (by assumption))))⟩
end Go.Proofs.Ytclajmbmchaidaa
