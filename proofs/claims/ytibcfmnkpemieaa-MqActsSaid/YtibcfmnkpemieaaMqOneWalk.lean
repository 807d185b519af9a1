/-
  gradinelaw12.MqOne answers true. No condition.
-/
import Derived.Test.YtibcfmnkpemieaaMqOneLaw
import Derived.Test.YtibcfmnkpemieaaAgg4
namespace Go.Proofs.Ytibcfmnkpemieaa
open Go.RowKit

theorem Inq.use {p : Shp} {s : Mq} (h : Inq p s) {b k : Nat} (hk : Small k s) (hk2 : k < 255) (hc : lenQ p s ≤ p.cap) : Inq p (useQ p s b) ∧ lenQ p (useQ p s b) ≤ p.cap := by
  by_cases hh : hasQ p s b = true
  · have := h.add (b := b) hk hk2 hc
    unfold addQ at this
    rwa [if_pos hh] at this
  · unfold useQ
    rw [if_neg hh]
    exact ⟨h, hc⟩
theorem Inq.remove {p : Shp} {s : Mq} (h : Inq p s) (b : Nat) (hc : lenQ p s ≤ p.cap) : Inq p (removeQ s b) ∧ lenQ p (removeQ s b) ≤ p.cap := by
  refine ⟨⟨h.ok, (outL_length _ _).trans h.len, h.good.out b, fun q x hq hx => h.often q x hq (mem_out.1 hx).2, ?_⟩, ?_⟩
  · show ((outL s.Ls b).getD p.qs []).length ≤ p.gh
    rw [getD_out]
    exact Nat.le_trans (List.length_filter_le _ _) h.gh
  · show sumQ (outL s.Ls b) p.qs ≤ p.cap
    have h5 := sum_out h.good b p.qs
    unfold lenQ at hc
    by_cases e : ∃ q, q < p.qs ∧ b ∈ s.Ls.getD q []
    · have := h5.1 e; omega
    · have := h5.2 e; omega
/-- what an act does -/
def actS (p : Shp) (s : Mq) (kd b : Int) : Mq :=
  if kd = 0 then (if (okB b && hasQ p s b.toNat : Bool) then useQ p s b.toNat else s) else if kd = 1 then (if okB b then addQ p s b.toNat else s) else (if (okB b && hasQ p s b.toNat : Bool) then removeQ s b.toNat else s)
theorem one_step {p : Shp} {s : Mq} {k : Nat} (h : Inq p s) (q1 : p.qs = 1) (hk : Small k s) (hk2 : k < 255) (hc : lenQ p s ≤ p.cap) (hlt : ∀ b ∈ s.Ls.getD 0 [], b < 64) (kd b : Int) :
    Inq p (actS p s kd b) ∧ lenQ p (actS p s kd b) ≤ p.cap ∧ Small (k + 1) (actS p s kd b) ∧ (actS p s kd b).Ls.getD 0 [] = actL p.cap (s.Ls.getD 0 []) kd b := by
  have hsm : Small (k + 1) s := ⟨by have := hk.1; omega, fun x => by have := hk.2 x; omega⟩
  have hnot : ¬ (okB b ∧ b.toNat ∈ s.Ls.getD 0 []) → b ∉ asInts (s.Ls.getD 0 []) := by
    intro hn hm
    obtain ⟨h0, h1⟩ := mem_asInts.1 hm
    have := hlt _ h1
    exact hn ⟨⟨h0, by omega⟩, h1⟩
  unfold actS actL
  by_cases k0 : kd = 0
  · rw [if_pos k0, if_pos k0]
    by_cases hh : (okB b && hasQ p s b.toNat : Bool) = true
    · rw [if_pos hh]
      have hok : okB b := by simp at hh; exact hh.1
      obtain ⟨h1, h2⟩ := h.use (b := b.toNat) hk hk2 hc
      refine ⟨h1, h2, small_use hk, ?_⟩
      rw [one_use h q1, Int.toNat_of_nonneg hok.1]
    · rw [if_neg hh]
      refine ⟨h, hc, hsm, ?_⟩
      unfold useL
      rw [if_neg (hnot (fun h9 => hh (by rw [has_one h q1, decide_eq_true h9.2]; simp [h9.1])))]
  · rw [if_neg k0, if_neg k0]
    by_cases k1 : kd = 1
    · rw [if_pos k1, if_pos k1]
      by_cases hok : okB b
      · rw [if_pos hok]
        obtain ⟨h1, h2⟩ := h.add (b := b.toNat) hk hk2 hc
        refine ⟨h1, h2, small_add hk, ?_⟩
        have := (one_add h q1 hc (b := b.toNat) (by have := hok.1; have := hok.2; omega)).1
        rwa [Int.toNat_of_nonneg hok.1] at this
      · rw [if_neg hok]
        refine ⟨h, hc, hsm, ?_⟩
        unfold addL
        rw [if_neg hok]
    · rw [if_neg k1, if_neg k1]
      by_cases hh : (okB b && hasQ p s b.toNat : Bool) = true
      · rw [if_pos hh]
        have hok : okB b := by simp at hh; exact hh.1
        have hhas : hasQ p s b.toNat = true := by simp at hh; exact hh.2
        rw [has_one h q1] at hhas
        obtain ⟨h1, h2⟩ := h.remove b.toNat hc
        refine ⟨h1, h2, ⟨by have := hk.1; show s.now ≤ k + 1; omega, fun x => by have := hk.2 x; show s.of x ≤ k + 1; omega⟩, ?_⟩
        rw [one_remove, Int.toNat_of_nonneg hok.1]
        unfold remL
        rw [if_pos (mem_asInts.2 ⟨hok.1, of_decide_eq_true hhas⟩)]
      · rw [if_neg hh]
        refine ⟨h, hc, hsm, ?_⟩
        unfold remL
        rw [if_neg (hnot (fun h9 => hh (by rw [has_one h q1, decide_eq_true h9.2]; simp [h9.1])))]
theorem all_one_q {p : Shp} {s : Mq} (q1 : p.qs = 1) : allQ p s = s.Ls.getD 0 [] := by
  rw [allQ_from, q1]
  show s.Ls.getD (0 + 0) [] ++ [] = _
  rw [List.append_nil]
theorem madd_one (pm bs be : Nat) (p : Shp) (s : Mq) (w : World) (h : MqAt w pm bs be p s) (hI : Inq p s) (q1 : p.qs = 1) (hc : lenQ p s ≤ p.cap) (b : Int) (hn : s.now < 1000000) (hf : ∀ b, s.of b < 255) :
    Calls Try.prog 30 #[.pointer (some ⟨pm, 0, none⟩), .int .i64 b] w fun e w' => ∃ f, e = .returned (.tuple #[.int .i64 (addV p.cap (s.Ls.getD 0 []) b), .bool (addG p.cap (s.Ls.getD 0 []) b), .int .i64 f]) ∧ MqAt w' pm bs be p (actS p s 1 b) ∧ Chg [pm, bs, be] w w' := by
  have e : actS p s 1 b = if okB b then addQ p s b.toNat else s := by unfold actS; rw [if_neg (by omega), if_pos rfl]
  rw [e]
  by_cases hb : okB b
  · rw [if_pos hb]
    obtain ⟨k, rfl⟩ := Int.eq_ofNat_of_zero_le hb.1
    have hk64 : k < 64 := by have := hb.2; omega
    rw [Int.toNat_natCast]
    obtain ⟨_, a2, a3⟩ := one_add hI q1 hc hk64
    refine (madd pm bs be p s w h k hk64 hn hf).mono ?_
    rintro e w' ⟨rfl, hm, hcc⟩
    exact ⟨0, by rw [a2, a3], hm, hcc⟩
  · rw [if_neg hb]
    have e1 : addV p.cap (s.Ls.getD 0 []) b = 0 := by unfold addV; rw [if_neg (fun h => hb h.1)]
    have e2 : addG p.cap (s.Ls.getD 0 []) b = false := by unfold addG; simp only [decide_eq_false_iff_not]; exact fun h => hb h.1
    rw [e1, e2]
    have HM := Lib.hid h
    clear h hf hI e e1 e2 hc q1
    by_cases h0 : 0 ≤ b
    · have h1 : 64 ≤ b := by unfold okB at hb; omega
      clear hb
      go_enter Try.func30, Try.ntmps30
      go_wp2_with fail
      go_ret3
      exact ⟨3, rfl, HM.out, Chg.refl _ _⟩
    · have h1 : b < 0 := by omega
      clear hb h0
      go_enter Try.func30, Try.ntmps30
      go_wp2_with fail
      go_ret3
      exact ⟨3, rfl, HM.out, Chg.refl _ _⟩
theorem space_held_q {w : World} {bs be : Nat} {Ls : List (List Nat)} (h : SpaceAt w bs be Ls) {q : Nat} (hq : q < Ls.length) : (Ls.getD q []).Nodup ∧ ∀ x ∈ Ls.getD q [], x < 64 := by
  obtain ⟨A, E, _, hy⟩ := h
  exact ⟨hy.nodup q hq, fun x hx => (hy.mem hq hx).1⟩
theorem off_own {v v' : Value} {n m : Nat} {S : List Nat} (h : ∀ g, v'.ownBlock = some g → (n ≤ g ∧ g < m) ∨ v.ownBlock = some g) (h1 : ∀ g, v.ownBlock = some g → g ∉ S) (hS : ∀ s ∈ S, s < n) : ∀ g, v'.ownBlock = some g → g ∉ S := by
  intro g hg hm
  rcases h g hg with h2 | h2
  · have := hS g hm; omega
  · exact h1 g h2 hm

set_option maxRecDepth 4000 in
set_option maxHeartbeats 2000000 in
theorem walk_MqOne (v0 v1 : Value) (w : World) (h0 : IsAgg4 v0) (h1 : IsRows 2 w v1) :
    Calls Try.prog 9 #[v0, v1] w fun e w' => e = .returned (.bool true) ∧ Ext w w' := by
  obtain ⟨c, q, l, g, rfl, _, _, _, _⟩ := h0
  obtain ⟨n, F, hr, _⟩ := h1
  obtain ⟨a, k0, rfl, hnk, hn63, hs⟩ := hr.parts
  have HS := Lib.hid hs
  clear hs hr hnk
  by_cases h150 : (150 : Int) < (n : Int)
  · go_enter Try.func9, Try.ntmps9
    go_wp2_with fail
    refine (wakes12 _).mono ?_
    rintro e w1 ⟨rfl, hx1⟩
    go_wp2_with fail
    go_ret
    exact ⟨rfl, (by repeat' (first | (with_reducible exact Ext.refl _) | (with_reducible assumption) | (with_reducible refine Ext.alloc ?_ _) | (with_reducible refine Ext.drewN ?_ _) | (with_reducible refine Ext.drew ?_) | (with_reducible refine Ext.trans ?_ (by assumption))))⟩
  · have hn150 : (n : Int) ≤ 150 := by omega
    go_enter Try.func9, Try.ntmps9
    go_wp2_with fail
    have q0 : (w.alloc (.cells #[.int .i64 c, .int .i64 q, .int .i64 l, .int .i64 g] 55)).cell? ⟨w.heap.size, 0, none⟩ = some (.int .i64 c) := cell_new _ _ _ _ rfl
    have q1 : (w.alloc (.cells #[.int .i64 c, .int .i64 q, .int .i64 l, .int .i64 g] 55)).cell? ⟨w.heap.size, 1, none⟩ = some (.int .i64 q) := cell_new _ _ _ _ rfl
    have q2 : (w.alloc (.cells #[.int .i64 c, .int .i64 q, .int .i64 l, .int .i64 g] 55)).cell? ⟨w.heap.size, 2, none⟩ = some (.int .i64 l) := cell_new _ _ _ _ rfl
    have q3 : (w.alloc (.cells #[.int .i64 c, .int .i64 q, .int .i64 l, .int .i64 g] 55)).cell? ⟨w.heap.size, 3, none⟩ = some (.int .i64 g) := cell_new _ _ _ _ rfl
    obtain ⟨w0, hw0⟩ : ∃ w0, w0 = w.alloc (.cells #[.int .i64 c, .int .i64 q, .int .i64 l, .int .i64 g] 55) := ⟨_, rfl⟩
    have hx0 : Ext w w0 := by rw [hw0]; exact (Ext.refl w).alloc _
    have hfz0 : w0.frozen? ⟨w.heap.size, 1, none⟩ = false := by rw [hw0]; exact frozen_row (heap_alloc_new w _) 1
    have hp00 : w0.heap[w.heap.size]? = some (.cells #[.int .i64 c, .int .i64 q, .int .i64 l, .int .i64 g] 55 (0, 0)) := by rw [hw0]; exact heap_alloc_new w _
    rw [← hw0] at q0 q1 q2 q3 ⊢
    clear hw0
    obtain ⟨pb, hpb⟩ : ∃ pb, pb = w.heap.size := ⟨_, rfl⟩
    rw [← hpb] at q0 q1 q2 q3 hfz0 hp00 ⊢
    have hpbw : w.heap.size ≤ pb := by omega
    clear hpb
    have hpb0 : pb < w0.heap.size := cell_lt q0
    refine (wakes12 _).mono ?_
    rintro e w1 ⟨rfl, hx1⟩
    have r0 := hx1.cellv q0
    have r1 := hx1.cellv q1
    have r2 := hx1.cellv q2
    have r3 := hx1.cellv q3
    have hX1 : Ext w w1 := hx0.trans hx1
    have hx1b := hx1
    clear q0 q1 q2 q3 hx0 hx1
    have hfz : w1.frozen? ⟨pb, 1, none⟩ = false := (World.frozen?_of_block (a := ⟨pb, 1, none⟩) (Below.block hx1b _ hpb0)).trans hfz0
    have hp1 := (Below.block hx1b _ hpb0).trans hp00
    have HP1 := Lib.hid hp1
    clear hx1b hfz0 hp00 hp1
    go_wp2_with fail
    have hX1' : Ext w (w1.setCell ⟨pb, 1, none⟩ (.int .i64 1)) := Ext.chg (S := [pb]) hX1 ((Chg.refl _ _).setCell (.inl (by simp)) _) (by simpa using hpbw)
    have t0 : (w1.setCell ⟨pb, 1, none⟩ (.int .i64 1)).cell? ⟨pb, 0, none⟩ = some (.int .i64 c) := by
      rw [cell_of_row _ pb 0 _ _ _ (heap_set HP1.out _)]
      rfl
    have hsz : (w1.setCell ⟨pb, 1, none⟩ (.int .i64 1)).heap.size = w1.heap.size := by simp [World.setCell]
    generalize (w1.setCell ⟨pb, 1, none⟩ (.int .i64 1)) = w1' at *
    by_cases hok : okS c 1 l g
    · have hok' := hok
      unfold okS at hok'
      obtain ⟨⟨a1, a2⟩, _, ⟨a5, a6⟩, a7, a8⟩ := hok'
      obtain ⟨cn, rfl⟩ := Int.eq_ofNat_of_zero_le (show 0 ≤ c by omega)
      obtain ⟨ln, rfl⟩ := Int.eq_ofNat_of_zero_le (show 0 ≤ l by omega)
      obtain ⟨gn, rfl⟩ := Int.eq_ofNat_of_zero_le a7
      have ok : ShpOk ⟨cn, 1, ln, gn⟩ := ⟨show 1 ≤ cn by omega, show cn ≤ 16 by omega, Nat.le_refl _, show (1 : Nat) ≤ 8 by omega, show 1 ≤ ln by omega, show ln ≤ 100 by omega, show gn ≤ 16 by omega⟩
      refine (mnew ⟨cn, 1, ln, gn⟩ ok _).mono ?_
      rintro e w2 ⟨pm, bs, be, rfl, hm, hp, hb1, hb2, hx2⟩
      have hS1 : ∀ s ∈ [pm, bs, be], w1'.heap.size ≤ s := by simp; omega
      have HS1 := Lib.hid hS1
      have hI := inq_new ok
      have hsm := small_new ⟨cn, 1, ln, gn⟩
      have hl0 : lenQ ⟨cn, 1, ln, gn⟩ (newQ ⟨cn, 1, ln, gn⟩) ≤ cn := by
        have e : lenQ ⟨cn, 1, ln, gn⟩ (newQ ⟨cn, 1, ln, gn⟩) = 0 := rfl
        rw [e]; omega
      have hz0 : (newQ ⟨cn, 1, ln, gn⟩).Ls.getD 0 [] = [] := rfl
      have hcn : cn ≤ 16 := by omega
      obtain ⟨p, hp9⟩ : ∃ p : Shp, p = ⟨cn, 1, ln, gn⟩ := ⟨_, rfl⟩
      have hqs : p.qs = 1 := by rw [hp9]
      have hpc : p.cap = cn := by rw [hp9]
      rw [← hp9] at hm hI hsm hl0 hz0
      rw [← hpc] at hl0 t0 hcn
      have HQS := Lib.hid hqs
      clear hS1 r0 r1 r2 r3 ok hp9 a1 a2 a5 a6 a7 a8 hok hqs hpc hp hb1 hb2 hfz hX1
      go_wp2_with fail
      go_loopw [31, 7] (fun ci cv wr => ∃ (k : Nat) (s : Mq) (va : Option Addr) (vn vc : Nat) (L : List Nat), k ≤ n ∧ ci = .int .i64 k ∧ cv = .slice va vn vc ∧ MqAt wr pm bs be p s ∧ Inq p s ∧ lenQ p s ≤ p.cap ∧ Small k s ∧ RdI .i64 wr (.slice va vn vc) (asInts L) ∧ s.Ls.getD 0 [] = L ∧ (∀ g, (Value.slice va vn vc).ownBlock = some g → g ∉ [pm, bs, be]) ∧ Ext w1' wr) (fun ci _ _ => n - (intOf ci).toNat)
      case atStart => exact ⟨0, newQ p, none, 0, 0, [], Nat.zero_le _, rfl, rfl, hm, hI, hl0, hsm, RdI.nil _ _, hz0, fun g hg => (by cases hg), hx2⟩
      case round =>
        obtain ⟨k, s, va, vn, vc, L, hk, rfl, rfl, hm, hI, hle, hsm, hrd, hLs, hoff, hx⟩ := hrel
        have HM := Lib.hid hm
        have HI := Lib.hid hI
        have HLE := Lib.hid hle
        have HSM := Lib.hid hsm
        have HRD := Lib.hid hrd
        have HLS := Lib.hid hLs
        have HOFF := Lib.hid hoff
        clear hm hI hle hsm hrd hLs hoff
        by_cases hlt : k < n
        · obtain ⟨b, o, rfl, hb, hcell⟩ := HS.out (by omega)
          obtain ⟨e0, e1⟩ := row2_cells (hX1'.trans hx) hb hcell hlt
          have y0 := hx.cellv t0
          have hki : (k : Int) < (n : Int) := by omega
          generalize F k 0 = kd at *
          generalize F k 1 = bl at *
          clear hcell
          by_cases hkd : 0 ≤ kd ∧ kd ≤ 2
          · obtain ⟨k0, k2⟩ := hkd
            have hH : Held p.cap L := by
              have h9 := space_held_q HM.out.space (q := 0) (by rw [HM.out.len]; omega)
              rw [HLS.out] at h9
              refine ⟨h9.1, h9.2, ?_⟩
              have := HLE.out
              rw [len_one_q HQS.out, HLS.out] at this
              exact this
            have HH := Lib.hid hH
            have hact := one_step HI.out HQS.out HSM.out (by omega) HLE.out (fun b hb => by have h9 := space_held_q HM.out.space (q := 0) (by rw [HM.out.len]; omega); exact h9.2 b hb) kd bl
            rw [HLS.out] at hact
            have HACT := Lib.hid hact
            have y1 := ((Ext.refl wr).alloc (.cells #[.int .i64 kd, .int .i64 bl] 61)).cellv y0
            have hk0 : ¬ kd < 0 := by omega
            have hk2 : ¬ 2 < kd := by omega
            clear hH hact
            go_wp2_with fail
            refine (refdo_any _ L p.cap kd bl _ (HRD.out.ext (by repeat' (first | (with_reducible exact Ext.refl _) | (with_reducible assumption) | (with_reducible refine Ext.alloc ?_ _) | (with_reducible refine Ext.drewN ?_ _) | (with_reducible refine Ext.drew ?_) | (with_reducible refine Ext.trans ?_ (by assumption))))) HH.out hcn k0 k2).mono ?_
            rintro e w6 ⟨v6, rfl, hr6, hg6, hx6⟩
            have hoff6 : ∀ g, v6.ownBlock = some g → g ∉ [pm, bs, be] := off_own hg6 HOFF.out (by have h1 := HM.out.obj.lt; have h2 := HM.out.space.lt1; have h3 := HM.out.space.lt2; simp; omega)
            obtain ⟨a6, c6, hv6, _, _, _, _⟩ := hr6.parts
            obtain ⟨n6, hn6⟩ : ∃ n6, v6 = .slice a6 n6 c6 := ⟨_, hv6⟩
            clear hv6
            subst hn6
            obtain ⟨q, hq⟩ : ∃ q, decide (bl ∈ asInts L) = q := ⟨_, rfl⟩
            obtain ⟨V, hV⟩ : ∃ V, actV p.cap L kd bl = V := ⟨_, rfl⟩
            obtain ⟨G, hG⟩ : ∃ G, actG p.cap L kd bl = G := ⟨_, rfl⟩
            obtain ⟨E, hE⟩ : ∃ E, actE kd bl = E := ⟨_, rfl⟩
            rw [hq, hV, hG, hE]
            have HV := Lib.hid hV
            have HG := Lib.hid hG
            have HR6 := Lib.hid hr6
            have HOFF7 := Lib.hid hoff6
            have hX6 : Ext w1' w6 := (by repeat' (first | (with_reducible exact Ext.refl _) | (with_reducible assumption) | (with_reducible refine Ext.alloc ?_ _) | (with_reducible refine Ext.drewN ?_ _) | (with_reducible refine Ext.drew ?_) | (with_reducible refine Ext.trans ?_ (by assumption))))
            have hpm6 : w6.heap.size ∉ [pm, bs, be] := by
              have h1 := HM.out.obj.lt
              have h2 := HM.out.space.lt1
              have h3 := HM.out.space.lt2
              have h4 := hx6.size
              simp at h4 ⊢
              omega
            have HPM := Lib.hid hpm6
            have hm6 : MqAt w6 pm bs be p s := HM.out.ext (((Ext.refl wr).alloc _).trans hx6)
            have HM6 := Lib.hid hm6
            have f0 := hx6.cellv (show (wr.alloc (.cells #[.int .i64 kd, .int .i64 bl] 61)).cell? ⟨wr.heap.size, 0, none⟩ = some (.int .i64 kd) from cell_new _ _ _ _ rfl)
            have f1 := hx6.cellv (show (wr.alloc (.cells #[.int .i64 kd, .int .i64 bl] 61)).cell? ⟨wr.heap.size, 1, none⟩ = some (.int .i64 bl) from cell_new _ _ _ _ rfl)
            have hlt6 : wr.heap.size < w6.heap.size := by have h4 := hx6.size; simp at h4; omega
            obtain ⟨p8, hp8⟩ : ∃ p8, p8 = wr.heap.size := ⟨_, rfl⟩
            rw [← hp8] at f0 f1 hlt6 ⊢
            have hX67 : Ext w6 (w6.alloc (.cells #[.slice a6 n6 c6, .int .i64 V, .bool G, .bool q, .int .i64 E] 67)) := (Ext.refl w6).alloc _
            have g0 := hX67.cellv f0
            have g1 := hX67.cellv f1
            have g2 : (w6.alloc (.cells #[.slice a6 n6 c6, .int .i64 V, .bool G, .bool q, .int .i64 E] 67)).cell? ⟨w6.heap.size, 0, none⟩ = some (.slice a6 n6 c6) := cell_new _ _ _ _ rfl
            have g3 : (w6.alloc (.cells #[.slice a6 n6 c6, .int .i64 V, .bool G, .bool q, .int .i64 E] 67)).cell? ⟨w6.heap.size, 1, none⟩ = some (.int .i64 V) := cell_new _ _ _ _ rfl
            have g4 : (w6.alloc (.cells #[.slice a6 n6 c6, .int .i64 V, .bool G, .bool q, .int .i64 E] 67)).cell? ⟨w6.heap.size, 2, none⟩ = some (.bool G) := cell_new _ _ _ _ rfl
            have hX7 : Ext w1' (w6.alloc (.cells #[.slice a6 n6 c6, .int .i64 V, .bool G, .bool q, .int .i64 E] 67)) := hX6.trans hX67
            have HM7 := Lib.hid (hm6.ext hX67)
            have HR7 := Lib.hid (hr6.ext hX67)
            have hb60 : s.now < 1000000 := by have := HSM.out.1; omega
            have hb61 : ∀ b, s.of b < 255 := fun b => by have := HSM.out.2 b; omega
            have HB0 := Lib.hid hb60
            have HB1 := Lib.hid hb61
            have HX7 := Lib.hid hX7
            have G3 := Lib.hid g3
            have G4 := Lib.hid g4
            clear hr6 hoff6 hg6 hx6 hq hV hG hE e0 e1 hpm6 hm6 hp8 hb60 hb61 hX6 y0 y1 hX67 hk0 hk2 hX7 g2 g3 g4
            have h012 : kd = 0 ∨ kd = 1 ∨ kd = 2 := by omega
            rcases h012 with rfl | rfl | rfl
            · obtain ⟨r, hr⟩ : ∃ r : Bool, (okB bl && hasQ p s bl.toNat : Bool) = r := ⟨_, rfl⟩
              have HRR := Lib.hid hr
              clear hr
              go_wp2_with fail
              refine (muse pm bs be p s _ HM7.out bl r HRR.out HB0.out HB1.out).mono ?_
              rintro e w8 ⟨rfl, hm8', hc8⟩
              have hm8 : MqAt w8 pm bs be p (actS p s 0 bl) := by unfold actS; rw [if_pos rfl, HRR.out]; exact hm8'
              have HM8 := Lib.hid hm8
              have HL8 := Lib.hid (show RdI .i64 w8 (.slice a6 n6 c6) (asInts (actL p.cap L 0 bl)) from HR7.out.chg hc8 HOFF7.out)
              have hx8 : Ext w1' w8 := HX7.out.chg hc8 HS1.out
              clear hm8 hc8 hm8'
              go_wp2_with fail
              refine (mall pm bs be p _ _ HM8.out).mono ?_
              rintro e w9 ⟨v9, rfl, ho9, hx9⟩
              rw [all_one_q HQS.out, HACT.out.2.2.2] at ho9
              go_wp2_with fail
              refine (sameints_any _ _ _ _ _ (ho9.rd.ext (by repeat' (first | (with_reducible exact Ext.refl _) | (with_reducible assumption) | (with_reducible refine Ext.alloc ?_ _) | (with_reducible refine Ext.drewN ?_ _) | (with_reducible refine Ext.drew ?_) | (with_reducible refine Ext.trans ?_ (by assumption))))) (HL8.out.ext (by repeat' (first | (with_reducible exact Ext.refl _) | (with_reducible assumption) | (with_reducible refine Ext.alloc ?_ _) | (with_reducible refine Ext.drewN ?_ _) | (with_reducible refine Ext.drew ?_) | (with_reducible refine Ext.trans ?_ (by assumption)))))).mono ?_
              rintro e w10 ⟨rfl, hx10⟩
              simp only [decide_true]
              have hX10 : Ext w8 w10 := (by repeat' (first | (with_reducible exact Ext.refl _) | (with_reducible assumption) | (with_reducible refine Ext.alloc ?_ _) | (with_reducible refine Ext.drewN ?_ _) | (with_reducible refine Ext.drew ?_) | (with_reducible refine Ext.trans ?_ (by assumption))))
              go_wp2_with fail
              go_roundw
              case rel => exact ⟨k + 1, actS p s 0 bl, a6, n6, c6, actL p.cap L 0 bl, by omega, by go_num, rfl, HM8.out.ext hX10, HACT.out.1, HACT.out.2.1, HACT.out.2.2.1, HL8.out.ext hX10, HACT.out.2.2.2, HOFF7.out, hx8.trans hX10⟩
              case measure => simp [intOf]; omega
            · have e1 : addV p.cap L bl = V := HV.out
              have e2 : addG p.cap L bl = G := HG.out
              have E1 := Lib.hid e1
              have E2 := Lib.hid e2
              clear e1 e2
              go_wp2_with fail
              refine (madd_one pm bs be p s _ HM7.out HI.out HQS.out HLE.out bl HB0.out HB1.out).mono ?_
              rintro e w8 ⟨f8, rfl, hm8, hc8⟩
              rw [HLS.out, E1.out, E2.out]
              have z3 := chg_cell hc8 G3.out HPM.out
              have z4 := chg_cell hc8 G4.out HPM.out
              have HM8 := Lib.hid hm8
              have HL8 := Lib.hid (show RdI .i64 w8 (.slice a6 n6 c6) (asInts (actL p.cap L 1 bl)) from HR7.out.chg hc8 HOFF7.out)
              have hx8 : Ext w1' w8 := HX7.out.chg hc8 HS1.out
              clear hm8 hc8
              go_wp2_with fail
              refine (mall pm bs be p _ _ HM8.out).mono ?_
              rintro e w9 ⟨v9, rfl, ho9, hx9⟩
              rw [all_one_q HQS.out, HACT.out.2.2.2] at ho9
              go_wp2_with fail
              refine (sameints_any _ _ _ _ _ (ho9.rd.ext (by repeat' (first | (with_reducible exact Ext.refl _) | (with_reducible assumption) | (with_reducible refine Ext.alloc ?_ _) | (with_reducible refine Ext.drewN ?_ _) | (with_reducible refine Ext.drew ?_) | (with_reducible refine Ext.trans ?_ (by assumption))))) (HL8.out.ext (by repeat' (first | (with_reducible exact Ext.refl _) | (with_reducible assumption) | (with_reducible refine Ext.alloc ?_ _) | (with_reducible refine Ext.drewN ?_ _) | (with_reducible refine Ext.drew ?_) | (with_reducible refine Ext.trans ?_ (by assumption)))))).mono ?_
              rintro e w10 ⟨rfl, hx10⟩
              simp only [decide_true]
              have hX10 : Ext w8 w10 := (by repeat' (first | (with_reducible exact Ext.refl _) | (with_reducible assumption) | (with_reducible refine Ext.alloc ?_ _) | (with_reducible refine Ext.drewN ?_ _) | (with_reducible refine Ext.drew ?_) | (with_reducible refine Ext.trans ?_ (by assumption))))
              go_wp2_with fail
              go_roundw
              case rel => exact ⟨k + 1, actS p s 1 bl, a6, n6, c6, actL p.cap L 1 bl, by omega, by go_num, rfl, HM8.out.ext hX10, HACT.out.1, HACT.out.2.1, HACT.out.2.2.1, HL8.out.ext hX10, HACT.out.2.2.2, HOFF7.out, hx8.trans hX10⟩
              case measure => simp [intOf]; omega
            · obtain ⟨r, hr⟩ : ∃ r : Bool, (okB bl && hasQ p s bl.toNat : Bool) = r := ⟨_, rfl⟩
              have HRR := Lib.hid hr
              clear hr
              go_wp2_with fail
              refine (mremove pm bs be p s _ HM7.out bl r HRR.out).mono ?_
              rintro e w8 ⟨rfl, hm8', hc8'⟩
              have hc8 : Chg [pm, bs, be] _ w8 := hc8'.mono (by simp)
              have hm8 : MqAt w8 pm bs be p (actS p s 2 bl) := by unfold actS; rw [if_neg (by omega), if_neg (by omega), HRR.out]; exact hm8'
              have HM8 := Lib.hid hm8
              have HL8 := Lib.hid (show RdI .i64 w8 (.slice a6 n6 c6) (asInts (actL p.cap L 2 bl)) from HR7.out.chg hc8 HOFF7.out)
              have hx8 : Ext w1' w8 := HX7.out.chg hc8 HS1.out
              clear hm8 hc8 hm8' hc8'
              go_wp2_with fail
              refine (mall pm bs be p _ _ HM8.out).mono ?_
              rintro e w9 ⟨v9, rfl, ho9, hx9⟩
              rw [all_one_q HQS.out, HACT.out.2.2.2] at ho9
              go_wp2_with fail
              refine (sameints_any _ _ _ _ _ (ho9.rd.ext (by repeat' (first | (with_reducible exact Ext.refl _) | (with_reducible assumption) | (with_reducible refine Ext.alloc ?_ _) | (with_reducible refine Ext.drewN ?_ _) | (with_reducible refine Ext.drew ?_) | (with_reducible refine Ext.trans ?_ (by assumption))))) (HL8.out.ext (by repeat' (first | (with_reducible exact Ext.refl _) | (with_reducible assumption) | (with_reducible refine Ext.alloc ?_ _) | (with_reducible refine Ext.drewN ?_ _) | (with_reducible refine Ext.drew ?_) | (with_reducible refine Ext.trans ?_ (by assumption)))))).mono ?_
              rintro e w10 ⟨rfl, hx10⟩
              simp only [decide_true]
              have hX10 : Ext w8 w10 := (by repeat' (first | (with_reducible exact Ext.refl _) | (with_reducible assumption) | (with_reducible refine Ext.alloc ?_ _) | (with_reducible refine Ext.drewN ?_ _) | (with_reducible refine Ext.drew ?_) | (with_reducible refine Ext.trans ?_ (by assumption))))
              go_wp2_with fail
              go_roundw
              case rel => exact ⟨k + 1, actS p s 2 bl, a6, n6, c6, actL p.cap L 2 bl, by omega, by go_num, rfl, HM8.out.ext hX10, HACT.out.1, HACT.out.2.1, HACT.out.2.2.1, HL8.out.ext hX10, HACT.out.2.2.2, HOFF7.out, hx8.trans hX10⟩
              case measure => simp [intOf]; omega
          · have hnk : kd < 0 ∨ 2 < kd := by omega
            clear hkd
            rcases hnk with hnk | hnk
            · go_wp2_with fail
              go_roundw
              case rel => exact ⟨k + 1, s, va, vn, vc, L, by omega, by go_num, rfl, HM.out.ext (by repeat' (first | (with_reducible exact Ext.refl _) | (with_reducible assumption) | (with_reducible refine Ext.alloc ?_ _) | (with_reducible refine Ext.drewN ?_ _) | (with_reducible refine Ext.drew ?_) | (with_reducible refine Ext.trans ?_ (by assumption)))), HI.out, HLE.out, ⟨by have := HSM.out.1; omega, fun x => by have := HSM.out.2 x; omega⟩, HRD.out.ext (by repeat' (first | (with_reducible exact Ext.refl _) | (with_reducible assumption) | (with_reducible refine Ext.alloc ?_ _) | (with_reducible refine Ext.drewN ?_ _) | (with_reducible refine Ext.drew ?_) | (with_reducible refine Ext.trans ?_ (by assumption)))), HLS.out, HOFF.out, (by repeat' (first | (with_reducible exact Ext.refl _) | (with_reducible assumption) | (with_reducible refine Ext.alloc ?_ _) | (with_reducible refine Ext.drewN ?_ _) | (with_reducible refine Ext.drew ?_) | (with_reducible refine Ext.trans ?_ (by assumption))))⟩
              case measure => simp [intOf]; omega
            · have hk0 : ¬ kd < 0 := by omega
              go_wp2_with fail
              go_roundw
              case rel => exact ⟨k + 1, s, va, vn, vc, L, by omega, by go_num, rfl, HM.out.ext (by repeat' (first | (with_reducible exact Ext.refl _) | (with_reducible assumption) | (with_reducible refine Ext.alloc ?_ _) | (with_reducible refine Ext.drewN ?_ _) | (with_reducible refine Ext.drew ?_) | (with_reducible refine Ext.trans ?_ (by assumption)))), HI.out, HLE.out, ⟨by have := HSM.out.1; omega, fun x => by have := HSM.out.2 x; omega⟩, HRD.out.ext (by repeat' (first | (with_reducible exact Ext.refl _) | (with_reducible assumption) | (with_reducible refine Ext.alloc ?_ _) | (with_reducible refine Ext.drewN ?_ _) | (with_reducible refine Ext.drew ?_) | (with_reducible refine Ext.trans ?_ (by assumption)))), HLS.out, HOFF.out, (by repeat' (first | (with_reducible exact Ext.refl _) | (with_reducible assumption) | (with_reducible refine Ext.alloc ?_ _) | (with_reducible refine Ext.drewN ?_ _) | (with_reducible refine Ext.drew ?_) | (with_reducible refine Ext.trans ?_ (by assumption))))⟩
              case measure => simp [intOf]; omega
        · obtain rfl : k = n := by omega
          go_wp2_with fail
          go_ret
          exact ⟨rfl, (by repeat' (first | (with_reducible exact Ext.refl _) | (with_reducible assumption) | (with_reducible refine Ext.alloc ?_ _) | (with_reducible refine Ext.drewN ?_ _) | (with_reducible refine Ext.drew ?_) | (with_reducible refine Ext.trans ?_ (by assumption))))⟩
    · refine (mnew_bad c 1 l g hok _).mono ?_
      rintro e w2 ⟨rfl, hx2⟩
      clear hok
      go_wp2_with fail
      go_ret
      exact ⟨rfl, (by repeat' (first | (with_reducible exact Ext.refl _) | (with_reducible assumption) | (with_reducible refine Ext.alloc ?_ _) | (with_reducible refine Ext.drewN ?_ _) | (with_reducible refine Ext.drew ?_) | (with_reducible refine Ext.trans ?_ (by assumption))))⟩
end Go.Proofs.Ytibcfmnkpemieaa
