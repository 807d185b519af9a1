/-
  gradinelaw12.MqQueues answers true. No condition.
-/
import Derived.Test.YtibcfmnkpemieaaMqLaw
import Derived.Test.YtibcfmnkpemieaaAgg4
import Derived.Deep.RegionHeld3
namespace Go.Proofs.Ytibcfmnkpemieaa
open Go.RowKit

/-- an add of whatever block -/
def addI (p : Shp) (s : Mq) (b : Int) : Mq := if okB b then addQ p s b.toNat else s
theorem addI_keeps {p : Shp} {s : Mq} {k : Nat} (h : Inq p s) (hk : Small k s) (hk2 : k < 255) (hc : lenQ p s ≤ p.cap) (b : Int) : Inq p (addI p s b) ∧ lenQ p (addI p s b) ≤ p.cap ∧ Small (k + 1) (addI p s b) := by
  unfold addI
  split
  · obtain ⟨h1, h2⟩ := h.add (b := b.toNat) hk hk2 hc
    exact ⟨h1, h2, small_add hk⟩
  · exact ⟨h, hc, by have := hk.1; omega, fun x => by have := hk.2 x; omega⟩
theorem madd_any (pm bs be : Nat) (p : Shp) (s : Mq) (w : World) (h : MqAt w pm bs be p s) (b : Int) (hn : s.now < 1000000) (hf : ∀ b, s.of b < 255) :
    Calls Try.prog 30 #[.pointer (some ⟨pm, 0, none⟩), .int .i64 b] w fun e w' => ∃ x g f, e = .returned (.tuple #[.int .i64 x, .bool g, .int .i64 f]) ∧ MqAt w' pm bs be p (addI p s b) ∧ Chg [pm, bs, be] w w' := by
  unfold addI
  by_cases hb : okB b
  · rw [if_pos hb]
    obtain ⟨k, rfl⟩ := Int.eq_ofNat_of_zero_le hb.1
    rw [Int.toNat_natCast]
    refine (madd pm bs be p s w h k (by have := hb.2; omega) hn hf).mono ?_
    rintro e w' ⟨rfl, hm, hc⟩
    exact ⟨_, _, _, rfl, hm, hc⟩
  · rw [if_neg hb]
    have HM := Lib.hid h
    clear h hf
    by_cases h0 : 0 ≤ b
    · have h1 : 64 ≤ b := by unfold okB at hb; omega
      clear hb
      go_enter Try.func30, Try.ntmps30
      go_wp2_with fail
      go_ret3
      exact ⟨_, _, _, rfl, HM.out, Chg.refl _ _⟩
    · have h1 : b < 0 := by omega
      clear hb h0
      go_enter Try.func30, Try.ntmps30
      go_wp2_with fail
      go_ret3
      exact ⟨_, _, _, rfl, HM.out, Chg.refl _ _⟩
theorem wrap_pow {i f : Nat} (hi : i < 8) (h : 2 ^ i ≤ f) : RowKit.wrap64 ((2 : Int) ^ i) ≤ (f : Int) := by
  have h1 : ((2 ^ i : Nat) : Int) = (2 : Int) ^ i := by simp
  have h2 : 2 ^ i < 2 ^ 8 := Nat.pow_lt_pow_right (by decide) hi
  rw [← h1]
  generalize 2 ^ i = P at *
  have h3 : P < 256 := h2
  unfold RowKit.wrap64
  omega
theorem row2_cells {w w' : World} {b o n k : Nat} {F : Nat → Nat → Int} (hx : Ext w w') (hb : b < w.heap.size) (hc : ∀ i f, i < n → f < 2 → w.cell? ⟨b, o + (i * 2 + f), none⟩ = some (.int .i64 (F i f))) (hk : k < n) :
    w'.cell? ⟨b, o + k * 2, none⟩ = some (.int .i64 (F k 0)) ∧ w'.cell? ⟨b, o + k * 2 + 1, none⟩ = some (.int .i64 (F k 1)) :=
  ⟨(hx.cell hb).trans (hc k 0 hk (by omega)), (hx.cell hb).trans (hc k 1 hk (by omega))⟩

set_option maxRecDepth 4000 in
set_option maxHeartbeats 2000000 in
theorem walk_MqQueues (v0 v1 : Value) (w : World) (h0 : IsAgg4 v0) (h1 : IsRows 2 w v1) :
    Calls Try.prog 8 #[v0, v1] w fun e w' => e = .returned (.bool true) ∧ Ext w w' := by
  obtain ⟨c, q, l, g, rfl, _, _, _, _⟩ := h0
  obtain ⟨n, F, hr, _⟩ := h1
  obtain ⟨a, k0, rfl, hnk, hn63, hs⟩ := hr.parts
  have HS := Lib.hid hs
  clear hs hr hnk
  by_cases h150 : (150 : Int) < (n : Int)
  · go_enter Try.func8, Try.ntmps8
    go_wp2_with fail
    refine (wakes12 _).mono ?_
    rintro e w1 ⟨rfl, hx1⟩
    go_wp2_with fail
    go_ret
    exact ⟨rfl, (by repeat' (first | (with_reducible exact Ext.refl _) | (with_reducible assumption) | (with_reducible refine Ext.alloc ?_ _) | (with_reducible refine Ext.drewN ?_ _) | (with_reducible refine Ext.drew ?_) | (with_reducible refine Ext.trans ?_ (by assumption))))⟩
  · have hn150 : (n : Int) ≤ 150 := by omega
    go_enter Try.func8, Try.ntmps8
    go_wp2_with fail
    have q0 : (w.alloc (.cells #[.int .i64 c, .int .i64 q, .int .i64 l, .int .i64 g] 55)).cell? ⟨w.heap.size, 0, none⟩ = some (.int .i64 c) := cell_new _ _ _ _ rfl
    have q1 : (w.alloc (.cells #[.int .i64 c, .int .i64 q, .int .i64 l, .int .i64 g] 55)).cell? ⟨w.heap.size, 1, none⟩ = some (.int .i64 q) := cell_new _ _ _ _ rfl
    have q2 : (w.alloc (.cells #[.int .i64 c, .int .i64 q, .int .i64 l, .int .i64 g] 55)).cell? ⟨w.heap.size, 2, none⟩ = some (.int .i64 l) := cell_new _ _ _ _ rfl
    have q3 : (w.alloc (.cells #[.int .i64 c, .int .i64 q, .int .i64 l, .int .i64 g] 55)).cell? ⟨w.heap.size, 3, none⟩ = some (.int .i64 g) := cell_new _ _ _ _ rfl
    obtain ⟨w0, hw0⟩ : ∃ w0, w0 = w.alloc (.cells #[.int .i64 c, .int .i64 q, .int .i64 l, .int .i64 g] 55) := ⟨_, rfl⟩
    have hx0 : Ext w w0 := by rw [hw0]; exact (Ext.refl w).alloc _
    rw [← hw0] at q0 q1 q2 q3 ⊢
    clear hw0
    obtain ⟨pb, hpb⟩ : ∃ pb, pb = w.heap.size := ⟨_, rfl⟩
    rw [← hpb] at q0 q1 q2 q3 ⊢
    clear hpb
    refine (wakes12 _).mono ?_
    rintro e w1 ⟨rfl, hx1⟩
    have r0 := hx1.cellv q0
    have r1 := hx1.cellv q1
    have r2 := hx1.cellv q2
    have r3 := hx1.cellv q3
    have hX1 : Ext w w1 := hx0.trans hx1
    clear q0 q1 q2 q3 hx0 hx1
    go_wp2_with fail
    by_cases hok : okS c q l g
    · have hok' := hok
      unfold okS at hok'
      obtain ⟨⟨a1, a2⟩, ⟨a3, a4⟩, ⟨a5, a6⟩, a7, a8⟩ := hok'
      obtain ⟨cn, rfl⟩ := Int.eq_ofNat_of_zero_le (show 0 ≤ c by omega)
      obtain ⟨qn, rfl⟩ := Int.eq_ofNat_of_zero_le (show 0 ≤ q by omega)
      obtain ⟨ln, rfl⟩ := Int.eq_ofNat_of_zero_le (show 0 ≤ l by omega)
      obtain ⟨gn, rfl⟩ := Int.eq_ofNat_of_zero_le a7
      have ok : ShpOk ⟨cn, qn, ln, gn⟩ := ⟨show 1 ≤ cn by omega, show cn ≤ 16 by omega, show 1 ≤ qn by omega, show qn ≤ 8 by omega, show 1 ≤ ln by omega, show ln ≤ 100 by omega, show gn ≤ 16 by omega⟩
      refine (mnew ⟨cn, qn, ln, gn⟩ ok _).mono ?_
      rintro e w2 ⟨pm, bs, be, rfl, hm, hp, hb1, hb2, hx2⟩
      have hS1 : ∀ s ∈ [pm, bs, be], w1.heap.size ≤ s := by simp; omega
      have HS1 := Lib.hid hS1
      have hI := inq_new ok
      have hsm := small_new ⟨cn, qn, ln, gn⟩
      have hl0 : lenQ ⟨cn, qn, ln, gn⟩ (newQ ⟨cn, qn, ln, gn⟩) ≤ cn := by
        have key : ∀ m k, sumQ (List.replicate m ([] : List Nat)) k = 0 := by
          intro m k
          induction k with
          | zero => rfl
          | succ k ih =>
            rw [sumQ, ih]
            simp only [List.getD, List.getElem?_replicate]
            split <;> rfl
        show sumQ (List.replicate _ _) _ ≤ cn
        rw [key]; omega
      obtain ⟨p, hp9⟩ : ∃ p : Shp, p = ⟨cn, qn, ln, gn⟩ := ⟨_, rfl⟩
      have hqs : p.qs = qn := by rw [hp9]
      have hpc : p.cap = cn := by rw [hp9]
      rw [← hp9] at hm hI hsm hl0
      rw [← hpc] at hl0
      have HQS := Lib.hid hqs
      have hqi : (qn : Int) ≤ 8 := by omega
      clear hS1 r0 r2 r3 ok hp9 a1 a2 a3 a4 a5 a6 a7 a8 hok hqs hpc hp hb1 hb2
      go_wp2_with fail
      go_loopw [28] (fun ci wr => ∃ (k : Nat) (s : Mq), k ≤ n ∧ ci = .int .i64 k ∧ MqAt wr pm bs be p s ∧ Inq p s ∧ lenQ p s ≤ p.cap ∧ Small k s ∧ Ext w1 wr) (fun ci _ => n - (intOf ci).toNat)
      case atStart => exact ⟨0, newQ p, Nat.zero_le _, rfl, hm, hI, hl0, hsm, hx2⟩
      case round =>
        obtain ⟨k, s, hk, rfl, hm, hI, hle, hsm, hx⟩ := hrel
        have HM := Lib.hid hm
        have HI := Lib.hid hI
        have HLE := Lib.hid hle
        have HSM := Lib.hid hsm
        clear hm hI hle hsm
        by_cases hlt : k < n
        · obtain ⟨b, o, rfl, hb, hcell⟩ := HS.out (by omega)
          obtain ⟨e0, e1⟩ := row2_cells (hX1.trans hx) hb hcell hlt
          have hki : (k : Int) < (n : Int) := by omega
          generalize F k 0 = kd at *
          generalize F k 1 = bl at *
          clear hcell
          go_wp2_with fail
          refine (madd_any pm bs be p s _ (HM.out.ext (by repeat' (first | (with_reducible exact Ext.refl _) | (with_reducible assumption) | (with_reducible refine Ext.alloc ?_ _) | (with_reducible refine Ext.drewN ?_ _) | (with_reducible refine Ext.drew ?_) | (with_reducible refine Ext.trans ?_ (by assumption))))) bl (by have := HSM.out.1; omega) (fun b => by have := HSM.out.2 b; omega)).mono ?_
          rintro e w4 ⟨x4, g4, f4, rfl, hm4, hc4⟩
          have hx4 : Ext w1 w4 := Ext.chg (by repeat' (first | (with_reducible exact Ext.refl _) | (with_reducible assumption) | (with_reducible refine Ext.alloc ?_ _) | (with_reducible refine Ext.drewN ?_ _) | (with_reducible refine Ext.drew ?_) | (with_reducible refine Ext.trans ?_ (by assumption)))) hc4 HS1.out
          obtain ⟨i4, l4, s4⟩ := addI_keeps HI.out HSM.out (by omega) HLE.out bl
          obtain ⟨T, hT⟩ : ∃ T, addI p s bl = T := ⟨_, rfl⟩
          rw [hT] at hm4 i4 l4 s4
          have y1 := hx4.cellv r1
          have HM4 := Lib.hid hm4
          have HI4 := Lib.hid i4
          have HL4 := Lib.hid l4
          have HS4 := Lib.hid s4
          clear hT hm4 i4 l4 s4 hc4 e0 e1 HM HI HLE HSM
          go_wp2_with fail
          obtain ⟨wo, rfl⟩ : ∃ wo : World, wo = wr := ⟨_, rfl⟩
          go_loopw [38] (fun cq wj => ∃ i : Nat, i ≤ qn ∧ cq = .int .i64 i ∧ Ext w4 wj) (fun cq _ => qn - (intOf cq).toNat)
          case atStart => exact ⟨0, by omega, rfl, Ext.refl _⟩
          case round =>
            obtain ⟨i, hi, rfl, hxi⟩ := hrel
            by_cases hiq : i < qn
            · have hii : (i : Int) < (qn : Int) := by omega
              have hi8 : i < 8 := by omega
              obtain ⟨L, hL⟩ : ∃ L, T.Ls.getD i [] = L := ⟨_, rfl⟩
              have HL := Lib.hid hL
              have hl64 := space_len HM4.out.space (q := i) (by rw [HI4.out.len, HQS.out]; omega)
              rw [hL] at hl64
              have hLi : (L.length : Int) ≤ 64 := by omega
              clear hL hl64
              go_wp2_with fail
              refine (mqueue pm bs be p T _ (HM4.out.ext (by repeat' (first | (with_reducible exact Ext.refl _) | (with_reducible assumption) | (with_reducible refine Ext.alloc ?_ _) | (with_reducible refine Ext.drewN ?_ _) | (with_reducible refine Ext.drew ?_) | (with_reducible refine Ext.trans ?_ (by assumption))))) i (by rw [HQS.out]; exact hiq)).mono ?_
              rintro e w5 ⟨v5, rfl, ho5, hx5⟩
              rw [HL.out] at ho5
              obtain ⟨va, vc, rfl, _, _, _, hcv⟩ := ho5.rd.parts
              have hll : (asInts L).length = L.length := by simp [asInts]
              rw [hll] at hcv ⊢
              have HCV := Lib.hid hcv
              have hX5 : Ext w4 w5 := (by repeat' (first | (with_reducible exact Ext.refl _) | (with_reducible assumption) | (with_reducible refine Ext.alloc ?_ _) | (with_reducible refine Ext.drewN ?_ _) | (with_reducible refine Ext.drew ?_) | (with_reducible refine Ext.trans ?_ (by assumption))))
              clear hcv ho5 hll hx5
              go_wp2_with fail
              obtain ⟨wo2, rfl⟩ : ∃ wo2 : World, wo2 = wr := ⟨_, rfl⟩
              go_loopw [45] (fun cj wj => ∃ j : Nat, j ≤ L.length ∧ cj = .int .i64 j ∧ Ext w5 wj) (fun cj _ => L.length - (intOf cj).toNat)
              case atStart => exact ⟨0, by omega, rfl, Ext.refl _⟩
              case round =>
                obtain ⟨j, hj, rfl, hxj⟩ := hrel
                by_cases hjl : j < L.length
                · obtain ⟨vg, vo, rfl, _, hcc⟩ := HCV.out (by intro e; unfold asInts at e; rw [List.map_eq_nil_iff] at e; rw [e] at hjl; simp at hjl)
                  have z0 := hxj.cellv (hcc j hjl)
                  obtain ⟨b9, hb9⟩ : ∃ b9, L.getD j 0 = b9 := ⟨_, rfl⟩
                  have hgb : (asInts L).getD j 0 = (b9 : Int) := by rw [← hb9]; simp [asInts, List.getD, hjl]
                  rw [hgb] at z0
                  have hbm : b9 ∈ L := by rw [← hb9]; simp [List.getD, hjl]
                  have hbm2 : b9 ∈ T.Ls.getD i [] := by rw [HL.out]; exact hbm
                  have hb64 := space_lt HM4.out.space (by rw [HI4.out.len, HQS.out]; omega) hbm2
                  have hof := HI4.out.often i b9 (by rw [HQS.out]; exact hiq) hbm2
                  have hno : ofL T.Ls b9 ≠ none := fun h => of_none_mem h i hbm2
                  obtain ⟨f, hf⟩ : ∃ f, T.of b9 = f := ⟨_, rfl⟩
                  rw [hf] at hof
                  have HR := Lib.hid (show (if okB (b9 : Int) ∧ ofL T.Ls (b9 : Int).toNat ≠ none then T.of (b9 : Int).toNat else 0) = f by rw [Int.toNat_natCast, if_pos ⟨⟨by omega, by omega⟩, hno⟩]; exact hf)
                  have hji : (j : Int) < (L.length : Int) := by omega
                  clear hcc hb9 hgb hbm hbm2 hb64 hno hf
                  go_wp2_with fail
                  go_quiet ((go_at_call 32; exact Calls.quiet_of_same (v := .int .i64 f) ((moften pm bs be p T _ (HM4.out.ext (by repeat' (first | (with_reducible exact Ext.refl _) | (with_reducible assumption) | (with_reducible refine Ext.alloc ?_ _) | (with_reducible refine Ext.drewN ?_ _) | (with_reducible refine Ext.drew ?_) | (with_reducible refine Ext.trans ?_ (by assumption))))) b9 f HR.out).mono fun e w' h => ⟨h.1, h.2.symm⟩)))
                  have hPf := wrap_pow (show i < 8 by clear hof; omega) hof
                  obtain ⟨P, hP⟩ : ∃ P : Int, RowKit.wrap64 ((2 : Int) ^ i) = P := ⟨_, rfl⟩
                  rw [hP] at hPf ⊢
                  have hnl : ¬ (f : Int) < P := Int.not_lt.2 hPf
                  clear hP hof hPf
                  go_wp2_with fail
                  go_roundw
                  case rel => exact ⟨j + 1, by omega, by go_num, (by repeat' (first | (with_reducible exact Ext.refl _) | (with_reducible assumption) | (with_reducible refine Ext.alloc ?_ _) | (with_reducible refine Ext.drewN ?_ _) | (with_reducible refine Ext.drew ?_) | (with_reducible refine Ext.trans ?_ (by assumption))))⟩
                  case measure => simp [intOf]; omega
                · obtain rfl : j = L.length := by omega
                  go_wp2_with fail
                  go_roundw
                  case rel => exact ⟨i + 1, by omega, by go_num, (by repeat' (first | (with_reducible exact Ext.refl _) | (with_reducible assumption) | (with_reducible refine Ext.alloc ?_ _) | (with_reducible refine Ext.drewN ?_ _) | (with_reducible refine Ext.drew ?_) | (with_reducible refine Ext.trans ?_ (by assumption))))⟩
                  case measure => simp [intOf]; omega
            · obtain rfl : i = qn := by omega
              go_wp2_with fail
              go_roundw
              case rel => exact ⟨k + 1, T, by omega, by go_num, HM4.out.ext (by repeat' (first | (with_reducible exact Ext.refl _) | (with_reducible assumption) | (with_reducible refine Ext.alloc ?_ _) | (with_reducible refine Ext.drewN ?_ _) | (with_reducible refine Ext.drew ?_) | (with_reducible refine Ext.trans ?_ (by assumption)))), HI4.out, HL4.out, HS4.out, (by repeat' (first | (with_reducible exact Ext.refl _) | (with_reducible assumption) | (with_reducible refine Ext.alloc ?_ _) | (with_reducible refine Ext.drewN ?_ _) | (with_reducible refine Ext.drew ?_) | (with_reducible refine Ext.trans ?_ (by assumption))))⟩
              case measure => simp [intOf]; omega
        · obtain rfl : k = n := by omega
          go_wp2_with fail
          go_ret
          exact ⟨rfl, (by repeat' (first | (with_reducible exact Ext.refl _) | (with_reducible assumption) | (with_reducible refine Ext.alloc ?_ _) | (with_reducible refine Ext.drewN ?_ _) | (with_reducible refine Ext.drew ?_) | (with_reducible refine Ext.trans ?_ (by assumption))))⟩
    · refine (mnew_bad c q l g hok _).mono ?_
      rintro e w2 ⟨rfl, hx2⟩
      clear hok
      go_wp2_with fail
      go_ret
      exact ⟨rfl, (by repeat' (first | (with_reducible exact Ext.refl _) | (with_reducible assumption) | (with_reducible refine Ext.alloc ?_ _) | (with_reducible refine Ext.drewN ?_ _) | (with_reducible refine Ext.drew ?_) | (with_reducible refine Ext.trans ?_ (by assumption))))⟩
end Go.Proofs.Ytibcfmnkpemieaa
