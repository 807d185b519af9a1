/-
  gradinelaw12.MqBound answers true. No condition.
-/
import Derived.Test.YtibcfmnkpemieaaMqQueuesWalk
namespace Go.Proofs.Ytibcfmnkpemieaa
open Go.RowKit

theorem mem_allFrom {s : Mq} {b : Nat} : ∀ {k : Nat}, b ∈ allFrom s k 0 → ∃ q, q < k ∧ b ∈ s.Ls.getD q [] := by
  intro k
  induction k with
  | zero => intro h; cases h
  | succ k ih =>
    intro h
    unfold allFrom at h
    rcases List.mem_append.1 h with h | h
    · exact ⟨k, by omega, by rwa [Nat.zero_add] at h⟩
    · obtain ⟨q, h1, h2⟩ := ih h
      exact ⟨q, by omega, h2⟩
theorem len_allFrom {s : Mq} : ∀ {k : Nat}, (allFrom s k 0).length = sumQ s.Ls k := by
  intro k
  induction k with
  | zero => rfl
  | succ k ih => rw [sumQ, ← ih]; show (s.Ls.getD (0 + k) [] ++ allFrom s k 0).length = _; rw [List.length_append, Nat.zero_add]; omega

set_option maxRecDepth 4000 in
set_option maxHeartbeats 2000000 in
theorem walk_MqBound (v0 v1 : Value) (w : World) (h0 : IsAgg4 v0) (h1 : IsRows 2 w v1) :
    Calls Try.prog 10 #[v0, v1] w fun e w' => e = .returned (.bool true) ∧ Ext w w' := by
  obtain ⟨c, q, l, g, rfl, _, _, _, _⟩ := h0
  obtain ⟨n, F, hr, _⟩ := h1
  obtain ⟨a, k0, rfl, hnk, hn63, hs⟩ := hr.parts
  have HS := Lib.hid hs
  clear hs hr hnk
  by_cases h150 : (150 : Int) < (n : Int)
  · go_enter Try.func10, Try.ntmps10
    go_wp2_with fail
    refine (wakes12 _).mono ?_
    rintro e w1 ⟨rfl, hx1⟩
    go_wp2_with fail
    go_ret
    exact ⟨rfl, (by repeat' (first | (with_reducible exact Ext.refl _) | (with_reducible assumption) | (with_reducible refine Ext.alloc ?_ _) | (with_reducible refine Ext.drewN ?_ _) | (with_reducible refine Ext.drew ?_) | (with_reducible refine Ext.trans ?_ (by assumption))))⟩
  · have hn150 : (n : Int) ≤ 150 := by omega
    go_enter Try.func10, Try.ntmps10
    go_wp2_with fail
    have q0 : (w.alloc (.cells #[.int .i64 c, .int .i64 q, .int .i64 l, .int .i64 g] 55)).cell? ⟨w.heap.size, 0, none⟩ = some (.int .i64 c) := cell_new _ _ _ _ rfl
    have q1 : (w.alloc (.cells #[.int .i64 c, .int .i64 q, .int .i64 l, .int .i64 g] 55)).cell? ⟨w.heap.size, 1, none⟩ = some (.int .i64 q) := cell_new _ _ _ _ rfl
    have q2 : (w.alloc (.cells #[.int .i64 c, .int .i64 q, .int .i64 l, .int .i64 g] 55)).cell? ⟨w.heap.size, 2, none⟩ = some (.int .i64 l) := cell_new _ _ _ _ rfl
    have q3 : (w.alloc (.cells #[.int .i64 c, .int .i64 q, .int .i64 l, .int .i64 g] 55)).cell? ⟨w.heap.size, 3, none⟩ = some (.int .i64 g) := cell_new _ _ _ _ rfl
    obtain ⟨w0, hw0⟩ : ∃ w0, w0 = w.alloc (.cells #[.int .i64 c, .int .i64 q, .int .i64 l, .int .i64 g] 55) := ⟨_, rfl⟩
    have hx0 : Ext w w0 := by rw [hw0]; exact (Ext.refl w).alloc _
    rw [← hw0] at q0 q1 q2 q3 ⊢
    clear hw0
    obtain ⟨pb, hpb⟩ : ∃ pb, pb = w.heap.size := ⟨_, rfl⟩
    rw [← hpb] at q0 q1 q2 q3 ⊢
    clear hpb
    refine (wakes12 _).mono ?_
    rintro e w1 ⟨rfl, hx1⟩
    have r0 := hx1.cellv q0
    have r1 := hx1.cellv q1
    have r2 := hx1.cellv q2
    have r3 := hx1.cellv q3
    have hX1 : Ext w w1 := hx0.trans hx1
    clear q0 q1 q2 q3 hx0 hx1
    go_wp2_with fail
    by_cases hok : okS c q l g
    · have hok' := hok
      unfold okS at hok'
      obtain ⟨⟨a1, a2⟩, ⟨a3, a4⟩, ⟨a5, a6⟩, a7, a8⟩ := hok'
      obtain ⟨cn, rfl⟩ := Int.eq_ofNat_of_zero_le (show 0 ≤ c by omega)
      obtain ⟨qn, rfl⟩ := Int.eq_ofNat_of_zero_le (show 0 ≤ q by omega)
      obtain ⟨ln, rfl⟩ := Int.eq_ofNat_of_zero_le (show 0 ≤ l by omega)
      obtain ⟨gn, rfl⟩ := Int.eq_ofNat_of_zero_le a7
      have ok : ShpOk ⟨cn, qn, ln, gn⟩ := ⟨show 1 ≤ cn by omega, show cn ≤ 16 by omega, show 1 ≤ qn by omega, show qn ≤ 8 by omega, show 1 ≤ ln by omega, show ln ≤ 100 by omega, show gn ≤ 16 by omega⟩
      refine (mnew ⟨cn, qn, ln, gn⟩ ok _).mono ?_
      rintro e w2 ⟨pm, bs, be, rfl, hm, hp, hb1, hb2, hx2⟩
      have hS1 : ∀ s ∈ [pm, bs, be], w1.heap.size ≤ s := by simp; omega
      have HS1 := Lib.hid hS1
      have hI := inq_new ok
      have hsm := small_new ⟨cn, qn, ln, gn⟩
      have hl0 : lenQ ⟨cn, qn, ln, gn⟩ (newQ ⟨cn, qn, ln, gn⟩) ≤ cn := by
        have key : ∀ m k, sumQ (List.replicate m ([] : List Nat)) k = 0 := by
          intro m k
          induction k with
          | zero => rfl
          | succ k ih =>
            rw [sumQ, ih]
            simp only [List.getD, List.getElem?_replicate]
            split <;> rfl
        show sumQ (List.replicate _ _) _ ≤ cn
        rw [key]; omega
      obtain ⟨p, hp9⟩ : ∃ p : Shp, p = ⟨cn, qn, ln, gn⟩ := ⟨_, rfl⟩
      have hqs : p.qs = qn := by rw [hp9]
      have hpc : p.cap = cn := by rw [hp9]
      rw [← hp9] at hm hI hsm hl0
      rw [← hpc] at hl0
      have HQS := Lib.hid hqs
      have hqi : (qn : Int) ≤ 8 := by omega
      have hgh : p.gh = gn := by rw [hp9]
      have HGH := Lib.hid hgh
      have HPC := Lib.hid hpc
      clear hS1 r2 ok hgh hp9 a1 a2 a3 a4 a5 a6 a7 a8 hok hqs hpc hp hb1 hb2
      go_wp2_with fail
      go_loopw [28] (fun ci wr => ∃ (k : Nat) (s : Mq), k ≤ n ∧ ci = .int .i64 k ∧ MqAt wr pm bs be p s ∧ Inq p s ∧ lenQ p s ≤ p.cap ∧ Small k s ∧ Ext w1 wr) (fun ci _ => n - (intOf ci).toNat)
      case atStart => exact ⟨0, newQ p, Nat.zero_le _, rfl, hm, hI, hl0, hsm, hx2⟩
      case round =>
        obtain ⟨k, s, hk, rfl, hm, hI, hle, hsm, hx⟩ := hrel
        have HM := Lib.hid hm
        have HI := Lib.hid hI
        have HLE := Lib.hid hle
        have HSM := Lib.hid hsm
        clear hm hI hle hsm
        by_cases hlt : k < n
        · obtain ⟨b, o, rfl, hb, hcell⟩ := HS.out (by omega)
          obtain ⟨e0, e1⟩ := row2_cells (hX1.trans hx) hb hcell hlt
          have hki : (k : Int) < (n : Int) := by omega
          generalize F k 0 = kd at *
          generalize F k 1 = bl at *
          clear hcell
          go_wp2_with fail
          refine (madd_any pm bs be p s _ (HM.out.ext (by repeat' (first | (with_reducible exact Ext.refl _) | (with_reducible assumption) | (with_reducible refine Ext.alloc ?_ _) | (with_reducible refine Ext.drewN ?_ _) | (with_reducible refine Ext.drew ?_) | (with_reducible refine Ext.trans ?_ (by assumption))))) bl (by have := HSM.out.1; omega) (fun b => by have := HSM.out.2 b; omega)).mono ?_
          rintro e w4 ⟨x4, g4, f4, rfl, hm4, hc4⟩
          have hx4 : Ext w1 w4 := Ext.chg (by repeat' (first | (with_reducible exact Ext.refl _) | (with_reducible assumption) | (with_reducible refine Ext.alloc ?_ _) | (with_reducible refine Ext.drewN ?_ _) | (with_reducible refine Ext.drew ?_) | (with_reducible refine Ext.trans ?_ (by assumption)))) hc4 HS1.out
          obtain ⟨i4, l4, s4⟩ := addI_keeps HI.out HSM.out (by omega) HLE.out bl
          obtain ⟨T, hT⟩ : ∃ T, addI p s bl = T := ⟨_, rfl⟩
          rw [hT] at hm4 i4 l4 s4
          have HM4 := Lib.hid hm4
          have HI4 := Lib.hid i4
          have HL4 := Lib.hid l4
          have HS4 := Lib.hid s4
          clear hT hm4 i4 l4 s4 hc4 e0 e1 HM HI HLE HSM
          have y0 := hx4.cellv r0
          have y3 := hx4.cellv r3
          obtain ⟨G, hG⟩ : ∃ G, T.Ls.getD p.qs [] = G := ⟨_, rfl⟩
          have hgg := HI4.out.gh
          rw [hG] at hgg
          have HG := Lib.hid hG
          obtain ⟨L, hL⟩ : ∃ L, allQ p T = L := ⟨_, rfl⟩
          have hLl : L.length = lenQ p T := by rw [← hL, allQ_from]; exact len_allFrom
          have HL := Lib.hid hL
          have hLc : L.length ≤ p.cap := by rw [hLl]; exact HL4.out
          have hL16 : (L.length : Int) ≤ 16 := by have := HI4.out.ok.c2; omega
          have HLC := Lib.hid hLc
          have HLQ := Lib.hid hLl.symm
          clear hG hL hLl hLc
          go_wp2_with fail
          refine (mghosts pm bs be p T _ HM4.out).mono ?_
          rintro e w5 ⟨v5, rfl, ho5, hx5⟩
          rw [HG.out] at ho5
          obtain ⟨ga, gc, rfl, _, _, _, _⟩ := ho5.rd.parts
          have hgl : (asInts G).length = G.length := by simp [asInts]
          have HO5 := Lib.hid ho5.rd
          rw [hgl] at HO5 ⊢
          have hX5 : Ext w4 w5 := hx5
          clear ho5 hx5 hgl
          go_wp2_with fail
          refine (mall pm bs be p T _ (HM4.out.ext hX5)).mono ?_
          rintro e w6 ⟨v6, rfl, ho6, hx6⟩
          rw [HL.out] at ho6
          obtain ⟨va, vc, rfl, _, _, _, hcv⟩ := ho6.rd.parts
          have hll : (asInts L).length = L.length := by simp [asInts]
          rw [hll] at hcv ⊢
          have HCV := Lib.hid hcv
          have hX6 : Ext w4 w6 := hX5.trans hx6
          have HO6 := Lib.hid (HO5.out.ext hx6)
          clear hcv ho6 hll hx6 hX5
          go_wp2_with fail
          obtain ⟨wo, rfl⟩ : ∃ wo : World, wo = wr := ⟨_, rfl⟩
          go_loopw [41] (fun cj wj => ∃ j : Nat, j ≤ L.length ∧ cj = .int .i64 j ∧ Ext w6 wj) (fun cj _ => L.length - (intOf cj).toNat)
          case atStart => exact ⟨0, by omega, rfl, Ext.refl _⟩
          case round =>
            obtain ⟨j, hj, rfl, hxj⟩ := hrel
            by_cases hjl : j < L.length
            · obtain ⟨vg, vo, rfl, _, hcc⟩ := HCV.out (by intro e; unfold asInts at e; rw [List.map_eq_nil_iff] at e; rw [e] at hjl; simp at hjl)
              have z0 := hxj.cellv (hcc j hjl)
              obtain ⟨b9, hb9⟩ : ∃ b9, L.getD j 0 = b9 := ⟨_, rfl⟩
              have hgb : (asInts L).getD j 0 = (b9 : Int) := by rw [← hb9]; simp [asInts, List.getD, hjl]
              rw [hgb] at z0
              have hbm : b9 ∈ L := by rw [← hb9]; simp [List.getD, hjl]
              obtain ⟨q9, hq9, hbq⟩ := mem_allFrom (s := T) (k := p.qs) (b := b9) (by rw [← allQ_from, HL.out]; exact hbm)
              have hb64 := space_lt HM4.out.space (by rw [HI4.out.len]; omega) hbq
              have hof := HI4.out.often q9 b9 hq9 hbq
              have hf1 : 1 ≤ T.of b9 := Nat.le_trans Nat.one_le_two_pow hof
              have hno : ofL T.Ls b9 ≠ none := fun h => of_none_mem h q9 hbq
              have hnG : b9 ∉ G := by rw [← HG.out]; intro hm; have := HI4.out.good.one _ _ _ hbq hm; omega
              have hhas := (has_mem HI4.out).2 ⟨q9, hq9, hbq⟩
              obtain ⟨f, hf⟩ : ∃ f, T.of b9 = f := ⟨_, rfl⟩
              rw [hf] at hf1
              have HR := Lib.hid (show (if okB (b9 : Int) ∧ ofL T.Ls (b9 : Int).toNat ≠ none then T.of (b9 : Int).toNat else 0) = f by rw [Int.toNat_natCast, if_pos ⟨⟨by omega, by omega⟩, hno⟩]; exact hf)
              have HH := Lib.hid (show (okB (b9 : Int) && hasQ p T (b9 : Int).toNat : Bool) = true by rw [Int.toNat_natCast, hhas]; simp; exact ⟨by omega, by omega⟩)
              have HNG := Lib.hid (show decide ((b9 : Int) ∈ asInts G) = false by simp only [decide_eq_false_iff_not]; intro hm; unfold asInts at hm; obtain ⟨x, hx, e⟩ := List.mem_map.1 hm; exact hnG (by have : x = b9 := (by omega); rw [← this]; exact hx))
              have hji : (j : Int) < (L.length : Int) := by omega
              have hfi : (1 : Int) ≤ (f : Int) := by omega
              have hfn : ¬ (f : Int) < 1 := by omega
              clear hcc hb9 hgb hbm hbq hb64 hof hno hnG hhas hf hq9 hf1
              go_wp2_with fail
              refine (has_any _ (asInts G) b9 _ (HO6.out.ext (by repeat' (first | (with_reducible exact Ext.refl _) | (with_reducible assumption) | (with_reducible refine Ext.alloc ?_ _) | (with_reducible refine Ext.drewN ?_ _) | (with_reducible refine Ext.drew ?_) | (with_reducible refine Ext.trans ?_ (by assumption)))))).mono ?_
              rintro e w7 ⟨rfl, hx7⟩
              rw [HNG.out]
              go_wp2_with fail
              refine (mhas pm bs be p T _ (HM4.out.ext (by repeat' (first | (with_reducible exact Ext.refl _) | (with_reducible assumption) | (with_reducible refine Ext.alloc ?_ _) | (with_reducible refine Ext.drewN ?_ _) | (with_reducible refine Ext.drew ?_) | (with_reducible refine Ext.trans ?_ (by assumption))))) b9 true HH.out).mono ?_
              rintro e w8 ⟨rfl, rfl⟩
              go_wp2_with fail
              refine (moften pm bs be p T _ (HM4.out.ext (by repeat' (first | (with_reducible exact Ext.refl _) | (with_reducible assumption) | (with_reducible refine Ext.alloc ?_ _) | (with_reducible refine Ext.drewN ?_ _) | (with_reducible refine Ext.drew ?_) | (with_reducible refine Ext.trans ?_ (by assumption))))) b9 f HR.out).mono ?_
              rintro e w8 ⟨rfl, rfl⟩
              go_wp2_with fail
              go_roundw
              case rel => exact ⟨j + 1, by omega, by go_num, (by repeat' (first | (with_reducible exact Ext.refl _) | (with_reducible assumption) | (with_reducible refine Ext.alloc ?_ _) | (with_reducible refine Ext.drewN ?_ _) | (with_reducible refine Ext.drew ?_) | (with_reducible refine Ext.trans ?_ (by assumption))))⟩
              case measure => simp [intOf]; omega
            · obtain rfl : j = L.length := by omega
              clear HCV
              have u0 := (hX6.trans hxj).cellv y0
              have u3 := (hX6.trans hxj).cellv y3
              have hN1 : ¬ cn < L.length := by have := HPC.out; have := HLC.out; omega
              have hN2 : ¬ gn < G.length := by have := HGH.out; omega
              have hM1 : ¬ (cn : Int) < (L.length : Int) := by omega
              have hM2 : ¬ (gn : Int) < (G.length : Int) := by omega
              have HLL := Lib.hid (show (asInts L).length = L.length by simp [asInts])
              go_wp2_with fail
              go_region_held3 (fun w' => w'.cell? ⟨pb, 0, none⟩ = some (.int .i64 cn) ∧ w'.cell? ⟨pb, 3, none⟩ = some (.int .i64 gn) ∧ Ext wr w') (exact ⟨Ext.cellv (w := wr) (by repeat' (first | (with_reducible exact Ext.refl _) | (with_reducible assumption) | (with_reducible refine Ext.alloc ?_ _) | (with_reducible refine Ext.drewN ?_ _) | (with_reducible refine Ext.drew ?_) | (with_reducible refine Ext.trans ?_ (by assumption)))) u0, Ext.cellv (w := wr) (by repeat' (first | (with_reducible exact Ext.refl _) | (with_reducible assumption) | (with_reducible refine Ext.alloc ?_ _) | (with_reducible refine Ext.drewN ?_ _) | (with_reducible refine Ext.drew ?_) | (with_reducible refine Ext.trans ?_ (by assumption)))) u3, (by repeat' (first | (with_reducible exact Ext.refl _) | (with_reducible assumption) | (with_reducible refine Ext.alloc ?_ _) | (with_reducible refine Ext.drewN ?_ _) | (with_reducible refine Ext.drew ?_) | (with_reducible refine Ext.trans ?_ (by assumption))))⟩)
                (first
                  | (go_at_call 41; refine (mlen pm bs be p T _ (HM4.out.ext (by repeat' (first | (with_reducible exact Ext.refl _) | (with_reducible assumption) | (with_reducible refine Ext.alloc ?_ _) | (with_reducible refine Ext.drewN ?_ _) | (with_reducible refine Ext.drew ?_) | (with_reducible refine Ext.trans ?_ (by assumption)))))).mono ?_; rintro e wL ⟨rfl, rfl⟩; rw [HLQ.out])
                  | (go_at_call 37; refine (mall pm bs be p T _ (HM4.out.ext (by repeat' (first | (with_reducible exact Ext.refl _) | (with_reducible assumption) | (with_reducible refine Ext.alloc ?_ _) | (with_reducible refine Ext.drewN ?_ _) | (with_reducible refine Ext.drew ?_) | (with_reducible refine Ext.trans ?_ (by assumption)))))).mono ?_; rintro e wA ⟨vA, rfl, hoA, hxA⟩; rw [HL.out] at hoA; obtain ⟨aA, cA, rfl, _, _, _, _⟩ := hoA.rd.parts; rw [HLL.out]))
              all_goals
                go_wp2_with fail
                go_roundw
                case rel => exact ⟨k + 1, T, by omega, by go_num, HM4.out.ext (by repeat' (first | (with_reducible exact Ext.refl _) | (with_reducible assumption) | (with_reducible refine Ext.alloc ?_ _) | (with_reducible refine Ext.drewN ?_ _) | (with_reducible refine Ext.drew ?_) | (with_reducible refine Ext.trans ?_ (by assumption)))), HI4.out, HL4.out, HS4.out, (by repeat' (first | (with_reducible exact Ext.refl _) | (with_reducible assumption) | (with_reducible refine Ext.alloc ?_ _) | (with_reducible refine Ext.drewN ?_ _) | (with_reducible refine Ext.drew ?_) | (with_reducible refine Ext.trans ?_ (by assumption))))⟩
                case measure => simp [intOf]; omega
        · obtain rfl : k = n := by omega
          go_wp2_with fail
          go_ret
          exact ⟨rfl, (by repeat' (first | (with_reducible exact Ext.refl _) | (with_reducible assumption) | (with_reducible refine Ext.alloc ?_ _) | (with_reducible refine Ext.drewN ?_ _) | (with_reducible refine Ext.drew ?_) | (with_reducible refine Ext.trans ?_ (by assumption))))⟩
    · refine (mnew_bad c q l g hok _).mono ?_
      rintro e w2 ⟨rfl, hx2⟩
      clear hok
      go_wp2_with fail
      go_ret
      exact ⟨rfl, (by repeat' (first | (with_reducible exact Ext.refl _) | (with_reducible assumption) | (with_reducible refine Ext.alloc ?_ _) | (with_reducible refine Ext.drewN ?_ _) | (with_reducible refine Ext.drew ?_) | (with_reducible refine Ext.trans ?_ (by assumption))))⟩
end Go.Proofs.Ytibcfmnkpemieaa
