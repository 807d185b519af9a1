/-
  gradinelaw13.UniActs answers true. No condition.
-/
import Derived.Test.YtibcfmnkpemieaaUniSame
import Derived.Test.YtibcfmnkpemieaaRecs
import Derived.Deep.RegionHeld3
namespace Go.Proofs.Ytibcfmnkpemieaa
open Go.RowKit

/-- a stack and the document's, side by side -/
structure Both (w : World) (p bs be px : Nat) (vL vC : Value) (caps : Nat → Nat) (M : List Nat) (lv : Nat → Nat) (Mr : List Nat) (lvr : Nat → Nat) : Prop where
  uni : UniAt w p bs be caps M lv
  ref : RefAt w px vL vC caps Mr lvr
  nx : px ∉ [p, bs, be]
  offL : ∀ g, vL.ownBlock = some g → g ∉ [p, bs, be]
  offC : ∀ g, vC.ownBlock = some g → g ∉ [p, bs, be]
section
variable {w w' : World} {p bs be px : Nat} {vL vC : Value} {caps : Nat → Nat} {M : List Nat} {lv : Nat → Nat} {Mr : List Nat} {lvr : Nat → Nat}
theorem Both.ext (h : Both w p bs be px vL vC caps M lv Mr lvr) (hx : Ext w w') : Both w' p bs be px vL vC caps M lv Mr lvr := ⟨h.uni.ext hx, h.ref.ext hx, h.nx, h.offL, h.offC⟩
theorem Both.lts (h : Both w p bs be px vL vC caps M lv Mr lvr) : ∀ s ∈ [p, bs, be], s < w.heap.size := by
  have := h.uni.obj.lt
  have := h.uni.space.lt1
  have := h.uni.space.lt2
  simp; omega
theorem Both.stepU (h : Both w p bs be px vL vC caps M lv Mr lvr) {M' : List Nat} {lv' : Nat → Nat} (hu : UniAt w' p bs be caps M' lv') (hc : Chg [p, bs, be] w w') : Both w' p bs be px vL vC caps M' lv' Mr lvr :=
  ⟨hu, h.ref.chg hc h.nx h.offL h.offC, h.nx, h.offL, h.offC⟩
theorem Both.stepR (h : Both w p bs be px vL vC caps M lv Mr lvr) {M' : List Nat} {lv' : Nat → Nat} {vL' : Value} (hr : RefAt w' px vL' vC caps M' lv') (hf : Frs w.heap.size vL vL') (hc : Chg [px] w w') : Both w' p bs be px vL' vC caps M lv M' lv' := by
  have hn := h.nx
  simp at hn
  refine ⟨h.uni.chg hc (by simp; omega) (by simp; omega) (by simp; omega), hr, h.nx, ?_, h.offC⟩
  intro g hg hm
  rcases hf g hg with h1 | h1
  · exact h.offL g h1 hm
  · have := h.lts g hm; omega
theorem Both.out_level (h : Both w p bs be px vL vC caps M lv M lv) {b : Int} (hb : b ∉ asInts M) : (if okB b then lv b.toNat else 0) = 0 := by
  split
  · rename_i ho
    by_cases e : lv b.toNat = 0
    · exact e
    · exact absurd (mem_asInts.2 ⟨ho.1, (h.uni.stk.mem _).2 e⟩) hb
  · rfl
end
theorem bdropU (p bs be px : Nat) (vL vC : Value) (caps : Nat → Nat) (M : List Nat) (lv : Nat → Nat) (Mr : List Nat) (lvr : Nat → Nat) (w : World) (h : Both w p bs be px vL vC caps M lv Mr lvr) (b : Int) (r : Bool) (hr : decide (b ∈ asInts M) = r) :
    Calls Try.prog 21 #[.pointer (some ⟨p, 0, none⟩), .int .i64 b] w fun e w' => e = .returned (.bool r) ∧ Both w' p bs be px vL vC caps (dropM M lv b).1 (dropM M lv b).2 Mr lvr ∧ Chg [p, bs, be] w w' :=
  (udrop p bs be caps M lv w h.uni b r hr).mono fun _ _ ⟨he, hu, hc⟩ => ⟨he, h.stepU hu hc, hc⟩
theorem bdropR (p bs be px : Nat) (vL vC : Value) (caps : Nat → Nat) (M : List Nat) (lv : Nat → Nat) (Mr : List Nat) (lvr : Nat → Nat) (w : World) (h : Both w p bs be px vL vC caps M lv Mr lvr) (hs : Stk Mr lvr) (hl : Mr.length ≤ 64) (b : Int) (r : Bool) (hr : decide (b ∈ asInts Mr) = r) :
    Calls Try.prog 22 #[.pointer (some ⟨px, 0, none⟩), .int .i64 b] w fun e w' => e = .returned (.bool r) ∧ ∃ vL', Both w' p bs be px vL' vC caps M lv (dropM Mr lvr b).1 (dropM Mr lvr b).2 ∧ Chg [px] w w' :=
  (rdrop px vL vC caps Mr lvr w h.ref hs hl b r hr).mono fun _ _ ⟨he, vL', hr', hf, hc⟩ => ⟨he, vL', h.stepR hr' hf hc, hc⟩

theorem acts13 {w : World} {v : Value} (h : IsRecs Try.prog 44 w v) : ∃ n V, ∃ T : Nat → Bool × Int, RdV 2 w v n V ∧ ∀ i, i < n → V i 0 = .bool (T i).1 ∧ V i 1 = .int .i64 (T i).2 := by
  obtain ⟨fs, n, V, he, hr, hc⟩ := h
  have hfs := he.symm.trans Try.underlying44
  simp only [Option.some.injEq, TypeDesc.struct.injEq] at hfs
  subst hfs
  have each : ∀ i, ∃ t : Bool × Int, i < n → V i 0 = .bool t.1 ∧ V i 1 = .int .i64 t.2 := by
    intro i
    by_cases hi : i < n
    · obtain ⟨k, hk⟩ := (hc i 0 _ hi rfl).bool Try.underlying4
      obtain ⟨a, ha, _⟩ := (hc i 1 _ hi rfl).int Try.underlying3
      exact ⟨(k, a), fun _ => ⟨hk, ha⟩⟩
    · exact ⟨(false, 0), fun h => absurd h hi⟩
  obtain ⟨T, hT⟩ := Classical.axiomOfChoice each
  exact ⟨n, V, T, hr, hT⟩

set_option maxRecDepth 100000 in
set_option maxHeartbeats 4000000 in
theorem walk_UniActs (v0 v1 : Value) (w : World) (h0 : IsArr .i64 3 v0) (h1 : IsRecs Try.prog 44 w v1) :
    Calls Try.prog 6 #[v0, v1] w fun e w' => e = .returned (.bool true) ∧ Ext w w' := by
  obtain ⟨c1, c2, c3, rfl, _, _, _⟩ := h0.three
  obtain ⟨n, V, T, hr, hT⟩ := acts13 h1
  obtain ⟨a, cp, rfl, hnc, hcm, hnil, hs⟩ := hr
  have hn63 : (n : Int) ≤ 9223372036854775807 := by unfold maxLen at hcm; omega
  have HS := Lib.hid hs
  have HT := Lib.hid hT
  clear h0 h1 hs hT hnil hnc hcm
  by_cases h120 : (120 : Int) < (n : Int)
  · go_enter Try.func6, Try.ntmps6
    go_wp2_with fail
    refine (wakes13 _).mono ?_
    rintro e w1 ⟨rfl, hx1⟩
    go_wp2_with fail
    go_ret
    exact ⟨rfl, (by repeat' (first | (with_reducible exact Ext.refl _) | (with_reducible assumption) | (with_reducible refine Ext.alloc ?_ _) | (with_reducible refine Ext.drewN ?_ _) | (with_reducible refine Ext.drew ?_) | (with_reducible refine Ext.trans ?_ (by assumption))))⟩
  · have hn120 : (n : Int) ≤ 120 := by omega
    go_enter Try.func6, Try.ntmps6
    go_wp2_with fail
    have q0 : (w.alloc (.cells #[.int .i64 c1, .int .i64 c2, .int .i64 c3] 22)).cell? ⟨w.heap.size, 0, none⟩ = some (.int .i64 c1) := cell_new _ _ _ _ rfl
    have q1 : (w.alloc (.cells #[.int .i64 c1, .int .i64 c2, .int .i64 c3] 22)).cell? ⟨w.heap.size, 1, none⟩ = some (.int .i64 c2) := cell_new _ _ _ _ rfl
    have q2 : (w.alloc (.cells #[.int .i64 c1, .int .i64 c2, .int .i64 c3] 22)).cell? ⟨w.heap.size, 2, none⟩ = some (.int .i64 c3) := cell_new _ _ _ _ rfl
    obtain ⟨w0, hw0⟩ : ∃ w0, w0 = w.alloc (.cells #[.int .i64 c1, .int .i64 c2, .int .i64 c3] 22) := ⟨_, rfl⟩
    have hx0 : Ext w w0 := by rw [hw0]; exact (Ext.refl w).alloc _
    rw [← hw0] at q0 q1 q2 ⊢
    clear hw0
    obtain ⟨pb, hpb⟩ : ∃ pb, pb = w.heap.size := ⟨_, rfl⟩
    rw [← hpb] at q0 q1 q2 ⊢
    clear hpb
    refine (wakes13 _).mono ?_
    rintro e w1 ⟨rfl, hx1⟩
    have r0 := hx1.cellv q0
    have r1 := hx1.cellv q1
    have r2 := hx1.cellv q2
    have hX1 : Ext w w1 := hx0.trans hx1
    clear q0 q1 q2
    go_wp2_with fail
    refine (unew c1 c2 c3 _).mono ?_
    intro e w2 hr
    rcases hr with ⟨hno, rfl, hx2⟩ | ⟨⟨o1, o2, o3⟩, p, bs, be, rfl, hU, hp, hb1, hb2, hx2⟩
    · have r0 := hx2.cellv r0
      have r1 := hx2.cellv r1
      have r2 := hx2.cellv r2
      have HNO := Lib.hid hno
      clear hno
      go_wp2_with fail
      refine (rright13 c1 c2 c3 false (by simpa using HNO.out) _).mono ?_
      rintro e w3 ⟨rfl, hx3⟩
      go_wp2_with fail
      go_ret
      exact ⟨rfl, (by repeat' (first | (with_reducible exact Ext.refl _) | (with_reducible assumption) | (with_reducible refine Ext.alloc ?_ _) | (with_reducible refine Ext.drewN ?_ _) | (with_reducible refine Ext.drew ?_) | (with_reducible refine Ext.trans ?_ (by assumption))))⟩
    · have r0 := hx2.cellv r0
      have r1 := hx2.cellv r1
      have r2 := hx2.cellv r2
      have HO := Lib.hid (And.intro o1 (And.intro o2 o3))
      have hX2 : Ext w w2 := hX1.trans hx2
      have hw1 := hX1.size
      have hS1 : ∀ s ∈ [p, bs, be], w.heap.size ≤ s := by simp; omega
      have HS1 := Lib.hid hS1
      obtain ⟨caps, hcaps⟩ : ∃ caps, caps = capF c1 c2 c3 := ⟨_, rfl⟩
      rw [← hcaps] at hU
      have HCAPS := Lib.hid hcaps
      have HUU := Lib.hid hU
      clear hcaps hS1 o1 o2 o3 hx0 hx1 hx2 hX1 hU hp hb1 hb2
      go_wp2_with fail
      refine (rright13 c1 c2 c3 true (by simpa using HO.out) _).mono ?_
      rintro e w3 ⟨rfl, hx3⟩
      have r0 := hx3.cellv r0
      have r1 := hx3.cellv r1
      have r2 := hx3.cellv r2
      go_wp2_with fail
      refine (rnew13 c1 c2 c3 HO.out.1 HO.out.2.1 HO.out.2.2 _).mono ?_
      rintro e w4 ⟨px, vC, rfl, hR, hpx, hvc, hx4⟩
      have hX24 : Ext w2 w4 := (by repeat' (first | (with_reducible exact Ext.refl _) | (with_reducible assumption) | (with_reducible refine Ext.alloc ?_ _) | (with_reducible refine Ext.drewN ?_ _) | (with_reducible refine Ext.drew ?_) | (with_reducible refine Ext.trans ?_ (by assumption))))
      have hX4 : Ext w w4 := hX2.trans hX24
      have hB0 : Both w4 p bs be px (.slice none 0 0) vC caps [] (fun _ => 0) [] (fun _ => 0) := by
        have h1 := HUU.out.obj.lt
        have h2 := HUU.out.space.lt1
        have h3 := HUU.out.space.lt2
        have hl : ∀ s ∈ [p, bs, be], s < w3.heap.size := by have := hx3.size; simp; omega
        refine ⟨HUU.out.ext hX24, by rw [HCAPS.out]; exact hR, fun hm => (by have := hl _ hm; omega), fun g hg => (by cases hg), fun g hg hm => (by have := hl _ hm; have := hvc g hg; omega)⟩
      have hpw : w.heap.size ≤ px := by have := hX2.size; have := hx3.size; omega
      have HPW := Lib.hid hpw
      clear r0 r1 r2 hx3 hx4 hR hvc hX24 hX2 hpw hpx
      go_wp2_with fail
      go_loopw [40] (fun ci wr => ∃ (k : Nat) (M : List Nat) (lv : Nat → Nat) (vL : Value), k ≤ n ∧ ci = .int .i64 k ∧ Both wr p bs be px vL vC caps M lv M lv ∧ Ext w wr) (fun ci _ => n - (intOf ci).toNat)
      case atStart => exact ⟨0, [], fun _ => 0, _, Nat.zero_le _, rfl, hB0, hX4⟩
      case round =>
        obtain ⟨k, M, lv, vL, hk, rfl, hB, hx⟩ := hrel
        by_cases hlt : k < n
        · have hki : (k : Int) < (n : Int) := by omega
          obtain ⟨b, o, rfl, hb, hcell⟩ := HS.out (by omega)
          have e0 := (hx.cell hb).trans (hcell k 0 hlt (by omega))
          have e1 := (hx.cell hb).trans (hcell k 1 hlt (by omega))
          rw [(HT.out k hlt).1] at e0
          rw [(HT.out k hlt).2] at e1
          rw [← Nat.add_assoc] at e0 e1
          obtain ⟨⟨dr, bl⟩, hTk⟩ : ∃ x, T k = x := ⟨_, rfl⟩
          rw [hTk] at e0 e1
          simp only [Nat.add_zero] at e0 e1
          have hstk := hB.uni.stk
          have hlen := hB.uni.len
          have hlts := hB.lts
          have hpxl := hB.ref.lt
          have HB := Lib.hid hB
          have HSTK := Lib.hid hstk
          clear hcell hTk hB hstk
          have d0 : (wr.alloc (.cells #[.bool dr, .int .i64 bl] 44 (0, 0))).cell? ⟨wr.heap.size, 0, none⟩ = some (.bool dr) := cell_new _ _ _ _ rfl
          have d1 : (wr.alloc (.cells #[.bool dr, .int .i64 bl] 44 (0, 0))).cell? ⟨wr.heap.size, 1, none⟩ = some (.int .i64 bl) := cell_new _ _ _ _ rfl
          have hX5 : Ext w (wr.alloc (.cells #[.bool dr, .int .i64 bl] 44 (0, 0))) := (by repeat' (first | (with_reducible exact Ext.refl _) | (with_reducible assumption) | (with_reducible refine Ext.alloc ?_ _) | (with_reducible refine Ext.drewN ?_ _) | (with_reducible refine Ext.drew ?_) | (with_reducible refine Ext.trans ?_ (by assumption))))
          have hB5 := HB.out.ext ((Ext.refl wr).alloc (.cells #[.bool dr, .int .i64 bl] 44 (0, 0)))
          have hpa1 : wr.heap.size ∉ [p, bs, be] := fun hm => by have := hlts _ hm; omega
          have hpa2 : wr.heap.size ∉ [px] := by simp; omega
          have HPA := Lib.hid (And.intro hpa1 hpa2)
          obtain ⟨D, hD⟩ : ∃ D, dropM M lv bl = D := ⟨_, rfl⟩
          obtain ⟨rr, hrr⟩ : ∃ rr, decide (bl ∈ asInts M) = rr := ⟨_, rfl⟩
          have HD := Lib.hid hD
          have HRR := Lib.hid hrr
          have HB5 := Lib.hid hB5
          clear hB5 hpa1 hpa2 hD hrr HB hlts hpxl hx
          cases dr
          · clear HD HRR
            by_cases hin : okB bl
            · obtain ⟨h0, h63⟩ := hin
              obtain ⟨y, rfl⟩ := Int.eq_ofNat_of_zero_le h0
              have hy : y < 64 := by omega
              have hy63 : ¬ (63 : Int) < (y : Int) := by omega
              have hyn : ¬ (y : Int) < 0 := by omega
              have hyd : decide ((y : Int) < 0) = false := decide_eq_false hyn
              obtain ⟨DD, hDD⟩ : ∃ DD, usedM caps M lv y = DD := ⟨_, rfl⟩
              obtain ⟨nu, hnu⟩ : ∃ nu, nextU caps M lv y = nu := ⟨_, rfl⟩
              obtain ⟨ms, hms⟩ : ∃ ms, movesU caps M lv y = ms := ⟨_, rfl⟩
              have HDD := Lib.hid hDD
              have HNU := Lib.hid hnu
              have HMS := Lib.hid hms
              clear hDD hnu hms D rr
              go_wp2_with fail
              refine (ruse px vL vC caps M lv _ HB5.out.ref HSTK.out hlen y hy).mono ?_
              rintro e w6 ⟨vm, vZ, rfl, hom, hr6, hf6, hc6⟩
              rw [HNU.out]
              rw [HMS.out] at hom
              rw [HDD.out] at hr6
              obtain ⟨am, cm, rfl⟩ := hom.len
              have hB6 := HB5.out.stepR hr6 hf6 hc6
              have hX6 : Ext w w6 := Ext.chg hX5 hc6 (by simpa using HPW.out)
              have hl5 := HB5.out.lts
              have d1 := chg_cell hc6 d1 HPA.out.2
              have hl6 := hB6.lts
              have HB6 := Lib.hid hB6
              clear hr6 hf6 hc6 hB6 d0 e0 e1 hb HB5
              have d1 := cell_old (.cells #[.int .i64 nu, .slice am ms.length cm] 47) d1
              have f0 : (w6.alloc (.cells #[.int .i64 nu, .slice am ms.length cm] 47)).cell? ⟨w6.heap.size, 0, none⟩ = some (.int .i64 nu) := cell_new _ _ _ _ rfl
              have f1 : (w6.alloc (.cells #[.int .i64 nu, .slice am ms.length cm] 47)).cell? ⟨w6.heap.size, 1, none⟩ = some (.slice am ms.length cm) := cell_new _ _ _ _ rfl
              go_wp2_with fail
              have hX7 : Ext w (w6.alloc (.cells #[.int .i64 nu, .slice am ms.length cm] 47)) := hX6.alloc _
              have HB7 := Lib.hid (HB6.out.ext ((Ext.refl w6).alloc (.cells #[.int .i64 nu, .slice am ms.length cm] 47)))
              have hom7 := hom.ext ((Ext.refl w6).alloc (.cells #[.int .i64 nu, .slice am ms.length cm] 47))
              have hpf : w6.heap.size ∉ [p, bs, be] := fun hm => by have := hl6 _ hm; omega
              generalize (w6.alloc (.cells #[.int .i64 nu, .slice am ms.length cm] 47)) = w7 at *
              refine (uuse p bs be caps M lv _ HB7.out.uni y hy).mono ?_
              rintro e w8 ⟨v8, rfl, hu8, hom8, hc8⟩
              rw [HNU.out]
              rw [HMS.out] at hom8
              rw [HDD.out] at hu8
              have HBZ := Lib.hid (HB7.out.stepU hu8 hc8)
              have hXZ : Ext w w8 := Ext.chg hX7 hc8 HS1.out
              have d1 := chg_cell hc8 d1 HPA.out.1
              have f0 := chg_cell hc8 f0 hpf
              have f1 := chg_cell hc8 f1 hpf
              have HM8 := Lib.hid (Rd.of_own hom8)
              have HM7 := Lib.hid (Rd.of_own (OwnM.chg hom7 hc8 hl5))
              obtain ⟨a8, c8, rfl⟩ := hom8.len
              obtain ⟨nm, hnm⟩ : ∃ nm, nm = ms.length := ⟨_, rfl⟩
              rw [← hnm] at f1 HM8 HM7 ⊢
              have HNM := Lib.hid hnm
              obtain ⟨D, hD⟩ : ∃ D, D = DD := ⟨_, rfl⟩
              rw [← hD] at HBZ
              clear hu8 hc8 hom8 hom7 hom HB7 HB6 hX7 hX6 hl5 hl6 hpf hnm hX5 hD
              go_wp2_with fail
              refine (rsamemoves ms _ _ _ (by rw [← HNM.out]; exact HM8.out.ext (by repeat' (first | (with_reducible exact Ext.refl _) | (with_reducible assumption) | (with_reducible refine Ext.alloc ?_ _) | (with_reducible refine Ext.drewN ?_ _) | (with_reducible refine Ext.drew ?_) | (with_reducible refine Ext.trans ?_ (by assumption))))) (by rw [← HNM.out]; exact HM7.out.ext (by repeat' (first | (with_reducible exact Ext.refl _) | (with_reducible assumption) | (with_reducible refine Ext.alloc ?_ _) | (with_reducible refine Ext.drewN ?_ _) | (with_reducible refine Ext.drew ?_) | (with_reducible refine Ext.trans ?_ (by assumption)))))).mono ?_
              rintro e w9 ⟨rfl, hx9⟩
              have d1 := hx9.cellv d1
              have hXZ := hXZ.trans hx9
              have HBZ := Lib.hid (HBZ.out.ext hx9)
              clear hx9 f0 f1 HM8 HM7
              go_wp2_with fail
              refine (same13 p bs be caps D.1 D.2 _ px vZ vC (HBZ.out.uni.ext (by repeat' (first | (with_reducible exact Ext.refl _) | (with_reducible assumption) | (with_reducible refine Ext.alloc ?_ _) | (with_reducible refine Ext.drewN ?_ _) | (with_reducible refine Ext.drew ?_) | (with_reducible refine Ext.trans ?_ (by assumption))))) (HBZ.out.ref.ext (by repeat' (first | (with_reducible exact Ext.refl _) | (with_reducible assumption) | (with_reducible refine Ext.alloc ?_ _) | (with_reducible refine Ext.drewN ?_ _) | (with_reducible refine Ext.drew ?_) | (with_reducible refine Ext.trans ?_ (by assumption)))))).mono ?_
              rintro e w9 ⟨rfl, hx9⟩
              have d1 := hx9.cellv d1
              have HB9 := Lib.hid (HBZ.out.ext hx9)
              have HX9 := Lib.hid (hXZ.trans hx9)
              clear hx9 hXZ HBZ
              go_wp2_with fail
              refine (rplace px vZ vC caps D.1 D.2 _ (HB9.out.ref.ext (by repeat' (first | (with_reducible exact Ext.refl _) | (with_reducible assumption) | (with_reducible refine Ext.alloc ?_ _) | (with_reducible refine Ext.drewN ?_ _) | (with_reducible refine Ext.drew ?_) | (with_reducible refine Ext.trans ?_ (by assumption))))) (y : Int)).mono ?_
              rintro e w10 ⟨r, rfl, hp, rfl⟩
              rcases place_at hp with ⟨hr, hb⟩ | ⟨k', hk', rfl, hb⟩
              · have HL := Lib.hid (HB9.out.out_level hb)
                clear hp hb
                go_wp2_with fail
                refine (ulevel p bs caps D.2 _ (y : Int) 0 HL.out _ (HB9.out.uni.ext (by repeat' (first | (with_reducible exact Ext.refl _) | (with_reducible assumption) | (with_reducible refine Ext.alloc ?_ _) | (with_reducible refine Ext.drewN ?_ _) | (with_reducible refine Ext.drew ?_) | (with_reducible refine Ext.trans ?_ (by assumption))))).obj).mono ?_
                rintro e w11 ⟨rfl, rfl⟩
                go_wp2_with fail
                go_roundw
                case rel => exact ⟨k + 1, D.1, D.2, vZ, by omega, by go_num, HB9.out, HX9.out⟩
                case measure => simp [intOf]; omega
              · have hr : ¬ (k' : Int) < 0 := by omega
                have hrd : decide ((k' : Int) < 0) = false := decide_eq_false hr
                clear hp hb
                go_wp2_with fail
                go_roundw
                case rel => exact ⟨k + 1, D.1, D.2, vZ, by omega, by go_num, HB9.out, HX9.out⟩
                case measure => simp [intOf]; omega
            · have HIN := Lib.hid hin
              obtain ⟨D, hD⟩ : ∃ D, D = (M, lv) := ⟨_, rfl⟩
              obtain ⟨vZ, hvZ⟩ : ∃ vZ, vZ = vL := ⟨_, rfl⟩
              have hok : bl < 0 ∨ (¬ bl < 0 ∧ 63 < bl) := by unfold okB at hin; omega
              clear hin
              rcases hok with h0 | ⟨h0, h63⟩
              · go_wp2_with fail
                generalize (wr.alloc (.cells #[.bool false, .int .i64 bl] 44 (0, 0))) = w5 at *
                have hBz : Both w5 p bs be px vZ vC caps D.1 D.2 D.1 D.2 := by rw [hD, hvZ]; exact HB5.out
                have HBZ := Lib.hid hBz
                have hXZ := hX5
                clear hBz HB5 d0 e0 e1 hb hX5
                refine (uuse_out p _ bl HIN.out).mono ?_
                rintro e w8 ⟨rfl, rfl⟩
                go_wp2_with fail
                refine (same13 p bs be caps D.1 D.2 _ px vZ vC (HBZ.out.uni.ext (by repeat' (first | (with_reducible exact Ext.refl _) | (with_reducible assumption) | (with_reducible refine Ext.alloc ?_ _) | (with_reducible refine Ext.drewN ?_ _) | (with_reducible refine Ext.drew ?_) | (with_reducible refine Ext.trans ?_ (by assumption))))) (HBZ.out.ref.ext (by repeat' (first | (with_reducible exact Ext.refl _) | (with_reducible assumption) | (with_reducible refine Ext.alloc ?_ _) | (with_reducible refine Ext.drewN ?_ _) | (with_reducible refine Ext.drew ?_) | (with_reducible refine Ext.trans ?_ (by assumption)))))).mono ?_
                rintro e w9 ⟨rfl, hx9⟩
                have d1 := hx9.cellv d1
                have HB9 := Lib.hid (HBZ.out.ext hx9)
                have HX9 := Lib.hid (hXZ.trans hx9)
                clear hx9 hXZ HBZ
                go_wp2_with fail
                refine (rplace px vZ vC caps D.1 D.2 _ (HB9.out.ref.ext (by repeat' (first | (with_reducible exact Ext.refl _) | (with_reducible assumption) | (with_reducible refine Ext.alloc ?_ _) | (with_reducible refine Ext.drewN ?_ _) | (with_reducible refine Ext.drew ?_) | (with_reducible refine Ext.trans ?_ (by assumption))))) bl).mono ?_
                rintro e w10 ⟨r, rfl, hp, rfl⟩
                rcases place_at hp with ⟨hr, hb⟩ | ⟨k', hk', rfl, hb⟩
                · have HL := Lib.hid (HB9.out.out_level hb)
                  clear hp hb
                  go_wp2_with fail
                  refine (ulevel p bs caps D.2 _ bl 0 HL.out _ (HB9.out.uni.ext (by repeat' (first | (with_reducible exact Ext.refl _) | (with_reducible assumption) | (with_reducible refine Ext.alloc ?_ _) | (with_reducible refine Ext.drewN ?_ _) | (with_reducible refine Ext.drew ?_) | (with_reducible refine Ext.trans ?_ (by assumption))))).obj).mono ?_
                  rintro e w11 ⟨rfl, rfl⟩
                  go_wp2_with fail
                  go_roundw
                  case rel => exact ⟨k + 1, D.1, D.2, vZ, by omega, by go_num, HB9.out, HX9.out⟩
                  case measure => simp [intOf]; omega
                · have hr : ¬ (k' : Int) < 0 := by omega
                  have hrd : decide ((k' : Int) < 0) = false := decide_eq_false hr
                  clear hp hb
                  go_wp2_with fail
                  go_roundw
                  case rel => exact ⟨k + 1, D.1, D.2, vZ, by omega, by go_num, HB9.out, HX9.out⟩
                  case measure => simp [intOf]; omega
              · have h0d : decide (bl < 0) = false := decide_eq_false h0
                go_wp2_with fail
                generalize (wr.alloc (.cells #[.bool false, .int .i64 bl] 44 (0, 0))) = w5 at *
                have hBz : Both w5 p bs be px vZ vC caps D.1 D.2 D.1 D.2 := by rw [hD, hvZ]; exact HB5.out
                have HBZ := Lib.hid hBz
                have hXZ := hX5
                clear hBz HB5 d0 e0 e1 hb hX5
                refine (uuse_out p _ bl HIN.out).mono ?_
                rintro e w8 ⟨rfl, rfl⟩
                go_wp2_with fail
                refine (same13 p bs be caps D.1 D.2 _ px vZ vC (HBZ.out.uni.ext (by repeat' (first | (with_reducible exact Ext.refl _) | (with_reducible assumption) | (with_reducible refine Ext.alloc ?_ _) | (with_reducible refine Ext.drewN ?_ _) | (with_reducible refine Ext.drew ?_) | (with_reducible refine Ext.trans ?_ (by assumption))))) (HBZ.out.ref.ext (by repeat' (first | (with_reducible exact Ext.refl _) | (with_reducible assumption) | (with_reducible refine Ext.alloc ?_ _) | (with_reducible refine Ext.drewN ?_ _) | (with_reducible refine Ext.drew ?_) | (with_reducible refine Ext.trans ?_ (by assumption)))))).mono ?_
                rintro e w9 ⟨rfl, hx9⟩
                have d1 := hx9.cellv d1
                have HB9 := Lib.hid (HBZ.out.ext hx9)
                have HX9 := Lib.hid (hXZ.trans hx9)
                clear hx9 hXZ HBZ
                go_wp2_with fail
                refine (rplace px vZ vC caps D.1 D.2 _ (HB9.out.ref.ext (by repeat' (first | (with_reducible exact Ext.refl _) | (with_reducible assumption) | (with_reducible refine Ext.alloc ?_ _) | (with_reducible refine Ext.drewN ?_ _) | (with_reducible refine Ext.drew ?_) | (with_reducible refine Ext.trans ?_ (by assumption))))) bl).mono ?_
                rintro e w10 ⟨r, rfl, hp, rfl⟩
                rcases place_at hp with ⟨hr, hb⟩ | ⟨k', hk', rfl, hb⟩
                · have HL := Lib.hid (HB9.out.out_level hb)
                  clear hp hb
                  go_wp2_with fail
                  refine (ulevel p bs caps D.2 _ bl 0 HL.out _ (HB9.out.uni.ext (by repeat' (first | (with_reducible exact Ext.refl _) | (with_reducible assumption) | (with_reducible refine Ext.alloc ?_ _) | (with_reducible refine Ext.drewN ?_ _) | (with_reducible refine Ext.drew ?_) | (with_reducible refine Ext.trans ?_ (by assumption))))).obj).mono ?_
                  rintro e w11 ⟨rfl, rfl⟩
                  go_wp2_with fail
                  go_roundw
                  case rel => exact ⟨k + 1, D.1, D.2, vZ, by omega, by go_num, HB9.out, HX9.out⟩
                  case measure => simp [intOf]; omega
                · have hr : ¬ (k' : Int) < 0 := by omega
                  have hrd : decide ((k' : Int) < 0) = false := decide_eq_false hr
                  clear hp hb
                  go_wp2_with fail
                  go_roundw
                  case rel => exact ⟨k + 1, D.1, D.2, vZ, by omega, by go_num, HB9.out, HX9.out⟩
                  case measure => simp [intOf]; omega
          · go_wp2_with fail
            generalize (wr.alloc (.cells #[.bool true, .int .i64 bl] 44 (0, 0))) = w5 at *
            obtain ⟨pa, hpa⟩ : ∃ pa, pa = wr.heap.size := ⟨_, rfl⟩
            rw [← hpa] at d0 d1 HPA ⊢
            have HX5 := Lib.hid hX5
            clear e0 e1 hpa hX5 hb
            go_region_held3 (fun w' => w'.cell? ⟨pa, 1, none⟩ = some (.int .i64 bl)) (first | go_keep | assumption)
              (first | (go_at_call 21; refine (bdropU p bs be px _ vC caps M lv _ _ _ (by first | exact HB7.out.ext (by repeat' (first | (with_reducible exact Ext.refl _) | (with_reducible assumption) | (with_reducible refine Ext.alloc ?_ _) | (with_reducible refine Ext.drewN ?_ _) | (with_reducible refine Ext.drew ?_) | (with_reducible refine Ext.trans ?_ (by assumption)))) | exact HB5.out.ext (by repeat' (first | (with_reducible exact Ext.refl _) | (with_reducible assumption) | (with_reducible refine Ext.alloc ?_ _) | (with_reducible refine Ext.drewN ?_ _) | (with_reducible refine Ext.drew ?_) | (with_reducible refine Ext.trans ?_ (by assumption))))) bl rr HRR.out).mono ?_; rintro e w6 ⟨rfl, hb6, hc6⟩; rw [HD.out] at hb6; have HB6 := Lib.hid hb6; have HC6 := Lib.hid hc6; have d6 := chg_cell hc6 (by assumption) HPA.out.1; have HX6 := Lib.hid (Ext.chg (by first | exact HX7.out.trans (by repeat' (first | (with_reducible exact Ext.refl _) | (with_reducible assumption) | (with_reducible refine Ext.alloc ?_ _) | (with_reducible refine Ext.drewN ?_ _) | (with_reducible refine Ext.drew ?_) | (with_reducible refine Ext.trans ?_ (by assumption)))) | exact HX5.out.trans (by repeat' (first | (with_reducible exact Ext.refl _) | (with_reducible assumption) | (with_reducible refine Ext.alloc ?_ _) | (with_reducible refine Ext.drewN ?_ _) | (with_reducible refine Ext.drew ?_) | (with_reducible refine Ext.trans ?_ (by assumption))))) hc6 HS1.out); clear hb6 hc6) | (go_at_call 22; refine (bdropR p bs be px vL vC caps _ _ M lv _ (by first | exact HB6.out.ext (by repeat' (first | (with_reducible exact Ext.refl _) | (with_reducible assumption) | (with_reducible refine Ext.alloc ?_ _) | (with_reducible refine Ext.drewN ?_ _) | (with_reducible refine Ext.drew ?_) | (with_reducible refine Ext.trans ?_ (by assumption)))) | exact HB5.out.ext (by repeat' (first | (with_reducible exact Ext.refl _) | (with_reducible assumption) | (with_reducible refine Ext.alloc ?_ _) | (with_reducible refine Ext.drewN ?_ _) | (with_reducible refine Ext.drew ?_) | (with_reducible refine Ext.trans ?_ (by assumption))))) HSTK.out hlen bl rr HRR.out).mono ?_; rintro e w7 ⟨rfl, vZ, hb7, hc7⟩; rw [HD.out] at hb7; have HB7 := Lib.hid hb7; have HC7 := Lib.hid hc7; have d7 := chg_cell hc7 (by assumption) HPA.out.2; have HX7 := Lib.hid (Ext.chg (by first | exact HX6.out.trans (by repeat' (first | (with_reducible exact Ext.refl _) | (with_reducible assumption) | (with_reducible refine Ext.alloc ?_ _) | (with_reducible refine Ext.drewN ?_ _) | (with_reducible refine Ext.drew ?_) | (with_reducible refine Ext.trans ?_ (by assumption)))) | exact HX5.out.trans (by repeat' (first | (with_reducible exact Ext.refl _) | (with_reducible assumption) | (with_reducible refine Ext.alloc ?_ _) | (with_reducible refine Ext.drewN ?_ _) | (with_reducible refine Ext.drew ?_) | (with_reducible refine Ext.trans ?_ (by assumption))))) hc7 (by simpa using HPW.out)); clear hb7 hc7))
            all_goals
              first
              | (have hBz : Both w7 p bs be px vZ vC caps D.1 D.2 D.1 D.2 := HB7.out
                 have HBZ := Lib.hid hBz
                 have hXZ := HX7.out
                 have d1 := d7
                 clear hBz)
              | (have hBz : Both w6 p bs be px vZ vC caps D.1 D.2 D.1 D.2 := HB6.out
                 have HBZ := Lib.hid hBz
                 have hXZ := HX6.out
                 have d1 := d6
                 clear hBz)
              clear d0 HX6 HX7 HX5 HB6 HB7 HC6 HC7 d6 d7
              go_wp2_with fail
              refine (same13 p bs be caps D.1 D.2 _ px vZ vC (HBZ.out.uni.ext (by repeat' (first | (with_reducible exact Ext.refl _) | (with_reducible assumption) | (with_reducible refine Ext.alloc ?_ _) | (with_reducible refine Ext.drewN ?_ _) | (with_reducible refine Ext.drew ?_) | (with_reducible refine Ext.trans ?_ (by assumption))))) (HBZ.out.ref.ext (by repeat' (first | (with_reducible exact Ext.refl _) | (with_reducible assumption) | (with_reducible refine Ext.alloc ?_ _) | (with_reducible refine Ext.drewN ?_ _) | (with_reducible refine Ext.drew ?_) | (with_reducible refine Ext.trans ?_ (by assumption)))))).mono ?_
              rintro e w9 ⟨rfl, hx9⟩
              have d1 := hx9.cellv d1
              have HB9 := Lib.hid (HBZ.out.ext hx9)
              have HX9 := Lib.hid (hXZ.trans hx9)
              clear hx9 hXZ HBZ
              go_wp2_with fail
              refine (rplace px vZ vC caps D.1 D.2 _ (HB9.out.ref.ext (by repeat' (first | (with_reducible exact Ext.refl _) | (with_reducible assumption) | (with_reducible refine Ext.alloc ?_ _) | (with_reducible refine Ext.drewN ?_ _) | (with_reducible refine Ext.drew ?_) | (with_reducible refine Ext.trans ?_ (by assumption))))) bl).mono ?_
              rintro e w10 ⟨r, rfl, hp, rfl⟩
              rcases place_at hp with ⟨hr, hb⟩ | ⟨k', hk', rfl, hb⟩
              · have HL := Lib.hid (HB9.out.out_level hb)
                clear hp hb
                go_wp2_with fail
                refine (ulevel p bs caps D.2 _ bl 0 HL.out _ (HB9.out.uni.ext (by repeat' (first | (with_reducible exact Ext.refl _) | (with_reducible assumption) | (with_reducible refine Ext.alloc ?_ _) | (with_reducible refine Ext.drewN ?_ _) | (with_reducible refine Ext.drew ?_) | (with_reducible refine Ext.trans ?_ (by assumption))))).obj).mono ?_
                rintro e w11 ⟨rfl, rfl⟩
                go_wp2_with fail
                go_roundw
                case rel => exact ⟨k + 1, D.1, D.2, vZ, by omega, by go_num, HB9.out, HX9.out⟩
                case measure => simp [intOf]; omega
              · have hr : ¬ (k' : Int) < 0 := by omega
                have hrd : decide ((k' : Int) < 0) = false := decide_eq_false hr
                clear hp hb
                go_wp2_with fail
                go_roundw
                case rel => exact ⟨k + 1, D.1, D.2, vZ, by omega, by go_num, HB9.out, HX9.out⟩
                case measure => simp [intOf]; omega
        · obtain rfl : n = k := by omega
          go_wp2_with fail
          go_ret
          exact ⟨rfl, hx⟩
end Go.Proofs.Ytibcfmnkpemieaa
