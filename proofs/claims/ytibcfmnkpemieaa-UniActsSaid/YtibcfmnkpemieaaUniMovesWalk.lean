/-
  gradinelaw13.UniMoves answers true. No condition.
-/
import Derived.Test.YtibcfmnkpemieaaUniBoundWalk
namespace Go.Proofs.Ytibcfmnkpemieaa
open Go.RowKit

/-- levels that lie in a block -/
structure LvAt (w : World) (p : Nat) (A : Nat → Nat) : Prop where
  cells : ∃ cs t, w.heap[p]? = some (.cells cs t (0, 0)) ∧ ∀ b, b < 64 → cs[b]? = some (.int .i64 (A b))
section
variable {w w' : World} {p : Nat} {A : Nat → Nat}
theorem LvAt.lt (h : LvAt w p A) : p < w.heap.size := by obtain ⟨cs, t, h1, _⟩ := h.cells; exact (Array.getElem?_eq_some_iff.1 h1).1
theorem LvAt.at (h : LvAt w p A) {b : Nat} (hb : b < 64) : w.cell? ⟨p, b, none⟩ = some (.int .i64 (A b)) := by
  obtain ⟨cs, t, h1, h2⟩ := h.cells
  rw [cell_of_row w p _ cs t (0, 0) h1]; exact h2 b hb
theorem LvAt.free (h : LvAt w p A) (o : Nat) : w.frozen? ⟨p, o, none⟩ = false := by obtain ⟨cs, t, h1, _⟩ := h.cells; exact frozen_row h1 o
theorem LvAt.ext (h : LvAt w p A) (hx : Ext w w') : LvAt w' p A := ⟨by rw [Below.block hx _ h.lt]; exact h.cells⟩
theorem LvAt.chg {S : List Nat} (h : LvAt w p A) (hx : Chg S w w') (hp : p ∉ S) : LvAt w' p A := ⟨by rw [hx.block _ h.lt hp]; exact h.cells⟩
theorem LvAt.set (h : LvAt w p A) {b : Nat} (hb : b < 64) (x : Nat) : LvAt (w.setCell ⟨p, b, none⟩ (.int .i64 x)) p (updN A b x) := by
  obtain ⟨cs, t, h1, h2⟩ := h.cells
  refine ⟨_, t, heap_set h1 _, ?_⟩
  intro i hi
  by_cases e : i = b
  · subst e
    have hlt : i < cs.size := (Array.getElem?_eq_some_iff.1 (h2 i hi)).1
    rw [Array.getElem?_setIfInBounds, updN_same]; simp [hlt]
  · rw [Array.getElem?_setIfInBounds, if_neg (by omega), updN_other _ _ e]; exact h2 i hi
theorem LvAt.congr (h : LvAt w p A) {B : Nat → Nat} (e : ∀ b, b < 64 → A b = B b) : LvAt w p B := by
  obtain ⟨cs, t, h1, h2⟩ := h.cells
  exact ⟨cs, t, h1, fun b hb => by rw [← e b hb]; exact h2 b hb⟩
end
theorem lv_new (w : World) (t : TypeId) (cs : Array Value) (hcs : cs = (List.replicate 64 (Value.int .i64 0)).toArray) : LvAt (w.alloc (.cells cs t)) w.heap.size (fun _ => 0) := by
  refine ⟨cs, t, heap_alloc_new w _, fun b hb => ?_⟩
  rw [hcs, List.getElem?_toArray, List.getElem?_replicate, if_pos hb]
  rfl

theorem chain_cons {caps : Nat → Nat} {M : List Nat} {f l : Nat} {A lv2 : Nat → Nat} {m : Nat × Nat} {t : List (Nat × Nat)} (h : chainU caps M f l A = (lv2, m :: t)) :
    ∃ f', f = f' + 1 ∧ m = (yardU M A l, l) ∧ caps l < cntU M A l ∧ chainU caps M f' (l + 1) (updN A (yardU M A l) (l + 1)) = (lv2, t) := by
  cases f with
  | zero => simp [chainU] at h
  | succ f =>
    unfold chainU at h
    split at h
    · rename_i hc
      rw [Prod.mk.injEq, List.cons.injEq] at h
      exact ⟨f, rfl, h.2.1.symm, hc, by rw [← h.1, ← h.2.2]⟩
    · simp at h
theorem chain_nil {caps : Nat → Nat} {M : List Nat} {f l : Nat} {A lv2 : Nat → Nat} (h : chainU caps M f l A = (lv2, [])) : A = lv2 := by
  cases f with
  | zero => simpa [chainU] using h
  | succ f =>
    unfold chainU at h
    split at h
    · simp at h
    · simpa using h
theorem mcells_at {D T : List (Nat × Nat)} {m : Nat × Nat} : (mcells (D ++ m :: T))[D.length * 3]? = some (.int .i64 m.1) ∧ (mcells (D ++ m :: T))[D.length * 3 + 1]? = some (.int .i64 m.2) ∧ (mcells (D ++ m :: T))[D.length * 3 + 2]? = some (.int .i64 ((m.2 + 1 : Nat) : Int)) := by
  have hl : (mcells D).length = D.length * 3 := by
    unfold mcells
    induction D with
    | nil => rfl
    | cons x t ih => simp only [List.flatMap_cons, List.length_append, List.length_cons, List.length_nil]; rw [ih]; omega
  have e : mcells (D ++ m :: T) = mcells D ++ ([Value.int .i64 m.1, .int .i64 m.2, .int .i64 ((m.2 + 1 : Nat) : Int)] ++ mcells T) := by unfold mcells; simp
  rw [e]
  refine ⟨?_, ?_, ?_⟩
  · rw [List.getElem?_append_right (by omega), hl]; simp
  · rw [List.getElem?_append_right (by omega), hl]; simp
  · rw [List.getElem?_append_right (by omega), hl]; simp

set_option maxRecDepth 4000 in
set_option maxHeartbeats 2000000 in
theorem walk_UniMoves (v0 v1 : Value) (w : World) (h0 : IsArr .i64 3 v0) (h1 : IsInts .i64 w v1) :
    Calls Try.prog 4 #[v0, v1] w fun e w' => e = .returned (.bool true) ∧ Ext w w' := by
  obtain ⟨c1, c2, c3, rfl, _, _, _⟩ := h0.three
  obtain ⟨l, hl, hlw⟩ := h1
  obtain ⟨a, k0, rfl, hlk, hkm, hnil, hcells⟩ := hl.parts
  have hn63 : (l.length : Int) ≤ 9223372036854775807 := by unfold maxLen at hkm; omega
  have HC := Lib.hid hcells
  clear h0 hl hlw hnil hcells hkm
  obtain ⟨n, hn⟩ : ∃ n, l.length = n := ⟨_, rfl⟩
  rw [hn] at hn63 hlk ⊢
  have HN := Lib.hid hn
  clear hn
  by_cases h120 : (120 : Int) < (n : Int)
  · go_enter Try.func4, Try.ntmps4
    go_wp2_with fail
    refine (wakes13 _).mono ?_
    rintro e w1 ⟨rfl, hx1⟩
    go_wp2_with fail
    go_ret
    exact ⟨rfl, (by repeat' (first | (with_reducible exact Ext.refl _) | (with_reducible assumption) | (with_reducible refine Ext.alloc ?_ _) | (with_reducible refine Ext.drewN ?_ _) | (with_reducible refine Ext.drew ?_) | (with_reducible refine Ext.trans ?_ (by assumption))))⟩
  · have hn120 : (n : Int) ≤ 120 := by omega
    go_enter Try.func4, Try.ntmps4
    go_wp2_with fail
    have q0 : (w.alloc (.cells #[.int .i64 c1, .int .i64 c2, .int .i64 c3] 22)).cell? ⟨w.heap.size, 0, none⟩ = some (.int .i64 c1) := cell_new _ _ _ _ rfl
    have q1 : (w.alloc (.cells #[.int .i64 c1, .int .i64 c2, .int .i64 c3] 22)).cell? ⟨w.heap.size, 1, none⟩ = some (.int .i64 c2) := cell_new _ _ _ _ rfl
    have q2 : (w.alloc (.cells #[.int .i64 c1, .int .i64 c2, .int .i64 c3] 22)).cell? ⟨w.heap.size, 2, none⟩ = some (.int .i64 c3) := cell_new _ _ _ _ rfl
    obtain ⟨w0, hw0⟩ : ∃ w0, w0 = w.alloc (.cells #[.int .i64 c1, .int .i64 c2, .int .i64 c3] 22) := ⟨_, rfl⟩
    have hx0 : Ext w w0 := by rw [hw0]; exact (Ext.refl w).alloc _
    rw [← hw0] at q0 q1 q2 ⊢
    clear hw0
    obtain ⟨pb, hpb⟩ : ∃ pb, pb = w.heap.size := ⟨_, rfl⟩
    rw [← hpb] at q0 q1 q2 ⊢
    clear hpb
    refine (wakes13 _).mono ?_
    rintro e w1 ⟨rfl, hx1⟩
    have r0 := hx1.cellv q0
    have r1 := hx1.cellv q1
    have r2 := hx1.cellv q2
    have hX1 : Ext w w1 := hx0.trans hx1
    clear q0 q1 q2
    go_wp2_with fail
    refine (unew c1 c2 c3 _).mono ?_
    intro e w2 hr
    clear r0 r1 r2
    rcases hr with ⟨_, rfl, hx2⟩ | ⟨⟨o1, o2, o3⟩, p, bs, be, rfl, hU, hp, hb1, hb2, hx2⟩
    · go_wp2_with fail
      go_ret
      exact ⟨rfl, (by repeat' (first | (with_reducible exact Ext.refl _) | (with_reducible assumption) | (with_reducible refine Ext.alloc ?_ _) | (with_reducible refine Ext.drewN ?_ _) | (with_reducible refine Ext.drew ?_) | (with_reducible refine Ext.trans ?_ (by assumption))))⟩
    · have hX2 : Ext w w2 := hX1.trans hx2
      have hw1 := hX1.size
      have hS1 : ∀ s ∈ [p, bs, be], w.heap.size ≤ s := by simp; omega
      have HS1 := Lib.hid hS1
      obtain ⟨caps, hcaps⟩ : ∃ caps, caps = capF c1 c2 c3 := ⟨_, rfl⟩
      rw [← hcaps] at hU
      have hI0 : Uni caps ([] : List Nat) (fun _ => 0) := uni_nil caps
      clear hcaps hS1 o1 o2 o3 hx0 hx1 hx2 hX1
      go_wp2_with fail
      have hp1 := hU.obj.lt
      have hp2 := hU.space.lt1
      have hp3 := hU.space.lt2
      obtain ⟨w3, hw3⟩ : ∃ w3, w3 = w2.alloc (.cells #[Value.int .i64 0, Value.int .i64 0, Value.int .i64 0, Value.int .i64 0, Value.int .i64 0, Value.int .i64 0, Value.int .i64 0, Value.int .i64 0, Value.int .i64 0, Value.int .i64 0, Value.int .i64 0, Value.int .i64 0, Value.int .i64 0, Value.int .i64 0, Value.int .i64 0, Value.int .i64 0, Value.int .i64 0, Value.int .i64 0, Value.int .i64 0, Value.int .i64 0, Value.int .i64 0, Value.int .i64 0, Value.int .i64 0, Value.int .i64 0, Value.int .i64 0, Value.int .i64 0, Value.int .i64 0, Value.int .i64 0, Value.int .i64 0, Value.int .i64 0, Value.int .i64 0, Value.int .i64 0, Value.int .i64 0, Value.int .i64 0, Value.int .i64 0, Value.int .i64 0, Value.int .i64 0, Value.int .i64 0, Value.int .i64 0, Value.int .i64 0, Value.int .i64 0, Value.int .i64 0, Value.int .i64 0, Value.int .i64 0, Value.int .i64 0, Value.int .i64 0, Value.int .i64 0, Value.int .i64 0, Value.int .i64 0, Value.int .i64 0, Value.int .i64 0, Value.int .i64 0, Value.int .i64 0, Value.int .i64 0, Value.int .i64 0, Value.int .i64 0, Value.int .i64 0, Value.int .i64 0, Value.int .i64 0, Value.int .i64 0, Value.int .i64 0, Value.int .i64 0, Value.int .i64 0, Value.int .i64 0] 34) := ⟨_, rfl⟩
      have hL0 : LvAt w3 w2.heap.size (fun _ => 0) := by rw [hw3]; exact lv_new w2 _ _ rfl
      have hX23 : Ext w2 w3 := by rw [hw3]; exact (Ext.refl w2).alloc _
      rw [← hw3]
      clear hw3
      obtain ⟨pa, hpa⟩ : ∃ pa, pa = w2.heap.size := ⟨_, rfl⟩
      rw [← hpa] at hL0 ⊢
      have ha1 : p < pa := by omega
      have ha2 : bs < pa := by omega
      have ha3 : be < pa := by omega
      have haw : w.heap.size ≤ pa := by have := hX2.size; omega
      have hX3 : Ext w w3 := hX2.trans hX23
      have hU3 : UniAt w3 p bs be caps ([] : List Nat) (fun _ => 0) := hU.ext hX23
      have HAW := Lib.hid haw
      clear hpa hX23 hU hX2 hp1 hp2 hp3 haw
      go_wp2_with fail
      go_loopw [33] (fun ci wr => ∃ (k : Nat) (S : List Nat × (Nat → Nat)), k ≤ n ∧ ci = .int .i64 k ∧ UniAt wr p bs be caps S.1 S.2 ∧ Uni caps S.1 S.2 ∧ LvAt wr pa S.2 ∧ Ext w wr) (fun ci _ => n - (intOf ci).toNat)
      case atStart => exact ⟨0, ([], fun _ => 0), Nat.zero_le _, rfl, hU3, hI0, hL0, hX3⟩
      case round =>
        obtain ⟨k, S, hk, rfl, hU, hI, hL, hx⟩ := hrel
        have HU := Lib.hid hU
        have HI := Lib.hid hI
        have HL := Lib.hid hL
        clear hU hI hL
        by_cases hlt : k < n
        · obtain ⟨g, o, rfl, hg, hcc⟩ := HC.out (by intro e; have := HN.out; rw [e] at this; simp at this; omega)
          have x0 := hx.cellv (hcc k (by have := HN.out; omega))
          obtain ⟨x, hxx⟩ : ∃ x, l.getD k 0 = x := ⟨_, rfl⟩
          rw [hxx] at x0
          have hki : (k : Int) < (n : Int) := by omega
          clear hcc hxx
          by_cases hok : okB x
          · obtain ⟨b, rfl⟩ := Int.eq_ofNat_of_zero_le hok.1
            have hb64 : b < 64 := by have := hok.2; omega
            have hbi : (b : Int) < 64 := by omega
            clear hok
            go_wp2_with fail
            refine (uuse p bs be caps S.1 S.2 _ HU.out b hb64).mono ?_
            rintro e w4 ⟨v4, rfl, hU4, ho4, hc4⟩
            have hI4 := used_uni HI.out hb64
            obtain ⟨nx, hnx⟩ : ∃ nx, nextU caps S.1 S.2 b = nx := ⟨_, rfl⟩
            have hnb := nextU_bd caps S.1 S.2 b
            obtain ⟨T, hT⟩ : ∃ T, toTop S.1 b = T := ⟨_, rfl⟩
            obtain ⟨lv2, MS, hch⟩ : ∃ lv2 MS, chainU caps T (4 - nx) nx (updN S.2 b nx) = (lv2, MS) := ⟨_, _, rfl⟩
            have hmv : movesU caps S.1 S.2 b = MS := by unfold movesU; rw [hnx, hT, hch]
            obtain ⟨R, hR⟩ : ∃ R, usedM caps S.1 S.2 b = R := ⟨_, rfl⟩
            have hpr : R = pruneU T.length T lv2 := by rw [← hR]; unfold usedM; rw [hnx, hT, hch]
            have hml : MS.length ≤ 4 := by rw [← hmv]; unfold movesU; exact Nat.le_trans (chain_len _ _ _) (by omega)
            rw [hnx] at hnb ⊢
            have hst : Stk T (updN S.2 b nx) := by rw [← hT]; exact HI.out.stk.top hb64 hnb.1 hnb.2
            rw [hR] at hU4 hI4
            rw [hmv] at ho4
            have hx4 : Ext w w4 := hx.chg hc4 HS1.out
            have hL4 := HL.out.chg hc4 (by simp; omega)
            have hbase : pa < wr.heap.size := HL.out.lt
            have hmi : (MS.length : Int) ≤ 4 := by omega
            obtain ⟨_, av, cv, rfl, _, _, _, hvc⟩ := Rd.of_own ho4
            have HVC := Lib.hid hvc
            have HOB := Lib.hid (fun g hg => (World.ownsRow.lt ho4 g hg).1)
            have HU4 := Lib.hid hU4
            have HI4 := Lib.hid hI4
            have HCH := Lib.hid hch
            have HPR := Lib.hid hpr
            have HST := Lib.hid hst
            have z0 := hL4.at hb64
            have zf := hL4.free
            have HL4 := Lib.hid hL4
            have HNB := Lib.hid hnb
            clear hU4 ho4 hc4 hI4 hnx hT hch hmv hR hpr hml hst hL4 hvc hnb x0
            go_wp2_with fail
            have hL5 := HL4.out.set hb64 nx
            have hc5 : Chg [pa] w4 (w4.setCell ⟨pa, b, none⟩ (.int .i64 nx)) := (Chg.refl _ _).setCell (.inl (by simp)) _
            generalize (w4.setCell ⟨pa, b, none⟩ (.int .i64 nx)) = w5 at *
            clear z0 zf
            obtain ⟨wo, rfl⟩ : ∃ wo : World, wo = wr := ⟨_, rfl⟩
            go_loopw [51] (fun cj wj => ∃ (P t : List (Nat × Nat)) (f l' : Nat) (A : Nat → Nat), MS = P ++ t ∧ cj = .int .i64 P.length ∧ LvAt wj pa A ∧ chainU caps T f l' A = (lv2, t) ∧ l' + f = 4 ∧ 1 ≤ l' ∧ Stk T A ∧ Chg [pa] w4 wj) (fun cj _ => MS.length - (intOf cj).toNat)
            case atStart => exact ⟨[], MS, 4 - nx, nx, _, rfl, rfl, hL5, HCH.out, by have := HNB.out; omega, HNB.out.1, HST.out, hc5⟩
            case round =>
              obtain ⟨P, t, f, l', A, hMS, rfl, hL6, hch6, hlf, hl1, hst6, hC6⟩ := hrel
              have HMS := Lib.hid hMS
              have HL6 := Lib.hid hL6
              have HCH6 := Lib.hid hch6
              have HST6 := Lib.hid hst6
              have hlen : MS.length = P.length + t.length := by rw [hMS, List.length_append]
              clear hMS hL6 hch6 hst6 hL5 hc5
              cases t with
              | nil =>
                have hpl : P.length = MS.length := by simp at hlen; omega
                rw [hpl]
                have hA := chain_nil HCH6.out
                subst hA
                have HPK := Lib.hid (prune_keeps (k := T.length) HST6.out).2.2.2.1
                clear hpl hlen
                go_wp2_with fail
                go_loopw [68] (fun ci wj => ∃ (i : Nat) (B : Nat → Nat), i ≤ 64 ∧ ci = .int .i64 i ∧ LvAt wj pa B ∧ (∀ z, z < 64 → B z = if z < i then R.2 z else A z) ∧ Chg [pa] w4 wj) (fun ci _ => 64 - (intOf ci).toNat)
                case atStart => exact ⟨0, A, by omega, rfl, HL6.out, fun z _ => by rw [if_neg (by omega)], hC6⟩
                case round =>
                  obtain ⟨i, B, hi, rfl, hLB, hB, hCj⟩ := hrel
                  have HLB := Lib.hid hLB
                  have HB := Lib.hid hB
                  clear hLB hB
                  by_cases hi64 : i < 64
                  · have hii : (i : Int) < 64 := by omega
                    have hBi : B i = A i := by rw [HB.out i hi64, if_neg (by omega)]
                    have y0 := HLB.out.at hi64
                    have yf := HLB.out.free
                    have hUj := HU4.out.chg hCj (by simp; omega) (by simp; omega) (by simp; omega)
                    have hR2 : (if okB (i : Int) then R.2 (i : Int).toNat else 0) = R.2 i := by rw [if_pos ⟨by omega, hii⟩, Int.toNat_natCast]
                    have hpk := HPK.out i
                    rw [← HPR.out] at hpk
                    obtain ⟨r, hr⟩ : ∃ r, R.2 i = r := ⟨_, rfl⟩
                    obtain ⟨q, hq⟩ : ∃ q, A i = q := ⟨_, rfl⟩
                    rw [hr, hq] at hpk
                    rw [hBi, hq] at y0
                    rw [hr] at hR2
                    have HUJ := Lib.hid hUj
                    have HR2 := Lib.hid hR2
                    have HRR := Lib.hid hr
                    have HQ := Lib.hid hq
                    have HBI := Lib.hid hBi
                    have nxt : ∀ (w' : World) (B' : Nat → Nat), LvAt w' pa B' → (∀ z, z < 64 → z ≠ i → B' z = B z) → B' i = r → Chg [pa] w4 w' → ∃ (i' : Nat) (B'' : Nat → Nat), i' ≤ 64 ∧ Value.int .i64 ((i : Int) + 1) = .int .i64 i' ∧ LvAt w' pa B'' ∧ (∀ z, z < 64 → B'' z = if z < i' then R.2 z else A z) ∧ Chg [pa] w4 w' := by
                      intro w' B' h1 h2 h3 h4
                      refine ⟨i + 1, B', by omega, by go_num, h1, fun z hz => ?_, h4⟩
                      by_cases e : z = i
                      · subst e; rw [if_pos (by omega), h3, HRR.out]
                      · rw [h2 z hz e, HB.out z hz]
                        by_cases e2 : z < i
                        · rw [if_pos e2, if_pos (by omega)]
                        · rw [if_neg e2, if_neg (by omega)]
                    have NXT := Lib.hid nxt
                    clear hUj hR2 hr hq hBi nxt
                    rcases hpk with rfl | ⟨rfl, rfl⟩
                    · by_cases hr0 : r = 0
                      · subst hr0
                        go_wp2_with fail
                        refine (ulevel p bs caps R.2 _ i 0 HR2.out _ HUJ.out.obj).mono ?_
                        rintro e w6 ⟨rfl, rfl⟩
                        go_wp2_with fail
                        refine (ulevel p bs caps R.2 _ i 0 HR2.out _ HUJ.out.obj).mono ?_
                        rintro e w6 ⟨rfl, rfl⟩
                        go_wp2_with fail
                        go_roundw
                        case rel => exact NXT.out _ _ (HLB.out.set hi64 0) (fun z _ hz => updN_other _ _ hz) (updN_same _ _ _) (hCj.setCell (.inl (by simp)) _)
                        case measure => simp [intOf]; omega
                      · have n0 : ((r : Int) == 0) = false := by rw [beq_eq_false_iff_ne]; omega
                        go_wp2_with fail
                        refine (ulevel p bs caps R.2 _ i r HR2.out _ HUJ.out.obj).mono ?_
                        rintro e w6 ⟨rfl, rfl⟩
                        go_wp2_with fail
                        refine (ulevel p bs caps R.2 _ i r HR2.out _ HUJ.out.obj).mono ?_
                        rintro e w6 ⟨rfl, rfl⟩
                        go_wp2_with fail
                        go_roundw
                        case rel => exact NXT.out _ B HLB.out (fun z _ _ => rfl) (HBI.out.trans HQ.out) hCj
                        case measure => simp [intOf]; omega
                    · go_wp2_with fail
                      refine (ulevel p bs caps R.2 _ i 0 HR2.out _ HUJ.out.obj).mono ?_
                      rintro e w6 ⟨rfl, rfl⟩
                      go_wp2_with fail
                      refine (ulevel p bs caps R.2 _ i 0 HR2.out _ HUJ.out.obj).mono ?_
                      rintro e w6 ⟨rfl, rfl⟩
                      go_wp2_with fail
                      go_roundw
                      case rel => exact NXT.out _ _ (HLB.out.set hi64 0) (fun z _ hz => updN_other _ _ hz) (updN_same _ _ _) (hCj.setCell (.inl (by simp)) _)
                      case measure => simp [intOf]; omega
                  · obtain rfl : i = 64 := by omega
                    have hUj := HU4.out.chg hCj (by simp; omega) (by simp; omega) (by simp; omega)
                    have hLR : LvAt wr pa R.2 := HLB.out.congr (fun z hz => by rw [HB.out z hz, if_pos hz])
                    have hXj : Ext w wr := hx4.chg hCj (by have := HAW.out; simpa using this)
                    have HUJ := Lib.hid hUj
                    have HLR := Lib.hid hLR
                    clear hUj hLR
                    go_wp2_with fail
                    go_roundw
                    case rel => exact ⟨k + 1, R, by omega, by go_num, HUJ.out, HI4.out, HLR.out, hXj⟩
                    case measure => simp [intOf]; omega
              | cons m t' =>
                obtain ⟨f', rfl, rfl, hcc6, hch7⟩ := chain_cons HCH6.out
                simp only [List.length_cons] at hlen
                obtain ⟨ym, yl⟩ := yard_mem (show 0 < cntU T A l' by omega)
                obtain ⟨y, hy⟩ : ∃ y, yardU T A l' = y := ⟨_, rfl⟩
                have hMS2 := HMS.out
                rw [hy] at ym yl hch7 hMS2
                have hy64 := HST6.out.lt y ym
                obtain ⟨gv, ov, rfl, hgv, hvv⟩ := HVC.out (by omega)
                obtain ⟨m1, m2, m3⟩ := mcells_at (D := P) (m := (y, l')) (T := t')
                rw [← hMS2] at m1 m2 m3
                have hgp : gv ∉ [pa] := by have h9 := HOB.out gv rfl; simp; omega
                have x1 := chg_cell hC6 (hvv _ _ m1) hgp
                have x2 := chg_cell hC6 (hvv _ _ m2) hgp
                have x3 := chg_cell hC6 (hvv _ _ m3) hgp
                rw [← Nat.add_assoc] at x2 x3
                simp only at x1 x2 x3
                have hPi : (P.length : Int) < (MS.length : Int) := by omega
                have hP4 : P.length < 4 := by omega
                have hyi : (y : Int) < 64 := by omega
                have HCH7 := Lib.hid hch7
                have HMS2 := Lib.hid hMS2
                have HST7 := Lib.hid (HST6.out.set (x := l' + 1) ym (by omega) (by omega))
                have HLEN := Lib.hid hlen
                have HYL := Lib.hid yl
                have HLF := Lib.hid hlf
                clear hvv m1 m2 m3 hch7 hMS2 ym yl hy hcc6 hlen hlf
                go_wp2_with fail
                have y0 : (wr.alloc (.cells #[.int .i64 y, .int .i64 l', .int .i64 ((l' : Int) + 1)] 36)).cell? ⟨wr.heap.size, 0, none⟩ = some (.int .i64 y) := cell_new _ _ _ _ rfl
                have y1 : (wr.alloc (.cells #[.int .i64 y, .int .i64 l', .int .i64 ((l' : Int) + 1)] 36)).cell? ⟨wr.heap.size, 1, none⟩ = some (.int .i64 l') := cell_new _ _ _ _ rfl
                have y2 : (wr.alloc (.cells #[.int .i64 y, .int .i64 l', .int .i64 ((l' : Int) + 1)] 36)).cell? ⟨wr.heap.size, 2, none⟩ = some (.int .i64 ((l' : Int) + 1)) := cell_new _ _ _ _ rfl
                have hL8 := HL6.out.ext ((Ext.refl wr).alloc (.cells #[.int .i64 y, .int .i64 l', .int .i64 ((l' : Int) + 1)] 36))
                have hC8 := hC6.alloc (.cells #[.int .i64 y, .int .i64 l', .int .i64 ((l' : Int) + 1)] 36)
                have y3 := hL8.at hy64
                rw [HYL.out] at y3
                obtain ⟨hb, hhb⟩ : ∃ hb, hb = wr.heap.size := ⟨_, rfl⟩
                rw [← hhb] at y0 y1 y2 ⊢
                generalize (wr.alloc (.cells #[.int .i64 y, .int .i64 l', .int .i64 ((l' : Int) + 1)] 36)) = w8 at *
                have HL8 := Lib.hid hL8
                clear x1 x2 x3 hhb hL8
                go_quiet (fail)
                have hX9 : Ext w8 (w8.drewN nq) := (Ext.refl w8).drewN nq
                have z0 := hX9.cellv y0
                have z2 := hX9.cellv y2
                have z3 := hX9.cellv y3
                have zf := (HL8.out.ext hX9).free
                have HL9 := Lib.hid (HL8.out.ext hX9)
                have hC9 := hC8.ext hX9
                generalize w8.drewN nq = w9 at *
                clear hX9 y0 y1 y2 y3
                go_wp2_with fail
                go_roundw
                case rel =>
                  have hset := HL9.out.set hy64 (l' + 1)
                  rw [Int.natCast_add] at hset
                  exact ⟨P ++ [(y, l')], t', f', l' + 1, _, by rw [HMS2.out]; simp, by rw [List.length_append]; go_num, hset, HCH7.out, by have := HLF.out; omega, by omega, HST7.out, hC9.setCell (.inl (by simp)) _⟩
                case measure => have := HLEN.out; simp [intOf]; omega
          · have hx0 := x0
            go_wp2_with fail
            refine (uuse_out p _ x hok).mono ?_
            rintro e w4 ⟨rfl, rfl⟩
            go_wp2_with fail
            go_roundw
            case rel => exact ⟨k + 1, S, by omega, by go_num, HU.out, HI.out, HL.out, hx⟩
            case measure => simp [intOf]; omega
        · obtain rfl : k = n := by omega
          go_wp2_with fail
          go_ret
          exact ⟨rfl, (by repeat' (first | (with_reducible exact Ext.refl _) | (with_reducible assumption) | (with_reducible refine Ext.alloc ?_ _) | (with_reducible refine Ext.drewN ?_ _) | (with_reducible refine Ext.drew ?_) | (with_reducible refine Ext.trans ?_ (by assumption))))⟩
end Go.Proofs.Ytibcfmnkpemieaa
