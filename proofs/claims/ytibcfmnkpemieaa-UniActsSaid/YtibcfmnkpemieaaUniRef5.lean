/-
  gradineref13: Use. A block goes to the top with its new level; where a level has too many its yardstick goes down.
-/
import Derived.Test.YtibcfmnkpemieaaUniRef4
import Derived.Deep.AppendLies
import Derived.Deep.RegionLaw
namespace Go.Proofs.Ytibcfmnkpemieaa
open Go.RowKit

/-- 'append(s, x)', one element of several cells, as a step of a region -/
theorem step_append_rd {P : Program} {ops : Array Oper} {o : Oper} {a : Act} {w : World} {K : Act → World → Prop} {Q : Exit → Act → World → Prop} {E : Prop} (hgd : o.guard = none) (s x : Operand) (t : TypeId)
    (ho : o.op = .call { callee := .builtin .append, args := #[s, x], argTypes := #[t, t] }) (e : TypeId) (z : Value) (size bytes : Nat) (ht : P.underlying t = some (.slice e))
    (hinfo : (P.info? e).map (fun i => (i.zero, i.size, i.bytes)) = some (some z, size, bytes)) (hzs : z.cells.size = size) (hsz : 0 < size) (hby : bytes ≤ 64) (B : Nat) (hB : B ≤ w.heap.size) (v : Value) (n : Nat) (xs : List Value) (hs : a.eval s = v) (hown : w.ownsRow B e size v n xs)
    (y : Value) (ys : List Value) (hx : a.eval x = y) (hr : Rd w size y 1 ys) (h1 : ∀ u ∈ ys, u.oneCell' = true) (hfit : n ≤ 1000000)
    (h : ∀ g cap w', w'.ownsRow B e size (.slice (some ⟨g, 0, none⟩) (n + 1) cap) (n + 1) (xs ++ ys) → w.grownBy w' v.ownBlock → (v.ownBlock = some g ∨ g = w.heap.size) → K (a.put o.dst (.slice (some ⟨g, 0, none⟩) (n + 1) cap)) w') :
    if Region.wanted o (yielded ops a.tmps) = true then Oper.wp P o a w K Q else E := by
  obtain ⟨i0, hi, hz0, hz1, hz2⟩ := info_parts hinfo
  obtain ⟨hl, ad, c, rfl, hmc, hcm, hnil, hsome⟩ := hr
  obtain ⟨b, f, rfl, hlt, hc⟩ := hsome (by omega)
  refine step_append_lies _ hgd s x t ho B e i0 z size bytes ht hi hz0 hz1 hz2 hzs hsz v n _ hs hown ⟨b, f, none⟩ 1 c ys hx hl (fun j q hj => by rw [add_none]; exact hc j q hj) h1 (by decide) (by unfold maxLen; omega) ?_ hB _ rfl ?_
  · have : (n + 1) * bytes ≤ 1000001 * 64 := Nat.mul_le_mul (by omega) hby
    omega
  · intro g cap w' ho' hg' hat _
    exact h g cap w' ho' hg' hat

theorem used_info : (Try.prog.info? 47).map (·.size) = some 2 := by kernel_rfl
theorem fill2 {w : World} {p : Nat} {u0 u1 : Value} {t : TypeId} (h : w.heap[p]? = some (.cells #[u0, u1] t (0, 0))) (v0 v1 : Value) :
    ((w.setCell ⟨p, 0, none⟩ v0).setCell ⟨p, 1, none⟩ v1).heap[p]? = some (.cells #[v0, v1] t (0, 0)) :=
  heap_set (heap_set h _) _
theorem icells_set {M : List Nat} {lv : Nat → Nat} (hn : M.Nodup) {k : Nat} (hk : k < M.length) (x : Nat) :
    (icells M lv).set (k * 2 + 1) (.int .i64 x) = icells M (updN lv (M.getD k 0) x) := by
  obtain ⟨y, hy⟩ : ∃ y, M.getD k 0 = y := ⟨_, rfl⟩
  have hsp := split_getD hk
  rw [hy] at hsp ⊢
  have hl : (M.take k).length = k := by rw [List.length_take]; omega
  generalize M.take k = P at *
  generalize M.drop (k + 1) = T at *
  subst hsp
  have hyP : ∀ b ∈ P, b ≠ y := by
    intro b hb e; subst e
    rw [List.nodup_append] at hn
    exact hn.2.2 b hb b List.mem_cons_self rfl
  have hyT : ∀ b ∈ T, b ≠ y := by
    intro b hb e; subst e
    rw [List.nodup_append] at hn
    exact (List.nodup_cons.1 hn.2.1).1 hb
  rw [icells_append, icells_append, ← icells_congr (M := P) (lv := lv) (fun b hb => (updN_other lv x (hyP b hb)).symm)]
  rw [List.set_append_right _ _ (by rw [icells_len]; omega), icells_len, hl, show k * 2 + 1 - k * 2 = 1 by omega]
  have e1 : icells (y :: T) lv = .int .i64 y :: .int .i64 (lv y) :: icells T lv := rfl
  have e2 : icells (y :: T) (updN lv y x) = .int .i64 y :: .int .i64 (updN lv y x y) :: icells T (updN lv y x) := rfl
  rw [e1, e2, updN_same, ← icells_congr (M := T) (lv := lv) (fun b hb => (updN_other lv x (hyT b hb)).symm)]
  rfl
theorem icells_top {M : List Nat} {lv : Nat → Nat} (b x : Nat) : [Value.int .i64 b, .int .i64 x] ++ icells (M.filter (· ≠ b)) lv = icells (toTop M b) (updN lv b x) := by
  unfold toTop
  have e2 : icells (b :: M.filter (· ≠ b)) (updN lv b x) = .int .i64 b :: .int .i64 (updN lv b x b) :: icells (M.filter (· ≠ b)) (updN lv b x) := rfl
  rw [e2, updN_same, ← icells_congr (M := M.filter (· ≠ b)) (lv := lv) (fun a ha => (updN_other lv x (by have := List.mem_filter.1 ha; simpa using this.2)).symm)]
  rfl

theorem Ext.frz {w w' : World} (h : Ext w w') {b o : Nat} {u : Value} (hc : w.cell? ⟨b, o, none⟩ = some u) (hf : w.frozen? ⟨b, o, none⟩ = false) : w'.frozen? ⟨b, o, none⟩ = false := (Below.frozen (p := ⟨b, o, none⟩) h (cell_lt hc)).trans hf
theorem Chg.new {S N : List Nat} {a b c : World} (h : Chg S a b) (k : Chg N b c) (hN : ∀ s ∈ N, a.heap.size ≤ s ∨ s ∈ S) : Chg S a c :=
  ⟨k.os.trans h.os, k.tape.trans h.tape, k.output.trans h.output, Nat.le_trans h.size k.size, fun i hi hn => (k.block i (Nat.lt_of_lt_of_le hi h.size) (fun hm => by
    rcases hN i hm with h1 | h1
    · omega
    · exact hn h1)).trans (h.block i hi hn)⟩
theorem ownsRow_lower {w : World} {base base' : Nat} {e : TypeId} {size : Nat} {v : Value} {n : Nat} {xs : List Value} (h : w.ownsRow base e size v n xs) (hb : base' ≤ base) : w.ownsRow base' e size v n xs := by
  refine ⟨h.1, ?_⟩
  rcases h.2 with hn | ⟨g, cap, cur, hv, hb', rest⟩
  · exact .inl hn
  · exact .inr ⟨g, cap, cur, hv, Nat.le_trans hb hb', rest⟩
theorem cap_cell {w : World} {b o c : Nat} {caps : Nat → Nat} (h : RdI .i64 w (.slice (some ⟨b, o, none⟩) 4 c) [0, (caps 1 : Int), (caps 2 : Int), (caps 3 : Int)]) :
    ∀ l, 1 ≤ l → l ≤ 3 → w.cell? ⟨b, o + l, none⟩ = some (.int .i64 (caps l)) := by
  obtain ⟨b', o', c', e, _, _, hs⟩ := cap_at h
  simp only [Value.slice.injEq, Option.some.injEq, Addr.mk.injEq, and_true, true_and] at e
  obtain ⟨⟨rfl, rfl⟩, rfl⟩ := e
  exact hs

section
variable (p : Nat) (vL vC : Value) (caps : Nat → Nat) (M : List Nat) (lv : Nat → Nat) (w : World) (h : RefAt w p vL vC caps M lv)
include h
set_option maxRecDepth 100000 in
set_option maxHeartbeats 2000000 in
theorem ruse (hs : Stk M lv) (hlen : M.length ≤ 64) (b : Nat) (hb : b < 64) : Calls Try.prog 23 #[.pointer (some ⟨p, 0, none⟩), .int .i64 b] w fun e w' =>
    ∃ vm vL', e = .returned (.agg #[.int .i64 (nextU caps M lv b), vm]) ∧ OwnM w.heap.size w' vm (movesU caps M lv b) ∧ RefAt w' p vL' vC caps (usedM caps M lv b).1 (usedM caps M lv b).2 ∧ Frs w.heap.size vL vL' ∧ Chg [p] w w' := by
  have hnb := nextU_bd caps M lv b
  have hml : (movesU caps M lv b).length ≤ 4 := by unfold movesU; exact Nat.le_trans (chain_len _ _ _) (by omega)
  obtain ⟨n, hn⟩ : ∃ n, nextU caps M lv b = n := ⟨_, rfl⟩
  have hTl : (toTop M b).length ≤ 65 := by unfold toTop; rw [List.length_cons]; have := List.length_filter_le (· ≠ b) M; omega
  have hST : Stk (toTop M b) (updN lv b n) := hs.top hb (by omega) (by omega)
  have hcells := icells_top (M := M) (lv := lv) b n
  have hTf : (M.filter (· ≠ b)).length + 1 = (toTop M b).length := by unfold toTop; simp
  obtain ⟨F, hF⟩ : ∃ F, M.filter (· ≠ b) = F := ⟨_, rfl⟩
  rw [hF] at hcells hTf
  have HF := Lib.hid hF
  clear hF
  obtain ⟨T, hT⟩ : ∃ T, toTop M b = T := ⟨_, rfl⟩
  obtain ⟨lv2, MS, hch⟩ : ∃ lv2 MS, chainU caps T (4 - n) n (updN lv b n) = (lv2, MS) := ⟨_, _, rfl⟩
  have hmv : movesU caps M lv b = MS := by unfold movesU; rw [hn, hT, hch]
  have hus : usedM caps M lv b = pruneU T.length T lv2 := by unfold usedM; rw [hn, hT, hch]
  rw [hn, hmv, hus]
  rw [hn] at hnb
  rw [hmv] at hml
  rw [hT] at hTl hST hcells hTf
  obtain ⟨n1, n4⟩ := hnb
  obtain ⟨bc, oc, cc, rfl, hcc, hbc, _⟩ := cap_at h.cap
  have hplt := h.lt
  have hoC : bc ≠ p := by have := h.offC; simpa [Value.ownBlock] using this
  have hcci : (4 : Int) ≤ (cc : Int) := by omega
  have c0 := h.c0
  have c1 := h.c1
  have fz := h.free 0
  have HR := Lib.hid h
  have HS := Lib.hid hs
  have HN := Lib.hid hn
  have HT := Lib.hid hT
  have HCH := Lib.hid hch
  have HST := Lib.hid hST
  have HCELLS := Lib.hid hcells
  clear h hs hn hT hch hmv hus hST hcells
  go_enter Try.func23, Try.ntmps23
  go_wp2_with fail
  refine (rnext p vL _ caps M lv _ (HR.out.ext (by repeat' (first | (with_reducible exact Ext.refl _) | (with_reducible assumption) | (with_reducible refine Ext.alloc ?_ _) | (with_reducible refine Ext.drewN ?_ _) | (with_reducible refine Ext.drew ?_) | (with_reducible refine Ext.trans ?_ (by assumption))))) HS.out b).mono ?_
  rintro e w1 ⟨rfl, hx1⟩
  rw [HN.out]
  go_wp2_with fail
  have g1 := hx1.size
  simp only [World.alloc, Array.size_push] at g1
  have hX2 : Ext w (w1.alloc (.cells #[.int .i64 n, .slice none 0 0] 47 (0, 0))) := (by repeat' (first | (with_reducible exact Ext.refl _) | (with_reducible assumption) | (with_reducible refine Ext.alloc ?_ _) | (with_reducible refine Ext.drewN ?_ _) | (with_reducible refine Ext.drew ?_) | (with_reducible refine Ext.trans ?_ (by assumption))))
  have H4 : (w1.alloc (.cells #[.int .i64 n, .slice none 0 0] 47 (0, 0))).heap[w.heap.size]? = some (.cells #[.int .i64 0, .slice none 0 0] 47 (0, 0)) := by
    rw [Below.heap_alloc _ _ _ (by omega), Below.block hx1 _ (by simp)]
    exact heap_alloc_new w _
  have H5 := heap_alloc_new w1 (.cells #[.int .i64 n, .slice none 0 0] 47 (0, 0))
  have hsz2 : (w1.alloc (.cells #[.int .i64 n, .slice none 0 0] 47 (0, 0))).heap.size = w1.heap.size + 1 := by simp
  generalize (w1.alloc (.cells #[.int .i64 n, .slice none 0 0] 47 (0, 0))) = w2 at *
  obtain ⟨p5, hp5⟩ : ∃ p, p = w1.heap.size := ⟨_, rfl⟩
  obtain ⟨p4, hp4⟩ : ∃ p, p = w.heap.size := ⟨_, rfl⟩
  rw [← hp5] at H5 ⊢
  rw [← hp4] at H4 ⊢
  have n45 : p4 ≠ p5 := by omega
  have np4 : p ≠ p4 := by omega
  have np5 : p ≠ p5 := by omega
  have hw4 : w.heap.size ≤ p4 := by omega
  have hw5 : w.heap.size ≤ p5 := by omega
  have l5 : p5 < w2.heap.size := by omega
  have l4 : p4 < w2.heap.size := by omega
  rw [hp4]
  have HP4 := Lib.hid hp4
  clear hp5 hp4 g1 hx1 hsz2
  refine (rplace p vL _ caps M lv _ (HR.out.ext hX2) b).mono ?_
  rintro e w3 ⟨r, rfl, hp, rfl⟩
  have HP := Lib.hid hp
  clear hp
  go_wp2_with fail
  refine (rwithout p vL _ caps M lv _ (HR.out.ext hX2) (by omega) r).mono ?_
  rintro e w3 ⟨v3, rfl, ho3, hx3⟩
  rw [woP_all HS.out.nodup HP.out, HF.out] at ho3
  have hX3 : Ext w w3 := (by repeat' (first | (with_reducible exact Ext.refl _) | (with_reducible assumption) | (with_reducible refine Ext.alloc ?_ _) | (with_reducible refine Ext.drewN ?_ _) | (with_reducible refine Ext.drew ?_) | (with_reducible refine Ext.trans ?_ (by assumption))))
  have H4 := (Below.block hx3 _ l4).trans H4
  have H5 := (Below.block hx3 _ l5).trans H5
  have HRW := Lib.hid (HR.out.ext hX3)
  have l4 : p4 < w3.heap.size := (Array.getElem?_eq_some_iff.1 H4).1
  have l5 : p5 < w3.heap.size := (Array.getElem?_eq_some_iff.1 H5).1
  have hr3 := Lib.hid ho3.rd
  have hq3 : ∀ g, v3.ownBlock = some g → g ≠ p := by
    intro g hg e; subst e
    have := (World.ownsRow.lt ho3 _ hg).1
    have := hX2.size
    omega
  have c0 := hX3.cellv c0
  have fz : w3.frozen? ⟨p, 0, none⟩ = false := HRW.out.free 0
  clear ho3 hx3 hX2
  go_wp2_with fail
  have hpR : (w3.setCell ⟨p, 0, none⟩ (.slice none 0 0)).heap[p]? = some (.cells #[.slice none 0 0, .slice (some ⟨bc, oc, none⟩) 4 cc] 91 (0, 0)) := heap_set (o := 0) HRW.out.obj _
  have H4 := (Below.heap_setCell w3 ⟨p, 0, none⟩ (.slice none 0 0) _ (Ne.symm np4)).trans H4
  have H5 := (Below.heap_setCell w3 ⟨p, 0, none⟩ (.slice none 0 0) _ (Ne.symm np5)).trans H5
  have hc3 : Chg [p] w3 (w3.setCell ⟨p, 0, none⟩ (.slice none 0 0)) := (by repeat' (first | (with_reducible exact Chg.refl _ _) | (with_reducible assumption) | (with_reducible refine Chg.drewN ?_ _) | (with_reducible refine Chg.drew ?_) | (with_reducible refine Chg.alloc ?_ _) | (with_reducible refine Chg.setCell ?_ (.inl (by simp)) _) | (with_reducible refine Chg.trans ?_ (by assumption)) | (with_reducible refine Chg.ext ?_ (by assumption))))
  have hC4 : Chg [p] w (w3.setCell ⟨p, 0, none⟩ (.slice none 0 0)) := (Chg.of_ext hX3).trans hc3
  have hr4 := Lib.hid (Rd.chg hr3.out hc3 (by intro g hg; simp; exact hq3 g hg))
  generalize (w3.setCell ⟨p, 0, none⟩ (.slice none 0 0)) = w4 at *
  clear c0 fz hc3 HRW hr3 hX3 l4 l5
  have c0 : w4.cell? ⟨p, 0, none⟩ = some (.slice none 0 0) := cell_of_row w4 p 0 _ _ _ hpR
  have c5 : w4.cell? ⟨p5, 0, none⟩ = some (.int .i64 n) := cell_of_row w4 p5 0 _ _ _ H5
  have fz := frozen_row hpR 0
  have hB4 : w.heap.size ≤ w4.heap.size := hC4.size
  have a0 := cell_old (.cells #[.int .i64 b, .int .i64 n] 95 (0, 0)) c0
  have a5 := cell_old (.cells #[.int .i64 b, .int .i64 n] 95 (0, 0)) c5
  go_region_law
    (refine step_append_rd (by rfl) _ _ _ (by rfl) 95 (.agg #[.int .i64 0, .int .i64 0]) 2 16 Try.underlying89 item_info (by rfl) (by decide) (by decide) w4.heap.size (Ext.size (w := w4) (by repeat' (first | (with_reducible exact Ext.refl _) | (with_reducible assumption) | (with_reducible refine Ext.alloc ?_ _) | (with_reducible refine Ext.drewN ?_ _) | (with_reducible refine Ext.drew ?_) | (with_reducible refine Ext.trans ?_ (by assumption))))) (.slice none 0 0) 0 [] (by rfl) (World.ownsRow_nil _ _ _ _) _ [.int .i64 b, .int .i64 n] (by rfl) (by first | exact Rd.two _ _ _ _ | exact (Rd.two _ _ _ _).ext (Ext.drew (Ext.refl _)) | exact (Rd.two _ _ _ _).ext (Ext.drewN (Ext.refl _) _)) (by simp [Value.oneCell']) (by decide) ?_; intro g cap w5 ho5 hg5 hat; have hx5 : Ext w4 w5 := Ext.trans (b := _) (show Ext w4 _ from (by repeat' (first | (with_reducible exact Ext.refl _) | (with_reducible assumption) | (with_reducible refine Ext.alloc ?_ _) | (with_reducible refine Ext.drewN ?_ _) | (with_reducible refine Ext.drew ?_) | (with_reducible refine Ext.trans ?_ (by assumption))))) (Below.grown (Ext.refl _) hg5 (Nat.le_refl _) (by intro k h; cases h)); have c05 := hx5.cellv c0; have c55 := hx5.cellv c5; have fz5 : w5.frozen? ⟨p, 0, none⟩ = false := (Below.frozen hx5 (p := ⟨p, 0, none⟩) (Array.getElem?_eq_some_iff.1 hpR).1).trans fz)
  all_goals
    have HOW5 := Lib.hid ho5
    clear hg5 hat a0 a5 ho5 c05 c55 c0 c5 fz fz5
    have ho6 : (w5.setCell ⟨p, 0, none⟩ (.slice (some ⟨g, 0, none⟩) 1 cap)).ownsRow w4.heap.size 95 2 (.slice (some ⟨g, 0, none⟩) 1 cap) 1 [.int .i64 b, .int .i64 n] := own_chg (S := [p]) HOW5.out (by repeat' (first | (with_reducible exact Chg.refl _ _) | (with_reducible assumption) | (with_reducible refine Chg.drewN ?_ _) | (with_reducible refine Chg.drew ?_) | (with_reducible refine Chg.alloc ?_ _) | (with_reducible refine Chg.setCell ?_ (.inl (by simp)) _) | (with_reducible refine Chg.trans ?_ (by assumption)) | (with_reducible refine Chg.ext ?_ (by assumption)))) (by simp; omega)
    have hpR6 : (w5.setCell ⟨p, 0, none⟩ (.slice (some ⟨g, 0, none⟩) 1 cap)).heap[p]? = some (.cells #[.slice (some ⟨g, 0, none⟩) 1 cap, .slice (some ⟨bc, oc, none⟩) 4 cc] 91 (0, 0)) := heap_set (o := 0) ((Below.block hx5 _ (Array.getElem?_eq_some_iff.1 hpR).1).trans hpR) _
    have H4 := (Below.heap_setCell w5 ⟨p, 0, none⟩ (.slice (some ⟨g, 0, none⟩) 1 cap) _ (Ne.symm np4)).trans ((Below.block hx5 _ (Array.getElem?_eq_some_iff.1 H4).1).trans H4)
    have H5 := (Below.heap_setCell w5 ⟨p, 0, none⟩ (.slice (some ⟨g, 0, none⟩) 1 cap) _ (Ne.symm np5)).trans ((Below.block hx5 _ (Array.getElem?_eq_some_iff.1 H5).1).trans H5)
    have hc5 : Chg [p] w5 (w5.setCell ⟨p, 0, none⟩ (.slice (some ⟨g, 0, none⟩) 1 cap)) := (by repeat' (first | (with_reducible exact Chg.refl _ _) | (with_reducible assumption) | (with_reducible refine Chg.drewN ?_ _) | (with_reducible refine Chg.drew ?_) | (with_reducible refine Chg.alloc ?_ _) | (with_reducible refine Chg.setCell ?_ (.inl (by simp)) _) | (with_reducible refine Chg.trans ?_ (by assumption)) | (with_reducible refine Chg.ext ?_ (by assumption))))
    have hC6 : Chg [p] w (w5.setCell ⟨p, 0, none⟩ (.slice (some ⟨g, 0, none⟩) 1 cap)) := (hC4.ext hx5).trans hc5
    have hr6 := Lib.hid (Rd.chg (hr4.out.ext hx5) hc5 (by intro g hg; simp; exact hq3 g hg))
    have hB6 : w4.heap.size ≤ (w5.setCell ⟨p, 0, none⟩ (.slice (some ⟨g, 0, none⟩) 1 cap)).heap.size := Nat.le_trans hx5.size hc5.size
    generalize (w5.setCell ⟨p, 0, none⟩ (.slice (some ⟨g, 0, none⟩) 1 cap)) = w6 at *
    have l4 : p4 < w4.heap.size := (Array.getElem?_eq_some_iff.1 ‹w4.heap[p4]? = _›).1
    have l5 : p5 < w4.heap.size := (Array.getElem?_eq_some_iff.1 ‹w4.heap[p5]? = _›).1
    have lp : p < w4.heap.size := (Array.getElem?_eq_some_iff.1 hpR).1
    have hgB := (World.ownsRow.lt ho6 g rfl)
    clear HOW5 hc5 hr4 hC4 hx5 hpR
    have c0 : w6.cell? ⟨p, 0, none⟩ = some (.slice (some ⟨g, 0, none⟩) 1 cap) := cell_of_row w6 p 0 _ _ _ hpR6
    have fz := frozen_row hpR6 0
    obtain ⟨im, him, hz0, hz1, hz2⟩ := info_parts item_info
    go_wp2_with (at_builtin; refine wpList_append_rd rfl _ _ 89 rfl w4.heap.size 95 im (.agg #[.int .i64 0, .int .i64 0]) 2 16 Try.underlying89 him hz0 hz1 hz2 rfl (by omega) _ _ _ rfl ho6 _ _ _ rfl hr6.out (icells_one _ _) (by unfold maxLen; omega) (by omega) (by omega) ?_)
    intro v7 w7 ho7 hg7
    have ho7' : OwnU w4.heap.size w7 v7 T (updN lv b n) := by
      unfold OwnU
      rw [← HCELLS.out, ← hTf, Nat.add_comm]
      exact ho7
    obtain ⟨g7, c7, rfl, hg7B, hg7l⟩ := World.ownsRow.form ho7' (by omega)
    have hc7 : Chg [g] w6 w7 := Chg.of_grown hg7
    have hpR7 := (hc7.block _ (Array.getElem?_eq_some_iff.1 hpR6).1 (by simp; omega)).trans hpR6
    have H4 := (hc7.block _ (Array.getElem?_eq_some_iff.1 H4).1 (by simp; omega)).trans H4
    have H5 := (hc7.block _ (Array.getElem?_eq_some_iff.1 H5).1 (by simp; omega)).trans H5
    have hC7 : Chg [p] w w7 := hC6.grown hg7 (fun k hk => by cases hk; exact Nat.le_trans hB4 hgB.1)
    have HOW7 := Lib.hid ho7'
    clear hg7 hc7 ho7 ho7' hC6 hpR6 hr6 hq3 ho6 hgB c0 fz him hz0 hz1 hz2
    have c0 : w7.cell? ⟨p, 0, none⟩ = some (.slice (some ⟨g, 0, none⟩) 1 cap) := cell_of_row w7 p 0 _ _ _ hpR7
    have fz := frozen_row hpR7 0
    have c5 : w7.cell? ⟨p5, 0, none⟩ = some (.int .i64 n) := cell_of_row w7 p5 0 _ _ _ H5
    go_wp2_with fail
    have hpR8 : (w7.setCell ⟨p, 0, none⟩ (.slice (some ⟨g7, 0, none⟩) T.length c7)).heap[p]? = some (.cells #[.slice (some ⟨g7, 0, none⟩) T.length c7, .slice (some ⟨bc, oc, none⟩) 4 cc] 91 (0, 0)) := heap_set (o := 0) hpR7 _
    have H4 := (Below.heap_setCell w7 ⟨p, 0, none⟩ (.slice (some ⟨g7, 0, none⟩) T.length c7) _ (Ne.symm np4)).trans H4
    have H5 := (Below.heap_setCell w7 ⟨p, 0, none⟩ (.slice (some ⟨g7, 0, none⟩) T.length c7) _ (Ne.symm np5)).trans H5
    have hc8 : Chg [p] w7 (w7.setCell ⟨p, 0, none⟩ (.slice (some ⟨g7, 0, none⟩) T.length c7)) := (by repeat' (first | (with_reducible exact Chg.refl _ _) | (with_reducible assumption) | (with_reducible refine Chg.drewN ?_ _) | (with_reducible refine Chg.drew ?_) | (with_reducible refine Chg.alloc ?_ _) | (with_reducible refine Chg.setCell ?_ (.inl (by simp)) _) | (with_reducible refine Chg.trans ?_ (by assumption)) | (with_reducible refine Chg.ext ?_ (by assumption))))
    have ho8 := Lib.hid (own_chg HOW7.out hc8 (by simp; omega))
    have hC8 : Chg [p] w (w7.setCell ⟨p, 0, none⟩ (.slice (some ⟨g7, 0, none⟩) T.length c7)) := hC7.trans hc8
    have hcap8 := Lib.hid (Rd.chg HR.out.cap hC8 (by intro g hg; cases hg; simpa using hoC))
    have hw8 : w4.heap.size ≤ (w7.setCell ⟨p, 0, none⟩ (.slice (some ⟨g7, 0, none⟩) T.length c7)).heap.size := by simp; omega
    have g8 : g7 < (w7.setCell ⟨p, 0, none⟩ (.slice (some ⟨g7, 0, none⟩) T.length c7)).heap.size := by simp; omega
    generalize (w7.setCell ⟨p, 0, none⟩ (.slice (some ⟨g7, 0, none⟩) T.length c7)) = w8 at *
    clear hpR7 hc8 hC7 HOW7 c0 fz c5
    go_loopw [7] (fun cl wr => ∃ (l : Nat) (lv' : Nat → Nat) (ms t : List (Nat × Nat)) (mv : Value), 1 ≤ l ∧ l ≤ 4 ∧ cl = .int .i64 l ∧ OwnU w4.heap.size wr (.slice (some ⟨g7, 0, none⟩) T.length c7) T lv' ∧ Stk T lv' ∧ wr.heap[p5]? = some (.cells #[.int .i64 n, mv] 47 (0, 0)) ∧ OwnM w8.heap.size wr mv ms ∧ ms ++ t = MS ∧ chainU caps T (4 - l) l lv' = (lv2, t) ∧ Chg [g7, p5] w8 wr) (fun cl _ => 4 - (intOf cl).toNat)
    case atStart => exact ⟨n, _, [], MS, _, n1, n4, rfl, ho8.out, HST.out, H5, OwnM.nil _ _, rfl, HCH.out, Chg.refl _ _⟩
    case round =>
      obtain ⟨l, lv', ms, t, mv, l1, l4', rfl, ho, hst, h5, hom, hms, hct, hC⟩ := hrel
      have HO := Lib.hid ho
      have HST' := Lib.hid hst
      have HOM := Lib.hid hom
      have HMS := Lib.hid hms
      have HCT := Lib.hid hct
      have hsz := hC.size
      have hpRr := (hC.block _ (Array.getElem?_eq_some_iff.1 hpR8).1 (by simp; omega)).trans hpR8
      have hRef : RefAt wr p (.slice (some ⟨g7, 0, none⟩) T.length c7) (.slice (some ⟨bc, oc, none⟩) 4 cc) caps T lv' := by
        refine ⟨hpRr, Rd.of_own ho, Rd.chg hcap8.out hC ?_, ?_, HR.out.offC⟩
        · intro g hg; cases hg; simp; omega
        · intro e
          have : g7 = p := by simpa [Value.ownBlock] using e
          omega
      have HREF := Lib.hid hRef
      have c0 := hRef.c0
      have c1 := hRef.c1
      have d0 : wr.cell? ⟨p5, 0, none⟩ = some (.int .i64 n) := cell_of_row wr p5 0 _ _ _ h5
      have d1 : wr.cell? ⟨p5, 1, none⟩ = some mv := cell_of_row wr p5 1 _ _ _ h5
      have fz5 := frozen_row h5 1
      have H5R := Lib.hid h5
      clear ho hst hom hms hct hRef h5
      by_cases hgo : l < 4 ∧ caps l < cntU T lv' l
      · obtain ⟨g4, gc⟩ := hgo
        have hli : (l : Int) ≤ 3 := by omega
        have k2 := cap_cell HREF.out.cap l l1 (by omega)
        obtain ⟨t', ht', hct'⟩ := chain_go g4 gc HCT.out
        have hpos : 0 < cntU T lv' l := by omega
        obtain ⟨y, hy⟩ := is_yard_ex T lv' l
        have hyk : ∃ k, k < T.length ∧ y = (k : Int) ∧ T.getD k 0 = yardU T lv' l := by
          rcases yard_is hy with ⟨_, h0⟩ | ⟨k, h1, h2, _, h3⟩
          · omega
          · exact ⟨k, h1, h2, h3⟩
        obtain ⟨k, hk, rfl, hyu⟩ := hyk
        have e0 : wr.cell? ⟨g7, k * 2, none⟩ = some (.int .i64 (T.getD k 0 : Nat)) := (World.ownsRow.cellAt HO.out (k * 2) (by omega)).trans (icells_at hk).1
        have e1 : wr.cell? ⟨g7, k * 2 + 1, none⟩ = some (.int .i64 (lv' (T.getD k 0) : Nat)) := (World.ownsRow.cellAt HO.out (k * 2 + 1) (by omega)).trans (icells_at hk).2
        have fz7 := World.ownsRow.frozenAt HO.out (k * 2 + 1)
        have hset := icells_set HST'.out.nodup hk (lv := lv') (l + 1)
        have hmemy : T.getD k 0 ∈ T := getD_memN hk
        rw [hyu] at e0 e1 hset hmemy
        obtain ⟨yy, hyy⟩ : ∃ yy, yardU T lv' l = yy := ⟨_, rfl⟩
        obtain ⟨nn, hnn⟩ : ∃ nn, cntU T lv' l = nn := ⟨_, rfl⟩
        obtain ⟨mm, hmm⟩ : ∃ mm, caps l = mm := ⟨_, rfl⟩
        obtain ⟨ll, hll⟩ : ∃ ll, lv' yy = ll := ⟨_, rfl⟩
        rw [hyy] at e0 e1 hset ht' hct' hmemy
        rw [hll] at e1
        rw [hmm] at k2 gc
        rw [hnn] at gc
        have hlti : (mm : Int) < (nn : Int) := by omega
        have hki : (k : Int) < (T.length : Int) := by omega
        have HY := Lib.hid hy
        have HNN := Lib.hid hnn
        have HSET := Lib.hid hset
        have HT' := Lib.hid ht'
        have HCT' := Lib.hid hct'
        have HMEM := Lib.hid hmemy
        have HYU := Lib.hid (hyu.trans hyy)
        clear gc hpos hyu hyy hnn hmm hll hy hset ht' hct' hmemy
        go_wp2_with fail
        go_quiet ((go_at_call 60; exact Calls.quiet_of_same (v := .int .i64 nn) ((rcount p _ _ caps T lv' _ (HREF.out.ext (by repeat' (first | (with_reducible exact Ext.refl _) | (with_reducible assumption) | (with_reducible refine Ext.alloc ?_ _) | (with_reducible refine Ext.drewN ?_ _) | (with_reducible refine Ext.drew ?_) | (with_reducible refine Ext.trans ?_ (by assumption))))) l).mono fun e w' h => ⟨by rw [h.1, HNN.out], h.2.symm⟩)))
        go_wp2_with fail
        refine (ryard' p _ _ caps T lv' _ (HREF.out.ext (by repeat' (first | (with_reducible exact Ext.refl _) | (with_reducible assumption) | (with_reducible refine Ext.alloc ?_ _) | (with_reducible refine Ext.drewN ?_ _) | (with_reducible refine Ext.drew ?_) | (with_reducible refine Ext.trans ?_ (by assumption))))) l k HY.out).mono ?_
        rintro e w9 ⟨rfl, rfl⟩
        go_wp2_with fail
        have hcr : Chg [g7] wr ((wr.drewN nq).setCell ⟨g7, k * 2 + 1, none⟩ (.int .i64 ((l : Int) + 1))) := ((Chg.refl _ _).drewN nq).setCell (.inl (by simp)) _
        have hC9 : Chg [g7, p5] w8 ((wr.drewN nq).setCell ⟨g7, k * 2 + 1, none⟩ (.int .i64 ((l : Int) + 1))) := hC.trans (hcr.mono (by simp))
        have ho9 : OwnU w4.heap.size ((wr.drewN nq).setCell ⟨g7, k * 2 + 1, none⟩ (.int .i64 ((l : Int) + 1))) (.slice (some ⟨g7, 0, none⟩) T.length c7) T (updN lv' yy (l + 1)) := by
          have := (World.ownsRow.stored (own_ext HO.out (show Ext wr (wr.drewN nq) from (by repeat' (first | (with_reducible exact Ext.refl _) | (with_reducible assumption) | (with_reducible refine Ext.alloc ?_ _) | (with_reducible refine Ext.drewN ?_ _) | (with_reducible refine Ext.drew ?_) | (with_reducible refine Ext.trans ?_ (by assumption)))))) (k * 2 + 1) (.int .i64 ((l : Int) + 1))).1
          have hs := HSET.out
          rw [show ((l + 1 : Nat) : Int) = (l : Int) + 1 by push_cast; rfl] at hs
          rw [hs] at this
          exact this
        have hom9 : OwnM w8.heap.size ((wr.drewN nq).setCell ⟨g7, k * 2 + 1, none⟩ (.int .i64 ((l : Int) + 1))) mv ms := own_chg HOM.out hcr (by simp; omega)
        have h59 := (hcr.block _ (Array.getElem?_eq_some_iff.1 H5R.out).1 (by simp; omega)).trans H5R.out
        have c0 := chg_cell hcr c0 (by simp; omega)
        have e0 : ((wr.drewN nq).setCell ⟨g7, k * 2 + 1, none⟩ (.int .i64 ((l : Int) + 1))).cell? ⟨g7, k * 2, none⟩ = some (.int .i64 yy) := by
          have hy := (icells_at (lv := updN lv' yy (l + 1)) hk).1
          rw [HYU.out] at hy
          exact (World.ownsRow.cellAt ho9 (k * 2) (by omega)).trans hy
        have hsz9 : w8.heap.size ≤ ((wr.drewN nq).setCell ⟨g7, k * 2 + 1, none⟩ (.int .i64 ((l : Int) + 1))).heap.size := hC9.size
        generalize ((wr.drewN nq).setCell ⟨g7, k * 2 + 1, none⟩ (.int .i64 ((l : Int) + 1))) = w9 at *
        have d1 : w9.cell? ⟨p5, 1, none⟩ = some mv := cell_of_row w9 p5 1 _ _ _ h59
        have fz5 := frozen_row h59 1
        have hmb : ∀ g, mv.ownBlock = some g → w8.heap.size ≤ g := fun g hg => (World.ownsRow.lt hom9 g hg).1
        have HMB := Lib.hid hmb
        have HOM9 := Lib.hid hom9
        have HO9 := Lib.hid ho9
        have hms4 : ms.length ≤ 4 := by have := HMS.out; rw [← this, List.length_append] at hml; omega
        have HMS4 := Lib.hid hms4
        have H59 := Lib.hid h59
        have HC9 := Lib.hid hC9
        have a1 := cell_old (.cells #[.int .i64 yy, .int .i64 l, .int .i64 ((l : Int) + 1)] 36 (0, 0)) d1
        clear hC hcr HOM HO HREF hmb hom9 ho9 k2 e1 fz7 h59 hC9 hpRr hms4 c1 d0
        have hwr : IntKind.i64.wrap ((l : Int) + 1) = (l : Int) + 1 := by rw [IntKind.wrap_i64]; omega
        go_region_law
          (refine step_append_rd (by rfl) _ _ _ (by rfl) 36 (.agg #[.int .i64 0, .int .i64 0, .int .i64 0]) 3 24 Try.underlying29 move_info (by rfl) (by decide) (by decide) w8.heap.size (Nat.le_trans hsz9 (Ext.size (w := w9) (by repeat' (first | (with_reducible exact Ext.refl _) | (with_reducible assumption) | (with_reducible refine Ext.alloc ?_ _) | (with_reducible refine Ext.drewN ?_ _) | (with_reducible refine Ext.drew ?_) | (with_reducible refine Ext.trans ?_ (by assumption)))))) mv ms.length (mcells ms) (by rfl) (own_ext HOM9.out (by repeat' (first | (with_reducible exact Ext.refl _) | (with_reducible assumption) | (with_reducible refine Ext.alloc ?_ _) | (with_reducible refine Ext.drewN ?_ _) | (with_reducible refine Ext.drew ?_) | (with_reducible refine Ext.trans ?_ (by assumption))))) _ [.int .i64 yy, .int .i64 l, .int .i64 ((l : Int) + 1)] (by rfl) (by first | exact Rd.three _ _ _ _ _ | exact (Rd.three _ _ _ _ _).ext (Ext.drew (Ext.refl _)) | exact (Rd.three _ _ _ _ _).ext (Ext.drewN (Ext.refl _) _)) (by simp [Value.oneCell']) (by have := HMS4.out; omega) ?_; intro g10 cap10 w10 ho10 hg10 hat; have d10 := (hg10.cell_far ⟨p5, 1, none⟩ (by simp; omega) (fun h => absurd (HMB.out p5 h.symm) (by omega))).trans (Ext.cellv (w := w9) (by repeat' (first | (with_reducible exact Ext.refl _) | (with_reducible assumption) | (with_reducible refine Ext.alloc ?_ _) | (with_reducible refine Ext.drewN ?_ _) | (with_reducible refine Ext.drew ?_) | (with_reducible refine Ext.trans ?_ (by assumption)))) d1); have f10 := (hg10.frozen_far ⟨p5, 1, none⟩ (by simp; omega) (fun h => absurd (HMB.out p5 h.symm) (by omega))).trans (Ext.frz (w := w9) (by repeat' (first | (with_reducible exact Ext.refl _) | (with_reducible assumption) | (with_reducible refine Ext.alloc ?_ _) | (with_reducible refine Ext.drewN ?_ _) | (with_reducible refine Ext.drew ?_) | (with_reducible refine Ext.trans ?_ (by assumption)))) d1 fz5))
        all_goals
          have hC10 : Chg [g7, p5] w8 w10 := Chg.grown (Chg.ext HC9.out (by exact ((by repeat' (first | (with_reducible exact Ext.refl _) | (with_reducible assumption) | (with_reducible refine Ext.alloc ?_ _) | (with_reducible refine Ext.drewN ?_ _) | (with_reducible refine Ext.drew ?_) | (with_reducible refine Ext.trans ?_ (by assumption))))))) hg10 HMB.out
          have h510 := (hg10.block p5 (Nat.lt_of_lt_of_le (Array.getElem?_eq_some_iff.1 H59.out).1 (Ext.size (w := w9) (by repeat' (first | (with_reducible exact Ext.refl _) | (with_reducible assumption) | (with_reducible refine Ext.alloc ?_ _) | (with_reducible refine Ext.drewN ?_ _) | (with_reducible refine Ext.drew ?_) | (with_reducible refine Ext.trans ?_ (by assumption)))))) (fun h => absurd (HMB.out p5 h.symm) (by omega))).trans ((Below.block (show Ext w9 _ from (by repeat' (first | (with_reducible exact Ext.refl _) | (with_reducible assumption) | (with_reducible refine Ext.alloc ?_ _) | (with_reducible refine Ext.drewN ?_ _) | (with_reducible refine Ext.drew ?_) | (with_reducible refine Ext.trans ?_ (by assumption))))) _ (Array.getElem?_eq_some_iff.1 H59.out).1).trans H59.out)
          have hO10 : OwnU w4.heap.size w10 (.slice (some ⟨g7, 0, none⟩) T.length c7) T (updN lv' yy (l + 1)) := World.ownsRow.kept (own_ext HO9.out (show Ext w9 _ from (by repeat' (first | (with_reducible exact Ext.refl _) | (with_reducible assumption) | (with_reducible refine Ext.alloc ?_ _) | (with_reducible refine Ext.drewN ?_ _) | (with_reducible refine Ext.drew ?_) | (with_reducible refine Ext.trans ?_ (by assumption)))))) hg10 (.inr (fun h => absurd (HMB.out g7 h.symm) (by omega)))
          have hom10 : OwnM w8.heap.size w10 (.slice (some ⟨g10, 0, none⟩) (ms.length + 1) cap10) (ms ++ [(yy, l)]) := by
            have e : mcells (ms ++ [(yy, l)]) = mcells ms ++ [Value.int .i64 yy, .int .i64 l, .int .i64 ((l : Int) + 1)] := by simp [mcells]
            unfold OwnM
            rw [e, List.length_append]
            exact ho10
          have HC10 := Lib.hid hC10
          have H510 := Lib.hid h510
          have HO10 := Lib.hid hO10
          have HOM10 := Lib.hid hom10
          clear hC10 h510 hO10 hom10 hg10 hat ho10 a1 HC9 H59 HO9 HOM9
          go_wp2_with fail
          have hc11 : Chg [p5] w10 (w10.setCell ⟨p5, 1, none⟩ (.slice (some ⟨g10, 0, none⟩) (ms.length + 1) cap10)) := (by repeat' (first | (with_reducible exact Chg.refl _ _) | (with_reducible assumption) | (with_reducible refine Chg.drewN ?_ _) | (with_reducible refine Chg.drew ?_) | (with_reducible refine Chg.alloc ?_ _) | (with_reducible refine Chg.setCell ?_ (.inl (by simp)) _) | (with_reducible refine Chg.trans ?_ (by assumption)) | (with_reducible refine Chg.ext ?_ (by assumption))))
          refine ⟨⟨l + 1, _, _, t', _, by omega, by omega, by go_num, own_chg HO10.out hc11 (by simp; omega), HST'.out.set HMEM.out (by omega) (by omega), heap_set (o := 1) H510.out _, own_chg HOM10.out hc11 (by simp; omega), ?_, HCT'.out, HC10.out.trans (hc11.mono (by simp))⟩, ?_⟩
          · rw [← HMS.out, HT'.out]; simp
          · simp [intOf]; omega
      · have hstop : lv' = lv2 ∧ ms = MS := by
          have hs : chainU caps T (4 - l) l lv' = (lv', []) := by
            by_cases h4 : l < 4
            · exact chain_stop (fun h => hgo ⟨h4, h⟩)
            · rw [show 4 - l = 0 by omega]; rfl
          have hh := HCT.out
          rw [hs] at hh
          obtain ⟨e1, e2⟩ := Prod.mk.inj hh
          have := HMS.out
          rw [← e2, List.append_nil] at this
          exact ⟨e1, this⟩
        obtain ⟨rfl, rfl⟩ := hstop
        obtain ⟨am, cm, rfl⟩ : ∃ a c, mv = .slice a ms.length c := by obtain ⟨_, a, c, h, _⟩ := Rd.of_own HOM.out; exact ⟨a, c, h⟩
        have H4R := Lib.hid ((hC.block _ (Array.getElem?_eq_some_iff.1 H4).1 (by simp; omega)).trans H4)
        clear H4 H5 d0 d1 fz5 hpRr
        by_cases hl4 : l < 4
        · have hli : (l : Int) ≤ 3 := by omega
          have k2 := cap_cell HREF.out.cap l l1 (by omega)
          obtain ⟨nn, hnn⟩ : ∃ nn, cntU T lv' l = nn := ⟨_, rfl⟩
          obtain ⟨mm, hmm⟩ : ∃ mm, caps l = mm := ⟨_, rfl⟩
          have hle : ¬ (mm : Int) < (nn : Int) := by rw [← hnn, ← hmm]; omega
          rw [hmm] at k2
          have HNN := Lib.hid hnn
          clear hnn hmm hgo
          go_wp2_with fail
          go_quiet ((go_at_call 60; exact Calls.quiet_of_same (v := .int .i64 nn) ((rcount p _ _ caps T lv' _ (HREF.out.ext (by repeat' (first | (with_reducible exact Ext.refl _) | (with_reducible assumption) | (with_reducible refine Ext.alloc ?_ _) | (with_reducible refine Ext.drewN ?_ _) | (with_reducible refine Ext.drew ?_) | (with_reducible refine Ext.trans ?_ (by assumption))))) l).mono fun e w' h => ⟨by rw [h.1, HNN.out], h.2.symm⟩)))
          go_wp2_with fail
          refine (rprune p _ _ caps T lv' _ (HREF.out.ext (show Ext wr _ from (by repeat' (first | (with_reducible exact Ext.refl _) | (with_reducible assumption) | (with_reducible refine Ext.alloc ?_ _) | (with_reducible refine Ext.drewN ?_ _) | (with_reducible refine Ext.drew ?_) | (with_reducible refine Ext.trans ?_ (by assumption)))))) HST'.out (by omega)).mono ?_
          rintro e w11 ⟨rfl, vL', hrf, hfr, hc11⟩
          have hcr : Chg [p] wr w11 := (Chg.of_ext (show Ext wr _ from by exact ((by repeat' (first | (with_reducible exact Ext.refl _) | (with_reducible assumption) | (with_reducible refine Ext.alloc ?_ _) | (with_reducible refine Ext.drewN ?_ _) | (with_reducible refine Ext.drew ?_) | (with_reducible refine Ext.trans ?_ (by assumption))))))).trans hc11
          have H4 := (hcr.block _ (Array.getElem?_eq_some_iff.1 H4R.out).1 (by simp; omega)).trans H4R.out
          have H5 := (hcr.block _ (Array.getElem?_eq_some_iff.1 H5R.out).1 (by simp; omega)).trans H5R.out
          have hszx : wr.heap.size ≤ w11.heap.size := hcr.size
          have hfr2 : ∀ g, vL'.ownBlock = some g → w4.heap.size ≤ g := by
            intro g hg
            rcases hfr g hg with h | h
            · have : g7 = g := by simpa [Value.ownBlock] using h
              omega
            · have := (show Ext wr _ from by exact ((by repeat' (first | (with_reducible exact Ext.refl _) | (with_reducible assumption) | (with_reducible refine Ext.alloc ?_ _) | (with_reducible refine Ext.drewN ?_ _) | (with_reducible refine Ext.drew ?_) | (with_reducible refine Ext.trans ?_ (by assumption)))))).size
              exact Nat.le_trans (Nat.le_trans hw8 (Nat.le_trans hsz this)) h
          have HRF := Lib.hid hrf
          have HFR := Lib.hid hfr2
          have HCR := Lib.hid hcr
          have d0 : w11.cell? ⟨p5, 0, none⟩ = some (.int .i64 n) := cell_of_row w11 p5 0 _ _ _ H5
          have d1 : w11.cell? ⟨p5, 1, none⟩ = some (.slice am ms.length cm) := cell_of_row w11 p5 1 _ _ _ H5
          have b0 : w11.cell? ⟨p4, 0, none⟩ = some (.int .i64 0) := cell_of_row w11 p4 0 _ _ _ H4
          have b1 : w11.cell? ⟨p4, 1, none⟩ = some (.slice none 0 0) := cell_of_row w11 p4 1 _ _ _ H4
          have fz0 := frozen_row H4 0
          have fz1 := frozen_row H4 1
          have H44 := Lib.hid H4
          clear hrf hfr hfr2 hc11 hcr H4 H5
          rw [← HP4.out]
          go_wp2_with fail
          (try simp only [Exit.inBlock, Exit.then])
          refine bodyPost_ret (results_cell_row rfl _ _ p4 _ _ _ _ rfl (fill2 H44.out _ _) Try.underlying47 rfl used_info) rfl ?_
          have hcz : Chg [p4] w11 ((w11.setCell ⟨p4, 0, none⟩ (.int .i64 n)).setCell ⟨p4, 1, none⟩ (.slice am ms.length cm)) := (by repeat' (first | (with_reducible exact Chg.refl _ _) | (with_reducible assumption) | (with_reducible refine Chg.drewN ?_ _) | (with_reducible refine Chg.drew ?_) | (with_reducible refine Chg.alloc ?_ _) | (with_reducible refine Chg.setCell ?_ (.inl (by simp)) _) | (with_reducible refine Chg.trans ?_ (by assumption)) | (with_reducible refine Chg.ext ?_ (by assumption))))
          refine ⟨_, vL', rfl, ?_, ?_, ?_, ?_⟩
          · exact ownsRow_lower (own_chg (own_chg HOM.out HCR.out (by simp; omega)) hcz (by simp; omega)) (by omega)
          · refine HRF.out.chg hcz (by simp; omega) ?_ ?_
            · intro g hg; have := HFR.out g hg; simp; omega
            · intro g hg; cases hg; have := HP4.out; simp; omega
          · intro g hg; have := HFR.out g hg; exact .inr (by omega)
          · refine ((Chg.new hC8 hC ?_).new HCR.out ?_).new hcz ?_
            · simp; omega
            · simp
            · simp; omega
        · have hli : ¬ (l : Int) ≤ 3 := by omega
          have hld : decide ((l : Int) ≤ 3) = false := decide_eq_false hli
          clear hgo
          go_wp2_with fail
          go_quiet (fail)
          go_wp2_with fail
          refine (rprune p _ _ caps T lv' _ (HREF.out.ext (show Ext wr _ from (by repeat' (first | (with_reducible exact Ext.refl _) | (with_reducible assumption) | (with_reducible refine Ext.alloc ?_ _) | (with_reducible refine Ext.drewN ?_ _) | (with_reducible refine Ext.drew ?_) | (with_reducible refine Ext.trans ?_ (by assumption)))))) HST'.out (by omega)).mono ?_
          rintro e w11 ⟨rfl, vL', hrf, hfr, hc11⟩
          have hcr : Chg [p] wr w11 := (Chg.of_ext (show Ext wr _ from by exact ((by repeat' (first | (with_reducible exact Ext.refl _) | (with_reducible assumption) | (with_reducible refine Ext.alloc ?_ _) | (with_reducible refine Ext.drewN ?_ _) | (with_reducible refine Ext.drew ?_) | (with_reducible refine Ext.trans ?_ (by assumption))))))).trans hc11
          have H4 := (hcr.block _ (Array.getElem?_eq_some_iff.1 H4R.out).1 (by simp; omega)).trans H4R.out
          have H5 := (hcr.block _ (Array.getElem?_eq_some_iff.1 H5R.out).1 (by simp; omega)).trans H5R.out
          have hszx : wr.heap.size ≤ w11.heap.size := hcr.size
          have hfr2 : ∀ g, vL'.ownBlock = some g → w4.heap.size ≤ g := by
            intro g hg
            rcases hfr g hg with h | h
            · have : g7 = g := by simpa [Value.ownBlock] using h
              omega
            · have := (show Ext wr _ from by exact ((by repeat' (first | (with_reducible exact Ext.refl _) | (with_reducible assumption) | (with_reducible refine Ext.alloc ?_ _) | (with_reducible refine Ext.drewN ?_ _) | (with_reducible refine Ext.drew ?_) | (with_reducible refine Ext.trans ?_ (by assumption)))))).size
              exact Nat.le_trans (Nat.le_trans hw8 (Nat.le_trans hsz this)) h
          have HRF := Lib.hid hrf
          have HFR := Lib.hid hfr2
          have HCR := Lib.hid hcr
          have d0 : w11.cell? ⟨p5, 0, none⟩ = some (.int .i64 n) := cell_of_row w11 p5 0 _ _ _ H5
          have d1 : w11.cell? ⟨p5, 1, none⟩ = some (.slice am ms.length cm) := cell_of_row w11 p5 1 _ _ _ H5
          have b0 : w11.cell? ⟨p4, 0, none⟩ = some (.int .i64 0) := cell_of_row w11 p4 0 _ _ _ H4
          have b1 : w11.cell? ⟨p4, 1, none⟩ = some (.slice none 0 0) := cell_of_row w11 p4 1 _ _ _ H4
          have fz0 := frozen_row H4 0
          have fz1 := frozen_row H4 1
          have H44 := Lib.hid H4
          clear hrf hfr hfr2 hc11 hcr H4 H5
          rw [← HP4.out]
          go_wp2_with fail
          (try simp only [Exit.inBlock, Exit.then])
          refine bodyPost_ret (results_cell_row rfl _ _ p4 _ _ _ _ rfl (fill2 H44.out _ _) Try.underlying47 rfl used_info) rfl ?_
          have hcz : Chg [p4] w11 ((w11.setCell ⟨p4, 0, none⟩ (.int .i64 n)).setCell ⟨p4, 1, none⟩ (.slice am ms.length cm)) := (by repeat' (first | (with_reducible exact Chg.refl _ _) | (with_reducible assumption) | (with_reducible refine Chg.drewN ?_ _) | (with_reducible refine Chg.drew ?_) | (with_reducible refine Chg.alloc ?_ _) | (with_reducible refine Chg.setCell ?_ (.inl (by simp)) _) | (with_reducible refine Chg.trans ?_ (by assumption)) | (with_reducible refine Chg.ext ?_ (by assumption))))
          refine ⟨_, vL', rfl, ?_, ?_, ?_, ?_⟩
          · exact ownsRow_lower (own_chg (own_chg HOM.out HCR.out (by simp; omega)) hcz (by simp; omega)) (by omega)
          · refine HRF.out.chg hcz (by simp; omega) ?_ ?_
            · intro g hg; have := HFR.out g hg; simp; omega
            · intro g hg; cases hg; have := HP4.out; simp; omega
          · intro g hg; have := HFR.out g hg; exact .inr (by omega)
          · refine ((Chg.new hC8 hC ?_).new HCR.out ?_).new hcz ?_
            · simp; omega
            · simp
            · simp; omega
end
end Go.Proofs.Ytibcfmnkpemieaa
