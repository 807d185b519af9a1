/-
  gradineref15.Cache.Do. No condition but that the cache lies in memory.
-/
import Derived.Test.YtpmfadepinmmjaaRp3
import Derived.Deep.CutRange
namespace Go.Proofs.Ytpmfadepinmmjaa
open Go.RowKit

/-- what is done to a range's list: which one goes, whether, was it there, the error, the list -/
def doF (kd : Int) (part : Nat) (loop : Bool) (L : List Nat) (b : Nat) (is : Bool) : Int × Bool × Bool × Int × List Nat :=
  if kd = 1 ∧ (is = false ∨ part = 0) then (0, false, decide (is = true ∧ b ∈ L), 5, L)
  else if is = true ∧ b ∈ L then (0, false, true, 0, if kd < 2 then b :: remP L b else remP L b)
  else if kd ≠ 1 then (0, false, false, 0, L)
  else if part ≤ L.length then ((vicP loop L : Nat), true, false, 0, b :: remP L (vicP loop L))
  else (0, false, false, 0, b :: L)
theorem wo_rem (L : List Nat) (b : Nat) : woL (asInts L) (b : Nat) = asInts (remP L b) := by
  unfold woL asInts remP
  rw [List.filter_map]
  congr 1
  apply List.filter_congr
  intro x _
  simp only [Function.comp, ne_eq, decide_not]
  congr 1
  simp
  omega
theorem fill5w {w : World} {p : Nat} {u0 u1 u2 u3 u4 : Value} {t : TypeId} (h : w.heap[p]? = some (.cells #[u0, u1, u2, u3, u4] t (0, 0))) (v0 v1 v2 v3 v4 : Value) :
    (((((w.setCell ⟨p, 0, none⟩ v0).setCell ⟨p, 1, none⟩ v1).setCell ⟨p, 2, none⟩ v2).setCell ⟨p, 3, none⟩ v3).setCell ⟨p, 4, none⟩ v4).heap[p]? = some (.cells #[v0, v1, v2, v3, v4] t (0, 0)) :=
  (heap_set (heap_set (heap_set (heap_set (heap_set h v0) v1) v2) v3) v4).trans (by kernel_rfl)
theorem went15_info : (Try.prog.info? 53).map (·.size) = some 5 := by kernel_rfl
theorem rem_len (L : List Nat) (b : Nat) : (remP L b).length ≤ L.length := List.length_filter_le _ _
theorem asL (L : List Nat) : (asInts L).length = L.length := by simp [asInts]

theorem Ext.frzd {w w' : World} (h : Ext w w') {b o : Nat} {u : Value} (hc : w.cell? ⟨b, o, none⟩ = some u) (hf : w.frozen? ⟨b, o, none⟩ = false) : w'.frozen? ⟨b, o, none⟩ = false := (Below.frozen (p := ⟨b, o, none⟩) h (cell_lt hc)).trans hf
theorem vic_at (lp : Bool) (LX : List Nat) (nl : Nat) (h : nl = LX.length) (h0 : 0 < nl) : ((vicP lp LX : Nat) : Int) = if lp = true then (asInts LX).getD 0 0 else (asInts LX).getD (nl - 1) 0 := by
  have hat : ∀ j, j < LX.length → (asInts LX).getD j 0 = ((LX.getD j 0 : Nat) : Int) := by
    intro j hj
    simp [asInts, List.getD, hj]
  unfold vicP
  cases lp with
  | true =>
    rw [if_pos rfl, if_pos rfl, hat 0 (by omega)]
    cases LX with
    | nil => simp at h; omega
    | cons a t => rfl
  | false =>
    simp only [Bool.false_eq_true, if_false]
    rw [hat _ (by omega), List.getLastD_eq_getLast?, List.getLast?_eq_getElem?, List.getD_eq_getElem?_getD, h]
theorem chg_new5 {w w' : World} {gl q : Nat} (h : Chg [gl] w w') (hq : w.heap.size ≤ q) (v0 v1 v2 v3 v4 : Value) : Chg [gl] w (((((w'.setCell ⟨q, 0, none⟩ v0).setCell ⟨q, 1, none⟩ v1).setCell ⟨q, 2, none⟩ v2).setCell ⟨q, 3, none⟩ v3).setCell ⟨q, 4, none⟩ v4) :=
  ((((h.setCell (.inr hq) v0).setCell (.inr hq) v1).setCell (.inr hq) v2).setCell (.inr hq) v3).setCell (.inr hq) v4
theorem rc_new5 {w : World} {G : List Nat} {px gl : Nat} {hv : Value} {gp n t : Nat} {F : Nat → Nat → Int} {L : Nat → Bool} {c : Nat → Nat} {M : List Nat} {Ls : List (List Nat)} {q q2 : Nat} (h : RcAt w (q :: q2 :: G) px gl hv gp n t F L c M Ls) (hq : gl ≠ q) (hg : gl ∈ G) (v0 v1 v2 v3 v4 : Value) :
    RcAt (((((w.setCell ⟨q, 0, none⟩ v0).setCell ⟨q, 1, none⟩ v1).setCell ⟨q, 2, none⟩ v2).setCell ⟨q, 3, none⟩ v3).setCell ⟨q, 4, none⟩ v4) G px gl hv gp n t F L c M Ls :=
  ((((((h.off (by simp) hq 0 v0).off (by simp) hq 1 v1).off (by simp) hq 2 v2).off (by simp) hq 3 v3).off (by simp) hq 4 v4)).mono (fun f hf => by simp [hf]) hg
set_option maxRecDepth 100000 in
set_option maxHeartbeats 16000000 in
theorem rdo15 (w : World) (G : List Nat) (px gl : Nat) (hv : Value) (gp n t : Nat) (F : Nat → Nat → Int) (L : Nat → Bool) (c : Nat → Nat) (M : List Nat) (Ls : List (List Nat)) (h : RcAt w G px gl hv gp n t F L c M Ls)
    (hG : ∀ f ∈ G, f < w.heap.size) (hlen : Ls.length = n + 1) (m : Int) (ok : HsOk n F m) (ht : 1 ≤ t ∧ t ≤ 3) (hL : ∀ r, r < n → (Ls.getD r []).length ≤ 64) (hP : ∀ x, PR F c M x (t - 1) ≤ 32) (kd b : Int) (hkd : kd = 0 ∨ kd = 1 ∨ kd = 2) (hwb : (Lit.int .i64 b).wf = true) (is : Bool) (x : Nat) (hr : RngB n F b is x) (V : Int) (Gn W : Bool) (E : Int) (T : List Nat) (hres : doF kd (PR F c M x (t - 1)) (L x) (Ls.getD x []) b.toNat is = (V, Gn, W, E, T)) :
    Calls Try.prog 20 #[.pointer (some ⟨px, 0, none⟩), .agg #[.int .i64 kd, .int .i64 b]] w fun e w' => e = .returned (.agg #[.slice none 0 0, .int .i64 V, .bool Gn, .bool W, .int .i64 E]) ∧ RcAt w' G px gl hv gp n t F L c M (if is = true then Ls.set x T else Ls) ∧ Chg [gl] w w' := by
  obtain ⟨a, cap, c0, _, _, c3, hgl⟩ := h.cells
  have hn8 := ok.2.2
  have HH := Lib.hid h.hints
  obtain ⟨ha, hcp, rfl, _, _, _, hhc⟩ := h.hints
  obtain ⟨hs, hhs⟩ : ∃ v, v = decide (is = true ∧ b.toNat ∈ Ls.getD x []) := ⟨_, rfl⟩
  have HHAS := Lib.hid (fun w' (hx : Ext w w') => rhas15 w' G px gl (.slice ha n hcp) gp n t F L c M Ls (h.ext hx) m ok b hwb is x hr hs hhs.symm)
  have HRG := Lib.hid (fun w' (hx : Ext w w') => rrange (.slice ha n hcp) n F L m b hwb w' (HH.out.ext hx) ok is x hr _ rfl)
  obtain ⟨z, hz⟩ : ∃ z, z = if is = true then PR F c M x (t - 1) else 0 := ⟨_, rfl⟩
  have HPT := Lib.hid (fun w' (hx : Ext w w') => rpart15 w' G px gl (.slice ha n hcp) gp n t F L c M Ls (h.ext hx) m ok ht b hwb is x hr z hz)
  have H := Lib.hid h
  have HHS := Lib.hid hhs
  have HZ := Lib.hid hz
  have HRES := Lib.hid hres
  have HR := Lib.hid hr
  have HOK := Lib.hid ok
  have HLL := Lib.hid hL
  have HG := Lib.hid hG
  have HLN := Lib.hid hlen
  have HHC := Lib.hid hhc
  have HGL := Lib.hid hgl
  have HPB := Lib.hid hP
  have hz32 : z ≤ 32 := by rw [hz]; split; exact hP x; omega
  obtain ⟨r, hrr⟩ : ∃ r : Int, r = if is = true then (x : Int) else -1 := ⟨_, rfl⟩
  rw [← hrr] at HRG
  have HRR := Lib.hid hrr
  clear h hG hlen ok ht hL hP hwb hr hres hhs hz hhc hgl hrr
  obtain ⟨LSF, hLSF⟩ : ∃ y, y = (if is = true then Ls.set x T else Ls) := ⟨_, rfl⟩
  have HLSF := Lib.hid hLSF
  rw [← hLSF]
  clear hLSF
  go_enter Try.func20, Try.ntmps20
  go_upto_region 1 with fail
  have h0a : ((w.alloc (.cells #[.int .i64 kd, .int .i64 b] 37)).alloc (.cells #[.slice none 0 0, .int .i64 0, .bool false, .bool false, .int .i64 0] 53)).heap[w.heap.size]? = some (.cells #[.int .i64 kd, .int .i64 b] 37 (0, 0)) := heap_alloc2_old w _ _
  have h0b : ((w.alloc (.cells #[.int .i64 kd, .int .i64 b] 37)).alloc (.cells #[.slice none 0 0, .int .i64 0, .bool false, .bool false, .int .i64 0] 53)).heap[w.heap.size + 1]? = some (.cells #[.slice none 0 0, .int .i64 0, .bool false, .bool false, .int .i64 0] 53 (0, 0)) := heap_alloc2_new w _ _
  have hxA : Ext w ((w.alloc (.cells #[.int .i64 kd, .int .i64 b] 37)).alloc (.cells #[.slice none 0 0, .int .i64 0, .bool false, .bool false, .int .i64 0] 53)) := ((Ext.refl w).alloc _).alloc _
  generalize ((w.alloc (.cells #[.int .i64 kd, .int .i64 b] 37)).alloc (.cells #[.slice none 0 0, .int .i64 0, .bool false, .bool false, .int .i64 0] 53)) = w1 at *
  obtain ⟨q4, hq4⟩ : ∃ q, q = w.heap.size + 1 := ⟨_, rfl⟩
  obtain ⟨pa, hpa⟩ : ∃ q, q = w.heap.size := ⟨_, rfl⟩
  rw [← hq4] at h0b ⊢
  rw [← hpa] at h0a ⊢
  have HQ : Hid (q4 = pa + 1 ∧ pa = w.heap.size ∧ q4 < w1.heap.size) := Lib.hid ⟨by omega, hpa, (Array.getElem?_eq_some_iff.1 h0b).1⟩
  have a0 := cell_of_row w1 pa 0 _ _ _ h0a
  have a1 := cell_of_row w1 pa 1 _ _ _ h0a
  simp only [List.getElem?_toArray, List.getElem?_cons_zero, List.getElem?_cons_succ] at a0 a1
  clear hq4 hpa h0a
  go_wp2_with fail
  refine (HHAS.out _ hxA).mono ?_
  rintro e w2 ⟨rfl, hx2⟩
  replace a0 := hx2.cellv a0
  replace a1 := hx2.cellv a1
  have h4 := (Below.block hx2 q4 (Array.getElem?_eq_some_iff.1 h0b).1).trans h0b
  have hxB := hxA.trans hx2
  clear h0b hxA hx2 HHAS
  go_upto_region 2 with fail
  have hxC : Ext w2 (w2.alloc (.cells #[.slice none 0 0, .int .i64 0, .bool false, .bool hs, .int .i64 0] 53)) := (Ext.refl w2).alloc _
  have h5 := heap_alloc_new w2 (.cells #[.slice none 0 0, .int .i64 0, .bool false, .bool hs, .int .i64 0] 53)
  generalize (w2.alloc (.cells #[.slice none 0 0, .int .i64 0, .bool false, .bool hs, .int .i64 0] 53)) = w3 at *
  obtain ⟨q5, hq5⟩ : ∃ q, q = w2.heap.size := ⟨_, rfl⟩
  rw [← hq5] at h5 ⊢
  have hx3 := hxB.trans hxC
  have HX3 := Lib.hid hx3
  replace c0 := hx3.cellv c0
  replace c3 := hx3.cellv c3
  replace a0 := hxC.cellv a0
  replace a1 := hxC.cellv a1
  have HQ5 : Hid (q4 < q5 ∧ pa < q5 ∧ w.heap.size ≤ q5) := Lib.hid (by have h1 := (Array.getElem?_eq_some_iff.1 h4).1; have := HQ.out; have := hxB.size; omega)
  have H4 := Lib.hid ((Below.block hxC q4 (Array.getElem?_eq_some_iff.1 h4).1).trans h4)
  have H5 := Lib.hid h5
  clear hq5 hxB hxC h4 h5 hx3
  go_wp2_with fail
  go_region_held3 (fun w' => w'.cell? ⟨px, 0, none⟩ = some (.slice ha n hcp) ∧ w'.cell? ⟨pa, 1, none⟩ = some (.int .i64 b) ∧ Ext w3 w') (exact ⟨Ext.cellv (w := w3) (by repeat' (first | (with_reducible exact Ext.refl _) | (with_reducible assumption) | (with_reducible refine Ext.alloc ?_ _) | (with_reducible refine Ext.drewN ?_ _) | (with_reducible refine Ext.drew ?_) | (with_reducible refine Ext.trans ?_ (by assumption)))) c0, Ext.cellv (w := w3) (by repeat' (first | (with_reducible exact Ext.refl _) | (with_reducible assumption) | (with_reducible refine Ext.alloc ?_ _) | (with_reducible refine Ext.drewN ?_ _) | (with_reducible refine Ext.drew ?_) | (with_reducible refine Ext.trans ?_ (by assumption)))) a1, (by repeat' (first | (with_reducible exact Ext.refl _) | (with_reducible assumption) | (with_reducible refine Ext.alloc ?_ _) | (with_reducible refine Ext.drewN ?_ _) | (with_reducible refine Ext.drew ?_) | (with_reducible refine Ext.trans ?_ (by assumption))))⟩) ((go_at_call 37; refine Calls.mono (HRG.out _ (HX3.out.trans (by (repeat' (first | (with_reducible exact Ext.refl _) | (with_reducible assumption) | (with_reducible refine Ext.alloc ?_ _) | (with_reducible refine Ext.drewN ?_ _) | (with_reducible refine Ext.drew ?_) | (with_reducible refine Ext.trans ?_ (by assumption)))); done))) ?_; rintro e wR ⟨rfl, hxR⟩))
  have hx34 : Ext w3 wR := (by repeat' (first | (with_reducible exact Ext.refl _) | (with_reducible assumption) | (with_reducible refine Ext.alloc ?_ _) | (with_reducible refine Ext.drewN ?_ _) | (with_reducible refine Ext.drew ?_) | (with_reducible refine Ext.trans ?_ (by assumption))))
  replace c0 := hx34.cellv c0
  replace c3 := hx34.cellv c3
  replace a0 := hx34.cellv a0
  replace a1 := hx34.cellv a1
  have HX4 := Lib.hid (HX3.out.trans hx34)
  have H44 := Lib.hid ((Below.block hx34 q4 (Array.getElem?_eq_some_iff.1 H4.out).1).trans H4.out)
  have H54 := Lib.hid ((Below.block hx34 q5 (Array.getElem?_eq_some_iff.1 H5.out).1).trans H5.out)
  clear hx34 hxR HX3 H4 H5 HRG
  obtain ⟨w4, rfl⟩ : ∃ w4, w4 = wR := ⟨_, rfl⟩
  have HC4 : Hid (RcAt w4 (q4 :: q5 :: G) px gl (.slice ha n hcp) gp n t F L c M Ls) := Lib.hid (((H.out.fresh HQ5.out.2.2).fresh (by have := HQ.out; omega)).ext HX4.out)
  have HGN : Hid (gl ∈ G ∧ gl ≠ q4 ∧ gl ≠ q5 ∧ q4 ≠ q5 ∧ pa ≠ q4 ∧ pa ≠ q5 ∧ pa ≠ gl ∧ px ≠ q4 ∧ px ≠ q5 ∧ px ≠ gl) := Lib.hid (by
    have h1 := H.out.glG
    have h2 := HG.out gl h1
    have h3 := H.out.lt
    have h4 := HQ.out
    have h5 := HQ5.out
    have h6 : px ≠ gl := fun e => H.out.pxG (e ▸ h1)
    exact ⟨h1, by omega, by omega, by omega, by omega, by omega, by omega, by omega, by omega, h6⟩)
  have HGG : Hid (∀ f ∈ q4 :: q5 :: G, f < w4.heap.size) := Lib.hid (fun f hf => by
    have h1 := HX4.out.size
    have h4 := (Array.getElem?_eq_some_iff.1 H44.out).1
    have h5 := (Array.getElem?_eq_some_iff.1 H54.out).1
    rcases List.mem_cons.1 hf with rfl | hf
    · exact h4
    · rcases List.mem_cons.1 hf with rfl | hf
      · exact h5
      · have := HG.out f hf; omega)
  have HCH4 : Hid (Chg [gl] w w4) := Lib.hid (Chg.of_ext HX4.out)
  rcases hkd with rfl | rfl | rfl
  ·
    cases hs with
    | true =>
      --[[A
      have his : is = true := by have h9 := HHS.out; cases is with | true => rfl | false => simp at h9
      obtain ⟨hxn, hin⟩ : x < n ∧ HIn F x b := by
        rcases HR.out with ⟨a9, _⟩ | ⟨_, a9⟩
        · rw [his] at a9; cases a9
        · exact a9
      have hxi : (x : Int) < (n : Int) := by omega
      obtain rfl := HGL.out (by omega)
      obtain rfl : r = (x : Nat) := by rw [HRR.out, his]; rfl
      obtain ⟨kb, rfl⟩ : ∃ kb : Nat, b = kb := ⟨b.toNat, by have := (hin_ok HOK.out hxn hin).1; omega⟩
      obtain ⟨LX, hLX⟩ : ∃ y, y = Ls.getD x [] := ⟨_, rfl⟩
      have HLX := Lib.hid hLX
      have hl64 : LX.length ≤ 64 := by rw [hLX]; exact HLL.out x hxn
      have HLE : Hid (Ls.length = n + 1) := HLN
      clear hLX hin
      have hmem : kb ∈ LX := by
        have h9 := HHS.out
        rw [eq_comm, decide_eq_true_eq] at h9
        rw [HLX.out]
        exact h9.2
      obtain ⟨rfl, rfl, rfl, rfl, hT⟩ : V = 0 ∧ Gn = false ∧ W = true ∧ E = 0 ∧ T = (if (0 : Int) < 2 then kb :: remP LX kb else remP LX kb) := by
        have h9 := HRES.out
        unfold doF at h9
        rw [if_neg (by omega), if_pos (by rw [← HLX.out, Int.toNat_natCast]; exact ⟨his, hmem⟩), ← HLX.out, Int.toNat_natCast] at h9
        simp only [Prod.mk.injEq] at h9
        exact ⟨h9.1.symm, h9.2.1.symm, h9.2.2.1.symm, h9.2.2.2.1.symm, h9.2.2.2.2.symm⟩
      have HT := Lib.hid hT
      clear hT hmem
      obtain ⟨⟨vl, k1, hvl⟩, f1⟩ := HC4.out.at hxn
      obtain ⟨avl, nvl, cvl, rfl⟩ : ∃ a n c, vl = .slice a n c := by obtain ⟨a, c, h9, _⟩ := hvl.parts; exact ⟨a, _, c, h9⟩
      rw [← HLX.out] at hvl
      have Hvl := Lib.hid hvl
      clear hvl
      have e0 := cell_of_row w4 q5 0 _ _ _ H54.out
      have e1 := cell_of_row w4 q5 1 _ _ _ H54.out
      have e2 := cell_of_row w4 q5 2 _ _ _ H54.out
      have e3 := cell_of_row w4 q5 3 _ _ _ H54.out
      have e4 := cell_of_row w4 q5 4 _ _ _ H54.out
      simp at e0 e1 e2 e3 e4
      go_upto_region 7 with fail
      refine wp_region_noPanic ?_
      refine wp_region_held_drew (S := (fun w' => w'.cell? ⟨px, 3, none⟩ = some (.slice (some ⟨gl, 0, none⟩) n cap) ∧ w'.cell? ⟨pa, 1, none⟩ = some (.int .i64 ((kb : Nat) : Int)) ∧ Chg [gl] w4 w')) (by kernel_rfl) ?_ (fun hHeld => ?_)
      · try dsimp only
        exact ⟨chg_cellc (S := [gl]) (w := w4) (by repeat' (first | (with_reducible exact Chg.refl _ _) | (with_reducible assumption) | (with_reducible refine Chg.drewN ?_ _) | (with_reducible refine Chg.drew ?_) | (with_reducible refine Chg.alloc ?_ _) | (with_reducible refine Chg.setCell ?_ (.inl (by simp)) _) | (with_reducible refine Chg.trans ?_ (by assumption)) | (with_reducible refine Chg.ext ?_ (by assumption)))) c3 (by have := HGN.out; simp; omega), chg_cellc (S := [gl]) (w := w4) (by repeat' (first | (with_reducible exact Chg.refl _ _) | (with_reducible assumption) | (with_reducible refine Chg.drewN ?_ _) | (with_reducible refine Chg.drew ?_) | (with_reducible refine Chg.alloc ?_ _) | (with_reducible refine Chg.setCell ?_ (.inl (by simp)) _) | (with_reducible refine Chg.trans ?_ (by assumption)) | (with_reducible refine Chg.ext ?_ (by assumption)))) a1 (by have := HGN.out; simp; omega), (by repeat' (first | (with_reducible exact Chg.refl _ _) | (with_reducible assumption) | (with_reducible refine Chg.drewN ?_ _) | (with_reducible refine Chg.drew ?_) | (with_reducible refine Chg.alloc ?_ _) | (with_reducible refine Chg.setCell ?_ (.inl (by simp)) _) | (with_reducible refine Chg.trans ?_ (by assumption)) | (with_reducible refine Chg.ext ?_ (by assumption))))⟩
      refine wpAnyH_take (i := 0) (v := ?_) rfl (by kernel_rfl) (by kernel_rfl) (by kernel_rfl) (fun _ _ _ h => h) (Or.inl ⟨by rfl, ?_⟩) (by assumption) ?_
      rotate_left
      · (intro w9 hSw; (try dsimp only at hSw); go_simp; try with_reducible rfl)
      try simp only [Act.put, List.getElem_toArray, List.getElem_cons_zero, List.setIfInBounds_toArray, List.set_cons_zero, List.set_cons_succ]
      refine wpAnyH_take (i := 1) (v := ?_) rfl (by kernel_rfl) (by kernel_rfl) (by kernel_rfl) (fun _ _ _ h => h) (Or.inl ⟨by rfl, ?_⟩) (by assumption) ?_
      rotate_left
      · (intro w9 hSw; (try dsimp only at hSw); go_simp; try with_reducible rfl)
      try simp only [Act.put, List.getElem_toArray, List.getElem_cons_succ, List.getElem_cons_zero, List.setIfInBounds_toArray, List.set_cons_zero, List.set_cons_succ]
      refine wpAnyH_take (i := 2) (v := ?_) rfl (by kernel_rfl) (by kernel_rfl) (by kernel_rfl) (fun _ _ _ h => h) (Or.inl ⟨by rfl, ?_⟩) (by assumption) ?_
      rotate_left
      · (intro w9 hSw; (try dsimp only at hSw); go_simp; try with_reducible rfl)
      try simp only [Act.put, List.getElem_toArray, List.getElem_cons_succ, List.getElem_cons_zero, List.setIfInBounds_toArray, List.set_cons_zero, List.set_cons_succ]
      refine wpAnyH_take (i := 3) (v := ?_) rfl (by kernel_rfl) (by kernel_rfl) (by kernel_rfl) (fun _ _ _ h => h) (Or.inl ⟨by rfl, ?_⟩) (by assumption) ?_
      rotate_left
      · (intro w9 hSw; (try dsimp only at hSw); go_simp; try with_reducible rfl)
      try simp only [Act.put, List.getElem_toArray, List.getElem_cons_succ, List.getElem_cons_zero, List.setIfInBounds_toArray, List.set_cons_zero, List.set_cons_succ]
      refine wpAnyH_take (i := 4) (v := ?_) rfl (by kernel_rfl) (by kernel_rfl) (by kernel_rfl) (fun _ _ _ h => h) (Or.inl ⟨by rfl, ?_⟩) (by assumption) ?_
      rotate_left
      · (intro w9 hSw; (try dsimp only at hSw); go_simp; try with_reducible rfl)
      try simp only [Act.put, List.getElem_toArray, List.getElem_cons_succ, List.getElem_cons_zero, List.setIfInBounds_toArray, List.set_cons_zero, List.set_cons_succ]
      refine wpAnyH_take (i := 5) (v := ?_) rfl (by kernel_rfl) (by kernel_rfl) (by kernel_rfl) (fun _ _ _ h => h) (Or.inl ⟨by rfl, ?_⟩) (by assumption) ?_
      rotate_left
      · (intro w9 hSw; (try dsimp only at hSw); go_simp; try with_reducible rfl)
      try simp only [Act.put, List.getElem_toArray, List.getElem_cons_succ, List.getElem_cons_zero, List.setIfInBounds_toArray, List.set_cons_zero, List.set_cons_succ]
      refine wpAnyH_take (i := 6) (v := ?_) rfl (by kernel_rfl) (by kernel_rfl) (by kernel_rfl) (fun _ _ _ h => h) (Or.inl ⟨by rfl, ?_⟩) (by assumption) ?_
      rotate_left
      · (intro w9 hSw; (try dsimp only at hSw); go_simp; try with_reducible rfl)
      try simp only [Act.put, List.getElem_toArray, List.getElem_cons_succ, List.getElem_cons_zero, List.setIfInBounds_toArray, List.set_cons_zero, List.set_cons_succ]
      refine wpAnyH_take (i := 7) (v := ?_) rfl (by kernel_rfl) (by kernel_rfl) (by kernel_rfl) (fun _ _ _ h => h) (Or.inl ⟨by rfl, ?_⟩) (by assumption) ?_
      rotate_left
      · (intro w9 hSw; (try dsimp only at hSw); go_simp; try with_reducible rfl)
      try simp only [Act.put, List.getElem_toArray, List.getElem_cons_succ, List.getElem_cons_zero, List.setIfInBounds_toArray, List.set_cons_zero, List.set_cons_succ]
      refine wpAnyH_take (i := 8) (v := ?_) rfl (by kernel_rfl) (by kernel_rfl) (by kernel_rfl) (fun _ _ _ h => h) (Or.inl ⟨by rfl, ?_⟩) (by assumption) ?_
      rotate_left
      · (intro w9 hSw; (try dsimp only at hSw); go_simp; try with_reducible rfl)
      try simp only [Act.put, List.getElem_toArray, List.getElem_cons_succ, List.getElem_cons_zero, List.setIfInBounds_toArray, List.set_cons_zero, List.set_cons_succ]
      refine wpAnyH_take (i := 9) (v := ?_) rfl (by kernel_rfl) (by kernel_rfl) (by kernel_rfl) (fun _ _ _ h => h) (Or.inl ⟨by rfl, ?_⟩) (by assumption) ?_
      rotate_left
      · (intro w9 hSw; (try dsimp only at hSw); go_simp; try with_reducible rfl)
      try simp only [Act.put, List.getElem_toArray, List.getElem_cons_succ, List.getElem_cons_zero, List.setIfInBounds_toArray, List.set_cons_zero, List.set_cons_succ]
      refine wpAnyH_take (i := 10) (v := ?_) rfl (by kernel_rfl) (by kernel_rfl) (by kernel_rfl) (fun _ _ _ h => h) (Or.inl ⟨by rfl, ?_⟩) (by assumption) ?_
      rotate_left
      · (intro w9 hSw; (try dsimp only at hSw); go_simp; try with_reducible rfl)
      try simp only [Act.put, List.getElem_toArray, List.getElem_cons_succ, List.getElem_cons_zero, List.setIfInBounds_toArray, List.set_cons_zero, List.set_cons_succ]
      refine wpAnyH_take (i := 12) (v := ?_) rfl (by kernel_rfl) (by kernel_rfl) (by kernel_rfl) (fun _ _ _ h => h) (Or.inl ⟨by rfl, ?_⟩) (by assumption) ?_
      rotate_left
      · (intro w9 hSw; (try dsimp only at hSw); go_simp; try with_reducible rfl)
      try simp only [Act.put, List.getElem_toArray, List.getElem_cons_succ, List.getElem_cons_zero, List.setIfInBounds_toArray, List.set_cons_zero, List.set_cons_succ]
      refine wpAnyH_take (i := 13) (v := ?_) rfl (by kernel_rfl) (by kernel_rfl) (by kernel_rfl) (fun _ _ _ h => h) (Or.inl ⟨by rfl, ?_⟩) (by assumption) ?_
      rotate_left
      · (intro w9 hSw; (try dsimp only at hSw); go_simp; try with_reducible rfl)
      try simp only [Act.put, List.getElem_toArray, List.getElem_cons_succ, List.getElem_cons_zero, List.setIfInBounds_toArray, List.set_cons_zero, List.set_cons_succ]
      refine wpAnyH_ready (rs := [11]) (by kernel_rfl) (by simp) ?_
      refine AllReadyH.cons rfl (fun K hK => ?_) AllReadyH.nil
      (try dsimp only at hHeld)
      go_simp
      refine hK.out _ _ ⟨chg_cellc (S := [gl]) (w := w4) (by repeat' (first | (with_reducible exact Chg.refl _ _) | (with_reducible assumption) | (with_reducible refine Chg.drewN ?_ _) | (with_reducible refine Chg.drew ?_) | (with_reducible refine Chg.alloc ?_ _) | (with_reducible refine Chg.setCell ?_ (.inl (by simp)) _) | (with_reducible refine Chg.trans ?_ (by assumption)) | (with_reducible refine Chg.ext ?_ (by assumption)))) c3 (by have := HGN.out; simp; omega), chg_cellc (S := [gl]) (w := w4) (by repeat' (first | (with_reducible exact Chg.refl _ _) | (with_reducible assumption) | (with_reducible refine Chg.drewN ?_ _) | (with_reducible refine Chg.drew ?_) | (with_reducible refine Chg.alloc ?_ _) | (with_reducible refine Chg.setCell ?_ (.inl (by simp)) _) | (with_reducible refine Chg.trans ?_ (by assumption)) | (with_reducible refine Chg.ext ?_ (by assumption)))) a1 (by have := HGN.out; simp; omega), (by repeat' (first | (with_reducible exact Chg.refl _ _) | (with_reducible assumption) | (with_reducible refine Chg.drewN ?_ _) | (with_reducible refine Chg.drew ?_) | (with_reducible refine Chg.alloc ?_ _) | (with_reducible refine Chg.setCell ?_ (.inl (by simp)) _) | (with_reducible refine Chg.trans ?_ (by assumption)) | (with_reducible refine Chg.ext ?_ (by assumption))))⟩ (fun hHeld => ?_)
      clear hK K
      try simp only [Act.put, List.getElem_toArray, List.getElem_cons_succ, List.getElem_cons_zero, List.setIfInBounds_toArray, List.set_cons_zero, List.set_cons_succ]
      refine wpAnyH_ready (rs := [14]) (by kernel_rfl) (by simp) ?_
      refine AllReadyH.cons rfl (fun K hK => ?_) AllReadyH.nil
      (try dsimp only at hHeld)
      go_simp
      go_at_call 38
      refine (without_any _ (asInts LX) (kb : Nat) _ (Hvl.out.ext (by repeat' (first | (with_reducible exact Ext.refl _) | (with_reducible assumption) | (with_reducible refine Ext.alloc ?_ _) | (with_reducible refine Ext.drewN ?_ _) | (with_reducible refine Ext.drew ?_) | (with_reducible refine Ext.trans ?_ (by assumption))))) (fits_small (by rw [asL]; omega))).mono ?_
      rintro e wn ⟨v2, rfl, ho2, hx2⟩
      obtain ⟨a5, c5, hv5, _, _, _, _⟩ := ho2.rd.parts
      obtain ⟨n5, hn5⟩ : ∃ n5, v2 = .slice a5 n5 c5 := ⟨_, hv5⟩
      clear hv5
      subst hn5
      have hxn9 : Ext w4 wn := (by repeat' (first | (with_reducible exact Ext.refl _) | (with_reducible assumption) | (with_reducible refine Ext.alloc ?_ _) | (with_reducible refine Ext.drewN ?_ _) | (with_reducible refine Ext.drew ?_) | (with_reducible refine Ext.trans ?_ (by assumption))))
      have hset := RcAt.set (HC4.out.ext hxn9) hxn (HLE.out) (v := .slice a5 n5 c5) (L' := remP LX kb) (by have h9 := ho2.rd; rw [wo_rem] at h9; exact h9) (fun _ z hz hm => by have h1 := (ho2.lt z hz).1; have h2 := HGG.out z hm; simp at h1; omega)
      have HCw6 := Lib.hid hset
      have zv := hxn9.cellv k1
      have zf := Ext.frzd hxn9 k1 f1
      have zc := hxn9.cellv c3
      have za := hxn9.cellv a1
      have HXN := Lib.hid hxn9
      clear hset ho2 hx2
      try go_wp2_with fail
      refine hK.out _ _ ⟨zc, za, Chg.of_ext HXN.out⟩ (fun hHeld => ?_)
      clear hK K
      try simp only [Act.put, List.getElem_toArray, List.getElem_cons_succ, List.getElem_cons_zero, List.setIfInBounds_toArray, List.set_cons_zero, List.set_cons_succ]
      refine wpAnyH_take (i := 15) (v := ?_) rfl (by kernel_rfl) (by kernel_rfl) (by kernel_rfl) (fun _ _ _ h => h) (Or.inl ⟨by rfl, ?_⟩) (by assumption) ?_
      rotate_left
      · (intro w9 hSw; (try dsimp only at hSw); go_simp; try with_reducible rfl)
      try simp only [Act.put, List.getElem_toArray, List.getElem_cons_succ, List.getElem_cons_zero, List.setIfInBounds_toArray, List.set_cons_zero, List.set_cons_succ]
      refine wpAnyH_ready (rs := [16]) (by kernel_rfl) (by simp) ?_
      refine AllReadyH.cons rfl (fun K hK => ?_) AllReadyH.nil
      (try dsimp only at hHeld)
      go_simp
      have hchS : Chg [gl] wn (wn.setCell ⟨gl, x, none⟩ (.slice a5 n5 c5)) := chg_one _ _ _ _
      have hchw6 : Chg [gl] w4 (wn.setCell ⟨gl, x, none⟩ (.slice a5 n5 c5)) := (Chg.of_ext HXN.out).trans hchS
      refine hK.out _ _ ⟨chg_cellc hchS zc (by have := HGN.out; simp; omega), chg_cellc hchS za (by have := HGN.out; simp; omega), hchw6⟩ (fun hHeld => ?_)
      clear hK K hchS hHeld zv zf zc za
      try simp only [Act.put, List.getElem_toArray, List.getElem_cons_succ, List.getElem_cons_zero, List.setIfInBounds_toArray, List.set_cons_zero, List.set_cons_succ]
      refine wpAnyH_done (by kernel_rfl) ?_ _
      refine NoPanic.normal ?_
      generalize (wn.setCell ⟨gl, x, none⟩ (.slice a5 n5 c5)) = w6 at *
      have H4w6 := Lib.hid ((hchw6.block q4 (Array.getElem?_eq_some_iff.1 H44.out).1 (by have := HGN.out; simp; omega)).trans H44.out)
      have H5w6 := Lib.hid ((hchw6.block q5 (Array.getElem?_eq_some_iff.1 H54.out).1 (by have := HGN.out; simp; omega)).trans H54.out)
      have CHw6 : Hid (Chg [gl] w w6) := Lib.hid (HCH4.out.trans hchw6)
      have GGw6 : Hid (∀ f ∈ q4 :: q5 :: G, f < w6.heap.size) := Lib.hid (fun f hf => Nat.lt_of_lt_of_le (HGG.out f hf) hchw6.size)
      replace a0 := chg_cellc hchw6 a0 (by have := HGN.out; simp; omega)
      replace a1 := chg_cellc hchw6 a1 (by have := HGN.out; simp; omega)
      replace c3 := chg_cellc hchw6 c3 (by have := HGN.out; simp; omega)
      clear hchw6 k1 f1 HXN
      obtain ⟨⟨vm, k1, hvm⟩, f1⟩ := HCw6.out.at hxn
      rw [getD_set (by rw [HLE.out]; omega), if_pos rfl] at hvm
      obtain ⟨avm, nvm, cvm, rfl⟩ : ∃ a n c, vm = .slice a n c := by obtain ⟨a, c, h9, _⟩ := hvm.parts; exact ⟨a, _, c, h9⟩
      have Hvm := Lib.hid hvm
      have hrl := rem_len LX kb
      clear hvm e0 e1 e2 e3 e4
      go_upto_region 9 with fail
      refine wp_region_noPanic ?_
      refine wp_region_held_drew (S := (fun w' => w'.cell? ⟨px, 3, none⟩ = some (.slice (some ⟨gl, 0, none⟩) n cap) ∧ w'.cell? ⟨pa, 1, none⟩ = some (.int .i64 ((kb : Nat) : Int)) ∧ Chg [gl] w6 w')) (by kernel_rfl) ?_ (fun hHeld => ?_)
      · try dsimp only
        exact ⟨chg_cellc (S := [gl]) (w := w6) (by repeat' (first | (with_reducible exact Chg.refl _ _) | (with_reducible assumption) | (with_reducible refine Chg.drewN ?_ _) | (with_reducible refine Chg.drew ?_) | (with_reducible refine Chg.alloc ?_ _) | (with_reducible refine Chg.setCell ?_ (.inl (by simp)) _) | (with_reducible refine Chg.trans ?_ (by assumption)) | (with_reducible refine Chg.ext ?_ (by assumption)))) c3 (by have := HGN.out; simp; omega), chg_cellc (S := [gl]) (w := w6) (by repeat' (first | (with_reducible exact Chg.refl _ _) | (with_reducible assumption) | (with_reducible refine Chg.drewN ?_ _) | (with_reducible refine Chg.drew ?_) | (with_reducible refine Chg.alloc ?_ _) | (with_reducible refine Chg.setCell ?_ (.inl (by simp)) _) | (with_reducible refine Chg.trans ?_ (by assumption)) | (with_reducible refine Chg.ext ?_ (by assumption)))) a1 (by have := HGN.out; simp; omega), (by repeat' (first | (with_reducible exact Chg.refl _ _) | (with_reducible assumption) | (with_reducible refine Chg.drewN ?_ _) | (with_reducible refine Chg.drew ?_) | (with_reducible refine Chg.alloc ?_ _) | (with_reducible refine Chg.setCell ?_ (.inl (by simp)) _) | (with_reducible refine Chg.trans ?_ (by assumption)) | (with_reducible refine Chg.ext ?_ (by assumption))))⟩
      refine wpAnyH_take (i := 0) (v := ?_) rfl (by kernel_rfl) (by kernel_rfl) (by kernel_rfl) (fun _ _ _ h => h) (Or.inl ⟨by rfl, ?_⟩) (by assumption) ?_
      rotate_left
      · (intro w9 hSw; (try dsimp only at hSw); go_simp; try with_reducible rfl)
      try simp only [Act.put, List.getElem_toArray, List.getElem_cons_zero, List.setIfInBounds_toArray, List.set_cons_zero, List.set_cons_succ]
      refine wpAnyH_take (i := 1) (v := ?_) rfl (by kernel_rfl) (by kernel_rfl) (by kernel_rfl) (fun _ _ _ h => h) (Or.inl ⟨by rfl, ?_⟩) (by assumption) ?_
      rotate_left
      · (intro w9 hSw; (try dsimp only at hSw); go_simp; try with_reducible rfl)
      try simp only [Act.put, List.getElem_toArray, List.getElem_cons_succ, List.getElem_cons_zero, List.setIfInBounds_toArray, List.set_cons_zero, List.set_cons_succ]
      refine wpAnyH_take (i := 2) (v := ?_) rfl (by kernel_rfl) (by kernel_rfl) (by kernel_rfl) (fun _ _ _ h => h) (Or.inl ⟨by rfl, ?_⟩) (by assumption) ?_
      rotate_left
      · (intro w9 hSw; (try dsimp only at hSw); go_simp; try with_reducible rfl)
      try simp only [Act.put, List.getElem_toArray, List.getElem_cons_succ, List.getElem_cons_zero, List.setIfInBounds_toArray, List.set_cons_zero, List.set_cons_succ]
      refine wpAnyH_take (i := 3) (v := ?_) rfl (by kernel_rfl) (by kernel_rfl) (by kernel_rfl) (fun _ _ _ h => h) (Or.inl ⟨by rfl, ?_⟩) (by assumption) ?_
      rotate_left
      · (intro w9 hSw; (try dsimp only at hSw); go_simp; try with_reducible rfl)
      try simp only [Act.put, List.getElem_toArray, List.getElem_cons_succ, List.getElem_cons_zero, List.setIfInBounds_toArray, List.set_cons_zero, List.set_cons_succ]
      refine wpAnyH_take (i := 4) (v := ?_) rfl (by kernel_rfl) (by kernel_rfl) (by kernel_rfl) (fun _ _ _ h => h) (Or.inl ⟨by rfl, ?_⟩) (by assumption) ?_
      rotate_left
      · (intro w9 hSw; (try dsimp only at hSw); go_simp; try with_reducible rfl)
      try simp only [Act.put, List.getElem_toArray, List.getElem_cons_succ, List.getElem_cons_zero, List.setIfInBounds_toArray, List.set_cons_zero, List.set_cons_succ]
      refine wpAnyH_take (i := 5) (v := ?_) rfl (by kernel_rfl) (by kernel_rfl) (by kernel_rfl) (fun _ _ _ h => h) (Or.inl ⟨by rfl, ?_⟩) (by assumption) ?_
      rotate_left
      · (intro w9 hSw; (try dsimp only at hSw); go_simp; try with_reducible rfl)
      try simp only [Act.put, List.getElem_toArray, List.getElem_cons_succ, List.getElem_cons_zero, List.setIfInBounds_toArray, List.set_cons_zero, List.set_cons_succ]
      refine wpAnyH_take (i := 6) (v := ?_) rfl (by kernel_rfl) (by kernel_rfl) (by kernel_rfl) (fun _ _ _ h => h) (Or.inl ⟨by rfl, ?_⟩) (by assumption) ?_
      rotate_left
      · (intro w9 hSw; (try dsimp only at hSw); go_simp; try with_reducible rfl)
      try simp only [Act.put, List.getElem_toArray, List.getElem_cons_succ, List.getElem_cons_zero, List.setIfInBounds_toArray, List.set_cons_zero, List.set_cons_succ]
      refine wpAnyH_take (i := 7) (v := ?_) rfl (by kernel_rfl) (by kernel_rfl) (by kernel_rfl) (fun _ _ _ h => h) (Or.inl ⟨by rfl, ?_⟩) (by assumption) ?_
      rotate_left
      · (intro w9 hSw; (try dsimp only at hSw); go_simp; try with_reducible rfl)
      try simp only [Act.put, List.getElem_toArray, List.getElem_cons_succ, List.getElem_cons_zero, List.setIfInBounds_toArray, List.set_cons_zero, List.set_cons_succ]
      refine wpAnyH_take (i := 8) (v := ?_) rfl (by kernel_rfl) (by kernel_rfl) (by kernel_rfl) (fun _ _ _ h => h) (Or.inl ⟨by rfl, ?_⟩) (by assumption) ?_
      rotate_left
      · (intro w9 hSw; (try dsimp only at hSw); go_simp; try with_reducible rfl)
      try simp only [Act.put, List.getElem_toArray, List.getElem_cons_succ, List.getElem_cons_zero, List.setIfInBounds_toArray, List.set_cons_zero, List.set_cons_succ]
      refine wpAnyH_take (i := 9) (v := ?_) rfl (by kernel_rfl) (by kernel_rfl) (by kernel_rfl) (fun _ _ _ h => h) (Or.inl ⟨by rfl, ?_⟩) (by assumption) ?_
      rotate_left
      · (intro w9 hSw; (try dsimp only at hSw); go_simp; try with_reducible rfl)
      try simp only [Act.put, List.getElem_toArray, List.getElem_cons_succ, List.getElem_cons_zero, List.setIfInBounds_toArray, List.set_cons_zero, List.set_cons_succ]
      refine wpAnyH_take (i := 10) (v := ?_) rfl (by kernel_rfl) (by kernel_rfl) (by kernel_rfl) (fun _ _ _ h => h) (Or.inl ⟨by rfl, ?_⟩) (by assumption) ?_
      rotate_left
      · (intro w9 hSw; (try dsimp only at hSw); go_simp; try with_reducible rfl)
      try simp only [Act.put, List.getElem_toArray, List.getElem_cons_succ, List.getElem_cons_zero, List.setIfInBounds_toArray, List.set_cons_zero, List.set_cons_succ]
      refine wpAnyH_take (i := 12) (v := ?_) rfl (by kernel_rfl) (by kernel_rfl) (by kernel_rfl) (fun _ _ _ h => h) (Or.inl ⟨by rfl, ?_⟩) (by assumption) ?_
      rotate_left
      · (intro w9 hSw; (try dsimp only at hSw); go_simp; try with_reducible rfl)
      try simp only [Act.put, List.getElem_toArray, List.getElem_cons_succ, List.getElem_cons_zero, List.setIfInBounds_toArray, List.set_cons_zero, List.set_cons_succ]
      refine wpAnyH_take (i := 13) (v := ?_) rfl (by kernel_rfl) (by kernel_rfl) (by kernel_rfl) (fun _ _ _ h => h) (Or.inl ⟨by rfl, ?_⟩) (by assumption) ?_
      rotate_left
      · (intro w9 hSw; (try dsimp only at hSw); go_simp; try with_reducible rfl)
      try simp only [Act.put, List.getElem_toArray, List.getElem_cons_succ, List.getElem_cons_zero, List.setIfInBounds_toArray, List.set_cons_zero, List.set_cons_succ]
      refine wpAnyH_ready (rs := [11]) (by kernel_rfl) (by simp) ?_
      refine AllReadyH.cons rfl (fun K hK => ?_) AllReadyH.nil
      (try dsimp only at hHeld)
      go_simp
      refine hK.out _ _ ⟨chg_cellc (S := [gl]) (w := w6) (by repeat' (first | (with_reducible exact Chg.refl _ _) | (with_reducible assumption) | (with_reducible refine Chg.drewN ?_ _) | (with_reducible refine Chg.drew ?_) | (with_reducible refine Chg.alloc ?_ _) | (with_reducible refine Chg.setCell ?_ (.inl (by simp)) _) | (with_reducible refine Chg.trans ?_ (by assumption)) | (with_reducible refine Chg.ext ?_ (by assumption)))) c3 (by have := HGN.out; simp; omega), chg_cellc (S := [gl]) (w := w6) (by repeat' (first | (with_reducible exact Chg.refl _ _) | (with_reducible assumption) | (with_reducible refine Chg.drewN ?_ _) | (with_reducible refine Chg.drew ?_) | (with_reducible refine Chg.alloc ?_ _) | (with_reducible refine Chg.setCell ?_ (.inl (by simp)) _) | (with_reducible refine Chg.trans ?_ (by assumption)) | (with_reducible refine Chg.ext ?_ (by assumption)))) a1 (by have := HGN.out; simp; omega), (by repeat' (first | (with_reducible exact Chg.refl _ _) | (with_reducible assumption) | (with_reducible refine Chg.drewN ?_ _) | (with_reducible refine Chg.drew ?_) | (with_reducible refine Chg.alloc ?_ _) | (with_reducible refine Chg.setCell ?_ (.inl (by simp)) _) | (with_reducible refine Chg.trans ?_ (by assumption)) | (with_reducible refine Chg.ext ?_ (by assumption))))⟩ (fun hHeld => ?_)
      clear hK K
      try simp only [Act.put, List.getElem_toArray, List.getElem_cons_succ, List.getElem_cons_zero, List.setIfInBounds_toArray, List.set_cons_zero, List.set_cons_succ]
      refine wpAnyH_ready (rs := [14]) (by kernel_rfl) (by simp) ?_
      refine AllReadyH.cons rfl (fun K hK => ?_) AllReadyH.nil
      (try dsimp only at hHeld)
      go_simp
      go_at_call 39
      refine (refahead_any _ (asInts (remP LX kb)) (kb : Nat) _ (Hvm.out.ext (by repeat' (first | (with_reducible exact Ext.refl _) | (with_reducible assumption) | (with_reducible refine Ext.alloc ?_ _) | (with_reducible refine Ext.drewN ?_ _) | (with_reducible refine Ext.drew ?_) | (with_reducible refine Ext.trans ?_ (by assumption))))) (fits_small (by rw [asL]; omega))).mono ?_
      rintro e wn ⟨v2, rfl, ho2, hx2⟩
      obtain ⟨a5, c5, hv5, _, _, _, _⟩ := ho2.rd.parts
      obtain ⟨n5, hn5⟩ : ∃ n5, v2 = .slice a5 n5 c5 := ⟨_, hv5⟩
      clear hv5
      subst hn5
      have hxn9 : Ext w6 wn := (by repeat' (first | (with_reducible exact Ext.refl _) | (with_reducible assumption) | (with_reducible refine Ext.alloc ?_ _) | (with_reducible refine Ext.drewN ?_ _) | (with_reducible refine Ext.drew ?_) | (with_reducible refine Ext.trans ?_ (by assumption))))
      have hset := RcAt.set (HCw6.out.ext hxn9) hxn (by rw [List.length_set]; exact HLE.out) (v := .slice a5 n5 c5) (L' := kb :: remP LX kb) (by have h9 := ho2.rd; exact h9) (fun _ z hz hm => by have h1 := (ho2.lt z hz).1; have h2 := GGw6.out z hm; simp at h1; omega)
      have HCw7 := Lib.hid hset
      have zv := hxn9.cellv k1
      have zf := Ext.frzd hxn9 k1 f1
      have zc := hxn9.cellv c3
      have za := hxn9.cellv a1
      have HXN := Lib.hid hxn9
      clear hset ho2 hx2
      try go_wp2_with fail
      refine hK.out _ _ ⟨zc, za, Chg.of_ext HXN.out⟩ (fun hHeld => ?_)
      clear hK K
      try simp only [Act.put, List.getElem_toArray, List.getElem_cons_succ, List.getElem_cons_zero, List.setIfInBounds_toArray, List.set_cons_zero, List.set_cons_succ]
      refine wpAnyH_take (i := 15) (v := ?_) rfl (by kernel_rfl) (by kernel_rfl) (by kernel_rfl) (fun _ _ _ h => h) (Or.inl ⟨by rfl, ?_⟩) (by assumption) ?_
      rotate_left
      · (intro w9 hSw; (try dsimp only at hSw); go_simp; try with_reducible rfl)
      try simp only [Act.put, List.getElem_toArray, List.getElem_cons_succ, List.getElem_cons_zero, List.setIfInBounds_toArray, List.set_cons_zero, List.set_cons_succ]
      refine wpAnyH_ready (rs := [16]) (by kernel_rfl) (by simp) ?_
      refine AllReadyH.cons rfl (fun K hK => ?_) AllReadyH.nil
      (try dsimp only at hHeld)
      go_simp
      have hchS : Chg [gl] wn (wn.setCell ⟨gl, x, none⟩ (.slice a5 n5 c5)) := chg_one _ _ _ _
      have hchw7 : Chg [gl] w6 (wn.setCell ⟨gl, x, none⟩ (.slice a5 n5 c5)) := (Chg.of_ext HXN.out).trans hchS
      refine hK.out _ _ ⟨chg_cellc hchS zc (by have := HGN.out; simp; omega), chg_cellc hchS za (by have := HGN.out; simp; omega), hchw7⟩ (fun hHeld => ?_)
      clear hK K hchS hHeld zv zf zc za
      try simp only [Act.put, List.getElem_toArray, List.getElem_cons_succ, List.getElem_cons_zero, List.setIfInBounds_toArray, List.set_cons_zero, List.set_cons_succ]
      refine wpAnyH_done (by kernel_rfl) ?_ _
      refine NoPanic.normal ?_
      generalize (wn.setCell ⟨gl, x, none⟩ (.slice a5 n5 c5)) = w7 at *
      have H4w7 := Lib.hid ((hchw7.block q4 (Array.getElem?_eq_some_iff.1 H4w6.out).1 (by have := HGN.out; simp; omega)).trans H4w6.out)
      have H5w7 := Lib.hid ((hchw7.block q5 (Array.getElem?_eq_some_iff.1 H5w6.out).1 (by have := HGN.out; simp; omega)).trans H5w6.out)
      have CHw7 : Hid (Chg [gl] w w7) := Lib.hid (CHw6.out.trans hchw7)
      have GGw7 : Hid (∀ f ∈ q4 :: q5 :: G, f < w7.heap.size) := Lib.hid (fun f hf => Nat.lt_of_lt_of_le (GGw6.out f hf) hchw7.size)
      replace a0 := chg_cellc hchw7 a0 (by have := HGN.out; simp; omega)
      replace a1 := chg_cellc hchw7 a1 (by have := HGN.out; simp; omega)
      replace c3 := chg_cellc hchw7 c3 (by have := HGN.out; simp; omega)
      clear hchw7 k1 f1 HXN
      have y0 := cell_of_row w7 q4 0 _ _ _ H4w7.out
      have y1 := cell_of_row w7 q4 1 _ _ _ H4w7.out
      have y2 := cell_of_row w7 q4 2 _ _ _ H4w7.out
      have y3 := cell_of_row w7 q4 3 _ _ _ H4w7.out
      have y4 := cell_of_row w7 q4 4 _ _ _ H4w7.out
      simp only [List.getElem?_toArray, List.getElem?_cons_zero, List.getElem?_cons_succ] at y0 y1 y2 y3 y4
      have g0 := frozen_row H4w7.out 0
      have g1 := frozen_row H4w7.out 1
      have g2 := frozen_row H4w7.out 2
      have g3 := frozen_row H4w7.out 3
      have g4 := frozen_row H4w7.out 4
      have e0 := cell_of_row w7 q5 0 _ _ _ H5w7.out
      have e1 := cell_of_row w7 q5 1 _ _ _ H5w7.out
      have e2 := cell_of_row w7 q5 2 _ _ _ H5w7.out
      have e3 := cell_of_row w7 q5 3 _ _ _ H5w7.out
      have e4 := cell_of_row w7 q5 4 _ _ _ H5w7.out
      simp at e0 e1 e2 e3 e4
      have FIN : Hid (∀ v0 v1 v2 v3 v4, RcAt (((((w7.setCell ⟨q4, 0, none⟩ v0).setCell ⟨q4, 1, none⟩ v1).setCell ⟨q4, 2, none⟩ v2).setCell ⟨q4, 3, none⟩ v3).setCell ⟨q4, 4, none⟩ v4) G px gl (.slice ha n hcp) gp n t F L c M LSF ∧ Chg [gl] w (((((w7.setCell ⟨q4, 0, none⟩ v0).setCell ⟨q4, 1, none⟩ v1).setCell ⟨q4, 2, none⟩ v2).setCell ⟨q4, 3, none⟩ v3).setCell ⟨q4, 4, none⟩ v4)) := Lib.hid (fun v0 v1 v2 v3 v4 => ⟨by
        have h9 := rc_new5 HCw7.out HGN.out.2.1 HGN.out.1 v0 v1 v2 v3 v4
        have e9 : LSF = (Ls.set x (remP LX kb)).set x (kb :: remP LX kb) := by
          rw [HLSF.out]
          rw [if_pos his, HT.out, if_pos (by decide), List.set_set]
        rw [e9]
        exact h9, chg_new5 CHw7.out (by have := HQ.out; omega) v0 v1 v2 v3 v4⟩)
      go_wp2_with fail
      refine bodyPost_ret (results_cell_row rfl _ _ q4 _ _ _ _ rfl (fill5w H4w7.out _ _ _ _ _) Try.underlying53 rfl went15_info) rfl ?_
      exact ⟨rfl, FIN.out _ _ _ _ _⟩
      --]]
    | false =>
      --[[C
      obtain ⟨rfl, rfl, rfl, rfl, hT⟩ : V = 0 ∧ Gn = false ∧ W = false ∧ E = 0 ∧ T = Ls.getD x [] := by
        have h9 := HRES.out
        have h8 := HHS.out
        rw [eq_comm, decide_eq_false_iff_not] at h8
        unfold doF at h9
        rw [if_neg (by omega), if_neg h8, if_pos (by decide)] at h9
        simp only [Prod.mk.injEq] at h9
        exact ⟨h9.1.symm, h9.2.1.symm, h9.2.2.1.symm, h9.2.2.2.1.symm, h9.2.2.2.2.symm⟩
      have HT := Lib.hid hT
      clear hT
      have y0 := cell_of_row w4 q4 0 _ _ _ H44.out
      have y1 := cell_of_row w4 q4 1 _ _ _ H44.out
      have y2 := cell_of_row w4 q4 2 _ _ _ H44.out
      have y3 := cell_of_row w4 q4 3 _ _ _ H44.out
      have y4 := cell_of_row w4 q4 4 _ _ _ H44.out
      simp only [List.getElem?_toArray, List.getElem?_cons_zero, List.getElem?_cons_succ] at y0 y1 y2 y3 y4
      have g0 := frozen_row H44.out 0
      have g1 := frozen_row H44.out 1
      have g2 := frozen_row H44.out 2
      have g3 := frozen_row H44.out 3
      have g4 := frozen_row H44.out 4
      have e0 := cell_of_row w4 q5 0 _ _ _ H54.out
      have e1 := cell_of_row w4 q5 1 _ _ _ H54.out
      have e2 := cell_of_row w4 q5 2 _ _ _ H54.out
      have e3 := cell_of_row w4 q5 3 _ _ _ H54.out
      have e4 := cell_of_row w4 q5 4 _ _ _ H54.out
      simp at e0 e1 e2 e3 e4
      have FIN : Hid (∀ v0 v1 v2 v3 v4, RcAt (((((w4.setCell ⟨q4, 0, none⟩ v0).setCell ⟨q4, 1, none⟩ v1).setCell ⟨q4, 2, none⟩ v2).setCell ⟨q4, 3, none⟩ v3).setCell ⟨q4, 4, none⟩ v4) G px gl (.slice ha n hcp) gp n t F L c M LSF ∧ Chg [gl] w (((((w4.setCell ⟨q4, 0, none⟩ v0).setCell ⟨q4, 1, none⟩ v1).setCell ⟨q4, 2, none⟩ v2).setCell ⟨q4, 3, none⟩ v3).setCell ⟨q4, 4, none⟩ v4)) := Lib.hid (fun v0 v1 v2 v3 v4 => ⟨by
        have h9 := rc_new5 HC4.out HGN.out.2.1 HGN.out.1 v0 v1 v2 v3 v4
        have e9 : LSF = Ls := by
          rw [HLSF.out]
          split
          · rename_i hi9
            rw [HT.out]
            exact set_self Ls (by rw [HLN.out]; rcases HR.out with ⟨a9, _⟩ | ⟨_, a9, _⟩ <;> first | (rw [hi9] at a9; cases a9) | omega)
          · rfl
        rw [e9]
        exact h9, chg_new5 HCH4.out (by have := HQ.out; omega) v0 v1 v2 v3 v4⟩)
      go_wp2_with fail
      refine bodyPost_ret (results_cell_row rfl _ _ q4 _ _ _ _ rfl (fill5w H44.out _ _ _ _ _) Try.underlying53 rfl went15_info) rfl ?_
      exact ⟨rfl, FIN.out _ _ _ _ _⟩
      --]]
  ·
    --[[E
    have hx4 := HX4.out
    go_wp2_with fail
    refine (HPT.out _ hx4).mono ?_
    rintro e w5 ⟨rfl, hx5⟩
    replace c0 := hx5.cellv c0
    replace c3 := hx5.cellv c3
    replace a0 := hx5.cellv a0
    replace a1 := hx5.cellv a1
    have HC5 := Lib.hid (HC4.out.ext hx5)
    have H45 := Lib.hid ((Below.block hx5 q4 (Array.getElem?_eq_some_iff.1 H44.out).1).trans H44.out)
    have H55 := Lib.hid ((Below.block hx5 q5 (Array.getElem?_eq_some_iff.1 H54.out).1).trans H54.out)
    have HCH5 : Hid (Chg [gl] w w5) := Lib.hid (HCH4.out.ext hx5)
    have HX5 := Lib.hid (HX4.out.trans hx5)
    have HGG5 : Hid (∀ f ∈ q4 :: q5 :: G, f < w5.heap.size) := Lib.hid (fun f hf => Nat.lt_of_lt_of_le (HGG.out f hf) hx5.size)
    clear hx4 hx5 HC4 H44 H54 HCH4 HGG HX4
    by_cases hz0 : z = 0
    case pos =>
      --[[F
      subst hz0
      obtain ⟨rfl, rfl, rfl, rfl, hT⟩ : V = 0 ∧ Gn = false ∧ W = hs ∧ E = 5 ∧ T = Ls.getD x [] := by
        have h9 := HRES.out
        unfold doF at h9
        rw [if_pos ⟨rfl, by have h8 := HZ.out; cases is with | false => exact .inl rfl | true => exact .inr (by rw [if_pos rfl] at h8; exact h8.symm)⟩, ← HHS.out] at h9
        simp only [Prod.mk.injEq] at h9
        exact ⟨h9.1.symm, h9.2.1.symm, h9.2.2.1.symm, h9.2.2.2.1.symm, h9.2.2.2.2.symm⟩
      have HT := Lib.hid hT
      have e4 := cell_of_row w5 q5 4 _ _ _ H55.out
      simp at e4
      have fz4 := frozen_row H55.out 4
      clear hT
      go_upto_region 5 with fail
      have hcS : Chg [q5] w5 (w5.setCell ⟨q5, 4, none⟩ (.int .i64 5)) := chg_one _ _ _ _
      have H55n := Lib.hid (heap_set (o := 4) H55.out (.int .i64 5))
      have H45n := Lib.hid ((Below.heap_setCell w5 ⟨q5, 4, none⟩ (.int .i64 5) q4 (by have := HGN.out; simp; omega)).trans H45.out)
      have HC5n := Lib.hid (HC5.out.off (q := q5) (by simp) HGN.out.2.2.1 4 (.int .i64 5))
      have HCH5n : Hid (Chg [gl] w (w5.setCell ⟨q5, 4, none⟩ (.int .i64 5))) := Lib.hid (HCH5.out.setCell (.inr HQ5.out.2.2) _)
      clear hcS
      generalize (w5.setCell ⟨q5, 4, none⟩ (.int .i64 5)) = w6 at *
      clear e4 fz4
      have y0 := cell_of_row w6 q4 0 _ _ _ H45n.out
      have y1 := cell_of_row w6 q4 1 _ _ _ H45n.out
      have y2 := cell_of_row w6 q4 2 _ _ _ H45n.out
      have y3 := cell_of_row w6 q4 3 _ _ _ H45n.out
      have y4 := cell_of_row w6 q4 4 _ _ _ H45n.out
      simp only [List.getElem?_toArray, List.getElem?_cons_zero, List.getElem?_cons_succ] at y0 y1 y2 y3 y4
      have g0 := frozen_row H45n.out 0
      have g1 := frozen_row H45n.out 1
      have g2 := frozen_row H45n.out 2
      have g3 := frozen_row H45n.out 3
      have g4 := frozen_row H45n.out 4
      have e0 := cell_of_row w6 q5 0 _ _ _ H55n.out
      have e1 := cell_of_row w6 q5 1 _ _ _ H55n.out
      have e2 := cell_of_row w6 q5 2 _ _ _ H55n.out
      have e3 := cell_of_row w6 q5 3 _ _ _ H55n.out
      have e4 := cell_of_row w6 q5 4 _ _ _ H55n.out
      simp at e0 e1 e2 e3 e4
      have FIN : Hid (∀ v0 v1 v2 v3 v4, RcAt (((((w6.setCell ⟨q4, 0, none⟩ v0).setCell ⟨q4, 1, none⟩ v1).setCell ⟨q4, 2, none⟩ v2).setCell ⟨q4, 3, none⟩ v3).setCell ⟨q4, 4, none⟩ v4) G px gl (.slice ha n hcp) gp n t F L c M LSF ∧ Chg [gl] w (((((w6.setCell ⟨q4, 0, none⟩ v0).setCell ⟨q4, 1, none⟩ v1).setCell ⟨q4, 2, none⟩ v2).setCell ⟨q4, 3, none⟩ v3).setCell ⟨q4, 4, none⟩ v4)) := Lib.hid (fun v0 v1 v2 v3 v4 => ⟨by
        have h9 := rc_new5 HC5n.out HGN.out.2.1 HGN.out.1 v0 v1 v2 v3 v4
        have e9 : LSF = Ls := by
          rw [HLSF.out]
          split
          · rename_i hi9
            rw [HT.out]
            exact set_self Ls (by rw [HLN.out]; rcases HR.out with ⟨a9, _⟩ | ⟨_, a9, _⟩ <;> first | (rw [hi9] at a9; cases a9) | omega)
          · rfl
        rw [e9]
        exact h9, chg_new5 HCH5n.out (by have := HQ.out; omega) v0 v1 v2 v3 v4⟩)
      go_wp2_with fail
      refine bodyPost_ret (results_cell_row rfl _ _ q4 _ _ _ _ rfl (fill5w H45n.out _ _ _ _ _) Try.underlying53 rfl went15_info) rfl ?_
      exact ⟨rfl, FIN.out _ _ _ _ _⟩
      --]]
    have his : is = true := by
      have h9 := HZ.out
      cases is with
      | true => rfl
      | false => exact absurd (by rw [h9]; rfl) hz0
    have hzb : (z == 0) = false := by simpa using hz0
    have hzi : ¬ (z : Int) = 0 := by omega
    have hzc : ((z : Int) == 0) = false := by simpa using hz0
    have hpz : Hid (¬ PR F c M x (t - 1) = 0 ∧ z = PR F c M x (t - 1)) := Lib.hid (by have h9 := HZ.out; rw [if_pos his] at h9; exact ⟨by rw [← h9]; exact hz0, h9⟩)
    cases hs with
    | true =>
      --[[G
      obtain ⟨hxn, hin⟩ : x < n ∧ HIn F x b := by
        rcases HR.out with ⟨a9, _⟩ | ⟨_, a9⟩
        · rw [his] at a9; cases a9
        · exact a9
      have hxi : (x : Int) < (n : Int) := by omega
      obtain rfl := HGL.out (by omega)
      obtain rfl : r = (x : Nat) := by rw [HRR.out, his]; rfl
      obtain ⟨kb, rfl⟩ : ∃ kb : Nat, b = kb := ⟨b.toNat, by have := (hin_ok HOK.out hxn hin).1; omega⟩
      obtain ⟨LX, hLX⟩ : ∃ y, y = Ls.getD x [] := ⟨_, rfl⟩
      have HLX := Lib.hid hLX
      have hl64 : LX.length ≤ 64 := by rw [hLX]; exact HLL.out x hxn
      have HLE : Hid (Ls.length = n + 1) := HLN
      clear hLX hin
      have hmem : kb ∈ LX := by
        have h9 := HHS.out
        rw [eq_comm, decide_eq_true_eq] at h9
        rw [HLX.out]
        exact h9.2
      obtain ⟨rfl, rfl, rfl, rfl, hT⟩ : V = 0 ∧ Gn = false ∧ W = true ∧ E = 0 ∧ T = (if (1 : Int) < 2 then kb :: remP LX kb else remP LX kb) := by
        have h9 := HRES.out
        unfold doF at h9
        rw [if_neg (by rintro ⟨_, h8 | h8⟩; rw [his] at h8; cases h8; exact hpz.out.1 h8), if_pos (by rw [← HLX.out, Int.toNat_natCast]; exact ⟨his, hmem⟩), ← HLX.out, Int.toNat_natCast] at h9
        simp only [Prod.mk.injEq] at h9
        exact ⟨h9.1.symm, h9.2.1.symm, h9.2.2.1.symm, h9.2.2.2.1.symm, h9.2.2.2.2.symm⟩
      have HT := Lib.hid hT
      clear hT hmem
      obtain ⟨⟨vl, k1, hvl⟩, f1⟩ := HC5.out.at hxn
      obtain ⟨avl, nvl, cvl, rfl⟩ : ∃ a n c, vl = .slice a n c := by obtain ⟨a, c, h9, _⟩ := hvl.parts; exact ⟨a, _, c, h9⟩
      rw [← HLX.out] at hvl
      have Hvl := Lib.hid hvl
      clear hvl
      have e0 := cell_of_row w5 q5 0 _ _ _ H55.out
      have e1 := cell_of_row w5 q5 1 _ _ _ H55.out
      have e2 := cell_of_row w5 q5 2 _ _ _ H55.out
      have e3 := cell_of_row w5 q5 3 _ _ _ H55.out
      have e4 := cell_of_row w5 q5 4 _ _ _ H55.out
      simp at e0 e1 e2 e3 e4
      go_upto_region 7 with fail
      refine wp_region_noPanic ?_
      refine wp_region_held_drew (S := (fun w' => w'.cell? ⟨px, 3, none⟩ = some (.slice (some ⟨gl, 0, none⟩) n cap) ∧ w'.cell? ⟨pa, 1, none⟩ = some (.int .i64 ((kb : Nat) : Int)) ∧ Chg [gl] w5 w')) (by kernel_rfl) ?_ (fun hHeld => ?_)
      · try dsimp only
        exact ⟨chg_cellc (S := [gl]) (w := w5) (by repeat' (first | (with_reducible exact Chg.refl _ _) | (with_reducible assumption) | (with_reducible refine Chg.drewN ?_ _) | (with_reducible refine Chg.drew ?_) | (with_reducible refine Chg.alloc ?_ _) | (with_reducible refine Chg.setCell ?_ (.inl (by simp)) _) | (with_reducible refine Chg.trans ?_ (by assumption)) | (with_reducible refine Chg.ext ?_ (by assumption)))) c3 (by have := HGN.out; simp; omega), chg_cellc (S := [gl]) (w := w5) (by repeat' (first | (with_reducible exact Chg.refl _ _) | (with_reducible assumption) | (with_reducible refine Chg.drewN ?_ _) | (with_reducible refine Chg.drew ?_) | (with_reducible refine Chg.alloc ?_ _) | (with_reducible refine Chg.setCell ?_ (.inl (by simp)) _) | (with_reducible refine Chg.trans ?_ (by assumption)) | (with_reducible refine Chg.ext ?_ (by assumption)))) a1 (by have := HGN.out; simp; omega), (by repeat' (first | (with_reducible exact Chg.refl _ _) | (with_reducible assumption) | (with_reducible refine Chg.drewN ?_ _) | (with_reducible refine Chg.drew ?_) | (with_reducible refine Chg.alloc ?_ _) | (with_reducible refine Chg.setCell ?_ (.inl (by simp)) _) | (with_reducible refine Chg.trans ?_ (by assumption)) | (with_reducible refine Chg.ext ?_ (by assumption))))⟩
      refine wpAnyH_take (i := 0) (v := ?_) rfl (by kernel_rfl) (by kernel_rfl) (by kernel_rfl) (fun _ _ _ h => h) (Or.inl ⟨by rfl, ?_⟩) (by assumption) ?_
      rotate_left
      · (intro w9 hSw; (try dsimp only at hSw); go_simp; try with_reducible rfl)
      try simp only [Act.put, List.getElem_toArray, List.getElem_cons_zero, List.setIfInBounds_toArray, List.set_cons_zero, List.set_cons_succ]
      refine wpAnyH_take (i := 1) (v := ?_) rfl (by kernel_rfl) (by kernel_rfl) (by kernel_rfl) (fun _ _ _ h => h) (Or.inl ⟨by rfl, ?_⟩) (by assumption) ?_
      rotate_left
      · (intro w9 hSw; (try dsimp only at hSw); go_simp; try with_reducible rfl)
      try simp only [Act.put, List.getElem_toArray, List.getElem_cons_succ, List.getElem_cons_zero, List.setIfInBounds_toArray, List.set_cons_zero, List.set_cons_succ]
      refine wpAnyH_take (i := 2) (v := ?_) rfl (by kernel_rfl) (by kernel_rfl) (by kernel_rfl) (fun _ _ _ h => h) (Or.inl ⟨by rfl, ?_⟩) (by assumption) ?_
      rotate_left
      · (intro w9 hSw; (try dsimp only at hSw); go_simp; try with_reducible rfl)
      try simp only [Act.put, List.getElem_toArray, List.getElem_cons_succ, List.getElem_cons_zero, List.setIfInBounds_toArray, List.set_cons_zero, List.set_cons_succ]
      refine wpAnyH_take (i := 3) (v := ?_) rfl (by kernel_rfl) (by kernel_rfl) (by kernel_rfl) (fun _ _ _ h => h) (Or.inl ⟨by rfl, ?_⟩) (by assumption) ?_
      rotate_left
      · (intro w9 hSw; (try dsimp only at hSw); go_simp; try with_reducible rfl)
      try simp only [Act.put, List.getElem_toArray, List.getElem_cons_succ, List.getElem_cons_zero, List.setIfInBounds_toArray, List.set_cons_zero, List.set_cons_succ]
      refine wpAnyH_take (i := 4) (v := ?_) rfl (by kernel_rfl) (by kernel_rfl) (by kernel_rfl) (fun _ _ _ h => h) (Or.inl ⟨by rfl, ?_⟩) (by assumption) ?_
      rotate_left
      · (intro w9 hSw; (try dsimp only at hSw); go_simp; try with_reducible rfl)
      try simp only [Act.put, List.getElem_toArray, List.getElem_cons_succ, List.getElem_cons_zero, List.setIfInBounds_toArray, List.set_cons_zero, List.set_cons_succ]
      refine wpAnyH_take (i := 5) (v := ?_) rfl (by kernel_rfl) (by kernel_rfl) (by kernel_rfl) (fun _ _ _ h => h) (Or.inl ⟨by rfl, ?_⟩) (by assumption) ?_
      rotate_left
      · (intro w9 hSw; (try dsimp only at hSw); go_simp; try with_reducible rfl)
      try simp only [Act.put, List.getElem_toArray, List.getElem_cons_succ, List.getElem_cons_zero, List.setIfInBounds_toArray, List.set_cons_zero, List.set_cons_succ]
      refine wpAnyH_take (i := 6) (v := ?_) rfl (by kernel_rfl) (by kernel_rfl) (by kernel_rfl) (fun _ _ _ h => h) (Or.inl ⟨by rfl, ?_⟩) (by assumption) ?_
      rotate_left
      · (intro w9 hSw; (try dsimp only at hSw); go_simp; try with_reducible rfl)
      try simp only [Act.put, List.getElem_toArray, List.getElem_cons_succ, List.getElem_cons_zero, List.setIfInBounds_toArray, List.set_cons_zero, List.set_cons_succ]
      refine wpAnyH_take (i := 7) (v := ?_) rfl (by kernel_rfl) (by kernel_rfl) (by kernel_rfl) (fun _ _ _ h => h) (Or.inl ⟨by rfl, ?_⟩) (by assumption) ?_
      rotate_left
      · (intro w9 hSw; (try dsimp only at hSw); go_simp; try with_reducible rfl)
      try simp only [Act.put, List.getElem_toArray, List.getElem_cons_succ, List.getElem_cons_zero, List.setIfInBounds_toArray, List.set_cons_zero, List.set_cons_succ]
      refine wpAnyH_take (i := 8) (v := ?_) rfl (by kernel_rfl) (by kernel_rfl) (by kernel_rfl) (fun _ _ _ h => h) (Or.inl ⟨by rfl, ?_⟩) (by assumption) ?_
      rotate_left
      · (intro w9 hSw; (try dsimp only at hSw); go_simp; try with_reducible rfl)
      try simp only [Act.put, List.getElem_toArray, List.getElem_cons_succ, List.getElem_cons_zero, List.setIfInBounds_toArray, List.set_cons_zero, List.set_cons_succ]
      refine wpAnyH_take (i := 9) (v := ?_) rfl (by kernel_rfl) (by kernel_rfl) (by kernel_rfl) (fun _ _ _ h => h) (Or.inl ⟨by rfl, ?_⟩) (by assumption) ?_
      rotate_left
      · (intro w9 hSw; (try dsimp only at hSw); go_simp; try with_reducible rfl)
      try simp only [Act.put, List.getElem_toArray, List.getElem_cons_succ, List.getElem_cons_zero, List.setIfInBounds_toArray, List.set_cons_zero, List.set_cons_succ]
      refine wpAnyH_take (i := 10) (v := ?_) rfl (by kernel_rfl) (by kernel_rfl) (by kernel_rfl) (fun _ _ _ h => h) (Or.inl ⟨by rfl, ?_⟩) (by assumption) ?_
      rotate_left
      · (intro w9 hSw; (try dsimp only at hSw); go_simp; try with_reducible rfl)
      try simp only [Act.put, List.getElem_toArray, List.getElem_cons_succ, List.getElem_cons_zero, List.setIfInBounds_toArray, List.set_cons_zero, List.set_cons_succ]
      refine wpAnyH_take (i := 12) (v := ?_) rfl (by kernel_rfl) (by kernel_rfl) (by kernel_rfl) (fun _ _ _ h => h) (Or.inl ⟨by rfl, ?_⟩) (by assumption) ?_
      rotate_left
      · (intro w9 hSw; (try dsimp only at hSw); go_simp; try with_reducible rfl)
      try simp only [Act.put, List.getElem_toArray, List.getElem_cons_succ, List.getElem_cons_zero, List.setIfInBounds_toArray, List.set_cons_zero, List.set_cons_succ]
      refine wpAnyH_take (i := 13) (v := ?_) rfl (by kernel_rfl) (by kernel_rfl) (by kernel_rfl) (fun _ _ _ h => h) (Or.inl ⟨by rfl, ?_⟩) (by assumption) ?_
      rotate_left
      · (intro w9 hSw; (try dsimp only at hSw); go_simp; try with_reducible rfl)
      try simp only [Act.put, List.getElem_toArray, List.getElem_cons_succ, List.getElem_cons_zero, List.setIfInBounds_toArray, List.set_cons_zero, List.set_cons_succ]
      refine wpAnyH_ready (rs := [11]) (by kernel_rfl) (by simp) ?_
      refine AllReadyH.cons rfl (fun K hK => ?_) AllReadyH.nil
      (try dsimp only at hHeld)
      go_simp
      refine hK.out _ _ ⟨chg_cellc (S := [gl]) (w := w5) (by repeat' (first | (with_reducible exact Chg.refl _ _) | (with_reducible assumption) | (with_reducible refine Chg.drewN ?_ _) | (with_reducible refine Chg.drew ?_) | (with_reducible refine Chg.alloc ?_ _) | (with_reducible refine Chg.setCell ?_ (.inl (by simp)) _) | (with_reducible refine Chg.trans ?_ (by assumption)) | (with_reducible refine Chg.ext ?_ (by assumption)))) c3 (by have := HGN.out; simp; omega), chg_cellc (S := [gl]) (w := w5) (by repeat' (first | (with_reducible exact Chg.refl _ _) | (with_reducible assumption) | (with_reducible refine Chg.drewN ?_ _) | (with_reducible refine Chg.drew ?_) | (with_reducible refine Chg.alloc ?_ _) | (with_reducible refine Chg.setCell ?_ (.inl (by simp)) _) | (with_reducible refine Chg.trans ?_ (by assumption)) | (with_reducible refine Chg.ext ?_ (by assumption)))) a1 (by have := HGN.out; simp; omega), (by repeat' (first | (with_reducible exact Chg.refl _ _) | (with_reducible assumption) | (with_reducible refine Chg.drewN ?_ _) | (with_reducible refine Chg.drew ?_) | (with_reducible refine Chg.alloc ?_ _) | (with_reducible refine Chg.setCell ?_ (.inl (by simp)) _) | (with_reducible refine Chg.trans ?_ (by assumption)) | (with_reducible refine Chg.ext ?_ (by assumption))))⟩ (fun hHeld => ?_)
      clear hK K
      try simp only [Act.put, List.getElem_toArray, List.getElem_cons_succ, List.getElem_cons_zero, List.setIfInBounds_toArray, List.set_cons_zero, List.set_cons_succ]
      refine wpAnyH_ready (rs := [14]) (by kernel_rfl) (by simp) ?_
      refine AllReadyH.cons rfl (fun K hK => ?_) AllReadyH.nil
      (try dsimp only at hHeld)
      go_simp
      go_at_call 38
      refine (without_any _ (asInts LX) (kb : Nat) _ (Hvl.out.ext (by repeat' (first | (with_reducible exact Ext.refl _) | (with_reducible assumption) | (with_reducible refine Ext.alloc ?_ _) | (with_reducible refine Ext.drewN ?_ _) | (with_reducible refine Ext.drew ?_) | (with_reducible refine Ext.trans ?_ (by assumption))))) (fits_small (by rw [asL]; omega))).mono ?_
      rintro e wn ⟨v2, rfl, ho2, hx2⟩
      obtain ⟨a5, c5, hv5, _, _, _, _⟩ := ho2.rd.parts
      obtain ⟨n5, hn5⟩ : ∃ n5, v2 = .slice a5 n5 c5 := ⟨_, hv5⟩
      clear hv5
      subst hn5
      have hxn9 : Ext w5 wn := (by repeat' (first | (with_reducible exact Ext.refl _) | (with_reducible assumption) | (with_reducible refine Ext.alloc ?_ _) | (with_reducible refine Ext.drewN ?_ _) | (with_reducible refine Ext.drew ?_) | (with_reducible refine Ext.trans ?_ (by assumption))))
      have hset := RcAt.set (HC5.out.ext hxn9) hxn (HLE.out) (v := .slice a5 n5 c5) (L' := remP LX kb) (by have h9 := ho2.rd; rw [wo_rem] at h9; exact h9) (fun _ z hz hm => by have h1 := (ho2.lt z hz).1; have h2 := HGG5.out z hm; simp at h1; omega)
      have HCw6 := Lib.hid hset
      have zv := hxn9.cellv k1
      have zf := Ext.frzd hxn9 k1 f1
      have zc := hxn9.cellv c3
      have za := hxn9.cellv a1
      have HXN := Lib.hid hxn9
      clear hset ho2 hx2
      try go_wp2_with fail
      refine hK.out _ _ ⟨zc, za, Chg.of_ext HXN.out⟩ (fun hHeld => ?_)
      clear hK K
      try simp only [Act.put, List.getElem_toArray, List.getElem_cons_succ, List.getElem_cons_zero, List.setIfInBounds_toArray, List.set_cons_zero, List.set_cons_succ]
      refine wpAnyH_take (i := 15) (v := ?_) rfl (by kernel_rfl) (by kernel_rfl) (by kernel_rfl) (fun _ _ _ h => h) (Or.inl ⟨by rfl, ?_⟩) (by assumption) ?_
      rotate_left
      · (intro w9 hSw; (try dsimp only at hSw); go_simp; try with_reducible rfl)
      try simp only [Act.put, List.getElem_toArray, List.getElem_cons_succ, List.getElem_cons_zero, List.setIfInBounds_toArray, List.set_cons_zero, List.set_cons_succ]
      refine wpAnyH_ready (rs := [16]) (by kernel_rfl) (by simp) ?_
      refine AllReadyH.cons rfl (fun K hK => ?_) AllReadyH.nil
      (try dsimp only at hHeld)
      go_simp
      have hchS : Chg [gl] wn (wn.setCell ⟨gl, x, none⟩ (.slice a5 n5 c5)) := chg_one _ _ _ _
      have hchw6 : Chg [gl] w5 (wn.setCell ⟨gl, x, none⟩ (.slice a5 n5 c5)) := (Chg.of_ext HXN.out).trans hchS
      refine hK.out _ _ ⟨chg_cellc hchS zc (by have := HGN.out; simp; omega), chg_cellc hchS za (by have := HGN.out; simp; omega), hchw6⟩ (fun hHeld => ?_)
      clear hK K hchS hHeld zv zf zc za
      try simp only [Act.put, List.getElem_toArray, List.getElem_cons_succ, List.getElem_cons_zero, List.setIfInBounds_toArray, List.set_cons_zero, List.set_cons_succ]
      refine wpAnyH_done (by kernel_rfl) ?_ _
      refine NoPanic.normal ?_
      generalize (wn.setCell ⟨gl, x, none⟩ (.slice a5 n5 c5)) = w6 at *
      have H4w6 := Lib.hid ((hchw6.block q4 (Array.getElem?_eq_some_iff.1 H45.out).1 (by have := HGN.out; simp; omega)).trans H45.out)
      have H5w6 := Lib.hid ((hchw6.block q5 (Array.getElem?_eq_some_iff.1 H55.out).1 (by have := HGN.out; simp; omega)).trans H55.out)
      have CHw6 : Hid (Chg [gl] w w6) := Lib.hid (HCH5.out.trans hchw6)
      have GGw6 : Hid (∀ f ∈ q4 :: q5 :: G, f < w6.heap.size) := Lib.hid (fun f hf => Nat.lt_of_lt_of_le (HGG5.out f hf) hchw6.size)
      replace a0 := chg_cellc hchw6 a0 (by have := HGN.out; simp; omega)
      replace a1 := chg_cellc hchw6 a1 (by have := HGN.out; simp; omega)
      replace c3 := chg_cellc hchw6 c3 (by have := HGN.out; simp; omega)
      clear hchw6 k1 f1 HXN
      obtain ⟨⟨vm, k1, hvm⟩, f1⟩ := HCw6.out.at hxn
      rw [getD_set (by rw [HLE.out]; omega), if_pos rfl] at hvm
      obtain ⟨avm, nvm, cvm, rfl⟩ : ∃ a n c, vm = .slice a n c := by obtain ⟨a, c, h9, _⟩ := hvm.parts; exact ⟨a, _, c, h9⟩
      have Hvm := Lib.hid hvm
      have hrl := rem_len LX kb
      clear hvm e0 e1 e2 e3 e4
      go_upto_region 9 with fail
      refine wp_region_noPanic ?_
      refine wp_region_held_drew (S := (fun w' => w'.cell? ⟨px, 3, none⟩ = some (.slice (some ⟨gl, 0, none⟩) n cap) ∧ w'.cell? ⟨pa, 1, none⟩ = some (.int .i64 ((kb : Nat) : Int)) ∧ Chg [gl] w6 w')) (by kernel_rfl) ?_ (fun hHeld => ?_)
      · try dsimp only
        exact ⟨chg_cellc (S := [gl]) (w := w6) (by repeat' (first | (with_reducible exact Chg.refl _ _) | (with_reducible assumption) | (with_reducible refine Chg.drewN ?_ _) | (with_reducible refine Chg.drew ?_) | (with_reducible refine Chg.alloc ?_ _) | (with_reducible refine Chg.setCell ?_ (.inl (by simp)) _) | (with_reducible refine Chg.trans ?_ (by assumption)) | (with_reducible refine Chg.ext ?_ (by assumption)))) c3 (by have := HGN.out; simp; omega), chg_cellc (S := [gl]) (w := w6) (by repeat' (first | (with_reducible exact Chg.refl _ _) | (with_reducible assumption) | (with_reducible refine Chg.drewN ?_ _) | (with_reducible refine Chg.drew ?_) | (with_reducible refine Chg.alloc ?_ _) | (with_reducible refine Chg.setCell ?_ (.inl (by simp)) _) | (with_reducible refine Chg.trans ?_ (by assumption)) | (with_reducible refine Chg.ext ?_ (by assumption)))) a1 (by have := HGN.out; simp; omega), (by repeat' (first | (with_reducible exact Chg.refl _ _) | (with_reducible assumption) | (with_reducible refine Chg.drewN ?_ _) | (with_reducible refine Chg.drew ?_) | (with_reducible refine Chg.alloc ?_ _) | (with_reducible refine Chg.setCell ?_ (.inl (by simp)) _) | (with_reducible refine Chg.trans ?_ (by assumption)) | (with_reducible refine Chg.ext ?_ (by assumption))))⟩
      refine wpAnyH_take (i := 0) (v := ?_) rfl (by kernel_rfl) (by kernel_rfl) (by kernel_rfl) (fun _ _ _ h => h) (Or.inl ⟨by rfl, ?_⟩) (by assumption) ?_
      rotate_left
      · (intro w9 hSw; (try dsimp only at hSw); go_simp; try with_reducible rfl)
      try simp only [Act.put, List.getElem_toArray, List.getElem_cons_zero, List.setIfInBounds_toArray, List.set_cons_zero, List.set_cons_succ]
      refine wpAnyH_take (i := 1) (v := ?_) rfl (by kernel_rfl) (by kernel_rfl) (by kernel_rfl) (fun _ _ _ h => h) (Or.inl ⟨by rfl, ?_⟩) (by assumption) ?_
      rotate_left
      · (intro w9 hSw; (try dsimp only at hSw); go_simp; try with_reducible rfl)
      try simp only [Act.put, List.getElem_toArray, List.getElem_cons_succ, List.getElem_cons_zero, List.setIfInBounds_toArray, List.set_cons_zero, List.set_cons_succ]
      refine wpAnyH_take (i := 2) (v := ?_) rfl (by kernel_rfl) (by kernel_rfl) (by kernel_rfl) (fun _ _ _ h => h) (Or.inl ⟨by rfl, ?_⟩) (by assumption) ?_
      rotate_left
      · (intro w9 hSw; (try dsimp only at hSw); go_simp; try with_reducible rfl)
      try simp only [Act.put, List.getElem_toArray, List.getElem_cons_succ, List.getElem_cons_zero, List.setIfInBounds_toArray, List.set_cons_zero, List.set_cons_succ]
      refine wpAnyH_take (i := 3) (v := ?_) rfl (by kernel_rfl) (by kernel_rfl) (by kernel_rfl) (fun _ _ _ h => h) (Or.inl ⟨by rfl, ?_⟩) (by assumption) ?_
      rotate_left
      · (intro w9 hSw; (try dsimp only at hSw); go_simp; try with_reducible rfl)
      try simp only [Act.put, List.getElem_toArray, List.getElem_cons_succ, List.getElem_cons_zero, List.setIfInBounds_toArray, List.set_cons_zero, List.set_cons_succ]
      refine wpAnyH_take (i := 4) (v := ?_) rfl (by kernel_rfl) (by kernel_rfl) (by kernel_rfl) (fun _ _ _ h => h) (Or.inl ⟨by rfl, ?_⟩) (by assumption) ?_
      rotate_left
      · (intro w9 hSw; (try dsimp only at hSw); go_simp; try with_reducible rfl)
      try simp only [Act.put, List.getElem_toArray, List.getElem_cons_succ, List.getElem_cons_zero, List.setIfInBounds_toArray, List.set_cons_zero, List.set_cons_succ]
      refine wpAnyH_take (i := 5) (v := ?_) rfl (by kernel_rfl) (by kernel_rfl) (by kernel_rfl) (fun _ _ _ h => h) (Or.inl ⟨by rfl, ?_⟩) (by assumption) ?_
      rotate_left
      · (intro w9 hSw; (try dsimp only at hSw); go_simp; try with_reducible rfl)
      try simp only [Act.put, List.getElem_toArray, List.getElem_cons_succ, List.getElem_cons_zero, List.setIfInBounds_toArray, List.set_cons_zero, List.set_cons_succ]
      refine wpAnyH_take (i := 6) (v := ?_) rfl (by kernel_rfl) (by kernel_rfl) (by kernel_rfl) (fun _ _ _ h => h) (Or.inl ⟨by rfl, ?_⟩) (by assumption) ?_
      rotate_left
      · (intro w9 hSw; (try dsimp only at hSw); go_simp; try with_reducible rfl)
      try simp only [Act.put, List.getElem_toArray, List.getElem_cons_succ, List.getElem_cons_zero, List.setIfInBounds_toArray, List.set_cons_zero, List.set_cons_succ]
      refine wpAnyH_take (i := 7) (v := ?_) rfl (by kernel_rfl) (by kernel_rfl) (by kernel_rfl) (fun _ _ _ h => h) (Or.inl ⟨by rfl, ?_⟩) (by assumption) ?_
      rotate_left
      · (intro w9 hSw; (try dsimp only at hSw); go_simp; try with_reducible rfl)
      try simp only [Act.put, List.getElem_toArray, List.getElem_cons_succ, List.getElem_cons_zero, List.setIfInBounds_toArray, List.set_cons_zero, List.set_cons_succ]
      refine wpAnyH_take (i := 8) (v := ?_) rfl (by kernel_rfl) (by kernel_rfl) (by kernel_rfl) (fun _ _ _ h => h) (Or.inl ⟨by rfl, ?_⟩) (by assumption) ?_
      rotate_left
      · (intro w9 hSw; (try dsimp only at hSw); go_simp; try with_reducible rfl)
      try simp only [Act.put, List.getElem_toArray, List.getElem_cons_succ, List.getElem_cons_zero, List.setIfInBounds_toArray, List.set_cons_zero, List.set_cons_succ]
      refine wpAnyH_take (i := 9) (v := ?_) rfl (by kernel_rfl) (by kernel_rfl) (by kernel_rfl) (fun _ _ _ h => h) (Or.inl ⟨by rfl, ?_⟩) (by assumption) ?_
      rotate_left
      · (intro w9 hSw; (try dsimp only at hSw); go_simp; try with_reducible rfl)
      try simp only [Act.put, List.getElem_toArray, List.getElem_cons_succ, List.getElem_cons_zero, List.setIfInBounds_toArray, List.set_cons_zero, List.set_cons_succ]
      refine wpAnyH_take (i := 10) (v := ?_) rfl (by kernel_rfl) (by kernel_rfl) (by kernel_rfl) (fun _ _ _ h => h) (Or.inl ⟨by rfl, ?_⟩) (by assumption) ?_
      rotate_left
      · (intro w9 hSw; (try dsimp only at hSw); go_simp; try with_reducible rfl)
      try simp only [Act.put, List.getElem_toArray, List.getElem_cons_succ, List.getElem_cons_zero, List.setIfInBounds_toArray, List.set_cons_zero, List.set_cons_succ]
      refine wpAnyH_take (i := 12) (v := ?_) rfl (by kernel_rfl) (by kernel_rfl) (by kernel_rfl) (fun _ _ _ h => h) (Or.inl ⟨by rfl, ?_⟩) (by assumption) ?_
      rotate_left
      · (intro w9 hSw; (try dsimp only at hSw); go_simp; try with_reducible rfl)
      try simp only [Act.put, List.getElem_toArray, List.getElem_cons_succ, List.getElem_cons_zero, List.setIfInBounds_toArray, List.set_cons_zero, List.set_cons_succ]
      refine wpAnyH_take (i := 13) (v := ?_) rfl (by kernel_rfl) (by kernel_rfl) (by kernel_rfl) (fun _ _ _ h => h) (Or.inl ⟨by rfl, ?_⟩) (by assumption) ?_
      rotate_left
      · (intro w9 hSw; (try dsimp only at hSw); go_simp; try with_reducible rfl)
      try simp only [Act.put, List.getElem_toArray, List.getElem_cons_succ, List.getElem_cons_zero, List.setIfInBounds_toArray, List.set_cons_zero, List.set_cons_succ]
      refine wpAnyH_ready (rs := [11]) (by kernel_rfl) (by simp) ?_
      refine AllReadyH.cons rfl (fun K hK => ?_) AllReadyH.nil
      (try dsimp only at hHeld)
      go_simp
      refine hK.out _ _ ⟨chg_cellc (S := [gl]) (w := w6) (by repeat' (first | (with_reducible exact Chg.refl _ _) | (with_reducible assumption) | (with_reducible refine Chg.drewN ?_ _) | (with_reducible refine Chg.drew ?_) | (with_reducible refine Chg.alloc ?_ _) | (with_reducible refine Chg.setCell ?_ (.inl (by simp)) _) | (with_reducible refine Chg.trans ?_ (by assumption)) | (with_reducible refine Chg.ext ?_ (by assumption)))) c3 (by have := HGN.out; simp; omega), chg_cellc (S := [gl]) (w := w6) (by repeat' (first | (with_reducible exact Chg.refl _ _) | (with_reducible assumption) | (with_reducible refine Chg.drewN ?_ _) | (with_reducible refine Chg.drew ?_) | (with_reducible refine Chg.alloc ?_ _) | (with_reducible refine Chg.setCell ?_ (.inl (by simp)) _) | (with_reducible refine Chg.trans ?_ (by assumption)) | (with_reducible refine Chg.ext ?_ (by assumption)))) a1 (by have := HGN.out; simp; omega), (by repeat' (first | (with_reducible exact Chg.refl _ _) | (with_reducible assumption) | (with_reducible refine Chg.drewN ?_ _) | (with_reducible refine Chg.drew ?_) | (with_reducible refine Chg.alloc ?_ _) | (with_reducible refine Chg.setCell ?_ (.inl (by simp)) _) | (with_reducible refine Chg.trans ?_ (by assumption)) | (with_reducible refine Chg.ext ?_ (by assumption))))⟩ (fun hHeld => ?_)
      clear hK K
      try simp only [Act.put, List.getElem_toArray, List.getElem_cons_succ, List.getElem_cons_zero, List.setIfInBounds_toArray, List.set_cons_zero, List.set_cons_succ]
      refine wpAnyH_ready (rs := [14]) (by kernel_rfl) (by simp) ?_
      refine AllReadyH.cons rfl (fun K hK => ?_) AllReadyH.nil
      (try dsimp only at hHeld)
      go_simp
      go_at_call 39
      refine (refahead_any _ (asInts (remP LX kb)) (kb : Nat) _ (Hvm.out.ext (by repeat' (first | (with_reducible exact Ext.refl _) | (with_reducible assumption) | (with_reducible refine Ext.alloc ?_ _) | (with_reducible refine Ext.drewN ?_ _) | (with_reducible refine Ext.drew ?_) | (with_reducible refine Ext.trans ?_ (by assumption))))) (fits_small (by rw [asL]; omega))).mono ?_
      rintro e wn ⟨v2, rfl, ho2, hx2⟩
      obtain ⟨a5, c5, hv5, _, _, _, _⟩ := ho2.rd.parts
      obtain ⟨n5, hn5⟩ : ∃ n5, v2 = .slice a5 n5 c5 := ⟨_, hv5⟩
      clear hv5
      subst hn5
      have hxn9 : Ext w6 wn := (by repeat' (first | (with_reducible exact Ext.refl _) | (with_reducible assumption) | (with_reducible refine Ext.alloc ?_ _) | (with_reducible refine Ext.drewN ?_ _) | (with_reducible refine Ext.drew ?_) | (with_reducible refine Ext.trans ?_ (by assumption))))
      have hset := RcAt.set (HCw6.out.ext hxn9) hxn (by rw [List.length_set]; exact HLE.out) (v := .slice a5 n5 c5) (L' := kb :: remP LX kb) (by have h9 := ho2.rd; exact h9) (fun _ z hz hm => by have h1 := (ho2.lt z hz).1; have h2 := GGw6.out z hm; simp at h1; omega)
      have HCw7 := Lib.hid hset
      have zv := hxn9.cellv k1
      have zf := Ext.frzd hxn9 k1 f1
      have zc := hxn9.cellv c3
      have za := hxn9.cellv a1
      have HXN := Lib.hid hxn9
      clear hset ho2 hx2
      try go_wp2_with fail
      refine hK.out _ _ ⟨zc, za, Chg.of_ext HXN.out⟩ (fun hHeld => ?_)
      clear hK K
      try simp only [Act.put, List.getElem_toArray, List.getElem_cons_succ, List.getElem_cons_zero, List.setIfInBounds_toArray, List.set_cons_zero, List.set_cons_succ]
      refine wpAnyH_take (i := 15) (v := ?_) rfl (by kernel_rfl) (by kernel_rfl) (by kernel_rfl) (fun _ _ _ h => h) (Or.inl ⟨by rfl, ?_⟩) (by assumption) ?_
      rotate_left
      · (intro w9 hSw; (try dsimp only at hSw); go_simp; try with_reducible rfl)
      try simp only [Act.put, List.getElem_toArray, List.getElem_cons_succ, List.getElem_cons_zero, List.setIfInBounds_toArray, List.set_cons_zero, List.set_cons_succ]
      refine wpAnyH_ready (rs := [16]) (by kernel_rfl) (by simp) ?_
      refine AllReadyH.cons rfl (fun K hK => ?_) AllReadyH.nil
      (try dsimp only at hHeld)
      go_simp
      have hchS : Chg [gl] wn (wn.setCell ⟨gl, x, none⟩ (.slice a5 n5 c5)) := chg_one _ _ _ _
      have hchw7 : Chg [gl] w6 (wn.setCell ⟨gl, x, none⟩ (.slice a5 n5 c5)) := (Chg.of_ext HXN.out).trans hchS
      refine hK.out _ _ ⟨chg_cellc hchS zc (by have := HGN.out; simp; omega), chg_cellc hchS za (by have := HGN.out; simp; omega), hchw7⟩ (fun hHeld => ?_)
      clear hK K hchS hHeld zv zf zc za
      try simp only [Act.put, List.getElem_toArray, List.getElem_cons_succ, List.getElem_cons_zero, List.setIfInBounds_toArray, List.set_cons_zero, List.set_cons_succ]
      refine wpAnyH_done (by kernel_rfl) ?_ _
      refine NoPanic.normal ?_
      generalize (wn.setCell ⟨gl, x, none⟩ (.slice a5 n5 c5)) = w7 at *
      have H4w7 := Lib.hid ((hchw7.block q4 (Array.getElem?_eq_some_iff.1 H4w6.out).1 (by have := HGN.out; simp; omega)).trans H4w6.out)
      have H5w7 := Lib.hid ((hchw7.block q5 (Array.getElem?_eq_some_iff.1 H5w6.out).1 (by have := HGN.out; simp; omega)).trans H5w6.out)
      have CHw7 : Hid (Chg [gl] w w7) := Lib.hid (CHw6.out.trans hchw7)
      have GGw7 : Hid (∀ f ∈ q4 :: q5 :: G, f < w7.heap.size) := Lib.hid (fun f hf => Nat.lt_of_lt_of_le (GGw6.out f hf) hchw7.size)
      replace a0 := chg_cellc hchw7 a0 (by have := HGN.out; simp; omega)
      replace a1 := chg_cellc hchw7 a1 (by have := HGN.out; simp; omega)
      replace c3 := chg_cellc hchw7 c3 (by have := HGN.out; simp; omega)
      clear hchw7 k1 f1 HXN
      have y0 := cell_of_row w7 q4 0 _ _ _ H4w7.out
      have y1 := cell_of_row w7 q4 1 _ _ _ H4w7.out
      have y2 := cell_of_row w7 q4 2 _ _ _ H4w7.out
      have y3 := cell_of_row w7 q4 3 _ _ _ H4w7.out
      have y4 := cell_of_row w7 q4 4 _ _ _ H4w7.out
      simp only [List.getElem?_toArray, List.getElem?_cons_zero, List.getElem?_cons_succ] at y0 y1 y2 y3 y4
      have g0 := frozen_row H4w7.out 0
      have g1 := frozen_row H4w7.out 1
      have g2 := frozen_row H4w7.out 2
      have g3 := frozen_row H4w7.out 3
      have g4 := frozen_row H4w7.out 4
      have e0 := cell_of_row w7 q5 0 _ _ _ H5w7.out
      have e1 := cell_of_row w7 q5 1 _ _ _ H5w7.out
      have e2 := cell_of_row w7 q5 2 _ _ _ H5w7.out
      have e3 := cell_of_row w7 q5 3 _ _ _ H5w7.out
      have e4 := cell_of_row w7 q5 4 _ _ _ H5w7.out
      simp at e0 e1 e2 e3 e4
      have FIN : Hid (∀ v0 v1 v2 v3 v4, RcAt (((((w7.setCell ⟨q4, 0, none⟩ v0).setCell ⟨q4, 1, none⟩ v1).setCell ⟨q4, 2, none⟩ v2).setCell ⟨q4, 3, none⟩ v3).setCell ⟨q4, 4, none⟩ v4) G px gl (.slice ha n hcp) gp n t F L c M LSF ∧ Chg [gl] w (((((w7.setCell ⟨q4, 0, none⟩ v0).setCell ⟨q4, 1, none⟩ v1).setCell ⟨q4, 2, none⟩ v2).setCell ⟨q4, 3, none⟩ v3).setCell ⟨q4, 4, none⟩ v4)) := Lib.hid (fun v0 v1 v2 v3 v4 => ⟨by
        have h9 := rc_new5 HCw7.out HGN.out.2.1 HGN.out.1 v0 v1 v2 v3 v4
        have e9 : LSF = (Ls.set x (remP LX kb)).set x (kb :: remP LX kb) := by
          rw [HLSF.out]
          rw [if_pos his, HT.out, if_pos (by decide), List.set_set]
        rw [e9]
        exact h9, chg_new5 CHw7.out (by have := HQ.out; omega) v0 v1 v2 v3 v4⟩)
      go_wp2_with fail
      refine bodyPost_ret (results_cell_row rfl _ _ q4 _ _ _ _ rfl (fill5w H4w7.out _ _ _ _ _) Try.underlying53 rfl went15_info) rfl ?_
      exact ⟨rfl, FIN.out _ _ _ _ _⟩
      --]]
    | false =>
      obtain ⟨hxn, hin⟩ : x < n ∧ HIn F x b := by
        rcases HR.out with ⟨a9, _⟩ | ⟨_, a9⟩
        · rw [his] at a9; cases a9
        · exact a9
      have hxi : (x : Int) < (n : Int) := by omega
      obtain rfl := HGL.out (by omega)
      obtain rfl : r = (x : Nat) := by rw [HRR.out, his]; rfl
      obtain ⟨kb, rfl⟩ : ∃ kb : Nat, b = kb := ⟨b.toNat, by have := (hin_ok HOK.out hxn hin).1; omega⟩
      obtain ⟨LX, hLX⟩ : ∃ y, y = Ls.getD x [] := ⟨_, rfl⟩
      have HLX := Lib.hid hLX
      have hl64 : LX.length ≤ 64 := by rw [hLX]; exact HLL.out x hxn
      have HLE : Hid (Ls.length = n + 1) := HLN
      clear hLX hin
      obtain ⟨⟨vl, k1, hvl⟩, f1⟩ := HC5.out.at hxn
      obtain ⟨avl, nvl, cvl, rfl⟩ : ∃ a n c, vl = .slice a n c := by obtain ⟨a, c, h9, _⟩ := hvl.parts; exact ⟨a, _, c, h9⟩
      rw [← HLX.out] at hvl
      obtain rfl : nvl = LX.length := by obtain ⟨a9, c9, h9, _⟩ := hvl.parts; rw [asL] at h9; simp only [Value.slice.injEq] at h9; exact h9.2.1
      have Hvl := Lib.hid hvl
      clear hvl
      have hnot : kb ∉ LX := by
        have h9 := HHS.out
        rw [eq_comm, decide_eq_false_iff_not] at h9
        intro h8
        exact h9 ⟨his, by rw [Int.toNat_natCast, ← HLX.out]; exact h8⟩
      have hD : doF 1 (PR F c M x (t - 1)) (L x) (Ls.getD x []) ((kb : Nat) : Int).toNat is = if z ≤ LX.length then (((vicP (L x) LX : Nat) : Int), true, false, (0 : Int), kb :: remP LX (vicP (L x) LX)) else ((0 : Int), false, false, (0 : Int), kb :: LX) := by
        unfold doF
        rw [if_neg (by rintro ⟨_, h8 | h8⟩; rw [his] at h8; cases h8; exact hpz.out.1 h8), Int.toNat_natCast, ← HLX.out, if_neg (fun h8 => hnot h8.2), if_neg (by decide), ← hpz.out.2]
      have HDD := Lib.hid hD
      obtain ⟨nl, hnl⟩ : ∃ y, y = LX.length := ⟨_, rfl⟩
      have HNL := Lib.hid hnl
      rw [← hnl] at k1 hl64 Hvl
      clear hD hnot
      have e0 := cell_of_row w5 q5 0 _ _ _ H55.out
      have e1 := cell_of_row w5 q5 1 _ _ _ H55.out
      have e2 := cell_of_row w5 q5 2 _ _ _ H55.out
      have e3 := cell_of_row w5 q5 3 _ _ _ H55.out
      have e4 := cell_of_row w5 q5 4 _ _ _ H55.out
      simp at e0 e1 e2 e3 e4
      clear hnl
      go_upto_region 14 with fail
      go_wp2_with fail
      refine (HPT.out _ HX5.out).mono ?_
      rintro e w6 ⟨rfl, hx6⟩
      replace c0 := hx6.cellv c0
      replace c3 := hx6.cellv c3
      replace a0 := hx6.cellv a0
      replace a1 := hx6.cellv a1
      replace k1 := hx6.cellv k1
      replace f1 := (HC5.out.ext hx6).at hxn |>.2
      have HC6 := Lib.hid (HC5.out.ext hx6)
      have H46 := Lib.hid ((Below.block hx6 q4 (Array.getElem?_eq_some_iff.1 H45.out).1).trans H45.out)
      have H56 := Lib.hid ((Below.block hx6 q5 (Array.getElem?_eq_some_iff.1 H55.out).1).trans H55.out)
      have HCH6 : Hid (Chg [gl] w w6) := Lib.hid (HCH5.out.ext hx6)
      have HGG6 : Hid (∀ f ∈ q4 :: q5 :: G, f < w6.heap.size) := Lib.hid (fun f hf => Nat.lt_of_lt_of_le (HGG5.out f hf) hx6.size)
      have Hvl6 := Lib.hid (Hvl.out.ext hx6)
      clear hx6 HC5 H45 H55 HCH5 HGG5 Hvl e0 e1 e2 e3 e4
      by_cases hge : z ≤ nl
      case neg =>
        --[[H
        have hgi : ¬ (z : Int) ≤ (nl : Int) := by omega
        obtain ⟨rfl, rfl, rfl, rfl, hT⟩ : V = 0 ∧ Gn = false ∧ W = false ∧ E = 0 ∧ T = kb :: LX := by
          have h9 := HRES.out
          rw [HDD.out, if_neg (by rw [← HNL.out]; exact hge)] at h9
          simp only [Prod.mk.injEq] at h9
          exact ⟨h9.1.symm, h9.2.1.symm, h9.2.2.1.symm, h9.2.2.2.1.symm, h9.2.2.2.2.symm⟩
        have HT := Lib.hid hT
        clear hT
        go_upto_region 20 with fail
        refine wp_region_noPanic ?_
        refine wp_region_held_drew (S := (fun w' => w'.cell? ⟨px, 3, none⟩ = some (.slice (some ⟨gl, 0, none⟩) n cap) ∧ w'.cell? ⟨pa, 1, none⟩ = some (.int .i64 ((kb : Nat) : Int)) ∧ Chg [gl] w6 w')) (by kernel_rfl) ?_ (fun hHeld => ?_)
        · try dsimp only
          exact ⟨chg_cellc (S := [gl]) (w := w6) (by repeat' (first | (with_reducible exact Chg.refl _ _) | (with_reducible assumption) | (with_reducible refine Chg.drewN ?_ _) | (with_reducible refine Chg.drew ?_) | (with_reducible refine Chg.alloc ?_ _) | (with_reducible refine Chg.setCell ?_ (.inl (by simp)) _) | (with_reducible refine Chg.trans ?_ (by assumption)) | (with_reducible refine Chg.ext ?_ (by assumption)))) c3 (by have := HGN.out; simp; omega), chg_cellc (S := [gl]) (w := w6) (by repeat' (first | (with_reducible exact Chg.refl _ _) | (with_reducible assumption) | (with_reducible refine Chg.drewN ?_ _) | (with_reducible refine Chg.drew ?_) | (with_reducible refine Chg.alloc ?_ _) | (with_reducible refine Chg.setCell ?_ (.inl (by simp)) _) | (with_reducible refine Chg.trans ?_ (by assumption)) | (with_reducible refine Chg.ext ?_ (by assumption)))) a1 (by have := HGN.out; simp; omega), (by repeat' (first | (with_reducible exact Chg.refl _ _) | (with_reducible assumption) | (with_reducible refine Chg.drewN ?_ _) | (with_reducible refine Chg.drew ?_) | (with_reducible refine Chg.alloc ?_ _) | (with_reducible refine Chg.setCell ?_ (.inl (by simp)) _) | (with_reducible refine Chg.trans ?_ (by assumption)) | (with_reducible refine Chg.ext ?_ (by assumption))))⟩
        refine wpAnyH_take (i := 0) (v := ?_) rfl (by kernel_rfl) (by kernel_rfl) (by kernel_rfl) (fun _ _ _ h => h) (Or.inl ⟨by rfl, ?_⟩) (by assumption) ?_
        rotate_left
        · (intro w9 hSw; (try dsimp only at hSw); go_simp; try with_reducible rfl)
        try simp only [Act.put, List.getElem_toArray, List.getElem_cons_zero, List.setIfInBounds_toArray, List.set_cons_zero, List.set_cons_succ]
        refine wpAnyH_take (i := 1) (v := ?_) rfl (by kernel_rfl) (by kernel_rfl) (by kernel_rfl) (fun _ _ _ h => h) (Or.inl ⟨by rfl, ?_⟩) (by assumption) ?_
        rotate_left
        · (intro w9 hSw; (try dsimp only at hSw); go_simp; try with_reducible rfl)
        try simp only [Act.put, List.getElem_toArray, List.getElem_cons_succ, List.getElem_cons_zero, List.setIfInBounds_toArray, List.set_cons_zero, List.set_cons_succ]
        refine wpAnyH_take (i := 2) (v := ?_) rfl (by kernel_rfl) (by kernel_rfl) (by kernel_rfl) (fun _ _ _ h => h) (Or.inl ⟨by rfl, ?_⟩) (by assumption) ?_
        rotate_left
        · (intro w9 hSw; (try dsimp only at hSw); go_simp; try with_reducible rfl)
        try simp only [Act.put, List.getElem_toArray, List.getElem_cons_succ, List.getElem_cons_zero, List.setIfInBounds_toArray, List.set_cons_zero, List.set_cons_succ]
        refine wpAnyH_take (i := 3) (v := ?_) rfl (by kernel_rfl) (by kernel_rfl) (by kernel_rfl) (fun _ _ _ h => h) (Or.inl ⟨by rfl, ?_⟩) (by assumption) ?_
        rotate_left
        · (intro w9 hSw; (try dsimp only at hSw); go_simp; try with_reducible rfl)
        try simp only [Act.put, List.getElem_toArray, List.getElem_cons_succ, List.getElem_cons_zero, List.setIfInBounds_toArray, List.set_cons_zero, List.set_cons_succ]
        refine wpAnyH_take (i := 4) (v := ?_) rfl (by kernel_rfl) (by kernel_rfl) (by kernel_rfl) (fun _ _ _ h => h) (Or.inl ⟨by rfl, ?_⟩) (by assumption) ?_
        rotate_left
        · (intro w9 hSw; (try dsimp only at hSw); go_simp; try with_reducible rfl)
        try simp only [Act.put, List.getElem_toArray, List.getElem_cons_succ, List.getElem_cons_zero, List.setIfInBounds_toArray, List.set_cons_zero, List.set_cons_succ]
        refine wpAnyH_take (i := 5) (v := ?_) rfl (by kernel_rfl) (by kernel_rfl) (by kernel_rfl) (fun _ _ _ h => h) (Or.inl ⟨by rfl, ?_⟩) (by assumption) ?_
        rotate_left
        · (intro w9 hSw; (try dsimp only at hSw); go_simp; try with_reducible rfl)
        try simp only [Act.put, List.getElem_toArray, List.getElem_cons_succ, List.getElem_cons_zero, List.setIfInBounds_toArray, List.set_cons_zero, List.set_cons_succ]
        refine wpAnyH_take (i := 6) (v := ?_) rfl (by kernel_rfl) (by kernel_rfl) (by kernel_rfl) (fun _ _ _ h => h) (Or.inl ⟨by rfl, ?_⟩) (by assumption) ?_
        rotate_left
        · (intro w9 hSw; (try dsimp only at hSw); go_simp; try with_reducible rfl)
        try simp only [Act.put, List.getElem_toArray, List.getElem_cons_succ, List.getElem_cons_zero, List.setIfInBounds_toArray, List.set_cons_zero, List.set_cons_succ]
        refine wpAnyH_take (i := 7) (v := ?_) rfl (by kernel_rfl) (by kernel_rfl) (by kernel_rfl) (fun _ _ _ h => h) (Or.inl ⟨by rfl, ?_⟩) (by assumption) ?_
        rotate_left
        · (intro w9 hSw; (try dsimp only at hSw); go_simp; try with_reducible rfl)
        try simp only [Act.put, List.getElem_toArray, List.getElem_cons_succ, List.getElem_cons_zero, List.setIfInBounds_toArray, List.set_cons_zero, List.set_cons_succ]
        refine wpAnyH_take (i := 8) (v := ?_) rfl (by kernel_rfl) (by kernel_rfl) (by kernel_rfl) (fun _ _ _ h => h) (Or.inl ⟨by rfl, ?_⟩) (by assumption) ?_
        rotate_left
        · (intro w9 hSw; (try dsimp only at hSw); go_simp; try with_reducible rfl)
        try simp only [Act.put, List.getElem_toArray, List.getElem_cons_succ, List.getElem_cons_zero, List.setIfInBounds_toArray, List.set_cons_zero, List.set_cons_succ]
        refine wpAnyH_take (i := 9) (v := ?_) rfl (by kernel_rfl) (by kernel_rfl) (by kernel_rfl) (fun _ _ _ h => h) (Or.inl ⟨by rfl, ?_⟩) (by assumption) ?_
        rotate_left
        · (intro w9 hSw; (try dsimp only at hSw); go_simp; try with_reducible rfl)
        try simp only [Act.put, List.getElem_toArray, List.getElem_cons_succ, List.getElem_cons_zero, List.setIfInBounds_toArray, List.set_cons_zero, List.set_cons_succ]
        refine wpAnyH_take (i := 10) (v := ?_) rfl (by kernel_rfl) (by kernel_rfl) (by kernel_rfl) (fun _ _ _ h => h) (Or.inl ⟨by rfl, ?_⟩) (by assumption) ?_
        rotate_left
        · (intro w9 hSw; (try dsimp only at hSw); go_simp; try with_reducible rfl)
        try simp only [Act.put, List.getElem_toArray, List.getElem_cons_succ, List.getElem_cons_zero, List.setIfInBounds_toArray, List.set_cons_zero, List.set_cons_succ]
        refine wpAnyH_take (i := 12) (v := ?_) rfl (by kernel_rfl) (by kernel_rfl) (by kernel_rfl) (fun _ _ _ h => h) (Or.inl ⟨by rfl, ?_⟩) (by assumption) ?_
        rotate_left
        · (intro w9 hSw; (try dsimp only at hSw); go_simp; try with_reducible rfl)
        try simp only [Act.put, List.getElem_toArray, List.getElem_cons_succ, List.getElem_cons_zero, List.setIfInBounds_toArray, List.set_cons_zero, List.set_cons_succ]
        refine wpAnyH_take (i := 13) (v := ?_) rfl (by kernel_rfl) (by kernel_rfl) (by kernel_rfl) (fun _ _ _ h => h) (Or.inl ⟨by rfl, ?_⟩) (by assumption) ?_
        rotate_left
        · (intro w9 hSw; (try dsimp only at hSw); go_simp; try with_reducible rfl)
        try simp only [Act.put, List.getElem_toArray, List.getElem_cons_succ, List.getElem_cons_zero, List.setIfInBounds_toArray, List.set_cons_zero, List.set_cons_succ]
        refine wpAnyH_ready (rs := [11]) (by kernel_rfl) (by simp) ?_
        refine AllReadyH.cons rfl (fun K hK => ?_) AllReadyH.nil
        (try dsimp only at hHeld)
        go_simp
        refine hK.out _ _ ⟨chg_cellc (S := [gl]) (w := w6) (by repeat' (first | (with_reducible exact Chg.refl _ _) | (with_reducible assumption) | (with_reducible refine Chg.drewN ?_ _) | (with_reducible refine Chg.drew ?_) | (with_reducible refine Chg.alloc ?_ _) | (with_reducible refine Chg.setCell ?_ (.inl (by simp)) _) | (with_reducible refine Chg.trans ?_ (by assumption)) | (with_reducible refine Chg.ext ?_ (by assumption)))) c3 (by have := HGN.out; simp; omega), chg_cellc (S := [gl]) (w := w6) (by repeat' (first | (with_reducible exact Chg.refl _ _) | (with_reducible assumption) | (with_reducible refine Chg.drewN ?_ _) | (with_reducible refine Chg.drew ?_) | (with_reducible refine Chg.alloc ?_ _) | (with_reducible refine Chg.setCell ?_ (.inl (by simp)) _) | (with_reducible refine Chg.trans ?_ (by assumption)) | (with_reducible refine Chg.ext ?_ (by assumption)))) a1 (by have := HGN.out; simp; omega), (by repeat' (first | (with_reducible exact Chg.refl _ _) | (with_reducible assumption) | (with_reducible refine Chg.drewN ?_ _) | (with_reducible refine Chg.drew ?_) | (with_reducible refine Chg.alloc ?_ _) | (with_reducible refine Chg.setCell ?_ (.inl (by simp)) _) | (with_reducible refine Chg.trans ?_ (by assumption)) | (with_reducible refine Chg.ext ?_ (by assumption))))⟩ (fun hHeld => ?_)
        clear hK K
        try simp only [Act.put, List.getElem_toArray, List.getElem_cons_succ, List.getElem_cons_zero, List.setIfInBounds_toArray, List.set_cons_zero, List.set_cons_succ]
        refine wpAnyH_ready (rs := [14]) (by kernel_rfl) (by simp) ?_
        refine AllReadyH.cons rfl (fun K hK => ?_) AllReadyH.nil
        (try dsimp only at hHeld)
        go_simp
        go_at_call 39
        refine (refahead_any _ (asInts LX) (kb : Nat) _ (Hvl6.out.ext (by repeat' (first | (with_reducible exact Ext.refl _) | (with_reducible assumption) | (with_reducible refine Ext.alloc ?_ _) | (with_reducible refine Ext.drewN ?_ _) | (with_reducible refine Ext.drew ?_) | (with_reducible refine Ext.trans ?_ (by assumption))))) (fits_small (by rw [asL, ← HNL.out]; omega))).mono ?_
        rintro e wn ⟨v2, rfl, ho2, hx2⟩
        obtain ⟨a5, c5, hv5, _, _, _, _⟩ := ho2.rd.parts
        obtain ⟨n5, hn5⟩ : ∃ n5, v2 = .slice a5 n5 c5 := ⟨_, hv5⟩
        clear hv5
        subst hn5
        have hxn9 : Ext w6 wn := (by repeat' (first | (with_reducible exact Ext.refl _) | (with_reducible assumption) | (with_reducible refine Ext.alloc ?_ _) | (with_reducible refine Ext.drewN ?_ _) | (with_reducible refine Ext.drew ?_) | (with_reducible refine Ext.trans ?_ (by assumption))))
        have hset := RcAt.set (HC6.out.ext hxn9) hxn (HLE.out) (v := .slice a5 n5 c5) (L' := kb :: LX) (by have h9 := ho2.rd; exact h9) (fun _ z hz hm => by have h1 := (ho2.lt z hz).1; have h2 := HGG6.out z hm; simp at h1; omega)
        have HCw7 := Lib.hid hset
        have zv := hxn9.cellv k1
        have zf := Ext.frzd hxn9 k1 f1
        have zc := hxn9.cellv c3
        have za := hxn9.cellv a1
        have HXN := Lib.hid hxn9
        clear hset ho2 hx2
        try go_wp2_with fail
        refine hK.out _ _ ⟨zc, za, Chg.of_ext HXN.out⟩ (fun hHeld => ?_)
        clear hK K
        try simp only [Act.put, List.getElem_toArray, List.getElem_cons_succ, List.getElem_cons_zero, List.setIfInBounds_toArray, List.set_cons_zero, List.set_cons_succ]
        refine wpAnyH_take (i := 15) (v := ?_) rfl (by kernel_rfl) (by kernel_rfl) (by kernel_rfl) (fun _ _ _ h => h) (Or.inl ⟨by rfl, ?_⟩) (by assumption) ?_
        rotate_left
        · (intro w9 hSw; (try dsimp only at hSw); go_simp; try with_reducible rfl)
        try simp only [Act.put, List.getElem_toArray, List.getElem_cons_succ, List.getElem_cons_zero, List.setIfInBounds_toArray, List.set_cons_zero, List.set_cons_succ]
        refine wpAnyH_ready (rs := [16]) (by kernel_rfl) (by simp) ?_
        refine AllReadyH.cons rfl (fun K hK => ?_) AllReadyH.nil
        (try dsimp only at hHeld)
        go_simp
        have hchS : Chg [gl] wn (wn.setCell ⟨gl, x, none⟩ (.slice a5 n5 c5)) := chg_one _ _ _ _
        have hchw7 : Chg [gl] w6 (wn.setCell ⟨gl, x, none⟩ (.slice a5 n5 c5)) := (Chg.of_ext HXN.out).trans hchS
        refine hK.out _ _ ⟨chg_cellc hchS zc (by have := HGN.out; simp; omega), chg_cellc hchS za (by have := HGN.out; simp; omega), hchw7⟩ (fun hHeld => ?_)
        clear hK K hchS hHeld zv zf zc za
        try simp only [Act.put, List.getElem_toArray, List.getElem_cons_succ, List.getElem_cons_zero, List.setIfInBounds_toArray, List.set_cons_zero, List.set_cons_succ]
        refine wpAnyH_done (by kernel_rfl) ?_ _
        refine NoPanic.normal ?_
        generalize (wn.setCell ⟨gl, x, none⟩ (.slice a5 n5 c5)) = w7 at *
        have H4w7 := Lib.hid ((hchw7.block q4 (Array.getElem?_eq_some_iff.1 H46.out).1 (by have := HGN.out; simp; omega)).trans H46.out)
        have H5w7 := Lib.hid ((hchw7.block q5 (Array.getElem?_eq_some_iff.1 H56.out).1 (by have := HGN.out; simp; omega)).trans H56.out)
        have CHw7 : Hid (Chg [gl] w w7) := Lib.hid (HCH6.out.trans hchw7)
        have GGw7 : Hid (∀ f ∈ q4 :: q5 :: G, f < w7.heap.size) := Lib.hid (fun f hf => Nat.lt_of_lt_of_le (HGG6.out f hf) hchw7.size)
        replace a0 := chg_cellc hchw7 a0 (by have := HGN.out; simp; omega)
        replace a1 := chg_cellc hchw7 a1 (by have := HGN.out; simp; omega)
        replace c3 := chg_cellc hchw7 c3 (by have := HGN.out; simp; omega)
        clear hchw7 k1 f1 HXN
        have y0 := cell_of_row w7 q4 0 _ _ _ H4w7.out
        have y1 := cell_of_row w7 q4 1 _ _ _ H4w7.out
        have y2 := cell_of_row w7 q4 2 _ _ _ H4w7.out
        have y3 := cell_of_row w7 q4 3 _ _ _ H4w7.out
        have y4 := cell_of_row w7 q4 4 _ _ _ H4w7.out
        simp only [List.getElem?_toArray, List.getElem?_cons_zero, List.getElem?_cons_succ] at y0 y1 y2 y3 y4
        have g0 := frozen_row H4w7.out 0
        have g1 := frozen_row H4w7.out 1
        have g2 := frozen_row H4w7.out 2
        have g3 := frozen_row H4w7.out 3
        have g4 := frozen_row H4w7.out 4
        have e0 := cell_of_row w7 q5 0 _ _ _ H5w7.out
        have e1 := cell_of_row w7 q5 1 _ _ _ H5w7.out
        have e2 := cell_of_row w7 q5 2 _ _ _ H5w7.out
        have e3 := cell_of_row w7 q5 3 _ _ _ H5w7.out
        have e4 := cell_of_row w7 q5 4 _ _ _ H5w7.out
        simp at e0 e1 e2 e3 e4
        have FIN : Hid (∀ v0 v1 v2 v3 v4, RcAt (((((w7.setCell ⟨q4, 0, none⟩ v0).setCell ⟨q4, 1, none⟩ v1).setCell ⟨q4, 2, none⟩ v2).setCell ⟨q4, 3, none⟩ v3).setCell ⟨q4, 4, none⟩ v4) G px gl (.slice ha n hcp) gp n t F L c M LSF ∧ Chg [gl] w (((((w7.setCell ⟨q4, 0, none⟩ v0).setCell ⟨q4, 1, none⟩ v1).setCell ⟨q4, 2, none⟩ v2).setCell ⟨q4, 3, none⟩ v3).setCell ⟨q4, 4, none⟩ v4)) := Lib.hid (fun v0 v1 v2 v3 v4 => ⟨by
          have h9 := rc_new5 HCw7.out HGN.out.2.1 HGN.out.1 v0 v1 v2 v3 v4
          have e9 : LSF = Ls.set x (kb :: LX) := by
            rw [HLSF.out]
            rw [if_pos his, HT.out]
          rw [e9]
          exact h9, chg_new5 CHw7.out (by have := HQ.out; omega) v0 v1 v2 v3 v4⟩)
        go_wp2_with fail
        refine bodyPost_ret (results_cell_row rfl _ _ q4 _ _ _ _ rfl (fill5w H4w7.out _ _ _ _ _) Try.underlying53 rfl went15_info) rfl ?_
        exact ⟨rfl, FIN.out _ _ _ _ _⟩
        --]]
      --[[I
      have hgi : (z : Int) ≤ (nl : Int) := by omega
      have hnp : 0 < nl := by omega
      obtain ⟨vi, hvi⟩ : ∃ y, y = vicP (L x) LX := ⟨_, rfl⟩
      obtain ⟨rfl, rfl, rfl, rfl, hT⟩ : V = (vi : Nat) ∧ Gn = true ∧ W = false ∧ E = 0 ∧ T = kb :: remP LX vi := by
        have h9 := HRES.out
        rw [HDD.out, if_pos (by rw [← HNL.out]; exact hge), ← hvi] at h9
        simp only [Prod.mk.injEq] at h9
        exact ⟨h9.1.symm, h9.2.1.symm, h9.2.2.1.symm, h9.2.2.2.1.symm, h9.2.2.2.2.symm⟩
      have HT := Lib.hid hT
      obtain ⟨al9, cl9, hal, _, _, _, hcl⟩ := Hvl6.out.parts
      simp only [Value.slice.injEq] at hal
      obtain ⟨rfl, hnn9, rfl⟩ := hal
      clear hnn9
      obtain ⟨bb, ob, rfl, _, hcell⟩ := hcl (by intro e; have := congrArg List.length e; rw [asL, ← HNL.out] at this; simp at this; omega)
      have kl := hcell (nl - 1) (by rw [asL, ← HNL.out]; omega)
      have kf := hcell 0 (by rw [asL, ← HNL.out]; omega)
      simp only [Nat.add_zero] at kf
      obtain ⟨l9, hl9⟩ : ∃ y : Int, y = (asInts LX).getD (nl - 1) 0 := ⟨_, rfl⟩
      obtain ⟨f9, hf9⟩ : ∃ y : Int, y = (asInts LX).getD 0 0 := ⟨_, rfl⟩
      rw [← hl9] at kl
      rw [← hf9] at kf
      have HVI : Hid ((vi : Int) = if L x = true then f9 else l9) := Lib.hid (by
        rw [hvi, hl9, hf9]
        exact vic_at (L x) LX nl HNL.out hnp)
      obtain ⟨j9, hj9⟩ : ∃ y, y = nl - 1 := ⟨_, rfl⟩
      have hw9 : IntKind.i64.wrap ((nl : Int) - 1) = (j9 : Nat) := by rw [IntKind.wrap_i64]; omega
      have hj9n : j9 < nl := by omega
      have hj9i : (j9 : Int) < (nl : Int) := by omega
      have hn0i : (0 : Int) < (nl : Int) := by omega
      rw [← hj9] at kl
      have hhint := HC6.out.hints
      obtain ⟨_, _, hhe, _, _, _, hhc⟩ := hhint
      simp only [Value.slice.injEq] at hhe
      obtain ⟨rfl, _, rfl⟩ := hhe
      obtain ⟨hb9, ho9, rfl, _, hh9⟩ := hhc (by omega)
      have k8 : w6.cell? ⟨hb9, ho9 + (x * 4 + 3), none⟩ = some (.bool (L x)) := hh9 x 3 hxn (by omega)
      rw [← Nat.add_assoc] at k8
      obtain ⟨v2, kk, how⟩ := HC6.out.at2 hxn
      rw [k1] at kk
      cases kk
      have hown9 := how (by rw [← HLX.out]; intro e; have := HNL.out; rw [e] at this; simp at this; omega) bb rfl
      have hbne : Hid (hb9 ≠ q5 ∧ bb ≠ q5) := Lib.hid ⟨fun e => HC6.out.hown (by omega) hb9 rfl (by simp [e]), fun e => hown9 (by simp [e])⟩
      obtain ⟨lp, hlp⟩ : ∃ y, y = L x := ⟨_, rfl⟩
      rw [← hlp] at k8 HVI
      have e1 := cell_of_row w6 q5 1 _ _ _ H56.out
      simp at e1
      have fz1 := frozen_row H56.out 1
      clear hcell hcl hh9 hhc hvi hl9 hf9 hT hj9 how hown9 hlp
      go_upto_region 16 with fail
      have hcS : Chg [q5] w6 (w6.setCell ⟨q5, 1, none⟩ (.int .i64 l9)) := chg_one _ _ _ _
      have H56n := Lib.hid (heap_set (o := 1) H56.out (.int .i64 l9))
      have H46n := Lib.hid ((Below.heap_setCell w6 ⟨q5, 1, none⟩ (.int .i64 l9) q4 (by have := HGN.out; simp; omega)).trans H46.out)
      have HC6n := Lib.hid (HC6.out.off (q := q5) (by simp) HGN.out.2.2.1 1 (.int .i64 l9))
      have HCH6n : Hid (Chg [gl] w (w6.setCell ⟨q5, 1, none⟩ (.int .i64 l9))) := Lib.hid (HCH6.out.setCell (.inr HQ5.out.2.2) _)
      replace c0 := chg_cellc hcS c0 (by have := HGN.out; simp; omega)
      replace c3 := chg_cellc hcS c3 (by have := HGN.out; simp; omega)
      replace a0 := chg_cellc hcS a0 (by have := HGN.out; simp; omega)
      replace a1 := chg_cellc hcS a1 (by have := HGN.out; simp; omega)
      replace k1 := chg_cellc hcS k1 (by have := HGN.out; simp; omega)
      replace kf := chg_cellc hcS kf (by have := hbne.out; simp; omega)
      replace k8 := chg_cellc hcS k8 (by have := hbne.out; simp; omega)
      clear hcS
      have GG7 : Hid (∀ f ∈ q4 :: q5 :: G, f < (w6.setCell ⟨q5, 1, none⟩ (.int .i64 l9)).heap.size) := Lib.hid (fun f hf => by have := HGG6.out f hf; simp; omega)
      generalize (w6.setCell ⟨q5, 1, none⟩ (.int .i64 l9)) = w7 at *
      clear e1 fz1 kl HC6 H46 H56 HCH6 HGG6 Hvl6
      cases lp with
      | false =>
        obtain rfl : l9 = ((vi : Nat) : Int) := by have h9 := HVI.out; simp at h9; exact h9.symm
        clear HVI
        have e2 := cell_of_row w7 q5 2 _ _ _ H56n.out
        simp at e2
        have fz2 := frozen_row H56n.out 2
        go_upto_region 19 with fail
        have hcS : Chg [q5] w7 (w7.setCell ⟨q5, 2, none⟩ (.bool true)) := chg_one _ _ _ _
        have H56nn := Lib.hid (heap_set (o := 2) H56n.out (.bool true))
        have H46nn := Lib.hid ((Below.heap_setCell w7 ⟨q5, 2, none⟩ (.bool true) q4 (by have := HGN.out; simp; omega)).trans H46n.out)
        have HC6nn := Lib.hid (HC6n.out.off (q := q5) (by simp) HGN.out.2.2.1 2 (.bool true))
        have HCH6nn : Hid (Chg [gl] w (w7.setCell ⟨q5, 2, none⟩ (.bool true))) := Lib.hid (HCH6n.out.setCell (.inr HQ5.out.2.2) _)
        replace c0 := chg_cellc hcS c0 (by have := HGN.out; simp; omega)
        replace c3 := chg_cellc hcS c3 (by have := HGN.out; simp; omega)
        replace a0 := chg_cellc hcS a0 (by have := HGN.out; simp; omega)
        replace a1 := chg_cellc hcS a1 (by have := HGN.out; simp; omega)
        clear hcS
        have GG9 : Hid (∀ f ∈ q4 :: q5 :: G, f < (w7.setCell ⟨q5, 2, none⟩ (.bool true)).heap.size) := Lib.hid (fun f hf => by have := GG7.out f hf; simp; omega)
        generalize (w7.setCell ⟨q5, 2, none⟩ (.bool true)) = w9 at *
        clear e2 fz2 k1
        have e1 := cell_of_row w9 q5 1 _ _ _ H56nn.out
        simp at e1
        clear f1
        obtain ⟨⟨vn, k1, hvn⟩, f1⟩ := HC6nn.out.at hxn
        obtain ⟨avn, nvn, cvn, rfl⟩ : ∃ a n c, vn = .slice a n c := by obtain ⟨a, c, h9, _⟩ := hvn.parts; exact ⟨a, _, c, h9⟩
        rw [← HLX.out] at hvn
        have Hvn := Lib.hid hvn
        clear hvn
        go_upto_region 19 with fail
        refine wp_region_noPanic ?_
        refine wp_region_held_drew (S := (fun w' => w'.cell? ⟨px, 3, none⟩ = some (.slice (some ⟨gl, 0, none⟩) n cap) ∧ w'.cell? ⟨q5, 1, none⟩ = some (.int .i64 ((vi : Nat) : Int)) ∧ Chg [gl] w9 w')) (by kernel_rfl) ?_ (fun hHeld => ?_)
        · try dsimp only
          exact ⟨chg_cellc (S := [gl]) (w := w9) (by repeat' (first | (with_reducible exact Chg.refl _ _) | (with_reducible assumption) | (with_reducible refine Chg.drewN ?_ _) | (with_reducible refine Chg.drew ?_) | (with_reducible refine Chg.alloc ?_ _) | (with_reducible refine Chg.setCell ?_ (.inl (by simp)) _) | (with_reducible refine Chg.trans ?_ (by assumption)) | (with_reducible refine Chg.ext ?_ (by assumption)))) c3 (by have := HGN.out; simp; omega), chg_cellc (S := [gl]) (w := w9) (by repeat' (first | (with_reducible exact Chg.refl _ _) | (with_reducible assumption) | (with_reducible refine Chg.drewN ?_ _) | (with_reducible refine Chg.drew ?_) | (with_reducible refine Chg.alloc ?_ _) | (with_reducible refine Chg.setCell ?_ (.inl (by simp)) _) | (with_reducible refine Chg.trans ?_ (by assumption)) | (with_reducible refine Chg.ext ?_ (by assumption)))) e1 (by have := HGN.out; simp; omega), (by repeat' (first | (with_reducible exact Chg.refl _ _) | (with_reducible assumption) | (with_reducible refine Chg.drewN ?_ _) | (with_reducible refine Chg.drew ?_) | (with_reducible refine Chg.alloc ?_ _) | (with_reducible refine Chg.setCell ?_ (.inl (by simp)) _) | (with_reducible refine Chg.trans ?_ (by assumption)) | (with_reducible refine Chg.ext ?_ (by assumption))))⟩
        refine wpAnyH_take (i := 0) (v := ?_) rfl (by kernel_rfl) (by kernel_rfl) (by kernel_rfl) (fun _ _ _ h => h) (Or.inl ⟨by rfl, ?_⟩) (by assumption) ?_
        rotate_left
        · (intro w9 hSw; (try dsimp only at hSw); go_simp; try with_reducible rfl)
        try simp only [Act.put, List.getElem_toArray, List.getElem_cons_zero, List.setIfInBounds_toArray, List.set_cons_zero, List.set_cons_succ]
        refine wpAnyH_take (i := 1) (v := ?_) rfl (by kernel_rfl) (by kernel_rfl) (by kernel_rfl) (fun _ _ _ h => h) (Or.inl ⟨by rfl, ?_⟩) (by assumption) ?_
        rotate_left
        · (intro w9 hSw; (try dsimp only at hSw); go_simp; try with_reducible rfl)
        try simp only [Act.put, List.getElem_toArray, List.getElem_cons_succ, List.getElem_cons_zero, List.setIfInBounds_toArray, List.set_cons_zero, List.set_cons_succ]
        refine wpAnyH_take (i := 2) (v := ?_) rfl (by kernel_rfl) (by kernel_rfl) (by kernel_rfl) (fun _ _ _ h => h) (Or.inl ⟨by rfl, ?_⟩) (by assumption) ?_
        rotate_left
        · (intro w9 hSw; (try dsimp only at hSw); go_simp; try with_reducible rfl)
        try simp only [Act.put, List.getElem_toArray, List.getElem_cons_succ, List.getElem_cons_zero, List.setIfInBounds_toArray, List.set_cons_zero, List.set_cons_succ]
        refine wpAnyH_take (i := 3) (v := ?_) rfl (by kernel_rfl) (by kernel_rfl) (by kernel_rfl) (fun _ _ _ h => h) (Or.inl ⟨by rfl, ?_⟩) (by assumption) ?_
        rotate_left
        · (intro w9 hSw; (try dsimp only at hSw); go_simp; try with_reducible rfl)
        try simp only [Act.put, List.getElem_toArray, List.getElem_cons_succ, List.getElem_cons_zero, List.setIfInBounds_toArray, List.set_cons_zero, List.set_cons_succ]
        refine wpAnyH_take (i := 4) (v := ?_) rfl (by kernel_rfl) (by kernel_rfl) (by kernel_rfl) (fun _ _ _ h => h) (Or.inl ⟨by rfl, ?_⟩) (by assumption) ?_
        rotate_left
        · (intro w9 hSw; (try dsimp only at hSw); go_simp; try with_reducible rfl)
        try simp only [Act.put, List.getElem_toArray, List.getElem_cons_succ, List.getElem_cons_zero, List.setIfInBounds_toArray, List.set_cons_zero, List.set_cons_succ]
        refine wpAnyH_take (i := 5) (v := ?_) rfl (by kernel_rfl) (by kernel_rfl) (by kernel_rfl) (fun _ _ _ h => h) (Or.inl ⟨by rfl, ?_⟩) (by assumption) ?_
        rotate_left
        · (intro w9 hSw; (try dsimp only at hSw); go_simp; try with_reducible rfl)
        try simp only [Act.put, List.getElem_toArray, List.getElem_cons_succ, List.getElem_cons_zero, List.setIfInBounds_toArray, List.set_cons_zero, List.set_cons_succ]
        refine wpAnyH_take (i := 6) (v := ?_) rfl (by kernel_rfl) (by kernel_rfl) (by kernel_rfl) (fun _ _ _ h => h) (Or.inl ⟨by rfl, ?_⟩) (by assumption) ?_
        rotate_left
        · (intro w9 hSw; (try dsimp only at hSw); go_simp; try with_reducible rfl)
        try simp only [Act.put, List.getElem_toArray, List.getElem_cons_succ, List.getElem_cons_zero, List.setIfInBounds_toArray, List.set_cons_zero, List.set_cons_succ]
        refine wpAnyH_take (i := 7) (v := ?_) rfl (by kernel_rfl) (by kernel_rfl) (by kernel_rfl) (fun _ _ _ h => h) (Or.inl ⟨by rfl, ?_⟩) (by assumption) ?_
        rotate_left
        · (intro w9 hSw; (try dsimp only at hSw); go_simp; try with_reducible rfl)
        try simp only [Act.put, List.getElem_toArray, List.getElem_cons_succ, List.getElem_cons_zero, List.setIfInBounds_toArray, List.set_cons_zero, List.set_cons_succ]
        refine wpAnyH_take (i := 8) (v := ?_) rfl (by kernel_rfl) (by kernel_rfl) (by kernel_rfl) (fun _ _ _ h => h) (Or.inl ⟨by rfl, ?_⟩) (by assumption) ?_
        rotate_left
        · (intro w9 hSw; (try dsimp only at hSw); go_simp; try with_reducible rfl)
        try simp only [Act.put, List.getElem_toArray, List.getElem_cons_succ, List.getElem_cons_zero, List.setIfInBounds_toArray, List.set_cons_zero, List.set_cons_succ]
        refine wpAnyH_take (i := 9) (v := ?_) rfl (by kernel_rfl) (by kernel_rfl) (by kernel_rfl) (fun _ _ _ h => h) (Or.inl ⟨by rfl, ?_⟩) (by assumption) ?_
        rotate_left
        · (intro w9 hSw; (try dsimp only at hSw); go_simp; try with_reducible rfl)
        try simp only [Act.put, List.getElem_toArray, List.getElem_cons_succ, List.getElem_cons_zero, List.setIfInBounds_toArray, List.set_cons_zero, List.set_cons_succ]
        refine wpAnyH_take (i := 10) (v := ?_) rfl (by kernel_rfl) (by kernel_rfl) (by kernel_rfl) (fun _ _ _ h => h) (Or.inl ⟨by rfl, ?_⟩) (by assumption) ?_
        rotate_left
        · (intro w9 hSw; (try dsimp only at hSw); go_simp; try with_reducible rfl)
        try simp only [Act.put, List.getElem_toArray, List.getElem_cons_succ, List.getElem_cons_zero, List.setIfInBounds_toArray, List.set_cons_zero, List.set_cons_succ]
        refine wpAnyH_take (i := 12) (v := ?_) rfl (by kernel_rfl) (by kernel_rfl) (by kernel_rfl) (fun _ _ _ h => h) (Or.inl ⟨by rfl, ?_⟩) (by assumption) ?_
        rotate_left
        · (intro w9 hSw; (try dsimp only at hSw); go_simp; try with_reducible rfl)
        try simp only [Act.put, List.getElem_toArray, List.getElem_cons_succ, List.getElem_cons_zero, List.setIfInBounds_toArray, List.set_cons_zero, List.set_cons_succ]
        refine wpAnyH_take (i := 13) (v := ?_) rfl (by kernel_rfl) (by kernel_rfl) (by kernel_rfl) (fun _ _ _ h => h) (Or.inl ⟨by rfl, ?_⟩) (by assumption) ?_
        rotate_left
        · (intro w9 hSw; (try dsimp only at hSw); go_simp; try with_reducible rfl)
        try simp only [Act.put, List.getElem_toArray, List.getElem_cons_succ, List.getElem_cons_zero, List.setIfInBounds_toArray, List.set_cons_zero, List.set_cons_succ]
        refine wpAnyH_ready (rs := [11]) (by kernel_rfl) (by simp) ?_
        refine AllReadyH.cons rfl (fun K hK => ?_) AllReadyH.nil
        (try dsimp only at hHeld)
        go_simp
        refine hK.out _ _ ⟨chg_cellc (S := [gl]) (w := w9) (by repeat' (first | (with_reducible exact Chg.refl _ _) | (with_reducible assumption) | (with_reducible refine Chg.drewN ?_ _) | (with_reducible refine Chg.drew ?_) | (with_reducible refine Chg.alloc ?_ _) | (with_reducible refine Chg.setCell ?_ (.inl (by simp)) _) | (with_reducible refine Chg.trans ?_ (by assumption)) | (with_reducible refine Chg.ext ?_ (by assumption)))) c3 (by have := HGN.out; simp; omega), chg_cellc (S := [gl]) (w := w9) (by repeat' (first | (with_reducible exact Chg.refl _ _) | (with_reducible assumption) | (with_reducible refine Chg.drewN ?_ _) | (with_reducible refine Chg.drew ?_) | (with_reducible refine Chg.alloc ?_ _) | (with_reducible refine Chg.setCell ?_ (.inl (by simp)) _) | (with_reducible refine Chg.trans ?_ (by assumption)) | (with_reducible refine Chg.ext ?_ (by assumption)))) e1 (by have := HGN.out; simp; omega), (by repeat' (first | (with_reducible exact Chg.refl _ _) | (with_reducible assumption) | (with_reducible refine Chg.drewN ?_ _) | (with_reducible refine Chg.drew ?_) | (with_reducible refine Chg.alloc ?_ _) | (with_reducible refine Chg.setCell ?_ (.inl (by simp)) _) | (with_reducible refine Chg.trans ?_ (by assumption)) | (with_reducible refine Chg.ext ?_ (by assumption))))⟩ (fun hHeld => ?_)
        clear hK K
        try simp only [Act.put, List.getElem_toArray, List.getElem_cons_succ, List.getElem_cons_zero, List.setIfInBounds_toArray, List.set_cons_zero, List.set_cons_succ]
        refine wpAnyH_ready (rs := [14]) (by kernel_rfl) (by simp) ?_
        refine AllReadyH.cons rfl (fun K hK => ?_) AllReadyH.nil
        (try dsimp only at hHeld)
        go_simp
        go_at_call 38
        refine (without_any _ (asInts LX) (vi : Nat) _ (Hvn.out.ext (by repeat' (first | (with_reducible exact Ext.refl _) | (with_reducible assumption) | (with_reducible refine Ext.alloc ?_ _) | (with_reducible refine Ext.drewN ?_ _) | (with_reducible refine Ext.drew ?_) | (with_reducible refine Ext.trans ?_ (by assumption))))) (fits_small (by rw [asL, ← HNL.out]; omega))).mono ?_
        rintro e wn ⟨v2, rfl, ho2, hx2⟩
        obtain ⟨a5, c5, hv5, _, _, _, _⟩ := ho2.rd.parts
        obtain ⟨n5, hn5⟩ : ∃ n5, v2 = .slice a5 n5 c5 := ⟨_, hv5⟩
        clear hv5
        subst hn5
        have hxn9 : Ext w9 wn := (by repeat' (first | (with_reducible exact Ext.refl _) | (with_reducible assumption) | (with_reducible refine Ext.alloc ?_ _) | (with_reducible refine Ext.drewN ?_ _) | (with_reducible refine Ext.drew ?_) | (with_reducible refine Ext.trans ?_ (by assumption))))
        have hset := RcAt.set (HC6nn.out.ext hxn9) hxn (HLE.out) (v := .slice a5 n5 c5) (L' := remP LX vi) (by have h9 := ho2.rd; rw [wo_rem] at h9; exact h9) (fun _ z hz hm => by have h1 := (ho2.lt z hz).1; have h2 := GG9.out z hm; simp at h1; omega)
        have HCw10 := Lib.hid hset
        have zv := hxn9.cellv k1
        have zf := Ext.frzd hxn9 k1 f1
        have zc := hxn9.cellv c3
        have za := hxn9.cellv e1
        have HXN := Lib.hid hxn9
        clear hset ho2 hx2
        try go_wp2_with fail
        refine hK.out _ _ ⟨zc, za, Chg.of_ext HXN.out⟩ (fun hHeld => ?_)
        clear hK K
        try simp only [Act.put, List.getElem_toArray, List.getElem_cons_succ, List.getElem_cons_zero, List.setIfInBounds_toArray, List.set_cons_zero, List.set_cons_succ]
        refine wpAnyH_take (i := 15) (v := ?_) rfl (by kernel_rfl) (by kernel_rfl) (by kernel_rfl) (fun _ _ _ h => h) (Or.inl ⟨by rfl, ?_⟩) (by assumption) ?_
        rotate_left
        · (intro w9 hSw; (try dsimp only at hSw); go_simp; try with_reducible rfl)
        try simp only [Act.put, List.getElem_toArray, List.getElem_cons_succ, List.getElem_cons_zero, List.setIfInBounds_toArray, List.set_cons_zero, List.set_cons_succ]
        refine wpAnyH_ready (rs := [16]) (by kernel_rfl) (by simp) ?_
        refine AllReadyH.cons rfl (fun K hK => ?_) AllReadyH.nil
        (try dsimp only at hHeld)
        go_simp
        have hchS : Chg [gl] wn (wn.setCell ⟨gl, x, none⟩ (.slice a5 n5 c5)) := chg_one _ _ _ _
        have hchw10 : Chg [gl] w9 (wn.setCell ⟨gl, x, none⟩ (.slice a5 n5 c5)) := (Chg.of_ext HXN.out).trans hchS
        refine hK.out _ _ ⟨chg_cellc hchS zc (by have := HGN.out; simp; omega), chg_cellc hchS za (by have := HGN.out; simp; omega), hchw10⟩ (fun hHeld => ?_)
        clear hK K hchS hHeld zv zf zc za
        try simp only [Act.put, List.getElem_toArray, List.getElem_cons_succ, List.getElem_cons_zero, List.setIfInBounds_toArray, List.set_cons_zero, List.set_cons_succ]
        refine wpAnyH_done (by kernel_rfl) ?_ _
        refine NoPanic.normal ?_
        generalize (wn.setCell ⟨gl, x, none⟩ (.slice a5 n5 c5)) = w10 at *
        have H4w10 := Lib.hid ((hchw10.block q4 (Array.getElem?_eq_some_iff.1 H46nn.out).1 (by have := HGN.out; simp; omega)).trans H46nn.out)
        have H5w10 := Lib.hid ((hchw10.block q5 (Array.getElem?_eq_some_iff.1 H56nn.out).1 (by have := HGN.out; simp; omega)).trans H56nn.out)
        have CHw10 : Hid (Chg [gl] w w10) := Lib.hid (HCH6nn.out.trans hchw10)
        have GGw10 : Hid (∀ f ∈ q4 :: q5 :: G, f < w10.heap.size) := Lib.hid (fun f hf => Nat.lt_of_lt_of_le (GG9.out f hf) hchw10.size)
        replace a0 := chg_cellc hchw10 a0 (by have := HGN.out; simp; omega)
        replace a1 := chg_cellc hchw10 a1 (by have := HGN.out; simp; omega)
        replace c3 := chg_cellc hchw10 c3 (by have := HGN.out; simp; omega)
        clear hchw10 k1 f1 HXN
        obtain ⟨⟨vm, k1, hvm⟩, f1⟩ := HCw10.out.at hxn
        rw [getD_set (by rw [HLE.out]; omega), if_pos rfl] at hvm
        obtain ⟨avm, nvm, cvm, rfl⟩ : ∃ a n c, vm = .slice a n c := by obtain ⟨a, c, h9, _⟩ := hvm.parts; exact ⟨a, _, c, h9⟩
        have Hvm := Lib.hid hvm
        have hrl := rem_len LX vi
        have hrl2 : (remP LX vi).length ≤ 100 := by have := HNL.out; omega
        clear hvm e1
        go_upto_region 20 with fail
        refine wp_region_noPanic ?_
        refine wp_region_held_drew (S := (fun w' => w'.cell? ⟨px, 3, none⟩ = some (.slice (some ⟨gl, 0, none⟩) n cap) ∧ w'.cell? ⟨pa, 1, none⟩ = some (.int .i64 ((kb : Nat) : Int)) ∧ Chg [gl] w10 w')) (by kernel_rfl) ?_ (fun hHeld => ?_)
        · try dsimp only
          exact ⟨chg_cellc (S := [gl]) (w := w10) (by repeat' (first | (with_reducible exact Chg.refl _ _) | (with_reducible assumption) | (with_reducible refine Chg.drewN ?_ _) | (with_reducible refine Chg.drew ?_) | (with_reducible refine Chg.alloc ?_ _) | (with_reducible refine Chg.setCell ?_ (.inl (by simp)) _) | (with_reducible refine Chg.trans ?_ (by assumption)) | (with_reducible refine Chg.ext ?_ (by assumption)))) c3 (by have := HGN.out; simp; omega), chg_cellc (S := [gl]) (w := w10) (by repeat' (first | (with_reducible exact Chg.refl _ _) | (with_reducible assumption) | (with_reducible refine Chg.drewN ?_ _) | (with_reducible refine Chg.drew ?_) | (with_reducible refine Chg.alloc ?_ _) | (with_reducible refine Chg.setCell ?_ (.inl (by simp)) _) | (with_reducible refine Chg.trans ?_ (by assumption)) | (with_reducible refine Chg.ext ?_ (by assumption)))) a1 (by have := HGN.out; simp; omega), (by repeat' (first | (with_reducible exact Chg.refl _ _) | (with_reducible assumption) | (with_reducible refine Chg.drewN ?_ _) | (with_reducible refine Chg.drew ?_) | (with_reducible refine Chg.alloc ?_ _) | (with_reducible refine Chg.setCell ?_ (.inl (by simp)) _) | (with_reducible refine Chg.trans ?_ (by assumption)) | (with_reducible refine Chg.ext ?_ (by assumption))))⟩
        refine wpAnyH_take (i := 0) (v := ?_) rfl (by kernel_rfl) (by kernel_rfl) (by kernel_rfl) (fun _ _ _ h => h) (Or.inl ⟨by rfl, ?_⟩) (by assumption) ?_
        rotate_left
        · (intro w9 hSw; (try dsimp only at hSw); go_simp; try with_reducible rfl)
        try simp only [Act.put, List.getElem_toArray, List.getElem_cons_zero, List.setIfInBounds_toArray, List.set_cons_zero, List.set_cons_succ]
        refine wpAnyH_take (i := 1) (v := ?_) rfl (by kernel_rfl) (by kernel_rfl) (by kernel_rfl) (fun _ _ _ h => h) (Or.inl ⟨by rfl, ?_⟩) (by assumption) ?_
        rotate_left
        · (intro w9 hSw; (try dsimp only at hSw); go_simp; try with_reducible rfl)
        try simp only [Act.put, List.getElem_toArray, List.getElem_cons_succ, List.getElem_cons_zero, List.setIfInBounds_toArray, List.set_cons_zero, List.set_cons_succ]
        refine wpAnyH_take (i := 2) (v := ?_) rfl (by kernel_rfl) (by kernel_rfl) (by kernel_rfl) (fun _ _ _ h => h) (Or.inl ⟨by rfl, ?_⟩) (by assumption) ?_
        rotate_left
        · (intro w9 hSw; (try dsimp only at hSw); go_simp; try with_reducible rfl)
        try simp only [Act.put, List.getElem_toArray, List.getElem_cons_succ, List.getElem_cons_zero, List.setIfInBounds_toArray, List.set_cons_zero, List.set_cons_succ]
        refine wpAnyH_take (i := 3) (v := ?_) rfl (by kernel_rfl) (by kernel_rfl) (by kernel_rfl) (fun _ _ _ h => h) (Or.inl ⟨by rfl, ?_⟩) (by assumption) ?_
        rotate_left
        · (intro w9 hSw; (try dsimp only at hSw); go_simp; try with_reducible rfl)
        try simp only [Act.put, List.getElem_toArray, List.getElem_cons_succ, List.getElem_cons_zero, List.setIfInBounds_toArray, List.set_cons_zero, List.set_cons_succ]
        refine wpAnyH_take (i := 4) (v := ?_) rfl (by kernel_rfl) (by kernel_rfl) (by kernel_rfl) (fun _ _ _ h => h) (Or.inl ⟨by rfl, ?_⟩) (by assumption) ?_
        rotate_left
        · (intro w9 hSw; (try dsimp only at hSw); go_simp; try with_reducible rfl)
        try simp only [Act.put, List.getElem_toArray, List.getElem_cons_succ, List.getElem_cons_zero, List.setIfInBounds_toArray, List.set_cons_zero, List.set_cons_succ]
        refine wpAnyH_take (i := 5) (v := ?_) rfl (by kernel_rfl) (by kernel_rfl) (by kernel_rfl) (fun _ _ _ h => h) (Or.inl ⟨by rfl, ?_⟩) (by assumption) ?_
        rotate_left
        · (intro w9 hSw; (try dsimp only at hSw); go_simp; try with_reducible rfl)
        try simp only [Act.put, List.getElem_toArray, List.getElem_cons_succ, List.getElem_cons_zero, List.setIfInBounds_toArray, List.set_cons_zero, List.set_cons_succ]
        refine wpAnyH_take (i := 6) (v := ?_) rfl (by kernel_rfl) (by kernel_rfl) (by kernel_rfl) (fun _ _ _ h => h) (Or.inl ⟨by rfl, ?_⟩) (by assumption) ?_
        rotate_left
        · (intro w9 hSw; (try dsimp only at hSw); go_simp; try with_reducible rfl)
        try simp only [Act.put, List.getElem_toArray, List.getElem_cons_succ, List.getElem_cons_zero, List.setIfInBounds_toArray, List.set_cons_zero, List.set_cons_succ]
        refine wpAnyH_take (i := 7) (v := ?_) rfl (by kernel_rfl) (by kernel_rfl) (by kernel_rfl) (fun _ _ _ h => h) (Or.inl ⟨by rfl, ?_⟩) (by assumption) ?_
        rotate_left
        · (intro w9 hSw; (try dsimp only at hSw); go_simp; try with_reducible rfl)
        try simp only [Act.put, List.getElem_toArray, List.getElem_cons_succ, List.getElem_cons_zero, List.setIfInBounds_toArray, List.set_cons_zero, List.set_cons_succ]
        refine wpAnyH_take (i := 8) (v := ?_) rfl (by kernel_rfl) (by kernel_rfl) (by kernel_rfl) (fun _ _ _ h => h) (Or.inl ⟨by rfl, ?_⟩) (by assumption) ?_
        rotate_left
        · (intro w9 hSw; (try dsimp only at hSw); go_simp; try with_reducible rfl)
        try simp only [Act.put, List.getElem_toArray, List.getElem_cons_succ, List.getElem_cons_zero, List.setIfInBounds_toArray, List.set_cons_zero, List.set_cons_succ]
        refine wpAnyH_take (i := 9) (v := ?_) rfl (by kernel_rfl) (by kernel_rfl) (by kernel_rfl) (fun _ _ _ h => h) (Or.inl ⟨by rfl, ?_⟩) (by assumption) ?_
        rotate_left
        · (intro w9 hSw; (try dsimp only at hSw); go_simp; try with_reducible rfl)
        try simp only [Act.put, List.getElem_toArray, List.getElem_cons_succ, List.getElem_cons_zero, List.setIfInBounds_toArray, List.set_cons_zero, List.set_cons_succ]
        refine wpAnyH_take (i := 10) (v := ?_) rfl (by kernel_rfl) (by kernel_rfl) (by kernel_rfl) (fun _ _ _ h => h) (Or.inl ⟨by rfl, ?_⟩) (by assumption) ?_
        rotate_left
        · (intro w9 hSw; (try dsimp only at hSw); go_simp; try with_reducible rfl)
        try simp only [Act.put, List.getElem_toArray, List.getElem_cons_succ, List.getElem_cons_zero, List.setIfInBounds_toArray, List.set_cons_zero, List.set_cons_succ]
        refine wpAnyH_take (i := 12) (v := ?_) rfl (by kernel_rfl) (by kernel_rfl) (by kernel_rfl) (fun _ _ _ h => h) (Or.inl ⟨by rfl, ?_⟩) (by assumption) ?_
        rotate_left
        · (intro w9 hSw; (try dsimp only at hSw); go_simp; try with_reducible rfl)
        try simp only [Act.put, List.getElem_toArray, List.getElem_cons_succ, List.getElem_cons_zero, List.setIfInBounds_toArray, List.set_cons_zero, List.set_cons_succ]
        refine wpAnyH_take (i := 13) (v := ?_) rfl (by kernel_rfl) (by kernel_rfl) (by kernel_rfl) (fun _ _ _ h => h) (Or.inl ⟨by rfl, ?_⟩) (by assumption) ?_
        rotate_left
        · (intro w9 hSw; (try dsimp only at hSw); go_simp; try with_reducible rfl)
        try simp only [Act.put, List.getElem_toArray, List.getElem_cons_succ, List.getElem_cons_zero, List.setIfInBounds_toArray, List.set_cons_zero, List.set_cons_succ]
        refine wpAnyH_ready (rs := [11]) (by kernel_rfl) (by simp) ?_
        refine AllReadyH.cons rfl (fun K hK => ?_) AllReadyH.nil
        (try dsimp only at hHeld)
        go_simp
        refine hK.out _ _ ⟨chg_cellc (S := [gl]) (w := w10) (by repeat' (first | (with_reducible exact Chg.refl _ _) | (with_reducible assumption) | (with_reducible refine Chg.drewN ?_ _) | (with_reducible refine Chg.drew ?_) | (with_reducible refine Chg.alloc ?_ _) | (with_reducible refine Chg.setCell ?_ (.inl (by simp)) _) | (with_reducible refine Chg.trans ?_ (by assumption)) | (with_reducible refine Chg.ext ?_ (by assumption)))) c3 (by have := HGN.out; simp; omega), chg_cellc (S := [gl]) (w := w10) (by repeat' (first | (with_reducible exact Chg.refl _ _) | (with_reducible assumption) | (with_reducible refine Chg.drewN ?_ _) | (with_reducible refine Chg.drew ?_) | (with_reducible refine Chg.alloc ?_ _) | (with_reducible refine Chg.setCell ?_ (.inl (by simp)) _) | (with_reducible refine Chg.trans ?_ (by assumption)) | (with_reducible refine Chg.ext ?_ (by assumption)))) a1 (by have := HGN.out; simp; omega), (by repeat' (first | (with_reducible exact Chg.refl _ _) | (with_reducible assumption) | (with_reducible refine Chg.drewN ?_ _) | (with_reducible refine Chg.drew ?_) | (with_reducible refine Chg.alloc ?_ _) | (with_reducible refine Chg.setCell ?_ (.inl (by simp)) _) | (with_reducible refine Chg.trans ?_ (by assumption)) | (with_reducible refine Chg.ext ?_ (by assumption))))⟩ (fun hHeld => ?_)
        clear hK K
        try simp only [Act.put, List.getElem_toArray, List.getElem_cons_succ, List.getElem_cons_zero, List.setIfInBounds_toArray, List.set_cons_zero, List.set_cons_succ]
        refine wpAnyH_ready (rs := [14]) (by kernel_rfl) (by simp) ?_
        refine AllReadyH.cons rfl (fun K hK => ?_) AllReadyH.nil
        (try dsimp only at hHeld)
        go_simp
        go_at_call 39
        refine (refahead_any _ (asInts (remP LX vi)) (kb : Nat) _ (Hvm.out.ext (by repeat' (first | (with_reducible exact Ext.refl _) | (with_reducible assumption) | (with_reducible refine Ext.alloc ?_ _) | (with_reducible refine Ext.drewN ?_ _) | (with_reducible refine Ext.drew ?_) | (with_reducible refine Ext.trans ?_ (by assumption))))) (fits_small (by rw [asL]; omega))).mono ?_
        rintro e wn ⟨v2, rfl, ho2, hx2⟩
        obtain ⟨a5, c5, hv5, _, _, _, _⟩ := ho2.rd.parts
        obtain ⟨n5, hn5⟩ : ∃ n5, v2 = .slice a5 n5 c5 := ⟨_, hv5⟩
        clear hv5
        subst hn5
        have hxn9 : Ext w10 wn := (by repeat' (first | (with_reducible exact Ext.refl _) | (with_reducible assumption) | (with_reducible refine Ext.alloc ?_ _) | (with_reducible refine Ext.drewN ?_ _) | (with_reducible refine Ext.drew ?_) | (with_reducible refine Ext.trans ?_ (by assumption))))
        have hset := RcAt.set (HCw10.out.ext hxn9) hxn (by rw [List.length_set]; exact HLE.out) (v := .slice a5 n5 c5) (L' := kb :: remP LX vi) (by have h9 := ho2.rd; exact h9) (fun _ z hz hm => by have h1 := (ho2.lt z hz).1; have h2 := GGw10.out z hm; simp at h1; omega)
        have HCw11 := Lib.hid hset
        have zv := hxn9.cellv k1
        have zf := Ext.frzd hxn9 k1 f1
        have zc := hxn9.cellv c3
        have za := hxn9.cellv a1
        have HXN := Lib.hid hxn9
        clear hset ho2 hx2
        try go_wp2_with fail
        refine hK.out _ _ ⟨zc, za, Chg.of_ext HXN.out⟩ (fun hHeld => ?_)
        clear hK K
        try simp only [Act.put, List.getElem_toArray, List.getElem_cons_succ, List.getElem_cons_zero, List.setIfInBounds_toArray, List.set_cons_zero, List.set_cons_succ]
        refine wpAnyH_take (i := 15) (v := ?_) rfl (by kernel_rfl) (by kernel_rfl) (by kernel_rfl) (fun _ _ _ h => h) (Or.inl ⟨by rfl, ?_⟩) (by assumption) ?_
        rotate_left
        · (intro w9 hSw; (try dsimp only at hSw); go_simp; try with_reducible rfl)
        try simp only [Act.put, List.getElem_toArray, List.getElem_cons_succ, List.getElem_cons_zero, List.setIfInBounds_toArray, List.set_cons_zero, List.set_cons_succ]
        refine wpAnyH_ready (rs := [16]) (by kernel_rfl) (by simp) ?_
        refine AllReadyH.cons rfl (fun K hK => ?_) AllReadyH.nil
        (try dsimp only at hHeld)
        go_simp
        have hchS : Chg [gl] wn (wn.setCell ⟨gl, x, none⟩ (.slice a5 n5 c5)) := chg_one _ _ _ _
        have hchw11 : Chg [gl] w10 (wn.setCell ⟨gl, x, none⟩ (.slice a5 n5 c5)) := (Chg.of_ext HXN.out).trans hchS
        refine hK.out _ _ ⟨chg_cellc hchS zc (by have := HGN.out; simp; omega), chg_cellc hchS za (by have := HGN.out; simp; omega), hchw11⟩ (fun hHeld => ?_)
        clear hK K hchS hHeld zv zf zc za
        try simp only [Act.put, List.getElem_toArray, List.getElem_cons_succ, List.getElem_cons_zero, List.setIfInBounds_toArray, List.set_cons_zero, List.set_cons_succ]
        refine wpAnyH_done (by kernel_rfl) ?_ _
        refine NoPanic.normal ?_
        generalize (wn.setCell ⟨gl, x, none⟩ (.slice a5 n5 c5)) = w11 at *
        have H4w11 := Lib.hid ((hchw11.block q4 (Array.getElem?_eq_some_iff.1 H4w10.out).1 (by have := HGN.out; simp; omega)).trans H4w10.out)
        have H5w11 := Lib.hid ((hchw11.block q5 (Array.getElem?_eq_some_iff.1 H5w10.out).1 (by have := HGN.out; simp; omega)).trans H5w10.out)
        have CHw11 : Hid (Chg [gl] w w11) := Lib.hid (CHw10.out.trans hchw11)
        have GGw11 : Hid (∀ f ∈ q4 :: q5 :: G, f < w11.heap.size) := Lib.hid (fun f hf => Nat.lt_of_lt_of_le (GGw10.out f hf) hchw11.size)
        replace a0 := chg_cellc hchw11 a0 (by have := HGN.out; simp; omega)
        replace a1 := chg_cellc hchw11 a1 (by have := HGN.out; simp; omega)
        replace c3 := chg_cellc hchw11 c3 (by have := HGN.out; simp; omega)
        clear hchw11 k1 f1 HXN
        have y0 := cell_of_row w11 q4 0 _ _ _ H4w11.out
        have y1 := cell_of_row w11 q4 1 _ _ _ H4w11.out
        have y2 := cell_of_row w11 q4 2 _ _ _ H4w11.out
        have y3 := cell_of_row w11 q4 3 _ _ _ H4w11.out
        have y4 := cell_of_row w11 q4 4 _ _ _ H4w11.out
        simp only [List.getElem?_toArray, List.getElem?_cons_zero, List.getElem?_cons_succ] at y0 y1 y2 y3 y4
        have g0 := frozen_row H4w11.out 0
        have g1 := frozen_row H4w11.out 1
        have g2 := frozen_row H4w11.out 2
        have g3 := frozen_row H4w11.out 3
        have g4 := frozen_row H4w11.out 4
        have e0 := cell_of_row w11 q5 0 _ _ _ H5w11.out
        have e1 := cell_of_row w11 q5 1 _ _ _ H5w11.out
        have e2 := cell_of_row w11 q5 2 _ _ _ H5w11.out
        have e3 := cell_of_row w11 q5 3 _ _ _ H5w11.out
        have e4 := cell_of_row w11 q5 4 _ _ _ H5w11.out
        simp at e0 e1 e2 e3 e4
        have FIN : Hid (∀ v0 v1 v2 v3 v4, RcAt (((((w11.setCell ⟨q4, 0, none⟩ v0).setCell ⟨q4, 1, none⟩ v1).setCell ⟨q4, 2, none⟩ v2).setCell ⟨q4, 3, none⟩ v3).setCell ⟨q4, 4, none⟩ v4) G px gl (.slice (some ⟨hb9, ho9, none⟩) n hcp) gp n t F L c M LSF ∧ Chg [gl] w (((((w11.setCell ⟨q4, 0, none⟩ v0).setCell ⟨q4, 1, none⟩ v1).setCell ⟨q4, 2, none⟩ v2).setCell ⟨q4, 3, none⟩ v3).setCell ⟨q4, 4, none⟩ v4)) := Lib.hid (fun v0 v1 v2 v3 v4 => ⟨by
          have h9 := rc_new5 HCw11.out HGN.out.2.1 HGN.out.1 v0 v1 v2 v3 v4
          have e9 : LSF = (Ls.set x (remP LX vi)).set x (kb :: remP LX vi) := by
            rw [HLSF.out]
            rw [if_pos his, HT.out, List.set_set]
          rw [e9]
          exact h9, chg_new5 CHw11.out (by have := HQ.out; omega) v0 v1 v2 v3 v4⟩)
        go_wp2_with fail
        refine bodyPost_ret (results_cell_row rfl _ _ q4 _ _ _ _ rfl (fill5w H4w11.out _ _ _ _ _) Try.underlying53 rfl went15_info) rfl ?_
        exact ⟨rfl, FIN.out _ _ _ _ _⟩
      | true =>
        obtain rfl : f9 = ((vi : Nat) : Int) := by have h9 := HVI.out; simp at h9; exact h9.symm
        have e1 := cell_of_row w7 q5 1 _ _ _ H56n.out
        simp at e1
        have fz1 := frozen_row H56n.out 1
        clear HVI
        go_upto_region 18 with fail
        have hcS : Chg [q5] w7 (w7.setCell ⟨q5, 1, none⟩ (.int .i64 (vi : Nat))) := chg_one _ _ _ _
        have H56nn := Lib.hid (heap_set (o := 1) H56n.out (.int .i64 (vi : Nat)))
        have H46nn := Lib.hid ((Below.heap_setCell w7 ⟨q5, 1, none⟩ (.int .i64 (vi : Nat)) q4 (by have := HGN.out; simp; omega)).trans H46n.out)
        have HC6nn := Lib.hid (HC6n.out.off (q := q5) (by simp) HGN.out.2.2.1 1 (.int .i64 (vi : Nat)))
        have HCH6nn : Hid (Chg [gl] w (w7.setCell ⟨q5, 1, none⟩ (.int .i64 (vi : Nat)))) := Lib.hid (HCH6n.out.setCell (.inr HQ5.out.2.2) _)
        replace c0 := chg_cellc hcS c0 (by have := HGN.out; simp; omega)
        replace c3 := chg_cellc hcS c3 (by have := HGN.out; simp; omega)
        replace a0 := chg_cellc hcS a0 (by have := HGN.out; simp; omega)
        replace a1 := chg_cellc hcS a1 (by have := HGN.out; simp; omega)
        replace k1 := chg_cellc hcS k1 (by have := HGN.out; simp; omega)
        clear hcS
        have GG8 : Hid (∀ f ∈ q4 :: q5 :: G, f < (w7.setCell ⟨q5, 1, none⟩ (.int .i64 (vi : Nat))).heap.size) := Lib.hid (fun f hf => by have := GG7.out f hf; simp; omega)
        generalize (w7.setCell ⟨q5, 1, none⟩ (.int .i64 (vi : Nat))) = w8 at *
        clear e1 fz1
        have e2 := cell_of_row w8 q5 2 _ _ _ H56nn.out
        simp at e2
        have fz2 := frozen_row H56nn.out 2
        go_upto_region 19 with fail
        have hcS : Chg [q5] w8 (w8.setCell ⟨q5, 2, none⟩ (.bool true)) := chg_one _ _ _ _
        have H56nnn := Lib.hid (heap_set (o := 2) H56nn.out (.bool true))
        have H46nnn := Lib.hid ((Below.heap_setCell w8 ⟨q5, 2, none⟩ (.bool true) q4 (by have := HGN.out; simp; omega)).trans H46nn.out)
        have HC6nnn := Lib.hid (HC6nn.out.off (q := q5) (by simp) HGN.out.2.2.1 2 (.bool true))
        have HCH6nnn : Hid (Chg [gl] w (w8.setCell ⟨q5, 2, none⟩ (.bool true))) := Lib.hid (HCH6nn.out.setCell (.inr HQ5.out.2.2) _)
        replace c0 := chg_cellc hcS c0 (by have := HGN.out; simp; omega)
        replace c3 := chg_cellc hcS c3 (by have := HGN.out; simp; omega)
        replace a0 := chg_cellc hcS a0 (by have := HGN.out; simp; omega)
        replace a1 := chg_cellc hcS a1 (by have := HGN.out; simp; omega)
        clear hcS
        have GG9 : Hid (∀ f ∈ q4 :: q5 :: G, f < (w8.setCell ⟨q5, 2, none⟩ (.bool true)).heap.size) := Lib.hid (fun f hf => by have := GG8.out f hf; simp; omega)
        generalize (w8.setCell ⟨q5, 2, none⟩ (.bool true)) = w9 at *
        clear e2 fz2 k1
        have e1 := cell_of_row w9 q5 1 _ _ _ H56nnn.out
        simp at e1
        clear f1
        obtain ⟨⟨vn, k1, hvn⟩, f1⟩ := HC6nnn.out.at hxn
        obtain ⟨avn, nvn, cvn, rfl⟩ : ∃ a n c, vn = .slice a n c := by obtain ⟨a, c, h9, _⟩ := hvn.parts; exact ⟨a, _, c, h9⟩
        rw [← HLX.out] at hvn
        have Hvn := Lib.hid hvn
        clear hvn
        go_upto_region 19 with fail
        refine wp_region_noPanic ?_
        refine wp_region_held_drew (S := (fun w' => w'.cell? ⟨px, 3, none⟩ = some (.slice (some ⟨gl, 0, none⟩) n cap) ∧ w'.cell? ⟨q5, 1, none⟩ = some (.int .i64 ((vi : Nat) : Int)) ∧ Chg [gl] w9 w')) (by kernel_rfl) ?_ (fun hHeld => ?_)
        · try dsimp only
          exact ⟨chg_cellc (S := [gl]) (w := w9) (by repeat' (first | (with_reducible exact Chg.refl _ _) | (with_reducible assumption) | (with_reducible refine Chg.drewN ?_ _) | (with_reducible refine Chg.drew ?_) | (with_reducible refine Chg.alloc ?_ _) | (with_reducible refine Chg.setCell ?_ (.inl (by simp)) _) | (with_reducible refine Chg.trans ?_ (by assumption)) | (with_reducible refine Chg.ext ?_ (by assumption)))) c3 (by have := HGN.out; simp; omega), chg_cellc (S := [gl]) (w := w9) (by repeat' (first | (with_reducible exact Chg.refl _ _) | (with_reducible assumption) | (with_reducible refine Chg.drewN ?_ _) | (with_reducible refine Chg.drew ?_) | (with_reducible refine Chg.alloc ?_ _) | (with_reducible refine Chg.setCell ?_ (.inl (by simp)) _) | (with_reducible refine Chg.trans ?_ (by assumption)) | (with_reducible refine Chg.ext ?_ (by assumption)))) e1 (by have := HGN.out; simp; omega), (by repeat' (first | (with_reducible exact Chg.refl _ _) | (with_reducible assumption) | (with_reducible refine Chg.drewN ?_ _) | (with_reducible refine Chg.drew ?_) | (with_reducible refine Chg.alloc ?_ _) | (with_reducible refine Chg.setCell ?_ (.inl (by simp)) _) | (with_reducible refine Chg.trans ?_ (by assumption)) | (with_reducible refine Chg.ext ?_ (by assumption))))⟩
        refine wpAnyH_take (i := 0) (v := ?_) rfl (by kernel_rfl) (by kernel_rfl) (by kernel_rfl) (fun _ _ _ h => h) (Or.inl ⟨by rfl, ?_⟩) (by assumption) ?_
        rotate_left
        · (intro w9 hSw; (try dsimp only at hSw); go_simp; try with_reducible rfl)
        try simp only [Act.put, List.getElem_toArray, List.getElem_cons_zero, List.setIfInBounds_toArray, List.set_cons_zero, List.set_cons_succ]
        refine wpAnyH_take (i := 1) (v := ?_) rfl (by kernel_rfl) (by kernel_rfl) (by kernel_rfl) (fun _ _ _ h => h) (Or.inl ⟨by rfl, ?_⟩) (by assumption) ?_
        rotate_left
        · (intro w9 hSw; (try dsimp only at hSw); go_simp; try with_reducible rfl)
        try simp only [Act.put, List.getElem_toArray, List.getElem_cons_succ, List.getElem_cons_zero, List.setIfInBounds_toArray, List.set_cons_zero, List.set_cons_succ]
        refine wpAnyH_take (i := 2) (v := ?_) rfl (by kernel_rfl) (by kernel_rfl) (by kernel_rfl) (fun _ _ _ h => h) (Or.inl ⟨by rfl, ?_⟩) (by assumption) ?_
        rotate_left
        · (intro w9 hSw; (try dsimp only at hSw); go_simp; try with_reducible rfl)
        try simp only [Act.put, List.getElem_toArray, List.getElem_cons_succ, List.getElem_cons_zero, List.setIfInBounds_toArray, List.set_cons_zero, List.set_cons_succ]
        refine wpAnyH_take (i := 3) (v := ?_) rfl (by kernel_rfl) (by kernel_rfl) (by kernel_rfl) (fun _ _ _ h => h) (Or.inl ⟨by rfl, ?_⟩) (by assumption) ?_
        rotate_left
        · (intro w9 hSw; (try dsimp only at hSw); go_simp; try with_reducible rfl)
        try simp only [Act.put, List.getElem_toArray, List.getElem_cons_succ, List.getElem_cons_zero, List.setIfInBounds_toArray, List.set_cons_zero, List.set_cons_succ]
        refine wpAnyH_take (i := 4) (v := ?_) rfl (by kernel_rfl) (by kernel_rfl) (by kernel_rfl) (fun _ _ _ h => h) (Or.inl ⟨by rfl, ?_⟩) (by assumption) ?_
        rotate_left
        · (intro w9 hSw; (try dsimp only at hSw); go_simp; try with_reducible rfl)
        try simp only [Act.put, List.getElem_toArray, List.getElem_cons_succ, List.getElem_cons_zero, List.setIfInBounds_toArray, List.set_cons_zero, List.set_cons_succ]
        refine wpAnyH_take (i := 5) (v := ?_) rfl (by kernel_rfl) (by kernel_rfl) (by kernel_rfl) (fun _ _ _ h => h) (Or.inl ⟨by rfl, ?_⟩) (by assumption) ?_
        rotate_left
        · (intro w9 hSw; (try dsimp only at hSw); go_simp; try with_reducible rfl)
        try simp only [Act.put, List.getElem_toArray, List.getElem_cons_succ, List.getElem_cons_zero, List.setIfInBounds_toArray, List.set_cons_zero, List.set_cons_succ]
        refine wpAnyH_take (i := 6) (v := ?_) rfl (by kernel_rfl) (by kernel_rfl) (by kernel_rfl) (fun _ _ _ h => h) (Or.inl ⟨by rfl, ?_⟩) (by assumption) ?_
        rotate_left
        · (intro w9 hSw; (try dsimp only at hSw); go_simp; try with_reducible rfl)
        try simp only [Act.put, List.getElem_toArray, List.getElem_cons_succ, List.getElem_cons_zero, List.setIfInBounds_toArray, List.set_cons_zero, List.set_cons_succ]
        refine wpAnyH_take (i := 7) (v := ?_) rfl (by kernel_rfl) (by kernel_rfl) (by kernel_rfl) (fun _ _ _ h => h) (Or.inl ⟨by rfl, ?_⟩) (by assumption) ?_
        rotate_left
        · (intro w9 hSw; (try dsimp only at hSw); go_simp; try with_reducible rfl)
        try simp only [Act.put, List.getElem_toArray, List.getElem_cons_succ, List.getElem_cons_zero, List.setIfInBounds_toArray, List.set_cons_zero, List.set_cons_succ]
        refine wpAnyH_take (i := 8) (v := ?_) rfl (by kernel_rfl) (by kernel_rfl) (by kernel_rfl) (fun _ _ _ h => h) (Or.inl ⟨by rfl, ?_⟩) (by assumption) ?_
        rotate_left
        · (intro w9 hSw; (try dsimp only at hSw); go_simp; try with_reducible rfl)
        try simp only [Act.put, List.getElem_toArray, List.getElem_cons_succ, List.getElem_cons_zero, List.setIfInBounds_toArray, List.set_cons_zero, List.set_cons_succ]
        refine wpAnyH_take (i := 9) (v := ?_) rfl (by kernel_rfl) (by kernel_rfl) (by kernel_rfl) (fun _ _ _ h => h) (Or.inl ⟨by rfl, ?_⟩) (by assumption) ?_
        rotate_left
        · (intro w9 hSw; (try dsimp only at hSw); go_simp; try with_reducible rfl)
        try simp only [Act.put, List.getElem_toArray, List.getElem_cons_succ, List.getElem_cons_zero, List.setIfInBounds_toArray, List.set_cons_zero, List.set_cons_succ]
        refine wpAnyH_take (i := 10) (v := ?_) rfl (by kernel_rfl) (by kernel_rfl) (by kernel_rfl) (fun _ _ _ h => h) (Or.inl ⟨by rfl, ?_⟩) (by assumption) ?_
        rotate_left
        · (intro w9 hSw; (try dsimp only at hSw); go_simp; try with_reducible rfl)
        try simp only [Act.put, List.getElem_toArray, List.getElem_cons_succ, List.getElem_cons_zero, List.setIfInBounds_toArray, List.set_cons_zero, List.set_cons_succ]
        refine wpAnyH_take (i := 12) (v := ?_) rfl (by kernel_rfl) (by kernel_rfl) (by kernel_rfl) (fun _ _ _ h => h) (Or.inl ⟨by rfl, ?_⟩) (by assumption) ?_
        rotate_left
        · (intro w9 hSw; (try dsimp only at hSw); go_simp; try with_reducible rfl)
        try simp only [Act.put, List.getElem_toArray, List.getElem_cons_succ, List.getElem_cons_zero, List.setIfInBounds_toArray, List.set_cons_zero, List.set_cons_succ]
        refine wpAnyH_take (i := 13) (v := ?_) rfl (by kernel_rfl) (by kernel_rfl) (by kernel_rfl) (fun _ _ _ h => h) (Or.inl ⟨by rfl, ?_⟩) (by assumption) ?_
        rotate_left
        · (intro w9 hSw; (try dsimp only at hSw); go_simp; try with_reducible rfl)
        try simp only [Act.put, List.getElem_toArray, List.getElem_cons_succ, List.getElem_cons_zero, List.setIfInBounds_toArray, List.set_cons_zero, List.set_cons_succ]
        refine wpAnyH_ready (rs := [11]) (by kernel_rfl) (by simp) ?_
        refine AllReadyH.cons rfl (fun K hK => ?_) AllReadyH.nil
        (try dsimp only at hHeld)
        go_simp
        refine hK.out _ _ ⟨chg_cellc (S := [gl]) (w := w9) (by repeat' (first | (with_reducible exact Chg.refl _ _) | (with_reducible assumption) | (with_reducible refine Chg.drewN ?_ _) | (with_reducible refine Chg.drew ?_) | (with_reducible refine Chg.alloc ?_ _) | (with_reducible refine Chg.setCell ?_ (.inl (by simp)) _) | (with_reducible refine Chg.trans ?_ (by assumption)) | (with_reducible refine Chg.ext ?_ (by assumption)))) c3 (by have := HGN.out; simp; omega), chg_cellc (S := [gl]) (w := w9) (by repeat' (first | (with_reducible exact Chg.refl _ _) | (with_reducible assumption) | (with_reducible refine Chg.drewN ?_ _) | (with_reducible refine Chg.drew ?_) | (with_reducible refine Chg.alloc ?_ _) | (with_reducible refine Chg.setCell ?_ (.inl (by simp)) _) | (with_reducible refine Chg.trans ?_ (by assumption)) | (with_reducible refine Chg.ext ?_ (by assumption)))) e1 (by have := HGN.out; simp; omega), (by repeat' (first | (with_reducible exact Chg.refl _ _) | (with_reducible assumption) | (with_reducible refine Chg.drewN ?_ _) | (with_reducible refine Chg.drew ?_) | (with_reducible refine Chg.alloc ?_ _) | (with_reducible refine Chg.setCell ?_ (.inl (by simp)) _) | (with_reducible refine Chg.trans ?_ (by assumption)) | (with_reducible refine Chg.ext ?_ (by assumption))))⟩ (fun hHeld => ?_)
        clear hK K
        try simp only [Act.put, List.getElem_toArray, List.getElem_cons_succ, List.getElem_cons_zero, List.setIfInBounds_toArray, List.set_cons_zero, List.set_cons_succ]
        refine wpAnyH_ready (rs := [14]) (by kernel_rfl) (by simp) ?_
        refine AllReadyH.cons rfl (fun K hK => ?_) AllReadyH.nil
        (try dsimp only at hHeld)
        go_simp
        go_at_call 38
        refine (without_any _ (asInts LX) (vi : Nat) _ (Hvn.out.ext (by repeat' (first | (with_reducible exact Ext.refl _) | (with_reducible assumption) | (with_reducible refine Ext.alloc ?_ _) | (with_reducible refine Ext.drewN ?_ _) | (with_reducible refine Ext.drew ?_) | (with_reducible refine Ext.trans ?_ (by assumption))))) (fits_small (by rw [asL, ← HNL.out]; omega))).mono ?_
        rintro e wn ⟨v2, rfl, ho2, hx2⟩
        obtain ⟨a5, c5, hv5, _, _, _, _⟩ := ho2.rd.parts
        obtain ⟨n5, hn5⟩ : ∃ n5, v2 = .slice a5 n5 c5 := ⟨_, hv5⟩
        clear hv5
        subst hn5
        have hxn9 : Ext w9 wn := (by repeat' (first | (with_reducible exact Ext.refl _) | (with_reducible assumption) | (with_reducible refine Ext.alloc ?_ _) | (with_reducible refine Ext.drewN ?_ _) | (with_reducible refine Ext.drew ?_) | (with_reducible refine Ext.trans ?_ (by assumption))))
        have hset := RcAt.set (HC6nnn.out.ext hxn9) hxn (HLE.out) (v := .slice a5 n5 c5) (L' := remP LX vi) (by have h9 := ho2.rd; rw [wo_rem] at h9; exact h9) (fun _ z hz hm => by have h1 := (ho2.lt z hz).1; have h2 := GG9.out z hm; simp at h1; omega)
        have HCw10 := Lib.hid hset
        have zv := hxn9.cellv k1
        have zf := Ext.frzd hxn9 k1 f1
        have zc := hxn9.cellv c3
        have za := hxn9.cellv e1
        have HXN := Lib.hid hxn9
        clear hset ho2 hx2
        try go_wp2_with fail
        refine hK.out _ _ ⟨zc, za, Chg.of_ext HXN.out⟩ (fun hHeld => ?_)
        clear hK K
        try simp only [Act.put, List.getElem_toArray, List.getElem_cons_succ, List.getElem_cons_zero, List.setIfInBounds_toArray, List.set_cons_zero, List.set_cons_succ]
        refine wpAnyH_take (i := 15) (v := ?_) rfl (by kernel_rfl) (by kernel_rfl) (by kernel_rfl) (fun _ _ _ h => h) (Or.inl ⟨by rfl, ?_⟩) (by assumption) ?_
        rotate_left
        · (intro w9 hSw; (try dsimp only at hSw); go_simp; try with_reducible rfl)
        try simp only [Act.put, List.getElem_toArray, List.getElem_cons_succ, List.getElem_cons_zero, List.setIfInBounds_toArray, List.set_cons_zero, List.set_cons_succ]
        refine wpAnyH_ready (rs := [16]) (by kernel_rfl) (by simp) ?_
        refine AllReadyH.cons rfl (fun K hK => ?_) AllReadyH.nil
        (try dsimp only at hHeld)
        go_simp
        have hchS : Chg [gl] wn (wn.setCell ⟨gl, x, none⟩ (.slice a5 n5 c5)) := chg_one _ _ _ _
        have hchw10 : Chg [gl] w9 (wn.setCell ⟨gl, x, none⟩ (.slice a5 n5 c5)) := (Chg.of_ext HXN.out).trans hchS
        refine hK.out _ _ ⟨chg_cellc hchS zc (by have := HGN.out; simp; omega), chg_cellc hchS za (by have := HGN.out; simp; omega), hchw10⟩ (fun hHeld => ?_)
        clear hK K hchS hHeld zv zf zc za
        try simp only [Act.put, List.getElem_toArray, List.getElem_cons_succ, List.getElem_cons_zero, List.setIfInBounds_toArray, List.set_cons_zero, List.set_cons_succ]
        refine wpAnyH_done (by kernel_rfl) ?_ _
        refine NoPanic.normal ?_
        generalize (wn.setCell ⟨gl, x, none⟩ (.slice a5 n5 c5)) = w10 at *
        have H4w10 := Lib.hid ((hchw10.block q4 (Array.getElem?_eq_some_iff.1 H46nnn.out).1 (by have := HGN.out; simp; omega)).trans H46nnn.out)
        have H5w10 := Lib.hid ((hchw10.block q5 (Array.getElem?_eq_some_iff.1 H56nnn.out).1 (by have := HGN.out; simp; omega)).trans H56nnn.out)
        have CHw10 : Hid (Chg [gl] w w10) := Lib.hid (HCH6nnn.out.trans hchw10)
        have GGw10 : Hid (∀ f ∈ q4 :: q5 :: G, f < w10.heap.size) := Lib.hid (fun f hf => Nat.lt_of_lt_of_le (GG9.out f hf) hchw10.size)
        replace a0 := chg_cellc hchw10 a0 (by have := HGN.out; simp; omega)
        replace a1 := chg_cellc hchw10 a1 (by have := HGN.out; simp; omega)
        replace c3 := chg_cellc hchw10 c3 (by have := HGN.out; simp; omega)
        clear hchw10 k1 f1 HXN
        obtain ⟨⟨vm, k1, hvm⟩, f1⟩ := HCw10.out.at hxn
        rw [getD_set (by rw [HLE.out]; omega), if_pos rfl] at hvm
        obtain ⟨avm, nvm, cvm, rfl⟩ : ∃ a n c, vm = .slice a n c := by obtain ⟨a, c, h9, _⟩ := hvm.parts; exact ⟨a, _, c, h9⟩
        have Hvm := Lib.hid hvm
        have hrl := rem_len LX vi
        have hrl2 : (remP LX vi).length ≤ 100 := by have := HNL.out; omega
        clear hvm e1
        go_upto_region 20 with fail
        refine wp_region_noPanic ?_
        refine wp_region_held_drew (S := (fun w' => w'.cell? ⟨px, 3, none⟩ = some (.slice (some ⟨gl, 0, none⟩) n cap) ∧ w'.cell? ⟨pa, 1, none⟩ = some (.int .i64 ((kb : Nat) : Int)) ∧ Chg [gl] w10 w')) (by kernel_rfl) ?_ (fun hHeld => ?_)
        · try dsimp only
          exact ⟨chg_cellc (S := [gl]) (w := w10) (by repeat' (first | (with_reducible exact Chg.refl _ _) | (with_reducible assumption) | (with_reducible refine Chg.drewN ?_ _) | (with_reducible refine Chg.drew ?_) | (with_reducible refine Chg.alloc ?_ _) | (with_reducible refine Chg.setCell ?_ (.inl (by simp)) _) | (with_reducible refine Chg.trans ?_ (by assumption)) | (with_reducible refine Chg.ext ?_ (by assumption)))) c3 (by have := HGN.out; simp; omega), chg_cellc (S := [gl]) (w := w10) (by repeat' (first | (with_reducible exact Chg.refl _ _) | (with_reducible assumption) | (with_reducible refine Chg.drewN ?_ _) | (with_reducible refine Chg.drew ?_) | (with_reducible refine Chg.alloc ?_ _) | (with_reducible refine Chg.setCell ?_ (.inl (by simp)) _) | (with_reducible refine Chg.trans ?_ (by assumption)) | (with_reducible refine Chg.ext ?_ (by assumption)))) a1 (by have := HGN.out; simp; omega), (by repeat' (first | (with_reducible exact Chg.refl _ _) | (with_reducible assumption) | (with_reducible refine Chg.drewN ?_ _) | (with_reducible refine Chg.drew ?_) | (with_reducible refine Chg.alloc ?_ _) | (with_reducible refine Chg.setCell ?_ (.inl (by simp)) _) | (with_reducible refine Chg.trans ?_ (by assumption)) | (with_reducible refine Chg.ext ?_ (by assumption))))⟩
        refine wpAnyH_take (i := 0) (v := ?_) rfl (by kernel_rfl) (by kernel_rfl) (by kernel_rfl) (fun _ _ _ h => h) (Or.inl ⟨by rfl, ?_⟩) (by assumption) ?_
        rotate_left
        · (intro w9 hSw; (try dsimp only at hSw); go_simp; try with_reducible rfl)
        try simp only [Act.put, List.getElem_toArray, List.getElem_cons_zero, List.setIfInBounds_toArray, List.set_cons_zero, List.set_cons_succ]
        refine wpAnyH_take (i := 1) (v := ?_) rfl (by kernel_rfl) (by kernel_rfl) (by kernel_rfl) (fun _ _ _ h => h) (Or.inl ⟨by rfl, ?_⟩) (by assumption) ?_
        rotate_left
        · (intro w9 hSw; (try dsimp only at hSw); go_simp; try with_reducible rfl)
        try simp only [Act.put, List.getElem_toArray, List.getElem_cons_succ, List.getElem_cons_zero, List.setIfInBounds_toArray, List.set_cons_zero, List.set_cons_succ]
        refine wpAnyH_take (i := 2) (v := ?_) rfl (by kernel_rfl) (by kernel_rfl) (by kernel_rfl) (fun _ _ _ h => h) (Or.inl ⟨by rfl, ?_⟩) (by assumption) ?_
        rotate_left
        · (intro w9 hSw; (try dsimp only at hSw); go_simp; try with_reducible rfl)
        try simp only [Act.put, List.getElem_toArray, List.getElem_cons_succ, List.getElem_cons_zero, List.setIfInBounds_toArray, List.set_cons_zero, List.set_cons_succ]
        refine wpAnyH_take (i := 3) (v := ?_) rfl (by kernel_rfl) (by kernel_rfl) (by kernel_rfl) (fun _ _ _ h => h) (Or.inl ⟨by rfl, ?_⟩) (by assumption) ?_
        rotate_left
        · (intro w9 hSw; (try dsimp only at hSw); go_simp; try with_reducible rfl)
        try simp only [Act.put, List.getElem_toArray, List.getElem_cons_succ, List.getElem_cons_zero, List.setIfInBounds_toArray, List.set_cons_zero, List.set_cons_succ]
        refine wpAnyH_take (i := 4) (v := ?_) rfl (by kernel_rfl) (by kernel_rfl) (by kernel_rfl) (fun _ _ _ h => h) (Or.inl ⟨by rfl, ?_⟩) (by assumption) ?_
        rotate_left
        · (intro w9 hSw; (try dsimp only at hSw); go_simp; try with_reducible rfl)
        try simp only [Act.put, List.getElem_toArray, List.getElem_cons_succ, List.getElem_cons_zero, List.setIfInBounds_toArray, List.set_cons_zero, List.set_cons_succ]
        refine wpAnyH_take (i := 5) (v := ?_) rfl (by kernel_rfl) (by kernel_rfl) (by kernel_rfl) (fun _ _ _ h => h) (Or.inl ⟨by rfl, ?_⟩) (by assumption) ?_
        rotate_left
        · (intro w9 hSw; (try dsimp only at hSw); go_simp; try with_reducible rfl)
        try simp only [Act.put, List.getElem_toArray, List.getElem_cons_succ, List.getElem_cons_zero, List.setIfInBounds_toArray, List.set_cons_zero, List.set_cons_succ]
        refine wpAnyH_take (i := 6) (v := ?_) rfl (by kernel_rfl) (by kernel_rfl) (by kernel_rfl) (fun _ _ _ h => h) (Or.inl ⟨by rfl, ?_⟩) (by assumption) ?_
        rotate_left
        · (intro w9 hSw; (try dsimp only at hSw); go_simp; try with_reducible rfl)
        try simp only [Act.put, List.getElem_toArray, List.getElem_cons_succ, List.getElem_cons_zero, List.setIfInBounds_toArray, List.set_cons_zero, List.set_cons_succ]
        refine wpAnyH_take (i := 7) (v := ?_) rfl (by kernel_rfl) (by kernel_rfl) (by kernel_rfl) (fun _ _ _ h => h) (Or.inl ⟨by rfl, ?_⟩) (by assumption) ?_
        rotate_left
        · (intro w9 hSw; (try dsimp only at hSw); go_simp; try with_reducible rfl)
        try simp only [Act.put, List.getElem_toArray, List.getElem_cons_succ, List.getElem_cons_zero, List.setIfInBounds_toArray, List.set_cons_zero, List.set_cons_succ]
        refine wpAnyH_take (i := 8) (v := ?_) rfl (by kernel_rfl) (by kernel_rfl) (by kernel_rfl) (fun _ _ _ h => h) (Or.inl ⟨by rfl, ?_⟩) (by assumption) ?_
        rotate_left
        · (intro w9 hSw; (try dsimp only at hSw); go_simp; try with_reducible rfl)
        try simp only [Act.put, List.getElem_toArray, List.getElem_cons_succ, List.getElem_cons_zero, List.setIfInBounds_toArray, List.set_cons_zero, List.set_cons_succ]
        refine wpAnyH_take (i := 9) (v := ?_) rfl (by kernel_rfl) (by kernel_rfl) (by kernel_rfl) (fun _ _ _ h => h) (Or.inl ⟨by rfl, ?_⟩) (by assumption) ?_
        rotate_left
        · (intro w9 hSw; (try dsimp only at hSw); go_simp; try with_reducible rfl)
        try simp only [Act.put, List.getElem_toArray, List.getElem_cons_succ, List.getElem_cons_zero, List.setIfInBounds_toArray, List.set_cons_zero, List.set_cons_succ]
        refine wpAnyH_take (i := 10) (v := ?_) rfl (by kernel_rfl) (by kernel_rfl) (by kernel_rfl) (fun _ _ _ h => h) (Or.inl ⟨by rfl, ?_⟩) (by assumption) ?_
        rotate_left
        · (intro w9 hSw; (try dsimp only at hSw); go_simp; try with_reducible rfl)
        try simp only [Act.put, List.getElem_toArray, List.getElem_cons_succ, List.getElem_cons_zero, List.setIfInBounds_toArray, List.set_cons_zero, List.set_cons_succ]
        refine wpAnyH_take (i := 12) (v := ?_) rfl (by kernel_rfl) (by kernel_rfl) (by kernel_rfl) (fun _ _ _ h => h) (Or.inl ⟨by rfl, ?_⟩) (by assumption) ?_
        rotate_left
        · (intro w9 hSw; (try dsimp only at hSw); go_simp; try with_reducible rfl)
        try simp only [Act.put, List.getElem_toArray, List.getElem_cons_succ, List.getElem_cons_zero, List.setIfInBounds_toArray, List.set_cons_zero, List.set_cons_succ]
        refine wpAnyH_take (i := 13) (v := ?_) rfl (by kernel_rfl) (by kernel_rfl) (by kernel_rfl) (fun _ _ _ h => h) (Or.inl ⟨by rfl, ?_⟩) (by assumption) ?_
        rotate_left
        · (intro w9 hSw; (try dsimp only at hSw); go_simp; try with_reducible rfl)
        try simp only [Act.put, List.getElem_toArray, List.getElem_cons_succ, List.getElem_cons_zero, List.setIfInBounds_toArray, List.set_cons_zero, List.set_cons_succ]
        refine wpAnyH_ready (rs := [11]) (by kernel_rfl) (by simp) ?_
        refine AllReadyH.cons rfl (fun K hK => ?_) AllReadyH.nil
        (try dsimp only at hHeld)
        go_simp
        refine hK.out _ _ ⟨chg_cellc (S := [gl]) (w := w10) (by repeat' (first | (with_reducible exact Chg.refl _ _) | (with_reducible assumption) | (with_reducible refine Chg.drewN ?_ _) | (with_reducible refine Chg.drew ?_) | (with_reducible refine Chg.alloc ?_ _) | (with_reducible refine Chg.setCell ?_ (.inl (by simp)) _) | (with_reducible refine Chg.trans ?_ (by assumption)) | (with_reducible refine Chg.ext ?_ (by assumption)))) c3 (by have := HGN.out; simp; omega), chg_cellc (S := [gl]) (w := w10) (by repeat' (first | (with_reducible exact Chg.refl _ _) | (with_reducible assumption) | (with_reducible refine Chg.drewN ?_ _) | (with_reducible refine Chg.drew ?_) | (with_reducible refine Chg.alloc ?_ _) | (with_reducible refine Chg.setCell ?_ (.inl (by simp)) _) | (with_reducible refine Chg.trans ?_ (by assumption)) | (with_reducible refine Chg.ext ?_ (by assumption)))) a1 (by have := HGN.out; simp; omega), (by repeat' (first | (with_reducible exact Chg.refl _ _) | (with_reducible assumption) | (with_reducible refine Chg.drewN ?_ _) | (with_reducible refine Chg.drew ?_) | (with_reducible refine Chg.alloc ?_ _) | (with_reducible refine Chg.setCell ?_ (.inl (by simp)) _) | (with_reducible refine Chg.trans ?_ (by assumption)) | (with_reducible refine Chg.ext ?_ (by assumption))))⟩ (fun hHeld => ?_)
        clear hK K
        try simp only [Act.put, List.getElem_toArray, List.getElem_cons_succ, List.getElem_cons_zero, List.setIfInBounds_toArray, List.set_cons_zero, List.set_cons_succ]
        refine wpAnyH_ready (rs := [14]) (by kernel_rfl) (by simp) ?_
        refine AllReadyH.cons rfl (fun K hK => ?_) AllReadyH.nil
        (try dsimp only at hHeld)
        go_simp
        go_at_call 39
        refine (refahead_any _ (asInts (remP LX vi)) (kb : Nat) _ (Hvm.out.ext (by repeat' (first | (with_reducible exact Ext.refl _) | (with_reducible assumption) | (with_reducible refine Ext.alloc ?_ _) | (with_reducible refine Ext.drewN ?_ _) | (with_reducible refine Ext.drew ?_) | (with_reducible refine Ext.trans ?_ (by assumption))))) (fits_small (by rw [asL]; omega))).mono ?_
        rintro e wn ⟨v2, rfl, ho2, hx2⟩
        obtain ⟨a5, c5, hv5, _, _, _, _⟩ := ho2.rd.parts
        obtain ⟨n5, hn5⟩ : ∃ n5, v2 = .slice a5 n5 c5 := ⟨_, hv5⟩
        clear hv5
        subst hn5
        have hxn9 : Ext w10 wn := (by repeat' (first | (with_reducible exact Ext.refl _) | (with_reducible assumption) | (with_reducible refine Ext.alloc ?_ _) | (with_reducible refine Ext.drewN ?_ _) | (with_reducible refine Ext.drew ?_) | (with_reducible refine Ext.trans ?_ (by assumption))))
        have hset := RcAt.set (HCw10.out.ext hxn9) hxn (by rw [List.length_set]; exact HLE.out) (v := .slice a5 n5 c5) (L' := kb :: remP LX vi) (by have h9 := ho2.rd; exact h9) (fun _ z hz hm => by have h1 := (ho2.lt z hz).1; have h2 := GGw10.out z hm; simp at h1; omega)
        have HCw11 := Lib.hid hset
        have zv := hxn9.cellv k1
        have zf := Ext.frzd hxn9 k1 f1
        have zc := hxn9.cellv c3
        have za := hxn9.cellv a1
        have HXN := Lib.hid hxn9
        clear hset ho2 hx2
        try go_wp2_with fail
        refine hK.out _ _ ⟨zc, za, Chg.of_ext HXN.out⟩ (fun hHeld => ?_)
        clear hK K
        try simp only [Act.put, List.getElem_toArray, List.getElem_cons_succ, List.getElem_cons_zero, List.setIfInBounds_toArray, List.set_cons_zero, List.set_cons_succ]
        refine wpAnyH_take (i := 15) (v := ?_) rfl (by kernel_rfl) (by kernel_rfl) (by kernel_rfl) (fun _ _ _ h => h) (Or.inl ⟨by rfl, ?_⟩) (by assumption) ?_
        rotate_left
        · (intro w9 hSw; (try dsimp only at hSw); go_simp; try with_reducible rfl)
        try simp only [Act.put, List.getElem_toArray, List.getElem_cons_succ, List.getElem_cons_zero, List.setIfInBounds_toArray, List.set_cons_zero, List.set_cons_succ]
        refine wpAnyH_ready (rs := [16]) (by kernel_rfl) (by simp) ?_
        refine AllReadyH.cons rfl (fun K hK => ?_) AllReadyH.nil
        (try dsimp only at hHeld)
        go_simp
        have hchS : Chg [gl] wn (wn.setCell ⟨gl, x, none⟩ (.slice a5 n5 c5)) := chg_one _ _ _ _
        have hchw11 : Chg [gl] w10 (wn.setCell ⟨gl, x, none⟩ (.slice a5 n5 c5)) := (Chg.of_ext HXN.out).trans hchS
        refine hK.out _ _ ⟨chg_cellc hchS zc (by have := HGN.out; simp; omega), chg_cellc hchS za (by have := HGN.out; simp; omega), hchw11⟩ (fun hHeld => ?_)
        clear hK K hchS hHeld zv zf zc za
        try simp only [Act.put, List.getElem_toArray, List.getElem_cons_succ, List.getElem_cons_zero, List.setIfInBounds_toArray, List.set_cons_zero, List.set_cons_succ]
        refine wpAnyH_done (by kernel_rfl) ?_ _
        refine NoPanic.normal ?_
        generalize (wn.setCell ⟨gl, x, none⟩ (.slice a5 n5 c5)) = w11 at *
        have H4w11 := Lib.hid ((hchw11.block q4 (Array.getElem?_eq_some_iff.1 H4w10.out).1 (by have := HGN.out; simp; omega)).trans H4w10.out)
        have H5w11 := Lib.hid ((hchw11.block q5 (Array.getElem?_eq_some_iff.1 H5w10.out).1 (by have := HGN.out; simp; omega)).trans H5w10.out)
        have CHw11 : Hid (Chg [gl] w w11) := Lib.hid (CHw10.out.trans hchw11)
        have GGw11 : Hid (∀ f ∈ q4 :: q5 :: G, f < w11.heap.size) := Lib.hid (fun f hf => Nat.lt_of_lt_of_le (GGw10.out f hf) hchw11.size)
        replace a0 := chg_cellc hchw11 a0 (by have := HGN.out; simp; omega)
        replace a1 := chg_cellc hchw11 a1 (by have := HGN.out; simp; omega)
        replace c3 := chg_cellc hchw11 c3 (by have := HGN.out; simp; omega)
        clear hchw11 k1 f1 HXN
        have y0 := cell_of_row w11 q4 0 _ _ _ H4w11.out
        have y1 := cell_of_row w11 q4 1 _ _ _ H4w11.out
        have y2 := cell_of_row w11 q4 2 _ _ _ H4w11.out
        have y3 := cell_of_row w11 q4 3 _ _ _ H4w11.out
        have y4 := cell_of_row w11 q4 4 _ _ _ H4w11.out
        simp only [List.getElem?_toArray, List.getElem?_cons_zero, List.getElem?_cons_succ] at y0 y1 y2 y3 y4
        have g0 := frozen_row H4w11.out 0
        have g1 := frozen_row H4w11.out 1
        have g2 := frozen_row H4w11.out 2
        have g3 := frozen_row H4w11.out 3
        have g4 := frozen_row H4w11.out 4
        have e0 := cell_of_row w11 q5 0 _ _ _ H5w11.out
        have e1 := cell_of_row w11 q5 1 _ _ _ H5w11.out
        have e2 := cell_of_row w11 q5 2 _ _ _ H5w11.out
        have e3 := cell_of_row w11 q5 3 _ _ _ H5w11.out
        have e4 := cell_of_row w11 q5 4 _ _ _ H5w11.out
        simp at e0 e1 e2 e3 e4
        have FIN : Hid (∀ v0 v1 v2 v3 v4, RcAt (((((w11.setCell ⟨q4, 0, none⟩ v0).setCell ⟨q4, 1, none⟩ v1).setCell ⟨q4, 2, none⟩ v2).setCell ⟨q4, 3, none⟩ v3).setCell ⟨q4, 4, none⟩ v4) G px gl (.slice (some ⟨hb9, ho9, none⟩) n hcp) gp n t F L c M LSF ∧ Chg [gl] w (((((w11.setCell ⟨q4, 0, none⟩ v0).setCell ⟨q4, 1, none⟩ v1).setCell ⟨q4, 2, none⟩ v2).setCell ⟨q4, 3, none⟩ v3).setCell ⟨q4, 4, none⟩ v4)) := Lib.hid (fun v0 v1 v2 v3 v4 => ⟨by
          have h9 := rc_new5 HCw11.out HGN.out.2.1 HGN.out.1 v0 v1 v2 v3 v4
          have e9 : LSF = (Ls.set x (remP LX vi)).set x (kb :: remP LX vi) := by
            rw [HLSF.out]
            rw [if_pos his, HT.out, List.set_set]
          rw [e9]
          exact h9, chg_new5 CHw11.out (by have := HQ.out; omega) v0 v1 v2 v3 v4⟩)
        go_wp2_with fail
        refine bodyPost_ret (results_cell_row rfl _ _ q4 _ _ _ _ rfl (fill5w H4w11.out _ _ _ _ _) Try.underlying53 rfl went15_info) rfl ?_
        exact ⟨rfl, FIN.out _ _ _ _ _⟩
      --]]
    --]]
  ·
    cases hs with
    | true =>
      --[[B
      have his : is = true := by have h9 := HHS.out; cases is with | true => rfl | false => simp at h9
      obtain ⟨hxn, hin⟩ : x < n ∧ HIn F x b := by
        rcases HR.out with ⟨a9, _⟩ | ⟨_, a9⟩
        · rw [his] at a9; cases a9
        · exact a9
      have hxi : (x : Int) < (n : Int) := by omega
      obtain rfl := HGL.out (by omega)
      obtain rfl : r = (x : Nat) := by rw [HRR.out, his]; rfl
      obtain ⟨kb, rfl⟩ : ∃ kb : Nat, b = kb := ⟨b.toNat, by have := (hin_ok HOK.out hxn hin).1; omega⟩
      obtain ⟨LX, hLX⟩ : ∃ y, y = Ls.getD x [] := ⟨_, rfl⟩
      have HLX := Lib.hid hLX
      have hl64 : LX.length ≤ 64 := by rw [hLX]; exact HLL.out x hxn
      have HLE : Hid (Ls.length = n + 1) := HLN
      clear hLX hin
      have hmem : kb ∈ LX := by
        have h9 := HHS.out
        rw [eq_comm, decide_eq_true_eq] at h9
        rw [HLX.out]
        exact h9.2
      obtain ⟨rfl, rfl, rfl, rfl, hT⟩ : V = 0 ∧ Gn = false ∧ W = true ∧ E = 0 ∧ T = (if (2 : Int) < 2 then kb :: remP LX kb else remP LX kb) := by
        have h9 := HRES.out
        unfold doF at h9
        rw [if_neg (by omega), if_pos (by rw [← HLX.out, Int.toNat_natCast]; exact ⟨his, hmem⟩), ← HLX.out, Int.toNat_natCast] at h9
        simp only [Prod.mk.injEq] at h9
        exact ⟨h9.1.symm, h9.2.1.symm, h9.2.2.1.symm, h9.2.2.2.1.symm, h9.2.2.2.2.symm⟩
      have HT := Lib.hid hT
      clear hT hmem
      obtain ⟨⟨vl, k1, hvl⟩, f1⟩ := HC4.out.at hxn
      obtain ⟨avl, nvl, cvl, rfl⟩ : ∃ a n c, vl = .slice a n c := by obtain ⟨a, c, h9, _⟩ := hvl.parts; exact ⟨a, _, c, h9⟩
      rw [← HLX.out] at hvl
      have Hvl := Lib.hid hvl
      clear hvl
      have e0 := cell_of_row w4 q5 0 _ _ _ H54.out
      have e1 := cell_of_row w4 q5 1 _ _ _ H54.out
      have e2 := cell_of_row w4 q5 2 _ _ _ H54.out
      have e3 := cell_of_row w4 q5 3 _ _ _ H54.out
      have e4 := cell_of_row w4 q5 4 _ _ _ H54.out
      simp at e0 e1 e2 e3 e4
      go_upto_region 7 with fail
      refine wp_region_noPanic ?_
      refine wp_region_held_drew (S := (fun w' => w'.cell? ⟨px, 3, none⟩ = some (.slice (some ⟨gl, 0, none⟩) n cap) ∧ w'.cell? ⟨pa, 1, none⟩ = some (.int .i64 ((kb : Nat) : Int)) ∧ Chg [gl] w4 w')) (by kernel_rfl) ?_ (fun hHeld => ?_)
      · try dsimp only
        exact ⟨chg_cellc (S := [gl]) (w := w4) (by repeat' (first | (with_reducible exact Chg.refl _ _) | (with_reducible assumption) | (with_reducible refine Chg.drewN ?_ _) | (with_reducible refine Chg.drew ?_) | (with_reducible refine Chg.alloc ?_ _) | (with_reducible refine Chg.setCell ?_ (.inl (by simp)) _) | (with_reducible refine Chg.trans ?_ (by assumption)) | (with_reducible refine Chg.ext ?_ (by assumption)))) c3 (by have := HGN.out; simp; omega), chg_cellc (S := [gl]) (w := w4) (by repeat' (first | (with_reducible exact Chg.refl _ _) | (with_reducible assumption) | (with_reducible refine Chg.drewN ?_ _) | (with_reducible refine Chg.drew ?_) | (with_reducible refine Chg.alloc ?_ _) | (with_reducible refine Chg.setCell ?_ (.inl (by simp)) _) | (with_reducible refine Chg.trans ?_ (by assumption)) | (with_reducible refine Chg.ext ?_ (by assumption)))) a1 (by have := HGN.out; simp; omega), (by repeat' (first | (with_reducible exact Chg.refl _ _) | (with_reducible assumption) | (with_reducible refine Chg.drewN ?_ _) | (with_reducible refine Chg.drew ?_) | (with_reducible refine Chg.alloc ?_ _) | (with_reducible refine Chg.setCell ?_ (.inl (by simp)) _) | (with_reducible refine Chg.trans ?_ (by assumption)) | (with_reducible refine Chg.ext ?_ (by assumption))))⟩
      refine wpAnyH_take (i := 0) (v := ?_) rfl (by kernel_rfl) (by kernel_rfl) (by kernel_rfl) (fun _ _ _ h => h) (Or.inl ⟨by rfl, ?_⟩) (by assumption) ?_
      rotate_left
      · (intro w9 hSw; (try dsimp only at hSw); go_simp; try with_reducible rfl)
      try simp only [Act.put, List.getElem_toArray, List.getElem_cons_zero, List.setIfInBounds_toArray, List.set_cons_zero, List.set_cons_succ]
      refine wpAnyH_take (i := 1) (v := ?_) rfl (by kernel_rfl) (by kernel_rfl) (by kernel_rfl) (fun _ _ _ h => h) (Or.inl ⟨by rfl, ?_⟩) (by assumption) ?_
      rotate_left
      · (intro w9 hSw; (try dsimp only at hSw); go_simp; try with_reducible rfl)
      try simp only [Act.put, List.getElem_toArray, List.getElem_cons_succ, List.getElem_cons_zero, List.setIfInBounds_toArray, List.set_cons_zero, List.set_cons_succ]
      refine wpAnyH_take (i := 2) (v := ?_) rfl (by kernel_rfl) (by kernel_rfl) (by kernel_rfl) (fun _ _ _ h => h) (Or.inl ⟨by rfl, ?_⟩) (by assumption) ?_
      rotate_left
      · (intro w9 hSw; (try dsimp only at hSw); go_simp; try with_reducible rfl)
      try simp only [Act.put, List.getElem_toArray, List.getElem_cons_succ, List.getElem_cons_zero, List.setIfInBounds_toArray, List.set_cons_zero, List.set_cons_succ]
      refine wpAnyH_take (i := 3) (v := ?_) rfl (by kernel_rfl) (by kernel_rfl) (by kernel_rfl) (fun _ _ _ h => h) (Or.inl ⟨by rfl, ?_⟩) (by assumption) ?_
      rotate_left
      · (intro w9 hSw; (try dsimp only at hSw); go_simp; try with_reducible rfl)
      try simp only [Act.put, List.getElem_toArray, List.getElem_cons_succ, List.getElem_cons_zero, List.setIfInBounds_toArray, List.set_cons_zero, List.set_cons_succ]
      refine wpAnyH_take (i := 4) (v := ?_) rfl (by kernel_rfl) (by kernel_rfl) (by kernel_rfl) (fun _ _ _ h => h) (Or.inl ⟨by rfl, ?_⟩) (by assumption) ?_
      rotate_left
      · (intro w9 hSw; (try dsimp only at hSw); go_simp; try with_reducible rfl)
      try simp only [Act.put, List.getElem_toArray, List.getElem_cons_succ, List.getElem_cons_zero, List.setIfInBounds_toArray, List.set_cons_zero, List.set_cons_succ]
      refine wpAnyH_take (i := 5) (v := ?_) rfl (by kernel_rfl) (by kernel_rfl) (by kernel_rfl) (fun _ _ _ h => h) (Or.inl ⟨by rfl, ?_⟩) (by assumption) ?_
      rotate_left
      · (intro w9 hSw; (try dsimp only at hSw); go_simp; try with_reducible rfl)
      try simp only [Act.put, List.getElem_toArray, List.getElem_cons_succ, List.getElem_cons_zero, List.setIfInBounds_toArray, List.set_cons_zero, List.set_cons_succ]
      refine wpAnyH_take (i := 6) (v := ?_) rfl (by kernel_rfl) (by kernel_rfl) (by kernel_rfl) (fun _ _ _ h => h) (Or.inl ⟨by rfl, ?_⟩) (by assumption) ?_
      rotate_left
      · (intro w9 hSw; (try dsimp only at hSw); go_simp; try with_reducible rfl)
      try simp only [Act.put, List.getElem_toArray, List.getElem_cons_succ, List.getElem_cons_zero, List.setIfInBounds_toArray, List.set_cons_zero, List.set_cons_succ]
      refine wpAnyH_take (i := 7) (v := ?_) rfl (by kernel_rfl) (by kernel_rfl) (by kernel_rfl) (fun _ _ _ h => h) (Or.inl ⟨by rfl, ?_⟩) (by assumption) ?_
      rotate_left
      · (intro w9 hSw; (try dsimp only at hSw); go_simp; try with_reducible rfl)
      try simp only [Act.put, List.getElem_toArray, List.getElem_cons_succ, List.getElem_cons_zero, List.setIfInBounds_toArray, List.set_cons_zero, List.set_cons_succ]
      refine wpAnyH_take (i := 8) (v := ?_) rfl (by kernel_rfl) (by kernel_rfl) (by kernel_rfl) (fun _ _ _ h => h) (Or.inl ⟨by rfl, ?_⟩) (by assumption) ?_
      rotate_left
      · (intro w9 hSw; (try dsimp only at hSw); go_simp; try with_reducible rfl)
      try simp only [Act.put, List.getElem_toArray, List.getElem_cons_succ, List.getElem_cons_zero, List.setIfInBounds_toArray, List.set_cons_zero, List.set_cons_succ]
      refine wpAnyH_take (i := 9) (v := ?_) rfl (by kernel_rfl) (by kernel_rfl) (by kernel_rfl) (fun _ _ _ h => h) (Or.inl ⟨by rfl, ?_⟩) (by assumption) ?_
      rotate_left
      · (intro w9 hSw; (try dsimp only at hSw); go_simp; try with_reducible rfl)
      try simp only [Act.put, List.getElem_toArray, List.getElem_cons_succ, List.getElem_cons_zero, List.setIfInBounds_toArray, List.set_cons_zero, List.set_cons_succ]
      refine wpAnyH_take (i := 10) (v := ?_) rfl (by kernel_rfl) (by kernel_rfl) (by kernel_rfl) (fun _ _ _ h => h) (Or.inl ⟨by rfl, ?_⟩) (by assumption) ?_
      rotate_left
      · (intro w9 hSw; (try dsimp only at hSw); go_simp; try with_reducible rfl)
      try simp only [Act.put, List.getElem_toArray, List.getElem_cons_succ, List.getElem_cons_zero, List.setIfInBounds_toArray, List.set_cons_zero, List.set_cons_succ]
      refine wpAnyH_take (i := 12) (v := ?_) rfl (by kernel_rfl) (by kernel_rfl) (by kernel_rfl) (fun _ _ _ h => h) (Or.inl ⟨by rfl, ?_⟩) (by assumption) ?_
      rotate_left
      · (intro w9 hSw; (try dsimp only at hSw); go_simp; try with_reducible rfl)
      try simp only [Act.put, List.getElem_toArray, List.getElem_cons_succ, List.getElem_cons_zero, List.setIfInBounds_toArray, List.set_cons_zero, List.set_cons_succ]
      refine wpAnyH_take (i := 13) (v := ?_) rfl (by kernel_rfl) (by kernel_rfl) (by kernel_rfl) (fun _ _ _ h => h) (Or.inl ⟨by rfl, ?_⟩) (by assumption) ?_
      rotate_left
      · (intro w9 hSw; (try dsimp only at hSw); go_simp; try with_reducible rfl)
      try simp only [Act.put, List.getElem_toArray, List.getElem_cons_succ, List.getElem_cons_zero, List.setIfInBounds_toArray, List.set_cons_zero, List.set_cons_succ]
      refine wpAnyH_ready (rs := [11]) (by kernel_rfl) (by simp) ?_
      refine AllReadyH.cons rfl (fun K hK => ?_) AllReadyH.nil
      (try dsimp only at hHeld)
      go_simp
      refine hK.out _ _ ⟨chg_cellc (S := [gl]) (w := w4) (by repeat' (first | (with_reducible exact Chg.refl _ _) | (with_reducible assumption) | (with_reducible refine Chg.drewN ?_ _) | (with_reducible refine Chg.drew ?_) | (with_reducible refine Chg.alloc ?_ _) | (with_reducible refine Chg.setCell ?_ (.inl (by simp)) _) | (with_reducible refine Chg.trans ?_ (by assumption)) | (with_reducible refine Chg.ext ?_ (by assumption)))) c3 (by have := HGN.out; simp; omega), chg_cellc (S := [gl]) (w := w4) (by repeat' (first | (with_reducible exact Chg.refl _ _) | (with_reducible assumption) | (with_reducible refine Chg.drewN ?_ _) | (with_reducible refine Chg.drew ?_) | (with_reducible refine Chg.alloc ?_ _) | (with_reducible refine Chg.setCell ?_ (.inl (by simp)) _) | (with_reducible refine Chg.trans ?_ (by assumption)) | (with_reducible refine Chg.ext ?_ (by assumption)))) a1 (by have := HGN.out; simp; omega), (by repeat' (first | (with_reducible exact Chg.refl _ _) | (with_reducible assumption) | (with_reducible refine Chg.drewN ?_ _) | (with_reducible refine Chg.drew ?_) | (with_reducible refine Chg.alloc ?_ _) | (with_reducible refine Chg.setCell ?_ (.inl (by simp)) _) | (with_reducible refine Chg.trans ?_ (by assumption)) | (with_reducible refine Chg.ext ?_ (by assumption))))⟩ (fun hHeld => ?_)
      clear hK K
      try simp only [Act.put, List.getElem_toArray, List.getElem_cons_succ, List.getElem_cons_zero, List.setIfInBounds_toArray, List.set_cons_zero, List.set_cons_succ]
      refine wpAnyH_ready (rs := [14]) (by kernel_rfl) (by simp) ?_
      refine AllReadyH.cons rfl (fun K hK => ?_) AllReadyH.nil
      (try dsimp only at hHeld)
      go_simp
      go_at_call 38
      refine (without_any _ (asInts LX) (kb : Nat) _ (Hvl.out.ext (by repeat' (first | (with_reducible exact Ext.refl _) | (with_reducible assumption) | (with_reducible refine Ext.alloc ?_ _) | (with_reducible refine Ext.drewN ?_ _) | (with_reducible refine Ext.drew ?_) | (with_reducible refine Ext.trans ?_ (by assumption))))) (fits_small (by rw [asL]; omega))).mono ?_
      rintro e wn ⟨v2, rfl, ho2, hx2⟩
      obtain ⟨a5, c5, hv5, _, _, _, _⟩ := ho2.rd.parts
      obtain ⟨n5, hn5⟩ : ∃ n5, v2 = .slice a5 n5 c5 := ⟨_, hv5⟩
      clear hv5
      subst hn5
      have hxn9 : Ext w4 wn := (by repeat' (first | (with_reducible exact Ext.refl _) | (with_reducible assumption) | (with_reducible refine Ext.alloc ?_ _) | (with_reducible refine Ext.drewN ?_ _) | (with_reducible refine Ext.drew ?_) | (with_reducible refine Ext.trans ?_ (by assumption))))
      have hset := RcAt.set (HC4.out.ext hxn9) hxn (HLE.out) (v := .slice a5 n5 c5) (L' := remP LX kb) (by have h9 := ho2.rd; rw [wo_rem] at h9; exact h9) (fun _ z hz hm => by have h1 := (ho2.lt z hz).1; have h2 := HGG.out z hm; simp at h1; omega)
      have HCw6 := Lib.hid hset
      have zv := hxn9.cellv k1
      have zf := Ext.frzd hxn9 k1 f1
      have zc := hxn9.cellv c3
      have za := hxn9.cellv a1
      have HXN := Lib.hid hxn9
      clear hset ho2 hx2
      try go_wp2_with fail
      refine hK.out _ _ ⟨zc, za, Chg.of_ext HXN.out⟩ (fun hHeld => ?_)
      clear hK K
      try simp only [Act.put, List.getElem_toArray, List.getElem_cons_succ, List.getElem_cons_zero, List.setIfInBounds_toArray, List.set_cons_zero, List.set_cons_succ]
      refine wpAnyH_take (i := 15) (v := ?_) rfl (by kernel_rfl) (by kernel_rfl) (by kernel_rfl) (fun _ _ _ h => h) (Or.inl ⟨by rfl, ?_⟩) (by assumption) ?_
      rotate_left
      · (intro w9 hSw; (try dsimp only at hSw); go_simp; try with_reducible rfl)
      try simp only [Act.put, List.getElem_toArray, List.getElem_cons_succ, List.getElem_cons_zero, List.setIfInBounds_toArray, List.set_cons_zero, List.set_cons_succ]
      refine wpAnyH_ready (rs := [16]) (by kernel_rfl) (by simp) ?_
      refine AllReadyH.cons rfl (fun K hK => ?_) AllReadyH.nil
      (try dsimp only at hHeld)
      go_simp
      have hchS : Chg [gl] wn (wn.setCell ⟨gl, x, none⟩ (.slice a5 n5 c5)) := chg_one _ _ _ _
      have hchw6 : Chg [gl] w4 (wn.setCell ⟨gl, x, none⟩ (.slice a5 n5 c5)) := (Chg.of_ext HXN.out).trans hchS
      refine hK.out _ _ ⟨chg_cellc hchS zc (by have := HGN.out; simp; omega), chg_cellc hchS za (by have := HGN.out; simp; omega), hchw6⟩ (fun hHeld => ?_)
      clear hK K hchS hHeld zv zf zc za
      try simp only [Act.put, List.getElem_toArray, List.getElem_cons_succ, List.getElem_cons_zero, List.setIfInBounds_toArray, List.set_cons_zero, List.set_cons_succ]
      refine wpAnyH_done (by kernel_rfl) ?_ _
      refine NoPanic.normal ?_
      generalize (wn.setCell ⟨gl, x, none⟩ (.slice a5 n5 c5)) = w6 at *
      have H4w6 := Lib.hid ((hchw6.block q4 (Array.getElem?_eq_some_iff.1 H44.out).1 (by have := HGN.out; simp; omega)).trans H44.out)
      have H5w6 := Lib.hid ((hchw6.block q5 (Array.getElem?_eq_some_iff.1 H54.out).1 (by have := HGN.out; simp; omega)).trans H54.out)
      have CHw6 : Hid (Chg [gl] w w6) := Lib.hid (HCH4.out.trans hchw6)
      have GGw6 : Hid (∀ f ∈ q4 :: q5 :: G, f < w6.heap.size) := Lib.hid (fun f hf => Nat.lt_of_lt_of_le (HGG.out f hf) hchw6.size)
      replace a0 := chg_cellc hchw6 a0 (by have := HGN.out; simp; omega)
      replace a1 := chg_cellc hchw6 a1 (by have := HGN.out; simp; omega)
      replace c3 := chg_cellc hchw6 c3 (by have := HGN.out; simp; omega)
      clear hchw6 k1 f1 HXN
      clear e0 e1 e2 e3 e4
      have y0 := cell_of_row w6 q4 0 _ _ _ H4w6.out
      have y1 := cell_of_row w6 q4 1 _ _ _ H4w6.out
      have y2 := cell_of_row w6 q4 2 _ _ _ H4w6.out
      have y3 := cell_of_row w6 q4 3 _ _ _ H4w6.out
      have y4 := cell_of_row w6 q4 4 _ _ _ H4w6.out
      simp only [List.getElem?_toArray, List.getElem?_cons_zero, List.getElem?_cons_succ] at y0 y1 y2 y3 y4
      have g0 := frozen_row H4w6.out 0
      have g1 := frozen_row H4w6.out 1
      have g2 := frozen_row H4w6.out 2
      have g3 := frozen_row H4w6.out 3
      have g4 := frozen_row H4w6.out 4
      have e0 := cell_of_row w6 q5 0 _ _ _ H5w6.out
      have e1 := cell_of_row w6 q5 1 _ _ _ H5w6.out
      have e2 := cell_of_row w6 q5 2 _ _ _ H5w6.out
      have e3 := cell_of_row w6 q5 3 _ _ _ H5w6.out
      have e4 := cell_of_row w6 q5 4 _ _ _ H5w6.out
      simp at e0 e1 e2 e3 e4
      have FIN : Hid (∀ v0 v1 v2 v3 v4, RcAt (((((w6.setCell ⟨q4, 0, none⟩ v0).setCell ⟨q4, 1, none⟩ v1).setCell ⟨q4, 2, none⟩ v2).setCell ⟨q4, 3, none⟩ v3).setCell ⟨q4, 4, none⟩ v4) G px gl (.slice ha n hcp) gp n t F L c M LSF ∧ Chg [gl] w (((((w6.setCell ⟨q4, 0, none⟩ v0).setCell ⟨q4, 1, none⟩ v1).setCell ⟨q4, 2, none⟩ v2).setCell ⟨q4, 3, none⟩ v3).setCell ⟨q4, 4, none⟩ v4)) := Lib.hid (fun v0 v1 v2 v3 v4 => ⟨by
        have h9 := rc_new5 HCw6.out HGN.out.2.1 HGN.out.1 v0 v1 v2 v3 v4
        have e9 : LSF = Ls.set x (remP LX kb) := by
          rw [HLSF.out]
          rw [if_pos his, HT.out, if_neg (by decide)]
        rw [e9]
        exact h9, chg_new5 CHw6.out (by have := HQ.out; omega) v0 v1 v2 v3 v4⟩)
      go_wp2_with fail
      refine bodyPost_ret (results_cell_row rfl _ _ q4 _ _ _ _ rfl (fill5w H4w6.out _ _ _ _ _) Try.underlying53 rfl went15_info) rfl ?_
      exact ⟨rfl, FIN.out _ _ _ _ _⟩
      --]]
    | false =>
      --[[D
      obtain ⟨rfl, rfl, rfl, rfl, hT⟩ : V = 0 ∧ Gn = false ∧ W = false ∧ E = 0 ∧ T = Ls.getD x [] := by
        have h9 := HRES.out
        have h8 := HHS.out
        rw [eq_comm, decide_eq_false_iff_not] at h8
        unfold doF at h9
        rw [if_neg (by omega), if_neg h8, if_pos (by decide)] at h9
        simp only [Prod.mk.injEq] at h9
        exact ⟨h9.1.symm, h9.2.1.symm, h9.2.2.1.symm, h9.2.2.2.1.symm, h9.2.2.2.2.symm⟩
      have HT := Lib.hid hT
      clear hT
      have y0 := cell_of_row w4 q4 0 _ _ _ H44.out
      have y1 := cell_of_row w4 q4 1 _ _ _ H44.out
      have y2 := cell_of_row w4 q4 2 _ _ _ H44.out
      have y3 := cell_of_row w4 q4 3 _ _ _ H44.out
      have y4 := cell_of_row w4 q4 4 _ _ _ H44.out
      simp only [List.getElem?_toArray, List.getElem?_cons_zero, List.getElem?_cons_succ] at y0 y1 y2 y3 y4
      have g0 := frozen_row H44.out 0
      have g1 := frozen_row H44.out 1
      have g2 := frozen_row H44.out 2
      have g3 := frozen_row H44.out 3
      have g4 := frozen_row H44.out 4
      have e0 := cell_of_row w4 q5 0 _ _ _ H54.out
      have e1 := cell_of_row w4 q5 1 _ _ _ H54.out
      have e2 := cell_of_row w4 q5 2 _ _ _ H54.out
      have e3 := cell_of_row w4 q5 3 _ _ _ H54.out
      have e4 := cell_of_row w4 q5 4 _ _ _ H54.out
      simp at e0 e1 e2 e3 e4
      have FIN : Hid (∀ v0 v1 v2 v3 v4, RcAt (((((w4.setCell ⟨q4, 0, none⟩ v0).setCell ⟨q4, 1, none⟩ v1).setCell ⟨q4, 2, none⟩ v2).setCell ⟨q4, 3, none⟩ v3).setCell ⟨q4, 4, none⟩ v4) G px gl (.slice ha n hcp) gp n t F L c M LSF ∧ Chg [gl] w (((((w4.setCell ⟨q4, 0, none⟩ v0).setCell ⟨q4, 1, none⟩ v1).setCell ⟨q4, 2, none⟩ v2).setCell ⟨q4, 3, none⟩ v3).setCell ⟨q4, 4, none⟩ v4)) := Lib.hid (fun v0 v1 v2 v3 v4 => ⟨by
        have h9 := rc_new5 HC4.out HGN.out.2.1 HGN.out.1 v0 v1 v2 v3 v4
        have e9 : LSF = Ls := by
          rw [HLSF.out]
          split
          · rename_i hi9
            rw [HT.out]
            exact set_self Ls (by rw [HLN.out]; rcases HR.out with ⟨a9, _⟩ | ⟨_, a9, _⟩ <;> first | (rw [hi9] at a9; cases a9) | omega)
          · rfl
        rw [e9]
        exact h9, chg_new5 HCH4.out (by have := HQ.out; omega) v0 v1 v2 v3 v4⟩)
      go_wp2_with fail
      refine bodyPost_ret (results_cell_row rfl _ _ q4 _ _ _ _ rfl (fill5w H44.out _ _ _ _ _) Try.underlying53 rfl went15_info) rfl ?_
      exact ⟨rfl, FIN.out _ _ _ _ _⟩
      --]]
end Go.Proofs.Ytpmfadepinmmjaa
