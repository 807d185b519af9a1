/-
  gradinelaw03.ConfTurned answers true. No condition.
-/
import Derived.Test.YtmkobmkaalfecaaConfWakes
import Derived.Test.YtmkobmkaalfecaaArr
namespace Go.Proofs.Ytmkobmkaalfecaa
open Go.RowKit

theorem hints_of {w : World} {v : Value} (h : IsRecs Try.prog 36 w v) : ∃ n F L, RdH w v n F L ∧ ∀ i j, i < n → j < 3 → (Lit.int .i64 (F i j)).wf = true := by
  obtain ⟨fs, n, V, he, hr, hc⟩ := h
  have hfs := he.symm.trans Try.underlying36
  simp only [Option.some.injEq, TypeDesc.struct.injEq] at hfs
  subst hfs
  have each : ∀ i, ∃ t : Int × Int × Int × Bool, i < n → V i 0 = .int .i64 t.1 ∧ V i 1 = .int .i64 t.2.1 ∧ V i 2 = .int .i64 t.2.2.1 ∧ V i 3 = .bool t.2.2.2 ∧ (Lit.int .i64 t.1).wf = true ∧ (Lit.int .i64 t.2.1).wf = true ∧ (Lit.int .i64 t.2.2.1).wf = true := by
    intro i
    by_cases hi : i < n
    · obtain ⟨k, hk, wk⟩ := (hc i 0 _ hi rfl).int Try.underlying3
      obtain ⟨a, ha, wa⟩ := (hc i 1 _ hi rfl).int Try.underlying3
      obtain ⟨b, hb, wb⟩ := (hc i 2 _ hi rfl).int Try.underlying3
      obtain ⟨l, hl⟩ := (hc i 3 _ hi rfl).bool Try.underlying4
      exact ⟨(k, a, b, l), fun _ => ⟨hk, ha, hb, hl, wk, wa, wb⟩⟩
    · exact ⟨(0, 0, 0, false), fun h => absurd h hi⟩
  obtain ⟨T, hT⟩ := Classical.axiomOfChoice each
  refine ⟨n, fun i j => if j = 0 then (T i).1 else if j = 1 then (T i).2.1 else (T i).2.2.1, fun i => (T i).2.2.2, ?_, ?_⟩
  · obtain ⟨a, c, rfl, h1, h2, h3, h4⟩ := hr
    refine ⟨a, c, rfl, h1, h2, h3, fun hn => ?_⟩
    obtain ⟨b, o, rfl, hb, hcc⟩ := h4 hn
    refine ⟨b, o, rfl, hb, fun i f hi hf => ?_⟩
    refine (hcc i f hi hf).trans ?_
    obtain ⟨e0, e1, e2, e3, _⟩ := hT i hi
    have hf4 : f < 4 := hf
    have : f = 0 ∨ f = 1 ∨ f = 2 ∨ f = 3 := by omega
    rcases this with rfl | rfl | rfl | rfl
    · rw [e0]; simp [HV]
    · rw [e1]; simp [HV]
    · rw [e2]; simp [HV]
    · rw [e3]; simp [HV]
  · intro i j hi hj
    obtain ⟨_, _, _, _, e0, e1, e2⟩ := hT i hi
    have : j = 0 ∨ j = 1 ∨ j = 2 := by omega
    rcases this with rfl | rfl | rfl <;> simp [*]

theorem HV_0 (F : Nat → Nat → Int) (L : Nat → Bool) (i : Nat) : HV F L i 0 = .int .i64 (F i 0) := by simp [HV]
theorem HV_1 (F : Nat → Nat → Int) (L : Nat → Bool) (i : Nat) : HV F L i 1 = .int .i64 (F i 1) := by simp [HV]
theorem HV_2 (F : Nat → Nat → Int) (L : Nat → Bool) (i : Nat) : HV F L i 2 = .int .i64 (F i 2) := by simp [HV]
theorem HV_3 (F : Nat → Nat → Int) (L : Nat → Bool) (i : Nat) : HV F L i 3 = .bool (L i) := by simp [HV]
/-- the cells of a slice of hints, one behind the other -/
def hcells (n : Nat) (F : Nat → Nat → Int) (L : Nat → Bool) : List Value := (List.range (n * 4)).map (fun j => HV F L (j / 4) (j % 4))
theorem hcells_at {n i f : Nat} {F : Nat → Nat → Int} {L : Nat → Bool} (hi : i < n) (hf : f < 4) : (hcells n F L)[i * 4 + f]? = some (HV F L i f) := by
  unfold hcells
  rw [List.getElem?_map, List.getElem?_range (by omega)]
  simp only [Option.map_some]
  rw [show (i * 4 + f) / 4 = i by omega, show (i * 4 + f) % 4 = f by omega]
theorem RdH.flat {w : World} {v : Value} {n : Nat} {F : Nat → Nat → Int} {L : Nat → Bool} (h : RdH w v n F L) : Rd w 4 v n (hcells n F L) := by
  obtain ⟨a, c, rfl, h1, h2, h3, h4⟩ := h
  refine ⟨by simp [hcells], a, c, rfl, h1, h2, h3, fun hn => ?_⟩
  obtain ⟨b, o, rfl, hb, hcc⟩ := h4 hn
  refine ⟨b, o, rfl, hb, fun j u hu => ?_⟩
  have hj : j < n * 4 := by have := (List.getElem?_eq_some_iff.1 hu).1; simpa [hcells] using this
  have := hcells_at (F := F) (L := L) (show j / 4 < n by omega) (show j % 4 < 4 by omega)
  rw [show j / 4 * 4 + j % 4 = j by omega, hu] at this
  cases this
  have := hcc (j / 4) (j % 4) (by omega) (by omega)
  rwa [show o + (j / 4 * 4 + j % 4) = o + j by omega] at this
theorem own_empty (e : TypeId) (size : Nat) (w : World) {base : Nat} (hb : base ≤ w.heap.size) : (w.alloc (.cells #[] e)).ownsRow base e size (.slice (some ⟨w.heap.size, 0, none⟩) 0 0) 0 [] :=
  ⟨by simp, .inr ⟨w.heap.size, 0, #[], rfl, hb, by simpa using heap_alloc_new w _, Nat.le_refl _, by simp [maxLen], by simp, by simp⟩⟩
theorem hint_info : (Try.prog.info? 36).map (fun i => (i.zero, i.size, i.bytes)) = some (some (.agg #[.int .i64 0, .int .i64 0, .int .i64 0, .bool false]), 4, 32) := by kernel_rfl

/-- two places turned about -/
def sw (a b i : Nat) : Nat := if i = a then b else if i = b then a else i
theorem sw_sw (a b i : Nat) : sw a b (sw a b i) = i := by
  unfold sw
  by_cases h1 : i = a <;> by_cases h2 : i = b <;> simp_all
theorem sw_lt {a b i n : Nat} (ha : a < n) (hb : b < n) (hi : i < n) : sw a b i < n := by
  unfold sw; split
  · exact hb
  · split
    · exact ha
    · exact hi
theorem hsOk_sw {n : Nat} {F : Nat → Nat → Int} {m : Int} {a b : Nat} (ha : a < n) (hb : b < n) (h : HsOk n F m) : HsOk n (fun i j => F (sw a b i) j) m := by
  obtain ⟨h1, h2, h3⟩ := h
  have h2' : ∀ i j, i < n → j < n → i ≠ j → ∀ x, HIn F i x → ¬ HIn F j x := by
    intro i j hi hj hne x hx hy
    rcases Nat.lt_or_ge i j with h | h
    · exact h2 i j h hj x hx hy
    · exact h2 j i (by omega) hi x hy hx
  refine ⟨fun i hi => h1 _ (sw_lt ha hb hi), fun i j hij hj x hx => ?_, h3⟩
  refine h2' (sw a b i) (sw a b j) (sw_lt ha hb (by omega)) (sw_lt ha hb hj) (fun e => ?_) x hx
  have := congrArg (sw a b) e
  rw [sw_sw, sw_sw] at this
  omega
theorem hsOk_sw_iff {n : Nat} {F : Nat → Nat → Int} {m : Int} {a b : Nat} (ha : a < n) (hb : b < n) : HsOk n (fun i j => F (sw a b i) j) m ↔ HsOk n F m := by
  refine ⟨fun h => ?_, hsOk_sw ha hb⟩
  have := hsOk_sw ha hb h
  simpa [sw_sw] using this

/-- rows of four cells in a block -/
def VAt (w : World) (g n : Nat) (V : Nat → Nat → Value) : Prop := ∃ cs t, w.heap[g]? = some (.cells cs t (0, 0)) ∧ ∀ i f, i < n → f < 4 → cs[i * 4 + f]? = some (V i f)
def updV (V : Nat → Nat → Value) (i f : Nat) (u : Value) : Nat → Nat → Value := fun i' f' => if i' = i ∧ f' = f then u else V i' f'
theorem VAt.set {w : World} {g n : Nat} {V : Nat → Nat → Value} (h : VAt w g n V) {i f : Nat} (hi : i < n) (hf : f < 4) (u : Value) : VAt (w.setCell ⟨g, i * 4 + f, none⟩ u) g n (updV V i f u) := by
  obtain ⟨cs, t, h1, h2⟩ := h
  refine ⟨_, t, heap_set h1 _, fun i' f' hi' hf' => ?_⟩
  unfold updV
  by_cases e : i' = i ∧ f' = f
  · obtain ⟨rfl, rfl⟩ := e
    have hlt : i' * 4 + f' < cs.size := (Array.getElem?_eq_some_iff.1 (h2 i' f' hi' hf')).1
    rw [Array.getElem?_setIfInBounds]; simp [hlt]
  · rw [Array.getElem?_setIfInBounds, if_neg (by omega), if_neg e]; exact h2 i' f' hi' hf'
theorem VAt.set0 {w : World} {g n : Nat} {V : Nat → Nat → Value} (h : VAt w g n V) {i : Nat} (hi : i < n) (u : Value) : VAt (w.setCell ⟨g, i * 4, none⟩ u) g n (updV V i 0 u) := h.set (f := 0) hi (by omega) u
theorem VAt.ext {w w' : World} {g n : Nat} {V : Nat → Nat → Value} (h : VAt w g n V) (hx : Ext w w') : VAt w' g n V := by
  obtain ⟨cs, t, h1, h2⟩ := h
  exact ⟨cs, t, by rw [Below.block hx _ (Array.getElem?_eq_some_iff.1 h1).1]; exact h1, h2⟩
theorem VAt.rd {w : World} {g n cap : Nat} {V : Nat → Nat → Value} (h : VAt w g n V) {F : Nat → Nat → Int} {L : Nat → Bool} (hV : ∀ i f, f < 4 → V i f = HV F L i f) (hn : n ≤ cap) (hc : cap ≤ maxLen) : RdH w (.slice (some ⟨g, 0, none⟩) n cap) n F L := by
  obtain ⟨cs, t, h1, h2⟩ := h
  refine ⟨_, cap, rfl, hn, hc, fun h => (by cases h), fun _ => ⟨g, 0, rfl, (Array.getElem?_eq_some_iff.1 h1).1, fun i f hi hf => ?_⟩⟩
  rw [Nat.zero_add, cell_of_row w g _ cs t (0, 0) h1, ← hV i f hf]
  exact h2 i f hi hf
/-- two rows turned about, cell for cell -/
def turned (F : Nat → Nat → Int) (L : Nat → Bool) (a b : Nat) : Nat → Nat → Value :=
  updV (updV (updV (updV (updV (updV (updV (updV (HV F L) a 0 (.int .i64 (F b 0))) a 1 (.int .i64 (F b 1))) a 2 (.int .i64 (F b 2))) a 3 (.bool (L b))) b 0 (.int .i64 (F a 0))) b 1 (.int .i64 (F a 1))) b 2 (.int .i64 (F a 2))) b 3 (.bool (L a))
theorem turned_is (F : Nat → Nat → Int) (L : Nat → Bool) (a b i f : Nat) (hf : f < 4) : turned F L a b i f = HV (fun i j => F (sw a b i) j) (fun i => L (sw a b i)) i f := by
  have h4 : f = 0 ∨ f = 1 ∨ f = 2 ∨ f = 3 := by omega
  unfold turned updV sw
  by_cases h1 : i = b <;> by_cases h2 : i = a <;> rcases h4 with rfl | rfl | rfl | rfl <;> simp [h1, h2, HV] <;> simp_all

set_option maxRecDepth 10000 in
set_option maxHeartbeats 1000000 in
theorem walk_ConfTurned (v0 v1 v2 : Value) (w : World) (h0 : IsRecs Try.prog 36 w v0) (h1 : IsInt .i64 v1) (h2 : IsArr .u8 2 v2) :
    Calls Try.prog 5 #[v0, v1, v2] w fun e w' => e = .returned (.bool true) ∧ Ext w w' := by
  obtain ⟨n, F, L, hr, hwf⟩ := hints_of h0
  obtain ⟨m, rfl, wm⟩ := h1
  obtain ⟨p, q, rfl, wp, wq⟩ := h2.two
  obtain ⟨p0, p1⟩ := u8_bd wp
  obtain ⟨q0, q1⟩ := u8_bd wq
  have HRD := Lib.hid hr
  have HWF := Lib.hid hwf
  have HWM := Lib.hid wm
  obtain ⟨a0, c0, rfl, hnc, hcm, hnil, _⟩ := hr
  have hn63 : (n : Int) ≤ 9223372036854775807 := by unfold maxLen at hcm; omega
  clear h0 hwf wm wp wq h2 hnil hcm
  by_cases hz : n = 0
  · subst hz
    go_enter Try.func5, Try.ntmps5
    go_wp2_with fail
    refine (wakes03 _).mono ?_
    rintro e w1 ⟨rfl, hx1⟩
    go_wp2_with fail
    go_ret
    exact ⟨rfl, (by repeat' (first | (with_reducible exact Ext.refl _) | (with_reducible assumption) | (with_reducible refine Ext.alloc ?_ _) | (with_reducible refine Ext.drewN ?_ _) | (with_reducible refine Ext.drew ?_) | (with_reducible refine Ext.trans ?_ (by assumption))))⟩
  · by_cases h20 : n ≤ 20
    · have hnb : ((n : Int) == 0) = false := by rw [beq_eq_false_iff_ne]; omega
      have hn20 : (n : Int) ≤ 20 := by omega
      obtain ⟨ih, hih, hz0, hz1, hz2⟩ := info_parts hint_info
      go_enter Try.func5, Try.ntmps5
      go_wp2_with fail
      refine (wakes03 _).mono ?_
      rintro e w1 ⟨rfl, hx1⟩
      have H15 := (HRD.out.ext ((by repeat' (first | (with_reducible exact Ext.refl _) | (with_reducible assumption) | (with_reducible refine Ext.alloc ?_ _) | (with_reducible refine Ext.drewN ?_ _) | (with_reducible refine Ext.drew ?_) | (with_reducible refine Ext.trans ?_ (by assumption)))) : Ext w w1)).flat
      have H16 : ∀ u ∈ hcells n F L, u.oneCell' = true := by unfold hcells HV; intro u hu; simp only [List.mem_map] at hu; obtain ⟨j, _, rfl⟩ := hu; split <;> rfl
      obtain ⟨xs, hxs'⟩ : ∃ xs, xs = hcells n F L := ⟨_, rfl⟩
      rw [← hxs'] at H15 H16
      have HXS := Lib.hid hxs'
      clear hxs'
      go_wp2_with (at_builtin; refine wpList_append_rd rfl _ _ 33 rfl w1.heap.size 36 ih (.agg #[.int .i64 0, .int .i64 0, .int .i64 0, .bool false]) 4 32 Try.underlying33 hih hz0 hz1 hz2 rfl (by omega) _ _ _ rfl (own_empty _ _ _ (Nat.le_refl _)) _ n _ rfl (H15.ext ((Ext.refl _).alloc _)) H16 (by unfold maxLen; omega) (by omega) (by simp) ?_)
      intro v3 w3 ho3 hg3
      try simp only [Nat.zero_add, List.nil_append] at ho3
      have hsz1 := hx1.size
      have hw01 : w.heap.size ≤ w1.heap.size := by have h9 := hx1.size; simp at h9; omega
      have hx3 : Ext (w.alloc (.cells #[.int .u8 p, .int .u8 q] 34)) w3 := (hx1.alloc (.cells #[] 36)).grown hg3 (by simp at hsz1 ⊢; omega) (fun k hk => by simp [Value.ownBlock] at hk; subst hk; exact hsz1)
      have x0 := hx3.cellv (show (w.alloc (.cells #[.int .u8 p, .int .u8 q] 34)).cell? ⟨w.heap.size, 0, none⟩ = some (.int .u8 p) from cell_new _ _ _ _ rfl)
      have x1 := hx3.cellv (show (w.alloc (.cells #[.int .u8 p, .int .u8 q] 34)).cell? ⟨w.heap.size, 1, none⟩ = some (.int .u8 q) from cell_new _ _ _ _ rfl)
      have hX3 : Ext w w3 := ((Ext.refl w).alloc _).trans hx3
      clear hx1 hg3
      go_wp2_with fail
      go_quiet (fail)
      go_wp2_with fail
      obtain ⟨a, ha⟩ : ∃ a : Nat, p % (n : Int) = a := ⟨(p % (n : Int)).toNat, (Int.toNat_of_nonneg (Int.emod_nonneg _ (by omega))).symm⟩
      obtain ⟨b, hb⟩ : ∃ b : Nat, q % (n : Int) = b := ⟨(q % (n : Int)).toNat, (Int.toNat_of_nonneg (Int.emod_nonneg _ (by omega))).symm⟩
      have han : a < n := by have := Int.emod_lt_of_pos p (show (0 : Int) < n by omega); omega
      have hbn : b < n := by have := Int.emod_lt_of_pos q (show (0 : Int) < n by omega); omega
      rw [ha, hb]
      clear ha hb x0 x1 p0 p1 q0 q1
      have ho4 := own_ext ho3 ((Ext.refl w3).drewN nq)
      have hX4 : Ext w (w3.drewN nq) := hX3.drewN nq
      generalize w3.drewN nq = w4 at *
      clear ho3 hx3 hX3
      have hxs := HXS.out
      rcases ho4.2 with ⟨_, hn0⟩ | ⟨g, cap, cur, rfl, hgb, hgg, hncap, hcapm, _, htake⟩
      · exact absurd (by omega) hz
      have hV : VAt w4 g n (HV F L) := by
        refine ⟨cur, _, hgg, fun i f hi hf => ?_⟩
        have h1 := hcells_at (F := F) (L := L) hi hf
        rw [← hxs, ← htake, List.getElem?_take, if_pos (by omega)] at h1
        simpa using h1
      have hcell : ∀ i f, i < n → f < 4 → w4.cell? ⟨g, i * 4 + f, none⟩ = some (HV F L i f) := by
        intro i f hi hf
        obtain ⟨cs, t, q1, q2⟩ := hV
        rw [cell_of_row w4 g _ cs t (0, 0) q1]; exact q2 i f hi hf
      have HVA := Lib.hid hV
      clear hV htake
      have hfr := frozen_row hgg
      have hai : (a : Int) < (n : Int) := by omega
      have hbi : (b : Int) < (n : Int) := by omega
      have A0 := hcell a 0 han (by omega)
      have A1 := hcell a 1 han (by omega)
      have A2 := hcell a 2 han (by omega)
      have A3 := hcell a 3 han (by omega)
      rw [Nat.add_zero, HV_0] at A0
      rw [HV_1] at A1
      rw [HV_2] at A2
      rw [HV_3] at A3
      have HCELL := Lib.hid hcell
      clear hcell
      by_cases hab : a = b
      · subst hab
        go_region_with (fail)
        all_goals
          obtain ⟨w5, hw5⟩ : ∃ w5, w5 = ((((((((w4.setCell ⟨g, a * 4, none⟩ (.int .i64 (F a 0))).setCell ⟨g, a * 4 + 1, none⟩ (.int .i64 (F a 1))).setCell ⟨g, a * 4 + 2, none⟩ (.int .i64 (F a 2))).setCell ⟨g, a * 4 + 3, none⟩ (.bool (L a))).setCell ⟨g, a * 4, none⟩ (.int .i64 (F a 0))).setCell ⟨g, a * 4 + 1, none⟩ (.int .i64 (F a 1))).setCell ⟨g, a * 4 + 2, none⟩ (.int .i64 (F a 2))).setCell ⟨g, a * 4 + 3, none⟩ (.bool (L a))).drew := ⟨_, rfl⟩
          rw [← hw5]
          have hV5 : VAt w5 g n (turned F L a a) := by rw [hw5]; exact ((((((((HVA.out.set0 han _).set (f := 1) han (by omega) _).set (f := 2) han (by omega) _).set (f := 3) han (by omega) _).set0 han _).set (f := 1) han (by omega) _).set (f := 2) han (by omega) _).set (f := 3) han (by omega) _).ext (Ext.refl _).drew
          have hC5 : Chg [g] w4 w5 := by rw [hw5]; exact (by repeat' (first | (with_reducible exact Chg.refl _ _) | (with_reducible assumption) | (with_reducible refine Chg.drewN ?_ _) | (with_reducible refine Chg.drew ?_) | (with_reducible refine Chg.alloc ?_ _) | (with_reducible refine Chg.setCell ?_ (.inl (by simp)) _) | (with_reducible refine Chg.trans ?_ (by assumption)) | (with_reducible refine Chg.ext ?_ (by assumption))))
          have hX5 : Ext w w5 := Ext.chg (S := [g]) hX4 hC5 (by simp; omega)
          have hR5 := hV5.rd (turned_is F L a a) hncap hcapm
          clear hw5 hV5 hC5
          obtain ⟨r, hr⟩ : ∃ r : Bool, r = true ↔ HsOk n F m := by
            by_cases h : HsOk n F m
            · exact ⟨true, iff_of_true rfl h⟩
            · exact ⟨false, iff_of_false (by simp) h⟩
          have HR5 := Lib.hid hR5
          have HR := Lib.hid hr
          clear hR5 hr
          go_wp2_with fail
          refine (chints _ n _ _ m _ HR5.out (by omega) (fun i j hi hj => HWF.out _ j (sw_lt han han hi) hj) HWM.out r (HR.out.trans (hsOk_sw_iff han han).symm)).mono ?_
          rintro e w6 ⟨rfl, hx6⟩
          go_wp2_with fail
          refine (chints _ n F L m _ (HRD.out.ext (by repeat' (first | (with_reducible exact Ext.refl _) | (with_reducible assumption) | (with_reducible refine Ext.alloc ?_ _) | (with_reducible refine Ext.drewN ?_ _) | (with_reducible refine Ext.drew ?_) | (with_reducible refine Ext.trans ?_ (by assumption))))) (by omega) HWF.out HWM.out r HR.out).mono ?_
          rintro e w7 ⟨rfl, hx7⟩
          go_wp2_with fail
          go_ret
          exact ⟨by simp, (by repeat' (first | (with_reducible exact Ext.refl _) | (with_reducible assumption) | (with_reducible refine Ext.alloc ?_ _) | (with_reducible refine Ext.drewN ?_ _) | (with_reducible refine Ext.drew ?_) | (with_reducible refine Ext.trans ?_ (by assumption))))⟩
      · have B0 := HCELL.out b 0 hbn (by omega)
        have B1 := HCELL.out b 1 hbn (by omega)
        have B2 := HCELL.out b 2 hbn (by omega)
        have B3 := HCELL.out b 3 hbn (by omega)
        rw [Nat.add_zero, HV_0] at B0
        rw [HV_1] at B1
        rw [HV_2] at B2
        rw [HV_3] at B3
        have hba : ¬ b = a := fun e => hab e.symm
        go_region_with (fail)
        all_goals
          obtain ⟨w5, hw5⟩ : ∃ w5, w5 = ((((((((w4.setCell ⟨g, a * 4, none⟩ (.int .i64 (F b 0))).setCell ⟨g, a * 4 + 1, none⟩ (.int .i64 (F b 1))).setCell ⟨g, a * 4 + 2, none⟩ (.int .i64 (F b 2))).setCell ⟨g, a * 4 + 3, none⟩ (.bool (L b))).setCell ⟨g, b * 4, none⟩ (.int .i64 (F a 0))).setCell ⟨g, b * 4 + 1, none⟩ (.int .i64 (F a 1))).setCell ⟨g, b * 4 + 2, none⟩ (.int .i64 (F a 2))).setCell ⟨g, b * 4 + 3, none⟩ (.bool (L a))).drew := ⟨_, rfl⟩
          rw [← hw5]
          have hV5 : VAt w5 g n (turned F L a b) := by rw [hw5]; exact ((((((((HVA.out.set0 han _).set (f := 1) han (by omega) _).set (f := 2) han (by omega) _).set (f := 3) han (by omega) _).set0 hbn _).set (f := 1) hbn (by omega) _).set (f := 2) hbn (by omega) _).set (f := 3) hbn (by omega) _).ext (Ext.refl _).drew
          have hC5 : Chg [g] w4 w5 := by rw [hw5]; exact (by repeat' (first | (with_reducible exact Chg.refl _ _) | (with_reducible assumption) | (with_reducible refine Chg.drewN ?_ _) | (with_reducible refine Chg.drew ?_) | (with_reducible refine Chg.alloc ?_ _) | (with_reducible refine Chg.setCell ?_ (.inl (by simp)) _) | (with_reducible refine Chg.trans ?_ (by assumption)) | (with_reducible refine Chg.ext ?_ (by assumption))))
          have hX5 : Ext w w5 := Ext.chg (S := [g]) hX4 hC5 (by simp; omega)
          have hR5 := hV5.rd (turned_is F L a b) hncap hcapm
          clear hw5 hV5 hC5
          obtain ⟨r, hr⟩ : ∃ r : Bool, r = true ↔ HsOk n F m := by
            by_cases h : HsOk n F m
            · exact ⟨true, iff_of_true rfl h⟩
            · exact ⟨false, iff_of_false (by simp) h⟩
          have HR5 := Lib.hid hR5
          have HR := Lib.hid hr
          clear hR5 hr
          go_wp2_with fail
          refine (chints _ n _ _ m _ HR5.out (by omega) (fun i j hi hj => HWF.out _ j (sw_lt han hbn hi) hj) HWM.out r (HR.out.trans (hsOk_sw_iff han hbn).symm)).mono ?_
          rintro e w6 ⟨rfl, hx6⟩
          go_wp2_with fail
          refine (chints _ n F L m _ (HRD.out.ext (by repeat' (first | (with_reducible exact Ext.refl _) | (with_reducible assumption) | (with_reducible refine Ext.alloc ?_ _) | (with_reducible refine Ext.drewN ?_ _) | (with_reducible refine Ext.drew ?_) | (with_reducible refine Ext.trans ?_ (by assumption))))) (by omega) HWF.out HWM.out r HR.out).mono ?_
          rintro e w7 ⟨rfl, hx7⟩
          go_wp2_with fail
          go_ret
          exact ⟨by simp, (by repeat' (first | (with_reducible exact Ext.refl _) | (with_reducible assumption) | (with_reducible refine Ext.alloc ?_ _) | (with_reducible refine Ext.drewN ?_ _) | (with_reducible refine Ext.drew ?_) | (with_reducible refine Ext.trans ?_ (by assumption))))⟩
    · go_enter Try.func5, Try.ntmps5
      go_wp2_with fail
      refine (wakes03 _).mono ?_
      rintro e w1 ⟨rfl, hx1⟩
      have hnb : ((n : Int) == 0) = false := by rw [beq_eq_false_iff_ne]; omega
      have hn20 : (20 : Int) < (n : Int) := by omega
      go_wp2_with fail
      go_ret
      exact ⟨rfl, (by repeat' (first | (with_reducible exact Ext.refl _) | (with_reducible assumption) | (with_reducible refine Ext.alloc ?_ _) | (with_reducible refine Ext.drewN ?_ _) | (with_reducible refine Ext.drew ?_) | (with_reducible refine Ext.trans ?_ (by assumption))))⟩
end Go.Proofs.Ytmkobmkaalfecaa
