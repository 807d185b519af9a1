/-
  store.journal. No condition but that the store lies in memory.
-/
import Derived.Test.YtoadjmeopamgbaaStDoes2
import Derived.StillTailTactics
namespace Go.Proofs.Ytoadjmeopamgbaa
open Go.RowKit

/-- the write that a journal tells, and whether it tells one -/
def jV (B : List Int) (k : Nat) : Int := rdVal B (0, true) k
def jT (B : List Int) (n : Nat) : List Int × Bool := rdText B (rdAll B (0, true) 6) n
def jIs (h : Sh) (B : List Int) : Prop := (jT B h.s).2 = true ∧ FitW h (jV B 0) (jV B 1) (jV B 2) (jV B 3) ∧ jV B 4 < h.b ∧ 1 ≤ jV B 5 ∧ jV B 5 ≤ 1000
instance (h : Sh) (B : List Int) : Decidable (jIs h B) := by unfold jIs; infer_instance

theorem six {cs : Array Value} (h : cs.size = 6) : ∃ a0 a1 a2 a3 a4 a5, cs = #[a0, a1, a2, a3, a4, a5] := by
  match cs, h with
  | ⟨[a0, a1, a2, a3, a4, a5]⟩, _ => exact ⟨a0, a1, a2, a3, a4, a5, rfl⟩

theorem own_other {k : IntKind} {e : TypeId} {base : Nat} {w : World} {v : Value} {l : List Int} (h : OwnI k e base w v l) {a : Addr} (ha : ∀ b, v.ownBlock = some b → b ≠ a.block) (u : Value) : OwnI k e base (w.setCell a u) v l := by
  refine ⟨h.1, ?_⟩
  rcases h.2 with hn | ⟨g, cap, cur, rfl, hb', hgg, rest⟩
  · exact .inl hn
  · exact .inr ⟨g, cap, cur, rfl, hb', (Below.heap_setCell _ _ _ _ (ha g rfl)).trans hgg, rest⟩
theorem setCell_idem {w : World} {b o : Nat} {v : Value} {cs : Array Value} {t : TypeId} (h : w.heap[b]? = some (.cells cs t (0, 0))) (hv : cs[o]? = some v) : Ext w (w.setCell ⟨b, o, none⟩ v) := by
  refine ⟨rfl, rfl, rfl, by simp [World.setCell], fun i hi => ?_⟩
  by_cases e : i = b
  · subst e
    rw [heap_set h v, h]
    congr 2
    apply Array.ext_getElem?
    intro j
    rw [Array.getElem?_setIfInBounds]
    by_cases e2 : o = j
    · subst e2
      have := (Array.getElem?_eq_some_iff.1 hv).1
      rw [if_pos rfl, if_pos this]; exact hv.symm
    · rw [if_neg e2]
  · exact Below.heap_setCell _ _ _ _ e
theorem results_rct {fn : Func} {p q u : Tmp} (h : fn.results = #[.cell p 38, .cell q 3, .tmp u]) (tmps : Array Value) (w : World) (g g2 : Nat) (cs : Array Value) (t : TypeId) (fr : Nat × Nat) (v2 : Value)
    (hp : tmps.getD p undef = .pointer (some ⟨g, 0, none⟩)) (hq : tmps.getD q undef = .pointer (some ⟨g2, 0, none⟩)) (hg : w.heap[g]? = some (.cells cs t fr)) (hg2 : w.cell? ⟨g2, 0, none⟩ = some v2) (hi : (Try.prog.info? 38).map (·.size) = some cs.size) :
    (results fn tmps).run Try.prog w = .ok (.tuple #[.agg cs, v2, tmps.getD u undef]) w := by
  have hp' : tmps[p]?.getD undef = .pointer (some ⟨g, 0, none⟩) := by simpa using hp
  have hq' : tmps[q]?.getD undef = .pointer (some ⟨g2, 0, none⟩) := by simpa using hq
  have h1 := run_loadVar_row (P := Try.prog) w g t 38 cs fr _ hg Try.underlying38 rfl hi
  simp [results, h, hp', hq', asAddr, Result.andThen, h1, run_loadVar_int hg2]
section
variable (w : World) (F : List Nat) (ps p bl : Nat) (h : Sh) (d : Dk)
set_option maxRecDepth 100000 in
set_option maxHeartbeats 8000000 in
theorem sjournal (s : StAt w F ps p bl h d) (hj : (jT (d.rows.getD 0 []) h.s).2 = false ∨ jIs h (d.rows.getD 0 [])) :
    Calls Try.prog 32 #[.pointer (some ⟨ps, 0, none⟩)] w fun e w' => ∃ vt, e = .returned (.tuple #[.agg #[.int .i64 (jV (d.rows.getD 0 []) 0), .int .i64 (jV (d.rows.getD 0 []) 1), .int .i64 (jV (d.rows.getD 0 []) 2), .int .i64 (jV (d.rows.getD 0 []) 3), .int .i64 (jV (d.rows.getD 0 []) 4), vt], .int .i64 (jV (d.rows.getD 0 []) 5), .bool (decide (jIs h (d.rows.getD 0 [])))]) ∧ OwnI .u8 5 w.heap.size w' vt (jT (d.rows.getD 0 []) h.s).1 ∧ Ext w w' := by
  have c0 := s.c0
  have c1 := s.c1
  have c2 := s.c2
  have c3 := s.c3
  have hs2 := s.ok.s2
  have hin2 : 0 < d.rows.length := by have := s.many; unfold Sh.many at this; omega
  have HR := Lib.hid (fun w' (hx : Ext w w') => sread w' F ps p bl h d (s.ext hx) 0 hin2)
  obtain ⟨B, hBe⟩ : ∃ B, B = d.rows.getD 0 [] := ⟨_, rfl⟩
  have HB : Hid (∀ x ∈ B, 0 ≤ x ∧ x ≤ 255) := Lib.hid (by rw [hBe]; exact s.byt _)
  have hBl : B.length ≤ 64 := by rw [hBe]; exact s.dk.small _
  rw [← hBe] at HR hj ⊢
  have HJ : Hid ((rdText B (rdAll B (0, true) 6) h.s).2 = false ∨ ((rdText B (rdAll B (0, true) 6) h.s).2 = true ∧ FitW h (rdVal B (0, true) 0) (rdVal B (0, true) 1) (rdVal B (0, true) 2) (rdVal B (0, true) 3) ∧ rdVal B (0, true) 4 < h.b ∧ 1 ≤ rdVal B (0, true) 5 ∧ rdVal B (0, true) 5 ≤ 1000)) := Lib.hid hj
  clear hj
  obtain ⟨is, his⟩ : ∃ is, is = decide (jIs h B) := ⟨_, rfl⟩
  rw [← his]
  have HIS : Hid (is = decide ((rdText B (rdAll B (0, true) 6) h.s).2 = true ∧ FitW h (rdVal B (0, true) 0) (rdVal B (0, true) 1) (rdVal B (0, true) 2) (rdVal B (0, true) 3) ∧ rdVal B (0, true) 4 < h.b ∧ 1 ≤ rdVal B (0, true) 5 ∧ rdVal B (0, true) 5 ≤ 1000)) := Lib.hid his
  unfold jV jT
  obtain ⟨v0, hv0⟩ : ∃ x, x = rdVal B (0, true) 0 := ⟨_, rfl⟩
  obtain ⟨v1, hv1⟩ : ∃ x, x = rdVal B (0, true) 1 := ⟨_, rfl⟩
  obtain ⟨v2, hv2⟩ : ∃ x, x = rdVal B (0, true) 2 := ⟨_, rfl⟩
  obtain ⟨v3, hv3⟩ : ∃ x, x = rdVal B (0, true) 3 := ⟨_, rfl⟩
  obtain ⟨v4, hv4⟩ : ∃ x, x = rdVal B (0, true) 4 := ⟨_, rfl⟩
  obtain ⟨v5, hv5⟩ : ∃ x, x = rdVal B (0, true) 5 := ⟨_, rfl⟩
  obtain ⟨TT, hTT⟩ : ∃ x, x = rdText B (rdAll B (0, true) 6) h.s := ⟨_, rfl⟩
  rw [← hv0, ← hv1, ← hv2, ← hv3, ← hv4, ← hv5, ← hTT]
  rw [← hv0, ← hv1, ← hv2, ← hv3, ← hv4, ← hv5, ← hTT] at HIS
  rw [← hv0, ← hv1, ← hv2, ← hv3, ← hv4, ← hv5, ← hTT] at HJ
  obtain ⟨tt, okt⟩ := TT
  have HE0 := Lib.hid hv0
  have HE1 := Lib.hid hv1
  have HE2 := Lib.hid hv2
  have HE3 := Lib.hid hv3
  have HE4 := Lib.hid hv4
  have HE5 := Lib.hid hv5
  have HTT := Lib.hid hTT
  have HFIT := Lib.hid (fun w' a s b o bk dv hdv r hr => sfits h a s b o bk dv hdv r hr w')
  have HFD : Hid (∀ a s b o, decide (FitW h a s b o) = decide (FitW h a s b o)) := Lib.hid (fun _ _ _ _ => rfl)
  obtain ⟨fit, hfit⟩ : ∃ fit : Int → Int → Int → Int → Prop, fit = FitW h := ⟨_, rfl⟩
  obtain ⟨x0, hx0⟩ : ∃ x, x = h.b := ⟨_, rfl⟩
  obtain ⟨x1, hx1⟩ : ∃ x, x = h.s := ⟨_, rfl⟩
  obtain ⟨x2, hx2⟩ : ∃ x, x = h.c := ⟨_, rfl⟩
  obtain ⟨x3, hx3⟩ : ∃ x, x = h.k := ⟨_, rfl⟩
  rw [← hx0] at c0 HIS HFIT HJ
  rw [← hx1] at c1 hs2 HTT HFIT
  rw [← hx2] at c2 HFIT
  rw [← hx3] at c3 HFIT
  clear s hin2 hBe hx0 hx1 hx2 hx3 his HFD hfit hv0 hv1 hv2 hv3 hv4 hv5 hTT
  go_enter Try.func32, Try.ntmps32
  go_upto_region 1 with fail
  have hx2 : Ext w ((w.alloc (.cells #[.int .i64 0, .int .i64 0, .int .i64 0, .int .i64 0, .int .i64 0, .slice none 0 0] 38)).alloc (.cells #[.int .i64 0] 3)) := ((Ext.refl w).alloc _).alloc _
  have p6 : ((w.alloc (.cells #[.int .i64 0, .int .i64 0, .int .i64 0, .int .i64 0, .int .i64 0, .slice none 0 0] 38)).alloc (.cells #[.int .i64 0] 3)).heap[w.heap.size]? = some (.cells #[.int .i64 0, .int .i64 0, .int .i64 0, .int .i64 0, .int .i64 0, .slice none 0 0] 38) := (Below.block ((Ext.refl _).alloc _) w.heap.size (by simp)).trans (heap_alloc_new w _)
  have p7 : ((w.alloc (.cells #[.int .i64 0, .int .i64 0, .int .i64 0, .int .i64 0, .int .i64 0, .slice none 0 0] 38)).alloc (.cells #[.int .i64 0] 3)).heap[w.heap.size + 1]? = some (.cells #[.int .i64 0] 3) := by simpa using heap_alloc_new (w.alloc (.cells #[.int .i64 0, .int .i64 0, .int .i64 0, .int .i64 0, .int .i64 0, .slice none 0 0] 38)) (.cells #[.int .i64 0] 3)
  have hsz : ((w.alloc (.cells #[.int .i64 0, .int .i64 0, .int .i64 0, .int .i64 0, .int .i64 0, .slice none 0 0] 38)).alloc (.cells #[.int .i64 0] 3)).heap.size = w.heap.size + 2 := by simp
  generalize ((w.alloc (.cells #[.int .i64 0, .int .i64 0, .int .i64 0, .int .i64 0, .int .i64 0, .slice none 0 0] 38)).alloc (.cells #[.int .i64 0] 3)) = w1 at *
  obtain ⟨q6, hq6⟩ : ∃ q, q = w.heap.size := ⟨_, rfl⟩
  rw [← hq6] at p6 p7 hsz ⊢
  have HC1 := Lib.hid c1
  have HC0 := Lib.hid c0
  have HC2 := Lib.hid c2
  have HC3 := Lib.hid c3
  have HQ6 : Hid (q6 = w.heap.size) := Lib.hid hq6
  have HS1 := Lib.hid hsz
  have P6 := Lib.hid p6
  have P7 := Lib.hid p7
  clear hq6 hsz p6 p7 c0 c1 c2 c3
  go_wp2_with fail
  refine (HR.out _ hx2).mono ?_
  rintro e w3 ⟨g, v, t, rfl, hg, hv, hgl, hvg, hy3⟩
  have hX3 := hx2.trans hy3
  have HG := Lib.hid hg
  have HV := Lib.hid hv
  have HGL : Hid (q6 + 2 ≤ g) := Lib.hid (by have := HS1.out; omega)
  have HVG : Hid (∀ x, v.ownBlock = some x → q6 + 2 ≤ x ∧ x < g) := Lib.hid (fun x hx => by have := hvg x hx; have := HS1.out; omega)
  have hg3 : g < w3.heap.size := (Array.getElem?_eq_some_iff.1 hg).1
  have HG3 := Lib.hid hg3
  have P6' : Hid (w3.heap[q6]? = _) := Lib.hid ((Below.block hy3 q6 (by have := HS1.out; omega)).trans P6.out)
  have P7' : Hid (w3.heap[q6 + 1]? = _) := Lib.hid ((Below.block hy3 (q6 + 1) (by have := HS1.out; omega)).trans P7.out)
  obtain ⟨q10, hq10⟩ : ∃ q, q = w3.heap.size := ⟨_, rfl⟩
  have HQ10 := Lib.hid hq10
  have hgq : g < q10 := by omega
  clear hg hv hgl hvg P6 P7 hx2
  obtain ⟨w5, hw5⟩ : ∃ w5, w5 = w3.alloc (.cells #[.pointer (some ⟨q6, 0, none⟩), .pointer (some ⟨q6, 1, none⟩), .pointer (some ⟨q6, 2, none⟩), .pointer (some ⟨q6, 3, none⟩), .pointer (some ⟨q6, 4, none⟩), .pointer (some ⟨q6 + 1, 0, none⟩)] 94) := ⟨_, rfl⟩
  have hx5 : Ext w3 w5 := by rw [hw5]; exact (Ext.refl w3).alloc _
  have h67 : q6 + 2 ≤ q10 := by have := HGL.out; omega
  have P6 : Hid (w5.heap[q6]? = _) := Lib.hid ((Below.block hx5 q6 (by omega)).trans P6'.out)
  have P7 : Hid (w5.heap[q6 + 1]? = _) := Lib.hid ((Below.block hx5 (q6 + 1) (by omega)).trans P7'.out)
  have hALL := sall v B 0 true g t q10 0 6 6 (fun k => if k < 5 then q6 else q6 + 1) (fun k => if k < 5 then k else 0) [q6, q6 + 1] w5
    ((Below.block hx5 g hg3).trans HG.out) (HV.out.ext hx5) HB.out (by omega) (by omega)
    (fun k hk => by
      have hn : ∀ {j u}, #[Value.pointer (some ⟨q6, 0, none⟩), .pointer (some ⟨q6, 1, none⟩), .pointer (some ⟨q6, 2, none⟩), .pointer (some ⟨q6, 3, none⟩), .pointer (some ⟨q6, 4, none⟩), .pointer (some ⟨q6 + 1, 0, none⟩)][j]? = some u → w5.cell? ⟨w3.heap.size, j, none⟩ = some u := fun hu => by rw [hw5]; exact cell_new w3 _ _ _ hu
      rw [← hq10] at hn
      have : k = 0 ∨ k = 1 ∨ k = 2 ∨ k = 3 ∨ k = 4 ∨ k = 5 := by omega
      rcases this with rfl | rfl | rfl | rfl | rfl | rfl <;> exact hn rfl)
    (fun k hk => by
      have : k = 0 ∨ k = 1 ∨ k = 2 ∨ k = 3 ∨ k = 4 ∨ k = 5 := by omega
      rcases this with rfl | rfl | rfl | rfl | rfl | rfl
      · exact ⟨_, _, P6.out, by simp⟩
      · exact ⟨_, _, P6.out, by simp⟩
      · exact ⟨_, _, P6.out, by simp⟩
      · exact ⟨_, _, P6.out, by simp⟩
      · exact ⟨_, _, P6.out, by simp⟩
      · exact ⟨_, _, P7.out, by simp⟩)
    (fun j k hj hk hne => by
      by_cases a : j < 5 <;> by_cases b : k < 5 <;> simp only [a, b, if_true, if_false] <;> omega)
    (fun k hk => by by_cases a : k < 5 <;> simp [a])
    (by have := HGL.out; simp; omega) (by simp; omega) (fun x hx => by have := HVG.out x hx; have := HGL.out; simp; omega)
  have HA := Lib.hid hALL
  have hX5 := hX3.trans hx5
  have HW5 : Hid (w3.alloc (.cells #[.pointer (some ⟨q6, 0, none⟩), .pointer (some ⟨q6, 1, none⟩), .pointer (some ⟨q6, 2, none⟩), .pointer (some ⟨q6, 3, none⟩), .pointer (some ⟨q6, 4, none⟩), .pointer (some ⟨q6 + 1, 0, none⟩)] 94) = w5) := Lib.hid hw5.symm
  have HWL : Hid (∀ s ∈ g :: [q6, q6 + 1], w.heap.size ≤ s) := Lib.hid (by rw [← HQ6.out]; have := HGL.out; intro s hs; simp at hs; omega)
  have HGR : Hid (w.heap.size ≤ g) := Lib.hid (by rw [← HQ6.out]; have := HGL.out; omega)
  clear hALL hq10 hw5 hg3 P6' P7' hX3 hy3
  go_wp2_with fail
  rw [← HQ10.out, HW5.out]
  refine HA.out.mono ?_
  rintro e w6 ⟨rfl, hg6, hvals, hshp, hch⟩
  have hX6 : Ext w w6 := hX5.chg hch HWL.out
  have hv6 := (HV.out.ext hx5).chgc hch (fun _ x hx => by have := HVG.out x hx; have := HGL.out; simp; omega)
  obtain ⟨cs6, g1, g2, g5⟩ := hshp q6 _ _ (by have := HGL.out; omega) P6.out
  obtain ⟨cs7, g3, g4, _⟩ := hshp (q6 + 1) _ _ (by have := HGL.out; omega) P7.out
  obtain ⟨a0, a1, a2, a3, a4, a5, rfl⟩ := six g2
  obtain ⟨u7, rfl⟩ : ∃ u, cs7 = #[u] := by
    match cs7, g4 with
    | ⟨[u]⟩, _ => exact ⟨u, rfl⟩
  obtain rfl : a5 = .slice none 0 0 := by
    have := g5 5 (by
      rintro ⟨j, hj, h1, h2⟩
      by_cases a : j < 5
      · simp only [a, if_true] at h2; omega
      · simp only [a, if_false] at h1; omega)
    simpa using this
  obtain rfl : a0 = .int .i64 v0 := by have := hvals 0 (by omega); rw [← HE0.out] at this; simp only [show (0 : Nat) < 5 by omega, if_true] at this; rw [cell_of_row _ _ _ _ _ _ g1] at this; simpa using this
  obtain rfl : a1 = .int .i64 v1 := by have := hvals 1 (by omega); rw [← HE1.out] at this; simp only [show (1 : Nat) < 5 by omega, if_true] at this; rw [cell_of_row _ _ _ _ _ _ g1] at this; simpa using this
  obtain rfl : a2 = .int .i64 v2 := by have := hvals 2 (by omega); rw [← HE2.out] at this; simp only [show (2 : Nat) < 5 by omega, if_true] at this; rw [cell_of_row _ _ _ _ _ _ g1] at this; simpa using this
  obtain rfl : a3 = .int .i64 v3 := by have := hvals 3 (by omega); rw [← HE3.out] at this; simp only [show (3 : Nat) < 5 by omega, if_true] at this; rw [cell_of_row _ _ _ _ _ _ g1] at this; simpa using this
  obtain rfl : a4 = .int .i64 v4 := by have := hvals 4 (by omega); rw [← HE4.out] at this; simp only [show (4 : Nat) < 5 by omega, if_true] at this; rw [cell_of_row _ _ _ _ _ _ g1] at this; simpa using this
  obtain rfl : u7 = .int .i64 v5 := by have := hvals 5 (by omega); rw [← HE5.out] at this; simp only [show ¬ (5 : Nat) < 5 by omega, if_false] at this; rw [cell_of_row _ _ _ _ _ _ g3] at this; simpa using this
  have HT := stext v B (rdAll B (0, true) 6).1 (rdAll B (0, true) 6).2 g t w6 hg6 hv6 HB.out (by omega) x1 (by omega)
  have e9 : ((rdAll B (0, true) 6).1, (rdAll B (0, true) 6).2) = rdAll B (0, true) 6 := rfl
  rw [e9, ← HTT.out] at HT
  have HTX := Lib.hid HT
  have HQG : Hid (q6 ≠ g ∧ q6 + 1 ≠ g) := Lib.hid (by have := HGL.out; omega)
  have HG1 := Lib.hid g1
  have HG3' := Lib.hid g3
  have c1 := hX6.cellv HC1.out
  clear hvals hshp hch g2 g4 g5 hX5 HA HW5 HWL HR P6 P7 hx5 HT e9 hg6 hv6 g1 g3
  go_wp2_with fail
  refine HTX.out.mono ?_
  rintro e w7 ⟨vt, rfl, ho, hg7, hc7⟩
  have g1 := (hc7.block q6 (Array.getElem?_eq_some_iff.1 HG1.out).1 (by simpa using HQG.out.1)).trans HG1.out
  have g3 := (hc7.block (q6 + 1) (Array.getElem?_eq_some_iff.1 HG3'.out).1 (by simpa using HQG.out.2)).trans HG3'.out
  have hX7 : Ext w w7 := hX6.chg hc7 (by simpa using HGR.out)
  have fz := frozen_row g1 5
  have k5 := cell_of_row w7 q6 5 _ _ _ g1
  simp at k5
  obtain ⟨aT, nT, cT, rfl⟩ := ho.rd.isSlice
  have HO : Hid (OwnI .u8 5 w.heap.size w7 (.slice aT nT cT) tt) := Lib.hid (ho.mono hX6.size)
  have hob : ∀ b, (Value.slice aT nT cT).ownBlock = some b → b ≠ q6 := fun b hb => by have := (ho.lt b hb).1; have := (Array.getElem?_eq_some_iff.1 HG1.out).1; omega
  have HOB := Lib.hid hob
  have HG1 := Lib.hid g1
  have HG3' := Lib.hid g3
  have HG7 := Lib.hid hg7
  clear ho hg7 hc7 g1 g3 c1 hob
  go_upto_region 4 with fail
  have h8 : (w7.setCell ⟨q6, 5, none⟩ (.slice aT nT cT)).heap[q6]? = some (.cells #[.int .i64 v0, .int .i64 v1, .int .i64 v2, .int .i64 v3, .int .i64 v4, .slice aT nT cT] 38) := by simpa using heap_set (o := 5) HG1.out (.slice aT nT cT)
  have h9 : (w7.setCell ⟨q6, 5, none⟩ (.slice aT nT cT)).heap[q6 + 1]? = some (.cells #[.int .i64 v5] 3) := (Below.heap_setCell _ _ _ _ (by simp)).trans HG3'.out
  have h10 : (w7.setCell ⟨q6, 5, none⟩ (.slice aT nT cT)).heap[g]? = _ := (Below.heap_setCell _ _ _ _ (fun e => HQG.out.1 e.symm)).trans HG7.out
  have hX8 : Ext w (w7.setCell ⟨q6, 5, none⟩ (.slice aT nT cT)) := Below.setCell hX7 (p := ⟨q6, 5, none⟩) (by have := HQ6.out; simp; omega) _
  have HO8 : Hid (OwnI .u8 5 w.heap.size (w7.setCell ⟨q6, 5, none⟩ (.slice aT nT cT)) (.slice aT nT cT) tt) := Lib.hid (by
    refine own_other HO.out (fun b hb => ?_) _
    exact HOB.out b hb)
  generalize (w7.setCell ⟨q6, 5, none⟩ (.slice aT nT cT)) = w8 at *
  have m0 := cell_of_row w8 q6 0 _ _ _ h8
  have m1 := cell_of_row w8 q6 1 _ _ _ h8
  have m2 := cell_of_row w8 q6 2 _ _ _ h8
  have m3 := cell_of_row w8 q6 3 _ _ _ h8
  have m4 := cell_of_row w8 q6 4 _ _ _ h8
  have m5 := cell_of_row w8 q6 5 _ _ _ h8
  have m6 := cell_of_row w8 (q6 + 1) 0 _ _ _ h9
  have m7 := cell_of_row w8 g 2 _ _ _ h10
  simp at m0 m1 m2 m3 m4 m5 m6 m7
  have f0 := fun o => frozen_row h8 o
  have f1 := frozen_row h9 0
  have c0 := hX8.cellv HC0.out
  have c1 := hX8.cellv HC1.out
  have c2 := hX8.cellv HC2.out
  have c3 := hX8.cellv HC3.out
  have H8 := Lib.hid h8
  have H9 := Lib.hid h9
  clear h8 h9 h10 k5 fz HG1 HG3' HG7 hX6 hX7
  have six8 : ∀ w', Ext w8 w' → Ext w8 ((((((w'.setCell ⟨q6, 0, none⟩ (.int .i64 v0)).setCell ⟨q6, 1, none⟩ (.int .i64 v1)).setCell ⟨q6, 2, none⟩ (.int .i64 v2)).setCell ⟨q6, 3, none⟩ (.int .i64 v3)).setCell ⟨q6, 4, none⟩ (.int .i64 v4)).setCell ⟨q6, 5, none⟩ (.slice aT nT cT)) := by
    intro w' hx
    have st : ∀ w', Ext w8 w' → w'.heap[q6]? = _ := fun w' hx => (Below.block hx q6 (Array.getElem?_eq_some_iff.1 H8.out).1).trans H8.out
    have e0 := hx.trans (setCell_idem (o := 0) (v := .int .i64 v0) (st _ hx) rfl)
    have e1 := e0.trans (setCell_idem (o := 1) (v := .int .i64 v1) (st _ e0) rfl)
    have e2 := e1.trans (setCell_idem (o := 2) (v := .int .i64 v2) (st _ e1) rfl)
    have e3 := e2.trans (setCell_idem (o := 3) (v := .int .i64 v3) (st _ e2) rfl)
    have e4 := e3.trans (setCell_idem (o := 4) (v := .int .i64 v4) (st _ e3) rfl)
    exact e4.trans (setCell_idem (o := 5) (v := .slice aT nT cT) (st _ e4) rfl)
  have one8 : ∀ w', Ext w8 w' → Ext w8 (w'.setCell ⟨q6 + 1, 0, none⟩ (.int .i64 v5)) := fun w' hx => hx.trans (setCell_idem (o := 0) (v := .int .i64 v5) ((Below.block hx (q6 + 1) (Array.getElem?_eq_some_iff.1 H9.out).1).trans H9.out) rfl)
  have fr8 : ∀ o w', Ext w8 w' → w'.frozen? ⟨q6, o, none⟩ = false := fun o w' hx => frozen_row ((Below.block hx q6 (Array.getElem?_eq_some_iff.1 H8.out).1).trans H8.out) o
  have fr9 : ∀ w', Ext w8 w' → w'.frozen? ⟨q6 + 1, 0, none⟩ = false := fun w' hx => frozen_row ((Below.block hx (q6 + 1) (Array.getElem?_eq_some_iff.1 H9.out).1).trans H9.out) 0
  have SIX := Lib.hid six8
  have ONE := Lib.hid one8
  have FR8 := Lib.hid fr8
  have FR9 := Lib.hid fr9
  clear six8 one8 fr8 fr9 f0 f1
  by_cases q0 : okt = true
  case neg =>
    obtain rfl : okt = false := by simpa using q0
    obtain rfl : is = false := by rw [HIS.out]; simp
    clear q0
    have mkS : ∀ w', Ext w8 w' → (w'.cell? ⟨q6, 0, none⟩ = some (.int .i64 v0) ∧ w'.cell? ⟨q6, 1, none⟩ = some (.int .i64 v1) ∧ w'.cell? ⟨q6, 2, none⟩ = some (.int .i64 v2) ∧ w'.cell? ⟨q6, 3, none⟩ = some (.int .i64 v3) ∧ w'.cell? ⟨q6, 4, none⟩ = some (.int .i64 v4) ∧ w'.cell? ⟨q6, 5, none⟩ = some (.slice aT nT cT) ∧ w'.cell? ⟨q6 + 1, 0, none⟩ = some (.int .i64 v5) ∧ w'.cell? ⟨g, 2, none⟩ = some (.bool false) ∧ w'.cell? ⟨ps, 0, none⟩ = some (.int .i64 x0) ∧ w'.cell? ⟨ps, 1, none⟩ = some (.int .i64 x1) ∧ w'.cell? ⟨ps, 2, none⟩ = some (.int .i64 x2) ∧ w'.cell? ⟨ps, 3, none⟩ = some (.int .i64 x3) ∧ w'.frozen? ⟨q6, 0, none⟩ = false ∧ w'.frozen? ⟨q6, 1, none⟩ = false ∧ w'.frozen? ⟨q6, 2, none⟩ = false ∧ w'.frozen? ⟨q6, 3, none⟩ = false ∧ w'.frozen? ⟨q6, 4, none⟩ = false ∧ w'.frozen? ⟨q6, 5, none⟩ = false ∧ w'.frozen? ⟨q6 + 1, 0, none⟩ = false ∧ Ext w8 w') := fun w' hxK => ⟨Ext.cellv (w := w8) hxK m0, Ext.cellv (w := w8) hxK m1, Ext.cellv (w := w8) hxK m2, Ext.cellv (w := w8) hxK m3, Ext.cellv (w := w8) hxK m4, Ext.cellv (w := w8) hxK m5, Ext.cellv (w := w8) hxK m6, Ext.cellv (w := w8) hxK m7, Ext.cellv (w := w8) hxK c0, Ext.cellv (w := w8) hxK c1, Ext.cellv (w := w8) hxK c2, Ext.cellv (w := w8) hxK c3, FR8.out 0 _ hxK, FR8.out 1 _ hxK, FR8.out 2 _ hxK, FR8.out 3 _ hxK, FR8.out 4 _ hxK, FR8.out 5 _ hxK, FR9.out _ hxK, hxK⟩
    have MKS := Lib.hid mkS
    clear mkS
    have fz0 := FR8.out 0 w8 (Ext.refl _)
    have fz1 := FR8.out 1 w8 (Ext.refl _)
    have fz2 := FR8.out 2 w8 (Ext.refl _)
    have fz3 := FR8.out 3 w8 (Ext.refl _)
    have fz4 := FR8.out 4 w8 (Ext.refl _)
    have fz5 := FR8.out 5 w8 (Ext.refl _)
    have fz6 := FR9.out w8 (Ext.refl _)
    refine wp_region_noPanic ?_
    refine wp_region_held_drew (S := (fun w' => w'.cell? ⟨q6, 0, none⟩ = some (.int .i64 v0) ∧ w'.cell? ⟨q6, 1, none⟩ = some (.int .i64 v1) ∧ w'.cell? ⟨q6, 2, none⟩ = some (.int .i64 v2) ∧ w'.cell? ⟨q6, 3, none⟩ = some (.int .i64 v3) ∧ w'.cell? ⟨q6, 4, none⟩ = some (.int .i64 v4) ∧ w'.cell? ⟨q6, 5, none⟩ = some (.slice aT nT cT) ∧ w'.cell? ⟨q6 + 1, 0, none⟩ = some (.int .i64 v5) ∧ w'.cell? ⟨g, 2, none⟩ = some (.bool false) ∧ w'.cell? ⟨ps, 0, none⟩ = some (.int .i64 x0) ∧ w'.cell? ⟨ps, 1, none⟩ = some (.int .i64 x1) ∧ w'.cell? ⟨ps, 2, none⟩ = some (.int .i64 x2) ∧ w'.cell? ⟨ps, 3, none⟩ = some (.int .i64 x3) ∧ w'.frozen? ⟨q6, 0, none⟩ = false ∧ w'.frozen? ⟨q6, 1, none⟩ = false ∧ w'.frozen? ⟨q6, 2, none⟩ = false ∧ w'.frozen? ⟨q6, 3, none⟩ = false ∧ w'.frozen? ⟨q6, 4, none⟩ = false ∧ w'.frozen? ⟨q6, 5, none⟩ = false ∧ w'.frozen? ⟨q6 + 1, 0, none⟩ = false ∧ Ext w8 w')) (by kernel_rfl) ?_ (fun hHeld => ?_)
    · try dsimp only
      exact MKS.out _ (by (repeat' (first | (with_reducible exact Ext.refl _) | (with_reducible assumption) | (with_reducible refine Ext.alloc ?_ _) | (with_reducible refine Ext.drewN ?_ _) | (with_reducible refine Ext.drew ?_) | (with_reducible refine Ext.trans ?_ (by assumption)))); done)
    refine wpAnyH_take (i := 0) (v := ?_) rfl (by kernel_rfl) (by kernel_rfl) (by kernel_rfl) (fun _ _ _ h => h) (Or.inl ⟨by rfl, ?_⟩) (by assumption) ?_
    rotate_left
    · (intro w9 hSw; (try dsimp only at hSw); go_simp; try with_reducible rfl)
    try simp only [Act.put, List.getElem_toArray, List.getElem_cons_zero, List.setIfInBounds_toArray, List.set_cons_zero, List.set_cons_succ]
    refine wpAnyH_take (i := 1) (v := ?_) rfl (by kernel_rfl) (by kernel_rfl) (by kernel_rfl) (fun _ _ _ h => h) (Or.inl ⟨by rfl, ?_⟩) (by assumption) ?_
    rotate_left
    · (intro w9 hSw; (try dsimp only at hSw); go_simp; try with_reducible rfl)
    try simp only [Act.put, List.getElem_toArray, List.getElem_cons_succ, List.getElem_cons_zero, List.setIfInBounds_toArray, List.set_cons_zero, List.set_cons_succ]
    refine wpAnyH_take (i := 2) (v := ?_) rfl (by kernel_rfl) (by kernel_rfl) (by kernel_rfl) (fun _ _ _ h => h) (Or.inl ⟨by rfl, ?_⟩) (by assumption) ?_
    rotate_left
    · (intro w9 hSw; (try dsimp only at hSw); go_simp; try with_reducible rfl)
    try simp only [Act.put, List.getElem_toArray, List.getElem_cons_succ, List.getElem_cons_zero, List.setIfInBounds_toArray, List.set_cons_zero, List.set_cons_succ]
    refine wpAnyH_take (i := 3) (v := ?_) rfl (by kernel_rfl) (by kernel_rfl) (by kernel_rfl) (fun _ _ _ h => h) (Or.inl ⟨by rfl, ?_⟩) (by assumption) ?_
    rotate_left
    · (intro w9 hSw; (try dsimp only at hSw); go_simp; try with_reducible rfl)
    try simp only [Act.put, List.getElem_toArray, List.getElem_cons_succ, List.getElem_cons_zero, List.setIfInBounds_toArray, List.set_cons_zero, List.set_cons_succ]
    refine wpAnyH_take (i := 4) (v := ?_) rfl (by kernel_rfl) (by kernel_rfl) (by kernel_rfl) (fun _ _ _ h => h) (Or.inl ⟨by rfl, ?_⟩) (by assumption) ?_
    rotate_left
    · (intro w9 hSw; (try dsimp only at hSw); go_simp; try with_reducible rfl)
    try simp only [Act.put, List.getElem_toArray, List.getElem_cons_succ, List.getElem_cons_zero, List.setIfInBounds_toArray, List.set_cons_zero, List.set_cons_succ]
    refine wpAnyH_take (i := 5) (v := ?_) rfl (by kernel_rfl) (by kernel_rfl) (by kernel_rfl) (fun _ _ _ h => h) (Or.inl ⟨by rfl, ?_⟩) (by assumption) ?_
    rotate_left
    · (intro w9 hSw; (try dsimp only at hSw); go_simp; try with_reducible rfl)
    try simp only [Act.put, List.getElem_toArray, List.getElem_cons_succ, List.getElem_cons_zero, List.setIfInBounds_toArray, List.set_cons_zero, List.set_cons_succ]
    refine wpAnyH_take (i := 6) (v := ?_) rfl (by kernel_rfl) (by kernel_rfl) (by kernel_rfl) (fun _ _ _ h => h) (Or.inl ⟨by rfl, ?_⟩) (by assumption) ?_
    rotate_left
    · (intro w9 hSw; (try dsimp only at hSw); go_simp; try with_reducible rfl)
    try simp only [Act.put, List.getElem_toArray, List.getElem_cons_succ, List.getElem_cons_zero, List.setIfInBounds_toArray, List.set_cons_zero, List.set_cons_succ]
    refine wpAnyH_take (i := 7) (v := undef) rfl (by kernel_rfl) (by kernel_rfl) (by kernel_rfl) (fun _ _ _ h => h) (Or.inr ⟨by rfl, rfl⟩) (by assumption) ?_
    try simp only [Act.put, List.getElem_toArray, List.getElem_cons_succ, List.getElem_cons_zero, List.setIfInBounds_toArray, List.set_cons_zero, List.set_cons_succ]
    refine wpAnyH_take (i := 8) (v := undef) rfl (by kernel_rfl) (by kernel_rfl) (by kernel_rfl) (fun _ _ _ h => h) (Or.inr ⟨by rfl, rfl⟩) (by assumption) ?_
    try simp only [Act.put, List.getElem_toArray, List.getElem_cons_succ, List.getElem_cons_zero, List.setIfInBounds_toArray, List.set_cons_zero, List.set_cons_succ]
    refine wpAnyH_take (i := 9) (v := undef) rfl (by kernel_rfl) (by kernel_rfl) (by kernel_rfl) (fun _ _ _ h => h) (Or.inr ⟨by rfl, rfl⟩) (by assumption) ?_
    try simp only [Act.put, List.getElem_toArray, List.getElem_cons_succ, List.getElem_cons_zero, List.setIfInBounds_toArray, List.set_cons_zero, List.set_cons_succ]
    refine wpAnyH_take (i := 10) (v := undef) rfl (by kernel_rfl) (by kernel_rfl) (by kernel_rfl) (fun _ _ _ h => h) (Or.inr ⟨by rfl, rfl⟩) (by assumption) ?_
    try simp only [Act.put, List.getElem_toArray, List.getElem_cons_succ, List.getElem_cons_zero, List.setIfInBounds_toArray, List.set_cons_zero, List.set_cons_succ]
    refine wpAnyH_take (i := 11) (v := undef) rfl (by kernel_rfl) (by kernel_rfl) (by kernel_rfl) (fun _ _ _ h => h) (Or.inr ⟨by rfl, rfl⟩) (by assumption) ?_
    try simp only [Act.put, List.getElem_toArray, List.getElem_cons_succ, List.getElem_cons_zero, List.setIfInBounds_toArray, List.set_cons_zero, List.set_cons_succ]
    refine wpAnyH_take (i := 12) (v := undef) rfl (by kernel_rfl) (by kernel_rfl) (by kernel_rfl) (fun _ _ _ h => h) (Or.inr ⟨by rfl, rfl⟩) (by assumption) ?_
    try simp only [Act.put, List.getElem_toArray, List.getElem_cons_succ, List.getElem_cons_zero, List.setIfInBounds_toArray, List.set_cons_zero, List.set_cons_succ]
    refine wpAnyH_take (i := 13) (v := ?_) rfl (by kernel_rfl) (by kernel_rfl) (by kernel_rfl) (fun _ _ _ h => h) (Or.inl ⟨by rfl, ?_⟩) (by assumption) ?_
    rotate_left
    · (intro w9 hSw; (try dsimp only at hSw); go_simp; try with_reducible rfl)
    try simp only [Act.put, List.getElem_toArray, List.getElem_cons_succ, List.getElem_cons_zero, List.setIfInBounds_toArray, List.set_cons_zero, List.set_cons_succ]
    refine wpAnyH_take (i := 14) (v := ?_) rfl (by kernel_rfl) (by kernel_rfl) (by kernel_rfl) (fun _ _ _ h => h) (Or.inl ⟨by rfl, ?_⟩) (by assumption) ?_
    rotate_left
    · (intro w9 hSw; (try dsimp only at hSw); go_simp; try with_reducible rfl)
    try simp only [Act.put, List.getElem_toArray, List.getElem_cons_succ, List.getElem_cons_zero, List.setIfInBounds_toArray, List.set_cons_zero, List.set_cons_succ]
    refine wpAnyH_take (i := 15) (v := undef) rfl (by kernel_rfl) (by kernel_rfl) (by kernel_rfl) (fun _ _ _ h => h) (Or.inr ⟨by rfl, rfl⟩) (by assumption) ?_
    try simp only [Act.put, List.getElem_toArray, List.getElem_cons_succ, List.getElem_cons_zero, List.setIfInBounds_toArray, List.set_cons_zero, List.set_cons_succ]
    refine wpAnyH_take (i := 16) (v := undef) rfl (by kernel_rfl) (by kernel_rfl) (by kernel_rfl) (fun _ _ _ h => h) (Or.inr ⟨by rfl, rfl⟩) (by assumption) ?_
    try simp only [Act.put, List.getElem_toArray, List.getElem_cons_succ, List.getElem_cons_zero, List.setIfInBounds_toArray, List.set_cons_zero, List.set_cons_succ]
    refine wpAnyH_take (i := 17) (v := undef) rfl (by kernel_rfl) (by kernel_rfl) (by kernel_rfl) (fun _ _ _ h => h) (Or.inr ⟨by rfl, rfl⟩) (by assumption) ?_
    try simp only [Act.put, List.getElem_toArray, List.getElem_cons_succ, List.getElem_cons_zero, List.setIfInBounds_toArray, List.set_cons_zero, List.set_cons_succ]
    refine wpAnyH_take (i := 18) (v := undef) rfl (by kernel_rfl) (by kernel_rfl) (by kernel_rfl) (fun _ _ _ h => h) (Or.inr ⟨by rfl, rfl⟩) (by assumption) ?_
    try simp only [Act.put, List.getElem_toArray, List.getElem_cons_succ, List.getElem_cons_zero, List.setIfInBounds_toArray, List.set_cons_zero, List.set_cons_succ]
    refine wpAnyH_take (i := 19) (v := undef) rfl (by kernel_rfl) (by kernel_rfl) (by kernel_rfl) (fun _ _ _ h => h) (Or.inr ⟨by rfl, rfl⟩) (by assumption) ?_
    try simp only [Act.put, List.getElem_toArray, List.getElem_cons_succ, List.getElem_cons_zero, List.setIfInBounds_toArray, List.set_cons_zero, List.set_cons_succ]
    refine wpAnyH_take (i := 20) (v := undef) rfl (by kernel_rfl) (by kernel_rfl) (by kernel_rfl) (fun _ _ _ h => h) (Or.inr ⟨by rfl, rfl⟩) (by assumption) ?_
    try simp only [Act.put, List.getElem_toArray, List.getElem_cons_succ, List.getElem_cons_zero, List.setIfInBounds_toArray, List.set_cons_zero, List.set_cons_succ]
    refine wpAnyH_take (i := 21) (v := undef) rfl (by kernel_rfl) (by kernel_rfl) (by kernel_rfl) (fun _ _ _ h => h) (Or.inr ⟨by rfl, rfl⟩) (by assumption) ?_
    try simp only [Act.put, List.getElem_toArray, List.getElem_cons_succ, List.getElem_cons_zero, List.setIfInBounds_toArray, List.set_cons_zero, List.set_cons_succ]
    refine wpAnyH_take (i := 22) (v := undef) rfl (by kernel_rfl) (by kernel_rfl) (by kernel_rfl) (fun _ _ _ h => h) (Or.inr ⟨by rfl, rfl⟩) (by assumption) ?_
    try simp only [Act.put, List.getElem_toArray, List.getElem_cons_succ, List.getElem_cons_zero, List.setIfInBounds_toArray, List.set_cons_zero, List.set_cons_succ]
    refine wpAnyH_take (i := 23) (v := ?_) rfl (by kernel_rfl) (by kernel_rfl) (by kernel_rfl) (fun _ _ _ h => h) (Or.inl ⟨by rfl, ?_⟩) (by assumption) ?_
    rotate_left
    · (intro w9 hSw; (try dsimp only at hSw); go_simp; try with_reducible rfl)
    try simp only [Act.put, List.getElem_toArray, List.getElem_cons_succ, List.getElem_cons_zero, List.setIfInBounds_toArray, List.set_cons_zero, List.set_cons_succ]
    refine wpAnyH_take (i := 24) (v := ?_) rfl (by kernel_rfl) (by kernel_rfl) (by kernel_rfl) (fun _ _ _ h => h) (Or.inl ⟨by rfl, ?_⟩) (by assumption) ?_
    rotate_left
    · (intro w9 hSw; (try dsimp only at hSw); go_simp; try with_reducible rfl)
    try simp only [Act.put, List.getElem_toArray, List.getElem_cons_succ, List.getElem_cons_zero, List.setIfInBounds_toArray, List.set_cons_zero, List.set_cons_succ]
    refine wpAnyH_take (i := 25) (v := undef) rfl (by kernel_rfl) (by kernel_rfl) (by kernel_rfl) (fun _ _ _ h => h) (Or.inr ⟨by rfl, rfl⟩) (by assumption) ?_
    try simp only [Act.put, List.getElem_toArray, List.getElem_cons_succ, List.getElem_cons_zero, List.setIfInBounds_toArray, List.set_cons_zero, List.set_cons_succ]
    refine wpAnyH_take (i := 26) (v := undef) rfl (by kernel_rfl) (by kernel_rfl) (by kernel_rfl) (fun _ _ _ h => h) (Or.inr ⟨by rfl, rfl⟩) (by assumption) ?_
    try simp only [Act.put, List.getElem_toArray, List.getElem_cons_succ, List.getElem_cons_zero, List.setIfInBounds_toArray, List.set_cons_zero, List.set_cons_succ]
    refine wpAnyH_take (i := 27) (v := ?_) rfl (by kernel_rfl) (by kernel_rfl) (by kernel_rfl) (fun _ _ _ h => h) (Or.inl ⟨by rfl, ?_⟩) (by assumption) ?_
    rotate_left
    · (intro w9 hSw; (try dsimp only at hSw); go_simp; try with_reducible rfl)
    try simp only [Act.put, List.getElem_toArray, List.getElem_cons_succ, List.getElem_cons_zero, List.setIfInBounds_toArray, List.set_cons_zero, List.set_cons_succ]
    refine wpAnyH_take (i := 28) (v := ?_) rfl (by kernel_rfl) (by kernel_rfl) (by kernel_rfl) (fun _ _ _ h => h) (Or.inl ⟨by rfl, ?_⟩) (by assumption) ?_
    rotate_left
    · (intro w9 hSw; (try dsimp only at hSw); go_simp; try with_reducible rfl)
    try simp only [Act.put, List.getElem_toArray, List.getElem_cons_succ, List.getElem_cons_zero, List.setIfInBounds_toArray, List.set_cons_zero, List.set_cons_succ]
    refine wpAnyH_take (i := 29) (v := undef) rfl (by kernel_rfl) (by kernel_rfl) (by kernel_rfl) (fun _ _ _ h => h) (Or.inr ⟨by rfl, rfl⟩) (by assumption) ?_
    try simp only [Act.put, List.getElem_toArray, List.getElem_cons_succ, List.getElem_cons_zero, List.setIfInBounds_toArray, List.set_cons_zero, List.set_cons_succ]
    refine wpAnyH_take (i := 30) (v := undef) rfl (by kernel_rfl) (by kernel_rfl) (by kernel_rfl) (fun _ _ _ h => h) (Or.inr ⟨by rfl, rfl⟩) (by assumption) ?_
    try simp only [Act.put, List.getElem_toArray, List.getElem_cons_succ, List.getElem_cons_zero, List.setIfInBounds_toArray, List.set_cons_zero, List.set_cons_succ]
    refine wpAnyH_take (i := 31) (v := ?_) rfl (by kernel_rfl) (by kernel_rfl) (by kernel_rfl) (fun _ _ _ h => h) (Or.inl ⟨by rfl, ?_⟩) (by assumption) ?_
    rotate_left
    · (intro w9 hSw; (try dsimp only at hSw); go_simp; try with_reducible rfl)
    try simp only [Act.put, List.getElem_toArray, List.getElem_cons_succ, List.getElem_cons_zero, List.setIfInBounds_toArray, List.set_cons_zero, List.set_cons_succ]
    refine wpAnyH_ready (rs := [32]) (by kernel_rfl) (by simp) ?_
    refine AllReadyH.cons rfl (fun K hK => ?_) AllReadyH.nil
    (try dsimp only at hHeld)
    go_simp
    have hE : Ext w8 ((((((w8.setCell ⟨q6, 0, none⟩ (.int .i64 v0)).setCell ⟨q6, 1, none⟩ (.int .i64 v1)).setCell ⟨q6, 2, none⟩ (.int .i64 v2)).setCell ⟨q6, 3, none⟩ (.int .i64 v3)).setCell ⟨q6, 4, none⟩ (.int .i64 v4)).setCell ⟨q6, 5, none⟩ (.slice aT nT cT)).drew := (SIX.out w8 (Ext.refl _)).drew
    clear hHeld
    generalize ((((((w8.setCell ⟨q6, 0, none⟩ (.int .i64 v0)).setCell ⟨q6, 1, none⟩ (.int .i64 v1)).setCell ⟨q6, 2, none⟩ (.int .i64 v2)).setCell ⟨q6, 3, none⟩ (.int .i64 v3)).setCell ⟨q6, 4, none⟩ (.int .i64 v4)).setCell ⟨q6, 5, none⟩ (.slice aT nT cT)).drew = w10 at *
    refine hK.out _ _ (MKS.out _ hE) (fun hHeld => ?_)
    clear hK K
    try simp only [Act.put, List.getElem_toArray, List.getElem_cons_succ, List.getElem_cons_zero, List.setIfInBounds_toArray, List.set_cons_zero, List.set_cons_succ]
    refine wpAnyH_ready (rs := [33]) (by kernel_rfl) (by simp) ?_
    refine AllReadyH.cons rfl (fun K hK => ?_) AllReadyH.nil
    have fz7 := FR9.out w10 hE
    (try dsimp only at hHeld)
    go_simp
    have hE2 : Ext w8 (w10.setCell ⟨q6 + 1, 0, none⟩ (.int .i64 v5)) := ONE.out _ hE
    clear hHeld
    generalize w10.setCell ⟨q6 + 1, 0, none⟩ (.int .i64 v5) = w11 at *
    refine hK.out _ _ (MKS.out _ hE2) (fun hHeld => ?_)
    clear hK K
    try simp only [Act.put, List.getElem_toArray, List.getElem_cons_succ, List.getElem_cons_zero, List.setIfInBounds_toArray, List.set_cons_zero, List.set_cons_succ]
    refine wpAnyH_take (i := 34) (v := ?_) rfl (by kernel_rfl) (by kernel_rfl) (by kernel_rfl) (fun _ _ _ h => h) (Or.inl ⟨by rfl, ?_⟩) (by assumption) ?_
    rotate_left
    · (intro w9 hSw; (try dsimp only at hSw); go_simp; try with_reducible rfl)
    try simp only [Act.put, List.getElem_toArray, List.getElem_cons_succ, List.getElem_cons_zero, List.setIfInBounds_toArray, List.set_cons_zero, List.set_cons_succ]
    refine wpAnyH_done (by kernel_rfl) ?_ _
    refine NoPanic.normal ?_
    have h11 := (Below.block hE2 q6 (Array.getElem?_eq_some_iff.1 H8.out).1).trans H8.out
    have h12 := hE2.cellv m6
    have HO9 := Lib.hid (HO8.out.ext hE2)
    have hXF := hX8.trans hE2
    have H11 := Lib.hid h11
    have H12 := Lib.hid h12
    clear h11 h12
    go_wp2_with fail
    exact bodyPost_ret (results_rct rfl _ _ q6 (q6 + 1) _ _ _ _ rfl rfl H11.out H12.out (by kernel_rfl)) rfl ⟨_, rfl, HO9.out, hXF⟩
  subst q0
  have mkS : ∀ w', Ext w8 w' → (w'.cell? ⟨q6, 0, none⟩ = some (.int .i64 v0) ∧ w'.cell? ⟨q6, 1, none⟩ = some (.int .i64 v1) ∧ w'.cell? ⟨q6, 2, none⟩ = some (.int .i64 v2) ∧ w'.cell? ⟨q6, 3, none⟩ = some (.int .i64 v3) ∧ w'.cell? ⟨q6, 4, none⟩ = some (.int .i64 v4) ∧ w'.cell? ⟨q6, 5, none⟩ = some (.slice aT nT cT) ∧ w'.cell? ⟨q6 + 1, 0, none⟩ = some (.int .i64 v5) ∧ w'.cell? ⟨g, 2, none⟩ = some (.bool true) ∧ w'.cell? ⟨ps, 0, none⟩ = some (.int .i64 x0) ∧ w'.cell? ⟨ps, 1, none⟩ = some (.int .i64 x1) ∧ w'.cell? ⟨ps, 2, none⟩ = some (.int .i64 x2) ∧ w'.cell? ⟨ps, 3, none⟩ = some (.int .i64 x3) ∧ w'.frozen? ⟨q6, 0, none⟩ = false ∧ w'.frozen? ⟨q6, 1, none⟩ = false ∧ w'.frozen? ⟨q6, 2, none⟩ = false ∧ w'.frozen? ⟨q6, 3, none⟩ = false ∧ w'.frozen? ⟨q6, 4, none⟩ = false ∧ w'.frozen? ⟨q6, 5, none⟩ = false ∧ w'.frozen? ⟨q6 + 1, 0, none⟩ = false ∧ Ext w8 w') := fun w' hxK => ⟨Ext.cellv (w := w8) hxK m0, Ext.cellv (w := w8) hxK m1, Ext.cellv (w := w8) hxK m2, Ext.cellv (w := w8) hxK m3, Ext.cellv (w := w8) hxK m4, Ext.cellv (w := w8) hxK m5, Ext.cellv (w := w8) hxK m6, Ext.cellv (w := w8) hxK m7, Ext.cellv (w := w8) hxK c0, Ext.cellv (w := w8) hxK c1, Ext.cellv (w := w8) hxK c2, Ext.cellv (w := w8) hxK c3, FR8.out 0 _ hxK, FR8.out 1 _ hxK, FR8.out 2 _ hxK, FR8.out 3 _ hxK, FR8.out 4 _ hxK, FR8.out 5 _ hxK, FR9.out _ hxK, hxK⟩
  have MKS := Lib.hid mkS
  clear mkS
  obtain ⟨_, q1, q2, q3, q4⟩ := HJ.out.resolve_left (by simp)
  obtain rfl : is = true := by rw [HIS.out]; exact decide_eq_true ⟨rfl, q1, q2, q3, q4⟩
  have HFR : Hid (decide (FitW h v0 v1 v2 v3) = true) := Lib.hid (decide_eq_true q1)
  clear q1
  go_region_held3 (fun w' => w'.cell? ⟨q6, 0, none⟩ = some (.int .i64 v0) ∧ w'.cell? ⟨q6, 1, none⟩ = some (.int .i64 v1) ∧ w'.cell? ⟨q6, 2, none⟩ = some (.int .i64 v2) ∧ w'.cell? ⟨q6, 3, none⟩ = some (.int .i64 v3) ∧ w'.cell? ⟨q6, 4, none⟩ = some (.int .i64 v4) ∧ w'.cell? ⟨q6, 5, none⟩ = some (.slice aT nT cT) ∧ w'.cell? ⟨q6 + 1, 0, none⟩ = some (.int .i64 v5) ∧ w'.cell? ⟨g, 2, none⟩ = some (.bool true) ∧ w'.cell? ⟨ps, 0, none⟩ = some (.int .i64 x0) ∧ w'.cell? ⟨ps, 1, none⟩ = some (.int .i64 x1) ∧ w'.cell? ⟨ps, 2, none⟩ = some (.int .i64 x2) ∧ w'.cell? ⟨ps, 3, none⟩ = some (.int .i64 x3) ∧ w'.frozen? ⟨q6, 0, none⟩ = false ∧ w'.frozen? ⟨q6, 1, none⟩ = false ∧ w'.frozen? ⟨q6, 2, none⟩ = false ∧ w'.frozen? ⟨q6, 3, none⟩ = false ∧ w'.frozen? ⟨q6, 4, none⟩ = false ∧ w'.frozen? ⟨q6, 5, none⟩ = false ∧ w'.frozen? ⟨q6 + 1, 0, none⟩ = false ∧ Ext w8 w') (first | with_reducible exact MKS.out _ (ONE.out _ (SIX.out _ (by (repeat' (first | (with_reducible exact Ext.refl _) | (with_reducible assumption) | (with_reducible refine Ext.alloc ?_ _) | (with_reducible refine Ext.drewN ?_ _) | (with_reducible refine Ext.drew ?_) | (with_reducible refine Ext.trans ?_ (by assumption)))); done))) | with_reducible exact MKS.out _ (SIX.out _ (by (repeat' (first | (with_reducible exact Ext.refl _) | (with_reducible assumption) | (with_reducible refine Ext.alloc ?_ _) | (with_reducible refine Ext.drewN ?_ _) | (with_reducible refine Ext.drew ?_) | (with_reducible refine Ext.trans ?_ (by assumption)))); done)) | with_reducible exact MKS.out _ (ONE.out _ (by (repeat' (first | (with_reducible exact Ext.refl _) | (with_reducible assumption) | (with_reducible refine Ext.alloc ?_ _) | (with_reducible refine Ext.drewN ?_ _) | (with_reducible refine Ext.drew ?_) | (with_reducible refine Ext.trans ?_ (by assumption)))); done)) | exact MKS.out _ (by (repeat' (first | (with_reducible exact Ext.refl _) | (with_reducible assumption) | (with_reducible refine Ext.alloc ?_ _) | (with_reducible refine Ext.drewN ?_ _) | (with_reducible refine Ext.drew ?_) | (with_reducible refine Ext.trans ?_ (by assumption)))); done)) ((go_at_call 34; refine Calls.mono (HFIT.out _ v0 v1 v2 v3 v4 (.slice aT nT cT) ⟨_, _, _, rfl⟩ true HFR.out) ?_; rintro e wF ⟨rfl, hxF⟩))
  all_goals
    have hE2 : Ext w8 (((((((wF.setCell ⟨q6, 0, none⟩ (.int .i64 v0)).setCell ⟨q6, 1, none⟩ (.int .i64 v1)).setCell ⟨q6, 2, none⟩ (.int .i64 v2)).setCell ⟨q6, 3, none⟩ (.int .i64 v3)).setCell ⟨q6, 4, none⟩ (.int .i64 v4)).setCell ⟨q6, 5, none⟩ (.slice aT nT cT)).setCell ⟨q6 + 1, 0, none⟩ (.int .i64 v5)) := ONE.out _ (SIX.out wF (by (repeat' (first | (with_reducible exact Ext.refl _) | (with_reducible assumption) | (with_reducible refine Ext.alloc ?_ _) | (with_reducible refine Ext.drewN ?_ _) | (with_reducible refine Ext.drew ?_) | (with_reducible refine Ext.trans ?_ (by assumption)))); done))
    generalize (((((((wF.setCell ⟨q6, 0, none⟩ (.int .i64 v0)).setCell ⟨q6, 1, none⟩ (.int .i64 v1)).setCell ⟨q6, 2, none⟩ (.int .i64 v2)).setCell ⟨q6, 3, none⟩ (.int .i64 v3)).setCell ⟨q6, 4, none⟩ (.int .i64 v4)).setCell ⟨q6, 5, none⟩ (.slice aT nT cT)).setCell ⟨q6 + 1, 0, none⟩ (.int .i64 v5)) = w11 at *
    have h11 := (Below.block hE2 q6 (Array.getElem?_eq_some_iff.1 H8.out).1).trans H8.out
    have h12 := hE2.cellv m6
    have HO9 := Lib.hid (HO8.out.ext hE2)
    have hXF := hX8.trans hE2
    have H11 := Lib.hid h11
    have H12 := Lib.hid h12
    clear h11 h12
    go_wp2_with fail
    exact bodyPost_ret (results_rct rfl _ _ q6 (q6 + 1) _ _ _ _ rfl rfl H11.out H12.out (by kernel_rfl)) rfl ⟨_, rfl, HO9.out, hXF⟩
end
end Go.Proofs.Ytoadjmeopamgbaa
