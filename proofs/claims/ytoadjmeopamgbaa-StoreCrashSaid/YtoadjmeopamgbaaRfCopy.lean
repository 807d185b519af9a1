/-
  gradineref06.Store.Copy. No condition but that the store lies in memory.
-/
import Derived.Test.YtoadjmeopamgbaaRfStep
import Derived.Test.YtoadjmeopamgbaaRfNew
import Derived.Test.YtoadjmeopamgbaaRgGet
import Derived.Deep.CutRange
namespace Go.Proofs.Ytoadjmeopamgbaa
open Go.RowKit

def vcol (f : Nat → Value) (n : Nat) : List Value := (List.range n).map f
theorem vcol_len (f : Nat → Value) (n : Nat) : (vcol f n).length = n := by simp [vcol]
theorem vcol_at {f : Nat → Value} {n i : Nat} (hi : i < n) : (vcol f n)[i]? = some (f i) := by simp [vcol, hi]
theorem vcol_mem {f : Nat → Value} {n : Nat} {u : Value} (h : u ∈ vcol f n) : ∃ i, i < n ∧ u = f i := by
  unfold vcol at h
  obtain ⟨i, h1, h2⟩ := List.mem_map.1 h
  exact ⟨i, List.mem_range.1 h1, h2.symm⟩
theorem rd_vcol {w : World} {g n c : Nat} {f : Nat → Value} {cs : Array Value} {t : TypeId} (hg : w.heap[g]? = some (.cells cs t (0, 0))) (hc : ∀ i, i < n → cs[i]? = some (f i)) (hn : n ≤ c) (hm : c ≤ maxLen) : Rd w 1 (.slice (some ⟨g, 0, none⟩) n c) n (vcol f n) := by
  refine ⟨by simp [vcol_len], some ⟨g, 0, none⟩, c, rfl, hn, hm, fun h => (by cases h), fun h0 => ⟨g, 0, rfl, (Array.getElem?_eq_some_iff.1 hg).1, fun j u hu => ?_⟩⟩
  have hj : j < n := by have := (List.getElem?_eq_some_iff.1 hu).1; rwa [vcol_len] at this
  rw [vcol_at hj] at hu
  cases hu
  rw [Nat.zero_add, cell_of_row w g j _ _ _ hg]
  exact hc j hj
/-- the five columns of a store in memory -/
theorem RefAt.cols {w : World} {F : List Nat} {ps : Nat} {g : Nat → Nat} {h : Sh} {x : RX} (r : RefAt w F ps g h x) : ∃ (f : Nat → Nat → Value) (c : Nat → Nat), (∀ j, j < 5 → w.cell? ⟨ps, 4 + j, none⟩ = some (.slice (some ⟨g j, 0, none⟩) (rLen h j) (c j)) ∧ Rd w 1 (.slice (some ⟨g j, 0, none⟩) (rLen h j) (c j)) (rLen h j) (vcol (f j) (rLen h j)) ∧ ∀ u ∈ vcol (f j) (rLen h j), u.oneCell' = true) ∧ (∀ j, j < 5 → j ≠ 1 → ∀ i, i < rLen h j → f j i = .int .i64 (x.int j i)) ∧ (∀ i, i < h.b → RdI .u8 w (f 1 i) (x.data i) ∧ ∀ b, (f 1 i).ownBlock = some b → b ∉ F) := by
  obtain ⟨c, hc⟩ := r.rows
  obtain ⟨cs, t, hd, he⟩ := r.data
  have each : ∀ i, ∃ v : Value, i < h.b → cs[i]? = some v ∧ RdI .u8 w v (x.data i) ∧ ∀ b, v.ownBlock = some b → b ∉ F := by
    intro i
    by_cases hi : i < h.b
    · obtain ⟨v, h1, h2⟩ := he i hi; exact ⟨v, fun _ => ⟨h1, h2⟩⟩
    · exact ⟨.bool false, fun h => absurd h hi⟩
  obtain ⟨fd, hfd⟩ : ∃ fd : Nat → Value, ∀ i, i < h.b → cs[i]? = some (fd i) ∧ RdI .u8 w (fd i) (x.data i) ∧ ∀ b, (fd i).ownBlock = some b → b ∉ F := ⟨fun i => Classical.choose (each i), fun i => Classical.choose_spec (each i)⟩
  refine ⟨fun j i => if j = 1 then fd i else .int .i64 (x.int j i), c, fun j hj => ⟨(hc j hj).1, ?_, ?_⟩, fun j hj h1 i hi => by simp [h1], fun i hi => by simpa using (hfd i hi).2⟩
  · by_cases e : j = 1
    · subst e
      refine rd_vcol hd (fun i hi => ?_) (hc 1 hj).2.1 (hc 1 hj).2.2
      simpa using (hfd i (by unfold rLen at hi; simpa using hi)).1
    · obtain ⟨cs2, t2, h1, h2⟩ := r.ints j hj e
      refine rd_vcol h1 (fun i hi => ?_) (hc j hj).2.1 (hc j hj).2.2
      simpa [e] using h2 i hi
  · intro u hu
    obtain ⟨i, hi, rfl⟩ := vcol_mem hu
    by_cases e : j = 1
    · subst e
      obtain ⟨a, n, c', h9⟩ := (hfd i (by unfold rLen at hi; simpa using hi)).2.1.isSlice
      simp [h9, Value.oneCell']
    · simp [e, Value.oneCell']
theorem own_form {w : World} {B n : Nat} {e : TypeId} {v : Value} {xs : List Value} (h : w.ownsRow B e 1 v n xs) (hn : 0 < n) : ∃ g c, ∃ cs : Array Value, v = .slice (some ⟨g, 0, none⟩) n c ∧ B ≤ g ∧ g < w.heap.size ∧ w.heap[g]? = some (.cells cs e (0, 0)) ∧ n ≤ c ∧ c ≤ maxLen ∧ ∀ (i : Nat) (u : Value), xs[i]? = some u → cs[i]? = some u := by
  rcases h.2 with ⟨_, h2⟩ | ⟨g, cap, cur, h1, h2, h3, h4, h5, _, h6⟩
  · omega
  · refine ⟨g, cap, cur, h1, h2, (Array.getElem?_eq_some_iff.1 h3).1, h3, h4, h5, fun i u hu => ?_⟩
    rw [← h6, List.getElem?_take] at hu
    split at hu
    · simpa using hu
    · cases hu
/-- what a copy is, when it is made -/
theorem ref_of_copy {w : World} {ps : Nat} {t : TypeId} {h : Sh} {x : RX} {v : Nat → Value} {B : Nat → Nat} {f : Nat → Nat → Value} {F : List Nat}
    (row : w.heap[ps]? = some (.cells #[.int .i64 h.b, .int .i64 h.s, .int .i64 h.c, .int .i64 h.k, v 0, v 1, v 2, v 3, v 4] t (0, 0)))
    (own : ∀ j, j < 5 → w.ownsRow (B j) (eR j) 1 (v j) (rLen h j) (vcol (f j) (rLen h j))) (hB0 : ps < B 0) (hB : ∀ j q, j < 4 → (v j).ownBlock = some q → q < B (j + 1)) (hBB : ∀ j, j < 4 → B j ≤ B (j + 1)) (pos : ∀ j, j < 5 → 0 < rLen h j)
    (ints : ∀ j, j < 5 → j ≠ 1 → ∀ i, i < rLen h j → f j i = .int .i64 (x.int j i)) (data : ∀ i, i < h.b → RdI .u8 w (f 1 i) (x.data i) ∧ ∀ b, (f 1 i).ownBlock = some b → b < ps ∧ b ∉ F) :
    ∃ g : Nat → Nat, (∀ j, j < 5 → ps < g j ∧ g j < w.heap.size) ∧ ∀ G, ps ∈ G → (∀ j, j < 5 → g j ∈ G) → (∀ q ∈ G, q ∈ F ∨ ps ≤ q) → RefAt w G ps g h x := by
  have hk : ∀ j, j < 5 → ∃ g c cs, v j = .slice (some ⟨g, 0, none⟩) (rLen h j) c ∧ B j ≤ g ∧ g < w.heap.size ∧ w.heap[g]? = some (.cells cs (eR j) (0, 0)) ∧ rLen h j ≤ c ∧ c ≤ maxLen ∧ ∀ i u, (vcol (f j) (rLen h j))[i]? = some u → cs[i]? = some u := fun j hj => own_form (own j hj) (pos j hj)
  obtain ⟨g, hg⟩ : ∃ g : Nat → Nat, ∀ j, j < 5 → ∃ c cs, v j = .slice (some ⟨g j, 0, none⟩) (rLen h j) c ∧ B j ≤ g j ∧ g j < w.heap.size ∧ w.heap[g j]? = some (.cells cs (eR j) (0, 0)) ∧ rLen h j ≤ c ∧ c ≤ maxLen ∧ ∀ i u, (vcol (f j) (rLen h j))[i]? = some u → cs[i]? = some u := by
    refine ⟨fun j => ((v j).ownBlock).getD 0, fun j hj => ?_⟩
    obtain ⟨g, c, cs, h1, h2⟩ := hk j hj
    have e : ((v j).ownBlock).getD 0 = g := by rw [h1]; rfl
    show ∃ c cs, v j = .slice (some ⟨((v j).ownBlock).getD 0, 0, none⟩) (rLen h j) c ∧ B j ≤ ((v j).ownBlock).getD 0 ∧ ((v j).ownBlock).getD 0 < w.heap.size ∧ w.heap[((v j).ownBlock).getD 0]? = some (.cells cs (eR j) (0, 0)) ∧ _
    rw [e]
    exact ⟨c, cs, h1, h2⟩
  have hob : ∀ j, j < 5 → (v j).ownBlock = some (g j) := fun j hj => by obtain ⟨c, cs, h1, _⟩ := hg j hj; rw [h1]; rfl
  have hBm : ∀ i j, j < 5 → i < j → g i < B j := by
    intro i j
    induction j with
    | zero => intro _ h; omega
    | succ j ih =>
      intro hj hij
      by_cases e : i = j
      · subst e; exact hB i _ (by omega) (hob i (by omega))
      · have := ih (by omega) (by omega); have := hBB j (by omega); omega
  have hgB : ∀ j, j < 5 → B j ≤ g j := fun j hj => by obtain ⟨c, cs, _, h1, _⟩ := hg j hj; exact h1
  have hps : ∀ j, j < 5 → ps < g j := by
    intro j hj
    have hz : ∀ k, k < 5 → B 0 ≤ B k := by
      intro k
      induction k with
      | zero => intro _; exact Nat.le_refl _
      | succ k ih => intro hk; have := ih (by omega); have := hBB k (by omega); omega
    have := hgB j hj; have := hz j hj; omega
  refine ⟨g, fun j hj => ⟨hps j hj, by obtain ⟨c, cs, _, _, h1, _⟩ := hg j hj; exact h1⟩, fun G g1 g2 g3 => ⟨⟨_, t, fun j => match v j with | .slice _ _ c => c | _ => 0, row, rfl, rfl, rfl, rfl, fun j hj => ?_⟩, fun j hj h1 => ?_, ?_, g1, g2, fun i j hi hj e => ?_, fun j hj e => ?_⟩⟩
  · obtain ⟨c, cs, h1, _, _, _, h2, h3, _⟩ := hg j hj
    have e : (#[Value.int .i64 h.b, .int .i64 h.s, .int .i64 h.c, .int .i64 h.k, v 0, v 1, v 2, v 3, v 4] : Array Value)[4 + j]? = some (v j) := by
      match j, hj with
      | 0, _ => rfl
      | 1, _ => rfl
      | 2, _ => rfl
      | 3, _ => rfl
      | 4, _ => rfl
    rw [e]
    simp only [h1]
    exact ⟨trivial, h2, h3⟩
  · obtain ⟨c, cs, _, _, _, h4, _, _, h5⟩ := hg j hj
    refine ⟨cs, _, h4, fun i hi => ?_⟩
    rw [← ints j hj h1 i hi]
    exact h5 i _ (vcol_at hi)
  · obtain ⟨c, cs, _, _, _, h4, _, _, h5⟩ := hg 1 (by omega)
    refine ⟨cs, _, h4, fun i hi => ⟨f 1 i, h5 i _ (vcol_at (by unfold rLen; simpa using hi)), (data i hi).1, fun b hb hm => ?_⟩⟩
    obtain ⟨h6, h7⟩ := (data i hi).2 b hb
    rcases g3 b hm with e | e
    · exact h7 e
    · omega
  · rcases Nat.lt_trichotomy i j with hl | hl | hl
    · have h1 := hBm i j hj hl; have h2 := hgB j hj; omega
    · exact hl
    · have h1 := hBm j i hi hl; have h2 := hgB i hi; omega
  · have := hps j hj; omega

theorem texts_info : (Try.prog.info? 36).map (fun i => (i.zero, i.size, i.bytes)) = some (some (.slice none 0 0), 1, 24) := by kernel_rfl

set_option maxRecDepth 100000 in
set_option maxHeartbeats 8000000 in
theorem rcopy06 (w : World) (F : List Nat) (pr : Nat) (g : Nat → Nat) (h : Sh) (x : RX) (r : RefAt w F pr g h x) (ok : h.Ok) (hne : ∀ i, i < h.b → x.data i ≠ []) :
    Calls Try.prog 24 #[.pointer (some ⟨pr, 0, none⟩)] w fun e w' => ∃ (ps : Nat) (g' : Nat → Nat), e = .returned (.pointer (some ⟨ps, 0, none⟩)) ∧ w.heap.size ≤ ps ∧ ps < w'.heap.size ∧ (∀ j, j < 5 → ps < g' j ∧ g' j < w'.heap.size) ∧ (∀ G, ps ∈ G → (∀ j, j < 5 → g' j ∈ G) → (∀ q ∈ G, q ∈ F ∨ ps ≤ q) → RefAt w' G ps g' h x) ∧ Ext w w' := by
  obtain ⟨c0, c1, c2, c3⟩ := r.heads
  obtain ⟨f, c, hcol, hint, hdat⟩ := r.cols
  have hck := ok.ck
  have HPO : Hid (∀ j, j < 5 → 0 < rLen h j) := Lib.hid (fun j hj => by
    unfold rLen
    split
    · have := ok.b1; omega
    · exact Nat.mul_pos ok.c1 ok.k1)
  have HLM : Hid (∀ j, j < 5 → rLen h j ≤ 100) := Lib.hid (fun j hj => by
    unfold rLen
    split
    · have := ok.b2; omega
    · omega)
  have HIN := Lib.hid hint
  have HDA := Lib.hid (fun i (hi : i < h.b) => (show RdI .u8 w (f 1 i) (x.data i) ∧ ∀ b, (f 1 i).ownBlock = some b → b < w.heap.size ∧ b ∉ F by
    obtain ⟨h1, h2⟩ := hdat i hi
    refine ⟨h1, fun b hb => ⟨?_, h2 b hb⟩⟩
    obtain ⟨a, c', he, _, _, _, h3⟩ := h1.parts
    obtain ⟨b', o, rfl, h4, _⟩ := h3 (hne i hi)
    rw [he] at hb
    cases hb
    exact h4))
  obtain ⟨n0, hn0⟩ : ∃ n, n = rLen h 0 := ⟨_, rfl⟩
  obtain ⟨g0, hg0⟩ : ∃ n, n = g 0 := ⟨_, rfl⟩
  obtain ⟨k0, hk0⟩ : ∃ n, n = c 0 := ⟨_, rfl⟩
  obtain ⟨s0, r0, o0⟩ := hcol 0 (by omega)
  rw [← hn0, ← hg0, ← hk0] at s0
  rw [← hn0, ← hg0, ← hk0] at r0
  rw [← hn0] at o0
  have HR0 := Lib.hid r0
  have HO0 := Lib.hid o0
  have HN0 : Hid (n0 = rLen h 0 ∧ n0 ≤ 100) := Lib.hid ⟨hn0, by rw [hn0]; exact HLM.out 0 (by omega)⟩
  obtain ⟨n1, hn1⟩ : ∃ n, n = rLen h 1 := ⟨_, rfl⟩
  obtain ⟨g1, hg1⟩ : ∃ n, n = g 1 := ⟨_, rfl⟩
  obtain ⟨k1, hk1⟩ : ∃ n, n = c 1 := ⟨_, rfl⟩
  obtain ⟨s1, r1, o1⟩ := hcol 1 (by omega)
  rw [← hn1, ← hg1, ← hk1] at s1
  rw [← hn1, ← hg1, ← hk1] at r1
  rw [← hn1] at o1
  have HR1 := Lib.hid r1
  have HO1 := Lib.hid o1
  have HN1 : Hid (n1 = rLen h 1 ∧ n1 ≤ 100) := Lib.hid ⟨hn1, by rw [hn1]; exact HLM.out 1 (by omega)⟩
  obtain ⟨n2, hn2⟩ : ∃ n, n = rLen h 2 := ⟨_, rfl⟩
  obtain ⟨g2, hg2⟩ : ∃ n, n = g 2 := ⟨_, rfl⟩
  obtain ⟨k2, hk2⟩ : ∃ n, n = c 2 := ⟨_, rfl⟩
  obtain ⟨s2, r2, o2⟩ := hcol 2 (by omega)
  rw [← hn2, ← hg2, ← hk2] at s2
  rw [← hn2, ← hg2, ← hk2] at r2
  rw [← hn2] at o2
  have HR2 := Lib.hid r2
  have HO2 := Lib.hid o2
  have HN2 : Hid (n2 = rLen h 2 ∧ n2 ≤ 100) := Lib.hid ⟨hn2, by rw [hn2]; exact HLM.out 2 (by omega)⟩
  obtain ⟨n3, hn3⟩ : ∃ n, n = rLen h 3 := ⟨_, rfl⟩
  obtain ⟨g3, hg3⟩ : ∃ n, n = g 3 := ⟨_, rfl⟩
  obtain ⟨k3, hk3⟩ : ∃ n, n = c 3 := ⟨_, rfl⟩
  obtain ⟨s3, r3, o3⟩ := hcol 3 (by omega)
  rw [← hn3, ← hg3, ← hk3] at s3
  rw [← hn3, ← hg3, ← hk3] at r3
  rw [← hn3] at o3
  have HR3 := Lib.hid r3
  have HO3 := Lib.hid o3
  have HN3 : Hid (n3 = rLen h 3 ∧ n3 ≤ 100) := Lib.hid ⟨hn3, by rw [hn3]; exact HLM.out 3 (by omega)⟩
  obtain ⟨n4, hn4⟩ : ∃ n, n = rLen h 4 := ⟨_, rfl⟩
  obtain ⟨g4, hg4⟩ : ∃ n, n = g 4 := ⟨_, rfl⟩
  obtain ⟨k4, hk4⟩ : ∃ n, n = c 4 := ⟨_, rfl⟩
  obtain ⟨s4, r4, o4⟩ := hcol 4 (by omega)
  rw [← hn4, ← hg4, ← hk4] at s4
  rw [← hn4, ← hg4, ← hk4] at r4
  rw [← hn4] at o4
  have HR4 := Lib.hid r4
  have HO4 := Lib.hid o4
  have HN4 : Hid (n4 = rLen h 4 ∧ n4 ≤ 100) := Lib.hid ⟨hn4, by rw [hn4]; exact HLM.out 4 (by omega)⟩
  simp only [Nat.add_zero, Nat.reduceAdd] at s0 s1 s2 s3 s4
  obtain ⟨x0, hx0⟩ : ∃ y : Int, y = (h.b : Nat) := ⟨_, rfl⟩
  obtain ⟨x1, hx1⟩ : ∃ y : Int, y = (h.s : Nat) := ⟨_, rfl⟩
  obtain ⟨x2, hx2⟩ : ∃ y : Int, y = (h.c : Nat) := ⟨_, rfl⟩
  obtain ⟨x3, hx3⟩ : ∃ y : Int, y = (h.k : Nat) := ⟨_, rfl⟩
  have HX : Hid (x0 = (h.b : Nat) ∧ x1 = (h.s : Nat) ∧ x2 = (h.c : Nat) ∧ x3 = (h.k : Nat)) := Lib.hid ⟨hx0, hx1, hx2, hx3⟩
  rw [← hx0] at c0
  rw [← hx1] at c1
  rw [← hx2] at c2
  rw [← hx3] at c3
  clear r hcol hint hdat hck ok hne hx0 hx1 hx2 hx3 HLM
  clear hn0 hn1 hn2 hn3 hn4 hg0 hg1 hg2 hg3 hg4 hk0 hk1 hk2 hk3 hk4 r0 r1 r2 r3 r4 o0 o1 o2 o3 o4
  have hzr := refz_run
  go_enter Try.func24, Try.ntmps24
  go_wp2_with fail
  go_region
  go_upto_region 2 with fail
  have hpl := cell_lt s0
  have hrow := heap_alloc_new w (.cells #[.int .i64 x0, .int .i64 x1, .int .i64 x2, .int .i64 x3, .slice none 0 0, .slice none 0 0, .slice none 0 0, .slice none 0 0, .slice none 0 0] 70)
  have hxA : Ext w (w.alloc (.cells #[.int .i64 x0, .int .i64 x1, .int .i64 x2, .int .i64 x3, .slice none 0 0, .slice none 0 0, .slice none 0 0, .slice none 0 0, .slice none 0 0] 70)).drew := ((Ext.refl w).alloc _).drew
  have hrow : (w.alloc (.cells #[.int .i64 x0, .int .i64 x1, .int .i64 x2, .int .i64 x3, .slice none 0 0, .slice none 0 0, .slice none 0 0, .slice none 0 0, .slice none 0 0] 70)).drew.heap[w.heap.size]? = some (.cells #[.int .i64 x0, .int .i64 x1, .int .i64 x2, .int .i64 x3, .slice none 0 0, .slice none 0 0, .slice none 0 0, .slice none 0 0, .slice none 0 0] 70 (0, 0)) := hrow
  generalize (w.alloc (.cells #[.int .i64 x0, .int .i64 x1, .int .i64 x2, .int .i64 x3, .slice none 0 0, .slice none 0 0, .slice none 0 0, .slice none 0 0, .slice none 0 0] 70)).drew = w0 at *
  obtain ⟨ps, hps⟩ : ∃ p, p = w.heap.size := ⟨_, rfl⟩
  rw [← hps] at hrow ⊢
  have HPS : Hid (w.heap.size ≤ ps ∧ pr < ps) := Lib.hid (by omega)
  have HX0 := Lib.hid hxA
  clear hps hpl hzr c0 c1 c2 c3
  replace s0 := hxA.cellv s0
  replace s1 := hxA.cellv s1
  replace s2 := hxA.cellv s2
  replace s3 := hxA.cellv s3
  replace s4 := hxA.cellv s4
  clear hxA
  have hps0 : ps < w0.heap.size := (Array.getElem?_eq_some_iff.1 hrow).1
  have HROW0 := Lib.hid hrow
  have a5 := cell_of_row w0 ps 4 _ _ _ hrow
  simp only [List.getElem?_toArray, List.getElem?_cons_zero, List.getElem?_cons_succ] at a5
  have fz := frozen_row hrow 4
  have hn100 : n0 ≤ 100 := HN0.out.2
  clear hrow
  go_cut [] from 22 to 33 (fun wx => ∃ v5 : Value, Hid (wx.heap[ps]? = some (.cells #[.int .i64 x0, .int .i64 x1, .int .i64 x2, .int .i64 x3, v5, .slice none 0 0, .slice none 0 0, .slice none 0 0, .slice none 0 0] 70 (0, 0))) ∧ Hid (wx.ownsRow w0.heap.size 3 1 v5 n0 (vcol (f 0) n0)) ∧ Chg [ps] w0 wx)
  case first =>
    go_region_law (refine step_append_rdg (by rfl) _ _ _ (by rfl) 3 (.int .i64 0) 1 8 Try.underlying68 ints_info (by rfl) (by decide) (by decide) w0.heap.size (Ext.size (w := w0) (by repeat' (first | (with_reducible exact Ext.refl _) | (with_reducible assumption) | (with_reducible refine Ext.alloc ?_ _) | (with_reducible refine Ext.drewN ?_ _) | (with_reducible refine Ext.drew ?_) | (with_reducible refine Ext.trans ?_ (by assumption))))) (.slice none 0 0) 0 [] (by rfl) (World.ownsRow_nil _ _ _ _) _ n0 (vcol (f 0) n0) (by rfl) (HR0.out.ext (HX0.out.trans (by repeat' (first | (with_reducible exact Ext.refl _) | (with_reducible assumption) | (with_reducible refine Ext.alloc ?_ _) | (with_reducible refine Ext.drewN ?_ _) | (with_reducible refine Ext.drew ?_) | (with_reducible refine Ext.trans ?_ (by assumption)))))) HO0.out (by omega) ?_; intro v5 w5 ho5 hg5; have hx5 : Ext w0 w5 := Ext.trans (b := _) (show Ext w0 _ from (by repeat' (first | (with_reducible exact Ext.refl _) | (with_reducible assumption) | (with_reducible refine Ext.alloc ?_ _) | (with_reducible refine Ext.drewN ?_ _) | (with_reducible refine Ext.drew ?_) | (with_reducible refine Ext.trans ?_ (by assumption))))) (Below.grown (Ext.refl _) hg5 (Nat.le_refl _) (by intro k h; cases h)); have z1 := hx5.cellv a5; have zf := Ext.frz4 hx5 a5 fz; obtain ⟨a5', n5, c5, rfl⟩ := slice_of_own ho5)
    all_goals
      have hrow5 := heap_set (o := 4) ((Below.block hx5 ps hps0).trans HROW0.out) (.slice a5' n5 c5)
      have hc5 : Chg [ps] w5 (w5.setCell ⟨ps, 4, none⟩ (.slice a5' n5 c5)) := chg_one _ _ _ _
      have ho6 := own_chg (S := [ps]) ho5 hc5 (by simp; omega)
      have hc6 : Chg [ps] w0 (w5.setCell ⟨ps, 4, none⟩ (.slice a5' n5 c5)) := (Chg.of_ext hx5).trans hc5
      have HROW6 := Lib.hid hrow5
      have HO6 := Lib.hid ho6
      clear ho5 hg5 hx5 hc5 hrow5 ho6
      go_wp2_with fail
      go_meet
      exact ⟨.slice a5' n5 c5, HROW6, Lib.hid (by have h9 := HO6.out; simp only [Nat.zero_add, List.nil_append] at h9; exact h9), hc6⟩
  case rest =>
  obtain ⟨v0, HRW, HOV0, hch⟩ := hcut
  obtain ⟨w1, rfl⟩ : ∃ z : World, z = wc := ⟨_, rfl⟩
  have hrow := HRW.out
  have HX1 : Hid (Ext w w1) := Lib.hid (HX0.out.chg hch (by have := HPS.out; simp; omega))
  have HLT0 : Hid (∀ q, v0.ownBlock = some q → w0.heap.size ≤ q ∧ q < w1.heap.size) := Lib.hid (fun q hq => HOV0.out.lt q hq)
  replace s1 := chg_cellc hch s1 (by have := HPS.out; simp; omega)
  replace s2 := chg_cellc hch s2 (by have := HPS.out; simp; omega)
  replace s3 := chg_cellc hch s3 (by have := HPS.out; simp; omega)
  replace s4 := chg_cellc hch s4 (by have := HPS.out; simp; omega)
  have HSZ0 : Hid (w0.heap.size ≤ w1.heap.size) := Lib.hid hch.size
  clear hch a5 fz hn100 HROW0 s0
  go_upto_region 3 with fail
  have hps1 : ps < w1.heap.size := (Array.getElem?_eq_some_iff.1 hrow).1
  have HROW1 := Lib.hid hrow
  have a5 := cell_of_row w1 ps 5 _ _ _ hrow
  simp only [List.getElem?_toArray, List.getElem?_cons_zero, List.getElem?_cons_succ] at a5
  have fz := frozen_row hrow 5
  have hn100 : n1 ≤ 100 := HN1.out.2
  clear hrow
  go_cut [] from 34 to 45 (fun wx => ∃ v5 : Value, Hid (wx.heap[ps]? = some (.cells #[.int .i64 x0, .int .i64 x1, .int .i64 x2, .int .i64 x3, v0, v5, .slice none 0 0, .slice none 0 0, .slice none 0 0] 70 (0, 0))) ∧ Hid (wx.ownsRow w1.heap.size 36 1 v5 n1 (vcol (f 1) n1)) ∧ Chg [ps] w1 wx)
  case first =>
    go_region_law (refine step_append_rdg (by rfl) _ _ _ (by rfl) 36 (.slice none 0 0) 1 24 Try.underlying48 texts_info (by rfl) (by decide) (by decide) w1.heap.size (Ext.size (w := w1) (by repeat' (first | (with_reducible exact Ext.refl _) | (with_reducible assumption) | (with_reducible refine Ext.alloc ?_ _) | (with_reducible refine Ext.drewN ?_ _) | (with_reducible refine Ext.drew ?_) | (with_reducible refine Ext.trans ?_ (by assumption))))) (.slice none 0 0) 0 [] (by rfl) (World.ownsRow_nil _ _ _ _) _ n1 (vcol (f 1) n1) (by rfl) (HR1.out.ext (HX1.out.trans (by repeat' (first | (with_reducible exact Ext.refl _) | (with_reducible assumption) | (with_reducible refine Ext.alloc ?_ _) | (with_reducible refine Ext.drewN ?_ _) | (with_reducible refine Ext.drew ?_) | (with_reducible refine Ext.trans ?_ (by assumption)))))) HO1.out (by omega) ?_; intro v5 w5 ho5 hg5; have hx5 : Ext w1 w5 := Ext.trans (b := _) (show Ext w1 _ from (by repeat' (first | (with_reducible exact Ext.refl _) | (with_reducible assumption) | (with_reducible refine Ext.alloc ?_ _) | (with_reducible refine Ext.drewN ?_ _) | (with_reducible refine Ext.drew ?_) | (with_reducible refine Ext.trans ?_ (by assumption))))) (Below.grown (Ext.refl _) hg5 (Nat.le_refl _) (by intro k h; cases h)); have z1 := hx5.cellv a5; have zf := Ext.frz4 hx5 a5 fz; obtain ⟨a5', n5, c5, rfl⟩ := slice_of_own ho5)
    all_goals
      have hrow5 := heap_set (o := 5) ((Below.block hx5 ps hps1).trans HROW1.out) (.slice a5' n5 c5)
      have hc5 : Chg [ps] w5 (w5.setCell ⟨ps, 5, none⟩ (.slice a5' n5 c5)) := chg_one _ _ _ _
      have ho6 := own_chg (S := [ps]) ho5 hc5 (by simp; omega)
      have hc6 : Chg [ps] w1 (w5.setCell ⟨ps, 5, none⟩ (.slice a5' n5 c5)) := (Chg.of_ext hx5).trans hc5
      have HROW6 := Lib.hid hrow5
      have HO6 := Lib.hid ho6
      clear ho5 hg5 hx5 hc5 hrow5 ho6
      go_wp2_with fail
      go_meet
      exact ⟨.slice a5' n5 c5, HROW6, Lib.hid (by have h9 := HO6.out; simp only [Nat.zero_add, List.nil_append] at h9; exact h9), hc6⟩
  case rest =>
  obtain ⟨v1, HRW, HOV1, hch⟩ := hcut
  obtain ⟨w2, rfl⟩ : ∃ z : World, z = wc := ⟨_, rfl⟩
  have hrow := HRW.out
  have HX2 : Hid (Ext w w2) := Lib.hid (HX1.out.chg hch (by have := HPS.out; simp; omega))
  have HLT1 : Hid (∀ q, v1.ownBlock = some q → w1.heap.size ≤ q ∧ q < w2.heap.size) := Lib.hid (fun q hq => HOV1.out.lt q hq)
  replace s2 := chg_cellc hch s2 (by have := HPS.out; simp; omega)
  replace s3 := chg_cellc hch s3 (by have := HPS.out; simp; omega)
  replace s4 := chg_cellc hch s4 (by have := HPS.out; simp; omega)
  replace HOV0 := Lib.hid (own_chg (S := [ps]) HOV0.out hch (by have := hps0; simp; omega))
  have HSZ1 : Hid (w1.heap.size ≤ w2.heap.size) := Lib.hid hch.size
  clear hch a5 fz hn100 HROW1 s1
  go_upto_region 4 with fail
  have hps2 : ps < w2.heap.size := (Array.getElem?_eq_some_iff.1 hrow).1
  have HROW2 := Lib.hid hrow
  have a5 := cell_of_row w2 ps 6 _ _ _ hrow
  simp only [List.getElem?_toArray, List.getElem?_cons_zero, List.getElem?_cons_succ] at a5
  have fz := frozen_row hrow 6
  have hn100 : n2 ≤ 100 := HN2.out.2
  clear hrow
  go_cut [] from 46 to 57 (fun wx => ∃ v5 : Value, Hid (wx.heap[ps]? = some (.cells #[.int .i64 x0, .int .i64 x1, .int .i64 x2, .int .i64 x3, v0, v1, v5, .slice none 0 0, .slice none 0 0] 70 (0, 0))) ∧ Hid (wx.ownsRow w2.heap.size 3 1 v5 n2 (vcol (f 2) n2)) ∧ Chg [ps] w2 wx)
  case first =>
    go_region_law (refine step_append_rdg (by rfl) _ _ _ (by rfl) 3 (.int .i64 0) 1 8 Try.underlying68 ints_info (by rfl) (by decide) (by decide) w2.heap.size (Ext.size (w := w2) (by repeat' (first | (with_reducible exact Ext.refl _) | (with_reducible assumption) | (with_reducible refine Ext.alloc ?_ _) | (with_reducible refine Ext.drewN ?_ _) | (with_reducible refine Ext.drew ?_) | (with_reducible refine Ext.trans ?_ (by assumption))))) (.slice none 0 0) 0 [] (by rfl) (World.ownsRow_nil _ _ _ _) _ n2 (vcol (f 2) n2) (by rfl) (HR2.out.ext (HX2.out.trans (by repeat' (first | (with_reducible exact Ext.refl _) | (with_reducible assumption) | (with_reducible refine Ext.alloc ?_ _) | (with_reducible refine Ext.drewN ?_ _) | (with_reducible refine Ext.drew ?_) | (with_reducible refine Ext.trans ?_ (by assumption)))))) HO2.out (by omega) ?_; intro v5 w5 ho5 hg5; have hx5 : Ext w2 w5 := Ext.trans (b := _) (show Ext w2 _ from (by repeat' (first | (with_reducible exact Ext.refl _) | (with_reducible assumption) | (with_reducible refine Ext.alloc ?_ _) | (with_reducible refine Ext.drewN ?_ _) | (with_reducible refine Ext.drew ?_) | (with_reducible refine Ext.trans ?_ (by assumption))))) (Below.grown (Ext.refl _) hg5 (Nat.le_refl _) (by intro k h; cases h)); have z1 := hx5.cellv a5; have zf := Ext.frz4 hx5 a5 fz; obtain ⟨a5', n5, c5, rfl⟩ := slice_of_own ho5)
    all_goals
      have hrow5 := heap_set (o := 6) ((Below.block hx5 ps hps2).trans HROW2.out) (.slice a5' n5 c5)
      have hc5 : Chg [ps] w5 (w5.setCell ⟨ps, 6, none⟩ (.slice a5' n5 c5)) := chg_one _ _ _ _
      have ho6 := own_chg (S := [ps]) ho5 hc5 (by simp; omega)
      have hc6 : Chg [ps] w2 (w5.setCell ⟨ps, 6, none⟩ (.slice a5' n5 c5)) := (Chg.of_ext hx5).trans hc5
      have HROW6 := Lib.hid hrow5
      have HO6 := Lib.hid ho6
      clear ho5 hg5 hx5 hc5 hrow5 ho6
      go_wp2_with fail
      go_meet
      exact ⟨.slice a5' n5 c5, HROW6, Lib.hid (by have h9 := HO6.out; simp only [Nat.zero_add, List.nil_append] at h9; exact h9), hc6⟩
  case rest =>
  obtain ⟨v2, HRW, HOV2, hch⟩ := hcut
  obtain ⟨w3, rfl⟩ : ∃ z : World, z = wc := ⟨_, rfl⟩
  have hrow := HRW.out
  have HX3 : Hid (Ext w w3) := Lib.hid (HX2.out.chg hch (by have := HPS.out; simp; omega))
  have HLT2 : Hid (∀ q, v2.ownBlock = some q → w2.heap.size ≤ q ∧ q < w3.heap.size) := Lib.hid (fun q hq => HOV2.out.lt q hq)
  replace s3 := chg_cellc hch s3 (by have := HPS.out; simp; omega)
  replace s4 := chg_cellc hch s4 (by have := HPS.out; simp; omega)
  replace HOV0 := Lib.hid (own_chg (S := [ps]) HOV0.out hch (by have := hps0; simp; omega))
  replace HOV1 := Lib.hid (own_chg (S := [ps]) HOV1.out hch (by have := hps1; simp; omega))
  have HSZ2 : Hid (w2.heap.size ≤ w3.heap.size) := Lib.hid hch.size
  clear hch a5 fz hn100 HROW2 s2
  go_upto_region 5 with fail
  have hps3 : ps < w3.heap.size := (Array.getElem?_eq_some_iff.1 hrow).1
  have HROW3 := Lib.hid hrow
  have a5 := cell_of_row w3 ps 7 _ _ _ hrow
  simp only [List.getElem?_toArray, List.getElem?_cons_zero, List.getElem?_cons_succ] at a5
  have fz := frozen_row hrow 7
  have hn100 : n3 ≤ 100 := HN3.out.2
  clear hrow
  go_cut [] from 58 to 69 (fun wx => ∃ v5 : Value, Hid (wx.heap[ps]? = some (.cells #[.int .i64 x0, .int .i64 x1, .int .i64 x2, .int .i64 x3, v0, v1, v2, v5, .slice none 0 0] 70 (0, 0))) ∧ Hid (wx.ownsRow w3.heap.size 3 1 v5 n3 (vcol (f 3) n3)) ∧ Chg [ps] w3 wx)
  case first =>
    go_region_law (refine step_append_rdg (by rfl) _ _ _ (by rfl) 3 (.int .i64 0) 1 8 Try.underlying68 ints_info (by rfl) (by decide) (by decide) w3.heap.size (Ext.size (w := w3) (by repeat' (first | (with_reducible exact Ext.refl _) | (with_reducible assumption) | (with_reducible refine Ext.alloc ?_ _) | (with_reducible refine Ext.drewN ?_ _) | (with_reducible refine Ext.drew ?_) | (with_reducible refine Ext.trans ?_ (by assumption))))) (.slice none 0 0) 0 [] (by rfl) (World.ownsRow_nil _ _ _ _) _ n3 (vcol (f 3) n3) (by rfl) (HR3.out.ext (HX3.out.trans (by repeat' (first | (with_reducible exact Ext.refl _) | (with_reducible assumption) | (with_reducible refine Ext.alloc ?_ _) | (with_reducible refine Ext.drewN ?_ _) | (with_reducible refine Ext.drew ?_) | (with_reducible refine Ext.trans ?_ (by assumption)))))) HO3.out (by omega) ?_; intro v5 w5 ho5 hg5; have hx5 : Ext w3 w5 := Ext.trans (b := _) (show Ext w3 _ from (by repeat' (first | (with_reducible exact Ext.refl _) | (with_reducible assumption) | (with_reducible refine Ext.alloc ?_ _) | (with_reducible refine Ext.drewN ?_ _) | (with_reducible refine Ext.drew ?_) | (with_reducible refine Ext.trans ?_ (by assumption))))) (Below.grown (Ext.refl _) hg5 (Nat.le_refl _) (by intro k h; cases h)); have z1 := hx5.cellv a5; have zf := Ext.frz4 hx5 a5 fz; obtain ⟨a5', n5, c5, rfl⟩ := slice_of_own ho5)
    all_goals
      have hrow5 := heap_set (o := 7) ((Below.block hx5 ps hps3).trans HROW3.out) (.slice a5' n5 c5)
      have hc5 : Chg [ps] w5 (w5.setCell ⟨ps, 7, none⟩ (.slice a5' n5 c5)) := chg_one _ _ _ _
      have ho6 := own_chg (S := [ps]) ho5 hc5 (by simp; omega)
      have hc6 : Chg [ps] w3 (w5.setCell ⟨ps, 7, none⟩ (.slice a5' n5 c5)) := (Chg.of_ext hx5).trans hc5
      have HROW6 := Lib.hid hrow5
      have HO6 := Lib.hid ho6
      clear ho5 hg5 hx5 hc5 hrow5 ho6
      go_wp2_with fail
      go_meet
      exact ⟨.slice a5' n5 c5, HROW6, Lib.hid (by have h9 := HO6.out; simp only [Nat.zero_add, List.nil_append] at h9; exact h9), hc6⟩
  case rest =>
  obtain ⟨v3, HRW, HOV3, hch⟩ := hcut
  obtain ⟨w4, rfl⟩ : ∃ z : World, z = wc := ⟨_, rfl⟩
  have hrow := HRW.out
  have HX4 : Hid (Ext w w4) := Lib.hid (HX3.out.chg hch (by have := HPS.out; simp; omega))
  have HLT3 : Hid (∀ q, v3.ownBlock = some q → w3.heap.size ≤ q ∧ q < w4.heap.size) := Lib.hid (fun q hq => HOV3.out.lt q hq)
  replace s4 := chg_cellc hch s4 (by have := HPS.out; simp; omega)
  replace HOV0 := Lib.hid (own_chg (S := [ps]) HOV0.out hch (by have := hps0; simp; omega))
  replace HOV1 := Lib.hid (own_chg (S := [ps]) HOV1.out hch (by have := hps1; simp; omega))
  replace HOV2 := Lib.hid (own_chg (S := [ps]) HOV2.out hch (by have := hps2; simp; omega))
  have HSZ3 : Hid (w3.heap.size ≤ w4.heap.size) := Lib.hid hch.size
  clear hch a5 fz hn100 HROW3 s3
  go_upto_region 6 with fail
  have hps4 : ps < w4.heap.size := (Array.getElem?_eq_some_iff.1 hrow).1
  have HROW4 := Lib.hid hrow
  have a5 := cell_of_row w4 ps 8 _ _ _ hrow
  simp only [List.getElem?_toArray, List.getElem?_cons_zero, List.getElem?_cons_succ] at a5
  have fz := frozen_row hrow 8
  have hn100 : n4 ≤ 100 := HN4.out.2
  clear hrow
  go_cut [] from 70 to 81 (fun wx => ∃ v5 : Value, Hid (wx.heap[ps]? = some (.cells #[.int .i64 x0, .int .i64 x1, .int .i64 x2, .int .i64 x3, v0, v1, v2, v3, v5] 70 (0, 0))) ∧ Hid (wx.ownsRow w4.heap.size 3 1 v5 n4 (vcol (f 4) n4)) ∧ Chg [ps] w4 wx)
  case first =>
    go_region_law (refine step_append_rdg (by rfl) _ _ _ (by rfl) 3 (.int .i64 0) 1 8 Try.underlying68 ints_info (by rfl) (by decide) (by decide) w4.heap.size (Ext.size (w := w4) (by repeat' (first | (with_reducible exact Ext.refl _) | (with_reducible assumption) | (with_reducible refine Ext.alloc ?_ _) | (with_reducible refine Ext.drewN ?_ _) | (with_reducible refine Ext.drew ?_) | (with_reducible refine Ext.trans ?_ (by assumption))))) (.slice none 0 0) 0 [] (by rfl) (World.ownsRow_nil _ _ _ _) _ n4 (vcol (f 4) n4) (by rfl) (HR4.out.ext (HX4.out.trans (by repeat' (first | (with_reducible exact Ext.refl _) | (with_reducible assumption) | (with_reducible refine Ext.alloc ?_ _) | (with_reducible refine Ext.drewN ?_ _) | (with_reducible refine Ext.drew ?_) | (with_reducible refine Ext.trans ?_ (by assumption)))))) HO4.out (by omega) ?_; intro v5 w5 ho5 hg5; have hx5 : Ext w4 w5 := Ext.trans (b := _) (show Ext w4 _ from (by repeat' (first | (with_reducible exact Ext.refl _) | (with_reducible assumption) | (with_reducible refine Ext.alloc ?_ _) | (with_reducible refine Ext.drewN ?_ _) | (with_reducible refine Ext.drew ?_) | (with_reducible refine Ext.trans ?_ (by assumption))))) (Below.grown (Ext.refl _) hg5 (Nat.le_refl _) (by intro k h; cases h)); have z1 := hx5.cellv a5; have zf := Ext.frz4 hx5 a5 fz; obtain ⟨a5', n5, c5, rfl⟩ := slice_of_own ho5)
    all_goals
      have hrow5 := heap_set (o := 8) ((Below.block hx5 ps hps4).trans HROW4.out) (.slice a5' n5 c5)
      have hc5 : Chg [ps] w5 (w5.setCell ⟨ps, 8, none⟩ (.slice a5' n5 c5)) := chg_one _ _ _ _
      have ho6 := own_chg (S := [ps]) ho5 hc5 (by simp; omega)
      have hc6 : Chg [ps] w4 (w5.setCell ⟨ps, 8, none⟩ (.slice a5' n5 c5)) := (Chg.of_ext hx5).trans hc5
      have HROW6 := Lib.hid hrow5
      have HO6 := Lib.hid ho6
      clear ho5 hg5 hx5 hc5 hrow5 ho6
      go_wp2_with fail
      go_meet
      exact ⟨.slice a5' n5 c5, HROW6, Lib.hid (by have h9 := HO6.out; simp only [Nat.zero_add, List.nil_append] at h9; exact h9), hc6⟩
  case rest =>
  obtain ⟨v4, HRW, HOV4, hch⟩ := hcut
  obtain ⟨w5, rfl⟩ : ∃ z : World, z = wc := ⟨_, rfl⟩
  have hrow := HRW.out
  have HX5 : Hid (Ext w w5) := Lib.hid (HX4.out.chg hch (by have := HPS.out; simp; omega))
  have HLT4 : Hid (∀ q, v4.ownBlock = some q → w4.heap.size ≤ q ∧ q < w5.heap.size) := Lib.hid (fun q hq => HOV4.out.lt q hq)
  replace HOV0 := Lib.hid (own_chg (S := [ps]) HOV0.out hch (by have := hps0; simp; omega))
  replace HOV1 := Lib.hid (own_chg (S := [ps]) HOV1.out hch (by have := hps1; simp; omega))
  replace HOV2 := Lib.hid (own_chg (S := [ps]) HOV2.out hch (by have := hps2; simp; omega))
  replace HOV3 := Lib.hid (own_chg (S := [ps]) HOV3.out hch (by have := hps3; simp; omega))
  have HSZ4 : Hid (w4.heap.size ≤ w5.heap.size) := Lib.hid hch.size
  clear hch a5 fz hn100 HROW4 s4
  have HRWF := Lib.hid hrow
  clear hrow
  go_wp2_with fail
  go_ret
  obtain ⟨e0, e1, e2, e3⟩ := HX.out
  have hf := ref_of_copy (w := w5) (ps := ps) (h := h) (x := x) (v := fun j => match j with | 0 => v0 | 1 => v1 | 2 => v2 | 3 => v3 | _ => v4) (B := fun j => match j with | 0 => w0.heap.size | 1 => w1.heap.size | 2 => w2.heap.size | 3 => w3.heap.size | _ => w4.heap.size) (f := f) (F := F) (by rw [← e0, ← e1, ← e2, ← e3]; exact HRWF.out) (fun j hj => by
    match j, hj with
    | 0, _ => show w5.ownsRow w0.heap.size 3 1 v0 (rLen h 0) (vcol (f 0) (rLen h 0)); rw [← HN0.out.1]; exact HOV0.out
    | 1, _ => show w5.ownsRow w1.heap.size 36 1 v1 (rLen h 1) (vcol (f 1) (rLen h 1)); rw [← HN1.out.1]; exact HOV1.out
    | 2, _ => show w5.ownsRow w2.heap.size 3 1 v2 (rLen h 2) (vcol (f 2) (rLen h 2)); rw [← HN2.out.1]; exact HOV2.out
    | 3, _ => show w5.ownsRow w3.heap.size 3 1 v3 (rLen h 3) (vcol (f 3) (rLen h 3)); rw [← HN3.out.1]; exact HOV3.out
    | 4, _ => show w5.ownsRow w4.heap.size 3 1 v4 (rLen h 4) (vcol (f 4) (rLen h 4)); rw [← HN4.out.1]; exact HOV4.out) hps0 (fun j q hj hq => by
    match j, hj with
    | 0, _ => exact (HLT0.out q hq).2
    | 1, _ => exact (HLT1.out q hq).2
    | 2, _ => exact (HLT2.out q hq).2
    | 3, _ => exact (HLT3.out q hq).2) (fun j hj => by
    match j, hj with
    | 0, _ => exact HSZ0.out
    | 1, _ => exact HSZ1.out
    | 2, _ => exact HSZ2.out
    | 3, _ => exact HSZ3.out) HPO.out HIN.out (fun i hi => by
    obtain ⟨h1, h2⟩ := HDA.out i hi
    exact ⟨h1.ext HX5.out, fun b hb => ⟨by have := (h2 b hb).1; have := HPS.out; omega, (h2 b hb).2⟩⟩)
  obtain ⟨g', h1, h2⟩ := hf
  exact ⟨ps, g', rfl, HPS.out.1, (Array.getElem?_eq_some_iff.1 HRWF.out).1, h1, h2, HX5.out⟩
end Go.Proofs.Ytoadjmeopamgbaa
