/-
  uni.New. No condition.
-/
import Derived.Test.YtibcfmnkpemieaaUniPrune
namespace Go.Proofs.Ytibcfmnkpemieaa
open Go.RowKit

/-- the cells of a stack that is all zero -/
def zstack : Array Value := (Value.pointer none :: List.replicate 73 (Value.int .i64 0)).toArray
theorem zstack_size : zstack.size = 74 := by
  unfold zstack
  rw [List.size_toArray, List.length_cons, List.length_replicate]
theorem zstack_at {j : Nat} (hj : j < 73) : zstack[j + 1]? = some (.int .i64 0) := by
  unfold zstack
  rw [List.getElem?_toArray, List.getElem?_cons_succ, List.getElem?_replicate, if_pos hj]
theorem zstack_run (w : World) : (zeroValue 86).run Try.prog w = .ok (.agg zstack) w := by kernel_rfl

/-- what a capacity may be -/
def okC (c : Int) : Prop := 1 ≤ c ∧ c ≤ 16

def capF (c1 c2 c3 : Int) (l : Nat) : Nat := if l = 1 then c1.toNat else if l = 2 then c2.toNat else if l = 3 then c3.toNat else 0
def capK (c1 c2 c3 : Int) (k l : Nat) : Nat := if l ≤ k then capF c1 c2 c3 l else 0
theorem capK_step (c1 c2 c3 : Int) (k : Nat) : updN (capK c1 c2 c3 k) (k + 1) (capF c1 c2 c3 (k + 1)) = capK c1 c2 c3 (k + 1) := by
  funext l
  unfold updN capK
  by_cases h : l = k + 1
  · subst h; simp
  · rw [if_neg h]
    by_cases h2 : l ≤ k
    · rw [if_pos h2, if_pos (by omega)]
    · rw [if_neg h2, if_neg (by omega)]
theorem capK_zero (c1 c2 c3 : Int) : capK c1 c2 c3 0 = fun _ => 0 := by
  funext l
  unfold capK capF
  by_cases h : l ≤ 0
  · rw [if_pos h, if_neg (by omega), if_neg (by omega), if_neg (by omega)]
  · rw [if_neg h]
theorem capK_all (c1 c2 c3 : Int) : capK c1 c2 c3 3 = capF c1 c2 c3 := by
  funext l
  unfold capK
  by_cases h : l ≤ 3
  · rw [if_pos h]
  · rw [if_neg h]; unfold capF; rw [if_neg (by omega), if_neg (by omega), if_neg (by omega)]
theorem stk_nil : Stk [] (fun _ => 0) := ⟨List.nodup_nil, by simp, by simp, by simp⟩
theorem ucells_new (bs : Nat) : UCells (zstack.setIfInBounds 0 (.pointer (some ⟨bs, 0, none⟩))) bs (fun _ => 0) (fun _ => 0) (cnU [] (fun _ => 0)) := by
  refine ⟨?_, ?_, ?_, ?_⟩
  · rw [Array.getElem?_setIfInBounds, if_pos rfl, if_pos (by rw [zstack_size]; omega)]
  · intro l hl; rw [Array.getElem?_setIfInBounds, if_neg (by omega), Nat.add_comm]; exact zstack_at (by omega)
  · intro b hb; rw [Array.getElem?_setIfInBounds, if_neg (by omega), show 5 + b = (4 + b) + 1 by omega]; exact zstack_at (by omega)
  · intro l hl; rw [Array.getElem?_setIfInBounds, if_neg (by omega), show 69 + l = (68 + l) + 1 by omega, zstack_at (by omega)]; simp [cnU, cntU]

/-- what New answers -/
def NewRes (c1 c2 c3 : Int) (w : World) (e : Ending) (w' : World) : Prop :=
  (¬ (okC c1 ∧ okC c2 ∧ okC c3) ∧ e = .returned (.tuple #[.pointer none, .int .i64 6]) ∧ Ext w w') ∨
  ((okC c1 ∧ okC c2 ∧ okC c3) ∧ ∃ p bs be, e = .returned (.tuple #[.pointer (some ⟨p, 0, none⟩), .int .i64 0]) ∧ UniAt w' p bs be (capF c1 c2 c3) [] (fun _ => 0) ∧ w.heap.size ≤ p ∧ w.heap.size ≤ bs ∧ w.heap.size ≤ be ∧ Ext w w')
theorem NewRes.bad {c1 c2 c3 : Int} {w w' : World} {e : Ending} (h : ¬ (okC c1 ∧ okC c2 ∧ okC c3)) (he : e = .returned (.tuple #[.pointer none, .int .i64 6])) (hx : Ext w w') : NewRes c1 c2 c3 w e w' := .inl ⟨h, he, hx⟩
theorem NewRes.good {c1 c2 c3 : Int} {w w' : World} {e : Ending} (h1 : okC c1) (h2 : okC c2) (h3 : okC c3) (p bs be : Nat) (he : e = .returned (.tuple #[.pointer (some ⟨p, 0, none⟩), .int .i64 0])) (hu : UniAt w' p bs be (capF c1 c2 c3) [] (fun _ => 0))
    (hp : w.heap.size ≤ p) (hb : w.heap.size ≤ bs) (hbe : w.heap.size ≤ be) (hx : Ext w w') : NewRes c1 c2 c3 w e w' := .inr ⟨⟨h1, h2, h3⟩, p, bs, be, he, hu, hp, hb, hbe, hx⟩

set_option maxRecDepth 100000 in
set_option maxHeartbeats 2000000 in
theorem unew (c1 c2 c3 : Int) (w : World) :
    Calls Try.prog 14 #[.agg #[.int .i64 c1, .int .i64 c2, .int .i64 c3]] w fun e w' => NewRes c1 c2 c3 w e w' := by
  have hzr := zstack_run
  have hzs := zstack_size
  go_enter Try.func14, Try.ntmps14
  go_wp2_with fail
  refine (new_any 1 _ (by omega) (by omega)).mono ?_
  rintro e w1 ⟨bs, be, rfl, hs1, hb1, hb2, hx1⟩
  have p0 : (w.alloc (.cells #[.int .i64 c1, .int .i64 c2, .int .i64 c3] 22)).cell? ⟨w.heap.size, 0, none⟩ = some (.int .i64 c1) := cell_new _ _ _ _ rfl
  have p1 : (w.alloc (.cells #[.int .i64 c1, .int .i64 c2, .int .i64 c3] 22)).cell? ⟨w.heap.size, 1, none⟩ = some (.int .i64 c2) := cell_new _ _ _ _ rfl
  have p2 : (w.alloc (.cells #[.int .i64 c1, .int .i64 c2, .int .i64 c3] 22)).cell? ⟨w.heap.size, 2, none⟩ = some (.int .i64 c3) := cell_new _ _ _ _ rfl
  have x0 := ((Ext.refl w1).alloc (.cells (zstack.setIfInBounds 0 (.pointer (some ⟨bs, 0, none⟩))) 86)).cellv (hx1.cellv p0)
  have x1 := ((Ext.refl w1).alloc (.cells (zstack.setIfInBounds 0 (.pointer (some ⟨bs, 0, none⟩))) 86)).cellv (hx1.cellv p1)
  have x2 := ((Ext.refl w1).alloc (.cells (zstack.setIfInBounds 0 (.pointer (some ⟨bs, 0, none⟩))) 86)).cellv (hx1.cellv p2)
  have hX1 : Ext w w1 := ((Ext.refl w).alloc _).trans hx1
  clear p0 p1 p2
  go_wp2_with fail
  have hlt1 := hs1.lt1
  have hlt2 := hs1.lt2
  have hbs : w.heap.size ≤ bs := by have := hX1.size; simp at hb1; omega
  have hbe : w.heap.size ≤ be := by have := hX1.size; simp at hb2; omega
  have hu : UAt (w1.alloc (.cells (zstack.setIfInBounds 0 (.pointer (some ⟨bs, 0, none⟩))) 86)) w1.heap.size bs (capK c1 c2 c3 0) (fun _ => 0) (cnU [] (fun _ => 0)) := by
    rw [capK_zero]
    exact ⟨_, _, heap_alloc_new w1 _, ucells_new bs⟩
  have hs2 := hs1.ext ((Ext.refl w1).alloc (.cells (zstack.setIfInBounds 0 (.pointer (some ⟨bs, 0, none⟩))) 86))
  have hX2 := hX1.alloc (.cells (zstack.setIfInBounds 0 (.pointer (some ⟨bs, 0, none⟩))) 86)
  have hpw : w.heap.size ≤ w1.heap.size := hX1.size
  obtain ⟨p, hp⟩ : ∃ p, p = w1.heap.size := ⟨_, rfl⟩
  rw [← hp] at hlt1 hlt2 hu hpw ⊢
  have hn1 : p ≠ bs := by omega
  have hn2 : p ≠ be := by omega
  clear hp x0 x1 x2 hzr hzs hs1 hb1 hb2 hx1 hX1
  generalize (w1.alloc (.cells (zstack.setIfInBounds 0 (.pointer (some ⟨bs, 0, none⟩))) 86)) = w2 at *
  generalize (Value.agg (zstack.setIfInBounds 0 (.pointer (some ⟨bs, 0, none⟩)))) = vz at *
  clear w1
  go_loopw [12] (fun c wr => ∃ k : Nat, k ≤ 3 ∧ c = .int .i64 k ∧ UAt wr p bs (capK c1 c2 c3 k) (fun _ => 0) (cnU [] (fun _ => 0)) ∧ SpaceAt wr bs be (List.replicate (newN 1) []) ∧ Ext w wr ∧ (1 ≤ k → okC c1) ∧ (2 ≤ k → okC c2) ∧ (3 ≤ k → okC c3)) (fun c _ => 3 - (intOf c).toNat)
  case atStart => exact ⟨0, by omega, rfl, hu, hs2, hX2, by omega, by omega, by omega⟩
  case round =>
    obtain ⟨k, hk, rfl, hu, hs, hx, k1, k2, k3⟩ := hrel
    have K1 := Lib.hid k1
    have K2 := Lib.hid k2
    have K3 := Lib.hid k3
    clear k1 k2 k3
    have hf := hu.free
    have step : ∀ c : Int, okC c → capF c1 c2 c3 (k + 1) = c.toNat → k < 3 → UAt (wr.setCell ⟨p, 1 + (k + 1), none⟩ (.int .i64 c)) p bs (capK c1 c2 c3 (k + 1)) (fun _ => 0) (cnU [] (fun _ => 0)) := by
      intro c hc he hk3
      have := hu.setCap (k := k + 1) (by omega) (capF c1 c2 c3 (k + 1))
      rw [capK_step, he] at this
      have h0 : ((c.toNat : Nat) : Int) = c := by have := hc.1; omega
      rwa [h0] at this
    have STEP := Lib.hid step
    have sp : ∀ (o : Nat) (u : Value), SpaceAt (wr.setCell ⟨p, o, none⟩ u) bs be (List.replicate (newN 1) []) ∧ Ext w (wr.setCell ⟨p, o, none⟩ u) := by
      intro o u
      have hc : Chg [p] wr (wr.setCell ⟨p, o, none⟩ u) := (Chg.refl _ _).setCell (.inl (by simp)) _
      exact ⟨hs.chg hc (by simp; omega) (by simp; omega), hx.chg hc (by simpa using hpw)⟩
    have SP := Lib.hid sp
    clear step sp
    have i0 : ∀ w : World, (Instr.index 22 (.agg #[.int .i64 c1, .int .i64 c2, .int .i64 c3]) (.int .i64 0)).run Try.prog w = .ok (.int .i64 c1) w := fun _ => by kernel_rfl
    have i1 : ∀ w : World, (Instr.index 22 (.agg #[.int .i64 c1, .int .i64 c2, .int .i64 c3]) (.int .i64 1)).run Try.prog w = .ok (.int .i64 c2) w := fun _ => by kernel_rfl
    have i2 : ∀ w : World, (Instr.index 22 (.agg #[.int .i64 c1, .int .i64 c2, .int .i64 c3]) (.int .i64 2)).run Try.prog w = .ok (.int .i64 c3) w := fun _ => by kernel_rfl
    by_cases hk3 : k = 3
    · subst hk3
      clear hf
      go_wp2_with fail
      go_ret2
      have e : List.replicate (newN 1) ([] : List Nat) = [[]] := by decide
      rw [e] at hs
      rw [capK_all] at hu
      exact NewRes.good (K1.out (by omega)) (K2.out (by omega)) (K3.out (by omega)) p bs be rfl ⟨hu, hn1, hn2, hs, stk_nil⟩ hpw hbs hbe hx
    · have hkk : k = 0 ∨ k = 1 ∨ k = 2 := by omega
      rcases hkk with rfl | rfl | rfl
      · have cc := hu.cap (l := 1) (by omega)
        by_cases h1 : 1 ≤ c1
        · by_cases h16 : c1 ≤ 16
          · go_wp2_with fail
            go_roundw
            case rel =>
              obtain ⟨a, b⟩ := SP.out 2 (.int .i64 c1)
              have := STEP.out c1 ⟨h1, h16⟩ rfl (by omega)
              exact ⟨1, by omega, by go_num, this, a, b, fun _ => ⟨h1, h16⟩, by omega, by omega⟩
            case measure => simp [intOf]
          · go_wp2_with fail
            go_ret2
            exact NewRes.bad (fun h => by have h9 : okC c1 := h.1; unfold okC at h9; omega) rfl hx
        · go_wp2_with fail
          go_ret2
          exact NewRes.bad (fun h => by have h9 : okC c1 := h.1; unfold okC at h9; omega) rfl hx
      · have cc := hu.cap (l := 2) (by omega)
        by_cases h1 : 1 ≤ c2
        · by_cases h16 : c2 ≤ 16
          · go_wp2_with fail
            go_roundw
            case rel =>
              obtain ⟨a, b⟩ := SP.out 3 (.int .i64 c2)
              have := STEP.out c2 ⟨h1, h16⟩ rfl (by omega)
              exact ⟨2, by omega, by go_num, this, a, b, fun _ => K1.out (by omega), fun _ => ⟨h1, h16⟩, by omega⟩
            case measure => simp [intOf]
          · go_wp2_with fail
            go_ret2
            exact NewRes.bad (fun h => by have h9 : okC c2 := h.2.1; unfold okC at h9; omega) rfl hx
        · go_wp2_with fail
          go_ret2
          exact NewRes.bad (fun h => by have h9 : okC c2 := h.2.1; unfold okC at h9; omega) rfl hx
      · have cc := hu.cap (l := 3) (by omega)
        by_cases h1 : 1 ≤ c3
        · by_cases h16 : c3 ≤ 16
          · go_wp2_with fail
            go_roundw
            case rel =>
              obtain ⟨a, b⟩ := SP.out 4 (.int .i64 c3)
              have := STEP.out c3 ⟨h1, h16⟩ rfl (by omega)
              exact ⟨3, by omega, by go_num, this, a, b, fun _ => K1.out (by omega), fun _ => K2.out (by omega), fun _ => ⟨h1, h16⟩⟩
            case measure => simp [intOf]
          · go_wp2_with fail
            go_ret2
            exact NewRes.bad (fun h => by have h9 : okC c3 := h.2.2; unfold okC at h9; omega) rfl hx
        · go_wp2_with fail
          go_ret2
          exact NewRes.bad (fun h => by have h9 : okC c3 := h.2.2; unfold okC at h9; omega) rfl hx
end Go.Proofs.Ytibcfmnkpemieaa
