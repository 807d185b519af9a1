/-
  mq: right, New. No condition.
-/
import Derived.Test.YtibcfmnkpemieaaMq4
namespace Go.Proofs.Ytibcfmnkpemieaa
open Go.RowKit

/-- a shape as numbers is right -/
def okS (c q l g : Int) : Prop := (1 ≤ c ∧ c ≤ 16) ∧ (1 ≤ q ∧ q ≤ 8) ∧ (1 ≤ l ∧ l ≤ 100) ∧ (0 ≤ g ∧ g ≤ 16)
instance (c q l g : Int) : Decidable (okS c q l g) := by unfold okS; infer_instance
theorem mright (c q l g : Int) (r : Bool) (hr : decide (okS c q l g) = r) (w : World) :
    Calls Try.prog 62 #[.agg #[.int .i64 c, .int .i64 q, .int .i64 l, .int .i64 g]] w fun e w' => e = .returned (.bool r) ∧ Ext w w' := by
  cases r
  · have hn : ¬ okS c q l g := by simpa using hr
    clear hr
    unfold okS at hn
    by_cases a1 : 1 ≤ c
    · by_cases a2 : c ≤ 16
      · by_cases a3 : 1 ≤ q
        · by_cases a4 : q ≤ 8
          · by_cases a5 : 1 ≤ l
            · by_cases a6 : l ≤ 100
              · by_cases a7 : 0 ≤ g
                · have a8 : ¬ g ≤ 16 := by omega
                  clear hn
                  go_enter Try.func62, Try.ntmps62
                  go_wp2_with fail
                  go_ret
                  exact ⟨ret_bool (by simp), (by repeat' (first | (with_reducible exact Ext.refl _) | (with_reducible assumption) | (with_reducible refine Ext.alloc ?_ _) | (with_reducible refine Ext.drewN ?_ _) | (with_reducible refine Ext.drew ?_) | (with_reducible refine Ext.trans ?_ (by assumption))))⟩
                · clear hn
                  go_enter Try.func62, Try.ntmps62
                  go_wp2_with fail
                  go_ret
                  exact ⟨ret_bool (by simp), (by repeat' (first | (with_reducible exact Ext.refl _) | (with_reducible assumption) | (with_reducible refine Ext.alloc ?_ _) | (with_reducible refine Ext.drewN ?_ _) | (with_reducible refine Ext.drew ?_) | (with_reducible refine Ext.trans ?_ (by assumption))))⟩
              · clear hn
                go_enter Try.func62, Try.ntmps62
                go_wp2_with fail
                go_ret
                exact ⟨ret_bool (by simp), (by repeat' (first | (with_reducible exact Ext.refl _) | (with_reducible assumption) | (with_reducible refine Ext.alloc ?_ _) | (with_reducible refine Ext.drewN ?_ _) | (with_reducible refine Ext.drew ?_) | (with_reducible refine Ext.trans ?_ (by assumption))))⟩
            · clear hn
              go_enter Try.func62, Try.ntmps62
              go_wp2_with fail
              go_ret
              exact ⟨ret_bool (by simp), (by repeat' (first | (with_reducible exact Ext.refl _) | (with_reducible assumption) | (with_reducible refine Ext.alloc ?_ _) | (with_reducible refine Ext.drewN ?_ _) | (with_reducible refine Ext.drew ?_) | (with_reducible refine Ext.trans ?_ (by assumption))))⟩
          · clear hn
            go_enter Try.func62, Try.ntmps62
            go_wp2_with fail
            go_ret
            exact ⟨ret_bool (by simp), (by repeat' (first | (with_reducible exact Ext.refl _) | (with_reducible assumption) | (with_reducible refine Ext.alloc ?_ _) | (with_reducible refine Ext.drewN ?_ _) | (with_reducible refine Ext.drew ?_) | (with_reducible refine Ext.trans ?_ (by assumption))))⟩
        · clear hn
          go_enter Try.func62, Try.ntmps62
          go_wp2_with fail
          go_ret
          exact ⟨ret_bool (by simp), (by repeat' (first | (with_reducible exact Ext.refl _) | (with_reducible assumption) | (with_reducible refine Ext.alloc ?_ _) | (with_reducible refine Ext.drewN ?_ _) | (with_reducible refine Ext.drew ?_) | (with_reducible refine Ext.trans ?_ (by assumption))))⟩
      · clear hn
        go_enter Try.func62, Try.ntmps62
        go_wp2_with fail
        go_ret
        exact ⟨ret_bool (by simp), (by repeat' (first | (with_reducible exact Ext.refl _) | (with_reducible assumption) | (with_reducible refine Ext.alloc ?_ _) | (with_reducible refine Ext.drewN ?_ _) | (with_reducible refine Ext.drew ?_) | (with_reducible refine Ext.trans ?_ (by assumption))))⟩
    · clear hn
      go_enter Try.func62, Try.ntmps62
      go_wp2_with fail
      go_ret
      exact ⟨ret_bool (by simp), (by repeat' (first | (with_reducible exact Ext.refl _) | (with_reducible assumption) | (with_reducible refine Ext.alloc ?_ _) | (with_reducible refine Ext.drewN ?_ _) | (with_reducible refine Ext.drew ?_) | (with_reducible refine Ext.trans ?_ (by assumption))))⟩
  · have hn : okS c q l g := by simpa using hr
    obtain ⟨⟨a1, a2⟩, ⟨a3, a4⟩, ⟨a5, a6⟩, a7, a8⟩ := hn
    clear hr
    go_enter Try.func62, Try.ntmps62
    go_wp2_with fail
    go_ret
    exact ⟨ret_bool (by simp [*]), (by repeat' (first | (with_reducible exact Ext.refl _) | (with_reducible assumption) | (with_reducible refine Ext.alloc ?_ _) | (with_reducible refine Ext.drewN ?_ _) | (with_reducible refine Ext.drew ?_) | (with_reducible refine Ext.trans ?_ (by assumption))))⟩

/-- the cells of an MQ that is all zero -/
def zmq : Array Value := (Value.pointer none :: List.replicate 133 (Value.int .i64 0)).toArray
theorem zmq_size : zmq.size = 134 := by
  unfold zmq
  rw [List.size_toArray, List.length_cons, List.length_replicate]
theorem zmq_at {j : Nat} (hj : j < 133) : zmq[j + 1]? = some (.int .i64 0) := by
  unfold zmq
  rw [List.getElem?_toArray, List.getElem?_cons_succ, List.getElem?_replicate, if_pos hj]
theorem zmq_run (w : World) : (zeroValue 98).run Try.prog w = .ok (.agg zmq) w := by kernel_rfl

theorem mcells_new (bs : Nat) (p : Shp) : MCells (((((zmq.setIfInBounds 0 (.pointer (some ⟨bs, 0, none⟩))).setIfInBounds 1 (.int .i64 p.cap)).setIfInBounds 2 (.int .i64 p.qs)).setIfInBounds 3 (.int .i64 p.life)).setIfInBounds 4 (.int .i64 p.gh)) bs p 0 (fun _ => 0) (fun _ => 0) := by
  refine ⟨?_, ?_, ?_, ?_, ?_, ?_, ?_, ?_⟩
  · rw [Array.getElem?_setIfInBounds, if_neg (by omega), Array.getElem?_setIfInBounds, if_neg (by omega), Array.getElem?_setIfInBounds, if_neg (by omega), Array.getElem?_setIfInBounds, if_neg (by omega), Array.getElem?_setIfInBounds, if_pos rfl, if_pos (by rw [zmq_size]; omega)]
  · rw [Array.getElem?_setIfInBounds, if_neg (by omega), Array.getElem?_setIfInBounds, if_neg (by omega), Array.getElem?_setIfInBounds, if_neg (by omega), Array.getElem?_setIfInBounds, if_pos rfl, if_pos (by simp [zmq_size])]
  · rw [Array.getElem?_setIfInBounds, if_neg (by omega), Array.getElem?_setIfInBounds, if_neg (by omega), Array.getElem?_setIfInBounds, if_pos rfl, if_pos (by simp [zmq_size])]
  · rw [Array.getElem?_setIfInBounds, if_neg (by omega), Array.getElem?_setIfInBounds, if_pos rfl, if_pos (by simp [zmq_size])]
  · rw [Array.getElem?_setIfInBounds, if_pos rfl, if_pos (by simp [zmq_size])]
  · rw [Array.getElem?_setIfInBounds, if_neg (by omega), Array.getElem?_setIfInBounds, if_neg (by omega), Array.getElem?_setIfInBounds, if_neg (by omega), Array.getElem?_setIfInBounds, if_neg (by omega), Array.getElem?_setIfInBounds, if_neg (by omega)]
    exact zmq_at (j := 4) (by omega)
  · intro b hb
    rw [Array.getElem?_setIfInBounds, if_neg (by omega), Array.getElem?_setIfInBounds, if_neg (by omega), Array.getElem?_setIfInBounds, if_neg (by omega), Array.getElem?_setIfInBounds, if_neg (by omega), Array.getElem?_setIfInBounds, if_neg (by omega), show 6 + b = (5 + b) + 1 by omega]
    exact zmq_at (by omega)
  · intro b hb
    rw [Array.getElem?_setIfInBounds, if_neg (by omega), Array.getElem?_setIfInBounds, if_neg (by omega), Array.getElem?_setIfInBounds, if_neg (by omega), Array.getElem?_setIfInBounds, if_neg (by omega), Array.getElem?_setIfInBounds, if_neg (by omega), show 70 + b = (69 + b) + 1 by omega]
    exact zmq_at (by omega)

set_option maxRecDepth 100000 in
set_option maxHeartbeats 2000000 in
theorem mnew_bad (c q l g : Int) (h : ¬ okS c q l g) (w : World) :
    Calls Try.prog 29 #[.agg #[.int .i64 c, .int .i64 q, .int .i64 l, .int .i64 g]] w fun e w' => e = .returned (.tuple #[.pointer none, .int .i64 6]) ∧ Ext w w' := by
  have H := Lib.hid (decide_eq_false h)
  clear h
  go_enter Try.func29, Try.ntmps29
  go_wp2_with fail
  refine (mright c q l g false H.out _).mono ?_
  rintro e w1 ⟨rfl, hx1⟩
  go_wp2_with fail
  go_ret2
  exact ⟨rfl, (by repeat' (first | (with_reducible exact Ext.refl _) | (with_reducible assumption) | (with_reducible refine Ext.alloc ?_ _) | (with_reducible refine Ext.drewN ?_ _) | (with_reducible refine Ext.drew ?_) | (with_reducible refine Ext.trans ?_ (by assumption))))⟩

set_option maxRecDepth 100000 in
set_option maxHeartbeats 2000000 in
theorem mnew (p : Shp) (ok : ShpOk p) (w : World) :
    Calls Try.prog 29 #[.agg #[.int .i64 p.cap, .int .i64 p.qs, .int .i64 p.life, .int .i64 p.gh]] w fun e w' => ∃ pm bs be, e = .returned (.tuple #[.pointer (some ⟨pm, 0, none⟩), .int .i64 0]) ∧ MqAt w' pm bs be p (newQ p) ∧ w.heap.size ≤ pm ∧ w.heap.size ≤ bs ∧ w.heap.size ≤ be ∧ Ext w w' := by
  have hok : okS p.cap p.qs p.life p.gh := by
    obtain ⟨h1, h2, h3, h4, h5, h6, h7⟩ := ok
    unfold okS
    omega
  have H := Lib.hid (decide_eq_true hok)
  have HO := Lib.hid ok
  have hq2 := ok.q2
  have hqi : (p.qs : Int) ≤ 8 := by omega
  have hwr : IntKind.i64.wrap ((p.qs : Int) + 1) = (p.qs : Int) + 1 := by rw [IntKind.wrap_i64]; omega
  have hzr := zmq_run
  have hzs := zmq_size
  clear hok ok
  go_enter Try.func29, Try.ntmps29
  go_wp2_with fail
  refine (mright _ _ _ _ true H.out _).mono ?_
  rintro e w1 ⟨rfl, hx1⟩
  have hX1 : Ext w w1 := ((Ext.refl w).alloc _).trans hx1
  have p0 := hx1.cellv (show (w.alloc (.cells #[.int .i64 p.cap, .int .i64 p.qs, .int .i64 p.life, .int .i64 p.gh] 55)).cell? ⟨w.heap.size, 0, none⟩ = some (.int .i64 p.cap) from cell_new _ _ _ _ rfl)
  have p1 := hx1.cellv (show (w.alloc (.cells #[.int .i64 p.cap, .int .i64 p.qs, .int .i64 p.life, .int .i64 p.gh] 55)).cell? ⟨w.heap.size, 1, none⟩ = some (.int .i64 p.qs) from cell_new _ _ _ _ rfl)
  have p2 := hx1.cellv (show (w.alloc (.cells #[.int .i64 p.cap, .int .i64 p.qs, .int .i64 p.life, .int .i64 p.gh] 55)).cell? ⟨w.heap.size, 2, none⟩ = some (.int .i64 p.life) from cell_new _ _ _ _ rfl)
  have p3 := hx1.cellv (show (w.alloc (.cells #[.int .i64 p.cap, .int .i64 p.qs, .int .i64 p.life, .int .i64 p.gh] 55)).cell? ⟨w.heap.size, 3, none⟩ = some (.int .i64 p.gh) from cell_new _ _ _ _ rfl)
  clear hx1
  obtain ⟨pb, hpb⟩ : ∃ pb, pb = w.heap.size := ⟨_, rfl⟩
  rw [← hpb] at p0 p1 p2 p3 ⊢
  clear hpb
  go_wp2_with fail
  go_region_with (go_at_call 50; refine (new_any _ _ (by omega) (by omega)).mono ?_; rintro e w2 ⟨bs, be, rfl, hs2, hb1, hb2, hx2⟩; have z0 := Ext.cellv (w := w1) (w' := w2) (by repeat' (first | (with_reducible exact Ext.refl _) | (with_reducible assumption) | (with_reducible refine Ext.alloc ?_ _) | (with_reducible refine Ext.drewN ?_ _) | (with_reducible refine Ext.drew ?_) | (with_reducible refine Ext.trans ?_ (by assumption)))) p0; have z1 := Ext.cellv (w := w1) (w' := w2) (by repeat' (first | (with_reducible exact Ext.refl _) | (with_reducible assumption) | (with_reducible refine Ext.alloc ?_ _) | (with_reducible refine Ext.drewN ?_ _) | (with_reducible refine Ext.drew ?_) | (with_reducible refine Ext.trans ?_ (by assumption)))) p1; have z2 := Ext.cellv (w := w1) (w' := w2) (by repeat' (first | (with_reducible exact Ext.refl _) | (with_reducible assumption) | (with_reducible refine Ext.alloc ?_ _) | (with_reducible refine Ext.drewN ?_ _) | (with_reducible refine Ext.drew ?_) | (with_reducible refine Ext.trans ?_ (by assumption)))) p2; have z3 := Ext.cellv (w := w1) (w' := w2) (by repeat' (first | (with_reducible exact Ext.refl _) | (with_reducible assumption) | (with_reducible refine Ext.alloc ?_ _) | (with_reducible refine Ext.drewN ?_ _) | (with_reducible refine Ext.drew ?_) | (with_reducible refine Ext.trans ?_ (by assumption)))) p3)
  all_goals
    have hX2 : Ext w1 w2 := (by repeat' (first | (with_reducible exact Ext.refl _) | (with_reducible assumption) | (with_reducible refine Ext.alloc ?_ _) | (with_reducible refine Ext.drewN ?_ _) | (with_reducible refine Ext.drew ?_) | (with_reducible refine Ext.trans ?_ (by assumption))))
    have hX3 := hX1.trans hX2
    have hsz := hX2.size
    have hsz1 := hX1.size
    have hlt1 := hs2.lt1
    have hlt2 := hs2.lt2
    have hb1' : w1.heap.size ≤ bs := by simp at hb1; omega
    have hb2' : w1.heap.size ≤ be := by simp at hb2; omega
    obtain ⟨w3, hw3⟩ : ∃ w3, w3 = w2.alloc (.cells (((((zmq.setIfInBounds 0 (.pointer (some ⟨bs, 0, none⟩))).setIfInBounds 1 (.int .i64 p.cap)).setIfInBounds 2 (.int .i64 p.qs)).setIfInBounds 3 (.int .i64 p.life)).setIfInBounds 4 (.int .i64 p.gh)) 98) := ⟨_, rfl⟩
    rw [← hw3]
    have hm : MAt w3 w2.heap.size bs p 0 (fun _ => 0) (fun _ => 0) := by rw [hw3]; exact ⟨_, _, heap_alloc_new w2 _, mcells_new bs p⟩
    have hx3 : Ext w2 w3 := by rw [hw3]; exact (Ext.refl w2).alloc _
    have hnn : newN ((p.qs : Int) + 1) = p.qs + 1 := by unfold newN; omega
    rw [hnn] at hs2
    have hmq : MqAt w3 w2.heap.size bs be p (newQ p) := ⟨hm, by omega, by omega, hs2.ext hx3, by simp [newQ], HO.out⟩
    clear hw3 hm hnn hs2
    go_wp2_with fail
    go_ret2
    exact ⟨w2.heap.size, bs, be, rfl, hmq, by omega, by omega, by omega, hX3.trans hx3⟩
end Go.Proofs.Ytibcfmnkpemieaa
