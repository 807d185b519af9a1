/-
  What StoreCrash calls, as it stands there. No condition but that all lies in memory. And: gradinelaw06.StoreCrash answers true. No condition.
-/
import Derived.Test.YtoadjmeopamgbaaStRedo
import Derived.Test.YtoadjmeopamgbaaRgRead
namespace Go.Proofs.Ytoadjmeopamgbaa
open Go.RowKit

def fx (p bl pr : Nat) (g : Nat → Nat) : List Nat := [p, bl, pr, g 0, g 1, g 2, g 3, g 4]
theorem fx_g {p bl pr : Nat} {g : Nat → Nat} {j : Nat} (hj : j < 5) : g j ∈ fx p bl pr g := by
  unfold fx
  match j, hj with
  | 0, _ => simp
  | 1, _ => simp
  | 2, _ => simp
  | 3, _ => simp
  | 4, _ => simp
theorem fx_mem {p bl pr q : Nat} {g : Nat → Nat} (h : q ∈ fx p bl pr g) : q = p ∨ q = bl ∨ q = pr ∨ ∃ j, j < 5 ∧ q = g j := by
  unfold fx at h
  simp only [List.mem_cons, List.not_mem_nil, or_false] at h
  rcases h with rfl | rfl | rfl | rfl | rfl | rfl | rfl | rfl
  · exact .inl rfl
  · exact .inr (.inl rfl)
  · exact .inr (.inr (.inl rfl))
  · exact .inr (.inr (.inr ⟨0, by omega, rfl⟩))
  · exact .inr (.inr (.inr ⟨1, by omega, rfl⟩))
  · exact .inr (.inr (.inr ⟨2, by omega, rfl⟩))
  · exact .inr (.inr (.inr ⟨3, by omega, rfl⟩))
  · exact .inr (.inr (.inr ⟨4, by omega, rfl⟩))
/-- a reference's store beside the disk -/
def RefOk (w : World) (p bl pr : Nat) (h : Sh) (x : RX) : Prop := ∃ g : Nat → Nat, RefAt w (fx p bl pr g) pr g h x ∧ pr ∉ [p, bl] ∧ ∀ j, j < 5 → g j ∉ [p, bl]
/-- a reference's store in blocks from B on -/
def RefNew (w : World) (p bl pr B : Nat) (h : Sh) (x : RX) : Prop := ∃ g : Nat → Nat, RefAt w (fx p bl pr g) pr g h x ∧ B ≤ pr ∧ ∀ j, j < 5 → B ≤ g j
def XOk (h : Sh) (x : RX) : Prop := (∀ j, j < h.b → 0 ≤ x.int 0 j ∧ x.int 0 j ≤ 1000) ∧ ∀ j, j < h.b → x.data j ≠ []
theorem sBlk_len2 (n : Nat) (B : List Int) : (sBlk n B).2.length = n := by
  unfold sBlk
  split
  · rename_i h
    have h1 := h.1
    unfold rdText at h1 ⊢
    split at h1
    · rename_i h2
      rw [if_pos h2]
      have h3 := (of_decide_eq_true h1).2.1
      simp only
      exact Int.ofNat.inj h3
    · cases h1
  · simp
theorem Sim.xok {h : Sh} (ok : h.Ok) {d : Dk} {x : RX} (s : Sim h d x) : XOk h x := by
  refine ⟨fun j hj => s.bd hj, fun j hj e => ?_⟩
  have h1 := sBlk_len2 h.s (d.rows.getD (1 + j) [])
  rw [s.blk j hj, e] at h1
  have := ok.s1
  simp at h1
  omega
theorem Sim.congr {h : Sh} {d d' : Dk} {x : RX} (s : Sim h d x) (e : d'.rows = d.rows) : Sim h d' x := ⟨fun j hj => by rw [e]; exact s.blk j hj, fun a b ha hb => by rw [e]; exact s.slot a b ha hb⟩
section
variable {w w' : World} {p bl pr B : Nat} {h : Sh} {x : RX}
theorem RefOk.chg (r : RefOk w p bl pr h x) (hx : Chg [p, bl] w w') : RefOk w' p bl pr h x := by
  obtain ⟨g, h1, h2, h3⟩ := r
  exact ⟨g, h1.chg hx (fun s hs => by unfold fx; simp at hs ⊢; rcases hs with rfl | rfl <;> simp) h2 h3, h2, h3⟩
theorem RefOk.ext (r : RefOk w p bl pr h x) (hx : Ext w w') : RefOk w' p bl pr h x := r.chg (Chg.of_ext hx)
theorem RefNew.ext (r : RefNew w p bl pr B h x) (hx : Ext w w') : RefNew w' p bl pr B h x := by
  obtain ⟨g, h1, h2, h3⟩ := r
  exact ⟨g, h1.ext hx, h2, h3⟩
theorem RefNew.ok (r : RefNew w p bl pr B h x) (hp : p < B) (hb : bl < B) : RefOk w p bl pr h x := by
  obtain ⟨g, h1, h2, h3⟩ := r
  exact ⟨g, h1, by simp; omega, fun j hj => by have := h3 j hj; simp; omega⟩
end
theorem rnew_ok (h : Sh) (ok : h.Ok) (w : World) (p bl : Nat) (hp : p < w.heap.size) (hb : bl < w.heap.size) :
    Calls Try.prog 13 #[.int .i64 h.b, .int .i64 h.s, .int .i64 h.c, .int .i64 h.k] w fun e w' => ∃ pr, e = .returned (.pointer (some ⟨pr, 0, none⟩)) ∧ RefOk w' p bl pr h (rX0 h) ∧ Ext w w' := by
  refine (rnew06 h ok w).mono ?_
  rintro e w' ⟨ps, g, rfl, h1, h2, h3, h4, h5⟩
  refine ⟨ps, rfl, ⟨g, h4 _ (by simp [fx]) (fun j hj => fx_g hj) (fun f hf => ?_), by simp; omega, fun j hj => by have := (h3 j hj).1; simp; omega⟩, h5⟩
  rcases fx_mem hf with rfl | rfl | rfl | ⟨j, hj, rfl⟩
  · left; omega
  · left; omega
  · left; omega
  · exact .inr ⟨j, hj, rfl⟩
theorem rcopy_ok (w : World) (p bl pr : Nat) (h : Sh) (x : RX) (r : RefOk w p bl pr h x) (ok : h.Ok) (hx : XOk h x) :
    Calls Try.prog 24 #[.pointer (some ⟨pr, 0, none⟩)] w fun e w' => ∃ ps, e = .returned (.pointer (some ⟨ps, 0, none⟩)) ∧ RefNew w' p bl ps w.heap.size h x ∧ Ext w w' := by
  obtain ⟨g, h1, h2, h3⟩ := r
  refine (rcopy06 w _ pr g h x h1 ok hx.2).mono ?_
  rintro e w' ⟨ps, g', rfl, k1, k2, k3, k4, k5⟩
  refine ⟨ps, rfl, ⟨g', k4 _ (by simp [fx]) (fun j hj => fx_g hj) (fun q hq => ?_), k1, fun j hj => by have := (k3 j hj).1; omega⟩, k5⟩
  rcases fx_mem hq with rfl | rfl | rfl | ⟨j, hj, rfl⟩
  · left; simp [fx]
  · left; simp [fx]
  · right; omega
  · right; have := (k3 j hj).1; omega
theorem rwrite_ok (a0 w : World) (hx0 : Ext a0 w) (p bl pr : Nat) (h : Sh) (x : RX) (r : RefNew w p bl pr a0.heap.size h x) (hp : p < a0.heap.size) (hb : bl < a0.heap.size) (ok : h.Ok) (hx : XOk h x) (a s b o bk : Int) (dv : Value) (D : List Int) (hD : RdI .u8 w dv D) (hDo : 0 < D.length → ∀ q, dv.ownBlock = some q → q ∉ [p, bl] ∧ q < a0.heap.size) (r1 r2 : Int) (x' : RX) (hr : rWr h x a s b o bk D = ((r1, r2), x')) :
    Calls Try.prog 16 #[.pointer (some ⟨pr, 0, none⟩), .agg #[.int .i64 a, .int .i64 s, .int .i64 b, .int .i64 o, .int .i64 bk, dv]] w fun e w' => e = .returned (.tuple #[.int .i64 r1, .int .i64 r2]) ∧ RefNew w' p bl pr a0.heap.size h x' ∧ Ext a0 w' := by
  obtain ⟨g, h1, h2, h3⟩ := r
  have hle := hx0.size
  refine (rwrite06 w _ pr g h x h1 ok hx.1 (fun f hf => ?_) a s b o bk dv D hD (fun hl q hq hm => ?_) r1 r2 x' hr).mono ?_
  · rcases fx_mem hf with rfl | rfl | rfl | ⟨j, hj, rfl⟩
    · omega
    · omega
    · exact h1.lt
    · exact h1.glt hj
  · obtain ⟨k1, k2⟩ := hDo hl q hq
    rcases fx_mem hm with rfl | rfl | rfl | ⟨j, hj, rfl⟩
    · exact k1 (by simp)
    · exact k1 (by simp)
    · omega
    · have := h3 j hj; omega
  · rintro e w' ⟨rfl, k1, k2⟩
    refine ⟨rfl, ⟨g, k1, h2, h3⟩, Ext.chg hx0 k2 (fun q hq => ?_)⟩
    simp only [List.mem_cons, List.not_mem_nil, or_false] at hq
    rcases hq with rfl | rfl | rfl | rfl | rfl
    · exact h3 0 (by omega)
    · exact h3 1 (by omega)
    · exact h3 2 (by omega)
    · exact h3 3 (by omega)
    · exact h3 4 (by omega)
theorem lsame_ok (w : World) (ps p bl : Nat) (h : Sh) (d : Dk) (st : StAt w [p, bl] ps p bl h d) (pr : Nat) (x : RX) (r : RefOk w p bl pr h x) (v : Bool) (hv : v = true ↔ BlkEq h d x h.b) :
    Calls Try.prog 17 #[.pointer (some ⟨ps, 0, none⟩), .pointer (some ⟨pr, 0, none⟩)] w fun e w' => e = .returned (.bool v) ∧ Ext w w' := by
  obtain ⟨g, h1, _⟩ := r
  exact lsame w _ ps p bl h d st _ pr g x h1 v hv
theorem lslots_ok (w : World) (ps p bl : Nat) (h : Sh) (d : Dk) (st : StAt w [p, bl] ps p bl h d) (pr : Nat) (x : RX) (r : RefOk w p bl pr h x) (v : Bool) (hv : v = true ↔ SlEq h d x (h.c * h.k)) :
    Calls Try.prog 27 #[.pointer (some ⟨p, 0, none⟩), .agg #[.int .i64 h.b, .int .i64 h.s, .int .i64 h.c, .int .i64 h.k], .pointer (some ⟨pr, 0, none⟩)] w fun e w' => e = .returned (.bool v) ∧ Ext w w' := by
  obtain ⟨g, h1, _⟩ := r
  exact lslots w _ p bl h d st.dk st.byt st.ok st.many _ pr g x h1 v hv
/-- where a store stands -/
def CrU (h : Sh) (d : Dk) (x : RX) : Prop := d.down = false ∧ Sim h d x ∧ d.rows.getD 0 [] = []
def CrD (w : World) (p bl py : Nat) (h : Sh) (d : Dk) (x y : RX) : Prop := d.down = true ∧ RefOk w p bl py h y ∧ ((Sim h d x ∧ d.rows.getD 0 [] = []) ∨ Rec h d.rows y)
def CrSt (w : World) (p bl : Nat) (h : Sh) (d : Dk) (x : RX) (yv : Value) : Prop := (yv = .pointer none ∧ CrU h d x) ∨ ∃ py y, yv = .pointer (some ⟨py, 0, none⟩) ∧ CrD w p bl py h d x y
theorem CrD.chg {w w' : World} {p bl py : Nat} {h : Sh} {d d' : Dk} {x y : RX} (c : CrD w p bl py h d x y) (hx : Chg [p, bl] w w') (e : d'.rows = d.rows) (hd : d'.down = true) : CrD w' p bl py h d' x y := by
  obtain ⟨_, h2, h3⟩ := c
  refine ⟨hd, h2.chg hx, ?_⟩
  rcases h3 with ⟨k1, k2⟩ | k1
  · exact .inl ⟨k1.congr e, by rw [e]; exact k2⟩
  · exact .inr (by rw [e]; exact k1)
/-- the disk is up again, and the store opened -/
theorem sopen_up (w : World) (p bl : Nat) (h : Sh) (d : Dk) (hd : DiskAt w [p, bl] p bl d) (byt : Byt d) (hF : ∀ f ∈ [p, bl], f < w.heap.size) (ok : h.Ok) (hm : h.many ≤ d.rows.length) (hf : Fresh d) (x y : RX) (hc : (Sim h d x ∧ d.rows.getD 0 [] = []) ∨ Rec h d.rows y) :
    Calls Try.prog 14 #[.pointer (some ⟨p, 0, none⟩), .agg #[.int .i64 h.b, .int .i64 h.s, .int .i64 h.c, .int .i64 h.k]] w fun e w' => ∃ ps d', e = .returned (.tuple #[.pointer (some ⟨ps, 0, none⟩), .int .i64 0]) ∧ StAt w' [p, bl] ps p bl h d' ∧ w.heap.size ≤ ps ∧ Chg [p, bl] w w' ∧ d'.down = false ∧ d'.rows.getD 0 [] = [] ∧ (Sim h d' x ∨ Sim h d' y) := by
  rcases hc with ⟨k1, k2⟩ | ⟨c, k, blk, b, o, v, D, ar, e, sy⟩
  · refine (sopen w [p, bl] p bl h d hd byt hF ok hm (by rw [k2]; exact jT_nil h.s)).mono ?_
    rintro e w' ⟨ps, rfl, h1, h2, h3⟩
    exact ⟨ps, d, rfl, h1, h2, Chg.of_ext h3, hf.u, k2, .inl k1⟩
  · refine (sopen_redo w [p, bl] p bl h d hd byt hF ok hm hf c k blk b o v D ar e).mono ?_
    rintro e w' ⟨ps, rfl, h1, h2, h3⟩
    exact ⟨ps, _, rfl, h1, h2, h3, rfl, by rw [show (⟨-1, false, redo h d.rows c k blk b o v D⟩ : Dk).rows = redo h d.rows c k blk b o v D from rfl, redo_get ok hm ar, if_pos rfl], .inr sy⟩
/-- a Boolean that tells whether -/
theorem tells (P : Prop) : ∃ v : Bool, v = true ↔ P := by
  by_cases h : P
  · exact ⟨true, by simp [h]⟩
  · exact ⟨false, by simp [h]⟩
section
variable {h : Sh} {d : Dk} {x y : RX} {v1 v2 v3 : Bool}
theorem pick1 (e2 : v2 = true ↔ BlkEq h d y h.b) (hs : Sim h d x ∨ Sim h d y) (h2 : v2 = false) : Sim h d x := by
  rcases hs with s | s
  · exact s
  · have := e2.2 s.blk; rw [h2] at this; cases this
theorem pick2 (e1 : v1 = true ↔ BlkEq h d x h.b) (hs : Sim h d x ∨ Sim h d y) (h1 : v1 = false) : Sim h d y := by
  rcases hs with s | s
  · have := e1.2 s.blk; rw [h1] at this; cases this
  · exact s
theorem pick3 (k1 : 0 < h.k) (e3 : v3 = true ↔ SlEq h d y (h.c * h.k)) (hs : Sim h d x ∨ Sim h d y) (h3 : v3 = false) : Sim h d x := by
  rcases hs with s | s
  · exact s
  · have := e3.2 (s.toSl k1); rw [h3] at this; cases this
theorem pick4 (e2 : v2 = true ↔ BlkEq h d y h.b) (e3 : v3 = true ↔ SlEq h d y (h.c * h.k)) (h2 : v2 = true) (h3 : v3 = true) : Sim h d y := Sim.slots (e2.1 h2) (e3.1 h3)
end


def Tells (v : Bool) (P : Prop) : Prop := v = true ↔ P
def Impl (v b : Bool) (P : Prop) : Prop := v = b → P
theorem fuse_rows (d : Dk) (n : Int) : (d.fuseTo n).rows = d.rows ∧ (d.fuseTo n).down = d.down := by
  unfold Dk.fuseTo
  split <;> exact ⟨rfl, rfl⟩
set_option maxRecDepth 100000 in
set_option maxHeartbeats 16000000 in
theorem walk_StoreCrash (v0 v1 : Value) (w : World) (h0 : IsAgg4 v0) (h1 : IsNest Try.prog 40 w v1) :
    Calls Try.prog 8 #[v0, v1] w fun e w' => e = .returned (.bool true) ∧ Ext w w' := by
  obtain ⟨x0, x1, x2, x3, rfl, _⟩ := h0
  obtain ⟨n, V, A, hr, hA⟩ := acts_of h1
  have HRV := Lib.hid hr
  have HA := Lib.hid hA
  have HLO := Lib.hid (fun w' (hx : Ext w w') => llong v1 n V A w' (hr.ext hx) (fun i hi => by
    obtain ⟨g0, g1, g2, g3, g4, g5, g6, g7, g8⟩ := hA i hi
    exact ⟨g0, g1, g2, g3, g4, g5, g6, g7.ext hx, g8⟩))
  obtain ⟨av, cv, rfl, hnc, hcm, _, hs⟩ := hr
  have HS := Lib.hid hs
  clear hA hs hcm hnc h1
  go_enter Try.func8, Try.ntmps8
  go_upto_region 1 with fail
  have y0 := cell_new w #[.int .i64 x0, .int .i64 x1, .int .i64 x2, .int .i64 x3] 23 (0, 0) (j := 0) rfl
  have y1 := cell_new w #[.int .i64 x0, .int .i64 x1, .int .i64 x2, .int .i64 x3] 23 (0, 0) (j := 1) rfl
  have y2 := cell_new w #[.int .i64 x0, .int .i64 x1, .int .i64 x2, .int .i64 x3] 23 (0, 0) (j := 2) rfl
  have y3 := cell_new w #[.int .i64 x0, .int .i64 x1, .int .i64 x2, .int .i64 x3] 23 (0, 0) (j := 3) rfl
  have hszA : (w.alloc (.cells #[.int .i64 x0, .int .i64 x1, .int .i64 x2, .int .i64 x3] 23)).heap.size = w.heap.size + 1 := by simp
  have hxA : Ext w (w.alloc (.cells #[.int .i64 x0, .int .i64 x1, .int .i64 x2, .int .i64 x3] 23)) := (Ext.refl w).alloc _
  generalize (w.alloc (.cells #[.int .i64 x0, .int .i64 x1, .int .i64 x2, .int .i64 x3] 23)) = w1 at *
  obtain ⟨pb, hpb⟩ : ∃ pb, pb = w.heap.size := ⟨_, rfl⟩
  rw [← hpb] at y0 y1 y2 y3 hszA ⊢
  clear hszA
  clear hpb
  go_wp2_with fail
  refine (wakes06 _).mono ?_
  rintro e w2 ⟨rfl, hx2⟩
  have y0 := hx2.cellv y0
  have y1 := hx2.cellv y1
  have y2 := hx2.cellv y2
  have y3 := hx2.cellv y3
  have hxA := hxA.trans hx2
  clear hx2
  go_wp2_with fail
  refine (HLO.out _ hxA).mono ?_
  rintro e w3 ⟨lg, rfl, hlg, hx3⟩
  have y0 := hx3.cellv y0
  have y1 := hx3.cellv y1
  have y2 := hx3.cellv y2
  have y3 := hx3.cellv y3
  have hxA := hxA.trans hx3
  clear hx3 HLO
  cases lg with
  | true =>
    go_wp2_with fail
    go_ret
    exact ⟨rfl, hxA.trans (by repeat' (first | (with_reducible exact Ext.refl _) | (with_reducible assumption) | (with_reducible refine Ext.alloc ?_ _) | (with_reducible refine Ext.drewN ?_ _) | (with_reducible refine Ext.drew ?_) | (with_reducible refine Ext.trans ?_ (by assumption))))⟩
  | false =>
  obtain ⟨hn60, hDL⟩ := hlg rfl
  have HDL := Lib.hid hDL
  clear hlg hDL
  by_cases hok : ShOk x0 x1 x2 x3
  case neg =>
    have HRI := Lib.hid (fun w' => lright x0 x1 x2 x3 false (decide_eq_false hok) w')
    clear hok
    go_wp2_with fail
    refine (HRI.out _).mono ?_
    rintro e w4 ⟨rfl, hx4⟩
    go_wp2_with fail
    go_ret
    exact ⟨rfl, hxA.trans (hx4.trans (by repeat' (first | (with_reducible exact Ext.refl _) | (with_reducible assumption) | (with_reducible refine Ext.alloc ?_ _) | (with_reducible refine Ext.drewN ?_ _) | (with_reducible refine Ext.drew ?_) | (with_reducible refine Ext.trans ?_ (by assumption)))))⟩
  have HRI := Lib.hid (fun w' => lright x0 x1 x2 x3 true (decide_eq_true hok) w')
  obtain ⟨h, ok, rfl, rfl, rfl, rfl⟩ := shape_of hok
  have HOK := Lib.hid ok
  clear hok ok
  obtain ⟨z0, hz0⟩ : ∃ x : Int, x = (h.b : Nat) := ⟨_, rfl⟩
  obtain ⟨z1, hz1⟩ : ∃ x : Int, x = (h.s : Nat) := ⟨_, rfl⟩
  obtain ⟨z2, hz2⟩ : ∃ x : Int, x = (h.c : Nat) := ⟨_, rfl⟩
  obtain ⟨z3, hz3⟩ : ∃ x : Int, x = (h.k : Nat) := ⟨_, rfl⟩
  have HOP : Hid (∀ w' p bl d x y, DiskAt w' [p, bl] p bl d → Byt d → (∀ f ∈ [p, bl], f < w'.heap.size) → h.many ≤ d.rows.length → Fresh d → ((Sim h d x ∧ d.rows.getD 0 [] = []) ∨ Rec h d.rows y) → Calls Try.prog 14 #[.pointer (some ⟨p, 0, none⟩), .agg #[.int .i64 z0, .int .i64 z1, .int .i64 z2, .int .i64 z3]] w' fun e w'' => ∃ ps d', e = .returned (.tuple #[.pointer (some ⟨ps, 0, none⟩), .int .i64 0]) ∧ StAt w'' [p, bl] ps p bl h d' ∧ w'.heap.size ≤ ps ∧ Chg [p, bl] w' w'' ∧ d'.down = false ∧ d'.rows.getD 0 [] = [] ∧ (Sim h d' x ∨ Sim h d' y)) := Lib.hid (fun w' p bl d x y hd hb hF hm hf hc => by
    rw [hz0, hz1, hz2, hz3]
    exact sopen_up w' p bl h d hd hb hF HOK.out hm hf x y hc)
  have HNW : Hid (∀ w' p bl, p < w'.heap.size → bl < w'.heap.size → Calls Try.prog 13 #[.int .i64 z0, .int .i64 z1, .int .i64 z2, .int .i64 z3] w' fun e w'' => ∃ pr, e = .returned (.pointer (some ⟨pr, 0, none⟩)) ∧ RefOk w'' p bl pr h (rX0 h) ∧ Ext w' w'') := Lib.hid (fun w' p bl h1 h2 => by
    rw [hz0, hz1, hz2, hz3]
    exact rnew_ok h HOK.out w' p bl h1 h2)
  have HSLO : Hid (∀ w' ps p bl d, StAt w' [p, bl] ps p bl h d → ∀ pr x, RefOk w' p bl pr h x → ∀ v : Bool, (v = true ↔ SlEq h d x (h.c * h.k)) → Calls Try.prog 27 #[.pointer (some ⟨p, 0, none⟩), .agg #[.int .i64 z0, .int .i64 z1, .int .i64 z2, .int .i64 z3], .pointer (some ⟨pr, 0, none⟩)] w' fun e w'' => e = .returned (.bool v) ∧ Ext w' w'') := Lib.hid (fun w' ps p bl d st pr x r v hv => by
    rw [hz0, hz1, hz2, hz3]
    exact lslots_ok w' ps p bl h d st pr x r v hv)
  rw [← hz0, ← hz1, ← hz2, ← hz3] at HRI
  rw [← hz0] at y0 ⊢
  rw [← hz1] at y1 ⊢
  rw [← hz2] at y2 ⊢
  rw [← hz3] at y3 ⊢
  have HMY : Hid (h.many ≤ 64) := Lib.hid (by have := HOK.out.many; omega)
  clear hz0 hz1 hz2 hz3
  go_wp2_with fail
  refine (HRI.out _).mono ?_
  rintro e w4 ⟨rfl, hx4⟩
  have y0 := hx4.cellv y0
  have y1 := hx4.cellv y1
  have y2 := hx4.cellv y2
  have y3 := hx4.cellv y3
  have hxA := hxA.trans hx4
  clear hx4 HRI
  have HX4 := Lib.hid hxA
  have HPB4 : Hid (pb < w4.heap.size) := Lib.hid (cell_lt y0)
  go_wp2_with fail
  refine (dnew_any 64 _ (by omega) (by omega)).mono ?_
  rintro e w5 ⟨p, bl, rfl, hd5, hp, hbl, hp1, hb1, hx5⟩
  replace y0 := hx5.cellv y0
  replace y1 := hx5.cellv y1
  replace y2 := hx5.cellv y2
  replace y3 := hx5.cellv y3
  have hxA := hxA.trans hx5
  have HSP : Hid (∀ x ∈ [p, bl], w.heap.size ≤ x) := Lib.hid (by
    have h2 := HX4.out.size
    intro x hx
    simp at hx; omega)
  have HY : Hid (pb ∉ [p, bl]) := Lib.hid (by have := HPB4.out; simp; omega)
  have HD5 := Lib.hid (hd5 [p, bl] (by simp) (by simp))
  have HF5 : Hid (∀ f ∈ [p, bl], f < w5.heap.size) := Lib.hid (by simp; omega)
  have HNW5 := Lib.hid (HNW.out w5 p bl hp1 hb1)
  clear hd5 hp hbl hp1 hb1 hx5 HNW
  go_wp2_with fail
  refine HNW5.out.mono ?_
  rintro e w6 ⟨pr, rfl, hra, hx6⟩
  replace y0 := hx6.cellv y0
  replace y1 := hx6.cellv y1
  replace y2 := hx6.cellv y2
  replace y3 := hx6.cellv y3
  have hxA := hxA.trans hx6
  have HR6 := Lib.hid hra
  have HO6 := Lib.hid (HOP.out w6 p bl exD (rX0 h) (rX0 h) (HD5.out.ext hx6) (rep_byt 64) (fun f hf => Nat.lt_of_lt_of_le (HF5.out f hf) hx6.size) (by show h.many ≤ 64; exact HMY.out) ⟨rfl, rfl⟩ (.inl ⟨sim_start h, rfl⟩))
  have HF6 : Hid (∀ f ∈ [p, bl], f < w6.heap.size) := Lib.hid (fun f hf => Nat.lt_of_lt_of_le (HF5.out f hf) hx6.size)
  clear hra hx6 HD5 HF5 HNW5
  go_wp2_with fail
  refine HO6.out.mono ?_
  rintro e w7 ⟨ps, d0, rfl, hst, hps, hc7, hdn, h00, hsm⟩
  replace y0 := chg_cellc hc7 y0 HY.out
  replace y1 := chg_cellc hc7 y1 HY.out
  replace y2 := chg_cellc hc7 y2 HY.out
  replace y3 := chg_cellc hc7 y3 HY.out
  have HST7 := Lib.hid hst
  have HR7 := Lib.hid (HR6.out.chg hc7)
  have HX7 := Lib.hid (hxA.chg hc7 HSP.out)
  have HF7 : Hid (∀ f ∈ [p, bl], f < w7.heap.size) := Lib.hid (fun f hf => Nat.lt_of_lt_of_le (HF6.out f hf) hc7.size)
  have HS0 : Hid (Sim h d0 (rX0 h)) := Lib.hid (by rcases hsm with s | s <;> exact s)
  have HC0 : Hid (CrSt w7 p bl h d0 (rX0 h) (.pointer none)) := Lib.hid (.inl ⟨rfl, hdn, HS0.out, h00⟩)
  have HXO : Hid (XOk h (rX0 h)) := Lib.hid (HS0.out.xok HOK.out)
  clear hst hps hc7 hdn h00 hsm HO6 HF6 HR6 hxA HS0
  go_wp2_with fail
  go_loopw [6, 7, 8, 9, 47] (fun cx cy ck ce ci wr => ∃ (i ps pr : Nat) (d : Dk) (x : RX) (yv : Value), i ≤ n ∧ ci = .int .i64 i ∧ cx = .pointer (some ⟨pr, 0, none⟩) ∧ cy = yv ∧ ck = .pointer (some ⟨ps, 0, none⟩) ∧ ce = .int .i64 0 ∧ Hid (StAt wr [p, bl] ps p bl h d) ∧ Hid (RefOk wr p bl pr h x) ∧ Hid (XOk h x) ∧ Hid (CrSt wr p bl h d x yv) ∧ Hid (∀ f ∈ [p, bl], f < wr.heap.size) ∧ Chg [p, bl] w7 wr ∧ Ext w wr) (fun _ _ _ _ ci _ => n - (intOf ci).toNat)
  case atStart => exact ⟨0, ps, pr, d0, rX0 h, _, Nat.zero_le _, rfl, rfl, rfl, rfl, rfl, HST7, HR7, HXO, HC0, HF7, Chg.refl _ _, HX7.out⟩
  case round =>
    clear HST7 HR7 HXO HC0 HF7 HX7
    obtain ⟨i, ps, pr, d, x, yv, hi, rfl, rfl, hyv, rfl, rfl, HST, HRX, HXO, HCS, HF, hc7, hx⟩ := hrel
    obtain rfl : yv = _ := hyv.symm
    by_cases hlt : i < n
    case neg =>
      rcases HCS.out with ⟨rfl, _⟩ | ⟨py, y, rfl, _⟩
      · go_wp2_with fail
        go_ret
        exact ⟨rfl, hx.trans (by repeat' (first | (with_reducible exact Ext.refl _) | (with_reducible assumption) | (with_reducible refine Ext.alloc ?_ _) | (with_reducible refine Ext.drewN ?_ _) | (with_reducible refine Ext.drew ?_) | (with_reducible refine Ext.trans ?_ (by assumption))))⟩
      · go_wp2_with fail
        go_ret
        exact ⟨rfl, hx.trans (by repeat' (first | (with_reducible exact Ext.refl _) | (with_reducible assumption) | (with_reducible refine Ext.alloc ?_ _) | (with_reducible refine Ext.drewN ?_ _) | (with_reducible refine Ext.drew ?_) | (with_reducible refine Ext.trans ?_ (by assumption))))⟩
    have hii : (i : Int) < (n : Int) := by omega
    obtain ⟨bb, oo, rfl, hbb, hcell⟩ := HS.out (by omega)
    obtain ⟨g0, g1, g2, g3, g4, g5, g6, g7⟩ := act_cells hx hbb hcell HA.out hlt
    obtain ⟨_, _, _, _, _, _, _, hD, hok, hkb⟩ := HA.out i hlt
    have hDb := hok.D
    have hbo := hok.o
    obtain ⟨K0, hK0⟩ : ∃ z, z = (A i).1 := ⟨_, rfl⟩
    obtain ⟨K1, hK1⟩ : ∃ z, z = (A i).2.1 := ⟨_, rfl⟩
    obtain ⟨a, ha⟩ : ∃ z, z = (A i).2.2.c := ⟨_, rfl⟩
    obtain ⟨s, hs⟩ : ∃ z, z = (A i).2.2.k := ⟨_, rfl⟩
    obtain ⟨b, hb⟩ : ∃ z, z = (A i).2.2.b := ⟨_, rfl⟩
    obtain ⟨o, ho⟩ : ∃ z, z = (A i).2.2.o := ⟨_, rfl⟩
    obtain ⟨bk, hbk⟩ : ∃ z, z = (A i).2.2.bk := ⟨_, rfl⟩
    obtain ⟨D, hDe⟩ : ∃ z, z = (A i).2.2.D := ⟨_, rfl⟩
    rw [← hK0] at g0
    rw [← hK1] at g1
    rw [← ha] at g2
    rw [← hs] at g3
    rw [← hb] at g4
    rw [← ho] at g5 hbo
    rw [← hbk] at g6
    rw [← hDe] at hD hDb
    obtain ⟨dv, hdv⟩ : ∃ z, z = V i 7 := ⟨_, rfl⟩
    rw [← hdv] at g7 hD
    have HD := Lib.hid hD
    obtain ⟨ad, cc, rfl, _, _, _, hDs⟩ := hD.parts
    have HDo : Hid (0 < D.length → ∀ x, (Value.slice ad D.length cc).ownBlock = some x → x ∉ [p, bl] ∧ x < w.heap.size) := Lib.hid (fun hl x hx => by
      obtain ⟨b', o', rfl, hlt', _⟩ := hDs (by intro e; rw [e] at hl; simp at hl)
      cases hx
      exact ⟨fun hm => by have h1 := HSP.out _ hm; simp only at h1; omega, hlt'⟩)
    obtain ⟨nn, hnn⟩ : ∃ z, z = D.length := ⟨_, rfl⟩
    rw [← hnn] at HD HDo g7
    have HNN := Lib.hid hnn
    have HDB := Lib.hid hDb
    have HK1 : Hid (K1 ≤ 9223372036854775807) := Lib.hid (by rw [hK1]; exact hkb.2)
    clear hkb hK0 hK1 ha hs hb ho hbk hDe hdv hD hDs hnn hDb hcell hok
    replace y0 := chg_cellc hc7 y0 HY.out
    replace y1 := chg_cellc hc7 y1 HY.out
    replace y2 := chg_cellc hc7 y2 HY.out
    replace y3 := chg_cellc hc7 y3 HY.out
    go_upto_region 14 with fail
    have hxa : Ext wr (wr.alloc (.cells #[.int .i64 K0, .int .i64 K1, .int .i64 a, .int .i64 s, .int .i64 b, .int .i64 o, .int .i64 bk, .slice ad nn cc] 40)) := (Ext.refl wr).alloc _
    have e0 := cell_new wr #[.int .i64 K0, .int .i64 K1, .int .i64 a, .int .i64 s, .int .i64 b, .int .i64 o, .int .i64 bk, .slice ad nn cc] 40 (0, 0) (j := 0) rfl
    have e1 := cell_new wr #[.int .i64 K0, .int .i64 K1, .int .i64 a, .int .i64 s, .int .i64 b, .int .i64 o, .int .i64 bk, .slice ad nn cc] 40 (0, 0) (j := 1) rfl
    have e2 := cell_new wr #[.int .i64 K0, .int .i64 K1, .int .i64 a, .int .i64 s, .int .i64 b, .int .i64 o, .int .i64 bk, .slice ad nn cc] 40 (0, 0) (j := 2) rfl
    have e3 := cell_new wr #[.int .i64 K0, .int .i64 K1, .int .i64 a, .int .i64 s, .int .i64 b, .int .i64 o, .int .i64 bk, .slice ad nn cc] 40 (0, 0) (j := 3) rfl
    have e4 := cell_new wr #[.int .i64 K0, .int .i64 K1, .int .i64 a, .int .i64 s, .int .i64 b, .int .i64 o, .int .i64 bk, .slice ad nn cc] 40 (0, 0) (j := 4) rfl
    have e5 := cell_new wr #[.int .i64 K0, .int .i64 K1, .int .i64 a, .int .i64 s, .int .i64 b, .int .i64 o, .int .i64 bk, .slice ad nn cc] 40 (0, 0) (j := 5) rfl
    have e6 := cell_new wr #[.int .i64 K0, .int .i64 K1, .int .i64 a, .int .i64 s, .int .i64 b, .int .i64 o, .int .i64 bk, .slice ad nn cc] 40 (0, 0) (j := 6) rfl
    have e7 := cell_new wr #[.int .i64 K0, .int .i64 K1, .int .i64 a, .int .i64 s, .int .i64 b, .int .i64 o, .int .i64 bk, .slice ad nn cc] 40 (0, 0) (j := 7) rfl
    generalize (wr.alloc (.cells #[.int .i64 K0, .int .i64 K1, .int .i64 a, .int .i64 s, .int .i64 b, .int .i64 o, .int .i64 bk, .slice ad nn cc] 40)) = wa at *
    obtain ⟨q, hq⟩ : ∃ q, q = wr.heap.size := ⟨_, rfl⟩
    rw [← hq] at e0 e1 e2 e3 e4 e5 e6 e7 ⊢
    have N1 : q ∉ [p, bl] := fun hm => by have := HF.out _ hm; omega
    have HN1 := Lib.hid N1
    have hXa := hx.trans hxa
    have hc7a := hc7.ext hxa
    have HSA := Lib.hid (HST.out.ext hxa)
    have HRA := Lib.hid (HRX.out.ext hxa)
    have HFA : Hid (∀ f ∈ [p, bl], f < wa.heap.size) := Lib.hid (fun f hf => Nat.lt_of_lt_of_le (HF.out f hf) hxa.size)
    have HDA := Lib.hid (HD.out.ext hXa)
    have HCA : Hid (CrSt wa p bl h d x yv) := Lib.hid (by
      rcases HCS.out with k | ⟨py, y, k1, k2⟩
      · exact .inl k
      · exact .inr ⟨py, y, k1, k2.chg (Chg.of_ext hxa) rfl k2.1⟩)
    have HXA := Lib.hid hXa
    have HC7 := Lib.hid hc7a
    replace y0 := hxa.cellv y0
    replace y1 := hxa.cellv y1
    replace y2 := hxa.cellv y2
    replace y3 := hxa.cellv y3
    clear hq hx hxa hXa hc7a hc7 HST HRX HF HCS g0 g1 g2 g3 g4 g5 g6 g7 N1
    by_cases hk0 : K0 = 0
    case pos =>
      have hk1 : (K0 == 0) = true := by simpa using hk0
      clear hk0 HOP HSLO
      rcases HCA.out with ⟨rfl, hu⟩ | ⟨py, y, rfl, hd⟩
      ·
        --[[A
        have HDN := Lib.hid (sDown wa [p, bl] ps p bl h d HSA.out)
        rw [hu.1] at HDN
        go_wp2_with fail
        refine HDN.out.mono ?_
        rintro e wb ⟨rfl, hxb⟩
        replace e2 := hxb.cellv e2
        replace e3 := hxb.cellv e3
        replace e4 := hxb.cellv e4
        replace e5 := hxb.cellv e5
        replace e6 := hxb.cellv e6
        replace e7 := hxb.cellv e7
        replace y0 := hxb.cellv y0
        replace y1 := hxb.cellv y1
        replace y2 := hxb.cellv y2
        replace y3 := hxb.cellv y3
        have HWS := Lib.hid (swrite_crash wb [p, bl] ps p bl h d (HSA.out.ext hxb) (fun f hf => Nat.lt_of_lt_of_le (HFA.out f hf) hxb.size) x a s b o bk (.slice ad nn cc) D (HDA.out.ext hxb) HDB.out (fun hl z hz => (HDo.out (by rw [HNN.out]; exact hl) z hz).1))
        have HXB := Lib.hid hxb
        clear hxb HDN
        go_wp2_with fail
        refine HWS.out.mono ?_
        rintro e wc0 ⟨r1, r2, d', rfl, hst', hch, hcr⟩
        replace e2 := chg_cellc hch e2 HN1.out
        replace e3 := chg_cellc hch e3 HN1.out
        replace e4 := chg_cellc hch e4 HN1.out
        replace e5 := chg_cellc hch e5 HN1.out
        replace e6 := chg_cellc hch e6 HN1.out
        replace e7 := chg_cellc hch e7 HN1.out
        replace y0 := chg_cellc hch y0 HY.out
        replace y1 := chg_cellc hch y1 HY.out
        replace y2 := chg_cellc hch y2 HY.out
        replace y3 := chg_cellc hch y3 HY.out
        have HRC := Lib.hid ((HRA.out.ext HXB.out).chg hch)
        have HCP := Lib.hid (rcopy_ok wc0 p bl pr h x HRC.out HOK.out HXO.out)
        have HSC := Lib.hid hst'
        have HCR := Lib.hid hcr
        have HCHa : Hid (Chg [p, bl] wa wc0) := Lib.hid ((Chg.of_ext HXB.out).trans hch)
        have HPL : Hid (p < wc0.heap.size ∧ bl < wc0.heap.size ∧ w.heap.size ≤ wc0.heap.size) := Lib.hid (by
          have h1 := HFA.out p (by simp)
          have h2 := HFA.out bl (by simp)
          have h3 := HCHa.out.size
          have h4 := HXA.out.size
          omega)
        have HDC := Lib.hid (HDA.out.chgc HCHa.out (fun hne z hz => (HDo.out (by rw [HNN.out]; cases D with | nil => exact absurd rfl hne | cons _ _ => simp) z hz).1))
        clear hst' hch hcr HWS
        go_wp2_with fail
        refine HCP.out.mono ?_
        rintro e wd ⟨pn, rfl, hrn, hxd⟩
        replace e2 := hxd.cellv e2
        replace e3 := hxd.cellv e3
        replace e4 := hxd.cellv e4
        replace e5 := hxd.cellv e5
        replace e6 := hxd.cellv e6
        replace e7 := hxd.cellv e7
        replace y0 := hxd.cellv y0
        replace y1 := hxd.cellv y1
        replace y2 := hxd.cellv y2
        replace y3 := hxd.cellv y3
        obtain ⟨q1, q2, x', hrw⟩ : ∃ q1 q2 x', rWr h x a s b o bk D = ((q1, q2), x') := ⟨_, _, _, rfl⟩
        have HWX := Lib.hid (rwrite_ok wc0 wd hxd p bl pn h x hrn HPL.out.1 HPL.out.2.1 HOK.out HXO.out a s b o bk (.slice ad nn cc) D (HDC.out.ext hxd) (fun hl z hz => by have h9 := HDo.out (by rw [HNN.out]; exact hl) z hz; exact ⟨h9.1, Nat.lt_of_lt_of_le h9.2 HPL.out.2.2⟩) q1 q2 x' hrw)
        rw [hrw] at HCR
        have HXD := Lib.hid hxd
        clear hrn hxd HCP hrw
        go_wp2_with fail
        refine HWX.out.mono ?_
        rintro e we ⟨rfl, hrn, hxe⟩
        have HSE := Lib.hid (HSC.out.ext hxe)
        have HRE := Lib.hid (HRC.out.ext hxe)
        have HRN := Lib.hid (hrn.ok HPL.out.1 HPL.out.2.1)
        have HCHE : Hid (Chg [p, bl] wa we) := Lib.hid (HCHa.out.ext hxe)
        have HCE : Hid (Chg [p, bl] w7 we) := Lib.hid (HC7.out.trans HCHE.out)
        have HXE : Hid (Ext w we) := Lib.hid (HXA.out.chg HCHE.out HSP.out)
        have HFE : Hid (∀ f ∈ [p, bl], f < we.heap.size) := Lib.hid (fun f hf => Nat.lt_of_lt_of_le (HFA.out f hf) HCHE.out.size)
        clear hrn hxe HWX e2 e3 e4 e5 e6 e7
        rcases HCR.out.up hu.1 hu.2.1 hu.2.2 with ⟨hd2, heq, hsim, h00, h8⟩ | ⟨hd2, h8, hcs⟩
        · obtain ⟨rfl, rfl⟩ := Prod.mk.inj heq
          have hb8 : (r2 == 8) = false := by simpa using h8
          have HCS2 : Hid (CrSt we p bl h d' x' (.pointer none)) := Lib.hid (.inl ⟨rfl, hd2, hsim, h00⟩)
          have HXO2 : Hid (XOk h x') := Lib.hid (hsim.xok HOK.out)
          clear heq h8 hd2 hsim h00 hu
          go_wp2_with fail
          go_roundw
          case rel => exact ⟨i + 1, ps, pn, d', x', _, by omega, by go_num, rfl, rfl, rfl, rfl, HSE, HRN, HXO2, HCS2, HFE, HCE.out, HXE.out⟩
          case measure => simp [intOf]; omega
        · subst h8
          have HCS2 : Hid (CrSt we p bl h d' x (.pointer (some ⟨pn, 0, none⟩))) := Lib.hid (.inr ⟨pn, x', rfl, hd2, HRN.out, hcs⟩)
          clear hd2 hcs hu
          go_wp2_with fail
          go_roundw
          case rel => exact ⟨i + 1, ps, pr, d', x, _, by omega, by go_num, rfl, rfl, rfl, rfl, HSE, HRE, HXO, HCS2, HFE, HCE.out, HXE.out⟩
          case measure => simp [intOf]; omega
        --]]
      ·
        --[[B
        have HDN := Lib.hid (sDown wa [p, bl] ps p bl h d HSA.out)
        rw [hd.1] at HDN
        go_wp2_with fail
        refine HDN.out.mono ?_
        rintro e wb ⟨rfl, hxb⟩
        replace e2 := hxb.cellv e2
        replace e3 := hxb.cellv e3
        replace e4 := hxb.cellv e4
        replace e5 := hxb.cellv e5
        replace e6 := hxb.cellv e6
        replace e7 := hxb.cellv e7
        replace y0 := hxb.cellv y0
        replace y1 := hxb.cellv y1
        replace y2 := hxb.cellv y2
        replace y3 := hxb.cellv y3
        have HWS := Lib.hid (swrite_crash wb [p, bl] ps p bl h d (HSA.out.ext hxb) (fun f hf => Nat.lt_of_lt_of_le (HFA.out f hf) hxb.size) x a s b o bk (.slice ad nn cc) D (HDA.out.ext hxb) HDB.out (fun hl z hz => (HDo.out (by rw [HNN.out]; exact hl) z hz).1))
        have HXB := Lib.hid hxb
        clear hxb HDN
        go_wp2_with fail
        refine HWS.out.mono ?_
        rintro e wc0 ⟨r1, r2, d', rfl, hst', hch, hcr⟩
        replace e2 := chg_cellc hch e2 HN1.out
        replace e3 := chg_cellc hch e3 HN1.out
        replace e4 := chg_cellc hch e4 HN1.out
        replace e5 := chg_cellc hch e5 HN1.out
        replace e6 := chg_cellc hch e6 HN1.out
        replace e7 := chg_cellc hch e7 HN1.out
        replace y0 := chg_cellc hch y0 HY.out
        replace y1 := chg_cellc hch y1 HY.out
        replace y2 := chg_cellc hch y2 HY.out
        replace y3 := chg_cellc hch y3 HY.out
        have HRC := Lib.hid ((HRA.out.ext HXB.out).chg hch)
        have HCP := Lib.hid (rcopy_ok wc0 p bl pr h x HRC.out HOK.out HXO.out)
        have HSC := Lib.hid hst'
        have HCR := Lib.hid hcr
        have HCHa : Hid (Chg [p, bl] wa wc0) := Lib.hid ((Chg.of_ext HXB.out).trans hch)
        have HPL : Hid (p < wc0.heap.size ∧ bl < wc0.heap.size ∧ w.heap.size ≤ wc0.heap.size) := Lib.hid (by
          have h1 := HFA.out p (by simp)
          have h2 := HFA.out bl (by simp)
          have h3 := HCHa.out.size
          have h4 := HXA.out.size
          omega)
        have HDC := Lib.hid (HDA.out.chgc HCHa.out (fun hne z hz => (HDo.out (by rw [HNN.out]; cases D with | nil => exact absurd rfl hne | cons _ _ => simp) z hz).1))
        clear hst' hch hcr HWS
        go_wp2_with fail
        refine HCP.out.mono ?_
        rintro e wd ⟨pn, rfl, hrn, hxd⟩
        replace e2 := hxd.cellv e2
        replace e3 := hxd.cellv e3
        replace e4 := hxd.cellv e4
        replace e5 := hxd.cellv e5
        replace e6 := hxd.cellv e6
        replace e7 := hxd.cellv e7
        replace y0 := hxd.cellv y0
        replace y1 := hxd.cellv y1
        replace y2 := hxd.cellv y2
        replace y3 := hxd.cellv y3
        obtain ⟨q1, q2, x', hrw⟩ : ∃ q1 q2 x', rWr h x a s b o bk D = ((q1, q2), x') := ⟨_, _, _, rfl⟩
        have HWX := Lib.hid (rwrite_ok wc0 wd hxd p bl pn h x hrn HPL.out.1 HPL.out.2.1 HOK.out HXO.out a s b o bk (.slice ad nn cc) D (HDC.out.ext hxd) (fun hl z hz => by have h9 := HDo.out (by rw [HNN.out]; exact hl) z hz; exact ⟨h9.1, Nat.lt_of_lt_of_le h9.2 HPL.out.2.2⟩) q1 q2 x' hrw)
        rw [hrw] at HCR
        have HXD := Lib.hid hxd
        clear hrn hxd HCP hrw
        go_wp2_with fail
        refine HWX.out.mono ?_
        rintro e we ⟨rfl, hrn, hxe⟩
        have HSE := Lib.hid (HSC.out.ext hxe)
        have HRE := Lib.hid (HRC.out.ext hxe)
        have HRN := Lib.hid (hrn.ok HPL.out.1 HPL.out.2.1)
        have HCHE : Hid (Chg [p, bl] wa we) := Lib.hid (HCHa.out.ext hxe)
        have HCE : Hid (Chg [p, bl] w7 we) := Lib.hid (HC7.out.trans HCHE.out)
        have HXE : Hid (Ext w we) := Lib.hid (HXA.out.chg HCHE.out HSP.out)
        have HFE : Hid (∀ f ∈ [p, bl], f < we.heap.size) := Lib.hid (fun f hf => Nat.lt_of_lt_of_le (HFA.out f hf) HCHE.out.size)
        clear hrn hxe HWX e2 e3 e4 e5 e6 e7
        obtain ⟨hrows, hd2⟩ := HCR.out.down hd.1
        have HCS2 : Hid (CrSt we p bl h d' x (.pointer (some ⟨py, 0, none⟩))) := Lib.hid (.inr ⟨py, y, rfl, hd.chg HCHE.out hrows hd2⟩)
        clear hrows hd2 hd
        by_cases h8 : r2 = 8
        · subst h8
          go_wp2_with fail
          go_roundw
          case rel => exact ⟨i + 1, ps, pr, d', x, _, by omega, by go_num, rfl, rfl, rfl, rfl, HSE, HRE, HXO, HCS2, HFE, HCE.out, HXE.out⟩
          case measure => simp [intOf]; omega
        · have hb8 : (r2 == 8) = false := by simpa using h8
          clear h8
          go_wp2_with fail
          go_roundw
          case rel => exact ⟨i + 1, ps, pr, d', x, _, by omega, by go_num, rfl, rfl, rfl, rfl, HSE, HRE, HXO, HCS2, HFE, HCE.out, HXE.out⟩
          case measure => simp [intOf]; omega
        --]]
    have hk00 : (K0 == 0) = false := by simpa using hk0
    clear e2 e3 e4 e5 e6 e7
    by_cases hk1 : K0 = 1
    case pos =>
      --[[F
      have hk11 : (K0 == 1) = true := by simpa using hk1
      subst hk1
      have HFU := Lib.hid (dfuse_any [p, bl] p bl d wa HSA.out.dk K1 HK1.out)
      obtain ⟨fr1, fr2⟩ := fuse_rows d K1
      have HFR := Lib.hid (And.intro fr1 fr2)
      clear fr1 fr2 HOP HSLO
      rcases HCA.out with ⟨rfl, hu⟩ | ⟨py, y, rfl, hd⟩
      · go_wp2_with fail
        refine HFU.out.mono ?_
        rintro e we ⟨rfl, hdk, hcf⟩
        have hcf2 : Chg [p, bl] wa we := hcf.mono (by simp)
        have HSE := Lib.hid (HSA.out.chg hcf2 hdk (by have h9 := HSA.out.byt; unfold Byt at h9 ⊢; rw [HFR.out.1]; exact h9) (by rw [HFR.out.1]))
        have HRE := Lib.hid (HRA.out.chg hcf2)
        have HCE : Hid (Chg [p, bl] w7 we) := Lib.hid (HC7.out.trans hcf2)
        have HXE : Hid (Ext w we) := Lib.hid (HXA.out.chg hcf2 HSP.out)
        have HFE : Hid (∀ f ∈ [p, bl], f < we.heap.size) := Lib.hid (fun f hf => Nat.lt_of_lt_of_le (HFA.out f hf) hcf2.size)
        have HCS2 : Hid (CrSt we p bl h (d.fuseTo K1) x (.pointer none)) := Lib.hid (.inl ⟨rfl, by rw [HFR.out.2]; exact hu.1, hu.2.1.congr HFR.out.1, by rw [HFR.out.1]; exact hu.2.2⟩)
        clear hu
        clear hdk hcf hcf2
        go_wp2_with fail
        go_roundw
        case rel => exact ⟨i + 1, ps, pr, (d.fuseTo K1), x, _, by omega, by go_num, rfl, rfl, rfl, rfl, HSE, HRE, HXO, HCS2, HFE, HCE.out, HXE.out⟩
        case measure => simp [intOf]; omega
      · go_wp2_with fail
        refine HFU.out.mono ?_
        rintro e we ⟨rfl, hdk, hcf⟩
        have hcf2 : Chg [p, bl] wa we := hcf.mono (by simp)
        have HSE := Lib.hid (HSA.out.chg hcf2 hdk (by have h9 := HSA.out.byt; unfold Byt at h9 ⊢; rw [HFR.out.1]; exact h9) (by rw [HFR.out.1]))
        have HRE := Lib.hid (HRA.out.chg hcf2)
        have HCE : Hid (Chg [p, bl] w7 we) := Lib.hid (HC7.out.trans hcf2)
        have HXE : Hid (Ext w we) := Lib.hid (HXA.out.chg hcf2 HSP.out)
        have HFE : Hid (∀ f ∈ [p, bl], f < we.heap.size) := Lib.hid (fun f hf => Nat.lt_of_lt_of_le (HFA.out f hf) hcf2.size)
        have HCS2 : Hid (CrSt we p bl h (d.fuseTo K1) x (.pointer (some ⟨py, 0, none⟩))) := Lib.hid (.inr ⟨py, y, rfl, hd.chg hcf2 HFR.out.1 (by rw [HFR.out.2]; exact hd.1)⟩)
        clear hd
        clear hdk hcf hcf2
        go_wp2_with fail
        go_roundw
        case rel => exact ⟨i + 1, ps, pr, (d.fuseTo K1), x, _, by omega, by go_num, rfl, rfl, rfl, rfl, HSE, HRE, HXO, HCS2, HFE, HCE.out, HXE.out⟩
        case measure => simp [intOf]; omega
      --]]
    have hk11 : (K0 == 1) = false := by simpa using hk1
    by_cases hk2 : K0 = 2
    case neg =>
      --[[G
      have hk22 : (K0 == 2) = false := by simpa using hk2
      clear hk0 hk1 hk2 HOP HSLO
      rcases HCA.out with ⟨rfl, hu⟩ | ⟨py, y, rfl, hd⟩
      · clear hu
        go_wp2_with fail
        go_roundw
        case rel => exact ⟨i + 1, ps, pr, d, x, _, by omega, by go_num, rfl, rfl, rfl, rfl, HSA, HRA, HXO, HCA, HFA, HC7.out, HXA.out⟩
        case measure => simp [intOf]; omega
      · clear hd
        go_wp2_with fail
        go_roundw
        case rel => exact ⟨i + 1, ps, pr, d, x, _, by omega, by go_num, rfl, rfl, rfl, rfl, HSA, HRA, HXO, HCA, HFA, HC7.out, HXA.out⟩
        case measure => simp [intOf]; omega
      --]]
    --[[U
    have hk22 : (K0 == 2) = true := by simpa using hk2
    subst hk2
    have HUP := Lib.hid (dup_any [p, bl] p bl d wa HSA.out.dk)
    have HMN : Hid (h.many ≤ d.rows.length ∧ Byt d) := Lib.hid ⟨HSA.out.many, HSA.out.byt⟩
    clear hk0 hk1
    have HK1' := Lib.hid HOK.out.k1
    rcases HCA.out with ⟨rfl, hu⟩ | ⟨py, y, rfl, hd⟩
    ·
      --[[V
      go_wp2_with fail
      refine HUP.out.mono ?_
      rintro e wu ⟨rfl, hdk, hcu⟩
      have hcu2 : Chg [p, bl] wa wu := hcu.mono (by simp)
      replace y0 := chg_cellc hcu2 y0 HY.out
      replace y1 := chg_cellc hcu2 y1 HY.out
      replace y2 := chg_cellc hcu2 y2 HY.out
      replace y3 := chg_cellc hcu2 y3 HY.out
      have HOO := Lib.hid (HOP.out wu p bl ⟨-1, false, d.rows⟩ x x hdk HMN.out.2 (fun f hf => Nat.lt_of_lt_of_le (HFA.out f hf) hcu2.size) HMN.out.1 ⟨rfl, rfl⟩ (.inl ⟨hu.2.1.congr rfl, hu.2.2⟩))
      have HCU := Lib.hid hcu2
      clear hdk hcu hcu2
      go_wp2_with fail
      refine HOO.out.mono ?_
      rintro e wk ⟨ps2, d2, rfl, hst2, _, hck, hdn, h00, hsm⟩
      replace y0 := chg_cellc hck y0 HY.out
      replace y1 := chg_cellc hck y1 HY.out
      replace y2 := chg_cellc hck y2 HY.out
      replace y3 := chg_cellc hck y3 HY.out
      have HCK : Hid (Chg [p, bl] wa wk) := Lib.hid (HCU.out.trans hck)
      have HS2 := Lib.hid hst2
      have HRK := Lib.hid (HRA.out.chg HCK.out)
      have HUN : Hid (d2.down = false ∧ d2.rows.getD 0 [] = []) := Lib.hid ⟨hdn, h00⟩
      have HSM := Lib.hid hsm
      clear hst2 hck hdn h00 hsm HOO hu
      have HSX : Hid (Sim h d2 x) := Lib.hid (by rcases HSM.out with k | k <;> exact k)
      go_wp2_with fail
      refine (lsame_ok wk ps2 p bl h d2 (HS2.out.ext (Ext.refl wk)) pr x (HRK.out.ext (Ext.refl wk)) true ⟨fun _ => (HSX.out).blk, fun _ => rfl⟩).mono ?_
      rintro e wm ⟨rfl, hxm⟩
      replace y0 := hxm.cellv y0
      replace y1 := hxm.cellv y1
      replace y2 := hxm.cellv y2
      replace y3 := hxm.cellv y3
      have hxkm := ((Ext.refl wk)).trans hxm
      have HSLX := Lib.hid (HSLO.out wm ps2 p bl d2 (HS2.out.ext hxkm) pr x (HRK.out.ext hxkm) true ⟨fun _ => (HSX.out).toSl HK1'.out, fun _ => rfl⟩)
      have HXKM := Lib.hid hxkm
      clear hxm hxkm
      go_wp2_with fail
      refine HSLX.out.mono ?_
      rintro e wn ⟨rfl, hxn⟩
      have hxkn := HXKM.out.trans hxn
      have HSE := Lib.hid (HS2.out.ext hxkn)
      have HRE := Lib.hid (HRK.out.ext hxkn)
      have HCN : Hid (Chg [p, bl] wa wn) := Lib.hid (HCK.out.ext hxkn)
      have HCE : Hid (Chg [p, bl] w7 wn) := Lib.hid (HC7.out.trans HCN.out)
      have HXE : Hid (Ext w wn) := Lib.hid (HXA.out.chg HCN.out HSP.out)
      have HFE : Hid (∀ f ∈ [p, bl], f < wn.heap.size) := Lib.hid (fun f hf => Nat.lt_of_lt_of_le (HFA.out f hf) HCN.out.size)
      have HCS2 : Hid (CrSt wn p bl h d2 x (.pointer none)) := Lib.hid (.inl ⟨rfl, HUN.out.1, HSX.out, HUN.out.2⟩)
      have HXO2 : Hid (XOk h x) := Lib.hid ((HSX.out).xok HOK.out)
      clear hxn hxkn
      go_wp2_with fail
      go_roundw
      case rel => exact ⟨i + 1, ps2, pr, d2, x, _, by omega, by go_num, rfl, rfl, rfl, rfl, HSE, HRE, HXO2, HCS2, HFE, HCE.out, HXE.out⟩
      case measure => simp [intOf]; omega
      --]]
    ·
      --[[W
      go_wp2_with fail
      refine HUP.out.mono ?_
      rintro e wu ⟨rfl, hdk, hcu⟩
      have hcu2 : Chg [p, bl] wa wu := hcu.mono (by simp)
      replace y0 := chg_cellc hcu2 y0 HY.out
      replace y1 := chg_cellc hcu2 y1 HY.out
      replace y2 := chg_cellc hcu2 y2 HY.out
      replace y3 := chg_cellc hcu2 y3 HY.out
      have HOO := Lib.hid (HOP.out wu p bl ⟨-1, false, d.rows⟩ x y hdk HMN.out.2 (fun f hf => Nat.lt_of_lt_of_le (HFA.out f hf) hcu2.size) HMN.out.1 ⟨rfl, rfl⟩ (by rcases hd.2.2 with k | k; exact .inl ⟨k.1.congr rfl, k.2⟩; exact .inr k))
      have HCU := Lib.hid hcu2
      clear hdk hcu hcu2
      go_wp2_with fail
      refine HOO.out.mono ?_
      rintro e wk ⟨ps2, d2, rfl, hst2, _, hck, hdn, h00, hsm⟩
      replace y0 := chg_cellc hck y0 HY.out
      replace y1 := chg_cellc hck y1 HY.out
      replace y2 := chg_cellc hck y2 HY.out
      replace y3 := chg_cellc hck y3 HY.out
      have HCK : Hid (Chg [p, bl] wa wk) := Lib.hid (HCU.out.trans hck)
      have HS2 := Lib.hid hst2
      have HRK := Lib.hid (HRA.out.chg HCK.out)
      have HUN : Hid (d2.down = false ∧ d2.rows.getD 0 [] = []) := Lib.hid ⟨hdn, h00⟩
      have HSM := Lib.hid hsm
      have HYK := Lib.hid (hd.2.1.chg HCK.out)
      clear hst2 hck hdn h00 hsm HOO hd
      obtain ⟨v1, hv1⟩ := tells (BlkEq h d2 x h.b)
      obtain ⟨v2, hv2⟩ := tells (BlkEq h d2 y h.b)
      obtain ⟨v3, hv3⟩ := tells (SlEq h d2 y (h.c * h.k))
      have HV1 : Hid (Tells v1 (BlkEq h d2 x h.b)) := Lib.hid hv1
      have HV2 : Hid (Tells v2 (BlkEq h d2 y h.b)) := Lib.hid hv2
      have HV3 : Hid (Tells v3 (SlEq h d2 y (h.c * h.k))) := Lib.hid hv3
      have HP1 : Hid (Impl v2 false (Sim h d2 x)) := Lib.hid (pick1 hv2 HSM.out)
      have HP2 : Hid (Impl v1 false (Sim h d2 y)) := Lib.hid (pick2 hv1 HSM.out)
      have HP3 : Hid (Impl v3 false (Sim h d2 x)) := Lib.hid (pick3 HK1'.out hv3 HSM.out)
      have HP4 : Hid (Impl v2 true (Impl v3 true (Sim h d2 y))) := Lib.hid (fun h1 h2 => pick4 hv2 hv3 h1 h2)
      clear hv1 hv2 hv3
      cases v2 with
      | false =>
        --[[P
        go_wp2_with fail
        refine (lsame_ok wk ps2 p bl h d2 (HS2.out.ext (Ext.refl wk)) py y (HYK.out.ext (Ext.refl wk)) false HV2.out).mono ?_
        rintro e wp ⟨rfl, hxp⟩
        replace y0 := hxp.cellv y0
        replace y1 := hxp.cellv y1
        replace y2 := hxp.cellv y2
        replace y3 := hxp.cellv y3
        go_wp2_with fail
        refine (lsame_ok wp ps2 p bl h d2 (HS2.out.ext hxp) py y (HYK.out.ext hxp) false HV2.out).mono ?_
        rintro e wq ⟨rfl, hxq⟩
        replace y0 := hxq.cellv y0
        replace y1 := hxq.cellv y1
        replace y2 := hxq.cellv y2
        replace y3 := hxq.cellv y3
        have hxpq := hxp.trans hxq
        go_wp2_with fail
        refine (lsame_ok wq ps2 p bl h d2 (HS2.out.ext hxpq) pr x (HRK.out.ext hxpq) true ⟨fun _ => ((HP1.out rfl)).blk, fun _ => rfl⟩).mono ?_
        rintro e wm ⟨rfl, hxm⟩
        replace y0 := hxm.cellv y0
        replace y1 := hxm.cellv y1
        replace y2 := hxm.cellv y2
        replace y3 := hxm.cellv y3
        have hxkm := (hxpq).trans hxm
        have HSLX := Lib.hid (HSLO.out wm ps2 p bl d2 (HS2.out.ext hxkm) pr x (HRK.out.ext hxkm) true ⟨fun _ => ((HP1.out rfl)).toSl HK1'.out, fun _ => rfl⟩)
        have HXKM := Lib.hid hxkm
        clear hxm hxkm
        go_wp2_with fail
        refine HSLX.out.mono ?_
        rintro e wn ⟨rfl, hxn⟩
        have hxkn := HXKM.out.trans hxn
        have HSE := Lib.hid (HS2.out.ext hxkn)
        have HRE := Lib.hid (HRK.out.ext hxkn)
        have HCN : Hid (Chg [p, bl] wa wn) := Lib.hid (HCK.out.ext hxkn)
        have HCE : Hid (Chg [p, bl] w7 wn) := Lib.hid (HC7.out.trans HCN.out)
        have HXE : Hid (Ext w wn) := Lib.hid (HXA.out.chg HCN.out HSP.out)
        have HFE : Hid (∀ f ∈ [p, bl], f < wn.heap.size) := Lib.hid (fun f hf => Nat.lt_of_lt_of_le (HFA.out f hf) HCN.out.size)
        have HCS2 : Hid (CrSt wn p bl h d2 x (.pointer none)) := Lib.hid (.inl ⟨rfl, HUN.out.1, (HP1.out rfl), HUN.out.2⟩)
        have HXO2 : Hid (XOk h x) := Lib.hid (((HP1.out rfl)).xok HOK.out)
        clear hxn hxkn
        go_wp2_with fail
        go_roundw
        case rel => exact ⟨i + 1, ps2, pr, d2, x, _, by omega, by go_num, rfl, rfl, rfl, rfl, HSE, HRE, HXO2, HCS2, HFE, HCE.out, HXE.out⟩
        case measure => simp [intOf]; omega
        --]]
      | true =>
      cases v1 with
      | false =>
        --[[Q
        go_wp2_with fail
        refine (lsame_ok wk ps2 p bl h d2 (HS2.out.ext (Ext.refl wk)) py y (HYK.out.ext (Ext.refl wk)) true HV2.out).mono ?_
        rintro e wp ⟨rfl, hxp⟩
        replace y0 := hxp.cellv y0
        replace y1 := hxp.cellv y1
        replace y2 := hxp.cellv y2
        replace y3 := hxp.cellv y3
        go_wp2_with fail
        refine (lsame_ok wp ps2 p bl h d2 (HS2.out.ext hxp) pr x (HRK.out.ext hxp) false HV1.out).mono ?_
        rintro e wq ⟨rfl, hxq⟩
        replace y0 := hxq.cellv y0
        replace y1 := hxq.cellv y1
        replace y2 := hxq.cellv y2
        replace y3 := hxq.cellv y3
        have hxpq := hxp.trans hxq
        go_wp2_with fail
        refine (lsame_ok wq ps2 p bl h d2 (HS2.out.ext hxpq) py y (HYK.out.ext hxpq) true HV2.out).mono ?_
        rintro e ws ⟨rfl, hxs⟩
        replace y0 := hxs.cellv y0
        replace y1 := hxs.cellv y1
        replace y2 := hxs.cellv y2
        replace y3 := hxs.cellv y3
        have hxps := hxpq.trans hxs
        go_wp2_with fail
        refine (lsame_ok ws ps2 p bl h d2 (HS2.out.ext hxps) py y (HYK.out.ext hxps) true HV2.out).mono ?_
        rintro e wt ⟨rfl, hxt⟩
        replace y0 := hxt.cellv y0
        replace y1 := hxt.cellv y1
        replace y2 := hxt.cellv y2
        replace y3 := hxt.cellv y3
        have hxpt := hxps.trans hxt
        obtain rfl : v3 = true := HV3.out.2 ((HP2.out rfl).toSl HK1'.out)
        go_wp2_with fail
        refine (HSLO.out wt ps2 p bl d2 (HS2.out.ext hxpt) py y (HYK.out.ext hxpt) true HV3.out).mono ?_
        rintro e wv ⟨rfl, hxv⟩
        replace y0 := hxv.cellv y0
        replace y1 := hxv.cellv y1
        replace y2 := hxv.cellv y2
        replace y3 := hxv.cellv y3
        have hxpv := hxpt.trans hxv
        go_wp2_with fail
        refine (lsame_ok wv ps2 p bl h d2 (HS2.out.ext hxpv) py y (HYK.out.ext hxpv) true ⟨fun _ => ((HP2.out rfl)).blk, fun _ => rfl⟩).mono ?_
        rintro e wm ⟨rfl, hxm⟩
        replace y0 := hxm.cellv y0
        replace y1 := hxm.cellv y1
        replace y2 := hxm.cellv y2
        replace y3 := hxm.cellv y3
        have hxkm := (hxpv).trans hxm
        have HSLX := Lib.hid (HSLO.out wm ps2 p bl d2 (HS2.out.ext hxkm) py y (HYK.out.ext hxkm) true ⟨fun _ => ((HP2.out rfl)).toSl HK1'.out, fun _ => rfl⟩)
        have HXKM := Lib.hid hxkm
        clear hxm hxkm
        go_wp2_with fail
        refine HSLX.out.mono ?_
        rintro e wn ⟨rfl, hxn⟩
        have hxkn := HXKM.out.trans hxn
        have HSE := Lib.hid (HS2.out.ext hxkn)
        have HRE := Lib.hid (HYK.out.ext hxkn)
        have HCN : Hid (Chg [p, bl] wa wn) := Lib.hid (HCK.out.ext hxkn)
        have HCE : Hid (Chg [p, bl] w7 wn) := Lib.hid (HC7.out.trans HCN.out)
        have HXE : Hid (Ext w wn) := Lib.hid (HXA.out.chg HCN.out HSP.out)
        have HFE : Hid (∀ f ∈ [p, bl], f < wn.heap.size) := Lib.hid (fun f hf => Nat.lt_of_lt_of_le (HFA.out f hf) HCN.out.size)
        have HCS2 : Hid (CrSt wn p bl h d2 y (.pointer none)) := Lib.hid (.inl ⟨rfl, HUN.out.1, (HP2.out rfl), HUN.out.2⟩)
        have HXO2 : Hid (XOk h y) := Lib.hid (((HP2.out rfl)).xok HOK.out)
        clear hxn hxkn
        go_wp2_with fail
        go_roundw
        case rel => exact ⟨i + 1, ps2, py, d2, y, _, by omega, by go_num, rfl, rfl, rfl, rfl, HSE, HRE, HXO2, HCS2, HFE, HCE.out, HXE.out⟩
        case measure => simp [intOf]; omega
        --]]
      | true =>
        --[[R
        go_wp2_with fail
        refine (lsame_ok wk ps2 p bl h d2 (HS2.out.ext (Ext.refl wk)) py y (HYK.out.ext (Ext.refl wk)) true HV2.out).mono ?_
        rintro e wp ⟨rfl, hxp⟩
        replace y0 := hxp.cellv y0
        replace y1 := hxp.cellv y1
        replace y2 := hxp.cellv y2
        replace y3 := hxp.cellv y3
        go_wp2_with fail
        refine (lsame_ok wp ps2 p bl h d2 (HS2.out.ext hxp) pr x (HRK.out.ext hxp) true HV1.out).mono ?_
        rintro e wq ⟨rfl, hxq⟩
        replace y0 := hxq.cellv y0
        replace y1 := hxq.cellv y1
        replace y2 := hxq.cellv y2
        replace y3 := hxq.cellv y3
        have hxpq := hxp.trans hxq
        go_wp2_with fail
        refine (lsame_ok wq ps2 p bl h d2 (HS2.out.ext hxpq) py y (HYK.out.ext hxpq) true HV2.out).mono ?_
        rintro e ws ⟨rfl, hxs⟩
        replace y0 := hxs.cellv y0
        replace y1 := hxs.cellv y1
        replace y2 := hxs.cellv y2
        replace y3 := hxs.cellv y3
        have hxps := hxpq.trans hxs
        go_wp2_with fail
        refine (lsame_ok ws ps2 p bl h d2 (HS2.out.ext hxps) pr x (HRK.out.ext hxps) true HV1.out).mono ?_
        rintro e wt ⟨rfl, hxt⟩
        replace y0 := hxt.cellv y0
        replace y1 := hxt.cellv y1
        replace y2 := hxt.cellv y2
        replace y3 := hxt.cellv y3
        have hxpt := hxps.trans hxt
        cases v3 with
        | false =>
          go_wp2_with fail
          refine (HSLO.out wt ps2 p bl d2 (HS2.out.ext hxpt) py y (HYK.out.ext hxpt) false HV3.out).mono ?_
          rintro e wv ⟨rfl, hxv⟩
          replace y0 := hxv.cellv y0
          replace y1 := hxv.cellv y1
          replace y2 := hxv.cellv y2
          replace y3 := hxv.cellv y3
          have hxpv := hxpt.trans hxv
          go_wp2_with fail
          refine (lsame_ok wv ps2 p bl h d2 (HS2.out.ext hxpv) pr x (HRK.out.ext hxpv) true ⟨fun _ => ((HP3.out rfl)).blk, fun _ => rfl⟩).mono ?_
          rintro e wm ⟨rfl, hxm⟩
          replace y0 := hxm.cellv y0
          replace y1 := hxm.cellv y1
          replace y2 := hxm.cellv y2
          replace y3 := hxm.cellv y3
          have hxkm := (hxpv).trans hxm
          have HSLX := Lib.hid (HSLO.out wm ps2 p bl d2 (HS2.out.ext hxkm) pr x (HRK.out.ext hxkm) true ⟨fun _ => ((HP3.out rfl)).toSl HK1'.out, fun _ => rfl⟩)
          have HXKM := Lib.hid hxkm
          clear hxm hxkm
          go_wp2_with fail
          refine HSLX.out.mono ?_
          rintro e wn ⟨rfl, hxn⟩
          have hxkn := HXKM.out.trans hxn
          have HSE := Lib.hid (HS2.out.ext hxkn)
          have HRE := Lib.hid (HRK.out.ext hxkn)
          have HCN : Hid (Chg [p, bl] wa wn) := Lib.hid (HCK.out.ext hxkn)
          have HCE : Hid (Chg [p, bl] w7 wn) := Lib.hid (HC7.out.trans HCN.out)
          have HXE : Hid (Ext w wn) := Lib.hid (HXA.out.chg HCN.out HSP.out)
          have HFE : Hid (∀ f ∈ [p, bl], f < wn.heap.size) := Lib.hid (fun f hf => Nat.lt_of_lt_of_le (HFA.out f hf) HCN.out.size)
          have HCS2 : Hid (CrSt wn p bl h d2 x (.pointer none)) := Lib.hid (.inl ⟨rfl, HUN.out.1, (HP3.out rfl), HUN.out.2⟩)
          have HXO2 : Hid (XOk h x) := Lib.hid (((HP3.out rfl)).xok HOK.out)
          clear hxn hxkn
          go_wp2_with fail
          go_roundw
          case rel => exact ⟨i + 1, ps2, pr, d2, x, _, by omega, by go_num, rfl, rfl, rfl, rfl, HSE, HRE, HXO2, HCS2, HFE, HCE.out, HXE.out⟩
          case measure => simp [intOf]; omega
        | true =>
          go_wp2_with fail
          refine (HSLO.out wt ps2 p bl d2 (HS2.out.ext hxpt) py y (HYK.out.ext hxpt) true HV3.out).mono ?_
          rintro e wv ⟨rfl, hxv⟩
          replace y0 := hxv.cellv y0
          replace y1 := hxv.cellv y1
          replace y2 := hxv.cellv y2
          replace y3 := hxv.cellv y3
          have hxpv := hxpt.trans hxv
          go_wp2_with fail
          refine (lsame_ok wv ps2 p bl h d2 (HS2.out.ext hxpv) py y (HYK.out.ext hxpv) true ⟨fun _ => ((HP4.out rfl rfl)).blk, fun _ => rfl⟩).mono ?_
          rintro e wm ⟨rfl, hxm⟩
          replace y0 := hxm.cellv y0
          replace y1 := hxm.cellv y1
          replace y2 := hxm.cellv y2
          replace y3 := hxm.cellv y3
          have hxkm := (hxpv).trans hxm
          have HSLX := Lib.hid (HSLO.out wm ps2 p bl d2 (HS2.out.ext hxkm) py y (HYK.out.ext hxkm) true ⟨fun _ => ((HP4.out rfl rfl)).toSl HK1'.out, fun _ => rfl⟩)
          have HXKM := Lib.hid hxkm
          clear hxm hxkm
          go_wp2_with fail
          refine HSLX.out.mono ?_
          rintro e wn ⟨rfl, hxn⟩
          have hxkn := HXKM.out.trans hxn
          have HSE := Lib.hid (HS2.out.ext hxkn)
          have HRE := Lib.hid (HYK.out.ext hxkn)
          have HCN : Hid (Chg [p, bl] wa wn) := Lib.hid (HCK.out.ext hxkn)
          have HCE : Hid (Chg [p, bl] w7 wn) := Lib.hid (HC7.out.trans HCN.out)
          have HXE : Hid (Ext w wn) := Lib.hid (HXA.out.chg HCN.out HSP.out)
          have HFE : Hid (∀ f ∈ [p, bl], f < wn.heap.size) := Lib.hid (fun f hf => Nat.lt_of_lt_of_le (HFA.out f hf) HCN.out.size)
          have HCS2 : Hid (CrSt wn p bl h d2 y (.pointer none)) := Lib.hid (.inl ⟨rfl, HUN.out.1, (HP4.out rfl rfl), HUN.out.2⟩)
          have HXO2 : Hid (XOk h y) := Lib.hid (((HP4.out rfl rfl)).xok HOK.out)
          clear hxn hxkn
          go_wp2_with fail
          go_roundw
          case rel => exact ⟨i + 1, ps2, py, d2, y, _, by omega, by go_num, rfl, rfl, rfl, rfl, HSE, HRE, HXO2, HCS2, HFE, HCE.out, HXE.out⟩
          case measure => simp [intOf]; omega
        --]]
      --]]
    --]]

end Go.Proofs.Ytoadjmeopamgbaa
