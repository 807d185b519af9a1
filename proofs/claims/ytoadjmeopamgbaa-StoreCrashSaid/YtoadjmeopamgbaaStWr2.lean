/-
  store.Write of a write that may be. No condition but that the store lies in memory.
-/
import Derived.Test.YtoadjmeopamgbaaStWr
namespace Go.Proofs.Ytoadjmeopamgbaa
open Go.RowKit

theorem rdNum_bd (B : List Int) (r : Int × Bool) : 0 ≤ (rdNum B r).1 ∧ (rdNum B r).1 ≤ 9223372036854775807 := by
  unfold rdNum
  split
  · by_cases h : (getN B r.1).2.2 = 0
    · have := getN_bd h; simp only; omega
    · have : (getN B r.1).1 = 0 := by
        unfold getN at h ⊢
        split
        · rename_i hp
          rw [if_pos hp] at h
          generalize getL (B.drop r.1.toNat) 0 0 = q at h ⊢
          obtain ⟨x, y, z⟩ := q
          simp only at h ⊢
          by_cases hz : z = 0
          · rw [if_pos hz] at h; simp at h
          · rw [if_neg hz]
        · rfl
      simp only; omega
  · simp
theorem sBlk_bd (n : Nat) (B : List Int) : 0 ≤ (sBlk n B).1 ∧ (sBlk n B).1 ≤ 1000 := by
  unfold sBlk
  split
  · rename_i h
    exact ⟨(rdNum_bd B _).1, h.2⟩
  · simp
theorem rdi6 (w : World) (x y z p q r : Int) (e : TypeId) : RdI .i64 (w.alloc (.cells #[.int .i64 x, .int .i64 y, .int .i64 z, .int .i64 p, .int .i64 q, .int .i64 r] e)) (.slice (some ⟨w.heap.size, 0, none⟩) 6 6) [x, y, z, p, q, r] := RdI.lit .i64 w [x, y, z, p, q, r] e (by unfold maxLen; simp)

theorem encL_byte {l : List Int} : ∀ x ∈ encL l, 0 ≤ x ∧ x ≤ 255 := by
  induction l with
  | nil => intro x hx; simp [encL] at hx
  | cons y l ih =>
    intro x hx
    rw [encL, List.mem_append] at hx
    rcases hx with hx | hx
    · exact enc_byte _ _ (Nat.le_refl _) x hx
    · exact ih x hx
theorem wr_len (d : Dk) (i : Int) (b : List Int) : (d.wr i b).rows.length = d.rows.length := by
  unfold Dk.wr
  repeat' split
  all_goals simp
theorem wr_byt {d : Dk} (h : Byt d) (i : Int) {b : List Int} (hb : ∀ x ∈ b, 0 ≤ x ∧ x ≤ 255) : Byt (d.wr i b) := by
  unfold Dk.wr
  repeat' split
  · intro j x hx
    by_cases e : i.toNat = j
    · by_cases hj : j < d.rows.length
      · simp [e, List.getD, hj] at hx; exact hb x hx
      · simp [List.getD, hj] at hx
    · have : (d.rows.set i.toNat b).getD j [] = d.rows.getD j [] := by simp [List.getD, e]
      simp only [this] at hx
      exact h j x hx
  · exact h
  · exact h
theorem getL6 {c k b o blk v : Int} (h : ∀ x ∈ [c, k, b, o, blk, v], x ≤ 9223372036854775807) : (encL [c, k, b, o, blk, v]).length ≤ 54 := encL_len h
section
variable (w : World) (F : List Nat) (ps p bl : Nat) (h : Sh) (d : Dk)
set_option maxRecDepth 100000 in
set_option maxHeartbeats 8000000 in
theorem swrite (st : StAt w F ps p bl h d) (hF : ∀ f ∈ F, f < w.heap.size) (c k blk : Nat) (hc : c < h.c) (hk : k < h.k) (hb : blk < h.b) (b o : Int) (hbb : 1 ≤ b ∧ b ≤ 1099511627776) (hoo : 1 ≤ o ∧ o ≤ 1099511627776) (dv : Value) (D : List Int) (hD : RdI .u8 w dv D) (hDl : D.length = h.s) (hDb : ∀ x ∈ D, 0 ≤ x ∧ x ≤ 255) (hDo : ∀ x, dv.ownBlock = some x → x ∉ [p, bl]) :
    Calls Try.prog 15 #[.pointer (some ⟨ps, 0, none⟩), .agg #[.int .i64 c, .int .i64 k, .int .i64 b, .int .i64 o, .int .i64 blk, dv]] w fun e w' => e = .returned (.tuple #[.int .i64 (stW2 h d c k blk b o D).1.1, .int .i64 (stW2 h d c k blk b o D).1.2]) ∧ DiskAt w' F p bl (stW2 h d c k blk b o D).2 ∧ Chg [p, bl] w w' := by
  have c0 := st.c0
  have c1 := st.c1
  have c2 := st.c2
  have c3 := st.c3
  have HC4 := Lib.hid st.c4
  have hs16 := st.ok.s2
  have hb32 := st.ok.b2
  have HST := Lib.hid st
  have HF := Lib.hid hF
  have HD := Lib.hid hD
  have HDB := Lib.hid hDb
  have HDO2 := Lib.hid hDo
  clear hDb hDo
  have HLA := Lib.hid (fun w' (hx : Ext w w') => slast w' F ps p bl h d (st.ext hx) c k hc hk)
  have HBL := Lib.hid (fun w' (hx : Ext w w') => sblock w' F ps p bl h d (st.ext hx) blk hb)
  have HSA := Lib.hid (fun w' => sslotAt h st.ok c k hc hk w')
  have HFIT := Lib.hid (fun w' bk dv hdv r hr => sfits h c k b o bk dv hdv r hr w')
  have HDO := Lib.hid (fun w' d' (st' : StAt w' F ps p bl h d') hF' ver hve hD' hDl' => sdoes w' F ps p bl h d' st' hF' c k blk hc hk hb b o ver ⟨by omega, by omega⟩ ⟨by omega, by omega⟩ hve dv D hD' hDl')
  have HCK : Hid (c ≤ 4 ∧ k ≤ 4 ∧ blk ≤ 32) := Lib.hid (by have := st.ok.c2; have := st.ok.k2; have := st.ok.b2; omega)
  have HFR : Hid (decide (FitW h c k b o) = true) := Lib.hid (decide_eq_true (by unfold FitW; omega))
  obtain ⟨res, hres⟩ : ∃ res, res = stW2 h d c k blk b o D := ⟨_, rfl⟩
  rw [← hres]
  unfold stW2 at hres
  have HRES := Lib.hid hres
  clear hres
  obtain ⟨sl, hsl⟩ : ∃ x, x = sSlot (d.rows.getD (h.slotAt c k) []) := ⟨_, rfl⟩
  rw [← hsl] at HRES HLA
  obtain ⟨lb, lo, lc⟩ := sl
  obtain ⟨hv0, hv1⟩ := sBlk_bd h.s (d.rows.getD (1 + blk) [])
  obtain ⟨v, hv⟩ : ∃ x, x = (sBlk h.s (d.rows.getD (1 + blk) [])).1 := ⟨_, rfl⟩
  obtain ⟨vt, hvt⟩ : ∃ x, x = (sBlk h.s (d.rows.getD (1 + blk) [])).2 := ⟨_, rfl⟩
  rw [← hv] at HRES HBL hv0 hv1
  rw [← hvt] at HBL
  obtain ⟨at', hat⟩ : ∃ x, x = h.slotAt c k := ⟨_, rfl⟩
  rw [← hat] at HRES HSA
  simp only at HRES HLA
  obtain ⟨⟨r1, r2⟩, dz⟩ := res
  obtain ⟨ad, cc, rfl, hlc, hcm, _, _⟩ := hD.parts
  obtain ⟨n, hn⟩ : ∃ n, n = D.length := ⟨_, rfl⟩
  rw [← hn] at HD HDO HDO2 hDl ⊢
  have HN := Lib.hid hn
  have hns : n ≤ 16 := by omega
  have hni : (n : Int) ≤ 16 := by omega
  obtain ⟨x0, hx0⟩ : ∃ x, x = h.b := ⟨_, rfl⟩
  obtain ⟨x2, hx2⟩ : ∃ x, x = h.c := ⟨_, rfl⟩
  obtain ⟨x3, hx3⟩ : ∃ x, x = h.k := ⟨_, rfl⟩
  rw [← hx0] at c0 HFIT HSA hb hb32
  rw [← hDl] at c1 HFIT HSA
  rw [← hx2] at c2 HFIT HSA
  rw [← hx3] at c3 HFIT HSA
  have hbi : (blk : Int) < (x0 : Int) := by omega
  have hbi0 : (0 : Int) ≤ (blk : Int) := by omega
  have hbi2 : ¬ (x0 : Int) ≤ (blk : Int) := by omega
  have hbi3 : ¬ (blk : Int) < 0 := by omega
  have hsl0 := HST.out.lt
  clear st hF hD hlc hcm hn hDl hx0 hx2 hx3 hsl hv hvt hat hb hc hk hs16 hb32 hsl0
  go_enter Try.func15, Try.ntmps15
  go_upto_region 1 with fail
  have hxA : Ext w (w.alloc (.cells #[.int .i64 c, .int .i64 k, .int .i64 b, .int .i64 o, .int .i64 blk, .slice ad n cc] 38)) := (Ext.refl w).alloc _
  have e0 := cell_new w #[.int .i64 c, .int .i64 k, .int .i64 b, .int .i64 o, .int .i64 blk, .slice ad n cc] 38 (0, 0) (j := 0) rfl
  have e1 := cell_new w #[.int .i64 c, .int .i64 k, .int .i64 b, .int .i64 o, .int .i64 blk, .slice ad n cc] 38 (0, 0) (j := 1) rfl
  have e2 := cell_new w #[.int .i64 c, .int .i64 k, .int .i64 b, .int .i64 o, .int .i64 blk, .slice ad n cc] 38 (0, 0) (j := 2) rfl
  have e3 := cell_new w #[.int .i64 c, .int .i64 k, .int .i64 b, .int .i64 o, .int .i64 blk, .slice ad n cc] 38 (0, 0) (j := 3) rfl
  have e4 := cell_new w #[.int .i64 c, .int .i64 k, .int .i64 b, .int .i64 o, .int .i64 blk, .slice ad n cc] 38 (0, 0) (j := 4) rfl
  have e5 := cell_new w #[.int .i64 c, .int .i64 k, .int .i64 b, .int .i64 o, .int .i64 blk, .slice ad n cc] 38 (0, 0) (j := 5) rfl
  generalize (w.alloc (.cells #[.int .i64 c, .int .i64 k, .int .i64 b, .int .i64 o, .int .i64 blk, .slice ad n cc] 38)) = w1 at *
  obtain ⟨pw, hpw⟩ : ∃ pw, pw = w.heap.size := ⟨_, rfl⟩
  rw [← hpw] at e0 e1 e2 e3 e4 e5 ⊢
  have HPW := Lib.hid hpw
  clear hpw
  have c0 := hxA.cellv c0
  have c1 := hxA.cellv c1
  have c2 := hxA.cellv c2
  have c3 := hxA.cellv c3
  go_wp2_with fail
  go_region_held3 (fun w' => w'.cell? ⟨ps, 0, none⟩ = some (.int .i64 x0) ∧ w'.cell? ⟨ps, 1, none⟩ = some (.int .i64 n) ∧ w'.cell? ⟨ps, 2, none⟩ = some (.int .i64 x2) ∧ w'.cell? ⟨ps, 3, none⟩ = some (.int .i64 x3) ∧ w'.cell? ⟨pw, 0, none⟩ = some (.int .i64 c) ∧ w'.cell? ⟨pw, 1, none⟩ = some (.int .i64 k) ∧ w'.cell? ⟨pw, 2, none⟩ = some (.int .i64 b) ∧ w'.cell? ⟨pw, 3, none⟩ = some (.int .i64 o) ∧ w'.cell? ⟨pw, 4, none⟩ = some (.int .i64 blk) ∧ w'.cell? ⟨pw, 5, none⟩ = some (.slice ad n cc) ∧ Ext w1 w') (exact ⟨Ext.cellv (w := w1) (by repeat' (first | (with_reducible exact Ext.refl _) | (with_reducible assumption) | (with_reducible refine Ext.alloc ?_ _) | (with_reducible refine Ext.drewN ?_ _) | (with_reducible refine Ext.drew ?_) | (with_reducible refine Ext.trans ?_ (by assumption)))) c0, Ext.cellv (w := w1) (by repeat' (first | (with_reducible exact Ext.refl _) | (with_reducible assumption) | (with_reducible refine Ext.alloc ?_ _) | (with_reducible refine Ext.drewN ?_ _) | (with_reducible refine Ext.drew ?_) | (with_reducible refine Ext.trans ?_ (by assumption)))) c1, Ext.cellv (w := w1) (by repeat' (first | (with_reducible exact Ext.refl _) | (with_reducible assumption) | (with_reducible refine Ext.alloc ?_ _) | (with_reducible refine Ext.drewN ?_ _) | (with_reducible refine Ext.drew ?_) | (with_reducible refine Ext.trans ?_ (by assumption)))) c2, Ext.cellv (w := w1) (by repeat' (first | (with_reducible exact Ext.refl _) | (with_reducible assumption) | (with_reducible refine Ext.alloc ?_ _) | (with_reducible refine Ext.drewN ?_ _) | (with_reducible refine Ext.drew ?_) | (with_reducible refine Ext.trans ?_ (by assumption)))) c3, Ext.cellv (w := w1) (by repeat' (first | (with_reducible exact Ext.refl _) | (with_reducible assumption) | (with_reducible refine Ext.alloc ?_ _) | (with_reducible refine Ext.drewN ?_ _) | (with_reducible refine Ext.drew ?_) | (with_reducible refine Ext.trans ?_ (by assumption)))) e0, Ext.cellv (w := w1) (by repeat' (first | (with_reducible exact Ext.refl _) | (with_reducible assumption) | (with_reducible refine Ext.alloc ?_ _) | (with_reducible refine Ext.drewN ?_ _) | (with_reducible refine Ext.drew ?_) | (with_reducible refine Ext.trans ?_ (by assumption)))) e1, Ext.cellv (w := w1) (by repeat' (first | (with_reducible exact Ext.refl _) | (with_reducible assumption) | (with_reducible refine Ext.alloc ?_ _) | (with_reducible refine Ext.drewN ?_ _) | (with_reducible refine Ext.drew ?_) | (with_reducible refine Ext.trans ?_ (by assumption)))) e2, Ext.cellv (w := w1) (by repeat' (first | (with_reducible exact Ext.refl _) | (with_reducible assumption) | (with_reducible refine Ext.alloc ?_ _) | (with_reducible refine Ext.drewN ?_ _) | (with_reducible refine Ext.drew ?_) | (with_reducible refine Ext.trans ?_ (by assumption)))) e3, Ext.cellv (w := w1) (by repeat' (first | (with_reducible exact Ext.refl _) | (with_reducible assumption) | (with_reducible refine Ext.alloc ?_ _) | (with_reducible refine Ext.drewN ?_ _) | (with_reducible refine Ext.drew ?_) | (with_reducible refine Ext.trans ?_ (by assumption)))) e4, Ext.cellv (w := w1) (by repeat' (first | (with_reducible exact Ext.refl _) | (with_reducible assumption) | (with_reducible refine Ext.alloc ?_ _) | (with_reducible refine Ext.drewN ?_ _) | (with_reducible refine Ext.drew ?_) | (with_reducible refine Ext.trans ?_ (by assumption)))) e5, (by repeat' (first | (with_reducible exact Ext.refl _) | (with_reducible assumption) | (with_reducible refine Ext.alloc ?_ _) | (with_reducible refine Ext.drewN ?_ _) | (with_reducible refine Ext.drew ?_) | (with_reducible refine Ext.trans ?_ (by assumption))))⟩) ((fail))
  have hxd : Ext w1 w1.drew := (Ext.refl _).drew
  have c0 := hxd.cellv c0
  have c1 := hxd.cellv c1
  have c2 := hxd.cellv c2
  have c3 := hxd.cellv c3
  have e0 := hxd.cellv e0
  have e1 := hxd.cellv e1
  have e2 := hxd.cellv e2
  have e3 := hxd.cellv e3
  have e4 := hxd.cellv e4
  have e5 := hxd.cellv e5
  have hxA := hxA.trans hxd
  clear hxd
  generalize w1.drew = w1 at *
  go_wp2_with fail
  go_region_held3 (fun w' => w'.cell? ⟨ps, 0, none⟩ = some (.int .i64 x0) ∧ w'.cell? ⟨ps, 1, none⟩ = some (.int .i64 n) ∧ w'.cell? ⟨ps, 2, none⟩ = some (.int .i64 x2) ∧ w'.cell? ⟨ps, 3, none⟩ = some (.int .i64 x3) ∧ w'.cell? ⟨pw, 0, none⟩ = some (.int .i64 c) ∧ w'.cell? ⟨pw, 1, none⟩ = some (.int .i64 k) ∧ w'.cell? ⟨pw, 2, none⟩ = some (.int .i64 b) ∧ w'.cell? ⟨pw, 3, none⟩ = some (.int .i64 o) ∧ w'.cell? ⟨pw, 4, none⟩ = some (.int .i64 blk) ∧ w'.cell? ⟨pw, 5, none⟩ = some (.slice ad n cc) ∧ Ext w1 w') (exact ⟨Ext.cellv (w := w1) (by repeat' (first | (with_reducible exact Ext.refl _) | (with_reducible assumption) | (with_reducible refine Ext.alloc ?_ _) | (with_reducible refine Ext.drewN ?_ _) | (with_reducible refine Ext.drew ?_) | (with_reducible refine Ext.trans ?_ (by assumption)))) c0, Ext.cellv (w := w1) (by repeat' (first | (with_reducible exact Ext.refl _) | (with_reducible assumption) | (with_reducible refine Ext.alloc ?_ _) | (with_reducible refine Ext.drewN ?_ _) | (with_reducible refine Ext.drew ?_) | (with_reducible refine Ext.trans ?_ (by assumption)))) c1, Ext.cellv (w := w1) (by repeat' (first | (with_reducible exact Ext.refl _) | (with_reducible assumption) | (with_reducible refine Ext.alloc ?_ _) | (with_reducible refine Ext.drewN ?_ _) | (with_reducible refine Ext.drew ?_) | (with_reducible refine Ext.trans ?_ (by assumption)))) c2, Ext.cellv (w := w1) (by repeat' (first | (with_reducible exact Ext.refl _) | (with_reducible assumption) | (with_reducible refine Ext.alloc ?_ _) | (with_reducible refine Ext.drewN ?_ _) | (with_reducible refine Ext.drew ?_) | (with_reducible refine Ext.trans ?_ (by assumption)))) c3, Ext.cellv (w := w1) (by repeat' (first | (with_reducible exact Ext.refl _) | (with_reducible assumption) | (with_reducible refine Ext.alloc ?_ _) | (with_reducible refine Ext.drewN ?_ _) | (with_reducible refine Ext.drew ?_) | (with_reducible refine Ext.trans ?_ (by assumption)))) e0, Ext.cellv (w := w1) (by repeat' (first | (with_reducible exact Ext.refl _) | (with_reducible assumption) | (with_reducible refine Ext.alloc ?_ _) | (with_reducible refine Ext.drewN ?_ _) | (with_reducible refine Ext.drew ?_) | (with_reducible refine Ext.trans ?_ (by assumption)))) e1, Ext.cellv (w := w1) (by repeat' (first | (with_reducible exact Ext.refl _) | (with_reducible assumption) | (with_reducible refine Ext.alloc ?_ _) | (with_reducible refine Ext.drewN ?_ _) | (with_reducible refine Ext.drew ?_) | (with_reducible refine Ext.trans ?_ (by assumption)))) e2, Ext.cellv (w := w1) (by repeat' (first | (with_reducible exact Ext.refl _) | (with_reducible assumption) | (with_reducible refine Ext.alloc ?_ _) | (with_reducible refine Ext.drewN ?_ _) | (with_reducible refine Ext.drew ?_) | (with_reducible refine Ext.trans ?_ (by assumption)))) e3, Ext.cellv (w := w1) (by repeat' (first | (with_reducible exact Ext.refl _) | (with_reducible assumption) | (with_reducible refine Ext.alloc ?_ _) | (with_reducible refine Ext.drewN ?_ _) | (with_reducible refine Ext.drew ?_) | (with_reducible refine Ext.trans ?_ (by assumption)))) e4, Ext.cellv (w := w1) (by repeat' (first | (with_reducible exact Ext.refl _) | (with_reducible assumption) | (with_reducible refine Ext.alloc ?_ _) | (with_reducible refine Ext.drewN ?_ _) | (with_reducible refine Ext.drew ?_) | (with_reducible refine Ext.trans ?_ (by assumption)))) e5, (by repeat' (first | (with_reducible exact Ext.refl _) | (with_reducible assumption) | (with_reducible refine Ext.alloc ?_ _) | (with_reducible refine Ext.drewN ?_ _) | (with_reducible refine Ext.drew ?_) | (with_reducible refine Ext.trans ?_ (by assumption))))⟩) ((fail))
  have hxd : Ext w1 w1.drew := (Ext.refl _).drew
  have c0 := hxd.cellv c0
  have c1 := hxd.cellv c1
  have c2 := hxd.cellv c2
  have c3 := hxd.cellv c3
  have e0 := hxd.cellv e0
  have e1 := hxd.cellv e1
  have e2 := hxd.cellv e2
  have e3 := hxd.cellv e3
  have e4 := hxd.cellv e4
  have e5 := hxd.cellv e5
  have hxA := hxA.trans hxd
  clear hxd
  generalize w1.drew = w1 at *
  go_wp2_with fail
  go_region_held3 (fun w' => w'.cell? ⟨ps, 0, none⟩ = some (.int .i64 x0) ∧ w'.cell? ⟨ps, 1, none⟩ = some (.int .i64 n) ∧ w'.cell? ⟨ps, 2, none⟩ = some (.int .i64 x2) ∧ w'.cell? ⟨ps, 3, none⟩ = some (.int .i64 x3) ∧ w'.cell? ⟨pw, 0, none⟩ = some (.int .i64 c) ∧ w'.cell? ⟨pw, 1, none⟩ = some (.int .i64 k) ∧ w'.cell? ⟨pw, 2, none⟩ = some (.int .i64 b) ∧ w'.cell? ⟨pw, 3, none⟩ = some (.int .i64 o) ∧ w'.cell? ⟨pw, 4, none⟩ = some (.int .i64 blk) ∧ w'.cell? ⟨pw, 5, none⟩ = some (.slice ad n cc) ∧ Ext w1 w') (exact ⟨Ext.cellv (w := w1) (by repeat' (first | (with_reducible exact Ext.refl _) | (with_reducible assumption) | (with_reducible refine Ext.alloc ?_ _) | (with_reducible refine Ext.drewN ?_ _) | (with_reducible refine Ext.drew ?_) | (with_reducible refine Ext.trans ?_ (by assumption)))) c0, Ext.cellv (w := w1) (by repeat' (first | (with_reducible exact Ext.refl _) | (with_reducible assumption) | (with_reducible refine Ext.alloc ?_ _) | (with_reducible refine Ext.drewN ?_ _) | (with_reducible refine Ext.drew ?_) | (with_reducible refine Ext.trans ?_ (by assumption)))) c1, Ext.cellv (w := w1) (by repeat' (first | (with_reducible exact Ext.refl _) | (with_reducible assumption) | (with_reducible refine Ext.alloc ?_ _) | (with_reducible refine Ext.drewN ?_ _) | (with_reducible refine Ext.drew ?_) | (with_reducible refine Ext.trans ?_ (by assumption)))) c2, Ext.cellv (w := w1) (by repeat' (first | (with_reducible exact Ext.refl _) | (with_reducible assumption) | (with_reducible refine Ext.alloc ?_ _) | (with_reducible refine Ext.drewN ?_ _) | (with_reducible refine Ext.drew ?_) | (with_reducible refine Ext.trans ?_ (by assumption)))) c3, Ext.cellv (w := w1) (by repeat' (first | (with_reducible exact Ext.refl _) | (with_reducible assumption) | (with_reducible refine Ext.alloc ?_ _) | (with_reducible refine Ext.drewN ?_ _) | (with_reducible refine Ext.drew ?_) | (with_reducible refine Ext.trans ?_ (by assumption)))) e0, Ext.cellv (w := w1) (by repeat' (first | (with_reducible exact Ext.refl _) | (with_reducible assumption) | (with_reducible refine Ext.alloc ?_ _) | (with_reducible refine Ext.drewN ?_ _) | (with_reducible refine Ext.drew ?_) | (with_reducible refine Ext.trans ?_ (by assumption)))) e1, Ext.cellv (w := w1) (by repeat' (first | (with_reducible exact Ext.refl _) | (with_reducible assumption) | (with_reducible refine Ext.alloc ?_ _) | (with_reducible refine Ext.drewN ?_ _) | (with_reducible refine Ext.drew ?_) | (with_reducible refine Ext.trans ?_ (by assumption)))) e2, Ext.cellv (w := w1) (by repeat' (first | (with_reducible exact Ext.refl _) | (with_reducible assumption) | (with_reducible refine Ext.alloc ?_ _) | (with_reducible refine Ext.drewN ?_ _) | (with_reducible refine Ext.drew ?_) | (with_reducible refine Ext.trans ?_ (by assumption)))) e3, Ext.cellv (w := w1) (by repeat' (first | (with_reducible exact Ext.refl _) | (with_reducible assumption) | (with_reducible refine Ext.alloc ?_ _) | (with_reducible refine Ext.drewN ?_ _) | (with_reducible refine Ext.drew ?_) | (with_reducible refine Ext.trans ?_ (by assumption)))) e4, Ext.cellv (w := w1) (by repeat' (first | (with_reducible exact Ext.refl _) | (with_reducible assumption) | (with_reducible refine Ext.alloc ?_ _) | (with_reducible refine Ext.drewN ?_ _) | (with_reducible refine Ext.drew ?_) | (with_reducible refine Ext.trans ?_ (by assumption)))) e5, (by repeat' (first | (with_reducible exact Ext.refl _) | (with_reducible assumption) | (with_reducible refine Ext.alloc ?_ _) | (with_reducible refine Ext.drewN ?_ _) | (with_reducible refine Ext.drew ?_) | (with_reducible refine Ext.trans ?_ (by assumption))))⟩) ((go_at_call 34; refine Calls.mono (HFIT.out _ blk (.slice ad n cc) ⟨_, _, _, rfl⟩ true HFR.out) ?_; rintro e wF ⟨rfl, hxF⟩))
  have hxf : Ext w1 wF := (by repeat' (first | (with_reducible exact Ext.refl _) | (with_reducible assumption) | (with_reducible refine Ext.alloc ?_ _) | (with_reducible refine Ext.drewN ?_ _) | (with_reducible refine Ext.drew ?_) | (with_reducible refine Ext.trans ?_ (by assumption))))
  have c0 := hxf.cellv c0
  have c1 := hxf.cellv c1
  have c2 := hxf.cellv c2
  have c3 := hxf.cellv c3
  have e0 := hxf.cellv e0
  have e1 := hxf.cellv e1
  have e2 := hxf.cellv e2
  have e3 := hxf.cellv e3
  have e4 := hxf.cellv e4
  have e5 := hxf.cellv e5
  have hxA := hxA.trans hxf
  clear hxf hxF
  go_wp2_with fail
  refine (HLA.out _ hxA).mono ?_
  rintro e w4 ⟨rfl, hx4⟩
  have c0 := hx4.cellv c0
  have c1 := hx4.cellv c1
  have c2 := hx4.cellv c2
  have c3 := hx4.cellv c3
  have e0 := hx4.cellv e0
  have e1 := hx4.cellv e1
  have e2 := hx4.cellv e2
  have e3 := hx4.cellv e3
  have e4 := hx4.cellv e4
  have e5 := hx4.cellv e5
  have hxA := hxA.trans hx4
  clear hx4
  go_wp2_with fail
  refine (HBL.out _ hxA).mono ?_
  rintro e w5 ⟨vtv, rfl, ho5, hx5⟩
  obtain ⟨aT, nT, cT, rfl⟩ := ho5.rd.isSlice
  have c0 := hx5.cellv c0
  have c1 := hx5.cellv c1
  have c2 := hx5.cellv c2
  have c3 := hx5.cellv c3
  have e0 := hx5.cellv e0
  have e1 := hx5.cellv e1
  have e2 := hx5.cellv e2
  have e3 := hx5.cellv e3
  have e4 := hx5.cellv e4
  have e5 := hx5.cellv e5
  have hxA := hxA.trans hx5
  clear hx5 ho5 HLA HBL HFIT HFR
  have HDK := Lib.hid (HST.out.dk.ext hxA)
  have hchA : Chg [p, bl] w w5 := Chg.of_ext hxA
  by_cases q0 : b < lb
  case pos =>
    have hR := HRES.out
    rw [if_pos (.inl q0)] at hR
    obtain ⟨⟨rfl, rfl⟩, rfl⟩ : (r1 = 0 ∧ r2 = 12) ∧ dz = d := by simpa using hR
    clear hR HRES
    go_wp2_with fail
    go_ret2
    exact ⟨rfl, HDK.out.ext (by repeat' (first | (with_reducible exact Ext.refl _) | (with_reducible assumption) | (with_reducible refine Ext.alloc ?_ _) | (with_reducible refine Ext.drewN ?_ _) | (with_reducible refine Ext.drew ?_) | (with_reducible refine Ext.trans ?_ (by assumption)))), hchA.ext (by repeat' (first | (with_reducible exact Ext.refl _) | (with_reducible assumption) | (with_reducible refine Ext.alloc ?_ _) | (with_reducible refine Ext.drewN ?_ _) | (with_reducible refine Ext.drew ?_) | (with_reducible refine Ext.trans ?_ (by assumption))))⟩
  by_cases q1 : b = lb ∧ o < lo
  case pos =>
    have hR := HRES.out
    rw [if_pos (.inr q1)] at hR
    obtain ⟨⟨rfl, rfl⟩, rfl⟩ : (r1 = 0 ∧ r2 = 12) ∧ dz = d := by simpa using hR
    obtain ⟨rfl, q1⟩ := q1
    clear hR HRES
    go_wp2_with fail
    go_ret2
    exact ⟨rfl, HDK.out.ext (by repeat' (first | (with_reducible exact Ext.refl _) | (with_reducible assumption) | (with_reducible refine Ext.alloc ?_ _) | (with_reducible refine Ext.drewN ?_ _) | (with_reducible refine Ext.drew ?_) | (with_reducible refine Ext.trans ?_ (by assumption)))), hchA.ext (by repeat' (first | (with_reducible exact Ext.refl _) | (with_reducible assumption) | (with_reducible refine Ext.alloc ?_ _) | (with_reducible refine Ext.drewN ?_ _) | (with_reducible refine Ext.drew ?_) | (with_reducible refine Ext.trans ?_ (by assumption))))⟩
  by_cases q2 : b = lb ∧ o = lo
  case pos =>
    have hR := HRES.out
    rw [if_neg (fun h => h.elim q0 q1), if_pos q2] at hR
    obtain ⟨⟨rfl, rfl⟩, rfl⟩ : (r1 = lc ∧ r2 = 0) ∧ dz = d := by simpa using hR
    obtain ⟨rfl, rfl⟩ := q2
    clear hR HRES q1
    go_wp2_with fail
    go_ret2
    exact ⟨rfl, HDK.out.ext (by repeat' (first | (with_reducible exact Ext.refl _) | (with_reducible assumption) | (with_reducible refine Ext.alloc ?_ _) | (with_reducible refine Ext.drewN ?_ _) | (with_reducible refine Ext.drew ?_) | (with_reducible refine Ext.trans ?_ (by assumption)))), hchA.ext (by repeat' (first | (with_reducible exact Ext.refl _) | (with_reducible assumption) | (with_reducible refine Ext.alloc ?_ _) | (with_reducible refine Ext.drewN ?_ _) | (with_reducible refine Ext.drew ?_) | (with_reducible refine Ext.trans ?_ (by assumption))))⟩
  have hR := HRES.out
  rw [if_neg (fun h => h.elim q0 q1), if_neg q2] at hR
  have HR2 := Lib.hid hR
  have c4 := hxA.cellv HC4.out
  have N1 : pw ∉ [p, bl] := by
    have h1 := HF.out _ HST.out.dk.pF
    have h2 := HF.out _ HST.out.dk.lF
    have h3 := HPW.out
    simp; omega
  have N2 : ps ∉ [p, bl] := by have := HST.out.np; have := HST.out.nb; simp; omega
  have HNB := Lib.hid (fun (l : List Int) w' v (hr : RdI .i64 w' v l) (hl : l.length ≤ 10) (hb : ∀ x ∈ l, -9223372036854775808 ≤ x ∧ x ≤ 9223372036854775807) => snumbers v l w' hr hl hb)
  clear hR HRES
  have q5 : (b = lb ∧ lo < o) ∨ lb < b := by omega
  clear q1 q2
  rcases q5 with ⟨q5, q6⟩ | q5
  obtain rfl : b = lb := q5
  have q7 : ¬ o < lo := by omega
  have q8 : (o == lo) = false := by rw [beq_eq_false_iff_ne]; omega
  have q9 : decide (o = lo) = false := decide_eq_false (by omega)
  go_upto_region 15 with fail
  clear q7 q8 q9 q6 q0
  rotate_left
  have q7 : (b == lb) = false := by rw [beq_eq_false_iff_ne]; omega
  have q9 : decide (b = lb) = false := decide_eq_false (by omega)
  go_upto_region 15 with fail
  clear q7 q9 q5 q0
  all_goals
    by_cases q3 : v = 1000
    case pos =>
      --[[A
      have hR := HR2.out
      rw [if_pos q3] at hR
      obtain ⟨R, hRe⟩ : ∃ R, R = encL [b, o, 11] := ⟨_, rfl⟩
      rw [← hRe] at hR
      obtain ⟨z, hz⟩ : ∃ z, z = d.bad (at' : Nat) R := ⟨_, rfl⟩
      obtain ⟨d1, hd1⟩ : ∃ z, z = d.wr (at' : Nat) R := ⟨_, rfl⟩
      rw [← hz, ← hd1] at hR
      have HN3 : Hid (∀ w' v', RdI .i64 w' v' [b, o, 11] → Calls Try.prog 38 #[v'] w' fun e w'' => ∃ v'', e = .returned v'' ∧ OwnI .u8 5 w'.heap.size w'' v'' R ∧ Ext w' w'') := Lib.hid (fun w' v' hr => by rw [hRe]; exact HNB.out _ w' v' hr (by simp) (by intro x hx; simp at hx; omega))
      have HZ : Hid (d.bad (at' : Nat) R = z) := Lib.hid hz.symm
      have HD1 : Hid (d.wr (at' : Nat) R = d1) := Lib.hid hd1.symm
      have HR3 := Lib.hid hR
      clear hR hRe hz hd1 HR2 HNB
      subst q3
      go_wp2_with fail
      go_region_held3 (fun w' => w'.cell? ⟨ps, 0, none⟩ = some (.int .i64 x0) ∧ w'.cell? ⟨ps, 1, none⟩ = some (.int .i64 n) ∧ w'.cell? ⟨ps, 2, none⟩ = some (.int .i64 x2) ∧ w'.cell? ⟨ps, 3, none⟩ = some (.int .i64 x3) ∧ w'.cell? ⟨pw, 0, none⟩ = some (.int .i64 c) ∧ w'.cell? ⟨pw, 1, none⟩ = some (.int .i64 k) ∧ w'.cell? ⟨pw, 2, none⟩ = some (.int .i64 b) ∧ w'.cell? ⟨pw, 3, none⟩ = some (.int .i64 o) ∧ w'.cell? ⟨pw, 4, none⟩ = some (.int .i64 blk) ∧ w'.cell? ⟨pw, 5, none⟩ = some (.slice ad n cc) ∧ w'.cell? ⟨ps, 4, none⟩ = some (.pointer (some ⟨p, 0, none⟩)) ∧ Chg [p, bl] w5 w') (exact ⟨chg_cellc (w := w5) (by repeat' (first | (with_reducible exact Chg.refl _ _) | (with_reducible assumption) | (with_reducible refine Chg.drewN ?_ _) | (with_reducible refine Chg.drew ?_) | (with_reducible refine Chg.alloc ?_ _) | (with_reducible refine Chg.setCell ?_ (.inl (by simp)) _) | (with_reducible refine Chg.trans ?_ (by assumption)) | (with_reducible refine Chg.ext ?_ (by assumption)))) c0 N2, chg_cellc (w := w5) (by repeat' (first | (with_reducible exact Chg.refl _ _) | (with_reducible assumption) | (with_reducible refine Chg.drewN ?_ _) | (with_reducible refine Chg.drew ?_) | (with_reducible refine Chg.alloc ?_ _) | (with_reducible refine Chg.setCell ?_ (.inl (by simp)) _) | (with_reducible refine Chg.trans ?_ (by assumption)) | (with_reducible refine Chg.ext ?_ (by assumption)))) c1 N2, chg_cellc (w := w5) (by repeat' (first | (with_reducible exact Chg.refl _ _) | (with_reducible assumption) | (with_reducible refine Chg.drewN ?_ _) | (with_reducible refine Chg.drew ?_) | (with_reducible refine Chg.alloc ?_ _) | (with_reducible refine Chg.setCell ?_ (.inl (by simp)) _) | (with_reducible refine Chg.trans ?_ (by assumption)) | (with_reducible refine Chg.ext ?_ (by assumption)))) c2 N2, chg_cellc (w := w5) (by repeat' (first | (with_reducible exact Chg.refl _ _) | (with_reducible assumption) | (with_reducible refine Chg.drewN ?_ _) | (with_reducible refine Chg.drew ?_) | (with_reducible refine Chg.alloc ?_ _) | (with_reducible refine Chg.setCell ?_ (.inl (by simp)) _) | (with_reducible refine Chg.trans ?_ (by assumption)) | (with_reducible refine Chg.ext ?_ (by assumption)))) c3 N2, chg_cellc (w := w5) (by repeat' (first | (with_reducible exact Chg.refl _ _) | (with_reducible assumption) | (with_reducible refine Chg.drewN ?_ _) | (with_reducible refine Chg.drew ?_) | (with_reducible refine Chg.alloc ?_ _) | (with_reducible refine Chg.setCell ?_ (.inl (by simp)) _) | (with_reducible refine Chg.trans ?_ (by assumption)) | (with_reducible refine Chg.ext ?_ (by assumption)))) e0 N1, chg_cellc (w := w5) (by repeat' (first | (with_reducible exact Chg.refl _ _) | (with_reducible assumption) | (with_reducible refine Chg.drewN ?_ _) | (with_reducible refine Chg.drew ?_) | (with_reducible refine Chg.alloc ?_ _) | (with_reducible refine Chg.setCell ?_ (.inl (by simp)) _) | (with_reducible refine Chg.trans ?_ (by assumption)) | (with_reducible refine Chg.ext ?_ (by assumption)))) e1 N1, chg_cellc (w := w5) (by repeat' (first | (with_reducible exact Chg.refl _ _) | (with_reducible assumption) | (with_reducible refine Chg.drewN ?_ _) | (with_reducible refine Chg.drew ?_) | (with_reducible refine Chg.alloc ?_ _) | (with_reducible refine Chg.setCell ?_ (.inl (by simp)) _) | (with_reducible refine Chg.trans ?_ (by assumption)) | (with_reducible refine Chg.ext ?_ (by assumption)))) e2 N1, chg_cellc (w := w5) (by repeat' (first | (with_reducible exact Chg.refl _ _) | (with_reducible assumption) | (with_reducible refine Chg.drewN ?_ _) | (with_reducible refine Chg.drew ?_) | (with_reducible refine Chg.alloc ?_ _) | (with_reducible refine Chg.setCell ?_ (.inl (by simp)) _) | (with_reducible refine Chg.trans ?_ (by assumption)) | (with_reducible refine Chg.ext ?_ (by assumption)))) e3 N1, chg_cellc (w := w5) (by repeat' (first | (with_reducible exact Chg.refl _ _) | (with_reducible assumption) | (with_reducible refine Chg.drewN ?_ _) | (with_reducible refine Chg.drew ?_) | (with_reducible refine Chg.alloc ?_ _) | (with_reducible refine Chg.setCell ?_ (.inl (by simp)) _) | (with_reducible refine Chg.trans ?_ (by assumption)) | (with_reducible refine Chg.ext ?_ (by assumption)))) e4 N1, chg_cellc (w := w5) (by repeat' (first | (with_reducible exact Chg.refl _ _) | (with_reducible assumption) | (with_reducible refine Chg.drewN ?_ _) | (with_reducible refine Chg.drew ?_) | (with_reducible refine Chg.alloc ?_ _) | (with_reducible refine Chg.setCell ?_ (.inl (by simp)) _) | (with_reducible refine Chg.trans ?_ (by assumption)) | (with_reducible refine Chg.ext ?_ (by assumption)))) e5 N1, chg_cellc (w := w5) (by repeat' (first | (with_reducible exact Chg.refl _ _) | (with_reducible assumption) | (with_reducible refine Chg.drewN ?_ _) | (with_reducible refine Chg.drew ?_) | (with_reducible refine Chg.alloc ?_ _) | (with_reducible refine Chg.setCell ?_ (.inl (by simp)) _) | (with_reducible refine Chg.trans ?_ (by assumption)) | (with_reducible refine Chg.ext ?_ (by assumption)))) c4 N2, (by repeat' (first | (with_reducible exact Chg.refl _ _) | (with_reducible assumption) | (with_reducible refine Chg.drewN ?_ _) | (with_reducible refine Chg.drew ?_) | (with_reducible refine Chg.alloc ?_ _) | (with_reducible refine Chg.setCell ?_ (.inl (by simp)) _) | (with_reducible refine Chg.trans ?_ (by assumption)) | (with_reducible refine Chg.ext ?_ (by assumption))))⟩)
        (first
          | (go_at_call 37; refine Calls.mono (HSA.out _) ?_; rintro e wSA ⟨rfl, hxSA⟩)
          | (go_at_call 38; refine Calls.mono (HN3.out _ _ ?_) ?_; (first | exact RdI.ext (rdi3 _ b o 11 _) (by (repeat' (first | (with_reducible exact Ext.refl _) | (with_reducible assumption) | (with_reducible refine Ext.alloc ?_ _) | (with_reducible refine Ext.drewN ?_ _) | (with_reducible refine Ext.drew ?_) | (with_reducible refine Ext.trans ?_ (by assumption)))); done) | exact RdI.ext (rdi3p _ _ b o 11 _) (by (repeat' (first | (with_reducible exact Ext.refl _) | (with_reducible assumption) | (with_reducible refine Ext.alloc ?_ _) | (with_reducible refine Ext.drewN ?_ _) | (with_reducible refine Ext.drew ?_) | (with_reducible refine Ext.trans ?_ (by assumption)))); done)); rintro e wN ⟨vN, rfl, hoN, hxN⟩)
          | (go_at_call 19; refine Calls.mono (dwrite_any F p bl d _ (HST.out.dk.ext (hxA.trans (by (repeat' (first | (with_reducible exact Ext.refl _) | (with_reducible assumption) | (with_reducible refine Ext.alloc ?_ _) | (with_reducible refine Ext.drewN ?_ _) | (with_reducible refine Ext.drew ?_) | (with_reducible refine Ext.trans ?_ (by assumption)))); done))) (at' : Nat) vN R (hoN.rd.ext (by (repeat' (first | (with_reducible exact Ext.refl _) | (with_reducible assumption) | (with_reducible refine Ext.alloc ?_ _) | (with_reducible refine Ext.drewN ?_ _) | (with_reducible refine Ext.drew ?_) | (with_reducible refine Ext.trans ?_ (by assumption)))); done)) (fun f hf => Nat.lt_of_lt_of_le (HF.out f hf) (Ext.size (w := w) (hxA.trans (by (repeat' (first | (with_reducible exact Ext.refl _) | (with_reducible assumption) | (with_reducible refine Ext.alloc ?_ _) | (with_reducible refine Ext.drewN ?_ _) | (with_reducible refine Ext.drew ?_) | (with_reducible refine Ext.trans ?_ (by assumption)))); done))))) ?_; rintro e wZ ⟨he, hdZ, hcZ⟩; rw [HZ.out] at he; rw [HD1.out] at hdZ; subst he))
      all_goals
        have hch : Chg [p, bl] w wZ := by
          first
            | exact (Chg.of_ext (hxA.trans (show Ext w5 wN from (by (repeat' (first | (with_reducible exact Ext.refl _) | (with_reducible assumption) | (with_reducible refine Ext.alloc ?_ _) | (with_reducible refine Ext.drewN ?_ _) | (with_reducible refine Ext.drew ?_) | (with_reducible refine Ext.trans ?_ (by assumption)))); done)))).trans hcZ
            | exact (Chg.of_ext (hxA.trans (show Ext w5 wSA from (by (repeat' (first | (with_reducible exact Ext.refl _) | (with_reducible assumption) | (with_reducible refine Ext.alloc ?_ _) | (with_reducible refine Ext.drewN ?_ _) | (with_reducible refine Ext.drew ?_) | (with_reducible refine Ext.trans ?_ (by assumption)))); done)))).trans hcZ
        have HDZ := Lib.hid hdZ
        have HCH := Lib.hid hch
        clear hdZ hch hcZ
        by_cases hz0 : z = 0
        · have hR := HR3.out
          rw [if_pos hz0] at hR
          obtain ⟨⟨rfl, rfl⟩, rfl⟩ : (r1 = 11 ∧ r2 = 0) ∧ dz = d1 := by simpa using hR
          subst hz0
          clear hR HR3 HZ
          go_wp2_with fail
          go_ret2
          exact ⟨rfl, HDZ.out, HCH.out⟩
        · have hR := HR3.out
          rw [if_neg hz0] at hR
          obtain ⟨⟨rfl, rfl⟩, rfl⟩ : (r1 = 0 ∧ r2 = z) ∧ dz = d1 := by simpa using hR
          have hb9 : (r2 != 0) = true := by rw [bne_iff_ne]; exact hz0
          clear hR HR3
          go_wp2_with fail
          go_ret2
          exact ⟨rfl, HDZ.out, HCH.out⟩
      --]]
    --[[B
    have hR := HR2.out
    rw [if_neg q3] at hR
    have hvl : v < 1000 := by omega
    obtain ⟨R, hRe⟩ : ∃ R, R = encL [(c : Int), k, b, o, blk, v + 1] := ⟨_, rfl⟩
    rw [← hRe] at hR
    obtain ⟨J, hJ⟩ : ∃ J, J = R ++ enc D.length ++ D := ⟨_, rfl⟩
    rw [← hJ] at hR
    obtain ⟨z, hz⟩ : ∃ z, z = d.bad 0 J := ⟨_, rfl⟩
    obtain ⟨d1, hd1⟩ : ∃ z, z = d.wr 0 J := ⟨_, rfl⟩
    rw [← hz, ← hd1] at hR
    have hbs : ∀ x ∈ [(c : Int), k, b, o, blk, v + 1], -9223372036854775808 ≤ x ∧ x ≤ 9223372036854775807 := by
      have h1 := HST.out.ok
      intro x hx
      have h2 := HCK.out
      simp at hx
      omega
    have HN3 : Hid (∀ w' v', RdI .i64 w' v' [(c : Int), k, b, o, blk, v + 1] → Calls Try.prog 38 #[v'] w' fun e w'' => ∃ v'', e = .returned v'' ∧ OwnI .u8 5 w'.heap.size w'' v'' R ∧ Ext w' w'') := Lib.hid (fun w' v' hr => by rw [hRe]; exact HNB.out _ w' v' hr (by simp) hbs)
    have hRl : R.length ≤ 54 := by rw [hRe]; exact encL_len (fun x hx => (hbs x hx).2)
    have HFT : Hid (Fits (R.length + D.length + 10)) := Lib.hid (fits_small (by have := HN.out; omega))
    have HJB : Hid (∀ x ∈ J, 0 ≤ x ∧ x ≤ 255) := Lib.hid (by
      rw [hJ, hRe]
      intro x hx
      rw [List.mem_append, List.mem_append] at hx
      rcases hx with (hx | hx) | hx
      · exact encL_byte x hx
      · exact enc_byte _ _ (Nat.le_refl _) x hx
      · exact HDB.out x hx)
    have HJE : Hid (R ++ enc D.length ++ D = J) := Lib.hid hJ.symm
    have HZ : Hid (d.bad 0 J = z) := Lib.hid hz.symm
    have HD1 : Hid (d.wr 0 J = d1) := Lib.hid hd1.symm
    have HR3 := Lib.hid hR
    have hwv : IntKind.i64.wrap (v + 1) = v + 1 := IntWalk.i64_in _ (by omega)
    have hvb : (v == 1000) = false := by rw [beq_eq_false_iff_ne]; exact q3
    have hvd : decide (v = 1000) = false := decide_eq_false q3
    clear hR hRe hJ hz hd1 HR2 HNB hbs hRl
    go_wp2_with fail
    go_region_held3 (fun w' => w'.cell? ⟨ps, 0, none⟩ = some (.int .i64 x0) ∧ w'.cell? ⟨ps, 1, none⟩ = some (.int .i64 n) ∧ w'.cell? ⟨ps, 2, none⟩ = some (.int .i64 x2) ∧ w'.cell? ⟨ps, 3, none⟩ = some (.int .i64 x3) ∧ w'.cell? ⟨pw, 0, none⟩ = some (.int .i64 c) ∧ w'.cell? ⟨pw, 1, none⟩ = some (.int .i64 k) ∧ w'.cell? ⟨pw, 2, none⟩ = some (.int .i64 b) ∧ w'.cell? ⟨pw, 3, none⟩ = some (.int .i64 o) ∧ w'.cell? ⟨pw, 4, none⟩ = some (.int .i64 blk) ∧ w'.cell? ⟨pw, 5, none⟩ = some (.slice ad n cc) ∧ Ext w5 w') (exact ⟨Ext.cellv (w := w5) (by repeat' (first | (with_reducible exact Ext.refl _) | (with_reducible assumption) | (with_reducible refine Ext.alloc ?_ _) | (with_reducible refine Ext.drewN ?_ _) | (with_reducible refine Ext.drew ?_) | (with_reducible refine Ext.trans ?_ (by assumption)))) c0, Ext.cellv (w := w5) (by repeat' (first | (with_reducible exact Ext.refl _) | (with_reducible assumption) | (with_reducible refine Ext.alloc ?_ _) | (with_reducible refine Ext.drewN ?_ _) | (with_reducible refine Ext.drew ?_) | (with_reducible refine Ext.trans ?_ (by assumption)))) c1, Ext.cellv (w := w5) (by repeat' (first | (with_reducible exact Ext.refl _) | (with_reducible assumption) | (with_reducible refine Ext.alloc ?_ _) | (with_reducible refine Ext.drewN ?_ _) | (with_reducible refine Ext.drew ?_) | (with_reducible refine Ext.trans ?_ (by assumption)))) c2, Ext.cellv (w := w5) (by repeat' (first | (with_reducible exact Ext.refl _) | (with_reducible assumption) | (with_reducible refine Ext.alloc ?_ _) | (with_reducible refine Ext.drewN ?_ _) | (with_reducible refine Ext.drew ?_) | (with_reducible refine Ext.trans ?_ (by assumption)))) c3, Ext.cellv (w := w5) (by repeat' (first | (with_reducible exact Ext.refl _) | (with_reducible assumption) | (with_reducible refine Ext.alloc ?_ _) | (with_reducible refine Ext.drewN ?_ _) | (with_reducible refine Ext.drew ?_) | (with_reducible refine Ext.trans ?_ (by assumption)))) e0, Ext.cellv (w := w5) (by repeat' (first | (with_reducible exact Ext.refl _) | (with_reducible assumption) | (with_reducible refine Ext.alloc ?_ _) | (with_reducible refine Ext.drewN ?_ _) | (with_reducible refine Ext.drew ?_) | (with_reducible refine Ext.trans ?_ (by assumption)))) e1, Ext.cellv (w := w5) (by repeat' (first | (with_reducible exact Ext.refl _) | (with_reducible assumption) | (with_reducible refine Ext.alloc ?_ _) | (with_reducible refine Ext.drewN ?_ _) | (with_reducible refine Ext.drew ?_) | (with_reducible refine Ext.trans ?_ (by assumption)))) e2, Ext.cellv (w := w5) (by repeat' (first | (with_reducible exact Ext.refl _) | (with_reducible assumption) | (with_reducible refine Ext.alloc ?_ _) | (with_reducible refine Ext.drewN ?_ _) | (with_reducible refine Ext.drew ?_) | (with_reducible refine Ext.trans ?_ (by assumption)))) e3, Ext.cellv (w := w5) (by repeat' (first | (with_reducible exact Ext.refl _) | (with_reducible assumption) | (with_reducible refine Ext.alloc ?_ _) | (with_reducible refine Ext.drewN ?_ _) | (with_reducible refine Ext.drew ?_) | (with_reducible refine Ext.trans ?_ (by assumption)))) e4, Ext.cellv (w := w5) (by repeat' (first | (with_reducible exact Ext.refl _) | (with_reducible assumption) | (with_reducible refine Ext.alloc ?_ _) | (with_reducible refine Ext.drewN ?_ _) | (with_reducible refine Ext.drew ?_) | (with_reducible refine Ext.trans ?_ (by assumption)))) e5, (by repeat' (first | (with_reducible exact Ext.refl _) | (with_reducible assumption) | (with_reducible refine Ext.alloc ?_ _) | (with_reducible refine Ext.drewN ?_ _) | (with_reducible refine Ext.drew ?_) | (with_reducible refine Ext.trans ?_ (by assumption))))⟩)
      (first
        | (go_at_call 38; refine Calls.mono (HN3.out _ _ ?_) ?_; exact RdI.ext (rdi6 _ c k b o blk (v + 1) _) (by (repeat' (first | (with_reducible exact Ext.refl _) | (with_reducible assumption) | (with_reducible refine Ext.alloc ?_ _) | (with_reducible refine Ext.drewN ?_ _) | (with_reducible refine Ext.drew ?_) | (with_reducible refine Ext.trans ?_ (by assumption)))); done); rintro e wN ⟨vN, rfl, hoN, hxN⟩)
        | (go_at_call 39; refine Calls.mono (puttext_any vN _ R D _ (hoN.rd.ext (by (repeat' (first | (with_reducible exact Ext.refl _) | (with_reducible assumption) | (with_reducible refine Ext.alloc ?_ _) | (with_reducible refine Ext.drewN ?_ _) | (with_reducible refine Ext.drew ?_) | (with_reducible refine Ext.trans ?_ (by assumption)))); done)) (HD.out.ext (hxA.trans (by (repeat' (first | (with_reducible exact Ext.refl _) | (with_reducible assumption) | (with_reducible refine Ext.alloc ?_ _) | (with_reducible refine Ext.drewN ?_ _) | (with_reducible refine Ext.drew ?_) | (with_reducible refine Ext.trans ?_ (by assumption)))); done))) HFT.out) ?_; rintro e wT ⟨vT, rfl, hoT, hxT⟩; rw [HJE.out] at hoT; obtain ⟨aJ, nJ, cJ, rfl⟩ := hoT.rd.isSlice))
    all_goals
      have hxT5 : Ext w5 wT := (by repeat' (first | (with_reducible exact Ext.refl _) | (with_reducible assumption) | (with_reducible refine Ext.alloc ?_ _) | (with_reducible refine Ext.drewN ?_ _) | (with_reducible refine Ext.drew ?_) | (with_reducible refine Ext.trans ?_ (by assumption))))
      have hxB := hxA.trans hxT5
      have c4 := hxT5.cellv c4
      have c0 := hxT5.cellv c0
      have c1 := hxT5.cellv c1
      have c2 := hxT5.cellv c2
      have c3 := hxT5.cellv c3
      have e0 := hxT5.cellv e0
      have e1 := hxT5.cellv e1
      have e2 := hxT5.cellv e2
      have e3 := hxT5.cellv e3
      have e4 := hxT5.cellv e4
      have e5 := hxT5.cellv e5
      have HRJ := Lib.hid hoT.rd
      have HDW := Lib.hid (fun w' (hx : Ext wT w') => dwrite_any F p bl d w' (HST.out.dk.ext (hxB.trans hx)) 0 (.slice aJ nJ cJ) J (HRJ.out.ext hx) (fun f hf => Nat.lt_of_lt_of_le (HF.out f hf) (hxB.trans hx).size))
      rw [HZ.out, HD1.out] at HDW
      clear hoT hxT hoN hxN hxT5
      by_cases hz0 : z = 0
      case neg =>
        have hR := HR3.out
        rw [if_neg hz0] at hR
        obtain ⟨⟨rfl, rfl⟩, rfl⟩ : (r1 = 0 ∧ r2 = z) ∧ dz = d1 := by simpa using hR
        have hb9 : (r2 != 0) = true := by rw [bne_iff_ne]; exact hz0
        clear hR HR3
        go_wp2_with fail
        refine (HDW.out _ (by repeat' (first | (with_reducible exact Ext.refl _) | (with_reducible assumption) | (with_reducible refine Ext.alloc ?_ _) | (with_reducible refine Ext.drewN ?_ _) | (with_reducible refine Ext.drew ?_) | (with_reducible refine Ext.trans ?_ (by assumption))))).mono ?_
        rintro e wZ ⟨rfl, hdZ, hcZ⟩
        have HDZ := Lib.hid hdZ
        have HCH := Lib.hid ((Chg.of_ext (S := [p, bl]) hxB).trans hcZ)
        clear hdZ hcZ
        go_wp2_with fail
        go_ret2
        exact ⟨rfl, HDZ.out, HCH.out⟩
      have hR := HR3.out
      rw [if_pos hz0] at hR
      subst hz0
      obtain ⟨q, hq⟩ : ∃ q, q = wrAll d1 (doesI h c k blk) (doesR b o (v + 1) D) 3 := ⟨_, rfl⟩
      rw [← hq] at hR
      obtain ⟨zz, dd⟩ := q
      have HQ : Hid (wrAll d1 (doesI h c k blk) (doesR b o (v + 1) D) 3 = (zz, dd)) := Lib.hid hq.symm
      obtain ⟨⟨rfl, rfl⟩, rfl⟩ : (r1 = 0 ∧ r2 = zz) ∧ dz = dd := by simpa using hR
      clear hR HR3 hq
      go_wp2_with fail
      refine (HDW.out _ (by repeat' (first | (with_reducible exact Ext.refl _) | (with_reducible assumption) | (with_reducible refine Ext.alloc ?_ _) | (with_reducible refine Ext.drewN ?_ _) | (with_reducible refine Ext.drew ?_) | (with_reducible refine Ext.trans ?_ (by assumption))))).mono ?_
      rintro e wZ ⟨rfl, hdZ, hcZ⟩
      have hch : Chg [p, bl] w wZ := (Chg.of_ext (S := [p, bl]) hxB).trans hcZ
      have st1 : StAt wZ F ps p bl h d1 := HST.out.chg hch hdZ (by rw [← HD1.out]; exact wr_byt HST.out.byt 0 HJB.out) (by rw [← HD1.out]; exact wr_len d 0 J)
      have HDD := Lib.hid (HDO.out wZ d1 st1 (fun f hf => Nat.lt_of_lt_of_le (HF.out f hf) hch.size) (v + 1) ⟨by omega, by omega⟩ (HD.out.chgc hch (fun _ => HDO2.out)) (by omega))
      rw [HQ.out] at HDD
      have HCH := Lib.hid hch
      have c0 := chg_cellc hcZ c0 N2
      have c1 := chg_cellc hcZ c1 N2
      have c2 := chg_cellc hcZ c2 N2
      have c3 := chg_cellc hcZ c3 N2
      have e0 := chg_cellc hcZ e0 N1
      have e1 := chg_cellc hcZ e1 N1
      have e2 := chg_cellc hcZ e2 N1
      have e3 := chg_cellc hcZ e3 N1
      have e4 := chg_cellc hcZ e4 N1
      have e5 := chg_cellc hcZ e5 N1
      clear hdZ hcZ hch st1
      go_wp2_with fail
      refine HDD.out.mono ?_
      rintro e wY ⟨rfl, hdY, hcY⟩
      have HDY := Lib.hid hdY
      have HCY := Lib.hid (HCH.out.trans hcY)
      clear hdY hcY
      go_wp2_with fail
      go_ret2
      exact ⟨rfl, HDY.out, HCY.out⟩
    --]]
end
end Go.Proofs.Ytoadjmeopamgbaa
