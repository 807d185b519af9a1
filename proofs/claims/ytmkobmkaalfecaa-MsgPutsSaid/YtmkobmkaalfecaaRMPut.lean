/-
  gradineref04.Put of any message. No condition but that the data reads.
-/
import Derived.Test.YtmkobmkaalfecaaRMRight
import Derived.Test.YtmkobmkaalfecaaMsPut
import Derived.Test.YtmkobmkaalfecaaRawRef
import Derived.Test.YtmkobmkaalfecaaStepApp
namespace Go.Proofs.Ytmkobmkaalfecaa
open Go.RowKit

theorem rfieldsF (k : Int) (w : World) : Calls Try.prog 41 #[.int .i64 k] w fun e w' => ∃ v, e = .returned v ∧ RdI .i64 w' v (zints (fieldsOf k)) ∧ (∀ g, v.ownBlock = some g → w.heap.size ≤ g) ∧ Ext w w' := by
  by_cases h : 1 ≤ k ∧ k ≤ 14
  · obtain ⟨h1, h14⟩ := h
    have : k = 1 ∨ k = 2 ∨ k = 3 ∨ k = 4 ∨ k = 5 ∨ k = 6 ∨ k = 7 ∨ k = 8 ∨ k = 9 ∨ k = 10 ∨ k = 11 ∨ k = 12 ∨ k = 13 ∨ k = 14 := by omega
    clear h1 h14
    rcases this with rfl | rfl | rfl | rfl | rfl | rfl | rfl | rfl | rfl | rfl | rfl | rfl | rfl | rfl
    · go_enter Try.func41, Try.ntmps41
      go_wp2_with fail
      go_ret
      exact ⟨_, rfl, RdI.lit_at [2, 4, 5, 6] rfl rfl rfl (by simp [maxLen]), fun g hg => (by cases hg; exact Nat.le_refl _), (by repeat' (first | (with_reducible exact Ext.refl _) | (with_reducible assumption) | (with_reducible refine Ext.alloc ?_ _) | (with_reducible refine Ext.drewN ?_ _) | (with_reducible refine Ext.drew ?_) | (with_reducible refine Ext.trans ?_ (by assumption))))⟩
    · go_enter Try.func41, Try.ntmps41
      go_wp2_with fail
      go_ret
      exact ⟨_, rfl, RdI.lit_at [2, 4, 5, 6, 10] rfl rfl rfl (by simp [maxLen]), fun g hg => (by cases hg; exact Nat.le_refl _), (by repeat' (first | (with_reducible exact Ext.refl _) | (with_reducible assumption) | (with_reducible refine Ext.alloc ?_ _) | (with_reducible refine Ext.drewN ?_ _) | (with_reducible refine Ext.drew ?_) | (with_reducible refine Ext.trans ?_ (by assumption))))⟩
    · go_enter Try.func41, Try.ntmps41
      go_wp2_with fail
      go_ret
      exact ⟨_, rfl, RdI.lit_at [5, 6, 10] rfl rfl rfl (by simp [maxLen]), fun g hg => (by cases hg; exact Nat.le_refl _), (by repeat' (first | (with_reducible exact Ext.refl _) | (with_reducible assumption) | (with_reducible refine Ext.alloc ?_ _) | (with_reducible refine Ext.drewN ?_ _) | (with_reducible refine Ext.drew ?_) | (with_reducible refine Ext.trans ?_ (by assumption))))⟩
    · go_enter Try.func41, Try.ntmps41
      go_wp2_with fail
      go_ret
      exact ⟨_, rfl, RdI.lit_at [5, 7] rfl rfl rfl (by simp [maxLen]), fun g hg => (by cases hg; exact Nat.le_refl _), (by repeat' (first | (with_reducible exact Ext.refl _) | (with_reducible assumption) | (with_reducible refine Ext.alloc ?_ _) | (with_reducible refine Ext.drewN ?_ _) | (with_reducible refine Ext.drew ?_) | (with_reducible refine Ext.trans ?_ (by assumption))))⟩
    · go_enter Try.func41, Try.ntmps41
      go_wp2_with fail
      go_ret
      exact ⟨_, rfl, RdI.lit_at [2, 4, 5, 6, 8, 9, 10] rfl rfl rfl (by simp [maxLen]), fun g hg => (by cases hg; exact Nat.le_refl _), (by repeat' (first | (with_reducible exact Ext.refl _) | (with_reducible assumption) | (with_reducible refine Ext.alloc ?_ _) | (with_reducible refine Ext.drewN ?_ _) | (with_reducible refine Ext.drew ?_) | (with_reducible refine Ext.trans ?_ (by assumption))))⟩
    · go_enter Try.func41, Try.ntmps41
      go_wp2_with fail
      go_ret
      exact ⟨_, rfl, RdI.lit_at [2, 4, 5, 6, 8, 9] rfl rfl rfl (by simp [maxLen]), fun g hg => (by cases hg; exact Nat.le_refl _), (by repeat' (first | (with_reducible exact Ext.refl _) | (with_reducible assumption) | (with_reducible refine Ext.alloc ?_ _) | (with_reducible refine Ext.drewN ?_ _) | (with_reducible refine Ext.drew ?_) | (with_reducible refine Ext.trans ?_ (by assumption))))⟩
    · go_enter Try.func41, Try.ntmps41
      go_wp2_with fail
      go_ret
      exact ⟨_, rfl, RdI.lit_at [5, 7] rfl rfl rfl (by simp [maxLen]), fun g hg => (by cases hg; exact Nat.le_refl _), (by repeat' (first | (with_reducible exact Ext.refl _) | (with_reducible assumption) | (with_reducible refine Ext.alloc ?_ _) | (with_reducible refine Ext.drewN ?_ _) | (with_reducible refine Ext.drew ?_) | (with_reducible refine Ext.trans ?_ (by assumption))))⟩
    · go_enter Try.func41, Try.ntmps41
      go_wp2_with fail
      go_ret
      exact ⟨_, rfl, RdI.lit_at [5, 6] rfl rfl rfl (by simp [maxLen]), fun g hg => (by cases hg; exact Nat.le_refl _), (by repeat' (first | (with_reducible exact Ext.refl _) | (with_reducible assumption) | (with_reducible refine Ext.alloc ?_ _) | (with_reducible refine Ext.drewN ?_ _) | (with_reducible refine Ext.drew ?_) | (with_reducible refine Ext.trans ?_ (by assumption))))⟩
    · go_enter Try.func41, Try.ntmps41
      go_wp2_with fail
      go_ret
      exact ⟨_, rfl, RdI.lit_at [1, 2, 3, 4, 5, 6, 10] rfl rfl rfl (by simp [maxLen]), fun g hg => (by cases hg; exact Nat.le_refl _), (by repeat' (first | (with_reducible exact Ext.refl _) | (with_reducible assumption) | (with_reducible refine Ext.alloc ?_ _) | (with_reducible refine Ext.drewN ?_ _) | (with_reducible refine Ext.drew ?_) | (with_reducible refine Ext.trans ?_ (by assumption))))⟩
    · go_enter Try.func41, Try.ntmps41
      go_wp2_with fail
      go_ret
      exact ⟨_, rfl, RdI.lit_at [5, 6, 10] rfl rfl rfl (by simp [maxLen]), fun g hg => (by cases hg; exact Nat.le_refl _), (by repeat' (first | (with_reducible exact Ext.refl _) | (with_reducible assumption) | (with_reducible refine Ext.alloc ?_ _) | (with_reducible refine Ext.drewN ?_ _) | (with_reducible refine Ext.drew ?_) | (with_reducible refine Ext.trans ?_ (by assumption))))⟩
    · go_enter Try.func41, Try.ntmps41
      go_wp2_with fail
      go_ret
      exact ⟨_, rfl, RdI.lit_at [5] rfl rfl rfl (by simp [maxLen]), fun g hg => (by cases hg; exact Nat.le_refl _), (by repeat' (first | (with_reducible exact Ext.refl _) | (with_reducible assumption) | (with_reducible refine Ext.alloc ?_ _) | (with_reducible refine Ext.drewN ?_ _) | (with_reducible refine Ext.drew ?_) | (with_reducible refine Ext.trans ?_ (by assumption))))⟩
    · go_enter Try.func41, Try.ntmps41
      go_wp2_with fail
      go_ret
      exact ⟨_, rfl, RdI.lit_at [5, 8, 10] rfl rfl rfl (by simp [maxLen]), fun g hg => (by cases hg; exact Nat.le_refl _), (by repeat' (first | (with_reducible exact Ext.refl _) | (with_reducible assumption) | (with_reducible refine Ext.alloc ?_ _) | (with_reducible refine Ext.drewN ?_ _) | (with_reducible refine Ext.drew ?_) | (with_reducible refine Ext.trans ?_ (by assumption))))⟩
    · go_enter Try.func41, Try.ntmps41
      go_wp2_with fail
      go_ret
      exact ⟨_, rfl, RdI.lit_at [1, 2, 3, 4, 5, 8, 9] rfl rfl rfl (by simp [maxLen]), fun g hg => (by cases hg; exact Nat.le_refl _), (by repeat' (first | (with_reducible exact Ext.refl _) | (with_reducible assumption) | (with_reducible refine Ext.alloc ?_ _) | (with_reducible refine Ext.drewN ?_ _) | (with_reducible refine Ext.drew ?_) | (with_reducible refine Ext.trans ?_ (by assumption))))⟩
    · go_enter Try.func41, Try.ntmps41
      go_wp2_with fail
      go_ret
      exact ⟨_, rfl, RdI.lit_at [5] rfl rfl rfl (by simp [maxLen]), fun g hg => (by cases hg; exact Nat.le_refl _), (by repeat' (first | (with_reducible exact Ext.refl _) | (with_reducible assumption) | (with_reducible refine Ext.alloc ?_ _) | (with_reducible refine Ext.drewN ?_ _) | (with_reducible refine Ext.drew ?_) | (with_reducible refine Ext.trans ?_ (by assumption))))⟩
  · have e : fieldsOf k = [] := by unfold fieldsOf kindN; rw [if_neg h]; rfl
    rw [e]
    have b1 : (k == 1) = false := by rw [beq_eq_false_iff_ne]; omega
    have b2 : (k == 2) = false := by rw [beq_eq_false_iff_ne]; omega
    have b3 : (k == 3) = false := by rw [beq_eq_false_iff_ne]; omega
    have b4 : (k == 4) = false := by rw [beq_eq_false_iff_ne]; omega
    have b5 : (k == 5) = false := by rw [beq_eq_false_iff_ne]; omega
    have b6 : (k == 6) = false := by rw [beq_eq_false_iff_ne]; omega
    have b7 : (k == 7) = false := by rw [beq_eq_false_iff_ne]; omega
    have b8 : (k == 8) = false := by rw [beq_eq_false_iff_ne]; omega
    have b9 : (k == 9) = false := by rw [beq_eq_false_iff_ne]; omega
    have b10 : (k == 10) = false := by rw [beq_eq_false_iff_ne]; omega
    have b11 : (k == 11) = false := by rw [beq_eq_false_iff_ne]; omega
    have b12 : (k == 12) = false := by rw [beq_eq_false_iff_ne]; omega
    have b13 : (k == 13) = false := by rw [beq_eq_false_iff_ne]; omega
    have b14 : (k == 14) = false := by rw [beq_eq_false_iff_ne]; omega
    clear h e
    go_enter Try.func41, Try.ntmps41
    go_wp2_with fail
    go_ret
    exact ⟨_, rfl, RdI.nil _ _, fun g hg => (by cases hg), (by repeat' (first | (with_reducible exact Ext.refl _) | (with_reducible assumption) | (with_reducible refine Ext.alloc ?_ _) | (with_reducible refine Ext.drewN ?_ _) | (with_reducible refine Ext.drew ?_) | (with_reducible refine Ext.trans ?_ (by assumption))))⟩
theorem rnumbersF (K : Int) (N : Nat → Int) (g : Bool) (a : Option Addr) (n c : Nat) (w : World) :
    Calls Try.prog 71 #[msgV K N g (.slice a n c)] w fun e w' => ∃ v, e = .returned v ∧ RdI .i64 w' v (numL N) ∧ (∀ g, v.ownBlock = some g → w.heap.size ≤ g) ∧ Ext w w' := by
  unfold msgV mrow
  go_enter Try.func71, Try.ntmps71
  go_wp2_with fail
  have HM := msg_new w K N g (.slice a n c)
  have hX0 : Ext w (w.alloc (.cells (mrow K N g (.slice a n c)) 62)) := (by repeat' (first | (with_reducible exact Ext.refl _) | (with_reducible assumption) | (with_reducible refine Ext.alloc ?_ _) | (with_reducible refine Ext.drewN ?_ _) | (with_reducible refine Ext.drew ?_) | (with_reducible refine Ext.trans ?_ (by assumption))))
  unfold mrow at HM hX0
  have hsz : w.heap.size + 1 = (w.alloc (.cells #[.int .i64 K, .int .i64 (N 1), .int .i64 (N 2), .int .i64 (N 3), .int .i64 (N 4), .int .i64 (N 5), .int .i64 (N 6), .int .i64 (N 7), .int .i64 (N 8), .bool g, .slice a n c] 62)).heap.size := by simp
  generalize (w.alloc (.cells #[.int .i64 K, .int .i64 (N 1), .int .i64 (N 2), .int .i64 (N 3), .int .i64 (N 4), .int .i64 (N 5), .int .i64 (N 6), .int .i64 (N 7), .int .i64 (N 8), .bool g, .slice a n c] 62)) = w0 at *
  have HSZ := Lib.hid hsz
  clear hsz
  have c1 := HM.num (f := 1) (by omega) (by omega)
  have c2 := HM.num (f := 2) (by omega) (by omega)
  have c3 := HM.num (f := 3) (by omega) (by omega)
  have c4 := HM.num (f := 4) (by omega) (by omega)
  have c5 := HM.num (f := 5) (by omega) (by omega)
  have c6 := HM.num (f := 6) (by omega) (by omega)
  have c7 := HM.num (f := 7) (by omega) (by omega)
  have c8 := HM.num (f := 8) (by omega) (by omega)
  go_wp2_with fail
  go_ret
  exact ⟨_, rfl, RdI.lit_at (numL N) HSZ.out rfl rfl (by simp [numL, maxLen]), fun g hg => (by cases hg; exact Nat.le_succ _), (by repeat' (first | (with_reducible exact Ext.refl _) | (with_reducible assumption) | (with_reducible refine Ext.alloc ?_ _) | (with_reducible refine Ext.drewN ?_ _) | (with_reducible refine Ext.drew ?_) | (with_reducible refine Ext.trans ?_ (by assumption))))⟩

theorem rmput_bad (K : Int) (N : Nat → Int) (g : Bool) (a : Option Addr) (n c : Nat) (w : World) (hn : n ≤ maxLen) (hno : ¬ MOk K N g n) :
    Calls Try.prog 51 #[msgV K N g (.slice a n c)] w fun e w' => e = .returned (.tuple #[.slice none 0 0, .int .i64 6]) ∧ Ext w w' := by
  have HM := Lib.hid (fun w => rmright K N g a n c w hn false (by simp [hno]))
  clear hno hn
  unfold msgV mrow at *
  go_enter Try.func51, Try.ntmps51
  go_wp2_with fail
  refine (HM.out _).mono ?_
  rintro e w1 ⟨rfl, hx1⟩
  go_wp2_with fail
  go_ret2
  exact ⟨rfl, (by repeat' (first | (with_reducible exact Ext.refl _) | (with_reducible assumption) | (with_reducible refine Ext.alloc ?_ _) | (with_reducible refine Ext.drewN ?_ _) | (with_reducible refine Ext.drew ?_) | (with_reducible refine Ext.trans ?_ (by assumption))))⟩

set_option maxRecDepth 100000 in
set_option maxHeartbeats 4000000 in
theorem rmput_ok (K : Int) (N : Nat → Int) (g : Bool) (v : Value) (t : List Int) (w : World) (h : RdI .u8 w v t) (ok : MOk K N g t.length) :
    Calls Try.prog 51 #[msgV K N g v] w fun e w' => ∃ v', e = .returned (.tuple #[v', .int .i64 0]) ∧ OwnI .u8 5 w.heap.size w' v' (mB K N g t) ∧ Ext w w' := by
  have HT := Lib.hid h
  obtain ⟨a, c, rfl, hc, hm, hn, hs⟩ := h.parts
  have HR := Lib.hid (fun w => rmright K N g a t.length c w (by omega) true (by simp [ok]))
  have HNB := Lib.hid (fun w => rnumbersF K N g a t.length c w)
  have HOK := Lib.hid ok
  obtain ⟨k1, k14⟩ := ok.kind
  obtain ⟨n, hnn⟩ : ∃ n, n = t.length := ⟨_, rfl⟩
  have HN := Lib.hid hnn
  rw [← hnn] at HR HT HNB ⊢
  obtain ⟨v, hv⟩ : ∃ v, v = Value.slice a n c := ⟨_, rfl⟩
  rw [← hv] at HR HT HNB ⊢
  clear hnn hc hm hn hs h ok hv
  unfold msgV at *
  obtain ⟨cc, hcc⟩ : ∃ cc, cc = mrow K N g v := ⟨_, rfl⟩
  have hci : (Try.prog.info? 62).map (·.size) = some cc.size := by rw [hcc]; exact msg_info'
  rw [← hcc] at HR HNB
  have HCC := Lib.hid hcc
  clear hcc
  go_enter Try.func51, Try.ntmps51
  unfold mrow
  go_upto_region 1 with fail
  have HM : MsgAt (w.alloc (.cells #[.int .i64 K, .int .i64 (N 1), .int .i64 (N 2), .int .i64 (N 3), .int .i64 (N 4), .int .i64 (N 5), .int .i64 (N 6), .int .i64 (N 7), .int .i64 (N 8), .bool g, v] 62)) w.heap.size K N g v := msg_new w K N g v
  have hX0 : Ext w (w.alloc (.cells #[.int .i64 K, .int .i64 (N 1), .int .i64 (N 2), .int .i64 (N 3), .int .i64 (N 4), .int .i64 (N 5), .int .i64 (N 6), .int .i64 (N 7), .int .i64 (N 8), .bool g, v] 62)) := (by repeat' (first | (with_reducible exact Ext.refl _) | (with_reducible assumption) | (with_reducible refine Ext.alloc ?_ _) | (with_reducible refine Ext.drewN ?_ _) | (with_reducible refine Ext.drew ?_) | (with_reducible refine Ext.trans ?_ (by assumption))))
  generalize (w.alloc (.cells #[.int .i64 K, .int .i64 (N 1), .int .i64 (N 2), .int .i64 (N 3), .int .i64 (N 4), .int .i64 (N 5), .int .i64 (N 6), .int .i64 (N 7), .int .i64 (N 8), .bool g, v] 62)) = w0 at *
  obtain ⟨p, hp⟩ : ∃ p, p = w.heap.size := ⟨_, rfl⟩
  rw [← hp] at HM ⊢
  clear hp
  have hr0 : w0.heap[p]? = some (.cells cc 62 (0, 0)) := by rw [HCC.out]; exact HM
  go_wp2_with (refine wpList_load_row rfl 62 _ rfl p rfl 62 cc (0, 0) _ hr0 Try.underlying62 rfl hci ?_)
  refine (HR.out _).mono ?_
  rintro e w1 ⟨rfl, hx1⟩
  have HM1 := HM.ext hx1
  have HMA := Lib.hid HM1
  have hX1 : Ext w w1 := hX0.trans hx1
  clear HM hx1 hX0 hr0
  have c0 := HM1.kind
  go_wp2_with fail
  refine (refput_any K _ (by omega) (by omega)).mono ?_
  rintro e w2 ⟨v2, rfl, ho2, hx2⟩
  have HM2 := HM1.ext hx2
  have c0 := HM2.kind
  have hlt2 := OwnI.lt ho2
  go_wp2_with fail
  refine (rfieldsF K _).mono ?_
  rintro e w3 ⟨v3, rfl, hr3, hf3, hx3⟩
  have HM3 := HM2.ext hx3
  have ho2 := ho2.ext hx3
  have hs23 := hx3.size
  have hx13 := hx2.trans hx3
  have hr03 : w3.heap[p]? = some (.cells cc 62 (0, 0)) := by rw [HCC.out]; exact HM3
  obtain ⟨a3, q3, hv3, hq3, hm3, _, hcell⟩ := hr3.parts
  rw [zints_len] at hv3 hq3 hcell
  have hle := fields_le K
  obtain ⟨m, hm⟩ : ∃ m, m = (fieldsOf K).length := ⟨_, rfl⟩
  have hm1 : 0 < m := by
    rw [hm]; exact (fields_pos' (kindN K) (kindN_lt K)).2 HOK.out.1
  rw [← hm] at hv3 hq3 hcell hle
  subst hv3
  have HME := Lib.hid hm
  obtain ⟨b3, o3, rfl, hb3, hcell⟩ := hcell (by intro e; have h5 := zints_len (fieldsOf K); rw [e, List.length_nil, ← hm] at h5; omega)
  have hn3 : v2.ownBlock ≠ some b3 := fun h => by
    have h1 := (hlt2 b3 h).2
    have h2 := hf3 b3 rfl
    omega
  have HN3 := Lib.hid hn3
  have HC := Lib.hid hcell
  clear hcell hm hm3 hr3 hq3 hf3 HM2 hx3 c0 hx2 hn3 HM1
  go_wp2_with (refine wpList_load_row rfl 62 _ rfl p rfl 62 cc (0, 0) _ hr03 Try.underlying62 rfl hci ?_)
  refine (HNB.out _).mono ?_
  rintro e w4 ⟨v4, rfl, hr4, hf4, hx4⟩
  have ho2 := ho2.ext hx4
  have hx14 := hx13.trans hx4
  obtain ⟨a4, q4, hv4, hq4, hm4, _, hc4⟩ := hr4.parts
  obtain ⟨b4, o4, rfl, hb4, hcl4⟩ := hc4 (by simp [numL])
  have hl8 : (numL N).length = 8 := rfl
  rw [hl8] at hv4 hq4 hcl4
  subst hv4
  have hn4 : v2.ownBlock ≠ some b4 := fun h => by
    have h1 := (hlt2 b4 h).2
    have h2 := hf4 b4 rfl
    omega
  have HN4 := Lib.hid hn4
  have HC4 : Hid (∀ i, i < 8 → w4.cell? ⟨b4, o4 + i, none⟩ = some (.int .i64 (N (i + 1)))) := Lib.hid (fun i hi => by rw [hcl4 i hi, numL_at N hi])
  have HC3 : Hid (∀ j, j < m → w4.cell? ⟨b3, o3 + j, none⟩ = some (.int .i64 ((zints (fieldsOf K)).getD j 0))) := Lib.hid (fun j hj => hx4.cellv (HC.out j hj))
  have hb34 : b3 < w4.heap.size := Nat.lt_of_lt_of_le hb3 hx4.size
  clear hc4 hcl4 hr4 HM3 hx4 hx13 hq4 hm4 HC hr03 hl8 hf4 hn4 hlt2 hb3
  go_wp2_with fail
  go_loopw [4, 7] (fun vb vi wr => ∃ k : Nat, k ≤ m ∧ vi = .int .i64 k ∧ OwnI .u8 5 w1.heap.size wr vb (enc K.toNat ++ ((fieldsOf K).take k).flatMap (fB N g t)) ∧ Hid (vb.ownBlock ≠ some b3) ∧ Hid (vb.ownBlock ≠ some b4) ∧ Hid (∀ j, j < m → wr.cell? ⟨b3, o3 + j, none⟩ = some (.int .i64 ((zints (fieldsOf K)).getD j 0))) ∧ Hid (∀ i, i < 8 → wr.cell? ⟨b4, o4 + i, none⟩ = some (.int .i64 (N (i + 1)))) ∧ Ext w1 wr) (fun _ vi _ => m - (intOf vi).toNat)
  case atStart => exact ⟨0, by omega, rfl, by simpa using ho2, HN3, HN4, HC3, HC4, hx14⟩
  case round =>
    clear HN3 HN4 HC3 HC4 hb4 hb34 ho2
    obtain ⟨k, hk, rfl, ho, HN3, HN4, HC3, HC4, hx⟩ := hrel
    have HO := Lib.hid ho
    clear ho
    by_cases hlt : k < m
    · have hkl : k < (fieldsOf K).length := by rw [← HME.out]; exact hlt
      have hce := HC3.out k hlt
      rw [zints_at hkl] at hce
      have hfm : (fieldsOf K).getD k 0 ∈ fieldsOf K := by rw [List.getD_eq_getElem?_getD, List.getElem?_eq_getElem hkl]; exact List.getElem_mem hkl
      obtain ⟨f1, f10⟩ := fields_bd K _ hfm
      have hstep : enc K.toNat ++ ((fieldsOf K).take (k + 1)).flatMap (fB N g t) = (enc K.toNat ++ ((fieldsOf K).take k).flatMap (fB N g t)) ++ fB N g t ((fieldsOf K).getD k 0) := by
        rw [List.take_succ_eq_append_getElem hkl, List.flatMap_append, ← List.append_assoc]
        congr 1
        simp [List.getD, hkl]
      have HS := Lib.hid hstep
      have hpl := mB_part HOK.out k
      obtain ⟨f, hf⟩ : ∃ f, f = (fieldsOf K).getD k 0 := ⟨_, rfl⟩
      rw [← hf] at hce f1 f10 HS
      obtain ⟨B, hB⟩ : ∃ B, B = enc K.toNat ++ ((fieldsOf K).take k).flatMap (fB N g t) := ⟨_, rfl⟩
      rw [← hB] at HO HS hpl
      have HL := Lib.hid hpl
      have hki : (k : Int) < (m : Int) := by omega
      have hb3 : b3 < wr.heap.size := cell_lt hce
      have hb4 : b4 < wr.heap.size := cell_lt (HC4.out 0 (by omega))
      have hwr : Ext w wr := hX1.trans hx
      have hmr := HMA.out.ext hx
      clear hf hB hstep hfm hpl hkl
      by_cases h8 : f ≤ 8
      · have hfb : fB N g t f = enc (N f).toNat := by unfold fB; rw [if_neg (by omega), if_neg (by omega)]
        rw [hfb] at HS
        have hbd := HOK.out.num f1 (show f ≤ 8 by omega)
        obtain ⟨f', rfl⟩ : ∃ f', f = f' + 1 := ⟨f - 1, by omega⟩
        have cf := HC4.out f' (by omega)
        obtain ⟨x, hxe⟩ : ∃ x, x = N (f' + 1) := ⟨_, rfl⟩
        rw [← hxe] at cf hbd HS
        have hce : wr.cell? ⟨b3, o3 + k, none⟩ = some (.int .i64 ((f' : Int) + 1)) := by rw [hce]; rfl
        have b9 : ((f' : Int) + 1 == 9) = false := by rw [beq_eq_false_iff_ne]; omega
        have b10 : ((f' : Int) + 1 == 10) = false := by rw [beq_eq_false_iff_ne]; omega
        have hf7 : (f' : Int) < 8 := by omega
        have hel := enc_len9 hbd.2
        clear hfb hxe hmr f1 f10 h8
        go_wp2_with fail
        refine (refput_any x _ (by omega) (by omega)).mono ?_
        rintro e w5 ⟨v5, rfl, ho5, hx5⟩
        go_wp2_with (at_builtin; refine wpList_append_intsa rfl _ _ 24 rfl 5 .u8 0 1 Try.underlying24 bytes_info (by decide) w1 (by repeat' (first | (with_reducible exact Ext.refl _) | (with_reducible assumption) | (with_reducible refine Ext.alloc ?_ _) | (with_reducible refine Ext.drewN ?_ _) | (with_reducible refine Ext.drew ?_) | (with_reducible refine Ext.trans ?_ (by assumption)))) _ _ rfl (HO.out.ext hx5) _ _ rfl ho5.rd (by simp [enc_len_pos]) (by have := HL.out; unfold Fits; omega) ?_)
        intro v6 w6 ho6 hx6 hg6 hat6
        have s5 := hx5.size
        obtain ⟨k3, kp3⟩ := grown_keep hg6 hat6 (q := b3) (by omega) HN3.out
        obtain ⟨k4, kp4⟩ := grown_keep hg6 hat6 (q := b4) (by omega) HN4.out
        have K3 := Lib.hid k3
        have K4 := Lib.hid k4
        have C3 : Hid (∀ j, j < m → w6.cell? ⟨b3, o3 + j, none⟩ = some (.int .i64 ((zints (fieldsOf K)).getD j 0))) := Lib.hid (fun j hj => kp3 (hx5.cellv (HC3.out j hj)))
        have C4 : Hid (∀ i, i < 8 → w6.cell? ⟨b4, o4 + i, none⟩ = some (.int .i64 (N (i + 1)))) := Lib.hid (fun j hj => kp4 (hx5.cellv (HC4.out j hj)))
        clear k3 kp3 k4 kp4 hg6 hat6 ho5 hx5
        go_wp2_with fail
        go_roundw
        case rel => exact ⟨k + 1, by omega, by go_num, by rw [HS.out]; exact ho6, K3, K4, C3, C4, hx6⟩
        case measure => simp [intOf]; omega
      · have h3 : f = 9 ∨ f = 10 := by omega
        clear h8 f1 f10
        rcases h3 with rfl | rfl
        · have hfb : fB N g t 9 = [bit g] := rfl
          rw [hfb] at HS
          have cf := hmr.grant
          clear hfb hmr
          cases g
          all_goals
            go_wp2_with (at_builtin; refine wpList_append_intsa rfl _ _ 24 rfl 5 .u8 0 1 Try.underlying24 bytes_info (by decide) w1 (by repeat' (first | (with_reducible exact Ext.refl _) | (with_reducible assumption) | (with_reducible refine Ext.alloc ?_ _) | (with_reducible refine Ext.drewN ?_ _) | (with_reducible refine Ext.drew ?_) | (with_reducible refine Ext.trans ?_ (by assumption)))) _ _ rfl (HO.out.ext (by repeat' (first | (with_reducible exact Ext.refl _) | (with_reducible assumption) | (with_reducible refine Ext.alloc ?_ _) | (with_reducible refine Ext.drewN ?_ _) | (with_reducible refine Ext.drew ?_) | (with_reducible refine Ext.trans ?_ (by assumption))))) _ _ rfl (RdI.one _ _ _ _) (by simp) (by have := HL.out; unfold Fits; simp; omega) ?_)
            intro v6 w6 ho6 hx6 hg6 hat6
            obtain ⟨k3, kp3⟩ := grown_keep hg6 (fun y hy => (hat6 y hy).imp id (fun h => by simpa using h)) (q := b3) (by simp; omega) HN3.out
            obtain ⟨k4, kp4⟩ := grown_keep hg6 (fun y hy => (hat6 y hy).imp id (fun h => by simpa using h)) (q := b4) (by simp; omega) HN4.out
            have K3 := Lib.hid k3
            have K4 := Lib.hid k4
            have C3 : Hid (∀ j, j < m → w6.cell? ⟨b3, o3 + j, none⟩ = some (.int .i64 ((zints (fieldsOf K)).getD j 0))) := Lib.hid (fun j hj => kp3 (cell_old _ (HC3.out j hj)))
            have C4 : Hid (∀ i, i < 8 → w6.cell? ⟨b4, o4 + i, none⟩ = some (.int .i64 (N (i + 1)))) := Lib.hid (fun j hj => kp4 (cell_old _ (HC4.out j hj)))
            clear k3 kp3 k4 kp4 hg6 hat6
            go_wp2_with fail
            go_roundw
            case rel => exact ⟨k + 1, by omega, by go_num, by rw [HS.out]; exact ho6, K3, K4, C3, C4, hx6⟩
            case measure => simp [intOf]; omega
        · have hfb : fB N g t 10 = enc t.length ++ t := rfl
          rw [hfb] at HS
          have cf := hmr.data
          have h64 := HOK.out.len
          have hel := enc_len_le 8 t.length (by omega)
          have hep := enc_len_pos t.length
          clear hfb hmr
          go_wp2_with fail
          refine (text_any v t _ (HT.out.ext hwr) (by unfold Fits; omega)).mono ?_
          rintro e w5 ⟨v5, rfl, ho5, hx5⟩
          go_wp2_with (at_builtin; refine wpList_append_intsa rfl _ _ 24 rfl 5 .u8 0 1 Try.underlying24 bytes_info (by decide) w1 (by repeat' (first | (with_reducible exact Ext.refl _) | (with_reducible assumption) | (with_reducible refine Ext.alloc ?_ _) | (with_reducible refine Ext.drewN ?_ _) | (with_reducible refine Ext.drew ?_) | (with_reducible refine Ext.trans ?_ (by assumption)))) _ _ rfl (HO.out.ext hx5) _ _ rfl ho5.rd (by simp only [List.length_append]; omega) (by have := HL.out; unfold Fits; simp only [List.length_append]; omega) ?_)
          intro v6 w6 ho6 hx6 hg6 hat6
          have s5 := hx5.size
          obtain ⟨k3, kp3⟩ := grown_keep hg6 hat6 (q := b3) (by omega) HN3.out
          obtain ⟨k4, kp4⟩ := grown_keep hg6 hat6 (q := b4) (by omega) HN4.out
          have K3 := Lib.hid k3
          have K4 := Lib.hid k4
          have C3 : Hid (∀ j, j < m → w6.cell? ⟨b3, o3 + j, none⟩ = some (.int .i64 ((zints (fieldsOf K)).getD j 0))) := Lib.hid (fun j hj => kp3 (hx5.cellv (HC3.out j hj)))
          have C4 : Hid (∀ i, i < 8 → w6.cell? ⟨b4, o4 + i, none⟩ = some (.int .i64 (N (i + 1)))) := Lib.hid (fun j hj => kp4 (hx5.cellv (HC4.out j hj)))
          clear k3 kp3 k4 kp4 hg6 hat6 ho5 hx5
          go_wp2_with fail
          go_roundw
          case rel => exact ⟨k + 1, by omega, by go_num, by rw [HS.out]; exact ho6, K3, K4, C3, C4, hx6⟩
          case measure => simp [intOf]; omega
    · obtain rfl : k = m := by omega
      have hki : ¬ (k : Int) < (k : Int) := by omega
      go_wp2_with fail
      go_ret2
      refine ⟨_, rfl, ?_, hX1.trans hx⟩
      have := HO.out.mono hX1.size
      rw [List.take_of_length_le (by rw [← HME.out]; omega)] at this
      exact this
end Go.Proofs.Ytmkobmkaalfecaa
