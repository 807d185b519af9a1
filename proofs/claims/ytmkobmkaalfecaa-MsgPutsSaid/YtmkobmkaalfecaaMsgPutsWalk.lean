/-
  gradinelaw04.MsgPuts answers true. No condition.
-/
import Derived.Test.YtmkobmkaalfecaaMsLaw
import Derived.Test.YtmkobmkaalfecaaMsWakes
import Derived.Test.YtmkobmkaalfecaaMsgArg
import Derived.Test.YtmkobmkaalfecaaRMPut
import Derived.Test.YtmkobmkaalfecaaGuard
import Derived.Test.YtmkobmkaalfecaaSame
import Derived.Deep.RegionHeld3
import Derived.Deep.MidRow
import Derived.Laws.CopyOwn
namespace Go.Proofs.Ytmkobmkaalfecaa
open Go.RowKit

theorem same_eqM (v1 v2 : Value) (l : List Int) (w : World) (h1 : RdI .u8 w v1 l) (h2 : RdI .u8 w v2 l) :
    Calls Try.prog 19 #[v1, v2] w fun e w' => e = .returned (.bool true) ∧ Ext w w' :=
  (same_any v1 v2 l l w h1 h2).mono fun e w' h => ⟨by have := h.1; simpa using this, h.2⟩
/-- a message's size: a name that the walk's simp leaves -/
def szM : Sem Nat := sizeOf 62
theorem szM_run (w : World) : szM.run Try.prog w = .ok 11 w := by
  unfold szM
  cases hq : Try.prog.info? 62 with
  | none => have := msg_info; simp [hq] at this
  | some i => have := msg_info; simp [hq] at this; simp [sizeOf, typeInfo, hq, this]
theorem lm_row {P : Program} {w : World} {g n : Nat} {cs : Array Value} {t : TypeId} (hg : w.heap[g]? = some (.cells cs t (0, 0))) (hn : cs.size = n) :
    (loadCellsFrom ⟨g, 0, none⟩ 0 n #[]).run P w = .ok cs w := by
  subst hn
  have := run_loadCells_list (P := P) w ⟨g, 0, none⟩ cs.toList (fun j v hv => by
    rw [add_none, Nat.zero_add, cell_of_row w g j cs t (0, 0) hg]
    simpa using hv)
  simpa [loadCells] using this
set_option maxRecDepth 100000 in
set_option maxHeartbeats 8000000 in
theorem walk_MsgPuts (v0 : Value) (w : World) (h0 : IsFlat Try.prog 62 w v0) :
    Calls Try.prog 15 #[v0] w fun e w' => e = .returned (.bool true) ∧ Ext w w' := by
  obtain ⟨K, N, g, u, t, rfl, hr, hbt⟩ := msg_of' h0
  have HT := Lib.hid hbt
  obtain ⟨n, hnn⟩ : ∃ n, n = t.length := ⟨_, rfl⟩
  have HN := Lib.hid hnn
  have HRR := Lib.hid hr
  obtain ⟨a, c, rfl, hnc, hcm, _⟩ := hr.parts
  have hmx : n ≤ maxLen := by omega
  have hn63 : (n : Int) ≤ 9223372036854775807 := by unfold maxLen at hcm; omega
  have HMX := Lib.hid hmx
  rw [← hnn] at HRR ⊢
  clear h0 hbt hcm hnc hr hmx hnn
  unfold msgV mrow
  by_cases h20 : n ≤ 300
  · have h20' : (n : Int) ≤ 300 := by omega
    go_enter Try.func15, Try.ntmps15
    go_wp2_with fail
    have h1r : (w.alloc (.cells #[.int .i64 K, .int .i64 (N 1), .int .i64 (N 2), .int .i64 (N 3), .int .i64 (N 4), .int .i64 (N 5), .int .i64 (N 6), .int .i64 (N 7), .int .i64 (N 8), .bool g, .slice a n c] 62)).heap[w.heap.size]? = some (.cells (mrow K N g (.slice a n c)) 62 (0, 0)) := heap_alloc_new w _
    have hX0 : Ext w (w.alloc (.cells #[.int .i64 K, .int .i64 (N 1), .int .i64 (N 2), .int .i64 (N 3), .int .i64 (N 4), .int .i64 (N 5), .int .i64 (N 6), .int .i64 (N 7), .int .i64 (N 8), .bool g, .slice a n c] 62)) := (Ext.refl w).alloc _
    generalize (w.alloc (.cells #[.int .i64 K, .int .i64 (N 1), .int .i64 (N 2), .int .i64 (N 3), .int .i64 (N 4), .int .i64 (N 5), .int .i64 (N 6), .int .i64 (N 7), .int .i64 (N 8), .bool g, .slice a n c] 62)) = w0 at *
    obtain ⟨p1, hp1⟩ : ∃ p, p = w.heap.size := ⟨_, rfl⟩
    rw [← hp1] at h1r ⊢
    clear hp1
    refine (wakes04 _).mono ?_
    rintro e w1 ⟨rfl, hx1⟩
    have h1r := (Below.block hx1 _ (Array.getElem?_eq_some_iff.1 h1r).1).trans h1r
    have hX1 := hX0.trans hx1
    clear hx1 hX0
    have c16 : w1.cell? ⟨p1, 10, none⟩ = some (.slice a n c) := cell_of_row w1 p1 10 _ _ _ h1r
    have h3r : (w1.alloc (.cells #[.int .i64 0, .int .i64 0, .int .i64 0, .int .i64 0, .int .i64 0, .int .i64 0, .int .i64 0, .int .i64 0, .int .i64 0, .bool false, .slice none 0 0] 62)).heap[w1.heap.size]? = some (.cells #[.int .i64 0, .int .i64 0, .int .i64 0, .int .i64 0, .int .i64 0, .int .i64 0, .int .i64 0, .int .i64 0, .int .i64 0, .bool false, .slice none 0 0] 62 (0, 0)) := heap_alloc_new w1 _
    have hcc1 : (mrow K N g (.slice a n c)).all (·.oneCell') = true := mrow_one _ _ _ _ _ _
    go_upto_region 6 with (first | (refine wpList_load_row rfl 62 _ rfl p1 rfl 62 (mrow K N g (.slice a n c)) (0, 0) _ h1r Try.underlying62 rfl msg_info ?_) | (refine wpList_store_row rfl 62 _ _ rfl w1.heap.size (mrow K N g (.slice a n c)) rfl rfl 62 _ h3r msg_info rfl hcc1 ?_))
    have h3s := setRow_heap _ _ _ (mrow K N g (.slice a n c)) _ _ h3r
    have hl1 : p1 < w1.heap.size := (Array.getElem?_eq_some_iff.1 h1r).1
    have h1s : ((w1.alloc (.cells #[.int .i64 0, .int .i64 0, .int .i64 0, .int .i64 0, .int .i64 0, .int .i64 0, .int .i64 0, .int .i64 0, .int .i64 0, .bool false, .slice none 0 0] 62)).setRow w1.heap.size (mrow K N g (.slice a n c))).heap[p1]? = some (.cells (mrow K N g (.slice a n c)) 62 (0, 0)) := (setRow_other _ _ _ _ (by omega)).trans ((Below.heap_alloc w1 _ _ hl1).trans h1r)
    have hX3 : Ext w ((w1.alloc (.cells #[.int .i64 0, .int .i64 0, .int .i64 0, .int .i64 0, .int .i64 0, .int .i64 0, .int .i64 0, .int .i64 0, .int .i64 0, .bool false, .slice none 0 0] 62)).setRow w1.heap.size (mrow K N g (.slice a n c))) := below_setRow (hX1.alloc _) hX1.size _
    obtain ⟨p3, hp3⟩ : ∃ p, p = w1.heap.size := ⟨_, rfl⟩
    rw [← hp3] at h3s h1s hX3 ⊢
    generalize ((w1.alloc (.cells #[.int .i64 0, .int .i64 0, .int .i64 0, .int .i64 0, .int .i64 0, .int .i64 0, .int .i64 0, .int .i64 0, .int .i64 0, .bool false, .slice none 0 0] 62)).setRow p3 (mrow K N g (.slice a n c))) = w3 at *
    have hw3 : w.heap.size ≤ p3 := by rw [hp3]; exact hX1.size
    have h13 : p1 ≠ p3 := by omega
    clear hp3 h3r c16 h1r hcc1 hX1 hl1
    have c16 : (w3.alloc (.cells #[] 5)).cell? ⟨p1, 10, none⟩ = some (.slice a n c) := cell_old _ (cell_of_row w3 p1 10 _ _ _ h1s)
    have hrd := HRR.out.ext (hX3.alloc (.cells #[] 5))
    go_wp2_with (at_builtin; refine wpList_append_ints rfl _ _ 24 rfl 5 .u8 0 1 Try.underlying24 bytes_info (by decide) w3 (by repeat' (first | (with_reducible exact Ext.refl _) | (with_reducible assumption) | (with_reducible refine Ext.alloc ?_ _) | (with_reducible refine Ext.drewN ?_ _) | (with_reducible refine Ext.drew ?_) | (with_reducible refine Ext.trans ?_ (by assumption)))) _ _ rfl (OwnI.empty _ _ _ (Nat.le_refl _)) _ _ rfl hrd (by have := HN.out; unfold Fits; simp; omega) ?_)
    intro v5 w5 ho5 hx5
    have h1r := (Below.block hx5 _ (Array.getElem?_eq_some_iff.1 h1s).1).trans h1s
    have h3r := (Below.block hx5 _ (Array.getElem?_eq_some_iff.1 h3s).1).trans h3s
    have hl3 : p3 < w3.heap.size := (Array.getElem?_eq_some_iff.1 h3s).1
    obtain ⟨a3, q3, hv5, _⟩ := ho5.rd.parts
    rw [← HN.out] at hv5
    subst hv5
    have z16 : w5.cell? ⟨p3, 10, none⟩ = some (.slice a n c) := cell_of_row w5 p3 10 _ _ _ h3r
    have fz := frozen_row h3r 10
    have HO5 := Lib.hid ho5
    have H1R := Lib.hid h1r
    have H3R := Lib.hid h3r
    have hX5 := hX3.trans hx5
    clear ho5 hx5 c16 hrd h1s h3s h1r h3r hX3
    go_upto_region 7 with fail
    have hr3 : RdI .u8 (w5.setCell ⟨p3, 10, none⟩ (.slice a3 n q3)) (.slice a3 n q3) t := (OwnI.chg HO5.out (S := [p3]) (by repeat' (first | (with_reducible exact Chg.refl _ _) | (with_reducible assumption) | (with_reducible refine Chg.drewN ?_ _) | (with_reducible refine Chg.drew ?_) | (with_reducible refine Chg.alloc ?_ _) | (with_reducible refine Chg.setCell ?_ (.inl (by simp)) _) | (with_reducible refine Chg.trans ?_ (by assumption)) | (with_reducible refine Chg.ext ?_ (by assumption)))) (by simpa using hl3)).rd
    have h1r : (w5.setCell ⟨p3, 10, none⟩ (.slice a3 n q3)).heap[p1]? = some (.cells (mrow K N g (.slice a n c)) 62 (0, 0)) := (Below.heap_setCell _ _ _ _ h13).trans H1R.out
    have h3r : (w5.setCell ⟨p3, 10, none⟩ (.slice a3 n q3)).heap[p3]? = some (.cells (mrow K N g (.slice a3 n q3)) 62 (0, 0)) := heap_set (o := 10) H3R.out (.slice a3 n q3)
    have hX6 : Ext w (w5.setCell ⟨p3, 10, none⟩ (.slice a3 n q3)) := Ext.chg hX5 (S := [p3]) (by repeat' (first | (with_reducible exact Chg.refl _ _) | (with_reducible assumption) | (with_reducible refine Chg.drewN ?_ _) | (with_reducible refine Chg.drew ?_) | (with_reducible refine Chg.alloc ?_ _) | (with_reducible refine Chg.setCell ?_ (.inl (by simp)) _) | (with_reducible refine Chg.trans ?_ (by assumption)) | (with_reducible refine Chg.ext ?_ (by assumption)))) (by simpa using hw3)
    generalize (w5.setCell ⟨p3, 10, none⟩ (.slice a3 n q3)) = w6 at *
    have HR3 := Lib.hid hr3
    clear z16 fz HO5 H1R H3R hX5 hr3
    obtain ⟨k1, hk1⟩ : ∃ k, k = mrow K N g (.slice a n c) := ⟨_, rfl⟩
    obtain ⟨k3, hk3⟩ : ∃ k, k = mrow K N g (.slice a3 n q3) := ⟨_, rfl⟩
    have hi1 : (Try.prog.info? 62).map (·.size) = some k1.size := by rw [hk1]; exact msg_info
    have hi3 : (Try.prog.info? 62).map (·.size) = some k3.size := by rw [hk3]; exact msg_info
    rw [← hk1] at h1r
    rw [← hk3] at h3r
    have e1 : msgV K N g (.slice a n c) = .agg k1 := by rw [hk1]; rfl
    have e3 : msgV K N g (.slice a3 n q3) = .agg k3 := by rw [hk3]; rfl
    have HE1 := Lib.hid e1
    have HE3 := Lib.hid e3
    have HK1 := Lib.hid hk1
    have HK3 := Lib.hid hk3
    clear hk1 hk3 e1 e3
    have HS : Hid (∀ w', Ext w6 w' → Calls Try.prog 52 #[.agg k3, .agg k1] w' fun e w'' => e = .returned (.bool true) ∧ Ext w' w'') := Lib.hid (fun w' hx => by rw [← HE1.out, ← HE3.out]; exact rmsame K N g _ _ t w' (HR3.out.ext hx) (HRR.out.ext (hX6.trans hx)))
    by_cases ok : MOk K N g n
    · have ok : MOk K N g t.length := by rw [← HN.out]; exact ok
      have HOK := Lib.hid ok
      have HF : Hid (∀ w', Ext w6 w' → Calls Try.prog 43 #[.agg k1] w' fun e w'' => e = .returned (.bool true) ∧ Ext w' w'') := Lib.hid (fun w' hx => by rw [← HE1.out]; exact mright K N g _ n _ w' HMX.out true (iff_of_true rfl (by rw [HN.out]; exact ok)))
      have HG : Hid (∀ w', Ext w6 w' → Calls Try.prog 53 #[.agg k1] w' fun e w'' => e = .returned (.bool true) ∧ Ext w' w'') := Lib.hid (fun w' hx => by rw [← HE1.out]; exact rmright K N g _ n _ w' HMX.out true (iff_of_true rfl (by rw [HN.out]; exact ok)))
      have HPut : Hid (Calls Try.prog 44 #[.agg k3] w6 fun e w' => ∃ v', e = .returned (.tuple #[v', .int .i64 0]) ∧ OwnI .u8 5 w6.heap.size w' v' (mB K N g t) ∧ Ext w6 w') := Lib.hid (by rw [← HE3.out]; exact mput_ok K N g _ t w6 HR3.out ok)
      have HRef : Hid (∀ w', Ext w6 w' → Calls Try.prog 51 #[.agg k1] w' fun e w'' => ∃ v', e = .returned (.tuple #[v', .int .i64 0]) ∧ OwnI .u8 5 w'.heap.size w'' v' (mB K N g t) ∧ Ext w' w'') := Lib.hid (fun w' hx => by rw [← HE1.out]; exact rmput_ok K N g _ t w' (HRR.out.ext (hX6.trans hx)) ok)
      clear ok
      go_wp2_with (refine wpList_load_row rfl 62 _ rfl p3 rfl 62 k3 (0, 0) _ h3r Try.underlying62 rfl hi3 ?_)
      refine HPut.out.mono ?_
      rintro e w7 ⟨v7, rfl, ho7, hx7⟩
      have h1r7 := (Below.block hx7 _ (Array.getElem?_eq_some_iff.1 h1r).1).trans h1r
      go_wp2_with (refine wpList_load_row rfl 62 _ rfl p1 rfl 62 k1 (0, 0) _ h1r7 Try.underlying62 rfl hi1 ?_)
      refine (HRef.out _ hx7).mono ?_
      rintro e w8 ⟨v8, rfl, ho8, hx8⟩
      have hx68 := hx7.trans hx8
      have y1 := (Below.block hx68 _ (Array.getElem?_eq_some_iff.1 h1r).1).trans h1r
      have y3 := (Below.block hx68 _ (Array.getElem?_eq_some_iff.1 h3r).1).trans h3r
      have l1 : p1 < w8.heap.size := (Array.getElem?_eq_some_iff.1 y1).1
      have l3 : p3 < w8.heap.size := (Array.getElem?_eq_some_iff.1 y3).1
      have h7 : RdI .u8 w8 v7 (mB K N g t) := ho7.rd.ext hx8
      have HR7 := Lib.hid h7
      have HSB : Hid (∀ w', Ext w8 w' → Calls Try.prog 19 #[v7, v8] w' fun e w'' => e = .returned (.bool true) ∧ Ext w' w'') := Lib.hid (fun w' hx' => same_eqM _ _ (mB K N g t) w' (h7.ext hx') (ho8.rd.ext hx'))
      have HX68 := Lib.hid hx68
      clear ho7 ho8 hx7 hx8 h7 h1r h3r h1r7 hx68 HPut HRef
      obtain ⟨m, hm⟩ : ∃ m : Nat, m = 11 := ⟨_, rfl⟩
      have hA : sizeOf 62 = szM := rfl
      have hB : ∀ w', szM.run Try.prog w' = .ok m w' := fun w' => by rw [hm]; exact szM_run w'
      have hz1 : k1.size = m := by rw [HK1.out, hm]; rfl
      have hz3 : k3.size = m := by rw [HK3.out, hm]; rfl
      have HM := Lib.hid hm
      clear hm
      go_upto_region 9 with fail
      go_region_held3 (fun w' => w'.heap[p1]? = some (.cells k1 62 (0, 0)) ∧ w'.heap[p3]? = some (.cells k3 62 (0, 0)) ∧ (loadCellsFrom ⟨p1, 0, none⟩ 0 m #[]).run Try.prog w' = .ok k1 w' ∧ (loadCellsFrom ⟨p3, 0, none⟩ 0 m #[]).run Try.prog w' = .ok k3 w' ∧ Ext w8 w') (exact ⟨(Below.block (show Ext w8 _ from (by repeat' (first | (with_reducible exact Ext.refl _) | (with_reducible assumption) | (with_reducible refine Ext.alloc ?_ _) | (with_reducible refine Ext.drewN ?_ _) | (with_reducible refine Ext.drew ?_) | (with_reducible refine Ext.trans ?_ (by assumption))))) _ l1).trans y1, (Below.block (show Ext w8 _ from (by repeat' (first | (with_reducible exact Ext.refl _) | (with_reducible assumption) | (with_reducible refine Ext.alloc ?_ _) | (with_reducible refine Ext.drewN ?_ _) | (with_reducible refine Ext.drew ?_) | (with_reducible refine Ext.trans ?_ (by assumption))))) _ l3).trans y3, lm_row ((Below.block (show Ext w8 _ from (by repeat' (first | (with_reducible exact Ext.refl _) | (with_reducible assumption) | (with_reducible refine Ext.alloc ?_ _) | (with_reducible refine Ext.drewN ?_ _) | (with_reducible refine Ext.drew ?_) | (with_reducible refine Ext.trans ?_ (by assumption))))) _ l1).trans y1) hz1, lm_row ((Below.block (show Ext w8 _ from (by repeat' (first | (with_reducible exact Ext.refl _) | (with_reducible assumption) | (with_reducible refine Ext.alloc ?_ _) | (with_reducible refine Ext.drewN ?_ _) | (with_reducible refine Ext.drew ?_) | (with_reducible refine Ext.trans ?_ (by assumption))))) _ l3).trans y3) hz3, (by repeat' (first | (with_reducible exact Ext.refl _) | (with_reducible assumption) | (with_reducible refine Ext.alloc ?_ _) | (with_reducible refine Ext.drewN ?_ _) | (with_reducible refine Ext.drew ?_) | (with_reducible refine Ext.trans ?_ (by assumption))))⟩)
        (first | (go_at_call 19; refine (HSB.out _ (by repeat' (first | (with_reducible exact Ext.refl _) | (with_reducible assumption) | (with_reducible refine Ext.alloc ?_ _) | (with_reducible refine Ext.drewN ?_ _) | (with_reducible refine Ext.drew ?_) | (with_reducible refine Ext.trans ?_ (by assumption))))).mono ?_; rintro e wC ⟨rfl, hxC⟩) | (go_at_call 52; refine (HS.out _ (HX68.out.trans (by repeat' (first | (with_reducible exact Ext.refl _) | (with_reducible assumption) | (with_reducible refine Ext.alloc ?_ _) | (with_reducible refine Ext.drewN ?_ _) | (with_reducible refine Ext.drew ?_) | (with_reducible refine Ext.trans ?_ (by assumption)))))).mono ?_; rintro e wC ⟨rfl, hxC⟩) | (go_at_call 43; refine (HF.out _ (HX68.out.trans (by repeat' (first | (with_reducible exact Ext.refl _) | (with_reducible assumption) | (with_reducible refine Ext.alloc ?_ _) | (with_reducible refine Ext.drewN ?_ _) | (with_reducible refine Ext.drew ?_) | (with_reducible refine Ext.trans ?_ (by assumption)))))).mono ?_; rintro e wC ⟨rfl, hxC⟩) | (go_at_call 53; refine (HG.out _ (HX68.out.trans (by repeat' (first | (with_reducible exact Ext.refl _) | (with_reducible assumption) | (with_reducible refine Ext.alloc ?_ _) | (with_reducible refine Ext.drewN ?_ _) | (with_reducible refine Ext.drew ?_) | (with_reducible refine Ext.trans ?_ (by assumption)))))).mono ?_; rintro e wC ⟨rfl, hxC⟩))
      have LEN := mB_len HOK.out
      have HRE := Lib.hid (msg_reads HOK.out [])
      clear hA hB y3 l3
      go_wp2_with fail
      refine (mget _ (mB K N g t) _ (HR7.out.ext (by repeat' (first | (with_reducible exact Ext.refl _) | (with_reducible assumption) | (with_reducible refine Ext.alloc ?_ _) | (with_reducible refine Ext.drewN ?_ _) | (with_reducible refine Ext.drew ?_) | (with_reducible refine Ext.trans ?_ (by assumption))))) (mB_bytes HOK.out HT.out) (by omega) 0 (mgout_ok HOK.out)).mono ?_
      rintro e w9 ⟨K', N', g', a9, l9, q9, rfl, himp, hx9⟩
      obtain ⟨hK', hN', hg', hr'⟩ := himp (by first | rfl | trivial)
      have hre := HRE.out
      simp only [List.append_nil] at hre
      have hKK : K' = K := by rw [hK', hre.1]
      subst hKK
      have hNN : ∀ f, 1 ≤ f → f ≤ 8 → N' f = N f := fun f a b => by rw [hN']; exact hre.2.2.2.1 f a b
      have hgg : g' = g := hg'.trans hre.2.2.2.2.1
      subst hgg
      have hr9 : RdI .u8 w9 (.slice a9 l9 q9) t := by have := hr'; rw [hre.2.2.2.2.2] at this; exact this
      obtain ⟨k9, hk9⟩ : ∃ k, k = mrow K' N g' (.slice a9 l9 q9) := ⟨_, rfl⟩
      have hmr : mrow K' N' g' (.slice a9 l9 q9) = mrow K' N g' (.slice a9 l9 q9) := by
        unfold mrow
        rw [hNN 1 (by omega) (by omega), hNN 2 (by omega) (by omega), hNN 3 (by omega) (by omega), hNN 4 (by omega) (by omega), hNN 5 (by omega) (by omega), hNN 6 (by omega) (by omega), hNN 7 (by omega) (by omega), hNN 8 (by omega) (by omega)]
      have e9 : msgV K' N' g' (.slice a9 l9 q9) = .agg k9 := by rw [hk9, ← hmr]; rfl
      have e9' : msgV K' N g' (.slice a9 l9 q9) = .agg k9 := by rw [hk9]; rfl
      have hi9 : (Try.prog.info? 62).map (·.size) = some k9.size := by rw [hk9]; exact msg_info
      have ho9 : k9.all (·.oneCell') = true := by rw [hk9]; exact mrow_one _ _ _ _ _ _
      have hz9 : k9.size = m := by rw [hk9, HM.out]; rfl
      have hz9' : (#[.int .i64 0, .int .i64 0, .int .i64 0, .int .i64 0, .int .i64 0, .int .i64 0, .int .i64 0, .int .i64 0, .int .i64 0, .bool false, .slice none 0 0] : Array Value).size = k9.size := by rw [hk9]; rfl
      have h1r9 := (Below.block (show Ext w8 w9 from (by repeat' (first | (with_reducible exact Ext.refl _) | (with_reducible assumption) | (with_reducible refine Ext.alloc ?_ _) | (with_reducible refine Ext.drewN ?_ _) | (with_reducible refine Ext.drew ?_) | (with_reducible refine Ext.trans ?_ (by assumption))))) _ l1).trans y1
      have hX9 : Ext w w9 := (hX6.trans HX68.out).trans (by repeat' (first | (with_reducible exact Ext.refl _) | (with_reducible assumption) | (with_reducible refine Ext.alloc ?_ _) | (with_reducible refine Ext.drewN ?_ _) | (with_reducible refine Ext.drew ?_) | (with_reducible refine Ext.trans ?_ (by assumption))))
      rw [e9]
      have HR9 := Lib.hid hr9
      have HE9 := Lib.hid e9'
      clear hre hK' hN' hg' hr' himp hr9 hk9 e9 e9' LEN y1 l1 HRE hNN hmr
      have h8r : (w9.alloc (.cells #[.int .i64 0, .int .i64 0, .int .i64 0, .int .i64 0, .int .i64 0, .int .i64 0, .int .i64 0, .int .i64 0, .int .i64 0, .bool false, .slice none 0 0] 62)).heap[w9.heap.size]? = some (.cells #[.int .i64 0, .int .i64 0, .int .i64 0, .int .i64 0, .int .i64 0, .int .i64 0, .int .i64 0, .int .i64 0, .int .i64 0, .bool false, .slice none 0 0] 62 (0, 0)) := heap_alloc_new w9 _
      go_upto_region 14 with (refine wpList_store_row rfl 62 _ _ rfl w9.heap.size k9 rfl rfl 62 _ h8r hi9 hz9' ho9 ?_)
      have h8s := setRow_heap _ _ _ k9 _ _ h8r
      have hl1 : p1 < w9.heap.size := (Array.getElem?_eq_some_iff.1 h1r9).1
      have h1s : ((w9.alloc (.cells #[.int .i64 0, .int .i64 0, .int .i64 0, .int .i64 0, .int .i64 0, .int .i64 0, .int .i64 0, .int .i64 0, .int .i64 0, .bool false, .slice none 0 0] 62)).setRow w9.heap.size k9).heap[p1]? = some (.cells k1 62 (0, 0)) := (setRow_other _ _ _ _ (by omega)).trans ((Below.heap_alloc w9 _ _ hl1).trans h1r9)
      have hx9s : Ext w9 ((w9.alloc (.cells #[.int .i64 0, .int .i64 0, .int .i64 0, .int .i64 0, .int .i64 0, .int .i64 0, .int .i64 0, .int .i64 0, .int .i64 0, .bool false, .slice none 0 0] 62)).setRow w9.heap.size k9) := below_setRow ((Ext.refl w9).alloc _) (Nat.le_refl _) _
      obtain ⟨p8, hp8⟩ : ∃ p, p = w9.heap.size := ⟨_, rfl⟩
      rw [← hp8] at h8s h1s hx9s ⊢
      clear h8r h1r9 hl1 hp8
      generalize ((w9.alloc (.cells #[.int .i64 0, .int .i64 0, .int .i64 0, .int .i64 0, .int .i64 0, .int .i64 0, .int .i64 0, .int .i64 0, .int .i64 0, .bool false, .slice none 0 0] 62)).setRow p8 k9) = w10 at *
      have HS9 : Hid (Calls Try.prog 52 #[.agg k9, .agg k1] w10 fun e w'' => e = .returned (.bool true) ∧ Ext w10 w'') := Lib.hid (by rw [← HE1.out, ← HE9.out]; exact rmsame K' N g' _ _ t w10 (HR9.out.ext hx9s) (HRR.out.ext (hX9.trans hx9s)))
      have hA : sizeOf 62 = szM := rfl
      have hB : ∀ w', szM.run Try.prog w' = .ok m w' := fun w' => by rw [HM.out]; exact szM_run w'
      have f1 : (loadCellsFrom ⟨p1, 0, none⟩ 0 m #[]).run Try.prog w10 = .ok k1 w10 := lm_row h1s hz1
      have f8 : (loadCellsFrom ⟨p8, 0, none⟩ 0 m #[]).run Try.prog w10 = .ok k9 w10 := lm_row h8s hz9
      clear h1s h8s
      go_wp2_with fail
      refine HS9.out.mono ?_
      rintro e w11 ⟨rfl, hx11⟩
      clear hA hB f1 f8
      go_wp2_with fail
      go_ret
      exact ⟨rfl, (hX9.trans hx9s).trans hx11⟩
    · have HF : Hid (∀ w', Ext w6 w' → Calls Try.prog 43 #[.agg k1] w' fun e w'' => e = .returned (.bool false) ∧ Ext w' w'') := Lib.hid (fun w' hx => by rw [← HE1.out]; exact mright K N g _ n _ w' HMX.out false (by simpa using ok))
      have HG : Hid (∀ w', Ext w6 w' → Calls Try.prog 53 #[.agg k1] w' fun e w'' => e = .returned (.bool false) ∧ Ext w' w'') := Lib.hid (fun w' hx => by rw [← HE1.out]; exact rmright K N g _ n _ w' HMX.out false (by simpa using ok))
      have HPut : Hid (Calls Try.prog 44 #[.agg k3] w6 fun e w' => e = .returned (.tuple #[.slice none 0 0, .int .i64 6]) ∧ Ext w6 w') := Lib.hid (by rw [← HE3.out]; exact mput_bad K N g _ n _ w6 HMX.out ok)
      have HRef : Hid (∀ w', Ext w6 w' → Calls Try.prog 51 #[.agg k1] w' fun e w'' => e = .returned (.tuple #[.slice none 0 0, .int .i64 6]) ∧ Ext w' w'') := Lib.hid (fun w' hx => by rw [← HE1.out]; exact rmput_bad K N g _ n _ w' HMX.out ok)
      clear ok
      go_wp2_with (refine wpList_load_row rfl 62 _ rfl p3 rfl 62 k3 (0, 0) _ h3r Try.underlying62 rfl hi3 ?_)
      refine HPut.out.mono ?_
      rintro e w7 ⟨rfl, hx7⟩
      have h1r7 := (Below.block hx7 _ (Array.getElem?_eq_some_iff.1 h1r).1).trans h1r
      go_wp2_with (refine wpList_load_row rfl 62 _ rfl p1 rfl 62 k1 (0, 0) _ h1r7 Try.underlying62 rfl hi1 ?_)
      refine (HRef.out _ hx7).mono ?_
      rintro e w8 ⟨rfl, hx8⟩
      have hx68 := hx7.trans hx8
      have y1 := (Below.block hx68 _ (Array.getElem?_eq_some_iff.1 h1r).1).trans h1r
      have y3 := (Below.block hx68 _ (Array.getElem?_eq_some_iff.1 h3r).1).trans h3r
      have l1 : p1 < w8.heap.size := (Array.getElem?_eq_some_iff.1 y1).1
      have l3 : p3 < w8.heap.size := (Array.getElem?_eq_some_iff.1 y3).1
      have HSB : Hid (∀ w', Ext w8 w' → Calls Try.prog 19 #[.slice none 0 0, .slice none 0 0] w' fun e w'' => e = .returned (.bool true) ∧ Ext w' w'') := Lib.hid (fun w' hx' => same_eqM _ _ [] w' (RdI.nil .u8 w') (RdI.nil .u8 w'))
      have HX68 := Lib.hid hx68
      clear hx7 hx8 h1r h3r h1r7 hx68 HPut HRef
      obtain ⟨m, hm⟩ : ∃ m : Nat, m = 11 := ⟨_, rfl⟩
      have hA : sizeOf 62 = szM := rfl
      have hB : ∀ w', szM.run Try.prog w' = .ok m w' := fun w' => by rw [hm]; exact szM_run w'
      have hz1 : k1.size = m := by rw [HK1.out, hm]; rfl
      have hz3 : k3.size = m := by rw [HK3.out, hm]; rfl
      clear hm
      go_upto_region 9 with fail
      go_region_held3 (fun w' => w'.heap[p1]? = some (.cells k1 62 (0, 0)) ∧ w'.heap[p3]? = some (.cells k3 62 (0, 0)) ∧ (loadCellsFrom ⟨p1, 0, none⟩ 0 m #[]).run Try.prog w' = .ok k1 w' ∧ (loadCellsFrom ⟨p3, 0, none⟩ 0 m #[]).run Try.prog w' = .ok k3 w' ∧ Ext w8 w') (exact ⟨(Below.block (show Ext w8 _ from (by repeat' (first | (with_reducible exact Ext.refl _) | (with_reducible assumption) | (with_reducible refine Ext.alloc ?_ _) | (with_reducible refine Ext.drewN ?_ _) | (with_reducible refine Ext.drew ?_) | (with_reducible refine Ext.trans ?_ (by assumption))))) _ l1).trans y1, (Below.block (show Ext w8 _ from (by repeat' (first | (with_reducible exact Ext.refl _) | (with_reducible assumption) | (with_reducible refine Ext.alloc ?_ _) | (with_reducible refine Ext.drewN ?_ _) | (with_reducible refine Ext.drew ?_) | (with_reducible refine Ext.trans ?_ (by assumption))))) _ l3).trans y3, lm_row ((Below.block (show Ext w8 _ from (by repeat' (first | (with_reducible exact Ext.refl _) | (with_reducible assumption) | (with_reducible refine Ext.alloc ?_ _) | (with_reducible refine Ext.drewN ?_ _) | (with_reducible refine Ext.drew ?_) | (with_reducible refine Ext.trans ?_ (by assumption))))) _ l1).trans y1) hz1, lm_row ((Below.block (show Ext w8 _ from (by repeat' (first | (with_reducible exact Ext.refl _) | (with_reducible assumption) | (with_reducible refine Ext.alloc ?_ _) | (with_reducible refine Ext.drewN ?_ _) | (with_reducible refine Ext.drew ?_) | (with_reducible refine Ext.trans ?_ (by assumption))))) _ l3).trans y3) hz3, (by repeat' (first | (with_reducible exact Ext.refl _) | (with_reducible assumption) | (with_reducible refine Ext.alloc ?_ _) | (with_reducible refine Ext.drewN ?_ _) | (with_reducible refine Ext.drew ?_) | (with_reducible refine Ext.trans ?_ (by assumption))))⟩)
        (first | (go_at_call 19; refine (HSB.out _ (by repeat' (first | (with_reducible exact Ext.refl _) | (with_reducible assumption) | (with_reducible refine Ext.alloc ?_ _) | (with_reducible refine Ext.drewN ?_ _) | (with_reducible refine Ext.drew ?_) | (with_reducible refine Ext.trans ?_ (by assumption))))).mono ?_; rintro e wC ⟨rfl, hxC⟩) | (go_at_call 52; refine (HS.out _ (HX68.out.trans (by repeat' (first | (with_reducible exact Ext.refl _) | (with_reducible assumption) | (with_reducible refine Ext.alloc ?_ _) | (with_reducible refine Ext.drewN ?_ _) | (with_reducible refine Ext.drew ?_) | (with_reducible refine Ext.trans ?_ (by assumption)))))).mono ?_; rintro e wC ⟨rfl, hxC⟩) | (go_at_call 43; refine (HF.out _ (HX68.out.trans (by repeat' (first | (with_reducible exact Ext.refl _) | (with_reducible assumption) | (with_reducible refine Ext.alloc ?_ _) | (with_reducible refine Ext.drewN ?_ _) | (with_reducible refine Ext.drew ?_) | (with_reducible refine Ext.trans ?_ (by assumption)))))).mono ?_; rintro e wC ⟨rfl, hxC⟩) | (go_at_call 53; refine (HG.out _ (HX68.out.trans (by repeat' (first | (with_reducible exact Ext.refl _) | (with_reducible assumption) | (with_reducible refine Ext.alloc ?_ _) | (with_reducible refine Ext.drewN ?_ _) | (with_reducible refine Ext.drew ?_) | (with_reducible refine Ext.trans ?_ (by assumption)))))).mono ?_; rintro e wC ⟨rfl, hxC⟩))
      all_goals
        clear hA hB
        go_wp2_with fail
        go_ret
        exact ⟨rfl, (hX6.trans HX68.out).trans (by repeat' (first | (with_reducible exact Ext.refl _) | (with_reducible assumption) | (with_reducible refine Ext.alloc ?_ _) | (with_reducible refine Ext.drewN ?_ _) | (with_reducible refine Ext.drew ?_) | (with_reducible refine Ext.trans ?_ (by assumption))))⟩
  · have h20' : ¬ (n : Int) ≤ 300 := by omega
    go_enter Try.func15, Try.ntmps15
    go_wp2_with fail
    refine (wakes04 _).mono ?_
    rintro e w1 ⟨rfl, hx1⟩
    have c16 := hx1.cellv (cell_new w #[.int .i64 K, .int .i64 (N 1), .int .i64 (N 2), .int .i64 (N 3), .int .i64 (N 4), .int .i64 (N 5), .int .i64 (N 6), .int .i64 (N 7), .int .i64 (N 8), .bool g, .slice a n c] 62 (0, 0) (j := 10) rfl)
    go_wp2_with fail
    go_ret
    exact ⟨rfl, (by repeat' (first | (with_reducible exact Ext.refl _) | (with_reducible assumption) | (with_reducible refine Ext.alloc ?_ _) | (with_reducible refine Ext.drewN ?_ _) | (with_reducible refine Ext.drew ?_) | (with_reducible refine Ext.trans ?_ (by assumption))))⟩
end Go.Proofs.Ytmkobmkaalfecaa
