/-
  The insertion sort of a piece of a row of places, over wide.Order's comparison. No condition but that the row is there, and the fractions read, and are right.
-/
import Derived.Test.YthoioocfembkgaaWoRow
namespace Go.Proofs.Ythoioocfembkgaa
open Go.RowKit

/-- one is on its way to its place -/
structure InF (T B : Nat → Int) (X Z : Nat → Nat) (a i j : Nat) : Prop where
  srt : SrtF T B Z a i
  frm : FrmF X Z a i
  id : ∀ k, a ≤ k → X k = k
  aj : a ≤ j
  ji : j ≤ i
  dl : ∀ p, j ≤ p → p < i → dl T B (Z i) (Z p)
section
variable {T B : Nat → Int} {X Z : Nat → Nat} {a i j : Nat}
theorem InF.zi (h : InF T B X Z a i j) : Z i = i := by
  rw [h.frm.out i (by omega)]; exact h.id i (Nat.le_trans h.aj h.ji)
theorem InF.lt (h : InF T B X Z a i j) {p : Nat} (h1 : a ≤ p) (h2 : p < i) : Z p < Z i := by
  obtain ⟨l, l1, l2, e⟩ := h.frm.inn p h1 h2
  rw [e, h.zi, h.id l l1]; exact l2
theorem InF.done (hB : ∀ i, 0 < B i) (h : InF T B X Z a i j) (hd : ∀ k, j = k + 1 → a ≤ k → ¬ Go.Proofs.Ythoioocfembkgaa.dl T B (Z i) (Z k)) : SrtF T B (mvR Z i j) a (i + 1) ∧ FrmF X (mvR Z i j) a (i + 1) := by
  refine ⟨srt_mvR h.srt h.aj h.ji (fun p p1 p2 => ?_) (fun p p1 p2 => .inl (h.dl p p1 p2)), (h.frm.mono (Nat.le_refl _) (Nat.le_succ _)).trans (frm_mvR Z h.aj h.ji)⟩
  obtain ⟨k, rfl⟩ : ∃ k, j = k + 1 := ⟨j - 1, by omega⟩
  have hk := h.ji
  have hl : bf T B (Z k) (Z i) := .inr ⟨hd k rfl (by omega), h.lt (by omega) (by omega)⟩
  by_cases e : p = k
  · rw [e]; exact hl
  · exact bf_tr hB (h.srt p k p1 (by omega) (by omega)) hl
theorem InF.step {k : Nat} (h : InF T B X Z a i (k + 1)) (hk : a ≤ k) (hd : Go.Proofs.Ythoioocfembkgaa.dl T B (Z i) (Z k)) : InF T B X Z a i k :=
  ⟨h.srt, h.frm, h.id, hk, Nat.le_trans (Nat.le_succ _) h.ji, fun p p1 p2 => by
    by_cases e : p = k
    · rw [e]; exact hd
    · exact h.dl p (by omega) p2⟩
end

set_option maxRecDepth 100000 in
set_option maxHeartbeats 8000000 in
theorem wo_ins (pl g n c a b : Nat) (T B : Nat → Int) (X : Nat → Nat) (w : World) (ha : ArF w g n X) (hB : ∀ i, 0 < B i) (hb : b ≤ n) (hn : n ≤ 1000) (haN : a ≤ 1000) (hX : ∀ k, a ≤ k → X k = k) (hF : ∀ w', Chg [g] w w' → FrAt w' pl n T B) :
    Calls Try.prog 22 #[.slice (some ⟨g, 0, none⟩) n c, .int .i64 a, .int .i64 b, .func (.func 14) #[] #[.pointer (some ⟨pl, 0, none⟩)]] w fun e w' => e = .returned (.tuple #[]) ∧ (∃ Z, SrtF T B Z a b ∧ FrmF X Z a b ∧ ArF w' g n Z) ∧ Chg [g] w w' := by
  have HA := Lib.hid ha
  have HF := Lib.hid hF
  have HB := Lib.hid hB
  have HX := Lib.hid hX
  have HBN := Lib.hid hb
  have HN := Lib.hid hn
  have hn1 : (n : Int) ≤ 1000 := by omega
  have ha0 : (0 : Int) ≤ (a : Int) := by omega
  have ha1 : (a : Int) ≤ 1000 := by omega
  have hb1 : (b : Int) ≤ 1000 := by omega
  obtain ⟨a', hA'⟩ : ∃ a', a' = a + 1 := ⟨_, rfl⟩
  have hwa : IntKind.i64.wrap ((a : Int) + 1) = (a' : Int) := by rw [IntKind.wrap_i64]; omega
  have HA1 := Lib.hid hA'
  clear ha hF hB hX hb hn hA' haN
  go_enter Try.func22, Try.ntmps22
  go_wp2_with fail
  go_loopw [8] (fun ci wr => ∃ i : Nat, ci = .int .i64 i ∧ a + 1 ≤ i ∧ (i ≤ b ∨ i = a + 1) ∧ Hid (∃ Z, (a < b → SrtF T B Z a i ∧ FrmF X Z a i) ∧ (¬ a < b → Z = X) ∧ ArF wr g n Z) ∧ Hid (Chg [g] w wr)) (fun ci _ => b - (intOf ci).toNat)
  case atStart => exact ⟨a', rfl, by rw [HA1.out]; exact Nat.le_refl _, .inr HA1.out, Lib.hid ⟨X, fun _ => ⟨fun i j i1 i2 i3 => by have := HA1.out; omega, FrmF.refl X _ _⟩, fun _ => rfl, HA.out⟩, Lib.hid (Chg.refl _ _)⟩
  case round =>
    clear hwa HA1 HA
    obtain ⟨i, rfl, hi1, hi2, HM, HC⟩ := hrel
    by_cases hlt : i < b
    · have hii : (i : Int) < (b : Int) := by omega
      have hin : i < n := Nat.lt_of_lt_of_le hlt HBN.out
      obtain ⟨Z, hZ, _, hZa⟩ := HM.out
      obtain ⟨z1, z2⟩ := hZ (by omega)
      have HST : Hid (InF T B X Z a i i ∧ ArF wr g n (mvR Z i i)) := Lib.hid ⟨⟨z1, z2, HX.out, by omega, Nat.le_refl _, fun p p1 p2 => by omega⟩, hZa.eq (mvR_self Z i).symm⟩
      have HIN := Lib.hid hin
      clear hZ hZa z1 z2 HM hin
      go_wp2_with fail
      go_loopw [9] (fun cj ws => ∃ j : Nat, cj = .int .i64 j ∧ Hid (InF T B X Z a i j ∧ ArF ws g n (mvR Z i j)) ∧ Hid (Chg [g] w ws)) (fun cj _ => (intOf cj).toNat)
      case atStart => exact ⟨i, rfl, HST.out, HC⟩
      case round =>
        clear HST HC
        obtain ⟨j, rfl, HM, HC⟩ := hrel
        obtain ⟨hI, hMa⟩ := HM.out
        have hji := hI.ji
        have haj := hI.aj
        have hin := HIN.out
        by_cases hja : a < j
        · obtain ⟨k, rfl⟩ : ∃ k, j = k + 1 := ⟨j - 1, by omega⟩
          have hz : decide ((a : Int) < (k : Int) + 1) = true := decide_eq_true (by omega)
          have hz2 : (a : Int) < (k : Int) + 1 := by omega
          have hj1n : k + 1 < n := by omega
          have hj0n : k < n := by omega
          have x0 := hMa.cell hj1n
          have y0 := hMa.cell hj0n
          rw [mvR_at Z (by omega)] at x0
          rw [mvR_lo Z (by omega) (by omega)] at y0
          have hxn := hMa.ok _ hj1n
          rw [mvR_at Z (by omega)] at hxn
          have hyn := hMa.ok _ hj0n
          rw [mvR_lo Z (by omega) (by omega)] at hyn
          have hj1 : (k : Int) + 1 < (n : Int) := by omega
          have hjj : (k : Int) < (n : Int) := by omega
          have hj0 : (0 : Int) ≤ (k : Int) + 1 := by omega
          have hw0 : IntKind.i64.wrap (k : Int) = (k : Int) := by rw [IntKind.wrap_i64]; omega
          have hw1 : IntKind.i64.wrap ((k : Int) + 1 - 1) = (k : Int) := by rw [IntKind.wrap_i64]; omega
          have f1 := hMa.free (k + 1)
          have f0 := hMa.free k
          have hsw : dl T B (Z i) (Z k) → InF T B X Z a i k := fun hd => hI.step (by omega) hd
          have hdn : ¬ dl T B (Z i) (Z k) → SrtF T B (mvR Z i (k + 1)) a (i + 1) ∧ FrmF X (mvR Z i (k + 1)) a (i + 1) := fun hd => hI.done HB.out (fun m hm _ => by obtain rfl : k = m := (by omega); exact hd)
          have hup : ∀ w', Swp wr w' g n (mvR Z i (k + 1)) (k + 1) k → ArF w' g n (mvR Z i k) := fun w' hs => hs.ar.eq (by rw [mvR_at Z (by omega), mvR_lo Z (by omega) (by omega)]; exact mvR_step Z (by omega))
          have HKC := Lib.hid (fun w' (hx : Ext wr w') => kcmp pl n T B (Z i) (Z k) w' ((HF.out _ HC.out).ext hx) hxn hyn)
          obtain ⟨x, hx⟩ : ∃ x, x = Z i := ⟨_, rfl⟩
          obtain ⟨y, hy⟩ : ∃ y, y = Z k := ⟨_, rfl⟩
          rw [← hx] at x0 HKC hsw hdn
          rw [← hy] at y0 HKC hsw hdn
          have hxe : x = mvR Z i (k + 1) (k + 1) := by rw [mvR_at Z (by omega)]; exact hx
          have hye : y = mvR Z i (k + 1) k := by rw [mvR_lo Z (by omega) (by omega)]; exact hy
          have HXE := Lib.hid hxe
          have HYE := Lib.hid hye
          have HSW := Lib.hid hsw
          have HDN := Lib.hid hdn
          have HUP := Lib.hid hup
          have HMA := Lib.hid hMa
          have HJ1 := Lib.hid hj1n
          have HJ0 := Lib.hid hj0n
          clear hsw hdn hup hx hy hxe hye hxn hyn hI hMa HM hj1n hj0n hji haj hin hja
          by_cases hd : dl T B x y
          · have HD := Lib.hid hd
            have HKT : Hid (∀ w', Ext wr w' → Calls Try.prog 14 #[.int .i64 x, .int .i64 y, .pointer (some ⟨pl, 0, none⟩)] w' fun e w'' => ∃ r : Int, e = .returned (.int .i64 r) ∧ decide (r < 0) = true ∧ Ext w' w'') := Lib.hid (fun w' hx => (HKC.out w' hx).mono (by rintro e w'' ⟨r, he, hr, hx⟩; exact ⟨r, he, by rw [hr]; exact decide_eq_true hd, hx⟩))
            clear hd HKC
            go_upto_region 4 with fail
            go_region_held3 (fun w' => w'.cell? ⟨g, k + 1, none⟩ = some (.int .i64 x) ∧ w'.cell? ⟨g, k, none⟩ = some (.int .i64 y) ∧ Ext wr w') (exact ⟨Ext.cellv (w := wr) (by repeat' (first | (with_reducible exact Ext.refl _) | (with_reducible assumption) | (with_reducible refine Ext.alloc ?_ _) | (with_reducible refine Ext.drewN ?_ _) | (with_reducible refine Ext.drew ?_) | (with_reducible refine Ext.trans ?_ (by assumption)))) x0, Ext.cellv (w := wr) (by repeat' (first | (with_reducible exact Ext.refl _) | (with_reducible assumption) | (with_reducible refine Ext.alloc ?_ _) | (with_reducible refine Ext.drewN ?_ _) | (with_reducible refine Ext.drew ?_) | (with_reducible refine Ext.trans ?_ (by assumption)))) y0, (by repeat' (first | (with_reducible exact Ext.refl _) | (with_reducible assumption) | (with_reducible refine Ext.alloc ?_ _) | (with_reducible refine Ext.drewN ?_ _) | (with_reducible refine Ext.drew ?_) | (with_reducible refine Ext.trans ?_ (by assumption))))⟩) (first | (go_at_call 14; refine (HKT.out _ (by repeat' (first | (with_reducible exact Ext.refl _) | (with_reducible assumption) | (with_reducible refine Ext.alloc ?_ _) | (with_reducible refine Ext.drewN ?_ _) | (with_reducible refine Ext.drew ?_) | (with_reducible refine Ext.trans ?_ (by assumption))))).mono ?_; rintro e wA ⟨r, rfl, hr, hxA⟩))
            all_goals
              have x0' := Ext.cellv (w := wr) (w' := wA) (by repeat' (first | (with_reducible exact Ext.refl _) | (with_reducible assumption) | (with_reducible refine Ext.alloc ?_ _) | (with_reducible refine Ext.drewN ?_ _) | (with_reducible refine Ext.drew ?_) | (with_reducible refine Ext.trans ?_ (by assumption)))) x0
              have y0' := Ext.cellv (w := wr) (w' := wA) (by repeat' (first | (with_reducible exact Ext.refl _) | (with_reducible assumption) | (with_reducible refine Ext.alloc ?_ _) | (with_reducible refine Ext.drewN ?_ _) | (with_reducible refine Ext.drew ?_) | (with_reducible refine Ext.trans ?_ (by assumption)))) y0
              have f1' := (HMA.out.ext (w' := wA) (by repeat' (first | (with_reducible exact Ext.refl _) | (with_reducible assumption) | (with_reducible refine Ext.alloc ?_ _) | (with_reducible refine Ext.drewN ?_ _) | (with_reducible refine Ext.drew ?_) | (with_reducible refine Ext.trans ?_ (by assumption))))).free (k + 1)
              have f0' := (HMA.out.ext (w' := wA) (by repeat' (first | (with_reducible exact Ext.refl _) | (with_reducible assumption) | (with_reducible refine Ext.alloc ?_ _) | (with_reducible refine Ext.drewN ?_ _) | (with_reducible refine Ext.drew ?_) | (with_reducible refine Ext.trans ?_ (by assumption))))).free k
              have hxw : Ext wr wA := (by repeat' (first | (with_reducible exact Ext.refl _) | (with_reducible assumption) | (with_reducible refine Ext.alloc ?_ _) | (with_reducible refine Ext.drewN ?_ _) | (with_reducible refine Ext.drew ?_) | (with_reducible refine Ext.trans ?_ (by assumption))))
              clear x0 y0 f1 f0
              go_wp2_with fail
              go_region_with (fail)
              all_goals
                go_wp2_with fail
                go_roundw
                case rel =>
                  have hpre : ∀ w', Swp wA w' g n (mvR Z i (k + 1)) (k + 1) k → InF T B X Z a i k ∧ ArF w' g n (mvR Z i k) ∧ Chg [g] w w' := fun w' hs => ⟨HSW.out HD.out, HUP.out w' ⟨hs.ar, (Chg.of_ext hxw).trans hs.ch⟩, HC.out.trans ((Chg.of_ext hxw).trans hs.ch)⟩
                  have HPRE := Lib.hid hpre
                  have hma := HMA.out.ext hxw
                  refine ⟨k, by go_num, Lib.hid ⟨(HPRE.out _ ?s).1, (HPRE.out _ ?s).2.1⟩, Lib.hid (HPRE.out _ ?s).2.2⟩
                  case s => (first | exact (swp_pq hma (Ext.refl _) HJ1.out HJ0.out HXE.out HYE.out).ext (Ext.refl _).drew | exact (swp_qp hma (Ext.refl _) HJ1.out HJ0.out (Nat.succ_ne_self k) HXE.out HYE.out).ext (Ext.refl _).drew | exact swp_pq hma (Ext.refl _) HJ1.out HJ0.out HXE.out HYE.out | exact swp_qp hma (Ext.refl _) HJ1.out HJ0.out (Nat.succ_ne_self k) HXE.out HYE.out)
                case measure => simp [intOf]
          · have HD := Lib.hid hd
            have HKT : Hid (∀ w', Ext wr w' → Calls Try.prog 14 #[.int .i64 x, .int .i64 y, .pointer (some ⟨pl, 0, none⟩)] w' fun e w'' => ∃ r : Int, e = .returned (.int .i64 r) ∧ decide (r < 0) = false ∧ Ext w' w'') := Lib.hid (fun w' hx => (HKC.out w' hx).mono (by rintro e w'' ⟨r, he, hr, hx⟩; exact ⟨r, he, by rw [hr]; exact decide_eq_false hd, hx⟩))
            clear hd HKC
            go_upto_region 4 with fail
            go_region_held3 (fun w' => w'.cell? ⟨g, k + 1, none⟩ = some (.int .i64 x) ∧ w'.cell? ⟨g, k, none⟩ = some (.int .i64 y) ∧ Ext wr w') (exact ⟨Ext.cellv (w := wr) (by repeat' (first | (with_reducible exact Ext.refl _) | (with_reducible assumption) | (with_reducible refine Ext.alloc ?_ _) | (with_reducible refine Ext.drewN ?_ _) | (with_reducible refine Ext.drew ?_) | (with_reducible refine Ext.trans ?_ (by assumption)))) x0, Ext.cellv (w := wr) (by repeat' (first | (with_reducible exact Ext.refl _) | (with_reducible assumption) | (with_reducible refine Ext.alloc ?_ _) | (with_reducible refine Ext.drewN ?_ _) | (with_reducible refine Ext.drew ?_) | (with_reducible refine Ext.trans ?_ (by assumption)))) y0, (by repeat' (first | (with_reducible exact Ext.refl _) | (with_reducible assumption) | (with_reducible refine Ext.alloc ?_ _) | (with_reducible refine Ext.drewN ?_ _) | (with_reducible refine Ext.drew ?_) | (with_reducible refine Ext.trans ?_ (by assumption))))⟩) (first | (go_at_call 14; refine (HKT.out _ (by repeat' (first | (with_reducible exact Ext.refl _) | (with_reducible assumption) | (with_reducible refine Ext.alloc ?_ _) | (with_reducible refine Ext.drewN ?_ _) | (with_reducible refine Ext.drew ?_) | (with_reducible refine Ext.trans ?_ (by assumption))))).mono ?_; rintro e wA ⟨r, rfl, hr, hxA⟩))
            all_goals
              go_wp2_with fail
              go_roundw
              case rel => exact ⟨i + 1, by go_num, by omega, .inl (by omega), Lib.hid ⟨_, fun _ => HDN.out HD.out, fun h => by omega, HMA.out.ext (by repeat' (first | (with_reducible exact Ext.refl _) | (with_reducible assumption) | (with_reducible refine Ext.alloc ?_ _) | (with_reducible refine Ext.drewN ?_ _) | (with_reducible refine Ext.drew ?_) | (with_reducible refine Ext.trans ?_ (by assumption))))⟩, Lib.hid (HC.out.ext (by repeat' (first | (with_reducible exact Ext.refl _) | (with_reducible assumption) | (with_reducible refine Ext.alloc ?_ _) | (with_reducible refine Ext.drewN ?_ _) | (with_reducible refine Ext.drew ?_) | (with_reducible refine Ext.trans ?_ (by assumption)))))⟩
              case measure => simp [intOf]; omega
        · obtain rfl : j = a := by omega
          have hz : decide ((j : Int) < (j : Int)) = false := decide_eq_false (by omega)
          have hz2 : ¬ (j : Int) < (j : Int) := by omega
          have hend := hI.done HB.out (fun k hk h => by omega)
          have HE := Lib.hid hend
          have HMA := Lib.hid hMa
          clear hend hI hMa HM hji haj hin hja
          go_wp2_with fail
          go_quiet (fail)
          go_wp2_with fail
          go_roundw
          case rel => exact ⟨i + 1, by go_num, by omega, .inl (by omega), Lib.hid ⟨_, fun _ => HE.out, fun h => by omega, HMA.out.ext (by repeat' (first | (with_reducible exact Ext.refl _) | (with_reducible assumption) | (with_reducible refine Ext.alloc ?_ _) | (with_reducible refine Ext.drewN ?_ _) | (with_reducible refine Ext.drew ?_) | (with_reducible refine Ext.trans ?_ (by assumption))))⟩, Lib.hid (HC.out.ext (by repeat' (first | (with_reducible exact Ext.refl _) | (with_reducible assumption) | (with_reducible refine Ext.alloc ?_ _) | (with_reducible refine Ext.drewN ?_ _) | (with_reducible refine Ext.drew ?_) | (with_reducible refine Ext.trans ?_ (by assumption)))))⟩
          case measure => simp [intOf]; omega
    · go_wp2_with fail
      go_end0
      obtain ⟨Z, hZ, hz, hMa⟩ := HM.out
      refine ⟨rfl, ?_, HC.out⟩
      by_cases e : a < b
      · obtain rfl : i = b := by omega
        exact ⟨Z, (hZ e).1, (hZ e).2, hMa⟩
      · exact ⟨Z, fun i j _ _ _ => by omega, by rw [hz e]; exact FrmF.refl X _ _, hMa⟩
end Go.Proofs.Ythoioocfembkgaa
