/-
  gradineref04.Right of any message. No condition but that the data is a slice.
-/
import Derived.Test.YtmkobmkaalfecaaRMsg
import Derived.Test.YtmkobmkaalfecaaMsOk
import Derived.Deep.RegionLaw
import Derived.BigQuiet
import Derived.Deep.QuietTactic
import Derived.Deep.RegionHeld3
namespace Go.Proofs.Ytmkobmkaalfecaa
open Go.RowKit

theorem fOk_num {K : Int} {N : Nat → Int} {g : Bool} {n f : Nat} (h8 : f ≤ 8) : fOk K N g n f = (decide (0 ≤ N f ∧ N f ≤ mostF f) && (nmd K f || decide (N f = 0))) := by
  unfold fOk fRight fZero
  rw [if_neg (by omega), if_neg (by omega), if_neg (by omega), if_neg (by omega)]
set_option maxRecDepth 100000 in
set_option maxHeartbeats 40000000 in
theorem rmright (K : Int) (N : Nat → Int) (g : Bool) (a : Option Addr) (n c : Nat) (w : World) (hn : n ≤ maxLen) (r : Bool) (hr : r = true ↔ MOk K N g n) :
    Calls Try.prog 53 #[msgV K N g (.slice a n c)] w fun e w' => e = .returned (.bool r) ∧ Ext w w' := by
  have HR := Lib.hid hr
  have hn63 : (n : Int) ≤ 9223372036854775807 := by unfold maxLen at hn; omega
  have HNB := Lib.hid (fun w => rnumbers K N g a n c w)
  clear hr hn
  unfold msgV mrow at HNB ⊢
  go_enter Try.func53, Try.ntmps53
  go_wp2_with fail
  have HM := msg_new w K N g (.slice a n c)
  have hX0 : Ext w (w.alloc (.cells (mrow K N g (.slice a n c)) 62)) := (by repeat' (first | (with_reducible exact Ext.refl _) | (with_reducible assumption) | (with_reducible refine Ext.alloc ?_ _) | (with_reducible refine Ext.drewN ?_ _) | (with_reducible refine Ext.drew ?_) | (with_reducible refine Ext.trans ?_ (by assumption))))
  unfold mrow at HM hX0
  generalize (w.alloc (.cells #[.int .i64 K, .int .i64 (N 1), .int .i64 (N 2), .int .i64 (N 3), .int .i64 (N 4), .int .i64 (N 5), .int .i64 (N 6), .int .i64 (N 7), .int .i64 (N 8), .bool g, .slice a n c] 62)) = w0 at *
  obtain ⟨p, hp⟩ : ∃ p, p = w.heap.size := ⟨_, rfl⟩
  rw [← hp] at HM ⊢
  clear hp
  have c0 := HM.kind
  go_wp2_with fail
  refine (rfields K _).mono ?_
  rintro e w1 ⟨v1, rfl, hr1, hx1⟩
  have HM1 := HM.ext hx1
  have hX1 := hX0.trans hx1
  obtain ⟨a1, q1, hv1, _, hm1, _, hc1⟩ := hr1.parts
  rw [zints_len] at hv1
  have hle := fields_le K
  have hpos := fields_pos' (kindN K) (kindN_lt K)
  have HF1 := Lib.hid hr1
  obtain ⟨m, hm⟩ : ∃ m, m = (fieldsOf K).length := ⟨_, rfl⟩
  have hpos : 0 < m ↔ kindN K ≠ 0 := by rw [hm]; exact hpos
  rw [← hm] at hv1 hle
  have HME := Lib.hid hm
  subst hv1
  clear c0 hr1 hc1 hm hx1 hX0 HM hm1
  by_cases hz : m = 0
  · subst hz
    have hrf : r = false := by
      rw [Bool.eq_false_iff]; intro h
      have := (HR.out.1 h).1
      exact absurd (hpos.2 this) (by omega)
    have HRF := Lib.hid hrf
    clear hrf hpos
    go_wp2_with fail
    go_ret
    exact ⟨ret_bool HRF.out.symm, hX1⟩
  · have hk : kindN K ≠ 0 := hpos.1 (by omega)
    have HK := Lib.hid hk
    have hmb : ((m : Int) == 0) = false := by rw [beq_eq_false_iff_ne]; omega
    have h1 := HM1
    unfold MsgAt mrow at h1
    clear hk hz hpos
    go_wp2_with (refine wpList_load_row rfl 62 _ rfl p rfl 62 _ (0, 0) _ h1 Try.underlying62 rfl msg_info' ?_)
    refine (HNB.out _).mono ?_
    rintro e w2 ⟨v2, rfl, hr2, hx2⟩
    have HM2 := Lib.hid (HM1.ext hx2)
    have hX2 := hX1.trans hx2
    have HF2 := Lib.hid (HF1.out.ext hx2)
    obtain ⟨a2, q2, hv2, hq2, hm2, _, hc2⟩ := hr2.parts
    obtain ⟨b2, o2, rfl, hb2, hcl2⟩ := hc2 (by simp [numL])
    have hl8 : (numL N).length = 8 := rfl
    rw [hl8] at hv2 hq2 hcl2
    subst hv2
    have HC2 : Hid (∀ i, i < 8 → w2.cell? ⟨b2, o2 + i, none⟩ = some (.int .i64 (N (i + 1)))) := Lib.hid (fun i hi => by rw [hcl2 i hi, numL_at N hi])
    clear hc2 hcl2 hr2 h1 hx2 hX1 HM1 hq2 hm2 hl8 hpos hle
    go_wp2_with fail
    go_loopw [5] (fun ci wr => ∃ i : Nat, i ≤ 8 ∧ ci = .int .i64 i ∧ (∀ f, 1 ≤ f → f ≤ i → fOk K N g n f = true) ∧ Ext w2 wr) (fun ci _ => 8 - (intOf ci).toNat)
    case atStart => exact ⟨0, by omega, rfl, fun f h1 h2 => absurd h2 (by omega), Ext.refl _⟩
    case round =>
      obtain ⟨i, hi, rfl, hok, hx⟩ := hrel
      have HOK := Lib.hid hok
      clear hok
      by_cases hlt : i < 8
      · have hii : (i : Int) < 8 := by omega
        have hcn := hx.cellv (HC2.out i hlt)
        have hfo : fOk K N g n (i + 1) = (decide (0 ≤ N (i + 1) ∧ N (i + 1) ≤ mostF (i + 1)) && (nmd K (i + 1) || decide (N (i + 1) = 0))) := fOk_num (by omega)
        have HMO : Hid (∀ w, Calls Try.prog 72 #[] w fun e w' => ∃ b, e = .returned (.slice (some ⟨b, 0, none⟩) 8 8) ∧ w'.cell? ⟨b, i, none⟩ = some (.int .i64 (mostF (i + 1))) ∧ Ext w w') := Lib.hid (fun w => (rmost w).mono (by rintro e w' ⟨b, he, hc, hx⟩; exact ⟨b, he, hc i hlt, hx⟩))
        have HHS : Hid (∀ w', Ext w2 w' → Calls Try.prog 42 #[.slice a1 m q1, .int .i64 ((i : Int) + 1)] w' fun e w'' => e = .returned (.bool (nmd K (i + 1))) ∧ Ext w' w'') := Lib.hid (fun w' hx => has_nmd' _ K (i + 1) _ (by omega) _ rfl w' (HF2.out.ext hx))
        have hstop : fOk K N g n (i + 1) = false → r = false := by
          intro h
          rw [Bool.eq_false_iff]; intro h2
          have := (HR.out.1 h2).2 (i + 1) (by omega) (by omega)
          rw [this] at h; cases h
        obtain ⟨x, hxe⟩ : ∃ x, N (i + 1) = x := ⟨_, rfl⟩
        obtain ⟨mo, hmo⟩ : ∃ x, mostF (i + 1) = x := ⟨_, rfl⟩
        obtain ⟨nm, hnm⟩ : ∃ x, nmd K (i + 1) = x := ⟨_, rfl⟩
        rw [hxe, hmo, hnm] at hfo
        rw [hxe] at hcn
        rw [hmo] at HMO
        rw [hnm] at HHS
        have hw63 : IntKind.i64.wrap ((i : Int) + 1) = (i : Int) + 1 := wraps_i64 _ (by omega) (by omega)
        have HFO := Lib.hid hfo
        have HST := Lib.hid hstop
        clear hxe hmo hnm hfo hstop
        by_cases h0 : x < 0
        · have hrf := HST.out (by rw [HFO.out, decide_eq_false (by omega)]; rfl)
          have HRF := Lib.hid hrf
          have h0b : decide (x < 0) = true := decide_eq_true h0
          clear hrf
          go_upto_region 8 with fail
          go_quiet (fail)
          all_goals
            go_wp2_with fail
            go_ret
            exact ⟨ret_bool HRF.out.symm, hX2.trans (by repeat' (first | (with_reducible exact Ext.refl _) | (with_reducible assumption) | (with_reducible refine Ext.alloc ?_ _) | (with_reducible refine Ext.drewN ?_ _) | (with_reducible refine Ext.drew ?_) | (with_reducible refine Ext.trans ?_ (by assumption))))⟩
        · have hx0 : 0 ≤ x := by omega
          have hx0i : ¬ x < 0 := by omega
          have hx0b : decide (x < 0) = false := decide_eq_false hx0i
          clear h0
          by_cases hm : mo < x
          · have hrf := HST.out (by rw [HFO.out, decide_eq_false (by omega)]; rfl)
            have HRF := Lib.hid hrf
            have hmb : decide (mo < x) = true := decide_eq_true hm
            have hund : (undef : Value) = .tuple #[] := rfl
            clear hrf
            go_upto_region 8 with fail
            first | go_region_with (first | (go_at_call 72; refine (HMO.out _).mono ?_; rintro e wB ⟨b, rfl, hcb, hxb⟩; have zn := Ext.cellv (w := wr) (w' := wB) (by repeat' (first | (with_reducible exact Ext.refl _) | (with_reducible assumption) | (with_reducible refine Ext.alloc ?_ _) | (with_reducible refine Ext.drewN ?_ _) | (with_reducible refine Ext.drew ?_) | (with_reducible refine Ext.trans ?_ (by assumption)))) hcn) | (go_at_call 42; refine (HHS.out _ (by repeat' (first | (with_reducible exact Ext.refl _) | (with_reducible assumption) | (with_reducible refine Ext.alloc ?_ _) | (with_reducible refine Ext.drewN ?_ _) | (with_reducible refine Ext.drew ?_) | (with_reducible refine Ext.trans ?_ (by assumption))))).mono ?_; rintro e wC ⟨rfl, hxC⟩)) | fail
            all_goals
              clear hund
              go_wp2_with fail
              go_ret
              exact ⟨ret_bool HRF.out.symm, hX2.trans (by repeat' (first | (with_reducible exact Ext.refl _) | (with_reducible assumption) | (with_reducible refine Ext.alloc ?_ _) | (with_reducible refine Ext.drewN ?_ _) | (with_reducible refine Ext.drew ?_) | (with_reducible refine Ext.trans ?_ (by assumption))))⟩
          · have hmi : x ≤ mo := by omega
            have hmb : decide (mo < x) = false := decide_eq_false hm
            by_cases hz0 : x = 0
            · subst hz0
              have hfo : fOk K N g n (i + 1) = true := by rw [HFO.out, decide_eq_true (by omega), decide_eq_true rfl]; simp
              have HNX : Hid (∀ f, 1 ≤ f → f ≤ i + 1 → fOk K N g n f = true) := Lib.hid (fun f h1 h2 => by
                by_cases h : f ≤ i
                · exact HOK.out f h1 h
                · obtain rfl : f = i + 1 := by omega
                  exact hfo)
              clear hfo
              have hzb : ((0 : Int) != 0) = false := rfl
              go_upto_region 8 with fail
              first | go_region_with (first | (go_at_call 72; refine (HMO.out _).mono ?_; rintro e wB ⟨b, rfl, hcb, hxb⟩; have zn := Ext.cellv (w := wr) (w' := wB) (by repeat' (first | (with_reducible exact Ext.refl _) | (with_reducible assumption) | (with_reducible refine Ext.alloc ?_ _) | (with_reducible refine Ext.drewN ?_ _) | (with_reducible refine Ext.drew ?_) | (with_reducible refine Ext.trans ?_ (by assumption)))) hcn) | (go_at_call 42; refine (HHS.out _ (by repeat' (first | (with_reducible exact Ext.refl _) | (with_reducible assumption) | (with_reducible refine Ext.alloc ?_ _) | (with_reducible refine Ext.drewN ?_ _) | (with_reducible refine Ext.drew ?_) | (with_reducible refine Ext.trans ?_ (by assumption))))).mono ?_; rintro e wC ⟨rfl, hxC⟩)) | fail
              all_goals
                go_wp2_with fail
                go_roundw
                case rel => exact ⟨i + 1, by omega, by go_num, HNX.out, (by repeat' (first | (with_reducible exact Ext.refl _) | (with_reducible assumption) | (with_reducible refine Ext.alloc ?_ _) | (with_reducible refine Ext.drewN ?_ _) | (with_reducible refine Ext.drew ?_) | (with_reducible refine Ext.trans ?_ (by assumption))))⟩
                case measure => simp [intOf]; omega
            · have hzb : (x == 0) = false := by rw [beq_eq_false_iff_ne]; exact hz0
              have hzn : (x != 0) = true := by rw [bne_iff_ne]; exact hz0
              cases nm
              · have hrf := HST.out (by rw [HFO.out, decide_eq_false hz0]; simp)
                have HRF := Lib.hid hrf
                clear hrf
                go_upto_region 8 with fail
                first | go_region_with (first | (go_at_call 72; refine (HMO.out _).mono ?_; rintro e wB ⟨b, rfl, hcb, hxb⟩; have zn := Ext.cellv (w := wr) (w' := wB) (by repeat' (first | (with_reducible exact Ext.refl _) | (with_reducible assumption) | (with_reducible refine Ext.alloc ?_ _) | (with_reducible refine Ext.drewN ?_ _) | (with_reducible refine Ext.drew ?_) | (with_reducible refine Ext.trans ?_ (by assumption)))) hcn) | (go_at_call 42; refine (HHS.out _ (by repeat' (first | (with_reducible exact Ext.refl _) | (with_reducible assumption) | (with_reducible refine Ext.alloc ?_ _) | (with_reducible refine Ext.drewN ?_ _) | (with_reducible refine Ext.drew ?_) | (with_reducible refine Ext.trans ?_ (by assumption))))).mono ?_; rintro e wC ⟨rfl, hxC⟩)) | fail
                all_goals
                  go_wp2_with fail
                  go_ret
                  exact ⟨ret_bool HRF.out.symm, hX2.trans (by repeat' (first | (with_reducible exact Ext.refl _) | (with_reducible assumption) | (with_reducible refine Ext.alloc ?_ _) | (with_reducible refine Ext.drewN ?_ _) | (with_reducible refine Ext.drew ?_) | (with_reducible refine Ext.trans ?_ (by assumption))))⟩
              · have hfo : fOk K N g n (i + 1) = true := by rw [HFO.out, decide_eq_true (by omega)]; simp
                have HNX : Hid (∀ f, 1 ≤ f → f ≤ i + 1 → fOk K N g n f = true) := Lib.hid (fun f h1 h2 => by
                  by_cases h : f ≤ i
                  · exact HOK.out f h1 h
                  · obtain rfl : f = i + 1 := by omega
                    exact hfo)
                clear hfo
                go_upto_region 8 with fail
                first | go_region_with (first | (go_at_call 72; refine (HMO.out _).mono ?_; rintro e wB ⟨b, rfl, hcb, hxb⟩; have zn := Ext.cellv (w := wr) (w' := wB) (by repeat' (first | (with_reducible exact Ext.refl _) | (with_reducible assumption) | (with_reducible refine Ext.alloc ?_ _) | (with_reducible refine Ext.drewN ?_ _) | (with_reducible refine Ext.drew ?_) | (with_reducible refine Ext.trans ?_ (by assumption)))) hcn) | (go_at_call 42; refine (HHS.out _ (by repeat' (first | (with_reducible exact Ext.refl _) | (with_reducible assumption) | (with_reducible refine Ext.alloc ?_ _) | (with_reducible refine Ext.drewN ?_ _) | (with_reducible refine Ext.drew ?_) | (with_reducible refine Ext.trans ?_ (by assumption))))).mono ?_; rintro e wC ⟨rfl, hxC⟩)) | fail
                all_goals
                  go_wp2_with fail
                  go_roundw
                  case rel => exact ⟨i + 1, by omega, by go_num, HNX.out, (by repeat' (first | (with_reducible exact Ext.refl _) | (with_reducible assumption) | (with_reducible refine Ext.alloc ?_ _) | (with_reducible refine Ext.drewN ?_ _) | (with_reducible refine Ext.drew ?_) | (with_reducible refine Ext.trans ?_ (by assumption))))⟩
                  case measure => simp [intOf]; omega
      · obtain rfl : i = 8 := by omega
        have y9 := (HM2.out.ext hx).grant
        have y10 := (HM2.out.ext hx).data
        have h9 : fOk K N g n 9 = (nmd K 9 || !g) := by unfold fOk fRight fZero; simp
        have h10 : fOk K N g n 10 = (decide (n ≤ 64) && (nmd K 10 || decide (n = 0))) := by unfold fOk fRight fZero; simp
        have HH9 : Hid (∀ w', Ext w2 w' → Calls Try.prog 42 #[.slice a1 m q1, .int .i64 9] w' fun e w'' => e = .returned (.bool (nmd K 9)) ∧ Ext w' w'') := Lib.hid (fun w' hx => has_nmd' _ K 9 _ (by omega) _ rfl w' (HF2.out.ext hx))
        have HH10 : Hid (∀ w', Ext w2 w' → Calls Try.prog 42 #[.slice a1 m q1, .int .i64 10] w' fun e w'' => e = .returned (.bool (nmd K 10)) ∧ Ext w' w'') := Lib.hid (fun w' hx => has_nmd' _ K 10 _ (by omega) _ rfl w' (HF2.out.ext hx))
        have hall : r = true ↔ ((nmd K 9 || !g) = true ∧ n ≤ 64 ∧ (nmd K 10 || decide (n = 0)) = true) := by
          rw [HR.out, ← h9]
          constructor
          · intro h
            have a1 := h.2 9 (by omega) (by omega)
            have a2 := h.2 10 (by omega) (by omega)
            rw [h10] at a2
            simp at a2
            refine ⟨a1, a2.1, by simpa using a2.2⟩
          · rintro ⟨a1, a2, a3⟩
            refine ⟨HK.out, fun f h1 h2 => ?_⟩
            by_cases h8 : f ≤ 8
            · exact HOK.out f h1 h8
            · have : f = 9 ∨ f = 10 := by omega
              rcases this with rfl | rfl
              · exact a1
              · rw [h10, a3, decide_eq_true a2]; rfl
        obtain ⟨n9, hn9⟩ : ∃ x, nmd K 9 = x := ⟨_, rfl⟩
        obtain ⟨n10, hn10⟩ : ∃ x, nmd K 10 = x := ⟨_, rfl⟩
        rw [hn9, hn10] at hall
        rw [hn9] at HH9
        rw [hn10] at HH10
        have HALL := Lib.hid hall
        clear h9 h10 hn9 hn10 hall
        cases g
        · by_cases hn0 : n = 0
          · have hrt : r = true := HALL.out.2 ⟨by simp, by omega, by rw [decide_eq_true hn0]; simp⟩
            have HRT := Lib.hid hrt
            subst hn0
            clear hrt
            go_wp2_with fail
            go_ret
            exact ⟨ret_bool HRT.out.symm, hX2.trans (by repeat' (first | (with_reducible exact Ext.refl _) | (with_reducible assumption) | (with_reducible refine Ext.alloc ?_ _) | (with_reducible refine Ext.drewN ?_ _) | (with_reducible refine Ext.drew ?_) | (with_reducible refine Ext.trans ?_ (by assumption))))⟩
          · have hnp : (0 : Int) < (n : Int) := by omega
            have hnb : ¬ (n : Int) ≤ 0 := by omega
            cases n10
            · have hrf : r = false := by
                rw [Bool.eq_false_iff]; intro h
                have := (HALL.out.1 h).2.2
                rw [decide_eq_false hn0] at this
                cases this
              have HRF := Lib.hid hrf
              clear hrf hn0
              go_wp2_with fail
              refine (HH10.out _ (by repeat' (first | (with_reducible exact Ext.refl _) | (with_reducible assumption) | (with_reducible refine Ext.alloc ?_ _) | (with_reducible refine Ext.drewN ?_ _) | (with_reducible refine Ext.drew ?_) | (with_reducible refine Ext.trans ?_ (by assumption))))).mono ?_
              rintro e w4 ⟨rfl, hx4⟩
              go_wp2_with fail
              go_ret
              exact ⟨ret_bool HRF.out.symm, hX2.trans (by repeat' (first | (with_reducible exact Ext.refl _) | (with_reducible assumption) | (with_reducible refine Ext.alloc ?_ _) | (with_reducible refine Ext.drewN ?_ _) | (with_reducible refine Ext.drew ?_) | (with_reducible refine Ext.trans ?_ (by assumption))))⟩
            · have hrn : r = decide (n ≤ 64) := by
                rw [Bool.eq_iff_iff, HALL.out, decide_eq_true_iff]
                exact ⟨fun h => h.2.1, fun h => ⟨by simp, h, by simp⟩⟩
              have HRN := Lib.hid hrn
              clear hrn hn0
              by_cases h64 : n ≤ 64
              · have h64i : (n : Int) ≤ 64 := by omega
                go_wp2_with fail
                refine (HH10.out _ (by repeat' (first | (with_reducible exact Ext.refl _) | (with_reducible assumption) | (with_reducible refine Ext.alloc ?_ _) | (with_reducible refine Ext.drewN ?_ _) | (with_reducible refine Ext.drew ?_) | (with_reducible refine Ext.trans ?_ (by assumption))))).mono ?_
                rintro e w4 ⟨rfl, hx4⟩
                have y10 := hx4.cellv y10
                go_wp2_with fail
                go_ret
                exact ⟨ret_bool (by rw [HRN.out, decide_eq_true h64]), hX2.trans (by repeat' (first | (with_reducible exact Ext.refl _) | (with_reducible assumption) | (with_reducible refine Ext.alloc ?_ _) | (with_reducible refine Ext.drewN ?_ _) | (with_reducible refine Ext.drew ?_) | (with_reducible refine Ext.trans ?_ (by assumption))))⟩
              · have h64i : ¬ (n : Int) ≤ 64 := by omega
                go_wp2_with fail
                refine (HH10.out _ (by repeat' (first | (with_reducible exact Ext.refl _) | (with_reducible assumption) | (with_reducible refine Ext.alloc ?_ _) | (with_reducible refine Ext.drewN ?_ _) | (with_reducible refine Ext.drew ?_) | (with_reducible refine Ext.trans ?_ (by assumption))))).mono ?_
                rintro e w4 ⟨rfl, hx4⟩
                have y10 := hx4.cellv y10
                go_wp2_with fail
                go_ret
                exact ⟨ret_bool (by rw [HRN.out, decide_eq_false h64]; exact decide_eq_false (by omega)), hX2.trans (by repeat' (first | (with_reducible exact Ext.refl _) | (with_reducible assumption) | (with_reducible refine Ext.alloc ?_ _) | (with_reducible refine Ext.drewN ?_ _) | (with_reducible refine Ext.drew ?_) | (with_reducible refine Ext.trans ?_ (by assumption))))⟩
        · cases n9
          · have hrf : r = false := by
              rw [Bool.eq_false_iff]; intro h
              have := (HALL.out.1 h).1
              cases this
            have HRF := Lib.hid hrf
            clear hrf
            go_wp2_with fail
            refine (HH9.out _ (by repeat' (first | (with_reducible exact Ext.refl _) | (with_reducible assumption) | (with_reducible refine Ext.alloc ?_ _) | (with_reducible refine Ext.drewN ?_ _) | (with_reducible refine Ext.drew ?_) | (with_reducible refine Ext.trans ?_ (by assumption))))).mono ?_
            rintro e w3 ⟨rfl, hx3⟩
            go_wp2_with fail
            go_ret
            exact ⟨ret_bool HRF.out.symm, hX2.trans (by repeat' (first | (with_reducible exact Ext.refl _) | (with_reducible assumption) | (with_reducible refine Ext.alloc ?_ _) | (with_reducible refine Ext.drewN ?_ _) | (with_reducible refine Ext.drew ?_) | (with_reducible refine Ext.trans ?_ (by assumption))))⟩
          · by_cases hn0 : n = 0
            · have hrt : r = true := HALL.out.2 ⟨by simp, by omega, by rw [decide_eq_true hn0]; simp⟩
              have HRT := Lib.hid hrt
              subst hn0
              clear hrt
              go_wp2_with fail
              refine (HH9.out _ (by repeat' (first | (with_reducible exact Ext.refl _) | (with_reducible assumption) | (with_reducible refine Ext.alloc ?_ _) | (with_reducible refine Ext.drewN ?_ _) | (with_reducible refine Ext.drew ?_) | (with_reducible refine Ext.trans ?_ (by assumption))))).mono ?_
              rintro e w3 ⟨rfl, hx3⟩
              have y10 := hx3.cellv y10
              go_wp2_with fail
              go_ret
              exact ⟨ret_bool HRT.out.symm, hX2.trans (by repeat' (first | (with_reducible exact Ext.refl _) | (with_reducible assumption) | (with_reducible refine Ext.alloc ?_ _) | (with_reducible refine Ext.drewN ?_ _) | (with_reducible refine Ext.drew ?_) | (with_reducible refine Ext.trans ?_ (by assumption))))⟩
            · have hnp : (0 : Int) < (n : Int) := by omega
              have hnb : ¬ (n : Int) ≤ 0 := by omega
              cases n10
              · have hrf : r = false := by
                  rw [Bool.eq_false_iff]; intro h
                  have := (HALL.out.1 h).2.2
                  rw [decide_eq_false hn0] at this
                  cases this
                have HRF := Lib.hid hrf
                clear hrf hn0
                go_wp2_with fail
                refine (HH9.out _ (by repeat' (first | (with_reducible exact Ext.refl _) | (with_reducible assumption) | (with_reducible refine Ext.alloc ?_ _) | (with_reducible refine Ext.drewN ?_ _) | (with_reducible refine Ext.drew ?_) | (with_reducible refine Ext.trans ?_ (by assumption))))).mono ?_
                rintro e w3 ⟨rfl, hx3⟩
                have y10 := hx3.cellv y10
                go_wp2_with fail
                refine (HH10.out _ (by repeat' (first | (with_reducible exact Ext.refl _) | (with_reducible assumption) | (with_reducible refine Ext.alloc ?_ _) | (with_reducible refine Ext.drewN ?_ _) | (with_reducible refine Ext.drew ?_) | (with_reducible refine Ext.trans ?_ (by assumption))))).mono ?_
                rintro e w4 ⟨rfl, hx4⟩
                go_wp2_with fail
                go_ret
                exact ⟨ret_bool HRF.out.symm, hX2.trans (by repeat' (first | (with_reducible exact Ext.refl _) | (with_reducible assumption) | (with_reducible refine Ext.alloc ?_ _) | (with_reducible refine Ext.drewN ?_ _) | (with_reducible refine Ext.drew ?_) | (with_reducible refine Ext.trans ?_ (by assumption))))⟩
              · have hrn : r = decide (n ≤ 64) := by
                  rw [Bool.eq_iff_iff, HALL.out, decide_eq_true_iff]
                  exact ⟨fun h => h.2.1, fun h => ⟨by simp, h, by simp⟩⟩
                have HRN := Lib.hid hrn
                clear hrn hn0
                by_cases h64 : n ≤ 64
                · have h64i : (n : Int) ≤ 64 := by omega
                  go_wp2_with fail
                  refine (HH9.out _ (by repeat' (first | (with_reducible exact Ext.refl _) | (with_reducible assumption) | (with_reducible refine Ext.alloc ?_ _) | (with_reducible refine Ext.drewN ?_ _) | (with_reducible refine Ext.drew ?_) | (with_reducible refine Ext.trans ?_ (by assumption))))).mono ?_
                  rintro e w3 ⟨rfl, hx3⟩
                  have y10 := hx3.cellv y10
                  go_wp2_with fail
                  refine (HH10.out _ (by repeat' (first | (with_reducible exact Ext.refl _) | (with_reducible assumption) | (with_reducible refine Ext.alloc ?_ _) | (with_reducible refine Ext.drewN ?_ _) | (with_reducible refine Ext.drew ?_) | (with_reducible refine Ext.trans ?_ (by assumption))))).mono ?_
                  rintro e w4 ⟨rfl, hx4⟩
                  have y10 := hx4.cellv y10
                  go_wp2_with fail
                  go_ret
                  exact ⟨ret_bool (by rw [HRN.out, decide_eq_true h64]), hX2.trans (by repeat' (first | (with_reducible exact Ext.refl _) | (with_reducible assumption) | (with_reducible refine Ext.alloc ?_ _) | (with_reducible refine Ext.drewN ?_ _) | (with_reducible refine Ext.drew ?_) | (with_reducible refine Ext.trans ?_ (by assumption))))⟩
                · have h64i : ¬ (n : Int) ≤ 64 := by omega
                  go_wp2_with fail
                  refine (HH9.out _ (by repeat' (first | (with_reducible exact Ext.refl _) | (with_reducible assumption) | (with_reducible refine Ext.alloc ?_ _) | (with_reducible refine Ext.drewN ?_ _) | (with_reducible refine Ext.drew ?_) | (with_reducible refine Ext.trans ?_ (by assumption))))).mono ?_
                  rintro e w3 ⟨rfl, hx3⟩
                  have y10 := hx3.cellv y10
                  go_wp2_with fail
                  refine (HH10.out _ (by repeat' (first | (with_reducible exact Ext.refl _) | (with_reducible assumption) | (with_reducible refine Ext.alloc ?_ _) | (with_reducible refine Ext.drewN ?_ _) | (with_reducible refine Ext.drew ?_) | (with_reducible refine Ext.trans ?_ (by assumption))))).mono ?_
                  rintro e w4 ⟨rfl, hx4⟩
                  have y10 := hx4.cellv y10
                  go_wp2_with fail
                  go_ret
                  exact ⟨ret_bool (by rw [HRN.out, decide_eq_false h64]; exact decide_eq_false (by omega)), hX2.trans (by repeat' (first | (with_reducible exact Ext.refl _) | (with_reducible assumption) | (with_reducible refine Ext.alloc ?_ _) | (with_reducible refine Ext.drewN ?_ _) | (with_reducible refine Ext.drew ?_) | (with_reducible refine Ext.trans ?_ (by assumption))))⟩
end Go.Proofs.Ytmkobmkaalfecaa
