/-
  Two sorted pieces of a row of places put together. No condition but that the row is there, and the fractions read, and are right.
-/
import Derived.Test.YthoioocfembkgaaWoRot
import Derived.Test.YthoioocfembkgaaWoSym1
import Derived.Test.YthoioocfembkgaaWoSym2
import Derived.Deep.CutBlock
namespace Go.Proofs.Ythoioocfembkgaa
open Go.RowKit

/-- the merge's call, and what it does -/
def SymSaid (pl g n c : Nat) (T B : Nat → Int) (a m b : Nat) (X : Nat → Nat) (w : World) : Prop :=
  Calls Try.prog 23 #[.slice (some ⟨g, 0, none⟩) n c, .int .i64 a, .int .i64 m, .int .i64 b, .func (.func 14) #[] #[.pointer (some ⟨pl, 0, none⟩)]] w fun e w' => e = .returned (.tuple #[]) ∧ (∃ Z, SrtF T B Z a b ∧ FrmF X Z a b ∧ ArF w' g n Z) ∧ Chg [g] w w'
/-- where the search stands -/
structure SrF (T B : Nat → Int) (X : Nat → Nat) (s0 r0 P s r : Nat) : Prop where
  h1 : s0 ≤ s
  h2 : s ≤ r
  h3 : r ≤ r0
  lo : ∀ c, c + 1 = s → s0 ≤ c → ¬ dl T B (X (P - c)) (X c)
  hi : r < r0 → dl T B (X (P - r)) (X r)
/-- where the search may go -/
structure SrO (a m b mid s0 r0 P : Nat) : Prop where
  le : s0 ≤ r0
  sa : a ≤ s0
  rm : r0 ≤ m
  rd : r0 ≤ mid
  inn : ∀ c, s0 ≤ c → c < r0 → m ≤ P - c ∧ P - c < b ∧ c ≤ P
  s0b : s0 = a ∨ P + 1 = s0 + b
  r0m : r0 = m ∨ P + 1 = r0 + m
  eb : P + 1 ≤ s0 + b
  me : m + r0 ≤ P + 1
  pm : P + 1 = mid + m

theorem MrgF.of_eq {T B : Nat → Int} {X Y : Nat → Nat} {a m b : Nat} (h : MrgF T B X a m b) (he : ∀ k, a ≤ k → k < b → Y k = X k) : MrgF T B Y a m b :=
  ⟨h.am, h.mb, h.s1.of_eq (fun k k1 k2 => he k k1 (Nat.lt_of_lt_of_le k2 h.mb)), h.s2.of_eq (fun k k1 k2 => he k (Nat.le_trans h.am k1) k2), fun i j i1 i2 i3 i4 => by
    have := h.am
    have := h.mb
    rw [he i i1 (by omega), he j (by omega) i4]; exact h.crs i j i1 i2 i3 i4⟩
/-- a truth tells it -/
def Tls (t : Bool) (p : Prop) : Prop := t = true ↔ p

set_option maxRecDepth 100000 in
set_option maxHeartbeats 16000000 in
theorem wo_symg (pl g n c a m b : Nat) (T B : Nat → Int) (X : Nat → Nat) (w : World) (ha : ArF w g n X) (hB : ∀ i, 0 < B i) (hM : MrgF T B X a m b) (ham : a + 1 < m) (hmb : m + 1 < b) (hb : b ≤ n) (hn : n ≤ 1000) (hF : ∀ w', Chg [g] w w' → FrAt w' pl n T B)
    (ih : ∀ a' m' b' X' w', b' - a' < b - a → a' < m' → m' < b' → b' ≤ n → ArF w' g n X' → MrgF T B X' a' m' b' → Chg [g] w w' → SymSaid pl g n c T B a' m' b' X' w') :
    SymSaid pl g n c T B a m b X w := by
  have HA := Lib.hid ha
  have HF := Lib.hid hF
  have HB := Lib.hid hB
  have HMG := Lib.hid hM
  have HAM := Lib.hid ham
  have HMB := Lib.hid hmb
  have HBN := Lib.hid hb
  have HN := Lib.hid hn
  have HIH := Lib.hid ih
  have hn1 : (n : Int) ≤ 1000 := by omega
  have ha0 : (0 : Int) ≤ (a : Int) := by omega
  have ha1 : (a : Int) ≤ 1000 := by omega
  have hb1 : (b : Int) ≤ 1000 := by omega
  have hm1 : (m : Int) ≤ 1000 := by omega
  have hm0 : (0 : Int) ≤ (m : Int) := by omega
  obtain ⟨d, hd⟩ : ∃ d, d = m - a := ⟨_, rfl⟩
  have hwd : IntKind.i64.wrap ((m : Int) - (a : Int)) = (d : Int) := by rw [IntKind.wrap_i64]; omega
  have hdb : ((d : Int) == 1) = false := by rw [beq_eq_false_iff_ne]; omega
  obtain ⟨d2, hd2⟩ : ∃ d, d = b - m := ⟨_, rfl⟩
  have hwd2 : IntKind.i64.wrap ((b : Int) - (m : Int)) = (d2 : Int) := by rw [IntKind.wrap_i64]; omega
  have hdb2 : ((d2 : Int) == 1) = false := by rw [beq_eq_false_iff_ne]; omega
  obtain ⟨mid, hmid⟩ : ∃ d, d = (a + b) / 2 := ⟨_, rfl⟩
  have hmid2 : ((a : Int) + (b : Int)) / 2 = (mid : Int) := by omega
  obtain ⟨P, hP⟩ : ∃ P, P + 1 = mid + m := ⟨mid + m - 1, by omega⟩
  obtain ⟨P1, hP1⟩ : ∃ P1, P1 = P + 1 := ⟨_, rfl⟩
  have hwn : IntKind.i64.wrap ((mid : Int) + (m : Int)) = (P1 : Int) := by rw [IntKind.wrap_i64]; omega
  have hwP : IntKind.i64.wrap ((P1 : Int) - 1) = (P : Int) := by rw [IntKind.wrap_i64]; omega
  have HP1 := Lib.hid hP1
  have hso : ∃ s0 r0 : Nat, SrO a m b mid s0 r0 P ∧ ((mid < m ∧ s0 + b = P1 ∧ r0 = mid) ∨ (¬ mid < m ∧ s0 = a ∧ r0 = m)) := by
    by_cases hg : mid < m
    · exact ⟨P1 - b, mid, ⟨by omega, by omega, by omega, by omega, fun c c1 c2 => by omega, by omega, by omega, by omega, by omega, hP⟩, .inl ⟨hg, by omega, rfl⟩⟩
    · exact ⟨a, m, ⟨by omega, by omega, by omega, by omega, fun c c1 c2 => by omega, by omega, by omega, by omega, by omega, hP⟩, .inr ⟨hg, rfl, rfl⟩⟩
  obtain ⟨s0, r0, hso, hsc⟩ := hso
  have HSO := Lib.hid hso
  have HSC := Lib.hid hsc
  have HMID := Lib.hid (show a < mid ∧ mid < b by omega)
  have HPB := Lib.hid (show P ≤ 3000 by omega)
  clear ha hF hB hM ham hb hn hmb hd hd2 hmid hP hP1 hso hsc ih
  obtain ⟨tg, htg⟩ : ∃ t, decide (mid < m) = t := ⟨_, rfl⟩
  have HTG : Hid (Tls tg (mid < m)) := Lib.hid (by unfold Tls; rw [← htg, decide_eq_true_iff])
  unfold SymSaid
  go_enter Try.func23, Try.ntmps23
  go_upto_if 140 with fail
  go_cut [20, 21] from 141 to 146 (fun c20 c21 wx => c20 = .int .i64 s0 ∧ c21 = .int .i64 r0 ∧ wx = w)
  case first =>
    clear htg
    cases tg with
    | true =>
      have hg := HTG.out.1 rfl
      have hs0 : IntKind.i64.wrap ((P1 : Int) - (b : Int)) = (s0 : Int) := by have := HSC.out; have := HSO.out.le; have := HSO.out.rm; rw [IntKind.wrap_i64]; omega
      have HR0 := Lib.hid (show r0 = mid by have := HSC.out; omega)
      clear hg HTG
      go_wp2_with fail
      go_meet
      exact ⟨rfl, by rw [HR0.out], rfl⟩
    | false =>
      have hg : ¬ mid < m := fun h => by have := HTG.out.2 h; cases this
      have HR0 := Lib.hid (show s0 = a ∧ r0 = m by have := HSC.out; omega)
      clear hg HTG
      go_wp2_with fail
      go_meet
      exact ⟨by rw [HR0.out.1], by rw [HR0.out.2], rfl⟩
  case rest =>
  obtain ⟨rfl, rfl, hwc⟩ := hcut
  obtain rfl := hwc.symm
  go_wp2_with fail
  go_loopw [20, 21] (fun ci cj wr => ∃ i j : Nat, ci = .int .i64 i ∧ cj = .int .i64 j ∧ Hid (SrF T B X s0 r0 P i j) ∧ Hid (Ext w wr)) (fun ci cj _ => (intOf cj).toNat - (intOf ci).toNat)
  case atStart => exact ⟨s0, r0, rfl, rfl, Lib.hid ⟨Nat.le_refl _, HSO.out.le, Nat.le_refl _, fun c c1 c2 => by omega, fun h => absurd h (Nat.lt_irrefl _)⟩, Lib.hid (Ext.refl _)⟩
  case round =>
    clear hwd hdb hwd2 hdb2 hmid2 hwn hwP htg HTG
    obtain ⟨i, j, rfl, rfl, HR, HC⟩ := hrel
    obtain ⟨r1, r2, r3, r4, r5⟩ := HR.out
    have e2 := HBN.out
    have e3 := HN.out
    have e4 := HSO.out
    have e5 := e4.rm
    have e6 := e4.sa
    have e7 := HMB.out
    have e8 := HPB.out
    by_cases hlt : i < j
    · have hii : (i : Int) < (j : Int) := by omega
      obtain ⟨h, hh⟩ : ∃ h, h = (i + j) / 2 := ⟨_, rfl⟩
      have hw1 : IntKind.i64.wrap ((i : Int) + (j : Int)) = (i : Int) + (j : Int) := by rw [IntKind.wrap_i64]; omega
      obtain ⟨o1, o2, o3⟩ := e4.inn h (by omega) (by omega)
      have hhn : h < n := by omega
      have hh2 : ((i : Int) + (j : Int)) / 2 = (h : Int) := by omega
      obtain ⟨k0, hk0⟩ : ∃ k0, k0 = P - h := ⟨_, rfl⟩
      have hwk : IntKind.i64.wrap ((P : Int) - (h : Int)) = (k0 : Int) := by rw [IntKind.wrap_i64]; omega
      have hkn : k0 < n := by omega
      have hki : (k0 : Int) < (n : Int) := by omega
      have hk00 : (0 : Int) ≤ (k0 : Int) := by omega
      have hhi : (h : Int) < (n : Int) := by omega
      have hh0 : (0 : Int) ≤ (h : Int) := by omega
      have hh1 : IntKind.i64.wrap ((h : Int) + 1) = (h : Int) + 1 := by rw [IntKind.wrap_i64]; omega
      have hMa := HA.out.ext HC.out
      have x0 := hMa.cell hkn
      have y0 := hMa.cell hhn
      have hxn := hMa.ok _ hkn
      have hyn := hMa.ok _ hhn
      have hN : ¬ dl T B (X k0) (X h) → SrF T B X s0 r0 P (h + 1) j := fun hd =>
        ⟨by omega, by omega, r3, fun c c1 c2 => by obtain rfl : c = h := (by omega); rw [← hk0]; exact hd, r5⟩
      have hT : dl T B (X k0) (X h) → SrF T B X s0 r0 P i h := fun hd =>
        ⟨r1, by omega, by omega, r4, fun _ => by rw [← hk0]; exact hd⟩
      have HME := Lib.hid (show i ≤ h ∧ h < j by omega)
      have HKC := Lib.hid (fun w' (hx : Ext wr w') => kcmp pl n T B (X k0) (X h) w' (HF.out _ (Chg.of_ext (HC.out.trans hx))) hxn hyn)
      obtain ⟨x, hx⟩ : ∃ x, x = X k0 := ⟨_, rfl⟩
      obtain ⟨y, hy⟩ : ∃ y, y = X h := ⟨_, rfl⟩
      rw [← hx] at x0 HKC hN hT
      rw [← hy] at y0 HKC hN hT
      have HT := Lib.hid hT
      have HN' := Lib.hid hN
      clear hT hN hx hy hxn hyn hMa r1 r2 r3 r4 r5 e2 e3 e4 e5 e6 e7 e8 o1 o2 o3 hh hhn hkn hk0 HR hlt
      by_cases hd : dl T B x y
      · have HD := Lib.hid hd
        have HKT : Hid (∀ w', Ext wr w' → Calls Try.prog 14 #[.int .i64 x, .int .i64 y, .pointer (some ⟨pl, 0, none⟩)] w' fun e w'' => ∃ r : Int, e = .returned (.int .i64 r) ∧ decide (r < 0) = true ∧ Ext w' w'') := Lib.hid (fun w' hx => (HKC.out w' hx).mono (by rintro e w'' ⟨r, he, hr, hx⟩; exact ⟨r, he, by rw [hr]; exact decide_eq_true hd, hx⟩))
        clear hd HKC
        go_upto_region 35 with fail
        go_region_held3 (fun w' => w'.cell? ⟨g, k0, none⟩ = some (.int .i64 x) ∧ w'.cell? ⟨g, h, none⟩ = some (.int .i64 y) ∧ Ext wr w') (exact ⟨Ext.cellv (w := wr) (by repeat' (first | (with_reducible exact Ext.refl _) | (with_reducible assumption) | (with_reducible refine Ext.alloc ?_ _) | (with_reducible refine Ext.drewN ?_ _) | (with_reducible refine Ext.drew ?_) | (with_reducible refine Ext.trans ?_ (by assumption)))) x0, Ext.cellv (w := wr) (by repeat' (first | (with_reducible exact Ext.refl _) | (with_reducible assumption) | (with_reducible refine Ext.alloc ?_ _) | (with_reducible refine Ext.drewN ?_ _) | (with_reducible refine Ext.drew ?_) | (with_reducible refine Ext.trans ?_ (by assumption)))) y0, (by repeat' (first | (with_reducible exact Ext.refl _) | (with_reducible assumption) | (with_reducible refine Ext.alloc ?_ _) | (with_reducible refine Ext.drewN ?_ _) | (with_reducible refine Ext.drew ?_) | (with_reducible refine Ext.trans ?_ (by assumption))))⟩) (first | (go_at_call 14; refine (HKT.out _ (by repeat' (first | (with_reducible exact Ext.refl _) | (with_reducible assumption) | (with_reducible refine Ext.alloc ?_ _) | (with_reducible refine Ext.drewN ?_ _) | (with_reducible refine Ext.drew ?_) | (with_reducible refine Ext.trans ?_ (by assumption))))).mono ?_; rintro e wA ⟨r, rfl, hr, hxA⟩))
        all_goals
          go_wp2_with fail
          go_roundw
          case rel => exact ⟨i, h, rfl, by go_num, Lib.hid (HT.out HD.out), Lib.hid (HC.out.trans (by repeat' (first | (with_reducible exact Ext.refl _) | (with_reducible assumption) | (with_reducible refine Ext.alloc ?_ _) | (with_reducible refine Ext.drewN ?_ _) | (with_reducible refine Ext.drew ?_) | (with_reducible refine Ext.trans ?_ (by assumption)))))⟩
          case measure => have := HME.out; simp [intOf]; omega
      · have HD := Lib.hid hd
        have HKT : Hid (∀ w', Ext wr w' → Calls Try.prog 14 #[.int .i64 x, .int .i64 y, .pointer (some ⟨pl, 0, none⟩)] w' fun e w'' => ∃ r : Int, e = .returned (.int .i64 r) ∧ decide (r < 0) = false ∧ Ext w' w'') := Lib.hid (fun w' hx => (HKC.out w' hx).mono (by rintro e w'' ⟨r, he, hr, hx⟩; exact ⟨r, he, by rw [hr]; exact decide_eq_false hd, hx⟩))
        clear hd HKC
        go_upto_region 35 with fail
        go_region_held3 (fun w' => w'.cell? ⟨g, k0, none⟩ = some (.int .i64 x) ∧ w'.cell? ⟨g, h, none⟩ = some (.int .i64 y) ∧ Ext wr w') (exact ⟨Ext.cellv (w := wr) (by repeat' (first | (with_reducible exact Ext.refl _) | (with_reducible assumption) | (with_reducible refine Ext.alloc ?_ _) | (with_reducible refine Ext.drewN ?_ _) | (with_reducible refine Ext.drew ?_) | (with_reducible refine Ext.trans ?_ (by assumption)))) x0, Ext.cellv (w := wr) (by repeat' (first | (with_reducible exact Ext.refl _) | (with_reducible assumption) | (with_reducible refine Ext.alloc ?_ _) | (with_reducible refine Ext.drewN ?_ _) | (with_reducible refine Ext.drew ?_) | (with_reducible refine Ext.trans ?_ (by assumption)))) y0, (by repeat' (first | (with_reducible exact Ext.refl _) | (with_reducible assumption) | (with_reducible refine Ext.alloc ?_ _) | (with_reducible refine Ext.drewN ?_ _) | (with_reducible refine Ext.drew ?_) | (with_reducible refine Ext.trans ?_ (by assumption))))⟩) (first | (go_at_call 14; refine (HKT.out _ (by repeat' (first | (with_reducible exact Ext.refl _) | (with_reducible assumption) | (with_reducible refine Ext.alloc ?_ _) | (with_reducible refine Ext.drewN ?_ _) | (with_reducible refine Ext.drew ?_) | (with_reducible refine Ext.trans ?_ (by assumption))))).mono ?_; rintro e wA ⟨r, rfl, hr, hxA⟩))
        all_goals
          go_wp2_with fail
          go_roundw
          case rel => exact ⟨h + 1, j, by go_num, rfl, Lib.hid (HN'.out HD.out), Lib.hid (HC.out.trans (by repeat' (first | (with_reducible exact Ext.refl _) | (with_reducible assumption) | (with_reducible refine Ext.alloc ?_ _) | (with_reducible refine Ext.drewN ?_ _) | (with_reducible refine Ext.drew ?_) | (with_reducible refine Ext.trans ?_ (by assumption)))))⟩
          case measure => have := HME.out; simp [intOf]; omega
    · obtain rfl : i = j := by omega
      have o1 := e4.pm
      have o2 := e4.eb
      have o3 := e4.me
      have o4 := e4.rd
      have o5 := e4.s0b
      have o6 := e4.r0m
      have o7 := HMID.out
      have o8 := HP1.out
      have o9 := HAM.out
      obtain ⟨en, hen⟩ : ∃ en, en = P1 - i := ⟨_, rfl⟩
      have hwe : IntKind.i64.wrap ((P1 : Int) - (i : Int)) = (en : Int) := by rw [IntKind.wrap_i64]; omega
      obtain ⟨t1, t2, t3⟩ := HMG.out.turn HB.out (s := i) (e := en) (mid := mid) (by omega) (by omega) (by omega) (by omega) (by omega)
        (fun c c1 c2 c3 => by
          have := r4 c c1 (by omega)
          rw [show en = P - c by omega]; exact this)
        (fun h1 h2 => by
          have := r5 (by omega)
          rw [show en - 1 = P - i by omega]; exact this)
      have HT1 := Lib.hid t1
      have HT2 := Lib.hid t2
      have HT3 := Lib.hid t3
      have HO := Lib.hid (show a ≤ i ∧ i ≤ m ∧ i ≤ mid ∧ mid ≤ en ∧ m ≤ en ∧ en ≤ b by omega)
      have HAR := Lib.hid (HA.out.ext HC.out)
      have HCH : Hid (Chg [g] w wr) := Lib.hid (Chg.of_ext HC.out)
      clear t1 t2 t3 o1 o2 o3 o4 o5 o6 o7 o8 o9 hen r1 r2 r3 r4 r5 e2 e3 e4 e5 e6 e7 e8 HR HC HA hlt
      go_upto_region 39 with fail
      go_cut [185] from 178 to 185 (fun q wx => ∃ t : Bool, q = .bool t ∧ Hid (Tls t (i < m ∧ m < en)) ∧ wx = wr)
      case first =>
        by_cases h1 : i < m
        · have h1i : (i : Int) < (m : Int) := by omega
          by_cases h2 : m < en
          · have h2i : (m : Int) < (en : Int) := by omega
            have HQ := Lib.hid (show Tls true (i < m ∧ m < en) from ⟨fun _ => ⟨h1, h2⟩, fun _ => rfl⟩)
            clear h1 h2
            go_wp2_with fail
            go_meet
            exact ⟨_, rfl, HQ, rfl⟩
          · have h2i : ¬ (m : Int) < (en : Int) := by omega
            have HQ := Lib.hid (show Tls false (i < m ∧ m < en) from ⟨fun h => (by cases h), fun h => absurd h.2 h2⟩)
            clear h1 h2
            go_wp2_with fail
            go_meet
            exact ⟨_, rfl, HQ, rfl⟩
        · have h1i : ¬ (i : Int) < (m : Int) := by omega
          have HQ := Lib.hid (show Tls false (i < m ∧ m < en) from ⟨fun h => (by cases h), fun h => absurd h.1 h1⟩)
          clear h1
          go_wp2_with fail
          go_meet
          exact ⟨_, rfl, HQ, rfl⟩
      case rest =>
      obtain ⟨t, rfl, HQ, rfl⟩ := hcut
      go_upto_if 185 with fail
      go_cut [] from 186 to 191 (fun wx => Hid (ArF wx g n (rotF X i m en)) ∧ Hid (Chg [g] w wx))
      case first =>
        cases t with
        | true =>
          have hq := HQ.out.1 rfl
          have KR := Lib.hid (fun w' (hx : Ext wc w') => wo_rot g n c i m en X (.func (.func 14) #[] #[.pointer (some ⟨pl, 0, none⟩)]) w' (HAR.out.ext hx) hq.1 hq.2 (Nat.le_trans HO.out.2.2.2.2.2 HBN.out) HN.out)
          clear hq HQ
          go_wp2_with fail
          refine (KR.out _ (by repeat' (first | (with_reducible exact Ext.refl _) | (with_reducible assumption) | (with_reducible refine Ext.alloc ?_ _) | (with_reducible refine Ext.drewN ?_ _) | (with_reducible refine Ext.drew ?_) | (with_reducible refine Ext.trans ?_ (by assumption))))).mono ?_
          rintro e w1 ⟨rfl, hr, hc⟩
          have HRR := Lib.hid hr
          have HCC := Lib.hid (HCH.out.trans hc)
          clear hr hc KR
          go_wp2_with fail
          go_meet
          exact ⟨HRR, HCC⟩
        | false =>
          have hq : ¬ (i < m ∧ m < en) := fun h => by have := HQ.out.2 h; cases this
          have ho := HO.out
          have HRR := Lib.hid (HAR.out.eq (rot_id X (s := i) (m := m) (e := en) (by omega) (by omega) (by omega)).symm)
          clear hq HQ ho
          go_wp2_with fail
          go_meet
          exact ⟨HRR, HCH⟩
      case rest =>
      obtain ⟨HRR, HCC⟩ := hcut
      obtain ⟨w1, rfl⟩ : ∃ z : World, z = wc := ⟨_, rfl⟩
      clear HAR HCH HQ
      go_upto_region 41 with fail
      go_cut [199] from 192 to 199 (fun q wx => ∃ t : Bool, q = .bool t ∧ Hid (Tls t (a < i ∧ i < mid)) ∧ wx = w1)
      case first =>
        by_cases h1 : a < i
        · have h1i : (a : Int) < (i : Int) := by omega
          by_cases h2 : i < mid
          · have h2i : (i : Int) < (mid : Int) := by omega
            have HQ := Lib.hid (show Tls true (a < i ∧ i < mid) from ⟨fun _ => ⟨h1, h2⟩, fun _ => rfl⟩)
            clear h1 h2
            go_wp2_with fail
            go_meet
            exact ⟨_, rfl, HQ, rfl⟩
          · have h2i : ¬ (i : Int) < (mid : Int) := by omega
            have HQ := Lib.hid (show Tls false (a < i ∧ i < mid) from ⟨fun h => (by cases h), fun h => absurd h.2 h2⟩)
            clear h1 h2
            go_wp2_with fail
            go_meet
            exact ⟨_, rfl, HQ, rfl⟩
        · have h1i : ¬ (a : Int) < (i : Int) := by omega
          have HQ := Lib.hid (show Tls false (a < i ∧ i < mid) from ⟨fun h => (by cases h), fun h => absurd h.1 h1⟩)
          clear h1
          go_wp2_with fail
          go_meet
          exact ⟨_, rfl, HQ, rfl⟩
      case rest =>
      obtain ⟨t, rfl, HQ, rfl⟩ := hcut
      go_upto_if 199 with fail
      go_cut [] from 200 to 205 (fun wx => Hid (∃ Z, SrtF T B Z a mid ∧ FrmF (rotF X i m en) Z a mid ∧ ArF wx g n Z) ∧ Hid (Chg [g] w wx))
      case first =>
        cases t with
        | true =>
          have hq := HQ.out.1 rfl
          have hmn : mid ≤ n := by have := HBN.out; have := HMID.out; omega
          have hlt : mid - a < b - a := by have := HMID.out; omega
          have kr := fun w' (hx : Ext wc w') => HIH.out a i mid _ w' hlt hq.1 hq.2 hmn (HRR.out.ext hx) HT1.out (HCC.out.ext hx)
          simp only [SymSaid] at kr
          have KR := Lib.hid kr
          clear hq HQ kr hmn hlt
          go_wp2_with fail
          refine (KR.out _ (by repeat' (first | (with_reducible exact Ext.refl _) | (with_reducible assumption) | (with_reducible refine Ext.alloc ?_ _) | (with_reducible refine Ext.drewN ?_ _) | (with_reducible refine Ext.drew ?_) | (with_reducible refine Ext.trans ?_ (by assumption))))).mono ?_
          rintro e w1 ⟨rfl, hr, hc⟩
          have HRN := Lib.hid hr
          have HCN := Lib.hid (HCC.out.trans hc)
          clear hr hc KR
          go_wp2_with fail
          go_meet
          exact ⟨HRN, HCN⟩
        | false =>
          have hq : ¬ (a < i ∧ i < mid) := fun h => by have := HQ.out.2 h; cases this
          have HRN : Hid (∃ Z, SrtF T B Z a mid ∧ FrmF (rotF X i m en) Z a mid ∧ ArF wc g n Z) := Lib.hid ⟨_, HT1.out.none (by have := HT1.out.am; have := HT1.out.mb; omega), FrmF.refl _ _ _, HRR.out⟩
          clear hq HQ
          go_wp2_with fail
          go_meet
          exact ⟨HRN, HCC⟩
      case rest =>
      obtain ⟨HZ, HCZ⟩ := hcut
      obtain ⟨w2, rfl⟩ : ∃ z : World, z = wc := ⟨_, rfl⟩
      obtain ⟨Z, hz1, hz2, hz3⟩ := HZ.out
      have HM2 := Lib.hid (HT2.out.of_eq (Y := Z) (fun k k1 k2 => hz2.out k (by omega)))
      have HZ1 := Lib.hid hz1
      have HZ2 := Lib.hid hz2
      have HZ3 := Lib.hid hz3
      have hfin : ∀ Z2, FrmF Z Z2 mid b → SrtF T B Z2 mid b → SrtF T B Z2 a b ∧ FrmF X Z2 a b := by
        intro Z2 f3 s3
        have hm := HMID.out
        have ho := HO.out
        obtain ⟨j1, j2⟩ := srt_join (by omega) (by omega) HT3.out HZ2.out HZ1.out f3 s3
        exact ⟨j1, ((frm_rot X ho.2.1 ho.2.2.2.2.1).mono ho.1 ho.2.2.2.2.2).trans j2⟩
      have HFIN := Lib.hid hfin
      clear HZ hz1 hz2 hz3 hfin HRR HCC HQ HT2
      go_upto_region 43 with fail
      go_cut [213] from 206 to 213 (fun q wx => ∃ t : Bool, q = .bool t ∧ Hid (Tls t (mid < en ∧ en < b)) ∧ wx = w2)
      case first =>
        by_cases h1 : mid < en
        · have h1i : (mid : Int) < (en : Int) := by omega
          by_cases h2 : en < b
          · have h2i : (en : Int) < (b : Int) := by omega
            have HQ := Lib.hid (show Tls true (mid < en ∧ en < b) from ⟨fun _ => ⟨h1, h2⟩, fun _ => rfl⟩)
            clear h1 h2
            go_wp2_with fail
            go_meet
            exact ⟨_, rfl, HQ, rfl⟩
          · have h2i : ¬ (en : Int) < (b : Int) := by omega
            have HQ := Lib.hid (show Tls false (mid < en ∧ en < b) from ⟨fun h => (by cases h), fun h => absurd h.2 h2⟩)
            clear h1 h2
            go_wp2_with fail
            go_meet
            exact ⟨_, rfl, HQ, rfl⟩
        · have h1i : ¬ (mid : Int) < (en : Int) := by omega
          have HQ := Lib.hid (show Tls false (mid < en ∧ en < b) from ⟨fun h => (by cases h), fun h => absurd h.1 h1⟩)
          clear h1
          go_wp2_with fail
          go_meet
          exact ⟨_, rfl, HQ, rfl⟩
      case rest =>
      obtain ⟨t, rfl, HQ, rfl⟩ := hcut
      cases t with
      | true =>
        have hq := HQ.out.1 rfl
        have hmn : b ≤ n := HBN.out
        have hlt : b - mid < b - a := by have := HMID.out; omega
        have kr := fun w' (hx : Ext wc w') => HIH.out mid en b _ w' hlt hq.1 hq.2 hmn (HZ3.out.ext hx) HM2.out (HCZ.out.ext hx)
        simp only [SymSaid] at kr
        have KR := Lib.hid kr
        clear hq HQ kr hmn hlt
        go_wp2_with fail
        refine (KR.out _ (by repeat' (first | (with_reducible exact Ext.refl _) | (with_reducible assumption) | (with_reducible refine Ext.alloc ?_ _) | (with_reducible refine Ext.drewN ?_ _) | (with_reducible refine Ext.drew ?_) | (with_reducible refine Ext.trans ?_ (by assumption))))).mono ?_
        rintro e w1 ⟨rfl, hr, hc⟩
        have HRN := Lib.hid hr
        have HCN := Lib.hid (HCZ.out.trans hc)
        clear hr hc KR
        go_wp2_with fail
        go_end0
        obtain ⟨Z2, r1, r2, r3⟩ := HRN.out
        obtain ⟨q1, q2⟩ := HFIN.out Z2 r2 r1
        exact ⟨rfl, ⟨Z2, q1, q2, r3⟩, HCN.out⟩
      | false =>
        have hq : ¬ (mid < en ∧ en < b) := fun h => by have := HQ.out.2 h; cases this
        obtain ⟨q1, q2⟩ := HFIN.out Z (FrmF.refl _ _ _) (HM2.out.none (by have := HM2.out.am; have := HM2.out.mb; omega))
        have HQ1 := Lib.hid q1
        have HQ2 := Lib.hid q2
        clear hq HQ q1 q2
        go_wp2_with fail
        go_end0
        exact ⟨rfl, ⟨Z, HQ1.out, HQ2.out, HZ3.out⟩, HCZ.out⟩

theorem wo_sym (pl g n c : Nat) (T B : Nat → Int) (hB : ∀ i, 0 < B i) (hn : n ≤ 1000) : ∀ (N a m b : Nat) (X : Nat → Nat) (w : World), b - a ≤ N → a < m → m < b → b ≤ n → ArF w g n X → MrgF T B X a m b → (∀ w', Chg [g] w w' → FrAt w' pl n T B) → SymSaid pl g n c T B a m b X w := by
  intro N
  induction N with
  | zero => intro a m b X w h1 h2 h3; omega
  | succ N ih =>
    intro a m b X w hN ham hmb hb ha hM hF
    by_cases hm1 : m = a + 1
    · exact wo_sym1 pl g n c a m b T B X w ha hB hM hm1 hmb hb hn hF
    · by_cases hb1 : b = m + 1
      · exact wo_sym2 pl g n c a m b T B X w ha hB hM hb1 ham hm1 hb hn hF
      · exact wo_symg pl g n c a m b T B X w ha hB hM (by omega) (by omega) hb hn hF (fun a' m' b' X' w' h1 h2 h3 h4 h5 h6 h7 => ih a' m' b' X' w' (by omega) h2 h3 h4 h5 h6 (fun w'' h8 => hF w'' (h7.trans h8)))
end Go.Proofs.Ythoioocfembkgaa
