/-
  slices.SortStableFunc of a row of places, over wide.Order's comparison. No condition but that the row is there, and the fractions read, and are right.
-/
import Derived.Test.YthoioocfembkgaaWoSym
import Derived.Test.YthoioocfembkgaaWoIns
namespace Go.Proofs.Ythoioocfembkgaa
open Go.RowKit

theorem UpF.dv2 {T B : Nat → Int} {X : Nat → Nat} {n z a : Nat} (h : UpF T B X n z a) (hn : a + z ≥ n) : SrtF T B X a n := by
  have := (h.hi a h.za (Nat.le_refl _)).2
  exact this.sub (Nat.le_refl _) (by omega)

set_option maxRecDepth 100000 in
set_option maxHeartbeats 8000000 in
theorem wo_stable (pl g n c : Nat) (T B : Nat → Int) (w : World) (ha : ArF w g n (fun k => k)) (hB : ∀ i, 0 < B i) (hn : n ≤ 1000) (hF : ∀ w', Chg [g] w w' → FrAt w' pl n T B) :
    Calls Try.prog 20 #[.slice (some ⟨g, 0, none⟩) n c, .int .i64 n, .func (.func 14) #[] #[.pointer (some ⟨pl, 0, none⟩)]] w fun e w' => e = .returned (.tuple #[]) ∧ (∃ Z, SrtF T B Z 0 n ∧ ArF w' g n Z) ∧ Chg [g] w w' := by
  have HA := Lib.hid ha
  have HF := Lib.hid hF
  have HB := Lib.hid hB
  have HN := Lib.hid hn
  have hn1 : (n : Int) ≤ 1000 := by omega
  have hn0 : (0 : Int) ≤ (n : Int) := by omega
  clear ha hF hB hn
  go_enter Try.func20, Try.ntmps20
  go_wp2_with fail
  go_loopw [7, 8] (fun ca cb wr => ∃ a b : Nat, ca = .int .i64 a ∧ cb = .int .i64 b ∧ Hid (b = a + 20 ∧ a ≤ n ∧ ∃ X, FstF T B X n 20 a ∧ ArF wr g n X) ∧ Hid (Chg [g] w wr)) (fun ca _ _ => n - (intOf ca).toNat)
  case atStart => exact ⟨0, 20, rfl, rfl, Lib.hid ⟨rfl, Nat.zero_le _, _, FstF.zero T B n 20, HA.out⟩, Lib.hid (Chg.refl _ _)⟩
  case round =>
    obtain ⟨a, b, rfl, rfl, HR, HC⟩ := hrel
    obtain ⟨r1, r2, X, r3, r4⟩ := HR.out
    have hN := HN.out
    by_cases hlt : b ≤ n
    · have hle : (b : Int) ≤ (n : Int) := by omega
      obtain ⟨b', hb'⟩ : ∃ b', b' = b + 20 := ⟨_, rfl⟩
      have hwb : IntKind.i64.wrap ((b : Int) + 20) = (b' : Int) := by rw [IntKind.wrap_i64]; omega
      have KI := Lib.hid (fun w' (hx : Ext wr w') => wo_ins pl g n c a b T B X w' (r4.ext hx) HB.out hlt hN (by omega) r3.hi (fun w'' h => HF.out w'' ((HC.out.ext hx).trans h)))
      have hend : ∀ Z w', SrtF T B Z a b → FrmF X Z a b → ArF w' g n Z → b' = b + 20 ∧ b ≤ n ∧ ∃ X, FstF T B X n 20 b ∧ ArF w' g n X := fun Z w' h1 h2 h3 => ⟨hb', hlt, Z, by have := r3.step (by omega) (show a + 20 ≤ n by omega) (by rw [← r1]; exact h2) (by rw [← r1]; exact h1); rw [← r1] at this; exact this, h3⟩
      have HE := Lib.hid hend
      have HME := Lib.hid (show a < b ∧ b ≤ n by omega)
      clear hend hb' r1 r2 r3 r4 hN HR HA hlt
      go_wp2_with fail
      refine (KI.out _ (by repeat' (first | (with_reducible exact Ext.refl _) | (with_reducible assumption) | (with_reducible refine Ext.alloc ?_ _) | (with_reducible refine Ext.drewN ?_ _) | (with_reducible refine Ext.drew ?_) | (with_reducible refine Ext.trans ?_ (by assumption))))).mono ?_
      rintro e w1 ⟨rfl, hr, hc⟩
      have HRR := Lib.hid hr
      have HCC := Lib.hid (HC.out.trans hc)
      clear hr hc KI
      go_wp2_with fail
      go_roundw
      case rel => exact ⟨b, b', rfl, by go_num, Lib.hid (by obtain ⟨Z, h1, h2, h3⟩ := HRR.out; exact HE.out Z _ h1 h2 (h3.ext (by repeat' (first | (with_reducible exact Ext.refl _) | (with_reducible assumption) | (with_reducible refine Ext.alloc ?_ _) | (with_reducible refine Ext.drewN ?_ _) | (with_reducible refine Ext.drew ?_) | (with_reducible refine Ext.trans ?_ (by assumption)))))), Lib.hid (HCC.out.ext (by repeat' (first | (with_reducible exact Ext.refl _) | (with_reducible assumption) | (with_reducible refine Ext.alloc ?_ _) | (with_reducible refine Ext.drewN ?_ _) | (with_reducible refine Ext.drew ?_) | (with_reducible refine Ext.trans ?_ (by assumption)))))⟩
      case measure => have := HME.out; simp [intOf]; omega
    · have hle : ¬ (b : Int) ≤ (n : Int) := by omega
      have KI := Lib.hid (fun w' (hx : Ext wr w') => wo_ins pl g n c a n T B X w' (r4.ext hx) HB.out (Nat.le_refl _) hN (by omega) r3.hi (fun w'' h => HF.out w'' ((HC.out.ext hx).trans h)))
      have hend : ∀ Z, SrtF T B Z a n → FrmF X Z a n → BlkF T B Z n 20 := fun Z h1 h2 => r3.last (by omega) (by omega) r2 h2 h1
      have HE := Lib.hid hend
      clear hend r1 r2 r3 r4 hN HR HA hlt
      go_wp2_with fail
      refine (KI.out _ (by repeat' (first | (with_reducible exact Ext.refl _) | (with_reducible assumption) | (with_reducible refine Ext.alloc ?_ _) | (with_reducible refine Ext.drewN ?_ _) | (with_reducible refine Ext.drew ?_) | (with_reducible refine Ext.trans ?_ (by assumption))))).mono ?_
      rintro e w1 ⟨rfl, hr, hc⟩
      have HRR : Hid (∃ X, BlkF T B X n 20 ∧ ArF w1 g n X) := Lib.hid (by obtain ⟨Z, h1, h2, h3⟩ := hr; exact ⟨Z, HE.out Z h1 h2, h3⟩)
      have HCC := Lib.hid (HC.out.trans hc)
      clear hr hc KI HE HC hle
      go_wp2_with fail
      go_loopw [6, 7, 8, 9] (fun cz _ _ _ ws => ∃ z : Nat, cz = .int .i64 z ∧ Hid (0 < z ∧ z ≤ 3000 ∧ ∃ X, BlkF T B X n z ∧ ArF ws g n X) ∧ Hid (Chg [g] w ws)) (fun cz _ _ _ _ => n - (intOf cz).toNat)
      case atStart => exact ⟨20, rfl, Lib.hid ⟨by omega, by omega, HRR.out⟩, HCC⟩
      case round =>
        clear HRR HCC
        obtain ⟨z, rfl, HR, HC⟩ := hrel
        obtain ⟨r1, r2, X, r3, r4⟩ := HR.out
        have hN := HN.out
        by_cases hlt : z < n
        · have hzi : (z : Int) < (n : Int) := by omega
          have hz0 : (0 : Int) ≤ (z : Int) := by omega
          obtain ⟨z2, hz2⟩ : ∃ z2, z2 = 2 * z := ⟨_, rfl⟩
          have hwz : IntKind.i64.wrap (2 * (z : Int)) = (z2 : Int) := by rw [IntKind.wrap_i64]; omega
          have hwz' : IntKind.i64.wrap ((z : Int) * 2) = (z2 : Int) := by rw [IntKind.wrap_i64]; omega
          have hz21 : (z2 : Int) ≤ 2000 := by omega
          have HZ := Lib.hid (show 0 < z ∧ z < n ∧ z2 = 2 * z by omega)
          have HST : Hid (UpF T B X n z 0 ∧ ArF wr g n X) := Lib.hid ⟨UpF.zero r3, r4⟩
          clear r1 r2 r3 r4 HR hN hz2 hlt
          go_wp2_with fail
          go_loopw [7, 8] (fun ca cb wt => ∃ a b : Nat, ca = .int .i64 a ∧ cb = .int .i64 b ∧ Hid (b = a + z2 ∧ a ≤ n ∧ ∃ X, UpF T B X n z a ∧ ArF wt g n X) ∧ Hid (Chg [g] w wt)) (fun ca _ _ => n - (intOf ca).toNat)
          case atStart => exact ⟨0, z2, rfl, rfl, Lib.hid ⟨by omega, Nat.zero_le _, X, HST.out⟩, HC⟩
          case round =>
            clear HST HC
            obtain ⟨a, b, rfl, rfl, HR, HC⟩ := hrel
            obtain ⟨r1, r2, X, r3, r4⟩ := HR.out
            have hN := HN.out
            obtain ⟨z0, z1, ze⟩ := HZ.out
            obtain ⟨m, hm⟩ : ∃ m, m = a + z := ⟨_, rfl⟩
            have hwm : IntKind.i64.wrap ((a : Int) + (z : Int)) = (m : Int) := by rw [IntKind.wrap_i64]; omega
            by_cases hlt : b ≤ n
            · have hle : (b : Int) ≤ (n : Int) := by omega
              obtain ⟨b', hb'⟩ : ∃ b', b' = b + z2 := ⟨_, rfl⟩
              have hwb : IntKind.i64.wrap ((b : Int) + (z2 : Int)) = (b' : Int) := by rw [IntKind.wrap_i64]; omega
              have kr := fun w' (hx : Ext wr w') => wo_sym pl g n c T B HB.out hN (b - a) a m b X w' (Nat.le_refl _) (by omega) (by omega) hlt (r4.ext hx) (by rw [hm]; exact r3.mrg (by omega) hlt (by omega)) (fun w'' h => HF.out w'' ((HC.out.ext hx).trans h))
              simp only [SymSaid] at kr
              have KI := Lib.hid kr
              have hend : ∀ Z w', SrtF T B Z a b → FrmF X Z a b → ArF w' g n Z → b' = b + z2 ∧ b ≤ n ∧ ∃ X, UpF T B X n z b ∧ ArF w' g n X := fun Z w' h1 h2 h3 => ⟨hb', hlt, Z, by
                have hbe : b = a + 2 * z := by omega
                rw [hbe] at h1 h2 ⊢
                exact r3.step z0 (by omega) h2 h1, h3⟩
              have HE := Lib.hid hend
              have HME := Lib.hid (show a < b ∧ b ≤ n by omega)
              clear hend kr hb' r1 r2 r3 r4 hN HR hlt z0 z1 ze hm
              go_wp2_with fail
              refine (KI.out _ (by repeat' (first | (with_reducible exact Ext.refl _) | (with_reducible assumption) | (with_reducible refine Ext.alloc ?_ _) | (with_reducible refine Ext.drewN ?_ _) | (with_reducible refine Ext.drew ?_) | (with_reducible refine Ext.trans ?_ (by assumption))))).mono ?_
              rintro e w1 ⟨rfl, hr, hc⟩
              have HRR := Lib.hid hr
              have HCC := Lib.hid (HC.out.trans hc)
              clear hr hc KI
              go_wp2_with fail
              go_roundw
              case rel => exact ⟨b, b', rfl, by go_num, Lib.hid (by obtain ⟨Z, h1, h2, h3⟩ := HRR.out; exact HE.out Z _ h1 h2 (h3.ext (by repeat' (first | (with_reducible exact Ext.refl _) | (with_reducible assumption) | (with_reducible refine Ext.alloc ?_ _) | (with_reducible refine Ext.drewN ?_ _) | (with_reducible refine Ext.drew ?_) | (with_reducible refine Ext.trans ?_ (by assumption)))))), Lib.hid (HCC.out.ext (by repeat' (first | (with_reducible exact Ext.refl _) | (with_reducible assumption) | (with_reducible refine Ext.alloc ?_ _) | (with_reducible refine Ext.drewN ?_ _) | (with_reducible refine Ext.drew ?_) | (with_reducible refine Ext.trans ?_ (by assumption)))))⟩
              case measure => have := HME.out; simp [intOf]; omega
            · have hle : ¬ (b : Int) ≤ (n : Int) := by omega
              by_cases hmn : m < n
              · have hmi : (m : Int) < (n : Int) := by omega
                have kr := fun w' (hx : Ext wr w') => wo_sym pl g n c T B HB.out hN (n - a) a m n X w' (Nat.le_refl _) (by omega) hmn (Nat.le_refl _) (r4.ext hx) (by rw [hm]; exact r3.mrg (by omega) (Nat.le_refl _) (by omega)) (fun w'' h => HF.out w'' ((HC.out.ext hx).trans h))
                simp only [SymSaid] at kr
                have KI := Lib.hid kr
                have hend : ∀ Z, SrtF T B Z a n → FrmF X Z a n → BlkF T B Z n z2 := fun Z h1 h2 => by rw [ze]; exact r3.last (by omega) h2 h1
                have HE := Lib.hid hend
                clear hend kr r1 r2 r3 r4 hN HR hlt z0 z1 ze hm hmn
                go_wp2_with fail
                refine (KI.out _ (by repeat' (first | (with_reducible exact Ext.refl _) | (with_reducible assumption) | (with_reducible refine Ext.alloc ?_ _) | (with_reducible refine Ext.drewN ?_ _) | (with_reducible refine Ext.drew ?_) | (with_reducible refine Ext.trans ?_ (by assumption))))).mono ?_
                rintro e w1 ⟨rfl, hr, hc⟩
                have HRR := Lib.hid hr
                have HCC := Lib.hid (HC.out.trans hc)
                clear hr hc KI
                go_wp2_with fail
                go_roundw
                case rel => exact ⟨z2, by go_num, Lib.hid (by obtain ⟨Z, h1, h2, h3⟩ := HRR.out; have := HZ.out; have := HN.out; exact ⟨by omega, by omega, Z, HE.out Z h1 h2, h3.ext (by repeat' (first | (with_reducible exact Ext.refl _) | (with_reducible assumption) | (with_reducible refine Ext.alloc ?_ _) | (with_reducible refine Ext.drewN ?_ _) | (with_reducible refine Ext.drew ?_) | (with_reducible refine Ext.trans ?_ (by assumption))))⟩), Lib.hid (HCC.out.ext (by repeat' (first | (with_reducible exact Ext.refl _) | (with_reducible assumption) | (with_reducible refine Ext.alloc ?_ _) | (with_reducible refine Ext.drewN ?_ _) | (with_reducible refine Ext.drew ?_) | (with_reducible refine Ext.trans ?_ (by assumption)))))⟩
                case measure => have := HZ.out; simp [intOf]; omega
              · have hmi : ¬ (m : Int) < (n : Int) := by omega
                have HE : Hid (BlkF T B X n z2) := Lib.hid (by rw [ze]; exact r3.last (by omega) (FrmF.refl _ _ _) (r3.dv2 (by omega)))
                have HRR := Lib.hid r4
                clear r1 r2 r3 r4 hN HR hlt z0 z1 ze hm hmn
                go_wp2_with fail
                go_roundw
                case rel => exact ⟨z2, by go_num, Lib.hid (by have := HZ.out; have := HN.out; exact ⟨by omega, by omega, X, HE.out, HRR.out.ext (by repeat' (first | (with_reducible exact Ext.refl _) | (with_reducible assumption) | (with_reducible refine Ext.alloc ?_ _) | (with_reducible refine Ext.drewN ?_ _) | (with_reducible refine Ext.drew ?_) | (with_reducible refine Ext.trans ?_ (by assumption))))⟩), Lib.hid (HC.out.ext (by repeat' (first | (with_reducible exact Ext.refl _) | (with_reducible assumption) | (with_reducible refine Ext.alloc ?_ _) | (with_reducible refine Ext.drewN ?_ _) | (with_reducible refine Ext.drew ?_) | (with_reducible refine Ext.trans ?_ (by assumption)))))⟩
                case measure => have := HZ.out; simp [intOf]; omega
        · have hzi : ¬ (z : Int) < (n : Int) := by omega
          have HS := Lib.hid ((r3 0 (Nat.dvd_zero _)).2.sub (Nat.le_refl 0) (show n ≤ min (0 + z) n by omega))
          have HRR := Lib.hid r4
          clear r1 r2 r3 r4 HR hN hlt
          go_wp2_with fail
          go_end0
          exact ⟨rfl, ⟨X, HS.out, HRR.out⟩, HC.out⟩

theorem wo_sort (pl g n c : Nat) (T B : Nat → Int) (w : World) (ha : ArF w g n (fun k => k)) (hB : ∀ i, 0 < B i) (hn : n ≤ 1000) (hF : ∀ w', Chg [g] w w' → FrAt w' pl n T B) :
    Calls Try.prog 13 #[.slice (some ⟨g, 0, none⟩) n c, .func (.func 14) #[] #[.pointer (some ⟨pl, 0, none⟩)]] w fun e w' => e = .returned (.tuple #[]) ∧ (∃ Z, SrtF T B Z 0 n ∧ ArF w' g n Z) ∧ Chg [g] w w' := by
  have KEY := Lib.hid (wo_stable pl g n c T B w ha hB hn hF)
  clear ha hB hF hn
  go_enter Try.func13, Try.ntmps13
  go_wp2_with fail
  refine KEY.out.mono ?_
  rintro e w1 ⟨rfl, hM, hc⟩
  have HM := Lib.hid hM
  clear hM
  go_wp2_with fail
  go_end0
  exact ⟨rfl, HM.out, hc⟩
end Go.Proofs.Ythoioocfembkgaa
