/-
  gradineref14.Least. No condition but that the hints read, and are right.
-/
import Derived.Test.YtepnmclgkbphmaaKLeast2
import Derived.Test.YtepnmclgkbphmaaKCost3
namespace Go.Proofs.Ytepnmclgkbphmaa
open Go.RowKit

theorem minv_ex (k : Nat) (S U C left : Nat → Nat) : ∃ V, MinV k S U C left V := by
  have key : ∀ m, (∃ x, Way k S left x ∧ sumN (fun j => U j * rowC x C j) k ≤ m) → ∃ V, MinV k S U C left V := by
    intro m
    induction m with
    | zero =>
      rintro ⟨x, hx, h⟩
      exact ⟨0, ⟨x, hx, by omega⟩, fun _ _ => Nat.zero_le _⟩
    | succ m ih =>
      rintro ⟨x, hx, h⟩
      by_cases e : ∃ x, Way k S left x ∧ sumN (fun j => U j * rowC x C j) k ≤ m
      · exact ih e
      · have h0 : ∀ y, Way k S left y → m + 1 ≤ sumN (fun j => U j * rowC y C j) k := fun y hy => by
          rcases Nat.lt_or_ge m (sumN (fun j => U j * rowC y C j) k) with h | h
          · exact h
          · exact absurd ⟨y, hy, h⟩ e
        exact ⟨m + 1, ⟨x, hx, by have := h0 x hx; omega⟩, h0⟩
  have hw : Way k S left (fun i t => if t = 3 then S i else 0) := ⟨fun i _ => by simp, fun t ht => by
    rw [sumN_zero k (fun i _ => if_neg (by omega))]
    exact Nat.zero_le _⟩
  exact key _ ⟨_, hw, Nat.le_refl _⟩
theorem minv_le {k : Nat} {S U C left : Nat → Nat} {V : Nat} (h : MinV k S U C left V) (hS : ∀ j, j < k → S j ≤ 32) (hU : ∀ j, j < k → U j ≤ 12290000000) (hC : C 3 ≤ 1020) : V ≤ k * 401145600000000 := by
  have hw : Way k S left (fun i t => if t = 3 then S i else 0) := ⟨fun i _ => by simp, fun t ht => by
    rw [sumN_zero k (fun i _ => if_neg (by omega))]
    exact Nat.zero_le _⟩
  refine Nat.le_trans (h.2 _ hw) (sumN_le _ k (fun j hj => ?_))
  have e : rowC (fun i t => if t = 3 then S i else 0) C j = S j * C 3 := by simp [rowC, sumN]
  show U j * rowC (fun i t => if t = 3 then S i else 0) C j ≤ _
  rw [e]
  exact Nat.mul_le_mul (hU j hj) (Nat.mul_le_mul (hS j hj) hC)

set_option maxRecDepth 100000 in
set_option maxHeartbeats 16000000 in
theorem rleast (v : Value) (n : Nat) (F : Nat → Nat → Int) (L : Nat → Bool) (m : Int) (C : Nat → Nat) (B : Nat) (w0 : World) (h : RdH w0 v n F L) (ok : HsOk n F m) (hO : ∀ i, i < n → F i 2 ≤ 100000) (hC : ∀ t, t < 4 → C t ≤ 1020) (hB : B ≤ 122900) :
    ∀ (k at' : Nat), at' + k = n → ∀ (left : Nat → Nat), (∀ t, left t ≤ 16) → ∀ w, Ext w0 w →
    Calls Try.prog 25 #[v, .int .i64 (at' : Nat), .agg #[.int .i64 (left 0 : Nat), .int .i64 (left 1 : Nat), .int .i64 (left 2 : Nat)], .agg #[.int .i64 (C 0 : Nat), .int .i64 (C 1 : Nat), .int .i64 (C 2 : Nat), .int .i64 (C 3 : Nat)], .int .i64 (B : Nat)] w
      fun e w' => ∃ V : Nat, e = .returned (.int .i64 (V : Nat)) ∧ MinV k (fun j => kS F (at' + j)) (fun j => unitC B F (at' + j)) C left V ∧ Ext w w' := by
  have hn8 := ok.2.2
  intro k
  induction k with
  | zero =>
    intro at' hat left hleft w hw
    have hat' : at' = n := by omega
    subst hat'
    obtain ⟨a, c, rfl, _⟩ := h
    clear hat ok hO hC hB hw
    go_enter Try.func25, Try.ntmps25
    go_wp2_with fail
    go_ret
    exact ⟨0, rfl, MinV.zero _ _ _ _, (by repeat' (first | (with_reducible exact Ext.refl _) | (with_reducible assumption) | (with_reducible refine Ext.alloc ?_ _) | (with_reducible refine Ext.drewN ?_ _) | (with_reducible refine Ext.drew ?_) | (with_reducible refine Ext.trans ?_ (by assumption))))⟩
  | succ k ih =>
    intro at' hat left hleft w hw
    have hatn : at' < n := by omega
    have IH := Lib.hid (fun l (hl : ∀ t, l t ≤ 16) w (hw : Ext w0 w) => ih (at' + 1) (by omega) l hl w hw)
    obtain ⟨a, c, rfl, hnc, hcm, _, hs⟩ := h
    have HOK := Lib.hid ok
    obtain ⟨bb, o, rfl, hbb, hcell⟩ := hs (by omega)
    have hsz : F at' 1 = ((kS F at' : Nat) : Int) := by have := (ok.1 at' hatn).2.1; unfold kS; omega
    have hof : F at' 2 = (((F at' 2).toNat : Nat) : Int) := by have := (ok.1 at' hatn).2.2.2.2.2.1; omega
    have hof2 : (F at' 2).toNat ≤ 100000 := by have := hO at' hatn; omega
    have z1 := hw.cellv (hcell at' 1 hatn (by omega))
    have z2 := hw.cellv (hcell at' 2 hatn (by omega))
    simp only [Proofs.Ytepnmclgkbphmaa.HV, ← Nat.add_assoc, if_pos (show (1 : Nat) < 3 by omega), if_pos (show (2 : Nat) < 3 by omega), hsz] at z1 z2
    rw [hof] at z2
    obtain ⟨s1, s2⟩ := kS_le ok hatn
    have huu := unitC_le (b := B) (F := F) (i := at') hB (hO at' hatn)
    have hud : unitC B F at' = B / kS F at' * (F at' 2).toNat := rfl
    have hmb : ∀ l V, MinV k (fun j => kS F (at' + 1 + j)) (fun j => unitC B F (at' + 1 + j)) C l V → V ≤ 4000000000000000 := fun l V hV => by
      have := minv_le hV (fun j hj => (kS_le ok (show at' + 1 + j < n by omega)).2) (fun j hj => unitC_le hB (hO _ (by omega))) (hC 3 (by omega))
      have h9 : k * 401145600000000 ≤ 8 * 401145600000000 := Nat.mul_le_mul_right _ (by omega)
      omega
    obtain ⟨Sf, hSf⟩ : ∃ Sf : Nat → Nat, Sf = fun j => kS F (at' + j) := ⟨_, rfl⟩
    obtain ⟨Uf, hUf⟩ : ∃ Uf : Nat → Nat, Uf = fun j => unitC B F (at' + j) := ⟨_, rfl⟩
    have e1 : (fun j => kS F (at' + 1 + j)) = fun j => Sf (j + 1) := by rw [hSf]; funext j; show kS F (at' + 1 + j) = kS F (at' + (j + 1)); rw [show at' + 1 + j = at' + (j + 1) by omega]
    have e2 : (fun j => unitC B F (at' + 1 + j)) = fun j => Uf (j + 1) := by rw [hUf]; funext j; show unitC B F (at' + 1 + j) = unitC B F (at' + (j + 1)); rw [show at' + 1 + j = at' + (j + 1) by omega]
    rw [e1, e2] at IH hmb
    rw [← hSf, ← hUf]
    have hS0 : Sf 0 = kS F at' := by rw [hSf]; rfl
    have hU0 : Uf 0 = unitC B F at' := by rw [hUf]; rfl
    obtain ⟨S, hS⟩ : ∃ s, s = kS F at' := ⟨_, rfl⟩
    obtain ⟨O, hOe⟩ : ∃ s, s = (F at' 2).toNat := ⟨_, rfl⟩
    obtain ⟨U, hU⟩ : ∃ s, s = unitC B F at' := ⟨_, rfl⟩
    rw [← hS] at z1 s1 s2 hud hS0
    rw [← hOe] at z2 hof2 hud
    rw [← hU] at huu hud hU0
    have E2 : Hid ((B : Int) / (S : Int) * (O : Int) = ((U : Nat) : Int)) := Lib.hid (by
      rw [show (B : Int) / (S : Int) = ((B / S : Nat) : Int) by simp, hud]; simp)
    have b1 : 0 ≤ (B : Int) / (S : Int) := by rw [show (B : Int) / (S : Int) = ((B / S : Nat) : Int) by simp]; exact Int.natCast_nonneg _
    have b2 : (B : Int) / (S : Int) ≤ 122900 := by rw [show (B : Int) / (S : Int) = ((B / S : Nat) : Int) by simp]; have := Nat.div_le_self B S; omega
    have b3 : 0 ≤ (B : Int) / (S : Int) * (O : Int) := by rw [E2.out]; exact Int.natCast_nonneg _
    have b4 : (B : Int) / (S : Int) * (O : Int) ≤ 12290000000 := by rw [E2.out]; omega
    have hSi : (0 : Int) < (S : Int) := by omega
    have HMB := Lib.hid hmb
    have HS0 := Lib.hid hS0
    have HU0 := Lib.hid hU0
    have HLF := Lib.hid hleft
    have HC4 := Lib.hid hC
    have HME := Lib.hid (fun l => minv_ex k (fun j => Sf (j + 1)) (fun j => Uf (j + 1)) C l)
    have hne1 : (at' == n) = false := by rw [beq_eq_false_iff_ne]; omega
    have hne2 : decide (at' = n) = false := decide_eq_false (by omega)
    have hne3 : ((at' : Int) == (n : Int)) = false := by rw [beq_eq_false_iff_ne]; omega
    have hai : (at' : Int) < (n : Int) := by omega
    have ha0 : (0 : Int) ≤ (at' : Int) := by omega
    have hai8 : (at' : Int) ≤ 8 := by omega
    clear hs hcell hsz hof hmb hSf hUf e1 e2 hS0 hU0 hS hOe hU hud hleft hC ok hO hcm hnc ih
    go_enter Try.func25, Try.ntmps25
    go_upto_region 1 with fail
    have hwx1 : Ext w (w.alloc (.cells #[.int .i64 (left 0 : Nat), .int .i64 (left 1 : Nat), .int .i64 (left 2 : Nat)] 23)) := (Ext.refl w).alloc _
    have hil : IRow (w.alloc (.cells #[.int .i64 (left 0 : Nat), .int .i64 (left 1 : Nat), .int .i64 (left 2 : Nat)] 23)) w.heap.size 3 (fun t => (left t : Nat)) := ⟨_, _, heap_alloc_new w _, fun t ht => by
      have : t = 0 ∨ t = 1 ∨ t = 2 := by omega
      rcases this with rfl | rfl | rfl <;> rfl⟩
    have hic := (⟨_, _, heap_alloc_new (w.alloc (.cells #[.int .i64 (left 0 : Nat), .int .i64 (left 1 : Nat), .int .i64 (left 2 : Nat)] 23)) (.cells #[.int .i64 (C 0 : Nat), .int .i64 (C 1 : Nat), .int .i64 (C 2 : Nat), .int .i64 (C 3 : Nat)] 40), fun t ht => by
      have : t = 0 ∨ t = 1 ∨ t = 2 ∨ t = 3 := by omega
      rcases this with rfl | rfl | rfl | rfl <;> rfl⟩ : IRow ((w.alloc (.cells #[.int .i64 (left 0 : Nat), .int .i64 (left 1 : Nat), .int .i64 (left 2 : Nat)] 23)).alloc (.cells #[.int .i64 (C 0 : Nat), .int .i64 (C 1 : Nat), .int .i64 (C 2 : Nat), .int .i64 (C 3 : Nat)] 40)) _ 4 (fun t => (C t : Nat)))
    have hil2 := hil.ext ((Ext.refl _).alloc (.cells #[.int .i64 (C 0 : Nat), .int .i64 (C 1 : Nat), .int .i64 (C 2 : Nat), .int .i64 (C 3 : Nat)] 40))
    have hwx := hwx1.alloc (.cells #[.int .i64 (C 0 : Nat), .int .i64 (C 1 : Nat), .int .i64 (C 2 : Nat), .int .i64 (C 3 : Nat)] 40)
    have hsz2 : (w.alloc (.cells #[.int .i64 (left 0 : Nat), .int .i64 (left 1 : Nat), .int .i64 (left 2 : Nat)] 23)).heap.size = w.heap.size + 1 := by simp
    rw [hsz2] at hic
    clear hil hwx1 hsz2
    generalize ((w.alloc (.cells #[.int .i64 (left 0 : Nat), .int .i64 (left 1 : Nat), .int .i64 (left 2 : Nat)] 23)).alloc (.cells #[.int .i64 (C 0 : Nat), .int .i64 (C 1 : Nat), .int .i64 (C 2 : Nat), .int .i64 (C 3 : Nat)] 40)) = w1 at *
    obtain ⟨pl, hpl⟩ : ∃ p, p = w.heap.size := ⟨_, rfl⟩
    rw [← hpl] at hil2 hic ⊢
    obtain ⟨pc, hpc⟩ : ∃ p, p = pl + 1 := ⟨_, rfl⟩
    rw [← hpc] at hic ⊢
    have HL := Lib.hid hil2
    have HCc := Lib.hid hic
    have HZ1 := Lib.hid (hwx.cellv z1)
    have HZ2 := Lib.hid (hwx.cellv z2)
    have y1 := hwx.cellv z1
    have y2 := hwx.cellv z2
    clear hil2 hic hpl hpc z1 z2
    go_wp2_with fail
    go_quiet (fail)
    go_wp2_with fail
    rw [E2.out]
    have hl0 := HLF.out 0
    have hl1 := HLF.out 1
    have hl2 := HLF.out 2
    have hui : (U : Int) ≤ 12290000000 := by omega
    clear y1 y2 b1 b2 b3 b4 E2
    go_loopw [11, 13] (fun cz ca wr => ∃ (A : Nat) (z : Int), A ≤ S + 1 ∧ ca = .int .i64 A ∧ cz = .int .i64 z ∧ Hid (BstK k Sf Uf C left A 0 0 z) ∧ Ext w1 wr) (fun _ ca _ => S + 1 - (intOf ca).toNat)
    case atStart => exact ⟨0, -1, Nat.zero_le _, rfl, rfl, Lib.hid BstK.zero, (by repeat' (first | (with_reducible exact Ext.refl _) | (with_reducible assumption) | (with_reducible refine Ext.alloc ?_ _) | (with_reducible refine Ext.drewN ?_ _) | (with_reducible refine Ext.drew ?_) | (with_reducible refine Ext.trans ?_ (by assumption))))⟩
    case round =>
      obtain ⟨A, z, hA1, rfl, rfl, HB, hx⟩ := hrel
      have y1 := hx.cellv HZ1.out
      have x0 := (HL.out.ext hx).cell (show 0 < 3 by omega)
      have hfin : ¬ (A ≤ S ∧ A ≤ left 0) → ∃ V : Nat, z = V ∧ MinV (k + 1) Sf Uf C left V := fun hn => HB.out.all (by rw [HS0.out]; exact hn) HME.out
      have HFIN := Lib.hid hfin
      clear hfin
      by_cases hA : A ≤ S
      case neg =>
        obtain ⟨V, rfl, hV⟩ := HFIN.out (fun h => hA h.1)
        have HV := Lib.hid hV
        have hAd : decide (A ≤ S) = false := decide_eq_false hA
        clear hV
        go_wp2_with fail
        go_ret
        exact ⟨V, rfl, HV.out, hwx.trans hx⟩
      by_cases hA0 : A ≤ left 0
      case neg =>
        obtain ⟨V, rfl, hV⟩ := HFIN.out (fun h => hA0 h.2)
        have HV := Lib.hid hV
        have hAd : decide (A ≤ left 0) = false := decide_eq_false hA0
        clear hV
        go_wp2_with fail
        go_ret
        exact ⟨V, rfl, HV.out, hwx.trans hx⟩
      --[[A
      clear HFIN
      go_wp2_with fail
      obtain ⟨wo, rfl⟩ : ∃ wo : World, wo = wr := ⟨_, rfl⟩
      go_loopw [11, 14] (fun cz cb ws => ∃ (Bq : Nat) (z : Int), Bq ≤ S + 1 ∧ cb = .int .i64 Bq ∧ cz = .int .i64 z ∧ Hid (BstK k Sf Uf C left A Bq 0 z) ∧ Ext w1 ws) (fun _ cb _ => S + 1 - (intOf cb).toNat)
      case atStart => exact ⟨0, z, Nat.zero_le _, rfl, rfl, HB, hx⟩
      case round =>
        clear HB y1 x0
        obtain ⟨Bq, z, hB1, rfl, rfl, HB, hx2⟩ := hrel
        have y1 := hx2.cellv HZ1.out
        have x1 := (HL.out.ext hx2).cell (show 1 < 3 by omega)
        have HNX : Hid (¬ (A + Bq ≤ S ∧ Bq ≤ left 1) → BstK k Sf Uf C left (A + 1) 0 0 z) := Lib.hid (fun hn => HB.out.nextA (by rw [HS0.out]; exact hn))
        by_cases hB2 : A + Bq ≤ S
        case neg =>
          have HN := Lib.hid (HNX.out (fun h => hB2 h.1))
          have hBi : ¬ (A : Int) + (Bq : Int) ≤ (S : Int) := by omega
          have hBd : decide ((A : Int) + (Bq : Int) ≤ (S : Int)) = false := decide_eq_false hBi
          clear HNX HB
          go_wp2_with fail
          go_roundw
          case rel => exact ⟨A + 1, z, by omega, by go_num, rfl, HN, hx2⟩
          case measure => simp [intOf]; omega
        have hBi : (A : Int) + (Bq : Int) ≤ (S : Int) := by omega
        by_cases hB3 : Bq ≤ left 1
        case neg =>
          have HN := Lib.hid (HNX.out (fun h => hB3 h.2))
          have hBd : decide (Bq ≤ left 1) = false := decide_eq_false hB3
          clear HNX HB
          go_wp2_with fail
          go_roundw
          case rel => exact ⟨A + 1, z, by omega, by go_num, rfl, HN, hx2⟩
          case measure => simp [intOf]; omega
        --[[B
        clear HNX
        go_wp2_with fail
        obtain ⟨wp, rfl⟩ : ∃ wp : World, wp = wr := ⟨_, rfl⟩
        go_loopw [11, 15] (fun cz cd ws => ∃ (D : Nat) (z : Int), D ≤ S + 1 ∧ cd = .int .i64 D ∧ cz = .int .i64 z ∧ Hid (BstK k Sf Uf C left A Bq D z) ∧ Ext w1 ws) (fun _ cd _ => S + 1 - (intOf cd).toNat)
        case atStart => exact ⟨0, z, Nat.zero_le _, rfl, rfl, HB, hx2⟩
        case round =>
          clear HB y1 x1
          obtain ⟨D, z, hD1, rfl, rfl, HB, hx3⟩ := hrel
          have y1 := hx3.cellv HZ1.out
          have x2 := (HL.out.ext hx3).cell (show 2 < 3 by omega)
          have HNX : Hid (¬ (A + Bq + D ≤ S ∧ D ≤ left 2) → BstK k Sf Uf C left A (Bq + 1) 0 z) := Lib.hid (fun hn => HB.out.nextB (by rw [HS0.out]; exact hn))
          by_cases hD2 : A + Bq + D ≤ S
          case neg =>
            have HN := Lib.hid (HNX.out (fun h => hD2 h.1))
            have hDi : ¬ (A : Int) + (Bq : Int) + (D : Int) ≤ (S : Int) := by omega
            have hDd : decide ((A : Int) + (Bq : Int) + (D : Int) ≤ (S : Int)) = false := decide_eq_false hDi
            clear HNX HB
            go_wp2_with fail
            go_roundw
            case rel => exact ⟨Bq + 1, z, by omega, by go_num, rfl, HN, hx3⟩
            case measure => simp [intOf]; omega
          have hDi : (A : Int) + (Bq : Int) + (D : Int) ≤ (S : Int) := by omega
          by_cases hD3 : D ≤ left 2
          case neg =>
            have HN := Lib.hid (HNX.out (fun h => hD3 h.2))
            have hDd : decide (D ≤ left 2) = false := decide_eq_false hD3
            clear HNX HB
            go_wp2_with fail
            go_roundw
            case rel => exact ⟨Bq + 1, z, by omega, by go_num, rfl, HN, hx3⟩
            case measure => simp [intOf]; omega
          --[[C
          clear HNX
          have x0 := (HL.out.ext hx3).cell (show 0 < 3 by omega)
          have x1 := (HL.out.ext hx3).cell (show 1 < 3 by omega)
          have c0 := (HCc.out.ext hx3).cell (show 0 < 4 by omega)
          have c1 := (HCc.out.ext hx3).cell (show 1 < 4 by omega)
          have c2 := (HCc.out.ext hx3).cell (show 2 < 4 by omega)
          have c3 := (HCc.out.ext hx3).cell (show 3 < 4 by omega)
          have hFs : FsK (Sf 0) left A Bq D := by unfold FsK; rw [HS0.out]; omega
          have hq0 : ((lessK left A Bq D 0 : Nat) : Int) = ((left 0 : Nat) : Int) - (A : Int) := by show ((left 0 - A : Nat) : Int) = _; omega
          have hq1 : ((lessK left A Bq D 1 : Nat) : Int) = ((left 1 : Nat) : Int) - (Bq : Int) := by show ((left 1 - Bq : Nat) : Int) = _; omega
          have hq2 : ((lessK left A Bq D 2 : Nat) : Int) = ((left 2 : Nat) : Int) - (D : Int) := by show ((left 2 - D : Nat) : Int) = _; omega
          have hca : (((at' + 1 : Nat)) : Int) = (at' : Int) + 1 := by omega
          have IHX := IH.out (lessK left A Bq D) (fun t => Nat.le_trans (Nat.sub_le _ _) (HLF.out t))
          rw [hq0, hq1, hq2, hca] at IHX
          obtain ⟨N, hN⟩ : ∃ N, N = S - A - Bq - D := ⟨_, rfl⟩
          have hNi : (S : Int) - (A : Int) - (Bq : Int) - (D : Int) = (N : Int) := by omega
          have hC0 := HC4.out 0 (by omega)
          have hC1 := HC4.out 1 (by omega)
          have hC2 := HC4.out 2 (by omega)
          have hC3 := HC4.out 3 (by omega)
          have hval : valK (Sf 0) (Uf 0) C A Bq D = U * (A * C 0 + Bq * C 1 + D * C 2 + N * C 3) := by unfold valK; rw [HS0.out, HU0.out, hN]
          have HVAL := Lib.hid hval
          have HFS := Lib.hid hFs
          have HNI := Lib.hid hNi
          obtain ⟨k0, hk0⟩ : ∃ x, x = C 0 := ⟨_, rfl⟩
          obtain ⟨k1, hk1⟩ : ∃ x, x = C 1 := ⟨_, rfl⟩
          obtain ⟨k2, hk2⟩ : ∃ x, x = C 2 := ⟨_, rfl⟩
          obtain ⟨k3, hk3⟩ : ∃ x, x = C 3 := ⟨_, rfl⟩
          rw [← hk0] at c0 hC0 IHX HVAL
          rw [← hk1] at c1 hC1 IHX HVAL
          rw [← hk2] at c2 hC2 IHX HVAL
          rw [← hk3] at c3 hC3 IHX HVAL
          obtain ⟨l0, hl0'⟩ : ∃ x, x = left 0 := ⟨_, rfl⟩
          obtain ⟨l1, hl1'⟩ : ∃ x, x = left 1 := ⟨_, rfl⟩
          obtain ⟨l2, hl2'⟩ : ∃ x, x = left 2 := ⟨_, rfl⟩
          rw [← hl0'] at x0 IHX hl0 hA0
          rw [← hl1'] at x1 IHX hl1 hB3
          rw [← hl2'] at x2 IHX hl2 hD3
          have HLL := Lib.hid (HL.out.congr (V' := fun t => if t = 0 then (l0 : Int) else if t = 1 then (l1 : Int) else (l2 : Int)) (fun j hj => by
            have : j = 0 ∨ j = 1 ∨ j = 2 := by omega
            rcases this with rfl | rfl | rfl
            · rw [hl0']; rfl
            · rw [hl1']; rfl
            · rw [hl2']; rfl))
          have HCL := Lib.hid (HCc.out.congr (V' := fun t => if t = 0 then (k0 : Int) else if t = 1 then (k1 : Int) else if t = 2 then (k2 : Int) else (k3 : Int)) (fun j hj => by
            have : j = 0 ∨ j = 1 ∨ j = 2 ∨ j = 3 := by omega
            rcases this with rfl | rfl | rfl | rfl
            · rw [hk0]; rfl
            · rw [hk1]; rfl
            · rw [hk2]; rfl
            · rw [hk3]; rfl))
          have HIX := Lib.hid IHX
          have m0 : A * k0 ≤ 32 * 1020 := Nat.mul_le_mul (by omega) hC0
          have m1 : Bq * k1 ≤ 32 * 1020 := Nat.mul_le_mul (by omega) hC1
          have m2 : D * k2 ≤ 32 * 1020 := Nat.mul_le_mul (by omega) hC2
          have m3 : N * k3 ≤ 32 * 1020 := Nat.mul_le_mul (by omega) hC3
          have m4 : U * (A * k0 + Bq * k1 + D * k2 + N * k3) ≤ 12290000000 * 130560 := Nat.mul_le_mul huu (by omega)
          have n0 : (A : Int) * (k0 : Int) = ((A * k0 : Nat) : Int) := by simp
          have n1 : (Bq : Int) * (k1 : Int) = ((Bq * k1 : Nat) : Int) := by simp
          have n2 : (D : Int) * (k2 : Int) = ((D * k2 : Nat) : Int) := by simp
          have n3 : (N : Int) * (k3 : Int) = ((N * k3 : Nat) : Int) := by simp
          have n4 : (U : Int) * ((A : Int) * (k0 : Int) + (Bq : Int) * (k1 : Int) + (D : Int) * (k2 : Int) + (N : Int) * (k3 : Int)) = ((U * (A * k0 + Bq * k1 + D * k2 + N * k3) : Nat) : Int) := by simp
          have p0 : 0 ≤ (A : Int) * (k0 : Int) := by rw [n0]; exact Int.natCast_nonneg _
          have p0' : (A : Int) * (k0 : Int) ≤ 32640 := by rw [n0]; omega
          have p1 : 0 ≤ (Bq : Int) * (k1 : Int) := by rw [n1]; exact Int.natCast_nonneg _
          have p1' : (Bq : Int) * (k1 : Int) ≤ 32640 := by rw [n1]; omega
          have p2 : 0 ≤ (D : Int) * (k2 : Int) := by rw [n2]; exact Int.natCast_nonneg _
          have p2' : (D : Int) * (k2 : Int) ≤ 32640 := by rw [n2]; omega
          have p3 : 0 ≤ (N : Int) * (k3 : Int) := by rw [n3]; exact Int.natCast_nonneg _
          have p3' : (N : Int) * (k3 : Int) ≤ 32640 := by rw [n3]; omega
          have p4 : 0 ≤ (U : Int) * ((A : Int) * (k0 : Int) + (Bq : Int) * (k1 : Int) + (D : Int) * (k2 : Int) + (N : Int) * (k3 : Int)) := by rw [n4]; exact Int.natCast_nonneg _
          have p4' : (U : Int) * ((A : Int) * (k0 : Int) + (Bq : Int) * (k1 : Int) + (D : Int) * (k2 : Int) + (N : Int) * (k3 : Int)) ≤ 1604582400000000 := by rw [n4]; omega
          have N4 := Lib.hid n4
          have hw0r : Ext w0 wr := hw.trans (hwx.trans hx3)
          clear hFs hq0 hq1 hq2 hca IHX hN hNi hval hk0 hk1 hk2 hk3 hl0' hl1' hl2' m0 m1 m2 m3 m4 n0 n1 n2 n3 n4
          obtain ⟨wq, rfl⟩ : ∃ wq : World, wq = wr := ⟨_, rfl⟩
          go_upto_region 15 with fail
          have hwx9 : Ext wq (wq.alloc (.cells #[.int .i64 l0, .int .i64 l1, .int .i64 l2] 23)) := (Ext.refl wq).alloc _
          have hin : IRow (wq.alloc (.cells #[.int .i64 l0, .int .i64 l1, .int .i64 l2] 23)) wq.heap.size 3 (fun t => if t = 0 then l0 else if t = 1 then l1 else l2) := ⟨_, _, heap_alloc_new wq _, fun t ht => by
            have : t = 0 ∨ t = 1 ∨ t = 2 := by omega
            rcases this with rfl | rfl | rfl <;> rfl⟩
          have hx9 := hx3.trans hwx9
          have hw09 := hw0r.trans hwx9
          obtain ⟨pn, hpn⟩ : ∃ p, p = wq.heap.size := ⟨_, rfl⟩
          rw [← hpn] at hin ⊢
          have hpln : pl ≠ pn := by have := (HL.out.ext hx3).lt; omega
          have hpw1 : w1.heap.size ≤ pn := by have := hx3.size; omega
          have hpcn : pc ≠ pn := by have := (HCc.out.ext hx3).lt; omega
          clear hwx9 x0 x1 x2 y1 c0 c1 c2 c3 hpn
          generalize wq.alloc (.cells #[.int .i64 l0, .int .i64 l1, .int .i64 l2] 23) = w9 at *
          have HX := Lib.hid hx9
          have HP := Lib.hid hpln
          have HPc := Lib.hid hpcn
          have HIL := Lib.hid (HLL.out.ext hx9)
          have HIC := Lib.hid (HCL.out.ext hx9)
          have HIZ := Lib.hid (hx9.cellv HZ1.out)
          have HPW := Lib.hid hpw1
          clear hpln hpcn hpw1
          have xx0 : w9.cell? ⟨pl, 0, none⟩ = some (.int .i64 (l0 : Nat)) := HIL.out.cell (show 0 < 3 by omega)
          have xn0 := hin.free 0
          obtain ⟨ov0, xm0⟩ : ∃ v, w9.cell? ⟨pn, 0, none⟩ = some v := ⟨_, hin.cell (show 0 < 3 by omega)⟩
          go_upto_region 16 with fail
          have hin0 : IRow (w9.setCell ⟨pn, 0, none⟩ (.int .i64 ((l0 : Int) - (A : Int)))) pn 3 (fun t => if t = 0 then ((l0 : Nat) : Int) - ((A : Nat) : Int) else if t = 1 then ((l1 : Nat) : Int) else ((l2 : Nat) : Int)) := hin.set (show 0 < 3 by omega) _ (fun t ht => by
            have : t = 0 ∨ t = 1 ∨ t = 2 := by omega
            rcases this with rfl | rfl | rfl <;> rfl)
          have hil0 := HIL.out.other (a := ⟨pn, 0, none⟩) HP.out (.int .i64 ((l0 : Int) - (A : Int)))
          have hic0 := HIC.out.other (a := ⟨pn, 0, none⟩) HPc.out (.int .i64 ((l0 : Int) - (A : Int)))
          have hxs0 : Ext w1 (w9.setCell ⟨pn, 0, none⟩ (.int .i64 ((l0 : Int) - (A : Int)))) := Below.setCell HX.out (p := ⟨pn, 0, none⟩) HPW.out _
          clear HIL HIC xx0 xn0 xm0 hin
          generalize w9.setCell ⟨pn, 0, none⟩ (.int .i64 ((l0 : Int) - (A : Int))) = wn0 at *
          have HIL := Lib.hid hil0
          have HIC := Lib.hid hic0
          have HX1 := Lib.hid hxs0
          clear hil0 hic0 hxs0
          have xx1 : wn0.cell? ⟨pl, 1, none⟩ = some (.int .i64 (l1 : Nat)) := HIL.out.cell (show 1 < 3 by omega)
          have xn1 := hin0.free 1
          obtain ⟨ov1, xm1⟩ : ∃ v, wn0.cell? ⟨pn, 1, none⟩ = some v := ⟨_, hin0.cell (show 1 < 3 by omega)⟩
          go_upto_region 17 with fail
          have hin1 : IRow (wn0.setCell ⟨pn, 1, none⟩ (.int .i64 ((l1 : Int) - (Bq : Int)))) pn 3 (fun t => if t = 0 then ((l0 : Nat) : Int) - ((A : Nat) : Int) else if t = 1 then ((l1 : Nat) : Int) - ((Bq : Nat) : Int) else ((l2 : Nat) : Int)) := hin0.set (show 1 < 3 by omega) _ (fun t ht => by
            have : t = 0 ∨ t = 1 ∨ t = 2 := by omega
            rcases this with rfl | rfl | rfl <;> rfl)
          have hil1 := HIL.out.other (a := ⟨pn, 1, none⟩) HP.out (.int .i64 ((l1 : Int) - (Bq : Int)))
          have hic1 := HIC.out.other (a := ⟨pn, 1, none⟩) HPc.out (.int .i64 ((l1 : Int) - (Bq : Int)))
          have hxs1 : Ext w1 (wn0.setCell ⟨pn, 1, none⟩ (.int .i64 ((l1 : Int) - (Bq : Int)))) := Below.setCell HX1.out (p := ⟨pn, 1, none⟩) HPW.out _
          clear HIL HIC xx1 xn1 xm1 hin0
          generalize wn0.setCell ⟨pn, 1, none⟩ (.int .i64 ((l1 : Int) - (Bq : Int))) = wn1 at *
          have HIL := Lib.hid hil1
          have HIC := Lib.hid hic1
          have HX2 := Lib.hid hxs1
          clear hil1 hic1 hxs1
          have xx2 : wn1.cell? ⟨pl, 2, none⟩ = some (.int .i64 (l2 : Nat)) := HIL.out.cell (show 2 < 3 by omega)
          have xn2 := hin1.free 2
          obtain ⟨ov2, xm2⟩ : ∃ v, wn1.cell? ⟨pn, 2, none⟩ = some v := ⟨_, hin1.cell (show 2 < 3 by omega)⟩
          go_upto_region 18 with fail
          have hin2 : IRow (wn1.setCell ⟨pn, 2, none⟩ (.int .i64 ((l2 : Int) - (D : Int)))) pn 3 (fun t => if t = 0 then ((l0 : Nat) : Int) - ((A : Nat) : Int) else if t = 1 then ((l1 : Nat) : Int) - ((Bq : Nat) : Int) else ((l2 : Nat) : Int) - ((D : Nat) : Int)) := hin1.set (show 2 < 3 by omega) _ (fun t ht => by
            have : t = 0 ∨ t = 1 ∨ t = 2 := by omega
            rcases this with rfl | rfl | rfl <;> rfl)
          have hil2 := HIL.out.other (a := ⟨pn, 2, none⟩) HP.out (.int .i64 ((l2 : Int) - (D : Int)))
          have hic2 := HIC.out.other (a := ⟨pn, 2, none⟩) HPc.out (.int .i64 ((l2 : Int) - (D : Int)))
          have hxs2 : Ext w1 (wn1.setCell ⟨pn, 2, none⟩ (.int .i64 ((l2 : Int) - (D : Int)))) := Below.setCell HX2.out (p := ⟨pn, 2, none⟩) HPW.out _
          clear HIL HIC xx2 xn2 xm2 hin1
          generalize wn1.setCell ⟨pn, 2, none⟩ (.int .i64 ((l2 : Int) - (D : Int))) = wn2 at *
          have HIL := Lib.hid hil2
          have HIC := Lib.hid hic2
          have HX3 := Lib.hid hxs2
          clear hil2 hic2 hxs2
          have hxz := HX3.out.cellv HZ1.out
          clear hx9 HX HX1 HX2 HIZ
          go_upto_region 19 with fail
          rw [HNI.out]
          have hw0n : Ext w0 wn2 := (hw.trans hwx).trans HX3.out
          have n0 : wn2.cell? ⟨pn, 0, none⟩ = some (.int .i64 ((l0 : Int) - (A : Int))) := hin2.cell (show 0 < 3 by omega)
          have n1 : wn2.cell? ⟨pn, 1, none⟩ = some (.int .i64 ((l1 : Int) - (Bq : Int))) := hin2.cell (show 1 < 3 by omega)
          have n2 : wn2.cell? ⟨pn, 2, none⟩ = some (.int .i64 ((l2 : Int) - (D : Int))) := hin2.cell (show 2 < 3 by omega)
          have c0 : wn2.cell? ⟨pc, 0, none⟩ = some (.int .i64 (k0 : Nat)) := HIC.out.cell (show 0 < 4 by omega)
          have c1 : wn2.cell? ⟨pc, 1, none⟩ = some (.int .i64 (k1 : Nat)) := HIC.out.cell (show 1 < 4 by omega)
          have c2 : wn2.cell? ⟨pc, 2, none⟩ = some (.int .i64 (k2 : Nat)) := HIC.out.cell (show 2 < 4 by omega)
          have c3 : wn2.cell? ⟨pc, 3, none⟩ = some (.int .i64 (k3 : Nat)) := HIC.out.cell (show 3 < 4 by omega)
          clear hin2 HIL HIC HP HPc HPW hxz
          have hwA : IntKind.i64.wrap ((at' : Int) + 1) = (at' : Int) + 1 := IntWalk.i64_in _ (by omega)
          have hn0' : 0 ≤ (l0 : Int) - (A : Int) := by omega
          have hn1' : 0 ≤ (l1 : Int) - (Bq : Int) := by omega
          have hn2' : 0 ≤ (l2 : Int) - (D : Int) := by omega
          go_region_held3 (fun w' => w'.cell? ⟨pn, 0, none⟩ = some (.int .i64 ((l0 : Int) - (A : Int))) ∧ w'.cell? ⟨pn, 1, none⟩ = some (.int .i64 ((l1 : Int) - (Bq : Int))) ∧ w'.cell? ⟨pn, 2, none⟩ = some (.int .i64 ((l2 : Int) - (D : Int))) ∧ w'.cell? ⟨pc, 0, none⟩ = some (.int .i64 (k0 : Nat)) ∧ w'.cell? ⟨pc, 1, none⟩ = some (.int .i64 (k1 : Nat)) ∧ w'.cell? ⟨pc, 2, none⟩ = some (.int .i64 (k2 : Nat)) ∧ w'.cell? ⟨pc, 3, none⟩ = some (.int .i64 (k3 : Nat)) ∧ Ext wn2 w') (exact ⟨Ext.cellv (w := wn2) (by repeat' (first | (with_reducible exact Ext.refl _) | (with_reducible assumption) | (with_reducible refine Ext.alloc ?_ _) | (with_reducible refine Ext.drewN ?_ _) | (with_reducible refine Ext.drew ?_) | (with_reducible refine Ext.trans ?_ (by assumption)))) n0, Ext.cellv (w := wn2) (by repeat' (first | (with_reducible exact Ext.refl _) | (with_reducible assumption) | (with_reducible refine Ext.alloc ?_ _) | (with_reducible refine Ext.drewN ?_ _) | (with_reducible refine Ext.drew ?_) | (with_reducible refine Ext.trans ?_ (by assumption)))) n1, Ext.cellv (w := wn2) (by repeat' (first | (with_reducible exact Ext.refl _) | (with_reducible assumption) | (with_reducible refine Ext.alloc ?_ _) | (with_reducible refine Ext.drewN ?_ _) | (with_reducible refine Ext.drew ?_) | (with_reducible refine Ext.trans ?_ (by assumption)))) n2, Ext.cellv (w := wn2) (by repeat' (first | (with_reducible exact Ext.refl _) | (with_reducible assumption) | (with_reducible refine Ext.alloc ?_ _) | (with_reducible refine Ext.drewN ?_ _) | (with_reducible refine Ext.drew ?_) | (with_reducible refine Ext.trans ?_ (by assumption)))) c0, Ext.cellv (w := wn2) (by repeat' (first | (with_reducible exact Ext.refl _) | (with_reducible assumption) | (with_reducible refine Ext.alloc ?_ _) | (with_reducible refine Ext.drewN ?_ _) | (with_reducible refine Ext.drew ?_) | (with_reducible refine Ext.trans ?_ (by assumption)))) c1, Ext.cellv (w := wn2) (by repeat' (first | (with_reducible exact Ext.refl _) | (with_reducible assumption) | (with_reducible refine Ext.alloc ?_ _) | (with_reducible refine Ext.drewN ?_ _) | (with_reducible refine Ext.drew ?_) | (with_reducible refine Ext.trans ?_ (by assumption)))) c2, Ext.cellv (w := wn2) (by repeat' (first | (with_reducible exact Ext.refl _) | (with_reducible assumption) | (with_reducible refine Ext.alloc ?_ _) | (with_reducible refine Ext.drewN ?_ _) | (with_reducible refine Ext.drew ?_) | (with_reducible refine Ext.trans ?_ (by assumption)))) c3, (by repeat' (first | (with_reducible exact Ext.refl _) | (with_reducible assumption) | (with_reducible refine Ext.alloc ?_ _) | (with_reducible refine Ext.drewN ?_ _) | (with_reducible refine Ext.drew ?_) | (with_reducible refine Ext.trans ?_ (by assumption))))⟩) ((go_at_call 25; refine (HIX.out _ (hw0n.trans (by repeat' (first | (with_reducible exact Ext.refl _) | (with_reducible assumption) | (with_reducible refine Ext.alloc ?_ _) | (with_reducible refine Ext.drewN ?_ _) | (with_reducible refine Ext.drew ?_) | (with_reducible refine Ext.trans ?_ (by assumption)))))).mono ?_; rintro e wL ⟨V, rfl, hV, hxL⟩; have hVi : (V : Int) ≤ 4000000000000000 := Int.ofNat_le.2 (HMB.out _ V hV)))
          all_goals
            have hxD : Ext w1 wL := HX3.out.trans (by repeat' (first | (with_reducible exact Ext.refl _) | (with_reducible assumption) | (with_reducible refine Ext.alloc ?_ _) | (with_reducible refine Ext.drewN ?_ _) | (with_reducible refine Ext.drew ?_) | (with_reducible refine Ext.trans ?_ (by assumption))))
            have g0 : IntKind.i64.wrap ((A : Int) * (k0 : Int)) = (A : Int) * (k0 : Int) := IntWalk.i64_in _ (by omega)
            have g1 : IntKind.i64.wrap ((Bq : Int) * (k1 : Int)) = (Bq : Int) * (k1 : Int) := IntWalk.i64_in _ (by omega)
            have g2 : IntKind.i64.wrap ((D : Int) * (k2 : Int)) = (D : Int) * (k2 : Int) := IntWalk.i64_in _ (by omega)
            have g3 : IntKind.i64.wrap ((N : Int) * (k3 : Int)) = (N : Int) * (k3 : Int) := IntWalk.i64_in _ (by omega)
            have g4 : IntKind.i64.wrap ((A : Int) * (k0 : Int) + (Bq : Int) * (k1 : Int)) = (A : Int) * (k0 : Int) + (Bq : Int) * (k1 : Int) := IntWalk.i64_in _ (by omega)
            have g5 : IntKind.i64.wrap ((A : Int) * (k0 : Int) + (Bq : Int) * (k1 : Int) + (D : Int) * (k2 : Int)) = (A : Int) * (k0 : Int) + (Bq : Int) * (k1 : Int) + (D : Int) * (k2 : Int) := IntWalk.i64_in _ (by omega)
            have g6 : IntKind.i64.wrap ((A : Int) * (k0 : Int) + (Bq : Int) * (k1 : Int) + (D : Int) * (k2 : Int) + (N : Int) * (k3 : Int)) = (A : Int) * (k0 : Int) + (Bq : Int) * (k1 : Int) + (D : Int) * (k2 : Int) + (N : Int) * (k3 : Int) := IntWalk.i64_in _ (by omega)
            have g7 : IntKind.i64.wrap ((U : Int) * ((A : Int) * (k0 : Int) + (Bq : Int) * (k1 : Int) + (D : Int) * (k2 : Int) + (N : Int) * (k3 : Int))) = ((U * (A * k0 + Bq * k1 + D * k2 + N * k3) : Nat) : Int) := by rw [IntWalk.i64_in _ (by omega), N4.out]
            have g8 : IntKind.i64.wrap (((U * (A * k0 + Bq * k1 + D * k2 + N * k3) : Nat) : Int) + (V : Int)) = ((U * (A * k0 + Bq * k1 + D * k2 + N * k3) + V : Nat) : Int) := by
              have q1 := N4.out
              rw [IntWalk.i64_in _ (by omega)]
              simp
            rw [g0, g1, g2, g3, g4, g5, g6, g7, g8]
            have HT : Hid (U * (A * k0 + Bq * k1 + D * k2 + N * k3) + V = valK (Sf 0) (Uf 0) C A Bq D + V) := Lib.hid (by rw [HVAL.out])
            have hTl : U * (A * k0 + Bq * k1 + D * k2 + N * k3) + V ≤ 6000000000000000 := by
              have q1 := N4.out
              omega
            generalize U * (A * k0 + Bq * k1 + D * k2 + N * k3) + V = T at *
            have HV := Lib.hid hV
            clear g0 g1 g2 g3 g4 g5 g6 g7 g8 hV p0 p0' p1 p1' p2 p2' p3 p3' p4 p4' n0 n1 n2 c0 c1 c2 c3 hVi hxL
            by_cases hz0 : z < 0
            · have HN : Hid (BstK (k + 0) Sf Uf C left A Bq (D + 1) (T : Int)) := Lib.hid (by rw [HT.out]; exact HB.out.better HFS.out HV.out (.inl hz0))
              clear HB HV
              go_wp2_with fail
              go_roundw
              case rel => exact ⟨D + 1, _, by omega, by go_num, rfl, HN, hxD⟩
              case measure => simp [intOf]; omega
            · by_cases hz1 : (T : Int) < z
              · have HN : Hid (BstK (k + 0) Sf Uf C left A Bq (D + 1) (T : Int)) := Lib.hid (by rw [HT.out]; exact HB.out.better HFS.out HV.out (.inr (by rw [← HT.out]; exact hz1)))
                clear HB HV
                go_wp2_with fail
                go_roundw
                case rel => exact ⟨D + 1, _, by omega, by go_num, rfl, HN, hxD⟩
                case measure => simp [intOf]; omega
              · have HN : Hid (BstK (k + 0) Sf Uf C left A Bq (D + 1) z) := Lib.hid (HB.out.worse HFS.out HV.out (by rw [← HT.out]; omega))
                clear HB HV
                go_wp2_with fail
                go_roundw
                case rel => exact ⟨D + 1, _, by omega, by go_num, rfl, HN, hxD⟩
                case measure => simp [intOf]; omega
          --]]
        --]]
      --]]
end Go.Proofs.Ytepnmclgkbphmaa
