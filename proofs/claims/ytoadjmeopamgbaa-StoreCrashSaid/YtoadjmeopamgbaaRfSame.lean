/-
  gradinelaw06.same. No condition but that both stores lie in memory.
-/
import Derived.Test.YtoadjmeopamgbaaRfLaw
namespace Go.Proofs.Ytoadjmeopamgbaa
open Go.RowKit

def BlkEq (h : Sh) (d : Dk) (x : RX) (n : Nat) : Prop := ∀ j, j < n → sBlk h.s (d.rows.getD (1 + j) []) = (x.int 0 j, x.data j)
set_option maxRecDepth 100000 in
set_option maxHeartbeats 4000000 in
theorem lsame (w : World) (F : List Nat) (ps p bl : Nat) (h : Sh) (d : Dk) (st : StAt w F ps p bl h d) (G : List Nat) (pr : Nat) (g : Nat → Nat) (x : RX) (r : RefAt w G pr g h x) (v : Bool) (hv : v = true ↔ BlkEq h d x h.b) :
    Calls Try.prog 17 #[.pointer (some ⟨ps, 0, none⟩), .pointer (some ⟨pr, 0, none⟩)] w fun e w' => e = .returned (.bool v) ∧ Ext w w' := by
  obtain ⟨c0, _, _, _⟩ := r.heads
  obtain ⟨cp, hcp⟩ := r.rows
  have c4 := (hcp 0 (by omega)).1
  have c5 := (hcp 1 (by omega)).1
  have hb2 := st.ok.b2
  obtain ⟨Bn, hB⟩ : ∃ y, y = h.b := ⟨_, rfl⟩
  obtain ⟨g0, eg0⟩ : ∃ y, y = g 0 := ⟨_, rfl⟩
  obtain ⟨g1, eg1⟩ : ∃ y, y = g 1 := ⟨_, rfl⟩
  obtain ⟨p0, ep0⟩ : ∃ y, y = cp 0 := ⟨_, rfl⟩
  obtain ⟨p1, ep1⟩ : ∃ y, y = cp 1 := ⟨_, rfl⟩
  have er0 : rLen h 0 = Bn := by rw [hB]; rfl
  have er1 : rLen h 1 = Bn := by rw [hB]; rfl
  simp only [Nat.reduceAdd] at c4 c5
  rw [← eg0, er0, ← ep0] at c4
  rw [← eg1, er1, ← ep1] at c5
  have HK := Lib.hid (fun (j : Nat) (hj : j < Bn) => (show w.cell? ⟨g0, j, none⟩ = some (.int .i64 (x.int 0 j)) by rw [eg0]; exact r.at (j := 0) (by omega) (by omega) (by rw [er0]; exact hj)))
  have HKD := Lib.hid (fun (j : Nat) (hj : j < Bn) => (show ∃ v, w.cell? ⟨g1, j, none⟩ = some v ∧ RdI .u8 w v (x.data j) by rw [eg1]; obtain ⟨v, h1, h2, _⟩ := r.atD (i := j) (by rw [← hB]; exact hj); exact ⟨v, h1, h2⟩))
  have HRD := Lib.hid (fun w' (hx : Ext w w') j (hj : j < Bn) => sRead w' F ps p bl h d (st.ext hx) j (by rw [← hB]; exact hj))
  have HRO := Lib.hid (fun w' (hx : Ext w w') => sRead_out w' F ps p bl h d (st.ext hx) (Bn : Nat) (by rw [hB]; omega))
  rw [← hB] at c0 hv hb2
  have HV := Lib.hid hv
  clear st r hcp eg0 eg1 er0 er1 ep0 ep1 hB hv
  go_enter Try.func17, Try.ntmps17
  go_wp2_with fail
  go_loopw [4, 5, 16] (fun cr _ cj ws => ∃ j : Nat, j ≤ Bn ∧ cj = .int .i64 j ∧ cr = .bool false ∧ Hid (BlkEq h d x j) ∧ Ext w ws) (fun _ _ cj _ => Bn - (intOf cj).toNat)
  case atStart => exact ⟨0, Nat.zero_le _, rfl, rfl, Lib.hid (fun j hj => absurd hj (by omega)), Ext.refl _⟩
  case round =>
    obtain ⟨j, hj, rfl, rfl, HE, hx⟩ := hrel
    have c0 := hx.cellv c0
    have c4 := hx.cellv c4
    have c5 := hx.cellv c5
    by_cases hlt : j < Bn
    case neg =>
      obtain rfl : j = Bn := by omega
      have HR := Lib.hid (HRO.out wr hx)
      obtain rfl : v = true := HV.out.2 HE.out
      go_wp2_with fail
      refine HR.out.mono ?_
      rintro e wx ⟨rfl, hxx⟩
      go_wp2_with fail
      go_ret
      exact ⟨rfl, hx.trans (hxx.trans (by repeat' (first | (with_reducible exact Ext.refl _) | (with_reducible assumption) | (with_reducible refine Ext.alloc ?_ _) | (with_reducible refine Ext.drewN ?_ _) | (with_reducible refine Ext.drew ?_) | (with_reducible refine Ext.trans ?_ (by assumption)))))⟩
    have hji : (j : Int) < (Bn : Int) := by omega
    have k0 := hx.cellv (HK.out j hlt)
    obtain ⟨vd, k1, hvd⟩ := HKD.out j hlt
    have HVD := Lib.hid (hvd.ext hx)
    obtain ⟨ad, nd, cd, rfl⟩ := hvd.isSlice
    have k1 := hx.cellv k1
    have HR := Lib.hid (HRD.out wr hx j hlt)
    obtain ⟨u, hu⟩ : ∃ u, u = (sBlk h.s (d.rows.getD (1 + j) [])).1 := ⟨_, rfl⟩
    obtain ⟨tj, htj⟩ : ∃ u, u = (sBlk h.s (d.rows.getD (1 + j) [])).2 := ⟨_, rfl⟩
    obtain ⟨uv, huv⟩ : ∃ u, u = x.int 0 j := ⟨_, rfl⟩
    obtain ⟨tv, htv⟩ : ∃ u, u = x.data j := ⟨_, rfl⟩
    rw [← hu, ← htj] at HR
    rw [← huv] at k0
    rw [← htv] at HVD
    have HJ : Hid ((u = uv ∧ tj = tv) ↔ sBlk h.s (d.rows.getD (1 + j) []) = (x.int 0 j, x.data j)) := Lib.hid (by
      rw [hu, htj, huv, htv]
      exact ⟨fun ⟨a, b⟩ => Prod.ext a b, fun e => ⟨congrArg Prod.fst e, congrArg Prod.snd e⟩⟩)
    have HXX := Lib.hid hx
    clear hu htj huv htv hvd
    by_cases he : u = uv
    case neg =>
      have he1 : (u != uv) = true := by rw [bne_iff_ne]; exact he
      have hvf : v = false := by
        cases v with
        | false => rfl
        | true => exact absurd (HJ.out.2 (HV.out.1 rfl j hlt)).1 he
      subst hvf
      go_wp2_with fail
      refine HR.out.mono ?_
      rintro e wx ⟨vt, rfl, ho, hxx⟩
      obtain ⟨at9, nt9, ct9, rfl⟩ := ho.rd.isSlice
      have c4 := hxx.cellv c4
      have k0 := hxx.cellv k0
      clear ho
      go_wp2_with fail
      go_ret
      exact ⟨rfl, HXX.out.trans (hxx.trans (by repeat' (first | (with_reducible exact Ext.refl _) | (with_reducible assumption) | (with_reducible refine Ext.alloc ?_ _) | (with_reducible refine Ext.drewN ?_ _) | (with_reducible refine Ext.drew ?_) | (with_reducible refine Ext.trans ?_ (by assumption)))))⟩
    have he1 : (u != uv) = false := by rw [he]; simp
    go_wp2_with fail
    refine HR.out.mono ?_
    rintro e wx ⟨vt, rfl, ho, hxx⟩
    have HO := Lib.hid ho.rd
    obtain ⟨at9, nt9, ct9, rfl⟩ := ho.rd.isSlice
    have c4 := hxx.cellv c4
    have c5 := hxx.cellv c5
    have k0 := hxx.cellv k0
    have k1 := hxx.cellv k1
    have HVX := Lib.hid (HVD.out.ext hxx)
    clear ho
    go_wp2_with fail
    refine (same_any _ _ tj tv _ (HO.out.ext (by repeat' (first | (with_reducible exact Ext.refl _) | (with_reducible assumption) | (with_reducible refine Ext.alloc ?_ _) | (with_reducible refine Ext.drewN ?_ _) | (with_reducible refine Ext.drew ?_) | (with_reducible refine Ext.trans ?_ (by assumption))))) (HVX.out.ext (by repeat' (first | (with_reducible exact Ext.refl _) | (with_reducible assumption) | (with_reducible refine Ext.alloc ?_ _) | (with_reducible refine Ext.drewN ?_ _) | (with_reducible refine Ext.drew ?_) | (with_reducible refine Ext.trans ?_ (by assumption)))))).mono ?_
    rintro e wz ⟨rfl, hxz⟩
    by_cases ht : tj = tv
    · rw [show decide (tj = tv) = true from decide_eq_true ht]
      have HE2 : Hid (BlkEq h d x (j + 1)) := Lib.hid (fun i hi => by
        by_cases e : i = j
        · subst e; exact HJ.out.1 ⟨he, ht⟩
        · exact HE.out i (by omega))
      go_wp2_with fail
      go_roundw
      case rel => exact ⟨j + 1, by omega, by go_num, rfl, HE2, HXX.out.trans (hxx.trans (by repeat' (first | (with_reducible exact Ext.refl _) | (with_reducible assumption) | (with_reducible refine Ext.alloc ?_ _) | (with_reducible refine Ext.drewN ?_ _) | (with_reducible refine Ext.drew ?_) | (with_reducible refine Ext.trans ?_ (by assumption)))))⟩
      case measure => simp [intOf]; omega
    · rw [show decide (tj = tv) = false from decide_eq_false ht]
      have hvf : v = false := by
        cases v with
        | false => rfl
        | true => exact absurd (HJ.out.2 (HV.out.1 rfl j hlt)).2 ht
      subst hvf
      go_wp2_with fail
      go_ret
      exact ⟨rfl, HXX.out.trans (hxx.trans (by repeat' (first | (with_reducible exact Ext.refl _) | (with_reducible assumption) | (with_reducible refine Ext.alloc ?_ _) | (with_reducible refine Ext.drewN ?_ _) | (with_reducible refine Ext.drew ?_) | (with_reducible refine Ext.trans ?_ (by assumption)))))⟩
end Go.Proofs.Ytoadjmeopamgbaa
