/-
  conf.Put of any configuration. No condition but that the hints read, and are few.
-/
import Derived.Test.YtmkobmkaalfecaaCPlaces
import Derived.Test.YtmkobmkaalfecaaRawRef
namespace Go.Proofs.Ytmkobmkaalfecaa
open Go.RowKit

/-- the bytes of the first numbers -/
def numB (N : Nat → Int) : Nat → List Int
  | 0 => []
  | k + 1 => numB N k ++ enc (N k).toNat
def hintB (F : Nat → Nat → Int) (L : Nat → Bool) (i : Nat) : List Int := enc (F i 0).toNat ++ enc (F i 1).toNat ++ enc (F i 2).toNat ++ [bit (L i)]
def hintsB (F : Nat → Nat → Int) (L : Nat → Bool) : Nat → List Int
  | 0 => []
  | i + 1 => hintsB F L i ++ hintB F L i
/-- the bytes of a configuration -/
def confB (N : Nat → Int) (n : Nat) (F : Nat → Nat → Int) (L : Nat → Bool) : List Int := numB N 16 ++ enc n ++ hintsB F L n
theorem enc_len9 {x : Int} (h : x ≤ 9223372036854775807) : (enc x.toNat).length ≤ 9 := enc_len_le 8 _ (by omega)
theorem numB_len {N : Nat → Int} (h : ∀ k, k < 16 → N k ≤ 9223372036854775807) : ∀ k, k ≤ 16 → (numB N k).length ≤ 9 * k := by
  intro k
  induction k with
  | zero => intro _; simp [numB]
  | succ k ih =>
    intro hk
    have h1 := ih (by omega)
    have h2 := enc_len9 (h k (by omega))
    simp only [numB, List.length_append]
    omega
theorem hintB_len {F : Nat → Nat → Int} {L : Nat → Bool} {i : Nat} (h : ∀ j, j < 3 → F i j ≤ 9223372036854775807) : (hintB F L i).length ≤ 28 := by
  have h0 := enc_len9 (h 0 (by omega))
  have h1 := enc_len9 (h 1 (by omega))
  have h2 := enc_len9 (h 2 (by omega))
  simp only [hintB, List.length_append, List.length_singleton]
  omega
theorem hintsB_len {F : Nat → Nat → Int} {L : Nat → Bool} {n : Nat} (h : ∀ i j, i < n → j < 3 → F i j ≤ 9223372036854775807) : ∀ i, i ≤ n → (hintsB F L i).length ≤ 28 * i := by
  intro i
  induction i with
  | zero => intro _; simp [hintsB]
  | succ i ih =>
    intro hi
    have h1 := ih (by omega)
    have h2 := hintB_len (L := L) (h i · (by omega))
    simp only [hintsB, List.length_append]
    omega
theorem CfgOk.bd {N : Nat → Int} {n : Nat} {F : Nat → Nat → Int} (ok : CfgOk N n F) : ∀ k, k < 16 → 0 ≤ N k ∧ N k ≤ 100 := by
  intro k hk
  have h0 := ok.n0; have h1 := ok.n1; have h2 := ok.n2; have h3 := ok.n3; have h4 := ok.n4; have h5 := ok.n5
  have p0 := ok.pol 0 (by omega); have p1 := ok.pol 1 (by omega); have p2 := ok.pol 2 (by omega)
  have h12 := ok.n12; have h13 := ok.n13; have h14 := ok.n14; have h15 := ok.n15
  unfold Btw at *
  have : k = 0 ∨ k = 1 ∨ k = 2 ∨ k = 3 ∨ k = 4 ∨ k = 5 ∨ k = 6 ∨ k = 7 ∨ k = 8 ∨ k = 9 ∨ k = 10 ∨ k = 11 ∨ k = 12 ∨ k = 13 ∨ k = 14 ∨ k = 15 := by omega
  rcases this with rfl | rfl | rfl | rfl | rfl | rfl | rfl | rfl | rfl | rfl | rfl | rfl | rfl | rfl | rfl | rfl <;> simp only [Nat.reduceAdd] at * <;> omega

theorem plcs_index (p : Nat) (k : Nat) (hk : k < 16) (w : World) : (Instr.index 103 (.agg (plcs p)) (.int .i64 (k : Int))).run Try.prog w = .ok (.pointer (some ⟨p, k, none⟩)) w := by
  have : k = 0 ∨ k = 1 ∨ k = 2 ∨ k = 3 ∨ k = 4 ∨ k = 5 ∨ k = 6 ∨ k = 7 ∨ k = 8 ∨ k = 9 ∨ k = 10 ∨ k = 11 ∨ k = 12 ∨ k = 13 ∨ k = 14 ∨ k = 15 := by omega
  rcases this with rfl | rfl | rfl | rfl | rfl | rfl | rfl | rfl | rfl | rfl | rfl | rfl | rfl | rfl | rfl | rfl <;> (show _ = _; kernel_rfl)
def triV (F : Nat → Nat → Int) (i : Nat) : Value := .agg #[.int .i64 (F i 0), .int .i64 (F i 1), .int .i64 (F i 2)]
theorem tri_index (x0 x1 x2 : Int) (j : Nat) (hj : j < 3) (w : World) : (Instr.index 73 (.agg #[.int .i64 x0, .int .i64 x1, .int .i64 x2]) (.int .i64 (j : Int))).run Try.prog w = .ok (.int .i64 (if j = 0 then x0 else if j = 1 then x1 else x2)) w := by
  have : j = 0 ∨ j = 1 ∨ j = 2 := by omega
  rcases this with rfl | rfl | rfl <;> (show _ = _; kernel_rfl)
theorem cput_bad (N : Nat → Int) (v : Value) (n : Nat) (F : Nat → Nat → Int) (L : Nat → Bool) (w : World) (h : RdH w v n F L) (hn : n ≤ 20) (hwf : ∀ i j, i < n → j < 3 → (Lit.int .i64 (F i j)).wf = true) (ok : ¬ CfgOk N n F) :
    Calls Try.prog 45 #[cfgV N v] w fun e w' => e = .returned (.tuple #[.slice none 0 0, .int .i64 6]) ∧ Ext w w' := by
  have HH := Lib.hid (fun w' (hx : Ext w w') => cright N v n F L w' (h.ext hx) hn hwf false (by simpa using ok))
  obtain ⟨sa, sc, rfl, _⟩ := h
  unfold cfgV at HH ⊢
  clear ok hwf
  go_enter Try.func45, Try.ntmps45
  go_wp2_with fail
  refine (HH.out _ (by repeat' (first | (with_reducible exact Ext.refl _) | (with_reducible assumption) | (with_reducible refine Ext.alloc ?_ _) | (with_reducible refine Ext.drewN ?_ _) | (with_reducible refine Ext.drew ?_) | (with_reducible refine Ext.trans ?_ (by assumption))))).mono ?_
  rintro e w1 ⟨rfl, hx1⟩
  go_wp2_with fail
  go_ret2
  exact ⟨rfl, (by repeat' (first | (with_reducible exact Ext.refl _) | (with_reducible assumption) | (with_reducible refine Ext.alloc ?_ _) | (with_reducible refine Ext.drewN ?_ _) | (with_reducible refine Ext.drew ?_) | (with_reducible refine Ext.trans ?_ (by assumption))))⟩

set_option maxRecDepth 100000 in
set_option maxHeartbeats 4000000 in
theorem cput_ok (N : Nat → Int) (v : Value) (n : Nat) (F : Nat → Nat → Int) (L : Nat → Bool) (w : World) (h : RdH w v n F L) (hwf : ∀ i j, i < n → j < 3 → (Lit.int .i64 (F i j)).wf = true) (ok : CfgOk N n F) :
    Calls Try.prog 45 #[cfgV N v] w fun e w' => ∃ v', e = .returned (.tuple #[v', .int .i64 0]) ∧ OwnI .u8 5 w.heap.size w' v' (confB N n F L) ∧ Ext w w' := by
  have HRT := Lib.hid (fun w' (hx : Ext w w') => cright_true N v n F L w' (h.ext hx) hwf ok)
  have hn8 : n ≤ 8 := ok.hs.2.2
  have HBD := Lib.hid ok.bd
  have HFB : Hid (∀ i j, i < n → j < 3 → F i j ≤ 9223372036854775807 ∧ -9223372036854775808 ≤ F i j) := Lib.hid (fun i j hi hj => by have := i64_bd (hwf i j hi hj); omega)
  have HN9 := Lib.hid (numB_len (N := N) (fun k hk => by have := ok.bd k hk; omega))
  have HH9 := Lib.hid (hintsB_len (L := L) (n := n) (F := F) (fun i j hi hj => (HFB.out i j hi hj).1))
  obtain ⟨sa, sc, rfl, hsc, hsm, _, hs⟩ := h
  have HS := Lib.hid hs
  obtain ⟨v, hv⟩ : ∃ v, v = Value.slice sa n sc := ⟨_, rfl⟩
  rw [← hv] at HRT ⊢
  unfold cfgV at HRT ⊢
  have HV := Lib.hid hv
  clear ok hwf hs hsm hv
  go_enter Try.func45, Try.ntmps45
  go_wp2_with fail
  have hC := cfg_new w N v 75
  have hX := (Ext.refl w).alloc (.cells #[.int .i64 (N 0), .int .i64 (N 1), .int .i64 (N 2), .int .i64 (N 3), .int .i64 (N 4), .int .i64 (N 5), .int .i64 (N 6), .int .i64 (N 7), .int .i64 (N 8), .int .i64 (N 9), .int .i64 (N 10), .int .i64 (N 11), .int .i64 (N 12), .int .i64 (N 13), .int .i64 (N 14), .int .i64 (N 15), v] 75)
  obtain ⟨p, hp⟩ : ∃ p, p = w.heap.size := ⟨_, rfl⟩
  rw [← hp] at hC ⊢
  clear hp
  generalize (w.alloc (.cells #[.int .i64 (N 0), .int .i64 (N 1), .int .i64 (N 2), .int .i64 (N 3), .int .i64 (N 4), .int .i64 (N 5), .int .i64 (N 6), .int .i64 (N 7), .int .i64 (N 8), .int .i64 (N 9), .int .i64 (N 10), .int .i64 (N 11), .int .i64 (N 12), .int .i64 (N 13), .int .i64 (N 14), .int .i64 (N 15), v] 75)) = w1 at *
  have HC := Lib.hid hC
  clear hC
  refine (HRT.out _ hX).mono ?_
  rintro e w2 ⟨rfl, hx2⟩
  have hX2 := hX.trans hx2
  go_wp2_with fail
  refine (cplaces p _).mono ?_
  rintro e w3 ⟨rfl, hx3⟩
  have hX3 := hX2.trans hx3
  have HC3 := Lib.hid (HC.out.ext (hx2.trans hx3))
  clear hx2 hx3 hX hX2
  obtain ⟨pv, hpv⟩ : ∃ pv, pv = Value.agg (plcs p) := ⟨_, rfl⟩
  rw [← hpv]
  have HPI : Hid (∀ k : Nat, k < 16 → ∀ w : World, (Instr.index 103 pv (.int .i64 (k : Int))).run Try.prog w = .ok (.pointer (some ⟨p, k, none⟩)) w) := Lib.hid (by rw [hpv]; exact plcs_index p)
  clear hpv
  go_wp2_with fail
  go_loopw [4, 15] (fun cv ci wr => ∃ k : Nat, k ≤ 16 ∧ ci = .int .i64 k ∧ OwnI .u8 5 w.heap.size wr cv (numB N k) ∧ Ext w3 wr) (fun _ ci _ => 16 - (intOf ci).toNat)
  case atStart => exact ⟨0, by omega, rfl, OwnI.nil _ _ _ _, Ext.refl _⟩
  case round =>
    obtain ⟨k, hk, rfl, ho, hx⟩ := hrel
    have HO := Lib.hid ho
    clear ho
    by_cases hk16 : k < 16
    · have hki : (k : Int) < 16 := by omega
      have hidx := HPI.out k hk16
      have hcell := hx.cellv (HC3.out.1 k hk16)
      have hlen := HN9.out k hk
      have hbd := HBD.out k hk16
      go_wp2_with fail
      refine (put_any _ (numB N k) (N k) _ (HO.out.rd.ext (by repeat' (first | (with_reducible exact Ext.refl _) | (with_reducible assumption) | (with_reducible refine Ext.alloc ?_ _) | (with_reducible refine Ext.drewN ?_ _) | (with_reducible refine Ext.drew ?_) | (with_reducible refine Ext.trans ?_ (by assumption))))) (by unfold Fits; omega) (by omega) (by omega)).mono ?_
      rintro e w5 ⟨v5, rfl, ho5, hx5⟩
      have hsz : w.heap.size ≤ wr.heap.size := (hX3.trans hx).size
      go_wp2_with fail
      go_roundw
      case rel => exact ⟨k + 1, by omega, by go_num, ho5.mono hsz, hx.trans hx5⟩
      case measure => simp [intOf]; omega
    · obtain rfl : k = 16 := by omega
      have hcell := hx.cellv HC3.out.2
      rw [HV.out] at hcell
      have hlen := HN9.out 16 (by omega)
      go_wp2_with fail
      refine (put_any _ (numB N 16) n _ (HO.out.rd.ext (by repeat' (first | (with_reducible exact Ext.refl _) | (with_reducible assumption) | (with_reducible refine Ext.alloc ?_ _) | (with_reducible refine Ext.drewN ?_ _) | (with_reducible refine Ext.drew ?_) | (with_reducible refine Ext.trans ?_ (by assumption))))) (by unfold Fits; omega) (by omega) (by omega)).mono ?_
      rintro e w5 ⟨v5, rfl, ho5, hx5⟩
      rw [Int.toNat_natCast] at ho5
      have hsz : w.heap.size ≤ wr.heap.size := (hX3.trans hx).size
      have hX5 : Ext w w5 := (hX3.trans hx).trans hx5
      have hcell := hx5.cellv hcell
      have ho5 := ho5.mono hsz
      have hln : (enc n).length ≤ 9 := enc_len_le 8 _ (by omega)
      clear HO hx hx5
      go_wp2_with fail
      go_loopw [4, 32] (fun cv ci wr => ∃ i : Nat, i ≤ n ∧ ci = .int .i64 i ∧ OwnI .u8 5 w.heap.size wr cv (numB N 16 ++ enc n ++ hintsB F L i) ∧ Ext w5 wr) (fun _ ci _ => n - (intOf ci).toNat)
      case atStart => exact ⟨0, by omega, rfl, by simpa [hintsB] using ho5, Ext.refl _⟩
      case round =>
        obtain ⟨i, hi, rfl, ho, hx⟩ := hrel
        have HO := Lib.hid ho
        clear ho ho5
        by_cases hlt : i < n
        · have hii : (i : Int) < (n : Int) := by omega
          obtain ⟨b, o, rfl, hb, hcl⟩ := HS.out (by omega)
          have hxw : Ext w wr := hX5.trans hx
          have y0 := (hxw.cell hb).trans (hcl i 0 hlt (by omega))
          have y1 := (hxw.cell hb).trans (hcl i 1 hlt (by omega))
          have y2 := (hxw.cell hb).trans (hcl i 2 hlt (by omega))
          have y3 := (hxw.cell hb).trans (hcl i 3 hlt (by omega))
          simp only [Proofs.Ytmkobmkaalfecaa.HV, ← Nat.add_assoc, Nat.add_zero, if_pos (show (0 : Nat) < 3 by omega), if_pos (show (1 : Nat) < 3 by omega), if_pos (show (2 : Nat) < 3 by omega), if_neg (show ¬ (3 : Nat) < 3 by omega)] at y0 y1 y2 y3
          have hlB : (hintsB F L (i + 1)) = hintsB F L i ++ hintB F L i := rfl
          have hhB : hintB F L i = enc (F i 0).toNat ++ enc (F i 1).toNat ++ enc (F i 2).toNat ++ [bit (L i)] := rfl
          have hlen9 := HH9.out i (by omega)
          have b0 := HFB.out i 0 hlt (by omega)
          have b1 := HFB.out i 1 hlt (by omega)
          have b2 := HFB.out i 2 hlt (by omega)
          obtain ⟨x0, hx0⟩ : ∃ x, F i 0 = x := ⟨_, rfl⟩
          obtain ⟨x1, hx1⟩ : ∃ x, F i 1 = x := ⟨_, rfl⟩
          obtain ⟨x2, hx2⟩ : ∃ x, F i 2 = x := ⟨_, rfl⟩
          obtain ⟨lp, hlp⟩ : ∃ x, L i = x := ⟨_, rfl⟩
          rw [hx0] at y0 b0
          rw [hx1] at y1 b1
          rw [hx2] at y2 b2
          rw [hlp] at y3
          rw [hx0, hx1, hx2, hlp] at hhB
          have HLB := Lib.hid (hlB.trans (by rw [hhB]))
          have hl0 := enc_len9 b0.1
          have hl1 := enc_len9 b1.1
          have hl2 := enc_len9 b2.1
          obtain ⟨B0, hB0⟩ : ∃ B, numB N 16 ++ enc n ++ hintsB F L i = B := ⟨_, rfl⟩
          have hB0l : B0.length ≤ 400 := by rw [← hB0]; simp only [List.length_append]; omega
          have HB0 := Lib.hid hB0
          have HO1 := Lib.hid (show OwnI .u8 5 w.heap.size wr u4 B0 by rw [← hB0]; exact HO.out)
          have k0 : (wr.alloc (.cells #[.int .i64 x0, .int .i64 x1, .int .i64 x2, .bool lp] 36)).cell? ⟨wr.heap.size, 0, none⟩ = some (.int .i64 x0) := cell_new _ _ _ _ rfl
          have k1 : (wr.alloc (.cells #[.int .i64 x0, .int .i64 x1, .int .i64 x2, .bool lp] 36)).cell? ⟨wr.heap.size, 1, none⟩ = some (.int .i64 x1) := cell_new _ _ _ _ rfl
          have k2 : (wr.alloc (.cells #[.int .i64 x0, .int .i64 x1, .int .i64 x2, .bool lp] 36)).cell? ⟨wr.heap.size, 2, none⟩ = some (.int .i64 x2) := cell_new _ _ _ _ rfl
          have k3 : (wr.alloc (.cells #[.int .i64 x0, .int .i64 x1, .int .i64 x2, .bool lp] 36)).cell? ⟨wr.heap.size, 3, none⟩ = some (.bool lp) := cell_new _ _ _ _ rfl
          have hxa : Ext wr (wr.alloc (.cells #[.int .i64 x0, .int .i64 x1, .int .i64 x2, .bool lp] 36)) := (Ext.refl wr).alloc _
          clear hlB hhB hx0 hx1 hx2 hlp HO hB0 hcl
          go_wp2_with fail
          generalize (wr.alloc (.cells #[.int .i64 x0, .int .i64 x1, .int .i64 x2, .bool lp] 36)) = w6 at *
          have ho6 := HO1.out.ext hxa
          have hX6 : Ext w5 w6 := hx.trans hxa
          have hW6 : Ext w w6 := hxw.trans hxa
          clear hx hxw hxa y0 y1 y2 y3 HO1
          obtain ⟨tv, htv⟩ : ∃ tv, tv = Value.agg #[.int .i64 x0, .int .i64 x1, .int .i64 x2] := ⟨_, rfl⟩
          rw [← htv]
          have HTI : Hid (∀ j : Nat, j < 3 → ∀ w : World, (Instr.index 73 tv (.int .i64 (j : Int))).run Try.prog w = .ok (.int .i64 (if j = 0 then x0 else if j = 1 then x1 else x2)) w) := Lib.hid (by rw [htv]; exact tri_index x0 x1 x2)
          clear htv
          go_loopw [4, 43] (fun cv cj wr => ∃ (j : Nat) (B : List Int), j ≤ 3 ∧ cj = .int .i64 j ∧ B = (if j = 0 then B0 else if j = 1 then B0 ++ enc x0.toNat else if j = 2 then B0 ++ enc x0.toNat ++ enc x1.toNat else B0 ++ enc x0.toNat ++ enc x1.toNat ++ enc x2.toNat) ∧ OwnI .u8 5 w.heap.size wr cv B ∧ Ext w6 wr) (fun _ cj _ => 3 - (intOf cj).toNat)
          case atStart => exact ⟨0, B0, by omega, rfl, rfl, ho6, Ext.refl _⟩
          case round =>
            obtain ⟨j, B, hj, rfl, hB, hob, hxb⟩ := hrel
            have HOB := Lib.hid hob
            have hszr : w.heap.size ≤ wr.heap.size := (hW6.trans hxb).size
            clear hob ho6
            by_cases hj3 : j < 3
            · have hji : (j : Int) < 3 := by omega
              have hjj : j = 0 ∨ j = 1 ∨ j = 2 := by omega
              rcases hjj with rfl | rfl | rfl
              · have hB' : B = B0 := hB
                have hBl : B.length ≤ 430 := by rw [hB']; omega
                have hidx : ∀ w : World, (Instr.index 73 tv (.int .i64 0)).run Try.prog w = .ok (.int .i64 x0) w := HTI.out 0 (by omega)
                clear hB
                go_wp2_with fail
                refine (put_any _ B x0 _ (HOB.out.rd.ext (by repeat' (first | (with_reducible exact Ext.refl _) | (with_reducible assumption) | (with_reducible refine Ext.alloc ?_ _) | (with_reducible refine Ext.drewN ?_ _) | (with_reducible refine Ext.drew ?_) | (with_reducible refine Ext.trans ?_ (by assumption))))) (by unfold Fits; omega) (by omega) (by omega)).mono ?_
                rintro e w7 ⟨v7, rfl, ho7, hx7⟩
                go_wp2_with fail
                go_roundw
                case rel => exact ⟨1, _, by omega, by go_num, by rw [hB']; rfl, ho7.mono hszr, hxb.trans hx7⟩
                case measure => simp [intOf]
              · have hB' : B = B0 ++ enc x0.toNat := hB
                have hBl : B.length ≤ 430 := by rw [hB', List.length_append]; omega
                have hidx : ∀ w : World, (Instr.index 73 tv (.int .i64 1)).run Try.prog w = .ok (.int .i64 x1) w := HTI.out 1 (by omega)
                clear hB
                go_wp2_with fail
                refine (put_any _ B x1 _ (HOB.out.rd.ext (by repeat' (first | (with_reducible exact Ext.refl _) | (with_reducible assumption) | (with_reducible refine Ext.alloc ?_ _) | (with_reducible refine Ext.drewN ?_ _) | (with_reducible refine Ext.drew ?_) | (with_reducible refine Ext.trans ?_ (by assumption))))) (by unfold Fits; omega) (by omega) (by omega)).mono ?_
                rintro e w7 ⟨v7, rfl, ho7, hx7⟩
                go_wp2_with fail
                go_roundw
                case rel => exact ⟨2, _, by omega, by go_num, by rw [hB']; rfl, ho7.mono hszr, hxb.trans hx7⟩
                case measure => simp [intOf]
              · have hB' : B = B0 ++ enc x0.toNat ++ enc x1.toNat := hB
                have hBl : B.length ≤ 430 := by rw [hB', List.length_append, List.length_append]; omega
                have hidx : ∀ w : World, (Instr.index 73 tv (.int .i64 2)).run Try.prog w = .ok (.int .i64 x2) w := HTI.out 2 (by omega)
                clear hB
                go_wp2_with fail
                refine (put_any _ B x2 _ (HOB.out.rd.ext (by repeat' (first | (with_reducible exact Ext.refl _) | (with_reducible assumption) | (with_reducible refine Ext.alloc ?_ _) | (with_reducible refine Ext.drewN ?_ _) | (with_reducible refine Ext.drew ?_) | (with_reducible refine Ext.trans ?_ (by assumption))))) (by unfold Fits; omega) (by omega) (by omega)).mono ?_
                rintro e w7 ⟨v7, rfl, ho7, hx7⟩
                go_wp2_with fail
                go_roundw
                case rel => exact ⟨3, _, by omega, by go_num, by rw [hB']; rfl, ho7.mono hszr, hxb.trans hx7⟩
                case measure => simp [intOf]
            · obtain rfl : j = 3 := by omega
              have hB' : B = B0 ++ enc x0.toNat ++ enc x1.toNat ++ enc x2.toNat := hB
              have hBl : B.length ≤ 430 := by rw [hB', List.length_append, List.length_append, List.length_append]; omega
              have k3 := hxb.cellv k3
              clear hB
              go_wp2_with fail
              refine (puttruth_any _ B lp _ (HOB.out.rd.ext (by repeat' (first | (with_reducible exact Ext.refl _) | (with_reducible assumption) | (with_reducible refine Ext.alloc ?_ _) | (with_reducible refine Ext.drewN ?_ _) | (with_reducible refine Ext.drew ?_) | (with_reducible refine Ext.trans ?_ (by assumption))))) (by unfold Fits; omega)).mono ?_
              rintro e w7 ⟨v7, rfl, ho7, hx7⟩
              go_wp2_with fail
              go_roundw
              case rel =>
                refine ⟨i + 1, by omega, by go_num, ?_, (hX6.trans hxb).trans hx7⟩
                have hfin : numB N 16 ++ enc n ++ hintsB F L (i + 1) = B ++ [bit lp] := by
                  rw [HLB.out, hB', ← HB0.out]
                  simp only [List.append_assoc]
                rw [hfin]
                exact ho7.mono hszr
              case measure => simp [intOf]; omega
        · obtain rfl : n = i := by omega
          go_wp2_with fail
          go_ret2
          exact ⟨_, rfl, HO.out, hX5.trans hx⟩
end Go.Proofs.Ytmkobmkaalfecaa
