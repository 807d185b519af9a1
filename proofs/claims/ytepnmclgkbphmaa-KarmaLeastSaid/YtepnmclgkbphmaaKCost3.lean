/-
  gradineref14.Cost; an append of rows as a step of a drawn region. No condition but that all reads.
-/
import Derived.Test.YtepnmclgkbphmaaKCost2
import Derived.Test.YtepnmclgkbphmaaStepApp
namespace Go.Proofs.Ytepnmclgkbphmaa
open Go.RowKit

/-- 'append(s, x...)' as a step of a drawn region: s the call's own, x whatever slice -/
theorem step_append_rdg {P : Program} {ops : Array Oper} {o : Oper} {a : Act} {w : World} {K : Act → World → Prop} {Q : Exit → Act → World → Prop} {E : Prop} (hgd : o.guard = none) (s x : Operand) (t : TypeId)
    (ho : o.op = .call { callee := .builtin .append, args := #[s, x], argTypes := #[t, t] }) (e : TypeId) (z : Value) (size bytes : Nat) (ht : P.underlying t = some (.slice e))
    (hinfo : (P.info? e).map (fun i => (i.zero, i.size, i.bytes)) = some (some z, size, bytes)) (hzs : z.cells.size = size) (hsz : 0 < size) (hby : bytes ≤ 64) (B : Nat) (hB : B ≤ w.heap.size) (v : Value) (n : Nat) (xs : List Value) (hs : a.eval s = v) (hown : w.ownsRow B e size v n xs)
    (y : Value) (m : Nat) (ys : List Value) (hx : a.eval x = y) (hr : Rd w size y m ys) (h1 : ∀ u ∈ ys, u.oneCell' = true) (hfit : n + m ≤ 1000000)
    (h : ∀ v' w', w'.ownsRow B e size v' (n + m) (xs ++ ys) → w.grownBy w' v.ownBlock → K (a.put o.dst v') w') :
    if Region.wanted o (yielded ops a.tmps) = true then Oper.wp P o a w K Q else E := by
  obtain ⟨i0, hi, hz0, hz1, hz2⟩ := info_parts hinfo
  obtain ⟨hl, ad, c, rfl, hmc, hcm, hnil, hsome⟩ := hr
  have hw : Region.wanted o (yielded ops a.tmps) = true := by simp [Region.wanted, hgd]
  rw [if_pos hw]
  cases ad with
  | none =>
    obtain ⟨rfl, rfl⟩ := hnil rfl
    have : ys = [] := List.eq_nil_of_length_eq_zero (by simpa using hl)
    subst this
    have hrun := run_append_owned_none (P := P) (w := w) B t o.type e i0 size ht hi v n xs hown
    have h9 := h v w
    simp only [List.append_nil, Nat.add_zero] at h9
    unfold Oper.wp
    simp [execOp, ho, resolve, invoke, builtin, hs, hx, hrun, Result.andThen]
    exact h9 hown (World.grownBy.refl _ _)
  | some ad =>
    refine wp_append_own w s x t ho B e i0 z size bytes ht hi hz0 hz1 hz2 hzs hsz v n xs hs hown ad m c ys hx hl ?_ h1 (by unfold maxLen; omega) ?_ hB (fun v' w' h2 h3 _ => h v' w' h2 h3)
    · intro j u hu
      have hpos : 0 < m := by
        rcases Nat.eq_zero_or_pos m with rfl | h
        · have : ys = [] := List.eq_nil_of_length_eq_zero (by simpa using hl)
          subst this; simp at hu
        · exact h
      obtain ⟨b, o, hbo, _, hc⟩ := hsome hpos
      obtain rfl : ad = ⟨b, o, none⟩ := by simpa using hbo
      rw [add_none]
      exact hc j u hu
    · have : (n + m) * bytes ≤ 1000000 * 64 := Nat.mul_le_mul hfit hby
      omega

/-- rows, number by number -/
def alP (P : Nat → Nat → Int) (m : Nat) : List Int := (List.range m).map (fun j => P (j / 4) (j % 4))
theorem alP_len (P : Nat → Nat → Int) (m : Nat) : (alP P m).length = m := by simp [alP]
theorem alP_succ (P : Nat → Nat → Int) {i t : Nat} (ht : t < 4) : alP P (4 * i + t + 1) = alP P (4 * i + t) ++ [P i t] := by
  unfold alP
  rw [List.range_succ, List.map_append, List.map_singleton, show (4 * i + t) / 4 = i by omega, show (4 * i + t) % 4 = t by omega]
theorem alP_at (P : Nat → Nat → Int) {m i t : Nat} (ht : t < 4) (h : 4 * i + t < m) : (alP P m).getD (4 * i + t) 0 = P i t := by
  unfold alP
  rw [List.getD_eq_getElem?_getD, List.getElem?_map, List.getElem?_range h]
  simp only [Option.map_some, Option.getD_some]
  rw [show (4 * i + t) / 4 = i by omega, show (4 * i + t) % 4 = t by omega]

set_option maxRecDepth 100000 in
set_option maxHeartbeats 8000000 in
theorem rcost (v : Value) (n : Nat) (F : Nat → Nat → Int) (L : Nat → Bool) (va : Value) (P : Nat → Nat → Int) (C : Nat → Int) (B : Nat) (w : World) (h : RdH w v n F L) (ok : HsOk n F 32) (hv : RdI .i64 w va (alP P (4 * n)))
    (hP : ∀ i, i < n → ¬ Bad 32 (P i)) (hC : ¬ Bad 1000 C) (hO : ∀ i, i < n → F i 2 ≤ 100000) (hB : B ≤ 122900) (c0 c1 c2 c3 : Int) (hc : ∀ t, t < 4 → [c0, c1, c2, c3].getD t 0 = C t) :
    Calls Try.prog 26 #[v, va, .agg #[.int .i64 c0, .int .i64 c1, .int .i64 c2, .int .i64 c3], .int .i64 (B : Nat)] w fun e w' => e = .returned (.int .i64 (topC B F (fun i t => (P i t).toNat) (fun t => (C t).toNat) n : Nat)) ∧ Ext w w' := by
  have hn8 := ok.2.2
  obtain ⟨a, c, rfl, hnc, hcm, _, hs⟩ := h
  obtain ⟨a2, cp2, rfl, _, _, _, hs2⟩ := hv.parts
  rw [alP_len] at hs2 ⊢
  have HS := Lib.hid hs
  have HS2 := Lib.hid hs2
  have HOK := Lib.hid ok
  have HNP := Lib.hid hP
  have HNC := Lib.hid hC
  have HOF := Lib.hid hO
  have HCC0 := Lib.hid hc
  have hTOP := fun j (hj : j ≤ n) => topC_le (b := B) (F := F) (P := fun i t => (P i t).toNat) (C := fun t => (C t).toNat) hB hO (fun i hi t ht => by have := not_bad (hP i hi) ht; show (P i t).toNat ≤ 32; omega) (fun t ht => by have := not_bad hC ht; show (C t).toNat ≤ 1000; omega) hj
  have HTOP := Lib.hid hTOP
  have hTN : ∀ j, topC B F (fun i t => (P i t).toNat) (fun t => (C t).toNat) (j + 1) = topC B F (fun i t => (P i t).toNat) (fun t => (C t).toNat) j + unitC B F j * rowC (fun i t => (P i t).toNat) (fun t => (C t).toNat) j := fun _ => rfl
  have HTN := Lib.hid hTN
  obtain ⟨T, hT⟩ : ∃ T, T = topC B F (fun i t => (P i t).toNat) (fun t => (C t).toNat) := ⟨_, rfl⟩
  have hT0 : T 0 = 0 := by rw [hT]; rfl
  rw [← hT] at HTOP HTN ⊢
  have HUC := Lib.hid (fun j => unitC_le (b := B) (F := F) (i := j) hB)
  have HUD : Hid (∀ j, unitC B F j = B / kS F j * (F j 2).toNat) := Lib.hid (fun _ => rfl)
  have hni : (n : Int) ≤ 8 := by omega
  have hBi : (B : Int) ≤ 122900 := by omega
  clear hs hs2 hcm hnc ok hP hC hO hTOP hTN hT hv hc
  go_enter Try.func26, Try.ntmps26
  go_upto_region 1 with fail
  have hci : IRow (w.alloc (.cells #[.int .i64 c0, .int .i64 c1, .int .i64 c2, .int .i64 c3] 40)) w.heap.size 4 C := ⟨_, _, heap_alloc_new w _, fun t ht => by
    rw [← HCC0.out t ht]
    have : t = 0 ∨ t = 1 ∨ t = 2 ∨ t = 3 := by omega
    rcases this with rfl | rfl | rfl | rfl <;> rfl⟩
  have hx0 : Ext w (w.alloc (.cells #[.int .i64 c0, .int .i64 c1, .int .i64 c2, .int .i64 c3] 40)) := (Ext.refl w).alloc _
  generalize (w.alloc (.cells #[.int .i64 c0, .int .i64 c1, .int .i64 c2, .int .i64 c3] 40)) = w0 at *
  obtain ⟨pc, hpc⟩ : ∃ pc, pc = w.heap.size := ⟨_, rfl⟩
  rw [← hpc] at hci ⊢
  have HCD : Hid (IRow w0 pc 4 (fun t => (((C t).toNat : Nat) : Int))) := Lib.hid (hci.congr (fun t ht => by have := not_bad HNC.out ht; rw [Int.toNat_of_nonneg this.1]))
  clear hci hpc HCC0
  go_wp2_with fail
  go_loopw [9, 10] (fun ct ci wr => ∃ j : Nat, j ≤ n ∧ ci = .int .i64 j ∧ ct = .int .i64 (T j : Nat) ∧ Ext w0 wr) (fun _ ci _ => n - (intOf ci).toNat)
  case atStart => exact ⟨0, Nat.zero_le _, rfl, by rw [hT0]; rfl, Ext.refl _⟩
  case round =>
    obtain ⟨j, hj, rfl, rfl, hx⟩ := hrel
    by_cases hlt : j < n
    case neg =>
      obtain rfl : j = n := by omega
      go_wp2_with fail
      go_ret
      exact ⟨rfl, hx0.trans hx⟩
    have hjj : (j : Int) < (n : Int) := by omega
    have hj0 : (0 : Int) ≤ (j : Int) := by omega
    obtain ⟨bb, o, rfl, hbb, hcell⟩ := HS.out (by omega)
    obtain ⟨b5, o5, rfl, hb5, hcell5⟩ := HS2.out (by intro e; have := alP_len P (4 * n); rw [e] at this; simp at this; omega)
    have hXt := hx0.trans hx
    have hsz : F j 1 = ((kS F j : Nat) : Int) := by have := (HOK.out.1 j hlt).2.1; unfold kS; omega
    have hof : F j 2 = (((F j 2).toNat : Nat) : Int) := by have := (HOK.out.1 j hlt).2.2.2.2.2.1; omega
    have hof2 : (F j 2).toNat ≤ 100000 := by have := HOF.out j hlt; omega
    have z1 := hcell j 1 hlt (by omega)
    have z2 := hcell j 2 hlt (by omega)
    simp only [Proofs.Ytepnmclgkbphmaa.HV, ← Nat.add_assoc, if_pos (show (1 : Nat) < 3 by omega), if_pos (show (2 : Nat) < 3 by omega), hsz] at z1 z2
    rw [hof] at z2
    obtain ⟨s1, s2⟩ := kS_le HOK.out hlt
    have hPc : ∀ t, t < 4 → w.cell? ⟨b5, o5 + (4 * j + t), none⟩ = some (.int .i64 (((P j t).toNat : Nat) : Int)) := fun t ht => by
      rw [hcell5 (4 * j + t) (by omega), alP_at P ht (by omega)]
      have := not_bad (HNP.out j hlt) ht
      rw [Int.toNat_of_nonneg this.1]
    have hQ32 : ∀ t, t < 4 → (P j t).toNat ≤ 32 := fun t ht => by have := not_bad (HNP.out j hlt) ht; omega
    have hD : ∀ t, t < 4 → (C t).toNat ≤ 1000 := fun t ht => by have := not_bad HNC.out ht; omega
    have hro : rowC (fun i t => (P i t).toNat) (fun t => (C t).toNat) j = sumN (fun t => (P j t).toNat * (C t).toNat) 4 := rfl
    have hrl := fun t (ht : t ≤ 4) => rowC_le (P := fun i t => (P i t).toNat) (C := fun t => (C t).toNat) (i := j) hQ32 hD ht
    obtain ⟨Q, hQ⟩ : ∃ Q : Nat → Nat, Q = fun t => (P j t).toNat := ⟨_, rfl⟩
    obtain ⟨D, hDe⟩ : ∃ D : Nat → Nat, D = fun t => (C t).toNat := ⟨_, rfl⟩
    have HPC : Hid (∀ t, t < 4 → w.cell? ⟨b5, o5 + (4 * j + t), none⟩ = some (.int .i64 ((Q t : Nat) : Int))) := Lib.hid (by rw [hQ]; exact hPc)
    have HCD' : Hid (IRow w0 pc 4 (fun t => ((D t : Nat) : Int))) := Lib.hid (by rw [hDe]; exact HCD.out)
    have HQ : Hid (∀ t, t < 4 → Q t ≤ 32) := Lib.hid (by rw [hQ]; exact hQ32)
    have HDD : Hid (∀ t, t < 4 → D t ≤ 1000) := Lib.hid (by rw [hDe]; exact hD)
    have HRO : Hid (rowC (fun i t => (P i t).toNat) (fun t => (C t).toNat) j = sumN (fun t => Q t * D t) 4) := Lib.hid (by rw [hQ, hDe]; exact hro)
    have HRL : Hid (∀ t, t ≤ 4 → sumN (fun t => Q t * D t) t ≤ t * 32000) := Lib.hid (by rw [hQ, hDe]; exact hrl)
    have htn := HTN.out j
    rw [HRO.out, HUD.out j] at htn
    have huc := HUC.out j (HOF.out j hlt)
    rw [HUD.out j] at huc
    have htl := HTOP.out j (by omega)
    obtain ⟨S, hS⟩ : ∃ s, s = kS F j := ⟨_, rfl⟩
    obtain ⟨O, hO⟩ : ∃ s, s = (F j 2).toNat := ⟨_, rfl⟩
    rw [← hS] at z1 s1 s2 htn huc
    rw [← hO] at z2 htn huc hof2
    have HTJ := Lib.hid htn
    have HUL := Lib.hid huc
    have HZ1 := Lib.hid z1
    have HZ2 := Lib.hid z2
    obtain ⟨tj, htj⟩ : ∃ x, x = T j := ⟨_, rfl⟩
    rw [← htj] at htl HTJ ⊢
    obtain ⟨U, hU⟩ : ∃ U, U = B / S * O := ⟨_, rfl⟩
    have HUE := Lib.hid hU
    rw [← hU] at HTJ HUL
    have e1 : (B : Int) / (S : Int) = ((B / S : Nat) : Int) := by simp
    have e2 : (B : Int) / (S : Int) * (O : Int) = ((U : Nat) : Int) := by rw [e1, hU]; simp
    have E2 := Lib.hid e2
    have b1 : 0 ≤ (B : Int) / (S : Int) := by rw [e1]; exact Int.natCast_nonneg _
    have b2 : (B : Int) / (S : Int) ≤ 122900 := by rw [e1]; have := Nat.div_le_self B S; omega
    have b3 : 0 ≤ (B : Int) / (S : Int) * (O : Int) := by rw [e2]; exact Int.natCast_nonneg _
    have hul := HUL.out
    have b4 : (B : Int) / (S : Int) * (O : Int) ≤ 12290000000 := by rw [e2]; omega
    have hSi : (0 : Int) < (S : Int) := by omega
    clear hcell hcell5 hsz hof hPc hQ32 hD hro hrl hQ hDe htn huc hS hO htj HRO hU e1 e2 z1 z2
    obtain ⟨wo, rfl⟩ : ∃ wo : World, wo = wr := ⟨_, rfl⟩
    go_wp2_with fail
    go_loopw [9, 11] (fun cs ct ws => ∃ t : Nat, t ≤ 4 ∧ ct = .int .i64 t ∧ cs = .int .i64 ((tj + U * sumN (fun t => Q t * D t) t : Nat) : Int) ∧ Ext w0 ws) (fun _ ct _ => 4 - (intOf ct).toNat)
    case atStart => exact ⟨0, by omega, rfl, by simp [sumN], hx⟩
    case round =>
      obtain ⟨t, ht, rfl, rfl, hxu⟩ := hrel
      by_cases h4 : t < 4
      · have hXu := hx0.trans hxu
        have q0 := (hXu.cell hb5).trans (HPC.out t h4)
        have q1 := (HCD'.out.ext hxu).cell h4
        have q2 := hXu.cellv HZ1.out
        have q3 := hXu.cellv HZ2.out
        have q := HQ.out t h4
        have d := HDD.out t h4
        have hn : sumN (fun t => Q t * D t) (t + 1) = sumN (fun t => Q t * D t) t + Q t * D t := rfl
        have hrl := HRL.out t (by omega)
        have HN := Lib.hid hn
        obtain ⟨s, hs⟩ : ∃ s, s = sumN (fun t => Q t * D t) t := ⟨_, rfl⟩
        obtain ⟨qt, hqt⟩ : ∃ s, s = Q t := ⟨_, rfl⟩
        obtain ⟨dt, hdt⟩ : ∃ s, s = D t := ⟨_, rfl⟩
        rw [← hs] at hrl HN ⊢
        rw [← hqt] at q0 q HN
        rw [← hdt] at q1 d HN
        have u1 : U * qt ≤ 12290000000 * 32 := Nat.mul_le_mul hul q
        have u2 : U * qt * dt ≤ 12290000000 * 32 * 1000 := Nat.mul_le_mul u1 d
        have u3 : U * s ≤ 12290000000 * 128000 := Nat.mul_le_mul hul (by omega)
        have e3 : (B : Int) / (S : Int) * (O : Int) * (qt : Int) = ((U * qt : Nat) : Int) := by rw [E2.out]; simp
        have e4 : (B : Int) / (S : Int) * (O : Int) * (qt : Int) * (dt : Int) = ((U * qt * dt : Nat) : Int) := by rw [e3]; simp
        have f1 : 0 ≤ (B : Int) / (S : Int) * (O : Int) * (qt : Int) := by rw [e3]; exact Int.natCast_nonneg _
        have f2 : (B : Int) / (S : Int) * (O : Int) * (qt : Int) ≤ 393280000000 := by rw [e3]; omega
        have f3 : 0 ≤ (B : Int) / (S : Int) * (O : Int) * (qt : Int) * (dt : Int) := by rw [e4]; exact Int.natCast_nonneg _
        have f4 : (B : Int) / (S : Int) * (O : Int) * (qt : Int) * (dt : Int) ≤ 393280000000000 := by rw [e4]; omega
        obtain ⟨acc, hacc⟩ : ∃ acc, acc = tj + U * s := ⟨_, rfl⟩
        have hal : acc ≤ 20000000000000000 := by omega
        have HFIN : Hid ((acc : Int) + (B : Int) / (S : Int) * (O : Int) * (qt : Int) * (dt : Int) = ((tj + U * (s + qt * dt) : Nat) : Int)) := Lib.hid (by
          rw [e4, hacc, Nat.mul_add, ← Nat.mul_assoc]; omega)
        rw [← hacc]
        have hti : (t : Int) < 4 := by omega
        have ht0 : (0 : Int) ≤ (t : Int) := by omega
        have hidx : (4 * (j : Int) + (t : Int)) < ((4 * n : Nat) : Int) := by omega
        have hidx2 : (4 * (j : Int) + (t : Int)) < 4 * (n : Int) := by omega
        have hidx0 : (0 : Int) ≤ (4 * (j : Int) + (t : Int)) := by omega
        have htn : (4 * (j : Int) + (t : Int)).toNat = 4 * j + t := by omega
        have hwp1 : IntKind.i64.wrap (4 * (j : Int)) = 4 * (j : Int) := IntWalk.i64_in _ (by omega)
        have hwp2 : IntKind.i64.wrap (4 * (j : Int) + (t : Int)) = 4 * (j : Int) + (t : Int) := IntWalk.i64_in _ (by omega)
        clear hn hs hqt hdt u1 u2 u3 e3 e4 hacc
        go_wp2_with fail
        go_quiet (fail)
        go_wp2_with fail
        go_roundw
        case rel => exact ⟨t + 1, by omega, by go_num, by rw [HN.out, ← HFIN.out], (by repeat' (first | (with_reducible exact Ext.refl _) | (with_reducible assumption) | (with_reducible refine Ext.alloc ?_ _) | (with_reducible refine Ext.drewN ?_ _) | (with_reducible refine Ext.drew ?_) | (with_reducible refine Ext.trans ?_ (by assumption))))⟩
        case measure => simp [intOf]; omega
      · obtain rfl : t = 4 := by omega
        have HE : Hid (tj + U * sumN (fun t => Q t * D t) 4 = T (j + 1)) := Lib.hid HTJ.out.symm
        go_wp2_with fail
        go_roundw
        case rel => exact ⟨j + 1, by omega, by go_num, by rw [HE.out], hxu⟩
        case measure => simp [intOf]; omega
end Go.Proofs.Ytepnmclgkbphmaa
