/-
  gradinelaw04.MsgFields answers true. No condition.
-/
import Derived.Test.YtmkobmkaalfecaaMsgLeastWalk
namespace Go.Proofs.Ytmkobmkaalfecaa
open Go.RowKit

theorem msg_of {w : World} {v : Value} (h : IsFlat Try.prog 62 w v) :
    ∃ (K : Int) (N : Nat → Int) (g : Bool) (u : Value) (t : List Int), v = msgV K N g u ∧ RdI .u8 w u t ∧ (∀ x ∈ t, 0 ≤ x ∧ x ≤ 255) ∧ (Lit.int .i64 K).wf = true ∧ ∀ f, (Lit.int .i64 (N f)).wf = true := by
  obtain ⟨fs, cs, he, rfl, hsz, hc⟩ := h
  have hfs := he.symm.trans Try.underlying62
  simp only [Option.some.injEq, TypeDesc.struct.injEq] at hfs
  subst hfs
  have h5 : cs.size = 11 := hsz.trans (by kernel_rfl)
  obtain ⟨c0, c1, c2, c3, c4, c5, c6, c7, c8, c9, c10, rfl⟩ : ∃ c0 c1 c2 c3 c4 c5 c6 c7 c8 c9 c10, cs = #[c0, c1, c2, c3, c4, c5, c6, c7, c8, c9, c10] := by
    match cs, h5 with
    | ⟨[a, b, c, d, e, f, g, h, i, j, k]⟩, _ => exact ⟨a, b, c, d, e, f, g, h, i, j, k, rfl⟩
  obtain ⟨n0, rfl, w0⟩ := ((hc 0 _ rfl).1 (by kernel_rfl) c0 rfl).1.int Try.underlying3
  obtain ⟨n1, rfl, w1⟩ := ((hc 1 _ rfl).1 (by kernel_rfl) c1 rfl).1.int Try.underlying3
  obtain ⟨n2, rfl, w2⟩ := ((hc 2 _ rfl).1 (by kernel_rfl) c2 rfl).1.int Try.underlying3
  obtain ⟨n3, rfl, w3⟩ := ((hc 3 _ rfl).1 (by kernel_rfl) c3 rfl).1.int Try.underlying3
  obtain ⟨n4, rfl, w4⟩ := ((hc 4 _ rfl).1 (by kernel_rfl) c4 rfl).1.int Try.underlying3
  obtain ⟨n5, rfl, w5⟩ := ((hc 5 _ rfl).1 (by kernel_rfl) c5 rfl).1.int Try.underlying3
  obtain ⟨n6, rfl, w6⟩ := ((hc 6 _ rfl).1 (by kernel_rfl) c6 rfl).1.int Try.underlying3
  obtain ⟨n7, rfl, w7⟩ := ((hc 7 _ rfl).1 (by kernel_rfl) c7 rfl).1.int Try.underlying3
  obtain ⟨n8, rfl, w8⟩ := ((hc 8 _ rfl).1 (by kernel_rfl) c8 rfl).1.int Try.underlying39
  obtain ⟨g, rfl⟩ := ((hc 9 _ rfl).1 (by kernel_rfl) c9 rfl).1.bool Try.underlying4
  obtain ⟨t, ht, hb⟩ := ((hc 10 _ rfl).1 (by kernel_rfl) c10 rfl).1.ints Try.underlying24 Try.underlying5 (by kernel_rfl)
  refine ⟨n0, fun f => if f = 1 then n1 else if f = 2 then n2 else if f = 3 then n3 else if f = 4 then n4 else if f = 5 then n5 else if f = 6 then n6 else if f = 7 then n7 else n8, g, c10, t, rfl, ht, fun x hx => ?_, w0, fun f => ?_⟩
  · have := hb x hx
    simp [Lit.wf, IntKind.min, IntKind.max, IntKind.signed, IntKind.bits] at this
    omega
  · show (Lit.int .i64 (if f = 1 then n1 else if f = 2 then n2 else if f = 3 then n3 else if f = 4 then n4 else if f = 5 then n5 else if f = 6 then n6 else if f = 7 then n7 else n8)).wf = true
    by_cases h1 : f = 1
    · rw [if_pos h1]; exact w1
    rw [if_neg h1]
    by_cases h2 : f = 2
    · rw [if_pos h2]; exact w2
    rw [if_neg h2]
    by_cases h3 : f = 3
    · rw [if_pos h3]; exact w3
    rw [if_neg h3]
    by_cases h4 : f = 4
    · rw [if_pos h4]; exact w4
    rw [if_neg h4]
    by_cases h5 : f = 5
    · rw [if_pos h5]; exact w5
    rw [if_neg h5]
    by_cases h6 : f = 6
    · rw [if_pos h6]; exact w6
    rw [if_neg h6]
    by_cases h7 : f = 7
    · rw [if_pos h7]; exact w7
    rw [if_neg h7]
    exact w8

theorem chg_cellm {S : List Nat} {w w' : World} (h : Chg S w w') {b o : Nat} {u : Value} (hc : w.cell? ⟨b, o, none⟩ = some u) (hS : b ∉ S) : w'.cell? ⟨b, o, none⟩ = some u := by
  have hb := cell_lt hc
  have := h.block b hb hS
  unfold World.cell? at hc ⊢
  simp only at hc ⊢
  rw [this]; exact hc
theorem fields_pos : ∀ k, k < 15 → (0 < (fieldsN k).length ↔ k ≠ 0) := by decide +kernel
theorem mem_zints {l : List Nat} {f : Nat} : ((f : Int) ∈ zints l) ↔ f ∈ l := by
  unfold zints
  rw [List.mem_map]
  constructor
  · rintro ⟨x, h1, h2⟩
    have : x = f := by omega
    subst this; exact h1
  · intro h; exact ⟨f, h, rfl⟩
theorem has_nmd (v : Value) (K : Int) (f : Nat) (x : Int) (hx : x = (f : Int)) (b : Bool) (hb : nmd K f = b) (w : World) (h : RdI .i64 w v (zints (fieldsOf K))) :
    Calls Try.prog 42 #[v, .int .i64 x] w fun e w' => e = .returned (.bool b) ∧ Ext w w' :=
  (has_any v _ x w h).mono fun e w' h => ⟨by rw [h.1, ← hb, hx]; unfold nmd; congr 2; exact decide_eq_decide.2 mem_zints, h.2⟩
/-- a number as it is made fit -/
def redF (K : Int) (N : Nat → Int) (f : Nat) : Int := if nmd K f = true then (if N f < 0 then 1 else N f % 2) else 0
def Nk (K : Int) (N : Nat → Int) (k : Nat) (f : Nat) : Int := if 1 ≤ f ∧ f ≤ k then redF K N f else N f
theorem Nk_zero (K : Int) (N : Nat → Int) : Nk K N 0 = N := by funext f; unfold Nk; rw [if_neg (by omega)]
theorem Nk_at (K : Int) (N : Nat → Int) (k : Nat) : Nk K N k (k + 1) = N (k + 1) := by unfold Nk; rw [if_neg (by omega)]
theorem Nk_succ (K : Int) (N : Nat → Int) (k : Nat) : updF (Nk K N k) (k + 1) (redF K N (k + 1)) = Nk K N (k + 1) := by
  funext f
  unfold updF Nk
  by_cases h : f = k + 1
  · subst h; rw [if_pos rfl, if_pos (by omega)]
  · rw [if_neg h]
    by_cases h2 : 1 ≤ f ∧ f ≤ k
    · rw [if_pos h2, if_pos (by omega)]
    · rw [if_neg h2, if_neg (by omega)]
theorem fields_end (K : Int) (N : Nat → Int) (g : Bool) (n : Nat) (hn : n ≤ 64) (hk : kindN K ≠ 0) (hg : nmd K 9 = false → g = false) (hd : nmd K 10 = false → n = 0) : MOk K (updF (Nk K N 7) 8 0) g n := by
  refine ⟨hk, ?_⟩
  intro f h1 h10
  unfold fOk fRight fZero
  by_cases h9 : f = 9
  · subst h9
    cases hn9 : nmd K 9
    · simp [hg hn9]
    · simp
  · by_cases h10' : f = 10
    · subst h10'
      cases hn10 : nmd K 10
      · simp [hd hn10]
      · simp [hn]
    · rw [if_neg h9, if_neg h10', if_neg h9, if_neg h10']
      have hm : 1 ≤ mostF f := by unfold mostF; repeat' split
                                  all_goals omega
      by_cases h8 : f = 8
      · subst h8; simp [updF]; omega
      · have e : updF (Nk K N 7) 8 0 f = redF K N f := by unfold updF Nk; rw [if_neg h8, if_pos (by omega)]
        rw [e]
        unfold redF
        cases hnm : nmd K f
        · simp; omega
        · simp
          split <;> omega

set_option maxRecDepth 100000 in
set_option maxHeartbeats 2000000 in
theorem walk_MsgFields (v0 v1 : Value) (w : World) (h0 : IsInt .i64 v0) (h1 : IsFlat Try.prog 62 w v1) :
    Calls Try.prog 11 #[v0, v1] w fun e w' => e = .returned (.bool true) ∧ Ext w w' := by
  obtain ⟨K, rfl, _⟩ := h0
  obtain ⟨K0, N, g, u, t, rfl, hr, hb, hwK, hwN⟩ := msg_of h1
  obtain ⟨a, c, rfl, hc, hcm, hn, hs⟩ := hr.parts
  have hl63 : (t.length : Int) ≤ 9223372036854775807 := by unfold maxLen at hcm; omega
  obtain ⟨n, hnn⟩ : ∃ n, n = t.length := ⟨_, rfl⟩
  have HN := Lib.hid hnn
  rw [← hnn] at hl63 hc ⊢
  have hci : (n : Int) ≤ c := by omega
  clear h1 hr hb hwK hwN hn hs hnn hcm
  unfold msgV mrow
  go_enter Try.func11, Try.ntmps11
  go_wp2_with fail
  have HM := msg_new w K0 N g (.slice a n c)
  have hX0 : Ext w (w.alloc (.cells (mrow K0 N g (.slice a n c)) 62)) := (by repeat' (first | (with_reducible exact Ext.refl _) | (with_reducible assumption) | (with_reducible refine Ext.alloc ?_ _) | (with_reducible refine Ext.drewN ?_ _) | (with_reducible refine Ext.drew ?_) | (with_reducible refine Ext.trans ?_ (by assumption))))
  unfold mrow at HM hX0
  generalize (w.alloc (.cells #[.int .i64 K0, .int .i64 (N 1), .int .i64 (N 2), .int .i64 (N 3), .int .i64 (N 4), .int .i64 (N 5), .int .i64 (N 6), .int .i64 (N 7), .int .i64 (N 8), .bool g, .slice a n c] 62)) = w0 at *
  obtain ⟨p, hp⟩ : ∃ p, p = w.heap.size := ⟨_, rfl⟩
  rw [← hp] at HM ⊢
  have hwp : w.heap.size ≤ p := by omega
  clear hp
  refine (wakes04 _).mono ?_
  rintro e w1 ⟨rfl, hx1⟩
  go_wp2_with fail
  refine (mfields K _).mono ?_
  rintro e w2 ⟨v2, rfl, ho2, hx2⟩
  have hp1 := (HM.ext hx1).lt
  have HO2 := Lib.hid ho2
  obtain ⟨a2, c2, hv2, _⟩ := ho2.rd.parts
  rw [zints_len] at hv2
  obtain ⟨m, hm⟩ : ∃ m, m = (fieldsOf K).length := ⟨_, rfl⟩
  have HME := Lib.hid hm
  rw [← hm] at hv2
  subst hv2
  clear ho2 hm
  go_wp2_with fail
  refine (rfields K _).mono ?_
  rintro e w3 ⟨v3, rfl, ho3, hx3⟩
  go_wp2_with fail
  refine (sameints_any _ _ _ _ _ (HO2.out.rd.ext (by repeat' (first | (with_reducible exact Ext.refl _) | (with_reducible assumption) | (with_reducible refine Ext.alloc ?_ _) | (with_reducible refine Ext.drewN ?_ _) | (with_reducible refine Ext.drew ?_) | (with_reducible refine Ext.trans ?_ (by assumption))))) ho3).mono ?_
  rintro e w4 ⟨rfl, hx4⟩
  have hx14 : Ext w1 w4 := (by repeat' (first | (with_reducible exact Ext.refl _) | (with_reducible assumption) | (with_reducible refine Ext.alloc ?_ _) | (with_reducible refine Ext.drewN ?_ _) | (with_reducible refine Ext.drew ?_) | (with_reducible refine Ext.trans ?_ (by assumption))))
  rw [decide_eq_true rfl]
  have HM4 := HM.ext (Ext.trans hx1 hx14)
  have ho4 := HO2.out.ext (Ext.trans hx3 hx4)
  have hX4 : Ext w w4 := (by repeat' (first | (with_reducible exact Ext.refl _) | (with_reducible assumption) | (with_reducible refine Ext.alloc ?_ _) | (with_reducible refine Ext.drewN ?_ _) | (with_reducible refine Ext.drew ?_) | (with_reducible refine Ext.trans ?_ (by assumption))))
  clear HM hx1 hx2 hx3 hx4 ho3 HO2 hx14 hX0
  have k0 := HM4.kind
  have kf := HM4.free 0
  have HM6 : MsgAt ((w4.setCell ⟨p, 0, none⟩ (.int .i64 K)).alloc (.cells #[.pointer (some ⟨p, 1, none⟩), .pointer (some ⟨p, 2, none⟩), .pointer (some ⟨p, 3, none⟩), .pointer (some ⟨p, 4, none⟩), .pointer (some ⟨p, 5, none⟩), .pointer (some ⟨p, 6, none⟩), .pointer (some ⟨p, 7, none⟩)] 66)) p K N g (.slice a n c) := (HM4.setKind K).ext ((Ext.refl _).alloc _)
  have hsz : (w4.setCell ⟨p, 0, none⟩ (.int .i64 K)).heap.size = w4.heap.size := by simp [World.setCell]
  have hq : ∀ k, k < 7 → ((w4.setCell ⟨p, 0, none⟩ (.int .i64 K)).alloc (.cells #[.pointer (some ⟨p, 1, none⟩), .pointer (some ⟨p, 2, none⟩), .pointer (some ⟨p, 3, none⟩), .pointer (some ⟨p, 4, none⟩), .pointer (some ⟨p, 5, none⟩), .pointer (some ⟨p, 6, none⟩), .pointer (some ⟨p, 7, none⟩)] 66)).cell? ⟨w4.heap.size, k, none⟩ = some (.pointer (some ⟨p, k + 1, none⟩)) := by
    intro k hk
    rw [← hsz]
    have : k = 0 ∨ k = 1 ∨ k = 2 ∨ k = 3 ∨ k = 4 ∨ k = 5 ∨ k = 6 := by omega
    rcases this with rfl | rfl | rfl | rfl | rfl | rfl | rfl <;> exact cell_new _ _ _ _ rfl
  have hX6 : Ext w ((w4.setCell ⟨p, 0, none⟩ (.int .i64 K)).alloc (.cells #[.pointer (some ⟨p, 1, none⟩), .pointer (some ⟨p, 2, none⟩), .pointer (some ⟨p, 3, none⟩), .pointer (some ⟨p, 4, none⟩), .pointer (some ⟨p, 5, none⟩), .pointer (some ⟨p, 6, none⟩), .pointer (some ⟨p, 7, none⟩)] 66)) := Ext.alloc (show Ext w (w4.setCell ⟨p, 0, none⟩ (.int .i64 K)) from Below.setCell (p := ⟨p, 0, none⟩) hX4 hwp _) _
  have hO6 := (ho4.chg (S := [p]) (w' := ((w4.setCell ⟨p, 0, none⟩ (.int .i64 K)).alloc (.cells #[.pointer (some ⟨p, 1, none⟩), .pointer (some ⟨p, 2, none⟩), .pointer (some ⟨p, 3, none⟩), .pointer (some ⟨p, 4, none⟩), .pointer (some ⟨p, 5, none⟩), .pointer (some ⟨p, 6, none⟩), .pointer (some ⟨p, 7, none⟩)] 66))) (by repeat' (first | (with_reducible exact Chg.refl _ _) | (with_reducible assumption) | (with_reducible refine Chg.drewN ?_ _) | (with_reducible refine Chg.drew ?_) | (with_reducible refine Chg.alloc ?_ _) | (with_reducible refine Chg.setCell ?_ (.inl (by simp)) _) | (with_reducible refine Chg.trans ?_ (by assumption)) | (with_reducible refine Chg.ext ?_ (by assumption)))) (by simp; omega))
  have hq4 : w4.heap.size < ((w4.setCell ⟨p, 0, none⟩ (.int .i64 K)).alloc (.cells #[.pointer (some ⟨p, 1, none⟩), .pointer (some ⟨p, 2, none⟩), .pointer (some ⟨p, 3, none⟩), .pointer (some ⟨p, 4, none⟩), .pointer (some ⟨p, 5, none⟩), .pointer (some ⟨p, 6, none⟩), .pointer (some ⟨p, 7, none⟩)] 66)).heap.size := by rw [← hsz]; simp
  have hpq : p < w4.heap.size := HM4.lt
  have HQ := Lib.hid hq
  have HO6 := Lib.hid hO6
  clear hO6 hq ho4 HM4
  go_wp2_with fail
  generalize ((w4.setCell ⟨p, 0, none⟩ (.int .i64 K)).alloc (.cells #[.pointer (some ⟨p, 1, none⟩), .pointer (some ⟨p, 2, none⟩), .pointer (some ⟨p, 3, none⟩), .pointer (some ⟨p, 4, none⟩), .pointer (some ⟨p, 5, none⟩), .pointer (some ⟨p, 6, none⟩), .pointer (some ⟨p, 7, none⟩)] 66)) = w6 at *
  obtain ⟨q, hqe⟩ : ∃ q, q = w4.heap.size := ⟨_, rfl⟩
  rw [← hqe] at HQ hpq hq4 ⊢
  clear hqe k0 kf hX4 hsz
  go_loopw [28] (fun vi wr => ∃ k : Nat, k ≤ 7 ∧ vi = .int .i64 k ∧ MsgAt wr p K (Nk K N k) g (.slice a n c) ∧ Chg [p] w6 wr) (fun vi _ => 7 - (intOf vi).toNat)
  case atStart => exact ⟨0, by omega, rfl, by rw [Nk_zero]; exact HM6, Chg.refl _ _⟩
  case round =>
    obtain ⟨k, hk, rfl, hMr, hC⟩ := hrel
    have HMR := Lib.hid hMr
    by_cases hlt : k < 7
    · have hpc := chg_cellm hC (HQ.out k hlt) (by simp; omega)
      have hf := hMr.num (f := k + 1) (by omega) (by omega)
      rw [Nk_at] at hf
      have hfz := hMr.free (k + 1)
      have HS := Lib.hid (Nk_succ K N k)
      obtain ⟨x, hx⟩ : ∃ x, x = N (k + 1) := ⟨_, rfl⟩
      rw [← hx] at hf
      have HXE := Lib.hid hx
      obtain ⟨nm, hnm⟩ : ∃ b, nmd K (k + 1) = b := ⟨_, rfl⟩
      have HNM := Lib.hid hnm
      have hred : redF K N (k + 1) = if nm = true then (if x < 0 then 1 else x % 2) else 0 := by unfold redF; rw [hnm, ← hx]
      have HRED := Lib.hid hred
      clear hMr hx hnm hred hq4
      go_wp2_with fail
      refine (has_nmd _ K (k + 1) _ (by omega) nm HNM.out wr ((HO6.out.chg hC (by simp; omega)).rd)).mono ?_
      rintro e w7 ⟨rfl, hx7⟩
      have hf := hx7.cellv hf
      have hM7 := HMR.out.ext hx7
      have hfz := hM7.free (k + 1)
      have hC7 : Chg [p] w6 w7 := hC.ext hx7
      have HM7 := Lib.hid hM7
      clear hx7 hpc hM7
      cases nm
      · go_wp2_with fail
        go_roundw
        case rel =>
          refine ⟨k + 1, by omega, by go_num, ?_, Chg.setCell hC7 (.inl (by simp)) _⟩
          have := HM7.out.setNum (f := k + 1) (by omega) (by omega) 0
          rw [show (0 : Int) = redF K N (k + 1) by rw [HRED.out]; rfl, HS.out] at this
          rw [show (0 : Int) = redF K N (k + 1) by rw [HRED.out]; rfl]
          exact this
        case measure => simp [intOf]; omega
      · by_cases hx0 : x < 0
        · go_wp2_with fail
          go_roundw
          case rel =>
            refine ⟨k + 1, by omega, by go_num, ?_, Chg.setCell hC7 (.inl (by simp)) _⟩
            have := HM7.out.setNum (f := k + 1) (by omega) (by omega) 1
            rw [show (1 : Int) = redF K N (k + 1) by rw [HRED.out]; simp only [if_true]; split <;> omega, HS.out] at this
            rw [show (1 : Int) = redF K N (k + 1) by rw [HRED.out]; simp only [if_true]; split <;> omega]
            exact this
          case measure => simp [intOf]; omega
        · have hx0' : 0 ≤ x := by omega
          go_wp2_with fail
          go_roundw
          case rel =>
            refine ⟨k + 1, by omega, by go_num, ?_, Chg.setCell hC7 (.inl (by simp)) _⟩
            have := HM7.out.setNum (f := k + 1) (by omega) (by omega) (x % 2)
            rw [show x % 2 = redF K N (k + 1) by rw [HRED.out]; simp only [if_true]; split <;> omega, HS.out] at this
            rw [show x % 2 = redF K N (k + 1) by rw [HRED.out]; simp only [if_true]; split <;> omega]
            exact this
          case measure => simp [intOf]; omega
    · obtain rfl : k = 7 := by omega
      have f8 := hMr.num (f := 8) (by omega) (by omega)
      have fz8 := hMr.free 8
      have hM8 := hMr.setNum (f := 8) (by omega) (by omega) 0
      have hC8 : Chg [p] w6 (wr.setCell ⟨p, 8, none⟩ (.int .i64 0)) := Chg.setCell hC (.inl (by simp)) _
      have HM8 := Lib.hid hM8
      have HC8 := Lib.hid hC8
      have g9 := hM8.grant
      have g10 := hM8.data
      have ho8 := (HO6.out.chg hC8 (by simp; omega)).rd
      have HO8 := Lib.hid ho8
      obtain ⟨N', hN'⟩ : ∃ N', N' = updF (Nk K N 7) 8 0 := ⟨_, rfl⟩
      have HNE := Lib.hid hN'
      rw [← hN'] at HM8
      obtain ⟨b9, h9⟩ : ∃ b, nmd K 9 = b := ⟨_, rfl⟩
      obtain ⟨b10, h10⟩ : ∃ b, nmd K 10 = b := ⟨_, rfl⟩
      have H9 := Lib.hid h9
      have H10 := Lib.hid h10
      have hkm : 0 < m ↔ kindN K ≠ 0 := by have := fields_pos (kindN K) (kindN_lt K); rw [HME.out]; exact this
      have HKM := Lib.hid hkm
      clear h9 h10 hN' hM8 hC8 ho8 hMr hC HMR hkm HQ
      go_wp2_with fail
      refine (has_nmd _ K 9 _ (by omega) b9 H9.out _ HO8.out).mono ?_
      rintro e w9 ⟨rfl, hx9⟩
      have hM9 := HM8.out.ext hx9
      have hC9 : Chg [p] w6 w9 := HC8.out.ext hx9
      have hO9 := HO8.out.ext hx9
      have HM9 := Lib.hid hM9
      have HC9 := Lib.hid hC9
      have HO9 := Lib.hid hO9
      have fz9 := hM9.free 9
      have fz10 := hM9.free 10
      have d9 := hM9.grant
      have d10 := hM9.data
      clear hM9 hC9 hx9 hO9 g9 g10 f8 fz8
      by_cases hn64 : n ≤ 64
      · have hn64i : (n : Int) ≤ 64 := by omega
        cases b9
        · have hMA := (HM9.out.setGrant false).setData (.slice a n c)
          have hCA := Chg.setCell (Chg.setCell HC9.out (p := ⟨p, 9, none⟩) (.inl (by simp)) (.bool false)) (p := ⟨p, 10, none⟩) (.inl (by simp)) (.slice a n c)
          have D := 0
          clear D
          skip
          have HMA := Lib.hid hMA
          have HCA := Lib.hid hCA
          clear hMA hCA
          go_wp2_with fail
          refine (has_nmd _ K 10 _ (by omega) b10 H10.out _ ((HO6.out.chg HCA.out (by simp; omega)).rd)).mono ?_
          rintro e wA ⟨rfl, hxA⟩
          have hMB := HMA.out.ext hxA
          have hCB : Chg [p] w6 wA := HCA.out.ext hxA
          have fzB := hMB.free 10
          have dB := hMB.data
          have HMB := Lib.hid hMB
          have HCB := Lib.hid hCB
          clear hxA hMB hCB
          cases b10
          · have hMC := HMB.out.setData (.slice none 0 0)
            have hMC' := hMC
            have hCC := Chg.setCell HCB.out (p := ⟨p, 10, none⟩) (.inl (by simp)) (.slice none 0 0)
            have k0 := hMC.kind
            have k1 := hMC.num (f := 1) (by omega) (by omega)
            have k2 := hMC.num (f := 2) (by omega) (by omega)
            have k3 := hMC.num (f := 3) (by omega) (by omega)
            have k4 := hMC.num (f := 4) (by omega) (by omega)
            have k5 := hMC.num (f := 5) (by omega) (by omega)
            have k6 := hMC.num (f := 6) (by omega) (by omega)
            have k7 := hMC.num (f := 7) (by omega) (by omega)
            have k8 := hMC.num (f := 8) (by omega) (by omega)
            have k9 := hMC.grant
            have k10 := hMC.data
            have HCC := Lib.hid hCC
            clear hMC hCC
            rcases Nat.eq_zero_or_pos m with hm0 | hm0
            · have hk : kindN K = 0 := Decidable.byContradiction fun h => by have := HKM.out.2 h; omega
              have HR := Lib.hid (fun w => mright K N' false none 0 0 w (by omega) false (by simp only [Bool.false_eq_true, false_iff]; exact fun h => h.1 hk))
              subst hm0
              clear hk
              unfold msgV mrow at HR
              go_wp2_with fail
              refine (HR.out _).mono ?_
              rintro e wC ⟨rfl, hxC⟩
              go_wp2_with fail
              go_ret
              exact ⟨rfl, (hX6.chg HCC.out (by simpa using hwp)).trans hxC⟩
            · have hk : kindN K ≠ 0 := HKM.out.1 hm0
              have HR := Lib.hid (fun w => mright K N' false none 0 0 w (by omega) true (by simp only [true_iff]; rw [HNE.out]; exact fields_end K N _ _ (by omega) hk (fun _ => rfl) (fun _ => rfl)))
              have hmi : (0 : Int) < (m : Int) := by omega
              clear hk
              unfold msgV mrow at HR
              go_wp2_with fail
              refine (HR.out _).mono ?_
              rintro e wC ⟨rfl, hxC⟩
              go_wp2_with fail
              go_ret
              exact ⟨rfl, (hX6.chg HCC.out (by simpa using hwp)).trans hxC⟩
          · have hMC := HMB.out
            have hMC' := hMC
            have hCC := HCB.out
            have k0 := hMC.kind
            have k1 := hMC.num (f := 1) (by omega) (by omega)
            have k2 := hMC.num (f := 2) (by omega) (by omega)
            have k3 := hMC.num (f := 3) (by omega) (by omega)
            have k4 := hMC.num (f := 4) (by omega) (by omega)
            have k5 := hMC.num (f := 5) (by omega) (by omega)
            have k6 := hMC.num (f := 6) (by omega) (by omega)
            have k7 := hMC.num (f := 7) (by omega) (by omega)
            have k8 := hMC.num (f := 8) (by omega) (by omega)
            have k9 := hMC.grant
            have k10 := hMC.data
            have HCC := Lib.hid hCC
            clear hMC hCC
            rcases Nat.eq_zero_or_pos m with hm0 | hm0
            · have hk : kindN K = 0 := Decidable.byContradiction fun h => by have := HKM.out.2 h; omega
              have HR := Lib.hid (fun w => mright K N' false a n c w (by unfold maxLen; omega) false (by simp only [Bool.false_eq_true, false_iff]; exact fun h => h.1 hk))
              subst hm0
              clear hk
              unfold msgV mrow at HR
              go_wp2_with fail
              refine (HR.out _).mono ?_
              rintro e wC ⟨rfl, hxC⟩
              go_wp2_with fail
              go_ret
              exact ⟨rfl, (hX6.chg HCC.out (by simpa using hwp)).trans hxC⟩
            · have hk : kindN K ≠ 0 := HKM.out.1 hm0
              have HR := Lib.hid (fun w => mright K N' false a n c w (by unfold maxLen; omega) true (by simp only [true_iff]; rw [HNE.out]; exact fields_end K N _ _ hn64 hk (fun _ => rfl) (fun h => by rw [H10.out] at h; cases h)))
              have hmi : (0 : Int) < (m : Int) := by omega
              clear hk
              unfold msgV mrow at HR
              go_wp2_with fail
              refine (HR.out _).mono ?_
              rintro e wC ⟨rfl, hxC⟩
              go_wp2_with fail
              go_ret
              exact ⟨rfl, (hX6.chg HCC.out (by simpa using hwp)).trans hxC⟩
        · have hMA := HM9.out.setData (.slice a n c)
          have hCA := Chg.setCell HC9.out (p := ⟨p, 10, none⟩) (.inl (by simp)) (.slice a n c)
          skip
          have HMA := Lib.hid hMA
          have HCA := Lib.hid hCA
          clear hMA hCA
          go_wp2_with fail
          refine (has_nmd _ K 10 _ (by omega) b10 H10.out _ ((HO6.out.chg HCA.out (by simp; omega)).rd)).mono ?_
          rintro e wA ⟨rfl, hxA⟩
          have hMB := HMA.out.ext hxA
          have hCB : Chg [p] w6 wA := HCA.out.ext hxA
          have fzB := hMB.free 10
          have dB := hMB.data
          have HMB := Lib.hid hMB
          have HCB := Lib.hid hCB
          clear hxA hMB hCB
          cases b10
          · have hMC := HMB.out.setData (.slice none 0 0)
            have hMC' := hMC
            have hCC := Chg.setCell HCB.out (p := ⟨p, 10, none⟩) (.inl (by simp)) (.slice none 0 0)
            have k0 := hMC.kind
            have k1 := hMC.num (f := 1) (by omega) (by omega)
            have k2 := hMC.num (f := 2) (by omega) (by omega)
            have k3 := hMC.num (f := 3) (by omega) (by omega)
            have k4 := hMC.num (f := 4) (by omega) (by omega)
            have k5 := hMC.num (f := 5) (by omega) (by omega)
            have k6 := hMC.num (f := 6) (by omega) (by omega)
            have k7 := hMC.num (f := 7) (by omega) (by omega)
            have k8 := hMC.num (f := 8) (by omega) (by omega)
            have k9 := hMC.grant
            have k10 := hMC.data
            have HCC := Lib.hid hCC
            clear hMC hCC
            rcases Nat.eq_zero_or_pos m with hm0 | hm0
            · have hk : kindN K = 0 := Decidable.byContradiction fun h => by have := HKM.out.2 h; omega
              have HR := Lib.hid (fun w => mright K N' g none 0 0 w (by omega) false (by simp only [Bool.false_eq_true, false_iff]; exact fun h => h.1 hk))
              subst hm0
              clear hk
              unfold msgV mrow at HR
              go_wp2_with fail
              refine (HR.out _).mono ?_
              rintro e wC ⟨rfl, hxC⟩
              go_wp2_with fail
              go_ret
              exact ⟨rfl, (hX6.chg HCC.out (by simpa using hwp)).trans hxC⟩
            · have hk : kindN K ≠ 0 := HKM.out.1 hm0
              have HR := Lib.hid (fun w => mright K N' g none 0 0 w (by omega) true (by simp only [true_iff]; rw [HNE.out]; exact fields_end K N _ _ (by omega) hk (fun h => by rw [H9.out] at h; cases h) (fun _ => rfl)))
              have hmi : (0 : Int) < (m : Int) := by omega
              clear hk
              unfold msgV mrow at HR
              go_wp2_with fail
              refine (HR.out _).mono ?_
              rintro e wC ⟨rfl, hxC⟩
              go_wp2_with fail
              go_ret
              exact ⟨rfl, (hX6.chg HCC.out (by simpa using hwp)).trans hxC⟩
          · have hMC := HMB.out
            have hMC' := hMC
            have hCC := HCB.out
            have k0 := hMC.kind
            have k1 := hMC.num (f := 1) (by omega) (by omega)
            have k2 := hMC.num (f := 2) (by omega) (by omega)
            have k3 := hMC.num (f := 3) (by omega) (by omega)
            have k4 := hMC.num (f := 4) (by omega) (by omega)
            have k5 := hMC.num (f := 5) (by omega) (by omega)
            have k6 := hMC.num (f := 6) (by omega) (by omega)
            have k7 := hMC.num (f := 7) (by omega) (by omega)
            have k8 := hMC.num (f := 8) (by omega) (by omega)
            have k9 := hMC.grant
            have k10 := hMC.data
            have HCC := Lib.hid hCC
            clear hMC hCC
            rcases Nat.eq_zero_or_pos m with hm0 | hm0
            · have hk : kindN K = 0 := Decidable.byContradiction fun h => by have := HKM.out.2 h; omega
              have HR := Lib.hid (fun w => mright K N' g a n c w (by unfold maxLen; omega) false (by simp only [Bool.false_eq_true, false_iff]; exact fun h => h.1 hk))
              subst hm0
              clear hk
              unfold msgV mrow at HR
              go_wp2_with fail
              refine (HR.out _).mono ?_
              rintro e wC ⟨rfl, hxC⟩
              go_wp2_with fail
              go_ret
              exact ⟨rfl, (hX6.chg HCC.out (by simpa using hwp)).trans hxC⟩
            · have hk : kindN K ≠ 0 := HKM.out.1 hm0
              have HR := Lib.hid (fun w => mright K N' g a n c w (by unfold maxLen; omega) true (by simp only [true_iff]; rw [HNE.out]; exact fields_end K N _ _ hn64 hk (fun h => by rw [H9.out] at h; cases h) (fun h => by rw [H10.out] at h; cases h)))
              have hmi : (0 : Int) < (m : Int) := by omega
              clear hk
              unfold msgV mrow at HR
              go_wp2_with fail
              refine (HR.out _).mono ?_
              rintro e wC ⟨rfl, hxC⟩
              go_wp2_with fail
              go_ret
              exact ⟨rfl, (hX6.chg HCC.out (by simpa using hwp)).trans hxC⟩
      · have hn64i : (64 : Int) < (n : Int) := by omega
        have hc64 : (64 : Int) ≤ (c : Int) := by omega
        cases b9
        · have hMA := (HM9.out.setGrant false).setData (.slice a 64 c)
          have hCA := Chg.setCell (Chg.setCell HC9.out (p := ⟨p, 9, none⟩) (.inl (by simp)) (.bool false)) (p := ⟨p, 10, none⟩) (.inl (by simp)) (.slice a 64 c)
          have D := 0
          clear D
          skip
          have HMA := Lib.hid hMA
          have HCA := Lib.hid hCA
          clear hMA hCA
          go_wp2_with fail
          refine (has_nmd _ K 10 _ (by omega) b10 H10.out _ ((HO6.out.chg HCA.out (by simp; omega)).rd)).mono ?_
          rintro e wA ⟨rfl, hxA⟩
          have hMB := HMA.out.ext hxA
          have hCB : Chg [p] w6 wA := HCA.out.ext hxA
          have fzB := hMB.free 10
          have dB := hMB.data
          have HMB := Lib.hid hMB
          have HCB := Lib.hid hCB
          clear hxA hMB hCB
          cases b10
          · have hMC := HMB.out.setData (.slice none 0 0)
            have hMC' := hMC
            have hCC := Chg.setCell HCB.out (p := ⟨p, 10, none⟩) (.inl (by simp)) (.slice none 0 0)
            have k0 := hMC.kind
            have k1 := hMC.num (f := 1) (by omega) (by omega)
            have k2 := hMC.num (f := 2) (by omega) (by omega)
            have k3 := hMC.num (f := 3) (by omega) (by omega)
            have k4 := hMC.num (f := 4) (by omega) (by omega)
            have k5 := hMC.num (f := 5) (by omega) (by omega)
            have k6 := hMC.num (f := 6) (by omega) (by omega)
            have k7 := hMC.num (f := 7) (by omega) (by omega)
            have k8 := hMC.num (f := 8) (by omega) (by omega)
            have k9 := hMC.grant
            have k10 := hMC.data
            have HCC := Lib.hid hCC
            clear hMC hCC
            rcases Nat.eq_zero_or_pos m with hm0 | hm0
            · have hk : kindN K = 0 := Decidable.byContradiction fun h => by have := HKM.out.2 h; omega
              have HR := Lib.hid (fun w => mright K N' false none 0 0 w (by omega) false (by simp only [Bool.false_eq_true, false_iff]; exact fun h => h.1 hk))
              subst hm0
              clear hk
              unfold msgV mrow at HR
              go_wp2_with fail
              refine (HR.out _).mono ?_
              rintro e wC ⟨rfl, hxC⟩
              go_wp2_with fail
              go_ret
              exact ⟨rfl, (hX6.chg HCC.out (by simpa using hwp)).trans hxC⟩
            · have hk : kindN K ≠ 0 := HKM.out.1 hm0
              have HR := Lib.hid (fun w => mright K N' false none 0 0 w (by omega) true (by simp only [true_iff]; rw [HNE.out]; exact fields_end K N _ _ (by omega) hk (fun _ => rfl) (fun _ => rfl)))
              have hmi : (0 : Int) < (m : Int) := by omega
              clear hk
              unfold msgV mrow at HR
              go_wp2_with fail
              refine (HR.out _).mono ?_
              rintro e wC ⟨rfl, hxC⟩
              go_wp2_with fail
              go_ret
              exact ⟨rfl, (hX6.chg HCC.out (by simpa using hwp)).trans hxC⟩
          · have hMC := HMB.out
            have hMC' := hMC
            have hCC := HCB.out
            have k0 := hMC.kind
            have k1 := hMC.num (f := 1) (by omega) (by omega)
            have k2 := hMC.num (f := 2) (by omega) (by omega)
            have k3 := hMC.num (f := 3) (by omega) (by omega)
            have k4 := hMC.num (f := 4) (by omega) (by omega)
            have k5 := hMC.num (f := 5) (by omega) (by omega)
            have k6 := hMC.num (f := 6) (by omega) (by omega)
            have k7 := hMC.num (f := 7) (by omega) (by omega)
            have k8 := hMC.num (f := 8) (by omega) (by omega)
            have k9 := hMC.grant
            have k10 := hMC.data
            have HCC := Lib.hid hCC
            clear hMC hCC
            rcases Nat.eq_zero_or_pos m with hm0 | hm0
            · have hk : kindN K = 0 := Decidable.byContradiction fun h => by have := HKM.out.2 h; omega
              have HR := Lib.hid (fun w => mright K N' false a 64 c w (by unfold maxLen; omega) false (by simp only [Bool.false_eq_true, false_iff]; exact fun h => h.1 hk))
              subst hm0
              clear hk
              unfold msgV mrow at HR
              go_wp2_with fail
              refine (HR.out _).mono ?_
              rintro e wC ⟨rfl, hxC⟩
              go_wp2_with fail
              go_ret
              exact ⟨rfl, (hX6.chg HCC.out (by simpa using hwp)).trans hxC⟩
            · have hk : kindN K ≠ 0 := HKM.out.1 hm0
              have HR := Lib.hid (fun w => mright K N' false a 64 c w (by unfold maxLen; omega) true (by simp only [true_iff]; rw [HNE.out]; exact fields_end K N _ _ (by omega) hk (fun _ => rfl) (fun h => by rw [H10.out] at h; cases h)))
              have hmi : (0 : Int) < (m : Int) := by omega
              clear hk
              unfold msgV mrow at HR
              go_wp2_with fail
              refine (HR.out _).mono ?_
              rintro e wC ⟨rfl, hxC⟩
              go_wp2_with fail
              go_ret
              exact ⟨rfl, (hX6.chg HCC.out (by simpa using hwp)).trans hxC⟩
        · have hMA := HM9.out.setData (.slice a 64 c)
          have hCA := Chg.setCell HC9.out (p := ⟨p, 10, none⟩) (.inl (by simp)) (.slice a 64 c)
          skip
          have HMA := Lib.hid hMA
          have HCA := Lib.hid hCA
          clear hMA hCA
          go_wp2_with fail
          refine (has_nmd _ K 10 _ (by omega) b10 H10.out _ ((HO6.out.chg HCA.out (by simp; omega)).rd)).mono ?_
          rintro e wA ⟨rfl, hxA⟩
          have hMB := HMA.out.ext hxA
          have hCB : Chg [p] w6 wA := HCA.out.ext hxA
          have fzB := hMB.free 10
          have dB := hMB.data
          have HMB := Lib.hid hMB
          have HCB := Lib.hid hCB
          clear hxA hMB hCB
          cases b10
          · have hMC := HMB.out.setData (.slice none 0 0)
            have hMC' := hMC
            have hCC := Chg.setCell HCB.out (p := ⟨p, 10, none⟩) (.inl (by simp)) (.slice none 0 0)
            have k0 := hMC.kind
            have k1 := hMC.num (f := 1) (by omega) (by omega)
            have k2 := hMC.num (f := 2) (by omega) (by omega)
            have k3 := hMC.num (f := 3) (by omega) (by omega)
            have k4 := hMC.num (f := 4) (by omega) (by omega)
            have k5 := hMC.num (f := 5) (by omega) (by omega)
            have k6 := hMC.num (f := 6) (by omega) (by omega)
            have k7 := hMC.num (f := 7) (by omega) (by omega)
            have k8 := hMC.num (f := 8) (by omega) (by omega)
            have k9 := hMC.grant
            have k10 := hMC.data
            have HCC := Lib.hid hCC
            clear hMC hCC
            rcases Nat.eq_zero_or_pos m with hm0 | hm0
            · have hk : kindN K = 0 := Decidable.byContradiction fun h => by have := HKM.out.2 h; omega
              have HR := Lib.hid (fun w => mright K N' g none 0 0 w (by omega) false (by simp only [Bool.false_eq_true, false_iff]; exact fun h => h.1 hk))
              subst hm0
              clear hk
              unfold msgV mrow at HR
              go_wp2_with fail
              refine (HR.out _).mono ?_
              rintro e wC ⟨rfl, hxC⟩
              go_wp2_with fail
              go_ret
              exact ⟨rfl, (hX6.chg HCC.out (by simpa using hwp)).trans hxC⟩
            · have hk : kindN K ≠ 0 := HKM.out.1 hm0
              have HR := Lib.hid (fun w => mright K N' g none 0 0 w (by omega) true (by simp only [true_iff]; rw [HNE.out]; exact fields_end K N _ _ (by omega) hk (fun h => by rw [H9.out] at h; cases h) (fun _ => rfl)))
              have hmi : (0 : Int) < (m : Int) := by omega
              clear hk
              unfold msgV mrow at HR
              go_wp2_with fail
              refine (HR.out _).mono ?_
              rintro e wC ⟨rfl, hxC⟩
              go_wp2_with fail
              go_ret
              exact ⟨rfl, (hX6.chg HCC.out (by simpa using hwp)).trans hxC⟩
          · have hMC := HMB.out
            have hMC' := hMC
            have hCC := HCB.out
            have k0 := hMC.kind
            have k1 := hMC.num (f := 1) (by omega) (by omega)
            have k2 := hMC.num (f := 2) (by omega) (by omega)
            have k3 := hMC.num (f := 3) (by omega) (by omega)
            have k4 := hMC.num (f := 4) (by omega) (by omega)
            have k5 := hMC.num (f := 5) (by omega) (by omega)
            have k6 := hMC.num (f := 6) (by omega) (by omega)
            have k7 := hMC.num (f := 7) (by omega) (by omega)
            have k8 := hMC.num (f := 8) (by omega) (by omega)
            have k9 := hMC.grant
            have k10 := hMC.data
            have HCC := Lib.hid hCC
            clear hMC hCC
            rcases Nat.eq_zero_or_pos m with hm0 | hm0
            · have hk : kindN K = 0 := Decidable.byContradiction fun h => by have := HKM.out.2 h; omega
              have HR := Lib.hid (fun w => mright K N' g a 64 c w (by unfold maxLen; omega) false (by simp only [Bool.false_eq_true, false_iff]; exact fun h => h.1 hk))
              subst hm0
              clear hk
              unfold msgV mrow at HR
              go_wp2_with fail
              refine (HR.out _).mono ?_
              rintro e wC ⟨rfl, hxC⟩
              go_wp2_with fail
              go_ret
              exact ⟨rfl, (hX6.chg HCC.out (by simpa using hwp)).trans hxC⟩
            · have hk : kindN K ≠ 0 := HKM.out.1 hm0
              have HR := Lib.hid (fun w => mright K N' g a 64 c w (by unfold maxLen; omega) true (by simp only [true_iff]; rw [HNE.out]; exact fields_end K N _ _ (by omega) hk (fun h => by rw [H9.out] at h; cases h) (fun h => by rw [H10.out] at h; cases h)))
              have hmi : (0 : Int) < (m : Int) := by omega
              clear hk
              unfold msgV mrow at HR
              go_wp2_with fail
              refine (HR.out _).mono ?_
              rintro e wC ⟨rfl, hxC⟩
              go_wp2_with fail
              go_ret
              exact ⟨rfl, (hX6.chg HCC.out (by simpa using hwp)).trans hxC⟩
end Go.Proofs.Ytmkobmkaalfecaa
