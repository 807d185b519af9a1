/-
  store.writes, does: sectors one by one. No condition but that the store lies in memory.
-/
import Derived.Test.YtoadjmeopamgbaaStLast
import Derived.Test.YtoadjmeopamgbaaDiskWr
namespace Go.Proofs.Ytoadjmeopamgbaa
open Go.RowKit

/-- sectors written one by one: the first error, the disk -/
def wrAll (d : Dk) (I : Nat → Int) (R : Nat → List Int) : Nat → Int × Dk
  | 0 => (0, d)
  | k + 1 => if (wrAll d I R k).1 = 0 then ((wrAll d I R k).2.bad (I k) (R k), (wrAll d I R k).2.wr (I k) (R k)) else wrAll d I R k
theorem wrAll_stop {d : Dk} {I : Nat → Int} {R : Nat → List Int} {k : Nat} (h : (wrAll d I R k).1 ≠ 0) : ∀ j, wrAll d I R (k + j) = wrAll d I R k := by
  intro j
  induction j with
  | zero => rfl
  | succ j ih => rw [← Nat.add_assoc, wrAll, ih, if_neg h]

section
variable (w : World) (F : List Nat) (ps p bl : Nat) (h : Sh) (d : Dk)
set_option maxRecDepth 100000 in
set_option maxHeartbeats 4000000 in
/-- the closure that writes: the rows l in the block pr, the store in the cell ⟨pc, 0⟩ -/
theorem swrites1 (hd : DiskAt w F p bl d) (hF : ∀ f ∈ F, f < w.heap.size) (m pr o cr pl pc pa : Nat) (hm : m ≤ 3) (I : Nat → Int) (R : Nat → List Int) (V : Nat → Value)
    (hpl : w.cell? ⟨pl, 0, none⟩ = some (.slice (some ⟨pr, o, none⟩) m cr)) (hpc : w.cell? ⟨pc, 0, none⟩ = some (.pointer (some ⟨ps, 0, none⟩))) (hps : w.cell? ⟨ps, 4, none⟩ = some (.pointer (some ⟨p, 0, none⟩)))
    (hV : ∀ k, k < m → w.cell? ⟨pr, o + k, none⟩ = some (V k) ∧ RdI .u8 w (V k) (R k) ∧ ∀ b, (V k).ownBlock = some b → b ≠ p ∧ b ≠ bl)
    (hI : ∀ k, k < m → w.cell? ⟨pa, k, none⟩ = some (.int .i64 (I k)))
    (hne : ∀ x ∈ [pl, pc, ps, pr, pa], x ≠ p ∧ x ≠ bl) :
    Calls Try.prog 57 #[.slice (some ⟨pa, 0, none⟩) m m, .pointer (some ⟨pl, 0, none⟩), .pointer (some ⟨pc, 0, none⟩)] w fun e w' => e = .returned (.int .i64 (wrAll d I R m).1) ∧ DiskAt w' F p bl (wrAll d I R m).2 ∧ Chg [p, bl] w w' := by
  have HV := Lib.hid hV
  have HI := Lib.hid hI
  have HNE := Lib.hid hne
  have HD := Lib.hid hd
  have HF := Lib.hid hF
  have HPS := Lib.hid hps
  have HPC := Lib.hid hpc
  have hmi : (m : Int) ≤ 3 := by omega
  clear hV hI hne hd hF hps
  go_enter Try.func57, Try.ntmps57
  go_wp2_with fail
  go_loopw [5, 6, 7, 10] (fun _ _ _ ci wr => ∃ k : Nat, k ≤ m ∧ ci = .int .i64 k ∧ Hid ((wrAll d I R k).1 = 0) ∧ Hid (DiskAt wr F p bl (wrAll d I R k).2) ∧ Chg [p, bl] w wr) (fun _ _ _ ci _ => m - (intOf ci).toNat)
  case atStart => exact ⟨0, Nat.zero_le _, rfl, Lib.hid rfl, HD, Chg.refl _ _⟩
  case round =>
    obtain ⟨k, hk, rfl, H0, HDK, hx⟩ := hrel
    by_cases hlt : k < m
    · have hkk : (k : Int) < (m : Int) := by omega
      have ne : ∀ {x}, x ∈ [pl, pc, ps, pr, pa] → x ∉ [p, bl] := fun hx => by have := HNE.out _ hx; simp; exact this
      obtain ⟨v1, v2, v3⟩ := HV.out k hlt
      have y0 := chg_cellc hx v1 (ne (by simp))
      have y1 := chg_cellc hx HPC.out (ne (by simp))
      have y2 := chg_cellc hx HPS.out (ne (by simp))
      have y3 := chg_cellc hx (HI.out k hlt) (ne (by simp))
      have hr := v2.chgc hx (fun _ b hb => by have := v3 b hb; simp; exact this)
      have HW := Lib.hid (fun w' (hx' : Ext wr w') => dwrite_any F p bl (wrAll d I R k).2 w' (HDK.out.ext hx') (I k) (V k) (R k) (hr.ext hx') (fun f hf => Nat.lt_of_lt_of_le (HF.out f hf) (Nat.le_trans hx.size hx'.size)))
      have e : wrAll d I R (k + 1) = ((wrAll d I R k).2.bad (I k) (R k), (wrAll d I R k).2.wr (I k) (R k)) := by rw [wrAll, if_pos H0.out]
      have e1 : (wrAll d I R k).2.bad (I k) (R k) = (wrAll d I R (k + 1)).1 := by rw [e]
      have e2 : (wrAll d I R k).2.wr (I k) (R k) = (wrAll d I R (k + 1)).2 := by rw [e]
      rw [e1, e2] at HW
      obtain ⟨z, hz⟩ : ∃ z, z = (wrAll d I R (k + 1)).1 := ⟨_, rfl⟩
      rw [← hz] at HW
      obtain ⟨vk, hvk⟩ : ∃ v, v = V k := ⟨_, rfl⟩
      obtain ⟨ik, hik⟩ : ∃ v, v = I k := ⟨_, rfl⟩
      rw [← hvk] at HW y0
      rw [← hik] at HW y3
      have HZ := Lib.hid hz
      obtain ⟨av, nv, cv, rfl⟩ : ∃ a n c, vk = .slice a n c := by rw [hvk]; obtain ⟨a, c, h9, _⟩ := v2.parts; exact ⟨a, _, c, h9⟩
      have N1 : pc ∉ [p, bl] := ne (by simp)
      have N2 : ps ∉ [p, bl] := ne (by simp)
      have N3 : pa ∉ [p, bl] := ne (by simp)
      clear ne v1 v2 v3 hr e e1 e2 hz hvk hik
      go_wp2_with fail
      go_region_held3 (fun w' => w'.cell? ⟨pc, 0, none⟩ = some (.pointer (some ⟨ps, 0, none⟩)) ∧ w'.cell? ⟨ps, 4, none⟩ = some (.pointer (some ⟨p, 0, none⟩)) ∧ w'.cell? ⟨pa, k, none⟩ = some (.int .i64 ik) ∧ Chg [p, bl] wr w') (exact ⟨chg_cellc (w := wr) (by repeat' (first | (with_reducible exact Chg.refl _ _) | (with_reducible assumption) | (with_reducible refine Chg.drewN ?_ _) | (with_reducible refine Chg.drew ?_) | (with_reducible refine Chg.alloc ?_ _) | (with_reducible refine Chg.setCell ?_ (.inl (by simp)) _) | (with_reducible refine Chg.trans ?_ (by assumption)) | (with_reducible refine Chg.ext ?_ (by assumption)))) y1 N1, chg_cellc (w := wr) (by repeat' (first | (with_reducible exact Chg.refl _ _) | (with_reducible assumption) | (with_reducible refine Chg.drewN ?_ _) | (with_reducible refine Chg.drew ?_) | (with_reducible refine Chg.alloc ?_ _) | (with_reducible refine Chg.setCell ?_ (.inl (by simp)) _) | (with_reducible refine Chg.trans ?_ (by assumption)) | (with_reducible refine Chg.ext ?_ (by assumption)))) y2 N2, chg_cellc (w := wr) (by repeat' (first | (with_reducible exact Chg.refl _ _) | (with_reducible assumption) | (with_reducible refine Chg.drewN ?_ _) | (with_reducible refine Chg.drew ?_) | (with_reducible refine Chg.alloc ?_ _) | (with_reducible refine Chg.setCell ?_ (.inl (by simp)) _) | (with_reducible refine Chg.trans ?_ (by assumption)) | (with_reducible refine Chg.ext ?_ (by assumption)))) y3 N3, (by repeat' (first | (with_reducible exact Chg.refl _ _) | (with_reducible assumption) | (with_reducible refine Chg.drewN ?_ _) | (with_reducible refine Chg.drew ?_) | (with_reducible refine Chg.alloc ?_ _) | (with_reducible refine Chg.setCell ?_ (.inl (by simp)) _) | (with_reducible refine Chg.trans ?_ (by assumption)) | (with_reducible refine Chg.ext ?_ (by assumption))))⟩) ((go_at_call 19; refine (HW.out _ (by repeat' (first | (with_reducible exact Ext.refl _) | (with_reducible assumption) | (with_reducible refine Ext.alloc ?_ _) | (with_reducible refine Ext.drewN ?_ _) | (with_reducible refine Ext.drew ?_) | (with_reducible refine Ext.trans ?_ (by assumption))))).mono ?_; rintro e w1 ⟨rfl, hd1, hx1⟩))
      have hxw : Chg [p, bl] w w1 := hx.trans (by repeat' (first | (with_reducible exact Chg.refl _ _) | (with_reducible assumption) | (with_reducible refine Chg.drewN ?_ _) | (with_reducible refine Chg.drew ?_) | (with_reducible refine Chg.alloc ?_ _) | (with_reducible refine Chg.setCell ?_ (.inl (by simp)) _) | (with_reducible refine Chg.trans ?_ (by assumption)) | (with_reducible refine Chg.ext ?_ (by assumption))))
      have HDN := Lib.hid hd1
      clear hd1
      by_cases h0 : z = 0
      · subst h0
        have HZ0 := Lib.hid HZ.out.symm
        clear HZ
        go_wp2_with fail
        go_roundw
        case rel => exact ⟨k + 1, by omega, by go_num, HZ0, HDN, hxw⟩
        case measure => simp [intOf]; omega
      · have hb : (z != 0) = true := by rw [bne_iff_ne]; exact h0
        have HE : Hid (wrAll d I R m = wrAll d I R (k + 1)) := Lib.hid (by
          have := wrAll_stop (d := d) (I := I) (R := R) (k := k + 1) (by rw [← HZ.out]; exact h0) (m - (k + 1))
          rwa [show k + 1 + (m - (k + 1)) = m by omega] at this)
        go_wp2_with fail
        go_ret
        refine ⟨ret_int (by rw [HE.out, ← HZ.out]), by rw [HE.out]; exact HDN.out, hxw⟩
    · obtain rfl : k = m := by omega
      go_wp2_with fail
      go_ret
      exact ⟨ret_int H0.out.symm, HDK.out, hx⟩
end
end Go.Proofs.Ytoadjmeopamgbaa
