/-
  gradinelaw04.MsgLeast answers true. No condition.
-/
import Derived.Test.YtmkobmkaalfecaaMsWakes
import Derived.Test.YtmkobmkaalfecaaFrameLastWalk
namespace Go.Proofs.Ytmkobmkaalfecaa
open Go.RowKit

theorem enc_zero : enc 0 = [0] := by rw [enc_lt (by omega)]; rfl
theorem kind_ne {K : Int} (h1 : 1 ≤ K) (h2 : K ≤ 14) : kindN K ≠ 0 := by unfold kindN; rw [if_pos ⟨h1, h2⟩]; omega
theorem least_ok {K : Int} (h1 : 1 ≤ K) (h2 : K ≤ 14) : MOk K (fun _ => 0) false 0 := by
  refine ⟨kind_ne h1 h2, ?_⟩
  have hz : ∀ f, f < 11 → fRight (fun _ => 0) 0 f = true ∧ fZero (fun _ => 0) false 0 f = true := by decide
  intro f _ h10
  obtain ⟨a, b⟩ := hz f (by omega)
  unfold fOk; rw [a, b]; simp
theorem least_bytes {K : Int} (h1 : 1 ≤ K) (h2 : K ≤ 14) : mB K (fun _ => 0) false [] = K :: (fieldsOf K).map (fun _ => 0) := by
  have hk : enc K.toNat = [K] := by rw [enc_lt (by omega), Int.toNat_of_nonneg (by omega)]
  have hf : ∀ f, fB (fun _ => 0) false [] f = [0] := by
    intro f; unfold fB
    split
    · rfl
    · split
      · rw [show ([] : List Int).length = 0 from rfl, enc_zero]; rfl
      · exact enc_zero
  unfold mB
  rw [hk, List.singleton_append]
  congr 1
  induction fieldsOf K with
  | nil => rfl
  | cons x t ih => rw [List.flatMap_cons, ih, hf]; rfl

set_option maxRecDepth 100000 in
set_option maxHeartbeats 1000000 in
theorem walk_MsgLeast (v0 : Value) (w : World) (h0 : IsInt .u8 v0) :
    Calls Try.prog 12 #[v0] w fun e w' => e = .returned (.bool true) ∧ Ext w w' := by
  obtain ⟨x, rfl, x0, x255⟩ := byte_of h0
  obtain ⟨r, hr⟩ : ∃ r, x % 14 = r := ⟨_, rfl⟩
  have r0 : 0 ≤ r := by omega
  have r13 : r ≤ 13 := by omega
  have HP : ∀ w, Calls Try.prog 44 #[.agg #[.int .i64 (1 + r), .int .i64 0, .int .i64 0, .int .i64 0, .int .i64 0, .int .i64 0, .int .i64 0, .int .i64 0, .int .i64 0, .bool false, .slice none 0 0]] w fun e w' => ∃ v', e = .returned (.tuple #[v', .int .i64 0]) ∧ OwnI .u8 5 w.heap.size w' v' (mB (1 + r) (fun _ => 0) false []) ∧ Ext w w' :=
    fun w => mput_ok (1 + r) (fun _ => 0) false (.slice none 0 0) [] w (RdI.nil _ _) (least_ok (by omega) (by omega))
  have HP := Lib.hid HP
  have HB := Lib.hid (least_bytes (K := 1 + r) (by omega) (by omega))
  have hle := fields_le (1 + r)
  obtain ⟨m, hm⟩ : ∃ m, m = (fieldsOf (1 + r)).length := ⟨_, rfl⟩
  rw [← hm] at hle
  have HM := Lib.hid hm
  clear h0 hm
  go_enter Try.func12, Try.ntmps12
  go_wp2_with fail
  refine (wakes04 _).mono ?_
  rintro e w1 ⟨rfl, hx1⟩
  go_wp2_with fail
  refine (HP.out _).mono ?_
  rintro e w2 ⟨v2, rfl, ho2, hx2⟩
  rw [HB.out] at ho2
  obtain ⟨a, c, hv, hc, hcm, hn, hs⟩ := ho2.rd.parts
  have hlen : ((1 + r) :: (fieldsOf (1 + r)).map (fun _ => (0 : Int))).length = m + 1 := by rw [HM.out]; simp
  rw [hlen] at hv hc
  subst hv
  obtain ⟨b, o, rfl, hb, hcell⟩ := hs (by simp)
  have h0 := hcell 0 (by simp)
  rw [Nat.add_zero] at h0
  simp only [List.getD_cons_zero] at h0
  have HC := Lib.hid h0
  clear hcell hs hn hcm ho2 hlen h0
  go_wp2_with fail
  refine (rfields (1 + r) _).mono ?_
  rintro e w3 ⟨v3, rfl, ho3, hx3⟩
  obtain ⟨a3, c3, hv3, _⟩ := ho3.parts
  rw [zints_len, ← HM.out] at hv3
  subst hv3
  have h0 := hx3.cellv HC.out
  clear ho3
  have hmi : (0 : Int) < ((m + 1 : Nat) : Int) := by omega
  go_wp2_with fail
  go_ret
  exact ⟨rfl, (by repeat' (first | (with_reducible exact Ext.refl _) | (with_reducible assumption) | (with_reducible refine Ext.alloc ?_ _) | (with_reducible refine Ext.drewN ?_ _) | (with_reducible refine Ext.drew ?_) | (with_reducible refine Ext.trans ?_ (by assumption))))⟩
end Go.Proofs.Ytmkobmkaalfecaa
