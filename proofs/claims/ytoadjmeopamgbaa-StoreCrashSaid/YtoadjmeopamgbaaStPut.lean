/-
  store: numbers, a shape's helpers, read. No condition but that all reads.
-/
import Derived.Test.YtoadjmeopamgbaaStAll
import Derived.Test.YtoadjmeopamgbaaPut
import Derived.Test.YtoadjmeopamgbaaRawRef
import Derived.Test.YtoadjmeopamgbaaDiskFn
namespace Go.Proofs.Ytoadjmeopamgbaa
open Go.RowKit

/-- numbers' bytes -/
def encL : List Int → List Int
  | [] => []
  | n :: r => enc n.toNat ++ encL r
theorem encL_append (l r : List Int) : encL (l ++ r) = encL l ++ encL r := by
  induction l with
  | nil => rfl
  | cons x l ih => rw [List.cons_append, encL, encL, ih, List.append_assoc]
theorem encL_take {l : List Int} {k : Nat} (h : k < l.length) : encL (l.take (k + 1)) = encL (l.take k) ++ enc (l.getD k 0).toNat := by
  have e : l.take (k + 1) = l.take k ++ [l.getD k 0] := by
    rw [List.take_succ_eq_append_getElem h]; simp [List.getD, h]
  rw [e, encL_append, encL, encL, List.append_nil]
theorem encL_len {l : List Int} (h : ∀ x ∈ l, x ≤ 9223372036854775807) : (encL l).length ≤ 9 * l.length := by
  induction l with
  | nil => simp [encL]
  | cons x l ih =>
    have h1 := ih (fun y hy => h y (by simp [hy]))
    have h2 := h x (by simp)
    have h3 := enc_len_le 8 x.toNat (by omega)
    rw [encL]; simp only [List.length_append, List.length_cons]; omega

set_option maxHeartbeats 1000000 in
theorem snumbers (v : Value) (l : List Int) (w : World) (h : RdI .i64 w v l) (hl : l.length ≤ 10) (hb : ∀ x ∈ l, -9223372036854775808 ≤ x ∧ x ≤ 9223372036854775807) :
    Calls Try.prog 38 #[v] w fun e w' => ∃ v', e = .returned v' ∧ OwnI .u8 5 w.heap.size w' v' (encL l) ∧ Ext w w' := by
  obtain ⟨a, c, rfl, hlc, hcm, _, hs⟩ := h.parts
  have HS := Lib.hid hs
  have HB := Lib.hid hb
  obtain ⟨n, hn⟩ : ∃ n, n = l.length := ⟨_, rfl⟩
  rw [← hn] at HS hl ⊢
  have HN := Lib.hid hn
  have hni : (n : Int) ≤ 10 := by omega
  clear h hs hcm hlc hn hb
  go_enter Try.func38, Try.ntmps38
  go_wp2_with fail
  go_loopw [3, 5, 8] (fun cb _ ci wr => ∃ k : Nat, k ≤ n ∧ ci = .int .i64 k ∧ OwnI .u8 5 w.heap.size wr cb (encL (l.take k)) ∧ Ext w wr) (fun _ _ ci _ => n - (intOf ci).toNat)
  case atStart => exact ⟨0, Nat.zero_le _, rfl, OwnI.nil _ _ _ _, Ext.refl _⟩
  case round =>
    obtain ⟨k, hk, rfl, ho, hx⟩ := hrel
    by_cases hlt : k < n
    · have hkk : (k : Int) < (n : Int) := by omega
      obtain ⟨bb, o, rfl, hbb, hcell⟩ := HS.out (by intro e; have := HN.out; rw [e] at this; simp at this; omega)
      have y0 := hx.cellv (hcell k hlt)
      have hmem := HB.out _ (getD_mem (l := l) (i := k) (by have := HN.out; omega))
      have he := encL_take (l := l) (k := k) (by have := HN.out; omega)
      have hll := encL_len (l := l.take k) (fun x hx => (HB.out x (List.mem_of_mem_take hx)).2)
      rw [List.length_take] at hll
      obtain ⟨y, hy⟩ : ∃ y, y = l.getD k 0 := ⟨_, rfl⟩
      rw [← hy] at y0 hmem he
      have HE := Lib.hid he
      have HP := Lib.hid (put_any u3 (encL (l.take k)) y wr ho.rd (fits_small (by omega)) hmem.1 hmem.2)
      clear hcell he hll ho hy hmem
      go_wp2_with fail
      refine HP.out.mono ?_
      rintro e w1 ⟨v1, rfl, ho1, hx1⟩
      have HO := Lib.hid (ho1.mono hx.size)
      clear ho1
      go_wp2_with fail
      go_roundw
      case rel => exact ⟨k + 1, by omega, by go_num, by rw [HE.out]; exact HO.out, hx.trans hx1⟩
      case measure => simp [intOf]; omega
    · obtain rfl : k = n := by omega
      have e : l.take k = l := List.take_of_length_le (by have := HN.out; omega)
      rw [e] at ho
      have HO := Lib.hid ho
      clear ho e
      go_wp2_with fail
      go_ret
      exact ⟨_, rfl, HO.out, hx⟩

/-- a shape's value -/
def shV (h : Sh) : Value := .agg #[.int .i64 h.b, .int .i64 h.s, .int .i64 h.c, .int .i64 h.k]
theorem sblockAt (x0 x1 x2 x3 : Int) (b : Nat) (hb : b ≤ 100) (w : World) :
    Calls Try.prog 52 #[.agg #[.int .i64 x0, .int .i64 x1, .int .i64 x2, .int .i64 x3], .int .i64 b] w fun e w' => e = .returned (.int .i64 ((1 + b : Nat) : Int)) ∧ Ext w w' := by
  have hbi : (b : Int) ≤ 100 := by omega
  go_enter Try.func52, Try.ntmps52
  go_wp2_with fail
  go_ret
  exact ⟨ret_int (by omega), (by repeat' (first | (with_reducible exact Ext.refl _) | (with_reducible assumption) | (with_reducible refine Ext.alloc ?_ _) | (with_reducible refine Ext.drewN ?_ _) | (with_reducible refine Ext.drew ?_) | (with_reducible refine Ext.trans ?_ (by assumption))))⟩
def Sh.slotAt (h : Sh) (c k : Nat) : Nat := 1 + h.b + h.k * c + k
theorem Sh.Ok.slot {h : Sh} (o : h.Ok) {c k : Nat} (hc : c < h.c) (hk : k < h.k) : h.slotAt c k < h.many ∧ h.slotAt c k ≤ 49 := by
  have : h.k * c + h.k ≤ h.k * h.c := by rw [← Nat.mul_succ]; exact Nat.mul_le_mul_left _ hc
  rw [Nat.mul_comm h.k h.c] at this
  have := o.many
  unfold Sh.slotAt
  unfold Sh.many at *
  omega
theorem sslotAt (h : Sh) (o : h.Ok) (c k : Nat) (hc : c < h.c) (hk : k < h.k) (w : World) :
    Calls Try.prog 37 #[.agg #[.int .i64 h.b, .int .i64 h.s, .int .i64 h.c, .int .i64 h.k], .int .i64 c, .int .i64 k] w fun e w' => e = .returned (.int .i64 (h.slotAt c k : Nat)) ∧ Ext w w' := by
  obtain ⟨_, hb2⟩ := o.slot hc hk
  unfold Sh.slotAt at hb2 ⊢
  have hm : (h.k : Int) * (c : Int) = ((h.k * c : Nat) : Int) := by simp
  have hkc : h.k * c ≤ 49 := by omega
  have hk4 := o.k2
  have hb32 := o.b2
  have hc4 := o.c2
  obtain ⟨hb, hs, hcc, hk'⟩ := h
  simp only at *
  generalize hk' * c = q at *
  have hq0 : 0 ≤ (hk' : Int) * (c : Int) := by rw [hm]; omega
  have hq1 : (hk' : Int) * (c : Int) ≤ 49 := by rw [hm]; omega
  have hbi : (hb : Int) ≤ 32 := by omega
  have HM := Lib.hid hm
  have hki : (k : Int) ≤ 4 := by omega
  have hci : (c : Int) ≤ 4 := by omega
  have hki' : (hk' : Int) ≤ 4 := by omega
  clear hm o
  go_enter Try.func37, Try.ntmps37
  go_wp2_with fail
  go_ret
  exact ⟨ret_int (by rw [HM.out]; omega), (by repeat' (first | (with_reducible exact Ext.refl _) | (with_reducible assumption) | (with_reducible refine Ext.alloc ?_ _) | (with_reducible refine Ext.drewN ?_ _) | (with_reducible refine Ext.drew ?_) | (with_reducible refine Ext.trans ?_ (by assumption))))⟩
theorem ssectors (h : Sh) (o : h.Ok) (w : World) :
    Calls Try.prog 31 #[.agg #[.int .i64 h.b, .int .i64 h.s, .int .i64 h.c, .int .i64 h.k]] w fun e w' => e = .returned (.int .i64 (h.many : Nat)) ∧ Ext w w' := by
  have hb2 := o.many
  unfold Sh.many at hb2 ⊢
  have hm : (h.c : Int) * (h.k : Int) = ((h.c * h.k : Nat) : Int) := by simp
  have hb32 := o.b2
  obtain ⟨hb, hs, hcc, hk'⟩ := h
  simp only at *
  generalize hcc * hk' = q at *
  have hq0 : 0 ≤ (hcc : Int) * (hk' : Int) := by rw [hm]; omega
  have hq1 : (hcc : Int) * (hk' : Int) ≤ 49 := by rw [hm]; omega
  have hbi : (hb : Int) ≤ 32 := by omega
  have HM := Lib.hid hm
  clear hm o
  go_enter Try.func31, Try.ntmps31
  go_wp2_with fail
  go_ret
  exact ⟨ret_int (by rw [HM.out]; omega), (by repeat' (first | (with_reducible exact Ext.refl _) | (with_reducible assumption) | (with_reducible refine Ext.alloc ?_ _) | (with_reducible refine Ext.drewN ?_ _) | (with_reducible refine Ext.drew ?_) | (with_reducible refine Ext.trans ?_ (by assumption))))⟩
end Go.Proofs.Ytoadjmeopamgbaa
