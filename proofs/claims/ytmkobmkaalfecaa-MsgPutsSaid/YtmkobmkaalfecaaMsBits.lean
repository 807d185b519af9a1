/-
  msg.bits, msg.named, msg.of, msg.Fields: the fields that a kind names, as a word and as a list. No condition but that the slice reads.
-/
import Derived.Test.YtmkobmkaalfecaaPut
import Derived.Test.YtmkobmkaalfecaaSame
import Derived.Lib.BitFns
namespace Go.Proofs.Ytmkobmkaalfecaa
open Go.RowKit

/-- the fields that each kind names -/
def fieldsN (k : Nat) : List Nat := ([[],[2,4,5,6],[2,4,5,6,10],[5,6,10],[5,7],[2,4,5,6,8,9,10],[2,4,5,6,8,9],[5,7],[5,6],[1,2,3,4,5,6,10],[5,6,10],[5],[5,8,10],[1,2,3,4,5,8,9],[5]] : List (List Nat)).getD k []
/-- and the word of them -/
def wordN (k : Nat) : Nat := ([0,116,1140,1120,160,1908,884,160,96,1150,1120,32,1312,830,32] : List Nat).getD k 0
/-- of any number as a kind -/
def kindN (k : Int) : Nat := if 1 ≤ k ∧ k ≤ 14 then k.toNat else 0
def fieldsOf (k : Int) : List Nat := fieldsN (kindN k)
def wordOf (k : Int) : Nat := wordN (kindN k)
/-- whether a kind names a field -/
def nmd (k : Int) (f : Nat) : Bool := decide (f ∈ fieldsOf k)
theorem kindN_lt (k : Int) : kindN k < 15 := by unfold kindN; split <;> omega
theorem word_bits : ∀ k, k < 15 → ∀ f, f < 11 → (wordN k / 2 ^ f) &&& 1 = if decide (f ∈ fieldsN k) = true then 1 else 0 := by decide +kernel
theorem word_lt : ∀ k, k < 15 → wordN k < 2048 := by decide +kernel
theorem fields_range : ∀ k, k < 15 → (List.range' 1 10).filter (fun f => decide (f ∈ fieldsN k)) = fieldsN k := by decide +kernel
theorem fields_len : ∀ k, k < 15 → (fieldsN k).length ≤ 10 := by decide +kernel
theorem word_zero : ∀ k, k < 15 → (wordN k = 0 ↔ k = 0) := by decide +kernel

/-- fields as the bits of a word -/
def orB : List Int → Nat → Nat
  | [], a => a
  | x :: t, a => orB t (a ||| 2 ^ x.toNat)
theorem orB_snoc (l : List Int) (x : Int) (a : Nat) : orB (l ++ [x]) a = orB l a ||| 2 ^ x.toNat := by
  induction l generalizing a with
  | nil => rfl
  | cons y t ih => exact ih _
theorem orB_lt (l : List Int) : ∀ a, a < 2048 → (∀ x ∈ l, 0 ≤ x ∧ x ≤ 10) → orB l a < 2048 := by
  induction l with
  | nil => intro a ha _; exact ha
  | cons y t ih =>
    intro a ha hb
    refine ih _ ?_ (fun x hx => hb x (List.mem_cons_of_mem _ hx))
    have hy := hb y List.mem_cons_self
    have : 2 ^ y.toNat < 2 ^ 11 := Nat.pow_lt_pow_right (by omega) (by omega)
    exact Nat.or_lt_two_pow (n := 11) ha this
theorem bits_step (a : Nat) (ha : a < 2048) (x : Int) (h0 : 0 ≤ x) (h1 : x ≤ 10) : bits .or .u64 (a : Int) (IntKind.u64.wrap (2 ^ x.toNat)) = ((a ||| 2 ^ x.toNat : Nat) : Int) := by
  have hlt : 2 ^ x.toNat < 2 ^ 11 := Nat.pow_lt_pow_right (by omega) (by omega)
  have e : IntKind.u64.wrap (2 ^ x.toNat) = ((2 ^ x.toNat : Nat) : Int) := by
    have e2 : ((2 : Int) ^ x.toNat) = ((2 ^ x.toNat : Nat) : Int) := by simp
    rw [e2, IntKind.wrap_u64]
    generalize 2 ^ x.toNat = y at *
    omega
  rw [e]
  exact u64_or_nat a _ (by omega) (by omega)

theorem mbits (v : Value) (l : List Int) (w : World) (h : RdI .i64 w v l) (hb : ∀ x ∈ l, 0 ≤ x ∧ x ≤ 10) :
    Calls Try.prog 76 #[v] w fun e w' => e = .returned (.int .u64 (orB l 0)) ∧ Ext w w' := by
  obtain ⟨a, c, rfl, hc, hm, hn, hs⟩ := h.parts
  have HS := Lib.hid hs
  have HB := Lib.hid hb
  obtain ⟨n, hnn⟩ : ∃ n, n = l.length := ⟨_, rfl⟩
  have HN := Lib.hid hnn
  unfold maxLen at hm
  have hn63 : (n : Int) ≤ 9223372036854775807 := by omega
  rw [← hnn] at hc ⊢
  clear hs hb hnn hn h hm
  go_enter Try.func76, Try.ntmps76
  go_wp2_with fail
  go_loopw [3, 8] (fun vw vi wr => ∃ k : Nat, k ≤ n ∧ vi = .int .i64 k ∧ vw = .int .u64 (orB (l.take k) 0) ∧ Ext w wr) (fun _ vi _ => n - (intOf vi).toNat)
  case atStart => exact ⟨0, by omega, rfl, by simp [orB], (by repeat' (first | (with_reducible exact Ext.refl _) | (with_reducible assumption) | (with_reducible refine Ext.alloc ?_ _) | (with_reducible refine Ext.drewN ?_ _) | (with_reducible refine Ext.drew ?_) | (with_reducible refine Ext.trans ?_ (by assumption))))⟩
  case round =>
    obtain ⟨k, hk, rfl, rfl, hx⟩ := hrel
    by_cases hlt : k < n
    · obtain ⟨b, o, rfl, hbl, hcell⟩ := HS.out (by intro e; have := HN.out; rw [e] at this; simp at this; omega)
      have hkl : k < l.length := by rw [← HN.out]; exact hlt
      have hce := hx.cellv (hcell k hkl)
      obtain ⟨hx0, hx10⟩ := HB.out _ (getD_mem hkl)
      have hstep := bits_step (orB (l.take k) 0) (orB_lt _ _ (by omega) (fun x hx => HB.out x (List.mem_of_mem_take hx))) _ hx0 hx10
      have hsn : orB (l.take (k + 1)) 0 = orB (l.take k) 0 ||| 2 ^ (l.getD k 0).toNat := by
        rw [List.take_succ_eq_append_getElem hkl, orB_snoc]; simp [List.getD, hkl]
      rw [← hsn] at hstep
      have HST := Lib.hid hstep
      clear hcell hstep hsn hkl
      generalize l.getD k 0 = x at *
      go_wp2_with fail
      go_roundw
      case rel => exact ⟨k + 1, by omega, by go_num, by rw [HST.out], hx⟩
      case measure => simp [intOf]; omega
    · obtain rfl : k = n := by omega
      go_wp2_with fail
      go_ret
      rw [List.take_of_length_le (by rw [← HN.out]; omega)]
      exact ⟨rfl, hx⟩

end Go.Proofs.Ytmkobmkaalfecaa
