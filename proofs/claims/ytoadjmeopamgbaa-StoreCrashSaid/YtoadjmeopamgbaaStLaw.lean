/-
  What is written is read: blocks' and slots' sectors, the journal. No program in sight.
-/
import Derived.Test.YtoadjmeopamgbaaStWakes
namespace Go.Proofs.Ytoadjmeopamgbaa

/-- numbers that a sector may have -/
def NumOk (l : List Int) : Prop := ∀ x ∈ l, 0 ≤ x ∧ x < 9223372036854775808
theorem rdNum_enc (p : List Int) (m : Nat) (r : List Int) (h : m < 9223372036854775808) : rdNum (p ++ (enc m ++ r)) (((p.length : Nat) : Int), true) = ((m : Int), ((((p ++ enc m).length : Nat) : Int), true)) := by
  unfold rdNum
  simp only [if_true, getN_enc p r m h, decide_true, List.length_append]
theorem encL_split {l : List Int} {k : Nat} (hk : k < l.length) : encL l = encL (l.take k) ++ (enc (l.getD k 0).toNat ++ encL (l.drop (k + 1))) := by
  have e : l = l.take k ++ (l.getD k 0 :: l.drop (k + 1)) := by
    have h1 : l.drop k = l.getD k 0 :: l.drop (k + 1) := by
      rw [List.drop_eq_getElem_cons hk]; simp [List.getD, hk]
    rw [← h1, List.take_append_drop]
  have h2 : encL l = encL (l.take k ++ (l.getD k 0 :: l.drop (k + 1))) := congrArg encL e
  rw [h2, encL_append]
  rfl
theorem rdNum_encL {l : List Int} (hl : NumOk l) (r : List Int) {k : Nat} (hk : k < l.length) : rdNum (encL l ++ r) ((((encL (l.take k)).length : Nat) : Int), true) = (l.getD k 0, ((((encL (l.take (k + 1))).length : Nat) : Int), true)) := by
  have hm := hl (l.getD k 0) (by simp [List.getD, hk])
  have h1 := rdNum_enc (encL (l.take k)) (l.getD k 0).toNat (encL (l.drop (k + 1)) ++ r) (by omega)
  rw [encL_split hk, encL_take hk, List.append_assoc, List.append_assoc, h1, Int.toNat_of_nonneg hm.1]
theorem rdAll_encL {l : List Int} (hl : NumOk l) (r : List Int) : ∀ k, k ≤ l.length → rdAll (encL l ++ r) (0, true) k = ((((encL (l.take k)).length : Nat) : Int), true) := by
  intro k
  induction k with
  | zero => intro _; rfl
  | succ k ih =>
    intro hk
    rw [rdAll, ih (by omega), rdNum_encL hl r (by omega)]
theorem rdVal_encL {l : List Int} (hl : NumOk l) (r : List Int) {k : Nat} (hk : k < l.length) : rdVal (encL l ++ r) (0, true) k = l.getD k 0 := by
  unfold rdVal
  rw [rdAll_encL hl r k (by omega), rdNum_encL hl r hk]
/-- a text behind bytes, to the end -/
theorem rdText_enc (p D : List Int) (h : D.length ≤ 100000) : rdText (p ++ (enc D.length ++ D)) (((p.length : Nat) : Int), true) D.length = (D, true) := by
  have hg := getN_enc p D D.length (by omega)
  have ht : getT (p ++ (enc D.length ++ D)) p.length D.length = (D, ((p.length + (enc D.length).length : Nat) : Int) + D.length, 0) := by
    unfold getT
    rw [hg]
    simp only [ne_eq, not_true_eq_false, if_false, Int.lt_irrefl]
    rw [if_neg (by simp; omega)]
    simp only [Int.toNat_natCast]
    rw [← List.append_assoc, ← List.length_append, List.drop_left, List.take_of_length_le (by omega)]
  unfold rdText
  rw [if_pos rfl, ht]
  simp
  omega
theorem sSlot_enc {b o n : Int} (hb : 0 ≤ b ∧ b ≤ 1099511627776) (ho : 0 ≤ o ∧ o ≤ 1099511627776) (hn : 0 ≤ n ∧ n ≤ 16) : sSlot (encL [b, o, n]) = (b, o, n) := by
  have hl : NumOk [b, o, n] := fun x hx => by simp at hx; omega
  have e : encL [b, o, n] = encL [b, o, n] ++ [] := by simp
  have h3 := rdAll_encL hl [] 3 (by simp)
  have v0 := rdVal_encL hl [] (k := 0) (by simp)
  have v1 := rdVal_encL hl [] (k := 1) (by simp)
  have v2 := rdVal_encL hl [] (k := 2) (by simp)
  rw [← e] at h3 v0 v1 v2
  simp at v0 v1 v2 h3
  unfold sSlot
  rw [if_pos (by unfold sSlotOk; rw [h3, v0, v1, v2]; refine ⟨rfl, rfl, by omega, by omega, by omega⟩), v0, v1, v2]
theorem sBlk_enc {v : Int} (hv : 0 ≤ v ∧ v ≤ 1000) {D : List Int} (hD : D.length ≤ 64) : sBlk D.length (enc v.toNat ++ enc D.length ++ D) = (v, D) := by
  have hl : NumOk [v] := fun x hx => by simp at hx; omega
  have h1 := rdNum_encL hl (enc D.length ++ D) (k := 0) (by simp)
  have e : encL [v] = enc v.toNat := by simp [encL]
  simp only [List.take_zero, List.take_succ_cons, List.getD_cons_zero, e] at h1
  have e0 : ((encL []).length : Nat) = 0 := rfl
  rw [e0] at h1
  have h2 := rdText_enc (enc v.toNat) D (by omega)
  unfold sBlk
  rw [List.append_assoc]
  have h1' : rdNum (enc v.toNat ++ (enc D.length ++ D)) (0, true) = (v, ((((enc v.toNat).length : Nat) : Int), true)) := h1
  rw [h1', h2, if_pos ⟨rfl, hv.2⟩]
theorem sBlk_nil (n : Nat) : sBlk n [] = (0, List.replicate n 0) := by
  unfold sBlk
  rw [if_neg (by simp [rdText, rdNum, getN, getL])]
theorem sSlot_nil : sSlot [] = (0, 0, 0) := by decide +kernel
theorem jT_nil (n : Nat) : (jT [] n).2 = false := by
  simp [jT, rdText, rdAll, rdNum, getN, getL]

/-- a disk that is up, and stays so -/
structure Fresh (d : Dk) : Prop where
  f : d.fuse = -1
  u : d.down = false
theorem Fresh.bad {d : Dk} (h : Fresh d) {i : Nat} (hi : i < d.rows.length) {R : List Int} (hR : R.length ≤ 64) : d.bad i R = 0 := by
  unfold Dk.bad
  rw [h.u, if_neg (by simp), if_pos ⟨by omega, by omega⟩, if_neg (by omega), if_neg (by rw [h.f]; decide)]
theorem Fresh.wr {d : Dk} (h : Fresh d) {i : Nat} (hi : i < d.rows.length) {R : List Int} (hR : R.length ≤ 64) : d.wr i R = ⟨-1, false, d.rows.set i R⟩ := by
  unfold Dk.wr
  rw [h.bad hi hR, if_pos rfl, h.f, h.u, Int.toNat_natCast]
  rfl
end Go.Proofs.Ytoadjmeopamgbaa
