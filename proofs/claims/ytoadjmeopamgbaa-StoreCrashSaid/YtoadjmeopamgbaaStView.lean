/-
  What a write makes of what a store's sectors say. No program in sight.
-/
import Derived.Test.YtoadjmeopamgbaaStLaw
namespace Go.Proofs.Ytoadjmeopamgbaa

theorem getD_set (l : List (List Int)) (i j : Nat) (x : List Int) (hi : i < l.length) : (l.set i x).getD j [] = if j = i then x else l.getD j [] := by
  by_cases e : j = i
  · subst e; simp [List.getD, hi]
  · rw [if_neg e]
    simp [List.getD, Ne.symm e]
theorem slot_inj {h : Sh} (_o : h.Ok) {a s c k : Nat} (hs : s < h.k) (hk : k < h.k) (e : h.slotAt a s = h.slotAt c k) : a = c ∧ s = k := by
  unfold Sh.slotAt at e
  have e2 : h.k * a + s = h.k * c + k := by omega
  have h1 : (h.k * a + s) / h.k = a := by rw [Nat.mul_add_div (by omega), Nat.div_eq_of_lt hs, Nat.add_zero]
  have h2 : (h.k * c + k) / h.k = c := by rw [Nat.mul_add_div (by omega), Nat.div_eq_of_lt hk, Nat.add_zero]
  have : a = c := by rw [← h1, ← h2, e2]
  subst this
  exact ⟨rfl, by omega⟩
theorem encJ_len {h : Sh} (o : h.Ok) {c k blk : Nat} (hc : c < h.c) (hk : k < h.k) (hb : blk < h.b) {b op v : Int} (hbb : 1 ≤ b ∧ b ≤ 1099511627776) (hop : 1 ≤ op ∧ op ≤ 1099511627776) (hv : 0 ≤ v ∧ v ≤ 1000) {D : List Int} (hD : D.length = h.s) :
    (encL [(c : Int), k, b, op, blk, v] ++ enc D.length ++ D).length ≤ 64 ∧ (encL [b, op, 11]).length ≤ 64 ∧ (enc v.toNat ++ enc D.length ++ D).length ≤ 64 ∧ (enc b.toNat ++ enc op.toNat ++ enc 0).length ≤ 64 := by
  have o1 := o.c2; have o2 := o.k2; have o3 := o.b2; have o4 := o.s2
  have l1 := enc_len_le 0 c (by omega)
  have l2 := enc_len_le 0 k (by omega)
  have l3 := enc_len_le 5 b.toNat (by omega)
  have l4 := enc_len_le 5 op.toNat (by omega)
  have l5 := enc_len_le 0 blk (by omega)
  have l6 := enc_len_le 1 v.toNat (by omega)
  have l7 := enc_len_le 0 D.length (by omega)
  have l8 := enc_len_le 0 11 (by omega)
  have l9 := enc_len_le 0 0 (by omega)
  refine ⟨?_, ?_, ?_, ?_⟩ <;> simp [encL] <;> omega

def oldW (sl : Int × Int × Int) (b o : Int) : Prop := b < sl.1 ∨ (b = sl.1 ∧ o < sl.2.1)
def sameW (sl : Int × Int × Int) (b o : Int) : Prop := b = sl.1 ∧ o = sl.2.1
/-- the sectors, behind a write that is done -/
structure Done (h : Sh) (d d' : Dk) (c k blk : Nat) (x : Int × Int × Int) (y : Option (Int × List Int)) : Prop where
  slot : sSlot (d'.rows.getD (h.slotAt c k) []) = x
  slots : ∀ a s, a < h.c → s < h.k → ¬ (a = c ∧ s = k) → d'.rows.getD (h.slotAt a s) [] = d.rows.getD (h.slotAt a s) []
  bk : ∀ z, y = some z → sBlk h.s (d'.rows.getD (1 + blk) []) = z
  blks : ∀ j, j < h.b → (j ≠ blk ∨ y = none) → d'.rows.getD (1 + j) [] = d.rows.getD (1 + j) []
  zero : d.rows.getD 0 [] = [] → d'.rows.getD 0 [] = []

theorem st_view {h : Sh} (ok : h.Ok) {d : Dk} (hf : Fresh d) (hm : h.many ≤ d.rows.length) {c k blk : Nat} (hc : c < h.c) (hk : k < h.k) (hb : blk < h.b) {b o : Int} (hbb : 1 ≤ b ∧ b ≤ 1099511627776) (hoo : 1 ≤ o ∧ o ≤ 1099511627776) {D : List Int} (hD : D.length = h.s) :
    Fresh (stW2 h d c k blk b o D).2 ∧
    ((oldW (sSlot (d.rows.getD (h.slotAt c k) [])) b o ∧ stW2 h d c k blk b o D = ((0, 12), d)) ∨
     (¬ oldW (sSlot (d.rows.getD (h.slotAt c k) [])) b o ∧ sameW (sSlot (d.rows.getD (h.slotAt c k) [])) b o ∧ stW2 h d c k blk b o D = (((sSlot (d.rows.getD (h.slotAt c k) [])).2.2, 0), d)) ∨
     (¬ oldW (sSlot (d.rows.getD (h.slotAt c k) [])) b o ∧ ¬ sameW (sSlot (d.rows.getD (h.slotAt c k) [])) b o ∧ (sBlk h.s (d.rows.getD (1 + blk) [])).1 = 1000 ∧ (stW2 h d c k blk b o D).1 = (11, 0) ∧ Done h d (stW2 h d c k blk b o D).2 c k blk (b, o, 11) none) ∨
     (¬ oldW (sSlot (d.rows.getD (h.slotAt c k) [])) b o ∧ ¬ sameW (sSlot (d.rows.getD (h.slotAt c k) [])) b o ∧ (sBlk h.s (d.rows.getD (1 + blk) [])).1 < 1000 ∧ (stW2 h d c k blk b o D).1 = (0, 0) ∧ Done h d (stW2 h d c k blk b o D).2 c k blk (b, o, 0) (some ((sBlk h.s (d.rows.getD (1 + blk) [])).1 + 1, D)))) := by
  obtain ⟨hs1, _⟩ := ok.slot hc hk
  have hslot : h.slotAt c k < d.rows.length := by omega
  have hblk : 1 + blk < d.rows.length := by unfold Sh.many at hm; omega
  have hslb : 1 + h.b ≤ h.slotAt c k := by unfold Sh.slotAt; omega
  obtain ⟨v0, v1⟩ := sBlk_bd h.s (d.rows.getD (1 + blk) [])
  by_cases q0 : oldW (sSlot (d.rows.getD (h.slotAt c k) [])) b o
  · have p0 := q0
    unfold oldW at p0
    have e : stW2 h d c k blk b o D = ((0, 12), d) := by unfold stW2; rw [if_pos p0]
    exact ⟨by rw [e]; exact hf, .inl ⟨q0, e⟩⟩
  have p0 := q0
  unfold oldW at p0
  by_cases q1 : sameW (sSlot (d.rows.getD (h.slotAt c k) [])) b o
  · have p1 := q1
    unfold sameW at p1
    have e : stW2 h d c k blk b o D = (((sSlot (d.rows.getD (h.slotAt c k) [])).2.2, 0), d) := by unfold stW2; rw [if_neg p0, if_pos p1]
    exact ⟨by rw [e]; exact hf, .inr (.inl ⟨q0, q1, e⟩)⟩
  have p1 := q1
  unfold sameW at p1
  by_cases q2 : (sBlk h.s (d.rows.getD (1 + blk) [])).1 = 1000
  · obtain ⟨_, l2, _, _⟩ := encJ_len ok hc hk hb hbb hoo (v := 0) ⟨by omega, by omega⟩ hD
    have e : stW2 h d c k blk b o D = ((11, 0), ⟨-1, false, d.rows.set (h.slotAt c k) (encL [b, o, 11])⟩) := by
      unfold stW2
      rw [if_neg p0, if_neg p1, if_pos q2, hf.bad hslot l2, hf.wr hslot l2, if_pos rfl]
    refine ⟨by rw [e]; exact ⟨rfl, rfl⟩, .inr (.inr (.inl ⟨q0, q1, q2, by rw [e], ?_⟩))⟩
    rw [e]
    refine ⟨?_, fun a s ha hs hne => ?_, (fun z hz => by cases hz), fun j hj _ => ?_, fun hz => ?_⟩
    · show sSlot ((d.rows.set (h.slotAt c k) (encL [b, o, 11])).getD (h.slotAt c k) []) = _
      rw [getD_set _ _ _ _ hslot, if_pos rfl]
      exact sSlot_enc ⟨by omega, hbb.2⟩ ⟨by omega, hoo.2⟩ ⟨by omega, by omega⟩
    · show (d.rows.set (h.slotAt c k) (encL [b, o, 11])).getD (h.slotAt a s) [] = _
      rw [getD_set _ _ _ _ hslot, if_neg (fun e => hne (slot_inj ok hs hk e))]
    · show (d.rows.set (h.slotAt c k) (encL [b, o, 11])).getD (1 + j) [] = _
      rw [getD_set _ _ _ _ hslot, if_neg (by omega)]
    · show (d.rows.set (h.slotAt c k) (encL [b, o, 11])).getD 0 [] = _
      rw [getD_set _ _ _ _ hslot, if_neg (by omega)]
      exact hz
  · obtain ⟨v, hv⟩ : ∃ v, v = (sBlk h.s (d.rows.getD (1 + blk) [])).1 := ⟨_, rfl⟩
    rw [← hv] at v0 v1 q2 ⊢
    obtain ⟨l1, _, l3, l4⟩ := encJ_len ok hc hk hb hbb hoo (v := v + 1) ⟨by omega, by omega⟩ hD
    obtain ⟨J, hJ⟩ : ∃ J, J = encL [(c : Int), k, b, o, blk, v + 1] ++ enc D.length ++ D := ⟨_, rfl⟩
    have f0 : Fresh ⟨-1, false, d.rows.set 0 J⟩ := ⟨rfl, rfl⟩
    have e0 : d.wr 0 J = ⟨-1, false, d.rows.set 0 J⟩ := by
      have := hf.wr (i := 0) (by omega) (R := J) (by rw [hJ]; exact l1)
      simpa using this
    have b0 : d.bad 0 J = 0 := by
      have := hf.bad (i := 0) (by omega) (R := J) (by rw [hJ]; exact l1)
      simpa using this
    have e1 : wrAll ⟨-1, false, d.rows.set 0 J⟩ (doesI h c k blk) (doesR b o (v + 1) D) 3 = (0, ⟨-1, false, (((d.rows.set 0 J).set (1 + blk) (enc (v + 1).toNat ++ enc D.length ++ D)).set (h.slotAt c k) (enc b.toNat ++ enc o.toNat ++ enc 0)).set 0 []⟩) := by
      have w1 : wrAll ⟨-1, false, d.rows.set 0 J⟩ (doesI h c k blk) (doesR b o (v + 1) D) 1 = (0, ⟨-1, false, (d.rows.set 0 J).set (1 + blk) (enc (v + 1).toNat ++ enc D.length ++ D)⟩) := by
        rw [wrAll]
        refine (if_pos rfl).trans ?_
        show ((⟨-1, false, d.rows.set 0 J⟩ : Dk).bad ((1 + blk : Nat) : Int) (enc (v + 1).toNat ++ enc D.length ++ D), (⟨-1, false, d.rows.set 0 J⟩ : Dk).wr ((1 + blk : Nat) : Int) (enc (v + 1).toNat ++ enc D.length ++ D)) = _
        rw [f0.bad (by simpa using hblk) l3, f0.wr (by simpa using hblk) l3]
      have f1 : Fresh ⟨-1, false, (d.rows.set 0 J).set (1 + blk) (enc (v + 1).toNat ++ enc D.length ++ D)⟩ := ⟨rfl, rfl⟩
      have w2 : wrAll ⟨-1, false, d.rows.set 0 J⟩ (doesI h c k blk) (doesR b o (v + 1) D) 2 = (0, ⟨-1, false, ((d.rows.set 0 J).set (1 + blk) (enc (v + 1).toNat ++ enc D.length ++ D)).set (h.slotAt c k) (enc b.toNat ++ enc o.toNat ++ enc 0)⟩) := by
        rw [wrAll, w1]
        refine (if_pos rfl).trans ?_
        show ((⟨-1, false, (d.rows.set 0 J).set (1 + blk) (enc (v + 1).toNat ++ enc D.length ++ D)⟩ : Dk).bad ((h.slotAt c k : Nat) : Int) (enc b.toNat ++ enc o.toNat ++ enc 0), (⟨-1, false, (d.rows.set 0 J).set (1 + blk) (enc (v + 1).toNat ++ enc D.length ++ D)⟩ : Dk).wr ((h.slotAt c k : Nat) : Int) (enc b.toNat ++ enc o.toNat ++ enc 0)) = _
        rw [f1.bad (by simpa using hslot) l4, f1.wr (by simpa using hslot) l4]
      have f2 : Fresh ⟨-1, false, ((d.rows.set 0 J).set (1 + blk) (enc (v + 1).toNat ++ enc D.length ++ D)).set (h.slotAt c k) (enc b.toNat ++ enc o.toNat ++ enc 0)⟩ := ⟨rfl, rfl⟩
      rw [wrAll, w2]
      refine (if_pos rfl).trans ?_
      show ((⟨-1, false, ((d.rows.set 0 J).set (1 + blk) (enc (v + 1).toNat ++ enc D.length ++ D)).set (h.slotAt c k) (enc b.toNat ++ enc o.toNat ++ enc 0)⟩ : Dk).bad ((0 : Nat) : Int) [], (⟨-1, false, ((d.rows.set 0 J).set (1 + blk) (enc (v + 1).toNat ++ enc D.length ++ D)).set (h.slotAt c k) (enc b.toNat ++ enc o.toNat ++ enc 0)⟩ : Dk).wr ((0 : Nat) : Int) []) = _
      rw [f2.bad (by simp; omega) (by simp), f2.wr (by simp; omega) (by simp)]
    have e : stW2 h d c k blk b o D = ((0, 0), ⟨-1, false, (((d.rows.set 0 J).set (1 + blk) (enc (v + 1).toNat ++ enc D.length ++ D)).set (h.slotAt c k) (enc b.toNat ++ enc o.toNat ++ enc 0)).set 0 []⟩) := by
      unfold stW2
      rw [if_neg p0, if_neg p1, ← hv, if_neg q2, ← hJ, if_pos b0, e0, e1]
    have g : ∀ j, ((((d.rows.set 0 J).set (1 + blk) (enc (v + 1).toNat ++ enc D.length ++ D)).set (h.slotAt c k) (enc b.toNat ++ enc o.toNat ++ enc 0)).set 0 []).getD j [] = if j = 0 then [] else if j = h.slotAt c k then enc b.toNat ++ enc o.toNat ++ enc 0 else if j = 1 + blk then enc (v + 1).toNat ++ enc D.length ++ D else d.rows.getD j [] := by
      intro j
      rw [getD_set _ _ _ _ (by simp; omega), getD_set _ _ _ _ (by simpa using hslot), getD_set _ _ _ _ (by simpa using hblk), getD_set _ _ _ _ (by omega)]
      by_cases h0 : j = 0
      · rw [if_pos h0, if_pos h0]
      · rw [if_neg h0, if_neg h0, if_neg h0]
    refine ⟨by rw [e]; exact ⟨rfl, rfl⟩, .inr (.inr (.inr ⟨q0, q1, by omega, by rw [e], ?_⟩))⟩
    rw [e]
    refine ⟨?_, fun a s ha hs hne => ?_, fun z hz => ?_, fun j hj hn => ?_, fun hz => ?_⟩
    · show sSlot (List.getD _ _ []) = _
      rw [g, if_neg (by omega), if_pos rfl]
      have := sSlot_enc (b := b) (o := o) (n := 0) ⟨by omega, hbb.2⟩ ⟨by omega, hoo.2⟩ ⟨by omega, by omega⟩
      simpa [encL] using this
    · show List.getD _ _ [] = _
      have h1 : 1 + h.b ≤ h.slotAt a s := by unfold Sh.slotAt; omega
      rw [g, if_neg (by omega), if_neg (fun e => hne (slot_inj ok hs hk e)), if_neg (by omega)]
    · cases hz
      show sBlk h.s (List.getD _ _ []) = _
      rw [g, if_neg (by omega), if_neg (by omega), if_pos rfl, ← hD]
      exact sBlk_enc ⟨by omega, by omega⟩ (by have := ok.s2; omega)
    · show List.getD _ _ [] = _
      rcases hn with hn | hn
      · rw [g, if_neg (by omega), if_neg (by omega), if_neg (by omega)]
      · cases hn
    · show List.getD _ _ [] = _
      rw [g, if_pos rfl]
end Go.Proofs.Ytoadjmeopamgbaa
