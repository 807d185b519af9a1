/-
  gradineref06's store, and the sectors: they say the same, and a write keeps it so. No program in sight.
-/
import Derived.Test.YtoadjmeopamgbaaRf1
import Derived.Test.YtoadjmeopamgbaaStOnceLaw
namespace Go.Proofs.Ytoadjmeopamgbaa

/-- a slot's place among slots -/
def rIx (h : Sh) (c k : Nat) : Nat := h.k * c + k
theorem rIx_lt {h : Sh} {c k : Nat} (hc : c < h.c) (hk : k < h.k) : rIx h c k < h.c * h.k := by
  have : h.k * c + h.k ≤ h.k * h.c := by rw [← Nat.mul_succ]; exact Nat.mul_le_mul_left _ hc
  rw [Nat.mul_comm h.k h.c] at this
  unfold rIx
  omega
def rOld (x : RX) (i : Nat) (b o : Int) : Prop := b < x.int 2 i ∨ (b = x.int 2 i ∧ o < x.int 3 i)
def rSame (x : RX) (i : Nat) (b o : Int) : Prop := b = x.int 2 i ∧ o = x.int 3 i
instance {x : RX} {i : Nat} {b o : Int} : Decidable (rOld x i b o) := by unfold rOld; infer_instance
instance {x : RX} {i : Nat} {b o : Int} : Decidable (rSame x i b o) := by unfold rSame; infer_instance
def rLast (x : RX) (i : Nat) (b o : Int) : RX := (((x.setI 2 i b).setI 3 i o).setI 4 i 0).setI 4 i 11
def rDone (x : RX) (i blk : Nat) (b o : Int) (D : List Int) : RX := ((((x.setI 2 i b).setI 3 i o).setI 4 i 0).setI 0 blk (x.int 0 blk + 1)).setD blk D
/-- a write that fits -/
def rW (x : RX) (i blk : Nat) (b o : Int) (D : List Int) : (Int × Int) × RX :=
  if rOld x i b o then ((0, 12), x) else if rSame x i b o then ((x.int 4 i, 0), x) else if x.int 0 blk = 1000 then ((11, 0), rLast x i b o) else ((0, 0), rDone x i blk b o D)
structure Sim (h : Sh) (d : Dk) (x : RX) : Prop where
  blk : ∀ j, j < h.b → sBlk h.s (d.rows.getD (1 + j) []) = (x.int 0 j, x.data j)
  slot : ∀ a s, a < h.c → s < h.k → sSlot (d.rows.getD (h.slotAt a s) []) = (x.int 2 (rIx h a s), x.int 3 (rIx h a s), x.int 4 (rIx h a s))
theorem Sim.bd {h : Sh} {d : Dk} {x : RX} (s : Sim h d x) {j : Nat} (hj : j < h.b) : 0 ≤ x.int 0 j ∧ x.int 0 j ≤ 1000 := by
  have h1 := sBlk_bd h.s (d.rows.getD (1 + j) [])
  rw [s.blk j hj] at h1
  exact h1
theorem rIx_inj {h : Sh} {a s c k : Nat} (hs : s < h.k) (hk : k < h.k) (e : rIx h a s = rIx h c k) : a = c ∧ s = k := by
  have h1 : (h.k * a + s) % h.k = s := by rw [Nat.mul_add_mod, Nat.mod_eq_of_lt hs]
  have h2 : (h.k * c + k) % h.k = k := by rw [Nat.mul_add_mod, Nat.mod_eq_of_lt hk]
  unfold rIx at e
  have e1 : s = k := by rw [← h1, e, h2]
  subst e1
  refine ⟨?_, rfl⟩
  have e2 : h.k * a = h.k * c := by omega
  exact Nat.eq_of_mul_eq_mul_left (by omega) e2
theorem sim_write {h : Sh} (ok : h.Ok) {d : Dk} {x : RX} (hs : Sim h d x) (hf : Fresh d) (hm : h.many ≤ d.rows.length) {c k blk : Nat} (hc : c < h.c) (hk : k < h.k) (hb : blk < h.b) {b o : Int} (hbb : 1 ≤ b ∧ b ≤ 1099511627776) (hoo : 1 ≤ o ∧ o ≤ 1099511627776) {D : List Int} (hD : D.length = h.s) :
    (stW2 h d c k blk b o D).1 = (rW x (rIx h c k) blk b o D).1 ∧ Sim h (stW2 h d c k blk b o D).2 (rW x (rIx h c k) blk b o D).2 ∧ Fresh (stW2 h d c k blk b o D).2 ∧ (d.rows.getD 0 [] = [] → (stW2 h d c k blk b o D).2.rows.getD 0 [] = []) := by
  obtain ⟨hf2, hv⟩ := st_view ok hf hm hc hk hb hbb hoo hD
  rw [hs.slot c k hc hk, hs.blk blk hb] at hv
  have hbd := hs.bd hb
  unfold rW
  rcases hv with ⟨q, e⟩ | ⟨q1, q2, e⟩ | ⟨q1, q2, q3, e, dn⟩ | ⟨q1, q2, q3, e, dn⟩
  · have q : rOld x (rIx h c k) b o := q
    rw [if_pos q, e]; exact ⟨rfl, hs, hf, fun h => h⟩
  · have q1 : ¬ rOld x (rIx h c k) b o := q1
    have q2 : rSame x (rIx h c k) b o := q2
    rw [if_neg q1, if_pos q2, e]; exact ⟨rfl, hs, hf, fun h => h⟩
  · have q1 : ¬ rOld x (rIx h c k) b o := q1
    have q2 : ¬ rSame x (rIx h c k) b o := q2
    have q3 : x.int 0 blk = 1000 := q3
    rw [if_neg q1, if_neg q2, if_pos q3]
    refine ⟨e, ⟨fun j hj => ?_, fun a s ha hs' => ?_⟩, hf2, dn.zero⟩
    · rw [dn.blks j hj (.inr rfl), hs.blk j hj]
      simp [rLast, RX.setI]
    · by_cases e2 : a = c ∧ s = k
      · obtain ⟨rfl, rfl⟩ := e2
        rw [dn.slot]
        simp [rLast, RX.setI]
      · have e3 : ¬ rIx h a s = rIx h c k := fun e => e2 (rIx_inj hs' hk e)
        rw [dn.slots a s ha hs' e2, hs.slot a s ha hs']
        simp [rLast, RX.setI, e3]
  · have q1 : ¬ rOld x (rIx h c k) b o := q1
    have q2 : ¬ rSame x (rIx h c k) b o := q2
    have q3 : x.int 0 blk < 1000 := q3
    rw [if_neg q1, if_neg q2, if_neg (by omega)]
    refine ⟨e, ⟨fun j hj => ?_, fun a s ha hs' => ?_⟩, hf2, dn.zero⟩
    · by_cases e2 : j = blk
      · subst e2
        rw [dn.bk _ rfl]
        simp [rDone, RX.setI, RX.setD]
      · rw [dn.blks j hj (.inl e2), hs.blk j hj]
        simp [rDone, RX.setI, RX.setD, e2]
    · by_cases e2 : a = c ∧ s = k
      · obtain ⟨rfl, rfl⟩ := e2
        rw [dn.slot]
        simp [rDone, RX.setI, RX.setD]
      · have e3 : ¬ rIx h a s = rIx h c k := fun e => e2 (rIx_inj hs' hk e)
        rw [dn.slots a s ha hs' e2, hs.slot a s ha hs']
        simp [rDone, RX.setI, RX.setD, e3]
theorem sim_start (h : Sh) : Sim h exD (rX0 h) := by
  have e0 : ∀ j, (List.replicate 64 ([] : List Int)).getD j [] = [] := by
    intro j
    rw [List.getD_eq_getElem?_getD, List.getElem?_replicate]
    split <;> rfl
  have eb : ∀ n, sBlk n [] = (0, List.replicate n 0) := by
    intro n
    unfold sBlk
    rw [if_neg]
    rintro ⟨h1, _⟩
    have : (rdText [] (rdNum [] (0, true)).2 n).2 = false := by
      unfold rdText
      rw [if_neg (by decide)]
    rw [this] at h1
    cases h1
  have es : sSlot [] = (0, 0, 0) := by decide +kernel
  refine ⟨fun j _ => ?_, fun a s _ _ => ?_⟩
  · show sBlk h.s ((List.replicate 64 ([] : List Int)).getD _ []) = _
    rw [e0, eb]; rfl
  · show sSlot ((List.replicate 64 ([] : List Int)).getD _ []) = _
    rw [e0, es]; rfl
end Go.Proofs.Ytoadjmeopamgbaa
