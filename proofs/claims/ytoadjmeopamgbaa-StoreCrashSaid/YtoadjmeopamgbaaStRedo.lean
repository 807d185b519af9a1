/-
  A write that is cut off. No program in sight. And: store.Open with a journal that is whole: what it says is done. And store.Write on a disk that may go down. No condition but that the disk lies in memory.
-/
import Derived.Test.YtoadjmeopamgbaaRfLaw
import Derived.Test.YtoadjmeopamgbaaRfStep
namespace Go.Proofs.Ytoadjmeopamgbaa
open Go.RowKit
/-- what a journal's row says -/
def jRow (c k blk : Nat) (b o v : Int) (D : List Int) : List Int := encL [(c : Int), k, b, o, blk, v] ++ enc D.length ++ D
/-- the sectors behind the three writes -/
def redo (h : Sh) (rows : List (List Int)) (c k blk : Nat) (b o v : Int) (D : List Int) : List (List Int) :=
  ((rows.set (1 + blk) (enc v.toNat ++ enc D.length ++ D)).set (h.slotAt c k) (enc b.toNat ++ enc o.toNat ++ enc 0)).set 0 []
structure RecArgs (h : Sh) (c k blk : Nat) (b o v : Int) (D : List Int) : Prop where
  hc : c < h.c
  hk : k < h.k
  hbk : blk < h.b
  hb : 1 ≤ b ∧ b ≤ 1099511627776
  ho : 1 ≤ o ∧ o ≤ 1099511627776
  hv : 1 ≤ v ∧ v ≤ 1000
  hD : D.length = h.s
  hDb : ∀ x ∈ D, 0 ≤ x ∧ x ≤ 255
/-- what lies there is mended into y -/
def Rec (h : Sh) (rows : List (List Int)) (y : RX) : Prop :=
  ∃ (c k blk : Nat) (b o v : Int) (D : List Int), RecArgs h c k blk b o v D ∧ rows.getD 0 [] = jRow c k blk b o v D ∧ Sim h ⟨-1, false, redo h rows c k blk b o v D⟩ y

theorem jour_enc {h : Sh} (ok : h.Ok) {c k blk : Nat} {b o v : Int} {D : List Int} (a : RecArgs h c k blk b o v D) :
    jV (jRow c k blk b o v D) 0 = c ∧ jV (jRow c k blk b o v D) 1 = k ∧ jV (jRow c k blk b o v D) 2 = b ∧ jV (jRow c k blk b o v D) 3 = o ∧ jV (jRow c k blk b o v D) 4 = blk ∧ jV (jRow c k blk b o v D) 5 = v ∧ jT (jRow c k blk b o v D) h.s = (D, true) := by
  have h1 := ok.c2
  have h2 := ok.k2
  have h3 := ok.b2
  have h4 := ok.s2
  obtain ⟨hc, hk, hb, hbb, hoo, hv, hD, _⟩ := a
  have hl : NumOk [(c : Int), k, b, o, blk, v] := fun x hx => by simp at hx; omega
  have e : jRow c k blk b o v D = encL [(c : Int), k, b, o, blk, v] ++ (enc D.length ++ D) := by unfold jRow; rw [List.append_assoc]
  have v0 := rdVal_encL hl (enc D.length ++ D) (k := 0) (by simp)
  have v1 := rdVal_encL hl (enc D.length ++ D) (k := 1) (by simp)
  have v2 := rdVal_encL hl (enc D.length ++ D) (k := 2) (by simp)
  have v3 := rdVal_encL hl (enc D.length ++ D) (k := 3) (by simp)
  have v4 := rdVal_encL hl (enc D.length ++ D) (k := 4) (by simp)
  have v5 := rdVal_encL hl (enc D.length ++ D) (k := 5) (by simp)
  have h6 := rdAll_encL hl (enc D.length ++ D) 6 (by simp)
  have ht := rdText_enc (encL [(c : Int), k, b, o, blk, v]) D (by omega)
  unfold jV jT
  rw [e]
  refine ⟨by simpa using v0, by simpa using v1, by simpa using v2, by simpa using v3, by simpa using v4, by simpa using v5, ?_⟩
  rw [h6]
  have e6 : (([(c : Int), k, b, o, blk, v] : List Int).take 6) = [(c : Int), k, b, o, blk, v] := rfl
  rw [e6, ← hD]
  exact ht
theorem jour_is {h : Sh} (ok : h.Ok) {c k blk : Nat} {b o v : Int} {D : List Int} (a : RecArgs h c k blk b o v D) : jIs h (jRow c k blk b o v D) := by
  obtain ⟨e0, e1, e2, e3, e4, e5, e6⟩ := jour_enc ok a
  obtain ⟨hc, hk, hb, hbb, hoo, hv, hD, _⟩ := a
  unfold jIs FitW
  rw [e0, e1, e2, e3, e4, e5, e6]
  refine ⟨rfl, ?_, by omega, by omega, by omega⟩
  omega
/-- a disk that is up -/
theorem up_bad {d : Dk} (hu : d.down = false) {i : Nat} (hi : i < d.rows.length) {R : List Int} (hR : R.length ≤ 64) : d.bad i R = if d.fuse = 0 then 8 else 0 := by
  unfold Dk.bad
  rw [hu, if_neg (by simp), if_pos ⟨by omega, by omega⟩, if_neg (by omega)]
theorem up_wr {d : Dk} (hu : d.down = false) {i : Nat} (hi : i < d.rows.length) {R : List Int} (hR : R.length ≤ 64) : d.wr i R = if d.fuse = 0 then ⟨0, true, d.rows⟩ else ⟨max (d.fuse - 1) (-1), false, d.rows.set i R⟩ := by
  unfold Dk.wr
  rw [up_bad hu hi hR]
  by_cases h0 : d.fuse = 0
  · rw [if_pos h0, if_pos h0, if_neg (by decide), if_pos rfl, h0]
  · rw [if_neg h0, if_neg h0, if_pos rfl, hu, Int.toNat_natCast]
theorem down_bad {d : Dk} (hu : d.down = true) (i : Int) (R : List Int) : d.bad i R = 8 := by unfold Dk.bad; rw [if_pos hu]
theorem down_wr {d : Dk} (hu : d.down = true) (i : Int) (R : List Int) : d.wr i R = ⟨d.fuse, true, d.rows⟩ := by
  unfold Dk.wr; rw [down_bad hu, if_neg (by decide), if_pos rfl]
theorem st_down {h : Sh} {d : Dk} (hu : d.down = true) (c k blk : Nat) (b o : Int) (D : List Int) : (stW2 h d c k blk b o D).2.rows = d.rows ∧ (stW2 h d c k blk b o D).2.down = true := by
  unfold stW2
  by_cases h1 : b < (sSlot (d.rows.getD (h.slotAt c k) [])).1 ∨ (b = (sSlot (d.rows.getD (h.slotAt c k) [])).1 ∧ o < (sSlot (d.rows.getD (h.slotAt c k) [])).2.1)
  · rw [if_pos h1]; exact ⟨rfl, hu⟩
  rw [if_neg h1]
  by_cases h2 : b = (sSlot (d.rows.getD (h.slotAt c k) [])).1 ∧ o = (sSlot (d.rows.getD (h.slotAt c k) [])).2.1
  · rw [if_pos h2]; exact ⟨rfl, hu⟩
  rw [if_neg h2]
  by_cases h3 : (sBlk h.s (d.rows.getD (1 + blk) [])).1 = 1000
  · rw [if_pos h3, down_wr hu]; exact ⟨rfl, rfl⟩
  rw [if_neg h3, down_bad hu, if_neg (by decide), down_wr hu]
  exact ⟨rfl, rfl⟩
/-- the three writes, on a disk that is up: the error, and what lies there -/
def cutRows (h : Sh) (rows : List (List Int)) (c k blk : Nat) (b o v : Int) (D : List Int) (n : Nat) : List (List Int) :=
  if n = 0 then rows else if n = 1 then rows.set (1 + blk) (enc v.toNat ++ enc D.length ++ D) else (rows.set (1 + blk) (enc v.toNat ++ enc D.length ++ D)).set (h.slotAt c k) (enc b.toNat ++ enc o.toNat ++ enc 0)
theorem does_cut {h : Sh} (ok : h.Ok) {d : Dk} (hu : d.down = false) (hlo : -1 ≤ d.fuse) (hm : h.many ≤ d.rows.length) {c k blk : Nat} {b o v : Int} {D : List Int} (a : RecArgs h c k blk b o v D) :
    (∃ f, -1 ≤ f ∧ (d.fuse = -1 → f = -1) ∧ wrAll d (doesI h c k blk) (doesR b o v D) 3 = (0, ⟨f, false, redo h d.rows c k blk b o v D⟩)) ∨ (d.fuse ≠ -1 ∧ ∃ n, n < 3 ∧ wrAll d (doesI h c k blk) (doesR b o v D) 3 = (8, ⟨0, true, cutRows h d.rows c k blk b o v D n⟩)) := by
  obtain ⟨hs1, _⟩ := ok.slot a.hc a.hk
  obtain ⟨_, _, l3, l4⟩ := encJ_len ok a.hc a.hk a.hbk a.hb a.ho (v := v) ⟨by have := a.hv; omega, by have := a.hv; omega⟩ a.hD
  have hblk : 1 + blk < d.rows.length := by have := a.hbk; unfold Sh.many at hm; omega
  have hslot : h.slotAt c k < d.rows.length := by omega
  obtain ⟨f, dn, rows⟩ := d
  simp only at hu hlo hm hblk hslot ⊢
  subst hu
  have s1 : wrAll ⟨f, false, rows⟩ (doesI h c k blk) (doesR b o v D) 1 = if f = 0 then (8, ⟨0, true, rows⟩) else (0, ⟨max (f - 1) (-1), false, rows.set (1 + blk) (enc v.toNat ++ enc D.length ++ D)⟩) := by
    rw [wrAll]
    refine (if_pos rfl).trans ?_
    show ((⟨f, false, rows⟩ : Dk).bad ((1 + blk : Nat) : Int) (enc v.toNat ++ enc D.length ++ D), (⟨f, false, rows⟩ : Dk).wr ((1 + blk : Nat) : Int) (enc v.toNat ++ enc D.length ++ D)) = _
    rw [up_bad rfl (by simpa using hblk) l3, up_wr rfl (by simpa using hblk) l3]
    by_cases h0 : f = 0
    · simp [h0]
    · simp [h0]
  by_cases h0 : f = 0
  · refine .inr ⟨by omega, 0, by omega, ?_⟩
    rw [if_pos h0] at s1
    have := wrAll_stop (d := ⟨f, false, rows⟩) (I := doesI h c k blk) (R := doesR b o v D) (k := 1) (by rw [s1]; show (8 : Int) ≠ 0; decide) 2
    rw [this, s1]; rfl
  rw [if_neg h0] at s1
  obtain ⟨f1, hf1⟩ : ∃ f1, f1 = max (f - 1) (-1) := ⟨_, rfl⟩
  rw [← hf1] at s1
  have s2 : wrAll ⟨f, false, rows⟩ (doesI h c k blk) (doesR b o v D) 2 = if f1 = 0 then (8, ⟨0, true, rows.set (1 + blk) (enc v.toNat ++ enc D.length ++ D)⟩) else (0, ⟨max (f1 - 1) (-1), false, (rows.set (1 + blk) (enc v.toNat ++ enc D.length ++ D)).set (h.slotAt c k) (enc b.toNat ++ enc o.toNat ++ enc 0)⟩) := by
    rw [wrAll, s1]
    refine (if_pos rfl).trans ?_
    show ((⟨f1, false, rows.set (1 + blk) (enc v.toNat ++ enc D.length ++ D)⟩ : Dk).bad ((h.slotAt c k : Nat) : Int) (enc b.toNat ++ enc o.toNat ++ enc 0), (⟨f1, false, rows.set (1 + blk) (enc v.toNat ++ enc D.length ++ D)⟩ : Dk).wr ((h.slotAt c k : Nat) : Int) (enc b.toNat ++ enc o.toNat ++ enc 0)) = _
    rw [up_bad rfl (by simpa using hslot) l4, up_wr rfl (by simpa using hslot) l4]
    by_cases h1 : f1 = 0
    · simp [h1]
    · simp [h1]
  by_cases h1 : f1 = 0
  · refine .inr ⟨by omega, 1, by omega, ?_⟩
    rw [if_pos h1] at s2
    have := wrAll_stop (d := ⟨f, false, rows⟩) (I := doesI h c k blk) (R := doesR b o v D) (k := 2) (by rw [s2]; show (8 : Int) ≠ 0; decide) 1
    rw [this, s2]; rfl
  rw [if_neg h1] at s2
  obtain ⟨f2, hf2⟩ : ∃ f2, f2 = max (f1 - 1) (-1) := ⟨_, rfl⟩
  rw [← hf2] at s2
  have s3 : wrAll ⟨f, false, rows⟩ (doesI h c k blk) (doesR b o v D) 3 = if f2 = 0 then (8, ⟨0, true, (rows.set (1 + blk) (enc v.toNat ++ enc D.length ++ D)).set (h.slotAt c k) (enc b.toNat ++ enc o.toNat ++ enc 0)⟩) else (0, ⟨max (f2 - 1) (-1), false, redo h rows c k blk b o v D⟩) := by
    rw [wrAll, s2]
    refine (if_pos rfl).trans ?_
    show ((⟨f2, false, (rows.set (1 + blk) (enc v.toNat ++ enc D.length ++ D)).set (h.slotAt c k) (enc b.toNat ++ enc o.toNat ++ enc 0)⟩ : Dk).bad ((0 : Nat) : Int) [], (⟨f2, false, (rows.set (1 + blk) (enc v.toNat ++ enc D.length ++ D)).set (h.slotAt c k) (enc b.toNat ++ enc o.toNat ++ enc 0)⟩ : Dk).wr ((0 : Nat) : Int) []) = _
    rw [up_bad rfl (by simp; omega) (by simp), up_wr rfl (by simp; omega) (by simp)]
    by_cases h2 : f2 = 0
    · simp [h2]
    · simp [h2, redo]
  by_cases h2 : f2 = 0
  · refine .inr ⟨by omega, 2, by omega, ?_⟩
    rw [s3, if_pos h2]; rfl
  · refine .inl ⟨max (f2 - 1) (-1), by omega, fun e => by omega, ?_⟩
    rw [s3, if_neg h2]
theorem redo_get {h : Sh} (ok : h.Ok) {rows : List (List Int)} (hm : h.many ≤ rows.length) {c k blk : Nat} {b o v : Int} {D : List Int} (a : RecArgs h c k blk b o v D) (j : Nat) :
    (redo h rows c k blk b o v D).getD j [] = if j = 0 then [] else if j = h.slotAt c k then enc b.toNat ++ enc o.toNat ++ enc 0 else if j = 1 + blk then enc v.toNat ++ enc D.length ++ D else rows.getD j [] := by
  obtain ⟨hs1, _⟩ := ok.slot a.hc a.hk
  have hblk : 1 + blk < rows.length := by have := a.hbk; unfold Sh.many at hm; omega
  have hslot : h.slotAt c k < rows.length := by omega
  unfold redo
  rw [getD_set _ _ _ _ (by simp; omega), getD_set _ _ _ _ (by simpa using hslot), getD_set _ _ _ _ hblk]
theorem sim_redo {h : Sh} (ok : h.Ok) {d : Dk} {x : RX} (hs : Sim h d x) {rows : List (List Int)} (hm : h.many ≤ rows.length) {c k blk : Nat} {b o v : Int} {D : List Int} (a : RecArgs h c k blk b o v D) (hv : v = x.int 0 blk + 1)
    (hr : ∀ j, j ≠ 0 → j ≠ h.slotAt c k → j ≠ 1 + blk → rows.getD j [] = d.rows.getD j []) : Sim h ⟨-1, false, redo h rows c k blk b o v D⟩ (rDone x (rIx h c k) blk b o D) := by
  have hslb : 1 + h.b ≤ h.slotAt c k := by unfold Sh.slotAt; omega
  have hbk := a.hbk
  refine ⟨fun j hj => ?_, fun e s he hs' => ?_⟩
  · show sBlk h.s ((redo h rows c k blk b o v D).getD (1 + j) []) = _
    rw [redo_get ok hm a, if_neg (by omega), if_neg (by omega)]
    by_cases e2 : j = blk
    · subst e2
      rw [if_pos rfl, ← a.hD, sBlk_enc ⟨by have := a.hv; omega, a.hv.2⟩ (by have := a.hD; have := ok.s2; omega)]
      simp [rDone, RX.setI, RX.setD, hv]
    · rw [if_neg (by omega), hr (1 + j) (by omega) (by omega) (by omega), hs.blk j hj]
      simp [rDone, RX.setI, RX.setD, e2]
  · show sSlot ((redo h rows c k blk b o v D).getD (h.slotAt e s) []) = _
    have h1 : 1 + h.b ≤ h.slotAt e s := by unfold Sh.slotAt; omega
    rw [redo_get ok hm a, if_neg (by omega)]
    by_cases e2 : e = c ∧ s = k
    · obtain ⟨rfl, rfl⟩ := e2
      rw [if_pos rfl]
      have := sSlot_enc (b := b) (o := o) (n := 0) ⟨by have := a.hb; omega, a.hb.2⟩ ⟨by have := a.ho; omega, a.ho.2⟩ ⟨by omega, by omega⟩
      have e4 : sSlot (enc b.toNat ++ enc o.toNat ++ enc 0) = (b, o, 0) := by simpa [encL] using this
      rw [e4]
      simp [rDone, RX.setI, RX.setD]
    · have e3 : ¬ h.slotAt e s = h.slotAt c k := fun q => e2 (slot_inj ok hs' a.hk q)
      have e4 : ¬ rIx h e s = rIx h c k := fun q => e2 (rIx_inj hs' a.hk q)
      rw [if_neg e3, if_neg (by omega), hr _ (by omega) e3 (by omega), hs.slot e s he hs']
      simp [rDone, RX.setI, RX.setD, e4]
theorem sim_last {h : Sh} (ok : h.Ok) {d : Dk} {x : RX} (hs : Sim h d x) (hm : h.many ≤ d.rows.length) {c k : Nat} (hc : c < h.c) (hk : k < h.k) {b o : Int} (hb : 1 ≤ b ∧ b ≤ 1099511627776) (ho : 1 ≤ o ∧ o ≤ 1099511627776) (f : Int) (u : Bool) : Sim h ⟨f, u, d.rows.set (h.slotAt c k) (encL [b, o, 11])⟩ (rLast x (rIx h c k) b o) := by
  obtain ⟨hs1, _⟩ := ok.slot hc hk
  have hslot : h.slotAt c k < d.rows.length := by omega
  have hslb : 1 + h.b ≤ h.slotAt c k := by unfold Sh.slotAt; omega
  refine ⟨fun j hj => ?_, fun e s he hs' => ?_⟩
  · show sBlk h.s ((d.rows.set (h.slotAt c k) (encL [b, o, 11])).getD (1 + j) []) = _
    rw [getD_set _ _ _ _ hslot, if_neg (by omega), hs.blk j hj]
    simp [rLast, RX.setI]
  · show sSlot ((d.rows.set (h.slotAt c k) (encL [b, o, 11])).getD (h.slotAt e s) []) = _
    rw [getD_set _ _ _ _ hslot]
    by_cases e2 : e = c ∧ s = k
    · obtain ⟨rfl, rfl⟩ := e2
      rw [if_pos rfl, sSlot_enc ⟨by omega, hb.2⟩ ⟨by omega, ho.2⟩ ⟨by omega, by omega⟩]
      simp [rLast, RX.setI]
    · have e3 : ¬ h.slotAt e s = h.slotAt c k := fun q => e2 (slot_inj ok hs' hk q)
      have e4 : ¬ rIx h e s = rIx h c k := fun q => e2 (rIx_inj hs' hk q)
      rw [if_neg e3, hs.slot e s he hs']
      simp [rLast, RX.setI, e4]
/-- a write on a disk that is up: done, or cut off -/
theorem crash_law {h : Sh} (ok : h.Ok) {d : Dk} {x : RX} (hs : Sim h d x) (hu : d.down = false) (hm : h.many ≤ d.rows.length) (h0 : d.rows.getD 0 [] = []) {c k blk : Nat} (hc : c < h.c) (hk : k < h.k) (hb : blk < h.b) {b o : Int} (hbb : 1 ≤ b ∧ b ≤ 1099511627776) (hoo : 1 ≤ o ∧ o ≤ 1099511627776) {D : List Int} (hD : D.length = h.s) (hDb : ∀ x ∈ D, 0 ≤ x ∧ x ≤ 255) :
    ((stW2 h d c k blk b o D).2.down = false ∧ (stW2 h d c k blk b o D).1 = (rW x (rIx h c k) blk b o D).1 ∧ Sim h (stW2 h d c k blk b o D).2 (rW x (rIx h c k) blk b o D).2 ∧ (stW2 h d c k blk b o D).2.rows.getD 0 [] = [] ∧ (stW2 h d c k blk b o D).1.2 ≠ 8) ∨
    ((stW2 h d c k blk b o D).2.down = true ∧ (stW2 h d c k blk b o D).1.2 = 8 ∧ ((Sim h (stW2 h d c k blk b o D).2 x ∧ (stW2 h d c k blk b o D).2.rows.getD 0 [] = []) ∨ Rec h (stW2 h d c k blk b o D).2.rows (rW x (rIx h c k) blk b o D).2)) := by
  obtain ⟨hs1, _⟩ := ok.slot hc hk
  have hslot : h.slotAt c k < d.rows.length := by omega
  have hblk : 1 + blk < d.rows.length := by unfold Sh.many at hm; omega
  have hslb : 1 + h.b ≤ h.slotAt c k := by unfold Sh.slotAt; omega
  have hbd := hs.bd hb
  have e1 := hs.slot c k hc hk
  have e2 := hs.blk blk hb
  unfold stW2 rW
  rw [e1, e2]
  simp only
  by_cases q0 : rOld x (rIx h c k) b o
  · have p0 := q0
    unfold rOld at p0
    rw [if_pos p0, if_pos q0]
    exact .inl ⟨hu, rfl, hs, h0, by show (12 : Int) ≠ 8; decide⟩
  have p0 := q0
  unfold rOld at p0
  rw [if_neg p0, if_neg q0]
  by_cases q1 : rSame x (rIx h c k) b o
  · have p1 := q1
    unfold rSame at p1
    rw [if_pos p1, if_pos q1]
    exact .inl ⟨hu, rfl, hs, h0, by show (0 : Int) ≠ 8; decide⟩
  have p1 := q1
  unfold rSame at p1
  rw [if_neg p1, if_neg q1]
  by_cases q2 : x.int 0 blk = 1000
  · rw [if_pos q2, if_pos q2]
    obtain ⟨_, l2, _, _⟩ := encJ_len ok hc hk hb hbb hoo (v := 0) ⟨by omega, by omega⟩ hD
    rw [up_bad hu hslot l2, up_wr hu hslot l2]
    by_cases hf : d.fuse = 0
    · rw [if_pos hf, if_neg (by decide), if_pos hf]
      exact .inr ⟨rfl, rfl, .inl ⟨⟨hs.blk, hs.slot⟩, h0⟩⟩
    · rw [if_neg hf, if_pos rfl, if_neg hf]
      refine .inl ⟨rfl, rfl, sim_last ok hs hm hc hk hbb hoo _ _, ?_, by show (0 : Int) ≠ 8; decide⟩
      show (d.rows.set (h.slotAt c k) (encL [b, o, 11])).getD 0 [] = []
      rw [getD_set _ _ _ _ hslot, if_neg (by omega)]
      exact h0
  rw [if_neg q2, if_neg q2]
  obtain ⟨v, hv⟩ : ∃ v, v = x.int 0 blk := ⟨_, rfl⟩
  rw [← hv] at hbd q2 ⊢
  have a : RecArgs h c k blk b o (v + 1) D := ⟨hc, hk, hb, hbb, hoo, ⟨by omega, by omega⟩, hD, hDb⟩
  obtain ⟨l1, _, l3, l4⟩ := encJ_len ok hc hk hb hbb hoo (v := v + 1) ⟨by omega, by omega⟩ hD
  have hb0 := up_bad hu (show (0 : Nat) < d.rows.length by omega) (R := jRow c k blk b o (v + 1) D) l1
  have hw0 := up_wr hu (show (0 : Nat) < d.rows.length by omega) (R := jRow c k blk b o (v + 1) D) l1
  show _ ∨ _
  have ej : encL [(c : Int), k, b, o, blk, v + 1] ++ enc D.length ++ D = jRow c k blk b o (v + 1) D := rfl
  rw [ej]
  simp only [Int.natCast_zero] at hb0 hw0
  rw [hb0, hw0]
  by_cases hf : d.fuse = 0
  · rw [if_pos hf, if_neg (by decide), if_pos hf]
    exact .inr ⟨rfl, rfl, .inl ⟨⟨hs.blk, hs.slot⟩, h0⟩⟩
  rw [if_neg hf, if_pos rfl, if_neg hf]
  have hm1 : h.many ≤ (⟨max (d.fuse - 1) (-1), false, d.rows.set 0 (jRow c k blk b o (v + 1) D)⟩ : Dk).rows.length := by simpa using hm
  rcases does_cut ok (d := ⟨max (d.fuse - 1) (-1), false, d.rows.set 0 (jRow c k blk b o (v + 1) D)⟩) rfl (by show -1 ≤ max (d.fuse - 1) (-1); omega) hm1 a with ⟨f, _, _, e⟩ | ⟨_, n, hn, e⟩
  · rw [e]
    refine .inl ⟨rfl, rfl, ?_, ?_, by show (0 : Int) ≠ 8; decide⟩
    · have := sim_redo ok hs hm1 a (by rw [hv]) (fun j j0 j1 j2 => by
        show (d.rows.set 0 (jRow c k blk b o (v + 1) D)).getD j [] = _
        rw [getD_set _ _ _ _ (by omega), if_neg j0])
      exact ⟨this.blk, this.slot⟩
    · show (redo h (d.rows.set 0 (jRow c k blk b o (v + 1) D)) c k blk b o (v + 1) D).getD 0 [] = []
      rw [redo_get ok hm1 a, if_pos rfl]
  · rw [e]
    refine .inr ⟨rfl, rfl, .inr ⟨c, k, blk, b, o, v + 1, D, a, ?_, ?_⟩⟩
    · show (cutRows h (d.rows.set 0 (jRow c k blk b o (v + 1) D)) c k blk b o (v + 1) D n).getD 0 [] = _
      unfold cutRows
      split
      · rw [getD_set _ _ _ _ (by omega), if_pos rfl]
      · split
        · rw [getD_set _ _ _ _ (by simpa using hblk), if_neg (by omega), getD_set _ _ _ _ (by omega), if_pos rfl]
        · rw [getD_set _ _ _ _ (by simpa using hslot), if_neg (by omega), getD_set _ _ _ _ (by simpa using hblk), if_neg (by omega), getD_set _ _ _ _ (by omega), if_pos rfl]
    · refine sim_redo ok hs ?_ a (by rw [hv]) (fun j j0 j1 j2 => ?_)
      · show h.many ≤ (cutRows h (d.rows.set 0 (jRow c k blk b o (v + 1) D)) c k blk b o (v + 1) D n).length
        unfold cutRows
        split
        · simpa using hm
        · split
          · simpa using hm
          · simpa using hm
      · show (cutRows h (d.rows.set 0 (jRow c k blk b o (v + 1) D)) c k blk b o (v + 1) D n).getD j [] = _
        unfold cutRows
        split
        · rw [getD_set _ _ _ _ (by omega), if_neg j0]
        · split
          · rw [getD_set _ _ _ _ (by simpa using hblk), if_neg j2, getD_set _ _ _ _ (by omega), if_neg j0]
          · rw [getD_set _ _ _ _ (by simpa using hslot), if_neg j1, getD_set _ _ _ _ (by simpa using hblk), if_neg j2, getD_set _ _ _ _ (by omega), if_neg j0]


section
variable (w : World) (F : List Nat) (p bl : Nat) (h : Sh) (d : Dk)
set_option maxRecDepth 100000 in
set_option maxHeartbeats 4000000 in
theorem sopen_redo (hd : DiskAt w F p bl d) (byt : Byt d) (hF : ∀ f ∈ F, f < w.heap.size) (ok : h.Ok) (hm : h.many ≤ d.rows.length) (hf : Fresh d) (c k blk : Nat) (b o v : Int) (D : List Int) (ar : RecArgs h c k blk b o v D) (hrow0 : d.rows.getD 0 [] = jRow c k blk b o v D) :
    Calls Try.prog 14 #[.pointer (some ⟨p, 0, none⟩), .agg #[.int .i64 h.b, .int .i64 h.s, .int .i64 h.c, .int .i64 h.k]] w fun e w' => ∃ ps, e = .returned (.tuple #[.pointer (some ⟨ps, 0, none⟩), .int .i64 0]) ∧ StAt w' F ps p bl h ⟨-1, false, redo h d.rows c k blk b o v D⟩ ∧ w.heap.size ≤ ps ∧ Chg [p, bl] w w' := by
  have HRI := Lib.hid (fun w' => sright h.b h.s h.c h.k true (decide_eq_true (by have := ok.b1; have := ok.b2; have := ok.s1; have := ok.s2; have := ok.c1; have := ok.c2; have := ok.k1; have := ok.k2; omega)) w')
  have HSE := Lib.hid (fun w' => ssectors h ok w')
  have HLE := Lib.hid (fun w' (hx : Ext w w') => dlen_any F p bl d w' (hd.ext hx))
  have HST : Hid (∀ w' ps, Ext w w' → w.heap.size ≤ ps → (∃ t, w'.heap[ps]? = some (.cells #[.int .i64 h.b, .int .i64 h.s, .int .i64 h.c, .int .i64 h.k, .pointer (some ⟨p, 0, none⟩)] t (0, 0))) → StAt w' F ps p bl h d) := Lib.hid (fun w' ps hx hps hh => ⟨hh, hd.ext hx, by have := hF _ hd.pF; omega, by have := hF _ hd.lF; omega, byt, ok, hm⟩)
  obtain ⟨q0, q1, q2, q3, q4, q5, q6⟩ := jour_enc ok ar
  have HJN : Hid (∀ w' ps, StAt w' F ps p bl h d → Calls Try.prog 32 #[.pointer (some ⟨ps, 0, none⟩)] w' fun e w'' => ∃ vt, e = .returned (.tuple #[.agg #[.int .i64 c, .int .i64 k, .int .i64 b, .int .i64 o, .int .i64 blk, vt], .int .i64 v, .bool true]) ∧ OwnI .u8 5 w'.heap.size w'' vt D ∧ Ext w' w'') := Lib.hid (fun w' ps st => by
    have h9 := sjournal w' F ps p bl h d st (.inr (by rw [hrow0]; exact jour_is ok ar))
    rw [hrow0, q0, q1, q2, q3, q4, q5, q6, decide_eq_true (jour_is ok ar)] at h9
    exact h9)
  have HRD : Hid (wrAll d (doesI h c k blk) (doesR b o v D) 3 = (0, ⟨-1, false, redo h d.rows c k blk b o v D⟩)) := Lib.hid (by
    rcases does_cut ok hf.u (by rw [hf.f]; decide) hm ar with ⟨f, _, h1, e⟩ | ⟨h1, _⟩
    · rw [e, h1 hf.f]
    · exact absurd hf.f h1)
  have HDO : Hid (∀ w' ps, StAt w' F ps p bl h d → (∀ f ∈ F, f < w'.heap.size) → ∀ vt, RdI .u8 w' vt D → Calls Try.prog 33 #[.pointer (some ⟨ps, 0, none⟩), .agg #[.int .i64 c, .int .i64 k, .int .i64 b, .int .i64 o, .int .i64 blk, vt], .int .i64 v] w' fun e w'' => e = .returned (.int .i64 0) ∧ StAt w'' F ps p bl h ⟨-1, false, redo h d.rows c k blk b o v D⟩ ∧ Chg [p, bl] w' w'') := Lib.hid (fun w' ps st hF' vt hvt => by
    refine (sdoes w' F ps p bl h d st hF' c k blk ar.hc ar.hk ar.hbk b o v ⟨by have := ar.hb; omega, ar.hb.2⟩ ⟨by have := ar.ho; omega, ar.ho.2⟩ ⟨by have := ar.hv; omega, by have := ar.hv; omega⟩ vt D hvt (by have := ar.hD; have := ok.s2; omega)).mono ?_
    rintro e w'' ⟨rfl, h1, h2⟩
    have hb9 := wrAll_byt st.byt (doesI h c k blk) (doesR_byt (boot := b) (op := o) (ver := v) ar.hDb) 3
    have hl9 := wrAll_len d (doesI h c k blk) (doesR b o v D) 3
    rw [HRD.out] at h1 hb9 hl9 ⊢
    exact ⟨rfl, st.chg h2 h1 hb9 hl9, h2⟩)
  obtain ⟨L, hL⟩ : ∃ L, L = d.rows.length := ⟨_, rfl⟩
  obtain ⟨M, hM⟩ : ∃ M, M = h.many := ⟨_, rfl⟩
  have hML : M ≤ L := by omega
  have hMi : ¬ (L : Int) < (M : Int) := by omega
  rw [← hL] at HLE
  rw [← hM] at HSE
  have HSTT := Lib.hid (fun (x0 x1 x2 x3 : Nat) (e0 : x0 = h.b) (e1 : x1 = h.s) (e2 : x2 = h.c) (e3 : x3 = h.k) w' ps hx hps (hh : ∃ t, w'.heap[ps]? = some (.cells #[.int .i64 x0, .int .i64 x1, .int .i64 x2, .int .i64 x3, .pointer (some ⟨p, 0, none⟩)] t (0, 0))) => HST.out w' ps hx hps (by rw [e0, e1, e2, e3] at hh; exact hh))
  obtain ⟨x0, hx0⟩ : ∃ x, x = h.b := ⟨_, rfl⟩
  obtain ⟨x1, hx1⟩ : ∃ x, x = h.s := ⟨_, rfl⟩
  obtain ⟨x2, hx2⟩ : ∃ x, x = h.c := ⟨_, rfl⟩
  obtain ⟨x3, hx3⟩ : ∃ x, x = h.k := ⟨_, rfl⟩
  have HST2 := Lib.hid (HSTT.out x0 x1 x2 x3 hx0 hx1 hx2 hx3)
  rw [← hx0, ← hx1, ← hx2, ← hx3] at HRI
  rw [← hx0, ← hx1, ← hx2, ← hx3] at HSE
  rw [← hx0, ← hx1, ← hx2, ← hx3]
  have HFF := Lib.hid hF
  have HPL : Hid (∀ f ∈ [p, bl], f < w.heap.size) := Lib.hid (by have h1 := hF p hd.pF; have h2 := hF bl hd.lF; simp; omega)
  clear hd byt hF ok hm hf ar hrow0 q0 q1 q2 q3 q4 q5 q6 hL hM hML hx0 hx1 hx2 hx3 HST HSTT
  go_enter Try.func14, Try.ntmps14
  go_upto_region 1 with fail
  have y0 := cell_new w #[.int .i64 x0, .int .i64 x1, .int .i64 x2, .int .i64 x3] 23 (0, 0) (j := 0) rfl
  have y1 := cell_new w #[.int .i64 x0, .int .i64 x1, .int .i64 x2, .int .i64 x3] 23 (0, 0) (j := 1) rfl
  have y2 := cell_new w #[.int .i64 x0, .int .i64 x1, .int .i64 x2, .int .i64 x3] 23 (0, 0) (j := 2) rfl
  have y3 := cell_new w #[.int .i64 x0, .int .i64 x1, .int .i64 x2, .int .i64 x3] 23 (0, 0) (j := 3) rfl
  have hxA : Ext w (w.alloc (.cells #[.int .i64 x0, .int .i64 x1, .int .i64 x2, .int .i64 x3] 23)) := (Ext.refl w).alloc _
  generalize (w.alloc (.cells #[.int .i64 x0, .int .i64 x1, .int .i64 x2, .int .i64 x3] 23)) = w1 at *
  obtain ⟨pb, hpb⟩ : ∃ pb, pb = w.heap.size := ⟨_, rfl⟩
  rw [← hpb] at y0 y1 y2 y3 ⊢
  clear hpb
  go_wp2_with fail
  go_region_held3 (fun w' => w'.cell? ⟨pb, 0, none⟩ = some (.int .i64 x0) ∧ w'.cell? ⟨pb, 1, none⟩ = some (.int .i64 x1) ∧ w'.cell? ⟨pb, 2, none⟩ = some (.int .i64 x2) ∧ w'.cell? ⟨pb, 3, none⟩ = some (.int .i64 x3) ∧ Ext w1 w') (exact ⟨Ext.cellv (w := w1) (by repeat' (first | (with_reducible exact Ext.refl _) | (with_reducible assumption) | (with_reducible refine Ext.alloc ?_ _) | (with_reducible refine Ext.drewN ?_ _) | (with_reducible refine Ext.drew ?_) | (with_reducible refine Ext.trans ?_ (by assumption)))) y0, Ext.cellv (w := w1) (by repeat' (first | (with_reducible exact Ext.refl _) | (with_reducible assumption) | (with_reducible refine Ext.alloc ?_ _) | (with_reducible refine Ext.drewN ?_ _) | (with_reducible refine Ext.drew ?_) | (with_reducible refine Ext.trans ?_ (by assumption)))) y1, Ext.cellv (w := w1) (by repeat' (first | (with_reducible exact Ext.refl _) | (with_reducible assumption) | (with_reducible refine Ext.alloc ?_ _) | (with_reducible refine Ext.drewN ?_ _) | (with_reducible refine Ext.drew ?_) | (with_reducible refine Ext.trans ?_ (by assumption)))) y2, Ext.cellv (w := w1) (by repeat' (first | (with_reducible exact Ext.refl _) | (with_reducible assumption) | (with_reducible refine Ext.alloc ?_ _) | (with_reducible refine Ext.drewN ?_ _) | (with_reducible refine Ext.drew ?_) | (with_reducible refine Ext.trans ?_ (by assumption)))) y3, (by repeat' (first | (with_reducible exact Ext.refl _) | (with_reducible assumption) | (with_reducible refine Ext.alloc ?_ _) | (with_reducible refine Ext.drewN ?_ _) | (with_reducible refine Ext.drew ?_) | (with_reducible refine Ext.trans ?_ (by assumption))))⟩)
    (first
      | (go_at_call 29; refine Calls.mono (HRI.out _) ?_; rintro e wR ⟨rfl, hxR⟩)
      | (go_at_call 30; refine Calls.mono (HLE.out _ (hxA.trans (by (repeat' (first | (with_reducible exact Ext.refl _) | (with_reducible assumption) | (with_reducible refine Ext.alloc ?_ _) | (with_reducible refine Ext.drewN ?_ _) | (with_reducible refine Ext.drew ?_) | (with_reducible refine Ext.trans ?_ (by assumption)))); done))) ?_; rintro e wL ⟨rfl, rfl⟩)
      | (go_at_call 31; refine Calls.mono (HSE.out _) ?_; rintro e wS ⟨rfl, hxS⟩))
  all_goals
    have hx1S : Ext w1 wS := (by repeat' (first | (with_reducible exact Ext.refl _) | (with_reducible assumption) | (with_reducible refine Ext.alloc ?_ _) | (with_reducible refine Ext.drewN ?_ _) | (with_reducible refine Ext.drew ?_) | (with_reducible refine Ext.trans ?_ (by assumption))))
    have hXS := hxA.trans hx1S
    have y0 := hx1S.cellv y0
    have y1 := hx1S.cellv y1
    have y2 := hx1S.cellv y2
    have y3 := hx1S.cellv y3
    clear hx1S hxS hxR hxA
    go_upto_region 6 with fail
    have hxB : Ext w (wS.alloc (.cells #[.int .i64 x0, .int .i64 x1, .int .i64 x2, .int .i64 x3, .pointer (some ⟨p, 0, none⟩)] 73)) := hXS.alloc _
    have hst := HST2.out (wS.alloc (.cells #[.int .i64 x0, .int .i64 x1, .int .i64 x2, .int .i64 x3, .pointer (some ⟨p, 0, none⟩)] 73)) wS.heap.size hxB hXS.size ⟨_, heap_alloc_new wS _⟩
    have hsz := hXS.size
    generalize (wS.alloc (.cells #[.int .i64 x0, .int .i64 x1, .int .i64 x2, .int .i64 x3, .pointer (some ⟨p, 0, none⟩)] 73)) = w3 at *
    obtain ⟨ps, hps⟩ : ∃ ps, ps = wS.heap.size := ⟨_, rfl⟩
    rw [← hps] at hst hsz ⊢
    have HSTT := Lib.hid hst
    have HJJ := Lib.hid (HJN.out w3 ps hst)
    clear hps y0 y1 y2 y3 HSTT
    go_wp2_with fail
    refine HJJ.out.mono ?_
    rintro e wJ ⟨vt, rfl, ho, hxJ⟩
    obtain ⟨aT, nT, cT, rfl⟩ := ho.rd.isSlice
    have hstJ := hst.ext hxJ
    have HSJ := Lib.hid hstJ
    have HOJ := Lib.hid ho.rd
    have hxw := hxB.trans hxJ
    clear ho hstJ
    go_upto_region 7 with fail
    have hxC : Ext wJ (wJ.alloc (.cells #[.int .i64 c, .int .i64 k, .int .i64 b, .int .i64 o, .int .i64 blk, .slice aT nT cT] 38)) := (Ext.refl wJ).alloc _
    have e0 := cell_new wJ #[.int .i64 c, .int .i64 k, .int .i64 b, .int .i64 o, .int .i64 blk, .slice aT nT cT] 38 (0, 0) (j := 0) rfl
    have e1 := cell_new wJ #[.int .i64 c, .int .i64 k, .int .i64 b, .int .i64 o, .int .i64 blk, .slice aT nT cT] 38 (0, 0) (j := 1) rfl
    have e2 := cell_new wJ #[.int .i64 c, .int .i64 k, .int .i64 b, .int .i64 o, .int .i64 blk, .slice aT nT cT] 38 (0, 0) (j := 2) rfl
    have e3 := cell_new wJ #[.int .i64 c, .int .i64 k, .int .i64 b, .int .i64 o, .int .i64 blk, .slice aT nT cT] 38 (0, 0) (j := 3) rfl
    have e4 := cell_new wJ #[.int .i64 c, .int .i64 k, .int .i64 b, .int .i64 o, .int .i64 blk, .slice aT nT cT] 38 (0, 0) (j := 4) rfl
    have e5 := cell_new wJ #[.int .i64 c, .int .i64 k, .int .i64 b, .int .i64 o, .int .i64 blk, .slice aT nT cT] 38 (0, 0) (j := 5) rfl
    generalize (wJ.alloc (.cells #[.int .i64 c, .int .i64 k, .int .i64 b, .int .i64 o, .int .i64 blk, .slice aT nT cT] 38)) = wK at *
    obtain ⟨pw, hpw⟩ : ∃ pw, pw = wJ.heap.size := ⟨_, rfl⟩
    rw [← hpw] at e0 e1 e2 e3 e4 e5 ⊢
    clear hpw
    have hxK := hxw.trans hxC
    have HDD := Lib.hid (HDO.out wK ps (HSJ.out.ext hxC) (fun f hf => Nat.lt_of_lt_of_le (HFF.out f hf) hxK.size) _ (HOJ.out.ext hxC))
    have HXK := Lib.hid hxK
    clear hxC hxw hxJ hxB hxK hst
    go_wp2_with fail
    refine HDD.out.mono ?_
    rintro e wL ⟨rfl, hstL, hcL⟩
    have HSL := Lib.hid hstL
    have HCL := Lib.hid ((Chg.of_ext (S := [p, bl]) HXK.out).trans hcL)
    clear hstL hcL
    go_wp2_with fail
    go_ret2
    exact ⟨ps, rfl, HSL.out.ext (by repeat' (first | (with_reducible exact Ext.refl _) | (with_reducible assumption) | (with_reducible refine Ext.alloc ?_ _) | (with_reducible refine Ext.drewN ?_ _) | (with_reducible refine Ext.drew ?_) | (with_reducible refine Ext.trans ?_ (by assumption)))), hsz, HCL.out.ext (by repeat' (first | (with_reducible exact Ext.refl _) | (with_reducible assumption) | (with_reducible refine Ext.alloc ?_ _) | (with_reducible refine Ext.drewN ?_ _) | (with_reducible refine Ext.drew ?_) | (with_reducible refine Ext.trans ?_ (by assumption))))⟩
end
/-- a write, on whatever disk: what lies there behind it -/
structure CrashOk (h : Sh) (d d' : Dk) (x : RX) (r1 r2 : Int) (out : (Int × Int) × RX) : Prop where
  down : d.down = true → d'.rows = d.rows ∧ d'.down = true
  up : d.down = false → Sim h d x → d.rows.getD 0 [] = [] → (d'.down = false ∧ (r1, r2) = out.1 ∧ Sim h d' out.2 ∧ d'.rows.getD 0 [] = [] ∧ r2 ≠ 8) ∨ (d'.down = true ∧ r2 = 8 ∧ ((Sim h d' x ∧ d'.rows.getD 0 [] = []) ∨ Rec h d'.rows out.2))
theorem swrite_crash (w : World) (F : List Nat) (ps p bl : Nat) (h : Sh) (d : Dk) (st : StAt w F ps p bl h d) (hF : ∀ f ∈ F, f < w.heap.size) (x : RX) (a s b o bk : Int) (dv : Value) (D : List Int) (hD : RdI .u8 w dv D) (hDb : ∀ x ∈ D, 0 ≤ x ∧ x ≤ 255) (hDo : 0 < D.length → ∀ x, dv.ownBlock = some x → x ∉ [p, bl]) :
    Calls Try.prog 15 #[.pointer (some ⟨ps, 0, none⟩), .agg #[.int .i64 a, .int .i64 s, .int .i64 b, .int .i64 o, .int .i64 bk, dv]] w fun e w' => ∃ r1 r2 d', e = .returned (.tuple #[.int .i64 r1, .int .i64 r2]) ∧ StAt w' F ps p bl h d' ∧ Chg [p, bl] w w' ∧ CrashOk h d d' x r1 r2 (rWr h x a s b o bk D) := by
  by_cases hbad : stBad h a s b o bk D.length = 0
  · obtain ⟨c, k, blk, rfl, rfl, rfl, hc, hk, hb, hbb, hoo, hns⟩ := fit_nat hbad
    have hn0 : 0 < D.length := by rw [hns]; exact st.ok.s1
    refine (swrite_st w F ps p bl h d st hF c k blk hc hk hb b o hbb hoo dv D hD hns hDb (hDo hn0)).mono ?_
    rintro e w' ⟨rfl, h1, h2⟩
    refine ⟨_, _, _, rfl, h1, h2, ⟨fun hd => st_down hd c k blk b o D, fun hu hs h0 => ?_⟩⟩
    rw [rWr_fit hbad, Int.toNat_natCast, Int.toNat_natCast, Int.toNat_natCast]
    exact crash_law st.ok hs hu st.many h0 hc hk hb hbb hoo hns hDb
  · refine (swrite_bad w F ps p bl h d st a s b o bk dv D hD hbad).mono ?_
    rintro e w' ⟨rfl, hx⟩
    refine ⟨_, _, d, rfl, st.ext hx, Chg.of_ext hx, ⟨fun hd => ⟨rfl, hd⟩, fun hu hs h0 => .inl ⟨hu, ?_, ?_, h0, ?_⟩⟩⟩
    · unfold rWr; rw [if_pos hbad]
    · unfold rWr; rw [if_pos hbad]; exact hs
    · unfold stBad
      split
      · decide
      · split
        · decide
        · split <;> decide

end Go.Proofs.Ytoadjmeopamgbaa
