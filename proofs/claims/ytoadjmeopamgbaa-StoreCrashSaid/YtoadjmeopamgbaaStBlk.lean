/-
  store.block, Read. No condition but that the store lies in memory.
-/
import Derived.Test.YtoadjmeopamgbaaStRead
namespace Go.Proofs.Ytoadjmeopamgbaa
open Go.RowKit

/-- what a block's sector says: its version, its bytes -/
def sBlk (n : Nat) (B : List Int) : Int × List Int :=
  if (rdText B (rdNum B (0, true)).2 n).2 = true ∧ (rdNum B (0, true)).1 ≤ 1000 then ((rdNum B (0, true)).1, (rdText B (rdNum B (0, true)).2 n).1) else (0, List.replicate n 0)
theorem made_zero (n : Nat) : (madeCells #[Value.int .u8 0] n).toList = cellsOf .u8 (List.replicate n 0) := by
  apply List.ext_getElem?
  intro j
  by_cases hj : j < n
  · simp only [madeCells, Array.toList_map, Array.toList_range, List.getElem?_map, List.getElem?_range hj, Option.map_some]
    simp [Nat.mod_one, hj]
  · rw [List.getElem?_eq_none (by simp [madeCells]; omega), List.getElem?_eq_none (by simp; omega)]
theorem make8 (S : Nat) (hS : S ≤ 64) (w : World) : (Instr.makeSlice 36 (.int .i64 (S : Nat)) (.int .i64 (S : Nat))).run Try.prog w = .ok (.slice (some ⟨w.heap.size, 0, none⟩) S S) (w.alloc (.cells (Array.replicate S (.int .u8 0)) 5)) := by
  obtain ⟨i0, hi0, hz0, hz1, hz2⟩ := info_parts bytes_info
  have hr := run_make (P := Try.prog) w 36 5 i0 (.int .u8 0) Try.underlying36 hi0 hz0 .i64 .i64 S S (by omega) (by omega) (by rw [hz2]; omega) (by omega)
  simp only [Int.toNat_natCast] at hr
  have e : madeCells (Value.int .u8 0).cells (S * i0.size) = Array.replicate S (Value.int .u8 0) := by
    rw [hz1, Nat.mul_one]
    apply Array.toList_inj.1
    show (madeCells #[Value.int .u8 0] S).toList = _
    rw [made_zero]
    simp
  rw [hr, e]
theorem own_zeros (S : Nat) (w : World) {base : Nat} (hb : base ≤ w.heap.size) (hS : S ≤ 64) : OwnI .u8 5 base (w.alloc (.cells (Array.replicate S (.int .u8 0)) 5)) (.slice (some ⟨w.heap.size, 0, none⟩) S S) (List.replicate S 0) := by
  have := World.ownsRow_lit (base := base) (e := 5) (size := 1) w (Array.replicate S (.int .u8 0)) S hb (by unfold maxLen; omega) (by simp)
  unfold OwnI
  simpa using this

section
variable (w : World) (F : List Nat) (ps p bl : Nat) (h : Sh) (d : Dk)
set_option maxRecDepth 100000 in
set_option maxHeartbeats 4000000 in
theorem sblock (s : StAt w F ps p bl h d) (b : Nat) (hb : b < h.b) :
    Calls Try.prog 36 #[.pointer (some ⟨ps, 0, none⟩), .int .i64 b] w fun e w' => ∃ vt, e = .returned (.tuple #[.int .i64 (sBlk h.s (d.rows.getD (1 + b) [])).1, vt]) ∧ OwnI .u8 5 w.heap.size w' vt (sBlk h.s (d.rows.getD (1 + b) [])).2 ∧ Ext w w' := by
  have c0 := s.c0
  have c1 := s.c1
  have c2 := s.c2
  have c3 := s.c3
  have hb2 := s.ok.b2
  have hs2 := s.ok.s2
  have hin : 1 + b < d.rows.length := by have := s.many; unfold Sh.many at this; omega
  have HR := Lib.hid (fun w' (hx : Ext w w') => sread w' F ps p bl h d (s.ext hx) (1 + b) hin)
  have HBA := Lib.hid (fun w' => sblockAt h.b h.s h.c h.k b (by omega) w')
  obtain ⟨B, hBe⟩ : ∃ B, B = d.rows.getD (1 + b) [] := ⟨_, rfl⟩
  have HB : Hid (∀ x ∈ B, 0 ≤ x ∧ x ≤ 255) := Lib.hid (by rw [hBe]; exact s.byt (1 + b))
  have HL : Hid (B.length ≤ 100000) := Lib.hid (by rw [hBe]; have := s.dk.small (1 + b); omega)
  rw [← hBe] at HR ⊢
  obtain ⟨vs, hvs⟩ : ∃ x, x = (sBlk h.s B).1 := ⟨_, rfl⟩
  obtain ⟨tx, htx⟩ : ∃ x, x = (sBlk h.s B).2 := ⟨_, rfl⟩
  have HD : Hid ((vs, tx) = sBlk h.s B) := Lib.hid (by rw [hvs, htx])
  rw [← hvs, ← htx]
  unfold sBlk at HD
  obtain ⟨q, hq⟩ : ∃ q, q = rdNum B (0, true) := ⟨_, rfl⟩
  rw [← hq] at HD
  obtain ⟨n1, a1, ok1⟩ := q
  have HQ := Lib.hid hq
  obtain ⟨q2, hq2⟩ : ∃ q2, q2 = rdText B (a1, ok1) h.s := ⟨_, rfl⟩
  simp only [← hq2] at HD
  have HQ2 := Lib.hid hq2
  obtain ⟨tt, ok2⟩ := q2
  simp only at HD
  obtain ⟨S, hS⟩ : ∃ S, S = h.s := ⟨_, rfl⟩
  rw [← hS] at HD HQ2 c1 hs2 HBA
  obtain ⟨x0, hx0⟩ : ∃ x, x = h.b := ⟨_, rfl⟩
  obtain ⟨x2, hx2⟩ : ∃ x, x = h.c := ⟨_, rfl⟩
  obtain ⟨x3, hx3⟩ : ∃ x, x = h.k := ⟨_, rfl⟩
  rw [← hx0] at c0 HBA
  rw [← hx2] at c2 HBA
  rw [← hx3] at c3 HBA
  clear s hin hb hb2 hBe hvs htx hq hq2 hS hx0 hx2 hx3
  go_enter Try.func36, Try.ntmps36
  go_wp2_with fail
  refine (HBA.out _).mono ?_
  rintro e w1 ⟨rfl, hw1⟩
  go_wp2_with fail
  refine (HR.out _ hw1).mono ?_
  rintro e w2 ⟨g, v, t, rfl, hg, hv, hgl, hvg, hw2⟩
  have hx2 := hw1.trans hw2
  have HN := snum v B 0 true g t w2 hg hv HB.out HL.out
  rw [← HQ.out] at HN
  have HNN := Lib.hid HN
  have HV := Lib.hid hv
  have HVG := Lib.hid hvg
  have HG : Hid (w.heap.size ≤ g) := Lib.hid (Nat.le_trans hw1.size hgl)
  clear HN hv hvg hgl hg
  go_wp2_with fail
  refine HNN.out.mono ?_
  rintro e w3 ⟨rfl, hg3, hc3⟩
  have hx3 : Ext w w3 := hx2.chg hc3 (by simpa using HG.out)
  have hv3 := HV.out.chgc hc3 (fun _ g' hg' => by simp; have := (HVG.out _ hg').2; omega)
  have HT := stext v B a1 ok1 g t w3 hg3 hv3 HB.out HL.out S (by omega)
  rw [← HQ2.out] at HT
  have HTT := Lib.hid HT
  have c1 := hx3.cellv c1
  clear HT hg3 hv3 hc3
  go_wp2_with fail
  refine HTT.out.mono ?_
  rintro e w4 ⟨vt, rfl, ho, hg4, hc4⟩
  have hx4 : Ext w w4 := hx3.chg hc4 (by simpa using HG.out)
  have d2 : w4.cell? ⟨g, 2, none⟩ = some (.bool ok2) := cell_of_row w4 g 2 _ _ _ hg4
  have c1 := hx4.cellv (‹w.cell? ⟨ps, 1, none⟩ = some (.int .i64 (S : Nat))›)
  have HO := Lib.hid (ho.mono hx3.size)
  obtain ⟨va, vn, vc, rfl⟩ : ∃ a n c, vt = .slice a n c := by obtain ⟨a, c, h9, _⟩ := ho.rd.parts; exact ⟨a, _, c, h9⟩
  clear ho hg4 hc4
  by_cases hgood : ok2 = true ∧ n1 ≤ 1000
  · obtain ⟨rfl, hn1⟩ := hgood
    have hD := HD.out
    rw [if_pos ⟨rfl, hn1⟩] at hD
    obtain ⟨rfl, rfl⟩ : vs = n1 ∧ tx = tt := by simpa using hD
    clear hD
    go_wp2_with fail
    go_ret2
    exact ⟨_, rfl, HO.out, hx4⟩
  · have hD := HD.out
    rw [if_neg hgood] at hD
    obtain ⟨rfl, rfl⟩ : vs = 0 ∧ tx = List.replicate S 0 := by simpa using hD
    have hsi : (S : Int) ≤ 16 := by omega
    have HMK := make8 S (by omega)
    have HOZ := Lib.hid (fun (w' : World) (hb : w.heap.size ≤ w'.heap.size) => own_zeros S w' hb (by omega))
    clear hD HD
    cases ok2 with
    | false =>
      clear hgood
      go_wp2_with fail
      go_region
      go_wp2_with fail
      go_ret2
      exact ⟨_, rfl, (HOZ.out w4 hx4.size).ext ((Ext.refl _).drew), (by repeat' (first | (with_reducible exact Ext.refl _) | (with_reducible assumption) | (with_reducible refine Ext.alloc ?_ _) | (with_reducible refine Ext.drewN ?_ _) | (with_reducible refine Ext.drew ?_) | (with_reducible refine Ext.trans ?_ (by assumption))))⟩
    | true =>
      have hn1 : ¬ n1 ≤ 1000 := fun h => hgood ⟨rfl, h⟩
      clear hgood
      go_wp2_with fail
      go_region
      go_wp2_with fail
      go_ret2
      exact ⟨_, rfl, (HOZ.out w4 hx4.size).ext ((Ext.refl _).drew), (by repeat' (first | (with_reducible exact Ext.refl _) | (with_reducible assumption) | (with_reducible refine Ext.alloc ?_ _) | (with_reducible refine Ext.drewN ?_ _) | (with_reducible refine Ext.drew ?_) | (with_reducible refine Ext.trans ?_ (by assumption))))⟩
end
end Go.Proofs.Ytoadjmeopamgbaa
