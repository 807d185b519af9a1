/-
  frame: a packet as it came in; own bytes as cells; gradinelaw07.wakes. No condition.
-/
import Derived.Test.YtmkobmkaalfecaaFrPut
import Derived.Test.YtmkobmkaalfecaaFrGet
import Derived.Test.YtmkobmkaalfecaaStruct
import Derived.Test.YtmkobmkaalfecaaSame
namespace Go.Proofs.Ytmkobmkaalfecaa
open Go.RowKit

/-- bytes in a block of one's own -/
def BAt (w : World) (g : Nat) (l : List Int) : Prop := ∃ cs t, w.heap[g]? = some (.cells cs t (0, 0)) ∧ ∀ i, i < l.length → cs[i]? = some (.int .u8 (l.getD i 0))
theorem getD_set_i {l : List Int} {i : Nat} {x : Int} (hi : i < l.length) (j : Nat) : (l.set i x).getD j 0 = if j = i then x else l.getD j 0 := by
  by_cases h : j = i
  · subst h; rw [if_pos rfl, List.getD_eq_getElem?_getD, List.getElem?_set_self hi]; rfl
  · rw [if_neg h, List.getD_eq_getElem?_getD, List.getD_eq_getElem?_getD, List.getElem?_set_ne (fun e => h e.symm)]
theorem own_bat {w : World} {base : Nat} {e : TypeId} {v : Value} {l : List Int} (h : OwnI .u8 e base w v l) (hl : 0 < l.length) :
    ∃ g cap, v = .slice (some ⟨g, 0, none⟩) l.length cap ∧ base ≤ g ∧ l.length ≤ cap ∧ cap ≤ maxLen ∧ BAt w g l := by
  obtain ⟨_, h⟩ := h
  rcases h with ⟨_, hn0⟩ | ⟨g, cap, cur, rfl, hgb, hgg, hncap, hcapm, _, htake⟩
  · omega
  · refine ⟨g, cap, rfl, hgb, hncap, hcapm, cur, e, hgg, fun i hi => ?_⟩
    have h1 : (cellsOf .u8 l)[i]? = some (.int .u8 (l.getD i 0)) := by
      rw [List.getElem?_map, List.getElem?_eq_getElem hi, List.getD_eq_getElem?_getD, List.getElem?_eq_getElem hi]; rfl
    rw [← htake, List.getElem?_take, if_pos (by omega)] at h1
    simpa using h1
theorem BAt.cell {w : World} {g : Nat} {l : List Int} (h : BAt w g l) {i : Nat} (hi : i < l.length) : w.cell? ⟨g, i, none⟩ = some (.int .u8 (l.getD i 0)) := by
  obtain ⟨cs, t, h1, h2⟩ := h
  rw [cell_of_row w g _ cs t (0, 0) h1]; exact h2 i hi
theorem BAt.frz {w : World} {g : Nat} {l : List Int} (h : BAt w g l) (i : Nat) : w.frozen? ⟨g, i, none⟩ = false := by
  obtain ⟨cs, t, h1, h2⟩ := h; exact frozen_row h1 i
theorem BAt.set {w : World} {g : Nat} {l : List Int} (h : BAt w g l) {i : Nat} (hi : i < l.length) (x : Int) : BAt (w.setCell ⟨g, i, none⟩ (.int .u8 x)) g (l.set i x) := by
  obtain ⟨cs, t, h1, h2⟩ := h
  refine ⟨_, t, heap_set h1 _, fun j hj => ?_⟩
  rw [List.length_set] at hj
  rw [getD_set_i hi]
  have hlt : i < cs.size := (Array.getElem?_eq_some_iff.1 (h2 i hi)).1
  by_cases e : j = i
  · subst e
    rw [Array.getElem?_setIfInBounds]; simp [hlt]
  · rw [Array.getElem?_setIfInBounds, if_neg (fun q => e q.symm), if_neg e]; exact h2 j hj
theorem BAt.ext {w w' : World} {g : Nat} {l : List Int} (h : BAt w g l) (hx : Ext w w') : BAt w' g l := by
  obtain ⟨cs, t, h1, h2⟩ := h
  exact ⟨cs, t, by rw [Below.block hx _ (Array.getElem?_eq_some_iff.1 h1).1]; exact h1, h2⟩
theorem BAt.lt {w : World} {g : Nat} {l : List Int} (h : BAt w g l) : g < w.heap.size := by
  obtain ⟨cs, t, h1, h2⟩ := h; exact (Array.getElem?_eq_some_iff.1 h1).1
theorem BAt.rd {w : World} {g cap : Nat} {l : List Int} (h : BAt w g l) (hn : l.length ≤ cap) (hc : cap ≤ maxLen) : RdI .u8 w (.slice (some ⟨g, 0, none⟩) l.length cap) l := by
  have hlt := h.lt
  refine ⟨by simp, some ⟨g, 0, none⟩, cap, rfl, hn, hc, fun h => (by cases h), fun _ => ⟨g, 0, rfl, hlt, fun j u hu => ?_⟩⟩
  rw [List.getElem?_map] at hu
  obtain ⟨y, hy, rfl⟩ := Option.map_eq_some_iff.1 hu
  have hj : j < l.length := (List.getElem?_eq_some_iff.1 hy).1
  have := h.cell hj
  rw [Nat.zero_add, this]
  simp [List.getD, hy]

theorem pkt_of {w : World} {v : Value} (h : IsFlat Try.prog 49 w v) :
    ∃ (m y s k : Int) (u : Value) (t : List Int), v = pktV m y s k u ∧ RdI .u8 w u t ∧ ∀ x ∈ t, 0 ≤ x ∧ x ≤ 255 := by
  obtain ⟨fs, cs, he, rfl, hsz, hc⟩ := h
  have hfs := he.symm.trans Try.underlying49
  simp only [Option.some.injEq, TypeDesc.struct.injEq] at hfs
  subst hfs
  have h5 : cs.size = 5 := hsz.trans (by kernel_rfl)
  obtain ⟨c0, c1, c2, c3, c4, rfl⟩ : ∃ c0 c1 c2 c3 c4, cs = #[c0, c1, c2, c3, c4] := by
    match cs, h5 with
    | ⟨[a, b, c, d, e]⟩, _ => exact ⟨a, b, c, d, e, rfl⟩
  obtain ⟨m, rfl, _⟩ := ((hc 0 _ rfl).1 (by kernel_rfl) c0 rfl).1.int Try.underlying3
  obtain ⟨y, rfl, _⟩ := ((hc 1 _ rfl).1 (by kernel_rfl) c1 rfl).1.int Try.underlying3
  obtain ⟨s, rfl, _⟩ := ((hc 2 _ rfl).1 (by kernel_rfl) c2 rfl).1.int Try.underlying3
  obtain ⟨k, rfl, _⟩ := ((hc 3 _ rfl).1 (by kernel_rfl) c3 rfl).1.int Try.underlying3
  obtain ⟨t, ht, hb⟩ := ((hc 4 _ rfl).1 (by kernel_rfl) c4 rfl).1.ints Try.underlying24 Try.underlying5 (by kernel_rfl)
  refine ⟨m, y, s, k, c4, t, rfl, ht, fun x hx => ?_⟩
  have := hb x hx
  simp [Lit.wf, IntKind.min, IntKind.max, IntKind.signed, IntKind.bits] at this
  omega

theorem ones_bytes : fbytes 1 0 0 0 [] = [1, 0, 0, 0, 0, 1] := by
  have e1 : enc (1 : Int).toNat = [1] := by rw [show (1 : Int).toNat = 1 from rfl, enc_lt (by omega)]; rfl
  have e0 : enc (0 : Int).toNat = [0] := by rw [show (0 : Int).toNat = 0 from rfl, enc_lt (by omega)]; rfl
  have e2 : enc ([] : List Int).length = [0] := by rw [show ([] : List Int).length = 0 from rfl, enc_lt (by omega)]; rfl
  unfold fbytes fplain
  rw [e1, e0, e2]
  decide

set_option maxHeartbeats 1000000 in
theorem wakes07 (w : World) : Calls Try.prog 30 #[] w fun e w' => e = .returned (.bool true) ∧ Ext w w' := by
  have HP := Lib.hid (fun w => frput_ok 1 0 0 0 (.slice none 0 0) [] w (RdI.nil _ _) (by simp) (by decide))
  unfold pktV at HP
  go_enter Try.func30, Try.ntmps30
  go_wp2_with fail
  refine (HP.out _).mono ?_
  rintro e w1 ⟨v1, rfl, ho1, hx1⟩
  rw [ones_bytes] at ho1
  go_wp2_with fail
  refine (same_any _ _ [1, 0, 0, 0, 0, 1] [1, 0, 0, 0, 0, 1] _ (ho1.rd.ext (by repeat' (first | (with_reducible exact Ext.refl _) | (with_reducible assumption) | (with_reducible refine Ext.alloc ?_ _) | (with_reducible refine Ext.drewN ?_ _) | (with_reducible refine Ext.drew ?_) | (with_reducible refine Ext.trans ?_ (by assumption))))) (RdI.lit .u8 _ [1, 0, 0, 0, 0, 1] _ (by simp [maxLen]))).mono ?_
  rintro e w2 ⟨rfl, hx2⟩
  go_wp2_with fail
  go_ret
  exact ⟨rfl, (by repeat' (first | (with_reducible exact Ext.refl _) | (with_reducible assumption) | (with_reducible refine Ext.alloc ?_ _) | (with_reducible refine Ext.drewN ?_ _) | (with_reducible refine Ext.drew ?_) | (with_reducible refine Ext.trans ?_ (by assumption))))⟩
end Go.Proofs.Ytmkobmkaalfecaa
