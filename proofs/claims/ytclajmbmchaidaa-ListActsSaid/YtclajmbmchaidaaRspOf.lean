/-
  gradineref10.Space.Of. No condition but that the space lies in memory.
-/
import Derived.Test.YtclajmbmchaidaaRsp
import Derived.Test.YtclajmbmchaidaaDo10
namespace Go.Proofs.Ytclajmbmchaidaa
open Go.RowKit

/-- the list that a block is in; -1: none -/
def ofR (Ls : List (List Nat)) (b : Int) : Int := match (List.range Ls.length).find? (fun l => decide (b ∈ asInts (Ls.getD l []))) with | some l => (l : Int) | none => -1
theorem ofR_some {Ls : List (List Nat)} {b : Int} {i : Nat} (hi : i < Ls.length) (hm : b ∈ asInts (Ls.getD i [])) (hn : ∀ j, j < i → b ∉ asInts (Ls.getD j [])) : ofR Ls b = i := by
  have : (List.range Ls.length).find? (fun l => decide (b ∈ asInts (Ls.getD l []))) = some i := by
    rw [List.find?_range_eq_some]
    exact ⟨by simpa using hm, by simpa using hi, fun j hj => by simpa using hn j hj⟩
  unfold ofR; rw [this]
theorem ofR_none {Ls : List (List Nat)} {b : Int} (hn : ∀ j, j < Ls.length → b ∉ asInts (Ls.getD j [])) : ofR Ls b = -1 := by
  have : (List.range Ls.length).find? (fun l => decide (b ∈ asInts (Ls.getD l []))) = none := by
    rw [List.find?_range_eq_none]
    exact fun j hj => by simpa using hn j hj
  unfold ofR; rw [this]

set_option maxHeartbeats 1000000 in
theorem refof_any (B p bl : Nat) (Ls : List (List Nat)) (b : Int) (w : World) (h : RspAt w B p bl Ls) :
    Calls Try.prog 27 #[.pointer (some ⟨p, 0, none⟩), .int .i64 b] w fun e w' => e = .returned (.int .i64 (ofR Ls b)) ∧ Ext w w' := by
  obtain ⟨c, hc0⟩ := h.cell0
  have htop := h.top
  obtain ⟨r, hr⟩ : ∃ r, ofR Ls b = r := ⟨_, rfl⟩
  rw [hr]
  obtain ⟨n, hn⟩ : ∃ n, Ls.length = n := ⟨_, rfl⟩
  rw [hn] at hc0 htop
  have HR := Lib.hid hr
  have HN := Lib.hid hn
  have H := Lib.hid h
  clear hr hn h
  go_enter Try.func27, Try.ntmps27
  go_wp2_with fail
  go_loopw [5] (fun ci wr => ∃ i : Nat, i ≤ n ∧ ci = .int .i64 i ∧ (∀ j, j < i → b ∉ asInts (Ls.getD j [])) ∧ Ext w wr) (fun ci _ => n - (intOf ci).toNat)
  case atStart => exact ⟨0, Nat.zero_le _, rfl, fun j hj => absurd hj (Nat.not_lt_zero _), Ext.refl _⟩
  case round =>
    obtain ⟨i, hi, rfl, hno, hx⟩ := hrel
    have HNO := Lib.hid hno
    clear hno
    have x0 := hx.cellv hc0
    by_cases hlt : i < n
    · obtain ⟨v, hv, ho⟩ := H.out.cell (i := i) (by rw [HN.out]; exact hlt)
      obtain ⟨a, cc, hva, hlc, hcm, _, hs⟩ := ho.rd.parts
      obtain ⟨l, hl⟩ : ∃ l, asInts (Ls.getD i []) = l := ⟨_, rfl⟩
      rw [hl] at hva hlc hs ho
      have hl63 : (l.length : Int) ≤ 9223372036854775807 := by unfold maxLen at hcm; omega
      obtain ⟨len, hlen⟩ : ∃ len, l.length = len := ⟨_, rfl⟩
      rw [hlen] at hva hl63
      subst hva
      have HS := Lib.hid hs
      have HL := Lib.hid hl
      have HLEN := Lib.hid hlen
      have hii : (i : Int) < (n : Int) := by omega
      have x1 := hx.cellv hv
      clear hs ho hl hlen hlc hcm
      go_wp2_with fail
      go_loopw [6] (fun cj ws => ∃ j : Nat, j ≤ len ∧ cj = .int .i64 j ∧ (∀ t, t < j → l.getD t 0 ≠ b) ∧ Ext w ws) (fun cj _ => len - (intOf cj).toNat)
      case atStart => exact ⟨0, Nat.zero_le _, rfl, fun j hj => absurd hj (Nat.not_lt_zero _), hx⟩
      case round =>
        obtain ⟨j, hj, rfl, hnj, hy⟩ := hrel
        have HNJ := Lib.hid hnj
        clear hnj x0 x1
        have y0 := hy.cellv hc0
        have y1 := hy.cellv hv
        by_cases hjl : j < len
        · obtain ⟨g, o, rfl, hg, hcell⟩ := HS.out (by intro h; have := HLEN.out; subst h; simp at this; omega)
          have y2 := (hy.cell hg).trans (hcell j (by have := HLEN.out; omega))
          obtain ⟨u, hu⟩ : ∃ u, l.getD j 0 = u := ⟨_, rfl⟩
          rw [hu] at y2
          have HU := Lib.hid hu
          have hjj : (j : Int) < (len : Int) := by omega
          clear hcell hu
          by_cases he : u = b
          · subst he
            go_wp2_with fail
            go_ret
            refine ⟨ret_int ?_, hy⟩
            rw [← HR.out, ofR_some (i := i) (by rw [HN.out]; exact hlt) (by rw [HL.out, ← HU.out]; exact getD_mem (by have := HLEN.out; omega)) HNO.out]
          · have he' : (u == b) = false := by simpa using he
            go_wp2_with fail
            go_roundw
            case rel =>
              refine ⟨j + 1, by omega, by go_num, fun t ht => ?_, hy⟩
              by_cases e : t = j
              · subst e; rw [HU.out]; exact he
              · exact HNJ.out t (by omega)
            case measure => simp [intOf]; omega
        · obtain rfl : j = len := by omega
          go_wp2_with fail
          go_roundw
          case rel =>
            refine ⟨i + 1, by omega, by go_num, fun t ht => ?_, hy⟩
            by_cases e : t = i
            · subst e
              rw [HL.out]
              intro hm
              obtain ⟨q, hq, he⟩ := List.getElem_of_mem hm
              have := HNJ.out q (by have := HLEN.out; omega)
              apply this
              simp [List.getD, hq, he]
            · exact HNO.out t (by omega)
          case measure => simp [intOf]; omega
    · obtain rfl : i = n := by omega
      go_wp2_with fail
      go_ret
      refine ⟨ret_int ?_, hx⟩
      rw [← HR.out, ofR_none (fun j hj => HNO.out j (by rw [← HN.out]; exact hj))]
end Go.Proofs.Ytclajmbmchaidaa
