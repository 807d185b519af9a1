/-
  sector.New: a disk of empty sectors. No condition.
-/
import Derived.Test.YtoadjmeopamgbaaDiskFn
namespace Go.Proofs.Ytoadjmeopamgbaa
open Go.RowKit

/-- how many sectors a new disk has -/
def dskN (many : Int) : Nat := (max 0 (min many 256)).toNat

theorem row_info : (Try.prog.info? 36).map (fun i => (i.zero, i.size, i.bytes)) = some (some (.slice none 0 0), 1, 24) := by kernel_rfl
theorem zdisk_run (w : World) : (zeroValue 67).run Try.prog w = .ok (.agg #[.slice none 0 0, .int .i64 0, .bool false]) w := by kernel_rfl

theorem made1_at {n j : Nat} (hj : j < n) : (madeCells #[Value.slice none 0 0] n).toList[j]? = some (.slice none 0 0) := by
  simp only [madeCells, Array.toList_map, Array.toList_range, List.getElem?_map, List.getElem?_range hj, Option.map_some]
  simp [Nat.mod_one]

theorem dsk_made {w w1 : World} {n : Nat} {t1 t2 : TypeId} {xs : List Value} (n256 : n ≤ 256) (ho : w1.ownsRow w.heap.size t1 1 (.slice (some ⟨w.heap.size, 0, none⟩) n n) n xs) (hx : ∀ j, j < n → xs[j]? = some (.slice none 0 0))
    (F : List Nat) (hp : w1.heap.size ∈ F) (hb : w.heap.size ∈ F) :
    DiskAt (w1.alloc (.cells #[.slice (some ⟨w.heap.size, 0, none⟩) n n, .int .i64 (-1), .bool false] t2)) F w1.heap.size w.heap.size ⟨-1, false, List.replicate n []⟩ := by
  obtain ⟨hl, h2⟩ := ho
  rcases h2 with ⟨h, _⟩ | ⟨g, cap, cur, he, hb', hg, hn, hm, hs, ht⟩
  · cases h
  · simp only [Value.slice.injEq, Option.some.injEq, Addr.mk.injEq] at he
    obtain ⟨⟨rfl, _⟩, _, rfl⟩ := he
    have hlt : w.heap.size < w1.heap.size := (Array.getElem?_eq_some_iff.1 hg).1
    refine ⟨by simpa using n256, by simp, by simp, hp, hb, fun _ => by omega, ⟨some ⟨w.heap.size, 0, none⟩, n, t2, ?_, by simp, hm, fun _ => rfl⟩, fun j => ?_, ⟨cur, t1, fun _ => ?_, fun i hi => ?_⟩⟩
    · simpa using heap_alloc_new w1 (.cells #[.slice (some ⟨w.heap.size, 0, none⟩) n n, .int .i64 (-1), .bool false] t2)
    · show ((List.replicate n ([] : List Int)).getD j []).length ≤ 64
      by_cases hj : j < n <;> simp [List.getD, hj]
    · rw [Below.heap_alloc _ _ _ hlt]; exact hg
    · have hi' : i < n := by simpa using hi
      refine ⟨.slice none 0 0, ?_, ?_, fun g hg => by cases hg⟩
      · have := hx i hi'
        rw [← ht, List.getElem?_take, if_pos (by omega)] at this
        simpa using this
      · have : (List.replicate n ([] : List Int)).getD i [] = [] := by simp [List.getD, hi']
        show RdI .u8 _ _ ((List.replicate n ([] : List Int)).getD i [])
        rw [this]; exact RdI.nil _ _

set_option maxRecDepth 100000 in
set_option maxHeartbeats 1000000 in
theorem dnew_any (many : Int) (w : World) (h0 : -9223372036854775808 ≤ many) (h1 : many ≤ 9223372036854775807) :
    Calls Try.prog 12 #[.int .i64 many] w fun e w' => ∃ p bl, e = .returned (.pointer (some ⟨p, 0, none⟩)) ∧ (∀ F, p ∈ F → bl ∈ F → DiskAt w' F p bl ⟨-1, false, List.replicate (dskN many) []⟩) ∧ w.heap.size ≤ p ∧ w.heap.size ≤ bl ∧ p < w'.heap.size ∧ bl < w'.heap.size ∧ Ext w w' := by
  obtain ⟨i0, hi, hz0, hz1, hz2⟩ := info_parts row_info
  obtain ⟨n, hn⟩ : ∃ n, n = dskN many := ⟨_, rfl⟩
  have HN := Lib.hid hn
  have n256 : n ≤ 256 := by rw [hn]; unfold dskN; omega
  clear hn
  have hzr := zdisk_run
  go_enter Try.func12, Try.ntmps12
  go_wp2_with (at_make; refine wpList_make_full _ rfl _ _ 48 rfl w.heap.size 36 i0 (.slice none 0 0) 1 Try.underlying48 hi hz0 hz1 .i64 .i64 _ _ n rfl rfl (by have := HN.out; unfold dskN at this; omega) (by have := HN.out; unfold dskN at this; omega) (by rw [hz2]; omega) (by unfold maxLen; omega) (Nat.le_refl _) ?_)
  all_goals
    intro w1 ho1 hg1
    have hx1 : Ext w w1 := (Ext.refl w).grown hg1 (Nat.le_refl _) (fun k hk => by cases hk)
    have hlt1 : w.heap.size ≤ w1.heap.size := hx1.size
    have hlt2 : w.heap.size < w1.heap.size := by
      rcases ho1.2 with ⟨h, _⟩ | ⟨g, cap, cur, he, hb', hg, _⟩
      · cases h
      · simp only [Value.slice.injEq, Option.some.injEq, Addr.mk.injEq] at he
        obtain ⟨⟨rfl, _⟩, _, rfl⟩ := he
        exact (Array.getElem?_eq_some_iff.1 hg).1
    have hs0 := fun F => dsk_made (t2 := 67) n256 ho1 (fun j hj => made1_at hj) F
    have HS := Lib.hid hs0
    clear ho1 hg1 hs0
    go_wp2_with fail
    go_ret
    refine ⟨_, _, rfl, ?_, hlt1, Nat.le_refl _, by simp, by simp; omega, hx1.alloc _⟩
    rw [← HN.out]
    exact HS.out
end Go.Proofs.Ytoadjmeopamgbaa
