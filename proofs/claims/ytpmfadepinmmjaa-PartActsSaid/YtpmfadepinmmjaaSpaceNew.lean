/-
  list.New: a space of empty lists. No condition.
-/
import Derived.Test.YtpmfadepinmmjaaSpace3
namespace Go.Proofs.Ytpmfadepinmmjaa
open Go.RowKit

/-- how many lists a new space has -/
def newN (many : Int) : Nat := (max 1 (min many 40)).toNat

theorem ends_info : (Try.prog.info? 95).map (fun i => (i.zero, i.size, i.bytes)) = some (some (.agg #[.int .i64 0, .int .i64 0, .int .i64 0]), 3, 24) := by kernel_rfl

/-- the cells of a space that is all zero -/
def zspace : Array Value := (List.replicate 192 (Value.int .i64 0) ++ [Value.slice none 0 0]).toArray
theorem zspace_size : zspace.size = 193 := by
  unfold zspace
  rw [List.size_toArray, List.length_append, List.length_replicate]
  rfl
theorem zspace_at {j : Nat} (hj : j < 192) : zspace[j]? = some (.int .i64 0) := by
  unfold zspace
  rw [List.getElem?_toArray, List.getElem?_append_left (by rw [List.length_replicate]; exact hj), List.getElem?_replicate, if_pos hj]
theorem zspace_run (w : World) : (zeroValue 93).run Try.prog w = .ok (.agg zspace) w := by kernel_rfl

theorem made3_at {n j : Nat} (hj : j < n * 3) : (madeCells (Value.agg #[.int .i64 0, .int .i64 0, .int .i64 0]).cells (n * 3)).toList[j]? = some (.int .i64 0) := by
  simp only [madeCells, Array.toList_map, Array.toList_range, List.getElem?_map, List.getElem?_range hj, Option.map_some]
  have h3 : j % 3 = 0 ∨ j % 3 = 1 ∨ j % 3 = 2 := by omega
  rcases h3 with h | h | h <;> simp [Value.cells, h]

/-- the two blocks as they are made -/
theorem spc_made {w w1 : World} {n : Nat} {t1 t2 : TypeId} {xs : List Value} (n1 : 1 ≤ n) (n40 : n ≤ 40) (ho : w1.ownsRow w.heap.size t1 3 (.slice (some ⟨w.heap.size, 0, none⟩) n n) n xs) (hx : ∀ j, j < n * 3 → xs[j]? = some (.int .i64 0)) :
    SpcAt (w1.alloc (.cells (zspace.setIfInBounds 192 (.slice (some ⟨w.heap.size, 0, none⟩) n n)) t2)) w1.heap.size w.heap.size n (fun _ _ => 0) (fun _ _ => 0) := by
  obtain ⟨hl, h2⟩ := ho
  rcases h2 with ⟨h, _⟩ | ⟨g, cap, cur, he, hb, hg, hn, hm, hs, ht⟩
  · cases h
  · simp only [Value.slice.injEq, Option.some.injEq, Addr.mk.injEq] at he
    obtain ⟨⟨rfl, _⟩, _, rfl⟩ := he
    have hlt : w.heap.size < w1.heap.size := (Array.getElem?_eq_some_iff.1 hg).1
    refine ⟨by omega, n1, n40, ⟨_, t2, heap_alloc_new w1 _, ?_, ?_⟩, ⟨cur, t1, ?_, ?_⟩⟩
    · intro b f hb hf
      rw [Array.getElem?_setIfInBounds, if_neg (by omega)]
      exact zspace_at (by omega)
    · rw [Array.getElem?_setIfInBounds, if_pos rfl, if_pos (by rw [zspace_size]; omega)]
    · rw [Below.heap_alloc _ _ _ hlt]; exact hg
    · intro b f hb hf
      have := hx (b * 3 + f) (by omega)
      rw [← ht, List.getElem?_take, if_pos (by omega)] at this
      simpa using this

set_option maxRecDepth 100000 in
set_option maxHeartbeats 2000000 in
theorem new_any (many : Int) (w : World) (h0 : -9223372036854775808 ≤ many) (h1 : many ≤ 9223372036854775807) :
    Calls Try.prog 27 #[.int .i64 many] w fun e w' => ∃ bs be, e = .returned (.pointer (some ⟨bs, 0, none⟩)) ∧ SpaceAt w' bs be (List.replicate (newN many) []) ∧ w.heap.size ≤ bs ∧ w.heap.size ≤ be ∧ Ext w w' := by
  obtain ⟨i0, hi, hz0, hz1, hz2⟩ := info_parts ends_info
  obtain ⟨n, hn⟩ : ∃ n, n = newN many := ⟨_, rfl⟩
  have HN := Lib.hid hn
  have hn0 : 1 ≤ n ∧ n ≤ 40 := by rw [hn]; unfold newN; omega
  obtain ⟨n1, n40⟩ := hn0
  clear hn
  have hzr := zspace_run
  have hzs := zspace_size
  go_enter Try.func27, Try.ntmps27
  go_wp2_with (at_make; refine wpList_make_full _ rfl _ _ 88 rfl w.heap.size 95 i0 (.agg #[.int .i64 0, .int .i64 0, .int .i64 0]) 3 Try.underlying88 hi hz0 hz1 .i64 .i64 _ _ n rfl rfl (by have := HN.out; unfold newN at this; omega) (by have := HN.out; unfold newN at this; omega) (by rw [hz2]; omega) (by unfold maxLen; omega) (Nat.le_refl _) ?_)
  all_goals
    intro w1 ho1 hg1
    have hx1 : Ext w w1 := (Ext.refl w).grown hg1 (Nat.le_refl _) (fun k hk => by cases hk)
    have hlt1 : w.heap.size ≤ w1.heap.size := hx1.size
    have hs0 := spc_made (t2 := 93) n1 n40 ho1 (fun j hj => made3_at hj)
    clear ho1 hg1
    go_wp2_with fail
    clear hzr hzs
    obtain ⟨bs, hbs⟩ : ∃ bs, bs = w1.heap.size := ⟨_, rfl⟩
    obtain ⟨be, hbe⟩ : ∃ be, be = w.heap.size := ⟨_, rfl⟩
    rw [← hbs, ← hbe] at hs0
    rw [← hbs, ← hbe]
    have hbs' : w.heap.size ≤ bs := by omega
    have hbe' : w.heap.size ≤ be := by omega
    have hx2 := hx1.alloc (.cells (zspace.setIfInBounds 192 (.slice (some ⟨be, 0, none⟩) n n)) 93)
    clear hbs hbe hlt1 hx1
    generalize (w1.alloc (.cells (zspace.setIfInBounds 192 (.slice (some ⟨be, 0, none⟩) n n)) 93)) = w2 at *
    generalize (Value.agg (zspace.setIfInBounds 192 (.slice (some ⟨be, 0, none⟩) n n))) = vz at *
    clear w1
    go_loopw [12] (fun c wr => ∃ (k : Nat) (A : Nat → Nat → Int), k ≤ 64 ∧ c = .int .i64 k ∧ SpcAt wr bs be n A (fun _ _ => 0) ∧ (∀ b, b < k → A b 0 = -1) ∧ Ext w wr) (fun c _ => 64 - (intOf c).toNat)
    case atStart => exact ⟨0, _, by omega, rfl, hs0, fun b hb => absurd hb (Nat.not_lt_zero _), hx2⟩
    case round =>
      obtain ⟨k, A, hk, rfl, hs, hA, hx⟩ := hrel
      have HA := Lib.hid hA
      clear hA
      by_cases hk64 : k < 64
      · have n0 := hs.node0 hk64
        have f1 := hs.free1
        have hki : (k : Int) < 64 := by omega
        go_wp2_with fail
        go_roundw
        case rel =>
          refine ⟨k + 1, _, by omega, by go_num, hs.setNode0 hk64 _, fun b hb => ?_, ?_⟩
          · by_cases e : b = k
            · subst e; exact upd_same _ _ _ _
            · rw [upd_other _ _ _ _ (.inl e)]; exact HA.out b (by omega)
          · exact Ext.chg (S := [bs]) hx ((Chg.refl _ _).setCell (.inl (by simp)) _) (by simpa using hbs')
        case measure => simp [intOf]; omega
      · obtain rfl : k = 64 := by omega
        have sl := hs.slice
        go_wp2_with fail
        go_loopw [27] (fun c wr2 => ∃ (k : Nat) (E : Nat → Nat → Int), k ≤ n ∧ c = .int .i64 k ∧ SpcAt wr2 bs be n A E ∧ (∀ l, l < k → E l 0 = -1 ∧ E l 1 = -1 ∧ E l 2 = 0) ∧ Ext w wr2) (fun c _ => n - (intOf c).toNat)
        case atStart => exact ⟨0, _, by omega, rfl, hs, fun b hb => absurd hb (Nat.not_lt_zero _), hx⟩
        case round =>
          obtain ⟨k, E, hkn, rfl, hs2, hE, hx2⟩ := hrel
          have HE := Lib.hid hE
          have sl2 := hs2.slice
          clear hE sl
          by_cases hk2 : k < n
          · have e0 := hs2.endc0 hk2
            have e1 := hs2.endc (f := 1) hk2 (by omega)
            have e2 := hs2.endc (f := 2) hk2 (by omega)
            have f2 := hs2.free2
            have hki : (k : Int) < (n : Int) := by omega
            go_wp2_with fail
            go_roundw
            case rel =>
              refine ⟨k + 1, _, by omega, by go_num, ((hs2.setEnd0 hk2 _).setEnd (f := 1) hk2 (by omega) _).setEnd (f := 2) hk2 (by omega) _, fun l hl => ?_, ?_⟩
              · by_cases e : l = k
                · subst e; simp [upd]
                · simp only [upd]; rw [if_neg (by omega), if_neg (by omega), if_neg (by omega), if_neg (by omega), if_neg (by omega), if_neg (by omega), if_neg (by omega), if_neg (by omega), if_neg (by omega)]; exact HE.out l (by omega)
              · exact Ext.chg (S := [be]) hx2 ((by repeat' (first | (with_reducible exact Chg.refl _ _) | (with_reducible assumption) | (with_reducible refine Chg.drewN ?_ _) | (with_reducible refine Chg.drew ?_) | (with_reducible refine Chg.alloc ?_ _) | (with_reducible refine Chg.setCell ?_ (.inl (by simp)) _) | (with_reducible refine Chg.trans ?_ (by assumption)) | (with_reducible refine Chg.ext ?_ (by assumption))))) (by simpa using hbe')
            case measure => simp [intOf]; omega
          · obtain rfl : k = n := by omega
            go_wp2_with fail
            go_ret
            refine ⟨bs, be, rfl, ⟨A, E, ?_, ?_⟩, hbs', hbe', hx2⟩
            · rw [← HN.out, List.length_replicate]; exact hs2
            · rw [← HN.out]; exact lay_new A E _ HA.out HE.out
end Go.Proofs.Ytpmfadepinmmjaa
