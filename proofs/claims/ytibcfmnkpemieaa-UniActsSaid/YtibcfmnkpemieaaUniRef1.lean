/-
  gradineref13's stack as it lies in memory; Count, Yard, Place. No condition but that the stack is there.
-/
import Derived.Test.YtibcfmnkpemieaaUniRefFn
import Derived.Test.YtibcfmnkpemieaaUniUse
namespace Go.Proofs.Ytibcfmnkpemieaa
open Go.RowKit

/-- the cells of blocks with levels -/
def icells (M : List Nat) (lv : Nat → Nat) : List Value := M.flatMap (fun b : Nat => [Value.int .i64 b, .int .i64 (lv b)])
theorem icells_len (M : List Nat) (lv : Nat → Nat) : (icells M lv).length = M.length * 2 := by
  induction M with
  | nil => rfl
  | cons x t ih => unfold icells at *; rw [List.flatMap_cons, List.length_append, ih]; simp; omega
theorem icells_at {lv : Nat → Nat} : ∀ {M : List Nat} {k : Nat}, k < M.length → (icells M lv)[k * 2]? = some (.int .i64 (M.getD k 0 : Nat)) ∧ (icells M lv)[k * 2 + 1]? = some (.int .i64 (lv (M.getD k 0) : Nat)) := by
  intro M
  induction M with
  | nil => intro k h; simp at h
  | cons x t ih =>
    intro k h
    have e : icells (x :: t) lv = Value.int .i64 x :: Value.int .i64 (lv x) :: icells t lv := rfl
    cases k with
    | zero => rw [e]; simp
    | succ k =>
      have h2 := ih (k := k) (by simpa using h)
      rw [e, show (k + 1) * 2 = k * 2 + 2 by omega]
      simp only [List.getElem?_cons_succ, List.getD_cons_succ]
      exact h2
theorem icells_append (M T : List Nat) (lv : Nat → Nat) : icells (M ++ T) lv = icells M lv ++ icells T lv := by unfold icells; rw [List.flatMap_append]
theorem icells_congr {M : List Nat} {lv lv' : Nat → Nat} (h : ∀ b ∈ M, lv b = lv' b) : icells M lv = icells M lv' := by
  induction M with
  | nil => rfl
  | cons x t ih =>
    unfold icells at *
    rw [List.flatMap_cons, List.flatMap_cons, ih (fun b hb => h b (List.mem_cons_of_mem _ hb)), h x List.mem_cons_self]
theorem icells_one (M : List Nat) (lv : Nat → Nat) : ∀ u ∈ icells M lv, u.oneCell' = true := by
  intro u hu
  unfold icells at hu
  obtain ⟨b, _, h⟩ := List.mem_flatMap.1 hu
  simp at h
  rcases h with rfl | rfl <;> rfl

theorem Rd.chg {S : List Nat} {w w' : World} {size n : Nat} {v : Value} {xs : List Value} (h : Rd w size v n xs) (hx : Chg S w w') (hS : ∀ g, v.ownBlock = some g → g ∉ S) : Rd w' size v n xs := by
  obtain ⟨h1, a, c, rfl, h2, h3, h4, h5⟩ := h
  refine ⟨h1, a, c, rfl, h2, h3, h4, fun hn => ?_⟩
  obtain ⟨b, o, rfl, hb, hc⟩ := h5 hn
  exact ⟨b, o, rfl, Nat.lt_of_lt_of_le hb hx.size, fun j u hu => chg_cell hx (hc j u hu) (hS b rfl)⟩

structure RefAt (w : World) (p : Nat) (vL vC : Value) (caps : Nat → Nat) (M : List Nat) (lv : Nat → Nat) : Prop where
  obj : w.heap[p]? = some (.cells #[vL, vC] 91 (0, 0))
  row : Rd w 2 vL M.length (icells M lv)
  cap : RdI .i64 w vC [0, (caps 1 : Int), (caps 2 : Int), (caps 3 : Int)]
  offL : vL.ownBlock ≠ some p
  offC : vC.ownBlock ≠ some p
section
variable {w w' : World} {p : Nat} {vL vC : Value} {caps : Nat → Nat} {M : List Nat} {lv : Nat → Nat}
theorem RefAt.lt (h : RefAt w p vL vC caps M lv) : p < w.heap.size := (Array.getElem?_eq_some_iff.1 h.obj).1
theorem RefAt.ext (h : RefAt w p vL vC caps M lv) (hx : Ext w w') : RefAt w' p vL vC caps M lv :=
  ⟨(Below.block hx _ h.lt).trans h.obj, h.row.ext hx, h.cap.ext hx, h.offL, h.offC⟩
theorem RefAt.chg {S : List Nat} (h : RefAt w p vL vC caps M lv) (hx : Chg S w w') (hp : p ∉ S) (hL : ∀ g, vL.ownBlock = some g → g ∉ S) (hC : ∀ g, vC.ownBlock = some g → g ∉ S) : RefAt w' p vL vC caps M lv :=
  ⟨(hx.block _ h.lt hp).trans h.obj, h.row.chg hx hL, Rd.chg h.cap hx hC, h.offL, h.offC⟩
theorem RefAt.c0 (h : RefAt w p vL vC caps M lv) : w.cell? ⟨p, 0, none⟩ = some vL := cell_of_row w p 0 _ _ _ h.obj
theorem RefAt.c1 (h : RefAt w p vL vC caps M lv) : w.cell? ⟨p, 1, none⟩ = some vC := cell_of_row w p 1 _ _ _ h.obj
theorem RefAt.free (h : RefAt w p vL vC caps M lv) (o : Nat) : w.frozen? ⟨p, o, none⟩ = false := frozen_row h.obj o
end
/-- a slice of blocks with levels, taken apart -/
theorem rd_items {w : World} {v : Value} {M : List Nat} {lv : Nat → Nat} (h : Rd w 2 v M.length (icells M lv)) :
    ∃ a c, v = .slice a M.length c ∧ M.length ≤ c ∧ c ≤ maxLen ∧ (0 < M.length → ∃ b o, a = some ⟨b, o, none⟩ ∧ b < w.heap.size ∧ ∀ k, k < M.length → w.cell? ⟨b, o + k * 2, none⟩ = some (.int .i64 (M.getD k 0 : Nat)) ∧ w.cell? ⟨b, o + k * 2 + 1, none⟩ = some (.int .i64 (lv (M.getD k 0) : Nat))) := by
  obtain ⟨h1, a, c, rfl, h2, h3, h4, h5⟩ := h
  refine ⟨a, c, rfl, h2, h3, fun hn => ?_⟩
  obtain ⟨b, o, rfl, hb, hc⟩ := h5 hn
  refine ⟨b, o, rfl, hb, fun k hk => ?_⟩
  obtain ⟨e1, e2⟩ := icells_at (lv := lv) hk
  exact ⟨hc _ _ e1, by rw [Nat.add_assoc]; exact hc _ _ e2⟩

theorem cntU_take {M : List Nat} {lv : Nat → Nat} {l k : Nat} (hk : k < M.length) : cntU (M.take (k + 1)) lv l = cntU (M.take k) lv l + if lv (M.getD k 0) = l then 1 else 0 := by
  rw [take_getD hk]
  unfold cntU
  rw [List.countP_append]
  simp [List.countP_cons]

theorem take_at {M : List Nat} {j k : Nat} (h : j < k) : (M.take k).getD j 0 = M.getD j 0 := by
  rw [List.getD_eq_getElem?_getD, List.getElem?_take, if_pos h, List.getD_eq_getElem?_getD]
theorem IsYard.snoc {M : List Nat} {lv : Nat → Nat} {l k : Nat} {r : Int} (h : IsYard (M.take k) lv l r) (hk : k < M.length) (hne : lv (M.getD k 0) ≠ l) : IsYard (M.take (k + 1)) lv l r := by
  have hl : (M.take k).length = k := by rw [List.length_take]; omega
  have hl1 : (M.take (k + 1)).length = k + 1 := by rw [List.length_take]; omega
  rcases h with ⟨rfl, h⟩ | ⟨i, hi, rfl, h1, h2⟩
  · refine .inl ⟨rfl, ?_⟩
    intro j hj
    rw [hl1] at hj
    rw [take_at hj]
    by_cases e : j < k
    · have := h j (by omega)
      rwa [take_at e] at this
    · obtain rfl : j = k := by omega
      exact hne
  · rw [hl] at hi
    rw [take_at hi] at h1
    refine .inr ⟨i, by omega, rfl, by rw [take_at (by omega)]; exact h1, ?_⟩
    intro j hj hj2
    rw [hl1] at hj2
    rw [take_at hj2]
    by_cases e : j < k
    · have := h2 j hj (by omega)
      rwa [take_at e] at this
    · obtain rfl : j = k := by omega
      exact hne

section
variable (p : Nat) (vL vC : Value) (caps : Nat → Nat) (M : List Nat) (lv : Nat → Nat) (w : World) (h : RefAt w p vL vC caps M lv)
include h
theorem rcount (l : Nat) : Calls Try.prog 60 #[.pointer (some ⟨p, 0, none⟩), .int .i64 l] w fun e w' => e = .returned (.int .i64 (cntU M lv l)) ∧ w = w' := by
  obtain ⟨a, c, rfl, hc, hm, hs⟩ := rd_items h.row
  have HS := Lib.hid hs
  have HC := Lib.hid (fun k (hk : k < M.length) => cntU_take (lv := lv) (l := l) hk)
  have HT := Lib.hid (show M.take M.length = M from List.take_length)
  have c0 := h.c0
  unfold maxLen at hm
  obtain ⟨n, hn⟩ : ∃ n, n = M.length := ⟨_, rfl⟩
  rw [← hn] at HS HC HT c0 hc
  have hn63 : (n : Int) ≤ 9223372036854775807 := by omega
  have HLE := Lib.hid (fun k => show cntU (M.take k) lv l ≤ k by have := cntU_le (M.take k) lv l; rw [List.length_take] at this; omega)
  clear h hs hn hc hm
  go_enter Try.func60, Try.ntmps60
  go_wp2_with fail
  go_loopw [5, 6] (fun vn vi wr => ∃ k : Nat, k ≤ n ∧ vi = .int .i64 k ∧ vn = .int .i64 (cntU (M.take k) lv l) ∧ w = wr) (fun _ vi _ => n - (intOf vi).toNat)
  case atStart => exact ⟨0, by omega, rfl, by simp [cntU], rfl⟩
  case round =>
    obtain ⟨k, hk, rfl, rfl, rfl⟩ := hrel
    by_cases hlt : k < n
    · obtain ⟨b, o, rfl, hb, hcell⟩ := HS.out (by omega)
      have e1 := (hcell k hlt).2
      have hct := HC.out k hlt
      have hle := HLE.out k
      obtain ⟨y, hy⟩ : ∃ y, lv (M.getD k 0) = y := ⟨_, rfl⟩
      rw [hy] at e1 hct
      obtain ⟨q, hq⟩ : ∃ q, cntU (M.take k) lv l = q := ⟨_, rfl⟩
      rw [hq] at hct hle ⊢
      have HCT := Lib.hid hct
      clear hcell hct hy hq
      by_cases e : y = l
      · subst e
        go_wp2_with fail
        go_roundw
        case rel => exact ⟨k + 1, by omega, by go_num, by rw [HCT.out, if_pos rfl]; go_num, by trivial⟩
        case measure => simp [intOf]; omega
      · have hb : ((y : Int) == (l : Int)) = false := by rw [beq_eq_false_iff_ne]; omega
        have HE := Lib.hid e
        clear e
        go_wp2_with fail
        go_roundw
        case rel => exact ⟨k + 1, by omega, by go_num, by rw [HCT.out, if_neg HE.out]; rfl, by trivial⟩
        case measure => simp [intOf]; omega
    · obtain rfl : k = n := by omega
      go_wp2_with fail
      go_ret
      rw [HT.out]
      exact ⟨rfl, rfl⟩

theorem ryard (l : Nat) : Calls Try.prog 61 #[.pointer (some ⟨p, 0, none⟩), .int .i64 l] w fun e w' => ∃ r : Int, e = .returned (.int .i64 r) ∧ IsYard M lv l r ∧ w = w' := by
  obtain ⟨a, c, rfl, hc, hm, hs⟩ := rd_items h.row
  have HS := Lib.hid hs
  have c0 := h.c0
  unfold maxLen at hm
  obtain ⟨n, hn⟩ : ∃ n, n = M.length := ⟨_, rfl⟩
  have HN := Lib.hid hn
  rw [← hn] at HS c0 hc
  have hn63 : (n : Int) ≤ 9223372036854775807 := by omega
  clear h hs hn hc hm
  go_enter Try.func61, Try.ntmps61
  go_wp2_with fail
  go_loopw [5, 6] (fun vn vi wr => ∃ (k : Nat) (r : Int), k ≤ n ∧ vi = .int .i64 k ∧ vn = .int .i64 r ∧ IsYard (M.take k) lv l r ∧ w = wr) (fun _ vi _ => n - (intOf vi).toNat)
  case atStart => exact ⟨0, -1, by omega, rfl, rfl, .inl ⟨rfl, by intro j hj; simp at hj⟩, rfl⟩
  case round =>
    obtain ⟨k, r, hk, rfl, rfl, hyd, rfl⟩ := hrel
    have HY := Lib.hid hyd
    clear hyd
    by_cases hlt : k < n
    · obtain ⟨b, o, rfl, hb, hcell⟩ := HS.out (by omega)
      have e1 := (hcell k hlt).2
      obtain ⟨y, hy⟩ : ∃ y, lv (M.getD k 0) = y := ⟨_, rfl⟩
      rw [hy] at e1
      have HYY := Lib.hid hy
      clear hcell hy
      by_cases e : y = l
      · subst e
        go_wp2_with fail
        go_roundw
        case rel =>
          refine ⟨k + 1, k, by omega, by go_num, rfl, .inr ⟨k, ?_, rfl, ?_, ?_⟩, by trivial⟩
          · rw [List.length_take, ← HN.out]; omega
          · rw [take_at (by omega)]; exact HYY.out
          · intro j hj hj2
            rw [List.length_take] at hj2; omega
        case measure => simp [intOf]; omega
      · have hb : ((y : Int) == (l : Int)) = false := by rw [beq_eq_false_iff_ne]; omega
        have HE := Lib.hid e
        clear e
        go_wp2_with fail
        go_roundw
        case rel => exact ⟨k + 1, r, by omega, by go_num, rfl, HY.out.snoc (by rw [← HN.out]; exact hlt) (by rw [HYY.out]; exact HE.out), by trivial⟩
        case measure => simp [intOf]; omega
    · obtain rfl : k = n := by omega
      go_wp2_with fail
      go_ret
      have := HY.out
      rw [List.take_of_length_le (by rw [← HN.out]; omega)] at this
      exact ⟨r, rfl, this, rfl⟩

theorem rplace (b : Int) : Calls Try.prog 26 #[.pointer (some ⟨p, 0, none⟩), .int .i64 b] w fun e w' => ∃ r : Int, e = .returned (.int .i64 r) ∧ IsPlace M b r ∧ w = w' := by
  obtain ⟨a, c, rfl, hc, hm, hs⟩ := rd_items h.row
  have HS := Lib.hid hs
  have c0 := h.c0
  unfold maxLen at hm
  obtain ⟨n, hn⟩ : ∃ n, n = M.length := ⟨_, rfl⟩
  have HN := Lib.hid hn
  rw [← hn] at HS c0 hc
  have hn63 : (n : Int) ≤ 9223372036854775807 := by omega
  clear h hs hn hc hm
  go_enter Try.func26, Try.ntmps26
  go_wp2_with fail
  go_loopw [5] (fun vi wr => ∃ (k : Nat), k ≤ n ∧ vi = .int .i64 k ∧ (∀ j, j < k → ((M.getD j 0 : Nat) : Int) ≠ b) ∧ w = wr) (fun vi _ => n - (intOf vi).toNat)
  case atStart => exact ⟨0, by omega, rfl, by intro j hj; omega, rfl⟩
  case round =>
    obtain ⟨k, hk, rfl, hne, rfl⟩ := hrel
    have HNE := Lib.hid hne
    clear hne
    by_cases hlt : k < n
    · obtain ⟨g, o, rfl, hb, hcell⟩ := HS.out (by omega)
      have e1 := (hcell k hlt).1
      obtain ⟨y, hy⟩ : ∃ y, M.getD k 0 = y := ⟨_, rfl⟩
      rw [hy] at e1
      have HYY := Lib.hid hy
      clear hcell hy
      by_cases e : (y : Int) = b
      · subst e
        go_wp2_with fail
        go_ret
        exact ⟨k, rfl, .inr ⟨k, by rw [← HN.out]; exact hlt, rfl, by rw [HYY.out], HNE.out⟩, rfl⟩
      · have hb : ((y : Int) == b) = false := by rw [beq_eq_false_iff_ne]; omega
        have HE := Lib.hid e
        clear e
        go_wp2_with fail
        go_roundw
        case rel =>
          refine ⟨k + 1, by omega, by go_num, ?_, by trivial⟩
          intro j hj
          by_cases hj2 : j < k
          · exact HNE.out j hj2
          · obtain rfl : j = k := by omega
            rw [HYY.out]; exact HE.out
        case measure => simp [intOf]; omega
    · obtain rfl : k = n := by omega
      go_wp2_with fail
      go_ret
      exact ⟨-1, rfl, .inl ⟨rfl, by rw [← HN.out]; exact HNE.out⟩, rfl⟩
end
end Go.Proofs.Ytibcfmnkpemieaa
