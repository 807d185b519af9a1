/-
  gradineref15: New, Part, Has, All. No condition but that the cache lies in memory.
-/
import Derived.Test.YtpmfadepinmmjaaRp1
import Derived.Test.YtpmfadepinmmjaaKParts
import Derived.Test.YtpmfadepinmmjaaLruFn
namespace Go.Proofs.Ytpmfadepinmmjaa
open Go.RowKit

section
variable (w : World) (G : List Nat) (px gl : Nat) (hv : Value) (gp n t : Nat) (F : Nat → Nat → Int) (L : Nat → Bool) (c : Nat → Nat) (M : List Nat) (Ls : List (List Nat)) (h : RcAt w G px gl hv gp n t F L c M Ls)
include h
set_option maxHeartbeats 2000000 in
theorem rpart15 (m : Int) (ok : HsOk n F m) (ht : 1 ≤ t ∧ t ≤ 3) (b : Int) (hwb : (Lit.int .i64 b).wf = true) (is : Bool) (x : Nat) (hr : RngB n F b is x) (z : Nat) (hz : z = if is = true then PR F c M x (t - 1) else 0) :
    Calls Try.prog 25 #[.pointer (some ⟨px, 0, none⟩), .int .i64 b] w fun e w' => e = .returned (.int .i64 z) ∧ Ext w w' := by
  obtain ⟨a, cap, c0, c1, c2, _, _⟩ := h.cells
  have hn8 := ok.2.2
  have hh := h.hints
  have HH := Lib.hid hh
  obtain ⟨ha, hc, rfl, _⟩ := hh
  have HRG := Lib.hid (rrange (.slice ha n hc) n F L m b hwb w HH.out ok is x hr _ rfl)
  have HIR := Lib.hid h.parts
  cases is with
  | false =>
    obtain rfl : z = 0 := by rw [hz]; rfl
    simp only [Bool.false_eq_true, if_false] at HRG
    clear h HH HIR c1 c2 hr ok hz
    go_enter Try.func25, Try.ntmps25
    go_wp2_with fail
    refine HRG.out.mono ?_
    rintro e w1 ⟨rfl, hx1⟩
    go_wp2_with fail
    go_ret
    exact ⟨rfl, (by repeat' (first | (with_reducible exact Ext.refl _) | (with_reducible assumption) | (with_reducible refine Ext.alloc ?_ _) | (with_reducible refine Ext.drewN ?_ _) | (with_reducible refine Ext.drew ?_) | (with_reducible refine Ext.trans ?_ (by assumption))))⟩
  | true =>
    obtain ⟨hxn, _⟩ : x < n ∧ HIn F x b := by
      rcases hr with ⟨a, _⟩ | ⟨_, a⟩
      · cases a
      · exact a
    simp only [if_true] at HRG
    have k1 := irow_part HIR.out hxn ht
    obtain ⟨t1, t2⟩ := ht
    have hw1 : IntKind.i64.wrap (4 * (x : Int)) = 4 * (x : Int) := by rw [IntKind.wrap_i64]; omega
    have hw2 : IntKind.i64.wrap (4 * (x : Int) + (t : Nat)) = 4 * (x : Int) + (t : Nat) := by rw [IntKind.wrap_i64]; omega
    obtain ⟨j, hj⟩ : ∃ j, j = 4 * x + t - 1 := ⟨_, rfl⟩
    have hw3 : IntKind.i64.wrap (4 * (x : Int) + (t : Nat) - 1) = (j : Nat) := by rw [IntKind.wrap_i64]; omega
    have hjn : j < n * 4 := by omega
    have hji : (j : Int) < ((n * 4 : Nat) : Int) := by omega
    rw [← hj] at k1
    obtain ⟨n4, hn4⟩ : ∃ y, y = n * 4 := ⟨_, rfl⟩
    rw [← hn4] at c1 hjn hji
    obtain ⟨pv, hpv⟩ : ∃ y, y = PR F c M x (t - 1) := ⟨_, rfl⟩
    rw [← hpv] at k1
    have HZ : Hid (z = pv) := Lib.hid (by rw [hz, hpv]; rfl)
    clear h HH HIR hr ok hz hj hn4 hpv
    go_enter Try.func25, Try.ntmps25
    go_wp2_with fail
    refine HRG.out.mono ?_
    rintro e w1 ⟨rfl, hx1⟩
    replace c1 := hx1.cellv c1
    replace c2 := hx1.cellv c2
    replace k1 := hx1.cellv k1
    go_wp2_with fail
    go_quiet (fail)
    go_wp2_with fail
    go_ret
    exact ⟨ret_int (by rw [HZ.out]), hx1.trans (by repeat' (first | (with_reducible exact Ext.refl _) | (with_reducible assumption) | (with_reducible refine Ext.alloc ?_ _) | (with_reducible refine Ext.drewN ?_ _) | (with_reducible refine Ext.drew ?_) | (with_reducible refine Ext.trans ?_ (by assumption))))⟩
set_option maxHeartbeats 2000000 in
theorem rhas15 (m : Int) (ok : HsOk n F m) (b : Int) (hwb : (Lit.int .i64 b).wf = true) (is : Bool) (x : Nat) (hr : RngB n F b is x) (v : Bool) (hv' : decide (is = true ∧ b.toNat ∈ Ls.getD x []) = v) :
    Calls Try.prog 24 #[.pointer (some ⟨px, 0, none⟩), .int .i64 b] w fun e w' => e = .returned (.bool v) ∧ Ext w w' := by
  obtain ⟨a, cap, c0, _, _, c3, hgl⟩ := h.cells
  have hn8 := ok.2.2
  have hh := h.hints
  have HH := Lib.hid hh
  obtain ⟨ha, hc, rfl, _⟩ := hh
  have HRG := Lib.hid (rrange (.slice ha n hc) n F L m b hwb w HH.out ok is x hr _ rfl)
  cases is with
  | false =>
    obtain rfl : v = false := by rw [← hv']; simp
    simp only [Bool.false_eq_true, if_false] at HRG
    clear h HH hr ok hv' hgl
    go_enter Try.func24, Try.ntmps24
    go_wp2_with fail
    refine HRG.out.mono ?_
    rintro e w1 ⟨rfl, hx1⟩
    go_wp2_with fail
    go_ret
    exact ⟨rfl, (by repeat' (first | (with_reducible exact Ext.refl _) | (with_reducible assumption) | (with_reducible refine Ext.alloc ?_ _) | (with_reducible refine Ext.drewN ?_ _) | (with_reducible refine Ext.drew ?_) | (with_reducible refine Ext.trans ?_ (by assumption))))⟩
  | true =>
    obtain ⟨hxn, hin⟩ : x < n ∧ HIn F x b := by
      rcases hr with ⟨a, _⟩ | ⟨_, a⟩
      · cases a
      · exact a
    have hb0 := (hin_ok ok hxn hin).1
    obtain ⟨⟨vx, k1, hvx⟩, _⟩ := h.at hxn
    obtain rfl := hgl (by omega)
    simp only [if_true] at HRG
    obtain ⟨ax, nx, cx, rfl⟩ : ∃ a n c, vx = .slice a n c := by obtain ⟨a, c, h9, _⟩ := hvx.parts; exact ⟨a, _, c, h9⟩
    have HHA := Lib.hid (fun w' (hx : Ext w w') => has_any (.slice ax nx cx) (asInts (Ls.getD x [])) b w' (hvx.ext hx))
    have hdec : decide (b ∈ asInts (Ls.getD x [])) = v := by
      rw [← hv']
      by_cases e : b ∈ asInts (Ls.getD x [])
      · rw [decide_eq_true e, decide_eq_true ⟨rfl, (mem_asInts.1 e).2⟩]
      · rw [decide_eq_false e, decide_eq_false (fun h => e (mem_asInts.2 ⟨hb0, h.2⟩))]
    rw [hdec] at HHA
    have hxi : (x : Int) < (n : Int) := by omega
    clear h HH hr ok hv' hdec hvx hgl
    go_enter Try.func24, Try.ntmps24
    go_wp2_with fail
    refine HRG.out.mono ?_
    rintro e w1 ⟨rfl, hx1⟩
    replace c3 := hx1.cellv c3
    replace k1 := hx1.cellv k1
    go_wp2_with fail
    refine (HHA.out _ hx1).mono ?_
    rintro e w2 ⟨rfl, hx2⟩
    go_wp2_with fail
    go_ret
    exact ⟨rfl, hx1.trans (hx2.trans (by repeat' (first | (with_reducible exact Ext.refl _) | (with_reducible assumption) | (with_reducible refine Ext.alloc ?_ _) | (with_reducible refine Ext.drewN ?_ _) | (with_reducible refine Ext.drew ?_) | (with_reducible refine Ext.trans ?_ (by assumption)))))⟩
set_option maxHeartbeats 2000000 in
theorem rall15 (hn8 : n ≤ 8) (hfl : ∀ k, k ≤ n → (flatP Ls k).length ≤ 600) : Calls Try.prog 22 #[.pointer (some ⟨px, 0, none⟩)] w fun e w' => ∃ v, e = .returned v ∧ OwnI .i64 3 w.heap.size w' v (asInts (flatP Ls n)) ∧ Ext w w' := by
  obtain ⟨a, cap, _, _, _, c3, hgl⟩ := h.cells
  have H := Lib.hid h
  have HGL := Lib.hid hgl
  have HFL := Lib.hid hfl
  have hni : (n : Int) ≤ 8 := by omega
  clear h hgl hfl
  go_enter Try.func22, Try.ntmps22
  go_wp2_with fail
  go_loopw [3, 4] (fun cv ci wr => ∃ k : Nat, k ≤ n ∧ ci = .int .i64 k ∧ Hid (OwnI .i64 3 w.heap.size wr cv (asInts (flatP Ls k))) ∧ Ext w wr) (fun _ ci _ => n - (intOf ci).toNat)
  case atStart => exact ⟨0, Nat.zero_le _, rfl, Lib.hid (OwnI.nil _ _ _ _), Ext.refl _⟩
  case round =>
    obtain ⟨k, hk, rfl, HO, hx⟩ := hrel
    replace c3 := hx.cellv c3
    by_cases hlt : k < n
    · have hki : (k : Int) < (n : Int) := by omega
      obtain rfl := HGL.out (by omega)
      obtain ⟨⟨vk, k1, hvk⟩, _⟩ := H.out.at hlt
      replace k1 := hx.cellv k1
      have HVK := Lib.hid (hvk.ext hx)
      obtain ⟨ak, nk, ck, rfl⟩ : ∃ a n c, vk = .slice a n c := by obtain ⟨a, c, h9, _⟩ := hvk.parts; exact ⟨a, _, c, h9⟩
      have hfl := HFL.out (k + 1) (by omega)
      have hl2 : (asInts (flatP Ls k)).length + (asInts (Ls.getD k [])).length ≤ 600 := by
        rw [flatP, List.length_append] at hfl
        simp only [asInts, List.length_map]
        omega
      have hcat : asInts (flatP Ls (k + 1)) = asInts (flatP Ls k) ++ asInts (Ls.getD k []) := by unfold asInts; rw [flatP, List.map_append]
      obtain ⟨T, hT⟩ : ∃ T, T = Ls.getD k [] := ⟨_, rfl⟩
      rw [← hT] at HVK hl2 hcat
      have HL2 := Lib.hid hl2
      have HCAT := Lib.hid hcat
      clear hvk hfl hl2 hcat hT
      go_wp2_with (at_builtin; go_loud (refine wpList_append_ints rfl _ _ 41 rfl 3 .i64 0 8 Try.underlying41 kints_info (by decide) w hx _ _ rfl HO.out _ _ rfl HVK.out (fits_small (Nat.le_trans HL2.out (by omega))) ?_))
      intro v3 w3 ho3 hx3
      rw [← HCAT.out] at ho3
      have HO3 := Lib.hid ho3
      clear ho3
      go_wp2_with fail
      go_roundw
      case rel => exact ⟨k + 1, by omega, by go_num, HO3, hx3⟩
      case measure => simp [intOf]; omega
    · obtain rfl : k = n := by omega
      go_wp2_with fail
      go_ret
      exact ⟨_, rfl, HO.out, hx⟩
end

theorem zrc_run (w : World) : (zeroValue 81).run Try.prog w = .ok (.agg #[.slice none 0 0, .slice none 0 0, .int .i64 0, .slice none 0 0]) w := by kernel_rfl
theorem rc_of {w : World} {px gp n t g0 : Nat} {hv v : Value} {e ty : TypeId} {F : Nat → Nat → Int} {L : Nat → Bool} {c : Nat → Nat} {M : List Nat}
    (hrow : w.heap[px]? = some (.cells #[hv, .slice (some ⟨gp, 0, none⟩) (n * 4) (n * 4), .int .i64 (t : Nat), v] ty (0, 0))) (hown : w.ownsRow (px + 1) e 1 v n (List.replicate n (.slice none 0 0))) (hh : RdH w hv n F L) (hp : IRow w gp (n * 4) (fun j => (PR F c M (j / 4) (j % 4) : Nat))) (hg0 : g0 < w.heap.size) (hgp : gp < px) (hne0 : g0 ≠ px ∧ g0 ≠ gp) :
    ∃ gl, (gl = g0 ∨ px < gl) ∧ gl < w.heap.size ∧ ∀ G, gl ∈ G → (∀ f ∈ G, f = gl ∨ f ≠ px ∧ f ≠ gp) → (0 < n → ∀ g, hv.ownBlock = some g → g ∉ G) → RcAt w G px gl hv gp n t F L c M (List.replicate (n + 1) []) := by
  have hnil : ∀ r, (List.replicate (n + 1) ([] : List Nat)).getD r [] = [] := by
    intro r
    rw [List.getD_eq_getElem?_getD, List.getElem?_replicate]
    split <;> rfl
  have hpx := (Array.getElem?_eq_some_iff.1 hrow).1
  obtain ⟨hl, h2⟩ := hown
  rcases h2 with ⟨rfl, rfl⟩ | ⟨g, cap, cur, rfl, hb', hg, hn, hm, hs, ht⟩
  · refine ⟨g0, .inl rfl, hg0, fun G h1 h2 h3 => ⟨⟨none, 0, ty, hrow, Nat.le_refl _, Nat.zero_le _, fun h => absurd h (by omega)⟩, hh, h3, hp, fun hm => ?_, fun hm => ?_, h1, ⟨#[], ty, fun h => absurd h (by omega), fun r hr => absurd hr (by omega)⟩⟩⟩
    · rcases h2 _ hm with e | e
      · exact hne0.2 e.symm
      · exact e.2 rfl
    · rcases h2 _ hm with e | e
      · exact hne0.1 e.symm
      · exact e.1 rfl
  · refine ⟨g, .inr (by omega), (Array.getElem?_eq_some_iff.1 hg).1, fun G h1 h2 h3 => ⟨⟨some ⟨g, 0, none⟩, cap, ty, hrow, hn, hm, fun _ => rfl⟩, hh, h3, hp, fun hm => ?_, fun hm => ?_, h1, ⟨cur, e, fun _ => hg, fun r hr => ⟨.slice none 0 0, ?_, ?_, fun _ b hb => by cases hb⟩⟩⟩⟩
    · rcases h2 _ hm with e | e
      · omega
      · exact e.2 rfl
    · rcases h2 _ hm with e | e
      · omega
      · exact e.1 rfl
    · have : (List.replicate n (Value.slice none 0 0))[r]? = some (.slice none 0 0) := by simp [hr]
      rw [← ht, List.getElem?_take, if_pos (by omega)] at this
      simpa using this
    · rw [hnil]; exact RdI.nil _ _
end Go.Proofs.Ytpmfadepinmmjaa
