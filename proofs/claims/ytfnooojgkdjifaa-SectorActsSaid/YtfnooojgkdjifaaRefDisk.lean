/-
  What the functions of package gradineref05 do to a disk. No condition but that the bytes read.
-/
import Derived.Test.YtfnooojgkdjifaaDiskWr
namespace Go.Proofs.Ytfnooojgkdjifaa
open Go.RowKit

theorem zrdisk_run (w : World) : (zeroValue 44).run Try.prog w = .ok (.agg #[.slice none 0 0, .int .i64 0, .bool false]) w := by kernel_rfl

theorem rdisk_of {w : World} {p n : Nat} {v : Value} {e t : TypeId} (n256 : n ≤ 256) (hp : w.heap[p]? = some (.cells #[v, .int .i64 (-1), .bool false] t (0, 0))) (ho : w.ownsRow (p + 1) e 1 v n (List.replicate n (.slice none 0 0))) :
    ∃ bl, p ≤ bl ∧ bl < w.heap.size ∧ ∀ F, p ∈ F → bl ∈ F → DiskAt w F p bl ⟨-1, false, List.replicate n []⟩ := by
  have hplt : p < w.heap.size := (Array.getElem?_eq_some_iff.1 hp).1
  have hsmall : ∀ j, ((List.replicate n ([] : List Int)).getD j []).length ≤ 64 := by
    intro j
    by_cases hj : j < n <;> simp [List.getD, hj]
  obtain ⟨hl, h2⟩ := ho
  rcases h2 with ⟨rfl, rfl⟩ | ⟨g, cap, cur, rfl, hb', hg, hn, hm, hs, ht⟩
  · exact ⟨p, Nat.le_refl _, hplt, fun F h1 h2 => ⟨by simp, by simp, by simp, h1, h2, by simp, ⟨none, 0, t, hp, by simp, by simp [maxLen], by simp⟩, hsmall, ⟨#[], t, by simp, by simp⟩⟩⟩
  · refine ⟨g, by omega, (Array.getElem?_eq_some_iff.1 hg).1, fun F h1 h2 => ⟨by simpa using n256, by simp, by simp, h1, h2, fun _ => by omega, ⟨some ⟨g, 0, none⟩, cap, t, by simpa using hp, by simpa using hn, hm, fun _ => rfl⟩, hsmall, ⟨cur, e, fun _ => hg, fun i hi => ?_⟩⟩⟩
    have hi' : i < n := by simpa using hi
    refine ⟨.slice none 0 0, ?_, ?_, fun g hg => by cases hg⟩
    · have : (List.replicate n (Value.slice none 0 0))[i]? = some (.slice none 0 0) := by simp [hi']
      rw [← ht, List.getElem?_take, if_pos (by omega)] at this
      simpa using this
    · have : (List.replicate n ([] : List Int)).getD i [] = [] := by simp [List.getD, hi']
      show RdI .u8 _ _ ((List.replicate n ([] : List Int)).getD i [])
      rw [this]; exact RdI.nil _ _

set_option maxRecDepth 100000 in
set_option maxHeartbeats 1000000 in
theorem rnew_any (many : Int) (w : World) (h0 : -9223372036854775808 ≤ many) (h1 : many ≤ 9223372036854775807) :
    Calls Try.prog 22 #[.int .i64 many] w fun e w' => ∃ p bl, e = .returned (.pointer (some ⟨p, 0, none⟩)) ∧ (∀ F, p ∈ F → bl ∈ F → DiskAt w' F p bl ⟨-1, false, List.replicate (dskN many) []⟩) ∧ w.heap.size ≤ p ∧ w.heap.size ≤ bl ∧ p < w'.heap.size ∧ bl < w'.heap.size ∧ Ext w w' := by
  obtain ⟨i0, hi, hz0, hz1, hz2⟩ := info_parts row_info
  obtain ⟨n, hn⟩ : ∃ n, n = dskN many := ⟨_, rfl⟩
  have HN := Lib.hid hn
  have n256 : n ≤ 256 := by rw [hn]; unfold dskN; omega
  have hnm : ∀ k : Nat, k < n → (k : Int) < many := by rw [hn]; unfold dskN; omega
  have hnn : n < 256 → ¬ ((n : Int) < many) := by rw [hn]; unfold dskN; omega
  have HNM := Lib.hid hnm
  have HNN := Lib.hid hnn
  clear hn hnm hnn
  have hzr := zrdisk_run
  go_enter Try.func22, Try.ntmps22
  go_wp2_with fail
  obtain ⟨p, hp⟩ : ∃ p, p = w.heap.size := ⟨_, rfl⟩
  have hp0 : (w.alloc (.cells #[.slice none 0 0, .int .i64 (-1), .bool false] 44 (0, 0))).heap[p]? = some (.cells #[.slice none 0 0, .int .i64 (-1), .bool false] 44 (0, 0)) := by rw [hp]; exact heap_alloc_new w _
  have hx0 : Ext w (w.alloc (.cells #[.slice none 0 0, .int .i64 (-1), .bool false] 44 (0, 0))) := (Ext.refl w).alloc _
  generalize (w.alloc (.cells #[.slice none 0 0, .int .i64 (-1), .bool false] 44 (0, 0))) = w0 at *
  rw [← hp]
  have HP := Lib.hid hp
  clear hp hzr
  go_loopw [4] (fun ci wr => ∃ (k : Nat) (v : Value), k ≤ n ∧ ci = .int .i64 k ∧ wr.heap[p]? = some (.cells #[v, .int .i64 (-1), .bool false] 44 (0, 0)) ∧ wr.ownsRow (p + 1) 23 1 v k (List.replicate k (.slice none 0 0)) ∧ Ext w wr) (fun ci _ => n - (intOf ci).toNat)
  case atStart => exact ⟨0, _, Nat.zero_le _, rfl, hp0, World.ownsRow_nil _ _ _ _, hx0⟩
  case round =>
    obtain ⟨k, v, hk, rfl, hpr, ho, hx⟩ := hrel
    clear hp0 hx0
    have c0 := cell_of_row wr p 0 _ _ _ hpr
    have frp := frozen_row hpr 0
    simp only [List.getElem?_toArray, List.getElem?_cons_zero] at c0
    have HPR := Lib.hid hpr
    have HO := Lib.hid ho
    clear hpr
    by_cases hlt : k < n
    · have hkm := HNM.out k hlt
      have hk256 : (k : Int) < 256 := by omega
      have hpz : p + 1 ≤ wr.heap.size := cell_lt c0
      clear ho
      go_wp2_with (at_builtin; refine wpList_append_rd rfl _ _ 42 rfl (p + 1) 23 i0 (.slice none 0 0) 1 24 Try.underlying42 hi hz0 hz1 hz2 rfl (by decide) v k _ rfl (own_ext HO.out ((Ext.refl wr).alloc _)) _ 1 [.slice none 0 0] rfl (Rd.one wr _ _) (by simp [Value.oneCell']) (by unfold maxLen; omega) (by omega) (by simp; omega) ?_)
      intro v' w' ho' hg'
      have hne : some p ≠ v.ownBlock := by
        intro he
        have := (HO.out.lt p he.symm).1
        omega
      have hpr' : w'.heap[p]? = some (.cells #[v, .int .i64 (-1), .bool false] 44 (0, 0)) :=
        (hg'.block p (by simp; omega) hne).trans ((Below.heap_alloc _ _ _ (by omega)).trans HPR.out)
      have hrow' := heap_setCell_same w' p 0 _ _ v' hpr'
      have hown' := own_chg ho' (chg_one w' p 0 v') (by simp)
      have hxw : Ext w w' := (hx.alloc _).grown hg' (Ext.size (hx.alloc _)) (fun g hg => by have := (HO.out.lt g hg).1; have := HP.out; omega)
      have hxs : Ext w (w'.setCell ⟨p, 0, none⟩ v') := Ext.chg (S := [p]) hxw (chg_one _ _ _ _) (by have := HP.out; simp; omega)
      have c0' := cell_of_row w' p 0 _ _ _ hpr'
      have frp' := frozen_row hpr' 0
      simp only [List.getElem?_toArray, List.getElem?_cons_zero] at c0'
      have HROW := Lib.hid hrow'
      have HOWN := Lib.hid hown'
      rcases ho'.2 with ⟨_, h⟩ | ⟨g, cap, cur, hv', _⟩
      · omega
      · clear ho' hg' hpr' hrow' hown' hne HO HPR c0 frp
        obtain ⟨n', hn'⟩ : ∃ n', v' = .slice (some ⟨g, 0, none⟩) n' cap := ⟨_, hv'⟩
        clear hv'
        subst hn'
        go_wp2_with fail
        go_roundw
        case rel =>
          refine ⟨k + 1, _, by omega, by go_num, by simpa using HROW.out, ?_, hxs⟩
          rw [List.replicate_succ']
          exact HOWN.out
        case measure => simp [intOf]; omega
    · obtain rfl : k = n := by omega
      have hpz : p < wr.heap.size := cell_lt c0
      obtain ⟨bl, hb1, hb2, hd⟩ := rdisk_of n256 HPR.out HO.out
      have HD := Lib.hid hd
      clear hd ho
      by_cases h256 : k < 256
      · have hnn := HNN.out h256
        go_wp2_with fail
        go_ret
        refine ⟨p, rfl, bl, ?_, by rw [HP.out]; exact Nat.le_refl _, by rw [← HP.out]; exact hb1, hpz, hb2, hx⟩
        rw [← HN.out]
        exact HD.out
      · have hnn : ¬ (k : Int) < 256 := by omega
        go_wp2_with fail
        all_goals
          go_ret
          refine ⟨p, rfl, bl, ?_, by rw [HP.out]; exact Nat.le_refl _, by rw [← HP.out]; exact hb1, hpz, hb2, hx⟩
          rw [← HN.out]
          exact HD.out
end Go.Proofs.Ytfnooojgkdjifaa
