/-
  gradinelaw11.LruBound answers true. No condition.
-/
import Derived.Test.YtclajmbmchaidaaRef11
import Derived.Test.YtclajmbmchaidaaRowsIn
namespace Go.Proofs.Ytclajmbmchaidaa
open Go.RowKit

set_option maxHeartbeats 2000000 in
theorem walk_LruBound (v0 v1 : Value) (w : World) (h0 : IsInt .i64 v0) (h1 : IsRows 2 w v1) :
    Calls Try.prog 9 #[v0, v1] w fun e w' => e = .returned (.bool true) ∧ Ext w w' := by
  obtain ⟨c, rfl, _⟩ := h0
  obtain ⟨n, F, hr, _⟩ := h1
  obtain ⟨a, cp, rfl, hnc, hn63, hs⟩ := hr.parts
  have HS := Lib.hid hs
  clear hs hr hnc
  by_cases hA : (150 : Int) < (n : Int)
  · go_enter Try.func9, Try.ntmps9
    go_wp2_with fail
    refine (wakes11 _).mono ?_
    rintro e w1 ⟨rfl, hx1⟩
    go_wp2_with fail
    go_ret
    exact ⟨rfl, (by repeat' (first | (with_reducible exact Ext.refl _) | (with_reducible assumption) | (with_reducible refine Ext.alloc ?_ _) | (with_reducible refine Ext.drewN ?_ _) | (with_reducible refine Ext.drew ?_) | (with_reducible refine Ext.trans ?_ (by assumption))))⟩
  · go_enter Try.func9, Try.ntmps9
    go_wp2_with fail
    refine (wakes11 _).mono ?_
    rintro e w1 ⟨rfl, hx1⟩
    go_wp2_with fail
    refine (lru_new _ _).mono ?_
    rintro e w2 ⟨p, bs, be, rfl, h2, hp, hb1, hb2, hx2⟩
    have hS : ∀ s ∈ [bs, be], w.heap.size ≤ s := by have := hx1.size; simp; omega
    have hX : Ext w w2 := (by repeat' (first | (with_reducible exact Ext.refl _) | (with_reducible assumption) | (with_reducible refine Ext.alloc ?_ _) | (with_reducible refine Ext.drewN ?_ _) | (with_reducible refine Ext.drew ?_) | (with_reducible refine Ext.trans ?_ (by assumption))))
    obtain ⟨m1, m16⟩ := capN_pos c
    obtain ⟨m, hm⟩ : ∃ m, m = capN c := ⟨_, rfl⟩
    rw [← hm] at h2 m1 m16
    have HM := Lib.hid hm
    clear hm
    go_wp2_with fail
    go_loopw [22] (fun ci wr => ∃ (k : Nat) (L : List Nat), k ≤ n ∧ ci = .int .i64 k ∧ LruAt wr p bs be m L ∧ L.length ≤ m ∧ Ext w wr) (fun ci _ => n - (intOf ci).toNat)
    case atStart => exact ⟨0, _, Nat.zero_le _, rfl, h2, by simp, hX⟩
    case round =>
      obtain ⟨k, L, hk, rfl, h3, hLl, hx⟩ := hrel
      by_cases hlt : k < n
      · obtain ⟨b, o, rfl, hb, hcell⟩ := HS.out (by omega)
        obtain ⟨e0, e1⟩ := row2_cells hx hb hcell hlt
        generalize F k 0 = kd at *
        generalize F k 1 = bl at *
        have hki : (k : Int) < (n : Int) := by omega
        clear hcell
        go_wp2_with fail
        have hH : Held m L := ⟨h3.held.nodup, h3.held.lt, hLl⟩
        have hl4 := (hH.add bl).len
        refine (lru_add p bs be m L _ (h3.ext (by repeat' (first | (with_reducible exact Ext.refl _) | (with_reducible assumption) | (with_reducible refine Ext.alloc ?_ _) | (with_reducible refine Ext.drewN ?_ _) | (with_reducible refine Ext.drew ?_) | (with_reducible refine Ext.trans ?_ (by assumption))))) bl hLl).mono ?_
        rintro e w4 ⟨rfl, h4, hc4⟩
        have hx4 : Ext w w4 := Ext.chg (by repeat' (first | (with_reducible exact Ext.refl _) | (with_reducible assumption) | (with_reducible refine Ext.alloc ?_ _) | (with_reducible refine Ext.drewN ?_ _) | (with_reducible refine Ext.drew ?_) | (with_reducible refine Ext.trans ?_ (by assumption)))) hc4 hS
        have hG := fun (hg : addG m L bl = true) => gone_not h3.held.nodup hLl hg
        have hnd := asInts_nodup h4.held.nodup
        have hal := asInts_length (addL m L bl)
        generalize addL m L bl = L4 at *
        generalize addV m L bl = v4 at *
        generalize addE bl = e4 at *
        have hB : w4.heap.size = w4.heap.size ∧ ∀ s ∈ [bs, be], s < w4.heap.size := ⟨rfl, by have := h4.space.lt1; have := h4.space.lt2; simp; omega⟩
        have HG := Lib.hid hG
        have HN := Lib.hid hnd
        clear hG hnd hH hc4 h3 hx
        obtain ⟨g, hg⟩ : ∃ g, g = addG m L bl := ⟨_, rfl⟩
        rw [← hg] at HG ⊢
        have HGG := Lib.hid (HG.out)
        clear hg HG
        have hkk : (L4.length : Int) ≤ m := by omega
        cases g
        case' false => go_wp2_with fail
        case' true =>
          go_wp2_with fail
          refine (lru_has p bs be m L4 _ h4 v4 false (HGG.out trivial)).mono ?_
          rintro e w5 ⟨rfl, rfl⟩
          go_wp2_with fail
        all_goals
          refine (lru_all p bs be m L4 _ h4).mono ?_
          rintro e w5 ⟨v5, rfl, ho, hx5⟩
          have hro := ho.rd
          obtain ⟨a5, c5, rfl, hc5, hm5, hn5, hs5⟩ := ho.rd.parts
          have HS5 := Lib.hid hs5
          have h5 := h4.ext hx5
          have hX5 : Ext w w5 := (by repeat' (first | (with_reducible exact Ext.refl _) | (with_reducible assumption) | (with_reducible refine Ext.alloc ?_ _) | (with_reducible refine Ext.drewN ?_ _) | (with_reducible refine Ext.drew ?_) | (with_reducible refine Ext.trans ?_ (by assumption))))
          have hll := hal
          clear hs5 hn5 hx4 hx5 h4 HGG ho
          unfold maxLen at hm5
          go_wp2_with fail
          go_loopw [44] (fun ci wr => ∃ j : Nat, j ≤ L4.length ∧ ci = .int .i64 j ∧ Ext w5 wr) (fun ci _ => L4.length - (intOf ci).toNat)
          case atStart => exact ⟨0, Nat.zero_le _, rfl, Ext.refl _⟩
          case round =>
            obtain ⟨j, hj, rfl, hx⟩ := hrel
            by_cases hjl : j < L4.length
            · obtain ⟨b5, o5, rfl, hb5, hcell5⟩ := HS5.out (by intro e; rw [e] at hll; simp at hll; omega)
              have q1 := (hx.cell hb5).trans (hcell5 j (by omega))
              have q2 := nodup_take_not HN.out (k := j) (by omega)
              have q3 : (j : Int) < (asInts L4).length := by omega
              have q4 : (j : Int) ≤ c5 := by omega
              have q5 := hro.take j (by omega)
              obtain ⟨y, hy⟩ : ∃ y, y = (asInts L4).getD j 0 := ⟨_, rfl⟩
              rw [← hy] at q1 q2
              have Q2 := Lib.hid q2
              clear hcell5 q2 hy
              go_wp2_with fail
              go_region_with (go_at_call 38; refine (has_any _ ((asInts L4).take j) _ _ (q5.ext (by repeat' (first | (with_reducible exact Ext.refl _) | (with_reducible assumption) | (with_reducible refine Ext.alloc ?_ _) | (with_reducible refine Ext.drewN ?_ _) | (with_reducible refine Ext.drew ?_) | (with_reducible refine Ext.trans ?_ (by assumption)))))).mono ?_; rintro e w6 ⟨rfl, hx6⟩; rw [Q2.out])
              all_goals
                go_wp2_with fail
                go_roundw
                case rel => exact ⟨j + 1, by omega, by go_num, (by repeat' (first | (with_reducible exact Ext.refl _) | (with_reducible assumption) | (with_reducible refine Ext.alloc ?_ _) | (with_reducible refine Ext.drewN ?_ _) | (with_reducible refine Ext.drew ?_) | (with_reducible refine Ext.trans ?_ (by assumption))))⟩
                case measure => simp [intOf]; omega
            · obtain rfl : j = L4.length := by omega
              go_wp2_with fail
              refine (refcap_any c _).mono ?_
              rintro e w6 ⟨rfl, rfl⟩
              rw [← HM.out]
              go_wp2_with fail
              go_roundw
              case rel => exact ⟨k + 1, L4, by omega, by go_num, h5.ext (by repeat' (first | (with_reducible exact Ext.refl _) | (with_reducible assumption) | (with_reducible refine Ext.alloc ?_ _) | (with_reducible refine Ext.drewN ?_ _) | (with_reducible refine Ext.drew ?_) | (with_reducible refine Ext.trans ?_ (by assumption)))), hl4, (by repeat' (first | (with_reducible exact Ext.refl _) | (with_reducible assumption) | (with_reducible refine Ext.alloc ?_ _) | (with_reducible refine Ext.drewN ?_ _) | (with_reducible refine Ext.drew ?_) | (with_reducible refine Ext.trans ?_ (by assumption))))⟩
              case measure => simp [intOf]; omega
      · obtain rfl : k = n := by omega
        go_wp2_with fail
        go_ret
        exact ⟨rfl, (by repeat' (first | (with_reducible exact Ext.refl _) | (with_reducible assumption) | (with_reducible refine Ext.alloc ?_ _) | (with_reducible refine Ext.drewN ?_ _) | (with_reducible refine Ext.drew ?_) | (with_reducible refine Ext.trans ?_ (by assumption))))⟩
end Go.Proofs.Ytclajmbmchaidaa
