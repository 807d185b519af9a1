/-
  gradinelaw10.ListOne answers true. No condition.
-/
import Derived.Test.YtclajmbmchaidaaLruFn
import Derived.Test.YtclajmbmchaidaaRowsIn
import Derived.Test.YtclajmbmchaidaaMapB
namespace Go.Proofs.Ytclajmbmchaidaa
open Go.RowKit Go.Maps

/-- a row of three integers, an element of a slice, in a later world -/
theorem row3_cells {w w' : World} {b o n k : Nat} {F : Nat → Nat → Int} (hx : Ext w w') (hb : b < w.heap.size) (hc : ∀ i f, i < n → f < 3 → w.cell? ⟨b, o + (i * 3 + f), none⟩ = some (.int .i64 (F i f))) (hk : k < n) :
    w'.cell? ⟨b, o + k * 3, none⟩ = some (.int .i64 (F k 0)) ∧ w'.cell? ⟨b, o + k * 3 + 1, none⟩ = some (.int .i64 (F k 1)) ∧ w'.cell? ⟨b, o + k * 3 + 2, none⟩ = some (.int .i64 (F k 2)) :=
  ⟨(hx.cell hb).trans (hc k 0 hk (by omega)), (hx.cell hb).trans (hc k 1 hk (by omega)), (hx.cell hb).trans (hc k 2 hk (by omega))⟩

/-- the blocks of the first lists -/
def seenL (Ls : List (List Nat)) (i : Nat) : List Int := (Ls.take i).flatMap asInts
theorem seenL_succ {Ls : List (List Nat)} {i : Nat} (h : i < Ls.length) : seenL Ls (i + 1) = seenL Ls i ++ asInts (Ls.getD i []) := by
  unfold seenL
  rw [List.take_add_one, List.flatMap_append]
  simp [List.getD, h]
theorem seenL_mem {Ls : List (List Nat)} {i : Nat} {x : Int} (h : x ∈ seenL Ls i) : ∃ k, k < i ∧ k < Ls.length ∧ x ∈ asInts (Ls.getD k []) := by
  unfold seenL at h
  obtain ⟨L, hL, hx⟩ := List.mem_flatMap.1 h
  obtain ⟨k, hk, rfl⟩ := List.mem_iff_getElem.1 hL
  rw [List.length_take] at hk
  refine ⟨k, by omega, by omega, ?_⟩
  rw [List.getElem_take] at hx
  simpa [List.getD, show k < Ls.length by omega] using hx
theorem asInts_mem {L : List Nat} {b : Nat} : (b : Int) ∈ asInts L ↔ b ∈ L := by
  unfold asInts
  simp only [List.mem_map]
  constructor
  · rintro ⟨a, ha, e⟩
    have : a = b := by omega
    subst this; exact ha
  · exact fun h => ⟨b, h, rfl⟩

/-- what the space says of the block at a place of a list: where it is; it was not met -/
theorem met_at {w : World} {bs be : Nat} {Ls : List (List Nat)} (h : SpaceAt w bs be Ls) {i b : Nat} {P T : List Nat} (hi : i < Ls.length) (hL : Ls.getD i [] = P ++ b :: T) :
    ofI Ls b = ((i : Int), true) ∧ ((b : Int) ∉ seenL Ls i ++ asInts P) ∧ b < 64 := by
  obtain ⟨A, E, _, hy⟩ := h
  have hb : b ∈ Ls.getD i [] := by rw [hL]; simp
  have h64 := (hy.mem hi hb).1
  refine ⟨?_, ?_, h64⟩
  · have hof : ofL Ls b = some i := by
      unfold ofL
      rw [List.find?_range_eq_some]
      refine ⟨by simpa using hb, by simpa using hi, fun k hk => ?_⟩
      simp only [Bool.not_eq_true', decide_eq_false_iff_not]
      intro hm
      have := hy.one hi (by omega) hb hm
      omega
    unfold ofI
    rw [if_pos ⟨by omega, by omega⟩, Int.toNat_natCast, hof]
  · intro hm
    rcases List.mem_append.1 hm with hm | hm
    · obtain ⟨k, hk, hkl, hx⟩ := seenL_mem hm
      have := hy.one hi hkl hb (asInts_mem.1 hx)
      omega
    · have hn := hy.nodup i hi
      rw [hL, List.nodup_append] at hn
      exact hn.2.2 b (asInts_mem.1 hm) b (by simp) rfl

theorem keyed_int : Keyed Try.prog 3 := int_keyed Try.underlying3
theorem zero_bool (w : World) : (zeroValue 4).run Try.prog w = .ok (.bool false) w := by kernel_rfl
theorem Chg.of_grown {w w' : World} {row : Option Nat} (h : w.grownBy w' row) : Chg row.toList w w' :=
  ⟨h.os, h.tape, h.output, h.size, fun k hk hn => h.block k hk (fun e => hn (by rw [← e]; simp))⟩

set_option maxHeartbeats 2000000 in
theorem walk_ListOne (v0 : Value) (w : World) (h0 : IsRows 3 w v0) :
    Calls Try.prog 3 #[v0] w fun e w' => e = .returned (.bool true) ∧ Ext w w' := by
  obtain ⟨n, F, hr, _⟩ := h0
  obtain ⟨a, c, rfl, hnc, hn63, hs⟩ := hr.parts
  have HS := Lib.hid hs
  clear hs hr hnc
  by_cases hA : (100 : Int) < (n : Int)
  · go_enter Try.func3, Try.ntmps3
    go_wp2_with fail
    refine (wakes10 _).mono ?_
    rintro e w1 ⟨rfl, hx1⟩
    go_wp2_with fail
    go_ret
    exact ⟨rfl, (by repeat' (first | (with_reducible exact Ext.refl _) | (with_reducible assumption) | (with_reducible refine Ext.alloc ?_ _) | (with_reducible refine Ext.drewN ?_ _) | (with_reducible refine Ext.drew ?_) | (with_reducible refine Ext.trans ?_ (by assumption))))⟩
  · have hmm := @run_makeMap Try.prog
    go_enter Try.func3, Try.ntmps3
    go_wp2_with fail
    refine (wakes10 _).mono ?_
    rintro e w1 ⟨rfl, hx1⟩
    go_wp2_with fail
    refine (new_any 4 _ (by omega) (by omega)).mono ?_
    rintro e w2 ⟨bs, be, rfl, hs2, hb1, hb2, hx2⟩
    have hS : ∀ s ∈ [bs, be], w.heap.size ≤ s := by have := hx1.size; simp; omega
    have hX2 : Ext w w2 := (by repeat' (first | (with_reducible exact Ext.refl _) | (with_reducible assumption) | (with_reducible refine Ext.alloc ?_ _) | (with_reducible refine Ext.drewN ?_ _) | (with_reducible refine Ext.drew ?_) | (with_reducible refine Ext.trans ?_ (by assumption))))
    go_wp2_with fail
    go_loopw [20] (fun ci wr => ∃ (k : Nat) (Ls : List (List Nat)), k ≤ n ∧ ci = .int .i64 k ∧ SpaceAt wr bs be Ls ∧ Ls.length = 4 ∧ Ext w wr) (fun ci _ => n - (intOf ci).toNat)
    case atStart => exact ⟨0, _, Nat.zero_le _, rfl, hs2, by rw [List.length_replicate]; rfl, hX2⟩
    case round =>
      obtain ⟨k, Ls, hk, rfl, hsp, hlen, hx⟩ := hrel
      have HL := Lib.hid hlen
      clear hlen
      by_cases hlt : k < n
      · obtain ⟨b, o, rfl, hb, hcell⟩ := HS.out (by omega)
        obtain ⟨e0, e1, e2⟩ := row3_cells hx hb hcell hlt
        have hki : (k : Int) < (n : Int) := by omega
        generalize F k 0 = kd at *
        generalize F k 1 = li at *
        generalize F k 2 = bl at *
        clear hcell
        by_cases hkd : 0 ≤ kd ∧ kd ≤ 2
        · obtain ⟨k0, k2⟩ := hkd
          go_wp2_with fail
          refine (do_any bs be Ls kd li bl _ (hsp.ext (by repeat' (first | (with_reducible exact Ext.refl _) | (with_reducible assumption) | (with_reducible refine Ext.alloc ?_ _) | (with_reducible refine Ext.drewN ?_ _) | (with_reducible refine Ext.drew ?_) | (with_reducible refine Ext.trans ?_ (by assumption)))))).mono ?_
          rintro e w4 ⟨rfl, hs4, hc4⟩
          have hx4 : Ext w w4 := Ext.chg (by repeat' (first | (with_reducible exact Ext.refl _) | (with_reducible assumption) | (with_reducible refine Ext.alloc ?_ _) | (with_reducible refine Ext.drewN ?_ _) | (with_reducible refine Ext.drew ?_) | (with_reducible refine Ext.trans ?_ (by assumption)))) hc4 hS
          have hl4 : (doL Ls kd li bl).length = 4 := by rw [doL_length]; exact HL.out
          have HL4 := Lib.hid hl4
          clear hl4
          go_wp2_with fail
          go_roundw
          case rel => exact ⟨k + 1, _, by omega, by go_num, hs4, HL4.out, hx4⟩
          case measure => simp [intOf]; omega
        · by_cases k0 : 0 ≤ kd
          · have k2 : ¬ kd ≤ 2 := fun h => hkd ⟨k0, h⟩
            clear hkd
            go_wp2_with fail
            go_roundw
            case rel => exact ⟨k + 1, Ls, by omega, by go_num, hsp.ext (by repeat' (first | (with_reducible exact Ext.refl _) | (with_reducible assumption) | (with_reducible refine Ext.alloc ?_ _) | (with_reducible refine Ext.drewN ?_ _) | (with_reducible refine Ext.drew ?_) | (with_reducible refine Ext.trans ?_ (by assumption)))), HL.out, (by repeat' (first | (with_reducible exact Ext.refl _) | (with_reducible assumption) | (with_reducible refine Ext.alloc ?_ _) | (with_reducible refine Ext.drewN ?_ _) | (with_reducible refine Ext.drew ?_) | (with_reducible refine Ext.trans ?_ (by assumption))))⟩
            case measure => simp [intOf]; omega
          · have k0' : decide (0 ≤ kd) = false := by simpa using k0
            clear hkd
            go_wp2_with fail
            go_roundw
            case rel => exact ⟨k + 1, Ls, by omega, by go_num, hsp.ext (by repeat' (first | (with_reducible exact Ext.refl _) | (with_reducible assumption) | (with_reducible refine Ext.alloc ?_ _) | (with_reducible refine Ext.drewN ?_ _) | (with_reducible refine Ext.drew ?_) | (with_reducible refine Ext.trans ?_ (by assumption)))), HL.out, (by repeat' (first | (with_reducible exact Ext.refl _) | (with_reducible assumption) | (with_reducible refine Ext.alloc ?_ _) | (with_reducible refine Ext.drewN ?_ _) | (with_reducible refine Ext.drew ?_) | (with_reducible refine Ext.trans ?_ (by assumption))))⟩
            case measure => simp [intOf]; omega
      · obtain rfl : k = n := by omega
        clear HS
        go_wp2_with fail
        obtain ⟨bm, hbm⟩ : ∃ bm, bm = wr.heap.size := ⟨_, rfl⟩
        have hm0 := World.ownsMap_made wr Try.prog 3 (plainElem (H := Unit) Try.prog 4)
        have hX0 : Ext w (wr.alloc (.map #[] 0)) := hx.alloc _
        have hsp0 := hsp.ext ((Ext.refl wr).alloc (.map #[] 0))
        rw [← hbm] at hm0 ⊢
        have hne1 : bm ≠ bs := by have := hsp.lt1; omega
        have hne2 : bm ≠ be := by have := hsp.lt2; omega
        have hbw : w.heap.size ≤ bm := by have := hx.size; omega
        clear hbm
        generalize wr.alloc (.map #[] 0) = w3 at *
        clear hsp hx hx1 hx2 hX2 hs2 wr
        go_wp2_with fail
        go_loopw [37] (fun ci wr => ∃ (i : Nat) (D : DataW Unit), i ≤ 4 ∧ ci = .int .i64 i ∧ SpaceAt wr bs be Ls ∧ wr.ownsMap Try.prog 3 (plainElem Try.prog 4) bm (64 * i) D ∧ SetOf D (seenL Ls i) ∧ Ext w wr) (fun ci _ => 4 - (intOf ci).toNat)
        case atStart => exact ⟨0, .map [], by omega, rfl, hsp0, hm0, SetOf.nil, hX0⟩
        case round =>
          obtain ⟨i, D, hi, rfl, hsp, hmp, hset, hx⟩ := hrel
          have HSP := Lib.hid hsp
          have HSET := Lib.hid hset
          clear hsp hset
          by_cases hi4 : i < 4
          · have hil : i < Ls.length := by have := HL.out; omega
            have hok : okL Ls i := ⟨by omega, by omega⟩
            have hAI : allI Ls i = asInts (Ls.getD i []) := by unfold allI; rw [if_pos hok, Int.toNat_natCast]; rfl
            have hl64 : (Ls.getD i []).length ≤ 64 := by obtain ⟨A, E, _, hy⟩ := HSP.out; exact hy.len hil
            have hii : (i : Int) < 4 := by omega
            have HIL := Lib.hid hil
            clear hok hil
            go_wp2_with fail
            refine (all_any bs be Ls i _ HSP.out).mono ?_
            rintro e w4 ⟨v, rfl, ho, hx4⟩
            rw [hAI] at ho
            obtain ⟨L, hL⟩ : ∃ L, Ls.getD i [] = L := ⟨_, rfl⟩
            rw [hL] at ho hl64
            obtain ⟨va, vc, rfl, hvc, _, _, hcell⟩ := ho.rd.parts
            have hll : (asInts L).length = L.length := by simp [asInts]
            rw [hll] at hcell hvc ⊢
            have HLI := Lib.hid hL
            have HC := Lib.hid hcell
            have HOB := Lib.hid (fun g hg => (ho.lt g hg).1)
            have hbm4 := hmp.lt
            have HLL := Lib.hid hll
            have hmp4 := hmp.kept (row := none) ⟨Below.os hx4, Below.tape hx4, Below.output hx4, hx4.size, fun k hk _ => Below.block hx4 k hk⟩ (by simp)
            have hX4 : Ext w w4 := hx.trans hx4
            have HSP4 := Lib.hid (HSP.out.ext hx4)
            have hlt4 := hmp.lt
            have hLi : (L.length : Int) ≤ 64 := by omega
            obtain ⟨wo, rfl⟩ : ∃ wo : World, wo = wr := ⟨_, rfl⟩
            clear hmp hcell ho hAI hL hll hvc hX0 hsp0 hm0
            go_wp2_with fail
            go_loopw [44] (fun cj wj => ∃ (P T : List Nat) (D : DataW Unit), L = P ++ T ∧ cj = .int .i64 P.length ∧ SpaceAt wj bs be Ls ∧ wj.ownsMap Try.prog 3 (plainElem Try.prog 4) bm (64 * i + P.length) D ∧ SetOf D (seenL Ls i ++ asInts P) ∧ Chg [bm] w4 wj) (fun cj _ => L.length - (intOf cj).toNat)
            case atStart => exact ⟨[], L, D, rfl, rfl, HSP4.out, hmp4, by simpa [asInts] using HSET.out, Chg.refl _ _⟩
            case round =>
              obtain ⟨P, T, D, hPT, rfl, hsp, hmp, hset, hC⟩ := hrel
              have HPT := Lib.hid hPT
              have HSJ := Lib.hid hsp
              have HMJ := Lib.hid hmp
              have HSETJ := Lib.hid hset
              have hlen : L.length = P.length + T.length := by rw [hPT, List.length_append]
              clear hPT hsp hmp hset
              cases T with
              | nil =>
                have hpl : P.length = L.length := by simp at hlen; omega
                rw [hpl]
                have HPL := Lib.hid hpl
                clear hpl hlen
                go_wp2_with fail
                go_roundw
                case rel =>
                  refine ⟨i + 1, D, by omega, by go_num, HSJ.out, HMJ.out.mono (by have := HPL.out; omega), ?_, hX4.chg hC (by simpa using hbw)⟩
                  have e := HPT.out
                  rw [List.append_nil] at e
                  rw [seenL_succ HIL.out, HLI.out, e]
                  exact HSETJ.out
                case measure => simp [intOf]; omega
              | cons b T =>
                simp only [List.length_cons] at hlen
                have hPi : (P.length : Int) < (L.length : Int) := by omega
                have hLn : L ≠ [] := by intro e; rw [e] at hlen; simp at hlen
                obtain ⟨g, o, rfl, hg, hcc⟩ := HC.out (by simpa [asInts] using hLn)
                have x0 := chg_cell hC (hcc P.length (by omega)) (by have h9 := HOB.out g rfl; simp; omega)
                have hgb : (asInts L).getD P.length 0 = (b : Int) := by rw [HPT.out]; simp [asInts, List.getD]
                rw [hgb] at x0
                obtain ⟨m1, m2, m3⟩ := met_at HSP4.out HIL.out (by rw [HLI.out]; exact HPT.out)
                have hat := HSETJ.out.2 b
                rw [decide_eq_false m2] at hat
                have hkey := keyOf_int_mk (P := Try.prog) Try.underlying3 (q := .i64) (a := (b : Int)) (by simp [Lit.wf, IntKind.min, IntKind.max, IntKind.signed, IntKind.bits]; omega)
                have HLEN := Lib.hid hlen
                have hP64 : P.length < 64 := by omega
                have HAT := Lib.hid hat
                have HKEY := Lib.hid hkey
                have M1 := Lib.hid m1
                clear hcc hgb m1 m2 hat hkey hLn hlen
                go_wp2_with fail
                refine (of_any bs be Ls b _ HSJ.out).mono ?_
                rintro e w5 ⟨rfl, rfl⟩
                rw [M1.out]
                go_wp2_with (first | (at_lookup; refine wpList_lookup_own_bool _ rfl _ _ 30 rfl 3 4 keyed_int Try.underlying30 Try.underlying4 (zero_bool _) bm _ D rfl HMJ.out _ _ rfl HKEY.out false HAT.out ?_) | (at_mapUpdate; refine wpList_mapUpdate_own _ rfl _ _ _ 30 rfl 3 4 keyed_int Try.underlying30 _ bm _ D rfl HMJ.out (by unfold maxLen; omega) _ _ _ rfl rfl HKEY.out _ [] (plainElem_bool Try.underlying4 true) ?_; intro w6 hm6 hg6))
                have hc6 : Chg [bm] wr w6 := Chg.of_grown hg6
                have hsp6 := HSJ.out.chg hc6 (by simp; omega) (by simp; omega)
                have hset6 := HSETJ.out.put b
                have HC6 := Lib.hid hc6
                clear hg6 hc6
                go_wp2_with fail
                go_roundw
                case rel =>
                  refine ⟨P ++ [b], T, D.put (.int .i64 (b : Int)) (.lit (.bool true)), by rw [HPT.out]; simp, ?_, hsp6, ?_, ?_, hC.trans HC6.out⟩
                  · rw [List.length_append]; go_num
                  · rw [List.length_append]; exact hm6
                  · have e : asInts (P ++ [b]) = asInts P ++ [(b : Int)] := by simp [asInts]
                    rw [e, ← List.append_assoc]; exact hset6
                case measure => have := HLEN.out; simp [intOf]; omega
          · obtain rfl : i = 4 := by omega
            go_wp2_with fail
            go_ret
            exact ⟨rfl, (by repeat' (first | (with_reducible exact Ext.refl _) | (with_reducible assumption) | (with_reducible refine Ext.alloc ?_ _) | (with_reducible refine Ext.drewN ?_ _) | (with_reducible refine Ext.drew ?_) | (with_reducible refine Ext.trans ?_ (by assumption))))⟩
end Go.Proofs.Ytclajmbmchaidaa
