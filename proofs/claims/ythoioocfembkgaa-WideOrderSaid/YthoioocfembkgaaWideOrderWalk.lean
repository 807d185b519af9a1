/-
  gradinelaw02.WideOrder answers true. No condition but the form's own reach: that the list takes no more bytes than a process has.
-/
import Derived.Test.YthoioocfembkgaaWoOrd
import Derived.Test.YthoioocfembkgaaRcl
import Derived.Test.YthoioocfembkgaaMapB
import Derived.Test.YthoioocfembkgaaGuard
import Derived.Deep.CutBlock
namespace Go.Proofs.Ythoioocfembkgaa
open Go.RowKit Go.Maps

/-- fractions, as they came in -/
def IsFracs (w : World) (v : Value) : Prop := ∃ n F, RdR 2 w v n F ∧ n ≤ 8796093022208
theorem fr_info : (Try.prog.info? 29).map (fun i => (i.zero, i.size, i.bytes)) = some (some (.agg #[.int .i64 0, .int .i64 0]), 2, 16) := by kernel_rfl
/-- the tops and the bottoms, with 1 behind the end -/
def botF (F : Nat → Nat → Int) (n : Nat) : Nat → Int := fun i => if i < n ∧ 0 < F i 1 then F i 1 else 1
theorem botF_pos (F : Nat → Nat → Int) (n i : Nat) : 0 < botF F n i := by unfold botF; split <;> omega
theorem botF_at {F : Nat → Nat → Int} {n i : Nat} (hi : i < n) (h : rightB (F i 0) (F i 1) = true) : botF F n i = F i 1 := by
  unfold botF; rw [if_pos ⟨hi, (right_of h).2.2.1⟩]
theorem rdf_of {w : World} {v : Value} {n : Nat} {F : Nat → Nat → Int} (h : RdR 2 w v n F) : RdF w v n (fun i => F i 0) (fun i => F i 1) := by
  obtain ⟨a, c, rfl, h1, h2, h3, h4⟩ := h
  exact ⟨a, c, rfl, h1, h2, fun h0 => by
    obtain ⟨b, o, rfl, hb, hc⟩ := h4 h0
    exact ⟨b, o, rfl, hb, fun i hi => ⟨hc i 0 hi (by omega), hc i 1 hi (by omega)⟩⟩⟩
theorem RdF.congr {w : World} {v : Value} {n : Nat} {T B B' : Nat → Int} (h : RdF w v n T B) (he : ∀ i, i < n → B i = B' i) : RdF w v n T B' := by
  obtain ⟨a, c, rfl, h1, h2, h4⟩ := h
  exact ⟨a, c, rfl, h1, h2, fun h0 => by
    obtain ⟨b, o, rfl, hb, hc⟩ := h4 h0
    exact ⟨b, o, rfl, hb, fun i hi => ⟨(hc i hi).1, by rw [← he i hi]; exact (hc i hi).2⟩⟩⟩
theorem keyed_int : Keyed Try.prog 3 := int_keyed Try.underlying3
theorem zero_bool (w : World) : (zeroValue 4).run Try.prog w = .ok (.bool false) w := by kernel_rfl
theorem Chg.of_grown {w w' : World} {row : Option Nat} (h : w.grownBy w' row) : Chg row.toList w w' :=
  ⟨h.os, h.tape, h.output, h.size, fun k hk hn => h.block k hk (fun e => hn (by rw [← e]; simp))⟩

theorem least_bad {p : Nat → Bool} : ∀ n, (∀ i, i < n → p i = true) ∨ ∃ i, i < n ∧ p i = false ∧ ∀ j, j < i → p j = true
  | 0 => .inl (fun i hi => absurd hi (Nat.not_lt_zero _))
  | n + 1 => by
    rcases least_bad n with h | ⟨i, h1, h2, h3⟩
    · cases hp : p n with
      | true => exact .inl (fun i hi => by
          by_cases e : i = n
          · rw [e]; exact hp
          · exact h i (by omega))
      | false => exact .inr ⟨n, Nat.lt_succ_self n, hp, h⟩
    · exact .inr ⟨i, by omega, h2, h3⟩
theorem srt_cmp {T B : Nat → Int} {x y : Nat} (h : bf T B x y) : cmpF (T x) (B x) (T y) (B y) = 1 ∨ (cmpF (T x) (B x) (T y) (B y) = 0 ∧ x < y) := by
  unfold bf dl at h
  unfold cmpF
  rcases h with h | ⟨h1, h2⟩
  · rw [if_neg (by omega), if_pos h]; exact .inl rfl
  · rw [if_neg (by omega)]
    by_cases e : T y * B x < T x * B y
    · rw [if_pos e]; exact .inl rfl
    · rw [if_neg e]; exact .inr ⟨rfl, h2⟩
theorem wo_cell {S : List Nat} {w w' : World} (h : Chg S w w') {b o : Nat} {u : Value} (hc : w.cell? ⟨b, o, none⟩ = some u) (hS : b ∉ S) : w'.cell? ⟨b, o, none⟩ = some u :=
  (World.cell?_of_block (h.block b (cell_lt hc) hS)).trans hc
theorem bf_irr {T B : Nat → Int} {x : Nat} (h : bf T B x x) : False := bf_not h h
/-- the places that were met -/
def metF (Z : Nat → Nat) (k : Nat) : List Int := plz (rngF k Z)
theorem metF_succ (Z : Nat → Nat) (k : Nat) : metF Z (k + 1) = metF Z k ++ [(Z k : Int)] := by
  unfold metF rngF plz; rw [List.range_succ, List.map_append, List.map_append]; rfl
theorem metF_not {T B : Nat → Int} {Z : Nat → Nat} {n k : Nat} (h : SrtF T B Z 0 n) (hk : k < n) : (Z k : Int) ∉ metF Z k := by
  intro hm
  unfold metF rngF plz at hm
  simp only [List.map_map, List.mem_map, List.mem_range, Function.comp_apply] at hm
  obtain ⟨j, hj, e⟩ := hm
  have e2 : Z j = Z k := by omega
  have := h j k (Nat.zero_le _) hj hk
  rw [e2] at this
  exact bf_irr this

set_option maxRecDepth 100000 in
set_option maxHeartbeats 8000000 in
theorem walk_WideOrder (v0 : Value) (w : World) (h0 : IsFracs w v0) :
    Calls Try.prog 3 #[v0] w fun e w' => e = .returned (.bool true) ∧ Ext w w' := by
  obtain ⟨n, F, hr, hn⟩ := h0
  have HR := Lib.hid hr
  obtain ⟨a, c, rfl, hnc, hcm, _, hs⟩ := hr
  have HS := Lib.hid hs
  have hn1 : (n : Int) ≤ 8796093022208 := by omega
  have hn0 : (0 : Int) ≤ (n : Int) := by omega
  clear hs
  by_cases hmid : 100 < n ∧ n ≤ 1000
  · have h1 : (100 : Int) < (n : Int) := by omega
    have h2 : (n : Int) ≤ 1000 := by omega
    clear hmid hnc hcm hn
    go_enter Try.func3, Try.ntmps3
    go_wp2_with fail
    refine (wakes02 _).mono ?_
    rintro e w1 ⟨rfl, hx1⟩
    go_wp2_with fail
    go_ret
    exact ⟨rfl, (by repeat' (first | (with_reducible exact Ext.refl _) | (with_reducible assumption) | (with_reducible refine Ext.alloc ?_ _) | (with_reducible refine Ext.drewN ?_ _) | (with_reducible refine Ext.drew ?_) | (with_reducible refine Ext.trans ?_ (by assumption))))⟩
  have HMID := Lib.hid hmid
  have HNB := Lib.hid hn
  clear hmid hnc hcm hn
  have hmm := @run_makeMap Try.prog
  go_enter Try.func3, Try.ntmps3
  go_wp2_with fail
  refine (wakes02 _).mono ?_
  rintro e w1 ⟨rfl, hx1⟩
  go_upto_region 3 with fail
  go_cut [21] from 14 to 21 (fun q wx => q = .bool false ∧ wx = w1)
  case first =>
    by_cases hle : n ≤ 100
    · have h1 : ¬ (100 : Int) < (n : Int) := by omega
      clear hle
      go_wp2_with fail
      go_meet
      exact ⟨rfl, rfl⟩
    · have h1 : (100 : Int) < (n : Int) := by omega
      have h2 : ¬ (n : Int) ≤ 1000 := by have := HMID.out; omega
      clear hle
      go_wp2_with fail
      go_meet
      exact ⟨rfl, rfl⟩
  case rest =>
  obtain ⟨rfl, hwc⟩ := hcut
  obtain rfl := hwc.symm
  obtain ⟨i0, hi, hz0, hz1, hz2⟩ := info_parts fr_info
  have HRV := Lib.hid ((HR.out.ext hx1).ext ((Ext.refl w1).alloc (.cells #[] 29)))
  go_wp2_with (at_builtin; refine wpList_append_rd rfl _ _ 22 rfl w1.heap.size 29 i0 (.agg #[.int .i64 0, .int .i64 0]) 2 16 Try.underlying22 hi hz0 hz1 hz2 rfl (by decide) _ 0 [] rfl (own_empty _ 2 (Nat.le_refl _)) _ n (rcl 2 (fun i f => .int .i64 (F i f)) n) rfl (RdV.rd (by decide) HRV.out) (fun u hu => by obtain ⟨i, f, _, _, rfl⟩ := rcl_mem n u hu; rfl) (by have := HNB.out; unfold maxLen; omega) (by have := HNB.out; omega) (by simp) ?_)
  intro vo w4 hown hg
  have hx4 : Ext w1 w4 := Below.grown ((Ext.refl _).alloc _) hg (by simp) (fun g hg => by cases hg; exact Nat.le_refl _)
  have hor : RdR 2 w4 vo n F := RdV.of_rd (Rd.of_own hown)
  have HOR := Lib.hid hor
  obtain ⟨ao, co, rfl, hoc, hom, _, hos⟩ := hor
  have HOS := Lib.hid hos
  have HX1 := Lib.hid hx1
  have HX4 := Lib.hid (hx1.trans hx4)
  clear hown hg hx4 hos hoc hom HRV hi hz0 hz1 hz2 hx1
  rcases least_bad (p := fun i => rightB (F i 0) (F i 1)) n with hall | ⟨k0, hk0, hbad, hgood⟩
  · have OK := Lib.hid hall
    by_cases hbig : 1000 < n
    · have hO := Lib.hid (fun w' (hx : Ext w4 w') => wo_order_many (.slice ao n co) n (fun i => F i 0) (fun i => F i 1) w' ((rdf_of HOR.out).ext hx) hall hbig)
      have hbi : (1000 : Int) < (n : Int) := by omega
      clear hall hbig
      go_wp2_with fail
      refine (hO.out _ (by repeat' (first | (with_reducible exact Ext.refl _) | (with_reducible assumption) | (with_reducible refine Ext.alloc ?_ _) | (with_reducible refine Ext.drewN ?_ _) | (with_reducible refine Ext.drew ?_) | (with_reducible refine Ext.trans ?_ (by assumption))))).mono ?_
      rintro e w5 ⟨rfl, hx5⟩
      have hX5 : Ext w w5 := HX4.out.trans hx5
      have HX5 := Lib.hid hX5
      have HX45 := Lib.hid hx5
      clear hX5 hx5
      go_wp2_with fail
      go_loopw [32] (fun ci wr => ∃ i : Nat, i ≤ n ∧ ci = .int .i64 i ∧ Ext w5 wr) (fun ci _ => n - (intOf ci).toNat)
      case atStart => exact ⟨0, Nat.zero_le _, rfl, Ext.refl _⟩
      case round =>
        obtain ⟨i, hiM, rfl, hx⟩ := hrel
        have HIM := Lib.hid hiM
        clear hiM
        by_cases hlt : i < n
        · have hii : (i : Int) < (n : Int) := by omega
          have hi0 : (0 : Int) ≤ (i : Int) := by omega
          obtain ⟨b, o, rfl, hb, hc⟩ := HS.out (by omega)
          obtain ⟨bo, oo, rfl, hbo, hco⟩ := HOS.out (by omega)
          have x0 := (HX5.out.trans hx).cellv (hc i 0 hlt (by omega))
          have x1 := (HX5.out.trans hx).cellv (hc i 1 hlt (by omega))
          have y0 := (HX45.out.trans hx).cellv (hco i 0 hlt (by omega))
          have y1 := (HX45.out.trans hx).cellv (hco i 1 hlt (by omega))
          simp only [← Nat.add_assoc, Nat.add_zero] at x0 x1 y0 y1
          obtain ⟨t, ht⟩ : ∃ t, t = F i 0 := ⟨_, rfl⟩
          obtain ⟨d, hd⟩ : ∃ d, d = F i 1 := ⟨_, rfl⟩
          have hok : i < n := hlt
          rcases (show True ∨ False from .inl trivial) with _ | hF
          · have HRT := Lib.hid (fun w' => refright_is t d w' true (by rw [ht, hd]; exact OK.out i hok))
            have HI1 := Lib.hid (show i + 1 ≤ n by omega)
            rw [← ht] at x0 y0
            rw [← hd] at x1 y1
            have HLT := Lib.hid hlt
            have y0a := cell_old (.cells #[.int .i64 t, .int .i64 d] 29) y0
            have y1a := cell_old (.cells #[.int .i64 t, .int .i64 d] 29) y1
            have z0a := cell_new wr #[.int .i64 t, .int .i64 d] 29 (0, 0) (j := 0) rfl
            have z1a := cell_new wr #[.int .i64 t, .int .i64 d] 29 (0, 0) (j := 1) rfl
            clear hc hco ht hd hok hlt
            go_upto_region 10 with fail
            go_quiet (fail)
            go_wp2_with fail
            refine (HRT.out _).mono ?_
            rintro e w6 ⟨rfl, rfl⟩
            go_wp2_with fail
            go_roundw
            case rel => exact ⟨i + 1, HI1.out, by go_num, (by repeat' (first | (with_reducible exact Ext.refl _) | (with_reducible assumption) | (with_reducible refine Ext.alloc ?_ _) | (with_reducible refine Ext.drewN ?_ _) | (with_reducible refine Ext.drew ?_) | (with_reducible refine Ext.trans ?_ (by assumption))))⟩
            case measure => have := HLT.out; simp [intOf]; omega
          · exact hF.elim
        · go_wp2_with fail
          go_ret
          exact ⟨rfl, HX5.out.trans hx⟩
    · have hO := Lib.hid (fun w' (hx : Ext w4 w') => wo_order (.slice ao n co) n (fun i => F i 0) (botF F n) w' (((rdf_of HOR.out).congr (fun i hi => (botF_at hi (hall i hi)).symm)).ext hx) (fun i hi => by rw [botF_at hi (hall i hi)]; exact hall i hi) (botF_pos F n) (by omega))
      have hbi : ¬ (1000 : Int) < (n : Int) := by omega
      have HSM := Lib.hid (show n ≤ 100 by have := HMID.out; omega)
      clear hall hbig
      go_wp2_with fail
      refine (hO.out _ (by repeat' (first | (with_reducible exact Ext.refl _) | (with_reducible assumption) | (with_reducible refine Ext.alloc ?_ _) | (with_reducible refine Ext.drewN ?_ _) | (with_reducible refine Ext.drew ?_) | (with_reducible refine Ext.trans ?_ (by assumption))))).mono ?_
      rintro e w5 ⟨v', Z, rfl, hsrt, hzn, hrd, hx5⟩
      obtain ⟨av, cv, rfl, hvc, hvm, _, hvs⟩ := hrd.parts
      have hlz : (plz (rngF n Z)).length = n := by rw [plz_len, rngF_len]
      rw [hlz] at hvc hvs ⊢
      have HVS : Hid (∀ k, k < n → ∃ g o, av = some ⟨g, o, none⟩ ∧ g < w5.heap.size ∧ ∀ j, j < n → w5.cell? ⟨g, o + j, none⟩ = some (.int .i64 (Z j : Nat))) := Lib.hid (fun k hk => by
        obtain ⟨g, o, e, hg, hc⟩ := hvs (by intro e; rw [e] at hlz; simp at hlz; omega)
        refine ⟨g, o, e, hg, fun j hj => ?_⟩
        rw [hc j hj, plz_at, rngF_at n Z hj])
      have HSRT := Lib.hid hsrt
      have HZN := Lib.hid hzn
      clear hsrt hzn hrd hvc hvm hvs hlz
      have hX5 : Ext w w5 := HX4.out.trans hx5
      have HX5 := Lib.hid hX5
      have HX45 := Lib.hid hx5
      clear hX5 hx5
      go_wp2_with fail
      go_loopw [32] (fun ci wr => ∃ i : Nat, i ≤ n ∧ ci = .int .i64 i ∧ Ext w5 wr) (fun ci _ => n - (intOf ci).toNat)
      case atStart => exact ⟨0, Nat.zero_le _, rfl, Ext.refl _⟩
      case round =>
        obtain ⟨i, hiM, rfl, hx⟩ := hrel
        have HIM := Lib.hid hiM
        clear hiM
        by_cases hlt : i < n
        · have hii : (i : Int) < (n : Int) := by omega
          have hi0 : (0 : Int) ≤ (i : Int) := by omega
          obtain ⟨b, o, rfl, hb, hc⟩ := HS.out (by omega)
          obtain ⟨bo, oo, rfl, hbo, hco⟩ := HOS.out (by omega)
          have x0 := (HX5.out.trans hx).cellv (hc i 0 hlt (by omega))
          have x1 := (HX5.out.trans hx).cellv (hc i 1 hlt (by omega))
          have y0 := (HX45.out.trans hx).cellv (hco i 0 hlt (by omega))
          have y1 := (HX45.out.trans hx).cellv (hco i 1 hlt (by omega))
          simp only [← Nat.add_assoc, Nat.add_zero] at x0 x1 y0 y1
          obtain ⟨t, ht⟩ : ∃ t, t = F i 0 := ⟨_, rfl⟩
          obtain ⟨d, hd⟩ : ∃ d, d = F i 1 := ⟨_, rfl⟩
          have hok : i < n := hlt
          rcases (show True ∨ False from .inl trivial) with _ | hF
          · have HRT := Lib.hid (fun w' => refright_is t d w' true (by rw [ht, hd]; exact OK.out i hok))
            have HI1 := Lib.hid (show i + 1 ≤ n by omega)
            rw [← ht] at x0 y0
            rw [← hd] at x1 y1
            have HLT := Lib.hid hlt
            have y0a := cell_old (.cells #[.int .i64 t, .int .i64 d] 29) y0
            have y1a := cell_old (.cells #[.int .i64 t, .int .i64 d] 29) y1
            have z0a := cell_new wr #[.int .i64 t, .int .i64 d] 29 (0, 0) (j := 0) rfl
            have z1a := cell_new wr #[.int .i64 t, .int .i64 d] 29 (0, 0) (j := 1) rfl
            clear hc hco ht hd hok hlt
            go_upto_region 10 with fail
            go_quiet (fail)
            go_wp2_with fail
            refine (HRT.out _).mono ?_
            rintro e w6 ⟨rfl, rfl⟩
            go_wp2_with fail
            go_roundw
            case rel => exact ⟨i + 1, HI1.out, by go_num, (by repeat' (first | (with_reducible exact Ext.refl _) | (with_reducible assumption) | (with_reducible refine Ext.alloc ?_ _) | (with_reducible refine Ext.drewN ?_ _) | (with_reducible refine Ext.drew ?_) | (with_reducible refine Ext.trans ?_ (by assumption))))⟩
            case measure => have := HLT.out; simp [intOf]; omega
          · exact hF.elim
        · go_wp2_with fail
          obtain ⟨bm, hbm⟩ : ∃ bm, bm = wr.heap.size := ⟨_, rfl⟩
          have hm0 := World.ownsMap_made wr Try.prog 3 (plainElem (H := Unit) Try.prog 4)
          have hX0 : Ext w5 (wr.alloc (.map #[] 0)) := hx.alloc _
          rw [← hbm] at hm0 ⊢
          have HB5 := Lib.hid (show w5.heap.size ≤ bm by have := hx.size; omega)
          clear hbm
          generalize wr.alloc (.map #[] 0) = w3 at *
          clear hx hlt wr
          have HX53 := Lib.hid hX0
          clear hX0
          go_wp2_with fail
          go_loopw [70] (fun ci wr => ∃ (k : Nat) (D : DataW Unit), k ≤ n ∧ ci = .int .i64 k ∧ wr.ownsMap Try.prog 3 (plainElem Try.prog 4) bm k D ∧ SetOf D (metF Z k) ∧ Chg [bm] w3 wr) (fun ci _ => n - (intOf ci).toNat)
          case atStart => exact ⟨0, .map [], Nat.zero_le _, rfl, hm0, SetOf.nil, Chg.refl _ _⟩
          case round =>
            clear hm0
            obtain ⟨k, D, hk, rfl, hmp, hset, hC⟩ := hrel
            have HMP := Lib.hid hmp
            have HSET := Lib.hid hset
            have HC := Lib.hid hC
            clear hmp hset hC
            by_cases hlt : k < n
            · obtain ⟨g, og, rfl, hg, hcv⟩ := HVS.out k hlt
              obtain ⟨b, o, rfl, hb, hc⟩ := HS.out (by omega)
              have hgm : g ∉ [bm] := by have := HB5.out; simp; omega
              have hbm : b ∉ [bm] := by have := HB5.out; have := HX5.out.size; simp; omega
              have cellR : ∀ {b o : Nat} {u : Value}, w5.cell? ⟨b, o, none⟩ = some u → b ∉ [bm] → wr.cell? ⟨b, o, none⟩ = some u := fun hc hn => (World.cell?_of_block (HC.out.block _ (cell_lt (HX53.out.cellv hc)) hn)).trans (HX53.out.cellv hc)
              have x0 := cellR (hcv k hlt) hgm
              have hki : (k : Int) < (n : Int) := by omega
              have hk0 : (0 : Int) ≤ (k : Int) := by omega
              have hp1 := HZN.out k hlt
              have hpi : (Z k : Int) < (n : Int) := by omega
              have hp0 : (0 : Int) ≤ (Z k : Int) := by omega
              have hpn : ¬ n ≤ Z k := by omega
              have hat := HSET.out.2 (Z k : Int)
              rw [decide_eq_false (metF_not HSRT.out hlt)] at hat
              have hkey := keyOf_int_mk (P := Try.prog) Try.underlying3 (q := .i64) (a := (Z k : Int)) (by have := HSM.out; simp [Lit.wf, IntKind.min, IntKind.max, IntKind.signed, IntKind.bits]; omega)
              have HAT := Lib.hid hat
              have HKEY := Lib.hid hkey
              have hsp : SetOf (D.put (.int .i64 (Z k : Int)) (.lit (.bool true))) (metF Z (k + 1)) := by rw [metF_succ]; exact HSET.out.put _
              have HSP := Lib.hid hsp
              have px0 := cellR (HX5.out.cellv (hc (Z k) 0 hp1 (by omega))) hbm
              have px1 := cellR (HX5.out.cellv (hc (Z k) 1 hp1 (by omega))) hbm
              simp only [← Nat.add_assoc, Nat.add_zero] at px0 px1
              cases k with
              | zero =>
                obtain ⟨p, hp⟩ : ∃ p, p = Z 0 := ⟨_, rfl⟩
                rw [Nat.add_zero] at x0
                rw [← hp] at x0 hpi hp0 hpn HAT HKEY HSP px0 px1
                clear hp1 hat hkey hp hcv hc cellR hsp px0 px1
                go_wp2_with (first | (at_lookup; refine wpList_unguard rfl ?_; refine wpList_lookup_own_bool _ rfl _ _ 31 rfl 3 4 keyed_int Try.underlying31 Try.underlying4 (zero_bool _) bm _ D rfl HMP.out _ _ rfl HKEY.out false HAT.out ?_) | (at_mapUpdate; refine wpList_mapUpdate_own _ rfl _ _ _ 31 rfl 3 4 keyed_int Try.underlying31 _ bm _ D rfl HMP.out (by unfold maxLen; omega) _ _ _ rfl rfl HKEY.out _ [] (plainElem_bool Try.underlying4 true) ?_; intro w6 hm6 hg6))
                have HC6 := Lib.hid (Chg.of_grown hg6)
                have HM6 := Lib.hid hm6
                clear hg6 hm6
                have HKN := Lib.hid (show 0 + 1 ≤ n by omega)
                go_wp2_with fail
                go_roundw
                case rel => exact ⟨0 + 1, _, HKN.out, by go_num, HM6.out, HSP.out, HC.out.trans HC6.out⟩
                case measure => have := HKN.out; simp [intOf]; omega
              | succ j =>
                have hq1 := HZN.out j (by omega)
                have hqi : (Z j : Int) < (n : Int) := by omega
                have hq0 : (0 : Int) ≤ (Z j : Int) := by omega
                have y0 := cellR (hcv j (by omega)) hgm
                have hji : (j : Int) < (n : Int) := by omega
                have hj0 : (0 : Int) ≤ (j : Int) := by omega
                have hne : ¬ (j : Int) + 1 = 0 := by omega
                have hneb : ((j : Int) + 1 == 0) = false := by rw [beq_eq_false_iff_ne]; omega
                have hw1 : IntKind.i64.wrap ((j : Int) + 1 - 1) = (j : Int) := by have := HSM.out; rw [IntKind.wrap_i64]; omega
                have qx0 := cellR (HX5.out.cellv (hc (Z j) 0 hq1 (by omega))) hbm
                have qx1 := cellR (HX5.out.cellv (hc (Z j) 1 hq1 (by omega))) hbm
                simp only [← Nat.add_assoc, Nat.add_zero] at qx0 qx1
                have hcm := srt_cmp (HSRT.out j (j + 1) (Nat.zero_le _) (Nat.lt_succ_self j) hlt)
                rw [botF_at hq1 (OK.out _ hq1), botF_at hp1 (OK.out _ hp1)] at hcm
                obtain ⟨t1, ht1⟩ : ∃ t, t = F (Z j) 0 := ⟨_, rfl⟩
                obtain ⟨d1, hd1⟩ : ∃ t, t = F (Z j) 1 := ⟨_, rfl⟩
                obtain ⟨t2, ht2⟩ : ∃ t, t = F (Z (j + 1)) 0 := ⟨_, rfl⟩
                obtain ⟨d2, hd2⟩ : ∃ t, t = F (Z (j + 1)) 1 := ⟨_, rfl⟩
                rw [← ht1] at qx0
                rw [← hd1] at qx1
                rw [← ht2] at px0
                rw [← hd2] at px1
                obtain ⟨p, hp⟩ : ∃ p, p = Z (j + 1) := ⟨_, rfl⟩
                obtain ⟨q, hq⟩ : ∃ q, q = Z j := ⟨_, rfl⟩
                have HKN := Lib.hid (show j + 1 + 1 ≤ n by omega)
                have hlq : (Z j < Z (j + 1)) ↔ q < p := by rw [hp, hq]
                rw [← hp] at x0 hpi hp0 hpn HAT HKEY HSP px0 px1
                rw [← hq] at y0 hqi hq0 qx0 qx1
                rcases hcm with hcm | ⟨hcm, hlt2⟩
                · clear hlq
                  have HCM : Hid (∀ w', Calls Try.prog 7 #[.int .i64 t1, .int .i64 d1, .int .i64 t2, .int .i64 d2] w' fun e w'' => e = .returned (.int .i64 1) ∧ w' = w'') := Lib.hid (fun w' => by rw [ht1, hd1, ht2, hd2]; have := refcompare_in (F (Z j) 0) (F (Z j) 1) (F (Z (j + 1)) 0) (F (Z (j + 1)) 1) w' (OK.out _ hq1) (OK.out _ hp1); rw [hcm] at this; exact this)
                  clear ht1 hd1 ht2 hd2 hcm hp1 hq1 hp hq hcv hc cellR hsp hat hkey
                  go_wp2_with (first | (at_lookup; refine wpList_unguard rfl ?_; refine wpList_lookup_own_bool _ rfl _ _ 31 rfl 3 4 keyed_int Try.underlying31 Try.underlying4 (zero_bool _) bm _ D rfl HMP.out _ _ rfl HKEY.out false HAT.out ?_) | (at_mapUpdate; refine wpList_mapUpdate_own _ rfl _ _ _ 31 rfl 3 4 keyed_int Try.underlying31 _ bm _ D rfl HMP.out (by unfold maxLen; omega) _ _ _ rfl rfl HKEY.out _ [] (plainElem_bool Try.underlying4 true) ?_; intro w6 hm6 hg6))
                  have hc6 := Chg.of_grown hg6
                  have HC6 := Lib.hid hc6
                  have HM6 := Lib.hid hm6
                  have x0 := wo_cell hc6 x0 (by simpa using hgm)
                  have y0 := wo_cell hc6 y0 (by simpa using hgm)
                  have px0 := wo_cell hc6 px0 (by simpa using hbm)
                  have px1 := wo_cell hc6 px1 (by simpa using hbm)
                  have qx0 := wo_cell hc6 qx0 (by simpa using hbm)
                  have qx1 := wo_cell hc6 qx1 (by simpa using hbm)
                  clear hg6 hc6 hm6
                  go_upto_region 25 with fail
                  go_quiet ((go_at_call 7; exact Calls.quiet_of_same (v := .int .i64 1) ((HCM.out _).mono fun e w' h => ⟨h.1, h.2.symm⟩)))
                  go_wp2_with fail
                  go_roundw
                  case rel => exact ⟨j + 1 + 1, _, HKN.out, by go_num, HM6.out.kept (row := none) ⟨rfl, rfl, rfl, Nat.le_refl _, fun _ _ _ => rfl⟩ (by simp), HSP.out, HC.out.trans (HC6.out.ext (by repeat' (first | (with_reducible exact Ext.refl _) | (with_reducible assumption) | (with_reducible refine Ext.alloc ?_ _) | (with_reducible refine Ext.drewN ?_ _) | (with_reducible refine Ext.drew ?_) | (with_reducible refine Ext.trans ?_ (by assumption)))))⟩
                  case measure => have := HKN.out; simp [intOf]; omega
                · have hpq : (q : Int) < (p : Int) := by have := hlq.1 hlt2; omega
                  clear hlq hlt2
                  have HCM : Hid (∀ w', Calls Try.prog 7 #[.int .i64 t1, .int .i64 d1, .int .i64 t2, .int .i64 d2] w' fun e w'' => e = .returned (.int .i64 0) ∧ w' = w'') := Lib.hid (fun w' => by rw [ht1, hd1, ht2, hd2]; have := refcompare_in (F (Z j) 0) (F (Z j) 1) (F (Z (j + 1)) 0) (F (Z (j + 1)) 1) w' (OK.out _ hq1) (OK.out _ hp1); rw [hcm] at this; exact this)
                  clear ht1 hd1 ht2 hd2 hcm hp1 hq1 hp hq hcv hc cellR hsp hat hkey
                  go_wp2_with (first | (at_lookup; refine wpList_unguard rfl ?_; refine wpList_lookup_own_bool _ rfl _ _ 31 rfl 3 4 keyed_int Try.underlying31 Try.underlying4 (zero_bool _) bm _ D rfl HMP.out _ _ rfl HKEY.out false HAT.out ?_) | (at_mapUpdate; refine wpList_mapUpdate_own _ rfl _ _ _ 31 rfl 3 4 keyed_int Try.underlying31 _ bm _ D rfl HMP.out (by unfold maxLen; omega) _ _ _ rfl rfl HKEY.out _ [] (plainElem_bool Try.underlying4 true) ?_; intro w6 hm6 hg6))
                  have hc6 := Chg.of_grown hg6
                  have HC6 := Lib.hid hc6
                  have HM6 := Lib.hid hm6
                  have x0 := wo_cell hc6 x0 (by simpa using hgm)
                  have y0 := wo_cell hc6 y0 (by simpa using hgm)
                  have px0 := wo_cell hc6 px0 (by simpa using hbm)
                  have px1 := wo_cell hc6 px1 (by simpa using hbm)
                  have qx0 := wo_cell hc6 qx0 (by simpa using hbm)
                  have qx1 := wo_cell hc6 qx1 (by simpa using hbm)
                  clear hg6 hc6 hm6
                  go_upto_region 25 with fail
                  go_quiet ((go_at_call 7; exact Calls.quiet_of_same (v := .int .i64 0) ((HCM.out _).mono fun e w' h => ⟨h.1, h.2.symm⟩)))
                  go_wp2_with fail
                  go_roundw
                  case rel => exact ⟨j + 1 + 1, _, HKN.out, by go_num, HM6.out.kept (row := none) ⟨rfl, rfl, rfl, Nat.le_refl _, fun _ _ _ => rfl⟩ (by simp), HSP.out, HC.out.trans (HC6.out.ext (by repeat' (first | (with_reducible exact Ext.refl _) | (with_reducible assumption) | (with_reducible refine Ext.alloc ?_ _) | (with_reducible refine Ext.drewN ?_ _) | (with_reducible refine Ext.drew ?_) | (with_reducible refine Ext.trans ?_ (by assumption)))))⟩
                  case measure => have := HKN.out; simp [intOf]; omega
            · obtain rfl : k = n := by omega
              clear hlt
              go_wp2_with fail
              go_ret
              exact ⟨rfl, (HX5.out.trans HX53.out).chg HC.out (by have := HB5.out; have := HX5.out.size; simp; omega)⟩
  · have OK := Lib.hid hgood
    have BAD := Lib.hid hbad
    have hO := Lib.hid (fun w' (hx : Ext w4 w') => wo_order_bad (.slice ao n co) n k0 (fun i => F i 0) (fun i => F i 1) w' ((rdf_of HOR.out).ext hx) hk0 hgood hbad)
    have HK0 := Lib.hid hk0
    clear hgood hbad hk0
    go_wp2_with fail
    refine (hO.out _ (by repeat' (first | (with_reducible exact Ext.refl _) | (with_reducible assumption) | (with_reducible refine Ext.alloc ?_ _) | (with_reducible refine Ext.drewN ?_ _) | (with_reducible refine Ext.drew ?_) | (with_reducible refine Ext.trans ?_ (by assumption))))).mono ?_
    rintro e w5 ⟨rfl, hx5⟩
    have hX5 : Ext w w5 := HX4.out.trans hx5
    have HX5 := Lib.hid hX5
    have HX45 := Lib.hid hx5
    clear hX5 hx5
    go_wp2_with fail
    go_loopw [32] (fun ci wr => ∃ i : Nat, i ≤ k0 ∧ ci = .int .i64 i ∧ Ext w5 wr) (fun ci _ => n - (intOf ci).toNat)
    case atStart => exact ⟨0, Nat.zero_le _, rfl, Ext.refl _⟩
    case round =>
      obtain ⟨i, hiM, rfl, hx⟩ := hrel
      have HIM := Lib.hid hiM
      clear hiM
      by_cases hlt : i < n
      · have hii : (i : Int) < (n : Int) := by omega
        have hi0 : (0 : Int) ≤ (i : Int) := by omega
        obtain ⟨b, o, rfl, hb, hc⟩ := HS.out (by omega)
        obtain ⟨bo, oo, rfl, hbo, hco⟩ := HOS.out (by omega)
        have x0 := (HX5.out.trans hx).cellv (hc i 0 hlt (by omega))
        have x1 := (HX5.out.trans hx).cellv (hc i 1 hlt (by omega))
        have y0 := (HX45.out.trans hx).cellv (hco i 0 hlt (by omega))
        have y1 := (HX45.out.trans hx).cellv (hco i 1 hlt (by omega))
        simp only [← Nat.add_assoc, Nat.add_zero] at x0 x1 y0 y1
        obtain ⟨t, ht⟩ : ∃ t, t = F i 0 := ⟨_, rfl⟩
        obtain ⟨d, hd⟩ : ∃ d, d = F i 1 := ⟨_, rfl⟩
        by_cases hok : i < k0
        · have HRT := Lib.hid (fun w' => refright_is t d w' true (by rw [ht, hd]; exact OK.out i hok))
          have HI1 := Lib.hid (show i + 1 ≤ k0 by omega)
          rw [← ht] at x0 y0
          rw [← hd] at x1 y1
          have HLT := Lib.hid hlt
          have y0a := cell_old (.cells #[.int .i64 t, .int .i64 d] 29) y0
          have y1a := cell_old (.cells #[.int .i64 t, .int .i64 d] 29) y1
          have z0a := cell_new wr #[.int .i64 t, .int .i64 d] 29 (0, 0) (j := 0) rfl
          have z1a := cell_new wr #[.int .i64 t, .int .i64 d] 29 (0, 0) (j := 1) rfl
          clear hc hco ht hd hok hlt
          go_upto_region 10 with fail
          go_quiet (fail)
          go_wp2_with fail
          refine (HRT.out _).mono ?_
          rintro e w6 ⟨rfl, rfl⟩
          go_wp2_with fail
          go_roundw
          case rel => exact ⟨i + 1, HI1.out, by go_num, (by repeat' (first | (with_reducible exact Ext.refl _) | (with_reducible assumption) | (with_reducible refine Ext.alloc ?_ _) | (with_reducible refine Ext.drewN ?_ _) | (with_reducible refine Ext.drew ?_) | (with_reducible refine Ext.trans ?_ (by assumption))))⟩
          case measure => have := HLT.out; simp [intOf]; omega
        · have HRT := Lib.hid (fun w' => refright_is t d w' false (by rw [ht, hd]; have := HIM.out; rw [show i = k0 by omega]; exact BAD.out))
          rw [← ht] at x0 y0
          rw [← hd] at x1 y1
          have y0a := cell_old (.cells #[.int .i64 t, .int .i64 d] 29) y0
          have y1a := cell_old (.cells #[.int .i64 t, .int .i64 d] 29) y1
          have z0a := cell_new wr #[.int .i64 t, .int .i64 d] 29 (0, 0) (j := 0) rfl
          have z1a := cell_new wr #[.int .i64 t, .int .i64 d] 29 (0, 0) (j := 1) rfl
          clear hc hco ht hd hok hlt
          go_upto_region 10 with fail
          go_quiet (fail)
          go_wp2_with fail
          refine (HRT.out _).mono ?_
          rintro e w6 ⟨rfl, rfl⟩
          go_wp2_with fail
          go_ret
          exact ⟨rfl, HX5.out.trans (by repeat' (first | (with_reducible exact Ext.refl _) | (with_reducible assumption) | (with_reducible refine Ext.alloc ?_ _) | (with_reducible refine Ext.drewN ?_ _) | (with_reducible refine Ext.drew ?_) | (with_reducible refine Ext.trans ?_ (by assumption))))⟩
      · have := HK0.out
        have := HIM.out
        omega
end Go.Proofs.Ythoioocfembkgaa
