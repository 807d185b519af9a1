/-
  gradineref12: Right, Remove, Times, All. No condition but that the MQ lies in memory, and is right.
-/
import Derived.Test.YtibcfmnkpemieaaRmq2
import Derived.Test.YtibcfmnkpemieaaMq5
import Derived.StillTailTactics
namespace Go.Proofs.Ytibcfmnkpemieaa
open Go.RowKit

set_option maxHeartbeats 1000000 in
theorem rqright (c q l g : Int) (r : Bool) (hr : decide (okS c q l g) = r) (w : World) :
    Calls Try.prog 42 #[.int .i64 c, .int .i64 q, .int .i64 l, .int .i64 g] w fun e w' => e = .returned (.bool r) ∧ Ext w w' := by
  cases r
  · have hn : ¬ okS c q l g := by simpa using hr
    clear hr
    unfold okS at hn
    by_cases a1 : 1 ≤ c
    · by_cases a2 : c ≤ 16
      · by_cases a3 : 1 ≤ q
        · by_cases a4 : q ≤ 8
          · by_cases a5 : 1 ≤ l
            · by_cases a6 : l ≤ 100
              · by_cases a7 : 0 ≤ g
                · have a8 : ¬ g ≤ 16 := by omega
                  clear hn
                  go_enter Try.func42, Try.ntmps42
                  go_wp2_with fail
                  go_ret
                  exact ⟨ret_bool (by simp), (by repeat' (first | (with_reducible exact Ext.refl _) | (with_reducible assumption) | (with_reducible refine Ext.alloc ?_ _) | (with_reducible refine Ext.drewN ?_ _) | (with_reducible refine Ext.drew ?_) | (with_reducible refine Ext.trans ?_ (by assumption))))⟩
                · clear hn
                  go_enter Try.func42, Try.ntmps42
                  go_wp2_with fail
                  go_ret
                  exact ⟨ret_bool (by simp), (by repeat' (first | (with_reducible exact Ext.refl _) | (with_reducible assumption) | (with_reducible refine Ext.alloc ?_ _) | (with_reducible refine Ext.drewN ?_ _) | (with_reducible refine Ext.drew ?_) | (with_reducible refine Ext.trans ?_ (by assumption))))⟩
              · clear hn
                go_enter Try.func42, Try.ntmps42
                go_wp2_with fail
                go_ret
                exact ⟨ret_bool (by simp), (by repeat' (first | (with_reducible exact Ext.refl _) | (with_reducible assumption) | (with_reducible refine Ext.alloc ?_ _) | (with_reducible refine Ext.drewN ?_ _) | (with_reducible refine Ext.drew ?_) | (with_reducible refine Ext.trans ?_ (by assumption))))⟩
            · clear hn
              go_enter Try.func42, Try.ntmps42
              go_wp2_with fail
              go_ret
              exact ⟨ret_bool (by simp), (by repeat' (first | (with_reducible exact Ext.refl _) | (with_reducible assumption) | (with_reducible refine Ext.alloc ?_ _) | (with_reducible refine Ext.drewN ?_ _) | (with_reducible refine Ext.drew ?_) | (with_reducible refine Ext.trans ?_ (by assumption))))⟩
          · clear hn
            go_enter Try.func42, Try.ntmps42
            go_wp2_with fail
            go_ret
            exact ⟨ret_bool (by simp), (by repeat' (first | (with_reducible exact Ext.refl _) | (with_reducible assumption) | (with_reducible refine Ext.alloc ?_ _) | (with_reducible refine Ext.drewN ?_ _) | (with_reducible refine Ext.drew ?_) | (with_reducible refine Ext.trans ?_ (by assumption))))⟩
        · clear hn
          go_enter Try.func42, Try.ntmps42
          go_wp2_with fail
          go_ret
          exact ⟨ret_bool (by simp), (by repeat' (first | (with_reducible exact Ext.refl _) | (with_reducible assumption) | (with_reducible refine Ext.alloc ?_ _) | (with_reducible refine Ext.drewN ?_ _) | (with_reducible refine Ext.drew ?_) | (with_reducible refine Ext.trans ?_ (by assumption))))⟩
      · clear hn
        go_enter Try.func42, Try.ntmps42
        go_wp2_with fail
        go_ret
        exact ⟨ret_bool (by simp), (by repeat' (first | (with_reducible exact Ext.refl _) | (with_reducible assumption) | (with_reducible refine Ext.alloc ?_ _) | (with_reducible refine Ext.drewN ?_ _) | (with_reducible refine Ext.drew ?_) | (with_reducible refine Ext.trans ?_ (by assumption))))⟩
    · clear hn
      go_enter Try.func42, Try.ntmps42
      go_wp2_with fail
      go_ret
      exact ⟨ret_bool (by simp), (by repeat' (first | (with_reducible exact Ext.refl _) | (with_reducible assumption) | (with_reducible refine Ext.alloc ?_ _) | (with_reducible refine Ext.drewN ?_ _) | (with_reducible refine Ext.drew ?_) | (with_reducible refine Ext.trans ?_ (by assumption))))⟩
  · have hn : okS c q l g := by simpa using hr
    obtain ⟨⟨a1, a2⟩, ⟨a3, a4⟩, ⟨a5, a6⟩, a7, a8⟩ := hn
    clear hr
    go_enter Try.func42, Try.ntmps42
    go_wp2_with fail
    go_ret
    exact ⟨ret_bool (by simp [*]), (by repeat' (first | (with_reducible exact Ext.refl _) | (with_reducible assumption) | (with_reducible refine Ext.alloc ?_ _) | (with_reducible refine Ext.drewN ?_ _) | (with_reducible refine Ext.drew ?_) | (with_reducible refine Ext.trans ?_ (by assumption))))⟩

theorem mem_as' {L : List Nat} {b : Int} : b ∈ asInts L ↔ 0 ≤ b ∧ b.toNat ∈ L := by
  unfold asInts
  rw [List.mem_map]
  constructor
  · rintro ⟨x, hx, rfl⟩
    exact ⟨by omega, by simpa using hx⟩
  · rintro ⟨h0, h⟩
    exact ⟨_, h, by omega⟩
/-- whether a block is in a queue, by the queue that it is in -/
theorem qplace_has {p : Shp} {s : Mq} (inq : Inq p s) (b64 : B64 s) {b q : Int} (hq : QPlace p s b q) :
    (q = -1 ∧ (okB b && hasQ p s b.toNat : Bool) = false) ∨ ∃ i, i < p.qs ∧ q = (i : Int) ∧ okB b ∧ b.toNat ∈ s.Ls.getD i [] ∧ (okB b && hasQ p s b.toNat : Bool) = true := by
  rcases hq with ⟨rfl, hno⟩ | ⟨i, hi, rfl, hm⟩
  · refine .inl ⟨rfl, ?_⟩
    rw [Bool.and_eq_false_iff]
    by_cases hb : okB b
    · right
      rw [Bool.eq_false_iff]
      intro hh
      obtain ⟨q, hq, hm⟩ := (has_mem inq).1 hh
      exact hno q hq (mem_as'.2 ⟨hb.1, hm⟩)
    · left; exact decide_eq_false hb
  · obtain ⟨h0, hm⟩ := mem_as'.1 hm
    have h64 := b64 i _ hm
    have hb : okB b := ⟨h0, by omega⟩
    refine .inr ⟨i, hi, rfl, hb, hm, ?_⟩
    rw [Bool.and_eq_true]
    exact ⟨decide_eq_true hb, (has_mem inq).2 ⟨i, hi, hm⟩⟩
theorem filter_id' {L : List Nat} {b : Nat} (h : b ∉ L) : L.filter (· ≠ b) = L := by
  rw [List.filter_eq_self]
  intro x hx
  simp
  rintro rfl
  exact h hx
theorem outL_one {Ls : List (List Nat)} (g : Good Ls) {b i : Nat} (hi : i < Ls.length) (hm : b ∈ Ls.getD i []) : outL Ls b = Ls.set i ((Ls.getD i []).filter (· ≠ b)) := by
  refine list_ext_getD (by rw [outL_length, List.length_set]) fun k hk => ?_
  rw [getD_out, getD_set_nat _ _ _ _ hi]
  by_cases e : k = i
  · subst e; rw [if_pos rfl]
  · rw [if_neg e, filter_id' (fun h => e (g.one _ _ _ h hm))]

section
variable (B : Nat → Prop) (pr bq bo be : Nat) (p : Shp) (s : Mq) (w : World) (h : RmqAt w B pr bq bo be p s)
include h
set_option maxRecDepth 100000 in
set_option maxHeartbeats 4000000 in
theorem rqremove (inq : Inq p s) (b64 : B64 s) (b : Int) (r : Bool) (hr : (okB b && hasQ p s b.toNat : Bool) = r) : Calls Try.prog 46 #[.pointer (some ⟨pr, 0, none⟩), .int .i64 b] w fun e w' =>
    e = .returned (.bool r) ∧ RmqAt w' B pr bq bo be p (if r then removeQ s b.toNat else s) ∧ Chg [pr, bq, bo, be] w w' := by
  have H := Lib.hid h
  have HI := Lib.hid inq
  have H64 := Lib.hid b64
  have HOF := Lib.hid (rqof B pr bq bo be p s w h inq.ok.q2 b)
  have HR := Lib.hid hr
  have hq8 := inq.ok.q2
  clear h inq b64 hr
  go_enter Try.func46, Try.ntmps46
  go_wp2_with fail
  refine HOF.out.mono ?_
  rintro e w1 ⟨q, rfl, hq, hx1⟩
  rcases qplace_has HI.out H64.out hq with ⟨rfl, hf⟩ | ⟨i, hi, rfl, hok, hm, ht⟩
  · rw [HR.out] at hf
    subst hf
    clear hq
    go_wp2_with fail
    go_ret
    exact ⟨rfl, H.out.ext hx1, Chg.of_ext hx1⟩
  · rw [HR.out] at ht
    subst ht
    obtain ⟨y, rfl⟩ := Int.eq_ofNat_of_zero_le hok.1
    rw [Int.toNat_natCast] at hm
    have hol := outL_one HI.out.good (show i < s.Ls.length by rw [HI.out.len]; omega) hm
    have hm1 := H.out.ext hx1
    obtain ⟨c, hc0⟩ := hm1.c3
    obtain ⟨a, cc, hv, hrow⟩ := hm1.cell hi
    have hl64 := len64 HI.out.good H64.out i
    have HROW := Lib.hid hrow
    have HM := Lib.hid hm1
    have fz := hm1.f2 i
    have HIP := Lib.hid hi
    have hii : (i : Int) < (p.qs : Int) := by omega
    have hi0 : ¬ (i : Int) < 0 := by omega
    have HOL := Lib.hid hol
    obtain ⟨L, hL⟩ : ∃ L, L = s.Ls.getD i [] := ⟨_, rfl⟩
    rw [← hL] at hv HROW hl64 HOL
    obtain ⟨n, hn⟩ : ∃ n, n = p.qs := ⟨_, rfl⟩
    rw [← hn] at hc0 hii hq8
    have HTOP := Lib.hid hm1.top
    clear hrow hL hm hok hm1 hol hi hn hq
    go_upto_region 4 with fail
    go_region_with ((go_at_call 67; refine (without_any _ (asInts L) y _ (HROW.out.1.ext (by repeat' (first | (with_reducible exact Ext.refl _) | (with_reducible assumption) | (with_reducible refine Ext.alloc ?_ _) | (with_reducible refine Ext.drewN ?_ _) | (with_reducible refine Ext.drew ?_) | (with_reducible refine Ext.trans ?_ (by assumption))))) (fits_small (by rw [asInts_len]; omega))).mono ?_; rintro e w2 ⟨v2, rfl, ho2, hx2⟩; obtain ⟨a5, c5, hv5, _, _, _, _⟩ := ho2.rd.parts; obtain ⟨n5, hn5⟩ : ∃ n5, v2 = .slice a5 n5 c5 := ⟨_, hv5⟩; clear hv5; subst hn5; have z0 := Ext.cellv (w := w1) (w' := w2) (by repeat' (first | (with_reducible exact Ext.refl _) | (with_reducible assumption) | (with_reducible refine Ext.alloc ?_ _) | (with_reducible refine Ext.drewN ?_ _) | (with_reducible refine Ext.drew ?_) | (with_reducible refine Ext.trans ?_ (by assumption)))) hc0; have zv := Ext.cellv (w := w1) (w' := w2) (by repeat' (first | (with_reducible exact Ext.refl _) | (with_reducible assumption) | (with_reducible refine Ext.alloc ?_ _) | (with_reducible refine Ext.drewN ?_ _) | (with_reducible refine Ext.drew ?_) | (with_reducible refine Ext.trans ?_ (by assumption)))) hv; have zf := (HM.out.ext (w' := w2) (by repeat' (first | (with_reducible exact Ext.refl _) | (with_reducible assumption) | (with_reducible refine Ext.alloc ?_ _) | (with_reducible refine Ext.drewN ?_ _) | (with_reducible refine Ext.drew ?_) | (with_reducible refine Ext.trans ?_ (by assumption))))).f2 i))
    all_goals
      rw [wo_as] at ho2
      have hxw : Ext w1 w2 := (by repeat' (first | (with_reducible exact Ext.refl _) | (with_reducible assumption) | (with_reducible refine Ext.alloc ?_ _) | (with_reducible refine Ext.drewN ?_ _) | (with_reducible refine Ext.drew ?_) | (with_reducible refine Ext.trans ?_ (by assumption))))
      have hr5 := RowOk.fresh (B := B) (S := [pr, bq, bo, be]) ho2 (fun g hg => HTOP.out g (Nat.le_trans (Ext.size (w := w1) (by repeat' (first | (with_reducible exact Ext.refl _) | (with_reducible assumption) | (with_reducible refine Ext.alloc ?_ _) | (with_reducible refine Ext.drewN ?_ _) | (with_reducible refine Ext.drew ?_) | (with_reducible refine Ext.trans ?_ (by assumption))))) hg)) (fun x hx => Nat.lt_of_lt_of_le (HM.out.all x hx) (Ext.size (w := w1) (by repeat' (first | (with_reducible exact Ext.refl _) | (with_reducible assumption) | (with_reducible refine Ext.alloc ?_ _) | (with_reducible refine Ext.drewN ?_ _) | (with_reducible refine Ext.drew ?_) | (with_reducible refine Ext.trans ?_ (by assumption))))))
      have hs2 := (HM.out.ext hxw).setRow HIP.out hr5
      have hs3 : RmqAt (w2.setCell ⟨bq, i, none⟩ (.slice a5 n5 c5)) B pr bq bo be p (removeQ s y) := by unfold removeQ; rw [HOL.out]; exact hs2
      have hch := (Chg.of_ext (S := [pr, bq, bo, be]) (hx1.trans hxw)).setCell (.inl (by simp)) (p := ⟨bq, i, none⟩) (.slice a5 n5 c5)
      have HS3 := Lib.hid hs3
      have HCH := Lib.hid hch
      clear hs2 hs3 ho2 hr5 hch z0 zv zf
      go_wp2_with fail
      go_ret
      first | exact ⟨rfl, HS3.out, HCH.out⟩ | exact ⟨rfl, HS3.out.ext (by repeat' (first | (with_reducible exact Ext.refl _) | (with_reducible assumption) | (with_reducible refine Ext.alloc ?_ _) | (with_reducible refine Ext.drewN ?_ _) | (with_reducible refine Ext.drew ?_) | (with_reducible refine Ext.trans ?_ (by assumption)))), HCH.out.ext (by repeat' (first | (with_reducible exact Ext.refl _) | (with_reducible assumption) | (with_reducible refine Ext.alloc ?_ _) | (with_reducible refine Ext.drewN ?_ _) | (with_reducible refine Ext.drew ?_) | (with_reducible refine Ext.trans ?_ (by assumption))))⟩

omit h in
theorem rqghas (b : Int) (r : Bool) (hr : decide (b ∈ asInts (s.Ls.getD p.qs [])) = r) (v : Value) (hv : RowOk w B [pr, bq, bo, be] v (s.Ls.getD p.qs [])) : Calls Try.prog 39 #[v, .int .i64 b] w fun e w' => e = .returned (.bool r) ∧ Ext w w' := by
  rw [← hr]
  exact has_any _ _ b w hv.1

set_option maxHeartbeats 4000000 in
theorem rqtimes (inq : Inq p s) (b64 : B64 s) (b : Int) (r : Nat) (hr : (if okB b ∧ ofL s.Ls b.toNat ≠ none then s.of b.toNat else 0) = r) : Calls Try.prog 49 #[.pointer (some ⟨pr, 0, none⟩), .int .i64 b] w fun e w' =>
    e = .returned (.int .i64 r) ∧ Ext w w' := by
  have H := Lib.hid h
  have HI := Lib.hid inq
  have H64 := Lib.hid b64
  have HOF := Lib.hid (rqof B pr bq bo be p s w h inq.ok.q2 b)
  have hmem : (okB b ∧ ofL s.Ls b.toNat ≠ none) ↔ ∃ i, i < s.Ls.length ∧ b ∈ asInts (s.Ls.getD i []) := by
    constructor
    · rintro ⟨hb, hne⟩
      cases hof : ofL s.Ls b.toNat with
      | none => exact absurd hof hne
      | some i =>
        obtain ⟨hi, hm⟩ := ofL_mem hof
        exact ⟨i, hi, mem_as'.2 ⟨hb.1, hm⟩⟩
    · rintro ⟨i, hi, hm⟩
      obtain ⟨h0, hm⟩ := mem_as'.1 hm
      have h64 := b64 i _ hm
      exact ⟨⟨h0, by omega⟩, fun hof => ofL_not hof i hi hm⟩
  have HR := Lib.hid hr
  have HM := Lib.hid hmem
  clear h inq b64 hr hmem
  go_enter Try.func49, Try.ntmps49
  go_wp2_with fail
  refine HOF.out.mono ?_
  rintro e w1 ⟨q, rfl, hq, hx1⟩
  have hm1 := H.out.ext hx1
  have y5 := hm1.d5
  rcases qplace_has HI.out H64.out hq with ⟨rfl, hf⟩ | ⟨i, hi, rfl, hok, hm, ht⟩
  · obtain ⟨a, c, yg, hrow⟩ := hm1.cg
    obtain ⟨g, hg⟩ : ∃ g, decide (b ∈ asInts (s.Ls.getD p.qs [])) = g := ⟨_, rfl⟩
    have HGH := Lib.hid (rqghas B pr bq bo be p s w1 b g hg _ hrow)
    have hno : ∀ i, i < p.qs → b ∉ asInts (s.Ls.getD i []) := by
      rcases hq with ⟨_, h⟩ | ⟨i, hi, e, _⟩
      · exact h
      · omega
    have HNO := Lib.hid hno
    have HG := Lib.hid hg
    obtain ⟨m, hm⟩ : ∃ m, m = (s.Ls.getD p.qs []).length := ⟨_, rfl⟩
    rw [← hm] at yg HGH
    have HMA := Lib.hid hm1
    clear hq hf hrow hg hno hm hm1
    go_wp2_with fail
    refine HGH.out.mono ?_
    rintro e w2 ⟨rfl, hx2⟩
    have y5 := hx2.cellv y5
    cases g
    · have hr0 : r = 0 := by
        rw [← HR.out, if_neg]
        rw [HM.out]
        rintro ⟨i, hi, hm⟩
        rw [HI.out.len] at hi
        by_cases e : i < p.qs
        · exact HNO.out i e hm
        · obtain rfl : i = p.qs := by omega
          exact of_decide_eq_false HG.out hm
      have HR0 := Lib.hid hr0
      clear hr0
      go_wp2_with fail
      go_ret
      exact ⟨by rw [HR0.out]; rfl, hx1.trans hx2⟩
    · have hin := of_decide_eq_true HG.out
      obtain ⟨h0, hmm⟩ := mem_as'.1 hin
      have h64 := H64.out _ _ hmm
      obtain ⟨y, rfl⟩ := Int.eq_ofNat_of_zero_le h0
      rw [Int.toNat_natCast] at h64
      have hr0 : r = s.of y := by
        rw [← HR.out, if_pos (HM.out.2 ⟨p.qs, by rw [HI.out.len]; omega, hin⟩), Int.toNat_natCast]
      have yo := (HMA.out.ext hx2).cof h64
      have hyi : (y : Int) < 64 := by omega
      have HR0 := Lib.hid hr0
      obtain ⟨o, ho⟩ : ∃ o, o = s.of y := ⟨_, rfl⟩
      rw [← ho] at yo HR0
      clear hr0 ho hin hmm h0
      go_wp2_with fail
      go_ret
      exact ⟨by rw [HR0.out]; rfl, hx1.trans hx2⟩
  · obtain ⟨y, rfl⟩ := Int.eq_ofNat_of_zero_le hok.1
    rw [Int.toNat_natCast] at hm
    have h64 : y < 64 := by have := hok.2; omega
    have hr0 : r = s.of y := by
      rw [← HR.out, if_pos (HM.out.2 ⟨i, by rw [HI.out.len]; omega, mem_as'.2 ⟨by omega, by simpa using hm⟩⟩), Int.toNat_natCast]
    have yo := hm1.cof h64
    have hyi : (y : Int) < 64 := by omega
    have hi0 : (0 : Int) ≤ (i : Int) := by omega
    have HR0 := Lib.hid hr0
    obtain ⟨o, ho⟩ : ∃ o, o = s.of y := ⟨_, rfl⟩
    rw [← ho] at yo HR0
    clear hr0 ho hq hm hok ht hm1
    go_wp2_with fail
    go_ret
    exact ⟨by rw [HR0.out]; rfl, hx1⟩

set_option maxRecDepth 100000 in
set_option maxHeartbeats 4000000 in
theorem rqall (inq : Inq p s) (b64 : B64 s) : Calls Try.prog 73 #[.pointer (some ⟨pr, 0, none⟩)] w fun e w' => ∃ v, e = .returned v ∧ OwnI .i64 3 w.heap.size w' v (asInts (allQ p s)) ∧ Ext w w' := by
  have H := Lib.hid h
  obtain ⟨R, hR⟩ : ∃ R, allQ p s = R := ⟨_, rfl⟩
  have HR := Lib.hid (show allFrom s p.qs 0 = R by rw [← allQ_from]; exact hR)
  have HL64 := Lib.hid (len64 inq.good b64)
  have hq8 := inq.ok.q2
  rw [hR]
  obtain ⟨c, hc0⟩ := h.c3
  obtain ⟨n, hn⟩ : ∃ n, n = p.qs := ⟨_, rfl⟩
  rw [← hn] at hc0 hq8 HR
  have HN := Lib.hid hn
  clear h hR inq b64 hn
  go_enter Try.func73, Try.ntmps73
  go_wp2_with fail
  go_loopw [3, 4] (fun cv ci wr => ∃ (i : Nat) (D : List Nat), i ≤ n ∧ ci = .int .i64 i ∧ OwnI .i64 3 w.heap.size wr cv (asInts D) ∧ Hid (D ++ allFrom s (n - i) 0 = R) ∧ D.length ≤ 64 * i ∧ Ext w wr) (fun _ ci _ => n - (intOf ci).toNat)
  case atStart => exact ⟨0, [], Nat.zero_le _, rfl, OwnI.nil _ _ _ _, HR, by simp, Ext.refl _⟩
  case round =>
    obtain ⟨i, D, hi, rfl, ho, HD, hDl, hx⟩ := hrel
    have HO := Lib.hid ho
    clear ho
    have x0 := hx.cellv hc0
    by_cases hlt : i < n
    · obtain ⟨k, hk⟩ : ∃ k, n - i = k + 1 := ⟨n - i - 1, by omega⟩
      have hkn : k < p.qs := by rw [← HN.out]; omega
      obtain ⟨a, cc, hv, hrow⟩ := (H.out.ext hx).cell hkn
      have hl64 := HL64.out k
      have hD2 : (D ++ s.Ls.getD k []) ++ allFrom s k 0 = R := by
        have := HD.out
        rw [hk] at this
        unfold allFrom at this
        rw [Nat.zero_add] at this
        rw [List.append_assoc]; exact this
      have HROW := Lib.hid hrow
      obtain ⟨L, hL⟩ : ∃ L, L = s.Ls.getD k [] := ⟨_, rfl⟩
      rw [← hL] at hv HROW hl64 hD2
      have HD2 := Lib.hid hD2
      have hki : (n : Int) - 1 - (i : Int) = (k : Int) := by omega
      have hw1 : IntKind.i64.wrap ((n : Int) - 1) = (n : Int) - 1 := by rw [IntKind.wrap_i64]; omega
      have hw2 : IntKind.i64.wrap (k : Int) = (k : Int) := by rw [IntKind.wrap_i64]; omega
      have hk8 : (k : Int) < (n : Int) := by omega
      have hii : (i : Int) < (n : Int) := by omega
      have hkk : n - (i + 1) = k := by omega
      have HKK := Lib.hid hkk
      clear hrow hL hD2 hkn hk hkk HD
      go_upto_region 5 with fail
      go_still_tail 15, (by kernel_rfl)
      change wpList _ _ _ _ _ wr.drew
      have hxd : Ext wr wr.drew := (Ext.refl wr).drew
      generalize wr.drew = w2 at *
      go_wp2_with (at_builtin; refine wpList_append_ints rfl _ _ 23 rfl 3 .i64 0 8 Try.underlying23 ints_info (by decide) w (by repeat' (first | (with_reducible exact Ext.refl _) | (with_reducible assumption) | (with_reducible refine Ext.alloc ?_ _) | (with_reducible refine Ext.drewN ?_ _) | (with_reducible refine Ext.drew ?_) | (with_reducible refine Ext.trans ?_ (by assumption)))) _ _ rfl (HO.out.ext hxd) _ _ rfl (HROW.out.1.ext hxd) (by rw [asInts_len, asInts_len]; unfold Fits; omega) ?_)
      intro v3 w3 ho3 hx3
      have hap : asInts D ++ asInts L = asInts (D ++ L) := by unfold asInts; rw [List.map_append]
      rw [hap] at ho3
      go_wp2_with fail
      go_roundw
      case rel => exact ⟨i + 1, D ++ L, by omega, by go_num, ho3, Lib.hid (by rw [HKK.out]; exact HD2.out), by rw [List.length_append]; omega, hx3⟩
      case measure => simp [intOf]; omega
    · obtain rfl : i = n := by omega
      have e := HD.out
      rw [Nat.sub_self] at e
      unfold allFrom at e
      rw [List.append_nil] at e
      subst e
      go_wp2_with fail
      go_ret
      exact ⟨_, rfl, HO.out, hx⟩
end
end Go.Proofs.Ytibcfmnkpemieaa
