/-
  gradinelaw12.MqActs answers true. No condition.
-/
import Derived.Test.YtibcfmnkpemieaaRmq6
import Derived.Test.YtibcfmnkpemieaaMqOneWalk
import Derived.Test.YtibcfmnkpemieaaMqQueuesWalk
import Derived.Deep.RegionHeld3
namespace Go.Proofs.Ytibcfmnkpemieaa
open Go.RowKit

/-- what holds of an MQ behind k acts -/
structure Okq (p : Shp) (k : Nat) (s : Mq) : Prop where
  inq : Inq p s
  b64 : B64 s
  le : lenQ p s ≤ p.cap
  sm : Small k s
section
variable {p : Shp} {k : Nat} {s : Mq}
theorem Okq.keep (h : Okq p k s) : Okq p (k + 1) s := ⟨h.inq, h.b64, h.le, by have := h.sm.1; omega, fun x => by have := h.sm.2 x; omega⟩
theorem b64_age {b : Nat} (hs : Inq p s) (hb : B64 s) (h1 : 1 ≤ s.of b) (h2 : s.of b < 256) (h64 : b < 64) : B64 (ageQ p (p.qs - 1) 1 (placeQ p s b)) :=
  (hb.place h64 (by rw [hs.len]; have := qOf_lt hs.ok (s.of b); omega)).age _ _ (hs.place h1 h2) (Nat.le_refl _) (by have := hs.ok.q1; omega)
theorem of_more (s : Mq) (b : Nat) : (oftenQ s b).of b = s.of b + 1 := by unfold oftenQ updN; simp
theorem Okq.use (h : Okq p k s) (hk : k < 254) (b : Int) (r : Bool) (hr : (okB b && hasQ p s b.toNat : Bool) = r) : Okq p (k + 1) (if r then useQ p s b.toNat else s) := by
  cases r
  · exact h.keep
  · rw [Bool.and_eq_true] at hr
    have hok : okB b := of_decide_eq_true hr.1
    obtain ⟨h1, h2⟩ := h.inq.use (b := b.toNat) h.sm (by omega) h.le
    refine ⟨h1, ?_, h2, small_use h.sm⟩
    rw [if_pos rfl]
    unfold useQ
    rw [if_pos hr.2]
    have hI := (h.inq.tick.more b.toNat)
    have h9 := h.sm.2 b.toNat
    exact b64_age hI (show B64 (oftenQ (tickQ s) b.toNat) from h.b64) (by rw [of_more]; show 1 ≤ s.of b.toNat + 1; omega) (by rw [of_more]; show s.of b.toNat + 1 < 256; omega) (by have := hok.1; have := hok.2; omega)
theorem Okq.remove (h : Okq p k s) (b : Int) (r : Bool) : Okq p (k + 1) (if r then removeQ s b.toNat else s) := by
  cases r
  · exact h.keep
  · obtain ⟨h1, h2⟩ := h.inq.remove b.toNat h.le
    exact ⟨h1, fun q x hx => h.b64 q x (mem_out.1 hx).2, h2, by have := h.sm.1; show s.now ≤ _; omega, fun x => by have := h.sm.2 x; show s.of x ≤ _; omega⟩
theorem Okq.add (h : Okq p k s) (hk : k < 254) (b : Int) : Okq p (k + 1) (addI p s b) := by
  obtain ⟨h1, h2, h3⟩ := addI_keeps h.inq h.sm (by omega) h.le b
  refine ⟨h1, ?_, h2, h3⟩
  unfold addI
  by_cases hb : okB b
  · rw [if_pos hb]
    have h64 : b.toNat < 64 := by have := hb.1; have := hb.2; omega
    unfold addQ
    by_cases hh : hasQ p s b.toNat = true
    · rw [if_pos hh]
      have := (h.use hk b true (by rw [Bool.and_eq_true]; exact ⟨decide_eq_true hb, hh⟩)).b64
      rwa [if_pos rfl] at this
    · rw [if_neg hh]
      have hr := (h.inq.tick.room).1
      have hrb : B64 (roomQ p (tickQ s)) := room_b64 h.inq.tick (show B64 (tickQ s) from h.b64)
      have hkeep := room_keeps p (tickQ s)
      have hf : (freshQ (roomQ p (tickQ s)) b.toNat).of b.toNat ≤ k := by
        unfold freshQ
        split
        · show updN (roomQ p (tickQ s)).of b.toNat 0 b.toNat ≤ k
          unfold updN; simp
        · rw [hkeep.2]; exact h.sm.2 _
      have hfb : B64 (freshQ (roomQ p (tickQ s)) b.toNat) := by unfold freshQ; split <;> exact hrb
      exact b64_age ((hr.fresh b.toNat).more b.toNat) (show B64 (oftenQ (freshQ (roomQ p (tickQ s)) b.toNat) b.toNat) from hfb) (by rw [of_more]; omega) (by rw [of_more]; omega) h64
  · rw [if_neg hb]; exact h.b64
def outI (p : Shp) (s : Mq) (b : Int) : Nat := if okB b then outQ p s b.toNat else 0
def goneI (p : Shp) (s : Mq) (b : Int) : Bool := if okB b then goneQ p s b.toNat else false
def errI (b : Int) : Int := if okB b then 0 else 3
end
theorem madd_int (pm bs be : Nat) (p : Shp) (s : Mq) (w : World) (h : MqAt w pm bs be p s) (b : Int) (hn : s.now < 1000000) (hf : ∀ b, s.of b < 255) :
    Calls Try.prog 30 #[.pointer (some ⟨pm, 0, none⟩), .int .i64 b] w fun e w' => e = .returned (.tuple #[.int .i64 (outI p s b), .bool (goneI p s b), .int .i64 (errI b)]) ∧ MqAt w' pm bs be p (addI p s b) ∧ Chg [pm, bs, be] w w' := by
  unfold addI outI goneI errI
  by_cases hb : okB b
  · rw [if_pos hb, if_pos hb, if_pos hb, if_pos hb]
    obtain ⟨k, rfl⟩ := Int.eq_ofNat_of_zero_le hb.1
    rw [Int.toNat_natCast]
    exact madd pm bs be p s w h k (by have := hb.2; omega) hn hf
  · rw [if_neg hb, if_neg hb, if_neg hb, if_neg hb]
    have HM := Lib.hid h
    clear h hf
    by_cases h0 : 0 ≤ b
    · have h1 : 64 ≤ b := by unfold okB at hb; omega
      clear hb
      go_enter Try.func30, Try.ntmps30
      go_wp2_with fail
      go_ret3
      exact ⟨rfl, HM.out, Chg.refl _ _⟩
    · have h1 : b < 0 := by omega
      clear hb h0
      go_enter Try.func30, Try.ntmps30
      go_wp2_with fail
      go_ret3
      exact ⟨rfl, HM.out, Chg.refl _ _⟩
theorem rqadd_int (B : Nat → Prop) (pr bq bo be : Nat) (p : Shp) (s : Mq) (w : World) (h : RmqAt w B pr bq bo be p s) (inq : Inq p s) (b64 : B64 s) (b : Int) (hn : s.now < 999999) (hf : ∀ b, s.of b < 255) : Calls Try.prog 45 #[.pointer (some ⟨pr, 0, none⟩), .int .i64 b] w fun e w' =>
    e = .returned (.agg #[.int .i64 (outI p s b), .bool (goneI p s b), .int .i64 (errI b)]) ∧ RmqAt w' B pr bq bo be p (addI p s b) ∧ Chg [pr, bq, bo, be] w w' := by
  unfold addI outI goneI errI
  by_cases hb : okB b
  · rw [if_pos hb, if_pos hb, if_pos hb, if_pos hb]
    obtain ⟨k, rfl⟩ := Int.eq_ofNat_of_zero_le hb.1
    rw [Int.toNat_natCast]
    exact rqadd B pr bq bo be p s w h inq b64 k (by have := hb.2; omega) hn hf
  · rw [if_neg hb, if_neg hb, if_neg hb, if_neg hb]
    refine (rqadd_out pr b hb w).mono ?_
    rintro e w' ⟨rfl, hx⟩
    exact ⟨rfl, h.ext hx, Chg.of_ext hx⟩
theorem rqof_has (B : Nat → Prop) (pr bq bo be : Nat) (p : Shp) (s : Mq) (w : World) (h : RmqAt w B pr bq bo be p s) (inq : Inq p s) (b64 : B64 s) (b : Int) (r : Bool) (hr : (okB b && hasQ p s b.toNat : Bool) = r) : Calls Try.prog 48 #[.pointer (some ⟨pr, 0, none⟩), .int .i64 b] w fun e w' =>
    ∃ q : Int, e = .returned (.int .i64 q) ∧ decide (0 ≤ q) = r ∧ Ext w w' := by
  refine (rqof B pr bq bo be p s w h inq.ok.q2 b).mono ?_
  rintro e w' ⟨q, rfl, hq, hx⟩
  refine ⟨q, rfl, ?_, hx⟩
  rcases qplace_has inq b64 hq with ⟨rfl, hf⟩ | ⟨i, _, rfl, _, _, ht⟩
  · rw [← hr, hf]; rfl
  · rw [← hr, ht]; exact decide_eq_true (by omega)
set_option maxRecDepth 100000 in
set_option maxHeartbeats 8000000 in
theorem walk_MqActs (v0 v1 : Value) (w : World) (h0 : IsAgg4 v0) (h1 : IsRows 2 w v1) :
    Calls Try.prog 11 #[v0, v1] w fun e w' => e = .returned (.bool true) ∧ Ext w w' := by
  obtain ⟨c, q, l, g, rfl, _, _, _, _⟩ := h0
  obtain ⟨n, F, hr, _⟩ := h1
  obtain ⟨a, k0, rfl, hnk, hn63, hs⟩ := hr.parts
  have HS := Lib.hid hs
  clear hs hr hnk
  by_cases h150 : (150 : Int) < (n : Int)
  · go_enter Try.func11, Try.ntmps11
    go_wp2_with fail
    refine (wakes12 _).mono ?_
    rintro e w1 ⟨rfl, hx1⟩
    go_wp2_with fail
    go_ret
    exact ⟨rfl, (by repeat' (first | (with_reducible exact Ext.refl _) | (with_reducible assumption) | (with_reducible refine Ext.alloc ?_ _) | (with_reducible refine Ext.drewN ?_ _) | (with_reducible refine Ext.drew ?_) | (with_reducible refine Ext.trans ?_ (by assumption))))⟩
  · have hn150 : (n : Int) ≤ 150 := by omega
    go_enter Try.func11, Try.ntmps11
    go_wp2_with fail
    have q0 : (w.alloc (.cells #[.int .i64 c, .int .i64 q, .int .i64 l, .int .i64 g] 55)).cell? ⟨w.heap.size, 0, none⟩ = some (.int .i64 c) := cell_new _ _ _ _ rfl
    have q1 : (w.alloc (.cells #[.int .i64 c, .int .i64 q, .int .i64 l, .int .i64 g] 55)).cell? ⟨w.heap.size, 1, none⟩ = some (.int .i64 q) := cell_new _ _ _ _ rfl
    have q2 : (w.alloc (.cells #[.int .i64 c, .int .i64 q, .int .i64 l, .int .i64 g] 55)).cell? ⟨w.heap.size, 2, none⟩ = some (.int .i64 l) := cell_new _ _ _ _ rfl
    have q3 : (w.alloc (.cells #[.int .i64 c, .int .i64 q, .int .i64 l, .int .i64 g] 55)).cell? ⟨w.heap.size, 3, none⟩ = some (.int .i64 g) := cell_new _ _ _ _ rfl
    obtain ⟨w0, hw0⟩ : ∃ w0, w0 = w.alloc (.cells #[.int .i64 c, .int .i64 q, .int .i64 l, .int .i64 g] 55) := ⟨_, rfl⟩
    have hx0 : Ext w w0 := by rw [hw0]; exact (Ext.refl w).alloc _
    rw [← hw0] at q0 q1 q2 q3 ⊢
    clear hw0
    obtain ⟨pb, hpb⟩ : ∃ pb, pb = w.heap.size := ⟨_, rfl⟩
    rw [← hpb] at q0 q1 q2 q3 ⊢
    clear hpb
    refine (wakes12 _).mono ?_
    rintro e w1 ⟨rfl, hx1⟩
    have r0 := hx1.cellv q0
    have r1 := hx1.cellv q1
    have r2 := hx1.cellv q2
    have r3 := hx1.cellv q3
    have hX1 : Ext w w1 := hx0.trans hx1
    clear q0 q1 q2 q3 hx0 hx1
    go_wp2_with fail
    by_cases hok : okS c q l g
    · have hok' := hok
      unfold okS at hok'
      obtain ⟨⟨a1, a2⟩, ⟨a3, a4⟩, ⟨a5, a6⟩, a7, a8⟩ := hok'
      obtain ⟨cn, rfl⟩ := Int.eq_ofNat_of_zero_le (show 0 ≤ c by omega)
      obtain ⟨qn, rfl⟩ := Int.eq_ofNat_of_zero_le (show 0 ≤ q by omega)
      obtain ⟨ln, rfl⟩ := Int.eq_ofNat_of_zero_le (show 0 ≤ l by omega)
      obtain ⟨gn, rfl⟩ := Int.eq_ofNat_of_zero_le a7
      have ok : ShpOk ⟨cn, qn, ln, gn⟩ := ⟨show 1 ≤ cn by omega, show cn ≤ 16 by omega, show 1 ≤ qn by omega, show qn ≤ 8 by omega, show 1 ≤ ln by omega, show ln ≤ 100 by omega, show gn ≤ 16 by omega⟩
      refine (mnew ⟨cn, qn, ln, gn⟩ ok _).mono ?_
      rintro e w2 ⟨pm, bs, bd, rfl, hm, hp, hb1, hb2, hx2⟩
      have y0 := hx2.cellv r0
      have y1 := hx2.cellv r1
      have y2 := hx2.cellv r2
      have y3 := hx2.cellv r3
      have HMN := Lib.hid hm
      have HRR9 := Lib.hid (rqright cn qn ln gn true (by rw [decide_eq_true_iff]; exact hok))
      have HNW := Lib.hid (rqnew ⟨cn, qn, ln, gn⟩ ok)
      have HOK := Lib.hid ok
      clear hm r0 r1 r2 r3 ok hok a1 a2 a3 a4 a5 a6 a7 a8
      go_wp2_with fail
      refine (HRR9.out _).mono ?_
      rintro e w3 ⟨rfl, hx3⟩
      have y0 := hx3.cellv y0
      have y1 := hx3.cellv y1
      have y2 := hx3.cellv y2
      have y3 := hx3.cellv y3
      go_wp2_with fail
      refine (HNW.out _).mono ?_
      rintro e w4 ⟨pr, bq, bo, be, rfl, hr4, l1, l2, l3, l4, hx4⟩
      have hm4 := HMN.out.ext (hx3.trans hx4)
      have h24 := hx3.size
      have g1 := HMN.out.obj.lt
      have g2 := HMN.out.space.lt1
      have g3 := HMN.out.space.lt2
      have hr5 : RmqAt w4 (fun g => w3.heap.size ≤ g) pr bq bo be ⟨cn, qn, ln, gn⟩ (newQ ⟨cn, qn, ln, gn⟩) := hr4
      have hoff : ∀ x ∈ [pm, bs, bd], x ∉ [pr, bq, bo, be] := by intro x hx; simp at hx ⊢; omega
      have hlow : ∀ x ∈ [pm, bs, bd], x < w3.heap.size := by intro x hx; simp at hx; omega
      have hs12 := hx2.size
      have hge : ∀ x ∈ [pm, bs, bd, pr, bq, bo, be], w1.heap.size ≤ x := by intro x hx; simp at hx; omega
      have hz : Okq ⟨cn, qn, ln, gn⟩ 0 (newQ ⟨cn, qn, ln, gn⟩) := by
        have hI := inq_new HOK.out
        have hrep : ∀ i, (newQ ⟨cn, qn, ln, gn⟩).Ls.getD i [] = [] := by
          intro i
          show (List.replicate (qn + 1) ([] : List Nat)).getD i [] = []
          rw [List.getD_eq_getElem?_getD, List.getElem?_replicate]
          split <;> rfl
        refine ⟨hI, fun i x hx => by rw [hrep] at hx; simp at hx, ?_, small_new _⟩
        have hz : ∀ k, sumQ (newQ ⟨cn, qn, ln, gn⟩).Ls k = 0 := by
          intro k
          induction k with
          | zero => rfl
          | succ k ih => rw [sumQ, ih, hrep]; rfl
        show sumQ _ qn ≤ cn
        rw [hz]; omega
      have hx14 := (hx2.trans hx3).trans hx4
      obtain ⟨BB, hBB⟩ : ∃ BB : Nat → Prop, BB = fun g => w3.heap.size ≤ g := ⟨_, rfl⟩
      have hBl : ∀ x ∈ [pm, bs, bd], ¬ BB x := by intro x hx; rw [hBB]; have := hlow x hx; show ¬ _ ≤ _; omega
      rw [← hBB] at hr5
      obtain ⟨p, hp9⟩ : ∃ p : Shp, p = ⟨cn, qn, ln, gn⟩ := ⟨_, rfl⟩
      rw [← hp9] at hm4 hr5 hz
      have HOFF := Lib.hid hoff
      have HBL := Lib.hid hBl
      have HGE := Lib.hid hge
      have HM4 := Lib.hid hm4
      have HR4 := Lib.hid hr5
      have HZ := Lib.hid hz
      have HX1 := Lib.hid hX1
      have HX14 := Lib.hid hx14
      clear hm4 hr5 hr4 hz hoff hlow hge hBl hp9 hBB h24 hs12 g1 g2 g3 l1 l2 l3 l4 hp hb1 hb2 hx14 hx2 hx3 hx4 y0 y1 y2 y3 HRR9 HNW HOK HMN hX1
      go_wp2_with fail
      go_loopw [51] (fun ci wr => ∃ (k : Nat) (s : Mq), k ≤ n ∧ ci = .int .i64 k ∧ Hid (MqAt wr pm bs bd p s) ∧ Hid (RmqAt wr BB pr bq bo be p s) ∧ Hid (Okq p k s) ∧ Hid (Ext w1 wr)) (fun ci _ => n - (intOf ci).toNat)
      case atStart => exact ⟨0, newQ p, Nat.zero_le _, rfl, HM4, HR4, HZ, HX14⟩
      case round =>
        clear HM4 HR4 HZ HX14
        obtain ⟨k, s, hk, rfl, HM, HR, HO, HX⟩ := hrel
        by_cases hlt : k < n
        · obtain ⟨b, o, rfl, hb, hcell⟩ := HS.out (by omega)
          obtain ⟨e0, e1⟩ := row2_cells (HX1.out.trans HX.out) hb hcell hlt
          have hki : (k : Int) < (n : Int) := by omega
          generalize F k 0 = kd at *
          generalize F k 1 = bl at *
          clear hcell
          have hk9 : k < 254 := by omega
          have hnow : s.now < 999999 := by have := HO.out.sm.1; omega
          have hnow2 : s.now < 1000000 := by omega
          have hof : ∀ b, s.of b < 255 := fun b => by have := HO.out.sm.2 b; omega
          have HNW := Lib.hid hnow
          have HN2 := Lib.hid hnow2
          have HOFN := Lib.hid hof
          clear hnow hnow2 hof
          go_upto_region 12 with fail
          have e1 : (wr.alloc (.cells #[.int .i64 kd, .int .i64 bl] 61)).cell? ⟨wr.heap.size, 1, none⟩ = some (.int .i64 bl) := cell_new _ _ _ _ rfl
          have e0 : (wr.alloc (.cells #[.int .i64 kd, .int .i64 bl] 61)).cell? ⟨wr.heap.size, 0, none⟩ = some (.int .i64 kd) := cell_new _ _ _ _ rfl
          have hxa : Ext wr (wr.alloc (.cells #[.int .i64 kd, .int .i64 bl] 61)) := (Ext.refl wr).alloc _
          generalize (wr.alloc (.cells #[.int .i64 kd, .int .i64 bl] 61)) = w3 at *
          obtain ⟨p9, hp9⟩ : ∃ x, x = wr.heap.size := ⟨_, rfl⟩
          rw [← hp9] at e0 e1 ⊢
          have hn9 : p9 ∉ [pm, bs, bd, pr, bq, bo, be] := by
            have l1 := HM.out.obj.lt; have l2 := HM.out.space.lt1; have l3 := HM.out.space.lt2
            have l4 := HR.out.l1; have l5 := HR.out.l2; have l6 := HR.out.l3; have l7 := HR.out.l4
            simp; omega
          have N9 := Lib.hid hn9
          have HM3 := Lib.hid (HM.out.ext hxa)
          have HR3 := Lib.hid (HR.out.ext hxa)
          have HX3 := Lib.hid (HX.out.trans hxa)
          clear hp9 hn9 hxa HM HR HX
          obtain ⟨r, hr⟩ : ∃ r : Bool, (okB bl && hasQ p s bl.toNat : Bool) = r := ⟨_, rfl⟩
          have HRR := Lib.hid hr
          have hrr0 : (r != r) = false := by simp
          clear hr
          by_cases hkd : kd = 0 ∨ kd = 1 ∨ kd = 2
          · rcases hkd with rfl | rfl | rfl
            · skip
              go_upto_region 14 with fail
              go_region_held3 (fun w' => w'.cell? ⟨p9, 1, none⟩ = some (.int .i64 bl) ∧ Chg [pm, bs, bd, pr, bq, bo, be] w3 w') (exact ⟨chg_cell (S := [pm, bs, bd, pr, bq, bo, be]) (w := w3) (by repeat' (first | (with_reducible exact Chg.refl _ _) | (with_reducible assumption) | (with_reducible refine Chg.drewN ?_ _) | (with_reducible refine Chg.drew ?_) | (with_reducible refine Chg.alloc ?_ _) | (with_reducible refine Chg.setCell ?_ (.inl (by simp)) _) | (with_reducible refine Chg.trans ?_ (by assumption)) | (with_reducible refine Chg.ext ?_ (by assumption)))) e1 N9.out, (by repeat' (first | (with_reducible exact Chg.refl _ _) | (with_reducible assumption) | (with_reducible refine Chg.drewN ?_ _) | (with_reducible refine Chg.drew ?_) | (with_reducible refine Chg.alloc ?_ _) | (with_reducible refine Chg.setCell ?_ (.inl (by simp)) _) | (with_reducible refine Chg.trans ?_ (by assumption)) | (with_reducible refine Chg.ext ?_ (by assumption))))⟩) (first | (go_at_call 34; refine (muse pm bs bd p s _ (HM3.out.ext (by repeat' (first | (with_reducible exact Ext.refl _) | (with_reducible assumption) | (with_reducible refine Ext.alloc ?_ _) | (with_reducible refine Ext.drewN ?_ _) | (with_reducible refine Ext.drew ?_) | (with_reducible refine Ext.trans ?_ (by assumption))))) bl r HRR.out HN2.out HOFN.out).mono ?_; rintro e wA ⟨rfl, hmA, hcA⟩; have hcF : Chg [pm, bs, bd, pr, bq, bo, be] w3 wA := (Chg.of_ext (S := [pm, bs, bd, pr, bq, bo, be]) (by repeat' (first | (with_reducible exact Ext.refl _) | (with_reducible assumption) | (with_reducible refine Ext.alloc ?_ _) | (with_reducible refine Ext.drewN ?_ _) | (with_reducible refine Ext.drew ?_) | (with_reducible refine Ext.trans ?_ (by assumption))))).trans (hcA.mono (by intro x hx; simp at hx ⊢; omega)); have hrA : RmqAt wA BB pr bq bo be p s := (HR3.out.ext (by repeat' (first | (with_reducible exact Ext.refl _) | (with_reducible assumption) | (with_reducible refine Ext.alloc ?_ _) | (with_reducible refine Ext.drewN ?_ _) | (with_reducible refine Ext.drew ?_) | (with_reducible refine Ext.trans ?_ (by assumption))))).chg hcA HBL.out) | (go_at_call 44; refine (rquse BB pr bq bo be p s _ (hrA.ext (by repeat' (first | (with_reducible exact Ext.refl _) | (with_reducible assumption) | (with_reducible refine Ext.alloc ?_ _) | (with_reducible refine Ext.drewN ?_ _) | (with_reducible refine Ext.drew ?_) | (with_reducible refine Ext.trans ?_ (by assumption))))) HO.out.inq HO.out.b64 bl HN2.out HOFN.out r HRR.out).mono ?_; rintro e w8 ⟨rfl, hmB, hcB⟩; have hcG := hcB.mono (S' := [pm, bs, bd, pr, bq, bo, be]) (by intro x hx; simp at hx ⊢; omega); have hxAB : MqAt w8 pm bs bd p (if r then useQ p s bl.toNat else s) := (hmA.ext (by repeat' (first | (with_reducible exact Ext.refl _) | (with_reducible assumption) | (with_reducible refine Ext.alloc ?_ _) | (with_reducible refine Ext.drewN ?_ _) | (with_reducible refine Ext.drew ?_) | (with_reducible refine Ext.trans ?_ (by assumption))))).chg hcB (HOFF.out pm (by simp)) (HOFF.out bs (by simp)) (HOFF.out bd (by simp))))
              all_goals
                obtain ⟨s', hs'⟩ : ∃ s', s' = (if r then useQ p s bl.toNat else s) := ⟨_, rfl⟩
                rw [← hs'] at hmB hxAB
                have HS' := Lib.hid hs'
                have hcF9 : Chg [pm, bs, bd, pr, bq, bo, be] w3 w8 := (by repeat' (first | (with_reducible exact Chg.refl _ _) | (with_reducible assumption) | (with_reducible refine Chg.drewN ?_ _) | (with_reducible refine Chg.drew ?_) | (with_reducible refine Chg.alloc ?_ _) | (with_reducible refine Chg.setCell ?_ (.inl (by simp)) _) | (with_reducible refine Chg.trans ?_ (by assumption)) | (with_reducible refine Chg.ext ?_ (by assumption))))
                have HM8 := Lib.hid hxAB
                have HR8 := Lib.hid hmB
                have z1 := chg_cell hcF9 e1 N9.out
                have HX8 := Lib.hid (HX3.out.chg hcF9 HGE.out)
                clear hs' hxAB hmB hcB hcG hcA hrA hmA hcF hcF9
                go_wp2_with fail
                have HO8 : Hid (Okq p (k + 1) s') := Lib.hid (by rw [HS'.out]; exact HO.out.use hk9 bl r HRR.out)
                clear HS'

                obtain ⟨r9, hr9⟩ : ∃ r9 : Bool, (okB bl && hasQ p s' bl.toNat : Bool) = r9 := ⟨_, rfl⟩
                obtain ⟨o9, ho9⟩ : ∃ o9 : Nat, (if okB bl ∧ ofL s'.Ls bl.toNat ≠ none then s'.of bl.toNat else 0) = o9 := ⟨_, rfl⟩
                have HSA := Lib.hid (fun w' (hx' : Ext w8 w') => same12 pm bs bd BB pr bq bo be p s' w' (HM8.out.ext hx') (HR8.out.ext hx') HO8.out.inq HO8.out.b64)
                have HHA := Lib.hid (fun w' (hx' : Ext w8 w') => mhas pm bs bd p s' w' (HM8.out.ext hx') bl r9 hr9)
                have HOF := Lib.hid (fun w' (hx' : Ext w8 w') => rqof_has BB pr bq bo be p s' w' (HR8.out.ext hx') HO8.out.inq HO8.out.b64 bl r9 hr9)
                have HOT := Lib.hid (fun w' (hx' : Ext w8 w') => moften pm bs bd p s' w' (HM8.out.ext hx') bl o9 ho9)
                have HTI := Lib.hid (fun w' (hx' : Ext w8 w') => rqtimes BB pr bq bo be p s' w' (HR8.out.ext hx') HO8.out.inq HO8.out.b64 bl o9 ho9)
                have hrr : (r9 != r9) = false := by simp
                have hoo : ((o9 : Int) != (o9 : Int)) = false := by simp
                clear hr9 ho9
                go_upto_region 24 with fail
                go_region_held3 (fun w' => w'.cell? ⟨p9, 1, none⟩ = some (.int .i64 bl) ∧ Ext w8 w') (exact ⟨Ext.cellv (w := w8) (by repeat' (first | (with_reducible exact Ext.refl _) | (with_reducible assumption) | (with_reducible refine Ext.alloc ?_ _) | (with_reducible refine Ext.drewN ?_ _) | (with_reducible refine Ext.drew ?_) | (with_reducible refine Ext.trans ?_ (by assumption)))) z1, (by repeat' (first | (with_reducible exact Ext.refl _) | (with_reducible assumption) | (with_reducible refine Ext.alloc ?_ _) | (with_reducible refine Ext.drewN ?_ _) | (with_reducible refine Ext.drew ?_) | (with_reducible refine Ext.trans ?_ (by assumption))))⟩) (first | (go_at_call 47; refine (HSA.out _ (by repeat' (first | (with_reducible exact Ext.refl _) | (with_reducible assumption) | (with_reducible refine Ext.alloc ?_ _) | (with_reducible refine Ext.drewN ?_ _) | (with_reducible refine Ext.drew ?_) | (with_reducible refine Ext.trans ?_ (by assumption))))).mono ?_; rintro e wG ⟨rfl, hxG⟩) | (go_at_call 40; refine (HHA.out _ (by repeat' (first | (with_reducible exact Ext.refl _) | (with_reducible assumption) | (with_reducible refine Ext.alloc ?_ _) | (with_reducible refine Ext.drewN ?_ _) | (with_reducible refine Ext.drew ?_) | (with_reducible refine Ext.trans ?_ (by assumption))))).mono ?_; rintro e wH ⟨rfl, rfl⟩) | (go_at_call 48; refine (HOF.out _ (by repeat' (first | (with_reducible exact Ext.refl _) | (with_reducible assumption) | (with_reducible refine Ext.alloc ?_ _) | (with_reducible refine Ext.drewN ?_ _) | (with_reducible refine Ext.drew ?_) | (with_reducible refine Ext.trans ?_ (by assumption))))).mono ?_; rintro e wI ⟨q9, rfl, hq9, hxI⟩) | (go_at_call 32; refine (HOT.out _ (by repeat' (first | (with_reducible exact Ext.refl _) | (with_reducible assumption) | (with_reducible refine Ext.alloc ?_ _) | (with_reducible refine Ext.drewN ?_ _) | (with_reducible refine Ext.drew ?_) | (with_reducible refine Ext.trans ?_ (by assumption))))).mono ?_; rintro e wJ ⟨rfl, rfl⟩) | (go_at_call 49; refine (HTI.out _ (by repeat' (first | (with_reducible exact Ext.refl _) | (with_reducible assumption) | (with_reducible refine Ext.alloc ?_ _) | (with_reducible refine Ext.drewN ?_ _) | (with_reducible refine Ext.drew ?_) | (with_reducible refine Ext.trans ?_ (by assumption))))).mono ?_; rintro e wK ⟨rfl, hxK⟩))
                all_goals
                  go_wp2_with fail
                  go_roundw
                  case rel => exact ⟨k + 1, s', by omega, by go_num, Lib.hid (HM8.out.ext (by repeat' (first | (with_reducible exact Ext.refl _) | (with_reducible assumption) | (with_reducible refine Ext.alloc ?_ _) | (with_reducible refine Ext.drewN ?_ _) | (with_reducible refine Ext.drew ?_) | (with_reducible refine Ext.trans ?_ (by assumption))))), Lib.hid (HR8.out.ext (by repeat' (first | (with_reducible exact Ext.refl _) | (with_reducible assumption) | (with_reducible refine Ext.alloc ?_ _) | (with_reducible refine Ext.drewN ?_ _) | (with_reducible refine Ext.drew ?_) | (with_reducible refine Ext.trans ?_ (by assumption))))), HO8, Lib.hid (HX8.out.trans (by repeat' (first | (with_reducible exact Ext.refl _) | (with_reducible assumption) | (with_reducible refine Ext.alloc ?_ _) | (with_reducible refine Ext.drewN ?_ _) | (with_reducible refine Ext.drew ?_) | (with_reducible refine Ext.trans ?_ (by assumption)))))⟩
                  case measure => simp [intOf]; omega
            · skip
              have e1' := e1
              go_wp2_with fail
              refine (rqadd_int BB pr bq bo be p s _ HR3.out HO.out.inq HO.out.b64 bl HNW.out HOFN.out).mono ?_
              rintro e w5 ⟨rfl, hm5, hc5⟩
              obtain ⟨V, hV⟩ : ∃ V, V = outI p s bl := ⟨_, rfl⟩
              obtain ⟨G, hG⟩ : ∃ G, G = goneI p s bl := ⟨_, rfl⟩
              obtain ⟨E, hE⟩ : ∃ E, E = errI bl := ⟨_, rfl⟩
              rw [← hV, ← hG, ← hE]
              have hc5' := hc5.mono (S' := [pm, bs, bd, pr, bq, bo, be]) (by intro x hx; simp at hx ⊢; omega)
              have e1 := chg_cell hc5' e1 N9.out
              have HMM5 := Lib.hid (HM3.out.chg hc5 (HOFF.out pm (by simp)) (HOFF.out bs (by simp)) (HOFF.out bd (by simp)))
              have HMR5 := Lib.hid hm5
              have HCC5 := Lib.hid hc5'
              have HMA := Lib.hid (fun w' hx' => madd_int pm bs bd p s w' (HMM5.out.ext hx') bl HN2.out HOFN.out)
              rw [← hV, ← hG, ← hE] at HMA
              clear hV hG hE hm5 hc5 hc5' e0 e1'
              go_upto_region 18 with fail
              have k0 : (w5.alloc (.cells #[.int .i64 V, .bool G, .int .i64 E] 76)).cell? ⟨w5.heap.size, 0, none⟩ = some (.int .i64 V) := cell_new _ _ _ _ rfl
              have k1 : (w5.alloc (.cells #[.int .i64 V, .bool G, .int .i64 E] 76)).cell? ⟨w5.heap.size, 1, none⟩ = some (.bool G) := cell_new _ _ _ _ rfl
              have k2 : (w5.alloc (.cells #[.int .i64 V, .bool G, .int .i64 E] 76)).cell? ⟨w5.heap.size, 2, none⟩ = some (.int .i64 E) := cell_new _ _ _ _ rfl
              have hx56 : Ext w5 (w5.alloc (.cells #[.int .i64 V, .bool G, .int .i64 E] 76)) := (Ext.refl _).alloc _
              generalize (w5.alloc (.cells #[.int .i64 V, .bool G, .int .i64 E] 76)) = w6 at *
              obtain ⟨pw, hpw⟩ : ∃ x, x = w5.heap.size := ⟨_, rfl⟩
              rw [← hpw] at k0 k1 k2 ⊢
              have hnw : pw ∉ [pm, bs, bd] := by
                have l1 := HMM5.out.obj.lt; have l2 := HMM5.out.space.lt1; have l3 := HMM5.out.space.lt2
                simp; omega
              have e1 := hx56.cellv e1
              have NW := Lib.hid hnw
              clear hpw hnw
              go_wp2_with fail
              refine (HMA.out _ hx56).mono ?_
              rintro e w8 ⟨rfl, hm8, hc8⟩
              have k0 := chg_cell hc8 k0 NW.out
              have k1 := chg_cell hc8 k1 NW.out
              have k2 := chg_cell hc8 k2 NW.out
              have hc8' := hc8.mono (S' := [pm, bs, bd, pr, bq, bo, be]) (by intro x hx; simp at hx ⊢; omega)
              have z1 := chg_cell hc8' e1 N9.out
              have HR8 := Lib.hid ((HMR5.out.ext hx56).chg hc8 HBL.out)
              have HM8 := Lib.hid hm8
              have HX8 := Lib.hid (HX3.out.chg (HCC5.out.trans ((Chg.of_ext hx56).trans hc8')) HGE.out)
              have HO8 : Hid (Okq p (k + 1) (addI p s bl)) := Lib.hid (HO.out.add hk9 bl)
              obtain ⟨s', hs'⟩ : ∃ s', s' = addI p s bl := ⟨_, rfl⟩
              rw [← hs'] at HR8 HM8 HO8
              have hvv : (V != V) = false := by simp
              have hvi : ((V : Int) != (V : Int)) = false := by simp
              have hgg : (G != G) = false := by simp
              have hee : (E != E) = false := by simp
              clear hs' hm8 hc8 hc8' e1 hx56 HMM5 HMR5 HCC5
              go_wp2_with fail
              clear k0 k1 k2 hvv hvi hgg hee

              obtain ⟨r9, hr9⟩ : ∃ r9 : Bool, (okB bl && hasQ p s' bl.toNat : Bool) = r9 := ⟨_, rfl⟩
              obtain ⟨o9, ho9⟩ : ∃ o9 : Nat, (if okB bl ∧ ofL s'.Ls bl.toNat ≠ none then s'.of bl.toNat else 0) = o9 := ⟨_, rfl⟩
              have HSA := Lib.hid (fun w' (hx' : Ext w8 w') => same12 pm bs bd BB pr bq bo be p s' w' (HM8.out.ext hx') (HR8.out.ext hx') HO8.out.inq HO8.out.b64)
              have HHA := Lib.hid (fun w' (hx' : Ext w8 w') => mhas pm bs bd p s' w' (HM8.out.ext hx') bl r9 hr9)
              have HOF := Lib.hid (fun w' (hx' : Ext w8 w') => rqof_has BB pr bq bo be p s' w' (HR8.out.ext hx') HO8.out.inq HO8.out.b64 bl r9 hr9)
              have HOT := Lib.hid (fun w' (hx' : Ext w8 w') => moften pm bs bd p s' w' (HM8.out.ext hx') bl o9 ho9)
              have HTI := Lib.hid (fun w' (hx' : Ext w8 w') => rqtimes BB pr bq bo be p s' w' (HR8.out.ext hx') HO8.out.inq HO8.out.b64 bl o9 ho9)
              have hrr : (r9 != r9) = false := by simp
              have hoo : ((o9 : Int) != (o9 : Int)) = false := by simp
              clear hr9 ho9
              go_upto_region 24 with fail
              go_region_held3 (fun w' => w'.cell? ⟨p9, 1, none⟩ = some (.int .i64 bl) ∧ Ext w8 w') (exact ⟨Ext.cellv (w := w8) (by repeat' (first | (with_reducible exact Ext.refl _) | (with_reducible assumption) | (with_reducible refine Ext.alloc ?_ _) | (with_reducible refine Ext.drewN ?_ _) | (with_reducible refine Ext.drew ?_) | (with_reducible refine Ext.trans ?_ (by assumption)))) z1, (by repeat' (first | (with_reducible exact Ext.refl _) | (with_reducible assumption) | (with_reducible refine Ext.alloc ?_ _) | (with_reducible refine Ext.drewN ?_ _) | (with_reducible refine Ext.drew ?_) | (with_reducible refine Ext.trans ?_ (by assumption))))⟩) (first | (go_at_call 47; refine (HSA.out _ (by repeat' (first | (with_reducible exact Ext.refl _) | (with_reducible assumption) | (with_reducible refine Ext.alloc ?_ _) | (with_reducible refine Ext.drewN ?_ _) | (with_reducible refine Ext.drew ?_) | (with_reducible refine Ext.trans ?_ (by assumption))))).mono ?_; rintro e wG ⟨rfl, hxG⟩) | (go_at_call 40; refine (HHA.out _ (by repeat' (first | (with_reducible exact Ext.refl _) | (with_reducible assumption) | (with_reducible refine Ext.alloc ?_ _) | (with_reducible refine Ext.drewN ?_ _) | (with_reducible refine Ext.drew ?_) | (with_reducible refine Ext.trans ?_ (by assumption))))).mono ?_; rintro e wH ⟨rfl, rfl⟩) | (go_at_call 48; refine (HOF.out _ (by repeat' (first | (with_reducible exact Ext.refl _) | (with_reducible assumption) | (with_reducible refine Ext.alloc ?_ _) | (with_reducible refine Ext.drewN ?_ _) | (with_reducible refine Ext.drew ?_) | (with_reducible refine Ext.trans ?_ (by assumption))))).mono ?_; rintro e wI ⟨q9, rfl, hq9, hxI⟩) | (go_at_call 32; refine (HOT.out _ (by repeat' (first | (with_reducible exact Ext.refl _) | (with_reducible assumption) | (with_reducible refine Ext.alloc ?_ _) | (with_reducible refine Ext.drewN ?_ _) | (with_reducible refine Ext.drew ?_) | (with_reducible refine Ext.trans ?_ (by assumption))))).mono ?_; rintro e wJ ⟨rfl, rfl⟩) | (go_at_call 49; refine (HTI.out _ (by repeat' (first | (with_reducible exact Ext.refl _) | (with_reducible assumption) | (with_reducible refine Ext.alloc ?_ _) | (with_reducible refine Ext.drewN ?_ _) | (with_reducible refine Ext.drew ?_) | (with_reducible refine Ext.trans ?_ (by assumption))))).mono ?_; rintro e wK ⟨rfl, hxK⟩))
              all_goals
                go_wp2_with fail
                go_roundw
                case rel => exact ⟨k + 1, s', by omega, by go_num, Lib.hid (HM8.out.ext (by repeat' (first | (with_reducible exact Ext.refl _) | (with_reducible assumption) | (with_reducible refine Ext.alloc ?_ _) | (with_reducible refine Ext.drewN ?_ _) | (with_reducible refine Ext.drew ?_) | (with_reducible refine Ext.trans ?_ (by assumption))))), Lib.hid (HR8.out.ext (by repeat' (first | (with_reducible exact Ext.refl _) | (with_reducible assumption) | (with_reducible refine Ext.alloc ?_ _) | (with_reducible refine Ext.drewN ?_ _) | (with_reducible refine Ext.drew ?_) | (with_reducible refine Ext.trans ?_ (by assumption))))), HO8, Lib.hid (HX8.out.trans (by repeat' (first | (with_reducible exact Ext.refl _) | (with_reducible assumption) | (with_reducible refine Ext.alloc ?_ _) | (with_reducible refine Ext.drewN ?_ _) | (with_reducible refine Ext.drew ?_) | (with_reducible refine Ext.trans ?_ (by assumption)))))⟩
                case measure => simp [intOf]; omega
            · skip
              go_upto_region 22 with fail
              go_region_held3 (fun w' => w'.cell? ⟨p9, 1, none⟩ = some (.int .i64 bl) ∧ Chg [pm, bs, bd, pr, bq, bo, be] w3 w') (exact ⟨chg_cell (S := [pm, bs, bd, pr, bq, bo, be]) (w := w3) (by repeat' (first | (with_reducible exact Chg.refl _ _) | (with_reducible assumption) | (with_reducible refine Chg.drewN ?_ _) | (with_reducible refine Chg.drew ?_) | (with_reducible refine Chg.alloc ?_ _) | (with_reducible refine Chg.setCell ?_ (.inl (by simp)) _) | (with_reducible refine Chg.trans ?_ (by assumption)) | (with_reducible refine Chg.ext ?_ (by assumption)))) e1 N9.out, (by repeat' (first | (with_reducible exact Chg.refl _ _) | (with_reducible assumption) | (with_reducible refine Chg.drewN ?_ _) | (with_reducible refine Chg.drew ?_) | (with_reducible refine Chg.alloc ?_ _) | (with_reducible refine Chg.setCell ?_ (.inl (by simp)) _) | (with_reducible refine Chg.trans ?_ (by assumption)) | (with_reducible refine Chg.ext ?_ (by assumption))))⟩) (first | (go_at_call 35; refine (mremove pm bs bd p s _ (HM3.out.ext (by repeat' (first | (with_reducible exact Ext.refl _) | (with_reducible assumption) | (with_reducible refine Ext.alloc ?_ _) | (with_reducible refine Ext.drewN ?_ _) | (with_reducible refine Ext.drew ?_) | (with_reducible refine Ext.trans ?_ (by assumption))))) bl r HRR.out).mono ?_; rintro e wA ⟨rfl, hmA, hcA⟩; have hcF : Chg [pm, bs, bd, pr, bq, bo, be] w3 wA := (Chg.of_ext (S := [pm, bs, bd, pr, bq, bo, be]) (by repeat' (first | (with_reducible exact Ext.refl _) | (with_reducible assumption) | (with_reducible refine Ext.alloc ?_ _) | (with_reducible refine Ext.drewN ?_ _) | (with_reducible refine Ext.drew ?_) | (with_reducible refine Ext.trans ?_ (by assumption))))).trans (hcA.mono (by intro x hx; simp at hx ⊢; omega)); have hrA : RmqAt wA BB pr bq bo be p s := (HR3.out.ext (by repeat' (first | (with_reducible exact Ext.refl _) | (with_reducible assumption) | (with_reducible refine Ext.alloc ?_ _) | (with_reducible refine Ext.drewN ?_ _) | (with_reducible refine Ext.drew ?_) | (with_reducible refine Ext.trans ?_ (by assumption))))).chg hcA (fun x hx => HBL.out x (by simp at hx ⊢; omega))) | (go_at_call 46; refine (rqremove BB pr bq bo be p s _ (hrA.ext (by repeat' (first | (with_reducible exact Ext.refl _) | (with_reducible assumption) | (with_reducible refine Ext.alloc ?_ _) | (with_reducible refine Ext.drewN ?_ _) | (with_reducible refine Ext.drew ?_) | (with_reducible refine Ext.trans ?_ (by assumption))))) HO.out.inq HO.out.b64 bl r HRR.out).mono ?_; rintro e w8 ⟨rfl, hmB, hcB⟩; have hcG := hcB.mono (S' := [pm, bs, bd, pr, bq, bo, be]) (by intro x hx; simp at hx ⊢; omega); have hxAB : MqAt w8 pm bs bd p (if r then removeQ s bl.toNat else s) := (hmA.ext (by repeat' (first | (with_reducible exact Ext.refl _) | (with_reducible assumption) | (with_reducible refine Ext.alloc ?_ _) | (with_reducible refine Ext.drewN ?_ _) | (with_reducible refine Ext.drew ?_) | (with_reducible refine Ext.trans ?_ (by assumption))))).chg hcB (HOFF.out pm (by simp)) (HOFF.out bs (by simp)) (HOFF.out bd (by simp))))
              all_goals
                obtain ⟨s', hs'⟩ : ∃ s', s' = (if r then removeQ s bl.toNat else s) := ⟨_, rfl⟩
                rw [← hs'] at hmB hxAB
                have HS' := Lib.hid hs'
                have hcF9 : Chg [pm, bs, bd, pr, bq, bo, be] w3 w8 := (by repeat' (first | (with_reducible exact Chg.refl _ _) | (with_reducible assumption) | (with_reducible refine Chg.drewN ?_ _) | (with_reducible refine Chg.drew ?_) | (with_reducible refine Chg.alloc ?_ _) | (with_reducible refine Chg.setCell ?_ (.inl (by simp)) _) | (with_reducible refine Chg.trans ?_ (by assumption)) | (with_reducible refine Chg.ext ?_ (by assumption))))
                have HM8 := Lib.hid hxAB
                have HR8 := Lib.hid hmB
                have z1 := chg_cell hcF9 e1 N9.out
                have HX8 := Lib.hid (HX3.out.chg hcF9 HGE.out)
                clear hs' hxAB hmB hcB hcG hcA hrA hmA hcF hcF9
                go_wp2_with fail
                have HO8 : Hid (Okq p (k + 1) s') := Lib.hid (by rw [HS'.out]; exact HO.out.remove bl r)
                clear HS'

                obtain ⟨r9, hr9⟩ : ∃ r9 : Bool, (okB bl && hasQ p s' bl.toNat : Bool) = r9 := ⟨_, rfl⟩
                obtain ⟨o9, ho9⟩ : ∃ o9 : Nat, (if okB bl ∧ ofL s'.Ls bl.toNat ≠ none then s'.of bl.toNat else 0) = o9 := ⟨_, rfl⟩
                have HSA := Lib.hid (fun w' (hx' : Ext w8 w') => same12 pm bs bd BB pr bq bo be p s' w' (HM8.out.ext hx') (HR8.out.ext hx') HO8.out.inq HO8.out.b64)
                have HHA := Lib.hid (fun w' (hx' : Ext w8 w') => mhas pm bs bd p s' w' (HM8.out.ext hx') bl r9 hr9)
                have HOF := Lib.hid (fun w' (hx' : Ext w8 w') => rqof_has BB pr bq bo be p s' w' (HR8.out.ext hx') HO8.out.inq HO8.out.b64 bl r9 hr9)
                have HOT := Lib.hid (fun w' (hx' : Ext w8 w') => moften pm bs bd p s' w' (HM8.out.ext hx') bl o9 ho9)
                have HTI := Lib.hid (fun w' (hx' : Ext w8 w') => rqtimes BB pr bq bo be p s' w' (HR8.out.ext hx') HO8.out.inq HO8.out.b64 bl o9 ho9)
                have hrr : (r9 != r9) = false := by simp
                have hoo : ((o9 : Int) != (o9 : Int)) = false := by simp
                clear hr9 ho9
                go_upto_region 24 with fail
                go_region_held3 (fun w' => w'.cell? ⟨p9, 1, none⟩ = some (.int .i64 bl) ∧ Ext w8 w') (exact ⟨Ext.cellv (w := w8) (by repeat' (first | (with_reducible exact Ext.refl _) | (with_reducible assumption) | (with_reducible refine Ext.alloc ?_ _) | (with_reducible refine Ext.drewN ?_ _) | (with_reducible refine Ext.drew ?_) | (with_reducible refine Ext.trans ?_ (by assumption)))) z1, (by repeat' (first | (with_reducible exact Ext.refl _) | (with_reducible assumption) | (with_reducible refine Ext.alloc ?_ _) | (with_reducible refine Ext.drewN ?_ _) | (with_reducible refine Ext.drew ?_) | (with_reducible refine Ext.trans ?_ (by assumption))))⟩) (first | (go_at_call 47; refine (HSA.out _ (by repeat' (first | (with_reducible exact Ext.refl _) | (with_reducible assumption) | (with_reducible refine Ext.alloc ?_ _) | (with_reducible refine Ext.drewN ?_ _) | (with_reducible refine Ext.drew ?_) | (with_reducible refine Ext.trans ?_ (by assumption))))).mono ?_; rintro e wG ⟨rfl, hxG⟩) | (go_at_call 40; refine (HHA.out _ (by repeat' (first | (with_reducible exact Ext.refl _) | (with_reducible assumption) | (with_reducible refine Ext.alloc ?_ _) | (with_reducible refine Ext.drewN ?_ _) | (with_reducible refine Ext.drew ?_) | (with_reducible refine Ext.trans ?_ (by assumption))))).mono ?_; rintro e wH ⟨rfl, rfl⟩) | (go_at_call 48; refine (HOF.out _ (by repeat' (first | (with_reducible exact Ext.refl _) | (with_reducible assumption) | (with_reducible refine Ext.alloc ?_ _) | (with_reducible refine Ext.drewN ?_ _) | (with_reducible refine Ext.drew ?_) | (with_reducible refine Ext.trans ?_ (by assumption))))).mono ?_; rintro e wI ⟨q9, rfl, hq9, hxI⟩) | (go_at_call 32; refine (HOT.out _ (by repeat' (first | (with_reducible exact Ext.refl _) | (with_reducible assumption) | (with_reducible refine Ext.alloc ?_ _) | (with_reducible refine Ext.drewN ?_ _) | (with_reducible refine Ext.drew ?_) | (with_reducible refine Ext.trans ?_ (by assumption))))).mono ?_; rintro e wJ ⟨rfl, rfl⟩) | (go_at_call 49; refine (HTI.out _ (by repeat' (first | (with_reducible exact Ext.refl _) | (with_reducible assumption) | (with_reducible refine Ext.alloc ?_ _) | (with_reducible refine Ext.drewN ?_ _) | (with_reducible refine Ext.drew ?_) | (with_reducible refine Ext.trans ?_ (by assumption))))).mono ?_; rintro e wK ⟨rfl, hxK⟩))
                all_goals
                  go_wp2_with fail
                  go_roundw
                  case rel => exact ⟨k + 1, s', by omega, by go_num, Lib.hid (HM8.out.ext (by repeat' (first | (with_reducible exact Ext.refl _) | (with_reducible assumption) | (with_reducible refine Ext.alloc ?_ _) | (with_reducible refine Ext.drewN ?_ _) | (with_reducible refine Ext.drew ?_) | (with_reducible refine Ext.trans ?_ (by assumption))))), Lib.hid (HR8.out.ext (by repeat' (first | (with_reducible exact Ext.refl _) | (with_reducible assumption) | (with_reducible refine Ext.alloc ?_ _) | (with_reducible refine Ext.drewN ?_ _) | (with_reducible refine Ext.drew ?_) | (with_reducible refine Ext.trans ?_ (by assumption))))), HO8, Lib.hid (HX8.out.trans (by repeat' (first | (with_reducible exact Ext.refl _) | (with_reducible assumption) | (with_reducible refine Ext.alloc ?_ _) | (with_reducible refine Ext.drewN ?_ _) | (with_reducible refine Ext.drew ?_) | (with_reducible refine Ext.trans ?_ (by assumption)))))⟩
                  case measure => simp [intOf]; omega
          · skip
            have b0 : (kd == 0) = false := by rw [beq_eq_false_iff_ne]; omega
            have b1 : (kd == 1) = false := by rw [beq_eq_false_iff_ne]; omega
            have b2 : (kd == 2) = false := by rw [beq_eq_false_iff_ne]; omega
            obtain ⟨w8, hw8⟩ : ∃ w8, w8 = w3 := ⟨_, rfl⟩
            obtain ⟨s', hs'⟩ : ∃ s', s' = s := ⟨_, rfl⟩
            rw [← hw8, ← hs'] at HM3 HR3
            rw [← hw8] at HX3 e0 e1 ⊢
            rw [← hs'] at HO
            have HM8 := HM3
            have HR8 := HR3
            have HX8 := HX3
            have z1 := e1
            have HO8 := Lib.hid HO.out.keep
            clear hw8 hs' hkd
            go_wp2_with fail
            clear b0 b1 b2 e0 e1

            obtain ⟨r9, hr9⟩ : ∃ r9 : Bool, (okB bl && hasQ p s' bl.toNat : Bool) = r9 := ⟨_, rfl⟩
            obtain ⟨o9, ho9⟩ : ∃ o9 : Nat, (if okB bl ∧ ofL s'.Ls bl.toNat ≠ none then s'.of bl.toNat else 0) = o9 := ⟨_, rfl⟩
            have HSA := Lib.hid (fun w' (hx' : Ext w8 w') => same12 pm bs bd BB pr bq bo be p s' w' (HM8.out.ext hx') (HR8.out.ext hx') HO8.out.inq HO8.out.b64)
            have HHA := Lib.hid (fun w' (hx' : Ext w8 w') => mhas pm bs bd p s' w' (HM8.out.ext hx') bl r9 hr9)
            have HOF := Lib.hid (fun w' (hx' : Ext w8 w') => rqof_has BB pr bq bo be p s' w' (HR8.out.ext hx') HO8.out.inq HO8.out.b64 bl r9 hr9)
            have HOT := Lib.hid (fun w' (hx' : Ext w8 w') => moften pm bs bd p s' w' (HM8.out.ext hx') bl o9 ho9)
            have HTI := Lib.hid (fun w' (hx' : Ext w8 w') => rqtimes BB pr bq bo be p s' w' (HR8.out.ext hx') HO8.out.inq HO8.out.b64 bl o9 ho9)
            have hrr : (r9 != r9) = false := by simp
            have hoo : ((o9 : Int) != (o9 : Int)) = false := by simp
            clear hr9 ho9
            go_upto_region 24 with fail
            go_region_held3 (fun w' => w'.cell? ⟨p9, 1, none⟩ = some (.int .i64 bl) ∧ Ext w8 w') (exact ⟨Ext.cellv (w := w8) (by repeat' (first | (with_reducible exact Ext.refl _) | (with_reducible assumption) | (with_reducible refine Ext.alloc ?_ _) | (with_reducible refine Ext.drewN ?_ _) | (with_reducible refine Ext.drew ?_) | (with_reducible refine Ext.trans ?_ (by assumption)))) z1, (by repeat' (first | (with_reducible exact Ext.refl _) | (with_reducible assumption) | (with_reducible refine Ext.alloc ?_ _) | (with_reducible refine Ext.drewN ?_ _) | (with_reducible refine Ext.drew ?_) | (with_reducible refine Ext.trans ?_ (by assumption))))⟩) (first | (go_at_call 47; refine (HSA.out _ (by repeat' (first | (with_reducible exact Ext.refl _) | (with_reducible assumption) | (with_reducible refine Ext.alloc ?_ _) | (with_reducible refine Ext.drewN ?_ _) | (with_reducible refine Ext.drew ?_) | (with_reducible refine Ext.trans ?_ (by assumption))))).mono ?_; rintro e wG ⟨rfl, hxG⟩) | (go_at_call 40; refine (HHA.out _ (by repeat' (first | (with_reducible exact Ext.refl _) | (with_reducible assumption) | (with_reducible refine Ext.alloc ?_ _) | (with_reducible refine Ext.drewN ?_ _) | (with_reducible refine Ext.drew ?_) | (with_reducible refine Ext.trans ?_ (by assumption))))).mono ?_; rintro e wH ⟨rfl, rfl⟩) | (go_at_call 48; refine (HOF.out _ (by repeat' (first | (with_reducible exact Ext.refl _) | (with_reducible assumption) | (with_reducible refine Ext.alloc ?_ _) | (with_reducible refine Ext.drewN ?_ _) | (with_reducible refine Ext.drew ?_) | (with_reducible refine Ext.trans ?_ (by assumption))))).mono ?_; rintro e wI ⟨q9, rfl, hq9, hxI⟩) | (go_at_call 32; refine (HOT.out _ (by repeat' (first | (with_reducible exact Ext.refl _) | (with_reducible assumption) | (with_reducible refine Ext.alloc ?_ _) | (with_reducible refine Ext.drewN ?_ _) | (with_reducible refine Ext.drew ?_) | (with_reducible refine Ext.trans ?_ (by assumption))))).mono ?_; rintro e wJ ⟨rfl, rfl⟩) | (go_at_call 49; refine (HTI.out _ (by repeat' (first | (with_reducible exact Ext.refl _) | (with_reducible assumption) | (with_reducible refine Ext.alloc ?_ _) | (with_reducible refine Ext.drewN ?_ _) | (with_reducible refine Ext.drew ?_) | (with_reducible refine Ext.trans ?_ (by assumption))))).mono ?_; rintro e wK ⟨rfl, hxK⟩))
            all_goals
              go_wp2_with fail
              go_roundw
              case rel => exact ⟨k + 1, s', by omega, by go_num, Lib.hid (HM8.out.ext (by repeat' (first | (with_reducible exact Ext.refl _) | (with_reducible assumption) | (with_reducible refine Ext.alloc ?_ _) | (with_reducible refine Ext.drewN ?_ _) | (with_reducible refine Ext.drew ?_) | (with_reducible refine Ext.trans ?_ (by assumption))))), Lib.hid (HR8.out.ext (by repeat' (first | (with_reducible exact Ext.refl _) | (with_reducible assumption) | (with_reducible refine Ext.alloc ?_ _) | (with_reducible refine Ext.drewN ?_ _) | (with_reducible refine Ext.drew ?_) | (with_reducible refine Ext.trans ?_ (by assumption))))), HO8, Lib.hid (HX8.out.trans (by repeat' (first | (with_reducible exact Ext.refl _) | (with_reducible assumption) | (with_reducible refine Ext.alloc ?_ _) | (with_reducible refine Ext.drewN ?_ _) | (with_reducible refine Ext.drew ?_) | (with_reducible refine Ext.trans ?_ (by assumption)))))⟩
              case measure => simp [intOf]; omega
        · obtain rfl : k = n := by omega
          go_wp2_with fail
          go_ret
          exact ⟨rfl, HX1.out.trans HX.out⟩
    · refine (mnew_bad c q l g hok _).mono ?_
      rintro e w2 ⟨rfl, hx2⟩
      have y0 := hx2.cellv r0
      have y1 := hx2.cellv r1
      have y2 := hx2.cellv r2
      have y3 := hx2.cellv r3
      have HRR9 := Lib.hid (rqright c q l g false (decide_eq_false hok))
      clear hok r0 r1 r2 r3
      go_wp2_with fail
      refine (HRR9.out _).mono ?_
      rintro e w3 ⟨rfl, hx3⟩
      go_wp2_with fail
      go_ret
      exact ⟨rfl, (by repeat' (first | (with_reducible exact Ext.refl _) | (with_reducible assumption) | (with_reducible refine Ext.alloc ?_ _) | (with_reducible refine Ext.drewN ?_ _) | (with_reducible refine Ext.drew ?_) | (with_reducible refine Ext.trans ?_ (by assumption))))⟩
end Go.Proofs.Ytibcfmnkpemieaa
