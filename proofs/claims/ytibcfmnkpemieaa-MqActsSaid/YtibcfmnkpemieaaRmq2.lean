/-
  gradineref12: used, Use. No condition but that the MQ lies in memory, is right, and that its numbers are small.
-/
import Derived.Test.YtibcfmnkpemieaaRmq1
import Derived.Deep.Cut
import Derived.Deep.CutRange
import Derived.Lib.BitFns
namespace Go.Proofs.Ytibcfmnkpemieaa
open Go.RowKit

/-- all blocks are below 64 -/
def B64 (s : Mq) : Prop := ∀ q, ∀ x ∈ s.Ls.getD q [], x < 64
theorem len64 {s : Mq} (g : Good s.Ls) (h : B64 s) (i : Nat) : (s.Ls.getD i []).length ≤ 64 := by
  have := (g.nodup i).length_le_of_subset (show s.Ls.getD i [] ⊆ List.range 64 from fun x hx => by rw [List.mem_range]; exact h i x hx)
  simpa using this
theorem B64.place {p : Shp} {s : Mq} (h : B64 s) {b : Nat} (hb : b < 64) (hl : qOf p (s.of b) < s.Ls.length) : B64 (placeQ p s b) := by
  intro q x hx
  rcases (mem_front hl).1 hx with ⟨rfl, _⟩ | ⟨_, hm⟩
  · exact hb
  · exact h q x hm
theorem B64.step {p : Shp} {s : Mq} (h : B64 s) {q : Nat} (hq : q < p.qs) (hl : s.Ls.length = p.qs + 1) : B64 (ageStep p s q) := by
  unfold ageStep
  split
  · rename_i hc
    intro k x hx
    rcases (mem_front (show q - 1 < s.Ls.length by omega)).1 hx with ⟨rfl, _⟩ | ⟨_, hm⟩
    · exact h q _ (lastU_mem hc.1)
    · exact h k x hm
  · exact h
theorem B64.age {p : Shp} : ∀ (k q : Nat) {s : Mq}, B64 s → Inq p s → 1 ≤ q → q + k ≤ p.qs → B64 (ageQ p k q s)
  | 0, _, _, h, _, _, _ => h
  | k + 1, q, s, h, hi, q1, hq => B64.age k (q + 1) (h.step (by omega) hi.len) (hi.step q1 (by omega)) (by omega) (by omega)
theorem lastU_at {L : List Nat} (h : L ≠ []) : L.getD (L.length - 1) 0 = lastU L := by
  obtain ⟨M, x, e, ex⟩ : ∃ M x, L = M ++ [x] ∧ x = lastU L := ⟨_, _, (lastU_split h).1, rfl⟩
  rw [← ex, e]
  simp [List.getD]
theorem asInts_at {L : List Nat} {i : Nat} (h : i < L.length) : (asInts L).getD i 0 = ((L.getD i 0 : Nat) : Int) := by
  unfold asInts
  simp [List.getD, h]
theorem qOf_lt {p : Shp} (ok : ShpOk p) (n : Nat) : qOf p n < p.qs := by unfold qOf; have := ok.q1; omega
theorem bitLen_one : Lib.bitLen 1 = 1 := by decide +kernel

section
variable (B : Nat → Prop) (pr bq bo be : Nat) (p : Shp) (s : Mq) (w : World) (h : RmqAt w B pr bq bo be p s)
include h
set_option maxRecDepth 100000 in
set_option maxHeartbeats 8000000 in
theorem rqused (inq : Inq p s) (b64 : B64 s) (b : Nat) (hb : b < 64) (hn : s.now ≤ 1000000) (hf : s.of b < 255) : Calls Try.prog 71 #[.pointer (some ⟨pr, 0, none⟩), .int .i64 b] w fun e w' =>
    e = .returned (.tuple #[]) ∧ RmqAt w' B pr bq bo be p (ageQ p (p.qs - 1) 1 (placeQ p (oftenQ s b) b)) ∧ Chg [pr, bq, bo, be] w w' := by
  have H := Lib.hid h
  obtain ⟨R, hR⟩ : ∃ R, R = ageQ p (p.qs - 1) 1 (placeQ p (oftenQ s b) b) := ⟨_, rfl⟩
  rw [← hR]
  have HR := Lib.hid hR
  clear hR
  have ok := inq.ok
  have HOK := Lib.hid ok
  have HI := Lib.hid inq
  have H64 := Lib.hid b64
  have hq1 := ok.q1
  have hq8 := ok.q2
  obtain ⟨_, _, _, _, _, _, _, y5, _, _, _⟩ := h.hcells
  have yo := h.cof hb
  have yf := h.f3 b
  have hset := h.setOf hb (s.of b + 1)
  have hs1 : RmqAt (w.setCell ⟨bo, b, none⟩ (.int .i64 ((s.of b + 1 : Nat) : Int))) B pr bq bo be p (oftenQ s b) := hset
  have HS1 := Lib.hid hs1
  obtain ⟨o, ho⟩ : ∃ o, o = s.of b := ⟨_, rfl⟩
  have HO := Lib.hid ho
  rw [← ho] at yo hf HS1
  have ecast : ((o + 1 : Nat) : Int) = (o : Int) + 1 := by omega
  rw [ecast] at HS1
  have hbi : (b : Int) < 64 := by omega
  have HN := Lib.hid hn
  clear h ok inq b64 hset hs1 ho ecast hn
  go_enter Try.func71, Try.ntmps71
  go_upto_region 1 with fail
  have hC1 : Chg [pr, bq, bo, be] w (w.setCell ⟨bo, b, none⟩ (.int .i64 ((o : Int) + 1))) := (Chg.refl _ _).setCell (.inl (by simp)) _
  generalize (w.setCell ⟨bo, b, none⟩ (.int .i64 ((o : Int) + 1))) = w1 at *
  have HC1 := Lib.hid hC1
  have hc0 := HS1.out.hcells
  have yo1 := HS1.out.cof hb
  have eo : (oftenQ s b).of b = o + 1 := by unfold oftenQ updN; simp [HO.out]
  rw [eo] at yo1
  clear y5 yo yf hC1 eo
  obtain ⟨c3, vg, _, _, _, z3, _, y5, _, _, _⟩ := hc0
  obtain ⟨n, hnn⟩ : ∃ n, n = p.qs := ⟨_, rfl⟩
  have HNN := Lib.hid hnn
  rw [← hnn] at z3 hq1 hq8
  obtain ⟨N, hN⟩ : ∃ N, N = o + 1 := ⟨_, rfl⟩
  rw [← hN] at yo1
  have hN1 : 1 ≤ N := by omega
  have hN9 : N ≤ 255 := by omega
  have HNE := Lib.hid hN
  clear hnn hN hf
  go_wp2_with fail
  go_loopw [4, 5] (fun cq cn wr => ∃ q m : Nat, cq = .int .i64 q ∧ cn = .int .i64 m ∧ 1 ≤ m ∧ m ≤ N ∧ Hid (q + Lib.bitLen m = Lib.bitLen N) ∧ q + m ≤ N ∧ w1 = wr) (fun _ cn _ => (intOf cn).toNat)
  case atStart => exact ⟨0, N, rfl, rfl, hN1, Nat.le_refl _, Lib.hid (by omega), by omega, rfl⟩
  case round =>
    obtain ⟨q, m, rfl, rfl, m1, mN, HB, hqm, rfl⟩ := hrel
    by_cases hm : 1 < m
    · have hmi : (1 : Int) < (m : Int) := by omega
      have hd : ((m / 2 : Nat) : Int) = (m : Int) / 2 := by omega
      have hbl : q + 1 + Lib.bitLen (m / 2) = Lib.bitLen N := by
        have := Lib.bitLen_half m (by omega) (by have : m < 2 ^ 8 := by omega
                                                 exact Nat.lt_trans this (by decide))
        have h2 := HB.out
        omega
      have HBL := Lib.hid hbl
      have HD := Lib.hid hd
      clear hbl hd
      go_wp2_with fail
      go_roundw
      case rel => exact ⟨q + 1, m / 2, by go_num, by rw [HD.out], by omega, by omega, HBL, by omega, by first | rfl | trivial⟩
      case measure => simp [intOf]; omega
    · obtain rfl : m = 1 := by omega
      have hqv : q = Lib.bitLen N - 1 := by have := HB.out; rw [bitLen_one] at this; omega
      have HQV := Lib.hid hqv
      clear HB hqv hm
      obtain ⟨Q, hQ⟩ : ∃ Q, Q = qOf p N := ⟨_, rfl⟩
      have hQm : Q = min q (n - 1) := by rw [hQ, HQV.out, HNN.out]; rfl
      have HQ := Lib.hid hQ
      have hQn : Q < n := by omega
      clear hQ
      go_upto_if 37 with fail
      go_cut [4] from 38 to 43 (fun s4 wx => s4 = .int .i64 Q ∧ wx = w1)
      case first =>
        by_cases hgt : (n : Int) - 1 < (q : Int)
        · have eQ : (n : Int) - 1 = (Q : Int) := by omega
          have EQ := Lib.hid eQ
          clear eQ hQm
          go_wp2_with fail
          go_meet
          exact ⟨by rw [EQ.out], by first | rfl | trivial⟩
        · have eQ : q = Q := by omega
          have EQ := Lib.hid eQ
          have hle : (q : Int) ≤ (n : Int) - 1 := by omega
          clear eQ hQm
          go_wp2_with fail
          go_meet
          exact ⟨by rw [EQ.out], by first | rfl | trivial⟩
      case rest =>
        obtain ⟨rfl, rfl⟩ := hcut
        have hI1 : Inq p (oftenQ s b) := HI.out.more b
        have h64 : B64 (oftenQ s b) := H64.out
        have hofb : (oftenQ s b).of b = N := by rw [HNE.out, HO.out]; unfold oftenQ updN; simp
        have hpl : placeQ p (oftenQ s b) b = renewQ p ((oftenQ s b).inLs (frontL (oftenQ s b).Ls Q b)) b := by
          show renewQ p ((oftenQ s b).inLs (frontL (oftenQ s b).Ls (qOf p ((oftenQ s b).of b)) b)) b = _
          rw [hofb, HQ.out]
        have hIp : Inq p (placeQ p (oftenQ s b) b) := hI1.place (by rw [hofb]; exact hN1) (by rw [hofb]; omega)
        have h64p : B64 (placeQ p (oftenQ s b) b) := h64.place hb (by rw [hI1.len]; have := qOf_lt HOK.out ((oftenQ s b).of b); omega)
        have hnowp : (placeQ p (oftenQ s b) b).now ≤ 1000000 := HN.out
        have HFS := Lib.hid (rqfirst B pr bq bo be p (oftenQ s b) wc HS1.out HOK.out (len64 hI1.good h64) HN.out Q b (by rw [← HNN.out]; exact hQn) hb)
        rw [← hpl] at HFS
        have HIP := Lib.hid hIp
        have H64P := Lib.hid h64p
        have HNP := Lib.hid hnowp
        obtain ⟨sp, hsp⟩ : ∃ x, x = placeQ p (oftenQ s b) b := ⟨_, rfl⟩
        rw [← hsp] at HFS HIP H64P HNP HR
        clear hI1 h64 hofb hpl hIp h64p hnowp hsp z3 y5 yo1 HS1 HQ HQV hQm
        go_wp2_with fail
        refine HFS.out.mono ?_
        rintro e w2 ⟨rfl, hm2, hc2⟩
        have HM2 := Lib.hid hm2
        have HC2 := Lib.hid (HC1.out.trans hc2)
        clear hm2 hc2 HFS
        go_wp2_with fail
        go_loopw [6] (fun ci wr => ∃ (k q : Nat) (s' : Mq), ci = .int .i64 q ∧ q + k = n ∧ 1 ≤ q ∧ Hid (s'.now ≤ 1000000) ∧ Hid (RmqAt wr B pr bq bo be p s') ∧ Hid (Inq p s') ∧ Hid (B64 s') ∧ Hid (ageQ p k q s' = R) ∧ Hid (Chg [pr, bq, bo, be] w wr)) (fun ci _ => n - (intOf ci).toNat)
        case atStart => exact ⟨n - 1, 1, sp, rfl, by omega, by omega, HNP, HM2, HIP, H64P, Lib.hid (by rw [HR.out, HNN.out]), HC2⟩
        case round =>
          clear HM2 HC2 HNP HIP H64P HR HC1
          obtain ⟨k, q, s', rfl, hqk, hq1', HNW, HM, HIQ, HB6, HAG, HC⟩ := hrel
          obtain ⟨c0, vg, _, y1, _, y3, _, _, y6, y7, _⟩ := HM.out.hcells
          rw [← HNN.out] at y3
          have hqi0 : (1 : Int) ≤ (q : Int) := by omega
          cases k with
          | zero =>
            obtain rfl : n = q := by omega
            have hend : RmqAt wr B pr bq bo be p R := by have := HAG.out; change s' = R at this; rw [← this]; exact HM.out
            have HE := Lib.hid hend
            clear hend
            go_wp2_with fail
            go_end0
            exact ⟨rfl, HE.out, HC.out⟩
          | succ k =>
            have hqn : q < n := by omega
            have hqp : q < p.qs := by rw [← HNN.out]; exact hqn
            obtain ⟨a, cc, hv, hrow⟩ := HM.out.cell hqp
            have hl64 := len64 HIQ.out.good HB6.out q
            have HROW := Lib.hid hrow
            have hla := lastU_at (L := s'.Ls.getD q [])
            have hlm := lastU_mem (L := s'.Ls.getD q [])
            have hst : ageStep p s' q = if s'.Ls.getD q [] ≠ [] ∧ s'.ex (lastU (s'.Ls.getD q [])) < s'.now then renewQ p (s'.inLs (frontL s'.Ls (q - 1) (lastU (s'.Ls.getD q [])))) (lastU (s'.Ls.getD q [])) else s' := rfl
            have hb64l : s'.Ls.getD q [] ≠ [] → lastU (s'.Ls.getD q []) < 64 := fun h => HB6.out q _ (hlm h)
            obtain ⟨L, hL⟩ : ∃ L, L = s'.Ls.getD q [] := ⟨_, rfl⟩
            rw [← hL] at hv HROW hl64 hla hst hb64l
            have hqi : (q : Int) < (n : Int) := by omega
            have hag2 : ageQ p k (q + 1) (ageStep p s' q) = R := HAG.out
            have HAG2 := Lib.hid hag2
            have hnx := ageStep_now p s' q
            have HNX : Hid ((ageStep p s' q).now ≤ 1000000) := Lib.hid (by rw [hnx]; exact HNW.out)
            have HIX : Hid (Inq p (ageStep p s' q)) := Lib.hid (HIQ.out.step hq1' hqp)
            have HBX : Hid (B64 (ageStep p s' q)) := Lib.hid (HB6.out.step hqp HIQ.out.len)
            obtain ⟨sx, hsx⟩ : ∃ x, x = ageStep p s' q := ⟨_, rfl⟩
            rw [← hsx] at hst HAG2 HNX HIX HBX
            have HST := Lib.hid hst
            have HQP := Lib.hid hqp
            clear hrow hL hlm hag2 hnx hsx hst hqp
            by_cases hL0 : L = []
            · subst hL0
              have hsx : sx = s' := by rw [HST.out, if_neg (by simp)]
              subst hsx
              rw [List.length_nil] at hv
              have hgd : decide ((0 : Int) < 0) = false := by decide
              clear hla hb64l
              go_wp2_with fail
              go_quiet (fail)
              go_wp2_with fail
              go_roundw
              case rel => exact ⟨k, q + 1, sx, by go_num, by omega, by omega, HNX, Lib.hid (HM.out.ext (by repeat' (first | (with_reducible exact Ext.refl _) | (with_reducible assumption) | (with_reducible refine Ext.alloc ?_ _) | (with_reducible refine Ext.drewN ?_ _) | (with_reducible refine Ext.drew ?_) | (with_reducible refine Ext.trans ?_ (by assumption))))), HIX, HBX, HAG2, Lib.hid (HC.out.ext (by repeat' (first | (with_reducible exact Ext.refl _) | (with_reducible assumption) | (with_reducible refine Ext.alloc ?_ _) | (with_reducible refine Ext.drewN ?_ _) | (with_reducible refine Ext.drew ?_) | (with_reducible refine Ext.trans ?_ (by assumption)))))⟩
              case measure => simp [intOf]; omega
            · have hx64 := hb64l hL0
              have hlast := hla hL0
              obtain ⟨m, hm⟩ : ∃ m, L.length = m + 1 := ⟨L.length - 1, by have := List.length_pos_iff.2 hL0; omega⟩
              rw [hm] at hv hlast hl64
              rw [Nat.add_sub_cancel] at hlast
              obtain ⟨a', c', e', _, _, _, hcl⟩ := HROW.out.1.parts
              rw [asInts_len, hm] at e'
              rw [hm] at HROW
              cases e'
              obtain ⟨b5, o5, rfl, hb5, hcl⟩ := hcl (by intro e; have := congrArg List.length e; rw [asInts_len, hm] at this; simp at this)
              have hce := hcl m (by rw [asInts_len]; omega)
              rw [asInts_at (by omega), hlast] at hce
              have hx := HM.out.cex hx64
              obtain ⟨x, hxx⟩ : ∃ x, x = lastU L := ⟨_, rfl⟩
              rw [← hxx] at hce hx HST hx64
              obtain ⟨ex, hex⟩ : ∃ y, y = s'.ex x := ⟨_, rfl⟩
              obtain ⟨nw, hnw⟩ : ∃ y, y = s'.now := ⟨_, rfl⟩
              rw [← hex] at hx
              rw [← hnw] at y7
              have HEX := Lib.hid hex
              have HNW9 := Lib.hid hnw
              have HL0 := Lib.hid hL0
              have hm0 : (0 : Int) < (m : Int) + 1 := by omega
              have hv : wr.cell? ⟨bq, q, none⟩ = some (.slice (some ⟨b5, o5, none⟩) (m + 1) cc) := hv
              have hgd : decide ((0 : Int) < (m : Int) + 1) = true := decide_eq_true hm0
              have hxi : (x : Int) < 64 := by omega
              clear hla hb64l hlast hxx hex hnw hL0 hm hcl
              by_cases hlt : ex < nw
              · have hlti : (ex : Int) < (nw : Int) := by omega
                have hltb : decide ((ex : Int) < (nw : Int)) = true := decide_eq_true hlti
                have hsx : sx = renewQ p (s'.inLs (frontL s'.Ls (q - 1) x)) x := by rw [HST.out, if_pos ⟨HL0.out, by rw [← HEX.out, ← HNW9.out]; exact hlt⟩]
                obtain ⟨q', rfl⟩ : ∃ q', q = q' + 1 := ⟨q - 1, by omega⟩
                have HFX := Lib.hid (fun w' (hx' : Ext wr w') => rqfirst B pr bq bo be p s' w' (HM.out.ext hx') HOK.out (len64 HIQ.out.good HB6.out) HNW.out q' x (by have := HQP.out; omega) hx64)
                rw [Nat.add_sub_cancel] at hsx
                rw [← hsx] at HFX
                clear hsx
                go_wp2_with fail
                go_quiet (fail)
                have hxq : Ext wr (wr.drewN nq) := (Ext.refl wr).drewN nq
                have y3 := hxq.cellv y3
                have hv := hxq.cellv hv
                have hce := hxq.cellv hce
                generalize wr.drewN nq = w4 at *
                clear y1 y6 y7 hx
                go_wp2_with fail
                refine (HFX.out _ (by repeat' (first | (with_reducible exact Ext.refl _) | (with_reducible assumption) | (with_reducible refine Ext.alloc ?_ _) | (with_reducible refine Ext.drewN ?_ _) | (with_reducible refine Ext.drew ?_) | (with_reducible refine Ext.trans ?_ (by assumption))))).mono ?_
                rintro e w5 ⟨rfl, hm5, hc5⟩
                have HM5 := Lib.hid hm5
                have HC5 := Lib.hid ((HC.out.ext hxq).trans hc5)
                clear hm5 hc5 HFX
                go_wp2_with fail
                go_roundw
                case rel => exact ⟨k, q' + 1 + 1, sx, by go_num, by omega, by omega, HNX, HM5, HIX, HBX, HAG2, HC5⟩
                case measure => simp [intOf]; omega
              · have hlti : ¬ (ex : Int) < (nw : Int) := by omega
                have hltb : decide ((ex : Int) < (nw : Int)) = false := decide_eq_false hlti
                have hsx : sx = s' := by rw [HST.out, if_neg (fun h => hlt (by have := h.2; rw [← HEX.out, ← HNW9.out] at this; exact this))]
                subst hsx
                go_wp2_with fail
                go_quiet (fail)
                go_wp2_with fail
                go_roundw
                case rel => exact ⟨k, q + 1, sx, by go_num, by omega, by omega, HNX, Lib.hid (HM.out.ext (by repeat' (first | (with_reducible exact Ext.refl _) | (with_reducible assumption) | (with_reducible refine Ext.alloc ?_ _) | (with_reducible refine Ext.drewN ?_ _) | (with_reducible refine Ext.drew ?_) | (with_reducible refine Ext.trans ?_ (by assumption))))), HIX, HBX, HAG2, Lib.hid (HC.out.ext (by repeat' (first | (with_reducible exact Ext.refl _) | (with_reducible assumption) | (with_reducible refine Ext.alloc ?_ _) | (with_reducible refine Ext.drewN ?_ _) | (with_reducible refine Ext.drew ?_) | (with_reducible refine Ext.trans ?_ (by assumption)))))⟩
                case measure => simp [intOf]; omega

set_option maxHeartbeats 4000000 in
theorem rquse (inq : Inq p s) (b64 : B64 s) (b : Int) (hn : s.now < 1000000) (hf : ∀ b, s.of b < 255) (r : Bool) (hr : (okB b && hasQ p s b.toNat : Bool) = r) : Calls Try.prog 44 #[.pointer (some ⟨pr, 0, none⟩), .int .i64 b] w fun e w' =>
    e = .returned (.bool r) ∧ RmqAt w' B pr bq bo be p (if r then useQ p s b.toNat else s) ∧ Chg [pr, bq, bo, be] w w' := by
  have H := Lib.hid h
  have HI := Lib.hid inq
  have H64 := Lib.hid b64
  have HOF := Lib.hid (fun w' hw => rqof B pr bq bo be p s w' (h.ext hw) inq.ok.q2 b)
  have hplace : ∀ q, QPlace p s b q → (q < 0 ↔ r = false) ∧ (r = true → 0 ≤ q) := by
    intro q hq
    rcases hq with ⟨rfl, hno⟩ | ⟨i, hi, rfl, hm⟩
    · have : r = false := by
        rw [← hr, Bool.and_eq_false_iff]
        by_cases hb : okB b
        · right
          rw [Bool.eq_false_iff]
          intro hh
          obtain ⟨q, hq, hm⟩ := (has_mem inq).1 hh
          refine hno q hq ?_
          unfold asInts
          rw [List.mem_map]
          exact ⟨b.toNat, hm, by have := hb.1; omega⟩
        · left; exact decide_eq_false hb
      subst this
      exact ⟨by simp, by simp⟩
    · have hb : okB b := by
        unfold asInts at hm
        rw [List.mem_map] at hm
        obtain ⟨x, hx, rfl⟩ := hm
        have := b64 i x hx
        exact ⟨by omega, by omega⟩
      have : r = true := by
        rw [← hr, Bool.and_eq_true]
        refine ⟨decide_eq_true hb, (has_mem inq).2 ⟨i, hi, ?_⟩⟩
        unfold asInts at hm
        rw [List.mem_map] at hm
        obtain ⟨x, hx, rfl⟩ := hm
        simpa using hx
      subst this
      exact ⟨by simp, fun _ => by omega⟩
  have HPL := Lib.hid hplace
  have HR := Lib.hid hr
  have hn9 : (s.now : Int) ≤ 999999 := by omega
  have HN := Lib.hid hn
  have HF := Lib.hid hf
  clear h inq b64 hplace hr hn hf
  go_enter Try.func44, Try.ntmps44
  go_wp2_with fail
  refine (HOF.out _ (Ext.refl _)).mono ?_
  rintro e w1 ⟨q, rfl, hq, hx1⟩
  obtain ⟨h1, h2⟩ := HPL.out q hq
  cases r
  · have hq0 : q < 0 := h1.2 rfl
    clear h1 h2 hq
    go_wp2_with fail
    go_ret
    exact ⟨rfl, H.out.ext hx1, Chg.of_ext hx1⟩
  · have hq0 : 0 ≤ q := h2 rfl
    clear h1 h2 hq
    have hm1 := H.out.ext hx1
    obtain ⟨_, _, _, _, _, _, _, _, _, y7, _⟩ := hm1.hcells
    have yf := hm1.f1 7
    have hset : RmqAt (w1.setCell ⟨pr, 7, none⟩ (.int .i64 ((s.now + 1 : Nat) : Int))) B pr bq bo be p (tickQ s) := hm1.setNow (s.now + 1)
    have hok : okB b := by have := HR.out; rw [Bool.and_eq_true] at this; exact of_decide_eq_true this.1
    have hh : hasQ p s b.toNat = true := by have := HR.out; rw [Bool.and_eq_true] at this; exact this.2
    obtain ⟨y, rfl⟩ := Int.eq_ofNat_of_zero_le hok.1
    rw [Int.toNat_natCast] at hh
    have hy : y < 64 := by have := hok.2; omega
    have hus : useQ p s y = ageQ p (p.qs - 1) 1 (placeQ p (oftenQ (tickQ s) y) y) := by unfold useQ; rw [if_pos hh]
    have ecast : ((s.now + 1 : Nat) : Int) = (s.now : Int) + 1 := by omega
    rw [ecast] at hset
    have HSET := Lib.hid hset
    have HUS := Lib.hid hus
    obtain ⟨nw, hnw⟩ : ∃ x, x = s.now := ⟨_, rfl⟩
    rw [← hnw] at y7 HSET hn9
    clear hm1 hset hh hus ecast hok hnw
    go_upto_region 4 with fail
    have hC1 : Chg [pr, bq, bo, be] w (w1.setCell ⟨pr, 7, none⟩ (.int .i64 ((nw : Int) + 1))) := (Chg.of_ext hx1).setCell (.inl (by simp)) _
    generalize (w1.setCell ⟨pr, 7, none⟩ (.int .i64 ((nw : Int) + 1))) = w2 at *
    clear y7 yf hx1
    go_wp2_with fail
    refine (rqused B pr bq bo be p (tickQ s) w2 HSET.out HI.out.tick H64.out y hy (by have := HN.out; show s.now + 1 ≤ _; omega) (HF.out y)).mono ?_
    rintro e w3 ⟨rfl, hm3, hc3⟩
    go_wp2_with fail
    go_ret
    exact ⟨rfl, by rw [HUS.out]; exact hm3, hC1.trans hc3⟩
end
end Go.Proofs.Ytibcfmnkpemieaa
