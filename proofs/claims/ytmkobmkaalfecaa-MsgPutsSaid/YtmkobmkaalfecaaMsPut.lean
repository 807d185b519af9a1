/-
  msg.Put: a message's bytes. No condition but that the slice reads.
-/
import Derived.Test.YtmkobmkaalfecaaMsOk
import Derived.Test.YtmkobmkaalfecaaRawRef
namespace Go.Proofs.Ytmkobmkaalfecaa
open Go.RowKit

/-- the bytes of a field -/
def fB (N : Nat → Int) (g : Bool) (t : List Int) (f : Nat) : List Int := if f = 9 then [bit g] else if f = 10 then enc t.length ++ t else enc (N f).toNat
/-- the bytes of a message -/
def mB (K : Int) (N : Nat → Int) (g : Bool) (t : List Int) : List Int := enc K.toNat ++ (fieldsOf K).flatMap (fB N g t)
theorem MOk.num {K : Int} {N : Nat → Int} {g : Bool} {n : Nat} (h : MOk K N g n) {f : Nat} (h1 : 1 ≤ f) (h8 : f ≤ 8) : 0 ≤ N f ∧ N f ≤ 1099511627776 := by
  have := h.2 f h1 (by omega)
  unfold fOk fRight at this
  rw [if_neg (by omega), if_neg (by omega), Bool.and_eq_true] at this
  have h2 := of_decide_eq_true this.1
  refine ⟨h2.1, Int.le_trans h2.2 ?_⟩
  unfold mostF
  repeat' split
  all_goals omega
theorem MOk.len {K : Int} {N : Nat → Int} {g : Bool} {n : Nat} (h : MOk K N g n) : n ≤ 64 := by
  have := h.2 10 (by omega) (by omega)
  unfold fOk fRight at this
  rw [if_neg (by omega), if_pos rfl, Bool.and_eq_true] at this
  exact of_decide_eq_true this.1
theorem MOk.kind {K : Int} {N : Nat → Int} {g : Bool} {n : Nat} (h : MOk K N g n) : 1 ≤ K ∧ K ≤ 14 := by
  have := h.1
  unfold kindN at this
  split at this
  · assumption
  · exact absurd rfl this
theorem fields_bd (k : Int) : ∀ x ∈ fieldsOf k, 1 ≤ x ∧ x ≤ 10 := by
  rw [← upto_all]
  intro x hx
  have := List.mem_range'_1.1 (List.mem_filter.1 hx).1
  omega
theorem fields_le (k : Int) : (fieldsOf k).length ≤ 10 := fields_len (kindN k) (kindN_lt k)
theorem enc_len9 {x : Int} (h : x ≤ 1099511627776) : (enc x.toNat).length ≤ 9 := enc_len_le 8 x.toNat (by omega)
theorem fB_len {K : Int} {N : Nat → Int} {g : Bool} {t : List Int} (h : MOk K N g t.length) {f : Nat} (h1 : 1 ≤ f) (h10 : f ≤ 10) : (fB N g t f).length ≤ 100 := by
  unfold fB
  split
  · simp
  · split
    · have h2 := h.len
      have := enc_len_le 8 t.length (by omega)
      rw [List.length_append]; omega
    · have := enc_len9 (h.num h1 (by omega)).2
      omega
theorem flat_len {F : Nat → List Int} {M : Nat} : ∀ l : List Nat, (∀ f ∈ l, (F f).length ≤ M) → (l.flatMap F).length ≤ M * l.length := by
  intro l
  induction l with
  | nil => intro _; simp
  | cons x t ih =>
    intro h
    have h1 := h x List.mem_cons_self
    have h2 := ih (fun f hf => h f (List.mem_cons_of_mem _ hf))
    rw [List.flatMap_cons, List.length_append, List.length_cons, Nat.mul_add]
    omega
theorem mB_part {K : Int} {N : Nat → Int} {g : Bool} {t : List Int} (h : MOk K N g t.length) (k : Nat) : (enc K.toNat ++ ((fieldsOf K).take k).flatMap (fB N g t)).length ≤ 1100 := by
  have h1 := h.kind
  have h2 := enc_len9 (x := K) (by omega)
  have h3 := flat_len (M := 100) ((fieldsOf K).take k) (F := fB N g t) (fun f hf => by
    have := fields_bd K f (List.mem_of_mem_take hf)
    exact fB_len h this.1 this.2)
  have h4 := fields_le K
  have h5 : ((fieldsOf K).take k).length ≤ 10 := by rw [List.length_take]; omega
  have h6 : 100 * ((fieldsOf K).take k).length ≤ 1000 := by omega
  rw [List.length_append]; omega

theorem mput_bad (K : Int) (N : Nat → Int) (g : Bool) (a : Option Addr) (n c : Nat) (w : World) (hn : n ≤ maxLen) (hno : ¬ MOk K N g n) :
    Calls Try.prog 44 #[msgV K N g (.slice a n c)] w fun e w' => e = .returned (.tuple #[.slice none 0 0, .int .i64 6]) ∧ Ext w w' := by
  have HM := Lib.hid (fun w => mright K N g a n c w hn false (by simp [hno]))
  clear hno hn
  unfold msgV mrow at *
  go_enter Try.func44, Try.ntmps44
  go_wp2_with fail
  refine (HM.out _).mono ?_
  rintro e w1 ⟨rfl, hx1⟩
  go_wp2_with fail
  go_ret2
  exact ⟨rfl, (by repeat' (first | (with_reducible exact Ext.refl _) | (with_reducible assumption) | (with_reducible refine Ext.alloc ?_ _) | (with_reducible refine Ext.drewN ?_ _) | (with_reducible refine Ext.drew ?_) | (with_reducible refine Ext.trans ?_ (by assumption))))⟩

set_option maxRecDepth 100000 in
set_option maxHeartbeats 2000000 in
theorem mput_ok (K : Int) (N : Nat → Int) (g : Bool) (v : Value) (t : List Int) (w : World) (h : RdI .u8 w v t) (ok : MOk K N g t.length) :
    Calls Try.prog 44 #[msgV K N g v] w fun e w' => ∃ v', e = .returned (.tuple #[v', .int .i64 0]) ∧ OwnI .u8 5 w.heap.size w' v' (mB K N g t) ∧ Ext w w' := by
  have HT := Lib.hid h
  obtain ⟨a, c, rfl, hc, hm, hn, hs⟩ := h.parts
  have HR := Lib.hid (fun w => mright K N g a t.length c w (by omega) true (by simp [ok]))
  have HOK := Lib.hid ok
  obtain ⟨k1, k14⟩ := ok.kind
  obtain ⟨n, hnn⟩ : ∃ n, n = t.length := ⟨_, rfl⟩
  have HN := Lib.hid hnn
  rw [← hnn] at HR HT ⊢
  obtain ⟨v, hv⟩ : ∃ v, v = Value.slice a n c := ⟨_, rfl⟩
  rw [← hv] at HR HT ⊢
  clear hnn hc hm hn hs h ok hv
  unfold msgV at *
  go_enter Try.func44, Try.ntmps44
  unfold mrow
  go_wp2_with fail
  have HM := msg_new w K N g v
  have hX0 : Ext w (w.alloc (.cells (mrow K N g v) 62)) := (by repeat' (first | (with_reducible exact Ext.refl _) | (with_reducible assumption) | (with_reducible refine Ext.alloc ?_ _) | (with_reducible refine Ext.drewN ?_ _) | (with_reducible refine Ext.drew ?_) | (with_reducible refine Ext.trans ?_ (by assumption))))
  unfold mrow at HM hX0
  generalize (w.alloc (.cells #[.int .i64 K, .int .i64 (N 1), .int .i64 (N 2), .int .i64 (N 3), .int .i64 (N 4), .int .i64 (N 5), .int .i64 (N 6), .int .i64 (N 7), .int .i64 (N 8), .bool g, v] 62)) = w0 at *
  refine (HR.out _).mono ?_
  rintro e w1 ⟨rfl, hx1⟩
  have HM1 := HM.ext hx1
  have hX1 : Ext w w1 := (by repeat' (first | (with_reducible exact Ext.refl _) | (with_reducible assumption) | (with_reducible refine Ext.alloc ?_ _) | (with_reducible refine Ext.drewN ?_ _) | (with_reducible refine Ext.drew ?_) | (with_reducible refine Ext.trans ?_ (by assumption))))
  clear HM hx1 hX0
  have c0 := HM1.kind
  go_wp2_with fail
  refine (put_any (.slice none 0 0) [] K _ (RdI.nil _ _) (fits_small (by simp)) (by omega) (by omega)).mono ?_
  rintro e w2 ⟨v2, rfl, ho2, hx2⟩
  have HM2 := HM1.ext hx2
  have hX2 : Ext w w2 := (by repeat' (first | (with_reducible exact Ext.refl _) | (with_reducible assumption) | (with_reducible refine Ext.alloc ?_ _) | (with_reducible refine Ext.drewN ?_ _) | (with_reducible refine Ext.drew ?_) | (with_reducible refine Ext.trans ?_ (by assumption))))
  have ho2 := ho2.mono hX1.size
  rw [List.nil_append] at ho2
  clear HM1 hx2 c0
  have c0 := HM2.kind
  go_wp2_with fail
  refine (mfields K _).mono ?_
  rintro e w3 ⟨v3, rfl, ho3, hx3⟩
  have HM3 := Lib.hid (HM2.ext hx3)
  have hX3 : Ext w w3 := (by repeat' (first | (with_reducible exact Ext.refl _) | (with_reducible assumption) | (with_reducible refine Ext.alloc ?_ _) | (with_reducible refine Ext.drewN ?_ _) | (with_reducible refine Ext.drew ?_) | (with_reducible refine Ext.trans ?_ (by assumption))))
  have ho2 := ho2.ext hx3
  have hr3 := ho3.rd
  obtain ⟨a3, q3, hv3, hq3, hm3, _, hcell⟩ := hr3.parts
  rw [zints_len] at hv3 hq3 hcell
  have hle := fields_le K
  obtain ⟨m, hm⟩ : ∃ m, m = (fieldsOf K).length := ⟨_, rfl⟩
  rw [← hm] at hv3 hq3 hcell hle
  subst hv3
  have HC := Lib.hid hcell
  have HME := Lib.hid hm
  clear HM2 hx3 c0 ho3 hcell hm hm3 hr3
  go_wp2_with fail
  go_loopw [4, 19] (fun vb vi wr => ∃ k : Nat, k ≤ m ∧ vi = .int .i64 k ∧ OwnI .u8 5 w.heap.size wr vb (enc K.toNat ++ ((fieldsOf K).take k).flatMap (fB N g t)) ∧ Ext w3 wr) (fun _ vi _ => m - (intOf vi).toNat)
  case atStart => exact ⟨0, by omega, rfl, by simpa using ho2, Ext.refl _⟩
  case round =>
    obtain ⟨k, hk, rfl, ho, hx⟩ := hrel
    have HO := Lib.hid ho
    clear ho
    by_cases hlt : k < m
    · have hkl : k < (fieldsOf K).length := by rw [← HME.out]; exact hlt
      obtain ⟨b3, o3, ha3, hb3, hcell⟩ := HC.out (by intro e; have h5 := zints_len (fieldsOf K); rw [e, List.length_nil] at h5; omega)
      subst ha3
      have hce := hx.cellv (hcell k hlt)
      rw [zints_at hkl] at hce
      clear hcell hb3
      have hfm : (fieldsOf K).getD k 0 ∈ fieldsOf K := by rw [List.getD_eq_getElem?_getD, List.getElem?_eq_getElem hkl]; exact List.getElem_mem hkl
      obtain ⟨f1, f10⟩ := fields_bd K _ hfm
      have hstep : enc K.toNat ++ ((fieldsOf K).take (k + 1)).flatMap (fB N g t) = (enc K.toNat ++ ((fieldsOf K).take k).flatMap (fB N g t)) ++ fB N g t ((fieldsOf K).getD k 0) := by
        rw [List.take_succ_eq_append_getElem hkl, List.flatMap_append, ← List.append_assoc]
        congr 1
        simp [List.getD, hkl]
      have HS := Lib.hid hstep
      have hpl := mB_part HOK.out k
      obtain ⟨f, hf⟩ : ∃ f, f = (fieldsOf K).getD k 0 := ⟨_, rfl⟩
      rw [← hf] at hce f1 f10 HS
      have HFE := Lib.hid hf
      obtain ⟨B, hB⟩ : ∃ B, B = enc K.toNat ++ ((fieldsOf K).take k).flatMap (fB N g t) := ⟨_, rfl⟩
      rw [← hB] at HO HS hpl
      have HL := Lib.hid hpl
      clear hf hB hstep hfm hpl hkl
      have hMr := HM3.out.ext hx
      by_cases h8 : f ≤ 7
      · have hfb : fB N g t f = enc (N f).toNat := by unfold fB; rw [if_neg (by omega), if_neg (by omega)]
        rw [hfb] at HS
        have cf := hMr.num f1 (show f ≤ 8 by omega)
        have hbd := HOK.out.num f1 (show f ≤ 8 by omega)
        obtain ⟨x, hxe⟩ : ∃ x, x = N f := ⟨_, rfl⟩
        rw [← hxe] at cf hbd HS
        have b8 : ((f : Int) == 8) = false := by rw [beq_eq_false_iff_ne]; omega
        have b9 : ((f : Int) == 9) = false := by rw [beq_eq_false_iff_ne]; omega
        have b10 : ((f : Int) == 10) = false := by rw [beq_eq_false_iff_ne]; omega
        clear hfb hxe hMr
        go_wp2_with fail
        refine (mspot _ f _ f1 h8).mono ?_
        rintro e w4 ⟨rfl, rfl⟩
        go_wp2_with fail
        refine (put_any _ B x _ HO.out.rd (fits_small (by have := HL.out; omega)) (by omega) (by omega)).mono ?_
        rintro e w5 ⟨v5, rfl, ho5, hx5⟩
        have ho5 := ho5.mono (Ext.size (w := w) (by repeat' (first | (with_reducible exact Ext.refl _) | (with_reducible assumption) | (with_reducible refine Ext.alloc ?_ _) | (with_reducible refine Ext.drewN ?_ _) | (with_reducible refine Ext.drew ?_) | (with_reducible refine Ext.trans ?_ (by assumption)))))
        go_wp2_with fail
        go_roundw
        case rel => exact ⟨k + 1, by omega, by go_num, by rw [HS.out]; exact ho5, (by repeat' (first | (with_reducible exact Ext.refl _) | (with_reducible assumption) | (with_reducible refine Ext.alloc ?_ _) | (with_reducible refine Ext.drewN ?_ _) | (with_reducible refine Ext.drew ?_) | (with_reducible refine Ext.trans ?_ (by assumption))))⟩
        case measure => simp [intOf]; omega
      · have h3 : f = 8 ∨ f = 9 ∨ f = 10 := by omega
        clear h8 f1 f10
        rcases h3 with rfl | rfl | rfl
        · have hfb : fB N g t 8 = enc (N 8).toNat := by unfold fB; rw [if_neg (by omega), if_neg (by omega)]
          rw [hfb] at HS
          have cf := hMr.num (f := 8) (by omega) (by omega)
          have hbd := HOK.out.num (f := 8) (by omega) (by omega)
          obtain ⟨x, hxe⟩ : ∃ x, x = N 8 := ⟨_, rfl⟩
          rw [← hxe] at cf hbd HS
          clear hfb hxe hMr
          go_wp2_with fail
          refine (put_any _ B x _ HO.out.rd (fits_small (by have := HL.out; omega)) (by omega) (by omega)).mono ?_
          rintro e w5 ⟨v5, rfl, ho5, hx5⟩
          have ho5 := ho5.mono (Ext.size (w := w) (by repeat' (first | (with_reducible exact Ext.refl _) | (with_reducible assumption) | (with_reducible refine Ext.alloc ?_ _) | (with_reducible refine Ext.drewN ?_ _) | (with_reducible refine Ext.drew ?_) | (with_reducible refine Ext.trans ?_ (by assumption)))))
          go_wp2_with fail
          go_roundw
          case rel => exact ⟨k + 1, by omega, by go_num, by rw [HS.out]; exact ho5, (by repeat' (first | (with_reducible exact Ext.refl _) | (with_reducible assumption) | (with_reducible refine Ext.alloc ?_ _) | (with_reducible refine Ext.drewN ?_ _) | (with_reducible refine Ext.drew ?_) | (with_reducible refine Ext.trans ?_ (by assumption))))⟩
          case measure => simp [intOf]; omega
        · have hfb : fB N g t 9 = [bit g] := rfl
          rw [hfb] at HS
          have cf := hMr.grant
          clear hfb hMr
          go_wp2_with fail
          refine (puttruth_any _ B g _ HO.out.rd (fits_small (by have := HL.out; omega))).mono ?_
          rintro e w5 ⟨v5, rfl, ho5, hx5⟩
          have ho5 := ho5.mono (Ext.size (w := w) (by repeat' (first | (with_reducible exact Ext.refl _) | (with_reducible assumption) | (with_reducible refine Ext.alloc ?_ _) | (with_reducible refine Ext.drewN ?_ _) | (with_reducible refine Ext.drew ?_) | (with_reducible refine Ext.trans ?_ (by assumption)))))
          go_wp2_with fail
          go_roundw
          case rel => exact ⟨k + 1, by omega, by go_num, by rw [HS.out]; exact ho5, (by repeat' (first | (with_reducible exact Ext.refl _) | (with_reducible assumption) | (with_reducible refine Ext.alloc ?_ _) | (with_reducible refine Ext.drewN ?_ _) | (with_reducible refine Ext.drew ?_) | (with_reducible refine Ext.trans ?_ (by assumption))))⟩
          case measure => simp [intOf]; omega
        · have hfb : fB N g t 10 = enc t.length ++ t := rfl
          rw [hfb] at HS
          have cf := hMr.data
          have h64 := HOK.out.len
          clear hfb hMr
          go_wp2_with fail
          refine (puttext_any _ v B t _ HO.out.rd (HT.out.ext (by repeat' (first | (with_reducible exact Ext.refl _) | (with_reducible assumption) | (with_reducible refine Ext.alloc ?_ _) | (with_reducible refine Ext.drewN ?_ _) | (with_reducible refine Ext.drew ?_) | (with_reducible refine Ext.trans ?_ (by assumption))))) (fits_small (by have := HL.out; omega))).mono ?_
          rintro e w5 ⟨v5, rfl, ho5, hx5⟩
          have ho5 := ho5.mono (Ext.size (w := w) (by repeat' (first | (with_reducible exact Ext.refl _) | (with_reducible assumption) | (with_reducible refine Ext.alloc ?_ _) | (with_reducible refine Ext.drewN ?_ _) | (with_reducible refine Ext.drew ?_) | (with_reducible refine Ext.trans ?_ (by assumption)))))
          go_wp2_with fail
          go_roundw
          case rel => exact ⟨k + 1, by omega, by go_num, by rw [HS.out]; simpa using ho5, (by repeat' (first | (with_reducible exact Ext.refl _) | (with_reducible assumption) | (with_reducible refine Ext.alloc ?_ _) | (with_reducible refine Ext.drewN ?_ _) | (with_reducible refine Ext.drew ?_) | (with_reducible refine Ext.trans ?_ (by assumption))))⟩
          case measure => simp [intOf]; omega
    · obtain rfl : k = m := by omega
      go_wp2_with fail
      go_ret2
      refine ⟨_, rfl, ?_, hX3.trans hx⟩
      have := HO.out
      rw [List.take_of_length_le (by rw [← HME.out]; omega)] at this
      exact this
end Go.Proofs.Ytmkobmkaalfecaa
