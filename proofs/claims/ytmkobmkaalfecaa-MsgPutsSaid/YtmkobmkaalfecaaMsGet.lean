/-
  msg.Get of any bytes. No condition but that the bytes read, and are few.
-/
import Derived.Test.YtmkobmkaalfecaaMsRead
import Derived.Test.YtmkobmkaalfecaaMsOk
import Derived.Laws.CopyOwn
import Derived.Deep.Cut
import Derived.Deep.CutRange
import Derived.Deep.CutBlock
namespace Go.Proofs.Ytmkobmkaalfecaa
open Go.RowKit

theorem RdI.chgm {S : List Nat} {k : IntKind} {w w' : World} {v : Value} {l : List Int} (h : RdI k w v l) (hx : Chg S w w') (hS : l ≠ [] → ∀ g, v.ownBlock = some g → g ∉ S) : RdI k w' v l := by
  obtain ⟨h1, a, c, rfl, h2, h3, h4, h5⟩ := h
  refine ⟨h1, a, c, rfl, h2, h3, h4, fun hn => ?_⟩
  obtain ⟨b, o, rfl, hb, hc⟩ := h5 hn
  exact ⟨b, o, rfl, Nat.lt_of_lt_of_le hb hx.size, fun j u hu => (World.cell?_of_block (hx.block b hb (hS (List.length_pos_iff.1 hn) b rfl))).trans (hc j u hu)⟩
theorem results_row_tmpm {P : Program} {fn : Func} {p u : Tmp} {ty : TypeId} (h : fn.results = #[.cell p ty, .tmp u]) (tmps : Array Value) (w : World) (g : Nat) (t : TypeId) (cs : Array Value) (fr : Nat × Nat) (d : TypeDesc)
    (hp : tmps.getD p undef = .pointer (some ⟨g, 0, none⟩)) (hg : w.heap[g]? = some (.cells cs t fr))
    (hu : P.underlying ty = some d) (hd : (match d with | .struct _ | .array _ _ => true | _ => false) = true) (hi : (P.info? ty).map (·.size) = some cs.size) :
    (results fn tmps).run P w = .ok (.tuple #[.agg cs, tmps.getD u undef]) w := by
  rw [results_cell_tmp h, hp]
  simp [asAddr, run_loadVar_row w g t ty cs fr d hg hu hd hi, Result.andThen]
theorem msg_info : (Try.prog.info? 62).map (·.size) = some 11 := by kernel_rfl
theorem chg_rowm (w : World) (p : Nat) (cs : Array Value) : Chg [p] w (w.setRow p cs) := ⟨rfl, rfl, rfl, by simp, fun _ _ hn => setRow_other _ _ _ _ (by simpa using hn)⟩
theorem mrow_one (K : Int) (N : Nat → Int) (g : Bool) (a : Option Addr) (l c : Nat) : (mrow K N g (.slice a l c)).all (·.oneCell') = true := by simp [mrow, Value.oneCell']

/-- the fields that were read: where the next begins, the numbers, the truth, the text -/
structure MR where
  pos : Int
  num : Nat → Int
  gr : Bool
  txt : List Int
def stepR (B : List Int) (f : Nat) (s : MR) : MR :=
  ⟨(fGet B f s.pos).1, if f = 9 ∨ f = 10 then s.num else updF s.num f (numF B f s.pos), if f = 9 then (getB B s.pos).1 else s.gr, if f = 10 then (getT B s.pos 64).1 else s.txt⟩
def readR (B : List Int) (K : Int) : Nat → MR
  | 0 => ⟨(getN B 0).2.1, fun _ => 0, false, []⟩
  | k + 1 => stepR B ((fieldsOf K).getD k 0) (readR B K k)
def errR (B : List Int) (K : Int) (k : Nat) : Int := (fGet B ((fieldsOf K).getD k 0) (readR B K k).pos).2
/-- what msg.Get answers -/
def MGOut (B : List Int) (x : Int) : Prop :=
  ((getN B 0).2.2 = x ∧ x ≠ 0) ∨
  ((getN B 0).2.2 = 0 ∧ kindN (getN B 0).1 ≠ 0 ∧
    ((∃ i, i < (fieldsOf (getN B 0).1).length ∧ (∀ j, j < i → errR B (getN B 0).1 j = 0) ∧ errR B (getN B 0).1 i = x ∧ x ≠ 0) ∨
     ((∀ j, j < (fieldsOf (getN B 0).1).length → errR B (getN B 0).1 j = 0) ∧
       (((readR B (getN B 0).1 (fieldsOf (getN B 0).1).length).pos < B.length ∧ x = 2) ∨
        ((readR B (getN B 0).1 (fieldsOf (getN B 0).1).length).pos = B.length ∧ MOk (getN B 0).1 (readR B (getN B 0).1 (fieldsOf (getN B 0).1).length).num (readR B (getN B 0).1 (fieldsOf (getN B 0).1).length).gr (readR B (getN B 0).1 (fieldsOf (getN B 0).1).length).txt.length ∧ x = 0)))))

/-- one field is read -/
theorem mread_any (p f : Nat) (v : Value) (B : List Int) (w : World) (K : Int) (s : MR) (a : Option Addr) (c base : Nat) (hB : RdI .u8 w v B) (hb : ∀ x ∈ B, 0 ≤ x ∧ x ≤ 255) (hl : B.length ≤ 100000)
    (h : MsgAt w p K s.num s.gr (.slice a s.txt.length c)) (ho : OwnI .u8 5 base w (.slice a s.txt.length c) s.txt) (hp : p < base) (hbw : base ≤ w.heap.size) (h1 : 1 ≤ f) (h10 : f ≤ 10) :
    Calls Try.prog 73 #[.pointer (some ⟨p, 0, none⟩), .int .i64 f, v, .int .i64 s.pos] w fun e w' => ∃ a' c',
      e = .returned (.tuple #[.int .i64 (fGet B f s.pos).1, .int .i64 (fGet B f s.pos).2]) ∧ MsgAt w' p K (stepR B f s).num (stepR B f s).gr (.slice a' (stepR B f s).txt.length c') ∧
      OwnI .u8 5 base w' (.slice a' (stepR B f s).txt.length c') (stepR B f s).txt ∧ Chg [p] w w' := by
  by_cases h9 : f = 9
  · subst h9
    refine (mread_grant p v B s.pos w K s.num s.gr _ hB hb h).mono ?_
    rintro e w' ⟨he, hm, hx⟩
    exact ⟨a, c, by rw [he]; rfl, hm, OwnI.chg ho hx (by simpa using hp), hx⟩
  · by_cases hA : f = 10
    · subst hA
      refine (mread_data p v B s.pos w K s.num s.gr _ hB hb hl h ⟨_, _, _, rfl⟩).mono ?_
      rintro e w' ⟨a', c', he, hm, ho', hx⟩
      exact ⟨a', c', by rw [he]; rfl, hm, ho'.mono hbw, hx⟩
    · have e1 : fGet B f s.pos = (getN B s.pos).2 := by unfold fGet; rw [if_neg h9, if_neg hA]
      have e2 : (stepR B f s).num = updF s.num f (numF B f s.pos) := by unfold stepR; simp [h9, hA]
      have e3 : (stepR B f s).gr = s.gr := by unfold stepR; simp [h9]
      have e4 : (stepR B f s).txt = s.txt := by unfold stepR; simp [hA]
      rw [e1, e2, e3, e4]
      by_cases h8 : f = 8
      · subst h8
        refine (mread_code p v B s.pos w K s.num s.gr _ hB hb hl h).mono ?_
        rintro e w' ⟨he, hm, hx⟩
        exact ⟨a, c, he, hm, OwnI.chg ho hx (by simpa using hp), hx⟩
      · refine (mread_num p v B s.pos w K s.num s.gr _ hB hb hl h f h1 (by omega)).mono ?_
        rintro e w' ⟨he, hm, hx⟩
        exact ⟨a, c, he, hm, OwnI.chg ho hx (by simpa using hp), hx⟩

set_option maxRecDepth 100000 in
set_option maxHeartbeats 4000000 in
theorem mget (v : Value) (B : List Int) (w : World) (hB : RdI .u8 w v B) (hb : ∀ x ∈ B, 0 ≤ x ∧ x ≤ 255) (hl : B.length ≤ 100000) (x : Int) (hx : MGOut B x) :
    Calls Try.prog 54 #[v] w fun e w' => ∃ K N g a l c, e = .returned (.tuple #[msgV K N g (.slice a l c), .int .i64 x]) ∧
      (x = 0 → K = (getN B 0).1 ∧ N = (readR B K (fieldsOf K).length).num ∧ g = (readR B K (fieldsOf K).length).gr ∧ RdI .u8 w' (.slice a l c) (readR B K (fieldsOf K).length).txt) ∧ Ext w w' := by
  have hvlt : B ≠ [] → ∀ g, v.ownBlock = some g → g < w.heap.size := by
    intro hne g hg
    obtain ⟨av, cv, rfl, _, _, _, hs⟩ := hB.parts
    obtain ⟨b', o', rfl, hlt, _⟩ := hs hne
    cases hg; exact hlt
  obtain ⟨av, cv, hvv, _, _, hnil, hss⟩ := hB.parts
  have hlB : (B.length : Int) ≤ 100000 := by omega
  have HX := Lib.hid hx
  have HB := Lib.hid hB
  have HBB := Lib.hid hb
  have HVL := Lib.hid hvlt
  clear hx hB hb hnil hss hvlt
  subst hvv
  have HG : Hid (∀ w', Ext w w' → Calls Try.prog 27 #[.slice av B.length cv, .int .i64 0] w' fun e w'' => e = .returned (.tuple #[.int .i64 (getN B 0).1, .int .i64 (getN B 0).2.1, .int .i64 (getN B 0).2.2]) ∧ w' = w'') := Lib.hid (fun w' hx => get_any _ B 0 w' (HB.out.ext hx) HBB.out (by omega))
  obtain ⟨K, hK⟩ : ∃ K, K = (getN B 0).1 := ⟨_, rfl⟩
  obtain ⟨q0, hq0⟩ : ∃ q, q = (getN B 0).2.1 := ⟨_, rfl⟩
  obtain ⟨e0, he0⟩ : ∃ e, e = (getN B 0).2.2 := ⟨_, rfl⟩
  have hx := HX.out
  unfold MGOut at hx
  rw [← hK, ← he0] at hx
  rw [← hK, ← hq0, ← he0] at HG
  have HK := Lib.hid hK
  have HQ := Lib.hid hq0
  clear hK hq0 he0 HX
  obtain ⟨m, hm⟩ : ∃ m, m = (fieldsOf K).length := ⟨_, rfl⟩
  rw [← hm] at hx
  have HM := Lib.hid hm
  have hm10 : m ≤ 10 := by rw [hm]; exact fields_le K
  have HX := Lib.hid hx
  have hz1 : (mrow 0 (fun _ => 0) false (.slice none 0 0)).all (·.oneCell') = true := mrow_one _ _ _ _ _ _
  clear hx hm
  go_enter Try.func54, Try.ntmps54
  go_wp2_with fail
  have h2r : (w.alloc (.cells #[.int .i64 0, .int .i64 0, .int .i64 0, .int .i64 0, .int .i64 0, .int .i64 0, .int .i64 0, .int .i64 0, .int .i64 0, .bool false, .slice none 0 0] 62)).heap[w.heap.size]? = some (.cells (mrow 0 (fun _ => 0) false (.slice none 0 0)) 62 (0, 0)) := heap_alloc_new w _
  have hX0 : Ext w (w.alloc (.cells #[.int .i64 0, .int .i64 0, .int .i64 0, .int .i64 0, .int .i64 0, .int .i64 0, .int .i64 0, .int .i64 0, .int .i64 0, .bool false, .slice none 0 0] 62)) := (Ext.refl w).alloc _
  generalize (w.alloc (.cells #[.int .i64 0, .int .i64 0, .int .i64 0, .int .i64 0, .int .i64 0, .int .i64 0, .int .i64 0, .int .i64 0, .int .i64 0, .bool false, .slice none 0 0] 62)) = w0 at *
  obtain ⟨p2, hp2⟩ : ∃ p, p = w.heap.size := ⟨_, rfl⟩
  rw [← hp2] at h2r ⊢
  have hw2 : w.heap.size ≤ p2 := by omega
  have hl2 : p2 < w0.heap.size := (Array.getElem?_eq_some_iff.1 h2r).1
  have HP2 := Lib.hid hp2
  clear hp2
  refine (HG.out _ hX0).mono ?_
  rintro e w1 ⟨rfl, rfl⟩
  clear HG
  rcases HX.out with ⟨hxe, hx0⟩ | ⟨hxe, hk0, hrest⟩
  · subst hxe
    have hxb : (e0 == 0) = false := by rw [beq_eq_false_iff_ne]; exact hx0
    have HXN := Lib.hid hx0
    clear hx0 HX
    --[[E
    go_wp2_with (refine wpList_store_row rfl 62 _ _ rfl p2 (mrow 0 (fun _ => 0) false (.slice none 0 0)) rfl rfl 62 _ h2r msg_info rfl hz1 ?_)
    refine bodyPost_ret (results_row_tmpm rfl _ _ p2 _ _ _ _ rfl (setRow_heap _ _ _ _ _ _ h2r) Try.underlying62 rfl msg_info) rfl ?_
    exact ⟨0, fun _ => 0, false, none, 0, 0, rfl, fun h => absurd h HXN.out, Ext.chg hX0 (chg_rowm _ p2 _) (by simpa using hw2)⟩
    --]]
  · subst hxe
    have HR := Lib.hid hrest
    have HKN := Lib.hid hk0
    clear hrest HX
    go_wp2_with fail
    refine (mof K _).mono ?_
    rintro e w2 ⟨rfl, hx2⟩
    have hwb : ((wordOf K : Int) == 0) = false := by
      rw [beq_eq_false_iff_ne]
      intro h
      exact hk0 ((word_of_zero K).1 (by omega))
    clear hk0
    obtain ⟨W, hW⟩ : ∃ W, W = wordOf K := ⟨_, rfl⟩
    rw [← hW] at hwb ⊢
    clear hW
    have h2r2 := (Below.block hx2 _ hl2).trans h2r
    have hX2 := hX0.trans hx2
    have hl22 : p2 < w2.heap.size := (Array.getElem?_eq_some_iff.1 h2r2).1
    clear h2r hX0 hx2 hl2
    have h7z : (w2.alloc (.cells #[.int .i64 0, .int .i64 0, .int .i64 0, .int .i64 0, .int .i64 0, .int .i64 0, .int .i64 0, .int .i64 0, .int .i64 0, .bool false, .slice none 0 0] 62)).heap[w2.heap.size]? = some (.cells #[.int .i64 0, .int .i64 0, .int .i64 0, .int .i64 0, .int .i64 0, .int .i64 0, .int .i64 0, .int .i64 0, .int .i64 0, .bool false, .slice none 0 0] 62 (0, 0)) := heap_alloc_new w2 _
    go_upto_region 7 with (refine wpList_store_row rfl 62 _ _ rfl w2.heap.size (mrow K (fun _ => 0) false (.slice none 0 0)) rfl rfl 62 _ h7z msg_info rfl (mrow_one _ _ _ _ _ _) ?_)
    have HM7 : MsgAt ((w2.alloc (.cells #[.int .i64 0, .int .i64 0, .int .i64 0, .int .i64 0, .int .i64 0, .int .i64 0, .int .i64 0, .int .i64 0, .int .i64 0, .bool false, .slice none 0 0] 62)).setRow w2.heap.size (mrow K (fun _ => 0) false (.slice none 0 0))) w2.heap.size K (fun _ => 0) false (.slice none 0 0) := setRow_heap _ _ _ _ _ _ h7z
    have h2r3 : ((w2.alloc (.cells #[.int .i64 0, .int .i64 0, .int .i64 0, .int .i64 0, .int .i64 0, .int .i64 0, .int .i64 0, .int .i64 0, .int .i64 0, .bool false, .slice none 0 0] 62)).setRow w2.heap.size (mrow K (fun _ => 0) false (.slice none 0 0))).heap[p2]? = some (.cells (mrow 0 (fun _ => 0) false (.slice none 0 0)) 62 (0, 0)) := (setRow_other _ _ _ _ (by omega)).trans ((Below.heap_alloc w2 _ _ hl22).trans h2r2)
    have hX3 : Ext w ((w2.alloc (.cells #[.int .i64 0, .int .i64 0, .int .i64 0, .int .i64 0, .int .i64 0, .int .i64 0, .int .i64 0, .int .i64 0, .int .i64 0, .bool false, .slice none 0 0] 62)).setRow w2.heap.size (mrow K (fun _ => 0) false (.slice none 0 0))) := below_setRow (hX2.alloc _) hX2.size _
    obtain ⟨p7, hp7⟩ : ∃ p, p = w2.heap.size := ⟨_, rfl⟩
    rw [← hp7] at HM7 h2r3 hX3 ⊢
    have hw7 : w.heap.size ≤ p7 := by rw [hp7]; exact hX2.size
    have n27 : p2 ≠ p7 := by omega
    clear h7z h2r2 hX2 hl22 hp7
    generalize ((w2.alloc (.cells #[.int .i64 0, .int .i64 0, .int .i64 0, .int .i64 0, .int .i64 0, .int .i64 0, .int .i64 0, .int .i64 0, .int .i64 0, .bool false, .slice none 0 0] 62)).setRow p7 (mrow K (fun _ => 0) false (.slice none 0 0))) = w3 at *
    go_wp2_with fail
    refine (mfields K _).mono ?_
    rintro e w5 ⟨v5, rfl, ho5, hx5⟩
    have hl7 : p7 < w3.heap.size := HM7.lt
    have HM5 := Lib.hid (HM7.ext hx5)
    have hl27 : p2 < w3.heap.size := (Array.getElem?_eq_some_iff.1 h2r3).1
    have H2R := Lib.hid ((Below.block hx5 _ hl27).trans h2r3)
    have hX5 := hX3.trans hx5
    have hB5 := HB.out.ext hX5
    have HB5 := Lib.hid hB5
    have HO5 := Lib.hid ho5
    obtain ⟨a5, q5, hv5, hq5, hm5, _, _⟩ := ho5.rd.parts
    rw [zints_len, ← HM.out] at hv5 hq5
    have hm63 : (m : Int) ≤ 9223372036854775807 := by omega
    subst hv5
    have hl75 : p7 < w5.heap.size := Nat.lt_of_lt_of_le hl7 hx5.size
    have hl25 : p2 < w5.heap.size := Nat.lt_of_lt_of_le hl27 hx5.size
    have HVS : Hid (B ≠ [] → ∀ y, (Value.slice av B.length cv).ownBlock = some y → y ∉ [p7]) := Lib.hid (by
      intro hne y hy hm
      have := HVL.out hne y hy
      simp at hm; omega)
    have hq0 : (readR B K 0).pos = q0 := HQ.out.symm
    clear HM7 h2r3 hX3 hx5 hB5 ho5 hq5 hm5
    go_wp2_with fail
    go_loopw [5, 31] (fun va vi wr => ∃ (k : Nat) (a : Option Addr) (c : Nat), k ≤ m ∧ vi = .int .i64 k ∧ va = .int .i64 (readR B K k).pos ∧ (∀ j, j < k → errR B K j = 0) ∧ MsgAt wr p7 K (readR B K k).num (readR B K k).gr (.slice a (readR B K k).txt.length c) ∧ OwnI .u8 5 w5.heap.size wr (.slice a (readR B K k).txt.length c) (readR B K k).txt ∧ Chg [p7] w5 wr) (fun _ vi _ => m - (intOf vi).toNat)
    case atStart => exact ⟨0, none, 0, by omega, rfl, by rw [hq0], fun j hj => absurd hj (by omega), HM5.out, OwnI.nil _ _ _ _, Chg.refl _ _⟩
    case round =>
      obtain ⟨k, a, c, hk, rfl, rfl, hok, hmr, hor, hC⟩ := hrel
      have HOK := Lib.hid hok
      have HMR := Lib.hid hmr
      have HOR := Lib.hid hor
      have hBr := HB5.out.chgm hC HVS.out
      have HBR := Lib.hid hBr
      have hor5 : OwnI .i64 3 w3.heap.size wr (.slice a5 m q5) (zints (fieldsOf K)) := OwnI.chg HO5.out hC (by simpa using hl7)
      have h2rr := (hC.block _ hl25 (by simpa using n27)).trans H2R.out
      have hwr : Ext w wr := Ext.chg hX5 hC (by simpa using hw7)
      clear hok hmr hor hBr hq0
      by_cases hlt : k < m
      · have hii : (k : Int) < (m : Int) := by omega
        obtain ⟨b5, o5, rfl, hcl⟩ : ∃ b o, a5 = some ⟨b, o, none⟩ ∧ ∀ i, i < (zints (fieldsOf K)).length → wr.cell? ⟨b, o + i, none⟩ = some (.int .i64 ((zints (fieldsOf K)).getD i 0)) := by
          obtain ⟨a', c', e, _, _, _, hs⟩ := hor5.rd.parts
          cases e
          obtain ⟨b, o, e, _, h⟩ := hs (by intro e; have := zints_len (fieldsOf K); rw [e, ← HM.out] at this; simp at this; omega)
          exact ⟨b, o, e, h⟩
        have hkl : k < (fieldsOf K).length := by rw [← HM.out]; exact hlt
        have hce := hcl k (by rw [zints_len]; exact hkl)
        rw [zints_at hkl] at hce
        have hfm : (fieldsOf K).getD k 0 ∈ fieldsOf K := by rw [List.getD_eq_getElem?_getD, List.getElem?_eq_getElem hkl]; exact List.getElem_mem hkl
        obtain ⟨f1, f10⟩ := fields_bd K _ hfm
        have HRD := Lib.hid (mread_any p7 ((fieldsOf K).getD k 0) _ B wr K (readR B K k) a c w5.heap.size HBR.out HBB.out hl HMR.out HOR.out hl75 hC.size f1 f10)
        have herr : errR B K k = (fGet B ((fieldsOf K).getD k 0) (readR B K k).pos).2 := rfl
        have hpos : (readR B K (k + 1)).pos = (fGet B ((fieldsOf K).getD k 0) (readR B K k).pos).1 := rfl
        have hstp : readR B K (k + 1) = stepR B ((fieldsOf K).getD k 0) (readR B K k) := rfl
        obtain ⟨f, hf⟩ : ∃ f, f = (fieldsOf K).getD k 0 := ⟨_, rfl⟩
        rw [← hf] at hce HRD herr hpos hstp
        obtain ⟨ps, hps⟩ : ∃ z, z = (fGet B f (readR B K k).pos).1 := ⟨_, rfl⟩
        obtain ⟨er, her⟩ : ∃ z, z = (fGet B f (readR B K k).pos).2 := ⟨_, rfl⟩
        rw [← hps, ← her] at HRD
        rw [← her] at herr
        rw [← hps] at hpos
        obtain ⟨pk, hpk⟩ : ∃ z, z = (readR B K k).pos := ⟨_, rfl⟩
        rw [← hpk] at HRD ⊢
        have HERR := Lib.hid herr
        have HPOS := Lib.hid hpos
        have HSTP := Lib.hid hstp
        clear hcl hf hps her hpk herr hpos hstp hfm hkl f1 f10 hor5
        by_cases he0 : er = 0
        · subst he0
          --[[L
          go_wp2_with fail
          refine HRD.out.mono ?_
          rintro e w6 ⟨a6, c6, rfl, hm6, ho6, hx6⟩
          go_wp2_with fail
          go_roundw
          case rel =>
            refine ⟨k + 1, a6, c6, by omega, by go_num, by rw [HPOS.out], ?_, by rw [HSTP.out]; exact hm6, by rw [HSTP.out]; exact ho6, hC.trans hx6⟩
            intro j hj
            by_cases e : j < k
            · exact HOK.out j e
            · obtain rfl : j = k := by omega
              exact HERR.out
          case measure => simp [intOf]; omega
          --]]
        · have hxi : x = er := by
            rcases HR.out with ⟨i0, hi0, hall0, hx0, _⟩ | ⟨hallok, _⟩
            · by_cases e1 : i0 < k
              · exact absurd (hx0.symm.trans (HOK.out i0 e1)) (by assumption)
              · by_cases e2 : k < i0
                · exact absurd (HERR.out.symm.trans (hall0 k e2)) he0
                · obtain rfl : k = i0 := by omega
                  exact hx0.symm.trans HERR.out
            · exact absurd (HERR.out.symm.trans (hallok k hlt)) he0
          subst hxi
          have hxb : (x == 0) = false := by rw [beq_eq_false_iff_ne]; exact he0
          have HXN := Lib.hid he0
          clear he0
          --[[H
          go_wp2_with fail
          refine HRD.out.mono ?_
          rintro e w6 ⟨a6, c6, rfl, _, _, hx6⟩
          have h2r6 := (hx6.block _ (Array.getElem?_eq_some_iff.1 h2rr).1 (by simpa using n27)).trans h2rr
          have hw6 : Ext w w6 := Ext.chg hwr hx6 (by simpa using hw7)
          go_wp2_with (refine wpList_store_row rfl 62 _ _ rfl p2 (mrow 0 (fun _ => 0) false (.slice none 0 0)) rfl rfl 62 _ h2r6 msg_info rfl hz1 ?_)
          refine bodyPost_ret (results_row_tmpm rfl _ _ p2 _ _ _ _ rfl (setRow_heap _ _ _ _ _ _ h2r6) Try.underlying62 rfl msg_info) rfl ?_
          exact ⟨0, fun _ => 0, false, none, 0, 0, rfl, fun h => absurd h HXN.out, Ext.chg hw6 (chg_rowm _ p2 _) (by simpa using hw2)⟩
          --]]
      · obtain rfl : m = k := by omega
        have hrest : ((readR B K m).pos < B.length ∧ x = 2) ∨ ((readR B K m).pos = B.length ∧ MOk K (readR B K m).num (readR B K m).gr (readR B K m).txt.length ∧ x = 0) := by
          rcases HR.out with ⟨i0, hi0, _, hx0, hx00⟩ | ⟨_, h⟩
          · exact absurd (hx0.symm.trans (HOK.out i0 hi0)) hx00
          · exact h
        have hmx : (readR B K m).txt.length ≤ maxLen := by obtain ⟨_, _, e, h1, h2, _⟩ := HOR.out.rd.parts; omega
        have HME := Lib.hid (show readR B K m = readR B K (fieldsOf K).length by rw [HM.out])
        obtain ⟨R, hR⟩ : ∃ R, R = readR B K m := ⟨_, rfl⟩
        rw [← hR] at hrest HMR HOR HME hmx ⊢
        obtain ⟨ps, hps⟩ : ∃ z, z = R.pos := ⟨_, rfl⟩
        rw [← hps] at hrest ⊢
        clear hR hps hor5
        rcases hrest with ⟨hat, hx2⟩ | ⟨hat, hmok, hx2⟩
        · have HX2 := Lib.hid hx2
          clear hx2
          --[[S
          go_wp2_with (refine wpList_store_row rfl 62 _ _ rfl p2 (mrow 0 (fun _ => 0) false (.slice none 0 0)) rfl rfl 62 _ h2rr msg_info rfl hz1 ?_)
          refine bodyPost_ret (results_row_tmpm rfl _ _ p2 _ _ _ _ rfl (setRow_heap _ _ _ _ _ _ h2rr) Try.underlying62 rfl msg_info) rfl ?_
          exact ⟨0, fun _ => 0, false, none, 0, 0, by rw [HX2.out]; rfl, fun h => absurd (HX2.out.symm.trans h) (by decide), Ext.chg hwr (chg_rowm _ p2 _) (by simpa using hw2)⟩
          --]]
        · have HX2 := Lib.hid hx2
          clear hx2
          --[[F
          have hrow := HMR.out
          unfold MsgAt at hrow
          have HRT : Hid (Calls Try.prog 43 #[.agg (mrow K R.num R.gr (.slice a R.txt.length c))] wr fun e w' => e = .returned (.bool true) ∧ Ext wr w') := Lib.hid (mright K R.num R.gr a R.txt.length c wr hmx true (iff_of_true rfl hmok))
          obtain ⟨cc, hcc⟩ : ∃ cc, cc = mrow K R.num R.gr (.slice a R.txt.length c) := ⟨_, rfl⟩
          have hci : (Try.prog.info? 62).map (·.size) = some cc.size := by rw [hcc]; exact msg_info
          have hcs : (mrow 0 (fun _ => 0) false (.slice none 0 0)).size = cc.size := by rw [hcc]; rfl
          have hoc : cc.all (·.oneCell') = true := by rw [hcc]; exact mrow_one _ _ _ _ _ _
          rw [← hcc] at hrow HRT
          have HCC := Lib.hid hcc
          clear hcc hmok
          go_wp2_with (refine wpList_load_row rfl 62 _ rfl p7 rfl 62 cc (0, 0) _ hrow Try.underlying62 rfl hci ?_)
          refine HRT.out.mono ?_
          rintro e w6 ⟨rfl, hx6⟩
          have hrow6 := (Below.block hx6 _ (Array.getElem?_eq_some_iff.1 hrow).1).trans hrow
          have h2r6 := (Below.block hx6 _ (Array.getElem?_eq_some_iff.1 h2rr).1).trans h2rr
          have HO6 := Lib.hid (HOR.out.ext hx6)
          have hwr6 : Ext w w6 := hwr.trans hx6
          clear hrow hx6 h2rr
          go_wp2_with (first | (refine wpList_load_row rfl 62 _ rfl p7 rfl 62 cc (0, 0) _ hrow6 Try.underlying62 rfl hci ?_) | (refine wpList_store_row rfl 62 _ _ rfl p2 cc rfl rfl 62 _ h2r6 hci hcs hoc ?_))
          refine bodyPost_ret (results_row_tmpm rfl _ _ p2 _ _ _ _ rfl (setRow_heap _ _ _ cc _ _ h2r6) Try.underlying62 rfl hci) rfl ?_
          refine ⟨K, R.num, R.gr, a, R.txt.length, c, by rw [HX2.out, HCC.out]; rfl, fun _ => ⟨HK.out, by rw [HME.out], by rw [HME.out], ?_⟩, Ext.chg hwr6 (chg_rowm _ p2 _) (by simpa using hw2)⟩
          rw [← HME.out]
          exact (OwnI.chg HO6.out (chg_rowm _ p2 cc) (by simpa using hl25)).rd
          --]]
end Go.Proofs.Ytmkobmkaalfecaa
