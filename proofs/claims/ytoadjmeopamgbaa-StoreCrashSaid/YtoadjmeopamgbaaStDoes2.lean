/-
  store.writes, does. No condition but that the store lies in memory.
-/
import Derived.Test.YtoadjmeopamgbaaStDoes
namespace Go.Proofs.Ytoadjmeopamgbaa
open Go.RowKit

/-- what a write that is done writes, and where -/
def doesI (h : Sh) (c k blk : Nat) (j : Nat) : Int := if j = 0 then ((1 + blk : Nat) : Int) else if j = 1 then ((h.slotAt c k : Nat) : Int) else 0
def doesR (boot op ver : Int) (D : List Int) (j : Nat) : List Int := if j = 0 then enc ver.toNat ++ enc D.length ++ D else if j = 1 then enc boot.toNat ++ enc op.toNat ++ enc 0 else []

theorem rdi3p (w : World) (o : Obj) (x y z : Int) (e : TypeId) : RdI .i64 ((w.alloc o).alloc (.cells #[.int .i64 x, .int .i64 y, .int .i64 z] e)) (.slice (some ⟨w.heap.size + 1, 0, none⟩) 3 3) [x, y, z] := by
  have := RdI.lit .i64 (w.alloc o) [x, y, z] e (by unfold maxLen; simp)
  simpa using this
theorem rdi1p (w : World) (o : Obj) (x : Int) (e : TypeId) : RdI .i64 ((w.alloc o).alloc (.cells #[.int .i64 x] e)) (.slice (some ⟨w.heap.size + 1, 0, none⟩) 1 1) [x] := by
  have := RdI.one .i64 (w.alloc o) x e
  simpa using this
theorem RdI.isSlice {k : IntKind} {w : World} {v : Value} {l : List Int} (h : RdI k w v l) : ∃ a n c, v = .slice a n c := by
  obtain ⟨a, c, rfl, _⟩ := h.parts
  exact ⟨_, _, _, rfl⟩
theorem rdi3 (w : World) (x y z : Int) (e : TypeId) : RdI .i64 (w.alloc (.cells #[.int .i64 x, .int .i64 y, .int .i64 z] e)) (.slice (some ⟨w.heap.size, 0, none⟩) 3 3) [x, y, z] := RdI.lit .i64 w [x, y, z] e (by unfold maxLen; simp)
section
variable (w : World) (F : List Nat) (ps p bl : Nat) (h : Sh) (d : Dk)
/-- a closure that writes three rows -/
structure Clo (w : World) (ps pl pc pr B : Nat) (v0 v1 v2 : Value) : Prop where
  l : w.cell? ⟨pl, 0, none⟩ = some (.slice (some ⟨pr, 0, none⟩) 3 3)
  c : w.cell? ⟨pc, 0, none⟩ = some (.pointer (some ⟨ps, 0, none⟩))
  r0 : w.cell? ⟨pr, 0, none⟩ = some v0
  r1 : w.cell? ⟨pr, 1, none⟩ = some v1
  r2 : w.cell? ⟨pr, 2, none⟩ = some v2
  bl : B ≤ pl
  bc : B ≤ pc
  br : B ≤ pr
theorem Clo.ext {w w' : World} {ps pl pc pr B : Nat} {v0 v1 v2 : Value} (h : Clo w ps pl pc pr B v0 v1 v2) (hx : Ext w w') : Clo w' ps pl pc pr B v0 v1 v2 :=
  ⟨hx.cellv h.l, hx.cellv h.c, hx.cellv h.r0, hx.cellv h.r1, hx.cellv h.r2, h.bl, h.bc, h.br⟩
theorem swrites (pr B : Nat) (v0 v1 v2 : Value) (h0 : w.cell? ⟨pr, 0, none⟩ = some v0) (h1 : w.cell? ⟨pr, 1, none⟩ = some v1) (h2 : w.cell? ⟨pr, 2, none⟩ = some v2) (hB : B ≤ pr) (hw : B ≤ w.heap.size) :
    Calls Try.prog 51 #[.pointer (some ⟨ps, 0, none⟩), .slice (some ⟨pr, 0, none⟩) 3 3] w fun e w' => ∃ pl pc, e = .returned (.func (.func 57) #[] #[.pointer (some ⟨pl, 0, none⟩), .pointer (some ⟨pc, 0, none⟩)]) ∧ Clo w' ps pl pc pr B v0 v1 v2 ∧ Ext w w' := by
  have H0 := Lib.hid h0
  have H1 := Lib.hid h1
  have H2 := Lib.hid h2
  clear h0 h1 h2
  go_enter Try.func51, Try.ntmps51
  go_wp2_with fail
  go_ret
  exact ⟨_, _, rfl, ⟨by simp, by simp, Ext.cellv (w := w) (by repeat' (first | (with_reducible exact Ext.refl _) | (with_reducible assumption) | (with_reducible refine Ext.alloc ?_ _) | (with_reducible refine Ext.drewN ?_ _) | (with_reducible refine Ext.drew ?_) | (with_reducible refine Ext.trans ?_ (by assumption)))) H0.out, Ext.cellv (w := w) (by repeat' (first | (with_reducible exact Ext.refl _) | (with_reducible assumption) | (with_reducible refine Ext.alloc ?_ _) | (with_reducible refine Ext.drewN ?_ _) | (with_reducible refine Ext.drew ?_) | (with_reducible refine Ext.trans ?_ (by assumption)))) H1.out, Ext.cellv (w := w) (by repeat' (first | (with_reducible exact Ext.refl _) | (with_reducible assumption) | (with_reducible refine Ext.alloc ?_ _) | (with_reducible refine Ext.drewN ?_ _) | (with_reducible refine Ext.drew ?_) | (with_reducible refine Ext.trans ?_ (by assumption)))) H2.out, by first | omega | (simp; omega), by first | omega | (simp; omega), hB⟩, (by repeat' (first | (with_reducible exact Ext.refl _) | (with_reducible assumption) | (with_reducible refine Ext.alloc ?_ _) | (with_reducible refine Ext.drewN ?_ _) | (with_reducible refine Ext.drew ?_) | (with_reducible refine Ext.trans ?_ (by assumption))))⟩
theorem swrites3 (pl pc pr B pa : Nat) (v0 v1 v2 : Value) (clo : Clo w ps pl pc pr B v0 v1 v2) (i0 i1 i2 : Int) (h0 : w.cell? ⟨pa, 0, none⟩ = some (.int .i64 i0)) (h1 : w.cell? ⟨pa, 1, none⟩ = some (.int .i64 i1)) (h2 : w.cell? ⟨pa, 2, none⟩ = some (.int .i64 i2)) (hpa : B ≤ pa)
    (hp : p < B) (hbl : bl < B) (hps : w.cell? ⟨ps, 4, none⟩ = some (.pointer (some ⟨p, 0, none⟩))) (np : ps ≠ p) (nb : ps ≠ bl) (hd : DiskAt w F p bl d) (hF : ∀ f ∈ F, f < w.heap.size) (R0 R1 R2 : List Int)
    (r0 : RdI .u8 w v0 R0) (r1 : RdI .u8 w v1 R1) (r2 : RdI .u8 w v2 R2) (o0 : ∀ b, v0.ownBlock = some b → B ≤ b) (o1 : ∀ b, v1.ownBlock = some b → B ≤ b) (o2 : ∀ b, v2.ownBlock = some b → B ≤ b) :
    Calls Try.prog 57 #[.slice (some ⟨pa, 0, none⟩) 3 3, .pointer (some ⟨pl, 0, none⟩), .pointer (some ⟨pc, 0, none⟩)] w fun e w' => e = .returned (.int .i64 (wrAll d (fun j => if j = 0 then i0 else if j = 1 then i1 else i2) (fun j => if j = 0 then R0 else if j = 1 then R1 else R2) 3).1) ∧ DiskAt w' F p bl (wrAll d (fun j => if j = 0 then i0 else if j = 1 then i1 else i2) (fun j => if j = 0 then R0 else if j = 1 then R1 else R2) 3).2 ∧ Chg [p, bl] w w' := by
  refine swrites1 w F ps p bl d hd hF 3 pr 0 3 pl pc pa (by omega) _ _ (fun j => if j = 0 then v0 else if j = 1 then v1 else v2) clo.l clo.c hps (fun k hk => ?_) (fun k hk => ?_) (fun x hx => ?_)
  · have : k = 0 ∨ k = 1 ∨ k = 2 := by omega
    rcases this with rfl | rfl | rfl
    · exact ⟨clo.r0, r0, fun b hb => by have := o0 b hb; omega⟩
    · exact ⟨clo.r1, r1, fun b hb => by have := o1 b hb; omega⟩
    · exact ⟨clo.r2, r2, fun b hb => by have := o2 b hb; omega⟩
  · have : k = 0 ∨ k = 1 ∨ k = 2 := by omega
    rcases this with rfl | rfl | rfl
    · exact h0
    · exact h1
    · exact h2
  · have := clo.bl
    have := clo.bc
    have := clo.br
    simp only [List.mem_cons, List.not_mem_nil, or_false] at hx
    rcases hx with rfl | rfl | rfl | rfl | rfl
    · omega
    · omega
    · exact ⟨np, nb⟩
    · omega
    · omega
set_option maxRecDepth 100000 in
set_option maxHeartbeats 8000000 in
theorem sdoes (s : StAt w F ps p bl h d) (hF : ∀ f ∈ F, f < w.heap.size) (c k blk : Nat) (hc : c < h.c) (hk : k < h.k) (hb : blk < h.b) (boot op ver : Int) (hbo : 0 ≤ boot ∧ boot ≤ 1099511627776) (hop : 0 ≤ op ∧ op ≤ 1099511627776) (hve : 0 ≤ ver ∧ ver ≤ 1099511627776)
    (dv : Value) (D : List Int) (hD : RdI .u8 w dv D) (hDl : D.length ≤ 64) :
    Calls Try.prog 33 #[.pointer (some ⟨ps, 0, none⟩), .agg #[.int .i64 c, .int .i64 k, .int .i64 boot, .int .i64 op, .int .i64 blk, dv], .int .i64 ver] w fun e w' => e = .returned (.int .i64 (wrAll d (doesI h c k blk) (doesR boot op ver D) 3).1) ∧ DiskAt w' F p bl (wrAll d (doesI h c k blk) (doesR boot op ver D) 3).2 ∧ Chg [p, bl] w w' := by
  have c0 := s.c0
  have c1 := s.c1
  have c2 := s.c2
  have c3 := s.c3
  have HS := Lib.hid s
  have HF := Lib.hid hF
  have HSA := Lib.hid (fun w' => sslotAt h s.ok c k hc hk w')
  have HBA := Lib.hid (fun w' => sblockAt h.b h.s h.c h.k blk (by have := s.ok.b2; omega) w')
  have HD := Lib.hid hD
  obtain ⟨a, cc, rfl, _, _, _, _⟩ := hD.parts
  obtain ⟨x0, hx0⟩ : ∃ x, x = h.b := ⟨_, rfl⟩
  obtain ⟨x1, hx1⟩ : ∃ x, x = h.s := ⟨_, rfl⟩
  obtain ⟨x2, hx2⟩ : ∃ x, x = h.c := ⟨_, rfl⟩
  obtain ⟨x3, hx3⟩ : ∃ x, x = h.k := ⟨_, rfl⟩
  rw [← hx0] at c0 HSA HBA
  rw [← hx1] at c1 HSA HBA
  rw [← hx2] at c2 HSA HBA
  rw [← hx3] at c3 HSA HBA
  obtain ⟨sl, hsl⟩ : ∃ x, x = h.slotAt c k := ⟨_, rfl⟩
  have hdI : doesI h c k blk = fun j => if j = 0 then 1 + (blk : Int) else if j = 1 then ((sl : Nat) : Int) else 0 := by rw [hsl]; funext j; unfold doesI; simp
  have hdR : doesR boot op ver D = fun j => if j = 0 then enc ver.toNat ++ enc D.length ++ D else if j = 1 then enc boot.toNat ++ enc op.toNat ++ enc 0 else [] := rfl
  rw [hdI, hdR]
  obtain ⟨res, hres⟩ : ∃ res, res = wrAll d (fun j => if j = 0 then 1 + (blk : Int) else if j = 1 then ((sl : Nat) : Int) else 0) (fun j => if j = 0 then enc ver.toNat ++ enc D.length ++ D else if j = 1 then enc boot.toNat ++ enc op.toNat ++ enc 0 else []) 3 := ⟨_, rfl⟩
  rw [← hres]
  have HRES := Lib.hid hres.symm
  obtain ⟨z, dz⟩ := res
  rw [← hsl] at HSA
  have N2 : ps ∉ [p, bl] := by have := s.np; have := s.nb; simp; omega
  obtain ⟨Dn, hDn⟩ : ∃ n, n = D.length := ⟨_, rfl⟩
  rw [← hDn] at HD hDl ⊢
  have HDN := Lib.hid hDn
  have HC4 := Lib.hid s.c4
  have HN := Lib.hid (fun (l : List Int) w' v (hr : RdI .i64 w' v l) (hl : l.length ≤ 10) (hb : ∀ x ∈ l, -9223372036854775808 ≤ x ∧ x ≤ 9223372036854775807) => snumbers v l w' hr hl hb)
  clear s hF hD hx0 hx1 hx2 hx3 hsl hdI hdR hres hDn hc hk hb
  go_enter Try.func33, Try.ntmps33
  go_upto_region 1 with fail
  have hx0 : Ext w (w.alloc (.cells #[.int .i64 c, .int .i64 k, .int .i64 boot, .int .i64 op, .int .i64 blk, .slice a Dn cc] 38)) := (Ext.refl w).alloc _
  have e0 := cell_new w #[.int .i64 c, .int .i64 k, .int .i64 boot, .int .i64 op, .int .i64 blk, .slice a Dn cc] 38 (0, 0) (j := 0) rfl
  have e1 := cell_new w #[.int .i64 c, .int .i64 k, .int .i64 boot, .int .i64 op, .int .i64 blk, .slice a Dn cc] 38 (0, 0) (j := 1) rfl
  have e2 := cell_new w #[.int .i64 c, .int .i64 k, .int .i64 boot, .int .i64 op, .int .i64 blk, .slice a Dn cc] 38 (0, 0) (j := 2) rfl
  have e3 := cell_new w #[.int .i64 c, .int .i64 k, .int .i64 boot, .int .i64 op, .int .i64 blk, .slice a Dn cc] 38 (0, 0) (j := 3) rfl
  have e4 := cell_new w #[.int .i64 c, .int .i64 k, .int .i64 boot, .int .i64 op, .int .i64 blk, .slice a Dn cc] 38 (0, 0) (j := 4) rfl
  have e5 := cell_new w #[.int .i64 c, .int .i64 k, .int .i64 boot, .int .i64 op, .int .i64 blk, .slice a Dn cc] 38 (0, 0) (j := 5) rfl
  generalize (w.alloc (.cells #[.int .i64 c, .int .i64 k, .int .i64 boot, .int .i64 op, .int .i64 blk, .slice a Dn cc] 38)) = w0 at *
  obtain ⟨pw, hpw⟩ : ∃ pw, pw = w.heap.size := ⟨_, rfl⟩
  rw [← hpw] at e0 e1 e2 e3 e4 e5 ⊢
  have c0 := hx0.cellv c0
  have c1 := hx0.cellv c1
  have c2 := hx0.cellv c2
  have c3 := hx0.cellv c3
  have N1 : pw ∉ [p, bl] := by
    have h1 := HF.out _ HS.out.dk.pF
    have h2 := HF.out _ HS.out.dk.lF
    simp; omega
  have HPW := Lib.hid hpw
  have HPB : Hid (p < pw) := Lib.hid (by rw [hpw]; exact HF.out _ HS.out.dk.pF)
  have HBB : Hid (bl < pw) := Lib.hid (by rw [hpw]; exact HF.out _ HS.out.dk.lF)
  clear hpw
  have HE1 : Hid (encL [ver] = enc ver.toNat) := Lib.hid (by simp [encL])
  have HE2 : Hid (encL [boot, op, 0] = enc boot.toNat ++ enc op.toNat ++ enc 0) := Lib.hid (by simp [encL])
  have HFT : Hid (Fits ((enc ver.toNat).length + D.length + 10)) := Lib.hid (fits_small (by have := enc_len_le 8 ver.toNat (by omega); have := HDN.out; omega))
  go_region_held3 (fun w' => w'.cell? ⟨ps, 0, none⟩ = some (.int .i64 x0) ∧ w'.cell? ⟨ps, 1, none⟩ = some (.int .i64 x1) ∧ w'.cell? ⟨ps, 2, none⟩ = some (.int .i64 x2) ∧ w'.cell? ⟨ps, 3, none⟩ = some (.int .i64 x3) ∧ w'.cell? ⟨pw, 0, none⟩ = some (.int .i64 c) ∧ w'.cell? ⟨pw, 1, none⟩ = some (.int .i64 k) ∧ w'.cell? ⟨pw, 2, none⟩ = some (.int .i64 boot) ∧ w'.cell? ⟨pw, 3, none⟩ = some (.int .i64 op) ∧ w'.cell? ⟨pw, 4, none⟩ = some (.int .i64 blk) ∧ w'.cell? ⟨pw, 5, none⟩ = some (.slice a Dn cc) ∧ Chg [p, bl] w0 w')
    (exact ⟨chg_cellc (w := w0) (by repeat' (first | (with_reducible exact Chg.refl _ _) | (with_reducible assumption) | (with_reducible refine Chg.drewN ?_ _) | (with_reducible refine Chg.drew ?_) | (with_reducible refine Chg.alloc ?_ _) | (with_reducible refine Chg.setCell ?_ (.inl (by simp)) _) | (with_reducible refine Chg.trans ?_ (by assumption)) | (with_reducible refine Chg.ext ?_ (by assumption)))) c0 N2, chg_cellc (w := w0) (by repeat' (first | (with_reducible exact Chg.refl _ _) | (with_reducible assumption) | (with_reducible refine Chg.drewN ?_ _) | (with_reducible refine Chg.drew ?_) | (with_reducible refine Chg.alloc ?_ _) | (with_reducible refine Chg.setCell ?_ (.inl (by simp)) _) | (with_reducible refine Chg.trans ?_ (by assumption)) | (with_reducible refine Chg.ext ?_ (by assumption)))) c1 N2, chg_cellc (w := w0) (by repeat' (first | (with_reducible exact Chg.refl _ _) | (with_reducible assumption) | (with_reducible refine Chg.drewN ?_ _) | (with_reducible refine Chg.drew ?_) | (with_reducible refine Chg.alloc ?_ _) | (with_reducible refine Chg.setCell ?_ (.inl (by simp)) _) | (with_reducible refine Chg.trans ?_ (by assumption)) | (with_reducible refine Chg.ext ?_ (by assumption)))) c2 N2, chg_cellc (w := w0) (by repeat' (first | (with_reducible exact Chg.refl _ _) | (with_reducible assumption) | (with_reducible refine Chg.drewN ?_ _) | (with_reducible refine Chg.drew ?_) | (with_reducible refine Chg.alloc ?_ _) | (with_reducible refine Chg.setCell ?_ (.inl (by simp)) _) | (with_reducible refine Chg.trans ?_ (by assumption)) | (with_reducible refine Chg.ext ?_ (by assumption)))) c3 N2, chg_cellc (w := w0) (by repeat' (first | (with_reducible exact Chg.refl _ _) | (with_reducible assumption) | (with_reducible refine Chg.drewN ?_ _) | (with_reducible refine Chg.drew ?_) | (with_reducible refine Chg.alloc ?_ _) | (with_reducible refine Chg.setCell ?_ (.inl (by simp)) _) | (with_reducible refine Chg.trans ?_ (by assumption)) | (with_reducible refine Chg.ext ?_ (by assumption)))) e0 N1, chg_cellc (w := w0) (by repeat' (first | (with_reducible exact Chg.refl _ _) | (with_reducible assumption) | (with_reducible refine Chg.drewN ?_ _) | (with_reducible refine Chg.drew ?_) | (with_reducible refine Chg.alloc ?_ _) | (with_reducible refine Chg.setCell ?_ (.inl (by simp)) _) | (with_reducible refine Chg.trans ?_ (by assumption)) | (with_reducible refine Chg.ext ?_ (by assumption)))) e1 N1, chg_cellc (w := w0) (by repeat' (first | (with_reducible exact Chg.refl _ _) | (with_reducible assumption) | (with_reducible refine Chg.drewN ?_ _) | (with_reducible refine Chg.drew ?_) | (with_reducible refine Chg.alloc ?_ _) | (with_reducible refine Chg.setCell ?_ (.inl (by simp)) _) | (with_reducible refine Chg.trans ?_ (by assumption)) | (with_reducible refine Chg.ext ?_ (by assumption)))) e2 N1, chg_cellc (w := w0) (by repeat' (first | (with_reducible exact Chg.refl _ _) | (with_reducible assumption) | (with_reducible refine Chg.drewN ?_ _) | (with_reducible refine Chg.drew ?_) | (with_reducible refine Chg.alloc ?_ _) | (with_reducible refine Chg.setCell ?_ (.inl (by simp)) _) | (with_reducible refine Chg.trans ?_ (by assumption)) | (with_reducible refine Chg.ext ?_ (by assumption)))) e3 N1, chg_cellc (w := w0) (by repeat' (first | (with_reducible exact Chg.refl _ _) | (with_reducible assumption) | (with_reducible refine Chg.drewN ?_ _) | (with_reducible refine Chg.drew ?_) | (with_reducible refine Chg.alloc ?_ _) | (with_reducible refine Chg.setCell ?_ (.inl (by simp)) _) | (with_reducible refine Chg.trans ?_ (by assumption)) | (with_reducible refine Chg.ext ?_ (by assumption)))) e4 N1, chg_cellc (w := w0) (by repeat' (first | (with_reducible exact Chg.refl _ _) | (with_reducible assumption) | (with_reducible refine Chg.drewN ?_ _) | (with_reducible refine Chg.drew ?_) | (with_reducible refine Chg.alloc ?_ _) | (with_reducible refine Chg.setCell ?_ (.inl (by simp)) _) | (with_reducible refine Chg.trans ?_ (by assumption)) | (with_reducible refine Chg.ext ?_ (by assumption)))) e5 N1, (by repeat' (first | (with_reducible exact Chg.refl _ _) | (with_reducible assumption) | (with_reducible refine Chg.drewN ?_ _) | (with_reducible refine Chg.drew ?_) | (with_reducible refine Chg.alloc ?_ _) | (with_reducible refine Chg.setCell ?_ (.inl (by simp)) _) | (with_reducible refine Chg.trans ?_ (by assumption)) | (with_reducible refine Chg.ext ?_ (by assumption))))⟩)
    (first
      | (go_at_call 38; refine Calls.mono (HN.out [ver] _ _ ?_ (by simp) (by intro x hx; simp at hx; omega)) ?_; (first | exact RdI.ext (RdI.one .i64 _ ver _) (by (repeat' (first | (with_reducible exact Ext.refl _) | (with_reducible assumption) | (with_reducible refine Ext.alloc ?_ _) | (with_reducible refine Ext.drewN ?_ _) | (with_reducible refine Ext.drew ?_) | (with_reducible refine Ext.trans ?_ (by assumption)))); done) | exact RdI.ext (rdi1p _ _ ver _) (by (repeat' (first | (with_reducible exact Ext.refl _) | (with_reducible assumption) | (with_reducible refine Ext.alloc ?_ _) | (with_reducible refine Ext.drewN ?_ _) | (with_reducible refine Ext.drew ?_) | (with_reducible refine Ext.trans ?_ (by assumption)))); done)); rintro e wN1 ⟨vN1, rfl, hoN1, hxN1⟩; rw [HE1.out] at hoN1)
      | (go_at_call 39; refine Calls.mono (puttext_any vN1 _ (enc ver.toNat) D _ (hoN1.rd.ext (by (repeat' (first | (with_reducible exact Ext.refl _) | (with_reducible assumption) | (with_reducible refine Ext.alloc ?_ _) | (with_reducible refine Ext.drewN ?_ _) | (with_reducible refine Ext.drew ?_) | (with_reducible refine Ext.trans ?_ (by assumption)))); done)) ((HD.out.ext hx0).ext (by (repeat' (first | (with_reducible exact Ext.refl _) | (with_reducible assumption) | (with_reducible refine Ext.alloc ?_ _) | (with_reducible refine Ext.drewN ?_ _) | (with_reducible refine Ext.drew ?_) | (with_reducible refine Ext.trans ?_ (by assumption)))); done)) HFT.out) ?_; rintro e wT ⟨vT, rfl, hoT, hxT⟩; obtain ⟨aT, nT, cT, rfl⟩ := hoT.rd.isSlice)
      | (go_at_call 38; refine Calls.mono (HN.out [boot, op, 0] _ _ ?_ (by simp) (by intro x hx; simp at hx; omega)) ?_; (first | exact RdI.ext (rdi3 _ boot op 0 _) (by (repeat' (first | (with_reducible exact Ext.refl _) | (with_reducible assumption) | (with_reducible refine Ext.alloc ?_ _) | (with_reducible refine Ext.drewN ?_ _) | (with_reducible refine Ext.drew ?_) | (with_reducible refine Ext.trans ?_ (by assumption)))); done) | exact RdI.ext (rdi3p _ _ boot op 0 _) (by (repeat' (first | (with_reducible exact Ext.refl _) | (with_reducible assumption) | (with_reducible refine Ext.alloc ?_ _) | (with_reducible refine Ext.drewN ?_ _) | (with_reducible refine Ext.drew ?_) | (with_reducible refine Ext.trans ?_ (by assumption)))); done)); rintro e wN2 ⟨vN2, rfl, hoN2, hxN2⟩; rw [HE2.out] at hoN2; obtain ⟨aN, nN, cN, rfl⟩ := hoN2.rd.isSlice)
      | (go_at_call 51; refine Calls.mono (swrites _ ps _ pw (.slice aT nT cT) (.slice aN nN cN) (.slice none 0 0) (Ext.cellv (by (repeat' (first | (with_reducible exact Ext.refl _) | (with_reducible assumption) | (with_reducible refine Ext.alloc ?_ _) | (with_reducible refine Ext.drewN ?_ _) | (with_reducible refine Ext.drew ?_) | (with_reducible refine Ext.trans ?_ (by assumption)))); done) (cell_new _ #[Value.slice aT nT cT, Value.slice aN nN cN, Value.slice none 0 0] _ (0, 0) (j := 0) rfl)) (Ext.cellv (by (repeat' (first | (with_reducible exact Ext.refl _) | (with_reducible assumption) | (with_reducible refine Ext.alloc ?_ _) | (with_reducible refine Ext.drewN ?_ _) | (with_reducible refine Ext.drew ?_) | (with_reducible refine Ext.trans ?_ (by assumption)))); done) (cell_new _ #[Value.slice aT nT cT, Value.slice aN nN cN, Value.slice none 0 0] _ (0, 0) (j := 1) rfl)) (Ext.cellv (by (repeat' (first | (with_reducible exact Ext.refl _) | (with_reducible assumption) | (with_reducible refine Ext.alloc ?_ _) | (with_reducible refine Ext.drewN ?_ _) | (with_reducible refine Ext.drew ?_) | (with_reducible refine Ext.trans ?_ (by assumption)))); done) (cell_new _ #[Value.slice aT nT cT, Value.slice aN nN cN, Value.slice none 0 0] _ (0, 0) (j := 2) rfl)) (by rw [HPW.out]; exact Ext.size (w := w) (hx0.trans (by (repeat' (first | (with_reducible exact Ext.refl _) | (with_reducible assumption) | (with_reducible refine Ext.alloc ?_ _) | (with_reducible refine Ext.drewN ?_ _) | (with_reducible refine Ext.drew ?_) | (with_reducible refine Ext.trans ?_ (by assumption)))); done))) (by rw [HPW.out]; exact Ext.size (w := w) (hx0.trans (by (repeat' (first | (with_reducible exact Ext.refl _) | (with_reducible assumption) | (with_reducible refine Ext.alloc ?_ _) | (with_reducible refine Ext.drewN ?_ _) | (with_reducible refine Ext.drew ?_) | (with_reducible refine Ext.trans ?_ (by assumption)))); done)))) ?_; rintro e wW ⟨pl, pc, rfl, hclo, hxW⟩)
      | (go_at_call 52; refine Calls.mono (HBA.out _) ?_; rintro e wBA ⟨rfl, hxBA⟩)
      | (go_at_call 37; refine Calls.mono (HSA.out _) ?_; rintro e wSA ⟨rfl, hxSA⟩)
      | (go_at_call 57; refine Calls.mono (swrites3 _ F ps p bl d pl pc _ pw _ _ _ _ (hclo.ext (by (repeat' (first | (with_reducible exact Ext.refl _) | (with_reducible assumption) | (with_reducible refine Ext.alloc ?_ _) | (with_reducible refine Ext.drewN ?_ _) | (with_reducible refine Ext.drew ?_) | (with_reducible refine Ext.trans ?_ (by assumption)))); done)) (1 + (blk : Int)) sl 0 (cell_new _ #[Value.int .i64 (1 + (blk : Int)), Value.int .i64 sl, Value.int .i64 0] _ (0, 0) (j := 0) rfl) (cell_new _ #[Value.int .i64 (1 + (blk : Int)), Value.int .i64 sl, Value.int .i64 0] _ (0, 0) (j := 1) rfl) (cell_new _ #[Value.int .i64 (1 + (blk : Int)), Value.int .i64 sl, Value.int .i64 0] _ (0, 0) (j := 2) rfl) (by rw [HPW.out]; exact Ext.size (w := w) (hx0.trans (by (repeat' (first | (with_reducible exact Ext.refl _) | (with_reducible assumption) | (with_reducible refine Ext.alloc ?_ _) | (with_reducible refine Ext.drewN ?_ _) | (with_reducible refine Ext.drew ?_) | (with_reducible refine Ext.trans ?_ (by assumption)))); done))) HPB.out HBB.out (Ext.cellv (w := w) (hx0.trans (by (repeat' (first | (with_reducible exact Ext.refl _) | (with_reducible assumption) | (with_reducible refine Ext.alloc ?_ _) | (with_reducible refine Ext.drewN ?_ _) | (with_reducible refine Ext.drew ?_) | (with_reducible refine Ext.trans ?_ (by assumption)))); done)) HC4.out) HS.out.np HS.out.nb (HS.out.dk.ext (hx0.trans (by (repeat' (first | (with_reducible exact Ext.refl _) | (with_reducible assumption) | (with_reducible refine Ext.alloc ?_ _) | (with_reducible refine Ext.drewN ?_ _) | (with_reducible refine Ext.drew ?_) | (with_reducible refine Ext.trans ?_ (by assumption)))); done))) (fun f hf => Nat.lt_of_lt_of_le (HF.out f hf) (Ext.size (w := w) (hx0.trans (by (repeat' (first | (with_reducible exact Ext.refl _) | (with_reducible assumption) | (with_reducible refine Ext.alloc ?_ _) | (with_reducible refine Ext.drewN ?_ _) | (with_reducible refine Ext.drew ?_) | (with_reducible refine Ext.trans ?_ (by assumption)))); done)))) _ _ [] (hoT.rd.ext (by (repeat' (first | (with_reducible exact Ext.refl _) | (with_reducible assumption) | (with_reducible refine Ext.alloc ?_ _) | (with_reducible refine Ext.drewN ?_ _) | (with_reducible refine Ext.drew ?_) | (with_reducible refine Ext.trans ?_ (by assumption)))); done)) (hoN2.rd.ext (by (repeat' (first | (with_reducible exact Ext.refl _) | (with_reducible assumption) | (with_reducible refine Ext.alloc ?_ _) | (with_reducible refine Ext.drewN ?_ _) | (with_reducible refine Ext.drew ?_) | (with_reducible refine Ext.trans ?_ (by assumption)))); done)) (RdI.nil _ _) (fun b hb => Nat.le_trans (by rw [HPW.out]; exact Ext.size (w := w) (hx0.trans (by (repeat' (first | (with_reducible exact Ext.refl _) | (with_reducible assumption) | (with_reducible refine Ext.alloc ?_ _) | (with_reducible refine Ext.drewN ?_ _) | (with_reducible refine Ext.drew ?_) | (with_reducible refine Ext.trans ?_ (by assumption)))); done))) (hoT.lt b hb).1) (fun b hb => Nat.le_trans (by rw [HPW.out]; exact Ext.size (w := w) (hx0.trans (by (repeat' (first | (with_reducible exact Ext.refl _) | (with_reducible assumption) | (with_reducible refine Ext.alloc ?_ _) | (with_reducible refine Ext.drewN ?_ _) | (with_reducible refine Ext.drew ?_) | (with_reducible refine Ext.trans ?_ (by assumption)))); done))) (hoN2.lt b hb).1) (fun b hb => by cases hb)) ?_; rintro e wZ ⟨he, hdZ, hcZ⟩; rw [HRES.out] at he hdZ; subst he))
  all_goals
    have hch := (Chg.of_ext (S := [p, bl]) (hx0.trans (show Ext w0 (wSA.alloc _) from (by (repeat' (first | (with_reducible exact Ext.refl _) | (with_reducible assumption) | (with_reducible refine Ext.alloc ?_ _) | (with_reducible refine Ext.drewN ?_ _) | (with_reducible refine Ext.drew ?_) | (with_reducible refine Ext.trans ?_ (by assumption)))); done)))).trans hcZ
    have HDZ := Lib.hid hdZ
    have HCH := Lib.hid hch
    clear hdZ hch hcZ
    go_wp2_with fail
    go_ret
    exact ⟨rfl, HDZ.out, HCH.out⟩
end
end Go.Proofs.Ytoadjmeopamgbaa
