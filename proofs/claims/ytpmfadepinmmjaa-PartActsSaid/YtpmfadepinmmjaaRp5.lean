/-
  part.Cache's acts, as gradineref15's are told. No condition but that the cache lies in memory.
-/
import Derived.Test.YtpmfadepinmmjaaRp4
import Derived.Test.YtpmfadepinmmjaaKClone
import Derived.Test.YtpmfadepinmmjaaStepApp
namespace Go.Proofs.Ytpmfadepinmmjaa
open Go.RowKit

theorem step_append_rdg {P : Program} {ops : Array Oper} {o : Oper} {a : Act} {w : World} {K : Act → World → Prop} {Q : Exit → Act → World → Prop} {E : Prop} (hgd : o.guard = none) (s x : Operand) (t : TypeId)
    (ho : o.op = .call { callee := .builtin .append, args := #[s, x], argTypes := #[t, t] }) (e : TypeId) (z : Value) (size bytes : Nat) (ht : P.underlying t = some (.slice e))
    (hinfo : (P.info? e).map (fun i => (i.zero, i.size, i.bytes)) = some (some z, size, bytes)) (hzs : z.cells.size = size) (hsz : 0 < size) (hby : bytes ≤ 64) (B : Nat) (hB : B ≤ w.heap.size) (v : Value) (n : Nat) (xs : List Value) (hs : a.eval s = v) (hown : w.ownsRow B e size v n xs)
    (y : Value) (m : Nat) (ys : List Value) (hx : a.eval x = y) (hr : Rd w size y m ys) (h1 : ∀ u ∈ ys, u.oneCell' = true) (hfit : n + m ≤ 1000000)
    (h : ∀ v' w', w'.ownsRow B e size v' (n + m) (xs ++ ys) → w.grownBy w' v.ownBlock → K (a.put o.dst v') w') :
    if Region.wanted o (yielded ops a.tmps) = true then Oper.wp P o a w K Q else E := by
  obtain ⟨i0, hi, hz0, hz1, hz2⟩ := info_parts hinfo
  obtain ⟨hl, ad, c, rfl, hmc, hcm, hnil, hsome⟩ := hr
  have hw : Region.wanted o (yielded ops a.tmps) = true := by simp [Region.wanted, hgd]
  rw [if_pos hw]
  cases ad with
  | none =>
    obtain ⟨rfl, rfl⟩ := hnil rfl
    have : ys = [] := List.eq_nil_of_length_eq_zero (by simpa using hl)
    subst this
    have hrun := run_append_owned_none (P := P) (w := w) B t o.type e i0 size ht hi v n xs hown
    have h9 := h v w
    simp only [List.append_nil, Nat.add_zero] at h9
    unfold Oper.wp
    simp [execOp, ho, resolve, invoke, builtin, hs, hx, hrun, Result.andThen]
    exact h9 hown (World.grownBy.refl _ _)
  | some ad =>
    refine wp_append_own w s x t ho B e i0 z size bytes ht hi hz0 hz1 hz2 hzs hsz v n xs hs hown ad m c ys hx hl ?_ h1 (by unfold maxLen; omega) ?_ hB (fun v' w' h2 h3 _ => h v' w' h2 h3)
    · intro j u hu
      have hpos : 0 < m := by
        rcases Nat.eq_zero_or_pos m with rfl | h
        · have : ys = [] := List.eq_nil_of_length_eq_zero (by simpa using hl)
          subst this; simp at hu
        · exact h
      obtain ⟨b, o, hbo, _, hc⟩ := hsome hpos
      obtain rfl : ad = ⟨b, o, none⟩ := by simpa using hbo
      rw [add_none]
      exact hc j u hu
    · have : (n + m) * bytes ≤ 1000000 * 64 := Nat.mul_le_mul hfit hby
      omega

theorem Chg.mono {S S' : List Nat} {a b : World} (h : Chg S a b) (hS : ∀ s ∈ S, s ∈ S') : Chg S' a b :=
  ⟨h.os, h.tape, h.output, h.size, fun k hk hn => h.block k hk (fun hm => hn (hS k hm))⟩
theorem PartAt.off {w w' : World} {pc pp bs be t : Nat} {bl : Int} {c : Nat → Nat} {n : Nat} {F : Nat → Nat → Int} {L : Nat → Bool} {M : List Nat} {Ls : List (List Nat)} {g : Nat} (h : PartAt w pc pp bs be t bl c n F L M Ls) (hc : Chg [g] w w') (h1 : pc ≠ g) (h2 : bs ≠ g) (h3 : be ≠ g) (h4 : bs ≤ g) : PartAt w' pc pp bs be t bl c n F L M Ls := by
  have hp : pc ∉ [g] := by simpa using h1
  refine ⟨chg_cellc hc h.c0 hp, chg_cellc hc h.c1 hp, chg_cellc hc h.c2 hp, h.ne1, h.ne2, h.tier, ?_, ?_, h.ok⟩
  · obtain ⟨w0, k1, k2, k3, k4⟩ := h.plan
    exact ⟨w0, k1, Ext.chg k2 hc (by simp; omega), k3, k4⟩
  · obtain ⟨A, E, k1, k2⟩ := h.space
    exact ⟨A, E, k1.chg hc (by simpa using h2) (by simpa using h3), k2⟩
theorem pr_32 {n : Nat} {F : Nat → Nat → Int} {c : Nat → Nat} {M : List Nat} (ok : FrOk n F) (hM : Ord (kT n F) (kB n F) n M) (x t : Nat) : PR F c M x t ≤ 32 := by
  have := stK_le' (c := c) ok hM M.length x t
  rw [List.take_length] at this
  exact this
section
variable (pc pp bs be t : Nat) (bl : Int) (c : Nat → Nat) (n : Nat) (F : Nat → Nat → Int) (L : Nat → Bool) (M : List Nat) (Ls : List (List Nat)) (w : World) (h : PartAt w pc pp bs be t bl c n F L M Ls) (b : Int) (is : Bool) (x : Nat) (hr : RngB n F b is x) (V : Int) (Gn W : Bool) (E : Int) (T : List Nat)
include h hr
theorem ls_self : (if is = true then Ls.set x (Ls.getD x []) else Ls) = Ls := by
  split
  · rename_i hi
    refine set_self Ls ?_
    rw [h.ok.len]
    rcases hr with ⟨a, _⟩ | ⟨_, a, _⟩
    · rw [hi] at a; cases a
    · omega
  · rfl
theorem act_use (hd : doF 0 (PR F c M x (t - 1)) (L x) (Ls.getD x []) b.toNat is = (V, Gn, W, E, T)) : Calls Try.prog 21 #[.pointer (some ⟨pc, 0, none⟩), .int .i64 b] w fun e w' => e = .returned (.bool W) ∧ PartAt w' pc pp bs be t bl c n F L M (if is = true then Ls.set x T else Ls) ∧ Chg [bs, be] w w' := by
  refine (puse pc pp bs be t bl c n F L M Ls w h b is x hr _ rfl).mono ?_
  rintro e w' ⟨rfl, hp, hc⟩
  unfold doF at hd
  rw [if_neg (by omega)] at hd
  by_cases hs : is = true ∧ b.toNat ∈ Ls.getD x []
  · rw [if_pos hs, if_pos (by decide)] at hd
    simp only [Prod.mk.injEq] at hd
    obtain ⟨_, _, rfl, _, rfl⟩ := hd
    refine ⟨by rw [decide_eq_true hs], ?_, hc⟩
    rw [show useP (Ls.getD x []) b.toNat = b.toNat :: remP (Ls.getD x []) b.toNat from if_pos hs.2] at hp
    exact hp
  · rw [if_neg hs, if_pos (by decide)] at hd
    simp only [Prod.mk.injEq] at hd
    obtain ⟨_, _, rfl, _, rfl⟩ := hd
    refine ⟨by rw [decide_eq_false hs], ?_, hc⟩
    by_cases hi : is = true
    · rw [show useP (Ls.getD x []) b.toNat = Ls.getD x [] from if_neg (fun hm => hs ⟨hi, hm⟩)] at hp
      exact hp
    · rw [if_neg hi] at hp ⊢
      exact hp
theorem act_rem (hd : doF 2 (PR F c M x (t - 1)) (L x) (Ls.getD x []) b.toNat is = (V, Gn, W, E, T)) : Calls Try.prog 17 #[.pointer (some ⟨pc, 0, none⟩), .int .i64 b] w fun e w' => e = .returned (.bool W) ∧ PartAt w' pc pp bs be t bl c n F L M (if is = true then Ls.set x T else Ls) ∧ Chg [bs, be] w w' := by
  refine (premove pc pp bs be t bl c n F L M Ls w h b is x hr _ rfl).mono ?_
  rintro e w' ⟨rfl, hp, hc⟩
  unfold doF at hd
  rw [if_neg (by omega)] at hd
  by_cases hs : is = true ∧ b.toNat ∈ Ls.getD x []
  · rw [if_pos hs, if_neg (by decide)] at hd
    simp only [Prod.mk.injEq] at hd
    obtain ⟨_, _, rfl, _, rfl⟩ := hd
    exact ⟨by rw [decide_eq_true hs], hp, hc⟩
  · rw [if_neg hs, if_pos (by decide)] at hd
    simp only [Prod.mk.injEq] at hd
    obtain ⟨_, _, rfl, _, rfl⟩ := hd
    refine ⟨by rw [decide_eq_false hs], ?_, hc⟩
    by_cases hi : is = true
    · rw [show remP (Ls.getD x []) b.toNat = Ls.getD x [] from filter_not (fun hm => hs ⟨hi, hm⟩)] at hp
      exact hp
    · rw [if_neg hi] at hp ⊢
      exact hp
theorem act_add (hd : doF 1 (PR F c M x (t - 1)) (L x) (Ls.getD x []) b.toNat is = (V, Gn, W, E, T)) : Calls Try.prog 11 #[.pointer (some ⟨pc, 0, none⟩), .int .i64 b] w fun e w' => e = .returned (.tuple #[.int .i64 V, .bool Gn, .int .i64 E]) ∧ PartAt w' pc pp bs be t bl c n F L M (if is = true then Ls.set x T else Ls) ∧ Chg [bs, be] w w' := by
  have hself := ls_self pc pp bs be t bl c n F L M Ls w h b is x hr
  have hpv := h.pv x
  unfold doF at hd
  by_cases h0 : is = false ∨ PR F c M x (t - 1) = 0
  · rw [if_pos ⟨rfl, h0⟩] at hd
    simp only [Prod.mk.injEq] at hd
    obtain ⟨rfl, rfl, _, rfl, rfl⟩ := hd
    have hz : partV F c M is x (t : Nat) = 0 := by
      rcases h0 with rfl | h0
      · unfold partV; rw [if_neg (by simp)]
      · cases is with
        | false => unfold partV; rw [if_neg (by simp)]
        | true => rw [hpv]; exact h0
    refine (padd_no pc pp bs be t bl c n F L M Ls w h b is x hr hz).mono ?_
    rintro e w' ⟨rfl, hx⟩
    rw [hself]
    exact ⟨rfl, h.ext hx, Chg.of_ext hx⟩
  · have hi : is = true := by cases is with | true => rfl | false => exact absurd (.inl rfl) h0
    have hp0 : ¬ PR F c M x (t - 1) = 0 := fun e => h0 (.inr e)
    rw [if_neg (fun e => h0 e.2)] at hd
    subst hi
    have hb : 0 ≤ b := by
      rcases hr with ⟨a, _⟩ | ⟨_, h1, h2⟩
      · cases a
      · exact (hin_ok h.pl.ok h1 h2).1
    obtain ⟨k, rfl⟩ := Int.eq_ofNat_of_zero_le hb
    rw [Int.toNat_natCast] at hd
    have hA : addP (PR F c M x (t - 1)) (L x) (Ls.getD x []) k = (V, Gn, E, T) := by
      unfold addP
      rw [if_neg hp0]
      by_cases hm : k ∈ Ls.getD x []
      · rw [if_pos ⟨rfl, hm⟩, if_pos (by decide)] at hd
        simp only [Prod.mk.injEq] at hd
        obtain ⟨rfl, rfl, _, rfl, rfl⟩ := hd
        rw [if_pos hm]
        unfold useP remP
        rw [if_pos hm]
      · rw [if_neg (fun e => hm e.2), if_neg (by decide)] at hd
        rw [if_neg hm]
        by_cases hl : PR F c M x (t - 1) ≤ (Ls.getD x []).length
        · rw [if_pos hl] at hd ⊢
          simp only [Prod.mk.injEq] at hd
          obtain ⟨rfl, rfl, _, rfl, rfl⟩ := hd
          rfl
        · rw [if_neg hl] at hd ⊢
          simp only [Prod.mk.injEq] at hd
          obtain ⟨rfl, rfl, _, rfl, rfl⟩ := hd
          rfl
    refine (padd_in pc pp bs be t bl c n F L M Ls w h k k x rfl hr _ hA.symm).mono ?_
    rintro e w' ⟨rfl, hp, hc⟩
    rw [if_pos rfl]
    exact ⟨rfl, hp, hc⟩
end
end Go.Proofs.Ytpmfadepinmmjaa
