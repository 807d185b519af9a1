/-
  Plain facts on memory, over any program: what it means that a slice value reads as a list of cells ('Rd'), and that a world has grown. No condition.
-/
import Derived.WalkKit
import Derived.Laws.AppendOwnNone
import Derived.Lib.Hide
import Derived.Carry
import Derived.WalkSpells
import Derived.WalkLawsBesides
import Derived.BigQuiet
import Derived.Deep.QuietTactic
import Derived.Deep.DeepMust
import Derived.Deep.DeepFit
import Derived.Outline
import Derived.ScopeJumps
import Derived.WalkMore
namespace Go.Proofs.Ythoioocfembkgaa
open Go.RowKit

/-- the slice value v has n elements of 'size' cells each; its cells read xs -/
def Rd (w : World) (size : Nat) (v : Value) (n : Nat) (xs : List Value) : Prop :=
  xs.length = n * size ∧ ∃ a c, v = .slice a n c ∧ n ≤ c ∧ c ≤ maxLen ∧
    (a = none → n = 0 ∧ c = 0) ∧ (0 < n → ∃ b o, a = some ⟨b, o, none⟩ ∧ b < w.heap.size ∧ ∀ j u, xs[j]? = some u → w.cell? ⟨b, o + j, none⟩ = some u)

theorem cell_lt {w : World} {b o : Nat} {u : Value} (h : w.cell? ⟨b, o, none⟩ = some u) : b < w.heap.size :=
  World.block_lt_of_cell? w ⟨b, o, none⟩ h

theorem Rd.nil (w : World) (size : Nat) : Rd w size (.slice none 0 0) 0 [] :=
  ⟨by simp, none, 0, rfl, Nat.le_refl _, Nat.zero_le _, fun _ => ⟨rfl, rfl⟩, fun h => absurd h (Nat.lt_irrefl _)⟩

theorem Rd.below {w w' : World} {size n : Nat} {v : Value} {xs : List Value} {B : Nat} (h : Rd w size v n xs) (hb : Below B w w') (hB : w.heap.size ≤ B) : Rd w' size v n xs := by
  obtain ⟨h1, a, c, rfl, h2, h3, h4, h5⟩ := h
  refine ⟨h1, a, c, rfl, h2, h3, h4, fun hn => ?_⟩
  obtain ⟨b, o, rfl, hlt, hc⟩ := h5 hn
  exact ⟨b, o, rfl, Nat.lt_of_lt_of_le hlt hb.size, fun j u hu => (hb.cell (p := ⟨b, o + j, none⟩) (Nat.lt_of_lt_of_le hlt hB)).trans (hc j u hu)⟩

theorem Rd.of_own {w : World} {base : Nat} {e : TypeId} {size n : Nat} {v : Value} {xs : List Value} (h : w.ownsRow base e size v n xs) : Rd w size v n xs := by
  obtain ⟨h1, h2⟩ := h
  rcases h2 with ⟨rfl, rfl⟩ | ⟨g, cap, cur, rfl, hb, hg, hn, hm, hs, ht⟩
  · have : xs = [] := List.eq_nil_of_length_eq_zero (by simpa using h1)
    subst this; exact Rd.nil w size
  · refine ⟨h1, _, _, rfl, hn, hm, fun h => (by cases h), fun _ => ⟨g, 0, rfl, (Array.getElem?_eq_some_iff.1 hg).1, fun j u hu => ?_⟩⟩
    rw [Nat.zero_add, cell_of_row w g j cur e (0, 0) hg]
    rw [← ht, List.getElem?_take] at hu
    split at hu
    · simpa using hu
    · cases hu

theorem own_below {w w' : World} {base : Nat} {e : TypeId} {size n : Nat} {v : Value} {xs : List Value} {B : Nat} (h : w.ownsRow base e size v n xs) (hb : Below B w w') (hB : w.heap.size ≤ B) : w'.ownsRow base e size v n xs := by
  refine ⟨h.1, ?_⟩
  rcases h.2 with hn | ⟨g, cap, cur, rfl, hb', hgg, rest⟩
  · exact .inl hn
  · exact .inr ⟨g, cap, cur, rfl, hb', (hb.block g (Nat.lt_of_lt_of_le (Array.getElem?_eq_some_iff.1 hgg).1 hB)).trans hgg, rest⟩

theorem Rd.one (w : World) (u : Value) (e : TypeId) : Rd (w.alloc (.cells #[u] e)) 1 (.slice (some ⟨w.heap.size, 0, none⟩) 1 1) 1 [u] := by
  refine ⟨by simp, _, _, rfl, Nat.le_refl _, by simp [maxLen], fun h => (by cases h), fun _ => ⟨w.heap.size, 0, rfl, by simp, fun j v hj => ?_⟩⟩
  match j, hj with
  | 0, hj => simp at hj; subst hj; simp

/-- 'append(s, x...)': s the call's own, x whatever slice -/
theorem wpList_append_rd {P : Program} {w : World} {ops : Array Oper} {rest : List Oper} {o : Oper} {a : Act} {Q : Exit → Act → World → Prop} (hgd : o.guard = none) (s x : Operand) (t : TypeId)
    (ho : o.op = .call { callee := .builtin .append, args := #[s, x], argTypes := #[t, t] })
    (base : Nat) (e : TypeId) (i : TypeInfo) (z : Value) (size bytes : Nat) (ht : P.underlying t = some (.slice e)) (hi : P.info? e = some i) (hz : i.zero = some z)
    (hsize : i.size = size) (hby : i.bytes = bytes) (hzs : z.cells.size = size) (hsz : 0 < size)
    (v : Value) (n : Nat) (xs : List Value) (hs : a.eval s = v) (hown : w.ownsRow base e size v n xs)
    (y : Value) (m : Nat) (ys : List Value) (hx : a.eval x = y) (hr : Rd w size y m ys) (h1 : ∀ u ∈ ys, u.oneCell' = true)
    (h63 : n + m ≤ maxLen) (hbytes : (n + m) * bytes ≤ 140737488355328) (hbase : base ≤ w.heap.size)
    (h : ∀ v' w', w'.ownsRow base e size v' (n + m) (xs ++ ys) → w.grownBy w' v.ownBlock → wpList P ops Q rest (a.put o.dst v') w') : wpList P ops Q (o :: rest) a w := by
  obtain ⟨hl, ad, c, rfl, hmc, hcm, hnil, hsome⟩ := hr
  cases ad with
  | none =>
    obtain ⟨rfl, rfl⟩ := hnil rfl
    have : ys = [] := List.eq_nil_of_length_eq_zero (by simpa using hl)
    subst this
    refine wpList_append_own_none hgd s x t ho base e i size ht hi v n xs hs hown hx ?_
    have := h v w
    simp only [List.append_nil, Nat.add_zero] at this
    exact this hown (World.grownBy.refl _ _)
  | some ad =>
    refine wpList_append_own _ hgd s x t ho base e i z size bytes ht hi hz hsize hby hzs hsz v n xs hs hown ad m c ys hx hl ?_ h1 h63 hbytes hbase (fun v' w' o g _ => h v' w' o g)
    intro j u hu
    have hpos : 0 < m := by
      rcases Nat.eq_zero_or_pos m with rfl | h
      · have : ys = [] := List.eq_nil_of_length_eq_zero (by simpa using hl)
        subst this; simp at hu
      · exact h
    obtain ⟨b, o, hbo, _, hc⟩ := hsome hpos
    obtain rfl : ad = ⟨b, o, none⟩ := by simpa using hbo
    have := hc j u hu
    have he : (⟨b, o, none⟩ : Addr).add j = ⟨b, o + j, none⟩ := by unfold Addr.add; split <;> simp_all
    rw [he]; exact this

theorem below_own {B : Nat} {a w w' : World} {v : Value} {base : Nat} {e : TypeId} {size n : Nat} {xs : List Value} (h : Below B a w) (ho : w.ownsRow base e size v n xs) (hg : w.grownBy w' v.ownBlock) (hB : B ≤ base) (hb : base ≤ w.heap.size) : Below B a w' :=
  h.grown hg (Nat.le_trans hB hb) (fun k hk => Nat.le_trans hB (ho.lt k hk).1)

/-- integers as cells -/
abbrev cellsOf (k : IntKind) (l : List Int) : List Value := l.map (Value.int k)
theorem cellsOf_one {k : IntKind} {l : List Int} : ∀ u ∈ cellsOf k l, u.oneCell' = true := by
  intro u hu; simp only [List.mem_map] at hu; obtain ⟨x, _, rfl⟩ := hu; rfl

/-- a slice of integers reads l -/
def RdI (k : IntKind) (w : World) (v : Value) (l : List Int) : Prop := Rd w 1 v l.length (cellsOf k l)

theorem RdI.below {k : IntKind} {w w' : World} {v : Value} {l : List Int} {B : Nat} (h : RdI k w v l) (hb : Below B w w') (hB : w.heap.size ≤ B) : RdI k w' v l := Rd.below h hb hB
theorem RdI.nil (k : IntKind) (w : World) : RdI k w (.slice none 0 0) [] := Rd.nil w 1

/-- what a slice of integers is, taken apart: nil or empty, or cells that are there -/
theorem RdI.parts {k : IntKind} {w : World} {v : Value} {l : List Int} (h : RdI k w v l) :
    ∃ a c, v = .slice a l.length c ∧ l.length ≤ c ∧ c ≤ maxLen ∧ (a = none → l = [] ∧ c = 0) ∧
      (l ≠ [] → ∃ b o, a = some ⟨b, o, none⟩ ∧ b < w.heap.size ∧ ∀ j, j < l.length → w.cell? ⟨b, o + j, none⟩ = some (.int k (l.getD j 0))) := by
  obtain ⟨h1, a, c, rfl, h2, h3, h4, h5⟩ := h
  refine ⟨a, c, rfl, h2, h3, fun h => ⟨List.eq_nil_of_length_eq_zero (h4 h).1, (h4 h).2⟩, fun hn => ?_⟩
  obtain ⟨b, o, rfl, hlt, hc⟩ := h5 (List.length_pos_iff.2 hn)
  exact ⟨b, o, rfl, hlt, fun j hj => hc j _ (by simp [List.getD, hj])⟩

theorem int_one {k : IntKind} {x : Int} : ∀ u ∈ [Value.int k x], u.oneCell' = true := by
  intro u hu; simp only [List.mem_singleton] at hu; subst hu; rfl

/-- a scope with one label: what holds at the label, and that from there on a jump lowers a measure; the way to the label may use it -/
theorem wp_scope_label {P : Program} {a : Act} {w : World} {Q : Exit → Act → World → Prop} {c X : Code} (l : Nat) (J : Act → World → Prop) (μ : Act → World → Nat) (hf : findLabel c l = some (.seq .skip X))
    (pass : ∀ a w, J a w → X.wp P (Exit.jump l (fun a' w' => J a' w' ∧ μ a' w' < μ a w) Q) a w)
    (first : (∀ a w, J a w → X.wp P (Exit.jump l J Q) a w) → c.wp P (Exit.jump l J Q) a w) : (Code.scope c).wp P Q a w := by
  refine wp_scope_jumps l J μ hf (first fun a w h => wp_mono (pass a w h) fun e a' w' hq => ?_) (fun a w h => wp_seq (wp_skip (pass a w h)))
  cases e <;> first | exact hq | exact ⟨hq.1, hq.2.1⟩

theorem ret_bool {a b : Bool} (h : a = b) : Ending.returned (.bool a) = .returned (.bool b) := by rw [h]
theorem ret_int {k : IntKind} {a b : Int} (h : a = b) : Ending.returned (.int k a) = .returned (.int k b) := by rw [h]

/-- a number of elements that any slice of bytes or of integers may have (kept behind a name: the walk never sees the numeral) -/
def Fits (n : Nat) : Prop := n ≤ 1099511627776
theorem Fits.out {n : Nat} (h : Fits n) : n ≤ 1099511627776 := h

/-- w' is w with more in it: nothing that was there has changed -/
def Ext (w w' : World) : Prop := Below w.heap.size w w'
theorem Ext.refl (w : World) : Ext w w := Below.refl _ _
theorem Ext.size {w w' : World} (h : Ext w w') : w.heap.size ≤ w'.heap.size := Below.size h
theorem Ext.trans {a b c : World} (h : Ext a b) (k : Ext b c) : Ext a c := Below.trans h (Below.mono k h.size)
theorem Ext.alloc {a w : World} (h : Ext a w) (o : Obj) : Ext a (w.alloc o) := Below.alloc h h.size o
theorem Ext.drew {a w : World} (h : Ext a w) : Ext a w.drew := Below.drew h
theorem Ext.drewN {a w : World} (h : Ext a w) (n : Nat) : Ext a (w.drewN n) := below_drewN h n
theorem Ext.cell {w w' : World} (h : Ext w w') {b o : Nat} (hb : b < w.heap.size) : w'.cell? ⟨b, o, none⟩ = w.cell? ⟨b, o, none⟩ := Below.cell (p := ⟨b, o, none⟩) h hb
theorem Ext.cellv {w w' : World} (h : Ext w w') {b o : Nat} {u : Value} (hc : w.cell? ⟨b, o, none⟩ = some u) : w'.cell? ⟨b, o, none⟩ = some u := (h.cell (cell_lt hc)).trans hc
theorem Rd.ext {w w' : World} {size n : Nat} {v : Value} {xs : List Value} (h : Rd w size v n xs) (hb : Ext w w') : Rd w' size v n xs := h.below hb (Nat.le_refl _)
theorem RdI.ext {k : IntKind} {w w' : World} {v : Value} {l : List Int} (h : RdI k w v l) (hb : Ext w w') : RdI k w' v l := Rd.ext h hb
theorem own_ext {w w' : World} {base : Nat} {e : TypeId} {size n : Nat} {v : Value} {xs : List Value} (h : w.ownsRow base e size v n xs) (hb : Ext w w') : w'.ownsRow base e size v n xs := own_below h hb (Nat.le_refl _)

/-- a slice of integers that the call itself has made, from block 'base' on -/
def OwnI (k : IntKind) (e : TypeId) (base : Nat) (w : World) (v : Value) (l : List Int) : Prop := w.ownsRow base e 1 v l.length (cellsOf k l)
theorem OwnI.rd {k : IntKind} {e : TypeId} {base : Nat} {w : World} {v : Value} {l : List Int} (h : OwnI k e base w v l) : RdI k w v l := Rd.of_own h
theorem OwnI.ext {k : IntKind} {e : TypeId} {base : Nat} {w w' : World} {v : Value} {l : List Int} (h : OwnI k e base w v l) (hb : Ext w w') : OwnI k e base w' v l := own_ext h hb
theorem OwnI.mono {k : IntKind} {e : TypeId} {base base' : Nat} {w : World} {v : Value} {l : List Int} (h : OwnI k e base w v l) (hb : base' ≤ base) : OwnI k e base' w v l := by
  refine ⟨h.1, ?_⟩
  rcases h.2 with hn | ⟨g, cap, cur, rfl, hb', rest⟩
  · exact .inl hn
  · exact .inr ⟨g, cap, cur, rfl, Nat.le_trans hb hb', rest⟩
theorem OwnI.nil (k : IntKind) (e : TypeId) (base : Nat) (w : World) : OwnI k e base w (.slice none 0 0) [] := World.ownsRow_nil _ _ _ _
theorem OwnI.empty (k : IntKind) (e : TypeId) (w : World) {base : Nat} (hb : base ≤ w.heap.size) : OwnI k e base (w.alloc (.cells #[] e)) (.slice (some ⟨w.heap.size, 0, none⟩) 0 0) [] :=
  World.ownsRow_lit (base := base) (e := e) (size := 1) w #[] 0 hb (by simp) (by simp)
/-- 'append(s, x...)': integers -/
theorem wpList_append_ints {P : Program} {w : World} {ops : Array Oper} {rest : List Oper} {o : Oper} {a : Act} {Q : Exit → Act → World → Prop} (hgd : o.guard = none) (s x : Operand) (t : TypeId)
    (ho : o.op = .call { callee := .builtin .append, args := #[s, x], argTypes := #[t, t] })
    (e : TypeId) (k : IntKind) (z : Int) (bytes : Nat) (ht : P.underlying t = some (.slice e)) (hinfo : (P.info? e).map (fun i => (i.zero, i.size, i.bytes)) = some (some (.int k z), 1, bytes)) (hby : bytes ≤ 8)
    (w0 : World) (hx0 : Ext w0 w) (v : Value) (l : List Int) (hs : a.eval s = v) (hown : OwnI k e w0.heap.size w v l)
    (y : Value) (m : List Int) (hx : a.eval x = y) (hr : RdI k w y m) (hfit : Fits (l.length + m.length))
    (h : ∀ v' w', OwnI k e w0.heap.size w' v' (l ++ m) → Ext w0 w' → wpList P ops Q rest (a.put o.dst v') w') : wpList P ops Q (o :: rest) a w := by
  obtain ⟨i0, hi, hz0, hz1, hz2⟩ := info_parts hinfo
  have hf := hfit.out
  refine wpList_append_rd hgd s x t ho w0.heap.size e i0 (.int k z) 1 bytes ht hi hz0 hz1 hz2 rfl (by decide) v l.length _ hs hown y m.length _ hx hr cellsOf_one (by unfold maxLen; omega) ?_ hx0.size ?_
  · have : (l.length + m.length) * bytes ≤ 1099511627776 * 8 := Nat.mul_le_mul hf hby
    omega
  · intro v' w' hown' hg
    refine h v' w' ?_ (below_own hx0 hown hg (Nat.le_refl _) hx0.size)
    unfold OwnI
    simpa using hown'
/-- 'append(s, x...)': integers; what else has changed is told too -/
theorem wpList_append_intsg {P : Program} {w : World} {ops : Array Oper} {rest : List Oper} {o : Oper} {a : Act} {Q : Exit → Act → World → Prop} (hgd : o.guard = none) (s x : Operand) (t : TypeId)
    (ho : o.op = .call { callee := .builtin .append, args := #[s, x], argTypes := #[t, t] })
    (e : TypeId) (k : IntKind) (z : Int) (bytes : Nat) (ht : P.underlying t = some (.slice e)) (hinfo : (P.info? e).map (fun i => (i.zero, i.size, i.bytes)) = some (some (.int k z), 1, bytes)) (hby : bytes ≤ 8)
    (w0 : World) (hx0 : Ext w0 w) (v : Value) (l : List Int) (hs : a.eval s = v) (hown : OwnI k e w0.heap.size w v l)
    (y : Value) (m : List Int) (hx : a.eval x = y) (hr : RdI k w y m) (hfit : Fits (l.length + m.length))
    (h : ∀ v' w', OwnI k e w0.heap.size w' v' (l ++ m) → Ext w0 w' → w.grownBy w' v.ownBlock → wpList P ops Q rest (a.put o.dst v') w') : wpList P ops Q (o :: rest) a w := by
  obtain ⟨i0, hi, hz0, hz1, hz2⟩ := info_parts hinfo
  have hf := hfit.out
  refine wpList_append_rd hgd s x t ho w0.heap.size e i0 (.int k z) 1 bytes ht hi hz0 hz1 hz2 rfl (by decide) v l.length _ hs hown y m.length _ hx hr cellsOf_one (by unfold maxLen; omega) ?_ hx0.size ?_
  · have : (l.length + m.length) * bytes ≤ 1099511627776 * 8 := Nat.mul_le_mul hf hby
    omega
  · intro v' w' hown' hg
    refine h v' w' ?_ (below_own hx0 hown hg (Nat.le_refl _) hx0.size) hg
    unfold OwnI
    simpa using hown'
theorem OwnI.lt {k : IntKind} {e : TypeId} {base : Nat} {w : World} {v : Value} {l : List Int} (h : OwnI k e base w v l) : ∀ g, v.ownBlock = some g → base ≤ g ∧ g < w.heap.size := World.ownsRow.lt h
theorem OwnI.grown {k : IntKind} {e : TypeId} {base : Nat} {w w' : World} {v : Value} {l : List Int} {r : Option Nat} (h : OwnI k e base w v l) (hg : w.grownBy w' r) (hr : ∀ g, r = some g → g < base) : OwnI k e base w' v l := by
  refine World.ownsRow.kept h hg ?_
  cases hv : v.ownBlock with
  | none => exact .inl rfl
  | some g =>
    refine .inr fun he => ?_
    have h1 := (h.lt g hv).1
    have h2 := hr g he.symm
    omega
theorem RdI.one (k : IntKind) (w : World) (x : Int) (e : TypeId) : RdI k (w.alloc (.cells #[.int k x] e)) (.slice (some ⟨w.heap.size, 0, none⟩) 1 1) [x] := Rd.one w (.int k x) e
/-- a slice literal of integers, fresh -/
theorem RdI.lit (k : IntKind) (w : World) (l : List Int) (e : TypeId) (hm : l.length ≤ maxLen) : RdI k (w.alloc (.cells (cellsOf k l).toArray e)) (.slice (some ⟨w.heap.size, 0, none⟩) l.length l.length) l := by
  refine ⟨by simp, _, _, rfl, Nat.le_refl _, hm, fun h => (by cases h), fun _ => ⟨w.heap.size, 0, rfl, by simp, fun j u hu => ?_⟩⟩
  simp at hu ⊢
  exact hu
theorem fits_small {n : Nat} (h : n ≤ 100000) : Fits n := by unfold Fits; omega

theorem drop_at {l : List Int} {i : Nat} (h : i < l.length) : l.drop i = l.getD i 0 :: l.drop (i + 1) := by
  rw [List.drop_eq_getElem_cons h]; simp [List.getD, h]
theorem getD_mem {l : List Int} {i : Nat} (h : i < l.length) : l.getD i 0 ∈ l := by
  have : l.getD i 0 = l[i] := by simp [List.getD, h]
  rw [this]; exact List.getElem_mem h
theorem ret3 {a a' b b' c c' : Int} {k1 k2 k3 : IntKind} (h1 : a = a') (h2 : b = b') (h3 : c = c') : Ending.returned (.tuple #[.int k1 a, .int k2 b, .int k3 c]) = .returned (.tuple #[.int k1 a', .int k2 b', .int k3 c']) := by rw [h1, h2, h3]

theorem add_none (b o f : Nat) : (⟨b, o, none⟩ : Addr).add f = ⟨b, o + f, none⟩ := by unfold Addr.add; split <;> simp_all
/-- a piece of a slice of integers -/
theorem RdI.slice {k : IntKind} {w : World} {a : Option Addr} {c : Nat} {l : List Int} (h : RdI k w (.slice a l.length c) l) (f n : Nat) (hfn : f + n ≤ l.length) :
    RdI k w (.slice (if c = f then a else a.map (·.add f)) n (c - f)) ((l.drop f).take n) := by
  obtain ⟨a', c', he, hc, hm, hnil, hs⟩ := h.parts
  simp only [Value.slice.injEq] at he
  obtain ⟨rfl, _, rfl⟩ := he
  have hlen : ((l.drop f).take n).length = n := by simp; omega
  refine ⟨by simp, (if c = f then a else a.map (·.add f)), c - f, by rw [hlen], by rw [hlen]; omega, by omega, fun h0 => ?_, fun h0 => ?_⟩
  · have ha : a = none := by
      by_cases hcf : c = f
      · rw [if_pos hcf] at h0; exact h0
      · rw [if_neg hcf] at h0; simpa using h0
    obtain ⟨rfl, rfl⟩ := hnil ha
    rw [hlen]; simp at hfn; omega
  · rw [hlen] at h0
    have hne : l ≠ [] := by intro h; subst h; simp at hfn; omega
    obtain ⟨b, o, rfl, hb, hcell⟩ := hs hne
    rw [if_neg (by omega)]
    refine ⟨b, o + f, by simp [add_none], hb, fun j u hu => ?_⟩
    rw [List.getElem?_map] at hu
    obtain ⟨y, hy, rfl⟩ := Option.map_eq_some_iff.1 hu
    have hj : j < n := by have := (List.getElem?_eq_some_iff.1 hy).1; omega
    have := hcell (f + j) (by omega)
    rw [Nat.add_assoc, this]
    rw [List.getElem?_take, if_pos hj, List.getElem?_drop] at hy
    simp [List.getD, hy]
theorem RdI.slice_in {k : IntKind} {w : World} {a : Option Addr} {c : Nat} {l : List Int} (h : RdI k w (.slice a l.length c) l) (f n : Nat) (hfn : f + n ≤ l.length) (hcf : ¬ c = f) :
    RdI k w (.slice (a.map (·.add f)) n (c - f)) ((l.drop f).take n) := by
  have := h.slice f n hfn; rwa [if_neg hcf] at this

theorem RdI.take {k : IntKind} {w : World} {a : Option Addr} {c : Nat} {l : List Int} (h : RdI k w (.slice a l.length c) l) (f : Nat) (hf : f ≤ l.length) : RdI k w (.slice a f c) (l.take f) := by
  obtain ⟨a', c', he, hc, hm, hnil, hs⟩ := h.parts
  simp only [Value.slice.injEq] at he
  obtain ⟨rfl, _, rfl⟩ := he
  have hlen : (l.take f).length = f := by simp; omega
  refine ⟨by simp, a, c, by rw [hlen], by rw [hlen]; omega, hm, fun h0 => ?_, fun h0 => ?_⟩
  · obtain ⟨rfl, rfl⟩ := hnil h0
    simp
  · rw [hlen] at h0
    obtain ⟨b, o, rfl, hb, hcell⟩ := hs (by intro h; subst h; simp at hf; omega)
    refine ⟨b, o, rfl, hb, fun j u hu => ?_⟩
    rw [List.getElem?_map] at hu
    obtain ⟨y, hy, rfl⟩ := Option.map_eq_some_iff.1 hu
    have hj : j < f := by have := (List.getElem?_eq_some_iff.1 hy).1; omega
    rw [hcell j (by omega)]
    rw [List.getElem?_take, if_pos hj] at hy
    simp [List.getD, hy]

theorem cell_new (w : World) (cs : Array Value) (e : TypeId) (f : Nat × Nat) {j : Nat} {u : Value} (h : cs[j]? = some u) : (w.alloc (.cells cs e f)).cell? ⟨w.heap.size, j, none⟩ = some u := by
  rw [cell_of_row _ _ j cs e f (heap_alloc_new w _)]; exact h
theorem cell_old {w : World} (x : Obj) {b o : Nat} {u : Value} (h : w.cell? ⟨b, o, none⟩ = some u) : (w.alloc x).cell? ⟨b, o, none⟩ = some u := ((Ext.refl w).alloc x).cellv h
theorem cell_new1 (w : World) (x : Obj) (cs : Array Value) (e : TypeId) (f : Nat × Nat) {j : Nat} {u : Value} (h : cs[j]? = some u) : ((w.alloc x).alloc (.cells cs e f)).cell? ⟨w.heap.size + 1, j, none⟩ = some u := by
  have := cell_new (w.alloc x) cs e f h
  simpa using this
theorem cell_new2 (w : World) (x y : Obj) (cs : Array Value) (e : TypeId) (f : Nat × Nat) {j : Nat} {u : Value} (h : cs[j]? = some u) : (((w.alloc x).alloc y).alloc (.cells cs e f)).cell? ⟨w.heap.size + 2, j, none⟩ = some u := by
  have := cell_new ((w.alloc x).alloc y) cs e f h
  simpa using this

theorem take_succ_eq {l r : List Int} {k : Nat} (hl : l.length = r.length) (hk : k < l.length) (h : l.take k = r.take k) (he : l.getD k 0 = r.getD k 0) : l.take (k + 1) = r.take (k + 1) := by
  rw [List.take_succ_eq_append_getElem hk, List.take_succ_eq_append_getElem (by omega), h]
  simp only [List.getD, List.getElem?_eq_getElem hk, List.getElem?_eq_getElem (show k < r.length by omega), Option.getD_some] at he
  rw [he]

end Go.Proofs.Ythoioocfembkgaa
