/-
  A store's sectors: what they say. No program in sight.
-/
import Derived.Test.YtoadjmeopamgbaaGetText
import Derived.Test.YtoadjmeopamgbaaRawLaw
import Derived.Test.YtoadjmeopamgbaaDisk
namespace Go.Proofs.Ytoadjmeopamgbaa

/-- a shape -/
structure Sh where
  b : Nat
  s : Nat
  c : Nat
  k : Nat
structure Sh.Ok (h : Sh) : Prop where
  b1 : 1 ≤ h.b
  b2 : h.b ≤ 32
  s1 : 1 ≤ h.s
  s2 : h.s ≤ 16
  c1 : 1 ≤ h.c
  c2 : h.c ≤ 4
  k1 : 1 ≤ h.k
  k2 : h.k ≤ 4
def Sh.many (h : Sh) : Nat := 1 + h.b + h.c * h.k
theorem Sh.Ok.ck {h : Sh} (o : h.Ok) : h.c * h.k ≤ 16 := Nat.le_trans (Nat.mul_le_mul o.c2 o.k2) (by decide)
theorem Sh.Ok.many {h : Sh} (o : h.Ok) : h.many ≤ 49 := by have := o.ck; have := o.b2; unfold Sh.many; omega

/-! ### readers: a place, and whether nothing was wrong -/
/-- how it is behind a number -/
def rdNum (B : List Int) (r : Int × Bool) : Int × (Int × Bool) := if r.2 then ((getN B r.1).1, ((getN B r.1).2.1, decide ((getN B r.1).2.2 = 0))) else (0, r)
def rdAll (B : List Int) (r : Int × Bool) : Nat → (Int × Bool)
  | 0 => r
  | k + 1 => (rdNum B (rdAll B r k)).2
def rdVal (B : List Int) (r : Int × Bool) (k : Nat) : Int := (rdNum B (rdAll B r k)).1
/-- a text, to the end -/
def rdText (B : List Int) (r : Int × Bool) (n : Int) : List Int × Bool := if r.2 then ((getT B r.1 n).1, decide ((getT B r.1 n).2.2 = 0 ∧ ((getT B r.1 n).1.length : Int) = n ∧ (getT B r.1 n).2.1 = B.length)) else ([], false)
end Go.Proofs.Ytoadjmeopamgbaa
