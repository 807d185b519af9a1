/-
  math/bits.Len of a small number. No condition but that it is below 256.
-/
import Derived.Test.YtibcfmnkpemieaaRows
import Derived.Test.YtibcfmnkpemieaaMem
import Derived.Lib.BitFns
import Derived.Lib.Strings
import Derived.Lib.Slices
import Derived.Lib.Small
import Derived.Lib.Walk
namespace Go.Proofs.Ytibcfmnkpemieaa
open Go.RowKit

set_option maxRecDepth 100000 in
set_option maxHeartbeats 4000000 in
theorem blen64 (x : Int) (w : World) (h0 : 0 ≤ x) (h1 : x ≤ 255) :
    Calls Try.prog 84 #[.int .u64 x] w fun e w' => e = .returned (.int .i64 (Lib.bitLen x.toNat)) ∧ w = w' := by
  go_enter Try.func84, Try.ntmps84
  go_wp2
  go_ret
  have l := Lib.bitLen_le8' x h0 h1
  have k : RowKit.wrap64 (RowKit.wrap64 (Lib.len8 x)) = (Lib.bitLen x.toNat : Int) := by
    rw [Lib.len8_of x h0 h1]
    unfold RowKit.wrap64
    omega
  refine ⟨?_, rfl⟩
  rw [← k]
  rfl
theorem blen (x : Int) (w : World) (h0 : 0 ≤ x) (h1 : x ≤ 255) :
    Calls Try.prog 80 #[.int .u64 x] w fun e w' => e = .returned (.int .i64 (Lib.bitLen x.toNat)) ∧ w = w' := by
  go_enter Try.func80, Try.ntmps80
  go_wp2_with fail
  refine (blen64 x _ h0 h1).mono ?_
  rintro e w1 ⟨rfl, rfl⟩
  go_wp2_with fail
  go_ret
  exact ⟨rfl, rfl⟩
end Go.Proofs.Ytibcfmnkpemieaa
