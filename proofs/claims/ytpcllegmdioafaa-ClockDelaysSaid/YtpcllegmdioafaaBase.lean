/- Small laws that the walks of this seat share: an element of an array by value. -/
import Derived.WalkKit
import Derived.ProofKit
import Derived.ChangeKeysEq
namespace Go.Proofs.Ytpcllegmdioafaa
open Go.RowKit

/-- 'a[i]' of an array by value whose elements are one plain cell each. -/
theorem run_index_arr {P : Program} {t e n : Nat} (cs : Array Value) (i : Int) (v : Value) (w : World) (h : P.underlying t = some (.array n e))
    (he : P.plainKey e = true) (hs : (sizeOf e).run P w = .ok 1 w) (h0 : 0 ≤ i) (h1 : i < n) (hx : cs[i.toNat]? = some v) :
    (Instr.index t (.agg cs) (.int .i64 i)).run P w = .ok v w := by
  have hk : 0 ≤ i ∧ i < (n : Int) := ⟨h0, h1⟩
  have hp := run_part_plain (P := P) (w := w) (e := e) he hx
  simp only [part] at hp
  simp [Instr.index, run_underlying h, asIntOf, hk, hs, go_sem]
  simpa [part] using hp
end Go.Proofs.Ytpcllegmdioafaa
