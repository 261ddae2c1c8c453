/- Boxes: more. -/
import Derived.Test.YtnieifdogllbfaaBox
import Derived.Test.YtnieifdogllbfaaEngBegin
namespace Go.Proofs.Ytnieifdogllbfaa
open Go.ChangeShapes Go.WideShapes Go.ChangeAt Go.RowKit
set_option linter.unusedVariables false
theorem Box.new' (w : World) (b : Nat) (cs : List Value) (t : TypeId) (h : w.heap.size = b) : Box (w.alloc (.cells cs.toArray t)) b cs t := by subst h; exact Box.new w cs t
theorem RdI.alloc' {w : World} {v : Value} {zs : List Int} (h : RdI w v zs) (o : Obj) : RdI (w.alloc o) v zs := h.below ((Below.refl _ _).alloc (Nat.le_refl _) _) (Nat.le_refl _)
theorem below_drew' {B : Nat} {w W : World} (h : Below B w W) : Below B w W.drew := below_drewN h 1
/-- the cell of an element. -/
theorem cells_rd {w : World} {a : Option Addr} {c : Nat} {zs : List Int} (h : RdI w (.slice a zs.length c) zs) (hn : 0 < zs.length) : ∃ g o, a = some ⟨g, o, none⟩ ∧ ∀ i, i < zs.length → w.cell? ⟨g, o + i, none⟩ = some (.int .i64 (zs.getD i 0)) := by
  obtain ⟨g, o, c', e, _, _, _, h4⟩ := h.some hn
  simp only [Value.slice.injEq] at e
  exact ⟨g, o, e.1, h4⟩
end Go.Proofs.Ytnieifdogllbfaa
