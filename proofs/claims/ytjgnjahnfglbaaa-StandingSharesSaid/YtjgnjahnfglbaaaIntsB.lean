/- Slices of integers: lists of cells. -/
import Derived.Test.YtjgnjahnfglbaaaRows
import Derived.Test.YtjgnjahnfglbaaaRd
import Derived.WalkKit
import Derived.ProofKit
import Derived.OpenShut
import Derived.LoopTactic
import Derived.Outline
import Derived.Lib.Hide
import Derived.Handy
import Derived.WalkSpells
import Derived.WalkSmall
namespace Go.Proofs.Ytjgnjahnfglbaaa
open Go.ChangeShapes Go.WideShapes Go.ChangeAt Go.RowKit
set_option linter.unusedVariables false

theorem info3 : (Try.prog.info? 3).map (fun i => (i.zero, i.size, i.bytes)) = some (some (.int .i64 0), 1, 8) := by kernel_rfl
def ints (l : List Int) : List Value := l.map (Value.int .i64)
theorem ints_len (l : List Int) : (ints l).length = l.length := by simp [ints]
theorem ints_get (l : List Int) (i : Nat) (h : i < l.length) : (ints l)[i]? = some (.int .i64 (l.getD i 0)) := by
  simp [ints, List.getD, List.getElem?_eq_getElem h]
theorem ints_cell1 (l : List Int) : ∀ u ∈ ints l, u.oneCell' = true := by
  intro u hu
  simp only [ints, List.mem_map] at hu
  obtain ⟨a, _, rfl⟩ := hu
  rfl
theorem made_ints (n : Nat) : (madeCells (Value.cells (.int .i64 0)) (n * 1)).toList = ints (List.replicate n 0) := by
  apply List.ext_getElem
  · simp [madeCells, ints]
  · intro i h1 h2
    simp [madeCells, ints, Value.cells, Nat.mod_one]
theorem ints_set (l : List Int) (i : Nat) (d : Int) : (ints l).set i (.int .i64 d) = ints (l.set i d) := by
  unfold ints; rw [List.map_set]

/-- a slice of integers that is read. -/
def RdI (w : World) (v : Value) (zs : List Int) : Prop := Rd w 1 zs.length v (ints zs)
theorem RdI.below {w w' : World} {v : Value} {zs : List Int} {B : Nat} (h : RdI w v zs) (hb : Below B w w') (hB : w.heap.size ≤ B) : RdI w' v zs := Rd.below h hb hB
theorem RdI.form {w : World} {v : Value} {zs : List Int} (h : RdI w v zs) : ∃ a c, v = .slice a zs.length c ∧ zs.length ≤ c ∧ c ≤ maxLen := by
  rcases h.2 with ⟨⟨a, c, h, hm⟩, hz⟩ | ⟨g, o, c, h, h1, h2, _⟩
  · exact ⟨a, c, by rw [h, hz], by omega, hm⟩
  · exact ⟨_, _, h, h1, h2⟩
theorem RdI.some {w : World} {v : Value} {zs : List Int} (h : RdI w v zs) (hn : 0 < zs.length) : ∃ g o c, v = .slice (some ⟨g, o, none⟩) zs.length c ∧ zs.length ≤ c ∧ c ≤ maxLen ∧ g < w.heap.size ∧ ∀ i, i < zs.length → w.cell? ⟨g, o + i, none⟩ = some (.int .i64 (zs.getD i 0)) := by
  rcases h.2 with ⟨h, hz⟩ | ⟨g, o, c, h', h1, h2, hc⟩
  · omega
  · refine ⟨g, o, c, h', h1, h2, ?_, fun i hi => ?_⟩
    · have := hc 0 (by omega)
      rw [ints_get zs 0 hn] at this
      exact World.block_lt_of_cell? w _ this
    · rw [hc i (by omega), ints_get zs i hi]

theorem own_some {w : World} {base : Nat} {e : TypeId} {size : Nat} {v : Value} {n : Nat} {xs : List Value} (h : w.ownsRow base e size v n xs) (hn : 0 < n) : ∃ g c, v = .slice (some ⟨g, 0, none⟩) n c := by
  rcases h.2 with ⟨_, h0⟩ | ⟨g, c, _, h, _⟩
  · omega
  · exact ⟨g, c, h⟩
theorem own_base {w : World} {b b' : Nat} {e : TypeId} {sz n : Nat} {v : Value} {xs : List Value} (h : w.ownsRow b e sz v n xs) (hb : b' ≤ b) : w.ownsRow b' e sz v n xs := by
  refine ⟨h.1, ?_⟩
  rcases h.2 with h0 | ⟨g, c, cur, hv, hg, r⟩
  · exact .inl h0
  · exact .inr ⟨g, c, cur, hv, by omega, r⟩
theorem own_stays {w w' : World} {b : Nat} {e : TypeId} {sz n : Nat} {v : Value} {xs : List Value} (h : w.ownsRow b e sz v n xs) (hb : Below w.heap.size w w') : w'.ownsRow b e sz v n xs :=
  h.kept (row := none) ⟨hb.os, hb.tape, hb.output, hb.size, fun k hk _ => hb.block k hk⟩ (by rcases h.2 with ⟨rfl, _⟩ | ⟨g, c, cur, rfl, _⟩ <;> simp [Value.ownBlock])
theorem RdI.of_own {w : World} {b : Nat} {v : Value} {zs : List Int} (h : w.ownsRow b 3 1 v zs.length (ints zs)) : RdI w v zs := Rd.of_own h
/-- two cells of an own row are written. -/
theorem own_two {w : World} {b G c i j : Nat} {zs : List Int} {x y : Int} (h : w.ownsRow b 3 1 (.slice (some ⟨G, 0, none⟩) zs.length c) zs.length (ints zs)) :
    ((w.setCell ⟨G, i, none⟩ (.int .i64 x)).setCell ⟨G, j, none⟩ (.int .i64 y)).ownsRow b 3 1 (.slice (some ⟨G, 0, none⟩) zs.length c) zs.length (ints ((zs.set i x).set j y)) := by
  have h1 := (h.stored i (.int .i64 x)).1
  have h2 := (h1.stored j (.int .i64 y)).1
  rw [ints_set, ints_set] at h2
  exact h2

end Go.Proofs.Ytjgnjahnfglbaaa
