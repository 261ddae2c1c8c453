/- The arguments of the standing laws, opened: a slice of games. -/
import Derived.Test.YtjgnjahnfglbaaaStA
import Derived.Test.YtjgnjahnfglbaaaOpen
import Derived.Test.YtjgnjahnfglbaaaOpenI
namespace Go.Proofs.Ytjgnjahnfglbaaa
open Go.ChangeShapes Go.WideShapes Go.ChangeAt Go.RowKit Go.Deep
set_option linter.unusedVariables false

theorem flatG_len (gs : List GameZ) : (flatG gs).length = gs.length * 3 := by
  induction gs with
  | nil => rfl
  | cons g t ih =>
    have e : flatG (g :: t) = [.int .i64 g.fst, .int .i64 g.snd, .int .i64 g.pts] ++ flatG t := rfl
    rw [e, List.length_append, ih, List.length_cons]
    simp; omega

section
variable {H : Type} {enc : TypeId × Value → H} {P : Program} {W : World} {r : Reach} {base : Nat} {t e : TypeId} {v : Value} {d : DataW H} {p : List MemPlace}

theorem open_RdG {fs : Array Field} (hu : P.underlying t = some (.slice e)) (he : P.underlying e = some (.struct fs)) (hone : oneCellFields P fs = true) (h3 : fs.size = 3) (hC : P.cellsOf e = fs.size) {ti : TypeId} (hall : (fs.all fun f => f.type == ti) = true) (hti : P.underlying ti = some (.int .i64)) (hv : Value.okWide P W r base t v)
    (h : DataW.Trod enc P W 0 (fun _ => true) true t v d p) : ∃ gs, RdG W v gs := by
  obtain ⟨fuel, hf⟩ := h
  rcases okWide_spot hu hv with ⟨_, rfl, _⟩ | ⟨g, o, len, cap, rfl⟩
  · exact ⟨[], Rd.nil _ _⟩
  · rcases open_rows hu he hone hC hall hti hf with hcs | ⟨a, len', cap', hcs, hl, hm, hcell⟩
    · simp [Value.cells] at hcs
    · simp [Value.cells] at hcs
      obtain ⟨rfl, rfl, rfl⟩ := hcs
      refine ⟨(List.range len).map fun i => ⟨cellInt W ⟨g, o + i * 3, none⟩, cellInt W ⟨g, o + i * 3 + 1, none⟩, cellInt W ⟨g, o + i * 3 + 2, none⟩⟩, ?_, .inr ⟨g, o, cap, by simp, by simpa using hl, hm, fun i hi => ?_⟩⟩
      · rw [flatG_len]
      · simp only [List.length_map, List.length_range] at hi
        rw [h3] at hcell
        obtain ⟨k, m, hm3, rfl⟩ : ∃ k m, m < 3 ∧ i = k * 3 + m := ⟨i / 3, i % 3, by omega, by omega⟩
        have hk : k < len := by omega
        have q := (hcell k hk m (by omega)).1
        rw [add_none] at q
        rw [q]
        obtain ⟨q0, q1, q2⟩ := flatG_at ((List.range len).map fun i => (⟨cellInt W ⟨g, o + i * 3, none⟩, cellInt W ⟨g, o + i * 3 + 1, none⟩, cellInt W ⟨g, o + i * 3 + 2, none⟩⟩ : GameZ)) k (by simpa using hk)
        have hm4 : m = 0 ∨ m = 1 ∨ m = 2 := by omega
        rcases hm4 with rfl | rfl | rfl
        · rw [Nat.add_zero, q0]; simp
        · rw [q1]; simp [Nat.add_assoc]
        · rw [q2]; simp [Nat.add_assoc]
end
end Go.Proofs.Ytjgnjahnfglbaaa
