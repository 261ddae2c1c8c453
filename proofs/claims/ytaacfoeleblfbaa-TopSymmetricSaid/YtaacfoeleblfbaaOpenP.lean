/- A position that came in. -/
import Derived.Test.YtaacfoeleblfbaaOpenR
namespace Go.Proofs.Ytaacfoeleblfbaa
open Go.ChangeShapes Go.WideShapes Go.ChangeAt Go.RowKit Go.Deep
set_option linter.unusedVariables false
section
variable {H : Type} {enc : TypeId × Value → H} {w : World}
theorem fld {P : Program} {base : Nat} {spare : Nat → Bool} {held : Bool} {fs : Array Field} {n : Nat} {cs : List Value} {xs : List (DataW H × List MemPlace)}
    (hf : ∀ (i : Nat) (f : Field), fs[i]? = some f → DataW.trod enc P w base spare held n f.type ((cs.drop f.offset).take (P.cellsOf f.type)) = xs[i]?) (i o k : Nat) (ti : TypeId)
    (h : (fs[i]?.map fun f => (f.offset, f.type)) = some (o, ti)) (hk : P.cellsOf ti = k) : DataW.trod enc P w base spare held n ti ((cs.drop o).take k) = xs[i]? := by
  simp only [Option.map_eq_some_iff, Prod.mk.injEq] at h
  obtain ⟨f, hi, rfl, rfl⟩ := h
  have := hf i f hi
  rw [hk] at this
  exact this
set_option maxRecDepth 100000 in
theorem open_P {r : Reach} {base : Nat} {v : Value} {d : DataW H} {p : List MemPlace} (hv : Value.okWide Try.prog w r base 29 v) (h : DataW.Trod enc Try.prog w 0 (fun _ => true) true 29 v d p) :
    ∃ (p : PosZ) (vc v0 v1 : Value), v = posV p vc v0 v1 ∧ RdP w p vc v0 v1 := by
  obtain ⟨cs, rfl, hl, hcell⟩ := okWide_cells (ts := [23, 23, 23, 3, 3]) Try.underlying29 (by kernel_rfl) (by kernel_rfl) hv
  obtain ⟨fuel, hf⟩ := h
  simp only [Value.cells] at hf
  obtain ⟨xs, n, _, _, _, hxl, hf⟩ := DataW.trod_struct Try.underlying29 hf
  obtain ⟨a, b, c, d, e, rfl⟩ : ∃ a b c d e, cs = [a, b, c, d, e] := by
    match cs, hl with
    | [a, b, c, d, e], _ => exact ⟨a, b, c, d, e, rfl⟩
  have hx : xs.length = 4 := hxl
  obtain ⟨y0, y1, y2, y3, rfl⟩ : ∃ a b c d, xs = [a, b, c, d] := by
    match xs, hx with
    | [a, b, c, d], _ => exact ⟨a, b, c, d, rfl⟩
  have f0 := fld hf 0 0 1 23 (by kernel_rfl) (by kernel_rfl)
  have f1 := fld hf 1 1 2 27 (by kernel_rfl) (by kernel_rfl)
  have f2 := fld hf 2 3 1 3 (by kernel_rfl) (by kernel_rfl)
  have f3 := fld hf 3 4 1 3 (by kernel_rfl) (by kernel_rfl)
  obtain ⟨n0, e0, -, -⟩ := DataW.trod_int Try.underlying3 f2
  obtain ⟨n1, e1, -, -⟩ := DataW.trod_int Try.underlying3 f3
  simp at e0 e1
  subst e0 e1
  obtain ⟨u, hu, hc0⟩ := hcell 0 a rfl
  simp at hu
  subst hu
  obtain ⟨u, hu, hc1⟩ := hcell 1 b rfl
  simp at hu
  subst hu
  obtain ⟨u, hu, hc2⟩ := hcell 2 c rfl
  simp at hu
  subst hu
  obtain ⟨zs, hz⟩ := open_ints_cell Try.underlying23 Try.underlying3 (by kernel_rfl) hc0 (by simpa using f0)
  obtain ⟨ys, m, _, _, _, hyl, hg⟩ := DataW.trod_array Try.underlying27 f1
  have c1 : Try.prog.cellsOf 23 = 1 := by kernel_rfl
  have g0 := hg 0 (by decide)
  have g1 := hg 1 (by decide)
  rw [c1] at g0 g1
  obtain ⟨z0, z1, rfl⟩ : ∃ a b, ys = [a, b] := by
    match ys, hyl with
    | [a, b], _ => exact ⟨a, b, rfl⟩
  obtain ⟨zs1, hz1⟩ := open_ints_cell Try.underlying23 Try.underlying3 (by kernel_rfl) hc1 (by simpa using g0)
  obtain ⟨zs2, hz2⟩ := open_ints_cell Try.underlying23 Try.underlying3 (by kernel_rfl) hc2 (by simpa using g1)
  exact ⟨⟨zs, zs1, zs2, n0, n1⟩, a, b, c, rfl, hz, hz1, hz2⟩
end
end Go.Proofs.Ytaacfoeleblfbaa
